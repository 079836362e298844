
/- spec.LoadWorst. -/
import Derived.Test.YtcfakainajpebaaWorstS
namespace Go.Proofs.Ytcfakainajpebaa
set_option linter.unusedVariables false
open Go.RowKit
/-- The greatest span over all orders. -/
noncomputable def worstF (m : Nat) (xs : List Int) : Int := Classical.epsilon fun v => Wst.IsMax (spanF m) [] xs v
theorem worstF_eq {m : Nat} {xs : List Int} {v : Int} (h : Wst.IsMax (spanF m) [] xs v) : v = worstF m xs :=
  h.one (Classical.epsilon_spec (p := fun v => Wst.IsMax (spanF m) [] xs v) ⟨v, h⟩)
/-- Whether the loads are told, and few. -/
def wok (xs : List Int) (m : Int) : Bool := ldOk xs m && decide (xs.length ≤ 6)
set_option maxHeartbeats 800000 in
theorem specLoadWorst_no (A : Option Addr) (n c : Nat) (xs : List Int) (m : Int) (w : World) (ha : Rd w w.heap.size A n xs) (hn : n ≤ 1000000000) (h : wok xs m = false) :
    Calls Try.prog 4 #[.slice A n c, .int .i64 m] w (RetIB w 0 false) := by
  have hl := ha.len
  by_cases h1 : ldOk xs m = true
  · have h6 : 6 < n := by
      unfold wok at h
      rw [h1, Bool.true_and] at h
      have := of_decide_eq_false h
      omega
    have d6 : (n : Int) > 6 := by omega
    clear h
    go_enter Try.func4, Try.ntmps4
    go_wp2_with (go_at_call 8; refine (l5Given_any _ _ _ _ _ _ ha hn _ h1).mono ?_; rintro e w' ⟨rfl, rfl⟩)
    go_ret2
    exact ⟨rfl, Below.refl _ _⟩
  · have h2 : ldOk xs m = false := by simpa using h1
    clear h h1
    go_enter Try.func4, Try.ntmps4
    go_wp2_with (go_at_call 8; refine (l5Given_any _ _ _ _ _ _ ha hn _ h2).mono ?_; rintro e w' ⟨rfl, rfl⟩)
    go_ret2
    exact ⟨rfl, Below.refl _ _⟩
set_option maxHeartbeats 800000 in
theorem specLoadWorst_yes (A : Option Addr) (n c : Nat) (xs : List Int) (m : Nat) (w : World) (ha : Rd w w.heap.size A n xs) (hc : n ≤ c) (h : wok xs m = true) :
    Calls Try.prog 4 #[.slice A n c, .int .i64 m] w (RetIB w (worstF m xs) true) := by
  have hl := ha.len
  obtain ⟨h1, h6⟩ : ldOk xs m = true ∧ n ≤ 6 := by
    unfold wok at h
    rw [Bool.and_eq_true] at h
    have := of_decide_eq_true h.2
    exact ⟨h.1, by omega⟩
  obtain ⟨hs, hm1, hm2⟩ := ldOk_true h1
  have d6 : ¬ (n : Int) > 6 := by omega
  have HS := Lib.hid hs
  have HA := Lib.hid ha
  have HH := Lib.hid h1
  have HE := Lib.hid (own_empty w)
  have HB := Lib.hid ((Below.refl w.heap.size w).alloc (Nat.le_refl _) (.cells #[] 3))
  clear ha h h1 hs
  go_enter Try.func4, Try.ntmps4
  go_wp2_with (go_at_call 8; refine (l5Given_any _ _ _ _ _ _ HA.out (by omega) _ HH.out).mono ?_; rintro e w' ⟨rfl, rfl⟩)
  refine (l5Worst_any m (by omega) (by omega) n _ _ _ [] _ _ xs _ HE.out.rd ((HA.out.below HB.out).mono HB.out.size) hc (by simpa using HS.out)).mono ?_
  rintro e w1 ⟨v, rfl, hv, hv0, hb⟩
  have e1 := worstF_eq hv
  subst e1
  have HB1 := Lib.hid (HB.out.trans (hb.mono HB.out.size))
  clear hv hb
  go_wp2_with fail
  go_ret2
  exact ⟨rfl, HB1.out⟩
end Go.Proofs.Ytcfakainajpebaa
