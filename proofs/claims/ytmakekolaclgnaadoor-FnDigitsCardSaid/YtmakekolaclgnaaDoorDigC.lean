
/- Lists of digits: what is refused. -/
import Derived.Test.YtmakekolaclgnaaDoorSigns
namespace Go.Proofs.YtmakekolaclgnaaDoor
set_option linter.unusedVariables false
open Go.RowKit
def dgOk (xs : List Int) : Bool := decide (xs.length ≤ 12) && !(decide (0 < xs.length) && xs.getD (xs.length - 1) 0 == 0) && sgOk xs
theorem dgOk_long {xs : List Int} (h : 12 < xs.length) : dgOk xs = false := by
  unfold dgOk; rw [decide_eq_false (by omega)]; rfl
theorem dgOk_last {xs : List Int} (h : 0 < xs.length) (h0 : xs.getD (xs.length - 1) 0 = 0) : dgOk xs = false := by
  unfold dgOk; rw [decide_eq_true h, h0]; simp
theorem dgOk_rest {xs : List Int} (h : xs.length ≤ 12) (h0 : xs.length = 0 ∨ xs.getD (xs.length - 1) 0 ≠ 0) : dgOk xs = sgOk xs := by
  unfold dgOk
  rw [decide_eq_true h]
  rcases h0 with h0 | h0
  · rw [decide_eq_false (by omega)]; simp
  · rw [beq_eq_false_iff_ne.2 h0]; simp
set_option maxHeartbeats 800000 in
theorem checkDigits_any (A : Option Addr) (n c : Nat) (xs : List Int) (w : World) (ha : Rd w w.heap.size A n xs) (hn : n ≤ 1000000000) :
    Calls Tryd.prog 24 #[.slice A n c] w (RetE w (dgOk xs)) := by
  have hl := ha.len
  by_cases h12 : 12 < n
  · have hb := dgOk_long (xs := xs) (by omega)
    rw [hb]
    clear hb
    go_enter Tryd.func24, Tryd.ntmps24
    go_wp2_with fail
    go_ret
    exact ⟨.inr ⟨rfl, _, rfl⟩, (Below.refl _ _).alloc (Nat.le_refl _) _⟩
  · have K := Lib.hid (check_any A n c xs w ha hn)
    rcases Nat.eq_zero_or_pos n with h0 | h0
    · have hb := dgOk_rest (xs := xs) (by omega) (.inl (by omega))
      rw [hb]
      subst h0
      clear hb
      go_enter Tryd.func24, Tryd.ntmps24
      go_wp2_with fail
      refine K.out.mono ?_
      rintro e w2 ⟨hv, hb⟩
      have HB := Lib.hid hb
      rcases hv with ⟨h1, rfl⟩ | ⟨h1, g, rfl⟩
      · clear hb
        go_wp2_with fail
        go_ret
        exact ⟨.inl ⟨h1, rfl⟩, HB.out⟩
      · clear hb
        go_wp2_with fail
        go_ret
        exact ⟨.inr ⟨h1, g, rfl⟩, HB.out⟩
    · obtain ⟨m, rfl⟩ : ∃ m, n = m + 1 := ⟨n - 1, by omega⟩
      obtain ⟨b1, o1, rfl, _, hc1⟩ := ha.at_ h0
      have g1 := hc1 m (by omega)
      have hm : xs.length - 1 = m := by omega
      obtain ⟨x, hx⟩ : ∃ x, xs.getD m 0 = x := ⟨_, rfl⟩
      rw [hx] at g1
      have hwm : IntKind.i64.wrap (((m + 1 : Nat) : Int) - 1) = (m : Int) := by rw [show ((m + 1 : Nat) : Int) - 1 = (m : Int) by omega]; exact IntWalk.i64_in _ (by omega)
      have i1 : (0 : Int) ≤ (m : Int) := by omega
      have i2 : (m : Int) < ((m + 1 : Nat) : Int) := by omega
      have i3 : ((m : Int)).toNat = m := by omega
      have i4 : ((m + 1 : Nat) : Int) > 0 := by omega
      by_cases hx0 : x = 0
      · have hb := dgOk_last (xs := xs) (by omega) (by rw [hm, hx]; exact hx0)
        rw [hb]
        subst hx0
        clear hb hc1 hx ha K hm
        go_enter Tryd.func24, Tryd.ntmps24
        go_wp2_with fail
        go_ret
        exact ⟨.inr ⟨rfl, _, rfl⟩, (Below.refl _ _).alloc (Nat.le_refl _) _⟩
      · have hb := dgOk_rest (xs := xs) (by omega) (.inr (by rw [hm, hx]; exact hx0))
        rw [hb]
        have dx : (x == 0) = false := beq_eq_false_iff_ne.2 hx0
        clear hb hc1 hx ha hm
        go_enter Tryd.func24, Tryd.ntmps24
        go_wp2_with fail
        refine K.out.mono ?_
        rintro e w2 ⟨hv, hb⟩
        have HB := Lib.hid hb
        rcases hv with ⟨h1, rfl⟩ | ⟨h1, g, rfl⟩
        · clear hb
          go_wp2_with fail
          go_ret
          exact ⟨.inl ⟨h1, rfl⟩, HB.out⟩
        · clear hb
          go_wp2_with fail
          go_ret
          exact ⟨.inr ⟨h1, g, rfl⟩, HB.out⟩
end Go.Proofs.YtmakekolaclgnaaDoor
