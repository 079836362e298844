
/- PowerSum, both packages. -/
import Derived.Test.YtbfpllmoaooadaaPowArr
namespace Go.Proofs.Ytbfpllmoaooadaa
set_option linter.unusedVariables false
open Go.RowKit
theorem Drn.below {w wr : World} (h : Drn w wr) : Below w.heap.size w wr := by
  obtain ⟨q, rfl⟩ := h
  exact below_drewN (Below.refl _ _) q
set_option maxHeartbeats 800000 in
theorem specPowerSum_no (A : Option Addr) (n c : Nat) (xs : List Int) (k : Int) (w : World) (ha : Rd w w.heap.size A n xs) (hn : n ≤ 1000000000) (h : pIn xs = false ∨ ¬ (0 ≤ k ∧ k ≤ 6)) :
    Calls Try.prog 29 #[.slice A n c, .int .i64 k] w (RetIB w 0 false) := by
  have HA := Lib.hid ha
  clear ha
  by_cases hp : pIn xs = false
  · have HP := Lib.hid hp
    clear hp h
    go_enter Try.func29, Try.ntmps29
    go_wp2_with fail
    refine (specPowerIn_any _ _ _ _ _ HA.out hn _ HP.out).mono ?_
    rintro e w1 ⟨rfl, hq⟩
    have HQ : Hid (Drn w w1) := Lib.hid hq
    clear hq
    go_wp2_with fail
    go_ret2
    exact ⟨rfl, HQ.out.below⟩
  · have HP := Lib.hid (show pIn xs = true by cases h : pIn xs <;> simp_all)
    have HK := Lib.hid (show ¬ (0 ≤ k ∧ k ≤ 6) from h.resolve_left hp)
    clear hp h
    go_enter Try.func29, Try.ntmps29
    go_wp2_with fail
    refine (specPowerIn_any _ _ _ _ _ HA.out hn _ HP.out).mono ?_
    rintro e w1 ⟨rfl, hq⟩
    have HQ : Hid (Drn w w1) := Lib.hid hq
    clear hq
    go_wp2_with fail
    refine (l6In_no _ _ _ _ HK.out).mono ?_
    rintro e w2 ⟨rfl, rfl⟩
    go_wp2_with fail
    go_ret2
    exact ⟨rfl, HQ.out.below⟩
set_option maxHeartbeats 800000 in
theorem specPowerSum_yes (A : Option Addr) (n c : Nat) (xs : List Int) (k : Nat) (w : World) (ha : Rd w w.heap.size A n xs) (h : pIn xs = true) (hk : k ≤ 6) :
    Calls Try.prog 29 #[.slice A n c, .int .i64 k] w (RetIB w (Nw.ps k xs) true) := by
  have hP := pIn_true.1 h
  have hn : n ≤ 8 := by have := ha.len; have := hP.1; omega
  have HX := Lib.hid hP.all
  have HA := Lib.hid ha
  have HP := Lib.hid h
  clear ha h hP
  have k1 : (0 : Int) ≤ (k : Int) := by omega
  have k2 : (k : Int) ≤ 6 := by omega
  go_enter Try.func29, Try.ntmps29
  go_wp2_with fail
  refine (specPowerIn_any _ _ _ _ _ HA.out (by omega) _ HP.out).mono ?_
  rintro e w1 ⟨rfl, hq⟩
  have HQ : Hid (Drn w w1) := Lib.hid hq
  have HA1 := Lib.hid (HQ.out.rd HA.out)
  clear hq
  go_wp2_with fail
  refine (l6In_yes _ _ _ _ k1 k2).mono ?_
  rintro e w2 ⟨rfl, rfl⟩
  go_wp2_with fail
  refine (l6pSum_any _ _ _ _ _ _ HA1.out.lt hn HX.out hk).mono ?_
  rintro e w2 ⟨rfl, rfl⟩
  go_wp2_with fail
  go_ret2
  exact ⟨rfl, HQ.out.below⟩
set_option maxHeartbeats 800000 in
theorem implPowerSum_no (A : Option Addr) (n c : Nat) (xs : List Int) (k : Int) (w : World) (ha : Rd w w.heap.size A n xs) (hn : n ≤ 1000000000) (h : pIn xs = false ∨ ¬ (0 ≤ k ∧ k ≤ 6)) :
    Calls Try.prog 30 #[.slice A n c, .int .i64 k] w (RetIB w 0 false) := by
  have HA := Lib.hid ha
  clear ha
  by_cases hp : pIn xs = false
  · have HP := Lib.hid hp
    clear hp h
    go_enter Try.func30, Try.ntmps30
    go_wp2_with fail
    refine (implPowerIn_any _ _ _ _ _ HA.out hn _ HP.out).mono ?_
    rintro e w1 ⟨rfl, hq⟩
    have HQ : Hid (Drn w w1) := Lib.hid hq
    clear hq
    go_wp2_with fail
    go_ret2
    exact ⟨rfl, HQ.out.below⟩
  · have HP := Lib.hid (show pIn xs = true by cases h : pIn xs <;> simp_all)
    have hk := h.resolve_left hp
    clear hp h
    by_cases k0 : k < 0
    · have d0 : decide (k < 0) = true := decide_eq_true k0
      go_enter Try.func30, Try.ntmps30
      go_wp2_with fail
      refine (implPowerIn_any _ _ _ _ _ HA.out hn _ HP.out).mono ?_
      rintro e w1 ⟨rfl, hq⟩
      have HQ : Hid (Drn w w1) := Lib.hid hq
      clear hq
      go_wp2_with fail
      go_ret2
      exact ⟨rfl, HQ.out.below⟩
    · have d0 : decide (k < 0) = false := decide_eq_false k0
      have d1 : decide (6 < k) = true := decide_eq_true (by omega)
      clear hk
      go_enter Try.func30, Try.ntmps30
      go_wp2_with fail
      refine (implPowerIn_any _ _ _ _ _ HA.out hn _ HP.out).mono ?_
      rintro e w1 ⟨rfl, hq⟩
      have HQ : Hid (Drn w w1) := Lib.hid hq
      clear hq
      go_wp2_with fail
      go_ret2
      exact ⟨rfl, HQ.out.below⟩
set_option maxHeartbeats 1600000 in
theorem implPowerSum_yes (A : Option Addr) (n c : Nat) (xs : List Int) (k : Nat) (w : World) (ha : Rd w w.heap.size A n xs) (h : pIn xs = true) (hk : k ≤ 6) :
    Calls Try.prog 30 #[.slice A n c, .int .i64 k] w (RetIB w (Nw.ps k xs) true) := by
  have hP := pIn_true.1 h
  have hn : n ≤ 8 := by have := ha.len; have := hP.1; omega
  have HX := Lib.hid hP.all
  have HA := Lib.hid ha
  have HP := Lib.hid h
  clear ha h hP
  have d0 : decide ((k : Int) < 0) = false := decide_eq_false (by omega)
  have d1 : decide ((6 : Int) < (k : Int)) = false := decide_eq_false (by omega)
  go_enter Try.func30, Try.ntmps30
  go_wp2_with fail
  refine (implPowerIn_any _ _ _ _ _ HA.out (by omega) _ HP.out).mono ?_
  rintro e w1 ⟨rfl, hq⟩
  have HQ : Hid (Drn w w1) := Lib.hid hq
  have HA1 := Lib.hid (HQ.out.rd HA.out)
  clear hq
  go_wp2_with fail
  refine (powersOf_any _ _ _ _ _ HA1.out.lt hn HX.out).mono ?_
  rintro e w2 ⟨rfl, hb⟩
  have HB := Lib.hid (HQ.out.below.trans (hb.mono HQ.out.below.size))
  clear hb
  have hix : ∀ (f : Nat → Int) (j : Nat), j < 7 → ∀ w : World, (Instr.index 56 (.agg #[.int .i64 (f 0), .int .i64 (f 1), .int .i64 (f 2), .int .i64 (f 3), .int .i64 (f 4), .int .i64 (f 5), .int .i64 (f 6)]) (.int .i64 j)).run Try.prog w = .ok (.int .i64 (f j)) w := by
    intro f j hj w
    rcases (show j = 0 ∨ j = 1 ∨ j = 2 ∨ j = 3 ∨ j = 4 ∨ j = 5 ∨ j = 6 from by omega) with rfl | rfl | rfl | rfl | rfl | rfl | rfl <;> rfl
  have hx0 := hix (fun j => Nw.ps j xs) 0 (by omega)
  have hx1 := hix (fun j => Nw.ps j xs) 1 (by omega)
  have hx2 := hix (fun j => Nw.ps j xs) 2 (by omega)
  have hx3 := hix (fun j => Nw.ps j xs) 3 (by omega)
  have hx4 := hix (fun j => Nw.ps j xs) 4 (by omega)
  have hx5 := hix (fun j => Nw.ps j xs) 5 (by omega)
  have hx6 := hix (fun j => Nw.ps j xs) 6 (by omega)
  clear hix
  simp only [Int.cast_ofNat_Int] at hx0 hx1 hx2 hx3 hx4 hx5 hx6
  unfold agg7
  rcases (show k = 0 ∨ k = 1 ∨ k = 2 ∨ k = 3 ∨ k = 4 ∨ k = 5 ∨ k = 6 from by omega) with rfl | rfl | rfl | rfl | rfl | rfl | rfl
  all_goals
    go_wp2_with fail
    go_ret2
    exact ⟨rfl, HB.out⟩
end Go.Proofs.Ytbfpllmoaooadaa
