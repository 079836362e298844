/- FnLoadBound: bounds fall with machines: the walk. -/
import Derived.Test.YthfgejihdhclmaaLoadA
import Derived.Test.YthfgejihdhclmaaDrawL
namespace Go.Proofs.Ythfgejihdhclmaa
set_option linter.unusedVariables false
open Go.RowKit
theorem bnd_mono {xs : List Int} {m : Int} (hs : sumIn xs = true) (h1 : 1 ≤ m) (h2 : m ≤ 4) : bnd xs (m + 1) ≤ bnd xs m := by
  have ht := tt_range hs
  unfold bnd
  have : (tt xs + (m + 1) - 1) / (m + 1) ≤ (tt xs + m - 1) / m := by
    rcases (show m = 1 ∨ m = 2 ∨ m = 3 ∨ m = 4 from by omega) with rfl | rfl | rfl | rfl <;> omega
  omega
theorem bnd_ge (xs : List Int) (m : Int) : Ld.mx xs ≤ bnd xs m := by unfold bnd; omega
set_option maxRecDepth 100000 in
set_option maxHeartbeats 1600000 in
theorem mainLoadBound (a0 : Option Addr) (n0 c0 : Nat) (z0 : List Int) (w : World) (hd0 : Rb w w.heap.size a0 n0 z0) (hk0 : n0 ≤ c0) : Calls Try.prog 7 #[.slice a0 n0 c0] w (RetB w true) := by
  by_cases big : 1048576 < n0
  · go_enter Try.func7, Try.ntmps7
    go_wp2_with fail
    go_ret
    exact ⟨rfl, Below.refl _ _⟩
  have BB := Lib.hid (Below.refl w.heap.size w)
  go_enter Try.func7, Try.ntmps7
  go_wp2_with fail
  refine (drawLoadBound_any _ _ _ _ _ hd0 hk0).mono ?_
  rintro e w1 ⟨A, n, c, xs, m, rfl, ho, hn, m1, m2, hb⟩
  have BB_ := Lib.hid (BB.out.trans (hb.mono BB.out.size)); clear BB; have BB := BB_; clear BB_ hb
  have R := Lib.hid ho.rd; clear ho
  go_wp2_with fail
  cases hs : ldOk xs m with
  | false =>
    have HS := Lib.hid hs
    clear hs
    refine (implLoadBound_no _ _ _ _ _ _ R.out (by omega) HS.out).mono ?_
    rintro e w2 ⟨rfl, hb⟩
    have R_ := Lib.hid (R.out.below hb).lt; clear R; have R := R_; clear R_
    have BB_ := Lib.hid (BB.out.trans (hb.mono BB.out.size)); clear BB; have BB := BB_; clear BB_ hb
    go_wp2_with fail
    refine (specLoadBound_no _ _ _ _ _ _ R.out (by omega) HS.out).mono ?_
    rintro e w3 ⟨rfl, hb⟩
    have R_ := Lib.hid (R.out.below hb).lt; clear R; have R := R_; clear R_
    have BB_ := Lib.hid (BB.out.trans (hb.mono BB.out.size)); clear BB; have BB := BB_; clear BB_ hb
    go_wp2_with fail
    go_ret
    exact ⟨rfl, BB.out⟩
  | true =>
    obtain ⟨h1, h2, h3⟩ := ldOk_true hs
    have HS := Lib.hid hs
    have H1 := Lib.hid h1
    clear hs h1
    refine (implLoadBound_yes _ _ _ _ _ _ R.out HS.out).mono ?_
    rintro e w2 ⟨rfl, hb⟩
    have R_ := Lib.hid (R.out.below hb).lt; clear R; have R := R_; clear R_
    have BB_ := Lib.hid (BB.out.trans (hb.mono BB.out.size)); clear BB; have BB := BB_; clear BB_ hb
    go_wp2_with fail
    refine (specLoadBound_yes _ _ _ _ _ _ R.out HS.out).mono ?_
    rintro e w3 ⟨rfl, hb⟩
    have R_ := Lib.hid (R.out.below hb).lt; clear R; have R := R_; clear R_
    have BB_ := Lib.hid (BB.out.trans (hb.mono BB.out.size)); clear BB; have BB := BB_; clear BB_ hb
    go_wp2_with fail
    by_cases h5 : m = 5
    · subst h5
      refine (implLoadBound_no _ _ _ _ _ _ R.out (by omega) (by simp [ldOk])).mono ?_
      rintro e w4 ⟨rfl, hb⟩
      have R_ := Lib.hid (R.out.below hb).lt; clear R; have R := R_; clear R_
      have BB_ := Lib.hid (BB.out.trans (hb.mono BB.out.size)); clear BB; have BB := BB_; clear BB_ hb
      go_wp2_with fail
      go_ret
      exact ⟨rfl, BB.out⟩
    · have HO : ldOk xs (m + 1) = true := by simp only [ldOk, H1.out, Bool.true_and, decide_eq_true_eq]; omega
      have HO1 := Lib.hid HO
      have hm5 : (m == 5) = false := by simpa using h5
      have hmono := bnd_mono H1.out h2 (by omega)
      have hge := bnd_ge xs (m + 1)
      clear HO h5
      refine (implLoadBound_yes _ _ _ _ _ _ R.out HO1.out).mono ?_
      rintro e w4 ⟨rfl, hb⟩
      have R_ := Lib.hid (R.out.below hb).lt; clear R; have R := R_; clear R_
      have BB_ := Lib.hid (BB.out.trans (hb.mono BB.out.size)); clear BB; have BB := BB_; clear BB_ hb
      go_wp2_with fail
      obtain ⟨x, hx⟩ : ∃ x, bnd xs (m + 1) = x := ⟨_, rfl⟩
      obtain ⟨y, hy⟩ : ∃ x, bnd xs m = x := ⟨_, rfl⟩
      obtain ⟨z, hz⟩ : ∃ x, Ld.mx xs = x := ⟨_, rfl⟩
      have HZ := Lib.hid hz
      rw [hx, hy] at hmono
      rw [hx, hz] at hge
      rw [hx, hy]
      have d1 : decide (x ≤ y) = true := by simpa using hmono
      have d2 : decide (z ≤ x) = true := by simpa using hge
      clear hx hy hz
      refine (greatest_any _ _ _ _ _ R.out (by omega)).mono ?_
      rintro e w5 ⟨rfl, rfl⟩
      rw [HZ.out]
      go_wp2_with fail
      go_ret
      exact ⟨rfl, BB.out⟩
end Go.Proofs.Ythfgejihdhclmaa
