
/- FnNumber: numbers lead back to digits: the walk. -/
import Derived.Test.YtmakekolaclgnaaDoorDrawD
namespace Go.Proofs.YtmakekolaclgnaaDoor
set_option linter.unusedVariables false
open Go.RowKit
set_option maxRecDepth 100000 in
set_option maxHeartbeats 1600000 in
theorem mainNumber (a0 : Option Addr) (n0 c0 : Nat) (z0 : List Int) (w : World) (hgl : GL w) (hd0 : Rb w w.heap.size a0 n0 z0) (hk0 : n0 ≤ c0) : Calls Tryd.prog 6 #[.slice a0 n0 c0] w (RetB w true) := by
  by_cases big : 1048576 < n0
  · go_enter Tryd.func6, Tryd.ntmps6
    go_wp2_with fail
    go_ret
    exact ⟨rfl, Below.refl _ _⟩
  have HG := Lib.hid hgl
  clear hgl
  go_enter Tryd.func6, Tryd.ntmps6
  go_wp2_with fail
  refine (drawPanNumber_any _ _ _ _ _ hd0 hk0).mono ?_
  rintro e w1 ⟨A, n, c, X, rfl, ho, hn, hb1⟩
  have D := Lib.hid ho.rd
  have BB := Lib.hid hb1
  have hl := ho.len
  have KI : Hid (∀ w2 : World, Below w.heap.size w w2 → Rd w2 w2.heap.size A n X → Calls Tryd.prog 10 #[.slice A n c] w2 (RetIB w2 (nmv X) (dgOk X))) := Lib.hid fun w2 hb hr => implPanNumber_any A n c X w2 hr (by omega) (HG.out.below hb) _ rfl
  have KS : Hid (∀ w2 : World, Rd w2 w2.heap.size A n X → Calls Tryd.prog 8 #[.slice A n c] w2 (RetIB w2 (nmv X) (dgOk X))) := Lib.hid fun w2 hr => specPanNumber_any A n c X w2 hr (by omega) _ rfl
  obtain ⟨x1, x2⟩ := nmv_bound X
  have hD : dgOk X = true → Dg.dg (nmv X) = X := fun h => by
    unfold nmv
    rw [if_pos h]
    exact Dg.dg_nm X (dgOk_true h).2 (dgOk_last0 h)
  generalize nmv X = x at *
  generalize dgOk X = ok at *
  have hxx : (x != x) = false := by simp
  have hxe : (x == x) = true := by simp
  clear ho hb1 hd0
  cases ok with
  | false =>
    clear hD
    go_wp2_with fail
    refine (KI.out w1 BB.out D.out).mono ?_
    rintro e w2 ⟨rfl, hb⟩
    have D_ := Lib.hid (D.out.below hb).lt; clear D; have D := D_; clear D_
    have BB_ := Lib.hid (BB.out.trans (hb.mono BB.out.size)); clear BB; have BB := BB_; clear BB_ hb
    go_wp2_with fail
    refine (KS.out w2 D.out).mono ?_
    rintro e w3 ⟨rfl, hb⟩
    have D_ := Lib.hid (D.out.below hb).lt; clear D; have D := D_; clear D_
    have BB_ := Lib.hid (BB.out.trans (hb.mono BB.out.size)); clear BB; have BB := BB_; clear BB_ hb
    go_wp2_with fail
    go_ret
    exact ⟨rfl, BB.out⟩
  | true =>
    have HD := Lib.hid (hD rfl)
    clear hD
    go_wp2_with fail
    refine (KI.out w1 BB.out D.out).mono ?_
    rintro e w2 ⟨rfl, hb⟩
    have D_ := Lib.hid (D.out.below hb).lt; clear D; have D := D_; clear D_
    have BB_ := Lib.hid (BB.out.trans (hb.mono BB.out.size)); clear BB; have BB := BB_; clear BB_ hb
    go_wp2_with fail
    refine (KS.out w2 D.out).mono ?_
    rintro e w3 ⟨rfl, hb⟩
    have D_ := Lib.hid (D.out.below hb).lt; clear D; have D := D_; clear D_
    have BB_ := Lib.hid (BB.out.trans (hb.mono BB.out.size)); clear BB; have BB := BB_; clear BB_ hb
    go_wp2_with fail
    refine (implPanDigits_yes x w3 ⟨by omega, by omega⟩).mono ?_
    rintro e w4 ⟨A2, n2, c2, rfl, ho, hb⟩
    rw [HD.out] at ho
    have hl2 := ho.len
    obtain rfl : n2 = n := by omega
    have O2 := Lib.hid ho.rd
    have D2 := Lib.hid (D.out.below hb).lt
    have BB2 := Lib.hid (BB.out.trans (hb.mono BB.out.size))
    clear ho hb D BB
    go_wp2_with fail
    refine (sameInts_same _ _ _ _ _ _ _ O2.out D2.out (by omega)).mono ?_
    rintro e w5 ⟨rfl, hb⟩
    have BB3 := Lib.hid (BB2.out.trans (hb.mono BB2.out.size))
    clear hb
    go_wp2_with fail
    go_ret
    exact ⟨rfl, BB3.out⟩
end Go.Proofs.YtmakekolaclgnaaDoor
