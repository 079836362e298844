
/- FnSide: sides are equal to themselves: the walk. -/
import Derived.Test.YtbfpllmoaooadaaPowDegK
import Derived.Test.YtbfpllmoaooadaaDrawP
namespace Go.Proofs.Ytbfpllmoaooadaa
set_option linter.unusedVariables false
open Go.RowKit
set_option maxRecDepth 100000 in
set_option maxHeartbeats 1600000 in
theorem mainSide (a0 : Option Addr) (n0 c0 : Nat) (z0 : List Int) (w : World) (hd0 : Rb w w.heap.size a0 n0 z0) (hk0 : n0 ≤ c0) : Calls Try.prog 11 #[.slice a0 n0 c0] w (RetB w true) := by
  by_cases big : 1048576 < n0
  · go_enter Try.func11, Try.ntmps11
    go_wp2_with fail
    go_ret
    exact ⟨rfl, Below.refl _ _⟩
  have BB := Lib.hid (Below.refl w.heap.size w)
  go_enter Try.func11, Try.ntmps11
  go_wp2_with fail
  refine (drawPowerIn_any _ _ _ _ _ hd0 hk0).mono ?_
  rintro e w1 ⟨A, n, c, xs, rfl, ho, hn, hb⟩
  have BB_ := Lib.hid (BB.out.trans (hb.mono BB.out.size)); clear BB; have BB := BB_; clear BB_ hb
  have R := Lib.hid ho.rd; clear ho
  go_wp2_with fail
  cases hs : pIn xs with
  | false =>
    have HS := Lib.hid hs
    clear hs
    refine ((implPowerIn_any _ _ _ _ _ R.out (by omega) _ HS.out).mono fun _ _ => retB_of_Q).mono ?_
    rintro e w2 ⟨rfl, hb⟩
    have R_ := Lib.hid (R.out.below hb).lt; clear R; have R := R_; clear R_
    have BB_ := Lib.hid (BB.out.trans (hb.mono BB.out.size)); clear BB; have BB := BB_; clear BB_ hb
    go_wp2_with fail
    refine ((specPowerIn_any _ _ _ _ _ R.out (by omega) _ HS.out).mono fun _ _ => retB_of_Q).mono ?_
    rintro e w3 ⟨rfl, hb⟩
    have R_ := Lib.hid (R.out.below hb).lt; clear R; have R := R_; clear R_
    have BB_ := Lib.hid (BB.out.trans (hb.mono BB.out.size)); clear BB; have BB := BB_; clear BB_ hb
    go_wp2_with fail
    go_ret
    exact ⟨rfl, BB.out⟩
  | true =>
    have HS := Lib.hid hs
    have dps : (Nw.ps 0 xs == (n : Int)) = true := by rw [Nw.ps_zero, R.out.len]; simp
    clear hs
    refine ((implPowerIn_any _ _ _ _ _ R.out (by omega) _ HS.out).mono fun _ _ => retB_of_Q).mono ?_
    rintro e w2 ⟨rfl, hb⟩
    have R_ := Lib.hid (R.out.below hb).lt; clear R; have R := R_; clear R_
    have BB_ := Lib.hid (BB.out.trans (hb.mono BB.out.size)); clear BB; have BB := BB_; clear BB_ hb
    go_wp2_with fail
    refine ((specPowerIn_any _ _ _ _ _ R.out (by omega) _ HS.out).mono fun _ _ => retB_of_Q).mono ?_
    rintro e w3 ⟨rfl, hb⟩
    have R_ := Lib.hid (R.out.below hb).lt; clear R; have R := R_; clear R_
    have BB_ := Lib.hid (BB.out.trans (hb.mono BB.out.size)); clear BB; have BB := BB_; clear BB_ hb
    go_wp2_with fail
    refine (implPowerDegree_yes _ _ _ _ _ _ _ _ _ R.out R.out HS.out HS.out 6 (isDeg_self _)).mono ?_
    rintro e w4 ⟨rfl, hb⟩
    have R_ := Lib.hid (R.out.below hb).lt; clear R; have R := R_; clear R_
    have BB_ := Lib.hid (BB.out.trans (hb.mono BB.out.size)); clear BB; have BB := BB_; clear BB_ hb
    go_wp2_with fail
    refine (implPowerSum_yes _ _ _ _ 0 _ R.out HS.out (by omega)).mono ?_
    rintro e w5 ⟨rfl, hb⟩
    have R_ := Lib.hid (R.out.below hb).lt; clear R; have R := R_; clear R_
    have BB_ := Lib.hid (BB.out.trans (hb.mono BB.out.size)); clear BB; have BB := BB_; clear BB_ hb
    go_wp2_with fail
    go_ret
    exact ⟨rfl, BB.out⟩
end Go.Proofs.Ytbfpllmoaooadaa
