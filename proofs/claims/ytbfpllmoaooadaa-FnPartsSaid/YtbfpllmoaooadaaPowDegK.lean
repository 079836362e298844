
/- PowerDegree, both packages. -/
import Derived.Test.YtbfpllmoaooadaaPowDegJ
import Derived.Test.YtbfpllmoaooadaaPowerSum
namespace Go.Proofs.Ytbfpllmoaooadaa
set_option linter.unusedVariables false
open Go.RowKit
set_option maxHeartbeats 800000 in
theorem specPowerDegree_no (A : Option Addr) (n c : Nat) (xs : List Int) (A' : Option Addr) (n' c' : Nat) (ys : List Int) (w : World) (ha : Rd w w.heap.size A n xs) (hn : n ≤ 1000000000) (ha' : Rd w w.heap.size A' n' ys) (hn' : n' ≤ 1000000000) (h : pIn xs = false ∨ pIn ys = false) :
    Calls Try.prog 33 #[.slice A n c, .slice A' n' c'] w (RetIB w 0 false) := by
  have HA := Lib.hid ha
  have HA' := Lib.hid ha'
  clear ha ha'
  by_cases hp : pIn xs = false
  · have HP := Lib.hid hp
    clear hp h
    go_enter Try.func33, Try.ntmps33
    go_wp2_with fail
    refine (specPowerIn_any _ _ _ _ _ HA.out hn _ HP.out).mono ?_
    rintro e w1 ⟨rfl, hq⟩
    have HQ : Hid (Drn w w1) := Lib.hid hq
    clear hq
    go_wp2_with fail
    go_ret2
    exact ⟨rfl, HQ.out.below⟩
  · have HY := Lib.hid (h.resolve_left hp)
    have HP := Lib.hid (show pIn xs = true by cases h : pIn xs <;> simp_all)
    clear hp h
    go_enter Try.func33, Try.ntmps33
    go_wp2_with fail
    refine (specPowerIn_any _ _ _ _ _ HA.out hn _ HP.out).mono ?_
    rintro e w1 ⟨rfl, hq⟩
    have HQ : Hid (Drn w w1) := Lib.hid hq
    have HB := Lib.hid (HQ.out.rd HA'.out).lt
    clear hq
    go_wp2_with fail
    refine (specPowerIn_any _ _ _ _ _ HB.out hn' _ HY.out).mono ?_
    rintro e w2 ⟨rfl, hq⟩
    have HQ2 : Hid (Drn w1 w2) := Lib.hid hq
    clear hq
    go_wp2_with fail
    go_ret2
    exact ⟨rfl, HQ.out.below.trans (HQ2.out.below.mono HQ.out.below.size)⟩
set_option maxHeartbeats 1600000 in
theorem specPowerDegree_yes (A : Option Addr) (n c : Nat) (xs : List Int) (A' : Option Addr) (n' c' : Nat) (ys : List Int) (w : World) (ha : Rd w w.heap.size A n xs) (ha' : Rd w w.heap.size A' n' ys) (h : pIn xs = true) (h' : pIn ys = true) (d : Int) (hd : IsDeg (fun j => Nw.ps j xs) (fun j => Nw.ps j ys) d) :
    Calls Try.prog 33 #[.slice A n c, .slice A' n' c'] w (RetIB w d true) := by
  have hP := pIn_true.1 h
  have hP' := pIn_true.1 h'
  have hn : n ≤ 8 := by have := ha.len; have := hP.1; omega
  have hn' : n' ≤ 8 := by have := ha'.len; have := hP'.1; omega
  have HX := Lib.hid hP.all
  have HY := Lib.hid hP'.all
  have HA := Lib.hid ha
  have HA' := Lib.hid ha'
  have HP := Lib.hid h
  have HP' := Lib.hid h'
  have HD := Lib.hid hd
  clear ha ha' h h' hP hP' hd
  go_enter Try.func33, Try.ntmps33
  go_wp2_with fail
  refine (specPowerIn_any _ _ _ _ _ HA.out (by omega) _ HP.out).mono ?_
  rintro e w1 ⟨rfl, hq⟩
  have HQ : Hid (Drn w w1) := Lib.hid hq
  have HA1 := Lib.hid (HQ.out.rd HA.out).lt
  have HA1' := Lib.hid (HQ.out.rd HA'.out).lt
  clear hq
  go_wp2_with fail
  refine (specPowerIn_any _ _ _ _ _ HA1'.out (by omega) _ HP'.out).mono ?_
  rintro e w2 ⟨rfl, hq⟩
  have HQ2 : Hid (Drn w1 w2) := Lib.hid hq
  have HA2 := Lib.hid (HQ2.out.rd HA1.out).lt
  have HA2' := Lib.hid (HQ2.out.rd HA1'.out).lt
  have HB2 := Lib.hid (HQ.out.below.trans (HQ2.out.below.mono HQ.out.below.size))
  clear hq HA1 HA1' HQ HQ2
  go_wp2_with fail
  refine (l6pDegree_any _ _ _ _ _ _ _ _ _ HA2.out hn HX.out HA2'.out hn' HY.out _ HD.out).mono ?_
  rintro e w3 ⟨rfl, rfl⟩
  go_wp2_with fail
  go_ret2
  exact ⟨rfl, HB2.out⟩
set_option maxHeartbeats 800000 in
theorem implPowerDegree_no (A : Option Addr) (n c : Nat) (xs : List Int) (A' : Option Addr) (n' c' : Nat) (ys : List Int) (w : World) (ha : Rd w w.heap.size A n xs) (hn : n ≤ 1000000000) (ha' : Rd w w.heap.size A' n' ys) (hn' : n' ≤ 1000000000) (h : pIn xs = false ∨ pIn ys = false) :
    Calls Try.prog 34 #[.slice A n c, .slice A' n' c'] w (RetIB w 0 false) := by
  have HA := Lib.hid ha
  have HA' := Lib.hid ha'
  clear ha ha'
  by_cases hp : pIn xs = false
  · have HP := Lib.hid hp
    clear hp h
    go_enter Try.func34, Try.ntmps34
    go_wp2_with fail
    refine (implPowerIn_any _ _ _ _ _ HA.out hn _ HP.out).mono ?_
    rintro e w1 ⟨rfl, hq⟩
    have HQ : Hid (Drn w w1) := Lib.hid hq
    clear hq
    go_wp2_with fail
    go_ret2
    exact ⟨rfl, HQ.out.below⟩
  · have HY := Lib.hid (h.resolve_left hp)
    have HP := Lib.hid (show pIn xs = true by cases h : pIn xs <;> simp_all)
    clear hp h
    go_enter Try.func34, Try.ntmps34
    go_wp2_with fail
    refine (implPowerIn_any _ _ _ _ _ HA.out hn _ HP.out).mono ?_
    rintro e w1 ⟨rfl, hq⟩
    have HQ : Hid (Drn w w1) := Lib.hid hq
    have HB := Lib.hid (HQ.out.rd HA'.out).lt
    clear hq
    go_wp2_with fail
    refine (implPowerIn_any _ _ _ _ _ HB.out hn' _ HY.out).mono ?_
    rintro e w2 ⟨rfl, hq⟩
    have HQ2 : Hid (Drn w1 w2) := Lib.hid hq
    clear hq
    go_wp2_with fail
    go_ret2
    exact ⟨rfl, HQ.out.below.trans (HQ2.out.below.mono HQ.out.below.size)⟩
set_option maxHeartbeats 1600000 in
theorem implPowerDegree_yes (A : Option Addr) (n c : Nat) (xs : List Int) (A' : Option Addr) (n' c' : Nat) (ys : List Int) (w : World) (ha : Rd w w.heap.size A n xs) (ha' : Rd w w.heap.size A' n' ys) (h : pIn xs = true) (h' : pIn ys = true) (d : Int) (hd : IsDeg (fun j => Nw.ps j xs) (fun j => Nw.ps j ys) d) :
    Calls Try.prog 34 #[.slice A n c, .slice A' n' c'] w (RetIB w d true) := by
  have hP := pIn_true.1 h
  have hP' := pIn_true.1 h'
  have hn : n ≤ 8 := by have := ha.len; have := hP.1; omega
  have hn' : n' ≤ 8 := by have := ha'.len; have := hP'.1; omega
  have HX := Lib.hid hP.all
  have HY := Lib.hid hP'.all
  have HA := Lib.hid ha
  have HA' := Lib.hid ha'
  have HP := Lib.hid h
  have HP' := Lib.hid h'
  have HD := Lib.hid hd
  clear ha ha' h h' hP hP' hd
  go_enter Try.func34, Try.ntmps34
  go_wp2_with fail
  refine (implPowerIn_any _ _ _ _ _ HA.out (by omega) _ HP.out).mono ?_
  rintro e w1 ⟨rfl, hq⟩
  have HQ : Hid (Drn w w1) := Lib.hid hq
  have HA1 := Lib.hid (HQ.out.rd HA.out).lt
  have HA1' := Lib.hid (HQ.out.rd HA'.out).lt
  clear hq
  go_wp2_with fail
  refine (implPowerIn_any _ _ _ _ _ HA1'.out (by omega) _ HP'.out).mono ?_
  rintro e w2 ⟨rfl, hq⟩
  have HQ2 : Hid (Drn w1 w2) := Lib.hid hq
  have HA2 := Lib.hid (HQ2.out.rd HA1.out).lt
  have HA2' := Lib.hid (HQ2.out.rd HA1'.out).lt
  have HB2 := Lib.hid (HQ.out.below.trans (HQ2.out.below.mono HQ.out.below.size))
  clear hq HA1 HA1' HQ HQ2
  go_wp2_with fail
  refine (powersOf_any _ _ _ _ _ HA2.out hn HX.out).mono ?_
  rintro e w3 ⟨rfl, hb⟩
  have HA3' := Lib.hid (HA2'.out.below hb).lt
  have HB3 := Lib.hid (HB2.out.trans (hb.mono HB2.out.size))
  clear hb HA2' HA2 HB2
  go_wp2_with fail
  refine (powersOf_any _ _ _ _ _ HA3'.out hn' HY.out).mono ?_
  rintro e w4 ⟨rfl, hb⟩
  have HB4 := Lib.hid (HB3.out.trans (hb.mono HB3.out.size))
  clear hb HB3
  go_wp2_with fail
  refine (degree_any _ _ _ _ HD.out).mono ?_
  rintro e w5 ⟨rfl, hb⟩
  have HB5 := Lib.hid (HB4.out.trans (hb.mono HB4.out.size))
  clear hb HB4
  go_wp2_with fail
  go_ret2
  exact ⟨rfl, HB5.out⟩
/-- The degree of two sides, or 0. -/
theorem isDeg_self (p : Nat → Int) : IsDeg p p 6 := ⟨by omega, by omega, fun j _ => rfl, fun j hj h6 => by omega⟩
end Go.Proofs.Ytbfpllmoaooadaa
