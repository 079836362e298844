
/- FnPanAdd: sums of digits are digits of sums: the walk. -/
import Derived.Test.YtmakekolaclgnaaDoorDrawD
namespace Go.Proofs.YtmakekolaclgnaaDoor
set_option linter.unusedVariables false
open Go.RowKit
theorem sumD_comm (xs ys : List Int) : sumD xs ys = sumD ys xs := by
  unfold sumD
  rw [Bool.and_comm, Int.add_comm]
theorem nmv_sum {xs ys : List Int} (h : (dgOk xs && dgOk ys) = true) (h2 : dgOk (sumD xs ys) = true) : nmv (sumD xs ys) = nmv xs + nmv ys := by
  have e : sumD xs ys = Dg.dg (nmv xs + nmv ys) := by
    unfold sumD
    rw [if_pos h]
  have e2 : nmv (sumD xs ys) = Dg.nm (sumD xs ys) := by
    unfold nmv
    rw [if_pos h2]
  rw [e2, e, Dg.nm_dg]
set_option maxRecDepth 100000 in
set_option maxHeartbeats 3200000 in
theorem mainPanAdd (a0 : Option Addr) (n0 c0 : Nat) (z0 : List Int) (w : World) (hgl : GL w) (hd0 : Rb w w.heap.size a0 n0 z0) (hk0 : n0 ≤ c0) : Calls Tryd.prog 7 #[.slice a0 n0 c0] w (RetB w true) := by
  by_cases big : 1048576 < n0
  · go_enter Tryd.func7, Tryd.ntmps7
    go_wp2_with fail
    go_ret
    exact ⟨rfl, Below.refl _ _⟩
  have HG := Lib.hid hgl
  clear hgl
  go_enter Tryd.func7, Tryd.ntmps7
  go_wp2_with fail
  refine (drawPanAdd_any _ _ _ _ _ hd0 hk0).mono ?_
  rintro e w1 ⟨A, n, c, X, A', n', c', Y, rfl, ho, ho', hn, hn', hb1⟩
  have D := Lib.hid ho.rd
  have E := Lib.hid ho'.rd
  have BB := Lib.hid hb1
  have KI : Hid (∀ w2 : World, Below w.heap.size w w2 → Rd w2 w2.heap.size A n X → Rd w2 w2.heap.size A' n' Y → Calls Tryd.prog 17 #[.slice A n c, .slice A' n' c'] w2 (RetOwnB w2 (sumD X Y) (dgOk X && dgOk Y))) := Lib.hid fun w2 hb hr hr' => implPanAdd_any A n c X A' n' c' Y w2 hr hr' (by omega) (by omega) (HG.out.below hb)
  have KS : Hid (∀ w2 : World, Rd w2 w2.heap.size A n X → Rd w2 w2.heap.size A' n' Y → Calls Tryd.prog 16 #[.slice A n c, .slice A' n' c'] w2 (RetOwnB w2 (sumD X Y) (dgOk X && dgOk Y))) := Lib.hid fun w2 hr hr' => specPanAdd_any A n c X A' n' c' Y w2 hr hr' (by omega) (by omega)
  have KB : Hid (∀ w2 : World, Below w.heap.size w w2 → Rd w2 w2.heap.size A n X → Rd w2 w2.heap.size A' n' Y → Calls Tryd.prog 17 #[.slice A' n' c', .slice A n c] w2 (RetOwnB w2 (sumD X Y) (dgOk X && dgOk Y))) := Lib.hid fun w2 hb hr hr' => by
    rw [sumD_comm, Bool.and_comm]
    exact implPanAdd_any A' n' c' Y A n c X w2 hr' hr (by omega) (by omega) (HG.out.below hb)
  have K1 : Hid (∀ w2 : World, Below w.heap.size w w2 → Rd w2 w2.heap.size A n X → Calls Tryd.prog 10 #[.slice A n c] w2 (RetIB w2 (nmv X) (dgOk X))) := Lib.hid fun w2 hb hr => implPanNumber_any A n c X w2 hr (by omega) (HG.out.below hb) _ rfl
  have K2 : Hid (∀ w2 : World, Below w.heap.size w w2 → Rd w2 w2.heap.size A' n' Y → Calls Tryd.prog 10 #[.slice A' n' c'] w2 (RetIB w2 (nmv Y) (dgOk Y))) := Lib.hid fun w2 hb hr => implPanNumber_any A' n' c' Y w2 hr (by omega) (HG.out.below hb) _ rfl
  have K3 : Hid (∀ (w2 : World) (A3 : Option Addr) (n3 c3 : Nat), n3 ≤ 13 → Below w.heap.size w w2 → Rd w2 w2.heap.size A3 n3 (sumD X Y) → Calls Tryd.prog 10 #[.slice A3 n3 c3] w2 (RetIB w2 (nmv (sumD X Y)) (dgOk (sumD X Y)))) := Lib.hid fun w2 A3 n3 c3 h3 hb hr => implPanNumber_any A3 n3 c3 _ w2 hr (by omega) (HG.out.below hb) _ rfl
  obtain ⟨x1, x2⟩ := nmv_bound X
  obtain ⟨y1, y2⟩ := nmv_bound Y
  have hS := sumD_len X Y
  have hN := @nmv_sum X Y
  generalize nmv (sumD X Y) = sn at *
  generalize dgOk (sumD X Y) = sok at *
  generalize sumD X Y = S at *
  clear ho ho' hb1 hd0
  cases hok : (dgOk X && dgOk Y) with
  | false =>
    rw [hok] at KI KS
    clear hN hok KB K1 K2 K3
    go_wp2_with fail
    refine (KI.out w1 BB.out D.out E.out).mono ?_
    rintro e w2 ⟨A3, n3, c3, rfl, o3, hb⟩
    have l3 := o3.len
    have R3 := Lib.hid o3.rd
    have D2 := Lib.hid (D.out.below hb).lt
    have E2 := Lib.hid (E.out.below hb).lt
    have B2 := Lib.hid (BB.out.trans (hb.mono BB.out.size))
    clear o3 hb D E BB
    go_wp2_with fail
    refine (KS.out w2 D2.out E2.out).mono ?_
    rintro e w3 ⟨A4, n4, c4, rfl, o4, hb⟩
    have l4 := o4.len
    obtain rfl : n4 = n3 := by omega
    have R4 := Lib.hid o4.rd
    have R3_ := Lib.hid (R3.out.below hb).lt
    have BB := Lib.hid (B2.out.trans (hb.mono B2.out.size))
    clear o4 hb D2 E2 B2 R3
    go_wp2_with fail
    refine (sameInts_same _ _ _ _ _ _ _ R3_.out R4.out (by omega)).mono ?_
    rintro e w4 ⟨rfl, hb⟩
    have R3 := Lib.hid (R3_.out.below hb).lt
    have R5 := Lib.hid (R4.out.below hb).lt
    have B2 := Lib.hid (BB.out.trans (hb.mono BB.out.size))
    clear hb R3_ R4 BB
    go_wp2_with fail
    refine (sameInts_same _ _ _ _ _ _ _ R3.out R5.out (by omega)).mono ?_
    rintro e w5 ⟨rfl, hb⟩
    have BB := Lib.hid (B2.out.trans (hb.mono B2.out.size))
    clear hb
    go_wp2_with fail
    go_ret
    exact ⟨rfl, BB.out⟩
  | true =>
    rw [hok] at KI KS KB
    have h1 : dgOk X = true := (Bool.and_eq_true _ _ ▸ hok).1
    have h2 : dgOk Y = true := (Bool.and_eq_true _ _ ▸ hok).2
    rw [h1] at K1
    rw [h2] at K2
    have HN := Lib.hid (hN hok)
    generalize nmv X = x at *
    generalize nmv Y = y at *
    clear hN h1 h2 hok
    go_wp2_with fail
    refine (KI.out w1 BB.out D.out E.out).mono ?_
    rintro e w2 ⟨A3, n3, c3, rfl, o3, hb⟩
    have l3 := o3.len
    have R3 := Lib.hid o3.rd
    have D2 := Lib.hid (D.out.below hb).lt
    have E2 := Lib.hid (E.out.below hb).lt
    have B2 := Lib.hid (BB.out.trans (hb.mono BB.out.size))
    clear o3 hb D E BB
    go_wp2_with fail
    refine (KS.out w2 D2.out E2.out).mono ?_
    rintro e w3 ⟨A4, n4, c4, rfl, o4, hb⟩
    have l4 := o4.len
    obtain rfl : n4 = n3 := by omega
    have R4 := Lib.hid o4.rd
    have R3_ := Lib.hid (R3.out.below hb).lt
    have D := Lib.hid (D2.out.below hb).lt
    have E := Lib.hid (E2.out.below hb).lt
    have BB := Lib.hid (B2.out.trans (hb.mono B2.out.size))
    clear o4 hb D2 E2 B2 R3
    go_wp2_with fail
    refine (sameInts_same _ _ _ _ _ _ _ R3_.out R4.out (by omega)).mono ?_
    rintro e w4 ⟨rfl, hb⟩
    have R3 := Lib.hid (R3_.out.below hb).lt
    have D2 := Lib.hid (D.out.below hb).lt
    have E2 := Lib.hid (E.out.below hb).lt
    have B2 := Lib.hid (BB.out.trans (hb.mono BB.out.size))
    clear hb R3_ R4 BB D E
    go_wp2_with fail
    refine (KB.out w4 B2.out D2.out E2.out).mono ?_
    rintro e w5 ⟨A5, n5, c5, rfl, o5, hb⟩
    have l5 := o5.len
    obtain rfl : n5 = n4 := by omega
    have R5 := Lib.hid o5.rd
    have R3_ := Lib.hid (R3.out.below hb).lt
    have D := Lib.hid (D2.out.below hb).lt
    have E := Lib.hid (E2.out.below hb).lt
    have BB := Lib.hid (B2.out.trans (hb.mono B2.out.size))
    clear o5 hb D2 E2 B2 R3
    go_wp2_with fail
    refine (K1.out w5 BB.out D.out).mono ?_
    rintro e w6 ⟨rfl, hb⟩
    have D_ := Lib.hid (D.out.below hb).lt; clear D; have D := D_; clear D_
    have E_ := Lib.hid (E.out.below hb).lt; clear E; have E := E_; clear E_
    have R3__ := Lib.hid (R3_.out.below hb).lt; clear R3_; have R3_ := R3__; clear R3__
    have R5_ := Lib.hid (R5.out.below hb).lt; clear R5; have R5 := R5_; clear R5_
    have BB_ := Lib.hid (BB.out.trans (hb.mono BB.out.size)); clear BB; have BB := BB_; clear BB_ hb
    go_wp2_with fail
    refine (K2.out w6 BB.out E.out).mono ?_
    rintro e w7 ⟨rfl, hb⟩
    have R3__ := Lib.hid (R3_.out.below hb).lt; clear R3_; have R3_ := R3__; clear R3__
    have R5_ := Lib.hid (R5.out.below hb).lt; clear R5; have R5 := R5_; clear R5_
    have BB_ := Lib.hid (BB.out.trans (hb.mono BB.out.size)); clear BB; have BB := BB_; clear BB_ hb
    go_wp2_with fail
    refine (K3.out w7 A3 n5 c3 (by omega) BB.out R3_.out).mono ?_
    rintro e w8 ⟨rfl, hb⟩
    have R3__ := Lib.hid (R3_.out.below hb).lt; clear R3_; have R3_ := R3__; clear R3__
    have R5_ := Lib.hid (R5.out.below hb).lt; clear R5; have R5 := R5_; clear R5_
    have BB_ := Lib.hid (BB.out.trans (hb.mono BB.out.size)); clear BB; have BB := BB_; clear BB_ hb
    go_wp2_with fail
    refine (sameInts_same _ _ _ _ _ _ _ R5.out R3_.out (by omega)).mono ?_
    rintro e w9 ⟨rfl, hb⟩
    have B2 := Lib.hid (BB.out.trans (hb.mono BB.out.size))
    clear hb
    cases sok with
    | false =>
      go_wp2_with fail
      go_ret
      exact ⟨rfl, B2.out⟩
    | true =>
      obtain rfl : sn = x + y := HN.out rfl
      have he : (x + y == x + y) = true := by simp
      have hw : IntKind.i64.wrap (x + y) = x + y := IntWalk.i64_in _ (by omega)
      go_wp2_with fail
      go_ret
      exact ⟨rfl, B2.out⟩
end Go.Proofs.YtmakekolaclgnaaDoor
