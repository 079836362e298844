
/- FnExactBinFits: the walk. -/
import Derived.Test.YtbihdajoflaknaaFitsI
import Derived.Test.YtbihdajoflaknaaFitsS
namespace Go.Proofs.Ytbihdajoflaknaa
set_option linter.unusedVariables false
open Go.RowKit
set_option maxRecDepth 100000 in
set_option maxHeartbeats 3200000 in
theorem mainExactBinFits (a0 : Option Addr) (n0 c0 : Nat) (z0 : List Int) (a1 : Int) (a2 : Option Addr) (n2 c2 : Nat) (fs : List Sl) (B : List (List Int)) (w : World) (hd0 : Rd w w.heap.size a0 n0 z0) (_w1 : (Lit.int .i64 a1).wf = true) (hd2 : RdF w a2 n2 fs B) (hL : Lens n2 fs) :
    Calls Try.prog 3 #[.slice a0 n0 c0, .int .i64 a1, .slice a2 n2 c2] w (RetB w true) := by
  by_cases big : 1048576 < n0
  · go_enter Try.func3, Try.ntmps3
    go_wp2_with fail
    go_ret
    exact ⟨rfl, Below.refl _ _⟩
  obtain rfl : B.length = n2 := hd2.1
  have D0 := Lib.hid hd0
  have D2 := Lib.hid hd2
  have K := Lib.hid (szIntSS_any a2 _ c2 fs B w hd2 hL)
  have hz := hd0.len
  clear hd0 hd2 hL
  go_enter Try.func3, Try.ntmps3
  go_wp2_with fail
  refine K.out.mono ?_
  rintro e w1 ⟨v, rfl, hv, hb⟩
  have BB := Lib.hid hb
  clear hb K
  by_cases h0 : v < 0
  · have d1 : decide (v < 0) = true := decide_eq_true h0
    clear hv
    go_wp2_with fail
    go_ret
    exact ⟨rfl, BB.out⟩
  · have d1 : decide (v < 0) = false := decide_eq_false h0
    have hsz : B.length + B.flatten.length ≤ 1048576 := by have := hv (by omega); omega
    have HL : Hid (∀ j, j < B.length → (fs.getD j slNil).2.1 ≤ 1048576) := Lib.hid fun j hj => by
      have h1 := (D2.out.2.2 j hj).len
      have h2 := bin_len B j (by omega)
      omega
    have HL2 : Hid (∀ j, j < B.length → (B.getD j []).length ≤ 1000000000) := Lib.hid fun j hj => by
      have h2 := bin_len B j hj
      omega
    have KT : Hid (∀ w2 : World, Below w.heap.size w w2 → Calls Try.prog 8 #[.slice a2 B.length c2] w2 (RetRdF w2 B)) := Lib.hid fun w2 hb => toIntSS_any a2 _ c2 fs B w2 (D2.out.below hb) (by omega) HL.out
    have KZ : Hid (∀ w2 : World, Below w.heap.size w w2 → Calls Try.prog 7 #[.slice a0 n0 c0] w2 (RetOwn w2 z0)) := Lib.hid fun w2 hb => toIntS_any a0 n0 c0 z0 w2 (D0.out.below hb).lt (by omega)
    have KS : Hid (∀ (w2 : World) (A : Option Addr) (n c : Nat) (A' : Option Addr) (c' : Nat) (gs : List Sl), n ≤ 1048576 → Rd w2 w2.heap.size A n z0 → RdF w2 A' B.length gs B → Calls Try.prog 6 #[.slice A n c, .int .i64 a1, .slice A' B.length c'] w2 (RetB w2 (fitsB z0 a1 B))) := Lib.hid fun w2 A n c A' c' gs hn ha hb => specBinFits_any A n c z0 a1 A' _ c' gs B w2 ha (by omega) hb (by omega) (by omega) _ rfl
    have KI : Hid (∀ (w2 : World) (A : Option Addr) (n c : Nat) (A' : Option Addr) (c' : Nat) (gs : List Sl), n ≤ 1048576 → Rd w2 w2.heap.size A n z0 → RdF w2 A' B.length gs B → Calls Try.prog 9 #[.slice A n c, .int .i64 a1, .slice A' B.length c'] w2 (RetB w2 (fitsB z0 a1 B))) := Lib.hid fun w2 A n c A' c' gs hn ha hb => implBinFits_any A n c z0 a1 A' _ c' gs B w2 ha (by omega) hb (by omega) (by omega) _ rfl
    generalize fitsB z0 a1 B = ok at KS KI
    have hok : (ok != ok) = false := by simp
    clear hv D0 D2
    go_wp2_with fail
    with_reducible refine (KZ.out w1 BB.out).mono ?_
    rintro e w2 ⟨A2, m2, d2, rfl, ho, hb⟩
    have l2 := ho.len
    have X2 := Lib.hid ho.rd
    have B2 := Lib.hid (BB.out.trans (hb.mono BB.out.size))
    clear ho hb BB
    go_wp2_with fail
    with_reducible refine (KT.out w2 B2.out).mono ?_
    rintro e w3 ⟨A3, d3, gs3, rfl, ho, hb⟩
    have Y3 := Lib.hid ho
    have X3 := Lib.hid (X2.out.below hb).lt
    have B3 := Lib.hid (B2.out.trans (hb.mono B2.out.size))
    clear ho hb B2 X2
    go_wp2_with fail
    with_reducible refine (KS.out w3 _ _ _ _ _ gs3 (by omega) X3.out Y3.out).mono ?_
    rintro e w4 ⟨rfl, hb⟩
    have B4 := Lib.hid (B3.out.trans (hb.mono B3.out.size))
    clear hb B3 X3 Y3
    go_wp2_with fail
    with_reducible refine (KZ.out w4 B4.out).mono ?_
    rintro e w5 ⟨A5, m5, d5, rfl, ho, hb⟩
    have l5 := ho.len
    have X5 := Lib.hid ho.rd
    have B5 := Lib.hid (B4.out.trans (hb.mono B4.out.size))
    clear ho hb B4
    go_wp2_with fail
    with_reducible refine (KT.out w5 B5.out).mono ?_
    rintro e w6 ⟨A6, d6, gs6, rfl, ho, hb⟩
    have Y6 := Lib.hid ho
    have X6 := Lib.hid (X5.out.below hb).lt
    have B6 := Lib.hid (B5.out.trans (hb.mono B5.out.size))
    clear ho hb B5 X5
    go_wp2_with fail
    with_reducible refine (KI.out w6 _ _ _ _ _ gs6 (by omega) X6.out Y6.out).mono ?_
    rintro e w7 ⟨rfl, hb⟩
    have B7 := Lib.hid (B6.out.trans (hb.mono B6.out.size))
    have X7 := Lib.hid (X6.out.below hb).lt
    have Y7 := Lib.hid (Y6.out.below hb)
    clear hb B6 X6 Y6
    go_wp2_with fail
    with_reducible refine (KZ.out w7 B7.out).mono ?_
    rintro e w8 ⟨A8, m8, d8, rfl, ho, hb⟩
    have l8 := ho.len
    obtain rfl : m5 = m8 := by omega
    have Z8 := Lib.hid ho.rd
    have B8 := Lib.hid (B7.out.trans (hb.mono B7.out.size))
    have X8 := Lib.hid (X7.out.below hb).lt
    have Y8 := Lib.hid (Y7.out.below hb)
    clear ho hb B7 X7 Y7
    go_wp2_with fail
    refine (eqIntS_same _ _ _ _ _ _ _ X8.out Z8.out (by omega)).mono ?_
    rintro e w9 ⟨rfl, hb⟩
    have B9 := Lib.hid (B8.out.trans (hb.mono B8.out.size))
    have Y9 := Lib.hid (Y8.out.below hb)
    clear hb B8 X8 Y8 Z8
    go_wp2_with fail
    with_reducible refine (KT.out w9 B9.out).mono ?_
    rintro e wa ⟨Aa, da, gsa, rfl, ho, hb⟩
    have Ya := Lib.hid ho
    have Yb := Lib.hid (Y9.out.below hb)
    have Ba := Lib.hid (B9.out.trans (hb.mono B9.out.size))
    clear ho hb B9 Y9
    go_wp2_with fail
    refine (eqIntSS_same _ _ _ _ _ _ _ B _ Yb.out Ya.out (by omega) HL2.out).mono ?_
    rintro e wb ⟨rfl, hb⟩
    have Bb := Lib.hid (Ba.out.trans (hb.mono Ba.out.size))
    clear hb
    go_wp2_with fail
    go_ret
    exact ⟨rfl, Bb.out⟩
end Go.Proofs.Ytbihdajoflaknaa
