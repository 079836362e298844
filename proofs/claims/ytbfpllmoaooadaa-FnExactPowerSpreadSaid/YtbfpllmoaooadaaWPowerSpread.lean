
/- The walk of FnExactPowerSpread: out of the two functions' contracts. -/
import Derived.Test.YtbfpllmoaooadaaSortL
import Derived.Test.YtbfpllmoaooadaaLib
namespace Go.Proofs.Ytbfpllmoaooadaa
set_option linter.unusedVariables false
open Go.RowKit

set_option maxRecDepth 100000 in
set_option maxHeartbeats 1600000 in
theorem walkExactPowerSpread (a0 : Option Addr) (n0 c0 : Nat) (z0 : List Int) (a1 : Option Addr) (n1 c1 : Nat) (z1 : List Int) (a2 : Int) (R0 : List Int) (R1 : List Int) (ok : Bool)
    (hR0 : R0.length ≤ 1000000)
    (hR1 : R1.length ≤ 1000000)
    (hs : ∀ (w : World) (a0 : Option Addr) (n0 c0 : Nat) (a1 : Option Addr) (n1 c1 : Nat), Rd w w.heap.size a0 n0 z0 → n0 ≤ 1048576 → Rd w w.heap.size a1 n1 z1 → n1 ≤ 1048576 → Calls Try.prog 25 #[.slice a0 n0 c0, .slice a1 n1 c1, .int .i64 a2] w (RetRd2B w R0 R1 ok))
    (hi : ∀ (w : World) (a0 : Option Addr) (n0 c0 : Nat) (a1 : Option Addr) (n1 c1 : Nat), Rd w w.heap.size a0 n0 z0 → n0 ≤ 1048576 → Rd w w.heap.size a1 n1 z1 → n1 ≤ 1048576 → Calls Try.prog 26 #[.slice a0 n0 c0, .slice a1 n1 c1, .int .i64 a2] w (RetOwn2B w R0 R1 ok))
    (w : World) (hd0 : Rd w w.heap.size a0 n0 z0) (hd1 : Rd w w.heap.size a1 n1 z1) : Calls Try.prog 4 #[.slice a0 n0 c0, .slice a1 n1 c1, .int .i64 a2] w (RetB w true) := by
  have hok : (ok != ok) = false := by simp
  have HS := Lib.hid hs
  have HI := Lib.hid hi
  have D0 := Lib.hid hd0
  have D1 := Lib.hid hd1
  clear hs hi hd0 hd1
  by_cases g0 : 1048576 < n0
  · go_enter Try.func4, Try.ntmps4
    go_wp2_with fail
    go_ret
    exact ⟨rfl, Below.refl _ _⟩
  by_cases g1 : 1048576 < n1
  · go_enter Try.func4, Try.ntmps4
    go_wp2_with fail
    go_ret
    exact ⟨rfl, Below.refl _ _⟩
  go_enter Try.func4, Try.ntmps4
  go_wp2_with fail
  have BW := Lib.hid (Below.refl w.heap.size w)
  refine (toIntS_any _ _ _ z0 _ ((D0.out.below BW.out).mono (by omega)) (by omega)).mono ?_
  rintro e w1 ⟨Ap0, Np0, Cp0, rfl, ow, bel⟩
  have xp0 : Np0 ≤ 1048576 := by have h1 := ow.len; have h2 := D0.out.len; omega
  have BW' := Lib.hid (BW.out.trans (bel.mono (by omega)))
  have s1 : w.heap.size ≤ w1.heap.size := bel.size
  clear bel
  clear BW; have BW := BW'; clear BW'
  have Op0 := Lib.hid ow; have UOp0 := Lib.hid (fun g e => (ow.lt g e).2); clear ow
  go_wp2_with fail
  refine (toIntS_any _ _ _ z1 _ ((D1.out.below BW.out).mono (by omega)) (by omega)).mono ?_
  rintro e w2 ⟨Ap1, Np1, Cp1, rfl, ow, bel⟩
  have xp1 : Np1 ≤ 1048576 := by have h1 := ow.len; have h2 := D1.out.len; omega
  have Op0' := Lib.hid (Op0.out.below bel)
  have BW' := Lib.hid (BW.out.trans (bel.mono (by omega)))
  have s2 : w1.heap.size ≤ w2.heap.size := bel.size
  clear bel
  clear Op0; have Op0 := Op0'; clear Op0'
  clear BW; have BW := BW'; clear BW'
  have Op1 := Lib.hid ow; have UOp1 := Lib.hid (fun g e => (ow.lt g e).2); clear ow
  go_wp2_with fail
  refine (HS.out _ _ _ _ _ _ _ (Op0.out.rd) (by omega) (Op1.out.rd) (by omega)).mono ?_
  rintro e w3 ⟨Aw0, Nw0, Cw0, Aw1, Nw1, Cw1, rfl, hw0, hw1, bel⟩
  have xw0 : Nw0 = R0.length := hw0.len.symm
  subst xw0
  have xw1 : Nw1 = R1.length := hw1.len.symm
  subst xw1
  have Op0' := Lib.hid (Op0.out.below bel)
  have Op1' := Lib.hid (Op1.out.below bel)
  have BW' := Lib.hid (BW.out.trans (bel.mono (by omega)))
  have s3 : w2.heap.size ≤ w3.heap.size := bel.size
  clear bel
  clear Op0; have Op0 := Op0'; clear Op0'
  clear Op1; have Op1 := Op1'; clear Op1'
  clear BW; have BW := BW'; clear BW'
  have Rw0 := Lib.hid hw0; clear hw0
  have Rw1 := Lib.hid hw1; clear hw1
  go_wp2_with fail
  clear Op0 UOp0 xp0
  clear Op1 UOp1 xp1
  refine (toIntS_any _ _ _ z0 _ ((D0.out.below BW.out).mono (by omega)) (by omega)).mono ?_
  rintro e w4 ⟨Ax0, Nx0, Cx0, rfl, ow, bel⟩
  have xx0 : Nx0 ≤ 1048576 := by have h1 := ow.len; have h2 := D0.out.len; omega
  have Rw0' := Lib.hid (Rw0.out.below (bel.mono (by omega)))
  have Rw1' := Lib.hid (Rw1.out.below (bel.mono (by omega)))
  have BW' := Lib.hid (BW.out.trans (bel.mono (by omega)))
  have s4 : w3.heap.size ≤ w4.heap.size := bel.size
  clear bel
  clear Rw0; have Rw0 := Rw0'; clear Rw0'
  clear Rw1; have Rw1 := Rw1'; clear Rw1'
  clear BW; have BW := BW'; clear BW'
  have Ox0 := Lib.hid ow; have UOx0 := Lib.hid (fun g e => (ow.lt g e).2); clear ow
  go_wp2_with fail
  refine (toIntS_any _ _ _ z1 _ ((D1.out.below BW.out).mono (by omega)) (by omega)).mono ?_
  rintro e w5 ⟨Ax1, Nx1, Cx1, rfl, ow, bel⟩
  have xx1 : Nx1 ≤ 1048576 := by have h1 := ow.len; have h2 := D1.out.len; omega
  have Rw0' := Lib.hid (Rw0.out.below (bel.mono (by omega)))
  have Rw1' := Lib.hid (Rw1.out.below (bel.mono (by omega)))
  have Ox0' := Lib.hid (Ox0.out.below bel)
  have BW' := Lib.hid (BW.out.trans (bel.mono (by omega)))
  have s5 : w4.heap.size ≤ w5.heap.size := bel.size
  clear bel
  clear Rw0; have Rw0 := Rw0'; clear Rw0'
  clear Rw1; have Rw1 := Rw1'; clear Rw1'
  clear Ox0; have Ox0 := Ox0'; clear Ox0'
  clear BW; have BW := BW'; clear BW'
  have Ox1 := Lib.hid ow; have UOx1 := Lib.hid (fun g e => (ow.lt g e).2); clear ow
  go_wp2_with fail
  refine (HI.out _ _ _ _ _ _ _ (Ox0.out.rd) (by omega) (Ox1.out.rd) (by omega)).mono ?_
  rintro e w6 ⟨Ag0, Ng0, Cg0, Ag1, Ng1, Cg1, rfl, hg0, hg1, hap, bel⟩
  have xg0 : Ng0 = R0.length := hg0.len.symm
  subst xg0
  have xg1 : Ng1 = R1.length := hg1.len.symm
  subst xg1
  have Rw0' := Lib.hid (Rw0.out.below (bel.mono (by omega)))
  have Rw1' := Lib.hid (Rw1.out.below (bel.mono (by omega)))
  have Ox0' := Lib.hid (Ox0.out.below bel)
  have Ox1' := Lib.hid (Ox1.out.below bel)
  have BW' := Lib.hid (BW.out.trans (bel.mono (by omega)))
  have s6 : w5.heap.size ≤ w6.heap.size := bel.size
  clear bel
  clear Rw0; have Rw0 := Rw0'; clear Rw0'
  clear Rw1; have Rw1 := Rw1'; clear Rw1'
  clear Ox0; have Ox0 := Ox0'; clear Ox0'
  clear Ox1; have Ox1 := Ox1'; clear Ox1'
  clear BW; have BW := BW'; clear BW'
  have Og0 := Lib.hid hg0; have UOg0 := Lib.hid (fun g e => (hg0.lt g e).2); clear hg0
  have Og1 := Lib.hid hg1; have UOg1 := Lib.hid (fun g e => (hg1.lt g e).2); clear hg1
  have APg := Lib.hid hap; clear hap
  go_wp2_with fail
  refine (eqIntS_same _ _ _ _ _ _ _ (Og0.out.rd) (Rw0.out.mono (by omega)) (by omega)).mono ?_
  rintro e w7 ⟨rfl, bel⟩
  have Rw0' := Lib.hid (Rw0.out.below (bel.mono (by omega)))
  have Rw1' := Lib.hid (Rw1.out.below (bel.mono (by omega)))
  have Ox0' := Lib.hid (Ox0.out.below bel)
  have Ox1' := Lib.hid (Ox1.out.below bel)
  have Og0' := Lib.hid (Og0.out.below bel)
  have Og1' := Lib.hid (Og1.out.below bel)
  have BW' := Lib.hid (BW.out.trans (bel.mono (by omega)))
  have s7 : w6.heap.size ≤ w7.heap.size := bel.size
  clear bel
  clear Rw0; have Rw0 := Rw0'; clear Rw0'
  clear Rw1; have Rw1 := Rw1'; clear Rw1'
  clear Ox0; have Ox0 := Ox0'; clear Ox0'
  clear Ox1; have Ox1 := Ox1'; clear Ox1'
  clear Og0; have Og0 := Og0'; clear Og0'
  clear Og1; have Og1 := Og1'; clear Og1'
  clear BW; have BW := BW'; clear BW'
  go_wp2_with fail
  refine (eqIntS_same _ _ _ _ _ _ _ (Og1.out.rd) (Rw1.out.mono (by omega)) (by omega)).mono ?_
  rintro e w8 ⟨rfl, bel⟩
  have Rw0' := Lib.hid (Rw0.out.below (bel.mono (by omega)))
  have Rw1' := Lib.hid (Rw1.out.below (bel.mono (by omega)))
  have Ox0' := Lib.hid (Ox0.out.below bel)
  have Ox1' := Lib.hid (Ox1.out.below bel)
  have Og0' := Lib.hid (Og0.out.below bel)
  have Og1' := Lib.hid (Og1.out.below bel)
  have BW' := Lib.hid (BW.out.trans (bel.mono (by omega)))
  have s8 : w7.heap.size ≤ w8.heap.size := bel.size
  clear bel
  clear Rw0; have Rw0 := Rw0'; clear Rw0'
  clear Rw1; have Rw1 := Rw1'; clear Rw1'
  clear Ox0; have Ox0 := Ox0'; clear Ox0'
  clear Ox1; have Ox1 := Ox1'; clear Ox1'
  clear Og0; have Og0 := Og0'; clear Og0'
  clear Og1; have Og1 := Og1'; clear Og1'
  clear BW; have BW := BW'; clear BW'
  go_wp2_with fail
  refine (toIntS_any _ _ _ z0 _ ((D0.out.below BW.out).mono (by omega)) (by omega)).mono ?_
  rintro e w9 ⟨Ay0, Ny0, Cy0, rfl, ow, bel⟩
  have xy0 : Ny0 ≤ 1048576 := by have h1 := ow.len; have h2 := D0.out.len; omega
  have Rw0' := Lib.hid (Rw0.out.below (bel.mono (by omega)))
  have Rw1' := Lib.hid (Rw1.out.below (bel.mono (by omega)))
  have Ox0' := Lib.hid (Ox0.out.below bel)
  have Ox1' := Lib.hid (Ox1.out.below bel)
  have Og0' := Lib.hid (Og0.out.below bel)
  have Og1' := Lib.hid (Og1.out.below bel)
  have BW' := Lib.hid (BW.out.trans (bel.mono (by omega)))
  have s9 : w8.heap.size ≤ w9.heap.size := bel.size
  clear bel
  clear Rw0; have Rw0 := Rw0'; clear Rw0'
  clear Rw1; have Rw1 := Rw1'; clear Rw1'
  clear Ox0; have Ox0 := Ox0'; clear Ox0'
  clear Ox1; have Ox1 := Ox1'; clear Ox1'
  clear Og0; have Og0 := Og0'; clear Og0'
  clear Og1; have Og1 := Og1'; clear Og1'
  clear BW; have BW := BW'; clear BW'
  have Oy0 := Lib.hid ow; have UOy0 := Lib.hid (fun g e => (ow.lt g e).2); clear ow
  go_wp2_with fail
  have e1 : Nx0 = Ny0 := by have h1 := Ox0.out.len; have h2 := Oy0.out.len; omega
  subst e1
  refine (eqIntS_same _ _ _ _ _ _ _ (Ox0.out.rd) (Oy0.out.rd) (by omega)).mono ?_
  rintro e w10 ⟨rfl, bel⟩
  have Rw0' := Lib.hid (Rw0.out.below (bel.mono (by omega)))
  have Rw1' := Lib.hid (Rw1.out.below (bel.mono (by omega)))
  have Ox0' := Lib.hid (Ox0.out.below bel)
  have Ox1' := Lib.hid (Ox1.out.below bel)
  have Og0' := Lib.hid (Og0.out.below bel)
  have Og1' := Lib.hid (Og1.out.below bel)
  have Oy0' := Lib.hid (Oy0.out.below bel)
  have BW' := Lib.hid (BW.out.trans (bel.mono (by omega)))
  have s10 : w9.heap.size ≤ w10.heap.size := bel.size
  clear bel
  clear Rw0; have Rw0 := Rw0'; clear Rw0'
  clear Rw1; have Rw1 := Rw1'; clear Rw1'
  clear Ox0; have Ox0 := Ox0'; clear Ox0'
  clear Ox1; have Ox1 := Ox1'; clear Ox1'
  clear Og0; have Og0 := Og0'; clear Og0'
  clear Og1; have Og1 := Og1'; clear Og1'
  clear Oy0; have Oy0 := Oy0'; clear Oy0'
  clear BW; have BW := BW'; clear BW'
  go_wp2_with fail
  clear Oy0 UOy0
  refine (toIntS_any _ _ _ z1 _ ((D1.out.below BW.out).mono (by omega)) (by omega)).mono ?_
  rintro e w11 ⟨Ay1, Ny1, Cy1, rfl, ow, bel⟩
  have xy1 : Ny1 ≤ 1048576 := by have h1 := ow.len; have h2 := D1.out.len; omega
  have Rw0' := Lib.hid (Rw0.out.below (bel.mono (by omega)))
  have Rw1' := Lib.hid (Rw1.out.below (bel.mono (by omega)))
  have Ox0' := Lib.hid (Ox0.out.below bel)
  have Ox1' := Lib.hid (Ox1.out.below bel)
  have Og0' := Lib.hid (Og0.out.below bel)
  have Og1' := Lib.hid (Og1.out.below bel)
  have BW' := Lib.hid (BW.out.trans (bel.mono (by omega)))
  have s11 : w10.heap.size ≤ w11.heap.size := bel.size
  clear bel
  clear Rw0; have Rw0 := Rw0'; clear Rw0'
  clear Rw1; have Rw1 := Rw1'; clear Rw1'
  clear Ox0; have Ox0 := Ox0'; clear Ox0'
  clear Ox1; have Ox1 := Ox1'; clear Ox1'
  clear Og0; have Og0 := Og0'; clear Og0'
  clear Og1; have Og1 := Og1'; clear Og1'
  clear BW; have BW := BW'; clear BW'
  have Oy1 := Lib.hid ow; have UOy1 := Lib.hid (fun g e => (ow.lt g e).2); clear ow
  go_wp2_with fail
  have e1 : Nx1 = Ny1 := by have h1 := Ox1.out.len; have h2 := Oy1.out.len; omega
  subst e1
  refine (eqIntS_same _ _ _ _ _ _ _ (Ox1.out.rd) (Oy1.out.rd) (by omega)).mono ?_
  rintro e w12 ⟨rfl, bel⟩
  have Rw0' := Lib.hid (Rw0.out.below (bel.mono (by omega)))
  have Rw1' := Lib.hid (Rw1.out.below (bel.mono (by omega)))
  have Ox0' := Lib.hid (Ox0.out.below bel)
  have Ox1' := Lib.hid (Ox1.out.below bel)
  have Og0' := Lib.hid (Og0.out.below bel)
  have Og1' := Lib.hid (Og1.out.below bel)
  have Oy1' := Lib.hid (Oy1.out.below bel)
  have BW' := Lib.hid (BW.out.trans (bel.mono (by omega)))
  have s12 : w11.heap.size ≤ w12.heap.size := bel.size
  clear bel
  clear Rw0; have Rw0 := Rw0'; clear Rw0'
  clear Rw1; have Rw1 := Rw1'; clear Rw1'
  clear Ox0; have Ox0 := Ox0'; clear Ox0'
  clear Ox1; have Ox1 := Ox1'; clear Ox1'
  clear Og0; have Og0 := Og0'; clear Og0'
  clear Og1; have Og1 := Og1'; clear Og1'
  clear Oy1; have Oy1 := Oy1'; clear Oy1'
  clear BW; have BW := BW'; clear BW'
  go_wp2_with fail
  clear Oy1 UOy1
  refine (markIntS_any _ _ _ _ _ _ _ Ox0.out (by omega) (by omega) (by omega)).mono ?_
  rintro e w13 ⟨rfl, ow, hg⟩
  have Rw0' := Lib.hid (Rw0.out.grown hg (by omega) (fun g e => by have := (Ox0.out.lt g e).1; omega))
  have Rw1' := Lib.hid (Rw1.out.grown hg (by omega) (fun g e => by have := (Ox0.out.lt g e).1; omega))
  have Ox1' := Lib.hid (Ox1.out.grown hg (ap_gt UOx0.out (fun g e => by have := (Ox1.out.lt g e).1; omega)))
  have Og0' := Lib.hid (Og0.out.grown hg (ap_gt UOx0.out (fun g e => by have := (Og0.out.lt g e).1; omega)))
  have Og1' := Lib.hid (Og1.out.grown hg (ap_gt UOx0.out (fun g e => by have := (Og1.out.lt g e).1; omega)))
  have BW' := Lib.hid (BW.out.grown hg (by omega) (fun g e => by have := (Ox0.out.lt g e).1; omega))
  have s13 : w12.heap.size ≤ w13.heap.size := hg.size
  clear Ox0
  have Ox0 := Lib.hid ow
  clear ow hg
  clear Rw0; have Rw0 := Rw0'; clear Rw0'
  clear Rw1; have Rw1 := Rw1'; clear Rw1'
  clear Ox1; have Ox1 := Ox1'; clear Ox1'
  clear Og0; have Og0 := Og0'; clear Og0'
  clear Og1; have Og1 := Og1'; clear Og1'
  clear BW; have BW := BW'; clear BW'
  go_wp2_with fail
  refine (markIntS_any _ _ _ _ _ _ _ Ox1.out (by omega) (by omega) (by omega)).mono ?_
  rintro e w14 ⟨rfl, ow, hg⟩
  have Rw0' := Lib.hid (Rw0.out.grown hg (by omega) (fun g e => by have := (Ox1.out.lt g e).1; omega))
  have Rw1' := Lib.hid (Rw1.out.grown hg (by omega) (fun g e => by have := (Ox1.out.lt g e).1; omega))
  have Ox0' := Lib.hid (Ox0.out.grown hg (ap_lt UOx0.out (fun g e => by have := (Ox1.out.lt g e).1; omega)))
  have Og0' := Lib.hid (Og0.out.grown hg (ap_gt UOx1.out (fun g e => by have := (Og0.out.lt g e).1; omega)))
  have Og1' := Lib.hid (Og1.out.grown hg (ap_gt UOx1.out (fun g e => by have := (Og1.out.lt g e).1; omega)))
  have BW' := Lib.hid (BW.out.grown hg (by omega) (fun g e => by have := (Ox1.out.lt g e).1; omega))
  have s14 : w13.heap.size ≤ w14.heap.size := hg.size
  clear Ox1
  have Ox1 := Lib.hid ow
  clear ow hg
  clear Rw0; have Rw0 := Rw0'; clear Rw0'
  clear Rw1; have Rw1 := Rw1'; clear Rw1'
  clear Ox0; have Ox0 := Ox0'; clear Ox0'
  clear Og0; have Og0 := Og0'; clear Og0'
  clear Og1; have Og1 := Og1'; clear Og1'
  clear BW; have BW := BW'; clear BW'
  go_wp2_with fail
  clear Ox0 UOx0
  clear Ox1 UOx1
  refine (eqIntS_same _ _ _ _ _ _ _ (Og0.out.rd) (Rw0.out.mono (by omega)) (by omega)).mono ?_
  rintro e w15 ⟨rfl, bel⟩
  have Rw0' := Lib.hid (Rw0.out.below (bel.mono (by omega)))
  have Rw1' := Lib.hid (Rw1.out.below (bel.mono (by omega)))
  have Og0' := Lib.hid (Og0.out.below bel)
  have Og1' := Lib.hid (Og1.out.below bel)
  have BW' := Lib.hid (BW.out.trans (bel.mono (by omega)))
  have s15 : w14.heap.size ≤ w15.heap.size := bel.size
  clear bel
  clear Rw0; have Rw0 := Rw0'; clear Rw0'
  clear Rw1; have Rw1 := Rw1'; clear Rw1'
  clear Og0; have Og0 := Og0'; clear Og0'
  clear Og1; have Og1 := Og1'; clear Og1'
  clear BW; have BW := BW'; clear BW'
  go_wp2_with fail
  refine (eqIntS_same _ _ _ _ _ _ _ (Og1.out.rd) (Rw1.out.mono (by omega)) (by omega)).mono ?_
  rintro e w16 ⟨rfl, bel⟩
  have Rw0' := Lib.hid (Rw0.out.below (bel.mono (by omega)))
  have Rw1' := Lib.hid (Rw1.out.below (bel.mono (by omega)))
  have Og0' := Lib.hid (Og0.out.below bel)
  have Og1' := Lib.hid (Og1.out.below bel)
  have BW' := Lib.hid (BW.out.trans (bel.mono (by omega)))
  have s16 : w15.heap.size ≤ w16.heap.size := bel.size
  clear bel
  clear Rw0; have Rw0 := Rw0'; clear Rw0'
  clear Rw1; have Rw1 := Rw1'; clear Rw1'
  clear Og0; have Og0 := Og0'; clear Og0'
  clear Og1; have Og1 := Og1'; clear Og1'
  clear BW; have BW := BW'; clear BW'
  go_wp2_with fail
  refine (markIntS_any _ _ _ _ _ _ _ Og0.out (by omega) (by omega) (by omega)).mono ?_
  rintro e w17 ⟨rfl, ow, hg⟩
  have Rw0' := Lib.hid (Rw0.out.grown hg (by omega) (fun g e => by have := (Og0.out.lt g e).1; omega))
  have Rw1' := Lib.hid (Rw1.out.grown hg (by omega) (fun g e => by have := (Og0.out.lt g e).1; omega))
  have Og1' := Lib.hid (Og1.out.grown hg (ap_symm APg.out))
  have BW' := Lib.hid (BW.out.grown hg (by omega) (fun g e => by have := (Og0.out.lt g e).1; omega))
  have s17 : w16.heap.size ≤ w17.heap.size := hg.size
  clear Og0
  have Og0 := Lib.hid ow
  clear ow hg
  clear Rw0; have Rw0 := Rw0'; clear Rw0'
  clear Rw1; have Rw1 := Rw1'; clear Rw1'
  clear Og1; have Og1 := Og1'; clear Og1'
  clear BW; have BW := BW'; clear BW'
  go_wp2_with fail
  refine (markIntS_any _ _ _ _ _ _ _ Og1.out (by omega) (by omega) (by omega)).mono ?_
  rintro e w18 ⟨rfl, ow, hg⟩
  have Rw0' := Lib.hid (Rw0.out.grown hg (by omega) (fun g e => by have := (Og1.out.lt g e).1; omega))
  have Rw1' := Lib.hid (Rw1.out.grown hg (by omega) (fun g e => by have := (Og1.out.lt g e).1; omega))
  have Og0' := Lib.hid (Og0.out.grown hg (APg.out))
  have BW' := Lib.hid (BW.out.grown hg (by omega) (fun g e => by have := (Og1.out.lt g e).1; omega))
  have s18 : w17.heap.size ≤ w18.heap.size := hg.size
  clear Og1
  have Og1 := Lib.hid ow
  clear ow hg
  clear Rw0; have Rw0 := Rw0'; clear Rw0'
  clear Rw1; have Rw1 := Rw1'; clear Rw1'
  clear Og0; have Og0 := Og0'; clear Og0'
  clear BW; have BW := BW'; clear BW'
  go_wp2_with fail
  refine (heldIntS_iota _ _ _ _ _ Og0.out.rd (by omega) (by omega) (by omega)).mono ?_
  rintro e w19 ⟨rfl, bel⟩
  have Rw0' := Lib.hid (Rw0.out.below (bel.mono (by omega)))
  have Rw1' := Lib.hid (Rw1.out.below (bel.mono (by omega)))
  have Og0' := Lib.hid (Og0.out.below bel)
  have Og1' := Lib.hid (Og1.out.below bel)
  have BW' := Lib.hid (BW.out.trans (bel.mono (by omega)))
  have s19 : w18.heap.size ≤ w19.heap.size := bel.size
  clear bel
  clear Rw0; have Rw0 := Rw0'; clear Rw0'
  clear Rw1; have Rw1 := Rw1'; clear Rw1'
  clear Og0; have Og0 := Og0'; clear Og0'
  clear Og1; have Og1 := Og1'; clear Og1'
  clear BW; have BW := BW'; clear BW'
  go_wp2_with fail
  refine (heldIntS_iota _ _ _ _ _ Og1.out.rd (by omega) (by omega) (by omega)).mono ?_
  rintro e w20 ⟨rfl, bel⟩
  have Rw0' := Lib.hid (Rw0.out.below (bel.mono (by omega)))
  have Rw1' := Lib.hid (Rw1.out.below (bel.mono (by omega)))
  have Og0' := Lib.hid (Og0.out.below bel)
  have Og1' := Lib.hid (Og1.out.below bel)
  have BW' := Lib.hid (BW.out.trans (bel.mono (by omega)))
  have s20 : w19.heap.size ≤ w20.heap.size := bel.size
  clear bel
  clear Rw0; have Rw0 := Rw0'; clear Rw0'
  clear Rw1; have Rw1 := Rw1'; clear Rw1'
  clear Og0; have Og0 := Og0'; clear Og0'
  clear Og1; have Og1 := Og1'; clear Og1'
  clear BW; have BW := BW'; clear BW'
  go_wp2_with fail
  refine (toIntS_any _ _ _ z0 _ ((D0.out.below BW.out).mono (by omega)) (by omega)).mono ?_
  rintro e w21 ⟨Av0, Nv0, Cv0, rfl, ow, bel⟩
  have xv0 : Nv0 ≤ 1048576 := by have h1 := ow.len; have h2 := D0.out.len; omega
  have Rw0' := Lib.hid (Rw0.out.below (bel.mono (by omega)))
  have Rw1' := Lib.hid (Rw1.out.below (bel.mono (by omega)))
  have Og0' := Lib.hid (Og0.out.below bel)
  have Og1' := Lib.hid (Og1.out.below bel)
  have BW' := Lib.hid (BW.out.trans (bel.mono (by omega)))
  have s21 : w20.heap.size ≤ w21.heap.size := bel.size
  clear bel
  clear Rw0; have Rw0 := Rw0'; clear Rw0'
  clear Rw1; have Rw1 := Rw1'; clear Rw1'
  clear Og0; have Og0 := Og0'; clear Og0'
  clear Og1; have Og1 := Og1'; clear Og1'
  clear BW; have BW := BW'; clear BW'
  have Ov0 := Lib.hid ow; have UOv0 := Lib.hid (fun g e => (ow.lt g e).2); clear ow
  go_wp2_with fail
  refine (toIntS_any _ _ _ z1 _ ((D1.out.below BW.out).mono (by omega)) (by omega)).mono ?_
  rintro e w22 ⟨Av1, Nv1, Cv1, rfl, ow, bel⟩
  have xv1 : Nv1 ≤ 1048576 := by have h1 := ow.len; have h2 := D1.out.len; omega
  have Rw0' := Lib.hid (Rw0.out.below (bel.mono (by omega)))
  have Rw1' := Lib.hid (Rw1.out.below (bel.mono (by omega)))
  have Og0' := Lib.hid (Og0.out.below bel)
  have Og1' := Lib.hid (Og1.out.below bel)
  have Ov0' := Lib.hid (Ov0.out.below bel)
  have BW' := Lib.hid (BW.out.trans (bel.mono (by omega)))
  have s22 : w21.heap.size ≤ w22.heap.size := bel.size
  clear bel
  clear Rw0; have Rw0 := Rw0'; clear Rw0'
  clear Rw1; have Rw1 := Rw1'; clear Rw1'
  clear Og0; have Og0 := Og0'; clear Og0'
  clear Og1; have Og1 := Og1'; clear Og1'
  clear Ov0; have Ov0 := Ov0'; clear Ov0'
  clear BW; have BW := BW'; clear BW'
  have Ov1 := Lib.hid ow; have UOv1 := Lib.hid (fun g e => (ow.lt g e).2); clear ow
  go_wp2_with fail
  refine (HI.out _ _ _ _ _ _ _ (Ov0.out.rd) (by omega) (Ov1.out.rd) (by omega)).mono ?_
  rintro e w23 ⟨Ah0, Nh0, Ch0, Ah1, Nh1, Ch1, rfl, hh0, hh1, hap, bel⟩
  have xh0 : Nh0 = R0.length := hh0.len.symm
  subst xh0
  have xh1 : Nh1 = R1.length := hh1.len.symm
  subst xh1
  have Rw0' := Lib.hid (Rw0.out.below (bel.mono (by omega)))
  have Rw1' := Lib.hid (Rw1.out.below (bel.mono (by omega)))
  have Og0' := Lib.hid (Og0.out.below bel)
  have Og1' := Lib.hid (Og1.out.below bel)
  have Ov0' := Lib.hid (Ov0.out.below bel)
  have Ov1' := Lib.hid (Ov1.out.below bel)
  have BW' := Lib.hid (BW.out.trans (bel.mono (by omega)))
  have s23 : w22.heap.size ≤ w23.heap.size := bel.size
  clear bel
  clear Rw0; have Rw0 := Rw0'; clear Rw0'
  clear Rw1; have Rw1 := Rw1'; clear Rw1'
  clear Og0; have Og0 := Og0'; clear Og0'
  clear Og1; have Og1 := Og1'; clear Og1'
  clear Ov0; have Ov0 := Ov0'; clear Ov0'
  clear Ov1; have Ov1 := Ov1'; clear Ov1'
  clear BW; have BW := BW'; clear BW'
  have Oh0 := Lib.hid hh0; have UOh0 := Lib.hid (fun g e => (hh0.lt g e).2); clear hh0
  have Oh1 := Lib.hid hh1; have UOh1 := Lib.hid (fun g e => (hh1.lt g e).2); clear hh1
  have APh := Lib.hid hap; clear hap
  go_wp2_with fail
  clear Ov0 UOv0
  clear Ov1 UOv1
  refine (eqIntS_same _ _ _ _ _ _ _ (Oh0.out.rd) (Rw0.out.mono (by omega)) (by omega)).mono ?_
  rintro e w24 ⟨rfl, bel⟩
  have Rw0' := Lib.hid (Rw0.out.below (bel.mono (by omega)))
  have Rw1' := Lib.hid (Rw1.out.below (bel.mono (by omega)))
  have Og0' := Lib.hid (Og0.out.below bel)
  have Og1' := Lib.hid (Og1.out.below bel)
  have Oh0' := Lib.hid (Oh0.out.below bel)
  have Oh1' := Lib.hid (Oh1.out.below bel)
  have BW' := Lib.hid (BW.out.trans (bel.mono (by omega)))
  have s24 : w23.heap.size ≤ w24.heap.size := bel.size
  clear bel
  clear Rw0; have Rw0 := Rw0'; clear Rw0'
  clear Rw1; have Rw1 := Rw1'; clear Rw1'
  clear Og0; have Og0 := Og0'; clear Og0'
  clear Og1; have Og1 := Og1'; clear Og1'
  clear Oh0; have Oh0 := Oh0'; clear Oh0'
  clear Oh1; have Oh1 := Oh1'; clear Oh1'
  clear BW; have BW := BW'; clear BW'
  go_wp2_with fail
  refine (eqIntS_same _ _ _ _ _ _ _ (Oh1.out.rd) (Rw1.out.mono (by omega)) (by omega)).mono ?_
  rintro e w25 ⟨rfl, bel⟩
  have Rw0' := Lib.hid (Rw0.out.below (bel.mono (by omega)))
  have Rw1' := Lib.hid (Rw1.out.below (bel.mono (by omega)))
  have Og0' := Lib.hid (Og0.out.below bel)
  have Og1' := Lib.hid (Og1.out.below bel)
  have Oh0' := Lib.hid (Oh0.out.below bel)
  have Oh1' := Lib.hid (Oh1.out.below bel)
  have BW' := Lib.hid (BW.out.trans (bel.mono (by omega)))
  have s25 : w24.heap.size ≤ w25.heap.size := bel.size
  clear bel
  clear Rw0; have Rw0 := Rw0'; clear Rw0'
  clear Rw1; have Rw1 := Rw1'; clear Rw1'
  clear Og0; have Og0 := Og0'; clear Og0'
  clear Og1; have Og1 := Og1'; clear Og1'
  clear Oh0; have Oh0 := Oh0'; clear Oh0'
  clear Oh1; have Oh1 := Oh1'; clear Oh1'
  clear BW; have BW := BW'; clear BW'
  go_wp2_with fail
  refine (heldIntS_iota _ _ _ _ _ Og0.out.rd (by omega) (by omega) (by omega)).mono ?_
  rintro e w26 ⟨rfl, bel⟩
  have Rw0' := Lib.hid (Rw0.out.below (bel.mono (by omega)))
  have Rw1' := Lib.hid (Rw1.out.below (bel.mono (by omega)))
  have Og0' := Lib.hid (Og0.out.below bel)
  have Og1' := Lib.hid (Og1.out.below bel)
  have Oh0' := Lib.hid (Oh0.out.below bel)
  have Oh1' := Lib.hid (Oh1.out.below bel)
  have BW' := Lib.hid (BW.out.trans (bel.mono (by omega)))
  have s26 : w25.heap.size ≤ w26.heap.size := bel.size
  clear bel
  clear Rw0; have Rw0 := Rw0'; clear Rw0'
  clear Rw1; have Rw1 := Rw1'; clear Rw1'
  clear Og0; have Og0 := Og0'; clear Og0'
  clear Og1; have Og1 := Og1'; clear Og1'
  clear Oh0; have Oh0 := Oh0'; clear Oh0'
  clear Oh1; have Oh1 := Oh1'; clear Oh1'
  clear BW; have BW := BW'; clear BW'
  go_wp2_with fail
  refine (heldIntS_iota _ _ _ _ _ Og1.out.rd (by omega) (by omega) (by omega)).mono ?_
  rintro e w27 ⟨rfl, bel⟩
  have Rw0' := Lib.hid (Rw0.out.below (bel.mono (by omega)))
  have Rw1' := Lib.hid (Rw1.out.below (bel.mono (by omega)))
  have Og0' := Lib.hid (Og0.out.below bel)
  have Og1' := Lib.hid (Og1.out.below bel)
  have Oh0' := Lib.hid (Oh0.out.below bel)
  have Oh1' := Lib.hid (Oh1.out.below bel)
  have BW' := Lib.hid (BW.out.trans (bel.mono (by omega)))
  have s27 : w26.heap.size ≤ w27.heap.size := bel.size
  clear bel
  clear Rw0; have Rw0 := Rw0'; clear Rw0'
  clear Rw1; have Rw1 := Rw1'; clear Rw1'
  clear Og0; have Og0 := Og0'; clear Og0'
  clear Og1; have Og1 := Og1'; clear Og1'
  clear Oh0; have Oh0 := Oh0'; clear Oh0'
  clear Oh1; have Oh1 := Oh1'; clear Oh1'
  clear BW; have BW := BW'; clear BW'
  go_wp2_with fail
  go_ret
  exact ⟨rfl, BW.out⟩
end Go.Proofs.Ytbfpllmoaooadaa
