
/- The walk of FnExactPowerScaled: out of the two functions' contracts. -/
import Derived.Test.YtbfpllmoaooadaaLib
namespace Go.Proofs.Ytbfpllmoaooadaa
set_option linter.unusedVariables false
open Go.RowKit

set_option maxRecDepth 100000 in
set_option maxHeartbeats 1600000 in
theorem walkExactPowerScaled (a0 : Option Addr) (n0 c0 : Nat) (z0 : List Int) (a1 : Int) (R0 : List Int) (ok : Bool)
    (hR0 : R0.length ≤ 1000000)
    (hs : ∀ (w : World) (a0 : Option Addr) (n0 c0 : Nat), Rd w w.heap.size a0 n0 z0 → n0 ≤ 1048576 → Calls Try.prog 50 #[.slice a0 n0 c0, .int .i64 a1] w (RetRdB w R0 ok))
    (hi : ∀ (w : World) (a0 : Option Addr) (n0 c0 : Nat), Rd w w.heap.size a0 n0 z0 → n0 ≤ 1048576 → Calls Try.prog 37 #[.slice a0 n0 c0, .int .i64 a1] w (RetOwnB w R0 ok))
    (w : World) (hd0 : Rd w w.heap.size a0 n0 z0) : Calls Try.prog 18 #[.slice a0 n0 c0, .int .i64 a1] w (RetB w true) := by
  have hok : (ok != ok) = false := by simp
  have HS := Lib.hid hs
  have HI := Lib.hid hi
  have D0 := Lib.hid hd0
  clear hs hi hd0
  by_cases g0 : 1048576 < n0
  · go_enter Try.func18, Try.ntmps18
    go_wp2_with fail
    go_ret
    exact ⟨rfl, Below.refl _ _⟩
  go_enter Try.func18, Try.ntmps18
  go_wp2_with fail
  have BW := Lib.hid (Below.refl w.heap.size w)
  refine (toIntS_any _ _ _ z0 _ ((D0.out.below BW.out).mono (by omega)) (by omega)).mono ?_
  rintro e w1 ⟨Ap0, Np0, Cp0, rfl, ow, bel⟩
  have xp0 : Np0 ≤ 1048576 := by have h1 := ow.len; have h2 := D0.out.len; omega
  have BW' := Lib.hid (BW.out.trans (bel.mono (by omega)))
  have s1 : w.heap.size ≤ w1.heap.size := bel.size
  clear bel
  clear BW; have BW := BW'; clear BW'
  have Op0 := Lib.hid ow; have UOp0 := Lib.hid (fun g e => (ow.lt g e).2); clear ow
  go_wp2_with fail
  refine (HS.out _ _ _ _ (Op0.out.rd) (by omega)).mono ?_
  rintro e w2 ⟨Aw0, Nw0, Cw0, rfl, hw0, bel⟩
  have xw0 : Nw0 = R0.length := hw0.len.symm
  subst xw0
  have Op0' := Lib.hid (Op0.out.below bel)
  have BW' := Lib.hid (BW.out.trans (bel.mono (by omega)))
  have s2 : w1.heap.size ≤ w2.heap.size := bel.size
  clear bel
  clear Op0; have Op0 := Op0'; clear Op0'
  clear BW; have BW := BW'; clear BW'
  have Rw0 := Lib.hid hw0; clear hw0
  go_wp2_with fail
  clear Op0 UOp0 xp0
  refine (toIntS_any _ _ _ z0 _ ((D0.out.below BW.out).mono (by omega)) (by omega)).mono ?_
  rintro e w3 ⟨Ax0, Nx0, Cx0, rfl, ow, bel⟩
  have xx0 : Nx0 ≤ 1048576 := by have h1 := ow.len; have h2 := D0.out.len; omega
  have Rw0' := Lib.hid (Rw0.out.below (bel.mono (by omega)))
  have BW' := Lib.hid (BW.out.trans (bel.mono (by omega)))
  have s3 : w2.heap.size ≤ w3.heap.size := bel.size
  clear bel
  clear Rw0; have Rw0 := Rw0'; clear Rw0'
  clear BW; have BW := BW'; clear BW'
  have Ox0 := Lib.hid ow; have UOx0 := Lib.hid (fun g e => (ow.lt g e).2); clear ow
  go_wp2_with fail
  refine (HI.out _ _ _ _ (Ox0.out.rd) (by omega)).mono ?_
  rintro e w4 ⟨Ag0, Ng0, Cg0, rfl, hg0, bel⟩
  have xg0 : Ng0 = R0.length := hg0.len.symm
  subst xg0
  have Rw0' := Lib.hid (Rw0.out.below (bel.mono (by omega)))
  have Ox0' := Lib.hid (Ox0.out.below bel)
  have BW' := Lib.hid (BW.out.trans (bel.mono (by omega)))
  have s4 : w3.heap.size ≤ w4.heap.size := bel.size
  clear bel
  clear Rw0; have Rw0 := Rw0'; clear Rw0'
  clear Ox0; have Ox0 := Ox0'; clear Ox0'
  clear BW; have BW := BW'; clear BW'
  have Og0 := Lib.hid hg0; have UOg0 := Lib.hid (fun g e => (hg0.lt g e).2); clear hg0
  go_wp2_with fail
  refine (eqIntS_same _ _ _ _ _ _ _ (Og0.out.rd) (Rw0.out.mono (by omega)) (by omega)).mono ?_
  rintro e w5 ⟨rfl, bel⟩
  have Rw0' := Lib.hid (Rw0.out.below (bel.mono (by omega)))
  have Ox0' := Lib.hid (Ox0.out.below bel)
  have Og0' := Lib.hid (Og0.out.below bel)
  have BW' := Lib.hid (BW.out.trans (bel.mono (by omega)))
  have s5 : w4.heap.size ≤ w5.heap.size := bel.size
  clear bel
  clear Rw0; have Rw0 := Rw0'; clear Rw0'
  clear Ox0; have Ox0 := Ox0'; clear Ox0'
  clear Og0; have Og0 := Og0'; clear Og0'
  clear BW; have BW := BW'; clear BW'
  go_wp2_with fail
  refine (toIntS_any _ _ _ z0 _ ((D0.out.below BW.out).mono (by omega)) (by omega)).mono ?_
  rintro e w6 ⟨Ay0, Ny0, Cy0, rfl, ow, bel⟩
  have xy0 : Ny0 ≤ 1048576 := by have h1 := ow.len; have h2 := D0.out.len; omega
  have Rw0' := Lib.hid (Rw0.out.below (bel.mono (by omega)))
  have Ox0' := Lib.hid (Ox0.out.below bel)
  have Og0' := Lib.hid (Og0.out.below bel)
  have BW' := Lib.hid (BW.out.trans (bel.mono (by omega)))
  have s6 : w5.heap.size ≤ w6.heap.size := bel.size
  clear bel
  clear Rw0; have Rw0 := Rw0'; clear Rw0'
  clear Ox0; have Ox0 := Ox0'; clear Ox0'
  clear Og0; have Og0 := Og0'; clear Og0'
  clear BW; have BW := BW'; clear BW'
  have Oy0 := Lib.hid ow; have UOy0 := Lib.hid (fun g e => (ow.lt g e).2); clear ow
  go_wp2_with fail
  have e1 : Nx0 = Ny0 := by have h1 := Ox0.out.len; have h2 := Oy0.out.len; omega
  subst e1
  refine (eqIntS_same _ _ _ _ _ _ _ (Ox0.out.rd) (Oy0.out.rd) (by omega)).mono ?_
  rintro e w7 ⟨rfl, bel⟩
  have Rw0' := Lib.hid (Rw0.out.below (bel.mono (by omega)))
  have Ox0' := Lib.hid (Ox0.out.below bel)
  have Og0' := Lib.hid (Og0.out.below bel)
  have Oy0' := Lib.hid (Oy0.out.below bel)
  have BW' := Lib.hid (BW.out.trans (bel.mono (by omega)))
  have s7 : w6.heap.size ≤ w7.heap.size := bel.size
  clear bel
  clear Rw0; have Rw0 := Rw0'; clear Rw0'
  clear Ox0; have Ox0 := Ox0'; clear Ox0'
  clear Og0; have Og0 := Og0'; clear Og0'
  clear Oy0; have Oy0 := Oy0'; clear Oy0'
  clear BW; have BW := BW'; clear BW'
  go_wp2_with fail
  clear Oy0 UOy0
  refine (markIntS_any _ _ _ _ _ _ _ Ox0.out (by omega) (by omega) (by omega)).mono ?_
  rintro e w8 ⟨rfl, ow, hg⟩
  have Rw0' := Lib.hid (Rw0.out.grown hg (by omega) (fun g e => by have := (Ox0.out.lt g e).1; omega))
  have Og0' := Lib.hid (Og0.out.grown hg (ap_gt UOx0.out (fun g e => by have := (Og0.out.lt g e).1; omega)))
  have BW' := Lib.hid (BW.out.grown hg (by omega) (fun g e => by have := (Ox0.out.lt g e).1; omega))
  have s8 : w7.heap.size ≤ w8.heap.size := hg.size
  clear Ox0
  have Ox0 := Lib.hid ow
  clear ow hg
  clear Rw0; have Rw0 := Rw0'; clear Rw0'
  clear Og0; have Og0 := Og0'; clear Og0'
  clear BW; have BW := BW'; clear BW'
  go_wp2_with fail
  clear Ox0 UOx0
  refine (eqIntS_same _ _ _ _ _ _ _ (Og0.out.rd) (Rw0.out.mono (by omega)) (by omega)).mono ?_
  rintro e w9 ⟨rfl, bel⟩
  have Rw0' := Lib.hid (Rw0.out.below (bel.mono (by omega)))
  have Og0' := Lib.hid (Og0.out.below bel)
  have BW' := Lib.hid (BW.out.trans (bel.mono (by omega)))
  have s9 : w8.heap.size ≤ w9.heap.size := bel.size
  clear bel
  clear Rw0; have Rw0 := Rw0'; clear Rw0'
  clear Og0; have Og0 := Og0'; clear Og0'
  clear BW; have BW := BW'; clear BW'
  go_wp2_with fail
  refine (markIntS_any _ _ _ _ _ _ _ Og0.out (by omega) (by omega) (by omega)).mono ?_
  rintro e w10 ⟨rfl, ow, hg⟩
  have Rw0' := Lib.hid (Rw0.out.grown hg (by omega) (fun g e => by have := (Og0.out.lt g e).1; omega))
  have BW' := Lib.hid (BW.out.grown hg (by omega) (fun g e => by have := (Og0.out.lt g e).1; omega))
  have s10 : w9.heap.size ≤ w10.heap.size := hg.size
  clear Og0
  have Og0 := Lib.hid ow
  clear ow hg
  clear Rw0; have Rw0 := Rw0'; clear Rw0'
  clear BW; have BW := BW'; clear BW'
  go_wp2_with fail
  refine (heldIntS_iota _ _ _ _ _ Og0.out.rd (by omega) (by omega) (by omega)).mono ?_
  rintro e w11 ⟨rfl, bel⟩
  have Rw0' := Lib.hid (Rw0.out.below (bel.mono (by omega)))
  have Og0' := Lib.hid (Og0.out.below bel)
  have BW' := Lib.hid (BW.out.trans (bel.mono (by omega)))
  have s11 : w10.heap.size ≤ w11.heap.size := bel.size
  clear bel
  clear Rw0; have Rw0 := Rw0'; clear Rw0'
  clear Og0; have Og0 := Og0'; clear Og0'
  clear BW; have BW := BW'; clear BW'
  go_wp2_with fail
  refine (toIntS_any _ _ _ z0 _ ((D0.out.below BW.out).mono (by omega)) (by omega)).mono ?_
  rintro e w12 ⟨Av0, Nv0, Cv0, rfl, ow, bel⟩
  have xv0 : Nv0 ≤ 1048576 := by have h1 := ow.len; have h2 := D0.out.len; omega
  have Rw0' := Lib.hid (Rw0.out.below (bel.mono (by omega)))
  have Og0' := Lib.hid (Og0.out.below bel)
  have BW' := Lib.hid (BW.out.trans (bel.mono (by omega)))
  have s12 : w11.heap.size ≤ w12.heap.size := bel.size
  clear bel
  clear Rw0; have Rw0 := Rw0'; clear Rw0'
  clear Og0; have Og0 := Og0'; clear Og0'
  clear BW; have BW := BW'; clear BW'
  have Ov0 := Lib.hid ow; have UOv0 := Lib.hid (fun g e => (ow.lt g e).2); clear ow
  go_wp2_with fail
  refine (HI.out _ _ _ _ (Ov0.out.rd) (by omega)).mono ?_
  rintro e w13 ⟨Ah0, Nh0, Ch0, rfl, hh0, bel⟩
  have xh0 : Nh0 = R0.length := hh0.len.symm
  subst xh0
  have Rw0' := Lib.hid (Rw0.out.below (bel.mono (by omega)))
  have Og0' := Lib.hid (Og0.out.below bel)
  have Ov0' := Lib.hid (Ov0.out.below bel)
  have BW' := Lib.hid (BW.out.trans (bel.mono (by omega)))
  have s13 : w12.heap.size ≤ w13.heap.size := bel.size
  clear bel
  clear Rw0; have Rw0 := Rw0'; clear Rw0'
  clear Og0; have Og0 := Og0'; clear Og0'
  clear Ov0; have Ov0 := Ov0'; clear Ov0'
  clear BW; have BW := BW'; clear BW'
  have Oh0 := Lib.hid hh0; have UOh0 := Lib.hid (fun g e => (hh0.lt g e).2); clear hh0
  go_wp2_with fail
  clear Ov0 UOv0
  refine (eqIntS_same _ _ _ _ _ _ _ (Oh0.out.rd) (Rw0.out.mono (by omega)) (by omega)).mono ?_
  rintro e w14 ⟨rfl, bel⟩
  have Rw0' := Lib.hid (Rw0.out.below (bel.mono (by omega)))
  have Og0' := Lib.hid (Og0.out.below bel)
  have Oh0' := Lib.hid (Oh0.out.below bel)
  have BW' := Lib.hid (BW.out.trans (bel.mono (by omega)))
  have s14 : w13.heap.size ≤ w14.heap.size := bel.size
  clear bel
  clear Rw0; have Rw0 := Rw0'; clear Rw0'
  clear Og0; have Og0 := Og0'; clear Og0'
  clear Oh0; have Oh0 := Oh0'; clear Oh0'
  clear BW; have BW := BW'; clear BW'
  go_wp2_with fail
  refine (heldIntS_iota _ _ _ _ _ Og0.out.rd (by omega) (by omega) (by omega)).mono ?_
  rintro e w15 ⟨rfl, bel⟩
  have Rw0' := Lib.hid (Rw0.out.below (bel.mono (by omega)))
  have Og0' := Lib.hid (Og0.out.below bel)
  have Oh0' := Lib.hid (Oh0.out.below bel)
  have BW' := Lib.hid (BW.out.trans (bel.mono (by omega)))
  have s15 : w14.heap.size ≤ w15.heap.size := bel.size
  clear bel
  clear Rw0; have Rw0 := Rw0'; clear Rw0'
  clear Og0; have Og0 := Og0'; clear Og0'
  clear Oh0; have Oh0 := Oh0'; clear Oh0'
  clear BW; have BW := BW'; clear BW'
  go_wp2_with fail
  go_ret
  exact ⟨rfl, BW.out⟩
end Go.Proofs.Ytbfpllmoaooadaa
