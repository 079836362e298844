
/- The walk of FnExactPowerDegree: out of the two functions' contracts. -/
import Derived.Test.YtbfpllmoaooadaaLib
namespace Go.Proofs.Ytbfpllmoaooadaa
set_option linter.unusedVariables false
open Go.RowKit

set_option maxRecDepth 100000 in
set_option maxHeartbeats 1600000 in
theorem walkExactPowerDegree (a0 : Option Addr) (n0 c0 : Nat) (z0 : List Int) (a1 : Option Addr) (n1 c1 : Nat) (z1 : List Int) (R0 : Int) (ok : Bool)
    (hs : ∀ (w : World) (a0 : Option Addr) (n0 c0 : Nat) (a1 : Option Addr) (n1 c1 : Nat), Rd w w.heap.size a0 n0 z0 → n0 ≤ 1048576 → Rd w w.heap.size a1 n1 z1 → n1 ≤ 1048576 → Calls Try.prog 33 #[.slice a0 n0 c0, .slice a1 n1 c1] w (RetIB w R0 ok))
    (hi : ∀ (w : World) (a0 : Option Addr) (n0 c0 : Nat) (a1 : Option Addr) (n1 c1 : Nat), Rd w w.heap.size a0 n0 z0 → n0 ≤ 1048576 → Rd w w.heap.size a1 n1 z1 → n1 ≤ 1048576 → Calls Try.prog 34 #[.slice a0 n0 c0, .slice a1 n1 c1] w (RetIB w R0 ok))
    (w : World) (hd0 : Rd w w.heap.size a0 n0 z0) (hd1 : Rd w w.heap.size a1 n1 z1) : Calls Try.prog 7 #[.slice a0 n0 c0, .slice a1 n1 c1] w (RetB w true) := by
  have hok : (ok != ok) = false := by simp
  have hR0 : (R0 != R0) = false := by simp
  have HS := Lib.hid hs
  have HI := Lib.hid hi
  have D0 := Lib.hid hd0
  have D1 := Lib.hid hd1
  clear hs hi hd0 hd1
  by_cases g0 : 1048576 < n0
  · go_enter Try.func7, Try.ntmps7
    go_wp2_with fail
    go_ret
    exact ⟨rfl, Below.refl _ _⟩
  by_cases g1 : 1048576 < n1
  · go_enter Try.func7, Try.ntmps7
    go_wp2_with fail
    go_ret
    exact ⟨rfl, Below.refl _ _⟩
  go_enter Try.func7, Try.ntmps7
  go_wp2_with fail
  have BW := Lib.hid (Below.refl w.heap.size w)
  refine (toIntS_any _ _ _ z0 _ ((D0.out.below BW.out).mono (by omega)) (by omega)).mono ?_
  rintro e w1 ⟨Ap0, Np0, Cp0, rfl, ow, bel⟩
  have xp0 : Np0 ≤ 1048576 := by have h1 := ow.len; have h2 := D0.out.len; omega
  have BW' := Lib.hid (BW.out.trans (bel.mono (by omega)))
  have s1 : w.heap.size ≤ w1.heap.size := bel.size
  clear bel
  clear BW; have BW := BW'; clear BW'
  have Op0 := Lib.hid ow; have UOp0 := Lib.hid (fun g e => (ow.lt g e).2); clear ow
  go_wp2_with fail
  refine (toIntS_any _ _ _ z1 _ ((D1.out.below BW.out).mono (by omega)) (by omega)).mono ?_
  rintro e w2 ⟨Ap1, Np1, Cp1, rfl, ow, bel⟩
  have xp1 : Np1 ≤ 1048576 := by have h1 := ow.len; have h2 := D1.out.len; omega
  have Op0' := Lib.hid (Op0.out.below bel)
  have BW' := Lib.hid (BW.out.trans (bel.mono (by omega)))
  have s2 : w1.heap.size ≤ w2.heap.size := bel.size
  clear bel
  clear Op0; have Op0 := Op0'; clear Op0'
  clear BW; have BW := BW'; clear BW'
  have Op1 := Lib.hid ow; have UOp1 := Lib.hid (fun g e => (ow.lt g e).2); clear ow
  go_wp2_with fail
  refine (HS.out _ _ _ _ _ _ _ (Op0.out.rd) (by omega) (Op1.out.rd) (by omega)).mono ?_
  rintro e w3 ⟨rfl, bel⟩
  have Op0' := Lib.hid (Op0.out.below bel)
  have Op1' := Lib.hid (Op1.out.below bel)
  have BW' := Lib.hid (BW.out.trans (bel.mono (by omega)))
  have s3 : w2.heap.size ≤ w3.heap.size := bel.size
  clear bel
  clear Op0; have Op0 := Op0'; clear Op0'
  clear Op1; have Op1 := Op1'; clear Op1'
  clear BW; have BW := BW'; clear BW'
  go_wp2_with fail
  clear Op0 UOp0 xp0
  clear Op1 UOp1 xp1
  refine (toIntS_any _ _ _ z0 _ ((D0.out.below BW.out).mono (by omega)) (by omega)).mono ?_
  rintro e w4 ⟨Ax0, Nx0, Cx0, rfl, ow, bel⟩
  have xx0 : Nx0 ≤ 1048576 := by have h1 := ow.len; have h2 := D0.out.len; omega
  have BW' := Lib.hid (BW.out.trans (bel.mono (by omega)))
  have s4 : w3.heap.size ≤ w4.heap.size := bel.size
  clear bel
  clear BW; have BW := BW'; clear BW'
  have Ox0 := Lib.hid ow; have UOx0 := Lib.hid (fun g e => (ow.lt g e).2); clear ow
  go_wp2_with fail
  refine (toIntS_any _ _ _ z1 _ ((D1.out.below BW.out).mono (by omega)) (by omega)).mono ?_
  rintro e w5 ⟨Ax1, Nx1, Cx1, rfl, ow, bel⟩
  have xx1 : Nx1 ≤ 1048576 := by have h1 := ow.len; have h2 := D1.out.len; omega
  have Ox0' := Lib.hid (Ox0.out.below bel)
  have BW' := Lib.hid (BW.out.trans (bel.mono (by omega)))
  have s5 : w4.heap.size ≤ w5.heap.size := bel.size
  clear bel
  clear Ox0; have Ox0 := Ox0'; clear Ox0'
  clear BW; have BW := BW'; clear BW'
  have Ox1 := Lib.hid ow; have UOx1 := Lib.hid (fun g e => (ow.lt g e).2); clear ow
  go_wp2_with fail
  refine (HI.out _ _ _ _ _ _ _ (Ox0.out.rd) (by omega) (Ox1.out.rd) (by omega)).mono ?_
  rintro e w6 ⟨rfl, bel⟩
  have Ox0' := Lib.hid (Ox0.out.below bel)
  have Ox1' := Lib.hid (Ox1.out.below bel)
  have BW' := Lib.hid (BW.out.trans (bel.mono (by omega)))
  have s6 : w5.heap.size ≤ w6.heap.size := bel.size
  clear bel
  clear Ox0; have Ox0 := Ox0'; clear Ox0'
  clear Ox1; have Ox1 := Ox1'; clear Ox1'
  clear BW; have BW := BW'; clear BW'
  go_wp2_with fail
  refine (toIntS_any _ _ _ z0 _ ((D0.out.below BW.out).mono (by omega)) (by omega)).mono ?_
  rintro e w7 ⟨Ay0, Ny0, Cy0, rfl, ow, bel⟩
  have xy0 : Ny0 ≤ 1048576 := by have h1 := ow.len; have h2 := D0.out.len; omega
  have Ox0' := Lib.hid (Ox0.out.below bel)
  have Ox1' := Lib.hid (Ox1.out.below bel)
  have BW' := Lib.hid (BW.out.trans (bel.mono (by omega)))
  have s7 : w6.heap.size ≤ w7.heap.size := bel.size
  clear bel
  clear Ox0; have Ox0 := Ox0'; clear Ox0'
  clear Ox1; have Ox1 := Ox1'; clear Ox1'
  clear BW; have BW := BW'; clear BW'
  have Oy0 := Lib.hid ow; have UOy0 := Lib.hid (fun g e => (ow.lt g e).2); clear ow
  go_wp2_with fail
  have e1 : Nx0 = Ny0 := by have h1 := Ox0.out.len; have h2 := Oy0.out.len; omega
  subst e1
  refine (eqIntS_same _ _ _ _ _ _ _ (Ox0.out.rd) (Oy0.out.rd) (by omega)).mono ?_
  rintro e w8 ⟨rfl, bel⟩
  have Ox0' := Lib.hid (Ox0.out.below bel)
  have Ox1' := Lib.hid (Ox1.out.below bel)
  have Oy0' := Lib.hid (Oy0.out.below bel)
  have BW' := Lib.hid (BW.out.trans (bel.mono (by omega)))
  have s8 : w7.heap.size ≤ w8.heap.size := bel.size
  clear bel
  clear Ox0; have Ox0 := Ox0'; clear Ox0'
  clear Ox1; have Ox1 := Ox1'; clear Ox1'
  clear Oy0; have Oy0 := Oy0'; clear Oy0'
  clear BW; have BW := BW'; clear BW'
  go_wp2_with fail
  clear Oy0 UOy0
  refine (toIntS_any _ _ _ z1 _ ((D1.out.below BW.out).mono (by omega)) (by omega)).mono ?_
  rintro e w9 ⟨Ay1, Ny1, Cy1, rfl, ow, bel⟩
  have xy1 : Ny1 ≤ 1048576 := by have h1 := ow.len; have h2 := D1.out.len; omega
  have Ox0' := Lib.hid (Ox0.out.below bel)
  have Ox1' := Lib.hid (Ox1.out.below bel)
  have BW' := Lib.hid (BW.out.trans (bel.mono (by omega)))
  have s9 : w8.heap.size ≤ w9.heap.size := bel.size
  clear bel
  clear Ox0; have Ox0 := Ox0'; clear Ox0'
  clear Ox1; have Ox1 := Ox1'; clear Ox1'
  clear BW; have BW := BW'; clear BW'
  have Oy1 := Lib.hid ow; have UOy1 := Lib.hid (fun g e => (ow.lt g e).2); clear ow
  go_wp2_with fail
  have e1 : Nx1 = Ny1 := by have h1 := Ox1.out.len; have h2 := Oy1.out.len; omega
  subst e1
  refine (eqIntS_same _ _ _ _ _ _ _ (Ox1.out.rd) (Oy1.out.rd) (by omega)).mono ?_
  rintro e w10 ⟨rfl, bel⟩
  have Ox0' := Lib.hid (Ox0.out.below bel)
  have Ox1' := Lib.hid (Ox1.out.below bel)
  have Oy1' := Lib.hid (Oy1.out.below bel)
  have BW' := Lib.hid (BW.out.trans (bel.mono (by omega)))
  have s10 : w9.heap.size ≤ w10.heap.size := bel.size
  clear bel
  clear Ox0; have Ox0 := Ox0'; clear Ox0'
  clear Ox1; have Ox1 := Ox1'; clear Ox1'
  clear Oy1; have Oy1 := Oy1'; clear Oy1'
  clear BW; have BW := BW'; clear BW'
  go_wp2_with fail
  go_wp2_with fail
  go_ret
  exact ⟨rfl, BW.out⟩
end Go.Proofs.Ytbfpllmoaooadaa
