
/- The walk of FnExactBinBy: out of the two functions' contracts. -/
import Derived.Test.YtmnjablknjijbaaBinD
import Derived.Test.YtmnjablknjijbaaLib
namespace Go.Proofs.Ytmnjablknjijbaa
set_option linter.unusedVariables false
open Go.RowKit
theorem ownF_kept {w w' : World} {base n c s : Nat} {A Ax : Option Addr} {fs : List Sl} {B : List (List Int)} (h : OwnF w base A n c fs B) (hg : w.grownBy w' (blk Ax)) (hs : base = s) (hx : ∀ g, blk Ax = some g → g < s) : OwnF w' base A n c fs B := by
  subst hs
  exact h.grown hg (ap_gt hx (fun g e => (h.outer_lt g e).1)) (fun j hj => ap_gt hx (fun g e => ((h.row hj).lt g e).1))
set_option maxRecDepth 100000 in
set_option maxHeartbeats 3200000 in
theorem walkExactBinBy (a0 : Option Addr) (n0 c0 : Nat) (z0 : List Int) (a1 : Int) (a2 : ByteArray) (R : List (List Int)) (ok : Bool)
    (hR : R.length ≤ 1000) (hR2 : R.flatten.length ≤ 100000)
    (hs : ∀ (w : World) (a0 : Option Addr) (n0 c0 : Nat), Rd w w.heap.size a0 n0 z0 → n0 ≤ 1048576 → Calls Try.prog 30 #[.slice a0 n0 c0, .int .i64 a1, .string a2] w (RetFB w R ok))
    (hi : ∀ (w : World) (a0 : Option Addr) (n0 c0 : Nat), Rd w w.heap.size a0 n0 z0 → n0 ≤ 1048576 → Calls Try.prog 31 #[.slice a0 n0 c0, .int .i64 a1, .string a2] w (RetFB w R ok))
    (w : World) (hd0 : Rd w w.heap.size a0 n0 z0) : Calls Try.prog 8 #[.slice a0 n0 c0, .int .i64 a1, .string a2] w (RetB w true) := by
  have hok : (ok != ok) = false := by simp
  have HRL := Lib.hid (fun (j : Nat) (hj : j < R.length) => Nat.le_trans (bin_len R j hj) (show R.flatten.length ≤ 1000000000 by omega))
  have HS := Lib.hid hs
  have HI := Lib.hid hi
  have D0 := Lib.hid hd0
  clear hs hi hd0
  by_cases g0 : 1048576 < n0
  · go_enter Try.func8, Try.ntmps8
    go_wp2_with fail
    go_ret
    exact ⟨rfl, Below.refl _ _⟩
  by_cases g2 : 1048576 < a2.size
  · go_enter Try.func8, Try.ntmps8
    go_wp2_with fail
    go_ret
    exact ⟨rfl, Below.refl _ _⟩
  go_enter Try.func8, Try.ntmps8
  go_wp2_with fail
  have BW := Lib.hid (Below.refl w.heap.size w)
  refine (toIntS_any _ _ _ z0 _ ((D0.out.below BW.out).mono (by omega)) (by omega)).mono ?_
  rintro e w1 ⟨Ap, Np, Cp, rfl, ow, bel⟩
  have xp : Np ≤ 1048576 := by have h1 := ow.len; have h2 := D0.out.len; omega
  have BW_ := Lib.hid (BW.out.trans (bel.mono (by omega)))
  clear BW; have BW := BW_; clear BW_
  have s1 : w.heap.size ≤ w1.heap.size := bel.size
  clear bel
  have Op := Lib.hid ow; have Up := Lib.hid (fun g e => (ow.lt g e).2); clear ow
  go_wp2_with fail
  refine (HS.out _ _ _ _ Op.out.rd (by omega)).mono ?_
  rintro e w2 ⟨As, Ns, Cs, fs, rfl, ho, bel⟩
  obtain rfl : Ns = R.length := ho.len.symm
  have BW_ := Lib.hid (BW.out.trans (bel.mono (by omega)))
  clear BW; have BW := BW_; clear BW_
  have s2 : w1.heap.size ≤ w2.heap.size := bel.size
  clear bel
  have SR := Lib.hid ho.rdF; have BS := Lib.hid (Below.refl w2.heap.size w2); clear ho Op Up xp
  go_wp2_with fail
  refine (toIntS_any _ _ _ z0 _ ((D0.out.below BW.out).mono (by omega)) (by omega)).mono ?_
  rintro e w3 ⟨Ax, Nx, Cx, rfl, ow, bel⟩
  have xx : Nx ≤ 1048576 := by have h1 := ow.len; have h2 := D0.out.len; omega
  have BW_ := Lib.hid (BW.out.trans (bel.mono (by omega)))
  clear BW; have BW := BW_; clear BW_
  have BS_ := Lib.hid (BS.out.trans (bel.mono (by omega)))
  clear BS; have BS := BS_; clear BS_
  have s3 : w2.heap.size ≤ w3.heap.size := bel.size
  clear bel
  have Ox := Lib.hid ow; have Ux := Lib.hid (fun g e => (ow.lt g e).2); clear ow
  go_wp2_with fail
  refine (HI.out _ _ _ _ Ox.out.rd (by omega)).mono ?_
  rintro e w4 ⟨Ag, Ng, Cg, gs, rfl, ho, bel⟩
  obtain rfl : Ng = R.length := ho.len.symm
  have BW_ := Lib.hid (BW.out.trans (bel.mono (by omega)))
  clear BW; have BW := BW_; clear BW_
  have BS_ := Lib.hid (BS.out.trans (bel.mono (by omega)))
  clear BS; have BS := BS_; clear BS_
  have Ox_ := Lib.hid (Ox.out.below bel)
  clear Ox; have Ox := Ox_; clear Ox_
  have s4 : w3.heap.size ≤ w4.heap.size := bel.size
  clear bel
  have Og := Lib.hid ho; clear ho
  go_wp2_with fail
  refine (eqIntSS_same _ _ _ _ _ _ _ R _ Og.out.rdF (SR.out.below BS.out) (by omega) HRL.out).mono ?_
  rintro e w5 ⟨rfl, bel⟩
  have BW_ := Lib.hid (BW.out.trans (bel.mono (by omega)))
  clear BW; have BW := BW_; clear BW_
  have BS_ := Lib.hid (BS.out.trans (bel.mono (by omega)))
  clear BS; have BS := BS_; clear BS_
  have Ox_ := Lib.hid (Ox.out.below bel)
  clear Ox; have Ox := Ox_; clear Ox_
  have Og_ := Lib.hid (Og.out.below bel)
  clear Og; have Og := Og_; clear Og_
  have s5 : w4.heap.size ≤ w5.heap.size := bel.size
  clear bel
  go_wp2_with fail
  refine (toIntS_any _ _ _ z0 _ ((D0.out.below BW.out).mono (by omega)) (by omega)).mono ?_
  rintro e w6 ⟨Ay, Ny, Cy, rfl, ow, bel⟩
  have xy : Ny ≤ 1048576 := by have h1 := ow.len; have h2 := D0.out.len; omega
  have BW_ := Lib.hid (BW.out.trans (bel.mono (by omega)))
  clear BW; have BW := BW_; clear BW_
  have BS_ := Lib.hid (BS.out.trans (bel.mono (by omega)))
  clear BS; have BS := BS_; clear BS_
  have Ox_ := Lib.hid (Ox.out.below bel)
  clear Ox; have Ox := Ox_; clear Ox_
  have Og_ := Lib.hid (Og.out.below bel)
  clear Og; have Og := Og_; clear Og_
  have s6 : w5.heap.size ≤ w6.heap.size := bel.size
  clear bel
  have Oy := Lib.hid ow; have Uy := Lib.hid (fun g e => (ow.lt g e).2); clear ow
  go_wp2_with fail
  have e1 : Nx = Ny := by have h1 := Ox.out.len; have h2 := Oy.out.len; omega
  subst e1
  refine (eqIntS_same _ _ _ _ _ _ _ Ox.out.rd Oy.out.rd (by omega)).mono ?_
  rintro e w7 ⟨rfl, bel⟩
  have BW_ := Lib.hid (BW.out.trans (bel.mono (by omega)))
  clear BW; have BW := BW_; clear BW_
  have BS_ := Lib.hid (BS.out.trans (bel.mono (by omega)))
  clear BS; have BS := BS_; clear BS_
  have Ox_ := Lib.hid (Ox.out.below bel)
  clear Ox; have Ox := Ox_; clear Ox_
  have Og_ := Lib.hid (Og.out.below bel)
  clear Og; have Og := Og_; clear Og_
  have s7 : w6.heap.size ≤ w7.heap.size := bel.size
  clear bel
  clear Oy Uy
  go_wp2_with fail
  refine (markIntS_any _ _ _ _ _ _ _ Ox.out (by omega) (by omega) (by omega)).mono ?_
  rintro e w8 ⟨rfl, ow, hg⟩
  have Og_ := Lib.hid (ownF_kept Og.out hg rfl Ux.out)
  clear Og; have Og := Og_; clear Og_
  have BW_ := Lib.hid (BW.out.grown hg (by omega) (fun g e => by have := (Ox.out.lt g e).1; omega))
  clear BW; have BW := BW_; clear BW_
  have BS_ := Lib.hid (BS.out.grown hg (by omega) (fun g e => by have := (Ox.out.lt g e).1; omega))
  clear BS; have BS := BS_; clear BS_
  have s8 : w7.heap.size ≤ w8.heap.size := hg.size
  clear ow hg Ox Ux
  go_wp2_with fail
  refine (eqIntSS_same _ _ _ _ _ _ _ R _ Og.out.rdF (SR.out.below BS.out) (by omega) HRL.out).mono ?_
  rintro e w9 ⟨rfl, bel⟩
  have BW_ := Lib.hid (BW.out.trans (bel.mono (by omega)))
  clear BW; have BW := BW_; clear BW_
  have BS_ := Lib.hid (BS.out.trans (bel.mono (by omega)))
  clear BS; have BS := BS_; clear BS_
  have Og_ := Lib.hid (Og.out.below bel)
  clear Og; have Og := Og_; clear Og_
  have s9 : w8.heap.size ≤ w9.heap.size := bel.size
  clear bel
  go_wp2_with fail
  refine (markIntSS_any _ _ _ _ _ R 1 _ Og.out (by omega) (by omega) (by omega) (by omega) (by omega)).mono ?_
  rintro e w10 ⟨rfl, ow, bel⟩
  have BW_ := Lib.hid (BW.out.trans (bel.mono (by omega)))
  clear BW; have BW := BW_; clear BW_
  have BS_ := Lib.hid (BS.out.trans (bel.mono (by omega)))
  clear BS; have BS := BS_; clear BS_
  have s10 : w9.heap.size ≤ w10.heap.size := bel.size
  clear Og; have Og := Lib.hid ow; clear ow bel
  go_wp2_with fail
  refine (heldIntSS_marks _ _ _ _ R 1 _ Og.out.rdF rfl (by omega) (by omega) (by omega) (by omega)).mono ?_
  rintro e w11 ⟨rfl, bel⟩
  have BW_ := Lib.hid (BW.out.trans (bel.mono (by omega)))
  clear BW; have BW := BW_; clear BW_
  have BS_ := Lib.hid (BS.out.trans (bel.mono (by omega)))
  clear BS; have BS := BS_; clear BS_
  have Og_ := Lib.hid (Og.out.below bel)
  clear Og; have Og := Og_; clear Og_
  have s11 : w10.heap.size ≤ w11.heap.size := bel.size
  clear bel
  go_wp2_with fail
  refine (toIntS_any _ _ _ z0 _ ((D0.out.below BW.out).mono (by omega)) (by omega)).mono ?_
  rintro e w12 ⟨Av, Nv, Cv, rfl, ow, bel⟩
  have xv : Nv ≤ 1048576 := by have h1 := ow.len; have h2 := D0.out.len; omega
  have BW_ := Lib.hid (BW.out.trans (bel.mono (by omega)))
  clear BW; have BW := BW_; clear BW_
  have BS_ := Lib.hid (BS.out.trans (bel.mono (by omega)))
  clear BS; have BS := BS_; clear BS_
  have Og_ := Lib.hid (Og.out.below bel)
  clear Og; have Og := Og_; clear Og_
  have s12 : w11.heap.size ≤ w12.heap.size := bel.size
  clear bel
  have Ov := Lib.hid ow; have Uv := Lib.hid (fun g e => (ow.lt g e).2); clear ow
  go_wp2_with fail
  refine (HI.out _ _ _ _ Ov.out.rd (by omega)).mono ?_
  rintro e w13 ⟨Ah, Nh, Ch, hs, rfl, ho, bel⟩
  obtain rfl : Nh = R.length := ho.len.symm
  have BW_ := Lib.hid (BW.out.trans (bel.mono (by omega)))
  clear BW; have BW := BW_; clear BW_
  have BS_ := Lib.hid (BS.out.trans (bel.mono (by omega)))
  clear BS; have BS := BS_; clear BS_
  have Og_ := Lib.hid (Og.out.below bel)
  clear Og; have Og := Og_; clear Og_
  have s13 : w12.heap.size ≤ w13.heap.size := bel.size
  clear bel
  have Oh := Lib.hid ho; clear ho Ov Uv
  go_wp2_with fail
  refine (eqIntSS_same _ _ _ _ _ _ _ R _ Oh.out.rdF (SR.out.below BS.out) (by omega) HRL.out).mono ?_
  rintro e w14 ⟨rfl, bel⟩
  have BW_ := Lib.hid (BW.out.trans (bel.mono (by omega)))
  clear BW; have BW := BW_; clear BW_
  have BS_ := Lib.hid (BS.out.trans (bel.mono (by omega)))
  clear BS; have BS := BS_; clear BS_
  have Og_ := Lib.hid (Og.out.below bel)
  clear Og; have Og := Og_; clear Og_
  have s14 : w13.heap.size ≤ w14.heap.size := bel.size
  clear bel
  go_wp2_with fail
  clear Oh
  refine (heldIntSS_marks _ _ _ _ R 1 _ Og.out.rdF rfl (by omega) (by omega) (by omega) (by omega)).mono ?_
  rintro e w15 ⟨rfl, bel⟩
  have BW_ := Lib.hid (BW.out.trans (bel.mono (by omega)))
  clear BW; have BW := BW_; clear BW_
  have BS_ := Lib.hid (BS.out.trans (bel.mono (by omega)))
  clear BS; have BS := BS_; clear BS_
  have Og_ := Lib.hid (Og.out.below bel)
  clear Og; have Og := Og_; clear Og_
  have s15 : w14.heap.size ≤ w15.heap.size := bel.size
  clear bel
  go_wp2_with fail
  go_ret
  exact ⟨rfl, BW.out⟩
end Go.Proofs.Ytmnjablknjijbaa
