
/- The walk of FnExactPowerFind: out of the two functions' contracts. -/
import Derived.Test.YtbfpllmoaooadaaLib
namespace Go.Proofs.Ytbfpllmoaooadaa
set_option linter.unusedVariables false
open Go.RowKit

set_option maxRecDepth 100000 in
set_option maxHeartbeats 1600000 in
theorem walkExactPowerFind (a0 : Int) (R0 : List Int) (R1 : List Int) (ok : Bool)
    (hR0 : R0.length ≤ 1000000)
    (hR1 : R1.length ≤ 1000000)
    (hs : ∀ (w : World), Calls Try.prog 46 #[.int .i64 a0] w (RetRd2B w R0 R1 ok))
    (hi : ∀ (w : World), Calls Try.prog 47 #[.int .i64 a0] w (RetOwn2B w R0 R1 ok))
    (w : World) : Calls Try.prog 15 #[.int .i64 a0] w (RetB w true) := by
  have hok : (ok != ok) = false := by simp
  have HS := Lib.hid hs
  have HI := Lib.hid hi
  clear hs hi
  go_enter Try.func15, Try.ntmps15
  go_wp2_with fail
  have BW := Lib.hid (Below.refl w.heap.size w)
  refine (HS.out _).mono ?_
  rintro e w1 ⟨Aw0, Nw0, Cw0, Aw1, Nw1, Cw1, rfl, hw0, hw1, bel⟩
  have xw0 : Nw0 = R0.length := hw0.len.symm
  subst xw0
  have xw1 : Nw1 = R1.length := hw1.len.symm
  subst xw1
  have BW' := Lib.hid (BW.out.trans (bel.mono (by omega)))
  have s1 : w.heap.size ≤ w1.heap.size := bel.size
  clear bel
  clear BW; have BW := BW'; clear BW'
  have Rw0 := Lib.hid hw0; clear hw0
  have Rw1 := Lib.hid hw1; clear hw1
  go_wp2_with fail
  refine (HI.out _).mono ?_
  rintro e w2 ⟨Ag0, Ng0, Cg0, Ag1, Ng1, Cg1, rfl, hg0, hg1, hap, bel⟩
  have xg0 : Ng0 = R0.length := hg0.len.symm
  subst xg0
  have xg1 : Ng1 = R1.length := hg1.len.symm
  subst xg1
  have Rw0' := Lib.hid (Rw0.out.below (bel.mono (by omega)))
  have Rw1' := Lib.hid (Rw1.out.below (bel.mono (by omega)))
  have BW' := Lib.hid (BW.out.trans (bel.mono (by omega)))
  have s2 : w1.heap.size ≤ w2.heap.size := bel.size
  clear bel
  clear Rw0; have Rw0 := Rw0'; clear Rw0'
  clear Rw1; have Rw1 := Rw1'; clear Rw1'
  clear BW; have BW := BW'; clear BW'
  have Og0 := Lib.hid hg0; have UOg0 := Lib.hid (fun g e => (hg0.lt g e).2); clear hg0
  have Og1 := Lib.hid hg1; have UOg1 := Lib.hid (fun g e => (hg1.lt g e).2); clear hg1
  have APg := Lib.hid hap; clear hap
  go_wp2_with fail
  refine (eqIntS_same _ _ _ _ _ _ _ (Og0.out.rd) (Rw0.out.mono (by omega)) (by omega)).mono ?_
  rintro e w3 ⟨rfl, bel⟩
  have Rw0' := Lib.hid (Rw0.out.below (bel.mono (by omega)))
  have Rw1' := Lib.hid (Rw1.out.below (bel.mono (by omega)))
  have Og0' := Lib.hid (Og0.out.below bel)
  have Og1' := Lib.hid (Og1.out.below bel)
  have BW' := Lib.hid (BW.out.trans (bel.mono (by omega)))
  have s3 : w2.heap.size ≤ w3.heap.size := bel.size
  clear bel
  clear Rw0; have Rw0 := Rw0'; clear Rw0'
  clear Rw1; have Rw1 := Rw1'; clear Rw1'
  clear Og0; have Og0 := Og0'; clear Og0'
  clear Og1; have Og1 := Og1'; clear Og1'
  clear BW; have BW := BW'; clear BW'
  go_wp2_with fail
  refine (eqIntS_same _ _ _ _ _ _ _ (Og1.out.rd) (Rw1.out.mono (by omega)) (by omega)).mono ?_
  rintro e w4 ⟨rfl, bel⟩
  have Rw0' := Lib.hid (Rw0.out.below (bel.mono (by omega)))
  have Rw1' := Lib.hid (Rw1.out.below (bel.mono (by omega)))
  have Og0' := Lib.hid (Og0.out.below bel)
  have Og1' := Lib.hid (Og1.out.below bel)
  have BW' := Lib.hid (BW.out.trans (bel.mono (by omega)))
  have s4 : w3.heap.size ≤ w4.heap.size := bel.size
  clear bel
  clear Rw0; have Rw0 := Rw0'; clear Rw0'
  clear Rw1; have Rw1 := Rw1'; clear Rw1'
  clear Og0; have Og0 := Og0'; clear Og0'
  clear Og1; have Og1 := Og1'; clear Og1'
  clear BW; have BW := BW'; clear BW'
  go_wp2_with fail
  refine (markIntS_any _ _ _ _ _ _ _ Og0.out (by omega) (by omega) (by omega)).mono ?_
  rintro e w5 ⟨rfl, ow, hg⟩
  have Rw0' := Lib.hid (Rw0.out.grown hg (by omega) (fun g e => by have := (Og0.out.lt g e).1; omega))
  have Rw1' := Lib.hid (Rw1.out.grown hg (by omega) (fun g e => by have := (Og0.out.lt g e).1; omega))
  have Og1' := Lib.hid (Og1.out.grown hg (ap_symm APg.out))
  have BW' := Lib.hid (BW.out.grown hg (by omega) (fun g e => by have := (Og0.out.lt g e).1; omega))
  have s5 : w4.heap.size ≤ w5.heap.size := hg.size
  clear Og0
  have Og0 := Lib.hid ow
  clear ow hg
  clear Rw0; have Rw0 := Rw0'; clear Rw0'
  clear Rw1; have Rw1 := Rw1'; clear Rw1'
  clear Og1; have Og1 := Og1'; clear Og1'
  clear BW; have BW := BW'; clear BW'
  go_wp2_with fail
  refine (markIntS_any _ _ _ _ _ _ _ Og1.out (by omega) (by omega) (by omega)).mono ?_
  rintro e w6 ⟨rfl, ow, hg⟩
  have Rw0' := Lib.hid (Rw0.out.grown hg (by omega) (fun g e => by have := (Og1.out.lt g e).1; omega))
  have Rw1' := Lib.hid (Rw1.out.grown hg (by omega) (fun g e => by have := (Og1.out.lt g e).1; omega))
  have Og0' := Lib.hid (Og0.out.grown hg (APg.out))
  have BW' := Lib.hid (BW.out.grown hg (by omega) (fun g e => by have := (Og1.out.lt g e).1; omega))
  have s6 : w5.heap.size ≤ w6.heap.size := hg.size
  clear Og1
  have Og1 := Lib.hid ow
  clear ow hg
  clear Rw0; have Rw0 := Rw0'; clear Rw0'
  clear Rw1; have Rw1 := Rw1'; clear Rw1'
  clear Og0; have Og0 := Og0'; clear Og0'
  clear BW; have BW := BW'; clear BW'
  go_wp2_with fail
  refine (heldIntS_iota _ _ _ _ _ Og0.out.rd (by omega) (by omega) (by omega)).mono ?_
  rintro e w7 ⟨rfl, bel⟩
  have Rw0' := Lib.hid (Rw0.out.below (bel.mono (by omega)))
  have Rw1' := Lib.hid (Rw1.out.below (bel.mono (by omega)))
  have Og0' := Lib.hid (Og0.out.below bel)
  have Og1' := Lib.hid (Og1.out.below bel)
  have BW' := Lib.hid (BW.out.trans (bel.mono (by omega)))
  have s7 : w6.heap.size ≤ w7.heap.size := bel.size
  clear bel
  clear Rw0; have Rw0 := Rw0'; clear Rw0'
  clear Rw1; have Rw1 := Rw1'; clear Rw1'
  clear Og0; have Og0 := Og0'; clear Og0'
  clear Og1; have Og1 := Og1'; clear Og1'
  clear BW; have BW := BW'; clear BW'
  go_wp2_with fail
  refine (heldIntS_iota _ _ _ _ _ Og1.out.rd (by omega) (by omega) (by omega)).mono ?_
  rintro e w8 ⟨rfl, bel⟩
  have Rw0' := Lib.hid (Rw0.out.below (bel.mono (by omega)))
  have Rw1' := Lib.hid (Rw1.out.below (bel.mono (by omega)))
  have Og0' := Lib.hid (Og0.out.below bel)
  have Og1' := Lib.hid (Og1.out.below bel)
  have BW' := Lib.hid (BW.out.trans (bel.mono (by omega)))
  have s8 : w7.heap.size ≤ w8.heap.size := bel.size
  clear bel
  clear Rw0; have Rw0 := Rw0'; clear Rw0'
  clear Rw1; have Rw1 := Rw1'; clear Rw1'
  clear Og0; have Og0 := Og0'; clear Og0'
  clear Og1; have Og1 := Og1'; clear Og1'
  clear BW; have BW := BW'; clear BW'
  go_wp2_with fail
  refine (HI.out _).mono ?_
  rintro e w9 ⟨Ah0, Nh0, Ch0, Ah1, Nh1, Ch1, rfl, hh0, hh1, hap, bel⟩
  have xh0 : Nh0 = R0.length := hh0.len.symm
  subst xh0
  have xh1 : Nh1 = R1.length := hh1.len.symm
  subst xh1
  have Rw0' := Lib.hid (Rw0.out.below (bel.mono (by omega)))
  have Rw1' := Lib.hid (Rw1.out.below (bel.mono (by omega)))
  have Og0' := Lib.hid (Og0.out.below bel)
  have Og1' := Lib.hid (Og1.out.below bel)
  have BW' := Lib.hid (BW.out.trans (bel.mono (by omega)))
  have s9 : w8.heap.size ≤ w9.heap.size := bel.size
  clear bel
  clear Rw0; have Rw0 := Rw0'; clear Rw0'
  clear Rw1; have Rw1 := Rw1'; clear Rw1'
  clear Og0; have Og0 := Og0'; clear Og0'
  clear Og1; have Og1 := Og1'; clear Og1'
  clear BW; have BW := BW'; clear BW'
  have Oh0 := Lib.hid hh0; have UOh0 := Lib.hid (fun g e => (hh0.lt g e).2); clear hh0
  have Oh1 := Lib.hid hh1; have UOh1 := Lib.hid (fun g e => (hh1.lt g e).2); clear hh1
  have APh := Lib.hid hap; clear hap
  go_wp2_with fail
  refine (eqIntS_same _ _ _ _ _ _ _ (Oh0.out.rd) (Rw0.out.mono (by omega)) (by omega)).mono ?_
  rintro e w10 ⟨rfl, bel⟩
  have Rw0' := Lib.hid (Rw0.out.below (bel.mono (by omega)))
  have Rw1' := Lib.hid (Rw1.out.below (bel.mono (by omega)))
  have Og0' := Lib.hid (Og0.out.below bel)
  have Og1' := Lib.hid (Og1.out.below bel)
  have Oh0' := Lib.hid (Oh0.out.below bel)
  have Oh1' := Lib.hid (Oh1.out.below bel)
  have BW' := Lib.hid (BW.out.trans (bel.mono (by omega)))
  have s10 : w9.heap.size ≤ w10.heap.size := bel.size
  clear bel
  clear Rw0; have Rw0 := Rw0'; clear Rw0'
  clear Rw1; have Rw1 := Rw1'; clear Rw1'
  clear Og0; have Og0 := Og0'; clear Og0'
  clear Og1; have Og1 := Og1'; clear Og1'
  clear Oh0; have Oh0 := Oh0'; clear Oh0'
  clear Oh1; have Oh1 := Oh1'; clear Oh1'
  clear BW; have BW := BW'; clear BW'
  go_wp2_with fail
  refine (eqIntS_same _ _ _ _ _ _ _ (Oh1.out.rd) (Rw1.out.mono (by omega)) (by omega)).mono ?_
  rintro e w11 ⟨rfl, bel⟩
  have Rw0' := Lib.hid (Rw0.out.below (bel.mono (by omega)))
  have Rw1' := Lib.hid (Rw1.out.below (bel.mono (by omega)))
  have Og0' := Lib.hid (Og0.out.below bel)
  have Og1' := Lib.hid (Og1.out.below bel)
  have Oh0' := Lib.hid (Oh0.out.below bel)
  have Oh1' := Lib.hid (Oh1.out.below bel)
  have BW' := Lib.hid (BW.out.trans (bel.mono (by omega)))
  have s11 : w10.heap.size ≤ w11.heap.size := bel.size
  clear bel
  clear Rw0; have Rw0 := Rw0'; clear Rw0'
  clear Rw1; have Rw1 := Rw1'; clear Rw1'
  clear Og0; have Og0 := Og0'; clear Og0'
  clear Og1; have Og1 := Og1'; clear Og1'
  clear Oh0; have Oh0 := Oh0'; clear Oh0'
  clear Oh1; have Oh1 := Oh1'; clear Oh1'
  clear BW; have BW := BW'; clear BW'
  go_wp2_with fail
  refine (heldIntS_iota _ _ _ _ _ Og0.out.rd (by omega) (by omega) (by omega)).mono ?_
  rintro e w12 ⟨rfl, bel⟩
  have Rw0' := Lib.hid (Rw0.out.below (bel.mono (by omega)))
  have Rw1' := Lib.hid (Rw1.out.below (bel.mono (by omega)))
  have Og0' := Lib.hid (Og0.out.below bel)
  have Og1' := Lib.hid (Og1.out.below bel)
  have Oh0' := Lib.hid (Oh0.out.below bel)
  have Oh1' := Lib.hid (Oh1.out.below bel)
  have BW' := Lib.hid (BW.out.trans (bel.mono (by omega)))
  have s12 : w11.heap.size ≤ w12.heap.size := bel.size
  clear bel
  clear Rw0; have Rw0 := Rw0'; clear Rw0'
  clear Rw1; have Rw1 := Rw1'; clear Rw1'
  clear Og0; have Og0 := Og0'; clear Og0'
  clear Og1; have Og1 := Og1'; clear Og1'
  clear Oh0; have Oh0 := Oh0'; clear Oh0'
  clear Oh1; have Oh1 := Oh1'; clear Oh1'
  clear BW; have BW := BW'; clear BW'
  go_wp2_with fail
  refine (heldIntS_iota _ _ _ _ _ Og1.out.rd (by omega) (by omega) (by omega)).mono ?_
  rintro e w13 ⟨rfl, bel⟩
  have Rw0' := Lib.hid (Rw0.out.below (bel.mono (by omega)))
  have Rw1' := Lib.hid (Rw1.out.below (bel.mono (by omega)))
  have Og0' := Lib.hid (Og0.out.below bel)
  have Og1' := Lib.hid (Og1.out.below bel)
  have Oh0' := Lib.hid (Oh0.out.below bel)
  have Oh1' := Lib.hid (Oh1.out.below bel)
  have BW' := Lib.hid (BW.out.trans (bel.mono (by omega)))
  have s13 : w12.heap.size ≤ w13.heap.size := bel.size
  clear bel
  clear Rw0; have Rw0 := Rw0'; clear Rw0'
  clear Rw1; have Rw1 := Rw1'; clear Rw1'
  clear Og0; have Og0 := Og0'; clear Og0'
  clear Og1; have Og1 := Og1'; clear Og1'
  clear Oh0; have Oh0 := Oh0'; clear Oh0'
  clear Oh1; have Oh1 := Oh1'; clear Oh1'
  clear BW; have BW := BW'; clear BW'
  go_wp2_with fail
  go_ret
  exact ⟨rfl, BW.out⟩
end Go.Proofs.Ytbfpllmoaooadaa
