/- The walk of FnExactPanDigits: out of the two functions' contracts. -/
import Derived.Test.YtbpnpceikbedbaaLib
namespace Go.Proofs.Ytbpnpceikbedbaa
set_option linter.unusedVariables false
open Go.RowKit

set_option maxRecDepth 100000 in
set_option maxHeartbeats 1600000 in
theorem walkExactPanDigits (a0 : Int) (R0 : List Int) (ok : Bool)
    (hR0 : R0.length ≤ 1000000)
    (hs : ∀ (w : World), Calls Try.prog 14 #[.int .i64 a0] w (RetRdB w R0 ok))
    (hi : ∀ (w : World), Calls Try.prog 15 #[.int .i64 a0] w (RetOwnB w R0 ok))
    (w : World) : Calls Try.prog 4 #[.int .i64 a0] w (RetB w true) := by
  have hok : (ok != ok) = false := by simp
  have HS := Lib.hid hs
  have HI := Lib.hid hi
  clear hs hi
  go_enter Try.func4, Try.ntmps4
  go_wp2_with fail
  have BW := Lib.hid (Below.refl w.heap.size w)
  refine (HS.out _).mono ?_
  rintro e w1 ⟨Aw0, Nw0, Cw0, rfl, hw0, bel⟩
  have xw0 : Nw0 = R0.length := hw0.len.symm
  subst xw0
  have BW' := Lib.hid (BW.out.trans (bel.mono (by omega)))
  have s1 : w.heap.size ≤ w1.heap.size := bel.size
  clear bel
  clear BW; have BW := BW'; clear BW'
  have Rw0 := Lib.hid hw0; clear hw0
  go_wp2_with fail
  refine (HI.out _).mono ?_
  rintro e w2 ⟨Ag0, Ng0, Cg0, rfl, hg0, bel⟩
  have xg0 : Ng0 = R0.length := hg0.len.symm
  subst xg0
  have Rw0' := Lib.hid (Rw0.out.below (bel.mono (by omega)))
  have BW' := Lib.hid (BW.out.trans (bel.mono (by omega)))
  have s2 : w1.heap.size ≤ w2.heap.size := bel.size
  clear bel
  clear Rw0; have Rw0 := Rw0'; clear Rw0'
  clear BW; have BW := BW'; clear BW'
  have Og0 := Lib.hid hg0; have UOg0 := Lib.hid (fun g e => (hg0.lt g e).2); clear hg0
  go_wp2_with fail
  refine (eqIntS_same _ _ _ _ _ _ _ (Og0.out.rd) (Rw0.out.mono (by omega)) (by omega)).mono ?_
  rintro e w3 ⟨rfl, bel⟩
  have Rw0' := Lib.hid (Rw0.out.below (bel.mono (by omega)))
  have Og0' := Lib.hid (Og0.out.below bel)
  have BW' := Lib.hid (BW.out.trans (bel.mono (by omega)))
  have s3 : w2.heap.size ≤ w3.heap.size := bel.size
  clear bel
  clear Rw0; have Rw0 := Rw0'; clear Rw0'
  clear Og0; have Og0 := Og0'; clear Og0'
  clear BW; have BW := BW'; clear BW'
  go_wp2_with fail
  refine (markIntS_any _ _ _ _ _ _ _ Og0.out (by omega) (by omega) (by omega)).mono ?_
  rintro e w4 ⟨rfl, ow, hg⟩
  have Rw0' := Lib.hid (Rw0.out.grown hg (by omega) (fun g e => by have := (Og0.out.lt g e).1; omega))
  have BW' := Lib.hid (BW.out.grown hg (by omega) (fun g e => by have := (Og0.out.lt g e).1; omega))
  have s4 : w3.heap.size ≤ w4.heap.size := hg.size
  clear Og0
  have Og0 := Lib.hid ow
  clear ow hg
  clear Rw0; have Rw0 := Rw0'; clear Rw0'
  clear BW; have BW := BW'; clear BW'
  go_wp2_with fail
  refine (heldIntS_iota _ _ _ _ _ Og0.out.rd (by omega) (by omega) (by omega)).mono ?_
  rintro e w5 ⟨rfl, bel⟩
  have Rw0' := Lib.hid (Rw0.out.below (bel.mono (by omega)))
  have Og0' := Lib.hid (Og0.out.below bel)
  have BW' := Lib.hid (BW.out.trans (bel.mono (by omega)))
  have s5 : w4.heap.size ≤ w5.heap.size := bel.size
  clear bel
  clear Rw0; have Rw0 := Rw0'; clear Rw0'
  clear Og0; have Og0 := Og0'; clear Og0'
  clear BW; have BW := BW'; clear BW'
  go_wp2_with fail
  refine (HI.out _).mono ?_
  rintro e w6 ⟨Ah0, Nh0, Ch0, rfl, hh0, bel⟩
  have xh0 : Nh0 = R0.length := hh0.len.symm
  subst xh0
  have Rw0' := Lib.hid (Rw0.out.below (bel.mono (by omega)))
  have Og0' := Lib.hid (Og0.out.below bel)
  have BW' := Lib.hid (BW.out.trans (bel.mono (by omega)))
  have s6 : w5.heap.size ≤ w6.heap.size := bel.size
  clear bel
  clear Rw0; have Rw0 := Rw0'; clear Rw0'
  clear Og0; have Og0 := Og0'; clear Og0'
  clear BW; have BW := BW'; clear BW'
  have Oh0 := Lib.hid hh0; have UOh0 := Lib.hid (fun g e => (hh0.lt g e).2); clear hh0
  go_wp2_with fail
  refine (eqIntS_same _ _ _ _ _ _ _ (Oh0.out.rd) (Rw0.out.mono (by omega)) (by omega)).mono ?_
  rintro e w7 ⟨rfl, bel⟩
  have Rw0' := Lib.hid (Rw0.out.below (bel.mono (by omega)))
  have Og0' := Lib.hid (Og0.out.below bel)
  have Oh0' := Lib.hid (Oh0.out.below bel)
  have BW' := Lib.hid (BW.out.trans (bel.mono (by omega)))
  have s7 : w6.heap.size ≤ w7.heap.size := bel.size
  clear bel
  clear Rw0; have Rw0 := Rw0'; clear Rw0'
  clear Og0; have Og0 := Og0'; clear Og0'
  clear Oh0; have Oh0 := Oh0'; clear Oh0'
  clear BW; have BW := BW'; clear BW'
  go_wp2_with fail
  refine (heldIntS_iota _ _ _ _ _ Og0.out.rd (by omega) (by omega) (by omega)).mono ?_
  rintro e w8 ⟨rfl, bel⟩
  have Rw0' := Lib.hid (Rw0.out.below (bel.mono (by omega)))
  have Og0' := Lib.hid (Og0.out.below bel)
  have Oh0' := Lib.hid (Oh0.out.below bel)
  have BW' := Lib.hid (BW.out.trans (bel.mono (by omega)))
  have s8 : w7.heap.size ≤ w8.heap.size := bel.size
  clear bel
  clear Rw0; have Rw0 := Rw0'; clear Rw0'
  clear Og0; have Og0 := Og0'; clear Og0'
  clear Oh0; have Oh0 := Oh0'; clear Oh0'
  clear BW; have BW := BW'; clear BW'
  go_wp2_with fail
  go_ret
  exact ⟨rfl, BW.out⟩
end Go.Proofs.Ytbpnpceikbedbaa
