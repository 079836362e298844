
/- FnExactPowerScaled: the walk at the two contracts. -/
import Derived.Test.YtbfpllmoaooadaaScaled
import Derived.Test.YtbfpllmoaooadaaWPowerScaled
namespace Go.Proofs.Ytbfpllmoaooadaa
set_option linter.unusedVariables false
open Go.RowKit
theorem RetOwnB.rdS {w : World} {xs : List Int} {b : Bool} {e : Ending} {w' : World} (h : RetOwnB w xs b e w') : RetRdB w xs b e w' := by
  obtain ⟨A, n, c, h1, h2, h3⟩ := h
  exact ⟨A, n, c, h1, h2.rd, h3⟩
theorem scOr_len (xs : List Int) (t : Int) (b : Bool) (hb : scOk xs t = b) : (scOr xs t b).length ≤ 1000000 := by
  unfold scOr
  split
  · rename_i h
    have := (pIn_true.1 (scOk_true.1 (hb.trans h)).1).1
    rw [(Srt.up_perm _).length_eq, sc_len]; omega
  · simp
theorem mainExactPowerScaled (a0 : Option Addr) (n0 c0 : Nat) (z0 : List Int) (a1 : Int) (w : World) (hd0 : Rd w w.heap.size a0 n0 z0) (_w1 : (Lit.int .i64 a1).wf = true) : Calls Try.prog 18 #[.slice a0 n0 c0, .int .i64 a1] w (RetB w true) := by
  obtain ⟨b, hb⟩ : ∃ b, scOk z0 a1 = b := ⟨_, rfl⟩
  exact walkExactPowerScaled a0 n0 c0 z0 a1 (scOr z0 a1 b) b (scOr_len z0 a1 b hb) (fun w A n c ha hn => (specPowerScaled_any A n c z0 a1 w ha (by omega) b hb).mono fun _ _ => RetOwnB.rdS) (fun w A n c ha hn => implPowerScaled_any A n c z0 a1 w ha (by omega) b hb) w hd0
end Go.Proofs.Ytbfpllmoaooadaa
