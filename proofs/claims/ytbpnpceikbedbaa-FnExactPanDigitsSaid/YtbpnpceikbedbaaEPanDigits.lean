/- FnExactPanDigits: the walk at the two contracts. -/
import Derived.Test.YtbpnpceikbedbaaPanDigits
import Derived.Test.YtbpnpceikbedbaaWPanDigits
namespace Go.Proofs.Ytbpnpceikbedbaa
set_option linter.unusedVariables false
open Go.RowKit
theorem own_to_rd {w : World} {xs : List Int} {b : Bool} {e : Ending} {w' : World} (h : RetOwnB w xs b e w') : RetRdB w xs b e w' := by
  obtain ⟨A, n, c, e, ho, hb⟩ := h
  exact ⟨A, n, c, e, ho.rd, hb⟩
theorem mainExactPanDigits (a0 : Int) (w : World) (_w0 : (Lit.int .i64 a0).wf = true) : Calls Try.prog 4 #[.int .i64 a0] w (RetB w true) := by
  by_cases h : -1000000 ≤ a0 ∧ a0 ≤ 1000000
  · exact walkExactPanDigits a0 (Dg.dg a0) true (Nat.le_trans (Dg.dg_len 14 a0 (by omega)) (by omega)) (fun w => (specPanDigits_yes a0 w h).mono fun _ _ => own_to_rd) (fun w => implPanDigits_yes a0 w h) w
  · exact walkExactPanDigits a0 [] false (by simp) (fun w => (specPanDigits_no a0 w h).mono fun _ _ => own_to_rd) (fun w => implPanDigits_no a0 w h) w
end Go.Proofs.Ytbpnpceikbedbaa
