
/- FnExactPowerFind: the walk at the two contracts. -/
import Derived.Test.YtbfpllmoaooadaaFFind
import Derived.Test.YtbfpllmoaooadaaWPowerFind
namespace Go.Proofs.Ytbfpllmoaooadaa
set_option linter.unusedVariables false
open Go.RowKit
theorem RetOwn2B.rdF {w : World} {xs ys : List Int} {b : Bool} {e : Ending} {w' : World} (h : RetOwn2B w xs ys b e w') : RetRd2B w xs ys b e w' := by
  obtain ⟨A, n, c, B, m, d, h1, h2, h3, _, h4⟩ := h
  exact ⟨A, n, c, B, m, d, h1, h2.rd, h3.rd, h4⟩
theorem mainExactPowerFind (a0 : Int) (w : World) (_w0 : (Lit.int .i64 a0).wf = true) : Calls Try.prog 15 #[.int .i64 a0] w (RetB w true) := by
  by_cases h : 4 ≤ a0 ∧ a0 ≤ 12
  · exact walkExactPowerFind a0 [0, 3, 3] [1, 1, 4] true (by simp) (by simp) (fun w => (specFind_at a0 h w).mono fun _ _ => RetOwn2B.rdF) (fun w => implFind_at a0 h w) w
  · exact walkExactPowerFind a0 [] [] false (by simp) (by simp) (fun w => (specFind_not a0 h w).mono fun _ _ => RetOwn2B.rdF) (fun w => implFind_not a0 h w) w
end Go.Proofs.Ytbfpllmoaooadaa
