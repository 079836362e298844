
/- A region by its one outcome: the walk behind it stands beside the region's own proof, not beneath it (instantiating the region's many orders else multiplies what stands beneath). -/
import Derived.Test.YtbihdajoflaknaaMem
namespace Go.Proofs.Ytbihdajoflaknaa
set_option linter.unusedVariables false
open Go.RowKit
/-- The one outcome. -/
def OneWay (A : Act) (W : World) : Exit → Act → World → Prop
  | .normal, a, w => a = A ∧ w = W
  | _, _, _ => False
theorem wp_to {P : Program} {c : Code} {Q : Exit → Act → World → Prop} {a : Act} {w : World} (A : Act) (W : World) (h : c.wp P (OneWay A W) a w) (k : Q .normal A W) : c.wp P Q a w := by
  refine Code.wp_mono (fun e a' w' h' => ?_) h
  cases e <;> first | exact h'.elim | skip
  obtain ⟨rfl, rfl⟩ := h'
  exact k
end Go.Proofs.Ytbihdajoflaknaa
