
/- The letters of rules. -/
import Derived.Test.YtbihdajoflaknaaSum
import Derived.Test.YtbihdajoflaknaaBinP
import Derived.WalkLawsBesides
namespace Go.Proofs.Ytbihdajoflaknaa
set_option linter.unusedVariables false
open Go.RowKit
/-- A byte, and a world that has grown. -/
def RetU (w : World) (x : Int) (e : Ending) (w' : World) : Prop := e = .returned (.int .u8 x) ∧ Below w.heap.size w w'
/-- The letters, the rules in order. -/
def lb : Nat → Int
  | 0 => 110
  | 1 => 102
  | 2 => 98
  | _ => 119
end Go.Proofs.Ytbihdajoflaknaa
