
/- FnExactPowerIn: the walk at the two contracts. -/
import Derived.Test.YtbfpllmoaooadaaPowIn
import Derived.Test.YtbfpllmoaooadaaWPowerIn
namespace Go.Proofs.Ytbfpllmoaooadaa
set_option linter.unusedVariables false
open Go.RowKit
theorem mainExactPowerIn (a0 : Option Addr) (n0 c0 : Nat) (z0 : List Int) (w : World) (hd0 : Rd w w.heap.size a0 n0 z0) : Calls Try.prog 3 #[.slice a0 n0 c0] w (RetB w true) :=
  walkExactPowerIn a0 n0 c0 z0 (pIn z0) (fun w A n c ha _ => (specPowerIn_any A n c z0 w ha (by omega) _ rfl).mono fun _ _ => retB_of_Q) (fun w A n c ha _ => (implPowerIn_any A n c z0 w ha (by omega) _ rfl).mono fun _ _ => retB_of_Q) w hd0
end Go.Proofs.Ytbfpllmoaooadaa
