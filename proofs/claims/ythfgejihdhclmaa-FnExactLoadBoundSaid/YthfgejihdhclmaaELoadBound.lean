/- FnExactLoadBound: the walk at the two contracts. -/
import Derived.Test.YthfgejihdhclmaaLoadA
import Derived.Test.YthfgejihdhclmaaWLoadBound
namespace Go.Proofs.Ythfgejihdhclmaa
set_option linter.unusedVariables false
open Go.RowKit
theorem mainExactLoadBound (a0 : Option Addr) (n0 c0 : Nat) (z0 : List Int) (a1 : Int) (w : World) (hd0 : Rd w w.heap.size a0 n0 z0) (_w1 : (Lit.int .i64 a1).wf = true) : Calls Try.prog 3 #[.slice a0 n0 c0, .int .i64 a1] w (RetB w true) := by
  cases hs : ldOk z0 a1 with
  | true => exact walkExactLoadBound a0 n0 c0 z0 a1 (bnd z0 a1) true (fun w A n c ha _ => specLoadBound_yes A n c z0 a1 w ha hs) (fun w A n c ha _ => implLoadBound_yes A n c z0 a1 w ha hs) w hd0
  | false => exact walkExactLoadBound a0 n0 c0 z0 a1 0 false (fun w A n c ha hn => specLoadBound_no A n c z0 a1 w ha (by omega) hs) (fun w A n c ha hn => implLoadBound_no A n c z0 a1 w ha (by omega) hs) w hd0
end Go.Proofs.Ythfgejihdhclmaa
