
/- FnExactPanNumber: the walk at the two contracts. -/
import Derived.Test.YtmakekolaclgnaaDoorPanNum
import Derived.Test.YtmakekolaclgnaaDoorWPanNumber
namespace Go.Proofs.YtmakekolaclgnaaDoor
set_option linter.unusedVariables false
open Go.RowKit
theorem mainExactPanNumber (a0 : Option Addr) (n0 c0 : Nat) (z0 : List Int) (w : World) (hgl : GL w) (hd0 : Rd w w.heap.size a0 n0 z0) : Calls Tryd.prog 3 #[.slice a0 n0 c0] w (RetB w true) :=
  walkExactPanNumber a0 n0 c0 z0 (if dgOk z0 then Dg.nm z0 else 0) (dgOk z0)
    (fun w A n c ha hn => specPanNumber_any A n c z0 w ha (by omega) _ rfl) (fun w A n c ha hn hg => implPanNumber_any A n c z0 w ha (by omega) hg _ rfl) w hgl hd0
end Go.Proofs.YtmakekolaclgnaaDoor
