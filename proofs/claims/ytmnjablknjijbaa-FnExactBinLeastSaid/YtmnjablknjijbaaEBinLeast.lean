
/- FnExactBinLeast: the walk at the two contracts. -/
import Derived.Test.YtmnjablknjijbaaLeastK
import Derived.Test.YtmnjablknjijbaaWBinLeast
namespace Go.Proofs.Ytmnjablknjijbaa
set_option linter.unusedVariables false
open Go.RowKit
theorem mainExactBinLeast (a0 : Option Addr) (n0 c0 : Nat) (z0 : List Int) (a1 : Int) (w : World) (hd0 : Rd w w.heap.size a0 n0 z0) (_w1 : (Lit.int .i64 a1).wf = true) : Calls Try.prog 3 #[.slice a0 n0 c0, .int .i64 a1] w (RetB w true) := by
  cases hs : bnOk z0 a1 with
  | true => exact walkExactBinLeast a0 n0 c0 z0 a1 (leastF a1 z0) true (fun w A n c ha _ => specBinLeast_yes A n c z0 a1 w ha hs) (fun w A n c ha _ => implBinLeast_yes A n c z0 a1 w ha hs) w hd0
  | false => exact walkExactBinLeast a0 n0 c0 z0 a1 0 false (fun w A n c ha hn => specBinLeast_no A n c z0 a1 w ha (by omega) hs) (fun w A n c ha hn => implBinLeast_no A n c z0 a1 w ha (by omega) hs) w hd0
end Go.Proofs.Ytmnjablknjijbaa
