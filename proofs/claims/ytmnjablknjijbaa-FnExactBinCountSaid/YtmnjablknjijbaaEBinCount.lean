
/- FnExactBinCount: the walk at the two contracts. -/
import Derived.Test.YtmnjablknjijbaaSpecB
import Derived.Test.YtmnjablknjijbaaWBinCount
namespace Go.Proofs.Ytmnjablknjijbaa
set_option linter.unusedVariables false
open Go.RowKit
theorem mainExactBinCount (a0 : Option Addr) (n0 c0 : Nat) (z0 : List Int) (a1 : Int) (a2 : ByteArray) (w : World) (hd0 : Rd w w.heap.size a0 n0 z0) (_w1 : (Lit.int .i64 a1).wf = true) (_w2 : a2.size ≤ maxLen) : Calls Try.prog 6 #[.slice a0 n0 c0, .int .i64 a1, .string a2] w (RetB w true) := by
  cases hs : bkOk z0 a1 a2 with
  | true => exact walkExactBinCount a0 n0 c0 z0 a1 a2 ((binsF z0 a1 a2).length : Nat) true (fun w A n c ha hn => specBinCount_any A n c z0 a1 a2 w ha (by omega) true hs) (fun w A n c ha _ => implBinCount_yes A n c z0 a1 a2 w ha hs) w hd0
  | false => exact walkExactBinCount a0 n0 c0 z0 a1 a2 0 false (fun w A n c ha hn => specBinCount_any A n c z0 a1 a2 w ha (by omega) false hs) (fun w A n c ha hn => implBinCount_no A n c z0 a1 a2 w ha (by omega) hs) w hd0
end Go.Proofs.Ytmnjablknjijbaa
