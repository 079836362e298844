/- FnExactPanWhole: the walk at the two contracts. -/
import Derived.Test.YtbpnpceikbedbaaPanWhole
import Derived.Test.YtbpnpceikbedbaaWPanWhole
namespace Go.Proofs.Ytbpnpceikbedbaa
set_option linter.unusedVariables false
open Go.RowKit
theorem mainExactPanWhole (a0 : Option Addr) (n0 c0 : Nat) (z0 : List Int) (w : World) (hd0 : Rd w w.heap.size a0 n0 z0) : Calls Try.prog 8 #[.slice a0 n0 c0] w (RetB w true) := by
  cases hs : sumIn z0 with
  | true => exact walkExactPanWhole a0 n0 c0 z0 (whole (pcs z0)) true (fun w A n c ha _ => specPanWhole_yes A n c z0 w ha hs) (fun w A n c ha _ => implPanWhole_yes A n c z0 w ha hs) w hd0
  | false => exact walkExactPanWhole a0 n0 c0 z0 0 false (fun w A n c ha hn => specPanWhole_no A n c z0 w ha (by omega) hs) (fun w A n c ha hn => implPanWhole_no A n c z0 w ha (by omega) hs) w hd0
end Go.Proofs.Ytbpnpceikbedbaa
