/- FnExactPanCounts: the walk at the two contracts. -/
import Derived.Test.YtbpnpceikbedbaaPanCountsI
import Derived.Test.YtbpnpceikbedbaaWPanCounts
namespace Go.Proofs.Ytbpnpceikbedbaa
set_option linter.unusedVariables false
open Go.RowKit
theorem pcs_length (xs : List Int) : (pcs xs).length = Cn.tn xs + 1 := by rw [pcs, Cn.rowf, Cn.rw_length]
theorem mainExactPanCounts (a0 : Option Addr) (n0 c0 : Nat) (z0 : List Int) (w : World) (hd0 : Rd w w.heap.size a0 n0 z0) : Calls Try.prog 6 #[.slice a0 n0 c0] w (RetB w true) := by
  cases hs : sumIn z0 with
  | true => exact walkExactPanCounts a0 n0 c0 z0 (pcs z0) true (by rw [pcs_length]; have := tn_600 hs; omega) (fun w A n c ha _ => specPanCounts_yes A n c z0 w ha hs) (fun w A n c ha _ => implPanCounts_yes A n c z0 w ha hs) w hd0
  | false => exact walkExactPanCounts a0 n0 c0 z0 [] false (by simp) (fun w A n c ha hn => specPanCounts_no A n c z0 w ha (by omega) hs) (fun w A n c ha hn => implPanCounts_no A n c z0 w ha (by omega) hs) w hd0
end Go.Proofs.Ytbpnpceikbedbaa
