
/- FnExactBinBy: the walk at the two contracts. -/
import Derived.Test.YtmnjablknjijbaaWBinBy
namespace Go.Proofs.Ytmnjablknjijbaa
set_option linter.unusedVariables false
open Go.RowKit
theorem mainExactBinBy (a0 : Option Addr) (n0 c0 : Nat) (z0 : List Int) (a1 : Int) (a2 : ByteArray) (w : World) (hd0 : Rd w w.heap.size a0 n0 z0) (_w1 : (Lit.int .i64 a1).wf = true) (_w2 : a2.size ≤ maxLen) : Calls Try.prog 8 #[.slice a0 n0 c0, .int .i64 a1, .string a2] w (RetB w true) := by
  cases hs : bkOk z0 a1 a2 with
  | true =>
    obtain ⟨hp, hl, _⟩ := binsF_in hs
    have h10 := (bnOk_in (bkOk_true hs).1).1
    have hfl := hp.length_eq
    exact walkExactBinBy a0 n0 c0 z0 a1 a2 (binsF z0 a1 a2) true (by omega) (by omega) (fun w A n c ha hn => specBinBy_yes A n c z0 a1 a2 w ha hs) (fun w A n c ha _ => implBinBy_yes A n c z0 a1 a2 w ha hs) w hd0
  | false =>
    exact walkExactBinBy a0 n0 c0 z0 a1 a2 [] false (by simp) (by simp) (fun w A n c ha hn => specBinBy_no A n c z0 a1 a2 w ha (by omega) hs) (fun w A n c ha hn => implBinBy_no A n c z0 a1 a2 w ha (by omega) hs) w hd0
end Go.Proofs.Ytmnjablknjijbaa
