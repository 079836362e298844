/- FnExactLoadLong: the walk at the two contracts. -/
import Derived.Test.YthfgejihdhclmaaLoadLong
import Derived.Test.YthfgejihdhclmaaWLoadLong
namespace Go.Proofs.Ythfgejihdhclmaa
set_option linter.unusedVariables false
open Go.RowKit
theorem mainExactLoadLong (a0 : Option Addr) (n0 c0 : Nat) (z0 : List Int) (a1 : Int) (w : World) (hd0 : Rd w w.heap.size a0 n0 z0) (_w1 : (Lit.int .i64 a1).wf = true) : Calls Try.prog 10 #[.slice a0 n0 c0, .int .i64 a1] w (RetB w true) := by
  cases hs : ldOk z0 a1 with
  | true =>
    obtain ⟨h1, h2, h3⟩ := ldOk_true hs
    obtain ⟨m, rfl⟩ := Int.eq_ofNat_of_zero_le (show 0 ≤ a1 by omega)
    exact walkExactLoadLong a0 n0 c0 z0 m (Ld.mx (sus m (Srt.dn z0))) true (fun w A n c ha _ => specLoadLong_yes A n c z0 m w ha hs) (fun w A n c ha _ => implLoadLong_yes A n c z0 m w ha hs) w hd0
  | false => exact walkExactLoadLong a0 n0 c0 z0 a1 0 false (fun w A n c ha hn => specLoadLong_no A n c z0 a1 w ha (by omega) hs) (fun w A n c ha hn => implLoadLong_no A n c z0 a1 w ha (by omega) hs) w hd0
end Go.Proofs.Ythfgejihdhclmaa
