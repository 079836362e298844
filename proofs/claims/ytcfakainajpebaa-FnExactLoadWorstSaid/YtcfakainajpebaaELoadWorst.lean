
/- FnExactLoadWorst: the walk at the two contracts. -/
import Derived.Test.YtcfakainajpebaaWorstL
import Derived.Test.YtcfakainajpebaaWLoadWorst
namespace Go.Proofs.Ytcfakainajpebaa
set_option linter.unusedVariables false
open Go.RowKit
theorem mainExactLoadWorst (a0 : Option Addr) (n0 c0 : Nat) (z0 : List Int) (a1 : Int) (w : World) (hd0 : Rd w w.heap.size a0 n0 z0) (_w1 : (Lit.int .i64 a1).wf = true) : Calls Try.prog 3 #[.slice a0 n0 c0, .int .i64 a1] w (RetB w true) := by
  cases hs : wok z0 a1 with
  | true =>
    obtain ⟨h0, h4⟩ : ldOk z0 a1 = true ∧ True := by
      unfold wok at hs
      rw [Bool.and_eq_true] at hs
      exact ⟨hs.1, trivial⟩
    obtain ⟨h1, h2, h3⟩ := ldOk_true h0
    obtain ⟨m, rfl⟩ := Int.eq_ofNat_of_zero_le (show 0 ≤ a1 by omega)
    exact walkExactLoadWorst a0 n0 c0 z0 m (worstF m z0) true (fun w A n c ha _ hc => specLoadWorst_yes A n c z0 m w ha hc hs) (fun w A n c ha _ _ => implLoadWorst_yes A n c z0 m w ha hs) w hd0
  | false => exact walkExactLoadWorst a0 n0 c0 z0 a1 0 false (fun w A n c ha hn _ => specLoadWorst_no A n c z0 a1 w ha (by omega) hs) (fun w A n c ha hn _ => implLoadWorst_no A n c z0 a1 w ha (by omega) hs) w hd0
end Go.Proofs.Ytcfakainajpebaa
