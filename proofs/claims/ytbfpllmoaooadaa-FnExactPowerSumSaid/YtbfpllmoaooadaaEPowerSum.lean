
/- FnExactPowerSum: the walk at the two contracts. -/
import Derived.Test.YtbfpllmoaooadaaPowerSum
import Derived.Test.YtbfpllmoaooadaaWPowerSum
namespace Go.Proofs.Ytbfpllmoaooadaa
set_option linter.unusedVariables false
open Go.RowKit
theorem mainExactPowerSum (a0 : Option Addr) (n0 c0 : Nat) (z0 : List Int) (a1 : Int) (w : World) (hd0 : Rd w w.heap.size a0 n0 z0) (_w1 : (Lit.int .i64 a1).wf = true) : Calls Try.prog 5 #[.slice a0 n0 c0, .int .i64 a1] w (RetB w true) := by
  by_cases h : pIn z0 = false ∨ ¬ (0 ≤ a1 ∧ a1 ≤ 6)
  · exact walkExactPowerSum a0 n0 c0 z0 a1 0 false (fun w A n c ha hn => specPowerSum_no A n c z0 a1 w ha (by omega) h) (fun w A n c ha hn => implPowerSum_no A n c z0 a1 w ha (by omega) h) w hd0
  · have hp : pIn z0 = true := by cases e : pIn z0 <;> simp_all
    have hk : 0 ≤ a1 ∧ a1 ≤ 6 := by
      by_cases h2 : 0 ≤ a1 ∧ a1 ≤ 6
      · exact h2
      · exact absurd (Or.inr h2) h
    obtain ⟨k, rfl⟩ := Int.eq_ofNat_of_zero_le hk.1
    exact walkExactPowerSum a0 n0 c0 z0 k (Nw.ps k z0) true (fun w A n c ha _ => specPowerSum_yes A n c z0 k w ha hp (by omega)) (fun w A n c ha _ => implPowerSum_yes A n c z0 k w ha hp (by omega)) w hd0
end Go.Proofs.Ytbfpllmoaooadaa
