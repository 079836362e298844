
/- FnExactPanWeighed: the walk at the two contracts. -/
import Derived.Test.YtbpnpceikbedbaaWeighJ
import Derived.Test.YtbpnpceikbedbaaWPanWeighed
namespace Go.Proofs.Ytbpnpceikbedbaa
set_option linter.unusedVariables false
open Go.RowKit
theorem mainExactPanWeighed (a0 : Option Addr) (n0 c0 : Nat) (z0 : List Int) (a1 : Int) (w : World) (hd0 : Rd w w.heap.size a0 n0 z0) (_w1 : (Lit.int .i64 a1).wf = true) : Calls Try.prog 5 #[.slice a0 n0 c0, .int .i64 a1] w (RetB w true) := by
  cases hs : pwOk z0 a1 with
  | true =>
    have hl : ((Wg.firstW z0 a1).getD []).length ≤ 1000000 := by
      cases hF : Wg.firstW z0 a1 with
      | none => simp
      | some r =>
        rcases pwOk_cases hs with ⟨_, h'⟩ | ⟨h1, _⟩
        · cases h'
        · have := sumIn_len h1; have := Wg.firstW_len hF; simp; omega
    exact walkExactPanWeighed a0 n0 c0 z0 a1 ((Wg.firstW z0 a1).getD []) (Wg.firstW z0 a1).isSome hl (fun w A n c ha _ hc => (specPanWeighed_yes A n c z0 a1 w ha hc hs).mono fun _ _ ⟨A, n, c, e, ho, hb⟩ => ⟨A, n, c, e, ho.rd, hb⟩) (fun w A n c ha _ _ => implPanWeighed_yes A n c z0 a1 w ha hs) w hd0
  | false => exact walkExactPanWeighed a0 n0 c0 z0 a1 [] false (by simp) (fun w A n c ha hn _ => (specPanWeighed_no A n c z0 a1 w ha (by omega) hs).mono fun _ _ ⟨A, n, c, e, ho, hb⟩ => ⟨A, n, c, e, ho.rd, hb⟩) (fun w A n c ha hn _ => implPanWeighed_no A n c z0 a1 w ha (by omega) hs) w hd0
end Go.Proofs.Ytbpnpceikbedbaa
