/- FnExactPanBest: the walk at the two contracts. -/
import Derived.Test.YtbpnpceikbedbaaPanBest
import Derived.Test.YtbpnpceikbedbaaWPanBest
namespace Go.Proofs.Ytbpnpceikbedbaa
open Go.RowKit
theorem pw_length : ∀ n, (pw n).length = n
  | 0 => rfl
  | n + 1 => by simp [pw, pw_length n]
theorem mainExactPanBest (a0 : Int) (w : World) (_w0 : (Lit.int .i64 a0).wf = true) : Calls Try.prog 3 #[.int .i64 a0] w (RetB w true) := by
  by_cases h : 0 ≤ a0 ∧ a0 ≤ 4
  · obtain ⟨n, rfl⟩ := Int.eq_ofNat_of_zero_le h.1
    have hn : n ≤ 4 := by omega
    exact walkExactPanBest n (pw n) true (by rw [pw_length]; omega) (fun w => (specPanBest_yes n w hn).mono fun _ _ ⟨A, n, c, e, ho, hb⟩ => ⟨A, n, c, e, ho.rd, hb⟩) (fun w => implPanBest_yes n w hn) w
  · exact walkExactPanBest a0 [] false (by simp) (fun w => (specPanBest_no a0 w h).mono fun _ _ ⟨A, n, c, e, ho, hb⟩ => ⟨A, n, c, e, ho.rd, hb⟩) (fun w => implPanBest_no a0 w h) w
end Go.Proofs.Ytbpnpceikbedbaa
