
/- FnExactPowerThue: the walk at the two contracts. -/
import Derived.Test.YtbfpllmoaooadaaThueI
import Derived.Test.YtbfpllmoaooadaaThueS
import Derived.Test.YtbfpllmoaooadaaWPowerThue
namespace Go.Proofs.Ytbfpllmoaooadaa
set_option linter.unusedVariables false
open Go.RowKit
theorem RetOwn2B.rdT {w : World} {xs ys : List Int} {b : Bool} {e : Ending} {w' : World} (h : RetOwn2B w xs ys b e w') : RetRd2B w xs ys b e w' := by
  obtain ⟨A, n, c, B, m, d, h1, h2, h3, _, h4⟩ := h
  exact ⟨A, n, c, B, m, d, h1, h2.rd, h3.rd, h4⟩
theorem thue_len (m : Nat) : (Th.evn m).length ≤ m ∧ (Th.odd m).length ≤ m := by
  unfold Th.evn Th.odd
  rw [List.length_map, List.length_map]
  have h1 := List.length_filter_le (fun c => Th.ones c % 2 == 0) (List.range m)
  have h2 := List.length_filter_le (fun c => !(Th.ones c % 2 == 0)) (List.range m)
  simp at h1 h2 ⊢
  exact ⟨h1, h2⟩
theorem mainExactPowerThue (a0 : Int) (w : World) (_w0 : (Lit.int .i64 a0).wf = true) : Calls Try.prog 6 #[.int .i64 a0] w (RetB w true) := by
  by_cases h : 1 ≤ a0 ∧ a0 ≤ 4
  · obtain ⟨N, hN⟩ : ∃ N : Nat, a0 = 1 ∧ N = 2 ∨ a0 = 2 ∧ N = 4 ∨ a0 = 3 ∧ N = 8 ∨ a0 = 4 ∧ N = 16 := by
      rcases (show a0 = 1 ∨ a0 = 2 ∨ a0 = 3 ∨ a0 = 4 from by omega) with rfl | rfl | rfl | rfl
      · exact ⟨2, by omega⟩
      · exact ⟨4, by omega⟩
      · exact ⟨8, by omega⟩
      · exact ⟨16, by omega⟩
    have l := thue_len N
    exact walkExactPowerThue a0 (Th.evn N) (Th.odd N) true (by omega) (by omega) (fun w => (specThue_yes a0 N hN w).mono fun _ _ => RetOwn2B.rdT) (fun w => implThue_yes a0 N hN w) w
  · exact walkExactPowerThue a0 [] [] false (by simp) (by simp) (fun w => (specThue_no a0 h w).mono fun _ _ => RetOwn2B.rdT) (fun w => implThue_no a0 h w) w
end Go.Proofs.Ytbfpllmoaooadaa
