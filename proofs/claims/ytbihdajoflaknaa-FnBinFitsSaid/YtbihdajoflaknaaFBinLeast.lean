
/- FnBinLeast: least numbers are at least the bound: the walk. -/
import Derived.Test.YtbihdajoflaknaaLeastK
import Derived.Test.YtbihdajoflaknaaBinB
import Derived.Test.YtbihdajoflaknaaDrawC
namespace Go.Proofs.Ytbihdajoflaknaa
set_option linter.unusedVariables false
open Go.RowKit
/-- There is a least number. -/
theorem least_any {C : Int} {xs : List Int} (hx : ∀ x ∈ xs, 0 ≤ x ∧ x ≤ C) : Pk.IsLeast C xs (leastF C xs) := by
  have hp : ∀ x ∈ xs, 0 ≤ x := fun x hm => (hx x hm).1
  have h0 : Pk.Packs xs C xs.length := (Pk.can_packs hp).1 (Pk.packs_len xs hx)
  have : ∃ k, Pk.IsLeast C xs k := by
    classical
    have hex : ∃ k, Pk.Packs xs C k := ⟨_, h0⟩
    have key : ∀ n, Pk.Packs xs C n → ∃ k, Pk.IsLeast C xs k := by
      intro n
      induction n using Nat.strongRecOn with
      | ind n ih =>
        intro hn
        by_cases hm : ∃ m, m < n ∧ Pk.Packs xs C m
        · obtain ⟨m, h1, h2⟩ := hm
          exact ih m h1 h2
        · refine ⟨n, hn, fun m hm2 => ?_⟩
          rcases Nat.lt_or_ge m n with h | h
          · exact absurd ⟨m, h, hm2⟩ hm
          · exact h
    exact key _ h0
  exact Classical.epsilon_spec this
end Go.Proofs.Ytbihdajoflaknaa
