
/- slices.Clone of ints, nil too. -/
import Derived.Test.YtbihdajoflaknaaClone
namespace Go.Proofs.Ytbihdajoflaknaa
set_option linter.unusedVariables false
open Go.RowKit
theorem clone_none (c : Nat) (w : World) : Calls Try.prog 31 #[.slice none 0 c] w (RetOwn w []) := by
  have hnil := fun wx => Lib.run_eql_slice_nil (P := Try.prog) (w := wx) 22 3 none 0 c 0 0 Try.underlying22
  go_enter Try.func31, Try.ntmps31
  go_wp2_with fail
  go_ret
  exact ⟨none, 0, 0, rfl, Own.nil _ _, Below.refl _ _⟩
theorem clone_any (A : Option Addr) (n c : Nat) (xs : List Int) (w : World) (ha : Rd w w.heap.size A n xs) (hn : n ≤ 1000000000) :
    Calls Try.prog 31 #[.slice A n c] w (RetOwn w xs) := by
  cases A with
  | some ad => exact clone_some ad n c xs w ha hn
  | none =>
    have h0 : n = 0 := by
      rcases Nat.eq_zero_or_pos n with h | h
      · exact h
      · obtain ⟨_, _, e, _⟩ := ha.at_ h; cases e
    subst h0
    obtain rfl : xs = [] := List.eq_nil_of_length_eq_zero ha.len
    exact clone_none c w
end Go.Proofs.Ytbihdajoflaknaa
