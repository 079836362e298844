
/- impl.choose: the bin that a rule chooses. -/
import Derived.Test.YtbihdajoflaknaaRuleS
import Derived.Deep.LoopGhost
namespace Go.Proofs.Ytbihdajoflaknaa
set_option linter.unusedVariables false
open Go.RowKit
/-- The bin of a number. -/
def nxt (gs : List Nat) (k : Nat) : Option Addr := (gs[k]?).map fun g => ⟨g, 0, none⟩
theorem nxt_lt {gs : List Nat} {k : Nat} (h : k < gs.length) : nxt gs k = some ⟨gs.getD k 0, 0, none⟩ := by simp [nxt, List.getD, h]
theorem nxt_end {gs : List Nat} {k : Nat} (h : gs.length ≤ k) : nxt gs k = none := by simp [nxt, h]
/-- The bin chosen. -/
def chp (gs : List Nat) : Option Nat → Option Addr
  | none => none
  | some k => nxt gs k
/-- Rooms and pointers. -/
def Links (w : World) (gs : List Nat) (R : List Int) : Prop := gs.length = R.length ∧ ∀ j, j < R.length → w.cell? ⟨gs.getD j 0, 1, none⟩ = some (.int .i64 (R.getD j 0)) ∧ w.cell? ⟨gs.getD j 0, 2, none⟩ = some (.pointer (nxt gs (j + 1)))
def RetCh (w : World) (p : Option Addr) (e : Ending) (w' : World) : Prop := e = .returned (.pointer p) ∧ ∃ q, w' = w.drewN q
end Go.Proofs.Ytbihdajoflaknaa
