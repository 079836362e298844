/-
  DERIVED. GIVEN WITH THE SEED: THE CARDS: each row of YtehggnafglnmaaaDoorRows.lean that lists a variable, with what it lists TIED to the program's text (the seventh form; the later family's looks); each row that meets fmt, with fmt's text TOLD by the authors' own Lean function (tested against real Go, not proved from fmt's source: count such statements apart). THE CARD IS WHAT COUNTS. Prove the row's statement (the work); the ties are given (YtehggnafglnmaaaDoorTie.lean); close each card by the builder's one call (the guide's Derived/Test/ToyasCard.lean, 'card_holds'). Laid BY PROGRAM, IN A SANDBOX (cutbox-door.mjs). By AI agents, Wed Nov 11 2026. No macro, syntax, notation, axiom, sorry.
-/
import Derived.Test.YtehggnafglnmaaaDoorRows
import GoSem.ClaimSeven
namespace Go.Proofs.YtehggnafglnmaaaDoor
namespace Rows

/-- THE TIED CARD OF 'laws.FnExactPanSides'. -/
def fnExactPanSidesCard : Claim7 := { stood := { row := fnExactPanSidesRow, standIns := [], harness := (true, "ba9412c2df06b43bbaa2893fbf1e1bce816f943c893c52bc2531a9feb210b630"), looks := true }, kinds := [], alts := [], laidByText := true, laidKinds := [.handle], laidTests := true, laidLooks := .later }
def FnExactPanSidesCardSaid : Prop := Claim7.holds Tryd.pinned (.plain (OpenSpec.ofChange fnExactPanSidesSpec)) fnExactPanSidesCard

/-- THE SECOND FORM's CARD OF 'laws.FnExactPanSides'. -/
def fnExactPanSidesUptoCard : Claim7 := { stood := { row := fnExactPanSidesUptoRow, standIns := [], harness := (true, "ba9412c2df06b43bbaa2893fbf1e1bce816f943c893c52bc2531a9feb210b630"), looks := true }, kinds := [], alts := [], laidByText := true, laidKinds := [.handle], laidTests := true, laidLooks := .later }
def FnExactPanSidesUptoCardSaid : Prop := Claim7.holds Tryd.pinned (.plain (OpenSpec.upto fnExactPanSidesSpec)) fnExactPanSidesUptoCard
end Rows
end Go.Proofs.YtehggnafglnmaaaDoor
