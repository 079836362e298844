/-
  DERIVED. GIVEN WITH THE SEED: THE CARDS: each row of YtmakekolaclgnaaDoorRows.lean that lists a variable, with what it lists TIED to the program's text (the seventh form; the later family's looks); each row that meets fmt, with fmt's text TOLD by the authors' own Lean function (tested against real Go, not proved from fmt's source: count such statements apart). THE CARD IS WHAT COUNTS. Prove the row's statement (the work); the ties are given (YtmakekolaclgnaaDoorTie.lean); close each card by the builder's one call (the guide's Derived/Test/ToyasCard.lean, 'card_holds'). Laid BY PROGRAM, IN A SANDBOX (cutbox-door.mjs). By AI agents, Wed Nov 11 2026. No macro, syntax, notation, axiom, sorry.
-/
import Derived.Test.YtmakekolaclgnaaDoorRows
import GoSem.ClaimSeven
namespace Go.Proofs.YtmakekolaclgnaaDoor
namespace Rows

/-- THE TIED CARD OF 'laws.FnExactPanNumber'. -/
def fnExactPanNumberCard : Claim7 := { stood := { row := fnExactPanNumberRow, standIns := [], harness := (true, "0a407dc4ad1fedb223d02c96bed4690a53315585912e909b9d34d9b203d2a479"), looks := true }, kinds := [], alts := [], laidByText := true, laidKinds := [.handle], laidTests := true, laidLooks := .later }
def FnExactPanNumberCardSaid : Prop := Claim7.holds Tryd.pinned (.plain (OpenSpec.ofChange fnExactPanNumberSpec)) fnExactPanNumberCard

/-- THE TIED CARD OF 'laws.FnDigits'. -/
def fnDigitsCard : Claim7 := { stood := { row := fnDigitsRow, standIns := [], harness := (true, "0a407dc4ad1fedb223d02c96bed4690a53315585912e909b9d34d9b203d2a479"), looks := true }, kinds := [], alts := [], laidByText := true, laidKinds := [.handle], laidTests := true, laidLooks := .later }
def FnDigitsCardSaid : Prop := Claim7.holds Tryd.pinned (.plain (OpenSpec.ofChange fnDigitsSpec)) fnDigitsCard

/-- THE TIED CARD OF 'laws.FnExactPanAdd'. -/
def fnExactPanAddCard : Claim7 := { stood := { row := fnExactPanAddRow, standIns := [], harness := (true, "0a407dc4ad1fedb223d02c96bed4690a53315585912e909b9d34d9b203d2a479"), looks := true }, kinds := [], alts := [], laidByText := true, laidKinds := [.handle], laidTests := true, laidLooks := .later }
def FnExactPanAddCardSaid : Prop := Claim7.holds Tryd.pinned (.plain (OpenSpec.ofChange fnExactPanAddSpec)) fnExactPanAddCard

/-- THE TIED CARD OF 'laws.FnNumber'. -/
def fnNumberCard : Claim7 := { stood := { row := fnNumberRow, standIns := [], harness := (true, "0a407dc4ad1fedb223d02c96bed4690a53315585912e909b9d34d9b203d2a479"), looks := true }, kinds := [], alts := [], laidByText := true, laidKinds := [.handle], laidTests := true, laidLooks := .later }
def FnNumberCardSaid : Prop := Claim7.holds Tryd.pinned (.plain (OpenSpec.ofChange fnNumberSpec)) fnNumberCard

/-- THE TIED CARD OF 'laws.FnPanAdd'. -/
def fnPanAddCard : Claim7 := { stood := { row := fnPanAddRow, standIns := [], harness := (true, "0a407dc4ad1fedb223d02c96bed4690a53315585912e909b9d34d9b203d2a479"), looks := true }, kinds := [], alts := [], laidByText := true, laidKinds := [.handle], laidTests := true, laidLooks := .later }
def FnPanAddCardSaid : Prop := Claim7.holds Tryd.pinned (.plain (OpenSpec.ofChange fnPanAddSpec)) fnPanAddCard

/-- THE SECOND FORM's CARD OF 'laws.FnExactPanNumber'. -/
def fnExactPanNumberUptoCard : Claim7 := { stood := { row := fnExactPanNumberUptoRow, standIns := [], harness := (true, "0a407dc4ad1fedb223d02c96bed4690a53315585912e909b9d34d9b203d2a479"), looks := true }, kinds := [], alts := [], laidByText := true, laidKinds := [.handle], laidTests := true, laidLooks := .later }
def FnExactPanNumberUptoCardSaid : Prop := Claim7.holds Tryd.pinned (.plain (OpenSpec.upto fnExactPanNumberSpec)) fnExactPanNumberUptoCard

/-- THE SECOND FORM's CARD OF 'laws.FnDigits'. -/
def fnDigitsUptoCard : Claim7 := { stood := { row := fnDigitsUptoRow, standIns := [], harness := (true, "0a407dc4ad1fedb223d02c96bed4690a53315585912e909b9d34d9b203d2a479"), looks := true }, kinds := [], alts := [], laidByText := true, laidKinds := [.handle], laidTests := true, laidLooks := .later }
def FnDigitsUptoCardSaid : Prop := Claim7.holds Tryd.pinned (.plain (OpenSpec.upto fnDigitsSpec)) fnDigitsUptoCard

/-- THE SECOND FORM's CARD OF 'laws.FnExactPanAdd'. -/
def fnExactPanAddUptoCard : Claim7 := { stood := { row := fnExactPanAddUptoRow, standIns := [], harness := (true, "0a407dc4ad1fedb223d02c96bed4690a53315585912e909b9d34d9b203d2a479"), looks := true }, kinds := [], alts := [], laidByText := true, laidKinds := [.handle], laidTests := true, laidLooks := .later }
def FnExactPanAddUptoCardSaid : Prop := Claim7.holds Tryd.pinned (.plain (OpenSpec.upto fnExactPanAddSpec)) fnExactPanAddUptoCard

/-- THE SECOND FORM's CARD OF 'laws.FnNumber'. -/
def fnNumberUptoCard : Claim7 := { stood := { row := fnNumberUptoRow, standIns := [], harness := (true, "0a407dc4ad1fedb223d02c96bed4690a53315585912e909b9d34d9b203d2a479"), looks := true }, kinds := [], alts := [], laidByText := true, laidKinds := [.handle], laidTests := true, laidLooks := .later }
def FnNumberUptoCardSaid : Prop := Claim7.holds Tryd.pinned (.plain (OpenSpec.upto fnNumberSpec)) fnNumberUptoCard

/-- THE SECOND FORM's CARD OF 'laws.FnPanAdd'. -/
def fnPanAddUptoCard : Claim7 := { stood := { row := fnPanAddUptoRow, standIns := [], harness := (true, "0a407dc4ad1fedb223d02c96bed4690a53315585912e909b9d34d9b203d2a479"), looks := true }, kinds := [], alts := [], laidByText := true, laidKinds := [.handle], laidTests := true, laidLooks := .later }
def FnPanAddUptoCardSaid : Prop := Claim7.holds Tryd.pinned (.plain (OpenSpec.upto fnPanAddSpec)) fnPanAddUptoCard
end Rows
end Go.Proofs.YtmakekolaclgnaaDoor
