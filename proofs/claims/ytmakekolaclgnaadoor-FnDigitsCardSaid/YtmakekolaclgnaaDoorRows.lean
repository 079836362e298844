/-
  NARROWER THAN 'FOR EVERY INPUT', by the rows' own cells (each row's printed sentence says how): FnExactPanNumber: laid · FnDigits: laid · FnExactPanAdd: laid · FnNumber: laid · FnPanAdd: laid.
  DERIVED. THE GIVEN ROWS OF THIS SEAT. 5 by the template 'for every input the law returns true; each argument reads behind the call as it read before'; 0 by the template 'total and deterministic' (their statements: YtmakekolaclgnaaDoorTotals.lean).
  GIVEN WITH THE SEED: the statements are not yours to turn. If you find one false, say at which input.
  Laid BY PROGRAM, IN A SANDBOX (cutbox-rows.mjs): the forced cells as the released guide's own fill.sh prints them over the translation c6e15a3391e9d5fb… (all of the seat's roots in one cut). By AI agents, Wed Nov 11 2026. No macro, syntax, notation, axiom, sorry.
-/
import Derived.Test.YtmakekolaclgnaaDoorChecked
import GoSem.Claim
import GoSem.ClaimJoined
import GoSem.ClaimMapViews
import Derived.JoinedTies
import Derived.KernelRfl
namespace Go.Proofs.YtmakekolaclgnaaDoor
/- THE CELL 'sum', in the pinned program and in every row, IS THE sha256 OF THE DUMP (.gsa) THAT YtmakekolaclgnaaDoorProg.lean LOADS. Nothing in Lean hashes anything: it is a label: what it is worth is what the hold of that sum in a sandbox is worth. -/
noncomputable def Tryd.pinned : Pinned := { name := "ytmakekolaclgnaadoor", sum := "c6e15a3391e9d5fbe779e46938476d6f6a9064a4f1b7c96b66eff441c773fcf1", checked := Tryd.checked }
namespace Rows
def none {H : Type} : Left H := { results := [], args := [] }

/- WHAT THE LISTED PACKAGE-LEVEL VARIABLES READ AS WHEN THE CALL BEGINS. Each datum BY PROGRAM (the guide's laid-datum.mjs) off the statement by which the dump's own 'gosem.cut.vars' lays the variable. In a bare row this is a premise. The card (YtmakekolaclgnaaDoorCards.lean) ties it to the program's text. -/
def laid_errors_errorType {H : Type} : DataW H := .iface "internal/reflectlite.rtype" (.agg [.ptr (.lit (.string [101, 114, 114, 111, 114]))])

/-- 'laws.FnExactPanNumber': WHATEVER THE INPUT: true; the input reads as it did. -/
def fnExactPanNumberSpec : ChangeSpec := { name := "fnExactPanNumber", fn := fun _ => fun
  | [d] => { results := [.lit (.bool true)], args := [d] }
  | _ => none }
def fnExactPanNumberRow : OpenClaim := { program := "ytmakekolaclgnaadoor", sum := "c6e15a3391e9d5fbe779e46938476d6f6a9064a4f1b7c96b66eff441c773fcf1", func := "loop.example/chosensums/laws.FnExactPanNumber", spec := "fnExactPanNumber", inPlace := ["internal/reflectlite.ValueOf", "(internal/reflectlite.Value).Type", "(internal/reflectlite.Value).IsNil", "internal/reflectlite.TypeOf", "(internal/reflectlite.Value).Elem", "(internal/reflectlite.Value).Set"], unfollowed := true, recurses := true, named := ["errors.errorType"], apart := false, laid := [("errors.errorType", laid_errors_errorType)] }
def FnExactPanNumberSaid : Prop := fnExactPanNumberRow.holds Tryd.pinned (OpenSpec.ofChange fnExactPanNumberSpec)

/-- ITS FALSE NEIGHBOUR: 'it returns false'. Refute it at one input. -/
def fnExactPanNumberWrong : ChangeSpec := { name := "fnExactPanNumber", fn := fun _ => fun
  | [d] => { results := [.lit (.bool false)], args := [d] }
  | _ => none }
def FnExactPanNumberWrongFalsely : Prop := fnExactPanNumberRow.holds Tryd.pinned (OpenSpec.ofChange fnExactPanNumberWrong)

/-- 'laws.FnDigits': WHATEVER THE INPUT: true; the input reads as it did. -/
def fnDigitsSpec : ChangeSpec := { name := "fnDigits", fn := fun _ => fun
  | [d] => { results := [.lit (.bool true)], args := [d] }
  | _ => none }
def fnDigitsRow : OpenClaim := { program := "ytmakekolaclgnaadoor", sum := "c6e15a3391e9d5fbe779e46938476d6f6a9064a4f1b7c96b66eff441c773fcf1", func := "loop.example/chosensums/laws.FnDigits", spec := "fnDigits", inPlace := ["internal/reflectlite.ValueOf", "(internal/reflectlite.Value).Type", "(internal/reflectlite.Value).IsNil", "internal/reflectlite.TypeOf", "(internal/reflectlite.Value).Elem", "(internal/reflectlite.Value).Set"], unfollowed := true, recurses := true, named := ["errors.errorType"], apart := false, laid := [("errors.errorType", laid_errors_errorType)] }
def FnDigitsSaid : Prop := fnDigitsRow.holds Tryd.pinned (OpenSpec.ofChange fnDigitsSpec)

/-- ITS FALSE NEIGHBOUR: 'it returns false'. Refute it at one input. -/
def fnDigitsWrong : ChangeSpec := { name := "fnDigits", fn := fun _ => fun
  | [d] => { results := [.lit (.bool false)], args := [d] }
  | _ => none }
def FnDigitsWrongFalsely : Prop := fnDigitsRow.holds Tryd.pinned (OpenSpec.ofChange fnDigitsWrong)

/-- 'laws.FnExactPanAdd': WHATEVER THE INPUT: true; the input reads as it did. -/
def fnExactPanAddSpec : ChangeSpec := { name := "fnExactPanAdd", fn := fun _ => fun
  | [d1, d2] => { results := [.lit (.bool true)], args := [d1, d2] }
  | _ => none }
def fnExactPanAddRow : OpenClaim := { program := "ytmakekolaclgnaadoor", sum := "c6e15a3391e9d5fbe779e46938476d6f6a9064a4f1b7c96b66eff441c773fcf1", func := "loop.example/chosensums/laws.FnExactPanAdd", spec := "fnExactPanAdd", inPlace := ["internal/reflectlite.ValueOf", "(internal/reflectlite.Value).Type", "(internal/reflectlite.Value).IsNil", "internal/reflectlite.TypeOf", "(internal/reflectlite.Value).Elem", "(internal/reflectlite.Value).Set"], unfollowed := true, recurses := true, named := ["errors.errorType"], apart := false, laid := [("errors.errorType", laid_errors_errorType)] }
def FnExactPanAddSaid : Prop := fnExactPanAddRow.holds Tryd.pinned (OpenSpec.ofChange fnExactPanAddSpec)

/-- ITS FALSE NEIGHBOUR: 'it returns false'. Refute it at one input. -/
def fnExactPanAddWrong : ChangeSpec := { name := "fnExactPanAdd", fn := fun _ => fun
  | [d1, d2] => { results := [.lit (.bool false)], args := [d1, d2] }
  | _ => none }
def FnExactPanAddWrongFalsely : Prop := fnExactPanAddRow.holds Tryd.pinned (OpenSpec.ofChange fnExactPanAddWrong)

/-- 'laws.FnNumber': WHATEVER THE INPUT: true; the input reads as it did. -/
def fnNumberSpec : ChangeSpec := { name := "fnNumber", fn := fun _ => fun
  | [d] => { results := [.lit (.bool true)], args := [d] }
  | _ => none }
def fnNumberRow : OpenClaim := { program := "ytmakekolaclgnaadoor", sum := "c6e15a3391e9d5fbe779e46938476d6f6a9064a4f1b7c96b66eff441c773fcf1", func := "loop.example/chosensums/laws.FnNumber", spec := "fnNumber", inPlace := ["internal/reflectlite.ValueOf", "(internal/reflectlite.Value).Type", "(internal/reflectlite.Value).IsNil", "internal/reflectlite.TypeOf", "(internal/reflectlite.Value).Elem", "(internal/reflectlite.Value).Set"], unfollowed := true, recurses := true, named := ["errors.errorType"], apart := false, laid := [("errors.errorType", laid_errors_errorType)] }
def FnNumberSaid : Prop := fnNumberRow.holds Tryd.pinned (OpenSpec.ofChange fnNumberSpec)

/-- ITS FALSE NEIGHBOUR: 'it returns false'. Refute it at one input. -/
def fnNumberWrong : ChangeSpec := { name := "fnNumber", fn := fun _ => fun
  | [d] => { results := [.lit (.bool false)], args := [d] }
  | _ => none }
def FnNumberWrongFalsely : Prop := fnNumberRow.holds Tryd.pinned (OpenSpec.ofChange fnNumberWrong)

/-- 'laws.FnPanAdd': WHATEVER THE INPUT: true; the input reads as it did. -/
def fnPanAddSpec : ChangeSpec := { name := "fnPanAdd", fn := fun _ => fun
  | [d] => { results := [.lit (.bool true)], args := [d] }
  | _ => none }
def fnPanAddRow : OpenClaim := { program := "ytmakekolaclgnaadoor", sum := "c6e15a3391e9d5fbe779e46938476d6f6a9064a4f1b7c96b66eff441c773fcf1", func := "loop.example/chosensums/laws.FnPanAdd", spec := "fnPanAdd", inPlace := ["internal/reflectlite.ValueOf", "(internal/reflectlite.Value).Type", "(internal/reflectlite.Value).IsNil", "internal/reflectlite.TypeOf", "(internal/reflectlite.Value).Elem", "(internal/reflectlite.Value).Set"], unfollowed := true, recurses := true, named := ["errors.errorType"], apart := false, laid := [("errors.errorType", laid_errors_errorType)] }
def FnPanAddSaid : Prop := fnPanAddRow.holds Tryd.pinned (OpenSpec.ofChange fnPanAddSpec)

/-- ITS FALSE NEIGHBOUR: 'it returns false'. Refute it at one input. -/
def fnPanAddWrong : ChangeSpec := { name := "fnPanAdd", fn := fun _ => fun
  | [d] => { results := [.lit (.bool false)], args := [d] }
  | _ => none }
def FnPanAddWrongFalsely : Prop := fnPanAddRow.holds Tryd.pinned (OpenSpec.ofChange fnPanAddWrong)

/- THE SECOND FORM. 'bulk': how many values and letters a reading holds, each counted each time it is reached (what is shared counts as often as it is met; a slice's spare places count too). A statement '..UptoSaid' is the law's where the arguments, and the package variables that the reading takes, are together of bulk at most 1048576: NARROWER than '..Said'. Prove '..Said' where nothing that the law and all that it calls make is longer than what came in: it says more and counts as full. Else prove '..UptoSaid'. A law counts once. -/
mutual
def uptoBulk {H : Type} : DataW H → Nat
  | .lit (.string bytes) => bytes.length + 1
  | .lit _ => 1
  | .nil => 1
  | .ptr d => uptoBulk d + 1
  | .slice elems spare => uptoBulkAll elems + uptoBulkAll spare + 1
  | .agg parts => uptoBulkAll parts + 1
  | .iface _ d => uptoBulk d + 1
  | .map entries => uptoBulkEntries entries + 1
  | .held _ => 1
def uptoBulkAll {H : Type} : List (DataW H) → Nat
  | [] => 0
  | d :: r => uptoBulk d + uptoBulkAll r
def uptoBulkEntries {H : Type} : List (Lit × DataW H) → Nat
  | [] => 0
  | x :: r => uptoBulkEntry x + uptoBulkEntries r
def uptoBulkEntry {H : Type} : Lit × DataW H → Nat
  | (.string bytes, d) => bytes.length + uptoBulk d + 1
  | (_, d) => uptoBulk d + 1
 end
def uptoSmall : (H : Type) → List (DataW H) → Bool := fun _ ds => decide (uptoBulkAll ds ≤ 1048576)
def OpenSpec.upto (s : _root_.Go.ChangeSpec) : _root_.Go.OpenSpec := { _root_.Go.OpenSpec.ofChange s with cond := some uptoSmall }

/-- 'laws.FnExactPanNumber', WHERE WHAT IT READS IS OF BULK AT MOST 1048576: true; the input reads as it did. -/
def fnExactPanNumberUptoRow : OpenClaim := { program := "ytmakekolaclgnaadoor", sum := "c6e15a3391e9d5fbe779e46938476d6f6a9064a4f1b7c96b66eff441c773fcf1", func := "loop.example/chosensums/laws.FnExactPanNumber", spec := "fnExactPanNumber", inPlace := ["internal/reflectlite.ValueOf", "(internal/reflectlite.Value).Type", "(internal/reflectlite.Value).IsNil", "internal/reflectlite.TypeOf", "(internal/reflectlite.Value).Elem", "(internal/reflectlite.Value).Set"], unfollowed := true, recurses := true, named := ["errors.errorType"], apart := false, laid := [("errors.errorType", laid_errors_errorType)], narrowed := true }
def FnExactPanNumberUptoSaid : Prop := fnExactPanNumberUptoRow.holds Tryd.pinned (OpenSpec.upto fnExactPanNumberSpec)

/-- 'laws.FnDigits', WHERE WHAT IT READS IS OF BULK AT MOST 1048576: true; the input reads as it did. -/
def fnDigitsUptoRow : OpenClaim := { program := "ytmakekolaclgnaadoor", sum := "c6e15a3391e9d5fbe779e46938476d6f6a9064a4f1b7c96b66eff441c773fcf1", func := "loop.example/chosensums/laws.FnDigits", spec := "fnDigits", inPlace := ["internal/reflectlite.ValueOf", "(internal/reflectlite.Value).Type", "(internal/reflectlite.Value).IsNil", "internal/reflectlite.TypeOf", "(internal/reflectlite.Value).Elem", "(internal/reflectlite.Value).Set"], unfollowed := true, recurses := true, named := ["errors.errorType"], apart := false, laid := [("errors.errorType", laid_errors_errorType)], narrowed := true }
def FnDigitsUptoSaid : Prop := fnDigitsUptoRow.holds Tryd.pinned (OpenSpec.upto fnDigitsSpec)

/-- 'laws.FnExactPanAdd', WHERE WHAT IT READS IS OF BULK AT MOST 1048576: true; the input reads as it did. -/
def fnExactPanAddUptoRow : OpenClaim := { program := "ytmakekolaclgnaadoor", sum := "c6e15a3391e9d5fbe779e46938476d6f6a9064a4f1b7c96b66eff441c773fcf1", func := "loop.example/chosensums/laws.FnExactPanAdd", spec := "fnExactPanAdd", inPlace := ["internal/reflectlite.ValueOf", "(internal/reflectlite.Value).Type", "(internal/reflectlite.Value).IsNil", "internal/reflectlite.TypeOf", "(internal/reflectlite.Value).Elem", "(internal/reflectlite.Value).Set"], unfollowed := true, recurses := true, named := ["errors.errorType"], apart := false, laid := [("errors.errorType", laid_errors_errorType)], narrowed := true }
def FnExactPanAddUptoSaid : Prop := fnExactPanAddUptoRow.holds Tryd.pinned (OpenSpec.upto fnExactPanAddSpec)

/-- 'laws.FnNumber', WHERE WHAT IT READS IS OF BULK AT MOST 1048576: true; the input reads as it did. -/
def fnNumberUptoRow : OpenClaim := { program := "ytmakekolaclgnaadoor", sum := "c6e15a3391e9d5fbe779e46938476d6f6a9064a4f1b7c96b66eff441c773fcf1", func := "loop.example/chosensums/laws.FnNumber", spec := "fnNumber", inPlace := ["internal/reflectlite.ValueOf", "(internal/reflectlite.Value).Type", "(internal/reflectlite.Value).IsNil", "internal/reflectlite.TypeOf", "(internal/reflectlite.Value).Elem", "(internal/reflectlite.Value).Set"], unfollowed := true, recurses := true, named := ["errors.errorType"], apart := false, laid := [("errors.errorType", laid_errors_errorType)], narrowed := true }
def FnNumberUptoSaid : Prop := fnNumberUptoRow.holds Tryd.pinned (OpenSpec.upto fnNumberSpec)

/-- 'laws.FnPanAdd', WHERE WHAT IT READS IS OF BULK AT MOST 1048576: true; the input reads as it did. -/
def fnPanAddUptoRow : OpenClaim := { program := "ytmakekolaclgnaadoor", sum := "c6e15a3391e9d5fbe779e46938476d6f6a9064a4f1b7c96b66eff441c773fcf1", func := "loop.example/chosensums/laws.FnPanAdd", spec := "fnPanAdd", inPlace := ["internal/reflectlite.ValueOf", "(internal/reflectlite.Value).Type", "(internal/reflectlite.Value).IsNil", "internal/reflectlite.TypeOf", "(internal/reflectlite.Value).Elem", "(internal/reflectlite.Value).Set"], unfollowed := true, recurses := true, named := ["errors.errorType"], apart := false, laid := [("errors.errorType", laid_errors_errorType)], narrowed := true }
def FnPanAddUptoSaid : Prop := fnPanAddUptoRow.holds Tryd.pinned (OpenSpec.upto fnPanAddSpec)

end Rows
end Go.Proofs.YtmakekolaclgnaaDoor
