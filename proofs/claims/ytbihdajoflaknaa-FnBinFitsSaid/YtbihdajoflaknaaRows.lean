/-
  No cell of these rows narrows 'for every input' (looked for: loops, veiled, ifaces, maps, wideKeys, modest, calm, conditions, laid).
  DERIVED. THE GIVEN ROWS OF THIS SEAT. 2 by the template 'for every input the law returns true; each argument reads behind the call as it read before'; 0 by the template 'total and deterministic' (their statements: YtbihdajoflaknaaTotals.lean).
  GIVEN WITH THE SEED: the statements are not yours to turn. If you find one false, say at which input.
  Laid BY PROGRAM, IN A SANDBOX (cutbox-rows.mjs): the forced cells as the released guide's own fill.sh prints them over the translation 876f5afe6e39d7ac… (all of the seat's roots in one cut). By AI agents, Wed Nov 11 2026. No macro, syntax, notation, axiom, sorry.
-/
import Derived.Test.YtbihdajoflaknaaChecked
import GoSem.Claim
import GoSem.ClaimJoined
import GoSem.ClaimMapViews
import Derived.JoinedTies
import Derived.KernelRfl
namespace Go.Proofs.Ytbihdajoflaknaa
/- THE CELL 'sum', in the pinned program and in every row, IS THE sha256 OF THE DUMP (.gsa) THAT YtbihdajoflaknaaProg.lean LOADS. Nothing in Lean hashes anything: it is a label: what it is worth is what the hold of that sum in a sandbox is worth. -/
noncomputable def Try.pinned : Pinned := { name := "ytbihdajoflaknaa", sum := "876f5afe6e39d7ac4cb41f77193c3a0628f72171129250f8768823f4263a68f6", checked := Try.checked }
namespace Rows
def none {H : Type} : Left H := { results := [], args := [] }

/-- 'laws.FnExactBinFits': WHATEVER THE INPUT: true; the input reads as it did. -/
def fnExactBinFitsSpec : ChangeSpec := { name := "fnExactBinFits", fn := fun _ => fun
  | [d1, d2, d3] => { results := [.lit (.bool true)], args := [d1, d2, d3] }
  | _ => none }
def fnExactBinFitsRow : OpenClaim := { program := "ytbihdajoflaknaa", sum := "876f5afe6e39d7ac4cb41f77193c3a0628f72171129250f8768823f4263a68f6", func := "loop.example/chosensums/laws.FnExactBinFits", spec := "fnExactBinFits", unfollowed := true, recurses := true, apart := false }
def FnExactBinFitsSaid : Prop := fnExactBinFitsRow.holds Try.pinned (OpenSpec.ofChange fnExactBinFitsSpec)

/-- ITS FALSE NEIGHBOUR: 'it returns false'. Refute it at one input. -/
def fnExactBinFitsWrong : ChangeSpec := { name := "fnExactBinFits", fn := fun _ => fun
  | [d1, d2, d3] => { results := [.lit (.bool false)], args := [d1, d2, d3] }
  | _ => none }
def FnExactBinFitsWrongFalsely : Prop := fnExactBinFitsRow.holds Try.pinned (OpenSpec.ofChange fnExactBinFitsWrong)

/-- 'laws.FnBinFits': WHATEVER THE INPUT: true; the input reads as it did. -/
def fnBinFitsSpec : ChangeSpec := { name := "fnBinFits", fn := fun _ => fun
  | [d] => { results := [.lit (.bool true)], args := [d] }
  | _ => none }
def fnBinFitsRow : OpenClaim := { program := "ytbihdajoflaknaa", sum := "876f5afe6e39d7ac4cb41f77193c3a0628f72171129250f8768823f4263a68f6", func := "loop.example/chosensums/laws.FnBinFits", spec := "fnBinFits", unfollowed := true, recurses := true, apart := false }
def FnBinFitsSaid : Prop := fnBinFitsRow.holds Try.pinned (OpenSpec.ofChange fnBinFitsSpec)

/-- ITS FALSE NEIGHBOUR: 'it returns false'. Refute it at one input. -/
def fnBinFitsWrong : ChangeSpec := { name := "fnBinFits", fn := fun _ => fun
  | [d] => { results := [.lit (.bool false)], args := [d] }
  | _ => none }
def FnBinFitsWrongFalsely : Prop := fnBinFitsRow.holds Try.pinned (OpenSpec.ofChange fnBinFitsWrong)

/- THE SECOND FORM. 'bulk': how many values and letters a reading holds, each counted each time it is reached (what is shared counts as often as it is met; a slice's spare places count too). A statement '..UptoSaid' is the law's where the arguments, and the package variables that the reading takes, are together of bulk at most 1048576: NARROWER than '..Said'. Prove '..Said' where nothing that the law and all that it calls make is longer than what came in: it says more and counts as full. Else prove '..UptoSaid'. A law counts once. -/
mutual
def uptoBulk {H : Type} : DataW H → Nat
  | .lit (.string bytes) => bytes.length + 1
  | .lit _ => 1
  | .nil => 1
  | .ptr d => uptoBulk d + 1
  | .slice elems spare => uptoBulkAll elems + uptoBulkAll spare + 1
  | .agg parts => uptoBulkAll parts + 1
  | .iface _ d => uptoBulk d + 1
  | .map entries => uptoBulkEntries entries + 1
  | .held _ => 1
def uptoBulkAll {H : Type} : List (DataW H) → Nat
  | [] => 0
  | d :: r => uptoBulk d + uptoBulkAll r
def uptoBulkEntries {H : Type} : List (Lit × DataW H) → Nat
  | [] => 0
  | x :: r => uptoBulkEntry x + uptoBulkEntries r
def uptoBulkEntry {H : Type} : Lit × DataW H → Nat
  | (.string bytes, d) => bytes.length + uptoBulk d + 1
  | (_, d) => uptoBulk d + 1
 end
def uptoSmall : (H : Type) → List (DataW H) → Bool := fun _ ds => decide (uptoBulkAll ds ≤ 1048576)
def OpenSpec.upto (s : _root_.Go.ChangeSpec) : _root_.Go.OpenSpec := { _root_.Go.OpenSpec.ofChange s with cond := some uptoSmall }

/-- 'laws.FnExactBinFits', WHERE WHAT IT READS IS OF BULK AT MOST 1048576: true; the input reads as it did. -/
def fnExactBinFitsUptoRow : OpenClaim := { program := "ytbihdajoflaknaa", sum := "876f5afe6e39d7ac4cb41f77193c3a0628f72171129250f8768823f4263a68f6", func := "loop.example/chosensums/laws.FnExactBinFits", spec := "fnExactBinFits", unfollowed := true, recurses := true, apart := false, narrowed := true }
def FnExactBinFitsUptoSaid : Prop := fnExactBinFitsUptoRow.holds Try.pinned (OpenSpec.upto fnExactBinFitsSpec)

/-- 'laws.FnBinFits', WHERE WHAT IT READS IS OF BULK AT MOST 1048576: true; the input reads as it did. -/
def fnBinFitsUptoRow : OpenClaim := { program := "ytbihdajoflaknaa", sum := "876f5afe6e39d7ac4cb41f77193c3a0628f72171129250f8768823f4263a68f6", func := "loop.example/chosensums/laws.FnBinFits", spec := "fnBinFits", unfollowed := true, recurses := true, apart := false, narrowed := true }
def FnBinFitsUptoSaid : Prop := fnBinFitsUptoRow.holds Try.pinned (OpenSpec.upto fnBinFitsSpec)

end Rows
end Go.Proofs.Ytbihdajoflaknaa
