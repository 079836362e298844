/-
  No cell of these rows narrows 'for every input' (looked for: loops, veiled, ifaces, maps, wideKeys, modest, calm, conditions, laid).
  DERIVED. THE GIVEN ROWS OF THIS SEAT. 18 by the template 'for every input the law returns true; each argument reads behind the call as it read before'; 0 by the template 'total and deterministic' (their statements: YtbfpllmoaooadaaTotals.lean).
  GIVEN WITH THE SEED: the statements are not yours to turn. If you find one false, say at which input.
  Laid BY PROGRAM, IN A SANDBOX (cutbox-rows.mjs): the forced cells as the released guide's own fill.sh prints them over the translation 76f0d49007266f42… (all of the seat's roots in one cut). By AI agents, Wed Nov 11 2026. No macro, syntax, notation, axiom, sorry.
-/
import Derived.Test.YtbfpllmoaooadaaChecked
import GoSem.Claim
import GoSem.ClaimJoined
import GoSem.ClaimMapViews
import Derived.JoinedTies
import Derived.KernelRfl
namespace Go.Proofs.Ytbfpllmoaooadaa
/- THE CELL 'sum', in the pinned program and in every row, IS THE sha256 OF THE DUMP (.gsa) THAT YtbfpllmoaooadaaProg.lean LOADS. Nothing in Lean hashes anything: it is a label: what it is worth is what the hold of that sum in a sandbox is worth. -/
noncomputable def Try.pinned : Pinned := { name := "ytbfpllmoaooadaa", sum := "76f0d49007266f42395121bd008a09871e67e32371096ccc255d8c6a48fc123b", checked := Try.checked }
namespace Rows
def none {H : Type} : Left H := { results := [], args := [] }

/-- 'laws.FnExactPowerIn': WHATEVER THE INPUT: true; the input reads as it did. -/
def fnExactPowerInSpec : ChangeSpec := { name := "fnExactPowerIn", fn := fun _ => fun
  | [d] => { results := [.lit (.bool true)], args := [d] }
  | _ => none }
def fnExactPowerInRow : OpenClaim := { program := "ytbfpllmoaooadaa", sum := "76f0d49007266f42395121bd008a09871e67e32371096ccc255d8c6a48fc123b", func := "loop.example/chosensums/laws.FnExactPowerIn", spec := "fnExactPowerIn", apart := false }
def FnExactPowerInSaid : Prop := fnExactPowerInRow.holds Try.pinned (OpenSpec.ofChange fnExactPowerInSpec)

/-- ITS FALSE NEIGHBOUR: 'it returns false'. Refute it at one input. -/
def fnExactPowerInWrong : ChangeSpec := { name := "fnExactPowerIn", fn := fun _ => fun
  | [d] => { results := [.lit (.bool false)], args := [d] }
  | _ => none }
def FnExactPowerInWrongFalsely : Prop := fnExactPowerInRow.holds Try.pinned (OpenSpec.ofChange fnExactPowerInWrong)

/-- 'laws.FnExactPowerSpread': WHATEVER THE INPUT: true; the input reads as it did. -/
def fnExactPowerSpreadSpec : ChangeSpec := { name := "fnExactPowerSpread", fn := fun _ => fun
  | [d1, d2, d3] => { results := [.lit (.bool true)], args := [d1, d2, d3] }
  | _ => none }
def fnExactPowerSpreadRow : OpenClaim := { program := "ytbfpllmoaooadaa", sum := "76f0d49007266f42395121bd008a09871e67e32371096ccc255d8c6a48fc123b", func := "loop.example/chosensums/laws.FnExactPowerSpread", spec := "fnExactPowerSpread", recurses := true, apart := false }
def FnExactPowerSpreadSaid : Prop := fnExactPowerSpreadRow.holds Try.pinned (OpenSpec.ofChange fnExactPowerSpreadSpec)

/-- ITS FALSE NEIGHBOUR: 'it returns false'. Refute it at one input. -/
def fnExactPowerSpreadWrong : ChangeSpec := { name := "fnExactPowerSpread", fn := fun _ => fun
  | [d1, d2, d3] => { results := [.lit (.bool false)], args := [d1, d2, d3] }
  | _ => none }
def FnExactPowerSpreadWrongFalsely : Prop := fnExactPowerSpreadRow.holds Try.pinned (OpenSpec.ofChange fnExactPowerSpreadWrong)

/-- 'laws.FnExactPowerSum': WHATEVER THE INPUT: true; the input reads as it did. -/
def fnExactPowerSumSpec : ChangeSpec := { name := "fnExactPowerSum", fn := fun _ => fun
  | [d1, d2] => { results := [.lit (.bool true)], args := [d1, d2] }
  | _ => none }
def fnExactPowerSumRow : OpenClaim := { program := "ytbfpllmoaooadaa", sum := "76f0d49007266f42395121bd008a09871e67e32371096ccc255d8c6a48fc123b", func := "loop.example/chosensums/laws.FnExactPowerSum", spec := "fnExactPowerSum", apart := false }
def FnExactPowerSumSaid : Prop := fnExactPowerSumRow.holds Try.pinned (OpenSpec.ofChange fnExactPowerSumSpec)

/-- ITS FALSE NEIGHBOUR: 'it returns false'. Refute it at one input. -/
def fnExactPowerSumWrong : ChangeSpec := { name := "fnExactPowerSum", fn := fun _ => fun
  | [d1, d2] => { results := [.lit (.bool false)], args := [d1, d2] }
  | _ => none }
def FnExactPowerSumWrongFalsely : Prop := fnExactPowerSumRow.holds Try.pinned (OpenSpec.ofChange fnExactPowerSumWrong)

/-- 'laws.FnExactPowerThue': WHATEVER THE INPUT: true; the input reads as it did. -/
def fnExactPowerThueSpec : ChangeSpec := { name := "fnExactPowerThue", fn := fun _ => fun
  | [d] => { results := [.lit (.bool true)], args := [d] }
  | _ => none }
def fnExactPowerThueRow : OpenClaim := { program := "ytbfpllmoaooadaa", sum := "76f0d49007266f42395121bd008a09871e67e32371096ccc255d8c6a48fc123b", func := "loop.example/chosensums/laws.FnExactPowerThue", spec := "fnExactPowerThue", apart := false }
def FnExactPowerThueSaid : Prop := fnExactPowerThueRow.holds Try.pinned (OpenSpec.ofChange fnExactPowerThueSpec)

/-- ITS FALSE NEIGHBOUR: 'it returns false'. Refute it at one input. -/
def fnExactPowerThueWrong : ChangeSpec := { name := "fnExactPowerThue", fn := fun _ => fun
  | [d] => { results := [.lit (.bool false)], args := [d] }
  | _ => none }
def FnExactPowerThueWrongFalsely : Prop := fnExactPowerThueRow.holds Try.pinned (OpenSpec.ofChange fnExactPowerThueWrong)

/-- 'laws.FnExactPowerDegree': WHATEVER THE INPUT: true; the input reads as it did. -/
def fnExactPowerDegreeSpec : ChangeSpec := { name := "fnExactPowerDegree", fn := fun _ => fun
  | [d1, d2] => { results := [.lit (.bool true)], args := [d1, d2] }
  | _ => none }
def fnExactPowerDegreeRow : OpenClaim := { program := "ytbfpllmoaooadaa", sum := "76f0d49007266f42395121bd008a09871e67e32371096ccc255d8c6a48fc123b", func := "loop.example/chosensums/laws.FnExactPowerDegree", spec := "fnExactPowerDegree", apart := false }
def FnExactPowerDegreeSaid : Prop := fnExactPowerDegreeRow.holds Try.pinned (OpenSpec.ofChange fnExactPowerDegreeSpec)

/-- ITS FALSE NEIGHBOUR: 'it returns false'. Refute it at one input. -/
def fnExactPowerDegreeWrong : ChangeSpec := { name := "fnExactPowerDegree", fn := fun _ => fun
  | [d1, d2] => { results := [.lit (.bool false)], args := [d1, d2] }
  | _ => none }
def FnExactPowerDegreeWrongFalsely : Prop := fnExactPowerDegreeRow.holds Try.pinned (OpenSpec.ofChange fnExactPowerDegreeWrong)

/-- 'laws.FnDegree': WHATEVER THE INPUT: true; the input reads as it did. -/
def fnDegreeSpec : ChangeSpec := { name := "fnDegree", fn := fun _ => fun
  | [d] => { results := [.lit (.bool true)], args := [d] }
  | _ => none }
def fnDegreeRow : OpenClaim := { program := "ytbfpllmoaooadaa", sum := "76f0d49007266f42395121bd008a09871e67e32371096ccc255d8c6a48fc123b", func := "loop.example/chosensums/laws.FnDegree", spec := "fnDegree", recurses := true, apart := false }
def FnDegreeSaid : Prop := fnDegreeRow.holds Try.pinned (OpenSpec.ofChange fnDegreeSpec)

/-- ITS FALSE NEIGHBOUR: 'it returns false'. Refute it at one input. -/
def fnDegreeWrong : ChangeSpec := { name := "fnDegree", fn := fun _ => fun
  | [d] => { results := [.lit (.bool false)], args := [d] }
  | _ => none }
def FnDegreeWrongFalsely : Prop := fnDegreeRow.holds Try.pinned (OpenSpec.ofChange fnDegreeWrong)

/-- 'laws.FnExactPowerParts': WHATEVER THE INPUT: true; the input reads as it did. -/
def fnExactPowerPartsSpec : ChangeSpec := { name := "fnExactPowerParts", fn := fun _ => fun
  | [d1, d2] => { results := [.lit (.bool true)], args := [d1, d2] }
  | _ => none }
def fnExactPowerPartsRow : OpenClaim := { program := "ytbfpllmoaooadaa", sum := "76f0d49007266f42395121bd008a09871e67e32371096ccc255d8c6a48fc123b", func := "loop.example/chosensums/laws.FnExactPowerParts", spec := "fnExactPowerParts", apart := false }
def FnExactPowerPartsSaid : Prop := fnExactPowerPartsRow.holds Try.pinned (OpenSpec.ofChange fnExactPowerPartsSpec)

/-- ITS FALSE NEIGHBOUR: 'it returns false'. Refute it at one input. -/
def fnExactPowerPartsWrong : ChangeSpec := { name := "fnExactPowerParts", fn := fun _ => fun
  | [d1, d2] => { results := [.lit (.bool false)], args := [d1, d2] }
  | _ => none }
def FnExactPowerPartsWrongFalsely : Prop := fnExactPowerPartsRow.holds Try.pinned (OpenSpec.ofChange fnExactPowerPartsWrong)

/-- 'laws.FnSpread': WHATEVER THE INPUT: true; the input reads as it did. -/
def fnSpreadSpec : ChangeSpec := { name := "fnSpread", fn := fun _ => fun
  | [d] => { results := [.lit (.bool true)], args := [d] }
  | _ => none }
def fnSpreadRow : OpenClaim := { program := "ytbfpllmoaooadaa", sum := "76f0d49007266f42395121bd008a09871e67e32371096ccc255d8c6a48fc123b", func := "loop.example/chosensums/laws.FnSpread", spec := "fnSpread", recurses := true, apart := false }
def FnSpreadSaid : Prop := fnSpreadRow.holds Try.pinned (OpenSpec.ofChange fnSpreadSpec)

/-- ITS FALSE NEIGHBOUR: 'it returns false'. Refute it at one input. -/
def fnSpreadWrong : ChangeSpec := { name := "fnSpread", fn := fun _ => fun
  | [d] => { results := [.lit (.bool false)], args := [d] }
  | _ => none }
def FnSpreadWrongFalsely : Prop := fnSpreadRow.holds Try.pinned (OpenSpec.ofChange fnSpreadWrong)

/-- 'laws.FnSide': WHATEVER THE INPUT: true; the input reads as it did. -/
def fnSideSpec : ChangeSpec := { name := "fnSide", fn := fun _ => fun
  | [d] => { results := [.lit (.bool true)], args := [d] }
  | _ => none }
def fnSideRow : OpenClaim := { program := "ytbfpllmoaooadaa", sum := "76f0d49007266f42395121bd008a09871e67e32371096ccc255d8c6a48fc123b", func := "loop.example/chosensums/laws.FnSide", spec := "fnSide", apart := false }
def FnSideSaid : Prop := fnSideRow.holds Try.pinned (OpenSpec.ofChange fnSideSpec)

/-- ITS FALSE NEIGHBOUR: 'it returns false'. Refute it at one input. -/
def fnSideWrong : ChangeSpec := { name := "fnSide", fn := fun _ => fun
  | [d] => { results := [.lit (.bool false)], args := [d] }
  | _ => none }
def FnSideWrongFalsely : Prop := fnSideRow.holds Try.pinned (OpenSpec.ofChange fnSideWrong)

/-- 'laws.FnExactPowerMoved': WHATEVER THE INPUT: true; the input reads as it did. -/
def fnExactPowerMovedSpec : ChangeSpec := { name := "fnExactPowerMoved", fn := fun _ => fun
  | [d1, d2] => { results := [.lit (.bool true)], args := [d1, d2] }
  | _ => none }
def fnExactPowerMovedRow : OpenClaim := { program := "ytbfpllmoaooadaa", sum := "76f0d49007266f42395121bd008a09871e67e32371096ccc255d8c6a48fc123b", func := "loop.example/chosensums/laws.FnExactPowerMoved", spec := "fnExactPowerMoved", apart := false }
def FnExactPowerMovedSaid : Prop := fnExactPowerMovedRow.holds Try.pinned (OpenSpec.ofChange fnExactPowerMovedSpec)

/-- ITS FALSE NEIGHBOUR: 'it returns false'. Refute it at one input. -/
def fnExactPowerMovedWrong : ChangeSpec := { name := "fnExactPowerMoved", fn := fun _ => fun
  | [d1, d2] => { results := [.lit (.bool false)], args := [d1, d2] }
  | _ => none }
def FnExactPowerMovedWrongFalsely : Prop := fnExactPowerMovedRow.holds Try.pinned (OpenSpec.ofChange fnExactPowerMovedWrong)

/-- 'laws.FnMoved': WHATEVER THE INPUT: true; the input reads as it did. -/
def fnMovedSpec : ChangeSpec := { name := "fnMoved", fn := fun _ => fun
  | [d] => { results := [.lit (.bool true)], args := [d] }
  | _ => none }
def fnMovedRow : OpenClaim := { program := "ytbfpllmoaooadaa", sum := "76f0d49007266f42395121bd008a09871e67e32371096ccc255d8c6a48fc123b", func := "loop.example/chosensums/laws.FnMoved", spec := "fnMoved", apart := false }
def FnMovedSaid : Prop := fnMovedRow.holds Try.pinned (OpenSpec.ofChange fnMovedSpec)

/-- ITS FALSE NEIGHBOUR: 'it returns false'. Refute it at one input. -/
def fnMovedWrong : ChangeSpec := { name := "fnMoved", fn := fun _ => fun
  | [d] => { results := [.lit (.bool false)], args := [d] }
  | _ => none }
def FnMovedWrongFalsely : Prop := fnMovedRow.holds Try.pinned (OpenSpec.ofChange fnMovedWrong)

/-- 'laws.FnThue': WHATEVER THE INPUT: true; the input reads as it did. -/
def fnThueSpec : ChangeSpec := { name := "fnThue", fn := fun _ => fun
  | [d] => { results := [.lit (.bool true)], args := [d] }
  | _ => none }
def fnThueRow : OpenClaim := { program := "ytbfpllmoaooadaa", sum := "76f0d49007266f42395121bd008a09871e67e32371096ccc255d8c6a48fc123b", func := "loop.example/chosensums/laws.FnThue", spec := "fnThue", apart := false }
def FnThueSaid : Prop := fnThueRow.holds Try.pinned (OpenSpec.ofChange fnThueSpec)

/-- ITS FALSE NEIGHBOUR: 'it returns false'. Refute it at one input. -/
def fnThueWrong : ChangeSpec := { name := "fnThue", fn := fun _ => fun
  | [d] => { results := [.lit (.bool false)], args := [d] }
  | _ => none }
def FnThueWrongFalsely : Prop := fnThueRow.holds Try.pinned (OpenSpec.ofChange fnThueWrong)

/-- 'laws.FnExactPowerFind': WHATEVER THE INPUT: true; the input reads as it did. -/
def fnExactPowerFindSpec : ChangeSpec := { name := "fnExactPowerFind", fn := fun _ => fun
  | [d] => { results := [.lit (.bool true)], args := [d] }
  | _ => none }
def fnExactPowerFindRow : OpenClaim := { program := "ytbfpllmoaooadaa", sum := "76f0d49007266f42395121bd008a09871e67e32371096ccc255d8c6a48fc123b", func := "loop.example/chosensums/laws.FnExactPowerFind", spec := "fnExactPowerFind", apart := false }
def FnExactPowerFindSaid : Prop := fnExactPowerFindRow.holds Try.pinned (OpenSpec.ofChange fnExactPowerFindSpec)

/-- ITS FALSE NEIGHBOUR: 'it returns false'. Refute it at one input. -/
def fnExactPowerFindWrong : ChangeSpec := { name := "fnExactPowerFind", fn := fun _ => fun
  | [d] => { results := [.lit (.bool false)], args := [d] }
  | _ => none }
def FnExactPowerFindWrongFalsely : Prop := fnExactPowerFindRow.holds Try.pinned (OpenSpec.ofChange fnExactPowerFindWrong)

/-- 'laws.FnFind': WHATEVER THE INPUT: true; the input reads as it did. -/
def fnFindSpec : ChangeSpec := { name := "fnFind", fn := fun _ => fun
  | [d] => { results := [.lit (.bool true)], args := [d] }
  | _ => none }
def fnFindRow : OpenClaim := { program := "ytbfpllmoaooadaa", sum := "76f0d49007266f42395121bd008a09871e67e32371096ccc255d8c6a48fc123b", func := "loop.example/chosensums/laws.FnFind", spec := "fnFind", apart := false }
def FnFindSaid : Prop := fnFindRow.holds Try.pinned (OpenSpec.ofChange fnFindSpec)

/-- ITS FALSE NEIGHBOUR: 'it returns false'. Refute it at one input. -/
def fnFindWrong : ChangeSpec := { name := "fnFind", fn := fun _ => fun
  | [d] => { results := [.lit (.bool false)], args := [d] }
  | _ => none }
def FnFindWrongFalsely : Prop := fnFindRow.holds Try.pinned (OpenSpec.ofChange fnFindWrong)

/-- 'laws.FnParts': WHATEVER THE INPUT: true; the input reads as it did. -/
def fnPartsSpec : ChangeSpec := { name := "fnParts", fn := fun _ => fun
  | [d] => { results := [.lit (.bool true)], args := [d] }
  | _ => none }
def fnPartsRow : OpenClaim := { program := "ytbfpllmoaooadaa", sum := "76f0d49007266f42395121bd008a09871e67e32371096ccc255d8c6a48fc123b", func := "loop.example/chosensums/laws.FnParts", spec := "fnParts", apart := false }
def FnPartsSaid : Prop := fnPartsRow.holds Try.pinned (OpenSpec.ofChange fnPartsSpec)

/-- ITS FALSE NEIGHBOUR: 'it returns false'. Refute it at one input. -/
def fnPartsWrong : ChangeSpec := { name := "fnParts", fn := fun _ => fun
  | [d] => { results := [.lit (.bool false)], args := [d] }
  | _ => none }
def FnPartsWrongFalsely : Prop := fnPartsRow.holds Try.pinned (OpenSpec.ofChange fnPartsWrong)

/-- 'laws.FnExactPowerScaled': WHATEVER THE INPUT: true; the input reads as it did. -/
def fnExactPowerScaledSpec : ChangeSpec := { name := "fnExactPowerScaled", fn := fun _ => fun
  | [d1, d2] => { results := [.lit (.bool true)], args := [d1, d2] }
  | _ => none }
def fnExactPowerScaledRow : OpenClaim := { program := "ytbfpllmoaooadaa", sum := "76f0d49007266f42395121bd008a09871e67e32371096ccc255d8c6a48fc123b", func := "loop.example/chosensums/laws.FnExactPowerScaled", spec := "fnExactPowerScaled", recurses := true, apart := false }
def FnExactPowerScaledSaid : Prop := fnExactPowerScaledRow.holds Try.pinned (OpenSpec.ofChange fnExactPowerScaledSpec)

/-- ITS FALSE NEIGHBOUR: 'it returns false'. Refute it at one input. -/
def fnExactPowerScaledWrong : ChangeSpec := { name := "fnExactPowerScaled", fn := fun _ => fun
  | [d1, d2] => { results := [.lit (.bool false)], args := [d1, d2] }
  | _ => none }
def FnExactPowerScaledWrongFalsely : Prop := fnExactPowerScaledRow.holds Try.pinned (OpenSpec.ofChange fnExactPowerScaledWrong)

/-- 'laws.FnPowerSum': WHATEVER THE INPUT: true; the input reads as it did. -/
def fnPowerSumSpec : ChangeSpec := { name := "fnPowerSum", fn := fun _ => fun
  | [d] => { results := [.lit (.bool true)], args := [d] }
  | _ => none }
def fnPowerSumRow : OpenClaim := { program := "ytbfpllmoaooadaa", sum := "76f0d49007266f42395121bd008a09871e67e32371096ccc255d8c6a48fc123b", func := "loop.example/chosensums/laws.FnPowerSum", spec := "fnPowerSum", recurses := true, apart := false }
def FnPowerSumSaid : Prop := fnPowerSumRow.holds Try.pinned (OpenSpec.ofChange fnPowerSumSpec)

/-- ITS FALSE NEIGHBOUR: 'it returns false'. Refute it at one input. -/
def fnPowerSumWrong : ChangeSpec := { name := "fnPowerSum", fn := fun _ => fun
  | [d] => { results := [.lit (.bool false)], args := [d] }
  | _ => none }
def FnPowerSumWrongFalsely : Prop := fnPowerSumRow.holds Try.pinned (OpenSpec.ofChange fnPowerSumWrong)

/-- 'laws.FnScaled': WHATEVER THE INPUT: true; the input reads as it did. -/
def fnScaledSpec : ChangeSpec := { name := "fnScaled", fn := fun _ => fun
  | [d] => { results := [.lit (.bool true)], args := [d] }
  | _ => none }
def fnScaledRow : OpenClaim := { program := "ytbfpllmoaooadaa", sum := "76f0d49007266f42395121bd008a09871e67e32371096ccc255d8c6a48fc123b", func := "loop.example/chosensums/laws.FnScaled", spec := "fnScaled", recurses := true, apart := false }
def FnScaledSaid : Prop := fnScaledRow.holds Try.pinned (OpenSpec.ofChange fnScaledSpec)

/-- ITS FALSE NEIGHBOUR: 'it returns false'. Refute it at one input. -/
def fnScaledWrong : ChangeSpec := { name := "fnScaled", fn := fun _ => fun
  | [d] => { results := [.lit (.bool false)], args := [d] }
  | _ => none }
def FnScaledWrongFalsely : Prop := fnScaledRow.holds Try.pinned (OpenSpec.ofChange fnScaledWrong)

/- THE SECOND FORM. 'bulk': how many values and letters a reading holds, each counted each time it is reached (what is shared counts as often as it is met; a slice's spare places count too). A statement '..UptoSaid' is the law's where the arguments, and the package variables that the reading takes, are together of bulk at most 1048576: NARROWER than '..Said'. Prove '..Said' where nothing that the law and all that it calls make is longer than what came in: it says more and counts as full. Else prove '..UptoSaid'. A law counts once. -/
mutual
def uptoBulk {H : Type} : DataW H → Nat
  | .lit (.string bytes) => bytes.length + 1
  | .lit _ => 1
  | .nil => 1
  | .ptr d => uptoBulk d + 1
  | .slice elems spare => uptoBulkAll elems + uptoBulkAll spare + 1
  | .agg parts => uptoBulkAll parts + 1
  | .iface _ d => uptoBulk d + 1
  | .map entries => uptoBulkEntries entries + 1
  | .held _ => 1
def uptoBulkAll {H : Type} : List (DataW H) → Nat
  | [] => 0
  | d :: r => uptoBulk d + uptoBulkAll r
def uptoBulkEntries {H : Type} : List (Lit × DataW H) → Nat
  | [] => 0
  | x :: r => uptoBulkEntry x + uptoBulkEntries r
def uptoBulkEntry {H : Type} : Lit × DataW H → Nat
  | (.string bytes, d) => bytes.length + uptoBulk d + 1
  | (_, d) => uptoBulk d + 1
 end
def uptoSmall : (H : Type) → List (DataW H) → Bool := fun _ ds => decide (uptoBulkAll ds ≤ 1048576)
def OpenSpec.upto (s : _root_.Go.ChangeSpec) : _root_.Go.OpenSpec := { _root_.Go.OpenSpec.ofChange s with cond := some uptoSmall }

/-- 'laws.FnExactPowerIn', WHERE WHAT IT READS IS OF BULK AT MOST 1048576: true; the input reads as it did. -/
def fnExactPowerInUptoRow : OpenClaim := { program := "ytbfpllmoaooadaa", sum := "76f0d49007266f42395121bd008a09871e67e32371096ccc255d8c6a48fc123b", func := "loop.example/chosensums/laws.FnExactPowerIn", spec := "fnExactPowerIn", apart := false, narrowed := true }
def FnExactPowerInUptoSaid : Prop := fnExactPowerInUptoRow.holds Try.pinned (OpenSpec.upto fnExactPowerInSpec)

/-- 'laws.FnExactPowerSpread', WHERE WHAT IT READS IS OF BULK AT MOST 1048576: true; the input reads as it did. -/
def fnExactPowerSpreadUptoRow : OpenClaim := { program := "ytbfpllmoaooadaa", sum := "76f0d49007266f42395121bd008a09871e67e32371096ccc255d8c6a48fc123b", func := "loop.example/chosensums/laws.FnExactPowerSpread", spec := "fnExactPowerSpread", recurses := true, apart := false, narrowed := true }
def FnExactPowerSpreadUptoSaid : Prop := fnExactPowerSpreadUptoRow.holds Try.pinned (OpenSpec.upto fnExactPowerSpreadSpec)

/-- 'laws.FnExactPowerSum', WHERE WHAT IT READS IS OF BULK AT MOST 1048576: true; the input reads as it did. -/
def fnExactPowerSumUptoRow : OpenClaim := { program := "ytbfpllmoaooadaa", sum := "76f0d49007266f42395121bd008a09871e67e32371096ccc255d8c6a48fc123b", func := "loop.example/chosensums/laws.FnExactPowerSum", spec := "fnExactPowerSum", apart := false, narrowed := true }
def FnExactPowerSumUptoSaid : Prop := fnExactPowerSumUptoRow.holds Try.pinned (OpenSpec.upto fnExactPowerSumSpec)

/-- 'laws.FnExactPowerThue', WHERE WHAT IT READS IS OF BULK AT MOST 1048576: true; the input reads as it did. -/
def fnExactPowerThueUptoRow : OpenClaim := { program := "ytbfpllmoaooadaa", sum := "76f0d49007266f42395121bd008a09871e67e32371096ccc255d8c6a48fc123b", func := "loop.example/chosensums/laws.FnExactPowerThue", spec := "fnExactPowerThue", apart := false, narrowed := true }
def FnExactPowerThueUptoSaid : Prop := fnExactPowerThueUptoRow.holds Try.pinned (OpenSpec.upto fnExactPowerThueSpec)

/-- 'laws.FnExactPowerDegree', WHERE WHAT IT READS IS OF BULK AT MOST 1048576: true; the input reads as it did. -/
def fnExactPowerDegreeUptoRow : OpenClaim := { program := "ytbfpllmoaooadaa", sum := "76f0d49007266f42395121bd008a09871e67e32371096ccc255d8c6a48fc123b", func := "loop.example/chosensums/laws.FnExactPowerDegree", spec := "fnExactPowerDegree", apart := false, narrowed := true }
def FnExactPowerDegreeUptoSaid : Prop := fnExactPowerDegreeUptoRow.holds Try.pinned (OpenSpec.upto fnExactPowerDegreeSpec)

/-- 'laws.FnDegree', WHERE WHAT IT READS IS OF BULK AT MOST 1048576: true; the input reads as it did. -/
def fnDegreeUptoRow : OpenClaim := { program := "ytbfpllmoaooadaa", sum := "76f0d49007266f42395121bd008a09871e67e32371096ccc255d8c6a48fc123b", func := "loop.example/chosensums/laws.FnDegree", spec := "fnDegree", recurses := true, apart := false, narrowed := true }
def FnDegreeUptoSaid : Prop := fnDegreeUptoRow.holds Try.pinned (OpenSpec.upto fnDegreeSpec)

/-- 'laws.FnExactPowerParts', WHERE WHAT IT READS IS OF BULK AT MOST 1048576: true; the input reads as it did. -/
def fnExactPowerPartsUptoRow : OpenClaim := { program := "ytbfpllmoaooadaa", sum := "76f0d49007266f42395121bd008a09871e67e32371096ccc255d8c6a48fc123b", func := "loop.example/chosensums/laws.FnExactPowerParts", spec := "fnExactPowerParts", apart := false, narrowed := true }
def FnExactPowerPartsUptoSaid : Prop := fnExactPowerPartsUptoRow.holds Try.pinned (OpenSpec.upto fnExactPowerPartsSpec)

/-- 'laws.FnSpread', WHERE WHAT IT READS IS OF BULK AT MOST 1048576: true; the input reads as it did. -/
def fnSpreadUptoRow : OpenClaim := { program := "ytbfpllmoaooadaa", sum := "76f0d49007266f42395121bd008a09871e67e32371096ccc255d8c6a48fc123b", func := "loop.example/chosensums/laws.FnSpread", spec := "fnSpread", recurses := true, apart := false, narrowed := true }
def FnSpreadUptoSaid : Prop := fnSpreadUptoRow.holds Try.pinned (OpenSpec.upto fnSpreadSpec)

/-- 'laws.FnSide', WHERE WHAT IT READS IS OF BULK AT MOST 1048576: true; the input reads as it did. -/
def fnSideUptoRow : OpenClaim := { program := "ytbfpllmoaooadaa", sum := "76f0d49007266f42395121bd008a09871e67e32371096ccc255d8c6a48fc123b", func := "loop.example/chosensums/laws.FnSide", spec := "fnSide", apart := false, narrowed := true }
def FnSideUptoSaid : Prop := fnSideUptoRow.holds Try.pinned (OpenSpec.upto fnSideSpec)

/-- 'laws.FnExactPowerMoved', WHERE WHAT IT READS IS OF BULK AT MOST 1048576: true; the input reads as it did. -/
def fnExactPowerMovedUptoRow : OpenClaim := { program := "ytbfpllmoaooadaa", sum := "76f0d49007266f42395121bd008a09871e67e32371096ccc255d8c6a48fc123b", func := "loop.example/chosensums/laws.FnExactPowerMoved", spec := "fnExactPowerMoved", apart := false, narrowed := true }
def FnExactPowerMovedUptoSaid : Prop := fnExactPowerMovedUptoRow.holds Try.pinned (OpenSpec.upto fnExactPowerMovedSpec)

/-- 'laws.FnMoved', WHERE WHAT IT READS IS OF BULK AT MOST 1048576: true; the input reads as it did. -/
def fnMovedUptoRow : OpenClaim := { program := "ytbfpllmoaooadaa", sum := "76f0d49007266f42395121bd008a09871e67e32371096ccc255d8c6a48fc123b", func := "loop.example/chosensums/laws.FnMoved", spec := "fnMoved", apart := false, narrowed := true }
def FnMovedUptoSaid : Prop := fnMovedUptoRow.holds Try.pinned (OpenSpec.upto fnMovedSpec)

/-- 'laws.FnThue', WHERE WHAT IT READS IS OF BULK AT MOST 1048576: true; the input reads as it did. -/
def fnThueUptoRow : OpenClaim := { program := "ytbfpllmoaooadaa", sum := "76f0d49007266f42395121bd008a09871e67e32371096ccc255d8c6a48fc123b", func := "loop.example/chosensums/laws.FnThue", spec := "fnThue", apart := false, narrowed := true }
def FnThueUptoSaid : Prop := fnThueUptoRow.holds Try.pinned (OpenSpec.upto fnThueSpec)

/-- 'laws.FnExactPowerFind', WHERE WHAT IT READS IS OF BULK AT MOST 1048576: true; the input reads as it did. -/
def fnExactPowerFindUptoRow : OpenClaim := { program := "ytbfpllmoaooadaa", sum := "76f0d49007266f42395121bd008a09871e67e32371096ccc255d8c6a48fc123b", func := "loop.example/chosensums/laws.FnExactPowerFind", spec := "fnExactPowerFind", apart := false, narrowed := true }
def FnExactPowerFindUptoSaid : Prop := fnExactPowerFindUptoRow.holds Try.pinned (OpenSpec.upto fnExactPowerFindSpec)

/-- 'laws.FnFind', WHERE WHAT IT READS IS OF BULK AT MOST 1048576: true; the input reads as it did. -/
def fnFindUptoRow : OpenClaim := { program := "ytbfpllmoaooadaa", sum := "76f0d49007266f42395121bd008a09871e67e32371096ccc255d8c6a48fc123b", func := "loop.example/chosensums/laws.FnFind", spec := "fnFind", apart := false, narrowed := true }
def FnFindUptoSaid : Prop := fnFindUptoRow.holds Try.pinned (OpenSpec.upto fnFindSpec)

/-- 'laws.FnParts', WHERE WHAT IT READS IS OF BULK AT MOST 1048576: true; the input reads as it did. -/
def fnPartsUptoRow : OpenClaim := { program := "ytbfpllmoaooadaa", sum := "76f0d49007266f42395121bd008a09871e67e32371096ccc255d8c6a48fc123b", func := "loop.example/chosensums/laws.FnParts", spec := "fnParts", apart := false, narrowed := true }
def FnPartsUptoSaid : Prop := fnPartsUptoRow.holds Try.pinned (OpenSpec.upto fnPartsSpec)

/-- 'laws.FnExactPowerScaled', WHERE WHAT IT READS IS OF BULK AT MOST 1048576: true; the input reads as it did. -/
def fnExactPowerScaledUptoRow : OpenClaim := { program := "ytbfpllmoaooadaa", sum := "76f0d49007266f42395121bd008a09871e67e32371096ccc255d8c6a48fc123b", func := "loop.example/chosensums/laws.FnExactPowerScaled", spec := "fnExactPowerScaled", recurses := true, apart := false, narrowed := true }
def FnExactPowerScaledUptoSaid : Prop := fnExactPowerScaledUptoRow.holds Try.pinned (OpenSpec.upto fnExactPowerScaledSpec)

/-- 'laws.FnPowerSum', WHERE WHAT IT READS IS OF BULK AT MOST 1048576: true; the input reads as it did. -/
def fnPowerSumUptoRow : OpenClaim := { program := "ytbfpllmoaooadaa", sum := "76f0d49007266f42395121bd008a09871e67e32371096ccc255d8c6a48fc123b", func := "loop.example/chosensums/laws.FnPowerSum", spec := "fnPowerSum", recurses := true, apart := false, narrowed := true }
def FnPowerSumUptoSaid : Prop := fnPowerSumUptoRow.holds Try.pinned (OpenSpec.upto fnPowerSumSpec)

/-- 'laws.FnScaled', WHERE WHAT IT READS IS OF BULK AT MOST 1048576: true; the input reads as it did. -/
def fnScaledUptoRow : OpenClaim := { program := "ytbfpllmoaooadaa", sum := "76f0d49007266f42395121bd008a09871e67e32371096ccc255d8c6a48fc123b", func := "loop.example/chosensums/laws.FnScaled", spec := "fnScaled", recurses := true, apart := false, narrowed := true }
def FnScaledUptoSaid : Prop := fnScaledUptoRow.holds Try.pinned (OpenSpec.upto fnScaledSpec)

end Rows
end Go.Proofs.Ytbfpllmoaooadaa
