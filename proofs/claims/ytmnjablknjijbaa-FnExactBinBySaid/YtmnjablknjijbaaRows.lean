/-
  No cell of these rows narrows 'for every input' (looked for: loops, veiled, ifaces, maps, wideKeys, modest, calm, conditions, laid).
  DERIVED. THE GIVEN ROWS OF THIS SEAT. 10 by the template 'for every input the law returns true; each argument reads behind the call as it read before'; 0 by the template 'total and deterministic' (their statements: YtmnjablknjijbaaTotals.lean).
  GIVEN WITH THE SEED: the statements are not yours to turn. If you find one false, say at which input.
  Laid BY PROGRAM, IN A SANDBOX (cutbox-rows.mjs): the forced cells as the released guide's own fill.sh prints them over the translation 3761c69ef5dbb25f… (all of the seat's roots in one cut). By AI agents, Wed Nov 11 2026. No macro, syntax, notation, axiom, sorry.
-/
import Derived.Test.YtmnjablknjijbaaChecked
import GoSem.Claim
import GoSem.ClaimJoined
import GoSem.ClaimMapViews
import Derived.JoinedTies
import Derived.KernelRfl
namespace Go.Proofs.Ytmnjablknjijbaa
/- THE CELL 'sum', in the pinned program and in every row, IS THE sha256 OF THE DUMP (.gsa) THAT YtmnjablknjijbaaProg.lean LOADS. Nothing in Lean hashes anything: it is a label: what it is worth is what the hold of that sum in a sandbox is worth. -/
noncomputable def Try.pinned : Pinned := { name := "ytmnjablknjijbaa", sum := "3761c69ef5dbb25fcfecf3595c217a246f15b1a24ecb70b0ea513b4a106a17aa", checked := Try.checked }
namespace Rows
def none {H : Type} : Left H := { results := [], args := [] }

/-- 'laws.FnExactBinLeast': WHATEVER THE INPUT: true; the input reads as it did. -/
def fnExactBinLeastSpec : ChangeSpec := { name := "fnExactBinLeast", fn := fun _ => fun
  | [d1, d2] => { results := [.lit (.bool true)], args := [d1, d2] }
  | _ => none }
def fnExactBinLeastRow : OpenClaim := { program := "ytmnjablknjijbaa", sum := "3761c69ef5dbb25fcfecf3595c217a246f15b1a24ecb70b0ea513b4a106a17aa", func := "loop.example/chosensums/laws.FnExactBinLeast", spec := "fnExactBinLeast", unfollowed := true, recurses := true, apart := false }
def FnExactBinLeastSaid : Prop := fnExactBinLeastRow.holds Try.pinned (OpenSpec.ofChange fnExactBinLeastSpec)

/-- ITS FALSE NEIGHBOUR: 'it returns false'. Refute it at one input. -/
def fnExactBinLeastWrong : ChangeSpec := { name := "fnExactBinLeast", fn := fun _ => fun
  | [d1, d2] => { results := [.lit (.bool false)], args := [d1, d2] }
  | _ => none }
def FnExactBinLeastWrongFalsely : Prop := fnExactBinLeastRow.holds Try.pinned (OpenSpec.ofChange fnExactBinLeastWrong)

/-- 'laws.FnBinLeast': WHATEVER THE INPUT: true; the input reads as it did. -/
def fnBinLeastSpec : ChangeSpec := { name := "fnBinLeast", fn := fun _ => fun
  | [d] => { results := [.lit (.bool true)], args := [d] }
  | _ => none }
def fnBinLeastRow : OpenClaim := { program := "ytmnjablknjijbaa", sum := "3761c69ef5dbb25fcfecf3595c217a246f15b1a24ecb70b0ea513b4a106a17aa", func := "loop.example/chosensums/laws.FnBinLeast", spec := "fnBinLeast", unfollowed := true, recurses := true, apart := false }
def FnBinLeastSaid : Prop := fnBinLeastRow.holds Try.pinned (OpenSpec.ofChange fnBinLeastSpec)

/-- ITS FALSE NEIGHBOUR: 'it returns false'. Refute it at one input. -/
def fnBinLeastWrong : ChangeSpec := { name := "fnBinLeast", fn := fun _ => fun
  | [d] => { results := [.lit (.bool false)], args := [d] }
  | _ => none }
def FnBinLeastWrongFalsely : Prop := fnBinLeastRow.holds Try.pinned (OpenSpec.ofChange fnBinLeastWrong)

/-- 'laws.FnExactBinFits': WHATEVER THE INPUT: true; the input reads as it did. -/
def fnExactBinFitsSpec : ChangeSpec := { name := "fnExactBinFits", fn := fun _ => fun
  | [d1, d2, d3] => { results := [.lit (.bool true)], args := [d1, d2, d3] }
  | _ => none }
def fnExactBinFitsRow : OpenClaim := { program := "ytmnjablknjijbaa", sum := "3761c69ef5dbb25fcfecf3595c217a246f15b1a24ecb70b0ea513b4a106a17aa", func := "loop.example/chosensums/laws.FnExactBinFits", spec := "fnExactBinFits", unfollowed := true, recurses := true, apart := false }
def FnExactBinFitsSaid : Prop := fnExactBinFitsRow.holds Try.pinned (OpenSpec.ofChange fnExactBinFitsSpec)

/-- ITS FALSE NEIGHBOUR: 'it returns false'. Refute it at one input. -/
def fnExactBinFitsWrong : ChangeSpec := { name := "fnExactBinFits", fn := fun _ => fun
  | [d1, d2, d3] => { results := [.lit (.bool false)], args := [d1, d2, d3] }
  | _ => none }
def FnExactBinFitsWrongFalsely : Prop := fnExactBinFitsRow.holds Try.pinned (OpenSpec.ofChange fnExactBinFitsWrong)

/-- 'laws.FnExactBinCount': WHATEVER THE INPUT: true; the input reads as it did. -/
def fnExactBinCountSpec : ChangeSpec := { name := "fnExactBinCount", fn := fun _ => fun
  | [d1, d2, d3] => { results := [.lit (.bool true)], args := [d1, d2, d3] }
  | _ => none }
def fnExactBinCountRow : OpenClaim := { program := "ytmnjablknjijbaa", sum := "3761c69ef5dbb25fcfecf3595c217a246f15b1a24ecb70b0ea513b4a106a17aa", func := "loop.example/chosensums/laws.FnExactBinCount", spec := "fnExactBinCount", unfollowed := true, recurses := true, apart := false }
def FnExactBinCountSaid : Prop := fnExactBinCountRow.holds Try.pinned (OpenSpec.ofChange fnExactBinCountSpec)

/-- ITS FALSE NEIGHBOUR: 'it returns false'. Refute it at one input. -/
def fnExactBinCountWrong : ChangeSpec := { name := "fnExactBinCount", fn := fun _ => fun
  | [d1, d2, d3] => { results := [.lit (.bool false)], args := [d1, d2, d3] }
  | _ => none }
def FnExactBinCountWrongFalsely : Prop := fnExactBinCountRow.holds Try.pinned (OpenSpec.ofChange fnExactBinCountWrong)

/-- 'laws.FnExactBinRoom': WHATEVER THE INPUT: true; the input reads as it did. -/
def fnExactBinRoomSpec : ChangeSpec := { name := "fnExactBinRoom", fn := fun _ => fun
  | [d1, d2, d3] => { results := [.lit (.bool true)], args := [d1, d2, d3] }
  | _ => none }
def fnExactBinRoomRow : OpenClaim := { program := "ytmnjablknjijbaa", sum := "3761c69ef5dbb25fcfecf3595c217a246f15b1a24ecb70b0ea513b4a106a17aa", func := "loop.example/chosensums/laws.FnExactBinRoom", spec := "fnExactBinRoom", unfollowed := true, recurses := true, apart := false }
def FnExactBinRoomSaid : Prop := fnExactBinRoomRow.holds Try.pinned (OpenSpec.ofChange fnExactBinRoomSpec)

/-- ITS FALSE NEIGHBOUR: 'it returns false'. Refute it at one input. -/
def fnExactBinRoomWrong : ChangeSpec := { name := "fnExactBinRoom", fn := fun _ => fun
  | [d1, d2, d3] => { results := [.lit (.bool false)], args := [d1, d2, d3] }
  | _ => none }
def FnExactBinRoomWrongFalsely : Prop := fnExactBinRoomRow.holds Try.pinned (OpenSpec.ofChange fnExactBinRoomWrong)

/-- 'laws.FnExactBinBy': WHATEVER THE INPUT: true; the input reads as it did. -/
def fnExactBinBySpec : ChangeSpec := { name := "fnExactBinBy", fn := fun _ => fun
  | [d1, d2, d3] => { results := [.lit (.bool true)], args := [d1, d2, d3] }
  | _ => none }
def fnExactBinByRow : OpenClaim := { program := "ytmnjablknjijbaa", sum := "3761c69ef5dbb25fcfecf3595c217a246f15b1a24ecb70b0ea513b4a106a17aa", func := "loop.example/chosensums/laws.FnExactBinBy", spec := "fnExactBinBy", unfollowed := true, recurses := true, apart := false }
def FnExactBinBySaid : Prop := fnExactBinByRow.holds Try.pinned (OpenSpec.ofChange fnExactBinBySpec)

/-- ITS FALSE NEIGHBOUR: 'it returns false'. Refute it at one input. -/
def fnExactBinByWrong : ChangeSpec := { name := "fnExactBinBy", fn := fun _ => fun
  | [d1, d2, d3] => { results := [.lit (.bool false)], args := [d1, d2, d3] }
  | _ => none }
def FnExactBinByWrongFalsely : Prop := fnExactBinByRow.holds Try.pinned (OpenSpec.ofChange fnExactBinByWrong)

/-- 'laws.FnBinFits': WHATEVER THE INPUT: true; the input reads as it did. -/
def fnBinFitsSpec : ChangeSpec := { name := "fnBinFits", fn := fun _ => fun
  | [d] => { results := [.lit (.bool true)], args := [d] }
  | _ => none }
def fnBinFitsRow : OpenClaim := { program := "ytmnjablknjijbaa", sum := "3761c69ef5dbb25fcfecf3595c217a246f15b1a24ecb70b0ea513b4a106a17aa", func := "loop.example/chosensums/laws.FnBinFits", spec := "fnBinFits", unfollowed := true, recurses := true, apart := false }
def FnBinFitsSaid : Prop := fnBinFitsRow.holds Try.pinned (OpenSpec.ofChange fnBinFitsSpec)

/-- ITS FALSE NEIGHBOUR: 'it returns false'. Refute it at one input. -/
def fnBinFitsWrong : ChangeSpec := { name := "fnBinFits", fn := fun _ => fun
  | [d] => { results := [.lit (.bool false)], args := [d] }
  | _ => none }
def FnBinFitsWrongFalsely : Prop := fnBinFitsRow.holds Try.pinned (OpenSpec.ofChange fnBinFitsWrong)

/-- 'laws.FnBinCount': WHATEVER THE INPUT: true; the input reads as it did. -/
def fnBinCountSpec : ChangeSpec := { name := "fnBinCount", fn := fun _ => fun
  | [d] => { results := [.lit (.bool true)], args := [d] }
  | _ => none }
def fnBinCountRow : OpenClaim := { program := "ytmnjablknjijbaa", sum := "3761c69ef5dbb25fcfecf3595c217a246f15b1a24ecb70b0ea513b4a106a17aa", func := "loop.example/chosensums/laws.FnBinCount", spec := "fnBinCount", unfollowed := true, recurses := true, apart := false }
def FnBinCountSaid : Prop := fnBinCountRow.holds Try.pinned (OpenSpec.ofChange fnBinCountSpec)

/-- ITS FALSE NEIGHBOUR: 'it returns false'. Refute it at one input. -/
def fnBinCountWrong : ChangeSpec := { name := "fnBinCount", fn := fun _ => fun
  | [d] => { results := [.lit (.bool false)], args := [d] }
  | _ => none }
def FnBinCountWrongFalsely : Prop := fnBinCountRow.holds Try.pinned (OpenSpec.ofChange fnBinCountWrong)

/-- 'laws.FnFirstDown': WHATEVER THE INPUT: true; the input reads as it did. -/
def fnFirstDownSpec : ChangeSpec := { name := "fnFirstDown", fn := fun _ => fun
  | [d] => { results := [.lit (.bool true)], args := [d] }
  | _ => none }
def fnFirstDownRow : OpenClaim := { program := "ytmnjablknjijbaa", sum := "3761c69ef5dbb25fcfecf3595c217a246f15b1a24ecb70b0ea513b4a106a17aa", func := "loop.example/chosensums/laws.FnFirstDown", spec := "fnFirstDown", unfollowed := true, recurses := true, apart := false }
def FnFirstDownSaid : Prop := fnFirstDownRow.holds Try.pinned (OpenSpec.ofChange fnFirstDownSpec)

/-- ITS FALSE NEIGHBOUR: 'it returns false'. Refute it at one input. -/
def fnFirstDownWrong : ChangeSpec := { name := "fnFirstDown", fn := fun _ => fun
  | [d] => { results := [.lit (.bool false)], args := [d] }
  | _ => none }
def FnFirstDownWrongFalsely : Prop := fnFirstDownRow.holds Try.pinned (OpenSpec.ofChange fnFirstDownWrong)

/-- 'laws.FnFirstFit': WHATEVER THE INPUT: true; the input reads as it did. -/
def fnFirstFitSpec : ChangeSpec := { name := "fnFirstFit", fn := fun _ => fun
  | [d] => { results := [.lit (.bool true)], args := [d] }
  | _ => none }
def fnFirstFitRow : OpenClaim := { program := "ytmnjablknjijbaa", sum := "3761c69ef5dbb25fcfecf3595c217a246f15b1a24ecb70b0ea513b4a106a17aa", func := "loop.example/chosensums/laws.FnFirstFit", spec := "fnFirstFit", unfollowed := true, recurses := true, apart := false }
def FnFirstFitSaid : Prop := fnFirstFitRow.holds Try.pinned (OpenSpec.ofChange fnFirstFitSpec)

/-- ITS FALSE NEIGHBOUR: 'it returns false'. Refute it at one input. -/
def fnFirstFitWrong : ChangeSpec := { name := "fnFirstFit", fn := fun _ => fun
  | [d] => { results := [.lit (.bool false)], args := [d] }
  | _ => none }
def FnFirstFitWrongFalsely : Prop := fnFirstFitRow.holds Try.pinned (OpenSpec.ofChange fnFirstFitWrong)

/- THE SECOND FORM. 'bulk': how many values and letters a reading holds, each counted each time it is reached (what is shared counts as often as it is met; a slice's spare places count too). A statement '..UptoSaid' is the law's where the arguments, and the package variables that the reading takes, are together of bulk at most 1048576: NARROWER than '..Said'. Prove '..Said' where nothing that the law and all that it calls make is longer than what came in: it says more and counts as full. Else prove '..UptoSaid'. A law counts once. -/
mutual
def uptoBulk {H : Type} : DataW H → Nat
  | .lit (.string bytes) => bytes.length + 1
  | .lit _ => 1
  | .nil => 1
  | .ptr d => uptoBulk d + 1
  | .slice elems spare => uptoBulkAll elems + uptoBulkAll spare + 1
  | .agg parts => uptoBulkAll parts + 1
  | .iface _ d => uptoBulk d + 1
  | .map entries => uptoBulkEntries entries + 1
  | .held _ => 1
def uptoBulkAll {H : Type} : List (DataW H) → Nat
  | [] => 0
  | d :: r => uptoBulk d + uptoBulkAll r
def uptoBulkEntries {H : Type} : List (Lit × DataW H) → Nat
  | [] => 0
  | x :: r => uptoBulkEntry x + uptoBulkEntries r
def uptoBulkEntry {H : Type} : Lit × DataW H → Nat
  | (.string bytes, d) => bytes.length + uptoBulk d + 1
  | (_, d) => uptoBulk d + 1
 end
def uptoSmall : (H : Type) → List (DataW H) → Bool := fun _ ds => decide (uptoBulkAll ds ≤ 1048576)
def OpenSpec.upto (s : _root_.Go.ChangeSpec) : _root_.Go.OpenSpec := { _root_.Go.OpenSpec.ofChange s with cond := some uptoSmall }

/-- 'laws.FnExactBinLeast', WHERE WHAT IT READS IS OF BULK AT MOST 1048576: true; the input reads as it did. -/
def fnExactBinLeastUptoRow : OpenClaim := { program := "ytmnjablknjijbaa", sum := "3761c69ef5dbb25fcfecf3595c217a246f15b1a24ecb70b0ea513b4a106a17aa", func := "loop.example/chosensums/laws.FnExactBinLeast", spec := "fnExactBinLeast", unfollowed := true, recurses := true, apart := false, narrowed := true }
def FnExactBinLeastUptoSaid : Prop := fnExactBinLeastUptoRow.holds Try.pinned (OpenSpec.upto fnExactBinLeastSpec)

/-- 'laws.FnBinLeast', WHERE WHAT IT READS IS OF BULK AT MOST 1048576: true; the input reads as it did. -/
def fnBinLeastUptoRow : OpenClaim := { program := "ytmnjablknjijbaa", sum := "3761c69ef5dbb25fcfecf3595c217a246f15b1a24ecb70b0ea513b4a106a17aa", func := "loop.example/chosensums/laws.FnBinLeast", spec := "fnBinLeast", unfollowed := true, recurses := true, apart := false, narrowed := true }
def FnBinLeastUptoSaid : Prop := fnBinLeastUptoRow.holds Try.pinned (OpenSpec.upto fnBinLeastSpec)

/-- 'laws.FnExactBinFits', WHERE WHAT IT READS IS OF BULK AT MOST 1048576: true; the input reads as it did. -/
def fnExactBinFitsUptoRow : OpenClaim := { program := "ytmnjablknjijbaa", sum := "3761c69ef5dbb25fcfecf3595c217a246f15b1a24ecb70b0ea513b4a106a17aa", func := "loop.example/chosensums/laws.FnExactBinFits", spec := "fnExactBinFits", unfollowed := true, recurses := true, apart := false, narrowed := true }
def FnExactBinFitsUptoSaid : Prop := fnExactBinFitsUptoRow.holds Try.pinned (OpenSpec.upto fnExactBinFitsSpec)

/-- 'laws.FnExactBinCount', WHERE WHAT IT READS IS OF BULK AT MOST 1048576: true; the input reads as it did. -/
def fnExactBinCountUptoRow : OpenClaim := { program := "ytmnjablknjijbaa", sum := "3761c69ef5dbb25fcfecf3595c217a246f15b1a24ecb70b0ea513b4a106a17aa", func := "loop.example/chosensums/laws.FnExactBinCount", spec := "fnExactBinCount", unfollowed := true, recurses := true, apart := false, narrowed := true }
def FnExactBinCountUptoSaid : Prop := fnExactBinCountUptoRow.holds Try.pinned (OpenSpec.upto fnExactBinCountSpec)

/-- 'laws.FnExactBinRoom', WHERE WHAT IT READS IS OF BULK AT MOST 1048576: true; the input reads as it did. -/
def fnExactBinRoomUptoRow : OpenClaim := { program := "ytmnjablknjijbaa", sum := "3761c69ef5dbb25fcfecf3595c217a246f15b1a24ecb70b0ea513b4a106a17aa", func := "loop.example/chosensums/laws.FnExactBinRoom", spec := "fnExactBinRoom", unfollowed := true, recurses := true, apart := false, narrowed := true }
def FnExactBinRoomUptoSaid : Prop := fnExactBinRoomUptoRow.holds Try.pinned (OpenSpec.upto fnExactBinRoomSpec)

/-- 'laws.FnExactBinBy', WHERE WHAT IT READS IS OF BULK AT MOST 1048576: true; the input reads as it did. -/
def fnExactBinByUptoRow : OpenClaim := { program := "ytmnjablknjijbaa", sum := "3761c69ef5dbb25fcfecf3595c217a246f15b1a24ecb70b0ea513b4a106a17aa", func := "loop.example/chosensums/laws.FnExactBinBy", spec := "fnExactBinBy", unfollowed := true, recurses := true, apart := false, narrowed := true }
def FnExactBinByUptoSaid : Prop := fnExactBinByUptoRow.holds Try.pinned (OpenSpec.upto fnExactBinBySpec)

/-- 'laws.FnBinFits', WHERE WHAT IT READS IS OF BULK AT MOST 1048576: true; the input reads as it did. -/
def fnBinFitsUptoRow : OpenClaim := { program := "ytmnjablknjijbaa", sum := "3761c69ef5dbb25fcfecf3595c217a246f15b1a24ecb70b0ea513b4a106a17aa", func := "loop.example/chosensums/laws.FnBinFits", spec := "fnBinFits", unfollowed := true, recurses := true, apart := false, narrowed := true }
def FnBinFitsUptoSaid : Prop := fnBinFitsUptoRow.holds Try.pinned (OpenSpec.upto fnBinFitsSpec)

/-- 'laws.FnBinCount', WHERE WHAT IT READS IS OF BULK AT MOST 1048576: true; the input reads as it did. -/
def fnBinCountUptoRow : OpenClaim := { program := "ytmnjablknjijbaa", sum := "3761c69ef5dbb25fcfecf3595c217a246f15b1a24ecb70b0ea513b4a106a17aa", func := "loop.example/chosensums/laws.FnBinCount", spec := "fnBinCount", unfollowed := true, recurses := true, apart := false, narrowed := true }
def FnBinCountUptoSaid : Prop := fnBinCountUptoRow.holds Try.pinned (OpenSpec.upto fnBinCountSpec)

/-- 'laws.FnFirstDown', WHERE WHAT IT READS IS OF BULK AT MOST 1048576: true; the input reads as it did. -/
def fnFirstDownUptoRow : OpenClaim := { program := "ytmnjablknjijbaa", sum := "3761c69ef5dbb25fcfecf3595c217a246f15b1a24ecb70b0ea513b4a106a17aa", func := "loop.example/chosensums/laws.FnFirstDown", spec := "fnFirstDown", unfollowed := true, recurses := true, apart := false, narrowed := true }
def FnFirstDownUptoSaid : Prop := fnFirstDownUptoRow.holds Try.pinned (OpenSpec.upto fnFirstDownSpec)

/-- 'laws.FnFirstFit', WHERE WHAT IT READS IS OF BULK AT MOST 1048576: true; the input reads as it did. -/
def fnFirstFitUptoRow : OpenClaim := { program := "ytmnjablknjijbaa", sum := "3761c69ef5dbb25fcfecf3595c217a246f15b1a24ecb70b0ea513b4a106a17aa", func := "loop.example/chosensums/laws.FnFirstFit", spec := "fnFirstFit", unfollowed := true, recurses := true, apart := false, narrowed := true }
def FnFirstFitUptoSaid : Prop := fnFirstFitUptoRow.holds Try.pinned (OpenSpec.upto fnFirstFitSpec)

end Rows
end Go.Proofs.Ytmnjablknjijbaa
