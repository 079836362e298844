/-
  No cell of these rows narrows 'for every input' (looked for: loops, veiled, ifaces, maps, wideKeys, modest, calm, conditions, laid).
  DERIVED. THE GIVEN ROWS OF THIS SEAT. 8 by the template 'for every input the law returns true; each argument reads behind the call as it read before'; 0 by the template 'total and deterministic' (their statements: YthfgejihdhclmaaTotals.lean).
  GIVEN WITH THE SEED: the statements are not yours to turn. If you find one false, say at which input.
  Laid BY PROGRAM, IN A SANDBOX (cutbox-rows.mjs): the forced cells as the released guide's own fill.sh prints them over the translation 89b781dbd785099d… (all of the seat's roots in one cut). By AI agents, Wed Nov 11 2026. No macro, syntax, notation, axiom, sorry.
-/
import Derived.Test.YthfgejihdhclmaaChecked
import GoSem.Claim
import GoSem.ClaimJoined
import GoSem.ClaimMapViews
import Derived.JoinedTies
import Derived.KernelRfl
namespace Go.Proofs.Ythfgejihdhclmaa
/- THE CELL 'sum', in the pinned program and in every row, IS THE sha256 OF THE DUMP (.gsa) THAT YthfgejihdhclmaaProg.lean LOADS. Nothing in Lean hashes anything: it is a label: what it is worth is what the hold of that sum in a sandbox is worth. -/
noncomputable def Try.pinned : Pinned := { name := "ythfgejihdhclmaa", sum := "89b781dbd785099d0a8810d968c2ea0b9deeb449132930631244677c36c3a707", checked := Try.checked }
namespace Rows
def none {H : Type} : Left H := { results := [], args := [] }

/-- 'laws.FnExactLoadBound': WHATEVER THE INPUT: true; the input reads as it did. -/
def fnExactLoadBoundSpec : ChangeSpec := { name := "fnExactLoadBound", fn := fun _ => fun
  | [d1, d2] => { results := [.lit (.bool true)], args := [d1, d2] }
  | _ => none }
def fnExactLoadBoundRow : OpenClaim := { program := "ythfgejihdhclmaa", sum := "89b781dbd785099d0a8810d968c2ea0b9deeb449132930631244677c36c3a707", func := "loop.example/chosensums/laws.FnExactLoadBound", spec := "fnExactLoadBound", apart := false }
def FnExactLoadBoundSaid : Prop := fnExactLoadBoundRow.holds Try.pinned (OpenSpec.ofChange fnExactLoadBoundSpec)

/-- ITS FALSE NEIGHBOUR: 'it returns false'. Refute it at one input. -/
def fnExactLoadBoundWrong : ChangeSpec := { name := "fnExactLoadBound", fn := fun _ => fun
  | [d1, d2] => { results := [.lit (.bool false)], args := [d1, d2] }
  | _ => none }
def FnExactLoadBoundWrongFalsely : Prop := fnExactLoadBoundRow.holds Try.pinned (OpenSpec.ofChange fnExactLoadBoundWrong)

/-- 'laws.FnExactLoadOf': WHATEVER THE INPUT: true; the input reads as it did. -/
def fnExactLoadOfSpec : ChangeSpec := { name := "fnExactLoadOf", fn := fun _ => fun
  | [d1, d2, d3] => { results := [.lit (.bool true)], args := [d1, d2, d3] }
  | _ => none }
def fnExactLoadOfRow : OpenClaim := { program := "ythfgejihdhclmaa", sum := "89b781dbd785099d0a8810d968c2ea0b9deeb449132930631244677c36c3a707", func := "loop.example/chosensums/laws.FnExactLoadOf", spec := "fnExactLoadOf", apart := false }
def FnExactLoadOfSaid : Prop := fnExactLoadOfRow.holds Try.pinned (OpenSpec.ofChange fnExactLoadOfSpec)

/-- ITS FALSE NEIGHBOUR: 'it returns false'. Refute it at one input. -/
def fnExactLoadOfWrong : ChangeSpec := { name := "fnExactLoadOf", fn := fun _ => fun
  | [d1, d2, d3] => { results := [.lit (.bool false)], args := [d1, d2, d3] }
  | _ => none }
def FnExactLoadOfWrongFalsely : Prop := fnExactLoadOfRow.holds Try.pinned (OpenSpec.ofChange fnExactLoadOfWrong)

/-- 'laws.FnExactLoadList': WHATEVER THE INPUT: true; the input reads as it did. -/
def fnExactLoadListSpec : ChangeSpec := { name := "fnExactLoadList", fn := fun _ => fun
  | [d1, d2] => { results := [.lit (.bool true)], args := [d1, d2] }
  | _ => none }
def fnExactLoadListRow : OpenClaim := { program := "ythfgejihdhclmaa", sum := "89b781dbd785099d0a8810d968c2ea0b9deeb449132930631244677c36c3a707", func := "loop.example/chosensums/laws.FnExactLoadList", spec := "fnExactLoadList", apart := false }
def FnExactLoadListSaid : Prop := fnExactLoadListRow.holds Try.pinned (OpenSpec.ofChange fnExactLoadListSpec)

/-- ITS FALSE NEIGHBOUR: 'it returns false'. Refute it at one input. -/
def fnExactLoadListWrong : ChangeSpec := { name := "fnExactLoadList", fn := fun _ => fun
  | [d1, d2] => { results := [.lit (.bool false)], args := [d1, d2] }
  | _ => none }
def FnExactLoadListWrongFalsely : Prop := fnExactLoadListRow.holds Try.pinned (OpenSpec.ofChange fnExactLoadListWrong)

/-- 'laws.FnExactLoadSpan': WHATEVER THE INPUT: true; the input reads as it did. -/
def fnExactLoadSpanSpec : ChangeSpec := { name := "fnExactLoadSpan", fn := fun _ => fun
  | [d1, d2] => { results := [.lit (.bool true)], args := [d1, d2] }
  | _ => none }
def fnExactLoadSpanRow : OpenClaim := { program := "ythfgejihdhclmaa", sum := "89b781dbd785099d0a8810d968c2ea0b9deeb449132930631244677c36c3a707", func := "loop.example/chosensums/laws.FnExactLoadSpan", spec := "fnExactLoadSpan", apart := false }
def FnExactLoadSpanSaid : Prop := fnExactLoadSpanRow.holds Try.pinned (OpenSpec.ofChange fnExactLoadSpanSpec)

/-- ITS FALSE NEIGHBOUR: 'it returns false'. Refute it at one input. -/
def fnExactLoadSpanWrong : ChangeSpec := { name := "fnExactLoadSpan", fn := fun _ => fun
  | [d1, d2] => { results := [.lit (.bool false)], args := [d1, d2] }
  | _ => none }
def FnExactLoadSpanWrongFalsely : Prop := fnExactLoadSpanRow.holds Try.pinned (OpenSpec.ofChange fnExactLoadSpanWrong)

/-- 'laws.FnLoadBound': WHATEVER THE INPUT: true; the input reads as it did. -/
def fnLoadBoundSpec : ChangeSpec := { name := "fnLoadBound", fn := fun _ => fun
  | [d] => { results := [.lit (.bool true)], args := [d] }
  | _ => none }
def fnLoadBoundRow : OpenClaim := { program := "ythfgejihdhclmaa", sum := "89b781dbd785099d0a8810d968c2ea0b9deeb449132930631244677c36c3a707", func := "loop.example/chosensums/laws.FnLoadBound", spec := "fnLoadBound", apart := false }
def FnLoadBoundSaid : Prop := fnLoadBoundRow.holds Try.pinned (OpenSpec.ofChange fnLoadBoundSpec)

/-- ITS FALSE NEIGHBOUR: 'it returns false'. Refute it at one input. -/
def fnLoadBoundWrong : ChangeSpec := { name := "fnLoadBound", fn := fun _ => fun
  | [d] => { results := [.lit (.bool false)], args := [d] }
  | _ => none }
def FnLoadBoundWrongFalsely : Prop := fnLoadBoundRow.holds Try.pinned (OpenSpec.ofChange fnLoadBoundWrong)

/-- 'laws.FnExactLoadWorst': WHATEVER THE INPUT: true; the input reads as it did. -/
def fnExactLoadWorstSpec : ChangeSpec := { name := "fnExactLoadWorst", fn := fun _ => fun
  | [d1, d2] => { results := [.lit (.bool true)], args := [d1, d2] }
  | _ => none }
def fnExactLoadWorstRow : OpenClaim := { program := "ythfgejihdhclmaa", sum := "89b781dbd785099d0a8810d968c2ea0b9deeb449132930631244677c36c3a707", func := "loop.example/chosensums/laws.FnExactLoadWorst", spec := "fnExactLoadWorst", unfollowed := true, recurses := true, apart := false }
def FnExactLoadWorstSaid : Prop := fnExactLoadWorstRow.holds Try.pinned (OpenSpec.ofChange fnExactLoadWorstSpec)

/-- ITS FALSE NEIGHBOUR: 'it returns false'. Refute it at one input. -/
def fnExactLoadWorstWrong : ChangeSpec := { name := "fnExactLoadWorst", fn := fun _ => fun
  | [d1, d2] => { results := [.lit (.bool false)], args := [d1, d2] }
  | _ => none }
def FnExactLoadWorstWrongFalsely : Prop := fnExactLoadWorstRow.holds Try.pinned (OpenSpec.ofChange fnExactLoadWorstWrong)

/-- 'laws.FnLoadList': WHATEVER THE INPUT: true; the input reads as it did. -/
def fnLoadListSpec : ChangeSpec := { name := "fnLoadList", fn := fun _ => fun
  | [d] => { results := [.lit (.bool true)], args := [d] }
  | _ => none }
def fnLoadListRow : OpenClaim := { program := "ythfgejihdhclmaa", sum := "89b781dbd785099d0a8810d968c2ea0b9deeb449132930631244677c36c3a707", func := "loop.example/chosensums/laws.FnLoadList", spec := "fnLoadList", apart := false }
def FnLoadListSaid : Prop := fnLoadListRow.holds Try.pinned (OpenSpec.ofChange fnLoadListSpec)

/-- ITS FALSE NEIGHBOUR: 'it returns false'. Refute it at one input. -/
def fnLoadListWrong : ChangeSpec := { name := "fnLoadList", fn := fun _ => fun
  | [d] => { results := [.lit (.bool false)], args := [d] }
  | _ => none }
def FnLoadListWrongFalsely : Prop := fnLoadListRow.holds Try.pinned (OpenSpec.ofChange fnLoadListWrong)

/-- 'laws.FnExactLoadLong': WHATEVER THE INPUT: true; the input reads as it did. -/
def fnExactLoadLongSpec : ChangeSpec := { name := "fnExactLoadLong", fn := fun _ => fun
  | [d1, d2] => { results := [.lit (.bool true)], args := [d1, d2] }
  | _ => none }
def fnExactLoadLongRow : OpenClaim := { program := "ythfgejihdhclmaa", sum := "89b781dbd785099d0a8810d968c2ea0b9deeb449132930631244677c36c3a707", func := "loop.example/chosensums/laws.FnExactLoadLong", spec := "fnExactLoadLong", unfollowed := true, recurses := true, apart := false }
def FnExactLoadLongSaid : Prop := fnExactLoadLongRow.holds Try.pinned (OpenSpec.ofChange fnExactLoadLongSpec)

/-- ITS FALSE NEIGHBOUR: 'it returns false'. Refute it at one input. -/
def fnExactLoadLongWrong : ChangeSpec := { name := "fnExactLoadLong", fn := fun _ => fun
  | [d1, d2] => { results := [.lit (.bool false)], args := [d1, d2] }
  | _ => none }
def FnExactLoadLongWrongFalsely : Prop := fnExactLoadLongRow.holds Try.pinned (OpenSpec.ofChange fnExactLoadLongWrong)

/- THE SECOND FORM. 'bulk': how many values and letters a reading holds, each counted each time it is reached (what is shared counts as often as it is met; a slice's spare places count too). A statement '..UptoSaid' is the law's where the arguments, and the package variables that the reading takes, are together of bulk at most 1048576: NARROWER than '..Said'. Prove '..Said' where nothing that the law and all that it calls make is longer than what came in: it says more and counts as full. Else prove '..UptoSaid'. A law counts once. -/
mutual
def uptoBulk {H : Type} : DataW H → Nat
  | .lit (.string bytes) => bytes.length + 1
  | .lit _ => 1
  | .nil => 1
  | .ptr d => uptoBulk d + 1
  | .slice elems spare => uptoBulkAll elems + uptoBulkAll spare + 1
  | .agg parts => uptoBulkAll parts + 1
  | .iface _ d => uptoBulk d + 1
  | .map entries => uptoBulkEntries entries + 1
  | .held _ => 1
def uptoBulkAll {H : Type} : List (DataW H) → Nat
  | [] => 0
  | d :: r => uptoBulk d + uptoBulkAll r
def uptoBulkEntries {H : Type} : List (Lit × DataW H) → Nat
  | [] => 0
  | x :: r => uptoBulkEntry x + uptoBulkEntries r
def uptoBulkEntry {H : Type} : Lit × DataW H → Nat
  | (.string bytes, d) => bytes.length + uptoBulk d + 1
  | (_, d) => uptoBulk d + 1
 end
def uptoSmall : (H : Type) → List (DataW H) → Bool := fun _ ds => decide (uptoBulkAll ds ≤ 1048576)
def OpenSpec.upto (s : _root_.Go.ChangeSpec) : _root_.Go.OpenSpec := { _root_.Go.OpenSpec.ofChange s with cond := some uptoSmall }

/-- 'laws.FnExactLoadBound', WHERE WHAT IT READS IS OF BULK AT MOST 1048576: true; the input reads as it did. -/
def fnExactLoadBoundUptoRow : OpenClaim := { program := "ythfgejihdhclmaa", sum := "89b781dbd785099d0a8810d968c2ea0b9deeb449132930631244677c36c3a707", func := "loop.example/chosensums/laws.FnExactLoadBound", spec := "fnExactLoadBound", apart := false, narrowed := true }
def FnExactLoadBoundUptoSaid : Prop := fnExactLoadBoundUptoRow.holds Try.pinned (OpenSpec.upto fnExactLoadBoundSpec)

/-- 'laws.FnExactLoadOf', WHERE WHAT IT READS IS OF BULK AT MOST 1048576: true; the input reads as it did. -/
def fnExactLoadOfUptoRow : OpenClaim := { program := "ythfgejihdhclmaa", sum := "89b781dbd785099d0a8810d968c2ea0b9deeb449132930631244677c36c3a707", func := "loop.example/chosensums/laws.FnExactLoadOf", spec := "fnExactLoadOf", apart := false, narrowed := true }
def FnExactLoadOfUptoSaid : Prop := fnExactLoadOfUptoRow.holds Try.pinned (OpenSpec.upto fnExactLoadOfSpec)

/-- 'laws.FnExactLoadList', WHERE WHAT IT READS IS OF BULK AT MOST 1048576: true; the input reads as it did. -/
def fnExactLoadListUptoRow : OpenClaim := { program := "ythfgejihdhclmaa", sum := "89b781dbd785099d0a8810d968c2ea0b9deeb449132930631244677c36c3a707", func := "loop.example/chosensums/laws.FnExactLoadList", spec := "fnExactLoadList", apart := false, narrowed := true }
def FnExactLoadListUptoSaid : Prop := fnExactLoadListUptoRow.holds Try.pinned (OpenSpec.upto fnExactLoadListSpec)

/-- 'laws.FnExactLoadSpan', WHERE WHAT IT READS IS OF BULK AT MOST 1048576: true; the input reads as it did. -/
def fnExactLoadSpanUptoRow : OpenClaim := { program := "ythfgejihdhclmaa", sum := "89b781dbd785099d0a8810d968c2ea0b9deeb449132930631244677c36c3a707", func := "loop.example/chosensums/laws.FnExactLoadSpan", spec := "fnExactLoadSpan", apart := false, narrowed := true }
def FnExactLoadSpanUptoSaid : Prop := fnExactLoadSpanUptoRow.holds Try.pinned (OpenSpec.upto fnExactLoadSpanSpec)

/-- 'laws.FnLoadBound', WHERE WHAT IT READS IS OF BULK AT MOST 1048576: true; the input reads as it did. -/
def fnLoadBoundUptoRow : OpenClaim := { program := "ythfgejihdhclmaa", sum := "89b781dbd785099d0a8810d968c2ea0b9deeb449132930631244677c36c3a707", func := "loop.example/chosensums/laws.FnLoadBound", spec := "fnLoadBound", apart := false, narrowed := true }
def FnLoadBoundUptoSaid : Prop := fnLoadBoundUptoRow.holds Try.pinned (OpenSpec.upto fnLoadBoundSpec)

/-- 'laws.FnExactLoadWorst', WHERE WHAT IT READS IS OF BULK AT MOST 1048576: true; the input reads as it did. -/
def fnExactLoadWorstUptoRow : OpenClaim := { program := "ythfgejihdhclmaa", sum := "89b781dbd785099d0a8810d968c2ea0b9deeb449132930631244677c36c3a707", func := "loop.example/chosensums/laws.FnExactLoadWorst", spec := "fnExactLoadWorst", unfollowed := true, recurses := true, apart := false, narrowed := true }
def FnExactLoadWorstUptoSaid : Prop := fnExactLoadWorstUptoRow.holds Try.pinned (OpenSpec.upto fnExactLoadWorstSpec)

/-- 'laws.FnLoadList', WHERE WHAT IT READS IS OF BULK AT MOST 1048576: true; the input reads as it did. -/
def fnLoadListUptoRow : OpenClaim := { program := "ythfgejihdhclmaa", sum := "89b781dbd785099d0a8810d968c2ea0b9deeb449132930631244677c36c3a707", func := "loop.example/chosensums/laws.FnLoadList", spec := "fnLoadList", apart := false, narrowed := true }
def FnLoadListUptoSaid : Prop := fnLoadListUptoRow.holds Try.pinned (OpenSpec.upto fnLoadListSpec)

/-- 'laws.FnExactLoadLong', WHERE WHAT IT READS IS OF BULK AT MOST 1048576: true; the input reads as it did. -/
def fnExactLoadLongUptoRow : OpenClaim := { program := "ythfgejihdhclmaa", sum := "89b781dbd785099d0a8810d968c2ea0b9deeb449132930631244677c36c3a707", func := "loop.example/chosensums/laws.FnExactLoadLong", spec := "fnExactLoadLong", unfollowed := true, recurses := true, apart := false, narrowed := true }
def FnExactLoadLongUptoSaid : Prop := fnExactLoadLongUptoRow.holds Try.pinned (OpenSpec.upto fnExactLoadLongSpec)

end Rows
end Go.Proofs.Ythfgejihdhclmaa
