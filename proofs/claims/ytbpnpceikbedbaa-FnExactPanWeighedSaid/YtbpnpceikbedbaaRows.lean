/-
  No cell of these rows narrows 'for every input' (looked for: loops, veiled, ifaces, maps, wideKeys, modest, calm, conditions, laid).
  DERIVED. THE GIVEN ROWS OF THIS SEAT. 6 by the template 'for every input the law returns true; each argument reads behind the call as it read before'; 0 by the template 'total and deterministic' (their statements: YtbpnpceikbedbaaTotals.lean).
  GIVEN WITH THE SEED: the statements are not yours to turn. If you find one false, say at which input.
  Laid BY PROGRAM, IN A SANDBOX (cutbox-rows.mjs): the forced cells as the released guide's own fill.sh prints them over the translation 522156b4c11f7967… (all of the seat's roots in one cut). By AI agents, Wed Nov 11 2026. No macro, syntax, notation, axiom, sorry.
-/
import Derived.Test.YtbpnpceikbedbaaChecked
import GoSem.Claim
import GoSem.ClaimJoined
import GoSem.ClaimMapViews
import Derived.JoinedTies
import Derived.KernelRfl
namespace Go.Proofs.Ytbpnpceikbedbaa
/- THE CELL 'sum', in the pinned program and in every row, IS THE sha256 OF THE DUMP (.gsa) THAT YtbpnpceikbedbaaProg.lean LOADS. Nothing in Lean hashes anything: it is a label: what it is worth is what the hold of that sum in a sandbox is worth. -/
noncomputable def Try.pinned : Pinned := { name := "ytbpnpceikbedbaa", sum := "522156b4c11f7967fba9046059b1b9cb0d6daf82f62aa67070abbca4dbd6e411", checked := Try.checked }
namespace Rows
def none {H : Type} : Left H := { results := [], args := [] }

/-- 'laws.FnExactPanBest': WHATEVER THE INPUT: true; the input reads as it did. -/
def fnExactPanBestSpec : ChangeSpec := { name := "fnExactPanBest", fn := fun _ => fun
  | [d] => { results := [.lit (.bool true)], args := [d] }
  | _ => none }
def fnExactPanBestRow : OpenClaim := { program := "ytbpnpceikbedbaa", sum := "522156b4c11f7967fba9046059b1b9cb0d6daf82f62aa67070abbca4dbd6e411", func := "loop.example/chosensums/laws.FnExactPanBest", spec := "fnExactPanBest", apart := false }
def FnExactPanBestSaid : Prop := fnExactPanBestRow.holds Try.pinned (OpenSpec.ofChange fnExactPanBestSpec)

/-- ITS FALSE NEIGHBOUR: 'it returns false'. Refute it at one input. -/
def fnExactPanBestWrong : ChangeSpec := { name := "fnExactPanBest", fn := fun _ => fun
  | [d] => { results := [.lit (.bool false)], args := [d] }
  | _ => none }
def FnExactPanBestWrongFalsely : Prop := fnExactPanBestRow.holds Try.pinned (OpenSpec.ofChange fnExactPanBestWrong)

/-- 'laws.FnExactPanDigits': WHATEVER THE INPUT: true; the input reads as it did. -/
def fnExactPanDigitsSpec : ChangeSpec := { name := "fnExactPanDigits", fn := fun _ => fun
  | [d] => { results := [.lit (.bool true)], args := [d] }
  | _ => none }
def fnExactPanDigitsRow : OpenClaim := { program := "ytbpnpceikbedbaa", sum := "522156b4c11f7967fba9046059b1b9cb0d6daf82f62aa67070abbca4dbd6e411", func := "loop.example/chosensums/laws.FnExactPanDigits", spec := "fnExactPanDigits", apart := false }
def FnExactPanDigitsSaid : Prop := fnExactPanDigitsRow.holds Try.pinned (OpenSpec.ofChange fnExactPanDigitsSpec)

/-- ITS FALSE NEIGHBOUR: 'it returns false'. Refute it at one input. -/
def fnExactPanDigitsWrong : ChangeSpec := { name := "fnExactPanDigits", fn := fun _ => fun
  | [d] => { results := [.lit (.bool false)], args := [d] }
  | _ => none }
def FnExactPanDigitsWrongFalsely : Prop := fnExactPanDigitsRow.holds Try.pinned (OpenSpec.ofChange fnExactPanDigitsWrong)

/-- 'laws.FnExactPanWeighed': WHATEVER THE INPUT: true; the input reads as it did. -/
def fnExactPanWeighedSpec : ChangeSpec := { name := "fnExactPanWeighed", fn := fun _ => fun
  | [d1, d2] => { results := [.lit (.bool true)], args := [d1, d2] }
  | _ => none }
def fnExactPanWeighedRow : OpenClaim := { program := "ytbpnpceikbedbaa", sum := "522156b4c11f7967fba9046059b1b9cb0d6daf82f62aa67070abbca4dbd6e411", func := "loop.example/chosensums/laws.FnExactPanWeighed", spec := "fnExactPanWeighed", unfollowed := true, recurses := true, apart := false }
def FnExactPanWeighedSaid : Prop := fnExactPanWeighedRow.holds Try.pinned (OpenSpec.ofChange fnExactPanWeighedSpec)

/-- ITS FALSE NEIGHBOUR: 'it returns false'. Refute it at one input. -/
def fnExactPanWeighedWrong : ChangeSpec := { name := "fnExactPanWeighed", fn := fun _ => fun
  | [d1, d2] => { results := [.lit (.bool false)], args := [d1, d2] }
  | _ => none }
def FnExactPanWeighedWrongFalsely : Prop := fnExactPanWeighedRow.holds Try.pinned (OpenSpec.ofChange fnExactPanWeighedWrong)

/-- 'laws.FnExactPanCounts': WHATEVER THE INPUT: true; the input reads as it did. -/
def fnExactPanCountsSpec : ChangeSpec := { name := "fnExactPanCounts", fn := fun _ => fun
  | [d] => { results := [.lit (.bool true)], args := [d] }
  | _ => none }
def fnExactPanCountsRow : OpenClaim := { program := "ytbpnpceikbedbaa", sum := "522156b4c11f7967fba9046059b1b9cb0d6daf82f62aa67070abbca4dbd6e411", func := "loop.example/chosensums/laws.FnExactPanCounts", spec := "fnExactPanCounts", apart := false }
def FnExactPanCountsSaid : Prop := fnExactPanCountsRow.holds Try.pinned (OpenSpec.ofChange fnExactPanCountsSpec)

/-- ITS FALSE NEIGHBOUR: 'it returns false'. Refute it at one input. -/
def fnExactPanCountsWrong : ChangeSpec := { name := "fnExactPanCounts", fn := fun _ => fun
  | [d] => { results := [.lit (.bool false)], args := [d] }
  | _ => none }
def FnExactPanCountsWrongFalsely : Prop := fnExactPanCountsRow.holds Try.pinned (OpenSpec.ofChange fnExactPanCountsWrong)

/-- 'laws.FnPanBest': WHATEVER THE INPUT: true; the input reads as it did. -/
def fnPanBestSpec : ChangeSpec := { name := "fnPanBest", fn := fun _ => fun
  | [d] => { results := [.lit (.bool true)], args := [d] }
  | _ => none }
def fnPanBestRow : OpenClaim := { program := "ytbpnpceikbedbaa", sum := "522156b4c11f7967fba9046059b1b9cb0d6daf82f62aa67070abbca4dbd6e411", func := "loop.example/chosensums/laws.FnPanBest", spec := "fnPanBest", apart := false }
def FnPanBestSaid : Prop := fnPanBestRow.holds Try.pinned (OpenSpec.ofChange fnPanBestSpec)

/-- ITS FALSE NEIGHBOUR: 'it returns false'. Refute it at one input. -/
def fnPanBestWrong : ChangeSpec := { name := "fnPanBest", fn := fun _ => fun
  | [d] => { results := [.lit (.bool false)], args := [d] }
  | _ => none }
def FnPanBestWrongFalsely : Prop := fnPanBestRow.holds Try.pinned (OpenSpec.ofChange fnPanBestWrong)

/-- 'laws.FnExactPanWhole': WHATEVER THE INPUT: true; the input reads as it did. -/
def fnExactPanWholeSpec : ChangeSpec := { name := "fnExactPanWhole", fn := fun _ => fun
  | [d] => { results := [.lit (.bool true)], args := [d] }
  | _ => none }
def fnExactPanWholeRow : OpenClaim := { program := "ytbpnpceikbedbaa", sum := "522156b4c11f7967fba9046059b1b9cb0d6daf82f62aa67070abbca4dbd6e411", func := "loop.example/chosensums/laws.FnExactPanWhole", spec := "fnExactPanWhole", apart := false }
def FnExactPanWholeSaid : Prop := fnExactPanWholeRow.holds Try.pinned (OpenSpec.ofChange fnExactPanWholeSpec)

/-- ITS FALSE NEIGHBOUR: 'it returns false'. Refute it at one input. -/
def fnExactPanWholeWrong : ChangeSpec := { name := "fnExactPanWhole", fn := fun _ => fun
  | [d] => { results := [.lit (.bool false)], args := [d] }
  | _ => none }
def FnExactPanWholeWrongFalsely : Prop := fnExactPanWholeRow.holds Try.pinned (OpenSpec.ofChange fnExactPanWholeWrong)

/- THE SECOND FORM. 'bulk': how many values and letters a reading holds, each counted each time it is reached (what is shared counts as often as it is met; a slice's spare places count too). A statement '..UptoSaid' is the law's where the arguments, and the package variables that the reading takes, are together of bulk at most 1048576: NARROWER than '..Said'. Prove '..Said' where nothing that the law and all that it calls make is longer than what came in: it says more and counts as full. Else prove '..UptoSaid'. A law counts once. -/
mutual
def uptoBulk {H : Type} : DataW H → Nat
  | .lit (.string bytes) => bytes.length + 1
  | .lit _ => 1
  | .nil => 1
  | .ptr d => uptoBulk d + 1
  | .slice elems spare => uptoBulkAll elems + uptoBulkAll spare + 1
  | .agg parts => uptoBulkAll parts + 1
  | .iface _ d => uptoBulk d + 1
  | .map entries => uptoBulkEntries entries + 1
  | .held _ => 1
def uptoBulkAll {H : Type} : List (DataW H) → Nat
  | [] => 0
  | d :: r => uptoBulk d + uptoBulkAll r
def uptoBulkEntries {H : Type} : List (Lit × DataW H) → Nat
  | [] => 0
  | x :: r => uptoBulkEntry x + uptoBulkEntries r
def uptoBulkEntry {H : Type} : Lit × DataW H → Nat
  | (.string bytes, d) => bytes.length + uptoBulk d + 1
  | (_, d) => uptoBulk d + 1
 end
def uptoSmall : (H : Type) → List (DataW H) → Bool := fun _ ds => decide (uptoBulkAll ds ≤ 1048576)
def OpenSpec.upto (s : _root_.Go.ChangeSpec) : _root_.Go.OpenSpec := { _root_.Go.OpenSpec.ofChange s with cond := some uptoSmall }

/-- 'laws.FnExactPanBest', WHERE WHAT IT READS IS OF BULK AT MOST 1048576: true; the input reads as it did. -/
def fnExactPanBestUptoRow : OpenClaim := { program := "ytbpnpceikbedbaa", sum := "522156b4c11f7967fba9046059b1b9cb0d6daf82f62aa67070abbca4dbd6e411", func := "loop.example/chosensums/laws.FnExactPanBest", spec := "fnExactPanBest", apart := false, narrowed := true }
def FnExactPanBestUptoSaid : Prop := fnExactPanBestUptoRow.holds Try.pinned (OpenSpec.upto fnExactPanBestSpec)

/-- 'laws.FnExactPanDigits', WHERE WHAT IT READS IS OF BULK AT MOST 1048576: true; the input reads as it did. -/
def fnExactPanDigitsUptoRow : OpenClaim := { program := "ytbpnpceikbedbaa", sum := "522156b4c11f7967fba9046059b1b9cb0d6daf82f62aa67070abbca4dbd6e411", func := "loop.example/chosensums/laws.FnExactPanDigits", spec := "fnExactPanDigits", apart := false, narrowed := true }
def FnExactPanDigitsUptoSaid : Prop := fnExactPanDigitsUptoRow.holds Try.pinned (OpenSpec.upto fnExactPanDigitsSpec)

/-- 'laws.FnExactPanWeighed', WHERE WHAT IT READS IS OF BULK AT MOST 1048576: true; the input reads as it did. -/
def fnExactPanWeighedUptoRow : OpenClaim := { program := "ytbpnpceikbedbaa", sum := "522156b4c11f7967fba9046059b1b9cb0d6daf82f62aa67070abbca4dbd6e411", func := "loop.example/chosensums/laws.FnExactPanWeighed", spec := "fnExactPanWeighed", unfollowed := true, recurses := true, apart := false, narrowed := true }
def FnExactPanWeighedUptoSaid : Prop := fnExactPanWeighedUptoRow.holds Try.pinned (OpenSpec.upto fnExactPanWeighedSpec)

/-- 'laws.FnExactPanCounts', WHERE WHAT IT READS IS OF BULK AT MOST 1048576: true; the input reads as it did. -/
def fnExactPanCountsUptoRow : OpenClaim := { program := "ytbpnpceikbedbaa", sum := "522156b4c11f7967fba9046059b1b9cb0d6daf82f62aa67070abbca4dbd6e411", func := "loop.example/chosensums/laws.FnExactPanCounts", spec := "fnExactPanCounts", apart := false, narrowed := true }
def FnExactPanCountsUptoSaid : Prop := fnExactPanCountsUptoRow.holds Try.pinned (OpenSpec.upto fnExactPanCountsSpec)

/-- 'laws.FnPanBest', WHERE WHAT IT READS IS OF BULK AT MOST 1048576: true; the input reads as it did. -/
def fnPanBestUptoRow : OpenClaim := { program := "ytbpnpceikbedbaa", sum := "522156b4c11f7967fba9046059b1b9cb0d6daf82f62aa67070abbca4dbd6e411", func := "loop.example/chosensums/laws.FnPanBest", spec := "fnPanBest", apart := false, narrowed := true }
def FnPanBestUptoSaid : Prop := fnPanBestUptoRow.holds Try.pinned (OpenSpec.upto fnPanBestSpec)

/-- 'laws.FnExactPanWhole', WHERE WHAT IT READS IS OF BULK AT MOST 1048576: true; the input reads as it did. -/
def fnExactPanWholeUptoRow : OpenClaim := { program := "ytbpnpceikbedbaa", sum := "522156b4c11f7967fba9046059b1b9cb0d6daf82f62aa67070abbca4dbd6e411", func := "loop.example/chosensums/laws.FnExactPanWhole", spec := "fnExactPanWhole", apart := false, narrowed := true }
def FnExactPanWholeUptoSaid : Prop := fnExactPanWholeUptoRow.holds Try.pinned (OpenSpec.upto fnExactPanWholeSpec)

end Rows
end Go.Proofs.Ytbpnpceikbedbaa
