
/- x[:i] and x[i:]; append in a drawn region, the block told. For the seats load and bin (the power seat has these in XPartsW). -/
import Derived.Test.YtbpnpceikbedbaaAppD
import Derived.Test.YtbpnpceikbedbaaSortL
namespace Go.Proofs.Ytbpnpceikbedbaa
set_option linter.unusedVariables false
open Go.RowKit
/-- x[i:]: the address. -/
def dropA (A : Option Addr) (c i : Nat) : Option Addr := if c = i then A else A.map fun a => a.add (i * 1)
theorem run_sliceFrom (w : World) (A : Option Addr) (n c i : Nat) (hi : i ≤ n) :
    (Instr.slice 22 (.slice A n c) (some (.int .i64 i)) none none).run Try.prog w = .ok (.slice (dropA A c i) (n - i) (c - i)) w := by
  obtain ⟨i0, hi0, hz0, hz1, hz2⟩ := info_parts int_info
  have h1 : (0 : Int) ≤ (i : Int) ∧ (i : Int) ≤ (n : Int) := ⟨by omega, by omega⟩
  simp [Instr.slice, Instr.sliceBounds, Instr.sliceBound, asIntOf, run_underlying Try.underlying22, sizeOf, typeInfo, hi0, hz1, h1, hi, dropA]
theorem rd_dropA {w : World} {B n c i : Nat} {A : Option Addr} {xs : List Int} (h : Rd w B A n xs) (hi : i ≤ n) (hc : n ≤ c) : Rd w B (dropA A c i) (n - i) (xs.drop i) := by
  refine ⟨by rw [List.length_drop, h.len], fun hn => ?_⟩
  obtain ⟨b, o, rfl, hb, hcc⟩ := h.at_ (show 0 < n by omega)
  refine ⟨b, o + i, ?_, hb, fun j hj => ?_⟩
  · unfold dropA
    rw [if_neg (by omega)]
    simp [Addr.add_lit]
  · rw [Nat.add_assoc, hcc (i + j) (by omega)]
    simp [List.getD, List.getElem?_drop]
/-- append in a drawn region, the block told. -/
theorem step_appB {ops : Array Oper} {o : Oper} {a : Act} {K : Act → World → Prop} {Q : Exit → Act → World → Prop} {E : Prop} {w : World} (hgd : o.guard = none) (s x : Operand) (t : TypeId)
    (ho : o.op = .call { callee := .builtin .append, args := #[s, x], argTypes := #[t, t] }) (ht : Try.prog.underlying t = some (.slice 3))
    (W0 : World) (hb : Below W0.heap.size W0 w) (A : Option Addr) (n c : Nat) (xs : List Int) (hs : a.eval s = .slice A n c) (hown : Own w W0.heap.size A n c xs)
    (A2 : Option Addr) (m c2 : Nat) (ys : List Int) (hx : a.eval x = .slice A2 m c2) (B : Nat) (hr : Rd w B A2 m ys) (hlen : n + m ≤ 10000000000)
    (h : ∀ A' c' w', Own w' W0.heap.size A' (n + m) c' (xs ++ ys) → w.grownBy w' (blk A) → (blk A' = blk A ∨ blk A' = some w.heap.size) → Below W0.heap.size W0 w' → K (a.put o.dst (.slice A' (n + m) c')) w') :
    if Region.wanted o (yielded ops a.tmps) = true then Oper.wp Try.prog o a w K Q else E := by
  have hw : Region.wanted o (yielded ops a.tmps) = true := by simp [Region.wanted, hgd]
  rw [if_pos hw]
  obtain ⟨A', c', w', hrun, h2, h3, h4⟩ := run_app w t o.type ht W0.heap.size A n c xs hown B A2 m c2 ys hr hlen hb.size
  unfold Oper.wp execOp
  simp only [ho, resolve, invoke, builtin, Sem.run_bind, Sem.run_pure, Result.andThen_ok, List.map_toArray, List.map_cons, List.map_nil, hs, hx, hrun]
  exact h A' c' w' h2 h3 h4 (hb.grown h3 hb.size (fun g e => (hown.lt g e).1))
/-- Apart still, where one has been appended to. -/
theorem ap_push {A A' A2 : Option Addr} {s : Nat} (hap : blk A = none ∨ blk A ≠ blk A') (hlt : ∀ g, blk A' = some g → g < s) (hb : blk A2 = blk A ∨ ∃ g, blk A2 = some g ∧ s ≤ g) : blk A2 = none ∨ blk A2 ≠ blk A' := by
  rcases hb with hb | ⟨g, hb, hg⟩
  · rw [hb]; exact hap
  · right
    rw [hb]
    intro e
    have := hlt g e.symm
    omega
theorem run_sliceTo (w : World) (A : Option Addr) (n c i : Nat) (hi : i ≤ n) (hc : n ≤ c) :
    (Instr.slice 22 (.slice A n c) none (some (.int .i64 i)) none).run Try.prog w = .ok (.slice A i c) w := by
  obtain ⟨i0, hi0, hz0, hz1, hz2⟩ := info_parts int_info
  have h1 : (0 : Int) ≤ (i : Int) ∧ (i : Int) ≤ (c : Int) := ⟨by omega, by omega⟩
  have h2 : i ≤ c := by omega
  simp [Instr.slice, Instr.sliceBounds, Instr.sliceBound, asIntOf, run_underlying Try.underlying22, sizeOf, typeInfo, hi0, h1, h2, Addr.add]
end Go.Proofs.Ytbpnpceikbedbaa
