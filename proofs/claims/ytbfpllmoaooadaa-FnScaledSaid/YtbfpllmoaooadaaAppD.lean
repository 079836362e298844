
/- append inside a region that draws its order. -/
import Derived.Test.YtbfpllmoaooadaaApp
import Derived.Deep.RegionHeld3
import Derived.Deep.AppendLies
namespace Go.Proofs.Ytbfpllmoaooadaa
set_option linter.unusedVariables false
open Go.RowKit
theorem step_app {ops : Array Oper} {o : Oper} {a : Act} {K : Act → World → Prop} {Q : Exit → Act → World → Prop} {E : Prop} {w : World} (hgd : o.guard = none) (s x : Operand) (t : TypeId)
    (ho : o.op = .call { callee := .builtin .append, args := #[s, x], argTypes := #[t, t] }) (ht : Try.prog.underlying t = some (.slice 3))
    (W0 : World) (hb : Below W0.heap.size W0 w) (A : Option Addr) (n c : Nat) (xs : List Int) (hs : a.eval s = .slice A n c) (hown : Own w W0.heap.size A n c xs)
    (A2 : Option Addr) (m c2 : Nat) (ys : List Int) (hx : a.eval x = .slice A2 m c2) (B : Nat) (hr : Rd w B A2 m ys) (hlen : n + m ≤ 10000000000)
    (h : ∀ A' c' w', Own w' W0.heap.size A' (n + m) c' (xs ++ ys) → w.grownBy w' (blk A) → Below W0.heap.size W0 w' → K (a.put o.dst (.slice A' (n + m) c')) w') :
    if Region.wanted o (yielded ops a.tmps) = true then Oper.wp Try.prog o a w K Q else E := by
  have hw : Region.wanted o (yielded ops a.tmps) = true := by simp [Region.wanted, hgd]
  rw [if_pos hw]
  obtain ⟨A', c', w', hrun, h2, h3, h4⟩ := run_app w t o.type ht W0.heap.size A n c xs hown B A2 m c2 ys hr hlen hb.size
  unfold Oper.wp execOp
  simp only [ho, resolve, invoke, builtin, Sem.run_bind, Sem.run_pure, Result.andThen_ok, List.map_toArray, List.map_cons, List.map_nil, hs, hx, hrun]
  exact h A' c' w' h2 h3 (hb.grown h3 hb.size (fun g e => (hown.lt g e).1))
/-- An empty slice literal, the block's number in the walk's own spelling. -/
theorem own_emptyN {w : World} {B N : Nat} {t : TypeId} (ht : t = 3) (hN : N = w.heap.size) (hB : B ≤ w.heap.size) : Own (w.alloc (.cells #[] t)) B (some ⟨N, 0, none⟩) 0 0 [] := by
  subst hN ht
  exact (own_empty w).mono hB
theorem rd_cell {w : World} {g : Nat} {x : Int} (h : w.cell? ⟨g, 0, none⟩ = some (.int .i64 x)) : Rd w (g + 1) (some ⟨g, 0, none⟩) 1 [x] := by
  refine ⟨rfl, fun _ => ⟨g, 0, rfl, by omega, fun j hj => ?_⟩⟩
  have : j = 0 := by omega
  subst this
  exact h
theorem Rd.part {w : World} {B b o n : Nat} {xs : List Int} (h : Rd w B (some ⟨b, o, none⟩) n xs) (hl : 0 < n) (k m : Nat) (hk : k + m ≤ n) : Rd w B (some ⟨b, o + k, none⟩) m ((xs.drop k).take m) := by
  obtain ⟨b', o', e, hb, hc⟩ := h.at_ hl
  injection e with e
  injection e with e1 e2
  subst e1 e2
  refine ⟨by have := h.len; simp; omega, fun hm => ⟨b, o + k, rfl, hb, fun j hj => ?_⟩⟩
  rw [Nat.add_assoc, hc (k + j) (by omega)]
  simp [List.getD, List.getElem?_drop, hj]
end Go.Proofs.Ytbfpllmoaooadaa
