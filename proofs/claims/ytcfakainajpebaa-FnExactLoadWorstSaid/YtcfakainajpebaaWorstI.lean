
/- impl.LoadWorst's closure: the walk. NOT WHOLE YET. -/
import Derived.Test.YtcfakainajpebaaWorstT
import Derived.Deep.CutBlock
namespace Go.Proofs.Ytcfakainajpebaa
set_option linter.unusedVariables false
open Go.RowKit
/-- The four captured variables, and the order's cells. -/
structure WS (W0 : World) (bo bw bm bf : Nat) (A : Option Addr) (n c m : Nat) (O : List Int) (v : Int) (w : World) : Prop where
  below : Below W0.heap.size W0 w
  own : Own w W0.heap.size A n c O
  order : w.cell? ⟨bo, 0, none⟩ = some (.slice A n c)
  worst : w.cell? ⟨bw, 0, none⟩ = some (.int .i64 v)
  free : w.frozen? ⟨bw, 0, none⟩ = false
  mach : w.cell? ⟨bm, 0, none⟩ = some (.int .i64 m)
  self : w.cell? ⟨bf, 0, none⟩ = some (.func (.func 12) #[] #[.pointer (some ⟨bo, 0, none⟩), .pointer (some ⟨bw, 0, none⟩), .pointer (some ⟨bm, 0, none⟩), .pointer (some ⟨bf, 0, none⟩)])
  new : W0.heap.size ≤ bw
  d1 : bw ≠ bo
  d2 : bw ≠ bm
  d3 : bw ≠ bf
  a1 : blk A ≠ some bo
  a2 : blk A ≠ some bw
  a3 : blk A ≠ some bm
  a4 : blk A ≠ some bf
section
variable {W0 w w' : World} {bo bw bm bf n c m : Nat} {A : Option Addr} {O : List Int} {v : Int}
/-- A call that writes nothing that was there. -/
theorem WS.grown (h : WS W0 bo bw bm bf A n c m O v w) (hb : Below w.heap.size w w') : WS W0 bo bw bm bf A n c m O v w' := by
  have lt : ∀ {b : Nat} {x : Value}, w.cell? ⟨b, 0, none⟩ = some x → b < w.heap.size := fun hx => World.block_lt_of_cell? w _ hx
  have ce : ∀ {b : Nat} {x : Value}, w.cell? ⟨b, 0, none⟩ = some x → w'.cell? ⟨b, 0, none⟩ = some x := fun {b x} hx => (hb.cell (p := ⟨b, 0, none⟩) (lt hx)).trans hx
  exact ⟨h.below.trans (hb.mono h.below.size), h.own.below hb, ce h.order, ce h.worst, (hb.frozen (p := ⟨bw, 0, none⟩) (lt h.worst)).trans h.free, ce h.mach, ce h.self, h.new, h.d1, h.d2, h.d3, h.a1, h.a2, h.a3, h.a4⟩
theorem WS.drewN (h : WS W0 bo bw bm bf A n c m O v w) (k : Nat) : WS W0 bo bw bm bf A n c m O v (w.drewN k) := ⟨below_drewN h.below k, h.own.drewN k, h.order, h.worst, h.free, h.mach, h.self, h.new, h.d1, h.d2, h.d3, h.a1, h.a2, h.a3, h.a4⟩
theorem WS.put (h : WS W0 bo bw bm bf A n c m O v w) (u : Int) : WS W0 bo bw bm bf A n c m O u (w.setCell ⟨bw, 0, none⟩ (.int .i64 u)) := by
  have hb : bw < w.heap.size := World.block_lt_of_cell? w _ h.worst
  have hg : w.grownBy (w.setCell ⟨bw, 0, none⟩ (.int .i64 u)) (some bw) := ⟨rfl, rfl, rfl, by simp, fun k _ hne => Below.heap_setCell w _ _ k (fun e => hne (by rw [e]))⟩
  have ce : ∀ {b : Nat} {x : Value}, bw ≠ b → w.cell? ⟨b, 0, none⟩ = some x → (w.setCell ⟨bw, 0, none⟩ (.int .i64 u)).cell? ⟨b, 0, none⟩ = some x := fun {b x} hne hx =>
    (World.cell?_of_block (w := w) (a := ⟨b, 0, none⟩) (hg.block b (World.block_lt_of_cell? w _ hx) (fun e => hne (by injection e with e; exact e.symm)))).trans hx
  exact ⟨h.below.grown hg h.below.size (fun g e => by injection e with e; subst e; exact h.new), h.own.grown hg (Or.inr h.a2), ce h.d1 h.order, World.cell?_setCell_same w _ _ h.worst, by simp [h.free], ce h.d2 h.mach, ce h.d3 h.self, h.new, h.d1, h.d2, h.d3, h.a1, h.a2, h.a3, h.a4⟩
/-- The order's cells are written. -/
theorem WS.row (h : WS W0 bo bw bm bf A n c m O v w) {O' : List Int} (ho : Own w' W0.heap.size A n c O') (hg : w.grownBy w' (blk A)) : WS W0 bo bw bm bf A n c m O' v w' := by
  have ce : ∀ {b : Nat} {x : Value}, blk A ≠ some b → w.cell? ⟨b, 0, none⟩ = some x → w'.cell? ⟨b, 0, none⟩ = some x := fun {b x} hne hx =>
    (World.cell?_of_block (w := w) (a := ⟨b, 0, none⟩) (hg.block b (World.block_lt_of_cell? w _ hx) (fun e => hne e.symm))).trans hx
  have hf : w'.frozen? ⟨bw, 0, none⟩ = w.frozen? ⟨bw, 0, none⟩ := by
    have := hg.block bw (World.block_lt_of_cell? w _ h.worst) (fun e => h.a2 e.symm)
    simp [World.frozen?, this]
  exact ⟨h.below.grown hg h.below.size (fun g e => (h.own.lt g e).1), ho, ce h.a1 h.order, ce h.a2 h.worst, hf.trans h.free, ce h.a3 h.mach, ce h.a4 h.self, h.new, h.d1, h.d2, h.d3, h.a1, h.a2, h.a3, h.a4⟩
end
end Go.Proofs.Ytcfakainajpebaa
