
/- impl.BinLeast's closure: the state. -/
import Derived.Test.YtbihdajoflaknaaLeastT
import Derived.Test.YtbihdajoflaknaaBinA
import Derived.Test.YtbihdajoflaknaaApp
import Derived.Test.YtbihdajoflaknaaSortL
import Derived.Deep.CutBlock
namespace Go.Proofs.Ytbihdajoflaknaa
set_option linter.unusedVariables false
open Go.RowKit
section
variable {w w' : World} {row : Option Nat} {b : Nat} {x : Value}
theorem gcell (hg : w.grownBy w' row) (hx : w.cell? ⟨b, 0, none⟩ = some x) (hne : row ≠ some b) : w'.cell? ⟨b, 0, none⟩ = some x :=
  (World.cell?_of_block (w := w) (a := ⟨b, 0, none⟩) (hg.block b (World.block_lt_of_cell? w _ hx) (fun e => hne e.symm))).trans hx
theorem gfree {f : Bool} (hg : w.grownBy w' row) (hx : w.cell? ⟨b, 0, none⟩ = some x) (hf : w.frozen? ⟨b, 0, none⟩ = f) (hne : row ≠ some b) : w'.frozen? ⟨b, 0, none⟩ = f :=
  (World.frozen?_of_block (w := w) (a := ⟨b, 0, none⟩) (hg.block b (World.block_lt_of_cell? w _ hx) (fun e => hne e.symm))).trans hf
theorem setCell_grown (w : World) (b : Nat) (v : Value) : w.grownBy (w.setCell ⟨b, 0, none⟩ v) (some b) := ⟨rfl, rfl, rfl, by simp, fun k _ hne => Below.heap_setCell w _ _ k (fun e => hne (by rw [e]))⟩
end
theorem Own.cut {w : World} {base g n c : Nat} {xs : List Int} {y : Int} (h : Own w base (some ⟨g, 0, none⟩) (n + 1) c (xs ++ [y])) : Own w base (some ⟨g, 0, none⟩) n c xs := by
  have hl := h.len
  rcases h.2 with ⟨h2, _⟩ | ⟨g', cap, cur, h1, h2, h3, h4, h5, h6, h7⟩
  · injection h2 with e _ _; cases e
  · injection h1 with e1 e2 e3
    injection e1 with e1
    injection e1 with e1
    subst e1 e3
    refine ⟨by simp at hl ⊢; omega, .inr ⟨g, c, cur, rfl, h2, h3, by omega, h5, h6, ?_⟩⟩
    have := congrArg (List.take n) h7
    rw [List.take_take] at this
    rw [Nat.mul_one] at this ⊢
    rw [Nat.min_eq_left (by omega)] at this
    rw [this, ints_append, List.take_append_of_le_length (by simp at hl ⊢; omega), List.take_of_length_le (by simp at hl ⊢; omega)]
/-- The five captured variables; the numbers' and the rooms' cells. -/
structure WL (W0 : World) (br bl bn bf bs : Nat) (AN : Option Addr) (m cN : Nat) (xs : List Int) (C : Int) (A : Option Addr) (n c : Nat) (R : List Int) (L : Nat) (w : World) : Prop where
  below : Below W0.heap.size W0 w
  own : Own w W0.heap.size A n c R
  nums : Own w W0.heap.size AN m cN xs
  cr : w.cell? ⟨br, 0, none⟩ = some (.slice A n c)
  fr : w.frozen? ⟨br, 0, none⟩ = false
  cl : w.cell? ⟨bl, 0, none⟩ = some (.int .i64 (L : Int))
  fl : w.frozen? ⟨bl, 0, none⟩ = false
  cn : w.cell? ⟨bn, 0, none⟩ = some (.slice AN m cN)
  cs : w.cell? ⟨bs, 0, none⟩ = some (.int .i64 C)
  cf : w.cell? ⟨bf, 0, none⟩ = some (.func (.func 27) #[] #[.pointer (some ⟨br, 0, none⟩), .pointer (some ⟨bl, 0, none⟩), .pointer (some ⟨bn, 0, none⟩), .pointer (some ⟨bf, 0, none⟩), .pointer (some ⟨bs, 0, none⟩)])
  nr : W0.heap.size ≤ br
  nl : W0.heap.size ≤ bl
  d : br ≠ bl ∧ br ≠ bn ∧ br ≠ bs ∧ br ≠ bf ∧ bl ≠ bn ∧ bl ≠ bs ∧ bl ≠ bf
  an : blk AN ≠ some br ∧ blk AN ≠ some bl
  aa : ∀ g, blk A = some g → g ≠ br ∧ g ≠ bl ∧ g ≠ bn ∧ g ≠ bs ∧ g ≠ bf ∧ blk AN ≠ some g
section
variable {W0 w w' : World} {br bl bn bf bs m cN n c L : Nat} {AN A : Option Addr} {xs R : List Int} {C : Int}
theorem WL.drewN (h : WL W0 br bl bn bf bs AN m cN xs C A n c R L w) (k : Nat) : WL W0 br bl bn bf bs AN m cN xs C A n c R L (w.drewN k) :=
  ⟨below_drewN h.below k, h.own.drewN k, h.nums.drewN k, h.cr, h.fr, h.cl, h.fl, h.cn, h.cs, h.cf, h.nr, h.nl, h.d, h.an, h.aa⟩
/-- The least number so far is written. -/
theorem WL.put (h : WL W0 br bl bn bf bs AN m cN xs C A n c R L w) (u : Nat) : WL W0 br bl bn bf bs AN m cN xs C A n c R u (w.setCell ⟨bl, 0, none⟩ (.int .i64 (u : Int))) := by
  have hg := setCell_grown w bl (.int .i64 (u : Int))
  obtain ⟨d1, d2, d3, d4, d5, d6, d7⟩ := h.d
  have ne : ∀ {b : Nat}, bl ≠ b → some bl ≠ some b := fun hne e => by injection e with e; exact hne e
  have hA : blk A ≠ some bl := fun e => (h.aa _ e).2.1 rfl
  exact ⟨h.below.grown hg h.below.size (fun g e => by injection e with e; subst e; exact h.nl), h.own.grown hg (Or.inr hA), h.nums.grown hg (Or.inr h.an.2), gcell hg h.cr (ne d1.symm), gfree hg h.cr h.fr (ne d1.symm),
    World.cell?_setCell_same w _ _ h.cl, by simp [h.fl], gcell hg h.cn (ne d5), gcell hg h.cs (ne d6), gcell hg h.cf (ne d7), h.nr, h.nl, h.d, h.an, h.aa⟩
/-- The rooms' cells are written. -/
theorem WL.row (h : WL W0 br bl bn bf bs AN m cN xs C A n c R L w) {R' : List Int} (ho : Own w' W0.heap.size A n c R') (hg : w.grownBy w' (blk A)) : WL W0 br bl bn bf bs AN m cN xs C A n c R' L w' := by
  have ne : ∀ {b : Nat}, (∀ g, blk A = some g → g ≠ b) → blk A ≠ some b := fun hh e => hh _ e rfl
  have e1 := ne (fun g e => (h.aa g e).1)
  have e2 := ne (fun g e => (h.aa g e).2.1)
  have e3 := ne (fun g e => (h.aa g e).2.2.1)
  have e4 := ne (fun g e => (h.aa g e).2.2.2.1)
  have e5 := ne (fun g e => (h.aa g e).2.2.2.2.1)
  have en : blk AN = none ∨ blk AN ≠ blk A := by
    cases hN : blk AN with
    | none => exact .inl rfl
    | some g => right; intro e; exact (h.aa g e.symm).2.2.2.2.2 hN
  exact ⟨h.below.grown hg h.below.size (fun g e => (h.own.lt g e).1), ho, h.nums.grown hg en, gcell hg h.cr e1, gfree hg h.cr h.fr e1, gcell hg h.cl e2, gfree hg h.cl h.fl e2, gcell hg h.cn e3, gcell hg h.cs e4, gcell hg h.cf e5, h.nr, h.nl, h.d, h.an, h.aa⟩
/-- The rooms are another slice. -/
theorem WL.rebox (h : WL W0 br bl bn bf bs AN m cN xs C A n c R L w) (hg : w.grownBy w' (blk A)) {A' : Option Addr} {n' c' : Nat} {R' : List Int} (ho : Own w' W0.heap.size A' n' c' R')
    (haa : ∀ g, blk A' = some g → g ≠ br ∧ g ≠ bl ∧ g ≠ bn ∧ g ≠ bs ∧ g ≠ bf ∧ blk AN ≠ some g) : WL W0 br bl bn bf bs AN m cN xs C A' n' c' R' L (w'.setCell ⟨br, 0, none⟩ (.slice A' n' c')) := by
  have ne : ∀ {b : Nat}, (∀ g, blk A = some g → g ≠ b) → blk A ≠ some b := fun hh e => hh _ e rfl
  have e1 := ne (fun g e => (h.aa g e).1)
  have e2 := ne (fun g e => (h.aa g e).2.1)
  have e3 := ne (fun g e => (h.aa g e).2.2.1)
  have e4 := ne (fun g e => (h.aa g e).2.2.2.1)
  have e5 := ne (fun g e => (h.aa g e).2.2.2.2.1)
  have en : blk AN = none ∨ blk AN ≠ blk A := by
    cases hN : blk AN with
    | none => exact .inl rfl
    | some g => right; intro e; exact (h.aa g e.symm).2.2.2.2.2 hN
  have hg2 := setCell_grown w' br (.slice A' n' c')
  obtain ⟨d1, d2, d3, d4, d5, d6, d7⟩ := h.d
  have ne2 : ∀ {b : Nat}, br ≠ b → some br ≠ some b := fun hne e => by injection e with e; exact hne e
  have hA' : blk A' ≠ some br := fun e => (haa _ e).1 rfl
  have r1 := gcell hg h.cr e1
  have f1 := gfree hg h.cr h.fr e1
  have r2 := gcell hg h.cl e2
  have f2 := gfree hg h.cl h.fl e2
  exact ⟨(h.below.grown hg h.below.size (fun g e => (h.own.lt g e).1)).grown hg2 (Nat.le_trans h.below.size hg.size) (fun g e => by injection e with e; subst e; exact h.nr), ho.grown hg2 (Or.inr hA'), (h.nums.grown hg en).grown hg2 (Or.inr h.an.1),
    World.cell?_setCell_same w' _ _ r1, by simp [f1], gcell hg2 r2 (ne2 d1), gfree hg2 r2 f2 (ne2 d1), gcell hg2 (gcell hg h.cn e3) (ne2 d2), gcell hg2 (gcell hg h.cs e4) (ne2 d3), gcell hg2 (gcell hg h.cf e5) (ne2 d4), h.nr, h.nl, h.d, h.an, haa⟩
/-- A room is added. -/
theorem WL.app (h : WL W0 br bl bn bf bs AN m cN xs C A n c R L w) (hg : w.grownBy w' (blk A)) {A' : Option Addr} {n' c' : Nat} {R' : List Int} (ho : Own w' W0.heap.size A' n' c' R')
    (hb : blk A' = blk A ∨ ∃ g, blk A' = some g ∧ w.heap.size ≤ g) : WL W0 br bl bn bf bs AN m cN xs C A' n' c' R' L (w'.setCell ⟨br, 0, none⟩ (.slice A' n' c')) := by
  refine h.rebox hg ho fun g e => ?_
  rcases hb with hb | ⟨k, hb, hk⟩
  · exact h.aa g (hb ▸ e)
  · rw [hb] at e
    injection e with e
    subst e
    have lt : ∀ {b : Nat} {x : Value}, w.cell? ⟨b, 0, none⟩ = some x → k ≠ b := fun hx e => by have := World.block_lt_of_cell? w _ hx; simp at this; omega
    exact ⟨lt h.cr, lt h.cl, lt h.cn, lt h.cs, lt h.cf, fun e => by have := (h.nums.lt _ e).2; omega⟩
/-- The last room is dropped. -/
theorem WL.drop {g : Nat} {y : Int} (h : WL W0 br bl bn bf bs AN m cN xs C (some ⟨g, 0, none⟩) (n + 1) c (R ++ [y]) L w) : WL W0 br bl bn bf bs AN m cN xs C (some ⟨g, 0, none⟩) n c R L (w.setCell ⟨br, 0, none⟩ (.slice (some ⟨g, 0, none⟩) n c)) :=
  h.rebox (World.grownBy.refl _ _) h.own.cut h.aa
end
end Go.Proofs.Ytbihdajoflaknaa
