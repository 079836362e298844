
/- Lists drawn from a code: some list of ints, no longer than the bound and one. -/
import Derived.Test.YtbfpllmoaooadaaDraw
import Derived.Test.YtbfpllmoaooadaaApp
import Derived.WalkLawsBesides
namespace Go.Proofs.Ytbfpllmoaooadaa
set_option linter.unusedVariables false
open Go.RowKit
theorem grown_more {a b c : World} {row row' : Option Nat} (h : a.grownBy b row) (k : b.grownBy c row') (hr : ∀ x, row' = some x → a.heap.size ≤ x) : a.grownBy c row :=
  ⟨k.os.trans h.os, k.tape.trans h.tape, k.output.trans h.output, Nat.le_trans h.size k.size, fun i hi hne => (k.block i (Nat.lt_of_lt_of_le hi h.size) (fun e => by have := hr i e.symm; omega)).trans (h.block i hi hne)⟩
/-- A list is drawn: the reader g moves on. -/
def Drew (w : World) (g p q : Nat) (m : Nat) (e : Ending) (w' : World) : Prop :=
  ∃ (A : Option Addr) (n c p' : Nat) (xs : List Int), e = .returned (.slice A n c) ∧ Own w' w.heap.size A n c xs ∧ n ≤ m ∧ Rdr w' g p' ∧ p' ≤ p + q ∧ w.grownBy w' (some g)
/-- What holds at a round's head. -/
def LR (w : World) (g p : Nat) (k : Nat) (A : Option Addr) (c : Nat) (wr : World) : Prop := ∃ (xs : List Int) (p' : Nat), Own wr w.heap.size A k c xs ∧ Rdr wr g p' ∧ p' ≤ p + 2 + 2 * k ∧ w.grownBy wr (some g)
theorem LR.push {w w1 w' : World} {g p k : Nat} {A A' : Option Addr} {c c' : Nat} {xs : List Int} {v : Int} {p1 : Nat} (hg : g < w.heap.size) (ho : Own w1 w.heap.size A k c xs) (hr : Rdr w1 g p1) (hp : p1 ≤ p + 2 + 2 * (k + 1)) (hw : w.grownBy w1 (some g))
    (ho' : Own w' w.heap.size A' (k + 1) c' (xs ++ [v])) (hg' : w1.grownBy w' (blk A)) : LR w g p (k + 1) A' c' w' :=
  ⟨xs ++ [v], p1, ho', hr.grown hg' (fun x e => by have := (ho.lt x e).1; omega), hp, grown_more hw hg' (fun x e => (ho.lt x e).1)⟩
theorem Own.picked {w wr w' : World} {g n c : Nat} {A : Option Addr} {xs : List Int} (h : Own wr w.heap.size A n c xs) (hlt : g < w.heap.size) (hg : wr.grownBy w' (some g)) : Own w' w.heap.size A n c xs :=
  h.grown hg (by
    cases hA : blk A with
    | none => exact .inl rfl
    | some x => right; intro e; injection e with e; have := (h.lt x hA).1; omega)
end Go.Proofs.Ytbfpllmoaooadaa
