
/- Words for memory: a slice that reads as a list of ints (Rd), a slice of the call's own (Own), what a call hands back; and how they are kept when the world grows. -/
import Derived.Test.YtbfpllmoaooadaaChecked
import Derived.WalkKit
import Derived.ProofKit
import Derived.OpenShut
import Derived.Handy
import Derived.Lib.Hide
import Derived.Deep.LoopGhost
import Derived.Deep.QuietTactic
import Derived.BigQuiet
import Derived.WalkSpells
import Derived.Deep.Draws
namespace Go.Proofs.Ytbfpllmoaooadaa
set_option linter.unusedVariables false
open Go.RowKit

/-- The cells of a list of ints. -/
def ints (xs : List Int) : List Value := xs.map (Value.int .i64)
@[simp] theorem ints_length (xs : List Int) : (ints xs).length = xs.length := by simp [ints]
theorem ints_append (xs ys : List Int) : ints (xs ++ ys) = ints xs ++ ints ys := by simp [ints]
theorem ints_get {xs : List Int} {j : Nat} (h : j < xs.length) : (ints xs)[j]? = some (.int .i64 (xs.getD j 0)) := by
  simp [ints, List.getD, h]
theorem ints_one (xs : List Int) : ∀ u ∈ ints xs, u.oneCell' = true := ints_oneCell _ _

/-- The slice value (A, n, _) reads as xs, in a block below B. -/
def Rd (w : World) (B : Nat) (A : Option Addr) (n : Nat) (xs : List Int) : Prop :=
  xs.length = n ∧ (0 < n → ∃ b off, A = some ⟨b, off, none⟩ ∧ b < B ∧ ∀ j, j < n → w.cell? ⟨b, off + j, none⟩ = some (.int .i64 (xs.getD j 0)))
/-- The slice value (A, n, c) owns the cells of xs, from block base on. -/
def Own (w : World) (base : Nat) (A : Option Addr) (n c : Nat) (xs : List Int) : Prop := w.ownsRow base 3 1 (.slice A n c) n (ints xs)
/-- The block of a slice's address. -/
def blk (A : Option Addr) : Option Nat := A.map Addr.block

section
variable {w w' : World} {B B' base n c : Nat} {A : Option Addr} {xs : List Int} {row : Option Nat}
theorem grown_of_below (h : Below w.heap.size w w') : w.grownBy w' row := ⟨h.os, h.tape, h.output, h.size, fun k hk _ => h.block k hk⟩
theorem below_of_grown (h : w.grownBy w' none) : Below w.heap.size w w' := ⟨h.os, h.tape, h.output, h.size, fun k hk => h.block k hk (by simp)⟩
theorem below_drewN {a : World} (h : Below B a w) (k : Nat) : Below B a (w.drewN k) := ⟨h.os, h.tape, h.output, h.size, h.block⟩
theorem Rd.len (h : Rd w B A n xs) : xs.length = n := h.1
theorem Rd.at_ (h : Rd w B A n xs) {k : Nat} (hk : k < n) : ∃ b off, A = some ⟨b, off, none⟩ ∧ b < B ∧ ∀ j, j < n → w.cell? ⟨b, off + j, none⟩ = some (.int .i64 (xs.getD j 0)) := h.2 (by omega)
theorem Rd.nil (w : World) (B : Nat) (A : Option Addr) : Rd w B A 0 [] := ⟨rfl, fun h => absurd h (by omega)⟩
theorem Rd.grown (h : Rd w B A n xs) (hg : w.grownBy w' row) (hB : B ≤ w.heap.size) (hr : ∀ g, row = some g → B ≤ g) : Rd w' B A n xs := by
  refine ⟨h.1, fun hn => ?_⟩
  obtain ⟨b, off, e, hb, hc⟩ := h.2 hn
  refine ⟨b, off, e, hb, fun j hj => ?_⟩
  refine (World.cell?_of_block (w := w) (a := ⟨b, off + j, none⟩) (hg.block b (by omega) ?_)).trans (hc j hj)
  intro he
  have := hr b he.symm
  omega
theorem Rd.below (h : Rd w B A n xs) (hb : Below B w w') : Rd w' B A n xs := by
  refine ⟨h.1, fun hn => ?_⟩
  obtain ⟨b, off, e, hlt, hc⟩ := h.2 hn
  exact ⟨b, off, e, hlt, fun j hj => (hb.cell (p := ⟨b, off + j, none⟩) hlt).trans (hc j hj)⟩
theorem Rd.mono (h : Rd w B A n xs) (hB : B ≤ B') : Rd w B' A n xs :=
  ⟨h.1, fun hn => by
    obtain ⟨b, off, e, hlt, hc⟩ := h.2 hn
    exact ⟨b, off, e, by omega, hc⟩⟩
theorem Rd.lt (h : Rd w B A n xs) : Rd w w.heap.size A n xs :=
  ⟨h.1, fun hn => by
    obtain ⟨b, off, e, hlt, hc⟩ := h.2 hn
    exact ⟨b, off, e, World.block_lt_of_cell? w _ (hc 0 hn), hc⟩⟩
theorem Own.len (h : Own w base A n c xs) : xs.length = n := by
  have := h.1
  simpa using this
theorem Own.form (h : Own w base A n c xs) (hn : 0 < n) : ∃ g, A = some ⟨g, 0, none⟩ ∧ base ≤ g ∧ g < w.heap.size := by
  rcases h.2 with ⟨_, h2⟩ | ⟨g, cap, cur, h1, h2, h3, _⟩
  · omega
  · have hA : A = some ⟨g, 0, none⟩ := by injection h1
    exact ⟨g, hA, h2, (Array.getElem?_eq_some_iff.1 h3).1⟩
theorem Own.rd (h : Own w base A n c xs) : Rd w w.heap.size A n xs := by
  refine ⟨h.len, fun hn => ?_⟩
  obtain ⟨g, hA, _, hlt⟩ := h.form hn
  subst hA
  refine ⟨g, 0, rfl, hlt, fun j hj => ?_⟩
  have hc := World.ownsRow.cells h (g := g) rfl j _ (ints_get (by rw [h.len]; exact hj))
  simpa [Addr.add_lit] using hc
theorem Own.rdB (h : Own w base A n c xs) (hB : w.heap.size ≤ B) : Rd w B A n xs := h.rd.mono hB
theorem Own.grown (h : Own w base A n c xs) (hg : w.grownBy w' row) (hne : blk A = none ∨ blk A ≠ row) : Own w' base A n c xs := by
  refine World.ownsRow.kept h hg ?_
  cases A with
  | none => exact .inl rfl
  | some a => simpa [Value.ownBlock, blk] using hne
theorem Own.below (h : Own w base A n c xs) (hb : Below w.heap.size w w') : Own w' base A n c xs :=
  h.grown (grown_of_below (row := none) hb) (by cases A <;> simp [blk])
theorem Own.lt (h : Own w base A n c xs) : ∀ g, blk A = some g → base ≤ g ∧ g < w.heap.size := by
  intro g hg
  refine World.ownsRow.lt h g ?_
  cases A with
  | none => simp [blk] at hg
  | some a => simpa [Value.ownBlock, blk] using hg
theorem Own.nil (w : World) (base : Nat) : Own w base none 0 0 [] := World.ownsRow_nil _ _ _ _
theorem Own.mono (h : Own w base A n c xs) {base' : Nat} (hb : base' ≤ base) : Own w base' A n c xs := by
  refine ⟨h.1, ?_⟩
  rcases h.2 with h2 | ⟨g, cap, cur, h1, h2, h3⟩
  · exact .inl h2
  · exact .inr ⟨g, cap, cur, h1, Nat.le_trans hb h2, h3⟩
theorem Own.alloc (h : Own w base A n c xs) (o : Obj) : Own (w.alloc o) base A n c xs := World.ownsRow.alloc h o
theorem Own.drewN (h : Own w base A n c xs) (k : Nat) : Own (w.drewN k) base A n c xs := h
theorem Own.set_ {g : Nat} (h : Own w base (some ⟨g, 0, none⟩) n c xs) (j : Nat) (x : Int) : Own (w.setCell ⟨g, j, none⟩ (.int .i64 x)) base (some ⟨g, 0, none⟩) n c (xs.set j x) ∧ w.grownBy (w.setCell ⟨g, j, none⟩ (.int .i64 x)) (some g) := by
  have := World.ownsRow.stored h j (.int .i64 x)
  refine ⟨?_, this.2⟩
  unfold Own ints
  rw [List.map_set]
  exact this.1
theorem Own.free {g : Nat} (h : Own w base (some ⟨g, 0, none⟩) n c xs) (j : Nat) : w.frozen? ⟨g, j, none⟩ = false := World.ownsRow.frozenAt h j
theorem Own.cell {g : Nat} (h : Own w base (some ⟨g, 0, none⟩) n c xs) {j : Nat} (hj : j < n) : w.cell? ⟨g, j, none⟩ = some (.int .i64 (xs.getD j 0)) := by
  obtain ⟨b, off, e, _, hc⟩ := h.rd.2 (by omega)
  injection e with e
  injection e with e1 e2
  subst e1 e2
  simpa using hc j hj
end

theorem grownBy_trans {a b c : World} {row : Option Nat} (h : a.grownBy b row) (k : b.grownBy c row) : a.grownBy c row :=
  ⟨k.os.trans h.os, k.tape.trans h.tape, k.output.trans h.output, Nat.le_trans h.size k.size, fun i hi hne => (k.block i (Nat.lt_of_lt_of_le hi h.size) hne).trans (h.block i hi hne)⟩

theorem grown_drew {a w : World} {row : Option Nat} (h : a.grownBy w row) : a.grownBy w.drew row := ⟨h.os, h.tape, h.output, h.size, h.block⟩
theorem own_empty (w : World) : Own (w.alloc (.cells #[] 3)) w.heap.size (some ⟨w.heap.size, 0, none⟩) 0 0 [] := by
  unfold Own
  exact World.ownsRow_made (base := w.heap.size) (e := 3) (size := 1) w #[] 0 (Nat.le_refl _) (by unfold maxLen; omega) rfl
theorem below_push {W w w' : World} {A : Option Addr} (h : Below W.heap.size W w) (hg : w.grownBy w' (blk A)) (hA : ∀ g, blk A = some g → W.heap.size ≤ g) : Below W.heap.size W w' :=
  h.grown hg h.size hA

theorem ap_lt {A A' : Option Addr} {s : Nat} (h : ∀ g, blk A = some g → g < s) (h' : ∀ g, blk A' = some g → s ≤ g) : blk A = none ∨ blk A ≠ blk A' := by
  cases hA : blk A with
  | none => exact .inl rfl
  | some g =>
    right
    intro e
    have h1 := h g hA
    have h2 := h' g e.symm
    omega
theorem ap_gt {A A' : Option Addr} {s : Nat} (h' : ∀ g, blk A' = some g → g < s) (h : ∀ g, blk A = some g → s ≤ g) : blk A = none ∨ blk A ≠ blk A' := by
  cases hA : blk A with
  | none => exact .inl rfl
  | some g =>
    right
    intro e
    have h1 := h g hA
    have h2 := h' g e.symm
    omega
theorem ap_symm {A A' : Option Addr} (h : blk A = none ∨ blk A ≠ blk A') : blk A' = none ∨ blk A' ≠ blk A := by
  rcases h with h | h
  · cases hA : blk A' with
    | none => exact .inl rfl
    | some g => right; rw [h]; simp
  · exact .inr (fun e => h e.symm)

/-- What calls hand back. -/
def RetB (w : World) (b : Bool) (e : Ending) (w' : World) : Prop := e = .returned (.bool b) ∧ Below w.heap.size w w'
def RetI (w : World) (x : Int) (e : Ending) (w' : World) : Prop := e = .returned (.int .i64 x) ∧ Below w.heap.size w w'
def RetIB (w : World) (x : Int) (b : Bool) (e : Ending) (w' : World) : Prop := e = .returned (.tuple #[.int .i64 x, .bool b]) ∧ Below w.heap.size w w'
def RetOwn (w : World) (xs : List Int) (e : Ending) (w' : World) : Prop := ∃ A n c, e = .returned (.slice A n c) ∧ Own w' w.heap.size A n c xs ∧ Below w.heap.size w w'
def RetRd (w : World) (xs : List Int) (e : Ending) (w' : World) : Prop := ∃ A n c, e = .returned (.slice A n c) ∧ Rd w' w'.heap.size A n xs ∧ Below w.heap.size w w'
def RetOwnB (w : World) (xs : List Int) (b : Bool) (e : Ending) (w' : World) : Prop := ∃ A n c, e = .returned (.tuple #[.slice A n c, .bool b]) ∧ Own w' w.heap.size A n c xs ∧ Below w.heap.size w w'
def RetRdB (w : World) (xs : List Int) (b : Bool) (e : Ending) (w' : World) : Prop := ∃ A n c, e = .returned (.tuple #[.slice A n c, .bool b]) ∧ Rd w' w'.heap.size A n xs ∧ Below w.heap.size w w'
def RetOwn2B (w : World) (xs ys : List Int) (b : Bool) (e : Ending) (w' : World) : Prop := ∃ A n c A' n' c', e = .returned (.tuple #[.slice A n c, .slice A' n' c', .bool b]) ∧ Own w' w.heap.size A n c xs ∧ Own w' w.heap.size A' n' c' ys ∧ (blk A = none ∨ blk A ≠ blk A') ∧ Below w.heap.size w w'
def RetRd2B (w : World) (xs ys : List Int) (b : Bool) (e : Ending) (w' : World) : Prop := ∃ A n c A' n' c', e = .returned (.tuple #[.slice A n c, .slice A' n' c', .bool b]) ∧ Rd w' w'.heap.size A n xs ∧ Rd w' w'.heap.size A' n' ys ∧ Below w.heap.size w w'

theorem int_info : (Try.prog.info? 3).map (fun i => (i.zero, i.size, i.bytes)) = some (some (.int .i64 0), 1, 8) := by kernel_rfl
end Go.Proofs.Ytbfpllmoaooadaa
