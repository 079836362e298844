
/- Bins linked one behind the other: memory. -/
import Derived.Test.YtbihdajoflaknaaChoose
import Derived.Test.YtbihdajoflaknaaLists
import Derived.Test.YtbihdajoflaknaaApp
namespace Go.Proofs.Ytbihdajoflaknaa
set_option linter.unusedVariables false
open Go.RowKit
theorem setCell_grownI (w : World) (b i : Nat) (v : Value) : w.grownBy (w.setCell ⟨b, i, none⟩ v) (some b) := ⟨rfl, rfl, rfl, by simp, fun k _ hne => Below.heap_setCell w _ _ k (fun e => hne (by rw [e]))⟩
/-- Bin j lies in block gs j, its numbers in the slice fs j. -/
structure Nodes (w : World) (base : Nat) (gs : List Nat) (fs : List Sl) (B : List (List Int)) (C : Int) : Prop where
  lg : gs.length = B.length
  lf : fs.length = B.length
  c0 : ∀ j, j < B.length → w.cell? ⟨gs.getD j 0, 0, none⟩ = some (.slice (fs.getD j slNil).1 (fs.getD j slNil).2.1 (fs.getD j slNil).2.2)
  c1 : ∀ j, j < B.length → w.cell? ⟨gs.getD j 0, 1, none⟩ = some (.int .i64 (C - Pk.tot (B.getD j [])))
  c2 : ∀ j, j < B.length → w.cell? ⟨gs.getD j 0, 2, none⟩ = some (.pointer (nxt gs (j + 1)))
  fz : ∀ j i, j < B.length → w.frozen? ⟨gs.getD j 0, i, none⟩ = false
  row : ∀ j, j < B.length → Own w base (fs.getD j slNil).1 (fs.getD j slNil).2.1 (fs.getD j slNil).2.2 (B.getD j [])
  lo : ∀ j, j < B.length → base ≤ gs.getD j 0
  dg : ∀ i j, i < B.length → j < B.length → i ≠ j → gs.getD i 0 ≠ gs.getD j 0
  df : ∀ i j, i < B.length → j < B.length → blk (fs.getD i slNil).1 ≠ some (gs.getD j 0)
  dd : ∀ i j, i < B.length → j < B.length → i ≠ j → blk (fs.getD i slNil).1 = none ∨ blk (fs.getD i slNil).1 ≠ blk (fs.getD j slNil).1
section
variable {w w' : World} {base : Nat} {gs : List Nat} {fs : List Sl} {B : List (List Int)} {C : Int} {rw_ : Option Nat}
theorem Nodes.lt (h : Nodes w base gs fs B C) {j : Nat} (hj : j < B.length) : gs.getD j 0 < w.heap.size := World.block_lt_of_cell? w _ (h.c0 j hj)
theorem Nodes.links (h : Nodes w base gs fs B C) : Links w gs (Pk.rooms C B) := by
  refine ⟨by rw [Pk.rooms_len]; exact h.lg, fun j hj => ?_⟩
  rw [Pk.rooms_len] at hj
  exact ⟨by rw [Pk.rooms_at hj]; exact h.c1 j hj, h.c2 j hj⟩
theorem Nodes.grown (h : Nodes w base gs fs B C) (hg : w.grownBy w' rw_) (h1 : ∀ j, j < B.length → some (gs.getD j 0) ≠ rw_) (h2 : ∀ j, j < B.length → blk (fs.getD j slNil).1 = none ∨ blk (fs.getD j slNil).1 ≠ rw_) : Nodes w' base gs fs B C :=
  ⟨h.lg, h.lf, fun j hj => hg.cell (h.c0 j hj) (h1 j hj), fun j hj => hg.cell (h.c1 j hj) (h1 j hj), fun j hj => hg.cell (h.c2 j hj) (h1 j hj),
    fun j i hj => (World.frozen?_of_block (a := ⟨gs.getD j 0, i, none⟩) (hg.block _ (h.lt hj) (h1 j hj))).trans (h.fz j i hj), fun j hj => (h.row j hj).grown hg (h2 j hj), h.lo, h.dg, h.df, h.dd⟩
theorem Nodes.below (h : Nodes w base gs fs B C) (hb : Below w.heap.size w w') : Nodes w' base gs fs B C :=
  h.grown (grown_of_below (row := none) hb) (fun j _ => by simp) (fun j _ => by cases hA : blk (fs.getD j slNil).1 with | none => exact .inl rfl | some g => right; simp)
theorem Nodes.drewN (h : Nodes w base gs fs B C) (k : Nat) : Nodes (w.drewN k) base gs fs B C := h.below (below_drewN (Below.refl _ _) k)
theorem Nodes.mono (h : Nodes w base gs fs B C) {base' : Nat} (hb : base' ≤ base) : Nodes w base' gs fs B C :=
  ⟨h.lg, h.lf, h.c0, h.c1, h.c2, h.fz, fun j hj => (h.row j hj).mono hb, fun j hj => Nat.le_trans hb (h.lo j hj), h.dg, h.df, h.dd⟩
theorem Nodes.nil (w : World) (base : Nat) (C : Int) : Nodes w base [] [] [] C :=
  ⟨rfl, rfl, fun _ h => by simp at h, fun _ h => by simp at h, fun _ h => by simp at h, fun _ _ h => by simp at h, fun _ h => by simp at h, fun _ h => by simp at h, fun _ _ h => by simp at h, fun _ _ h => by simp at h, fun _ _ h => by simp at h⟩
theorem nxt_snoc_lt {gs : List Nat} {g j : Nat} (h : j < gs.length) : nxt (gs ++ [g]) j = nxt gs j := by simp only [nxt]; rw [List.getElem?_append_left h]
theorem nxt_snoc_at {gs : List Nat} {g j : Nat} (h : j = gs.length) : nxt (gs ++ [g]) j = some ⟨g, 0, none⟩ := by subst h; simp [nxt]
theorem nxt_snoc_end {gs : List Nat} {g j : Nat} (h : gs.length < j) : nxt (gs ++ [g]) j = none := by simp only [nxt]; rw [List.getElem?_eq_none (by simp; omega)]; rfl
theorem getD_app2 {α : Type} {l : List α} {x d : α} {j : Nat} (h : j < l.length + 1) : (j < l.length ∧ (l ++ [x]).getD j d = l.getD j d) ∨ (j = l.length ∧ (l ++ [x]).getD j d = x) := by
  rcases Nat.lt_or_ge j l.length with h1 | h1
  · exact .inl ⟨h1, getD_snoc_lt h1⟩
  · have e : j = l.length := by omega
    exact .inr ⟨e, getD_snoc_end e⟩
/-- Bins and a new one whose links are laid. -/
theorem Nodes.snoc (h : Nodes w base gs fs B C) (g : Nat) (hg : w'.heap.size ≤ w.heap.size + 1) (hgs : g = w.heap.size) (hbase : base ≤ g) (hrow : ∀ j, j < B.length → Own w' base (fs.getD j slNil).1 (fs.getD j slNil).2.1 (fs.getD j slNil).2.2 (B.getD j []))
    (k0 : ∀ j, j < B.length → w'.cell? ⟨gs.getD j 0, 0, none⟩ = w.cell? ⟨gs.getD j 0, 0, none⟩) (k1 : ∀ j, j < B.length → w'.cell? ⟨gs.getD j 0, 1, none⟩ = w.cell? ⟨gs.getD j 0, 1, none⟩)
    (k2 : ∀ j, j < B.length → w'.cell? ⟨gs.getD j 0, 2, none⟩ = some (.pointer (nxt (gs ++ [g]) (j + 1)))) (kf : ∀ j i, j < B.length → w'.frozen? ⟨gs.getD j 0, i, none⟩ = false)
    (n0 : w'.cell? ⟨g, 0, none⟩ = some (.slice none 0 0)) (n1 : w'.cell? ⟨g, 1, none⟩ = some (.int .i64 C)) (n2 : w'.cell? ⟨g, 2, none⟩ = some (.pointer none)) (nf : ∀ i, w'.frozen? ⟨g, i, none⟩ = false) : Nodes w' base (gs ++ [g]) (fs ++ [slNil]) (B ++ [[]]) C := by
  have cs : ∀ {j : Nat}, j < (B ++ [[]]).length → (j < B.length ∧ (gs ++ [g]).getD j 0 = gs.getD j 0 ∧ (fs ++ [slNil]).getD j slNil = fs.getD j slNil ∧ (B ++ [[]]).getD j [] = B.getD j []) ∨ (j = B.length ∧ (gs ++ [g]).getD j 0 = g ∧ (fs ++ [slNil]).getD j slNil = slNil ∧ (B ++ [[]]).getD j [] = []) := by
    intro j hj
    rw [List.length_append, List.length_singleton] at hj
    rcases Nat.lt_or_ge j B.length with h1 | h1
    · exact .inl ⟨h1, getD_snoc_lt (by rw [h.lg]; exact h1), getD_snoc_lt (by rw [h.lf]; exact h1), getD_snoc_lt h1⟩
    · have e : j = B.length := by omega
      exact .inr ⟨e, getD_snoc_end (by rw [h.lg]; exact e), getD_snoc_end (by rw [h.lf]; exact e), getD_snoc_end e⟩
  have hlt : ∀ j, j < B.length → gs.getD j 0 ≠ g := fun j hj e => by have := h.lt hj; omega
  have hfl : ∀ j, j < B.length → blk (fs.getD j slNil).1 ≠ some g := fun j hj e => by have := (h.row j hj).lt g e; omega
  refine ⟨by simp [h.lg], by simp [h.lf], ?_, ?_, ?_, ?_, ?_, ?_, ?_, ?_, ?_⟩
  · intro j hj
    rcases cs hj with ⟨h1, e1, e2, e3⟩ | ⟨h1, e1, e2, e3⟩
    · rw [e1, e2, k0 j h1]; exact h.c0 j h1
    · rw [e1, e2]; exact n0
  · intro j hj
    rcases cs hj with ⟨h1, e1, e2, e3⟩ | ⟨h1, e1, e2, e3⟩
    · rw [e1, e3, k1 j h1]; exact h.c1 j h1
    · rw [e1, e3, n1]; simp
  · intro j hj
    rcases cs hj with ⟨h1, e1, e2, e3⟩ | ⟨h1, e1, e2, e3⟩
    · rw [e1]; exact k2 j h1
    · rw [e1, n2, nxt_snoc_end (by rw [h.lg]; omega)]
  · intro j i hj
    rcases cs hj with ⟨h1, e1, e2, e3⟩ | ⟨h1, e1, e2, e3⟩
    · rw [e1]; exact kf j i h1
    · rw [e1]; exact nf i
  · intro j hj
    rcases cs hj with ⟨h1, e1, e2, e3⟩ | ⟨h1, e1, e2, e3⟩
    · rw [e2, e3]; exact hrow j h1
    · rw [e2, e3]; exact Own.nil _ _
  · intro j hj
    rcases cs hj with ⟨h1, e1, e2, e3⟩ | ⟨h1, e1, e2, e3⟩
    · rw [e1]; exact h.lo j h1
    · rw [e1]; exact hbase
  · intro i j hi hj hij
    rcases cs hi with ⟨h1, e1, _, _⟩ | ⟨h1, e1, _, _⟩ <;> rcases cs hj with ⟨h2, e2, _, _⟩ | ⟨h2, e2, _, _⟩ <;> rw [e1, e2]
    · exact h.dg i j h1 h2 hij
    · exact hlt i h1
    · exact (hlt j h2).symm
    · omega
  · intro i j hi hj
    rcases cs hi with ⟨h1, _, e1, _⟩ | ⟨h1, _, e1, _⟩ <;> rcases cs hj with ⟨h2, e2, _, _⟩ | ⟨h2, e2, _, _⟩ <;> rw [e1, e2]
    · exact h.df i j h1 h2
    · exact hfl i h1
    · simp [slNil, blk]
    · simp [slNil, blk]
  · intro i j hi hj hij
    rcases cs hi with ⟨h1, _, e1, _⟩ | ⟨h1, _, e1, _⟩ <;> rcases cs hj with ⟨h2, _, e2, _⟩ | ⟨h2, _, e2, _⟩ <;> rw [e1, e2]
    · exact h.dd i j h1 h2 hij
    · cases hA : blk (fs.getD i slNil).1 with
      | none => exact .inl rfl
      | some g => right; simp [slNil, blk]
    · left; simp [slNil, blk]
    · left; simp [slNil, blk]
/-- The first bin. -/
theorem Nodes.first (hbase : base ≤ w.heap.size) {T : TypeId} : Nodes (w.alloc (.cells #[.slice none 0 0, .int .i64 C, .pointer none] T)) base [w.heap.size] [slNil] [[]] C :=
  (Nodes.nil w base C).snoc w.heap.size (by simp) rfl hbase (fun _ h => by simp at h) (fun _ h => by simp at h) (fun _ h => by simp at h) (fun _ h => by simp at h) (fun _ _ h => by simp at h) (by simp) (by simp) (by simp) (fun i => by simp)
/-- A bin behind the last. -/
theorem Nodes.more (h : Nodes w base gs fs B C) (hbase : base ≤ w.heap.size) {T : TypeId} {l : Nat} (hl : l + 1 = B.length) :
    Nodes ((w.alloc (.cells #[.slice none 0 0, .int .i64 C, .pointer none] T)).setCell ⟨gs.getD l 0, 2, none⟩ (.pointer (some ⟨w.heap.size, 0, none⟩))) base (gs ++ [w.heap.size]) (fs ++ [slNil]) (B ++ [[]]) C := by
  have hgl := h.lt (j := l) (by omega)
  have hne : gs.getD l 0 ≠ w.heap.size := by omega
  have al : ∀ j i, j < B.length → (w.alloc (.cells #[.slice none 0 0, .int .i64 C, .pointer none] T)).cell? ⟨gs.getD j 0, i, none⟩ = w.cell? ⟨gs.getD j 0, i, none⟩ := fun j i hj => World.cell?_alloc_lt _ _ ⟨gs.getD j 0, i, none⟩ (h.lt hj)
  have af : ∀ j i, j < B.length → (w.alloc (.cells #[.slice none 0 0, .int .i64 C, .pointer none] T)).frozen? ⟨gs.getD j 0, i, none⟩ = w.frozen? ⟨gs.getD j 0, i, none⟩ := fun j i hj => World.frozen?_alloc_old _ _ ⟨gs.getD j 0, i, none⟩ (Nat.ne_of_lt (h.lt hj))
  have hc2 := (al l 2 (by omega)).trans (h.c2 l (by omega))
  have sc : ∀ b i, (b ≠ gs.getD l 0 ∨ i ≠ 2) → ((w.alloc (.cells #[.slice none 0 0, .int .i64 C, .pointer none] T)).setCell ⟨gs.getD l 0, 2, none⟩ (.pointer (some ⟨w.heap.size, 0, none⟩))).cell? ⟨b, i, none⟩ = (w.alloc (.cells #[.slice none 0 0, .int .i64 C, .pointer none] T)).cell? ⟨b, i, none⟩ := fun b i hne => World.cell?_setCell_other _ _ _ _ (by
    intro e; injection e with e1 e2; rcases hne with h | h; exact h e1.symm; exact h e2.symm)
  refine h.snoc w.heap.size (by simp) rfl hbase ?_ ?_ ?_ ?_ ?_ ?_ ?_ ?_ ?_
  · intro j hj
    exact ((h.row j hj).alloc _).grown (row := some (gs.getD l 0)) ⟨rfl, rfl, rfl, by simp, fun k _ hk => Below.heap_setCell _ _ _ k (fun e => hk (by rw [e]))⟩ (.inr (h.df j l hj (by omega)))
  · intro j hj; rw [sc _ _ (.inr (by omega)), al j 0 hj]
  · intro j hj; rw [sc _ _ (.inr (by omega)), al j 1 hj]
  · intro j hj
    by_cases e : j = l
    · subst e
      rw [World.cell?_setCell_same _ _ _ hc2, nxt_snoc_at (by rw [h.lg]; omega)]
    · rw [sc _ _ (.inl (h.dg j l hj (by omega) e)), al j 2 hj, h.c2 j hj, nxt_snoc_lt (by rw [h.lg]; omega)]
  · intro j i hj
    rw [World.frozen?_setCell, af j i hj]
    exact h.fz j i hj
  · rw [sc _ _ (.inr (by omega))]; simp
  · rw [sc _ _ (.inr (by omega))]; simp
  · rw [sc _ _ (.inl hne.symm)]; simp
  · intro i; rw [World.frozen?_setCell]; simp
/-- A number is put into bin k. -/
theorem Nodes.put (h : Nodes w base gs fs B C) {k : Nat} (hk : k < B.length) (hbase : base ≤ w.heap.size) (hg : w.grownBy w' (blk (fs.getD k slNil).1)) {A' : Option Addr} {n' c' : Nat} {x : Int} (ho : Own w' base A' n' c' (B.getD k [] ++ [x]))
    (hA : blk A' = blk (fs.getD k slNil).1 ∨ ∃ g, blk A' = some g ∧ w.heap.size ≤ g) :
    Nodes ((w'.setCell ⟨gs.getD k 0, 0, none⟩ (.slice A' n' c')).setCell ⟨gs.getD k 0, 1, none⟩ (.int .i64 (C - Pk.tot (B.getD k []) - x))) base gs (fs.set k (A', n', c')) (B.set k (B.getD k [] ++ [x])) C := by
  have hgne : ∀ j, j < B.length → some (gs.getD j 0) ≠ blk (fs.getD k slNil).1 := fun j hj e => h.df k j hk hj e.symm
  have d0 : ∀ j, j < B.length → w'.cell? ⟨gs.getD j 0, 0, none⟩ = some (.slice (fs.getD j slNil).1 (fs.getD j slNil).2.1 (fs.getD j slNil).2.2) := fun j hj => hg.cell (h.c0 j hj) (hgne j hj)
  have d1 : ∀ j, j < B.length → w'.cell? ⟨gs.getD j 0, 1, none⟩ = some (.int .i64 (C - Pk.tot (B.getD j []))) := fun j hj => hg.cell (h.c1 j hj) (hgne j hj)
  have d2 : ∀ j, j < B.length → w'.cell? ⟨gs.getD j 0, 2, none⟩ = some (.pointer (nxt gs (j + 1))) := fun j hj => hg.cell (h.c2 j hj) (hgne j hj)
  have df' : ∀ j i, j < B.length → w'.frozen? ⟨gs.getD j 0, i, none⟩ = false := fun j i hj => (World.frozen?_of_block (a := ⟨gs.getD j 0, i, none⟩) (hg.block _ (h.lt hj) (hgne j hj))).trans (h.fz j i hj)
  have hne : ∀ {a b i i' : Nat}, (a ≠ b ∨ i ≠ i') → (⟨a, i, none⟩ : Addr) ≠ ⟨b, i', none⟩ := fun hh e => by
    injection e with e1 e2; rcases hh with h | h; exact h e1; exact h e2
  have hAg : ∀ j, j < B.length → blk A' ≠ some (gs.getD j 0) := by
    intro j hj e
    rcases hA with hA | ⟨g, hA, hgl⟩
    · exact hgne j hj (by rw [← e, hA])
    · rw [hA] at e; injection e with e; have := h.lt hj; omega
  have hAf : ∀ j, j < B.length → j ≠ k → blk (fs.getD j slNil).1 = none ∨ blk (fs.getD j slNil).1 ≠ blk A' := by
    intro j hj hjk
    rcases hA with hA | ⟨g, hA, hgl⟩
    · rw [hA]; exact h.dd j k hj hk hjk
    · cases hB : blk (fs.getD j slNil).1 with
      | none => exact .inl rfl
      | some b =>
        right
        rw [hA]
        intro e
        injection e with e
        have := ((h.row j hj).lt b hB).2
        omega
  have g1 : w'.grownBy ((w'.setCell ⟨gs.getD k 0, 0, none⟩ (.slice A' n' c')).setCell ⟨gs.getD k 0, 1, none⟩ (.int .i64 (C - Pk.tot (B.getD k []) - x))) (some (gs.getD k 0)) :=
    grownBy_trans (setCell_grownI w' (gs.getD k 0) 0 _) (setCell_grownI _ (gs.getD k 0) 1 _)
  have fk : ∀ j, (fs.set k (A', n', c')).getD j slNil = if k = j then (A', n', c') else fs.getD j slNil := fun j => by
    by_cases e : k = j
    · subst e; simp [List.getD, h.lf, hk]
    · simp [List.getD, e]
  refine ⟨by simp [h.lg], by simp [h.lf], ?_, ?_, ?_, ?_, ?_, ?_, ?_, ?_, ?_⟩
  · intro j hj
    rw [List.length_set] at hj
    rw [World.cell?_setCell_other _ _ _ _ (hne (.inr (by omega))), fk]
    by_cases e : k = j
    · subst e
      rw [if_pos rfl, World.cell?_setCell_same _ _ _ (d0 k hk)]
    · rw [if_neg e, World.cell?_setCell_other _ _ _ _ (hne (.inl (h.dg k j hk hj e)))]
      exact d0 j hj
  · intro j hj
    rw [List.length_set] at hj
    rw [Pk.getD_setL hk]
    by_cases e : k = j
    · subst e
      have hs : (w'.setCell ⟨gs.getD k 0, 0, none⟩ (.slice A' n' c')).cell? ⟨gs.getD k 0, 1, none⟩ = some (.int .i64 (C - Pk.tot (B.getD k []))) := (World.cell?_setCell_other _ _ _ _ (hne (.inr (by omega)))).trans (d1 k hk)
      rw [if_pos rfl, World.cell?_setCell_same _ _ _ hs]
      have : C - Pk.tot (B.getD k []) - x = C - Pk.tot (B.getD k [] ++ [x]) := by simp; omega
      rw [this]
    · rw [if_neg e, World.cell?_setCell_other _ _ _ _ (hne (.inl (h.dg k j hk hj e))), World.cell?_setCell_other _ _ _ _ (hne (.inl (h.dg k j hk hj e)))]
      exact d1 j hj
  · intro j hj
    rw [List.length_set] at hj
    rw [World.cell?_setCell_other _ _ _ _ (hne (.inr (by omega))), World.cell?_setCell_other _ _ _ _ (hne (.inr (by omega)))]
    exact d2 j hj
  · intro j i hj
    rw [List.length_set] at hj
    rw [World.frozen?_setCell, World.frozen?_setCell]
    exact df' j i hj
  · intro j hj
    rw [List.length_set] at hj
    rw [fk, Pk.getD_setL hk]
    by_cases e : k = j
    · subst e
      rw [if_pos rfl, if_pos rfl]
      exact ho.grown g1 (.inr (hAg k hk))
    · rw [if_neg e, if_neg e]
      exact ((h.row j hj).grown hg (h.dd j k hj hk (Ne.symm e))).grown g1 (.inr (h.df j k hj hk))
  · intro j hj
    rw [List.length_set] at hj
    exact h.lo j hj
  · intro i j hi hj
    rw [List.length_set] at hi hj
    exact h.dg i j hi hj
  · intro i j hi hj
    rw [List.length_set] at hi hj
    rw [fk]
    split
    · exact hAg j hj
    · exact h.df i j hi hj
  · intro i j hi hj hij
    rw [List.length_set] at hi hj
    rw [fk, fk]
    by_cases e1 : k = i
    · subst e1
      rw [if_pos rfl, if_neg hij]
      exact ap_symm (hAf j hj (Ne.symm hij))
    · rw [if_neg e1]
      by_cases e2 : k = j
      · subst e2; rw [if_pos rfl]; exact hAf i hi (Ne.symm e1)
      · rw [if_neg e2]; exact h.dd i j hi hj hij
end
end Go.Proofs.Ytbihdajoflaknaa
