
/- Slices of slices of the call's own: each row owns its numbers, no two share a block. -/
import Derived.Test.YtbfpllmoaooadaaApp
import Derived.Test.YtbfpllmoaooadaaSum
import Derived.Laws.OwnMore
namespace Go.Proofs.Ytbfpllmoaooadaa
set_option linter.unusedVariables false
open Go.RowKit
theorem rows_info : (Try.prog.info? 22).map (fun i => (i.zero, i.size, i.bytes)) = some (some (.slice none 0 0), 1, 24) := by kernel_rfl
/-- A row's slice: address, length, capacity. -/
abbrev Sl := Option Addr × Nat × Nat
def slv (s : Sl) : Value := .slice s.1 s.2.1 s.2.2
def slNil : Sl := (none, 0, 0)
/-- The slice value (A, n, c) owns rows, told by fs, that read as yss. -/
def OwnF (w : World) (base : Nat) (A : Option Addr) (n c : Nat) (fs : List Sl) (yss : List (List Int)) : Prop :=
  fs.length = n ∧ yss.length = n ∧ w.ownsRow base 22 1 (.slice A n c) n (fs.map slv) ∧
  (∀ j, j < n → Own w base (fs.getD j slNil).1 (fs.getD j slNil).2.1 (fs.getD j slNil).2.2 (yss.getD j [])) ∧
  (∀ j, j < n → blk (fs.getD j slNil).1 = none ∨ blk (fs.getD j slNil).1 ≠ blk A) ∧
  (∀ i j, i < j → j < n → blk (fs.getD i slNil).1 = none ∨ blk (fs.getD i slNil).1 ≠ blk (fs.getD j slNil).1)
def OwnR (w : World) (base : Nat) (A : Option Addr) (n c : Nat) (yss : List (List Int)) : Prop := ∃ fs, OwnF w base A n c fs yss
section
variable {w w' w1 : World} {base n c n1 c1 c2 : Nat} {A A1 A2 : Option Addr} {fs : List Sl} {yss : List (List Int)} {ys : List Int} {rr : Option Nat}
theorem own_emptyR (w : World) {t : TypeId} (ht : t = 22) : OwnR (w.alloc (.cells #[] t)) w.heap.size (some ⟨w.heap.size, 0, none⟩) 0 0 [] := by
  subst ht
  exact ⟨[], rfl, rfl, World.ownsRow_made (base := w.heap.size) (e := 22) (size := 1) w #[] 0 (Nat.le_refl _) (by unfold maxLen; omega) rfl, fun j hj => by omega, fun j hj => by omega, fun i j h1 h2 => by omega⟩
theorem OwnF.len (h : OwnF w base A n c fs yss) : yss.length = n := h.2.1
theorem OwnF.outer_lt (h : OwnF w base A n c fs yss) : ∀ g, blk A = some g → base ≤ g ∧ g < w.heap.size := by
  intro g hg
  refine World.ownsRow.lt h.2.2.1 g ?_
  cases A with
  | none => simp [blk] at hg
  | some a => simpa [Value.ownBlock, blk] using hg
theorem OwnF.grown (h : OwnF w base A n c fs yss) (hg : w.grownBy w' rr) (hA : blk A = none ∨ blk A ≠ rr) (hr : ∀ j, j < n → blk (fs.getD j slNil).1 = none ∨ blk (fs.getD j slNil).1 ≠ rr) : OwnF w' base A n c fs yss := by
  obtain ⟨h1, h2, h3, h4, h5, h6⟩ := h
  refine ⟨h1, h2, World.ownsRow.kept h3 hg ?_, fun j hj => (h4 j hj).grown hg (hr j hj), h5, h6⟩
  cases A with
  | none => exact .inl rfl
  | some a => simpa [Value.ownBlock, blk] using hA
theorem OwnF.below (h : OwnF w base A n c fs yss) (hb : Below w.heap.size w w') : OwnF w' base A n c fs yss :=
  h.grown (grown_of_below (row := none) hb) (by cases A <;> simp [blk]) (fun j _ => by cases (fs.getD j slNil).1 <;> simp [blk])
theorem OwnF.drewN (h : OwnF w base A n c fs yss) (k : Nat) : OwnF (w.drewN k) base A n c fs yss := h
theorem OwnR.below (h : OwnR w base A n c yss) (hb : Below w.heap.size w w') : OwnR w' base A n c yss := by
  obtain ⟨fs, h⟩ := h
  exact ⟨fs, h.below hb⟩
theorem OwnF.mono (h : OwnF w base A n c fs yss) {base' : Nat} (hb : base' ≤ base) : OwnF w base' A n c fs yss := by
  obtain ⟨h1, h2, h3, h4, h5, h6⟩ := h
  refine ⟨h1, h2, ⟨h3.1, ?_⟩, fun j hj => (h4 j hj).mono hb, h5, h6⟩
  rcases h3.2 with h | ⟨g, cap, cur, e1, e2, e3⟩
  · exact .inl h
  · exact .inr ⟨g, cap, cur, e1, Nat.le_trans hb e2, e3⟩
theorem OwnR.mono (h : OwnR w base A n c yss) {base' : Nat} (hb : base' ≤ base) : OwnR w base' A n c yss := by
  obtain ⟨fs, h⟩ := h
  exact ⟨fs, h.mono hb⟩
theorem OwnF.cap (h : OwnF w base A n c fs yss) : n ≤ c ∧ c ≤ maxLen := by
  rcases h.2.2.1.2 with ⟨h1, h2⟩ | ⟨g, cap, cur, h1, _, _, h3, h4, _⟩
  · injection h1 with e1 e2 e3
    subst e3 h2
    exact ⟨Nat.le_refl _, by unfold maxLen; omega⟩
  · injection h1 with e1 e2 e3
    subst e3
    exact ⟨h3, h4⟩
theorem OwnF.form (h : OwnF w base A n c fs yss) (hn : 0 < n) : ∃ g, A = some ⟨g, 0, none⟩ ∧ base ≤ g ∧ g < w.heap.size := by
  rcases h.2.2.1.2 with ⟨_, h2⟩ | ⟨g, cap, cur, h1, h2, h3, _⟩
  · omega
  · have hA : A = some ⟨g, 0, none⟩ := by injection h1
    exact ⟨g, hA, h2, (Array.getElem?_eq_some_iff.1 h3).1⟩
theorem OwnF.cell {g : Nat} (h : OwnF w base (some ⟨g, 0, none⟩) n c fs yss) {j : Nat} (hj : j < n) : w.cell? ⟨g, j, none⟩ = some (.slice (fs.getD j slNil).1 (fs.getD j slNil).2.1 (fs.getD j slNil).2.2) := by
  have := World.ownsRow.cellAt h.2.2.1 j (by omega)
  rw [this]
  have hl : j < fs.length := by rw [h.1]; exact hj
  simp [hl, slv]
theorem OwnF.row (h : OwnF w base A n c fs yss) {j : Nat} (hj : j < n) : Own w base (fs.getD j slNil).1 (fs.getD j slNil).2.1 (fs.getD j slNil).2.2 (yss.getD j []) := h.2.2.2.1 j hj
theorem OwnF.apart (h : OwnF w base A n c fs yss) {i j : Nat} (hij : i < j) (hj : j < n) : blk (fs.getD i slNil).1 = none ∨ blk (fs.getD i slNil).1 ≠ blk (fs.getD j slNil).1 := h.2.2.2.2.2 i j hij hj
theorem getD_snoc_lt {α : Type} {l : List α} {x d : α} {j : Nat} (h : j < l.length) : (l ++ [x]).getD j d = l.getD j d := by
  simp only [List.getD]; rw [List.getElem?_append_left h]
theorem getD_snoc_end {α : Type} {l : List α} {x d : α} {j : Nat} (h : j = l.length) : (l ++ [x]).getD j d = x := by
  subst h; simp [List.getD]
/-- A row more. -/
theorem OwnF.push (h : OwnF w base A n c fs yss) (hw : Below w.heap.size w w1) (hbase : base ≤ w.heap.size) (ho : Own w1 base A1 n1 c1 ys) (hf : ∀ g, blk A1 = some g → w.heap.size ≤ g) (hg : w1.grownBy w' (blk A))
    (hown : w'.ownsRow base 22 1 (.slice A2 (n + 1) c2) (n + 1) (fs.map slv ++ [slv (A1, n1, c1)])) (hk : blk A2 = blk A ∨ ∃ g, blk A2 = some g ∧ w1.heap.size ≤ g) : OwnF w' base A2 (n + 1) c2 (fs ++ [(A1, n1, c1)]) (yss ++ [ys]) := by
  have hlt := h.outer_lt
  obtain ⟨h1, h2, h3, h4, h5, h6⟩ := h
  have hs := hw.size
  have apA : blk A1 = none ∨ blk A1 ≠ blk A := ap_gt (s := w.heap.size) (fun g e => (hlt g e).2) hf
  refine ⟨by simp [h1], by simp [h2], by rw [List.map_append]; exact hown, fun j hj => ?_, fun j hj => ?_, fun i j hij hj => ?_⟩
  · by_cases e : j < n
    · rw [getD_snoc_lt (by omega), getD_snoc_lt (by omega)]
      exact ((h4 j e).below hw).grown hg (h5 j e)
    · rw [getD_snoc_end (by omega), getD_snoc_end (by omega)]
      exact ho.grown hg apA
  · by_cases e : j < n
    · rw [getD_snoc_lt (by omega)]
      exact ap_push (h5 j e) hk (fun g eg => by have := ((h4 j e).lt g eg).2; omega)
    · rw [getD_snoc_end (by omega)]
      rcases hk with hk | ⟨g, hk, hge⟩
      · rw [hk]; exact apA
      · rw [hk]
        cases hA : blk A1 with
        | none => exact .inl rfl
        | some x => right; intro e2; injection e2 with e2; have := (ho.lt x hA).2; omega
  · by_cases e : j < n
    · rw [getD_snoc_lt (by omega), getD_snoc_lt (by omega)]
      exact h6 i j hij e
    · rw [getD_snoc_end (l := fs) (j := j) (by omega), getD_snoc_lt (by omega)]
      exact ap_lt (s := w.heap.size) (fun g eg => ((h4 i (by omega)).lt g eg).2) hf
where
  ap_push {B : Option Addr} {s : Nat} {A A2 : Option Addr} (hap : blk B = none ∨ blk B ≠ blk A) (hk : blk A2 = blk A ∨ ∃ g, blk A2 = some g ∧ s ≤ g) (hl : ∀ g, blk B = some g → g < s) : blk B = none ∨ blk B ≠ blk A2 := by
    rcases hk with hk | ⟨g, hk, hge⟩
    · rw [hk]; exact hap
    · rw [hk]
      cases hB : blk B with
      | none => exact .inl rfl
      | some x => right; intro e; injection e with e; have := hl x hB; omega
end
/-- append of one row. -/
theorem run_pushR (w : World) (t ty : TypeId) (ht : Try.prog.underlying t = some (.slice 22)) (base : Nat) (A : Option Addr) (n c : Nat) (vs : List Value) (hown : w.ownsRow base 22 1 (.slice A n c) n vs) (s : Value) (hs : s.oneCell' = true)
    (N : Nat) (hc : w.cell? ⟨N, 0, none⟩ = some s) (hn : n ≤ 1000000) (hbase : base ≤ w.heap.size) :
    ∃ A' c' w', (Builtin.append_ #[t, t] ty #[.slice A n c, .slice (some ⟨N, 0, none⟩) 1 1]).run Try.prog w = .ok (.slice A' (n + 1) c') w' ∧ w'.ownsRow base 22 1 (.slice A' (n + 1) c') (n + 1) (vs ++ [s]) ∧ w.grownBy w' (blk A) ∧ (blk A' = blk A ∨ blk A' = some w.heap.size) := by
  obtain ⟨i0, hi, hz0, hz1, hz2⟩ := info_parts rows_info
  have hblk : (Value.slice A n c).ownBlock = blk A := by cases A <;> rfl
  obtain ⟨v', w', hrun, h2, h3, _, h5⟩ := run_append_own_at (P := Try.prog) w base t ty 22 i0 (.slice none 0 0) 1 24 ht hi hz0 hz1 hz2 rfl (by omega) (.slice A n c) n vs hown ⟨N, 0, none⟩ 1 1 [s] rfl (by
    intro j u hu
    cases j with
    | zero => simp at hu; subst hu; simpa [Addr.add_lit] using hc
    | succ j => simp at hu) (by intro u hu; simp at hu; subst hu; exact hs) (by simp only [maxLen]; omega) (by omega) hbase
  rw [hblk] at h3 h5
  rcases h2.2 with ⟨rfl, h6⟩ | ⟨g, cap, cur, rfl, _⟩
  · omega
  · exact ⟨some ⟨g, 0, none⟩, cap, w', hrun, h2, h3, h5⟩
theorem wpList_pushR {ops : Array Oper} {rest : List Oper} {o : Oper} {a : Act} {Q : Exit → Act → World → Prop} {w : World} (hgd : o.guard = none) (s x : Operand) (t : TypeId)
    (ho : o.op = .call { callee := .builtin .append, args := #[s, x], argTypes := #[t, t] }) (ht : Try.prog.underlying t = some (.slice 22))
    {base : Nat} {A : Option Addr} {n c : Nat} {vs : List Value} (hs : a.eval s = .slice A n c) (hown : w.ownsRow base 22 1 (.slice A n c) n vs)
    {N : Nat} (hx : a.eval x = .slice (some ⟨N, 0, none⟩) 1 1) {r : Value} (hr : r.oneCell' = true) (hc : w.cell? ⟨N, 0, none⟩ = some r) (hn : n ≤ 1000000) (hbase : base ≤ w.heap.size)
    (h : ∀ A' c' w', w'.ownsRow base 22 1 (.slice A' (n + 1) c') (n + 1) (vs ++ [r]) → w.grownBy w' (blk A) → (blk A' = blk A ∨ ∃ g, blk A' = some g ∧ w.heap.size ≤ g) → wpList Try.prog ops Q rest (a.put o.dst (.slice A' (n + 1) c')) w') :
    wpList Try.prog ops Q (o :: rest) a w := by
  refine wpList_plain hgd fun _ hK => ?_
  obtain ⟨A', c', w', hrun, h2, h3, h4⟩ := run_pushR w t o.type ht base A n c vs hown r hr N hc hn hbase
  unfold Oper.wp execOp
  simp only [ho, resolve, invoke, builtin, Sem.run_bind, Sem.run_pure, Result.andThen_ok, List.map_toArray, List.map_cons, List.map_nil, hs, hx, hrun]
  exact hK _ _ (h A' c' w' h2 h3 (h4.imp id fun e => ⟨_, e, Nat.le_refl _⟩))
/-- A row of literal numbers. -/
theorem own_lit (w : World) (base : Nat) (hb : base ≤ w.heap.size) (xs : List Int) (n : Nat) (hn : xs.length = n) (hm : n ≤ 1000) {cs : Array Value} (hcs : cs.toList = ints xs) {t : TypeId} (ht : t = 3) : Own (w.alloc (.cells cs t)) base (some ⟨w.heap.size, 0, none⟩) n n xs := by
  subst ht
  unfold Own
  rw [← hcs]
  exact World.ownsRow_lit w cs n hb (by unfold maxLen; omega) (by rw [← Array.length_toList, hcs, ints_length, hn]; omega)
end Go.Proofs.Ytbfpllmoaooadaa
