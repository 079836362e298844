
/- append onto a slice of the call's own, whatever the source; a slice literal of one element. -/
import Derived.Test.YtbfpllmoaooadaaMem
import Derived.Maps.AppendAt
namespace Go.Proofs.Ytbfpllmoaooadaa
set_option linter.unusedVariables false
open Go.RowKit

/-- A slice value that owns something, in its parts. -/
theorem own_parts {w : World} {base n : Nat} {v : Value} {xs : List Int} (h : w.ownsRow base 3 1 v n (ints xs)) : ∃ A c, v = .slice A n c ∧ Own w base A n c xs := by
  have h0 := h
  rcases h.2 with ⟨rfl, h2⟩ | ⟨g, cap, cur, rfl, _⟩
  · subst h2
    exact ⟨none, 0, rfl, h0⟩
  · exact ⟨some ⟨g, 0, none⟩, cap, rfl, h0⟩
theorem rd_one (w : World) (x : Int) (t : TypeId) : Rd (w.alloc (.cells #[.int .i64 x] t)) (w.heap.size + 1) (some ⟨w.heap.size, 0, none⟩) 1 [x] := by
  refine ⟨rfl, fun _ => ⟨w.heap.size, 0, rfl, by omega, fun j hj => ?_⟩⟩
  have : j = 0 := by omega
  subst this
  simp
theorem run_app (w : World) (t ty : TypeId) (ht : Try.prog.underlying t = some (.slice 3)) (base : Nat) (A : Option Addr) (n c : Nat) (xs : List Int) (hown : Own w base A n c xs)
    (B : Nat) (A2 : Option Addr) (m c2 : Nat) (ys : List Int) (hr : Rd w B A2 m ys) (hlen : n + m ≤ 10000000000) (hbase : base ≤ w.heap.size) :
    ∃ A' c' w', (Builtin.append_ #[t, t] ty #[.slice A n c, .slice A2 m c2]).run Try.prog w = .ok (.slice A' (n + m) c') w' ∧ Own w' base A' (n + m) c' (xs ++ ys) ∧ w.grownBy w' (blk A) ∧ (blk A' = blk A ∨ blk A' = some w.heap.size) := by
  obtain ⟨i0, hi, hz0, hz1, hz2⟩ := info_parts int_info
  have hl := hr.len
  have hblk : (Value.slice A n c).ownBlock = blk A := by cases A <;> rfl
  by_cases hm : m = 0
  · subst hm
    have hy : ys = [] := List.eq_nil_of_length_eq_zero hl
    subst hy
    rcases A2 with _ | ad
    · refine ⟨A, c, w, ?_, by simpa using hown, World.grownBy.refl _ _, .inl rfl⟩
      have h0 := hown
      rcases h0.2 with ⟨h2, h3⟩ | ⟨g, cap, cur, h2, _, _, hnc, _⟩
      · injection h2 with e1 e2 e3
        subst e1 e3 h3
        simp [Builtin.append_, run_underlying ht, sizeOf, typeInfo, hi, Builtin.lenOf, Builtin.firstCells]
      · injection h2 with e1 e2 e3
        subst e1 e3
        simp [Builtin.append_, run_underlying ht, sizeOf, typeInfo, hi, Builtin.lenOf, Builtin.firstCells, hnc, storeCells]
    · obtain ⟨v', w', hrun, h2, h3, _, h5⟩ := run_append_own_at (P := Try.prog) w base t ty 3 i0 (.int .i64 0) 1 8 ht hi hz0 hz1 hz2 rfl (by omega) (.slice A n c) n (ints xs) hown ad 0 c2 [] rfl (by simp) (by simp) (by simp only [maxLen]; omega) (by omega) hbase
      rw [List.append_nil] at h2
      obtain ⟨A', c', rfl, h4⟩ := own_parts h2
      refine ⟨A', c', w', hrun, by rw [List.append_nil]; exact h4, by rw [hblk] at h3; exact h3, ?_⟩
      rw [hblk] at h5
      cases A' <;> exact h5
  · obtain ⟨b, off, rfl, _, hc⟩ := hr.2 (by omega)
    obtain ⟨v', w', hrun, h2, h3, _, h5⟩ := run_append_own_at (P := Try.prog) w base t ty 3 i0 (.int .i64 0) 1 8 ht hi hz0 hz1 hz2 rfl (by omega) (.slice A n c) n (ints xs) hown ⟨b, off, none⟩ m c2 (ints ys) (by simp [hl]) (by
        intro j u hu
        have hj : j < m := by
          have := (List.getElem?_eq_some_iff.1 hu).1
          simpa [hl] using this
        rw [ints_get (by omega)] at hu
        rw [Addr.add_lit, hc j hj]
        exact hu) (ints_one ys) (by simp only [maxLen]; omega) (by omega) hbase
    rw [← ints_append] at h2
    obtain ⟨A', c', rfl, h4⟩ := own_parts h2
    refine ⟨A', c', w', hrun, h4, by rw [hblk] at h3; exact h3, ?_⟩
    rw [hblk] at h5
    cases A' <;> exact h5
/-- The walk's law for append. -/
theorem wpList_app {ops : Array Oper} {rest : List Oper} {o : Oper} {a : Act} {Q : Exit → Act → World → Prop} {w : World} (hgd : o.guard = none) (s x : Operand) (t : TypeId)
    (ho : o.op = .call { callee := .builtin .append, args := #[s, x], argTypes := #[t, t] }) (ht : Try.prog.underlying t = some (.slice 3))
    {base : Nat} {A : Option Addr} {n c : Nat} {xs : List Int} (hs : a.eval s = .slice A n c) (hown : Own w base A n c xs)
    {B : Nat} {A2 : Option Addr} {m c2 : Nat} {ys : List Int} (hx : a.eval x = .slice A2 m c2) (hr : Rd w B A2 m ys) (hlen : n + m ≤ 10000000000) (hbase : base ≤ w.heap.size)
    (h : ∀ A' c' w', Own w' base A' (n + m) c' (xs ++ ys) → w.grownBy w' (blk A) → (blk A' = blk A ∨ blk A' = some w.heap.size) → wpList Try.prog ops Q rest (a.put o.dst (.slice A' (n + m) c')) w') :
    wpList Try.prog ops Q (o :: rest) a w := by
  refine wpList_plain hgd fun _ hK => ?_
  obtain ⟨A', c', w', hrun, h2, h3, h4⟩ := run_app w t o.type ht base A n c xs hown B A2 m c2 ys hr hlen hbase
  unfold Oper.wp execOp
  simp only [ho, resolve, invoke, builtin, Sem.run_bind, Sem.run_pure, Result.andThen_ok, List.map_toArray, List.map_cons, List.map_nil, hs, hx, hrun]
  exact hK _ _ (h A' c' w' h2 h3 h4)
/-- append of one element, behind the new block in which it lies. -/
theorem wpList_push {ops : Array Oper} {rest : List Oper} {o : Oper} {a : Act} {Q : Exit → Act → World → Prop} {w : World} {v : Int} {tt : TypeId} (hgd : o.guard = none) (s x : Operand) (t : TypeId)
    (ho : o.op = .call { callee := .builtin .append, args := #[s, x], argTypes := #[t, t] }) (ht : Try.prog.underlying t = some (.slice 3))
    {base : Nat} {A : Option Addr} {n c : Nat} {xs : List Int} (hs : a.eval s = .slice A n c) (hown : Own w base A n c xs)
    (hx : a.eval x = .slice (some ⟨w.heap.size, 0, none⟩) 1 1) (hlen : n ≤ 1000000000) (hbase : base ≤ w.heap.size)
    (h : ∀ A' c' w', Own w' base A' (n + 1) c' (xs ++ [v]) → w.grownBy w' (blk A) → (blk A' = blk A ∨ (base ≤ w.heap.size ∧ ∃ g, blk A' = some g ∧ w.heap.size ≤ g)) → wpList Try.prog ops Q rest (a.put o.dst (.slice A' (n + 1) c')) w') :
    wpList Try.prog ops Q (o :: rest) a (w.alloc (.cells #[.int .i64 v] tt)) := by
  refine wpList_app hgd s x t ho ht hs (hown.alloc _) hx (rd_one w v tt) (by omega) (by simp; omega) fun A' c' w' h1 h2 h3 => h A' c' w' h1 (grownBy_trans (World.grownBy_alloc w _ _) h2) ?_
  rcases h3 with h3 | h3
  · exact .inl h3
  · exact .inr ⟨hbase, _, h3, by simp⟩
/-- The same, the new block's number in the walk's own spelling. -/
theorem wpList_pushN {ops : Array Oper} {rest : List Oper} {o : Oper} {a : Act} {Q : Exit → Act → World → Prop} {w : World} {v : Int} {tt : TypeId} (hgd : o.guard = none) (s x : Operand) (t : TypeId)
    (ho : o.op = .call { callee := .builtin .append, args := #[s, x], argTypes := #[t, t] }) (ht : Try.prog.underlying t = some (.slice 3))
    {base : Nat} {A : Option Addr} {n c : Nat} {xs : List Int} (hs : a.eval s = .slice A n c) (hown : Own w base A n c xs)
    {N : Nat} (hx : a.eval x = .slice (some ⟨N, 0, none⟩) 1 1) (hN : N = w.heap.size) (hlen : n ≤ 1000000000) (hbase : base ≤ w.heap.size)
    (h : ∀ A' c' w', Own w' base A' (n + 1) c' (xs ++ [v]) → w.grownBy w' (blk A) → (blk A' = blk A ∨ (base ≤ w.heap.size ∧ ∃ g, blk A' = some g ∧ w.heap.size ≤ g)) → wpList Try.prog ops Q rest (a.put o.dst (.slice A' (n + 1) c')) w') :
    wpList Try.prog ops Q (o :: rest) a (w.alloc (.cells #[.int .i64 v] tt)) := by
  subst hN
  refine wpList_app hgd s x t ho ht hs (hown.alloc _) hx (rd_one w v tt) (by omega) (by simp; omega) fun A' c' w' h1 h2 h3 => h A' c' w' h1 (grownBy_trans (World.grownBy_alloc w _ _) h2) ?_
  rcases h3 with h3 | h3
  · exact .inl h3
  · exact .inr ⟨hbase, _, h3, by simp⟩
end Go.Proofs.Ytbfpllmoaooadaa
