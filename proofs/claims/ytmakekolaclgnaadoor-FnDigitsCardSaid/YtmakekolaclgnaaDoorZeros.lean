
/- append(s, make([]int, k)...) onto a slice of the call's own: the translation hands the builtin the number k. -/
import Derived.Test.YtmakekolaclgnaaDoorApp
import Derived.Lib.AppendZerosOnto
namespace Go.Proofs.YtmakekolaclgnaaDoor
set_option linter.unusedVariables false
open Go.RowKit
theorem zeroCells_ints (k : Nat) : Builtin.zeroCells #[Value.int .i64 0] k = (ints (List.replicate k 0)).toArray := by
  apply Array.ext
  · simp [Builtin.zeroCells, ints]
  · intro j h1 h2
    simp [Builtin.zeroCells, ints]
    simp [Builtin.zeroCells] at h1
    rw [show j % 1 = 0 by omega]
    rfl
theorem run_appZ (w : World) (t tn ty : TypeId) (ht : Tryd.prog.underlying t = some (.slice 3)) (htn : Tryd.prog.underlying tn = some (.int .i64)) (base : Nat) (A : Option Addr) (n c : Nat) (xs : List Int) (hown : Own w base A n c xs)
    (k : Nat) (h0 : 0 < k) (hk : k ≤ 1000) (hn : n ≤ 1000000) (hbase : base ≤ w.heap.size) :
    ∃ A' c' w', (Builtin.append_ #[t, tn] ty #[.slice A n c, .int .i64 k]).run Tryd.prog w = .ok (.slice A' (n + k) c') w' ∧ Own w' base A' (n + k) c' (xs ++ List.replicate k 0) ∧ w.grownBy w' (blk A) := by
  obtain ⟨i, hi, hz, hz1, hz2⟩ := info_parts int_info
  have h63 : n + k ≤ maxLen := by unfold maxLen; omega
  have hlx := hown.len
  have hlen : (ints (xs ++ List.replicate k 0)).length = (n + k) * 1 := by simp [hlx]
  have hin : ints (xs ++ List.replicate k 0) = ints xs ++ ints (List.replicate k 0) := ints_append _ _
  have grown : ∀ (old : Nat), old < n + k → ∀ (row : Option Nat),
      Own (w.drew.alloc (.cells ((ints xs).toArray ++ Builtin.zeroCells (Value.int .i64 0).cells k ++ Builtin.zeroCells (Value.int .i64 0).cells (grownCap w (n + k) old 3 - (n + k))) 3)) base (some ⟨w.heap.size, 0, none⟩) (n + k) (grownCap w (n + k) old 3) (xs ++ List.replicate k 0) ∧
      w.grownBy (w.drew.alloc (.cells ((ints xs).toArray ++ Builtin.zeroCells (Value.int .i64 0).cells k ++ Builtin.zeroCells (Value.int .i64 0).cells (grownCap w (n + k) old 3 - (n + k))) 3)) row := by
    intro old ho row
    have hge := grownCap_ge w (n + k) old 3
    have hcm : grownCap w (n + k) old 3 ≤ maxLen := grownCap_le_maxLen w (n + k) old 3 h63
    refine ⟨⟨hlen, .inr ⟨w.heap.size, _, _, rfl, hbase, heap_alloc_new w.drew _, hge, hcm, ?_, ?_⟩⟩, ⟨rfl, rfl, rfl, by simp, fun b hb _ => Below.heap_alloc w.drew _ b hb⟩⟩
    · simp only [Array.size_append, List.size_toArray, size_zeroCells, ints_length, hlx]
      show n + k * 1 + (grownCap w (n + k) old 3 - (n + k)) * 1 = _
      omega
    · show List.take ((n + k) * 1) _ = _
      rw [show (Value.int .i64 0).cells = #[Value.int .i64 0] from rfl, zeroCells_ints]
      simp only [Array.toList_append, List.append_assoc]
      rw [← List.append_assoc, ← hin, ← hlen]
      exact List.take_left
  have hw63 : ((n + k : Nat) : Int) ≤ 9223372036854775807 := by omega
  by_cases hroom : n + k ≤ c
  · rcases hown.2 with ⟨h1, h2⟩ | ⟨g, cap, cur, h1, hbg, hg, hnc, hcm, hcs, htake⟩
    · injection h1 with e1 e2 e3; omega
    · injection h1 with e1 e2 e3
      subst e1 e3
      have hfit : n * 1 + (ints (List.replicate k 0)).length ≤ cur.size := by rw [hcs, ints_length, List.length_replicate]; omega
      have hst := run_storeCells_at Tryd.prog g (n * 1) 3 (ints (List.replicate k 0)) 0 cur w hg (by simpa using hfit) (ints_one _)
      simp only [Nat.add_zero] at hst
      have hz0 : Builtin.zeroCells #[Value.int .i64 0] k = (ints (List.replicate k 0)).toArray := zeroCells_ints k
      have hns : ¬ (k = 0) := by omega
      have hneg : ¬ ((k : Int) < 0) := by omega
      have hwk : IntKind.i64.wrap (k : Int) = k := by rw [IntKind.wrap_i64]; omega
      have h48 : ¬ (281474976710656 < (k : Int) * 8) := by omega
      refine ⟨some ⟨g, 0, none⟩, c, w.setRow g (cur.toList.take (n * 1) ++ ints (List.replicate k 0) ++ cur.toList.drop (n * 1 + (ints (List.replicate k 0)).length)).toArray, ?_, ⟨hlen, .inr ⟨g, c, _, rfl, hbg, setRow_heap w g cur _ 3 _ hg, hroom, hcm, ?_, ?_⟩⟩, ⟨rfl, rfl, rfl, by simp, fun j _ hj => setRow_other w g j _ (fun e => hj (by simp [blk, e]))⟩⟩
      · simp [Builtin.append_, run_underlying ht, run_underlying htn, sizeOf, typeInfo, zeroValue, hi, hz, hz1, hz2, asInt, asIntOf, hwk, hneg, h48, hns, hroom, Addr.add_lit, Value.cells, hz0]
        simp only [Nat.mul_one] at hst
        rw [hst]
        simp
      · simp only [List.size_toArray, List.length_append, List.length_take, List.length_drop, Array.length_toList]
        omega
      · show List.take ((n + k) * 1) _ = _
        rw [htake, ← hin, ← hlen]
        exact List.take_left
  · have hr : (Builtin.append_ #[t, tn] ty #[.slice A n c, .int .i64 k]).run Tryd.prog w = _ := Go.Lib.run_append_grow_zeros (P := Tryd.prog) w t tn ty 3 i (.int .i64 0) .i64 .i64 ht htn hi hz A n c (ints xs) (by
        rcases hown.2 with ⟨h1, h2⟩ | ⟨g, cap, cur, h1, hbg, hg, hnc, hcm, hcs, htake⟩
        · injection h1 with e1 e2 e3
          have hx : xs = [] := List.eq_nil_of_length_eq_zero (by omega)
          subst e1 hx
          rfl
        · injection h1 with e1 e2 e3
          subst e1
          have holds : ∀ j u, (ints xs)[j]? = some u → w.drew.cell? ((⟨g, 0, none⟩ : Addr).add j) = some u := World.ownsRow.cells (w := w) hown (g := g) rfl
          have := run_firstCells_some (P := Tryd.prog) w.drew i.size n ⟨g, 0, none⟩ n c (ints xs) (by rw [ints_length, hlx, hz1, Nat.mul_one]) holds
          exact this) k h0 (by omega) (by omega) hw63 (by rw [hz2]; omega) (growslice_fits (by omega) (by rw [hz2]; omega))
    have hgr := grown c (by omega) (blk A)
    exact ⟨_, _, _, hr, hgr.1, hgr.2⟩
/-- The walk's law. -/
theorem wpList_appZ {ops : Array Oper} {rest : List Oper} {o : Oper} {a : Act} {Q : Exit → Act → World → Prop} {w : World} (hgd : o.guard = none) (s x : Operand) (t tn : TypeId)
    (ho : o.op = .call { callee := .builtin .append, args := #[s, x], argTypes := #[t, tn] }) (ht : Tryd.prog.underlying t = some (.slice 3)) (htn : Tryd.prog.underlying tn = some (.int .i64))
    {base : Nat} {A : Option Addr} {n c : Nat} {xs : List Int} (hs : a.eval s = .slice A n c) (hown : Own w base A n c xs)
    {k : Nat} (hx : a.eval x = .int .i64 k) (h0 : 0 < k) (hk : k ≤ 1000) (hn : n ≤ 1000000) (hbase : base ≤ w.heap.size)
    (h : ∀ A' c' w', Own w' base A' (n + k) c' (xs ++ List.replicate k 0) → w.grownBy w' (blk A) → wpList Tryd.prog ops Q rest (a.put o.dst (.slice A' (n + k) c')) w') :
    wpList Tryd.prog ops Q (o :: rest) a w := by
  refine wpList_plain hgd fun _ hK => ?_
  obtain ⟨A', c', w', hrun, h2, h3⟩ := run_appZ w t tn o.type ht htn base A n c xs hown k h0 hk hn hbase
  unfold Oper.wp execOp
  simp only [ho, resolve, invoke, builtin, Sem.run_bind, Sem.run_pure, Result.andThen_ok, List.map_toArray, List.map_cons, List.map_nil, hs, hx, hrun]
  exact hK _ _ (h A' c' w' h2 h3)
end Go.Proofs.YtmakekolaclgnaaDoor
