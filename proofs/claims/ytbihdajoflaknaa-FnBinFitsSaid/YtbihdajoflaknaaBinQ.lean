
/- Bins by a rule: how many at most; the plain laws; no program in sight. -/
import Derived.Test.YtbihdajoflaknaaBinP
namespace Go.Proofs.Ytbihdajoflaknaa.Pk
set_option linter.unusedVariables false
/-- Each bin was opened by a number that no bin before it has room for. -/
def Late (C : Int) (B : List (List Int)) : Prop := ∀ i j, i < j → j < B.length → B.getD j [] ≠ [] ∧ C < tot (B.getD i []) + (B.getD j []).headD 0
theorem late_nil (C : Int) : Late C [] := fun i j _ h => by simp at h
theorem headD_app {b : List Int} {x : Int} (h : b ≠ []) : (b ++ [x]).headD 0 = b.headD 0 := by
  cases b with
  | nil => exact absurd rfl h
  | cons y l => rfl
theorem Late.put {r : Rl} {C : Int} {B : List (List Int)} {x : Int} (h : Late C B) (hr : r ≠ .n) (hx : 0 < x) : Late C (put B (where_ r C B x) x) := by
  cases ho : where_ r C B x with
  | some k =>
    obtain ⟨hk, _⟩ := pick_some ho
    show Late C (B.set k (B.getD k [] ++ [x]))
    intro i j hij hj
    rw [List.length_set] at hj
    obtain ⟨h1, h2⟩ := h i j hij hj
    rw [getD_setL hk, getD_setL hk]
    have t1 : ∀ b : List Int, tot (b ++ [x]) = tot b + x := fun b => by simp
    by_cases e1 : k = j
    · subst e1
      rw [if_pos rfl, if_neg (show ¬ k = i by omega), headD_app h1]
      exact ⟨by simp, h2⟩
    · by_cases e2 : k = i
      · subst e2
        rw [if_pos rfl, if_neg e1, t1]
        exact ⟨h1, by omega⟩
      · rw [if_neg e1, if_neg e2]
        exact ⟨h1, h2⟩
  | none =>
    show Late C (B ++ [[x]])
    intro i j hij hj
    rw [List.length_append, List.length_singleton] at hj
    rw [getD_appL, getD_appL, if_neg (show ¬ i = B.length by omega)]
    by_cases e : j = B.length
    · rw [if_pos e]
      have := pick_none hr ho i (by omega)
      rw [rooms_at (by omega)] at this
      refine ⟨by simp, ?_⟩
      show C < tot (B.getD i []) + x
      omega
    · rw [if_neg e]
      exact h i j hij (by omega)
theorem late_fill {r : Rl} {C : Int} (hr : r ≠ .n) : ∀ (xs : List Int) (B : List (List Int)), Late C B → (∀ x ∈ xs, 0 < x) → Late C (fill r C xs B)
  | [], _, h, _ => h
  | x :: l, B, h, hx => late_fill hr l _ (h.put hr (hx x (by simp))) (fun y hy => hx y (by simp [hy]))
theorem Late.pair {C : Int} {B : List (List Int)} (h : Late C B) : B.Pairwise fun a b => C < tot a + b.headD 0 := by
  rw [List.pairwise_iff_getElem]
  intro i j hi hj hij
  have := (h i j hij hj).2
  simpa [List.getD, hi, hj] using this
/-- Not more than 17 tenths, for at most 8 numbers. -/
theorem fill_first {r : Rl} {C : Int} {xs : List Int} {n : Nat} (hr : r ≠ .n) (hC : 0 ≤ C) (hx : ∀ x ∈ xs, 0 < x ∧ x ≤ C) (hl : xs.length ≤ 8) (h : Packs xs C n) : 10 * (fill r C xs []).length ≤ 17 * n := by
  have ho := okay_fill (r := r) xs [] (okay_nil C) hx
  have hp : (fill r C xs []).flatten.Perm xs := by simpa using fill_flat (r := r) (C := C) xs []
  have hlate := late_fill (r := r) (C := C) hr xs [] (late_nil C) (fun x hm => (hx x hm).1)
  have htw := fill_twice (r := r) hC hx h
  generalize fill r C xs [] = B at *
  have hne : ∀ b ∈ B, b ≠ [] := fun b hb => by
    obtain ⟨j, hj, rfl⟩ := List.mem_iff_getElem.1 hb
    have := (ho.one j hj).2.2
    simpa [List.getD, hj] using this
  have h1 : (ones B).Pairwise fun a b => C < a + b := ones_pairwise (R := fun a b => C < tot a + b.headD 0) (fun x y h => by simpa using h) hlate.pair
  have hpk : Packs (ones B ++ (more B).flatten) C n := (h.perm hp.symm).perm (ones_more_perm B).symm
  have hs := Packs.apart hpk (fun x hm => by
    have : x ∈ xs := hp.subset ((ones_more_perm B).subset hm)
    have := hx x this
    omega) h1
  have hsl := ones_more_length B
  have hm2 := flatten_len (k := 2) (more_two hne)
  have hpl := (ones_more_perm B).length_eq
  have hpl2 := hp.length_eq
  rw [List.length_append] at hpl
  rcases htw with e | e
  · rw [e]; simp
  · omega
/-- The last bin that was opened. -/
theorem fill_last (r : Rl) (C : Int) : ∀ (n : Nat) (xs : List Int), xs.length = n → fill r C xs [] = [] ∨ ∃ l y l', xs = l ++ y :: l' ∧ where_ r C (fill r C l []) y = none ∧ (fill r C xs []).length = (fill r C l []).length + 1
  | 0, xs, h => by
    left
    rw [List.eq_nil_of_length_eq_zero h]; rfl
  | n + 1, xs, h => by
    right
    obtain ⟨a, x, rfl⟩ : ∃ a x, xs = a ++ [x] := ⟨xs.dropLast, xs.getLast (by intro e; rw [e] at h; simp at h), (List.dropLast_concat_getLast _).symm⟩
    have ih := fill_last r C n a (by simpa using h)
    rw [fill_snoc]
    cases ho : where_ r C (fill r C a []) x with
    | none => exact ⟨a, x, [], rfl, ho, put_none_len⟩
    | some k =>
      rcases ih with e | ⟨l, y, l', e1, e2, e3⟩
      · rw [e] at ho
        cases ho
      · refine ⟨l, y, l' ++ [x], by rw [e1]; simp, e2, ?_⟩
        rw [put_some_len, e3]
/-- In descending order not more than 11 ninths and 6 ninths. -/
theorem fill_down {r : Rl} {C : Int} {xs : List Int} {n : Nat} (hr : r ≠ .n) (hx : ∀ x ∈ xs, 0 < x ∧ x ≤ C) (hd : xs.Pairwise fun a b => b ≤ a) (hl : xs.length ≤ 10) (h : Packs xs C n) : 9 * (fill r C xs []).length ≤ 11 * n + 6 := by
  rcases fill_last r C xs.length xs rfl with e | ⟨l, y, l', e1, e2, e3⟩
  · rw [e]; simp
  · rw [e3]
    subst e1
    have hxl : ∀ x ∈ l, 0 < x ∧ x ≤ C := fun x hm => hx x (by simp [hm])
    have hy := hx y (by simp)
    have hp : (fill r C l []).flatten.Perm l := by simpa using fill_flat (r := r) (C := C) l []
    have ho := okay_fill (r := r) l [] (okay_nil C) hxl
    have hnone := pick_none hr e2
    generalize fill r C l [] = B at *
    have hg : ∀ b ∈ B, ∃ j, j < B.length ∧ B.getD j [] = b := fun b hb => by
      obtain ⟨j, hj, rfl⟩ := List.mem_iff_getElem.1 hb
      exact ⟨j, hj, by simp [List.getD, hj]⟩
    rw [List.pairwise_append] at hd
    refine down_bound (bs := B) (y := y) (C := C) (n := n) ?_ hy.1 hy.2 ?_ ?_ ?_ ?_
    · intro b hb
      obtain ⟨j, hj, rfl⟩ := hg b hb
      exact (ho.one j hj).2.2
    · intro b hb x hxb
      exact hd.2.2 x (hp.subset (List.mem_flatten.2 ⟨b, hb, hxb⟩)) y (by simp)
    · intro b hb
      obtain ⟨j, hj, rfl⟩ := hg b hb
      have := hnone j hj
      rw [rooms_at hj] at this
      omega
    · have := hp.length_eq
      simp only [List.length_append, List.length_cons] at hl
      omega
    · have h2 : Packs (l ++ [y]) C n := by
        refine Packs.sub (rest := l') ?_ (fun x hm => by have := hx x (by simp [hm]); omega)
        simpa using h
      exact h2.perm (hp.symm.append_right [y])
/-- The least number and the bound. -/
theorem least_bound {C : Int} {xs : List Int} {k : Nat} (hC : 0 < C) (hx : ∀ x ∈ xs, 0 < x ∧ x ≤ C) (h : IsLeast C xs k) {v : Nat} (hv : tot xs ≤ v * C) (hv0 : xs = [] → v = 0) : k ≤ 2 * v := by
  have hp := fill_packs (r := .f) (Int.le_of_lt hC) hx
  have hk := h.2 _ hp
  have ho := okay_fill (r := .f) xs [] (okay_nil C) hx
  have hpm : (fill .f C xs []).flatten.Perm xs := by simpa using fill_flat (r := .f) (C := C) xs []
  have ht := adj_tot C _ (adj_of C _ ho.adj) (fun b hb => by
    obtain ⟨j, hj, rfl⟩ := List.mem_iff_getElem.1 hb
    have := (ho.one j hj).1
    simp [List.getD, hj] at this
    omega)
  rw [tot_perm hpm] at ht
  generalize hB : fill .f C xs [] = B at *
  rcases Nat.lt_or_ge (2 * v) B.length with hlt | hge
  · exfalso
    have h1 : v ≤ B.length / 2 := by omega
    have h2 : (v : Int) * (C + 1) ≤ ((B.length / 2 : Nat) : Int) * (C + 1) := Int.mul_le_mul_of_nonneg_right (by omega) (by omega)
    have h3 : (v : Int) * (C + 1) = v * C + v := by rw [Int.mul_add]; simp
    have hv2 : v = 0 := by omega
    subst hv2
    have : xs = [] := by
      cases xs with
      | nil => rfl
      | cons y l =>
        have h4 := tot_ge_mem (fun z hz => by have := hx z hz; omega) (show y ∈ y :: l by simp)
        have := hx y (by simp)
        simp only [Int.natCast_zero, Int.zero_mul] at hv
        omega
    subst this
    rw [fill_nil] at hB
    subst hB
    simp at hlt
  · omega
theorem least_volume {C : Int} {xs : List Int} {k : Nat} (h : IsLeast C xs k) : tot xs ≤ k * C := h.1.volume
/-- Great numbers lie apart. -/
theorem least_great {C : Int} {xs : List Int} {k : Nat} (hx : ∀ x ∈ xs, 0 < x) (h : IsLeast C xs k) : (xs.filter fun x => decide (C < 2 * x)).length ≤ k := by
  have hp : (xs.filter (fun x => decide (C < 2 * x)) ++ xs.filter (fun x => !decide (C < 2 * x))).Perm xs := List.filter_append_perm _ _
  refine Packs.apart (h.1.perm hp.symm) (fun x hm => by have := hx x (hp.subset hm); omega) ?_
  rw [List.pairwise_iff_forall_sublist]
  intro a b hab
  have ha := hab.subset (show a ∈ [a, b] by simp)
  have hb := hab.subset (show b ∈ [a, b] by simp)
  have ha := of_decide_eq_true (List.mem_filter.1 ha).2
  have hb := of_decide_eq_true (List.mem_filter.1 hb).2
  omega
end Go.Proofs.Ytbihdajoflaknaa.Pk
