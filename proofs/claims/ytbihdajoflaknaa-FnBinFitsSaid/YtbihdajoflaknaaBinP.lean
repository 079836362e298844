
/- Bins by a rule: the plain laws; no program in sight. -/
import Derived.Test.YtbihdajoflaknaaFit
import Derived.Test.YtbihdajoflaknaaLeastP
namespace Go.Proofs.Ytbihdajoflaknaa.Pk
set_option linter.unusedVariables false
/-- Into the last bin, the first, the fullest, the emptiest that has room. -/
inductive Rl where
  | n | f | b | w
deriving DecidableEq
/-- The bin chosen among the first i, by the rooms. -/
def pick (r : Rl) (R : List Int) (v : Int) : Nat → Option Nat
  | 0 => none
  | i + 1 =>
    if v ≤ R.getD i 0 then
      match r, pick r R v i with
      | .n, _ => some i
      | _, none => some i
      | .f, some k => some k
      | .b, some k => if R.getD i 0 < R.getD k 0 then some i else some k
      | .w, some k => if R.getD k 0 < R.getD i 0 then some i else some k
    else if r = .n then none else pick r R v i
theorem pick_zero (r : Rl) (R : List Int) (v : Int) : pick r R v 0 = none := rfl
theorem pick_n {R : List Int} {v : Int} {i : Nat} (h : v ≤ R.getD i 0) : pick .n R v (i + 1) = some i := by simp only [pick, if_pos h]
theorem pick_n0 {R : List Int} {v : Int} {i : Nat} (h : ¬ v ≤ R.getD i 0) : pick .n R v (i + 1) = none := by simp only [pick, if_neg h, if_true]
theorem pick_skip {r : Rl} {R : List Int} {v : Int} {i : Nat} (hr : r ≠ .n) (h : ¬ v ≤ R.getD i 0) : pick r R v (i + 1) = pick r R v i := by simp only [pick, if_neg h, if_neg hr]
theorem pick_new {r : Rl} {R : List Int} {v : Int} {i : Nat} (h : v ≤ R.getD i 0) (ho : pick r R v i = none) : pick r R v (i + 1) = some i := by
  cases r <;> simp only [pick, if_pos h, ho]
theorem pick_f {R : List Int} {v : Int} {i k : Nat} (ho : pick .f R v i = some k) : pick .f R v (i + 1) = some k := by
  by_cases h : v ≤ R.getD i 0
  · simp only [pick, if_pos h, ho]
  · rw [pick_skip (by simp) h, ho]
theorem pick_b {R : List Int} {v : Int} {i k : Nat} (h : v ≤ R.getD i 0) (ho : pick .b R v i = some k) : pick .b R v (i + 1) = if R.getD i 0 < R.getD k 0 then some i else some k := by simp only [pick, if_pos h, ho]
theorem pick_w {R : List Int} {v : Int} {i k : Nat} (h : v ≤ R.getD i 0) (ho : pick .w R v i = some k) : pick .w R v (i + 1) = if R.getD k 0 < R.getD i 0 then some i else some k := by simp only [pick, if_pos h, ho]
/-- What is chosen has room. -/
theorem pick_some {r : Rl} {R : List Int} {v : Int} : ∀ {i k : Nat}, pick r R v i = some k → k < i ∧ v ≤ R.getD k 0
  | 0, k, h => by cases h
  | i + 1, k, h => by
    by_cases hv : v ≤ R.getD i 0
    · cases ho : pick r R v i with
      | none => rw [pick_new hv ho] at h; cases h; exact ⟨by omega, hv⟩
      | some j =>
        have ih := pick_some ho
        have hh : k = i ∨ k = j := by
          cases r
          · rw [pick_n hv] at h; cases h; exact .inl rfl
          · rw [pick_f ho] at h; cases h; exact .inr rfl
          · rw [pick_b hv ho] at h
            split at h <;> cases h
            · exact .inl rfl
            · exact .inr rfl
          · rw [pick_w hv ho] at h
            split at h <;> cases h
            · exact .inl rfl
            · exact .inr rfl
        rcases hh with rfl | rfl
        · exact ⟨by omega, hv⟩
        · exact ⟨by omega, ih.2⟩
    · by_cases hr : r = .n
      · subst hr; rw [pick_n0 hv] at h; cases h
      · rw [pick_skip hr hv] at h
        have := pick_some h
        exact ⟨by omega, this.2⟩
/-- None has room. -/
theorem pick_none {r : Rl} {R : List Int} {v : Int} (hr : r ≠ .n) : ∀ {i : Nat}, pick r R v i = none → ∀ j, j < i → R.getD j 0 < v
  | 0, _, j, hj => by omega
  | i + 1, h, j, hj => by
    by_cases hv : v ≤ R.getD i 0
    · exfalso
      cases ho : pick r R v i with
      | none => rw [pick_new hv ho] at h; cases h
      | some k =>
        cases r
        · exact hr rfl
        · rw [pick_f ho] at h; cases h
        · rw [pick_b hv ho] at h; split at h <;> cases h
        · rw [pick_w hv ho] at h; split at h <;> cases h
    · rw [pick_skip hr hv] at h
      by_cases e : j = i
      · subst e; omega
      · exact pick_none hr h j (by omega)
theorem pick_none_n {R : List Int} {v : Int} {i : Nat} (h : pick .n R v (i + 1) = none) : R.getD i 0 < v := by
  by_cases hv : v ≤ R.getD i 0
  · rw [pick_n hv] at h; cases h
  · omega
/-- None has room: at least not the last. -/
theorem pick_none_last {r : Rl} {R : List Int} {v : Int} {i : Nat} (h : pick r R v (i + 1) = none) : R.getD i 0 < v := by
  by_cases hr : r = .n
  · subst hr; exact pick_none_n h
  · exact pick_none hr h i (by omega)
/-- The first. -/
theorem pick_first {R : List Int} {v : Int} : ∀ {i k : Nat}, pick .f R v i = some k → ∀ j, j < k → R.getD j 0 < v
  | 0, k, h, j, hj => by cases h
  | i + 1, k, h, j, hj => by
    cases ho : pick .f R v i with
    | some m =>
      rw [pick_f ho] at h
      cases h
      exact pick_first ho j hj
    | none =>
      by_cases hv : v ≤ R.getD i 0
      · rw [pick_new hv ho] at h
        cases h
        exact pick_none (by simp) ho j hj
      · rw [pick_skip (by simp) hv, ho] at h; cases h
/-- The fullest. -/
theorem pick_full {R : List Int} {v : Int} : ∀ {i k : Nat}, pick .b R v i = some k → ∀ j, j < i → v ≤ R.getD j 0 → (j < k → R.getD k 0 < R.getD j 0) ∧ R.getD k 0 ≤ R.getD j 0
  | 0, k, h, j, hj, _ => by cases h
  | i + 1, k, h, j, hj, hj2 => by
    by_cases hv : v ≤ R.getD i 0
    · cases ho : pick .b R v i with
      | none =>
        rw [pick_new hv ho] at h
        cases h
        by_cases e : j = i
        · subst e; exact ⟨fun h => by omega, Int.le_refl _⟩
        · have := pick_none (by simp) ho j (by omega)
          omega
      | some m =>
        have ih := fun j hj hj2 => pick_full ho j hj hj2
        have hm := pick_some ho
        rw [pick_b hv ho] at h
        split at h <;> cases h
        · by_cases e : j = i
          · subst e; exact ⟨fun h => by omega, Int.le_refl _⟩
          · have := ih j (by omega) hj2
            exact ⟨fun _ => by omega, by omega⟩
        · by_cases e : j = i
          · subst e; exact ⟨fun h => by omega, by omega⟩
          · exact ih j (by omega) hj2
    · rw [pick_skip (by simp) hv] at h
      by_cases e : j = i
      · subst e; exact absurd hj2 hv
      · exact pick_full h j (by omega) hj2
/-- A number goes into a bin, or opens one. -/
def put {α : Type} (B : List (List α)) (o : Option Nat) (x : α) : List (List α) :=
  match o with
  | none => B ++ [[x]]
  | some k => B.set k (B.getD k [] ++ [x])
/-- The rooms. -/
def rooms (C : Int) (B : List (List Int)) : List Int := B.map fun b => C - tot b
theorem rooms_len (C : Int) (B : List (List Int)) : (rooms C B).length = B.length := List.length_map ..
theorem rooms_at {C : Int} {B : List (List Int)} {j : Nat} (h : j < B.length) : (rooms C B).getD j 0 = C - tot (B.getD j []) := by
  simp [rooms, List.getD, h]
/-- The bin of the next number. -/
def where_ (r : Rl) (C : Int) (B : List (List Int)) (x : Int) : Option Nat := pick r (rooms C B) x B.length
/-- Number by number. -/
def fill (r : Rl) (C : Int) : List Int → List (List Int) → List (List Int)
  | [], B => B
  | x :: l, B => fill r C l (put B (where_ r C B x) x)
theorem fill_nil (r : Rl) (C : Int) (B : List (List Int)) : fill r C [] B = B := rfl
theorem fill_cons (r : Rl) (C : Int) (x : Int) (l : List Int) (B : List (List Int)) : fill r C (x :: l) B = fill r C l (put B (where_ r C B x) x) := rfl
theorem fill_append (r : Rl) (C : Int) : ∀ (a b : List Int) (B : List (List Int)), fill r C (a ++ b) B = fill r C b (fill r C a B)
  | [], _, _ => rfl
  | x :: a, b, B => by rw [List.cons_append, fill_cons, fill_cons, fill_append r C a b]
theorem fill_snoc (r : Rl) (C : Int) (a : List Int) (x : Int) (B : List (List Int)) : fill r C (a ++ [x]) B = put (fill r C a B) (where_ r C (fill r C a B) x) x := by rw [fill_append]; rfl
theorem put_some_len {α : Type} {B : List (List α)} {k : Nat} {x : α} : (put B (some k) x).length = B.length := by simp [put]
theorem put_none_len {α : Type} {B : List (List α)} {x : α} : (put B none x).length = B.length + 1 := by simp [put]
theorem put_flat {α : Type} {B : List (List α)} {o : Option Nat} {x : α} (h : ∀ k, o = some k → k < B.length) : (put B o x).flatten.Perm (B.flatten ++ [x]) := by
  cases o with
  | none => simp [put]
  | some k =>
    have hk := h k rfl
    show ((B.set k (B.getD k [] ++ [x])).flatten).Perm _
    rw [List.set_eq_take_append_cons_drop, if_pos hk, List.flatten_append, List.flatten_cons]
    have e : B.flatten = (B.take k).flatten ++ (B.getD k [] ++ (B.drop (k + 1)).flatten) := by
      conv => lhs; rw [← List.take_append_drop k B, List.drop_eq_getElem_cons hk, List.flatten_append, List.flatten_cons]
      simp [List.getD, hk]
    rw [e, List.append_assoc, List.append_assoc, List.append_assoc]
    exact List.Perm.append_left _ (List.Perm.append_left _ List.perm_append_comm)
/-- Sums of bins and what went in. -/
structure Okay (C : Int) (B : List (List Int)) : Prop where
  one : ∀ j, j < B.length → 0 < tot (B.getD j []) ∧ tot (B.getD j []) ≤ C ∧ B.getD j [] ≠ []
  adj : ∀ j, j + 1 < B.length → C < tot (B.getD j []) + tot (B.getD (j + 1) [])
theorem getD_setL {α : Type} {B : List (List α)} {k j : Nat} {y : List α} (hk : k < B.length) : (B.set k y).getD j [] = if k = j then y else B.getD j [] := by
  by_cases e : k = j
  · subst e; simp [List.getD, hk]
  · simp [List.getD, e]
theorem getD_appL {α : Type} {B : List (List α)} {y : List α} {j : Nat} : (B ++ [y]).getD j [] = if j = B.length then y else B.getD j [] := by
  by_cases e : j = B.length
  · subst e; simp [List.getD]
  · rw [if_neg e]
    rcases Nat.lt_or_ge j B.length with h | h
    · simp only [List.getD]; rw [List.getElem?_append_left h]
    · simp only [List.getD]; rw [List.getElem?_eq_none (by simp; omega), List.getElem?_eq_none h]
theorem Okay.put {r : Rl} {C : Int} {B : List (List Int)} {x : Int} (h : Okay C B) (hx : 0 < x) (hC : x ≤ C) : Okay C (put B (where_ r C B x) x) := by
  cases ho : where_ r C B x with
  | some k =>
    obtain ⟨hk, hr⟩ := pick_some ho
    rw [rooms_at hk] at hr
    show Okay C (B.set k (B.getD k [] ++ [x]))
    have t1 : tot (B.getD k [] ++ [x]) = tot (B.getD k []) + x := by simp
    refine ⟨fun j hj => ?_, fun j hj => ?_⟩
    · rw [List.length_set] at hj
      have := h.one j hj
      rw [getD_setL hk]
      split
      · subst_vars; rw [t1]; exact ⟨by omega, by omega, by simp⟩
      · exact this
    · rw [List.length_set] at hj
      have := h.adj j hj
      rw [getD_setL hk, getD_setL hk]
      split <;> split <;> subst_vars <;> (try rw [t1]) <;> omega
  | none =>
    show Okay C (B ++ [[x]])
    refine ⟨fun j hj => ?_, fun j hj => ?_⟩
    · rw [List.length_append, List.length_singleton] at hj
      rw [getD_appL]
      split
      · simp; omega
      · exact h.one j (by omega)
    · rw [List.length_append, List.length_singleton] at hj
      rw [getD_appL, getD_appL, if_neg (by omega)]
      split
      · next e =>
        have h2 : pick r (rooms C B) x (j + 1) = none := by rw [e]; exact ho
        have := pick_none_last h2
        rw [rooms_at (by omega)] at this
        simp only [tot_cons, tot_nil]; omega
      · exact h.adj j (by omega)
theorem okay_nil (C : Int) : Okay C [] := ⟨fun j hj => by simp at hj, fun j hj => by simp at hj⟩
theorem okay_fill {r : Rl} {C : Int} : ∀ (xs : List Int) (B : List (List Int)), Okay C B → (∀ x ∈ xs, 0 < x ∧ x ≤ C) → Okay C (fill r C xs B)
  | [], _, h, _ => h
  | x :: l, B, h, hx => okay_fill l _ (h.put (hx x (by simp)).1 (hx x (by simp)).2) (fun y hy => hx y (by simp [hy]))
theorem where_lt {r : Rl} {C : Int} {B : List (List Int)} {x : Int} {k : Nat} (h : where_ r C B x = some k) : k < B.length := (pick_some h).1
theorem fill_flat {r : Rl} {C : Int} : ∀ (xs : List Int) (B : List (List Int)), (fill r C xs B).flatten.Perm (B.flatten ++ xs)
  | [], B => by rw [fill_nil, List.append_nil]
  | x :: l, B => by
    rw [fill_cons]
    refine (fill_flat l _).trans ?_
    have := (put_flat (B := B) (o := where_ r C B x) (x := x) (fun k hk => where_lt hk)).append_right l
    rw [List.append_assoc] at this
    exact this
theorem tot_nil_of_len {b : List Int} (h : 0 < tot b) : b ≠ [] := by intro e; subst e; simp at h
theorem adj_of (C : Int) : ∀ (B : List (List Int)), (∀ j, j + 1 < B.length → C < tot (B.getD j []) + tot (B.getD (j + 1) [])) → Adj C B
  | [], _ => trivial
  | [_], _ => trivial
  | b :: c :: l, h => ⟨h 0 (by simp), adj_of C (c :: l) (fun j hj => by have := h (j + 1) (by simp at hj ⊢; omega); simpa using this)⟩
/-- Bins as told are a packing. -/
theorem packs_of_bins {C : Int} (hC : 0 ≤ C) : ∀ (B : List (List Int)), (∀ b ∈ B, tot b ≤ C) → Packs B.flatten C B.length
  | [], _ => ⟨[], rfl, by simp, fun j hj => by simp at hj⟩
  | b :: B, h => by
    obtain ⟨zs, h1, h2, h3⟩ := packs_of_bins hC B (fun y hy => h y (by simp [hy]))
    have hl : ∀ (l : List Int) (j : Nat), load j (l.map fun x => (x, B.length)) = if j = B.length then tot l else 0 := by
      intro l j
      induction l with
      | nil => simp
      | cons x l ih =>
        rw [List.map_cons, load_cons, ih]
        by_cases e : j = B.length
        · subst e; simp
        · rw [if_neg (by show ¬ B.length = j; omega), if_neg e, if_neg e]; omega
    refine ⟨b.map (fun x => (x, B.length)) ++ zs, by simp [h1, Function.comp_def], fun z hz => ?_, fun j hj => ?_⟩
    · rcases List.mem_append.1 hz with hz | hz
      · obtain ⟨x, _, rfl⟩ := List.mem_map.1 hz
        simp
      · have := h2 z hz; simp; omega
    · rw [load_append, hl]
      have := h b (by simp)
      by_cases e : j = B.length
      · subst e
        have h0 : load B.length zs = 0 := by
          unfold load
          have : zs.filter (fun z => z.2 == B.length) = [] := by
            rw [List.filter_eq_nil_iff]
            intro z hz
            have := h2 z hz
            simp; omega
          rw [this]; rfl
        rw [if_pos rfl, h0]; omega
      · rw [if_neg e]
        have := h3 j (by simp at hj; omega)
        omega
/-- The bins that a rule fills. -/
theorem fill_packs {r : Rl} {C : Int} {xs : List Int} (hC : 0 ≤ C) (hx : ∀ x ∈ xs, 0 < x ∧ x ≤ C) : Packs xs C (fill r C xs []).length := by
  have ho := okay_fill (r := r) xs [] (okay_nil C) hx
  have hp := packs_of_bins hC (fill r C xs []) (fun b hb => by
    obtain ⟨j, hj, rfl⟩ := List.mem_iff_getElem.1 hb
    have := (ho.one j hj).2.1
    simpa [List.getD, hj] using this)
  exact hp.perm (by simpa using fill_flat (r := r) (C := C) xs [])
theorem fill_twice {r : Rl} {C : Int} {xs : List Int} {n : Nat} (hC : 0 ≤ C) (hx : ∀ x ∈ xs, 0 < x ∧ x ≤ C) (h : Packs xs C n) : fill r C xs [] = [] ∨ (fill r C xs []).length + 1 ≤ 2 * n := by
  have ho := okay_fill (r := r) xs [] (okay_nil C) hx
  refine adj_bound (h.perm (by simpa using (fill_flat (r := r) (C := C) xs []).symm)) hC (fun b hb => ?_) (adj_of C _ ho.adj)
  obtain ⟨j, hj, rfl⟩ := List.mem_iff_getElem.1 hb
  have := (ho.one j hj).1
  simpa [List.getD, hj] using this
theorem fill_ne {r : Rl} {C : Int} {xs : List Int} (h : fill r C xs [] = []) : xs = [] := by
  have := fill_flat (r := r) (C := C) xs []
  rw [h] at this
  have := this.length_eq
  simpa using this.symm
end Go.Proofs.Ytbihdajoflaknaa.Pk
