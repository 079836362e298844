
/- The greatest value over all orders of what is left: the plain laws; no program in sight. -/
namespace Go.Proofs.Ytcfakainajpebaa.Wst
set_option linter.unusedVariables false
/-- v is the greatest value of b followed by an order of r. -/
def IsMax (f : List Int → Int) (b r : List Int) (v : Int) : Prop := (∀ p : List Int, p.Perm r → f (b ++ p) ≤ v) ∧ ∃ p : List Int, p.Perm r ∧ f (b ++ p) = v
theorem IsMax.one {f : List Int → Int} {b r : List Int} {v u : Int} (h : IsMax f b r v) (k : IsMax f b r u) : v = u := by
  obtain ⟨h1, p, hp, h2⟩ := h
  obtain ⟨k1, q, hq, k2⟩ := k
  have := h1 q hq
  have := k1 p hp
  omega
theorem IsMax.perm {f : List Int → Int} {b r r' : List Int} {v : Int} (h : IsMax f b r v) (hr : r'.Perm r) : IsMax f b r' v :=
  ⟨fun p hp => h.1 p (hp.trans hr), by
    obtain ⟨p, hp, e⟩ := h.2
    exact ⟨p, hp.trans hr.symm, e⟩⟩
theorem isMax_nil (f : List Int → Int) (b : List Int) : IsMax f b [] (f b) :=
  ⟨fun p hp => by rw [hp.eq_nil, List.append_nil]; omega, [], List.Perm.refl _, by rw [List.append_nil]⟩
/-- The greatest of s and of the values where one of the first k numbers left comes next. -/
def SoFar (f : List Int → Int) (b r : List Int) (s : Int) (k : Nat) (n : Int) : Prop :=
  s ≤ n ∧ (∀ i, i < k → i < r.length → ∀ p : List Int, p.Perm (r.eraseIdx i) → f (b ++ [r.getD i 0] ++ p) ≤ n) ∧ (n = s ∨ ∃ i, i < k ∧ i < r.length ∧ ∃ p : List Int, p.Perm (r.eraseIdx i) ∧ f (b ++ [r.getD i 0] ++ p) = n)
theorem soFar_zero (f : List Int → Int) (b r : List Int) (s : Int) : SoFar f b r s 0 s := ⟨by omega, fun i hi => by omega, Or.inl rfl⟩
theorem SoFar.step {f : List Int → Int} {b r : List Int} {s n v : Int} {k : Nat} (h : SoFar f b r s k n) (hk : k < r.length) (hv : IsMax f (b ++ [r.getD k 0]) (r.eraseIdx k) v) : SoFar f b r s (k + 1) (max n v) := by
  obtain ⟨h1, h2, h3⟩ := h
  obtain ⟨v1, q, hq, v2⟩ := hv
  refine ⟨by omega, fun i hi hl p hp => ?_, ?_⟩
  · by_cases e : i = k
    · subst e; have := v1 p hp; omega
    · have := h2 i (by omega) hl p hp; omega
  · by_cases hnv : v ≤ n
    · rw [Int.max_eq_left hnv]
      rcases h3 with h3 | ⟨i, a1, a2, a3⟩
      · exact Or.inl h3
      · exact Or.inr ⟨i, by omega, a2, a3⟩
    · rw [Int.max_eq_right (by omega)]
      exact Or.inr ⟨k, by omega, hk, q, hq, v2⟩
theorem cons_perm {r : List Int} {i : Nat} (hi : i < r.length) : (r.getD i 0 :: r.eraseIdx i).Perm r := by
  have e : r.getD i 0 = r[i] := by simp [List.getD, hi]
  rw [e, List.eraseIdx_eq_take_drop_succ]
  have h := List.perm_middle (a := r[i]) (l₁ := r.take i) (l₂ := r.drop (i + 1))
  rw [← List.drop_eq_getElem_cons hi, List.take_append_drop] at h
  exact h.symm
theorem SoFar.done {f : List Int → Int} {b r : List Int} {s n : Int} {k : Nat} (h : SoFar f b r s k n) (hk : r.length ≤ k) (hr : r ≠ []) : ∃ v, IsMax f b r v ∧ n = max s v := by
  obtain ⟨h1, h2, h3⟩ := h
  -- every order begins with one of the numbers
  have key : ∀ p : List Int, p.Perm r → ∃ i, i < r.length ∧ ∃ q : List Int, q.Perm (r.eraseIdx i) ∧ f (b ++ p) = f (b ++ [r.getD i 0] ++ q) := by
    intro p hp
    cases p with
    | nil => exact absurd hp.symm.eq_nil hr
    | cons x q =>
      have hx : x ∈ r := hp.subset (by simp)
      obtain ⟨i, hi, e⟩ := List.mem_iff_getElem.1 hx
      refine ⟨i, hi, q, ?_, ?_⟩
      · have h4 : (x :: q).Perm (x :: r.eraseIdx i) := by
          have := (cons_perm hi).symm
          rw [show r.getD i 0 = x by simp [List.getD, hi, e]] at this
          exact hp.trans this
        exact h4.cons_inv
      · rw [show r.getD i 0 = x by simp [List.getD, hi, e]]
        simp
  have le : ∀ p : List Int, p.Perm r → f (b ++ p) ≤ n := by
    intro p hp
    obtain ⟨i, hi, q, hq, e⟩ := key p hp
    rw [e]
    exact h2 i (by omega) hi q hq
  -- some greatest value there is: among finitely many orders
  have fin : ∀ L : List (List Int), L ≠ [] → ∃ p, p ∈ L ∧ ∀ q, q ∈ L → f (b ++ q) ≤ f (b ++ p) := by
    intro L
    induction L with
    | nil => intro h; exact absurd rfl h
    | cons a L ih =>
      intro _
      cases L with
      | nil => exact ⟨a, by simp, fun q hq => by simp at hq; subst hq; omega⟩
      | cons c L =>
        obtain ⟨p, hp, hm⟩ := ih (by simp)
        by_cases hc : f (b ++ a) ≤ f (b ++ p)
        · exact ⟨p, by simp only [List.mem_cons] at hp ⊢; exact Or.inr hp, fun q hq => by
            rcases List.mem_cons.1 hq with rfl | hq
            · exact hc
            · exact hm q hq⟩
        · exact ⟨a, by simp, fun q hq => by
            rcases List.mem_cons.1 hq with rfl | hq
            · omega
            · have := hm q hq; omega⟩
  rcases h3 with h3 | ⟨i, a1, a2, p, hp, e⟩
  · -- the greatest value, by descent from n
    subst h3
    have ex : ∀ m : Nat, ∀ p : List Int, p.Perm r → n - f (b ++ p) ≤ m → ∃ v, IsMax f b r v := by
      intro m
      induction m with
      | zero =>
        intro p hp hm
        have := le p hp
        exact ⟨f (b ++ p), fun q hq => by have := le q hq; omega, p, hp, rfl⟩
      | succ m ih =>
        intro p hp hm
        by_cases hq : ∃ q : List Int, q.Perm r ∧ f (b ++ p) < f (b ++ q)
        · obtain ⟨q, hq, hlt⟩ := hq
          exact ih q hq (by omega)
        · exact ⟨f (b ++ p), fun q hq' => by
            by_cases hlt : f (b ++ p) < f (b ++ q)
            · exact absurd ⟨q, hq', hlt⟩ hq
            · omega, p, hp, rfl⟩
    obtain ⟨v, hv⟩ := ex (n - f (b ++ r)).toNat r (List.Perm.refl _) (by have := le r (List.Perm.refl _); omega)
    refine ⟨v, hv, ?_⟩
    obtain ⟨_, p, hp, e⟩ := hv
    have := le p hp
    omega
  · refine ⟨n, ⟨le, r.getD i 0 :: p, (hp.cons _).trans (cons_perm a2), ?_⟩, by omega⟩
    rw [← e]
    simp
/-- Two places of the order change: what is left behind the first. -/
theorem swap_rest {O : List Int} {p i : Nat} (hp : p ≤ i) (hi : i < O.length) :
    (((O.set p (O.getD i 0)).set i (O.getD p 0)).take (p + 1) = O.take p ++ [(O.drop p).getD (i - p) 0]) ∧ (((O.set p (O.getD i 0)).set i (O.getD p 0)).drop (p + 1)).Perm ((O.drop p).eraseIdx (i - p)) := by
  have gp : O.getD p 0 = O[p] := by simp [List.getD, show p < O.length by omega]
  have gi : O.getD i 0 = O[i] := by simp [List.getD, hi]
  have hS : ((O.set p (O.getD i 0)).set i (O.getD p 0)).Perm O := by
    rw [gp, gi]
    exact List.set_set_perm (by omega) hi
  obtain ⟨S, hSe⟩ : ∃ S, (O.set p (O.getD i 0)).set i (O.getD p 0) = S := ⟨_, rfl⟩
  have hlen : S.length = O.length := by rw [← hSe]; simp
  have ht : S.take p = O.take p := by
    rw [← hSe, List.take_set_of_le (by omega), List.take_set_of_le (by omega)]
  have hSp : S[p]'(by omega) = O[i] := by
    subst hSe
    rw [List.getElem_set, List.getElem_set]
    by_cases e : i = p
    · subst e; simp [hi]
    · rw [if_neg e, if_pos rfl, gi]
  have e1 : (O.drop p).getD (i - p) 0 = O[i] := by
    simp [List.getD, List.getElem?_drop, show p + (i - p) = i by omega, hi]
  rw [hSe] at hS ⊢
  refine ⟨?_, ?_⟩
  · rw [List.take_succ_eq_append_getElem (by omega), ht, hSp, e1]
  · have h1 : (S.drop p).Perm (O.drop p) := by
      have a : (S.take p ++ S.drop p).Perm (O.take p ++ O.drop p) := by rw [List.take_append_drop, List.take_append_drop]; exact hS
      rw [ht] at a
      exact (List.perm_append_left_iff _).1 a
    have h2 : S.drop p = O[i] :: S.drop (p + 1) := by rw [List.drop_eq_getElem_cons (by omega), hSp]
    have h3 := cons_perm (r := O.drop p) (i := i - p) (by simp; omega)
    rw [e1] at h3
    rw [h2] at h1
    exact (h1.trans h3.symm).cons_inv
theorem swap_back {O : List Int} {p i : Nat} (hp : p < O.length) (hi : i < O.length) : (((O.set p (O.getD i 0)).set i (O.getD p 0)).set p (((O.set p (O.getD i 0)).set i (O.getD p 0)).getD i 0)).set i (((O.set p (O.getD i 0)).set i (O.getD p 0)).getD p 0) = O := by
  have gp : O.getD p 0 = O[p] := by simp [List.getD, hp]
  have gi : O.getD i 0 = O[i] := by simp [List.getD, hi]
  have a1 : ((O.set p (O.getD i 0)).set i (O.getD p 0)).getD i 0 = O[p] := by simp [List.getD, hi, hp]
  have a2 : ((O.set p (O.getD i 0)).set i (O.getD p 0)).getD p 0 = O[i] := by
    simp only [List.getD]
    rw [List.getElem?_set]
    by_cases e : i = p
    · subst e; simp [hi]
    · rw [if_neg e, List.getElem?_set]; simp [hp, hi]
  rw [a1, a2, gp, gi]
  apply List.ext_getElem
  · simp
  · intro j h1 h2
    simp only [List.getElem_set]
    by_cases e1 : i = j
    · subst e1; simp
    · by_cases e2 : p = j
      · subst e2; simp [e1]
      · simp [e1, e2]
end Go.Proofs.Ytcfakainajpebaa.Wst
