
/- The least number of bins by branch and bound: the plain laws; no program in sight. -/
import Derived.Test.YtbihdajoflaknaaPack
namespace Go.Proofs.Ytbihdajoflaknaa.Pk
set_option linter.unusedVariables false
theorem getD_app {R S : List Int} {j : Nat} (h : j < R.length) : (R ++ S).getD j 0 = R.getD j 0 := by
  simp only [List.getD]
  rw [List.getElem?_append_left h]
/-- The numbers go into the rooms, each in turn. -/
def FitsR : List Int → List Int → Prop
  | [], R => ∀ r ∈ R, 0 ≤ r
  | x :: zs, R => ∃ j, j < R.length ∧ x ≤ R.getD j 0 ∧ FitsR zs (R.set j (R.getD j 0 - x))
theorem getD_get {l : List Int} {j : Nat} (h : j < l.length) : l.getD j 0 = l[j] := by simp [List.getD, h]
theorem perm_cons_erase {R : List Int} {j : Nat} (hj : j < R.length) : R.Perm (R.getD j 0 :: R.eraseIdx j) := by
  rw [getD_get hj, List.eraseIdx_eq_take_drop_succ]
  have h := List.perm_middle (a := R[j]) (l₁ := R.take j) (l₂ := R.drop (j + 1))
  rw [← List.drop_eq_getElem_cons hj, List.take_append_drop] at h
  exact h
theorem set_perm_erase {R : List Int} {j : Nat} (hj : j < R.length) (v : Int) : (R.set j v).Perm (v :: R.eraseIdx j) := by
  have h := perm_cons_erase (R := R.set j v) (j := j) (by simpa using hj)
  rw [List.eraseIdx_set_eq] at h
  rw [show (R.set j v).getD j 0 = v by simp [List.getD, hj]] at h
  exact h
theorem FitsR.perm : ∀ {zs R R' : List Int}, FitsR zs R → R.Perm R' → FitsR zs R'
  | [], R, R', h, p => fun r hr => h r (p.symm.subset hr)
  | x :: zs, R, R', h, p => by
    obtain ⟨j, hj, hx, h⟩ := h
    have hm : R.getD j 0 ∈ R' := p.subset (by rw [getD_get hj]; simp)
    obtain ⟨k, hk, e⟩ := List.mem_iff_getElem.1 hm
    have ek : R'.getD k 0 = R.getD j 0 := by rw [getD_get hk, e]
    refine ⟨k, hk, by rw [ek]; exact hx, h.perm ?_⟩
    rw [ek]
    have h1 : (R.eraseIdx j).Perm (R'.eraseIdx k) := by
      have a := (perm_cons_erase hj).symm.trans (p.trans (perm_cons_erase hk))
      rw [ek] at a
      exact a.cons_inv
    exact (set_perm_erase hj _).trans ((h1.cons _).trans (set_perm_erase hk _).symm)
/-- Rooms R and new bins of size C, k bins together. -/
def Can (C : Int) (R zs : List Int) (k : Nat) : Prop := R.length ≤ k ∧ FitsR zs (R ++ List.replicate (k - R.length) C)
theorem can_nil {C : Int} {R : List Int} (hR : ∀ r ∈ R, 0 ≤ r) : Can C R [] R.length := ⟨Nat.le_refl _, by rw [Nat.sub_self, List.replicate_zero, List.append_nil]; exact hR⟩
theorem Can.old {C : Int} {R zs : List Int} {x : Int} {k j : Nat} (hj : j < R.length) (hx : x ≤ R.getD j 0) (h : Can C (R.set j (R.getD j 0 - x)) zs k) : Can C R (x :: zs) k := by
  obtain ⟨h1, h2⟩ := h
  rw [List.length_set] at h1 h2
  refine ⟨h1, j, by simp; omega, ?_, ?_⟩
  · rw [getD_app hj]; exact hx
  · rw [getD_app hj, List.set_append_left _ _ hj]; exact h2
theorem Can.new {C : Int} {R zs : List Int} {x : Int} {k : Nat} (hx : x ≤ C) (h : Can C (R ++ [C - x]) zs k) : Can C R (x :: zs) k := by
  obtain ⟨h1, h2⟩ := h
  rw [List.length_append, List.length_singleton] at h1 h2
  obtain ⟨m, hm⟩ : ∃ m, k - R.length = m + 1 := ⟨k - R.length - 1, by omega⟩
  have hm2 : k - (R.length + 1) = m := by omega
  rw [hm2] at h2
  refine ⟨by omega, R.length, by simp; omega, ?_, ?_⟩
  · rw [hm]; simp [List.getD, List.replicate_succ]; exact hx
  · rw [hm, List.replicate_succ]
    have e : (R ++ C :: List.replicate m C).getD R.length 0 = C := by simp [List.getD]
    rw [e, List.set_append_right _ _ (Nat.le_refl _), Nat.sub_self, List.set_cons_zero]
    rw [List.append_assoc] at h2
    exact h2
theorem Can.cases {C : Int} {R zs : List Int} {x : Int} {k : Nat} (h : Can C R (x :: zs) k) : (∃ j, j < R.length ∧ x ≤ R.getD j 0 ∧ Can C (R.set j (R.getD j 0 - x)) zs k) ∨ Can C (R ++ [C - x]) zs k := by
  obtain ⟨h1, j, hj, hx, h2⟩ := h
  rw [List.length_append, List.length_replicate] at hj
  by_cases hl : j < R.length
  · left
    have e : (R ++ List.replicate (k - R.length) C).getD j 0 = R.getD j 0 := getD_app hl
    rw [e] at hx h2
    rw [List.set_append_left _ _ hl] at h2
    exact ⟨j, hl, hx, by rw [List.length_set]; exact h1, by rw [List.length_set]; exact h2⟩
  · right
    have e : (R ++ List.replicate (k - R.length) C).getD j 0 = C := by
      simp only [List.getD]
      rw [List.getElem?_append_right (by omega), List.getElem?_replicate, if_pos (by omega)]; rfl
    rw [e] at h2
    refine ⟨by simp; omega, h2.perm ?_⟩
    obtain ⟨m, hm⟩ : ∃ m, k - R.length = m + 1 := ⟨k - R.length - 1, by omega⟩
    rw [List.length_append, List.length_singleton, show k - (R.length + 1) = m by omega, hm, List.append_assoc]
    have p1 := set_perm_erase (R := R ++ List.replicate (m + 1) C) (j := j) (by simp; omega) (C - x)
    have p2 : ((R ++ List.replicate (m + 1) C).eraseIdx j).Perm (R ++ List.replicate m C) := by
      have a := perm_cons_erase (R := R ++ List.replicate (m + 1) C) (j := j) (by simp; omega)
      rw [hm] at e
      rw [e] at a
      have b : (R ++ List.replicate (m + 1) C).Perm (C :: (R ++ List.replicate m C)) := by
        rw [List.replicate_succ]; exact List.perm_middle
      exact (a.symm.trans b).cons_inv
    exact p1.trans ((p2.cons _).trans List.perm_middle.symm)
/-- The better of L and of the least number for what is left. -/
def Best (C : Int) (R zs : List Int) (L M : Nat) : Prop := M ≤ L ∧ (M = L ∨ Can C R zs M) ∧ ∀ k, Can C R zs k → M ≤ k
theorem Best.one {C : Int} {R zs : List Int} {L M N : Nat} (h : Best C R zs L M) (k : Best C R zs L N) : M = N := by
  have a : N ≤ M := by
    rcases h.2.1 with e | e
    · rw [e]; exact k.1
    · exact k.2.2 _ e
  have b : M ≤ N := by
    rcases k.2.1 with e | e
    · rw [e]; exact h.1
    · exact h.2.2 _ e
  omega
theorem best_cut {C : Int} {R zs : List Int} {L : Nat} (h : L ≤ R.length) : Best C R zs L L := ⟨Nat.le_refl _, Or.inl rfl, fun k hk => Nat.le_trans h hk.1⟩
theorem best_leaf {C : Int} {R : List Int} {L : Nat} (h : R.length < L) (hR : ∀ r ∈ R, 0 ≤ r) : Best C R [] L R.length := ⟨by omega, Or.inr (can_nil hR), fun k hk => hk.1⟩
/-- The same while the first i rooms have been tried. -/
def BestTo (C : Int) (R : List Int) (x : Int) (zs : List Int) (L i M : Nat) : Prop := M ≤ L ∧ (M = L ∨ Can C R (x :: zs) M) ∧ ∀ j, j < i → j < R.length → x ≤ R.getD j 0 → ∀ k, Can C (R.set j (R.getD j 0 - x)) zs k → M ≤ k
theorem bestTo_zero (C : Int) (R : List Int) (x : Int) (zs : List Int) (L : Nat) : BestTo C R x zs L 0 L := ⟨Nat.le_refl _, Or.inl rfl, fun j hj => by omega⟩
theorem BestTo.skip {C : Int} {R zs : List Int} {x : Int} {L i M : Nat} (h : BestTo C R x zs L i M) (hx : ¬ x ≤ R.getD i 0) : BestTo C R x zs L (i + 1) M :=
  ⟨h.1, h.2.1, fun j hj hl hxj => by
    by_cases e : j = i
    · subst e; exact absurd hxj hx
    · exact h.2.2 j (by omega) hl hxj⟩
theorem BestTo.step {C : Int} {R zs : List Int} {x : Int} {L i M N : Nat} (h : BestTo C R x zs L i M) (hi : i < R.length) (hx : x ≤ R.getD i 0) (hb : Best C (R.set i (R.getD i 0 - x)) zs M N) : BestTo C R x zs L (i + 1) N := by
  refine ⟨Nat.le_trans hb.1 h.1, ?_, fun j hj hl hxj k hk => ?_⟩
  · rcases hb.2.1 with e | e
    · rw [e]; exact h.2.1
    · exact Or.inr (Can.old hi hx e)
  · by_cases e : j = i
    · subst e; exact hb.2.2 k hk
    · exact Nat.le_trans hb.1 (h.2.2 j (by omega) hl hxj k hk)
theorem BestTo.done {C : Int} {R zs : List Int} {x : Int} {L i M N : Nat} (h : BestTo C R x zs L i M) (hi : R.length ≤ i) (hx : x ≤ C) (hb : Best C (R ++ [C - x]) zs M N) : Best C R (x :: zs) L N := by
  refine ⟨Nat.le_trans hb.1 h.1, ?_, fun k hk => ?_⟩
  · rcases hb.2.1 with e | e
    · rw [e]; exact h.2.1
    · exact Or.inr (Can.new hx e)
  · rcases hk.cases with ⟨j, hj, hxj, hk⟩ | hk
    · exact Nat.le_trans hb.1 (h.2.2 j (by omega) hj hxj k hk)
    · exact hb.2.2 k hk
/-- Rooms and assignments. -/
theorem fitsR_iff : ∀ (zs R : List Int), (∀ x ∈ zs, 0 ≤ x) → (FitsR zs R ↔ ∃ as : List (Int × Nat), as.map Prod.fst = zs ∧ (∀ z ∈ as, z.2 < R.length) ∧ ∀ j, j < R.length → load j as ≤ R.getD j 0)
  | [], R, _ => by
    constructor
    · intro h
      exact ⟨[], rfl, by simp, fun j hj => by rw [load_nil, getD_get hj]; exact h _ (by simp)⟩
    · rintro ⟨as, h1, _, h3⟩ r hr
      obtain ⟨j, hj, rfl⟩ := List.mem_iff_getElem.1 hr
      have := h3 j hj
      rw [List.map_eq_nil_iff] at h1
      subst h1
      rw [load_nil, getD_get hj] at this
      exact this
  | x :: zs, R, hz => by
    have ih := fun R => fitsR_iff zs R (fun y hy => hz y (by simp [hy]))
    constructor
    · rintro ⟨j, hj, hx, h⟩
      obtain ⟨as, h1, h2, h3⟩ := (ih _).1 h
      refine ⟨(x, j) :: as, by simp [h1], ?_, fun i hi => ?_⟩
      · intro z hz'
        rcases List.mem_cons.1 hz' with rfl | hz'
        · exact hj
        · have := h2 z hz'; simpa using this
      · have := h3 i (by simpa using hi)
        rw [load_cons]
        by_cases e : j = i
        · subst e
          simp [List.getD, hj] at this ⊢
          omega
        · simp [List.getD, e, hi] at this ⊢
          omega
    · rintro ⟨as, h1, h2, h3⟩
      cases as with
      | nil => simp at h1
      | cons a as =>
        simp only [List.map_cons, List.cons.injEq] at h1
        obtain ⟨rfl, h1⟩ := h1
        have hj := h2 a (by simp)
        have hl := h3 a.2 hj
        rw [load_cons, if_pos rfl] at hl
        have hnn : 0 ≤ load a.2 as := load_nonneg (fun z hz' => hz _ (by rw [← h1]; simp only [List.mem_cons, List.mem_map]; exact Or.inr ⟨z, hz', rfl⟩)) _
        refine ⟨a.2, hj, by omega, (ih _).2 ⟨as, h1, fun z hz' => by simpa using h2 z (by simp [hz']), fun i hi => ?_⟩⟩
        have hi' : i < R.length := by simpa using hi
        have := h3 i hi'
        rw [load_cons] at this
        by_cases e : a.2 = i
        · subst e
          simp [List.getD, hj] at this hl ⊢
          omega
        · simp [List.getD, e, hi'] at this ⊢
          omega
theorem can_packs {xs : List Int} {C : Int} {k : Nat} (hx : ∀ x ∈ xs, 0 ≤ x) : Can C [] xs k ↔ Packs xs C k := by
  unfold Can Packs
  rw [fitsR_iff xs _ hx]
  simp only [List.length_nil, Nat.zero_le, true_and, List.nil_append, Nat.sub_zero, List.length_replicate]
  constructor
  · rintro ⟨as, h1, h2, h3⟩
    exact ⟨as, h1, h2, fun j hj => by have := h3 j hj; simpa [List.getD, hj] using this⟩
  · rintro ⟨as, h1, h2, h3⟩
    exact ⟨as, h1, h2, fun j hj => by have := h3 j hj; simpa [List.getD, hj] using this⟩
/-- The least number of bins. -/
def IsLeast (C : Int) (xs : List Int) (k : Nat) : Prop := Packs xs C k ∧ ∀ m, Packs xs C m → k ≤ m
theorem IsLeast.one {C : Int} {xs : List Int} {k m : Nat} (h : IsLeast C xs k) (g : IsLeast C xs m) : k = m := by
  have := h.2 m g.1
  have := g.2 k h.1
  omega
theorem IsLeast.perm {C : Int} {xs ys : List Int} {k : Nat} (h : IsLeast C xs k) (p : xs.Perm ys) : IsLeast C ys k := ⟨h.1.perm p, fun m hm => h.2 m (hm.perm p.symm)⟩
/-- Each number in a bin of its own. -/
theorem packs_len {C : Int} : ∀ (xs : List Int), (∀ x ∈ xs, 0 ≤ x ∧ x ≤ C) → Can C [] xs xs.length
  | xs, h => by
    have key : ∀ (zs R : List Int), (∀ x ∈ zs, 0 ≤ x ∧ x ≤ C) → (∀ r ∈ R, 0 ≤ r) → Can C R zs (R.length + zs.length) := by
      intro zs
      induction zs with
      | nil => intro R _ hR; simpa using can_nil hR
      | cons x zs ih =>
        intro R hz hR
        have hx := hz x (by simp)
        have := ih (R ++ [C - x]) (fun y hy => hz y (by simp [hy])) (fun r hr => by
          rcases List.mem_append.1 hr with hr | hr
          · exact hR r hr
          · simp at hr; omega)
        refine Can.new hx.2 ?_
        simp only [List.length_append, List.length_cons, List.length_nil, Nat.zero_add] at this ⊢
        rw [show R.length + (zs.length + 1) = R.length + 1 + zs.length by omega]
        exact this
    simpa using key xs [] h (by simp)
/-- What the search finds. -/
theorem best_least {C : Int} {xs : List Int} {M : Nat} (hx : ∀ x ∈ xs, 0 ≤ x ∧ x ≤ C) (h : Best C [] xs xs.length M) : IsLeast C xs M := by
  have hp : ∀ x ∈ xs, 0 ≤ x := fun x hm => (hx x hm).1
  refine ⟨?_, fun m hm => h.2.2 m ((can_packs hp).2 hm)⟩
  rcases h.2.1 with e | e
  · rw [e]; exact (can_packs hp).1 (packs_len xs hx)
  · exact (can_packs hp).1 e
end Go.Proofs.Ytbihdajoflaknaa.Pk
