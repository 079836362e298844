
/- Sorted lists: the plain laws. -/
namespace Go.Proofs.Ytbfpllmoaooadaa.Srt
set_option linter.unusedVariables false
def up (xs : List Int) : List Int := xs.mergeSort (fun a b => decide (a ≤ b))
def dn (xs : List Int) : List Int := xs.mergeSort (fun a b => decide (b ≤ a))
theorem up_perm (xs : List Int) : (up xs).Perm xs := List.mergeSort_perm _ _
theorem dn_perm (xs : List Int) : (dn xs).Perm xs := List.mergeSort_perm _ _
theorem up_sorted (xs : List Int) : (up xs).Pairwise (fun a b => a ≤ b) := by
  have h := List.pairwise_mergeSort (le := fun a b : Int => decide (a ≤ b)) (fun a b c h1 h2 => by simp at *; omega) (fun a b => by simp; omega) xs
  exact h.imp (fun h => by simpa using h)
theorem dn_sorted (xs : List Int) : (dn xs).Pairwise (fun a b => b ≤ a) := by
  have h := List.pairwise_mergeSort (le := fun a b : Int => decide (b ≤ a)) (fun a b c h1 h2 => by simp at *; omega) (fun a b => by simp; omega) xs
  exact h.imp (fun h => by simpa using h)
theorem up_eq {xs ys : List Int} (hp : ys.Perm xs) (hs : ys.Pairwise (fun a b => a ≤ b)) : ys = up xs :=
  (hp.trans (up_perm xs).symm).eq_of_pairwise (le := fun a b => a ≤ b) (fun a b _ _ h1 h2 => by omega) hs (up_sorted xs)
theorem dn_eq {xs ys : List Int} (hp : ys.Perm xs) (hs : ys.Pairwise (fun a b => b ≤ a)) : ys = dn xs :=
  (hp.trans (dn_perm xs).symm).eq_of_pairwise (le := fun a b => b ≤ a) (fun a b _ _ h1 h2 => by omega) hs (dn_sorted xs)
theorem up_rev (xs : List Int) : (up xs).reverse = dn xs :=
  dn_eq ((List.reverse_perm _).trans (up_perm xs)) (by rw [List.pairwise_reverse]; exact up_sorted xs)
theorem getD_eq {l : List Int} {k : Nat} (h : k < l.length) : l.getD k 0 = l[k] := by simp [h]
/-- One number more, in its place. -/
theorem ins_asc {S : List Int} {v : Int} {k : Nat} (hS : S.Pairwise (fun a b => a ≤ b)) (hk : k ≤ S.length) (h1 : ∀ j, k ≤ j → j < S.length → v < S.getD j 0) (h2 : k = 0 ∨ S.getD (k - 1) 0 ≤ v) :
    (S.take k ++ [v] ++ S.drop k).Pairwise (fun a b => a ≤ b) := by
  have e := List.take_append_drop k S
  have hS' := hS
  rw [← e, List.pairwise_append] at hS'
  have hlo : ∀ x ∈ S.take k, x ≤ v := by
    intro x hx
    rcases h2 with h2 | h2
    · subst h2; simp at hx
    · obtain ⟨j, hj, rfl⟩ := List.mem_iff_getElem.1 hx
      simp only [List.length_take] at hj
      rw [List.getElem_take]
      rw [getD_eq (by omega)] at h2
      by_cases hjk : j = k - 1
      · subst hjk; exact h2
      · have := List.pairwise_iff_getElem.1 hS j (k - 1) (by omega) (by omega) (by omega)
        omega
  have hhi : ∀ x ∈ S.drop k, v ≤ x := by
    intro x hx
    obtain ⟨j, hj, rfl⟩ := List.mem_iff_getElem.1 hx
    simp only [List.length_drop] at hj
    rw [List.getElem_drop]
    have := h1 (k + j) (by omega) (by omega)
    rw [getD_eq (by omega)] at this
    omega
  rw [List.append_assoc, List.pairwise_append]
  refine ⟨hS'.1, ?_, ?_⟩
  · simp only [List.singleton_append, List.pairwise_cons]
    exact ⟨hhi, hS'.2.1⟩
  · intro x hx y hy
    simp only [List.singleton_append, List.mem_cons] at hy
    rcases hy with rfl | hy
    · exact hlo x hx
    · exact hS'.2.2 x hx y hy
theorem ins_perm (S : List Int) (v : Int) (k : Nat) : (S.take k ++ [v] ++ S.drop k).Perm (S ++ [v]) := by
  have e := List.take_append_drop k S
  conv => rhs; rw [← e]
  rw [List.append_assoc, List.append_assoc]
  exact List.Perm.append_left _ List.perm_append_comm
theorem swap_perm {S : List Int} {j : Nat} (hj : j + 1 < S.length) : ((S.set (j + 1) (S.getD j 0)).set j (S.getD (j + 1) 0)).Perm S := by
  rw [getD_eq (by omega), getD_eq hj, List.set_comm _ _ (by omega)]
  exact List.set_set_perm (by omega) (by omega)
/-- A round of the insertion sort: the number at j is the only one that may be out of place, and all behind it are at most it. -/
def Ins (S : List Int) (i j : Nat) : Prop := ∀ p q, p < q → q ≤ i → q ≠ j → S.getD q 0 ≤ S.getD p 0
def Des (S : List Int) (i : Nat) : Prop := ∀ p q, p < q → q < i → S.getD q 0 ≤ S.getD p 0
theorem Des.start {S : List Int} {i : Nat} (h : Des S i) : Ins S i i := fun p q h1 h2 h3 => h p q h1 (by omega)
theorem Ins.stop {S : List Int} {i j : Nat} (h : Ins S i j) (hj : j ≤ i) (h2 : j = 0 ∨ S.getD j 0 ≤ S.getD (j - 1) 0) : Des S (i + 1) := by
  intro p q h1 h3
  by_cases hq : q = j
  · subst hq
    rcases h2 with h2 | h2
    · omega
    · by_cases hp : p = q - 1
      · subst hp; exact h2
      · have := h p (q - 1) (by omega) (by omega) (by omega); omega
  · exact h p q h1 (by omega) hq
theorem getD_set2 {S : List Int} {a b : Nat} {x y : Int} (ha : a < S.length) (hb : b < S.length) (p : Nat) (hp : p < S.length) : ((S.set a x).set b y).getD p 0 = if p = b then y else if p = a then x else S.getD p 0 := by
  rw [getD_eq (by simpa using hp), List.getElem_set, List.getElem_set]
  by_cases h : p = b
  · rw [if_pos h, if_pos h.symm]
  · rw [if_neg h, if_neg (fun e => h e.symm)]
    by_cases h' : p = a
    · rw [if_pos h', if_pos h'.symm]
    · rw [if_neg h', if_neg (fun e => h' e.symm), getD_eq hp]
theorem Ins.step {S : List Int} {i j : Nat} (h : Ins S i (j + 1)) (hj : j + 1 ≤ i) (hi : i < S.length) (hlt : S.getD j 0 < S.getD (j + 1) 0) : Ins ((S.set (j + 1) (S.getD j 0)).set j (S.getD (j + 1) 0)) i j := by
  intro p q h1 h2 h3
  rw [getD_set2 (by omega) (by omega) q (by omega), getD_set2 (by omega) (by omega) p (by omega)]
  rw [if_neg h3]
  by_cases hq : q = j + 1
  · rw [if_pos hq]
    by_cases hp : p = j
    · rw [if_pos hp]; omega
    · rw [if_neg hp, if_neg (by omega)]
      exact h p j (by omega) (by omega) (by omega)
  · rw [if_neg hq]
    by_cases hp : p = j
    · rw [if_pos hp]; exact h (j + 1) q (by omega) h2 hq
    · rw [if_neg hp]
      by_cases hp2 : p = j + 1
      · rw [if_pos hp2]; exact h j q (by omega) h2 (by omega)
      · rw [if_neg hp2]; exact h p q h1 h2 hq
theorem Des.pairwise {S : List Int} (h : Des S S.length) : S.Pairwise (fun a b => b ≤ a) := by
  rw [List.pairwise_iff_getElem]
  intro i j hi hj hij
  have := h i j hij hj
  rw [getD_eq hi, getD_eq hj] at this
  exact this
end Go.Proofs.Ytbfpllmoaooadaa.Srt
