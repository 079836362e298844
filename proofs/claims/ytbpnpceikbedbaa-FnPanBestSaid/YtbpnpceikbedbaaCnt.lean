/- How many weighings have a sum: the counts as functions, and how a round of the loops changes them; no program in sight. -/
namespace Go.Proofs.Ytbpnpceikbedbaa.Cn
set_option linter.unusedVariables false

/-- The list f 0, f 1, .. of n numbers. -/
def rw_ (f : Nat → Int) (n : Nat) : List Int := (List.range n).map f
theorem rw_length (f : Nat → Int) (n : Nat) : (rw_ f n).length = n := by simp [rw_]
theorem rw_get (f : Nat → Int) {n j : Nat} (h : j < n) : (rw_ f n).getD j 0 = f j := by simp [rw_, List.getD, h]
theorem rw_congr {f g : Nat → Int} {n : Nat} (h : ∀ j, j < n → f j = g j) : rw_ f n = rw_ g n := by
  unfold rw_
  apply List.map_congr_left
  intro j hj
  exact h j (List.mem_range.1 hj)
theorem ext_getD {xs ys : List Int} (hl : xs.length = ys.length) (h : ∀ j, j < xs.length → xs.getD j 0 = ys.getD j 0) : xs = ys := by
  apply List.ext_getElem hl
  intro j h1 h2
  have := h j h1
  simpa [List.getD, h1, h2] using this
theorem rw_set {f g : Nat → Int} {n j : Nat} {x : Int} (hj : g j = x) (h : ∀ i, i < n → i ≠ j → g i = f i) : (rw_ f n).set j x = rw_ g n := by
  apply ext_getD (by simp [rw_length])
  intro i hi
  simp only [List.length_set, rw_length] at hi
  rw [rw_get g hi]
  by_cases e : i = j
  · subst e
    rw [hj]
    simp [List.getD, rw_length, hi]
  · rw [h i hi e, ← rw_get f hi]
    simp [List.getD, show ¬ j = i from fun h => e h.symm]
theorem rw_zero (n : Nat) : List.replicate n (0 : Int) = rw_ (fun _ => 0) n := by
  apply ext_getD (by simp [rw_length])
  intro i hi
  simp at hi
  rw [rw_get _ hi]
  simp [List.getD, hi]
theorem rw_drop (f : Nat → Int) (n k : Nat) : (rw_ f n).drop k = rw_ (fun j => f (k + j)) (n - k) := by
  apply ext_getD (by simp [rw_length])
  intro i hi
  simp only [List.length_drop, rw_length] at hi
  rw [rw_get _ hi, ← rw_get f (show k + i < n by omega)]
  simp [List.getD, List.getElem?_drop]

/-- One weight more. -/
def stp (f : Int → Int) (x : Int) (s : Int) : Int := f (s - x) + f s + f (s + x)
/-- How many weighings of the weights have the sum s. -/
def cf (xs : List Int) : Int → Int := xs.foldl stp fun s => if s = 0 then 1 else 0
theorem cf_snoc (xs : List Int) (x : Int) : cf (xs ++ [x]) = stp (cf xs) x := by simp [cf, List.foldl_append]
/-- The total, as a natural number. -/
def tn : List Int → Nat
  | [] => 0
  | x :: l => x.toNat + tn l
theorem tn_snoc (l : List Int) (x : Int) : tn (l ++ [x]) = tn l + x.toNat := by
  induction l with
  | nil => simp [tn]
  | cons y l ih => simp [tn, ih]; omega
theorem tn_take_le (xs : List Int) (k : Nat) : tn (xs.take k) ≤ tn xs := by
  induction xs generalizing k with
  | nil => simp [tn]
  | cons x l ih =>
    cases k with
    | zero => simp [tn]
    | succ k => have := ih k; simp [tn]; omega
theorem tn_le {xs : List Int} {m : Nat} (h : ∀ x ∈ xs, x ≤ m) : tn xs ≤ xs.length * m := by
  induction xs with
  | nil => simp [tn]
  | cons x l ih =>
    have h1 := h x (by simp)
    have h2 := ih fun y hy => h y (by simp [hy])
    simp only [tn, List.length_cons, Nat.add_mul, Nat.one_mul]
    omega
theorem stp_far {f : Int → Int} {S x : Int} (hx : 0 ≤ x) (hf : ∀ s, S < s ∨ s < -S → f s = 0) : ∀ s, S + x < s ∨ s < -(S + x) → stp f x s = 0 := by
  intro s hs
  unfold stp
  rw [hf (s - x) (by omega), hf s (by omega), hf (s + x) (by omega)]; rfl
/-- induction from the end -/
theorem snoc_ind {P : List Int → Prop} (h0 : P []) (hs : ∀ l x, P l → P (l ++ [x])) (l : List Int) : P l := by
  have key : ∀ n (l : List Int), l.length = n → P l := by
    intro n
    induction n with
    | zero => intro l hl; rw [List.eq_nil_of_length_eq_zero hl]; exact h0
    | succ n ih =>
      intro l hl
      have hne : l ≠ [] := by intro e; subst e; simp at hl
      rw [← List.dropLast_concat_getLast hne]
      exact hs _ _ (ih _ (by simp [hl]))
  exact key _ l rfl
theorem cf_far (xs : List Int) : (∀ x ∈ xs, 0 ≤ x) → ∀ s : Int, ((tn xs : Int) < s ∨ s < -(tn xs : Int)) → cf xs s = 0 := by
  induction xs using snoc_ind with
  | h0 => intro _ s hs; simp only [tn] at hs; simp [cf]; omega
  | hs l x ih =>
    intro h s hs
    rw [cf_snoc]
    have hx := h x (by simp)
    rw [tn_snoc] at hs
    exact stp_far (S := tn l) hx (ih fun y hy => h y (by simp [hy])) s (by omega)
theorem cf_range (xs : List Int) : ∀ s : Int, 0 ≤ cf xs s ∧ cf xs s ≤ 3 ^ xs.length := by
  induction xs using snoc_ind with
  | h0 => intro s; simp only [cf, List.foldl_nil]; split <;> simp
  | hs l x ih =>
    intro s
    rw [cf_snoc]
    unfold stp
    have h1 := ih (s - x); have h2 := ih s; have h3 := ih (s + x)
    have e : (3 : Int) ^ (l ++ [x]).length = 3 ^ l.length * 3 := by rw [List.length_append, List.length_singleton, Int.pow_succ]
    rw [e]; omega
/-- The counts laid from the place lo on. -/
def rowf (f : Int → Int) (lo : Int) (n : Nat) : List Int := rw_ (fun j => f (lo + j)) n

/-- The reference's table in the middle of a round: the numbers ahead of v have been added, of v itself the first t. -/
def nx (o : Nat → Int) (p v t : Nat) (j : Nat) : Int :=
  (if j < v ∨ (j = v ∧ 0 < t) then o j else 0) + (if p ≤ j ∧ (j - p < v ∨ (j - p = v ∧ 1 < t)) then o (j - p) else 0) + (if 2 * p ≤ j ∧ (j - 2 * p < v ∨ (j - 2 * p = v ∧ 2 < t)) then o (j - 2 * p) else 0)
theorem nx_zero (o : Nat → Int) (p j : Nat) : nx o p 0 0 j = 0 := by simp [nx]
theorem nx_next (o : Nat → Int) (p v j : Nat) : nx o p v 3 j = nx o p (v + 1) 0 j := by
  unfold nx
  congr 1
  · congr 1
    · congr 1; simp; omega
    · congr 1; simp; omega
  · congr 1; simp; omega
theorem nx_step0 (o : Nat → Int) {p v : Nat} : nx o p v 1 v = nx o p v 0 v + o v ∧ ∀ j, j ≠ v → nx o p v 1 j = nx o p v 0 j := by
  constructor
  · unfold nx
    rw [if_pos (by omega), if_neg (show ¬ (v < v ∨ (v = v ∧ 0 < 0)) from by omega)]
    have c2 : (p ≤ v ∧ (v - p < v ∨ (v - p = v ∧ 1 < 1))) ↔ (p ≤ v ∧ (v - p < v ∨ (v - p = v ∧ 1 < 0))) := by omega
    have c3 : (2 * p ≤ v ∧ (v - 2 * p < v ∨ (v - 2 * p = v ∧ 2 < 1))) ↔ (2 * p ≤ v ∧ (v - 2 * p < v ∨ (v - 2 * p = v ∧ 2 < 0))) := by omega
    simp only [c2, c3]; omega
  · intro j hj
    unfold nx
    have c1 : (j < v ∨ (j = v ∧ 0 < 1)) ↔ (j < v ∨ (j = v ∧ 0 < 0)) := by omega
    have c2 : (p ≤ j ∧ (j - p < v ∨ (j - p = v ∧ 1 < 1))) ↔ (p ≤ j ∧ (j - p < v ∨ (j - p = v ∧ 1 < 0))) := by omega
    have c3 : (2 * p ≤ j ∧ (j - 2 * p < v ∨ (j - 2 * p = v ∧ 2 < 1))) ↔ (2 * p ≤ j ∧ (j - 2 * p < v ∨ (j - 2 * p = v ∧ 2 < 0))) := by omega
    simp only [c1, c2, c3]
theorem nx_step1 (o : Nat → Int) {p v : Nat} (hp : 1 ≤ p) : nx o p v 2 (v + p) = nx o p v 1 (v + p) + o v ∧ ∀ j, j ≠ v + p → nx o p v 2 j = nx o p v 1 j := by
  constructor
  · unfold nx
    have e : v + p - p = v := by omega
    rw [if_neg (show ¬ (v + p < v ∨ (v + p = v ∧ 0 < 2)) from by omega), if_neg (show ¬ (v + p < v ∨ (v + p = v ∧ 0 < 1)) from by omega), e, if_pos (by omega), if_neg (show ¬ (p ≤ v + p ∧ (v < v ∨ (v = v ∧ 1 < 1))) from by omega)]
    have c : (2 * p ≤ v + p ∧ (v + p - 2 * p < v ∨ (v + p - 2 * p = v ∧ 2 < 2))) ↔ (2 * p ≤ v + p ∧ (v + p - 2 * p < v ∨ (v + p - 2 * p = v ∧ 2 < 1))) := by omega
    simp only [c]; omega
  · intro j hj
    unfold nx
    have c1 : (j < v ∨ (j = v ∧ 0 < 2)) ↔ (j < v ∨ (j = v ∧ 0 < 1)) := by omega
    have c2 : (p ≤ j ∧ (j - p < v ∨ (j - p = v ∧ 1 < 2))) ↔ (p ≤ j ∧ (j - p < v ∨ (j - p = v ∧ 1 < 1))) := by omega
    have c3 : (2 * p ≤ j ∧ (j - 2 * p < v ∨ (j - 2 * p = v ∧ 2 < 2))) ↔ (2 * p ≤ j ∧ (j - 2 * p < v ∨ (j - 2 * p = v ∧ 2 < 1))) := by omega
    simp only [c1, c2, c3]
theorem nx_step2 (o : Nat → Int) {p v : Nat} (hp : 1 ≤ p) : nx o p v 3 (v + 2 * p) = nx o p v 2 (v + 2 * p) + o v ∧ ∀ j, j ≠ v + 2 * p → nx o p v 3 j = nx o p v 2 j := by
  constructor
  · unfold nx
    have e : v + 2 * p - 2 * p = v := by omega
    rw [e]
    have c1 : (v + 2 * p < v ∨ (v + 2 * p = v ∧ 0 < 3)) ↔ (v + 2 * p < v ∨ (v + 2 * p = v ∧ 0 < 2)) := by omega
    have c2 : (p ≤ v + 2 * p ∧ (v + 2 * p - p < v ∨ (v + 2 * p - p = v ∧ 1 < 3))) ↔ (p ≤ v + 2 * p ∧ (v + 2 * p - p < v ∨ (v + 2 * p - p = v ∧ 1 < 2))) := by omega
    rw [if_pos (show 2 * p ≤ v + 2 * p ∧ (v < v ∨ (v = v ∧ 2 < 3)) from by omega), if_neg (show ¬ (2 * p ≤ v + 2 * p ∧ (v < v ∨ (v = v ∧ 2 < 2))) from by omega)]
    simp only [c1, c2]; omega
  · intro j hj
    unfold nx
    have c1 : (j < v ∨ (j = v ∧ 0 < 3)) ↔ (j < v ∨ (j = v ∧ 0 < 2)) := by omega
    have c2 : (p ≤ j ∧ (j - p < v ∨ (j - p = v ∧ 1 < 3))) ↔ (p ≤ j ∧ (j - p < v ∨ (j - p = v ∧ 1 < 2))) := by omega
    have c3 : (2 * p ≤ j ∧ (j - 2 * p < v ∨ (j - 2 * p = v ∧ 2 < 3))) ↔ (2 * p ≤ j ∧ (j - 2 * p < v ∨ (j - 2 * p = v ∧ 2 < 2))) := by omega
    simp only [c1, c2, c3]
theorem nx_range {o : Nat → Int} {M : Int} (h : ∀ v, 0 ≤ o v ∧ o v ≤ M) (p v t j : Nat) : 0 ≤ nx o p v t j ∧ nx o p v t j ≤ 3 * M := by
  unfold nx
  have h1 := h j; have h2 := h (j - p); have h3 := h (j - 2 * p)
  split <;> split <;> split <;> omega
theorem mo_range {o : Nat → Int} {M : Int} (h : ∀ v, 0 ≤ o v ∧ o v ≤ M) (p a b c j : Nat) : 0 ≤ (if j + p < a then o (j + p) else 0) + (if j < b then o j else 0) + (if p ≤ j ∧ j - p < c then o (j - p) else 0) ∧ (if j + p < a then o (j + p) else 0) + (if j < b then o j else 0) + (if p ≤ j ∧ j - p < c then o (j - p) else 0) ≤ 3 * M := by
  have h1 := h j; have h2 := h (j - p); have h3 := h (j + p)
  split <;> split <;> split <;> omega
theorem pow3_le {k : Nat} (h : k ≤ 10) : (3 : Int) ^ k ≤ 59049 := by
  have : k = 0 ∨ k = 1 ∨ k = 2 ∨ k = 3 ∨ k = 4 ∨ k = 5 ∨ k = 6 ∨ k = 7 ∨ k = 8 ∨ k = 9 ∨ k = 10 := by omega
  rcases this with rfl | rfl | rfl | rfl | rfl | rfl | rfl | rfl | rfl | rfl | rfl <;> decide
/-- The reference's table at the end of a round. -/
theorem nx_end {f : Int → Int} {S p : Nat} (hf : ∀ s : Int, ((S : Int) < s ∨ s < -(S : Int)) → f s = 0) (j : Nat) : nx (fun v => f (-(S : Int) + v)) p (2 * S + 1) 0 j = stp f p (-((S + p : Nat) : Int) + j) := by
  unfold nx stp
  have e1 : (if j < 2 * S + 1 ∨ (j = 2 * S + 1 ∧ 0 < 0) then f (-(S : Int) + j) else 0) = f (-((S + p : Nat) : Int) + j + p) := by
    split
    · congr 1; omega
    · rw [hf]; omega
  have e2 : (if p ≤ j ∧ (j - p < 2 * S + 1 ∨ (j - p = 2 * S + 1 ∧ 1 < 0)) then f (-(S : Int) + ((j - p : Nat) : Int)) else 0) = f (-((S + p : Nat) : Int) + j) := by
    split
    · congr 1; omega
    · rw [hf]; omega
  have e3 : (if 2 * p ≤ j ∧ (j - 2 * p < 2 * S + 1 ∨ (j - 2 * p = 2 * S + 1 ∧ 2 < 0)) then f (-(S : Int) + ((j - 2 * p : Nat) : Int)) else 0) = f (-((S + p : Nat) : Int) + j - p) := by
    split
    · congr 1; omega
    · rw [hf]; omega
  simp only at e1 e2 e3 ⊢
  rw [e1, e2, e3]; omega

/-- The program's table in the middle of a round. -/
def mo (o : Nat → Int) (p a b c : Nat) (j : Nat) : Int :=
  (if j + p < a then o (j + p) else 0) + (if j < b then o j else 0) + (if p ≤ j ∧ j - p < c then o (j - p) else 0)
theorem mo_zero (o : Nat → Int) (p j : Nat) : mo o p 0 0 0 j = 0 := by simp [mo]
theorem mo_step1 (o : Nat → Int) {p a b c : Nat} (h : p ≤ a) : mo o p (a + 1) b c (a - p) = mo o p a b c (a - p) + o a ∧ ∀ j, j ≠ a - p → mo o p (a + 1) b c j = mo o p a b c j := by
  constructor
  · unfold mo
    have e : a - p + p = a := by omega
    rw [e, if_pos (by omega), if_neg (show ¬ a < a from by omega)]; omega
  · intro j hj
    unfold mo
    have c1 : (j + p < a + 1) ↔ (j + p < a) := by omega
    simp only [c1]
theorem mo_step2 (o : Nat → Int) {p a b c : Nat} : mo o p a (b + 1) c b = mo o p a b c b + o b ∧ ∀ j, j ≠ b → mo o p a (b + 1) c j = mo o p a b c j := by
  constructor
  · unfold mo
    rw [if_pos (show b < b + 1 from by omega), if_neg (show ¬ b < b from by omega)]; omega
  · intro j hj
    unfold mo
    have c1 : (j < b + 1) ↔ (j < b) := by omega
    simp only [c1]
theorem mo_step3 (o : Nat → Int) {p a b c : Nat} : mo o p a b (c + 1) (c + p) = mo o p a b c (c + p) + o c ∧ ∀ j, j ≠ c + p → mo o p a b (c + 1) j = mo o p a b c j := by
  constructor
  · unfold mo
    have e : c + p - p = c := by omega
    rw [e, if_pos (show p ≤ c + p ∧ c < c + 1 from by omega), if_neg (show ¬ (p ≤ c + p ∧ c < c) from by omega)]; omega
  · intro j hj
    unfold mo
    have c1 : (p ≤ j ∧ j - p < c + 1) ↔ (p ≤ j ∧ j - p < c) := by omega
    simp only [c1]
theorem mo_none (o : Nat → Int) {p a : Nat} (h : o a = 0) (j : Nat) : mo o p (a + 1) (a + 1) (a + 1) j = mo o p a a a j := by
  unfold mo
  congr 1
  · congr 1
    · by_cases e : j + p = a
      · rw [if_pos (by omega), if_neg (by omega), e, h]
      · have c1 : (j + p < a + 1) ↔ (j + p < a) := by omega
        simp only [c1]
    · by_cases e : j = a
      · rw [if_pos (by omega), if_neg (by omega), e, h]
      · have c1 : (j < a + 1) ↔ (j < a) := by omega
        simp only [c1]
  · by_cases e : p ≤ j ∧ j - p = a
    · rw [if_pos (by omega), if_neg (by omega), e.2, h]
    · have c1 : (p ≤ j ∧ j - p < a + 1) ↔ (p ≤ j ∧ j - p < a) := by omega
      simp only [c1]
theorem mo_end {f : Int → Int} {S T p : Nat} (hS : S + p ≤ T) (hf : ∀ s : Int, ((S : Int) < s ∨ s < -(S : Int)) → f s = 0) {j : Nat} (hj : j < 2 * T + 1) :
    mo (fun v => f (-(T : Int) + v)) p (2 * T + 1) (2 * T + 1) (2 * T + 1) j = stp f p (-(T : Int) + j) := by
  unfold mo stp
  have e1 : (if j + p < 2 * T + 1 then f (-(T : Int) + ((j + p : Nat) : Int)) else 0) = f (-(T : Int) + j + p) := by
    split
    · congr 1; omega
    · rw [hf]; omega
  have e2 : (if j < 2 * T + 1 then f (-(T : Int) + j) else 0) = f (-(T : Int) + j) := if_pos hj
  have e3 : (if p ≤ j ∧ j - p < 2 * T + 1 then f (-(T : Int) + ((j - p : Nat) : Int)) else 0) = f (-(T : Int) + j - p) := by
    split
    · congr 1; omega
    · rw [hf]; omega
  simp only at e1 e2 e3 ⊢
  rw [e1, e2, e3]; omega
end Go.Proofs.Ytbpnpceikbedbaa.Cn
