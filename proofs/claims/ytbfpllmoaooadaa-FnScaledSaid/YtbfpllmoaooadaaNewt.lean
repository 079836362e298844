
/- Sums of powers tell at most six numbers: Newton's identities up to 6; no program in sight. -/
namespace Go.Proofs.Ytbfpllmoaooadaa.Nw
set_option linter.unusedVariables false

/-- The sum of the k-th powers. -/
def ps (k : Nat) : List Int → Int
  | [] => 0
  | x :: l => x ^ k + ps k l
@[simp] theorem ps_nil (k : Nat) : ps k [] = 0 := rfl
@[simp] theorem ps_cons (k : Nat) (x : Int) (l : List Int) : ps k (x :: l) = x ^ k + ps k l := rfl
theorem ps_append (k : Nat) (a b : List Int) : ps k (a ++ b) = ps k a + ps k b := by
  induction a with
  | nil => simp
  | cons x a ih => simp [ih]; omega
theorem ps_perm (k : Nat) {a b : List Int} (h : a.Perm b) : ps k a = ps k b := by
  induction h with
  | nil => rfl
  | cons x _ ih => simp [ih]
  | swap x y l => simp; omega
  | trans _ _ h1 h2 => exact h1.trans h2
theorem ps_zero (l : List Int) : ps 0 l = l.length := by
  induction l with
  | nil => rfl
  | cons x l ih => simp [ih]; omega

/-- The elementary symmetric sums. -/
def es : Nat → List Int → Int
  | 0, _ => 1
  | _ + 1, [] => 0
  | k + 1, x :: l => es (k + 1) l + x * es k l
theorem es_zero (l : List Int) : es 0 l = 1 := by cases l <;> rfl
theorem es_cons (k : Nat) (x : Int) (l : List Int) : es (k + 1) (x :: l) = es (k + 1) l + x * es k l := rfl
theorem es_big : ∀ (l : List Int) (k : Nat), l.length < k → es k l = 0
  | [], k + 1, _ => rfl
  | x :: l, k + 1, h => by
    simp only [List.length_cons] at h
    rw [es_cons, es_big l (k + 1) (by omega), es_big l k (by omega)]; simp

theorem newton1 (l : List Int) : es 1 l = ps 1 l := by
  induction l with
  | nil => rfl
  | cons x l ih => rw [es_cons, ps_cons, ih, es_zero]; grind
theorem newton2 (l : List Int) : 2 * es 2 l = es 1 l * ps 1 l - ps 2 l := by
  induction l with
  | nil => rfl
  | cons x l ih =>
    have h1 := newton1 l
    rw [es_cons, es_cons, ps_cons, ps_cons, es_zero]
    grind
theorem newton3 (l : List Int) : 3 * es 3 l = es 2 l * ps 1 l - es 1 l * ps 2 l + ps 3 l := by
  induction l with
  | nil => rfl
  | cons x l ih =>
    have h1 := newton1 l
    have h2 := newton2 l
    rw [es_cons, es_cons, es_cons, ps_cons, ps_cons, ps_cons, es_zero]
    grind
theorem newton4 (l : List Int) : 4 * es 4 l = es 3 l * ps 1 l - es 2 l * ps 2 l + es 1 l * ps 3 l - ps 4 l := by
  induction l with
  | nil => rfl
  | cons x l ih =>
    have h3 := newton3 l
    rw [es_cons, es_cons, es_cons, es_cons, ps_cons, ps_cons, ps_cons, ps_cons, es_zero]
    grind
theorem newton5 (l : List Int) : 5 * es 5 l = es 4 l * ps 1 l - es 3 l * ps 2 l + es 2 l * ps 3 l - es 1 l * ps 4 l + ps 5 l := by
  induction l with
  | nil => rfl
  | cons x l ih =>
    have h4 := newton4 l
    rw [es_cons, es_cons, es_cons, es_cons, es_cons, ps_cons, ps_cons, ps_cons, ps_cons, ps_cons, es_zero]
    grind
theorem newton6 (l : List Int) : 6 * es 6 l = es 5 l * ps 1 l - es 4 l * ps 2 l + es 3 l * ps 3 l - es 2 l * ps 4 l + es 1 l * ps 5 l - ps 6 l := by
  induction l with
  | nil => rfl
  | cons x l ih =>
    have h5 := newton5 l
    rw [es_cons, es_cons, es_cons, es_cons, es_cons, es_cons, ps_cons, ps_cons, ps_cons, ps_cons, ps_cons, ps_cons, es_zero]
    grind

/-- The product of z - x over the list. -/
def pr (z : Int) : List Int → Int
  | [] => 1
  | x :: l => (z - x) * pr z l
theorem pr_zero_mem {z : Int} : ∀ {l : List Int}, pr z l = 0 → z ∈ l
  | [], h => by simp [pr] at h
  | x :: l, h => by
    simp only [pr] at h
    rcases Int.mul_eq_zero.1 h with h | h
    · have : z = x := by omega
      simp [this]
    · simp [pr_zero_mem h]
theorem pr_mem_zero {z : Int} : ∀ {l : List Int}, z ∈ l → pr z l = 0
  | x :: l, h => by
    simp only [pr]
    rcases List.mem_cons.1 h with rfl | h
    · simp
    · rw [pr_mem_zero h]; simp
/-- The same product out of the symmetric sums. -/
def sg : Nat → Int
  | 0 => 1
  | k + 1 => - sg k
def po (z : Int) (l : List Int) : Nat → Int
  | 0 => 1
  | m + 1 => z * po z l m + sg (m + 1) * es (m + 1) l
theorem po_cons (z x : Int) (l : List Int) (m : Nat) : po z (x :: l) (m + 1) = po z l (m + 1) - x * po z l m := by
  induction m with
  | zero => simp only [po, es_cons, sg, es_zero]; grind
  | succ m ih =>
    rw [po, ih, es_cons]
    simp only [po, sg]
    grind
theorem po_pr (z : Int) (l : List Int) : po z l l.length = pr z l := by
  induction l with
  | nil => rfl
  | cons x l ih =>
    rw [List.length_cons, po_cons, po, es_big l (l.length + 1) (by omega), ih, pr]
    grind
/-- As many numbers as powers that agree: the two lists have a number in both. -/
theorem meet_of_powers {a b : List Int} {d : Nat} (hlen : a.length = b.length) (hne : a ≠ []) (hd : a.length ≤ d) (h6 : d ≤ 6) (h : ∀ k, k ≤ d → ps k a = ps k b) : ∃ x, x ∈ a ∧ x ∈ b := by
  have e : ∀ k, k ≤ d → es k a = es k b := by
    have n1a := newton1 a; have n1b := newton1 b
    have n2a := newton2 a; have n2b := newton2 b
    have n3a := newton3 a; have n3b := newton3 b
    have n4a := newton4 a; have n4b := newton4 b
    have n5a := newton5 a; have n5b := newton5 b
    have n6a := newton6 a; have n6b := newton6 b
    have e1 : 1 ≤ d → es 1 a = es 1 b := fun hk => by rw [n1a, n1b, h 1 hk]
    have e2 : 2 ≤ d → es 2 a = es 2 b := fun hk => by
      rw [e1 (by omega), h 1 (by omega), h 2 hk] at n2a; omega
    have e3 : 3 ≤ d → es 3 a = es 3 b := fun hk => by
      rw [e1 (by omega), e2 (by omega), h 1 (by omega), h 2 (by omega), h 3 hk] at n3a; omega
    have e4 : 4 ≤ d → es 4 a = es 4 b := fun hk => by
      rw [e1 (by omega), e2 (by omega), e3 (by omega), h 1 (by omega), h 2 (by omega), h 3 (by omega), h 4 hk] at n4a; omega
    have e5 : 5 ≤ d → es 5 a = es 5 b := fun hk => by
      rw [e1 (by omega), e2 (by omega), e3 (by omega), e4 (by omega), h 1 (by omega), h 2 (by omega), h 3 (by omega), h 4 (by omega), h 5 hk] at n5a; omega
    have e6 : 6 ≤ d → es 6 a = es 6 b := fun hk => by
      rw [e1 (by omega), e2 (by omega), e3 (by omega), e4 (by omega), e5 (by omega), h 1 (by omega), h 2 (by omega), h 3 (by omega), h 4 (by omega), h 5 (by omega), h 6 hk] at n6a; omega
    intro k hk
    have : k = 0 ∨ k = 1 ∨ k = 2 ∨ k = 3 ∨ k = 4 ∨ k = 5 ∨ k = 6 := by omega
    rcases this with rfl | rfl | rfl | rfl | rfl | rfl | rfl
    · rw [es_zero, es_zero]
    · exact e1 hk
    · exact e2 hk
    · exact e3 hk
    · exact e4 hk
    · exact e5 hk
    · exact e6 hk
  have p : ∀ z m, m ≤ d → po z a m = po z b m := by
    intro z m
    induction m with
    | zero => intro _; rfl
    | succ m ih => intro hm; rw [po, po, ih (by omega), e (m + 1) hm]
  match a, hne with
  | x :: l, _ =>
    refine ⟨x, by simp, ?_⟩
    apply pr_zero_mem
    rw [← po_pr, ← hlen, ← p x _ hd, po_pr]
    exact pr_mem_zero (by simp)
end Go.Proofs.Ytbfpllmoaooadaa.Nw
