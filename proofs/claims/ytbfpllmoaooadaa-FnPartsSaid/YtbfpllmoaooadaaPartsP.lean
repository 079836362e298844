
/- Two sorted lists without the numbers that stand in both: the plain laws; no program in sight. -/
import Derived.Test.YtbfpllmoaooadaaNewt
namespace Go.Proofs.Ytbfpllmoaooadaa.Pt
set_option linter.unusedVariables false
/-- What is left of both, in pairs dropped. -/
def parts : List Int → List Int → List Int × List Int
  | [], ys => ([], ys)
  | xs, [] => (xs, [])
  | x :: xs, y :: ys => if x < y then let r := parts xs (y :: ys); (x :: r.1, r.2) else if y < x then let r := parts (x :: xs) ys; (r.1, y :: r.2) else parts xs ys
termination_by xs ys => xs.length + ys.length
theorem parts_nil (ys : List Int) : parts [] ys = ([], ys) := by unfold parts; rfl
theorem parts_nil' (xs : List Int) : parts xs [] = (xs, []) := by cases xs <;> (unfold parts; rfl)
theorem parts_lt {x y : Int} (xs ys : List Int) (h : x < y) : parts (x :: xs) (y :: ys) = (x :: (parts xs (y :: ys)).1, (parts xs (y :: ys)).2) := by
  rw [parts]; simp [h]
theorem parts_gt {x y : Int} (xs ys : List Int) (h : y < x) : parts (x :: xs) (y :: ys) = ((parts (x :: xs) ys).1, y :: (parts (x :: xs) ys).2) := by
  rw [parts]; simp [h, show ¬ x < y by omega]
theorem parts_eq {x : Int} (xs ys : List Int) : parts (x :: xs) (x :: ys) = parts xs ys := by
  rw [parts]; simp
/-- Three cases. -/
theorem parts_ind {P : List Int → List Int → Prop} (h1 : ∀ ys, P [] ys) (h2 : ∀ xs, P xs []) (h3 : ∀ x xs y ys, x < y → P xs (y :: ys) → P (x :: xs) (y :: ys)) (h4 : ∀ x xs y ys, y < x → P (x :: xs) ys → P (x :: xs) (y :: ys)) (h5 : ∀ x xs ys, P xs ys → P (x :: xs) (x :: ys)) : ∀ xs ys, P xs ys := by
  have key : ∀ n xs ys, xs.length + ys.length ≤ n → P xs ys := by
    intro n
    induction n with
    | zero =>
      intro xs ys h
      cases xs with
      | nil => exact h1 _
      | cons x xs => simp at h
    | succ n ih =>
      intro xs ys h
      match xs, ys, h with
      | [], ys, _ => exact h1 _
      | xs, [], _ => exact h2 _
      | x :: xs, y :: ys, h =>
        simp only [List.length_cons] at h
        by_cases a : x < y
        · exact h3 _ _ _ _ a (ih _ _ (by simp; omega))
        · by_cases b : y < x
          · exact h4 _ _ _ _ b (ih _ _ (by simp; omega))
          · obtain rfl : x = y := by omega
            exact h5 _ _ _ (ih _ _ (by omega))
  exact fun xs ys => key _ xs ys (Nat.le_refl _)
theorem parts_len : ∀ xs ys, (parts xs ys).1.length ≤ xs.length ∧ (parts xs ys).2.length ≤ ys.length := by
  apply parts_ind
  · intro ys; rw [parts_nil]; simp
  · intro xs; rw [parts_nil']; simp
  · intro x xs y ys h ih; rw [parts_lt _ _ h]; simp at ih ⊢; omega
  · intro x xs y ys h ih; rw [parts_gt _ _ h]; simp at ih ⊢; omega
  · intro x xs ys ih; rw [parts_eq]; simp at ih ⊢; omega
theorem parts_sub : ∀ xs ys, (parts xs ys).1.Sublist xs ∧ (parts xs ys).2.Sublist ys := by
  apply parts_ind
  · intro ys; rw [parts_nil]; simp
  · intro xs; rw [parts_nil']; simp
  · intro x xs y ys h ih; rw [parts_lt _ _ h]; exact ⟨ih.1.cons_cons x, ih.2⟩
  · intro x xs y ys h ih; rw [parts_gt _ _ h]; exact ⟨ih.1, ih.2.cons_cons y⟩
  · intro x xs ys ih; rw [parts_eq]; exact ⟨ih.1.cons x, ih.2.cons x⟩
theorem parts_ps (k : Nat) : ∀ xs ys, Nw.ps k (parts xs ys).1 - Nw.ps k (parts xs ys).2 = Nw.ps k xs - Nw.ps k ys := by
  apply parts_ind
  · intro ys; rw [parts_nil]
  · intro xs; rw [parts_nil']
  · intro x xs y ys h ih; rw [parts_lt _ _ h]; simp at ih ⊢; omega
  · intro x xs y ys h ih; rw [parts_gt _ _ h]; simp at ih ⊢; omega
  · intro x xs ys ih; rw [parts_eq]; simp at ih ⊢; omega
theorem parts_apart : ∀ xs ys, xs.Pairwise (fun a b => a ≤ b) → ys.Pairwise (fun a b => a ≤ b) → ∀ z, z ∈ (parts xs ys).1 → z ∈ (parts xs ys).2 → False := by
  apply parts_ind
  · intro ys _ _ z h; rw [parts_nil] at h; simp at h
  · intro xs _ _ z _ h; rw [parts_nil'] at h; simp at h
  · intro x xs y ys h ih hx hy z h1 h2
    rw [parts_lt _ _ h] at h1 h2
    simp only [List.mem_cons] at h1
    rcases h1 with rfl | h1
    · have hm := (parts_sub xs (y :: ys)).2.subset h2
      simp only [List.mem_cons] at hm
      rcases hm with hm | hm
      · omega
      · have := (List.pairwise_cons.1 hy).1 _ hm; omega
    · exact ih (List.pairwise_cons.1 hx).2 hy z h1 h2
  · intro x xs y ys h ih hx hy z h1 h2
    rw [parts_gt _ _ h] at h1 h2
    simp only [List.mem_cons] at h2
    rcases h2 with rfl | h2
    · have hm := (parts_sub (x :: xs) ys).1.subset h1
      simp only [List.mem_cons] at hm
      rcases hm with hm | hm
      · omega
      · have := (List.pairwise_cons.1 hx).1 _ hm; omega
    · exact ih hx (List.pairwise_cons.1 hy).2 z h1 h2
  · intro x xs ys ih hx hy z h1 h2
    rw [parts_eq] at h1 h2
    exact ih (List.pairwise_cons.1 hx).2 (List.pairwise_cons.1 hy).2 z h1 h2
/-- Nothing is dropped just where no number stands in both. -/
theorem parts_all : ∀ xs ys, xs.Pairwise (fun a b => a ≤ b) → ys.Pairwise (fun a b => a ≤ b) → ((parts xs ys).1.length = xs.length ↔ ∀ z, z ∈ xs → z ∈ ys → False) := by
  apply parts_ind
  · intro ys _ _; rw [parts_nil]; simp
  · intro xs _ _; rw [parts_nil']; simp
  · intro x xs y ys h ih hx hy
    rw [parts_lt _ _ h]
    simp only [List.length_cons]
    have ih' := ih (List.pairwise_cons.1 hx).2 hy
    constructor
    · intro hl z h1 h2
      rcases List.mem_cons.1 h1 with rfl | h1
      · rcases List.mem_cons.1 h2 with rfl | h2
        · omega
        · have := (List.pairwise_cons.1 hy).1 _ h2; omega
      · exact ih'.1 (by omega) z h1 h2
    · intro hz
      have := ih'.2 (fun z h1 h2 => hz z (by simp [h1]) h2)
      omega
  · intro x xs y ys h ih hx hy
    rw [parts_gt _ _ h]
    have ih' := ih hx (List.pairwise_cons.1 hy).2
    constructor
    · intro hl z h1 h2
      rcases List.mem_cons.1 h2 with rfl | h2
      · rcases List.mem_cons.1 h1 with rfl | h1
        · omega
        · have := (List.pairwise_cons.1 hx).1 _ h1; omega
      · exact ih'.1 hl z h1 h2
    · intro hz
      exact ih'.2 (fun z h1 h2 => hz z h1 (by simp [h2]))
  · intro x xs ys ih hx hy
    rw [parts_eq]
    constructor
    · intro hl
      have := (parts_len xs ys).1
      simp at hl
      omega
    · intro hz
      exact absurd (hz x (by simp) (by simp)) (by simp)
/-- One step in the middle of both. -/
theorem parts_at {xs ys : List Int} {i j : Nat} (hi : i < xs.length) (hj : j < ys.length) :
    (xs.getD i 0 < ys.getD j 0 → parts (xs.drop i) (ys.drop j) = (xs.getD i 0 :: (parts (xs.drop (i + 1)) (ys.drop j)).1, (parts (xs.drop (i + 1)) (ys.drop j)).2)) ∧
    (ys.getD j 0 < xs.getD i 0 → parts (xs.drop i) (ys.drop j) = ((parts (xs.drop i) (ys.drop (j + 1))).1, ys.getD j 0 :: (parts (xs.drop i) (ys.drop (j + 1))).2)) ∧
    (xs.getD i 0 = ys.getD j 0 → parts (xs.drop i) (ys.drop j) = parts (xs.drop (i + 1)) (ys.drop (j + 1))) := by
  have e1 : xs.drop i = xs.getD i 0 :: xs.drop (i + 1) := by rw [List.drop_eq_getElem_cons hi]; simp [List.getD, hi]
  have e2 : ys.drop j = ys.getD j 0 :: ys.drop (j + 1) := by rw [List.drop_eq_getElem_cons hj]; simp [List.getD, hj]
  refine ⟨fun h => ?_, fun h => ?_, fun h => ?_⟩
  · rw [e1, e2, parts_lt _ _ h]
  · rw [e1, e2, parts_gt _ _ h]
  · rw [e1, e2, h, parts_eq]
theorem drop_cons {xs : List Int} {i : Nat} (hi : i < xs.length) : xs.drop i = xs.getD i 0 :: xs.drop (i + 1) := by rw [List.drop_eq_getElem_cons hi]; simp [List.getD, hi]
theorem parts_end1 {xs ys : List Int} {i j : Nat} (hi : i < xs.length) (hj : ys.length ≤ j) :
    parts (xs.drop i) (ys.drop j) = (xs.getD i 0 :: (parts (xs.drop (i + 1)) (ys.drop j)).1, (parts (xs.drop (i + 1)) (ys.drop j)).2) := by
  rw [List.drop_of_length_le hj, parts_nil', parts_nil', drop_cons hi]
theorem parts_end2 {xs ys : List Int} {i j : Nat} (hi : xs.length ≤ i) (hj : j < ys.length) :
    parts (xs.drop i) (ys.drop j) = ((parts (xs.drop i) (ys.drop (j + 1))).1, ys.getD j 0 :: (parts (xs.drop i) (ys.drop (j + 1))).2) := by
  rw [List.drop_of_length_le hi, parts_nil, parts_nil, drop_cons hj]
/-- What has come of both when i and j are reached. -/
def To (xs ys : List Int) (i j : Nat) (F S : List Int) : Prop := parts xs ys = (F ++ (parts (xs.drop i) (ys.drop j)).1, S ++ (parts (xs.drop i) (ys.drop j)).2)
theorem to_zero (xs ys : List Int) : To xs ys 0 0 [] [] := by simp [To]
theorem To.left {xs ys F S : List Int} {i j : Nat} (h : To xs ys i j F S) (hi : i < xs.length) (hc : ys.length ≤ j ∨ j < ys.length ∧ xs.getD i 0 < ys.getD j 0) : To xs ys (i + 1) j (F ++ [xs.getD i 0]) S := by
  unfold To at h ⊢
  rcases hc with hc | ⟨hj, hc⟩
  · rw [parts_end1 hi hc] at h
    rw [h]; simp
  · rw [(parts_at hi hj).1 hc] at h
    rw [h]; simp
theorem To.right {xs ys F S : List Int} {i j : Nat} (h : To xs ys i j F S) (hj : j < ys.length) (hc : xs.length ≤ i ∨ i < xs.length ∧ ys.getD j 0 < xs.getD i 0) : To xs ys i (j + 1) F (S ++ [ys.getD j 0]) := by
  unfold To at h ⊢
  rcases hc with hc | ⟨hi, hc⟩
  · rw [parts_end2 hc hj] at h
    rw [h]; simp
  · rw [(parts_at hi hj).2.1 hc] at h
    rw [h]; simp
theorem To.both {xs ys F S : List Int} {i j : Nat} (h : To xs ys i j F S) (hi : i < xs.length) (hj : j < ys.length) (hc : xs.getD i 0 = ys.getD j 0) : To xs ys (i + 1) (j + 1) F S := by
  unfold To at h ⊢
  rw [(parts_at hi hj).2.2 hc] at h
  exact h
theorem To.done {xs ys F S : List Int} {i j : Nat} (h : To xs ys i j F S) (hi : xs.length ≤ i ∨ ys.length ≤ j) : parts xs ys = (F ++ xs.drop i, S ++ ys.drop j) := by
  unfold To at h
  rw [h]
  rcases hi with hi | hi
  · rw [List.drop_of_length_le hi, parts_nil]
  · rw [List.drop_of_length_le hi, parts_nil']
end Go.Proofs.Ytbfpllmoaooadaa.Pt
