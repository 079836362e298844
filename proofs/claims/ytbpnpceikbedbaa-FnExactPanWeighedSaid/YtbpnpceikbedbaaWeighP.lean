
/- The first weighing: the plain laws; no program in sight. -/
namespace Go.Proofs.Ytbpnpceikbedbaa.Wg
set_option linter.unusedVariables false
/-- The first list of signs, in the order of lists, with which the weights make v. -/
def firstW : List Int → Int → Option (List Int)
  | [], v => if v = 0 then some [] else none
  | x :: a, v => match firstW a (v + x) with
    | some r => some (-1 :: r)
    | none => match firstW a v with
      | some r => some (0 :: r)
      | none => match firstW a (v - x) with
        | some r => some (1 :: r)
        | none => none
theorem firstW_nil (v : Int) : firstW [] v = if v = 0 then some [] else none := rfl
theorem firstW_m {x : Int} {a : List Int} {v : Int} {r : List Int} (h : firstW a (v + x) = some r) : firstW (x :: a) v = some (-1 :: r) := by simp [firstW, h]
theorem firstW_z {x : Int} {a : List Int} {v : Int} {r : List Int} (h1 : firstW a (v + x) = none) (h : firstW a v = some r) : firstW (x :: a) v = some (0 :: r) := by simp [firstW, h1, h]
theorem firstW_p {x : Int} {a : List Int} {v : Int} {r : List Int} (h1 : firstW a (v + x) = none) (h2 : firstW a v = none) (h : firstW a (v - x) = some r) : firstW (x :: a) v = some (1 :: r) := by simp [firstW, h1, h2, h]
theorem firstW_no {x : Int} {a : List Int} {v : Int} (h1 : firstW a (v + x) = none) (h2 : firstW a v = none) (h3 : firstW a (v - x) = none) : firstW (x :: a) v = none := by simp [firstW, h1, h2, h3]
theorem firstW_len : ∀ {a : List Int} {v : Int} {r : List Int}, firstW a v = some r → r.length = a.length
  | [], v, r, h => by
    rw [firstW_nil] at h
    split at h <;> simp at h
    subst h; rfl
  | x :: a, v, r, h => by
    cases h1 : firstW a (v + x) with
    | some s => rw [firstW_m h1] at h; cases h; simp [firstW_len h1]
    | none =>
      cases h2 : firstW a v with
      | some s => rw [firstW_z h1 h2] at h; cases h; simp [firstW_len h2]
      | none =>
        cases h3 : firstW a (v - x) with
        | some s => rw [firstW_p h1 h2 h3] at h; cases h; simp [firstW_len h3]
        | none => rw [firstW_no h1 h2 h3] at h; cases h
/-- No weighing goes beyond the sum. -/
theorem firstW_far : ∀ {a : List Int} {v : Int}, (∀ x ∈ a, 0 ≤ x) → (a.sum < v ∨ a.sum < -v) → firstW a v = none
  | [], v, _, h => by rw [firstW_nil, if_neg (by simp at h; omega)]
  | x :: a, v, hx, h => by
    have h0 := hx x (by simp)
    have ha : ∀ y ∈ a, 0 ≤ y := fun y hy => hx y (by simp [hy])
    rw [List.sum_cons] at h
    exact firstW_no (firstW_far ha (by omega)) (firstW_far ha (by omega)) (firstW_far ha (by omega))
end Go.Proofs.Ytbpnpceikbedbaa.Wg
