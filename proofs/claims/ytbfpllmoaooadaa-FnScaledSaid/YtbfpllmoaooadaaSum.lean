
/- Lists as told, and totals: both packages. -/
import Derived.Test.YtbfpllmoaooadaaIn
namespace Go.Proofs.Ytbfpllmoaooadaa
set_option linter.unusedVariables false
open Go.RowKit

/-- A value is handed back, the world is as it was. -/
def RetV (w : World) (v : Value) (e : Ending) (w' : World) : Prop := e = .returned v ∧ w = w'
/-- At most ten numbers, each from 1 to 60. -/
def sumIn (xs : List Int) : Bool := decide (xs.length ≤ 10) && xs.all fun x => decide (1 ≤ x ∧ x ≤ 60)
theorem sumIn_len {xs : List Int} (h : sumIn xs = true) : xs.length ≤ 10 := by simp [sumIn] at h; exact h.1
theorem sumIn_get {xs : List Int} (h : sumIn xs = true) : ∀ x ∈ xs, 1 ≤ x ∧ x ≤ 60 := by
  simp [sumIn] at h
  exact h.2
theorem sumIn_true {xs : List Int} (h1 : xs.length ≤ 10) (h : ∀ x ∈ xs, 1 ≤ x ∧ x ≤ 60) : sumIn xs = true := by
  simp only [sumIn, Bool.and_eq_true, decide_eq_true_eq, List.all_eq_true]
  exact ⟨h1, h⟩
theorem sumIn_false_len {xs : List Int} (h : 10 < xs.length) : sumIn xs = false := by
  simp only [sumIn, Bool.and_eq_false_iff, decide_eq_false_iff_not]
  left; omega
theorem getD_mem {xs : List Int} {k : Nat} (h : k < xs.length) : xs.getD k 0 ∈ xs := by
  simp [List.getD, h]
theorem sumIn_false_at {xs : List Int} {k : Nat} (hk : k < xs.length) (h : ¬ (1 ≤ xs.getD k 0 ∧ xs.getD k 0 ≤ 60)) : sumIn xs = false := by
  rw [Bool.eq_false_iff]
  intro ht
  exact h (sumIn_get ht _ (getD_mem hk))
theorem all_of_getD {xs : List Int} {p : Int → Prop} (h : ∀ j, j < xs.length → p (xs.getD j 0)) : ∀ x ∈ xs, p x := by
  intro x hx
  obtain ⟨j, hj, rfl⟩ := List.mem_iff_getElem.1 hx
  have := h j hj
  simpa [List.getD, hj] using this
theorem ret_bool {b c : Bool} (h : b = c) : Ending.returned (.bool b) = .returned (.bool c) := by rw [h]
theorem ret_int {a b : Int} (h : a = b) : Ending.returned (.int .i64 a) = .returned (.int .i64 b) := by rw [h]


/-- The sum as the machine adds it. -/
def wsum : List Int → Int → Int
  | [], s => s
  | x :: l, s => wsum l (wrap64 (s + x))
theorem wsum_snoc : ∀ (l : List Int) (x s : Int), wsum (l ++ [x]) s = wrap64 (wsum l s + x)
  | [], x, s => rfl
  | y :: l, x, s => wsum_snoc l x _
theorem take_succ_getD {xs : List Int} {k : Nat} (h : k < xs.length) : xs.take (k + 1) = xs.take k ++ [xs.getD k 0] := by
  rw [List.take_succ_eq_append_getElem h]
  simp [List.getD, h]
theorem wsum_take {xs : List Int} {k : Nat} (h : k < xs.length) (s : Int) : wsum (xs.take (k + 1)) s = wrap64 (wsum (xs.take k) s + xs.getD k 0) := by
  rw [take_succ_getD h, wsum_snoc]
end Go.Proofs.Ytbfpllmoaooadaa
