
/- Power sums of moved, scaled and spread lists; no program in sight. -/
import Derived.Test.YtbfpllmoaooadaaNewt
namespace Go.Proofs.Ytbfpllmoaooadaa.Nw
set_option linter.unusedVariables false
/-- The sum of x^m (x+t)^k. -/
def mom (m k : Nat) (t : Int) : List Int → Int
  | [] => 0
  | x :: l => x ^ m * (x + t) ^ k + mom m k t l
theorem mom_zero (m : Nat) (t : Int) (l : List Int) : mom m 0 t l = ps m l := by
  induction l with
  | nil => rfl
  | cons x l ih => rw [mom, ps_cons, ih, Int.pow_zero, Int.mul_one]
theorem mom_ps (k : Nat) (t : Int) (l : List Int) : mom 0 k t l = ps k (l.map (fun x => x + t)) := by
  induction l with
  | nil => rfl
  | cons x l ih => rw [mom, List.map_cons, ps_cons, ih, Int.pow_zero, Int.one_mul]
theorem mom_succ (m k : Nat) (t : Int) (l : List Int) : mom m (k + 1) t l = mom (m + 1) k t l + t * mom m k t l := by
  induction l with
  | nil => simp [mom]
  | cons x l ih =>
    rw [mom, mom, mom, ih, Int.pow_succ, Int.pow_succ]
    grind
theorem mom_eq {a b : List Int} {d : Nat} (t : Int) (h : ∀ j, j ≤ d → ps j a = ps j b) : ∀ k m, m + k ≤ d → mom m k t a = mom m k t b := by
  intro k
  induction k with
  | zero => intro m hm; rw [mom_zero, mom_zero, h m (by omega)]
  | succ k ih => intro m hm; rw [mom_succ, mom_succ, ih (m + 1) (by omega), ih m (by omega)]
theorem mom_next {a b : List Int} {d : Nat} (t : Int) (h : ∀ j, j < d → ps j a = ps j b) : ∀ k m, m + k = d → mom m k t a - mom m k t b = ps d a - ps d b := by
  intro k
  induction k with
  | zero => intro m hm; rw [mom_zero, mom_zero, show m = d by omega]
  | succ k ih =>
    intro m hm
    have e1 := ih (m + 1) (by omega)
    have e2 : mom m k t a = mom m k t b := by
      cases d with
      | zero => omega
      | succ d => exact mom_eq (d := d) t (fun j hj => h j (by omega)) k m (by omega)
    rw [mom_succ, mom_succ, e2]
    omega
/-- Moved lists: the first power sum that differs, differs as before. -/
theorem ps_moved {a b : List Int} {d : Nat} (t : Int) (h : ∀ j, j < d → ps j a = ps j b) : ps d (a.map (fun x => x + t)) - ps d (b.map (fun x => x + t)) = ps d a - ps d b := by
  rw [← mom_ps, ← mom_ps]; exact mom_next t h d 0 (by omega)
theorem ps_moved_lt {a b : List Int} {d : Nat} (t : Int) (h : ∀ j, j < d → ps j a = ps j b) : ∀ j, j < d → ps j (a.map (fun x => x + t)) = ps j (b.map (fun x => x + t)) := fun j hj => by
  have := ps_moved (d := j) t (fun i hi => h i (by omega))
  have := h j hj
  omega
theorem ps_scaled (t : Int) (k : Nat) (l : List Int) : ps k (l.map (fun x => x * t)) = t ^ k * ps k l := by
  induction l with
  | nil => simp
  | cons x l ih => rw [List.map_cons, ps_cons, ps_cons, ih, Int.mul_pow, Int.mul_add, Int.mul_comm (x ^ k)]
/-- Spread lists: equal to one power more. -/
theorem ps_spread {a b : List Int} {d : Nat} (t : Int) (h : ∀ j, j < d → ps j a = ps j b) : ∀ j, j ≤ d → ps j (a ++ b.map (fun x => x + t)) = ps j (b ++ a.map (fun x => x + t)) := fun j hj => by
  rw [ps_append, ps_append]
  have := ps_moved (d := j) t (fun i hi => h i (by omega))
  omega
theorem ps_one_moved (t : Int) (l : List Int) : ps 1 (l.map (fun x => x + t)) = ps 1 l + t * l.length := by
  induction l with
  | nil => simp
  | cons x l ih => rw [List.map_cons, ps_cons, ps_cons, ih, List.length_cons]; grind
theorem moved_back (t : Int) (l : List Int) : (l.map (fun x => x + t)).map (fun x => x + (0 - t)) = l := by
  rw [List.map_map]
  conv => rhs; rw [← List.map_id l]
  apply List.map_congr_left
  intro x _
  simp [Function.comp]
  omega
end Go.Proofs.Ytbfpllmoaooadaa.Nw
