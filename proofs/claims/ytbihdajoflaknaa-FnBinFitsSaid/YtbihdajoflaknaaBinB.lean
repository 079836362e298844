
/- impl.BinBound. -/
import Derived.Test.YtbihdajoflaknaaBinA
import Derived.Test.YtbihdajoflaknaaBinQ
namespace Go.Proofs.Ytbihdajoflaknaa
set_option linter.unusedVariables false
open Go.RowKit
theorem ret_ib {a a' : Int} {b : Bool} (h : a = a') : Ending.returned (.tuple #[.int .i64 a, .bool b]) = .returned (.tuple #[.int .i64 a', .bool b]) := by rw [h]
theorem wsum_tot : ∀ (xs : List Int) (s : Int), (∀ x ∈ xs, 1 ≤ x ∧ x ≤ 60) → 0 ≤ s → s + 60 * xs.length ≤ 1000000000 → wsum xs s = s + Pk.tot xs
  | [], s, _, _, _ => by simp [wsum]
  | x :: l, s, h, h0, h1 => by
    have hx := h x (by simp)
    simp only [List.length_cons] at h1
    have e : wrap64 (s + x) = s + x := IntWalk.wrap64_in _ (by omega)
    rw [wsum, e, wsum_tot l (s + x) (fun y hy => h y (by simp [hy])) (by omega) (by omega), Pk.tot_cons]
    omega
theorem tot_len : ∀ (xs : List Int), (∀ x ∈ xs, 1 ≤ x ∧ x ≤ 60) → 0 ≤ Pk.tot xs ∧ Pk.tot xs ≤ 60 * xs.length
  | [], _ => by simp
  | x :: l, h => by
    have hx := h x (by simp)
    have := tot_len l (fun y hy => h y (by simp [hy]))
    simp only [Pk.tot_cons, List.length_cons]
    omega
/-- Great numbers. -/
def grt (C : Int) (xs : List Int) : Nat := (xs.filter fun x => decide (C < 2 * x)).length
theorem grt_snoc (C : Int) (xs : List Int) (x : Int) : grt C (xs ++ [x]) = grt C xs + if C < 2 * x then 1 else 0 := by
  unfold grt
  rw [List.filter_append, List.length_append]
  by_cases h : C < 2 * x <;> simp [h]
theorem grt_len (C : Int) (xs : List Int) : grt C xs ≤ xs.length := List.length_filter_le _ _
/-- The bound. -/
def bbnd (C : Int) (xs : List Int) : Int := max ((Pk.tot xs + C - 1) / C) (grt C xs)
/-- The least number and the bound. -/
theorem bbnd_least {C : Int} {xs : List Int} {k : Nat} (h1 : ∀ x ∈ xs, 1 ≤ x ∧ x ≤ 60) (hC : ∀ x ∈ xs, x ≤ C) (hC1 : 1 ≤ C) (h : Pk.IsLeast C xs k) : bbnd C xs ≤ k ∧ (k : Int) ≤ 2 * bbnd C xs := by
  have hv := Pk.least_volume h
  have hg := Pk.least_great (C := C) (fun x hm => by have := h1 x hm; omega) h
  have ht := tot_len xs h1
  have hdm := Int.ediv_mul_add_emod (Pk.tot xs + C - 1) C
  have hm0 := Int.emod_nonneg (Pk.tot xs + C - 1) (show C ≠ 0 by omega)
  have hm1 := Int.emod_lt_of_pos (Pk.tot xs + C - 1) (show 0 < C by omega)
  have hq0 : 0 ≤ (Pk.tot xs + C - 1) / C := Int.ediv_nonneg (by omega) (by omega)
  have hle : (Pk.tot xs + C - 1) / C ≤ k := by
    have : (Pk.tot xs + C - 1) / C < (k : Int) + 1 := Int.ediv_lt_of_lt_mul (by omega) (by rw [Int.add_mul]; omega)
    omega
  obtain ⟨v, hve⟩ := Int.eq_ofNat_of_zero_le hq0
  have h2 := Pk.least_bound (C := C) (xs := xs) (by omega) (fun x hm => ⟨by have := h1 x hm; omega, hC x hm⟩) h (v := v) (by rw [← hve]; omega) (fun e => by
    subst e
    have : (Pk.tot [] + C - 1) / C = 0 := Int.ediv_eq_zero_of_lt (by simp; omega) (by simp; omega)
    omega)
  unfold bbnd
  unfold grt
  generalize (xs.filter fun x => decide (C < 2 * x)).length = gg at *
  rw [hve] at hle ⊢
  omega
end Go.Proofs.Ytbihdajoflaknaa
