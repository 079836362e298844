
/- impl.BinBound. -/
import Derived.Test.YtmnjablknjijbaaBinA
import Derived.Test.YtmnjablknjijbaaBinQ
namespace Go.Proofs.Ytmnjablknjijbaa
set_option linter.unusedVariables false
open Go.RowKit
theorem ret_ib {a a' : Int} {b : Bool} (h : a = a') : Ending.returned (.tuple #[.int .i64 a, .bool b]) = .returned (.tuple #[.int .i64 a', .bool b]) := by rw [h]
theorem wsum_tot : ∀ (xs : List Int) (s : Int), (∀ x ∈ xs, 1 ≤ x ∧ x ≤ 60) → 0 ≤ s → s + 60 * xs.length ≤ 1000000000 → wsum xs s = s + Pk.tot xs
  | [], s, _, _, _ => by simp [wsum]
  | x :: l, s, h, h0, h1 => by
    have hx := h x (by simp)
    simp only [List.length_cons] at h1
    have e : wrap64 (s + x) = s + x := IntWalk.wrap64_in _ (by omega)
    rw [wsum, e, wsum_tot l (s + x) (fun y hy => h y (by simp [hy])) (by omega) (by omega), Pk.tot_cons]
    omega
theorem tot_len : ∀ (xs : List Int), (∀ x ∈ xs, 1 ≤ x ∧ x ≤ 60) → 0 ≤ Pk.tot xs ∧ Pk.tot xs ≤ 60 * xs.length
  | [], _ => by simp
  | x :: l, h => by
    have hx := h x (by simp)
    have := tot_len l (fun y hy => h y (by simp [hy]))
    simp only [Pk.tot_cons, List.length_cons]
    omega
/-- Great numbers. -/
def grt (C : Int) (xs : List Int) : Nat := (xs.filter fun x => decide (C < 2 * x)).length
theorem grt_snoc (C : Int) (xs : List Int) (x : Int) : grt C (xs ++ [x]) = grt C xs + if C < 2 * x then 1 else 0 := by
  unfold grt
  rw [List.filter_append, List.length_append]
  by_cases h : C < 2 * x <;> simp [h]
theorem grt_len (C : Int) (xs : List Int) : grt C xs ≤ xs.length := List.length_filter_le _ _
/-- The bound. -/
def bbnd (C : Int) (xs : List Int) : Int := max ((Pk.tot xs + C - 1) / C) (grt C xs)
set_option maxHeartbeats 800000 in
theorem implBinBound_yes (A : Option Addr) (n c : Nat) (xs : List Int) (C : Int) (w : World) (ha : Rd w w.heap.size A n xs) (h : bnOk xs C = true) :
    Calls Try.prog 18 #[.slice A n c, .int .i64 C] w (RetIB w (bbnd C xs) true) := by
  obtain ⟨h1, h2, h3, h4, h5⟩ := bnOk_in h
  have hl := ha.len
  have hn : n ≤ 10 := by omega
  have ht := tot_len xs h2
  have hwt := wsum_tot xs 0 h2 (by omega) (by omega)
  obtain ⟨t, hte⟩ : ∃ t, Pk.tot xs = t := ⟨_, rfl⟩
  rw [hte] at ht hwt
  rw [Int.zero_add] at hwt
  obtain ⟨ht1, ht2⟩ := ht
  have hq : 0 ≤ (t + C - 1) / C := Int.ediv_nonneg (by omega) (by omega)
  obtain ⟨q, hqe⟩ : ∃ q, (t + C - 1) / C = q := ⟨_, rfl⟩
  have HB : Hid (bbnd C xs = max q (grt C xs)) := Lib.hid (by unfold bbnd; rw [hte, hqe])
  rw [hqe] at hq
  have HT := Lib.hid hwt
  have HQ := Lib.hid hqe
  have HA := Lib.hid ha
  have HH := Lib.hid h
  have HX := Lib.hid h2
  clear hte hqe ha h h2 h3 hwt
  go_enter Try.func18, Try.ntmps18
  go_wp2_with (go_at_call 38; refine (binsTold_any _ _ _ _ _ _ HA.out (by omega) _ HH.out).mono ?_; rintro e w' ⟨rfl, rfl⟩)
  go_loop [6, 15] (fun s i => ∃ k g : Nat, k ≤ n ∧ g ≤ k ∧ i = .int .i64 k ∧ s = .int .i64 g ∧ Hid (grt C (xs.take k) = g)) (fun _ i => n - (intOf i).toNat)
  case atStart => exact ⟨0, 0, by omega, by omega, rfl, rfl, rfl⟩
  case round =>
    obtain ⟨k, g, hk, hgk, rfl, rfl, HG⟩ := hrel
    by_cases hlt : k < n
    · obtain ⟨b1, o1, rfl, _, hc1⟩ := HA.out.at_ hlt
      have g1 := hc1 k hlt
      have HTT := Lib.hid (show grt C (xs.take (k + 1)) = grt C (xs.take k) + (if C < 2 * xs.getD k 0 then 1 else 0) from by rw [take_succ_getD (by omega)]; exact grt_snoc _ _ _)
      have hin := HX.out _ (getD_mem (show k < xs.length by omega))
      obtain ⟨x, hx⟩ : ∃ x, xs.getD k 0 = x := ⟨_, rfl⟩
      rw [hx] at g1 HTT hin
      obtain ⟨hx1, hx2⟩ := hin
      rw [HG.out] at HTT
      clear hc1 hx
      have m1 : IntKind.i64.wrap (2 * x) = 2 * x := IntWalk.i64_in _ (by omega)
      by_cases hg2 : C < 2 * x
      · have d : decide (C < 2 * x) = true := by simpa using hg2
        rw [if_pos hg2] at HTT
        go_wp2_with fail
        go_round
        case rel => exact ⟨k + 1, g + 1, by omega, by omega, by go_num, by go_num, HTT.out⟩
        case measure => simp [intOf]; omega
      · have d : decide (C < 2 * x) = false := by simpa using hg2
        rw [if_neg hg2] at HTT
        go_wp2_with fail
        go_round
        case rel => exact ⟨k + 1, g, by omega, by omega, by go_num, by go_num, HTT.out⟩
        case measure => simp [intOf]; omega
    · have hkn : k = n := by omega
      subst hkn
      rw [List.take_of_length_le (by omega)] at HG
      rw [HG.out] at HB
      go_wp2_with fail
      refine (totalOf_any _ _ _ _ _ HA.out (by omega)).mono ?_
      rintro e w' ⟨rfl, rfl⟩
      rw [HT.out]
      go_wp2_with fail
      all_goals
        go_ret2
        exact ⟨ret_ib (by rw [HB.out, ← HQ.out]; omega), Below.refl _ _⟩
/-- The least number and the bound. -/
theorem bbnd_least {C : Int} {xs : List Int} {k : Nat} (h1 : ∀ x ∈ xs, 1 ≤ x ∧ x ≤ 60) (hC : ∀ x ∈ xs, x ≤ C) (hC1 : 1 ≤ C) (h : Pk.IsLeast C xs k) : bbnd C xs ≤ k ∧ (k : Int) ≤ 2 * bbnd C xs := by
  have hv := Pk.least_volume h
  have hg := Pk.least_great (C := C) (fun x hm => by have := h1 x hm; omega) h
  have ht := tot_len xs h1
  have hdm := Int.ediv_mul_add_emod (Pk.tot xs + C - 1) C
  have hm0 := Int.emod_nonneg (Pk.tot xs + C - 1) (show C ≠ 0 by omega)
  have hm1 := Int.emod_lt_of_pos (Pk.tot xs + C - 1) (show 0 < C by omega)
  have hq0 : 0 ≤ (Pk.tot xs + C - 1) / C := Int.ediv_nonneg (by omega) (by omega)
  have hle : (Pk.tot xs + C - 1) / C ≤ k := by
    have : (Pk.tot xs + C - 1) / C < (k : Int) + 1 := Int.ediv_lt_of_lt_mul (by omega) (by rw [Int.add_mul]; omega)
    omega
  obtain ⟨v, hve⟩ := Int.eq_ofNat_of_zero_le hq0
  have h2 := Pk.least_bound (C := C) (xs := xs) (by omega) (fun x hm => ⟨by have := h1 x hm; omega, hC x hm⟩) h (v := v) (by rw [← hve]; omega) (fun e => by
    subst e
    have : (Pk.tot [] + C - 1) / C = 0 := Int.ediv_eq_zero_of_lt (by simp; omega) (by simp; omega)
    omega)
  unfold bbnd
  unfold grt
  generalize (xs.filter fun x => decide (C < 2 * x)).length = gg at *
  rw [hve] at hle ⊢
  omega
end Go.Proofs.Ytmnjablknjijbaa
