
/- Bins: a list and a size as told. -/
import Derived.Test.YtbihdajoflaknaaLib
import Derived.Test.YtbihdajoflaknaaSum
import Derived.WalkLawsBesides
namespace Go.Proofs.Ytbihdajoflaknaa
set_option linter.unusedVariables false
open Go.RowKit
def bnOk (xs : List Int) (C : Int) : Bool := sumIn xs && decide (1 ≤ C ∧ C ≤ 100) && xs.all fun x => decide (x ≤ C)
theorem bnOk_true {xs : List Int} {C : Int} (h : bnOk xs C = true) : sumIn xs = true ∧ 1 ≤ C ∧ C ≤ 100 ∧ ∀ x ∈ xs, x ≤ C := by
  simp only [bnOk, Bool.and_eq_true, decide_eq_true_eq, List.all_eq_true] at h
  exact ⟨h.1.1, h.1.2.1, h.1.2.2, h.2⟩
theorem bnOk_mk {xs : List Int} {C : Int} (h1 : sumIn xs = true) (h2 : 1 ≤ C) (h3 : C ≤ 100) (h4 : ∀ x ∈ xs, x ≤ C) : bnOk xs C = true := by
  simp only [bnOk, Bool.and_eq_true, decide_eq_true_eq, List.all_eq_true]
  exact ⟨⟨h1, h2, h3⟩, h4⟩
theorem bnOk_false {xs : List Int} {C : Int} (h : ¬ (sumIn xs = true ∧ (1 ≤ C ∧ C ≤ 100) ∧ ∀ x ∈ xs, x ≤ C)) : bnOk xs C = false := by
  cases e : bnOk xs C with
  | false => rfl
  | true =>
    obtain ⟨h1, h2, h3, h4⟩ := bnOk_true e
    exact absurd ⟨h1, ⟨h2, h3⟩, h4⟩ h
/-- What the numbers of such a list are. -/
theorem bnOk_in {xs : List Int} {C : Int} (h : bnOk xs C = true) : xs.length ≤ 10 ∧ (∀ x ∈ xs, 1 ≤ x ∧ x ≤ 60) ∧ (∀ x ∈ xs, 0 < x ∧ x ≤ C) ∧ 1 ≤ C ∧ C ≤ 100 := by
  obtain ⟨h1, h2, h3, h4⟩ := bnOk_true h
  have hx := sumIn_get h1
  exact ⟨sumIn_len h1, hx, fun x hm => ⟨by have := hx x hm; omega, h4 x hm⟩, h2, h3⟩
set_option maxHeartbeats 400000 in
theorem l4Given_any (A : Option Addr) (n c : Nat) (xs : List Int) (C : Int) (w : World) (ha : Rd w w.heap.size A n xs) (hn : n ≤ 1000000000) (b : Bool) (hb : bnOk xs C = b) :
    Calls Try.prog 15 #[.slice A n c, .int .i64 C] w (RetV w (.bool b)) := by
  have hl := ha.len
  have HB := Lib.hid hb
  have HA0 := Lib.hid ha
  clear hb
  go_enter Try.func15, Try.ntmps15
  go_wp2_with fail
  go_loop [5] (fun i => ∃ k : Nat, k ≤ n ∧ i = .int .i64 k ∧ Hid (∀ j, j < k → xs.getD j 0 ≤ C)) (fun i => n - (intOf i).toNat)
  case atStart => exact ⟨0, by omega, rfl, fun j hj => absurd hj (by omega)⟩
  case round =>
    obtain ⟨k, hk, rfl, HA⟩ := hrel
    by_cases hlt : k < n
    · obtain ⟨b1, o1, rfl, _, hc1⟩ := ha.at_ hlt
      have g1 := hc1 k hlt
      obtain ⟨x, hx⟩ : ∃ x, xs.getD k 0 = x := ⟨_, rfl⟩
      rw [hx] at g1
      have HX := Lib.hid hx
      clear hc1 ha hx
      by_cases hin : C < x
      · go_wp2_with fail
        go_ret
        exact ⟨ret_bool (by
          rw [← HB.out]
          refine (bnOk_false fun h => ?_).symm
          have := h.2.2 _ (getD_mem (show k < xs.length by omega))
          rw [HX.out] at this
          omega), rfl⟩
      · go_wp2_with fail
        go_round
        case rel =>
          refine ⟨k + 1, by omega, by go_num, fun j hj => ?_⟩
          rcases Nat.lt_or_ge j k with h | h
          · exact HA.out j h
          · have : j = k := by omega
            subst this
            rw [HX.out]
            omega
        case measure => simp [intOf]; omega
    · have hkn : k = n := by omega
      subst hkn
      have HC : Hid (∀ x ∈ xs, x ≤ C) := Lib.hid (all_of_getD (by rw [hl]; exact HA.out))
      clear HA ha
      cases hs : sumIn xs with
      | false =>
        go_wp2_with (go_at_call 28; refine (specSumIn_any _ _ _ _ _ HA0.out hn _ hs).mono ?_; rintro e w' ⟨rfl, rfl⟩)
        go_ret
        exact ⟨ret_bool (by rw [← HB.out]; exact (bnOk_false fun h => by rw [hs] at h; exact absurd h.1 (by simp)).symm), rfl⟩
      | true =>
        by_cases hc : 1 ≤ C ∧ C ≤ 100
        · obtain ⟨c1, c2⟩ := hc
          go_wp2_with (first | (go_at_call 28; refine (specSumIn_any _ _ _ _ _ HA0.out hn _ hs).mono ?_; rintro e w' ⟨rfl, rfl⟩) | (go_at_call 29; refine (l6In_yes _ _ _ _ c1 c2).mono ?_; rintro e w' ⟨rfl, rfl⟩))
          go_ret
          exact ⟨ret_bool (by rw [← HB.out]; exact (bnOk_mk hs c1 c2 HC.out).symm), rfl⟩
        · have HN := Lib.hid hc
          clear hc
          go_wp2_with (first | (go_at_call 28; refine (specSumIn_any _ _ _ _ _ HA0.out hn _ hs).mono ?_; rintro e w' ⟨rfl, rfl⟩) | (go_at_call 29; refine (l6In_no _ _ _ _ HN.out).mono ?_; rintro e w' ⟨rfl, rfl⟩))
          go_ret
          exact ⟨ret_bool (by rw [← HB.out]; exact (bnOk_false fun h => HN.out h.2.1).symm), rfl⟩
set_option maxHeartbeats 400000 in
theorem binsTold_any (A : Option Addr) (n c : Nat) (xs : List Int) (C : Int) (w : World) (ha : Rd w w.heap.size A n xs) (hn : n ≤ 1000000000) (b : Bool) (hb : bnOk xs C = b) :
    Calls Try.prog 18 #[.slice A n c, .int .i64 C] w (RetV w (.bool b)) := by
  have hl := ha.len
  have HB := Lib.hid hb
  have HA0 := Lib.hid ha
  clear hb
  cases hs : sumIn xs with
  | false =>
    go_enter Try.func18, Try.ntmps18
    go_wp2_with (go_at_call 30; refine (implSumIn_any _ _ _ _ _ HA0.out hn _ hs).mono ?_; rintro e w' ⟨rfl, rfl⟩)
    go_ret
    exact ⟨ret_bool (by rw [← HB.out]; exact (bnOk_false fun h => by rw [hs] at h; exact absurd h.1 (by simp)).symm), rfl⟩
  | true =>
    by_cases c1 : C < 1
    · go_enter Try.func18, Try.ntmps18
      go_wp2_with (go_at_call 30; refine (implSumIn_any _ _ _ _ _ HA0.out hn _ hs).mono ?_; rintro e w' ⟨rfl, rfl⟩)
      go_ret
      exact ⟨ret_bool (by rw [← HB.out]; exact (bnOk_false fun h => by omega).symm), rfl⟩
    · by_cases c2 : 100 < C
      · have d : decide (C > 100) = true := by simpa using c2
        have d2 : decide (100 < C) = true := by simpa using c2
        go_enter Try.func18, Try.ntmps18
        go_wp2_with (go_at_call 30; refine (implSumIn_any _ _ _ _ _ HA0.out hn _ hs).mono ?_; rintro e w' ⟨rfl, rfl⟩)
        go_ret
        exact ⟨ret_bool (by rw [← HB.out]; exact (bnOk_false fun h => by omega).symm), rfl⟩
      · have d2 : decide (100 < C) = false := by simpa using c2
        go_enter Try.func18, Try.ntmps18
        go_wp2_with (go_at_call 30; refine (implSumIn_any _ _ _ _ _ HA0.out hn _ hs).mono ?_; rintro e w' ⟨rfl, rfl⟩)
        go_loop [20] (fun i => ∃ k : Nat, k ≤ n ∧ i = .int .i64 k ∧ Hid (∀ j, j < k → xs.getD j 0 ≤ C)) (fun i => n - (intOf i).toNat)
        case atStart => exact ⟨0, by omega, rfl, fun j hj => absurd hj (by omega)⟩
        case round =>
          obtain ⟨k, hk, rfl, HA⟩ := hrel
          by_cases hlt : k < n
          · obtain ⟨b1, o1, rfl, _, hc1⟩ := ha.at_ hlt
            have g1 := hc1 k hlt
            obtain ⟨x, hx⟩ : ∃ x, xs.getD k 0 = x := ⟨_, rfl⟩
            rw [hx] at g1
            have HX := Lib.hid hx
            clear hc1 ha hx
            by_cases hin : C < x
            · go_wp2_with fail
              go_ret
              exact ⟨ret_bool (by
                rw [← HB.out]
                refine (bnOk_false fun h => ?_).symm
                have := h.2.2 _ (getD_mem (show k < xs.length by omega))
                rw [HX.out] at this
                omega), rfl⟩
            · go_wp2_with fail
              go_round
              case rel =>
                refine ⟨k + 1, by omega, by go_num, fun j hj => ?_⟩
                rcases Nat.lt_or_ge j k with h | h
                · exact HA.out j h
                · have : j = k := by omega
                  subst this
                  rw [HX.out]
                  omega
              case measure => simp [intOf]; omega
          · have hkn : k = n := by omega
            subst hkn
            have HC : Hid (∀ x ∈ xs, x ≤ C) := Lib.hid (all_of_getD (by rw [hl]; exact HA.out))
            clear HA ha
            go_wp2_with fail
            go_ret
            exact ⟨ret_bool (by rw [← HB.out]; exact (bnOk_mk hs (by omega) (by omega) HC.out).symm), rfl⟩
end Go.Proofs.Ytbihdajoflaknaa
