
/- Lists as told, and totals: both packages. -/
import Derived.Test.YtehggnafglnmaaaDoorIn
namespace Go.Proofs.YtehggnafglnmaaaDoor
set_option linter.unusedVariables false
open Go.RowKit

/-- A value is handed back, the world is as it was. -/
def RetV (w : World) (v : Value) (e : Ending) (w' : World) : Prop := e = .returned v ∧ w = w'
/-- At most ten numbers, each from 1 to 60. -/
def sumIn (xs : List Int) : Bool := decide (xs.length ≤ 10) && xs.all fun x => decide (1 ≤ x ∧ x ≤ 60)
theorem sumIn_len {xs : List Int} (h : sumIn xs = true) : xs.length ≤ 10 := by simp [sumIn] at h; exact h.1
theorem sumIn_get {xs : List Int} (h : sumIn xs = true) : ∀ x ∈ xs, 1 ≤ x ∧ x ≤ 60 := by
  simp [sumIn] at h
  exact h.2
theorem sumIn_true {xs : List Int} (h1 : xs.length ≤ 10) (h : ∀ x ∈ xs, 1 ≤ x ∧ x ≤ 60) : sumIn xs = true := by
  simp only [sumIn, Bool.and_eq_true, decide_eq_true_eq, List.all_eq_true]
  exact ⟨h1, h⟩
theorem sumIn_false_len {xs : List Int} (h : 10 < xs.length) : sumIn xs = false := by
  simp only [sumIn, Bool.and_eq_false_iff, decide_eq_false_iff_not]
  left; omega
theorem getD_mem {xs : List Int} {k : Nat} (h : k < xs.length) : xs.getD k 0 ∈ xs := by
  simp [List.getD, h]
theorem sumIn_false_at {xs : List Int} {k : Nat} (hk : k < xs.length) (h : ¬ (1 ≤ xs.getD k 0 ∧ xs.getD k 0 ≤ 60)) : sumIn xs = false := by
  rw [Bool.eq_false_iff]
  intro ht
  exact h (sumIn_get ht _ (getD_mem hk))
theorem all_of_getD {xs : List Int} {p : Int → Prop} (h : ∀ j, j < xs.length → p (xs.getD j 0)) : ∀ x ∈ xs, p x := by
  intro x hx
  obtain ⟨j, hj, rfl⟩ := List.mem_iff_getElem.1 hx
  have := h j hj
  simpa [List.getD, hj] using this
theorem ret_bool {b c : Bool} (h : b = c) : Ending.returned (.bool b) = .returned (.bool c) := by rw [h]
theorem ret_int {a b : Int} (h : a = b) : Ending.returned (.int .i64 a) = .returned (.int .i64 b) := by rw [h]

set_option maxHeartbeats 400000 in
theorem specSumIn_any (A : Option Addr) (n c : Nat) (xs : List Int) (w : World) (ha : Rd w w.heap.size A n xs) (hn : n ≤ 1000000000) (b : Bool) (hb : sumIn xs = b) :
    Calls Tryd.prog 10 #[.slice A n c] w (RetV w (.bool b)) := by
  have hl := ha.len
  have HB := Lib.hid hb
  clear hb
  go_enter Tryd.func10, Tryd.ntmps10
  go_wp2_with fail
  go_loop [3] (fun i => ∃ k : Nat, k ≤ n ∧ i = .int .i64 k ∧ Hid (∀ j, j < k → 1 ≤ xs.getD j 0 ∧ xs.getD j 0 ≤ 60)) (fun i => n - (intOf i).toNat)
  case atStart => exact ⟨0, by omega, rfl, fun j hj => absurd hj (by omega)⟩
  case round =>
    obtain ⟨k, hk, rfl, HA⟩ := hrel
    by_cases hlt : k < n
    · obtain ⟨b1, o1, rfl, _, hc1⟩ := ha.at_ hlt
      have g1 := hc1 k hlt
      obtain ⟨x, hx⟩ : ∃ x, xs.getD k 0 = x := ⟨_, rfl⟩
      rw [hx] at g1
      have HX := Lib.hid hx
      clear hc1 ha hx
      by_cases hin : 1 ≤ x ∧ x ≤ 60
      · obtain ⟨x1, x2⟩ := hin
        go_wp2_with (go_at_call 11; refine (l6In_yes _ _ _ _ x1 x2).mono ?_; rintro e w' ⟨rfl, rfl⟩)
        go_round
        case rel =>
          refine ⟨k + 1, by omega, by go_num, fun j hj => ?_⟩
          rcases Nat.lt_or_ge j k with h | h
          · exact HA.out j h
          · have : j = k := by omega
            subst this
            rw [HX.out]
            exact ⟨x1, x2⟩
        case measure => simp [intOf]; omega
      · have HN := Lib.hid hin
        clear hin
        go_wp2_with (go_at_call 11; refine (l6In_no _ _ _ _ HN.out).mono ?_; rintro e w' ⟨rfl, rfl⟩)
        go_ret
        exact ⟨ret_bool (by rw [← HB.out, sumIn_false_at (k := k) (by omega) (by rw [HX.out]; exact HN.out)]), rfl⟩
    · have hkn : k = n := by omega
      subst hkn
      obtain ⟨d, hd⟩ : ∃ d, decide ((k : Int) ≤ 10) = d := ⟨_, rfl⟩
      clear ha
      go_wp2_with fail
      go_ret
      refine ⟨ret_bool ?_, rfl⟩
      rw [← hd, ← HB.out, Bool.eq_iff_iff]
      constructor
      · intro h
        simp at h
        exact (sumIn_true (by omega) (all_of_getD (by rw [hl]; exact HA.out)))
      · intro h
        have := sumIn_len h
        simp; omega
set_option maxHeartbeats 400000 in
theorem implSumIn_any (A : Option Addr) (n c : Nat) (xs : List Int) (w : World) (ha : Rd w w.heap.size A n xs) (hn : n ≤ 1000000000) (b : Bool) (hb : sumIn xs = b) :
    Calls Tryd.prog 12 #[.slice A n c] w (RetV w (.bool b)) := by
  have hl := ha.len
  have HB := Lib.hid hb
  clear hb
  by_cases h10 : 10 < n
  · clear ha
    go_enter Tryd.func12, Tryd.ntmps12
    go_wp2_with fail
    go_ret
    exact ⟨ret_bool (by rw [← HB.out, sumIn_false_len (by omega)]), rfl⟩
  go_enter Tryd.func12, Tryd.ntmps12
  go_wp2_with fail
  go_loop [10] (fun i => ∃ k : Nat, k ≤ n ∧ i = .int .i64 k ∧ Hid (∀ j, j < k → 1 ≤ xs.getD j 0 ∧ xs.getD j 0 ≤ 60)) (fun i => n - (intOf i).toNat)
  case atStart => exact ⟨0, by omega, rfl, fun j hj => absurd hj (by omega)⟩
  case round =>
    obtain ⟨k, hk, rfl, HA⟩ := hrel
    by_cases hlt : k < n
    · obtain ⟨b1, o1, rfl, _, hc1⟩ := ha.at_ hlt
      have g1 := hc1 k hlt
      obtain ⟨x, hx⟩ : ∃ x, xs.getD k 0 = x := ⟨_, rfl⟩
      rw [hx] at g1
      have HX := Lib.hid hx
      clear hc1 ha hx
      by_cases hx1 : x < 1
      · go_wp2_with fail
        go_ret
        exact ⟨ret_bool (by rw [← HB.out, sumIn_false_at (k := k) (by omega) (by rw [HX.out]; omega)]), rfl⟩
      · by_cases hx2 : 60 < x
        · have hd : decide (60 < x) = true := by simpa using hx2
          go_wp2_with fail
          go_ret
          exact ⟨ret_bool (by rw [← HB.out, sumIn_false_at (k := k) (by omega) (by rw [HX.out]; omega)]), rfl⟩
        · have hd : decide (60 < x) = false := by simpa using hx2
          go_wp2_with fail
          go_round
          case rel =>
            refine ⟨k + 1, by omega, by go_num, fun j hj => ?_⟩
            rcases Nat.lt_or_ge j k with h | h
            · exact HA.out j h
            · have : j = k := by omega
              subst this
              rw [HX.out]
              omega
          case measure => simp [intOf]; omega
    · have hkn : k = n := by omega
      subst hkn
      clear ha
      go_wp2_with fail
      go_ret
      refine ⟨ret_bool ?_, rfl⟩
      rw [← HB.out]
      exact (sumIn_true (by omega) (all_of_getD (by rw [hl]; exact HA.out))).symm

/-- The sum as the machine adds it. -/
def wsum : List Int → Int → Int
  | [], s => s
  | x :: l, s => wsum l (wrap64 (s + x))
theorem wsum_snoc : ∀ (l : List Int) (x s : Int), wsum (l ++ [x]) s = wrap64 (wsum l s + x)
  | [], x, s => rfl
  | y :: l, x, s => wsum_snoc l x _
theorem take_succ_getD {xs : List Int} {k : Nat} (h : k < xs.length) : xs.take (k + 1) = xs.take k ++ [xs.getD k 0] := by
  rw [List.take_succ_eq_append_getElem h]
  simp [List.getD, h]
theorem wsum_take {xs : List Int} {k : Nat} (h : k < xs.length) (s : Int) : wsum (xs.take (k + 1)) s = wrap64 (wsum (xs.take k) s + xs.getD k 0) := by
  rw [take_succ_getD h, wsum_snoc]
end Go.Proofs.YtehggnafglnmaaaDoor
