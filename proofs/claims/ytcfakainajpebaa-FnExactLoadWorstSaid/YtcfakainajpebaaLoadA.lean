
/- Loads: as told, greatest number, bounds. -/
import Derived.Test.YtcfakainajpebaaApp
import Derived.Test.YtcfakainajpebaaLib
import Derived.Test.YtcfakainajpebaaSum
import Derived.Test.YtcfakainajpebaaLoadP
import Derived.WalkLawsBesides
namespace Go.Proofs.Ytcfakainajpebaa
set_option linter.unusedVariables false
open Go.RowKit
def ldOk (xs : List Int) (m : Int) : Bool := sumIn xs && decide (1 ≤ m ∧ m ≤ 5)
theorem ldOk_true {xs : List Int} {m : Int} (h : ldOk xs m = true) : sumIn xs = true ∧ 1 ≤ m ∧ m ≤ 5 := by
  simp only [ldOk, Bool.and_eq_true, decide_eq_true_eq] at h
  exact ⟨h.1, h.2⟩
theorem ldOk_cases (xs : List Int) (m : Int) (b : Bool) (h : ldOk xs m = b) : (sumIn xs = false ∧ b = false) ∨ (sumIn xs = true ∧ ((1 ≤ m ∧ m ≤ 5 ∧ b = true) ∨ (¬ (1 ≤ m ∧ m ≤ 5) ∧ b = false))) := by
  cases hs : sumIn xs with
  | false => left; simp [ldOk, hs] at h; exact ⟨rfl, h⟩
  | true =>
    right
    refine ⟨rfl, ?_⟩
    by_cases hm : 1 ≤ m ∧ m ≤ 5
    · left; simp [ldOk, hs, hm] at h; exact ⟨hm.1, hm.2, h⟩
    · right
      refine ⟨hm, ?_⟩
      rw [← h]
      simp only [ldOk, hs, Bool.true_and, decide_eq_false_iff_not]
      exact hm
set_option maxHeartbeats 400000 in
theorem l5Given_any (A : Option Addr) (n c : Nat) (xs : List Int) (m : Int) (w : World) (ha : Rd w w.heap.size A n xs) (hn : n ≤ 1000000000) (b : Bool) (hb : ldOk xs m = b) :
    Calls Try.prog 8 #[.slice A n c, .int .i64 m] w (RetV w (.bool b)) := by
  rcases ldOk_cases xs m b hb with ⟨h1, rfl⟩ | ⟨h1, ⟨h2, h3, rfl⟩ | ⟨h2, rfl⟩⟩
  · go_enter Try.func8, Try.ntmps8
    go_wp2_with (go_at_call 14; refine (specSumIn_any _ _ _ _ _ ha hn _ h1).mono ?_; rintro e w' ⟨rfl, rfl⟩)
    go_ret
    exact ⟨rfl, rfl⟩
  · go_enter Try.func8, Try.ntmps8
    go_wp2_with (first | (go_at_call 14; refine (specSumIn_any _ _ _ _ _ ha hn _ h1).mono ?_; rintro e w' ⟨rfl, rfl⟩) | (go_at_call 15; refine (l6In_yes _ _ _ _ h2 h3).mono ?_; rintro e w' ⟨rfl, rfl⟩))
    go_ret
    exact ⟨rfl, rfl⟩
  · have H2 := Lib.hid h2
    clear h2
    go_enter Try.func8, Try.ntmps8
    go_wp2_with (first | (go_at_call 14; refine (specSumIn_any _ _ _ _ _ ha hn _ h1).mono ?_; rintro e w' ⟨rfl, rfl⟩) | (go_at_call 15; refine (l6In_no _ _ _ _ H2.out).mono ?_; rintro e w' ⟨rfl, rfl⟩))
    go_ret
    exact ⟨rfl, rfl⟩
set_option maxHeartbeats 400000 in
theorem loadsTold_any (A : Option Addr) (n c : Nat) (xs : List Int) (m : Int) (w : World) (ha : Rd w w.heap.size A n xs) (hn : n ≤ 1000000000) (b : Bool) (hb : ldOk xs m = b) :
    Calls Try.prog 10 #[.slice A n c, .int .i64 m] w (RetV w (.bool b)) := by
  rcases ldOk_cases xs m b hb with ⟨h1, rfl⟩ | ⟨h1, ⟨h2, h3, rfl⟩ | ⟨h2, rfl⟩⟩
  · go_enter Try.func10, Try.ntmps10
    go_wp2_with (go_at_call 18; refine (implSumIn_any _ _ _ _ _ ha hn _ h1).mono ?_; rintro e w' ⟨rfl, rfl⟩)
    go_ret
    exact ⟨rfl, rfl⟩
  · have d1 : decide (1 ≤ m) = true := by simpa using h2
    have d2 : decide (m ≤ 5) = true := by simpa using h3
    go_enter Try.func10, Try.ntmps10
    go_wp2_with (go_at_call 18; refine (implSumIn_any _ _ _ _ _ ha hn _ h1).mono ?_; rintro e w' ⟨rfl, rfl⟩)
    go_ret
    exact ⟨rfl, rfl⟩
  · by_cases h3 : 1 ≤ m
    · have d1 : decide (1 ≤ m) = true := by simpa using h3
      have d2 : decide (m ≤ 5) = false := by simp; omega
      clear h2
      go_enter Try.func10, Try.ntmps10
      go_wp2_with (go_at_call 18; refine (implSumIn_any _ _ _ _ _ ha hn _ h1).mono ?_; rintro e w' ⟨rfl, rfl⟩)
      go_ret
      exact ⟨rfl, rfl⟩
    · have d1 : decide (1 ≤ m) = false := by simp; omega
      clear h2
      go_enter Try.func10, Try.ntmps10
      go_wp2_with (go_at_call 18; refine (implSumIn_any _ _ _ _ _ ha hn _ h1).mono ?_; rintro e w' ⟨rfl, rfl⟩)
      go_ret
      exact ⟨rfl, rfl⟩
theorem gomax (a b : Int) : (if a < b then b else a) = max a b := by split <;> omega
theorem ret_ib {a a' : Int} {b : Bool} (h : a = a') : Ending.returned (.tuple #[.int .i64 a, .bool b]) = .returned (.tuple #[.int .i64 a', .bool b]) := by rw [h]
set_option maxHeartbeats 400000 in
theorem l5Most_any (A : Option Addr) (n c : Nat) (xs : List Int) (w : World) (ha : Rd w w.heap.size A n xs) (hn : n ≤ 1000000000) :
    Calls Try.prog 17 #[.slice A n c] w (RetV w (.int .i64 (Ld.mx xs))) := by
  have hl := ha.len
  go_enter Try.func17, Try.ntmps17
  go_wp2_with fail
  go_loop [3, 4] (fun s i => ∃ k : Nat, k ≤ n ∧ i = .int .i64 k ∧ s = .int .i64 (Ld.mx (xs.take k))) (fun _ i => n - (intOf i).toNat)
  case atStart => exact ⟨0, by omega, rfl, rfl⟩
  case round =>
    obtain ⟨k, hk, rfl, rfl⟩ := hrel
    by_cases hlt : k < n
    · obtain ⟨b1, o1, rfl, _, hc1⟩ := ha.at_ hlt
      have g1 := hc1 k hlt
      have HT := Lib.hid (show Ld.mx (xs.take (k + 1)) = max (Ld.mx (xs.take k)) (xs.getD k 0) from by rw [take_succ_getD (by omega)]; exact Ld.mxf_snoc _ _ _)
      obtain ⟨x, hx⟩ : ∃ x, xs.getD k 0 = x := ⟨_, rfl⟩
      obtain ⟨s, hs⟩ : ∃ s, Ld.mx (xs.take k) = s := ⟨_, rfl⟩
      rw [hx] at g1
      rw [hs]
      have HX := Lib.hid hx
      have HY := Lib.hid hs
      clear hc1 ha hx hs
      go_wp2_with fail
      go_round
      case rel => exact ⟨k + 1, by omega, by go_num, by rw [HT.out, HX.out, HY.out, gomax]⟩
      case measure => simp [intOf]; omega
    · have hkn : k = n := by omega
      subst hkn
      clear ha
      go_wp2_with fail
      go_ret
      exact ⟨ret_int (by rw [List.take_of_length_le (by omega)]), rfl⟩
set_option maxHeartbeats 400000 in
theorem slicesMax_any (A : Option Addr) (n c : Nat) (xs : List Int) (w : World) (ha : Rd w w.heap.size A n xs) (hn : n ≤ 1000000000) (h0 : 0 < n) (hx0 : 0 ≤ xs.getD 0 0) :
    Calls Try.prog 20 #[.slice A n c] w (RetV w (.int .i64 (Ld.mx xs))) := by
  have hl := ha.len
  obtain ⟨b1, o1, rfl, hb, hc⟩ := ha.at_ h0
  have g0 := hc 0 h0
  rw [Nat.add_zero] at g0
  have h0n : (0 : Int) < (n : Int) := by omega
  have h1n : ¬ ((n : Int) < 1) := by omega
  have HC := Lib.hid hc
  have H1 := Lib.hid (show Ld.mx (xs.take 1) = xs.getD 0 0 from by
    match xs, hl with
    | x :: l, _ => simp only [List.take_succ_cons, List.take_zero, Ld.mx, Ld.mxf]; simp at hx0 ⊢; omega
    | [], hl => simp at hl; omega)
  obtain ⟨x0, hx0e⟩ : ∃ x, xs.getD 0 0 = x := ⟨_, rfl⟩
  rw [hx0e] at g0 hx0
  have HX0 := Lib.hid hx0e
  clear hc ha hx0e
  go_enter Try.func20, Try.ntmps20
  go_wp2_with fail
  go_loop [3, 4] (fun s i => ∃ k : Nat, 1 ≤ k ∧ k ≤ n ∧ i = .int .i64 k ∧ s = .int .i64 (Ld.mx (xs.take k))) (fun _ i => n - (intOf i).toNat)
  case atStart => exact ⟨1, by omega, by omega, rfl, by rw [H1.out, HX0.out]⟩
  case round =>
    obtain ⟨k, hk1, hk, rfl, rfl⟩ := hrel
    clear g0
    by_cases hlt : k < n
    · have g1 := HC.out k hlt
      have HT := Lib.hid (show Ld.mx (xs.take (k + 1)) = max (Ld.mx (xs.take k)) (xs.getD k 0) from by rw [take_succ_getD (by omega)]; exact Ld.mxf_snoc _ _ _)
      obtain ⟨x, hx⟩ : ∃ x, xs.getD k 0 = x := ⟨_, rfl⟩
      obtain ⟨s, hs⟩ : ∃ s, Ld.mx (xs.take k) = s := ⟨_, rfl⟩
      rw [hx] at g1
      rw [hs]
      have HX := Lib.hid hx
      have HY := Lib.hid hs
      clear hx hs
      go_wp2_with fail
      go_round
      case rel => exact ⟨k + 1, by omega, by omega, by go_num, by rw [HT.out, HX.out, HY.out, gomax]⟩
      case measure => simp [intOf]; omega
    · have hkn : k = n := by omega
      subst hkn
      go_wp2_with fail
      go_ret
      exact ⟨ret_int (by rw [List.take_of_length_le (by omega)]), rfl⟩
/-- The total of a list as told. -/
def tt (xs : List Int) : Int := wsum xs 0
theorem tt_range {xs : List Int} (h : sumIn xs = true) : 0 ≤ tt xs ∧ tt xs ≤ 600 := by
  have key : ∀ (l : List Int) (s : Int), (∀ x ∈ l, 1 ≤ x ∧ x ≤ 60) → 0 ≤ s → s + 60 * (l.length : Int) ≤ 2000000 → 0 ≤ wsum l s ∧ wsum l s ≤ s + 60 * (l.length : Int) := by
    intro l
    induction l with
    | nil => intro s _ h0 _; simp [wsum]; omega
    | cons y l ih =>
      intro s h h0 h1
      have hy := h y (by simp)
      simp only [List.length_cons] at h1 ⊢
      have e : wrap64 (s + y) = s + y := IntWalk.wrap64_in _ (by omega)
      simp only [wsum, e]
      have := ih (s + y) (fun z hz => h z (by simp [hz])) (by omega) (by omega)
      omega
  have hl := sumIn_len h
  have := key xs 0 (sumIn_get h) (by omega) (by omega)
  unfold tt; omega
/-- The bound of the loads. -/
def bnd (xs : List Int) (m : Int) : Int := max (Ld.mx xs) ((tt xs + m - 1) / m)
end Go.Proofs.Ytcfakainajpebaa
