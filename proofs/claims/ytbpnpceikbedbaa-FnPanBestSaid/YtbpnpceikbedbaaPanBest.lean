/- PanBest, both: the powers of 3. -/
import Derived.Test.YtbpnpceikbedbaaApp
import Derived.Test.YtbpnpceikbedbaaLib
import Derived.Test.YtbpnpceikbedbaaIn
namespace Go.Proofs.Ytbpnpceikbedbaa
set_option linter.unusedVariables false
open Go.RowKit

/-- The first n powers of 3. -/
def pw : Nat → List Int
  | 0 => []
  | n + 1 => pw n ++ [3 ^ n]
theorem pw3 {k : Nat} (h : k ≤ 4) : 1 ≤ (3 : Int) ^ k ∧ (3 : Int) ^ k ≤ 81 := by
  have : k = 0 ∨ k = 1 ∨ k = 2 ∨ k = 3 ∨ k = 4 := by omega
  rcases this with rfl | rfl | rfl | rfl | rfl <;> decide

set_option maxHeartbeats 400000 in
theorem specPanBest_no (n : Int) (w : World) (h : ¬ (0 ≤ n ∧ n ≤ 4)) :
    Calls Try.prog 9 #[.int .i64 n] w (RetOwnB w [] false) := by
  go_enter Try.func9, Try.ntmps9
  go_wp2_with (go_at_call 25; refine (l6In_no _ _ _ _ h).mono ?_; rintro e w' ⟨rfl, rfl⟩)
  go_ret2
  exact ⟨_, _, _, rfl, own_empty w, (Below.refl _ _).alloc (Nat.le_refl _) _⟩
/-- The round of the loop, in the relation. -/
theorem pw_rel {W w w' : World} {A A' : Option Addr} {k c' : Nat} {p : Int} (hp : Hid (p = 3 ^ k)) (hb : Hid (Below W.heap.size W w)) (ho' : Own w' W.heap.size A' (k + 1) c' (pw k ++ [p]))
    (hg : w.grownBy w' (blk A)) (hA : Hid (∀ g, blk A = some g → W.heap.size ≤ g)) : 3 * p = 3 ^ (k + 1) ∧ p * 3 = 3 ^ (k + 1) ∧ Own w' W.heap.size A' (k + 1) c' (pw (k + 1)) ∧ Below W.heap.size W w' := by
  have e := hp.out
  subst e
  exact ⟨by rw [Int.pow_succ]; omega, by rw [Int.pow_succ], ho', below_push hb.out hg hA.out⟩
set_option maxHeartbeats 400000 in
theorem specPanBest_yes (n : Nat) (w : World) (h : n ≤ 4) :
    Calls Try.prog 9 #[.int .i64 n] w (RetOwnB w (pw n) true) := by
  have h1 : (0 : Int) ≤ (n : Int) := by omega
  have h2 : (n : Int) ≤ 4 := by omega
  go_enter Try.func9, Try.ntmps9
  go_wp2_with (go_at_call 25; refine (l6In_yes _ _ _ _ h1 h2).mono ?_; rintro e w' ⟨rfl, rfl⟩)
  go_loopw [4, 5, 6] (fun o p i wr => ∃ (k : Nat) (A : Option Addr) (c : Nat), k ≤ n ∧ i = .int .i64 k ∧ p = .int .i64 (3 ^ k) ∧ o = .slice A k c ∧ Own wr w.heap.size A k c (pw k) ∧ Below w.heap.size w wr) (fun _ _ i _ => n - (intOf i).toNat)
  case atStart => exact ⟨0, _, _, by omega, rfl, rfl, rfl, own_empty w, (Below.refl _ _).alloc (Nat.le_refl _) _⟩
  case round =>
    obtain ⟨k, A, c, hk, rfl, rfl, rfl, hown, hbw⟩ := hrel
    by_cases hlt : k < n
    · have hp := pw3 (k := k) (by omega)
      obtain ⟨p, hpe⟩ : ∃ p : Int, p = 3 ^ k := ⟨_, rfl⟩
      rw [← hpe] at hp ⊢
      have H := Lib.hid hown
      have H2 := Lib.hid hbw
      have H3 := Lib.hid hpe
      have H4 := Lib.hid (fun g hg => (hown.lt g hg).1)
      clear hown hbw hpe
      go_wp2_with (at_builtin; refine wpList_push rfl _ _ _ rfl Try.underlying22 rfl H.out rfl (by omega) H2.out.size ?_; intro A' c' w' ho' hg' hb')
      have R := pw_rel H3 H2 ho' hg' H4
      go_roundw
      case rel => exact ⟨k + 1, A', c', by omega, by go_num, by rw [R.1], rfl, R.2.2⟩
      case measure => simp [intOf]; omega
    · have hkn : k = n := by omega
      subst hkn
      have H := Lib.hid hown
      have H2 := Lib.hid hbw
      clear hown hbw
      go_wp2
      go_ret2
      exact ⟨_, _, _, rfl, H.out, H2.out⟩
set_option maxHeartbeats 400000 in
theorem implPanBest_no (n : Int) (w : World) (h : ¬ (0 ≤ n ∧ n ≤ 4)) :
    Calls Try.prog 10 #[.int .i64 n] w (RetOwnB w [] false) := by
  rcases (show n < 0 ∨ (0 ≤ n ∧ 4 < n) from by omega) with h1 | ⟨h1, h2⟩
  · clear h
    go_enter Try.func10, Try.ntmps10
    go_wp2
    go_ret2
    exact ⟨_, _, _, rfl, own_empty w, (Below.refl _ _).alloc (Nat.le_refl _) _⟩
  · clear h
    go_enter Try.func10, Try.ntmps10
    have hd : decide (4 < n) = true := by simpa using h2
    go_wp2
    go_ret2
    exact ⟨_, _, _, rfl, own_empty w, (Below.refl _ _).alloc (Nat.le_refl _) _⟩
set_option maxHeartbeats 400000 in
theorem implPanBest_yes (n : Nat) (w : World) (h : n ≤ 4) :
    Calls Try.prog 10 #[.int .i64 n] w (RetOwnB w (pw n) true) := by
  have h1 : ¬ ((n : Int) < 0) := by omega
  have h2 : decide ((4 : Int) < (n : Int)) = false := by simp; omega
  go_enter Try.func10, Try.ntmps10
  go_wp2
  go_loopw [4, 5, 15] (fun o p i wr => ∃ (k : Nat) (A : Option Addr) (c : Nat), k ≤ n ∧ i = .int .i64 k ∧ p = .int .i64 (3 ^ k) ∧ o = .slice A k c ∧ Own wr w.heap.size A k c (pw k) ∧ Below w.heap.size w wr) (fun _ _ i _ => n - (intOf i).toNat)
  case atStart => exact ⟨0, _, _, by omega, rfl, rfl, rfl, own_empty w, (Below.refl _ _).alloc (Nat.le_refl _) _⟩
  case round =>
    obtain ⟨k, A, c, hk, rfl, rfl, rfl, hown, hbw⟩ := hrel
    by_cases hlt : k < n
    · have hp := pw3 (k := k) (by omega)
      obtain ⟨p, hpe⟩ : ∃ p : Int, p = 3 ^ k := ⟨_, rfl⟩
      rw [← hpe] at hp ⊢
      have H := Lib.hid hown
      have H2 := Lib.hid hbw
      have H3 := Lib.hid hpe
      have H4 := Lib.hid (fun g hg => (hown.lt g hg).1)
      clear hown hbw hpe
      go_wp2_with (at_builtin; refine wpList_push rfl _ _ _ rfl Try.underlying22 rfl H.out rfl (by omega) H2.out.size ?_; intro A' c' w' ho' hg' hb')
      have R := pw_rel H3 H2 ho' hg' H4
      go_roundw
      case rel => exact ⟨k + 1, A', c', by omega, by go_num, by rw [R.2.1], rfl, R.2.2⟩
      case measure => simp [intOf]; omega
    · have hkn : k = n := by omega
      subst hkn
      have H := Lib.hid hown
      have H2 := Lib.hid hbw
      clear hown hbw
      go_wp2
      go_ret2
      exact ⟨_, _, _, rfl, H.out, H2.out⟩
end Go.Proofs.Ytbpnpceikbedbaa
