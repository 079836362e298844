
/- Lists told as bins: when they fit. -/
import Derived.Test.YtbihdajoflaknaaSlices
import Derived.Test.YtbihdajoflaknaaBinA
import Derived.Test.YtbihdajoflaknaaSortJ
import Derived.Test.YtbihdajoflaknaaSortL
import Derived.Test.YtbihdajoflaknaaSortS
namespace Go.Proofs.Ytbihdajoflaknaa
set_option linter.unusedVariables false
open Go.RowKit
theorem ext_getD {xs ys : List Int} (hl : xs.length = ys.length) (h : ∀ j, j < xs.length → xs.getD j 0 = ys.getD j 0) : xs = ys := by
  refine List.ext_getElem hl fun j h1 h2 => ?_
  have := h j h1
  simpa [List.getD, h1, h2] using this
/-- The lists, told as bins, hold the numbers, none being too full. -/
def fitsB (xs : List Int) (C : Int) (B : List (List Int)) : Bool := bnOk xs C && decide (Srt.dn B.flatten = Srt.dn xs) && B.all fun ys => decide (wsum ys 0 ≤ C)
theorem fits_not {xs : List Int} {C : Int} {B : List (List Int)} (h : bnOk xs C = false) : fitsB xs C B = false := by unfold fitsB; rw [h]; rfl
theorem fits_dn {xs : List Int} {C : Int} {B : List (List Int)} (h : Srt.dn B.flatten ≠ Srt.dn xs) : fitsB xs C B = false := by
  unfold fitsB; rw [decide_eq_false h]; simp
theorem dn_of_perm {xs ys : List Int} (h : xs.Perm ys) : Srt.dn xs = Srt.dn ys := Srt.dn_eq ((Srt.dn_perm xs).trans h) (Srt.dn_sorted xs)
theorem up_of_perm {xs ys : List Int} (h : xs.Perm ys) : Srt.up xs = Srt.up ys := Srt.up_eq ((Srt.up_perm xs).trans h) (Srt.up_sorted xs)
theorem perm_of_dn {xs ys : List Int} (h : Srt.dn xs = Srt.dn ys) : xs.Perm ys := (Srt.dn_perm xs).symm.trans (h ▸ Srt.dn_perm ys)
theorem perm_of_up {xs ys : List Int} (h : Srt.up xs = Srt.up ys) : xs.Perm ys := (Srt.up_perm xs).symm.trans (h ▸ Srt.up_perm ys)
theorem fits_up {xs : List Int} {C : Int} {B : List (List Int)} (h : Srt.up B.flatten ≠ Srt.up xs) : fitsB xs C B = false := fits_dn fun e => h (up_of_perm (perm_of_dn e))
theorem fits_len {xs : List Int} {C : Int} {B : List (List Int)} (h : B.flatten.length ≠ xs.length) : fitsB xs C B = false := fits_dn fun e => h (perm_of_dn e).length_eq
theorem fits_row {xs : List Int} {C : Int} {B : List (List Int)} {j : Nat} (hj : j < B.length) (h : C < wsum (B.getD j []) 0) : fitsB xs C B = false := by
  unfold fitsB
  have : (B.all fun ys => decide (wsum ys 0 ≤ C)) = false := by
    rw [Bool.eq_false_iff]
    intro e
    have h1 := List.all_eq_true.1 e (B.getD j []) (by simp [List.getD, hj])
    have h2 : wsum (B.getD j []) 0 ≤ C := of_decide_eq_true h1
    omega
  rw [this, Bool.and_false]
theorem fits_yes {xs : List Int} {C : Int} {B : List (List Int)} (h1 : bnOk xs C = true) (h2 : B.flatten.Perm xs) (h3 : ∀ j, j < B.length → wsum (B.getD j []) 0 ≤ C) : fitsB xs C B = true := by
  unfold fitsB
  rw [h1, decide_eq_true (dn_of_perm h2), Bool.true_and, Bool.true_and, List.all_eq_true]
  intro ys hy
  obtain ⟨j, hj, rfl⟩ := List.mem_iff_getElem.1 hy
  have := h3 j hj
  simpa [List.getD, hj] using this
theorem fits_true {xs : List Int} {C : Int} {B : List (List Int)} (h : fitsB xs C B = true) : bnOk xs C = true ∧ B.flatten.Perm xs ∧ ∀ ys ∈ B, wsum ys 0 ≤ C := by
  unfold fitsB at h
  simp only [Bool.and_eq_true] at h
  exact ⟨h.1.1, perm_of_dn (of_decide_eq_true h.1.2), fun ys hy => of_decide_eq_true (List.all_eq_true.1 h.2 ys hy)⟩
theorem upTo_le (B : List (List Int)) (k : Nat) : upTo B k ≤ B.flatten.length := by
  unfold upTo
  have : (B.take k).flatten.length + (B.drop k).flatten.length = B.flatten.length := by rw [← List.length_append, ← List.flatten_append, List.take_append_drop]
  omega
theorem upTo_all {B : List (List Int)} {k : Nat} (h : B.length ≤ k) : (B.take k).flatten = B.flatten := by rw [List.take_of_length_le h]
theorem flat_succ {B : List (List Int)} {k : Nat} (h : k < B.length) : (B.take (k + 1)).flatten = (B.take k).flatten ++ B.getD k [] := by
  rw [List.take_succ_eq_append_getElem h, List.flatten_append]
  simp [List.getD, h]
set_option maxHeartbeats 800000 in
theorem equal_any (A A' : Option Addr) (n n' c c' : Nat) (xs ys : List Int) (w : World) (ha : Rd w w.heap.size A n xs) (hb : Rd w w.heap.size A' n' ys) (hn : n ≤ 1000000000) (hn' : n' ≤ 1000000000) (b : Bool) (h : decide (xs = ys) = b) :
    Calls Try.prog 19 #[.slice A n c, .slice A' n' c'] w (RetQ w (.bool b)) := by
  have hl := ha.len
  have hl' := hb.len
  by_cases hne : n = n'
  · subst hne
    have HH := Lib.hid h
    have e0 : (((n : Nat) : Int) != (n : Int)) = false := by simp
    clear h
    go_enter Try.func19, Try.ntmps19
    go_wp2
    go_loopw [13] (fun i wr => ∃ k q : Nat, k ≤ n ∧ i = .int .i64 k ∧ wr = w.drewN q ∧ Hid (∀ j, j < k → xs.getD j 0 = ys.getD j 0)) (fun i _ => n - (intOf i).toNat)
    case atStart => exact ⟨0, 0, by omega, rfl, rfl, Lib.hid (fun j hj => absurd hj (by omega))⟩
    case round =>
      obtain ⟨k, q, hk, rfl, rfl, HA⟩ := hrel
      by_cases hlt : k < n
      · obtain ⟨b1, o1, rfl, _, hc1⟩ := ha.at_ hlt
        obtain ⟨b2, o2, rfl, _, hc2⟩ := hb.at_ hlt
        have g1 := hc1 k hlt
        have g2 := hc2 k hlt
        obtain ⟨x, hx⟩ : ∃ x, xs.getD k 0 = x := ⟨_, rfl⟩
        obtain ⟨y, hy⟩ : ∃ x, ys.getD k 0 = x := ⟨_, rfl⟩
        rw [hx] at g1
        rw [hy] at g2
        have HX := Lib.hid hx
        have HY := Lib.hid hy
        clear hc1 hc2 ha hb hx hy
        have i1 : (0 : Int) ≤ (k : Int) := by omega
        have i2 : (k : Int) < (n : Int) := by omega
        have i3 : ((k : Int)).toNat = k := by omega
        by_cases hxy : x = y
        · subst hxy
          have hxx : (x != x) = false := by simp
          go_wp2
          go_quiet (fail)
          go_wp2
          go_roundw
          case rel =>
            refine ⟨k + 1, q + nq, by omega, by go_num, rfl, Lib.hid fun j hj => ?_⟩
            rcases Nat.lt_or_ge j k with h | h
            · exact HA.out j h
            · have : j = k := by omega
              subst this
              rw [HX.out, HY.out]
          case measure => simp [intOf]; omega
        · have hxx : (x != y) = true := bne_iff_ne.2 hxy
          go_wp2
          go_quiet (fail)
          go_wp2
          go_ret
          refine ⟨ret_bool ?_, q + nq, World.drewN_drewN _ _ _⟩
          rw [← HH.out]
          exact (decide_eq_false (fun e => hxy (by rw [← HX.out, ← HY.out, e]))).symm
      · have e : k = n := by omega
        subst e
        go_wp2
        go_ret
        refine ⟨ret_bool ?_, _, rfl⟩
        rw [← HH.out]
        exact (decide_eq_true (ext_getD (by omega) (by rw [hl]; exact HA.out))).symm
  · have e0 : (((n : Nat) : Int) != (n' : Int)) = true := by simp; omega
    obtain rfl : b = false := by rw [← h]; exact decide_eq_false (fun e => hne (by rw [← hl, ← hl', e]))
    clear h
    go_enter Try.func19, Try.ntmps19
    go_wp2
    go_ret
    exact ⟨rfl, 0, rfl⟩
end Go.Proofs.Ytbihdajoflaknaa
