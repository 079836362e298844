
/- PowerThue, both packages: the walks. -/
import Derived.Test.YtbfpllmoaooadaaThueP
import Derived.Test.YtbfpllmoaooadaaPartsW
import Derived.Laws.BitsAllLaws
namespace Go.Proofs.Ytbfpllmoaooadaa
set_option linter.unusedVariables false
open Go.RowKit
theorem onesCount64_any (c : Nat) (hc : c < 16) (w : World) : Calls Try.prog 94 #[.int .u64 c] w (RetV w (.int .i64 (Th.ones c))) := by
  go_enter Try.func94, Try.ntmps94
  go_wp2_with fail
  go_ret
  refine ⟨ret_int ?_, rfl⟩
  rcases (show c = 0 ∨ c = 1 ∨ c = 2 ∨ c = 3 ∨ c = 4 ∨ c = 5 ∨ c = 6 ∨ c = 7 ∨ c = 8 ∨ c = 9 ∨ c = 10 ∨ c = 11 ∨ c = 12 ∨ c = 13 ∨ c = 14 ∨ c = 15 from by omega) with rfl | rfl | rfl | rfl | rfl | rfl | rfl | rfl | rfl | rfl | rfl | rfl | rfl | rfl | rfl | rfl <;> kernel_rfl
theorem onesCount_any (c : Nat) (hc : c < 16) (w : World) : Calls Try.prog 79 #[.int .u64 c] w (RetV w (.int .i64 (Th.ones c))) := by
  go_enter Try.func79, Try.ntmps79
  go_wp2_with fail
  refine (onesCount64_any c hc _).mono ?_
  rintro e w' ⟨rfl, rfl⟩
  go_wp2_with fail
  go_ret
  exact ⟨rfl, rfl⟩
theorem wrapU_small (c : Nat) (hc : c < 16) : IntKind.u64.wrap (c : Int) = (c : Int) := by
  rcases (show c = 0 ∨ c = 1 ∨ c = 2 ∨ c = 3 ∨ c = 4 ∨ c = 5 ∨ c = 6 ∨ c = 7 ∨ c = 8 ∨ c = 9 ∨ c = 10 ∨ c = 11 ∨ c = 12 ∨ c = 13 ∨ c = 14 ∨ c = 15 from by omega) with rfl | rfl | rfl | rfl | rfl | rfl | rfl | rfl | rfl | rfl | rfl | rfl | rfl | rfl | rfl | rfl <;> kernel_rfl
theorem places_any (c : Nat) (hc : c < 16) (w : World) : Calls Try.prog 63 #[.int .i64 c] w (RetV w (.int .i64 (Th.ones c))) := by
  have hk := wrapU_small c hc
  go_enter Try.func63, Try.ntmps63
  go_wp2_with fail
  refine (onesCount_any c hc _).mono ?_
  rintro e w' ⟨rfl, rfl⟩
  go_wp2_with fail
  go_ret
  exact ⟨rfl, rfl⟩
/-- What holds at a round's head. -/
def TT (w : World) (k p q : Nat) (A : Option Addr) (c : Nat) (A' : Option Addr) (c' : Nat) (wr : World) : Prop :=
  Own wr w.heap.size A p c (Th.evn k) ∧ Own wr w.heap.size A' q c' (Th.odd k) ∧ (blk A = none ∨ blk A ≠ blk A') ∧ Below w.heap.size w wr
theorem TT.start (w : World) {t t' : TypeId} (ht : t = 3) (ht' : t' = 3) : TT w 0 0 0 (some ⟨w.heap.size, 0, none⟩) 0 (some ⟨w.heap.size + 1, 0, none⟩) 0 ((w.alloc (.cells #[] t)).alloc (.cells #[] t')) := by
  subst ht ht'
  exact ⟨(own_empty w).alloc _, own_emptyN rfl (by simp) (by simp), Or.inr (by simp [blk]), ((Below.refl _ _).alloc (Nat.le_refl _) _).alloc (by simp) _⟩
section
variable {w wr w1 : World} {k p q c c' c2 : Nat} {A A' A2 : Option Addr}
theorem TT.even (h : TT w k p q A c A' c' wr) (he : Th.ones k % 2 = 0) (ho : Own w1 w.heap.size A2 (p + 1) c2 (Th.evn k ++ [(k : Int)])) (hg : wr.grownBy w1 (blk A))
    (hb : blk A2 = blk A ∨ (w.heap.size ≤ wr.heap.size ∧ ∃ g, blk A2 = some g ∧ wr.heap.size ≤ g)) : TT w (k + 1) (p + 1) q A2 c2 A' c' w1 := by
  obtain ⟨hF, hS, hap, hB⟩ := h
  obtain ⟨e1, e2⟩ := Th.evn_yes he
  unfold TT
  rw [e1, e2]
  exact ⟨ho, hS.grown hg (ap_symm hap), ap_push hap (fun g e => (hS.lt g e).2) (hb.imp id fun h => h.2), hB.grown hg hB.size (fun g e => (hF.lt g e).1)⟩
theorem TT.odd (h : TT w k p q A c A' c' wr) (he : ¬ Th.ones k % 2 = 0) (ho : Own w1 w.heap.size A2 (q + 1) c2 (Th.odd k ++ [(k : Int)])) (hg : wr.grownBy w1 (blk A'))
    (hb : blk A2 = blk A' ∨ (w.heap.size ≤ wr.heap.size ∧ ∃ g, blk A2 = some g ∧ wr.heap.size ≤ g)) : TT w (k + 1) p (q + 1) A c A2 c2 w1 := by
  obtain ⟨hF, hS, hap, hB⟩ := h
  obtain ⟨e1, e2⟩ := Th.evn_no he
  unfold TT
  rw [e1, e2]
  exact ⟨hF.grown hg hap, ho, ap_symm (ap_push (ap_symm hap) (fun g e => (hF.lt g e).2) (hb.imp id fun h => h.2)), hB.grown hg hB.size (fun g e => (hS.lt g e).1)⟩
end
theorem ones_le (k : Nat) : Th.ones k ≤ 4 := by unfold Th.ones; omega
theorem and_ones (k : Nat) (hk : k < 16) : bits .and .i64 (k : Int) 1 = ((k % 2 : Nat) : Int) ∧ bits .and .i64 ((k : Int) / 2) 1 = ((k / 2 % 2 : Nat) : Int) ∧ bits .and .i64 ((k : Int) / 4) 1 = ((k / 4 % 2 : Nat) : Int) ∧ bits .and .i64 ((k : Int) / 8) 1 = ((k / 8 % 2 : Nat) : Int) := by
  rcases (show k = 0 ∨ k = 1 ∨ k = 2 ∨ k = 3 ∨ k = 4 ∨ k = 5 ∨ k = 6 ∨ k = 7 ∨ k = 8 ∨ k = 9 ∨ k = 10 ∨ k = 11 ∨ k = 12 ∨ k = 13 ∨ k = 14 ∨ k = 15 from by omega) with rfl | rfl | rfl | rfl | rfl | rfl | rfl | rfl | rfl | rfl | rfl | rfl | rfl | rfl | rfl | rfl <;> exact ⟨by kernel_rfl, by kernel_rfl, by kernel_rfl, by kernel_rfl⟩
set_option maxHeartbeats 800000 in
theorem specThue_no (a : Int) (h : ¬ (1 ≤ a ∧ a ≤ 4)) (w : World) : Calls Try.prog 31 #[.int .i64 a] w (RetOwn2B w [] [] false) := by
  have PS := Lib.hid (TT.start w (t := 3) (t' := 3) rfl rfl)
  have HN := Lib.hid h
  clear h
  go_enter Try.func31, Try.ntmps31
  go_wp2_with fail
  refine (l6In_no _ _ _ _ HN.out).mono ?_
  rintro e w1 ⟨rfl, rfl⟩
  go_wp2_with fail
  go_ret3
  exact ⟨_, _, _, _, _, _, rfl, PS.out.1, PS.out.2.1, PS.out.2.2.1, PS.out.2.2.2⟩
set_option maxHeartbeats 800000 in
theorem implThue_no (a : Int) (h : ¬ (1 ≤ a ∧ a ≤ 4)) (w : World) : Calls Try.prog 32 #[.int .i64 a] w (RetOwn2B w [] [] false) := by
  have PS := Lib.hid (TT.start w (t := 3) (t' := 3) rfl rfl)
  have HN := Lib.hid h
  by_cases h1 : a < 1
  · have d1 : decide (a < 1) = true := decide_eq_true h1
    clear h
    go_enter Try.func32, Try.ntmps32
    go_wp2_with fail
    go_ret3
    exact ⟨_, _, _, _, _, _, rfl, PS.out.1, PS.out.2.1, PS.out.2.2.1, PS.out.2.2.2⟩
  · have d1 : decide (a < 1) = false := decide_eq_false h1
    have d2 : decide (4 < a) = true := decide_eq_true (by omega)
    clear h
    go_enter Try.func32, Try.ntmps32
    go_wp2_with fail
    go_ret3
    exact ⟨_, _, _, _, _, _, rfl, PS.out.1, PS.out.2.1, PS.out.2.2.1, PS.out.2.2.2⟩
end Go.Proofs.Ytbfpllmoaooadaa
