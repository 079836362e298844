/- PanCounts, both: the counts of all weighings. -/
import Derived.Test.YtbpnpceikbedbaaCntW
import Derived.Test.YtbpnpceikbedbaaClone
namespace Go.Proofs.Ytbpnpceikbedbaa
set_option linter.unusedVariables false
open Go.RowKit
theorem wsum_tn : ∀ (l : List Int) (s : Int), (∀ x ∈ l, 1 ≤ x ∧ x ≤ 60) → 0 ≤ s → s ≤ 1000000 → l.length ≤ 10 → wsum l s = s + (Cn.tn l : Int)
  | [], s, _, _, _, _ => by simp [wsum, Cn.tn]
  | x :: l, s, h, h0, h1, hl => by
    have hx := h x (by simp)
    have ht := Cn.tn_le (xs := x :: l) (m := 60) (fun y hy => (h y hy).2)
    have e : wrap64 (s + x) = s + x := IntWalk.wrap64_in _ (by omega)
    have key : ∀ (l : List Int) (s : Int), (∀ x ∈ l, 1 ≤ x ∧ x ≤ 60) → 0 ≤ s → s + 60 * (l.length : Int) ≤ 2000000 → wsum l s = s + (Cn.tn l : Int) := by
      intro l
      induction l with
      | nil => intro s _ _ _; simp [wsum, Cn.tn]
      | cons y l ih =>
        intro s h h0 h1
        have hy := h y (by simp)
        simp only [List.length_cons] at h1
        have e : wrap64 (s + y) = s + y := IntWalk.wrap64_in _ (by omega)
        simp only [wsum, Cn.tn, e]
        rw [ih (s + y) (fun z hz => h z (by simp [hz])) (by omega) (by omega)]
        omega
    exact key (x :: l) s h h0 (by simp only [List.length_cons] at hl ⊢; omega)
theorem total_tn {xs : List Int} (h : sumIn xs = true) : wsum xs 0 = (Cn.tn xs : Int) := by
  rw [wsum_tn xs 0 (sumIn_get h) (by omega) (by omega) (sumIn_len h)]; omega
theorem tn_600 {xs : List Int} (h : sumIn xs = true) : Cn.tn xs ≤ 600 := by
  have h1 := Cn.tn_le (xs := xs) (m := 60) (fun x hx => (sumIn_get h x hx).2)
  have h2 := sumIn_len h
  omega
/-- The counts from 0 to the total. -/
def pcs (xs : List Int) : List Int := Cn.rowf (Cn.cf xs) 0 (Cn.tn xs + 1)
theorem pcs_of (xs : List Int) : (Cn.rowf (Cn.cf xs) (-(Cn.tn xs : Int)) (2 * Cn.tn xs + 1)).drop (Cn.tn xs) = pcs xs := by
  unfold pcs Cn.rowf
  rw [Cn.rw_drop]
  rw [show 2 * Cn.tn xs + 1 - Cn.tn xs = Cn.tn xs + 1 from by omega]
  apply Cn.rw_congr
  intro j _
  congr 1; omega
set_option maxHeartbeats 400000 in
theorem specPanCounts_no (A : Option Addr) (n c : Nat) (xs : List Int) (w : World) (ha : Rd w w.heap.size A n xs) (hn : n ≤ 1000000000) (h : sumIn xs = false) :
    Calls Try.prog 19 #[.slice A n c] w (RetRdB w [] false) := by
  go_enter Try.func19, Try.ntmps19
  go_wp2_with (go_at_call 29; refine (specSumIn_any _ _ _ _ _ ha hn _ h).mono ?_; rintro e w' ⟨rfl, rfl⟩)
  go_ret2
  exact ⟨_, _, _, rfl, (own_empty w).rd, (Below.refl _ _).alloc (Nat.le_refl _) _⟩
set_option maxHeartbeats 400000 in
theorem specPanCounts_yes (A : Option Addr) (n c : Nat) (xs : List Int) (w : World) (ha : Rd w w.heap.size A n xs) (h : sumIn xs = true) :
    Calls Try.prog 19 #[.slice A n c] w (RetRdB w (pcs xs) true) := by
  have hn := sumIn_len h
  have hl := ha.len
  have hT := tn_600 h
  have HT := Lib.hid (total_tn h)
  have HP := Lib.hid (pcs_of xs)
  have HA := Lib.hid ha
  have HH := Lib.hid h
  clear ha h
  go_enter Try.func19, Try.ntmps19
  go_wp2_with fail
  refine (specSumIn_any _ _ _ _ _ HA.out (by omega) _ HH.out).mono ?_
  rintro e w' ⟨rfl, rfl⟩
  go_wp2_with fail
  refine (l7Counts_any _ _ _ _ _ HA.out HH.out).mono ?_
  rintro e w1 ⟨A1, n1, c1, rfl, ho, hb⟩
  have hl1 := ho.len
  rw [Cn.rowf, Cn.rw_length] at hl1
  subst hl1
  obtain ⟨g, rfl, hg1, hg2⟩ := ho.form (by omega)
  have hcc := ho.cap_le
  have HO := Lib.hid ho
  have HB := Lib.hid hb
  have HA1 := Lib.hid (HA.out.below hb).lt
  clear ho hb
  go_wp2_with fail
  refine (l4Total_any _ _ _ _ _ HA1.out (by omega)).mono ?_
  rintro e w2 ⟨rfl, rfl⟩
  rw [HT.out]
  obtain ⟨T, hTe⟩ : ∃ T, Cn.tn xs = T := ⟨_, rfl⟩
  have hO := own_drop HO.out (Cn.tn xs)
  rw [HP.out] at hO
  rw [hTe] at hO hT hcc ⊢
  have HOO := Lib.hid hO
  clear HO HP HT hO
  have hT1 : ¬ c1 = T := by omega
  have hT2 : T ≤ 2 * T + 1 := by omega
  have HE := Lib.hid hTe
  clear hTe
  go_wp2_with fail
  go_ret2
  exact ⟨_, _, _, rfl, HOO.out, HB.out⟩
end Go.Proofs.Ytbpnpceikbedbaa
