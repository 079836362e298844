/- PanWhole, both: how far all numbers are weighed. -/
import Derived.Test.YtbpnpceikbedbaaPanCountsI
namespace Go.Proofs.Ytbpnpceikbedbaa
set_option linter.unusedVariables false
open Go.RowKit
/-- How many places behind the first one are greater than 0 without a gap. -/
def run1 : List Int → Nat
  | [] => 0
  | x :: l => if 0 < x then run1 l + 1 else 0
def whole (xs : List Int) : Nat := run1 (xs.drop 1)
theorem run1_le : ∀ l : List Int, run1 l ≤ l.length
  | [] => by simp [run1]
  | x :: l => by have := run1_le l; simp only [run1, List.length_cons]; split <;> omega
theorem run1_pos : ∀ (l : List Int) (k : Nat), k < run1 l → 0 < l.getD k 0
  | [], k, h => by simp [run1] at h
  | x :: l, 0, h => by
    simp only [run1] at h
    split at h
    · simpa
    · omega
  | x :: l, k + 1, h => by
    simp only [run1] at h
    split at h
    · have := run1_pos l k (by omega)
      simpa using this
    · omega
theorem run1_stop : ∀ (l : List Int), run1 l < l.length → ¬ 0 < l.getD (run1 l) 0
  | [], h => by simp at h
  | x :: l, h => by
    simp only [run1, List.length_cons] at h ⊢
    by_cases hx : 0 < x
    · rw [if_pos hx] at h ⊢
      have := run1_stop l (by omega)
      simpa using this
    · rw [if_neg hx]
      simpa using hx
theorem drop_getD (xs : List Int) (k : Nat) : (xs.drop 1).getD k 0 = xs.getD (k + 1) 0 := by
  simp [List.getD]
theorem drop_len (xs : List Int) : (xs.drop 1).length = xs.length - 1 := List.length_drop
theorem whole_pos {xs : List Int} {k : Nat} (h : k < whole xs) : 0 < xs.getD (k + 1) 0 := by
  rw [← drop_getD]
  exact run1_pos _ _ h
theorem whole_stop {xs : List Int} (h : whole xs + 1 < xs.length) : ¬ 0 < xs.getD (whole xs + 1) 0 := by
  rw [← drop_getD]
  exact run1_stop (xs.drop 1) (by rw [drop_len]; show whole xs < _; omega)
theorem whole_lt {xs : List Int} (h : 0 < xs.length) : whole xs + 1 ≤ xs.length := by
  have := run1_le (xs.drop 1)
  rw [drop_len] at this
  have e : whole xs = run1 (xs.drop 1) := rfl
  omega
set_option maxHeartbeats 400000 in
theorem specPanWhole_no (A : Option Addr) (n c : Nat) (xs : List Int) (w : World) (ha : Rd w w.heap.size A n xs) (hn : n ≤ 1000000000) (h : sumIn xs = false) :
    Calls Try.prog 24 #[.slice A n c] w (RetIB w 0 false) := by
  go_enter Try.func24, Try.ntmps24
  go_wp2_with (go_at_call 19; refine (specPanCounts_no _ _ _ _ _ ha hn h).mono ?_; rintro e w1 ⟨A1, n1, c1, rfl, ho, hb⟩)
  go_ret2
  exact ⟨rfl, hb⟩
set_option maxHeartbeats 400000 in
theorem specPanWhole_yes (A : Option Addr) (n c : Nat) (xs : List Int) (w : World) (ha : Rd w w.heap.size A n xs) (h : sumIn xs = true) :
    Calls Try.prog 24 #[.slice A n c] w (RetIB w (whole (pcs xs)) true) := by
  have hT := tn_600 h
  have HA := Lib.hid ha
  clear ha
  go_enter Try.func24, Try.ntmps24
  go_wp2_with fail
  refine (specPanCounts_yes _ _ _ _ _ HA.out h).mono ?_
  rintro e w1 ⟨A1, n1, c1, rfl, ho0, hb⟩
  have ho : Rd w1 w1.heap.size A1 n1 (pcs xs) := ho0
  have hl := ho.len
  have hw := whole_lt (xs := pcs xs) (by rw [pcs, Cn.rowf, Cn.rw_length]; omega)
  have hle : n1 ≤ 601 := by rw [← hl, pcs, Cn.rowf, Cn.rw_length]; omega
  have hpos := fun k => @whole_pos (pcs xs) k
  have hstop := @whole_stop (pcs xs)
  rw [hl] at hw hstop
  obtain ⟨q, hq⟩ : ∃ q, pcs xs = q := ⟨_, rfl⟩
  rw [hq] at ho hpos hstop hw ⊢
  obtain ⟨W, hW⟩ : ∃ W, whole q = W := ⟨_, rfl⟩
  rw [hW] at hpos hstop hw ⊢
  have HWW := Lib.hid (show whole (pcs xs) = W from by rw [hq, hW])
  have HP := Lib.hid hpos
  have HS := Lib.hid hstop
  have HO := Lib.hid ho
  have HB := Lib.hid hb
  clear hq hW hpos hstop ho ho0 hb hl
  go_wp2_with fail
  go_loop [6] (fun s => ∃ k : Nat, k ≤ W ∧ s = .int .i64 k) (fun s => W - (intOf s).toNat)
  case atStart => exact ⟨0, by omega, rfl⟩
  case round =>
    obtain ⟨k, hk, rfl⟩ := hrel
    by_cases hlt : k < W
    · obtain ⟨b1, o1, rfl, _, hc1⟩ := HO.out.at_ (k := k + 1) (by omega)
      have g1 := hc1 (k + 1) (by omega)
      have hx := HP.out k hlt
      obtain ⟨x, hxe⟩ : ∃ x, q.getD (k + 1) 0 = x := ⟨_, rfl⟩
      rw [hxe] at g1 hx
      have hd1 : decide ((k : Int) + 1 < (n1 : Int)) = true := by simp; omega
      have hd2 : decide (0 < x) = true := by simpa using hx
      have e1 : ((k : Int) + 1).toNat = k + 1 := by omega
      clear hc1 hxe hx
      go_wp2_with fail
      go_round
      case rel => exact ⟨k + 1, by omega, by go_num⟩
      case measure => simp [intOf]; omega
    · have hkW : k = W := by omega
      subst hkW
      by_cases hge : k + 1 < n1
      · obtain ⟨b1, o1, rfl, _, hc1⟩ := HO.out.at_ (k := k + 1) (by omega)
        have g1 := hc1 (k + 1) (by omega)
        have hx := HS.out hge
        obtain ⟨x, hxe⟩ : ∃ x, q.getD (k + 1) 0 = x := ⟨_, rfl⟩
        rw [hxe] at g1 hx
        have hd1 : decide ((k : Int) + 1 < (n1 : Int)) = true := by simp; omega
        have hd2 : decide (0 < x) = false := by simpa using hx
        have e1 : ((k : Int) + 1).toNat = k + 1 := by omega
        clear hc1 hxe hx
        go_wp2_with fail
        go_ret2
        exact ⟨by rw [HWW.out]; rfl, HB.out⟩
      · have hd1 : decide ((k : Int) + 1 < (n1 : Int)) = false := by simp; omega
        go_wp2_with fail
        go_ret2
        exact ⟨by rw [HWW.out]; rfl, HB.out⟩
set_option maxHeartbeats 400000 in
theorem implPanWhole_no (A : Option Addr) (n c : Nat) (xs : List Int) (w : World) (ha : Rd w w.heap.size A n xs) (hn : n ≤ 1000000000) (h : sumIn xs = false) :
    Calls Try.prog 23 #[.slice A n c] w (RetIB w 0 false) := by
  go_enter Try.func23, Try.ntmps23
  go_wp2_with (go_at_call 20; refine (implPanCounts_no _ _ _ _ _ ha hn h).mono ?_; rintro e w1 ⟨A1, n1, c1, rfl, ho, hb⟩)
  go_ret2
  exact ⟨rfl, hb⟩
set_option maxHeartbeats 400000 in
theorem implPanWhole_yes (A : Option Addr) (n c : Nat) (xs : List Int) (w : World) (ha : Rd w w.heap.size A n xs) (h : sumIn xs = true) :
    Calls Try.prog 23 #[.slice A n c] w (RetIB w (whole (pcs xs)) true) := by
  have hT := tn_600 h
  have HA := Lib.hid ha
  clear ha
  go_enter Try.func23, Try.ntmps23
  go_wp2_with fail
  refine (implPanCounts_yes _ _ _ _ _ HA.out h).mono ?_
  rintro e w1 ⟨A1, n1, c1, rfl, ho0, hb⟩
  have ho : Rd w1 w1.heap.size A1 n1 (pcs xs) := ho0.rd
  have hl := ho.len
  have hw := whole_lt (xs := pcs xs) (by rw [pcs, Cn.rowf, Cn.rw_length]; omega)
  have hle : n1 ≤ 601 := by rw [← hl, pcs, Cn.rowf, Cn.rw_length]; omega
  have hpos := fun k => @whole_pos (pcs xs) k
  have hstop := @whole_stop (pcs xs)
  rw [hl] at hw hstop
  obtain ⟨q, hq⟩ : ∃ q, pcs xs = q := ⟨_, rfl⟩
  rw [hq] at ho hpos hstop hw ⊢
  obtain ⟨W, hW⟩ : ∃ W, whole q = W := ⟨_, rfl⟩
  rw [hW] at hpos hstop hw ⊢
  have HWW := Lib.hid (show whole (pcs xs) = W from by rw [hq, hW])
  have HP := Lib.hid hpos
  have HS := Lib.hid hstop
  have HO := Lib.hid ho
  have HB := Lib.hid hb
  clear hq hW hpos hstop ho ho0 hb hl
  go_wp2_with fail
  go_loop [6] (fun s => ∃ k : Nat, k ≤ W ∧ s = .int .i64 k) (fun s => W - (intOf s).toNat)
  case atStart => exact ⟨0, by omega, rfl⟩
  case round =>
    obtain ⟨k, hk, rfl⟩ := hrel
    by_cases hlt : k < W
    · obtain ⟨b1, o1, rfl, _, hc1⟩ := HO.out.at_ (k := k + 1) (by omega)
      have g1 := hc1 (k + 1) (by omega)
      have hx := HP.out k hlt
      obtain ⟨x, hxe⟩ : ∃ x, q.getD (k + 1) 0 = x := ⟨_, rfl⟩
      rw [hxe] at g1 hx
      have hd1 : decide ((k : Int) + 1 < (n1 : Int)) = true := by simp; omega
      have hd2 : decide (0 < x) = true := by simpa using hx
      have e1 : ((k : Int) + 1).toNat = k + 1 := by omega
      clear hc1 hxe hx
      go_wp2_with fail
      go_round
      case rel => exact ⟨k + 1, by omega, by go_num⟩
      case measure => simp [intOf]; omega
    · have hkW : k = W := by omega
      subst hkW
      by_cases hge : k + 1 < n1
      · obtain ⟨b1, o1, rfl, _, hc1⟩ := HO.out.at_ (k := k + 1) (by omega)
        have g1 := hc1 (k + 1) (by omega)
        have hx := HS.out hge
        obtain ⟨x, hxe⟩ : ∃ x, q.getD (k + 1) 0 = x := ⟨_, rfl⟩
        rw [hxe] at g1 hx
        have hd1 : decide ((k : Int) + 1 < (n1 : Int)) = true := by simp; omega
        have hd2 : decide (0 < x) = false := by simpa using hx
        have e1 : ((k : Int) + 1).toNat = k + 1 := by omega
        clear hc1 hxe hx
        go_wp2_with fail
        go_ret2
        exact ⟨by rw [HWW.out]; rfl, HB.out⟩
      · have hd1 : decide ((k : Int) + 1 < (n1 : Int)) = false := by simp; omega
        go_wp2_with fail
        go_ret2
        exact ⟨by rw [HWW.out]; rfl, HB.out⟩
end Go.Proofs.Ytbpnpceikbedbaa
