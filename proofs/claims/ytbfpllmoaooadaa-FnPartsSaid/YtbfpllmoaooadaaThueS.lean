
/- PowerThue of spec: the walk. -/
import Derived.Test.YtbfpllmoaooadaaThueW
namespace Go.Proofs.Ytbfpllmoaooadaa
set_option linter.unusedVariables false
open Go.RowKit
set_option maxRecDepth 100000 in
set_option maxHeartbeats 3200000 in
theorem specThue_yes (n : Int) (N : Nat) (hn : n = 1 ∧ N = 2 ∨ n = 2 ∧ N = 4 ∨ n = 3 ∧ N = 8 ∨ n = 4 ∧ N = 16) (w : World) :
    Calls Try.prog 31 #[.int .i64 n] w (RetOwn2B w (Th.evn N) (Th.odd N) true) := by
  have PS := Lib.hid (TT.start w (t := 3) (t' := 3) rfl rfl)
  rcases hn with ⟨rfl, rfl⟩ | ⟨rfl, rfl⟩ | ⟨rfl, rfl⟩ | ⟨rfl, rfl⟩
  · go_enter Try.func31, Try.ntmps31
    go_wp2_with fail
    refine (l6In_yes _ _ _ _ (by omega) (by omega)).mono ?_
    rintro e w1 ⟨rfl, rfl⟩
    go_wp2_with fail
    go_loopw [5, 6, 7] (fun f s iv wr => ∃ (k p q : Nat) (A : Option Addr) (c : Nat) (A' : Option Addr) (c' : Nat), k ≤ 2 ∧ p ≤ k ∧ q ≤ k ∧ iv = .int .i64 k ∧ f = .slice A p c ∧ s = .slice A' q c' ∧ Hid (TT w k p q A c A' c' wr)) (fun f s iv _ => 2 - (intOf iv).toNat)
    case atStart => exact ⟨0, 0, 0, _, _, _, _, by omega, by omega, by omega, rfl, rfl, rfl, PS⟩
    case round =>
      obtain ⟨k, p, q, A, c, A', c', hk, hp, hq, rfl, rfl, rfl, HT⟩ := hrel
      clear PS
      by_cases hlt : k < 2
      · have hltz : (k : Int) < 2 := by omega
        have dv : decide ((k : Int) < 2) = true := decide_eq_true hltz
        have HF := Lib.hid HT.out.1
        have HS := Lib.hid HT.out.2.1
        have HW := Lib.hid HT.out.2.2.2
        obtain ⟨f0, f1, f2, f3⟩ := and_ones k (by omega)
        obtain ⟨a0, h0⟩ : ∃ a : Nat, k % 2 = a := ⟨_, rfl⟩
        obtain ⟨a1, h1⟩ : ∃ a : Nat, k / 2 % 2 = a := ⟨_, rfl⟩
        obtain ⟨a2, h2⟩ : ∃ a : Nat, k / 4 % 2 = a := ⟨_, rfl⟩
        obtain ⟨a3, h3⟩ : ∃ a : Nat, k / 8 % 2 = a := ⟨_, rfl⟩
        obtain ⟨o, ho⟩ : ∃ o, a0 + a1 + a2 + a3 = o := ⟨_, rfl⟩
        have HO : Hid (Th.ones k = o) := Lib.hid (by unfold Th.ones; rw [h0, h1, h2, h3, ho])
        rw [h0] at f0
        rw [h1] at f1
        rw [h2] at f2
        rw [h3] at f3
        have b0 : a0 ≤ 1 := by omega
        have b1 : a1 ≤ 1 := by omega
        have b2 : a2 ≤ 1 := by omega
        have b3 : a3 ≤ 1 := by omega
        have hoe := Lib.hid ho
        clear h0 h1 h2 h3 ho
        by_cases he : o % 2 = 0
        · have hm : (((a0 : Int) + (a1 : Int) + (a2 : Int) + (a3 : Int)) % 2 == 0) = true := by have := hoe.out; simp; omega
          go_wp2_with (at_builtin; refine wpList_pushN rfl _ _ _ rfl Try.underlying22 rfl HF.out rfl (by simp) (by omega) HW.out.size ?_; intro A2 c2 w3 ho hg hbk)
          have N := Lib.hid (HT.out.even (by rw [HO.out]; exact he) ho hg hbk)
          clear ho hg hbk
          go_wp2_with fail
          go_roundw
          case rel => exact ⟨k + 1, p + 1, q, A2, c2, A', c', by omega, by omega, by omega, by go_num, rfl, rfl, N⟩
          case measure => simp [intOf]; omega
        · have hm : (((a0 : Int) + (a1 : Int) + (a2 : Int) + (a3 : Int)) % 2 == 0) = false := by have := hoe.out; simp; omega
          go_wp2_with (at_builtin; refine wpList_pushN rfl _ _ _ rfl Try.underlying22 rfl HS.out rfl (by simp) (by omega) HW.out.size ?_; intro A2 c2 w3 ho hg hbk)
          have N := Lib.hid (HT.out.odd (by rw [HO.out]; exact he) ho hg hbk)
          clear ho hg hbk
          go_wp2_with fail
          go_roundw
          case rel => exact ⟨k + 1, p, q + 1, A, c, A2, c2, by omega, by omega, by omega, by go_num, rfl, rfl, N⟩
          case measure => simp [intOf]; omega
      · obtain rfl : k = 2 := by omega
        go_wp2_with fail
        go_ret3
        exact ⟨_, _, _, _, _, _, rfl, HT.out.1, HT.out.2.1, HT.out.2.2.1, HT.out.2.2.2⟩
  · go_enter Try.func31, Try.ntmps31
    go_wp2_with fail
    refine (l6In_yes _ _ _ _ (by omega) (by omega)).mono ?_
    rintro e w1 ⟨rfl, rfl⟩
    go_wp2_with fail
    go_loopw [5, 6, 7] (fun f s iv wr => ∃ (k p q : Nat) (A : Option Addr) (c : Nat) (A' : Option Addr) (c' : Nat), k ≤ 4 ∧ p ≤ k ∧ q ≤ k ∧ iv = .int .i64 k ∧ f = .slice A p c ∧ s = .slice A' q c' ∧ Hid (TT w k p q A c A' c' wr)) (fun f s iv _ => 4 - (intOf iv).toNat)
    case atStart => exact ⟨0, 0, 0, _, _, _, _, by omega, by omega, by omega, rfl, rfl, rfl, PS⟩
    case round =>
      obtain ⟨k, p, q, A, c, A', c', hk, hp, hq, rfl, rfl, rfl, HT⟩ := hrel
      clear PS
      by_cases hlt : k < 4
      · have hltz : (k : Int) < 4 := by omega
        have dv : decide ((k : Int) < 4) = true := decide_eq_true hltz
        have HF := Lib.hid HT.out.1
        have HS := Lib.hid HT.out.2.1
        have HW := Lib.hid HT.out.2.2.2
        obtain ⟨f0, f1, f2, f3⟩ := and_ones k (by omega)
        obtain ⟨a0, h0⟩ : ∃ a : Nat, k % 2 = a := ⟨_, rfl⟩
        obtain ⟨a1, h1⟩ : ∃ a : Nat, k / 2 % 2 = a := ⟨_, rfl⟩
        obtain ⟨a2, h2⟩ : ∃ a : Nat, k / 4 % 2 = a := ⟨_, rfl⟩
        obtain ⟨a3, h3⟩ : ∃ a : Nat, k / 8 % 2 = a := ⟨_, rfl⟩
        obtain ⟨o, ho⟩ : ∃ o, a0 + a1 + a2 + a3 = o := ⟨_, rfl⟩
        have HO : Hid (Th.ones k = o) := Lib.hid (by unfold Th.ones; rw [h0, h1, h2, h3, ho])
        rw [h0] at f0
        rw [h1] at f1
        rw [h2] at f2
        rw [h3] at f3
        have b0 : a0 ≤ 1 := by omega
        have b1 : a1 ≤ 1 := by omega
        have b2 : a2 ≤ 1 := by omega
        have b3 : a3 ≤ 1 := by omega
        have hoe := Lib.hid ho
        clear h0 h1 h2 h3 ho
        by_cases he : o % 2 = 0
        · have hm : (((a0 : Int) + (a1 : Int) + (a2 : Int) + (a3 : Int)) % 2 == 0) = true := by have := hoe.out; simp; omega
          go_wp2_with (at_builtin; refine wpList_pushN rfl _ _ _ rfl Try.underlying22 rfl HF.out rfl (by simp) (by omega) HW.out.size ?_; intro A2 c2 w3 ho hg hbk)
          have N := Lib.hid (HT.out.even (by rw [HO.out]; exact he) ho hg hbk)
          clear ho hg hbk
          go_wp2_with fail
          go_roundw
          case rel => exact ⟨k + 1, p + 1, q, A2, c2, A', c', by omega, by omega, by omega, by go_num, rfl, rfl, N⟩
          case measure => simp [intOf]; omega
        · have hm : (((a0 : Int) + (a1 : Int) + (a2 : Int) + (a3 : Int)) % 2 == 0) = false := by have := hoe.out; simp; omega
          go_wp2_with (at_builtin; refine wpList_pushN rfl _ _ _ rfl Try.underlying22 rfl HS.out rfl (by simp) (by omega) HW.out.size ?_; intro A2 c2 w3 ho hg hbk)
          have N := Lib.hid (HT.out.odd (by rw [HO.out]; exact he) ho hg hbk)
          clear ho hg hbk
          go_wp2_with fail
          go_roundw
          case rel => exact ⟨k + 1, p, q + 1, A, c, A2, c2, by omega, by omega, by omega, by go_num, rfl, rfl, N⟩
          case measure => simp [intOf]; omega
      · obtain rfl : k = 4 := by omega
        go_wp2_with fail
        go_ret3
        exact ⟨_, _, _, _, _, _, rfl, HT.out.1, HT.out.2.1, HT.out.2.2.1, HT.out.2.2.2⟩
  · go_enter Try.func31, Try.ntmps31
    go_wp2_with fail
    refine (l6In_yes _ _ _ _ (by omega) (by omega)).mono ?_
    rintro e w1 ⟨rfl, rfl⟩
    go_wp2_with fail
    go_loopw [5, 6, 7] (fun f s iv wr => ∃ (k p q : Nat) (A : Option Addr) (c : Nat) (A' : Option Addr) (c' : Nat), k ≤ 8 ∧ p ≤ k ∧ q ≤ k ∧ iv = .int .i64 k ∧ f = .slice A p c ∧ s = .slice A' q c' ∧ Hid (TT w k p q A c A' c' wr)) (fun f s iv _ => 8 - (intOf iv).toNat)
    case atStart => exact ⟨0, 0, 0, _, _, _, _, by omega, by omega, by omega, rfl, rfl, rfl, PS⟩
    case round =>
      obtain ⟨k, p, q, A, c, A', c', hk, hp, hq, rfl, rfl, rfl, HT⟩ := hrel
      clear PS
      by_cases hlt : k < 8
      · have hltz : (k : Int) < 8 := by omega
        have dv : decide ((k : Int) < 8) = true := decide_eq_true hltz
        have HF := Lib.hid HT.out.1
        have HS := Lib.hid HT.out.2.1
        have HW := Lib.hid HT.out.2.2.2
        obtain ⟨f0, f1, f2, f3⟩ := and_ones k (by omega)
        obtain ⟨a0, h0⟩ : ∃ a : Nat, k % 2 = a := ⟨_, rfl⟩
        obtain ⟨a1, h1⟩ : ∃ a : Nat, k / 2 % 2 = a := ⟨_, rfl⟩
        obtain ⟨a2, h2⟩ : ∃ a : Nat, k / 4 % 2 = a := ⟨_, rfl⟩
        obtain ⟨a3, h3⟩ : ∃ a : Nat, k / 8 % 2 = a := ⟨_, rfl⟩
        obtain ⟨o, ho⟩ : ∃ o, a0 + a1 + a2 + a3 = o := ⟨_, rfl⟩
        have HO : Hid (Th.ones k = o) := Lib.hid (by unfold Th.ones; rw [h0, h1, h2, h3, ho])
        rw [h0] at f0
        rw [h1] at f1
        rw [h2] at f2
        rw [h3] at f3
        have b0 : a0 ≤ 1 := by omega
        have b1 : a1 ≤ 1 := by omega
        have b2 : a2 ≤ 1 := by omega
        have b3 : a3 ≤ 1 := by omega
        have hoe := Lib.hid ho
        clear h0 h1 h2 h3 ho
        by_cases he : o % 2 = 0
        · have hm : (((a0 : Int) + (a1 : Int) + (a2 : Int) + (a3 : Int)) % 2 == 0) = true := by have := hoe.out; simp; omega
          go_wp2_with (at_builtin; refine wpList_pushN rfl _ _ _ rfl Try.underlying22 rfl HF.out rfl (by simp) (by omega) HW.out.size ?_; intro A2 c2 w3 ho hg hbk)
          have N := Lib.hid (HT.out.even (by rw [HO.out]; exact he) ho hg hbk)
          clear ho hg hbk
          go_wp2_with fail
          go_roundw
          case rel => exact ⟨k + 1, p + 1, q, A2, c2, A', c', by omega, by omega, by omega, by go_num, rfl, rfl, N⟩
          case measure => simp [intOf]; omega
        · have hm : (((a0 : Int) + (a1 : Int) + (a2 : Int) + (a3 : Int)) % 2 == 0) = false := by have := hoe.out; simp; omega
          go_wp2_with (at_builtin; refine wpList_pushN rfl _ _ _ rfl Try.underlying22 rfl HS.out rfl (by simp) (by omega) HW.out.size ?_; intro A2 c2 w3 ho hg hbk)
          have N := Lib.hid (HT.out.odd (by rw [HO.out]; exact he) ho hg hbk)
          clear ho hg hbk
          go_wp2_with fail
          go_roundw
          case rel => exact ⟨k + 1, p, q + 1, A, c, A2, c2, by omega, by omega, by omega, by go_num, rfl, rfl, N⟩
          case measure => simp [intOf]; omega
      · obtain rfl : k = 8 := by omega
        go_wp2_with fail
        go_ret3
        exact ⟨_, _, _, _, _, _, rfl, HT.out.1, HT.out.2.1, HT.out.2.2.1, HT.out.2.2.2⟩
  · go_enter Try.func31, Try.ntmps31
    go_wp2_with fail
    refine (l6In_yes _ _ _ _ (by omega) (by omega)).mono ?_
    rintro e w1 ⟨rfl, rfl⟩
    go_wp2_with fail
    go_loopw [5, 6, 7] (fun f s iv wr => ∃ (k p q : Nat) (A : Option Addr) (c : Nat) (A' : Option Addr) (c' : Nat), k ≤ 16 ∧ p ≤ k ∧ q ≤ k ∧ iv = .int .i64 k ∧ f = .slice A p c ∧ s = .slice A' q c' ∧ Hid (TT w k p q A c A' c' wr)) (fun f s iv _ => 16 - (intOf iv).toNat)
    case atStart => exact ⟨0, 0, 0, _, _, _, _, by omega, by omega, by omega, rfl, rfl, rfl, PS⟩
    case round =>
      obtain ⟨k, p, q, A, c, A', c', hk, hp, hq, rfl, rfl, rfl, HT⟩ := hrel
      clear PS
      by_cases hlt : k < 16
      · have hltz : (k : Int) < 16 := by omega
        have dv : decide ((k : Int) < 16) = true := decide_eq_true hltz
        have HF := Lib.hid HT.out.1
        have HS := Lib.hid HT.out.2.1
        have HW := Lib.hid HT.out.2.2.2
        obtain ⟨f0, f1, f2, f3⟩ := and_ones k (by omega)
        obtain ⟨a0, h0⟩ : ∃ a : Nat, k % 2 = a := ⟨_, rfl⟩
        obtain ⟨a1, h1⟩ : ∃ a : Nat, k / 2 % 2 = a := ⟨_, rfl⟩
        obtain ⟨a2, h2⟩ : ∃ a : Nat, k / 4 % 2 = a := ⟨_, rfl⟩
        obtain ⟨a3, h3⟩ : ∃ a : Nat, k / 8 % 2 = a := ⟨_, rfl⟩
        obtain ⟨o, ho⟩ : ∃ o, a0 + a1 + a2 + a3 = o := ⟨_, rfl⟩
        have HO : Hid (Th.ones k = o) := Lib.hid (by unfold Th.ones; rw [h0, h1, h2, h3, ho])
        rw [h0] at f0
        rw [h1] at f1
        rw [h2] at f2
        rw [h3] at f3
        have b0 : a0 ≤ 1 := by omega
        have b1 : a1 ≤ 1 := by omega
        have b2 : a2 ≤ 1 := by omega
        have b3 : a3 ≤ 1 := by omega
        have hoe := Lib.hid ho
        clear h0 h1 h2 h3 ho
        by_cases he : o % 2 = 0
        · have hm : (((a0 : Int) + (a1 : Int) + (a2 : Int) + (a3 : Int)) % 2 == 0) = true := by have := hoe.out; simp; omega
          go_wp2_with (at_builtin; refine wpList_pushN rfl _ _ _ rfl Try.underlying22 rfl HF.out rfl (by simp) (by omega) HW.out.size ?_; intro A2 c2 w3 ho hg hbk)
          have N := Lib.hid (HT.out.even (by rw [HO.out]; exact he) ho hg hbk)
          clear ho hg hbk
          go_wp2_with fail
          go_roundw
          case rel => exact ⟨k + 1, p + 1, q, A2, c2, A', c', by omega, by omega, by omega, by go_num, rfl, rfl, N⟩
          case measure => simp [intOf]; omega
        · have hm : (((a0 : Int) + (a1 : Int) + (a2 : Int) + (a3 : Int)) % 2 == 0) = false := by have := hoe.out; simp; omega
          go_wp2_with (at_builtin; refine wpList_pushN rfl _ _ _ rfl Try.underlying22 rfl HS.out rfl (by simp) (by omega) HW.out.size ?_; intro A2 c2 w3 ho hg hbk)
          have N := Lib.hid (HT.out.odd (by rw [HO.out]; exact he) ho hg hbk)
          clear ho hg hbk
          go_wp2_with fail
          go_roundw
          case rel => exact ⟨k + 1, p, q + 1, A, c, A2, c2, by omega, by omega, by omega, by go_num, rfl, rfl, N⟩
          case measure => simp [intOf]; omega
      · obtain rfl : k = 16 := by omega
        go_wp2_with fail
        go_ret3
        exact ⟨_, _, _, _, _, _, rfl, HT.out.1, HT.out.2.1, HT.out.2.2.1, HT.out.2.2.2⟩
end Go.Proofs.Ytbfpllmoaooadaa
