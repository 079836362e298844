
/- FnFirstFit: the walk. -/
import Derived.Test.YtmnjablknjijbaaFBinCount
namespace Go.Proofs.Ytmnjablknjijbaa
set_option linter.unusedVariables false
open Go.RowKit
theorem not_one {s : ByteArray} {x : UInt8} (h : ¬ s = ⟨#[x]⟩) : ¬ s.toList = [x] := fun e => h (by
  rw [ByteArray.toList_eq] at e
  obtain ⟨⟨l⟩⟩ := s
  have e2 : l = [x] := e
  subst e2
  rfl)
set_option maxRecDepth 100000 in
set_option maxHeartbeats 1600000 in
theorem mainFirstFit (a0 : Option Addr) (n0 c0 : Nat) (z0 : List Int) (w : World) (hd0 : Rb w w.heap.size a0 n0 z0) (hk0 : n0 ≤ c0) : Calls Try.prog 12 #[.slice a0 n0 c0] w (RetB w true) := by
  by_cases big : 1048576 < n0
  · go_enter Try.func12, Try.ntmps12
    go_wp2_with fail
    go_ret
    exact ⟨rfl, Below.refl _ _⟩
  have BB := Lib.hid (Below.refl w.heap.size w)
  go_enter Try.func12, Try.ntmps12
  go_wp2_with fail
  refine (drawBinCount_any _ _ _ _ _ hd0 hk0).mono ?_
  rintro e w1 ⟨A, n, c, xs, v, s, rfl, ho, hn, hsn, hb⟩
  have BB_ := Lib.hid (BB.out.trans (hb.mono BB.out.size)); clear BB; have BB := BB_; clear BB_ hb
  have R := Lib.hid ho.rd; clear ho
  go_wp2_with fail
  cases hs : bkOk xs v s with
  | false =>
    have HS := Lib.hid hs
    clear hs
    refine (implBinCount_no _ _ _ _ _ _ _ R.out (by omega) HS.out).mono ?_
    rintro e w2 ⟨rfl, hb⟩
    have R_ := Lib.hid (R.out.below hb).lt; clear R; have R := R_; clear R_
    have BB_ := Lib.hid (BB.out.trans (hb.mono BB.out.size)); clear BB; have BB := BB_; clear BB_ hb
    go_wp2_with fail
    refine (specBinCount_any _ _ _ _ _ _ _ R.out (by omega) _ HS.out).mono ?_
    rintro e w3 ⟨rfl, hb⟩
    have BB_ := Lib.hid (BB.out.trans (hb.mono BB.out.size)); clear BB; have BB := BB_; clear BB_ hb
    go_wp2_with fail
    go_ret
    exact ⟨rfl, BB.out⟩
  | true =>
    have HS := Lib.hid hs
    have hb := (bkOk_true hs).1
    have HBK := Lib.hid hb
    obtain ⟨h1, h2, h3, h4, h5⟩ := bnOk_in hb
    have hl := R.out.len
    have hbl := (binsF_in hs).2.1
    have hll := least_le (least_any (C := v) (xs := xs) (fun x hm => by have := h3 x hm; omega)) (fun x hm => by have := h3 x hm; omega)
    by_cases h102 : s = ⟨#[102]⟩
    · subst h102
      have hl8 : xs.length ≤ 8 := by
        rcases hsn with h | h
        · omega
        · rw [(bnOk_true hb).1] at h; cases h
      obtain ⟨k, hk⟩ : ∃ k, leastF v xs = k := ⟨_, rfl⟩
      obtain ⟨b, hbb⟩ : ∃ b, (binsF xs v ⟨#[102]⟩).length = b := ⟨_, rfl⟩
      have K1 : Hid (∀ (A : Option Addr) (n c : Nat) (w : World), Rd w w.heap.size A n xs → Calls Try.prog 25 #[.slice A n c, .int .i64 v, .string ⟨#[102]⟩] w (RetIB w (b : Int) true)) := Lib.hid (fun A n c w ha => by rw [← hbb]; exact implBinCount_yes A n c xs v _ w ha HS.out)
      have K2 : Hid (∀ (A : Option Addr) (n c : Nat) (w : World), Rd w w.heap.size A n xs → n ≤ 100 → Calls Try.prog 24 #[.slice A n c, .int .i64 v, .string ⟨#[102]⟩] w (RetIB w (b : Int) true)) := Lib.hid (fun A n c w ha hn => by rw [← hbb]; exact specBinCount_any A n c xs v _ w ha (by omega) true HS.out)
      have K3 : Hid (∀ (A : Option Addr) (n c : Nat) (w : World), Rd w w.heap.size A n xs → Calls Try.prog 15 #[.slice A n c, .int .i64 v] w (RetIB w (k : Int) true)) := Lib.hid (fun A n c w ha => by rw [← hk]; exact implBinLeast_yes A n c xs v w ha HBK.out)
      have e1 : ((b : Int) != (b : Int)) = false := by simp
      have hq := binsF_first (.inl rfl) hs hl8
      rw [hk, hbb] at hq
      rw [hk] at hll
      rw [hbb] at hbl
      have hz : 10 * (b : Int) ≤ 17 * (k : Int) := by omega
      have d1 : decide (10 * (b : Int) ≤ 17 * (k : Int)) = true := decide_eq_true hz
      have m1 : IntKind.i64.wrap (10 * (b : Int)) = 10 * (b : Int) := IntWalk.i64_in _ (by omega)
      have m2 : IntKind.i64.wrap (17 * (k : Int)) = 17 * (k : Int) := IntWalk.i64_in _ (by omega)
      clear hs hb h1 h2 h3 hk hbb hsn hq hl8
      refine (K1.out _ _ _ _ R.out).mono ?_
      rintro e w2 ⟨rfl, hb⟩
      have R_ := Lib.hid (R.out.below hb).lt; clear R; have R := R_; clear R_
      have BB_ := Lib.hid (BB.out.trans (hb.mono BB.out.size)); clear BB; have BB := BB_; clear BB_ hb
      go_wp2_with fail
      refine (K2.out _ _ _ _ R.out (by omega)).mono ?_
      rintro e w3 ⟨rfl, hb⟩
      have R_ := Lib.hid (R.out.below hb).lt; clear R; have R := R_; clear R_
      have BB_ := Lib.hid (BB.out.trans (hb.mono BB.out.size)); clear BB; have BB := BB_; clear BB_ hb
      go_wp2_with fail
      refine (K3.out _ _ _ _ R.out).mono ?_
      rintro e w4 ⟨rfl, hb⟩
      have BB_ := Lib.hid (BB.out.trans (hb.mono BB.out.size)); clear BB; have BB := BB_; clear BB_ hb
      go_wp2_with fail
      go_ret
      exact ⟨rfl, BB.out⟩
    by_cases h98 : s = ⟨#[98]⟩
    · subst h98
      have hl8 : xs.length ≤ 8 := by
        rcases hsn with h | h
        · omega
        · rw [(bnOk_true hb).1] at h; cases h
      obtain ⟨k, hk⟩ : ∃ k, leastF v xs = k := ⟨_, rfl⟩
      obtain ⟨b, hbb⟩ : ∃ b, (binsF xs v ⟨#[98]⟩).length = b := ⟨_, rfl⟩
      have K1 : Hid (∀ (A : Option Addr) (n c : Nat) (w : World), Rd w w.heap.size A n xs → Calls Try.prog 25 #[.slice A n c, .int .i64 v, .string ⟨#[98]⟩] w (RetIB w (b : Int) true)) := Lib.hid (fun A n c w ha => by rw [← hbb]; exact implBinCount_yes A n c xs v _ w ha HS.out)
      have K2 : Hid (∀ (A : Option Addr) (n c : Nat) (w : World), Rd w w.heap.size A n xs → n ≤ 100 → Calls Try.prog 24 #[.slice A n c, .int .i64 v, .string ⟨#[98]⟩] w (RetIB w (b : Int) true)) := Lib.hid (fun A n c w ha hn => by rw [← hbb]; exact specBinCount_any A n c xs v _ w ha (by omega) true HS.out)
      have K3 : Hid (∀ (A : Option Addr) (n c : Nat) (w : World), Rd w w.heap.size A n xs → Calls Try.prog 15 #[.slice A n c, .int .i64 v] w (RetIB w (k : Int) true)) := Lib.hid (fun A n c w ha => by rw [← hk]; exact implBinLeast_yes A n c xs v w ha HBK.out)
      have e1 : ((b : Int) != (b : Int)) = false := by simp
      have hq := binsF_first (.inr rfl) hs hl8
      rw [hk, hbb] at hq
      rw [hk] at hll
      rw [hbb] at hbl
      have hz : 10 * (b : Int) ≤ 17 * (k : Int) := by omega
      have d1 : decide (10 * (b : Int) ≤ 17 * (k : Int)) = true := decide_eq_true hz
      have m1 : IntKind.i64.wrap (10 * (b : Int)) = 10 * (b : Int) := IntWalk.i64_in _ (by omega)
      have m2 : IntKind.i64.wrap (17 * (k : Int)) = 17 * (k : Int) := IntWalk.i64_in _ (by omega)
      clear hs hb h1 h2 h3 hk hbb hsn hq hl8
      refine (K1.out _ _ _ _ R.out).mono ?_
      rintro e w2 ⟨rfl, hb⟩
      have R_ := Lib.hid (R.out.below hb).lt; clear R; have R := R_; clear R_
      have BB_ := Lib.hid (BB.out.trans (hb.mono BB.out.size)); clear BB; have BB := BB_; clear BB_ hb
      go_wp2_with fail
      refine (K2.out _ _ _ _ R.out (by omega)).mono ?_
      rintro e w3 ⟨rfl, hb⟩
      have R_ := Lib.hid (R.out.below hb).lt; clear R; have R := R_; clear R_
      have BB_ := Lib.hid (BB.out.trans (hb.mono BB.out.size)); clear BB; have BB := BB_; clear BB_ hb
      go_wp2_with fail
      refine (K3.out _ _ _ _ R.out).mono ?_
      rintro e w4 ⟨rfl, hb⟩
      have BB_ := Lib.hid (BB.out.trans (hb.mono BB.out.size)); clear BB; have BB := BB_; clear BB_ hb
      go_wp2_with fail
      go_ret
      exact ⟨rfl, BB.out⟩
    have d102 : ¬ s.toList = [102] := not_one h102
    have e102 : (s.toList == [102]) = false := beq_eq_false_iff_ne.2 d102
    have d98 : ¬ s.toList = [98] := not_one h98
    have e98 : (s.toList == [98]) = false := beq_eq_false_iff_ne.2 d98
    obtain ⟨k, hk⟩ : ∃ k, leastF v xs = k := ⟨_, rfl⟩
    obtain ⟨b, hbb⟩ : ∃ b, (binsF xs v s).length = b := ⟨_, rfl⟩
    have K1 : Hid (∀ (A : Option Addr) (n c : Nat) (w : World), Rd w w.heap.size A n xs → Calls Try.prog 25 #[.slice A n c, .int .i64 v, .string s] w (RetIB w (b : Int) true)) := Lib.hid (fun A n c w ha => by rw [← hbb]; exact implBinCount_yes A n c xs v _ w ha HS.out)
    have K2 : Hid (∀ (A : Option Addr) (n c : Nat) (w : World), Rd w w.heap.size A n xs → n ≤ 100 → Calls Try.prog 24 #[.slice A n c, .int .i64 v, .string s] w (RetIB w (b : Int) true)) := Lib.hid (fun A n c w ha hn => by rw [← hbb]; exact specBinCount_any A n c xs v _ w ha (by omega) true HS.out)
    have K3 : Hid (∀ (A : Option Addr) (n c : Nat) (w : World), Rd w w.heap.size A n xs → Calls Try.prog 15 #[.slice A n c, .int .i64 v] w (RetIB w (k : Int) true)) := Lib.hid (fun A n c w ha => by rw [← hk]; exact implBinLeast_yes A n c xs v w ha HBK.out)
    have e1 : ((b : Int) != (b : Int)) = false := by simp
    clear hs hb h1 h2 h3 hk hbb hsn
    refine (K1.out _ _ _ _ R.out).mono ?_
    rintro e w2 ⟨rfl, hb⟩
    have R_ := Lib.hid (R.out.below hb).lt; clear R; have R := R_; clear R_
    have BB_ := Lib.hid (BB.out.trans (hb.mono BB.out.size)); clear BB; have BB := BB_; clear BB_ hb
    go_wp2_with fail
    refine (K2.out _ _ _ _ R.out (by omega)).mono ?_
    rintro e w3 ⟨rfl, hb⟩
    have R_ := Lib.hid (R.out.below hb).lt; clear R; have R := R_; clear R_
    have BB_ := Lib.hid (BB.out.trans (hb.mono BB.out.size)); clear BB; have BB := BB_; clear BB_ hb
    go_wp2_with fail
    refine (K3.out _ _ _ _ R.out).mono ?_
    rintro e w4 ⟨rfl, hb⟩
    have BB_ := Lib.hid (BB.out.trans (hb.mono BB.out.size)); clear BB; have BB := BB_; clear BB_ hb
    go_wp2_with fail
    go_ret
    exact ⟨rfl, BB.out⟩
end Go.Proofs.Ytmnjablknjijbaa
