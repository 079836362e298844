
/- FnBinCount: rules take less than twice as many bins: the walk. -/
import Derived.Test.YtmnjablknjijbaaSpecB
import Derived.Test.YtmnjablknjijbaaFBinLeast
namespace Go.Proofs.Ytmnjablknjijbaa
set_option linter.unusedVariables false
open Go.RowKit
/-- What is known of the bins that a rule fills, and of the least number. -/
theorem binsF_least {xs : List Int} {C : Int} {s : ByteArray} (h : bkOk xs C s = true) : leastF C xs ≤ (binsF xs C s).length ∧ (xs.length = 0 ∧ (binsF xs C s).length = 0 ∨ (binsF xs C s).length + 1 ≤ 2 * leastF C xs) := by
  obtain ⟨hb, J, cap, hr, hJ, hB⟩ := bkOk_true h
  obtain ⟨i1, i2, i3, i4, i5⟩ := bnOk_in hb
  have hle := least_any (C := C) (xs := xs) (fun x hm => by have := i3 x hm; omega)
  have hp := ordB_perm cap xs
  have hx : ∀ x ∈ ordB cap xs, 0 < x ∧ x ≤ C := fun x hm => i3 x (hp.subset hm)
  have hle2 := hle.perm hp.symm
  have h1 := Pk.fill_packs (r := rlOf J) (by omega) hx
  have h2 := Pk.fill_twice (r := rlOf J) (by omega) hx hle2.1
  rw [hB]
  refine ⟨hle2.2 _ h1, ?_⟩
  rcases h2 with e | e
  · left
    have := Pk.fill_ne e
    have hl := hp.length_eq
    rw [this] at hl
    exact ⟨by simpa using hl.symm, by rw [e]; rfl⟩
  · exact .inr e
set_option maxRecDepth 100000 in
set_option maxHeartbeats 1600000 in
theorem mainBinCount (a0 : Option Addr) (n0 c0 : Nat) (z0 : List Int) (w : World) (hd0 : Rb w w.heap.size a0 n0 z0) (hk0 : n0 ≤ c0) : Calls Try.prog 10 #[.slice a0 n0 c0] w (RetB w true) := by
  by_cases big : 1048576 < n0
  · go_enter Try.func10, Try.ntmps10
    go_wp2_with fail
    go_ret
    exact ⟨rfl, Below.refl _ _⟩
  have BB := Lib.hid (Below.refl w.heap.size w)
  go_enter Try.func10, Try.ntmps10
  go_wp2_with fail
  refine (drawBinCount_any _ _ _ _ _ hd0 hk0).mono ?_
  rintro e w1 ⟨A, n, c, xs, v, s, rfl, ho, hn, hsn, hb⟩
  have BB_ := Lib.hid (BB.out.trans (hb.mono BB.out.size)); clear BB; have BB := BB_; clear BB_ hb
  have R := Lib.hid ho.rd; clear ho
  go_wp2_with fail
  cases hs : bkOk xs v s with
  | false =>
    have HS := Lib.hid hs
    clear hs
    refine (implBinCount_no _ _ _ _ _ _ _ R.out (by omega) HS.out).mono ?_
    rintro e w2 ⟨rfl, hb⟩
    have R_ := Lib.hid (R.out.below hb).lt; clear R; have R := R_; clear R_
    have BB_ := Lib.hid (BB.out.trans (hb.mono BB.out.size)); clear BB; have BB := BB_; clear BB_ hb
    go_wp2_with fail
    refine (specBinCount_any _ _ _ _ _ _ _ R.out (by omega) _ HS.out).mono ?_
    rintro e w3 ⟨rfl, hb⟩
    have BB_ := Lib.hid (BB.out.trans (hb.mono BB.out.size)); clear BB; have BB := BB_; clear BB_ hb
    go_wp2_with fail
    go_ret
    exact ⟨rfl, BB.out⟩
  | true =>
    have HS := Lib.hid hs
    have hb := (bkOk_true hs).1
    have HBK := Lib.hid hb
    obtain ⟨h1, h2, h3, h4, h5⟩ := bnOk_in hb
    have hl := R.out.len
    have hbl := (binsF_in hs).2.1
    have hfl := binsF_least hs
    have hll := least_le (least_any (C := v) (xs := xs) (fun x hm => by have := h3 x hm; omega)) (fun x hm => by have := h3 x hm; omega)
    obtain ⟨k, hk⟩ : ∃ k, leastF v xs = k := ⟨_, rfl⟩
    obtain ⟨b, hbb⟩ : ∃ b, (binsF xs v s).length = b := ⟨_, rfl⟩
    have K1 : Hid (∀ (A : Option Addr) (n c : Nat) (w : World), Rd w w.heap.size A n xs → Calls Try.prog 25 #[.slice A n c, .int .i64 v, .string s] w (RetIB w (b : Int) true)) := Lib.hid (fun A n c w ha => by rw [← hbb]; exact implBinCount_yes A n c xs v s w ha HS.out)
    have K2 : Hid (∀ (A : Option Addr) (n c : Nat) (w : World), Rd w w.heap.size A n xs → n ≤ 100 → Calls Try.prog 24 #[.slice A n c, .int .i64 v, .string s] w (RetIB w (b : Int) true)) := Lib.hid (fun A n c w ha hn => by rw [← hbb]; exact specBinCount_any A n c xs v s w ha (by omega) true HS.out)
    have K3 : Hid (∀ (A : Option Addr) (n c : Nat) (w : World), Rd w w.heap.size A n xs → Calls Try.prog 15 #[.slice A n c, .int .i64 v] w (RetIB w (k : Int) true)) := Lib.hid (fun A n c w ha => by rw [← hk]; exact implBinLeast_yes A n c xs v w ha HBK.out)
    rw [hk] at hfl hll
    rw [hbb] at hfl hbl
    obtain ⟨hf1, hf2⟩ := hfl
    have e1 : ((b : Int) != (b : Int)) = false := by simp
    have hz1 : (k : Int) ≤ (b : Int) := by omega
    have d1 : decide ((k : Int) ≤ (b : Int)) = true := decide_eq_true hz1
    have m1 : IntKind.i64.wrap (2 * (k : Int)) = 2 * (k : Int) := IntWalk.i64_in _ (by omega)
    have m2 : IntKind.i64.wrap (2 * (k : Int) - 1) = 2 * (k : Int) - 1 := IntWalk.i64_in _ (by omega)
    rcases hf2 with ⟨q1, q2⟩ | q1
    · have hn0 : n = 0 := by omega
      subst hn0
      have hb0 : b = 0 := q2
      subst hb0
      have hk0' : k = 0 := by omega
      subst hk0'
      clear hs hb h1 h2 h3 hk hbb hll hsn
      refine (K1.out _ _ _ _ R.out).mono ?_
      rintro e w2 ⟨rfl, hb⟩
      have R_ := Lib.hid (R.out.below hb).lt; clear R; have R := R_; clear R_
      have BB_ := Lib.hid (BB.out.trans (hb.mono BB.out.size)); clear BB; have BB := BB_; clear BB_ hb
      go_wp2_with fail
      refine (K2.out _ _ _ _ R.out (by omega)).mono ?_
      rintro e w3 ⟨rfl, hb⟩
      have R_ := Lib.hid (R.out.below hb).lt; clear R; have R := R_; clear R_
      have BB_ := Lib.hid (BB.out.trans (hb.mono BB.out.size)); clear BB; have BB := BB_; clear BB_ hb
      go_wp2_with fail
      refine (K3.out _ _ _ _ R.out).mono ?_
      rintro e w4 ⟨rfl, hb⟩
      have BB_ := Lib.hid (BB.out.trans (hb.mono BB.out.size)); clear BB; have BB := BB_; clear BB_ hb
      go_wp2_with fail
      go_ret
      exact ⟨rfl, BB.out⟩
    · have hz2 : (b : Int) ≤ 2 * (k : Int) - 1 := by omega
      have d2 : decide ((b : Int) ≤ 2 * (k : Int) - 1) = true := decide_eq_true hz2
      have hz3 : ¬ (b : Int) = 0 := by omega
      have hkn : k ≤ n := by omega
      clear hs hb h1 h2 h3 hk hbb hll hsn
      rcases Nat.eq_zero_or_pos n with hn0 | hn0
      · exfalso
        omega
      · have dn : ((n : Int) == 0) = false := by rw [beq_eq_false_iff_ne]; omega
        refine (K1.out _ _ _ _ R.out).mono ?_
        rintro e w2 ⟨rfl, hb⟩
        have R_ := Lib.hid (R.out.below hb).lt; clear R; have R := R_; clear R_
        have BB_ := Lib.hid (BB.out.trans (hb.mono BB.out.size)); clear BB; have BB := BB_; clear BB_ hb
        go_wp2_with fail
        refine (K2.out _ _ _ _ R.out (by omega)).mono ?_
        rintro e w3 ⟨rfl, hb⟩
        have R_ := Lib.hid (R.out.below hb).lt; clear R; have R := R_; clear R_
        have BB_ := Lib.hid (BB.out.trans (hb.mono BB.out.size)); clear BB; have BB := BB_; clear BB_ hb
        go_wp2_with fail
        refine (K3.out _ _ _ _ R.out).mono ?_
        rintro e w4 ⟨rfl, hb⟩
        have BB_ := Lib.hid (BB.out.trans (hb.mono BB.out.size)); clear BB; have BB := BB_; clear BB_ hb
        go_wp2_with fail
        go_ret
        exact ⟨rfl, BB.out⟩
/-- One letter. -/
theorem ruleB_F : ruleB ⟨#[70]⟩ = some (1, true) := by decide
theorem ruleB_f : ruleB ⟨#[102]⟩ = some (1, false) := by decide
theorem ruleB_b : ruleB ⟨#[98]⟩ = some (2, false) := by decide
theorem binsF_down {xs : List Int} {C : Int} (h : bkOk xs C ⟨#[70]⟩ = true) : 9 * (binsF xs C ⟨#[70]⟩).length ≤ 11 * leastF C xs + 6 := by
  obtain ⟨i1, i2, i3, i4, i5⟩ := bnOk_in (bkOk_true h).1
  have hle := least_any (C := C) (xs := xs) (fun x hm => by have := i3 x hm; omega)
  have hp := ordB_perm true xs
  have e : binsF xs C ⟨#[70]⟩ = Pk.fill (rlOf 1) C (ordB true xs) [] := by unfold binsF; rw [ruleB_F]
  rw [e]
  exact Pk.fill_down (by simp [rlOf]) (fun x hm => i3 x (hp.subset hm)) (Srt.dn_sorted xs) (by rw [hp.length_eq]; exact i1) (hle.1.perm hp.symm)
theorem binsF_first {xs : List Int} {C : Int} {s : ByteArray} (hs : s = ⟨#[102]⟩ ∨ s = ⟨#[98]⟩) (h : bkOk xs C s = true) (hl : xs.length ≤ 8) : 10 * (binsF xs C s).length ≤ 17 * leastF C xs := by
  obtain ⟨i1, i2, i3, i4, i5⟩ := bnOk_in (bkOk_true h).1
  have hle := least_any (C := C) (xs := xs) (fun x hm => by have := i3 x hm; omega)
  rcases hs with rfl | rfl
  · have e : binsF xs C ⟨#[102]⟩ = Pk.fill (rlOf 1) C (ordB false xs) [] := by unfold binsF; rw [ruleB_f]
    rw [e]
    exact Pk.fill_first (by simp [rlOf]) (by omega) (fun x hm => i3 x hm) hl hle.1
  · have e : binsF xs C ⟨#[98]⟩ = Pk.fill (rlOf 2) C (ordB false xs) [] := by unfold binsF; rw [ruleB_b]
    rw [e]
    exact Pk.fill_first (by simp [rlOf]) (by omega) (fun x hm => i3 x hm) hl hle.1
end Go.Proofs.Ytmnjablknjijbaa
