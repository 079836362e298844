
/- FnPowerSum: even powers have no sign: the walk. -/
import Derived.Test.YtbfpllmoaooadaaScaled
import Derived.Test.YtbfpllmoaooadaaDrawP
namespace Go.Proofs.Ytbfpllmoaooadaa
set_option linter.unusedVariables false
open Go.RowKit
theorem pIn_up {ys : List Int} (hl : ys.length ≤ 8) (hb : ∀ y ∈ ys, -50 ≤ y ∧ y ≤ 50) : pIn (Srt.up ys) = true := by
  have hlen := (Srt.up_perm ys).length_eq
  refine pIn_true.2 ⟨by omega, fun j hj => ?_, fun j hj => ?_⟩
  · have := List.pairwise_iff_getElem.1 (Srt.up_sorted ys) j (j + 1) (by omega) hj (by omega)
    rw [Srt.getD_eq (by omega), Srt.getD_eq hj]; exact this
  · rw [Srt.getD_eq hj]
    exact hb _ ((Srt.up_perm ys).subset (by simp))
theorem ps_up (k : Nat) (ys : List Int) : Nw.ps k (Srt.up ys) = Nw.ps k ys := Nw.ps_perm k (Srt.up_perm ys)
theorem ps_sc (t : Int) (k : Nat) (xs : List Int) : Nw.ps k (Srt.up (sc xs t)) = t ^ k * Nw.ps k xs := by
  rw [ps_up]; exact Nw.ps_scaled t k xs
theorem sc_neg {xs : List Int} (h : pIn xs = true) : scOk xs (-1) = true := by
  have hP := pIn_true.1 h
  refine scOk_true.2 ⟨h, by omega, by omega, pIn_up (by rw [sc_len]; exact hP.1) fun y hy => ?_⟩
  obtain ⟨x, hx, rfl⟩ := List.mem_map.1 hy
  have := hP.all x hx
  omega
theorem sum_neg (k : Nat) (hk : k ≤ 6) (xs : List Int) : Nw.ps k (Srt.up (sc xs (-1))) = if k % 2 = 1 then - Nw.ps k xs else Nw.ps k xs := by
  rw [ps_sc]
  rcases (show k = 0 ∨ k = 1 ∨ k = 2 ∨ k = 3 ∨ k = 4 ∨ k = 5 ∨ k = 6 from by omega) with rfl | rfl | rfl | rfl | rfl | rfl | rfl <;> simp
set_option maxRecDepth 100000 in
set_option maxHeartbeats 3200000 in
theorem mainPowerSum (a0 : Option Addr) (n0 c0 : Nat) (z0 : List Int) (w : World) (hd0 : Rb w w.heap.size a0 n0 z0) (hk0 : n0 ≤ c0) : Calls Try.prog 19 #[.slice a0 n0 c0] w (RetB w true) := by
  by_cases big : 1048576 < n0
  · go_enter Try.func19, Try.ntmps19
    go_wp2_with fail
    go_ret
    exact ⟨rfl, Below.refl _ _⟩
  have BB := Lib.hid (Below.refl w.heap.size w)
  go_enter Try.func19, Try.ntmps19
  go_wp2_with fail
  refine (drawPowerSum_any _ _ _ _ _ hd0 hk0).mono ?_
  rintro e w1 ⟨A, n, c, xs, k, rfl, ho, hn, t1, t2, hb⟩
  have BB_ := Lib.hid (BB.out.trans (hb.mono BB.out.size)); clear BB; have BB := BB_; clear BB_ hb
  have R := Lib.hid ho.rd; clear ho
  go_wp2_with fail
  by_cases h : pIn xs = false ∨ ¬ (0 ≤ k ∧ k ≤ 6)
  · have HN := Lib.hid h
    clear h
    refine (implPowerSum_no _ _ _ _ _ _ R.out (by omega) HN.out).mono ?_
    rintro e w2 ⟨rfl, hb⟩
    have R_ := Lib.hid (R.out.below hb).lt; clear R; have R := R_; clear R_
    have BB_ := Lib.hid (BB.out.trans (hb.mono BB.out.size)); clear BB; have BB := BB_; clear BB_ hb
    go_wp2_with fail
    refine (specPowerSum_no _ _ _ _ _ _ R.out (by omega) HN.out).mono ?_
    rintro e w3 ⟨rfl, hb⟩
    have R_ := Lib.hid (R.out.below hb).lt; clear R; have R := R_; clear R_
    have BB_ := Lib.hid (BB.out.trans (hb.mono BB.out.size)); clear BB; have BB := BB_; clear BB_ hb
    go_wp2_with fail
    go_ret
    exact ⟨rfl, BB.out⟩
  · have hp : pIn xs = true := by cases e : pIn xs <;> simp_all
    have hk : 0 ≤ k ∧ k ≤ 6 := by
      by_cases h2 : 0 ≤ k ∧ k ≤ 6
      · exact h2
      · exact absurd (Or.inr h2) h
    obtain ⟨K, hK⟩ : ∃ K : Nat, k = K ∧ K ≤ 6 := ⟨k.toNat, by omega, by omega⟩
    have hsn := sc_neg hp
    have hpn := (scOk_true.1 hsn).2.2.2
    have hsum := sum_neg K hK.2 xs
    have hb1 := ps_bound8 (k := K) (by omega) (l := xs) ((pIn_true.1 hp).1) (pIn_true.1 hp).all
    have HP := Lib.hid hp
    have HSN := Lib.hid hsn
    have HPN := Lib.hid hpn
    obtain ⟨rfl, hK6⟩ := hK
    clear h hp hsn hpn hk
    have hm : ((K : Int) % 2 == 1) = decide (K % 2 = 1) := by
      by_cases e : K % 2 = 1
      · rw [decide_eq_true e]; simp; omega
      · rw [decide_eq_false e]; simp; omega
    obtain ⟨ys, hys⟩ : ∃ ys, Srt.up (sc xs (-1)) = ys := ⟨_, rfl⟩
    have hor : scOr xs (-1) true = ys := hys
    rw [hys] at hsum HPN
    have HOR := Lib.hid hor
    clear hys hor
    obtain ⟨S, hS⟩ : ∃ S, Nw.ps K xs = S := ⟨_, rfl⟩
    obtain ⟨T, hT⟩ : ∃ T, Nw.ps K ys = T := ⟨_, rfl⟩
    rw [hS] at hsum hb1
    rw [hT] at hsum
    have C1 : Hid (∀ (A : Option Addr) (n c : Nat) (W : World), Rd W W.heap.size A n xs → Calls Try.prog 30 #[.slice A n c, .int .i64 K] W (RetIB W S true)) := Lib.hid (fun A n c W hr => by rw [← hS]; exact implPowerSum_yes A n c xs K W hr HP.out hK6)
    have C2 : Hid (∀ (A : Option Addr) (n c : Nat) (W : World), Rd W W.heap.size A n xs → Calls Try.prog 29 #[.slice A n c, .int .i64 K] W (RetIB W S true)) := Lib.hid (fun A n c W hr => by rw [← hS]; exact specPowerSum_yes A n c xs K W hr HP.out hK6)
    have C3 : Hid (∀ (A : Option Addr) (n c : Nat) (W : World), Rd W W.heap.size A n ys → Calls Try.prog 30 #[.slice A n c, .int .i64 K] W (RetIB W T true)) := Lib.hid (fun A n c W hr => by rw [← hT]; exact implPowerSum_yes A n c ys K W hr HPN.out hK6)
    clear hS hT
    by_cases e : K % 2 = 1
    · rw [if_pos e] at hsum
      rw [decide_eq_true e] at hm
      subst hsum
      clear e
      refine (C1.out _ _ _ _ R.out).mono ?_
      rintro e w2 ⟨rfl, hb⟩
      have R_ := Lib.hid (R.out.below hb).lt; clear R; have R := R_; clear R_
      have BB_ := Lib.hid (BB.out.trans (hb.mono BB.out.size)); clear BB; have BB := BB_; clear BB_ hb
      go_wp2_with fail
      refine (C2.out _ _ _ _ R.out).mono ?_
      rintro e w3 ⟨rfl, hb⟩
      have R_ := Lib.hid (R.out.below hb).lt; clear R; have R := R_; clear R_
      have BB_ := Lib.hid (BB.out.trans (hb.mono BB.out.size)); clear BB; have BB := BB_; clear BB_ hb
      go_wp2_with fail
      refine (implPowerScaled_any _ _ _ _ _ _ R.out (by omega) _ HSN.out).mono ?_
      rintro e w4 ⟨A4, n4, c4, rfl, ho4, hb⟩
      have R_ := Lib.hid (R.out.below hb).lt; clear R; have R := R_; clear R_
      have BB_ := Lib.hid (BB.out.trans (hb.mono BB.out.size)); clear BB; have BB := BB_; clear BB_ hb
      have P := Lib.hid ho4.rd; clear ho4
      go_wp2_with fail
      rw [HOR.out] at P
      refine (C3.out _ _ _ _ P.out).mono ?_
      rintro e w5 ⟨rfl, hb⟩
      have R_ := Lib.hid (R.out.below hb).lt; clear R; have R := R_; clear R_
      have BB_ := Lib.hid (BB.out.trans (hb.mono BB.out.size)); clear BB; have BB := BB_; clear BB_ hb
      go_wp2_with fail
      go_ret
      exact ⟨rfl, BB.out⟩
    · rw [if_neg e] at hsum
      rw [decide_eq_false e] at hm
      subst hsum
      clear e
      refine (C1.out _ _ _ _ R.out).mono ?_
      rintro e w2 ⟨rfl, hb⟩
      have R_ := Lib.hid (R.out.below hb).lt; clear R; have R := R_; clear R_
      have BB_ := Lib.hid (BB.out.trans (hb.mono BB.out.size)); clear BB; have BB := BB_; clear BB_ hb
      go_wp2_with fail
      refine (C2.out _ _ _ _ R.out).mono ?_
      rintro e w3 ⟨rfl, hb⟩
      have R_ := Lib.hid (R.out.below hb).lt; clear R; have R := R_; clear R_
      have BB_ := Lib.hid (BB.out.trans (hb.mono BB.out.size)); clear BB; have BB := BB_; clear BB_ hb
      go_wp2_with fail
      refine (implPowerScaled_any _ _ _ _ _ _ R.out (by omega) _ HSN.out).mono ?_
      rintro e w4 ⟨A4, n4, c4, rfl, ho4, hb⟩
      have R_ := Lib.hid (R.out.below hb).lt; clear R; have R := R_; clear R_
      have BB_ := Lib.hid (BB.out.trans (hb.mono BB.out.size)); clear BB; have BB := BB_; clear BB_ hb
      have P := Lib.hid ho4.rd; clear ho4
      go_wp2_with fail
      rw [HOR.out] at P
      refine (C3.out _ _ _ _ P.out).mono ?_
      rintro e w5 ⟨rfl, hb⟩
      have R_ := Lib.hid (R.out.below hb).lt; clear R; have R := R_; clear R_
      have BB_ := Lib.hid (BB.out.trans (hb.mono BB.out.size)); clear BB; have BB := BB_; clear BB_ hb
      go_wp2_with fail
      go_ret
      exact ⟨rfl, BB.out⟩
end Go.Proofs.Ytbfpllmoaooadaa
