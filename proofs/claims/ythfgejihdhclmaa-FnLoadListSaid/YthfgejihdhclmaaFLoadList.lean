/- FnLoadList: loads by the list rule have its span: the walk. -/
import Derived.Test.YthfgejihdhclmaaLoadOf
import Derived.Test.YthfgejihdhclmaaLoadC
import Derived.Test.YthfgejihdhclmaaDrawL
namespace Go.Proofs.Ythfgejihdhclmaa
set_option linter.unusedVariables false
open Go.RowKit
theorem pus_put {m : Nat} (hm : 0 < m) (xs : List Int) : putOk (pus m xs) m = true := putOk_true (fun p hp => by
  simp only [pus, List.mem_map] at hp
  obtain ⟨q, hq, rfl⟩ := hp
  have := Ld.byL_put m hm xs q hq
  simp; omega)
theorem lof_pus {m : Nat} (xs : List Int) : lof true m xs (pus m xs) = sus m xs := by
  simp only [lof, if_true]
  exact Ld.loadOf_byL m xs
theorem pus_first (m : Nat) (xs : List Int) : (pus m xs).getD 0 0 = 0 := by
  cases xs with
  | nil => rfl
  | cons x l =>
    have h := Ld.byL_first m x l
    rw [Ld.am_zero] at h
    unfold pus
    cases he : (Ld.byL m (x :: l)).1 with
    | nil => rfl
    | cons p ps => rw [he] at h; simp at h; subst h; rfl
set_option maxRecDepth 100000 in
set_option maxHeartbeats 1600000 in
theorem mainLoadList (a0 : Option Addr) (n0 c0 : Nat) (z0 : List Int) (w : World) (hd0 : Rb w w.heap.size a0 n0 z0) (hk0 : n0 ≤ c0) : Calls Try.prog 9 #[.slice a0 n0 c0] w (RetB w true) := by
  by_cases big : 1048576 < n0
  · go_enter Try.func9, Try.ntmps9
    go_wp2_with fail
    go_ret
    exact ⟨rfl, Below.refl _ _⟩
  have BB := Lib.hid (Below.refl w.heap.size w)
  go_enter Try.func9, Try.ntmps9
  go_wp2_with fail
  refine (drawLoadList_any _ _ _ _ _ hd0 hk0).mono ?_
  rintro e w1 ⟨A, n, c, xs, m, rfl, ho, hn, m1, m2, hb⟩
  have BB_ := Lib.hid (BB.out.trans (hb.mono BB.out.size)); clear BB; have BB := BB_; clear BB_ hb
  have R := Lib.hid ho.rd; clear ho
  go_wp2_with fail
  cases hs : ldOk xs m with
  | false =>
    have HS := Lib.hid hs
    clear hs
    refine (implLoadList_no _ _ _ _ _ _ R.out (by omega) HS.out).mono ?_
    rintro e w2 ⟨A2, n2, c2, rfl, ho2, hb⟩
    have R_ := Lib.hid (R.out.below hb).lt; clear R; have R := R_; clear R_
    have BB_ := Lib.hid (BB.out.trans (hb.mono BB.out.size)); clear BB; have BB := BB_; clear BB_ hb
    have P := Lib.hid ho2.rd; clear ho2
    go_wp2_with fail
    have q2 : n2 = 0 := by have := P.out.len; simp at this; omega
    subst q2
    refine (specLoadList_no _ _ _ _ _ _ R.out (by omega) HS.out).mono ?_
    rintro e w3 ⟨A3, n3, c3, rfl, ho3, hb⟩
    have R_ := Lib.hid (R.out.below hb).lt; clear R; have R := R_; clear R_
    have P_ := Lib.hid (P.out.below hb).lt; clear P; have P := P_; clear P_
    have BB_ := Lib.hid (BB.out.trans (hb.mono BB.out.size)); clear BB; have BB := BB_; clear BB_ hb
    have Q := Lib.hid ho3.rd; clear ho3
    go_wp2_with fail
    have q3 : n3 = 0 := by have := Q.out.len; simp at this; omega
    subst q3
    refine (sameInts_same _ _ _ _ _ _ _ P.out Q.out (by omega)).mono ?_
    rintro e w4 ⟨rfl, hb⟩
    have P_ := Lib.hid (P.out.below hb).lt; clear P; have P := P_; clear P_
    have Q_ := Lib.hid (Q.out.below hb).lt; clear Q; have Q := Q_; clear Q_
    have BB_ := Lib.hid (BB.out.trans (hb.mono BB.out.size)); clear BB; have BB := BB_; clear BB_ hb
    go_wp2_with fail
    refine (sameInts_same _ _ _ _ _ _ _ P.out Q.out (by omega)).mono ?_
    rintro e w5 ⟨rfl, hb⟩
    have BB_ := Lib.hid (BB.out.trans (hb.mono BB.out.size)); clear BB; have BB := BB_; clear BB_ hb
    go_wp2_with fail
    go_ret
    exact ⟨rfl, BB.out⟩
  | true =>
    obtain ⟨h1, h2, h3⟩ := ldOk_true hs
    obtain ⟨m, rfl⟩ := Int.eq_ofNat_of_zero_le (show 0 ≤ m by omega)
    have hl := sumIn_len h1
    have HS := Lib.hid hs
    have H1 := Lib.hid h1
    clear hs h1
    refine (implLoadList_yes _ _ _ _ _ _ R.out HS.out).mono ?_
    rintro e w2 ⟨A2, n2, c2, rfl, ho2, hb⟩
    have R_ := Lib.hid (R.out.below hb).lt; clear R; have R := R_; clear R_
    have BB_ := Lib.hid (BB.out.trans (hb.mono BB.out.size)); clear BB; have BB := BB_; clear BB_ hb
    have P := Lib.hid ho2.rd; clear ho2
    go_wp2_with fail
    obtain rfl : n2 = n := by have h1 := P.out.len; have h2 := R.out.len; rw [pus_len] at h1; omega
    have hn10 : n2 ≤ 10 := by have h2 := R.out.len; omega
    refine (specLoadList_yes _ _ _ _ _ _ R.out HS.out).mono ?_
    rintro e w3 ⟨A3, n3, c3, rfl, ho3, hb⟩
    have R_ := Lib.hid (R.out.below hb).lt; clear R; have R := R_; clear R_
    have P_ := Lib.hid (P.out.below hb).lt; clear P; have P := P_; clear P_
    have BB_ := Lib.hid (BB.out.trans (hb.mono BB.out.size)); clear BB; have BB := BB_; clear BB_ hb
    have Q := Lib.hid ho3.rd; clear ho3
    go_wp2_with fail
    obtain rfl : n3 = n2 := by have h1 := P.out.len; have h2 := Q.out.len; omega
    refine (sameInts_same _ _ _ _ _ _ _ P.out Q.out (by omega)).mono ?_
    rintro e w4 ⟨rfl, hb⟩
    have R_ := Lib.hid (R.out.below hb).lt; clear R; have R := R_; clear R_
    have P_ := Lib.hid (P.out.below hb).lt; clear P; have P := P_; clear P_
    have BB_ := Lib.hid (BB.out.trans (hb.mono BB.out.size)); clear BB; have BB := BB_; clear BB_ hb
    go_wp2_with fail
    have HP := Lib.hid (pus_put (by omega) xs : putOk (pus m xs) m = true)
    refine (implLoadOf_yes _ _ _ _ _ _ _ _ _ R.out P.out HS.out _ HP.out).mono ?_
    rintro e w5 ⟨A5, n5, c5, rfl, ho5, hb⟩
    have R_ := Lib.hid (R.out.below hb).lt; clear R; have R := R_; clear R_
    have P_ := Lib.hid (P.out.below hb).lt; clear P; have P := P_; clear P_
    have BB_ := Lib.hid (BB.out.trans (hb.mono BB.out.size)); clear BB; have BB := BB_; clear BB_ hb
    have S := Lib.hid ho5.rd; clear ho5
    go_wp2_with fail
    rw [lof_pus] at S
    obtain rfl : n5 = m := by have := S.out.len; rw [sus_len] at this; omega
    refine (implLoadSpan_yes _ _ _ _ _ _ R.out HS.out).mono ?_
    rintro e w6 ⟨rfl, hb⟩
    have R_ := Lib.hid (R.out.below hb).lt; clear R; have R := R_; clear R_
    have P_ := Lib.hid (P.out.below hb).lt; clear P; have P := P_; clear P_
    have S_ := Lib.hid (S.out.below hb).lt; clear S; have S := S_; clear S_
    have BB_ := Lib.hid (BB.out.trans (hb.mono BB.out.size)); clear BB; have BB := BB_; clear BB_ hb
    go_wp2_with fail
    refine (greatest_any _ _ _ _ _ S.out (by omega)).mono ?_
    rintro e w7 ⟨rfl, rfl⟩
    rcases Nat.eq_zero_or_pos n3 with h0 | h0
    · subst h0
      go_wp2_with fail
      go_ret
      exact ⟨rfl, BB.out⟩
    · have hb : (((n3 : Nat) : Int) == 0) = false := by simp; omega
      obtain ⟨b1, o1, rfl, hb1, hc⟩ := P.out.at_ h0
      have g0 := hc 0 h0
      rw [Nat.add_zero, pus_first] at g0
      clear hc P
      have hi : (0 : Int) < (n3 : Int) := by omega
      go_wp2_with fail
      go_ret
      exact ⟨rfl, BB.out⟩
end Go.Proofs.Ythfgejihdhclmaa
