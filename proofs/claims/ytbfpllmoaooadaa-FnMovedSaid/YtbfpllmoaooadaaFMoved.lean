
/- FnMoved: moved back is not moved: the walk. -/
import Derived.Test.YtbfpllmoaooadaaPowMoved
import Derived.Test.YtbfpllmoaooadaaDrawP
namespace Go.Proofs.Ytbfpllmoaooadaa
set_option linter.unusedVariables false
open Go.RowKit
theorem mv_back (xs : List Int) (t : Int) : mv (mv xs t) (-t) = xs := by
  have h := Nw.moved_back t xs
  rw [Int.zero_sub] at h
  exact h
set_option maxRecDepth 100000 in
set_option maxHeartbeats 1600000 in
theorem mainMoved (a0 : Option Addr) (n0 c0 : Nat) (z0 : List Int) (w : World) (hd0 : Rb w w.heap.size a0 n0 z0) (hk0 : n0 ≤ c0) : Calls Try.prog 13 #[.slice a0 n0 c0] w (RetB w true) := by
  by_cases big : 1048576 < n0
  · go_enter Try.func13, Try.ntmps13
    go_wp2_with fail
    go_ret
    exact ⟨rfl, Below.refl _ _⟩
  have BB := Lib.hid (Below.refl w.heap.size w)
  go_enter Try.func13, Try.ntmps13
  go_wp2_with fail
  refine (drawPowerMoved_any _ _ _ _ _ hd0 hk0).mono ?_
  rintro e w1 ⟨A, n, c, xs, t, rfl, ho, hn, t1, t2, hb⟩
  have BB_ := Lib.hid (BB.out.trans (hb.mono BB.out.size)); clear BB; have BB := BB_; clear BB_ hb
  have R := Lib.hid ho.rd; clear ho
  go_wp2_with fail
  cases hs : mvOk xs t with
  | false =>
    have HS := Lib.hid hs
    clear hs
    refine (implPowerMoved_any _ _ _ _ _ _ R.out (by omega) _ HS.out).mono ?_
    rintro e w2 ⟨A2, n2, c2, rfl, ho2, hb⟩
    have R_ := Lib.hid (R.out.below hb).lt; clear R; have R := R_; clear R_
    have BB_ := Lib.hid (BB.out.trans (hb.mono BB.out.size)); clear BB; have BB := BB_; clear BB_ hb
    have P := Lib.hid ho2.rd; clear ho2
    go_wp2_with fail
    have q2 : n2 = 0 := by have := P.out.len; simp [mvOr] at this; omega
    subst q2
    refine (specPowerMoved_any _ _ _ _ _ _ R.out (by omega) _ HS.out).mono ?_
    rintro e w3 ⟨A3, n3, c3, rfl, ho3, hb⟩
    have R_ := Lib.hid (R.out.below hb).lt; clear R; have R := R_; clear R_
    have P_ := Lib.hid (P.out.below hb).lt; clear P; have P := P_; clear P_
    have BB_ := Lib.hid (BB.out.trans (hb.mono BB.out.size)); clear BB; have BB := BB_; clear BB_ hb
    have Q := Lib.hid ho3.rd; clear ho3
    go_wp2_with fail
    have q3 : n3 = 0 := by have := Q.out.len; simp [mvOr] at this; omega
    subst q3
    refine (sameInts_same _ _ _ _ _ _ _ P.out Q.out (by omega)).mono ?_
    rintro e w4 ⟨rfl, hb⟩
    have P_ := Lib.hid (P.out.below hb).lt; clear P; have P := P_; clear P_
    have Q_ := Lib.hid (Q.out.below hb).lt; clear Q; have Q := Q_; clear Q_
    have BB_ := Lib.hid (BB.out.trans (hb.mono BB.out.size)); clear BB; have BB := BB_; clear BB_ hb
    go_wp2_with fail
    refine (sameInts_same _ _ _ _ _ _ _ P.out Q.out (by omega)).mono ?_
    rintro e w5 ⟨rfl, hb⟩
    have BB_ := Lib.hid (BB.out.trans (hb.mono BB.out.size)); clear BB; have BB := BB_; clear BB_ hb
    go_wp2_with fail
    go_ret
    exact ⟨rfl, BB.out⟩
  | true =>
    obtain ⟨h1, h2, h3, h4⟩ := mvOk_true.1 hs
    have hl8 : n ≤ 8 := by have := (pIn_true.1 h1).1; have := R.out.len; omega
    have hsum := Nw.ps_one_moved t xs
    have hb1 := ps_bound8 (k := 1) (by omega) (l := xs) ((pIn_true.1 h1).1) (pIn_true.1 h1).all
    have hb2 := ps_bound8 (k := 1) (by omega) (l := mv xs t) (by rw [mv_len]; exact (pIn_true.1 h1).1) (pIn_true.1 h4).all
    have hback : mvOk (mv xs t) (-t) = true := mvOk_true.2 ⟨h4, by omega, by omega, by rw [mv_back]; exact h1⟩
    have hlen := R.out.len
    have hprod : -800 ≤ t * (n : Int) ∧ t * (n : Int) ≤ 800 := by
      rcases (show n = 0 ∨ n = 1 ∨ n = 2 ∨ n = 3 ∨ n = 4 ∨ n = 5 ∨ n = 6 ∨ n = 7 ∨ n = 8 from by omega) with rfl | rfl | rfl | rfl | rfl | rfl | rfl | rfl | rfl <;> omega
    have deq : (Nw.ps 1 (mv xs t) == Nw.ps 1 xs + t * (n : Int)) = true := by rw [beq_iff_eq, ← hlen]; exact hsum
    have HS := Lib.hid hs
    have H1 := Lib.hid h1
    have H4 := Lib.hid h4
    have HBK := Lib.hid hback
    clear hs h1 h4 hback hsum hlen
    refine (implPowerMoved_any _ _ _ _ _ _ R.out (by omega) _ HS.out).mono ?_
    rintro e w2 ⟨A2, n2, c2, rfl, ho2, hb⟩
    have R_ := Lib.hid (R.out.below hb).lt; clear R; have R := R_; clear R_
    have BB_ := Lib.hid (BB.out.trans (hb.mono BB.out.size)); clear BB; have BB := BB_; clear BB_ hb
    have P := Lib.hid ho2.rd; clear ho2
    go_wp2_with fail
    obtain rfl : n2 = n := by have h1 := P.out.len; have h2 := R.out.len; simp [mvOr] at h1; omega
    refine (specPowerMoved_any _ _ _ _ _ _ R.out (by omega) _ HS.out).mono ?_
    rintro e w3 ⟨A3, n3, c3, rfl, ho3, hb⟩
    have R_ := Lib.hid (R.out.below hb).lt; clear R; have R := R_; clear R_
    have P_ := Lib.hid (P.out.below hb).lt; clear P; have P := P_; clear P_
    have BB_ := Lib.hid (BB.out.trans (hb.mono BB.out.size)); clear BB; have BB := BB_; clear BB_ hb
    have Q := Lib.hid ho3.rd; clear ho3
    go_wp2_with fail
    have P2 : Hid (Rd w3 w3.heap.size A2 n2 (mv xs t)) := Lib.hid P.out
    clear P; have P := P2; clear P2
    have Q2 : Hid (Rd w3 w3.heap.size A3 n3 (mv xs t)) := Lib.hid Q.out
    clear Q; have Q := Q2; clear Q2
    obtain rfl : n3 = n2 := by have h1 := P.out.len; have h2 := Q.out.len; omega
    (with_reducible refine (sameInts_same _ _ _ _ _ _ _ P.out Q.out (by omega)).mono ?_)
    rintro e w4 ⟨rfl, hb⟩
    have R_ := Lib.hid (R.out.below hb).lt; clear R; have R := R_; clear R_
    have P_ := Lib.hid (P.out.below hb).lt; clear P; have P := P_; clear P_
    have BB_ := Lib.hid (BB.out.trans (hb.mono BB.out.size)); clear BB; have BB := BB_; clear BB_ hb
    go_wp2_with fail
    (with_reducible refine (implPowerMoved_any _ _ _ _ _ _ P.out (by omega) _ HBK.out).mono ?_)
    rintro e w5 ⟨A5, n5, c5, rfl, ho5, hb⟩
    have R_ := Lib.hid (R.out.below hb).lt; clear R; have R := R_; clear R_
    have P_ := Lib.hid (P.out.below hb).lt; clear P; have P := P_; clear P_
    have BB_ := Lib.hid (BB.out.trans (hb.mono BB.out.size)); clear BB; have BB := BB_; clear BB_ hb
    have T := Lib.hid ho5.rd; clear ho5
    go_wp2_with fail
    have HT : Hid (Rd w5 w5.heap.size A5 n5 xs) := Lib.hid (by have := T.out; simp only [mvOr, if_true, mv_back] at this; exact this)
    clear T
    obtain rfl : n5 = n3 := by have h1 := HT.out.len; have h2 := R.out.len; omega
    refine (implPowerSum_yes _ _ _ _ 1 _ R.out H1.out (by omega)).mono ?_
    rintro e w6 ⟨rfl, hb⟩
    have R_ := Lib.hid (R.out.below hb).lt; clear R; have R := R_; clear R_
    have P_ := Lib.hid (P.out.below hb).lt; clear P; have P := P_; clear P_
    have HT_ := Lib.hid (HT.out.below hb).lt; clear HT; have HT := HT_; clear HT_
    have BB_ := Lib.hid (BB.out.trans (hb.mono BB.out.size)); clear BB; have BB := BB_; clear BB_ hb
    go_wp2_with fail
    refine (implPowerSum_yes _ _ _ _ 1 _ P.out H4.out (by omega)).mono ?_
    rintro e w7 ⟨rfl, hb⟩
    have R_ := Lib.hid (R.out.below hb).lt; clear R; have R := R_; clear R_
    have HT_ := Lib.hid (HT.out.below hb).lt; clear HT; have HT := HT_; clear HT_
    have BB_ := Lib.hid (BB.out.trans (hb.mono BB.out.size)); clear BB; have BB := BB_; clear BB_ hb
    go_wp2_with fail
    (with_reducible refine (sameInts_same _ _ _ _ _ _ _ HT.out R.out (by omega)).mono ?_)
    rintro e w8 ⟨rfl, hb⟩
    have BB_ := Lib.hid (BB.out.trans (hb.mono BB.out.size)); clear BB; have BB := BB_; clear BB_ hb
    go_wp2_with fail
    go_ret
    exact ⟨rfl, BB.out⟩
end Go.Proofs.Ytbfpllmoaooadaa
