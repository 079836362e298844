
/- FnScaled: scaled sides have scaled power sums: the walk. -/
import Derived.Test.YtbfpllmoaooadaaFPowerSum
namespace Go.Proofs.Ytbfpllmoaooadaa
set_option linter.unusedVariables false
open Go.RowKit
set_option maxRecDepth 100000 in
set_option maxHeartbeats 3200000 in
theorem mainScaled (a0 : Option Addr) (n0 c0 : Nat) (z0 : List Int) (w : World) (hd0 : Rb w w.heap.size a0 n0 z0) (hk0 : n0 ≤ c0) : Calls Try.prog 20 #[.slice a0 n0 c0] w (RetB w true) := by
  by_cases big : 1048576 < n0
  · go_enter Try.func20, Try.ntmps20
    go_wp2_with fail
    go_ret
    exact ⟨rfl, Below.refl _ _⟩
  have BB := Lib.hid (Below.refl w.heap.size w)
  go_enter Try.func20, Try.ntmps20
  go_wp2_with fail
  refine (drawPowerScaled_any _ _ _ _ _ hd0 hk0).mono ?_
  rintro e w1 ⟨A, n, c, xs, t, rfl, ho, hn, t1, t2, hb⟩
  have BB_ := Lib.hid (BB.out.trans (hb.mono BB.out.size)); clear BB; have BB := BB_; clear BB_ hb
  have R := Lib.hid ho.rd; clear ho
  go_wp2_with fail
  cases hs : scOk xs t with
  | false =>
    have HS := Lib.hid hs
    clear hs
    refine (implPowerScaled_any _ _ _ _ _ _ R.out (by omega) _ HS.out).mono ?_
    rintro e w2 ⟨A2, n2, c2, rfl, ho2, hb⟩
    have R_ := Lib.hid (R.out.below hb).lt; clear R; have R := R_; clear R_
    have BB_ := Lib.hid (BB.out.trans (hb.mono BB.out.size)); clear BB; have BB := BB_; clear BB_ hb
    have P := Lib.hid ho2.rd; clear ho2
    go_wp2_with fail
    have q2 : n2 = 0 := by have := P.out.len; simp [scOr] at this; omega
    subst q2
    refine (specPowerScaled_any _ _ _ _ _ _ R.out (by omega) _ HS.out).mono ?_
    rintro e w3 ⟨A3, n3, c3, rfl, ho3, hb⟩
    have R_ := Lib.hid (R.out.below hb).lt; clear R; have R := R_; clear R_
    have P_ := Lib.hid (P.out.below hb).lt; clear P; have P := P_; clear P_
    have BB_ := Lib.hid (BB.out.trans (hb.mono BB.out.size)); clear BB; have BB := BB_; clear BB_ hb
    have Q := Lib.hid ho3.rd; clear ho3
    go_wp2_with fail
    have q3 : n3 = 0 := by have := Q.out.len; simp [scOr] at this; omega
    subst q3
    refine (sameInts_same _ _ _ _ _ _ _ P.out Q.out (by omega)).mono ?_
    rintro e w4 ⟨rfl, hb⟩
    have P_ := Lib.hid (P.out.below hb).lt; clear P; have P := P_; clear P_
    have Q_ := Lib.hid (Q.out.below hb).lt; clear Q; have Q := Q_; clear Q_
    have BB_ := Lib.hid (BB.out.trans (hb.mono BB.out.size)); clear BB; have BB := BB_; clear BB_ hb
    go_wp2_with fail
    refine (sameInts_same _ _ _ _ _ _ _ P.out Q.out (by omega)).mono ?_
    rintro e w5 ⟨rfl, hb⟩
    have BB_ := Lib.hid (BB.out.trans (hb.mono BB.out.size)); clear BB; have BB := BB_; clear BB_ hb
    go_wp2_with fail
    go_ret
    exact ⟨rfl, BB.out⟩
  | true =>
    obtain ⟨h1, h2, h3, h4⟩ := scOk_true.1 hs
    have hl8 : n ≤ 8 := by have := (pIn_true.1 h1).1; have := R.out.len; omega
    have hsum := ps_sc t 2 xs
    have hb1 := ps_bound8 (k := 2) (by omega) (l := xs) ((pIn_true.1 h1).1) (pIn_true.1 h1).all
    obtain ⟨ys, hys⟩ : ∃ ys, Srt.up (sc xs t) = ys := ⟨_, rfl⟩
    have hly : ys.length = xs.length := by rw [← hys, (Srt.up_perm _).length_eq, sc_len]
    have hor : scOr xs t true = ys := hys
    rw [hys] at hsum h4
    have HOR := Lib.hid hor
    have HLY := Lib.hid hly
    have HS := Lib.hid hs
    have H1 := Lib.hid h1
    have H4 := Lib.hid h4
    clear hs h1 h4 hys hor hly
    obtain ⟨S, hS⟩ : ∃ S, Nw.ps 2 xs = S := ⟨_, rfl⟩
    obtain ⟨T, hT⟩ : ∃ T, Nw.ps 2 ys = T := ⟨_, rfl⟩
    rw [hS] at hsum hb1
    rw [hT] at hsum
    have hts : -62500000000000000 * 10 ≤ S * t ∧ S * t ≤ 62500000000000000 * 10 := by
      have ha : (S * t).natAbs ≤ 6250000000000 * 100 := by rw [Int.natAbs_mul]; exact Nat.mul_le_mul (by omega) (by omega)
      omega
    have htt : -62500000000000000 * 10 ≤ S * t * t ∧ S * t * t ≤ 62500000000000000 * 10 := by
      have ha : (S * t * t).natAbs ≤ 6250000000000 * 100 * 100 := by rw [Int.natAbs_mul, Int.natAbs_mul]; exact Nat.mul_le_mul (Nat.mul_le_mul (by omega) (by omega)) (by omega)
      omega
    have w1' : IntKind.i64.wrap (S * t) = S * t := IntWalk.i64_in _ (by omega)
    have w2' : IntKind.i64.wrap (S * t * t) = S * t * t := IntWalk.i64_in _ (by omega)
    have deq : (T == S * t * t) = true := by
      rw [beq_iff_eq, hsum, Int.pow_succ, Int.pow_succ, Int.pow_zero, Int.one_mul, Int.mul_comm, Int.mul_assoc]
    have C1 : Hid (∀ (A : Option Addr) (n c : Nat) (W : World), Rd W W.heap.size A n xs → Calls Try.prog 30 #[.slice A n c, .int .i64 2] W (RetIB W S true)) := Lib.hid (fun A n c W hr => by rw [← hS]; exact implPowerSum_yes A n c xs 2 W hr H1.out (by omega))
    have C3 : Hid (∀ (A : Option Addr) (n c : Nat) (W : World), Rd W W.heap.size A n ys → Calls Try.prog 30 #[.slice A n c, .int .i64 2] W (RetIB W T true)) := Lib.hid (fun A n c W hr => by rw [← hT]; exact implPowerSum_yes A n c ys 2 W hr H4.out (by omega))
    clear hS hT hsum hts htt
    refine (implPowerScaled_any _ _ _ _ _ _ R.out (by omega) _ HS.out).mono ?_
    rintro e w2 ⟨A2, n2, c2, rfl, ho2, hb⟩
    have R_ := Lib.hid (R.out.below hb).lt; clear R; have R := R_; clear R_
    have BB_ := Lib.hid (BB.out.trans (hb.mono BB.out.size)); clear BB; have BB := BB_; clear BB_ hb
    have P := Lib.hid ho2.rd; clear ho2
    go_wp2_with fail
    rw [HOR.out] at P
    obtain rfl : n2 = n := by have h1 := P.out.len; have h2 := R.out.len; have h3 := HLY.out; omega
    refine (specPowerScaled_any _ _ _ _ _ _ R.out (by omega) _ HS.out).mono ?_
    rintro e w3 ⟨A3, n3, c3, rfl, ho3, hb⟩
    have R_ := Lib.hid (R.out.below hb).lt; clear R; have R := R_; clear R_
    have P_ := Lib.hid (P.out.below hb).lt; clear P; have P := P_; clear P_
    have BB_ := Lib.hid (BB.out.trans (hb.mono BB.out.size)); clear BB; have BB := BB_; clear BB_ hb
    have Q := Lib.hid ho3.rd; clear ho3
    go_wp2_with fail
    rw [HOR.out] at Q
    obtain rfl : n3 = n2 := by have h1 := P.out.len; have h2 := Q.out.len; omega
    refine (sameInts_same _ _ _ _ _ _ _ P.out Q.out (by omega)).mono ?_
    rintro e w4 ⟨rfl, hb⟩
    have R_ := Lib.hid (R.out.below hb).lt; clear R; have R := R_; clear R_
    have P_ := Lib.hid (P.out.below hb).lt; clear P; have P := P_; clear P_
    have BB_ := Lib.hid (BB.out.trans (hb.mono BB.out.size)); clear BB; have BB := BB_; clear BB_ hb
    go_wp2_with fail
    refine (C1.out _ _ _ _ R.out).mono ?_
    rintro e w6 ⟨rfl, hb⟩
    have R_ := Lib.hid (R.out.below hb).lt; clear R; have R := R_; clear R_
    have P_ := Lib.hid (P.out.below hb).lt; clear P; have P := P_; clear P_
    have BB_ := Lib.hid (BB.out.trans (hb.mono BB.out.size)); clear BB; have BB := BB_; clear BB_ hb
    go_wp2_with fail
    refine (C3.out _ _ _ _ P.out).mono ?_
    rintro e w7 ⟨rfl, hb⟩
    have R_ := Lib.hid (R.out.below hb).lt; clear R; have R := R_; clear R_
    have BB_ := Lib.hid (BB.out.trans (hb.mono BB.out.size)); clear BB; have BB := BB_; clear BB_ hb
    go_wp2_with fail
    go_ret
    exact ⟨rfl, BB.out⟩
end Go.Proofs.Ytbfpllmoaooadaa
