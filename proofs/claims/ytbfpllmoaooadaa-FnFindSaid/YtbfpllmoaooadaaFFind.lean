
/- FnFind: found sides are equal to 2: the walk. -/
import Derived.Test.YtbfpllmoaooadaaFindI
import Derived.Test.YtbfpllmoaooadaaFindS
import Derived.Test.YtbfpllmoaooadaaFThue
namespace Go.Proofs.Ytbfpllmoaooadaa
set_option linter.unusedVariables false
open Go.RowKit
theorem implFind_at (t : Int) (h : 4 ≤ t ∧ t ≤ 12) (w : World) : Calls Try.prog 47 #[.int .i64 t] w (RetOwn2B w [0, 3, 3] [1, 1, 4] true) := by
  obtain ⟨n, rfl⟩ := Int.eq_ofNat_of_zero_le (show 0 ≤ t by omega)
  have h2 := implFind_yes n (by omega) (by omega) w
  rw [Fd.first_threes n (by omega) (by omega)] at h2
  unfold Fd.found at h2
  rw [if_neg (by omega)] at h2
  exact h2
theorem implFind_not (t : Int) (h : ¬ (4 ≤ t ∧ t ≤ 12)) (w : World) : Calls Try.prog 47 #[.int .i64 t] w (RetOwn2B w [] [] false) := by
  by_cases h1 : 1 ≤ t ∧ t ≤ 12
  · obtain ⟨n, rfl⟩ := Int.eq_ofNat_of_zero_le (show 0 ≤ t by omega)
    have h2 := implFind_yes n (by omega) (by omega) w
    rw [Fd.first_threes n (by omega) (by omega)] at h2
    unfold Fd.found at h2
    rw [if_pos (by omega)] at h2
    exact h2
  · exact implFind_no t h1 w
theorem specFind_at (t : Int) (h : 4 ≤ t ∧ t ≤ 12) (w : World) : Calls Try.prog 46 #[.int .i64 t] w (RetOwn2B w [0, 3, 3] [1, 1, 4] true) := by
  obtain ⟨n, rfl⟩ := Int.eq_ofNat_of_zero_le (show 0 ≤ t by omega)
  have h2 := specFind_yes n (by omega) (by omega) w
  rw [Fd.first_threes n (by omega) (by omega)] at h2
  unfold Fd.found at h2
  rw [if_neg (by omega)] at h2
  exact h2
theorem specFind_not (t : Int) (h : ¬ (4 ≤ t ∧ t ≤ 12)) (w : World) : Calls Try.prog 46 #[.int .i64 t] w (RetOwn2B w [] [] false) := by
  by_cases h1 : 1 ≤ t ∧ t ≤ 12
  · obtain ⟨n, rfl⟩ := Int.eq_ofNat_of_zero_le (show 0 ≤ t by omega)
    have h2 := specFind_yes n (by omega) (by omega) w
    rw [Fd.first_threes n (by omega) (by omega)] at h2
    unfold Fd.found at h2
    rw [if_pos (by omega)] at h2
    exact h2
  · exact specFind_no t h1 w
set_option maxRecDepth 100000 in
theorem find_facts : pIn [0, 3, 3] = true ∧ pIn [1, 1, 4] = true ∧ IsDeg (fun j => Nw.ps j [0, 3, 3]) (fun j => Nw.ps j [1, 1, 4]) 2 :=
  ⟨pIn_of_B (by decide +kernel), pIn_of_B (by decide +kernel), isDeg_of 2 (by omega) (by decide +kernel) (by decide +kernel)⟩
set_option maxRecDepth 100000 in
set_option maxHeartbeats 3200000 in
theorem mainFind (a0 : Option Addr) (n0 c0 : Nat) (z0 : List Int) (w : World) (hd0 : Rb w w.heap.size a0 n0 z0) (hk0 : n0 ≤ c0) : Calls Try.prog 16 #[.slice a0 n0 c0] w (RetB w true) := by
  by_cases big : 1048576 < n0
  · go_enter Try.func16, Try.ntmps16
    go_wp2_with fail
    go_ret
    exact ⟨rfl, Below.refl _ _⟩
  have BB := Lib.hid (Below.refl w.heap.size w)
  go_enter Try.func16, Try.ntmps16
  go_wp2_with fail
  refine (drawPowerFind_any _ _ _ _ _ hd0 hk0).mono ?_
  rintro e w1 ⟨t, rfl, t0, t1, hb⟩
  have BB_ := Lib.hid (BB.out.trans (hb.mono BB.out.size)); clear BB; have BB := BB_; clear BB_ hb
  go_wp2_with fail
  by_cases h : 4 ≤ t ∧ t ≤ 12
  · obtain ⟨f1, f2, f3⟩ := find_facts
    have F1 := Lib.hid f1
    have F2 := Lib.hid f2
    have F3 := Lib.hid f3
    have HT := Lib.hid h
    have HI := Lib.hid (fun W => implFind_at t h W)
    have HS := Lib.hid (fun W => specFind_at t h W)
    have hwi : IntKind.i64.wrap (t + 1) = t + 1 := IntWalk.i64_in _ (by omega)
    obtain ⟨E, hE⟩ : ∃ E : List Int, E = [0, 3, 3] := ⟨_, rfl⟩
    obtain ⟨O, hO⟩ : ∃ O : List Int, O = [1, 1, 4] := ⟨_, rfl⟩
    rw [← hE] at F1 F3 HI HS
    rw [← hO] at F2 F3 HI HS
    have lE : E.length ≤ 3 := by rw [hE]; simp
    have lE' : 3 ≤ E.length := by rw [hE]; simp
    have lO : O.length ≤ 3 := by rw [hO]; simp
    have lO' : 3 ≤ O.length := by rw [hO]; simp
    have gE := Lib.hid (show E.getD 0 0 = 0 by rw [hE]; rfl)
    have HE := Lib.hid hE
    have HOO := Lib.hid hO
    clear f1 f2 f3 h hE hO
    refine (HI.out _).mono ?_
    rintro e w2 ⟨A2, n2, c2, B2, m2, d2, rfl, ho2, hp2, _, hb⟩
    have BB_ := Lib.hid (BB.out.trans (hb.mono BB.out.size)); clear BB; have BB := BB_; clear BB_ hb
    have P := Lib.hid ho2.rd; clear ho2
    have Q := Lib.hid hp2.rd; clear hp2
    go_wp2_with fail
    obtain rfl : n2 = 3 := by have := P.out.len; omega
    obtain rfl : m2 = 3 := by have := Q.out.len; omega
    refine (HS.out _).mono ?_
    rintro e w3 ⟨A3, n3, c3, B3, m3, d3, rfl, ho3, hp3, _, hb⟩
    have P_ := Lib.hid (P.out.below hb).lt; clear P; have P := P_; clear P_
    have Q_ := Lib.hid (Q.out.below hb).lt; clear Q; have Q := Q_; clear Q_
    have BB_ := Lib.hid (BB.out.trans (hb.mono BB.out.size)); clear BB; have BB := BB_; clear BB_ hb
    have U := Lib.hid ho3.rd; clear ho3
    have V := Lib.hid hp3.rd; clear hp3
    go_wp2_with fail
    obtain rfl : n3 = 3 := by have := U.out.len; omega
    obtain rfl : m3 = 3 := by have := V.out.len; omega
    refine (sameInts_same _ _ _ _ _ _ _ P.out U.out (by omega)).mono ?_
    rintro e w4 ⟨rfl, hb⟩
    have P_ := Lib.hid (P.out.below hb).lt; clear P; have P := P_; clear P_
    have Q_ := Lib.hid (Q.out.below hb).lt; clear Q; have Q := Q_; clear Q_
    have V_ := Lib.hid (V.out.below hb).lt; clear V; have V := V_; clear V_
    have BB_ := Lib.hid (BB.out.trans (hb.mono BB.out.size)); clear BB; have BB := BB_; clear BB_ hb
    go_wp2_with fail
    refine (sameInts_same _ _ _ _ _ _ _ Q.out V.out (by omega)).mono ?_
    rintro e w5 ⟨rfl, hb⟩
    have P_ := Lib.hid (P.out.below hb).lt; clear P; have P := P_; clear P_
    have Q_ := Lib.hid (Q.out.below hb).lt; clear Q; have Q := Q_; clear Q_
    have BB_ := Lib.hid (BB.out.trans (hb.mono BB.out.size)); clear BB; have BB := BB_; clear BB_ hb
    go_wp2_with fail
    refine (implPowerDegree_yes _ _ _ _ _ _ _ _ _ P.out Q.out F1.out F2.out _ F3.out).mono ?_
    rintro e w6 ⟨rfl, hb⟩
    have P_ := Lib.hid (P.out.below hb).lt; clear P; have P := P_; clear P_
    have BB_ := Lib.hid (BB.out.trans (hb.mono BB.out.size)); clear BB; have BB := BB_; clear BB_ hb
    go_wp2_with fail
    by_cases h12 : t = 12
    · have d11 : decide (t > 11) = true := decide_eq_true (by omega)
      have HNF := Lib.hid (fun W => implFind_not (t + 1) (by omega) W)
      clear h12
      refine (HNF.out _).mono ?_
      rintro e w7 ⟨A7, n7, c7, B7, m7, d7, rfl, ho7, hp7, _, hb⟩
      have BB_ := Lib.hid (BB.out.trans (hb.mono BB.out.size)); clear BB ho7 hp7 hb; have BB := BB_; clear BB_
      go_wp2_with fail
      go_quiet (fail)
      go_wp2_with fail
      go_ret
      exact ⟨rfl, below_drewN BB.out nq⟩
    · have d11 : decide (t > 11) = false := decide_eq_false (by have := HT.out; omega)
      have HNF := Lib.hid (fun W => implFind_at (t + 1) (by have := HT.out; omega) W)
      rw [← HE.out, ← HOO.out] at HNF
      clear h12
      refine (HNF.out _).mono ?_
      rintro e w7 ⟨A7, n7, c7, B7, m7, d7, rfl, ho7, hp7, _, hb⟩
      have P7 := P.out.below hb
      obtain rfl : n7 = 3 := by have := ho7.len; omega
      obtain rfl : m7 = 3 := by have := hp7.len; omega
      obtain ⟨b1, o1, rfl, _, hc1⟩ := P7.at_ (show 0 < 3 by omega)
      obtain ⟨b2, o2, rfl, _, hc2⟩ := ho7.rd.at_ (show 0 < 3 by omega)
      have g1 := hc1 0 (by omega)
      have g2 := hc2 0 (by omega)
      rw [Nat.add_zero, gE.out] at g1 g2
      have BB_ := Lib.hid (BB.out.trans (hb.mono BB.out.size)); clear BB ho7 hp7 hb hc1 hc2 P7 P; have BB := BB_; clear BB_
      go_wp2_with fail
      go_quiet (fail)
      go_wp2_with fail
      go_ret
      exact ⟨rfl, below_drewN BB.out nq⟩
  · have HI := Lib.hid (fun W => implFind_not t h W)
    have HS := Lib.hid (fun W => specFind_not t h W)
    refine (HI.out _).mono ?_
    rintro e w2 ⟨A2, n2, c2, B2, m2, d2, rfl, ho2, hp2, _, hb⟩
    have BB_ := Lib.hid (BB.out.trans (hb.mono BB.out.size)); clear BB; have BB := BB_; clear BB_ hb
    have P := Lib.hid ho2.rd; clear ho2
    have Q := Lib.hid hp2.rd; clear hp2
    go_wp2_with fail
    have q2 : n2 = 0 := by have := P.out.len; simp at this; omega
    have q3 : m2 = 0 := by have := Q.out.len; simp at this; omega
    subst q2 q3
    refine (HS.out _).mono ?_
    rintro e w3 ⟨A3, n3, c3, B3, m3, d3, rfl, ho3, hp3, _, hb⟩
    have P_ := Lib.hid (P.out.below hb).lt; clear P; have P := P_; clear P_
    have Q_ := Lib.hid (Q.out.below hb).lt; clear Q; have Q := Q_; clear Q_
    have BB_ := Lib.hid (BB.out.trans (hb.mono BB.out.size)); clear BB; have BB := BB_; clear BB_ hb
    have U := Lib.hid ho3.rd; clear ho3
    have V := Lib.hid hp3.rd; clear hp3
    go_wp2_with fail
    have q2 : n3 = 0 := by have := U.out.len; simp at this; omega
    have q3 : m3 = 0 := by have := V.out.len; simp at this; omega
    subst q2 q3
    refine (sameInts_same _ _ _ _ _ _ _ P.out U.out (by omega)).mono ?_
    rintro e w4 ⟨rfl, hb⟩
    have P_ := Lib.hid (P.out.below hb).lt; clear P; have P := P_; clear P_
    have Q_ := Lib.hid (Q.out.below hb).lt; clear Q; have Q := Q_; clear Q_
    have U_ := Lib.hid (U.out.below hb).lt; clear U; have U := U_; clear U_
    have V_ := Lib.hid (V.out.below hb).lt; clear V; have V := V_; clear V_
    have BB_ := Lib.hid (BB.out.trans (hb.mono BB.out.size)); clear BB; have BB := BB_; clear BB_ hb
    go_wp2_with fail
    refine (sameInts_same _ _ _ _ _ _ _ Q.out V.out (by omega)).mono ?_
    rintro e w5 ⟨rfl, hb⟩
    have P_ := Lib.hid (P.out.below hb).lt; clear P; have P := P_; clear P_
    have Q_ := Lib.hid (Q.out.below hb).lt; clear Q; have Q := Q_; clear Q_
    have U_ := Lib.hid (U.out.below hb).lt; clear U; have U := U_; clear U_
    have V_ := Lib.hid (V.out.below hb).lt; clear V; have V := V_; clear V_
    have BB_ := Lib.hid (BB.out.trans (hb.mono BB.out.size)); clear BB; have BB := BB_; clear BB_ hb
    go_wp2_with fail
    refine (sameInts_same _ _ _ _ _ _ _ P.out U.out (by omega)).mono ?_
    rintro e w6 ⟨rfl, hb⟩
    have P_ := Lib.hid (P.out.below hb).lt; clear P; have P := P_; clear P_
    have Q_ := Lib.hid (Q.out.below hb).lt; clear Q; have Q := Q_; clear Q_
    have U_ := Lib.hid (U.out.below hb).lt; clear U; have U := U_; clear U_
    have V_ := Lib.hid (V.out.below hb).lt; clear V; have V := V_; clear V_
    have BB_ := Lib.hid (BB.out.trans (hb.mono BB.out.size)); clear BB; have BB := BB_; clear BB_ hb
    go_wp2_with fail
    refine (sameInts_same _ _ _ _ _ _ _ Q.out V.out (by omega)).mono ?_
    rintro e w7 ⟨rfl, hb⟩
    have P_ := Lib.hid (P.out.below hb).lt; clear P; have P := P_; clear P_
    have Q_ := Lib.hid (Q.out.below hb).lt; clear Q; have Q := Q_; clear Q_
    have U_ := Lib.hid (U.out.below hb).lt; clear U; have U := U_; clear U_
    have V_ := Lib.hid (V.out.below hb).lt; clear V; have V := V_; clear V_
    have BB_ := Lib.hid (BB.out.trans (hb.mono BB.out.size)); clear BB; have BB := BB_; clear BB_ hb
    go_wp2_with fail
    go_ret
    exact ⟨rfl, BB.out⟩
end Go.Proofs.Ytbfpllmoaooadaa
