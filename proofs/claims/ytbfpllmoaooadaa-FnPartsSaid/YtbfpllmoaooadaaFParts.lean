
/- FnParts: sides without common numbers have the same degree, and more numbers than it: the walk. -/
import Derived.Test.YtbfpllmoaooadaaDrawQ
import Derived.Test.YtbfpllmoaooadaaPartsW
import Derived.Test.YtbfpllmoaooadaaPowDegK
namespace Go.Proofs.Ytbfpllmoaooadaa
set_option linter.unusedVariables false
open Go.RowKit
theorem IsDeg.same {p q p' q' : Nat → Int} {d : Int} (h : IsDeg p q d) (e : ∀ j, p' j - q' j = p j - q j) : IsDeg p' q' d := by
  obtain ⟨h1, h2, h3, h4⟩ := h
  refine ⟨h1, h2, fun j hj => ?_, fun j hj h6 => ?_⟩
  · have := h3 j hj
    have := e j
    omega
  · have := h4 j hj h6
    have := e j
    omega
theorem IsDeg.symm {p q : Nat → Int} {d : Int} (h : IsDeg p q d) : IsDeg q p d := ⟨h.1, h.2.1, fun j hj => (h.2.2.1 j hj).symm, fun j hj h6 e => h.2.2.2 j hj h6 e.symm⟩
theorem pIn_sub {l xs : List Int} (hs : l.Sublist xs) (h : pIn xs = true) : pIn l = true := by
  have hP := pIn_true.1 h
  have hw := (pIn_sorted hP).sublist hs
  refine pIn_true.2 ⟨Nat.le_trans hs.length_le hP.1, fun j hj => ?_, fun j hj => ?_⟩
  · have := List.pairwise_iff_getElem.1 hw j (j + 1) (by omega) hj (by omega)
    rw [Srt.getD_eq (by omega), Srt.getD_eq hj]; exact this
  · rw [Srt.getD_eq hj]
    exact hP.all _ (hs.subset (by simp))
/-- More numbers than the degree, or none, or not as many. -/
theorem parts_more {xs ys : List Int} (h : pIn xs = true) (h' : pIn ys = true) {d : Int} (hd : IsDeg (fun j => Nw.ps j (Pt.parts xs ys).1) (fun j => Nw.ps j (Pt.parts xs ys).2) d) :
    (Pt.parts xs ys).1.length = 0 ∨ (Pt.parts xs ys).1.length ≠ (Pt.parts xs ys).2.length ∨ d < ((Pt.parts xs ys).1.length : Int) := by
  by_cases e0 : (Pt.parts xs ys).1.length = 0
  · exact Or.inl e0
  by_cases e1 : (Pt.parts xs ys).1.length = (Pt.parts xs ys).2.length
  · right; right
    by_cases hlt : d < ((Pt.parts xs ys).1.length : Int)
    · exact hlt
    · exfalso
      obtain ⟨n, hn⟩ := Int.eq_ofNat_of_zero_le (show 0 ≤ d by omega)
      obtain ⟨x, hx1, hx2⟩ := Nw.meet_of_powers (d := n) e1 (fun e => e0 (by rw [e]; rfl)) (by omega) (by have := hd.2.1; omega) (fun k hk => hd.2.2.1 k (by omega))
      exact Pt.parts_apart xs ys (pIn_sorted (pIn_true.1 h)) (pIn_sorted (pIn_true.1 h')) x hx1 hx2
  · exact Or.inr (Or.inl e1)
set_option maxRecDepth 100000 in
set_option maxHeartbeats 3200000 in
theorem mainParts (a0 : Option Addr) (n0 c0 : Nat) (z0 : List Int) (w : World) (hd0 : Rb w w.heap.size a0 n0 z0) (hk0 : n0 ≤ c0) : Calls Try.prog 17 #[.slice a0 n0 c0] w (RetB w true) := by
  by_cases big : 1048576 < n0
  · go_enter Try.func17, Try.ntmps17
    go_wp2_with fail
    go_ret
    exact ⟨rfl, Below.refl _ _⟩
  have BB := Lib.hid (Below.refl w.heap.size w)
  go_enter Try.func17, Try.ntmps17
  go_wp2_with fail
  refine (drawPowerParts_any _ _ _ _ _ hd0 hk0).mono ?_
  rintro e w1 ⟨A, n, c, B, m, k, xs, ys, rfl, ho, ho', hn, hm, hc, hk, hb⟩
  have BB_ := Lib.hid (BB.out.trans (hb.mono BB.out.size)); clear BB; have BB := BB_; clear BB_ hb
  have R := Lib.hid ho.rd; clear ho
  have S := Lib.hid ho'.rd; clear ho'
  go_wp2_with fail
  by_cases h : pIn xs = true ∧ pIn ys = true
  · obtain ⟨h1, h2⟩ := h
    obtain ⟨d, hd⟩ := isDeg_ex (fun j => Nw.ps j xs) (fun j => Nw.ps j ys)
    have hd2 := hd.same (p' := fun j => Nw.ps j (Pt.parts xs ys).1) (q' := fun j => Nw.ps j (Pt.parts xs ys).2) (fun j => Pt.parts_ps j xs ys)
    have hmore := parts_more h1 h2 hd2
    have hX := pIn_sub (Pt.parts_sub xs ys).1 h1
    have hY := pIn_sub (Pt.parts_sub xs ys).2 h2
    have HI := Lib.hid (fun (A : Option Addr) (n c : Nat) (B : Option Addr) (m k : Nat) (W : World) (ha : Rd W W.heap.size A n xs) (hb : Rd W W.heap.size B m ys) (hc : n ≤ c) (hk : m ≤ k) => implParts_yes A n c xs B m k ys W ha hb hc hk h1 h2)
    have HS := Lib.hid (fun (A : Option Addr) (n c : Nat) (B : Option Addr) (m k : Nat) (W : World) (ha : Rd W W.heap.size A n xs) (hb : Rd W W.heap.size B m ys) => specParts_yes A n c xs B m k ys W ha hb h1 h2)
    generalize (Pt.parts xs ys).1 = X at hd2 hmore hX HI HS
    generalize (Pt.parts xs ys).2 = Y at hd2 hmore hY HI HS
    have H1 := Lib.hid h1
    have H2 := Lib.hid h2
    have HD := Lib.hid hd
    have HD2 := Lib.hid hd2
    have HX := Lib.hid hX
    have HY := Lib.hid hY
    have HM := Lib.hid hmore
    clear h1 h2 hd hd2 hX hY hmore
    refine (HI.out _ _ _ _ _ _ _ R.out S.out hc hk).mono ?_
    rintro e w2 ⟨A2, n2, c2, B2, m2, k2, rfl, ho2, hp2, _, hb⟩
    have R_ := Lib.hid (R.out.below hb).lt; clear R; have R := R_; clear R_
    have S_ := Lib.hid (S.out.below hb).lt; clear S; have S := S_; clear S_
    have BB_ := Lib.hid (BB.out.trans (hb.mono BB.out.size)); clear BB; have BB := BB_; clear BB_ hb
    have P := Lib.hid ho2.rd; clear ho2
    have Q := Lib.hid hp2.rd; clear hp2
    go_wp2_with fail
    have hb2 : n2 ≤ 8 := by have := P.out.len; have := (pIn_true.1 HX.out).1; omega
    have hb3 : m2 ≤ 8 := by have := Q.out.len; have := (pIn_true.1 HY.out).1; omega
    refine (HS.out _ _ _ _ _ _ _ R.out S.out).mono ?_
    rintro e w3 ⟨A3, n3, c3, B3, m3, k3, rfl, ho3, hp3, _, hb⟩
    have R_ := Lib.hid (R.out.below hb).lt; clear R; have R := R_; clear R_
    have S_ := Lib.hid (S.out.below hb).lt; clear S; have S := S_; clear S_
    have P_ := Lib.hid (P.out.below hb).lt; clear P; have P := P_; clear P_
    have Q_ := Lib.hid (Q.out.below hb).lt; clear Q; have Q := Q_; clear Q_
    have BB_ := Lib.hid (BB.out.trans (hb.mono BB.out.size)); clear BB; have BB := BB_; clear BB_ hb
    have U := Lib.hid ho3.rd; clear ho3
    have V := Lib.hid hp3.rd; clear hp3
    go_wp2_with fail
    obtain rfl : n3 = n2 := by have h1 := U.out.len; have h2 := P.out.len; omega
    obtain rfl : m3 = m2 := by have h1 := V.out.len; have h2 := Q.out.len; omega
    refine (sameInts_same _ _ _ _ _ _ _ P.out U.out (by omega)).mono ?_
    rintro e w4 ⟨rfl, hb⟩
    have R_ := Lib.hid (R.out.below hb).lt; clear R; have R := R_; clear R_
    have S_ := Lib.hid (S.out.below hb).lt; clear S; have S := S_; clear S_
    have P_ := Lib.hid (P.out.below hb).lt; clear P; have P := P_; clear P_
    have Q_ := Lib.hid (Q.out.below hb).lt; clear Q; have Q := Q_; clear Q_
    have V_ := Lib.hid (V.out.below hb).lt; clear V; have V := V_; clear V_
    have BB_ := Lib.hid (BB.out.trans (hb.mono BB.out.size)); clear BB; have BB := BB_; clear BB_ hb
    go_wp2_with fail
    refine (sameInts_same _ _ _ _ _ _ _ Q.out V.out (by omega)).mono ?_
    rintro e w5 ⟨rfl, hb⟩
    have R_ := Lib.hid (R.out.below hb).lt; clear R; have R := R_; clear R_
    have S_ := Lib.hid (S.out.below hb).lt; clear S; have S := S_; clear S_
    have P_ := Lib.hid (P.out.below hb).lt; clear P; have P := P_; clear P_
    have Q_ := Lib.hid (Q.out.below hb).lt; clear Q; have Q := Q_; clear Q_
    have BB_ := Lib.hid (BB.out.trans (hb.mono BB.out.size)); clear BB; have BB := BB_; clear BB_ hb
    go_wp2_with fail
    refine (implPowerDegree_yes _ _ _ _ _ _ _ _ _ R.out S.out H1.out H2.out _ HD.out).mono ?_
    rintro e w6 ⟨rfl, hb⟩
    have P_ := Lib.hid (P.out.below hb).lt; clear P; have P := P_; clear P_
    have Q_ := Lib.hid (Q.out.below hb).lt; clear Q; have Q := Q_; clear Q_
    have BB_ := Lib.hid (BB.out.trans (hb.mono BB.out.size)); clear BB; have BB := BB_; clear BB_ hb
    go_wp2_with fail
    have hM := HM.out
    rw [P.out.len, Q.out.len] at hM
    clear HM
    by_cases e0 : n3 = 0
    · have b0 : ((n3 : Int) == 0) = true := by simp; omega
      clear hM e0
      refine (implPowerDegree_yes _ _ _ _ _ _ _ _ _ P.out Q.out HX.out HY.out _ HD2.out).mono ?_
      rintro e w7 ⟨rfl, hb⟩
      have BB_ := Lib.hid (BB.out.trans (hb.mono BB.out.size)); clear BB; have BB := BB_; clear BB_ hb
      go_wp2_with fail
      go_ret
      exact ⟨rfl, BB.out⟩
    · have b0 : ((n3 : Int) == 0) = false := by simp; omega
      by_cases e1 : n3 = m3
      · have b1 : ((n3 : Int) != (m3 : Int)) = false := by simp; omega
        have b2 : d < (n3 : Int) := by omega
        clear hM e0 e1
        refine (implPowerDegree_yes _ _ _ _ _ _ _ _ _ P.out Q.out HX.out HY.out _ HD2.out).mono ?_
        rintro e w7 ⟨rfl, hb⟩
        have BB_ := Lib.hid (BB.out.trans (hb.mono BB.out.size)); clear BB; have BB := BB_; clear BB_ hb
        go_wp2_with fail
        go_ret
        exact ⟨rfl, BB.out⟩
      · have b1 : ((n3 : Int) != (m3 : Int)) = true := by simp; omega
        clear hM e0 e1
        refine (implPowerDegree_yes _ _ _ _ _ _ _ _ _ P.out Q.out HX.out HY.out _ HD2.out).mono ?_
        rintro e w7 ⟨rfl, hb⟩
        have BB_ := Lib.hid (BB.out.trans (hb.mono BB.out.size)); clear BB; have BB := BB_; clear BB_ hb
        go_wp2_with fail
        go_ret
        exact ⟨rfl, BB.out⟩
  · have hN : pIn xs = false ∨ pIn ys = false := by
      cases e0 : pIn xs with
      | false => exact Or.inl rfl
      | true => cases e1 : pIn ys with
        | false => exact Or.inr rfl
        | true => exact absurd ⟨e0, e1⟩ h
    have HN := Lib.hid hN
    clear h hN
    refine (implParts_no _ _ _ _ _ _ _ _ _ R.out S.out (by omega) (by omega) HN.out).mono ?_
    rintro e w2 ⟨A2, n2, c2, B2, m2, d2, rfl, ho2, hp2, _, hb⟩
    have R_ := Lib.hid (R.out.below hb).lt; clear R; have R := R_; clear R_
    have S_ := Lib.hid (S.out.below hb).lt; clear S; have S := S_; clear S_
    have BB_ := Lib.hid (BB.out.trans (hb.mono BB.out.size)); clear BB; have BB := BB_; clear BB_ hb
    have P := Lib.hid ho2.rd; clear ho2
    have Q := Lib.hid hp2.rd; clear hp2
    go_wp2_with fail
    have q2 : n2 = 0 := by have := P.out.len; simp at this; omega
    have q3 : m2 = 0 := by have := Q.out.len; simp at this; omega
    subst q2 q3
    refine (specParts_no _ _ _ _ _ _ _ _ _ R.out S.out (by omega) (by omega) HN.out).mono ?_
    rintro e w3 ⟨A3, n3, c3, B3, m3, d3, rfl, ho3, hp3, _, hb⟩
    have P_ := Lib.hid (P.out.below hb).lt; clear P; have P := P_; clear P_
    have Q_ := Lib.hid (Q.out.below hb).lt; clear Q; have Q := Q_; clear Q_
    have BB_ := Lib.hid (BB.out.trans (hb.mono BB.out.size)); clear BB; have BB := BB_; clear BB_ hb
    have U := Lib.hid ho3.rd; clear ho3
    have V := Lib.hid hp3.rd; clear hp3
    go_wp2_with fail
    have q2 : n3 = 0 := by have := U.out.len; simp at this; omega
    have q3 : m3 = 0 := by have := V.out.len; simp at this; omega
    subst q2 q3
    refine (sameInts_same _ _ _ _ _ _ _ P.out U.out (by omega)).mono ?_
    rintro e w4 ⟨rfl, hb⟩
    have P_ := Lib.hid (P.out.below hb).lt; clear P; have P := P_; clear P_
    have Q_ := Lib.hid (Q.out.below hb).lt; clear Q; have Q := Q_; clear Q_
    have U_ := Lib.hid (U.out.below hb).lt; clear U; have U := U_; clear U_
    have V_ := Lib.hid (V.out.below hb).lt; clear V; have V := V_; clear V_
    have BB_ := Lib.hid (BB.out.trans (hb.mono BB.out.size)); clear BB; have BB := BB_; clear BB_ hb
    go_wp2_with fail
    refine (sameInts_same _ _ _ _ _ _ _ Q.out V.out (by omega)).mono ?_
    rintro e w5 ⟨rfl, hb⟩
    have P_ := Lib.hid (P.out.below hb).lt; clear P; have P := P_; clear P_
    have Q_ := Lib.hid (Q.out.below hb).lt; clear Q; have Q := Q_; clear Q_
    have U_ := Lib.hid (U.out.below hb).lt; clear U; have U := U_; clear U_
    have V_ := Lib.hid (V.out.below hb).lt; clear V; have V := V_; clear V_
    have BB_ := Lib.hid (BB.out.trans (hb.mono BB.out.size)); clear BB; have BB := BB_; clear BB_ hb
    go_wp2_with fail
    refine (sameInts_same _ _ _ _ _ _ _ P.out U.out (by omega)).mono ?_
    rintro e w6 ⟨rfl, hb⟩
    have P_ := Lib.hid (P.out.below hb).lt; clear P; have P := P_; clear P_
    have Q_ := Lib.hid (Q.out.below hb).lt; clear Q; have Q := Q_; clear Q_
    have U_ := Lib.hid (U.out.below hb).lt; clear U; have U := U_; clear U_
    have V_ := Lib.hid (V.out.below hb).lt; clear V; have V := V_; clear V_
    have BB_ := Lib.hid (BB.out.trans (hb.mono BB.out.size)); clear BB; have BB := BB_; clear BB_ hb
    go_wp2_with fail
    refine (sameInts_same _ _ _ _ _ _ _ Q.out V.out (by omega)).mono ?_
    rintro e w7 ⟨rfl, hb⟩
    have P_ := Lib.hid (P.out.below hb).lt; clear P; have P := P_; clear P_
    have Q_ := Lib.hid (Q.out.below hb).lt; clear Q; have Q := Q_; clear Q_
    have U_ := Lib.hid (U.out.below hb).lt; clear U; have U := U_; clear U_
    have V_ := Lib.hid (V.out.below hb).lt; clear V; have V := V_; clear V_
    have BB_ := Lib.hid (BB.out.trans (hb.mono BB.out.size)); clear BB; have BB := BB_; clear BB_ hb
    go_wp2_with fail
    go_ret
    exact ⟨rfl, BB.out⟩
end Go.Proofs.Ytbfpllmoaooadaa
