
/- FnSpread: spread sides are equal to one power more: the walk. -/
import Derived.Test.YtbfpllmoaooadaaDrawQ
import Derived.Test.YtbfpllmoaooadaaPowDegK
namespace Go.Proofs.Ytbfpllmoaooadaa
set_option linter.unusedVariables false
open Go.RowKit
/-- The degree of spread sides. -/
theorem spread_deg {xs ys : List Int} (t : Int) {d e : Int} (hd : IsDeg (fun j => Nw.ps j xs) (fun j => Nw.ps j ys) d) (he : IsDeg (fun j => Nw.ps j (spL xs ys t)) (fun j => Nw.ps j (spL ys xs t)) e) : d < 6 ∧ d < e ∨ d = 6 ∧ e = 6 := by
  obtain ⟨n, hn⟩ := Int.eq_ofNat_of_zero_le (show 0 ≤ d + 1 by have := hd.1; omega)
  have key : ∀ j : Nat, j ≤ n → Nw.ps j (spL xs ys t) = Nw.ps j (spL ys xs t) := fun j hj => by
    unfold spL
    rw [Nw.ps_perm j (Srt.up_perm _), Nw.ps_perm j (Srt.up_perm _)]
    exact Nw.ps_spread t (d := n) (fun i hi => hd.2.2.1 i (by omega)) j hj
  have hd2 := hd.2.1
  have he2 := he.2.1
  by_cases h6 : d < 6
  · left
    refine ⟨h6, ?_⟩
    by_cases hlt : d < e
    · exact hlt
    · exfalso
      obtain ⟨m, hm⟩ := Int.eq_ofNat_of_zero_le (show 0 ≤ e + 1 by have := he.1; omega)
      exact he.2.2.2 m (by omega) (by omega) (key m (by omega))
  · right
    refine ⟨by omega, ?_⟩
    by_cases hlt : e < 6
    · exfalso
      obtain ⟨m, hm⟩ := Int.eq_ofNat_of_zero_le (show 0 ≤ e + 1 by have := he.1; omega)
      exact he.2.2.2 m (by omega) (by omega) (key m (by omega))
    · omega
set_option maxRecDepth 100000 in
set_option maxHeartbeats 3200000 in
theorem mainSpread (a0 : Option Addr) (n0 c0 : Nat) (z0 : List Int) (w : World) (hd0 : Rb w w.heap.size a0 n0 z0) (hk0 : n0 ≤ c0) : Calls Try.prog 10 #[.slice a0 n0 c0] w (RetB w true) := by
  by_cases big : 1048576 < n0
  · go_enter Try.func10, Try.ntmps10
    go_wp2_with fail
    go_ret
    exact ⟨rfl, Below.refl _ _⟩
  have BB := Lib.hid (Below.refl w.heap.size w)
  go_enter Try.func10, Try.ntmps10
  go_wp2_with fail
  refine (drawPowerSpread_any _ _ _ _ _ hd0 hk0).mono ?_
  rintro e w1 ⟨A, n, c, B, m, k, xs, ys, t, rfl, ho, ho', hn, hm, t1, t2, hb⟩
  have BB_ := Lib.hid (BB.out.trans (hb.mono BB.out.size)); clear BB; have BB := BB_; clear BB_ hb
  have R := Lib.hid ho; clear ho
  have S := Lib.hid ho'; clear ho'
  go_wp2_with fail
  by_cases h : (pIn xs = true ∧ pIn ys = true ∧ 1 ≤ t ∧ t ≤ 50) ∧ pIn (spL xs ys t) = true ∧ pIn (spL ys xs t) = true
  · obtain ⟨⟨h1, h2, h3, h4⟩, h5, h6⟩ := h
    obtain ⟨d, hd⟩ := isDeg_ex (fun j => Nw.ps j xs) (fun j => Nw.ps j ys)
    obtain ⟨e, he⟩ := isDeg_ex (fun j => Nw.ps j (spL xs ys t)) (fun j => Nw.ps j (spL ys xs t))
    have hsd := spread_deg t hd he
    have HI := Lib.hid (fun (A : Option Addr) (n c : Nat) (B : Option Addr) (m k : Nat) (W : World) (ha : Rd W W.heap.size A n xs) (hb : Rd W W.heap.size B m ys) => implSpread_in A n c xs B m k ys t W ha hb h1 h2 h3 h4 true true h5 h6)
    have HS := Lib.hid (fun (A : Option Addr) (n c : Nat) (B : Option Addr) (m k : Nat) (W : World) (ha : Rd W W.heap.size A n xs) (hb : Rd W W.heap.size B m ys) => specSpread_in A n c xs B m k ys t W ha hb h1 h2 h3 h4 true true h5 h6)
    have hs1 : sp2 (true && true) (spL xs ys t) = spL xs ys t := rfl
    have hs2 : sp2 (true && true) (spL ys xs t) = spL ys xs t := rfl
    rw [hs1, hs2] at HI HS
    simp only [Bool.and_true] at HI HS
    clear hs1 hs2
    generalize spL xs ys t = X at h5 he HI HS
    generalize spL ys xs t = Y at h6 he HI HS
    have H1 := Lib.hid h1
    have H2 := Lib.hid h2
    have HD := Lib.hid hd
    have HE := Lib.hid he
    have HX := Lib.hid h5
    have HY := Lib.hid h6
    clear h1 h2 hd he h5 h6
    refine (HI.out _ _ _ _ _ _ _ R.out S.out).mono ?_
    rintro e w2 ⟨A2, n2, c2, B2, m2, k2, rfl, ho2, hp2, _, hb⟩
    have R_ := Lib.hid (R.out.below hb).lt; clear R; have R := R_; clear R_
    have S_ := Lib.hid (S.out.below hb).lt; clear S; have S := S_; clear S_
    have BB_ := Lib.hid (BB.out.trans (hb.mono BB.out.size)); clear BB; have BB := BB_; clear BB_ hb
    have P := Lib.hid ho2.rd; clear ho2
    have Q := Lib.hid hp2.rd; clear hp2
    go_wp2_with fail
    have hb2 : n2 ≤ 8 := by have := P.out.len; have := (pIn_true.1 HX.out).1; omega
    have hb3 : m2 ≤ 8 := by have := Q.out.len; have := (pIn_true.1 HY.out).1; omega
    refine (HS.out _ _ _ _ _ _ _ R.out S.out).mono ?_
    rintro e w3 ⟨A3, n3, c3, B3, m3, k3, rfl, ho3, hp3, hb⟩
    have R_ := Lib.hid (R.out.below hb).lt; clear R; have R := R_; clear R_
    have S_ := Lib.hid (S.out.below hb).lt; clear S; have S := S_; clear S_
    have P_ := Lib.hid (P.out.below hb).lt; clear P; have P := P_; clear P_
    have Q_ := Lib.hid (Q.out.below hb).lt; clear Q; have Q := Q_; clear Q_
    have BB_ := Lib.hid (BB.out.trans (hb.mono BB.out.size)); clear BB; have BB := BB_; clear BB_ hb
    have U := Lib.hid ho3.rd; clear ho3
    have V := Lib.hid hp3.rd; clear hp3
    go_wp2_with fail
    obtain rfl : n3 = n2 := by have h1 := U.out.len; have h2 := P.out.len; omega
    obtain rfl : m3 = m2 := by have h1 := V.out.len; have h2 := Q.out.len; omega
    refine (sameInts_same _ _ _ _ _ _ _ P.out U.out (by omega)).mono ?_
    rintro e w4 ⟨rfl, hb⟩
    have R_ := Lib.hid (R.out.below hb).lt; clear R; have R := R_; clear R_
    have S_ := Lib.hid (S.out.below hb).lt; clear S; have S := S_; clear S_
    have P_ := Lib.hid (P.out.below hb).lt; clear P; have P := P_; clear P_
    have Q_ := Lib.hid (Q.out.below hb).lt; clear Q; have Q := Q_; clear Q_
    have V_ := Lib.hid (V.out.below hb).lt; clear V; have V := V_; clear V_
    have BB_ := Lib.hid (BB.out.trans (hb.mono BB.out.size)); clear BB; have BB := BB_; clear BB_ hb
    go_wp2_with fail
    refine (sameInts_same _ _ _ _ _ _ _ Q.out V.out (by omega)).mono ?_
    rintro e w5 ⟨rfl, hb⟩
    have R_ := Lib.hid (R.out.below hb).lt; clear R; have R := R_; clear R_
    have S_ := Lib.hid (S.out.below hb).lt; clear S; have S := S_; clear S_
    have P_ := Lib.hid (P.out.below hb).lt; clear P; have P := P_; clear P_
    have Q_ := Lib.hid (Q.out.below hb).lt; clear Q; have Q := Q_; clear Q_
    have BB_ := Lib.hid (BB.out.trans (hb.mono BB.out.size)); clear BB; have BB := BB_; clear BB_ hb
    go_wp2_with fail
    refine (implPowerDegree_yes _ _ _ _ _ _ _ _ _ R.out S.out H1.out H2.out _ HD.out).mono ?_
    rintro e w6 ⟨rfl, hb⟩
    have P_ := Lib.hid (P.out.below hb).lt; clear P; have P := P_; clear P_
    have Q_ := Lib.hid (Q.out.below hb).lt; clear Q; have Q := Q_; clear Q_
    have BB_ := Lib.hid (BB.out.trans (hb.mono BB.out.size)); clear BB; have BB := BB_; clear BB_ hb
    go_wp2_with fail
    rcases hsd with ⟨g1, g2⟩ | ⟨rfl, rfl⟩
    · have tok : True := trivial
      refine (implPowerDegree_yes _ _ _ _ _ _ _ _ _ P.out Q.out HX.out HY.out _ HE.out).mono ?_
      rintro e w7 ⟨rfl, hb⟩
      have BB_ := Lib.hid (BB.out.trans (hb.mono BB.out.size)); clear BB; have BB := BB_; clear BB_ hb
      go_wp2_with fail
      go_ret
      exact ⟨rfl, BB.out⟩
    · have tok : True := trivial
      refine (implPowerDegree_yes _ _ _ _ _ _ _ _ _ P.out Q.out HX.out HY.out _ HE.out).mono ?_
      rintro e w7 ⟨rfl, hb⟩
      have BB_ := Lib.hid (BB.out.trans (hb.mono BB.out.size)); clear BB; have BB := BB_; clear BB_ hb
      go_wp2_with fail
      go_ret
      exact ⟨rfl, BB.out⟩
  · have HI : Hid (∀ (A : Option Addr) (n c : Nat) (B : Option Addr) (m k : Nat) (W : World), Rd W W.heap.size A n xs → n ≤ 30 → Rd W W.heap.size B m ys → m ≤ 30 → Calls Try.prog 26 #[.slice A n c, .slice B m k, .int .i64 t] W (RetOwn2B W [] [] false)) := Lib.hid (fun A n c B m k W ha hn hb hm => by
      by_cases h1 : pIn xs = true ∧ pIn ys = true ∧ 1 ≤ t ∧ t ≤ 50
      · obtain ⟨b, hbb⟩ : ∃ b, pIn (spL xs ys t) = b := ⟨_, rfl⟩
        obtain ⟨b', hbb'⟩ : ∃ b, pIn (spL ys xs t) = b := ⟨_, rfl⟩
        have hf : (b && b') = false := by
          cases b with
          | false => rfl
          | true => cases b' with
            | false => rfl
            | true => exact absurd ⟨h1, hbb, hbb'⟩ h
        have := implSpread_in A n c xs B m k ys t W ha hb h1.1 h1.2.1 h1.2.2.1 h1.2.2.2 b b' hbb hbb'
        rw [hf] at this
        exact this
      · exact implSpread_no A n c xs B m k ys t W ha hb (by omega) (by omega) h1)
    have HS : Hid (∀ (A : Option Addr) (n c : Nat) (B : Option Addr) (m k : Nat) (W : World), Rd W W.heap.size A n xs → n ≤ 30 → Rd W W.heap.size B m ys → m ≤ 30 → Calls Try.prog 25 #[.slice A n c, .slice B m k, .int .i64 t] W (RetOwn2N W [] [] false)) := Lib.hid (fun A n c B m k W ha hn hb hm => by
      by_cases h1 : pIn xs = true ∧ pIn ys = true ∧ 1 ≤ t ∧ t ≤ 50
      · obtain ⟨b, hbb⟩ : ∃ b, pIn (spL xs ys t) = b := ⟨_, rfl⟩
        obtain ⟨b', hbb'⟩ : ∃ b, pIn (spL ys xs t) = b := ⟨_, rfl⟩
        have hf : (b && b') = false := by
          cases b with
          | false => rfl
          | true => cases b' with
            | false => rfl
            | true => exact absurd ⟨h1, hbb, hbb'⟩ h
        have := specSpread_in A n c xs B m k ys t W ha hb h1.1 h1.2.1 h1.2.2.1 h1.2.2.2 b b' hbb hbb'
        rw [hf] at this
        exact this
      · exact (specSpread_no A n c xs B m k ys t W ha hb (by omega) (by omega) h1).mono fun _ _ => RetOwn2B.n)
    clear h
    refine (HI.out _ _ _ _ _ _ _ R.out hn S.out hm).mono ?_
    rintro e w2 ⟨A2, n2, c2, B2, m2, d2, rfl, ho2, hp2, _, hb⟩
    have R_ := Lib.hid (R.out.below hb).lt; clear R; have R := R_; clear R_
    have S_ := Lib.hid (S.out.below hb).lt; clear S; have S := S_; clear S_
    have BB_ := Lib.hid (BB.out.trans (hb.mono BB.out.size)); clear BB; have BB := BB_; clear BB_ hb
    have P := Lib.hid ho2.rd; clear ho2
    have Q := Lib.hid hp2.rd; clear hp2
    go_wp2_with fail
    have q2 : n2 = 0 := by have := P.out.len; simp at this; omega
    have q3 : m2 = 0 := by have := Q.out.len; simp at this; omega
    subst q2 q3
    refine (HS.out _ _ _ _ _ _ _ R.out hn S.out hm).mono ?_
    rintro e w3 ⟨A3, n3, c3, B3, m3, d3, rfl, ho3, hp3, hb⟩
    have P_ := Lib.hid (P.out.below hb).lt; clear P; have P := P_; clear P_
    have Q_ := Lib.hid (Q.out.below hb).lt; clear Q; have Q := Q_; clear Q_
    have BB_ := Lib.hid (BB.out.trans (hb.mono BB.out.size)); clear BB; have BB := BB_; clear BB_ hb
    have U := Lib.hid ho3.rd; clear ho3
    have V := Lib.hid hp3.rd; clear hp3
    go_wp2_with fail
    have q2 : n3 = 0 := by have := U.out.len; simp at this; omega
    have q3 : m3 = 0 := by have := V.out.len; simp at this; omega
    subst q2 q3
    refine (sameInts_same _ _ _ _ _ _ _ P.out U.out (by omega)).mono ?_
    rintro e w4 ⟨rfl, hb⟩
    have P_ := Lib.hid (P.out.below hb).lt; clear P; have P := P_; clear P_
    have Q_ := Lib.hid (Q.out.below hb).lt; clear Q; have Q := Q_; clear Q_
    have U_ := Lib.hid (U.out.below hb).lt; clear U; have U := U_; clear U_
    have V_ := Lib.hid (V.out.below hb).lt; clear V; have V := V_; clear V_
    have BB_ := Lib.hid (BB.out.trans (hb.mono BB.out.size)); clear BB; have BB := BB_; clear BB_ hb
    go_wp2_with fail
    refine (sameInts_same _ _ _ _ _ _ _ Q.out V.out (by omega)).mono ?_
    rintro e w5 ⟨rfl, hb⟩
    have P_ := Lib.hid (P.out.below hb).lt; clear P; have P := P_; clear P_
    have Q_ := Lib.hid (Q.out.below hb).lt; clear Q; have Q := Q_; clear Q_
    have U_ := Lib.hid (U.out.below hb).lt; clear U; have U := U_; clear U_
    have V_ := Lib.hid (V.out.below hb).lt; clear V; have V := V_; clear V_
    have BB_ := Lib.hid (BB.out.trans (hb.mono BB.out.size)); clear BB; have BB := BB_; clear BB_ hb
    go_wp2_with fail
    refine (sameInts_same _ _ _ _ _ _ _ P.out U.out (by omega)).mono ?_
    rintro e w6 ⟨rfl, hb⟩
    have P_ := Lib.hid (P.out.below hb).lt; clear P; have P := P_; clear P_
    have Q_ := Lib.hid (Q.out.below hb).lt; clear Q; have Q := Q_; clear Q_
    have U_ := Lib.hid (U.out.below hb).lt; clear U; have U := U_; clear U_
    have V_ := Lib.hid (V.out.below hb).lt; clear V; have V := V_; clear V_
    have BB_ := Lib.hid (BB.out.trans (hb.mono BB.out.size)); clear BB; have BB := BB_; clear BB_ hb
    go_wp2_with fail
    refine (sameInts_same _ _ _ _ _ _ _ Q.out V.out (by omega)).mono ?_
    rintro e w7 ⟨rfl, hb⟩
    have P_ := Lib.hid (P.out.below hb).lt; clear P; have P := P_; clear P_
    have Q_ := Lib.hid (Q.out.below hb).lt; clear Q; have Q := Q_; clear Q_
    have U_ := Lib.hid (U.out.below hb).lt; clear U; have U := U_; clear U_
    have V_ := Lib.hid (V.out.below hb).lt; clear V; have V := V_; clear V_
    have BB_ := Lib.hid (BB.out.trans (hb.mono BB.out.size)); clear BB; have BB := BB_; clear BB_ hb
    go_wp2_with fail
    go_ret
    exact ⟨rfl, BB.out⟩
end Go.Proofs.Ytbfpllmoaooadaa
