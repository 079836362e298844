
/- FnDegree: sides moved and scaled have the same degree: the walk. -/
import Derived.Test.YtbfpllmoaooadaaFParts
import Derived.Test.YtbfpllmoaooadaaFPowerSum
import Derived.Test.YtbfpllmoaooadaaPowMoved
namespace Go.Proofs.Ytbfpllmoaooadaa
set_option linter.unusedVariables false
open Go.RowKit
theorem moved_deg {xs ys : List Int} (t : Int) {d : Int} (hd : IsDeg (fun j => Nw.ps j xs) (fun j => Nw.ps j ys) d) : IsDeg (fun j => Nw.ps j (mv xs t)) (fun j => Nw.ps j (mv ys t)) d := by
  obtain ⟨n, hn⟩ := Int.eq_ofNat_of_zero_le (show 0 ≤ d + 1 by have := hd.1; omega)
  refine ⟨hd.1, hd.2.1, fun j hj => ?_, fun j hj h6 => ?_⟩
  · exact Nw.ps_moved_lt (d := n) t (fun i hi => hd.2.2.1 i (by omega)) j (by omega)
  · obtain rfl : j = n := by omega
    have h1 := Nw.ps_moved (d := j) t (fun i hi => hd.2.2.1 i (by omega))
    have h2 := hd.2.2.2 j hj h6
    show Nw.ps j (xs.map fun x => x + t) ≠ Nw.ps j (ys.map fun x => x + t)
    simp only at h2
    omega
theorem scaled_deg {xs ys : List Int} {t : Int} (ht : t ≠ 0) {d : Int} (hd : IsDeg (fun j => Nw.ps j xs) (fun j => Nw.ps j ys) d) : IsDeg (fun j => Nw.ps j (Srt.up (sc xs t))) (fun j => Nw.ps j (Srt.up (sc ys t))) d := by
  refine ⟨hd.1, hd.2.1, fun j hj => ?_, fun j hj h6 => ?_⟩
  · show Nw.ps j _ = Nw.ps j _
    rw [ps_sc, ps_sc]
    have := hd.2.2.1 j hj
    simp only at this
    rw [this]
  · show Nw.ps j _ ≠ Nw.ps j _
    rw [ps_sc, ps_sc]
    intro e
    exact hd.2.2.2 j hj h6 (Int.eq_of_mul_eq_mul_left (Int.pow_ne_zero ht) e)
theorem pIn_nil : pIn [] = true := pIn_true.2 ⟨by simp, fun j hj => by simp at hj, fun j hj => by simp at hj⟩
theorem pIn_mvOr {xs : List Int} {t : Int} {b : Bool} (h : mvOk xs t = b) : pIn (mvOr xs t b) = true := by
  cases b with
  | true => exact (mvOk_true.1 h).2.2.2
  | false => exact pIn_nil
theorem pIn_scOr {xs : List Int} {t : Int} {b : Bool} (h : scOk xs t = b) : pIn (scOr xs t b) = true := by
  cases b with
  | true => exact (scOk_true.1 h).2.2.2
  | false => exact pIn_nil
set_option maxRecDepth 100000 in
set_option maxHeartbeats 6400000 in
theorem mainDegree (a0 : Option Addr) (n0 c0 : Nat) (z0 : List Int) (w : World) (hd0 : Rb w w.heap.size a0 n0 z0) (hk0 : n0 ≤ c0) : Calls Try.prog 8 #[.slice a0 n0 c0] w (RetB w true) := by
  by_cases big : 1048576 < n0
  · go_enter Try.func8, Try.ntmps8
    go_wp2_with fail
    go_ret
    exact ⟨rfl, Below.refl _ _⟩
  have BB := Lib.hid (Below.refl w.heap.size w)
  go_enter Try.func8, Try.ntmps8
  go_wp2_with fail
  refine (drawPowerDegree_any _ _ _ _ _ hd0 hk0).mono ?_
  rintro e w1 ⟨A, n, c, B, m, k, xs, ys, rfl, ho, ho', hn, hm, hc, hk, hb⟩
  have BB_ := Lib.hid (BB.out.trans (hb.mono BB.out.size)); clear BB; have BB := BB_; clear BB_ hb
  have R := Lib.hid ho.rd; clear ho
  have S := Lib.hid ho'.rd; clear ho'
  go_wp2_with fail
  by_cases h : pIn xs = true ∧ pIn ys = true
  · obtain ⟨h1, h2⟩ := h
    obtain ⟨d, hd⟩ := isDeg_ex (fun j => Nw.ps j xs) (fun j => Nw.ps j ys)
    obtain ⟨q, hq⟩ : ∃ q, mvOk xs 3 = q := ⟨_, rfl⟩
    obtain ⟨r, hr⟩ : ∃ q, mvOk ys 3 = q := ⟨_, rfl⟩
    obtain ⟨t, ht⟩ : ∃ q, scOk xs (-2) = q := ⟨_, rfl⟩
    obtain ⟨u, hu⟩ : ∃ q, scOk ys (-2) = q := ⟨_, rfl⟩
    have p1 := pIn_mvOr hq
    have p2 := pIn_mvOr hr
    have p3 := pIn_scOr ht
    have p4 := pIn_scOr hu
    obtain ⟨y, hy⟩ := isDeg_ex (fun j => Nw.ps j (mvOr xs 3 q)) (fun j => Nw.ps j (mvOr ys 3 r))
    obtain ⟨z, hz⟩ := isDeg_ex (fun j => Nw.ps j (scOr xs (-2) t)) (fun j => Nw.ps j (scOr ys (-2) u))
    have ey : q = true → r = true → y = d := fun e1 e2 => by
      subst e1 e2
      exact hy.one (moved_deg 3 hd)
    have ez : t = true → u = true → z = d := fun e1 e2 => by
      subst e1 e2
      exact hz.one (scaled_deg (by omega) hd)
    have HQ := Lib.hid hq
    have HR := Lib.hid hr
    have HT := Lib.hid ht
    have HU := Lib.hid hu
    have H1 := Lib.hid h1
    have H2 := Lib.hid h2
    have HD := Lib.hid hd
    have HY := Lib.hid hy
    have HZ := Lib.hid hz
    have EY := Lib.hid ey
    have EZ := Lib.hid ez
    have P1 := Lib.hid p1
    have P2 := Lib.hid p2
    have P3 := Lib.hid p3
    have P4 := Lib.hid p4
    clear hq hr ht hu h1 h2 hd hy hz ey ez p1 p2 p3 p4
    refine (implPowerDegree_yes _ _ _ _ _ _ _ _ _ R.out S.out H1.out H2.out _ HD.out).mono ?_
    rintro e w2 ⟨rfl, hb⟩
    have R_ := Lib.hid (R.out.below hb).lt; clear R; have R := R_; clear R_
    have S_ := Lib.hid (S.out.below hb).lt; clear S; have S := S_; clear S_
    have BB_ := Lib.hid (BB.out.trans (hb.mono BB.out.size)); clear BB; have BB := BB_; clear BB_ hb
    go_wp2_with fail
    refine (specPowerDegree_yes _ _ _ _ _ _ _ _ _ R.out S.out H1.out H2.out _ HD.out).mono ?_
    rintro e w3 ⟨rfl, hb⟩
    have R_ := Lib.hid (R.out.below hb).lt; clear R; have R := R_; clear R_
    have S_ := Lib.hid (S.out.below hb).lt; clear S; have S := S_; clear S_
    have BB_ := Lib.hid (BB.out.trans (hb.mono BB.out.size)); clear BB; have BB := BB_; clear BB_ hb
    go_wp2_with fail
    refine (implPowerDegree_yes _ _ _ _ _ _ _ _ _ S.out R.out H2.out H1.out _ HD.out.symm).mono ?_
    rintro e w4 ⟨rfl, hb⟩
    have R_ := Lib.hid (R.out.below hb).lt; clear R; have R := R_; clear R_
    have S_ := Lib.hid (S.out.below hb).lt; clear S; have S := S_; clear S_
    have BB_ := Lib.hid (BB.out.trans (hb.mono BB.out.size)); clear BB; have BB := BB_; clear BB_ hb
    go_wp2_with fail
    refine (implPowerMoved_any _ _ _ _ _ _ R.out (by omega) _ HQ.out).mono ?_
    rintro e w5 ⟨A5, n5, c5, rfl, ho5, hb⟩
    have R_ := Lib.hid (R.out.below hb).lt; clear R; have R := R_; clear R_
    have S_ := Lib.hid (S.out.below hb).lt; clear S; have S := S_; clear S_
    have BB_ := Lib.hid (BB.out.trans (hb.mono BB.out.size)); clear BB; have BB := BB_; clear BB_ hb
    have C := Lib.hid ho5.rd; clear ho5
    go_wp2_with fail
    refine (implPowerMoved_any _ _ _ _ _ _ S.out (by omega) _ HR.out).mono ?_
    rintro e w6 ⟨A6, n6, c6, rfl, ho6, hb⟩
    have R_ := Lib.hid (R.out.below hb).lt; clear R; have R := R_; clear R_
    have S_ := Lib.hid (S.out.below hb).lt; clear S; have S := S_; clear S_
    have C_ := Lib.hid (C.out.below hb).lt; clear C; have C := C_; clear C_
    have BB_ := Lib.hid (BB.out.trans (hb.mono BB.out.size)); clear BB; have BB := BB_; clear BB_ hb
    have D := Lib.hid ho6.rd; clear ho6
    go_wp2_with fail
    refine (implPowerDegree_yes _ _ _ _ _ _ _ _ _ C.out D.out P1.out P2.out _ HY.out).mono ?_
    rintro e w7 ⟨rfl, hb⟩
    have R_ := Lib.hid (R.out.below hb).lt; clear R; have R := R_; clear R_
    have S_ := Lib.hid (S.out.below hb).lt; clear S; have S := S_; clear S_
    have BB_ := Lib.hid (BB.out.trans (hb.mono BB.out.size)); clear BB; have BB := BB_; clear BB_ hb
    go_wp2_with fail
    refine (implPowerScaled_any _ _ _ _ _ _ R.out (by omega) _ HT.out).mono ?_
    rintro e w8 ⟨A8, n8, c8, rfl, ho8, hb⟩
    have R_ := Lib.hid (R.out.below hb).lt; clear R; have R := R_; clear R_
    have S_ := Lib.hid (S.out.below hb).lt; clear S; have S := S_; clear S_
    have BB_ := Lib.hid (BB.out.trans (hb.mono BB.out.size)); clear BB; have BB := BB_; clear BB_ hb
    have E := Lib.hid ho8.rd; clear ho8
    go_wp2_with fail
    refine (implPowerScaled_any _ _ _ _ _ _ S.out (by omega) _ HU.out).mono ?_
    rintro e w9 ⟨A9, n9, c9, rfl, ho9, hb⟩
    have E_ := Lib.hid (E.out.below hb).lt; clear E; have E := E_; clear E_
    have BB_ := Lib.hid (BB.out.trans (hb.mono BB.out.size)); clear BB; have BB := BB_; clear BB_ hb
    have F := Lib.hid ho9.rd; clear ho9
    go_wp2_with fail
    refine (implPowerDegree_yes _ _ _ _ _ _ _ _ _ E.out F.out P3.out P4.out _ HZ.out).mono ?_
    rintro e w10 ⟨rfl, hb⟩
    have BB_ := Lib.hid (BB.out.trans (hb.mono BB.out.size)); clear BB; have BB := BB_; clear BB_ hb
    have f1 : q = false ∨ r = false ∨ (q = true ∧ r = true ∧ y = d) := by
      cases q with
      | false => exact Or.inl rfl
      | true => cases r with
        | false => exact Or.inr (Or.inl rfl)
        | true => exact Or.inr (Or.inr ⟨rfl, rfl, EY.out rfl rfl⟩)
    have f2 : t = false ∨ u = false ∨ (t = true ∧ u = true ∧ z = d) := by
      cases t with
      | false => exact Or.inl rfl
      | true => cases u with
        | false => exact Or.inr (Or.inl rfl)
        | true => exact Or.inr (Or.inr ⟨rfl, rfl, EZ.out rfl rfl⟩)
    clear EY EZ HQ HR HT HU HD HY HZ P1 P2 P3 P4 E F H1 H2
    have bd : (d == d) = true := by simp
    rcases f1 with f1 | f1 | ⟨f1, f1', f1''⟩ <;> rcases f2 with f2 | f2 | ⟨f2, f2', f2''⟩
    · go_wp2_with fail
      all_goals
        go_ret
        exact ⟨rfl, BB.out⟩
    · go_wp2_with fail
      all_goals
        go_ret
        exact ⟨rfl, BB.out⟩
    · have bz : (z == d) = true := by simpa using f2''
      clear f2''
      go_wp2_with fail
      all_goals
        go_ret
        exact ⟨rfl, BB.out⟩
    · go_wp2_with fail
      all_goals
        go_ret
        exact ⟨rfl, BB.out⟩
    · go_wp2_with fail
      all_goals
        go_ret
        exact ⟨rfl, BB.out⟩
    · have bz : (z == d) = true := by simpa using f2''
      clear f2''
      go_wp2_with fail
      all_goals
        go_ret
        exact ⟨rfl, BB.out⟩
    · have byy : (y == d) = true := by simpa using f1''
      clear f1''
      go_wp2_with fail
      all_goals
        go_ret
        exact ⟨rfl, BB.out⟩
    · have byy : (y == d) = true := by simpa using f1''
      clear f1''
      go_wp2_with fail
      all_goals
        go_ret
        exact ⟨rfl, BB.out⟩
    · have byy : (y == d) = true := by simpa using f1''
      have bz : (z == d) = true := by simpa using f2''
      clear f1'' f2''
      go_wp2_with fail
      all_goals
        go_ret
        exact ⟨rfl, BB.out⟩
  · have hN : pIn xs = false ∨ pIn ys = false := by
      cases e0 : pIn xs with
      | false => exact Or.inl rfl
      | true => cases e1 : pIn ys with
        | false => exact Or.inr rfl
        | true => exact absurd ⟨e0, e1⟩ h
    have HN := Lib.hid hN
    clear h hN
    refine (implPowerDegree_no _ _ _ _ _ _ _ _ _ R.out (by omega) S.out (by omega) HN.out).mono ?_
    rintro e w2 ⟨rfl, hb⟩
    have R_ := Lib.hid (R.out.below hb).lt; clear R; have R := R_; clear R_
    have S_ := Lib.hid (S.out.below hb).lt; clear S; have S := S_; clear S_
    have BB_ := Lib.hid (BB.out.trans (hb.mono BB.out.size)); clear BB; have BB := BB_; clear BB_ hb
    go_wp2_with fail
    refine (specPowerDegree_no _ _ _ _ _ _ _ _ _ R.out (by omega) S.out (by omega) HN.out).mono ?_
    rintro e w3 ⟨rfl, hb⟩
    have R_ := Lib.hid (R.out.below hb).lt; clear R; have R := R_; clear R_
    have S_ := Lib.hid (S.out.below hb).lt; clear S; have S := S_; clear S_
    have BB_ := Lib.hid (BB.out.trans (hb.mono BB.out.size)); clear BB; have BB := BB_; clear BB_ hb
    go_wp2_with fail
    go_ret
    exact ⟨rfl, BB.out⟩
end Go.Proofs.Ytbfpllmoaooadaa
