
/- PowerMoved, both packages. -/
import Derived.Test.YtbfpllmoaooadaaMoved
namespace Go.Proofs.Ytbfpllmoaooadaa
set_option linter.unusedVariables false
open Go.RowKit
open Classical in
/-- Is there a moved side? -/
noncomputable def mvOk (xs : List Int) (t : Int) : Bool := decide (pIn xs = true ∧ -100 ≤ t ∧ t ≤ 100 ∧ pIn (mv xs t) = true)
def mvOr (xs : List Int) (t : Int) (b : Bool) : List Int := if b then mv xs t else []
theorem mvOk_true {xs : List Int} {t : Int} : mvOk xs t = true ↔ pIn xs = true ∧ -100 ≤ t ∧ t ≤ 100 ∧ pIn (mv xs t) = true := by unfold mvOk; simp
theorem not_true {b : Bool} (h : ¬ b = true) : b = false := by cases b <;> simp_all
set_option maxHeartbeats 1600000 in
theorem implPowerMoved_any (A : Option Addr) (n c : Nat) (xs : List Int) (t : Int) (w : World) (ha : Rd w w.heap.size A n xs) (hn : n ≤ 1000000000) (b : Bool) (hb : mvOk xs t = b) :
    Calls Try.prog 36 #[.slice A n c, .int .i64 t] w (RetOwnB w (mvOr xs t b) b) := by
  have HA := Lib.hid ha
  clear ha
  by_cases hp : pIn xs = true
  · have hP := pIn_true.1 hp
    have hn8 : n ≤ 8 := by have := HA.out.len; have := hP.1; omega
    have HX := Lib.hid hP.all
    have HP := Lib.hid hp
    clear hP
    by_cases ht : -100 ≤ t ∧ t ≤ 100
    · obtain ⟨t1, t2⟩ := ht
      have hq : pIn (mv xs t) = b := by
        rw [← hb]
        cases h : pIn (mv xs t) with
        | true => exact (mvOk_true.2 ⟨hp, t1, t2, h⟩).symm
        | false => exact (not_true fun e => by have := (mvOk_true.1 e).2.2.2; rw [h] at this; cases this).symm
      have HQ := Lib.hid hq
      clear hp hb hq
      go_enter Try.func36, Try.ntmps36
      go_wp2_with fail
      refine (implPowerIn_any _ _ _ _ _ HA.out hn _ HP.out).mono ?_
      rintro e w1 ⟨rfl, hq⟩
      have HD : Hid (Drn w w1) := Lib.hid hq
      have HA1 := Lib.hid (HD.out.rd HA.out).lt
      clear hq
      go_wp2_with fail
      refine (within_yes _ _ _ (by omega) (by omega) (by omega) (by omega)).mono ?_
      rintro e w2 ⟨rfl, rfl⟩
      go_wp2_with fail
      refine (implMoved_any _ _ _ _ _ _ HA1.out hn8 HX.out t1 t2).mono ?_
      rintro e w2 ⟨A2, n2, c2, rfl, ho, hbl⟩
      have hn2 : n2 = n := by rw [← ho.len, mv_len, HA.out.len]
      have hN : n2 ≤ 1000000000 := by omega
      have HO := Lib.hid ho
      have HB2 := Lib.hid (HD.out.below.trans (hbl.mono HD.out.below.size))
      have s1 := HD.out.below.size
      clear ho hbl hn2
      cases b with
      | true =>
        go_wp2_with fail
        refine (implPowerIn_any _ _ _ _ _ HO.out.rd hN _ HQ.out).mono ?_
        rintro e w3 ⟨rfl, hq⟩
        have HD3 : Hid (Drn w2 w3) := Lib.hid hq
        clear hq
        go_wp2_with fail
        go_ret2
        exact ⟨_, _, _, rfl, (HO.out.below HD3.out.below).mono s1, HB2.out.trans (HD3.out.below.mono HB2.out.size)⟩
      | false =>
        go_wp2_with fail
        refine (implPowerIn_any _ _ _ _ _ HO.out.rd hN _ HQ.out).mono ?_
        rintro e w3 ⟨rfl, hq⟩
        have HD3 : Hid (Drn w2 w3) := Lib.hid hq
        have HB3 := Lib.hid (HB2.out.trans (HD3.out.below.mono HB2.out.size))
        clear hq
        go_wp2_with fail
        go_ret2
        exact ⟨_, _, _, rfl, (own_empty w3).mono HB3.out.size, HB3.out.alloc HB3.out.size _⟩
    · have hbf : b = false := by rw [← hb]; exact not_true fun e => ht ⟨(mvOk_true.1 e).2.1, (mvOk_true.1 e).2.2.1⟩
      subst hbf
      have HT := Lib.hid (show ¬ (-(100 : Int) ≤ t ∧ t ≤ 100) from ht)
      clear hp hb ht
      go_enter Try.func36, Try.ntmps36
      go_wp2_with fail
      refine (implPowerIn_any _ _ _ _ _ HA.out hn _ HP.out).mono ?_
      rintro e w1 ⟨rfl, hq⟩
      have HD : Hid (Drn w w1) := Lib.hid hq
      clear hq
      go_wp2_with fail
      refine (within_no _ _ _ (by omega) (by omega) HT.out).mono ?_
      rintro e w2 ⟨rfl, rfl⟩
      go_wp2_with fail
      go_ret2
      exact ⟨_, _, _, rfl, (own_empty w1).mono HD.out.below.size, HD.out.below.alloc HD.out.below.size _⟩
  · have hbf : b = false := by rw [← hb]; exact not_true fun e => hp (mvOk_true.1 e).1
    subst hbf
    have HP := Lib.hid (not_true hp)
    clear hp hb
    go_enter Try.func36, Try.ntmps36
    go_wp2_with fail
    refine (implPowerIn_any _ _ _ _ _ HA.out hn _ HP.out).mono ?_
    rintro e w1 ⟨rfl, hq⟩
    have HD : Hid (Drn w w1) := Lib.hid hq
    clear hq
    go_wp2_with fail
    go_ret2
    exact ⟨_, _, _, rfl, (own_empty w1).mono HD.out.below.size, HD.out.below.alloc HD.out.below.size _⟩
set_option maxHeartbeats 1600000 in
theorem specPowerMoved_any (A : Option Addr) (n c : Nat) (xs : List Int) (t : Int) (w : World) (ha : Rd w w.heap.size A n xs) (hn : n ≤ 1000000000) (b : Bool) (hb : mvOk xs t = b) :
    Calls Try.prog 43 #[.slice A n c, .int .i64 t] w (RetOwnB w (mvOr xs t b) b) := by
  have HA := Lib.hid ha
  clear ha
  by_cases hp : pIn xs = true
  · have hP := pIn_true.1 hp
    have hn8 : n ≤ 8 := by have := HA.out.len; have := hP.1; omega
    have HX := Lib.hid hP.all
    have HP := Lib.hid hp
    have hup := mv_up hP t
    clear hP
    by_cases ht : -100 ≤ t ∧ t ≤ 100
    · obtain ⟨t1, t2⟩ := ht
      have hq : pIn (mv xs t) = b := by
        rw [← hb]
        cases h : pIn (mv xs t) with
        | true => exact (mvOk_true.2 ⟨hp, t1, t2, h⟩).symm
        | false => exact (not_true fun e => by have := (mvOk_true.1 e).2.2.2; rw [h] at this; cases this).symm
      have HR : Hid (sideOr (Srt.up (mv xs t)) = mvOr xs t b ∧ pIn (Srt.up (mv xs t)) = b) := Lib.hid (by
        rw [hup]
        refine ⟨?_, hq⟩
        unfold sideOr mvOr
        rw [hq])
      clear hp hb hq hup
      go_enter Try.func43, Try.ntmps43
      go_wp2_with fail
      refine (specPowerIn_any _ _ _ _ _ HA.out hn _ HP.out).mono ?_
      rintro e w1 ⟨rfl, hq⟩
      have HD : Hid (Drn w w1) := Lib.hid hq
      have HA1 := Lib.hid (HD.out.rd HA.out).lt
      have s1 := HD.out.below.size
      clear hq
      go_wp2_with fail
      refine (l6In_yes _ _ _ _ t1 t2).mono ?_
      rintro e w2 ⟨rfl, rfl⟩
      go_wp2_with fail
      refine (specMoved_any _ _ _ _ _ _ HA1.out hn8 HX.out t1 t2).mono ?_
      rintro e w2 ⟨A2, n2, c2, rfl, ho, hbl⟩
      have hn2 : n2 = n := by rw [← ho.len, mv_len, HA.out.len]
      have hN : n2 ≤ 1000 := by omega
      have HO := Lib.hid ho
      have HB2 := Lib.hid (HD.out.below.trans (hbl.mono s1))
      have s2 := hbl.size
      clear ho hbl hn2
      go_wp2_with fail
      refine (l6pDone_any _ _ _ _ _ HO.out.rd hN).mono ?_
      rintro e w3 ⟨A3, n3, c3, rfl, ho, hbl⟩
      rw [HR.out.1] at ho
      rw [HR.out.2]
      have HO3 := Lib.hid ho
      have HB3 := Lib.hid (HB2.out.trans (hbl.mono HB2.out.size))
      clear ho hbl HO
      go_wp2_with fail
      go_ret2
      exact ⟨_, _, _, rfl, HO3.out.mono HB2.out.size, HB3.out⟩
    · have hbf : b = false := by rw [← hb]; exact not_true fun e => ht ⟨(mvOk_true.1 e).2.1, (mvOk_true.1 e).2.2.1⟩
      subst hbf
      have HT := Lib.hid ht
      clear hp hb ht hup
      go_enter Try.func43, Try.ntmps43
      go_wp2_with fail
      refine (specPowerIn_any _ _ _ _ _ HA.out hn _ HP.out).mono ?_
      rintro e w1 ⟨rfl, hq⟩
      have HD : Hid (Drn w w1) := Lib.hid hq
      clear hq
      go_wp2_with fail
      refine (l6In_no _ _ _ _ HT.out).mono ?_
      rintro e w2 ⟨rfl, rfl⟩
      go_wp2_with fail
      go_ret2
      exact ⟨_, _, _, rfl, (own_empty w1).mono HD.out.below.size, HD.out.below.alloc HD.out.below.size _⟩
  · have hbf : b = false := by rw [← hb]; exact not_true fun e => hp (mvOk_true.1 e).1
    subst hbf
    have HP := Lib.hid (not_true hp)
    clear hp hb
    go_enter Try.func43, Try.ntmps43
    go_wp2_with fail
    refine (specPowerIn_any _ _ _ _ _ HA.out hn _ HP.out).mono ?_
    rintro e w1 ⟨rfl, hq⟩
    have HD : Hid (Drn w w1) := Lib.hid hq
    clear hq
    go_wp2_with fail
    go_ret2
    exact ⟨_, _, _, rfl, (own_empty w1).mono HD.out.below.size, HD.out.below.alloc HD.out.below.size _⟩
end Go.Proofs.Ytbfpllmoaooadaa
