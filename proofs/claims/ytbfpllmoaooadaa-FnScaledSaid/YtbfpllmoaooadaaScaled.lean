
/- PowerScaled, both packages: the walks. -/
import Derived.Test.YtbfpllmoaooadaaPowMoved
import Derived.Test.YtbfpllmoaooadaaSortW
namespace Go.Proofs.Ytbfpllmoaooadaa
set_option linter.unusedVariables false
open Go.RowKit
/-- A list scaled by t. -/
def sc (xs : List Int) (t : Int) : List Int := xs.map fun x => x * t
@[simp] theorem sc_len (xs : List Int) (t : Int) : (sc xs t).length = xs.length := by simp [sc]
theorem sc_get {xs : List Int} {k : Nat} (h : k < xs.length) (t : Int) : (sc xs t).getD k 0 = xs.getD k 0 * t := by simp [sc, List.getD, h]
theorem sc_take {xs : List Int} {k : Nat} (h : k < xs.length) (t : Int) : (sc xs t).take (k + 1) = (sc xs t).take k ++ [xs.getD k 0 * t] := by
  rw [take_succ_getD (by simpa using h), sc_get h]
theorem mul_bound {x t : Int} (h1 : -50 ≤ x) (h2 : x ≤ 50) (h3 : -100 ≤ t) (h4 : t ≤ 100) : -5000 ≤ x * t ∧ x * t ≤ 5000 := by
  have ha : (x * t).natAbs ≤ 50 * 100 := by
    rw [Int.natAbs_mul]
    exact Nat.mul_le_mul (by omega) (by omega)
  omega
open Classical in
/-- Is there a scaled side? -/
noncomputable def scOk (xs : List Int) (t : Int) : Bool := decide (pIn xs = true ∧ -100 ≤ t ∧ t ≤ 100 ∧ pIn (Srt.up (sc xs t)) = true)
def scOr (xs : List Int) (t : Int) (b : Bool) : List Int := if b then Srt.up (sc xs t) else []
theorem scOk_true {xs : List Int} {t : Int} : scOk xs t = true ↔ pIn xs = true ∧ -100 ≤ t ∧ t ≤ 100 ∧ pIn (Srt.up (sc xs t)) = true := by unfold scOk; simp
theorem scOk_in {xs : List Int} {t : Int} {b : Bool} (hp : pIn xs = true) (t1 : -100 ≤ t) (t2 : t ≤ 100) (hb : scOk xs t = b) : pIn (Srt.up (sc xs t)) = b := by
  rw [← hb]
  cases h : pIn (Srt.up (sc xs t)) with
  | true => exact (scOk_true.2 ⟨hp, t1, t2, h⟩).symm
  | false => exact (not_true fun e => by have := (scOk_true.1 e).2.2.2; rw [h] at this; cases this).symm
set_option maxRecDepth 100000 in
set_option maxHeartbeats 3200000 in
theorem implPowerScaled_in (A : Option Addr) (n c : Nat) (xs : List Int) (t : Int) (w : World) (ha : Rd w w.heap.size A n xs) (hp : pIn xs = true) (t1 : -100 ≤ t) (t2 : t ≤ 100) (b : Bool) (hb : pIn (Srt.up (sc xs t)) = b) :
    Calls Try.prog 37 #[.slice A n c, .int .i64 t] w (RetOwnB w (scOr xs t b) b) := by
  obtain ⟨i0, hi, hz0, hz1, hz2⟩ := info_parts int_info
  have hn8 : n ≤ 8 := by have := ha.len; have := (pIn_true.1 hp).1; omega
  have HX := Lib.hid (pIn_true.1 hp).all
  have HP := Lib.hid hp
  have HA := Lib.hid ha
  have HL := Lib.hid ha.len
  have HQ := Lib.hid hb
  clear ha hp hb
  cases b
  all_goals
    go_enter Try.func37, Try.ntmps37
    go_wp2_with fail
    refine (implPowerIn_any _ _ _ _ _ HA.out (by omega) _ HP.out).mono ?_
    rintro e w1 ⟨rfl, hq⟩
    have HD : Hid (Drn w w1) := Lib.hid hq
    have HA1 := Lib.hid (HD.out.rd HA.out).lt
    have s1 := HD.out.below.size
    clear hq
    go_wp2_with fail
    refine (within_yes _ _ _ (by omega) (by omega) (by omega) (by omega)).mono ?_
    rintro e w2 ⟨rfl, rfl⟩
    go_wp2_with (at_make; refine wpList_make_full _ rfl _ _ 22 rfl w1.heap.size 3 i0 (.int .i64 0) 1 Try.underlying22 hi hz0 hz1 _ _ _ _ n rfl rfl rfl rfl (by rw [hz2]; omega) (by unfold maxLen; omega) (Nat.le_refl _) ?_; intro w0 hown0 hg0)
    rw [Nat.mul_one] at hown0
    have ho := Lib.hid (own_made (show w0.ownsRow w1.heap.size 3 1 (.slice (some ⟨w1.heap.size, 0, none⟩) n n) n (madeCells #[Value.int .i64 0] n).toList from hown0))
    have hbl := Lib.hid (below_of_grown hg0)
    clear hown0 hg0
    go_wp2_with fail
    go_loopw [23] (fun i wr => ∃ k : Nat, k ≤ n ∧ i = .int .i64 k ∧ Hid (Own wr w1.heap.size (some ⟨w1.heap.size, 0, none⟩) n n ((sc xs t).take k ++ List.replicate (n - k) 0)) ∧ Hid (Below w1.heap.size w1 wr)) (fun i _ => n - (intOf i).toNat)
    case atStart => exact ⟨0, by omega, rfl, Lib.hid (by simpa using ho.out), hbl⟩
    case round =>
      obtain ⟨k, hk, rfl, HO, HB⟩ := hrel
      clear ho hbl
      by_cases hlt : k < n
      · have hltz : (k : Int) < (n : Int) := by omega
        obtain ⟨b1, o1, rfl, hb1, hc1⟩ := HA1.out.at_ hlt
        have g0 : wr.cell? ⟨b1, o1 + k, none⟩ = some (.int .i64 (xs.getD k 0)) := (HB.out.cell (p := ⟨b1, o1 + k, none⟩) hb1).trans (hc1 k hlt)
        have hr := HX.out _ (getD_mem (xs := xs) (k := k) (by rw [HL.out]; exact hlt))
        have g1 := HO.out.cell hlt
        have g2 := HO.out.free k
        have hst := HO.out.set_ k ((sc xs t).getD k 0)
        rw [zeros_set hlt (by simpa using HL.out), sc_get (by rw [HL.out]; exact hlt)] at hst
        obtain ⟨x, hx⟩ : ∃ x, xs.getD k 0 = x := ⟨_, rfl⟩
        obtain ⟨y, hy⟩ : ∃ x, ((sc xs t).take k ++ List.replicate (n - k) (0 : Int)).getD k 0 = x := ⟨_, rfl⟩
        rw [hy] at g1
        rw [hx] at g0 hst hr
        have hmb := mul_bound hr.1 hr.2 t1 t2
        have hw : IntKind.i64.wrap (x * t) = x * t := IntWalk.i64_in _ (by omega)
        have H := Lib.hid hst
        clear hx hy hst hc1 hr hmb
        go_wp2_with fail
        go_roundw
        case rel => exact ⟨k + 1, by omega, by go_num, Lib.hid H.out.1, Lib.hid (HB.out.grown H.out.2 HB.out.size (fun g e => by cases e; exact Nat.le_refl _))⟩
        case measure => simp [intOf]; omega
      · obtain rfl : k = n := by omega
        have ho2 := HO.out
        rw [List.take_of_length_le (by rw [sc_len, HL.out]; omega), Nat.sub_self, List.replicate_zero, List.append_nil] at ho2
        have HO2 := Lib.hid ho2
        clear ho2 HO
        go_wp2_with fail
        refine (sort_any _ _ _ _ _ _ HO2.out (by omega)).mono ?_
        rintro e w3 ⟨rfl, ho3, hg3⟩
        have HO3 := Lib.hid ho3
        have HB3 := Lib.hid (HD.out.below.trans ((HB.out.grown hg3 HB.out.size (fun g e => by cases e; exact Nat.le_refl _)).mono s1))
        clear ho3 hg3 HO2
        go_wp2_with fail
        refine (implPowerIn_any _ _ _ _ _ HO3.out.rd (by omega) _ HQ.out).mono ?_
        rintro e w4 ⟨rfl, hq⟩
        have HD4 : Hid (Drn w3 w4) := Lib.hid hq
        have HB4 := Lib.hid (HB3.out.trans (HD4.out.below.mono HB3.out.size))
        clear hq
        go_wp2_with fail
        go_ret2
        first
          | exact ⟨_, _, _, rfl, (own_empty w4).mono HB4.out.size, HB4.out.alloc HB4.out.size _⟩
          | exact ⟨_, _, _, rfl, (HO3.out.below HD4.out.below).mono s1, HB4.out⟩
set_option maxHeartbeats 1600000 in
theorem implPowerScaled_any (A : Option Addr) (n c : Nat) (xs : List Int) (t : Int) (w : World) (ha : Rd w w.heap.size A n xs) (hn : n ≤ 1000000000) (b : Bool) (hb : scOk xs t = b) :
    Calls Try.prog 37 #[.slice A n c, .int .i64 t] w (RetOwnB w (scOr xs t b) b) := by
  by_cases hp : pIn xs = true
  · by_cases ht : -100 ≤ t ∧ t ≤ 100
    · exact implPowerScaled_in A n c xs t w ha hp ht.1 ht.2 b (scOk_in hp ht.1 ht.2 hb)
    · have hbf : b = false := by rw [← hb]; exact not_true fun e => ht ⟨(scOk_true.1 e).2.1, (scOk_true.1 e).2.2.1⟩
      subst hbf
      have HT := Lib.hid (show ¬ (-(100 : Int) ≤ t ∧ t ≤ 100) from ht)
      have HA := Lib.hid ha
      have HP := Lib.hid hp
      clear hp hb ht ha
      go_enter Try.func37, Try.ntmps37
      go_wp2_with fail
      refine (implPowerIn_any _ _ _ _ _ HA.out hn _ HP.out).mono ?_
      rintro e w1 ⟨rfl, hq⟩
      have HD : Hid (Drn w w1) := Lib.hid hq
      clear hq
      go_wp2_with fail
      refine (within_no _ _ _ (by omega) (by omega) HT.out).mono ?_
      rintro e w2 ⟨rfl, rfl⟩
      go_wp2_with fail
      go_ret2
      exact ⟨_, _, _, rfl, (own_empty w1).mono HD.out.below.size, HD.out.below.alloc HD.out.below.size _⟩
  · have hbf : b = false := by rw [← hb]; exact not_true fun e => hp (scOk_true.1 e).1
    subst hbf
    have HA := Lib.hid ha
    have HP := Lib.hid (not_true hp)
    clear hp hb ha
    go_enter Try.func37, Try.ntmps37
    go_wp2_with fail
    refine (implPowerIn_any _ _ _ _ _ HA.out hn _ HP.out).mono ?_
    rintro e w1 ⟨rfl, hq⟩
    have HD : Hid (Drn w w1) := Lib.hid hq
    clear hq
    go_wp2_with fail
    go_ret2
    exact ⟨_, _, _, rfl, (own_empty w1).mono HD.out.below.size, HD.out.below.alloc HD.out.below.size _⟩
set_option maxRecDepth 100000 in
set_option maxHeartbeats 3200000 in
theorem specPowerScaled_any (A : Option Addr) (n c : Nat) (xs : List Int) (t : Int) (w : World) (ha : Rd w w.heap.size A n xs) (hn : n ≤ 1000000000) (b : Bool) (hb : scOk xs t = b) :
    Calls Try.prog 50 #[.slice A n c, .int .i64 t] w (RetOwnB w (scOr xs t b) b) := by
  have HA := Lib.hid ha
  have HL := Lib.hid ha.len
  clear ha
  by_cases hp : pIn xs = true
  · have hP := pIn_true.1 hp
    have hn8 : n ≤ 8 := by have := HL.out; have := hP.1; omega
    have HX := Lib.hid hP.all
    have HP := Lib.hid hp
    clear hP
    by_cases ht : -100 ≤ t ∧ t ≤ 100
    · obtain ⟨t1, t2⟩ := ht
      have hq := scOk_in hp t1 t2 hb
      have HR : Hid (sideOr (Srt.up (sc xs t)) = scOr xs t b ∧ pIn (Srt.up (sc xs t)) = b) := Lib.hid ⟨by unfold sideOr scOr; rw [hq], hq⟩
      clear hp hb hq
      go_enter Try.func50, Try.ntmps50
      go_wp2_with fail
      refine (specPowerIn_any _ _ _ _ _ HA.out hn _ HP.out).mono ?_
      rintro e w1 ⟨rfl, hq⟩
      have HD : Hid (Drn w w1) := Lib.hid hq
      have HA1 := Lib.hid (HD.out.rd HA.out).lt
      have s1 := HD.out.below.size
      clear hq
      go_wp2_with fail
      refine (l6In_yes _ _ _ _ t1 t2).mono ?_
      rintro e w2 ⟨rfl, rfl⟩
      have HOE := Lib.hid (own_empty w1)
      have HB0 := Lib.hid ((Below.refl w1.heap.size w1).alloc (Nat.le_refl _) (.cells #[] 3))
      go_wp2_with fail
      go_loopw [6, 7] (fun o i wr => ∃ (k : Nat) (A' : Option Addr) (c' : Nat), k ≤ n ∧ i = .int .i64 k ∧ o = .slice A' k c' ∧ Hid (Own wr w1.heap.size A' k c' ((sc xs t).take k)) ∧ Hid (Below w1.heap.size w1 wr)) (fun _ i _ => n - (intOf i).toNat)
      case atStart => exact ⟨0, _, _, by omega, rfl, rfl, HOE, HB0⟩
      case round =>
        obtain ⟨k, A', c', hk, rfl, rfl, HO, HB⟩ := hrel
        clear HOE HB0
        by_cases hlt : k < n
        · have hltz : (k : Int) < (n : Int) := by omega
          obtain ⟨b1, o1, rfl, hb1, hc1⟩ := HA1.out.at_ hlt
          have g0 : wr.cell? ⟨b1, o1 + k, none⟩ = some (.int .i64 (xs.getD k 0)) := (HB.out.cell (p := ⟨b1, o1 + k, none⟩) hb1).trans (hc1 k hlt)
          have hr := HX.out _ (getD_mem (xs := xs) (k := k) (by rw [HL.out]; exact hlt))
          have hT := Lib.hid (sc_take (xs := xs) (k := k) (by rw [HL.out]; exact hlt) t)
          obtain ⟨x, hx⟩ : ∃ x, xs.getD k 0 = x := ⟨_, rfl⟩
          rw [hx] at g0 hr hT
          have hmb := mul_bound hr.1 hr.2 t1 t2
          have hw : IntKind.i64.wrap (x * t) = x * t := IntWalk.i64_in _ (by omega)
          clear hx hc1 hr hmb
          go_wp2_with (at_builtin; refine wpList_pushN rfl _ _ _ rfl Try.underlying22 rfl HO.out rfl (by simp) (by omega) HB.out.size ?_; intro A2 c2 w2 ho2 hg2 hb2)
          rw [← hT.out] at ho2
          have HO2 := Lib.hid ho2
          have HB2 := Lib.hid (HB.out.grown hg2 HB.out.size (fun g e => (HO.out.lt g e).1))
          clear ho2 hg2 hb2
          go_wp2_with fail
          go_roundw
          case rel => exact ⟨k + 1, A2, c2, by omega, by go_num, rfl, HO2, HB2⟩
          case measure => simp [intOf]; omega
        · obtain rfl : k = n := by omega
          have e1 : (sc xs t).take k = sc xs t := List.take_of_length_le (by rw [sc_len, HL.out]; omega)
          rw [e1] at HO
          clear e1
          go_wp2_with fail
          refine (l6pDone_any _ _ _ _ _ HO.out.rd (by omega)).mono ?_
          rintro e w3 ⟨A3, n3, c3, rfl, ho, hbl⟩
          rw [HR.out.1] at ho
          rw [HR.out.2]
          have HO3 := Lib.hid ho
          have HB2 := Lib.hid (HD.out.below.trans (HB.out.mono s1))
          have HB3 := Lib.hid (HB2.out.trans (hbl.mono HB2.out.size))
          clear ho hbl HO
          go_wp2_with fail
          go_ret2
          exact ⟨_, _, _, rfl, HO3.out.mono HB2.out.size, HB3.out⟩
    · have hbf : b = false := by rw [← hb]; exact not_true fun e => ht ⟨(scOk_true.1 e).2.1, (scOk_true.1 e).2.2.1⟩
      subst hbf
      have HT := Lib.hid ht
      clear hp hb ht
      go_enter Try.func50, Try.ntmps50
      go_wp2_with fail
      refine (specPowerIn_any _ _ _ _ _ HA.out hn _ HP.out).mono ?_
      rintro e w1 ⟨rfl, hq⟩
      have HD : Hid (Drn w w1) := Lib.hid hq
      clear hq
      go_wp2_with fail
      refine (l6In_no _ _ _ _ HT.out).mono ?_
      rintro e w2 ⟨rfl, rfl⟩
      go_wp2_with fail
      go_ret2
      exact ⟨_, _, _, rfl, (own_empty w1).mono HD.out.below.size, HD.out.below.alloc HD.out.below.size _⟩
  · have hbf : b = false := by rw [← hb]; exact not_true fun e => hp (scOk_true.1 e).1
    subst hbf
    have HP := Lib.hid (not_true hp)
    clear hp hb
    go_enter Try.func50, Try.ntmps50
    go_wp2_with fail
    refine (specPowerIn_any _ _ _ _ _ HA.out hn _ HP.out).mono ?_
    rintro e w1 ⟨rfl, hq⟩
    have HD : Hid (Drn w w1) := Lib.hid hq
    clear hq
    go_wp2_with fail
    go_ret2
    exact ⟨_, _, _, rfl, (own_empty w1).mono HD.out.below.size, HD.out.below.alloc HD.out.below.size _⟩
end Go.Proofs.Ytbfpllmoaooadaa
