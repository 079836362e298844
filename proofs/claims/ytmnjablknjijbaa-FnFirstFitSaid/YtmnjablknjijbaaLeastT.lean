
/- spec.l4Least: the walk. -/
import Derived.Test.YtmnjablknjijbaaLeastS
import Derived.Test.YtmnjablknjijbaaReg
import Derived.Test.YtmnjablknjijbaaLib
namespace Go.Proofs.Ytmnjablknjijbaa
set_option linter.unusedVariables false
open Go.RowKit
/-- The least number of bins. -/
noncomputable def leastF (C : Int) (xs : List Int) : Nat := Classical.epsilon (Pk.IsLeast C xs)
theorem leastF_eq {C : Int} {xs : List Int} {k : Nat} (h : Pk.IsLeast C xs k) : k = leastF C xs :=
  h.one (Classical.epsilon_spec (p := Pk.IsLeast C xs) ⟨k, h⟩)
theorem leastF_is {C : Int} {xs : List Int} {k : Nat} (h : Pk.IsLeast C xs k) : Pk.IsLeast C xs (leastF C xs) := by
  rw [← leastF_eq h]; exact h
theorem least_le {C : Int} {xs : List Int} {k : Nat} (h : Pk.IsLeast C xs k) (hx : ∀ x ∈ xs, 0 ≤ x ∧ x ≤ C) : k ≤ xs.length :=
  h.2 _ ((Pk.can_packs (fun x hm => (hx x hm).1)).1 (Pk.packs_len xs hx))
theorem xor_part : ∀ (n s p : Nat), s ≤ n → Pk.Part p s → s ^^^ p = s - p := by
  intro n
  induction n with
  | zero =>
    intro s p hs hp
    have := hp.le
    have e1 : s = 0 := by omega
    have e2 : p = 0 := by omega
    subst e1 e2; rfl
  | succ n ih =>
    intro s p hs hp
    have hle := hp.le
    obtain ⟨h1, h0⟩ := hp.half
    have hle2 := h1.le
    by_cases hs0 : s = 0
    · subst hs0
      have : p = 0 := by omega
      subst this; rfl
    · have e := ih (s / 2) (p / 2) (by omega) h1
      have x1 : (s ^^^ p) / 2 = (s / 2) ^^^ (p / 2) := by
        apply Nat.eq_of_testBit_eq
        intro i
        simp [Nat.testBit_div_two]
      have x0 : (s ^^^ p) % 2 = (s % 2 + p % 2) % 2 := by
        have := Nat.xor_mod_two_pow (a := s) (b := p) (n := 1)
        simp only [Nat.pow_one] at this
        rw [this]
        rcases Nat.mod_two_eq_zero_or_one s with a | a <;> rcases Nat.mod_two_eq_zero_or_one p with b | b <;> simp [a, b]
      rcases Nat.mod_two_eq_zero_or_one s with a | a <;> rcases Nat.mod_two_eq_zero_or_one p with b | b <;> omega
theorem andNot_part {s p : Nat} (hs : s < 4096) (hp : Pk.Part p s) : bits .andNot .i64 (s : Int) (p : Int) = ((s - p : Nat) : Int) := by
  have hle := hp.le
  rw [← xor_part s s p (Nat.le_refl _) hp]
  rw [← xor_i64 s p (by omega) (by omega)]
  show IntKind.i64.wrap ((BitVec.ofInt 64 (s : Int) &&& ~~~ BitVec.ofInt 64 (p : Int)).toNat : Int) = IntKind.i64.wrap ((BitVec.ofInt 64 (s : Int) ^^^ BitVec.ofInt 64 (p : Int)).toNat : Int)
  have e : BitVec.ofInt 64 (s : Int) &&& ~~~ BitVec.ofInt 64 (p : Int) = BitVec.ofInt 64 (s : Int) ^^^ BitVec.ofInt 64 (p : Int) := by
    apply BitVec.eq_of_getLsbD_eq
    intro i hi
    have hb := congrArg (fun x => x.testBit i) hp
    simp only [Nat.testBit_and] at hb
    rw [BitVec.ofInt_natCast, BitVec.ofInt_natCast]
    simp only [BitVec.getLsbD_and, BitVec.getLsbD_not, BitVec.getLsbD_xor, BitVec.getLsbD_ofNat, hi, decide_true, Bool.true_and]
    cases h1 : s.testBit i <;> cases h2 : p.testBit i <;> simp [h1, h2] at hb ⊢
  rw [e]
set_option maxRecDepth 100000 in
set_option maxHeartbeats 3200000 in
theorem l4Least_any (A : Option Addr) (n c : Nat) (xs : List Int) (C : Int) (w : World) (ha : Rd w w.heap.size A n xs) (hn : n ≤ 10) (hx : ∀ x ∈ xs, 1 ≤ x ∧ x ≤ 60) (hC : ∀ x ∈ xs, x ≤ C) (hC0 : 0 ≤ C) :
    Calls Try.prog 37 #[.slice A n c, .int .i64 C] w (RetI w (leastF C xs)) := by
  obtain ⟨i0, hi, hz0, hz1, hz2⟩ := info_parts int_info
  have hl := ha.len
  have hx2 : ∀ x ∈ xs, 0 ≤ x ∧ x ≤ C := fun x hm => ⟨by have := hx x hm; omega, hC x hm⟩
  have hx3 : ∀ t, ∀ x ∈ Pk.sel xs t, 0 ≤ x ∧ x ≤ C := fun t x hm => hx2 x (Pk.sel_mem xs t x hm)
  obtain ⟨P, hP⟩ : ∃ P, 2 ^ n = P := ⟨_, rfl⟩
  have hP1 : 1 ≤ P ∧ P ≤ 1024 := by
    rw [← hP]
    exact ⟨Nat.pow_pos (by omega), by have := Nat.pow_le_pow_right (n := 2) (by omega) hn; omega⟩
  have hpz : (2 : Int) ^ n = (P : Int) := by rw [← hP]; simp
  obtain ⟨hP0, hP2⟩ := hP1
  have hpw : IntKind.i64.wrap ((2 : Int) ^ n) = (P : Int) := by rw [hpz]; exact IntWalk.i64_in _ (by omega)
  have HA := Lib.hid ha
  have HX := Lib.hid hx
  have HX3 := Lib.hid hx3
  have HP := Lib.hid hP
  have HX2 := Lib.hid hx2
  clear ha hx hC hx2 hx3 hP hpz
  go_enter Try.func37, Try.ntmps37
  go_wp2_with (at_make; refine wpList_make_full _ rfl _ _ 22 rfl w.heap.size 3 i0 (.int .i64 0) 1 Try.underlying22 hi hz0 hz1 _ _ _ _ P rfl rfl rfl rfl ?b2 ?b3 (by simp) ?_)
  case b2 => rw [hz2]; omega
  case b3 => unfold maxLen; omega
  intro w1 hown0 hg0
  have HO0 := Lib.hid (own_made hown0)
  have HB0 := Lib.hid ((below_of_grown hg0).mono (Nat.le_refl _))
  have HL0 : Hid (∀ t, t < 1 → (List.replicate P (0 : Int)).getD t 0 = (leastF C (Pk.sel xs t) : Int) ∧ Pk.IsLeast C (Pk.sel xs t) (leastF C (Pk.sel xs t))) := Lib.hid (fun t ht => by
    have e : t = 0 := by omega
    subst e
    have hz := Pk.least_zero C xs
    rw [← leastF_eq hz]
    refine ⟨?_, hz⟩
    simp [List.getD, List.getElem?_replicate]
    split <;> rfl)
  clear hown0 hg0
  go_wp2_with fail
  go_loopw [6] (fun i wr => ∃ (s : Nat) (Lf : List Int), 1 ≤ s ∧ s ≤ P ∧ i = .int .i64 s ∧ Hid (Own wr w.heap.size (some ⟨w.heap.size, 0, none⟩) P P Lf) ∧ Hid (Below w.heap.size w wr) ∧ Hid (∀ t, t < s → Lf.getD t 0 = (leastF C (Pk.sel xs t) : Int) ∧ Pk.IsLeast C (Pk.sel xs t) (leastF C (Pk.sel xs t)))) (fun i _ => P - (intOf i).toNat)
  case atStart => exact ⟨1, _, by omega, by omega, by go_num, HO0, HB0, HL0⟩
  case round =>
    obtain ⟨s, Lf, hs1, hs2, rfl, HO, HB, HL⟩ := hrel
    clear HO0 HB0 HL0
    by_cases hlt : s < P
    · have f1 := HO.out.free s
      have g1 := HO.out.cell (j := s) hlt
      obtain ⟨y, hy⟩ : ∃ y, Lf.getD s 0 = y := ⟨_, rfl⟩
      rw [hy] at g1
      have hlf := HO.out.len
      have st := HO.out.set_ s n
      have HO1 := Lib.hid st.1
      have HB1 := Lib.hid (HB.out.grown st.2 HB.out.size (fun g e => by injection e with e; omega))
      have HL1 : Hid (∀ t, t < s → (Lf.set s (n : Int)).getD t 0 = (leastF C (Pk.sel xs t) : Int)) := Lib.hid (fun t ht => by
        rw [← (HL.out t ht).1]
        simp [List.getD, show ¬ s = t by omega])
      have HV1 : Hid ((Lf.set s (n : Int)).getD s 0 = ((n : Nat) : Int)) := Lib.hid (by simp [List.getD, hlf, hlt])
      have HD1 : Hid (Pk.DpTo C xs (fun t => leastF C (Pk.sel xs t)) s s n) := Lib.hid (by have := Pk.dpTo_zero C xs (fun t => leastF C (Pk.sel xs t)) s; rw [hl] at this; exact this)
      clear st hy hlf HO HB
      go_wp2_with fail
      generalize wr.setCell ⟨w.heap.size, s, none⟩ (.int .i64 n) = wa at HO1 HB1 ⊢
      clear f1 g1
      go_loopw [7] (fun i wr => ∃ (q v : Nat) (Lf : List Int), i = .int .i64 q ∧ q ≤ s ∧ v ≤ 10 ∧ Hid (Pk.Part q s) ∧ Hid (Own wr w.heap.size (some ⟨w.heap.size, 0, none⟩) P P Lf) ∧ Hid (Below w.heap.size w wr) ∧ Hid (∀ t, t < s → Lf.getD t 0 = (leastF C (Pk.sel xs t) : Int)) ∧ Hid (Lf.getD s 0 = (v : Int)) ∧ Hid (Pk.DpTo C xs (fun t => leastF C (Pk.sel xs t)) s q v)) (fun i _ => (intOf i).toNat)
      case atStart => exact ⟨s, n, _, rfl, by omega, by omega, Lib.hid (Pk.part_self s), HO1, HB1, HL1, HV1, HD1⟩
      case round =>
        obtain ⟨q, v, Lg, rfl, hqs, hv, HPT, HO, HB, HLL, HV, HD⟩ := hrel
        clear HO1 HB1 HL1 HV1 HD1
        by_cases hq : 0 < q
        · have HR : Hid (Rd wr wr.heap.size A n xs) := Lib.hid (HA.out.below HB.out).lt
          obtain ⟨t, ht⟩ : ∃ t, Pk.tot (Pk.sel xs q) = t := ⟨_, rfl⟩
          obtain ⟨q2, hq2⟩ : ∃ q2, (q - 1) &&& s = q2 := ⟨_, rfl⟩
          have q2lt : q2 < q := by rw [← hq2]; exact Pk.and_lt hq
          have hq2p : Pk.Part q2 s := by rw [← hq2]; exact Pk.part_and _ _
          have hqa : bits .and .i64 ((q : Int) - 1) (s : Int) = (q2 : Int) := by
            rw [show (q : Int) - 1 = ((q - 1 : Nat) : Int) by omega, and_i64 _ _ (by omega) (by omega), hq2]
          have HQ2 := Lib.hid hq2
          have HQP := Lib.hid hq2p
          have HT := Lib.hid ht
          clear hq2 hq2p
          by_cases htC : t ≤ C
          · have K := Lib.hid (l1Sum_any A n c xs q wr HR.out hn HX.out (by omega))
            rw [ht] at K
            clear ht
            go_wp2_with (go_at_call 57; (with_reducible refine K.out.mono ?_); rintro e w2 ⟨rfl, qq, rfl⟩)
            have HO2 := Lib.hid (HO.out.drewN qq)
            have HB2 := Lib.hid (below_drewN HB.out qq)
            clear HO HB HR K
            generalize wr.drewN qq = wv at HO2 HB2 ⊢
            obtain ⟨r, hr⟩ : ∃ r, s - q = r := ⟨_, rfl⟩
            have hrs : r < s := by omega
            have han := andNot_part (s := s) (p := q) (by omega) HPT.out
            rw [hr] at han
            obtain ⟨m, hm⟩ : ∃ m, leastF C (Pk.sel xs r) = m := ⟨_, rfl⟩
            have hm10 : m ≤ 10 := by
              have h1 := least_le (HL.out r hrs).2 (HX3.out r)
              have h2 := Pk.sel_len xs r
              omega
            have g1 := HO2.out.cell (j := s) hlt
            have g2 := HO2.out.cell (j := r) (by omega)
            have f1 := HO2.out.free s
            rw [HV.out] at g1
            rw [HLL.out r hrs, hm] at g2
            have HST := HD.out.step HPT.out hq (by rw [HT.out]; exact htC)
            rw [HQ2.out, hr] at HST
            simp only [hm] at HST
            have st := HO2.out.set_ s ((min v (1 + m) : Nat) : Int)
            have HO3 := Lib.hid st.1
            have HB3 := Lib.hid (HB2.out.grown st.2 HB2.out.size (fun g e => by injection e with e; omega))
            have hlg := HO2.out.len
            have HL3 : Hid (∀ t, t < s → (Lg.set s ((min v (1 + m) : Nat) : Int)).getD t 0 = (leastF C (Pk.sel xs t) : Int)) := Lib.hid (fun t ht => by
              rw [← HLL.out t ht]
              simp [List.getD, show ¬ s = t by omega])
            have HV3 : Hid ((Lg.set s ((min v (1 + m) : Nat) : Int)).getD s 0 = ((min v (1 + m) : Nat) : Int)) := Lib.hid (by simp [List.getD, hlg, hlt])
            have HD3 := Lib.hid HST
            have z1 : (0 : Int) ≤ (s : Int) := by omega
            have z2 : (s : Int) < (P : Int) := by omega
            have z3 : ((s : Int)).toNat = s := by omega
            have y1 : (0 : Int) ≤ (r : Int) := by omega
            have y2 : (r : Int) < (P : Int) := by omega
            have y3 : ((r : Int)).toNat = r := by omega
            have hw1 : IntKind.i64.wrap (1 + (m : Int)) = 1 + (m : Int) := IntWalk.i64_in _ (by omega)
            clear st hlg HST hr hm HO2 HB2 HLL HV HD
            go_wp2_with fail
            apply wp_to
            case h => go_big_region; exact ⟨rfl, rfl⟩
            have gmn : (if 1 + (m : Int) < (v : Int) then 1 + (m : Int) else (v : Int)) = ((min v (1 + m) : Nat) : Int) := by split <;> omega
            rw [gmn]
            have hv10 : min v (1 + m) ≤ 10 := by omega
            generalize min v (1 + m) = u at hv10 HO3 HB3 HL3 HV3 HD3 ⊢
            have HO4 : Hid (Own (wv.setCell ⟨w.heap.size, s, none⟩ (.int .i64 (u : Int))).drew w.heap.size (some ⟨w.heap.size, 0, none⟩) P P (Lg.set s (u : Int))) := Lib.hid (HO3.out.drewN 1)
            have HB4 : Hid (Below w.heap.size w (wv.setCell ⟨w.heap.size, s, none⟩ (.int .i64 (u : Int))).drew) := Lib.hid (below_drewN HB3.out 1)
            clear HO3 HB3 g1 g2 f1 gmn
            generalize (wv.setCell ⟨w.heap.size, s, none⟩ (.int .i64 (u : Int))).drew = wz at HO4 HB4 ⊢
            have hqw : IntKind.i64.wrap ((q : Int) - 1) = (q : Int) - 1 := IntWalk.i64_in _ (by omega)
            go_wp2_with fail
            go_roundw
            case rel => exact ⟨q2, u, _, by go_num, by omega, hv10, HQP, HO4, HB4, HL3, HV3, HD3⟩
            case measure => simp [intOf]; omega
          · have K := Lib.hid (l1Sum_any A n c xs q wr HR.out hn HX.out (by omega))
            rw [ht] at K
            clear ht
            have hqw : IntKind.i64.wrap ((q : Int) - 1) = (q : Int) - 1 := IntWalk.i64_in _ (by omega)
            go_wp2_with (go_at_call 57; (with_reducible refine K.out.mono ?_); rintro e w2 ⟨rfl, qq, rfl⟩)
            have HO2 := Lib.hid (HO.out.drewN qq)
            have HB2 := Lib.hid (below_drewN HB.out qq)
            clear HO HB HR K
            generalize wr.drewN qq = wv at HO2 HB2 ⊢
            have HN := HD.out.skip HPT.out hq (by rw [HT.out]; exact Int.not_le.2 htC)
            rw [HQ2.out] at HN
            have HD2 := Lib.hid HN
            clear HN HD
            go_wp2_with fail
            go_roundw
            case rel => exact ⟨q2, v, _, by go_num, by omega, hv, HQP, HO2, HB2, HLL, HV, HD2⟩
            case measure => simp [intOf]; omega
        · have e : q = 0 := by omega
          subst e
          have hdone := HD.out.done (by omega) (by rw [hl, HP.out]; exact hlt) HX2.out hC0 (fun t ht => (HL.out t ht).2)
          have HN : Hid (∀ t, t < s + 1 → Lg.getD t 0 = (leastF C (Pk.sel xs t) : Int) ∧ Pk.IsLeast C (Pk.sel xs t) (leastF C (Pk.sel xs t))) := Lib.hid (fun t ht => by
            by_cases e : t = s
            · subst e
              rw [HV.out, ← leastF_eq hdone]
              exact ⟨rfl, hdone⟩
            · exact ⟨HLL.out t (by omega), (HL.out t (by omega)).2⟩)
          clear hdone HV HD HLL HL
          go_wp2_with fail
          go_roundw
          case rel => exact ⟨s + 1, _, by omega, by omega, by go_num, HO, HB, HN⟩
          case measure => simp [intOf]; omega
    · have e : s = P := by omega
      subst e
      have hz : (s : Int) - 1 = ((s - 1 : Nat) : Int) := by omega
      have hfin := HL.out (s - 1) (by omega)
      have hall := Pk.sel_all xs
      rw [hl, HP.out] at hall
      rw [hall] at hfin
      obtain ⟨s1, hs⟩ : ∃ s1, s - 1 = s1 := ⟨_, rfl⟩
      rw [hs] at hz hfin
      have g1 := HO.out.cell (j := s1) (by omega)
      rw [hfin.1] at g1
      have HBE := Lib.hid HB.out
      have hw1 : IntKind.i64.wrap ((s : Int) - 1) = (s1 : Int) := by rw [hz]; exact IntWalk.i64_in _ (by omega)
      clear hfin hall hz HL HO HB
      go_wp2_with fail
      go_ret
      exact ⟨rfl, HBE.out⟩
end Go.Proofs.Ytmnjablknjijbaa
