
/- FnDigits: digits lead back to numbers: the walk. -/
import Derived.Test.YtmakekolaclgnaaDoorDrawD
namespace Go.Proofs.YtmakekolaclgnaaDoor
set_option linter.unusedVariables false
open Go.RowKit
theorem neg_get (l : List Int) (k : Nat) (h : k < l.length) : (l.map (fun d => 0 - d)).getD k 0 = - l.getD k 0 := by
  simp [List.getD, h]
theorem nmv_dg {v : Int} (h : (Dg.dg v).length ≤ 12) : nmv (Dg.dg v) = v := by
  unfold nmv
  rw [if_pos (dgOk_dg h), Dg.nm_dg]
set_option maxRecDepth 100000 in
set_option maxHeartbeats 3200000 in
theorem mainDigits (a0 : Option Addr) (n0 c0 : Nat) (z0 : List Int) (w : World) (hgl : GL w) (hd0 : Rb w w.heap.size a0 n0 z0) (hk0 : n0 ≤ c0) : Calls Tryd.prog 4 #[.slice a0 n0 c0] w (RetB w true) := by
  by_cases big : 1048576 < n0
  · go_enter Tryd.func4, Tryd.ntmps4
    go_wp2_with fail
    go_ret
    exact ⟨rfl, Below.refl _ _⟩
  have HG := Lib.hid hgl
  clear hgl
  go_enter Tryd.func4, Tryd.ntmps4
  go_wp2_with fail
  refine (drawPanDigits_any _ _ _ _ _ hd0 hk0).mono ?_
  rintro e w1 ⟨v, rfl, v1, v2, hb1⟩
  have BB := Lib.hid hb1
  clear hb1 hd0
  by_cases hin : v ≤ 1000000
  · have hlen : (Dg.dg v).length ≤ 14 := Dg.dg_len 14 v (by omega)
    have hdl : ∀ j, j < (Dg.dg v).length → -1 ≤ (Dg.dg v).getD j 0 ∧ (Dg.dg v).getD j 0 ≤ 1 := fun j hj => Dg.dg_digit v _ (getD_mem hj)
    have HDL := Lib.hid hdl
    have HNG : Hid (Dg.dg (-v) = (Dg.dg v).map (fun d => 0 - d)) := Lib.hid (by rw [← Int.zero_sub]; exact Dg.dg_neg v)
    have HNV := Lib.hid (fun h => (nmv_dg (v := v) h))
    have HOK := Lib.hid (fun h => (dgOk_dg (v := v) h))
    have KS : Hid (∀ w2 : World, Calls Tryd.prog 14 #[.int .i64 v] w2 (RetOwnB w2 (Dg.dg v) true)) := Lib.hid fun w2 => specPanDigits_yes v w2 ⟨by omega, hin⟩
    have KN : Hid (∀ w2 : World, Calls Tryd.prog 13 #[.int .i64 (-v)] w2 (RetOwnB w2 (Dg.dg (-v)) true)) := Lib.hid fun w2 => implPanDigits_yes (-v) w2 ⟨by omega, by omega⟩
    clear hdl
    go_wp2_with fail
    refine (implPanDigits_yes v w1 ⟨by omega, hin⟩).mono ?_
    rintro e w2 ⟨A, n, c, rfl, ho, hb⟩
    generalize Dg.dg v = X at *
    have hl := ho.len
    have D := Lib.hid ho.rd
    have B2 := Lib.hid (BB.out.trans (hb.mono BB.out.size))
    clear ho hb BB
    go_wp2_with fail
    refine (KS.out w2).mono ?_
    rintro e w3 ⟨A2, n2, c2, rfl, ho, hb⟩
    have hl2 := ho.len
    obtain rfl : n = n2 := by omega
    have E := Lib.hid ho.rd
    have D2 := Lib.hid (D.out.below hb).lt
    have BB := Lib.hid (B2.out.trans (hb.mono B2.out.size))
    clear ho hb D B2
    go_wp2_with fail
    refine (sameInts_same _ _ _ _ _ _ _ D2.out E.out (by omega)).mono ?_
    rintro e w4 ⟨rfl, hb⟩
    have D := Lib.hid (D2.out.below hb).lt
    have B2 := Lib.hid (BB.out.trans (hb.mono BB.out.size))
    clear hb D2 BB E
    have K : Hid (Calls Tryd.prog 10 #[.slice A n c] w4 (RetIB w4 (nmv X) (dgOk X))) := Lib.hid (implPanNumber_any A n c X w4 D.out (by omega) (HG.out.below B2.out) _ rfl)
    obtain ⟨y, hy⟩ : ∃ y, nmv X = y := ⟨_, rfl⟩
    obtain ⟨ok, hok⟩ : ∃ ok, dgOk X = ok := ⟨_, rfl⟩
    rw [hy, hok] at K
    have HY := Lib.hid hy
    have HO := Lib.hid hok
    clear hy hok
    go_wp2_with fail
    refine K.out.mono ?_
    rintro e w5 ⟨rfl, hb⟩
    have D2 := Lib.hid (D.out.below hb).lt
    have BB := Lib.hid (B2.out.trans (hb.mono B2.out.size))
    clear hb D B2 K
    go_wp2_with fail
    refine (KN.out w5).mono ?_
    rintro e w6 ⟨A3, n3, c3, rfl, ho, hb⟩
    rw [HNG.out] at ho
    have hl3 := ho.len
    rw [List.length_map] at hl3
    obtain rfl : n = n3 := by omega
    have F := Lib.hid ho.rd
    have D := Lib.hid (D2.out.below hb).lt
    have B2 := Lib.hid (BB.out.trans (hb.mono BB.out.size))
    have hne : (((n : Nat) : Int) != (n : Int)) = false := by simp
    clear ho hb D2 BB KN KS HNG
    go_wp2_with fail
    go_loopw [12] (fun i wr => ∃ k q : Nat, k ≤ n ∧ i = .int .i64 k ∧ wr = w6.drewN q) (fun i _ => n - (intOf i).toNat)
    case atStart => exact ⟨0, 0, by omega, rfl, rfl⟩
    case round =>
      obtain ⟨k, q, hk, rfl, rfl⟩ := hrel
      by_cases hlt : k < n
      · obtain ⟨b1, o1, rfl, _, hc1⟩ := D.out.at_ hlt
        obtain ⟨b2, o2, rfl, _, hc2⟩ := F.out.at_ hlt
        have g1 := hc1 k hlt
        have g2 := hc2 k hlt
        rw [neg_get _ _ (by omega)] at g2
        obtain ⟨d1, d2⟩ := HDL.out k (by omega)
        generalize X.getD k 0 = d at g1 g2 d1 d2
        clear hc1 hc2
        have hxx : (-d != -d) = false := by simp
        have hww : IntKind.i64.wrap (-d) = -d := IntWalk.i64_in _ (by omega)
        have i1 : (0 : Int) ≤ (k : Int) := by omega
        have i2 : (k : Int) < (n : Int) := by omega
        have i3 : ((k : Int)).toNat = k := by omega
        go_wp2_with fail
        go_quiet (fail)
        go_wp2_with fail
        go_roundw
        case rel => exact ⟨k + 1, q + nq, by omega, by go_num, rfl⟩
        case measure => simp [intOf]; omega
      · have e : k = n := by omega
        subst e
        by_cases h12 : 12 < k
        · go_wp2_with fail
          go_ret
          exact ⟨rfl, below_drewN B2.out q⟩
        · obtain rfl : true = ok := by rw [← HO.out]; exact (HOK.out (by omega)).symm
          obtain rfl : v = y := by rw [← HY.out]; exact (HNV.out (by omega)).symm
          have he : (v == v) = true := by simp
          go_wp2_with fail
          go_ret
          exact ⟨rfl, below_drewN B2.out q⟩
  · have HN : Hid (¬ (-1000000 ≤ v ∧ v ≤ 1000000)) := Lib.hid (by omega)
    go_wp2_with fail
    refine (implPanDigits_no v w1 HN.out).mono ?_
    rintro e w2 ⟨A, n, c, rfl, ho, hb⟩
    have hl := ho.len
    have D := Lib.hid ho.rd
    have B2 := Lib.hid (BB.out.trans (hb.mono BB.out.size))
    clear ho hb BB
    go_wp2_with fail
    refine (specPanDigits_no v w2 HN.out).mono ?_
    rintro e w3 ⟨A2, n2, c2, rfl, ho, hb⟩
    have hl2 := ho.len
    obtain rfl : n = n2 := by omega
    have E := Lib.hid ho.rd
    have D2 := Lib.hid (D.out.below hb).lt
    have BB := Lib.hid (B2.out.trans (hb.mono B2.out.size))
    have hn0 : n ≤ 1 := by simp at hl; omega
    clear ho hb D B2 hl hl2
    go_wp2_with fail
    refine (sameInts_same _ _ _ _ _ _ _ D2.out E.out (by omega)).mono ?_
    rintro e w4 ⟨rfl, hb⟩
    have D := Lib.hid (D2.out.below hb).lt
    have F := Lib.hid (E.out.below hb).lt
    have B2 := Lib.hid (BB.out.trans (hb.mono BB.out.size))
    clear hb D2 BB E
    go_wp2_with fail
    refine (sameInts_same _ _ _ _ _ _ _ D.out F.out (by omega)).mono ?_
    rintro e w5 ⟨rfl, hb⟩
    have BB := Lib.hid (B2.out.trans (hb.mono B2.out.size))
    clear hb
    go_wp2_with fail
    go_ret
    exact ⟨rfl, BB.out⟩
end Go.Proofs.YtmakekolaclgnaaDoor
