
/- PowerFind of spec: the walk. Printed by gen_find.py. -/
import Derived.Test.YtbfpllmoaooadaaFindM
import Derived.Test.YtbfpllmoaooadaaPowDegJ
import Derived.Deep.RegionHeld3
import Derived.Deep.RegionWith
namespace Go.Proofs.Ytbfpllmoaooadaa
set_option linter.unusedVariables false
open Go.RowKit
set_option maxHeartbeats 800000 in
theorem specFind_no (a : Int) (h : ¬ (1 ≤ a ∧ a ≤ 12)) (w : World) : Calls Try.prog 46 #[.int .i64 a] w (RetOwn2B w [] [] false) := by
  have HN := Lib.hid h
  have FIN := Lib.hid (show RetOwn2B w [] [] false (.returned (.tuple #[.slice (some ⟨w.heap.size, 0, none⟩) 0 0, .slice (some ⟨w.heap.size + 1, 0, none⟩) 0 0, .bool false])) ((w.alloc (.cells #[] 3)).alloc (.cells #[] 3)) from
    ⟨_, _, _, _, _, _, rfl, (own_empty w).alloc _, own_emptyN rfl (by simp) (by simp), Or.inr (by simp [blk]), ((Below.refl _ _).alloc (Nat.le_refl _) _).alloc (by simp) _⟩)
  clear h
  go_enter Try.func46, Try.ntmps46
  go_wp2_with fail
  refine (l6In_no _ _ _ _ HN.out).mono ?_
  rintro e w1 ⟨rfl, rfl⟩
  go_wp2_with fail
  go_ret3
  exact FIN.out
set_option maxRecDepth 100000 in
set_option maxHeartbeats 6400000 in
theorem specFind_yes (n : Nat) (h1 : 1 ≤ n) (hn : n ≤ 12) (w : World) : Calls Try.prog 46 #[.int .i64 n] w (RetFind w (Fd.first (Fd.threes n))) := by
  have HFT := Lib.hid (fun r (hr : r ∈ Fd.threes n) => three_facts hn hr)
  have TH := Lib.hid (fun W => specThrees_any n hn W)
  obtain ⟨S, hS⟩ : ∃ S, Fd.threes n = S := ⟨_, rfl⟩
  rw [hS] at HFT TH ⊢
  clear hS
  have d1 : (1 : Int) ≤ (n : Int) := by omega
  have d2 : (n : Int) ≤ 12 := by omega
  go_enter Try.func46, Try.ntmps46
  go_wp2_with fail
  refine (l6In_yes _ _ _ _ d1 d2).mono ?_
  rintro e w0 ⟨rfl, rfl⟩
  go_wp2_with fail
  refine (TH.out _).mono ?_
  rintro e w1 ⟨A, N, C, rfl, ⟨fs, hf⟩, hb⟩
  have HF := Lib.hid hf
  have HB := Lib.hid hb
  have hNC := hf.cap
  have hC63 : C ≤ 9223372036854775807 := by have := hNC.2; unfold maxLen at this; omega
  have hNC1 := hNC.1
  clear hf hb hNC
  go_wp2_with fail
  go_loopw [6] (fun iv wr => ∃ i : Nat, i ≤ N ∧ iv = .int .i64 i ∧ Hid (OwnF wr w.heap.size A N C fs S) ∧ Hid (Below w.heap.size w wr) ∧ Hid (Fd.first (S.drop i) = Fd.first S)) (fun iv _ => N - (intOf iv).toNat)
  case atStart => exact ⟨0, by omega, by go_num, HF, HB, Lib.hid (by rw [List.drop_zero])⟩
  case round =>
    obtain ⟨i, hiN, rfl, HF, HB, HI⟩ := hrel
    by_cases hlt : i < N
    · have hltz : (i : Int) < (N : Int) := by omega
      obtain ⟨g, rfl, hg1, hg2⟩ := HF.out.form (by omega)
      have hmem : S.getD i [] ∈ S := by
        have : i < S.length := by rw [HF.out.len]; exact hlt
        simp [List.getD, this]
      obtain ⟨fl, fb, fp, fs1⟩ := HFT.out _ hmem
      have HD := Lib.hid (Fd.drop_getD (S := S) (i := i) (by rw [HF.out.len]; exact hlt))
      obtain ⟨⟨A1, n1, k1⟩, hs1⟩ : ∃ s, fs.getD i slNil = s := ⟨_, rfl⟩
      have HS1 := Lib.hid hs1
      obtain ⟨a, ha⟩ : ∃ a, S.getD i [] = a := ⟨_, rfl⟩
      rw [ha] at fl fb fp fs1 HD
      have HAA := Lib.hid ha
      have FB := Lib.hid fb
      have FL := Lib.hid fl
      have FP := Lib.hid fp
      have FSS := Lib.hid fs1
      have i0 : (0 : Int) ≤ (i : Int) := by omega
      have i2 : ((i : Int)).toNat = i := by omega
      clear hs1 ha hmem fl fb fp fs1
      go_wp2_with fail
      go_loopw [7] (fun kv wr => ∃ j : Nat, i + 1 ≤ j ∧ j ≤ N ∧ kv = .int .i64 j ∧ Hid (OwnF wr w.heap.size (some ⟨g, 0, none⟩) N C fs S) ∧ Hid (Below w.heap.size w wr) ∧ Hid (Fd.hit a (S.drop j) = Fd.hit a (S.drop (i + 1)))) (fun kv _ => N - (intOf kv).toNat)
      case atStart => exact ⟨i + 1, by omega, by omega, by go_num, HF, HB, Lib.hid rfl⟩
      case round =>
        obtain ⟨j, hj1, hjN, rfl, HF, HB, HK⟩ := hrel
        by_cases hj : j < N
        · have hjz : (j : Int) < (N : Int) := by omega
          have c1 := HF.out.cell hlt
          have c2 := HF.out.cell hj
          have r1 := HF.out.row hlt
          have r2 := HF.out.row hj
          have hmem : S.getD j [] ∈ S := by
            have : j < S.length := by rw [HF.out.len]; exact hj
            simp [List.getD, this]
          obtain ⟨fl, fb, fp, fs2⟩ := HFT.out _ hmem
          have HDk := Lib.hid (Fd.drop_getD (S := S) (i := j) (by rw [HF.out.len]; exact hj))
          obtain ⟨⟨A2, n2, k2⟩, hs2⟩ : ∃ s, fs.getD j slNil = s := ⟨_, rfl⟩
          have HS2 := Lib.hid hs2
          rw [HS1.out, HAA.out] at r1
          rw [HS1.out] at c1
          rw [hs2] at c2 r2
          obtain ⟨b, hb⟩ : ∃ b, S.getD j [] = b := ⟨_, rfl⟩
          rw [hb] at r2 fl fb fp fs2 HDk
          simp only at c1 c2 r1 r2
          have hn1 : n1 ≤ 3 := by have := r1.len; have := FL.out; omega
          have hn2 : n2 ≤ 3 := by have := r2.len; omega
          have R1 := Lib.hid r1
          have R2 := Lib.hid r2
          have FB2 := Lib.hid fb
          obtain ⟨d, hd⟩ := isDeg_ex (fun j => Nw.ps j a) (fun j => Nw.ps j b)
          have hgi := good_iff FL.out fl hd
          rw [← parts_three FL.out FSS.out fs2] at hgi
          have HGI := Lib.hid hgi
          have HDG := Lib.hid hd
          have FP2 := Lib.hid fp
          have j0 : (0 : Int) ≤ (j : Int) := by omega
          have j2 : ((j : Int)).toNat = j := by omega
          clear hs2 hb hmem r1 r2 fl fb fp fs2 hd hgi
          have DGW : Hid (∀ k, Calls Try.prog 64 #[.slice A1 n1 k1, .slice A2 n2 k2] (wr.drewN k) (RetV (wr.drewN k) (.int .i64 d))) := Lib.hid (fun k => l6pDegree_any _ _ _ _ _ _ _ _ _ (R1.out.drewN k).rd (by omega) FB.out (R2.out.drewN k).rd (by omega) FB2.out _ HDG.out)
          by_cases hd2 : d < 2
          · have dd : decide (d < 2) = true := decide_eq_true hd2
            have HK2 : Hid (Fd.hit a (S.drop (j + 1)) = Fd.hit a (S.drop (i + 1))) := Lib.hid (by
              rw [← HK.out, HDk.out]
              refine (Fd.hit_no ?_).symm
              cases hgood : Fd.good a b with
              | false => rfl
              | true => have := (HGI.out.1 hgood).1; omega)
            go_wp2_with fail
            go_quiet ((go_at_call 64; exact quiet_retV (DGW.out _)))
            go_wp2_with fail
            go_roundw
            case rel => exact ⟨j + 1, by omega, by omega, by go_num, Lib.hid (HF.out.drewN nq), Lib.hid (below_drewN HB.out nq), HK2⟩
            case measure => simp [intOf]; omega
          · have dd : decide (d < 2) = false := decide_eq_false hd2
            go_wp2_with fail
            go_quiet ((go_at_call 64; exact quiet_retV (DGW.out _)))
            go_wp2_with fail
            have c1' : (wr.drewN nq).cell? ⟨g, i, none⟩ = some (.slice A1 n1 k1) := c1
            have c2' : (wr.drewN nq).cell? ⟨g, j, none⟩ = some (.slice A2 n2 k2) := c2
            have HF2 := Lib.hid (HF.out.drewN nq)
            have HB2 := Lib.hid (below_drewN HB.out nq)
            have Q1 := Lib.hid (R1.out.drewN nq)
            have Q2 := Lib.hid (R2.out.drewN nq)
            clear c1 c2 HF HB R1 R2
            generalize wr.drewN nq = wv at c1' c2' HF2 HB2 Q1 Q2 ⊢
            have Q1d : Hid (Own wv.drew w.heap.size A1 n1 k1 a) := Lib.hid Q1.out
            have Q2d : Hid (Own wv.drew w.heap.size A2 n2 k2 b) := Lib.hid Q2.out
            have c12 : Hid (wv.drew.cell? ⟨g, i, none⟩ = some (.slice A1 n1 k1) ∧ wv.drew.cell? ⟨g, j, none⟩ = some (.slice A2 n2 k2)) := Lib.hid ⟨c1', c2'⟩
            obtain ⟨X, hX⟩ : ∃ X, (Pt.parts a b).1 = X := ⟨_, rfl⟩
            have PW : Hid (∀ W : World, Rd W W.heap.size A1 n1 a → Rd W W.heap.size A2 n2 b → Calls Try.prog 38 #[.slice A1 n1 k1, .slice A2 n2 k2] W (RetOwn2B W X (Pt.parts a b).2 true)) := Lib.hid (fun W ra rb => by rw [← hX]; exact specParts_yes A1 n1 k1 a A2 n2 k2 b W ra rb FP.out FP2.out)
            rw [hX] at HGI
            have HFd : Hid (OwnF wv.drew w.heap.size (some ⟨g, 0, none⟩) N C fs S) := Lib.hid HF2.out
            have HBd : Hid (Below w.heap.size w wv.drew) := Lib.hid (below_drewN HB2.out 1)
            clear hX c1' c2' HF2 HB2 Q1 Q2
            go_wp2_with fail
            go_region_held3 (fun w' => w'.cell? ⟨g, i, none⟩ = some (.slice A1 n1 k1) ∧ w'.cell? ⟨g, j, none⟩ = some (.slice A2 n2 k2))
              (first | exact c12.out | exact c34.out | fail)
              (first
                | (go_at_call 38; (with_reducible refine (PW.out wv.drew Q1d.out.rd Q2d.out.rd).mono ?_); rintro e wf ⟨A5, n5, k5, A6, n6, k6, rfl, ho5, ho6, _, hbf⟩; have F1 := Lib.hid (HFd.out.below hbf); have B1 := Lib.hid (HBd.out.trans (hbf.mono HBd.out.size)); have c34 := Lib.hid (show wf.cell? ⟨g, i, none⟩ = some (.slice A1 n1 k1) ∧ wf.cell? ⟨g, j, none⟩ = some (.slice A2 n2 k2) from ⟨by have := F1.out.cell hlt; rw [HS1.out] at this; exact this, by have := F1.out.cell hj; rw [HS2.out] at this; exact this⟩); have P1 := Lib.hid (Q1d.out.below hbf); have P2 := Lib.hid (Q2d.out.below hbf); have h5 := Lib.hid ho5.len; clear hbf ho5 ho6)
                | fail)
            all_goals
              clear PW c12 HFd HBd Q1d Q2d
              by_cases h3 : n5 = 3
              · have b3 : ((n5 : Int) == 3) = true := by simp; omega
                have hres : Fd.first S = some (a, b) := by
                  rw [← HI.out, HD.out]
                  refine Fd.first_some ?_
                  rw [← HK.out, HDk.out]
                  exact Fd.hit_yes (HGI.out.2 ⟨by omega, by rw [h5.out]; exact h3⟩)
                have AP := Lib.hid (F1.out.apart (show i < j by omega) hj)
                rw [HS1.out, HS2.out] at AP
                have HRS := Lib.hid hres
                have c1 := c34.out.1
                have c2 := c34.out.2
                clear hres h3 c34
                go_wp2_with fail
                go_quiet (fail)
                go_wp2_with fail
                go_ret3
                rw [HRS.out]
                exact ⟨_, _, _, _, _, _, rfl, P1.out.drewN nq, P2.out.drewN nq, AP.out, below_drewN B1.out nq⟩
              · have b3 : ((n5 : Int) == 3) = false := by simp; omega
                have HK2 : Hid (Fd.hit a (S.drop (j + 1)) = Fd.hit a (S.drop (i + 1))) := Lib.hid (by
                  rw [← HK.out, HDk.out]
                  refine (Fd.hit_no ?_).symm
                  cases hgood : Fd.good a b with
                  | false => rfl
                  | true => have := (HGI.out.1 hgood).2; rw [h5.out] at this; exact absurd this h3)
                clear h3
                go_wp2_with fail
                go_roundw
                case rel => exact ⟨j + 1, by omega, by omega, by go_num, F1, B1, HK2⟩
                case measure => simp [intOf]; omega
        · obtain rfl : j = N := by omega
          have hfirst : Fd.first (S.drop (i + 1)) = Fd.first S := by
            rw [← HI.out, HD.out]
            refine (Fd.first_none ?_).symm
            rw [← HK.out, List.drop_of_length_le (by rw [HF.out.len]; omega)]
            rfl
          have HF1 := Lib.hid hfirst
          clear hfirst
          go_wp2_with fail
          go_roundw
          case rel => exact ⟨i + 1, by omega, by go_num, HF, HB, HF1⟩
          case measure => simp [intOf]; omega
    · obtain rfl : i = N := by omega
      have FIN : RetFind w (Fd.first S) (.returned (.tuple #[.slice (some ⟨wr.heap.size, 0, none⟩) 0 0, .slice (some ⟨wr.heap.size + 1, 0, none⟩) 0 0, .bool false])) ((wr.alloc (.cells #[] 3)).alloc (.cells #[] 3)) := by
        rw [← HI.out, List.drop_of_length_le (by rw [HF.out.len]; omega)]
        exact ⟨_, _, _, _, _, _, rfl, ((own_empty wr).alloc _).mono HB.out.size, (own_emptyN rfl (by simp) (by simp)).mono HB.out.size, Or.inr (by simp [blk]), (HB.out.alloc HB.out.size _).alloc (by have := HB.out.size; simp; omega) _⟩
      have FN := Lib.hid FIN
      clear FIN
      go_wp2_with fail
      go_ret3
      exact FN.out
end Go.Proofs.Ytbfpllmoaooadaa
