
/- PowerFind of impl: the walk. Printed by gen_find.py. -/
import Derived.Test.YtbfpllmoaooadaaFindM
import Derived.Test.YtbfpllmoaooadaaPowDegJ
import Derived.Deep.RegionHeld3
import Derived.Deep.RegionWith
namespace Go.Proofs.Ytbfpllmoaooadaa
set_option linter.unusedVariables false
open Go.RowKit
theorem cells7 {w' : World} {Bx : Nat} {f : Nat → Int} (hf : Arr w' Bx f) : w'.cell? ⟨Bx, 0, none⟩ = some (.int .i64 (f 0)) ∧ w'.cell? ⟨Bx, 1, none⟩ = some (.int .i64 (f 1)) ∧ w'.cell? ⟨Bx, 2, none⟩ = some (.int .i64 (f 2)) ∧ w'.cell? ⟨Bx, 3, none⟩ = some (.int .i64 (f 3)) ∧ w'.cell? ⟨Bx, 4, none⟩ = some (.int .i64 (f 4)) ∧ w'.cell? ⟨Bx, 5, none⟩ = some (.int .i64 (f 5)) ∧ w'.cell? ⟨Bx, 6, none⟩ = some (.int .i64 (f 6)) :=
  ⟨(hf 0 (by omega)).1, (hf 1 (by omega)).1, (hf 2 (by omega)).1, (hf 3 (by omega)).1, (hf 4 (by omega)).1, (hf 5 (by omega)).1, (hf 6 (by omega)).1⟩
set_option maxHeartbeats 800000 in
theorem implFind_no (a : Int) (h : ¬ (1 ≤ a ∧ a ≤ 12)) (w : World) : Calls Try.prog 47 #[.int .i64 a] w (RetOwn2B w [] [] false) := by
  have HN := Lib.hid h
  have FIN := Lib.hid (show RetOwn2B w [] [] false (.returned (.tuple #[.slice (some ⟨w.heap.size, 0, none⟩) 0 0, .slice (some ⟨w.heap.size + 1, 0, none⟩) 0 0, .bool false])) ((w.alloc (.cells #[] 3)).alloc (.cells #[] 3)) from
    ⟨_, _, _, _, _, _, rfl, (own_empty w).alloc _, own_emptyN rfl (by simp) (by simp), Or.inr (by simp [blk]), ((Below.refl _ _).alloc (Nat.le_refl _) _).alloc (by simp) _⟩)
  by_cases h1 : a < 1
  · have d1 : decide (a < 1) = true := decide_eq_true h1
    clear h
    go_enter Try.func47, Try.ntmps47
    go_wp2_with fail
    go_ret3
    exact FIN.out
  · have d1 : decide (a < 1) = false := decide_eq_false h1
    have d2 : decide (12 < a) = true := decide_eq_true (by omega)
    clear h
    go_enter Try.func47, Try.ntmps47
    go_wp2_with fail
    go_ret3
    exact FIN.out
set_option maxRecDepth 100000 in
set_option maxHeartbeats 6400000 in
theorem implFind_yes (n : Nat) (h1 : 1 ≤ n) (hn : n ≤ 12) (w : World) : Calls Try.prog 47 #[.int .i64 n] w (RetFind w (Fd.first (Fd.threes n))) := by
  have hgd := fun (x y : Operand) (xs ys : Array Value) (wx : World) => run_eqGuard_agg (P := Try.prog) wx .eql 56 x y xs ys (by kernel_rfl)
  have d1 : decide ((n : Int) < 1) = false := decide_eq_false (by omega)
  have d2 : decide (12 < (n : Int)) = false := decide_eq_false (by omega)
  have HFT := Lib.hid (fun r (hr : r ∈ Fd.threes n) => three_facts hn hr)
  have TH := Lib.hid (fun W => implThrees_any n hn W)
  obtain ⟨S, hS⟩ : ∃ S, Fd.threes n = S := ⟨_, rfl⟩
  rw [hS] at HFT TH ⊢
  clear hS
  go_enter Try.func47, Try.ntmps47
  go_wp2_with fail
  refine (TH.out _).mono ?_
  rintro e w1 ⟨A, N, C, rfl, ⟨fs, hf⟩, hb⟩
  have HF := Lib.hid hf
  have HB := Lib.hid hb
  have hNC := hf.cap
  have hC63 : C ≤ 9223372036854775807 := by have := hNC.2; unfold maxLen at this; omega
  have hNC1 := hNC.1
  clear hf hb hNC
  go_wp2_with fail
  go_loopw [23] (fun iv wr => ∃ i : Nat, i ≤ N ∧ iv = .int .i64 i ∧ Hid (OwnF wr w.heap.size A N C fs S) ∧ Hid (Below w.heap.size w wr) ∧ Hid (Fd.first (S.drop i) = Fd.first S)) (fun iv _ => N - (intOf iv).toNat)
  case atStart => exact ⟨0, by omega, by go_num, HF, HB, Lib.hid (by rw [List.drop_zero])⟩
  case round =>
    obtain ⟨i, hiN, rfl, HF, HB, HI⟩ := hrel
    by_cases hlt : i < N
    · have hltz : (i : Int) < (N : Int) := by omega
      obtain ⟨g, rfl, hg1, hg2⟩ := HF.out.form (by omega)
      have c1 := HF.out.cell hlt
      have r1 := HF.out.row hlt
      have hmem : S.getD i [] ∈ S := by
        have : i < S.length := by rw [HF.out.len]; exact hlt
        simp [List.getD, this]
      obtain ⟨fl, fb, fp, fs1⟩ := HFT.out _ hmem
      have HD := Lib.hid (Fd.drop_getD (S := S) (i := i) (by rw [HF.out.len]; exact hlt))
      obtain ⟨⟨A1, n1, k1⟩, hs1⟩ : ∃ s, fs.getD i slNil = s := ⟨_, rfl⟩
      have HS1 := Lib.hid hs1
      rw [hs1] at c1 r1
      obtain ⟨a, ha⟩ : ∃ a, S.getD i [] = a := ⟨_, rfl⟩
      rw [ha] at r1 fl fb fp fs1 HD
      have HAA := Lib.hid ha
      simp only at c1 r1
      have hn1 : n1 ≤ 3 := by have := r1.len; omega
      have R1 := Lib.hid r1
      have FB := Lib.hid fb
      have FL := Lib.hid fl
      have i0 : (0 : Int) ≤ (i : Int) := by omega
      have i2 : ((i : Int)).toNat = i := by omega
      clear hs1 ha hmem r1 fl fb fp fs1
      have PW : Hid (∀ W : World, Rd W W.heap.size A1 n1 a → Calls Try.prog 62 #[.slice A1 n1 k1] W (fun e w' => e = .returned (.agg #[.int .i64 (Nw.ps 0 a), .int .i64 (Nw.ps 1 a), .int .i64 (Nw.ps 2 a), .int .i64 (Nw.ps 3 a), .int .i64 (Nw.ps 4 a), .int .i64 (Nw.ps 5 a), .int .i64 (Nw.ps 6 a)]) ∧ Below W.heap.size W w')) := Lib.hid (fun W hr => powersOf_any A1 n1 k1 a W hr (by omega) FB.out)
      go_wp2_with fail
      refine (PW.out wr R1.out.rd).mono ?_
      rintro e w2 ⟨rfl, hb2⟩
      obtain ⟨f, hf⟩ : ∃ f : Nat → Int, f = fun j => Nw.ps j a := ⟨_, rfl⟩
      have ef : ∀ j, Nw.ps j a = f j := fun j => by rw [hf]
      rw [ef 0, ef 1, ef 2, ef 3, ef 4, ef 5, ef 6]
      have HFF := Lib.hid hf
      have HF2 := Lib.hid (HF.out.below hb2)
      have HB2 := Lib.hid (HB.out.trans (hb2.mono HB.out.size))
      have HX := Lib.hid (arr_new w2 f 56)
      have HF3 := Lib.hid (HF2.out.below ((Below.refl w2.heap.size w2).alloc (Nat.le_refl _) (.cells #[.int .i64 (f 0), .int .i64 (f 1), .int .i64 (f 2), .int .i64 (f 3), .int .i64 (f 4), .int .i64 (f 5), .int .i64 (f 6)] 56)))
      have HB3 := Lib.hid (HB2.out.alloc HB2.out.size (.cells #[.int .i64 (f 0), .int .i64 (f 1), .int .i64 (f 2), .int .i64 (f 3), .int .i64 (f 4), .int .i64 (f 5), .int .i64 (f 6)] 56))
      have z2 : w.heap.size ≤ w2.heap.size := HB2.out.size
      obtain ⟨Bx, hBx⟩ : ∃ Bx, w2.heap.size = Bx := ⟨_, rfl⟩
      have hz2 : Bx < (w2.alloc (.cells #[.int .i64 (f 0), .int .i64 (f 1), .int .i64 (f 2), .int .i64 (f 3), .int .i64 (f 4), .int .i64 (f 5), .int .i64 (f 6)] 56)).heap.size := by rw [← hBx]; simp
      have e1 : ((i + 1 : Nat) : Int) = (i : Int) + 1 := by omega
      have hsl := fun W => run_sliceFromR W (some ⟨g, 0, none⟩) N C (i + 1) hlt
      rw [e1] at hsl
      have HXB : Hid (Arr (w2.alloc (.cells #[.int .i64 (f 0), .int .i64 (f 1), .int .i64 (f 2), .int .i64 (f 3), .int .i64 (f 4), .int .i64 (f 5), .int .i64 (f 6)] 56)) Bx f) := Lib.hid (by rw [← hBx]; exact HX.out)
      have hwi : IntKind.i64.wrap ((i : Int) + 1) = (i : Int) + 1 := IntWalk.i64_in _ (by omega)
      clear hf ef hb2 HF HB c1 e1 HX PW HF2 HB2
      by_cases hNN : i + 1 < N
      · have hD : dropA (some ⟨g, 0, none⟩) C (i + 1) = some ⟨g, i + 1, none⟩ := by unfold dropA; rw [if_neg (by omega)]; simp [Addr.add_lit]
        rw [hD] at hsl
        clear hD
        go_wp2_with fail
        rw [hBx] at z2
        clear hsl hBx
        generalize w2.alloc (.cells #[.int .i64 (f 0), .int .i64 (f 1), .int .i64 (f 2), .int .i64 (f 3), .int .i64 (f 4), .int .i64 (f 5), .int .i64 (f 6)] 56) = w3 at HF3 HB3 hz2 HXB ⊢
        obtain ⟨M, hM⟩ : ∃ M, N - (i + 1) = M := ⟨_, rfl⟩
        rw [hM]
        have hM1 : M ≤ N - (i + 1) := by omega
        have hM2 : N - (i + 1) ≤ M := by omega
        clear hM
        go_loopw [35] (fun kv wr => ∃ k : Nat, k ≤ M ∧ kv = .int .i64 k ∧ Hid (OwnF wr w.heap.size (some ⟨g, 0, none⟩) N C fs S) ∧ Hid (Below w.heap.size w wr) ∧ Hid (Arr wr Bx f) ∧ Bx < wr.heap.size ∧ Hid (Fd.hit a (S.drop (i + 1 + k)) = Fd.hit a (S.drop (i + 1)))) (fun kv _ => M - (intOf kv).toNat)
        case atStart => exact ⟨0, by omega, by go_num, HF3, HB3, HXB, hz2, Lib.hid (by rw [Nat.add_zero])⟩
        case round =>
          obtain ⟨k, hkM, rfl, HF, HB, HX, hzx, HK⟩ := hrel
          clear HF3 HB3 HXB hz2
          by_cases hkl : k < M
          · have hklz : (k : Int) < (M : Int) := by omega
            have hj : i + 1 + k < N := by omega
            have c2 := HF.out.cell hj
            have r2 := HF.out.row hj
            have hmem : S.getD (i + 1 + k) [] ∈ S := by
              have : i + 1 + k < S.length := by rw [HF.out.len]; exact hj
              simp [List.getD, this]
            obtain ⟨fl, fb, fp, fs2⟩ := HFT.out _ hmem
            have HDk := Lib.hid (Fd.drop_getD (S := S) (i := i + 1 + k) (by rw [HF.out.len]; exact hj))
            obtain ⟨⟨A2, n2, k2⟩, hs2⟩ : ∃ s, fs.getD (i + 1 + k) slNil = s := ⟨_, rfl⟩
            have HS2 := Lib.hid hs2
            rw [hs2] at c2 r2
            obtain ⟨b, hb⟩ : ∃ b, S.getD (i + 1 + k) [] = b := ⟨_, rfl⟩
            rw [hb] at r2 fl fb fp fs2 HDk
            have HBB := Lib.hid hb
            simp only at c2 r2
            have hn2 : n2 ≤ 3 := by have := r2.len; omega
            have hn20 : 0 < n2 := by have := r2.len; omega
            have R2 := Lib.hid r2
            have FB2 := Lib.hid fb
            obtain ⟨d, hd⟩ := isDeg_ex (fun j => Nw.ps j a) (fun j => Nw.ps j b)
            have hgi := good_iff FL.out fl hd
            obtain ⟨v, hv⟩ : ∃ v, (a.any fun x => b.contains x) = v := ⟨_, rfl⟩
            rw [hv] at hgi
            have HGI := Lib.hid hgi
            obtain ⟨q, hq⟩ : ∃ q : Nat → Int, q = fun j => Nw.ps j b := ⟨_, rfl⟩
            have PW : Hid (∀ W : World, Rd W W.heap.size A2 n2 b → Calls Try.prog 62 #[.slice A2 n2 k2] W (fun e w' => e = .returned (.agg #[.int .i64 (q 0), .int .i64 (q 1), .int .i64 (q 2), .int .i64 (q 3), .int .i64 (q 4), .int .i64 (q 5), .int .i64 (q 6)]) ∧ Below W.heap.size W w')) := Lib.hid (fun W hr => by rw [hq]; exact powersOf_any A2 n2 k2 b W hr (by omega) FB2.out)
            have DW : Hid (∀ W : World, Calls Try.prog 65 #[.agg #[.int .i64 (f 0), .int .i64 (f 1), .int .i64 (f 2), .int .i64 (f 3), .int .i64 (f 4), .int .i64 (f 5), .int .i64 (f 6)], .agg #[.int .i64 (q 0), .int .i64 (q 1), .int .i64 (q 2), .int .i64 (q 3), .int .i64 (q 4), .int .i64 (q 5), .int .i64 (q 6)]] W (RetI W d)) := Lib.hid (fun W => by rw [HFF.out, hq]; exact degree_any (fun j => Nw.ps j a) (fun j => Nw.ps j b) W d hd)
            have MW : Hid (∀ W : World, Rd W W.heap.size A1 n1 a → Rd W W.heap.size A2 n2 b → Calls Try.prog 73 #[.slice A1 n1 k1, .slice A2 n2 k2] W (RetV W (.bool v))) := Lib.hid (fun W ra rb => meet_any A1 n1 k1 a A2 n2 k2 b W ra rb (by omega) hn20 (by omega) v hv)
            have R1w : Hid (Own wr w.heap.size A1 n1 k1 a) := Lib.hid (by have := HF.out.row (show i < N by omega); rw [HS1.out, HAA.out] at this; exact this)
            have k0 : (0 : Int) ≤ (k : Int) := by omega
            have kt : ((k : Int)).toNat = k := by omega
            clear hs2 hb hmem r2 fl fb fp fs2 hd hgi hv hq
            go_wp2_with fail
            by_cases hd2 : 2 ≤ d
            · have dd : decide (d ≥ 2) = true := decide_eq_true hd2
              cases v with
              | true =>
                have RBd : Hid (Rd wr.drew wr.drew.heap.size A2 n2 b) := Lib.hid R2.out.rd
                have Xd : Hid (Arr wr.drew Bx f) := Lib.hid HX.out
                have Fd_ : Hid (OwnF wr.drew w.heap.size (some ⟨g, 0, none⟩) N C fs S) := Lib.hid HF.out
                have Bd : Hid (Below w.heap.size w wr.drew) := Lib.hid (below_drewN HB.out 1)
                have R1d : Hid (Own wr.drew w.heap.size A1 n1 k1 a) := Lib.hid R1w.out
                have R2d : Hid (Own wr.drew w.heap.size A2 n2 k2 b) := Lib.hid R2.out
                have hzd : Bx < wr.drew.heap.size := hzx
                have S0 := Lib.hid (cells7 Xd.out)
                clear c2 R1 R2
                first
                  | go_region_held3 (fun w' => w'.cell? ⟨Bx, 0, none⟩ = some (.int .i64 (f 0)) ∧ w'.cell? ⟨Bx, 1, none⟩ = some (.int .i64 (f 1)) ∧ w'.cell? ⟨Bx, 2, none⟩ = some (.int .i64 (f 2)) ∧ w'.cell? ⟨Bx, 3, none⟩ = some (.int .i64 (f 3)) ∧ w'.cell? ⟨Bx, 4, none⟩ = some (.int .i64 (f 4)) ∧ w'.cell? ⟨Bx, 5, none⟩ = some (.int .i64 (f 5)) ∧ w'.cell? ⟨Bx, 6, none⟩ = some (.int .i64 (f 6)))
                      (first | exact S0.out | exact S1.out | exact S2.out | fail)
                      (first
                        | (go_at_call 62; (with_reducible refine (PW.out wr.drew RBd.out).mono ?_); rintro e wf ⟨rfl, hbf⟩; have X1 := Lib.hid (arr_below Xd.out hbf hzd); have S1 := Lib.hid (cells7 X1.out); have F1 := Lib.hid (Fd_.out.below hbf); have B1 := Lib.hid (Bd.out.trans (hbf.mono Bd.out.size)); have O1 := Lib.hid (R1d.out.below hbf); have O2 := Lib.hid (R2d.out.below hbf); have z1 : Bx < wf.heap.size := Nat.lt_of_lt_of_le hzd hbf.size; clear hbf)
                        | (go_at_call 65; (with_reducible refine (DW.out wf).mono ?_); rintro e wg ⟨rfl, hbg⟩; have X2 := Lib.hid (arr_below X1.out hbg z1); have S2 := Lib.hid (cells7 X2.out); have F2 := Lib.hid (F1.out.below hbg); have B2 := Lib.hid (B1.out.trans (hbg.mono B1.out.size)); have P1 := Lib.hid (O1.out.below hbg); have P2 := Lib.hid (O2.out.below hbg); have z2 : Bx < wg.heap.size := Nat.lt_of_lt_of_le z1 hbg.size; clear hbg)
                        | (go_at_call 73; (with_reducible refine (MW.out wg P1.out.rd P2.out.rd).mono ?_); rintro e wm ⟨rfl, rfl⟩)
                        | fail)
                  | fail
                all_goals
                  clear PW DW MW S0
                  have HK2 : Hid (Fd.hit a (S.drop (i + 1 + (k + 1))) = Fd.hit a (S.drop (i + 1))) := Lib.hid (by
                    rw [← HK.out, HDk.out]
                    refine (Fd.hit_no ?_).symm
                    cases hgood : Fd.good a b with
                    | false => rfl
                    | true => have := HGI.out.1 hgood; simp at this)
                  go_wp2_with fail
                  go_roundw
                  case rel => exact ⟨k + 1, by omega, by go_num, F2, B2, X2, z2, HK2⟩
                  case measure => simp [intOf]; omega
              | false =>
                have RBd : Hid (Rd wr.drew wr.drew.heap.size A2 n2 b) := Lib.hid R2.out.rd
                have Xd : Hid (Arr wr.drew Bx f) := Lib.hid HX.out
                have Fd_ : Hid (OwnF wr.drew w.heap.size (some ⟨g, 0, none⟩) N C fs S) := Lib.hid HF.out
                have Bd : Hid (Below w.heap.size w wr.drew) := Lib.hid (below_drewN HB.out 1)
                have R1d : Hid (Own wr.drew w.heap.size A1 n1 k1 a) := Lib.hid R1w.out
                have R2d : Hid (Own wr.drew w.heap.size A2 n2 k2 b) := Lib.hid R2.out
                have hzd : Bx < wr.drew.heap.size := hzx
                have S0 := Lib.hid (cells7 Xd.out)
                clear c2 R1 R2
                first
                  | go_region_held3 (fun w' => w'.cell? ⟨Bx, 0, none⟩ = some (.int .i64 (f 0)) ∧ w'.cell? ⟨Bx, 1, none⟩ = some (.int .i64 (f 1)) ∧ w'.cell? ⟨Bx, 2, none⟩ = some (.int .i64 (f 2)) ∧ w'.cell? ⟨Bx, 3, none⟩ = some (.int .i64 (f 3)) ∧ w'.cell? ⟨Bx, 4, none⟩ = some (.int .i64 (f 4)) ∧ w'.cell? ⟨Bx, 5, none⟩ = some (.int .i64 (f 5)) ∧ w'.cell? ⟨Bx, 6, none⟩ = some (.int .i64 (f 6)))
                      (first | exact S0.out | exact S1.out | exact S2.out | fail)
                      (first
                        | (go_at_call 62; (with_reducible refine (PW.out wr.drew RBd.out).mono ?_); rintro e wf ⟨rfl, hbf⟩; have X1 := Lib.hid (arr_below Xd.out hbf hzd); have S1 := Lib.hid (cells7 X1.out); have F1 := Lib.hid (Fd_.out.below hbf); have B1 := Lib.hid (Bd.out.trans (hbf.mono Bd.out.size)); have O1 := Lib.hid (R1d.out.below hbf); have O2 := Lib.hid (R2d.out.below hbf); have z1 : Bx < wf.heap.size := Nat.lt_of_lt_of_le hzd hbf.size; clear hbf)
                        | (go_at_call 65; (with_reducible refine (DW.out wf).mono ?_); rintro e wg ⟨rfl, hbg⟩; have X2 := Lib.hid (arr_below X1.out hbg z1); have S2 := Lib.hid (cells7 X2.out); have F2 := Lib.hid (F1.out.below hbg); have B2 := Lib.hid (B1.out.trans (hbg.mono B1.out.size)); have P1 := Lib.hid (O1.out.below hbg); have P2 := Lib.hid (O2.out.below hbg); have z2 : Bx < wg.heap.size := Nat.lt_of_lt_of_le z1 hbg.size; clear hbg)
                        | (go_at_call 73; (with_reducible refine (MW.out wg P1.out.rd P2.out.rd).mono ?_); rintro e wm ⟨rfl, rfl⟩)
                        | fail)
                  | fail
                all_goals
                  clear PW DW MW S0
                  have hres : Fd.first S = some (a, b) := by
                    rw [← HI.out, HD.out]
                    refine Fd.first_some ?_
                    rw [← HK.out, HDk.out]
                    exact Fd.hit_yes (HGI.out.2 ⟨hd2, by simp⟩)
                  have AP := Lib.hid (F2.out.apart (show i < i + 1 + k by omega) (by omega))
                  rw [HS1.out, HS2.out] at AP
                  have HRS := Lib.hid hres
                  clear hres
                  go_wp2_with fail
                  go_ret3
                  rw [HRS.out]
                  exact ⟨_, _, _, _, _, _, rfl, P1.out, P2.out, AP.out, B2.out⟩
            · have dd : decide (d ≥ 2) = false := decide_eq_false (by omega)
              have dd2 : decide (2 ≤ d) = false := decide_eq_false (by omega)
              have RBd : Hid (Rd wr.drew wr.drew.heap.size A2 n2 b) := Lib.hid R2.out.rd
              have Xd : Hid (Arr wr.drew Bx f) := Lib.hid HX.out
              have Fd_ : Hid (OwnF wr.drew w.heap.size (some ⟨g, 0, none⟩) N C fs S) := Lib.hid HF.out
              have Bd : Hid (Below w.heap.size w wr.drew) := Lib.hid (below_drewN HB.out 1)
              have hzd : Bx < wr.drew.heap.size := hzx
              obtain ⟨p0, p1, p2, p3, p4, p5, p6⟩ := cells7 HX.out
              clear c2 R1 R2
              first
               | go_region_with (first
                | (go_at_call 62; (with_reducible refine (PW.out wr.drew RBd.out).mono ?_); rintro e wf ⟨rfl, hbf⟩; have X1 := Lib.hid (arr_below Xd.out hbf hzd); obtain ⟨q0, q1, q2, q3, q4, q5, q6⟩ := cells7 X1.out; have F1 := Lib.hid (Fd_.out.below hbf); have B1 := Lib.hid (Bd.out.trans (hbf.mono Bd.out.size)); have z1 : Bx < wf.heap.size := Nat.lt_of_lt_of_le hzd hbf.size; clear hbf)
                | (go_at_call 65; (with_reducible refine (DW.out wf).mono ?_); rintro e wg ⟨rfl, hbg⟩; have X2 := Lib.hid (arr_below X1.out hbg z1); have F2 := Lib.hid (F1.out.below hbg); have B2 := Lib.hid (B1.out.trans (hbg.mono B1.out.size)); have z2 : Bx < wg.heap.size := Nat.lt_of_lt_of_le z1 hbg.size; clear hbg q0 q1 q2 q3 q4 q5 q6)
                | fail)
               | fail
              all_goals
                clear PW DW MW p0 p1 p2 p3 p4 p5 p6
                have HK2 : Hid (Fd.hit a (S.drop (i + 1 + (k + 1))) = Fd.hit a (S.drop (i + 1))) := Lib.hid (by
                  rw [← HK.out, HDk.out]
                  refine (Fd.hit_no ?_).symm
                  cases hgood : Fd.good a b with
                  | false => rfl
                  | true => have := HGI.out.1 hgood; omega)
                go_wp2_with fail
                go_roundw
                case rel => exact ⟨k + 1, by omega, by go_num, F2, B2, X2, z2, HK2⟩
                case measure => simp [intOf]; omega
          · obtain rfl : k = M := by omega
            have hfirst : Fd.first (S.drop (i + 1)) = Fd.first S := by
              rw [← HI.out, HD.out]
              refine (Fd.first_none ?_).symm
              rw [← HK.out, List.drop_of_length_le (by rw [HF.out.len]; omega)]
              rfl
            have HF1 := Lib.hid hfirst
            clear hfirst
            go_wp2_with fail
            go_roundw
            case rel => exact ⟨i + 1, by omega, by go_num, HF, HB, HF1⟩
            case measure => simp [intOf]; omega
      · generalize dropA (some ⟨g, 0, none⟩) C (i + 1) = D at hsl
        have hfirst : Fd.first (S.drop (i + 1)) = Fd.first S := by
          rw [← HI.out, HD.out]
          refine (Fd.first_none ?_).symm
          rw [List.drop_of_length_le (by rw [HF3.out.len]; omega)]
          rfl
        have HF1 := Lib.hid hfirst
        have hM0 : ¬ ((0 : Int) < ((N - (i + 1) : Nat) : Int)) := by omega
        clear hfirst HXB
        go_wp2_with fail
        clear hsl hBx
        generalize w2.alloc (.cells #[.int .i64 (f 0), .int .i64 (f 1), .int .i64 (f 2), .int .i64 (f 3), .int .i64 (f 4), .int .i64 (f 5), .int .i64 (f 6)] 56) = w3 at HF3 HB3 hz2 ⊢
        go_loopw [35] (fun kv wr => kv = .int .i64 0 ∧ Hid (OwnF wr w.heap.size (some ⟨g, 0, none⟩) N C fs S) ∧ Hid (Below w.heap.size w wr)) (fun _ _ => 0)
        case atStart => exact ⟨rfl, HF3, HB3⟩
        case round =>
          obtain ⟨rfl, HF, HB⟩ := hrel
          clear HF3 HB3 hz2
          go_wp2_with fail
          go_roundw
          case rel => exact ⟨i + 1, by omega, by go_num, HF, HB, HF1⟩
          case measure => simp [intOf]; omega
    · obtain rfl : i = N := by omega
      have FIN : RetFind w (Fd.first S) (.returned (.tuple #[.slice (some ⟨wr.heap.size, 0, none⟩) 0 0, .slice (some ⟨wr.heap.size + 1, 0, none⟩) 0 0, .bool false])) ((wr.alloc (.cells #[] 3)).alloc (.cells #[] 3)) := by
        rw [← HI.out, List.drop_of_length_le (by rw [HF.out.len]; omega)]
        exact ⟨_, _, _, _, _, _, rfl, ((own_empty wr).alloc _).mono HB.out.size, (own_emptyN rfl (by simp) (by simp)).mono HB.out.size, Or.inr (by simp [blk]), (HB.out.alloc HB.out.size _).alloc (by have := HB.out.size; simp; omega) _⟩
      have FN := Lib.hid FIN
      clear FIN
      go_wp2_with fail
      go_ret3
      exact FN.out
end Go.Proofs.Ytbfpllmoaooadaa
