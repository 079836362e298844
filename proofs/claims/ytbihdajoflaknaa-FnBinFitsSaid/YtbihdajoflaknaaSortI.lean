
/- slices.SortStableFunc by falling, of at most 20 ints: the walk. -/
import Derived.Test.YtbihdajoflaknaaSum
import Derived.Test.YtbihdajoflaknaaSortL
import Derived.Deep.QuietTactic
import Derived.BigQuiet
import Derived.BigRegion
namespace Go.Proofs.Ytbihdajoflaknaa
set_option linter.unusedVariables false
open Go.RowKit
theorem isNaN_any (x : Int) (w : World) : Calls Try.prog 39 #[.int .i64 x] w (RetV w (.bool false)) := by
  go_enter Try.func39, Try.ntmps39
  go_wp2_with fail
  go_ret
  exact ⟨rfl, rfl⟩
/-- What cmp.Compare answers. -/
def cmpv (x y : Int) : Int := if x < y then -1 else if y < x then 1 else 0
theorem compare_any (x y : Int) (w : World) : Calls Try.prog 33 #[.int .i64 x, .int .i64 y] w (RetV w (.int .i64 (cmpv x y))) := by
  have hc : cmpv x y = if x < y then -1 else if y < x then 1 else 0 := rfl
  by_cases h1 : x < y
  · rw [if_pos h1] at hc
    have HC := Lib.hid hc
    clear hc
    go_enter Try.func33, Try.ntmps33
    go_wp2_with (go_at_call 39; refine (isNaN_any _ _).mono ?_; rintro e w' ⟨rfl, rfl⟩)
    go_ret
    exact ⟨ret_int HC.out.symm, rfl⟩
  · rw [if_neg h1] at hc
    by_cases h2 : y < x
    · rw [if_pos h2] at hc
      have HC := Lib.hid hc
      clear hc
      go_enter Try.func33, Try.ntmps33
      go_wp2_with (go_at_call 39; refine (isNaN_any _ _).mono ?_; rintro e w' ⟨rfl, rfl⟩)
      go_ret
      exact ⟨ret_int HC.out.symm, rfl⟩
    · rw [if_neg h2] at hc
      have HC := Lib.hid hc
      clear hc
      go_enter Try.func33, Try.ntmps33
      go_wp2_with (go_at_call 39; refine (isNaN_any _ _).mono ?_; rintro e w' ⟨rfl, rfl⟩)
      go_ret
      exact ⟨ret_int HC.out.symm, rfl⟩
theorem falling_any (x y : Int) (w : World) : Calls Try.prog 21 #[.int .i64 x, .int .i64 y] w (RetV w (.int .i64 (cmpv y x))) := by
  go_enter Try.func21, Try.ntmps21
  go_wp2_with (go_at_call 33; refine (compare_any _ _ _).mono ?_; rintro e w' ⟨rfl, rfl⟩)
  go_ret
  exact ⟨rfl, rfl⟩
theorem falling_q (x y v : Int) (hv : cmpv y x = v) (w : World) (n : Nat) : Calls Try.prog 21 #[.int .i64 x, .int .i64 y] (w.drewN n) (fun e w' => e = .returned (.int .i64 v) ∧ w' = w.drewN n) := by
  subst hv
  exact (falling_any x y _).mono fun e w' ⟨h1, h2⟩ => ⟨h1, h2.symm⟩
theorem grown_drewq {a w : World} {row : Option Nat} (h : a.grownBy w row) (k : Nat) : a.grownBy (w.drewN k) row := ⟨h.os, h.tape, h.output, h.size, h.block⟩
set_option maxRecDepth 100000 in
set_option maxHeartbeats 1600000 in
theorem insertion_any (base G b c : Nat) (xs : List Int) (w : World) (ho : Own w base (some ⟨G, 0, none⟩) b c xs) (hn : b ≤ 1000) :
    Calls Try.prog 43 #[.slice (some ⟨G, 0, none⟩) b c, .int .i64 0, .int .i64 b, .func (.func 21) #[] #[]] w
      fun e w' => e = .returned (.tuple #[]) ∧ ∃ S, S.Perm xs ∧ Srt.Des S b ∧ Own w' base (some ⟨G, 0, none⟩) b c S ∧ w.grownBy w' (some G) := by
  have hl := ho.len
  have HO0 := Lib.hid ho
  have HG0 := Lib.hid (World.grownBy.refl w (some G))
  have HL := Lib.hid hl
  clear ho hl
  go_enter Try.func43, Try.ntmps43
  go_wp2_with fail
  go_loopw [8] (fun i wr => ∃ (k : Nat) (S : List Int), 1 ≤ k ∧ k ≤ b + 1 ∧ i = .int .i64 k ∧ Hid (S.Perm xs) ∧ Hid (Srt.Des S k) ∧ Hid (Own wr base (some ⟨G, 0, none⟩) b c S) ∧ Hid (w.grownBy wr (some G))) (fun i _ => b + 1 - (intOf i).toNat)
  case atStart => exact ⟨1, xs, by omega, by omega, rfl, Lib.hid (List.Perm.refl _), Lib.hid (fun p q h1 h2 => by omega), HO0, HG0⟩
  case round =>
    obtain ⟨k, S, hk1, hk, rfl, HP, HD, HO, HG⟩ := hrel
    by_cases hlt : k < b
    · have hltz : (k : Int) < (b : Int) := by omega
      go_wp2_with fail
      go_loopw [9] (fun jv wq => ∃ (j : Nat) (T : List Int), j ≤ k ∧ jv = .int .i64 j ∧ Hid (T.Perm xs) ∧ Hid (Srt.Ins T k j) ∧ Hid (Own wq base (some ⟨G, 0, none⟩) b c T) ∧ Hid (w.grownBy wq (some G))) (fun jv _ => (intOf jv).toNat)
      case atStart => exact ⟨k, S, by omega, rfl, HP, Lib.hid HD.out.start, HO, HG⟩
      case round =>
        obtain ⟨j, T, hj, rfl, HTP, HTI, HTO, HTG⟩ := hrel
        clear HP HD HO HG
        rcases Nat.eq_zero_or_pos j with h0 | h0
        · subst h0
          have hd0 : decide ((0 : Int) > (0 : Int)) = false := by decide
          go_wp2_with fail
          go_quiet (fail)
          go_wp2_with fail
          have hq := grown_drewq HTG.out nq
          go_roundw
          case rel => exact ⟨k + 1, T, by omega, by omega, by go_num, HTP, Lib.hid (HTI.out.stop (by omega) (Or.inl rfl)), Lib.hid (HTO.out.drewN nq), Lib.hid hq⟩
          case measure => simp [intOf]; omega
        · obtain ⟨jp, rfl⟩ : ∃ jp, j = jp + 1 := ⟨j - 1, by omega⟩
          have hLT : T.length = b := by rw [HTP.out.length_eq]; exact HL.out
          have c1 := HTO.out.cell (j := jp + 1) (by omega)
          have c2 := HTO.out.cell (j := jp) (by omega)
          obtain ⟨x, hx⟩ : ∃ x, T.getD (jp + 1) 0 = x := ⟨_, rfl⟩
          obtain ⟨y, hy⟩ : ∃ y, T.getD jp 0 = y := ⟨_, rfl⟩
          rw [hx] at c1
          rw [hy] at c2
          have HX := Lib.hid hx
          have HY := Lib.hid hy
          have HLT := Lib.hid hLT
          clear hx hy hLT
          have jz : (jp : Int) + 1 < (b : Int) := by omega
          have jz1 : (jp : Int) < (b : Int) := by omega
          have jg : (0 : Int) < (jp : Int) + 1 := by omega
          have p0 : (0 : Int) ≤ (jp : Int) + 1 := by omega
          have e0 : ((jp : Int) + 1).toNat = jp + 1 := by omega
          have hwp : IntKind.i64.wrap (jp : Int) = (jp : Int) := IntWalk.i64_in _ (by omega)
          by_cases hyx : y < x
          · obtain ⟨v, hv⟩ : ∃ v, cmpv y x = v := ⟨_, rfl⟩
            have hv0 : v < 0 := by rw [← hv]; unfold cmpv; rw [if_pos hyx]; omega
            have HV := Lib.hid hv
            clear hv
            go_wp2_with fail
            go_quiet ((go_at_call 21; refine Calls.quiet_of_same (falling_q _ _ _ HV.out _ _)))
            go_wp2_with fail
            have HWO := Lib.hid (HTO.out.drewN nq)
            have HWG := Lib.hid (grown_drewq HTG.out nq)
            have c1' := HWO.out.cell (j := jp + 1) (by omega)
            have c2' := HWO.out.cell (j := jp) (by omega)
            have f1' := HWO.out.free (jp + 1)
            have f2' := HWO.out.free jp
            rw [HX.out] at c1'
            rw [HY.out] at c2'
            clear c1 c2 HTO HTG
            generalize wr.drewN nq = wm at HWO HWG c1' c2' f1' f2' ⊢
            obtain ⟨j1, hj1⟩ : ∃ j1, j1 = jp + 1 := ⟨_, rfl⟩
            rw [← hj1] at c1' f1' e0
            have J1 := Lib.hid hj1
            clear hj1
            go_big_region
            all_goals go_wp2_with fail
            have s1 := HWO.out.set_ j1 y
            have s2 := s1.1.set_ jp x
            have hg := grown_drew (grownBy_trans HWG.out (grownBy_trans s1.2 s2.2))
            rw [J1.out] at s2
            refine ⟨⟨jp, (T.set (jp + 1) y).set jp x, by omega, rfl, ?_, ?_, ?_, Lib.hid hg⟩, by simp [intOf]⟩
            · have := (Srt.swap_perm (S := T) (j := jp) (by rw [HLT.out]; omega)).trans HTP.out
              rw [HX.out, HY.out] at this
              exact Lib.hid this
            · have := HTI.out.step (by omega) (by rw [HLT.out]; omega) (by rw [HX.out, HY.out]; exact hyx)
              rw [HX.out, HY.out] at this
              exact Lib.hid this
            · rw [J1.out]; exact Lib.hid s2.1
          · obtain ⟨v, hv⟩ : ∃ v, cmpv y x = v := ⟨_, rfl⟩
            have hv0 : ¬ v < 0 := by rw [← hv]; unfold cmpv; rw [if_neg hyx]; split <;> omega
            have dv : decide (v < 0) = false := decide_eq_false hv0
            have HV := Lib.hid hv
            clear hv
            go_wp2_with fail
            go_quiet ((go_at_call 21; refine Calls.quiet_of_same (falling_q _ _ _ HV.out _ _)))
            go_wp2_with fail
            have hq := grown_drewq HTG.out nq
            go_roundw
            case rel => exact ⟨k + 1, T, by omega, by omega, by go_num, HTP, Lib.hid (HTI.out.stop (by omega) (Or.inr (by rw [Nat.add_sub_cancel, HX.out, HY.out]; omega))), Lib.hid (HTO.out.drewN nq), Lib.hid hq⟩
            case measure => simp [intOf]; omega
    · have hltz : ¬ (k : Int) < (b : Int) := by omega
      go_wp2_with fail
      have : k = b ∨ k = b + 1 := by omega
      have hd : Srt.Des S b := fun p q h1 h2 => HD.out p q h1 (by omega)
      go_end0
      exact ⟨rfl, S, HP.out, hd, HO.out, HG.out⟩
end Go.Proofs.Ytbihdajoflaknaa
