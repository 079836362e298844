
/- PowerSpread, both packages: the walks. Printed by gen_spread.py. -/
import Derived.Test.YtbfpllmoaooadaaScaled
import Derived.Test.YtbfpllmoaooadaaConcat
namespace Go.Proofs.Ytbfpllmoaooadaa
set_option linter.unusedVariables false
open Go.RowKit
/-- A side with another one, moved, beside it. -/
def spL (xs ys : List Int) (t : Int) : List Int := Srt.up (xs ++ mv ys t)
def sp2 (b : Bool) (l : List Int) : List Int := if b then l else []
theorem spL_len (xs ys : List Int) (t : Int) : (spL xs ys t).length = xs.length + ys.length := by unfold spL; rw [(Srt.up_perm _).length_eq]; simp
set_option maxRecDepth 100000 in
set_option maxHeartbeats 6400000 in
theorem implSpread_in (A : Option Addr) (n c : Nat) (xs : List Int) (A' : Option Addr) (n' c' : Nat) (ys : List Int) (t : Int) (w : World) (ha : Rd w w.heap.size A n xs) (ha' : Rd w w.heap.size A' n' ys) (hp : pIn xs = true) (hp' : pIn ys = true) (t1 : 1 ≤ t) (t2 : t ≤ 50)
    (b b' : Bool) (hb : pIn (spL xs ys t) = b) (hb' : pIn (spL ys xs t) = b') :
    Calls Try.prog 26 #[.slice A n c, .slice A' n' c', .int .i64 t] w (RetOwn2B w (sp2 (b && b') (spL xs ys t)) (sp2 (b && b') (spL ys xs t)) (b && b')) := by
  have hn : n ≤ 8 := by have := ha.len; have := (pIn_true.1 hp).1; omega
  have hn' : n' ≤ 8 := by have := ha'.len; have := (pIn_true.1 hp').1; omega
  have HX := Lib.hid (pIn_true.1 hp).all
  have HY := Lib.hid (pIn_true.1 hp').all
  have HP := Lib.hid hp
  have HP' := Lib.hid hp'
  have HL := Lib.hid ha.len
  have HL' := Lib.hid ha'.len
  have HQ := Lib.hid hb
  have HQ' := Lib.hid hb'
  have RA := Lib.hid ha
  have RB := Lib.hid ha'
  have BB := Lib.hid (Below.refl w.heap.size w)
  have d1 : decide (t < 1) = false := decide_eq_false (by omega)
  have d2 : decide (50 < t) = false := decide_eq_false (by omega)
  clear ha ha' hp hp' hb hb' 
  cases b
  all_goals cases b'
  all_goals
    go_enter Try.func26, Try.ntmps26
    go_wp2_with fail
    have zb := BB.out.size
    refine ((implPowerIn_any _ _ _ _ _ RA.out (by omega) _ HP.out).mono fun _ _ => retB_of_Q).mono ?_
    rintro e w1 ⟨rfl, hb⟩
    have RA_ := Lib.hid (RA.out.below hb).lt; clear RA; have RA := RA_; clear RA_
    have RB_ := Lib.hid (RB.out.below hb).lt; clear RB; have RB := RB_; clear RB_
    have BB_ := Lib.hid (BB.out.trans (hb.mono BB.out.size)); clear BB; have BB := BB_; clear BB_
    clear zb hb
    go_wp2_with fail
    have zb := BB.out.size
    refine ((implPowerIn_any _ _ _ _ _ RB.out (by omega) _ HP'.out).mono fun _ _ => retB_of_Q).mono ?_
    rintro e w2 ⟨rfl, hb⟩
    have RA_ := Lib.hid (RA.out.below hb).lt; clear RA; have RA := RA_; clear RA_
    have RB_ := Lib.hid (RB.out.below hb).lt; clear RB; have RB := RB_; clear RB_
    have BB_ := Lib.hid (BB.out.trans (hb.mono BB.out.size)); clear BB; have BB := BB_; clear BB_
    clear zb hb
    go_wp2_with fail
    have zb := BB.out.size
    refine (implMoved_any _ _ _ _ _ _ RB.out hn' HY.out (by omega) (by omega)).mono ?_
    rintro e w3 ⟨A3, n3, c3, rfl, ho3, hb⟩
    have RA_ := Lib.hid (RA.out.below hb).lt; clear RA; have RA := RA_; clear RA_
    have RB_ := Lib.hid (RB.out.below hb).lt; clear RB; have RB := RB_; clear RB_
    have BB_ := Lib.hid (BB.out.trans (hb.mono BB.out.size)); clear BB; have BB := BB_; clear BB_
    have O3 := Lib.hid (ho3.rd)
    have N3 := Lib.hid (show n3 ≤ 8 by have := ho3.len; rw [mv_len, HL'.out] at this; omega)
    clear zb hb ho3
    have ba := (Below.refl w3.heap.size w3).alloc (Nat.le_refl _) (.cells #[.slice A n c, .slice A3 n3 c3] 22)
    have RA_ := Lib.hid (RA.out.below ba).lt; clear RA; have RA := RA_; clear RA_
    have RB_ := Lib.hid (RB.out.below ba).lt; clear RB; have RB := RB_; clear RB_
    have O3_ := Lib.hid (O3.out.below ba).lt; clear O3; have O3 := O3_; clear O3_
    have BB_ := Lib.hid (BB.out.alloc BB.out.size (.cells #[.slice A n c, .slice A3 n3 c3] 22)); clear BB; have BB := BB_; clear BB_ ba
    go_wp2_with fail
    have zb := BB.out.size
    refine (concat_any _ _ A n c _ A3 n3 c3 _ _ (by simp) (by simp) (by simp) RA.out O3.out (by omega) (by have := N3.out; omega)).mono ?_
    rintro e w4 ⟨A4, n4, c4, rfl, ho4, hb⟩
    have RA_ := Lib.hid (RA.out.below hb).lt; clear RA; have RA := RA_; clear RA_
    have RB_ := Lib.hid (RB.out.below hb).lt; clear RB; have RB := RB_; clear RB_
    have BB_ := Lib.hid (BB.out.trans (hb.mono BB.out.size)); clear BB; have BB := BB_; clear BB_
    have O4 := Lib.hid (ho4.mono zb)
    have U4 := Lib.hid (fun g e => (ho4.lt g e).2)
    have N4 := Lib.hid (show n4 ≤ 16 by have := ho4.len; rw [List.length_append, mv_len, HL.out, HL'.out] at this; omega)
    clear zb hb ho4
    clear O3 N3
    go_wp2_with fail
    have zb := BB.out.size
    refine (implMoved_any _ _ _ _ _ _ RA.out hn HX.out (by omega) (by omega)).mono ?_
    rintro e w5 ⟨A5, n5, c5, rfl, ho5, hb⟩
    have RA_ := Lib.hid (RA.out.below hb).lt; clear RA; have RA := RA_; clear RA_
    have RB_ := Lib.hid (RB.out.below hb).lt; clear RB; have RB := RB_; clear RB_
    have O4_ := Lib.hid (O4.out.below hb); clear O4; have O4 := O4_; clear O4_
    have BB_ := Lib.hid (BB.out.trans (hb.mono BB.out.size)); clear BB; have BB := BB_; clear BB_
    have O5 := Lib.hid (ho5.rd)
    have z5 := Lib.hid (hb.size)
    have N5 := Lib.hid (show n5 ≤ 8 by have := ho5.len; rw [mv_len, HL.out] at this; omega)
    clear zb hb ho5
    have ba := (Below.refl w5.heap.size w5).alloc (Nat.le_refl _) (.cells #[.slice A' n' c', .slice A5 n5 c5] 22)
    have RA_ := Lib.hid (RA.out.below ba).lt; clear RA; have RA := RA_; clear RA_
    have RB_ := Lib.hid (RB.out.below ba).lt; clear RB; have RB := RB_; clear RB_
    have O5_ := Lib.hid (O5.out.below ba).lt; clear O5; have O5 := O5_; clear O5_
    have O4_ := Lib.hid (O4.out.alloc (.cells #[.slice A' n' c', .slice A5 n5 c5] 22)); clear O4; have O4 := O4_; clear O4_
    have BB_ := Lib.hid (BB.out.alloc BB.out.size (.cells #[.slice A' n' c', .slice A5 n5 c5] 22)); clear BB; have BB := BB_; clear BB_ ba
    go_wp2_with fail
    have zb := BB.out.size
    refine (concat_any _ _ A' n' c' _ A5 n5 c5 _ _ (by simp) (by simp) (by simp) RB.out O5.out (by omega) (by have := N5.out; omega)).mono ?_
    rintro e w6 ⟨A6, n6, c6, rfl, ho6, hb⟩
    have RA_ := Lib.hid (RA.out.below hb).lt; clear RA; have RA := RA_; clear RA_
    have RB_ := Lib.hid (RB.out.below hb).lt; clear RB; have RB := RB_; clear RB_
    have O4_ := Lib.hid (O4.out.below hb); clear O4; have O4 := O4_; clear O4_
    have BB_ := Lib.hid (BB.out.trans (hb.mono BB.out.size)); clear BB; have BB := BB_; clear BB_
    have O6 := Lib.hid (ho6.mono zb)
    have AP := Lib.hid (show blk A4 = none ∨ blk A4 ≠ blk A6 from ap_lt (s := w5.heap.size) (fun g e => Nat.lt_of_lt_of_le (U4.out g e) z5.out) (fun g e => by have := (ho6.lt g e).1; simp at this; omega))
    have N6 := Lib.hid (show n6 ≤ 16 by have := ho6.len; rw [List.length_append, mv_len, HL.out, HL'.out] at this; omega)
    clear zb hb ho6
    clear O5 N5 z5 U4
    go_wp2_with fail
    refine (sort_any _ _ _ _ _ _ O4.out (by have := N4.out; omega)).mono ?_
    rintro e w7 ⟨rfl, ho7, hg7⟩
    have O7 := Lib.hid ho7
    have O6' := Lib.hid (O6.out.grown hg7 (ap_symm AP.out))
    have BB_ := Lib.hid (BB.out.grown hg7 BB.out.size (fun g e => (O4.out.lt g e).1))
    clear BB ho7 hg7 O4 O6 RA RB; have BB := BB_; have O6 := O6'; clear BB_ O6'
    go_wp2_with fail
    refine (sort_any _ _ _ _ _ _ O6.out (by have := N6.out; omega)).mono ?_
    rintro e w8 ⟨rfl, ho8, hg8⟩
    have O8 := Lib.hid ho8
    have O7' := Lib.hid (O7.out.grown hg8 AP.out)
    have BB_ := Lib.hid (BB.out.grown hg8 BB.out.size (fun g e => (O6.out.lt g e).1))
    clear BB ho8 hg8 O6 O7; have BB := BB_; have O7 := O7'; clear BB_ O7'
    go_wp2_with fail
    refine ((implPowerIn_any _ _ _ _ _ O7.out.rd (by have := N4.out; omega) _ HQ.out).mono fun _ _ => retB_of_Q).mono ?_
    rintro e w9 ⟨rfl, hb⟩
    have O7' := Lib.hid (O7.out.below hb)
    have O8' := Lib.hid (O8.out.below hb)
    have BB_ := Lib.hid (BB.out.trans (hb.mono BB.out.size))
    clear BB hb O7 O8; have BB := BB_; have O7 := O7'; have O8 := O8'; clear BB_ O7' O8'
    go_wp2_with fail
  · go_ret3
    exact ⟨_, _, _, _, _, _, rfl, ((own_empty w9).alloc _).mono BB.out.size, (own_emptyN rfl (by simp) (by simp)).mono BB.out.size, Or.inr (by simp [blk]), (BB.out.alloc BB.out.size _).alloc (by have := BB.out.size; simp; omega) _⟩
  · go_ret3
    exact ⟨_, _, _, _, _, _, rfl, ((own_empty w9).alloc _).mono BB.out.size, (own_emptyN rfl (by simp) (by simp)).mono BB.out.size, Or.inr (by simp [blk]), (BB.out.alloc BB.out.size _).alloc (by have := BB.out.size; simp; omega) _⟩
  · refine ((implPowerIn_any _ _ _ _ _ O8.out.rd (by have := N6.out; omega) _ HQ'.out).mono fun _ _ => retB_of_Q).mono ?_
    rintro e w10 ⟨rfl, hb⟩
    have O7' := Lib.hid (O7.out.below hb)
    have O8' := Lib.hid (O8.out.below hb)
    have BB_ := Lib.hid (BB.out.trans (hb.mono BB.out.size))
    clear BB hb O7 O8; have BB := BB_; have O7 := O7'; have O8 := O8'; clear BB_ O7' O8'
    go_wp2_with fail
    go_ret3
    exact ⟨_, _, _, _, _, _, rfl, ((own_empty w10).alloc _).mono BB.out.size, (own_emptyN rfl (by simp) (by simp)).mono BB.out.size, Or.inr (by simp [blk]), (BB.out.alloc BB.out.size _).alloc (by have := BB.out.size; simp; omega) _⟩
  · refine ((implPowerIn_any _ _ _ _ _ O8.out.rd (by have := N6.out; omega) _ HQ'.out).mono fun _ _ => retB_of_Q).mono ?_
    rintro e w10 ⟨rfl, hb⟩
    have O7' := Lib.hid (O7.out.below hb)
    have O8' := Lib.hid (O8.out.below hb)
    have BB_ := Lib.hid (BB.out.trans (hb.mono BB.out.size))
    clear BB hb O7 O8; have BB := BB_; have O7 := O7'; have O8 := O8'; clear BB_ O7' O8'
    go_wp2_with fail
    go_ret3
    exact ⟨_, _, _, _, _, _, rfl, O7.out, O8.out, AP.out, BB.out⟩
end Go.Proofs.Ytbfpllmoaooadaa
