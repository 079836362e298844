
/- PowerSpread: the refused cases of both packages, and the spec's walk. Printed by gen_spread2.py. -/
import Derived.Test.YtbfpllmoaooadaaSpread
namespace Go.Proofs.Ytbfpllmoaooadaa
set_option linter.unusedVariables false
open Go.RowKit
theorem two_empty {w w' : World} (hb : Below w.heap.size w w') : RetOwn2B w [] [] false (.returned (.tuple #[.slice (some ⟨w'.heap.size, 0, none⟩) 0 0, .slice (some ⟨w'.heap.size + 1, 0, none⟩) 0 0, .bool false])) ((w'.alloc (.cells #[] 3)).alloc (.cells #[] 3)) :=
  ⟨_, _, _, _, _, _, rfl, ((own_empty w').alloc _).mono hb.size, (own_emptyN rfl (by simp) (by simp)).mono hb.size, Or.inr (by simp [blk]), (hb.alloc hb.size _).alloc (by have := hb.size; simp; omega) _⟩
set_option maxHeartbeats 1600000 in
theorem implSpread_no (A : Option Addr) (n c : Nat) (xs : List Int) (A' : Option Addr) (n' c' : Nat) (ys : List Int) (t : Int) (w : World) (ha : Rd w w.heap.size A n xs) (ha' : Rd w w.heap.size A' n' ys) (hn : n ≤ 1000000000) (hn' : n' ≤ 1000000000) (h : ¬ (pIn xs = true ∧ pIn ys = true ∧ 1 ≤ t ∧ t ≤ 50)) :
    Calls Try.prog 26 #[.slice A n c, .slice A' n' c', .int .i64 t] w (RetOwn2B w [] [] false) := by
  have RA := Lib.hid ha
  have RB := Lib.hid ha'
  have BB := Lib.hid (Below.refl w.heap.size w)
  clear ha ha'
  by_cases hp : pIn xs = true
  · have HP := Lib.hid hp
    by_cases hq : pIn ys = true
    · have HQ := Lib.hid hq
      have ht : ¬ (1 ≤ t ∧ t ≤ 50) := fun e => h ⟨hp, hq, e.1, e.2⟩
      clear h hp hq
      by_cases h1 : t < 1
      · have d1 : decide (t < 1) = true := decide_eq_true h1
        clear ht
        go_enter Try.func26, Try.ntmps26
        go_wp2_with fail
        refine ((implPowerIn_any _ _ _ _ _ RA.out hn _ HP.out).mono fun _ _ => retB_of_Q).mono ?_
        rintro e w1 ⟨rfl, hb⟩
        have RA_ := Lib.hid (RA.out.below hb).lt; clear RA; have RA := RA_; clear RA_
        have RB_ := Lib.hid (RB.out.below hb).lt; clear RB; have RB := RB_; clear RB_
        have BB_ := Lib.hid (BB.out.trans (hb.mono BB.out.size)); clear BB; have BB := BB_; clear BB_ hb
        go_wp2_with fail
        refine ((implPowerIn_any _ _ _ _ _ RB.out hn' _ HQ.out).mono fun _ _ => retB_of_Q).mono ?_
        rintro e w2 ⟨rfl, hb⟩
        have RA_ := Lib.hid (RA.out.below hb).lt; clear RA; have RA := RA_; clear RA_
        have RB_ := Lib.hid (RB.out.below hb).lt; clear RB; have RB := RB_; clear RB_
        have BB_ := Lib.hid (BB.out.trans (hb.mono BB.out.size)); clear BB; have BB := BB_; clear BB_ hb
        go_wp2_with fail
        go_ret3
        exact two_empty BB.out
      · have d1 : decide (t < 1) = false := decide_eq_false h1
        have d2 : decide (50 < t) = true := decide_eq_true (by omega)
        clear ht
        go_enter Try.func26, Try.ntmps26
        go_wp2_with fail
        refine ((implPowerIn_any _ _ _ _ _ RA.out hn _ HP.out).mono fun _ _ => retB_of_Q).mono ?_
        rintro e w1 ⟨rfl, hb⟩
        have RA_ := Lib.hid (RA.out.below hb).lt; clear RA; have RA := RA_; clear RA_
        have RB_ := Lib.hid (RB.out.below hb).lt; clear RB; have RB := RB_; clear RB_
        have BB_ := Lib.hid (BB.out.trans (hb.mono BB.out.size)); clear BB; have BB := BB_; clear BB_ hb
        go_wp2_with fail
        refine ((implPowerIn_any _ _ _ _ _ RB.out hn' _ HQ.out).mono fun _ _ => retB_of_Q).mono ?_
        rintro e w2 ⟨rfl, hb⟩
        have RA_ := Lib.hid (RA.out.below hb).lt; clear RA; have RA := RA_; clear RA_
        have RB_ := Lib.hid (RB.out.below hb).lt; clear RB; have RB := RB_; clear RB_
        have BB_ := Lib.hid (BB.out.trans (hb.mono BB.out.size)); clear BB; have BB := BB_; clear BB_ hb
        go_wp2_with fail
        go_ret3
        exact two_empty BB.out
    · have HQ := Lib.hid (not_true hq)
      clear h hp hq
      go_enter Try.func26, Try.ntmps26
      go_wp2_with fail
      refine ((implPowerIn_any _ _ _ _ _ RA.out hn _ HP.out).mono fun _ _ => retB_of_Q).mono ?_
      rintro e w1 ⟨rfl, hb⟩
      have RA_ := Lib.hid (RA.out.below hb).lt; clear RA; have RA := RA_; clear RA_
      have RB_ := Lib.hid (RB.out.below hb).lt; clear RB; have RB := RB_; clear RB_
      have BB_ := Lib.hid (BB.out.trans (hb.mono BB.out.size)); clear BB; have BB := BB_; clear BB_ hb
      go_wp2_with fail
      refine ((implPowerIn_any _ _ _ _ _ RB.out hn' _ HQ.out).mono fun _ _ => retB_of_Q).mono ?_
      rintro e w2 ⟨rfl, hb⟩
      have RA_ := Lib.hid (RA.out.below hb).lt; clear RA; have RA := RA_; clear RA_
      have RB_ := Lib.hid (RB.out.below hb).lt; clear RB; have RB := RB_; clear RB_
      have BB_ := Lib.hid (BB.out.trans (hb.mono BB.out.size)); clear BB; have BB := BB_; clear BB_ hb
      go_wp2_with fail
      go_ret3
      exact two_empty BB.out
  · have HP := Lib.hid (not_true hp)
    clear h hp
    go_enter Try.func26, Try.ntmps26
    go_wp2_with fail
    refine ((implPowerIn_any _ _ _ _ _ RA.out hn _ HP.out).mono fun _ _ => retB_of_Q).mono ?_
    rintro e w1 ⟨rfl, hb⟩
    have RA_ := Lib.hid (RA.out.below hb).lt; clear RA; have RA := RA_; clear RA_
    have RB_ := Lib.hid (RB.out.below hb).lt; clear RB; have RB := RB_; clear RB_
    have BB_ := Lib.hid (BB.out.trans (hb.mono BB.out.size)); clear BB; have BB := BB_; clear BB_ hb
    go_wp2_with fail
    go_ret3
    exact two_empty BB.out
set_option maxHeartbeats 1600000 in
theorem specSpread_no (A : Option Addr) (n c : Nat) (xs : List Int) (A' : Option Addr) (n' c' : Nat) (ys : List Int) (t : Int) (w : World) (ha : Rd w w.heap.size A n xs) (ha' : Rd w w.heap.size A' n' ys) (hn : n ≤ 1000000000) (hn' : n' ≤ 1000000000) (h : ¬ (pIn xs = true ∧ pIn ys = true ∧ 1 ≤ t ∧ t ≤ 50)) :
    Calls Try.prog 25 #[.slice A n c, .slice A' n' c', .int .i64 t] w (RetOwn2B w [] [] false) := by
  have RA := Lib.hid ha
  have RB := Lib.hid ha'
  have BB := Lib.hid (Below.refl w.heap.size w)
  clear ha ha'
  by_cases hp : pIn xs = true
  · have HP := Lib.hid hp
    by_cases hq : pIn ys = true
    · have HQ := Lib.hid hq
      have ht : ¬ (1 ≤ t ∧ t ≤ 50) := fun e => h ⟨hp, hq, e.1, e.2⟩
      clear h hp hq
      have HT := Lib.hid ht
      clear ht
      go_enter Try.func25, Try.ntmps25
      go_wp2_with fail
      refine ((specPowerIn_any _ _ _ _ _ RA.out hn _ HP.out).mono fun _ _ => retB_of_Q).mono ?_
      rintro e w1 ⟨rfl, hb⟩
      have RA_ := Lib.hid (RA.out.below hb).lt; clear RA; have RA := RA_; clear RA_
      have RB_ := Lib.hid (RB.out.below hb).lt; clear RB; have RB := RB_; clear RB_
      have BB_ := Lib.hid (BB.out.trans (hb.mono BB.out.size)); clear BB; have BB := BB_; clear BB_ hb
      go_wp2_with fail
      refine ((specPowerIn_any _ _ _ _ _ RB.out hn' _ HQ.out).mono fun _ _ => retB_of_Q).mono ?_
      rintro e w2 ⟨rfl, hb⟩
      have RA_ := Lib.hid (RA.out.below hb).lt; clear RA; have RA := RA_; clear RA_
      have RB_ := Lib.hid (RB.out.below hb).lt; clear RB; have RB := RB_; clear RB_
      have BB_ := Lib.hid (BB.out.trans (hb.mono BB.out.size)); clear BB; have BB := BB_; clear BB_ hb
      go_wp2_with fail
      refine (l6In_no _ _ _ _ HT.out).mono ?_
      rintro e w3 ⟨rfl, rfl⟩
      go_wp2_with fail
      go_ret3
      exact two_empty BB.out
    · have HQ := Lib.hid (not_true hq)
      clear h hp hq
      go_enter Try.func25, Try.ntmps25
      go_wp2_with fail
      refine ((specPowerIn_any _ _ _ _ _ RA.out hn _ HP.out).mono fun _ _ => retB_of_Q).mono ?_
      rintro e w1 ⟨rfl, hb⟩
      have RA_ := Lib.hid (RA.out.below hb).lt; clear RA; have RA := RA_; clear RA_
      have RB_ := Lib.hid (RB.out.below hb).lt; clear RB; have RB := RB_; clear RB_
      have BB_ := Lib.hid (BB.out.trans (hb.mono BB.out.size)); clear BB; have BB := BB_; clear BB_ hb
      go_wp2_with fail
      refine ((specPowerIn_any _ _ _ _ _ RB.out hn' _ HQ.out).mono fun _ _ => retB_of_Q).mono ?_
      rintro e w2 ⟨rfl, hb⟩
      have RA_ := Lib.hid (RA.out.below hb).lt; clear RA; have RA := RA_; clear RA_
      have RB_ := Lib.hid (RB.out.below hb).lt; clear RB; have RB := RB_; clear RB_
      have BB_ := Lib.hid (BB.out.trans (hb.mono BB.out.size)); clear BB; have BB := BB_; clear BB_ hb
      go_wp2_with fail
      go_ret3
      exact two_empty BB.out
  · have HP := Lib.hid (not_true hp)
    clear h hp
    go_enter Try.func25, Try.ntmps25
    go_wp2_with fail
    refine ((specPowerIn_any _ _ _ _ _ RA.out hn _ HP.out).mono fun _ _ => retB_of_Q).mono ?_
    rintro e w1 ⟨rfl, hb⟩
    have RA_ := Lib.hid (RA.out.below hb).lt; clear RA; have RA := RA_; clear RA_
    have RB_ := Lib.hid (RB.out.below hb).lt; clear RB; have RB := RB_; clear RB_
    have BB_ := Lib.hid (BB.out.trans (hb.mono BB.out.size)); clear BB; have BB := BB_; clear BB_ hb
    go_wp2_with fail
    go_ret3
    exact two_empty BB.out
/-- Two slices of the call's own, and a bool. -/
def RetOwn2N (w : World) (xs ys : List Int) (b : Bool) (e : Ending) (w' : World) : Prop := ∃ A n c A' n' c', e = .returned (.tuple #[.slice A n c, .slice A' n' c', .bool b]) ∧ Own w' w.heap.size A n c xs ∧ Own w' w.heap.size A' n' c' ys ∧ Below w.heap.size w w'
theorem RetOwn2B.n {w : World} {xs ys : List Int} {b : Bool} {e : Ending} {w' : World} (h : RetOwn2B w xs ys b e w') : RetOwn2N w xs ys b e w' := by
  obtain ⟨A, n, c, B, m, d, h1, h2, h3, _, h4⟩ := h
  exact ⟨A, n, c, B, m, d, h1, h2, h3, h4⟩
theorem RetOwn2N.rd {w : World} {xs ys : List Int} {b : Bool} {e : Ending} {w' : World} (h : RetOwn2N w xs ys b e w') : RetRd2B w xs ys b e w' := by
  obtain ⟨A, n, c, B, m, d, h1, h2, h3, h4⟩ := h
  exact ⟨A, n, c, B, m, d, h1, h2.rd, h3.rd, h4⟩
theorem sideOr_len (l : List Int) : (sideOr l).length ≤ l.length := by unfold sideOr; split <;> simp
set_option maxRecDepth 100000 in
set_option maxHeartbeats 6400000 in
theorem specSpread_in (A : Option Addr) (n c : Nat) (xs : List Int) (A' : Option Addr) (n' c' : Nat) (ys : List Int) (t : Int) (w : World) (ha : Rd w w.heap.size A n xs) (ha' : Rd w w.heap.size A' n' ys) (hp : pIn xs = true) (hp' : pIn ys = true) (t1 : 1 ≤ t) (t2 : t ≤ 50)
    (b b' : Bool) (hb : pIn (spL xs ys t) = b) (hb' : pIn (spL ys xs t) = b') :
    Calls Try.prog 25 #[.slice A n c, .slice A' n' c', .int .i64 t] w (RetOwn2N w (sp2 (b && b') (spL xs ys t)) (sp2 (b && b') (spL ys xs t)) (b && b')) := by
  have hn : n ≤ 8 := by have := ha.len; have := (pIn_true.1 hp).1; omega
  have hn' : n' ≤ 8 := by have := ha'.len; have := (pIn_true.1 hp').1; omega
  have HX := Lib.hid (pIn_true.1 hp).all
  have HY := Lib.hid (pIn_true.1 hp').all
  have HP := Lib.hid hp
  have HP' := Lib.hid hp'
  have HL := Lib.hid ha.len
  have HL' := Lib.hid ha'.len
  have RA := Lib.hid ha
  have RB := Lib.hid ha'
  have BB := Lib.hid (Below.refl w.heap.size w)
  have D1 : Hid (∀ (W : World) (A : Option Addr) (n c : Nat), Rd W W.heap.size A n (xs ++ mv ys t) → n ≤ 1000 → Calls Try.prog 56 #[.slice A n c] W (RetOwnB W (sideOr (spL xs ys t)) b)) := Lib.hid (fun W A n c hr hl => by rw [← hb]; exact l6pDone_any A n c _ W hr hl)
  have D2 : Hid (∀ (W : World) (A : Option Addr) (n c : Nat), Rd W W.heap.size A n (ys ++ mv xs t) → n ≤ 1000 → Calls Try.prog 56 #[.slice A n c] W (RetOwnB W (sideOr (spL ys xs t)) b')) := Lib.hid (fun W A n c hr hl => by rw [← hb']; exact l6pDone_any A n c _ W hr hl)
  have S1 : Hid (b = true → sideOr (spL xs ys t) = spL xs ys t) := Lib.hid (fun e => by unfold sideOr; rw [hb, e]; rfl)
  have S2 : Hid (b' = true → sideOr (spL ys xs t) = spL ys xs t) := Lib.hid (fun e => by unfold sideOr; rw [hb', e]; rfl)
  clear ha ha' hp hp' hb hb'
  cases b
  all_goals cases b'
  all_goals
    go_enter Try.func25, Try.ntmps25
    go_wp2_with fail
    refine ((specPowerIn_any _ _ _ _ _ RA.out (by omega) _ HP.out).mono fun _ _ => retB_of_Q).mono ?_
    rintro e w1 ⟨rfl, hb⟩
    have BB_ := Lib.hid hb; clear BB hb; have BB := BB_; clear BB_
    have rb := Lib.hid (RB.out.below BB.out).lt
    go_wp2_with fail
    refine ((specPowerIn_any _ _ _ _ _ rb.out (by omega) _ HP'.out).mono fun _ _ => retB_of_Q).mono ?_
    rintro e w2 ⟨rfl, hb⟩
    have BB_ := Lib.hid (BB.out.trans (hb.mono BB.out.size)); clear BB hb rb; have BB := BB_; clear BB_
    go_wp2_with fail
    refine (l6In_yes _ _ _ _ t1 t2).mono ?_
    rintro e w3 ⟨rfl, rfl⟩
    have zb := BB.out.size
    have rx := Lib.hid ((RA.out.below BB.out).below ((Below.refl w2.heap.size w2).alloc (Nat.le_refl _) (.cells #[] 3) |>.mono zb))
    go_wp2_with (at_builtin; refine wpList_app rfl _ _ _ rfl Try.underlying22 rfl (own_empty w2) rfl rx.out (by omega) (by simp) ?_; intro A4 c4 w4 ho hg hk)
    simp only [Nat.zero_add, List.nil_append] at ho
    have G := Lib.hid (fun g e => (ho.lt g e).1)
    have PP := Lib.hid (ho.mono zb)
    have BB_ := Lib.hid ((BB.out.alloc zb (.cells #[] 3)).grown hg (by simp; omega) (fun g e => by simp [blk] at e; omega)); clear BB; have BB := BB_; clear BB_
    clear rx ho hg hk
    go_wp2_with fail
    have ry := Lib.hid (RB.out.below BB.out).lt
    refine (specMoved_any _ _ _ _ _ _ ry.out (by omega) HY.out (by omega) (by omega)).mono ?_
    rintro e w5 ⟨A5, n5, c5, rfl, ho, hb⟩
    have hN : n5 ≤ 8 := by have := ho.len; rw [mv_len, HL'.out] at this; omega
    have Q := Lib.hid ho.rd
    have BB_ := Lib.hid (BB.out.trans (hb.mono BB.out.size)); clear BB; have BB := BB_; clear BB_
    have PP_ := Lib.hid (PP.out.below hb); clear PP; have PP := PP_; clear PP_
    clear ry ho hb
    have zd := BB.out.size
    go_wp2_with (at_builtin; refine wpList_app rfl _ _ _ rfl Try.underlying22 rfl PP.out rfl Q.out (by omega) zd ?_; intro A6 c6 w6 ho hg hk)
    have O := Lib.hid ho
    have BB_ := Lib.hid (BB.out.grown hg zd (fun g e => (PP.out.lt g e).1)); clear BB; have BB := BB_; clear BB_
    clear PP Q G ho hg hk zb zd
    go_wp2_with fail
    have ze := BB.out.size
    refine (D1.out _ _ _ _ O.out.rd (by omega)).mono ?_
    rintro e w7 ⟨A7, n7, c7, rfl, ho, hb⟩
    have BB_ := Lib.hid (BB.out.trans (hb.mono BB.out.size)); clear BB; have BB := BB_; clear BB_
    have X := Lib.hid (ho.mono ze)
    have UX := Lib.hid (fun g e => (ho.lt g e).2)
    clear O ho hb ze hN
    have zb := BB.out.size
    have rx := Lib.hid ((RB.out.below BB.out).below ((Below.refl w7.heap.size w7).alloc (Nat.le_refl _) (.cells #[] 3) |>.mono zb))
    go_wp2_with (at_builtin; refine wpList_app rfl _ _ _ rfl Try.underlying22 rfl (own_empty w7) rfl rx.out (by omega) (by simp) ?_; intro A8 c8 w8 ho hg hk)
    simp only [Nat.zero_add, List.nil_append] at ho
    have G := Lib.hid (fun g e => (ho.lt g e).1)
    have PP := Lib.hid (ho.mono zb)
    have BB_ := Lib.hid ((BB.out.alloc zb (.cells #[] 3)).grown hg (by simp; omega) (fun g e => by simp [blk] at e; omega)); clear BB; have BB := BB_; clear BB_
    have X_ := Lib.hid ((X.out.alloc (.cells #[] 3)).grown hg (ap_lt (s := w7.heap.size) (fun g e => UX.out g e) (fun g e => by simp [blk] at e; omega))); clear X; have X := X_; clear X_
    clear rx ho hg hk
    go_wp2_with fail
    have ry := Lib.hid (RA.out.below BB.out).lt
    refine (specMoved_any _ _ _ _ _ _ ry.out (by omega) HX.out (by omega) (by omega)).mono ?_
    rintro e w9 ⟨A9, n9, c9, rfl, ho, hb⟩
    have hN : n9 ≤ 8 := by have := ho.len; rw [mv_len, HL.out] at this; omega
    have Q := Lib.hid ho.rd
    have BB_ := Lib.hid (BB.out.trans (hb.mono BB.out.size)); clear BB; have BB := BB_; clear BB_
    have PP_ := Lib.hid (PP.out.below hb); clear PP; have PP := PP_; clear PP_
    have X_ := Lib.hid (X.out.below hb); clear X; have X := X_; clear X_
    clear ry ho hb
    have zd := BB.out.size
    go_wp2_with (at_builtin; refine wpList_app rfl _ _ _ rfl Try.underlying22 rfl PP.out rfl Q.out (by omega) zd ?_; intro A10 c10 w10 ho hg hk)
    have O := Lib.hid ho
    have BB_ := Lib.hid (BB.out.grown hg zd (fun g e => (PP.out.lt g e).1)); clear BB; have BB := BB_; clear BB_
    have X_ := Lib.hid (X.out.grown hg (ap_lt (s := w7.heap.size) (fun g e => UX.out g e) (fun g e => G.out g e))); clear X; have X := X_; clear X_
    clear PP Q G ho hg hk zb zd
    go_wp2_with fail
    have ze := BB.out.size
    refine (D2.out _ _ _ _ O.out.rd (by omega)).mono ?_
    rintro e w11 ⟨A11, n11, c11, rfl, ho, hb⟩
    have BB_ := Lib.hid (BB.out.trans (hb.mono BB.out.size)); clear BB; have BB := BB_; clear BB_
    have X_ := Lib.hid (X.out.below hb); clear X; have X := X_; clear X_
    have Y := Lib.hid (ho.mono ze)
    clear O ho hb ze hN UX
    go_wp2_with fail
  · go_ret3
    exact ⟨_, _, _, _, _, _, rfl, ((own_empty w11).alloc _).mono BB.out.size, (own_emptyN rfl (by simp) (by simp)).mono BB.out.size, (BB.out.alloc BB.out.size _).alloc (by have := BB.out.size; simp; omega) _⟩
  · go_ret3
    exact ⟨_, _, _, _, _, _, rfl, ((own_empty w11).alloc _).mono BB.out.size, (own_emptyN rfl (by simp) (by simp)).mono BB.out.size, (BB.out.alloc BB.out.size _).alloc (by have := BB.out.size; simp; omega) _⟩
  · go_ret3
    exact ⟨_, _, _, _, _, _, rfl, ((own_empty w11).alloc _).mono BB.out.size, (own_emptyN rfl (by simp) (by simp)).mono BB.out.size, (BB.out.alloc BB.out.size _).alloc (by have := BB.out.size; simp; omega) _⟩
  · rw [S1.out (by simp)] at X
    rw [S2.out (by simp)] at Y
    go_ret3
    exact ⟨_, _, _, _, _, _, rfl, X.out, Y.out, BB.out⟩
end Go.Proofs.Ytbfpllmoaooadaa
