
/- PanSides, both packages. -/
import Derived.Test.YtehggnafglnmaaaDoorSigns
import Derived.Test.YtehggnafglnmaaaDoorApp
import Derived.Test.YtehggnafglnmaaaDoorLib
namespace Go.Proofs.YtehggnafglnmaaaDoor
set_option linter.unusedVariables false
open Go.RowKit
/-- The weights with the sign s. -/
def pk (s : Int) : List Int → List Int → List Int
  | x :: a, t :: g => if t = s then x :: pk s a g else pk s a g
  | _, _ => []
theorem pk_snoc (s x t : Int) : ∀ (a g : List Int), a.length = g.length → pk s (a ++ [x]) (g ++ [t]) = pk s a g ++ if t = s then [x] else []
  | [], [], _ => by simp [pk]
  | y :: a, u :: g, h => by
    have ih := pk_snoc s x t a g (by simpa using h)
    simp only [List.cons_append, pk]
    rw [ih]
    split <;> simp
  | [], _ :: _, h => by simp at h
  | _ :: _, [], h => by simp at h
theorem pk_take {s : Int} {a g : List Int} {k : Nat} (h1 : k < a.length) (h2 : k < g.length) : pk s (a.take (k + 1)) (g.take (k + 1)) = pk s (a.take k) (g.take k) ++ if g.getD k 0 = s then [a.getD k 0] else [] := by
  rw [take_succ_getD h1, take_succ_getD h2]
  exact pk_snoc _ _ _ _ _ (by simp; omega)
theorem pk_len (s : Int) : ∀ (a g : List Int), (pk s a g).length ≤ a.length
  | [], _ => by simp [pk]
  | _ :: _, [] => by simp [pk]
  | x :: a, t :: g => by
    have := pk_len s a g
    unfold pk
    split <;> simp <;> omega
theorem ap_grow {A B B' : Option Addr} {s : Nat} (h : blk A = none ∨ blk A ≠ blk B) (hb : blk B' = blk B ∨ ∃ g, blk B' = some g ∧ s ≤ g) (hA : ∀ g, blk A = some g → g < s) : blk A = none ∨ blk A ≠ blk B' := by
  rcases hb with hb | ⟨g, hb, hg⟩
  · rw [hb]; exact h
  · cases e : blk A with
    | none => exact .inl rfl
    | some x => right; rw [hb]; intro e2; injection e2 with e2; have := hA x e; omega
def psOk (a s : List Int) : Bool := sumIn a && decide (s.length = a.length) && sgOk s
theorem own_two (w : World) {B : Nat} (hB : B ≤ w.heap.size) : Own ((w.alloc (.cells #[] 3)).alloc (.cells #[] 3)) B (some ⟨w.heap.size, 0, none⟩) 0 0 [] ∧ Own ((w.alloc (.cells #[] 3)).alloc (.cells #[] 3)) B (some ⟨w.heap.size + 1, 0, none⟩) 0 0 [] := by
  refine ⟨((own_empty w).mono hB).alloc _, ?_⟩
  have := (own_empty (w.alloc (.cells #[] 3))).mono (base' := B) (by simp; omega)
  simpa using this
/-- Two lists and a bool. -/
theorem ret_two {w wv : World} (hb : Below w.heap.size w wv) : RetOwn2B w [] [] false (.returned (.tuple #[.slice (some ⟨wv.heap.size, 0, none⟩) 0 0, .slice (some ⟨wv.heap.size + 1, 0, none⟩) 0 0, .bool false])) ((wv.alloc (.cells #[] 3)).alloc (.cells #[] 3)) := by
  obtain ⟨o1, o2⟩ := own_two wv hb.size
  exact ⟨_, _, _, _, _, _, rfl, o1, o2, .inr (by simp [blk]), (hb.alloc hb.size _).alloc (by have := hb.size; simp; omega) _⟩
set_option maxRecDepth 100000 in
set_option maxHeartbeats 3200000 in
theorem implPanSides_no (A : Option Addr) (n c : Nat) (xs : List Int) (A' : Option Addr) (n' c' : Nat) (ys : List Int) (w : World) (ha : Rd w w.heap.size A n xs) (ha' : Rd w w.heap.size A' n' ys) (hn : n ≤ 1000000000) (hn' : n' ≤ 1000000000) (hg : GL w) (h : psOk xs ys = false) :
    Calls Tryd.prog 6 #[.slice A n c, .slice A' n' c'] w (RetOwn2B w [] [] false) := by
  have hl := ha.len
  have hl' := ha'.len
  have HA := Lib.hid ha
  have HA' := Lib.hid ha'
  have HG := Lib.hid hg
  clear ha ha' hg
  cases hs : sumIn xs with
  | false =>
    have HS := Lib.hid hs
    clear h hs
    go_enter Tryd.func6, Tryd.ntmps6
    go_wp2_with (go_at_call 12; refine (implSumIn_any _ _ _ _ _ HA.out hn _ HS.out).mono ?_; rintro e w' ⟨rfl, rfl⟩)
    go_ret3
    exact ret_two (Below.refl _ _)
  | true =>
    have HS := Lib.hid hs
    by_cases he : n' = n
    · have hsg : sgOk ys = false := by
        unfold psOk at h
        rw [hs, hl, hl', he] at h
        simpa using h
      subst he
      have K := Lib.hid (check_any A' n' c' ys w HA'.out hn')
      rw [hsg] at K
      have e1 : ((n' : Int) != (n' : Int)) = false := by simp
      clear h hs hsg
      go_enter Tryd.func6, Tryd.ntmps6
      go_wp2_with (go_at_call 12; refine (implSumIn_any _ _ _ _ _ HA.out hn _ HS.out).mono ?_; rintro e w' ⟨rfl, rfl⟩)
      refine K.out.mono ?_
      rintro e w1 ⟨hv, hb⟩
      have hv2 : ∃ g : Nat, e = .returned (.iface 35 (.pointer (some ⟨g, 0, none⟩))) := by
        rcases hv with ⟨h, _⟩ | ⟨_, h⟩
        · cases h
        · exact h
      obtain ⟨g, rfl⟩ := hv2
      have HB := Lib.hid hb
      have HG1 := Lib.hid (HG.out.below hb)
      clear hv hb
      go_wp2_with fail
      refine (refused_hit g w1 HG1.out).mono ?_
      rintro e w2 ⟨rfl, hb⟩
      have HB2 := Lib.hid (HB.out.trans (hb.mono HB.out.size))
      clear hb
      go_wp2_with fail
      go_ret3
      exact ret_two HB2.out
    · have e1 : ((n' : Int) != (n : Int)) = true := by rw [bne_iff_ne]; omega
      clear h hs
      go_enter Tryd.func6, Tryd.ntmps6
      go_wp2_with (go_at_call 12; refine (implSumIn_any _ _ _ _ _ HA.out hn _ HS.out).mono ?_; rintro e w' ⟨rfl, rfl⟩)
      go_ret3
      exact ret_two (Below.refl _ _)
set_option maxRecDepth 100000 in
set_option maxHeartbeats 3200000 in
theorem implPanSides_yes (A : Option Addr) (n c : Nat) (xs : List Int) (A' : Option Addr) (n' c' : Nat) (ys : List Int) (w : World) (ha : Rd w w.heap.size A n xs) (ha' : Rd w w.heap.size A' n' ys) (h : psOk xs ys = true) :
    Calls Tryd.prog 6 #[.slice A n c, .slice A' n' c'] w (RetOwn2B w (pk (-1) xs ys) (pk 1 xs ys) true) := by
  have hl := ha.len
  have hl' := ha'.len
  obtain ⟨hs, he, hsg⟩ : sumIn xs = true ∧ n' = n ∧ sgOk ys = true := by
    unfold psOk at h
    simp only [Bool.and_eq_true, decide_eq_true_eq] at h
    exact ⟨h.1.1, by omega, h.2⟩
  subst he
  have hn := sumIn_len hs
  have HS := Lib.hid hs
  have HA := Lib.hid ha
  have HA' := Lib.hid ha'
  have HSG := Lib.hid (sgOk_true hsg)
  have K := Lib.hid (check_any A' n' c' ys w ha' (by omega))
  rw [hsg] at K
  have e1 : ((n' : Int) != (n' : Int)) = false := by simp
  clear ha ha' h hs hsg
  go_enter Tryd.func6, Tryd.ntmps6
  go_wp2_with (go_at_call 12; refine (implSumIn_any _ _ _ _ _ HA.out (by omega) _ HS.out).mono ?_; rintro e w' ⟨rfl, rfl⟩)
  refine K.out.mono ?_
  rintro e w1 ⟨hv, hb⟩
  have hv2 : e = .returned .nilIface := by
    rcases hv with ⟨_, h⟩ | ⟨h, _⟩
    · exact h
    · cases h
  subst hv2
  have HB := Lib.hid hb
  clear hv hb
  go_wp2_with fail
  refine (refused_nil w1).mono ?_
  rintro e w2 ⟨rfl, hb⟩
  have HB2 := Lib.hid (HB.out.trans (hb.mono HB.out.size))
  obtain ⟨o1, o2⟩ := own_two w2 (B := w2.heap.size) (Nat.le_refl _)
  have O1 := Lib.hid o1
  have O2 := Lib.hid o2
  have B0 : Hid (Below w2.heap.size w2 ((w2.alloc (.cells #[] 3)).alloc (.cells #[] 3))) := Lib.hid (((Below.refl _ _).alloc (Nat.le_refl _) _).alloc (by simp) _)
  clear hb o1 o2 HB K
  go_wp2_with fail
  go_loopw [7, 8, 32] (fun lv rv_ i wr => ∃ (k : Nat) (A1 : Option Addr) (m1 k1 : Nat) (A2 : Option Addr) (m2 k2 : Nat), k ≤ n' ∧ m1 ≤ k ∧ m2 ≤ k ∧ i = .int .i64 k ∧ lv = .slice A1 m1 k1 ∧ rv_ = .slice A2 m2 k2 ∧ Hid (Own wr w2.heap.size A1 m1 k1 (pk (-1) (xs.take k) (ys.take k))) ∧ Hid (Own wr w2.heap.size A2 m2 k2 (pk 1 (xs.take k) (ys.take k))) ∧ Hid (blk A1 = none ∨ blk A1 ≠ blk A2) ∧ Hid (Below w2.heap.size w2 wr)) (fun _ _ i _ => n' - (intOf i).toNat)
  case atStart => exact ⟨0, _, _, _, _, _, _, by omega, Nat.le_refl _, Nat.le_refl _, rfl, rfl, rfl, O1, O2, Lib.hid (.inr (by simp [blk])), B0⟩
  case round =>
    obtain ⟨k, A1, m1, k1, A2, m2, k2, hk, hm1, hm2, rfl, rfl, rfl, H1, H2, HP, HW⟩ := hrel
    clear O1 O2 B0
    by_cases hlt : k < n'
    · have HR := Lib.hid ((HA.out.below HB2.out).below (HW.out.mono HB2.out.size))
      have HR' := Lib.hid ((HA'.out.below HB2.out).below (HW.out.mono HB2.out.size))
      obtain ⟨b1, o1, rfl, _, hc1⟩ := HR.out.at_ hlt
      obtain ⟨b2, o2, rfl, _, hc2⟩ := HR'.out.at_ hlt
      have g1 := hc1 k hlt
      have g2 := hc2 k hlt
      obtain ⟨x, hx⟩ : ∃ x, xs.getD k 0 = x := ⟨_, rfl⟩
      obtain ⟨t, ht⟩ : ∃ t, ys.getD k 0 = t := ⟨_, rfl⟩
      have hr := HSG.out _ (getD_mem (show k < ys.length by omega))
      have HL := Lib.hid (pk_take (s := -1) (a := xs) (g := ys) (k := k) (by omega) (by omega))
      have HRR := Lib.hid (pk_take (s := 1) (a := xs) (g := ys) (k := k) (by omega) (by omega))
      rw [hx, ht] at HL HRR
      rw [ht] at hr g2
      rw [hx] at g1
      obtain ⟨hr1, hr2⟩ := hr
      have hbs := HW.out.size
      clear hc1 hc2 hx ht
      by_cases h1 : t = -1
      · have d1 : (t == -1) = true := beq_iff_eq.2 h1
        have hne : ¬ t = 1 := by omega
        have HL2 := Lib.hid (HL.out.trans (by rw [if_pos h1]))
        have HR2 := Lib.hid (HRR.out.trans (by rw [if_neg hne, List.append_nil]))
        clear HL HRR h1 hne
        go_wp2_with (at_builtin; refine wpList_pushN rfl _ _ _ rfl Tryd.underlying22 rfl H1.out rfl (by simp) (by omega) hbs ?_; intro A3 c3 w3 ho' hg' hb')
        have N1 := Lib.hid ho'
        rw [← HL2.out] at N1
        have N2 := Lib.hid (H2.out.grown hg' (ap_symm HP.out))
        rw [← HR2.out] at N2
        have NP := Lib.hid (ap_symm (ap_grow (ap_symm HP.out) (hb'.imp id fun h => h.2) (fun g e => (H2.out.lt g e).2)))
        have NW := Lib.hid (HW.out.grown hg' hbs (fun a e => (H1.out.lt a e).1))
        clear ho' hg' hb'
        go_roundw
        case rel => exact ⟨k + 1, A3, m1 + 1, c3, A2, m2, k2, by omega, by omega, by omega, by go_num, rfl, rfl, N1, N2, NP, NW⟩
        case measure => simp [intOf]; omega
      · have d1 : (t == -1) = false := beq_eq_false_iff_ne.2 h1
        have HL2 := Lib.hid (HL.out.trans (by rw [if_neg h1, List.append_nil]))
        by_cases h2 : t = 1
        · have d2 : (t == 1) = true := beq_iff_eq.2 h2
          have HR2 := Lib.hid (HRR.out.trans (by rw [if_pos h2]))
          clear HL HRR h1 h2
          go_wp2_with (at_builtin; refine wpList_pushN rfl _ _ _ rfl Tryd.underlying22 rfl H2.out rfl (by simp) (by omega) hbs ?_; intro A3 c3 w3 ho' hg' hb')
          have N2 := Lib.hid ho'
          rw [← HR2.out] at N2
          have N1 := Lib.hid (H1.out.grown hg' HP.out)
          rw [← HL2.out] at N1
          have NP := Lib.hid (ap_grow HP.out (hb'.imp id fun h => h.2) (fun g e => (H1.out.lt g e).2))
          have NW := Lib.hid (HW.out.grown hg' hbs (fun a e => (H2.out.lt a e).1))
          clear ho' hg' hb'
          go_roundw
          case rel => exact ⟨k + 1, A1, m1, k1, A3, m2 + 1, c3, by omega, by omega, by omega, by go_num, rfl, rfl, N1, N2, NP, NW⟩
          case measure => simp [intOf]; omega
        · have d2 : (t == 1) = false := beq_eq_false_iff_ne.2 h2
          have HR2 := Lib.hid (HRR.out.trans (by rw [if_neg h2, List.append_nil]))
          clear HL HRR h1 h2
          rw [← HL2.out] at H1
          rw [← HR2.out] at H2
          go_wp2_with fail
          go_roundw
          case rel => exact ⟨k + 1, A1, m1, k1, A2, m2, k2, by omega, by omega, by omega, by go_num, rfl, rfl, H1, H2, HP, HW⟩
          case measure => simp [intOf]; omega
    · have e : k = n' := by omega
      subst e
      rw [List.take_of_length_le (by omega), List.take_of_length_le (by omega)] at H1 H2
      clear hlt
      go_wp2_with fail
      go_ret3
      exact ⟨A1, m1, k1, A2, m2, k2, rfl, H1.out.mono HB2.out.size, H2.out.mono HB2.out.size, HP.out, HB2.out.trans (HW.out.mono HB2.out.size)⟩
end Go.Proofs.YtehggnafglnmaaaDoor
