
/- spec.PanSides. -/
import Derived.Test.YtehggnafglnmaaaDoorSides
namespace Go.Proofs.YtehggnafglnmaaaDoor
set_option linter.unusedVariables false
open Go.RowKit
theorem cell_ne {w : World} {B n : Nat} {b o : Nat} {xs : List Int} {A : Option Addr} (h : Rd w B (some ⟨b, o, none⟩) n xs) {k : Nat} (hk : k < n) (hA : ∀ g, blk A = some g → B ≤ g) : some b ≠ blk A := by
  intro e
  have h1 := hA b e.symm
  obtain ⟨b', o', eb, hb, _⟩ := h.at_ hk
  injection eb with eb
  injection eb with eb
  omega
set_option maxRecDepth 100000 in
set_option maxHeartbeats 3200000 in
theorem specPanSides_any (A : Option Addr) (n c : Nat) (xs : List Int) (A' : Option Addr) (n' c' : Nat) (ys : List Int) (w : World) (ha : Rd w w.heap.size A n xs) (ha' : Rd w w.heap.size A' n' ys) (hn : n ≤ 1000000000) (hn' : n' ≤ 1000000000) (ok : Bool) (h : psOk xs ys = ok) :
    Calls Tryd.prog 4 #[.slice A n c, .slice A' n' c'] w (RetOwn2B w (if ok then pk (-1) xs ys else []) (if ok then pk 1 xs ys else []) ok) := by
  obtain ⟨L, hL⟩ : ∃ L, (if ok then pk (-1) xs ys else []) = L := ⟨_, rfl⟩
  obtain ⟨R, hR⟩ : ∃ R, (if ok then pk 1 xs ys else []) = R := ⟨_, rfl⟩
  rw [hL, hR]
  have HLQ := Lib.hid hL
  have HRQ := Lib.hid hR
  clear hL hR
  have hl := ha.len
  have hl' := ha'.len
  have B0 : Hid (Below w.heap.size w ((w.alloc (.cells #[] 3)).alloc (.cells #[] 3))) := Lib.hid (((Below.refl _ _).alloc (Nat.le_refl _) _).alloc (by simp) _)
  obtain ⟨o1, o2⟩ := own_two w (B := w.heap.size) (Nat.le_refl _)
  have O1 := Lib.hid o1
  have O2 := Lib.hid o2
  have HAW := Lib.hid (ha.below B0.out).lt
  have HAW' := Lib.hid (ha'.below B0.out).lt
  have RX := Lib.hid (ha.below B0.out)
  have RY := Lib.hid (ha'.below B0.out)
  clear ha ha' o1 o2
  cases hs : sumIn xs with
  | false =>
    have HS := Lib.hid hs
    obtain rfl : ok = false := by rw [← h]; unfold psOk; rw [hs]; rfl
    clear h hs
    go_enter Tryd.func4, Tryd.ntmps4
    go_wp2_with (go_at_call 10; refine (specSumIn_any _ _ _ _ _ HAW.out hn _ HS.out).mono ?_; rintro e w' ⟨rfl, rfl⟩)
    go_ret3
    rw [← HLQ.out, ← HRQ.out]
    exact ⟨_, _, _, _, _, _, rfl, O1.out, O2.out, .inr (by simp [blk]), B0.out⟩
  | true =>
    have HS := Lib.hid hs
    by_cases he : n' = n
    · subst he
      have hok : sgOk ys = ok := by
        rw [← h]; unfold psOk
        rw [hs, hl, hl']; simp
      have HOK := Lib.hid hok
      have e1 : ((n' : Int) != (n' : Int)) = false := by simp
      have hn10 := sumIn_len hs
      clear h hs hok
      go_enter Tryd.func4, Tryd.ntmps4
      go_wp2_with (go_at_call 10; refine (specSumIn_any _ _ _ _ _ HAW.out hn _ HS.out).mono ?_; rintro e w' ⟨rfl, rfl⟩)
      go_loopw [7, 8, 9] (fun lv rv_ i wr => ∃ (k : Nat) (A1 : Option Addr) (m1 k1 : Nat) (A2 : Option Addr) (m2 k2 : Nat), k ≤ n' ∧ m1 ≤ k ∧ m2 ≤ k ∧ i = .int .i64 k ∧ lv = .slice A1 m1 k1 ∧ rv_ = .slice A2 m2 k2 ∧ Hid (Own wr w.heap.size A1 m1 k1 (pk (-1) (xs.take k) (ys.take k))) ∧ Hid (Own wr w.heap.size A2 m2 k2 (pk 1 (xs.take k) (ys.take k))) ∧ Hid (blk A1 = none ∨ blk A1 ≠ blk A2) ∧ Hid (Below w.heap.size w wr) ∧ Hid (∀ j, j < k → -1 ≤ ys.getD j 0 ∧ ys.getD j 0 ≤ 1) ∧ Hid (Rd wr w.heap.size A n' xs) ∧ Hid (Rd wr w.heap.size A' n' ys)) (fun _ _ i _ => n' - (intOf i).toNat)
      case atStart => exact ⟨0, _, _, _, _, _, _, by omega, Nat.le_refl _, Nat.le_refl _, rfl, rfl, rfl, O1, O2, Lib.hid (.inr (by simp [blk])), B0, Lib.hid (fun j hj => absurd hj (by omega)), RX, RY⟩
      case round =>
        obtain ⟨k, A1, m1, k1, A2, m2, k2, hk, hm1, hm2, rfl, rfl, rfl, H1, H2, HP, HW, HQ, HR, HR'⟩ := hrel
        clear O1 O2 B0
        by_cases hlt : k < n'
        · obtain ⟨b1, o1, rfl, _, hc1⟩ := HR.out.at_ hlt
          obtain ⟨b2, o2, rfl, _, hc2⟩ := HR'.out.at_ hlt
          have g1 := hc1 k hlt
          have g2 := hc2 k hlt
          obtain ⟨x, hx⟩ : ∃ x, xs.getD k 0 = x := ⟨_, rfl⟩
          obtain ⟨t, ht⟩ : ∃ t, ys.getD k 0 = t := ⟨_, rfl⟩
          have HT := Lib.hid ht
          have HL := Lib.hid (pk_take (s := -1) (a := xs) (g := ys) (k := k) (by omega) (by omega))
          have HRR := Lib.hid (pk_take (s := 1) (a := xs) (g := ys) (k := k) (by omega) (by omega))
          rw [hx, ht] at HL HRR
          rw [ht] at g2
          rw [hx] at g1
          have hbs := HW.out.size
          clear hc1 hc2 hx ht
          have i1 : (0 : Int) ≤ (k : Int) := by omega
          have i2 : (k : Int) < (n' : Int) := by omega
          have i3 : ((k : Int)).toNat = k := by omega
          by_cases hr : -1 ≤ t ∧ t ≤ 1
          · obtain ⟨hr1, hr2⟩ := hr
            have HQ2 : Hid (∀ j, j < k + 1 → -1 ≤ ys.getD j 0 ∧ ys.getD j 0 ≤ 1) := Lib.hid (fun j hj => by
              rcases Nat.lt_or_ge j k with h | h
              · exact HQ.out j h
              · have : j = k := by omega
                subst this
                rw [HT.out]
                exact ⟨hr1, hr2⟩)
            have K := Lib.hid (l6In_yes t (-1) 1 wr hr1 hr2)
            by_cases h1 : t < 0
            · have d1 : decide (t < 0) = true := decide_eq_true h1
              have d2 : decide (0 < t) = false := decide_eq_false (by omega)
              have hng : ¬ 0 < t := by omega
              have HL2 := Lib.hid (HL.out.trans (by rw [if_pos (by omega)]))
              have HR2 := Lib.hid (HRR.out.trans (by rw [if_neg (by omega), List.append_nil]))
              clear HL HRR
              go_wp2_with fail
              refine K.out.mono ?_
              rintro e w' ⟨rfl, rfl⟩
              go_wp2_with (at_builtin; refine wpList_pushN rfl _ _ _ rfl Tryd.underlying22 rfl H1.out rfl (by simp) (by omega) hbs ?_; intro A3 c3 w3 ho' hg' hb'; have g2' := hg'.cell g2 (cell_ne HR'.out hlt (fun g e => (H1.out.lt g e).1)))
              have N1 := Lib.hid ho'
              rw [← HL2.out] at N1
              have N2 := Lib.hid (H2.out.grown hg' (ap_symm HP.out))
              rw [← HR2.out] at N2
              have NP := Lib.hid (ap_symm (ap_grow (ap_symm HP.out) (hb'.imp id fun h => h.2) (fun g e => (H2.out.lt g e).2)))
              have NW := Lib.hid (HW.out.grown hg' hbs (fun a e => (H1.out.lt a e).1))
              have NR := Lib.hid (HR.out.grown hg' hbs (fun a e => (H1.out.lt a e).1))
              have NR' := Lib.hid (HR'.out.grown hg' hbs (fun a e => (H1.out.lt a e).1))
              clear ho' hg' hb' g2' K
              go_roundw
              case rel => exact ⟨k + 1, A3, m1 + 1, c3, A2, m2, k2, by omega, by omega, by omega, by go_num, rfl, rfl, N1, N2, NP, NW, HQ2, NR, NR'⟩
              case measure => simp [intOf]; omega
            · have d1 : decide (t < 0) = false := decide_eq_false h1
              have HL2 := Lib.hid (HL.out.trans (by rw [if_neg (by omega), List.append_nil]))
              by_cases h2 : 0 < t
              · have d2 : decide (0 < t) = true := decide_eq_true h2
                have HR2 := Lib.hid (HRR.out.trans (by rw [if_pos (by omega)]))
                clear HL HRR
                go_wp2_with fail
                refine K.out.mono ?_
                rintro e w' ⟨rfl, rfl⟩
                go_wp2_with (at_builtin; refine wpList_pushN rfl _ _ _ rfl Tryd.underlying22 rfl H2.out rfl (by simp) (by omega) hbs ?_; intro A3 c3 w3 ho' hg' hb')
                have N2 := Lib.hid ho'
                rw [← HR2.out] at N2
                have N1 := Lib.hid (H1.out.grown hg' HP.out)
                rw [← HL2.out] at N1
                have NP := Lib.hid (ap_grow HP.out (hb'.imp id fun h => h.2) (fun g e => (H1.out.lt g e).2))
                have NW := Lib.hid (HW.out.grown hg' hbs (fun a e => (H2.out.lt a e).1))
                have NR := Lib.hid (HR.out.grown hg' hbs (fun a e => (H2.out.lt a e).1))
                have NR' := Lib.hid (HR'.out.grown hg' hbs (fun a e => (H2.out.lt a e).1))
                clear ho' hg' hb' K
                go_roundw
                case rel => exact ⟨k + 1, A1, m1, k1, A3, m2 + 1, c3, by omega, by omega, by omega, by go_num, rfl, rfl, N1, N2, NP, NW, HQ2, NR, NR'⟩
                case measure => simp [intOf]; omega
              · have d2 : decide (0 < t) = false := decide_eq_false h2
                have HR2 := Lib.hid (HRR.out.trans (by rw [if_neg (by omega), List.append_nil]))
                clear HL HRR
                rw [← HL2.out] at H1
                rw [← HR2.out] at H2
                go_wp2_with fail
                refine K.out.mono ?_
                rintro e w' ⟨rfl, rfl⟩
                go_wp2_with fail
                go_roundw
                case rel => exact ⟨k + 1, A1, m1, k1, A2, m2, k2, by omega, by omega, by omega, by go_num, rfl, rfl, H1, H2, HP, HW, HQ2, HR, HR'⟩
                case measure => simp [intOf]; omega
          · have K := Lib.hid (l6In_no t (-1) 1 wr hr)
            have hbad : ok = false := by rw [← HOK.out]; exact sgOk_false (k := k) (by omega) (by rw [HT.out]; exact hr)
            have HBAD := Lib.hid hbad
            clear hr hbad
            go_wp2_with fail
            refine K.out.mono ?_
            rintro e w' ⟨rfl, rfl⟩
            go_wp2_with fail
            go_ret3
            rw [← HLQ.out, ← HRQ.out, HBAD.out]
            exact ret_two HW.out
        · have e : k = n' := by omega
          subst e
          rw [List.take_of_length_le (by omega), List.take_of_length_le (by omega)] at H1 H2
          have hgood : ok = true := by rw [← HOK.out]; exact sgOk_mk (all_of_getD (by rw [hl']; exact HQ.out))
          have HGD := Lib.hid hgood
          clear hlt hgood
          go_wp2_with fail
          go_ret3
          rw [← HLQ.out, ← HRQ.out, HGD.out]
          exact ⟨A1, m1, k1, A2, m2, k2, rfl, H1.out, H2.out, HP.out, HW.out⟩
    · have e1 : ((n' : Int) != (n : Int)) = true := by rw [bne_iff_ne]; omega
      obtain rfl : ok = false := by
        rw [← h]; unfold psOk
        rw [hs, hl, hl', decide_eq_false he]; rfl
      clear h hs
      go_enter Tryd.func4, Tryd.ntmps4
      go_wp2_with (go_at_call 10; refine (specSumIn_any _ _ _ _ _ HAW.out hn _ HS.out).mono ?_; rintro e w' ⟨rfl, rfl⟩)
      go_ret3
      rw [← HLQ.out, ← HRQ.out]
      exact ⟨_, _, _, _, _, _, rfl, O1.out, O2.out, .inr (by simp [blk]), B0.out⟩
end Go.Proofs.YtehggnafglnmaaaDoor
