/- LoadOf, both packages. -/
import Derived.Test.YthfgejihdhclmaaLoadB
import Derived.StillTailTactics
namespace Go.Proofs.Ythfgejihdhclmaa
set_option linter.unusedVariables false
open Go.RowKit
def putOk (ps : List Int) (m : Nat) : Bool := ps.all fun p => decide (0 ≤ p ∧ p < m)
theorem putOk_true {ps : List Int} {m : Nat} (h : ∀ p ∈ ps, 0 ≤ p ∧ p < m) : putOk ps m = true := by
  simp only [putOk, List.all_eq_true, decide_eq_true_eq]; exact h
theorem putOk_false {ps : List Int} {m k : Nat} (hk : k < ps.length) (h : ¬ (0 ≤ ps.getD k 0 ∧ ps.getD k 0 < m)) : putOk ps m = false := by
  rw [Bool.eq_false_iff]
  intro ht
  simp only [putOk, List.all_eq_true, decide_eq_true_eq] at ht
  exact h (ht _ (getD_mem hk))
theorem ret_lb {w w' : World} {xs : List Int} {b b' : Bool} {e : Ending} (h : RetOwnB w xs b e w') (hb : b = b') : RetOwnB w xs b' e w' := by subst hb; exact h
def lof (b : Bool) (m : Nat) (xs ps : List Int) : List Int := if b then Ld.loadOf m xs ps else []
set_option maxHeartbeats 400000 in
theorem specLoadOf_no (A : Option Addr) (n c : Nat) (xs : List Int) (m : Int) (A' : Option Addr) (n' c' : Nat) (ps : List Int) (w : World) (ha : Rd w w.heap.size A n xs) (hn : n ≤ 1000000000) (ha' : Rd w w.heap.size A' n' ps) (hn' : n' ≤ 1000000000) (h : ldOk xs m = false ∨ n' ≠ n) :
    Calls Try.prog 15 #[.slice A n c, .int .i64 m, .slice A' n' c'] w (RetOwnB w [] false) := by
  cases hs : ldOk xs m with
  | false =>
    clear h ha'
    go_enter Try.func15, Try.ntmps15
    go_wp2_with (go_at_call 31; refine (l5Given_any _ _ _ _ _ _ ha hn _ hs).mono ?_; rintro e w' ⟨rfl, rfl⟩)
    go_ret2
    exact ⟨_, _, _, rfl, own_empty w, (Below.refl _ _).alloc (Nat.le_refl _) _⟩
  | true =>
    have hne : ((n' : Int) != (n : Int)) = true := by
      rcases h with h | h
      · rw [hs] at h; cases h
      · simp; omega
    clear h ha'
    go_enter Try.func15, Try.ntmps15
    go_wp2_with (go_at_call 31; refine (l5Given_any _ _ _ _ _ _ ha hn _ hs).mono ?_; rintro e w' ⟨rfl, rfl⟩)
    go_ret2
    exact ⟨_, _, _, rfl, own_empty w, (Below.refl _ _).alloc (Nat.le_refl _) _⟩
set_option maxRecDepth 100000 in
set_option maxHeartbeats 1600000 in
theorem specLoadOf_yes (A0 : Option Addr) (n c0 : Nat) (xs : List Int) (m : Nat) (A0' : Option Addr) (c0' : Nat) (ps : List Int) (w : World) (ha : Rd w w.heap.size A0 n xs) (ha' : Rd w w.heap.size A0' n ps) (h : ldOk xs m = true) (b : Bool) (hb : putOk ps m = b) :
    Calls Try.prog 15 #[.slice A0 n c0, .int .i64 m, .slice A0' n c0'] w (RetOwnB w (lof b m xs ps) b) := by
  obtain ⟨i0, hi, hz0, hz1, hz2⟩ := info_parts int_info
  obtain ⟨hs, hm1, hm2⟩ := ldOk_true h
  have hl := ha.len
  have hl' := ha'.len
  have hn := sumIn_len hs
  have hn1 : n ≤ 10 := by omega
  have HM := Lib.hid (sumIn_get hs)
  have HA := Lib.hid ha
  have HA' := Lib.hid ha'
  have HH := Lib.hid h
  have HB := Lib.hid hb
  have HL := Lib.hid hl
  have HL' := Lib.hid hl'
  have HLO := Lib.hid (fun k j (hj : j < m) => Ld.lo_range (xs.take k) (ps.take k) (List.replicate m 0) 0 (fun x hx => by have := sumIn_get hs x (List.mem_of_mem_take hx); omega) (fun i hi => by simp at hi; simp [List.getD, hi]) j (by simpa using hj))
  have hne : ((n : Int) != (n : Int)) = false := by simp
  clear ha ha' hs h hb hl hl'
  go_enter Try.func15, Try.ntmps15
  go_wp2_with fail
  refine (l5Given_any _ _ _ _ _ _ HA.out (by omega) _ HH.out).mono ?_
  rintro e w' ⟨rfl, rfl⟩
  go_wp2_with (at_make; refine wpList_make_full _ rfl _ _ 22 rfl w.heap.size 3 i0 (.int .i64 0) 1 Try.underlying22 hi hz0 hz1 _ _ _ _ m rfl rfl rfl rfl ?b2 ?b3 (Nat.le_refl _) ?_)
  case b2 => rw [hz2]; omega
  case b3 => unfold maxLen; omega
  intro w1 hown1 hg1
  have HO1 := Lib.hid (own_made hown1)
  have HB1 := Lib.hid ((Below.refl w.heap.size w).grown hg1 (Nat.le_refl _) (fun g e => by cases e))
  clear hown1 hg1
  go_wp2_with fail
  go_loopw [9] (fun i wr => ∃ (k : Nat), k ≤ n ∧ i = .int .i64 k ∧ Own wr w.heap.size (some ⟨w.heap.size, 0, none⟩) m m (Ld.lo (xs.take k) (ps.take k) (List.replicate m 0)) ∧ Below w.heap.size w wr ∧ Hid (∀ j, j < k → 0 ≤ ps.getD j 0 ∧ ps.getD j 0 < m)) (fun i _ => n - (intOf i).toNat)
  case atStart => exact ⟨0, by omega, rfl, HO1.out, HB1.out, fun j hj => absurd hj (by omega)⟩
  case round =>
    obtain ⟨k, hk, rfl, ho, hbw, HP⟩ := hrel
    clear HO1 HB1
    by_cases hlt : k < n
    · obtain ⟨b1, o1, rfl, hb1, hcc⟩ := HA.out.at_ hlt
      obtain ⟨b2, o2, rfl, hb2, hcc'⟩ := HA'.out.at_ hlt
      have hx := HM.out _ (getD_mem (xs := xs) (k := k) (by have := HL.out; omega))
      have g1 : wr.cell? ⟨b1, o1 + k, none⟩ = some (.int .i64 (xs.getD k 0)) := (hbw.cell (p := ⟨b1, o1 + k, none⟩) hb1).trans (hcc k hlt)
      have g2 : wr.cell? ⟨b2, o2 + k, none⟩ = some (.int .i64 (ps.getD k 0)) := (hbw.cell (p := ⟨b2, o2 + k, none⟩) hb2).trans (hcc' k hlt)
      have hS := Ld.lo_snoc (xs.take k) (ps.take k) (xs.getD k 0) (ps.getD k 0) (List.replicate m 0) (by have h1 := HL.out; have h2 := HL'.out; simp; omega)
      rw [← take_succ_getD (by have := HL.out; omega), ← take_succ_getD (by have := HL'.out; omega)] at hS
      obtain ⟨x, hxe⟩ : ∃ x, xs.getD k 0 = x := ⟨_, rfl⟩
      obtain ⟨p, hpe⟩ : ∃ x, ps.getD k 0 = x := ⟨_, rfl⟩
      rw [hxe] at hx g1 hS
      rw [hpe] at g2 hS
      obtain ⟨hx1, hx2⟩ := hx
      have HPE := Lib.hid hpe
      have HO := Lib.hid ho
      have HBW := Lib.hid hbw
      have HS := Lib.hid hS
      clear hxe hpe hcc hcc' ho hbw hS
      by_cases hin : 0 ≤ p ∧ p < m
      · obtain ⟨q, rfl⟩ := Int.eq_ofNat_of_zero_le hin.1
        have hq : q < m := by omega
        have eS := HS.out
        rw [Int.toNat_natCast] at eS
        obtain ⟨S, hSe⟩ : ∃ S, Ld.lo (xs.take k) (ps.take k) (List.replicate m 0) = S := ⟨_, rfl⟩
        have hr := HLO.out k q hq
        have ho := HO.out
        rw [hSe] at eS hr ho
        have c2 := ho.cell hq
        have f2 := ho.free q
        obtain ⟨y, hy⟩ : ∃ y, S.getD q 0 = y := ⟨_, rfl⟩
        rw [hy] at c2 hr eS
        have hr1 : 0 ≤ y := hr.1
        have hr2 : y ≤ 600 := by have := hr.2; simp only [List.length_take] at this; omega
        have st := fun t => own_store ho q (y + x) t
        rw [← eS] at st
        have st0 := ho.set_ q (y + x)
        rw [← eS] at st0
        have HST := Lib.hid st
        have HST0 := Lib.hid st0
        have HPN := Lib.hid (show ∀ j, j < k + 1 → 0 ≤ ps.getD j 0 ∧ ps.getD j 0 < m from fun j hj => by
          rcases Nat.lt_or_ge j k with h | h
          · exact HP.out j h
          · have : j = k := by omega
            subst this
            rw [HPE.out]; omega)
        have hwx : IntKind.i64.wrap (y + x) = y + x := IntWalk.i64_in _ (by omega)
        have q1 : (0 : Int) ≤ (q : Int) := by omega
        have q2 : (q : Int) < (m : Int) := by omega
        have q2' : (q : Int) ≤ (m : Int) - 1 := by omega
        have q3 : ((q : Int)).toNat = q := by omega
        have k1 : (0 : Int) ≤ (k : Int) := by omega
        have k2 : (k : Int) < (n : Int) := by omega
        have k3 : ((k : Int)).toNat = k := by omega
        have hlt0 : ¬ (q : Int) < 0 := by omega
        have hge : decide ((m : Int) ≤ (q : Int)) = false := by simp; omega
        clear hin hr hy eS hSe ho st st0
        go_wp2_with fail
        refine (l6In_yes _ _ _ _ q1 q2').mono ?_
        rintro e w' ⟨rfl, rfl⟩
        go_wp2_with fail
        refine wp_region_still_tail 18 (by kernel_rfl) (by kernel_rfl) ?_
        simp only [World.drew_eq, List.take_succ_cons, List.take_zero, List.drop_succ_cons, List.drop_zero]
        repeat still_step
        refine wpStill_nil ?_
        go_wp2_with fail
        have hg := grown_drew HST0.out.2
        go_roundw
        case rel => exact ⟨k + 1, by omega, by go_num, HST0.out.1, HBW.out.grown hg HBW.out.size (fun g e => by cases e; exact Nat.le_refl _), HPN⟩
        case measure => simp [intOf]; omega
      · have HBF : Hid (b = false) := by
          show b = false
          rw [← HB.out]
          exact putOk_false (k := k) (by have := HL'.out; omega) (by rw [HPE.out]; exact hin)
        have HN := Lib.hid hin
        clear hin
        go_wp2_with fail
        refine (l6In_no _ _ _ _ (by have := HN.out; omega)).mono ?_
        rintro e w' ⟨rfl, rfl⟩
        go_wp2_with fail
        go_ret2
        exact ret_lb (b := false) (by have e := HBF.out; rw [e]; exact ⟨_, _, _, rfl, (own_empty wr).mono HBW.out.size, HBW.out.alloc HBW.out.size _⟩) HBF.out.symm

    · have hkn : k = n := by omega
      subst hkn
      have e1 : xs.take k = xs := List.take_of_length_le (by have := HL.out; omega)
      have e2 : ps.take k = ps := List.take_of_length_le (by have := HL'.out; omega)
      have hbt : b = true := by
        rw [← HB.out]
        exact putOk_true (all_of_getD (by rw [HL'.out]; exact HP.out))
      subst hbt
      rw [e1, e2] at ho
      have H1 := Lib.hid ho
      have H3 := Lib.hid hbw
      clear ho hbw e1 e2
      go_wp2_with fail
      go_ret2
      exact ⟨_, _, _, rfl, H1.out, H3.out⟩
set_option maxHeartbeats 400000 in
theorem implLoadOf_no (A : Option Addr) (n c : Nat) (xs : List Int) (m : Int) (A' : Option Addr) (n' c' : Nat) (ps : List Int) (w : World) (ha : Rd w w.heap.size A n xs) (hn : n ≤ 1000000000) (ha' : Rd w w.heap.size A' n' ps) (hn' : n' ≤ 1000000000) (h : ldOk xs m = false ∨ n' ≠ n) :
    Calls Try.prog 16 #[.slice A n c, .int .i64 m, .slice A' n' c'] w (RetOwnB w [] false) := by
  cases hs : ldOk xs m with
  | false =>
    clear h ha'
    go_enter Try.func16, Try.ntmps16
    go_wp2_with (go_at_call 34; refine (loadsTold_any _ _ _ _ _ _ ha hn _ hs).mono ?_; rintro e w' ⟨rfl, rfl⟩)
    go_ret2
    exact ⟨_, _, _, rfl, own_empty w, (Below.refl _ _).alloc (Nat.le_refl _) _⟩
  | true =>
    have hne : ((n' : Int) != (n : Int)) = true := by
      rcases h with h | h
      · rw [hs] at h; cases h
      · simp; omega
    clear h ha'
    go_enter Try.func16, Try.ntmps16
    go_wp2_with (go_at_call 34; refine (loadsTold_any _ _ _ _ _ _ ha hn _ hs).mono ?_; rintro e w' ⟨rfl, rfl⟩)
    go_ret2
    exact ⟨_, _, _, rfl, own_empty w, (Below.refl _ _).alloc (Nat.le_refl _) _⟩
set_option maxRecDepth 100000 in
set_option maxHeartbeats 1600000 in
theorem implLoadOf_yes (A0 : Option Addr) (n c0 : Nat) (xs : List Int) (m : Nat) (A0' : Option Addr) (c0' : Nat) (ps : List Int) (w : World) (ha : Rd w w.heap.size A0 n xs) (ha' : Rd w w.heap.size A0' n ps) (h : ldOk xs m = true) (b : Bool) (hb : putOk ps m = b) :
    Calls Try.prog 16 #[.slice A0 n c0, .int .i64 m, .slice A0' n c0'] w (RetOwnB w (lof b m xs ps) b) := by
  obtain ⟨i0, hi, hz0, hz1, hz2⟩ := info_parts int_info
  obtain ⟨hs, hm1, hm2⟩ := ldOk_true h
  have hl := ha.len
  have hl' := ha'.len
  have hn := sumIn_len hs
  have hn1 : n ≤ 10 := by omega
  have HM := Lib.hid (sumIn_get hs)
  have HA := Lib.hid ha
  have HA' := Lib.hid ha'
  have HH := Lib.hid h
  have HB := Lib.hid hb
  have HL := Lib.hid hl
  have HL' := Lib.hid hl'
  have HLO := Lib.hid (fun k j (hj : j < m) => Ld.lo_range (xs.take k) (ps.take k) (List.replicate m 0) 0 (fun x hx => by have := sumIn_get hs x (List.mem_of_mem_take hx); omega) (fun i hi => by simp at hi; simp [List.getD, hi]) j (by simpa using hj))
  have hne : ((n : Int) != (n : Int)) = false := by simp
  clear ha ha' hs h hb hl hl'
  go_enter Try.func16, Try.ntmps16
  go_wp2_with fail
  refine (loadsTold_any _ _ _ _ _ _ HA.out (by omega) _ HH.out).mono ?_
  rintro e w' ⟨rfl, rfl⟩
  go_wp2_with (at_make; refine wpList_make_full _ rfl _ _ 22 rfl w.heap.size 3 i0 (.int .i64 0) 1 Try.underlying22 hi hz0 hz1 _ _ _ _ m rfl rfl rfl rfl ?b2 ?b3 (Nat.le_refl _) ?_)
  case b2 => rw [hz2]; omega
  case b3 => unfold maxLen; omega
  intro w1 hown1 hg1
  have HO1 := Lib.hid (own_made hown1)
  have HB1 := Lib.hid ((Below.refl w.heap.size w).grown hg1 (Nat.le_refl _) (fun g e => by cases e))
  clear hown1 hg1
  go_wp2_with fail
  go_loopw [27] (fun i wr => ∃ (k : Nat), k ≤ n ∧ i = .int .i64 k ∧ Own wr w.heap.size (some ⟨w.heap.size, 0, none⟩) m m (Ld.lo (xs.take k) (ps.take k) (List.replicate m 0)) ∧ Below w.heap.size w wr ∧ Hid (∀ j, j < k → 0 ≤ ps.getD j 0 ∧ ps.getD j 0 < m)) (fun i _ => n - (intOf i).toNat)
  case atStart => exact ⟨0, by omega, rfl, HO1.out, HB1.out, fun j hj => absurd hj (by omega)⟩
  case round =>
    obtain ⟨k, hk, rfl, ho, hbw, HP⟩ := hrel
    clear HO1 HB1
    by_cases hlt : k < n
    · obtain ⟨b1, o1, rfl, hb1, hcc⟩ := HA.out.at_ hlt
      obtain ⟨b2, o2, rfl, hb2, hcc'⟩ := HA'.out.at_ hlt
      have hx := HM.out _ (getD_mem (xs := xs) (k := k) (by have := HL.out; omega))
      have g1 : wr.cell? ⟨b1, o1 + k, none⟩ = some (.int .i64 (xs.getD k 0)) := (hbw.cell (p := ⟨b1, o1 + k, none⟩) hb1).trans (hcc k hlt)
      have g2 : wr.cell? ⟨b2, o2 + k, none⟩ = some (.int .i64 (ps.getD k 0)) := (hbw.cell (p := ⟨b2, o2 + k, none⟩) hb2).trans (hcc' k hlt)
      have hS := Ld.lo_snoc (xs.take k) (ps.take k) (xs.getD k 0) (ps.getD k 0) (List.replicate m 0) (by have h1 := HL.out; have h2 := HL'.out; simp; omega)
      rw [← take_succ_getD (by have := HL.out; omega), ← take_succ_getD (by have := HL'.out; omega)] at hS
      obtain ⟨x, hxe⟩ : ∃ x, xs.getD k 0 = x := ⟨_, rfl⟩
      obtain ⟨p, hpe⟩ : ∃ x, ps.getD k 0 = x := ⟨_, rfl⟩
      rw [hxe] at hx g1 hS
      rw [hpe] at g2 hS
      obtain ⟨hx1, hx2⟩ := hx
      have HPE := Lib.hid hpe
      have HO := Lib.hid ho
      have HBW := Lib.hid hbw
      have HS := Lib.hid hS
      clear hxe hpe hcc hcc' ho hbw hS
      by_cases hin : 0 ≤ p ∧ p < m
      · obtain ⟨q, rfl⟩ := Int.eq_ofNat_of_zero_le hin.1
        have hq : q < m := by omega
        have eS := HS.out
        rw [Int.toNat_natCast] at eS
        obtain ⟨S, hSe⟩ : ∃ S, Ld.lo (xs.take k) (ps.take k) (List.replicate m 0) = S := ⟨_, rfl⟩
        have hr := HLO.out k q hq
        have ho := HO.out
        rw [hSe] at eS hr ho
        have c2 := ho.cell hq
        have f2 := ho.free q
        obtain ⟨y, hy⟩ : ∃ y, S.getD q 0 = y := ⟨_, rfl⟩
        rw [hy] at c2 hr eS
        have hr1 : 0 ≤ y := hr.1
        have hr2 : y ≤ 600 := by have := hr.2; simp only [List.length_take] at this; omega
        have st := fun t => own_store ho q (y + x) t
        rw [← eS] at st
        have st0 := ho.set_ q (y + x)
        rw [← eS] at st0
        have HST := Lib.hid st
        have HST0 := Lib.hid st0
        have HPN := Lib.hid (show ∀ j, j < k + 1 → 0 ≤ ps.getD j 0 ∧ ps.getD j 0 < m from fun j hj => by
          rcases Nat.lt_or_ge j k with h | h
          · exact HP.out j h
          · have : j = k := by omega
            subst this
            rw [HPE.out]; omega)
        have hwx : IntKind.i64.wrap (y + x) = y + x := IntWalk.i64_in _ (by omega)
        have q1 : (0 : Int) ≤ (q : Int) := by omega
        have q2 : (q : Int) < (m : Int) := by omega
        have q2' : (q : Int) ≤ (m : Int) - 1 := by omega
        have q3 : ((q : Int)).toNat = q := by omega
        have k1 : (0 : Int) ≤ (k : Int) := by omega
        have k2 : (k : Int) < (n : Int) := by omega
        have k3 : ((k : Int)).toNat = k := by omega
        have hlt0 : ¬ (q : Int) < 0 := by omega
        have hge : decide ((m : Int) ≤ (q : Int)) = false := by simp; omega
        clear hin hr hy eS hSe ho st st0
        go_wp2_with fail
        refine wp_region_still_tail 10 (by kernel_rfl) (by kernel_rfl) ?_
        simp only [World.drew_eq, List.take_succ_cons, List.take_zero, List.drop_succ_cons, List.drop_zero]
        repeat still_step
        refine wpStill_nil ?_
        go_wp2_with fail
        have hg := grown_drew HST0.out.2
        go_roundw
        case rel => exact ⟨k + 1, by omega, by go_num, HST0.out.1, HBW.out.grown hg HBW.out.size (fun g e => by cases e; exact Nat.le_refl _), HPN⟩
        case measure => simp [intOf]; omega
      · have HBF : Hid (b = false) := by
          show b = false
          rw [← HB.out]
          exact putOk_false (k := k) (by have := HL'.out; omega) (by rw [HPE.out]; exact hin)
        have HN := Lib.hid hin
        clear hin
        by_cases hp0 : p < 0
        · go_wp2_with fail
          go_ret2
          exact ret_lb (b := false) (by have e := HBF.out; rw [e]; exact ⟨_, _, _, rfl, (own_empty wr).mono HBW.out.size, HBW.out.alloc HBW.out.size _⟩) HBF.out.symm
        · have hge : decide ((m : Int) ≤ p) = true := by have := HN.out; simp; omega
          go_wp2_with fail
          go_ret2
          exact ret_lb (b := false) (by have e := HBF.out; rw [e]; exact ⟨_, _, _, rfl, (own_empty wr).mono HBW.out.size, HBW.out.alloc HBW.out.size _⟩) HBF.out.symm
    · have hkn : k = n := by omega
      subst hkn
      have e1 : xs.take k = xs := List.take_of_length_le (by have := HL.out; omega)
      have e2 : ps.take k = ps := List.take_of_length_le (by have := HL'.out; omega)
      have hbt : b = true := by
        rw [← HB.out]
        exact putOk_true (all_of_getD (by rw [HL'.out]; exact HP.out))
      subst hbt
      rw [e1, e2] at ho
      have H1 := Lib.hid ho
      have H3 := Lib.hid hbw
      clear ho hbw e1 e2
      go_wp2_with fail
      go_ret2
      exact ⟨_, _, _, rfl, H1.out, H3.out⟩
end Go.Proofs.Ythfgejihdhclmaa
