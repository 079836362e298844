
/- PanNumber: both packages. -/
import Derived.Test.YtmakekolaclgnaaDoorDigC
import Derived.Test.YtmakekolaclgnaaDoorDig
import Derived.Test.YtmakekolaclgnaaDoorBack
namespace Go.Proofs.YtmakekolaclgnaaDoor
set_option linter.unusedVariables false
open Go.RowKit
theorem nm_drop {xs : List Int} {k : Nat} (hk : k < xs.length) : Dg.nm (xs.drop k) = 3 * Dg.nm (xs.drop (k + 1)) + xs.getD k 0 := by
  rw [List.drop_eq_getElem_cons hk, Dg.nm]
  simp [List.getD, hk]
theorem nm_bound {xs : List Int} (h : ∀ d ∈ xs, -1 ≤ d ∧ d ≤ 1) (hl : xs.length ≤ 12) : -265720 ≤ Dg.nm xs ∧ Dg.nm xs ≤ 265720 := by
  have h1 := Dg.nm_range xs h
  have h2 : 3 ^ xs.length ≤ 3 ^ 12 := Nat.pow_le_pow_right (by omega) hl
  have h3 : 3 ^ 12 = 531441 := rfl
  omega
theorem drop_digits {xs : List Int} {k : Nat} (h : ∀ j, j < xs.length → k ≤ j → -1 ≤ xs.getD j 0 ∧ xs.getD j 0 ≤ 1) : ∀ d ∈ xs.drop k, -1 ≤ d ∧ d ≤ 1 := by
  intro d hd
  obtain ⟨j, hj, rfl⟩ := List.mem_iff_getElem.1 hd
  have hj' : k + j < xs.length := by simp at hj; omega
  have := h (k + j) hj' (by omega)
  simpa [List.getD, hj'] using this
theorem nmW_upto (zs : List Int) (h12 : zs.length ≤ 12) (hs : ∀ d ∈ zs, -1 ≤ d ∧ d ≤ 1) : nmW (uptoB (bk zs) zs.length) = Dg.nm zs := by
  suffices h : ∀ k, k ≤ zs.length → nmW (uptoB (bk zs) k) = Dg.nm (zs.drop (zs.length - k)) by
    have := h zs.length (Nat.le_refl _)
    rwa [Nat.sub_self, List.drop_zero] at this
  intro k
  induction k with
  | zero => intro _; rw [Nat.sub_zero, List.drop_length]; rfl
  | succ k ih =>
    intro hk
    rw [uptoB_succ, nmW_snoc, ih (by omega)]
    have e := nm_drop (xs := zs) (k := zs.length - (k + 1)) (by omega)
    rw [show zs.length - (k + 1) + 1 = zs.length - k by omega] at e
    have b1 := nm_bound (xs := zs.drop (zs.length - k)) (fun d hd => hs d (List.mem_of_mem_drop hd)) (by simp; omega)
    have b2 := nm_bound (xs := zs.drop (zs.length - (k + 1))) (fun d hd => hs d (List.mem_of_mem_drop hd)) (by simp; omega)
    have e2 : (bk zs k).2 = zs.getD (zs.length - (k + 1)) 0 := by
      unfold bk
      rw [show zs.length - 1 - k = zs.length - (k + 1) by omega]
      simp [List.getD]
    rw [e2, IntWalk.wrap64_in (3 * _) (by omega), IntWalk.wrap64_in _ (by omega), e]
theorem dgOk_true {xs : List Int} (h : dgOk xs = true) : xs.length ≤ 12 ∧ ∀ d ∈ xs, -1 ≤ d ∧ d ≤ 1 := by
  unfold dgOk at h
  simp only [Bool.and_eq_true, decide_eq_true_eq] at h
  exact ⟨h.1.1, sgOk_true h.2⟩
theorem dgOk_last0 {xs : List Int} (h : dgOk xs = true) : xs.getLast? ≠ some 0 := by
  unfold dgOk at h
  simp only [Bool.and_eq_true, decide_eq_true_eq] at h
  intro e
  have hne : xs ≠ [] := by intro e'; rw [e'] at e; simp at e
  have hp : 0 < xs.length := List.length_pos_iff.2 hne
  have e2 : xs.getD (xs.length - 1) 0 = 0 := by
    rw [List.getLast?_eq_getElem?] at e
    simp [List.getD, e]
  have := h.1.2
  rw [e2, decide_eq_true hp] at this
  simp at this
theorem dgOk_dg {v : Int} (h : (Dg.dg v).length ≤ 12) : dgOk (Dg.dg v) = true := by
  rw [dgOk_rest h ?_]
  · exact sgOk_mk (Dg.dg_digit v)
  · rcases Nat.eq_zero_or_pos (Dg.dg v).length with h0 | h0
    · exact .inl h0
    · right
      intro e
      refine Dg.dg_last v (List.length_pos_iff.1 h0) ?_
      rw [List.getLast?_eq_getElem?]
      have : (Dg.dg v).length - 1 < (Dg.dg v).length := by omega
      simp [List.getD, this] at e
      simp [e, this]
set_option maxRecDepth 100000 in
set_option maxHeartbeats 1600000 in
theorem specPanNumber_any (A : Option Addr) (n c : Nat) (xs : List Int) (w : World) (ha : Rd w w.heap.size A n xs) (hn : n ≤ 1000000000) (ok : Bool) (h : dgOk xs = ok) :
    Calls Tryd.prog 8 #[.slice A n c] w (RetIB w (if ok then Dg.nm xs else 0) ok) := by
  obtain ⟨R, hR⟩ : ∃ R, (if ok then Dg.nm xs else 0) = R := ⟨_, rfl⟩
  rw [hR]
  have HR := Lib.hid hR
  clear hR
  have hl := ha.len
  by_cases h12 : 12 < n
  · obtain rfl : ok = false := by rw [← h]; exact dgOk_long (by omega)
    obtain rfl : 0 = R := HR.out
    clear h HR
    go_enter Tryd.func8, Tryd.ntmps8
    go_wp2_with fail
    go_ret2
    exact ⟨rfl, Below.refl _ _⟩
  rcases Nat.eq_zero_or_pos n with h0 | h0
  · have hb := dgOk_rest (xs := xs) (by omega) (.inl (by omega))
    subst h0
    have ez : xs = [] := List.eq_nil_of_length_eq_zero hl
    subst ez
    obtain rfl : ok = true := by rw [← h]; rfl
    obtain rfl : 0 = R := HR.out
    clear h HR hb
    go_enter Tryd.func8, Tryd.ntmps8
    go_wp2_with fail
    go_loop [4, 5] (fun v i => ∃ x : Int, x < 0 ∧ i = .int .i64 x ∧ v = .int .i64 0) (fun _ _ => 0)
    case atStart => exact ⟨-1, by omega, by go_num, rfl⟩
    case round =>
      obtain ⟨x, hx, rfl, rfl⟩ := hrel
      have hneg : ¬ (0 : Int) ≤ x := by omega
      go_wp2_with fail
      go_ret2
      exact ⟨rfl, Below.refl _ _⟩
  · obtain ⟨m, rfl⟩ : ∃ m, n = m + 1 := ⟨n - 1, by omega⟩
    have HA := Lib.hid ha
    obtain ⟨b1, o1, rfl, _, hc1⟩ := ha.at_ h0
    have gl := hc1 m (by omega)
    have hm : xs.length - 1 = m := by omega
    obtain ⟨x, hx⟩ : ∃ x, xs.getD m 0 = x := ⟨_, rfl⟩
    rw [hx] at gl
    have hwm : IntKind.i64.wrap (((m + 1 : Nat) : Int) - 1) = (m : Int) := by rw [show ((m + 1 : Nat) : Int) - 1 = (m : Int) by omega]; exact IntWalk.i64_in _ (by omega)
    have i1 : (0 : Int) ≤ (m : Int) := by omega
    have i2 : (m : Int) < ((m + 1 : Nat) : Int) := by omega
    have i3 : ((m : Int)).toNat = m := by omega
    have i4 : ((m + 1 : Nat) : Int) > 0 := by omega
    by_cases hx0 : x = 0
    · obtain rfl : ok = false := by rw [← h]; exact dgOk_last (by omega) (by rw [hm, hx]; exact hx0)
      obtain rfl : 0 = R := HR.out
      subst hx0
      clear h HR hc1 hx ha hm
      go_enter Tryd.func8, Tryd.ntmps8
      go_wp2_with fail
      go_ret2
      exact ⟨rfl, Below.refl _ _⟩
    · have hb := dgOk_rest (xs := xs) (by omega) (.inr (by rw [hm, hx]; exact hx0))
      rw [hb] at h
      have HOK := Lib.hid h
      have dx : (x == 0) = false := beq_eq_false_iff_ne.2 hx0
      have HC := Lib.hid hc1
      clear hb hx ha hm h hc1
      go_enter Tryd.func8, Tryd.ntmps8
      go_wp2_with fail
      go_loop [4, 5] (fun v i => ∃ (k : Nat) (y z : Int), k ≤ m + 1 ∧ y = (k : Int) - 1 ∧ i = .int .i64 y ∧ v = .int .i64 z ∧ Hid (z = Dg.nm (xs.drop k)) ∧ Hid (∀ j, j < xs.length → k ≤ j → -1 ≤ xs.getD j 0 ∧ xs.getD j 0 ≤ 1)) (fun _ i => (intOf i + 1).toNat)
      case atStart => exact ⟨m + 1, m, 0, by omega, by omega, rfl, rfl, Lib.hid (by rw [List.drop_of_length_le (by omega)]; rfl), Lib.hid (fun j h1 h2 => by omega)⟩
      case round =>
        obtain ⟨k, y, z, hk, hy, rfl, rfl, HZ, HD⟩ := hrel
        rcases Nat.eq_zero_or_pos k with h0k | h0k
        · subst h0k
          have hneg : ¬ (0 : Int) ≤ y := by omega
          have hsg : sgOk xs = true := sgOk_mk (all_of_getD fun j hj => HD.out j hj (by omega))
          obtain rfl : ok = true := by rw [← HOK.out, hsg]
          have HZ2 : Hid (z = R) := Lib.hid (by rw [HZ.out, List.drop_zero]; exact HR.out)
          clear hsg
          go_wp2_with fail
          go_ret2
          exact ⟨by rw [HZ2.out]; rfl, Below.refl _ _⟩
        · obtain ⟨q, rfl⟩ : ∃ q, k = q + 1 := ⟨k - 1, by omega⟩
          obtain rfl : y = (q : Int) := by omega
          have g1 := HC.out q (by omega)
          have hstep := nm_drop (xs := xs) (k := q) (by omega)
          have hbd := nm_bound (drop_digits HD.out) (by simp; omega)
          rw [← HZ.out] at hbd hstep
          obtain ⟨d, hd⟩ : ∃ d, xs.getD q 0 = d := ⟨_, rfl⟩
          rw [hd] at g1 hstep
          have HXD := Lib.hid hd
          have HST : Hid (Dg.nm (xs.drop q) = 3 * z + d) := Lib.hid hstep
          obtain ⟨z1, z2⟩ := hbd
          have j1 : (0 : Int) ≤ (q : Int) := by omega
          have j2 : (q : Int) < ((m + 1 : Nat) : Int) := by omega
          have j3 : ((q : Int)).toNat = q := by omega
          clear hd hstep hy gl
          by_cases hin : -1 ≤ d ∧ d ≤ 1
          · obtain ⟨d1, d2⟩ := hin
            go_wp2_with (go_at_call 22; refine (l6In_yes _ _ _ _ d1 d2).mono ?_; rintro e w' ⟨rfl, rfl⟩)
            go_round
            case rel =>
              refine ⟨q, (q : Int) - 1, 3 * z + d, by omega, rfl, by go_num, by go_num, Lib.hid HST.out.symm, Lib.hid fun j h1 h2 => ?_⟩
              rcases Nat.lt_or_ge q j with h | h
              · exact HD.out j h1 h
              · have : j = q := by omega
                subst this
                rw [HXD.out]
                exact ⟨d1, d2⟩
            case measure => simp [intOf]
          · have hsg : sgOk xs = false := sgOk_false (k := q) (by omega) (by rw [HXD.out]; exact hin)
            obtain rfl : ok = false := by rw [← HOK.out, hsg]
            obtain rfl : 0 = R := HR.out
            have HN := Lib.hid hin
            clear hin hsg
            go_wp2_with (go_at_call 22; refine (l6In_no _ _ _ _ HN.out).mono ?_; rintro e w' ⟨rfl, rfl⟩)
            go_ret2
            exact ⟨rfl, Below.refl _ _⟩
set_option maxHeartbeats 800000 in
theorem number_any (A : Option Addr) (n c : Nat) (xs : List Int) (w : World) (ha : Rd w w.heap.size A n xs) (hn : xs.length ≤ 1000000000) :
    Calls Tryd.prog 25 #[.slice A n c] w (fun e W' => e = .returned (.int .i64 (nmW (uptoB (bk xs) xs.length))) ∧ Below w.heap.size w W') := by
  refine (callsIn_wide (n := 3)).1 ?_
  exact number_in _ 3 trivial trivial trivial rfl (by omega) A n c xs hn w ha
set_option maxHeartbeats 800000 in
theorem implPanNumber_any (A : Option Addr) (n c : Nat) (xs : List Int) (w : World) (ha : Rd w w.heap.size A n xs) (hn : n ≤ 1000000000) (hg : GL w) (ok : Bool) (h : dgOk xs = ok) :
    Calls Tryd.prog 10 #[.slice A n c] w (RetIB w (if ok then Dg.nm xs else 0) ok) := by
  obtain ⟨R, hR⟩ : ∃ R, (if ok then Dg.nm xs else 0) = R := ⟨_, rfl⟩
  rw [hR]
  have HR := Lib.hid hR
  clear hR
  have K := Lib.hid (checkDigits_any A n c xs w ha hn)
  have HA := Lib.hid ha
  have HG := Lib.hid hg
  have HH := Lib.hid h
  clear ha hg h
  go_enter Tryd.func10, Tryd.ntmps10
  go_wp2_with fail
  refine K.out.mono ?_
  rintro e w1 ⟨hv, hb⟩
  rw [HH.out] at hv
  have HB := Lib.hid hb
  clear K hb
  rcases hv with ⟨rfl, rfl⟩ | ⟨rfl, g, rfl⟩
  · have HT := Lib.hid (dgOk_true HH.out)
    go_wp2_with fail
    refine (refused_nil w1).mono ?_
    rintro e w2 ⟨rfl, hb⟩
    have HB2 := Lib.hid (HB.out.trans (hb.mono HB.out.size))
    have HA2 := Lib.hid (HA.out.below HB2.out).lt
    clear hb HB
    go_wp2_with fail
    refine (number_any A n c xs w2 HA2.out (by have := HT.out.1; omega)).mono ?_
    rintro e w3 ⟨rfl, hb⟩
    have HB3 := Lib.hid (HB2.out.trans (hb.mono HB2.out.size))
    clear hb
    rw [nmW_upto xs HT.out.1 HT.out.2, show Dg.nm xs = R from HR.out]
    go_wp2_with fail
    go_ret2
    exact ⟨rfl, HB3.out⟩
  · obtain rfl : 0 = R := HR.out
    clear HR
    go_wp2_with fail
    refine (refused_hit g w1 (HG.out.below HB.out)).mono ?_
    rintro e w2 ⟨rfl, hb⟩
    have HB2 := Lib.hid (HB.out.trans (hb.mono HB.out.size))
    clear hb HB
    go_wp2_with fail
    go_ret2
    exact ⟨rfl, HB2.out⟩
end Go.Proofs.YtmakekolaclgnaaDoor
