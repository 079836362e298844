
/- spec.BinFits. -/
import Derived.Test.YtbihdajoflaknaaFitsP
namespace Go.Proofs.Ytbihdajoflaknaa
set_option linter.unusedVariables false
open Go.RowKit
set_option maxRecDepth 100000 in
set_option maxHeartbeats 3200000 in
theorem specBinFits_any (A : Option Addr) (n c : Nat) (xs : List Int) (C : Int) (A' : Option Addr) (n' c' : Nat) (fs : List Sl) (B : List (List Int)) (w : World) (ha : Rd w w.heap.size A n xs) (hn : n ≤ 1000000000) (hb : RdF w A' n' fs B) (hn' : n' ≤ 1048576) (hf : B.flatten.length ≤ 1048576) (ok : Bool) (h : fitsB xs C B = ok) :
    Calls Try.prog 6 #[.slice A n c, .int .i64 C, .slice A' n' c'] w (RetB w ok) := by
  have hl := ha.len
  have hBl := hb.1
  have HA := Lib.hid ha
  have HF := Lib.hid hb
  have HH := Lib.hid h
  cases hk : bnOk xs C with
  | false =>
    obtain rfl : ok = false := by rw [← h]; exact fits_not hk
    have HK := Lib.hid hk
    clear ha hb h hk
    go_enter Try.func6, Try.ntmps6
    go_wp2_with (go_at_call 15; refine (l4Given_any _ _ _ _ _ _ HA.out hn _ HK.out).mono ?_; rintro e w' ⟨rfl, rfl⟩)
    go_ret
    exact ⟨rfl, Below.refl _ _⟩
  | true =>
    have HK := Lib.hid hk
    have hn10 : n ≤ 10 := by have := (bnOk_in hk).1; omega
    have HO0 := Lib.hid (own_empty w)
    have HB0 : Hid (Below w.heap.size w (w.alloc (.cells #[] 3))) := Lib.hid ((Below.refl _ _).alloc (Nat.le_refl _) _)
    clear ha hb h hk
    go_enter Try.func6, Try.ntmps6
    go_wp2_with (go_at_call 15; refine (l4Given_any _ _ _ _ _ _ HA.out hn _ HK.out).mono ?_; rintro e w' ⟨rfl, rfl⟩)
    go_loopw [7, 8] (fun s i wr => ∃ (k : Nat) (A1 : Option Addr) (m1 c1 : Nat), k ≤ n' ∧ i = .int .i64 k ∧ s = .slice A1 m1 c1 ∧ m1 ≤ 1048576 ∧ Hid (m1 = upTo B k) ∧ Hid (Own wr w.heap.size A1 m1 c1 (B.take k).flatten) ∧ Hid (Below w.heap.size w wr) ∧ Hid (∀ j, j < k → wsum (B.getD j []) 0 ≤ C)) (fun _ i _ => n' - (intOf i).toNat)
    case atStart => exact ⟨0, _, 0, _, by omega, rfl, rfl, by omega, Lib.hid (by simp [upTo]), by simpa using HO0, HB0, Lib.hid (fun j hj => absurd hj (by omega))⟩
    case round =>
      obtain ⟨k, A1, m1, c1, hk, rfl, rfl, hm1, HM, HO, HB, HT⟩ := hrel
      clear HO0 HB0
      have hbs := HB.out.size
      by_cases hlt : k < n'
      · have R1 := HF.out.below HB.out
        obtain ⟨b1, o1, rfl, _, hc1⟩ := R1.2.1 (by omega)
        have g1 := hc1 k hlt
        have r1 := R1.2.2 k hlt
        have hus := upTo_succ (B := B) (k := k) (by omega)
        have hul := upTo_le B (k + 1)
        have hfl := flat_succ (B := B) (k := k) (by omega)
        have hrl := r1.len
        obtain ⟨⟨Ak, nk, ck⟩, hfs⟩ : ∃ s, fs.getD k slNil = s := ⟨_, rfl⟩
        rw [hfs] at g1 r1 hrl
        have g1_ : wr.cell? ⟨b1, o1 + k, none⟩ = some (.slice Ak nk ck) := g1
        have r1_ : Rd wr wr.heap.size Ak nk (B.getD k []) := r1
        have hrl_ : (B.getD k []).length = nk := hrl
        rw [hrl_, ← HM.out] at hus
        have RR := Lib.hid r1_
        have HUS : Hid (m1 + nk = upTo B (k + 1)) := Lib.hid hus.symm
        have hnk : m1 + nk ≤ 1048576 := by omega
        have HFL := Lib.hid hfl
        have K := Lib.hid (l4Total_any Ak nk ck (B.getD k []) wr r1_ (by omega))
        obtain ⟨t, ht⟩ : ∃ t, wsum (B.getD k []) 0 = t := ⟨_, rfl⟩
        rw [ht] at K
        have HX := Lib.hid ht
        have i1 : (0 : Int) ≤ (k : Int) := by omega
        have i2 : (k : Int) < (n' : Int) := by omega
        have i3 : ((k : Int)).toNat = k := by omega
        clear hc1 hfs R1 g1 r1 r1_ hus hul hfl hrl hrl_ ht
        by_cases hgt : C < t
        · obtain rfl : ok = false := by rw [← HH.out]; exact fits_row (j := k) (by omega) (by rw [HX.out]; exact hgt)
          have d1 : decide (C < t) = true := decide_eq_true hgt
          go_wp2_with fail
          refine K.out.mono ?_
          rintro e w6 ⟨rfl, rfl⟩
          go_wp2_with fail
          go_ret
          exact ⟨rfl, HB.out⟩
        · have d1 : decide (C < t) = false := decide_eq_false hgt
          have HT2 : Hid (∀ q, q < k + 1 → wsum (B.getD q []) 0 ≤ C) := Lib.hid (fun q hq => by
            rcases Nat.lt_or_ge q k with h | h
            · exact HT.out q h
            · have : q = k := by omega
              subst this
              rw [HX.out]
              omega)
          go_wp2_with fail
          refine K.out.mono ?_
          rintro e w6 ⟨rfl, rfl⟩
          go_wp2_with (at_builtin; refine wpList_app rfl _ _ _ rfl Try.underlying22 rfl HO.out rfl RR.out (by omega) (by omega) ?_; intro A2 c2 w2 ho2 hg2 hb2)
          have O2 : Hid (Own w2 w.heap.size A2 (m1 + nk) c2 (B.take (k + 1)).flatten) := Lib.hid (by rw [HFL.out]; exact ho2)
          have B2 := Lib.hid (HB.out.grown hg2 hbs (fun g e => (HO.out.lt g e).1))
          clear ho2 hg2 hb2
          go_roundw
          case rel => exact ⟨k + 1, A2, m1 + nk, c2, by omega, by go_num, rfl, by omega, HUS, O2, B2, HT2⟩
          case measure => simp [intOf]; omega
      · have e : k = n' := by omega
        subst e
        have OW : Hid (Own wr w.heap.size A1 m1 c1 B.flatten) := Lib.hid (by have := HO.out; rwa [upTo_all (by omega)] at this)
        have AW := Lib.hid (HA.out.below HB.out).lt
        have hfl := OW.out.len
        clear HO hlt
        by_cases hlen : m1 = n
        · subst hlen
          have e0 : (((m1 : Nat) : Int) != (m1 : Int)) = false := by simp
          go_wp2_with fail
          refine (l1Sorted_any _ _ _ _ _ AW.out (by omega)).mono ?_
          rintro e w2 ⟨A2, n2, c2, rfl, ho, hb⟩
          have hl2 := ho.len
          rw [(Srt.up_perm _).length_eq, hl] at hl2
          subst hl2
          have O2 := Lib.hid ho.rd
          have B2 := Lib.hid (HB.out.trans (hb.mono hbs))
          have OW2 := Lib.hid (OW.out.below hb).rd
          clear ho hb OW HB AW
          go_wp2_with fail
          refine (l1Sorted_any _ _ _ _ _ OW2.out (by omega)).mono ?_
          rintro e w3 ⟨A3, n3, c3, rfl, ho, hb⟩
          have hl3 := ho.len
          rw [(Srt.up_perm _).length_eq, hfl] at hl3
          subst hl3
          have O3 := Lib.hid ho.rd
          have O2_ := Lib.hid (O2.out.below hb).lt
          have B3 := Lib.hid (B2.out.trans (hb.mono B2.out.size))
          clear ho hb B2 OW2 O2
          go_wp2_with fail
          go_loopw [11] (fun i wr => ∃ j q : Nat, j ≤ m1 ∧ i = .int .i64 j ∧ wr = w3.drewN q ∧ Hid (∀ p, p < j → (Srt.up xs).getD p 0 = (Srt.up B.flatten).getD p 0)) (fun i _ => m1 - (intOf i).toNat)
          case atStart => exact ⟨0, 0, by omega, rfl, rfl, Lib.hid (fun j hj => absurd hj (by omega))⟩
          case round =>
            obtain ⟨j, q, hj, rfl, rfl, HE⟩ := hrel
            by_cases hlt : j < m1
            · obtain ⟨b1, o1, rfl, _, hc1⟩ := O2_.out.at_ hlt
              obtain ⟨b2, o2, rfl, _, hc2⟩ := O3.out.at_ hlt
              have g1 := hc1 j hlt
              have g2 := hc2 j hlt
              obtain ⟨x, hx⟩ : ∃ x, (Srt.up xs).getD j 0 = x := ⟨_, rfl⟩
              obtain ⟨y, hy⟩ : ∃ x, (Srt.up B.flatten).getD j 0 = x := ⟨_, rfl⟩
              rw [hx] at g1
              rw [hy] at g2
              have HX := Lib.hid hx
              have HY := Lib.hid hy
              have i1 : (0 : Int) ≤ (j : Int) := by omega
              have i2 : (j : Int) < (m1 : Int) := by omega
              have i3 : ((j : Int)).toNat = j := by omega
              clear hc1 hc2 hx hy
              by_cases hxy : x = y
              · subst hxy
                have hxx : (x != x) = false := by simp
                have HE2 : Hid (∀ p, p < j + 1 → (Srt.up xs).getD p 0 = (Srt.up B.flatten).getD p 0) := Lib.hid (fun p hp => by
                  rcases Nat.lt_or_ge p j with h | h
                  · exact HE.out p h
                  · have : p = j := by omega
                    subst this
                    rw [HX.out, HY.out])
                go_wp2_with fail
                go_quiet (fail)
                go_wp2_with fail
                go_roundw
                case rel => exact ⟨j + 1, q + nq, by omega, by go_num, rfl, HE2⟩
                case measure => simp [intOf]; omega
              · have hxx : (x != y) = true := bne_iff_ne.2 hxy
                obtain rfl : ok = false := by rw [← HH.out]; exact fits_up (fun e => hxy (by rw [← HX.out, ← HY.out, e]))
                go_wp2_with fail
                go_quiet (fail)
                go_wp2_with fail
                go_ret
                exact ⟨rfl, by rw [World.drewN_drewN]; exact below_drewN B3.out _⟩
            · have e : j = m1 := by omega
              subst e
              have hup : Srt.up xs = Srt.up B.flatten := ext_getD (by rw [(Srt.up_perm _).length_eq, (Srt.up_perm _).length_eq]; omega) (by rw [(Srt.up_perm _).length_eq, hl]; exact HE.out)
              obtain rfl : ok = true := by rw [← HH.out]; exact fits_yes HK.out (perm_of_up hup.symm) (by rw [hBl]; exact HT.out)
              clear hup
              go_wp2_with fail
              go_ret
              exact ⟨rfl, below_drewN B3.out q⟩
        · have e0 : (((m1 : Nat) : Int) != (n : Int)) = true := by simp; omega
          obtain rfl : ok = false := by rw [← HH.out]; exact fits_len (by omega)
          go_wp2_with fail
          go_ret
          exact ⟨rfl, HB.out⟩
end Go.Proofs.Ytbihdajoflaknaa
