
/- impl.BinFits. -/
import Derived.Test.YtbihdajoflaknaaFitsP
namespace Go.Proofs.Ytbihdajoflaknaa
set_option linter.unusedVariables false
open Go.RowKit
set_option maxRecDepth 100000 in
set_option maxHeartbeats 3200000 in
theorem implBinFits_any (A : Option Addr) (n c : Nat) (xs : List Int) (C : Int) (A' : Option Addr) (n' c' : Nat) (fs : List Sl) (B : List (List Int)) (w : World) (ha : Rd w w.heap.size A n xs) (hn : n ≤ 1000000000) (hb : RdF w A' n' fs B) (hn' : n' ≤ 1048576) (hf : B.flatten.length ≤ 1048576) (ok : Bool) (h : fitsB xs C B = ok) :
    Calls Try.prog 9 #[.slice A n c, .int .i64 C, .slice A' n' c'] w (RetB w ok) := by
  have hl := ha.len
  have hBl := hb.1
  have HA := Lib.hid ha
  have HF := Lib.hid hb
  have HH := Lib.hid h
  cases hk : bnOk xs C with
  | false =>
    obtain rfl : ok = false := by rw [← h]; exact fits_not hk
    have HK := Lib.hid hk
    clear ha hb h hk
    go_enter Try.func9, Try.ntmps9
    go_wp2_with (go_at_call 18; refine (binsTold_any _ _ _ _ _ _ HA.out hn _ HK.out).mono ?_; rintro e w' ⟨rfl, rfl⟩)
    go_ret
    exact ⟨rfl, Below.refl _ _⟩
  | true =>
    have HK := Lib.hid hk
    have hn10 : n ≤ 10 := by have := (bnOk_in hk).1; omega
    have HO0 := Lib.hid (own_empty w)
    have HB0 : Hid (Below w.heap.size w (w.alloc (.cells #[] 3))) := Lib.hid ((Below.refl _ _).alloc (Nat.le_refl _) _)
    clear ha hb h hk
    go_enter Try.func9, Try.ntmps9
    go_wp2_with (go_at_call 18; refine (binsTold_any _ _ _ _ _ _ HA.out hn _ HK.out).mono ?_; rintro e w' ⟨rfl, rfl⟩)
    go_loopw [7, 19] (fun s i wr => ∃ (k : Nat) (A1 : Option Addr) (m1 c1 : Nat), k ≤ n' ∧ i = .int .i64 k ∧ s = .slice A1 m1 c1 ∧ m1 ≤ n ∧ Hid (m1 = upTo B k) ∧ Hid (Own wr w.heap.size A1 m1 c1 (B.take k).flatten) ∧ Hid (Below w.heap.size w wr)) (fun _ i _ => n' - (intOf i).toNat)
    case atStart => exact ⟨0, _, 0, _, by omega, rfl, rfl, by omega, Lib.hid (by simp [upTo]), by simpa using HO0, HB0⟩
    case round =>
      obtain ⟨k, A1, m1, c1, hk, rfl, rfl, hm1, HM, HO, HB⟩ := hrel
      clear HO0 HB0
      have hbs := HB.out.size
      by_cases hlt : k < n'
      · have R1 := HF.out.below HB.out
        obtain ⟨b1, o1, rfl, _, hc1⟩ := R1.2.1 (by omega)
        have g1 := hc1 k hlt
        have r1 := R1.2.2 k hlt
        have hus := upTo_succ (B := B) (k := k) (by omega)
        have hul := upTo_le B (k + 1)
        have hfl := flat_succ (B := B) (k := k) (by omega)
        have hrl := r1.len
        obtain ⟨⟨Ak, nk, ck⟩, hfs⟩ : ∃ s, fs.getD k slNil = s := ⟨_, rfl⟩
        rw [hfs] at g1 r1 hrl
        have g1_ : wr.cell? ⟨b1, o1 + k, none⟩ = some (.slice Ak nk ck) := g1
        have r1_ : Rd wr wr.heap.size Ak nk (B.getD k []) := r1
        have hrl_ : (B.getD k []).length = nk := hrl
        rw [hrl_, ← HM.out] at hus
        have RR := Lib.hid r1_
        have HUS : Hid (m1 + nk = upTo B (k + 1)) := Lib.hid hus.symm
        have hnk : m1 + nk ≤ 1048576 := by omega
        have HFL := Lib.hid hfl
        have i1 : (0 : Int) ≤ (k : Int) := by omega
        have i2 : (k : Int) < (n' : Int) := by omega
        have i3 : ((k : Int)).toNat = k := by omega
        clear hc1 hfs R1 g1 r1 r1_ hus hul hfl hrl hrl_
        by_cases hgt : n < m1 + nk
        · have hne : B.flatten.length ≠ xs.length := by have := upTo_le B (k + 1); have := HUS.out; omega
          obtain rfl : ok = false := by rw [← HH.out]; exact fits_len hne
          have d1 : decide ((n : Int) < (m1 : Int) + (nk : Int)) = true := decide_eq_true (by omega)
          have d2 : decide ((n : Int) < ((m1 + nk : Nat) : Int)) = true := decide_eq_true (by omega)
          clear hne
          go_wp2_with (at_builtin; refine wpList_app rfl _ _ _ rfl Try.underlying22 rfl HO.out rfl RR.out (by omega) (by omega) ?_; intro A2 c2 w2 ho2 hg2 hb2)
          go_ret
          exact ⟨rfl, HB.out.grown hg2 hbs (fun g e => (HO.out.lt g e).1)⟩
        · have d1 : decide ((n : Int) < (m1 : Int) + (nk : Int)) = false := decide_eq_false (by omega)
          have d2 : decide ((n : Int) < ((m1 + nk : Nat) : Int)) = false := decide_eq_false (by omega)
          go_wp2_with (at_builtin; refine wpList_app rfl _ _ _ rfl Try.underlying22 rfl HO.out rfl RR.out (by omega) (by omega) ?_; intro A2 c2 w2 ho2 hg2 hb2)
          have O2 : Hid (Own w2 w.heap.size A2 (m1 + nk) c2 (B.take (k + 1)).flatten) := Lib.hid (by rw [HFL.out]; exact ho2)
          have B2 := Lib.hid (HB.out.grown hg2 hbs (fun g e => (HO.out.lt g e).1))
          clear ho2 hg2 hb2
          go_roundw
          case rel => exact ⟨k + 1, A2, m1 + nk, c2, by omega, by go_num, rfl, by omega, HUS, O2, B2⟩
          case measure => simp [intOf]; omega
      · have e : k = n' := by omega
        subst e
        have OW : Hid (Own wr w.heap.size A1 m1 c1 B.flatten) := Lib.hid (by have := HO.out; rwa [upTo_all (by omega)] at this)
        have AW := Lib.hid (HA.out.below HB.out).lt
        clear HO hlt
        go_wp2_with fail
        refine (inOrder_any _ _ _ _ _ OW.out.rd (by omega)).mono ?_
        rintro e w2 ⟨A2, n2, c2, rfl, ho, hb⟩
        have hl2 := ho.len
        rw [(Srt.dn_perm _).length_eq, OW.out.len] at hl2
        have O2 := Lib.hid ho.rd
        have B2 := Lib.hid (HB.out.trans (hb.mono hbs))
        have AW2 := Lib.hid (AW.out.below hb).lt
        clear ho hb OW HB AW
        go_wp2_with fail
        refine (inOrder_any _ _ _ _ _ AW2.out (by omega)).mono ?_
        rintro e w3 ⟨A3, n3, c3, rfl, ho, hb⟩
        have hl3 := ho.len
        rw [(Srt.dn_perm _).length_eq] at hl3
        have O3 := Lib.hid ho.rd
        have O2_ := Lib.hid (O2.out.below hb).lt
        have B3 := Lib.hid (B2.out.trans (hb.mono B2.out.size))
        clear ho hb B2 AW2 O2
        obtain ⟨b, hbq⟩ : ∃ b, decide (Srt.dn B.flatten = Srt.dn xs) = b := ⟨_, rfl⟩
        have K := Lib.hid (equal_any A2 A3 n2 n3 c2 c3 _ _ w3 O2_.out O3.out (by omega) (by omega) b hbq)
        have HBQ := Lib.hid hbq
        clear hbq O2_ O3
        cases b with
        | false =>
          obtain rfl : ok = false := by rw [← HH.out]; exact fits_dn (of_decide_eq_false HBQ.out)
          go_wp2_with fail
          refine K.out.mono ?_
          rintro e w4 ⟨rfl, q, rfl⟩
          go_wp2_with fail
          go_ret
          exact ⟨rfl, below_drewN B3.out q⟩
        | true =>
          have HPM : Hid (B.flatten.Perm xs) := Lib.hid (perm_of_dn (of_decide_eq_true HBQ.out))
          go_wp2_with fail
          refine K.out.mono ?_
          rintro e w4 ⟨rfl, q, rfl⟩
          have B4 := Lib.hid (below_drewN B3.out q)
          have F4 := Lib.hid (HF.out.below B4.out)
          clear K B3
          generalize w3.drewN q = w5 at *
          go_wp2_with fail
          go_loop [40] (fun i => ∃ j : Nat, j ≤ k ∧ i = .int .i64 j ∧ Hid (∀ q, q < j → wsum (B.getD q []) 0 ≤ C)) (fun i => k - (intOf i).toNat)
          case atStart => exact ⟨0, by omega, rfl, Lib.hid (fun j hj => absurd hj (by omega))⟩
          case round =>
            obtain ⟨j, hj, rfl, HT⟩ := hrel
            by_cases hlt : j < k
            · obtain ⟨b1, o1, rfl, _, hc1⟩ := F4.out.2.1 (by omega)
              have g1 := hc1 j hlt
              have r1 := F4.out.2.2 j hlt
              have hrl := r1.len
              have hle := upTo_le B (j + 1)
              rw [upTo_succ (by omega)] at hle
              obtain ⟨⟨Ak, nk, ck⟩, hfs⟩ : ∃ s, fs.getD j slNil = s := ⟨_, rfl⟩
              rw [hfs] at g1 r1 hrl
              have g1_ : w5.cell? ⟨b1, o1 + j, none⟩ = some (.slice Ak nk ck) := g1
              have hrl_ : (B.getD j []).length = nk := hrl
              have K := Lib.hid (totalOf_any Ak nk ck (B.getD j []) w5 r1 (by omega))
              obtain ⟨t, ht⟩ : ∃ t, wsum (B.getD j []) 0 = t := ⟨_, rfl⟩
              rw [ht] at K
              have HX := Lib.hid ht
              have i1 : (0 : Int) ≤ (j : Int) := by omega
              have i2 : (j : Int) < (k : Int) := by omega
              have i3 : ((j : Int)).toNat = j := by omega
              clear hc1 hfs g1 r1 hrl hrl_ hle ht
              by_cases hgt : C < t
              · obtain rfl : ok = false := by rw [← HH.out]; exact fits_row (j := j) (by omega) (by rw [HX.out]; exact hgt)
                have d1 : decide (C < t) = true := decide_eq_true hgt
                go_wp2_with fail
                refine K.out.mono ?_
                rintro e w6 ⟨rfl, rfl⟩
                go_wp2_with fail
                go_ret
                exact ⟨rfl, B4.out⟩
              · have d1 : decide (C < t) = false := decide_eq_false hgt
                have HT2 : Hid (∀ q, q < j + 1 → wsum (B.getD q []) 0 ≤ C) := Lib.hid (fun q hq => by
                  rcases Nat.lt_or_ge q j with h | h
                  · exact HT.out q h
                  · have : q = j := by omega
                    subst this
                    rw [HX.out]
                    omega)
                go_wp2_with fail
                refine K.out.mono ?_
                rintro e w6 ⟨rfl, rfl⟩
                go_wp2_with fail
                go_round
                case rel => exact ⟨j + 1, by omega, by go_num, HT2⟩
                case measure => simp [intOf]; omega
            · have e : j = k := by omega
              subst e
              obtain rfl : ok = true := by rw [← HH.out]; exact fits_yes HK.out HPM.out (by rw [hBl]; exact HT.out)
              go_wp2_with fail
              go_ret
              exact ⟨rfl, B4.out⟩
end Go.Proofs.Ytbihdajoflaknaa
