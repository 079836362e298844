/- FnPanBest: powers of 3 weigh all, each one in one way: the walk. -/
import Derived.Test.YtbpnpceikbedbaaPanBest
import Derived.Test.YtbpnpceikbedbaaPanWhole
import Derived.Test.YtbpnpceikbedbaaDraw
namespace Go.Proofs.Ytbpnpceikbedbaa
set_option linter.unusedVariables false
open Go.RowKit
def RetIn (w : World) (lo hi : Int) (e : Ending) (w' : World) : Prop := ∃ v : Int, e = .returned (.int .i64 v) ∧ lo ≤ v ∧ v ≤ hi ∧ Below w.heap.size w w'
theorem below_row {w w1 w2 : World} {g : Nat} (hb : Below w.heap.size w w1) (hg : w1.grownBy w2 (some g)) (h : w.heap.size ≤ g) : Below w.heap.size w w2 :=
  hb.grown hg hb.size (fun k e => by cases e; exact h)
set_option maxHeartbeats 400000 in
theorem drawPanBest_any (A : Option Addr) (n c : Nat) (bs : List Int) (w : World) (h : Rb w w.heap.size A n bs) (hnc : n ≤ c) :
    Calls Try.prog 21 #[.slice A n c] w (RetIn w (-1) 5) := by
  go_enter Try.func21, Try.ntmps21
  go_wp2_with fail
  refine (l6Open_any _ _ _ _ _ h hnc).mono ?_
  rintro e w1 ⟨g, rfl, hr, hg, hb⟩
  have HR := Lib.hid hr
  have HB := Lib.hid hb
  clear hr hb
  go_wp2_with fail
  refine (pick_any _ _ _ _ HR.out (by omega) (by omega)).mono ?_
  rintro e w2 ⟨v, rfl, h0, h1, _, _, hg2⟩
  have h2 := h1 (by omega)
  have HG := Lib.hid hg2
  clear h1 hg2
  go_wp2_with fail
  go_ret
  exact ⟨v - 1, rfl, by omega, by omega, below_row HB.out HG.out hg⟩
theorem pw_facts {n : Nat} (h : n ≤ 4) : sumIn (pw n) = true ∧ ∃ T : Nat, T ≤ 40 ∧ pcs (pw n) = List.replicate (T + 1) 1 ∧ whole (pcs (pw n)) = T ∧ (3 : Int) ^ n = 2 * T + 1 := by
  have : n = 0 ∨ n = 1 ∨ n = 2 ∨ n = 3 ∨ n = 4 := by omega
  rcases this with rfl | rfl | rfl | rfl | rfl
  · exact ⟨by decide +kernel, 0, by omega, by decide +kernel, by decide +kernel, by decide⟩
  · exact ⟨by decide +kernel, 1, by omega, by decide +kernel, by decide +kernel, by decide⟩
  · exact ⟨by decide +kernel, 4, by omega, by decide +kernel, by decide +kernel, by decide⟩
  · exact ⟨by decide +kernel, 13, by omega, by decide +kernel, by decide +kernel, by decide⟩
  · exact ⟨by decide +kernel, 40, by omega, by decide +kernel, by decide +kernel, by decide⟩
set_option maxRecDepth 100000 in
set_option maxHeartbeats 1600000 in
theorem mainPanBest (a0 : Option Addr) (n0 c0 : Nat) (z0 : List Int) (w : World) (hd0 : Rb w w.heap.size a0 n0 z0) (hk0 : n0 ≤ c0) : Calls Try.prog 7 #[.slice a0 n0 c0] w (RetB w true) := by
  by_cases big : 1048576 < n0
  · go_enter Try.func7, Try.ntmps7
    go_wp2_with fail
    go_ret
    exact ⟨rfl, Below.refl _ _⟩
  go_enter Try.func7, Try.ntmps7
  go_wp2_with fail
  refine (drawPanBest_any _ _ _ _ _ hd0 hk0).mono ?_
  rintro e w1 ⟨v, rfl, h1, h2, hb1⟩
  have B1 := Lib.hid hb1
  clear hb1 hd0
  by_cases hin : 0 ≤ v ∧ v ≤ 4
  · obtain ⟨n, rfl⟩ := Int.eq_ofNat_of_zero_le hin.1
    have hn : n ≤ 4 := by omega
    obtain ⟨hs, T, hT, hp, hw, h3⟩ := pw_facts hn
    have hpl : (pw n).length ≤ 10 := sumIn_len hs
    have HP := Lib.hid hp
    have HW := Lib.hid hw
    have H3 := Lib.hid h3
    have HS := Lib.hid hs
    clear hin h1 h2 hp hw h3 hs
    go_wp2_with fail
    refine (implPanBest_yes n _ hn).mono ?_
    rintro e w2 ⟨A1, n1, c1, rfl, ho1, hb2⟩
    have hl1 := ho1.len
    have R1 := Lib.hid ho1.rd
    have B2 := Lib.hid (B1.out.trans (hb2.mono B1.out.size))
    clear ho1 hb2 B1
    go_wp2_with fail
    refine (specPanBest_yes n _ hn).mono ?_
    rintro e w3 ⟨A2, n2, c2, rfl, ho2, hb3⟩
    have hl2 := ho2.len
    obtain rfl : n1 = n2 := by omega
    have R2 := Lib.hid ho2.rd
    have R1' := Lib.hid (R1.out.below hb3).lt
    have B3 := Lib.hid (B2.out.trans (hb3.mono B2.out.size))
    clear ho2 hb3 B2 R1
    go_wp2_with fail
    refine (sameInts_same _ _ _ _ _ _ _ R1'.out R2.out (by omega)).mono ?_
    rintro e w4 ⟨rfl, hb4⟩
    have R1 := Lib.hid (R1'.out.below hb4).lt
    have B4 := Lib.hid (B3.out.trans (hb4.mono B3.out.size))
    clear hb4 B3 R1' R2
    go_wp2_with fail
    refine (implPanWhole_yes _ _ _ _ _ R1.out HS.out).mono ?_
    rintro e w5 ⟨rfl, hb5⟩
    rw [HW.out]
    have R1' := Lib.hid (R1.out.below hb5).lt
    have B5 := Lib.hid (B4.out.trans (hb5.mono B4.out.size))
    clear hb5 B4 R1
    go_wp2_with fail
    refine (implPanCounts_yes _ _ _ _ _ R1'.out HS.out).mono ?_
    rintro e w6 ⟨A3, n3, c3, rfl, ho3, hb6⟩
    rw [HP.out] at ho3
    have hl3 := ho3.len
    rw [List.length_replicate] at hl3
    have R3 := Lib.hid ho3.rd
    have B6 := Lib.hid (B5.out.trans (hb6.mono B5.out.size))
    clear ho3 hb6 B5 R1'
    go_wp2_with fail
    go_loop [12, 13] (fun a i => ∃ k : Nat, k ≤ n ∧ i = .int .i64 k ∧ a = .int .i64 (3 ^ k)) (fun _ i => n - (intOf i).toNat)
    case atStart => exact ⟨0, by omega, rfl, rfl⟩
    case round =>
      obtain ⟨k, hk, rfl, rfl⟩ := hrel
      by_cases hlt : k < n
      · have hp := pw3 (k := k) (by omega)
        obtain ⟨p, hpe⟩ : ∃ p : Int, p = 3 ^ k := ⟨_, rfl⟩
        rw [← hpe] at hp ⊢
        have HPE := Lib.hid hpe
        clear hpe
        go_wp2_with fail
        go_round
        case rel => exact ⟨k + 1, by omega, by go_num, by rw [HPE.out, Int.pow_succ]⟩
        case measure => simp [intOf]; omega
      · have hkn : k = n := by omega
        subst hkn
        rw [H3.out]
        go_wp2_with fail
        go_loop [14] (fun i => ∃ j : Nat, j ≤ T + 1 ∧ i = .int .i64 j) (fun i => T + 1 - (intOf i).toNat)
        case atStart => exact ⟨0, by omega, rfl⟩
        case round =>
          obtain ⟨j, hj, rfl⟩ := hrel
          by_cases hjt : j < T + 1
          · obtain ⟨b, off, rfl, _, hc⟩ := R3.out.at_ (k := j) (by omega)
            have g1 := hc j (by omega)
            rw [show (List.replicate (T + 1) (1 : Int)).getD j 0 = 1 from by simp [List.getD, hjt]] at g1
            have hj3 : (j : Int) < (n3 : Int) := by omega
            clear hc
            go_wp2_with fail
            go_round
            case rel => exact ⟨j + 1, by omega, by go_num⟩
            case measure => simp [intOf]; omega
          · have hj3 : ¬ (j : Int) < (n3 : Int) := by omega
            have hT3 : (2 * (T : Int) + 1 == 2 * (T : Int) + 1) = true := by simp
            go_wp2_with fail
            go_ret
            exact ⟨rfl, B6.out⟩
  · have HN := Lib.hid hin
    clear hin
    go_wp2_with fail
    refine (implPanBest_no _ _ HN.out).mono ?_
    rintro e w2 ⟨A1, n1, c1, rfl, ho1, hb2⟩
    have hl1 := ho1.len
    have R1 := Lib.hid ho1.rd
    have B2 := Lib.hid (B1.out.trans (hb2.mono B1.out.size))
    clear ho1 hb2 B1
    go_wp2_with fail
    refine (specPanBest_no _ _ HN.out).mono ?_
    rintro e w3 ⟨A2, n2, c2, rfl, ho2, hb3⟩
    have hl2 := ho2.len
    obtain rfl : n1 = n2 := by omega
    have R2 := Lib.hid ho2.rd
    have R1' := Lib.hid (R1.out.below hb3).lt
    have B3 := Lib.hid (B2.out.trans (hb3.mono B2.out.size))
    have hl3 : n1 ≤ 10 := by have := hl1; simp at this; omega
    clear ho2 hb3 B2 R1 hl1 hl2
    go_wp2_with fail
    refine (sameInts_same _ _ _ _ _ _ _ R1'.out R2.out (by omega)).mono ?_
    rintro e w4 ⟨rfl, hb4⟩
    have R1 := Lib.hid (R1'.out.below hb4).lt
    have R2' := Lib.hid (R2.out.below hb4).lt
    have B4 := Lib.hid (B3.out.trans (hb4.mono B3.out.size))
    clear hb4 B3 R1' R2
    go_wp2_with fail
    refine (sameInts_same _ _ _ _ _ _ _ R1.out R2'.out (by omega)).mono ?_
    rintro e w5 ⟨rfl, hb5⟩
    have B5 := Lib.hid (B4.out.trans (hb5.mono B4.out.size))
    clear hb5 B4
    go_wp2_with fail
    go_ret
    exact ⟨rfl, B5.out⟩
end Go.Proofs.Ytbpnpceikbedbaa
