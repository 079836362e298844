
/- PanAdd: both packages. -/
import Derived.Test.YtmakekolaclgnaaDoorPanNum
import Derived.Test.YtmakekolaclgnaaDoorPanDigits
namespace Go.Proofs.YtmakekolaclgnaaDoor
set_option linter.unusedVariables false
open Go.RowKit
/-- The number told by a list, 0 where it is none. -/
def nmv (xs : List Int) : Int := if dgOk xs then Dg.nm xs else 0
theorem nmv_bound (xs : List Int) : -265720 ≤ nmv xs ∧ nmv xs ≤ 265720 := by
  unfold nmv
  split
  · rename_i h
    exact nm_bound (dgOk_true h).2 (dgOk_true h).1
  · omega
/-- The digits of a sum. -/
def sumD (xs ys : List Int) : List Int := if dgOk xs && dgOk ys then Dg.dg (nmv xs + nmv ys) else []
theorem sumD_len (xs ys : List Int) : (sumD xs ys).length ≤ 13 := by
  unfold sumD
  split
  · have h1 := nmv_bound xs
    have h2 := nmv_bound ys
    exact Dg.dg_len 13 _ (by omega)
  · simp
theorem sumD_no1 {xs ys : List Int} (h : dgOk xs = false) : [] = sumD xs ys := by unfold sumD; rw [h]; rfl
theorem sumD_no2 {xs ys : List Int} (h : dgOk ys = false) : [] = sumD xs ys := by unfold sumD; rw [h, Bool.and_false]; rfl
set_option maxHeartbeats 1600000 in
theorem implPanAdd_any (A : Option Addr) (n c : Nat) (xs : List Int) (A' : Option Addr) (n' c' : Nat) (ys : List Int) (w : World) (ha : Rd w w.heap.size A n xs) (ha' : Rd w w.heap.size A' n' ys) (hn : n ≤ 1000000000) (hn' : n' ≤ 1000000000) (hg : GL w) :
    Calls Tryd.prog 17 #[.slice A n c, .slice A' n' c'] w (RetOwnB w (sumD xs ys) (dgOk xs && dgOk ys)) := by
  have HA' := Lib.hid ha'
  have HG := Lib.hid hg
  have K1 := Lib.hid (implPanNumber_any A n c xs w ha hn hg _ rfl)
  change Hid (Calls _ _ _ _ (RetIB w (nmv xs) _)) at K1
  obtain ⟨x1, x2⟩ := nmv_bound xs
  obtain ⟨y1, y2⟩ := nmv_bound ys
  have hS1 := @sumD_no1 xs ys
  have hS2 := @sumD_no2 xs ys
  have hS3 : (dgOk xs && dgOk ys) = true → Dg.dg (nmv xs + nmv ys) = sumD xs ys := fun h => by unfold sumD; rw [if_pos h]
  have K2 : Hid (∀ w1 : World, Below w.heap.size w w1 → Calls Tryd.prog 10 #[.slice A' n' c'] w1 (RetIB w1 (nmv ys) (dgOk ys))) := Lib.hid fun w1 hb => implPanNumber_any A' n' c' ys w1 (HA'.out.below hb).lt hn' (HG.out.below hb) _ rfl
  generalize nmv xs = x at *
  generalize nmv ys = y at *
  generalize sumD xs ys = S at *
  generalize dgOk xs = b1 at *
  generalize dgOk ys = b2 at *
  clear ha ha' hg
  cases b1 with
  | false =>
    obtain rfl : [] = S := hS1 rfl
    clear hS1 hS2 hS3
    go_enter Tryd.func17, Tryd.ntmps17
    go_wp2_with fail
    refine K1.out.mono ?_
    rintro e w1 ⟨rfl, hb⟩
    have HB := Lib.hid hb
    clear hb
    go_wp2_with fail
    refine (K2.out w1 HB.out).mono ?_
    rintro e w2 ⟨rfl, hb⟩
    have HB2 := Lib.hid (HB.out.trans (hb.mono HB.out.size))
    clear hb HB
    go_wp2_with fail
    go_ret2
    exact ⟨_, _, _, rfl, (own_empty w2).mono HB2.out.size, HB2.out.alloc HB2.out.size _⟩
  | true =>
    cases b2 with
    | false =>
      obtain rfl : [] = S := hS2 rfl
      clear hS1 hS2 hS3
      go_enter Tryd.func17, Tryd.ntmps17
      go_wp2_with fail
      refine K1.out.mono ?_
      rintro e w1 ⟨rfl, hb⟩
      have HB := Lib.hid hb
      clear hb
      go_wp2_with fail
      refine (K2.out w1 HB.out).mono ?_
      rintro e w2 ⟨rfl, hb⟩
      have HB2 := Lib.hid (HB.out.trans (hb.mono HB.out.size))
      clear hb HB
      go_wp2_with fail
      go_ret2
      exact ⟨_, _, _, rfl, (own_empty w2).mono HB2.out.size, HB2.out.alloc HB2.out.size _⟩
    | true =>
      have HS := Lib.hid (hS3 rfl)
      clear hS1 hS2 hS3
      go_enter Tryd.func17, Tryd.ntmps17
      go_wp2_with fail
      refine K1.out.mono ?_
      rintro e w1 ⟨rfl, hb⟩
      have HB := Lib.hid hb
      clear hb
      go_wp2_with fail
      refine (K2.out w1 HB.out).mono ?_
      rintro e w2 ⟨rfl, hb⟩
      have HB2 := Lib.hid (HB.out.trans (hb.mono HB.out.size))
      clear hb HB
      go_wp2_with fail
      refine (signsOf_any (x + y) w2 (by omega) (by omega)).mono ?_
      rintro e w3 ⟨A3, n3, c3, rfl, ho, hb⟩
      rw [HS.out] at ho
      have HO := Lib.hid (ho.mono HB2.out.size)
      have HB3 := Lib.hid (HB2.out.trans (hb.mono HB2.out.size))
      clear ho hb
      go_wp2_with fail
      go_ret2
      exact ⟨_, _, _, rfl, HO.out, HB3.out⟩
set_option maxHeartbeats 1600000 in
theorem specPanAdd_any (A : Option Addr) (n c : Nat) (xs : List Int) (A' : Option Addr) (n' c' : Nat) (ys : List Int) (w : World) (ha : Rd w w.heap.size A n xs) (ha' : Rd w w.heap.size A' n' ys) (hn : n ≤ 1000000000) (hn' : n' ≤ 1000000000) :
    Calls Tryd.prog 16 #[.slice A n c, .slice A' n' c'] w (RetOwnB w (sumD xs ys) (dgOk xs && dgOk ys)) := by
  have HA' := Lib.hid ha'
  have K1 := Lib.hid (specPanNumber_any A n c xs w ha hn _ rfl)
  change Hid (Calls _ _ _ _ (RetIB w (nmv xs) _)) at K1
  obtain ⟨x1, x2⟩ := nmv_bound xs
  obtain ⟨y1, y2⟩ := nmv_bound ys
  have hS1 := @sumD_no1 xs ys
  have hS2 := @sumD_no2 xs ys
  have hS3 : (dgOk xs && dgOk ys) = true → Dg.dg (nmv xs + nmv ys) = sumD xs ys := fun h => by unfold sumD; rw [if_pos h]
  have K2 : Hid (∀ w1 : World, Below w.heap.size w w1 → Calls Tryd.prog 8 #[.slice A' n' c'] w1 (RetIB w1 (nmv ys) (dgOk ys))) := Lib.hid fun w1 hb => specPanNumber_any A' n' c' ys w1 (HA'.out.below hb).lt hn' _ rfl
  generalize nmv xs = x at *
  generalize nmv ys = y at *
  generalize sumD xs ys = S at *
  generalize dgOk xs = b1 at *
  generalize dgOk ys = b2 at *
  clear ha ha'
  cases b1 with
  | false =>
    obtain rfl : [] = S := hS1 rfl
    clear hS1 hS2 hS3
    go_enter Tryd.func16, Tryd.ntmps16
    go_wp2_with fail
    refine K1.out.mono ?_
    rintro e w1 ⟨rfl, hb⟩
    have HB := Lib.hid hb
    clear hb
    go_wp2_with fail
    refine (K2.out w1 HB.out).mono ?_
    rintro e w2 ⟨rfl, hb⟩
    have HB2 := Lib.hid (HB.out.trans (hb.mono HB.out.size))
    clear hb HB
    go_wp2_with fail
    go_ret2
    exact ⟨_, _, _, rfl, (own_empty w2).mono HB2.out.size, HB2.out.alloc HB2.out.size _⟩
  | true =>
    cases b2 with
    | false =>
      obtain rfl : [] = S := hS2 rfl
      clear hS1 hS2 hS3
      go_enter Tryd.func16, Tryd.ntmps16
      go_wp2_with fail
      refine K1.out.mono ?_
      rintro e w1 ⟨rfl, hb⟩
      have HB := Lib.hid hb
      clear hb
      go_wp2_with fail
      refine (K2.out w1 HB.out).mono ?_
      rintro e w2 ⟨rfl, hb⟩
      have HB2 := Lib.hid (HB.out.trans (hb.mono HB.out.size))
      clear hb HB
      go_wp2_with fail
      go_ret2
      exact ⟨_, _, _, rfl, (own_empty w2).mono HB2.out.size, HB2.out.alloc HB2.out.size _⟩
    | true =>
      have HS := Lib.hid (hS3 rfl)
      clear hS1 hS2 hS3
      go_enter Tryd.func16, Tryd.ntmps16
      go_wp2_with fail
      refine K1.out.mono ?_
      rintro e w1 ⟨rfl, hb⟩
      have HB := Lib.hid hb
      clear hb
      go_wp2_with fail
      refine (K2.out w1 HB.out).mono ?_
      rintro e w2 ⟨rfl, hb⟩
      have HB2 := Lib.hid (HB.out.trans (hb.mono HB.out.size))
      clear hb HB
      go_wp2_with fail
      refine (l7Digits_any (x + y) w2 (by omega) (by omega)).mono ?_
      rintro e w3 ⟨A3, n3, c3, rfl, ho, hb⟩
      rw [HS.out] at ho
      have HO := Lib.hid (ho.mono HB2.out.size)
      have HB3 := Lib.hid (HB2.out.trans (hb.mono HB2.out.size))
      clear ho hb
      go_wp2_with fail
      go_ret2
      exact ⟨_, _, _, rfl, HO.out, HB3.out⟩
end Go.Proofs.YtmakekolaclgnaaDoor
