
/- Sides drawn from a code: some list of ints, no longer than the bound and two. -/
import Derived.Test.YtbfpllmoaooadaaDrawL
import Derived.Test.YtbfpllmoaooadaaSortL
namespace Go.Proofs.Ytbfpllmoaooadaa
set_option linter.unusedVariables false
open Go.RowKit
set_option maxRecDepth 100000 in
set_option maxHeartbeats 3200000 in
theorem l92Side_any (g p : Nat) (most : Int) (w : World) (h : Rdr w g p) (hp : p ≤ 1000) (hm1 : 0 ≤ most) (hm2 : most ≤ 20) :
    Calls Try.prog 70 #[.pointer (some ⟨g, 0, none⟩), .int .i64 most] w (Drew w g p 60 22) := by
  have hlt := h.lt
  have H := Lib.hid (h.below ((Below.refl _ _).alloc (Nat.le_refl _) (.cells #[] 3)))
  clear h
  go_enter Try.func70, Try.ntmps70
  go_wp2_with fail
  refine (pick_any _ _ _ _ H.out (by omega) (by omega)).mono ?_
  rintro e w1 ⟨v, rfl, v0, v1, _, r1, g1⟩
  have v2 := v1 (by omega)
  have R1 := Lib.hid r1
  have O1 := Lib.hid ((own_empty w).picked hlt g1)
  have G1 := Lib.hid (grownBy_trans (World.grownBy_alloc w (.cells #[] 3) (some g)) g1)
  clear r1 g1 v1 H
  obtain ⟨N, rfl⟩ := Int.eq_ofNat_of_zero_le v0
  have hN : N ≤ 20 := by omega
  clear v0 v2
  go_wp2_with fail
  go_loopw [5, 7] (fun o i wr => ∃ (k : Nat) (A : Option Addr) (c : Nat), k ≤ N ∧ i = .int .i64 k ∧ o = .slice A k c ∧ LR w g p k A c wr) (fun _ i _ => N - (intOf i).toNat)
  case atStart => exact ⟨0, _, _, by omega, rfl, rfl, [], p + 1, O1.out, R1.out, by omega, G1.out⟩
  case round =>
    obtain ⟨k, A, c, hk, rfl, rfl, xs, p1, ho, hr, hp1, hw⟩ := hrel
    clear R1 O1 G1
    have HO := Lib.hid ho
    have HR := Lib.hid hr
    have HW := Lib.hid hw
    clear ho hr hw
    by_cases hkn : k < N
    · go_wp2_with fail
      refine (pick_any _ _ _ _ HR.out (by omega) (by omega)).mono ?_
      rintro e w3 ⟨x, rfl, x0, x1, _, r3, g3⟩
      have x2 := x1 (by omega)
      have R3 := Lib.hid r3
      have O3 := Lib.hid (HO.out.picked hlt g3)
      have G3 := Lib.hid (grownBy_trans HW.out g3)
      have s3 : w.heap.size ≤ w3.heap.size := Nat.le_trans HW.out.size g3.size
      clear r3 g3 x1 HR HO HW
      go_wp2_with (at_builtin; refine wpList_pushN rfl _ _ _ rfl Try.underlying22 rfl O3.out rfl (by simp) (by omega) s3 ?_; intro A' c' w' ho' hg' hb')
      have F := Lib.hid (LR.push (p := p) hlt O3.out R3.out (by omega) G3.out ho' hg')
      clear ho' hg' hb'
      go_roundw
      case rel => exact ⟨k + 1, A', c', by omega, by go_num, rfl, F.out⟩
      case measure => simp [intOf]; omega
    · have hkN : k = N := by omega
      subst hkN
      go_wp2_with fail
      refine (l1Sorted_any _ _ _ _ _ HO.out.rd (by omega)).mono ?_
      rintro e w3 ⟨A3, n3, c3, rfl, ho, hb⟩
      have hn3 : n3 ≤ 20 := by
        have e1 : n3 = k := by rw [← ho.len, (Srt.up_perm xs).length_eq]; exact HO.out.len
        omega
      have s3 : w.heap.size ≤ w3.heap.size := Nat.le_trans HW.out.size hb.size
      have O3 := Lib.hid (ho.mono HW.out.size)
      have R3 := Lib.hid (HR.out.below hb)
      have G3 := Lib.hid (grownBy_trans HW.out (grown_of_below (row := some g) hb))
      clear ho hb HO HR HW
      obtain ⟨ys, hys⟩ : ∃ ys, Srt.up xs = ys := ⟨_, rfl⟩
      rw [hys] at O3
      clear hys
      go_wp2_with fail
      refine (pick_any _ _ _ _ R3.out (by omega) (by omega)).mono ?_
      rintro e w4 ⟨x, rfl, x0, x1, _, r4, g4⟩
      have R4 := Lib.hid r4
      have O4 := Lib.hid (O3.out.picked hlt g4)
      have G4 := Lib.hid (grownBy_trans G3.out g4)
      have s4 : w.heap.size ≤ w4.heap.size := Nat.le_trans s3 g4.size
      clear r4 g4 x1 R3 O3 G3
      by_cases hx : x = 0
      · have b1 : (x == 0) = true := by simpa using hx
        clear hx
        go_wp2_with (at_builtin; refine wpList_pushN rfl _ _ _ rfl Try.underlying22 rfl O4.out rfl (by simp) (by omega) s4 ?_; intro A' c' w' ho' hg' hb')
        go_ret
        exact ⟨A', n3 + 1, c', _, _, rfl, ho', by omega, R4.out.grown hg' (fun x e => by have := (O4.out.lt x e).1; omega), by omega, grown_more G4.out hg' (fun x e => (O4.out.lt x e).1)⟩
      · have b1 : (x == 0) = false := by simpa using hx
        clear hx
        go_wp2_with fail
        go_ret
        exact ⟨A3, n3, c3, _, _, rfl, O4.out, by omega, R4.out, by omega, G4.out⟩
/-- What a draw of a list hands back. -/
def RetL (w : World) (e : Ending) (w' : World) : Prop :=
  ∃ (A : Option Addr) (n c : Nat) (xs : List Int), e = .returned (.slice A n c) ∧ Own w' w.heap.size A n c xs ∧ n ≤ 30 ∧ Below w.heap.size w w'
/-- What a draw of a list and a number hands back. -/
def RetLN (w : World) (e : Ending) (w' : World) : Prop :=
  ∃ (A : Option Addr) (n c : Nat) (xs : List Int) (v : Int), e = .returned (.tuple #[.slice A n c, .int .i64 v]) ∧ Own w' w.heap.size A n c xs ∧ n ≤ 30 ∧ -1000 ≤ v ∧ v ≤ 1000 ∧ Below w.heap.size w w'
set_option maxHeartbeats 800000 in
theorem drawPowerIn_any (A : Option Addr) (n c : Nat) (bs : List Int) (w : World) (h : Rb w w.heap.size A n bs) (hnc : n ≤ c) :
    Calls Try.prog 42 #[.slice A n c] w (RetL w) := by
  go_enter Try.func42, Try.ntmps42
  go_wp2_with fail
  refine (l6Open_any _ _ _ _ _ h hnc).mono ?_
  rintro e w1 ⟨g, rfl, hr, hg, hb⟩
  have HR := Lib.hid hr
  have HB := Lib.hid hb
  have hs := hb.size
  clear hr hb h
  go_wp2_with fail
  refine (l92Side_any _ _ _ _ HR.out (by omega) (by omega) (by omega)).mono ?_
  rintro e w2 ⟨A1, n1, c1, p1, xs, rfl, ho, hn, r1, hp1, g1⟩
  have O1 := Lib.hid ho
  have G1 := Lib.hid g1
  clear r1 ho g1 HR
  go_wp2_with fail
  go_ret
  exact ⟨A1, n1, c1, xs, rfl, O1.out.mono hs, by omega, HB.out.grown G1.out hs (fun x e => by cases e; exact hg)⟩
set_option maxHeartbeats 800000 in
theorem drawPowerMoved_any (A : Option Addr) (n c : Nat) (bs : List Int) (w : World) (h : Rb w w.heap.size A n bs) (hnc : n ≤ c) :
    Calls Try.prog 44 #[.slice A n c] w (RetLN w) := by
  go_enter Try.func44, Try.ntmps44
  go_wp2_with fail
  refine (l6Open_any _ _ _ _ _ h hnc).mono ?_
  rintro e w1 ⟨g, rfl, hr, hg, hb⟩
  have HR := Lib.hid hr
  have HB := Lib.hid hb
  have hs := hb.size
  have hlt := hr.lt
  clear hr hb h
  go_wp2_with fail
  refine (l92Side_any _ _ _ _ HR.out (by omega) (by omega) (by omega)).mono ?_
  rintro e w2 ⟨A1, n1, c1, p1, xs, rfl, ho, hn, r1, hp1, g1⟩
  have O1 := Lib.hid ho
  have R1 := Lib.hid r1
  have G1 := Lib.hid g1
  clear r1 ho g1 HR
  go_wp2_with fail
  refine (pick_any _ _ _ _ R1.out (by omega) (by omega)).mono ?_
  rintro e w3 ⟨x, rfl, x0, x1, _, r2, g2⟩
  have x2 := x1 (by omega)
  have R2 := Lib.hid r2
  have O2 := Lib.hid (O1.out.picked hlt g2)
  have G2 := Lib.hid (grownBy_trans G1.out g2)
  clear r2 g2 x1 R1 O1 G1
  go_wp2_with fail
  refine (pick_any _ _ _ _ R2.out (by omega) (by omega)).mono ?_
  rintro e w4 ⟨y, rfl, y0, y1, _, r3, g3⟩
  have y2 := y1 (by omega)
  have R3 := Lib.hid r3
  have O3 := Lib.hid (O2.out.picked hlt g3)
  have G3 := Lib.hid (grownBy_trans G2.out g3)
  clear r3 g3 y1 R2 O2 G2
  go_wp2_with fail
  go_ret2
  exact ⟨A1, n1, c1, xs, _, rfl, O3.out.mono hs, by omega, by omega, by omega, HB.out.grown G3.out hs (fun x e => by cases e; exact hg)⟩
set_option maxHeartbeats 800000 in
theorem drawPowerSum_any (A : Option Addr) (n c : Nat) (bs : List Int) (w : World) (h : Rb w w.heap.size A n bs) (hnc : n ≤ c) :
    Calls Try.prog 51 #[.slice A n c] w (RetLN w) := by
  go_enter Try.func51, Try.ntmps51
  go_wp2_with fail
  refine (l6Open_any _ _ _ _ _ h hnc).mono ?_
  rintro e w1 ⟨g, rfl, hr, hg, hb⟩
  have HR := Lib.hid hr
  have HB := Lib.hid hb
  have hs := hb.size
  have hlt := hr.lt
  clear hr hb h
  go_wp2_with fail
  refine (l92Side_any _ _ _ _ HR.out (by omega) (by omega) (by omega)).mono ?_
  rintro e w2 ⟨A1, n1, c1, p1, xs, rfl, ho, hn, r1, hp1, g1⟩
  have O1 := Lib.hid ho
  have R1 := Lib.hid r1
  have G1 := Lib.hid g1
  clear r1 ho g1 HR
  go_wp2_with fail
  refine (pick_any _ _ _ _ R1.out (by omega) (by omega)).mono ?_
  rintro e w3 ⟨x2, rfl, y2, z2, _, r2, g2⟩
  have u2 := z2 (by omega)
  have R2 := Lib.hid r2
  have O2 := Lib.hid (O1.out.picked hlt g2)
  have G2 := Lib.hid (grownBy_trans G1.out g2)
  clear r2 g2 z2 R1 O1 G1
  go_wp2_with fail
  refine (pick_any _ _ _ _ R2.out (by omega) (by omega)).mono ?_
  rintro e w4 ⟨x3, rfl, y3, z3, _, r3, g3⟩
  have u3 := z3 (by omega)
  have R3 := Lib.hid r3
  have O3 := Lib.hid (O2.out.picked hlt g3)
  have G3 := Lib.hid (grownBy_trans G2.out g3)
  clear r3 g3 z3 R2 O2 G2
  go_wp2_with fail
  refine (pick_any _ _ _ _ R3.out (by omega) (by omega)).mono ?_
  rintro e w5 ⟨x4, rfl, y4, z4, _, r4, g4⟩
  have u4 := z4 (by omega)
  have R4 := Lib.hid r4
  have O4 := Lib.hid (O3.out.picked hlt g4)
  have G4 := Lib.hid (grownBy_trans G3.out g4)
  clear r4 g4 z4 R3 O3 G3
  go_wp2_with fail
  go_ret2
  exact ⟨A1, n1, c1, xs, _, rfl, O4.out.mono hs, by omega, by omega, by omega, HB.out.grown G4.out hs (fun x e => by cases e; exact hg)⟩
set_option maxHeartbeats 800000 in
theorem drawPowerScaled_any (A : Option Addr) (n c : Nat) (bs : List Int) (w : World) (h : Rb w w.heap.size A n bs) (hnc : n ≤ c) :
    Calls Try.prog 52 #[.slice A n c] w (RetLN w) := by
  go_enter Try.func52, Try.ntmps52
  go_wp2_with fail
  refine (l6Open_any _ _ _ _ _ h hnc).mono ?_
  rintro e w1 ⟨g, rfl, hr, hg, hb⟩
  have HR := Lib.hid hr
  have HB := Lib.hid hb
  have hs := hb.size
  have hlt := hr.lt
  clear hr hb h
  go_wp2_with fail
  refine (l92Side_any _ _ _ _ HR.out (by omega) (by omega) (by omega)).mono ?_
  rintro e w2 ⟨A1, n1, c1, p1, xs, rfl, ho, hn, r1, hp1, g1⟩
  have O1 := Lib.hid ho
  have R1 := Lib.hid r1
  have G1 := Lib.hid g1
  clear r1 ho g1 HR
  go_wp2_with fail
  refine (pick_any _ _ _ _ R1.out (by omega) (by omega)).mono ?_
  rintro e w3 ⟨x2, rfl, y2, z2, _, r2, g2⟩
  have u2 := z2 (by omega)
  have R2 := Lib.hid r2
  have O2 := Lib.hid (O1.out.picked hlt g2)
  have G2 := Lib.hid (grownBy_trans G1.out g2)
  clear r2 g2 z2 R1 O1 G1
  go_wp2_with fail
  refine (pick_any _ _ _ _ R2.out (by omega) (by omega)).mono ?_
  rintro e w4 ⟨x3, rfl, y3, z3, _, r3, g3⟩
  have u3 := z3 (by omega)
  have R3 := Lib.hid r3
  have O3 := Lib.hid (O2.out.picked hlt g3)
  have G3 := Lib.hid (grownBy_trans G2.out g3)
  clear r3 g3 z3 R2 O2 G2
  go_wp2_with fail
  go_ret2
  exact ⟨A1, n1, c1, xs, _, rfl, O3.out.mono hs, by omega, by omega, by omega, HB.out.grown G3.out hs (fun x e => by cases e; exact hg)⟩
/-- What a draw of a number hands back. -/
def RetN (w : World) (m : Int) (e : Ending) (w' : World) : Prop := ∃ v : Int, e = .returned (.int .i64 v) ∧ 0 ≤ v ∧ v < m ∧ Below w.heap.size w w'
set_option maxHeartbeats 800000 in
theorem drawPowerThue_any (A : Option Addr) (n c : Nat) (bs : List Int) (w : World) (h : Rb w w.heap.size A n bs) (hnc : n ≤ c) :
    Calls Try.prog 45 #[.slice A n c] w (RetN w 6) := by
  go_enter Try.func45, Try.ntmps45
  go_wp2_with fail
  refine (l6Open_any _ _ _ _ _ h hnc).mono ?_
  rintro e w1 ⟨g, rfl, hr, hg, hb⟩
  have HR := Lib.hid hr
  have HB := Lib.hid hb
  have hs := hb.size
  clear hr hb h
  go_wp2_with fail
  refine (pick_any _ _ _ _ HR.out (by omega) (by omega)).mono ?_
  rintro e w2 ⟨x, rfl, x0, x1, _, r1, g1⟩
  have x2 := x1 (by omega)
  have G1 := Lib.hid g1
  clear r1 g1 HR x1
  go_wp2_with fail
  go_ret
  exact ⟨x, rfl, x0, x2, HB.out.grown G1.out hs (fun x e => by cases e; exact hg)⟩
set_option maxHeartbeats 800000 in
theorem drawPowerFind_any (A : Option Addr) (n c : Nat) (bs : List Int) (w : World) (h : Rb w w.heap.size A n bs) (hnc : n ≤ c) :
    Calls Try.prog 48 #[.slice A n c] w (RetN w 14) := by
  go_enter Try.func48, Try.ntmps48
  go_wp2_with fail
  refine (l6Open_any _ _ _ _ _ h hnc).mono ?_
  rintro e w1 ⟨g, rfl, hr, hg, hb⟩
  have HR := Lib.hid hr
  have HB := Lib.hid hb
  have hs := hb.size
  clear hr hb h
  go_wp2_with fail
  refine (pick_any _ _ _ _ HR.out (by omega) (by omega)).mono ?_
  rintro e w2 ⟨x, rfl, x0, x1, _, r1, g1⟩
  have x2 := x1 (by omega)
  have G1 := Lib.hid g1
  clear r1 g1 HR x1
  go_wp2_with fail
  go_ret
  exact ⟨x, rfl, x0, x2, HB.out.grown G1.out hs (fun x e => by cases e; exact hg)⟩
end Go.Proofs.Ytbfpllmoaooadaa
