
/- Two sides drawn from a code: some two lists of ints. -/
import Derived.Test.YtbfpllmoaooadaaDrawP
import Derived.Test.YtbfpllmoaooadaaSpreadS
import Derived.Test.YtbfpllmoaooadaaThueS
import Derived.Test.YtbfpllmoaooadaaFindS
namespace Go.Proofs.Ytbfpllmoaooadaa
set_option linter.unusedVariables false
open Go.RowKit
/-- Two lists, no longer than 30, and a bool. -/
def RetSp (w : World) (e : Ending) (w' : World) : Prop := ∃ (A : Option Addr) (n c : Nat) (A' : Option Addr) (n' c' : Nat) (X Y : List Int) (b : Bool), e = .returned (.tuple #[.slice A n c, .slice A' n' c', .bool b]) ∧ Own w' w.heap.size A n c X ∧ Own w' w.heap.size A' n' c' Y ∧ n ≤ 30 ∧ n' ≤ 30 ∧ Below w.heap.size w w'
theorem RetOwn2N.sp {w : World} {xs ys : List Int} {b : Bool} {e : Ending} {w' : World} (h : RetOwn2N w xs ys b e w') (hx : xs.length ≤ 30) (hy : ys.length ≤ 30) : RetSp w e w' := by
  obtain ⟨A, n, c, B, m, d, h1, h2, h3, h4⟩ := h
  exact ⟨A, n, c, B, m, d, xs, ys, b, h1, h2, h3, by have := h2.len; omega, by have := h3.len; omega, h4⟩
theorem specSpread_sp (A : Option Addr) (n c : Nat) (xs : List Int) (A' : Option Addr) (n' c' : Nat) (ys : List Int) (t : Int) (w : World) (ha : Rd w w.heap.size A n xs) (ha' : Rd w w.heap.size A' n' ys) (hn : n ≤ 1000000) (hn' : n' ≤ 1000000) :
    Calls Try.prog 25 #[.slice A n c, .slice A' n' c', .int .i64 t] w (RetSp w) := by
  by_cases h : pIn xs = true ∧ pIn ys = true ∧ 1 ≤ t ∧ t ≤ 50
  · obtain ⟨h0, h1, h2, h3⟩ := h
    have l2 := (pIn_true.1 h0).1
    have l3 := (pIn_true.1 h1).1
    have e1 : ∀ (b : Bool) (l : List Int), (sp2 b l).length ≤ l.length := fun b l => by unfold sp2; split <;> simp
    refine (specSpread_in A n c xs A' n' c' ys t w ha ha' h0 h1 h2 h3 _ _ rfl rfl).mono fun _ _ h => h.sp ?_ ?_
    · refine Nat.le_trans (e1 _ _) ?_
      rw [spL_len]; omega
    · refine Nat.le_trans (e1 _ _) ?_
      rw [spL_len]; omega
  · exact (specSpread_no A n c xs A' n' c' ys t w ha ha' (by omega) (by omega) h).mono fun _ _ h => h.n.sp (by simp) (by simp)
theorem specThue_sp (t : Int) (w : World) : Calls Try.prog 31 #[.int .i64 t] w (RetSp w) := by
  by_cases h : 1 ≤ t ∧ t ≤ 4
  · rcases (show t = 1 ∨ t = 2 ∨ t = 3 ∨ t = 4 from by omega) with rfl | rfl | rfl | rfl
    · exact (specThue_yes 1 2 (by omega) w).mono fun _ _ h => h.n.sp (by rw [Th.thue1.1]; simp) (by rw [Th.thue1.2]; simp)
    · exact (specThue_yes 2 4 (by omega) w).mono fun _ _ h => h.n.sp (by rw [Th.thue2.1]; simp) (by rw [Th.thue2.2]; simp)
    · exact (specThue_yes 3 8 (by omega) w).mono fun _ _ h => h.n.sp (by rw [Th.thue3.1]; simp) (by rw [Th.thue3.2]; simp)
    · exact (specThue_yes 4 16 (by omega) w).mono fun _ _ h => h.n.sp (by rw [Th.thue4.1]; simp) (by rw [Th.thue4.2]; simp)
  · exact (specThue_no t h w).mono fun _ _ h => h.n.sp (by simp) (by simp)
theorem specFind_sp (t : Int) (w : World) : Calls Try.prog 46 #[.int .i64 t] w (RetSp w) := by
  by_cases h : 1 ≤ t ∧ t ≤ 12
  · obtain ⟨n, hn⟩ : ∃ n : Nat, t = n := ⟨t.toNat, by omega⟩
    subst hn
    have h2 := specFind_yes n (by omega) (by omega) w
    rw [Fd.first_threes n (by omega) (by omega)] at h2
    unfold Fd.found at h2
    by_cases h4 : n < 4
    · rw [if_pos h4] at h2
      exact h2.mono fun _ _ h => RetOwn2N.sp (RetOwn2B.n h) (by simp) (by simp)
    · rw [if_neg h4] at h2
      exact h2.mono fun _ _ h => RetOwn2N.sp (RetOwn2B.n h) (by simp) (by simp)
  · exact (specFind_no t h w).mono fun _ _ h => h.n.sp (by simp) (by simp)
/-- Two lists are drawn: the reader g moves on. -/
def DrewS (w : World) (g p q : Nat) (e : Ending) (w' : World) : Prop :=
  ∃ (A : Option Addr) (n c : Nat) (A' : Option Addr) (n' c' p' : Nat) (X Y : List Int), e = .returned (.tuple #[.slice A n c, .slice A' n' c']) ∧ Own w' w.heap.size A n c X ∧ Own w' w.heap.size A' n' c' Y ∧ n ≤ 30 ∧ n' ≤ 30 ∧ Rdr w' g p' ∧ p' ≤ p + q ∧ w.grownBy w' (some g)
/-- The last way: two sides of at most four numbers. -/
def LastS (w : World) (g p : Nat) (W : World) : Prop := Rdr W g p ∧ w.grownBy W (some g)
set_option maxRecDepth 100000 in
set_option maxHeartbeats 6400000 in
theorem l92Sides_any (g p : Nat) (w : World) (h : Rdr w g p) (hp : p ≤ 500) :
    Calls Try.prog 68 #[.pointer (some ⟨g, 0, none⟩)] w (DrewS w g p 300) := by
  have hlt := h.lt
  have H := Lib.hid h
  clear h
  go_enter Try.func68, Try.ntmps68
  go_wp2_with fail
  refine (pick_any _ _ _ _ H.out (by omega) (by omega)).mono ?_
  rintro e w1 ⟨v, rfl, v0, v1, _, r1, g1⟩
  have v2 := v1 (by omega)
  have R := Lib.hid r1
  have G := Lib.hid g1
  clear r1 g1 v1 H
  by_cases e0 : v = 0
  · have b0 : (v == 0) = true := by simpa using e0
    clear e0 v0 v2
    go_wp2_with fail
    refine (pick_any _ _ _ _ R.out (by omega) (by omega)).mono ?_
    rintro e w2 ⟨x, rfl, x0, x1, _, r1, g1⟩
    have x2 := x1 (by omega)
    have R2 := Lib.hid r1
    have G2 := Lib.hid (grownBy_trans G.out g1)
    clear r1 g1 x1 R G
    go_wp2_with fail
    refine (specThue_sp _ _).mono ?_
    rintro e w3 ⟨A, n, c, A', n', c', X, Y, b, rfl, ho, ho', hn, hn', hb⟩
    have O := Lib.hid (ho.mono G2.out.size)
    have O' := Lib.hid (ho'.mono G2.out.size)
    have R3 := Lib.hid (R2.out.below hb)
    have G3 := Lib.hid (grownBy_trans G2.out (grown_of_below (row := some g) hb))
    clear ho ho' hb R2 G2
    go_wp2_with fail
    go_ret2
    exact ⟨A, n, c, A', n', c', _, X, Y, rfl, O.out, O'.out, hn, hn', R3.out, by omega, G3.out⟩
  have b0 : (v == 0) = false := by simpa using e0
  by_cases e1 : v = 1
  · have b1 : (v == 1) = true := by simpa using e1
    clear e0 e1 v0 v2
    go_wp2_with fail
    refine (pick_any _ _ _ _ R.out (by omega) (by omega)).mono ?_
    rintro e w2 ⟨x, rfl, x0, x1, _, r1, g1⟩
    have x2 := x1 (by omega)
    have R2 := Lib.hid r1
    have G2 := Lib.hid (grownBy_trans G.out g1)
    clear r1 g1 x1 R G
    go_wp2_with fail
    refine (specFind_sp _ _).mono ?_
    rintro e w3 ⟨A, n, c, A', n', c', X, Y, b, rfl, ho, ho', hn, hn', hb⟩
    have O := Lib.hid (ho.mono G2.out.size)
    have O' := Lib.hid (ho'.mono G2.out.size)
    have R3 := Lib.hid (R2.out.below hb)
    have G3 := Lib.hid (grownBy_trans G2.out (grown_of_below (row := some g) hb))
    clear ho ho' hb R2 G2
    go_wp2_with fail
    go_ret2
    exact ⟨A, n, c, A', n', c', _, X, Y, rfl, O.out, O'.out, hn, hn', R3.out, by omega, G3.out⟩
  have b1 : (v == 1) = false := by simpa using e1
  by_cases e2 : v = 2
  · have b2 : (v == 2) = true := by simpa using e2
    clear e0 e1 e2 v0 v2
    go_wp2_with fail
    refine (l92Side_any _ _ _ _ R.out (by omega) (by omega) (by omega)).mono ?_
    rintro e w2 ⟨A1, n1, k1, p1, xs, rfl, ho, hn, r1, hp1, g1⟩
    have O1 := Lib.hid (ho.mono G.out.size)
    have R2 := Lib.hid r1
    have G2 := Lib.hid (grownBy_trans G.out g1)
    clear r1 ho g1 R G
    go_wp2_with fail
    refine (l92Side_any _ _ _ _ R2.out (by omega) (by omega) (by omega)).mono ?_
    rintro e w3 ⟨A2, n2, k2, p2, ys, rfl, ho, hn2, r1, hp2, g1⟩
    have O2 := Lib.hid (ho.mono G2.out.size)
    have O1_ := Lib.hid (O1.out.picked hlt g1)
    have R3 := Lib.hid r1
    have G3 := Lib.hid (grownBy_trans G2.out g1)
    clear r1 ho g1 R2 G2 O1; have O1 := O1_; clear O1_
    go_wp2_with fail
    refine (pick_any _ _ _ _ R3.out (by omega) (by omega)).mono ?_
    rintro e w4 ⟨x, rfl, x0, x1, _, r1, g1⟩
    have x2 := x1 (by omega)
    have R4 := Lib.hid r1
    have O1_ := Lib.hid (O1.out.picked hlt g1)
    have O2_ := Lib.hid (O2.out.picked hlt g1)
    have G4 := Lib.hid (grownBy_trans G3.out g1)
    clear r1 g1 x1 R3 G3 O1 O2; have O1 := O1_; have O2 := O2_; clear O1_ O2_
    go_wp2_with fail
    refine (specSpread_sp _ _ _ _ _ _ _ _ _ _ O1.out.rd O2.out.rd (by omega) (by omega)).mono ?_
    rintro e w5 ⟨A, n, c, A', n', c', X, Y, b, rfl, ho, ho', hnn, hn', hb⟩
    have O := Lib.hid (ho.mono G4.out.size)
    have O' := Lib.hid (ho'.mono G4.out.size)
    have R5 := Lib.hid (R4.out.below hb)
    have G5 := Lib.hid (grownBy_trans G4.out (grown_of_below (row := some g) hb))
    clear ho ho' hb R4 G4 O1 O2
    by_cases hbt : b = true
    · go_wp2_with fail
      go_ret2
      exact ⟨A, n, c, A', n', c', _, X, Y, rfl, O.out, O'.out, hnn, hn', R5.out, by omega, G5.out⟩
    · have hbf : b = false := not_true hbt
      clear hbt
      go_wp2_with fail
      refine (l92Side_any _ _ _ _ R5.out (by omega) (by omega) (by omega)).mono ?_
      rintro e w6 ⟨A1, n1, k1, p1, xs, rfl, ho, hm1, r1, hp1, g1⟩
      have O1 := Lib.hid (ho.mono G5.out.size)
      have R6 := Lib.hid r1
      have G6 := Lib.hid (grownBy_trans G5.out g1)
      clear r1 ho g1 R5 G5 O O'
      go_wp2_with fail
      refine (l92Side_any _ _ _ _ R6.out (by omega) (by omega) (by omega)).mono ?_
      rintro e w7 ⟨A2, n2, k2, p2, ys, rfl, ho, hm2, r1, hp2, g1⟩
      have O2 := Lib.hid (ho.mono G6.out.size)
      have O1_ := Lib.hid (O1.out.picked hlt g1)
      have R7 := Lib.hid r1
      have G7 := Lib.hid (grownBy_trans G6.out g1)
      clear r1 ho g1 R6 G6 O1
      go_wp2_with fail
      go_ret2
      exact ⟨A1, n1, k1, A2, n2, k2, _, xs, ys, rfl, O1_.out, O2.out, by omega, by omega, R7.out, by omega, G7.out⟩
  · have b2 : (v == 2) = false := by simpa using e2
    clear e0 e1 e2 v0 v2
    go_wp2_with fail
    refine (l92Side_any _ _ _ _ R.out (by omega) (by omega) (by omega)).mono ?_
    rintro e w6 ⟨A1, n1, k1, p1, xs, rfl, ho, hm1, r1, hp1, g1⟩
    have O1 := Lib.hid (ho.mono G.out.size)
    have R6 := Lib.hid r1
    have G6 := Lib.hid (grownBy_trans G.out g1)
    clear r1 ho g1 R G
    go_wp2_with fail
    refine (l92Side_any _ _ _ _ R6.out (by omega) (by omega) (by omega)).mono ?_
    rintro e w7 ⟨A2, n2, k2, p2, ys, rfl, ho, hm2, r1, hp2, g1⟩
    have O2 := Lib.hid (ho.mono G6.out.size)
    have O1_ := Lib.hid (O1.out.picked hlt g1)
    have R7 := Lib.hid r1
    have G7 := Lib.hid (grownBy_trans G6.out g1)
    clear r1 ho g1 R6 G6 O1
    go_wp2_with fail
    go_ret2
    exact ⟨A1, n1, k1, A2, n2, k2, _, xs, ys, rfl, O1_.out, O2.out, by omega, by omega, R7.out, by omega, G7.out⟩
/-- What a draw of two lists hands back. -/
def RetLL (w : World) (e : Ending) (w' : World) : Prop :=
  ∃ (A : Option Addr) (n c : Nat) (A' : Option Addr) (n' c' : Nat) (X Y : List Int), e = .returned (.tuple #[.slice A n c, .slice A' n' c']) ∧ Own w' w.heap.size A n c X ∧ Own w' w.heap.size A' n' c' Y ∧ n ≤ 30 ∧ n' ≤ 30 ∧ n ≤ c ∧ n' ≤ c' ∧ Below w.heap.size w w'
set_option maxHeartbeats 800000 in
theorem l92Pair_any (A : Option Addr) (n c : Nat) (bs : List Int) (w : World) (h : Rb w w.heap.size A n bs) (hnc : n ≤ c) :
    Calls Try.prog 66 #[.slice A n c] w (RetLL w) := by
  go_enter Try.func66, Try.ntmps66
  go_wp2_with fail
  refine (l6Open_any _ _ _ _ _ h hnc).mono ?_
  rintro e w1 ⟨g, rfl, hr, hg, hb⟩
  have HR := Lib.hid hr
  have HB := Lib.hid hb
  have hs := hb.size
  clear hr hb h
  go_wp2_with fail
  refine (l92Sides_any _ _ _ HR.out (by omega)).mono ?_
  rintro e w2 ⟨A1, n1, c1, A2, n2, c2, p', X, Y, rfl, ho, ho', hn, hn', r1, hp1, g1⟩
  have O1 := Lib.hid (ho.mono hs)
  have O2 := Lib.hid (ho'.mono hs)
  have G1 := Lib.hid g1
  clear r1 ho ho' g1 HR
  go_wp2_with fail
  go_ret2
  exact ⟨A1, n1, c1, A2, n2, c2, X, Y, rfl, O1.out, O2.out, hn, hn', O1.out.cap.1, O2.out.cap.1, HB.out.grown G1.out hs (fun x e => by cases e; exact hg)⟩
set_option maxHeartbeats 800000 in
theorem drawPowerDegree_any (A : Option Addr) (n c : Nat) (bs : List Int) (w : World) (h : Rb w w.heap.size A n bs) (hnc : n ≤ c) :
    Calls Try.prog 35 #[.slice A n c] w (RetLL w) := by
  go_enter Try.func35, Try.ntmps35
  go_wp2_with fail
  refine (l92Pair_any _ _ _ _ _ h hnc).mono ?_
  rintro e w2 ⟨A1, n1, c1, A2, n2, c2, X, Y, rfl, ho, ho', hn, hn', hc, hc', hb⟩
  have O1 := Lib.hid ho
  have O2 := Lib.hid ho'
  have B := Lib.hid hb
  clear ho ho' hb h
  go_wp2_with fail
  go_ret2
  exact ⟨A1, n1, c1, A2, n2, c2, X, Y, rfl, O1.out, O2.out, hn, hn', hc, hc', B.out⟩
set_option maxHeartbeats 800000 in
theorem drawPowerParts_any (A : Option Addr) (n c : Nat) (bs : List Int) (w : World) (h : Rb w w.heap.size A n bs) (hnc : n ≤ c) :
    Calls Try.prog 49 #[.slice A n c] w (RetLL w) := by
  go_enter Try.func49, Try.ntmps49
  go_wp2_with fail
  refine (l92Pair_any _ _ _ _ _ h hnc).mono ?_
  rintro e w2 ⟨A1, n1, c1, A2, n2, c2, X, Y, rfl, ho, ho', hn, hn', hc, hc', hb⟩
  have O1 := Lib.hid ho
  have O2 := Lib.hid ho'
  have B := Lib.hid hb
  clear ho ho' hb h
  go_wp2_with fail
  go_ret2
  exact ⟨A1, n1, c1, A2, n2, c2, X, Y, rfl, O1.out, O2.out, hn, hn', hc, hc', B.out⟩
/-- What a draw of two lists and a number hands back. -/
def RetLLN (w : World) (e : Ending) (w' : World) : Prop :=
  ∃ (A : Option Addr) (n c : Nat) (A' : Option Addr) (n' c' : Nat) (X Y : List Int) (v : Int), e = .returned (.tuple #[.slice A n c, .slice A' n' c', .int .i64 v]) ∧ Rd w' w'.heap.size A n X ∧ Rd w' w'.heap.size A' n' Y ∧ n ≤ 30 ∧ n' ≤ 30 ∧ -1000 ≤ v ∧ v ≤ 1000 ∧ Below w.heap.size w w'
set_option maxRecDepth 100000 in
set_option maxHeartbeats 3200000 in
theorem drawPowerSpread_any (A : Option Addr) (n c : Nat) (bs : List Int) (w : World) (h : Rb w w.heap.size A n bs) (hnc : n ≤ c) :
    Calls Try.prog 40 #[.slice A n c] w (RetLLN w) := by
  go_enter Try.func40, Try.ntmps40
  go_wp2_with fail
  refine (l6Open_any _ _ _ _ _ h hnc).mono ?_
  rintro e w1 ⟨g, rfl, hr, hg, hb⟩
  have HR := Lib.hid hr
  have HB := Lib.hid hb
  have hs := hb.size
  have hlt := hr.lt
  clear hr hb h
  go_wp2_with fail
  refine (l92Sides_any _ _ _ HR.out (by omega)).mono ?_
  rintro e w2 ⟨A1, n1, c1, A2, n2, c2, p', X, Y, rfl, ho, ho', hn, hn', r1, hp1, g1⟩
  have O1 := Lib.hid ho
  have O2 := Lib.hid ho'
  have R1 := Lib.hid r1
  have G1 := Lib.hid g1
  have hc1 := ho.cap
  have hc2 := ho'.cap
  have hm1 : c1 ≤ 9223372036854775807 := by have := hc1.2; unfold maxLen at this; omega
  have hm2 : c2 ≤ 9223372036854775807 := by have := hc2.2; unfold maxLen at this; omega
  have hc1' := hc1.1
  have hc2' := hc2.1
  clear r1 ho ho' g1 HR hc1 hc2
  by_cases h4 : 4 < n1
  · by_cases h5 : 4 < n2
    · have hmin : min (4 : Int) (n2 : Int) = 4 := by omega
      go_wp2_with fail
      refine (pick_any _ _ _ _ R1.out (by omega) (by omega)).mono ?_
      rintro e w3 ⟨x, rfl, x0, x1, _, r2, g2⟩
      have x2 := x1 (by omega)
      have R2 := Lib.hid r2
      have O1_ := Lib.hid (O1.out.picked hlt g2)
      have O2_ := Lib.hid (O2.out.picked hlt g2)
      have G2 := Lib.hid (grownBy_trans G1.out g2)
      clear r2 g2 x1 R1 O1 O2 G1
      go_wp2_with fail
      refine (pick_any _ _ _ _ R2.out (by omega) (by omega)).mono ?_
      rintro e w4 ⟨y, rfl, y0, y1, _, r3, g3⟩
      have y2 := y1 (by omega)
      have O1 := Lib.hid (O1_.out.picked hlt g3)
      have O2 := Lib.hid (O2_.out.picked hlt g3)
      have G1 := Lib.hid (grownBy_trans G2.out g3)
      clear r3 g3 y1 R2 O1_ O2_ G2
      go_wp2_with fail
      go_ret3
      exact ⟨A1, 4, c1, A2, 4, c2, X.take 4, Y.take 4, _, rfl, rd_take O1.out.rd (by omega), rd_take O2.out.rd (by omega), by omega, by omega, by omega, by omega, HB.out.grown G1.out hs (fun x e => by cases e; exact hg)⟩
    · have hmin : min (4 : Int) (n2 : Int) = (n2 : Int) := by omega
      go_wp2_with fail
      refine (pick_any _ _ _ _ R1.out (by omega) (by omega)).mono ?_
      rintro e w3 ⟨x, rfl, x0, x1, _, r2, g2⟩
      have x2 := x1 (by omega)
      have R2 := Lib.hid r2
      have O1_ := Lib.hid (O1.out.picked hlt g2)
      have O2_ := Lib.hid (O2.out.picked hlt g2)
      have G2 := Lib.hid (grownBy_trans G1.out g2)
      clear r2 g2 x1 R1 O1 O2 G1
      go_wp2_with fail
      refine (pick_any _ _ _ _ R2.out (by omega) (by omega)).mono ?_
      rintro e w4 ⟨y, rfl, y0, y1, _, r3, g3⟩
      have y2 := y1 (by omega)
      have O1 := Lib.hid (O1_.out.picked hlt g3)
      have O2 := Lib.hid (O2_.out.picked hlt g3)
      have G1 := Lib.hid (grownBy_trans G2.out g3)
      clear r3 g3 y1 R2 O1_ O2_ G2
      go_wp2_with fail
      go_ret3
      exact ⟨A1, 4, c1, A2, n2, c2, X.take 4, Y, _, rfl, rd_take O1.out.rd (by omega), O2.out.rd, by omega, by omega, by omega, by omega, HB.out.grown G1.out hs (fun x e => by cases e; exact hg)⟩
  · go_wp2_with fail
    refine (pick_any _ _ _ _ R1.out (by omega) (by omega)).mono ?_
    rintro e w3 ⟨x, rfl, x0, x1, _, r2, g2⟩
    have x2 := x1 (by omega)
    have R2 := Lib.hid r2
    have O1_ := Lib.hid (O1.out.picked hlt g2)
    have O2_ := Lib.hid (O2.out.picked hlt g2)
    have G2 := Lib.hid (grownBy_trans G1.out g2)
    clear r2 g2 x1 R1 O1 O2 G1
    go_wp2_with fail
    refine (pick_any _ _ _ _ R2.out (by omega) (by omega)).mono ?_
    rintro e w4 ⟨y, rfl, y0, y1, _, r3, g3⟩
    have y2 := y1 (by omega)
    have O1 := Lib.hid (O1_.out.picked hlt g3)
    have O2 := Lib.hid (O2_.out.picked hlt g3)
    have G1 := Lib.hid (grownBy_trans G2.out g3)
    clear r3 g3 y1 R2 O1_ O2_ G2
    go_wp2_with fail
    go_ret3
    exact ⟨A1, n1, c1, A2, n2, c2, X, Y, _, rfl, O1.out.rd, O2.out.rd, by omega, by omega, by omega, by omega, HB.out.grown G1.out hs (fun x e => by cases e; exact hg)⟩
end Go.Proofs.Ytbfpllmoaooadaa
