
/- Digits drawn from a code. -/
import Derived.Test.YtmakekolaclgnaaDoorDrawL
import Derived.Test.YtmakekolaclgnaaDoorPanAdd
import Derived.Test.YtmakekolaclgnaaDoorZeros
namespace Go.Proofs.YtmakekolaclgnaaDoor
set_option linter.unusedVariables false
open Go.RowKit
set_option maxRecDepth 100000 in
set_option maxHeartbeats 1600000 in
theorem l92Digits_any (g p : Nat) (w : World) (h : Rdr w g p) (hp : p ≤ 1000) :
    Calls Tryd.prog 31 #[.pointer (some ⟨g, 0, none⟩)] w (Drew w g p 3 22) := by
  have hlt := h.lt
  have H := Lib.hid h
  clear h
  go_enter Tryd.func31, Tryd.ntmps31
  go_wp2_with fail
  refine (pick_any _ _ _ _ H.out (by omega) (by omega)).mono ?_
  rintro e w1 ⟨y, rfl, y0, y1, _, r1, g1⟩
  have y2 := y1 (by omega)
  have R1 := Lib.hid r1
  have G1 := Lib.hid g1
  clear r1 g1 y1 H
  go_wp2_with fail
  refine (pick_any _ _ _ _ R1.out (by omega) (by omega)).mono ?_
  rintro e w2 ⟨z, rfl, z0, z1, _, r2, g2⟩
  have z2 := z1 (by omega)
  have R2 := Lib.hid r2
  have G2 := Lib.hid (grownBy_trans G1.out g2)
  have s2 := G2.out.size
  clear r2 g2 R1 G1 z1
  obtain ⟨t, ht⟩ : ∃ t, y * z = t := ⟨_, rfl⟩
  have t0 : 0 ≤ t := ht ▸ Int.mul_nonneg y0 z0
  have t1 : t ≤ 249 * 19 := ht ▸ Int.mul_le_mul (by omega) (by omega) z0 (by omega)
  have hw1 : IntKind.i64.wrap (y * z) = t := by rw [ht]; exact IntWalk.i64_in _ (by omega)
  clear ht
  go_wp2_with fail
  refine (l7Digits_any (t - 1000) w2 (by omega) (by omega)).mono ?_
  rintro e w3 ⟨A, n, c, rfl, ho, hb⟩
  have hln : n ≤ 9 := by have h1 := ho.len; have h2 := Dg.dg_len 9 (t - 1000) (by omega); omega
  have s3 := hb.size
  have R3 := Lib.hid (R2.out.below hb)
  have O3 := Lib.hid (ho.mono s2)
  have G3 := Lib.hid (grown_more G2.out (grown_of_below (row := none) hb) (fun x e => by cases e))
  generalize Dg.dg (t - 1000) = X at O3
  clear ho hb R2 G2 hw1
  go_wp2_with fail
  refine (pick_any _ _ _ _ R3.out (by omega) (by omega)).mono ?_
  rintro e w4 ⟨k, rfl, k0, k1, _, r4, g4⟩
  have k2 := k1 (by omega)
  have R4 := Lib.hid r4
  have O4 := Lib.hid (O3.out.picked hlt g4)
  have G4 := Lib.hid (grownBy_trans G3.out g4)
  have s4 := G4.out.size
  clear r4 g4 R3 O3 G3 k1
  by_cases h0 : k = 0
  · have b0 : (k == 0) = true := by simpa using h0
    clear h0
    go_wp2_with (at_builtin; refine wpList_pushN rfl _ _ _ rfl Tryd.underlying22 rfl O4.out rfl (by simp) (by omega) s4 ?_; intro A' c' w' ho' hg' hb')
    go_ret
    exact ⟨A', n + 1, c', _, _, rfl, ho', by omega, R4.out.grown hg' (fun x e => by have := (O4.out.lt x e).1; omega), by omega, grown_more G4.out hg' (fun x e => (O4.out.lt x e).1)⟩
  · by_cases h1 : k = 1
    · have b0 : (k == 0) = false := by simpa using h0
      have b1 : (k == 1) = true := by simpa using h1
      clear h0 h1
      go_wp2_with (at_builtin; refine wpList_pushN rfl _ _ _ rfl Tryd.underlying22 rfl O4.out rfl (by simp) (by omega) s4 ?_; intro A' c' w' ho' hg' hb')
      go_ret
      exact ⟨A', n + 1, c', _, _, rfl, ho', by omega, R4.out.grown hg' (fun x e => by have := (O4.out.lt x e).1; omega), by omega, grown_more G4.out hg' (fun x e => (O4.out.lt x e).1)⟩
    · by_cases h2 : k = 2
      · have b0 : (k == 0) = false := by simpa using h0
        have b1 : (k == 1) = false := by simpa using h1
        have b2 : (k == 2) = true := by simpa using h2
        clear h0 h1 h2
        go_wp2_with (at_builtin; refine wpList_appZ rfl _ _ _ _ rfl Tryd.underlying22 Tryd.underlying3 rfl O4.out (k := 12) rfl (by omega) (by omega) (by omega) s4 ?_; intro A' c' w' ho' hg')
        go_ret
        exact ⟨A', n + 12, c', _, _, rfl, ho', by omega, R4.out.grown hg' (fun x e => by have := (O4.out.lt x e).1; omega), by omega, grown_more G4.out hg' (fun x e => (O4.out.lt x e).1)⟩
      · have b0 : (k == 0) = false := by simpa using h0
        have b1 : (k == 1) = false := by simpa using h1
        have b2 : (k == 2) = false := by simpa using h2
        clear h0 h1 h2
        go_wp2_with fail
        go_ret
        exact ⟨A, n, c, _, _, rfl, O4.out, by omega, R4.out, by omega, G4.out⟩
theorem below_rdr {w w1 w2 : World} {g : Nat} (hb : Below w.heap.size w w1) (hg : w1.grownBy w2 (some g)) (h : w.heap.size ≤ g) : Below w.heap.size w w2 :=
  hb.grown hg hb.size (fun k e => by cases e; exact h)
/-- A list drawn. -/
def RetDr (w : World) (e : Ending) (w' : World) : Prop := ∃ (A : Option Addr) (n c : Nat) (xs : List Int), e = .returned (.slice A n c) ∧ Own w' w.heap.size A n c xs ∧ n ≤ 22 ∧ Below w.heap.size w w'
/-- Two lists drawn. -/
def RetDr2 (w : World) (e : Ending) (w' : World) : Prop := ∃ (A : Option Addr) (n c : Nat) (xs : List Int) (A' : Option Addr) (n' c' : Nat) (ys : List Int), e = .returned (.tuple #[.slice A n c, .slice A' n' c']) ∧ Own w' w.heap.size A n c xs ∧ Own w' w.heap.size A' n' c' ys ∧ n ≤ 22 ∧ n' ≤ 22 ∧ Below w.heap.size w w'
set_option maxHeartbeats 800000 in
theorem drawPanNumber_any (A : Option Addr) (n c : Nat) (bs : List Int) (w : World) (h : Rb w w.heap.size A n bs) (hnc : n ≤ c) :
    Calls Tryd.prog 20 #[.slice A n c] w (RetDr w) := by
  go_enter Tryd.func20, Tryd.ntmps20
  go_wp2_with fail
  refine (l6Open_any _ _ _ _ _ h hnc).mono ?_
  rintro e w1 ⟨g, rfl, hr, hg, hb⟩
  have HR := Lib.hid hr
  have HB := Lib.hid hb
  have hs := hb.size
  clear hr hb h
  go_wp2_with fail
  refine (l92Digits_any _ _ _ HR.out (by omega)).mono ?_
  rintro e w2 ⟨A1, n1, c1, p', X, rfl, ho, hn, r1, hp1, g1⟩
  have O1 := Lib.hid (ho.mono hs)
  have G1 := Lib.hid g1
  clear r1 ho g1 HR
  go_wp2_with fail
  go_ret
  exact ⟨A1, n1, c1, X, rfl, O1.out, hn, below_rdr HB.out G1.out hg⟩
set_option maxHeartbeats 800000 in
theorem drawPanAdd_any (A : Option Addr) (n c : Nat) (bs : List Int) (w : World) (h : Rb w w.heap.size A n bs) (hnc : n ≤ c) :
    Calls Tryd.prog 21 #[.slice A n c] w (RetDr2 w) := by
  go_enter Tryd.func21, Tryd.ntmps21
  go_wp2_with fail
  refine (l6Open_any _ _ _ _ _ h hnc).mono ?_
  rintro e w1 ⟨g, rfl, hr, hg, hb⟩
  have HR := Lib.hid hr
  have HB := Lib.hid hb
  have hs := hb.size
  have hlt := hr.lt
  clear hr hb h
  go_wp2_with fail
  refine (l92Digits_any _ _ _ HR.out (by omega)).mono ?_
  rintro e w2 ⟨A1, n1, c1, p', X, rfl, ho, hn, r1, hp1, g1⟩
  have O1 := Lib.hid ho
  have G1 := Lib.hid g1
  have R1 := Lib.hid r1
  have hs2 := g1.size
  clear r1 ho g1 HR
  go_wp2_with fail
  refine (l92Digits_any _ _ _ R1.out (by omega)).mono ?_
  rintro e w3 ⟨A2, n2, c2, p2, Y, rfl, ho, hn2, r2, hp2, g2⟩
  have O3 := Lib.hid ((O1.out.picked hlt g2).mono hs)
  have O4 := Lib.hid (ho.mono (show w.heap.size ≤ w2.heap.size by omega))
  have G2 := Lib.hid (grownBy_trans G1.out g2)
  clear r2 ho g2 R1 O1 G1
  go_wp2_with fail
  go_ret2
  exact ⟨A1, n1, c1, X, A2, n2, c2, Y, rfl, O3.out, O4.out, hn, hn2, below_rdr HB.out G2.out hg⟩
set_option maxHeartbeats 800000 in
theorem drawPanDigits_any (A : Option Addr) (n c : Nat) (bs : List Int) (w : World) (h : Rb w w.heap.size A n bs) (hnc : n ≤ c) :
    Calls Tryd.prog 12 #[.slice A n c] w (fun e w' => ∃ v : Int, e = .returned (.int .i64 v) ∧ -100 ≤ v ∧ v ≤ 1000099 ∧ Below w.heap.size w w') := by
  go_enter Tryd.func12, Tryd.ntmps12
  go_wp2_with fail
  refine (l6Open_any _ _ _ _ _ h hnc).mono ?_
  rintro e w1 ⟨g, rfl, hr, hg, hb⟩
  have HR := Lib.hid hr
  have HB := Lib.hid hb
  have hs := hb.size
  clear hr hb h
  go_wp2_with fail
  refine (pick_any _ _ _ _ HR.out (by omega) (by omega)).mono ?_
  rintro e w2 ⟨y, rfl, y0, y1, _, r1, g1⟩
  have y2 := y1 (by omega)
  have R1 := Lib.hid r1
  have G1 := Lib.hid g1
  clear r1 g1 y1 HR
  go_wp2_with fail
  refine (pick_any _ _ _ _ R1.out (by omega) (by omega)).mono ?_
  rintro e w3 ⟨z, rfl, z0, z1, _, r2, g2⟩
  have z2 := z1 (by omega)
  have G2 := Lib.hid (grownBy_trans G1.out g2)
  obtain ⟨t, ht⟩ : ∃ t, z.tdiv 23 = t := ⟨_, rfl⟩
  have t0 : 0 ≤ t ∧ t ≤ 1 := by rw [← ht, Int.tdiv_eq_ediv_of_nonneg z0]; omega
  have ht' : z / 23 = t := by rw [← ht, Int.tdiv_eq_ediv_of_nonneg z0]
  obtain ⟨t0, t1⟩ := t0
  clear r2 g2 R1 G1 z1
  go_wp2_with fail
  go_ret
  exact ⟨_, rfl, by omega, by omega, below_rdr HB.out G2.out hg⟩
end Go.Proofs.YtmakekolaclgnaaDoor
