
/- Lists and sizes of bins drawn from a code. -/
import Derived.Test.YtbihdajoflaknaaDrawL
import Derived.Test.YtbihdajoflaknaaSum
import Derived.Test.YtbihdajoflaknaaSortL
namespace Go.Proofs.Ytbihdajoflaknaa
set_option linter.unusedVariables false
open Go.RowKit
/-- A list is drawn: it is no longer than the bound, or no list as told. -/
def DrewN (w : World) (g p q : Nat) (m : Int) (e : Ending) (w' : World) : Prop :=
  ∃ (A : Option Addr) (n c p' : Nat) (xs : List Int), e = .returned (.slice A n c) ∧ Own w' w.heap.size A n c xs ∧ n ≤ 22 ∧ ((n : Int) ≤ m ∨ sumIn xs = false) ∧ Rdr w' g p' ∧ p' ≤ p + q ∧ w.grownBy w' (some g)
theorem sumIn_app_false {xs : List Int} {v : Int} (h : ¬ (1 ≤ v ∧ v ≤ 60)) : sumIn (xs ++ [v]) = false := by
  cases e : sumIn (xs ++ [v]) with
  | false => rfl
  | true => exact absurd (sumIn_get e v (by simp)) h
set_option maxRecDepth 100000 in
set_option maxHeartbeats 3200000 in
theorem l91ListN_any (g p : Nat) (most great : Int) (w : World) (h : Rdr w g p) (hp : p ≤ 1000) (hm1 : 0 ≤ most) (hm2 : most ≤ 20) (hg1 : 1 ≤ great) (hg2 : great ≤ 60) :
    Calls Try.prog 40 #[.pointer (some ⟨g, 0, none⟩), .int .i64 most, .int .i64 great] w (DrewN w g p 60 most) := by
  have hlt := h.lt
  have H := Lib.hid (h.below ((Below.refl _ _).alloc (Nat.le_refl _) (.cells #[] 3)))
  clear h
  go_enter Try.func40, Try.ntmps40
  go_wp2_with fail
  refine (pick_any _ _ _ _ H.out (by omega) (by omega)).mono ?_
  rintro e w1 ⟨v, rfl, v0, v1, _, r1, g1⟩
  have v2 := v1 (by omega)
  have R1 := Lib.hid r1
  have O1 := Lib.hid ((own_empty w).picked hlt g1)
  have G1 := Lib.hid (grownBy_trans (World.grownBy_alloc w (.cells #[] 3) (some g)) g1)
  clear r1 g1 v1 H
  go_wp2_with fail
  refine (pick_any _ _ _ _ R1.out (by omega) (by omega)).mono ?_
  rintro e w2 ⟨kd, rfl, _, _, _, r2, g2⟩
  have R2 := Lib.hid r2
  have O2 := Lib.hid (O1.out.picked hlt g2)
  have G2 := Lib.hid (grownBy_trans G1.out g2)
  clear r2 g2 R1 O1 G1
  obtain ⟨N, rfl⟩ := Int.eq_ofNat_of_zero_le v0
  have hN : N ≤ 21 := by omega
  have hN2 : (N : Int) ≤ most := by omega
  clear v0 v2
  go_wp2_with fail
  go_loopw [7, 10] (fun o i wr => ∃ (k : Nat) (A : Option Addr) (c : Nat), k ≤ N ∧ i = .int .i64 k ∧ o = .slice A k c ∧ LR w g p k A c wr) (fun _ i _ => N - (intOf i).toNat)
  case atStart => exact ⟨0, _, _, by omega, rfl, rfl, [], p + 2, O2.out, R2.out, by omega, G2.out⟩
  case round =>
    obtain ⟨k, A, c, hk, rfl, rfl, xs, p1, ho, hr, hp1, hw⟩ := hrel
    clear R2 O2 G2
    have HO := Lib.hid ho
    have HR := Lib.hid hr
    have HW := Lib.hid hw
    clear ho hr hw
    by_cases hkn : k < N
    · go_wp2_with fail
      refine (pick_any _ _ _ _ HR.out (by omega) (by omega)).mono ?_
      rintro e w3 ⟨x, rfl, x0, x1, _, r3, g3⟩
      have x2 := x1 hg1
      have R3 := Lib.hid r3
      have O3 := Lib.hid (HO.out.picked hlt g3)
      have G3 := Lib.hid (grownBy_trans HW.out g3)
      have S3 := Lib.hid (HW.out.size)
      have s3 : w.heap.size ≤ w3.heap.size := Nat.le_trans HW.out.size g3.size
      clear r3 g3 x1 HR HO HW S3
      by_cases k1 : kd = 1
      · have b1 : (kd == 1) = true := by simpa using k1
        have b2 : (kd == 2) = false := by simp; omega
        clear k1
        go_wp2_with fail
        refine (pick_any _ _ _ _ R3.out (by omega) (by omega)).mono ?_
        rintro e w4 ⟨y, rfl, y0, y1, _, r4, g4⟩
        have y2 := y1 (by omega)
        have R4 := Lib.hid r4
        have O4 := Lib.hid (O3.out.picked hlt g4)
        have G4 := Lib.hid (grownBy_trans G3.out g4)
        have s4 : w.heap.size ≤ w4.heap.size := Nat.le_trans s3 g4.size
        clear r4 g4 y1 R3 O3 G3
        go_wp2_with (at_builtin; refine wpList_pushN rfl _ _ _ rfl Try.underlying22 rfl O4.out rfl (by simp) (by omega) s4 ?_; intro A' c' w' ho' hg' hb')
        have F := Lib.hid (LR.push (p := p) hlt O4.out R4.out (by omega) G4.out ho' hg')
        clear ho' hg' hb'
        go_roundw
        case rel => exact ⟨k + 1, A', c', by omega, by go_num, rfl, F.out⟩
        case measure => simp [intOf]; omega
      · by_cases k2 : kd = 2
        · have b1 : (kd == 1) = false := by simpa using k1
          have b2 : (kd == 2) = true := by simpa using k2
          obtain ⟨s, hs⟩ : ∃ s : Nat, (k : Int) % 6 = s := ⟨k % 6, by omega⟩
          have hs6 : s < 6 := by omega
          clear k1 k2
          go_wp2_with (at_builtin; refine wpList_pushN rfl _ _ _ rfl Try.underlying22 rfl O3.out rfl (by simp) (by omega) s3 ?_; intro A' c' w' ho' hg' hb')
          all_goals
            have F := Lib.hid (LR.push (p := p) hlt O3.out R3.out (by omega) G3.out ho' hg')
            clear ho' hg' hb'
            go_roundw
            case rel => exact ⟨k + 1, A', c', by omega, by go_num, rfl, F.out⟩
            case measure => simp [intOf]; omega
        · have b1 : (kd == 1) = false := by simpa using k1
          have b2 : (kd == 2) = false := by simpa using k2
          clear k1 k2
          go_wp2_with (at_builtin; refine wpList_pushN rfl _ _ _ rfl Try.underlying22 rfl O3.out rfl (by simp) (by omega) s3 ?_; intro A' c' w' ho' hg' hb')
          have F := Lib.hid (LR.push (p := p) hlt O3.out R3.out (by omega) G3.out ho' hg')
          clear ho' hg' hb'
          go_roundw
          case rel => exact ⟨k + 1, A', c', by omega, by go_num, rfl, F.out⟩
          case measure => simp [intOf]; omega
    · have hkN : k = N := by omega
      subst hkN
      go_wp2_with fail
      refine (pick_any _ _ _ _ HR.out (by omega) (by omega)).mono ?_
      rintro e w3 ⟨x, rfl, x0, x1, _, r3, g3⟩
      have R3 := Lib.hid r3
      have O3 := Lib.hid (HO.out.picked hlt g3)
      have G3 := Lib.hid (grownBy_trans HW.out g3)
      have s3 : w.heap.size ≤ w3.heap.size := Nat.le_trans HW.out.size g3.size
      clear r3 g3 x1 HR HO HW
      by_cases hx : x = 0
      · have b1 : (x == 0) = true := by simpa using hx
        clear hx
        have R3' := Lib.hid (R3.out.below ((Below.refl _ _).alloc (Nat.le_refl _) (.cells #[.int .i64 0, .int .i64 61, .int .i64 (-1)] 3)))
        go_wp2_with fail
        refine (pick_any _ _ _ _ R3'.out (by omega) (by omega)).mono ?_
        rintro e w4 ⟨y, rfl, y0, y1, _, r4, g4⟩
        have y2 := y1 (by omega)
        have R4 := Lib.hid r4
        have O4 := Lib.hid ((O3.out.alloc (.cells #[.int .i64 0, .int .i64 61, .int .i64 (-1)] 3)).picked hlt g4)
        have G4 := Lib.hid (grownBy_trans (grown_more G3.out (World.grownBy_alloc w3 _ none) (fun x e => by cases e)) g4)
        have s4 : w.heap.size ≤ w4.heap.size := by have := g4.size; simp at this; omega
        have hne : w3.heap.size ≠ g := by omega
        have hh := g4.block w3.heap.size (by simp) (by intro e; injection e with e; omega)
        have c0 : w4.cell? ⟨w3.heap.size, 0, none⟩ = some (.int .i64 0) := (World.cell?_of_block (a := ⟨w3.heap.size, 0, none⟩) hh).trans (by simp)
        have c1 : w4.cell? ⟨w3.heap.size, 1, none⟩ = some (.int .i64 61) := (World.cell?_of_block (a := ⟨w3.heap.size, 1, none⟩) hh).trans (by simp)
        have c2 : w4.cell? ⟨w3.heap.size, 2, none⟩ = some (.int .i64 (-1)) := (World.cell?_of_block (a := ⟨w3.heap.size, 2, none⟩) hh).trans (by simp)
        clear r4 g4 y1 R3 R3' O3 G3 hh
        rcases (show y = 0 ∨ y = 1 ∨ y = 2 from by omega) with rfl | rfl | rfl
        all_goals
          go_wp2_with (at_builtin; refine wpList_pushN rfl _ _ _ rfl Try.underlying22 rfl O4.out rfl (by simp) (by omega) s4 ?_; intro A' c' w' ho' hg' hb')
          go_ret
          exact ⟨A', k + 1, c', _, _, rfl, ho', by omega, .inr (sumIn_app_false (by omega)), R4.out.grown hg' (fun x e => by have := (O4.out.lt x e).1; omega), by omega, grown_more G4.out hg' (fun x e => (O4.out.lt x e).1)⟩
      · have b1 : (x == 0) = false := by simpa using hx
        clear hx
        go_wp2_with fail
        go_ret
        exact ⟨A, k, c, _, _, rfl, O3.out, by omega, .inl (by omega), R3.out, by omega, G3.out⟩

theorem three_at {yn : Nat} (h : yn < 3) : ∃ v, (#[Value.int .i64 0, .int .i64 101, .int .i64 5] : Array Value)[yn]? = some (.int .i64 v) := by
  rcases (show yn = 0 ∨ yn = 1 ∨ yn = 2 from by omega) with rfl | rfl | rfl
  · exact ⟨0, rfl⟩
  · exact ⟨101, rfl⟩
  · exact ⟨5, rfl⟩
theorem cell_of_made {w w' : World} {cs : Array Value} {t : TypeId} {g i : Nat} (hg : (w.alloc (.cells cs t)).drew.grownBy w' (some g)) (hne : w.heap.size ≠ g) : w'.cell? ⟨w.heap.size, i, none⟩ = cs[i]? := by
  refine (World.cell?_of_block (w := (w.alloc (.cells cs t)).drew) (a := ⟨w.heap.size, i, none⟩) (hg.block w.heap.size (by simp) (fun e => hne (by injection e)))).trans ?_
  simp
/-- One of three numbers is picked. -/
theorem pick3_any (g p : Nat) (w : World) (h : Rdr w g p) (hp : p ≤ 1000) : Calls Try.prog 26 #[.pointer (some ⟨g, 0, none⟩), .int .i64 3] w fun e w4 =>
    ∃ (yn : Nat) (v : Int), e = .returned (.int .i64 (yn : Int)) ∧ (0 : Int) ≤ (yn : Int) ∧ (yn : Int) < 3 ∧ ((yn : Int)).toNat = yn ∧ (#[Value.int .i64 0, .int .i64 101, .int .i64 5] : Array Value)[yn]? = some (.int .i64 v) ∧ Hid (Rdr w4 g (p + 1)) ∧ Hid (w.grownBy w4 (some g)) ∧
      ∀ W : World, W.heap.size ≠ g → (w = (W.alloc (.cells #[Value.int .i64 0, .int .i64 101, .int .i64 5] 3)).drew → w4.cell? ⟨W.heap.size, yn, none⟩ = some (.int .i64 v)) := by
  refine (pick_any g p 3 w h (by omega) (by omega)).mono ?_
  rintro e w4 ⟨y, rfl, y0, y1, _, r4, g4⟩
  have y2 := y1 (by omega)
  obtain ⟨yn, rfl⟩ := Int.eq_ofNat_of_zero_le y0
  obtain ⟨v, hv⟩ := three_at (show yn < 3 by omega)
  refine ⟨yn, v, rfl, by omega, by omega, by omega, hv, Lib.hid r4, Lib.hid g4, fun W hne hw => ?_⟩
  subst hw
  exact (cell_of_made g4 hne).trans hv
/-- A list and a size are drawn. -/
def DrewB (w : World) (g p q : Nat) (e : Ending) (w' : World) : Prop :=
  ∃ (A : Option Addr) (n c p' : Nat) (xs : List Int) (v : Int), e = .returned (.tuple #[.slice A n c, .int .i64 v]) ∧ Own w' w.heap.size A n c xs ∧ n ≤ 22 ∧ (n ≤ 8 ∨ sumIn xs = false) ∧ Rdr w' g p' ∧ p' ≤ p + q ∧ w.grownBy w' (some g)
set_option maxRecDepth 100000 in
set_option maxHeartbeats 3200000 in
theorem l91Bins_any (g p : Nat) (w : World) (h : Rdr w g p) (hp : p ≤ 500) :
    Calls Try.prog 34 #[.pointer (some ⟨g, 0, none⟩)] w (DrewB w g p 70) := by
  have hlt := h.lt
  have H := Lib.hid h
  clear h
  go_enter Try.func34, Try.ntmps34
  go_wp2_with fail
  refine (l91ListN_any g p 8 20 w H.out (by omega) (by omega) (by omega) (by omega) (by omega)).mono ?_
  rintro e w1 ⟨A, n, c, p1, xs, rfl, o1, hn, hsn, r1, hp1, g1⟩
  have R1 := Lib.hid r1
  have O1 := Lib.hid o1
  have G1 := Lib.hid g1
  have HSN : Hid (n ≤ 8 ∨ sumIn xs = false) := Lib.hid (by rcases hsn with h | h; exact .inl (by omega); exact .inr h)
  clear r1 o1 g1 H hsn
  go_wp2_with fail
  refine (pick_any _ _ _ _ R1.out (by omega) (by omega)).mono ?_
  rintro e w2 ⟨sz, rfl, s0, s1, _, r2, g2⟩
  have s2 := s1 (by omega)
  have R2 := Lib.hid r2
  have O2 := Lib.hid (O1.out.picked hlt g2)
  have G2 := Lib.hid (grownBy_trans G1.out g2)
  clear r2 g2 R1 O1 G1 s1
  go_wp2_with fail
  refine (pick_any _ _ _ _ R2.out (by omega) (by omega)).mono ?_
  rintro e w3 ⟨k, rfl, k0, k1, _, r3, g3⟩
  have k2 := k1 (by omega)
  have R3 := Lib.hid r3
  have O3 := Lib.hid (O2.out.picked hlt g3)
  have G3 := Lib.hid (grownBy_trans G2.out g3)
  clear r3 g3 R2 O2 G2 k1
  by_cases hk : k = 0
  · have dk : (k == 0) = true := by simpa using hk
    have s3 : w.heap.size ≤ w3.heap.size := G3.out.size
    clear hk
    have D3 := Lib.hid (O3.out.drewN 1)
    have W3 : Hid (w.grownBy w3.drew (some g)) := Lib.hid (grown_drew G3.out)
    have RA : Hid (Rdr w3.drew g (p1 + 1 + 1)) := Lib.hid (R3.out.below (below_drewN (Below.refl _ _) 1))
    have RB : Hid (Rdr (w3.alloc (.cells #[.int .i64 0, .int .i64 101, .int .i64 5] 3)).drew g (p1 + 1 + 1)) := Lib.hid (R3.out.below (below_drewN ((Below.refl _ _).alloc (Nat.le_refl _) _) 1))
    have OB : Hid (Own (w3.alloc (.cells #[.int .i64 0, .int .i64 101, .int .i64 5] 3)).drew w.heap.size A n c xs) := Lib.hid ((O3.out.alloc _).drewN 1)
    have WB : Hid (w.grownBy (w3.alloc (.cells #[.int .i64 0, .int .i64 101, .int .i64 5] 3)).drew (some g)) := Lib.hid (grown_drew (grown_more G3.out (World.grownBy_alloc w3 _ none) (fun x e => by cases e)))
    have hne : w3.heap.size ≠ g := by omega
    clear R3 O3 G3
    go_wp2_with fail
    go_region_with (go_at_call 26; refine (pick3_any g (p1 + 1 + 1) _ (by first | exact RA.out | exact RB.out) (by omega)).mono ?_; rintro e w4 ⟨yn, v, rfl, i1, i2, i3, hv, R4, G4, cA⟩; have cB := cA w3 hne)
    all_goals
      go_wp2_with fail
      go_ret2
      first
        | exact ⟨A, n, c, _, xs, _, rfl, D3.out.picked hlt G4.out, hn, HSN.out, R4.out, by omega, grownBy_trans W3.out G4.out⟩
        | exact ⟨A, n, c, _, xs, _, rfl, (D3.out.picked hlt G4.out).alloc _, hn, HSN.out, R4.out.below ((Below.refl _ _).alloc (Nat.le_refl _) _), by omega, grown_more (grownBy_trans W3.out G4.out) (World.grownBy_alloc w4 _ none) (fun x e => by cases e)⟩
        | exact ⟨A, n, c, _, xs, _, rfl, OB.out.picked hlt G4.out, hn, HSN.out, R4.out, by omega, grownBy_trans WB.out G4.out⟩
  · have dk : (k == 0) = false := by simpa using hk
    clear hk
    go_wp2_with fail
    go_ret2
    exact ⟨A, n, c, _, xs, _, rfl, O3.out, hn, HSN.out, R3.out, by omega, G3.out⟩
end Go.Proofs.Ytbihdajoflaknaa
