
/- Lists drawn from a code: some list of ints, no longer than the bound and one. -/
import Derived.Test.YtbihdajoflaknaaDraw
import Derived.Test.YtbihdajoflaknaaApp
import Derived.WalkLawsBesides
namespace Go.Proofs.Ytbihdajoflaknaa
set_option linter.unusedVariables false
open Go.RowKit
theorem grown_more {a b c : World} {row row' : Option Nat} (h : a.grownBy b row) (k : b.grownBy c row') (hr : ∀ x, row' = some x → a.heap.size ≤ x) : a.grownBy c row :=
  ⟨k.os.trans h.os, k.tape.trans h.tape, k.output.trans h.output, Nat.le_trans h.size k.size, fun i hi hne => (k.block i (Nat.lt_of_lt_of_le hi h.size) (fun e => by have := hr i e.symm; omega)).trans (h.block i hi hne)⟩
/-- A list is drawn: the reader g moves on. -/
def Drew (w : World) (g p q : Nat) (m : Nat) (e : Ending) (w' : World) : Prop :=
  ∃ (A : Option Addr) (n c p' : Nat) (xs : List Int), e = .returned (.slice A n c) ∧ Own w' w.heap.size A n c xs ∧ n ≤ m ∧ Rdr w' g p' ∧ p' ≤ p + q ∧ w.grownBy w' (some g)
/-- What holds at a round's head. -/
def LR (w : World) (g p : Nat) (k : Nat) (A : Option Addr) (c : Nat) (wr : World) : Prop := ∃ (xs : List Int) (p' : Nat), Own wr w.heap.size A k c xs ∧ Rdr wr g p' ∧ p' ≤ p + 2 + 2 * k ∧ w.grownBy wr (some g)
theorem LR.push {w w1 w' : World} {g p k : Nat} {A A' : Option Addr} {c c' : Nat} {xs : List Int} {v : Int} {p1 : Nat} (hg : g < w.heap.size) (ho : Own w1 w.heap.size A k c xs) (hr : Rdr w1 g p1) (hp : p1 ≤ p + 2 + 2 * (k + 1)) (hw : w.grownBy w1 (some g))
    (ho' : Own w' w.heap.size A' (k + 1) c' (xs ++ [v])) (hg' : w1.grownBy w' (blk A)) : LR w g p (k + 1) A' c' w' :=
  ⟨xs ++ [v], p1, ho', hr.grown hg' (fun x e => by have := (ho.lt x e).1; omega), hp, grown_more hw hg' (fun x e => (ho.lt x e).1)⟩
theorem Own.picked {w wr w' : World} {g n c : Nat} {A : Option Addr} {xs : List Int} (h : Own wr w.heap.size A n c xs) (hlt : g < w.heap.size) (hg : wr.grownBy w' (some g)) : Own w' w.heap.size A n c xs :=
  h.grown hg (by
    cases hA : blk A with
    | none => exact .inl rfl
    | some x => right; intro e; injection e with e; have := (h.lt x hA).1; omega)
set_option maxRecDepth 100000 in
set_option maxHeartbeats 3200000 in
theorem l91List_any (g p : Nat) (most great : Int) (w : World) (h : Rdr w g p) (hp : p ≤ 1000) (hm1 : 0 ≤ most) (hm2 : most ≤ 20) (hg1 : 1 ≤ great) (hg2 : great ≤ 60) :
    Calls Try.prog 40 #[.pointer (some ⟨g, 0, none⟩), .int .i64 most, .int .i64 great] w (Drew w g p 60 22) := by
  have hlt := h.lt
  have H := Lib.hid (h.below ((Below.refl _ _).alloc (Nat.le_refl _) (.cells #[] 3)))
  clear h
  go_enter Try.func40, Try.ntmps40
  go_wp2_with fail
  refine (pick_any _ _ _ _ H.out (by omega) (by omega)).mono ?_
  rintro e w1 ⟨v, rfl, v0, v1, _, r1, g1⟩
  have v2 := v1 (by omega)
  have R1 := Lib.hid r1
  have O1 := Lib.hid ((own_empty w).picked hlt g1)
  have G1 := Lib.hid (grownBy_trans (World.grownBy_alloc w (.cells #[] 3) (some g)) g1)
  clear r1 g1 v1 H
  go_wp2_with fail
  refine (pick_any _ _ _ _ R1.out (by omega) (by omega)).mono ?_
  rintro e w2 ⟨kd, rfl, _, _, _, r2, g2⟩
  have R2 := Lib.hid r2
  have O2 := Lib.hid (O1.out.picked hlt g2)
  have G2 := Lib.hid (grownBy_trans G1.out g2)
  clear r2 g2 R1 O1 G1
  obtain ⟨N, rfl⟩ := Int.eq_ofNat_of_zero_le v0
  have hN : N ≤ 21 := by omega
  clear v0 v2
  go_wp2_with fail
  go_loopw [7, 10] (fun o i wr => ∃ (k : Nat) (A : Option Addr) (c : Nat), k ≤ N ∧ i = .int .i64 k ∧ o = .slice A k c ∧ LR w g p k A c wr) (fun _ i _ => N - (intOf i).toNat)
  case atStart => exact ⟨0, _, _, by omega, rfl, rfl, [], p + 2, O2.out, R2.out, by omega, G2.out⟩
  case round =>
    obtain ⟨k, A, c, hk, rfl, rfl, xs, p1, ho, hr, hp1, hw⟩ := hrel
    clear R2 O2 G2
    have HO := Lib.hid ho
    have HR := Lib.hid hr
    have HW := Lib.hid hw
    clear ho hr hw
    by_cases hkn : k < N
    · go_wp2_with fail
      refine (pick_any _ _ _ _ HR.out (by omega) (by omega)).mono ?_
      rintro e w3 ⟨x, rfl, x0, x1, _, r3, g3⟩
      have x2 := x1 hg1
      have R3 := Lib.hid r3
      have O3 := Lib.hid (HO.out.picked hlt g3)
      have G3 := Lib.hid (grownBy_trans HW.out g3)
      have S3 := Lib.hid (HW.out.size)
      have s3 : w.heap.size ≤ w3.heap.size := Nat.le_trans HW.out.size g3.size
      clear r3 g3 x1 HR HO HW S3
      by_cases k1 : kd = 1
      · have b1 : (kd == 1) = true := by simpa using k1
        have b2 : (kd == 2) = false := by simp; omega
        clear k1
        go_wp2_with fail
        refine (pick_any _ _ _ _ R3.out (by omega) (by omega)).mono ?_
        rintro e w4 ⟨y, rfl, y0, y1, _, r4, g4⟩
        have y2 := y1 (by omega)
        have R4 := Lib.hid r4
        have O4 := Lib.hid (O3.out.picked hlt g4)
        have G4 := Lib.hid (grownBy_trans G3.out g4)
        have s4 : w.heap.size ≤ w4.heap.size := Nat.le_trans s3 g4.size
        clear r4 g4 y1 R3 O3 G3
        go_wp2_with (at_builtin; refine wpList_pushN rfl _ _ _ rfl Try.underlying22 rfl O4.out rfl (by simp) (by omega) s4 ?_; intro A' c' w' ho' hg' hb')
        have F := Lib.hid (LR.push (p := p) hlt O4.out R4.out (by omega) G4.out ho' hg')
        clear ho' hg' hb'
        go_roundw
        case rel => exact ⟨k + 1, A', c', by omega, by go_num, rfl, F.out⟩
        case measure => simp [intOf]; omega
      · by_cases k2 : kd = 2
        · have b1 : (kd == 1) = false := by simpa using k1
          have b2 : (kd == 2) = true := by simpa using k2
          obtain ⟨s, hs⟩ : ∃ s : Nat, (k : Int) % 6 = s := ⟨k % 6, by omega⟩
          have hs6 : s < 6 := by omega
          clear k1 k2
          go_wp2_with (at_builtin; refine wpList_pushN rfl _ _ _ rfl Try.underlying22 rfl O3.out rfl (by simp) (by omega) s3 ?_; intro A' c' w' ho' hg' hb')
          all_goals
            have F := Lib.hid (LR.push (p := p) hlt O3.out R3.out (by omega) G3.out ho' hg')
            clear ho' hg' hb'
            go_roundw
            case rel => exact ⟨k + 1, A', c', by omega, by go_num, rfl, F.out⟩
            case measure => simp [intOf]; omega
        · have b1 : (kd == 1) = false := by simpa using k1
          have b2 : (kd == 2) = false := by simpa using k2
          clear k1 k2
          go_wp2_with (at_builtin; refine wpList_pushN rfl _ _ _ rfl Try.underlying22 rfl O3.out rfl (by simp) (by omega) s3 ?_; intro A' c' w' ho' hg' hb')
          have F := Lib.hid (LR.push (p := p) hlt O3.out R3.out (by omega) G3.out ho' hg')
          clear ho' hg' hb'
          go_roundw
          case rel => exact ⟨k + 1, A', c', by omega, by go_num, rfl, F.out⟩
          case measure => simp [intOf]; omega
    · have hkN : k = N := by omega
      subst hkN
      go_wp2_with fail
      refine (pick_any _ _ _ _ HR.out (by omega) (by omega)).mono ?_
      rintro e w3 ⟨x, rfl, x0, x1, _, r3, g3⟩
      have R3 := Lib.hid r3
      have O3 := Lib.hid (HO.out.picked hlt g3)
      have G3 := Lib.hid (grownBy_trans HW.out g3)
      have s3 : w.heap.size ≤ w3.heap.size := Nat.le_trans HW.out.size g3.size
      clear r3 g3 x1 HR HO HW
      by_cases hx : x = 0
      · have b1 : (x == 0) = true := by simpa using hx
        clear hx
        have R3' := Lib.hid (R3.out.below ((Below.refl _ _).alloc (Nat.le_refl _) (.cells #[.int .i64 0, .int .i64 61, .int .i64 (-1)] 3)))
        go_wp2_with fail
        refine (pick_any _ _ _ _ R3'.out (by omega) (by omega)).mono ?_
        rintro e w4 ⟨y, rfl, y0, y1, _, r4, g4⟩
        have y2 := y1 (by omega)
        have R4 := Lib.hid r4
        have O4 := Lib.hid ((O3.out.alloc (.cells #[.int .i64 0, .int .i64 61, .int .i64 (-1)] 3)).picked hlt g4)
        have G4 := Lib.hid (grownBy_trans (grown_more G3.out (World.grownBy_alloc w3 _ none) (fun x e => by cases e)) g4)
        have s4 : w.heap.size ≤ w4.heap.size := by have := g4.size; simp at this; omega
        have hne : w3.heap.size ≠ g := by omega
        have hh := g4.block w3.heap.size (by simp) (by intro e; injection e with e; omega)
        have c0 : w4.cell? ⟨w3.heap.size, 0, none⟩ = some (.int .i64 0) := (World.cell?_of_block (a := ⟨w3.heap.size, 0, none⟩) hh).trans (by simp)
        have c1 : w4.cell? ⟨w3.heap.size, 1, none⟩ = some (.int .i64 61) := (World.cell?_of_block (a := ⟨w3.heap.size, 1, none⟩) hh).trans (by simp)
        have c2 : w4.cell? ⟨w3.heap.size, 2, none⟩ = some (.int .i64 (-1)) := (World.cell?_of_block (a := ⟨w3.heap.size, 2, none⟩) hh).trans (by simp)
        clear r4 g4 y1 R3 R3' O3 G3 hh
        rcases (show y = 0 ∨ y = 1 ∨ y = 2 from by omega) with rfl | rfl | rfl
        all_goals
          go_wp2_with (at_builtin; refine wpList_pushN rfl _ _ _ rfl Try.underlying22 rfl O4.out rfl (by simp) (by omega) s4 ?_; intro A' c' w' ho' hg' hb')
          go_ret
          exact ⟨A', k + 1, c', _, _, rfl, ho', by omega, R4.out.grown hg' (fun x e => by have := (O4.out.lt x e).1; omega), by omega, grown_more G4.out hg' (fun x e => (O4.out.lt x e).1)⟩
      · have b1 : (x == 0) = false := by simpa using hx
        clear hx
        go_wp2_with fail
        go_ret
        exact ⟨A, k, c, _, _, rfl, O3.out, by omega, R3.out, by omega, G3.out⟩
end Go.Proofs.Ytbihdajoflaknaa
