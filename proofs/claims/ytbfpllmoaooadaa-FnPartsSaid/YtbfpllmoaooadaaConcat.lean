
/- slices.Grow of nil, slices.Concat of two. -/
import Derived.Test.YtbfpllmoaooadaaApp
import Derived.Test.YtbfpllmoaooadaaSum
import Derived.Lib.AppendZerosOnto
import Derived.Lib.SliceRun
import Derived.Lib.Walk
namespace Go.Proofs.Ytbfpllmoaooadaa
set_option linter.unusedVariables false
open Go.RowKit
/-- A slice of the call's own that holds nothing yet. -/
def RetGrow (w : World) (e : Ending) (w' : World) : Prop := ∃ A c, e = .returned (.slice A 0 c) ∧ Own w' w.heap.size A 0 c [] ∧ Below w.heap.size w w'
set_option maxHeartbeats 4000000 in
set_option maxRecDepth 100000 in
theorem grow_nil (n : Nat) (hn : n ≤ 100000) (w : World) : Calls Try.prog 76 #[.slice none 0 0, .int .i64 n] w (RetGrow w) := by
  rcases Nat.eq_zero_or_pos n with h0 | h0
  · subst h0
    go_enter Try.func76, Try.ntmps76
    go_wp2_with fail
    go_ret
    exact ⟨none, 0, rfl, Own.nil _ _, Below.refl _ _⟩
  · obtain ⟨i0, hi0, hz0, hz1, hz2⟩ := info_parts int_info
    have h1 : ¬ ((n : Int) < 0) := by omega
    have h4 : (n : Int) > 0 := by omega
    have hold : (Builtin.firstCells i0.size 0 (.slice none 0 0)).run Try.prog w.drew = .ok #[] w.drew := run_firstCells_none w.drew i0.size 0 0 0
    have hrz : ∀ ty, (Builtin.append_ #[22, 3] ty #[.slice none 0 0, .int .i64 (n : Int)]).run Try.prog w =
        .ok (.slice (some ⟨w.heap.size, 0, none⟩) n (grownCap w n 0 3)) (w.drew.alloc (.cells (#[] ++ Builtin.zeroCells #[.int .i64 0] n ++ Builtin.zeroCells #[.int .i64 0] (grownCap w n 0 3 - n)) 3)) := fun ty => by
      have h := Lib.run_append_grow_zeros w 22 3 ty 3 i0 (.int .i64 0) .i64 .i64 Try.underlying22 Try.underlying3 hi0 hz0 none 0 0 [] hold n (by omega) (by omega) (by omega) (by omega) (by rw [hz2]; omega) (by rw [Nat.zero_add]; exact growslice_fits (by omega) (by rw [hz2]; omega))
      rw [Nat.zero_add] at h
      exact h
    have hGn : n ≤ grownCap w n 0 3 := grownCap_ge w _ _ _
    have hGm : grownCap w n 0 3 ≤ maxLen := grownCap_le_maxLen w n 0 3 (by unfold maxLen; omega)
    obtain ⟨G, hG⟩ : ∃ G, G = grownCap w n 0 3 := ⟨_, rfl⟩
    rw [← hG] at hrz hGn hGm
    have hG63 : G ≤ 9223372036854775807 := by unfold maxLen at hGm; omega
    have hsz : (Builtin.zeroCells #[.int .i64 0] n ++ Builtin.zeroCells #[Value.int .i64 0] (G - n)).size = G := by
      simp [Builtin.zeroCells]; omega
    have HO : Hid (Own (w.alloc (.cells (Builtin.zeroCells #[.int .i64 0] n ++ Builtin.zeroCells #[.int .i64 0] (G - n)) 3)).drew w.heap.size (some ⟨w.heap.size, 0, none⟩) 0 G []) := Lib.hid ⟨rfl, .inr ⟨w.heap.size, G, _, rfl, Nat.le_refl _, heap_alloc_new w _, by omega, hGm, by rw [hsz, Nat.mul_one], by rw [Nat.zero_mul, List.take_zero]; rfl⟩⟩
    have HB : Hid (Below w.heap.size w (w.alloc (.cells (Builtin.zeroCells #[.int .i64 0] n ++ Builtin.zeroCells #[.int .i64 0] (G - n)) 3)).drew) := Lib.hid (below_drewN ((Below.refl w.heap.size w).alloc (Nat.le_refl _) _) 1)
    clear hold hG hsz
    go_enter Try.func76, Try.ntmps76
    go_wp2_with (at_builtin; refine Lib.wpList_append_run _ rfl _ _ _ _ rfl _ _ rfl rfl _ _ (hrz _) ?_)
    go_ret
    exact ⟨_, _, rfl, HO.out, HB.out⟩
/-- What a range over two has come to. -/
def Two (x : Int) (L xs ys : List Int) : Prop := x = 0 ∧ L = [] ∨ x = 1 ∧ L = xs ∨ x = 2 ∧ L = xs ++ ys
set_option maxRecDepth 100000 in
set_option maxHeartbeats 1600000 in
theorem concat_any (B c0 : Nat) (A : Option Addr) (n c : Nat) (xs : List Int) (A' : Option Addr) (n' c' : Nat) (ys : List Int) (w : World) (h0 : w.cell? ⟨B, 0, none⟩ = some (.slice A n c)) (h1 : w.cell? ⟨B, 1, none⟩ = some (.slice A' n' c'))
    (hB : B < w.heap.size) (ha : Rd w w.heap.size A n xs) (hb : Rd w w.heap.size A' n' ys) (hn : n ≤ 1000) (hn' : n' ≤ 1000) :
    Calls Try.prog 58 #[.slice (some ⟨B, 0, none⟩) 2 c0] w (RetOwn w (xs ++ ys)) := by
  have HA := Lib.hid ha
  have HB := Lib.hid hb
  clear ha hb
  have HC0 := Lib.hid h0
  have HC1 := Lib.hid h1
  go_enter Try.func58, Try.ntmps58
  go_wp2_with fail
  go_loop [3, 11] (fun s i => ∃ (x y : Int), i = .int .i64 x ∧ s = .int .i64 y ∧ (x = 0 ∧ y = 0 ∨ x = 1 ∧ y = (n : Int) ∨ x = 2 ∧ y = (n : Int) + (n' : Int))) (fun _ i => 2 - (intOf i).toNat)
  case atStart => exact ⟨0, 0, rfl, rfl, Or.inl ⟨rfl, rfl⟩⟩
  case round =>
    obtain ⟨x, y, rfl, rfl, hxy⟩ := hrel
    rcases hxy with ⟨rfl, rfl⟩ | ⟨rfl, rfl⟩ | ⟨rfl, rfl⟩
    · go_wp2_with fail
      go_round
      case rel => exact ⟨1, n, rfl, by go_num, Or.inr (Or.inl ⟨rfl, rfl⟩)⟩
      case measure => simp [intOf]
    · have hs : ¬ ((n : Int) + (n' : Int) < 0) := by omega
      go_wp2_with fail
      go_round
      case rel => exact ⟨2, (n : Int) + (n' : Int), rfl, rfl, Or.inr (Or.inr ⟨rfl, rfl⟩)⟩
      case measure => simp [intOf]
    · have GR : Hid (∀ W : World, Calls Try.prog 76 #[.slice none 0 0, .int .i64 ((n : Int) + (n' : Int))] W (RetGrow W)) := Lib.hid (fun W => by
        have := grow_nil (n + n') (by omega) W
        rw [Int.natCast_add] at this
        exact this)
      go_wp2_with fail
      refine (GR.out w).mono ?_
      rintro e w1 ⟨A1, c1, rfl, ho, hbl⟩
      have HO := Lib.hid ho
      have HBL := Lib.hid hbl
      have g0 : w1.cell? ⟨B, 0, none⟩ = some (.slice A n c) := (hbl.cell (p := ⟨B, 0, none⟩) hB).trans h0
      have g1 : w1.cell? ⟨B, 1, none⟩ = some (.slice A' n' c') := (hbl.cell (p := ⟨B, 1, none⟩) hB).trans h1
      clear ho hbl h0 h1 GR
      go_wp2_with fail
      go_loopw [6, 27] (fun o i wr => ∃ (x : Int) (A2 : Option Addr) (k c2 : Nat) (L : List Int), i = .int .i64 x ∧ o = .slice A2 k c2 ∧ k ≤ 2000 ∧ Two x L xs ys ∧ Hid (Own wr w.heap.size A2 k c2 L) ∧ Hid (Below w.heap.size w wr)) (fun _ i _ => 2 - (intOf i).toNat)
      case atStart => exact ⟨0, A1, 0, c1, [], rfl, rfl, by omega, Or.inl ⟨rfl, rfl⟩, HO, HBL⟩
      case round =>
        obtain ⟨x, A2, k, c2, L, rfl, rfl, hk, hT, HO2, HB2⟩ := hrel
        clear HO HBL g0 g1
        have HRA := Lib.hid (HA.out.below HB2.out)
        have HRB := Lib.hid (HB.out.below HB2.out)
        rcases hT with ⟨rfl, rfl⟩ | ⟨rfl, rfl⟩ | ⟨rfl, rfl⟩
        · have g0 : wr.cell? ⟨B, 0, none⟩ = some (.slice A n c) := (HB2.out.cell (p := ⟨B, 0, none⟩) hB).trans HC0.out
          have hk0 : k ≤ 0 := by have := HO2.out.len; simp at this; omega
          go_wp2_with (at_builtin; refine wpList_app rfl _ _ _ rfl Try.underlying22 rfl HO2.out rfl HRA.out (by omega) HB2.out.size ?_; intro A3 c3 w3 ho3 hg3 hk3)
          have HO3 := Lib.hid ho3
          have HB3 := Lib.hid (HB2.out.grown hg3 HB2.out.size (fun g e => (HO2.out.lt g e).1))
          clear ho3 hg3 hk3
          go_wp2_with fail
          go_roundw
          case rel => exact ⟨1, A3, _, c3, xs, rfl, rfl, by omega, Or.inr (Or.inl ⟨rfl, rfl⟩), HO3, HB3⟩
          case measure => simp [intOf]
        · have g1 : wr.cell? ⟨B, 1, none⟩ = some (.slice A' n' c') := (HB2.out.cell (p := ⟨B, 1, none⟩) hB).trans HC1.out
          have hk1 : k ≤ 1000 := by have := HO2.out.len; have := HA.out.len; omega
          go_wp2_with (at_builtin; refine wpList_app rfl _ _ _ rfl Try.underlying22 rfl HO2.out rfl HRB.out (by omega) HB2.out.size ?_; intro A3 c3 w3 ho3 hg3 hk3)
          have HO3 := Lib.hid ho3
          have HB3 := Lib.hid (HB2.out.grown hg3 HB2.out.size (fun g e => (HO2.out.lt g e).1))
          clear ho3 hg3 hk3
          go_wp2_with fail
          go_roundw
          case rel => exact ⟨2, A3, _, c3, _, rfl, rfl, by omega, Or.inr (Or.inr ⟨rfl, rfl⟩), HO3, HB3⟩
          case measure => simp [intOf]
        · go_wp2_with fail
          go_ret
          exact ⟨_, _, _, rfl, HO2.out, HB2.out⟩
end Go.Proofs.Ytbfpllmoaooadaa
