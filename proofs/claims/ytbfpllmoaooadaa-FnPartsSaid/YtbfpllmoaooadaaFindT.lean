
/- All rising triples, both packages: the walks. Printed by gen_threes.py. -/
import Derived.Test.YtbfpllmoaooadaaLists
import Derived.Test.YtbfpllmoaooadaaFindP
namespace Go.Proofs.Ytbfpllmoaooadaa
set_option linter.unusedVariables false
open Go.RowKit
/-- What a call hands back: rows of its own. -/
def RetOwnR (w : World) (yss : List (List Int)) (e : Ending) (w' : World) : Prop := ∃ A n c, e = .returned (.slice A n c) ∧ OwnR w' w.heap.size A n c yss ∧ Below w.heap.size w w' 
set_option maxRecDepth 100000 in
set_option maxHeartbeats 3200000 in
theorem implThrees_any (n : Nat) (hn : n ≤ 12) (w : World) : Calls Try.prog 72 #[.int .i64 n] w (RetOwnR w (Fd.threes n)) := by
  have HO0 := Lib.hid (own_emptyR w (t := 22) rfl)
  have HB0 := Lib.hid ((Below.refl w.heap.size w).alloc (Nat.le_refl _) (.cells #[] 22))
  go_enter Try.func72, Try.ntmps72
  go_wp2_with fail
  go_loopw [3, 4] (fun s xv wr => ∃ (x k : Nat) (A : Option Addr) (c : Nat), x ≤ n + 1 ∧ k ≤ 169 * x ∧ xv = .int .i64 x ∧ s = .slice A k c ∧ Hid (OwnR wr w.heap.size A k c (Fd.threesTo x n)) ∧ Hid (Below w.heap.size w wr)) (fun _ xv _ => n + 1 - (intOf xv).toNat)
  case atStart => exact ⟨0, 0, _, _, by omega, by omega, rfl, rfl, by rw [Fd.threesTo_start]; exact HO0, HB0⟩
  case round =>
    obtain ⟨x, k, A, c, hx, hk, rfl, rfl, HO, HB⟩ := hrel
    clear HO0 HB0
    by_cases hlt : x ≤ n
    · have hltz : (x : Int) ≤ (n : Int) := by omega
      have dv : decide ((x : Int) ≤ (n : Int)) = true := decide_eq_true hltz
      go_wp2_with fail
      go_loopw [3, 5] (fun s yv wr => ∃ (y k : Nat) (A : Option Addr) (c : Nat), x ≤ y ∧ y ≤ n + 1 ∧ k ≤ 169 * x + 13 * (y - x) ∧ yv = .int .i64 y ∧ s = .slice A k c ∧ Hid (OwnR wr w.heap.size A k c (Fd.threesTo x n ++ Fd.rowsTo x y n)) ∧ Hid (Below w.heap.size w wr)) (fun _ yv _ => n + 1 - (intOf yv).toNat)
      case atStart => exact ⟨x, k, A, c, by omega, by omega, by omega, rfl, rfl, by rw [Fd.rowsTo_start, List.append_nil]; exact HO, HB⟩
      case round =>
        obtain ⟨y, k, A, c, hxy, hy, hk, rfl, rfl, HO, HB⟩ := hrel
        by_cases hly : y ≤ n
        · have hlyz : (y : Int) ≤ (n : Int) := by omega
          have dy : decide ((y : Int) ≤ (n : Int)) = true := decide_eq_true hlyz
          go_wp2_with fail
          go_loopw [3, 6] (fun s zv wr => ∃ (z k : Nat) (A : Option Addr) (c : Nat), y ≤ z ∧ z ≤ n + 1 ∧ k ≤ 169 * x + 13 * (y - x) + (z - y) ∧ zv = .int .i64 z ∧ s = .slice A k c ∧ Hid (OwnR wr w.heap.size A k c (Fd.threesTo x n ++ Fd.rowsTo x y n ++ Fd.rowTo x y z)) ∧ Hid (Below w.heap.size w wr)) (fun _ zv _ => n + 1 - (intOf zv).toNat)
          case atStart => exact ⟨y, k, A, c, by omega, by omega, by omega, rfl, rfl, by rw [Fd.rowTo_start, List.append_nil]; exact HO, HB⟩
          case round =>
            obtain ⟨z, k, A, c, hyz, hz, hk, rfl, rfl, HO, HB⟩ := hrel
            by_cases hlz : z ≤ n
            · have hlzz : (z : Int) ≤ (n : Int) := by omega
              have dz : decide ((z : Int) ≤ (n : Int)) = true := decide_eq_true hlzz
              obtain ⟨fs, hf⟩ := HO.out
              have HF := Lib.hid hf
              have h3 := own_lit wr w.heap.size HB.out.size [(x : Int), (y : Int), (z : Int)] 3 rfl (by omega) (cs := #[.int .i64 x, .int .i64 y, .int .i64 z]) (t := 3) rfl rfl
              have hb1 := (Below.refl wr.heap.size wr).alloc (Nat.le_refl _) (.cells #[.int .i64 x, .int .i64 y, .int .i64 z] 3)
              have hb2 := hb1.alloc (by simp) (.cells #[.slice (some ⟨wr.heap.size, 0, none⟩) 3 3] 22)
              have H3 := Lib.hid (h3.alloc (.cells #[.slice (some ⟨wr.heap.size, 0, none⟩) 3 3] 22))
              have HB2 := Lib.hid hb2
              have HR := Lib.hid (hf.below hb2).2.2.1
              have HS : Hid (Fd.threesTo x n ++ Fd.rowsTo x y n ++ Fd.rowTo x y (z + 1) = Fd.threesTo x n ++ Fd.rowsTo x y n ++ Fd.rowTo x y z ++ [[(x : Int), (y : Int), (z : Int)]]) := Lib.hid (by rw [Fd.rowTo_step x hyz, ← List.append_assoc])
              clear hf h3 hb1 hb2 HO
              go_wp2_with (at_builtin; refine wpList_pushR rfl _ _ _ rfl Try.underlying68 rfl HR.out rfl (r := .slice (some ⟨wr.heap.size, 0, none⟩) 3 3) rfl (by simp) (by omega) (by have := HB.out.size; simp; omega) ?_; intro A2 c2 w2 ho hg hk2)
              have N := Lib.hid (show OwnR w2 w.heap.size A2 (k + 1) c2 (Fd.threesTo x n ++ Fd.rowsTo x y n ++ Fd.rowTo x y (z + 1)) from ⟨_, by rw [HS.out]; exact HF.out.push HB2.out HB.out.size H3.out (fun g e => by simp [blk] at e; omega) hg ho hk2⟩)
              have NB := Lib.hid ((HB.out.trans (HB2.out.mono HB.out.size)).grown hg (by have := HB.out.size; simp; omega) (fun g e => (HF.out.outer_lt g e).1))
              clear ho hg hk2
              go_wp2_with fail
              go_roundw
              case rel => exact ⟨z + 1, k + 1, A2, c2, by omega, by omega, by omega, by go_num, rfl, N, NB⟩
              case measure => simp [intOf]; omega
            · obtain rfl : z = n + 1 := by omega
              have hlzz : ¬ ((n : Int) + 1 ≤ (n : Int)) := by omega
              have HS : Hid (Fd.threesTo x n ++ Fd.rowsTo x (y + 1) n = Fd.threesTo x n ++ Fd.rowsTo x y n ++ Fd.rowTo x y (n + 1)) := Lib.hid (by rw [Fd.rowsTo_step n hxy, Fd.rowTo_end, ← List.append_assoc])
              go_wp2_with fail
              go_roundw
              case rel => exact ⟨y + 1, k, A, c, by omega, by omega, by omega, by go_num, rfl, by rw [HS.out]; exact HO, HB⟩
              case measure => simp [intOf]; omega
        · obtain rfl : y = n + 1 := by omega
          have hlyz : ¬ ((n : Int) + 1 ≤ (n : Int)) := by omega
          have HS : Hid (Fd.threesTo (x + 1) n = Fd.threesTo x n ++ Fd.rowsTo x (n + 1) n) := Lib.hid (by rw [Fd.threesTo_step, Fd.rowsTo_end])
          go_wp2_with fail
          go_roundw
          case rel => exact ⟨x + 1, k, A, c, by omega, by omega, by go_num, rfl, by rw [HS.out]; exact HO, HB⟩
          case measure => simp [intOf]; omega
    · obtain rfl : x = n + 1 := by omega
      have hltz : ¬ ((n : Int) + 1 ≤ (n : Int)) := by omega
      rw [Fd.threesTo_end] at HO
      go_wp2_with fail
      go_ret
      exact ⟨_, _, _, rfl, HO.out, HB.out⟩
set_option maxRecDepth 100000 in
set_option maxHeartbeats 3200000 in
theorem specThrees_any (n : Nat) (hn : n ≤ 12) (w : World) : Calls Try.prog 71 #[.int .i64 n] w (RetOwnR w (Fd.threes n)) := by
  have HO0 := Lib.hid (own_emptyR w (t := 22) rfl)
  have HB0 := Lib.hid ((Below.refl w.heap.size w).alloc (Nat.le_refl _) (.cells #[] 22))
  go_enter Try.func71, Try.ntmps71
  go_wp2_with fail
  go_loopw [3, 4] (fun s xv wr => ∃ (x k : Nat) (A : Option Addr) (c : Nat), x ≤ n + 1 ∧ k ≤ 169 * x ∧ xv = .int .i64 x ∧ s = .slice A k c ∧ Hid (OwnR wr w.heap.size A k c (Fd.threesTo x n)) ∧ Hid (Below w.heap.size w wr)) (fun _ xv _ => n + 1 - (intOf xv).toNat)
  case atStart => exact ⟨0, 0, _, _, by omega, by omega, rfl, rfl, by rw [Fd.threesTo_start]; exact HO0, HB0⟩
  case round =>
    obtain ⟨x, k, A, c, hx, hk, rfl, rfl, HO, HB⟩ := hrel
    clear HO0 HB0
    by_cases hlt : x ≤ n
    · have hltz : (x : Int) ≤ (n : Int) := by omega
      have dv : decide ((x : Int) ≤ (n : Int)) = true := decide_eq_true hltz
      go_wp2_with fail
      go_loopw [3, 5] (fun s yv wr => ∃ (y k : Nat) (A : Option Addr) (c : Nat), x ≤ y ∧ y ≤ n + 1 ∧ k ≤ 169 * x + 13 * (y - x) ∧ yv = .int .i64 y ∧ s = .slice A k c ∧ Hid (OwnR wr w.heap.size A k c (Fd.threesTo x n ++ Fd.rowsTo x y n)) ∧ Hid (Below w.heap.size w wr)) (fun _ yv _ => n + 1 - (intOf yv).toNat)
      case atStart => exact ⟨x, k, A, c, by omega, by omega, by omega, rfl, rfl, by rw [Fd.rowsTo_start, List.append_nil]; exact HO, HB⟩
      case round =>
        obtain ⟨y, k, A, c, hxy, hy, hk, rfl, rfl, HO, HB⟩ := hrel
        by_cases hly : y ≤ n
        · have hlyz : (y : Int) ≤ (n : Int) := by omega
          have dy : decide ((y : Int) ≤ (n : Int)) = true := decide_eq_true hlyz
          go_wp2_with fail
          go_loopw [3, 6] (fun s zv wr => ∃ (z k : Nat) (A : Option Addr) (c : Nat), y ≤ z ∧ z ≤ n + 1 ∧ k ≤ 169 * x + 13 * (y - x) + (z - y) ∧ zv = .int .i64 z ∧ s = .slice A k c ∧ Hid (OwnR wr w.heap.size A k c (Fd.threesTo x n ++ Fd.rowsTo x y n ++ Fd.rowTo x y z)) ∧ Hid (Below w.heap.size w wr)) (fun _ zv _ => n + 1 - (intOf zv).toNat)
          case atStart => exact ⟨y, k, A, c, by omega, by omega, by omega, rfl, rfl, by rw [Fd.rowTo_start, List.append_nil]; exact HO, HB⟩
          case round =>
            obtain ⟨z, k, A, c, hyz, hz, hk, rfl, rfl, HO, HB⟩ := hrel
            by_cases hlz : z ≤ n
            · have hlzz : (z : Int) ≤ (n : Int) := by omega
              have dz : decide ((z : Int) ≤ (n : Int)) = true := decide_eq_true hlzz
              obtain ⟨fs, hf⟩ := HO.out
              have HF := Lib.hid hf
              have h3 := own_lit wr w.heap.size HB.out.size [(x : Int), (y : Int), (z : Int)] 3 rfl (by omega) (cs := #[.int .i64 x, .int .i64 y, .int .i64 z]) (t := 3) rfl rfl
              have hb1 := (Below.refl wr.heap.size wr).alloc (Nat.le_refl _) (.cells #[.int .i64 x, .int .i64 y, .int .i64 z] 3)
              have hb2 := hb1.alloc (by simp) (.cells #[.slice (some ⟨wr.heap.size, 0, none⟩) 3 3] 22)
              have H3 := Lib.hid (h3.alloc (.cells #[.slice (some ⟨wr.heap.size, 0, none⟩) 3 3] 22))
              have HB2 := Lib.hid hb2
              have HR := Lib.hid (hf.below hb2).2.2.1
              have HS : Hid (Fd.threesTo x n ++ Fd.rowsTo x y n ++ Fd.rowTo x y (z + 1) = Fd.threesTo x n ++ Fd.rowsTo x y n ++ Fd.rowTo x y z ++ [[(x : Int), (y : Int), (z : Int)]]) := Lib.hid (by rw [Fd.rowTo_step x hyz, ← List.append_assoc])
              clear hf h3 hb1 hb2 HO
              go_wp2_with (at_builtin; refine wpList_pushR rfl _ _ _ rfl Try.underlying68 rfl HR.out rfl (r := .slice (some ⟨wr.heap.size, 0, none⟩) 3 3) rfl (by simp) (by omega) (by have := HB.out.size; simp; omega) ?_; intro A2 c2 w2 ho hg hk2)
              have N := Lib.hid (show OwnR w2 w.heap.size A2 (k + 1) c2 (Fd.threesTo x n ++ Fd.rowsTo x y n ++ Fd.rowTo x y (z + 1)) from ⟨_, by rw [HS.out]; exact HF.out.push HB2.out HB.out.size H3.out (fun g e => by simp [blk] at e; omega) hg ho hk2⟩)
              have NB := Lib.hid ((HB.out.trans (HB2.out.mono HB.out.size)).grown hg (by have := HB.out.size; simp; omega) (fun g e => (HF.out.outer_lt g e).1))
              clear ho hg hk2
              go_wp2_with fail
              go_roundw
              case rel => exact ⟨z + 1, k + 1, A2, c2, by omega, by omega, by omega, by go_num, rfl, N, NB⟩
              case measure => simp [intOf]; omega
            · obtain rfl : z = n + 1 := by omega
              have hlzz : ¬ ((n : Int) + 1 ≤ (n : Int)) := by omega
              have HS : Hid (Fd.threesTo x n ++ Fd.rowsTo x (y + 1) n = Fd.threesTo x n ++ Fd.rowsTo x y n ++ Fd.rowTo x y (n + 1)) := Lib.hid (by rw [Fd.rowsTo_step n hxy, Fd.rowTo_end, ← List.append_assoc])
              go_wp2_with fail
              go_roundw
              case rel => exact ⟨y + 1, k, A, c, by omega, by omega, by omega, by go_num, rfl, by rw [HS.out]; exact HO, HB⟩
              case measure => simp [intOf]; omega
        · obtain rfl : y = n + 1 := by omega
          have hlyz : ¬ ((n : Int) + 1 ≤ (n : Int)) := by omega
          have HS : Hid (Fd.threesTo (x + 1) n = Fd.threesTo x n ++ Fd.rowsTo x (n + 1) n) := Lib.hid (by rw [Fd.threesTo_step, Fd.rowsTo_end])
          go_wp2_with fail
          go_roundw
          case rel => exact ⟨x + 1, k, A, c, by omega, by omega, by go_num, rfl, by rw [HS.out]; exact HO, HB⟩
          case measure => simp [intOf]; omega
    · obtain rfl : x = n + 1 := by omega
      have hltz : ¬ ((n : Int) + 1 ≤ (n : Int)) := by omega
      rw [Fd.threesTo_end] at HO
      go_wp2_with fail
      go_ret
      exact ⟨_, _, _, rfl, HO.out, HB.out⟩
end Go.Proofs.Ytbfpllmoaooadaa
