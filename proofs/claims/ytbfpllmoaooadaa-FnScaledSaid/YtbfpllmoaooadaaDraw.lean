
/- The reader of a code: it hands back some number below the bound. -/
import Derived.Test.YtbfpllmoaooadaaOpen
import Derived.Test.YtbfpllmoaooadaaBits
import Derived.Test.YtbfpllmoaooadaaSum
namespace Go.Proofs.Ytbfpllmoaooadaa
set_option linter.unusedVariables false
open Go.RowKit
/-- Block g is a reader that stands at place p. -/
def Rdr (w : World) (g : Nat) (p : Nat) : Prop := ∃ A n c bs, w.heap[g]? = some (.cells #[.slice A n c, .int .i64 p] 74 (0, 0)) ∧ Rb w g A n bs ∧ n ≤ 2000
section
variable {w w' : World} {g p n : Nat} {A : Option Addr} {bs : List Int} {row : Option Nat}
theorem Rb.kept {B : Nat} (h : Rb w B A n bs) (hk : ∀ b, b < B → w'.heap[b]? = w.heap[b]?) : Rb w' B A n bs :=
  ⟨h.1, h.2.1, fun hn => by
    obtain ⟨b, off, e, hb, hc⟩ := h.2.2 hn
    exact ⟨b, off, e, hb, fun j hj => (World.cell?_of_block (w := w) (a := ⟨b, off + j, none⟩) (hk b hb)).trans (hc j hj)⟩⟩
theorem Rb.mono {B B' : Nat} (h : Rb w B A n bs) (hB : B ≤ B') : Rb w B' A n bs :=
  ⟨h.1, h.2.1, fun hn => by
    obtain ⟨b, off, e, hb, hc⟩ := h.2.2 hn
    exact ⟨b, off, e, by omega, hc⟩⟩
theorem Rb.below {B : Nat} (h : Rb w B A n bs) (hb : Below B w w') : Rb w' B A n bs := h.kept hb.block
theorem Rdr.lt (h : Rdr w g p) : g < w.heap.size := by
  obtain ⟨A, n, c, bs, h1, _⟩ := h
  exact (Array.getElem?_eq_some_iff.1 h1).1
/-- The reader is kept where neither it nor what lies below it is written. -/
theorem Rdr.grown (h : Rdr w g p) (hg : w.grownBy w' row) (hr : ∀ k, row = some k → g < k) : Rdr w' g p := by
  have hlt := h.lt
  obtain ⟨A, n, c, bs, h1, h2, h3⟩ := h
  have key : ∀ b, b ≤ g → w'.heap[b]? = w.heap[b]? := fun b hb => hg.block b (by omega) (fun e => by have := hr b e.symm; omega)
  exact ⟨A, n, c, bs, (key g (Nat.le_refl _)).trans h1, h2.kept fun b hb => key b (by omega), h3⟩
theorem Rdr.below (h : Rdr w g p) (hb : Below w.heap.size w w') : Rdr w' g p := h.grown (grown_of_below (row := none) hb) (fun k e => by cases e)
end
def RetRdr (w : World) (e : Ending) (w' : World) : Prop := ∃ g, e = .returned (.pointer (some ⟨g, 0, none⟩)) ∧ Rdr w' g 0 ∧ w.heap.size ≤ g ∧ Below w.heap.size w w'
theorem rdr_new {w : World} {A : Option Addr} {n c : Nat} {bs : List Int} (h : Rb w w.heap.size A n bs) (hn : n ≤ 2000) : Rdr (w.alloc (.cells #[.slice A n c, .int .i64 0] 74)) w.heap.size 0 :=
  ⟨A, n, c, bs, heap_alloc_new w _, h.kept fun b hb => Below.heap_alloc w _ b hb, hn⟩
theorem Rb.take {w : World} {B n : Nat} {A : Option Addr} {bs : List Int} (h : Rb w B A n bs) {k : Nat} (hk : k ≤ n) : Rb w B A k (bs.take k) := by
  have hl := h.1
  refine ⟨by simp; omega, fun x hx => h.2.1 x (List.mem_of_mem_take hx), fun hn => ?_⟩
  obtain ⟨b, off, e, hb, hc⟩ := h.2.2 (by omega)
  refine ⟨b, off, e, hb, fun j hj => ?_⟩
  rw [hc j (by omega)]
  simp [List.getD, hj]
set_option maxHeartbeats 400000 in
theorem l6Open_any (A : Option Addr) (n c : Nat) (bs : List Int) (w : World) (h : Rb w w.heap.size A n bs) (hnc : n ≤ c) :
    Calls Try.prog 67 #[.slice A n c] w (RetRdr w) := by
  by_cases hn : n ≤ 2000
  · go_enter Try.func67, Try.ntmps67
    go_wp2_with fail
    go_ret
    exact ⟨_, rfl, rdr_new h hn, Nat.le_refl _, (Below.refl _ _).alloc (Nat.le_refl _) _⟩
  · have h2 := h.take (k := 2000) (by omega)
    go_enter Try.func67, Try.ntmps67
    go_wp2_with fail
    go_ret
    exact ⟨_, rfl, rdr_new h2 (by omega), Nat.le_refl _, (Below.refl _ _).alloc (Nat.le_refl _) _⟩
/-- A number is picked: not negative, below the bound where there is one, else 0. -/
def Picks (w : World) (g p : Nat) (m : Int) (e : Ending) (w' : World) : Prop :=
  ∃ v : Int, e = .returned (.int .i64 v) ∧ 0 ≤ v ∧ (1 ≤ m → v < m) ∧ (m < 1 → v = 0) ∧ Rdr w' g (p + 1) ∧ w.grownBy w' (some g)
set_option maxRecDepth 100000 in
set_option maxHeartbeats 1600000 in
theorem pick_any (g p : Nat) (m : Int) (w : World) (h : Rdr w g p) (hp : p ≤ 100000) (hm : m ≤ 1000000000) :
    Calls Try.prog 69 #[.pointer (some ⟨g, 0, none⟩), .int .i64 m] w (Picks w g p m) := by
  obtain ⟨A, n, c, bs, h1, h2, h3⟩ := h
  have hlt : g < w.heap.size := (Array.getElem?_eq_some_iff.1 h1).1
  have c0 : w.cell? ⟨g, 0, none⟩ = some (.slice A n c) := cell_of_row w g 0 _ _ (0, 0) h1
  have c1 : w.cell? ⟨g, 1, none⟩ = some (.int .i64 p) := cell_of_row w g 1 _ _ (0, 0) h1
  have f1 : w.frozen? ⟨g, 1, none⟩ = false := frozen_of_row w g 1 _ _ h1
  have fin : Rdr (w.setCell ⟨g, 1, none⟩ (.int .i64 ((p : Int) + 1))) g (p + 1) ∧ w.grownBy (w.setCell ⟨g, 1, none⟩ (.int .i64 ((p : Int) + 1))) (some g) := by
    refine ⟨⟨A, n, c, bs, ?_, h2.kept fun b hb => Below.heap_setCell _ _ _ _ (by show b ≠ g; omega), h3⟩, ⟨rfl, rfl, rfl, by simp, fun k _ hk => Below.heap_setCell _ _ _ _ (fun e => hk (by rw [e]))⟩⟩
    have := heap_setCell_same w g 1 _ _ (.int .i64 ((p : Int) + 1)) h1
    simpa using this
  have FIN := Lib.hid fin
  clear fin h1
  by_cases hm1 : m < 1
  · clear h2
    go_enter Try.func69, Try.ntmps69
    go_wp2_with fail
    go_ret
    exact ⟨0, rfl, by omega, by omega, fun _ => rfl, FIN.out⟩
  by_cases hn0 : n = 0
  · subst hn0
    have hd : decide (m < 1) = false := by simpa using hm1
    clear h2
    go_enter Try.func69, Try.ntmps69
    go_wp2_with fail
    go_ret
    exact ⟨0, rfl, by omega, by omega, fun _ => rfl, FIN.out⟩
  have hd : decide (m < 1) = false := by simpa using hm1
  have hn1 : ((n : Int) == 0) = false := by simp; omega
  have hn2 : 0 < n := by omega
  by_cases hpn : p < n
  · obtain ⟨b, off, rfl, hb, hc⟩ := h2.2.2 (by omega)
    have cb := hc p hpn
    have hx := h2.2.1 _ (getD_mem (xs := bs) (k := p) (by rw [h2.1]; exact hpn))
    obtain ⟨x, hxe⟩ : ∃ x, bs.getD p 0 = x := ⟨_, rfl⟩
    rw [hxe] at cb hx
    obtain ⟨x1, x2⟩ := hx
    have hbg : b ≠ g := by omega
    have hw1 : IntKind.i64.wrap x = x := IntWalk.i64_in _ (by omega)
    clear hc hxe h2
    go_enter Try.func69, Try.ntmps69
    go_wp2_with fail
    go_ret
    exact ⟨x % m, rfl, Int.emod_nonneg _ (by omega), fun _ => Int.emod_lt_of_pos _ (by omega), fun h => absurd h (by omega), FIN.out⟩
  · obtain ⟨b, off, rfl, hb, hc⟩ := h2.2.2 (by omega)
    obtain ⟨i1, hi1⟩ : ∃ i, p % n = i := ⟨_, rfl⟩
    obtain ⟨i2, hi2⟩ : ∃ i, (p * 7 + 3) % n = i := ⟨_, rfl⟩
    obtain ⟨q, hq⟩ : ∃ q, p / n = q := ⟨_, rfl⟩
    have l1 : i1 < n := by rw [← hi1]; exact Nat.mod_lt _ hn2
    have l2 : i2 < n := by rw [← hi2]; exact Nat.mod_lt _ hn2
    have l3 : q ≤ 100000 := by rw [← hq]; exact Nat.le_trans (Nat.div_le_self _ _) hp
    have cb1 := hc i1 l1
    have cb2 := hc i2 l2
    have hx := h2.2.1 _ (getD_mem (xs := bs) (k := i1) (by rw [h2.1]; exact l1))
    have hy := h2.2.1 _ (getD_mem (xs := bs) (k := i2) (by rw [h2.1]; exact l2))
    obtain ⟨x, hxe⟩ : ∃ x, bs.getD i1 0 = x := ⟨_, rfl⟩
    obtain ⟨y, hye⟩ : ∃ x, bs.getD i2 0 = x := ⟨_, rfl⟩
    rw [hxe] at cb1 hx
    rw [hye] at cb2 hy
    obtain ⟨x1, x2⟩ := hx
    obtain ⟨y1, y2⟩ := hy
    have hbg : b ≠ g := by omega
    have m1 : (p : Int).tmod (n : Int) = (i1 : Int) := by rw [Int.tmod_eq_emod_of_nonneg (by omega), ← hi1, Int.natCast_emod]
    have m1' : (p : Int) % (n : Int) = (i1 : Int) := by rw [← hi1, Int.natCast_emod]
    have m2 : ((p : Int) * 7 + 3).tmod (n : Int) = (i2 : Int) := by rw [Int.tmod_eq_emod_of_nonneg (by omega), ← hi2, Int.natCast_emod]; rfl
    have m2' : ((p : Int) * 7 + 3) % (n : Int) = (i2 : Int) := by rw [← hi2, Int.natCast_emod]; rfl
    have m3 : (p : Int).tdiv (n : Int) = (q : Int) := by rw [Int.tdiv_eq_ediv_of_nonneg (by omega), ← hq, Int.natCast_ediv]
    have m3' : (p : Int) / (n : Int) = (q : Int) := by rw [← hq, Int.natCast_ediv]
    have w1 : IntKind.i64.wrap x = x := IntWalk.i64_in _ (by omega)
    have w2 : IntKind.i64.wrap y = y := IntWalk.i64_in _ (by omega)
    have w3 : IntKind.i64.wrap (x * 131) = x * 131 := IntWalk.i64_in _ (by omega)
    have w4 : IntKind.i64.wrap (y * 1117) = y * 1117 := IntWalk.i64_in _ (by omega)
    have w5 : IntKind.i64.wrap (x * 131 + y * 1117) = x * 131 + y * 1117 := IntWalk.i64_in _ (by omega)
    have w6 : IntKind.i64.wrap ((p : Int) * 29) = (p : Int) * 29 := IntWalk.i64_in _ (by omega)
    have w7 : IntKind.i64.wrap (x * 131 + y * 1117 + (p : Int) * 29) = x * 131 + y * 1117 + (p : Int) * 29 := IntWalk.i64_in _ (by omega)
    have w8 : IntKind.i64.wrap ((q : Int) * 53) = (q : Int) * 53 := IntWalk.i64_in _ (by omega)
    have w9 : IntKind.i64.wrap (x * 131 + y * 1117 + (p : Int) * 29 + (q : Int) * 53) = x * 131 + y * 1117 + (p : Int) * 29 + (q : Int) * 53 := IntWalk.i64_in _ (by omega)
    have wa : IntKind.i64.wrap ((p : Int) * 7) = (p : Int) * 7 := IntWalk.i64_in _ (by omega)
    have wb : IntKind.i64.wrap ((p : Int) * 7 + 3) = (p : Int) * 7 + 3 := IntWalk.i64_in _ (by omega)
    have wc : IntKind.i64.wrap (i1 : Int) = i1 := IntWalk.i64_in _ (by omega)
    have wd : IntKind.i64.wrap (i2 : Int) = i2 := IntWalk.i64_in _ (by omega)
    have we : IntKind.i64.wrap (q : Int) = q := IntWalk.i64_in _ (by omega)
    have j1 : (0 : Int) ≤ (i1 : Int) := by omega
    have j2 : (i1 : Int) < (n : Int) := by omega
    have j3 : ((i1 : Int)).toNat = i1 := by omega
    have k1 : (0 : Int) ≤ (i2 : Int) := by omega
    have k2 : (i2 : Int) < (n : Int) := by omega
    have k3 : ((i2 : Int)).toNat = i2 := by omega
    have hnz : ¬ ((n : Int) = 0) := by omega
    clear hc hxe hye h2 hi1 hi2 hq
    go_enter Try.func69, Try.ntmps69
    go_wp2_with fail
    go_quiet (fail)
    go_wp2_with fail
    go_ret
    have hS : 0 ≤ x * 131 + y * 1117 + (p : Int) * 29 + (q : Int) * 53 := by omega
    have hS2 : x * 131 + y * 1117 + (p : Int) * 29 + (q : Int) * 53 < 4611686018427387904 := by omega
    obtain ⟨s, hs⟩ := Int.eq_ofNat_of_zero_le hS
    have hz := xor_shift s (by omega)
    rw [← hs] at hz
    have hv : (bits BinOp.xor IntKind.i64 (x * 131 + y * 1117 + (p : Int) * 29 + (q : Int) * 53) ((x * 131 + y * 1117 + (p : Int) * 29 + (q : Int) * 53) / 64)).tmod m = (((s ^^^ s / 64 : Nat) : Int)) % m := by
      rw [hz, Int.tmod_eq_emod_of_nonneg (by omega)]
    exact ⟨_, congrArg (fun v => Ending.returned (.int .i64 v)) hv, Int.emod_nonneg _ (by omega), fun _ => Int.emod_lt_of_pos _ (by omega), fun h => absurd h (by omega), FIN.out.1, FIN.out.2.os, FIN.out.2.tape, FIN.out.2.output, FIN.out.2.size, FIN.out.2.block⟩
end Go.Proofs.Ytbfpllmoaooadaa
