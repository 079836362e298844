
/- Lists, sizes and rules of bins drawn from a code. -/
import Derived.Test.YtbihdajoflaknaaDrawB
namespace Go.Proofs.Ytbihdajoflaknaa
set_option linter.unusedVariables false
open Go.RowKit
/-- What a draw of a list and a size hands back. -/
def RetBS (w : World) (e : Ending) (w' : World) : Prop :=
  ∃ (A : Option Addr) (n c : Nat) (xs : List Int) (v : Int), e = .returned (.tuple #[.slice A n c, .int .i64 v]) ∧ Own w' w.heap.size A n c xs ∧ n ≤ 22 ∧ (n ≤ 8 ∨ sumIn xs = false) ∧ Below w.heap.size w w'
/-- The same and a rule's letter. -/
def RetBR (w : World) (e : Ending) (w' : World) : Prop :=
  ∃ (A : Option Addr) (n c : Nat) (xs : List Int) (v : Int) (s : ByteArray), e = .returned (.tuple #[.slice A n c, .int .i64 v, .string s]) ∧ Own w' w.heap.size A n c xs ∧ n ≤ 22 ∧ (n ≤ 8 ∨ sumIn xs = false) ∧ Below w.heap.size w w'
set_option maxHeartbeats 800000 in
theorem of_any (g p b n c : Nat) (w : World) (h : Rdr w g p) (hp : p ≤ 1000) (hn1 : 1 ≤ n) (hn2 : n ≤ 100) (hb : b ≠ g) (hc : ∀ k, k < n → ∃ s, w.cell? ⟨b, k, none⟩ = some (.string s)) :
    Calls Try.prog 35 #[.pointer (some ⟨g, 0, none⟩), .slice (some ⟨b, 0, none⟩) n c] w fun e w' => ∃ s, e = .returned (.string s) ∧ Rdr w' g (p + 1) ∧ w.grownBy w' (some g) := by
  have H := Lib.hid h
  have HC := Lib.hid hc
  have hne := Lib.hid hb
  clear h hc hb
  go_enter Try.func35, Try.ntmps35
  go_wp2_with fail
  refine (pick_any _ _ _ _ H.out (by omega) (by omega)).mono ?_
  rintro e w1 ⟨y, rfl, y0, y1, _, r1, g1⟩
  have y2 := y1 (by omega)
  obtain ⟨k, rfl⟩ := Int.eq_ofNat_of_zero_le y0
  obtain ⟨s, hs⟩ := HC.out k (by omega)
  have c1 : w1.cell? ⟨b, k, none⟩ = some (.string s) := (World.cell?_of_block (a := ⟨b, k, none⟩) (g1.block b (by have := World.block_lt_of_cell? w _ hs; simpa using this) (fun e => hne.out (by injection e)))).trans hs
  have i3 : ((k : Int)).toNat = k := by omega
  have R1 := Lib.hid r1
  have G1 := Lib.hid g1
  clear r1 g1 y1 hs
  go_wp2_with fail
  go_ret
  exact ⟨s, rfl, R1.out, G1.out⟩
theorem strs_at (ss : List ByteArray) {t : TypeId} (w : World) {cs : Array Value} (hcs : cs = (ss.map Value.string).toArray) (k : Nat) (hk : k < ss.length) : ∃ s, (w.alloc (.cells cs t)).cell? ⟨w.heap.size, k, none⟩ = some (.string s) := by
  subst hcs
  refine ⟨ss[k], ?_⟩
  simp [hk]
set_option maxRecDepth 100000 in
set_option maxHeartbeats 1600000 in
theorem l91Rule_any (A : Option Addr) (n c : Nat) (bs : List Int) (w : World) (h : Rb w w.heap.size A n bs) (hnc : n ≤ c) :
    Calls Try.prog 23 #[.slice A n c] w (RetBR w) := by
  go_enter Try.func23, Try.ntmps23
  go_wp2_with fail
  refine (l6Open_any _ _ _ _ _ h hnc).mono ?_
  rintro e w1 ⟨g, rfl, hr, hg, hb⟩
  have HR := Lib.hid hr
  have HB := Lib.hid hb
  have hs := hb.size
  have hlt := hr.lt
  clear hr hb h
  go_wp2_with fail
  refine (l91Bins_any _ _ _ HR.out (by omega)).mono ?_
  rintro e w2 ⟨A1, n1, c1, p', X, v, rfl, ho, hn, hsn, r1, hp1, g1⟩
  have NE := Lib.hid (show blk A1 = none ∨ blk A1 ≠ some g from by
    cases hA : blk A1 with
    | none => exact .inl rfl
    | some x => right; intro e; injection e with e; have := (ho.lt x hA).1; omega)
  have O1 := Lib.hid (ho.mono hs)
  have G1 := Lib.hid g1
  have R1 := Lib.hid r1
  have HSN := Lib.hid hsn
  have hs2 := g1.size
  clear r1 ho g1 HR hsn
  go_wp2_with fail
  refine (of_any g p' w2.heap.size 13 13 _ (R1.out.below ((Below.refl _ _).alloc (Nat.le_refl _) _)) (by omega) (by omega) (by omega) (by omega) (strs_at [⟨#[110]⟩, ⟨#[102]⟩, ⟨#[98]⟩, ⟨#[119]⟩, ⟨#[78]⟩, ⟨#[70]⟩, ⟨#[66]⟩, ⟨#[87]⟩, ⟨#[102]⟩, ⟨#[70]⟩, ⟨#[98]⟩, ⟨#[120]⟩, ⟨#[102, 102]⟩] w2 rfl)).mono ?_
  rintro e w3 ⟨s, rfl, r3, g3⟩
  have G3 := Lib.hid (grownBy_trans (World.grownBy_alloc w2 _ (some g)) g3)
  have O3 := Lib.hid ((O1.out.alloc _).grown g3 NE.out)
  clear r3 g3 O1
  go_wp2_with fail
  go_ret3
  exact ⟨A1, n1, c1, X, v, s, rfl, O3.out, hn, HSN.out, HB.out.grown (grownBy_trans G1.out G3.out) hs (fun x e => by cases e; exact hg)⟩
end Go.Proofs.Ytbihdajoflaknaa
