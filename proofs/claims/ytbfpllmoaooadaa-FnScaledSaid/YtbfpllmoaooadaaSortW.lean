
/- slices.Sort on a slice of the call's own: out of the library's contract. -/
import Derived.Test.YtbfpllmoaooadaaShelf
import Derived.Test.YtbfpllmoaooadaaSortP
import Derived.Test.YtbfpllmoaooadaaMem
import Derived.Sort.Grow
namespace Go.Proofs.Ytbfpllmoaooadaa
set_option linter.unusedVariables false
open Go.RowKit Go.Sort
theorem holds_of_blockI {w : World} {g : Nat} {cur : Array Value} {e : TypeId} {ss : List Int} (hb : w.heap[g]? = some (.cells cur e (0, 0))) (ht : cur.toList.take ss.length = ints ss) : Holds (Value.int .i64) w g 0 ss.toArray := by
  intro j hj
  have hj' : j < ss.length := by simpa using hj
  refine ⟨?_, by simp [World.frozen?, hb]⟩
  have h1 : (cur.toList.take ss.length)[j]? = (ints ss)[j]? := by rw [ht]
  rw [List.getElem?_take_of_lt hj'] at h1
  simp only [World.cell?, hb, Nat.zero_add]
  simp only [Option.isSome_none, Bool.false_eq_true, if_false]
  rw [← Array.getElem?_toList, h1]
  simp [ints, hj']
theorem heap_sortedI {w : World} {g n : Nat} {os : Array Obj} {cur : Array Value} {e : TypeId} {fr : Nat × Nat} (d : Array Int) (hb : w.heap[g]? = some (.cells cur e fr)) :
    (grow (putRow (Value.int .i64) (Sort.ahead w n) g 0 d) os).heap[g]? = some (.cells (putCells (Value.int .i64) 0 d cur) e fr) := by
  have hg : g < w.heap.size := (Array.getElem?_eq_some_iff.1 hb).1
  rw [heap_grow_old _ _ (by simpa using hg)]
  simp [putRow, mapBlock, Sort.ahead, Array.getElem?_modify, hb, onCells]
theorem grownBy_sortedI {w : World} {g n : Nat} {os : Array Obj} (d : Array Int) : w.grownBy (grow (putRow (Value.int .i64) (Sort.ahead w n) g 0 d) os) (some g) := by
  refine ⟨rfl, rfl, rfl, by simp, fun k hk hne => ?_⟩
  rw [heap_grow_old _ _ (by simpa using hk)]
  have : g ≠ k := fun e => hne (by rw [e])
  simp [putRow, mapBlock, Sort.ahead, Array.getElem?_modify, this]
theorem take_putCellsI (cur : Array Value) (ts : List Int) (h : ts.length ≤ cur.size) : (putCells (Value.int .i64) 0 ts.toArray cur).toList.take ts.length = ints ts := by
  apply List.ext_getElem?
  intro j
  by_cases hj : j < ts.length
  · rw [List.getElem?_take_of_lt hj, Array.getElem?_toList]
    simp [putCells, ints, hj, show j < cur.size by omega]
  · rw [List.getElem?_take_eq_none (by omega), List.getElem?_eq_none (by simp; omega)]
/-- What the sort hands back. -/
def RetSort (w : World) (base : Nat) (A : Option Addr) (n c : Nat) (xs : List Int) (e : Ending) (w' : World) : Prop :=
  e = .returned (.tuple #[]) ∧ Own w' base A n c (Srt.up xs) ∧ w.grownBy w' (blk A)
theorem sort_any (base : Nat) (A : Option Addr) (n c : Nat) (xs : List Int) (w : World) (ho : Own w base A n c xs) (hn : n ≤ 1000000) :
    Calls Try.prog 60 #[.slice A n c] w (RetSort w base A n c xs) := by
  have hl := ho.len
  subst hl
  have h0 := ho
  rcases h0.2 with ⟨h1, h2⟩ | ⟨g, cap, cur, h1, hbase, hb, h2, h3, h4, h5⟩
  · injection h1 with e1 e2 e3
    have hx : xs = [] := List.eq_nil_of_length_eq_zero e2
    subst e1 e3 hx
    refine (Try.slices_Sort_int_none none 0 w).mono fun e w' ⟨h6, h7⟩ => ?_
    subst h7
    exact ⟨h6, by simpa [Srt.up] using ho, World.grownBy.refl _ _⟩
  · injection h1 with e1 e2 e3
    subst e1 e3
    rw [Nat.mul_one] at h5
    refine (Try.slices_Sort_int g 0 c xs w (holds_of_blockI hb h5) (Array.getElem?_eq_some_iff.1 hb).1 (by omega)).mono fun e w' ⟨h6, k, os, h7⟩ => ?_
    subst h7
    have hlen : (Srt.up xs).length = xs.length := (Srt.up_perm xs).length_eq
    refine ⟨h6, ?_, grownBy_sortedI _⟩
    refine ⟨by simp [hlen], .inr ⟨g, c, _, rfl, hbase, heap_sortedI _ hb, h2, h3, by simp [putCells, h4], ?_⟩⟩
    rw [Nat.mul_one]
    have h8 := take_putCellsI cur (Srt.up xs) (by rw [hlen, h4]; omega)
    rw [hlen] at h8
    exact h8
end Go.Proofs.Ytbfpllmoaooadaa
