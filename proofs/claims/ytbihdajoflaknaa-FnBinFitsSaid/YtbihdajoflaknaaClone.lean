
/- slices.Clone of ints; a slice cut from a place on. -/
import Derived.Test.YtbihdajoflaknaaApp
import Derived.Test.YtbihdajoflaknaaSum
namespace Go.Proofs.Ytbihdajoflaknaa
set_option linter.unusedVariables false
open Go.RowKit
theorem own_drop {w : World} {base n c : Nat} {g : Nat} {xs : List Int} (h : Own w base (some ⟨g, 0, none⟩) n c xs) (k : Nat) : Rd w w.heap.size (some ⟨g, k, none⟩) (n - k) (xs.drop k) := by
  refine ⟨by rw [List.length_drop, h.len], fun hn => ⟨g, k, rfl, ?_, fun j hj => ?_⟩⟩
  · exact (h.lt g rfl).2
  · rw [h.cell (show k + j < n by omega)]
    simp [List.getD, List.getElem?_drop]
theorem clone_some (ad : Addr) (n c : Nat) (xs : List Int) (w : World) (ha : Rd w w.heap.size (some ad) n xs) (hn : n ≤ 1000000000) :
    Calls Try.prog 31 #[.slice (some ad) n c] w (RetOwn w xs) := by
  have hr := Lib.hid ((ha.below (below_of_grown (World.grownBy_alloc w (.cells #[] 3) none))))
  clear ha
  have hnil := fun wx => Lib.run_eql_slice_nil (P := Try.prog) (w := wx) 22 3 (some ad) n c 0 0 Try.underlying22
  go_enter Try.func31, Try.ntmps31
  go_wp2_with (at_builtin; refine wpList_app rfl _ _ _ rfl Try.underlying22 rfl (own_empty w) rfl hr.out (by omega) (by simp) ?_; intro A' c' w' ho hg hb)
  go_ret
  rw [List.nil_append, Nat.zero_add] at ho
  exact ⟨A', _, c', rfl, ho, ((Below.refl _ _).alloc (Nat.le_refl _) _).grown hg (by simp) (fun g e => by simp [blk] at e; omega)⟩
end Go.Proofs.Ytbihdajoflaknaa
