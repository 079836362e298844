
/- slices.Clone of ints; a slice cut from a place on. -/
import Derived.Test.YtbfpllmoaooadaaApp
import Derived.Test.YtbfpllmoaooadaaSum
namespace Go.Proofs.Ytbfpllmoaooadaa
set_option linter.unusedVariables false
open Go.RowKit
theorem own_drop {w : World} {base n c : Nat} {g : Nat} {xs : List Int} (h : Own w base (some ⟨g, 0, none⟩) n c xs) (k : Nat) : Rd w w.heap.size (some ⟨g, k, none⟩) (n - k) (xs.drop k) := by
  refine ⟨by rw [List.length_drop, h.len], fun hn => ⟨g, k, rfl, ?_, fun j hj => ?_⟩⟩
  · exact (h.lt g rfl).2
  · rw [h.cell (show k + j < n by omega)]
    simp [List.getD, List.getElem?_drop]
end Go.Proofs.Ytbfpllmoaooadaa
