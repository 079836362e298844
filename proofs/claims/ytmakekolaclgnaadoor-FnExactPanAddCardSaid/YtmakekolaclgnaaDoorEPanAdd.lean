
/- FnExactPanAdd: the walk at the two contracts. -/
import Derived.Test.YtmakekolaclgnaaDoorPanAdd
import Derived.Test.YtmakekolaclgnaaDoorWPanAdd
namespace Go.Proofs.YtmakekolaclgnaaDoor
set_option linter.unusedVariables false
open Go.RowKit
theorem RetOwnB.rdB {w : World} {xs : List Int} {b : Bool} {e : Ending} {w' : World} (h : RetOwnB w xs b e w') : RetRdB w xs b e w' := by
  obtain ⟨A, n, c, e, ho, hb⟩ := h
  exact ⟨A, n, c, e, ho.rd, hb⟩
theorem mainExactPanAdd (a0 : Option Addr) (n0 c0 : Nat) (z0 : List Int) (a1 : Option Addr) (n1 c1 : Nat) (z1 : List Int) (w : World) (hgl : GL w) (hd0 : Rd w w.heap.size a0 n0 z0) (hd1 : Rd w w.heap.size a1 n1 z1) : Calls Tryd.prog 5 #[.slice a0 n0 c0, .slice a1 n1 c1] w (RetB w true) :=
  walkExactPanAdd a0 n0 c0 z0 a1 n1 c1 z1 (sumD z0 z1) (dgOk z0 && dgOk z1) (Nat.le_trans (sumD_len z0 z1) (by omega))
    (fun w A n c A' n' c' ha hn ha' hn' => (specPanAdd_any A n c z0 A' n' c' z1 w ha ha' (by omega) (by omega)).mono fun _ _ h => h.rdB)
    (fun w A n c A' n' c' ha hn ha' hn' hg => implPanAdd_any A n c z0 A' n' c' z1 w ha ha' (by omega) (by omega) hg) w hgl hd0 hd1
end Go.Proofs.YtmakekolaclgnaaDoor
