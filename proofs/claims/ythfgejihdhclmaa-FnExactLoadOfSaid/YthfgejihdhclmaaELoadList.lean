/- FnExactLoadList: the walk at the two contracts. -/
import Derived.Test.YthfgejihdhclmaaLoadC
import Derived.Test.YthfgejihdhclmaaWLoadList
namespace Go.Proofs.Ythfgejihdhclmaa
set_option linter.unusedVariables false
open Go.RowKit
theorem own_to_rd {w : World} {xs : List Int} {b : Bool} {e : Ending} {w' : World} (h : RetOwnB w xs b e w') : RetRdB w xs b e w' := by
  obtain ⟨A, n, c, e, ho, hb⟩ := h
  exact ⟨A, n, c, e, ho.rd, hb⟩
theorem mainExactLoadList (a0 : Option Addr) (n0 c0 : Nat) (z0 : List Int) (a1 : Int) (w : World) (hd0 : Rd w w.heap.size a0 n0 z0) (_w1 : (Lit.int .i64 a1).wf = true) : Calls Try.prog 5 #[.slice a0 n0 c0, .int .i64 a1] w (RetB w true) := by
  cases hs : ldOk z0 a1 with
  | true =>
    obtain ⟨h1, h2, h3⟩ := ldOk_true hs
    obtain ⟨m, rfl⟩ := Int.eq_ofNat_of_zero_le (show 0 ≤ a1 by omega)
    exact walkExactLoadList a0 n0 c0 z0 m (pus m z0) true (by rw [pus_len]; have := sumIn_len h1; omega) (fun w A n c ha _ => (specLoadList_yes A n c z0 m w ha hs).mono fun _ _ => own_to_rd) (fun w A n c ha _ => implLoadList_yes A n c z0 m w ha hs) w hd0
  | false => exact walkExactLoadList a0 n0 c0 z0 a1 [] false (by simp) (fun w A n c ha hn => (specLoadList_no A n c z0 a1 w ha (by omega) hs).mono fun _ _ => own_to_rd) (fun w A n c ha hn => implLoadList_no A n c z0 a1 w ha (by omega) hs) w hd0
end Go.Proofs.Ythfgejihdhclmaa
