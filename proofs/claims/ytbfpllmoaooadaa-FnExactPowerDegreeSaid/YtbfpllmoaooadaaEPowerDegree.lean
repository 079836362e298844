
/- FnExactPowerDegree: the walk at the two contracts. -/
import Derived.Test.YtbfpllmoaooadaaPowDegK
import Derived.Test.YtbfpllmoaooadaaWPowerDegree
namespace Go.Proofs.Ytbfpllmoaooadaa
set_option linter.unusedVariables false
open Go.RowKit
theorem mainExactPowerDegree (a0 : Option Addr) (n0 c0 : Nat) (z0 : List Int) (a1 : Option Addr) (n1 c1 : Nat) (z1 : List Int) (w : World) (hd0 : Rd w w.heap.size a0 n0 z0) (hd1 : Rd w w.heap.size a1 n1 z1) : Calls Try.prog 7 #[.slice a0 n0 c0, .slice a1 n1 c1] w (RetB w true) := by
  by_cases h : pIn z0 = true ∧ pIn z1 = true
  · obtain ⟨h0, h1⟩ := h
    obtain ⟨d, hd⟩ := isDeg_ex (fun j => Nw.ps j z0) (fun j => Nw.ps j z1)
    exact walkExactPowerDegree a0 n0 c0 z0 a1 n1 c1 z1 d true (fun w A n c B m k ha _ hb _ => specPowerDegree_yes A n c z0 B m k z1 w ha hb h0 h1 d hd) (fun w A n c B m k ha _ hb _ => implPowerDegree_yes A n c z0 B m k z1 w ha hb h0 h1 d hd) w hd0 hd1
  · have hn : pIn z0 = false ∨ pIn z1 = false := by
      cases e0 : pIn z0 with
      | false => exact Or.inl rfl
      | true => cases e1 : pIn z1 with
        | false => exact Or.inr rfl
        | true => exact absurd ⟨e0, e1⟩ h
    exact walkExactPowerDegree a0 n0 c0 z0 a1 n1 c1 z1 0 false (fun w A n c B m k ha hn0 hb hn1 => specPowerDegree_no A n c z0 B m k z1 w ha (by omega) hb (by omega) hn) (fun w A n c B m k ha hn0 hb hn1 => implPowerDegree_no A n c z0 B m k z1 w ha (by omega) hb (by omega) hn) w hd0 hd1
end Go.Proofs.Ytbfpllmoaooadaa
