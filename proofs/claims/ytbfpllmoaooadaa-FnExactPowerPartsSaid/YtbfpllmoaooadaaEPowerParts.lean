
/- FnExactPowerParts: the walk at the two contracts. -/
import Derived.Test.YtbfpllmoaooadaaPartsW
import Derived.Test.YtbfpllmoaooadaaWPowerParts
namespace Go.Proofs.Ytbfpllmoaooadaa
set_option linter.unusedVariables false
open Go.RowKit
theorem RetOwn2B.rd {w : World} {xs ys : List Int} {b : Bool} {e : Ending} {w' : World} (h : RetOwn2B w xs ys b e w') : RetRd2B w xs ys b e w' := by
  obtain ⟨A, n, c, B, m, d, h1, h2, h3, _, h4⟩ := h
  exact ⟨A, n, c, B, m, d, h1, h2.rd, h3.rd, h4⟩
theorem mainExactPowerParts (a0 : Option Addr) (n0 c0 : Nat) (z0 : List Int) (a1 : Option Addr) (n1 c1 : Nat) (z1 : List Int) (w : World) (hd0 : Rd w w.heap.size a0 n0 z0) (hd1 : Rd w w.heap.size a1 n1 z1) : Calls Try.prog 9 #[.slice a0 n0 c0, .slice a1 n1 c1] w (RetB w true) := by
  by_cases h : pIn z0 = true ∧ pIn z1 = true
  · obtain ⟨h0, h1⟩ := h
    have l1 := Pt.parts_len z0 z1
    have l2 := (pIn_true.1 h0).1
    have l3 := (pIn_true.1 h1).1
    exact walkExactPowerParts a0 n0 c0 z0 a1 n1 c1 z1 (Pt.parts z0 z1).1 (Pt.parts z0 z1).2 true (by omega) (by omega) (fun w A n c B m k ha _ _ hb _ _ => (specParts_yes A n c z0 B m k z1 w ha hb h0 h1).mono fun _ _ => RetOwn2B.rd) (fun w A n c B m k ha _ hc hb _ hd => implParts_yes A n c z0 B m k z1 w ha hb hc hd h0 h1) w hd0 hd1
  · have hn : pIn z0 = false ∨ pIn z1 = false := by
      cases e0 : pIn z0 with
      | false => exact Or.inl rfl
      | true => cases e1 : pIn z1 with
        | false => exact Or.inr rfl
        | true => exact absurd ⟨e0, e1⟩ h
    exact walkExactPowerParts a0 n0 c0 z0 a1 n1 c1 z1 [] [] false (by simp) (by simp) (fun w A n c B m k ha hn0 _ hb hn1 _ => (specParts_no A n c z0 B m k z1 w ha hb (by omega) (by omega) hn).mono fun _ _ => RetOwn2B.rd) (fun w A n c B m k ha hn0 _ hb hn1 _ => implParts_no A n c z0 B m k z1 w ha hb (by omega) (by omega) hn) w hd0 hd1
end Go.Proofs.Ytbfpllmoaooadaa
