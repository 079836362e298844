/- FnExactLoadOf: the walk at the two contracts. -/
import Derived.Test.YthfgejihdhclmaaLoadOf
import Derived.Test.YthfgejihdhclmaaELoadList
import Derived.Test.YthfgejihdhclmaaWLoadOf
namespace Go.Proofs.Ythfgejihdhclmaa
set_option linter.unusedVariables false
open Go.RowKit
theorem mainExactLoadOf (a0 : Option Addr) (n0 c0 : Nat) (z0 : List Int) (a1 : Int) (a2 : Option Addr) (n2 c2 : Nat) (z2 : List Int) (w : World) (hd0 : Rd w w.heap.size a0 n0 z0) (_w1 : (Lit.int .i64 a1).wf = true) (hd2 : Rd w w.heap.size a2 n2 z2) : Calls Try.prog 4 #[.slice a0 n0 c0, .int .i64 a1, .slice a2 n2 c2] w (RetB w true) := by
  have no : (ldOk z0 a1 = false ∨ z2.length ≠ z0.length) → Calls Try.prog 4 #[.slice a0 n0 c0, .int .i64 a1, .slice a2 n2 c2] w (RetB w true) := fun h =>
    walkExactLoadOf a0 n0 c0 z0 a1 a2 n2 c2 z2 [] false (by simp) (fun w A n c A' n' c' ha hn ha' hn' => (specLoadOf_no A n c z0 a1 A' n' c' z2 w ha (by omega) ha' (by omega) (by have := ha.len; have := ha'.len; rcases h with h | h; exact Or.inl h; exact Or.inr (by omega))).mono fun _ _ => own_to_rd)
      (fun w A n c A' n' c' ha hn ha' hn' => implLoadOf_no A n c z0 a1 A' n' c' z2 w ha (by omega) ha' (by omega) (by have := ha.len; have := ha'.len; rcases h with h | h; exact Or.inl h; exact Or.inr (by omega))) w hd0 hd2
  cases hs : ldOk z0 a1 with
  | true =>
    by_cases hl : z2.length = z0.length
    · obtain ⟨h1, h2, h3⟩ := ldOk_true hs
      obtain ⟨m, rfl⟩ := Int.eq_ofNat_of_zero_le (show 0 ≤ a1 by omega)
      refine walkExactLoadOf a0 n0 c0 z0 m a2 n2 c2 z2 (lof (putOk z2 m) m z0 z2) (putOk z2 m) ?_ (fun w A n c A' n' c' ha hn ha' hn' => ?_) (fun w A n c A' n' c' ha hn ha' hn' => ?_) w hd0 hd2
      · unfold lof; split
        · have : (Ld.loadOf m z0 z2).length = m := by unfold Ld.loadOf; rw [Ld.lo_len]; simp
          omega
        · simp
      · obtain rfl : n' = n := by have := ha.len; have := ha'.len; omega
        exact (specLoadOf_yes A n' c z0 m A' c' z2 w ha ha' hs _ rfl).mono fun _ _ => own_to_rd
      · obtain rfl : n' = n := by have := ha.len; have := ha'.len; omega
        exact implLoadOf_yes A n' c z0 m A' c' z2 w ha ha' hs _ rfl
    · exact no (Or.inr hl)
  | false => exact no (Or.inl hs)
end Go.Proofs.Ythfgejihdhclmaa
