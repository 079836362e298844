
/- FnExactPowerSpread: the walk at the two contracts. -/
import Derived.Test.YtbfpllmoaooadaaSpreadS
import Derived.Test.YtbfpllmoaooadaaWPowerSpread
namespace Go.Proofs.Ytbfpllmoaooadaa
set_option linter.unusedVariables false
open Go.RowKit
theorem sp2_len (b : Bool) (l : List Int) : (sp2 b l).length ≤ l.length := by unfold sp2; split <;> simp
theorem mainExactPowerSpread (a0 : Option Addr) (n0 c0 : Nat) (z0 : List Int) (a1 : Option Addr) (n1 c1 : Nat) (z1 : List Int) (a2 : Int) (w : World) (hd0 : Rd w w.heap.size a0 n0 z0) (hd1 : Rd w w.heap.size a1 n1 z1) (_w2 : (Lit.int .i64 a2).wf = true) : Calls Try.prog 4 #[.slice a0 n0 c0, .slice a1 n1 c1, .int .i64 a2] w (RetB w true) := by
  by_cases h : pIn z0 = true ∧ pIn z1 = true ∧ 1 ≤ a2 ∧ a2 ≤ 50
  · obtain ⟨h0, h1, h2, h3⟩ := h
    have l2 := (pIn_true.1 h0).1
    have l3 := (pIn_true.1 h1).1
    obtain ⟨b, hb⟩ : ∃ b, pIn (spL z0 z1 a2) = b := ⟨_, rfl⟩
    obtain ⟨b', hb'⟩ : ∃ b, pIn (spL z1 z0 a2) = b := ⟨_, rfl⟩
    have e1 := sp2_len (b && b') (spL z0 z1 a2)
    have e2 := sp2_len (b && b') (spL z1 z0 a2)
    rw [spL_len] at e1 e2
    exact walkExactPowerSpread a0 n0 c0 z0 a1 n1 c1 z1 a2 _ _ (b && b') (by omega) (by omega) (fun w A n c B m k ha _ hb2 _ => (specSpread_in A n c z0 B m k z1 a2 w ha hb2 h0 h1 h2 h3 b b' hb hb').mono fun _ _ => RetOwn2N.rd) (fun w A n c B m k ha _ hb2 _ => implSpread_in A n c z0 B m k z1 a2 w ha hb2 h0 h1 h2 h3 b b' hb hb') w hd0 hd1
  · exact walkExactPowerSpread a0 n0 c0 z0 a1 n1 c1 z1 a2 [] [] false (by simp) (by simp) (fun w A n c B m k ha hn0 hb hn1 => (specSpread_no A n c z0 B m k z1 a2 w ha hb (by omega) (by omega) h).mono fun _ _ h => h.n.rd) (fun w A n c B m k ha hn0 hb hn1 => implSpread_no A n c z0 B m k z1 a2 w ha hb (by omega) (by omega) h) w hd0 hd1
end Go.Proofs.Ytbfpllmoaooadaa
