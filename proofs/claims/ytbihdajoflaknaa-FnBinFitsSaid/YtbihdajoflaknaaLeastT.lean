
/- spec.l4Least: the walk. -/
import Derived.Test.YtbihdajoflaknaaLeastS
import Derived.Test.YtbihdajoflaknaaReg
import Derived.Test.YtbihdajoflaknaaLib
namespace Go.Proofs.Ytbihdajoflaknaa
set_option linter.unusedVariables false
open Go.RowKit
/-- The least number of bins. -/
noncomputable def leastF (C : Int) (xs : List Int) : Nat := Classical.epsilon (Pk.IsLeast C xs)
theorem leastF_eq {C : Int} {xs : List Int} {k : Nat} (h : Pk.IsLeast C xs k) : k = leastF C xs :=
  h.one (Classical.epsilon_spec (p := Pk.IsLeast C xs) ⟨k, h⟩)
theorem leastF_is {C : Int} {xs : List Int} {k : Nat} (h : Pk.IsLeast C xs k) : Pk.IsLeast C xs (leastF C xs) := by
  rw [← leastF_eq h]; exact h
theorem least_le {C : Int} {xs : List Int} {k : Nat} (h : Pk.IsLeast C xs k) (hx : ∀ x ∈ xs, 0 ≤ x ∧ x ≤ C) : k ≤ xs.length :=
  h.2 _ ((Pk.can_packs (fun x hm => (hx x hm).1)).1 (Pk.packs_len xs hx))
theorem xor_part : ∀ (n s p : Nat), s ≤ n → Pk.Part p s → s ^^^ p = s - p := by
  intro n
  induction n with
  | zero =>
    intro s p hs hp
    have := hp.le
    have e1 : s = 0 := by omega
    have e2 : p = 0 := by omega
    subst e1 e2; rfl
  | succ n ih =>
    intro s p hs hp
    have hle := hp.le
    obtain ⟨h1, h0⟩ := hp.half
    have hle2 := h1.le
    by_cases hs0 : s = 0
    · subst hs0
      have : p = 0 := by omega
      subst this; rfl
    · have e := ih (s / 2) (p / 2) (by omega) h1
      have x1 : (s ^^^ p) / 2 = (s / 2) ^^^ (p / 2) := by
        apply Nat.eq_of_testBit_eq
        intro i
        simp [Nat.testBit_div_two]
      have x0 : (s ^^^ p) % 2 = (s % 2 + p % 2) % 2 := by
        have := Nat.xor_mod_two_pow (a := s) (b := p) (n := 1)
        simp only [Nat.pow_one] at this
        rw [this]
        rcases Nat.mod_two_eq_zero_or_one s with a | a <;> rcases Nat.mod_two_eq_zero_or_one p with b | b <;> simp [a, b]
      rcases Nat.mod_two_eq_zero_or_one s with a | a <;> rcases Nat.mod_two_eq_zero_or_one p with b | b <;> omega
theorem andNot_part {s p : Nat} (hs : s < 4096) (hp : Pk.Part p s) : bits .andNot .i64 (s : Int) (p : Int) = ((s - p : Nat) : Int) := by
  have hle := hp.le
  rw [← xor_part s s p (Nat.le_refl _) hp]
  rw [← xor_i64 s p (by omega) (by omega)]
  show IntKind.i64.wrap ((BitVec.ofInt 64 (s : Int) &&& ~~~ BitVec.ofInt 64 (p : Int)).toNat : Int) = IntKind.i64.wrap ((BitVec.ofInt 64 (s : Int) ^^^ BitVec.ofInt 64 (p : Int)).toNat : Int)
  have e : BitVec.ofInt 64 (s : Int) &&& ~~~ BitVec.ofInt 64 (p : Int) = BitVec.ofInt 64 (s : Int) ^^^ BitVec.ofInt 64 (p : Int) := by
    apply BitVec.eq_of_getLsbD_eq
    intro i hi
    have hb := congrArg (fun x => x.testBit i) hp
    simp only [Nat.testBit_and] at hb
    rw [BitVec.ofInt_natCast, BitVec.ofInt_natCast]
    simp only [BitVec.getLsbD_and, BitVec.getLsbD_not, BitVec.getLsbD_xor, BitVec.getLsbD_ofNat, hi, decide_true, Bool.true_and]
    cases h1 : s.testBit i <;> cases h2 : p.testBit i <;> simp [h1, h2] at hb ⊢
  rw [e]
end Go.Proofs.Ytbihdajoflaknaa
