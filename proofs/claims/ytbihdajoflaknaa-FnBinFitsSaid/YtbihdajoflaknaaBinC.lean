
/- impl.BinCount and impl.BinRoom. -/
import Derived.Test.YtbihdajoflaknaaFill
namespace Go.Proofs.Ytbihdajoflaknaa
set_option linter.unusedVariables false
open Go.RowKit
/-- The bins of a list by a rule. -/
def binsF (xs : List Int) (C : Int) (s : ByteArray) : List (List Int) := match ruleB s with | some (J, cap) => Pk.fill (rlOf J) C (ordB cap xs) [] | none => []
def bkOk (xs : List Int) (C : Int) (s : ByteArray) : Bool := bnOk xs C && (ruleB s).isSome
theorem bkOk_true {xs : List Int} {C : Int} {s : ByteArray} (h : bkOk xs C s = true) : bnOk xs C = true ∧ ∃ J cap, ruleB s = some (J, cap) ∧ J < 4 ∧ binsF xs C s = Pk.fill (rlOf J) C (ordB cap xs) [] := by
  unfold bkOk at h
  rw [Bool.and_eq_true] at h
  refine ⟨h.1, ?_⟩
  cases hr : ruleB s with
  | none => rw [hr] at h; exact absurd h.2 (by simp)
  | some o => exact ⟨o.1, o.2, rfl, (ruleX_some (ruleB_some hr).2.1).1, by unfold binsF; rw [hr]⟩
theorem bkOk_false {xs : List Int} {C : Int} {s : ByteArray} (h : bkOk xs C s = false) : ruleB s = none ∨ bnOk xs C = false := by
  unfold bkOk at h
  cases hr : ruleB s with
  | none => exact .inl rfl
  | some o => rw [hr] at h; right; simpa using h
/-- What is known of them. -/
theorem binsF_in {xs : List Int} {C : Int} {s : ByteArray} (h : bkOk xs C s = true) : (binsF xs C s).flatten.Perm xs ∧ (binsF xs C s).length ≤ 10 ∧ (∀ j, j < (binsF xs C s).length → 0 < Pk.tot ((binsF xs C s).getD j []) ∧ Pk.tot ((binsF xs C s).getD j []) ≤ C) := by
  obtain ⟨h1, J, cap, hr, hJ, hB⟩ := bkOk_true h
  obtain ⟨i1, i2, i3, i4, i5⟩ := bnOk_in h1
  rw [hB]
  have hp := ordB_perm cap xs
  have hx : ∀ x ∈ ordB cap xs, 0 < x ∧ x ≤ C := fun x hm => i3 x (hp.subset hm)
  have hf : (Pk.fill (rlOf J) C (ordB cap xs) []).flatten.Perm (ordB cap xs) := by simpa using Pk.fill_flat (r := rlOf J) (C := C) (ordB cap xs) []
  have ho := Pk.okay_fill (r := rlOf J) (ordB cap xs) [] (Pk.okay_nil C) hx
  refine ⟨hf.trans hp, ?_, fun j hj => ⟨(ho.one j hj).1, (ho.one j hj).2.1⟩⟩
  have h2 := Pk.flatten_len (k := 1) (bs := Pk.fill (rlOf J) C (ordB cap xs) []) (fun b hb => by
    obtain ⟨j, hj, rfl⟩ := List.mem_iff_getElem.1 hb
    have := (ho.one j hj).2.2
    have e : (Pk.fill (rlOf J) C (ordB cap xs) []).getD j [] = (Pk.fill (rlOf J) C (ordB cap xs) [])[j] := by simp [List.getD, hj]
    rw [e] at this
    have := List.length_pos_iff.2 this
    omega)
  have h3 := hf.length_eq
  have h4 := hp.length_eq
  omega
end Go.Proofs.Ytbihdajoflaknaa
