
/- Even and odd numbers of digits 1: the plain laws; no program in sight. -/
import Derived.Test.YtbfpllmoaooadaaNewt
namespace Go.Proofs.Ytbfpllmoaooadaa.Th
set_option linter.unusedVariables false
/-- How many of the four lowest digits to the base 2 are 1. -/
def ones (c : Nat) : Nat := c % 2 + c / 2 % 2 + c / 4 % 2 + c / 8 % 2
def evn (m : Nat) : List Int := ((List.range m).filter fun c => ones c % 2 == 0).map fun c : Nat => (c : Int)
def odd (m : Nat) : List Int := ((List.range m).filter fun c => !(ones c % 2 == 0)).map fun c : Nat => (c : Int)
theorem evn_yes {m : Nat} (h : ones m % 2 = 0) : evn (m + 1) = evn m ++ [(m : Int)] ∧ odd (m + 1) = odd m := by
  unfold evn odd
  rw [List.range_succ, List.filter_append, List.filter_append]
  simp [h]
theorem evn_no {m : Nat} (h : ¬ ones m % 2 = 0) : evn (m + 1) = evn m ∧ odd (m + 1) = odd m ++ [(m : Int)] := by
  unfold evn odd
  rw [List.range_succ, List.filter_append, List.filter_append]
  simp [h]
theorem thue1 : evn 2 = [0] ∧ odd 2 = [1] := by decide
theorem thue2 : evn 4 = [0, 3] ∧ odd 4 = [1, 2] := by decide
theorem thue3 : evn 8 = [0, 3, 5, 6] ∧ odd 8 = [1, 2, 4, 7] := by decide +kernel
theorem thue4 : evn 16 = [0, 3, 5, 6, 9, 10, 12, 15] ∧ odd 16 = [1, 2, 4, 7, 8, 11, 13, 14] := by decide +kernel
end Go.Proofs.Ytbfpllmoaooadaa.Th
