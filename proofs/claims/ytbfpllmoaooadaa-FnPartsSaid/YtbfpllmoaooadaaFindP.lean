
/- The first pair of sides of three numbers: the plain laws; no program in sight. -/
import Derived.Test.YtbfpllmoaooadaaNewt
namespace Go.Proofs.Ytbfpllmoaooadaa.Fd
set_option linter.unusedVariables false
/-- All rising triples from 0 to n, in the order of lists. -/
def row (x y n : Nat) : List (List Int) := (List.range' y (n + 1 - y)).map fun z : Nat => [(x : Int), (y : Int), (z : Int)]
def rows (x n : Nat) : List (List Int) := (List.range' x (n + 1 - x)).flatMap fun y => row x y n
def threes (n : Nat) : List (List Int) := (List.range' 0 (n + 1)).flatMap fun x => rows x n
theorem range'_snoc (a m : Nat) : List.range' a (m + 1) = List.range' a m ++ [a + m] := by rw [List.range'_concat]; simp
/-- What stands when z (y, x) is reached. -/
def rowTo (x y z : Nat) : List (List Int) := (List.range' y (z - y)).map fun z : Nat => [(x : Int), (y : Int), (z : Int)]
def rowsTo (x y n : Nat) : List (List Int) := (List.range' x (y - x)).flatMap fun y => row x y n
def threesTo (x n : Nat) : List (List Int) := (List.range' 0 x).flatMap fun x => rows x n
theorem rowTo_start (x y : Nat) : rowTo x y y = [] := by simp [rowTo]
theorem rowTo_step (x : Nat) {y z : Nat} (h : y ≤ z) : rowTo x y (z + 1) = rowTo x y z ++ [[(x : Int), (y : Int), (z : Int)]] := by
  unfold rowTo
  rw [show z + 1 - y = (z - y) + 1 by omega, range'_snoc, List.map_append, List.map_singleton, show y + (z - y) = z by omega]
theorem rowTo_end (x y n : Nat) : rowTo x y (n + 1) = row x y n := rfl
theorem rowsTo_start (x n : Nat) : rowsTo x x n = [] := by simp [rowsTo]
theorem rowsTo_step {x y : Nat} (n : Nat) (h : x ≤ y) : rowsTo x (y + 1) n = rowsTo x y n ++ row x y n := by
  unfold rowsTo
  rw [show y + 1 - x = (y - x) + 1 by omega, range'_snoc, List.flatMap_append, List.flatMap_singleton, show x + (y - x) = y by omega]
theorem rowsTo_end (x n : Nat) : rowsTo x (n + 1) n = rows x n := rfl
theorem threesTo_start (n : Nat) : threesTo 0 n = [] := by simp [threesTo]
theorem threesTo_step (x n : Nat) : threesTo (x + 1) n = threesTo x n ++ rows x n := by
  unfold threesTo
  rw [range'_snoc, List.flatMap_append, List.flatMap_singleton, Nat.zero_add]
theorem threesTo_end (n : Nat) : threesTo (n + 1) n = threes n := rfl
/-- Equal to 2, and no number in both. -/
def good (a b : List Int) : Bool := Nw.ps 1 a == Nw.ps 1 b && (Nw.ps 2 a == Nw.ps 2 b && a.all fun x => !b.contains x)
def hit (a : List Int) (l : List (List Int)) : Option (List Int) := l.find? (good a)
def first : List (List Int) → Option (List Int × List Int)
  | [] => none
  | a :: l => match hit a l with
    | some b => some (a, b)
    | none => first l
def found (n : Nat) : Option (List Int × List Int) := if n < 4 then none else some ([0, 3, 3], [1, 1, 4])
set_option maxRecDepth 100000 in
theorem first_threes : ∀ n, 1 ≤ n → n ≤ 12 → first (threes n) = found n := by
  have h : ∀ n : Fin 13, 1 ≤ n.val → first (threes n.val) = found n.val := by decide +kernel
  intro n h1 h2
  exact h ⟨n, by omega⟩ h1
end Go.Proofs.Ytbfpllmoaooadaa.Fd
