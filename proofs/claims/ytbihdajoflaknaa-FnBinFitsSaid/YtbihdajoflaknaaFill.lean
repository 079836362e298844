
/- impl.fill: numbers are put into bins by a rule. -/
import Derived.Test.YtbihdajoflaknaaNodes
import Derived.Test.YtbihdajoflaknaaBinA
import Derived.Test.YtbihdajoflaknaaSortJ
namespace Go.Proofs.Ytbihdajoflaknaa
set_option linter.unusedVariables false
open Go.RowKit
theorem bin_len (B : List (List Int)) (j : Nat) (hj : j < B.length) : (B.getD j []).length ≤ B.flatten.length := by
  have hm : B.getD j [] ∈ B := by simp [List.getD, hj]
  exact (List.sublist_flatten_of_mem hm).length_le
theorem Nodes.put2 {w w' : World} {base : Nat} {gs : List Nat} {fs : List Sl} {B : List (List Int)} {C : Int} (h : Nodes w base gs fs B C) {k : Nat} (hk : k < B.length) (hbase : base ≤ w.heap.size) {g : Nat} {A : Option Addr} {n c : Nat} {b : List Int} (hgk : gs.getD k 0 = g) (hfk : fs.getD k slNil = (A, n, c)) (hbk : B.getD k [] = b)
    (hg : w.grownBy w' (blk A)) {A' : Option Addr} {n' c' : Nat} {x : Int} (ho : Own w' base A' n' c' (b ++ [x])) (hA : blk A' = blk A ∨ ∃ g, blk A' = some g ∧ w.heap.size ≤ g) {v : Int} (hv : v = C - Pk.tot b - x) :
    Nodes ((w'.setCell ⟨g, 0, none⟩ (.slice A' n' c')).setCell ⟨g, 1, none⟩ (.int .i64 v)) base gs (fs.set k (A', n', c')) (B.set k (b ++ [x])) C := by
  subst hgk hbk hv
  exact h.put hk hbase (by rw [hfk]; exact hg) ho (by rw [hfk]; exact hA)
/-- What fill hands back. -/
def RetFill (w : World) (B : List (List Int)) (C : Int) (e : Ending) (w' : World) : Prop :=
  ∃ gs fs, e = .returned (.tuple #[.pointer (nxt gs 0), .bool true]) ∧ Nodes w' w.heap.size gs fs B C ∧ Below w.heap.size w w'
/-- The order in which the numbers come. -/
def ordB (cap : Bool) (xs : List Int) : List Int := if cap then Srt.dn xs else xs
theorem ordB_perm (cap : Bool) (xs : List Int) : (ordB cap xs).Perm xs := by
  cases cap
  · exact List.Perm.refl _
  · exact Srt.dn_perm xs
end Go.Proofs.Ytbihdajoflaknaa
