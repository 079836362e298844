
/- FnExactPanSides: the walk at the two contracts. -/
import Derived.Test.YtehggnafglnmaaaDoorSidesS
import Derived.Test.YtehggnafglnmaaaDoorWPanSides
namespace Go.Proofs.YtehggnafglnmaaaDoor
set_option linter.unusedVariables false
open Go.RowKit
theorem RetOwn2B.rd {w : World} {xs ys : List Int} {b : Bool} {e : Ending} {w' : World} (h : RetOwn2B w xs ys b e w') : RetRd2B w xs ys b e w' := by
  obtain ⟨A, n, c, A', n', c', he, h1, h2, _, hb⟩ := h
  exact ⟨A, n, c, A', n', c', he, h1.rd, h2.rd, hb⟩
theorem mainExactPanSides (a0 : Option Addr) (n0 c0 : Nat) (z0 : List Int) (a1 : Option Addr) (n1 c1 : Nat) (z1 : List Int) (w : World) (hgl : GL w) (hd0 : Rd w w.heap.size a0 n0 z0) (hd1 : Rd w w.heap.size a1 n1 z1) : Calls Tryd.prog 3 #[.slice a0 n0 c0, .slice a1 n1 c1] w (RetB w true) := by
  cases hs : psOk z0 z1 with
  | true =>
    have h10 : z0.length ≤ 10 := by
      unfold psOk at hs
      simp only [Bool.and_eq_true] at hs
      exact sumIn_len hs.1.1
    exact walkExactPanSides a0 n0 c0 z0 a1 n1 c1 z1 (pk (-1) z0 z1) (pk 1 z0 z1) true (by have := pk_len (-1) z0 z1; omega) (by have := pk_len 1 z0 z1; omega)
      (fun w A n c A' n' c' ha hn ha' hn' => (specPanSides_any A n c z0 A' n' c' z1 w ha ha' (by omega) (by omega) true hs).mono fun _ _ h => h.rd) (fun w A n c A' n' c' ha hn ha' hn' _ => implPanSides_yes A n c z0 A' n' c' z1 w ha ha' hs) w hgl hd0 hd1
  | false =>
    exact walkExactPanSides a0 n0 c0 z0 a1 n1 c1 z1 [] [] false (by simp) (by simp)
      (fun w A n c A' n' c' ha hn ha' hn' => (specPanSides_any A n c z0 A' n' c' z1 w ha ha' (by omega) (by omega) false hs).mono fun _ _ h => h.rd) (fun w A n c A' n' c' ha hn ha' hn' hg => implPanSides_no A n c z0 A' n' c' z1 w ha ha' (by omega) (by omega) hg hs) w hgl hd0 hd1
end Go.Proofs.YtehggnafglnmaaaDoor
