
/- spec.l4Least: the walk. -/
import Derived.Test.YtbihdajoflaknaaSum
import Derived.Test.YtbihdajoflaknaaApp
import Derived.Test.YtbihdajoflaknaaBits
import Derived.Test.YtbihdajoflaknaaSubP
import Derived.Laws.ShiftsVarLaws
namespace Go.Proofs.Ytbihdajoflaknaa
set_option linter.unusedVariables false
open Go.RowKit
/-- A value, and a world that is another but for draws. -/
def RetD (w : World) (v : Value) (e : Ending) (w' : World) : Prop := e = .returned v ∧ ∃ q, w' = w.drewN q
theorem and_one_i64 (a : Nat) (ha : a < 4611686018427387904) : bits .and .i64 (a : Int) 1 = ((a % 2 : Nat) : Int) := by
  have := and_i64 a 1 ha (by omega)
  rw [Nat.and_one_is_mod] at this
  exact this
theorem sel_sum {xs : List Int} (h : ∀ x ∈ xs, 1 ≤ x ∧ x ≤ 60) (s : Nat) : 0 ≤ Pk.tot (Pk.sel xs s) ∧ Pk.tot (Pk.sel xs s) ≤ 60 * xs.length := by
  have h1 : ∀ l : List Int, (∀ x ∈ l, 1 ≤ x ∧ x ≤ 60) → 0 ≤ Pk.tot l ∧ Pk.tot l ≤ 60 * l.length := by
    intro l
    induction l with
    | nil => intro _; simp
    | cons x l ih =>
      intro h
      have a := h x (by simp)
      have b := ih fun y hy => h y (by simp [hy])
      simp only [Pk.tot_cons, List.length_cons]
      omega
  have a := h1 (Pk.sel xs s) (fun x hx => h x (Pk.sel_mem xs s x hx))
  have b := Pk.sel_len xs s
  omega
theorem sum_step {s k : Nat} {t x : Int} (hs : s < 4096) (hx1 : 1 ≤ x) (hx2 : x ≤ 60) (ht1 : 0 ≤ t) (ht2 : t ≤ 600) : wrap64 (t + wrap64 (bits BinOp.and IntKind.i64 ((s : Int) / 2 ^ k) 1 * x)) = t + ((s / 2 ^ k % 2 : Nat) : Int) * x := by
  have e : (s : Int) / 2 ^ k = ((s / 2 ^ k : Nat) : Int) := by simp
  have hle : s / 2 ^ k ≤ s := Nat.div_le_self _ _
  rw [e, and_one_i64 _ (by omega)]
  rcases Nat.mod_two_eq_zero_or_one (s / 2 ^ k) with e | e
  · rw [e]; simp only [Int.natCast_zero, Int.zero_mul, Int.add_zero]
    rw [IntWalk.wrap64_in 0 (by omega), Int.add_zero]; exact IntWalk.wrap64_in _ (by omega)
  · rw [e]; simp only [Int.natCast_one, Int.one_mul]
    rw [IntWalk.wrap64_in x (by omega)]; exact IntWalk.wrap64_in _ (by omega)
end Go.Proofs.Ytbihdajoflaknaa
