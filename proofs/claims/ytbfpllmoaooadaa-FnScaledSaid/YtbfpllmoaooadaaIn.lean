
/- Numbers in a range. -/
import Derived.Test.YtbfpllmoaooadaaMem
namespace Go.Proofs.Ytbfpllmoaooadaa
set_option linter.unusedVariables false
open Go.RowKit
theorem l6In_yes (x lo hi : Int) (w : World) (h1 : lo ≤ x) (h2 : x ≤ hi) :
    Calls Try.prog 53 #[.int .i64 x, .int .i64 lo, .int .i64 hi] w fun e w' => e = .returned (.bool true) ∧ w = w' := by
  go_enter Try.func53, Try.ntmps53
  have hd : decide (x ≤ hi) = true := by simpa using h2
  go_wp2
  go_ret
  exact ⟨rfl, rfl⟩
theorem l6In_no (x lo hi : Int) (w : World) (h : ¬ (lo ≤ x ∧ x ≤ hi)) :
    Calls Try.prog 53 #[.int .i64 x, .int .i64 lo, .int .i64 hi] w fun e w' => e = .returned (.bool false) ∧ w = w' := by
  by_cases h1 : lo ≤ x
  · have hd : decide (x ≤ hi) = false := by simp; omega
    clear h
    go_enter Try.func53, Try.ntmps53
    go_wp2
    go_ret
    exact ⟨rfl, rfl⟩
  · have hd : decide (lo ≤ x) = false := by simp; omega
    clear h
    go_enter Try.func53, Try.ntmps53
    go_wp2
    go_ret
    exact ⟨rfl, rfl⟩
theorem within_yes (x m : Int) (w : World) (h0 : 0 ≤ m) (hm : m ≤ 1000000000) (h1 : -m ≤ x) (h2 : x ≤ m) :
    Calls Try.prog 55 #[.int .i64 x, .int .i64 m] w fun e w' => e = .returned (.bool true) ∧ w = w' := by
  have hd : decide (x ≤ m) = true := by simpa using h2
  go_enter Try.func55, Try.ntmps55
  go_wp2
  go_ret
  exact ⟨rfl, rfl⟩
theorem within_no (x m : Int) (w : World) (h0 : 0 ≤ m) (hm : m ≤ 1000000000) (h : ¬ (-m ≤ x ∧ x ≤ m)) :
    Calls Try.prog 55 #[.int .i64 x, .int .i64 m] w fun e w' => e = .returned (.bool false) ∧ w = w' := by
  by_cases h1 : -m ≤ x
  · have hd : decide (x ≤ m) = false := by simp; omega
    clear h
    go_enter Try.func55, Try.ntmps55
    go_wp2
    go_ret
    exact ⟨rfl, rfl⟩
  · have hd : decide (-m ≤ x) = false := by simp; omega
    clear h
    go_enter Try.func55, Try.ntmps55
    go_wp2
    go_ret
    exact ⟨rfl, rfl⟩
end Go.Proofs.Ytbfpllmoaooadaa
