
/- PanDigits, both: no digits beyond a million. -/
import Derived.Test.YtmakekolaclgnaaDoorDigW
namespace Go.Proofs.YtmakekolaclgnaaDoor
set_option linter.unusedVariables false
open Go.RowKit
theorem specPanDigits_yes (v : Int) (w : World) (h : -1000000 ≤ v ∧ v ≤ 1000000) : Calls Tryd.prog 14 #[.int .i64 v] w (RetOwnB w (Dg.dg v) true) := by
  go_enter Tryd.func14, Tryd.ntmps14
  go_wp2_with (first | (go_at_call 22; refine (l6In_yes _ _ _ _ h.1 h.2).mono ?_; rintro e w' ⟨rfl, rfl⟩) | (go_at_call 30; refine (l7Digits_any _ _ (by omega) (by omega)).mono ?_; rintro e w1 ⟨A, n, c, rfl, ho, hb⟩))
  go_ret2
  exact ⟨_, _, _, rfl, ho, hb⟩
theorem specPanDigits_no (v : Int) (w : World) (h : ¬ (-1000000 ≤ v ∧ v ≤ 1000000)) : Calls Tryd.prog 14 #[.int .i64 v] w (RetOwnB w [] false) := by
  have H := Lib.hid h
  clear h
  go_enter Tryd.func14, Tryd.ntmps14
  go_wp2_with (go_at_call 22; refine (l6In_no _ _ _ _ H.out).mono ?_; rintro e w' ⟨rfl, rfl⟩)
  go_ret2
  exact ⟨_, _, _, rfl, own_empty w, (Below.refl _ _).alloc (Nat.le_refl _) _⟩
theorem implPanDigits_yes (v : Int) (w : World) (h : -1000000 ≤ v ∧ v ≤ 1000000) : Calls Tryd.prog 13 #[.int .i64 v] w (RetOwnB w (Dg.dg v) true) := by
  go_enter Tryd.func13, Tryd.ntmps13
  go_wp2_with (first | (go_at_call 28; refine (within_yes _ _ _ (by omega) (by omega) h.1 h.2).mono ?_; rintro e w' ⟨rfl, rfl⟩) | (go_at_call 29; refine (signsOf_any _ _ (by omega) (by omega)).mono ?_; rintro e w1 ⟨A, n, c, rfl, ho, hb⟩))
  go_ret2
  exact ⟨_, _, _, rfl, ho, hb⟩
theorem implPanDigits_no (v : Int) (w : World) (h : ¬ (-1000000 ≤ v ∧ v ≤ 1000000)) : Calls Tryd.prog 13 #[.int .i64 v] w (RetOwnB w [] false) := by
  have H := Lib.hid h
  clear h
  go_enter Tryd.func13, Tryd.ntmps13
  go_wp2_with (go_at_call 28; refine (within_no _ _ _ (by omega) (by omega) H.out).mono ?_; rintro e w' ⟨rfl, rfl⟩)
  go_ret2
  exact ⟨_, _, _, rfl, own_empty w, (Below.refl _ _).alloc (Nat.le_refl _) _⟩
end Go.Proofs.YtmakekolaclgnaaDoor
