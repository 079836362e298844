
/- The letters of rules. -/
import Derived.Test.YtmnjablknjijbaaSum
import Derived.Test.YtmnjablknjijbaaBinP
import Derived.WalkLawsBesides
namespace Go.Proofs.Ytmnjablknjijbaa
set_option linter.unusedVariables false
open Go.RowKit
/-- A byte, and a world that has grown. -/
def RetU (w : World) (x : Int) (e : Ending) (w' : World) : Prop := e = .returned (.int .u8 x) ∧ Below w.heap.size w w'
theorem letter_n (w : World) : Calls Try.prog 88 #[.agg #[]] w (RetU w 110) := by
  go_enter Try.func88, Try.ntmps88
  go_wp2_with fail
  go_ret
  exact ⟨rfl, (Below.refl _ _).alloc (Nat.le_refl _) _⟩
theorem letter_f (w : World) : Calls Try.prog 89 #[.agg #[]] w (RetU w 102) := by
  go_enter Try.func89, Try.ntmps89
  go_wp2_with fail
  go_ret
  exact ⟨rfl, (Below.refl _ _).alloc (Nat.le_refl _) _⟩
theorem letter_b (w : World) : Calls Try.prog 90 #[.agg #[]] w (RetU w 98) := by
  go_enter Try.func90, Try.ntmps90
  go_wp2_with fail
  go_ret
  exact ⟨rfl, (Below.refl _ _).alloc (Nat.le_refl _) _⟩
theorem letter_w (w : World) : Calls Try.prog 91 #[.agg #[]] w (RetU w 119) := by
  go_enter Try.func91, Try.ntmps91
  go_wp2_with fail
  go_ret
  exact ⟨rfl, (Below.refl _ _).alloc (Nat.le_refl _) _⟩
/-- The letters, the rules in order. -/
def lb : Nat → Int
  | 0 => 110
  | 1 => 102
  | 2 => 98
  | _ => 119
/-- The rules as the program has them. -/
def rv : Nat → Value
  | 0 => .iface 80 (.agg #[])
  | 1 => .iface 81 (.agg #[])
  | 2 => .iface 82 (.agg #[])
  | _ => .iface 83 (.agg #[])
/-- What a letter's rule is. -/
def RetR (w : World) (J : Nat) (cap : Bool) (e : Ending) (w' : World) : Prop :=
  (e = if J < 4 then .returned (.tuple #[rv J, .bool cap, .bool true]) else .returned (.tuple #[.nilIface, .bool false, .bool false])) ∧ Below w.heap.size w w'
set_option maxRecDepth 100000 in
set_option maxHeartbeats 3200000 in
theorem ruleOf_one (x : UInt8) (w : World) (sm k : Int) (J : Nat) (hJ : J ≤ 4) (hlo : ∀ j, j < J → lb j ≠ sm) (hat : J < 4 → lb J = sm) (hk : ((({ data := #[x] } : ByteArray)[0]'(Nat.zero_lt_one)).toNat : Int) = k) (hsm : bits .or .u8 k 32 = sm) : Calls Try.prog 62 #[.string ⟨#[x]⟩] w (RetR w J (sm != k)) := by
  have HL := Lib.hid hlo
  have HAt := Lib.hid hat
  clear hlo hat
  obtain ⟨d, hd⟩ : ∃ d, (sm != k) = d := ⟨_, rfl⟩
  go_enter Try.func62, Try.ntmps62
  go_wp2_with fail
  have B0 : Hid (Below w.heap.size w (w.alloc (.cells #[rv 0, rv 1, rv 2, rv 3] 70))) := Lib.hid ((Below.refl _ _).alloc (Nat.le_refl _) _)
  have C0 : Hid (∀ j, j < 4 → (w.alloc (.cells #[rv 0, rv 1, rv 2, rv 3] 70)).cell? ⟨w.heap.size, j, none⟩ = some (rv j)) := Lib.hid (fun j hj => by
    rcases (show j = 0 ∨ j = 1 ∨ j = 2 ∨ j = 3 from by omega) with rfl | rfl | rfl | rfl <;> simp)
  go_loopw [24] (fun i wr => ∃ j, j ≤ J ∧ i = .int .i64 (j : Nat) ∧ Hid (Below w.heap.size w wr) ∧ Hid (∀ j, j < 4 → wr.cell? ⟨w.heap.size, j, none⟩ = some (rv j))) (fun i _ => 4 - (intOf i).toNat)
  case atStart => exact ⟨0, by omega, rfl, B0, C0⟩
  case round =>
    obtain ⟨j, hj, rfl, HB, HC⟩ := hrel
    clear B0 C0
    by_cases h4 : j < 4
    · have cj := HC.out j h4
      have key : ∀ (w2 : World), Below wr.heap.size wr w2 → Hid (Below w.heap.size w w2) ∧ Hid (∀ j, j < 4 → w2.cell? ⟨w.heap.size, j, none⟩ = some (rv j)) := fun w2 hb => ⟨Lib.hid (HB.out.trans (hb.mono HB.out.size)), Lib.hid (fun i hi => (hb.cell (p := ⟨w.heap.size, i, none⟩) (World.block_lt_of_cell? wr _ (HC.out i hi))).trans (HC.out i hi))⟩
      have KK := Lib.hid key
      clear key
      by_cases hlt : j < J
      · have hne := HL.out j hlt
        rcases (show j = 0 ∨ j = 1 ∨ j = 2 ∨ j = 3 from by omega) with rfl | rfl | rfl | rfl
        all_goals
          simp only [rv] at cj
          simp only [lb] at hne
          have dv := beq_eq_false_iff_ne.2 hne
          go_wp2_with (first | (go_at_call 88; refine (letter_n _).mono ?_; rintro e w2 ⟨rfl, hb⟩) | (go_at_call 89; refine (letter_f _).mono ?_; rintro e w2 ⟨rfl, hb⟩) | (go_at_call 90; refine (letter_b _).mono ?_; rintro e w2 ⟨rfl, hb⟩) | (go_at_call 91; refine (letter_w _).mono ?_; rintro e w2 ⟨rfl, hb⟩))
          have K2 := KK.out w2 hb
          clear hb cj
          go_roundw
          case rel => first | exact ⟨1, by omega, by go_num, K2.1, K2.2⟩ | exact ⟨2, by omega, by go_num, K2.1, K2.2⟩ | exact ⟨3, by omega, by go_num, K2.1, K2.2⟩ | exact ⟨4, by omega, by go_num, K2.1, K2.2⟩
          case measure => simp [intOf]
      · have hjJ : j = J := by omega
        subst hjJ
        have heq := HAt.out h4
        rcases (show j = 0 ∨ j = 1 ∨ j = 2 ∨ j = 3 from by omega) with rfl | rfl | rfl | rfl
        all_goals
          simp only [rv] at cj
          simp only [lb] at heq
          have dv := beq_iff_eq.2 heq
          go_wp2_with (first | (go_at_call 88; refine (letter_n _).mono ?_; rintro e w2 ⟨rfl, hb⟩) | (go_at_call 89; refine (letter_f _).mono ?_; rintro e w2 ⟨rfl, hb⟩) | (go_at_call 90; refine (letter_b _).mono ?_; rintro e w2 ⟨rfl, hb⟩) | (go_at_call 91; refine (letter_w _).mono ?_; rintro e w2 ⟨rfl, hb⟩))
          have K2 := KK.out w2 hb
          clear hb cj
          go_quiet (fail)
          go_wp2_with fail
          go_ret3
          refine ⟨?_, below_drewN K2.1.out _⟩
          rw [hd]
          rfl
    · have hj4 : j = 4 := by omega
      subst hj4
      have hJ4 : J = 4 := by omega
      subst hJ4
      go_wp2_with fail
      go_ret3
      exact ⟨rfl, HB.out⟩
end Go.Proofs.Ytmnjablknjijbaa
