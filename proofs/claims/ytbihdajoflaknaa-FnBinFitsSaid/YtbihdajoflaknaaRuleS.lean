
/- The letters of rules: both packages. -/
import Derived.Test.YtbihdajoflaknaaRule
namespace Go.Proofs.Ytbihdajoflaknaa
set_option linter.unusedVariables false
open Go.RowKit
/-- The rule of a letter, and whether it is a capital one. -/
def ruleX (k : Int) : Option (Nat × Bool) :=
  if k = 110 then some (0, false) else if k = 102 then some (1, false) else if k = 98 then some (2, false) else if k = 119 then some (3, false)
  else if k = 78 then some (0, true) else if k = 70 then some (1, true) else if k = 66 then some (2, true) else if k = 87 then some (3, true) else none
/-- The letters in the reference's order. -/
def ls : List Int := [110, 102, 98, 119, 78, 70, 66, 87]
def ruleChk (k : Nat) : Bool :=
  match ruleX k with
  | some (J, cap) => decide (J < 4) && (lb J == bits .or .u8 (k : Int) 32) && ((List.range J).all fun j => lb j != bits .or .u8 (k : Int) 32) && ((bits .or .u8 (k : Int) 32 != (k : Int)) == cap)
  | none => (List.range 4).all fun j => lb j != bits .or .u8 (k : Int) 32
theorem rule_chk_all : (List.range 256).all ruleChk = true := by decide +kernel
theorem rule_chk {k : Nat} (hk : k < 256) : ruleChk k = true := List.all_eq_true.1 rule_chk_all k (List.mem_range.2 hk)
/-- The same of a text. -/
def byte0 (s : ByteArray) : Int := if h : 0 < s.size then ((s[0]'h).toNat : Int) else 0
def ruleB (s : ByteArray) : Option (Nat × Bool) := if s.size = 1 then ruleX (byte0 s) else none
theorem one_byte {s : ByteArray} (h : s.size = 1) : ∃ x : UInt8, s = ⟨#[x]⟩ := by
  obtain ⟨⟨l⟩⟩ := s
  match l, h with
  | [x], _ => exact ⟨x, rfl⟩
theorem byte0_one (x : UInt8) : byte0 ⟨#[x]⟩ = x.toNat := rfl
theorem ls_at (i : Nat) (h : i < 8) : ((({ data := #[110, 102, 98, 119, 78, 70, 66, 87] } : ByteArray)[i]'h).toNat : Int) = ls.getD i 0 := by
  rcases (show i = 0 ∨ i = 1 ∨ i = 2 ∨ i = 3 ∨ i = 4 ∨ i = 5 ∨ i = 6 ∨ i = 7 from by omega) with rfl | rfl | rfl | rfl | rfl | rfl | rfl | rfl <;> rfl
set_option maxRecDepth 100000 in
set_option maxHeartbeats 3200000 in
theorem l4Rule_one (x : UInt8) (w : World) (k : Int) (J : Nat) (hJ : J ≤ 8) (hlo : ∀ j, j < J → ls.getD j 0 ≠ k) (hat : J < 8 → ls.getD J 0 = k) (hk : ((({ data := #[x] } : ByteArray)[0]'(Nat.zero_lt_one)).toNat : Int) = k) : Calls Try.prog 36 #[.string ⟨#[x]⟩] w (fun e w' => e = .returned (.int .u8 (if J < 8 then k else 0)) ∧ ∃ q, w' = w.drewN q) := by
  have HL := Lib.hid hlo
  have HAt := Lib.hid hat
  clear hlo hat
  go_enter Try.func36, Try.ntmps36
  go_wp2_with fail
  go_loopw [4] (fun i wr => ∃ j q : Nat, j ≤ J ∧ i = .int .i64 (j : Nat) ∧ wr = w.drewN q) (fun i _ => 8 - (intOf i).toNat)
  case atStart => exact ⟨0, 0, by omega, rfl, rfl⟩
  case round =>
    obtain ⟨j, q, hj, rfl, rfl⟩ := hrel
    by_cases h4 : j < 8
    · by_cases hlt : j < J
      · have hne := HL.out j hlt
        have hg := ls_at j h4
        rcases (show j = 0 ∨ j = 1 ∨ j = 2 ∨ j = 3 ∨ j = 4 ∨ j = 5 ∨ j = 6 ∨ j = 7 from by omega) with rfl | rfl | rfl | rfl | rfl | rfl | rfl | rfl
        all_goals
          simp only [ls, List.getD_cons_succ, List.getD_cons_zero] at hne hg
          have dv := beq_eq_false_iff_ne.2 hne
          go_wp2_with fail
          go_quiet (fail)
          go_wp2_with fail
          go_roundw
          case rel => first | exact ⟨1, q + nq, by omega, by go_num, rfl⟩ | exact ⟨2, q + nq, by omega, by go_num, rfl⟩ | exact ⟨3, q + nq, by omega, by go_num, rfl⟩ | exact ⟨4, q + nq, by omega, by go_num, rfl⟩ | exact ⟨5, q + nq, by omega, by go_num, rfl⟩ | exact ⟨6, q + nq, by omega, by go_num, rfl⟩ | exact ⟨7, q + nq, by omega, by go_num, rfl⟩ | exact ⟨8, q + nq, by omega, by go_num, rfl⟩
          case measure => simp [intOf]
      · have hjJ : j = J := by omega
        subst hjJ
        have heq := HAt.out h4
        have hg := ls_at j h4
        rcases (show j = 0 ∨ j = 1 ∨ j = 2 ∨ j = 3 ∨ j = 4 ∨ j = 5 ∨ j = 6 ∨ j = 7 from by omega) with rfl | rfl | rfl | rfl | rfl | rfl | rfl | rfl
        all_goals
          simp only [ls, List.getD_cons_succ, List.getD_cons_zero] at heq hg
          have dv := beq_iff_eq.2 heq
          go_wp2_with fail
          go_quiet (fail)
          go_wp2_with fail
          go_ret
          exact ⟨rfl, _, rfl⟩
    · have hj4 : j = 8 := by omega
      subst hj4
      have hJ4 : J = 8 := by omega
      subst hJ4
      go_wp2_with fail
      go_ret
      exact ⟨rfl, _, rfl⟩
/-- The letter as the reference reads it; 0 for others. -/
def rx (s : ByteArray) : Int := match ruleB s with | some _ => byte0 s | none => 0
def lsChk (k : Nat) : Bool :=
  match ruleX k with
  | some _ => (List.range 8).any fun J => ls.getD J 0 == (k : Int) && (List.range J).all fun j => ls.getD j 0 != (k : Int)
  | none => (List.range 8).all fun j => ls.getD j 0 != (k : Int)
theorem ls_chk_all : (List.range 256).all lsChk = true := by decide +kernel
theorem ls_chk {k : Nat} (hk : k < 256) : lsChk k = true := List.all_eq_true.1 ls_chk_all k (List.mem_range.2 hk)
set_option maxHeartbeats 800000 in
theorem l4Rule_long (s : ByteArray) (h : s.size ≠ 1) (w : World) : Calls Try.prog 36 #[.string s] w (fun e w' => e = .returned (.int .u8 0) ∧ ∃ q, w' = w.drewN q) := by
  have hz : ¬ (s.size : Int) = 1 := by omega
  have hb : ((s.size : Int) != 1) = true := by rw [bne_iff_ne]; exact hz
  go_enter Try.func36, Try.ntmps36
  go_wp2_with fail
  go_ret
  exact ⟨rfl, 0, rfl⟩
theorem l4Rule_any (s : ByteArray) (w : World) : Calls Try.prog 36 #[.string s] w (fun e w' => e = .returned (.int .u8 (rx s)) ∧ ∃ q, w' = w.drewN q) := by
  by_cases h : s.size = 1
  · obtain ⟨x, rfl⟩ := one_byte h
    have e : ruleB ⟨#[x]⟩ = ruleX (x.toNat : Int) := by unfold ruleB; rw [if_pos h, byte0_one]
    have hc := ls_chk (k := x.toNat) x.toNat_lt
    unfold lsChk at hc
    unfold rx
    rw [e, byte0_one]
    cases hr : ruleX (x.toNat : Int) with
    | some o =>
      rw [hr] at hc
      simp only [List.any_eq_true, Bool.and_eq_true, beq_iff_eq, List.all_eq_true, List.mem_range, bne_iff_ne] at hc
      obtain ⟨J, h1, h2, h3⟩ := hc
      refine (l4Rule_one x w _ J (by omega) h3 (fun _ => h2) rfl).mono ?_
      rintro e w' ⟨he, hb⟩
      rw [if_pos h1] at he
      exact ⟨he, hb⟩
    | none =>
      rw [hr] at hc
      simp only [List.all_eq_true, List.mem_range, bne_iff_ne] at hc
      refine (l4Rule_one x w _ 8 (by omega) hc (fun h => by omega) rfl).mono ?_
      rintro e w' ⟨he, hb⟩
      rw [if_neg (by omega)] at he
      exact ⟨he, hb⟩
  · have e : ruleB s = none := by unfold ruleB; rw [if_neg h]
    unfold rx
    rw [e]
    exact l4Rule_long s h w
/-- What is known of a letter that has a rule. -/
theorem ruleX_some {k : Int} {J : Nat} {cap : Bool} (h : ruleX k = some (J, cap)) : J < 4 ∧ k ≠ 0 ∧ ((cap = true ∧ 65 ≤ k ∧ k < 97 ∧ k + 32 = lb J) ∨ (cap = false ∧ 97 ≤ k ∧ k ≤ 122 ∧ k = lb J)) := by
  unfold ruleX at h
  repeat' split at h
  all_goals first | (cases h; done) | (injection h with h; injection h with h1 h2; subst h1 h2; subst_vars; simp [lb])
def rlOf : Nat → Pk.Rl
  | 0 => .n
  | 1 => .f
  | 2 => .b
  | _ => .w
theorem ruleB_some {s : ByteArray} {J : Nat} {cap : Bool} (h : ruleB s = some (J, cap)) : s.size = 1 ∧ ruleX (byte0 s) = some (J, cap) ∧ rx s = byte0 s := by
  have hh := h
  unfold ruleB at h
  by_cases e : s.size = 1
  · rw [if_pos e] at h
    refine ⟨e, h, ?_⟩
    unfold rx
    rw [hh]
  · rw [if_neg e] at h; cases h
end Go.Proofs.Ytbihdajoflaknaa
