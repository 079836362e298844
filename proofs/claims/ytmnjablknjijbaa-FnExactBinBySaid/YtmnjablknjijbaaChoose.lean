
/- impl.choose: the bin that a rule chooses. -/
import Derived.Test.YtmnjablknjijbaaRuleS
import Derived.Deep.LoopGhost
namespace Go.Proofs.Ytmnjablknjijbaa
set_option linter.unusedVariables false
open Go.RowKit
/-- The bin of a number. -/
def nxt (gs : List Nat) (k : Nat) : Option Addr := (gs[k]?).map fun g => ⟨g, 0, none⟩
theorem nxt_lt {gs : List Nat} {k : Nat} (h : k < gs.length) : nxt gs k = some ⟨gs.getD k 0, 0, none⟩ := by simp [nxt, List.getD, h]
theorem nxt_end {gs : List Nat} {k : Nat} (h : gs.length ≤ k) : nxt gs k = none := by simp [nxt, h]
/-- The bin chosen. -/
def chp (gs : List Nat) : Option Nat → Option Addr
  | none => none
  | some k => nxt gs k
/-- Rooms and pointers. -/
def Links (w : World) (gs : List Nat) (R : List Int) : Prop := gs.length = R.length ∧ ∀ j, j < R.length → w.cell? ⟨gs.getD j 0, 1, none⟩ = some (.int .i64 (R.getD j 0)) ∧ w.cell? ⟨gs.getD j 0, 2, none⟩ = some (.pointer (nxt gs (j + 1)))
theorem ta_00 (w : World) : (Instr.typeAssert (.iface 80 (.agg #[])) 70 80 true).run Try.prog w = .ok (.tuple #[.agg #[], .bool true]) w := by kernel_rfl
theorem ta_01 (w : World) : (Instr.typeAssert (.iface 80 (.agg #[])) 70 81 true).run Try.prog w = .ok (.tuple #[.agg #[], .bool false]) w := by kernel_rfl
theorem ta_02 (w : World) : (Instr.typeAssert (.iface 80 (.agg #[])) 70 82 true).run Try.prog w = .ok (.tuple #[.agg #[], .bool false]) w := by kernel_rfl
theorem ta_03 (w : World) : (Instr.typeAssert (.iface 80 (.agg #[])) 70 83 true).run Try.prog w = .ok (.tuple #[.agg #[], .bool false]) w := by kernel_rfl
theorem ta_10 (w : World) : (Instr.typeAssert (.iface 81 (.agg #[])) 70 80 true).run Try.prog w = .ok (.tuple #[.agg #[], .bool false]) w := by kernel_rfl
theorem ta_11 (w : World) : (Instr.typeAssert (.iface 81 (.agg #[])) 70 81 true).run Try.prog w = .ok (.tuple #[.agg #[], .bool true]) w := by kernel_rfl
theorem ta_12 (w : World) : (Instr.typeAssert (.iface 81 (.agg #[])) 70 82 true).run Try.prog w = .ok (.tuple #[.agg #[], .bool false]) w := by kernel_rfl
theorem ta_13 (w : World) : (Instr.typeAssert (.iface 81 (.agg #[])) 70 83 true).run Try.prog w = .ok (.tuple #[.agg #[], .bool false]) w := by kernel_rfl
theorem ta_20 (w : World) : (Instr.typeAssert (.iface 82 (.agg #[])) 70 80 true).run Try.prog w = .ok (.tuple #[.agg #[], .bool false]) w := by kernel_rfl
theorem ta_21 (w : World) : (Instr.typeAssert (.iface 82 (.agg #[])) 70 81 true).run Try.prog w = .ok (.tuple #[.agg #[], .bool false]) w := by kernel_rfl
theorem ta_22 (w : World) : (Instr.typeAssert (.iface 82 (.agg #[])) 70 82 true).run Try.prog w = .ok (.tuple #[.agg #[], .bool true]) w := by kernel_rfl
theorem ta_23 (w : World) : (Instr.typeAssert (.iface 82 (.agg #[])) 70 83 true).run Try.prog w = .ok (.tuple #[.agg #[], .bool false]) w := by kernel_rfl
theorem ta_30 (w : World) : (Instr.typeAssert (.iface 83 (.agg #[])) 70 80 true).run Try.prog w = .ok (.tuple #[.agg #[], .bool false]) w := by kernel_rfl
theorem ta_31 (w : World) : (Instr.typeAssert (.iface 83 (.agg #[])) 70 81 true).run Try.prog w = .ok (.tuple #[.agg #[], .bool false]) w := by kernel_rfl
theorem ta_32 (w : World) : (Instr.typeAssert (.iface 83 (.agg #[])) 70 82 true).run Try.prog w = .ok (.tuple #[.agg #[], .bool false]) w := by kernel_rfl
theorem ta_33 (w : World) : (Instr.typeAssert (.iface 83 (.agg #[])) 70 83 true).run Try.prog w = .ok (.tuple #[.agg #[], .bool true]) w := by kernel_rfl
def RetCh (w : World) (p : Option Addr) (e : Ending) (w' : World) : Prop := e = .returned (.pointer p) ∧ ∃ q, w' = w.drewN q
set_option maxRecDepth 100000 in
set_option maxHeartbeats 3200000 in
theorem choose_n (gs : List Nat) (R : List Int) (x : Int) (w : World) (h : Links w gs R) : Calls Try.prog 63 #[rv 0, .pointer (nxt gs 0), .int .i64 x] w (RetCh w (chp gs (Pk.pick .n R x R.length))) := by
  have H := Lib.hid h
  clear h
  unfold rv
  have t0 := ta_00
  go_enter Try.func63, Try.ntmps63
  go_wp2_with fail
  go_loopg [7, 8] R.length (fun m ch b wr => ∃ k q : Nat, k + m = R.length ∧ b = .pointer (nxt gs k) ∧ ch = .pointer (chp gs (Pk.pick .n R x k)) ∧ wr = w.drewN q)
  case atStart => exact ⟨0, 0, by omega, rfl, rfl, rfl⟩
  case round =>
    obtain ⟨k, q, hk, rfl, rfl, rfl⟩ := hrel
    by_cases hlt : k < R.length
    · obtain ⟨c1, c2⟩ := H.out.2 k hlt
      have n1 := nxt_lt (gs := gs) (k := k) (by rw [H.out.1]; exact hlt)
      rw [n1]
      obtain ⟨g, hg⟩ : ∃ g, gs.getD k 0 = g := ⟨_, rfl⟩
      obtain ⟨r, hr⟩ : ∃ r, R.getD k 0 = r := ⟨_, rfl⟩
      obtain ⟨p, hp⟩ : ∃ p, chp gs (Pk.pick .n R x k) = p := ⟨_, rfl⟩
      obtain ⟨nx, hnx⟩ : ∃ nx, nxt gs (k + 1) = nx := ⟨_, rfl⟩
      rw [hg] at c1 c2
      rw [hr] at c1
      rw [hnx] at c2
      rw [hg, hp]
      have HN := Lib.hid hnx
      have HR := Lib.hid hr
      have HN1 := Lib.hid n1
      have HG := Lib.hid hg
      clear hg hr hp hnx n1
      by_cases hxr : x ≤ r
      · have d : decide (x ≤ r) = true := by simpa using hxr
        have HP := Lib.hid (Pk.pick_n (R := R) (v := x) (i := k) (by rw [HR.out]; exact hxr))
        go_wp2_with fail
        go_roundg (R.length - (k + 1))
        case measure => omega
        case rel => exact ⟨k + 1, q, by omega, by rw [HN.out], by rw [HP.out, chp, HN1.out, HG.out], rfl⟩
      · have d : decide (x ≤ r) = false := by simpa using hxr
        have HP := Lib.hid (Pk.pick_n0 (R := R) (v := x) (i := k) (by rw [HR.out]; exact hxr))
        go_wp2_with fail
        go_roundg (R.length - (k + 1))
        case measure => omega
        case rel => exact ⟨k + 1, q, by omega, by rw [HN.out], by rw [HP.out, chp], rfl⟩
    · have e : k = R.length := by omega
      subst e
      have ne := nxt_end (gs := gs) (k := R.length) (by rw [H.out.1]; exact Nat.le_refl _)
      rw [ne]
      go_wp2_with fail
      go_ret
      exact ⟨rfl, _, rfl⟩
set_option maxRecDepth 100000 in
set_option maxHeartbeats 6400000 in
theorem choose_f (gs : List Nat) (R : List Int) (x : Int) (w : World) (h : Links w gs R) : Calls Try.prog 63 #[rv 1, .pointer (nxt gs 0), .int .i64 x] w (RetCh w (chp gs (Pk.pick .f R x R.length))) := by
  have H := Lib.hid h
  clear h
  unfold rv
  have t0 := ta_10
  have t1 := ta_11
  go_enter Try.func63, Try.ntmps63
  go_wp2_with fail
  go_loopg [7, 8] R.length (fun m ch b wr => ∃ k q : Nat, k + m = R.length ∧ b = .pointer (nxt gs k) ∧ ch = .pointer (chp gs (Pk.pick .f R x k)) ∧ wr = w.drewN q)
  case atStart => exact ⟨0, 0, by omega, rfl, rfl, rfl⟩
  case round =>
    obtain ⟨k, q, hk, rfl, rfl, rfl⟩ := hrel
    by_cases hlt : k < R.length
    · obtain ⟨c1, c2⟩ := H.out.2 k hlt
      have n1 := nxt_lt (gs := gs) (k := k) (by rw [H.out.1]; exact hlt)
      rw [n1]
      obtain ⟨g, hg⟩ : ∃ g, gs.getD k 0 = g := ⟨_, rfl⟩
      obtain ⟨r, hr⟩ : ∃ r, R.getD k 0 = r := ⟨_, rfl⟩
      obtain ⟨nx, hnx⟩ : ∃ nx, nxt gs (k + 1) = nx := ⟨_, rfl⟩
      rw [hg] at c1 c2
      rw [hr] at c1
      rw [hnx] at c2
      rw [hg]
      have HN := Lib.hid hnx
      have HR := Lib.hid hr
      have HN1 := Lib.hid n1
      have HG := Lib.hid hg
      clear hg hr hnx n1
      cases hp : Pk.pick .f R x k with
      | none =>
        rw [show chp gs none = none from rfl]
        have HPK := Lib.hid hp
        clear hp
        by_cases hxr : x ≤ r
        · have d : decide (x ≤ r) = true := by simpa using hxr
          have HP := Lib.hid (Pk.pick_new (R := R) (v := x) (i := k) (by rw [HR.out]; exact hxr) HPK.out)
          go_wp2_with fail
          go_roundg (R.length - (k + 1))
          case measure => omega
          case rel => exact ⟨k + 1, q, by omega, by rw [HN.out], by rw [HP.out, chp, HN1.out, HG.out], rfl⟩
        · have d : decide (x ≤ r) = false := by simpa using hxr
          have HP := Lib.hid ((Pk.pick_skip (r := .f) (R := R) (v := x) (i := k) (by simp) (by rw [HR.out]; exact hxr)).trans HPK.out)
          go_wp2_with fail
          go_roundg (R.length - (k + 1))
          case measure => omega
          case rel => exact ⟨k + 1, q, by omega, by rw [HN.out], by rw [HP.out, chp], rfl⟩
      | some j =>
        have hj := (Pk.pick_some hp).1
        have nj := nxt_lt (gs := gs) (k := j) (by rw [H.out.1]; omega)
        rw [show chp gs (some j) = nxt gs j from rfl, nj]
        have c3 := (H.out.2 j (by omega)).1
        obtain ⟨gj, hgj⟩ : ∃ gj, gs.getD j 0 = gj := ⟨_, rfl⟩
        obtain ⟨s, hs⟩ : ∃ s, R.getD j 0 = s := ⟨_, rfl⟩
        rw [hgj] at c3 nj ⊢
        rw [hs] at c3
        have HPK := Lib.hid hp
        have HNJ := Lib.hid nj
        have HSS := Lib.hid hs
        clear hp nj hgj hs
        have HP := Lib.hid (Pk.pick_f HPK.out)
        by_cases hxr : x ≤ r
        · have d : decide (x ≤ r) = true := by simpa using hxr
          go_wp2_with fail
          go_roundg (R.length - (k + 1))
          case measure => omega
          case rel => exact ⟨k + 1, q, by omega, by rw [HN.out], by rw [HP.out, chp, HNJ.out], rfl⟩
        · have d : decide (x ≤ r) = false := by simpa using hxr
          go_wp2_with fail
          go_roundg (R.length - (k + 1))
          case measure => omega
          case rel => exact ⟨k + 1, q, by omega, by rw [HN.out], by rw [HP.out, chp, HNJ.out], rfl⟩
    · have e : k = R.length := by omega
      subst e
      have ne := nxt_end (gs := gs) (k := R.length) (by rw [H.out.1]; exact Nat.le_refl _)
      rw [ne]
      go_wp2_with fail
      go_ret
      exact ⟨rfl, _, rfl⟩
set_option maxRecDepth 100000 in
set_option maxHeartbeats 6400000 in
theorem choose_b (gs : List Nat) (R : List Int) (x : Int) (w : World) (h : Links w gs R) : Calls Try.prog 63 #[rv 2, .pointer (nxt gs 0), .int .i64 x] w (RetCh w (chp gs (Pk.pick .b R x R.length))) := by
  have H := Lib.hid h
  clear h
  unfold rv
  have t0 := ta_20
  have t1 := ta_21
  have t2 := ta_22
  go_enter Try.func63, Try.ntmps63
  go_wp2_with fail
  go_loopg [7, 8] R.length (fun m ch b wr => ∃ k q : Nat, k + m = R.length ∧ b = .pointer (nxt gs k) ∧ ch = .pointer (chp gs (Pk.pick .b R x k)) ∧ wr = w.drewN q)
  case atStart => exact ⟨0, 0, by omega, rfl, rfl, rfl⟩
  case round =>
    obtain ⟨k, q, hk, rfl, rfl, rfl⟩ := hrel
    by_cases hlt : k < R.length
    · obtain ⟨c1, c2⟩ := H.out.2 k hlt
      have n1 := nxt_lt (gs := gs) (k := k) (by rw [H.out.1]; exact hlt)
      rw [n1]
      obtain ⟨g, hg⟩ : ∃ g, gs.getD k 0 = g := ⟨_, rfl⟩
      obtain ⟨r, hr⟩ : ∃ r, R.getD k 0 = r := ⟨_, rfl⟩
      obtain ⟨nx, hnx⟩ : ∃ nx, nxt gs (k + 1) = nx := ⟨_, rfl⟩
      rw [hg] at c1 c2
      rw [hr] at c1
      rw [hnx] at c2
      rw [hg]
      have HN := Lib.hid hnx
      have HR := Lib.hid hr
      have HN1 := Lib.hid n1
      have HG := Lib.hid hg
      clear hg hr hnx n1
      cases hp : Pk.pick .b R x k with
      | none =>
        rw [show chp gs none = none from rfl]
        have HPK := Lib.hid hp
        clear hp
        by_cases hxr : x ≤ r
        · have d : decide (x ≤ r) = true := by simpa using hxr
          have HP := Lib.hid (Pk.pick_new (R := R) (v := x) (i := k) (by rw [HR.out]; exact hxr) HPK.out)
          go_wp2_with fail
          go_quiet (fail)
          go_wp2_with fail
          go_roundg (R.length - (k + 1))
          case measure => omega
          case rel => exact ⟨k + 1, q + nq, by omega, by rw [HN.out], by rw [HP.out, chp, HN1.out, HG.out], rfl⟩
        · have d : decide (x ≤ r) = false := by simpa using hxr
          have HP := Lib.hid ((Pk.pick_skip (r := .b) (R := R) (v := x) (i := k) (by simp) (by rw [HR.out]; exact hxr)).trans HPK.out)
          go_wp2_with fail
          go_quiet (fail)
          go_wp2_with fail
          go_roundg (R.length - (k + 1))
          case measure => omega
          case rel => exact ⟨k + 1, q + nq, by omega, by rw [HN.out], by rw [HP.out, chp], rfl⟩
      | some j =>
        have hj := (Pk.pick_some hp).1
        have nj := nxt_lt (gs := gs) (k := j) (by rw [H.out.1]; omega)
        rw [show chp gs (some j) = nxt gs j from rfl, nj]
        have c3 := (H.out.2 j (by omega)).1
        obtain ⟨gj, hgj⟩ : ∃ gj, gs.getD j 0 = gj := ⟨_, rfl⟩
        obtain ⟨s, hs⟩ : ∃ s, R.getD j 0 = s := ⟨_, rfl⟩
        rw [hgj] at c3 nj ⊢
        rw [hs] at c3
        have HPK := Lib.hid hp
        have HNJ := Lib.hid nj
        have HSS := Lib.hid hs
        clear hp nj hgj hs
        by_cases hxr : x ≤ r
        · have d : decide (x ≤ r) = true := by simpa using hxr
          have HP0 := Lib.hid (Pk.pick_b (R := R) (v := x) (i := k) (by rw [HR.out]; exact hxr) HPK.out)
          rw [HR.out, HSS.out] at HP0
          by_cases hlt2 : r < s
          · have d2 : decide (r < s) = true := by simpa using hlt2
            have HP := Lib.hid (HP0.out.trans (if_pos hlt2))
            clear HP0
            go_wp2_with fail
            go_quiet (fail)
            go_wp2_with fail
            go_roundg (R.length - (k + 1))
            case measure => omega
            case rel => exact ⟨k + 1, q + nq, by omega, by rw [HN.out], by rw [HP.out, chp, HN1.out, HG.out], rfl⟩
          · have d2 : decide (r < s) = false := by simpa using hlt2
            have HP := Lib.hid (HP0.out.trans (if_neg hlt2))
            clear HP0
            go_wp2_with fail
            go_quiet (fail)
            go_wp2_with fail
            go_roundg (R.length - (k + 1))
            case measure => omega
            case rel => exact ⟨k + 1, q + nq, by omega, by rw [HN.out], by rw [HP.out, chp, HNJ.out], rfl⟩
        · have d : decide (x ≤ r) = false := by simpa using hxr
          have HP := Lib.hid ((Pk.pick_skip (r := .b) (R := R) (v := x) (i := k) (by simp) (by rw [HR.out]; exact hxr)).trans HPK.out)
          go_wp2_with fail
          go_quiet (fail)
          go_wp2_with fail
          go_roundg (R.length - (k + 1))
          case measure => omega
          case rel => exact ⟨k + 1, q + nq, by omega, by rw [HN.out], by rw [HP.out, chp, HNJ.out], rfl⟩
    · have e : k = R.length := by omega
      subst e
      have ne := nxt_end (gs := gs) (k := R.length) (by rw [H.out.1]; exact Nat.le_refl _)
      rw [ne]
      go_wp2_with fail
      go_ret
      exact ⟨rfl, _, rfl⟩
set_option maxRecDepth 100000 in
set_option maxHeartbeats 6400000 in
theorem choose_w (gs : List Nat) (R : List Int) (x : Int) (w : World) (h : Links w gs R) : Calls Try.prog 63 #[rv 3, .pointer (nxt gs 0), .int .i64 x] w (RetCh w (chp gs (Pk.pick .w R x R.length))) := by
  have H := Lib.hid h
  clear h
  unfold rv
  have t0 := ta_30
  have t1 := ta_31
  have t2 := ta_32
  have t3 := ta_33
  go_enter Try.func63, Try.ntmps63
  go_wp2_with fail
  go_loopg [7, 8] R.length (fun m ch b wr => ∃ k q : Nat, k + m = R.length ∧ b = .pointer (nxt gs k) ∧ ch = .pointer (chp gs (Pk.pick .w R x k)) ∧ wr = w.drewN q)
  case atStart => exact ⟨0, 0, by omega, rfl, rfl, rfl⟩
  case round =>
    obtain ⟨k, q, hk, rfl, rfl, rfl⟩ := hrel
    by_cases hlt : k < R.length
    · obtain ⟨c1, c2⟩ := H.out.2 k hlt
      have n1 := nxt_lt (gs := gs) (k := k) (by rw [H.out.1]; exact hlt)
      rw [n1]
      obtain ⟨g, hg⟩ : ∃ g, gs.getD k 0 = g := ⟨_, rfl⟩
      obtain ⟨r, hr⟩ : ∃ r, R.getD k 0 = r := ⟨_, rfl⟩
      obtain ⟨nx, hnx⟩ : ∃ nx, nxt gs (k + 1) = nx := ⟨_, rfl⟩
      rw [hg] at c1 c2
      rw [hr] at c1
      rw [hnx] at c2
      rw [hg]
      have HN := Lib.hid hnx
      have HR := Lib.hid hr
      have HN1 := Lib.hid n1
      have HG := Lib.hid hg
      clear hg hr hnx n1
      cases hp : Pk.pick .w R x k with
      | none =>
        rw [show chp gs none = none from rfl]
        have HPK := Lib.hid hp
        clear hp
        by_cases hxr : x ≤ r
        · have d : decide (x ≤ r) = true := by simpa using hxr
          have HP := Lib.hid (Pk.pick_new (R := R) (v := x) (i := k) (by rw [HR.out]; exact hxr) HPK.out)
          go_wp2_with fail
          go_quiet (fail)
          go_wp2_with fail
          go_roundg (R.length - (k + 1))
          case measure => omega
          case rel => exact ⟨k + 1, q + nq, by omega, by rw [HN.out], by rw [HP.out, chp, HN1.out, HG.out], rfl⟩
        · have d : decide (x ≤ r) = false := by simpa using hxr
          have HP := Lib.hid ((Pk.pick_skip (r := .w) (R := R) (v := x) (i := k) (by simp) (by rw [HR.out]; exact hxr)).trans HPK.out)
          go_wp2_with fail
          go_quiet (fail)
          go_wp2_with fail
          go_roundg (R.length - (k + 1))
          case measure => omega
          case rel => exact ⟨k + 1, q + nq, by omega, by rw [HN.out], by rw [HP.out, chp], rfl⟩
      | some j =>
        have hj := (Pk.pick_some hp).1
        have nj := nxt_lt (gs := gs) (k := j) (by rw [H.out.1]; omega)
        rw [show chp gs (some j) = nxt gs j from rfl, nj]
        have c3 := (H.out.2 j (by omega)).1
        obtain ⟨gj, hgj⟩ : ∃ gj, gs.getD j 0 = gj := ⟨_, rfl⟩
        obtain ⟨s, hs⟩ : ∃ s, R.getD j 0 = s := ⟨_, rfl⟩
        rw [hgj] at c3 nj ⊢
        rw [hs] at c3
        have HPK := Lib.hid hp
        have HNJ := Lib.hid nj
        have HSS := Lib.hid hs
        clear hp nj hgj hs
        by_cases hxr : x ≤ r
        · have d : decide (x ≤ r) = true := by simpa using hxr
          have HP0 := Lib.hid (Pk.pick_w (R := R) (v := x) (i := k) (by rw [HR.out]; exact hxr) HPK.out)
          rw [HR.out, HSS.out] at HP0
          by_cases hlt2 : s < r
          · have d2 : decide (s < r) = true := by simpa using hlt2
            have HP := Lib.hid (HP0.out.trans (if_pos hlt2))
            clear HP0
            go_wp2_with fail
            go_quiet (fail)
            go_wp2_with fail
            go_roundg (R.length - (k + 1))
            case measure => omega
            case rel => exact ⟨k + 1, q + nq, by omega, by rw [HN.out], by rw [HP.out, chp, HN1.out, HG.out], rfl⟩
          · have d2 : decide (s < r) = false := by simpa using hlt2
            have HP := Lib.hid (HP0.out.trans (if_neg hlt2))
            clear HP0
            go_wp2_with fail
            go_quiet (fail)
            go_wp2_with fail
            go_roundg (R.length - (k + 1))
            case measure => omega
            case rel => exact ⟨k + 1, q + nq, by omega, by rw [HN.out], by rw [HP.out, chp, HNJ.out], rfl⟩
        · have d : decide (x ≤ r) = false := by simpa using hxr
          have HP := Lib.hid ((Pk.pick_skip (r := .w) (R := R) (v := x) (i := k) (by simp) (by rw [HR.out]; exact hxr)).trans HPK.out)
          go_wp2_with fail
          go_quiet (fail)
          go_wp2_with fail
          go_roundg (R.length - (k + 1))
          case measure => omega
          case rel => exact ⟨k + 1, q + nq, by omega, by rw [HN.out], by rw [HP.out, chp, HNJ.out], rfl⟩
    · have e : k = R.length := by omega
      subst e
      have ne := nxt_end (gs := gs) (k := R.length) (by rw [H.out.1]; exact Nat.le_refl _)
      rw [ne]
      go_wp2_with fail
      go_ret
      exact ⟨rfl, _, rfl⟩
/-- The bin chosen, by whatever rule. -/
theorem choose_any (J : Nat) (hJ : J < 4) (gs : List Nat) (R : List Int) (x : Int) (w : World) (h : Links w gs R) : Calls Try.prog 63 #[rv J, .pointer (nxt gs 0), .int .i64 x] w (RetCh w (chp gs (Pk.pick (rlOf J) R x R.length))) := by
  rcases (show J = 0 ∨ J = 1 ∨ J = 2 ∨ J = 3 from by omega) with rfl | rfl | rfl | rfl
  · exact choose_n gs R x w h
  · exact choose_f gs R x w h
  · exact choose_b gs R x w h
  · exact choose_w gs R x w h
end Go.Proofs.Ytmnjablknjijbaa
