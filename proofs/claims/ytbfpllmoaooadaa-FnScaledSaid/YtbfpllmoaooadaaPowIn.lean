
/- PowerIn, both packages. -/
import Derived.Test.YtbfpllmoaooadaaIn
import Derived.Test.YtbfpllmoaooadaaSum
import Derived.Deep.QuietTactic
import Derived.BigQuiet
namespace Go.Proofs.Ytbfpllmoaooadaa
set_option linter.unusedVariables false
open Go.RowKit
/-- A call that reads and draws. -/
def RetQ (w : World) (v : Value) (e : Ending) (w' : World) : Prop := e = .returned v ∧ ∃ q, w' = w.drewN q
theorem quiet_retV {f : FuncId} {args : Array Value} {w : World} {n : Nat} {v : Value} (h : Calls Try.prog f args (w.drewN n) (RetV (w.drewN n) v)) :
    Calls Try.prog f args (w.drewN n) fun e w'' => e = .returned v ∧ ∃ m, w'' = w.drewN m := h.mono fun _ _ h => ⟨h.1, n, h.2.symm⟩
theorem quiet_retQ {f : FuncId} {args : Array Value} {w : World} {n : Nat} {v : Value} (h : Calls Try.prog f args (w.drewN n) (RetQ (w.drewN n) v)) :
    Calls Try.prog f args (w.drewN n) fun e w'' => e = .returned v ∧ ∃ m, w'' = w.drewN m := h.mono fun _ _ h => by
  obtain ⟨h1, q, h2⟩ := h
  exact ⟨h1, n + q, by rw [h2, World.drewN_drewN]⟩
theorem retB_of_Q {w w' : World} {b : Bool} {e : Ending} (h : RetQ w (.bool b) e w') : RetB w b e w' := by
  obtain ⟨h1, q, rfl⟩ := h
  exact ⟨h1, below_drewN (Below.refl _ _) q⟩
/-- A world that is another, but for draws. -/
def Drn (w wr : World) : Prop := ∃ q, wr = w.drewN q
theorem Drn.refl (w : World) : Drn w w := ⟨0, rfl⟩
theorem Drn.more {w wr : World} (h : Drn w wr) (k : Nat) : Drn w (wr.drewN k) := by
  obtain ⟨q, rfl⟩ := h
  exact ⟨q + k, World.drewN_drewN _ _ _⟩
theorem Drn.rd {w wr : World} (h : Drn w wr) {B n : Nat} {A : Option Addr} {xs : List Int} (hr : Rd w B A n xs) : Rd wr B A n xs := by
  obtain ⟨q, rfl⟩ := h
  exact hr
def PIn (xs : List Int) : Prop := xs.length ≤ 8 ∧ (∀ j, j + 1 < xs.length → xs.getD j 0 ≤ xs.getD (j + 1) 0) ∧ ∀ j, j < xs.length → -50 ≤ xs.getD j 0 ∧ xs.getD j 0 ≤ 50
open Classical in
/-- Is it a side? -/
noncomputable def pIn (xs : List Int) : Bool := decide (PIn xs)
theorem pIn_true {xs : List Int} : pIn xs = true ↔ PIn xs := by unfold pIn; simp
theorem pIn_false {xs : List Int} : pIn xs = false ↔ ¬ PIn xs := by unfold pIn; simp
theorem less_any (x y : Int) (w : World) : Calls Try.prog 74 #[.int .i64 x, .int .i64 y] w (RetV w (.bool (decide (x < y)))) := by
  have hn : ∀ x, Calls Try.prog 82 #[.int .i64 x] w (RetV w (.bool false)) := fun x => by
    go_enter Try.func82, Try.ntmps82
    go_wp2_with fail
    go_ret
    exact ⟨rfl, rfl⟩
  go_enter Try.func74, Try.ntmps74
  go_wp2_with (go_at_call 82; refine (hn _).mono ?_; rintro e w' ⟨rfl, rfl⟩)
  go_ret
  exact ⟨rfl, rfl⟩
set_option maxRecDepth 100000 in
set_option maxHeartbeats 800000 in
theorem isSorted_any (A : Option Addr) (n c : Nat) (xs : List Int) (w : World) (ha : Rd w w.heap.size A n xs) (hn : n ≤ 1000000000) (b : Bool) (hb : (∀ j, j + 1 < xs.length → xs.getD j 0 ≤ xs.getD (j + 1) 0) ↔ b = true) :
    Calls Try.prog 54 #[.slice A n c] w (RetQ w (.bool b)) := by
  have HA := Lib.hid ha
  have HL := Lib.hid ha.len
  have HB := Lib.hid hb
  clear ha hb
  go_enter Try.func54, Try.ntmps54
  go_wp2_with fail
  go_loopw [3] (fun i wr => ∃ (x : Int), -1 ≤ x ∧ x < n ∧ i = .int .i64 x ∧ Hid (Drn w wr) ∧ Hid (∀ j : Nat, x ≤ j → j + 1 < n → xs.getD j 0 ≤ xs.getD (j + 1) 0)) (fun i _ => (intOf i + 1).toNat)
  case atStart => exact ⟨(n : Int) - 1, by omega, by omega, by go_num, Lib.hid (Drn.refl w), Lib.hid (fun j h1 h2 => by omega)⟩
  case round =>
    obtain ⟨x, hx1, hx2, rfl, HD, HJ⟩ := hrel
    have HA := Lib.hid (HD.out.rd HA.out)
    by_cases h0 : 0 < x
    · obtain ⟨p, rfl⟩ : ∃ p : Nat, x = (p : Int) + 1 := ⟨(x - 1).toNat, by omega⟩
      obtain ⟨b1, o1, rfl, hb1, hcc⟩ := HA.out.at_ (show p < n by omega)
      have g1 := hcc (p + 1) (by omega)
      have g0 := hcc p (by omega)
      obtain ⟨y1, hy1⟩ : ∃ y, xs.getD (p + 1) 0 = y := ⟨_, rfl⟩
      obtain ⟨y0, hy0⟩ : ∃ y, xs.getD p 0 = y := ⟨_, rfl⟩
      rw [hy1] at g1
      rw [hy0] at g0
      have HY1 := Lib.hid hy1
      have HY0 := Lib.hid hy0
      clear hy1 hy0 hcc
      have p0 : (0 : Int) ≤ (p : Int) + 1 := by omega
      have p1 : (0 : Int) ≤ (p : Int) := by omega
      have p2 : (p : Int) < (n : Int) := by omega
      have e1 : ((p : Int) + 1).toNat = p + 1 := by omega
      have e0 : ((p : Int)).toNat = p := by omega
      have hwp : IntKind.i64.wrap (p : Int) = (p : Int) := IntWalk.i64_in _ (by omega)
      have dv : decide ((p : Int) + 1 > 0) = true := decide_eq_true (by omega)
      by_cases hlt : y1 < y0
      · have dw : decide (y1 < y0) = true := decide_eq_true hlt
        go_wp2_with fail
        go_quiet ((go_at_call 74; refine quiet_retV (less_any _ _ _)))
        go_wp2_with fail
        have hbf : b = false := by
          cases b with
          | false => rfl
          | true =>
            have := HB.out.2 rfl p (by rw [HL.out]; omega)
            rw [HY0.out, HY1.out] at this
            omega
        subst hbf
        go_ret
        exact ⟨rfl, HD.out.more nq⟩
      · have dw : decide (y1 < y0) = false := decide_eq_false hlt
        go_wp2_with fail
        go_quiet ((go_at_call 74; refine quiet_retV (less_any _ _ _)))
        go_wp2_with fail
        have hN : Hid (∀ j : Nat, (p : Int) ≤ j → j + 1 < n → xs.getD j 0 ≤ xs.getD (j + 1) 0) := Lib.hid (fun j h1 h2 => by
          by_cases hj : j = p
          · subst hj; rw [HY0.out, HY1.out]; omega
          · exact HJ.out j (by omega) h2)
        go_roundw
        case rel => exact ⟨p, by omega, by omega, by go_num, Lib.hid (HD.out.more nq), hN⟩
        case measure => simp [intOf]; omega
    · have hbt : b = true := HB.out.1 (fun j hj => HJ.out j (by omega) (by rw [HL.out] at hj; exact hj))
      subst hbt
      go_wp2_with fail
      go_ret
      exact ⟨rfl, HD.out⟩
theorem pIn_no_len {xs : List Int} (h : 8 < xs.length) : pIn xs = false := pIn_false.2 fun h' => by have := h'.1; omega
theorem pIn_no_at {xs : List Int} {k : Nat} (hk : k < xs.length) (h : ¬ (-50 ≤ xs.getD k 0 ∧ xs.getD k 0 ≤ 50)) : pIn xs = false := pIn_false.2 fun h' => h (h'.2.2 k hk)
theorem pIn_no_pair {xs : List Int} {k : Nat} (hk : k + 1 < xs.length) (h : xs.getD (k + 1) 0 < xs.getD k 0) : pIn xs = false := pIn_false.2 fun h' => by have := h'.2.1 k hk; omega
set_option maxRecDepth 100000 in
set_option maxHeartbeats 1600000 in
theorem specPowerIn_any (A : Option Addr) (n c : Nat) (xs : List Int) (w : World) (ha : Rd w w.heap.size A n xs) (hn : n ≤ 1000000000) (b : Bool) (hb : pIn xs = b) :
    Calls Try.prog 21 #[.slice A n c] w (RetQ w (.bool b)) := by
  have HA := Lib.hid ha
  have HL := Lib.hid ha.len
  have HB := Lib.hid hb
  clear ha hb
  go_enter Try.func21, Try.ntmps21
  go_wp2_with fail
  go_loopw [3] (fun i wr => ∃ (k : Nat), k ≤ n ∧ i = .int .i64 k ∧ Hid (Drn w wr) ∧ Hid (∀ j, j < k → -50 ≤ xs.getD j 0 ∧ xs.getD j 0 ≤ 50) ∧ Hid (∀ j, j + 1 < k → xs.getD j 0 ≤ xs.getD (j + 1) 0)) (fun i _ => n - (intOf i).toNat)
  case atStart => exact ⟨0, by omega, by go_num, Lib.hid (Drn.refl w), Lib.hid (fun j h => by omega), Lib.hid (fun j h => by omega)⟩
  case round =>
    obtain ⟨k, hk, rfl, HD, HR, HS⟩ := hrel
    have HA := Lib.hid (HD.out.rd HA.out)
    by_cases hlt : k < n
    · have hltz : (k : Int) < (n : Int) := by omega
      have dv : decide ((k : Int) < (n : Int)) = true := decide_eq_true hltz
      obtain ⟨b1, o1, rfl, hb1, hcc⟩ := HA.out.at_ hlt
      have g1 := hcc k hlt
      obtain ⟨x, hx⟩ : ∃ x, xs.getD k 0 = x := ⟨_, rfl⟩
      rw [hx] at g1
      have HX := Lib.hid hx
      have HC := Lib.hid hcc
      clear hx hcc
      have p1 : (0 : Int) ≤ (k : Int) := by omega
      have e0 : ((k : Int)).toNat = k := by omega
      by_cases hin : -50 ≤ x ∧ x ≤ 50
      · obtain ⟨i1, i2⟩ := hin
        rcases Nat.eq_zero_or_pos k with h0 | h0
        · subst h0
          have dg : decide ((0 : Int) > 0) = false := by decide
          rw [Nat.add_zero] at g1
          have hz0 : (0 : Int) < (n : Int) := by omega
          go_wp2_with fail
          go_quiet ((go_at_call 53; refine quiet_retV (l6In_yes _ _ _ _ i1 i2)))
          go_wp2_with fail
          have hN : Hid (∀ j, j < 1 → -50 ≤ xs.getD j 0 ∧ xs.getD j 0 ≤ 50) := Lib.hid (fun j h => by
            obtain rfl : j = 0 := by omega
            rw [HX.out]; exact ⟨i1, i2⟩)
          go_roundw
          case rel => exact ⟨1, by omega, by go_num, Lib.hid (HD.out.more nq), hN, Lib.hid (fun j h => by omega)⟩
          case measure => simp [intOf]; omega
        · obtain ⟨kp, rfl⟩ : ∃ kp, k = kp + 1 := ⟨k - 1, by omega⟩
          have g0 := HC.out kp (by omega)
          obtain ⟨y, hy⟩ : ∃ y, xs.getD kp 0 = y := ⟨_, rfl⟩
          rw [hy] at g0
          have HY := Lib.hid hy
          clear hy
          have dg : decide ((kp : Int) + 1 > 0) = true := decide_eq_true (by omega)
          have p0 : (0 : Int) ≤ (kp : Int) + 1 := by omega
          have p2 : (kp : Int) + 1 < (n : Int) := by omega
          have p3 : (kp : Int) < (n : Int) := by omega
          have e1 : ((kp : Int) + 1).toNat = kp + 1 := by omega
          have e2 : ((kp : Int)).toNat = kp := by omega
          have hwp : IntKind.i64.wrap (kp : Int) = (kp : Int) := IntWalk.i64_in _ (by omega)
          by_cases hxy : x < y
          · have dw : decide (x < y) = true := decide_eq_true hxy
            have hbf : b = false := by rw [← HB.out]; exact pIn_no_pair (by rw [HL.out]; omega) (by rw [HX.out, HY.out]; exact hxy)
            subst hbf
            go_wp2_with fail
            go_quiet ((go_at_call 53; refine quiet_retV (l6In_yes _ _ _ _ i1 i2)))
            go_wp2_with fail
            go_ret
            exact ⟨rfl, HD.out.more nq⟩
          · have dw : decide (x < y) = false := decide_eq_false hxy
            go_wp2_with fail
            go_quiet ((go_at_call 53; refine quiet_retV (l6In_yes _ _ _ _ i1 i2)))
            go_wp2_with fail
            have hN : Hid (∀ j, j < kp + 1 + 1 → -50 ≤ xs.getD j 0 ∧ xs.getD j 0 ≤ 50) := Lib.hid (fun j h => by
              by_cases hj : j = kp + 1
              · subst hj; rw [HX.out]; exact ⟨i1, i2⟩
              · exact HR.out j (by omega))
            have hN2 : Hid (∀ j, j + 1 < kp + 1 + 1 → xs.getD j 0 ≤ xs.getD (j + 1) 0) := Lib.hid (fun j h => by
              by_cases hj : j = kp
              · subst hj; rw [HX.out, HY.out]; omega
              · exact HS.out j (by omega))
            go_roundw
            case rel => exact ⟨kp + 1 + 1, by omega, by go_num, Lib.hid (HD.out.more nq), hN, hN2⟩
            case measure => simp [intOf]; omega
      · have hbf : b = false := by rw [← HB.out]; exact pIn_no_at (by rw [HL.out]; exact hlt) (by rw [HX.out]; exact hin)
        subst hbf
        have HN := Lib.hid hin
        clear hin
        go_wp2_with fail
        go_quiet ((go_at_call 53; refine quiet_retV (l6In_no _ _ _ _ HN.out)))
        go_wp2_with fail
        go_ret
        exact ⟨rfl, HD.out.more nq⟩
    · obtain rfl : k = n := by omega
      have hbb : b = decide ((k : Int) ≤ 8) := by
        rw [← HB.out]
        by_cases h8 : k ≤ 8
        · rw [decide_eq_true (by omega)]
          exact pIn_true.2 ⟨by rw [HL.out]; exact h8, fun j h => HS.out j (by rw [HL.out] at h; exact h), fun j h => HR.out j (by rw [HL.out] at h; exact h)⟩
        · rw [decide_eq_false (by omega)]
          exact pIn_no_len (by rw [HL.out]; omega)
      subst hbb
      go_wp2_with fail
      go_ret
      exact ⟨rfl, HD.out⟩
set_option maxRecDepth 100000 in
set_option maxHeartbeats 1600000 in
theorem implPowerIn_any (A : Option Addr) (n c : Nat) (xs : List Int) (w : World) (ha : Rd w w.heap.size A n xs) (hn : n ≤ 1000000000) (b : Bool) (hb : pIn xs = b) :
    Calls Try.prog 23 #[.slice A n c] w (RetQ w (.bool b)) := by
  have HA := Lib.hid ha
  have HL := Lib.hid ha.len
  have HB := Lib.hid hb
  clear ha hb
  by_cases h8 : 8 < n
  · have hbf : b = false := by rw [← HB.out]; exact pIn_no_len (by rw [HL.out]; exact h8)
    subst hbf
    have d8 : decide ((8 : Int) < (n : Int)) = true := decide_eq_true (by omega)
    go_enter Try.func23, Try.ntmps23
    go_wp2_with fail
    go_ret
    exact ⟨rfl, Drn.refl w⟩
  · have d8 : decide ((8 : Int) < (n : Int)) = false := decide_eq_false (by omega)
    by_cases hso : ∀ j, j + 1 < xs.length → xs.getD j 0 ≤ xs.getD (j + 1) 0
    · have HSo := Lib.hid hso
      clear hso
      go_enter Try.func23, Try.ntmps23
      go_wp2_with fail
      refine (isSorted_any _ _ _ _ _ HA.out hn true ⟨fun _ => rfl, fun _ => HSo.out⟩).mono ?_
      rintro e w1 ⟨rfl, hq⟩
      have HQ : Hid (Drn w w1) := Lib.hid hq
      have HA := Lib.hid (HQ.out.rd HA.out)
      clear hq
      go_wp2_with fail
      go_loop [15] (fun i => ∃ (k : Nat), k ≤ n ∧ i = .int .i64 k ∧ Hid (∀ j, j < k → -50 ≤ xs.getD j 0 ∧ xs.getD j 0 ≤ 50)) (fun i => n - (intOf i).toNat)
      case atStart => exact ⟨0, by omega, by go_num, Lib.hid (fun j h => by omega)⟩
      case round =>
        obtain ⟨k, hk, rfl, HR⟩ := hrel
        by_cases hlt : k < n
        · have hltz : (k : Int) < (n : Int) := by omega
          obtain ⟨b1, o1, rfl, hb1, hcc⟩ := HA.out.at_ hlt
          have g1 := hcc k hlt
          obtain ⟨x, hx⟩ : ∃ x, xs.getD k 0 = x := ⟨_, rfl⟩
          rw [hx] at g1
          have HX := Lib.hid hx
          clear hx hcc
          by_cases hin : -50 ≤ x ∧ x ≤ 50
          · obtain ⟨i1, i2⟩ := hin
            go_wp2_with (go_at_call 55; refine (within_yes _ _ _ (by omega) (by omega) i1 i2).mono ?_; rintro e w' ⟨rfl, rfl⟩)
            have hN : Hid (∀ j, j < k + 1 → -50 ≤ xs.getD j 0 ∧ xs.getD j 0 ≤ 50) := Lib.hid (fun j h => by
              by_cases hj : j = k
              · subst hj; rw [HX.out]; exact ⟨i1, i2⟩
              · exact HR.out j (by omega))
            go_round
            case rel => exact ⟨k + 1, by omega, by go_num, hN⟩
            case measure => simp [intOf]; omega
          · have hbf : b = false := by rw [← HB.out]; exact pIn_no_at (by rw [HL.out]; exact hlt) (by rw [HX.out]; exact hin)
            subst hbf
            have HN := Lib.hid hin
            clear hin
            go_wp2_with (go_at_call 55; refine (within_no _ _ _ (by omega) (by omega) HN.out).mono ?_; rintro e w' ⟨rfl, rfl⟩)
            go_ret
            exact ⟨rfl, HQ.out⟩
        · have hbt : b = true := by
            rw [← HB.out]
            exact pIn_true.2 ⟨by rw [HL.out]; omega, HSo.out, fun j h => HR.out j (by rw [HL.out] at h; omega)⟩
          subst hbt
          go_wp2_with fail
          go_ret
          exact ⟨rfl, HQ.out⟩
    · have hbf : b = false := by
        rw [← HB.out]
        exact pIn_false.2 fun h => hso h.2.1
      subst hbf
      have HNo := Lib.hid hso
      clear hso
      go_enter Try.func23, Try.ntmps23
      go_wp2_with fail
      refine (isSorted_any _ _ _ _ _ HA.out hn false ⟨fun h => absurd h HNo.out, fun h => by cases h⟩).mono ?_
      rintro e w1 ⟨rfl, hq⟩
      have HQ : Hid (Drn w w1) := Lib.hid hq
      clear hq
      go_wp2_with fail
      go_ret
      exact ⟨rfl, HQ.out⟩
end Go.Proofs.Ytbfpllmoaooadaa
