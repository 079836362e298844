
/- Digits of a number, both packages. -/
import Derived.Test.YtmakekolaclgnaaDoorApp
import Derived.Test.YtmakekolaclgnaaDoorLib
import Derived.Test.YtmakekolaclgnaaDoorIn
import Derived.Test.YtmakekolaclgnaaDoorDig
namespace Go.Proofs.YtmakekolaclgnaaDoor
set_option linter.unusedVariables false
open Go.RowKit

theorem tmod3 (v : Int) : -2 ≤ v.tmod 3 ∧ v.tmod 3 ≤ 2 ∧ (0 ≤ v → v.tmod 3 = v % 3) ∧ (v < 0 → v.tmod 3 = - ((-v) % 3)) := by
  rcases Int.le_total 0 v with h | h
  · rw [Int.tmod_eq_emod_of_nonneg h]; omega
  · have e : v.tmod 3 = - ((-v).tmod 3) := by rw [Int.neg_tmod, Int.neg_neg]
    rw [e, Int.tmod_eq_emod_of_nonneg (by omega)]; omega
theorem tdiv3 {v r : Int} (h : v = 3 * r) : v.tdiv 3 = r := by
  subst h
  exact Int.mul_tdiv_cancel_left r (by omega)
/-- A round of the loop, in the relation. -/
theorem dg_rel {W w w' : World} {A A' : Option Addr} {n c' : Nat} {pre : List Int} {v0 v d r : Int} (hv : v ≠ 0) (hd : d = Dg.bt v) (hr : r = Dg.rs v) (hp : Hid (pre ++ Dg.dg v = Dg.dg v0)) (hb : Hid (Below W.heap.size W w))
    (ho' : Own w' W.heap.size A' (n + 1) c' (pre ++ [d])) (hg : w.grownBy w' (blk A)) (hA : Hid (∀ g, blk A = some g → W.heap.size ≤ g)) :
    Own w' W.heap.size A' (n + 1) c' (pre ++ [d]) ∧ (pre ++ [d]) ++ Dg.dg r = Dg.dg v0 ∧ Below W.heap.size W w' := by
  subst hd hr
  refine ⟨ho', ?_, below_push hb.out hg hA.out⟩
  rw [← hp.out, Dg.dg_step hv]
  simp
set_option maxHeartbeats 400000 in
theorem l7Digits_any (v0 : Int) (w : World) (h1 : -1000000000 ≤ v0) (h2 : v0 ≤ 1000000000) :
    Calls Tryd.prog 30 #[.int .i64 v0] w (RetOwn w (Dg.dg v0)) := by
  go_enter Tryd.func30, Tryd.ntmps30
  go_wp2_with fail
  go_loopw [0, 3] (fun s o wr => ∃ (v : Int) (n : Nat) (A : Option Addr) (c : Nat) (pre : List Int), v.natAbs + n ≤ v0.natAbs ∧ s = .int .i64 v ∧ o = .slice A n c ∧ Own wr w.heap.size A n c pre ∧ pre ++ Dg.dg v = Dg.dg v0 ∧ Below w.heap.size w wr) (fun s _ _ => (intOf s).natAbs)
  case atStart => exact ⟨v0, 0, _, _, [], by omega, rfl, rfl, own_empty w, rfl, (Below.refl _ _).alloc (Nat.le_refl _) _⟩
  case round =>
    obtain ⟨v, n, A, c, pre, hvn, rfl, rfl, hown, hpre, hbw⟩ := hrel
    have H := Lib.hid hown
    have H2 := Lib.hid hbw
    have H3 := Lib.hid hpre
    have H4 := Lib.hid (fun g hg => (hown.lt g hg).1)
    clear hown hbw hpre
    by_cases hv : v = 0
    · subst hv
      go_wp2_with fail
      go_ret
      have := H3.out
      rw [Dg.dg_zero, List.append_nil] at this
      subst this
      exact ⟨_, _, _, rfl, H.out, H2.out⟩
    · have hv1 : (v != 0) = true := by simpa using hv
      have b1 : -1000000000 ≤ v := by omega
      have b2 : v ≤ 1000000000 := by omega
      have t3 := tmod3 (v + 1)
      obtain ⟨t, ht⟩ : ∃ t, (v + 1).tmod 3 = t := ⟨_, rfl⟩
      rw [ht] at t3
      obtain ⟨u1, u2, u3, u4⟩ := t3
      obtain ⟨u, hu⟩ : ∃ u, (t + 3) % 3 = u := ⟨_, rfl⟩
      have hu1 : 0 ≤ u := by omega
      have hu2 : u ≤ 2 := by omega
      have hbt : u - 1 = Dg.bt v := by unfold Dg.bt; omega
      have hrs : (v - (u - 1)).tdiv 3 = Dg.rs v := tdiv3 (by have := Dg.rs_eq v; omega)
      have hlt := Dg.rs_lt v hv
      obtain ⟨r, hr⟩ : ∃ r, Dg.rs v = r := ⟨_, rfl⟩
      rw [hr] at hrs hlt
      have HB := Lib.hid hbt
      have HR := Lib.hid hr
      clear hbt hr u3 u4
      go_wp2_with (at_builtin; refine wpList_push rfl _ _ _ rfl Tryd.underlying22 rfl H.out rfl (by omega) H2.out.size ?_; intro A' c' w' ho' hg' hb')
      have R := dg_rel hv HB.out HR.out.symm H3 H2 ho' hg' H4
      go_roundw
      case rel => exact ⟨r, n + 1, A', c', _, by omega, rfl, rfl, R⟩
      case measure => simp [intOf]; omega
set_option maxHeartbeats 400000 in
theorem signsOf_any (v0 : Int) (w : World) (h1 : -1000000000 ≤ v0) (h2 : v0 ≤ 1000000000) :
    Calls Tryd.prog 29 #[.int .i64 v0] w (RetOwn w (Dg.dg v0)) := by
  go_enter Tryd.func29, Tryd.ntmps29
  go_wp2_with fail
  go_loopw [0, 3] (fun s o wr => ∃ (v : Int) (n : Nat) (A : Option Addr) (c : Nat) (pre : List Int), v.natAbs + n ≤ v0.natAbs ∧ s = .int .i64 v ∧ o = .slice A n c ∧ Own wr w.heap.size A n c pre ∧ pre ++ Dg.dg v = Dg.dg v0 ∧ Below w.heap.size w wr) (fun s _ _ => (intOf s).natAbs)
  case atStart => exact ⟨v0, 0, _, _, [], by omega, rfl, rfl, own_empty w, rfl, (Below.refl _ _).alloc (Nat.le_refl _) _⟩
  case round =>
    obtain ⟨v, n, A, c, pre, hvn, rfl, rfl, hown, hpre, hbw⟩ := hrel
    have H := Lib.hid hown
    have H2 := Lib.hid hbw
    have H3 := Lib.hid hpre
    have H4 := Lib.hid (fun g hg => (hown.lt g hg).1)
    clear hown hbw hpre
    by_cases hv : v = 0
    · subst hv
      go_wp2_with fail
      go_ret
      have := H3.out
      rw [Dg.dg_zero, List.append_nil] at this
      subst this
      exact ⟨_, _, _, rfl, H.out, H2.out⟩
    · have hv1 : (v != 0) = true := by simpa using hv
      have b1 : -1000000000 ≤ v := by omega
      have b2 : v ≤ 1000000000 := by omega
      obtain ⟨u1, u2, u3, u4⟩ := tmod3 v
      have hlt := Dg.rs_lt v hv
      obtain ⟨r, hr⟩ : ∃ r, Dg.rs v = r := ⟨_, rfl⟩
      have hre := Dg.rs_eq v
      rw [hr] at hlt hre
      have HR := Lib.hid hr
      clear hr
      obtain ⟨t, ht⟩ : ∃ t, v.tmod 3 = t := ⟨_, rfl⟩
      rw [ht] at u1 u2 u3 u4
      have HE : Hid (3 * r + Dg.bt v = v) := hre
      clear hre
      rcases (show t = 2 ∨ t = -2 ∨ (t ≠ 2 ∧ t ≠ -2) from by omega) with rfl | rfl | ⟨n1, n2⟩
      · have HB : Hid (-1 = Dg.bt v) := by show (-1 : Int) = Dg.bt v; unfold Dg.bt; omega
        have hrs : (v + 1).tdiv 3 = r := tdiv3 (by have := HE.out; have := HB.out; omega)
        clear u3 u4
        go_wp2_with (at_builtin; refine wpList_push rfl _ _ _ rfl Tryd.underlying39 rfl H.out rfl (by omega) H2.out.size ?_; intro A' c' w' ho' hg' hb')
        have R := dg_rel hv HB.out HR.out.symm H3 H2 ho' hg' H4
        go_roundw
        case rel => exact ⟨r, n + 1, A', c', _, by omega, rfl, rfl, R⟩
        case measure => simp [intOf]; omega
      · have HB : Hid (1 = Dg.bt v) := by show (1 : Int) = Dg.bt v; unfold Dg.bt; omega
        have hrs : (v - 1).tdiv 3 = r := tdiv3 (by have := HE.out; have := HB.out; omega)
        clear u3 u4
        go_wp2_with (at_builtin; refine wpList_push rfl _ _ _ rfl Tryd.underlying39 rfl H.out rfl (by omega) H2.out.size ?_; intro A' c' w' ho' hg' hb')
        have R := dg_rel hv HB.out HR.out.symm H3 H2 ho' hg' H4
        go_roundw
        case rel => exact ⟨r, n + 1, A', c', _, by omega, rfl, rfl, R⟩
        case measure => simp [intOf]; omega
      · have HB : Hid (t = Dg.bt v) := by show t = Dg.bt v; unfold Dg.bt; omega
        have hrs : (v - t).tdiv 3 = r := tdiv3 (by have := HE.out; have := HB.out; omega)
        have m1 : (t == 2) = false := by simpa using n1
        have m2 : (t == -2) = false := by simpa using n2
        clear u3 u4 n1 n2
        go_wp2_with (at_builtin; refine wpList_push rfl _ _ _ rfl Tryd.underlying39 rfl H.out rfl (by omega) H2.out.size ?_; intro A' c' w' ho' hg' hb')
        have R := dg_rel hv HB.out HR.out.symm H3 H2 ho' hg' H4
        go_roundw
        case rel => exact ⟨r, n + 1, A', c', _, by omega, rfl, rfl, R⟩
        case measure => simp [intOf]; omega
end Go.Proofs.YtmakekolaclgnaaDoor
