
/- spec.l6pSum, and the arrays of power sums. -/
import Derived.Test.YtbfpllmoaooadaaPowIn
import Derived.Test.YtbfpllmoaooadaaNewt
namespace Go.Proofs.Ytbfpllmoaooadaa
set_option linter.unusedVariables false
open Go.RowKit
theorem pow_bound {x : Int} (h1 : -50 ≤ x) (h2 : x ≤ 50) {j : Nat} (hj : j ≤ 7) : -781250000000 ≤ x ^ j ∧ x ^ j ≤ 781250000000 := by
  have ha : x.natAbs ≤ 50 := by omega
  have hp : (x ^ j).natAbs ≤ 50 ^ 7 := by
    rw [Int.natAbs_pow]
    exact Nat.le_trans (Nat.pow_le_pow_left ha j) (Nat.pow_le_pow_right (by omega) hj)
  have : (50 : Nat) ^ 7 = 781250000000 := by decide
  omega
theorem ps_bound {k : Nat} (hk : k ≤ 7) : ∀ {l : List Int}, (∀ x ∈ l, -50 ≤ x ∧ x ≤ 50) → -(781250000000 * l.length) ≤ Nw.ps k l ∧ Nw.ps k l ≤ 781250000000 * l.length
  | [], _ => by simp
  | x :: l, h => by
    have h1 := pow_bound (h x (by simp)).1 (h x (by simp)).2 hk
    have h2 := ps_bound hk (l := l) (fun y hy => h y (by simp [hy]))
    rw [Nw.ps_cons, List.length_cons]
    omega
theorem ps_bound8 {k : Nat} (hk : k ≤ 7) {l : List Int} (hl : l.length ≤ 8) (h : ∀ x ∈ l, -50 ≤ x ∧ x ≤ 50) : -6250000000000 ≤ Nw.ps k l ∧ Nw.ps k l ≤ 6250000000000 := by
  have := ps_bound hk h
  omega
theorem ps_take {xs : List Int} {k : Nat} (h : k < xs.length) (j : Nat) : Nw.ps j (xs.take (k + 1)) = Nw.ps j (xs.take k) + xs.getD k 0 ^ j := by
  rw [take_succ_getD h, Nw.ps_append]; simp
theorem PIn.all {xs : List Int} (h : PIn xs) : ∀ x ∈ xs, -50 ≤ x ∧ x ≤ 50 := all_of_getD h.2.2
set_option maxRecDepth 100000 in
set_option maxHeartbeats 800000 in
theorem l6pSum_any (A : Option Addr) (n c : Nat) (xs : List Int) (m : Nat) (w : World) (ha : Rd w w.heap.size A n xs) (hn : n ≤ 8) (hx : ∀ x ∈ xs, -50 ≤ x ∧ x ≤ 50) (hm : m ≤ 6) :
    Calls Try.prog 61 #[.slice A n c, .int .i64 m] w (RetV w (.int .i64 (Nw.ps m xs))) := by
  have HA := Lib.hid ha
  have HL := Lib.hid ha.len
  have HX := Lib.hid hx
  clear ha hx
  go_enter Try.func61, Try.ntmps61
  go_wp2_with fail
  go_loop [5, 6] (fun s i => ∃ (k : Nat), k ≤ n ∧ i = .int .i64 k ∧ s = .int .i64 (Nw.ps m (xs.take k))) (fun _ i => n - (intOf i).toNat)
  case atStart => exact ⟨0, by omega, by go_num, by simp⟩
  case round =>
    obtain ⟨k, hk, rfl, rfl⟩ := hrel
    have hb := ps_bound8 (k := m) (by omega) (l := xs.take k) (by rw [List.length_take]; omega) (fun x hx => HX.out x (List.mem_of_mem_take hx))
    have hT : k < n → Hid (Nw.ps m (xs.take (k + 1)) = Nw.ps m (xs.take k) + xs.getD k 0 ^ m) := fun h => Lib.hid (ps_take (by rw [HL.out]; exact h) m)
    have hE : ¬ k < n → Hid (Nw.ps m (xs.take k) = Nw.ps m xs) := fun h => Lib.hid (by rw [List.take_of_length_le (by rw [HL.out]; omega)])
    obtain ⟨S, hS⟩ : ∃ S, Nw.ps m (xs.take k) = S := ⟨_, rfl⟩
    rw [hS] at hb hT hE ⊢
    clear hS
    obtain ⟨s1, s2⟩ := hb
    by_cases hlt : k < n
    · have hltz : (k : Int) < (n : Int) := by omega
      have dv : decide ((k : Int) < (n : Int)) = true := decide_eq_true hltz
      have HT := hT hlt
      clear hT hE
      obtain ⟨b1, o1, rfl, hb1, hcc⟩ := HA.out.at_ hlt
      have g1 := hcc k hlt
      have hr := HX.out _ (getD_mem (xs := xs) (k := k) (by rw [HL.out]; exact hlt))
      obtain ⟨x, hx⟩ : ∃ x, xs.getD k 0 = x := ⟨_, rfl⟩
      rw [hx] at g1 hr HT
      clear hx hcc
      obtain ⟨r1, r2⟩ := hr
      have k0 : (0 : Int) ≤ (k : Int) := by omega
      have k3 : ((k : Int)).toNat = k := by omega
      go_wp2_with fail
      go_loop [7, 8] (fun p j => ∃ (i : Nat), i ≤ m ∧ j = .int .i64 i ∧ p = .int .i64 (x ^ i)) (fun _ j => m - (intOf j).toNat)
      case atStart => exact ⟨0, by omega, by go_num, by simp⟩
      case round =>
        obtain ⟨i, hi, rfl, rfl⟩ := hrel
        have hp := pow_bound r1 r2 (j := i) (by omega)
        have hp1 := pow_bound r1 r2 (j := i + 1) (by omega)
        rw [Int.pow_succ] at hp1
        have hpE : Hid (x ^ (i + 1) = x ^ i * x) := Lib.hid (Int.pow_succ _ _)
        have hmE : ¬ i < m → Hid (x ^ i = x ^ m) := fun h => Lib.hid (by rw [show i = m by omega])
        obtain ⟨P, hP⟩ : ∃ P, x ^ i = P := ⟨_, rfl⟩
        rw [hP] at hp hp1 hpE hmE ⊢
        clear hP
        obtain ⟨p1, p2⟩ := hp
        by_cases him : i < m
        · have himz : (i : Int) < (m : Int) := by omega
          have hw : IntKind.i64.wrap (P * x) = P * x := IntWalk.i64_in _ (by omega)
          clear hp1
          go_wp2_with fail
          go_round
          case rel => exact ⟨i + 1, by omega, by go_num, by rw [hpE.out]⟩
          case measure => simp [intOf]; omega
        · have HM := hmE him
          clear hp1 hmE
          have himz : ¬ (i : Int) < (m : Int) := by omega
          go_wp2_with fail
          go_round
          case rel => exact ⟨k + 1, by omega, by go_num, by rw [HT.out, HM.out]⟩
          case measure => simp [intOf]; omega
    · have HE := hE hlt
      clear hE hT
      go_wp2_with fail
      go_ret
      exact ⟨ret_int HE.out, rfl⟩
end Go.Proofs.Ytbfpllmoaooadaa
