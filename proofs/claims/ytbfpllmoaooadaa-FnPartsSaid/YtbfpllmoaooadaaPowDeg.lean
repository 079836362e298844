
/- spec.l6pDegree: the walk; the degree of two lists of power sums. -/
import Derived.Test.YtbfpllmoaooadaaPowArr
namespace Go.Proofs.Ytbfpllmoaooadaa
set_option linter.unusedVariables false
open Go.RowKit
/-- The degree to which two lists of power sums are equal. -/
def IsDeg (p q : Nat → Int) (d : Int) : Prop := -1 ≤ d ∧ d ≤ 6 ∧ (∀ j : Nat, (j : Int) ≤ d → p j = q j) ∧ (∀ j : Nat, (j : Int) = d + 1 → j ≤ 6 → p j ≠ q j)
theorem IsDeg.one {p q : Nat → Int} {d e : Int} (h : IsDeg p q d) (k : IsDeg p q e) : d = e := by
  have aux : ∀ {d e : Int}, IsDeg p q d → IsDeg p q e → ¬ d < e := fun {d e} h k hl => by
    obtain ⟨n, hn⟩ := Int.eq_ofNat_of_zero_le (show 0 ≤ d + 1 by have := h.1; omega)
    exact h.2.2.2 n (by omega) (by have := k.2.1; omega) (k.2.2.1 n (by omega))
  have h1 := aux h k
  have h2 := aux k h
  omega
theorem isDeg_ex (p q : Nat → Int) : ∃ d, IsDeg p q d := by
  have key : ∀ n : Nat, n ≤ 7 → (∃ d, IsDeg p q d) ∨ ∀ j : Nat, j < n → p j = q j := by
    intro n
    induction n with
    | zero => intro _; right; intro j hj; omega
    | succ n ih =>
      intro hn
      rcases ih (by omega) with h | h
      · exact Or.inl h
      · by_cases e : p n = q n
        · right
          intro j hj
          by_cases hjn : j = n
          · subst hjn; exact e
          · exact h j (by omega)
        · exact Or.inl ⟨(n : Int) - 1, by omega, by omega, fun j hj => h j (by omega), fun j hj _ => by
            obtain rfl : j = n := by omega
            exact e⟩
  rcases key 7 (Nat.le_refl _) with h | h
  · exact h
  · exact ⟨6, by omega, by omega, fun j hj => h j (by omega), fun j hj h6 => by omega⟩
set_option maxRecDepth 100000 in
set_option maxHeartbeats 800000 in
theorem l6pDegree_any (A : Option Addr) (n c : Nat) (xs : List Int) (A' : Option Addr) (n' c' : Nat) (ys : List Int) (w : World) (ha : Rd w w.heap.size A n xs) (hn : n ≤ 8) (hx : ∀ x ∈ xs, -50 ≤ x ∧ x ≤ 50)
    (ha' : Rd w w.heap.size A' n' ys) (hn' : n' ≤ 8) (hy : ∀ x ∈ ys, -50 ≤ x ∧ x ≤ 50) (d : Int) (hd : IsDeg (fun j => Nw.ps j xs) (fun j => Nw.ps j ys) d) :
    Calls Try.prog 64 #[.slice A n c, .slice A' n' c'] w (RetV w (.int .i64 d)) := by
  have HA := Lib.hid ha
  have HA' := Lib.hid ha'
  have HX := Lib.hid hx
  have HY := Lib.hid hy
  have HDG := Lib.hid hd
  clear ha ha' hx hy hd
  go_enter Try.func64, Try.ntmps64
  go_wp2_with fail
  go_loop [5] (fun i => ∃ (m : Nat) (x : Int), m ≤ 7 ∧ x = (m : Int) - 1 ∧ i = .int .i64 x ∧ Hid (∀ j, j < m → Nw.ps j xs = Nw.ps j ys)) (fun i => (7 - (intOf i + 1)).toNat)
  case atStart => exact ⟨0, -1, by omega, by omega, rfl, Lib.hid (fun j h => by omega)⟩
  case round =>
    obtain ⟨m, x, hm, hxm, rfl, HE⟩ := hrel
    by_cases h6 : x < 6
    · have hm6 : m ≤ 6 := by omega
      have d6 : decide (x < 6) = true := decide_eq_true h6
      have ex : x + 1 = (m : Int) := by omega
      have hw : IntKind.i64.wrap (x + 1) = (m : Int) := by rw [ex]; exact IntWalk.i64_in _ (by omega)
      have HM := Lib.hid hxm
      clear ex hxm
      by_cases he : Nw.ps m xs = Nw.ps m ys
      · have HEQ := Lib.hid he
        have db : (Nw.ps m xs == Nw.ps m ys) = true := by simpa using he
        clear he
        go_wp2_with fail
        refine (l6pSum_any _ _ _ _ _ _ HA.out hn HX.out hm6).mono ?_
        rintro e w1 ⟨rfl, rfl⟩
        go_wp2_with fail
        refine (l6pSum_any _ _ _ _ _ _ HA'.out hn' HY.out hm6).mono ?_
        rintro e w1 ⟨rfl, rfl⟩
        go_wp2_with fail
        have hN : Hid (∀ j, j < m + 1 → Nw.ps j xs = Nw.ps j ys) := Lib.hid (fun j h => by
          by_cases hj : j = m
          · subst hj; exact HEQ.out
          · exact HE.out j (by omega))
        go_round
        case rel => exact ⟨m + 1, (m : Int), by omega, by omega, by go_num, hN⟩
        case measure => have := HM.out; simp [intOf]; omega
      · have db : (Nw.ps m xs == Nw.ps m ys) = false := by simpa using he
        have hdx : d = x := by
          have h1 : IsDeg (fun j => Nw.ps j xs) (fun j => Nw.ps j ys) x := by
            have := HM.out
            exact ⟨by omega, by omega, fun j hj => HE.out j (by omega), fun j hj _ => by
              obtain rfl : j = m := by omega
              exact he⟩
          exact HDG.out.one h1
        have HD := Lib.hid hdx
        clear hdx he
        go_wp2_with fail
        refine (l6pSum_any _ _ _ _ _ _ HA.out hn HX.out hm6).mono ?_
        rintro e w1 ⟨rfl, rfl⟩
        go_wp2_with fail
        refine (l6pSum_any _ _ _ _ _ _ HA'.out hn' HY.out hm6).mono ?_
        rintro e w1 ⟨rfl, rfl⟩
        go_wp2_with fail
        go_ret
        exact ⟨ret_int HD.out.symm, rfl⟩
    · have d6 : decide (x < 6) = false := decide_eq_false h6
      have hdx : d = x := by
        have h1 : IsDeg (fun j => Nw.ps j xs) (fun j => Nw.ps j ys) x := ⟨by omega, by omega, fun j hj => HE.out j (by omega), fun j hj _ => by omega⟩
        exact HDG.out.one h1
      have HD := Lib.hid hdx
      clear hdx hxm
      go_wp2_with fail
      go_ret
      exact ⟨ret_int HD.out.symm, rfl⟩
end Go.Proofs.Ytbfpllmoaooadaa
