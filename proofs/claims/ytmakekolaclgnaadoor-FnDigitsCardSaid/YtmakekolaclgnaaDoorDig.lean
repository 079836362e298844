
/- Numbers by digits -1, 0, 1 to the base 3: digits of a number, the number of digits, there and back; no program in sight. -/
namespace Go.Proofs.YtmakekolaclgnaaDoor.Dg
set_option linter.unusedVariables false

/-- The last digit. -/
def bt (v : Int) : Int := (v + 1) % 3 - 1
theorem bt_range (v : Int) : -1 ≤ bt v ∧ bt v ≤ 1 := by unfold bt; omega
/-- What is left. -/
def rs (v : Int) : Int := (v - bt v) / 3
theorem rs_eq (v : Int) : 3 * rs v + bt v = v := by unfold rs bt; omega
theorem rs_lt (v : Int) (h : v ≠ 0) : (rs v).natAbs < v.natAbs := by unfold rs bt; omega
def dgf : Nat → Int → List Int
  | 0, _ => []
  | f + 1, v => if v = 0 then [] else bt v :: dgf f (rs v)
/-- The digits of a number. -/
def dg (v : Int) : List Int := dgf v.natAbs v
theorem dgf_eq : ∀ (f g : Nat) (v : Int), v.natAbs ≤ f → v.natAbs ≤ g → dgf f v = dgf g v
  | 0, 0, _, _, _ => rfl
  | 0, g + 1, v, h, _ => by
    have : v = 0 := by omega
    simp [dgf, this]
  | f + 1, 0, v, _, h => by
    have : v = 0 := by omega
    simp [dgf, this]
  | f + 1, g + 1, v, h1, h2 => by
    by_cases h : v = 0
    · simp [dgf, h]
    · simp only [dgf, if_neg h]
      have := rs_lt v h
      rw [dgf_eq f g (rs v) (by omega) (by omega)]
theorem dg_zero : dg 0 = [] := rfl
theorem dg_step {v : Int} (h : v ≠ 0) : dg v = bt v :: dg (rs v) := by
  unfold dg
  have h1 := rs_lt v h
  obtain ⟨f, hf⟩ : ∃ f, v.natAbs = f + 1 := ⟨v.natAbs - 1, by omega⟩
  rw [hf]
  simp only [dgf, if_neg h]
  rw [dgf_eq f (rs v).natAbs (rs v) (by omega) (by omega)]
theorem dg_ind {P : Int → Prop} (h0 : P 0) (hs : ∀ v, v ≠ 0 → P (rs v) → P v) (v : Int) : P v := by
  suffices h : ∀ n : Nat, ∀ v : Int, v.natAbs ≤ n → P v from h v.natAbs v (Nat.le_refl _)
  intro n
  induction n with
  | zero => intro v hv; have : v = 0 := by omega
            rw [this]; exact h0
  | succ n ih =>
    intro v hv
    by_cases h : v = 0
    · rw [h]; exact h0
    · have := rs_lt v h
      exact hs v h (ih _ (by omega))
/-- The number of digits. -/
def nm : List Int → Int
  | [] => 0
  | d :: l => 3 * nm l + d
theorem nm_dg (v : Int) : nm (dg v) = v := by
  induction v using dg_ind with
  | h0 => rfl
  | hs v h ih => rw [dg_step h, nm, ih]; exact rs_eq v
theorem dg_digit (v : Int) : ∀ d ∈ dg v, -1 ≤ d ∧ d ≤ 1 := by
  induction v using dg_ind with
  | h0 => simp [dg_zero]
  | hs v h ih =>
    rw [dg_step h]
    intro d hd
    rcases List.mem_cons.1 hd with rfl | hd
    · exact bt_range v
    · exact ih d hd
theorem dg_last (v : Int) : dg v ≠ [] → (dg v).getLast? ≠ some 0 := by
  induction v using dg_ind with
  | h0 => simp [dg_zero]
  | hs v h ih =>
    intro _
    rw [dg_step h]
    by_cases hr : rs v = 0
    · have := rs_eq v
      rw [hr] at this
      rw [hr, dg_zero]
      simp
      omega
    · rw [dg_step hr] at ih ⊢
      rw [List.getLast?_cons_cons]
      exact ih (by simp)
theorem dg_neg (v : Int) : dg (0 - v) = (dg v).map (fun d => 0 - d) := by
  induction v using dg_ind with
  | h0 => rfl
  | hs v h ih =>
    rw [dg_step h, dg_step (v := 0 - v) (by omega)]
    have e1 : bt (0 - v) = 0 - bt v := by unfold bt; omega
    have e2 : rs (0 - v) = 0 - rs v := by unfold rs bt; omega
    rw [e1, e2, ih]; rfl
/-- Digits of the number of digits. -/
theorem dg_nm : ∀ (l : List Int), (∀ d ∈ l, -1 ≤ d ∧ d ≤ 1) → l.getLast? ≠ some 0 → dg (nm l) = l
  | [], _, _ => rfl
  | [d], h, hl => by
    have h1 := h d (by simp)
    have h2 : d ≠ 0 := by simpa using hl
    have : d = 1 ∨ d = -1 := by omega
    rcases this with rfl | rfl <;> rfl
  | d :: e :: l, h, hl => by
    have h1 := h d (by simp)
    have ih := dg_nm (e :: l) (fun x hx => h x (by simp only [List.mem_cons] at hx ⊢; exact .inr hx)) (by rwa [List.getLast?_cons_cons] at hl)
    have hne : nm (e :: l) ≠ 0 := by
      intro h0
      rw [h0, dg_zero] at ih
      cases ih
    rw [nm, dg_step (v := 3 * nm (e :: l) + d) (by omega)]
    have e1 : bt (3 * nm (e :: l) + d) = d := by unfold bt; omega
    have e2 : rs (3 * nm (e :: l) + d) = nm (e :: l) := by unfold rs; rw [e1]; omega
    rw [e1, e2, ih]
theorem nm_range : ∀ (l : List Int), (∀ d ∈ l, -1 ≤ d ∧ d ≤ 1) → (nm l).natAbs * 2 + 1 ≤ 3 ^ l.length
  | [], _ => by simp [nm]
  | d :: l, h => by
    have h1 := h d (by simp)
    have ih := nm_range l fun x hx => h x (by simp [hx])
    rw [nm, List.length_cons, Nat.pow_succ]
    omega
theorem odd3 (n : Nat) : 3 ^ n % 2 = 1 := by
  induction n with
  | zero => rfl
  | succ n ih => rw [Nat.pow_succ]; omega
theorem dg_len : ∀ (n : Nat) (v : Int), v.natAbs * 2 + 1 ≤ 3 ^ n → (dg v).length ≤ n
  | 0, v, h => by
    have : v = 0 := by simp at h; omega
    simp [this, dg_zero]
  | n + 1, v, h => by
    by_cases hv : v = 0
    · simp [hv, dg_zero]
    · rw [dg_step hv]
      have := dg_len n (rs v) (by
        rw [Nat.pow_succ] at h
        have h1 := rs_eq v
        have h2 := bt_range v
        have h3 := odd3 n
        omega)
      simp; omega
end Go.Proofs.YtmakekolaclgnaaDoor.Dg
