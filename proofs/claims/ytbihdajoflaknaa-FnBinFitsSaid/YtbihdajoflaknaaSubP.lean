
/- Choices of a list as numbers, and the least number of bins out of all choices: the plain laws; no program in sight. -/
import Derived.Test.YtbihdajoflaknaaPack
import Derived.Test.YtbihdajoflaknaaLeastP
namespace Go.Proofs.Ytbihdajoflaknaa.Pk
set_option linter.unusedVariables false
/-- p is a part of s. -/
def Part (p s : Nat) : Prop := p &&& s = p
theorem and_half (a b : Nat) : (a &&& b) / 2 = (a / 2) &&& (b / 2) := by
  apply Nat.eq_of_testBit_eq
  intro i
  simp [Nat.testBit_div_two]
theorem and_low (a b : Nat) : (a &&& b) % 2 = (a % 2) * (b % 2) := by
  have h := Nat.and_mod_two_pow (a := a) (b := b) (n := 1)
  simp at h
  rw [h]
  rcases Nat.mod_two_eq_zero_or_one a with e | e <;> rcases Nat.mod_two_eq_zero_or_one b with f | f <;> simp [e, f]
theorem Part.half {p s : Nat} (h : Part p s) : Part (p / 2) (s / 2) ∧ p % 2 ≤ s % 2 := by
  unfold Part at h ⊢
  have h1 := congrArg (· / 2) h
  have h2 := congrArg (· % 2) h
  simp only [and_half, and_low] at h1 h2
  refine ⟨h1, ?_⟩
  rcases Nat.mod_two_eq_zero_or_one p with e | e <;> rcases Nat.mod_two_eq_zero_or_one s with f | f <;> simp [e, f] at h2 ⊢
theorem Part.mk {p s : Nat} (h : Part (p / 2) (s / 2)) (hl : p % 2 ≤ s % 2) : Part p s := by
  unfold Part at h ⊢
  have h1 : (p &&& s) / 2 = p / 2 := by rw [and_half, h]
  have h2 : (p &&& s) % 2 = p % 2 := by
    rw [and_low]
    rcases Nat.mod_two_eq_zero_or_one p with e | e <;> rcases Nat.mod_two_eq_zero_or_one s with f | f <;> simp [e, f] at hl ⊢
  omega
theorem Part.le : ∀ {p s : Nat}, Part p s → p ≤ s := fun {p s} h => by
  unfold Part at h
  rw [← h]
  exact Nat.and_le_right
theorem part_self (s : Nat) : Part s s := by unfold Part; exact Nat.and_self s
theorem part_zero (s : Nat) : Part 0 s := by unfold Part; exact Nat.zero_and s
theorem part_and (m s : Nat) : Part (m &&& s) s := by unfold Part; rw [Nat.and_assoc, Nat.and_self]
/-- The next part below. -/
theorem part_next : ∀ (n s p q : Nat), s ≤ n → Part p s → Part q s → q < p → q ≤ (p - 1) &&& s := by
  intro n
  induction n with
  | zero =>
    intro s p q hs hp _ hlt
    have := hp.le
    omega
  | succ n ih =>
    intro s p q hs hp hq hlt
    have hps := hp.le
    obtain ⟨hp1, hp0⟩ := hp.half
    obtain ⟨hq1, hq0⟩ := hq.half
    have e1 := and_half (p - 1) s
    have e2 := and_low (p - 1) s
    rcases Nat.mod_two_eq_zero_or_one p with e | e
    · -- p is even
      have hh : (p - 1) / 2 = p / 2 - 1 := by omega
      have hl : (p - 1) % 2 = 1 := by omega
      have := ih (s / 2) (p / 2) (q / 2) (by omega) hp1 hq1 (by omega)
      rw [hh] at e1
      rw [hl] at e2
      omega
    · have hh : (p - 1) / 2 = p / 2 := by omega
      rw [hh] at e1
      unfold Part at hp1
      rw [hp1] at e1
      omega
theorem and_lt {p s : Nat} (h : 0 < p) : (p - 1) &&& s < p := by
  have : (p - 1) &&& s ≤ p - 1 := Nat.and_le_left
  omega
/-- The numbers of a choice. -/
def sel : List Int → Nat → List Int
  | [], _ => []
  | x :: a, s => if s % 2 = 1 then x :: sel a (s / 2) else sel a (s / 2)
theorem sel_zero (a : List Int) : sel a 0 = [] := by
  induction a with
  | nil => rfl
  | cons x a ih => simp [sel, ih]
theorem sel_len : ∀ (a : List Int) (s : Nat), (sel a s).length ≤ a.length
  | [], _ => Nat.le_refl _
  | x :: a, s => by
    have := sel_len a (s / 2)
    unfold sel
    split <;> simp <;> omega
theorem sel_mem : ∀ (a : List Int) (s : Nat), ∀ x ∈ sel a s, x ∈ a
  | [], _, x, h => by simp [sel] at h
  | y :: a, s, x, h => by
    unfold sel at h
    split at h
    · rcases List.mem_cons.1 h with rfl | h
      · simp
      · simp [sel_mem a _ x h]
    · simp [sel_mem a _ x h]
theorem sel_ne : ∀ (a : List Int) (s : Nat), 0 < s → s < 2 ^ a.length → sel a s ≠ []
  | [], s, h0, h => by simp at h; omega
  | x :: a, s, h0, h => by
    unfold sel
    split
    · simp
    · refine sel_ne a (s / 2) (by omega) ?_
      rw [List.length_cons, Nat.pow_succ] at h
      omega
theorem sel_all : ∀ (a : List Int), sel a (2 ^ a.length - 1) = a
  | [] => rfl
  | x :: a => by
    have hp : 0 < 2 ^ a.length := Nat.pow_pos (by omega)
    unfold sel
    rw [List.length_cons, Nat.pow_succ, if_pos (by omega), show (2 ^ a.length * 2 - 1) / 2 = 2 ^ a.length - 1 by omega, sel_all a]
/-- A part and the rest. -/
theorem sel_split : ∀ (a : List Int) {p s : Nat}, Part p s → (sel a p ++ sel a (s - p)).Perm (sel a s)
  | [], _, _, _ => List.Perm.refl _
  | x :: a, p, s, h => by
    obtain ⟨h1, h0⟩ := h.half
    have hle := h.le
    have hle2 := h1.le
    have ih := sel_split a h1
    have e1 : (s - p) / 2 = s / 2 - p / 2 := by omega
    have e0 : (s - p) % 2 = s % 2 - p % 2 := by omega
    unfold sel
    rw [e1, e0]
    rcases Nat.mod_two_eq_zero_or_one p with e | e <;> rcases Nat.mod_two_eq_zero_or_one s with f | f
    · simp [e, f]; exact ih
    · simp [e, f]; exact List.perm_middle.trans (ih.cons x)
    · omega
    · simp [e, f]; exact ih
/-- A choice out of an assignment: what is put into bin j. -/
theorem sel_of_bin (j : Nat) : ∀ (a : List Int) (s : Nat) (zs : List (Int × Nat)), zs.map Prod.fst = sel a s → ∃ p, Part p s ∧ sel a p = (zs.filter fun z => z.2 == j).map Prod.fst ∧ sel a (s - p) = (zs.filter fun z => !(z.2 == j)).map Prod.fst
  | [], s, zs, h => by
    have : zs = [] := by simpa [sel] using h
    subst this
    exact ⟨0, part_zero s, rfl, rfl⟩
  | x :: a, s, zs, h => by
    unfold sel at h
    rcases Nat.mod_two_eq_zero_or_one s with f | f
    · rw [if_neg (by omega)] at h
      obtain ⟨p, h1, h2, h3⟩ := sel_of_bin j a (s / 2) zs h
      have hle := h1.le
      refine ⟨2 * p, Part.mk (by rw [show 2 * p / 2 = p by omega]; exact h1) (by omega), ?_, ?_⟩
      · unfold sel; rw [if_neg (by omega), show 2 * p / 2 = p by omega, h2]
      · unfold sel; rw [if_neg (by omega), show (s - 2 * p) / 2 = s / 2 - p by omega, h3]
    · rw [if_pos f] at h
      cases zs with
      | nil => simp at h
      | cons z zs =>
        simp only [List.map_cons, List.cons.injEq] at h
        obtain ⟨e, h⟩ := h
        obtain ⟨p, h1, h2, h3⟩ := sel_of_bin j a (s / 2) zs h
        have hle := h1.le
        by_cases hz : z.2 = j
        · refine ⟨2 * p + 1, Part.mk (by rw [show (2 * p + 1) / 2 = p by omega]; exact h1) (by omega), ?_, ?_⟩
          · unfold sel; rw [if_pos (by omega), show (2 * p + 1) / 2 = p by omega, h2]; simp [hz, e]
          · unfold sel; rw [if_neg (by omega), show (s - (2 * p + 1)) / 2 = s / 2 - p by omega, h3]; simp [hz]
        · refine ⟨2 * p, Part.mk (by rw [show 2 * p / 2 = p by omega]; exact h1) (by omega), ?_, ?_⟩
          · unfold sel; rw [if_neg (by omega), show 2 * p / 2 = p by omega, h2]; simp [hz]
          · unfold sel; rw [if_pos (by omega), show (s - 2 * p) / 2 = s / 2 - p by omega, h3]; simp [hz, e]
/-- One bin more. -/
theorem packs_more {a : List Int} {p s m : Nat} {C : Int} (hC : 0 ≤ C) (hp : Part p s) (ht : tot (sel a p) ≤ C) (h : Packs (sel a (s - p)) C m) : Packs (sel a s) C (m + 1) := by
  refine Packs.perm ?_ (sel_split a hp)
  obtain ⟨zs, h1, h2, h3⟩ := h
  have hl : ∀ (l : List Int) (j : Nat), load j (l.map fun x => (x, m)) = if j = m then tot l else 0 := by
    intro l j
    induction l with
    | nil => simp
    | cons x l ih =>
      rw [List.map_cons, load_cons, ih]
      by_cases e : j = m
      · subst e; simp
      · rw [if_neg (by show ¬ m = j; omega), if_neg e, if_neg e]; omega
  refine ⟨(sel a p).map (fun x => (x, m)) ++ zs, by simp [h1, Function.comp_def], ?_, fun j hj => ?_⟩
  · intro z hz
    rcases List.mem_append.1 hz with hz | hz
    · obtain ⟨x, _, rfl⟩ := List.mem_map.1 hz
      show m < m + 1
      omega
    · have := h2 z hz; omega
  · rw [load_append, hl]
    by_cases e : j = m
    · subst e
      have h0 : load j zs = 0 := by
        unfold load
        have : zs.filter (fun z => z.2 == j) = [] := by
          rw [List.filter_eq_nil_iff]
          intro z hz
          have := h2 z hz
          simp; omega
        rw [this]; rfl
      rw [if_pos rfl, h0]; omega
    · rw [if_neg e]
      have := h3 j (by omega)
      omega
/-- Two bins change their names. -/
theorem packs_name {zs : List (Int × Nat)} {C : Int} {m k : Nat} (hk : k < m + 1) (h2 : ∀ z ∈ zs, z.2 < m + 1) (h3 : ∀ j, j < m + 1 → load j zs ≤ C) :
    ∃ ws : List (Int × Nat), ws.map Prod.fst = zs.map Prod.fst ∧ (∀ z ∈ ws, z.2 < m + 1) ∧ (∀ j, j < m + 1 → load j ws ≤ C) ∧ ∀ x, (x, k) ∈ zs → (x, m) ∈ ws := by
  let g : Nat → Nat := fun j => if j = k then m else if j = m then k else j
  have gg : ∀ j, g (g j) = j := by
    intro j
    show (if (if j = k then m else if j = m then k else j) = k then m else if (if j = k then m else if j = m then k else j) = m then k else (if j = k then m else if j = m then k else j)) = j
    split <;> split <;> (try split) <;> omega
  have gl : ∀ j, j < m + 1 → g j < m + 1 := by
    intro j hj
    show (if j = k then m else if j = m then k else j) < m + 1
    split
    · omega
    · split <;> omega
  have hl : ∀ (l : List (Int × Nat)) (j : Nat), load j (l.map fun z => (z.1, g z.2)) = load (g j) l := by
    intro l j
    induction l with
    | nil => rfl
    | cons z l ih =>
      rw [List.map_cons, load_cons, load_cons, ih]
      by_cases e : z.2 = g j
      · rw [if_pos (by show g z.2 = j; rw [e, gg]), if_pos e]
      · rw [if_neg (by show ¬ g z.2 = j; intro e2; apply e; rw [← e2, gg]), if_neg e]
  refine ⟨zs.map fun z => (z.1, g z.2), by simp [Function.comp_def], ?_, fun j hj => by rw [hl]; exact h3 _ (gl j hj), fun x hx => ?_⟩
  · intro z hz
    obtain ⟨y, hy, rfl⟩ := List.mem_map.1 hz
    exact gl _ (h2 y hy)
  · refine List.mem_map.2 ⟨(x, k), hx, ?_⟩
    show (x, if k = k then m else if k = m then k else k) = (x, m)
    rw [if_pos rfl]
/-- One bin fewer. -/
theorem packs_less {a : List Int} {s m : Nat} {C : Int} (hs : sel a s ≠ []) (h : Packs (sel a s) C m) : ∃ p, Part p s ∧ 0 < p ∧ tot (sel a p) ≤ C ∧ 1 ≤ m ∧ Packs (sel a (s - p)) C (m - 1) := by
  obtain ⟨zs, h1, h2, h3⟩ := h
  cases zs with
  | nil => exact absurd h1.symm (by simpa using hs)
  | cons z zs =>
    have hz := h2 z (by simp)
    obtain ⟨n, rfl⟩ : ∃ n, m = n + 1 := ⟨m - 1, by omega⟩
    obtain ⟨ws, w1, w2, w3, w4⟩ := packs_name hz h2 h3
    rw [h1] at w1
    obtain ⟨p, p1, p2, p3⟩ := sel_of_bin n a s ws w1
    have hmem := w4 z.1 (by simp)
    refine ⟨p, p1, ?_, ?_, by omega, ?_⟩
    · rcases Nat.eq_zero_or_pos p with e | e
      · subst e
        rw [sel_zero] at p2
        have : z.1 ∈ (ws.filter fun z => z.2 == n).map Prod.fst := List.mem_map.2 ⟨(z.1, n), List.mem_filter.2 ⟨hmem, by simp⟩, rfl⟩
        rw [← p2] at this
        simp at this
      · exact e
    · rw [p2]; exact w3 n (by omega)
    · rw [show n + 1 - 1 = n by omega]
      refine ⟨ws.filter fun z => !(z.2 == n), p3.symm, ?_, fun j hj => ?_⟩
      · intro y hy
        obtain ⟨hy1, hy2⟩ := List.mem_filter.1 hy
        have := w2 y hy1
        simp at hy2
        omega
      · have e : load j (ws.filter fun z => !(z.2 == n)) = load j ws := by
          unfold load
          rw [List.filter_filter]
          refine congrArg (fun l => tot (List.map Prod.fst l)) (List.filter_congr fun z _ => ?_)
          by_cases e : z.2 = j
          · simp [e]; omega
          · simp [e]
        rw [e]
        exact w3 j (by omega)
/-- The better of all numbers and of a part and the least number for the rest, the parts above q tried. -/
def DpTo (C : Int) (a : List Int) (L : Nat → Nat) (s q v : Nat) : Prop := v ≤ a.length ∧ (v = a.length ∨ ∃ p, Part p s ∧ 0 < p ∧ tot (sel a p) ≤ C ∧ v = 1 + L (s - p)) ∧ ∀ p, Part p s → q < p → tot (sel a p) ≤ C → v ≤ 1 + L (s - p)
theorem dpTo_zero (C : Int) (a : List Int) (L : Nat → Nat) (s : Nat) : DpTo C a L s s a.length := ⟨Nat.le_refl _, Or.inl rfl, fun p hp hq => by have := hp.le; omega⟩
theorem DpTo.skip {C : Int} {a : List Int} {L : Nat → Nat} {s q v : Nat} (h : DpTo C a L s q v) (hq : Part q s) (h0 : 0 < q) (ht : ¬ tot (sel a q) ≤ C) : DpTo C a L s ((q - 1) &&& s) v :=
  ⟨h.1, h.2.1, fun p hp hlt hC => by
    by_cases e : q < p
    · exact h.2.2 p hp e hC
    · by_cases e2 : p = q
      · subst e2; exact absurd hC ht
      · have := part_next s s q p (Nat.le_refl _) hq hp (by omega)
        omega⟩
theorem DpTo.step {C : Int} {a : List Int} {L : Nat → Nat} {s q v : Nat} (h : DpTo C a L s q v) (hq : Part q s) (h0 : 0 < q) (ht : tot (sel a q) ≤ C) : DpTo C a L s ((q - 1) &&& s) (min v (1 + L (s - q))) := by
  refine ⟨Nat.le_trans (Nat.min_le_left _ _) h.1, ?_, fun p hp hlt hC => ?_⟩
  · by_cases e : v ≤ 1 + L (s - q)
    · rw [Nat.min_eq_left e]; exact h.2.1
    · rw [Nat.min_eq_right (by omega)]; exact Or.inr ⟨q, hq, h0, ht, rfl⟩
  · by_cases e : q < p
    · exact Nat.le_trans (Nat.min_le_left _ _) (h.2.2 p hp e hC)
    · by_cases e2 : p = q
      · subst e2; exact Nat.min_le_right _ _
      · have := part_next s s q p (Nat.le_refl _) hq hp (by omega)
        omega
theorem DpTo.done {C : Int} {a : List Int} {L : Nat → Nat} {s v : Nat} (h : DpTo C a L s 0 v) (h0 : 0 < s) (hs : s < 2 ^ a.length) (ha : ∀ x ∈ a, 0 ≤ x ∧ x ≤ C) (hC : 0 ≤ C) (hL : ∀ t, t < s → IsLeast C (sel a t) (L t)) : IsLeast C (sel a s) v := by
  refine ⟨?_, fun m hm => ?_⟩
  · rcases h.2.1 with e | ⟨p, hp, hp0, ht, e⟩
    · rw [e]
      have h1 : ∀ x ∈ sel a s, 0 ≤ x ∧ x ≤ C := fun x hx => ha x (sel_mem a s x hx)
      exact ((can_packs (fun x hx => (h1 x hx).1)).1 (packs_len _ h1)).mono hC (sel_len a s)
    · have hle := hp.le
      rw [e, Nat.add_comm]
      exact packs_more hC hp ht (hL (s - p) (by omega)).1
  · obtain ⟨p, hp, hp0, ht, hm1, hr⟩ := packs_less (sel_ne a s h0 hs) hm
    have hle := hp.le
    have h1 := (hL (s - p) (by omega)).2 _ hr
    have h2 := h.2.2 p hp hp0 ht
    omega
theorem least_zero (C : Int) (a : List Int) : IsLeast C (sel a 0) 0 := by
  rw [sel_zero]
  exact ⟨⟨[], rfl, by simp, fun j hj => by omega⟩, fun m _ => by omega⟩
/-- The sum of a choice, number by number. -/
theorem sel_take : ∀ (a : List Int) (s i : Nat), i < a.length → tot (sel (a.take (i + 1)) s) = tot (sel (a.take i) s) + ((s / 2 ^ i % 2 : Nat) : Int) * a.getD i 0
  | x :: a, s, 0, _ => by
    simp only [List.take_succ_cons, List.take_zero, sel, Nat.pow_zero, Nat.div_one, List.getD_cons_zero]
    rcases Nat.mod_two_eq_zero_or_one s with e | e <;> simp [e]
  | x :: a, s, i + 1, h => by
    have ih := sel_take a (s / 2) i (by simp at h; omega)
    simp only [List.take_succ_cons, sel, List.getD_cons_succ]
    rw [Nat.pow_succ, Nat.mul_comm (2 ^ i) 2, ← Nat.div_div_eq_div_mul]
    split
    · simp only [tot_cons]
      rw [ih]; omega
    · exact ih
end Go.Proofs.Ytbihdajoflaknaa.Pk
