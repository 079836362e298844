
/- Bounds for rules that put numbers into bins: adjacent bins, descending order, first and fullest bin, for at most ten numbers; no program in sight. -/
import Derived.Test.YtbihdajoflaknaaPack
namespace Go.Proofs.Ytbihdajoflaknaa.Pk
set_option linter.unusedVariables false

/-- Each two bins beside each other hold more than one can. -/
def Adj (C : Int) : List (List Int) → Prop
  | b :: c :: l => C < tot b + tot c ∧ Adj C (c :: l)
  | _ => True
theorem adj_tot (C : Int) : ∀ bs : List (List Int), Adj C bs → (∀ b ∈ bs, 0 ≤ tot b) → ((bs.length / 2 : Nat) : Int) * (C + 1) ≤ tot bs.flatten
  | [], _, _ => by simp
  | [b], _, h => by have := h b (by simp); simpa using this
  | b :: c :: l, ha, h => by
    have ih := adj_tot C l (by
      match l, ha with
      | [], _ => trivial
      | d :: l', ha => exact ha.2.2) (fun x hx => h x (by simp [hx]))
    have h1 := ha.1
    have e : ((((b :: c :: l).length / 2 : Nat)) : Int) * (C + 1) = (((l.length / 2 : Nat)) : Int) * (C + 1) + (C + 1) := by
      have : (b :: c :: l).length / 2 = l.length / 2 + 1 := by simp only [List.length_cons]; omega
      rw [this, Int.natCast_add, Int.add_mul]; simp
    rw [e]
    simp only [List.flatten_cons, tot_append]
    omega
theorem adj_bound {bs : List (List Int)} {C : Int} {n : Nat} (hpk : Packs bs.flatten C n) (hC : 0 ≤ C) (hne : ∀ b ∈ bs, 0 < tot b) (ha : Adj C bs) : bs = [] ∨ bs.length + 1 ≤ 2 * n := by
  have hv := hpk.volume
  have ht := adj_tot C bs ha fun b hb => Int.le_of_lt (hne b hb)
  rcases Nat.lt_or_ge (bs.length / 2) n with h | h
  · right; omega
  · left
    have h1 : (n : Int) * C ≤ ((bs.length / 2 : Nat) : Int) * C := Int.mul_le_mul_of_nonneg_right (by omega) hC
    have h2 : ((bs.length / 2 : Nat) : Int) * (C + 1) = ((bs.length / 2 : Nat) : Int) * C + (bs.length / 2 : Nat) := by rw [Int.mul_add]; simp
    have h3 : bs.length / 2 = 0 := by omega
    match bs, hne, hv, h, h3 with
    | [], _, _, _, _ => rfl
    | [b], hne, hv, h, _ =>
      exfalso
      have := hne b (by simp)
      have hn : n = 0 := by simp at h; exact h
      subst hn
      simp at hv; omega
    | b :: c :: l, _, _, _, h3 => simp only [List.length_cons] at h3; omega

/-- Bins of one element, and the others. -/
def ones {α : Type} : List (List α) → List α
  | [] => []
  | [x] :: l => x :: ones l
  | _ :: l => ones l
def more {α : Type} : List (List α) → List (List α)
  | [] => []
  | [_] :: l => more l
  | b :: l => b :: more l
section
variable {α : Type}
theorem ones_one (x : α) (l : List (List α)) : ones ([x] :: l) = x :: ones l := rfl
theorem more_one (x : α) (l : List (List α)) : more ([x] :: l) = more l := rfl
theorem ones_many {b : List α} (h : b.length ≠ 1) (l : List (List α)) : ones (b :: l) = ones l := by
  match b, h with
  | [], _ => rfl
  | [x], h => simp at h
  | _ :: _ :: _, _ => rfl
theorem more_many {b : List α} (h : b.length ≠ 1) (l : List (List α)) : more (b :: l) = b :: more l := by
  match b, h with
  | [], _ => rfl
  | [x], h => simp at h
  | _ :: _ :: _, _ => rfl
theorem one_of_length {b : List α} (h : b.length = 1) : ∃ x, b = [x] := by
  match b, h with
  | [x], _ => exact ⟨x, rfl⟩
theorem ones_more_perm (bs : List (List α)) : (ones bs ++ (more bs).flatten).Perm bs.flatten := by
  induction bs with
  | nil => exact List.Perm.refl _
  | cons b l ih =>
    by_cases h : b.length = 1
    · obtain ⟨x, rfl⟩ := one_of_length h
      simpa [ones_one, more_one] using ih.cons x
    · rw [ones_many h, more_many h]
      simp only [List.flatten_cons]
      refine List.Perm.trans ?_ (ih.append_left b)
      rw [← List.append_assoc, ← List.append_assoc]
      exact List.perm_append_comm.append_right _
theorem ones_more_length (bs : List (List α)) : (ones bs).length + (more bs).length = bs.length := by
  induction bs with
  | nil => rfl
  | cons b l ih =>
    by_cases h : b.length = 1
    · obtain ⟨x, rfl⟩ := one_of_length h
      simp [ones_one, more_one]; omega
    · rw [ones_many h, more_many h]; simp; omega
theorem more_sub (bs : List (List α)) : List.Sublist (more bs) bs := by
  induction bs with
  | nil => exact List.Sublist.refl _
  | cons b l ih =>
    by_cases h : b.length = 1
    · obtain ⟨x, rfl⟩ := one_of_length h
      exact ih.cons _
    · rw [more_many h]; exact ih.cons_cons _
theorem mem_ones {bs : List (List α)} {x : α} (h : x ∈ ones bs) : [x] ∈ bs := by
  induction bs with
  | nil => simp [ones] at h
  | cons b l ih =>
    by_cases hb : b.length = 1
    · obtain ⟨y, rfl⟩ := one_of_length hb
      rw [ones_one] at h
      rcases List.mem_cons.1 h with rfl | h
      · simp
      · simp [ih h]
    · rw [ones_many hb] at h
      simp [ih h]
theorem more_two {bs : List (List α)} (hne : ∀ b ∈ bs, b ≠ []) : ∀ b ∈ more bs, 2 ≤ b.length := by
  induction bs with
  | nil => intro b hb; simp [more] at hb
  | cons c l ih =>
    intro b hb
    by_cases h : c.length = 1
    · obtain ⟨x, rfl⟩ := one_of_length h
      exact ih (fun d hd => hne d (by simp [hd])) b hb
    · rw [more_many h] at hb
      rcases List.mem_cons.1 hb with rfl | hb
      · have : b ≠ [] := hne b (by simp)
        have : b.length ≠ 0 := by simpa using this
        omega
      · exact ih (fun d hd => hne d (by simp [hd])) b hb
theorem ones_pairwise {R : List α → List α → Prop} {S : α → α → Prop} (hRS : ∀ x y, R [x] [y] → S x y) {bs : List (List α)} (h : bs.Pairwise R) : (ones bs).Pairwise S := by
  induction bs with
  | nil => exact List.Pairwise.nil
  | cons b l ih =>
    rw [List.pairwise_cons] at h
    by_cases hb : b.length = 1
    · obtain ⟨x, rfl⟩ := one_of_length hb
      rw [ones_one, List.pairwise_cons]
      exact ⟨fun y hy => hRS x y (h.1 _ (mem_ones hy)), ih h.2⟩
    · rw [ones_many hb]; exact ih h.2
theorem flatten_len {bs : List (List α)} {k : Nat} (h : ∀ b ∈ bs, k ≤ b.length) : bs.length * k ≤ bs.flatten.length := by
  induction bs with
  | nil => simp
  | cons b l ih =>
    have h1 := h b (by simp)
    have h2 := ih fun c hc => h c (by simp [hc])
    simp only [List.length_cons, List.flatten_cons, List.length_append, Nat.add_mul, Nat.one_mul]
    omega
end
theorem flatten_tot {bs : List (List Int)} {k : Int} (h : ∀ b ∈ bs, k ≤ tot b) : bs.length * k ≤ tot bs.flatten := by
  induction bs with
  | nil => simp
  | cons b l ih =>
    have h1 := h b (by simp)
    have h2 := ih fun c hc => h c (by simp [hc])
    have e : ((l.length + 1 : Nat) : Int) * k = l.length * k + k := by rw [Int.natCast_add, Int.add_mul]; simp
    simp only [List.length_cons, List.flatten_cons, tot_append]
    rw [e]; omega

/-- Descending order: when y opens a bin behind the bins bs, they are not too many. -/
theorem down_bound {bs : List (List Int)} {y C : Int} {n : Nat} (hne : ∀ b ∈ bs, b ≠ []) (hy : 0 < y) (hyC : y ≤ C) (hge : ∀ b ∈ bs, ∀ x ∈ b, y ≤ x) (hfull : ∀ b ∈ bs, C < tot b + y)
    (hlen : bs.flatten.length ≤ 9) (hpk : Packs (bs.flatten ++ [y]) C n) : 9 * (bs.length + 1) ≤ 11 * n + 6 := by
  have hperm : ((ones bs ++ ((more bs).flatten ++ [y]))).Perm (bs.flatten ++ [y]) := by
    rw [← List.append_assoc]; exact (ones_more_perm bs).append_right _
  have hmem : ∀ x ∈ ones bs ++ ((more bs).flatten ++ [y]), y ≤ x := by
    intro x hx
    rw [hperm.mem_iff] at hx
    simp only [List.mem_append, List.mem_flatten, List.mem_singleton] at hx
    rcases hx with ⟨b, hb, hxb⟩ | rfl
    · exact hge b hb x hxb
    · omega
  have hone : ∀ z ∈ ones bs, C < z + y := by
    intro z hz
    have := hfull _ (mem_ones hz)
    simpa using this
  have hlo := Packs.lones (ss := ones bs) (xs := (more bs).flatten ++ [y]) (hpk.perm hperm.symm) (fun x hx => by have := hmem x hx; omega)
    (by
      have : ∀ l : List Int, (∀ z ∈ l, C < z + y) → (∀ z ∈ l, y ≤ z) → l.Pairwise fun a b => C < a + b := by
        intro l
        induction l with
        | nil => intro _ _; exact List.Pairwise.nil
        | cons a l ih =>
          intro h1 h2
          rw [List.pairwise_cons]
          refine ⟨fun b hb => ?_, ih (fun z hz => h1 z (by simp [hz])) fun z hz => h2 z (by simp [hz])⟩
          have := h1 a (by simp)
          have := h2 b (by simp [hb])
          omega
      exact this _ hone fun z hz => hmem z (by simp [hz]))
    (fun z hz x hx => by
      have := hone z hz
      have := hmem x (by simp only [List.mem_append] at hx ⊢; exact .inr hx)
      omega)
  obtain ⟨hs, hpk2⟩ := hlo
  have hsl := ones_more_length bs
  have hm2 := flatten_len (k := 2) (more_two hne)
  have hpl := (ones_more_perm bs).length_eq
  simp only [List.length_append] at hpl
  generalize hS : (ones bs).length = s at *
  generalize hD : (more bs).length = d at *
  obtain ⟨m, hm⟩ : ∃ m, n = s + m := ⟨n - s, by omega⟩
  subst hm
  have em : s + m - s = m := by omega
  rw [em] at hpk2
  by_cases h3 : C < 3 * y
  · have hc := hpk2.count2 (fun x hx => by
      have := hmem x (by simp only [List.mem_append] at hx ⊢; exact .inr hx)
      omega) (by omega)
    simp only [List.length_append, List.length_singleton] at hc
    omega
  · have hv := hpk2.volume
    simp only [tot_append, tot_cons, tot_nil] at hv
    have hft := flatten_tot (k := C - y + 1) (bs := more bs) (fun b hb => by
      have := hfull b ((more_sub bs).subset hb)
      omega)
    rw [hD] at hft
    have e1 : (d : Int) * (C - y + 1) = d * (C - y) + d := by rw [Int.mul_add]; simp
    have e2 : (d : Int) * (C - y) = d * C - d * y := by rw [Int.mul_sub]
    have hd4 : d ≤ 4 := by omega
    -- all in sight now: d * C - d * y + d + y ≤ m * C
    have hC0 : 0 < C := by omega
    rcases Nat.lt_or_ge m d with hmd | hmd
    · exfalso
      have hm3 : m = 0 ∨ m = 1 ∨ m = 2 ∨ m = 3 := by omega
      have hd3 : d = 1 ∨ d = 2 ∨ d = 3 ∨ d = 4 := by omega
      rcases hm3 with rfl | rfl | rfl | rfl <;> rcases hd3 with rfl | rfl | rfl | rfl <;> simp at * <;> omega
    · rcases Nat.lt_or_ge d m with h | h
      · omega
      · have : d = m := by omega
        subst this
        have hd3 : d = 0 ∨ d = 1 ∨ 2 ≤ d := by omega
        rcases hd3 with rfl | rfl | h2
        · simp at hv; omega
        · simp at *; omega
        · omega
end Go.Proofs.Ytbihdajoflaknaa.Pk
