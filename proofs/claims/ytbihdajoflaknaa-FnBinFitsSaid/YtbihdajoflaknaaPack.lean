
/- Packing numbers into bins: assignments, their invariance, the removal of lone numbers, volume and count bounds; no program in sight. -/
namespace Go.Proofs.Ytbihdajoflaknaa.Pk
set_option linter.unusedVariables false

/-- The sum of a list. -/
def tot : List Int → Int
  | [] => 0
  | x :: l => x + tot l
@[simp] theorem tot_nil : tot [] = 0 := rfl
@[simp] theorem tot_cons (x : Int) (l : List Int) : tot (x :: l) = x + tot l := rfl
@[simp] theorem tot_append (a b : List Int) : tot (a ++ b) = tot a + tot b := by
  induction a with
  | nil => simp
  | cons x l ih => simp [ih]; omega
theorem tot_perm {a b : List Int} (h : a.Perm b) : tot a = tot b := by
  induction h with
  | nil => rfl
  | cons x _ ih => simp [ih]
  | swap x y l => simp; omega
  | trans _ _ h1 h2 => exact h1.trans h2
theorem tot_nonneg {l : List Int} (h : ∀ x ∈ l, 0 ≤ x) : 0 ≤ tot l := by
  induction l with
  | nil => simp
  | cons x l ih =>
    have h1 := h x (by simp)
    have h2 := ih fun y hy => h y (by simp [hy])
    simp; omega
theorem tot_ge_mem {l : List Int} (h : ∀ x ∈ l, 0 ≤ x) {x : Int} (hx : x ∈ l) : x ≤ tot l := by
  induction l with
  | nil => cases hx
  | cons y l ih =>
    have h2 : 0 ≤ tot l := tot_nonneg fun z hz => h z (by simp [hz])
    have h1 := h y (by simp)
    rcases List.mem_cons.1 hx with rfl | hm
    · simp; omega
    · have := ih (fun z hz => h z (by simp [hz])) hm
      simp; omega
theorem tot_ge_len {l : List Int} {k : Int} (h : ∀ x ∈ l, k ≤ x) : l.length * k ≤ tot l := by
  induction l with
  | nil => simp
  | cons x l ih =>
    have h1 := h x (by simp)
    have h2 := ih fun y hy => h y (by simp [hy])
    have e : ((l.length + 1 : Nat) : Int) * k = l.length * k + k := by
      rw [Int.natCast_add, Int.add_mul]; simp
    simp only [List.length_cons, tot_cons]
    rw [e]; omega

/-- The load of bin j under an assignment. -/
def load (j : Nat) (zs : List (Int × Nat)) : Int := tot ((zs.filter fun z => z.2 == j).map Prod.fst)
@[simp] theorem load_nil (j : Nat) : load j [] = 0 := rfl
theorem load_cons (j : Nat) (z : Int × Nat) (zs : List (Int × Nat)) : load j (z :: zs) = (if z.2 = j then z.1 else 0) + load j zs := by
  unfold load
  by_cases h : z.2 = j
  · simp [h]
  · simp [h]
theorem load_append (j : Nat) (a b : List (Int × Nat)) : load j (a ++ b) = load j a + load j b := by simp [load]
theorem load_perm {a b : List (Int × Nat)} (h : a.Perm b) (j : Nat) : load j a = load j b := tot_perm ((h.filter _).map _)
theorem load_nonneg {zs : List (Int × Nat)} (h : ∀ z ∈ zs, 0 ≤ z.1) (j : Nat) : 0 ≤ load j zs := by
  apply tot_nonneg
  intro x hx
  obtain ⟨z, hz, rfl⟩ := List.mem_map.1 hx
  exact h z (List.mem_filter.1 hz).1

/-- xs can be put into n bins of size C. -/
def Packs (xs : List Int) (C : Int) (n : Nat) : Prop := ∃ zs : List (Int × Nat), zs.map Prod.fst = xs ∧ (∀ z ∈ zs, z.2 < n) ∧ ∀ j, j < n → load j zs ≤ C

/-- A permutation of the first components lifts. -/
theorem lift_perm {a b : List Int} (h : a.Perm b) : ∀ zs : List (Int × Nat), zs.map Prod.fst = a → ∃ ws : List (Int × Nat), ws.Perm zs ∧ ws.map Prod.fst = b := by
  induction h with
  | nil => intro zs hz; exact ⟨zs, List.Perm.refl _, hz⟩
  | cons x _ ih =>
    intro zs hz
    match zs, hz with
    | z :: zs', hz =>
      simp at hz
      obtain ⟨ws, h1, h2⟩ := ih zs' hz.2
      exact ⟨z :: ws, h1.cons z, by simp [h2, hz.1]⟩
  | swap x y l =>
    intro zs hz
    match zs, hz with
    | z :: z' :: zs', hz =>
      simp at hz
      exact ⟨z' :: z :: zs', List.Perm.swap _ _ _, by simp [hz]⟩
  | trans _ _ ih1 ih2 =>
    intro zs hz
    obtain ⟨ws, h1, h2⟩ := ih1 zs hz
    obtain ⟨us, h3, h4⟩ := ih2 ws h2
    exact ⟨us, h3.trans h1, h4⟩
theorem Packs.perm {xs ys : List Int} {C : Int} {n : Nat} (h : Packs xs C n) (hp : xs.Perm ys) : Packs ys C n := by
  obtain ⟨zs, h1, h2, h3⟩ := h
  obtain ⟨ws, h4, h5⟩ := lift_perm hp zs h1
  exact ⟨ws, h5, fun z hz => h2 z (h4.mem_iff.1 hz), fun j hj => by rw [load_perm h4]; exact h3 j hj⟩
theorem Packs.mono {xs : List Int} {C : Int} {n m : Nat} (h : Packs xs C n) (hC : 0 ≤ C) (hm : n ≤ m) : Packs xs C m := by
  obtain ⟨zs, h1, h2, h3⟩ := h
  refine ⟨zs, h1, fun z hz => Nat.lt_of_lt_of_le (h2 z hz) hm, fun j _ => ?_⟩
  by_cases hj : j < n
  · exact h3 j hj
  · have : zs.filter (fun z => z.2 == j) = [] := by
      rw [List.filter_eq_nil_iff]
      intro z hz
      have := h2 z hz
      simp; omega
    simp [load, this, hC]

/-- Sums over the bins. -/
def sumTo (f : Nat → Int) : Nat → Int
  | 0 => 0
  | n + 1 => sumTo f n + f n
theorem sumTo_le {f : Nat → Int} {C : Int} {n : Nat} (h : ∀ j, j < n → f j ≤ C) : sumTo f n ≤ n * C := by
  induction n with
  | zero => simp [sumTo]
  | succ n ih =>
    have h1 := ih fun j hj => h j (by omega)
    have h2 := h n (by omega)
    have e : ((n + 1 : Nat) : Int) * C = n * C + C := by rw [Int.natCast_add, Int.add_mul]; simp
    rw [e]; simp only [sumTo]; omega
theorem sumTo_zero (n : Nat) : sumTo (fun _ => 0) n = 0 := by
  induction n with
  | zero => rfl
  | succ n ih => simp [sumTo, ih]
theorem sumTo_add (f g : Nat → Int) (n : Nat) : sumTo (fun j => f j + g j) n = sumTo f n + sumTo g n := by
  induction n with
  | zero => rfl
  | succ n ih => simp only [sumTo, ih]; omega
theorem sumTo_one (k : Nat) (x : Int) (n : Nat) : sumTo (fun j => if k = j then x else 0) n = if k < n then x else 0 := by
  induction n with
  | zero => rfl
  | succ n ih =>
    simp only [sumTo, ih]
    by_cases h : k < n
    · rw [if_pos h, if_neg (by omega), if_pos (by omega)]; omega
    · rw [if_neg h]
      by_cases h2 : k = n
      · rw [if_pos h2, if_pos (by omega)]; omega
      · rw [if_neg h2, if_neg (by omega)]; omega
theorem sumTo_load {zs : List (Int × Nat)} {n : Nat} (h : ∀ z ∈ zs, z.2 < n) : sumTo (fun j => load j zs) n = tot (zs.map Prod.fst) := by
  induction zs with
  | nil => simp [sumTo_zero]
  | cons z zs ih =>
    have e : (fun j => load j (z :: zs)) = fun j => (if z.2 = j then z.1 else 0) + load j zs := funext fun j => load_cons j z zs
    rw [e, sumTo_add, ih fun y hy => h y (by simp [hy]), sumTo_one, if_pos (h z (by simp))]
    simp
/-- Volume. -/
theorem Packs.volume {xs : List Int} {C : Int} {n : Nat} (h : Packs xs C n) : tot xs ≤ n * C := by
  obtain ⟨zs, rfl, h2, h3⟩ := h
  rw [← sumTo_load h2]
  exact sumTo_le h3
/-- Where every number is greater than a third of C a bin holds at most two. -/
theorem Packs.count2 {xs : List Int} {C : Int} {n : Nat} (h : Packs xs C n) (hx : ∀ x ∈ xs, C < 3 * x) (hC : 0 ≤ C) : xs.length ≤ 2 * n := by
  obtain ⟨zs, rfl, h2, h3⟩ := h
  have hle : ∀ j, j < n → load j (zs.map fun z => (1, z.2)) ≤ 2 := by
    intro j hj
    have hl := h3 j hj
    have key : ∀ ys : List (Int × Nat), (∀ z ∈ ys, C < 3 * z.1) → (load j (ys.map fun z => (1, z.2))) * C ≤ 3 * load j ys ∧ (load j (ys.map fun z => (1, z.2))) ≤ 3 * load j ys - (load j (ys.map fun z => (1, z.2))) * C ∧ 0 ≤ load j (ys.map fun z => (1, z.2)) := by
      intro ys
      induction ys with
      | nil => intro _; simp
      | cons z ys ih =>
        intro hz
        have h1 := hz z (by simp)
        obtain ⟨i1, i2, i3⟩ := ih fun y hy => hz y (by simp [hy])
        simp only [List.map_cons, load_cons]
        by_cases e : z.2 = j
        · rw [if_pos e, if_pos e]
          rw [Int.add_mul, Int.one_mul]
          omega
        · rw [if_neg e, if_neg e]
          simp only [Int.zero_add]
          exact ⟨i1, i2, i3⟩
    obtain ⟨k1, k2, k3⟩ := key zs fun z hz => hx z.1 (List.mem_map.2 ⟨z, hz, rfl⟩)
    generalize load j (zs.map fun z => (1, z.2)) = c at *
    rcases Int.lt_or_le c 3 with h | h
    · omega
    · exfalso
      have : 3 * C ≤ c * C := Int.mul_le_mul_of_nonneg_right h hC
      omega
  have hs := sumTo_le hle
  have e2 : tot ((zs.map fun z => (1, z.2)).map Prod.fst) = (zs.length : Int) := by
    clear h2 h3 hx hle hs
    induction zs with
    | nil => rfl
    | cons z zs ih => simp at ih ⊢; omega
  rw [sumTo_load (by intro z hz; obtain ⟨y, hy, rfl⟩ := List.mem_map.1 hz; exact h2 y hy), e2] at hs
  simp; omega

/-- A number that goes with no other lies in a bin alone: without it one bin fewer is enough. -/
theorem Packs.lone {z : Int} {xs : List Int} {C : Int} {n : Nat} (h : Packs (z :: xs) C n) (hp : ∀ x ∈ xs, 0 ≤ x) (hz : ∀ x ∈ xs, C < z + x) : 1 ≤ n ∧ Packs xs C (n - 1) := by
  obtain ⟨zs, h1, h2, h3⟩ := h
  match zs, h1 with
  | w :: ws, h1 =>
    simp at h1
    obtain ⟨hw, hws⟩ := h1
    have hn : w.2 < n := h2 w (by simp)
    have hpos : ∀ y ∈ ws, 0 ≤ y.1 := fun y hy => hp y.1 (by rw [← hws]; exact List.mem_map.2 ⟨y, hy, rfl⟩)
    have hne : ∀ y ∈ ws, y.2 ≠ w.2 := by
      intro y hy he
      have hl := h3 w.2 hn
      rw [load_cons, if_pos rfl] at hl
      have hy1 : y.1 ≤ load w.2 ws := by
        apply tot_ge_mem
        · intro x hx
          obtain ⟨u, hu, rfl⟩ := List.mem_map.1 hx
          exact hpos u (List.mem_filter.1 hu).1
        · exact List.mem_map.2 ⟨y, List.mem_filter.2 ⟨hy, by simp [he]⟩, rfl⟩
      have := hz y.1 (by rw [← hws]; exact List.mem_map.2 ⟨y, hy, rfl⟩)
      omega
    refine ⟨by omega, ws.map fun y => (y.1, if y.2 = n - 1 then w.2 else y.2), ?_, ?_, ?_⟩
    · rw [← hws]; simp
    · intro y hy
      obtain ⟨u, hu, rfl⟩ := List.mem_map.1 hy
      have a1 := h2 u (by simp [hu])
      have a2 := hne u hu
      simp only
      split <;> omega
    · intro j hj
      have key : ∀ us : List (Int × Nat), (∀ u ∈ us, u.2 < n ∧ u.2 ≠ w.2) → load j (us.map fun y => (y.1, if y.2 = n - 1 then w.2 else y.2)) = load (if j = w.2 then n - 1 else j) us := by
        intro us
        induction us with
        | nil => intro _; simp
        | cons u us ih =>
          intro hu
          have hu1 := hu u (by simp)
          rw [List.map_cons, load_cons, load_cons, ih fun y hy => hu y (by simp [hy])]
          congr 1
          by_cases e1 : u.2 = n - 1
          · simp only [e1, if_true]
            by_cases e2 : j = w.2
            · rw [if_pos e2.symm, if_pos e2, if_pos rfl]
            · rw [if_neg (fun h => e2 h.symm), if_neg e2, if_neg (by omega)]
          · simp only [e1, if_false]
            by_cases e2 : j = w.2
            · rw [if_pos e2, if_neg (by omega), if_neg (by omega)]
            · rw [if_neg e2]
      rw [key ws fun u hu => ⟨h2 u (by simp [hu]), hne u hu⟩]
      by_cases e2 : j = w.2
      · rw [if_pos e2]
        have := h3 (n - 1) (by omega)
        rw [load_cons, if_neg (by omega)] at this
        omega
      · rw [if_neg e2]
        have := h3 j (by omega)
        rw [load_cons, if_neg (by omega)] at this
        omega
/-- The same for many such numbers. -/
theorem Packs.lones {ss xs : List Int} {C : Int} : ∀ {n : Nat}, Packs (ss ++ xs) C n → (∀ x ∈ ss ++ xs, 0 ≤ x) → ss.Pairwise (fun a b => C < a + b) → (∀ z ∈ ss, ∀ x ∈ xs, C < z + x) → ss.length ≤ n ∧ Packs xs C (n - ss.length) := by
  induction ss with
  | nil => intro n h _ _ _; exact ⟨by simp, by simpa using h⟩
  | cons z ss ih =>
    intro n h hp hpw hz
    rw [List.pairwise_cons] at hpw
    have h1 := Packs.lone (z := z) (xs := ss ++ xs) h (fun x hx => hp x (by simp only [List.cons_append, List.mem_cons]; exact .inr hx)) (by
      intro x hx
      rcases List.mem_append.1 hx with hx | hx
      · exact hpw.1 x hx
      · exact hz z (by simp) x hx)
    obtain ⟨h2, h3⟩ := ih h1.2 (fun x hx => hp x (by simp only [List.cons_append, List.mem_cons]; exact .inr hx)) hpw.2 (fun y hy x hx => hz y (by simp [hy]) x hx)
    refine ⟨by simp; omega, ?_⟩
    have e : n - (z :: ss).length = n - 1 - ss.length := by simp; omega
    rw [e]; exact h3
/-- Fewer numbers can be packed as well. -/
theorem Packs.sub {ys rest : List Int} {C : Int} {n : Nat} (h : Packs (ys ++ rest) C n) (hp : ∀ x ∈ rest, 0 ≤ x) : Packs ys C n := by
  obtain ⟨zs, h1, h2, h3⟩ := h
  refine ⟨zs.take ys.length, ?_, fun z hz => h2 z (List.mem_of_mem_take hz), fun j hj => ?_⟩
  · rw [List.map_take, h1]; simp
  · have hl := h3 j hj
    rw [← List.take_append_drop ys.length zs, load_append] at hl
    have : 0 ≤ load j (zs.drop ys.length) := by
      apply load_nonneg
      intro z hz
      apply hp
      have hm : z.1 ∈ (zs.drop ys.length).map Prod.fst := List.mem_map.2 ⟨z, hz, rfl⟩
      rw [List.map_drop, h1] at hm
      simpa using hm
    omega
/-- Numbers of which no two go together lie in bins of their own. -/
theorem Packs.apart {ys rest : List Int} {C : Int} {n : Nat} (h : Packs (ys ++ rest) C n) (hp : ∀ x ∈ ys ++ rest, 0 ≤ x) (hpw : ys.Pairwise fun a b => C < a + b) : ys.length ≤ n := by
  have h1 := h.sub fun x hx => hp x (by simp [hx])
  have h2 := Packs.lones (ss := ys) (xs := []) (by simpa using h1) (fun x hx => hp x (by simp at hx; simp [hx])) hpw (by simp)
  exact h2.1
end Go.Proofs.Ytbihdajoflaknaa.Pk
