
/- Loads on machines: the list rule, sums, spans, as plain functions; no program in sight. -/
namespace Go.Proofs.Ytcfakainajpebaa.Ld
set_option linter.unusedVariables false
/-- The greatest number, 0 of none. -/
def mxf : List Int → Int → Int
  | [], b => b
  | x :: l, b => mxf l (max b x)
def mx (l : List Int) : Int := mxf l 0
theorem mxf_snoc : ∀ (l : List Int) (x b : Int), mxf (l ++ [x]) b = max (mxf l b) x
  | [], _, _ => rfl
  | _ :: l, x, _ => mxf_snoc l x _
theorem mxf_ge : ∀ (l : List Int) (b : Int), b ≤ mxf l b
  | [], b => Int.le_refl b
  | x :: l, b => by have := mxf_ge l (max b x); simp only [mxf]; omega
theorem mxf_mem : ∀ (l : List Int) (b : Int), ∀ x ∈ l, x ≤ mxf l b
  | x :: l, b, y, hy => by
    simp only [mxf]
    rcases List.mem_cons.1 hy with rfl | hy
    · have := mxf_ge l (max b y); omega
    · exact mxf_mem l _ y hy
theorem mxf_le : ∀ (l : List Int) (b c : Int), b ≤ c → (∀ x ∈ l, x ≤ c) → mxf l b ≤ c
  | [], b, c, h, _ => h
  | x :: l, b, c, h, hx => by
    have := hx x (by simp)
    exact mxf_le l _ c (by omega) fun y hy => hx y (by simp [hy])
theorem mxf_max : ∀ (l : List Int) (b c : Int), mxf l (max b c) = max b (mxf l c)
  | [], _, _ => rfl
  | x :: l, b, c => by
    simp only [mxf]
    rw [show max (max b c) x = max b (max c x) from by omega]
    exact mxf_max l b _
theorem mx_nonneg (l : List Int) : 0 ≤ mx l := mxf_ge l 0
theorem mx_head {x : Int} {l : List Int} (hx : 0 ≤ x) : mxf l x = mx (x :: l) := by
  simp only [mx, mxf]
  rw [show max 0 x = x from by omega]
theorem mx_perm {a b : List Int} (h : a.Perm b) : mx a = mx b := by
  have key : ∀ {a b : List Int}, (∀ x, x ∈ a → x ∈ b) → mx a ≤ mx b := fun hab => mxf_le _ 0 _ (mx_nonneg _) fun x hx => mxf_mem _ 0 x (hab x hx)
  have h1 := key fun x hx => h.mem_iff.1 hx
  have h2 := key fun x hx => h.mem_iff.2 hx
  omega
/-- The first place of the least one among the first j sums. -/
def am (s : List Int) : Nat → Nat
  | 0 => 0
  | j + 1 => if s.getD j 0 < s.getD (am s j) 0 then j else am s j
theorem am_one (s : List Int) : am s 1 = 0 := by simp [am]
theorem am_lt (s : List Int) : ∀ j, 0 < j → am s j < j
  | 0, h => absurd h (by omega)
  | 1, _ => by rw [am_one]; omega
  | j + 2, _ => by
    have := am_lt s (j + 1) (by omega)
    rw [am]; split <;> omega
/-- The list rule: where each load is put, and the sums. -/
def bl (m : Nat) : List Int → List Nat × List Int → List Nat × List Int
  | [], ps => ps
  | x :: l, ps => bl m l (ps.1 ++ [am ps.2 m], ps.2.set (am ps.2 m) (ps.2.getD (am ps.2 m) 0 + x))
theorem bl_snoc (m : Nat) : ∀ (l : List Int) (x : Int) (ps : List Nat × List Int), bl m (l ++ [x]) ps = ((bl m l ps).1 ++ [am (bl m l ps).2 m], (bl m l ps).2.set (am (bl m l ps).2 m) ((bl m l ps).2.getD (am (bl m l ps).2 m) 0 + x))
  | [], _, _ => rfl
  | _ :: l, x, _ => bl_snoc m l x _
def byL (m : Nat) (xs : List Int) : List Nat × List Int := bl m xs ([], List.replicate m 0)
theorem byL_snoc (m : Nat) (l : List Int) (x : Int) : byL m (l ++ [x]) = ((byL m l).1 ++ [am (byL m l).2 m], (byL m l).2.set (am (byL m l).2 m) ((byL m l).2.getD (am (byL m l).2 m) 0 + x)) := bl_snoc m l x _
theorem snoc_ind {P : List Int → Prop} (h0 : P []) (hs : ∀ l x, P l → P (l ++ [x])) (l : List Int) : P l := by
  have key : ∀ n (l : List Int), l.length = n → P l := by
    intro n
    induction n with
    | zero => intro l hl; rw [List.eq_nil_of_length_eq_zero hl]; exact h0
    | succ n ih =>
      intro l hl
      have hne : l ≠ [] := by intro e; subst e; simp at hl
      rw [← List.dropLast_concat_getLast hne]
      exact hs _ _ (ih _ (by simp [hl]))
  exact key _ l rfl
theorem byL_len (m : Nat) (l : List Int) : (byL m l).1.length = l.length ∧ (byL m l).2.length = m := by
  induction l using snoc_ind with
  | h0 => simp [byL, bl]
  | hs l x ih => rw [byL_snoc]; simp [ih.1, ih.2]
theorem byL_put (m : Nat) (hm : 0 < m) (l : List Int) : ∀ p ∈ (byL m l).1, p < m := by
  induction l using snoc_ind with
  | h0 => simp [byL, bl]
  | hs l x ih =>
    rw [byL_snoc]
    intro p hp
    rcases List.mem_append.1 hp with hp | hp
    · exact ih p hp
    · have := am_lt (byL m l).2 m hm
      simp at hp; omega
theorem getD_set (l : List Int) (i j : Nat) (x : Int) (hj : j < l.length) : (l.set i x).getD j 0 = if j = i then x else l.getD j 0 := by
  by_cases h : j = i
  · subst h; simp [List.getD, hj]
  · rw [if_neg h]; simp [List.getD, show ¬ i = j from fun e => h e.symm]
/-- The sums are at least 0 and no more than the number of loads times the greatest. -/
theorem byL_range (m : Nat) (l : List Int) : (∀ x ∈ l, 0 ≤ x ∧ x ≤ 60) → ∀ j, j < m → 0 ≤ (byL m l).2.getD j 0 ∧ (byL m l).2.getD j 0 ≤ 60 * l.length := by
  induction l using snoc_ind with
  | h0 => intro _ j hj; simp [byL, bl, List.getD, hj]
  | hs l x ih =>
    intro h j hj
    have h1 := h x (by simp)
    have h2 := ih (fun y hy => h y (by simp [hy]))
    have h3 := h2 j hj
    rw [byL_snoc]
    rw [getD_set _ _ _ _ (by rw [(byL_len m l).2]; exact hj)]
    simp only [List.length_append, List.length_singleton]
    by_cases e : j = am (byL m l).2 m
    · rw [if_pos e, ← e]; omega
    · rw [if_neg e]; omega
/-- The sums of loads put on machines. -/
def lo : List Int → List Int → List Int → List Int
  | x :: l, p :: ps, s => lo l ps (s.set p.toNat (s.getD p.toNat 0 + x))
  | _, _, s => s
theorem lo_snoc : ∀ (l ps : List Int) (x p : Int) (s : List Int), l.length = ps.length → lo (l ++ [x]) (ps ++ [p]) s = (lo l ps s).set p.toNat ((lo l ps s).getD p.toNat 0 + x)
  | [], [], _, _, _, _ => rfl
  | y :: l, q :: ps, x, p, s, h => lo_snoc l ps x p _ (by simpa using h)
  | [], _ :: _, _, _, _, h => by simp at h
  | _ :: _, [], _, _, _, h => by simp at h
def loadOf (m : Nat) (xs ps : List Int) : List Int := lo xs ps (List.replicate m 0)
theorem lo_len : ∀ (l ps s : List Int), (lo l ps s).length = s.length
  | x :: l, p :: ps, s => by simp [lo, lo_len l ps]
  | [], _, _ => rfl
  | _ :: _, [], _ => rfl
theorem lo_range : ∀ (l ps s : List Int) (b : Int), (∀ x ∈ l, 0 ≤ x ∧ x ≤ 60) → (∀ j, j < s.length → 0 ≤ s.getD j 0 ∧ s.getD j 0 ≤ b) → ∀ j, j < s.length → 0 ≤ (lo l ps s).getD j 0 ∧ (lo l ps s).getD j 0 ≤ b + 60 * l.length
  | x :: l, p :: ps, s, b, h, hs, j, hj => by
    have hx := h x (by simp)
    have := lo_range l ps (s.set p.toNat (s.getD p.toNat 0 + x)) (b + 60) (fun y hy => h y (by simp [hy])) (fun i hi => by
      simp only [List.length_set] at hi
      rw [getD_set _ _ _ _ hi]
      have := hs i hi
      by_cases e : i = p.toNat
      · rw [if_pos e, ← e]; omega
      · rw [if_neg e]; omega) j (by simpa using hj)
    simp only [lo, List.length_cons]
    omega
  | [], _, s, b, _, hs, j, hj => by have := hs j hj; simpa [lo] using this
  | x :: l, [], s, b, _, hs, j, hj => by have := hs j hj; simp only [lo, List.length_cons]; omega
/-- The loads of the list rule, put where it puts them, have its sums. -/
theorem loadOf_byL (m : Nat) (l : List Int) : loadOf m l ((byL m l).1.map Int.ofNat) = (byL m l).2 := by
  induction l using snoc_ind with
  | h0 => rfl
  | hs l x ih =>
    rw [byL_snoc]
    unfold loadOf at ih ⊢
    rw [List.map_append, List.map_singleton, lo_snoc _ _ _ _ _ (by simp [(byL_len m l).1]), ih]
    rfl
theorem byL_first (m : Nat) (x : Int) (l : List Int) : (byL m (x :: l)).1.head? = some (am (List.replicate m 0) m) := by
  unfold byL
  rw [bl]
  have key : ∀ (l : List Int) (p : Nat) (ps : List Nat) (s : List Int), (bl m l (p :: ps, s)).1.head? = some p := by
    intro l
    induction l with
    | nil => intro p ps s; rfl
    | cons y l ih => intro p ps s; rw [bl]; exact ih p _ _
  exact key l _ _ _
theorem am_zero (m : Nat) (j : Nat) : am (List.replicate m 0) j = 0 := by
  induction j with
  | zero => rfl
  | succ j ih =>
    rw [am, ih]
    have e : ∀ i, (List.replicate m (0 : Int)).getD i 0 = 0 := by
      intro i
      by_cases h : i < m <;> simp [List.getD, h]
    rw [e, e]; simp
end Go.Proofs.Ytcfakainajpebaa.Ld
