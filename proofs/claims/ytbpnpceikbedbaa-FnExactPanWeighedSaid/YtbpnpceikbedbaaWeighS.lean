
/- spec.l7First: the walk. -/
import Derived.Test.YtbpnpceikbedbaaDropA
import Derived.Test.YtbpnpceikbedbaaWeighP
import Derived.Test.YtbpnpceikbedbaaReg
namespace Go.Proofs.Ytbpnpceikbedbaa
set_option linter.unusedVariables false
open Go.RowKit
theorem sum_range {xs : List Int} (h : ∀ x ∈ xs, 1 ≤ x ∧ x ≤ 60) : 0 ≤ xs.sum ∧ xs.sum ≤ 60 * xs.length := by
  induction xs with
  | nil => simp
  | cons x l ih =>
    have h1 := h x (by simp)
    have h2 := ih fun y hy => h y (by simp [hy])
    simp only [List.sum_cons, List.length_cons]
    omega
theorem firstW_at {x s v : Int} {a r : List Int} (h1 : -1 ≤ s) (h2 : s ≤ 1) (hn : ∀ t, -1 ≤ t → t < s → Wg.firstW a (v - t * x) = none) (h : Wg.firstW a (v - s * x) = some r) : Wg.firstW (x :: a) v = some (s :: r) := by
  have : s = -1 ∨ s = 0 ∨ s = 1 := by omega
  rcases this with rfl | rfl | rfl
  · rw [show v - -1 * x = v + x by omega] at h; exact Wg.firstW_m h
  · have a1 := hn (-1) (by omega) (by omega)
    rw [show v - -1 * x = v + x by omega] at a1
    rw [show v - 0 * x = v by omega] at h
    exact Wg.firstW_z a1 h
  · have a1 := hn (-1) (by omega) (by omega)
    have a2 := hn 0 (by omega) (by omega)
    rw [show v - -1 * x = v + x by omega] at a1
    rw [show v - 0 * x = v by omega] at a2
    rw [show v - 1 * x = v - x by omega] at h
    exact Wg.firstW_p a1 a2 h
theorem firstW_none {x s v : Int} {a : List Int} (h2 : 1 < s) (hn : ∀ t, -1 ≤ t → t < s → Wg.firstW a (v - t * x) = none) : Wg.firstW (x :: a) v = none := by
  have a1 := hn (-1) (by omega) (by omega)
  have a2 := hn 0 (by omega) (by omega)
  have a3 := hn 1 (by omega) (by omega)
  rw [show v - -1 * x = v + x by omega] at a1
  rw [show v - 0 * x = v by omega] at a2
  rw [show v - 1 * x = v - x by omega] at a3
  exact Wg.firstW_no a1 a2 a3
/-- A literal of one number. -/
theorem own_one (w : World) (v : Int) : Own (w.alloc (.cells #[.int .i64 v] 3)) w.heap.size (some ⟨w.heap.size, 0, none⟩) 1 1 [v] :=
  ⟨by simp [ints], .inr ⟨w.heap.size, 1, #[.int .i64 v], rfl, Nat.le_refl _, heap_alloc_new w _, Nat.le_refl _, by unfold maxLen; omega, rfl, by simp [ints]⟩⟩
/-- What a search hands back. -/
def RetW (w : World) (o : Option (List Int)) (e : Ending) (w' : World) : Prop := RetOwnB w (o.getD []) o.isSome e w'
set_option maxRecDepth 100000 in
set_option maxHeartbeats 3200000 in
theorem l7First_any : ∀ (q : Nat) (A : Option Addr) (c : Nat) (xs : List Int) (v : Int) (w : World), Rd w w.heap.size A q xs → q ≤ c → q ≤ 10 → (∀ x ∈ xs, 1 ≤ x ∧ x ≤ 60) → -100000 ≤ v → v ≤ 100000 →
    Calls Try.prog 31 #[.slice A q c, .int .i64 v, .int .i64 xs.sum] w (RetW w (Wg.firstW xs v)) := by
  intro q
  induction q with
  | zero =>
    intro A c xs v w hr hc hq hx hv1 hv2
    have hr0 : xs = [] := List.eq_nil_of_length_eq_zero hr.len
    subst hr0
    clear hr hx
    by_cases h0 : v = 0
    · subst h0
      have HE := Lib.hid (own_empty w)
      have HB := Lib.hid ((Below.refl w.heap.size w).alloc (Nat.le_refl _) (.cells #[] 3))
      go_enter Try.func31, Try.ntmps31
      go_wp2_with fail
      go_ret2
      exact ⟨_, _, _, rfl, HE.out, HB.out⟩
    · have hs0 : ([] : List Int).sum = 0 := rfl
      rw [hs0]
      have hf : Wg.firstW [] v = none := by rw [Wg.firstW_nil, if_neg h0]
      rw [hf]
      have HE := Lib.hid (own_empty w)
      have HB := Lib.hid ((Below.refl w.heap.size w).alloc (Nat.le_refl _) (.cells #[] 3))
      by_cases h1 : v < 0 - v
      · go_enter Try.func31, Try.ntmps31
        go_wp2_with fail
        go_ret2
        exact ⟨_, _, _, rfl, HE.out, HB.out⟩
      · go_enter Try.func31, Try.ntmps31
        go_wp2_with fail
        go_ret2
        exact ⟨_, _, _, rfl, HE.out, HB.out⟩
  | succ q ih =>
    intro A c xs v w hr hc hq hx hv1 hv2
    obtain ⟨x, l, rfl⟩ : ∃ x l, xs = x :: l := by
      cases xs with
      | nil => exact absurd hr.len (by simp)
      | cons x l => exact ⟨x, l, rfl⟩
    obtain ⟨b1, o1, rfl, hb1, hcc⟩ := hr.at_ (show 0 < q + 1 by omega)
    have hsr := sum_range hx
    obtain ⟨hx1, hx2⟩ := hx x (by simp)
    rw [List.sum_cons] at hsr ⊢
    have hlr := sum_range (xs := l) (fun y hy => hx y (by simp [hy]))
    obtain ⟨T, hT⟩ : ∃ T, l.sum = T := ⟨_, rfl⟩
    have hll : (l.length : Int) ≤ 10 := by have := hr.len; simp at this; omega
    rw [hT] at hsr hlr ⊢
    have t1 : 0 ≤ T := hlr.1
    have t2 : T ≤ 600 := by omega
    have HX := Lib.hid hx
    have HT := Lib.hid hT
    have HE := Lib.hid (own_empty w)
    have HB := Lib.hid ((Below.refl w.heap.size w).alloc (Nat.le_refl _) (.cells #[] 3))
    by_cases hfar : x + T < v ∨ x + T < -v
    · have hf : Wg.firstW (x :: l) v = none := Wg.firstW_far (fun y hy => by have := hx y hy; omega) (by rw [List.sum_cons, hT]; exact hfar)
      rw [hf]
      clear hcc hr hx hT hsr hlr hf ih hb1
      by_cases h1 : v < 0 - v
      · have h2 : x + T < 0 - v := by omega
        go_enter Try.func31, Try.ntmps31
        go_wp2_with fail
        go_ret2
        exact ⟨_, _, _, rfl, HE.out, HB.out⟩
      · have h2 : x + T < v := by omega
        go_enter Try.func31, Try.ntmps31
        go_wp2_with fail
        go_ret2
        exact ⟨_, _, _, rfl, HE.out, HB.out⟩
    · have f1 : ¬ x + T < v := fun h => hfar (Or.inl h)
      have f2 : ¬ x + T < 0 - v := fun h => hfar (Or.inr (by omega))
      obtain ⟨n1, hn1⟩ : ∃ n1, q + 1 = n1 := ⟨_, rfl⟩
      have HN := Lib.hid hn1
      have nz : ¬ (n1 : Int) = 0 := by omega
      have nz0 : (0 : Int) < (n1 : Int) := by omega
      have nz00 : 0 < n1 := by omega
      have nzb : ((n1 : Int) == 0) = false := by rw [beq_eq_false_iff_ne]; exact nz
      have dv1 : decide (x + T < v) = false := decide_eq_false f1
      have dv2 : decide (x + T < -v) = false := decide_eq_false (by omega)
      rw [hn1] at hr hc hq ⊢
      have IH := Lib.hid ih
      have HR := Lib.hid hr
      have g0 : w.cell? ⟨b1, o1, none⟩ = some (.int .i64 x) := by simpa using hcc 0 (by omega)
      have H0 : Hid (∀ t, -1 ≤ t → t < (-1 : Int) → Wg.firstW l (v - t * x) = none) := Lib.hid (fun t h1 h2 => by omega)
      have BZ := Lib.hid (Below.refl w.heap.size w)
      clear hcc hr hx hT hsr hlr hfar ih hn1
      rcases Int.lt_or_le v (0 - v) with h1 | h1
      all_goals
        go_enter Try.func31, Try.ntmps31
        go_wp2_with fail
        go_loopw [8] (fun sv wr => ∃ s : Int, -1 ≤ s ∧ s ≤ 2 ∧ sv = .int .i64 s ∧ Hid (∀ t, -1 ≤ t → t < s → Wg.firstW l (v - t * x) = none) ∧ Hid (Below w.heap.size w wr)) (fun sv _ => (2 - intOf sv).toNat)
        case atStart => exact ⟨-1, by omega, by omega, rfl, H0, BZ⟩
        case round =>
          obtain ⟨s, hs1, hs2, rfl, HF, HW⟩ := hrel
          clear H0 BZ
          by_cases hlt : s ≤ 1
          · have g1 : wr.cell? ⟨b1, o1, none⟩ = some (.int .i64 x) := (HW.out.cell (p := ⟨b1, o1, none⟩) hb1).trans g0
            have hw1 : b1 < wr.heap.size := Nat.lt_of_lt_of_le hb1 HW.out.size
            have hsl : ∀ W : World, (Instr.slice 22 (.slice (some ⟨b1, o1, none⟩) n1 c) (some (.int .i64 1)) none none).run Try.prog W = .ok (.slice (dropA (some ⟨b1, o1, none⟩) c 1) q (c - 1)) W := fun W => by
              have := run_sliceFrom W (some ⟨b1, o1, none⟩) n1 c 1 (by have := HN.out; omega)
              rw [show n1 - 1 = q by have := HN.out; omega] at this
              exact this
            have r2 := rd_dropA (c := c) (i := 1) ((HR.out.below HW.out).lt) (by have := HN.out; omega) hc
            rw [show n1 - 1 = q by have := HN.out; omega, List.drop_succ_cons, List.drop_zero] at r2
            generalize dropA (some ⟨b1, o1, none⟩) c 1 = D2 at hsl r2
            have R2 := Lib.hid r2
            clear r2
            obtain ⟨p, hp⟩ : ∃ p, s * x = p := ⟨_, rfl⟩
            have hpr : -60 ≤ p ∧ p ≤ 60 := by
              have : s = -1 ∨ s = 0 ∨ s = 1 := by omega
              rcases this with rfl | rfl | rfl <;> omega
            obtain ⟨hp1, hp2⟩ := hpr
            have hmul : IntKind.i64.wrap (s * x) = p := by rw [hp]; exact IntWalk.i64_in _ (by omega)
            have hsub : IntKind.i64.wrap (v - p) = v - p := IntWalk.i64_in _ (by omega)
            have hlf : IntKind.i64.wrap (x + T - x) = T := by rw [show x + T - x = T by omega]; exact IntWalk.i64_in _ (by omega)
            have HPR := Lib.hid hp
            have hvp : -100000 ≤ v - p ∧ v - p ≤ 100000 := by omega
            clear hp
            have key : ∀ W : World, Rd W W.heap.size D2 q l → Calls Try.prog 31 #[.slice D2 q (c - 1), .int .i64 (v - p), .int .i64 T] W (RetW W (Wg.firstW l (v - p))) := fun W h => by
              have := IH.out D2 (c - 1) l (v - p) W h (by have := HN.out; omega) (by have := HN.out; omega) (fun y hy => HX.out y (by simp [hy])) hvp.1 hvp.2
              rw [HT.out] at this
              exact this
            cases hF : Wg.firstW l (v - p) with
            | some r =>
              rw [hF] at key
              have K := Lib.hid key
              have HG := Lib.hid (firstW_at (x := x) (v := v) (a := l) hs1 hlt HF.out (by rw [HPR.out]; exact hF))
              clear key hF
              go_wp2_with fail
              go_region_held3 (fun w' => w'.cell? ⟨b1, o1, none⟩ = some (.int .i64 x)) (first | go_keep | exact (hb.cell (p := ⟨b1, o1, none⟩) hw1).trans g1 | fail) ((go_at_call 31; refine (K.out wr.drew (by exact R2.out.below (below_drewN (Below.refl _ _) 1))).mono ?_; rintro e w2 ⟨A2, n2, c2, rfl, ho, hb⟩))
              have hl2 := ho.len
              have hlr : r.length ≤ 10 := by have := Wg.firstW_len HG.out; have := HR.out.len; simp only [List.length_cons] at *; omega
              have HO : Hid (Rd (w2.alloc (.cells #[.int .i64 s] 3)) w2.heap.size A2 n2 r) := Lib.hid (ho.rd.below ((Below.refl _ _).alloc (Nat.le_refl _) _))
              have HBB := Lib.hid ((show Below w.heap.size w wr.drew from below_drewN HW.out 1).trans (hb.mono HW.out.size))
              have hn2 : n2 ≤ 10 := by simp only [Option.getD_some] at hl2; omega
              clear ho hb hl2 hlr
              go_wp2_with (at_builtin; refine wpList_app rfl _ _ _ rfl Try.underlying22 rfl (own_one w2 s) rfl HO.out (by omega) (by simp) ?_; intro A3 c3 w3 ho3 hg3 hk3)
              have H3 := Lib.hid ((HBB.out.alloc HBB.out.size _).grown hg3 (by simp; have := HBB.out.size; omega) (fun g e => by simp [blk] at e; have := HBB.out.size; omega))
              have HO3 := Lib.hid (ho3.mono HBB.out.size)
              clear ho3 hg3 hk3
              rw [HG.out]
              go_wp2_with fail
              go_ret2
              exact ⟨_, _, _, rfl, HO3.out, H3.out⟩
            | none =>
              rw [hF] at key
              have K := Lib.hid key
              have HG : Hid (∀ t, -1 ≤ t → t < s + 1 → Wg.firstW l (v - t * x) = none) := Lib.hid (fun t h1 h2 => by
                by_cases e : t = s
                · subst e; rw [HPR.out]; exact hF
                · exact HF.out t h1 (by omega))
              clear key hF
              go_wp2_with fail
              go_region_held3 (fun w' => w'.cell? ⟨b1, o1, none⟩ = some (.int .i64 x)) (first | go_keep | exact (hb.cell (p := ⟨b1, o1, none⟩) hw1).trans g1 | fail) ((go_at_call 31; refine (K.out wr.drew (by exact R2.out.below (below_drewN (Below.refl _ _) 1))).mono ?_; rintro e w2 ⟨A2, n2, c2, rfl, ho, hb⟩))
              have HBB := Lib.hid ((show Below w.heap.size w wr.drew from below_drewN HW.out 1).trans (hb.mono HW.out.size))
              clear ho hb
              go_wp2_with fail
              go_roundw
              case rel => exact ⟨s + 1, by omega, by omega, by go_num, HG, HBB⟩
              case measure => simp [intOf]; omega
          · have hf := firstW_none (x := x) (v := v) (a := l) (s := s) (by omega) HF.out
            rw [hf]
            go_wp2_with fail
            go_ret2
            exact ⟨_, _, _, rfl, (own_empty wr).mono HW.out.size, HW.out.alloc HW.out.size _⟩
end Go.Proofs.Ytbpnpceikbedbaa
