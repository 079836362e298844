
/- PanWeighed, both packages. -/
import Derived.Test.YtbpnpceikbedbaaWeighI
import Derived.Test.YtbpnpceikbedbaaLib
namespace Go.Proofs.Ytbpnpceikbedbaa
set_option linter.unusedVariables false
open Go.RowKit
theorem wsum_eq : ∀ (xs : List Int) (s : Int), (∀ x ∈ xs, 1 ≤ x ∧ x ≤ 60) → 0 ≤ s → s + 60 * xs.length ≤ 1000000000 → wsum xs s = s + xs.sum
  | [], s, _, _, _ => by simp [wsum]
  | x :: l, s, h, h0, h1 => by
    have hx := h x (by simp)
    simp only [List.length_cons] at h1
    have e : wrap64 (s + x) = s + x := IntWalk.wrap64_in _ (by omega)
    rw [wsum, e, wsum_eq l (s + x) (fun y hy => h y (by simp [hy])) (by omega) (by omega), List.sum_cons]
    omega
/-- Whether a number can be asked for. -/
def pwOk (xs : List Int) (v : Int) : Bool := sumIn xs && decide (0 ≤ v) && decide (v ≤ xs.sum)
theorem pwOk_cases {xs : List Int} {v : Int} {b : Bool} (h : pwOk xs v = b) : (sumIn xs = false ∧ b = false) ∨ (sumIn xs = true ∧ ((0 ≤ v ∧ v ≤ xs.sum ∧ b = true) ∨ (v < 0 ∧ b = false) ∨ (0 ≤ v ∧ xs.sum < v ∧ b = false))) := by
  subst h
  unfold pwOk
  cases hs : sumIn xs with
  | false => left; simp
  | true =>
    right
    refine ⟨rfl, ?_⟩
    by_cases h0 : 0 ≤ v
    · by_cases h1 : v ≤ xs.sum
      · left; simp [h0, h1]
      · right; right; refine ⟨h0, by omega, ?_⟩; simp [h0, h1]
    · right; left; refine ⟨by omega, ?_⟩; simp [h0]
theorem sum_in {xs : List Int} (hs : sumIn xs = true) : wsum xs 0 = xs.sum ∧ 0 ≤ xs.sum ∧ xs.sum ≤ 600 := by
  have hx := sumIn_get hs
  have hl := sumIn_len hs
  have hr := sum_range hx
  refine ⟨by rw [wsum_eq xs 0 hx (by omega) (by omega)]; omega, hr.1, by omega⟩
set_option maxHeartbeats 800000 in
theorem specPanWeighed_no (A : Option Addr) (n c : Nat) (xs : List Int) (v : Int) (w : World) (ha : Rd w w.heap.size A n xs) (hn : n ≤ 1000000000) (h : pwOk xs v = false) :
    Calls Try.prog 16 #[.slice A n c, .int .i64 v] w (RetOwnB w [] false) := by
  rcases pwOk_cases h with ⟨hs, _⟩ | ⟨hs, ⟨_, _, h'⟩ | ⟨h0, _⟩ | ⟨h0, h1, _⟩⟩
  · go_enter Try.func16, Try.ntmps16
    go_wp2_with (go_at_call 29; refine (specSumIn_any _ _ _ _ _ ha hn _ hs).mono ?_; rintro e w' ⟨rfl, rfl⟩)
    go_ret2
    exact ⟨_, _, _, rfl, own_empty w, (Below.refl _ _).alloc (Nat.le_refl _) _⟩
  · cases h'
  · obtain ⟨e, _, _⟩ := sum_in hs
    rw [← e] at *
    go_enter Try.func16, Try.ntmps16
    go_wp2_with (first | (go_at_call 29; refine (specSumIn_any _ _ _ _ _ ha hn _ hs).mono ?_; rintro e w' ⟨rfl, rfl⟩) | (go_at_call 30; refine (l4Total_any _ _ _ _ _ ha hn).mono ?_; rintro e w' ⟨rfl, rfl⟩) | (go_at_call 25; refine (l6In_no _ _ _ _ (by omega)).mono ?_; rintro e w' ⟨rfl, rfl⟩))
    go_ret2
    exact ⟨_, _, _, rfl, own_empty w, (Below.refl _ _).alloc (Nat.le_refl _) _⟩
  · obtain ⟨e, _, _⟩ := sum_in hs
    rw [← e] at h1
    go_enter Try.func16, Try.ntmps16
    go_wp2_with (first | (go_at_call 29; refine (specSumIn_any _ _ _ _ _ ha hn _ hs).mono ?_; rintro e w' ⟨rfl, rfl⟩) | (go_at_call 30; refine (l4Total_any _ _ _ _ _ ha hn).mono ?_; rintro e w' ⟨rfl, rfl⟩) | (go_at_call 25; refine (l6In_no _ _ _ _ (by omega)).mono ?_; rintro e w' ⟨rfl, rfl⟩))
    go_ret2
    exact ⟨_, _, _, rfl, own_empty w, (Below.refl _ _).alloc (Nat.le_refl _) _⟩
set_option maxHeartbeats 800000 in
theorem specPanWeighed_yes (A : Option Addr) (n c : Nat) (xs : List Int) (v : Int) (w : World) (ha : Rd w w.heap.size A n xs) (hc : n ≤ c) (h : pwOk xs v = true) :
    Calls Try.prog 16 #[.slice A n c, .int .i64 v] w (RetW w (Wg.firstW xs v)) := by
  rcases pwOk_cases h with ⟨_, h'⟩ | ⟨hs, ⟨h0, h1, _⟩ | ⟨_, h'⟩ | ⟨_, _, h'⟩⟩
  · cases h'
  · obtain ⟨e, e0, e1⟩ := sum_in hs
    have hn : n ≤ 10 := by have := sumIn_len hs; rw [ha.len] at this; exact this
    have h1' : v ≤ wsum xs 0 := by omega
    have key := l7First_any n A c xs v w ha hc hn (sumIn_get hs) (by omega) (by omega)
    cases hF : Wg.firstW xs v with
    | some r =>
      rw [hF] at key
      have K := Lib.hid key
      clear key hF
      go_enter Try.func16, Try.ntmps16
      go_wp2_with (first | (go_at_call 29; refine (specSumIn_any _ _ _ _ _ ha (by omega) _ hs).mono ?_; rintro e w' ⟨rfl, rfl⟩) | (go_at_call 30; refine (l4Total_any _ _ _ _ _ ha (by omega)).mono ?_; rintro e w' ⟨rfl, rfl⟩) | (go_at_call 25; refine (l6In_yes _ _ _ _ (by omega) (by omega)).mono ?_; rintro e w' ⟨rfl, rfl⟩))
      refine K.out.mono ?_
      rintro e w2 ⟨A2, n2, c2, rfl, ho, hb⟩
      have HO := Lib.hid ho
      have HB := Lib.hid hb
      clear ho hb
      go_wp2_with fail
      go_ret2
      exact ⟨_, _, _, rfl, HO.out, HB.out⟩
    | none =>
      rw [hF] at key
      have K := Lib.hid key
      clear key hF
      go_enter Try.func16, Try.ntmps16
      go_wp2_with (first | (go_at_call 29; refine (specSumIn_any _ _ _ _ _ ha (by omega) _ hs).mono ?_; rintro e w' ⟨rfl, rfl⟩) | (go_at_call 30; refine (l4Total_any _ _ _ _ _ ha (by omega)).mono ?_; rintro e w' ⟨rfl, rfl⟩) | (go_at_call 25; refine (l6In_yes _ _ _ _ (by omega) (by omega)).mono ?_; rintro e w' ⟨rfl, rfl⟩))
      refine K.out.mono ?_
      rintro e w2 ⟨A2, n2, c2, rfl, ho, hb⟩
      have HO := Lib.hid ho
      have HB := Lib.hid hb
      clear ho hb
      go_wp2_with fail
      go_ret2
      exact ⟨_, _, _, rfl, HO.out, HB.out⟩
  · cases h'
  · cases h'
set_option maxHeartbeats 800000 in
theorem implPanWeighed_no (A : Option Addr) (n c : Nat) (xs : List Int) (v : Int) (w : World) (ha0 : Rd w w.heap.size A n xs) (hn : n ≤ 1000000000) (h : pwOk xs v = false) :
    Calls Try.prog 18 #[.slice A n c, .int .i64 v] w (RetOwnB w [] false) := by
  have hb : Below w.heap.size w (w.alloc (.cells #[.slice A n c] 22)) := (Below.refl _ _).alloc (Nat.le_refl _) _
  have ha := (ha0.below hb).lt
  have HE : Hid (Own ((w.alloc (.cells #[.slice A n c] 22)).alloc (.cells #[] 3)) w.heap.size (some ⟨w.heap.size + 1, 0, none⟩) 0 0 []) := Lib.hid (by have := (own_empty (w.alloc (.cells #[.slice A n c] 22))).mono (base' := w.heap.size) (by simp); simpa using this)
  have HB := Lib.hid (hb.alloc (by simp) (.cells #[] 3))
  rcases pwOk_cases h with ⟨hs, _⟩ | ⟨hs, ⟨_, _, h'⟩ | ⟨h0, _⟩ | ⟨h0, h1, _⟩⟩
  · go_enter Try.func18, Try.ntmps18
    go_wp2_with (go_at_call 32; refine (implSumIn_any _ _ _ _ _ ha hn _ hs).mono ?_; rintro e w' ⟨rfl, rfl⟩)
    go_ret2
    exact ⟨_, _, _, rfl, HE.out, HB.out⟩
  · cases h'
  · go_enter Try.func18, Try.ntmps18
    go_wp2_with (go_at_call 32; refine (implSumIn_any _ _ _ _ _ ha hn _ hs).mono ?_; rintro e w' ⟨rfl, rfl⟩)
    go_ret2
    exact ⟨_, _, _, rfl, HE.out, HB.out⟩
  · obtain ⟨e, _, _⟩ := sum_in hs
    go_enter Try.func18, Try.ntmps18
    go_wp2_with (first | (go_at_call 32; refine (implSumIn_any _ _ _ _ _ ha hn _ hs).mono ?_; rintro e w' ⟨rfl, rfl⟩) | (go_at_call 33; refine (totalOf_any _ _ _ _ _ ha hn).mono ?_; rintro e w' ⟨rfl, rfl⟩))
    go_ret2
    exact ⟨_, _, _, rfl, HE.out, HB.out⟩
theorem wp_start {w w1 : World} {A : Option Addr} {g n c c1 : Nat} {xs O : List Int} {T2 T3 : TypeId} (hr : Rd w w.heap.size A n xs) (hg : g = w.heap.size + 1) (ho : Own w1 w.heap.size (some ⟨g, 0, none⟩) n c1 O) (hb : Below w.heap.size w w1) (hm : w1.cell? ⟨w.heap.size, 0, none⟩ = some (.slice A n c)) :
    WP w w.heap.size w1.heap.size (w1.heap.size + 1) A c xs (some ⟨g, 0, none⟩) n c1 O
      ((w1.alloc (.cells #[.slice (some ⟨g, 0, none⟩) n c1] T2)).alloc (.cells #[.func (.func 34) #[] #[.pointer (some ⟨w.heap.size, 0, none⟩), .pointer (some ⟨w1.heap.size, 0, none⟩), .pointer (some ⟨w1.heap.size + 1, 0, none⟩)]] T3)) := by
  have hlt : w.heap.size < w1.heap.size := World.block_lt_of_cell? w1 _ hm
  have hA : w.heap.size ≤ g ∧ g < w1.heap.size := ho.lt g rfl
  have hbb := (hb.alloc (by omega) (.cells #[.slice (some ⟨g, 0, none⟩) n c1] T2)).alloc (by simp; omega) (.cells #[.func (.func 34) #[] #[.pointer (some ⟨w.heap.size, 0, none⟩), .pointer (some ⟨w1.heap.size, 0, none⟩), .pointer (some ⟨w1.heap.size + 1, 0, none⟩)]] T3)
  refine ⟨hbb, (ho.alloc _).alloc _, hr.below hbb, ?_, ?_, ?_, ?_, ?_, ?_⟩
  · rw [World.cell?_alloc_lt _ _ ⟨w.heap.size, 0, none⟩ (by simp; omega), World.cell?_alloc_lt _ _ ⟨w.heap.size, 0, none⟩ hlt]; exact hm
  · rw [World.cell?_alloc_lt _ _ ⟨w1.heap.size, 0, none⟩ (by simp)]; simp
  · rw [World.cell?_alloc_at _ _ _ _ (by simp)]; rfl
  · intro e; simp [blk] at e; omega
  · intro e; simp [blk] at e; omega
  · intro e; simp [blk] at e; omega
set_option maxHeartbeats 1600000 in
theorem implPanWeighed_yes (A : Option Addr) (n c : Nat) (xs : List Int) (v : Int) (w : World) (ha0 : Rd w w.heap.size A n xs) (h : pwOk xs v = true) :
    Calls Try.prog 18 #[.slice A n c, .int .i64 v] w (RetW w (Wg.firstW xs v)) := by
  rcases pwOk_cases h with ⟨_, h'⟩ | ⟨hs, ⟨h0, h1, _⟩ | ⟨_, h'⟩ | ⟨_, _, h'⟩⟩
  · cases h'
  · obtain ⟨i0, hi, hz0, hz1, hz2⟩ := info_parts int_info
    obtain ⟨e, e0, e1⟩ := sum_in hs
    have hn : n ≤ 10 := by have := sumIn_len hs; rw [ha0.len] at this; exact this
    have hb : Below w.heap.size w (w.alloc (.cells #[.slice A n c] 22)) := (Below.refl _ _).alloc (Nat.le_refl _) _
    have ha := (ha0.below hb).lt
    have HA0 := Lib.hid ha0
    have HSI := Lib.hid (sumIn_get hs)
    have hst : ∀ (a : Addr) (fn : Fn) (x y : Array Value) (W : World), (store a (.func fn x y)).run Try.prog W = stored Try.prog W a (.func fn x y) .plain := fun a fn x y W => run_store Try.prog W a _ _ rfl
    have hgt : ¬ xs.sum < v := by omega
    go_enter Try.func18, Try.ntmps18
    go_wp2_with (first
      | (go_at_call 32; refine (implSumIn_any _ _ _ _ _ ha (by omega) _ hs).mono ?_; rintro e w' ⟨rfl, rfl⟩)
      | (go_at_call 33; refine (totalOf_any _ _ _ _ _ ha (by omega)).mono ?_; rintro e w' ⟨rfl, rfl⟩)
      | (at_make; refine wpList_make_full _ rfl _ _ 22 rfl w.heap.size 3 i0 (.int .i64 0) 1 Try.underlying22 hi hz0 hz1 _ _ _ _ n rfl rfl rfl rfl ?b2 ?b3 (by simp) ?_))
    case b2 => rw [hz2]; omega
    case b3 => unfold maxLen; omega
    intro w1 hown0 hg0
    have ho := own_made hown0
    have hb1 : Below w.heap.size w w1 := hb.trans ((below_of_grown hg0).mono (by simp))
    have hm : w1.cell? ⟨w.heap.size, 0, none⟩ = some (.slice A n c) := by
      have := (below_of_grown hg0).cell (p := ⟨w.heap.size, 0, none⟩) (by simp)
      rw [this]; simp
    have HWP := Lib.hid (wp_start (T2 := 22) (T3 := 40) HA0.out (by simp) ho hb1 hm)
    clear hown0 hg0 ho hb1 hm ha ha0 hb
    have key : Calls Try.prog 34 #[.int .i64 (0 : Int), .int .i64 v, .pointer (some ⟨w.heap.size, 0, none⟩), .pointer (some ⟨w1.heap.size, 0, none⟩), .pointer (some ⟨w1.heap.size + 1, 0, none⟩)] _ (RetP w w.heap.size w1.heap.size (w1.heap.size + 1) A c xs (some ⟨w.heap.size + 1, 0, none⟩) n n 0 (List.replicate n 0) (Wg.firstW xs v)) := weigh_any w w.heap.size w1.heap.size (w1.heap.size + 1) A c xs (w.heap.size + 1) n n HSI.out hn n 0 (by omega) (List.replicate n 0) v _ (by simpa using HWP.out) (by omega) (by omega)
    cases hF : Wg.firstW xs v with
    | some r =>
      rw [hF] at key
      have K := Lib.hid key
      have HF := Lib.hid hF
      clear key hF
      go_wp2_with fail
      refine K.out.mono ?_
      rintro e w2 ⟨rfl, O', _, h2, h3⟩
      have ho := h3.own
      rw [h2 r rfl, List.take_zero, List.nil_append] at ho
      have c2 := h3.out
      have HO := Lib.hid ho
      have HB := Lib.hid h3.below
      clear ho h2 h3
      go_wp2_with fail
      go_ret2
      rw [HF.out]
      exact ⟨_, _, _, rfl, HO.out, HB.out⟩
    | none =>
      rw [hF] at key
      have K := Lib.hid key
      have HF := Lib.hid hF
      clear key hF
      go_wp2_with fail
      refine K.out.mono ?_
      rintro e w2 ⟨rfl, O', _, _, h3⟩
      have HB := Lib.hid h3.below
      clear h3
      go_wp2_with fail
      go_ret2
      rw [HF.out]
      exact ⟨_, _, _, rfl, (own_empty w2).mono HB.out.size, HB.out.alloc HB.out.size _⟩
  · cases h'
  · cases h'
end Go.Proofs.Ytbpnpceikbedbaa
