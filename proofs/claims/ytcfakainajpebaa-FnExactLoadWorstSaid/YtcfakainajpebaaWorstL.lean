
/- impl.LoadWorst. -/
import Derived.Test.YtcfakainajpebaaWorstK
import Derived.Test.YtcfakainajpebaaCloneA
namespace Go.Proofs.Ytcfakainajpebaa
set_option linter.unusedVariables false
open Go.RowKit
set_option maxHeartbeats 800000 in
theorem implLoadWorst_no (A : Option Addr) (n c : Nat) (xs : List Int) (m : Int) (w : World) (ha : Rd w w.heap.size A n xs) (hn : n ≤ 1000000000) (h : wok xs m = false) :
    Calls Try.prog 6 #[.slice A n c, .int .i64 m] w (RetIB w 0 false) := by
  have hl := ha.len
  have hb : Below w.heap.size w (w.alloc (.cells #[.int .i64 m] 3)) := (Below.refl _ _).alloc (Nat.le_refl _) _
  have ha2 : Rd (w.alloc (.cells #[.int .i64 m] 3)) (w.alloc (.cells #[.int .i64 m] 3)).heap.size A n xs := (ha.below hb).lt
  by_cases h1 : ldOk xs m = true
  · have h6 : 6 < n := by
      unfold wok at h
      rw [h1, Bool.true_and] at h
      have := of_decide_eq_false h
      omega
    have d6 : (n : Int) > 6 := by omega
    clear h
    go_enter Try.func6, Try.ntmps6
    go_wp2_with (go_at_call 10; refine (loadsTold_any _ _ _ _ _ _ ha2 hn _ h1).mono ?_; rintro e w' ⟨rfl, rfl⟩)
    go_ret2
    exact ⟨rfl, hb⟩
  · have h2 : ldOk xs m = false := by simpa using h1
    clear h h1
    go_enter Try.func6, Try.ntmps6
    go_wp2_with (go_at_call 10; refine (loadsTold_any _ _ _ _ _ _ ha2 hn _ h2).mono ?_; rintro e w' ⟨rfl, rfl⟩)
    go_ret2
    exact ⟨rfl, hb⟩
theorem ws_start {w w1 : World} {A1 : Option Addr} {n c1 m : Nat} {xs : List Int} {T1 T2 T3 : TypeId} (ho : Own w1 (w.heap.size + 1) A1 n c1 xs) (hb : Below w.heap.size w w1) (hm : w1.cell? ⟨w.heap.size, 0, none⟩ = some (.int .i64 m)) :
    WS w w1.heap.size (w1.heap.size + 1) w.heap.size (w1.heap.size + 1 + 1) A1 n c1 m xs 0
      (((w1.alloc (.cells #[.slice A1 n c1] T1)).alloc (.cells #[.int .i64 0] T2)).alloc (.cells #[.func (.func 12) #[] #[.pointer (some ⟨w1.heap.size, 0, none⟩), .pointer (some ⟨w1.heap.size + 1, 0, none⟩), .pointer (some ⟨w.heap.size, 0, none⟩), .pointer (some ⟨w1.heap.size + 1 + 1, 0, none⟩)]] T3)) := by
  have hlt : w.heap.size < w1.heap.size := World.block_lt_of_cell? w1 _ hm
  have hA : ∀ g, blk A1 = some g → w.heap.size + 1 ≤ g ∧ g < w1.heap.size := ho.lt
  have hne : ∀ b, (b = w.heap.size ∨ w1.heap.size ≤ b) → blk A1 ≠ some b := fun b hb' e => by have := hA b e; omega
  refine ⟨((hb.alloc (by omega) _).alloc (by simp; omega) _).alloc (by simp; omega) _, ((((ho.mono (by omega)).alloc _).alloc _).alloc _), ?_, ?_, ?_, ?_, ?_, by omega, by omega, by omega, by omega, hne _ (by omega), hne _ (by omega), hne _ (by omega), hne _ (by omega)⟩
  · rw [World.cell?_alloc_lt _ _ ⟨w1.heap.size, 0, none⟩ (by simp; omega), World.cell?_alloc_lt _ _ ⟨w1.heap.size, 0, none⟩ (by simp)]; simp
  · rw [World.cell?_alloc_lt _ _ ⟨w1.heap.size + 1, 0, none⟩ (by simp)]; simp
  · rw [World.frozen?_alloc_old _ _ ⟨w1.heap.size + 1, 0, none⟩ (by simp)]; simp
  · rw [World.cell?_alloc_lt _ _ ⟨w.heap.size, 0, none⟩ (by simp; omega), World.cell?_alloc_lt _ _ ⟨w.heap.size, 0, none⟩ (by simp; omega), World.cell?_alloc_lt _ _ ⟨w.heap.size, 0, none⟩ hlt]; exact hm
  · rw [World.cell?_alloc_at _ _ _ _ (by simp)]; rfl
set_option maxHeartbeats 1600000 in
theorem implLoadWorst_yes (A : Option Addr) (n c : Nat) (xs : List Int) (m : Nat) (w : World) (ha : Rd w w.heap.size A n xs) (h : wok xs m = true) :
    Calls Try.prog 6 #[.slice A n c, .int .i64 m] w (RetIB w (worstF m xs) true) := by
  have hl := ha.len
  have hb : Below w.heap.size w (w.alloc (.cells #[.int .i64 m] 3)) := (Below.refl _ _).alloc (Nat.le_refl _) _
  have ha2 : Rd (w.alloc (.cells #[.int .i64 m] 3)) (w.alloc (.cells #[.int .i64 m] 3)).heap.size A n xs := (ha.below hb).lt
  obtain ⟨h1, h6⟩ : ldOk xs m = true ∧ n ≤ 6 := by
    unfold wok at h
    rw [Bool.and_eq_true] at h
    have := of_decide_eq_true h.2
    exact ⟨h.1, by omega⟩
  obtain ⟨hs, hm1, hm2⟩ := ldOk_true h1
  have d6 : ¬ (n : Int) > 6 := by omega
  have HS := Lib.hid hs
  have HA := Lib.hid ha2
  have HH := Lib.hid h1
  have HB := Lib.hid hb
  clear ha ha2 h h1 hs
  go_enter Try.func6, Try.ntmps6
  go_wp2_with (go_at_call 10; refine (loadsTold_any _ _ _ _ _ _ HA.out (by omega) _ HH.out).mono ?_; rintro e w' ⟨rfl, rfl⟩)
  refine (clone_any _ _ _ _ _ HA.out (by omega)).mono ?_
  rintro e w1 ⟨A1, n1, c1, rfl, ho, hbo⟩
  have hn1 : n1 = n := by have := ho.len; omega
  subst hn1
  have hst : ∀ (a : Addr) (fn : Fn) (x y : Array Value) (W : World), (store a (.func fn x y)).run Try.prog W = stored Try.prog W a (.func fn x y) .plain := fun a fn x y W => run_store Try.prog W a _ _ rfl
  go_wp2_with fail
  have hm : w1.cell? ⟨w.heap.size, 0, none⟩ = some (.int .i64 m) := by
    have := hbo.cell (p := ⟨w.heap.size, 0, none⟩) (by simp)
    rw [this]; simp
  have hb1 : Below w.heap.size w w1 := HB.out.trans (hbo.mono HB.out.size)
  have hws := Lib.hid (ws_start (T1 := 22) (T2 := 3) (T3 := 29) (by simpa using ho) hb1 hm)
  clear ho hbo hb1
  rcases Nat.eq_zero_or_pos n1 with h0 | h0
  · subst h0
    refine (arrange_leaf m (by omega) (by omega) w _ _ _ _ _ _ _ _ _ _ hws.out HS.out).mono ?_
    rintro e w4 ⟨rfl, h4⟩
    obtain rfl : xs = [] := List.eq_nil_of_length_eq_zero hl
    have ew := worstF_eq (Wst.isMax_nil (spanF m) [])
    rw [Int.max_eq_right (spanF_nn _ _), ew] at h4
    have c4 := h4.worst
    have H4 := Lib.hid h4.below
    clear h4 ew
    go_wp2_with fail
    go_ret2
    exact ⟨rfl, H4.out⟩
  · have hf := hws.out.own.form h0
    obtain ⟨g, hg, _, _⟩ := hf
    have key := arrange_any m (by omega) (by omega) w w1.heap.size (w1.heap.size + 1) w.heap.size (w1.heap.size + 1 + 1) g n1 c1 n1 0 (by omega) xs 0 _ (by rw [← hg]; exact hws.out) HS.out
    refine key.mono ?_
    rintro e w4 ⟨rfl, u, hu, h4⟩
    rw [List.take_zero, List.drop_zero] at hu
    have ew := worstF_eq hu
    rw [Int.max_eq_right (IsMax.nn (spanF_nn m) hu), ew] at h4
    have c4 := h4.worst
    have H4 := Lib.hid h4.below
    clear h4 ew hu key
    go_wp2_with fail
    go_ret2
    exact ⟨rfl, H4.out⟩
end Go.Proofs.Ytcfakainajpebaa
