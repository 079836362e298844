
/- BinLeast, both packages. -/
import Derived.Test.YtbihdajoflaknaaLeastJ
import Derived.Test.YtbihdajoflaknaaSortJ
namespace Go.Proofs.Ytbihdajoflaknaa
set_option linter.unusedVariables false
open Go.RowKit
theorem wl_start {w w1 : World} {AN : Option Addr} {m cN : Nat} {xs : List Int} {C : Int} {T1 T2 T3 T4 : TypeId} (ho : Own w1 (w.heap.size + 1) AN m cN xs) (hb : Below w.heap.size w w1) (hs : w1.cell? ⟨w.heap.size, 0, none⟩ = some (.int .i64 C)) :
    WL w (w1.heap.size + 1 + 1 + 1) (w1.heap.size + 1) w1.heap.size (w1.heap.size + 1 + 1 + 1 + 1) w.heap.size AN m cN xs C (some ⟨w1.heap.size + 1 + 1, 0, none⟩) 0 0 [] m
      (((((w1.alloc (.cells #[.slice AN m cN] T1)).alloc (.cells #[.int .i64 m] T2)).alloc (.cells #[] 3)).alloc (.cells #[.slice (some ⟨w1.heap.size + 1 + 1, 0, none⟩) 0 0] T3)).alloc (.cells #[.func (.func 27) #[] #[.pointer (some ⟨w1.heap.size + 1 + 1 + 1, 0, none⟩), .pointer (some ⟨w1.heap.size + 1, 0, none⟩), .pointer (some ⟨w1.heap.size, 0, none⟩), .pointer (some ⟨w1.heap.size + 1 + 1 + 1 + 1, 0, none⟩), .pointer (some ⟨w.heap.size, 0, none⟩)]] T4)) := by
  have hlt : w.heap.size < w1.heap.size := World.block_lt_of_cell? w1 _ hs
  have hA : ∀ g, blk AN = some g → w.heap.size + 1 ≤ g ∧ g < w1.heap.size := ho.lt
  have hne : ∀ b, (b = w.heap.size ∨ w1.heap.size ≤ b) → blk AN ≠ some b := fun b hb' e => by have := hA b e; omega
  have he := own_empty ((w1.alloc (.cells #[.slice AN m cN] T1)).alloc (.cells #[.int .i64 m] T2))
  refine ⟨((((hb.alloc (by omega) _).alloc (by simp; omega) _).alloc (by simp; omega) _).alloc (by simp; omega) _).alloc (by simp; omega) _, ?_, ((((((ho.mono (by omega)).alloc _).alloc _).alloc _).alloc _).alloc _), ?_, ?_, ?_, ?_, ?_, ?_, ?_, by omega, by omega, by omega, ⟨hne _ (by omega), hne _ (by omega)⟩, ?_⟩
  · have := ((he.alloc (.cells #[.slice (some ⟨w1.heap.size + 1 + 1, 0, none⟩) 0 0] T3)).alloc (.cells #[.func (.func 27) #[] #[.pointer (some ⟨w1.heap.size + 1 + 1 + 1, 0, none⟩), .pointer (some ⟨w1.heap.size + 1, 0, none⟩), .pointer (some ⟨w1.heap.size, 0, none⟩), .pointer (some ⟨w1.heap.size + 1 + 1 + 1 + 1, 0, none⟩), .pointer (some ⟨w.heap.size, 0, none⟩)]] T4)).mono (base' := w.heap.size) (by simp; omega)
    simpa using this
  · rw [World.cell?_alloc_lt _ _ ⟨w1.heap.size + 1 + 1 + 1, 0, none⟩ (by simp), World.cell?_alloc_at _ _ _ _ (by simp)]; rfl
  · rw [World.frozen?_alloc_old _ _ ⟨w1.heap.size + 1 + 1 + 1, 0, none⟩ (by simp), World.frozen?_alloc_at _ _ _ _ (by simp)]
  · rw [World.cell?_alloc_lt _ _ ⟨w1.heap.size + 1, 0, none⟩ (by simp <;> omega), World.cell?_alloc_lt _ _ ⟨w1.heap.size + 1, 0, none⟩ (by simp <;> omega), World.cell?_alloc_lt _ _ ⟨w1.heap.size + 1, 0, none⟩ (by simp)]; simp
  · rw [World.frozen?_alloc_old _ _ ⟨w1.heap.size + 1, 0, none⟩ (by simp <;> omega), World.frozen?_alloc_old _ _ ⟨w1.heap.size + 1, 0, none⟩ (by simp <;> omega), World.frozen?_alloc_old _ _ ⟨w1.heap.size + 1, 0, none⟩ (by simp)]; simp
  · rw [World.cell?_alloc_lt _ _ ⟨w1.heap.size, 0, none⟩ (by simp <;> omega), World.cell?_alloc_lt _ _ ⟨w1.heap.size, 0, none⟩ (by simp <;> omega), World.cell?_alloc_lt _ _ ⟨w1.heap.size, 0, none⟩ (by simp <;> omega), World.cell?_alloc_lt _ _ ⟨w1.heap.size, 0, none⟩ (by simp)]; simp
  · rw [World.cell?_alloc_lt _ _ ⟨w.heap.size, 0, none⟩ (by simp <;> omega), World.cell?_alloc_lt _ _ ⟨w.heap.size, 0, none⟩ (by simp <;> omega), World.cell?_alloc_lt _ _ ⟨w.heap.size, 0, none⟩ (by simp <;> omega), World.cell?_alloc_lt _ _ ⟨w.heap.size, 0, none⟩ (by simp <;> omega), World.cell?_alloc_lt _ _ ⟨w.heap.size, 0, none⟩ hlt]; exact hs
  · rw [World.cell?_alloc_at _ _ _ _ (by simp)]; rfl
  · intro g e
    simp [blk] at e
    exact ⟨by omega, by omega, by omega, by omega, by omega, hne _ (by omega)⟩
set_option maxHeartbeats 800000 in
theorem implBinLeast_no (A : Option Addr) (n c : Nat) (xs : List Int) (C : Int) (w : World) (ha : Rd w w.heap.size A n xs) (hn : n ≤ 1000000000) (h : bnOk xs C = false) :
    Calls Try.prog 13 #[.slice A n c, .int .i64 C] w (RetIB w 0 false) := by
  have hb : Below w.heap.size w (w.alloc (.cells #[.int .i64 C] 3)) := (Below.refl _ _).alloc (Nat.le_refl _) _
  have ha2 : Rd (w.alloc (.cells #[.int .i64 C] 3)) (w.alloc (.cells #[.int .i64 C] 3)).heap.size A n xs := (ha.below hb).lt
  go_enter Try.func13, Try.ntmps13
  go_wp2_with (go_at_call 18; refine (binsTold_any _ _ _ _ _ _ ha2 hn _ h).mono ?_; rintro e w' ⟨rfl, rfl⟩)
  go_ret2
  exact ⟨rfl, hb⟩
set_option maxHeartbeats 1600000 in
theorem implBinLeast_yes (A : Option Addr) (n c : Nat) (xs : List Int) (C : Int) (w : World) (ha : Rd w w.heap.size A n xs) (h : bnOk xs C = true) :
    Calls Try.prog 13 #[.slice A n c, .int .i64 C] w (RetIB w (leastF C xs) true) := by
  have hl := ha.len
  have hb : Below w.heap.size w (w.alloc (.cells #[.int .i64 C] 3)) := (Below.refl _ _).alloc (Nat.le_refl _) _
  have ha2 : Rd (w.alloc (.cells #[.int .i64 C] 3)) (w.alloc (.cells #[.int .i64 C] 3)).heap.size A n xs := (ha.below hb).lt
  obtain ⟨h1, h2, h3, h4, h5⟩ := bnOk_in h
  have HX := Lib.hid h3
  have HA := Lib.hid ha2
  have HH := Lib.hid h
  have HB := Lib.hid hb
  have hn : n ≤ 10 := by omega
  have hst : ∀ (a : Addr) (fn : Fn) (x y : Array Value) (W : World), (store a (.func fn x y)).run Try.prog W = stored Try.prog W a (.func fn x y) .plain := fun a fn x y W => run_store Try.prog W a _ _ rfl
  clear ha ha2 h h1 h2 h3 hb
  go_enter Try.func13, Try.ntmps13
  go_wp2_with (go_at_call 18; refine (binsTold_any _ _ _ _ _ _ HA.out (by omega) _ HH.out).mono ?_; rintro e w' ⟨rfl, rfl⟩)
  refine (inOrder_any _ _ _ _ _ HA.out (by omega)).mono ?_
  rintro e w1 ⟨AN, m, cN, rfl, ho, hbo⟩
  have hlm := ho.len
  have hpm := Srt.dn_perm xs
  have hmn : m = n := by rw [← hlm, ← hl]; exact hpm.length_eq
  subst hmn
  have hs : w1.cell? ⟨w.heap.size, 0, none⟩ = some (.int .i64 C) := by
    have := hbo.cell (p := ⟨w.heap.size, 0, none⟩) (by simp)
    rw [this]; simp
  have hb1 : Below w.heap.size w w1 := HB.out.trans (hbo.mono HB.out.size)
  have hws := Lib.hid (wl_start (T1 := 22) (T2 := 3) (T3 := 22) (T4 := 50) (by simpa using ho) hb1 hs)
  clear ho hbo hb1 hs
  have key := put_any w (w1.heap.size + 1 + 1 + 1) (w1.heap.size + 1) w1.heap.size (w1.heap.size + 1 + 1 + 1 + 1) w.heap.size AN m cN (Srt.dn xs) C h4 h5 (fun x hx => HX.out x (hpm.subset hx)) hn m 0 (by omega) _ 0 0 [] m _ hws.out (Nat.le_refl _) hn (fun r hr => by simp at hr)
  rw [List.drop_zero] at key
  have HP := Lib.hid hpm
  have HLM := Lib.hid hlm
  clear hpm hlm
  go_wp2_with fail
  refine key.mono ?_
  rintro e w4 ⟨rfl, A', c', M, hbest, h4w⟩
  have hleast : Pk.IsLeast C xs M := by
    rw [← HLM.out] at hbest
    exact (Pk.best_least (fun x hx => by have := HX.out x (HP.out.subset hx); omega) hbest).perm HP.out
  have hM := leastF_eq hleast
  subst hM
  have c4 := h4w.cl
  have H4 := Lib.hid h4w.below
  clear h4w hbest hleast key
  go_wp2_with fail
  go_ret2
  exact ⟨rfl, H4.out⟩
end Go.Proofs.Ytbihdajoflaknaa
