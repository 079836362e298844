
/- impl: powers.upTo, powers.degree, PowerDegree. -/
import Derived.Test.YtbfpllmoaooadaaPowDeg
import Derived.Laws.CopyOwn
import Derived.Deep.RegionHeld3
namespace Go.Proofs.Ytbfpllmoaooadaa
set_option linter.unusedVariables false
open Go.RowKit
def seven (f : Nat → Int) : List Value := [.int .i64 (f 0), .int .i64 (f 1), .int .i64 (f 2), .int .i64 (f 3), .int .i64 (f 4), .int .i64 (f 5), .int .i64 (f 6)]
theorem seven_get (f : Nat → Int) {j : Nat} (hj : j < 7) : (seven f)[j]? = some (.int .i64 (f j)) := by
  rcases (show j = 0 ∨ j = 1 ∨ j = 2 ∨ j = 3 ∨ j = 4 ∨ j = 5 ∨ j = 6 from by omega) with rfl | rfl | rfl | rfl | rfl | rfl | rfl <;> rfl
theorem arr_alloc {w : World} {B : Nat} {f : Nat → Int} (h : Arr w B f) (hB : B < w.heap.size) (o : Obj) : Arr (w.alloc o) B f := fun j hj => by
  have hk := (World.grownBy_alloc w o none).block B hB (by simp)
  refine ⟨(World.cell?_of_block (a := ⟨B, j, none⟩) hk).trans (h j hj).1, ?_⟩
  have := (h j hj).2
  unfold World.frozen? at this ⊢
  simp only [hk] at this ⊢
  exact this
theorem arr_below {w w' : World} {B N : Nat} {f : Nat → Int} (h : Arr w B f) (hb : Below N w w') (hB : B < N) : Arr w' B f := fun j hj => by
  have hk := hb.block B hB
  refine ⟨(World.cell?_of_block (a := ⟨B, j, none⟩) hk).trans (h j hj).1, ?_⟩
  have := (h j hj).2
  unfold World.frozen? at this ⊢
  simp only [hk] at this ⊢
  exact this
theorem arr_new (w : World) (f : Nat → Int) (t : TypeId) : Arr (w.alloc (.cells #[.int .i64 (f 0), .int .i64 (f 1), .int .i64 (f 2), .int .i64 (f 3), .int .i64 (f 4), .int .i64 (f 5), .int .i64 (f 6)] t)) w.heap.size f := fun j hj => by
  rcases (show j = 0 ∨ j = 1 ∨ j = 2 ∨ j = 3 ∨ j = 4 ∨ j = 5 ∨ j = 6 from by omega) with rfl | rfl | rfl | rfl | rfl | rfl | rfl <;> simp
theorem up_world (w : World) (f : Nat → Int) (t : TypeId) (o0 o1 : Obj) (h0 : o0 = .cells #[.int .i64 (f 0), .int .i64 (f 1), .int .i64 (f 2), .int .i64 (f 3), .int .i64 (f 4), .int .i64 (f 5), .int .i64 (f 6)] t) (h1 : o1 = .cells #[.int .i64 0, .int .i64 0, .int .i64 0, .int .i64 0, .int .i64 0, .int .i64 0, .int .i64 0] t) :
    Arr (((w.alloc o0).alloc o1).alloc o1) w.heap.size f ∧ Arr (((w.alloc o0).alloc o1).alloc o1) (w.heap.size + 1) (fun _ => 0) ∧ (((w.alloc o0).alloc o1).alloc o1).heap[w.heap.size + 1 + 1]? = some o1 ∧ Below w.heap.size w (((w.alloc o0).alloc o1).alloc o1) := by
  subst h0 h1
  refine ⟨arr_alloc (arr_alloc (arr_new w f t) (by simp) _) (by simp; omega) _, ?_, ?_, ((((Below.refl w.heap.size w).alloc (Nat.le_refl _) _).alloc (by simp) _).alloc (by simp; omega) _)⟩
  · have := arr_alloc (arr_new (w.alloc (.cells #[.int .i64 (f 0), .int .i64 (f 1), .int .i64 (f 2), .int .i64 (f 3), .int .i64 (f 4), .int .i64 (f 5), .int .i64 (f 6)] t)) (fun _ => 0) t) (by simp) (.cells #[.int .i64 0, .int .i64 0, .int .i64 0, .int .i64 0, .int .i64 0, .int .i64 0, .int .i64 0] t)
    simpa using this
  · have := heap_alloc_new ((w.alloc (.cells #[.int .i64 (f 0), .int .i64 (f 1), .int .i64 (f 2), .int .i64 (f 3), .int .i64 (f 4), .int .i64 (f 5), .int .i64 (f 6)] t)).alloc (.cells #[.int .i64 0, .int .i64 0, .int .i64 0, .int .i64 0, .int .i64 0, .int .i64 0, .int .i64 0] t)) (.cells #[.int .i64 0, .int .i64 0, .int .i64 0, .int .i64 0, .int .i64 0, .int .i64 0, .int .i64 0] t)
    simpa using this
theorem splice_get (f : Nat → Int) (k : Nat) (hk : k ≤ 6) (j : Nat) (hj : j < 7) : (splice (List.replicate 7 (Value.int .i64 0)) 0 ((seven f).take (k + 1)))[j]? = some (.int .i64 (if j ≤ k then f j else 0)) := by
  rcases (show k = 0 ∨ k = 1 ∨ k = 2 ∨ k = 3 ∨ k = 4 ∨ k = 5 ∨ k = 6 from by omega) with rfl | rfl | rfl | rfl | rfl | rfl | rfl <;>
    rcases (show j = 0 ∨ j = 1 ∨ j = 2 ∨ j = 3 ∨ j = 4 ∨ j = 5 ∨ j = 6 from by omega) with rfl | rfl | rfl | rfl | rfl | rfl | rfl <;> rfl
set_option maxRecDepth 100000 in
set_option maxHeartbeats 1600000 in
theorem upTo_any (f g : Nat → Int) (k : Nat) (hk : k ≤ 6) (hg : ∀ j, j < 7 → g j = if j ≤ k then f j else 0) (w : World) :
    Calls Try.prog 80 #[agg7 f, .int .i64 k] w (fun e w' => e = .returned (agg7 g) ∧ Below w.heap.size w w') := by
  unfold agg7
  have HGG := Lib.hid hg
  clear hg
  have hw : IntKind.i64.wrap ((k : Int) + 1) = ((k : Int) + 1) := IntWalk.i64_in _ (by omega)
  have z1 : (0 : Int) ≤ ((k : Int) + 1) := by omega
  have z2 : ((k : Int) + 1) ≤ 7 := by omega
  have z3 : ((k : Int) + 1).toNat = k + 1 := by omega
  have HC := Lib.hid (show ∀ W : World, (∀ j, j < 7 → W.cell? ⟨w.heap.size, j, none⟩ = some (.int .i64 (f j))) → ∀ (j : Nat) (v : Value), ((seven f).take (k + 1))[j]? = some v → W.cell? ((⟨w.heap.size, 0, none⟩ : Addr).add j) = some v from fun W hW j v hv => by
    have hj : j < 7 := by
      have := (List.getElem?_eq_some_iff.1 hv).1
      simp [seven] at this
      omega
    have hjk : j < k + 1 := by
      have := (List.getElem?_eq_some_iff.1 hv).1
      simp [seven] at this
      omega
    rw [List.getElem?_take, if_pos hjk, seven_get f hj] at hv
    rw [Addr.add_lit, Nat.zero_add, hW j hj]
    exact hv)
  go_enter Try.func80, Try.ntmps80
  go_wp2_with fail
  obtain ⟨hA, hR, hg, hb⟩ := up_world w f 56 _ _ rfl rfl
  generalize (((w.alloc (.cells #[.int .i64 (f 0), .int .i64 (f 1), .int .i64 (f 2), .int .i64 (f 3), .int .i64 (f 4), .int .i64 (f 5), .int .i64 (f 6)] 56)).alloc (.cells #[.int .i64 0, .int .i64 0, .int .i64 0, .int .i64 0, .int .i64 0, .int .i64 0, .int .i64 0] 56)).alloc (.cells #[.int .i64 0, .int .i64 0, .int .i64 0, .int .i64 0, .int .i64 0, .int .i64 0, .int .i64 0] 56)) = W3 at hA hR hg hb ⊢
  have HA3 := Lib.hid hA
  have HR3 := Lib.hid hR
  have HG3 := Lib.hid hg
  have HB3 := Lib.hid hb
  clear hA hR hg hb
  go_region_held3 (fun w' => True) (trivial)
    ((refine step_copy_splice (by rfl) _ _ _ _ (by rfl) 3 Try.underlying22 (by kernel_rfl) _ _ _ _ _ _ (by exact rfl) (by exact rfl) (w.heap.size + 1 + 1) 0 (List.replicate 7 (.int .i64 0)) 56 (by exact HG3.out) ((seven f).take (k + 1)) (by simp [seven]; omega) (fun _ => ⟨rfl, _, rfl, HC.out _ (fun j hj => (HA3.out j hj).1)⟩) (by simp [seven]; omega) (fun v hv => by have := List.mem_of_mem_take hv; simp [seven] at this; rcases this with rfl | rfl | rfl | rfl | rfl | rfl | rfl <;> rfl) (w.heap.size + 1 + 1) W3 (below_drewN (Below.refl _ _) 1) (by omega) ?_
      intro wc hgc hbc))
  have hc := fun (j : Nat) (hj : j < 7) => (cell_of_row wc (w.heap.size + 1 + 1) j _ _ _ hgc.out).trans ((List.getElem?_toArray ..).trans ((splice_get f k hk j hj).trans (congrArg (fun x => some (Value.int .i64 x)) (HGG.out j hj).symm)))
  have HB4 := Lib.hid (HB3.out.trans (hbc.mono (by omega)))
  have HR4 := Lib.hid (arr_below HR3.out hbc (by omega))
  have c0 := hc 0 (by omega)
  have c1 := hc 1 (by omega)
  have c2 := hc 2 (by omega)
  have c3 := hc 3 (by omega)
  have c4 := hc 4 (by omega)
  have c5 := hc 5 (by omega)
  have c6 := hc 6 (by omega)
  have d0 := HR4.out 0 (by omega)
  have d1 := HR4.out 1 (by omega)
  have d2 := HR4.out 2 (by omega)
  have d3 := HR4.out 3 (by omega)
  have d4 := HR4.out 4 (by omega)
  have d5 := HR4.out 5 (by omega)
  have d6 := HR4.out 6 (by omega)
  clear hc hgc hbc HC HA3 HG3
  go_wp2_with fail
  have s0 := HR4.out.set (k := 0) (by omega) (g 0)
  have s1 := s0.set (k := 1) (by omega) (g 1)
  have s2 := s1.set (k := 2) (by omega) (g 2)
  have s3 := s2.set (k := 3) (by omega) (g 3)
  have s4 := s3.set (k := 4) (by omega) (g 4)
  have s5 := s4.set (k := 5) (by omega) (g 5)
  have s6 := s5.set (k := 6) (by omega) (g 6)
  have hbf := (((((((HB4.out.setCell (p := ⟨w.heap.size + 1, 0, none⟩) (by simp) (.int .i64 (g 0))).setCell (p := ⟨w.heap.size + 1, 1, none⟩) (by simp) (.int .i64 (g 1))).setCell (p := ⟨w.heap.size + 1, 2, none⟩) (by simp) (.int .i64 (g 2))).setCell (p := ⟨w.heap.size + 1, 3, none⟩) (by simp) (.int .i64 (g 3))).setCell (p := ⟨w.heap.size + 1, 4, none⟩) (by simp) (.int .i64 (g 4))).setCell (p := ⟨w.heap.size + 1, 5, none⟩) (by simp) (.int .i64 (g 5))).setCell (p := ⟨w.heap.size + 1, 6, none⟩) (by simp) (.int .i64 (g 6)))
  revert s6 hbf
  generalize (((((((wc.setCell ⟨w.heap.size + 1, 0, none⟩ (.int .i64 (g 0))).setCell ⟨w.heap.size + 1, 1, none⟩ (.int .i64 (g 1))).setCell ⟨w.heap.size + 1, 2, none⟩ (.int .i64 (g 2))).setCell ⟨w.heap.size + 1, 3, none⟩ (.int .i64 (g 3))).setCell ⟨w.heap.size + 1, 4, none⟩ (.int .i64 (g 4))).setCell ⟨w.heap.size + 1, 5, none⟩ (.int .i64 (g 5))).setCell ⟨w.heap.size + 1, 6, none⟩ (.int .i64 (g 6))) = wf
  intro s6 hbf
  have r0 := (s6 0 (by omega)).1
  have r1 := (s6 1 (by omega)).1
  have r2 := (s6 2 (by omega)).1
  have r3 := (s6 3 (by omega)).1
  have r4 := (s6 4 (by omega)).1
  have r5 := (s6 5 (by omega)).1
  have r6 := (s6 6 (by omega)).1
  simp at r0 r1 r2 r3 r4 r5 r6
  clear s0 s1 s2 s3 s4 s5 s6 c0 c1 c2 c3 c4 c5 c6 d0 d1 d2 d3 d4 d5 d6
  refine bodyPost_ret_by (v := agg7 g) ?_ rfl ⟨rfl, hbf⟩
  rw [results_cell rfl]
  go_simp
  rfl
end Go.Proofs.Ytbfpllmoaooadaa
