
/- impl.powersOf: the walk. -/
import Derived.Test.YtbfpllmoaooadaaPowSum
import Derived.Below
namespace Go.Proofs.Ytbfpllmoaooadaa
set_option linter.unusedVariables false
open Go.RowKit
/-- Seven ints in a block. -/
def Arr (w : World) (B : Nat) (f : Nat → Int) : Prop := ∀ j, j < 7 → w.cell? ⟨B, j, none⟩ = some (.int .i64 (f j)) ∧ w.frozen? ⟨B, j, none⟩ = false
theorem Arr.set {w : World} {B : Nat} {f : Nat → Int} (h : Arr w B f) {k : Nat} (hk : k < 7) (x : Int) : Arr (w.setCell ⟨B, k, none⟩ (.int .i64 x)) B (fun j => if j = k then x else f j) := fun j hj => by
  refine ⟨?_, by rw [World.frozen?_setCell]; exact (h j hj).2⟩
  by_cases e : j = k
  · subst e
    show _ = some (Value.int .i64 (if j = j then x else f j))
    rw [if_pos rfl]
    exact World.cell?_setCell_same _ _ _ (h j hj).1
  · show _ = some (Value.int .i64 (if j = k then x else f j))
    rw [if_neg e]
    exact (World.cell?_setCell_other w ⟨B, k, none⟩ ⟨B, j, none⟩ _ (by intro he; injection he with _ h2; omega)).trans (h j hj).1
theorem Arr.far {w : World} {B : Nat} {f : Nat → Int} (h : Arr w B f) {G k : Nat} (hG : G ≠ B) (v : Value) : Arr (w.setCell ⟨G, k, none⟩ v) B f := fun j hj => by
  refine ⟨?_, by rw [World.frozen?_setCell]; exact (h j hj).2⟩
  exact (World.cell?_setCell_other w ⟨G, k, none⟩ ⟨B, j, none⟩ _ (by intro he; injection he with h1 _; omega)).trans (h j hj).1
theorem Arr.congr {w : World} {B : Nat} {f g : Nat → Int} (h : Arr w B f) (e : ∀ j, j < 7 → f j = g j) : Arr w B g := fun j hj => by rw [← e j hj]; exact h j hj
theorem results_cell {fn : Func} {p : Tmp} {ty : TypeId} (h : fn.results = #[.cell p ty]) (tmps : Array Value) (P : Program) (w : World) :
    (results fn tmps).run P w = ((asAddr (tmps.getD p undef)).run P w).andThen fun a w₁ => (loadVar ty a).run P w₁ := by
  simp only [results, h]
  simp [Sem.run_bind, Result.andThen]
/-- The value of seven power sums. -/
def agg7 (f : Nat → Int) : Value := .agg #[.int .i64 (f 0), .int .i64 (f 1), .int .i64 (f 2), .int .i64 (f 3), .int .i64 (f 4), .int .i64 (f 5), .int .i64 (f 6)]
set_option maxRecDepth 100000 in
set_option maxHeartbeats 1600000 in
theorem powersOf_any (A : Option Addr) (n c : Nat) (xs : List Int) (w : World) (ha : Rd w w.heap.size A n xs) (hn : n ≤ 8) (hx : ∀ x ∈ xs, -50 ≤ x ∧ x ≤ 50) :
    Calls Try.prog 62 #[.slice A n c] w (fun e w' => e = .returned (agg7 (fun j => Nw.ps j xs)) ∧ Below w.heap.size w w') := by
  have HA := Lib.hid ha
  have HL := Lib.hid ha.len
  have HX := Lib.hid hx
  clear ha hx
  have HB0 := Lib.hid (((Below.refl w.heap.size w).alloc (Nat.le_refl _) (.cells #[.int .i64 0, .int .i64 0, .int .i64 0, .int .i64 0, .int .i64 0, .int .i64 0, .int .i64 0] 56)).alloc (by simp) (.cells #[.int .i64 0, .int .i64 0, .int .i64 0, .int .i64 0, .int .i64 0, .int .i64 0, .int .i64 0] 56))
  go_enter Try.func62, Try.ntmps62
  go_wp2_with fail
  have HA1 := Lib.hid (HA.out.below HB0.out)
  obtain ⟨R, hR⟩ : ∃ R, w.heap.size = R := ⟨_, rfl⟩
  have HS0 := Lib.hid (show Arr ((w.alloc (.cells #[.int .i64 0, .int .i64 0, .int .i64 0, .int .i64 0, .int .i64 0, .int .i64 0, .int .i64 0] 56)).alloc (.cells #[.int .i64 0, .int .i64 0, .int .i64 0, .int .i64 0, .int .i64 0, .int .i64 0, .int .i64 0] 56)) (w.heap.size + 1) (fun j => Nw.ps j (xs.take 0)) from fun j hj => by
    rcases (show j = 0 ∨ j = 1 ∨ j = 2 ∨ j = 3 ∨ j = 4 ∨ j = 5 ∨ j = 6 from by omega) with rfl | rfl | rfl | rfl | rfl | rfl | rfl <;> simp)
  have HR0 := Lib.hid (show Arr ((w.alloc (.cells #[.int .i64 0, .int .i64 0, .int .i64 0, .int .i64 0, .int .i64 0, .int .i64 0, .int .i64 0] 56)).alloc (.cells #[.int .i64 0, .int .i64 0, .int .i64 0, .int .i64 0, .int .i64 0, .int .i64 0, .int .i64 0] 56)) w.heap.size (fun j => 0) from fun j hj => by
    rcases (show j = 0 ∨ j = 1 ∨ j = 2 ∨ j = 3 ∨ j = 4 ∨ j = 5 ∨ j = 6 from by omega) with rfl | rfl | rfl | rfl | rfl | rfl | rfl <;> simp)
  clear hR
  go_loopw [10] (fun i wr => ∃ (k : Nat), k ≤ n ∧ i = .int .i64 k ∧ Hid (Arr wr (w.heap.size + 1) (fun j => Nw.ps j (xs.take k))) ∧ Hid (Arr wr w.heap.size (fun _ => 0)) ∧ Hid (Below w.heap.size w wr)) (fun i _ => n - (intOf i).toNat)
  case atStart => exact ⟨0, by omega, by go_num, HS0, HR0, HB0⟩
  case round =>
    obtain ⟨k, hk, rfl, HS, HR, HB⟩ := hrel
    clear HS0 HR0 HB0
    by_cases hlt : k < n
    · have hltz : (k : Int) < (n : Int) := by omega
      have dv : decide ((k : Int) < (n : Int)) = true := decide_eq_true hltz
      have HAw := Lib.hid (HA.out.below HB.out)
      obtain ⟨b1, o1, rfl, hb1, hcc⟩ := HAw.out.at_ hlt
      have g1 := hcc k hlt
      have hr := HX.out _ (getD_mem (xs := xs) (k := k) (by rw [HL.out]; exact hlt))
      have HT := Lib.hid (fun j => ps_take (xs := xs) (k := k) (by rw [HL.out]; exact hlt) j)
      have HBd := Lib.hid (fun (j : Nat) (hj : j ≤ 7) => ps_bound8 hj (l := xs.take k) (by rw [List.length_take]; omega) (fun x hx => HX.out x (List.mem_of_mem_take hx)))
      obtain ⟨x, hx⟩ : ∃ x, xs.getD k 0 = x := ⟨_, rfl⟩
      rw [hx] at g1 hr HT
      clear hx hcc
      obtain ⟨r1, r2⟩ := hr
      go_wp2_with fail
      obtain ⟨wm, rfl⟩ : ∃ wm : World, wm = wr := ⟨_, rfl⟩
      go_loopw [6, 14] (fun p kv wq => ∃ (i : Nat), i ≤ 7 ∧ kv = .int .i64 i ∧ p = .int .i64 (x ^ i) ∧ Hid (Arr wq (w.heap.size + 1) (fun j => if j < i then Nw.ps j (xs.take (k + 1)) else Nw.ps j (xs.take k))) ∧ Hid (Arr wq w.heap.size (fun _ => 0)) ∧ Hid (Below w.heap.size w wq)) (fun _ kv _ => 7 - (intOf kv).toNat)
      case atStart => exact ⟨0, by omega, by go_num, by simp, Lib.hid (HS.out.congr fun j hj => by simp), HR, HB⟩
      case round =>
        obtain ⟨i, hi, rfl, rfl, HS1, HR1, HB1⟩ := hrel
        clear HS HR HB
        have hp := pow_bound r1 r2 (j := i) hi
        by_cases h7 : i < 7
        · have h7z : (i : Int) < 7 := by omega
          have hp1 := pow_bound r1 r2 (j := i + 1) (by omega)
          rw [Int.pow_succ] at hp1
          have hpE : Hid (x ^ (i + 1) = x ^ i * x) := Lib.hid (Int.pow_succ _ _)
          have c1 := (HS1.out i h7).1
          have f1 := (HS1.out i h7).2
          simp only [Nat.lt_irrefl, if_false] at c1
          have hb := HBd.out i (by omega)
          have hTi := HT.out i
          have hS2 := fun v => HS1.out.set h7 v
          obtain ⟨P, hP⟩ : ∃ P, x ^ i = P := ⟨_, rfl⟩
          obtain ⟨S, hS⟩ : ∃ S, Nw.ps i (xs.take k) = S := ⟨_, rfl⟩
          rw [hP] at hp hp1 hpE hTi ⊢
          rw [hS] at c1 hb hTi
          have HTi := Lib.hid hTi
          have HS2 := Lib.hid hS2
          clear hP hS hTi hS2
          obtain ⟨p1, p2⟩ := hp
          obtain ⟨s1, s2⟩ := hb
          have hw : IntKind.i64.wrap (P * x) = P * x := IntWalk.i64_in _ (by omega)
          have hw2 : IntKind.i64.wrap (S + P) = S + P := IntWalk.i64_in _ (by omega)
          clear hp1
          have i0 : (0 : Int) ≤ (i : Int) := by omega
          have i3 : ((i : Int)).toNat = i := by omega
          go_wp2_with fail
          refine ⟨⟨i + 1, by omega, by go_num, by rw [hpE.out], ?_, Lib.hid (HR1.out.far (by omega) _), Lib.hid (HB1.out.setCell (by simp) _)⟩, by simp [intOf]; omega⟩
          refine Lib.hid ((HS2.out (S + P)).congr fun j hj => ?_)
          by_cases hji : j = i
          · subst hji
            rw [if_pos rfl, if_pos (by omega), HTi.out]
          · rw [if_neg hji]
            by_cases hj2 : j < i
            · rw [if_pos hj2, if_pos (by omega)]
            · rw [if_neg hj2, if_neg (by omega)]
        · obtain rfl : i = 7 := by omega
          go_wp2_with fail
          go_roundw
          case rel => exact ⟨k + 1, by omega, by go_num, Lib.hid (HS1.out.congr fun j hj => by simp [hj]), HR1, HB1⟩
          case measure => simp [intOf]; omega
    · obtain rfl : k = n := by omega
      have e1 : xs.take k = xs := List.take_of_length_le (by rw [HL.out]; omega)
      rw [e1] at HS
      clear e1
      have c0 := (HS.out 0 (by omega)).1
      have c1 := (HS.out 1 (by omega)).1
      have c2 := (HS.out 2 (by omega)).1
      have c3 := (HS.out 3 (by omega)).1
      have c4 := (HS.out 4 (by omega)).1
      have c5 := (HS.out 5 (by omega)).1
      have c6 := (HS.out 6 (by omega)).1
      have d0 := HR.out 0 (by omega)
      have d1 := HR.out 1 (by omega)
      have d2 := HR.out 2 (by omega)
      have d3 := HR.out 3 (by omega)
      have d4 := HR.out 4 (by omega)
      have d5 := HR.out 5 (by omega)
      have d6 := HR.out 6 (by omega)
      go_wp2_with fail
      have s0 := HR.out.set (k := 0) (by omega) (Nw.ps 0 xs)
      have s1 := s0.set (k := 1) (by omega) (Nw.ps 1 xs)
      have s2 := s1.set (k := 2) (by omega) (Nw.ps 2 xs)
      have s3 := s2.set (k := 3) (by omega) (Nw.ps 3 xs)
      have s4 := s3.set (k := 4) (by omega) (Nw.ps 4 xs)
      have s5 := s4.set (k := 5) (by omega) (Nw.ps 5 xs)
      have s6 := s5.set (k := 6) (by omega) (Nw.ps 6 xs)
      have hbf := ((((((HB.out.setCell (p := ⟨w.heap.size, 0, none⟩) (Nat.le_refl _) (.int .i64 (Nw.ps 0 xs))).setCell (p := ⟨w.heap.size, 1, none⟩) (Nat.le_refl _) (.int .i64 (Nw.ps 1 xs))).setCell (p := ⟨w.heap.size, 2, none⟩) (Nat.le_refl _) (.int .i64 (Nw.ps 2 xs))).setCell (p := ⟨w.heap.size, 3, none⟩) (Nat.le_refl _) (.int .i64 (Nw.ps 3 xs))).setCell (p := ⟨w.heap.size, 4, none⟩) (Nat.le_refl _) (.int .i64 (Nw.ps 4 xs))).setCell (p := ⟨w.heap.size, 5, none⟩) (Nat.le_refl _) (.int .i64 (Nw.ps 5 xs))).setCell (p := ⟨w.heap.size, 6, none⟩) (Nat.le_refl _) (.int .i64 (Nw.ps 6 xs))
      revert s6 hbf
      generalize (((((((wr.setCell ⟨w.heap.size, 0, none⟩ (.int .i64 (Nw.ps 0 xs))).setCell ⟨w.heap.size, 1, none⟩ (.int .i64 (Nw.ps 1 xs))).setCell ⟨w.heap.size, 2, none⟩ (.int .i64 (Nw.ps 2 xs))).setCell ⟨w.heap.size, 3, none⟩ (.int .i64 (Nw.ps 3 xs))).setCell ⟨w.heap.size, 4, none⟩ (.int .i64 (Nw.ps 4 xs))).setCell ⟨w.heap.size, 5, none⟩ (.int .i64 (Nw.ps 5 xs))).setCell ⟨w.heap.size, 6, none⟩ (.int .i64 (Nw.ps 6 xs))) = wf
      intro s6 hbf
      have r0 := (s6 0 (by omega)).1
      have r1 := (s6 1 (by omega)).1
      have r2 := (s6 2 (by omega)).1
      have r3 := (s6 3 (by omega)).1
      have r4 := (s6 4 (by omega)).1
      have r5 := (s6 5 (by omega)).1
      have r6 := (s6 6 (by omega)).1
      simp at r0 r1 r2 r3 r4 r5 r6
      clear s0 s1 s2 s3 s4 s5 s6 c0 c1 c2 c3 c4 c5 c6 d0 d1 d2 d3 d4 d5 d6
      refine bodyPost_ret_by (v := agg7 (fun j => Nw.ps j xs)) ?_ rfl ⟨rfl, hbf⟩
      rw [results_cell rfl]
      go_simp
      rfl
end Go.Proofs.Ytbfpllmoaooadaa
