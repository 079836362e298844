
/- impl: powers.degree, PowerDegree. -/
import Derived.Test.YtbfpllmoaooadaaPowDegI
import Derived.Laws.StructEq
namespace Go.Proofs.Ytbfpllmoaooadaa
set_option linter.unusedVariables false
open Go.RowKit
theorem cells14 {w' : World} {B C : Nat} {f h : Nat → Int} (hf : Arr w' B f) (hh : Arr w' C h) : w'.cell? ⟨B, 0, none⟩ = some (.int .i64 (f 0)) ∧ w'.cell? ⟨B, 1, none⟩ = some (.int .i64 (f 1)) ∧ w'.cell? ⟨B, 2, none⟩ = some (.int .i64 (f 2)) ∧ w'.cell? ⟨B, 3, none⟩ = some (.int .i64 (f 3)) ∧ w'.cell? ⟨B, 4, none⟩ = some (.int .i64 (f 4)) ∧ w'.cell? ⟨B, 5, none⟩ = some (.int .i64 (f 5)) ∧ w'.cell? ⟨B, 6, none⟩ = some (.int .i64 (f 6)) ∧ w'.cell? ⟨C, 0, none⟩ = some (.int .i64 (h 0)) ∧ w'.cell? ⟨C, 1, none⟩ = some (.int .i64 (h 1)) ∧ w'.cell? ⟨C, 2, none⟩ = some (.int .i64 (h 2)) ∧ w'.cell? ⟨C, 3, none⟩ = some (.int .i64 (h 3)) ∧ w'.cell? ⟨C, 4, none⟩ = some (.int .i64 (h 4)) ∧ w'.cell? ⟨C, 5, none⟩ = some (.int .i64 (h 5)) ∧ w'.cell? ⟨C, 6, none⟩ = some (.int .i64 (h 6)) :=
  ⟨(hf 0 (by omega)).1, (hf 1 (by omega)).1, (hf 2 (by omega)).1, (hf 3 (by omega)).1, (hf 4 (by omega)).1, (hf 5 (by omega)).1, (hf 6 (by omega)).1, (hh 0 (by omega)).1, (hh 1 (by omega)).1, (hh 2 (by omega)).1, (hh 3 (by omega)).1, (hh 4 (by omega)).1, (hh 5 (by omega)).1, (hh 6 (by omega)).1⟩
theorem all_range_eqI : ∀ (xs ys : List Int), xs.length = ys.length → ((List.range xs.length).all fun i => xs.getD i 0 == ys.getD i 0) = (xs == ys)
  | [], [], _ => rfl
  | x :: xs, y :: ys, h => by
    have ih := all_range_eqI xs ys (by simpa using h)
    rw [List.length_cons, List.range_succ_eq_map, List.all_cons, List.all_map]
    simp only [List.getD_cons_zero, Function.comp_def, List.getD_cons_succ, ih]
    simp [List.cons_beq_cons]
  | [], _ :: _, h => by simp at h
  | _ :: _, [], h => by simp at h
/-- '==' on arrays of ints. -/
theorem run_equalIn_ints {P : Program} (w : World) (d : Nat) (t e : TypeId) (n : Nat) (ht : P.underlying t = some (.array n e)) (he : P.underlying e = some (.int .i64)) (hsz : ∀ w, (sizeOf e).run P w = .ok 1 w)
    (xs ys : List Int) (hx : xs.length = n) (hy : ys.length = n) :
    (Op.equalIn (d + 2) t (.agg (ints xs).toArray) (.agg (ints ys).toArray)).run P w = .ok (xs == ys) w := by
  unfold ints
  rw [← all_range_eqI xs ys (hx.trans hy.symm), hx, List.range_eq_range', Op.equalIn]
  simp only [Sem.run_bind, run_underlying ht, Result.andThen_ok, hsz, Std.Legacy.Range.forIn_eq_forIn_range', Std.Legacy.Range.size, Nat.sub_zero, Nat.add_sub_cancel, Nat.div_one]
  have hl : ∀ i ∈ List.range' 0 n 1, i < n := fun i hi => by simpa using (List.mem_range'_1.1 hi).2
  generalize List.range' 0 n 1 = l at hl ⊢
  induction l with
  | nil => simp
  | cons i l ih =>
    have hi : i < n := hl i (by simp)
    have px : (part e (xs.map (Value.int .i64)).toArray (i * 1)).run P w = .ok (.int .i64 (xs.getD i 0)) w := by
      simp [part, isAgg, run_underlying he, List.getD, List.getElem?_eq_getElem (show i < xs.length by omega)]
    have py : (part e (ys.map (Value.int .i64)).toArray (i * 1)).run P w = .ok (.int .i64 (ys.getD i 0)) w := by
      simp [part, isAgg, run_underlying he, List.getD, List.getElem?_eq_getElem (show i < ys.length by omega)]
    have pe : (Op.equalIn (d + 1) e (.int .i64 (xs.getD i 0)) (.int .i64 (ys.getD i 0))).run P w = .ok (xs.getD i 0 == ys.getD i 0) w := run_equalIn_int w d e .i64 .i64 _ _ he
    simp only [List.forIn_cons, Sem.run_bind, px, py, pe, Result.andThen_ok, List.all_cons]
    cases hb : (xs.getD i 0 == ys.getD i 0)
    · simp
    · simp only [Bool.not_true, Bool.false_eq_true, if_false, Sem.run_pure, Result.andThen_ok, Bool.true_and]
      exact ih fun j hj => hl j (by simp [hj])
theorem run_eql_seven (f h : Nat → Int) (b : Bool) (hb : b = true ↔ ∀ j, j < 7 → f j = h j) (w : World) :
    (binOp .eql 56 (.agg #[.int .i64 (f 0), .int .i64 (f 1), .int .i64 (f 2), .int .i64 (f 3), .int .i64 (f 4), .int .i64 (f 5), .int .i64 (f 6)]) (.agg #[.int .i64 (h 0), .int .i64 (h 1), .int .i64 (h 2), .int .i64 (h 3), .int .i64 (h 4), .int .i64 (h 5), .int .i64 (h 6)])).run Try.prog w = .ok (.bool b) w := by
  have key := run_equalIn_ints (P := Try.prog) w 9998 56 3 7 Try.underlying56 Try.underlying3 (fun w => Try.sizeOf3 w) [f 0, f 1, f 2, f 3, f 4, f 5, f 6] [h 0, h 1, h 2, h 3, h 4, h 5, h 6] rfl rfl
  have e : ([f 0, f 1, f 2, f 3, f 4, f 5, f 6] == [h 0, h 1, h 2, h 3, h 4, h 5, h 6]) = b := by
    rw [Bool.eq_iff_iff, hb, beq_iff_eq]
    constructor
    · intro e j hj
      simp only [List.cons.injEq] at e
      rcases (show j = 0 ∨ j = 1 ∨ j = 2 ∨ j = 3 ∨ j = 4 ∨ j = 5 ∨ j = 6 from by omega) with rfl | rfl | rfl | rfl | rfl | rfl | rfl
      · exact e.1
      · exact e.2.1
      · exact e.2.2.1
      · exact e.2.2.2.1
      · exact e.2.2.2.2.1
      · exact e.2.2.2.2.2.1
      · exact e.2.2.2.2.2.2.1
    · intro e
      rw [e 0 (by omega), e 1 (by omega), e 2 (by omega), e 3 (by omega), e 4 (by omega), e 5 (by omega), e 6 (by omega)]
  rw [e] at key
  rw [run_eql_struct]
  exact (congrArg (fun r => Result.andThen r fun (b : Bool) w' => Result.ok (Value.bool b) w') key).trans rfl
set_option maxRecDepth 100000 in
set_option maxHeartbeats 3200000 in
theorem degree_any (f h : Nat → Int) (w : World) (d : Int) (hd : IsDeg f h d) :
    Calls Try.prog 65 #[agg7 f, agg7 h] w (RetI w d) := by
  have HD := Lib.hid hd
  clear hd
  have hgd := fun (x y : Operand) (xs ys : Array Value) (wx : World) => run_eqGuard_agg (P := Try.prog) wx .eql 56 x y xs ys (by kernel_rfl)
  have HF0 := Lib.hid (arr_alloc (arr_new w f 56) (by simp) (.cells #[.int .i64 (h 0), .int .i64 (h 1), .int .i64 (h 2), .int .i64 (h 3), .int .i64 (h 4), .int .i64 (h 5), .int .i64 (h 6)] 56))
  have HH0 := Lib.hid (show Arr ((w.alloc (.cells #[.int .i64 (f 0), .int .i64 (f 1), .int .i64 (f 2), .int .i64 (f 3), .int .i64 (f 4), .int .i64 (f 5), .int .i64 (f 6)] 56)).alloc (.cells #[.int .i64 (h 0), .int .i64 (h 1), .int .i64 (h 2), .int .i64 (h 3), .int .i64 (h 4), .int .i64 (h 5), .int .i64 (h 6)] 56)) (w.heap.size + 1) h from by
    have := arr_new (w.alloc (.cells #[.int .i64 (f 0), .int .i64 (f 1), .int .i64 (f 2), .int .i64 (f 3), .int .i64 (f 4), .int .i64 (f 5), .int .i64 (f 6)] 56)) h 56
    simpa using this)
  have HB0 := Lib.hid (((Below.refl w.heap.size w).alloc (Nat.le_refl _) (.cells #[.int .i64 (f 0), .int .i64 (f 1), .int .i64 (f 2), .int .i64 (f 3), .int .i64 (f 4), .int .i64 (f 5), .int .i64 (f 6)] 56)).alloc (by simp) (.cells #[.int .i64 (h 0), .int .i64 (h 1), .int .i64 (h 2), .int .i64 (h 3), .int .i64 (h 4), .int .i64 (h 5), .int .i64 (h 6)] 56))
  unfold agg7
  go_enter Try.func65, Try.ntmps65
  go_wp2_with fail
  go_loopw [5] (fun i wr => ∃ (m : Nat) (x : Int), m ≤ 7 ∧ x = (m : Int) - 1 ∧ i = .int .i64 x ∧ Hid (∀ j : Nat, m ≤ j → j ≤ 6 → ¬ ∀ i, i ≤ j → f i = h i) ∧ Hid (Arr wr w.heap.size f) ∧ Hid (Arr wr (w.heap.size + 1) h) ∧ Hid (Below w.heap.size w wr) ∧ w.heap.size + 2 ≤ wr.heap.size) (fun i _ => (intOf i + 1).toNat)
  case atStart => exact ⟨7, 6, by omega, by omega, rfl, Lib.hid (fun j h1 h2 => by omega), HF0, HH0, HB0, by simp⟩
  case round =>
    obtain ⟨m, x, hm, hxm, rfl, HN, HF, HH, HB, hsz⟩ := hrel
    clear HF0 HH0 HB0
    rcases Nat.eq_zero_or_pos m with h0 | h0
    · subst h0
      obtain rfl : x = -1 := by omega
      have hdx : d = -1 := HD.out.one ⟨by omega, by omega, fun j hj => by omega, fun j hj _ => by
        obtain rfl : j = 0 := by omega
        intro e
        exact HN.out 0 (by omega) (by omega) (fun i hi => by
          obtain rfl : i = 0 := by omega
          exact e)⟩
      have HDX := Lib.hid hdx
      clear hdx hxm
      have d6 : decide ((-1 : Int) ≥ 0) = false := by decide
      go_wp2_with fail
      go_ret
      exact ⟨ret_int HDX.out.symm, HB.out⟩
    · obtain ⟨p, rfl⟩ : ∃ p, m = p + 1 := ⟨m - 1, by omega⟩
      obtain rfl : x = (p : Int) := by omega
      clear hxm h0
      have hp6 : p ≤ 6 := by omega
      have d6 : decide ((p : Int) ≥ 0) = true := decide_eq_true (by omega)
      obtain ⟨b, hb⟩ : ∃ b : Bool, b = true ↔ ∀ i, i ≤ p → f i = h i := by
        by_cases e : ∀ i, i ≤ p → f i = h i
        · exact ⟨true, fun _ => e, fun _ => rfl⟩
        · exact ⟨false, fun h => (by cases h), fun h => absurd h e⟩
      have HBB := Lib.hid hb
      obtain ⟨g, hg⟩ : ∃ g : Nat → Int, ∀ j, g j = if j ≤ p then f j else 0 := ⟨_, fun j => rfl⟩
      obtain ⟨k, hk⟩ : ∃ k : Nat → Int, ∀ j, k j = if j ≤ p then h j else 0 := ⟨_, fun j => rfl⟩
      have hq := run_eql_seven g k b (by
        rw [hb]
        constructor
        · intro e j hj
          rw [hg, hk]
          by_cases hjp : j ≤ p
          · rw [if_pos hjp, if_pos hjp, e j hjp]
          · rw [if_neg hjp, if_neg hjp]
        · intro e j hj
          have := e j (by omega)
          rw [hg, hk, if_pos hj, if_pos hj] at this
          exact this)
      have HG := Lib.hid hg
      have HK := Lib.hid hk
      clear hb hg hk
      go_wp2_with fail
      have UF : Hid (∀ W : World, Calls Try.prog 80 #[.agg #[.int .i64 (f 0), .int .i64 (f 1), .int .i64 (f 2), .int .i64 (f 3), .int .i64 (f 4), .int .i64 (f 5), .int .i64 (f 6)], .int .i64 p] W (fun e w' => e = .returned (.agg #[.int .i64 (g 0), .int .i64 (g 1), .int .i64 (g 2), .int .i64 (g 3), .int .i64 (g 4), .int .i64 (g 5), .int .i64 (g 6)]) ∧ Below W.heap.size W w')) := Lib.hid (fun W => upTo_any f g p hp6 (fun j _ => HG.out j) W)
      have UH : Hid (∀ W : World, Calls Try.prog 80 #[.agg #[.int .i64 (h 0), .int .i64 (h 1), .int .i64 (h 2), .int .i64 (h 3), .int .i64 (h 4), .int .i64 (h 5), .int .i64 (h 6)], .int .i64 p] W (fun e w' => e = .returned (.agg #[.int .i64 (k 0), .int .i64 (k 1), .int .i64 (k 2), .int .i64 (k 3), .int .i64 (k 4), .int .i64 (k 5), .int .i64 (k 6)]) ∧ Below W.heap.size W w')) := Lib.hid (fun W => upTo_any h k p hp6 (fun j _ => HK.out j) W)
      have S0 := Lib.hid (cells14 HF.out HH.out)
      obtain ⟨wm, hwm⟩ : ∃ wm : World, wm = wr := ⟨_, rfl⟩
      subst hwm
      have HFd : Hid (Arr wm.drew w.heap.size f) := Lib.hid HF.out
      have HHd : Hid (Arr wm.drew (w.heap.size + 1) h) := Lib.hid HH.out
      have HBd : Hid (Below w.heap.size w wm.drew) := Lib.hid (below_drewN HB.out 1)
      go_region_held3 (fun w' => w'.cell? ⟨w.heap.size, 0, none⟩ = some (.int .i64 (f 0)) ∧ w'.cell? ⟨w.heap.size, 1, none⟩ = some (.int .i64 (f 1)) ∧ w'.cell? ⟨w.heap.size, 2, none⟩ = some (.int .i64 (f 2)) ∧ w'.cell? ⟨w.heap.size, 3, none⟩ = some (.int .i64 (f 3)) ∧ w'.cell? ⟨w.heap.size, 4, none⟩ = some (.int .i64 (f 4)) ∧ w'.cell? ⟨w.heap.size, 5, none⟩ = some (.int .i64 (f 5)) ∧ w'.cell? ⟨w.heap.size, 6, none⟩ = some (.int .i64 (f 6)) ∧ w'.cell? ⟨w.heap.size + 1, 0, none⟩ = some (.int .i64 (h 0)) ∧ w'.cell? ⟨w.heap.size + 1, 1, none⟩ = some (.int .i64 (h 1)) ∧ w'.cell? ⟨w.heap.size + 1, 2, none⟩ = some (.int .i64 (h 2)) ∧ w'.cell? ⟨w.heap.size + 1, 3, none⟩ = some (.int .i64 (h 3)) ∧ w'.cell? ⟨w.heap.size + 1, 4, none⟩ = some (.int .i64 (h 4)) ∧ w'.cell? ⟨w.heap.size + 1, 5, none⟩ = some (.int .i64 (h 5)) ∧ w'.cell? ⟨w.heap.size + 1, 6, none⟩ = some (.int .i64 (h 6)))
        (first | exact S0.out | exact S1.out | exact S2.out | fail)
        (first
          | (go_at_call 80; (with_reducible refine (UF.out wm.drew).mono ?_); rintro e wf ⟨rfl, hbf⟩; have F1 := Lib.hid (arr_below HFd.out hbf (by simp; omega)); have H1 := Lib.hid (arr_below HHd.out hbf (by simp; omega)); have S1 := Lib.hid (cells14 F1.out H1.out); have B1 := Lib.hid (HBd.out.trans (hbf.mono HBd.out.size)); have z1 : wm.heap.size ≤ wf.heap.size := hbf.size; clear hbf)
          | (go_at_call 80; (with_reducible refine (UH.out wm.drew).mono ?_); rintro e wf ⟨rfl, hbf⟩; have F1 := Lib.hid (arr_below HFd.out hbf (by simp; omega)); have H1 := Lib.hid (arr_below HHd.out hbf (by simp; omega)); have S1 := Lib.hid (cells14 F1.out H1.out); have B1 := Lib.hid (HBd.out.trans (hbf.mono HBd.out.size)); have z1 : wm.heap.size ≤ wf.heap.size := hbf.size; clear hbf)
          | (go_at_call 80; (with_reducible refine (UF.out wf).mono ?_); rintro e wg ⟨rfl, hbg⟩; have F2 := Lib.hid (arr_below F1.out hbg (by omega)); have H2 := Lib.hid (arr_below H1.out hbg (by omega)); have S2 := Lib.hid (cells14 F2.out H2.out); have B2 := Lib.hid (B1.out.trans (hbg.mono B1.out.size)); have z2 := hbg.size; clear hbg)
          | (go_at_call 80; (with_reducible refine (UH.out wf).mono ?_); rintro e wg ⟨rfl, hbg⟩; have F2 := Lib.hid (arr_below F1.out hbg (by omega)); have H2 := Lib.hid (arr_below H1.out hbg (by omega)); have S2 := Lib.hid (cells14 F2.out H2.out); have B2 := Lib.hid (B1.out.trans (hbg.mono B1.out.size)); have z2 := hbg.size; clear hbg)
          | fail)
      all_goals
        clear hq hgd UF UH S0 S1 S2
        cases b with
        | true =>
          have hdx : d = p := HD.out.one ⟨by omega, by omega, fun j hj => HBB.out.1 rfl j (by omega), fun j hj h6 => by
            obtain rfl : j = p + 1 := by omega
            intro e
            exact HN.out (p + 1) (by omega) h6 (fun i hi => by
              by_cases hip : i = p + 1
              · subst hip; exact e
              · exact HBB.out.1 rfl i (by omega))⟩
          have HDX := Lib.hid hdx
          clear hdx
          go_wp2_with fail
          go_ret
          exact ⟨ret_int HDX.out.symm, B2.out⟩
        | false =>
          have HN2 : Hid (∀ j : Nat, p ≤ j → j ≤ 6 → ¬ ∀ i, i ≤ j → f i = h i) := Lib.hid (fun j h1 h2 => by
            by_cases hjp : j = p
            · subst hjp; intro e; have := HBB.out.2 e; cases this
            · exact HN.out j (by omega) h2)
          go_wp2_with fail
          go_roundw
          case rel => exact ⟨p, (p : Int) - 1, by omega, by omega, by go_num, HN2, F2, H2, B2, by omega⟩
          case measure => simp [intOf]
end Go.Proofs.Ytbfpllmoaooadaa
