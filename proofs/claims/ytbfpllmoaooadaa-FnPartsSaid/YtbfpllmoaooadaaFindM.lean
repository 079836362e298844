
/- impl.meet: the walk; what a search finds: the plain laws. -/
import Derived.Test.YtbfpllmoaooadaaFindT
import Derived.Test.YtbfpllmoaooadaaShelf
import Derived.Test.YtbfpllmoaooadaaPartsW
import Derived.Test.YtbfpllmoaooadaaPowDegK
namespace Go.Proofs.Ytbfpllmoaooadaa.Fd
set_option linter.unusedVariables false
theorem mem_threes {n : Nat} {r : List Int} (h : r ∈ threes n) : ∃ x y z : Nat, x ≤ y ∧ y ≤ z ∧ z ≤ n ∧ r = [(x : Int), (y : Int), (z : Int)] := by
  unfold threes rows row at h
  simp only [List.mem_flatMap, List.mem_map, List.mem_range'_1] at h
  obtain ⟨x, ⟨_, h1⟩, y, ⟨h2, h3⟩, z, ⟨h4, h5⟩, rfl⟩ := h
  exact ⟨x, y, z, h2, h4, by omega, rfl⟩
theorem hit_yes {a b : List Int} {l : List (List Int)} (h : good a b = true) : hit a (b :: l) = some b := by unfold hit; simp [h]
theorem hit_no {a b : List Int} {l : List (List Int)} (h : good a b = false) : hit a (b :: l) = hit a l := by unfold hit; simp [h]
theorem first_some {a b : List Int} {l : List (List Int)} (h : hit a l = some b) : first (a :: l) = some (a, b) := by simp [first, h]
theorem first_none {a : List Int} {l : List (List Int)} (h : hit a l = none) : first (a :: l) = first l := by simp [first, h]
theorem drop_getD {S : List (List Int)} {i : Nat} (h : i < S.length) : S.drop i = S.getD i [] :: S.drop (i + 1) := by rw [List.drop_eq_getElem_cons h]; simp [List.getD, h]
end Go.Proofs.Ytbfpllmoaooadaa.Fd
namespace Go.Proofs.Ytbfpllmoaooadaa
open Go.RowKit
theorem three_facts {n : Nat} (hn : n ≤ 12) {r : List Int} (h : r ∈ Fd.threes n) : r.length = 3 ∧ (∀ x ∈ r, -50 ≤ x ∧ x ≤ 50) ∧ pIn r = true ∧ r.Pairwise (fun a b => a ≤ b) := by
  obtain ⟨x, y, z, h1, h2, h3, rfl⟩ := Fd.mem_threes h
  have hs : [(x : Int), (y : Int), (z : Int)].Pairwise (fun a b => a ≤ b) := by simp; omega
  have hb : ∀ v ∈ [(x : Int), (y : Int), (z : Int)], -50 ≤ v ∧ v ≤ 50 := by
    intro v hv
    simp at hv
    rcases hv with rfl | rfl | rfl <;> omega
  refine ⟨rfl, hb, ?_, hs⟩
  have := Srt.up_eq (List.Perm.refl _) hs
  refine pIn_true.2 ⟨by simp, fun j hj => ?_, fun j hj => ?_⟩
  · have := List.pairwise_iff_getElem.1 hs j (j + 1) (by omega) hj (by omega)
    rw [Srt.getD_eq (by omega), Srt.getD_eq hj]; exact this
  · rw [Srt.getD_eq hj]; exact hb _ (by simp)
theorem good_iff {a b : List Int} (ha : a.length = 3) (hb : b.length = 3) {d : Int} (hd : IsDeg (fun j => Nw.ps j a) (fun j => Nw.ps j b) d) : Fd.good a b = true ↔ 2 ≤ d ∧ a.any (fun x => b.contains x) = false := by
  have h0 : Nw.ps 0 a = Nw.ps 0 b := by rw [Nw.ps_zero, Nw.ps_zero, ha, hb]
  have key : 2 ≤ d ↔ Nw.ps 1 a = Nw.ps 1 b ∧ Nw.ps 2 a = Nw.ps 2 b := by
    obtain ⟨d1, d2, d3, d4⟩ := hd
    constructor
    · intro h; exact ⟨d3 1 (by omega), d3 2 (by omega)⟩
    · rintro ⟨e1, e2⟩
      by_cases h : 2 ≤ d
      · exact h
      · exfalso
        rcases (show d = -1 ∨ d = 0 ∨ d = 1 from by omega) with rfl | rfl | rfl
        · exact d4 0 (by omega) (by omega) h0
        · exact d4 1 (by omega) (by omega) e1
        · exact d4 2 (by omega) (by omega) e2
  unfold Fd.good
  rw [Bool.and_eq_true, Bool.and_eq_true, beq_iff_eq, beq_iff_eq, key, and_assoc]
  have e : (a.all fun x => !b.contains x) = !(a.any fun x => b.contains x) := by rw [List.not_any_eq_all_not]
  rw [e]
  simp
theorem parts_three {a b : List Int} (ha : a.length = 3) (sa : a.Pairwise (fun a b => a ≤ b)) (sb : b.Pairwise (fun a b => a ≤ b)) : (Pt.parts a b).1.length = 3 ↔ a.any (fun x => b.contains x) = false := by
  rw [← ha, Pt.parts_all a b sa sb]
  rw [List.any_eq_false]
  constructor
  · intro h x hx; simp; exact fun hb => h x hx hb
  · intro h z h1 h2
    have := h z h1
    simp at this
    exact this h2
theorem contains_any (A : Option Addr) (n c : Nat) (ys : List Int) (x : Int) (w : World) (h : Rd w w.heap.size A n ys) (hn : 0 < n) (hm : n ≤ 1000000) (v : Bool) (hv : ys.contains x = v) :
    Calls Try.prog 81 #[.slice A n c, .int .i64 x] w (RetV w (.bool v)) := by
  obtain ⟨b, o, rfl, hb, hc⟩ := h.at_ hn
  have hl := h.len
  refine (Try.slices_Contains_int b o n c ys x w (by omega) (by omega) (by rw [hl]; exact hc)).mono fun e w' ⟨h1, h2⟩ => ?_
  rw [List.take_of_length_le (by omega), hv] at h1
  exact ⟨h1, h2.symm⟩
set_option maxHeartbeats 800000 in
theorem meet_any (A : Option Addr) (n c : Nat) (xs : List Int) (A' : Option Addr) (n' c' : Nat) (ys : List Int) (w : World) (ha : Rd w w.heap.size A n xs) (hb : Rd w w.heap.size A' n' ys) (hn : n ≤ 1000) (hn0 : 0 < n') (hn' : n' ≤ 1000) (v : Bool) (hv : xs.any (fun x => ys.contains x) = v) :
    Calls Try.prog 73 #[.slice A n c, .slice A' n' c'] w (RetV w (.bool v)) := by
  have HA := Lib.hid ha
  have HL := Lib.hid ha.len
  have HB := Lib.hid hb
  have HV := Lib.hid hv
  clear ha hb hv
  go_enter Try.func73, Try.ntmps73
  go_wp2_with fail
  go_loop [9] (fun i => ∃ (k : Nat), k ≤ n ∧ i = .int .i64 k ∧ Hid (∀ j, j < k → ys.contains (xs.getD j 0) = false)) (fun i => n - (intOf i).toNat)
  case atStart => exact ⟨0, by omega, by go_num, Lib.hid (fun j h => by omega)⟩
  case round =>
    obtain ⟨k, hk, rfl, HR⟩ := hrel
    by_cases hlt : k < n
    · have hltz : (k : Int) < (n : Int) := by omega
      obtain ⟨b1, o1, rfl, hb1, hcc⟩ := HA.out.at_ hlt
      have g1 := hcc k hlt
      obtain ⟨x, hx⟩ : ∃ x, xs.getD k 0 = x := ⟨_, rfl⟩
      rw [hx] at g1
      have HX := Lib.hid hx
      clear hx hcc
      cases hc : ys.contains x with
      | true =>
        have HC := Lib.hid hc
        have hvt : v = true := by
          rw [← HV.out, List.any_eq_true]
          exact ⟨x, by rw [← HX.out]; exact getD_mem (by rw [HL.out]; exact hlt), hc⟩
        subst hvt
        clear hc
        go_wp2_with (go_at_call 81; refine (contains_any _ _ _ _ _ _ HB.out hn0 (by omega) _ HC.out).mono ?_; rintro e w' ⟨rfl, rfl⟩)
        go_ret
        exact ⟨rfl, rfl⟩
      | false =>
        have HC := Lib.hid hc
        clear hc
        go_wp2_with (go_at_call 81; refine (contains_any _ _ _ _ _ _ HB.out hn0 (by omega) _ HC.out).mono ?_; rintro e w' ⟨rfl, rfl⟩)
        have hN : Hid (∀ j, j < k + 1 → ys.contains (xs.getD j 0) = false) := Lib.hid (fun j h => by
          by_cases hj : j = k
          · subst hj; rw [HX.out]; exact HC.out
          · exact HR.out j (by omega))
        go_round
        case rel => exact ⟨k + 1, by omega, by go_num, hN⟩
        case measure => simp [intOf]; omega
    · have hvf : v = false := by
        rw [← HV.out, List.any_eq_false]
        intro x hx
        obtain ⟨j, hj, rfl⟩ := List.mem_iff_getElem.1 hx
        have := HR.out j (by rw [HL.out] at hj; omega)
        rw [Srt.getD_eq hj] at this
        simpa using this
      subst hvf
      go_wp2_with fail
      go_ret
      exact ⟨rfl, rfl⟩
theorem run_sliceFromR (w : World) (A : Option Addr) (n c i : Nat) (hi : i ≤ n) :
    (Instr.slice 68 (.slice A n c) (some (.int .i64 i)) none none).run Try.prog w = .ok (.slice (dropA A c i) (n - i) (c - i)) w := by
  obtain ⟨i0, hi0, hz0, hz1, hz2⟩ := info_parts rows_info
  have h1 : (0 : Int) ≤ (i : Int) ∧ (i : Int) ≤ (n : Int) := ⟨by omega, by omega⟩
  simp [Instr.slice, Instr.sliceBounds, Instr.sliceBound, asIntOf, run_underlying Try.underlying68, sizeOf, typeInfo, hi0, hz1, h1, hi, dropA]
/-- What the search hands back. -/
def RetFind (w : World) (R : Option (List Int × List Int)) (e : Ending) (w' : World) : Prop := match R with
  | none => RetOwn2B w [] [] false e w'
  | some p => RetOwn2B w p.1 p.2 true e w'
end Go.Proofs.Ytbfpllmoaooadaa
