
/- Lists of signs: what is refused. -/
import Derived.Test.YtehggnafglnmaaaDoorAs
import Derived.Test.YtehggnafglnmaaaDoorSum
namespace Go.Proofs.YtehggnafglnmaaaDoor
set_option linter.unusedVariables false
open Go.RowKit
/-- What package errors' variable holds. -/
def GL (w : World) : Prop := w.cell? ⟨0, 0, none⟩ = some (.iface 54 (.agg #[.pointer (some ⟨1, 32, none⟩)]))
theorem GL.below {w w' : World} (h : GL w) (hb : Below w.heap.size w w') : GL w' := by
  have hlt : (0 : Nat) < w.heap.size := World.block_lt_of_cell? w _ h
  exact (hb.cell (p := ⟨0, 0, none⟩) hlt).trans h
/-- An error or none. -/
def RetE (w : World) (ok : Bool) (e : Ending) (w' : World) : Prop :=
  (ok = true ∧ e = .returned .nilIface ∨ ok = false ∧ ∃ g : Nat, e = .returned (.iface 35 (.pointer (some ⟨g, 0, none⟩)))) ∧ Below w.heap.size w w'
def sgOk (xs : List Int) : Bool := xs.all fun x => decide (-1 ≤ x ∧ x ≤ 1)
theorem sgOk_true {xs : List Int} (h : sgOk xs = true) : ∀ x ∈ xs, -1 ≤ x ∧ x ≤ 1 := by
  intro x hx
  have := List.all_eq_true.1 h x hx
  simpa using this
theorem sgOk_mk {xs : List Int} (h : ∀ x ∈ xs, -1 ≤ x ∧ x ≤ 1) : sgOk xs = true := List.all_eq_true.2 fun x hx => by simpa using h x hx
theorem sgOk_false {xs : List Int} {k : Nat} (hk : k < xs.length) (h : ¬ (-1 ≤ xs.getD k 0 ∧ xs.getD k 0 ≤ 1)) : sgOk xs = false := by
  cases e : sgOk xs with
  | false => rfl
  | true => exact absurd (sgOk_true e _ (getD_mem hk)) h
set_option maxHeartbeats 800000 in
theorem check_any (A : Option Addr) (n c : Nat) (xs : List Int) (w : World) (ha : Rd w w.heap.size A n xs) (hn : n ≤ 1000000000) :
    Calls Tryd.prog 14 #[.slice A n c] w (RetE w (sgOk xs)) := by
  have hl := ha.len
  go_enter Tryd.func14, Tryd.ntmps14
  go_wp2_with fail
  go_loop [7] (fun i => ∃ k : Nat, k ≤ n ∧ i = .int .i64 k ∧ Hid (∀ j, j < k → -1 ≤ xs.getD j 0 ∧ xs.getD j 0 ≤ 1)) (fun i => n - (intOf i).toNat)
  case atStart => exact ⟨0, by omega, rfl, fun j hj => absurd hj (by omega)⟩
  case round =>
    obtain ⟨k, hk, rfl, HA⟩ := hrel
    by_cases hlt : k < n
    · obtain ⟨b1, o1, rfl, _, hc1⟩ := ha.at_ hlt
      have g1 := hc1 k hlt
      obtain ⟨x, hx⟩ : ∃ x, xs.getD k 0 = x := ⟨_, rfl⟩
      rw [hx] at g1
      have HX := Lib.hid hx
      clear hc1 ha hx
      by_cases hx1 : x < -1
      · have d1 : decide (x < -1) = true := decide_eq_true hx1
        go_wp2_with fail
        go_ret
        exact ⟨.inr ⟨sgOk_false (k := k) (by omega) (by rw [HX.out]; omega), _, rfl⟩, (Below.refl _ _).alloc (Nat.le_refl _) _⟩
      · have d1 : decide (x < -1) = false := decide_eq_false hx1
        by_cases hx2 : 1 < x
        · have d2 : decide (1 < x) = true := decide_eq_true hx2
          go_wp2_with fail
          go_ret
          exact ⟨.inr ⟨sgOk_false (k := k) (by omega) (by rw [HX.out]; omega), _, rfl⟩, (Below.refl _ _).alloc (Nat.le_refl _) _⟩
        · have d2 : decide (1 < x) = false := decide_eq_false hx2
          go_wp2_with fail
          go_round
          case rel =>
            refine ⟨k + 1, by omega, by go_num, fun j hj => ?_⟩
            rcases Nat.lt_or_ge j k with h | h
            · exact HA.out j h
            · have : j = k := by omega
              subst this
              rw [HX.out]
              omega
          case measure => simp [intOf]; omega
    · have hkn : k = n := by omega
      subst hkn
      clear ha
      go_wp2_with fail
      go_ret
      exact ⟨.inl ⟨sgOk_mk (all_of_getD (by rw [hl]; exact HA.out)), rfl⟩, Below.refl _ _⟩
set_option maxHeartbeats 800000 in
theorem refused_nil (w : World) : Calls Tryd.prog 13 #[.nilIface] w (RetB w false) := by
  go_enter Tryd.func13, Tryd.ntmps13
  go_wp2_with (go_at_call 15; refine (as_nil _ _).mono ?_; rintro e w' ⟨rfl, rfl⟩)
  go_ret
  exact ⟨rfl, (Below.refl _ _).alloc (Nat.le_refl _) _⟩
set_option maxHeartbeats 1600000 in
theorem refused_hit (g : Nat) (w : World) (hg : GL w) : Calls Tryd.prog 13 #[.iface 35 (.pointer (some ⟨g, 0, none⟩))] w (RetB w true) := by
  have hgA : GL (w.alloc (.cells #[.pointer none] 35)) := hg.below ((Below.refl _ _).alloc (Nat.le_refl _) _)
  have HG := Lib.hid hgA
  have htA : (w.alloc (.cells #[.pointer none] 35)).cell? ⟨w.heap.size, 0, none⟩ = some (.pointer none) := by simp
  have hfA : (w.alloc (.cells #[.pointer none] 35)).frozen? ⟨w.heap.size, 0, none⟩ = false := by simp
  have HT := Lib.hid htA
  have HF := Lib.hid hfA
  clear hgA hg htA hfA
  go_enter Tryd.func13, Tryd.ntmps13
  go_wp2_with (go_at_call 15; refine (as_hit _ _ (.pointer none) _ HG.out HT.out HF.out).mono ?_; rintro e w' ⟨rfl, rfl⟩)
  go_ret
  exact ⟨rfl, (((((Below.refl _ _).alloc (Nat.le_refl _) _).alloc (by simp) _).alloc (by simp; omega) _).alloc (by simp; omega) _).alloc (by simp; omega) _⟩
theorem refused_any (ok : Bool) (v : Value) (w : World) (hg : GL w) (hv : ok = true ∧ v = .nilIface ∨ ok = false ∧ ∃ g : Nat, v = .iface 35 (.pointer (some ⟨g, 0, none⟩))) : Calls Tryd.prog 13 #[v] w (RetB w (!ok)) := by
  rcases hv with ⟨rfl, rfl⟩ | ⟨rfl, g, rfl⟩
  · exact refused_nil w
  · exact refused_hit g w hg
end Go.Proofs.YtehggnafglnmaaaDoor
