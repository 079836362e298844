
/- The laws' helpers: copies of slices, comparison, marks. -/
import Derived.Test.YtbfpllmoaooadaaMem
namespace Go.Proofs.Ytbfpllmoaooadaa
set_option linter.unusedVariables false
open Go.RowKit

/-- k, k + 1, .. : what the marks write. -/
def iota : Int → Nat → List Int
  | _, 0 => []
  | k, n + 1 => k :: iota (k + 1) n
theorem iota_length : ∀ (k : Int) (n : Nat), (iota k n).length = n
  | _, 0 => rfl
  | k, n + 1 => by simp [iota, iota_length (k + 1) n]
theorem iota_get : ∀ (k : Int) (n j : Nat), j < n → (iota k n).getD j 0 = k + j
  | k, n + 1, 0, _ => by simp [iota]
  | k, n + 1, j + 1, h => by
    have := iota_get (k + 1) n j (by omega)
    simp only [iota, List.getD_cons_succ]
    rw [this]; omega

set_option maxHeartbeats 400000 in
theorem eqIntS_same (A B : Option Addr) (n c d : Nat) (xs : List Int) (w : World) (ha : Rd w w.heap.size A n xs) (hb : Rd w w.heap.size B n xs) (hn : n ≤ 4611686018427387904) :
    Calls Try.prog 24 #[.slice A n c, .slice B n d] w (RetB w true) := by
  have hne : (((n : Nat) : Int) != (n : Int)) = false := by simp
  go_enter Try.func24, Try.ntmps24
  go_wp2
  go_loopw [5] (fun i wr => ∃ k q : Nat, k ≤ n ∧ i = .int .i64 k ∧ wr = w.drewN q) (fun i _ => n - (intOf i).toNat)
  case atStart => exact ⟨0, 0, by omega, rfl, rfl⟩
  case round =>
    obtain ⟨k, q, hk, rfl, rfl⟩ := hrel
    by_cases hlt : k < n
    · obtain ⟨b1, o1, rfl, _, hc1⟩ := ha.at_ hlt
      obtain ⟨b2, o2, rfl, _, hc2⟩ := hb.at_ hlt
      have g1 := hc1 k hlt
      have g2 := hc2 k hlt
      obtain ⟨x, hx⟩ : ∃ x, xs.getD k 0 = x := ⟨_, rfl⟩
      rw [hx] at g1 g2
      clear hc1 hc2 ha hb hx
      have hxx : (x != x) = false := by simp
      have i1 : (0 : Int) ≤ (k : Int) := by omega
      have i2 : (k : Int) < (n : Int) := by omega
      have i3 : ((k : Int)).toNat = k := by omega
      go_wp2
      go_quiet (fail)
      go_wp2
      go_roundw
      case rel => exact ⟨k + 1, q + nq, by omega, by go_num, rfl⟩
      case measure => simp [intOf]; omega
    · go_wp2
      go_ret
      exact ⟨rfl, below_drewN (Below.refl _ _) _⟩

set_option maxHeartbeats 400000 in
theorem heldIntS_iota (A : Option Addr) (n c : Nat) (k0 : Int) (w : World) (ha : Rd w w.heap.size A n (iota k0 n)) (hn : n ≤ 1000000000) (h0 : 0 ≤ k0) (h1 : k0 ≤ 1000000000) :
    Calls Try.prog 28 #[.slice A n c, .int .i64 k0] w (RetI w (k0 + n)) := by
  go_enter Try.func28, Try.ntmps28
  go_wp2
  go_loop [1, 5] (fun m i => ∃ k : Nat, k ≤ n ∧ i = .int .i64 k ∧ m = .int .i64 (k0 + k)) (fun _ i => n - (intOf i).toNat)
  case atStart => exact ⟨0, by omega, rfl, by simp⟩
  case round =>
    obtain ⟨k, hk, rfl, rfl⟩ := hrel
    by_cases hlt : k < n
    · obtain ⟨b1, o1, rfl, _, hc1⟩ := ha.at_ hlt
      have g1 := hc1 k hlt
      rw [iota_get _ _ _ hlt] at g1
      clear hc1 ha
      have hxx : ((k0 + (k : Int)) != (k0 + (k : Int))) = false := by simp
      go_wp2
      go_round
      case rel => exact ⟨k + 1, by omega, by go_num, by go_num⟩
      case measure => simp [intOf]; omega
    · have hkn : k = n := by omega
      subst hkn
      go_wp2
      go_ret
      exact ⟨rfl, Below.refl _ _⟩
/-- A mark is laid at each place. -/
def MarkAt (w : World) (base : Nat) (A : Option Addr) (n c : Nat) (k0 : Int) (e : Ending) (w' : World) : Prop :=
  e = .returned (.int .i64 (k0 + n)) ∧ Own w' base A n c (iota k0 n) ∧ w.grownBy w' (blk A)
theorem mark_step {xs : List Int} {k0 : Int} {k n : Nat} (hk : k < n) (hl : xs.length = n) : ((iota k0 k) ++ xs.drop k).set k (k0 + k) = iota k0 (k + 1) ++ xs.drop (k + 1) := by
  have key : ∀ (k : Nat) (k0 : Int) (xs : List Int), k < xs.length → ((iota k0 k) ++ xs.drop k).set k (k0 + k) = iota k0 (k + 1) ++ xs.drop (k + 1) := by
    intro k
    induction k with
    | zero =>
      intro k0 xs h
      match xs, h with
      | x :: xs, _ => simp [iota]
    | succ k ih =>
      intro k0 xs h
      match xs, h with
      | x :: xs, h =>
        simp only [List.length_cons] at h
        have := ih (k0 + 1) xs (by omega)
        simp only [iota, List.drop_succ_cons, List.cons_append, List.set_cons_succ] at this ⊢
        rw [show k0 + ((k + 1 : Nat) : Int) = k0 + 1 + (k : Int) from by omega, this]
  exact key k k0 xs (by omega)
set_option maxHeartbeats 400000 in
theorem markIntS_any (base : Nat) (A : Option Addr) (n c : Nat) (xs : List Int) (k0 : Int) (w : World) (ha : Own w base A n c xs) (hn : n ≤ 1000000000) (h0 : 0 ≤ k0) (h1 : k0 ≤ 1000000000) :
    Calls Try.prog 27 #[.slice A n c, .int .i64 k0] w (MarkAt w base A n c k0) := by
  have hl := ha.len
  go_enter Try.func27, Try.ntmps27
  go_wp2
  go_loopw [1, 5] (fun m i wr => ∃ k : Nat, k ≤ n ∧ i = .int .i64 k ∧ m = .int .i64 (k0 + k) ∧ Own wr base A n c (iota k0 k ++ xs.drop k) ∧ w.grownBy wr (blk A)) (fun _ i _ => n - (intOf i).toNat)
  case atStart => exact ⟨0, by omega, rfl, by simp, by simpa [iota] using ha, World.grownBy.refl _ _⟩
  case round =>
    obtain ⟨k, hk, rfl, rfl, hown, hg⟩ := hrel
    by_cases hlt : k < n
    · obtain ⟨g, rfl, _, _⟩ := hown.form (by omega)
      have g1 := hown.cell hlt
      have g2 := hown.free k
      have hst := hown.set_ k (k0 + k)
      rw [mark_step hlt hl] at hst
      obtain ⟨x, hx⟩ : ∃ x, (iota k0 k ++ xs.drop k).getD k 0 = x := ⟨_, rfl⟩
      rw [hx] at g1
      have H := Lib.hid hst
      have H2 := Lib.hid hg
      clear hx hst hown hl ha hg
      go_wp2
      go_roundw
      case rel => exact ⟨k + 1, by omega, by go_num, by go_num, H.out.1, grownBy_trans H2.out H.out.2⟩
      case measure => simp [intOf]; omega
    · have hkn : k = n := by omega
      subst hkn
      have H := Lib.hid hown
      have H2 := Lib.hid hg
      clear hown hg ha
      go_wp2
      go_ret
      exact ⟨rfl, by have := H.out; rw [List.drop_of_length_le (by omega), List.append_nil] at this; exact this, H2.out⟩
/-- n zeros. -/
theorem zeros_set {xs : List Int} {k n : Nat} (hk : k < n) (hl : xs.length = n) : (xs.take k ++ List.replicate (n - k) (0 : Int)).set k (xs.getD k 0) = xs.take (k + 1) ++ List.replicate (n - (k + 1)) 0 := by
  obtain ⟨m, hm⟩ : ∃ m, n - k = m + 1 := ⟨n - k - 1, by omega⟩
  have hm2 : n - (k + 1) = m := by omega
  rw [hm, hm2, List.replicate_succ, List.set_append_right _ _ (by simp; omega)]
  have e : k - (xs.take k).length = 0 := by simp; omega
  rw [e, List.set_cons_zero, List.take_succ_eq_append_getElem (by omega), List.append_assoc]
  have e2 : xs.getD k 0 = xs[k] := by simp [List.getD, show k < xs.length by omega]
  rw [e2]
  rfl
theorem own_made {w : World} {base g n c : Nat} (h : w.ownsRow base 3 1 (.slice (some ⟨g, 0, none⟩) n c) n (madeCells #[Value.int .i64 0] n).toList) : Own w base (some ⟨g, 0, none⟩) n c (List.replicate n 0) := by
  unfold Own ints
  have e : (madeCells #[Value.int .i64 0] n).toList = List.map (Value.int .i64) (List.replicate n 0) := by
    have := toList_madeCells_one (.int .i64 0) n
    rw [List.map_replicate]
    exact this
  rw [← e]
  exact h
set_option maxHeartbeats 400000 in
theorem toIntS_any (A : Option Addr) (n c : Nat) (xs : List Int) (w : World) (ha : Rd w w.heap.size A n xs) (hn : n ≤ 1000000000) :
    Calls Try.prog 22 #[.slice A n c] w (RetOwn w xs) := by
  obtain ⟨i0, hi, hz0, hz1, hz2⟩ := info_parts int_info
  have hl := ha.len
  go_enter Try.func22, Try.ntmps22
  go_wp2_with (at_make; refine wpList_make_full _ rfl _ _ 22 rfl w.heap.size 3 i0 (.int .i64 0) 1 Try.underlying22 hi hz0 hz1 _ _ _ _ n rfl rfl rfl rfl ?b2 ?b3 (Nat.le_refl _) ?_)
  case b2 => rw [hz2]; omega
  case b3 => unfold maxLen; omega
  intro w0 hown0 hg0
  have ho := Lib.hid (own_made hown0)
  have hb := Lib.hid (below_of_grown hg0)
  clear hown0 hg0
  go_wp2
  go_loopw [4] (fun i wr => ∃ k : Nat, k ≤ n ∧ i = .int .i64 k ∧ Own wr w.heap.size (some ⟨w.heap.size, 0, none⟩) n n (xs.take k ++ List.replicate (n - k) 0) ∧ Below w.heap.size w wr) (fun i _ => n - (intOf i).toNat)
  case atStart => exact ⟨0, by omega, rfl, by simpa using ho.out, hb.out⟩
  case round =>
    obtain ⟨k, hk, rfl, hown, hbw⟩ := hrel
    clear ho hb
    by_cases hlt : k < n
    · obtain ⟨b1, o1, rfl, hb1, hc1⟩ := ha.at_ hlt
      have g0 : wr.cell? ⟨b1, o1 + k, none⟩ = some (.int .i64 (xs.getD k 0)) := (hbw.cell (p := ⟨b1, o1 + k, none⟩) hb1).trans (hc1 k hlt)
      have g1 := hown.cell hlt
      have g2 := hown.free k
      have hst := hown.set_ k (xs.getD k 0)
      rw [zeros_set hlt hl] at hst
      obtain ⟨x, hx⟩ : ∃ x, xs.getD k 0 = x := ⟨_, rfl⟩
      obtain ⟨y, hy⟩ : ∃ x, (xs.take k ++ List.replicate (n - k) (0 : Int)).getD k 0 = x := ⟨_, rfl⟩
      rw [hy] at g1
      rw [hx] at g0 hst
      have H := Lib.hid hst
      have H2 := Lib.hid hbw
      clear hx hy hst hown hl ha hbw hc1
      go_wp2
      go_roundw
      case rel => exact ⟨k + 1, by omega, by go_num, H.out.1, H2.out.grown H.out.2 H2.out.size (fun g e => by cases e; exact Nat.le_refl _)⟩
      case measure => simp [intOf]; omega
    · have hkn : k = n := by omega
      subst hkn
      have H := Lib.hid hown
      have H2 := Lib.hid hbw
      clear hown hbw ha
      go_wp2
      go_ret
      exact ⟨_, _, _, rfl, by have := H.out; rw [List.take_of_length_le (by omega), Nat.sub_self, List.replicate_zero, List.append_nil] at this; exact this, H2.out⟩
set_option maxHeartbeats 400000 in
theorem sameInts_same (A B : Option Addr) (n c d : Nat) (xs : List Int) (w : World) (ha : Rd w w.heap.size A n xs) (hb : Rd w w.heap.size B n xs) (hn : n ≤ 4611686018427387904) :
    Calls Try.prog 41 #[.slice A n c, .slice B n d] w (RetB w true) := by
  have hne : (((n : Nat) : Int) != (n : Int)) = false := by simp
  go_enter Try.func41, Try.ntmps41
  go_wp2
  go_loopw [5] (fun i wr => ∃ k q : Nat, k ≤ n ∧ i = .int .i64 k ∧ wr = w.drewN q) (fun i _ => n - (intOf i).toNat)
  case atStart => exact ⟨0, 0, by omega, rfl, rfl⟩
  case round =>
    obtain ⟨k, q, hk, rfl, rfl⟩ := hrel
    by_cases hlt : k < n
    · obtain ⟨b1, o1, rfl, _, hc1⟩ := ha.at_ hlt
      obtain ⟨b2, o2, rfl, _, hc2⟩ := hb.at_ hlt
      have g1 := hc1 k hlt
      have g2 := hc2 k hlt
      obtain ⟨x, hx⟩ : ∃ x, xs.getD k 0 = x := ⟨_, rfl⟩
      rw [hx] at g1 g2
      clear hc1 hc2 ha hb hx
      have hxx : (x != x) = false := by simp
      have i1 : (0 : Int) ≤ (k : Int) := by omega
      have i2 : (k : Int) < (n : Int) := by omega
      have i3 : ((k : Int)).toNat = k := by omega
      go_wp2
      go_quiet (fail)
      go_wp2
      go_roundw
      case rel => exact ⟨k + 1, q + nq, by omega, by go_num, rfl⟩
      case measure => simp [intOf]; omega
    · go_wp2
      go_ret
      exact ⟨rfl, below_drewN (Below.refl _ _) _⟩

end Go.Proofs.Ytbfpllmoaooadaa
