
/- impl.BinCount and impl.BinRoom. -/
import Derived.Test.YtmnjablknjijbaaFill
namespace Go.Proofs.Ytmnjablknjijbaa
set_option linter.unusedVariables false
open Go.RowKit
/-- The bins of a list by a rule. -/
def binsF (xs : List Int) (C : Int) (s : ByteArray) : List (List Int) := match ruleB s with | some (J, cap) => Pk.fill (rlOf J) C (ordB cap xs) [] | none => []
def bkOk (xs : List Int) (C : Int) (s : ByteArray) : Bool := bnOk xs C && (ruleB s).isSome
theorem bkOk_true {xs : List Int} {C : Int} {s : ByteArray} (h : bkOk xs C s = true) : bnOk xs C = true ∧ ∃ J cap, ruleB s = some (J, cap) ∧ J < 4 ∧ binsF xs C s = Pk.fill (rlOf J) C (ordB cap xs) [] := by
  unfold bkOk at h
  rw [Bool.and_eq_true] at h
  refine ⟨h.1, ?_⟩
  cases hr : ruleB s with
  | none => rw [hr] at h; exact absurd h.2 (by simp)
  | some o => exact ⟨o.1, o.2, rfl, (ruleX_some (ruleB_some hr).2.1).1, by unfold binsF; rw [hr]⟩
theorem bkOk_false {xs : List Int} {C : Int} {s : ByteArray} (h : bkOk xs C s = false) : ruleB s = none ∨ bnOk xs C = false := by
  unfold bkOk at h
  cases hr : ruleB s with
  | none => exact .inl rfl
  | some o => rw [hr] at h; right; simpa using h
/-- What is known of them. -/
theorem binsF_in {xs : List Int} {C : Int} {s : ByteArray} (h : bkOk xs C s = true) : (binsF xs C s).flatten.Perm xs ∧ (binsF xs C s).length ≤ 10 ∧ (∀ j, j < (binsF xs C s).length → 0 < Pk.tot ((binsF xs C s).getD j []) ∧ Pk.tot ((binsF xs C s).getD j []) ≤ C) := by
  obtain ⟨h1, J, cap, hr, hJ, hB⟩ := bkOk_true h
  obtain ⟨i1, i2, i3, i4, i5⟩ := bnOk_in h1
  rw [hB]
  have hp := ordB_perm cap xs
  have hx : ∀ x ∈ ordB cap xs, 0 < x ∧ x ≤ C := fun x hm => i3 x (hp.subset hm)
  have hf : (Pk.fill (rlOf J) C (ordB cap xs) []).flatten.Perm (ordB cap xs) := by simpa using Pk.fill_flat (r := rlOf J) (C := C) (ordB cap xs) []
  have ho := Pk.okay_fill (r := rlOf J) (ordB cap xs) [] (Pk.okay_nil C) hx
  refine ⟨hf.trans hp, ?_, fun j hj => ⟨(ho.one j hj).1, (ho.one j hj).2.1⟩⟩
  have h2 := Pk.flatten_len (k := 1) (bs := Pk.fill (rlOf J) C (ordB cap xs) []) (fun b hb => by
    obtain ⟨j, hj, rfl⟩ := List.mem_iff_getElem.1 hb
    have := (ho.one j hj).2.2
    have e : (Pk.fill (rlOf J) C (ordB cap xs) []).getD j [] = (Pk.fill (rlOf J) C (ordB cap xs) [])[j] := by simp [List.getD, hj]
    rw [e] at this
    have := List.length_pos_iff.2 this
    omega)
  have h3 := hf.length_eq
  have h4 := hp.length_eq
  omega
set_option maxHeartbeats 800000 in
theorem implBinCount_no (A : Option Addr) (n c : Nat) (xs : List Int) (C : Int) (s : ByteArray) (w : World) (ha : Rd w w.heap.size A n xs) (hn : n ≤ 1000000000) (h : bkOk xs C s = false) :
    Calls Try.prog 25 #[.slice A n c, .int .i64 C, .string s] w (RetIB w 0 false) := by
  have HF := Lib.hid (fill_no A n c xs C s w ha hn (bkOk_false h))
  go_enter Try.func25, Try.ntmps25
  go_wp2_with fail
  refine HF.out.mono ?_
  rintro e w2 ⟨rfl, hb⟩
  have HB := Lib.hid hb
  clear hb
  go_wp2_with fail
  go_ret2
  exact ⟨rfl, HB.out⟩
set_option maxHeartbeats 800000 in
theorem implBinCount_yes (A : Option Addr) (n c : Nat) (xs : List Int) (C : Int) (s : ByteArray) (w : World) (ha : Rd w w.heap.size A n xs) (h : bkOk xs C s = true) :
    Calls Try.prog 25 #[.slice A n c, .int .i64 C, .string s] w (RetIB w ((binsF xs C s).length : Nat) true) := by
  obtain ⟨h1, J, cap, hr, hJ, hBF⟩ := bkOk_true h
  have hle := (binsF_in h).2.1
  have HF := Lib.hid (fill_any A n c xs C s J cap w ha hr h1)
  rw [← hBF] at HF
  obtain ⟨B, hB⟩ : ∃ B, binsF xs C s = B := ⟨_, rfl⟩
  rw [hB] at HF hle ⊢
  clear h h1 hr hBF hB ha
  go_enter Try.func25, Try.ntmps25
  go_wp2_with fail
  refine HF.out.mono ?_
  rintro e w1 ⟨gs, fs, rfl, hn, hb⟩
  have HN := Lib.hid hn
  have HB := Lib.hid hb
  clear hn hb HF
  go_wp2_with fail
  go_loopg [10, 11] B.length (fun m ct b wr => ∃ k : Nat, k + m = B.length ∧ ct = .int .i64 k ∧ b = .pointer (nxt gs k) ∧ wr = w1)
  case atStart => exact ⟨0, by omega, rfl, rfl, rfl⟩
  case round =>
    obtain ⟨k, hk, rfl, rfl, hw⟩ := hrel
    subst hw
    by_cases hlt : k < B.length
    · have n1 := nxt_lt (gs := gs) (k := k) (by rw [HN.out.lg]; exact hlt)
      have c2 := HN.out.c2 k hlt
      rw [n1]
      obtain ⟨g, hg⟩ : ∃ g, gs.getD k 0 = g := ⟨_, rfl⟩
      obtain ⟨nx, hnx⟩ : ∃ nx, nxt gs (k + 1) = nx := ⟨_, rfl⟩
      rw [hg, hnx] at c2
      rw [hg]
      have HNX := Lib.hid hnx
      clear hg hnx n1
      go_wp2_with fail
      go_roundg (B.length - (k + 1))
      case measure => omega
      case rel => exact ⟨k + 1, by omega, by go_num, by rw [HNX.out], rfl⟩
    · have e : k = B.length := by omega
      have ne := nxt_end (gs := gs) (k := k) (by rw [HN.out.lg]; omega)
      rw [ne]
      clear hlt
      subst e
      go_wp2_with fail
      go_ret2
      exact ⟨rfl, HB.out⟩
set_option maxHeartbeats 800000 in
theorem implBinRoom_no (A : Option Addr) (n c : Nat) (xs : List Int) (C : Int) (s : ByteArray) (w : World) (ha : Rd w w.heap.size A n xs) (hn : n ≤ 1000000000) (h : bkOk xs C s = false) :
    Calls Try.prog 27 #[.slice A n c, .int .i64 C, .string s] w (RetOwnB w [] false) := by
  have HF := Lib.hid (fill_no A n c xs C s w ha hn (bkOk_false h))
  go_enter Try.func27, Try.ntmps27
  go_wp2_with fail
  refine HF.out.mono ?_
  rintro e w2 ⟨rfl, hb⟩
  have HB := Lib.hid hb
  clear hb
  go_wp2_with fail
  go_ret2
  exact ⟨_, _, _, rfl, (own_empty w2).mono HB.out.size, HB.out.alloc HB.out.size _⟩
set_option maxHeartbeats 1600000 in
theorem implBinRoom_yes (A : Option Addr) (n c : Nat) (xs : List Int) (C : Int) (s : ByteArray) (w : World) (ha : Rd w w.heap.size A n xs) (h : bkOk xs C s = true) :
    Calls Try.prog 27 #[.slice A n c, .int .i64 C, .string s] w (RetOwnB w (Pk.rooms C (binsF xs C s)) true) := by
  obtain ⟨h1, J, cap, hr, hJ, hBF⟩ := bkOk_true h
  have hle := (binsF_in h).2.1
  have HF := Lib.hid (fill_any A n c xs C s J cap w ha hr h1)
  rw [← hBF] at HF
  obtain ⟨B, hB⟩ : ∃ B, binsF xs C s = B := ⟨_, rfl⟩
  rw [hB] at HF hle ⊢
  clear h h1 hr hBF hB ha
  go_enter Try.func27, Try.ntmps27
  go_wp2_with fail
  refine HF.out.mono ?_
  rintro e w1 ⟨gs, fs, rfl, hn, hb⟩
  have HN := Lib.hid hn
  have HB := Lib.hid hb
  have HO0 := Lib.hid (own_empty w1)
  have HB0 : Hid (Below w1.heap.size w1 (w1.alloc (.cells #[] 3))) := Lib.hid ((Below.refl _ _).alloc (Nat.le_refl _) _)
  clear hn hb HF
  go_wp2_with fail
  go_loopg [10, 11] B.length (fun m out b wr => ∃ (k : Nat) (A1 : Option Addr) (k1 : Nat), k + m = B.length ∧ out = .slice A1 k k1 ∧ b = .pointer (nxt gs k) ∧ Hid (Own wr w1.heap.size A1 k k1 ((Pk.rooms C B).take k)) ∧ Hid (Below w1.heap.size w1 wr))
  case atStart => exact ⟨0, _, _, by omega, rfl, rfl, HO0, HB0⟩
  case round =>
    obtain ⟨k, A1, k1, hk, rfl, rfl, HO, HW⟩ := hrel
    clear HO0 HB0
    by_cases hlt : k < B.length
    · have HN2 := Lib.hid (HN.out.below HW.out)
      have n1 := nxt_lt (gs := gs) (k := k) (by rw [HN.out.lg]; exact hlt)
      have c2 := HN2.out.c2 k hlt
      have c1 := HN2.out.c1 k hlt
      rw [n1]
      obtain ⟨g, hg⟩ : ∃ g, gs.getD k 0 = g := ⟨_, rfl⟩
      obtain ⟨nx, hnx⟩ : ∃ nx, nxt gs (k + 1) = nx := ⟨_, rfl⟩
      rw [hg] at c1 c2
      rw [hnx] at c2
      rw [hg]
      have HNX := Lib.hid hnx
      have HTK := Lib.hid (show (Pk.rooms C B).take (k + 1) = (Pk.rooms C B).take k ++ [C - Pk.tot (B.getD k [])] from by rw [take_succ_getD (by rw [Pk.rooms_len]; exact hlt), Pk.rooms_at hlt])
      obtain ⟨r, hr⟩ : ∃ r, C - Pk.tot (B.getD k []) = r := ⟨_, rfl⟩
      rw [hr] at c1 HTK
      have hbs := HW.out.size
      have NB := Lib.hid (show some g ≠ blk A1 from fun e => by
        have h1 := (HO.out.lt g e.symm).1
        have h2 := HN.out.lt (j := k) hlt
        omega)
      clear hg hnx n1 hr
      go_wp2_with (at_builtin; refine wpList_pushN rfl _ _ _ rfl Try.underlying22 rfl HO.out rfl (by simp) (by omega) hbs ?_; intro A' c' w' ho' hg' hb'; have c2' := hg'.cell c2 NB.out)
      have HO2 := Lib.hid ho'
      rw [← HTK.out] at HO2
      have HW2 := Lib.hid (HW.out.grown hg' hbs (fun a e => (HO.out.lt a e).1))
      clear ho' hg' hb' c1 c2 c2'
      go_roundg (B.length - (k + 1))
      case measure => omega
      case rel => exact ⟨k + 1, A', c', by omega, rfl, by rw [HNX.out], HO2, HW2⟩
    · have e : k = B.length := by omega
      have ne := nxt_end (gs := gs) (k := k) (by rw [HN.out.lg]; omega)
      rw [ne]
      have HO2 := Lib.hid HO.out
      rw [List.take_of_length_le (by rw [Pk.rooms_len]; omega)] at HO2
      clear hlt HO
      go_wp2_with fail
      go_ret2
      exact ⟨A1, k, k1, rfl, HO2.out.mono HB.out.size, HB.out.trans (HW.out.mono HB.out.size)⟩
end Go.Proofs.Ytmnjablknjijbaa
