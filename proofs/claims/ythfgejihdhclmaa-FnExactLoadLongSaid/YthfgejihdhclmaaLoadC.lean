/- LoadList, LoadSpan, both packages. -/
import Derived.Test.YthfgejihdhclmaaLoadB
namespace Go.Proofs.Ythfgejihdhclmaa
set_option linter.unusedVariables false
open Go.RowKit
theorem sus_range {xs : List Int} (hs : sumIn xs = true) (m : Nat) : ∀ j, j < m → 0 ≤ (sus m xs).getD j 0 ∧ (sus m xs).getD j 0 ≤ 600 := fun j hj => by
  have h := Ld.byL_range m xs (fun x hx => by have := sumIn_get hs x hx; omega) j hj
  have hn := sumIn_len hs
  unfold sus
  omega
set_option maxHeartbeats 400000 in
theorem specLoadList_no (A : Option Addr) (n c : Nat) (xs : List Int) (m : Int) (w : World) (ha : Rd w w.heap.size A n xs) (hn : n ≤ 1000000000) (h : ldOk xs m = false) :
    Calls Try.prog 19 #[.slice A n c, .int .i64 m] w (RetOwnB w [] false) := by
  go_enter Try.func19, Try.ntmps19
  go_wp2_with (go_at_call 31; refine (l5Given_any _ _ _ _ _ _ ha hn _ h).mono ?_; rintro e w' ⟨rfl, rfl⟩)
  go_ret2
  exact ⟨_, _, _, rfl, own_empty w, (Below.refl _ _).alloc (Nat.le_refl _) _⟩
set_option maxHeartbeats 400000 in
theorem implLoadList_no (A : Option Addr) (n c : Nat) (xs : List Int) (m : Int) (w : World) (ha : Rd w w.heap.size A n xs) (hn : n ≤ 1000000000) (h : ldOk xs m = false) :
    Calls Try.prog 20 #[.slice A n c, .int .i64 m] w (RetOwnB w [] false) := by
  go_enter Try.func20, Try.ntmps20
  go_wp2_with (go_at_call 34; refine (loadsTold_any _ _ _ _ _ _ ha hn _ h).mono ?_; rintro e w' ⟨rfl, rfl⟩)
  go_ret2
  exact ⟨_, _, _, rfl, own_empty w, (Below.refl _ _).alloc (Nat.le_refl _) _⟩
set_option maxHeartbeats 400000 in
theorem specLoadList_yes (A : Option Addr) (n c : Nat) (xs : List Int) (m : Nat) (w : World) (ha : Rd w w.heap.size A n xs) (h : ldOk xs m = true) :
    Calls Try.prog 19 #[.slice A n c, .int .i64 m] w (RetOwnB w (pus m xs) true) := by
  obtain ⟨hs, hm1, hm2⟩ := ldOk_true h
  have hn : n ≤ 1000000000 := by have := sumIn_len hs; have := ha.len; omega
  go_enter Try.func19, Try.ntmps19
  go_wp2_with (first | (go_at_call 31; refine (l5Given_any _ _ _ _ _ _ ha hn _ h).mono ?_; rintro e w' ⟨rfl, rfl⟩) | (go_at_call 37; refine (l5List_any _ _ _ _ _ _ ha hs (by omega) (by omega)).mono ?_; rintro e w1 ⟨A1, n1, c1, A2, n2, c2, rfl, h1, h2, hb⟩))
  go_ret2
  exact ⟨_, _, _, rfl, h1, hb⟩
set_option maxHeartbeats 400000 in
theorem implLoadList_yes (A : Option Addr) (n c : Nat) (xs : List Int) (m : Nat) (w : World) (ha : Rd w w.heap.size A n xs) (h : ldOk xs m = true) :
    Calls Try.prog 20 #[.slice A n c, .int .i64 m] w (RetOwnB w (pus m xs) true) := by
  obtain ⟨hs, hm1, hm2⟩ := ldOk_true h
  have hn : n ≤ 1000000000 := by have := sumIn_len hs; have := ha.len; omega
  go_enter Try.func20, Try.ntmps20
  go_wp2_with (first | (go_at_call 34; refine (loadsTold_any _ _ _ _ _ _ ha hn _ h).mono ?_; rintro e w' ⟨rfl, rfl⟩) | (go_at_call 38; refine (byList_any _ _ _ _ _ _ ha hs (by omega) (by omega)).mono ?_; rintro e w1 ⟨A1, n1, c1, A2, n2, c2, rfl, h1, h2, hb⟩))
  go_ret2
  exact ⟨_, _, _, rfl, h1, hb⟩
set_option maxHeartbeats 400000 in
theorem spanByList_any (A : Option Addr) (n c : Nat) (xs : List Int) (m : Nat) (w : World) (ha : Rd w w.heap.size A n xs) (hs : sumIn xs = true) (hm1 : 1 ≤ m) (hm2 : m ≤ 5) :
    Calls Try.prog 39 #[.slice A n c, .int .i64 m] w (RetI w (Ld.mx (sus m xs))) := by
  have hr := sus_range hs m
  go_enter Try.func39, Try.ntmps39
  go_wp2_with fail
  refine (byList_any _ _ _ _ _ _ ha hs hm1 hm2).mono ?_
  rintro e w1 ⟨A1, n1, c1, A2, n2, c2, rfl, h1, h2, hb⟩
  have hl2 := h2.len
  rw [sus_len] at hl2
  have hl2a : n2 ≤ 5 := by omega
  have hl2b : 1 ≤ n2 := by omega
  clear hl2
  have H2 := Lib.hid h2.rd
  have HB := Lib.hid hb
  have HR := Lib.hid hr
  clear h1 h2 hb hr ha
  go_wp2_with fail
  refine (slicesMax_any _ _ _ _ _ H2.out (by omega) (by omega) (HR.out 0 (by omega)).1).mono ?_
  rintro e w2 ⟨rfl, rfl⟩
  go_wp2_with fail
  go_ret
  exact ⟨rfl, HB.out⟩
set_option maxHeartbeats 400000 in
theorem specLoadSpan_no (A : Option Addr) (n c : Nat) (xs : List Int) (m : Int) (w : World) (ha : Rd w w.heap.size A n xs) (hn : n ≤ 1000000000) (h : ldOk xs m = false) :
    Calls Try.prog 21 #[.slice A n c, .int .i64 m] w (RetIB w 0 false) := by
  go_enter Try.func21, Try.ntmps21
  go_wp2_with (go_at_call 31; refine (l5Given_any _ _ _ _ _ _ ha hn _ h).mono ?_; rintro e w' ⟨rfl, rfl⟩)
  go_ret2
  exact ⟨rfl, Below.refl _ _⟩
set_option maxHeartbeats 400000 in
theorem implLoadSpan_no (A : Option Addr) (n c : Nat) (xs : List Int) (m : Int) (w : World) (ha : Rd w w.heap.size A n xs) (hn : n ≤ 1000000000) (h : ldOk xs m = false) :
    Calls Try.prog 22 #[.slice A n c, .int .i64 m] w (RetIB w 0 false) := by
  go_enter Try.func22, Try.ntmps22
  go_wp2_with (go_at_call 34; refine (loadsTold_any _ _ _ _ _ _ ha hn _ h).mono ?_; rintro e w' ⟨rfl, rfl⟩)
  go_ret2
  exact ⟨rfl, Below.refl _ _⟩
set_option maxHeartbeats 400000 in
theorem specLoadSpan_yes (A : Option Addr) (n c : Nat) (xs : List Int) (m : Nat) (w : World) (ha : Rd w w.heap.size A n xs) (h : ldOk xs m = true) :
    Calls Try.prog 21 #[.slice A n c, .int .i64 m] w (RetIB w (Ld.mx (sus m xs)) true) := by
  obtain ⟨hs, hm1, hm2⟩ := ldOk_true h
  have hn : n ≤ 1000000000 := by have := sumIn_len hs; have := ha.len; omega
  go_enter Try.func21, Try.ntmps21
  go_wp2_with fail
  refine (l5Given_any _ _ _ _ _ _ ha hn _ h).mono ?_
  rintro e w' ⟨rfl, rfl⟩
  go_wp2_with fail
  refine (l5List_any _ _ _ _ _ _ ha hs (by omega) (by omega)).mono ?_
  rintro e w1 ⟨A1, n1, c1, A2, n2, c2, rfl, h1, h2, hb⟩
  have hl2 := h2.len
  rw [sus_len] at hl2
  have hl2a : n2 ≤ 5 := by omega
  have hl2b : 1 ≤ n2 := by omega
  clear hl2
  have H2 := Lib.hid h2.rd
  have HB := Lib.hid hb
  clear h1 h2 hb ha
  go_wp2_with fail
  refine (l5Most_any _ _ _ _ _ H2.out (by omega)).mono ?_
  rintro e w2 ⟨rfl, rfl⟩
  go_wp2_with fail
  go_ret2
  exact ⟨rfl, HB.out⟩
set_option maxHeartbeats 400000 in
theorem implLoadSpan_yes (A : Option Addr) (n c : Nat) (xs : List Int) (m : Nat) (w : World) (ha : Rd w w.heap.size A n xs) (h : ldOk xs m = true) :
    Calls Try.prog 22 #[.slice A n c, .int .i64 m] w (RetIB w (Ld.mx (sus m xs)) true) := by
  obtain ⟨hs, hm1, hm2⟩ := ldOk_true h
  have hn : n ≤ 1000000000 := by have := sumIn_len hs; have := ha.len; omega
  go_enter Try.func22, Try.ntmps22
  go_wp2_with (first | (go_at_call 34; refine (loadsTold_any _ _ _ _ _ _ ha hn _ h).mono ?_; rintro e w' ⟨rfl, rfl⟩) | (go_at_call 39; refine (spanByList_any _ _ _ _ _ _ ha hs (by omega) (by omega)).mono ?_; rintro e w1 ⟨rfl, hb⟩))
  go_ret2
  exact ⟨rfl, hb⟩
end Go.Proofs.Ythfgejihdhclmaa
