
/- spec.l4Find: the bin into which a number goes. -/
import Derived.Test.YtbihdajoflaknaaRuleS
import Derived.Test.YtbihdajoflaknaaLists
import Derived.Test.YtbihdajoflaknaaSum
namespace Go.Proofs.Ytbihdajoflaknaa
set_option linter.unusedVariables false
open Go.RowKit
/-- A slice of slices that reads as lists. -/
def RdF (w : World) (A : Option Addr) (n : Nat) (fs : List Sl) (B : List (List Int)) : Prop :=
  B.length = n ∧ (0 < n → ∃ b off, A = some ⟨b, off, none⟩ ∧ b < w.heap.size ∧ ∀ j, j < n → w.cell? ⟨b, off + j, none⟩ = some (.slice (fs.getD j slNil).1 (fs.getD j slNil).2.1 (fs.getD j slNil).2.2)) ∧ ∀ j, j < n → Rd w w.heap.size (fs.getD j slNil).1 (fs.getD j slNil).2.1 (B.getD j [])
theorem OwnF.rdF {w : World} {base n c : Nat} {A : Option Addr} {fs : List Sl} {B : List (List Int)} (h : OwnF w base A n c fs B) : RdF w A n fs B := by
  refine ⟨h.len, fun hn => ?_, fun j hj => (h.row hj).rd⟩
  obtain ⟨g, rfl, _, hlt⟩ := h.form hn
  exact ⟨g, 0, rfl, hlt, fun j hj => by rw [Nat.zero_add]; exact h.cell hj⟩
/-- The totals are as they are. -/
def Tots (C : Int) (B : List (List Int)) : Prop := ∀ j, j < B.length → (B.getD j []).length ≤ 1000000000 ∧ wsum (B.getD j []) 0 = Pk.tot (B.getD j []) ∧ 0 ≤ Pk.tot (B.getD j []) ∧ Pk.tot (B.getD j []) ≤ 1000000
/-- -1 for none. -/
def bi : Option Nat → Int
  | none => -1
  | some k => k
theorem total_row {w : World} {A : Option Addr} {n c : Nat} {xs : List Int} {t : Int} (ha : Rd w w.heap.size A n xs) (hl : xs.length ≤ 1000000000) (ht : wsum xs 0 = t) : Calls Try.prog 16 #[.slice A n c] w (RetV w (.int .i64 t)) := by
  subst ht
  exact l4Total_any A n c xs w ha (by rw [← ha.len]; exact hl)
set_option maxRecDepth 100000 in
set_option maxHeartbeats 6400000 in
theorem find_n (A : Option Addr) (n c : Nat) (fs : List Sl) (B : List (List Int)) (C x : Int) (w : World) (hC0 : 0 ≤ C) (hC : C ≤ 1000000) (h : RdF w A n fs B) (ht : Tots C B) (hn : n ≤ 1000000) : Calls Try.prog 42 #[.slice A n c, .int .i64 C, .int .i64 x, .int .u8 110] w (RetV w (.int .i64 (bi (Pk.pick .n (Pk.rooms C B) x n)))) := by
  have H := Lib.hid h
  have HT := Lib.hid ht
  have hl := h.1
  clear h ht
  go_enter Try.func42, Try.ntmps42
  go_wp2_with fail
  go_loop [9, 10] (fun be i => ∃ (k : Nat) (z : Int), k ≤ n ∧ i = .int .i64 k ∧ be = .int .i64 z ∧ Hid (z = bi (if k < n then none else Pk.pick .n (Pk.rooms C B) x k))) (fun _ i => n - (intOf i).toNat)
  case atStart => exact ⟨0, -1, by omega, rfl, rfl, Lib.hid (by split; rfl; rw [Pk.pick_zero]; rfl)⟩
  case round =>
    obtain ⟨k, z, hk, rfl, rfl, HZ⟩ := hrel
    by_cases hlt : k < n
    · obtain ⟨b1, o1, rfl, _, hc1⟩ := H.out.2.1 (by omega)
      have g1 := hc1 k hlt
      obtain ⟨t1, t2, t3, t4⟩ := HT.out k (by omega)
      have K1 := Lib.hid (total_row (c := (fs.getD k slNil).2.2) (H.out.2.2 k hlt) t1 t2)
      obtain ⟨⟨Ak, nk, ck⟩, hf⟩ : ∃ s, fs.getD k slNil = s := ⟨_, rfl⟩
      rw [hf] at g1 K1
      have HR := Lib.hid (Pk.rooms_at (C := C) (B := B) (j := k) (by omega))
      obtain ⟨t, ht⟩ : ∃ t, Pk.tot (B.getD k []) = t := ⟨_, rfl⟩
      rw [ht] at K1 HR t3 t4
      have K1_ : Hid (Calls Try.prog 16 #[.slice Ak nk ck] w (RetV w (.int .i64 t))) := Lib.hid K1.out
      have g1_ : w.cell? ⟨b1, o1 + k, none⟩ = some (.slice Ak nk ck) := g1
      clear K1 g1
      have K1 := K1_
      have g1 := g1_
      clear K1_ g1_
      have hsub : IntKind.i64.wrap (C - t) = C - t := IntWalk.i64_in _ (by omega)
      obtain ⟨r, hr⟩ : ∃ r, C - t = r := ⟨_, rfl⟩
      rw [hr] at HR
      have hsb := hsub.trans hr
      have i1 : (0 : Int) ≤ (k : Int) := by omega
      have i2 : (k : Int) < (n : Int) := by omega
      have i3 : ((k : Int)).toNat = k := by omega
      clear t1 t2 hf ht hsub hr
      clear hc1
      rw [if_pos hlt] at HZ
      obtain rfl : z = -1 := HZ.out
      obtain ⟨z, hz⟩ : ∃ z : Int, z = -1 := ⟨_, rfl⟩
      rw [← hz]
      have z1 : z < 0 := by omega
      have z2 : ¬ 0 ≤ z := by omega
      have d1 : decide (z < 0) = true := decide_eq_true z1
      have d2 : decide (0 ≤ z) = false := decide_eq_false z2
      have HZZ := Lib.hid hz
      clear hz
      by_cases hxr : r < x
      · have d : decide (r < x) = true := decide_eq_true hxr
        go_wp2_with fail
        with_reducible refine K1.out.mono ?_
        rintro e w' ⟨rfl, rfl⟩
        go_wp2_with fail
        go_round
        case rel => exact ⟨k + 1, z, by omega, by go_num, rfl, Lib.hid (by rw [HZZ.out]; split; rfl; rw [Pk.pick_n0 (by rw [HR.out]; omega)]; rfl)⟩
        case measure => simp [intOf]; omega
      · have d : decide (r < x) = false := decide_eq_false hxr
        by_cases hlast : k + 1 < n
        · have hlz : (k : Int) + 1 < (n : Int) := by omega
          have d3 : decide ((k : Int) + 1 < (n : Int)) = true := decide_eq_true hlz
          go_wp2_with fail
          with_reducible refine K1.out.mono ?_
          rintro e w' ⟨rfl, rfl⟩
          go_wp2_with fail
          go_round
          case rel => exact ⟨k + 1, z, by omega, by go_num, rfl, Lib.hid (by rw [HZZ.out, if_pos hlast]; rfl)⟩
          case measure => simp [intOf]; omega
        · have hlz : ¬ (k : Int) + 1 < (n : Int) := by omega
          have d3 : decide ((k : Int) + 1 < (n : Int)) = false := decide_eq_false hlz
          go_wp2_with fail
          with_reducible refine K1.out.mono ?_
          rintro e w' ⟨rfl, rfl⟩
          go_wp2_with fail
          go_round
          case rel => exact ⟨k + 1, k, by omega, by go_num, rfl, Lib.hid (by rw [if_neg hlast, Pk.pick_n (by rw [HR.out]; omega)]; rfl)⟩
          case measure => simp [intOf]; omega
    · have e : k = n := by omega
      clear hlt
      subst e
      rw [if_neg (by omega)] at HZ
      go_wp2_with fail
      go_ret
      exact ⟨ret_int HZ.out, rfl⟩
set_option maxRecDepth 100000 in
set_option maxHeartbeats 6400000 in
theorem find_f (A : Option Addr) (n c : Nat) (fs : List Sl) (B : List (List Int)) (C x : Int) (w : World) (hC0 : 0 ≤ C) (hC : C ≤ 1000000) (h : RdF w A n fs B) (ht : Tots C B) (hn : n ≤ 1000000) : Calls Try.prog 42 #[.slice A n c, .int .i64 C, .int .i64 x, .int .u8 102] w (RetV w (.int .i64 (bi (Pk.pick .f (Pk.rooms C B) x n)))) := by
  have H := Lib.hid h
  have HT := Lib.hid ht
  have hl := h.1
  clear h ht
  go_enter Try.func42, Try.ntmps42
  go_wp2_with fail
  go_loop [9, 10] (fun be i => ∃ (k : Nat) (z : Int), k ≤ n ∧ i = .int .i64 k ∧ be = .int .i64 z ∧ Hid (z = bi (Pk.pick .f (Pk.rooms C B) x k))) (fun _ i => n - (intOf i).toNat)
  case atStart => exact ⟨0, -1, by omega, rfl, rfl, Lib.hid rfl⟩
  case round =>
    obtain ⟨k, z, hk, rfl, rfl, HZ⟩ := hrel
    by_cases hlt : k < n
    · obtain ⟨b1, o1, rfl, _, hc1⟩ := H.out.2.1 (by omega)
      have g1 := hc1 k hlt
      obtain ⟨t1, t2, t3, t4⟩ := HT.out k (by omega)
      have K1 := Lib.hid (total_row (c := (fs.getD k slNil).2.2) (H.out.2.2 k hlt) t1 t2)
      obtain ⟨⟨Ak, nk, ck⟩, hf⟩ : ∃ s, fs.getD k slNil = s := ⟨_, rfl⟩
      rw [hf] at g1 K1
      have HR := Lib.hid (Pk.rooms_at (C := C) (B := B) (j := k) (by omega))
      obtain ⟨t, ht⟩ : ∃ t, Pk.tot (B.getD k []) = t := ⟨_, rfl⟩
      rw [ht] at K1 HR t3 t4
      have K1_ : Hid (Calls Try.prog 16 #[.slice Ak nk ck] w (RetV w (.int .i64 t))) := Lib.hid K1.out
      have g1_ : w.cell? ⟨b1, o1 + k, none⟩ = some (.slice Ak nk ck) := g1
      clear K1 g1
      have K1 := K1_
      have g1 := g1_
      clear K1_ g1_
      have hsub : IntKind.i64.wrap (C - t) = C - t := IntWalk.i64_in _ (by omega)
      obtain ⟨r, hr⟩ : ∃ r, C - t = r := ⟨_, rfl⟩
      rw [hr] at HR
      have hsb := hsub.trans hr
      have i1 : (0 : Int) ≤ (k : Int) := by omega
      have i2 : (k : Int) < (n : Int) := by omega
      have i3 : ((k : Int)).toNat = k := by omega
      clear t1 t2 hf ht hsub hr
      cases hp : Pk.pick .f (Pk.rooms C B) x k with
      | none =>
        clear hc1
        rw [hp] at HZ
        obtain rfl : z = -1 := HZ.out
        obtain ⟨z, hz⟩ : ∃ z : Int, z = -1 := ⟨_, rfl⟩
        rw [← hz]
        have z1 : z < 0 := by omega
        have z2 : ¬ 0 ≤ z := by omega
        have d1 : decide (z < 0) = true := decide_eq_true z1
        have d2 : decide (0 ≤ z) = false := decide_eq_false z2
        have HZZ := Lib.hid hz
        have HP := Lib.hid hp
        clear hz hp
        by_cases hxr : r < x
        · have d : decide (r < x) = true := decide_eq_true hxr
          go_wp2_with fail
          with_reducible refine K1.out.mono ?_
          rintro e w' ⟨rfl, rfl⟩
          go_wp2_with fail
          go_round
          case rel => exact ⟨k + 1, z, by omega, by go_num, rfl, Lib.hid (by rw [HZZ.out, Pk.pick_skip (by simp) (by rw [HR.out]; omega), HP.out]; rfl)⟩
          case measure => simp [intOf]; omega
        · have d : decide (r < x) = false := decide_eq_false hxr
          go_wp2_with fail
          with_reducible refine K1.out.mono ?_
          rintro e w' ⟨rfl, rfl⟩
          go_wp2_with fail
          go_round
          case rel => exact ⟨k + 1, k, by omega, by go_num, rfl, Lib.hid (by rw [Pk.pick_new (by rw [HR.out]; omega) HP.out]; rfl)⟩
          case measure => simp [intOf]; omega
      | some j =>
        rw [hp] at HZ
        obtain rfl : z = (j : Int) := HZ.out
        have hj := (Pk.pick_some hp).1
        have g2 := hc1 j (by omega)
        clear hc1
        obtain ⟨u1, u2, u3, u4⟩ := HT.out j (by omega)
        have K2 := Lib.hid (total_row (c := (fs.getD j slNil).2.2) (H.out.2.2 j (by omega)) u1 u2)
        obtain ⟨⟨Aj, nj, cj⟩, hfj⟩ : ∃ s, fs.getD j slNil = s := ⟨_, rfl⟩
        rw [hfj] at g2 K2
        have HS := Lib.hid (Pk.rooms_at (C := C) (B := B) (j := j) (by omega))
        obtain ⟨t', ht'⟩ : ∃ t, Pk.tot (B.getD j []) = t := ⟨_, rfl⟩
        rw [ht'] at K2 HS u3 u4
        have K2_ : Hid (Calls Try.prog 16 #[.slice Aj nj cj] w (RetV w (.int .i64 t'))) := Lib.hid K2.out
        have g2_ : w.cell? ⟨b1, o1 + j, none⟩ = some (.slice Aj nj cj) := g2
        clear K2 g2
        have K2 := K2_
        have g2 := g2_
        clear K2_ g2_
        have hsub2 : IntKind.i64.wrap (C - t') = C - t' := IntWalk.i64_in _ (by omega)
        obtain ⟨s, hs⟩ : ∃ s, C - t' = s := ⟨_, rfl⟩
        rw [hs] at HS
        have hsb2 := hsub2.trans hs
        have HP := Lib.hid hp
        clear u1 u2 hfj ht' hp hsub2 hs
        have z1 : ¬ (j : Int) < 0 := by omega
        have z2 : (0 : Int) ≤ (j : Int) := by omega
        have d1 : decide ((j : Int) < 0) = false := decide_eq_false z1
        have d2 : decide ((0 : Int) ≤ (j : Int)) = true := decide_eq_true z2
        have z3 : (j : Int) < (n : Int) := by omega
        have z4 : ((j : Int)).toNat = j := by omega
        by_cases hxr : r < x
        · have d : decide (r < x) = true := decide_eq_true hxr
          go_wp2_with fail
          with_reducible refine K1.out.mono ?_
          rintro e w' ⟨rfl, rfl⟩
          go_wp2_with fail
          go_round
          case rel => exact ⟨k + 1, j, by omega, by go_num, rfl, Lib.hid (by rw [Pk.pick_skip (by simp) (by rw [HR.out]; omega), HP.out]; rfl)⟩
          case measure => simp [intOf]; omega
        · have d : decide (r < x) = false := decide_eq_false hxr
          go_wp2_with fail
          with_reducible refine K1.out.mono ?_
          rintro e w' ⟨rfl, rfl⟩
          go_wp2_with fail
          with_reducible refine K2.out.mono ?_
          rintro e w' ⟨rfl, rfl⟩
          go_wp2_with fail
          go_round
          case rel => exact ⟨k + 1, j, by omega, by go_num, rfl, Lib.hid (by rw [Pk.pick_f HP.out]; rfl)⟩
          case measure => simp [intOf]; omega
    · have e : k = n := by omega
      clear hlt
      subst e
      go_wp2_with fail
      go_ret
      exact ⟨ret_int HZ.out, rfl⟩
set_option maxRecDepth 100000 in
set_option maxHeartbeats 6400000 in
theorem find_b (A : Option Addr) (n c : Nat) (fs : List Sl) (B : List (List Int)) (C x : Int) (w : World) (hC0 : 0 ≤ C) (hC : C ≤ 1000000) (h : RdF w A n fs B) (ht : Tots C B) (hn : n ≤ 1000000) : Calls Try.prog 42 #[.slice A n c, .int .i64 C, .int .i64 x, .int .u8 98] w (RetV w (.int .i64 (bi (Pk.pick .b (Pk.rooms C B) x n)))) := by
  have H := Lib.hid h
  have HT := Lib.hid ht
  have hl := h.1
  clear h ht
  go_enter Try.func42, Try.ntmps42
  go_wp2_with fail
  go_loop [9, 10] (fun be i => ∃ (k : Nat) (z : Int), k ≤ n ∧ i = .int .i64 k ∧ be = .int .i64 z ∧ Hid (z = bi (Pk.pick .b (Pk.rooms C B) x k))) (fun _ i => n - (intOf i).toNat)
  case atStart => exact ⟨0, -1, by omega, rfl, rfl, Lib.hid rfl⟩
  case round =>
    obtain ⟨k, z, hk, rfl, rfl, HZ⟩ := hrel
    by_cases hlt : k < n
    · obtain ⟨b1, o1, rfl, _, hc1⟩ := H.out.2.1 (by omega)
      have g1 := hc1 k hlt
      obtain ⟨t1, t2, t3, t4⟩ := HT.out k (by omega)
      have K1 := Lib.hid (total_row (c := (fs.getD k slNil).2.2) (H.out.2.2 k hlt) t1 t2)
      obtain ⟨⟨Ak, nk, ck⟩, hf⟩ : ∃ s, fs.getD k slNil = s := ⟨_, rfl⟩
      rw [hf] at g1 K1
      have HR := Lib.hid (Pk.rooms_at (C := C) (B := B) (j := k) (by omega))
      obtain ⟨t, ht⟩ : ∃ t, Pk.tot (B.getD k []) = t := ⟨_, rfl⟩
      rw [ht] at K1 HR t3 t4
      have K1_ : Hid (Calls Try.prog 16 #[.slice Ak nk ck] w (RetV w (.int .i64 t))) := Lib.hid K1.out
      have g1_ : w.cell? ⟨b1, o1 + k, none⟩ = some (.slice Ak nk ck) := g1
      clear K1 g1
      have K1 := K1_
      have g1 := g1_
      clear K1_ g1_
      have hsub : IntKind.i64.wrap (C - t) = C - t := IntWalk.i64_in _ (by omega)
      obtain ⟨r, hr⟩ : ∃ r, C - t = r := ⟨_, rfl⟩
      rw [hr] at HR
      have hsb := hsub.trans hr
      have i1 : (0 : Int) ≤ (k : Int) := by omega
      have i2 : (k : Int) < (n : Int) := by omega
      have i3 : ((k : Int)).toNat = k := by omega
      clear t1 t2 hf ht hsub hr
      cases hp : Pk.pick .b (Pk.rooms C B) x k with
      | none =>
        clear hc1
        rw [hp] at HZ
        obtain rfl : z = -1 := HZ.out
        obtain ⟨z, hz⟩ : ∃ z : Int, z = -1 := ⟨_, rfl⟩
        rw [← hz]
        have z1 : z < 0 := by omega
        have z2 : ¬ 0 ≤ z := by omega
        have d1 : decide (z < 0) = true := decide_eq_true z1
        have d2 : decide (0 ≤ z) = false := decide_eq_false z2
        have HZZ := Lib.hid hz
        have HP := Lib.hid hp
        clear hz hp
        by_cases hxr : r < x
        · have d : decide (r < x) = true := decide_eq_true hxr
          go_wp2_with fail
          with_reducible refine K1.out.mono ?_
          rintro e w' ⟨rfl, rfl⟩
          go_wp2_with fail
          go_round
          case rel => exact ⟨k + 1, z, by omega, by go_num, rfl, Lib.hid (by rw [HZZ.out, Pk.pick_skip (by simp) (by rw [HR.out]; omega), HP.out]; rfl)⟩
          case measure => simp [intOf]; omega
        · have d : decide (r < x) = false := decide_eq_false hxr
          go_wp2_with fail
          with_reducible refine K1.out.mono ?_
          rintro e w' ⟨rfl, rfl⟩
          go_wp2_with fail
          go_round
          case rel => exact ⟨k + 1, k, by omega, by go_num, rfl, Lib.hid (by rw [Pk.pick_new (by rw [HR.out]; omega) HP.out]; rfl)⟩
          case measure => simp [intOf]; omega
      | some j =>
        rw [hp] at HZ
        obtain rfl : z = (j : Int) := HZ.out
        have hj := (Pk.pick_some hp).1
        have g2 := hc1 j (by omega)
        clear hc1
        obtain ⟨u1, u2, u3, u4⟩ := HT.out j (by omega)
        have K2 := Lib.hid (total_row (c := (fs.getD j slNil).2.2) (H.out.2.2 j (by omega)) u1 u2)
        obtain ⟨⟨Aj, nj, cj⟩, hfj⟩ : ∃ s, fs.getD j slNil = s := ⟨_, rfl⟩
        rw [hfj] at g2 K2
        have HS := Lib.hid (Pk.rooms_at (C := C) (B := B) (j := j) (by omega))
        obtain ⟨t', ht'⟩ : ∃ t, Pk.tot (B.getD j []) = t := ⟨_, rfl⟩
        rw [ht'] at K2 HS u3 u4
        have K2_ : Hid (Calls Try.prog 16 #[.slice Aj nj cj] w (RetV w (.int .i64 t'))) := Lib.hid K2.out
        have g2_ : w.cell? ⟨b1, o1 + j, none⟩ = some (.slice Aj nj cj) := g2
        clear K2 g2
        have K2 := K2_
        have g2 := g2_
        clear K2_ g2_
        have hsub2 : IntKind.i64.wrap (C - t') = C - t' := IntWalk.i64_in _ (by omega)
        obtain ⟨s, hs⟩ : ∃ s, C - t' = s := ⟨_, rfl⟩
        rw [hs] at HS
        have hsb2 := hsub2.trans hs
        have HP := Lib.hid hp
        clear u1 u2 hfj ht' hp hsub2 hs
        have z1 : ¬ (j : Int) < 0 := by omega
        have z2 : (0 : Int) ≤ (j : Int) := by omega
        have d1 : decide ((j : Int) < 0) = false := decide_eq_false z1
        have d2 : decide ((0 : Int) ≤ (j : Int)) = true := decide_eq_true z2
        have z3 : (j : Int) < (n : Int) := by omega
        have z4 : ((j : Int)).toNat = j := by omega
        by_cases hxr : r < x
        · have d : decide (r < x) = true := decide_eq_true hxr
          go_wp2_with fail
          with_reducible refine K1.out.mono ?_
          rintro e w' ⟨rfl, rfl⟩
          go_wp2_with fail
          go_round
          case rel => exact ⟨k + 1, j, by omega, by go_num, rfl, Lib.hid (by rw [Pk.pick_skip (by simp) (by rw [HR.out]; omega), HP.out]; rfl)⟩
          case measure => simp [intOf]; omega
        · have d : decide (r < x) = false := decide_eq_false hxr
          have HP0 := Lib.hid (Pk.pick_b (R := Pk.rooms C B) (v := x) (i := k) (by rw [HR.out]; omega) HP.out)
          rw [HR.out, HS.out] at HP0
          by_cases hlt2 : r < s
          · have d3 : decide (r < s) = true := decide_eq_true hlt2
            go_wp2_with fail
            with_reducible refine K1.out.mono ?_
            rintro e w' ⟨rfl, rfl⟩
            go_wp2_with fail
            with_reducible refine K2.out.mono ?_
            rintro e w' ⟨rfl, rfl⟩
            go_wp2_with fail
            go_round
            case rel => exact ⟨k + 1, k, by omega, by go_num, rfl, Lib.hid (by rw [HP0.out, if_pos (by omega)]; rfl)⟩
            case measure => simp [intOf]; omega
          · have d3 : decide (r < s) = false := decide_eq_false hlt2
            go_wp2_with fail
            with_reducible refine K1.out.mono ?_
            rintro e w' ⟨rfl, rfl⟩
            go_wp2_with fail
            with_reducible refine K2.out.mono ?_
            rintro e w' ⟨rfl, rfl⟩
            go_wp2_with fail
            go_round
            case rel => exact ⟨k + 1, j, by omega, by go_num, rfl, Lib.hid (by rw [HP0.out, if_neg (by omega)]; rfl)⟩
            case measure => simp [intOf]; omega
    · have e : k = n := by omega
      clear hlt
      subst e
      go_wp2_with fail
      go_ret
      exact ⟨ret_int HZ.out, rfl⟩
set_option maxRecDepth 100000 in
set_option maxHeartbeats 6400000 in
theorem find_w (A : Option Addr) (n c : Nat) (fs : List Sl) (B : List (List Int)) (C x : Int) (w : World) (hC0 : 0 ≤ C) (hC : C ≤ 1000000) (h : RdF w A n fs B) (ht : Tots C B) (hn : n ≤ 1000000) : Calls Try.prog 42 #[.slice A n c, .int .i64 C, .int .i64 x, .int .u8 119] w (RetV w (.int .i64 (bi (Pk.pick .w (Pk.rooms C B) x n)))) := by
  have H := Lib.hid h
  have HT := Lib.hid ht
  have hl := h.1
  clear h ht
  go_enter Try.func42, Try.ntmps42
  go_wp2_with fail
  go_loop [9, 10] (fun be i => ∃ (k : Nat) (z : Int), k ≤ n ∧ i = .int .i64 k ∧ be = .int .i64 z ∧ Hid (z = bi (Pk.pick .w (Pk.rooms C B) x k))) (fun _ i => n - (intOf i).toNat)
  case atStart => exact ⟨0, -1, by omega, rfl, rfl, Lib.hid rfl⟩
  case round =>
    obtain ⟨k, z, hk, rfl, rfl, HZ⟩ := hrel
    by_cases hlt : k < n
    · obtain ⟨b1, o1, rfl, _, hc1⟩ := H.out.2.1 (by omega)
      have g1 := hc1 k hlt
      obtain ⟨t1, t2, t3, t4⟩ := HT.out k (by omega)
      have K1 := Lib.hid (total_row (c := (fs.getD k slNil).2.2) (H.out.2.2 k hlt) t1 t2)
      obtain ⟨⟨Ak, nk, ck⟩, hf⟩ : ∃ s, fs.getD k slNil = s := ⟨_, rfl⟩
      rw [hf] at g1 K1
      have HR := Lib.hid (Pk.rooms_at (C := C) (B := B) (j := k) (by omega))
      obtain ⟨t, ht⟩ : ∃ t, Pk.tot (B.getD k []) = t := ⟨_, rfl⟩
      rw [ht] at K1 HR t3 t4
      have K1_ : Hid (Calls Try.prog 16 #[.slice Ak nk ck] w (RetV w (.int .i64 t))) := Lib.hid K1.out
      have g1_ : w.cell? ⟨b1, o1 + k, none⟩ = some (.slice Ak nk ck) := g1
      clear K1 g1
      have K1 := K1_
      have g1 := g1_
      clear K1_ g1_
      have hsub : IntKind.i64.wrap (C - t) = C - t := IntWalk.i64_in _ (by omega)
      obtain ⟨r, hr⟩ : ∃ r, C - t = r := ⟨_, rfl⟩
      rw [hr] at HR
      have hsb := hsub.trans hr
      have i1 : (0 : Int) ≤ (k : Int) := by omega
      have i2 : (k : Int) < (n : Int) := by omega
      have i3 : ((k : Int)).toNat = k := by omega
      clear t1 t2 hf ht hsub hr
      cases hp : Pk.pick .w (Pk.rooms C B) x k with
      | none =>
        clear hc1
        rw [hp] at HZ
        obtain rfl : z = -1 := HZ.out
        obtain ⟨z, hz⟩ : ∃ z : Int, z = -1 := ⟨_, rfl⟩
        rw [← hz]
        have z1 : z < 0 := by omega
        have z2 : ¬ 0 ≤ z := by omega
        have d1 : decide (z < 0) = true := decide_eq_true z1
        have d2 : decide (0 ≤ z) = false := decide_eq_false z2
        have HZZ := Lib.hid hz
        have HP := Lib.hid hp
        clear hz hp
        by_cases hxr : r < x
        · have d : decide (r < x) = true := decide_eq_true hxr
          go_wp2_with fail
          with_reducible refine K1.out.mono ?_
          rintro e w' ⟨rfl, rfl⟩
          go_wp2_with fail
          go_round
          case rel => exact ⟨k + 1, z, by omega, by go_num, rfl, Lib.hid (by rw [HZZ.out, Pk.pick_skip (by simp) (by rw [HR.out]; omega), HP.out]; rfl)⟩
          case measure => simp [intOf]; omega
        · have d : decide (r < x) = false := decide_eq_false hxr
          go_wp2_with fail
          with_reducible refine K1.out.mono ?_
          rintro e w' ⟨rfl, rfl⟩
          go_wp2_with fail
          go_round
          case rel => exact ⟨k + 1, k, by omega, by go_num, rfl, Lib.hid (by rw [Pk.pick_new (by rw [HR.out]; omega) HP.out]; rfl)⟩
          case measure => simp [intOf]; omega
      | some j =>
        rw [hp] at HZ
        obtain rfl : z = (j : Int) := HZ.out
        have hj := (Pk.pick_some hp).1
        have g2 := hc1 j (by omega)
        clear hc1
        obtain ⟨u1, u2, u3, u4⟩ := HT.out j (by omega)
        have K2 := Lib.hid (total_row (c := (fs.getD j slNil).2.2) (H.out.2.2 j (by omega)) u1 u2)
        obtain ⟨⟨Aj, nj, cj⟩, hfj⟩ : ∃ s, fs.getD j slNil = s := ⟨_, rfl⟩
        rw [hfj] at g2 K2
        have HS := Lib.hid (Pk.rooms_at (C := C) (B := B) (j := j) (by omega))
        obtain ⟨t', ht'⟩ : ∃ t, Pk.tot (B.getD j []) = t := ⟨_, rfl⟩
        rw [ht'] at K2 HS u3 u4
        have K2_ : Hid (Calls Try.prog 16 #[.slice Aj nj cj] w (RetV w (.int .i64 t'))) := Lib.hid K2.out
        have g2_ : w.cell? ⟨b1, o1 + j, none⟩ = some (.slice Aj nj cj) := g2
        clear K2 g2
        have K2 := K2_
        have g2 := g2_
        clear K2_ g2_
        have hsub2 : IntKind.i64.wrap (C - t') = C - t' := IntWalk.i64_in _ (by omega)
        obtain ⟨s, hs⟩ : ∃ s, C - t' = s := ⟨_, rfl⟩
        rw [hs] at HS
        have hsb2 := hsub2.trans hs
        have HP := Lib.hid hp
        clear u1 u2 hfj ht' hp hsub2 hs
        have z1 : ¬ (j : Int) < 0 := by omega
        have z2 : (0 : Int) ≤ (j : Int) := by omega
        have d1 : decide ((j : Int) < 0) = false := decide_eq_false z1
        have d2 : decide ((0 : Int) ≤ (j : Int)) = true := decide_eq_true z2
        have z3 : (j : Int) < (n : Int) := by omega
        have z4 : ((j : Int)).toNat = j := by omega
        by_cases hxr : r < x
        · have d : decide (r < x) = true := decide_eq_true hxr
          go_wp2_with fail
          with_reducible refine K1.out.mono ?_
          rintro e w' ⟨rfl, rfl⟩
          go_wp2_with fail
          go_round
          case rel => exact ⟨k + 1, j, by omega, by go_num, rfl, Lib.hid (by rw [Pk.pick_skip (by simp) (by rw [HR.out]; omega), HP.out]; rfl)⟩
          case measure => simp [intOf]; omega
        · have d : decide (r < x) = false := decide_eq_false hxr
          have HP0 := Lib.hid (Pk.pick_w (R := Pk.rooms C B) (v := x) (i := k) (by rw [HR.out]; omega) HP.out)
          rw [HR.out, HS.out] at HP0
          by_cases hlt2 : s < r
          · have d3 : decide (s < r) = true := decide_eq_true hlt2
            go_wp2_with fail
            with_reducible refine K1.out.mono ?_
            rintro e w' ⟨rfl, rfl⟩
            go_wp2_with fail
            with_reducible refine K2.out.mono ?_
            rintro e w' ⟨rfl, rfl⟩
            go_wp2_with fail
            go_round
            case rel => exact ⟨k + 1, k, by omega, by go_num, rfl, Lib.hid (by rw [HP0.out, if_pos (by omega)]; rfl)⟩
            case measure => simp [intOf]; omega
          · have d3 : decide (s < r) = false := decide_eq_false hlt2
            go_wp2_with fail
            with_reducible refine K1.out.mono ?_
            rintro e w' ⟨rfl, rfl⟩
            go_wp2_with fail
            with_reducible refine K2.out.mono ?_
            rintro e w' ⟨rfl, rfl⟩
            go_wp2_with fail
            go_round
            case rel => exact ⟨k + 1, j, by omega, by go_num, rfl, Lib.hid (by rw [HP0.out, if_neg (by omega)]; rfl)⟩
            case measure => simp [intOf]; omega
    · have e : k = n := by omega
      clear hlt
      subst e
      go_wp2_with fail
      go_ret
      exact ⟨ret_int HZ.out, rfl⟩
/-- By whatever rule. -/
theorem l4Find_any (J : Nat) (hJ : J < 4) (A : Option Addr) (n c : Nat) (fs : List Sl) (B : List (List Int)) (C x : Int) (w : World) (hC0 : 0 ≤ C) (hC : C ≤ 1000000) (h : RdF w A n fs B) (ht : Tots C B) (hn : n ≤ 1000000) : Calls Try.prog 42 #[.slice A n c, .int .i64 C, .int .i64 x, .int .u8 (lb J)] w (RetV w (.int .i64 (bi (Pk.where_ (rlOf J) C B x)))) := by
  have e := h.1
  subst e
  rcases (show J = 0 ∨ J = 1 ∨ J = 2 ∨ J = 3 from by omega) with rfl | rfl | rfl | rfl
  · exact find_n A _ c fs B C x w hC0 hC h ht hn
  · exact find_f A _ c fs B C x w hC0 hC h ht hn
  · exact find_b A _ c fs B C x w hC0 hC h ht hn
  · exact find_w A _ c fs B C x w hC0 hC h ht hn
end Go.Proofs.Ytbihdajoflaknaa
