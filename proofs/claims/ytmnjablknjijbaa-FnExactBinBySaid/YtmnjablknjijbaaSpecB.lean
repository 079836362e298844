
/- spec.BinBy, spec.BinCount, spec.BinRoom. -/
import Derived.Test.YtmnjablknjijbaaByS
import Derived.Test.YtmnjablknjijbaaBinC
namespace Go.Proofs.Ytmnjablknjijbaa
set_option linter.unusedVariables false
open Go.RowKit
/-- Slices of slices of the call's own, and a bool. -/
def RetFB (w : World) (B : List (List Int)) (b : Bool) (e : Ending) (w' : World) : Prop := ∃ A n c fs, e = .returned (.tuple #[.slice A n c, .bool b]) ∧ OwnF w' w.heap.size A n c fs B ∧ Below w.heap.size w w'
theorem OwnF.base {w : World} {base base' n c : Nat} {A : Option Addr} {fs : List Sl} {yss : List (List Int)} (h : OwnF w base A n c fs yss) (hb : base' ≤ base) : OwnF w base' A n c fs yss := h.mono hb
set_option maxHeartbeats 800000 in
theorem specBinBy_no (A : Option Addr) (n c : Nat) (xs : List Int) (C : Int) (s : ByteArray) (w : World) (ha : Rd w w.heap.size A n xs) (hn : n ≤ 1000000000) (h : bkOk xs C s = false) :
    Calls Try.prog 30 #[.slice A n c, .int .i64 C, .string s] w (RetFB w [] false) := by
  have HR := Lib.hid (l4Rule_any s w)
  have HA := Lib.hid ha
  clear ha
  cases hb : bnOk xs C with
  | false =>
    have HB := Lib.hid hb
    clear h hb
    go_enter Try.func30, Try.ntmps30
    go_wp2_with fail
    refine HR.out.mono ?_
    rintro e w2 ⟨rfl, q, rfl⟩
    have HA2 : Hid (Rd (w.drewN q) (w.drewN q).heap.size A n xs) := Lib.hid (HA.out.below (below_drewN (Below.refl _ _) q))
    go_wp2_with fail
    refine (l4Given_any _ _ _ _ _ _ HA2.out hn _ HB.out).mono ?_
    rintro e w' ⟨rfl, rfl⟩
    go_wp2_with fail
    go_ret2
    exact ⟨_, _, _, [], rfl, own_emptyF (w.drewN q), (below_drewN (Below.refl _ _) q).alloc (Nat.le_refl _) _⟩
  | true =>
    have hr : ruleB s = none := by
      rcases bkOk_false h with h | h
      · exact h
      · rw [hb] at h; cases h
    have hrx : rx s = 0 := by unfold rx; rw [hr]
    rw [hrx] at HR
    have HB := Lib.hid hb
    clear h hb hr hrx
    go_enter Try.func30, Try.ntmps30
    go_wp2_with fail
    refine HR.out.mono ?_
    rintro e w2 ⟨rfl, q, rfl⟩
    have HA2 : Hid (Rd (w.drewN q) (w.drewN q).heap.size A n xs) := Lib.hid (HA.out.below (below_drewN (Below.refl _ _) q))
    go_wp2_with fail
    refine (l4Given_any _ _ _ _ _ _ HA2.out hn _ HB.out).mono ?_
    rintro e w' ⟨rfl, rfl⟩
    go_wp2_with fail
    go_ret2
    exact ⟨_, _, _, [], rfl, own_emptyF (w.drewN q), (below_drewN (Below.refl _ _) q).alloc (Nat.le_refl _) _⟩
set_option maxHeartbeats 800000 in
theorem specBinBy_yes (A : Option Addr) (n c : Nat) (xs : List Int) (C : Int) (s : ByteArray) (w : World) (ha : Rd w w.heap.size A n xs) (h : bkOk xs C s = true) :
    Calls Try.prog 30 #[.slice A n c, .int .i64 C, .string s] w (RetFB w (binsF xs C s) true) := by
  obtain ⟨hb, J, cap, hr, hJ, hB⟩ := bkOk_true h
  have HR := Lib.hid (l4Rule_any s w)
  obtain ⟨_, hx, hrx⟩ := ruleB_some hr
  obtain ⟨_, hne, hcs⟩ := ruleX_some hx
  rw [hrx] at HR
  have HA := Lib.hid ha
  have HBK := Lib.hid hb
  have hl := ha.len
  have hn : n ≤ 10 := by have := (bnOk_in hb).1; omega
  have K : Hid (∀ w, Rd w w.heap.size A n xs → Calls Try.prog 51 #[.slice A n c, .int .i64 C, .int .u8 (byte0 s)] w (RetF w (binsF xs C s))) := Lib.hid (fun w ha => by rw [hB]; exact l4By_any A n c xs C s J cap w ha hr hb)
  obtain ⟨k, hk⟩ : ∃ k, byte0 s = k := ⟨_, rfl⟩
  rw [hk] at HR hne K
  have dk : (k == 0) = false := beq_eq_false_iff_ne.2 hne
  clear ha h hb hr hx hrx hcs hB hk
  go_enter Try.func30, Try.ntmps30
  go_wp2_with fail
  refine HR.out.mono ?_
  rintro e w2 ⟨rfl, q, rfl⟩
  have HA2 : Hid (Rd (w.drewN q) (w.drewN q).heap.size A n xs) := Lib.hid (HA.out.below (below_drewN (Below.refl _ _) q))
  have HB2 : Hid (Below w.heap.size w (w.drewN q)) := Lib.hid (below_drewN (Below.refl _ _) q)
  have hsz : (w.drewN q).heap.size = w.heap.size := rfl
  generalize w.drewN q = wd at HA2 HB2 hsz ⊢
  go_wp2_with fail
  refine (l4Given_any _ _ _ _ _ _ HA2.out (by omega) _ HBK.out).mono ?_
  rintro e w' ⟨rfl, rfl⟩
  go_wp2_with fail
  refine (K.out _ HA2.out).mono ?_
  rintro e w3 ⟨A3, n3, c3, fs, rfl, ho, hb⟩
  have HO := Lib.hid ho
  have HB3 := Lib.hid (HB2.out.trans (hb.mono HB2.out.size))
  have hle := hb.size
  clear ho hb
  go_wp2_with fail
  go_ret2
  exact ⟨A3, n3, c3, fs, rfl, HO.out.mono (by omega), HB3.out⟩
theorem specBinBy_any (A : Option Addr) (n c : Nat) (xs : List Int) (C : Int) (s : ByteArray) (w : World) (ha : Rd w w.heap.size A n xs) (hn : n ≤ 1000000000) (b : Bool) (h : bkOk xs C s = b) :
    Calls Try.prog 30 #[.slice A n c, .int .i64 C, .string s] w (RetFB w (if b then binsF xs C s else []) b) := by
  cases b with
  | true => exact specBinBy_yes A n c xs C s w ha h
  | false => exact specBinBy_no A n c xs C s w ha hn h
set_option maxHeartbeats 800000 in
theorem specBinCount_any (A : Option Addr) (n c : Nat) (xs : List Int) (C : Int) (s : ByteArray) (w : World) (ha : Rd w w.heap.size A n xs) (hn : n ≤ 1000000000) (b : Bool) (h : bkOk xs C s = b) :
    Calls Try.prog 24 #[.slice A n c, .int .i64 C, .string s] w (RetIB w (((if b then binsF xs C s else []) : List (List Int)).length : Nat) b) := by
  have K := Lib.hid (specBinBy_any A n c xs C s w ha hn b h)
  generalize (if b then binsF xs C s else []) = B at K ⊢
  go_enter Try.func24, Try.ntmps24
  go_wp2_with fail
  refine K.out.mono ?_
  rintro e w3 ⟨A3, n3, c3, fs, rfl, ho, hb⟩
  obtain rfl : n3 = B.length := ho.len.symm
  have HB3 := Lib.hid hb
  clear ho hb
  go_wp2_with fail
  go_ret2
  exact ⟨rfl, HB3.out⟩
set_option maxHeartbeats 1600000 in
theorem specBinRoom_any (A : Option Addr) (n c : Nat) (xs : List Int) (C : Int) (s : ByteArray) (w : World) (ha : Rd w w.heap.size A n xs) (hn : n ≤ 1000000000) (b : Bool) (h : bkOk xs C s = b) (hC : b = true → 1 ≤ C ∧ C ≤ 100) :
    Calls Try.prog 26 #[.slice A n c, .int .i64 C, .string s] w (RetOwnB w (Pk.rooms C (if b then binsF xs C s else [])) b) := by
  have K := Lib.hid (specBinBy_any A n c xs C s w ha hn b h)
  have hT : Tots C (if b then binsF xs C s else []) ∧ ((if b then binsF xs C s else []) : List (List Int)).length ≤ 10 ∧ (((if b then binsF xs C s else []) : List (List Int)) ≠ [] → 1 ≤ C ∧ C ≤ 100) := by
    cases b with
    | false => exact ⟨fun j hj => by simp at hj, by simp, fun h => absurd rfl h⟩
    | true =>
      obtain ⟨i1, i2, i3, i4, i5⟩ := bnOk_in (bkOk_true h).1
      obtain ⟨p1, p2, p3⟩ := binsF_in h
      exact ⟨tots_of p1 i2 i1, p2, fun _ => hC rfl⟩
  generalize (if b then binsF xs C s else []) = B at K hT ⊢
  obtain ⟨hT1, hT2, hT3⟩ := hT
  have HT := Lib.hid hT1
  have HC := Lib.hid hT3
  clear ha h hC hT1 hT3
  go_enter Try.func26, Try.ntmps26
  go_wp2_with fail
  refine K.out.mono ?_
  rintro e w1 ⟨A3, n3, c3, fs, rfl, ho, hb⟩
  obtain rfl : n3 = B.length := ho.len.symm
  have HO := Lib.hid ho
  have HB := Lib.hid hb
  have HO0 := Lib.hid (own_empty w1)
  have HB0 : Hid (Below w1.heap.size w1 (w1.alloc (.cells #[] 3))) := Lib.hid ((Below.refl _ _).alloc (Nat.le_refl _) _)
  clear ho hb K
  go_wp2_with fail
  go_loopw [10, 11] (fun out i wr => ∃ (k : Nat) (A1 : Option Addr) (k1 : Nat), k ≤ B.length ∧ i = .int .i64 k ∧ out = .slice A1 k k1 ∧ Hid (Own wr w1.heap.size A1 k k1 ((Pk.rooms C B).take k)) ∧ Hid (Below w1.heap.size w1 wr)) (fun _ i _ => B.length - (intOf i).toNat)
  case atStart => exact ⟨0, _, _, by omega, rfl, rfl, HO0, HB0⟩
  case round =>
    obtain ⟨k, A1, k1, hk, rfl, rfl, HW, HBW⟩ := hrel
    clear HO0 HB0
    by_cases hlt : k < B.length
    · have HF := HO.out.below HBW.out
      obtain ⟨b1, o1, rfl, hb1, hc1⟩ := HF.rdF.2.1 (by omega)
      have g1 := hc1 k hlt
      obtain ⟨t1, t2, t3, t4⟩ := HT.out k hlt
      have K1 := Lib.hid (total_row (c := (fs.getD k slNil).2.2) (HF.rdF.2.2 k hlt) t1 t2)
      obtain ⟨⟨Ak, nk, ck⟩, hf⟩ : ∃ s, fs.getD k slNil = s := ⟨_, rfl⟩
      rw [hf] at g1 K1
      have hcc := HC.out (by intro e; rw [e] at hlt; simp at hlt)
      obtain ⟨hC1, hC2⟩ := hcc
      have HTK := Lib.hid (show (Pk.rooms C B).take (k + 1) = (Pk.rooms C B).take k ++ [C - Pk.tot (B.getD k [])] from by rw [take_succ_getD (by rw [Pk.rooms_len]; exact hlt), Pk.rooms_at hlt])
      obtain ⟨t, ht⟩ : ∃ t, Pk.tot (B.getD k []) = t := ⟨_, rfl⟩
      rw [ht] at K1 HTK t3 t4
      have K1_ : Hid (Calls Try.prog 46 #[.slice Ak nk ck] wr (RetV wr (.int .i64 t))) := Lib.hid K1.out
      have g1_ : wr.cell? ⟨b1, o1 + k, none⟩ = some (.slice Ak nk ck) := g1
      have hsub : IntKind.i64.wrap (C - t) = C - t := IntWalk.i64_in _ (by omega)
      have i1 : (0 : Int) ≤ (k : Int) := by omega
      have i2 : (k : Int) < (B.length : Int) := by omega
      have i3 : ((k : Int)).toNat = k := by omega
      have hbs := HBW.out.size
      clear hc1 t1 t2 hf ht K1 g1 HF
      go_wp2_with fail
      with_reducible refine K1_.out.mono ?_
      rintro e w' ⟨rfl, rfl⟩
      go_wp2_with (at_builtin; refine wpList_pushN rfl _ _ _ rfl Try.underlying22 rfl HW.out rfl (by simp) (by omega) hbs ?_; intro A' c' w' ho' hg' hb')
      have HO2 := Lib.hid ho'
      rw [← HTK.out] at HO2
      have HW2 := Lib.hid (HBW.out.grown hg' hbs (fun a e => (HW.out.lt a e).1))
      clear ho' hg' hb' g1_
      go_roundw
      case rel => exact ⟨k + 1, A', c', by omega, by go_num, rfl, HO2, HW2⟩
      case measure => simp [intOf]; omega
    · have e : k = B.length := by omega
      subst e
      have HO2 := Lib.hid HW.out
      rw [List.take_of_length_le (by rw [Pk.rooms_len]; omega)] at HO2
      clear hlt HW
      go_wp2_with fail
      go_ret2
      exact ⟨A1, _, k1, rfl, HO2.out.mono HB.out.size, HB.out.trans (HBW.out.mono HB.out.size)⟩
end Go.Proofs.Ytmnjablknjijbaa
