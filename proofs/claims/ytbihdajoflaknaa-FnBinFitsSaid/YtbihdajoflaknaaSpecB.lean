
/- spec.BinBy, spec.BinCount, spec.BinRoom. -/
import Derived.Test.YtbihdajoflaknaaByS
import Derived.Test.YtbihdajoflaknaaBinC
namespace Go.Proofs.Ytbihdajoflaknaa
set_option linter.unusedVariables false
open Go.RowKit
/-- Slices of slices of the call's own, and a bool. -/
def RetFB (w : World) (B : List (List Int)) (b : Bool) (e : Ending) (w' : World) : Prop := ∃ A n c fs, e = .returned (.tuple #[.slice A n c, .bool b]) ∧ OwnF w' w.heap.size A n c fs B ∧ Below w.heap.size w w'
theorem OwnF.base {w : World} {base base' n c : Nat} {A : Option Addr} {fs : List Sl} {yss : List (List Int)} (h : OwnF w base A n c fs yss) (hb : base' ≤ base) : OwnF w base' A n c fs yss := h.mono hb
set_option maxHeartbeats 800000 in
theorem specBinBy_no (A : Option Addr) (n c : Nat) (xs : List Int) (C : Int) (s : ByteArray) (w : World) (ha : Rd w w.heap.size A n xs) (hn : n ≤ 1000000000) (h : bkOk xs C s = false) :
    Calls Try.prog 24 #[.slice A n c, .int .i64 C, .string s] w (RetFB w [] false) := by
  have HR := Lib.hid (l4Rule_any s w)
  have HA := Lib.hid ha
  clear ha
  cases hb : bnOk xs C with
  | false =>
    have HB := Lib.hid hb
    clear h hb
    go_enter Try.func24, Try.ntmps24
    go_wp2_with fail
    refine HR.out.mono ?_
    rintro e w2 ⟨rfl, q, rfl⟩
    have HA2 : Hid (Rd (w.drewN q) (w.drewN q).heap.size A n xs) := Lib.hid (HA.out.below (below_drewN (Below.refl _ _) q))
    go_wp2_with fail
    refine (l4Given_any _ _ _ _ _ _ HA2.out hn _ HB.out).mono ?_
    rintro e w' ⟨rfl, rfl⟩
    go_wp2_with fail
    go_ret2
    exact ⟨_, _, _, [], rfl, own_emptyF (w.drewN q), (below_drewN (Below.refl _ _) q).alloc (Nat.le_refl _) _⟩
  | true =>
    have hr : ruleB s = none := by
      rcases bkOk_false h with h | h
      · exact h
      · rw [hb] at h; cases h
    have hrx : rx s = 0 := by unfold rx; rw [hr]
    rw [hrx] at HR
    have HB := Lib.hid hb
    clear h hb hr hrx
    go_enter Try.func24, Try.ntmps24
    go_wp2_with fail
    refine HR.out.mono ?_
    rintro e w2 ⟨rfl, q, rfl⟩
    have HA2 : Hid (Rd (w.drewN q) (w.drewN q).heap.size A n xs) := Lib.hid (HA.out.below (below_drewN (Below.refl _ _) q))
    go_wp2_with fail
    refine (l4Given_any _ _ _ _ _ _ HA2.out hn _ HB.out).mono ?_
    rintro e w' ⟨rfl, rfl⟩
    go_wp2_with fail
    go_ret2
    exact ⟨_, _, _, [], rfl, own_emptyF (w.drewN q), (below_drewN (Below.refl _ _) q).alloc (Nat.le_refl _) _⟩
set_option maxHeartbeats 800000 in
theorem specBinBy_yes (A : Option Addr) (n c : Nat) (xs : List Int) (C : Int) (s : ByteArray) (w : World) (ha : Rd w w.heap.size A n xs) (h : bkOk xs C s = true) :
    Calls Try.prog 24 #[.slice A n c, .int .i64 C, .string s] w (RetFB w (binsF xs C s) true) := by
  obtain ⟨hb, J, cap, hr, hJ, hB⟩ := bkOk_true h
  have HR := Lib.hid (l4Rule_any s w)
  obtain ⟨_, hx, hrx⟩ := ruleB_some hr
  obtain ⟨_, hne, hcs⟩ := ruleX_some hx
  rw [hrx] at HR
  have HA := Lib.hid ha
  have HBK := Lib.hid hb
  have hl := ha.len
  have hn : n ≤ 10 := by have := (bnOk_in hb).1; omega
  have K : Hid (∀ w, Rd w w.heap.size A n xs → Calls Try.prog 37 #[.slice A n c, .int .i64 C, .int .u8 (byte0 s)] w (RetF w (binsF xs C s))) := Lib.hid (fun w ha => by rw [hB]; exact l4By_any A n c xs C s J cap w ha hr hb)
  obtain ⟨k, hk⟩ : ∃ k, byte0 s = k := ⟨_, rfl⟩
  rw [hk] at HR hne K
  have dk : (k == 0) = false := beq_eq_false_iff_ne.2 hne
  clear ha h hb hr hx hrx hcs hB hk
  go_enter Try.func24, Try.ntmps24
  go_wp2_with fail
  refine HR.out.mono ?_
  rintro e w2 ⟨rfl, q, rfl⟩
  have HA2 : Hid (Rd (w.drewN q) (w.drewN q).heap.size A n xs) := Lib.hid (HA.out.below (below_drewN (Below.refl _ _) q))
  have HB2 : Hid (Below w.heap.size w (w.drewN q)) := Lib.hid (below_drewN (Below.refl _ _) q)
  have hsz : (w.drewN q).heap.size = w.heap.size := rfl
  generalize w.drewN q = wd at HA2 HB2 hsz ⊢
  go_wp2_with fail
  refine (l4Given_any _ _ _ _ _ _ HA2.out (by omega) _ HBK.out).mono ?_
  rintro e w' ⟨rfl, rfl⟩
  go_wp2_with fail
  refine (K.out _ HA2.out).mono ?_
  rintro e w3 ⟨A3, n3, c3, fs, rfl, ho, hb⟩
  have HO := Lib.hid ho
  have HB3 := Lib.hid (HB2.out.trans (hb.mono HB2.out.size))
  have hle := hb.size
  clear ho hb
  go_wp2_with fail
  go_ret2
  exact ⟨A3, n3, c3, fs, rfl, HO.out.mono (by omega), HB3.out⟩
theorem specBinBy_any (A : Option Addr) (n c : Nat) (xs : List Int) (C : Int) (s : ByteArray) (w : World) (ha : Rd w w.heap.size A n xs) (hn : n ≤ 1000000000) (b : Bool) (h : bkOk xs C s = b) :
    Calls Try.prog 24 #[.slice A n c, .int .i64 C, .string s] w (RetFB w (if b then binsF xs C s else []) b) := by
  cases b with
  | true => exact specBinBy_yes A n c xs C s w ha h
  | false => exact specBinBy_no A n c xs C s w ha hn h
end Go.Proofs.Ytbihdajoflaknaa
