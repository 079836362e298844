
/- FnBinFits: bins that fit are at least the least number: the walk. -/
import Derived.Test.YtbihdajoflaknaaFitsI
import Derived.Test.YtbihdajoflaknaaFitsS
import Derived.Test.YtbihdajoflaknaaDrawF
import Derived.Test.YtbihdajoflaknaaFBinLeast
namespace Go.Proofs.Ytbihdajoflaknaa
set_option linter.unusedVariables false
open Go.RowKit
theorem flatten_rev_perm : ∀ (B : List (List Int)), B.reverse.flatten.Perm B.flatten
  | [] => List.Perm.refl _
  | b :: l => by
    have h1 : (l.reverse.flatten ++ b).Perm (b ++ l.reverse.flatten) := List.perm_append_comm
    have h2 := h1.trans ((flatten_rev_perm l).append_left b)
    simpa using h2
theorem fits_packs {xs : List Int} {C : Int} {B : List (List Int)} (h : fitsB xs C B = true) : leastF C xs ≤ B.length ∧ leastF C xs ≤ 10 ∧ fitsB xs C B.reverse = true ∧ bnOk xs C = true := by
  obtain ⟨h1, h2, h3⟩ := fits_true h
  obtain ⟨i1, i2, i3, i4, i5⟩ := bnOk_in h1
  have hx3 : ∀ x ∈ xs, 0 ≤ x ∧ x ≤ C := fun x hm => by have := i3 x hm; omega
  have hle := least_any hx3
  have hpl := h2.length_eq
  have hp : Pk.Packs B.flatten C B.length := Pk.packs_of_bins (by omega) B (fun b hb => by
    have hx : ∀ x ∈ b, 1 ≤ x ∧ x ≤ 60 := fun x hx => i2 x (h2.subset (List.mem_flatten.2 ⟨b, hb, hx⟩))
    obtain ⟨j, hj, e⟩ := List.mem_iff_getElem.1 hb
    have hlen := bin_len B j hj
    have e2 : B.getD j [] = b := by simp [List.getD, hj, e]
    rw [e2] at hlen
    have t1 := h3 b hb
    have t2 := wsum_tot b 0 hx (by omega) (by omega)
    omega)
  have hl10 := least_le hle hx3
  refine ⟨hle.2 _ (hp.perm h2), by omega, fits_yes h1 ((flatten_rev_perm B).trans h2) (fun j hj => ?_), h1⟩
  have hm : B.reverse.getD j [] ∈ B.reverse := by simp only [List.getD]; rw [List.getElem?_eq_getElem hj]; exact List.getElem_mem hj
  exact h3 _ (List.mem_reverse.1 hm)
/-- The last k rows, from behind. -/
def backL (fs : List Sl) (n k : Nat) : List Sl := (List.range k).map fun j => fs.getD (n - 1 - j) slNil
theorem backL_succ (fs : List Sl) (n k : Nat) : (backL fs n (k + 1)).map slv = (backL fs n k).map slv ++ [slv (fs.getD (n - 1 - k) slNil)] := by simp [backL, List.range_succ]
theorem backL_len (fs : List Sl) (n k : Nat) : (backL fs n k).length = k := by simp [backL]
theorem backL_get (fs : List Sl) (n k j : Nat) (h : j < k) : (backL fs n k).getD j slNil = fs.getD (n - 1 - j) slNil := by simp [backL, List.getD, h]
theorem rdF_back {w : World} {A A' : Option Addr} {c : Nat} {fs : List Sl} {B : List (List Int)} {base : Nat} (hF : RdF w A B.length fs B) (ho : w.ownsRow base 22 1 (.slice A' B.length c) B.length ((backL fs B.length B.length).map slv)) : RdF w A' B.length (backL fs B.length B.length) B.reverse := by
  refine ⟨by simp, fun hn => ?_, fun j hj => ?_⟩
  · rcases ho.2 with ⟨_, h⟩ | ⟨g, cap, cur, h, _, hg, _⟩
    · omega
    · injection h with h1 h2 h3
      subst h1
      refine ⟨g, 0, rfl, (Array.getElem?_eq_some_iff.1 hg).1, fun j hj => ?_⟩
      rw [Nat.zero_add, World.ownsRow.cellAt ho j (by omega)]
      have hl : j < (backL fs B.length B.length).length := by rw [backL_len]; exact hj
      simp [List.getD, hl, slv]
  · rw [backL_get _ _ _ _ hj]
    have h1 : B.length - 1 - j < B.length := by omega
    have := hF.2.2 (B.length - 1 - j) h1
    have e : B.reverse.getD j [] = B.getD (B.length - 1 - j) [] := by
      simp only [List.getD]
      rw [List.getElem?_reverse hj]
    rw [e]
    exact this
set_option maxRecDepth 100000 in
set_option maxHeartbeats 3200000 in
theorem mainBinFits (a0 : Option Addr) (n0 c0 : Nat) (z0 : List Int) (w : World) (hd0 : Rb w w.heap.size a0 n0 z0) (hk0 : n0 ≤ c0) : Calls Try.prog 4 #[.slice a0 n0 c0] w (RetB w true) := by
  by_cases big : 1048576 < n0
  · go_enter Try.func4, Try.ntmps4
    go_wp2_with fail
    go_ret
    exact ⟨rfl, Below.refl _ _⟩
  go_enter Try.func4, Try.ntmps4
  go_wp2_with fail
  refine (drawBinFits_any _ _ _ _ _ hd0 hk0).mono ?_
  rintro e w1 ⟨A, n, c, X, v, A', n', c', fs, B, rfl, hA, hn, hF, hn', hfl, hb⟩
  obtain rfl : B.length = n' := hF.1
  have D := Lib.hid hA
  have F := Lib.hid hF
  have BB := Lib.hid hb
  obtain ⟨ok, hok⟩ : ∃ ok, fitsB X v B = ok := ⟨_, rfl⟩
  have KI : Hid (∀ w2 : World, Rd w2 w2.heap.size A n X → RdF w2 A' B.length fs B → Calls Try.prog 9 #[.slice A n c, .int .i64 v, .slice A' B.length c'] w2 (RetB w2 ok)) := Lib.hid fun w2 ha hf => implBinFits_any A n c X v A' _ c' fs B w2 ha (by omega) hf (by omega) (by omega) ok hok
  have KS : Hid (∀ w2 : World, Rd w2 w2.heap.size A n X → RdF w2 A' B.length fs B → Calls Try.prog 6 #[.slice A n c, .int .i64 v, .slice A' B.length c'] w2 (RetB w2 ok)) := Lib.hid fun w2 ha hf => specBinFits_any A n c X v A' _ c' fs B w2 ha (by omega) hf (by omega) (by omega) ok hok
  clear hA hF hb hd0
  cases ok with
  | false =>
    clear hok
    go_wp2_with fail
    refine (KI.out w1 D.out F.out).mono ?_
    rintro e w2 ⟨rfl, hb⟩
    have D2 := Lib.hid (D.out.below hb).lt
    have F2 := Lib.hid (F.out.below hb)
    have B2 := Lib.hid (BB.out.trans (hb.mono BB.out.size))
    clear hb D F BB
    go_wp2_with fail
    refine (KS.out w2 D2.out F2.out).mono ?_
    rintro e w3 ⟨rfl, hb⟩
    have B3 := Lib.hid (B2.out.trans (hb.mono B2.out.size))
    clear hb
    go_wp2_with fail
    go_ret
    exact ⟨rfl, B3.out⟩
  | true =>
    obtain ⟨hp1, hp2, hp3, hp4⟩ := fits_packs hok
    have KL : Hid (∀ w2 : World, Rd w2 w2.heap.size A n X → Calls Try.prog 13 #[.slice A n c, .int .i64 v] w2 (RetIB w2 (leastF v X) true)) := Lib.hid fun w2 ha => implBinLeast_yes A n c X v w2 ha hp4
    obtain ⟨L, hL⟩ : ∃ L, leastF v X = L := ⟨_, rfl⟩
    rw [hL] at hp1 hp2 KL
    have KB : Hid (∀ (w2 : World) (A2 : Option Addr) (c2 : Nat) (gs : List Sl), Rd w2 w2.heap.size A n X → RdF w2 A2 B.length gs B.reverse → Calls Try.prog 9 #[.slice A n c, .int .i64 v, .slice A2 B.length c2] w2 (RetB w2 true)) := Lib.hid fun w2 A2 c2 gs ha hf => implBinFits_any A n c X v A2 _ c2 gs B.reverse w2 ha (by omega) hf (by omega) (by rw [(flatten_rev_perm B).length_eq]; omega) true hp3
    clear hok hp3 hp4 hL
    go_wp2_with fail
    refine (KI.out w1 D.out F.out).mono ?_
    rintro e w2 ⟨rfl, hb⟩
    have D2 := Lib.hid (D.out.below hb).lt
    have F2 := Lib.hid (F.out.below hb)
    have B2 := Lib.hid (BB.out.trans (hb.mono BB.out.size))
    clear hb D F BB
    go_wp2_with fail
    refine (KS.out w2 D2.out F2.out).mono ?_
    rintro e w3 ⟨rfl, hb⟩
    have D3 := Lib.hid (D2.out.below hb).lt
    have F3 := Lib.hid (F2.out.below hb)
    have B3 := Lib.hid (B2.out.trans (hb.mono B2.out.size))
    clear hb D2 F2 B2
    go_wp2_with fail
    refine (KL.out w3 D3.out).mono ?_
    rintro e w4 ⟨rfl, hb⟩
    have D4 := Lib.hid (D3.out.below hb).lt
    have F4 := Lib.hid (F3.out.below hb)
    have B4 := Lib.hid (B3.out.trans (hb.mono B3.out.size))
    have HE : Hid ((w4.alloc (.cells #[] 22)).ownsRow w4.heap.size 22 1 (.slice (some ⟨w4.heap.size, 0, none⟩) 0 0) 0 ((backL fs B.length 0).map slv)) := Lib.hid (own_emptyF w4).2.2.1
    have HW0 : Hid (Below w4.heap.size w4 (w4.alloc (.cells #[] 22))) := Lib.hid ((Below.refl _ _).alloc (Nat.le_refl _) _)
    clear hb D3 F3 B3 KI KS KL
    go_wp2_with fail
    go_loopw [10, 11] (fun b i wr => ∃ (k : Nat) (y : Int) (A2 : Option Addr) (c2 : Nat), k ≤ B.length ∧ y = (B.length : Int) - 1 - k ∧ i = .int .i64 y ∧ b = .slice A2 k c2 ∧ Hid (wr.ownsRow w4.heap.size 22 1 (.slice A2 k c2) k ((backL fs B.length k).map slv)) ∧ Hid (Below w4.heap.size w4 wr)) (fun _ i _ => (intOf i + 1).toNat)
    case atStart => exact ⟨0, (B.length : Int) - 1, _, _, by omega, by omega, by go_num, rfl, HE, HW0⟩
    case round =>
      obtain ⟨k, y, A2, c2, hk, hy, rfl, rfl, HO, HW⟩ := hrel
      clear HE HW0
      by_cases hlt : k < B.length
      · obtain ⟨q, rfl⟩ : ∃ q : Nat, y = (q : Int) := ⟨B.length - 1 - k, by omega⟩
        have hq : B.length - 1 - k = q := by omega
        have hqn : q < B.length := by omega
        have F5 := F4.out.below HW.out
        obtain ⟨b1, o1, rfl, _, hc1⟩ := F5.2.1 (by omega)
        have g1 := hc1 q hqn
        have hbs := backL_succ fs B.length k
        rw [hq] at hbs
        obtain ⟨⟨Ak, nk, ck⟩, hf⟩ : ∃ s, fs.getD q slNil = s := ⟨_, rfl⟩
        rw [hf] at g1 hbs
        have g1_ : wr.cell? ⟨b1, o1 + q, none⟩ = some (.slice Ak nk ck) := g1
        have HBS : Hid ((backL fs B.length (k + 1)).map slv = (backL fs B.length k).map slv ++ [.slice Ak nk ck]) := Lib.hid hbs
        have HOA : Hid ((wr.alloc (.cells #[.slice Ak nk ck] 22)).ownsRow w4.heap.size 22 1 (.slice A2 k c2) k ((backL fs B.length k).map slv)) := Lib.hid (World.ownsRow.alloc HO.out _)
        have HWA := Lib.hid (HW.out.alloc HW.out.size (.cells #[.slice Ak nk ck] 22))
        have hws := HW.out.size
        have HX : Hid (q = B.length - 1 - k) := Lib.hid hq.symm
        have i1 : (0 : Int) ≤ (q : Int) := by omega
        have i2 : (q : Int) < (B.length : Int) := by omega
        have i3 : ((q : Int)).toNat = q := by omega
        clear hc1 hf F5 g1 hbs hq hy
        go_wp2_with (at_builtin; refine wpList_pushR rfl _ _ _ rfl Try.underlying23 rfl HOA.out rfl (r := .slice Ak nk ck) rfl (by simp) (by omega) (by simp; omega) ?_; intro A3 c3 w3 ho' hg' hb')
        have O3 : Hid (w3.ownsRow w4.heap.size 22 1 (.slice A3 (k + 1) c3) (k + 1) ((backL fs B.length (k + 1)).map slv)) := Lib.hid (by rw [HBS.out]; exact ho')
        have W3 := Lib.hid (HWA.out.grown hg' HWA.out.size (fun g e => by
          refine (World.ownsRow.lt HOA.out g ?_).1
          cases A2 with
          | none => cases e
          | some a => simpa [Value.ownBlock, blk] using e))
        clear ho' hg' hb' HOA HWA HO
        go_roundw
        case rel => exact ⟨k + 1, (q : Int) - 1, A3, c3, by omega, by have := HX.out; omega, by go_num, rfl, O3, W3⟩
        case measure => simp [intOf]
      · have e : k = B.length := by omega
        subst e
        have hneg : ¬ (0 : Int) ≤ y := by omega
        have FB := Lib.hid (rdF_back (F4.out.below HW.out) HO.out)
        have D5 := Lib.hid (D4.out.below HW.out).lt
        have B5 := Lib.hid (B4.out.trans (HW.out.mono B4.out.size))
        have dl : decide ((L : Int) ≤ (B.length : Int)) = true := decide_eq_true (by omega)
        clear HO HW hlt
        go_wp2_with fail
        refine (KB.out wr A2 c2 _ D5.out FB.out).mono ?_
        rintro e w6 ⟨rfl, hb⟩
        have B6 := Lib.hid (B5.out.trans (hb.mono B5.out.size))
        clear hb
        go_wp2_with fail
        go_ret
        exact ⟨rfl, B6.out⟩
end Go.Proofs.Ytbihdajoflaknaa
