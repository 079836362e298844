
/- impl.BinLeast's closure: the walk. -/
import Derived.Test.YtbihdajoflaknaaLeastI
namespace Go.Proofs.Ytbihdajoflaknaa
set_option linter.unusedVariables false
open Go.RowKit
/-- What the search hands back. -/
def RetL (W0 : World) (br bl bn bf bs : Nat) (AN : Option Addr) (m cN : Nat) (xs : List Int) (C : Int) (n : Nat) (R zs : List Int) (L : Nat) (e : Ending) (w' : World) : Prop :=
  e = .returned (.tuple #[]) ∧ ∃ A' c' M, Pk.Best C R zs L M ∧ WL W0 br bl bn bf bs AN m cN xs C A' n c' R M w'
set_option maxHeartbeats 1600000 in
theorem put_cut (W0 : World) (br bl bn bf bs : Nat) (AN : Option Addr) (m cN : Nat) (xs : List Int) (C : Int) (p : Nat) (zs : List Int) (A : Option Addr) (n c : Nat) (R : List Int) (L : Nat) (w : World) (h : WL W0 br bl bn bf bs AN m cN xs C A n c R L w) (hL : L ≤ n) :
    Calls Try.prog 27 #[.int .i64 p, .pointer (some ⟨br, 0, none⟩), .pointer (some ⟨bl, 0, none⟩), .pointer (some ⟨bn, 0, none⟩), .pointer (some ⟨bf, 0, none⟩), .pointer (some ⟨bs, 0, none⟩)] w (RetL W0 br bl bn bf bs AN m cN xs C n R zs L) := by
  have c1 := h.cr
  have c2 := h.cl
  have HL := Lib.hid h.own.len
  have HH := Lib.hid h
  have hz : (n : Int) ≥ (L : Int) := by omega
  have dv : decide ((L : Int) ≤ (n : Int)) = true := by simpa using hL
  clear h
  go_enter Try.func27, Try.ntmps27
  go_wp2_with fail
  refine bodyPost_ret (results_none rfl _ _ _) rfl ?_
  exact ⟨rfl, A, c, L, Pk.best_cut (by rw [HL.out]; exact hL), HH.out⟩
set_option maxHeartbeats 1600000 in
theorem put_leaf (W0 : World) (br bl bn bf bs : Nat) (AN : Option Addr) (m cN : Nat) (xs : List Int) (C : Int) (A : Option Addr) (n c : Nat) (R : List Int) (L : Nat) (w : World) (h : WL W0 br bl bn bf bs AN m cN xs C A n c R L w) (hL : n < L) (hR : ∀ r ∈ R, 0 ≤ r) :
    Calls Try.prog 27 #[.int .i64 m, .pointer (some ⟨br, 0, none⟩), .pointer (some ⟨bl, 0, none⟩), .pointer (some ⟨bn, 0, none⟩), .pointer (some ⟨bf, 0, none⟩), .pointer (some ⟨bs, 0, none⟩)] w (RetL W0 br bl bn bf bs AN m cN xs C n R [] L) := by
  have c1 := h.cr
  have c2 := h.cl
  have c3 := h.fl
  have c4 := h.cn
  have HL := Lib.hid h.own.len
  have HP := Lib.hid (h.put n)
  have HR := Lib.hid hR
  have dv : decide ((L : Int) ≤ (n : Int)) = false := by simp; omega
  clear h hR
  go_enter Try.func27, Try.ntmps27
  go_wp2_with fail
  refine bodyPost_ret (results_none rfl _ _ _) rfl ?_
  exact ⟨rfl, A, c, n, by have := Pk.best_leaf (C := C) (R := R) (L := L) (by rw [HL.out]; exact hL) HR.out; rw [HL.out] at this; exact this, HP.out⟩
set_option maxRecDepth 100000 in
set_option maxHeartbeats 6400000 in
theorem put_any (W0 : World) (br bl bn bf bs : Nat) (AN : Option Addr) (m cN : Nat) (xs : List Int) (C : Int) (hC1 : 1 ≤ C) (hC2 : C ≤ 100) (hx : ∀ x ∈ xs, 0 < x ∧ x ≤ C) (hm : m ≤ 10) : ∀ (q p : Nat), p + q = m → ∀ (A : Option Addr) (n c : Nat) (R : List Int) (L : Nat) (w : World),
    WL W0 br bl bn bf bs AN m cN xs C A n c R L w → n ≤ p → L ≤ 10 → (∀ r ∈ R, 0 ≤ r ∧ r ≤ C) →
    Calls Try.prog 27 #[.int .i64 p, .pointer (some ⟨br, 0, none⟩), .pointer (some ⟨bl, 0, none⟩), .pointer (some ⟨bn, 0, none⟩), .pointer (some ⟨bf, 0, none⟩), .pointer (some ⟨bs, 0, none⟩)] w (RetL W0 br bl bn bf bs AN m cN xs C n R (xs.drop p) L) := by
  intro q
  induction q with
  | zero =>
    intro p hp A n c R L w h hn hL hR
    have e : p = m := by omega
    subst e
    by_cases hLn : L ≤ n
    · exact put_cut W0 br bl bn bf bs AN _ cN xs C _ _ A n c R L w h hLn
    · have hl := h.nums.len
      rw [List.drop_of_length_le (by omega)]
      exact put_leaf W0 br bl bn bf bs AN _ cN xs C A n c R L w h (by omega) (fun r hr => (hR r hr).1)
  | succ q ih =>
    intro p hp A n c R L w h hn hL hR
    by_cases hLn : L ≤ n
    · exact put_cut W0 br bl bn bf bs AN _ cN xs C _ _ A n c R L w h hLn
    have hpm : p < m := by omega
    obtain ⟨gn, hgn, _, _⟩ := h.nums.form (by omega)
    subst hgn
    have hxl := h.nums.len
    obtain ⟨x, hxe⟩ : ∃ x, xs.getD p 0 = x := ⟨_, rfl⟩
    have hxin : 0 < x ∧ x ≤ C := by rw [← hxe]; exact hx _ (getD_mem (by omega))
    have hd : xs.drop p = x :: xs.drop (p + 1) := by
      rw [List.drop_eq_getElem_cons (by omega)]
      rw [← hxe]; simp [List.getD, show p < xs.length by omega]
    obtain ⟨hx1, hx2⟩ := hxin
    rw [hd]
    obtain ⟨p1, hp1⟩ : ∃ p1, p + 1 = p1 := ⟨_, rfl⟩
    have hpz : (p : Int) + 1 = (p1 : Int) := by omega
    have hp1m : p1 + q = m := by omega
    have hnp1 : n + 1 ≤ p1 := by omega
    rw [hp1]
    obtain ⟨l, hlq⟩ : ∃ l, xs.drop p1 = l := ⟨_, rfl⟩
    have IH : Hid (∀ (A : Option Addr) (n c : Nat) (R : List Int) (L : Nat) (w : World), WL W0 br bl bn bf bs (some ⟨gn, 0, none⟩) m cN xs C A n c R L w → n ≤ p1 → L ≤ 10 → (∀ r ∈ R, 0 ≤ r ∧ r ≤ C) →
      Calls Try.prog 27 #[.int .i64 p1, .pointer (some ⟨br, 0, none⟩), .pointer (some ⟨bl, 0, none⟩), .pointer (some ⟨bn, 0, none⟩), .pointer (some ⟨bf, 0, none⟩), .pointer (some ⟨bs, 0, none⟩)] w (RetL W0 br bl bn bf bs (some ⟨gn, 0, none⟩) m cN xs C n R l L)) := Lib.hid (by rw [← hlq]; exact ih p1 hp1m)
    rw [hlq]
    have HL := Lib.hid h.own.len
    have HR := Lib.hid hR
    have H0 := Lib.hid (Pk.bestTo_zero C R x l L)
    have HH := Lib.hid h
    have c1 := h.cr
    have c2 := h.cl
    have c3 := h.cn
    have g0 := h.nums.cell (j := p) hpm
    rw [hxe] at g0
    have dv : decide ((L : Int) ≤ (n : Int)) = false := by simp; omega
    have dp : ((p : Int) == (m : Int)) = false := by rw [beq_eq_false_iff_ne]; omega
    have pz : ¬ (p : Int) = (m : Int) := by omega
    have i1 : (0 : Int) ≤ (p : Int) := by omega
    have i2 : (p : Int) < (m : Int) := by omega
    have i3 : ((p : Int)).toNat = p := by omega
    have kw : IntKind.i64.wrap ((p : Int) + 1) = (p1 : Int) := by rw [hpz]; exact IntWalk.i64_in _ (by omega)
    clear h ih hd hlq hxe hp1 hx hR hxl
    go_enter Try.func27, Try.ntmps27
    go_wp2_with fail
    go_loopw [25] (fun i wr => ∃ (k M : Nat) (A1 : Option Addr) (k1 : Nat), k ≤ n ∧ M ≤ 10 ∧ i = .int .i64 k ∧ Hid (Pk.BestTo C R x l L k M) ∧ Hid (WL W0 br bl bn bf bs (some ⟨gn, 0, none⟩) m cN xs C A1 n k1 R M wr)) (fun i _ => n - (intOf i).toNat)
    case atStart => exact ⟨0, L, A, c, by omega, hL, rfl, H0, HH⟩
    case round =>
      obtain ⟨k, M, A1, k1, hk, hM, rfl, HF, HW⟩ := hrel
      clear H0 HH c1 c2 c3 g0
      by_cases hlt : k < n
      · obtain ⟨g, hg, _, _⟩ := HW.out.own.form (by omega)
        subst hg
        have c1 := HW.out.cr
        have g1 := HW.out.own.cell (j := k) hlt
        have f1 := HW.out.own.free k
        obtain ⟨r, hr⟩ : ∃ r, R.getD k 0 = r := ⟨_, rfl⟩
        rw [hr] at g1
        have hrr : 0 ≤ r ∧ r ≤ C := by rw [← hr]; exact HR.out _ (getD_mem (by rw [HL.out]; exact hlt))
        obtain ⟨hr1, hr2⟩ := hrr
        have HRE := Lib.hid hr
        clear hr
        have z1 : (0 : Int) ≤ (k : Int) := by omega
        have z2 : (k : Int) < (n : Int) := by omega
        have z3 : ((k : Int)).toNat = k := by omega
        by_cases hxr : x ≤ r
        · have w1 : IntKind.i64.wrap (r - x) = r - x := IntWalk.i64_in _ (by omega)
          have w2 : IntKind.i64.wrap (r - x + x) = r := by rw [Int.sub_add_cancel]; exact IntWalk.i64_in _ (by omega)
          have s1 := HW.out.own.set_ k (r - x)
          have S1 := Lib.hid (HW.out.row s1.1 s1.2)
          have HR1 : Hid (∀ y ∈ R.set k (r - x), 0 ≤ y ∧ y ≤ C) := Lib.hid (fun y hy => by
            rcases List.mem_or_eq_of_mem_set hy with h | h
            · exact HR.out y h
            · subst h; omega)
          clear s1
          have c5 := S1.out.cf
          go_wp2_with fail
          refine (IH.out _ n k1 _ M _ S1.out (by omega) hM HR1.out).mono ?_
          rintro e w2 ⟨rfl, A2, k2, N, hb, hw2⟩
          have hN : N ≤ 10 := Nat.le_trans hb.1 hM
          have HN := Lib.hid (HF.out.step (by rw [HL.out]; exact hlt) (by rw [HRE.out]; exact hxr) (by rw [HRE.out]; exact hb))
          obtain ⟨g2, hg2, _, _⟩ := hw2.own.form (by omega)
          subst hg2
          have c1 := hw2.cr
          have g1 := hw2.own.cell (j := k) hlt
          have f1 := hw2.own.free k
          have e1 : (R.set k (r - x)).getD k 0 = r - x := by simp [List.getD, HL.out, hlt]
          rw [e1] at g1
          have s1 := hw2.own.set_ k r
          have e2 : (R.set k (r - x)).set k r = R := by
            rw [List.set_set]
            have := HRE.out
            rw [Pk.getD_get (by rw [HL.out]; exact hlt)] at this
            rw [← this]; exact List.set_getElem_self _
          rw [e2] at s1
          have S2 := Lib.hid (hw2.row s1.1 s1.2)
          clear s1 e1 e2 hw2 hb c5 S1 HW HF HR1
          go_wp2_with fail
          generalize w2.setCell ⟨g2, k, none⟩ (.int .i64 r) = wq at S2 ⊢
          clear c1 g1 f1
          go_roundw
          case rel => exact ⟨k + 1, N, _, _, by omega, hN, by go_num, HN, S2⟩
          case measure => simp [intOf]; omega
        · have HN := Lib.hid (HF.out.skip (by rw [HRE.out]; exact hxr))
          have dv2 : decide (x ≤ r) = false := by simpa using hxr
          go_wp2_with fail
          go_roundw
          case rel => exact ⟨k + 1, M, _, _, by omega, hM, by go_num, HN, HW⟩
          case measure => simp [intOf]; omega
      · have e : k = n := by omega
        subst e
        have c1 := HW.out.cr
        have c4 := HW.out.cs
        have b1 := HW.out.below.size
        have w1 : IntKind.i64.wrap (C - x) = C - x := IntWalk.i64_in _ (by omega)
        go_wp2_with (at_builtin; refine wpList_pushN rfl _ _ _ rfl Try.underlying22 rfl HW.out.own rfl (by simp) (by omega) b1 ?_; intro A2 k2 w2 ho' hg' hb'; have c9 := gcell hg' c1 (fun e => (HW.out.aa _ e).1 rfl); have f9 := gfree hg' c1 HW.out.fr (fun e => (HW.out.aa _ e).1 rfl); have S1 := Lib.hid (HW.out.app hg' ho' (by rcases hb' with h | ⟨_, h⟩; exact .inl h; exact .inr h)); have c5 := S1.out.cf)
        have HR1 : Hid (∀ y ∈ R ++ [C - x], 0 ≤ y ∧ y ≤ C) := Lib.hid (fun y hy => by
          rcases List.mem_append.1 hy with h | h
          · exact HR.out y h
          · simp at h; omega)
        clear ho' hg' hb' c1 c4 b1 c9 f9
        refine (IH.out _ (k + 1) k2 _ M _ S1.out hnp1 hM HR1.out).mono ?_
        rintro e w3 ⟨rfl, A3, k3, N, hb, hw3⟩
        have HN := Lib.hid (HF.out.done (by rw [HL.out]; exact Nat.le_refl _) hx2 hb)
        obtain ⟨g3, hg3, _, _⟩ := hw3.own.form (by omega)
        subst hg3
        have c1 := hw3.cr
        have f1 := hw3.fr
        have hcap : k + 1 ≤ k3 := (Own.cap hw3.own).1
        have S2 := Lib.hid hw3.drop
        have w2 : IntKind.i64.wrap (((k + 1 : Nat) : Int) - 1) = (k : Int) := by rw [show ((k + 1 : Nat) : Int) - 1 = (k : Int) by omega]; exact IntWalk.i64_in _ (by omega)
        clear hb hw3 c5 S1 HW HF HR1
        go_wp2_with fail
        go_end0
        exact ⟨rfl, _, _, N, HN.out, S2.out⟩
end Go.Proofs.Ytbihdajoflaknaa
