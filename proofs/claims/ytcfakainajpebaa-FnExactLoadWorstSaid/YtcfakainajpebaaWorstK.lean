
/- impl.LoadWorst's closure: all orders. -/
import Derived.Test.YtcfakainajpebaaWorstJ
import Derived.Test.YtcfakainajpebaaReg
namespace Go.Proofs.Ytcfakainajpebaa
set_option linter.unusedVariables false
open Go.RowKit
theorem set_at {O : List Int} {p k n : Nat} {y : Int} (hp : p < n) (hk : k < n) (hl : O.length = n) (h : O.getD k 0 = y) : (O.set p y).getD k 0 = y := by
  by_cases e : p = k
  · subst e; simp [List.getD, hl, hp]
  · rw [← h]; simp [List.getD, e]
theorem set_set_at {O : List Int} {p k n : Nat} {x y : Int} (hp : p < n) (hk : k < n) (hl : O.length = n) (hx : O.getD p 0 = x) (hy : O.getD k 0 = y) : ((O.set p y).set k x).getD p 0 = y ∧ ((O.set p y).set k x).getD k 0 = x := by
  refine ⟨?_, by simp [List.getD, hl, hk]⟩
  by_cases e : p = k
  · subst e; rw [hx] at hy; subst hy; simp [List.getD, hl, hp]
  · simp [List.getD, Ne.symm e, hl, hp]
theorem swap_sum {O : List Int} {p k n : Nat} {x y : Int} (hp : p < n) (hk : k < n) (hl : O.length = n) (hx : O.getD p 0 = x) (hy : O.getD k 0 = y) (h : sumIn O = true) : sumIn ((O.set p y).set k x) = true := by
  refine sumIn_perm ?_ h
  have gp : x = O[p] := by rw [← hx]; simp [List.getD, hl, hp]
  have gk : y = O[k] := by rw [← hy]; simp [List.getD, hl, hk]
  rw [gp, gk]
  exact List.set_set_perm (by omega) (by omega)
set_option maxRecDepth 100000 in
set_option maxHeartbeats 6400000 in
theorem arrange_any (m : Nat) (hm1 : 1 ≤ m) (hm2 : m ≤ 5) (W0 : World) (bo bw bm bf g n c : Nat) : ∀ (q p : Nat), p + q = n → ∀ (O : List Int) (v : Int) (w : World), WS W0 bo bw bm bf (some ⟨g, 0, none⟩) n c m O v w → sumIn O = true →
    Calls Try.prog 12 #[.int .i64 p, .pointer (some ⟨bo, 0, none⟩), .pointer (some ⟨bw, 0, none⟩), .pointer (some ⟨bm, 0, none⟩), .pointer (some ⟨bf, 0, none⟩)] w
      fun e w' => e = .returned (.tuple #[]) ∧ ∃ u, Wst.IsMax (spanF m) (O.take p) (O.drop p) u ∧ WS W0 bo bw bm bf (some ⟨g, 0, none⟩) n c m O (max v u) w' := by
  intro q
  induction q with
  | zero =>
    intro p hp O v w h hs
    have e : p = n := by omega
    subst e
    have hl := h.len
    refine (arrange_leaf m hm1 hm2 W0 bo bw bm bf _ _ c O v w h hs).mono ?_
    rintro e w' ⟨rfl, hw⟩
    refine ⟨rfl, spanF m O, ?_, hw⟩
    rw [List.drop_of_length_le (by omega), List.take_of_length_le (by omega)]
    exact Wst.isMax_nil _ _
  | succ q ih =>
    intro p hp O v w h hs
    have hpn : p < n := by omega
    have hn10 : n ≤ 10 := by have h1 := sumIn_len hs; rw [h.len] at h1; exact h1
    have c1 := h.order
    have HL := Lib.hid h.len
    have HH := Lib.hid h
    have HS := Lib.hid hs
    have IH := Lib.hid ih
    have H0 := Lib.hid (Wst.soFar_zero (spanF m) (O.take p) (O.drop p) v)
    have pz : ¬ (p : Int) = (n : Int) := by omega
    have dv : ((p : Int) == (n : Int)) = false := by rw [beq_eq_false_iff_ne]; exact pz
    obtain ⟨p1, hp1⟩ : ∃ p1, p + 1 = p1 := ⟨_, rfl⟩
    have hpz : (p : Int) + 1 = (p1 : Int) := by omega
    have HP1 := Lib.hid hp1
    clear h hs ih hp1
    go_enter Try.func12, Try.ntmps12
    go_wp2_with fail
    go_loopw [6] (fun i wr => ∃ (k : Nat) (s : Int), p ≤ k ∧ k ≤ n ∧ i = .int .i64 k ∧ Hid (Wst.SoFar (spanF m) (O.take p) (O.drop p) v (k - p) s) ∧ Hid (WS W0 bo bw bm bf (some ⟨g, 0, none⟩) n c m O s wr)) (fun i _ => n - (intOf i).toNat)
    case atStart => exact ⟨p, v, by omega, by omega, rfl, by rw [Nat.sub_self]; exact H0, HH⟩
    case round =>
      obtain ⟨k, s, hk1, hk2, rfl, HF, HW⟩ := hrel
      clear HH c1 H0
      have c1 := HW.out.order
      by_cases hlt : k < n
      · have hltz : (k : Int) < (n : Int) := by omega
        have c5 := HW.out.self
        have g1 := HW.out.own.cell (j := p) (by omega)
        have g2 := HW.out.own.cell (j := k) (by omega)
        have f1 := HW.out.own.free p
        have f2 := HW.out.own.free k
        obtain ⟨x, hx⟩ : ∃ x, O.getD p 0 = x := ⟨_, rfl⟩
        obtain ⟨y, hy⟩ : ∃ y, O.getD k 0 = y := ⟨_, rfl⟩
        rw [hx] at g1
        rw [hy] at g2
        have HX := Lib.hid hx
        have HY := Lib.hid hy
        clear hx hy
        have s1 := HW.out.own.set_ p y
        have g3 := s1.1.cell (j := k) hlt
        have f3 := s1.1.free k
        have e3 := set_at hpn hlt HL.out HY.out
        rw [e3] at g3
        have s2 := HW.out.row s1.1 s1.2
        have c1b := s2.order
        have S1 := Lib.hid s1
        have S2 := Lib.hid s2
        clear s1 s2 e3
        have z1 : (0 : Int) ≤ (p : Int) := by omega
        have z2 : (0 : Int) ≤ (k : Int) := by omega
        have z3 : (p : Int) < (n : Int) := by omega
        have z4 : ((p : Int)).toNat = p := by omega
        have z5 : ((k : Int)).toNat = k := by omega
        go_wp2_with fail
        apply wp_to
        case h => go_big_region; exact ⟨rfl, rfl⟩
        have s3 := S1.out.1.set_ k x
        have s4 := (S2.out.row s3.1 s3.2).drewN 1
        have HP : Hid (WS W0 bo bw bm bf (some ⟨g, 0, none⟩) n c m ((O.set p y).set k x) s ((wr.setCell ⟨g, p, none⟩ (.int .i64 y)).setCell ⟨g, k, none⟩ (.int .i64 x)).drew) := Lib.hid s4
        clear s3 s4 c1 c1b c5 g1 g2 g3 f1 f2 f3 S1 S2
        have HQ := Lib.hid (swap_sum hpn hlt HL.out HX.out HY.out HS.out)
        have HA := Lib.hid (set_set_at hpn hlt HL.out HX.out HY.out)
        have HB := Lib.hid (Wst.swap_rest (O := O) (p := p) (i := k) hk1 (by rw [HL.out]; exact hlt))
        have HC := Lib.hid (Wst.swap_back (O := O) (p := p) (i := k) (by rw [HL.out]; exact hpn) (by rw [HL.out]; exact hlt))
        rw [HX.out, HY.out] at HB HC
        rw [HA.out.1, HA.out.2] at HC
        generalize ((wr.setCell ⟨g, p, none⟩ (.int .i64 y)).setCell ⟨g, k, none⟩ (.int .i64 x)).drew = wm at HP ⊢
        have c5 := HP.out.self
        have kw : IntKind.i64.wrap ((p : Int) + 1) = (p1 : Int) := by rw [hpz]; exact IntWalk.i64_in _ (by omega)
        go_wp2_with fail
        refine (IH.out p1 (by omega) _ s wm HP.out HQ.out).mono ?_
        rintro e w2 ⟨rfl, u, hu, hw2⟩
        have hb := HB.out.1
        rw [HP1.out] at hb
        rw [hb] at hu
        have HN := Lib.hid (HF.out.step (by rw [List.length_drop, HL.out]; omega) (hu.perm (by have := HB.out.2; rw [HP1.out] at this; exact this.symm)))
        rw [show k - p + 1 = k + 1 - p by omega] at HN
        have HV := Lib.hid hw2
        clear hu hw2 hb HF HP kw c5
        have c1 := HV.out.order
        have g1 := HV.out.own.cell (j := p) (by omega)
        have g2 := HV.out.own.cell (j := k) (by omega)
        have f1 := HV.out.own.free p
        have f2 := HV.out.own.free k
        rw [HA.out.1] at g1
        rw [HA.out.2] at g2
        have s1 := HV.out.own.set_ p x
        have g3 := s1.1.cell (j := k) hlt
        have f3 := s1.1.free k
        rw [set_at hpn hlt (by simp [HL.out]) HA.out.2] at g3
        have s2 := HV.out.row s1.1 s1.2
        have c1b := s2.order
        have s3 := s1.1.set_ k y
        rw [HC.out] at s3
        have HZ : Hid (WS W0 bo bw bm bf (some ⟨g, 0, none⟩) n c m O (max s u) ((w2.setCell ⟨g, p, none⟩ (.int .i64 x)).setCell ⟨g, k, none⟩ (.int .i64 y)).drew) := Lib.hid ((s2.row s3.1 s3.2).drewN 1)
        clear s1 s2 s3
        go_wp2_with fail
        apply wp_to
        case h => go_big_region; exact ⟨rfl, rfl⟩
        generalize ((w2.setCell ⟨g, p, none⟩ (.int .i64 x)).setCell ⟨g, k, none⟩ (.int .i64 y)).drew = w3 at HZ ⊢
        clear c1 c1b g1 g2 g3 f1 f2 f3
        go_wp2_with fail
        go_roundw
        case rel => exact ⟨k + 1, max s u, by omega, by omega, by go_num, HN, HZ⟩
        case measure => simp [intOf]; omega
      · have hltz : ¬ (k : Int) < (n : Int) := by omega
        obtain ⟨u, hu, hsu⟩ := HF.out.done (by simp [HL.out]; omega) (by intro e; have := congrArg List.length e; simp [HL.out] at this; omega)
        subst hsu
        have HU := Lib.hid hu
        clear hu
        go_wp2_with fail
        go_end0
        exact ⟨rfl, u, HU.out, HW.out⟩
end Go.Proofs.Ytcfakainajpebaa
