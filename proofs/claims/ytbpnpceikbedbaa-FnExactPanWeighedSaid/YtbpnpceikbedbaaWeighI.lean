
/- impl.PanWeighed's closure: the walk. -/
import Derived.Test.YtbpnpceikbedbaaWeighS
namespace Go.Proofs.Ytbpnpceikbedbaa
set_option linter.unusedVariables false
open Go.RowKit
/-- The three captured variables, the weights, and the signs so far. -/
structure WP (W0 : World) (ba bw bf : Nat) (A : Option Addr) (ca : Nat) (xs : List Int) (G : Option Addr) (n c : Nat) (O : List Int) (w : World) : Prop where
  below : Below W0.heap.size W0 w
  own : Own w W0.heap.size G n c O
  rd : Rd w W0.heap.size A n xs
  arg : w.cell? ⟨ba, 0, none⟩ = some (.slice A n ca)
  out : w.cell? ⟨bw, 0, none⟩ = some (.slice G n c)
  self : w.cell? ⟨bf, 0, none⟩ = some (.func (.func 34) #[] #[.pointer (some ⟨ba, 0, none⟩), .pointer (some ⟨bw, 0, none⟩), .pointer (some ⟨bf, 0, none⟩)])
  a1 : blk G ≠ some ba
  a2 : blk G ≠ some bw
  a3 : blk G ≠ some bf
section
variable {W0 w w' : World} {ba bw bf n c ca : Nat} {A G : Option Addr} {O xs : List Int}
theorem WP.drewN (h : WP W0 ba bw bf A ca xs G n c O w) (k : Nat) : WP W0 ba bw bf A ca xs G n c O (w.drewN k) := ⟨below_drewN h.below k, h.own.drewN k, h.rd.below (below_drewN (Below.refl _ _) k), h.arg, h.out, h.self, h.a1, h.a2, h.a3⟩
/-- The signs' cells are written. -/
theorem WP.row (h : WP W0 ba bw bf A ca xs G n c O w) {O' : List Int} (ho : Own w' W0.heap.size G n c O') (hg : w.grownBy w' (blk G)) : WP W0 ba bw bf A ca xs G n c O' w' := by
  have ce : ∀ {b : Nat} {x : Value}, blk G ≠ some b → w.cell? ⟨b, 0, none⟩ = some x → w'.cell? ⟨b, 0, none⟩ = some x := fun {b x} hne hx =>
    (World.cell?_of_block (w := w) (a := ⟨b, 0, none⟩) (hg.block b (World.block_lt_of_cell? w _ hx) (fun e => hne e.symm))).trans hx
  exact ⟨h.below.grown hg h.below.size (fun g e => (h.own.lt g e).1), ho, h.rd.grown hg h.below.size (fun g e => (h.own.lt g e).1), ce h.a1 h.arg, ce h.a2 h.out, ce h.a3 h.self, h.a1, h.a2, h.a3⟩
end
/-- What a search in the closure hands back. -/
def RetP (W0 : World) (ba bw bf : Nat) (A : Option Addr) (ca : Nat) (xs : List Int) (G : Option Addr) (n c p : Nat) (O : List Int) (o : Option (List Int)) (e : Ending) (w' : World) : Prop :=
  e = .returned (.bool o.isSome) ∧ ∃ O', O'.take p = O.take p ∧ (∀ r, o = some r → O' = O.take p ++ r) ∧ WP W0 ba bw bf A ca xs G n c O' w'
set_option maxRecDepth 100000 in
set_option maxHeartbeats 3200000 in
theorem weigh_leaf (W0 : World) (ba bw bf : Nat) (A : Option Addr) (ca : Nat) (xs : List Int) (G : Option Addr) (n c : Nat) (O : List Int) (v : Int) (w : World) (h : WP W0 ba bw bf A ca xs G n c O w) :
    Calls Try.prog 34 #[.int .i64 n, .int .i64 v, .pointer (some ⟨ba, 0, none⟩), .pointer (some ⟨bw, 0, none⟩), .pointer (some ⟨bf, 0, none⟩)] w (RetP W0 ba bw bf A ca xs G n c n O (Wg.firstW [] v)) := by
  have c1 := h.arg
  have hl := h.own.len
  have HH := Lib.hid h
  have hv : (Wg.firstW [] v).isSome = (v == 0) := by
    rw [Wg.firstW_nil]
    by_cases e : v = 0
    · subst e; rfl
    · rw [if_neg e]; exact (beq_eq_false_iff_ne.2 e).symm
  have HV := Lib.hid hv
  clear h hv
  go_enter Try.func34, Try.ntmps34
  go_wp2_with fail
  go_ret
  refine ⟨ret_bool HV.out.symm, O, rfl, fun r hr => ?_, HH.out⟩
  rw [List.take_of_length_le (by omega)]
  have := Wg.firstW_len hr
  rw [List.eq_nil_of_length_eq_zero this, List.append_nil]
theorem wp_at {W0 w : World} {ba bw bf n c ca b1 o1 p : Nat} {G : Option Addr} {O xs : List Int} {x : Int} (h : WP W0 ba bw bf (some ⟨b1, o1, none⟩) ca xs G n c O w) (hp : p < n) (hx : xs.getD p 0 = x) : w.cell? ⟨b1, o1 + p, none⟩ = some (.int .i64 x) := by
  obtain ⟨b2, o2, eb, _, hcc⟩ := h.rd.at_ hp
  injection eb with eb
  injection eb with eb1 eb2
  subst eb1 eb2
  rw [hcc p hp, hx]
theorem take_set_lt {O : List Int} {p : Nat} (s : Int) : (O.set p s).take p = O.take p := by
  rw [List.take_set_of_le (Nat.le_refl p)]
theorem take_one_more {O T : List Int} {p n : Nat} {s : Int} (hp : p < n) (hl : O.length = n) (h : T.take (p + 1) = (O.set p s).take (p + 1)) : T.take p = O.take p ∧ T.take (p + 1) = O.take p ++ [s] := by
  have h1 : T.take p = O.take p := by
    have := congrArg (List.take p) h
    rw [List.take_take, List.take_take, Nat.min_eq_left (by omega), take_set_lt] at this
    exact this
  refine ⟨h1, ?_⟩
  rw [h, List.take_succ_eq_append_getElem (by simp; omega), take_set_lt]
  simp
set_option maxRecDepth 100000 in
set_option maxHeartbeats 3200000 in
theorem weigh_any (W0 : World) (ba bw bf : Nat) (A : Option Addr) (ca : Nat) (xs : List Int) (g n c : Nat) (hx : ∀ x ∈ xs, 1 ≤ x ∧ x ≤ 60) (hn : n ≤ 10) : ∀ (q p : Nat), p + q = n → ∀ (O : List Int) (v : Int) (w : World), WP W0 ba bw bf A ca xs (some ⟨g, 0, none⟩) n c O w → -100000 ≤ v - 60 * q → v + 60 * q ≤ 100000 →
    Calls Try.prog 34 #[.int .i64 p, .int .i64 v, .pointer (some ⟨ba, 0, none⟩), .pointer (some ⟨bw, 0, none⟩), .pointer (some ⟨bf, 0, none⟩)] w (RetP W0 ba bw bf A ca xs (some ⟨g, 0, none⟩) n c p O (Wg.firstW (xs.drop p) v)) := by
  intro q
  induction q with
  | zero =>
    intro p hp O v w h _ _
    have e : p = n := by omega
    subst e
    have hl := h.rd.len
    rw [List.drop_of_length_le (by omega)]
    exact weigh_leaf W0 ba bw bf A ca xs _ _ c O v w h
  | succ q ih =>
    intro p hp O v w h hv1 hv2
    have hpn : p < n := by omega
    have c1 := h.arg
    have hxl := h.rd.len
    obtain ⟨x, hxe⟩ : ∃ x, xs.getD p 0 = x := ⟨_, rfl⟩
    have hxin : 1 ≤ x ∧ x ≤ 60 := by rw [← hxe]; exact hx _ (getD_mem (by omega))
    have hd : xs.drop p = x :: xs.drop (p + 1) := by
      rw [List.drop_eq_getElem_cons (by omega)]
      rw [← hxe]; simp [List.getD, show p < xs.length by omega]
    obtain ⟨hx1, hx2⟩ := hxin
    obtain ⟨b1, o1, rfl, hb1, _⟩ := h.rd.at_ (show 0 < n by omega)
    rw [hd]
    obtain ⟨l, hlq⟩ : ∃ l, xs.drop (p + 1) = l := ⟨_, rfl⟩
    rw [hlq]
    obtain ⟨p1, hp1⟩ : ∃ p1, p + 1 = p1 := ⟨_, rfl⟩
    have hpz : (p : Int) + 1 = (p1 : Int) := by omega
    rw [hp1] at hlq
    have HLQ := Lib.hid hlq
    have HXE := Lib.hid hxe
    have HP1 := Lib.hid hp1
    have pz : ¬ (p : Int) = (n : Int) := by omega
    have dv : ((p : Int) == (n : Int)) = false := by rw [beq_eq_false_iff_ne]; exact pz
    have kw : IntKind.i64.wrap (p1 : Int) = (p1 : Int) := IntWalk.i64_in _ (by omega)
    have z1 : (0 : Int) ≤ (p : Int) := by omega
    have z3 : (p : Int) < (n : Int) := by omega
    have z4 : ((p : Int)).toNat = p := by omega
    have HH := Lib.hid h
    have IH := Lib.hid ih
    have H0 : Hid (∀ t, -1 ≤ t → t < (-1 : Int) → Wg.firstW l (v - t * x) = none) := Lib.hid (fun t h1 h2 => by omega)
    clear h ih hd hlq hxe hp1 hx
    go_enter Try.func34, Try.ntmps34
    go_wp2_with fail
    go_loopw [8] (fun sv wr => ∃ (s : Int) (O1 : List Int), -1 ≤ s ∧ s ≤ 2 ∧ sv = .int .i64 s ∧ Hid (∀ t, -1 ≤ t → t < s → Wg.firstW l (v - t * x) = none) ∧ Hid (O1.take p = O.take p) ∧ Hid (WP W0 ba bw bf (some ⟨b1, o1, none⟩) ca xs (some ⟨g, 0, none⟩) n c O1 wr)) (fun sv _ => (2 - intOf sv).toNat)
    case atStart => exact ⟨-1, O, by omega, by omega, rfl, H0, Lib.hid rfl, HH⟩
    case round =>
      obtain ⟨s, O1, hs1, hs2, rfl, HF, HT, HW⟩ := hrel
      clear H0 HH c1
      by_cases hlt : s ≤ 1
      · have c2 := HW.out.out
        have g1 := HW.out.own.cell (j := p) hpn
        have f1 := HW.out.own.free p
        obtain ⟨y, hy⟩ : ∃ y, O1.getD p 0 = y := ⟨_, rfl⟩
        rw [hy] at g1
        have s1 := HW.out.own.set_ p s
        have s2 := HW.out.row s1.1 s1.2
        have HS := Lib.hid s2
        clear s1 s2 hy
        obtain ⟨r, hr⟩ : ∃ r, s * x = r := ⟨_, rfl⟩
        have hrr : -60 ≤ r ∧ r ≤ 60 := by
          have : s = -1 ∨ s = 0 ∨ s = 1 := by omega
          rcases this with rfl | rfl | rfl <;> omega
        obtain ⟨hr1, hr2⟩ := hrr
        have hmul : IntKind.i64.wrap (s * x) = r := by rw [hr]; exact IntWalk.i64_in _ (by omega)
        have hsub : IntKind.i64.wrap (v - r) = v - r := IntWalk.i64_in _ (by omega)
        have HR := Lib.hid hr
        have HL := Lib.hid HW.out.own.len
        clear hr
        go_wp2_with fail
        generalize wr.setCell ⟨g, p, none⟩ (.int .i64 s) = wm at HS ⊢
        clear c2 g1 f1
        have e1 := HS.out.arg
        have e2 := HS.out.self
        have e3 := wp_at HS.out hpn HXE.out
        have key : ∀ W : World, WP W0 ba bw bf (some ⟨b1, o1, none⟩) ca xs (some ⟨g, 0, none⟩) n c (O1.set p s) W → Calls Try.prog 34 #[.int .i64 p1, .int .i64 (v - r), .pointer (some ⟨ba, 0, none⟩), .pointer (some ⟨bw, 0, none⟩), .pointer (some ⟨bf, 0, none⟩)] W (RetP W0 ba bw bf (some ⟨b1, o1, none⟩) ca xs (some ⟨g, 0, none⟩) n c p1 (O1.set p s) (Wg.firstW l (v - r))) := fun W h => by
          have := IH.out p1 (by have := HP1.out; omega) (O1.set p s) (v - r) W h (by omega) (by omega)
          rw [HLQ.out] at this
          exact this
        cases hF : Wg.firstW l (v - r) with
        | some t =>
          rw [hF] at key
          have K := Lib.hid key
          have HG := Lib.hid (firstW_at (x := x) (v := v) (a := l) hs1 hlt HF.out (by rw [HR.out]; exact hF))
          clear key hF
          go_wp2_with fail
          go_region_held3 (fun w' => w'.cell? ⟨ba, 0, none⟩ = some (.slice (some ⟨b1, o1, none⟩) n ca) ∧ w'.cell? ⟨bf, 0, none⟩ = some (.func (.func 34) #[] #[.pointer (some ⟨ba, 0, none⟩), .pointer (some ⟨bw, 0, none⟩), .pointer (some ⟨bf, 0, none⟩)]) ∧ w'.cell? ⟨b1, o1 + p, none⟩ = some (.int .i64 x)) (first | exact ⟨e1, e2, e3⟩ | exact ⟨hw2.arg, hw2.self, wp_at hw2 hpn HXE.out⟩ | go_keep | fail)
            ((go_at_call 34; have kk := K.out wm.drew (HS.out.drewN 1); (with_reducible refine kk.mono ?_); clear kk; rintro e w2 ⟨rfl, O2, hO2, hO3, hw2⟩))
          have ht := hO3 t rfl
          have HQ := Lib.hid (take_one_more (T := O2) hpn HL.out (by rw [HP1.out]; exact hO2))
          have HV := Lib.hid hw2
          have ht2 : O2 = O.take p ++ s :: t := by
            rw [ht, ← hO2, ← HP1.out, HQ.out.2, HT.out]; simp
          have hT2 : O2.take p = O.take p := HQ.out.1.trans HT.out
          have HT2 := Lib.hid ht2
          have HT3 := Lib.hid hT2
          clear hO2 hO3 hw2 ht ht2 hT2 HQ
          go_wp2_with fail
          go_ret
          rw [HG.out]
          exact ⟨rfl, O2, HT3.out, (fun r hr => by injection hr with hr; subst hr; exact HT2.out), HV.out⟩
        | none =>
          rw [hF] at key
          have K := Lib.hid key
          have HG : Hid (∀ t, -1 ≤ t → t < s + 1 → Wg.firstW l (v - t * x) = none) := Lib.hid (fun t h1 h2 => by
            by_cases e : t = s
            · subst e; rw [HR.out]; exact hF
            · exact HF.out t h1 (by omega))
          clear key hF
          go_wp2_with fail
          go_region_held3 (fun w' => w'.cell? ⟨ba, 0, none⟩ = some (.slice (some ⟨b1, o1, none⟩) n ca) ∧ w'.cell? ⟨bf, 0, none⟩ = some (.func (.func 34) #[] #[.pointer (some ⟨ba, 0, none⟩), .pointer (some ⟨bw, 0, none⟩), .pointer (some ⟨bf, 0, none⟩)]) ∧ w'.cell? ⟨b1, o1 + p, none⟩ = some (.int .i64 x)) (first | exact ⟨e1, e2, e3⟩ | exact ⟨hw2.arg, hw2.self, wp_at hw2 hpn HXE.out⟩ | go_keep | fail)
            ((go_at_call 34; have kk := K.out wm.drew (HS.out.drewN 1); (with_reducible refine kk.mono ?_); clear kk; rintro e w2 ⟨rfl, O2, hO2, hO3, hw2⟩))
          have HQ := Lib.hid (take_one_more (T := O2) hpn HL.out (by rw [HP1.out]; exact hO2))
          have HT3 := Lib.hid (HQ.out.1.trans HT.out)
          have HV := Lib.hid hw2
          clear hO2 hO3 hw2 HQ
          go_wp2_with fail
          go_roundw
          case rel => exact ⟨s + 1, O2, by omega, by omega, by go_num, HG, HT3, HV⟩
          case measure => simp [intOf]; omega
      · have hf := firstW_none (x := x) (v := v) (a := l) (s := s) (by omega) HF.out
        rw [hf]
        go_wp2_with fail
        go_ret
        exact ⟨rfl, O1, HT.out, (fun r hr => by cases hr), HW.out⟩
end Go.Proofs.Ytbpnpceikbedbaa
