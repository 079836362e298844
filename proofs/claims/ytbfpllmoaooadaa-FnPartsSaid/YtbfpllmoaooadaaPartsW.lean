
/- PowerParts, both packages: the walks. -/
import Derived.Test.YtbfpllmoaooadaaPowerSum
import Derived.Test.YtbfpllmoaooadaaPartsP
import Derived.Test.YtbfpllmoaooadaaAppD
import Derived.Test.YtbfpllmoaooadaaSortL
import Derived.Test.YtbfpllmoaooadaaPowMoved
namespace Go.Proofs.Ytbfpllmoaooadaa
set_option linter.unusedVariables false
open Go.RowKit
/-- x[i:]: the address. -/
def dropA (A : Option Addr) (c i : Nat) : Option Addr := if c = i then A else A.map fun a => a.add (i * 1)
theorem run_sliceFrom (w : World) (A : Option Addr) (n c i : Nat) (hi : i ≤ n) :
    (Instr.slice 22 (.slice A n c) (some (.int .i64 i)) none none).run Try.prog w = .ok (.slice (dropA A c i) (n - i) (c - i)) w := by
  obtain ⟨i0, hi0, hz0, hz1, hz2⟩ := info_parts int_info
  have h1 : (0 : Int) ≤ (i : Int) ∧ (i : Int) ≤ (n : Int) := ⟨by omega, by omega⟩
  simp [Instr.slice, Instr.sliceBounds, Instr.sliceBound, asIntOf, run_underlying Try.underlying22, sizeOf, typeInfo, hi0, hz1, h1, hi, dropA]
theorem rd_dropA {w : World} {B n c i : Nat} {A : Option Addr} {xs : List Int} (h : Rd w B A n xs) (hi : i ≤ n) (hc : n ≤ c) : Rd w B (dropA A c i) (n - i) (xs.drop i) := by
  refine ⟨by rw [List.length_drop, h.len], fun hn => ?_⟩
  obtain ⟨b, o, rfl, hb, hcc⟩ := h.at_ (show 0 < n by omega)
  refine ⟨b, o + i, ?_, hb, fun j hj => ?_⟩
  · unfold dropA
    rw [if_neg (by omega)]
    simp [Addr.add_lit]
  · rw [Nat.add_assoc, hcc (i + j) (by omega)]
    simp [List.getD, List.getElem?_drop]
/-- append in a drawn region, the block told. -/
theorem step_appB {ops : Array Oper} {o : Oper} {a : Act} {K : Act → World → Prop} {Q : Exit → Act → World → Prop} {E : Prop} {w : World} (hgd : o.guard = none) (s x : Operand) (t : TypeId)
    (ho : o.op = .call { callee := .builtin .append, args := #[s, x], argTypes := #[t, t] }) (ht : Try.prog.underlying t = some (.slice 3))
    (W0 : World) (hb : Below W0.heap.size W0 w) (A : Option Addr) (n c : Nat) (xs : List Int) (hs : a.eval s = .slice A n c) (hown : Own w W0.heap.size A n c xs)
    (A2 : Option Addr) (m c2 : Nat) (ys : List Int) (hx : a.eval x = .slice A2 m c2) (B : Nat) (hr : Rd w B A2 m ys) (hlen : n + m ≤ 10000000000)
    (h : ∀ A' c' w', Own w' W0.heap.size A' (n + m) c' (xs ++ ys) → w.grownBy w' (blk A) → (blk A' = blk A ∨ blk A' = some w.heap.size) → Below W0.heap.size W0 w' → K (a.put o.dst (.slice A' (n + m) c')) w') :
    if Region.wanted o (yielded ops a.tmps) = true then Oper.wp Try.prog o a w K Q else E := by
  have hw : Region.wanted o (yielded ops a.tmps) = true := by simp [Region.wanted, hgd]
  rw [if_pos hw]
  obtain ⟨A', c', w', hrun, h2, h3, h4⟩ := run_app w t o.type ht W0.heap.size A n c xs hown B A2 m c2 ys hr hlen hb.size
  unfold Oper.wp execOp
  simp only [ho, resolve, invoke, builtin, Sem.run_bind, Sem.run_pure, Result.andThen_ok, List.map_toArray, List.map_cons, List.map_nil, hs, hx, hrun]
  exact h A' c' w' h2 h3 h4 (hb.grown h3 hb.size (fun g e => (hown.lt g e).1))
/-- Apart still, where one has been appended to. -/
theorem ap_push {A A' A2 : Option Addr} {s : Nat} (hap : blk A = none ∨ blk A ≠ blk A') (hlt : ∀ g, blk A' = some g → g < s) (hb : blk A2 = blk A ∨ ∃ g, blk A2 = some g ∧ s ≤ g) : blk A2 = none ∨ blk A2 ≠ blk A' := by
  rcases hb with hb | ⟨g, hb, hg⟩
  · rw [hb]; exact hap
  · right
    rw [hb]
    intro e
    have := hlt g e.symm
    omega
/-- What holds at a round's head. -/
def PT (w : World) (xs ys : List Int) (i j p q : Nat) (A : Option Addr) (c : Nat) (A' : Option Addr) (c' : Nat) (wr : World) : Prop :=
  ∃ F S, Own wr w.heap.size A p c F ∧ Own wr w.heap.size A' q c' S ∧ (blk A = none ∨ blk A ≠ blk A') ∧ Pt.To xs ys i j F S ∧ Below w.heap.size w wr
theorem PT.start (w : World) (xs ys : List Int) {t t' : TypeId} (ht : t = 3) (ht' : t' = 3) : PT w xs ys 0 0 0 0 (some ⟨w.heap.size, 0, none⟩) 0 (some ⟨w.heap.size + 1, 0, none⟩) 0 ((w.alloc (.cells #[] t)).alloc (.cells #[] t')) := by
  subst ht ht'
  exact ⟨[], [], (own_empty w).alloc _, own_emptyN rfl (by simp) (by simp), Or.inr (by simp [blk]), Pt.to_zero _ _, ((Below.refl _ _).alloc (Nat.le_refl _) _).alloc (by simp) _⟩
theorem PT.drn {w wr w' : World} {xs ys : List Int} {i j p q : Nat} {A : Option Addr} {c : Nat} {A' : Option Addr} {c' : Nat} (h : PT w xs ys i j p q A c A' c' wr) (hd : Drn wr w') : PT w xs ys i j p q A c A' c' w' := by
  obtain ⟨k, rfl⟩ := hd
  obtain ⟨F, S, h1, h2, h3, h4, h5⟩ := h
  exact ⟨F, S, h1.drewN k, h2.drewN k, h3, h4, below_drewN h5 k⟩
section
variable {w wr w1 : World} {xs ys F S : List Int} {i j p q c c' c2 : Nat} {A A' A2 : Option Addr}
theorem PT.left (hF : Own wr w.heap.size A p c F) (hS : Own wr w.heap.size A' q c' S) (hap : blk A = none ∨ blk A ≠ blk A') (hT : Pt.To xs ys i j F S) (hB : Below w.heap.size w wr)
    (hi : i < xs.length) (hc : ys.length ≤ j ∨ j < ys.length ∧ xs.getD i 0 < ys.getD j 0) (ho : Own w1 w.heap.size A2 (p + 1) c2 (F ++ [xs.getD i 0])) (hg : wr.grownBy w1 (blk A))
    (hb : blk A2 = blk A ∨ (w.heap.size ≤ wr.heap.size ∧ ∃ g, blk A2 = some g ∧ wr.heap.size ≤ g)) : PT w xs ys (i + 1) j (p + 1) q A2 c2 A' c' w1 :=
  ⟨_, _, ho, hS.grown hg (ap_symm hap), ap_push hap (fun g e => (hS.lt g e).2) (hb.imp id fun h => h.2), hT.left hi hc, hB.grown hg hB.size (fun g e => (hF.lt g e).1)⟩
theorem PT.right (hF : Own wr w.heap.size A p c F) (hS : Own wr w.heap.size A' q c' S) (hap : blk A = none ∨ blk A ≠ blk A') (hT : Pt.To xs ys i j F S) (hB : Below w.heap.size w wr)
    (hj : j < ys.length) (hc : xs.length ≤ i ∨ i < xs.length ∧ ys.getD j 0 < xs.getD i 0) (ho : Own w1 w.heap.size A2 (q + 1) c2 (S ++ [ys.getD j 0])) (hg : wr.grownBy w1 (blk A'))
    (hb : blk A2 = blk A' ∨ (w.heap.size ≤ wr.heap.size ∧ ∃ g, blk A2 = some g ∧ wr.heap.size ≤ g)) : PT w xs ys i (j + 1) p (q + 1) A c A2 c2 w1 :=
  ⟨_, _, hF.grown hg hap, ho, ap_symm (ap_push (ap_symm hap) (fun g e => (hF.lt g e).2) (hb.imp id fun h => h.2)), hT.right hj hc, hB.grown hg hB.size (fun g e => (hS.lt g e).1)⟩
theorem PT.both (hF : Own wr w.heap.size A p c F) (hS : Own wr w.heap.size A' q c' S) (hap : blk A = none ∨ blk A ≠ blk A') (hT : Pt.To xs ys i j F S) (hB : Below w.heap.size w wr)
    (hi : i < xs.length) (hj : j < ys.length) (hc : xs.getD i 0 = ys.getD j 0) : PT w xs ys (i + 1) (j + 1) p q A c A' c' wr :=
  ⟨_, _, hF, hS, hap, hT.both hi hj hc, hB⟩
end
set_option maxRecDepth 100000 in
set_option maxHeartbeats 3200000 in
theorem implParts_yes (A0 : Option Addr) (n c0 : Nat) (xs : List Int) (B0 : Option Addr) (m d0 : Nat) (ys : List Int) (w : World) (ha : Rd w w.heap.size A0 n xs) (hb : Rd w w.heap.size B0 m ys) (hc : n ≤ c0) (hd : m ≤ d0) (h : pIn xs = true) (h' : pIn ys = true) :
    Calls Try.prog 39 #[.slice A0 n c0, .slice B0 m d0] w (RetOwn2B w (Pt.parts xs ys).1 (Pt.parts xs ys).2 true) := by
  have hn : n ≤ 8 := by have := ha.len; have := (pIn_true.1 h).1; omega
  have hm : m ≤ 8 := by have := hb.len; have := (pIn_true.1 h').1; omega
  have HP := Lib.hid h
  have HP' := Lib.hid h'
  have HA := Lib.hid ha
  have HB := Lib.hid hb
  have LX := Lib.hid ha.len
  have LY := Lib.hid hb.len
  clear ha hb h h'
  go_enter Try.func39, Try.ntmps39
  go_wp2_with fail
  refine (implPowerIn_any _ _ _ _ _ HA.out (by omega) _ HP.out).mono ?_
  rintro e w1 ⟨rfl, hq⟩
  have HQ1 : Hid (Drn w w1) := Lib.hid hq
  have HA1 := Lib.hid (HQ1.out.rd HA.out).lt
  have HB1 := Lib.hid (HQ1.out.rd HB.out).lt
  have BW1 := Lib.hid HQ1.out.below
  clear hq
  go_wp2_with fail
  refine (implPowerIn_any _ _ _ _ _ HB1.out (by omega) _ HP'.out).mono ?_
  rintro e w2 ⟨rfl, hq⟩
  have HQ2 : Hid (Drn w1 w2) := Lib.hid hq
  have HA2 := Lib.hid (HQ2.out.rd HA1.out).lt
  have HB2 := Lib.hid (HQ2.out.rd HB1.out).lt
  have BW2 := Lib.hid (BW1.out.trans (HQ2.out.below.mono BW1.out.size))
  clear hq HA1 HB1 HQ1
  have PS := Lib.hid (PT.start w2 xs ys (t := 3) (t' := 3) rfl rfl)
  go_wp2_with fail
  go_loopw [7, 8, 9, 10] (fun f s iv jv wr => ∃ (i j p q : Nat) (A : Option Addr) (c : Nat) (A' : Option Addr) (c' : Nat), i ≤ n ∧ j ≤ m ∧ p ≤ i ∧ q ≤ j ∧ iv = .int .i64 i ∧ jv = .int .i64 j ∧ f = .slice A p c ∧ s = .slice A' q c' ∧ Hid (PT w2 xs ys i j p q A c A' c' wr)) (fun _ _ iv jv _ => (n + m) - ((intOf iv).toNat + (intOf jv).toNat))
  case atStart => exact ⟨0, 0, 0, 0, _, _, _, _, by omega, by omega, by omega, by omega, rfl, rfl, rfl, rfl, PS⟩
  case round =>
    obtain ⟨i, j, p, q, A, c, A', c', hin, hjm, hpi, hqj, rfl, rfl, rfl, rfl, HPT⟩ := hrel
    clear PS
    obtain ⟨F, S, hF, hS, hap, hT, hW⟩ := HPT.out
    have HF := Lib.hid hF
    have HS := Lib.hid hS
    have AP := Lib.hid hap
    have HT := Lib.hid hT
    have HW := Lib.hid hW
    clear hF hS hap hT hW HPT
    by_cases hi : i < n
    · obtain ⟨b1, o1, eA, hb1, hc1⟩ := (HA2.out.below HW.out).at_ hi
      have g1 := hc1 i hi
      by_cases hj : j < m
      · obtain ⟨b2, o2, eB, hb2, hc2⟩ := (HB2.out.below HW.out).at_ hj
        have g2 := hc2 j hj
        obtain ⟨x, hx⟩ : ∃ x, xs.getD i 0 = x := ⟨_, rfl⟩
        obtain ⟨y, hy⟩ : ∃ y, ys.getD j 0 = y := ⟨_, rfl⟩
        rw [hx] at g1
        rw [hy] at g2
        have HX := Lib.hid hx
        have HY := Lib.hid hy
        subst eA eB
        have i0 : (0 : Int) ≤ (i : Int) := by omega
        have i1 : (i : Int) < (n : Int) := by omega
        have i2 : ((i : Int)).toNat = i := by omega
        have j0 : (0 : Int) ≤ (j : Int) := by omega
        have j1 : (j : Int) < (m : Int) := by omega
        have j2 : ((j : Int)).toNat = j := by omega
        have hix : i < xs.length := by rw [LX.out]; exact hi
        have hjy : j < ys.length := by rw [LY.out]; exact hj
        have HIX := Lib.hid hix
        have HJY := Lib.hid hjy
        clear hx hy hc1 hc2 hix hjy
        by_cases hxy : x < y
        · have dxy : decide (x < y) = true := decide_eq_true hxy
          go_wp2_with fail
          go_quiet (fail)
          go_wp2_with (at_builtin; refine wpList_pushN rfl _ _ _ rfl Try.underlying22 rfl (HF.out.drewN nq) rfl (by simp) (by omega) (below_drewN HW.out nq).size ?_; intro A2 c2 w3 ho hg hbk)
          have N := Lib.hid (PT.left (HF.out.drewN nq) (HS.out.drewN nq) AP.out HT.out (below_drewN HW.out nq) HIX.out (Or.inr ⟨HJY.out, by rw [HX.out, HY.out]; exact hxy⟩) (by rw [HX.out]; exact ho) hg hbk)
          clear ho hg hbk
          go_wp2_with fail
          go_roundw
          case rel => exact ⟨i + 1, j, p + 1, q, A2, c2, A', c', by omega, by omega, by omega, by omega, by go_num, rfl, rfl, rfl, N⟩
          case measure => simp [intOf]; omega
        · have dxy : decide (x < y) = false := decide_eq_false hxy
          go_wp2_with fail
          go_quiet (fail)
          go_wp2_with fail
          have HF1 := Lib.hid (HF.out.drewN nq)
          have HS1 := Lib.hid (HS.out.drewN nq)
          have HW1 := Lib.hid (below_drewN HW.out nq)
          have g1' : (wr.drewN nq).cell? ⟨b1, o1 + i, none⟩ = some (.int .i64 x) := g1
          have g2' : (wr.drewN nq).cell? ⟨b2, o2 + j, none⟩ = some (.int .i64 y) := g2
          clear HF HS HW g1 g2
          generalize wr.drewN nq = wv at HF1 HS1 HW1 g1' g2' ⊢
          by_cases hyx : y < x
          · have dyx : decide (y < x) = true := decide_eq_true hyx
            go_wp2_with fail
            go_quiet (fail)
            go_wp2_with (at_builtin; refine wpList_pushN rfl _ _ _ rfl Try.underlying22 rfl (HS1.out.drewN nq) rfl (by simp) (by omega) (below_drewN HW1.out nq).size ?_; intro A2 c2 w3 ho hg hbk)
            have N := Lib.hid (PT.right (HF1.out.drewN nq) (HS1.out.drewN nq) AP.out HT.out (below_drewN HW1.out nq) HJY.out (Or.inr ⟨HIX.out, by rw [HX.out, HY.out]; exact hyx⟩) (by rw [HY.out]; exact ho) hg hbk)
            clear ho hg hbk
            go_wp2_with fail
            go_roundw
            case rel => exact ⟨i, j + 1, p, q + 1, A, c, A2, c2, by omega, by omega, by omega, by omega, rfl, by go_num, rfl, rfl, N⟩
            case measure => simp [intOf]; omega
          · have dyx : decide (y < x) = false := decide_eq_false hyx
            go_wp2_with fail
            go_quiet (fail)
            go_wp2_with fail
            have N := Lib.hid (PT.both (HF1.out.drewN nq) (HS1.out.drewN nq) AP.out HT.out (below_drewN HW1.out nq) HIX.out HJY.out (by rw [HX.out, HY.out]; omega))
            go_roundw
            case rel => exact ⟨i + 1, j + 1, p, q, A, c, A', c', by omega, by omega, by omega, by omega, by go_num, by go_num, rfl, rfl, N⟩
            case measure => simp [intOf]; omega
      · have hdn := HT.out.done (Or.inr (by rw [LY.out]; omega))
        have HE1 := Lib.hid (congrArg Prod.fst hdn)
        have HE2 := Lib.hid (congrArg Prod.snd hdn)
        have hs1 := fun W => run_sliceFrom W A0 n c0 i hin
        have hs2 := fun W => run_sliceFrom W B0 m d0 j hjm
        have r1 := rd_dropA (c := c0) HA2.out hin hc
        have r2 := rd_dropA (c := d0) HB2.out hjm hd
        generalize dropA A0 c0 i = D1 at hs1 r1
        generalize dropA B0 d0 j = D2 at hs2 r2
        have R1 := Lib.hid r1
        have R2 := Lib.hid r2
        have HFd : Hid (Own wr.drew w2.heap.size A p c F) := Lib.hid (HF.out.drewN 1)
        have HSd : Hid (Own wr.drew w2.heap.size A' q c' S) := Lib.hid (HS.out.drewN 1)
        have HWd : Hid (Below w2.heap.size w2 wr.drew) := Lib.hid (below_drewN HW.out 1)
        clear hdn r1 r2 HF HS HW
        clear hc1 g1 eA
        have t1 : decide ((i : Int) < (n : Int)) = true := decide_eq_true (by omega)
        have t2 : decide ((j : Int) < (m : Int)) = false := decide_eq_false (by omega)
        go_wp2_with fail
        go_region_held3 (fun w' => True) (trivial)
          (first
            | (refine step_appB (by rfl) _ _ _ (by rfl) Try.underlying22 w2 HWd.out _ _ _ _ (by exact rfl) HFd.out _ _ _ _ (by exact rfl) _ (R1.out.below HWd.out) (by omega) ?_
               intro A1 cA wA hA hgA hkA hbA)
            | (refine step_appB (by rfl) _ _ _ (by rfl) Try.underlying22 w2 HWd.out _ _ _ _ (by exact rfl) HSd.out _ _ _ _ (by exact rfl) _ (R2.out.below HWd.out) (by omega) ?_
               intro A3 cB wB hB hgB hkB hbB)
            | (refine step_appB (by rfl) _ _ _ (by rfl) Try.underlying22 w2 hbA _ _ _ _ (by exact rfl) (HSd.out.grown hgA (ap_symm AP.out)) _ _ _ _ (by exact rfl) _ (R2.out.below hbA) (by omega) ?_
               intro A4 cC wC hC hgC hkC hbC
               have O1 := Lib.hid (hA.grown hgC (ap_push AP.out (fun g e => (HSd.out.lt g e).2) (hkA.imp id fun e => ⟨_, e, Nat.le_refl _⟩)))
               have O2 := Lib.hid hC
               have OP := Lib.hid (ap_symm (ap_push (ap_symm (ap_push AP.out (fun g e => (HSd.out.lt g e).2) (hkA.imp id fun e => ⟨_, e, Nat.le_refl _⟩))) (fun g e => (hA.lt g e).2) (hkC.imp id fun e => ⟨_, e, Nat.le_refl _⟩)))
               have OB := Lib.hid hbC
               clear hA hgA hkA hbA hC hgC hkC hbC)
            | (refine step_appB (by rfl) _ _ _ (by rfl) Try.underlying22 w2 hbB _ _ _ _ (by exact rfl) (HFd.out.grown hgB AP.out) _ _ _ _ (by exact rfl) _ (R1.out.below hbB) (by omega) ?_
               intro A4 cC wC hC hgC hkC hbC
               have O1 := Lib.hid hC
               have O2 := Lib.hid (hB.grown hgC (ap_push (ap_symm AP.out) (fun g e => (HFd.out.lt g e).2) (hkB.imp id fun e => ⟨_, e, Nat.le_refl _⟩)))
               have OP := Lib.hid (ap_push (ap_symm (ap_push (ap_symm AP.out) (fun g e => (HFd.out.lt g e).2) (hkB.imp id fun e => ⟨_, e, Nat.le_refl _⟩))) (fun g e => (hB.lt g e).2) (hkC.imp id fun e => ⟨_, e, Nat.le_refl _⟩))
               have OB := Lib.hid hbC
               clear hB hgB hkB hbB hC hgC hkC hbC)
            | fail)
        all_goals
          clear HFd HSd HWd hs1 hs2
          go_wp2_with fail
          go_ret3
          exact ⟨_, _, _, _, _, _, rfl, by rw [HE1.out]; exact O1.out.mono BW2.out.size, by rw [HE2.out]; exact O2.out.mono BW2.out.size, OP.out, BW2.out.trans (OB.out.mono BW2.out.size)⟩
    · have hdn := HT.out.done (Or.inl (by rw [LX.out]; omega))
      have HE1 := Lib.hid (congrArg Prod.fst hdn)
      have HE2 := Lib.hid (congrArg Prod.snd hdn)
      have hs1 := fun W => run_sliceFrom W A0 n c0 i hin
      have hs2 := fun W => run_sliceFrom W B0 m d0 j hjm
      have r1 := rd_dropA (c := c0) HA2.out hin hc
      have r2 := rd_dropA (c := d0) HB2.out hjm hd
      generalize dropA A0 c0 i = D1 at hs1 r1
      generalize dropA B0 d0 j = D2 at hs2 r2
      have R1 := Lib.hid r1
      have R2 := Lib.hid r2
      have HFd : Hid (Own wr.drew w2.heap.size A p c F) := Lib.hid (HF.out.drewN 1)
      have HSd : Hid (Own wr.drew w2.heap.size A' q c' S) := Lib.hid (HS.out.drewN 1)
      have HWd : Hid (Below w2.heap.size w2 wr.drew) := Lib.hid (below_drewN HW.out 1)
      clear hdn r1 r2 HF HS HW
      have t1 : decide ((i : Int) < (n : Int)) = false := decide_eq_false (by omega)
      go_wp2_with fail
      go_region_held3 (fun w' => True) (trivial)
        (first
          | (refine step_appB (by rfl) _ _ _ (by rfl) Try.underlying22 w2 HWd.out _ _ _ _ (by exact rfl) HFd.out _ _ _ _ (by exact rfl) _ (R1.out.below HWd.out) (by omega) ?_
             intro A1 cA wA hA hgA hkA hbA)
          | (refine step_appB (by rfl) _ _ _ (by rfl) Try.underlying22 w2 HWd.out _ _ _ _ (by exact rfl) HSd.out _ _ _ _ (by exact rfl) _ (R2.out.below HWd.out) (by omega) ?_
             intro A3 cB wB hB hgB hkB hbB)
          | (refine step_appB (by rfl) _ _ _ (by rfl) Try.underlying22 w2 hbA _ _ _ _ (by exact rfl) (HSd.out.grown hgA (ap_symm AP.out)) _ _ _ _ (by exact rfl) _ (R2.out.below hbA) (by omega) ?_
             intro A4 cC wC hC hgC hkC hbC
             have O1 := Lib.hid (hA.grown hgC (ap_push AP.out (fun g e => (HSd.out.lt g e).2) (hkA.imp id fun e => ⟨_, e, Nat.le_refl _⟩)))
             have O2 := Lib.hid hC
             have OP := Lib.hid (ap_symm (ap_push (ap_symm (ap_push AP.out (fun g e => (HSd.out.lt g e).2) (hkA.imp id fun e => ⟨_, e, Nat.le_refl _⟩))) (fun g e => (hA.lt g e).2) (hkC.imp id fun e => ⟨_, e, Nat.le_refl _⟩)))
             have OB := Lib.hid hbC
             clear hA hgA hkA hbA hC hgC hkC hbC)
          | (refine step_appB (by rfl) _ _ _ (by rfl) Try.underlying22 w2 hbB _ _ _ _ (by exact rfl) (HFd.out.grown hgB AP.out) _ _ _ _ (by exact rfl) _ (R1.out.below hbB) (by omega) ?_
             intro A4 cC wC hC hgC hkC hbC
             have O1 := Lib.hid hC
             have O2 := Lib.hid (hB.grown hgC (ap_push (ap_symm AP.out) (fun g e => (HFd.out.lt g e).2) (hkB.imp id fun e => ⟨_, e, Nat.le_refl _⟩)))
             have OP := Lib.hid (ap_push (ap_symm (ap_push (ap_symm AP.out) (fun g e => (HFd.out.lt g e).2) (hkB.imp id fun e => ⟨_, e, Nat.le_refl _⟩))) (fun g e => (hB.lt g e).2) (hkC.imp id fun e => ⟨_, e, Nat.le_refl _⟩))
             have OB := Lib.hid hbC
             clear hB hgB hkB hbB hC hgC hkC hbC)
          | fail)
      all_goals
        clear HFd HSd HWd hs1 hs2
        go_wp2_with fail
        go_ret3
        exact ⟨_, _, _, _, _, _, rfl, by rw [HE1.out]; exact O1.out.mono BW2.out.size, by rw [HE2.out]; exact O2.out.mono BW2.out.size, OP.out, BW2.out.trans (OB.out.mono BW2.out.size)⟩
set_option maxRecDepth 100000 in
set_option maxHeartbeats 3200000 in
theorem specParts_yes (A0 : Option Addr) (n c0 : Nat) (xs : List Int) (B0 : Option Addr) (m d0 : Nat) (ys : List Int) (w : World) (ha : Rd w w.heap.size A0 n xs) (hb : Rd w w.heap.size B0 m ys) (h : pIn xs = true) (h' : pIn ys = true) :
    Calls Try.prog 38 #[.slice A0 n c0, .slice B0 m d0] w (RetOwn2B w (Pt.parts xs ys).1 (Pt.parts xs ys).2 true) := by
  have hn : n ≤ 8 := by have := ha.len; have := (pIn_true.1 h).1; omega
  have hm : m ≤ 8 := by have := hb.len; have := (pIn_true.1 h').1; omega
  have HP := Lib.hid h
  have HP' := Lib.hid h'
  have LX := Lib.hid ha.len
  have LY := Lib.hid hb.len
  have BA := Lib.hid (((Below.refl w.heap.size w).alloc (Nat.le_refl _) (.cells #[] 3)).alloc (by simp) (.cells #[] 3))
  have HA := Lib.hid (ha.below BA.out)
  have HB := Lib.hid (hb.below BA.out)
  have PS := Lib.hid (PT.start w xs ys (t := 3) (t' := 3) rfl rfl)
  have HRA := Lib.hid ha
  have HRB := Lib.hid hb
  clear ha hb h h'
  go_enter Try.func38, Try.ntmps38
  go_wp2_with fail
  refine (specPowerIn_any _ _ _ _ _ HA.out.lt (by omega) _ HP.out).mono ?_
  rintro e w1 ⟨rfl, hq⟩
  have HQ1 := Lib.hid (show Drn _ w1 from hq)
  have HA1 := Lib.hid (HQ1.out.rd HA.out)
  have HB1 := Lib.hid (HQ1.out.rd HB.out)
  have P1 := Lib.hid (PS.out.drn HQ1.out)
  clear hq HA HB PS HQ1
  go_wp2_with fail
  refine (specPowerIn_any _ _ _ _ _ HB1.out.lt (by omega) _ HP'.out).mono ?_
  rintro e w2 ⟨rfl, hq⟩
  have HQ2 := Lib.hid (show Drn _ w2 from hq)
  have HA2 := Lib.hid (HQ2.out.rd HA1.out)
  have HB2 := Lib.hid (HQ2.out.rd HB1.out)
  have P2 := Lib.hid (P1.out.drn HQ2.out)
  clear hq HA1 HB1 P1 HQ2
  go_wp2_with fail
  go_loopw [7, 8, 9, 10] (fun f s iv jv wr => ∃ (i j p q : Nat) (A : Option Addr) (c : Nat) (A' : Option Addr) (c' : Nat), i ≤ n ∧ j ≤ m ∧ p ≤ i ∧ q ≤ j ∧ iv = .int .i64 i ∧ jv = .int .i64 j ∧ f = .slice A p c ∧ s = .slice A' q c' ∧ Hid (PT w xs ys i j p q A c A' c' wr)) (fun _ _ iv jv _ => (n + m) - ((intOf iv).toNat + (intOf jv).toNat))
  case atStart => exact ⟨0, 0, 0, 0, _, _, _, _, by omega, by omega, by omega, by omega, rfl, rfl, rfl, rfl, P2⟩
  case round =>
    obtain ⟨i, j, p, q, A, c, A', c', hin, hjm, hpi, hqj, rfl, rfl, rfl, rfl, HPT⟩ := hrel
    clear P2
    obtain ⟨F, S, hF, hS, hap, hT, hW⟩ := HPT.out
    have HF := Lib.hid hF
    have HS := Lib.hid hS
    have AP := Lib.hid hap
    have HT := Lib.hid hT
    have HW := Lib.hid hW
    have RA := Lib.hid (HRA.out.below HW.out)
    have RB := Lib.hid (HRB.out.below HW.out)
    clear hF hS hap hT hW HPT
    by_cases hi : i < n
    · obtain ⟨b1, o1, eA, hb1, hc1⟩ := RA.out.at_ hi
      have g1 := hc1 i hi
      obtain ⟨x, hx⟩ : ∃ x, xs.getD i 0 = x := ⟨_, rfl⟩
      rw [hx] at g1
      have HX := Lib.hid hx
      subst eA
      have i0 : (0 : Int) ≤ (i : Int) := by omega
      have i1 : (i : Int) < (n : Int) := by omega
      have i2 : ((i : Int)).toNat = i := by omega
      have HIX := Lib.hid (show i < xs.length by rw [LX.out]; exact hi)
      have ti : decide ((i : Int) < (n : Int)) = true := decide_eq_true (by omega)
      have ei : ((i : Int) == (n : Int)) = false := by simp; omega
      clear hx hc1
      by_cases hj : j < m
      · obtain ⟨b2, o2, eB, hb2, hc2⟩ := RB.out.at_ hj
        have g2 := hc2 j hj
        obtain ⟨y, hy⟩ : ∃ y, ys.getD j 0 = y := ⟨_, rfl⟩
        rw [hy] at g2
        have HY := Lib.hid hy
        subst eB
        have j0 : (0 : Int) ≤ (j : Int) := by omega
        have j1 : (j : Int) < (m : Int) := by omega
        have j2 : ((j : Int)).toNat = j := by omega
        have HJY := Lib.hid (show j < ys.length by rw [LY.out]; exact hj)
        have tj : decide ((j : Int) < (m : Int)) = true := decide_eq_true (by omega)
        have ej : ((j : Int) == (m : Int)) = false := by simp; omega
        clear hy hc2
        by_cases hxy : x < y
        · have dxy : decide (x < y) = true := decide_eq_true hxy
          go_wp2_with fail
          go_quiet (fail)
          go_wp2_with (at_builtin; refine wpList_pushN rfl _ _ _ rfl Try.underlying22 rfl (HF.out.drewN nq) rfl (by simp) (by omega) (below_drewN HW.out nq).size ?_; intro A2 c2 w3 ho hg hbk)
          have N := Lib.hid (PT.left (HF.out.drewN nq) (HS.out.drewN nq) AP.out HT.out (below_drewN HW.out nq) HIX.out (Or.inr ⟨HJY.out, by rw [HX.out, HY.out]; exact hxy⟩) (by rw [HX.out]; exact ho) hg hbk)
          clear ho hg hbk
          go_wp2_with fail
          go_roundw
          case rel => exact ⟨i + 1, j, p + 1, q, A2, c2, A', c', by omega, by omega, by omega, by omega, by go_num, rfl, rfl, rfl, N⟩
          case measure => simp [intOf]; omega
        · have dxy : decide (x < y) = false := decide_eq_false hxy
          go_wp2_with fail
          go_quiet (fail)
          go_wp2_with fail
          have HF1 := Lib.hid (HF.out.drewN nq)
          have HS1 := Lib.hid (HS.out.drewN nq)
          have HW1 := Lib.hid (below_drewN HW.out nq)
          have g1' : (wr.drewN nq).cell? ⟨b1, o1 + i, none⟩ = some (.int .i64 x) := g1
          have g2' : (wr.drewN nq).cell? ⟨b2, o2 + j, none⟩ = some (.int .i64 y) := g2
          clear HF HS HW g1 g2 RA RB
          generalize wr.drewN nq = wv at HF1 HS1 HW1 g1' g2' ⊢
          by_cases hyx : y < x
          · have dyx : decide (y < x) = true := decide_eq_true hyx
            go_wp2_with fail
            go_quiet (fail)
            go_wp2_with (at_builtin; refine wpList_pushN rfl _ _ _ rfl Try.underlying22 rfl (HS1.out.drewN nq) rfl (by simp) (by omega) (below_drewN HW1.out nq).size ?_; intro A2 c2 w3 ho hg hbk)
            have N := Lib.hid (PT.right (HF1.out.drewN nq) (HS1.out.drewN nq) AP.out HT.out (below_drewN HW1.out nq) HJY.out (Or.inr ⟨HIX.out, by rw [HX.out, HY.out]; exact hyx⟩) (by rw [HY.out]; exact ho) hg hbk)
            clear ho hg hbk
            go_wp2_with fail
            go_roundw
            case rel => exact ⟨i, j + 1, p, q + 1, A, c, A2, c2, by omega, by omega, by omega, by omega, rfl, by go_num, rfl, rfl, N⟩
            case measure => simp [intOf]; omega
          · have dyx : decide (y < x) = false := decide_eq_false hyx
            go_wp2_with fail
            go_quiet (fail)
            go_wp2_with fail
            have N := Lib.hid (PT.both (HF1.out.drewN nq) (HS1.out.drewN nq) AP.out HT.out (below_drewN HW1.out nq) HIX.out HJY.out (by rw [HX.out, HY.out]; omega))
            go_roundw
            case rel => exact ⟨i + 1, j + 1, p, q, A, c, A', c', by omega, by omega, by omega, by omega, by go_num, by go_num, rfl, rfl, N⟩
            case measure => simp [intOf]; omega
      · have tj : decide ((j : Int) < (m : Int)) = false := decide_eq_false (by omega)
        have ej : ((j : Int) == (m : Int)) = true := by simp; omega
        go_wp2_with fail
        go_quiet (fail)
        go_wp2_with (at_builtin; refine wpList_pushN rfl _ _ _ rfl Try.underlying22 rfl (HF.out.drewN nq) rfl (by simp) (by omega) (below_drewN HW.out nq).size ?_; intro A2 c2 w3 ho hg hbk)
        have N := Lib.hid (PT.left (HF.out.drewN nq) (HS.out.drewN nq) AP.out HT.out (below_drewN HW.out nq) HIX.out (Or.inl (by rw [LY.out]; omega)) (by rw [HX.out]; exact ho) hg hbk)
        clear ho hg hbk
        go_wp2_with fail
        go_roundw
        case rel => exact ⟨i + 1, j, p + 1, q, A2, c2, A', c', by omega, by omega, by omega, by omega, by go_num, rfl, rfl, rfl, N⟩
        case measure => simp [intOf]; omega
    · have ti : decide ((i : Int) < (n : Int)) = false := decide_eq_false (by omega)
      have ei : ((i : Int) == (n : Int)) = true := by simp; omega
      by_cases hj : j < m
      · obtain ⟨b2, o2, eB, hb2, hc2⟩ := RB.out.at_ hj
        have g2 := hc2 j hj
        obtain ⟨y, hy⟩ : ∃ y, ys.getD j 0 = y := ⟨_, rfl⟩
        rw [hy] at g2
        have HY := Lib.hid hy
        subst eB
        have j0 : (0 : Int) ≤ (j : Int) := by omega
        have j1 : (j : Int) < (m : Int) := by omega
        have j2 : ((j : Int)).toNat = j := by omega
        have HJY := Lib.hid (show j < ys.length by rw [LY.out]; exact hj)
        have tj : decide ((j : Int) < (m : Int)) = true := decide_eq_true (by omega)
        have ej : ((j : Int) == (m : Int)) = false := by simp; omega
        clear hy hc2
        go_wp2_with fail
        go_quiet (fail)
        go_wp2_with fail
        have HF1 := Lib.hid (HF.out.drewN nq)
        have HS1 := Lib.hid (HS.out.drewN nq)
        have HW1 := Lib.hid (below_drewN HW.out nq)
        have g2' : (wr.drewN nq).cell? ⟨b2, o2 + j, none⟩ = some (.int .i64 y) := g2
        clear HF HS HW g2 RA RB
        generalize wr.drewN nq = wv at HF1 HS1 HW1 g2' ⊢
        go_wp2_with fail
        go_quiet (fail)
        go_wp2_with (at_builtin; refine wpList_pushN rfl _ _ _ rfl Try.underlying22 rfl (HS1.out.drewN nq) rfl (by simp) (by omega) (below_drewN HW1.out nq).size ?_; intro A2 c2 w3 ho hg hbk)
        have N := Lib.hid (PT.right (HF1.out.drewN nq) (HS1.out.drewN nq) AP.out HT.out (below_drewN HW1.out nq) HJY.out (Or.inl (by rw [LX.out]; omega)) (by rw [HY.out]; exact ho) hg hbk)
        clear ho hg hbk
        go_wp2_with fail
        go_roundw
        case rel => exact ⟨i, j + 1, p, q + 1, A, c, A2, c2, by omega, by omega, by omega, by omega, rfl, by go_num, rfl, rfl, N⟩
        case measure => simp [intOf]; omega
      · have tj : decide ((j : Int) < (m : Int)) = false := decide_eq_false (by omega)
        have hdn := HT.out.done (Or.inl (by rw [LX.out]; omega))
        rw [List.drop_of_length_le (by rw [LX.out]; omega), List.drop_of_length_le (by rw [LY.out]; omega), List.append_nil, List.append_nil] at hdn
        have HE1 := Lib.hid (congrArg Prod.fst hdn)
        have HE2 := Lib.hid (congrArg Prod.snd hdn)
        clear hdn
        go_wp2_with fail
        go_ret3
        exact ⟨_, _, _, _, _, _, rfl, by rw [HE1.out]; exact HF.out, by rw [HE2.out]; exact HS.out, AP.out, HW.out⟩
set_option maxHeartbeats 1600000 in
theorem specParts_no (A0 : Option Addr) (n c0 : Nat) (xs : List Int) (B0 : Option Addr) (m d0 : Nat) (ys : List Int) (w : World) (ha : Rd w w.heap.size A0 n xs) (hb : Rd w w.heap.size B0 m ys) (hn : n ≤ 1000000000) (hm : m ≤ 1000000000) (h : pIn xs = false ∨ pIn ys = false) :
    Calls Try.prog 38 #[.slice A0 n c0, .slice B0 m d0] w (RetOwn2B w [] [] false) := by
  have HRA := Lib.hid ha
  have HRB := Lib.hid hb
  clear ha hb
  have BA := Lib.hid (((Below.refl w.heap.size w).alloc (Nat.le_refl _) (.cells #[] 3)).alloc (by simp) (.cells #[] 3))
  have HA := Lib.hid (HRA.out.below BA.out)
  have HB := Lib.hid (HRB.out.below BA.out)
  have PS := Lib.hid (PT.start w [] [] (t := 3) (t' := 3) rfl rfl)
  have fin : ∀ (wr : World) (A : Option Addr) (c : Nat) (A' : Option Addr) (c' : Nat), PT w [] [] 0 0 0 0 A c A' c' wr → RetOwn2B w [] [] false (.returned (.tuple #[.slice A 0 c, .slice A' 0 c', .bool false])) wr := fun wr A c A' c' hp => by
    obtain ⟨F, S, h1, h2, h3, _, h5⟩ := hp
    have e1 : F = [] := List.eq_nil_of_length_eq_zero h1.len
    have e2 : S = [] := List.eq_nil_of_length_eq_zero h2.len
    subst e1 e2
    exact ⟨_, _, _, _, _, _, rfl, h1, h2, h3, h5⟩
  have FIN := Lib.hid fin
  clear fin
  by_cases hp : pIn xs = true
  · have HP := Lib.hid hp
    have HP' := Lib.hid (h.resolve_left (by rw [hp]; simp))
    clear hp h
    go_enter Try.func38, Try.ntmps38
    go_wp2_with fail
    refine (specPowerIn_any _ _ _ _ _ HA.out.lt hn _ HP.out).mono ?_
    rintro e w1 ⟨rfl, hq⟩
    have HQ1 := Lib.hid (show Drn _ w1 from hq)
    have HB1 := Lib.hid (HQ1.out.rd HB.out)
    have P1 := Lib.hid (PS.out.drn HQ1.out)
    clear hq HA HB PS HQ1
    go_wp2_with fail
    refine (specPowerIn_any _ _ _ _ _ HB1.out.lt hm _ HP'.out).mono ?_
    rintro e w2 ⟨rfl, hq⟩
    have P2 := Lib.hid (P1.out.drn (show Drn _ w2 from hq))
    clear hq P1 HB1
    go_wp2_with fail
    go_ret3
    exact FIN.out _ _ _ _ _ P2.out
  · have HP := Lib.hid (not_true hp)
    clear hp h
    go_enter Try.func38, Try.ntmps38
    go_wp2_with fail
    refine (specPowerIn_any _ _ _ _ _ HA.out.lt hn _ HP.out).mono ?_
    rintro e w1 ⟨rfl, hq⟩
    have P1 := Lib.hid (PS.out.drn (show Drn _ w1 from hq))
    clear hq PS HA HB
    go_wp2_with fail
    go_ret3
    exact FIN.out _ _ _ _ _ P1.out
set_option maxHeartbeats 1600000 in
theorem implParts_no (A0 : Option Addr) (n c0 : Nat) (xs : List Int) (B0 : Option Addr) (m d0 : Nat) (ys : List Int) (w : World) (ha : Rd w w.heap.size A0 n xs) (hb : Rd w w.heap.size B0 m ys) (hn : n ≤ 1000000000) (hm : m ≤ 1000000000) (h : pIn xs = false ∨ pIn ys = false) :
    Calls Try.prog 39 #[.slice A0 n c0, .slice B0 m d0] w (RetOwn2B w [] [] false) := by
  have HRA := Lib.hid ha
  have HRB := Lib.hid hb
  clear ha hb
  have fin : ∀ w2 : World, Below w.heap.size w w2 → RetOwn2B w [] [] false (.returned (.tuple #[.slice (some ⟨w2.heap.size, 0, none⟩) 0 0, .slice (some ⟨w2.heap.size + 1, 0, none⟩) 0 0, .bool false])) ((w2.alloc (.cells #[] 3)).alloc (.cells #[] 3)) := fun w2 hb =>
    ⟨_, _, _, _, _, _, rfl, ((own_empty w2).alloc _).mono hb.size, (own_emptyN rfl (by simp) (by simp)).mono hb.size, Or.inr (by simp [blk]), (hb.alloc hb.size _).alloc (by have := hb.size; simp; omega) _⟩
  have FIN := Lib.hid fin
  clear fin
  by_cases hp : pIn xs = true
  · have HP := Lib.hid hp
    have HP' := Lib.hid (h.resolve_left (by rw [hp]; simp))
    clear hp h
    go_enter Try.func39, Try.ntmps39
    go_wp2_with fail
    refine (implPowerIn_any _ _ _ _ _ HRA.out hn _ HP.out).mono ?_
    rintro e w1 ⟨rfl, hq⟩
    have HQ1 : Hid (Drn w w1) := Lib.hid hq
    have HB1 := Lib.hid (HQ1.out.rd HRB.out).lt
    clear hq
    go_wp2_with fail
    refine (implPowerIn_any _ _ _ _ _ HB1.out hm _ HP'.out).mono ?_
    rintro e w2 ⟨rfl, hq⟩
    have B2 := Lib.hid (HQ1.out.below.trans ((show Drn w1 w2 from hq).below.mono HQ1.out.below.size))
    clear hq HB1
    go_wp2_with fail
    go_ret3
    exact FIN.out _ B2.out
  · have HP := Lib.hid (not_true hp)
    clear hp h
    go_enter Try.func39, Try.ntmps39
    go_wp2_with fail
    refine (implPowerIn_any _ _ _ _ _ HRA.out hn _ HP.out).mono ?_
    rintro e w1 ⟨rfl, hq⟩
    have B1 := Lib.hid (show Drn w w1 from hq).below
    clear hq
    go_wp2_with fail
    go_ret3
    exact FIN.out _ B1.out
end Go.Proofs.Ytbfpllmoaooadaa
