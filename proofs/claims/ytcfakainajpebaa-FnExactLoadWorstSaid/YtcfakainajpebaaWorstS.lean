
/- spec.l5Worst: the walk. -/
import Derived.Test.YtcfakainajpebaaDropA
import Derived.Test.YtcfakainajpebaaWorstP
import Derived.Test.YtcfakainajpebaaLoadC
namespace Go.Proofs.Ytcfakainajpebaa
set_option linter.unusedVariables false
open Go.RowKit
theorem sumIn_perm {xs ys : List Int} (hp : ys.Perm xs) (h : sumIn xs = true) : sumIn ys = true :=
  sumIn_true (by rw [hp.length_eq]; exact sumIn_len h) (fun x hx => sumIn_get h x (hp.mem_iff.1 hx))
/-- The greatest over all orders of r behind b. -/
def RetMax (w : World) (f : List Int → Int) (b r : List Int) (e : Ending) (w' : World) : Prop := ∃ v, e = .returned (.int .i64 v) ∧ Wst.IsMax f b r v ∧ 0 ≤ v ∧ Below w.heap.size w w'
/-- The span of a list order. -/
def spanF (m : Nat) (l : List Int) : Int := Ld.mx (sus m l)
theorem spanF_nn (m : Nat) (l : List Int) : 0 ≤ spanF m l := Ld.mxf_ge _ _
theorem IsMax.nn {f : List Int → Int} {b r : List Int} {v : Int} (hf : ∀ l, 0 ≤ f l) (h : Wst.IsMax f b r v) : 0 ≤ v := by
  obtain ⟨_, p, _, e⟩ := h
  rw [← e]
  exact hf _
theorem erase_perm {b r : List Int} {k : Nat} (hk : k < r.length) : ((b ++ [r.getD k 0]) ++ r.eraseIdx k).Perm (b ++ r) := by
  rw [List.append_assoc]
  exact (Wst.cons_perm hk).append_left b
set_option maxRecDepth 100000 in
set_option maxHeartbeats 3200000 in
theorem l5Worst_any (m : Nat) (hm1 : 1 ≤ m) (hm2 : m ≤ 5) : ∀ (q : Nat) (A : Option Addr) (n c : Nat) (b : List Int) (A' : Option Addr) (c' : Nat) (r : List Int) (w : World), Rd w w.heap.size A n b → Rd w w.heap.size A' q r → q ≤ c' → sumIn (b ++ r) = true →
    Calls Try.prog 9 #[.slice A n c, .slice A' q c', .int .i64 m] w (RetMax w (spanF m) b r) := by
  intro q
  induction q with
  | zero =>
    intro A n c b A' c' r w hb hr hc hs
    have hr0 : r = [] := List.eq_nil_of_length_eq_zero hr.len
    subst hr0
    rw [List.append_nil] at hs
    have HB := Lib.hid hb
    have HS := Lib.hid hs
    clear hb hr hs
    go_enter Try.func9, Try.ntmps9
    go_wp2_with fail
    refine (l5List_any _ _ _ _ _ _ HB.out HS.out (by omega) (by omega)).mono ?_
    rintro e w1 ⟨A1, n1, c1, A2, n2, c2, rfl, h1, h2, hb⟩
    have hl2 := h2.len
    rw [sus_len] at hl2
    have hl2a : n2 ≤ 5 := by omega
    clear hl2
    have H2 := Lib.hid h2.rd
    have HW := Lib.hid hb
    clear h1 h2 hb
    go_wp2_with fail
    refine (l5Most_any _ _ _ _ _ H2.out (by omega)).mono ?_
    rintro e w2 ⟨rfl, rfl⟩
    go_wp2_with fail
    go_ret
    exact ⟨_, rfl, Wst.isMax_nil (spanF m) b, spanF_nn _ _, HW.out⟩
  | succ p ih =>
    intro A n c b A' c' r w hb hr hc hs
    have hln : n + (p + 1) ≤ 10 := by have h1 := sumIn_len hs; rw [List.length_append, hb.len, hr.len] at h1; omega
    obtain ⟨q, hq⟩ : ∃ q, p + 1 = q := ⟨_, rfl⟩
    rw [hq] at hr hc hln ⊢
    have IH := Lib.hid ih
    have HB := Lib.hid hb
    have HR := Lib.hid hr
    have HS := Lib.hid hs
    have HL := Lib.hid hr.len
    have BZ := Lib.hid (Below.refl w.heap.size w)
    have S0 := Lib.hid (Wst.soFar_zero (spanF m) b r 0)
    have q0 : ¬ (q : Int) = 0 := by omega
    clear ih hb hr hs
    go_enter Try.func9, Try.ntmps9
    go_wp2_with fail
    go_loopw [9, 10] (fun nv i wr => ∃ (k : Nat) (s : Int), k ≤ q ∧ i = .int .i64 k ∧ nv = .int .i64 s ∧ Hid (Wst.SoFar (spanF m) b r 0 k s) ∧ Hid (Below w.heap.size w wr)) (fun _ i _ => q - (intOf i).toNat)
    case atStart => exact ⟨0, 0, by omega, rfl, rfl, S0, BZ⟩
    case round =>
      obtain ⟨k, s, hk, rfl, rfl, HF, HW⟩ := hrel
      clear S0 BZ
      by_cases hlt : k < q
      · have hltz : (k : Int) < (q : Int) := by omega
        obtain ⟨b1, o1, rfl, hb1, hcc⟩ := HR.out.at_ hlt
        have g1 : wr.cell? ⟨b1, o1 + k, none⟩ = some (.int .i64 (r.getD k 0)) := (HW.out.cell (p := ⟨b1, o1 + k, none⟩) hb1).trans (hcc k hlt)
        obtain ⟨x, hx⟩ : ∃ x, r.getD k 0 = x := ⟨_, rfl⟩
        rw [hx] at g1
        have HX := Lib.hid hx
        clear hx hcc
        have HRw := Lib.hid ((HR.out.below HW.out).lt)
        have HBw := Lib.hid ((HB.out.below HW.out).lt)
        have hw1 : b1 < wr.heap.size := Nat.lt_of_lt_of_le hb1 HW.out.size
        have hs1 : ∀ W : World, (Instr.slice 22 (.slice (some ⟨b1, o1, none⟩) q c') none (some (.int .i64 k)) none).run Try.prog W = .ok (.slice (some ⟨b1, o1, none⟩) k c') W := fun W => run_sliceTo W _ q c' k hk hc
        have hs2 : ∀ W : World, (Instr.slice 22 (.slice (some ⟨b1, o1, none⟩) q c') (some (.int .i64 ((k : Int) + 1))) none none).run Try.prog W = .ok (.slice (dropA (some ⟨b1, o1, none⟩) c' (k + 1)) (q - (k + 1)) (c' - (k + 1))) W := fun W => run_sliceFrom W _ q c' (k + 1) hlt
        have R1 := Lib.hid (rd_take HRw.out hk)
        have r2 := rd_dropA (c := c') HRw.out (show k + 1 ≤ q from hlt) hc
        generalize dropA (some ⟨b1, o1, none⟩) c' (k + 1) = D2 at hs2 r2
        have R2 := Lib.hid r2
        clear r2
        have k0 : (0 : Int) ≤ (k : Int) := by omega
        have k3 : ((k : Int)).toNat = k := by omega
        have kw : IntKind.i64.wrap ((k : Int) + 1) = (k : Int) + 1 := IntWalk.i64_in _ (by omega)
        go_wp2_with fail
        go_region_held3 (fun w' => True) (trivial)
          (first
            | (refine step_app (by rfl) _ _ _ (by rfl) Try.underlying22 wr (by first | exact Below.alloc (Below.refl _ _) (Nat.le_refl _) _ | exact below_drw (Below.alloc (Below.refl _ _) (Nat.le_refl _) _)) _ _ _ _ (by exact rfl) (by first | exact own_emptyN (by rfl) (by simp) (by simp) | exact Own.drewN (own_emptyN (by rfl) (by simp) (by simp)) 1) _ _ _ _ (by exact rfl) _ (by exact R1.out.below (by first | exact Below.alloc (Below.refl _ _) (Nat.le_refl _) _ | exact below_drw (Below.alloc (Below.refl _ _) (Nat.le_refl _) _))) (by omega) ?_
               intro A1 cA wA hA hgA hbA
               simp only [Nat.zero_add, List.nil_append] at hA ⊢)
            | (refine step_app (by rfl) _ _ _ (by rfl) Try.underlying22 wr (by exact hbA) _ _ _ _ (by exact rfl) (by exact hA) _ _ _ _ (by exact rfl) _ (by exact R2.out.below hbA) (by omega) ?_
               intro A2 cB wB hB hgB hbB)
            | fail)
        all_goals
          have e : k + (q - (k + 1)) = p := by omega
          simp only [e] at hB ⊢
          rw [← List.eraseIdx_eq_take_drop_succ] at hB
          have g2 : wB.cell? ⟨b1, o1 + k, none⟩ = some (.int .i64 x) := (hbB.cell (p := ⟨b1, o1 + k, none⟩) hw1).trans g1
          have hw2 : b1 < wB.heap.size := Nat.lt_of_lt_of_le hw1 hbB.size
          have HE := Lib.hid hB.rd
          have HBb := Lib.hid ((HBw.out.below hbB).lt)
          have HBB := Lib.hid hbB
          have hpc : p ≤ cB := hB.cap.1
          clear hA hB hgA hgB hbA hbB hs1 hs2 R1 R2 e g1 kw
          go_wp2_with fail
          go_region_held3 (fun w' => w'.cell? ⟨b1, o1 + k, none⟩ = some (.int .i64 x)) (first | go_keep | exact (hbC.cell (p := ⟨b1, o1 + k, none⟩) hw2).trans g2 | exact (hbD.cell (p := ⟨b1, o1 + k, none⟩) hw2).trans g2 | exact (hbE.cell (p := ⟨b1, o1 + k, none⟩) (Nat.lt_of_lt_of_le hw2 hbD.size)).trans ((hbD.cell (p := ⟨b1, o1 + k, none⟩) hw2).trans g2) | fail)
            (first
              | (refine step_app (by rfl) _ _ _ (by rfl) Try.underlying22 wB (by first | exact Below.alloc (Below.refl _ _) (Nat.le_refl _) _ | exact below_drw (Below.alloc (Below.refl _ _) (Nat.le_refl _) _) | exact Below.alloc (Below.alloc (Below.refl _ _) (Nat.le_refl _) _) (by simp) _ | exact below_drw (Below.alloc (Below.alloc (Below.refl _ _) (Nat.le_refl _) _) (by simp) _)) _ _ _ _ (by exact rfl) (by first | exact own_emptyN (by rfl) (by simp) (by simp) | exact Own.drewN (own_emptyN (by rfl) (by simp) (by simp)) 1 | exact Own.drewN (Own.alloc (own_emptyN (by rfl) (by simp) (by simp)) _) 1) _ _ _ _ (by exact rfl) _ (by exact HBb.out.below (by first | exact Below.alloc (Below.refl _ _) (Nat.le_refl _) _ | exact below_drw (Below.alloc (Below.refl _ _) (Nat.le_refl _) _) | exact Below.alloc (Below.alloc (Below.refl _ _) (Nat.le_refl _) _) (by simp) _ | exact below_drw (Below.alloc (Below.alloc (Below.refl _ _) (Nat.le_refl _) _) (by simp) _))) (by omega) ?_
                 intro A3 cC wC hC hgC hbC
                 simp only [Nat.zero_add, List.nil_append] at hC ⊢)
              | (refine step_app (by rfl) _ _ _ (by rfl) Try.underlying22 wB (by first | exact hbC | exact hbC.alloc hbC.size _) _ _ _ _ (by exact rfl) (by first | exact hC | exact hC.alloc _) _ _ _ _ (by exact rfl) _ (by first | exact rd_cell (by simp; rfl) | exact rd_cell (by rw [hgC.cell_far _ (by simp <;> omega) (by simp [blk])]; simp; rfl)) (by omega) ?_
                 intro A4 cD wD hD hgD hbD)
              | (go_at_call 9
                 refine (IH.out _ _ _ _ _ _ _ _ hD.rd ((HE.out.below hbD).lt) hpc (by rw [← HX.out]; exact sumIn_perm (erase_perm (by rw [HL.out]; exact hlt)) HS.out)).mono ?_
                 rintro e wE ⟨v, rfl, hv, hv0, hbE⟩)
              | fail)
          all_goals
            have HN := Lib.hid (HF.out.step (by rw [HL.out]; exact hlt) (by rw [HX.out]; exact hv))
            have HWN := Lib.hid (HW.out.trans ((HBB.out.trans ((hbD.trans (hbE.mono hbD.size)).mono HBB.out.size)).mono HW.out.size))
            clear hC hD hgC hgD hbC hbD hbE hv
            by_cases hsv : s < v
            · rw [Int.max_eq_right (by omega)] at HN
              go_wp2_with fail
              first
                | exact ⟨⟨k + 1, by omega, by go_num, HN⟩, by simp [intOf]; omega⟩
                | exact ⟨⟨k + 1, by omega, by go_num, HN, HWN⟩, by simp [intOf]; omega⟩
                | (go_roundw
                   case rel => first | exact ⟨k + 1, by omega, by go_num, HN⟩ | exact ⟨k + 1, by omega, by go_num, HN, HWN⟩ | exact ⟨k + 1, v, by omega, by go_num, rfl, HN, HWN⟩
                   case measure => simp [intOf]; omega)
                | fail
            · rw [Int.max_eq_left (by omega)] at HN
              go_wp2_with fail
              first
                | exact ⟨⟨k + 1, by omega, by go_num, HN⟩, by simp [intOf]; omega⟩
                | exact ⟨⟨k + 1, by omega, by go_num, HN, HWN⟩, by simp [intOf]; omega⟩
                | (go_roundw
                   case rel => first | exact ⟨k + 1, by omega, by go_num, HN⟩ | exact ⟨k + 1, by omega, by go_num, HN, HWN⟩ | exact ⟨k + 1, s, by omega, by go_num, rfl, HN, HWN⟩
                   case measure => simp [intOf]; omega)
                | fail
      · have hltz : ¬ (k : Int) < (q : Int) := by omega
        obtain ⟨v, hv, hv2⟩ := HF.out.done (by rw [HL.out]; omega) (by intro e; have := HL.out; rw [e] at this; simp at this; omega)
        have hv0 := IsMax.nn (spanF_nn m) hv
        have hsv : s = v := by omega
        subst hsv
        have HV := Lib.hid hv
        clear hv hv2 HF
        go_wp2_with fail
        go_ret
        exact ⟨_, rfl, HV.out, hv0, HW.out⟩
end Go.Proofs.Ytcfakainajpebaa
