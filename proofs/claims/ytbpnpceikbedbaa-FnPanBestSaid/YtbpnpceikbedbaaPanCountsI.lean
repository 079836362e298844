/- impl.PanCounts. -/
import Derived.Test.YtbpnpceikbedbaaPanCounts
namespace Go.Proofs.Ytbpnpceikbedbaa
set_option linter.unusedVariables false
open Go.RowKit
/-- A store of one number more into the program's table. -/
theorem rw_store {w : World} {base G L c : Nat} {f f' : Nat → Int} {j : Nat} {y d : Int} (ho : Own w base (some ⟨G, 0, none⟩) L c (Cn.rw_ f L)) (hst : f' j = f j + d ∧ ∀ i, i ≠ j → f' i = f i) (hy : f j = y) :
    Own (w.setCell ⟨G, j, none⟩ (.int .i64 (y + d))) base (some ⟨G, 0, none⟩) L c (Cn.rw_ f' L) ∧ w.grownBy (w.setCell ⟨G, j, none⟩ (.int .i64 (y + d))) (some G) :=
  nx_store ho hst.1 hy hst.2
theorem mo_range' {o : Nat → Int} {M : Int} (h : ∀ v, 0 ≤ o v ∧ o v ≤ M) (p a b c j : Nat) : 0 ≤ Cn.mo o p a b c j ∧ Cn.mo o p a b c j ≤ 3 * M := Cn.mo_range h p a b c j
set_option maxHeartbeats 400000 in
theorem implPanCounts_no (A : Option Addr) (n c : Nat) (xs : List Int) (w : World) (ha : Rd w w.heap.size A n xs) (hn : n ≤ 1000000000) (h : sumIn xs = false) :
    Calls Try.prog 20 #[.slice A n c] w (RetOwnB w [] false) := by
  go_enter Try.func20, Try.ntmps20
  go_wp2_with (go_at_call 32; refine (implSumIn_any _ _ _ _ _ ha hn _ h).mono ?_; rintro e w' ⟨rfl, rfl⟩)
  go_ret2
  exact ⟨_, _, _, rfl, own_empty w, (Below.refl _ _).alloc (Nat.le_refl _) _⟩
set_option maxRecDepth 100000 in
set_option maxHeartbeats 1600000 in
theorem implPanCounts_yes (A0 : Option Addr) (n c0 : Nat) (xs : List Int) (w : World) (ha : Rd w w.heap.size A0 n xs) (h : sumIn xs = true) :
    Calls Try.prog 20 #[.slice A0 n c0] w (RetOwnB w (pcs xs) true) := by
  obtain ⟨i0, hi, hz0, hz1, hz2⟩ := info_parts int_info
  have hn := sumIn_len h
  have hl := ha.len
  have hT := tn_600 h
  have HT := Lib.hid (total_tn h)
  have HA := Lib.hid ha
  have HM := Lib.hid (sumIn_get h)
  have HH := Lib.hid h
  clear ha h
  go_enter Try.func20, Try.ntmps20
  go_wp2_with fail
  refine (implSumIn_any _ _ _ _ _ HA.out (by omega) _ HH.out).mono ?_
  rintro e w' ⟨rfl, rfl⟩
  go_wp2_with fail
  refine (totalOf_any _ _ _ _ _ HA.out (by omega)).mono ?_
  rintro e w' ⟨rfl, rfl⟩
  rw [HT.out]
  obtain ⟨T, hTe⟩ : ∃ T, Cn.tn xs = T := ⟨_, rfl⟩
  rw [hTe] at hT ⊢
  have HTe := Lib.hid hTe
  clear HT hTe
  obtain ⟨L, hLe⟩ : ∃ L, L = 2 * T + 1 := ⟨_, rfl⟩
  have HL := Lib.hid hLe
  have hL1 : L ≤ 1201 := by omega
  have hL2 : T < L := by omega
  clear hLe
  go_wp2_with (at_make; refine wpList_make_full _ rfl _ _ 22 rfl w.heap.size 3 i0 (.int .i64 0) 1 Try.underlying22 hi hz0 hz1 _ _ _ _ L rfl rfl (by have := HL.out; omega) (by have := HL.out; omega) ?b2 ?b3 (Nat.le_refl _) ?_)
  case b2 => rw [hz2]; omega
  case b3 => unfold maxLen; omega
  intro w1 hown1 hg1
  have ho1 := own_made hown1
  have hc1 := ho1.cell hL2
  have hf1 := ho1.free T
  have hst := ho1.set_ T 1
  rw [Cn.rw_zero, Cn.rw_set (g := fun j => Cn.cf [] (-(T : Int) + j)) (by show (if (-(T : Int) + T) = 0 then (1 : Int) else 0) = 1; rw [if_pos (by omega)]) (fun i hi hne => by show (if (-(T : Int) + i) = 0 then (1 : Int) else 0) = 0; rw [if_neg (by omega)])] at hst
  rw [show (List.replicate L (0 : Int)).getD T 0 = 0 from by simp [List.getD, hL2]] at hc1
  have HO1 := Lib.hid hst.1
  have HB1 := Lib.hid (((Below.refl w.heap.size w).grown hg1 (Nat.le_refl _) (fun g e => by cases e)).grown hst.2 hg1.size (fun g e => by cases e; exact Nat.le_refl _))
  clear hown1 hg1 ho1 hst
  go_wp2_with fail
  go_loopw [5, 26] (fun o i wr => ∃ (k : Nat) (g c : Nat), k ≤ n ∧ i = .int .i64 k ∧ o = .slice (some ⟨g, 0, none⟩) L c ∧ Own wr w.heap.size (some ⟨g, 0, none⟩) L c (Cn.rw_ (fun j => Cn.cf (xs.take k) (-(T : Int) + j)) L) ∧ Below w.heap.size w wr) (fun _ i _ => n - (intOf i).toNat)
  case atStart => exact ⟨0, _, _, by omega, rfl, rfl, HO1.out, HB1.out⟩
  case round =>
    obtain ⟨k, g, c, hk, rfl, rfl, hown, hbw⟩ := hrel
    clear HO1 HB1 hc1 hf1
    by_cases hlt : k < n
    · obtain ⟨b1, o1, rfl, hb1, hcc⟩ := HA.out.at_ hlt
      have hx := HM.out _ (getD_mem (xs := xs) (k := k) (by omega))
      obtain ⟨p, hp⟩ : ∃ p : Nat, xs.getD k 0 = (p : Int) := ⟨(xs.getD k 0).toNat, by omega⟩
      have g1 : wr.cell? ⟨b1, o1 + k, none⟩ = some (.int .i64 p) := by rw [← hp]; exact (hbw.cell (p := ⟨b1, o1 + k, none⟩) hb1).trans (hcc k hlt)
      have hS : Cn.tn (xs.take (k + 1)) = Cn.tn (xs.take k) + p := by rw [take_succ_getD (by omega), Cn.tn_snoc, hp]; rfl
      have hSm := Cn.tn_take_le xs (k + 1)
      rw [HTe.out, hS] at hSm
      obtain ⟨S, hSS⟩ : ∃ S, Cn.tn (xs.take k) = S := ⟨_, rfl⟩
      rw [hSS] at hSm
      rw [hp] at hx
      have HSS := Lib.hid hSS
      have HP := Lib.hid hp
      have H := Lib.hid hown
      have HB := Lib.hid hbw
      have hp1 : 1 ≤ p := by omega
      have hp2 : p ≤ 60 := by omega
      clear hS hSS hp hown hbw hcc hx
      go_wp2_with (at_make; refine wpList_make_full _ rfl _ _ 22 rfl w.heap.size 3 i0 (.int .i64 0) 1 Try.underlying22 hi hz0 hz1 _ _ _ _ L rfl rfl rfl rfl ?b2 ?b3 ?b4 ?_)
      case b2 => rw [hz2]; omega
      case b3 => unfold maxLen; omega
      case b4 => exact HB.out.size
      intro w1 hown1 hg1
      obtain ⟨G, hG⟩ : ∃ G, wr.heap.size = G := ⟨_, rfl⟩
      have ho1 := own_made hown1
      have HU := Lib.hid (show ∀ g', blk (some (⟨g, 0, none⟩ : Addr)) = some g' → g' < G from fun g' e => by have := (H.out.lt g' e).2; omega)
      have hgG : g < G := HU.out g rfl
      have H1 := Lib.hid (H.out.below (below_of_grown hg1))
      have HB1 := Lib.hid (HB.out.grown hg1 HB.out.size (fun g e => by cases e))
      have hwG : w.heap.size ≤ G := by have := HB.out.size; omega
      rw [hG] at ho1 ⊢
      rw [Cn.rw_zero] at ho1
      have HO1 := Lib.hid ho1
      clear ho1 hown1 hg1 g1 H HB hG
      go_wp2_with fail
      obtain ⟨wo, rfl⟩ : ∃ wo : World, wo = wr := ⟨_, rfl⟩
      go_loopw [35] (fun v wq => ∃ (i : Nat), i ≤ L ∧ v = .int .i64 i ∧ Own wq w.heap.size (some ⟨g, 0, none⟩) L c (Cn.rw_ (fun j => Cn.cf (xs.take k) (-(T : Int) + j)) L) ∧
          Own wq w.heap.size (some ⟨G, 0, none⟩) L L (Cn.rw_ (Cn.mo (fun j => Cn.cf (xs.take k) (-(T : Int) + j)) p i i i) L) ∧ Below w.heap.size w wq) (fun v _ => L - (intOf v).toNat)
      case atStart => exact ⟨0, by omega, rfl, H1.out, by rw [show Cn.mo (fun j : Nat => Cn.cf (xs.take k) (-(T : Int) + j)) p 0 0 0 = fun _ => 0 from funext (Cn.mo_zero _ p)]; exact HO1.out, HB1.out⟩
      case round =>
        obtain ⟨i, hil, rfl, ho, hq, hbq⟩ := hrel
        clear H1 HB1 HO1
        by_cases hvl : i < L
        · have hr := Cn.cf_range (xs.take k)
          have hp3 := Cn.pow3_le (k := (xs.take k).length) (by simp; omega)
          have hnr := mo_range' (o := fun j : Nat => Cn.cf (xs.take k) (-(T : Int) + j)) (M := 59049) (fun v => by have := hr (-(T : Int) + v); omega) p
          have hol := ho.cell hvl
          have hdr := hr (-(T : Int) + i)
          have hfar := Cn.cf_far (xs.take k) (fun x hx => by have := HM.out x (List.mem_of_mem_take hx); omega) (-(T : Int) + i)
          rw [HSS.out] at hfar
          obtain ⟨d, hd⟩ : ∃ d, Cn.cf (xs.take k) (-(T : Int) + i) = d := ⟨_, rfl⟩
          rw [Cn.rw_get _ hvl, hd] at hol
          rw [hd] at hdr hfar
          have hd2 : d ≤ 59049 := by omega
          have hd1 := hdr.1
          have HD := Lib.hid hd
          have K1 := Lib.hid ho
          have K3 := Lib.hid hbq
          have hLL := HL.out
          clear ho hbq hr hp3 hd hdr
          by_cases hd0 : d = 0
          · subst hd0
            have K2 := Lib.hid hq
            clear hq hnr hfar hLL
            go_wp2_with fail
            go_roundw
            case rel => exact ⟨i + 1, by omega, by go_num, K1.out, by rw [show Cn.mo (fun j : Nat => Cn.cf (xs.take k) (-(T : Int) + j)) p (i + 1) (i + 1) (i + 1) = _ from funext (Cn.mo_none (o := fun j : Nat => Cn.cf (xs.take k) (-(T : Int) + j)) HD.out)]; exact K2.out, K3.out⟩
            case measure => simp [intOf]; omega
          · have hfi : p ≤ i ∧ i + p < L := by omega
            obtain ⟨hf1, hf2⟩ := hfi
            have hd0' : (d == 0) = false := by simpa using hd0
            have s1 := Cn.mo_step1 (fun j : Nat => Cn.cf (xs.take k) (-(T : Int) + j)) (p := p) (a := i) (b := i) (c := i) hf1
            have s2 := Cn.mo_step2 (fun j : Nat => Cn.cf (xs.take k) (-(T : Int) + j)) (p := p) (a := i + 1) (b := i) (c := i)
            have s3 := Cn.mo_step3 (fun j : Nat => Cn.cf (xs.take k) (-(T : Int) + j)) (p := p) (a := i + 1) (b := i + 1) (c := i)
            have q1 := hq.cell (j := i - p) (by omega)
            have q2 := hq.cell (j := i) (by omega)
            have q3 := hq.cell (j := i + p) (by omega)
            have f1 := hq.free (i - p)
            have f2 := hq.free i
            have f3 := hq.free (i + p)
            rw [Cn.rw_get _ (by omega)] at q1 q2 q3
            have r1 := hnr i i i (i - p)
            have r2 := hnr i i i i
            have r3 := hnr i i i (i + p)
            obtain ⟨y1, hy1⟩ : ∃ y, Cn.mo (fun j => Cn.cf (xs.take k) (-(T : Int) + j)) p i i i (i - p) = y := ⟨_, rfl⟩
            obtain ⟨y2, hy2⟩ : ∃ y, Cn.mo (fun j => Cn.cf (xs.take k) (-(T : Int) + j)) p i i i i = y := ⟨_, rfl⟩
            obtain ⟨y3, hy3⟩ : ∃ y, Cn.mo (fun j => Cn.cf (xs.take k) (-(T : Int) + j)) p i i i (i + p) = y := ⟨_, rfl⟩
            rw [hy1] at q1 r1
            rw [hy2] at q2 r2
            rw [hy3] at q3 r3
            have t2 : Cn.mo (fun j => Cn.cf (xs.take k) (-(T : Int) + j)) p (i + 1) i i i = y2 := by rw [s1.2 _ (by omega), hy2]
            have t3 : Cn.mo (fun j => Cn.cf (xs.take k) (-(T : Int) + j)) p (i + 1) (i + 1) i (i + p) = y3 := by rw [s2.2 _ (by omega), s1.2 _ (by omega), hy3]
            rw [HD.out] at s1 s2 s3
            have R1 := rw_store hq s1 hy1
            have R2 := rw_store R1.1 s2 t2
            have R3 := rw_store R2.1 s3 t3
            have R := Lib.hid R3.1
            have RG := Lib.hid (grownBy_trans (grownBy_trans R1.2 R2.2) R3.2)
            have e1 : (((i : Int) - (p : Int))).toNat = i - p := by omega
            obtain ⟨r11, r12⟩ := r1
            obtain ⟨r21, r22⟩ := r2
            obtain ⟨r31, r32⟩ := r3
            clear s1 s2 s3 hy1 hy2 hy3 t2 t3 R1 R2 R3 hnr hfar hLL hq hd0
            go_wp2_with fail
            go_roundw
            case rel => exact ⟨i + 1, by omega, by go_num, K1.out.grown RG.out (ne_blk HU.out), R.out, K3.out.grown RG.out K3.out.size (fun g e => by cases e; exact hwG)⟩
            case measure => simp [intOf]; omega
        · have hve : i = L := by omega
          subst hve
          have J2 := Lib.hid hq
          have J3 := Lib.hid hbq
          clear ho hq hbq
          go_wp2_with fail
          go_roundw
          case rel =>
            have h := J2.out
            have hLL := HL.out
            refine ⟨k + 1, G, i, by omega, by go_num, rfl, ?_, J3.out⟩
            rw [take_succ_getD (by omega), HP.out, Cn.cf_snoc]
            rw [hLL] at h ⊢
            rw [Cn.rw_congr (g := fun j => Cn.stp (Cn.cf (xs.take k)) p (-(T : Int) + j)) (fun j hj => Cn.mo_end (S := S) (by omega) (fun s hs => Cn.cf_far (xs.take k) (fun x hx => by have := HM.out x (List.mem_of_mem_take hx); omega) s (by rw [HSS.out]; exact hs)) hj)] at h
            exact h
          case measure => simp [intOf]; omega
    · have hkn : k = n := by omega
      subst hkn
      have hcc := hown.cap_le
      have e : xs.take k = xs := List.take_of_length_le (by omega)
      rw [e] at hown
      have hO := own_drop hown T
      have hP := pcs_of xs
      rw [HTe.out] at hP
      have hLL := HL.out
      rw [hLL] at hO
      rw [Cn.rowf] at hP
      rw [hP, ← hLL] at hO
      have HO := Lib.hid hO
      have HB := Lib.hid hbw
      have hT1 : ¬ c = T := by omega
      have hT2 : T ≤ L := by omega
      clear hown hbw e hP hLL hO
      go_wp2_with (go_at_call 36; refine (clone_some _ _ _ _ _ HO.out (by omega)).mono ?_; rintro e w2 ⟨A2, n2, c2, rfl, h2, hb2⟩)
      go_ret2
      exact ⟨A2, n2, c2, rfl, h2.mono HB.out.size, HB.out.trans (hb2.mono HB.out.size)⟩
end Go.Proofs.Ytbpnpceikbedbaa
