/- The counts of weighings, both packages. -/
import Derived.Test.YtbpnpceikbedbaaApp
import Derived.Test.YtbpnpceikbedbaaLib
import Derived.Test.YtbpnpceikbedbaaSum
import Derived.Test.YtbpnpceikbedbaaCnt
import Derived.StillTailTactics
namespace Go.Proofs.Ytbpnpceikbedbaa
set_option linter.unusedVariables false
open Go.RowKit

theorem Own.cap_le {w : World} {base n c : Nat} {A : Option Addr} {xs : List Int} (h : Own w base A n c xs) : n ≤ c := by
  rcases h.2 with ⟨h1, h2⟩ | ⟨g, cap, cur, h1, _, _, hnc, _⟩
  · omega
  · injection h1 with e1 e2 e3
    omega
theorem ne_blk {A : Option Addr} {G : Nat} (h : ∀ g, blk A = some g → g < G) : blk A = none ∨ blk A ≠ some G := by
  right
  intro e
  have := h G e
  omega
/-- The store of one number more into the reference's table. -/
theorem nx_store {w : World} {base G L c : Nat} {f f' : Nat → Int} {j : Nat} {y d : Int} (ho : Own w base (some ⟨G, 0, none⟩) L c (Cn.rw_ f L)) (hj : f' j = f j + d) (hy : f j = y) (hne : ∀ i, i ≠ j → f' i = f i) :
    Own (w.setCell ⟨G, j, none⟩ (.int .i64 (y + d))) base (some ⟨G, 0, none⟩) L c (Cn.rw_ f' L) ∧ w.grownBy (w.setCell ⟨G, j, none⟩ (.int .i64 (y + d))) (some G) := by
  have h := ho.set_ j (y + d)
  rw [Cn.rw_set (g := f') (by rw [hj, hy]) (fun i _ hi => hne i hi)] at h
  exact h

theorem own_one (w : World) (x : Int) : Own (w.alloc (.cells #[.int .i64 x] 3)) w.heap.size (some ⟨w.heap.size, 0, none⟩) 1 1 [x] := by
  unfold Own
  exact ⟨rfl, .inr ⟨w.heap.size, 1, #[.int .i64 x], rfl, Nat.le_refl _, heap_alloc_new w _, Nat.le_refl _, by unfold maxLen; omega, rfl, rfl⟩⟩
set_option maxRecDepth 100000 in
set_option maxHeartbeats 1600000 in
theorem l7Counts_any (A0 : Option Addr) (n c0 : Nat) (xs : List Int) (w : World) (ha : Rd w w.heap.size A0 n xs) (hs : sumIn xs = true) :
    Calls Try.prog 35 #[.slice A0 n c0] w (RetOwn w (Cn.rowf (Cn.cf xs) (-(Cn.tn xs : Int)) (2 * Cn.tn xs + 1))) := by
  obtain ⟨i0, hi, hz0, hz1, hz2⟩ := info_parts int_info
  have hl := ha.len
  have hl10 := sumIn_len hs
  have HM := Lib.hid (sumIn_get hs)
  have HA := Lib.hid ha
  clear ha hs
  go_enter Try.func35, Try.ntmps35
  go_wp2_with fail
  go_loopw [3, 4] (fun o i wr => ∃ (k : Nat) (A : Option Addr) (c : Nat), k ≤ n ∧ i = .int .i64 k ∧ o = .slice A (2 * Cn.tn (xs.take k) + 1) c ∧ Own wr w.heap.size A (2 * Cn.tn (xs.take k) + 1) c (Cn.rowf (Cn.cf (xs.take k)) (-(Cn.tn (xs.take k) : Int)) (2 * Cn.tn (xs.take k) + 1)) ∧ Below w.heap.size w wr) (fun _ i _ => n - (intOf i).toNat)
  case atStart =>
    refine ⟨0, _, 1, by omega, rfl, rfl, ?_, (Below.refl _ _).alloc (Nat.le_refl _) _⟩
    exact own_one w 1
  case round =>
    obtain ⟨k, A, c, hk, rfl, rfl, hown, hbw⟩ := hrel
    by_cases hlt : k < n
    · obtain ⟨b1, o1, rfl, hb1, hc1⟩ := HA.out.at_ hlt
      have hx := HM.out _ (getD_mem (xs := xs) (k := k) (by omega))
      obtain ⟨p, hp⟩ : ∃ p : Nat, xs.getD k 0 = (p : Int) := ⟨(xs.getD k 0).toNat, by omega⟩
      have g1 : wr.cell? ⟨b1, o1 + k, none⟩ = some (.int .i64 p) := by rw [← hp]; exact (hbw.cell (p := ⟨b1, o1 + k, none⟩) hb1).trans (hc1 k hlt)
      have hS : Cn.tn (xs.take (k + 1)) = Cn.tn (xs.take k) + p := by rw [take_succ_getD (by omega), Cn.tn_snoc, hp]; rfl
      have hSm := Cn.tn_take_le xs k
      have hT := Cn.tn_le (xs := xs) (m := 60) (fun x hx => by have := HM.out x hx; omega)
      rw [hp] at hx
      obtain ⟨S, hSS⟩ : ∃ S, Cn.tn (xs.take k) = S := ⟨_, rfl⟩
      rw [hSS] at hown hS hSm ⊢
      have bS : S ≤ 600 := by omega
      have HS := Lib.hid hS
      have HSS := Lib.hid hSS
      have HP := Lib.hid hp
      have H := Lib.hid hown
      have HB := Lib.hid hbw
      clear hS hSS hp hown hbw hc1 hSm hT
      go_wp2_with (at_make; refine wpList_make_full _ rfl _ _ 22 rfl w.heap.size 3 i0 (.int .i64 0) 1 Try.underlying22 hi hz0 hz1 _ _ _ _ (2 * S + 1 + 2 * p) rfl rfl (by omega) (by omega) ?b2 ?b3 ?b4 ?_)
      case b2 => rw [hz2]; omega
      case b3 => unfold maxLen; omega
      case b4 => exact HB.out.size
      intro w1 hown1 hg1
      obtain ⟨G, hG⟩ : ∃ G, wr.heap.size = G := ⟨_, rfl⟩
      have ho1 := own_made hown1
      have HU := Lib.hid (show ∀ g, blk A = some g → g < G from fun g e => by have := (H.out.lt g e).2; omega)
      have H1 := Lib.hid (H.out.below (below_of_grown hg1))
      have HB1 := Lib.hid (HB.out.grown hg1 HB.out.size (fun g e => by cases e))
      have g2 : w1.cell? ⟨b1, o1 + k, none⟩ = some (.int .i64 p) := (hg1.cell g1 (by simp))
      rw [hG] at ho1 ⊢
      have hwG : w.heap.size ≤ G := by have := HB.out.size; omega
      have hL : (2 * (S : Int) + 1 + 2 * (p : Int)) = ((2 * S + 1 + 2 * p : Nat) : Int) := by omega
      obtain ⟨L, hLe⟩ : ∃ L, 2 * S + 1 + 2 * p = L := ⟨_, rfl⟩
      rw [hLe, Cn.rw_zero] at ho1
      rw [hLe]
      have HL := Lib.hid hLe
      have bL : L ≤ 1321 := by omega
      have HO1 := Lib.hid ho1
      clear hL hLe ho1 hown1 hg1 g1 H HB hG
      go_wp2_with fail
      obtain ⟨wo, rfl⟩ : ∃ wo : World, wo = wr := ⟨_, rfl⟩
      go_loopw [6] (fun v wq => ∃ (v' : Nat), v' ≤ 2 * S + 1 ∧ v = .int .i64 v' ∧ Own wq w.heap.size A (2 * S + 1) c (Cn.rowf (Cn.cf (xs.take k)) (-(S : Int)) (2 * S + 1)) ∧
          Own wq w.heap.size (some ⟨G, 0, none⟩) L L (Cn.rw_ (Cn.nx (fun v => Cn.cf (xs.take k) (-(S : Int) + v)) p v' 0) L) ∧ Below w.heap.size w wq ∧ wq.cell? ⟨b1, o1 + k, none⟩ = some (.int .i64 p)) (fun v _ => 2 * S + 1 - (intOf v).toNat)
      case atStart => exact ⟨0, by omega, rfl, H1.out, by rw [show Cn.nx (fun v => Cn.cf (xs.take k) (-(S : Int) + v)) p 0 0 = fun _ => 0 from funext (Cn.nx_zero _ p)]; exact HO1.out, HB1.out, g2⟩
      case round =>
        obtain ⟨v, hv, rfl, ho, hq, hbq, g3⟩ := hrel
        clear g2 H1 HB1 HO1
        by_cases hvl : v < 2 * S + 1
        · have J1 := Lib.hid ho
          have J2 := Lib.hid hq
          have J3 := Lib.hid hbq
          have dv : decide ((v : Int) < 2 * (S : Int) + 1) = true := by simp; omega
          clear ho hq hbq
          go_wp2_with fail
          clear dv
          obtain ⟨wm, rfl⟩ : ∃ wm : World, wm = wr := ⟨_, rfl⟩
          go_loopw [7] (fun t wq => ∃ (t' : Nat), t' ≤ 3 ∧ t = .int .i64 t' ∧ Own wq w.heap.size A (2 * S + 1) c (Cn.rowf (Cn.cf (xs.take k)) (-(S : Int)) (2 * S + 1)) ∧
              Own wq w.heap.size (some ⟨G, 0, none⟩) L L (Cn.rw_ (Cn.nx (fun v => Cn.cf (xs.take k) (-(S : Int) + v)) p v t') L) ∧ Below w.heap.size w wq ∧ wq.cell? ⟨b1, o1 + k, none⟩ = some (.int .i64 p)) (fun t _ => 3 - (intOf t).toNat)
          case atStart => exact ⟨0, by omega, rfl, J1.out, J2.out, J3.out, g3⟩
          case round =>
            obtain ⟨t, ht, rfl, ho, hq, hbq, g2⟩ := hrel
            clear g3 J1 J2 J3
            have hr := Cn.cf_range (xs.take k)
            have hp3 := Cn.pow3_le (k := (xs.take k).length) (by simp; omega)
            have hnr := Cn.nx_range (o := fun v : Nat => Cn.cf (xs.take k) (-(S : Int) + v)) (M := 59049) (fun v => by have := hr (-(S : Int) + v); omega) p v
            obtain ⟨ga, rfl, _, hgl⟩ := ho.form (by omega)
            have hol := ho.cell hvl
            have hdr := hr (-(S : Int) + v)
            obtain ⟨d, hd⟩ : ∃ d, Cn.cf (xs.take k) (-(S : Int) + v) = d := ⟨_, rfl⟩
            rw [Cn.rowf, Cn.rw_get _ hvl, hd] at hol
            rw [hd] at hdr
            have hd2 : d ≤ 59049 := by omega
            have HD := Lib.hid hd
            have hd1 := hdr.1
            have K1 := Lib.hid ho
            have K3 := Lib.hid hbq
            clear ho hbq hr hp3 hd hdr
            have hLL := HL.out
            rcases (show t = 0 ∨ t = 1 ∨ t = 2 ∨ t = 3 from by omega) with rfl | rfl | rfl | rfl
            · have hqc := hq.cell (j := v) (by omega)
              have hqf := hq.free (v)
              have hyr := hnr 0 (v)
              rw [Cn.rw_get _ (by omega)] at hqc
              obtain ⟨y, hy⟩ : ∃ y, Cn.nx (fun v => Cn.cf (xs.take k) (-(S : Int) + v)) p v 0 (v) = y := ⟨_, rfl⟩
              rw [hy] at hqc hyr
              have st := Cn.nx_step0 (fun v : Nat => Cn.cf (xs.take k) (-(S : Int) + v)) (p := p) (v := v)
              rw [HD.out] at st
              have R := Lib.hid (nx_store hq st.1 hy st.2)
              have e1 : ((↑v : Int)).toNat = v := by omega
              have e2 : (↑v : Int) < (L : Int) := by omega
              have e3 : (0 : Int) ≤ ↑v := by omega
              obtain ⟨hy1, hy2⟩ := hyr
              have w1 : IntKind.i64.wrap (0) = 0 := IntWalk.i64_in _ (by omega)
              have w2 : IntKind.i64.wrap (↑v) = ↑v := IntWalk.i64_in _ (by omega)
              have w3 : IntKind.i64.wrap (y + d) = y + d := IntWalk.i64_in _ (by omega)
              have i1 : (0 : Int) ≤ (k : Int) := by omega
              have i2 : (k : Int) < (n : Int) := by omega
              have i3 : ((k : Int)).toNat = k := by omega
              have i4 : ((v : Int)).toNat = v := by omega
              have i5 : (v : Int) < 2 * (S : Int) + 1 := by omega
              have i6 : (0 : Int) ≤ (v : Int) := by omega
              clear hq hy st hnr hLL
              go_wp2_with fail
              refine wp_region_still_tail 26 (by kernel_rfl) (by kernel_rfl) ?_
              simp only [World.drew_eq, List.take_succ_cons, List.take_zero, List.drop_succ_cons, List.drop_zero]
              repeat still_step
              refine wpStill_nil ?_
              go_wp2_with fail
              have hg := grown_drew R.out.2
              go_roundw
              case rel => exact ⟨1, by omega, rfl, K1.out.grown hg (ne_blk HU.out), R.out.1, K3.out.grown hg K3.out.size (fun g e => by cases e; exact hwG), hg.cell g2 (by simp; omega)⟩
              case measure => simp [intOf]
            · have hqc := hq.cell (j := v + p) (by omega)
              have hqf := hq.free (v + p)
              have hyr := hnr 1 (v + p)
              rw [Cn.rw_get _ (by omega)] at hqc
              obtain ⟨y, hy⟩ : ∃ y, Cn.nx (fun v => Cn.cf (xs.take k) (-(S : Int) + v)) p v 1 (v + p) = y := ⟨_, rfl⟩
              rw [hy] at hqc hyr
              have st := Cn.nx_step1 (fun v : Nat => Cn.cf (xs.take k) (-(S : Int) + v)) (p := p) (v := v) (by omega)
              rw [HD.out] at st
              have R := Lib.hid (nx_store hq st.1 hy st.2)
              have e1 : ((↑v + ↑p : Int)).toNat = v + p := by omega
              have e2 : (↑v + ↑p : Int) < (L : Int) := by omega
              have e3 : (0 : Int) ≤ ↑v + ↑p := by omega
              obtain ⟨hy1, hy2⟩ := hyr
              have w1 : IntKind.i64.wrap (↑p) = ↑p := IntWalk.i64_in _ (by omega)
              have w2 : IntKind.i64.wrap (↑v + ↑p) = ↑v + ↑p := IntWalk.i64_in _ (by omega)
              have w3 : IntKind.i64.wrap (y + d) = y + d := IntWalk.i64_in _ (by omega)
              have i1 : (0 : Int) ≤ (k : Int) := by omega
              have i2 : (k : Int) < (n : Int) := by omega
              have i3 : ((k : Int)).toNat = k := by omega
              have i4 : ((v : Int)).toNat = v := by omega
              have i5 : (v : Int) < 2 * (S : Int) + 1 := by omega
              have i6 : (0 : Int) ≤ (v : Int) := by omega
              clear hq hy st hnr hLL
              go_wp2_with fail
              refine wp_region_still_tail 26 (by kernel_rfl) (by kernel_rfl) ?_
              simp only [World.drew_eq, List.take_succ_cons, List.take_zero, List.drop_succ_cons, List.drop_zero]
              repeat still_step
              refine wpStill_nil ?_
              go_wp2_with fail
              have hg := grown_drew R.out.2
              go_roundw
              case rel => exact ⟨2, by omega, rfl, K1.out.grown hg (ne_blk HU.out), R.out.1, K3.out.grown hg K3.out.size (fun g e => by cases e; exact hwG), hg.cell g2 (by simp; omega)⟩
              case measure => simp [intOf]
            · have hqc := hq.cell (j := v + 2 * p) (by omega)
              have hqf := hq.free (v + 2 * p)
              have hyr := hnr 2 (v + 2 * p)
              rw [Cn.rw_get _ (by omega)] at hqc
              obtain ⟨y, hy⟩ : ∃ y, Cn.nx (fun v => Cn.cf (xs.take k) (-(S : Int) + v)) p v 2 (v + 2 * p) = y := ⟨_, rfl⟩
              rw [hy] at hqc hyr
              have st := Cn.nx_step2 (fun v : Nat => Cn.cf (xs.take k) (-(S : Int) + v)) (p := p) (v := v) (by omega)
              rw [HD.out] at st
              have R := Lib.hid (nx_store hq st.1 hy st.2)
              have e1 : ((↑v + 2 * ↑p : Int)).toNat = v + 2 * p := by omega
              have e2 : (↑v + 2 * ↑p : Int) < (L : Int) := by omega
              have e3 : (0 : Int) ≤ ↑v + 2 * ↑p := by omega
              obtain ⟨hy1, hy2⟩ := hyr
              have w1 : IntKind.i64.wrap (2 * ↑p) = 2 * ↑p := IntWalk.i64_in _ (by omega)
              have w2 : IntKind.i64.wrap (↑v + 2 * ↑p) = ↑v + 2 * ↑p := IntWalk.i64_in _ (by omega)
              have w3 : IntKind.i64.wrap (y + d) = y + d := IntWalk.i64_in _ (by omega)
              have i1 : (0 : Int) ≤ (k : Int) := by omega
              have i2 : (k : Int) < (n : Int) := by omega
              have i3 : ((k : Int)).toNat = k := by omega
              have i4 : ((v : Int)).toNat = v := by omega
              have i5 : (v : Int) < 2 * (S : Int) + 1 := by omega
              have i6 : (0 : Int) ≤ (v : Int) := by omega
              clear hq hy st hnr hLL
              go_wp2_with fail
              refine wp_region_still_tail 26 (by kernel_rfl) (by kernel_rfl) ?_
              simp only [World.drew_eq, List.take_succ_cons, List.take_zero, List.drop_succ_cons, List.drop_zero]
              repeat still_step
              refine wpStill_nil ?_
              go_wp2_with fail
              have hg := grown_drew R.out.2
              go_roundw
              case rel => exact ⟨3, by omega, rfl, K1.out.grown hg (ne_blk HU.out), R.out.1, K3.out.grown hg K3.out.size (fun g e => by cases e; exact hwG), hg.cell g2 (by simp; omega)⟩
              case measure => simp [intOf]
            · clear hnr hLL
              have K2 := Lib.hid hq
              clear hq
              go_wp2_with fail
              go_roundw
              case rel => exact ⟨v + 1, by omega, by go_num, K1.out, by rw [← show Cn.nx (fun v => Cn.cf (xs.take k) (-(S : Int) + v)) p v 3 = _ from funext (Cn.nx_next _ p v)]; exact K2.out, K3.out, g2⟩
              case measure => simp [intOf]; omega
        · have hve : v = 2 * S + 1 := by omega
          subst hve
          have J2 := Lib.hid hq
          have J3 := Lib.hid hbq
          clear ho hq hbq
          go_wp2_with fail
          go_roundw
          case rel =>
            have e := HS.out
            have e2 := HL.out
            refine ⟨k + 1, some ⟨G, 0, none⟩, L, by omega, by go_num, by rw [e]; congr 1; omega, ?_, J3.out⟩
            rw [e, show 2 * (S + p) + 1 = L from by omega, Cn.rowf, take_succ_getD (by omega), HP.out, Cn.cf_snoc]
            have h := J2.out
            rw [Cn.rw_congr (g := fun j => Cn.stp (Cn.cf (xs.take k)) p (-((S + p : Nat) : Int) + j)) (fun j _ => Cn.nx_end (S := S) (fun s hs => Cn.cf_far (xs.take k) (fun x hx => by have := HM.out x (List.mem_of_mem_take hx); omega) s (by rw [HSS.out]; exact hs)) j)] at h
            exact h
          case measure => simp [intOf]; omega
    · have hkn : k = n := by omega
      subst hkn
      have J2 := Lib.hid hown
      have J3 := Lib.hid hbw
      clear hown hbw
      go_wp2_with fail
      go_ret
      have h := J2.out
      have e : xs.take k = xs := List.take_of_length_le (by omega)
      rw [e] at h
      exact ⟨A, 2 * Cn.tn xs + 1, c, by show Ending.returned (Value.slice A (2 * Cn.tn (xs.take k) + 1) c) = _; rw [e], h, J3.out⟩
end Go.Proofs.Ytbpnpceikbedbaa
