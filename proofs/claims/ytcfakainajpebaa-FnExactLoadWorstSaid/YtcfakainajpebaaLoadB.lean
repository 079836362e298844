
/- The list rule, both packages. -/
import Derived.Test.YtcfakainajpebaaLoadA
import Derived.StillTailTactics
namespace Go.Proofs.Ytcfakainajpebaa
set_option linter.unusedVariables false
open Go.RowKit
/-- Two slices of the call's own. -/
def RetPair (w : World) (xs ys : List Int) (e : Ending) (w' : World) : Prop := ∃ A n c A' n' c', e = .returned (.tuple #[.slice A n c, .slice A' n' c']) ∧ Own w' w.heap.size A n c xs ∧ Own w' w.heap.size A' n' c' ys ∧ Below w.heap.size w w'
theorem grown_drewN {a w : World} {row : Option Nat} (h : a.grownBy w row) (k : Nat) : a.grownBy (w.drewN k) row := ⟨h.os, h.tape, h.output, h.size, h.block⟩
theorem own_store {w : World} {base G m c : Nat} {S : List Int} (h : Own w base (some ⟨G, 0, none⟩) m c S) (q : Nat) (x : Int) (t : Nat) :
    Own ((w.drewN t).setCell ⟨G, q, none⟩ (.int .i64 x)) base (some ⟨G, 0, none⟩) m c (S.set q x) ∧ w.grownBy ((w.drewN t).setCell ⟨G, q, none⟩ (.int .i64 x)) (some G) := by
  have h1 := (h.drewN t).set_ q x
  exact ⟨h1.1, grownBy_trans (grown_drewN (World.grownBy.refl w (some G)) t) h1.2⟩
theorem append_zeros_set {l : List Int} {k n : Nat} (hl : l.length = k) (hk : k < n) (v : Int) : (l ++ List.replicate (n - k) (0 : Int)).set k v = (l ++ [v]) ++ List.replicate (n - (k + 1)) 0 := by
  obtain ⟨r, hr⟩ : ∃ r, n - k = r + 1 := ⟨n - k - 1, by omega⟩
  have hr2 : n - (k + 1) = r := by omega
  rw [hr, hr2, List.replicate_succ, List.set_append_right _ _ (by omega), hl, Nat.sub_self, List.set_cons_zero, List.append_assoc]
  rfl
def pus (m : Nat) (xs : List Int) : List Int := (Ld.byL m xs).1.map Int.ofNat
def sus (m : Nat) (xs : List Int) : List Int := (Ld.byL m xs).2
theorem pus_len (m : Nat) (xs : List Int) : (pus m xs).length = xs.length := by rw [pus, List.length_map, (Ld.byL_len m xs).1]
theorem sus_len (m : Nat) (xs : List Int) : (sus m xs).length = m := (Ld.byL_len m xs).2
theorem pus_snoc (m : Nat) (xs : List Int) (x : Int) : pus m (xs ++ [x]) = pus m xs ++ [((Ld.am (sus m xs) m : Nat) : Int)] := by
  rw [pus, Ld.byL_snoc, List.map_append]; rfl
theorem sus_snoc (m : Nat) (xs : List Int) (x : Int) : sus m (xs ++ [x]) = (sus m xs).set (Ld.am (sus m xs) m) ((sus m xs).getD (Ld.am (sus m xs) m) 0 + x) := by
  rw [sus, Ld.byL_snoc]; rfl
theorem am_succ (s : List Int) (j : Nat) : Ld.am s (j + 1) = if s.getD j 0 < s.getD (Ld.am s j) 0 then j else Ld.am s j := rfl
set_option maxRecDepth 100000 in
set_option maxHeartbeats 1600000 in
theorem l5List_any (A0 : Option Addr) (n c0 : Nat) (xs : List Int) (m : Nat) (w : World) (ha : Rd w w.heap.size A0 n xs) (hs : sumIn xs = true) (hm1 : 1 ≤ m) (hm2 : m ≤ 5) :
    Calls Try.prog 16 #[.slice A0 n c0, .int .i64 m] w (RetPair w (pus m xs) (sus m xs)) := by
  obtain ⟨i0, hi, hz0, hz1, hz2⟩ := info_parts int_info
  have hl := ha.len
  have hn := sumIn_len hs
  have HM := Lib.hid (sumIn_get hs)
  have HA := Lib.hid ha
  have HR := Lib.hid (fun k => Ld.byL_range m (xs.take k) (fun x hx => by have := sumIn_get hs x (List.mem_of_mem_take hx); omega))
  clear ha hs
  go_enter Try.func16, Try.ntmps16
  go_wp2_with (at_make; refine wpList_make_full _ rfl _ _ 22 rfl w.heap.size 3 i0 (.int .i64 0) 1 Try.underlying22 hi hz0 hz1 _ _ _ _ m rfl rfl rfl rfl ?b2 ?b3 (by simp) ?_)
  case b2 => rw [hz2]; omega
  case b3 => unfold maxLen; omega
  intro w1 hown1 hg1
  have ho1 := own_made hown1
  have hoe := (own_empty w).below (below_of_grown hg1)
  have HO1 := Lib.hid ho1
  have HOE := Lib.hid hoe
  have HB1 := Lib.hid (((Below.refl w.heap.size w).alloc (Nat.le_refl _) (.cells #[] 3)).grown hg1 (by simp) (fun g e => by cases e))
  have hsz1 : w.heap.size + 1 ≤ w1.heap.size := by have := hg1.size; simpa using this
  obtain ⟨G, hG⟩ : ∃ G, w.heap.size + 1 = G := ⟨_, rfl⟩
  have hG1 : G = w.heap.size + 1 := hG.symm
  rw [hG] at HO1 ⊢
  have hwG : w.heap.size < G := by omega
  have hG2 : G < w1.heap.size := (HO1.out.form (by omega)).elim fun g h => by have := h.2.2; have e := h.1; injection e with e; injection e with e1; omega
  clear hown1 hg1 ho1 hoe hG hG1 hsz1
  go_wp2_with fail
  go_loopw [6, 8] (fun o i wr => ∃ (k : Nat) (A : Option Addr) (c : Nat), k ≤ n ∧ i = .int .i64 k ∧ o = .slice A k c ∧ Own wr w.heap.size A k c (pus m (xs.take k)) ∧ Own wr w.heap.size (some ⟨G, 0, none⟩) m m (sus m (xs.take k)) ∧ (∀ g, blk A = some g → g ≠ G) ∧ G < wr.heap.size ∧ Below w.heap.size w wr) (fun _ i _ => n - (intOf i).toNat)
  case atStart => exact ⟨0, _, _, by omega, rfl, rfl, HOE.out, HO1.out, fun g e => by simp [blk] at e; omega, hG2, HB1.out⟩
  case round =>
    obtain ⟨k, A, c, hk, rfl, rfl, ho, hq, hap, hGs, hbw⟩ := hrel
    clear HO1 HOE HB1 hG2
    by_cases hlt : k < n
    · obtain ⟨b1, o1, rfl, hb1, hcc⟩ := HA.out.at_ hlt
      have hx := HM.out _ (getD_mem (xs := xs) (k := k) (by omega))
      have g1 : wr.cell? ⟨b1, o1 + k, none⟩ = some (.int .i64 (xs.getD k 0)) := (hbw.cell (p := ⟨b1, o1 + k, none⟩) hb1).trans (hcc k hlt)
      have hP := pus_snoc m (xs.take k) (xs.getD k 0)
      have hS := sus_snoc m (xs.take k) (xs.getD k 0)
      rw [← take_succ_getD (by omega)] at hP hS
      have hr := HR.out k
      have hr2 : ∀ j, j < m → 0 ≤ (sus m (xs.take k)).getD j 0 ∧ (sus m (xs.take k)).getD j 0 ≤ 600 := fun j hj => by
        have := hr j hj
        simp only [List.length_take] at this
        unfold sus
        omega
      clear hr
      obtain ⟨x, hxe⟩ : ∃ x, xs.getD k 0 = x := ⟨_, rfl⟩
      obtain ⟨S, hSe⟩ : ∃ S, sus m (xs.take k) = S := ⟨_, rfl⟩
      rw [hxe] at hx g1 hS
      rw [hSe] at hq hP hS hr2
      obtain ⟨hx1, hx2⟩ := hx
      have HX := Lib.hid hxe
      have HSE := Lib.hid hSe
      have HP := Lib.hid hP
      have HS := Lib.hid hS
      have HO := Lib.hid ho
      have HQ := Lib.hid hq
      have HAP := Lib.hid hap
      have HB := Lib.hid hbw
      have HRR := Lib.hid hr2
      clear hxe hSe hP hS ho hq hap hbw hcc hr2
      go_wp2_with fail
      obtain ⟨wm, rfl⟩ : ∃ wm : World, wm = wr := ⟨_, rfl⟩
      go_loopw [9, 10] (fun kk j wq => ∃ (j' q : Nat), 1 ≤ j' ∧ j' ≤ m ∧ j = .int .i64 j' ∧ kk = .int .i64 (Ld.am S j') ∧ wq = wm.drewN q) (fun _ j _ => m - (intOf j).toNat)
      case atStart => exact ⟨1, 0, by omega, hm1, rfl, by rw [Ld.am_one]; rfl, rfl⟩
      case round =>
        obtain ⟨j, d, hj1, hj, rfl, rfl, rfl⟩ := hrel
        have ham := Ld.am_lt S j (by omega)
        have hsu := am_succ S j
        obtain ⟨q, hqe⟩ : ∃ q, Ld.am S j = q := ⟨_, rfl⟩
        rw [hqe] at ham hsu ⊢
        by_cases hjm : j < m
        · have c1 := HQ.out.cell (j := j) hjm
          have c2 := HQ.out.cell (j := q) (by omega)
          obtain ⟨y, hy⟩ : ∃ y, S.getD j 0 = y := ⟨_, rfl⟩
          obtain ⟨z, hz⟩ : ∃ z, S.getD q 0 = z := ⟨_, rfl⟩
          rw [hy] at c1
          rw [hz] at c2
          rw [hy, hz] at hsu
          have HSU := Lib.hid hsu
          have HQE := Lib.hid hqe
          have j1 : (0 : Int) ≤ (j : Int) := by omega
          have j2 : (j : Int) < (m : Int) := by omega
          have j3 : ((j : Int)).toNat = j := by omega
          have q1 : (0 : Int) ≤ (q : Int) := by omega
          have q2 : (q : Int) < (m : Int) := by omega
          have q3 : ((q : Int)).toNat = q := by omega
          clear hy hz hsu hqe
          by_cases hyz : y < z
          · go_wp2_with fail
            go_quiet (fail)
            go_wp2_with fail
            go_roundw
            case rel => exact ⟨j + 1, _, by omega, by omega, by go_num, by rw [HSU.out, if_pos hyz], rfl⟩
            case measure => simp [intOf]; omega
          · go_wp2_with fail
            go_quiet (fail)
            go_wp2_with fail
            go_roundw
            case rel => exact ⟨j + 1, _, by omega, by omega, by go_num, by rw [HSU.out, if_neg (by omega)], rfl⟩
            case measure => simp [intOf]; omega
        · have hjm : j = m := by omega
          subst hjm
          have c2 := HQ.out.cell (j := q) (by omega)
          have f2 := HQ.out.free q
          have hrq := HRR.out q (by omega)
          have hq0 : S.getD (Ld.am S j) 0 = S.getD q 0 := by rw [hqe]
          obtain ⟨y, hy⟩ : ∃ y, S.getD q 0 = y := ⟨_, rfl⟩
          rw [hy] at c2 hrq hq0
          obtain ⟨hr1, hr2⟩ := hrq
          have st := fun t => own_store HQ.out q (y + x) t
          have eS := HS.out
          rw [hq0, hqe] at eS
          have eP := HP.out
          rw [hqe] at eP
          rw [← eS] at st
          have HST := Lib.hid st
          have HOO := Lib.hid (fun t => HO.out.grown (st t).2 (by
            cases hA : blk A with
            | none => exact .inl rfl
            | some g => right; intro e; injection e with e; exact HAP.out g hA e))
          have HBB := Lib.hid (fun t => HB.out.grown (st t).2 HB.out.size (fun g e => by cases e; omega))
          have hwx : IntKind.i64.wrap (y + x) = y + x := IntWalk.i64_in _ (by omega)
          have q1 : (0 : Int) ≤ (q : Int) := by omega
          have q2 : (q : Int) < (j : Int) := by omega
          have q3 : ((q : Int)).toNat = q := by omega
          have k1 : (0 : Int) ≤ (k : Int) := by omega
          have k2 : (k : Int) < (n : Int) := by omega
          have k3 : ((k : Int)).toNat = k := by omega
          have HEP := Lib.hid eP
          clear hy hsu hqe hq0 st eS eP
          go_wp2_with fail
          refine wp_region_still_tail 12 (by kernel_rfl) (by kernel_rfl) ?_
          simp only [World.drew_eq, List.take_succ_cons, List.take_zero, List.drop_succ_cons, List.drop_zero]
          repeat still_step
          refine wpStill_nil ?_
          go_wp2_with (at_builtin; refine wpList_pushN rfl _ _ _ rfl Try.underlying22 rfl (HOO.out _) rfl (by simp) (by omega) (HBB.out _).size ?_; intro A' c' w' ho' hg' hb')
          go_roundw
          case rel =>
            have hsz := hg'.size
            simp only [World.size_setCell] at hsz
            refine ⟨k + 1, A', c', by omega, by go_num, rfl, by rw [HEP.out]; exact ho', (HST.out _).1.grown hg' (.inr fun e => HAP.out G e.symm rfl), fun g e => ?_, Nat.lt_of_lt_of_le hGs hsz, (HBB.out _).grown hg' (HBB.out _).size (fun g e => (HO.out.lt g e).1)⟩
            rcases hb' with h | ⟨_, g', h1, h2⟩
            · exact HAP.out g (by rw [← h]; exact e)
            · rw [h1] at e
              injection e with e
              simp only [World.size_setCell] at h2
              have h3 : wm.heap.size ≤ g' := h2
              omega
          case measure => simp [intOf]; omega
    · have hkn : k = n := by omega
      subst hkn
      have e : xs.take k = xs := List.take_of_length_le (by omega)
      rw [e] at ho hq
      have H1 := Lib.hid ho
      have H2 := Lib.hid hq
      have H3 := Lib.hid hbw
      clear ho hq hbw e
      go_wp2_with fail
      go_ret2
      exact ⟨_, _, _, _, _, _, rfl, H1.out, H2.out, H3.out⟩
set_option maxRecDepth 100000 in
set_option maxHeartbeats 1600000 in
theorem byList_any (A0 : Option Addr) (n c0 : Nat) (xs : List Int) (m : Nat) (w : World) (ha : Rd w w.heap.size A0 n xs) (hs : sumIn xs = true) (hm1 : 1 ≤ m) (hm2 : m ≤ 5) :
    Calls Try.prog 19 #[.slice A0 n c0, .int .i64 m] w (RetPair w (pus m xs) (sus m xs)) := by
  obtain ⟨i0, hi, hz0, hz1, hz2⟩ := info_parts int_info
  have hl := ha.len
  have hn := sumIn_len hs
  have HM := Lib.hid (sumIn_get hs)
  have HA := Lib.hid ha
  have HR := Lib.hid (fun k => Ld.byL_range m (xs.take k) (fun x hx => by have := sumIn_get hs x (List.mem_of_mem_take hx); omega))
  clear ha hs
  go_enter Try.func19, Try.ntmps19
  go_wp2_with (at_make; refine wpList_make_full _ rfl _ _ 22 rfl w.heap.size 3 i0 (.int .i64 0) 1 Try.underlying22 hi hz0 hz1 _ _ _ _ n rfl rfl rfl rfl ?b2 ?b3 (Nat.le_refl _) ?_)
  case b2 => rw [hz2]; omega
  case b3 => unfold maxLen; omega
  intro w1 hown1 hg1
  have HO1 := Lib.hid (own_made hown1)
  have HB1 := Lib.hid ((Below.refl w.heap.size w).grown hg1 (Nat.le_refl _) (fun g e => by cases e))
  have HG1 := Lib.hid hg1
  have hs1 : w.heap.size ≤ w1.heap.size := hg1.size
  have hlt1 : ∀ g, blk (some (⟨w.heap.size, 0, none⟩ : Addr)) = some g → g < w1.heap.size := fun g e => (HO1.out.lt g e).2
  have HL1 := Lib.hid hlt1
  clear hown1 hg1 hlt1
  go_wp2_with (at_make; refine wpList_make_full _ rfl _ _ 22 rfl w.heap.size 3 i0 (.int .i64 0) 1 Try.underlying22 hi hz0 hz1 _ _ _ _ m rfl rfl rfl rfl ?c2 ?c3 hs1 ?_)
  case c2 => rw [hz2]; omega
  case c3 => unfold maxLen; omega
  intro w2 hown2 hg2
  obtain ⟨G, hG⟩ : ∃ G, w1.heap.size = G := ⟨_, rfl⟩
  have ho2 := own_made hown2
  rw [hG] at ho2 ⊢
  have HO2 := Lib.hid ho2
  have HOP := Lib.hid (HO1.out.below (below_of_grown hg2))
  have HB2 := Lib.hid (HB1.out.grown hg2 hs1 (fun g e => by cases e))
  have hPG : w.heap.size < G := by have := HL1.out w.heap.size rfl; omega
  have hwG : w.heap.size ≤ G := by omega
  clear hown2 hg2 ho2 HO1 HB1 HG1 HL1 hs1 hG
  go_wp2_with fail
  go_loopw [19] (fun i wr => ∃ (k : Nat), k ≤ n ∧ i = .int .i64 k ∧ Own wr w.heap.size (some ⟨w.heap.size, 0, none⟩) n n (pus m (xs.take k) ++ List.replicate (n - k) 0) ∧ Own wr w.heap.size (some ⟨G, 0, none⟩) m m (sus m (xs.take k)) ∧ Below w.heap.size w wr) (fun i _ => n - (intOf i).toNat)
  case atStart => exact ⟨0, by omega, rfl, by simpa [pus, Ld.byL, Ld.bl] using HOP.out, HO2.out, HB2.out⟩
  case round =>
    obtain ⟨k, hk, rfl, ho, hq, hbw⟩ := hrel
    clear HOP HO2 HB2
    by_cases hlt : k < n
    · obtain ⟨b1, o1, rfl, hb1, hcc⟩ := HA.out.at_ hlt
      have hx := HM.out _ (getD_mem (xs := xs) (k := k) (by omega))
      have g1 : wr.cell? ⟨b1, o1 + k, none⟩ = some (.int .i64 (xs.getD k 0)) := (hbw.cell (p := ⟨b1, o1 + k, none⟩) hb1).trans (hcc k hlt)
      have hPs := pus_snoc m (xs.take k) (xs.getD k 0)
      have hS := sus_snoc m (xs.take k) (xs.getD k 0)
      rw [← take_succ_getD (by omega)] at hPs hS
      have hr := HR.out k
      have hr2 : ∀ j, j < m → 0 ≤ (sus m (xs.take k)).getD j 0 ∧ (sus m (xs.take k)).getD j 0 ≤ 600 := fun j hj => by
        have := hr j hj
        simp only [List.length_take] at this
        unfold sus
        omega
      clear hr
      obtain ⟨x, hxe⟩ : ∃ x, xs.getD k 0 = x := ⟨_, rfl⟩
      obtain ⟨S, hSe⟩ : ∃ S, sus m (xs.take k) = S := ⟨_, rfl⟩
      rw [hxe] at hx g1 hS
      rw [hSe] at hq hPs hS hr2
      obtain ⟨hx1, hx2⟩ := hx
      have HX := Lib.hid hxe
      have HSE := Lib.hid hSe
      have HP := Lib.hid hPs
      have HS := Lib.hid hS
      have HO := Lib.hid ho
      have HQ := Lib.hid hq
      have HB := Lib.hid hbw
      have HRR := Lib.hid hr2
      clear hxe hSe hPs hS ho hq hbw hcc hr2
      go_wp2_with fail
      obtain ⟨wm, rfl⟩ : ∃ wm : World, wm = wr := ⟨_, rfl⟩
      go_loopw [10, 26] (fun kk j wq => ∃ (j' q : Nat), j' ≤ m ∧ j = .int .i64 j' ∧ kk = .int .i64 (Ld.am S j') ∧ wq = wm.drewN q) (fun _ j _ => m - (intOf j).toNat)
      case atStart => exact ⟨0, 0, by omega, rfl, rfl, rfl⟩
      case round =>
        obtain ⟨j, d, hj, rfl, rfl, rfl⟩ := hrel
        have ham : Ld.am S j < m := by
          rcases Nat.eq_zero_or_pos j with h | h
          · subst h; show 0 < m; omega
          · have := Ld.am_lt S j h; omega
        have hsu := am_succ S j
        obtain ⟨q, hqe⟩ : ∃ q, Ld.am S j = q := ⟨_, rfl⟩
        rw [hqe] at ham hsu ⊢
        by_cases hjm : j < m
        · have c1 := HQ.out.cell (j := j) hjm
          have c2 := HQ.out.cell (j := q) (by omega)
          obtain ⟨y, hy⟩ : ∃ y, S.getD j 0 = y := ⟨_, rfl⟩
          obtain ⟨z, hz⟩ : ∃ z, S.getD q 0 = z := ⟨_, rfl⟩
          rw [hy] at c1
          rw [hz] at c2
          rw [hy, hz] at hsu
          have HSU := Lib.hid hsu
          have HQE := Lib.hid hqe
          have j1 : (0 : Int) ≤ (j : Int) := by omega
          have j2 : (j : Int) < (m : Int) := by omega
          have j3 : ((j : Int)).toNat = j := by omega
          have q1 : (0 : Int) ≤ (q : Int) := by omega
          have q2 : (q : Int) < (m : Int) := by omega
          have q3 : ((q : Int)).toNat = q := by omega
          clear hy hz hsu hqe
          by_cases hyz : y < z
          · go_wp2_with fail
            go_quiet (fail)
            go_wp2_with fail
            go_roundw
            case rel => exact ⟨j + 1, _, by omega, by go_num, by rw [HSU.out, if_pos hyz], rfl⟩
            case measure => simp [intOf]; omega
          · go_wp2_with fail
            go_quiet (fail)
            go_wp2_with fail
            go_roundw
            case rel => exact ⟨j + 1, _, by omega, by go_num, by rw [HSU.out, if_neg (by omega)], rfl⟩
            case measure => simp [intOf]; omega
        · have hjm : j = m := by omega
          subst hjm
          have c2 := HQ.out.cell (j := q) (by omega)
          have f2 := HQ.out.free q
          have c3 := HO.out.cell (j := k) hlt
          have f3 := HO.out.free k
          obtain ⟨v3, hv3⟩ : ∃ v, (pus j (xs.take k) ++ List.replicate (n - k) (0 : Int)).getD k 0 = v := ⟨_, rfl⟩
          rw [hv3] at c3
          have hrq := HRR.out q (by omega)
          have hq0 : S.getD (Ld.am S j) 0 = S.getD q 0 := by rw [hqe]
          obtain ⟨y, hy⟩ : ∃ y, S.getD q 0 = y := ⟨_, rfl⟩
          rw [hy] at c2 hrq hq0
          obtain ⟨hr1, hr2⟩ := hrq
          have eS := HS.out
          rw [hq0, hqe] at eS
          have eP := HP.out
          rw [hqe] at eP
          have sp := fun t => own_store HO.out k (q : Int) t
          rw [append_zeros_set (by rw [pus_len]; simp; omega) hlt, ← eP] at sp
          have sq := fun t => own_store (HQ.out.grown (sp t).2 (.inr fun e => by simp [blk] at e; omega)) q (y + x) 0
          rw [← eS] at sq
          have fin := fun t => (⟨(sp t).1.grown (sq t).2 (.inr fun e => by simp [blk] at e; omega), (sq t).1, (HB.out.grown (sp t).2 HB.out.size (fun g e => by cases e; omega)).grown (sq t).2 (Nat.le_trans HB.out.size (sp t).2.size) (fun g e => by cases e; omega)⟩ : _ ∧ _ ∧ _)
          have FIN := Lib.hid fin
          have hne : w.heap.size ≠ G := by omega
          clear hy hsu hqe hq0 eS eP sp sq fin hv3
          go_wp2_with fail
          go_roundw
          case rel => exact ⟨k + 1, by omega, by go_num, (FIN.out _).1, (FIN.out _).2.1, (FIN.out _).2.2⟩
          case measure => simp [intOf]; omega
    · have hkn : k = n := by omega
      subst hkn
      have e : xs.take k = xs := List.take_of_length_le (by omega)
      rw [e] at ho hq
      rw [Nat.sub_self, List.replicate_zero, List.append_nil] at ho
      have H1 := Lib.hid ho
      have H2 := Lib.hid hq
      have H3 := Lib.hid hbw
      clear ho hq hbw e
      go_wp2_with fail
      go_ret2
      exact ⟨_, _, _, _, _, _, rfl, H1.out, H2.out, H3.out⟩
end Go.Proofs.Ytcfakainajpebaa
