
/- spec.l4By: numbers are put into bins by a rule. -/
import Derived.Test.YtbihdajoflaknaaFindB
import Derived.Test.YtbihdajoflaknaaFill
import Derived.Test.YtbihdajoflaknaaSortS
import Derived.Test.YtbihdajoflaknaaBinB
import Derived.Deep.RegionLaw
import Derived.Deep.CutBlock
namespace Go.Proofs.Ytbihdajoflaknaa
set_option linter.unusedVariables false
open Go.RowKit
theorem tots_of {C : Int} {B : List (List Int)} {zs : List Int} (hp : B.flatten.Perm zs) (hz : ∀ z ∈ zs, 1 ≤ z ∧ z ≤ 60) (hl : zs.length ≤ 10) : Tots C B := by
  intro j hj
  have hb := bin_len B j hj
  have hle := hp.length_eq
  have hm : B.getD j [] ∈ B := by simp [List.getD, hj]
  have hx : ∀ x ∈ B.getD j [], 1 ≤ x ∧ x ≤ 60 := fun x hx => hz x (hp.subset (List.mem_flatten.2 ⟨_, hm, hx⟩))
  have ht := tot_len _ hx
  have hw := wsum_tot (B.getD j []) 0 hx (by omega) (by omega)
  exact ⟨by omega, by omega, by omega, by omega⟩
theorem OwnF.free {w : World} {base g n c : Nat} {fs : List Sl} {yss : List (List Int)} (h : OwnF w base (some ⟨g, 0, none⟩) n c fs yss) (j : Nat) : w.frozen? ⟨g, j, none⟩ = false := World.ownsRow.frozenAt h.2.2.1 j
/-- A row is laid anew. -/
theorem OwnF.setRow {w w1 : World} {base g n c m c2 : Nat} {fs : List Sl} {yss : List (List Int)} {A2 : Option Addr} {ys : List Int} {k : Nat} (h : OwnF w base (some ⟨g, 0, none⟩) n c fs yss) (hk : k < n) (hbase : base ≤ w.heap.size) (hb : Below w.heap.size w w1) (ho : Own w1 w.heap.size A2 m c2 ys) :
    OwnF (w1.setCell ⟨g, k, none⟩ (.slice A2 m c2)) base (some ⟨g, 0, none⟩) n c (fs.set k (A2, m, c2)) (yss.set k ys) := by
  have hlt := h.outer_lt g rfl
  obtain ⟨h1, h2, h3, h4, h5, h6⟩ := h
  have hst := World.ownsRow.stored (World.ownsRow.kept h3 (grown_of_below (row := none) hb) (by simp [Value.ownBlock])) k (.slice A2 m c2)
  have hnew : ∀ b, blk A2 = some b → w.heap.size ≤ b := fun b e => (ho.lt b e).1
  have hold : ∀ j, j < n → ∀ b, blk (fs.getD j slNil).1 = some b → b < w.heap.size := fun j hj b e => ((h4 j hj).lt b e).2
  have fk : ∀ j, (fs.set k (A2, m, c2)).getD j slNil = if k = j then (A2, m, c2) else fs.getD j slNil := fun j => by
    by_cases e : k = j
    · subst e; simp [List.getD, h1, hk]
    · simp [List.getD, e]
  have yk : ∀ j, (yss.set k ys).getD j [] = if k = j then ys else yss.getD j [] := fun j => by
    by_cases e : k = j
    · subst e; simp [List.getD, h2, hk]
    · simp [List.getD, e]
  refine ⟨by simp [h1], by simp [h2], ?_, fun j hj => ?_, fun j hj => ?_, fun i j hij hj => ?_⟩
  · rw [List.map_set]; exact hst.1
  · rw [fk, yk]
    by_cases e : k = j
    · rw [if_pos e, if_pos e]
      exact (ho.mono hbase).grown hst.2 (.inr fun e2 => by have := hnew g e2; omega)
    · rw [if_neg e, if_neg e]
      exact ((h4 j hj).below hb).grown hst.2 (h5 j hj)
  · rw [fk]
    by_cases e : k = j
    · rw [if_pos e]
      exact .inr fun e2 => by have := hnew g e2; omega
    · rw [if_neg e]; exact h5 j hj
  · rw [fk, fk]
    by_cases e1 : k = i
    · rw [if_pos e1, if_neg (by omega)]
      exact ap_symm (ap_lt (s := w.heap.size) (hold j hj) hnew)
    · rw [if_neg e1]
      by_cases e2 : k = j
      · rw [if_pos e2]
        exact ap_lt (s := w.heap.size) (hold i (by omega)) hnew
      · rw [if_neg e2]; exact h6 i j hij hj
/-- Slices of slices of the call's own. -/
def RetF (w : World) (B : List (List Int)) (e : Ending) (w' : World) : Prop := ∃ A n c fs, e = .returned (.slice A n c) ∧ OwnF w' w.heap.size A n c fs B ∧ Below w.heap.size w w'
theorem own_emptyF (w : World) : OwnF (w.alloc (.cells #[] 22)) w.heap.size (some ⟨w.heap.size, 0, none⟩) 0 0 [] [] :=
  ⟨rfl, rfl, World.ownsRow_made (base := w.heap.size) (e := 22) (size := 1) w #[] 0 (Nat.le_refl _) (by unfold maxLen; omega) rfl, fun j hj => by omega, fun j hj => by omega, fun i j h1 h2 => by omega⟩
theorem fill_len {r : Pk.Rl} {C : Int} (ys : List Int) (hx : ∀ x ∈ ys, 0 < x ∧ x ≤ C) : (Pk.fill r C ys []).length ≤ ys.length := by
  have hf : (Pk.fill r C ys []).flatten.Perm ys := by simpa using Pk.fill_flat (r := r) (C := C) ys []
  have ho := Pk.okay_fill (r := r) ys [] (Pk.okay_nil C) hx
  have h2 := Pk.flatten_len (k := 1) (bs := Pk.fill r C ys []) (fun b hb => by
    obtain ⟨j, hj, rfl⟩ := List.mem_iff_getElem.1 hb
    have := (ho.one j hj).2.2
    have e : (Pk.fill r C ys []).getD j [] = (Pk.fill r C ys [])[j] := by simp [List.getD, hj]
    rw [e] at this
    have := List.length_pos_iff.2 this
    omega)
  have h3 := hf.length_eq
  omega
set_option maxRecDepth 100000 in
set_option maxHeartbeats 12800000 in
theorem l4By_any (A : Option Addr) (n c : Nat) (xs : List Int) (C : Int) (s : ByteArray) (J : Nat) (cap : Bool) (w : World) (ha : Rd w w.heap.size A n xs) (hr : ruleB s = some (J, cap)) (h : bnOk xs C = true) :
    Calls Try.prog 37 #[.slice A n c, .int .i64 C, .int .u8 (byte0 s)] w (RetF w (Pk.fill (rlOf J) C (ordB cap xs) [])) := by
  obtain ⟨h1, h2, h3, h4, h5⟩ := bnOk_in h
  obtain ⟨hJ, _, hcase⟩ := ruleX_some (ruleB_some hr).2.1
  have hl0 := ha.len
  have hn : n ≤ 10 := by omega
  have HX0 := Lib.hid h2
  have HX3 := Lib.hid h3
  have HA0 := Lib.hid ha
  obtain ⟨k0, hk0⟩ : ∃ k, byte0 s = k := ⟨_, rfl⟩
  rw [hk0] at hcase ⊢
  clear ha hr h h1 h2 h3 hk0

  obtain ⟨ys, hys⟩ : ∃ ys, ordB cap xs = ys := ⟨_, rfl⟩
  have hpm := ordB_perm cap xs
  rw [hys] at hpm
  have HYS : Hid (ordB cap xs = ys) := Lib.hid hys
  have HX : Hid (∀ x ∈ ys, 1 ≤ x ∧ x ≤ 60) := Lib.hid (fun x hx => HX0.out x (hpm.subset hx))
  have HX4 : Hid (∀ x ∈ ys, 0 < x ∧ x ≤ C) := Lib.hid (fun x hx => HX3.out x (hpm.subset hx))
  have hl : ys.length = n := hpm.length_eq.trans hl0
  have HNE : Hid (∀ k B, Pk.fill (rlOf J) C (ys.take k) [] = B → B.length ≤ 10) := Lib.hid (fun k B hB => by
    rw [← hB]
    have := fill_len (r := rlOf J) (C := C) (ys.take k) (fun y hy => HX4.out y (List.mem_of_mem_take hy))
    rw [List.length_take] at this
    omega)
  clear HX0 HX3 HX4 hl0 hpm
  go_enter Try.func37, Try.ntmps37
  go_upto_if 11 with fail
  go_cut [0, 2] from 11 to 16 (fun av rv_ wx => ∃ (A1 : Option Addr) (c1 : Nat), av = .slice A1 n c1 ∧ rv_ = .int .u8 (lb J) ∧ Hid (Rd wx wx.heap.size A1 n ys) ∧ Hid (Below w.heap.size w wx))
  case first =>
    cases cap with
    | false =>
      have hk3 : 97 ≤ k0 ∧ k0 ≤ 122 ∧ k0 = lb J := by
        rcases hcase with ⟨h, _⟩ | ⟨_, h⟩
        · cases h
        · exact h
      obtain ⟨hk1, hk2, hk3⟩ := hk3
      have dnl : decide (k0 < 97) = false := decide_eq_false (by omega)
      have hnl : ¬ k0 < 97 := by omega
      have hys2 : xs = ys := hys
      have HK := Lib.hid hk3
      rw [hys2] at HA0
      clear hcase hk3 hys hys2
      go_wp2_with fail
      go_meet
      exact ⟨A, c, rfl, by rw [HK.out], HA0, Lib.hid (Below.refl _ _)⟩
    | true =>
      have hk3 : 65 ≤ k0 ∧ k0 < 97 ∧ k0 + 32 = lb J := by
        rcases hcase with ⟨_, h⟩ | ⟨h, _⟩
        · exact h
        · cases h
      obtain ⟨hk1, hk2, hk4⟩ := hk3
      have dnl : decide (k0 < 97) = true := decide_eq_true hk2
      have wa : IntKind.u8.wrap (k0 + 97) = k0 + 97 := IntWalk.u8_in _ (by omega)
      have wb : IntKind.u8.wrap (k0 + 97 - 65) = lb J := by rw [show k0 + 97 - 65 = lb J by omega]; exact IntWalk.u8_in _ (by omega)
      have hys2 : Srt.dn xs = ys := hys
      have HDN := Lib.hid (l4Down_any A n c xs w HA0.out (by omega))
      rw [hys2] at HDN
      clear hcase hys hys2 hk4
      go_wp2_with fail
      refine HDN.out.mono ?_
      rintro e w1 ⟨A1, n1, c1, rfl, ho, hb⟩
      have hn1 : n = n1 := by rw [← ho.len, ← hl]
      subst hn1
      have R1 := Lib.hid ho.rd
      have B1 := Lib.hid hb
      clear ho hb
      go_wp2_with fail
      go_meet
      exact ⟨A1, c1, rfl, rfl, R1, B1⟩
  case rest =>
    obtain ⟨A1, c1, rfl, rfl, HA, HW1⟩ := hcut
    obtain ⟨w1, rfl⟩ : ∃ w1 : World, w1 = wc := ⟨_, rfl⟩
    have HOE : Hid (OwnF (w1.alloc (.cells #[] 22)) w1.heap.size (some ⟨w1.heap.size, 0, none⟩) 0 0 [] (Pk.fill (rlOf J) C (ys.take 0) [])) := Lib.hid (own_emptyF w1)
    have HB0 : Hid (Below w1.heap.size w1 (w1.alloc (.cells #[] 22))) := Lib.hid ((Below.refl _ _).alloc (Nat.le_refl _) _)
    clear hys hcase HA0
    go_wp2_with fail
    go_loopw [7, 8] (fun bv i wr => ∃ (k : Nat) (A1 : Option Addr) (m k1 : Nat) (fs : List Sl), k ≤ n ∧ i = .int .i64 k ∧ bv = .slice A1 m k1 ∧ Hid (OwnF wr w1.heap.size A1 m k1 fs (Pk.fill (rlOf J) C (ys.take k) [])) ∧ Hid (Below w1.heap.size w1 wr)) (fun _ i _ => n - (intOf i).toNat)
    case atStart => exact ⟨0, _, _, _, [], by omega, rfl, rfl, HOE, HB0⟩
    case round =>
      obtain ⟨k, A1, m, k1, fs, hk, rfl, rfl, HO, HB⟩ := hrel
      clear HOE HB0
      by_cases hlt : k < n
      · obtain ⟨b1, o1, rfl, hb1, hc1⟩ := HA.out.at_ hlt
        have g1 : wr.cell? ⟨b1, o1 + k, none⟩ = some (.int .i64 (ys.getD k 0)) := (HB.out.cell (p := ⟨b1, o1 + k, none⟩) hb1).trans (hc1 k hlt)
        obtain ⟨x, hx⟩ : ∃ x, ys.getD k 0 = x := ⟨_, rfl⟩
        rw [hx] at g1
        have hxin := HX.out x (by rw [← hx]; exact getD_mem (by omega))
        have HT := Lib.hid (show Pk.fill (rlOf J) C (ys.take (k + 1)) [] = Pk.put (Pk.fill (rlOf J) C (ys.take k) []) (Pk.where_ (rlOf J) C (Pk.fill (rlOf J) C (ys.take k) []) x) x from by rw [take_succ_getD (by omega), hx, Pk.fill_snoc])
        have hflp : (Pk.fill (rlOf J) C (ys.take k) []).flatten.Perm (ys.take k) := by simpa using Pk.fill_flat (r := rlOf J) (C := C) (ys.take k) []
        have htots := tots_of (C := C) hflp (fun y hy => HX.out y (List.mem_of_mem_take hy)) (by rw [List.length_take]; omega)
        have hfl := hflp.length_eq
        rw [List.length_take] at hfl
        obtain ⟨B, hB⟩ : ∃ B, Pk.fill (rlOf J) C (ys.take k) [] = B := ⟨_, rfl⟩
        rw [hB] at HO HT htots hfl
        have hfl2 : B.flatten.length ≤ 10 := by omega
        have HTS := Lib.hid htots
        have HFL := Lib.hid (fun (j : Nat) (hj : j < B.length) => Nat.le_trans (bin_len B j hj) hfl2)
        have hmB : B.length = m := HO.out.len
        have hm10 : m ≤ 1000 := by rw [← hmB]; exact Nat.le_trans (HNE.out k B hB) (by omega)
        have hbs := HB.out.size
        have i1 : (0 : Int) ≤ (k : Int) := by omega
        have i2 : (k : Int) < (n : Int) := by omega
        have i3 : ((k : Int)).toNat = k := by omega
        clear hc1 hx hflp htots hfl hB hfl2 hxin
        go_upto_block 1 with fail
        go_cut [7, 8, 9] from 18 to 56 (fun bv iv kv wx => iv = .int .i64 k ∧ ∃ (A2 : Option Addr) (m2 k2 : Nat) (fs' : List Sl), bv = .slice A2 m2 k2 ∧ Hid (OwnF wx w1.heap.size A2 m2 k2 fs' (Pk.fill (rlOf J) C (ys.take (k + 1)) [])) ∧ Hid (Below w1.heap.size w1 wx))
        case rest =>
          obtain ⟨rfl, A2, m2, k2, fs', rfl, HO', HB'⟩ := hcut
          clear HO HB HT HTS HFL g1
          go_wp2_with fail
          go_roundw
          case rel => exact ⟨k + 1, A2, m2, k2, fs', by omega, by go_num, rfl, HO', HB'⟩
          case measure => simp [intOf]; omega
        case first =>
        cases ho : Pk.where_ (rlOf J) C B x with
        | none =>
          have K : Hid (Calls Try.prog 42 #[.slice A1 m k1, .int .i64 C, .int .i64 x, .int .u8 (lb J)] wr (RetV wr (.int .i64 (-1)))) := Lib.hid (by
            have := l4Find_any J hJ A1 m k1 fs B C x wr (by omega) (by omega) HO.out.rdF HTS.out (by omega)
            rw [ho] at this
            exact this)
          rw [ho] at HT
          clear ho
          obtain ⟨z, hz⟩ : ∃ z : Int, z = -1 := ⟨_, rfl⟩
          rw [← hz] at K
          have z1 : z < 0 := by omega
          have d1 : decide (z < 0) = true := decide_eq_true z1
          clear hz
          go_wp2_with fail
          with_reducible refine K.out.mono ?_
          rintro e w' ⟨rfl, rfl⟩
          go_wp2_with (at_builtin; refine wpList_pushR rfl _ _ _ rfl Try.underlying23 rfl ((World.ownsRow.alloc (World.ownsRow.alloc HO.out.2.2.1 _) _)) rfl (r := .slice (some ⟨wr.heap.size, 0, none⟩) 1 1) rfl (by simp) (by omega) (by simp; omega) ?_; intro A' c' w' ho' hg' hb')
          have OL := Lib.hid ((own_lit wr w1.heap.size hbs [x] 1 rfl (by omega) (cs := #[.int .i64 x]) rfl (t := 3) rfl).alloc (.cells #[.slice (some ⟨wr.heap.size, 0, none⟩) 1 1] 22))
          have BL : Hid (Below wr.heap.size wr ((wr.alloc (.cells #[.int .i64 x] 3)).alloc (.cells #[.slice (some ⟨wr.heap.size, 0, none⟩) 1 1] 22))) := Lib.hid (((Below.refl _ _).alloc (Nat.le_refl _) _).alloc (by simp) _)
          have S := Lib.hid (HO.out.push BL.out hbs OL.out (fun g e => by injection e with e; subst e; exact Nat.le_refl _) hg' ho' hb')
          have S2 := Lib.hid ((HB.out.trans (BL.out.mono hbs)).grown hg' (by simp; omega) (fun a e => (HO.out.outer_lt a e).1))
          have HT2 : Hid (Pk.fill (rlOf J) C (ys.take (k + 1)) [] = B ++ [[x]]) := Lib.hid HT.out
          clear ho' hg' hb' HT HO HB OL BL K g1
          go_meet
          exact ⟨rfl, A', m + 1, c', _, rfl, Lib.hid (by rw [HT2.out]; exact S.out), S2⟩
        | some j =>
          have hj := Pk.where_lt ho
          have K : Hid (Calls Try.prog 42 #[.slice A1 m k1, .int .i64 C, .int .i64 x, .int .u8 (lb J)] wr (RetV wr (.int .i64 (j : Int)))) := Lib.hid (by
            have := l4Find_any J hJ A1 m k1 fs B C x wr (by omega) (by omega) HO.out.rdF HTS.out (by omega)
            rw [ho] at this
            exact this)
          rw [ho] at HT
          have z1 : ¬ (j : Int) < 0 := by omega
          have d1 : decide ((j : Int) < 0) = false := decide_eq_false z1
          have z2 : (0 : Int) ≤ (j : Int) := by omega
          have z3 : (j : Int) < (m : Int) := by omega
          have z4 : ((j : Int)).toNat = j := by omega
          obtain ⟨gB, rfl, hgB1, hgB2⟩ := HO.out.form (by omega)
          have c0 := HO.out.cell (j := j) (by omega)
          have f0 := HO.out.free j
          have row := HO.out.row (j := j) (by omega)
          obtain ⟨⟨Aj, nj, cj⟩, hf⟩ : ∃ s, fs.getD j slNil = s := ⟨_, rfl⟩
          rw [hf] at c0 row
          have c0_ : wr.cell? ⟨gB, j, none⟩ = some (.slice Aj nj cj) := c0
          have R1 : Hid (Rd wr wr.heap.size Aj nj (B.getD j [])) := Lib.hid row.rd
          clear c0 row
          have c0 := c0_
          clear c0_
          have hnj : nj ≤ 10 := by
            have h1 := R1.out.len
            have h2 := HFL.out j hj
            omega
          have hneb : gB ≠ b1 := by omega
          have hb1r : b1 < wr.heap.size := by omega
          have X0 := Lib.hid g1
          have C0 := Lib.hid c0
          have F0 := Lib.hid f0
          clear hf ho
          have KF := K
          have HT2 : Hid (Pk.fill (rlOf J) C (ys.take (k + 1)) [] = B.set j (B.getD j [] ++ [x])) := Lib.hid HT.out
          clear HT K HTS HFL HNE
          go_wp2_with fail
          with_reducible refine KF.out.mono ?_
          rintro e w' ⟨rfl, rfl⟩
          go_wp2_with fail
          go_region_law (first
              | (refine step_app (by rfl) _ _ _ (by rfl) Try.underlying22 wr (by first | exact Below.alloc (Below.refl _ _) (Nat.le_refl _) _ | exact below_drw (Below.alloc (Below.refl _ _) (Nat.le_refl _) _) | exact Below.alloc (Below.alloc (Below.refl _ _) (Nat.le_refl _) _) (by simp) _ | exact below_drw (Below.alloc (Below.alloc (Below.refl _ _) (Nat.le_refl _) _) (by simp) _)) _ _ _ _ (by exact rfl) (by first | exact own_emptyN (by rfl) (by simp) (by simp) | exact Own.drewN (own_emptyN (by rfl) (by simp) (by simp)) 1 | exact Own.drewN (Own.alloc (own_emptyN (by rfl) (by simp) (by simp)) _) 1) _ _ _ _ (by exact rfl) _ (by exact R1.out.below (by first | exact Below.alloc (Below.refl _ _) (Nat.le_refl _) _ | exact below_drw (Below.alloc (Below.refl _ _) (Nat.le_refl _) _) | exact Below.alloc (Below.alloc (Below.refl _ _) (Nat.le_refl _) _) (by simp) _ | exact below_drw (Below.alloc (Below.alloc (Below.refl _ _) (Nat.le_refl _) _) (by simp) _))) (by omega) ?_
                 intro A1 cA wA hA hgA hbA
                 simp only [Nat.zero_add, List.nil_append] at hA ⊢
                 have xA0 := (hbA.cell (p := ⟨b1, o1 + k, none⟩) hb1r).trans X0.out)
              | (refine step_app (by rfl) _ _ _ (by rfl) Try.underlying22 wr (by first | exact hbA | exact hbA.alloc hbA.size _) _ _ _ _ (by exact rfl) (by first | exact hA | exact hA.alloc _) _ _ _ _ (by exact rfl) _ (by first | exact rd_cell (by simp; rfl) | exact rd_cell (by rw [hgA.cell_far _ (by simp <;> omega) (by simp [blk])]; simp; rfl)) (by omega) ?_
                 intro A2 cB wB hB hgB hbB
                 have cB0 := (hbB.cell (p := ⟨gB, j, none⟩) hgB2).trans C0.out
                 have fB0 := (hbB.frozen (p := ⟨gB, j, none⟩) hgB2).trans F0.out))
          all_goals
            go_wp2_with fail
            go_meet
            exact ⟨rfl, some ⟨gB, 0, none⟩, m, k1, fs.set j (A2, nj + 1, cB), rfl, Lib.hid (by rw [HT2.out]; exact HO.out.setRow (by omega) hbs hbB hB), Lib.hid ((HB.out.trans (hbB.mono hbs)).grown (setCell_grownI wB gB j (.slice A2 (nj + 1) cB)) (Nat.le_trans hbs hbB.size) (fun a e => by injection e with e; subst e; exact hgB1))⟩
      · have hkn : k = n := by omega
        subst hkn
        rw [List.take_of_length_le (by omega)] at HO
        go_wp2_with fail
        go_ret
        exact ⟨A1, m, k1, fs, rfl, by rw [HYS.out]; exact HO.out.mono HW1.out.size, HW1.out.trans (HB.out.mono HW1.out.size)⟩
end Go.Proofs.Ytbihdajoflaknaa
