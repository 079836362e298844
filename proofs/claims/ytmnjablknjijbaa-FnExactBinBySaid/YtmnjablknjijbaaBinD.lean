
/- impl.BinBy; marks written into slices of slices. -/
import Derived.Test.YtmnjablknjijbaaLibS
import Derived.Test.YtmnjablknjijbaaSpecB
import Derived.Test.YtmnjablknjijbaaCloneA
namespace Go.Proofs.Ytmnjablknjijbaa
set_option linter.unusedVariables false
open Go.RowKit
theorem OwnF.markRow {w w' : World} {base n c k : Nat} {A : Option Addr} {fs : List Sl} {yss : List (List Int)} {ys : List Int} (h : OwnF w base A n c fs yss) (hk : k < n) (hg : w.grownBy w' (blk (fs.getD k slNil).1)) (ho : Own w' base (fs.getD k slNil).1 (fs.getD k slNil).2.1 (fs.getD k slNil).2.2 ys) : OwnF w' base A n c fs (yss.set k ys) := by
  obtain ⟨h1, h2, h3, h4, h5, h6⟩ := h
  have ap : ∀ i, i < n → i ≠ k → blk (fs.getD i slNil).1 = none ∨ blk (fs.getD i slNil).1 ≠ blk (fs.getD k slNil).1 := fun i hi hne => by
    rcases Nat.lt_or_ge i k with h | h
    · exact h6 i k h hk
    · exact ap_symm (h6 k i (by omega) hi)
  have yk : ∀ j, (yss.set k ys).getD j [] = if k = j then ys else yss.getD j [] := fun j => by
    by_cases e : k = j
    · subst e; simp [List.getD, h2, hk]
    · simp [List.getD, e]
  refine ⟨h1, by simp [h2], World.ownsRow.kept h3 hg ?_, fun j hj => ?_, h5, h6⟩
  · have := ap_symm (h5 k hk)
    cases A with
    | none => exact .inl rfl
    | some a => simpa [Value.ownBlock, blk] using this
  · rw [yk]
    by_cases e : k = j
    · subst e; rw [if_pos rfl]; exact ho
    · rw [if_neg e]; exact (h4 j hj).grown hg (ap j hj (Ne.symm e))
theorem take_set_drop {M B : List (List Int)} {k : Nat} (hl : M.length = B.length) (hk : k < B.length) : (M.take k ++ B.drop k).set k (M.getD k []) = M.take (k + 1) ++ B.drop (k + 1) := by
  rw [List.set_append_right _ _ (by simp; omega), List.drop_eq_getElem_cons hk]
  have e : k - (M.take k).length = 0 := by simp; omega
  rw [e, List.set_cons_zero, List.take_succ_eq_append_getElem (by omega), List.append_assoc]
  simp [List.getD, show k < M.length by omega]
theorem getD_take_drop {M B : List (List Int)} {k : Nat} (hl : M.length = B.length) (hk : k < B.length) : (M.take k ++ B.drop k).getD k [] = B.getD k [] := by
  have e : (M.take k).length = k := by simp; omega
  simp only [List.getD]
  rw [List.getElem?_append_right (by omega), e, Nat.sub_self, List.getElem?_drop, Nat.add_zero]
/-- What the marks hand back. -/
def MarkF (w : World) (base : Nat) (A : Option Addr) (n c : Nat) (fs : List Sl) (B : List (List Int)) (k0 : Int) (e : Ending) (w' : World) : Prop := e = .returned (.int .i64 (k0 + B.flatten.length)) ∧ OwnF w' base A n c fs (marks k0 B) ∧ Below base w w'
set_option maxHeartbeats 1600000 in
theorem markIntSS_any (base : Nat) (A : Option Addr) (n c : Nat) (fs : List Sl) (B : List (List Int)) (k0 : Int) (w : World) (h : OwnF w base A n c fs B) (hbase : base ≤ w.heap.size) (hn : n ≤ 1000000) (h0 : 0 ≤ k0) (h1 : k0 ≤ 1000000) (ht : B.flatten.length ≤ 1000000) :
    Calls Try.prog 32 #[.slice A n c, .int .i64 k0] w (MarkF w base A n c fs B k0) := by
  have hBl := h.len
  have hup : ∀ k, upTo B k ≤ B.flatten.length := fun k => by
    unfold upTo
    have : (B.take k).flatten.length + (B.drop k).flatten.length = B.flatten.length := by rw [← List.length_append, ← List.flatten_append, List.take_append_drop]
    omega
  have HUP := Lib.hid hup
  have H0 := Lib.hid h
  clear h hup
  go_enter Try.func32, Try.ntmps32
  go_wp2_with fail
  go_loopw [1, 5] (fun m i wr => ∃ k : Nat, k ≤ n ∧ i = .int .i64 k ∧ m = .int .i64 (k0 + (upTo B k : Nat)) ∧ Hid (OwnF wr base A n c fs ((marks k0 B).take k ++ B.drop k)) ∧ Hid (Below base w wr)) (fun _ i _ => n - (intOf i).toNat)
  case atStart => exact ⟨0, by omega, rfl, by simp [upTo], by simpa using H0, Lib.hid (Below.refl _ _)⟩
  case round =>
    obtain ⟨k, hk, rfl, rfl, HO, HB⟩ := hrel
    clear H0
    by_cases hlt : k < n
    · have R1 := HO.out.rdF
      obtain ⟨b1, o1, rfl, _, hc1⟩ := R1.2.1 (by omega)
      have g1 := hc1 k hlt
      have row := HO.out.row hlt
      rw [getD_take_drop (marks_len k0 B) (by omega)] at row
      have hus := upTo_succ (B := B) (k := k) (by omega)
      have hu1 := HUP.out k
      have hu2 := HUP.out (k + 1)
      have hmg := marks_get k0 B k (by omega)
      have hnk : (B.getD k []).length = (fs.getD k slNil).2.1 := row.len
      rw [hnk] at hmg hus
      obtain ⟨u, hu⟩ : ∃ u, upTo B k = u := ⟨_, rfl⟩
      rw [hu] at hmg hus hu1
      have STEP : Hid (∀ w', Own w' base (fs.getD k slNil).1 (fs.getD k slNil).2.1 (fs.getD k slNil).2.2 (iota (k0 + (u : Nat)) (fs.getD k slNil).2.1) → wr.grownBy w' (blk (fs.getD k slNil).1) → OwnF w' base (some ⟨b1, o1, none⟩) n c fs ((marks k0 B).take (k + 1) ++ B.drop (k + 1)) ∧ Below base w w') := Lib.hid (fun w' ow hg => by
        refine ⟨?_, HB.out.grown hg (Nat.le_trans hbase HB.out.size) (fun g e => (row.lt g e).1)⟩
        have := HO.out.markRow hlt hg ow
        rw [← hmg, take_set_drop (marks_len k0 B) (by omega)] at this
        exact this)
      obtain ⟨⟨Ak, nk, ck⟩, hf⟩ : ∃ s, fs.getD k slNil = s := ⟨_, rfl⟩
      rw [hf] at g1 row STEP hus hmg
      have g1_ : wr.cell? ⟨b1, o1 + k, none⟩ = some (.slice Ak nk ck) := g1
      have hnk2 : nk ≤ 1000000 := by
        have : upTo B (k + 1) = u + nk := hus
        omega
      have K := Lib.hid (markIntS_any base Ak nk ck (B.getD k []) (k0 + (u : Nat)) wr row (by omega) (by omega) (by omega))
      have HUS : Hid (upTo B (k + 1) = u + nk) := Lib.hid hus
      have ST : Hid (∀ w', Own w' base Ak nk ck (iota (k0 + (u : Nat)) nk) → wr.grownBy w' (blk Ak) → OwnF w' base (some ⟨b1, o1, none⟩) n c fs ((marks k0 B).take (k + 1) ++ B.drop (k + 1)) ∧ Below base w w') := Lib.hid STEP.out
      have hun : u + nk ≤ 1000000 := by rw [HUS.out] at hu2; omega
      have i1 : (0 : Int) ≤ (k : Int) := by omega
      have i2 : (k : Int) < (n : Int) := by omega
      have i3 : ((k : Int)).toNat = k := by omega
      rw [hu]
      clear hc1 hf R1 g1 row hnk hu STEP hmg hus hu2
      go_wp2_with fail
      with_reducible refine K.out.mono ?_
      rintro e w2 ⟨rfl, ow, hg⟩
      obtain ⟨s1, s2⟩ := ST.out w2 ow hg
      have S1 := Lib.hid s1
      have S2 := Lib.hid s2
      clear ow hg s1 s2 ST K
      go_wp2_with fail
      go_roundw
      case rel => exact ⟨k + 1, by omega, by go_num, by rw [HUS.out]; go_num, S1, S2⟩
      case measure => simp [intOf]; omega
    · have e : k = n := by omega
      subst e
      have e2 : upTo B k = B.flatten.length := by unfold upTo; rw [List.take_of_length_le (by omega)]
      have HE := Lib.hid e2
      have HO2 := Lib.hid HO.out
      rw [List.take_of_length_le (by rw [marks_len]; omega), List.drop_of_length_le (by omega), List.append_nil] at HO2
      clear e2 HO
      go_wp2_with fail
      go_ret
      exact ⟨ret_int (by rw [HE.out]), HO2.out, HB.out⟩
set_option maxHeartbeats 800000 in
theorem implBinBy_no (A : Option Addr) (n c : Nat) (xs : List Int) (C : Int) (s : ByteArray) (w : World) (ha : Rd w w.heap.size A n xs) (hn : n ≤ 1000000000) (h : bkOk xs C s = false) :
    Calls Try.prog 31 #[.slice A n c, .int .i64 C, .string s] w (RetFB w [] false) := by
  have HF := Lib.hid (fill_no A n c xs C s w ha hn (bkOk_false h))
  go_enter Try.func31, Try.ntmps31
  go_wp2_with fail
  refine HF.out.mono ?_
  rintro e w2 ⟨rfl, hb⟩
  have HB := Lib.hid hb
  clear hb
  go_wp2_with fail
  go_ret2
  exact ⟨_, _, _, [], rfl, (own_emptyF w2).mono HB.out.size, HB.out.alloc HB.out.size _⟩
set_option maxHeartbeats 1600000 in
theorem implBinBy_yes (A : Option Addr) (n c : Nat) (xs : List Int) (C : Int) (s : ByteArray) (w : World) (ha : Rd w w.heap.size A n xs) (h : bkOk xs C s = true) :
    Calls Try.prog 31 #[.slice A n c, .int .i64 C, .string s] w (RetFB w (binsF xs C s) true) := by
  obtain ⟨h1, J, cap, hr, hJ, hBF⟩ := bkOk_true h
  have hle := (binsF_in h).2.1
  have hpm := (binsF_in h).1.length_eq
  have hl10 := (bnOk_in h1).1
  have HF := Lib.hid (fill_any A n c xs C s J cap w ha hr h1)
  rw [← hBF] at HF
  obtain ⟨B, hB⟩ : ∃ B, binsF xs C s = B := ⟨_, rfl⟩
  rw [hB] at HF hle hpm ⊢
  have HLB := Lib.hid (fun (j : Nat) (hj : j < B.length) => Nat.le_trans (bin_len B j hj) (show B.flatten.length ≤ 10 by omega))
  clear h h1 hr hBF hB ha hpm hl10
  go_enter Try.func31, Try.ntmps31
  go_wp2_with fail
  refine HF.out.mono ?_
  rintro e w1 ⟨gs, fs, rfl, hn, hb⟩
  have HN := Lib.hid hn
  have HB := Lib.hid hb
  have HO0 := Lib.hid (own_emptyF w1)
  have HB0 : Hid (Below w1.heap.size w1 (w1.alloc (.cells #[] 22))) := Lib.hid ((Below.refl _ _).alloc (Nat.le_refl _) _)
  clear hn hb HF
  go_wp2_with fail
  go_loopg [10, 11] B.length (fun m out b wr => ∃ (k : Nat) (A1 : Option Addr) (k1 : Nat) (hs : List Sl), k + m = B.length ∧ out = .slice A1 k k1 ∧ b = .pointer (nxt gs k) ∧ Hid (OwnF wr w1.heap.size A1 k k1 hs (B.take k)) ∧ Hid (Below w1.heap.size w1 wr))
  case atStart => exact ⟨0, _, _, [], by omega, rfl, rfl, HO0, HB0⟩
  case round =>
    obtain ⟨k, A1, k1, hs, hk, rfl, rfl, HO, HW⟩ := hrel
    clear HO0 HB0
    by_cases hlt : k < B.length
    · have HN2 := Lib.hid (HN.out.below HW.out)
      have n1 := nxt_lt (gs := gs) (k := k) (by rw [HN.out.lg]; exact hlt)
      have c0 := HN2.out.c0 k hlt
      have c2 := HN2.out.c2 k hlt
      have row := (HN2.out.row k hlt).rd
      have hrl := HLB.out k hlt
      rw [n1]
      obtain ⟨g, hg⟩ : ∃ g, gs.getD k 0 = g := ⟨_, rfl⟩
      obtain ⟨nx, hnx⟩ : ∃ nx, nxt gs (k + 1) = nx := ⟨_, rfl⟩
      obtain ⟨⟨Ak, nk, ck⟩, hf⟩ : ∃ s, fs.getD k slNil = s := ⟨_, rfl⟩
      rw [hg] at c0 c2
      rw [hnx] at c2
      rw [hf] at c0 row
      rw [hg]
      have HNX := Lib.hid hnx
      have hgl : g < wr.heap.size := hg ▸ HN2.out.lt hlt
      have hgl1 : g < w1.heap.size := hg ▸ HN.out.lt hlt
      have c0_ : wr.cell? ⟨g, 0, none⟩ = some (.slice Ak nk ck) := c0
      have RW : Hid (Rd wr wr.heap.size Ak nk (B.getD k [])) := Lib.hid row
      have hnk : nk ≤ 10 := by have := RW.out.len; omega
      have HTK := Lib.hid (show B.take (k + 1) = B.take k ++ [B.getD k []] from by rw [List.take_succ_eq_append_getElem hlt]; simp [List.getD, hlt])
      have hbs := HW.out.size
      have C2 := Lib.hid c2
      clear hg hnx n1 hf c0 row c2
      have K := Lib.hid (clone_any Ak nk ck (B.getD k []) wr RW.out (by omega))
      go_wp2_with fail
      with_reducible refine K.out.mono ?_
      rintro e w2 ⟨A2, n2, k2, rfl, ho, hb⟩
      have OO := Lib.hid ho
      have BB2 := Lib.hid hb
      have c2 := (hb.cell (p := ⟨g, 2, none⟩) hgl).trans C2.out
      have hs2 := hb.size
      have HW2 := Lib.hid (HW.out.trans (hb.mono hbs))
      have HOR : Hid ((w2.alloc (.cells #[.slice A2 n2 k2] 22)).ownsRow w1.heap.size 22 1 (.slice A1 k k1) k (hs.map slv)) := Lib.hid (World.ownsRow.alloc (HO.out.below hb).2.2.1 _)
      have NB := Lib.hid (show some g ≠ blk A1 from fun e => by have := (HO.out.outer_lt g e.symm).1; omega)
      clear ho hb K
      go_wp2_with (at_builtin; refine wpList_pushR rfl _ _ _ rfl Try.underlying32 rfl HOR.out rfl (r := .slice A2 n2 k2) rfl (by simp) (by omega) (by simp; omega) ?_; intro A' c' w' ho' hg' hb'; have c2' := hg'.cell ((World.cell?_alloc_lt _ _ ⟨g, 2, none⟩ (Nat.lt_of_lt_of_le hgl hs2)).trans c2) NB.out)
      have OA := Lib.hid ((OO.out.mono hbs).alloc (.cells #[.slice A2 n2 k2] 22))
      have BA : Hid (Below wr.heap.size wr (w2.alloc (.cells #[.slice A2 n2 k2] 22))) := Lib.hid (BB2.out.alloc hs2 _)
      have S := Lib.hid (HO.out.push BA.out hbs OA.out (fun a e => (OO.out.lt a e).1) hg' ho' (by rcases hb' with h | ⟨a, h, h2⟩; exact .inl h; exact .inr ⟨a, h, h2⟩))
      rw [← HTK.out] at S
      have S2 := Lib.hid ((HW2.out.alloc (by omega) (.cells #[.slice A2 n2 k2] 22)).grown hg' (by simp; omega) (fun a e => (HO.out.outer_lt a e).1))
      clear ho' hg' hb' c2 c2'
      go_roundg (B.length - (k + 1))
      case measure => omega
      case rel => exact ⟨k + 1, A', c', _, by omega, rfl, by rw [HNX.out], S, S2⟩
    · have e : k = B.length := by omega
      have ne := nxt_end (gs := gs) (k := k) (by rw [HN.out.lg]; omega)
      rw [ne]
      have HO2 := Lib.hid HO.out
      rw [List.take_of_length_le (by omega)] at HO2
      clear hlt HO
      go_wp2_with fail
      go_ret2
      exact ⟨A1, k, k1, hs, rfl, HO2.out.mono HB.out.size, HB.out.trans (HW.out.mono HB.out.size)⟩
end Go.Proofs.Ytmnjablknjijbaa
