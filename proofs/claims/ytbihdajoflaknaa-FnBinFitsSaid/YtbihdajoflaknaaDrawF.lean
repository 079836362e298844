
/- spec.DrawBinFits. -/
import Derived.Test.YtbihdajoflaknaaDrawC
import Derived.Test.YtbihdajoflaknaaSpecB
import Derived.Test.YtbihdajoflaknaaRowsApp
import Derived.Test.YtbihdajoflaknaaSlices
import Derived.Deep.RegionHeld3
namespace Go.Proofs.Ytbihdajoflaknaa
set_option linter.unusedVariables false
open Go.RowKit
theorem bel_al {a w : World} (h : Below a.heap.size a w) (o : Obj) : Below a.heap.size a (w.alloc o) := h.alloc h.size o
/-- The reader is put to a place. -/
theorem rdr_put {w : World} {g p : Nat} (h : Rdr w g p) (q : Nat) : Rdr (w.setCell ⟨g, 1, none⟩ (.int .i64 q)) g q ∧ w.grownBy (w.setCell ⟨g, 1, none⟩ (.int .i64 q)) (some g) := by
  obtain ⟨A, n, c, bs, h1, h2, h3⟩ := h
  refine ⟨⟨A, n, c, bs, ?_, h2.kept fun b hb => Below.heap_setCell _ _ _ _ (by show b ≠ g; omega), h3⟩, ⟨rfl, rfl, rfl, by simp, fun k _ hk => Below.heap_setCell _ _ _ _ (fun e => hk (by rw [e]))⟩⟩
  have := heap_setCell_same w g 1 _ _ (.int .i64 (q : Int)) h1
  simpa using this
theorem rdr_cells {w : World} {g p : Nat} (h : Rdr w g p) : w.cell? ⟨g, 1, none⟩ = some (.int .i64 p) ∧ w.frozen? ⟨g, 1, none⟩ = false := by
  obtain ⟨A, n, c, bs, h1, _, _⟩ := h
  exact ⟨cell_of_row w g 1 _ _ (0, 0) h1, frozen_of_row w g 1 _ _ h1⟩
/-- A list, a size and bins are drawn. -/
def RetDF (w : World) (e : Ending) (w' : World) : Prop :=
  ∃ (A : Option Addr) (n c : Nat) (xs : List Int) (v : Int) (A' : Option Addr) (n' c' : Nat) (fs : List Sl) (B : List (List Int)), e = .returned (.tuple #[.slice A n c, .int .i64 v, .slice A' n' c']) ∧
    Rd w' w'.heap.size A n xs ∧ n ≤ 22 ∧ RdF w' A' n' fs B ∧ n' ≤ 20 ∧ B.flatten.length ≤ 100 ∧ Below w.heap.size w w'
/-- One row that is a list that lay. -/
theorem rdF_one {w : World} {A : Option Addr} {n c N : Nat} {xs : List Int} {t : TypeId} (h : Rd w w.heap.size A n xs) (hN : N = w.heap.size) : RdF (w.alloc (.cells #[.slice A n c] t)) (some ⟨N, 0, none⟩) 1 [(A, n, c)] [xs] := by
  subst hN
  refine ⟨rfl, fun _ => ⟨w.heap.size, 0, rfl, by simp, fun j hj => ?_⟩, fun j hj => ?_⟩
  · obtain rfl : j = 0 := by omega
    simp
  · obtain rfl : j = 0 := by omega
    exact (h.below ((Below.refl _ _).alloc (Nat.le_refl _) _)).lt
/-- The rows from the third on. -/
theorem rdV_drop {w : World} {base g n c : Nat} {fs : List Sl} {B : List (List Int)} (h : OwnF w base (some ⟨g, 0, none⟩) n c fs B) (hn : 2 ≤ n) : RdV w w.heap.size (if c = 2 then some ⟨g, 0, none⟩ else some ⟨g, 2, none⟩) (n - 2) ((fs.drop 2).map slv) := by
  obtain ⟨m, rfl⟩ : ∃ m, n = m + 2 := ⟨n - 2, by omega⟩
  rw [Nat.add_sub_cancel]
  have hl := h.1
  have hg := (h.outer_lt g rfl).2
  have hcap := h.cap.1
  refine ⟨by simp [hl], fun v hv => ?_, fun hm => ⟨g, 2, by rw [if_neg (by omega)], hg, fun j u hu => ?_⟩⟩
  · obtain ⟨s, _, rfl⟩ := List.mem_map.1 hv
    rfl
  · have hj : j < m := by
      have := (List.getElem?_eq_some_iff.1 hu).1
      simp at this
      omega
    rw [h.cell (show 2 + j < m + 2 by omega)]
    have hj2 : 2 + j < fs.length := by omega
    simp [hj2] at hu
    simp [List.getD, hj2, ← hu, slv]
/-- Rows told by an own slice of values. -/
theorem rdF_last {W w : World} {base m n c k nI cI : Nat} {g : Nat} {A AI : Option Addr} {fs : List Sl} {B : List (List Int)} {ys : List Int} (hF : OwnF W base (some ⟨g, 0, none⟩) n k fs B) (hm : n = m + 2) (hb : Below W.heap.size W w)
    (hR : OwnV w W.heap.size 22 A (m + 1) c ((fs.drop 2).map slv ++ [.slice AI nI cI])) (hI : OwnV w W.heap.size 3 AI nI cI (ints ys)) : RdF w A (m + 1) (fs.drop 2 ++ [(AI, nI, cI)]) (B.drop 2 ++ [ys]) := by
  subst hm
  have hl := hF.1
  have hBl := hF.len
  have hRR : 0 < c ∧ w.ownsRow W.heap.size 22 1 (.slice A (m + 1) c) (m + 1) ((fs.drop 2).map slv ++ [.slice AI nI cI]) := by
    rcases hR.2 with h | h
    · omega
    · exact h
  obtain ⟨h0, hro⟩ := hRR
  obtain ⟨gR, rfl, _, hgR⟩ := hR.lt h0
  refine ⟨by simp [hBl], fun _ => ⟨gR, 0, rfl, hgR, fun j hj => ?_⟩, fun j hj => ?_⟩
  · rw [Nat.zero_add, World.ownsRow.cellAt hro j (by omega)]
    by_cases e : j < m
    · rw [getD_snoc_lt (by simp [hl]; omega), List.getElem?_append_left (by simp [hl]; omega)]
      have hj2 : 2 + j < fs.length := by omega
      simp [List.getD, hj2, slv]
    · have e2 : j = m := by omega
      subst e2
      rw [getD_snoc_end (by simp [hl]), List.getElem?_append_right (by simp [hl])]
      simp [hl]
  · by_cases e : j < m
    · rw [getD_snoc_lt (by simp [hl]; omega), getD_snoc_lt (by simp [hBl]; omega)]
      have hj2 : 2 + j < fs.length := by omega
      have hj3 : 2 + j < B.length := by omega
      have := ((hF.row (show 2 + j < m + 2 by omega)).rd.below hb).lt
      simpa [List.getD, hj2, hj3] using this
    · have e2 : j = m := by omega
      subst e2
      rw [getD_snoc_end (by simp [hl]), getD_snoc_end (by simp [hBl])]
      have hli := hI.1
      simp at hli
      rcases hI.2 with ⟨_, h⟩ | ⟨_, h⟩
      · have hy : ys = [] := List.eq_nil_of_length_eq_zero (by omega)
        subst hy
        have hn0 : nI = 0 := h
        subst hn0
        exact Rd.nil _ _ _
      · exact Own.rd h
set_option maxRecDepth 100000 in
set_option maxHeartbeats 6400000 in
theorem drawBinFits_any (A0 : Option Addr) (n0 c0 : Nat) (bs : List Int) (w : World) (h : Rb w w.heap.size A0 n0 bs) (hnc : n0 ≤ c0) :
    Calls Try.prog 12 #[.slice A0 n0 c0] w (RetDF w) := by
  have HC := Lib.hid h
  clear h
  go_enter Try.func12, Try.ntmps12
  go_wp2_with fail
  refine (l91Rule_any _ _ _ _ _ HC.out hnc).mono ?_
  rintro e w1 ⟨A, n, c, xs, v, s, rfl, ho, hn, hsn, hb⟩
  have hn2 : n ≤ 22 := hn
  have HA := Lib.hid ho.rd
  have BB := Lib.hid hb
  have hbk : ∃ b, bkOk xs v s = b := ⟨_, rfl⟩
  obtain ⟨b, hbk⟩ := hbk
  have K := Lib.hid (specBinBy_any A n c xs v s w1 HA.out (by omega) b hbk)
  have hBB : ((if b then binsF xs v s else []) : List (List Int)).length ≤ 10 ∧ ((if b then binsF xs v s else []) : List (List Int)).flatten.length ≤ 10 := by
    cases b with
    | false => exact ⟨by simp, by simp⟩
    | true =>
      obtain ⟨p1, p2, p3⟩ := binsF_in hbk
      have h10 := (bnOk_in (bkOk_true hbk).1).1
      have := p1.length_eq
      rw [if_pos rfl]
      exact ⟨by omega, by omega⟩
  generalize (if b then binsF xs v s else []) = B at K hBB
  obtain ⟨hB1, hB2⟩ := hBB
  clear ho hb hsn hbk hn
  have KO : Hid (∀ w2 : World, Below w1.heap.size w1 w2 → Calls Try.prog 25 #[.slice A0 n0 c0] w2 (RetRdr w2)) := Lib.hid fun w2 hb => l6Open_any _ _ _ _ _ ((HC.out.below (BB.out.trans (hb.mono BB.out.size))).mono (Nat.le_trans BB.out.size hb.size)) hnc
  clear HC
  cases b with
  | false =>
    go_wp2_with fail
    refine K.out.mono ?_
    rintro e w2 ⟨AB, nB, cB, fs, rfl, ho, hb⟩
    have O3 := Lib.hid (KO.out w2 hb)
    have HA2 := Lib.hid (HA.out.below hb).lt
    have B2 := Lib.hid (BB.out.trans (hb.mono BB.out.size))
    clear ho hb HA BB K KO
    go_wp2_with fail
    refine O3.out.mono ?_
    rintro e w3 ⟨g, rfl, hr, hg, hb⟩
    obtain ⟨q1, q2⟩ := rdr_cells hr
    have P : Hid (Rdr (w3.setCell ⟨g, 1, none⟩ (.int .i64 61)) g 61 ∧ w3.grownBy (w3.setCell ⟨g, 1, none⟩ (.int .i64 61)) (some g)) := Lib.hid (rdr_put hr 61)
    have BX := Lib.hid (hb.trans (show Below w2.heap.size w3 (w3.setCell ⟨g, 1, none⟩ (.int .i64 61)) from (Below.refl _ _).grown P.out.2 hb.size (fun x e => by cases e; exact hg)))
    have HA3 := Lib.hid (HA2.out.below BX.out).lt
    have B3 := Lib.hid (B2.out.trans (BX.out.mono B2.out.size))
    clear hr hb P BX HA2 hg O3 B2
    go_wp2_with fail
    go_ret3
    exact ⟨A, n, c, xs, v, _, 1, _, [(A, n, c)], [xs], rfl, (HA3.out.below ((Below.refl _ _).alloc (Nat.le_refl _) _)).lt, hn2, rdF_one HA3.out (by simp), by omega, by have := HA3.out.len; simp; omega, B3.out.alloc B3.out.size _⟩
  | true =>
    by_cases hlen : 1 < B.length
    · go_wp2_with fail
      refine K.out.mono ?_
      rintro e w2 ⟨AB, nB, cB, fs, rfl, ho, hb⟩
      have hBm := ho.len
      obtain ⟨gB, rfl, hgB1, hgB2⟩ := ho.form (by omega)
      have HF2 := Lib.hid ho
      have O3 := Lib.hid (KO.out w2 hb)
      have HA2 := Lib.hid (HA.out.below hb).lt
      have B2 := Lib.hid (BB.out.trans (hb.mono BB.out.size))
      clear ho hb HA BB K KO hgB1
      go_wp2_with fail
      refine O3.out.mono ?_
      rintro e w3 ⟨g, rfl, hr, hg, hb⟩
      obtain ⟨q1, q2⟩ := rdr_cells hr
      have P : Hid (Rdr (w3.setCell ⟨g, 1, none⟩ (.int .i64 61)) g 61 ∧ w3.grownBy (w3.setCell ⟨g, 1, none⟩ (.int .i64 61)) (some g)) := Lib.hid (rdr_put hr 61)
      have BX := Lib.hid (hb.trans (show Below w2.heap.size w3 (w3.setCell ⟨g, 1, none⟩ (.int .i64 61)) from (Below.refl _ _).grown P.out.2 hb.size (fun x e => by cases e; exact hg)))
      have R3 := Lib.hid P.out.1
      have HG := Lib.hid hg
      clear hr hb P hg O3
      go_wp2_with fail
      refine (pick_any g 61 4 _ R3.out (by omega) (by omega)).mono ?_
      rintro e w5 ⟨y, rfl, y0, y1, _, r5, g5⟩
      have y2 := y1 (by omega)
      have B5w := Lib.hid (BX.out.grown g5 BX.out.size (fun x e => by cases e; exact HG.out))
      have HF5 := Lib.hid (HF2.out.below B5w.out)
      have HA5 := Lib.hid (HA2.out.below B5w.out).lt
      have B5 := Lib.hid (B2.out.trans (B5w.out.mono B2.out.size))
      have hgB5 : gB < w5.heap.size := Nat.lt_of_lt_of_le hgB2 B5w.out.size
      clear r5 g5 BX R3 HG q1 q2 HF2 HA2 B2 y1 B5w
      by_cases hy : y = 0
      · have dy : (y == 0) = true := by simpa using hy
        have q0 := HF5.out.cell (show 0 < nB by omega)
        have q1 := HF5.out.cell (show 1 < nB by omega)
        have row0 := HF5.out.row (show 0 < nB by omega)
        have row1 := HF5.out.row (show 1 < nB by omega)
        have len0 := bin_len B 0 (by omega)
        have len1 := bin_len B 1 (by omega)
        obtain ⟨r0, hr0⟩ : ∃ r, B.getD 0 [] = r := ⟨_, rfl⟩
        obtain ⟨r1, hr1⟩ : ∃ r, B.getD 1 [] = r := ⟨_, rfl⟩
        obtain ⟨⟨S0, l0, k0⟩, hf0⟩ : ∃ s, fs.getD 0 slNil = s := ⟨_, rfl⟩
        obtain ⟨⟨S1, l1, k1⟩, hf1⟩ : ∃ s, fs.getD 1 slNil = s := ⟨_, rfl⟩
        rw [hf0] at q0 row0
        rw [hf1] at q1 row1
        rw [hr0] at row0 len0
        rw [hr1] at row1 len1
        have Q0 : Hid (w5.cell? ⟨gB, 0, none⟩ = some (.slice S0 l0 k0)) := Lib.hid q0
        have Q1 : Hid (w5.cell? ⟨gB, 1, none⟩ = some (.slice S1 l1 k1)) := Lib.hid q1
        have X0 : Hid (RdV w5 w5.heap.size S0 l0 (ints r0)) := Lib.hid (rdV_ints row0.rd)
        have X1 : Hid (RdV w5 w5.heap.size S1 l1 (ints r1)) := Lib.hid (rdV_ints row1.rd)
        have T0 := Lib.hid (rdV_drop HF5.out (by omega))
        have hl0 : l0 ≤ 10 := by have := row0.len; simp at this; omega
        have hl1 : l1 ≤ 10 := by have := row1.len; simp at this; omega
        have hcap := HF5.out.cap.1
        have u1 : (2 : Int) ≤ (nB : Int) := by omega
        have u2 : (2 : Int) ≤ (cB : Int) := by omega
        have u3 : (nB : Int) ≤ (cB : Int) := by omega
        have u4 : (0 : Int) < (nB : Int) := by omega
        have u5 : (1 : Int) < (nB : Int) := by omega
        have u6 : 0 < nB := by omega
        have u7 : 1 < nB := by omega
        have hfl : ((B.drop 2) ++ [r0 ++ r1]).flatten.length ≤ 100 := by
          have h1 : (B.drop 2).flatten.length ≤ B.flatten.length := by
            have : (B.take 2).flatten.length + (B.drop 2).flatten.length = B.flatten.length := by rw [← List.length_append, ← List.flatten_append, List.take_append_drop]
            omega
          have h2 : ([r0 ++ r1] : List (List Int)).flatten.length = r0.length + r1.length := by simp
          rw [List.flatten_append, List.length_append, h2]
          omega
        have HFL := Lib.hid hfl
        have bL : Below w5.heap.size w5 w5 := Below.refl _ _
        have hI : OwnV w5 w5.heap.size 3 none 0 0 [] := OwnV.zero _ _ _ _
        have hR : OwnV w5 w5.heap.size 22 none 0 0 [] := OwnV.zero _ _ _ _
        have q0_ : w5.cell? ⟨gB, 0, none⟩ = some (.slice S0 l0 k0) := q0
        have q1_ : w5.cell? ⟨gB, 1, none⟩ = some (.slice S1 l1 k1) := q1
        clear q0 q1 row0 row1 len0 len1 hr0 hr1 hf0 hf1 hfl hy
        obtain ⟨wv, rfl⟩ : ∃ wv : World, wv = w5 := ⟨_, rfl⟩
        go_wp2_with fail
        go_region_held3 (fun w' => w'.cell? ⟨gB, 0, none⟩ = some (.slice S0 l0 k0) ∧ w'.cell? ⟨gB, 1, none⟩ = some (.slice S1 l1 k1)) (first | go_keep | exact ⟨(bL.cell (p := ⟨gB, 0, none⟩) hgB5).trans Q0.out, (bL.cell (p := ⟨gB, 1, none⟩) hgB5).trans Q1.out⟩)
          (first
              | (refine step_appV (by rfl) _ _ _ (by rfl) Try.underlying22 int_info rfl (by omega) wv (by first | exact bL | exact below_drw bL | exact below_drewN bL _ | exact (bel_al bL _) | exact below_drw (bel_al bL _) | exact below_drewN (bel_al bL _) _ | exact (bel_al (bel_al bL _) _) | exact below_drw (bel_al (bel_al bL _) _) | exact below_drewN (bel_al (bel_al bL _) _) _ | exact (bel_al (bel_al (bel_al bL _) _) _) | exact below_drw (bel_al (bel_al (bel_al bL _) _) _) | exact below_drewN (bel_al (bel_al (bel_al bL _) _) _) _) _ 0 0 [] (by exact rfl) (OwnV.zero _ _ _ _) _ _ _ (ints r0) (by exact rfl) _ (by exact X0.out.below (by first | exact bL | exact below_drw bL | exact below_drewN bL _ | exact (bel_al bL _) | exact below_drw (bel_al bL _) | exact below_drewN (bel_al bL _) _ | exact (bel_al (bel_al bL _) _) | exact below_drw (bel_al (bel_al bL _) _) | exact below_drewN (bel_al (bel_al bL _) _) _ | exact (bel_al (bel_al (bel_al bL _) _) _) | exact below_drw (bel_al (bel_al (bel_al bL _) _) _) | exact below_drewN (bel_al (bel_al (bel_al bL _) _) _) _)) (by omega) _ _ _ _ (by first | exact hR | exact OwnV.drew hR | exact OwnV.drewN hR _ | exact (hR.alloc _) | exact OwnV.drew (hR.alloc _) | exact OwnV.drewN (hR.alloc _) _ | exact ((hR.alloc _).alloc _) | exact OwnV.drew ((hR.alloc _).alloc _) | exact OwnV.drewN ((hR.alloc _).alloc _) _ | exact (((hR.alloc _).alloc _).alloc _) | exact OwnV.drew (((hR.alloc _).alloc _).alloc _) | exact OwnV.drewN (((hR.alloc _).alloc _).alloc _) _) (.inr (.inl rfl)) ?_
                 intro A1 k1 wL hI hR dd gL bL
                 replace gL := below_of_grown (show World.grownBy _ wL none from gL)
                 simp only [Nat.zero_add, List.nil_append] at hI ⊢)
              | (refine step_appV (by rfl) _ _ _ (by rfl) Try.underlying22 int_info rfl (by omega) wv (by first | exact bL | exact below_drw bL | exact below_drewN bL _ | exact (bel_al bL _) | exact below_drw (bel_al bL _) | exact below_drewN (bel_al bL _) _ | exact (bel_al (bel_al bL _) _) | exact below_drw (bel_al (bel_al bL _) _) | exact below_drewN (bel_al (bel_al bL _) _) _ | exact (bel_al (bel_al (bel_al bL _) _) _) | exact below_drw (bel_al (bel_al (bel_al bL _) _) _) | exact below_drewN (bel_al (bel_al (bel_al bL _) _) _) _) _ _ _ _ (by exact rfl) (by first | exact hI | exact OwnV.drew hI | exact OwnV.drewN hI _ | exact (hI.alloc _) | exact OwnV.drew (hI.alloc _) | exact OwnV.drewN (hI.alloc _) _ | exact ((hI.alloc _).alloc _) | exact OwnV.drew ((hI.alloc _).alloc _) | exact OwnV.drewN ((hI.alloc _).alloc _) _ | exact (((hI.alloc _).alloc _).alloc _) | exact OwnV.drew (((hI.alloc _).alloc _).alloc _) | exact OwnV.drewN (((hI.alloc _).alloc _).alloc _) _) _ _ _ (ints r1) (by exact rfl) _ (by exact X1.out.below (by first | exact bL | exact below_drw bL | exact below_drewN bL _ | exact (bel_al bL _) | exact below_drw (bel_al bL _) | exact below_drewN (bel_al bL _) _ | exact (bel_al (bel_al bL _) _) | exact below_drw (bel_al (bel_al bL _) _) | exact below_drewN (bel_al (bel_al bL _) _) _ | exact (bel_al (bel_al (bel_al bL _) _) _) | exact below_drw (bel_al (bel_al (bel_al bL _) _) _) | exact below_drewN (bel_al (bel_al (bel_al bL _) _) _) _)) (by omega) _ _ _ _ (by first | exact hR | exact OwnV.drew hR | exact OwnV.drewN hR _ | exact (hR.alloc _) | exact OwnV.drew (hR.alloc _) | exact OwnV.drewN (hR.alloc _) _ | exact ((hR.alloc _).alloc _) | exact OwnV.drew ((hR.alloc _).alloc _) | exact OwnV.drewN ((hR.alloc _).alloc _) _ | exact (((hR.alloc _).alloc _).alloc _) | exact OwnV.drew (((hR.alloc _).alloc _).alloc _) | exact OwnV.drewN (((hR.alloc _).alloc _).alloc _) _) (by first | exact dd | exact dd.symm) ?_
                 intro A2 k2 wL hI hR dd gL bL)
              | (refine step_appV (by rfl) _ _ _ (by rfl) Try.underlying23 rows_info rfl (by omega) wv (by first | exact bL | exact below_drw bL | exact below_drewN bL _ | exact (bel_al bL _) | exact below_drw (bel_al bL _) | exact below_drewN (bel_al bL _) _ | exact (bel_al (bel_al bL _) _) | exact below_drw (bel_al (bel_al bL _) _) | exact below_drewN (bel_al (bel_al bL _) _) _ | exact (bel_al (bel_al (bel_al bL _) _) _) | exact below_drw (bel_al (bel_al (bel_al bL _) _) _) | exact below_drewN (bel_al (bel_al (bel_al bL _) _) _) _) _ 0 0 [] (by exact rfl) (OwnV.zero _ _ _ _) _ _ _ ((fs.drop 2).map slv) (by exact rfl) _ (by exact T0.out.below (by first | exact bL | exact below_drw bL | exact below_drewN bL _ | exact (bel_al bL _) | exact below_drw (bel_al bL _) | exact below_drewN (bel_al bL _) _ | exact (bel_al (bel_al bL _) _) | exact below_drw (bel_al (bel_al bL _) _) | exact below_drewN (bel_al (bel_al bL _) _) _ | exact (bel_al (bel_al (bel_al bL _) _) _) | exact below_drw (bel_al (bel_al (bel_al bL _) _) _) | exact below_drewN (bel_al (bel_al (bel_al bL _) _) _) _)) (by omega) _ _ _ _ (by first | exact hI | exact OwnV.drew hI | exact OwnV.drewN hI _ | exact (hI.alloc _) | exact OwnV.drew (hI.alloc _) | exact OwnV.drewN (hI.alloc _) _ | exact ((hI.alloc _).alloc _) | exact OwnV.drew ((hI.alloc _).alloc _) | exact OwnV.drewN ((hI.alloc _).alloc _) _ | exact (((hI.alloc _).alloc _).alloc _) | exact OwnV.drew (((hI.alloc _).alloc _).alloc _) | exact OwnV.drewN (((hI.alloc _).alloc _).alloc _) _) (.inr (.inl rfl)) ?_
                 intro A3 k3 wL hR hI dd gL bL
                 replace gL := below_of_grown (show World.grownBy _ wL none from gL)
                 simp only [Nat.zero_add, List.nil_append] at hR ⊢)
              | (refine step_appV (by rfl) _ _ _ (by rfl) Try.underlying23 rows_info rfl (by omega) wv (by first | exact bL | exact below_drw bL | exact below_drewN bL _ | exact (bel_al bL _) | exact below_drw (bel_al bL _) | exact below_drewN (bel_al bL _) _ | exact (bel_al (bel_al bL _) _) | exact below_drw (bel_al (bel_al bL _) _) | exact below_drewN (bel_al (bel_al bL _) _) _ | exact (bel_al (bel_al (bel_al bL _) _) _) | exact below_drw (bel_al (bel_al (bel_al bL _) _) _) | exact below_drewN (bel_al (bel_al (bel_al bL _) _) _) _) _ _ _ _ (by exact rfl) (by first | exact hR | exact OwnV.drew hR | exact OwnV.drewN hR _ | exact (hR.alloc _) | exact OwnV.drew (hR.alloc _) | exact OwnV.drewN (hR.alloc _) _ | exact ((hR.alloc _).alloc _) | exact OwnV.drew ((hR.alloc _).alloc _) | exact OwnV.drewN ((hR.alloc _).alloc _) _ | exact (((hR.alloc _).alloc _).alloc _) | exact OwnV.drew (((hR.alloc _).alloc _).alloc _) | exact OwnV.drewN (((hR.alloc _).alloc _).alloc _) _) _ _ _ [.slice A2 (l0 + l1) k2] (by exact rfl) _ (by first | exact rdV_cell (by simp) rfl | exact rdV_cell ((gL.cell (p := ⟨_, 0, none⟩) (by simp)).trans (by simp)) rfl) (by omega) _ _ _ _ (by first | exact hI | exact OwnV.drew hI | exact OwnV.drewN hI _ | exact (hI.alloc _) | exact OwnV.drew (hI.alloc _) | exact OwnV.drewN (hI.alloc _) _ | exact ((hI.alloc _).alloc _) | exact OwnV.drew ((hI.alloc _).alloc _) | exact OwnV.drewN ((hI.alloc _).alloc _) _ | exact (((hI.alloc _).alloc _).alloc _) | exact OwnV.drew (((hI.alloc _).alloc _).alloc _) | exact OwnV.drewN (((hI.alloc _).alloc _).alloc _) _) (by first | exact dd | exact dd.symm) ?_
                 intro A4 k4 wL hR hI dd gL bL))
        all_goals
          go_wp2_with fail
          all_goals
            go_ret3
            exact ⟨A, n, c, xs, v, A4, nB - 2 + 1, k4, fs.drop 2 ++ [(A2, l0 + l1, k2)], B.drop 2 ++ [r0 ++ r1], rfl, (HA5.out.below bL).lt, hn2, rdF_last HF5.out (by omega) bL hR (by rw [ints_append]; exact hI), by omega, HFL.out, B5.out.trans (bL.mono B5.out.size)⟩
      · have dy : (y == 0) = false := by simpa using hy
        go_wp2_with fail
        go_ret3
        exact ⟨A, n, c, xs, v, _, nB, cB, fs, B, rfl, HA5.out, hn2, HF5.out.rdF, by omega, by omega, B5.out⟩
    · go_wp2_with fail
      refine K.out.mono ?_
      rintro e w2 ⟨AB, nB, cB, fs, rfl, ho, hb⟩
      have hBm := ho.len
      have HF2 := Lib.hid ho
      have O3 := Lib.hid (KO.out w2 hb)
      have HA2 := Lib.hid (HA.out.below hb).lt
      have B2 := Lib.hid (BB.out.trans (hb.mono BB.out.size))
      have hl1 : ¬ (1 : Int) < (nB : Int) := by omega
      clear ho hb HA BB K KO
      go_wp2_with fail
      refine O3.out.mono ?_
      rintro e w3 ⟨g, rfl, hr, hg, hb⟩
      obtain ⟨q1, q2⟩ := rdr_cells hr
      have P : Hid (Rdr (w3.setCell ⟨g, 1, none⟩ (.int .i64 61)) g 61 ∧ w3.grownBy (w3.setCell ⟨g, 1, none⟩ (.int .i64 61)) (some g)) := Lib.hid (rdr_put hr 61)
      have BX := Lib.hid (hb.trans (show Below w2.heap.size w3 (w3.setCell ⟨g, 1, none⟩ (.int .i64 61)) from (Below.refl _ _).grown P.out.2 hb.size (fun x e => by cases e; exact hg)))
      have HA3 := Lib.hid (HA2.out.below BX.out).lt
      have HF3 := Lib.hid (HF2.out.below BX.out)
      have B3 := Lib.hid (B2.out.trans (BX.out.mono B2.out.size))
      clear hr hb P BX HA2 hg O3 B2 HF2
      go_wp2_with fail
      go_ret3
      exact ⟨A, n, c, xs, v, AB, nB, cB, fs, B, rfl, HA3.out, hn2, HF3.out.rdF, by omega, by omega, B3.out⟩
end Go.Proofs.Ytbihdajoflaknaa
