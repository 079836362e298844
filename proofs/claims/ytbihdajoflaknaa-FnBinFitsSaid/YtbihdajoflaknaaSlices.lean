
/- Arguments that are slices of slices: opened, weighed, copied. -/
import Derived.Test.YtbihdajoflaknaaLibS
import Derived.Test.YtbihdajoflaknaaOpen
import Derived.Deep.Matrix
namespace Go.Proofs.Ytbihdajoflaknaa
set_option linter.unusedVariables false
open Go.RowKit Go.ChangeShapes Go.WideShapes Go.ChangeAt Go.Deep
/-- The lengths are a machine's. -/
def Lens (n : Nat) (fs : List Sl) : Prop := n ≤ maxLen ∧ ∀ j, j < n → (fs.getD j slNil).2.1 ≤ maxLen
theorem rdF_of_trod {H : Type} {enc : TypeId × Value → H} {W : World} {base : Nat} {held : Bool} {t e q : TypeId} {fuel : Nat} {A : Option Addr} {n c : Nat} {cs : List Value} {x : DataW H × List MemPlace} (hcs0 : cs = [.slice A n c])
    (ht : Try.prog.underlying t = some (.slice e)) (he : Try.prog.underlying e = some (.slice q)) (hq : Try.prog.underlying q = some (.int .i64)) (ce : Try.prog.cellsOf e = 1) (cq : Try.prog.cellsOf q = 1) (h : DataW.trod enc Try.prog W base (fun _ => true) held fuel t cs = some x) :
    ∃ (fs : List Sl) (B : List (List Int)), RdF W A n fs B ∧ Lens n fs := by
  subst hcs0
  rcases open_int_rows ht he hq ce cq h with ⟨hcs, _⟩ | ⟨x, l, c', R, L, C, Z, hcs, _, hl, hm, _, hrow⟩
  · simp at hcs
    obtain ⟨rfl, rfl, rfl⟩ := hcs
    exact ⟨[], [], ⟨rfl, fun h => absurd h (by omega), fun j hj => absurd hj (by omega)⟩, Nat.zero_le _, fun j hj => absurd hj (by omega)⟩
  · simp at hcs
    obtain ⟨rfl, rfl, rfl⟩ := hcs
    have gf : ∀ j, j < n → ((List.range n).map fun r => ((R r, L r, C r) : Sl)).getD j slNil = (R j, L j, C j) := fun j hj => by simp [List.getD, hj]
    have gB : ∀ j, j < n → ((List.range n).map fun r => (Z r).take (L r)).getD j [] = (Z j).take (L j) := fun j hj => by simp [List.getD, hj]
    refine ⟨(List.range n).map fun r => (R r, L r, C r), (List.range n).map fun r => (Z r).take (L r), ⟨by simp, fun hn => ?_, fun j hj => ?_⟩, Nat.le_trans hl hm, fun j hj => ?_⟩
    · obtain ⟨b, off, rfl⟩ := spot_none (hrow 0 (by omega)).1
      have h0 := (hrow 0 (by omega)).1
      refine ⟨b, off, rfl, ?_, fun j hj => ?_⟩
      · have := World.block_lt_of_cell? _ _ h0
        simpa [Addr.add_lit] using this
      · have := (hrow j (by omega)).1
        rw [Addr.add_lit] at this
        rw [this, gf j hj]
    · obtain ⟨_, h2, _, h4, _, h6, h7⟩ := hrow j (by omega)
      rw [gf j hj, gB j hj]
      refine ⟨by simp; omega, fun hn => ?_⟩
      have hLj : 0 < L j := hn
      cases hR : R j with
      | none => have := h6 hR; omega
      | some a' =>
        obtain ⟨_, hc⟩ := h7 a' hR
        obtain ⟨b, off, rfl⟩ := spot_none (hc 0 (by omega))
        have h0 := hc 0 (by omega)
        refine ⟨b, off, rfl, ?_, fun k hk => ?_⟩
        · have := World.block_lt_of_cell? _ _ h0
          simpa [Addr.add_lit] using this
        · have hk' : k < L j := hk
          have := hc k (by omega)
          rw [Addr.add_lit] at this
          rw [this]
          simp [List.getD, hk']
    · obtain ⟨_, h2, h3, _⟩ := hrow j (by omega)
      rw [gf j hj]
      exact Nat.le_trans h2 h3
/-- What is left of a measure: not less than 0 where it was enough. -/
def RetSz (w : World) (left : Int) (m : Nat) (e : Ending) (w' : World) : Prop := ∃ v : Int, e = .returned (.int .i64 v) ∧ (0 ≤ v → v = left - m) ∧ Below w.heap.size w w'
/-- One row's measure. -/
def RetSz1 (w : World) (left : Int) (n : Nat) (e : Ending) (w' : World) : Prop := (n ≤ left ∧ e = .returned (.int .i64 (left - n)) ∨ left < n ∧ e = .returned (.int .i64 (-1))) ∧ Below w.heap.size w w'
set_option maxHeartbeats 400000 in
theorem szIntS_any (A : Option Addr) (n c : Nat) (left : Int) (w : World) (h0 : 0 ≤ left) (h1 : left ≤ 1048576) (hn : n ≤ maxLen) :
    Calls Try.prog 14 #[.slice A n c, .int .i64 left] w (RetSz1 w left n) := by
  unfold maxLen at hn
  by_cases h : left < (n : Int)
  · have d1 : decide (left - (n : Int) < 0) = true := decide_eq_true (by omega)
    go_enter Try.func14, Try.ntmps14
    go_wp2_with fail
    go_ret
    exact ⟨.inr ⟨by omega, rfl⟩, Below.refl _ _⟩
  · have d1 : decide (left - (n : Int) < 0) = false := decide_eq_false (by omega)
    go_enter Try.func14, Try.ntmps14
    go_wp2_with fail
    go_ret
    exact ⟨.inl ⟨by omega, rfl⟩, Below.refl _ _⟩
set_option maxRecDepth 100000 in
set_option maxHeartbeats 1600000 in
theorem szIntSS_any (A : Option Addr) (n c : Nat) (fs : List Sl) (B : List (List Int)) (w : World) (h : RdF w A n fs B) (hL : Lens n fs) :
    Calls Try.prog 5 #[.slice A n c, .int .i64 1048576] w (RetSz w 1048576 (n + B.flatten.length)) := by
  obtain ⟨hn, hl⟩ := hL
  have hn' : n ≤ 9223372036854775807 := by unfold maxLen at hn; omega
  have hB := h.1
  by_cases hb : (1048576 : Int) < (n : Int)
  · have d1 : decide (1048576 - (n : Int) < 0) = true := decide_eq_true (by omega)
    go_enter Try.func5, Try.ntmps5
    go_wp2_with fail
    go_ret
    exact ⟨-1, rfl, fun h => absurd h (by omega), Below.refl _ _⟩
  have d1 : decide (1048576 - (n : Int) < 0) = false := decide_eq_false (by omega)
  have H := Lib.hid h
  have HL := Lib.hid hl
  clear h hl hn
  go_enter Try.func5, Try.ntmps5
  go_wp2_with fail
  go_loopw [1, 5] (fun m i wr => ∃ (k : Nat) (v : Int), k ≤ n ∧ i = .int .i64 k ∧ m = .int .i64 v ∧ 0 ≤ v ∧ v + n ≤ 1048576 ∧ Hid (v = 1048576 - (n : Int) - (upTo B k : Nat)) ∧ Hid (Below w.heap.size w wr)) (fun _ i _ => n - (intOf i).toNat)
  case atStart => exact ⟨0, 1048576 - n, by omega, rfl, rfl, by omega, by omega, Lib.hid (by simp [upTo]), Lib.hid (Below.refl _ _)⟩
  case round =>
    obtain ⟨k, v, hk, rfl, rfl, v0, v1, HV, HB⟩ := hrel
    by_cases hlt : k < n
    · have R1 := H.out.below HB.out
      obtain ⟨b1, o1, rfl, _, hc1⟩ := R1.2.1 (by omega)
      have g1 := hc1 k hlt
      have hus := upTo_succ (B := B) (k := k) (by omega)
      have hlk := HL.out k hlt
      have hrl := (R1.2.2 k hlt).len
      rw [hrl] at hus
      obtain ⟨⟨Ak, nk, ck⟩, hf⟩ : ∃ s, fs.getD k slNil = s := ⟨_, rfl⟩
      rw [hf] at g1 hlk hus
      have g1_ : wr.cell? ⟨b1, o1 + k, none⟩ = some (.slice Ak nk ck) := g1
      have HUS : Hid (upTo B (k + 1) = upTo B k + nk) := Lib.hid hus
      have K := Lib.hid (szIntS_any Ak nk ck v wr v0 (by omega) hlk)
      have i1 : (0 : Int) ≤ (k : Int) := by omega
      have i2 : (k : Int) < (n : Int) := by omega
      have i3 : ((k : Int)).toNat = k := by omega
      clear hc1 hf R1 g1 hus hrl hlk
      go_wp2_with fail
      with_reducible refine K.out.mono ?_
      rintro e w2 ⟨hv, hb2⟩
      have HB2 := Lib.hid (HB.out.trans (hb2.mono HB.out.size))
      clear hb2 K
      rcases hv with ⟨hv, rfl⟩ | ⟨hv, rfl⟩
      · have d2 : decide (v - (nk : Int) < 0) = false := decide_eq_false (by omega)
        have HV2 : Hid (v - (nk : Int) = 1048576 - (n : Int) - (upTo B (k + 1) : Nat)) := Lib.hid (by rw [HUS.out, HV.out]; omega)
        have v2 : 0 ≤ v - (nk : Int) := by omega
        have v3 : v - (nk : Int) + n ≤ 1048576 := by omega
        go_wp2_with fail
        go_roundw
        case rel => exact ⟨k + 1, v - nk, by omega, by go_num, rfl, v2, v3, HV2, HB2⟩
        case measure => simp [intOf]; omega
      · go_wp2_with fail
        go_ret
        exact ⟨-1, rfl, fun h => absurd h (by omega), HB2.out⟩
    · have e : k = n := by omega
      subst e
      have e2 : upTo B k = B.flatten.length := by unfold upTo; rw [List.take_of_length_le (by omega)]
      have HE := Lib.hid e2
      clear e2
      go_wp2_with fail
      go_ret
      exact ⟨v, rfl, fun _ => by rw [HV.out, HE.out]; omega, HB.out⟩
/-- Slices of slices that read as lists are handed back. -/
def RetRdF (w : World) (B : List (List Int)) (e : Ending) (w' : World) : Prop := ∃ A c fs, e = .returned (.slice A B.length c) ∧ RdF w' A B.length fs B ∧ Below w.heap.size w w'
theorem rows_made {w : World} {base g n c : Nat} (h : w.ownsRow base 22 1 (.slice (some ⟨g, 0, none⟩) n c) n (madeCells #[Value.slice none 0 0] n).toList) : w.ownsRow base 22 1 (.slice (some ⟨g, 0, none⟩) n c) n ((List.replicate n slNil).map slv) := by
  have e : (madeCells #[Value.slice none 0 0] n).toList = (List.replicate n slNil).map slv := by
    have := toList_madeCells_one (.slice none 0 0) n
    rw [List.map_replicate]
    exact this
  rw [← e]
  exact h
/-- The first k rows are laid. -/
structure Rows (w : World) (base g n k : Nat) (hs : List Sl) (B : List (List Int)) : Prop where
  len : hs.length = n
  row : w.ownsRow base 22 1 (.slice (some ⟨g, 0, none⟩) n n) n (hs.map slv)
  each : ∀ j, j < k → Own w (g + 1) (hs.getD j slNil).1 (hs.getD j slNil).2.1 (hs.getD j slNil).2.2 (B.getD j [])
theorem Rows.below {w w' : World} {base g n k : Nat} {hs : List Sl} {B : List (List Int)} (h : Rows w base g n k hs B) (hb : Below w.heap.size w w') : Rows w' base g n k hs B :=
  ⟨h.len, World.ownsRow.kept h.row (grown_of_below (row := none) hb) (.inr (by simp [Value.ownBlock])), fun j hj => (h.each j hj).below hb⟩
theorem Rows.put {w : World} {base g n k : Nat} {hs : List Sl} {B : List (List Int)} (h : Rows w base g n k hs B) (hk : k < n) {A : Option Addr} {m c : Nat} (ho : Own w (g + 1) A m c (B.getD k [])) :
    Rows (w.setCell ⟨g, k, none⟩ (.slice A m c)) base g n (k + 1) (hs.set k (A, m, c)) B ∧ w.grownBy (w.setCell ⟨g, k, none⟩ (.slice A m c)) (some g) := by
  have st := World.ownsRow.stored h.row k (.slice A m c)
  have ap : ∀ {A' : Option Addr} {m' c' : Nat} {ys : List Int}, Own w (g + 1) A' m' c' ys → blk A' = none ∨ blk A' ≠ some g := fun {A'} _ _ _ h' => by
    cases hb : blk A' with
    | none => exact .inl rfl
    | some y => right; intro e; injection e with e; have := (h'.lt y hb).1; omega
  refine ⟨⟨by simp [h.len], by rw [List.map_set]; exact st.1, fun j hj => ?_⟩, st.2⟩
  by_cases e : k = j
  · subst e
    have : (hs.set k (A, m, c)).getD k slNil = (A, m, c) := by simp [List.getD, h.len, hk]
    rw [this]
    exact ho.grown st.2 (ap ho)
  · have : (hs.set k (A, m, c)).getD j slNil = hs.getD j slNil := by simp [List.getD, e]
    rw [this]
    exact (h.each j (by omega)).grown st.2 (ap (h.each j (by omega)))
set_option maxRecDepth 100000 in
set_option maxHeartbeats 1600000 in
theorem toIntSS_any (A : Option Addr) (n c : Nat) (fs : List Sl) (B : List (List Int)) (w : World) (h : RdF w A n fs B) (hn : n ≤ 1048576) (hl : ∀ j, j < n → (fs.getD j slNil).2.1 ≤ 1048576) :
    Calls Try.prog 8 #[.slice A n c] w (RetRdF w B) := by
  obtain ⟨i0, hi, hz0, hz1, hz2⟩ := info_parts rows_info
  have hB := h.1
  have H := Lib.hid h
  have HL := Lib.hid hl
  clear h hl
  go_enter Try.func8, Try.ntmps8
  go_wp2_with (at_make; refine wpList_make_full _ rfl _ _ 23 rfl w.heap.size 22 i0 (.slice none 0 0) 1 Try.underlying23 hi hz0 hz1 _ _ _ _ n rfl rfl rfl rfl ?b2 ?b3 (Nat.le_refl _) ?_)
  case b2 => rw [hz2]; omega
  case b3 => unfold maxLen; omega
  intro w0 hown0 hg0
  have ho : Hid (Rows w0 w.heap.size w.heap.size n 0 (List.replicate n slNil) B) := Lib.hid ⟨by simp, rows_made hown0, fun j hj => absurd hj (by omega)⟩
  have hb := Lib.hid (below_of_grown hg0)
  have hsz : w.heap.size + 1 ≤ w0.heap.size := by
    have := World.ownsRow.lt hown0 w.heap.size rfl
    omega
  clear hown0 hg0
  go_wp2_with fail
  go_loopw [4] (fun i wr => ∃ (k : Nat) (hs : List Sl), k ≤ n ∧ i = .int .i64 k ∧ w.heap.size + 1 ≤ wr.heap.size ∧ Hid (Rows wr w.heap.size w.heap.size n k hs B) ∧ Hid (Below w.heap.size w wr)) (fun i _ => n - (intOf i).toNat)
  case atStart => exact ⟨0, _, by omega, rfl, hsz, ho, hb⟩
  case round =>
    obtain ⟨k, hs, hk, rfl, hsz2, HO, HB⟩ := hrel
    clear ho hb
    by_cases hlt : k < n
    · have R1 := H.out.below HB.out
      obtain ⟨b1, o1, rfl, _, hc1⟩ := R1.2.1 (by omega)
      have g1 := hc1 k hlt
      have r1 := R1.2.2 k hlt
      have hlk := HL.out k hlt
      obtain ⟨⟨Ak, nk, ck⟩, hf⟩ : ∃ s, fs.getD k slNil = s := ⟨_, rfl⟩
      rw [hf] at g1 r1 hlk
      have g1_ : wr.cell? ⟨b1, o1 + k, none⟩ = some (.slice Ak nk ck) := g1
      have hlk_ : nk ≤ 1048576 := hlk
      have K := Lib.hid (toIntS_any Ak nk ck (B.getD k []) wr r1 (by omega))
      have i1 : (0 : Int) ≤ (k : Int) := by omega
      have i2 : (k : Int) < (n : Int) := by omega
      have i3 : ((k : Int)).toNat = k := by omega
      clear hc1 hf R1 g1 r1 hlk
      go_wp2_with fail
      with_reducible refine K.out.mono ?_
      rintro e w2 ⟨A2, m2, c2, rfl, ow, hb2⟩
      have hO2 := HO.out.below hb2
      have hs2 := hb2.size
      have q1 := World.ownsRow.frozenAt hO2.row k
      have q2 : w2.cell? ⟨w.heap.size, k, none⟩ = some (.slice (hs.getD k slNil).1 (hs.getD k slNil).2.1 (hs.getD k slNil).2.2) := by
        rw [World.ownsRow.cellAt hO2.row k (by omega)]
        have hl' : k < hs.length := by rw [hO2.len]; exact hlt
        simp [hl', slv]
      generalize Value.slice (hs.getD k slNil).1 (hs.getD k slNil).2.1 (hs.getD k slNil).2.2 = q0 at q2
      obtain ⟨p1, p2⟩ := hO2.put hlt (ow.mono (by omega))
      have P1 := Lib.hid p1
      have P2 := Lib.hid ((HB.out.trans (hb2.mono HB.out.size)).grown p2 (Nat.le_trans HB.out.size hs2) (fun g e => by cases e; exact Nat.le_refl _))
      have hs3 := p2.size
      clear p1 p2 hO2 ow hb2 K
      go_wp2_with fail
      go_roundw
      case rel => exact ⟨k + 1, _, by omega, by go_num, by omega, P1, P2⟩
      case measure => simp [intOf]; omega
    · have e : k = n := by omega
      subst e
      subst hB
      go_wp2_with fail
      go_ret
      refine ⟨_, _, hs, rfl, ⟨rfl, fun hn => ⟨w.heap.size, 0, rfl, by omega, fun j hj => ?_⟩, fun j hj => (HO.out.each j hj).rd⟩, HB.out⟩
      rw [Nat.zero_add, World.ownsRow.cellAt HO.out.row j (by omega)]
      have hl' : j < hs.length := by rw [HO.out.len]; exact hj
      simp [hl', slv]
end Go.Proofs.Ytbihdajoflaknaa
