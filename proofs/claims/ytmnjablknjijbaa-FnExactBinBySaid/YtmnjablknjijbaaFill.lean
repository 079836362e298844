
/- impl.fill: numbers are put into bins by a rule. -/
import Derived.Test.YtmnjablknjijbaaNodes
import Derived.Test.YtmnjablknjijbaaBinA
import Derived.Test.YtmnjablknjijbaaSortJ
namespace Go.Proofs.Ytmnjablknjijbaa
set_option linter.unusedVariables false
open Go.RowKit
theorem bin_len (B : List (List Int)) (j : Nat) (hj : j < B.length) : (B.getD j []).length ≤ B.flatten.length := by
  have hm : B.getD j [] ∈ B := by simp [List.getD, hj]
  exact (List.sublist_flatten_of_mem hm).length_le
theorem Nodes.put2 {w w' : World} {base : Nat} {gs : List Nat} {fs : List Sl} {B : List (List Int)} {C : Int} (h : Nodes w base gs fs B C) {k : Nat} (hk : k < B.length) (hbase : base ≤ w.heap.size) {g : Nat} {A : Option Addr} {n c : Nat} {b : List Int} (hgk : gs.getD k 0 = g) (hfk : fs.getD k slNil = (A, n, c)) (hbk : B.getD k [] = b)
    (hg : w.grownBy w' (blk A)) {A' : Option Addr} {n' c' : Nat} {x : Int} (ho : Own w' base A' n' c' (b ++ [x])) (hA : blk A' = blk A ∨ ∃ g, blk A' = some g ∧ w.heap.size ≤ g) {v : Int} (hv : v = C - Pk.tot b - x) :
    Nodes ((w'.setCell ⟨g, 0, none⟩ (.slice A' n' c')).setCell ⟨g, 1, none⟩ (.int .i64 v)) base gs (fs.set k (A', n', c')) (B.set k (b ++ [x])) C := by
  subst hgk hbk hv
  exact h.put hk hbase (by rw [hfk]; exact hg) ho (by rw [hfk]; exact hA)
/-- What fill hands back. -/
def RetFill (w : World) (B : List (List Int)) (C : Int) (e : Ending) (w' : World) : Prop :=
  ∃ gs fs, e = .returned (.tuple #[.pointer (nxt gs 0), .bool true]) ∧ Nodes w' w.heap.size gs fs B C ∧ Below w.heap.size w w'
/-- The order in which the numbers come. -/
def ordB (cap : Bool) (xs : List Int) : List Int := if cap then Srt.dn xs else xs
theorem ordB_perm (cap : Bool) (xs : List Int) : (ordB cap xs).Perm xs := by
  cases cap
  · exact List.Perm.refl _
  · exact Srt.dn_perm xs
set_option maxHeartbeats 800000 in
theorem fill_no (A : Option Addr) (n c : Nat) (xs : List Int) (C : Int) (s : ByteArray) (w : World) (ha : Rd w w.heap.size A n xs) (hn : n ≤ 1000000000) (h : ruleB s = none ∨ bnOk xs C = false) :
    Calls Try.prog 49 #[.slice A n c, .int .i64 C, .string s] w (fun e w' => e = .returned (.tuple #[.pointer none, .bool false]) ∧ Below w.heap.size w w') := by
  have HR := Lib.hid (ruleOf_any s w)
  have HA := Lib.hid ha
  clear ha
  cases hr : ruleB s with
  | none =>
    rw [hr] at HR
    go_enter Try.func49, Try.ntmps49
    go_wp2_with fail
    refine HR.out.mono ?_
    rintro e w2 ⟨rfl, hb⟩
    have HB := Lib.hid hb
    clear hb
    go_wp2_with fail
    go_ret2
    exact ⟨rfl, HB.out⟩
  | some o =>
    obtain ⟨J, cap⟩ := o
    have hb0 : bnOk xs C = false := by
      rcases h with h | h
      · rw [hr] at h; cases h
      · exact h
    rw [hr] at HR
    have H0 := Lib.hid hb0
    clear h hr hb0
    go_enter Try.func49, Try.ntmps49
    go_wp2_with fail
    refine HR.out.mono ?_
    rintro e w2 ⟨rfl, hb⟩
    have HB := Lib.hid hb
    have HA2 := Lib.hid (HA.out.below HB.out).lt
    clear hb
    go_wp2_with fail
    refine (binsTold_any _ _ _ _ _ _ HA2.out hn _ H0.out).mono ?_
    rintro e w' ⟨rfl, rfl⟩
    go_wp2_with fail
    go_ret2
    exact ⟨rfl, HB.out⟩
set_option maxRecDepth 100000 in
set_option maxHeartbeats 12800000 in
theorem fill_any (A : Option Addr) (n c : Nat) (xs : List Int) (C : Int) (s : ByteArray) (J : Nat) (cap : Bool) (w : World) (ha : Rd w w.heap.size A n xs) (hr : ruleB s = some (J, cap)) (h : bnOk xs C = true) :
    Calls Try.prog 49 #[.slice A n c, .int .i64 C, .string s] w (RetFill w (Pk.fill (rlOf J) C (ordB cap xs) []) C) := by
  have HR := Lib.hid (ruleOf_any s w)
  obtain ⟨h1, h2, h3, h4, h5⟩ := bnOk_in h
  have hJ : J < 4 := (ruleX_some (ruleB_some hr).2.1).1
  have hl0 := ha.len
  have hn : n ≤ 10 := by omega
  have HX0 := Lib.hid h3
  have HA0 := Lib.hid ha
  have H0 := Lib.hid h
  rw [hr] at HR
  clear ha hr h h1 h2 h3
  cases cap with
  | false =>
    go_enter Try.func49, Try.ntmps49
    go_wp2_with fail
    refine HR.out.mono ?_
    rintro e w1 ⟨rfl, hb⟩
    have HW1 := Lib.hid hb
    have HA := Lib.hid (HA0.out.below HW1.out).lt
    clear hb HR HA0
    go_wp2_with fail
    refine (binsTold_any _ _ _ _ _ _ HA.out (by omega) _ H0.out).mono ?_
    rintro e w' ⟨rfl, rfl⟩
    have hl : xs.length = n := hl0
    obtain ⟨ys, hys⟩ : ∃ ys, xs = ys := ⟨_, rfl⟩
    have HYS : Hid (ordB false xs = ys) := Lib.hid hys
    rw [hys] at HA HX0 hl
    have HX := HX0
    clear HX0 H0 hl0 hys
    go_wp2_with fail
    go_loopw [11, 12, 35] (fun hd la i wr => ∃ (k : Nat) (gs : List Nat) (fs : List Sl), k ≤ n ∧ i = .int .i64 k ∧ hd = .pointer (nxt gs 0) ∧ la = .pointer (nxt gs (gs.length - 1)) ∧ Hid (Nodes wr w1.heap.size gs fs (Pk.fill (rlOf J) C (ys.take k) []) C) ∧ Hid (Below w1.heap.size w1 wr)) (fun _ _ i _ => n - (intOf i).toNat)
    case atStart => exact ⟨0, [], [], by omega, rfl, rfl, rfl, Lib.hid (Nodes.nil _ _ _), Lib.hid (Below.refl _ _)⟩
    case round =>
      obtain ⟨k, gs, fs, hk, rfl, rfl, rfl, HN, HB⟩ := hrel
      by_cases hlt : k < n
      · obtain ⟨b1, o1, rfl, _, hc1⟩ := (HA.out.below HB.out).at_ hlt
        have g1 := hc1 k hlt
        obtain ⟨x, hx⟩ : ∃ x, ys.getD k 0 = x := ⟨_, rfl⟩
        rw [hx] at g1
        have hxin := HX.out x (by rw [← hx]; exact getD_mem (by omega))
        have HT := Lib.hid (show Pk.fill (rlOf J) C (ys.take (k + 1)) [] = Pk.put (Pk.fill (rlOf J) C (ys.take k) []) (Pk.where_ (rlOf J) C (Pk.fill (rlOf J) C (ys.take k) []) x) x from by rw [take_succ_getD (by omega), hx, Pk.fill_snoc])
        have hok := Pk.okay_fill (r := rlOf J) (ys.take k) [] (Pk.okay_nil C) (fun y hy => HX.out y (List.mem_of_mem_take hy))
        have hfl := (Pk.fill_flat (r := rlOf J) (C := C) (ys.take k) []).length_eq
        rw [List.flatten_nil, List.nil_append, List.length_take] at hfl
        obtain ⟨B, hB⟩ : ∃ B, Pk.fill (rlOf J) C (ys.take k) [] = B := ⟨_, rfl⟩
        rw [hB] at HN HT hok hfl
        have hfl2 : B.flatten.length ≤ 10 := by omega
        have HOK := Lib.hid hok
        have HFL := Lib.hid (fun (j : Nat) (hj : j < B.length) => Nat.le_trans (bin_len B j hj) hfl2)
        have hbs := HB.out.size
        obtain ⟨hx1, hx2⟩ := hxin
        clear hc1 hx hok hfl hB hfl2
        cases ho : Pk.where_ (rlOf J) C B x with
        | some j =>
          have hj := Pk.where_lt ho
          have K : Hid (∀ w, Links w gs (Pk.rooms C B) → Calls Try.prog 63 #[rv J, .pointer (nxt gs 0), .int .i64 x] w (RetCh w (nxt gs j))) := Lib.hid (fun w hl => by
            have := choose_any J hJ gs (Pk.rooms C B) x w hl
            rw [Pk.rooms_len] at this
            rw [show Pk.pick (rlOf J) (Pk.rooms C B) x B.length = some j from ho] at this
            exact this)
          rw [nxt_lt (gs := gs) (k := j) (by rw [HN.out.lg]; exact hj)] at K
          rw [ho] at HT
          have hok := HOK.out.one j hj
          obtain ⟨g, hg⟩ : ∃ g, gs.getD j 0 = g := ⟨_, rfl⟩
          obtain ⟨⟨Aj, nj, cj⟩, hf⟩ : ∃ s, fs.getD j slNil = s := ⟨_, rfl⟩
          obtain ⟨b, hb⟩ : ∃ b, B.getD j [] = b := ⟨_, rfl⟩
          have hnj : nj ≤ 10 := by
            have h1 := (HN.out.row j hj).len
            have h2 := HFL.out j hj
            rw [hf] at h1
            have h3 : (B.getD j []).length = nj := h1
            omega
          rw [hg] at K
          obtain ⟨t, ht⟩ : ∃ t, Pk.tot b = t := ⟨_, rfl⟩
          rw [hb, ht] at hok
          have ht1 := hok.1
          have ht2 := hok.2.1
          have HGJ := Lib.hid hg
          have HFJ := Lib.hid hf
          have HBJ := Lib.hid hb
          have HTB := Lib.hid ht
          have HGL := Lib.hid (hg ▸ HN.out.lo j hj)
          clear ho hg hf hb ht hok
          go_wp2_with fail
          refine (K.out wr HN.out.links).mono ?_
          rintro e w2 ⟨rfl, q, rfl⟩
          have HN2 := Lib.hid (HN.out.drewN q)
          have HB2 := Lib.hid (below_drewN HB.out q)
          have hs2 : w1.heap.size ≤ (wr.drewN q).heap.size := hbs
          generalize wr.drewN q = wv at HN2 HB2 hs2 ⊢
          clear HN HB hbs g1 K
          have c0 := HN2.out.c0 j hj
          have c1 := HN2.out.c1 j hj
          have f0 := HN2.out.fz j 0 hj
          have f1 := HN2.out.fz j 1 hj
          have ow := HN2.out.row j hj
          have fo := HN2.out.df j j hj hj
          rw [HGJ.out] at c0 c1 f0 f1 fo
          rw [HFJ.out] at c0 ow fo
          rw [HBJ.out] at c1 ow
          rw [HTB.out] at c1
          have OW := Lib.hid ow
          have FO := Lib.hid fo
          clear ow fo
          have hsub : IntKind.i64.wrap (C - t - x) = C - t - x := IntWalk.i64_in _ (by omega)
          go_wp2_with (at_builtin; refine wpList_pushN rfl _ _ _ rfl Try.underlying22 rfl OW.out rfl (by simp) (by omega) hs2 ?_; intro A' c' w' ho' hg' hb'; have c0' := hg'.cell c0 (fun e => FO.out e.symm); have c1' := hg'.cell c1 (fun e => FO.out e.symm); have f0' := (World.frozen?_of_block (a := ⟨g, 0, none⟩) (hg'.block g (World.block_lt_of_cell? wv _ c0) (fun e => FO.out e.symm))).trans f0; have f1' := (World.frozen?_of_block (a := ⟨g, 1, none⟩) (hg'.block g (World.block_lt_of_cell? wv _ c0) (fun e => FO.out e.symm))).trans f1)
          have S := Lib.hid (HN2.out.put2 hj hs2 HGJ.out HFJ.out HBJ.out hg' ho' (by rcases hb' with h | ⟨_, h⟩; exact .inl h; exact .inr h) (v := C - t - x) (by rw [HTB.out]))
          have S2 := Lib.hid (((HB2.out.grown hg' hs2 (fun a e => (OW.out.lt a e).1)).grown (setCell_grownI w' g 0 (.slice A' (nj + 1) c')) (Nat.le_trans hs2 hg'.size) (fun a e => by injection e with e; subst e; exact HGL.out)).grown (setCell_grownI _ g 1 (.int .i64 (C - t - x))) (by simp; exact Nat.le_trans hs2 hg'.size) (fun a e => by injection e with e; subst e; exact HGL.out))
          clear ho' hg' hb' c0 c1 f0 f1 c0' c1' f0' f1'
          rw [HBJ.out.symm] at S
          have HT2 : Hid (Pk.fill (rlOf J) C (ys.take (k + 1)) [] = B.set j (B.getD j [] ++ [x])) := Lib.hid HT.out
          clear HT
          go_roundw
          case rel => exact ⟨k + 1, gs, fs.set j (A', nj + 1, c'), by omega, by go_num, rfl, rfl, Lib.hid (by rw [HT2.out]; exact S.out), S2⟩
          case measure => simp [intOf]; omega
        | none =>
          have K : Hid (∀ w, Links w gs (Pk.rooms C B) → Calls Try.prog 63 #[rv J, .pointer (nxt gs 0), .int .i64 x] w (RetCh w none)) := Lib.hid (fun w hl => by
            have := choose_any J hJ gs (Pk.rooms C B) x w hl
            rw [Pk.rooms_len] at this
            rw [show Pk.pick (rlOf J) (Pk.rooms C B) x B.length = none from ho] at this
            exact this)
          rw [ho] at HT
          clear ho
          have hsub : IntKind.i64.wrap (C - x) = C - x := IntWalk.i64_in _ (by omega)
          rcases Nat.eq_zero_or_pos B.length with h0 | h0
          · obtain rfl : B = [] := List.eq_nil_of_length_eq_zero h0
            obtain rfl : gs = [] := List.eq_nil_of_length_eq_zero (by rw [HN.out.lg]; rfl)
            rw [show nxt [] 0 = none from rfl] at K
            rw [show nxt [] 0 = none from rfl, show nxt [] (([] : List Nat).length - 1) = none from rfl]
            go_wp2_with fail
            refine (K.out wr HN.out.links).mono ?_
            rintro e w2 ⟨rfl, q, rfl⟩
            have HB2 := Lib.hid (below_drewN HB.out q)
            have hs2 : w1.heap.size ≤ (wr.drewN q).heap.size := hbs
            generalize wr.drewN q = wv at HB2 hs2 ⊢
            clear HN HB hbs g1 K
            have S1 := Lib.hid (Nodes.first (w := wv) (base := w1.heap.size) (C := C) hs2 (T := 59))
            go_wp2_with (at_builtin; refine wpList_pushN rfl _ _ _ rfl Try.underlying22 rfl (Own.nil _ w1.heap.size) rfl (by simp) (by omega) (by simp; omega) ?_; intro A' c' w' ho' hg' hb'; have c0' := hg'.cell (a := ⟨wv.heap.size, 0, none⟩) (v := .slice none 0 0) (by simp) (by simp [blk]); have c1' := hg'.cell (a := ⟨wv.heap.size, 1, none⟩) (v := .int .i64 C) (by simp) (by simp [blk]); have f0' := (World.frozen?_of_block (a := ⟨wv.heap.size, 0, none⟩) (hg'.block wv.heap.size (by simp) (by simp [blk]))).trans (by simp : _ = false); have f1' := (World.frozen?_of_block (a := ⟨wv.heap.size, 1, none⟩) (hg'.block wv.heap.size (by simp) (by simp [blk]))).trans (by simp : _ = false))
            have S := Lib.hid (S1.out.put2 (k := 0) (by simp) (by simp; omega) (g := wv.heap.size) (b := []) rfl rfl rfl hg' ho' (by rcases hb' with h | ⟨_, h⟩; exact .inl h; exact .inr h) (v := C - x) (by simp))
            have S2 := Lib.hid ((((HB2.out.alloc hs2 (.cells #[.slice none 0 0, .int .i64 C, .pointer none] 59)).grown hg' (by simp; omega) (fun a e => by simp [blk] at e)).grown (setCell_grownI w' wv.heap.size 0 (.slice A' (0 + 1) c')) (by have := hg'.size; simp at this; omega) (fun a e => by injection e with e; subst e; exact hs2)).grown (setCell_grownI _ wv.heap.size 1 (.int .i64 (C - x))) (by have := hg'.size; simp at this ⊢; omega) (fun a e => by injection e with e; subst e; exact hs2))
            clear ho' hg' hb' c0' c1' f0' f1' S1
            go_roundw
            case rel => exact ⟨k + 1, [wv.heap.size], _, by omega, by go_num, rfl, rfl, Lib.hid (by rw [HT.out]; exact S.out), S2⟩
            case measure => simp [intOf]; omega
          · obtain ⟨l, hl⟩ : ∃ l, l + 1 = B.length := ⟨B.length - 1, by omega⟩
            have nl := nxt_lt (gs := gs) (k := l) (by rw [HN.out.lg]; omega)
            have el : gs.length - 1 = l := by rw [HN.out.lg]; omega
            obtain ⟨g, hg⟩ : ∃ g, gs.getD l 0 = g := ⟨_, rfl⟩
            rw [hg] at nl
            rw [el, nl]
            have HGJ := Lib.hid hg
            have HLL := Lib.hid hl
            have HGL := Lib.hid (hg ▸ HN.out.lo l (by omega))
            clear hg nl el
            go_wp2_with fail
            refine (K.out wr HN.out.links).mono ?_
            rintro e w2 ⟨rfl, q, rfl⟩
            have HN2 := Lib.hid (HN.out.drewN q)
            have HB2 := Lib.hid (below_drewN HB.out q)
            have hs2 : w1.heap.size ≤ (wr.drewN q).heap.size := hbs
            generalize wr.drewN q = wv at HN2 HB2 hs2 ⊢
            clear HN HB hbs g1 K
            have hgl := HN2.out.lt (j := l) (by omega)
            have c2 := HN2.out.c2 l (by omega)
            have f2 := HN2.out.fz l 2 (by omega)
            have S1 := Lib.hid (HN2.out.more hs2 (T := 59) HLL.out)
            rw [HGJ.out] at hgl c2 f2 S1
            have hne : g ≠ wv.heap.size := by omega
            have NE := Lib.hid hne
            rw [World.setCell_alloc_past _ _ _ _ hgl] at S1
            have cn0 : ((wv.setCell ⟨g, 2, none⟩ (.pointer (some ⟨wv.heap.size, 0, none⟩))).alloc (.cells #[.slice none 0 0, .int .i64 C, .pointer none] 59)).cell? ⟨wv.heap.size, 0, none⟩ = some (.slice none 0 0) := by rw [World.cell?_alloc_at _ _ _ _ (by simp)]; rfl
            have cn1 : ((wv.setCell ⟨g, 2, none⟩ (.pointer (some ⟨wv.heap.size, 0, none⟩))).alloc (.cells #[.slice none 0 0, .int .i64 C, .pointer none] 59)).cell? ⟨wv.heap.size, 1, none⟩ = some (.int .i64 C) := by rw [World.cell?_alloc_at _ _ _ _ (by simp)]; rfl
            have fn0 : ((wv.setCell ⟨g, 2, none⟩ (.pointer (some ⟨wv.heap.size, 0, none⟩))).alloc (.cells #[.slice none 0 0, .int .i64 C, .pointer none] 59)).frozen? ⟨wv.heap.size, 0, none⟩ = false := by rw [World.frozen?_alloc_at _ _ _ _ (by simp)]
            have fn1 : ((wv.setCell ⟨g, 2, none⟩ (.pointer (some ⟨wv.heap.size, 0, none⟩))).alloc (.cells #[.slice none 0 0, .int .i64 C, .pointer none] 59)).frozen? ⟨wv.heap.size, 1, none⟩ = false := by rw [World.frozen?_alloc_at _ _ _ _ (by simp)]
            have FN0 := Lib.hid fn0
            have FN1 := Lib.hid fn1
            clear fn0 fn1
            have CN0 := Lib.hid cn0
            have CN1 := Lib.hid cn1
            go_wp2_with (at_builtin; refine wpList_pushN rfl _ _ _ rfl Try.underlying22 rfl (Own.nil _ w1.heap.size) rfl (by simp) (by omega) (by simp; omega) ?_; intro A' c' w' ho' hg' hb'; have c0' := hg'.cell CN0.out (by simp [blk]); have c1' := hg'.cell CN1.out (by simp [blk]); have f0' := (World.frozen?_of_block (a := ⟨wv.heap.size, 0, none⟩) (hg'.block wv.heap.size (by simp) (by simp [blk]))).trans FN0.out; have f1' := (World.frozen?_of_block (a := ⟨wv.heap.size, 1, none⟩) (hg'.block wv.heap.size (by simp) (by simp [blk]))).trans FN1.out)
            have S := Lib.hid (S1.out.put2 (k := B.length) (by simp) (by simp; omega) (g := wv.heap.size) (b := []) (getD_snoc_end (by have := HN2.out.lg; omega)) (getD_snoc_end (by have := HN2.out.lf; omega)) (getD_snoc_end rfl) hg' ho' (by rcases hb' with h | ⟨_, h⟩; exact .inl h; exact .inr h) (v := C - x) (by simp))
            have S2 := Lib.hid (((((HB2.out.grown (setCell_grownI wv g 2 (.pointer (some ⟨wv.heap.size, 0, none⟩))) hs2 (fun a e => by injection e with e; subst e; exact HGL.out)).alloc (by simp; exact hs2) (.cells #[.slice none 0 0, .int .i64 C, .pointer none] 59)).grown hg' (by simp; omega) (fun a e => by simp [blk] at e)).grown (setCell_grownI w' wv.heap.size 0 (.slice A' (0 + 1) c')) (by have := hg'.size; simp at this; omega) (fun a e => by injection e with e; subst e; exact hs2)).grown (setCell_grownI _ wv.heap.size 1 (.int .i64 (C - x))) (by have := hg'.size; simp at this ⊢; omega) (fun a e => by injection e with e; subst e; exact hs2))
            have HG0 := Lib.hid (HN2.out.lg)
            clear ho' hg' hb' c0' c1' f0' f1' S1 c2 f2 cn0 cn1 hgl hne CN0 CN1 FN0 FN1
            have HT2 : Hid (Pk.fill (rlOf J) C (ys.take (k + 1)) [] = (B ++ [[]]).set B.length ([] ++ [x])) := Lib.hid (by rw [HT.out]; simp [Pk.put])
            go_roundw
            case rel => exact ⟨k + 1, gs ++ [wv.heap.size], _, by omega, by go_num, by rw [nxt_snoc_lt (by have := HG0.out; omega)], by rw [nxt_snoc_at (by simp)], Lib.hid (by rw [HT2.out]; exact S.out), S2⟩
            case measure => simp [intOf]; omega
      · have hkn : k = n := by omega
        subst hkn
        rw [List.take_of_length_le (by omega)] at HN
        go_wp2_with fail
        go_ret2
        exact ⟨gs, fs, rfl, by rw [HYS.out]; exact HN.out.mono HW1.out.size, HW1.out.trans (HB.out.mono HW1.out.size)⟩

  | true =>
    go_enter Try.func49, Try.ntmps49
    go_wp2_with fail
    refine HR.out.mono ?_
    rintro e w3 ⟨rfl, hb⟩
    have HW3 := Lib.hid hb
    have HA3 := Lib.hid (HA0.out.below HW3.out).lt
    clear hb HR HA0
    go_wp2_with fail
    refine (binsTold_any _ _ _ _ _ _ HA3.out (by omega) _ H0.out).mono ?_
    rintro e w' ⟨rfl, rfl⟩
    go_wp2_with fail
    refine (inOrder_any _ _ _ _ _ HA3.out (by omega)).mono ?_
    rintro e w1 ⟨A1, n1, c1, rfl, ho, hb⟩
    have hpm := Srt.dn_perm xs
    have hn1 : n = n1 := by rw [← ho.len, ← hl0]; exact hpm.length_eq.symm
    subst hn1
    have hl := ho.len
    have HX := Lib.hid (fun x (hx : x ∈ Srt.dn xs) => HX0.out x (hpm.subset hx))
    have HA := Lib.hid ho.rd
    have HW1 := Lib.hid (HW3.out.trans (hb.mono HW3.out.size))
    obtain ⟨ys, hys⟩ : ∃ ys, Srt.dn xs = ys := ⟨_, rfl⟩
    have HYS : Hid (ordB true xs = ys) := Lib.hid hys
    rw [hys] at HA HX hl
    clear ho hb HX0 H0 HA3 HW3 hl0 hys hpm
    go_wp2_with fail
    go_loopw [11, 12, 35] (fun hd la i wr => ∃ (k : Nat) (gs : List Nat) (fs : List Sl), k ≤ n ∧ i = .int .i64 k ∧ hd = .pointer (nxt gs 0) ∧ la = .pointer (nxt gs (gs.length - 1)) ∧ Hid (Nodes wr w1.heap.size gs fs (Pk.fill (rlOf J) C (ys.take k) []) C) ∧ Hid (Below w1.heap.size w1 wr)) (fun _ _ i _ => n - (intOf i).toNat)
    case atStart => exact ⟨0, [], [], by omega, rfl, rfl, rfl, Lib.hid (Nodes.nil _ _ _), Lib.hid (Below.refl _ _)⟩
    case round =>
      obtain ⟨k, gs, fs, hk, rfl, rfl, rfl, HN, HB⟩ := hrel
      by_cases hlt : k < n
      · obtain ⟨b1, o1, rfl, _, hc1⟩ := (HA.out.below HB.out).at_ hlt
        have g1 := hc1 k hlt
        obtain ⟨x, hx⟩ : ∃ x, ys.getD k 0 = x := ⟨_, rfl⟩
        rw [hx] at g1
        have hxin := HX.out x (by rw [← hx]; exact getD_mem (by omega))
        have HT := Lib.hid (show Pk.fill (rlOf J) C (ys.take (k + 1)) [] = Pk.put (Pk.fill (rlOf J) C (ys.take k) []) (Pk.where_ (rlOf J) C (Pk.fill (rlOf J) C (ys.take k) []) x) x from by rw [take_succ_getD (by omega), hx, Pk.fill_snoc])
        have hok := Pk.okay_fill (r := rlOf J) (ys.take k) [] (Pk.okay_nil C) (fun y hy => HX.out y (List.mem_of_mem_take hy))
        have hfl := (Pk.fill_flat (r := rlOf J) (C := C) (ys.take k) []).length_eq
        rw [List.flatten_nil, List.nil_append, List.length_take] at hfl
        obtain ⟨B, hB⟩ : ∃ B, Pk.fill (rlOf J) C (ys.take k) [] = B := ⟨_, rfl⟩
        rw [hB] at HN HT hok hfl
        have hfl2 : B.flatten.length ≤ 10 := by omega
        have HOK := Lib.hid hok
        have HFL := Lib.hid (fun (j : Nat) (hj : j < B.length) => Nat.le_trans (bin_len B j hj) hfl2)
        have hbs := HB.out.size
        obtain ⟨hx1, hx2⟩ := hxin
        clear hc1 hx hok hfl hB hfl2
        cases ho : Pk.where_ (rlOf J) C B x with
        | some j =>
          have hj := Pk.where_lt ho
          have K : Hid (∀ w, Links w gs (Pk.rooms C B) → Calls Try.prog 63 #[rv J, .pointer (nxt gs 0), .int .i64 x] w (RetCh w (nxt gs j))) := Lib.hid (fun w hl => by
            have := choose_any J hJ gs (Pk.rooms C B) x w hl
            rw [Pk.rooms_len] at this
            rw [show Pk.pick (rlOf J) (Pk.rooms C B) x B.length = some j from ho] at this
            exact this)
          rw [nxt_lt (gs := gs) (k := j) (by rw [HN.out.lg]; exact hj)] at K
          rw [ho] at HT
          have hok := HOK.out.one j hj
          obtain ⟨g, hg⟩ : ∃ g, gs.getD j 0 = g := ⟨_, rfl⟩
          obtain ⟨⟨Aj, nj, cj⟩, hf⟩ : ∃ s, fs.getD j slNil = s := ⟨_, rfl⟩
          obtain ⟨b, hb⟩ : ∃ b, B.getD j [] = b := ⟨_, rfl⟩
          have hnj : nj ≤ 10 := by
            have h1 := (HN.out.row j hj).len
            have h2 := HFL.out j hj
            rw [hf] at h1
            have h3 : (B.getD j []).length = nj := h1
            omega
          rw [hg] at K
          obtain ⟨t, ht⟩ : ∃ t, Pk.tot b = t := ⟨_, rfl⟩
          rw [hb, ht] at hok
          have ht1 := hok.1
          have ht2 := hok.2.1
          have HGJ := Lib.hid hg
          have HFJ := Lib.hid hf
          have HBJ := Lib.hid hb
          have HTB := Lib.hid ht
          have HGL := Lib.hid (hg ▸ HN.out.lo j hj)
          clear ho hg hf hb ht hok
          go_wp2_with fail
          refine (K.out wr HN.out.links).mono ?_
          rintro e w2 ⟨rfl, q, rfl⟩
          have HN2 := Lib.hid (HN.out.drewN q)
          have HB2 := Lib.hid (below_drewN HB.out q)
          have hs2 : w1.heap.size ≤ (wr.drewN q).heap.size := hbs
          generalize wr.drewN q = wv at HN2 HB2 hs2 ⊢
          clear HN HB hbs g1 K
          have c0 := HN2.out.c0 j hj
          have c1 := HN2.out.c1 j hj
          have f0 := HN2.out.fz j 0 hj
          have f1 := HN2.out.fz j 1 hj
          have ow := HN2.out.row j hj
          have fo := HN2.out.df j j hj hj
          rw [HGJ.out] at c0 c1 f0 f1 fo
          rw [HFJ.out] at c0 ow fo
          rw [HBJ.out] at c1 ow
          rw [HTB.out] at c1
          have OW := Lib.hid ow
          have FO := Lib.hid fo
          clear ow fo
          have hsub : IntKind.i64.wrap (C - t - x) = C - t - x := IntWalk.i64_in _ (by omega)
          go_wp2_with (at_builtin; refine wpList_pushN rfl _ _ _ rfl Try.underlying22 rfl OW.out rfl (by simp) (by omega) hs2 ?_; intro A' c' w' ho' hg' hb'; have c0' := hg'.cell c0 (fun e => FO.out e.symm); have c1' := hg'.cell c1 (fun e => FO.out e.symm); have f0' := (World.frozen?_of_block (a := ⟨g, 0, none⟩) (hg'.block g (World.block_lt_of_cell? wv _ c0) (fun e => FO.out e.symm))).trans f0; have f1' := (World.frozen?_of_block (a := ⟨g, 1, none⟩) (hg'.block g (World.block_lt_of_cell? wv _ c0) (fun e => FO.out e.symm))).trans f1)
          have S := Lib.hid (HN2.out.put2 hj hs2 HGJ.out HFJ.out HBJ.out hg' ho' (by rcases hb' with h | ⟨_, h⟩; exact .inl h; exact .inr h) (v := C - t - x) (by rw [HTB.out]))
          have S2 := Lib.hid (((HB2.out.grown hg' hs2 (fun a e => (OW.out.lt a e).1)).grown (setCell_grownI w' g 0 (.slice A' (nj + 1) c')) (Nat.le_trans hs2 hg'.size) (fun a e => by injection e with e; subst e; exact HGL.out)).grown (setCell_grownI _ g 1 (.int .i64 (C - t - x))) (by simp; exact Nat.le_trans hs2 hg'.size) (fun a e => by injection e with e; subst e; exact HGL.out))
          clear ho' hg' hb' c0 c1 f0 f1 c0' c1' f0' f1'
          rw [HBJ.out.symm] at S
          have HT2 : Hid (Pk.fill (rlOf J) C (ys.take (k + 1)) [] = B.set j (B.getD j [] ++ [x])) := Lib.hid HT.out
          clear HT
          go_roundw
          case rel => exact ⟨k + 1, gs, fs.set j (A', nj + 1, c'), by omega, by go_num, rfl, rfl, Lib.hid (by rw [HT2.out]; exact S.out), S2⟩
          case measure => simp [intOf]; omega
        | none =>
          have K : Hid (∀ w, Links w gs (Pk.rooms C B) → Calls Try.prog 63 #[rv J, .pointer (nxt gs 0), .int .i64 x] w (RetCh w none)) := Lib.hid (fun w hl => by
            have := choose_any J hJ gs (Pk.rooms C B) x w hl
            rw [Pk.rooms_len] at this
            rw [show Pk.pick (rlOf J) (Pk.rooms C B) x B.length = none from ho] at this
            exact this)
          rw [ho] at HT
          clear ho
          have hsub : IntKind.i64.wrap (C - x) = C - x := IntWalk.i64_in _ (by omega)
          rcases Nat.eq_zero_or_pos B.length with h0 | h0
          · obtain rfl : B = [] := List.eq_nil_of_length_eq_zero h0
            obtain rfl : gs = [] := List.eq_nil_of_length_eq_zero (by rw [HN.out.lg]; rfl)
            rw [show nxt [] 0 = none from rfl] at K
            rw [show nxt [] 0 = none from rfl, show nxt [] (([] : List Nat).length - 1) = none from rfl]
            go_wp2_with fail
            refine (K.out wr HN.out.links).mono ?_
            rintro e w2 ⟨rfl, q, rfl⟩
            have HB2 := Lib.hid (below_drewN HB.out q)
            have hs2 : w1.heap.size ≤ (wr.drewN q).heap.size := hbs
            generalize wr.drewN q = wv at HB2 hs2 ⊢
            clear HN HB hbs g1 K
            have S1 := Lib.hid (Nodes.first (w := wv) (base := w1.heap.size) (C := C) hs2 (T := 59))
            go_wp2_with (at_builtin; refine wpList_pushN rfl _ _ _ rfl Try.underlying22 rfl (Own.nil _ w1.heap.size) rfl (by simp) (by omega) (by simp; omega) ?_; intro A' c' w' ho' hg' hb'; have c0' := hg'.cell (a := ⟨wv.heap.size, 0, none⟩) (v := .slice none 0 0) (by simp) (by simp [blk]); have c1' := hg'.cell (a := ⟨wv.heap.size, 1, none⟩) (v := .int .i64 C) (by simp) (by simp [blk]); have f0' := (World.frozen?_of_block (a := ⟨wv.heap.size, 0, none⟩) (hg'.block wv.heap.size (by simp) (by simp [blk]))).trans (by simp : _ = false); have f1' := (World.frozen?_of_block (a := ⟨wv.heap.size, 1, none⟩) (hg'.block wv.heap.size (by simp) (by simp [blk]))).trans (by simp : _ = false))
            have S := Lib.hid (S1.out.put2 (k := 0) (by simp) (by simp; omega) (g := wv.heap.size) (b := []) rfl rfl rfl hg' ho' (by rcases hb' with h | ⟨_, h⟩; exact .inl h; exact .inr h) (v := C - x) (by simp))
            have S2 := Lib.hid ((((HB2.out.alloc hs2 (.cells #[.slice none 0 0, .int .i64 C, .pointer none] 59)).grown hg' (by simp; omega) (fun a e => by simp [blk] at e)).grown (setCell_grownI w' wv.heap.size 0 (.slice A' (0 + 1) c')) (by have := hg'.size; simp at this; omega) (fun a e => by injection e with e; subst e; exact hs2)).grown (setCell_grownI _ wv.heap.size 1 (.int .i64 (C - x))) (by have := hg'.size; simp at this ⊢; omega) (fun a e => by injection e with e; subst e; exact hs2))
            clear ho' hg' hb' c0' c1' f0' f1' S1
            go_roundw
            case rel => exact ⟨k + 1, [wv.heap.size], _, by omega, by go_num, rfl, rfl, Lib.hid (by rw [HT.out]; exact S.out), S2⟩
            case measure => simp [intOf]; omega
          · obtain ⟨l, hl⟩ : ∃ l, l + 1 = B.length := ⟨B.length - 1, by omega⟩
            have nl := nxt_lt (gs := gs) (k := l) (by rw [HN.out.lg]; omega)
            have el : gs.length - 1 = l := by rw [HN.out.lg]; omega
            obtain ⟨g, hg⟩ : ∃ g, gs.getD l 0 = g := ⟨_, rfl⟩
            rw [hg] at nl
            rw [el, nl]
            have HGJ := Lib.hid hg
            have HLL := Lib.hid hl
            have HGL := Lib.hid (hg ▸ HN.out.lo l (by omega))
            clear hg nl el
            go_wp2_with fail
            refine (K.out wr HN.out.links).mono ?_
            rintro e w2 ⟨rfl, q, rfl⟩
            have HN2 := Lib.hid (HN.out.drewN q)
            have HB2 := Lib.hid (below_drewN HB.out q)
            have hs2 : w1.heap.size ≤ (wr.drewN q).heap.size := hbs
            generalize wr.drewN q = wv at HN2 HB2 hs2 ⊢
            clear HN HB hbs g1 K
            have hgl := HN2.out.lt (j := l) (by omega)
            have c2 := HN2.out.c2 l (by omega)
            have f2 := HN2.out.fz l 2 (by omega)
            have S1 := Lib.hid (HN2.out.more hs2 (T := 59) HLL.out)
            rw [HGJ.out] at hgl c2 f2 S1
            have hne : g ≠ wv.heap.size := by omega
            have NE := Lib.hid hne
            rw [World.setCell_alloc_past _ _ _ _ hgl] at S1
            have cn0 : ((wv.setCell ⟨g, 2, none⟩ (.pointer (some ⟨wv.heap.size, 0, none⟩))).alloc (.cells #[.slice none 0 0, .int .i64 C, .pointer none] 59)).cell? ⟨wv.heap.size, 0, none⟩ = some (.slice none 0 0) := by rw [World.cell?_alloc_at _ _ _ _ (by simp)]; rfl
            have cn1 : ((wv.setCell ⟨g, 2, none⟩ (.pointer (some ⟨wv.heap.size, 0, none⟩))).alloc (.cells #[.slice none 0 0, .int .i64 C, .pointer none] 59)).cell? ⟨wv.heap.size, 1, none⟩ = some (.int .i64 C) := by rw [World.cell?_alloc_at _ _ _ _ (by simp)]; rfl
            have fn0 : ((wv.setCell ⟨g, 2, none⟩ (.pointer (some ⟨wv.heap.size, 0, none⟩))).alloc (.cells #[.slice none 0 0, .int .i64 C, .pointer none] 59)).frozen? ⟨wv.heap.size, 0, none⟩ = false := by rw [World.frozen?_alloc_at _ _ _ _ (by simp)]
            have fn1 : ((wv.setCell ⟨g, 2, none⟩ (.pointer (some ⟨wv.heap.size, 0, none⟩))).alloc (.cells #[.slice none 0 0, .int .i64 C, .pointer none] 59)).frozen? ⟨wv.heap.size, 1, none⟩ = false := by rw [World.frozen?_alloc_at _ _ _ _ (by simp)]
            have FN0 := Lib.hid fn0
            have FN1 := Lib.hid fn1
            clear fn0 fn1
            have CN0 := Lib.hid cn0
            have CN1 := Lib.hid cn1
            go_wp2_with (at_builtin; refine wpList_pushN rfl _ _ _ rfl Try.underlying22 rfl (Own.nil _ w1.heap.size) rfl (by simp) (by omega) (by simp; omega) ?_; intro A' c' w' ho' hg' hb'; have c0' := hg'.cell CN0.out (by simp [blk]); have c1' := hg'.cell CN1.out (by simp [blk]); have f0' := (World.frozen?_of_block (a := ⟨wv.heap.size, 0, none⟩) (hg'.block wv.heap.size (by simp) (by simp [blk]))).trans FN0.out; have f1' := (World.frozen?_of_block (a := ⟨wv.heap.size, 1, none⟩) (hg'.block wv.heap.size (by simp) (by simp [blk]))).trans FN1.out)
            have S := Lib.hid (S1.out.put2 (k := B.length) (by simp) (by simp; omega) (g := wv.heap.size) (b := []) (getD_snoc_end (by have := HN2.out.lg; omega)) (getD_snoc_end (by have := HN2.out.lf; omega)) (getD_snoc_end rfl) hg' ho' (by rcases hb' with h | ⟨_, h⟩; exact .inl h; exact .inr h) (v := C - x) (by simp))
            have S2 := Lib.hid (((((HB2.out.grown (setCell_grownI wv g 2 (.pointer (some ⟨wv.heap.size, 0, none⟩))) hs2 (fun a e => by injection e with e; subst e; exact HGL.out)).alloc (by simp; exact hs2) (.cells #[.slice none 0 0, .int .i64 C, .pointer none] 59)).grown hg' (by simp; omega) (fun a e => by simp [blk] at e)).grown (setCell_grownI w' wv.heap.size 0 (.slice A' (0 + 1) c')) (by have := hg'.size; simp at this; omega) (fun a e => by injection e with e; subst e; exact hs2)).grown (setCell_grownI _ wv.heap.size 1 (.int .i64 (C - x))) (by have := hg'.size; simp at this ⊢; omega) (fun a e => by injection e with e; subst e; exact hs2))
            have HG0 := Lib.hid (HN2.out.lg)
            clear ho' hg' hb' c0' c1' f0' f1' S1 c2 f2 cn0 cn1 hgl hne CN0 CN1 FN0 FN1
            have HT2 : Hid (Pk.fill (rlOf J) C (ys.take (k + 1)) [] = (B ++ [[]]).set B.length ([] ++ [x])) := Lib.hid (by rw [HT.out]; simp [Pk.put])
            go_roundw
            case rel => exact ⟨k + 1, gs ++ [wv.heap.size], _, by omega, by go_num, by rw [nxt_snoc_lt (by have := HG0.out; omega)], by rw [nxt_snoc_at (by simp)], Lib.hid (by rw [HT2.out]; exact S.out), S2⟩
            case measure => simp [intOf]; omega
      · have hkn : k = n := by omega
        subst hkn
        rw [List.take_of_length_le (by omega)] at HN
        go_wp2_with fail
        go_ret2
        exact ⟨gs, fs, rfl, by rw [HYS.out]; exact HN.out.mono HW1.out.size, HW1.out.trans (HB.out.mono HW1.out.size)⟩

end Go.Proofs.Ytmnjablknjijbaa
