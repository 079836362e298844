
/- impl.moved, spec.l6pMoved, spec.l6pDone, PowerMoved of both packages: the walks. -/
import Derived.Test.YtbfpllmoaooadaaPowerSum
import Derived.Test.YtbfpllmoaooadaaSortL
import Derived.Test.YtbfpllmoaooadaaLib
import Derived.Test.YtbfpllmoaooadaaPowP
namespace Go.Proofs.Ytbfpllmoaooadaa
set_option linter.unusedVariables false
open Go.RowKit
/-- A list moved by t. -/
def mv (xs : List Int) (t : Int) : List Int := xs.map fun x => x + t
@[simp] theorem mv_len (xs : List Int) (t : Int) : (mv xs t).length = xs.length := by simp [mv]
theorem mv_get {xs : List Int} {k : Nat} (h : k < xs.length) (t : Int) : (mv xs t).getD k 0 = xs.getD k 0 + t := by simp [mv, List.getD, h]
theorem mv_take {xs : List Int} {k : Nat} (h : k < xs.length) (t : Int) : (mv xs t).take (k + 1) = (mv xs t).take k ++ [xs.getD k 0 + t] := by
  rw [take_succ_getD (by simpa using h), mv_get h]
theorem pIn_sorted {xs : List Int} (h : PIn xs) : xs.Pairwise (fun a b => a ≤ b) := by
  rw [List.pairwise_iff_getElem]
  intro i j hi hj hij
  have key : ∀ d i, i + d < xs.length → xs.getD i 0 ≤ xs.getD (i + d) 0 := by
    intro d
    induction d with
    | zero => intro i _; simp
    | succ d ih =>
      intro i hd
      have h1 := ih i (by omega)
      have h2 := h.2.1 (i + d) (by omega)
      rw [show i + (d + 1) = i + d + 1 by omega]
      omega
  have := key (j - i) i (by omega)
  rw [show i + (j - i) = j by omega, Srt.getD_eq hi, Srt.getD_eq hj] at this
  exact this
theorem mv_up {xs : List Int} (h : PIn xs) (t : Int) : Srt.up (mv xs t) = mv xs t := by
  refine (Srt.up_eq (List.Perm.refl _) ?_).symm
  unfold mv
  rw [List.pairwise_map]
  exact (pIn_sorted h).imp (fun h => by omega)
set_option maxRecDepth 100000 in
set_option maxHeartbeats 800000 in
theorem implMoved_any (A : Option Addr) (n c : Nat) (xs : List Int) (t : Int) (w : World) (ha : Rd w w.heap.size A n xs) (hn : n ≤ 8) (hx : ∀ x ∈ xs, -50 ≤ x ∧ x ≤ 50) (t1 : -100 ≤ t) (t2 : t ≤ 100) :
    Calls Try.prog 59 #[.slice A n c, .int .i64 t] w (RetOwn w (mv xs t)) := by
  obtain ⟨i0, hi, hz0, hz1, hz2⟩ := info_parts int_info
  have HL := Lib.hid ha.len
  have HA := Lib.hid ha
  have HX := Lib.hid hx
  clear ha hx
  go_enter Try.func59, Try.ntmps59
  go_wp2_with (at_make; refine wpList_make_full _ rfl _ _ 22 rfl w.heap.size 3 i0 (.int .i64 0) 1 Try.underlying22 hi hz0 hz1 _ _ _ _ n rfl rfl rfl rfl ?b2 ?b3 (Nat.le_refl _) ?_)
  case b2 => rw [hz2]; omega
  case b3 => unfold maxLen; omega
  intro w0 hown0 hg0
  have ho := Lib.hid (own_made hown0)
  have hb := Lib.hid (below_of_grown hg0)
  clear hown0 hg0
  go_wp2_with fail
  go_loopw [13] (fun i wr => ∃ k : Nat, k ≤ n ∧ i = .int .i64 k ∧ Hid (Own wr w.heap.size (some ⟨w.heap.size, 0, none⟩) n n ((mv xs t).take k ++ List.replicate (n - k) 0)) ∧ Hid (Below w.heap.size w wr)) (fun i _ => n - (intOf i).toNat)
  case atStart => exact ⟨0, by omega, rfl, Lib.hid (by simpa using ho.out), hb⟩
  case round =>
    obtain ⟨k, hk, rfl, HO, HB⟩ := hrel
    clear ho hb
    by_cases hlt : k < n
    · have hltz : (k : Int) < (n : Int) := by omega
      obtain ⟨b1, o1, rfl, hb1, hc1⟩ := HA.out.at_ hlt
      have g0 : wr.cell? ⟨b1, o1 + k, none⟩ = some (.int .i64 (xs.getD k 0)) := (HB.out.cell (p := ⟨b1, o1 + k, none⟩) hb1).trans (hc1 k hlt)
      have hr := HX.out _ (getD_mem (xs := xs) (k := k) (by rw [HL.out]; exact hlt))
      have g1 := HO.out.cell hlt
      have g2 := HO.out.free k
      have hst := HO.out.set_ k ((mv xs t).getD k 0)
      rw [zeros_set hlt (by simpa using HL.out), mv_get (by rw [HL.out]; exact hlt)] at hst
      obtain ⟨x, hx⟩ : ∃ x, xs.getD k 0 = x := ⟨_, rfl⟩
      obtain ⟨y, hy⟩ : ∃ x, ((mv xs t).take k ++ List.replicate (n - k) (0 : Int)).getD k 0 = x := ⟨_, rfl⟩
      rw [hy] at g1
      rw [hx] at g0 hst hr
      obtain ⟨r1, r2⟩ := hr
      have H := Lib.hid hst
      clear hx hy hst hc1
      go_wp2_with fail
      go_roundw
      case rel => exact ⟨k + 1, by omega, by go_num, Lib.hid H.out.1, Lib.hid (HB.out.grown H.out.2 HB.out.size (fun g e => by cases e; exact Nat.le_refl _))⟩
      case measure => simp [intOf]; omega
    · obtain rfl : k = n := by omega
      go_wp2_with fail
      go_ret
      exact ⟨_, _, _, rfl, by have := HO.out; rw [List.take_of_length_le (by rw [mv_len, HL.out]; omega), Nat.sub_self, List.replicate_zero, List.append_nil] at this; exact this, HB.out⟩
set_option maxRecDepth 100000 in
set_option maxHeartbeats 800000 in
theorem specMoved_any (A : Option Addr) (n c : Nat) (xs : List Int) (t : Int) (w : World) (ha : Rd w w.heap.size A n xs) (hn : n ≤ 8) (hx : ∀ x ∈ xs, -50 ≤ x ∧ x ≤ 50) (t1 : -100 ≤ t) (t2 : t ≤ 100) :
    Calls Try.prog 57 #[.slice A n c, .int .i64 t] w (RetOwn w (mv xs t)) := by
  have HL := Lib.hid ha.len
  have HA := Lib.hid ha
  have HX := Lib.hid hx
  have HOE := Lib.hid (own_empty w)
  have HB0 := Lib.hid ((Below.refl w.heap.size w).alloc (Nat.le_refl _) (.cells #[] 3))
  clear ha hx
  go_enter Try.func57, Try.ntmps57
  go_wp2_with fail
  go_loopw [5, 6] (fun o i wr => ∃ (k : Nat) (A' : Option Addr) (c' : Nat), k ≤ n ∧ i = .int .i64 k ∧ o = .slice A' k c' ∧ Hid (Own wr w.heap.size A' k c' ((mv xs t).take k)) ∧ Hid (Below w.heap.size w wr)) (fun _ i _ => n - (intOf i).toNat)
  case atStart => exact ⟨0, _, _, by omega, rfl, rfl, HOE, HB0⟩
  case round =>
    obtain ⟨k, A', c', hk, rfl, rfl, HO, HB⟩ := hrel
    clear HOE HB0
    by_cases hlt : k < n
    · have hltz : (k : Int) < (n : Int) := by omega
      obtain ⟨b1, o1, rfl, hb1, hc1⟩ := HA.out.at_ hlt
      have g0 : wr.cell? ⟨b1, o1 + k, none⟩ = some (.int .i64 (xs.getD k 0)) := (HB.out.cell (p := ⟨b1, o1 + k, none⟩) hb1).trans (hc1 k hlt)
      have hr := HX.out _ (getD_mem (xs := xs) (k := k) (by rw [HL.out]; exact hlt))
      have hT := Lib.hid (mv_take (xs := xs) (k := k) (by rw [HL.out]; exact hlt) t)
      obtain ⟨x, hx⟩ : ∃ x, xs.getD k 0 = x := ⟨_, rfl⟩
      rw [hx] at g0 hr hT
      obtain ⟨r1, r2⟩ := hr
      clear hx hc1
      go_wp2_with (at_builtin; refine wpList_pushN rfl _ _ _ rfl Try.underlying22 rfl HO.out rfl (by simp) (by omega) HB.out.size ?_; intro A2 c2 w2 ho2 hg2 hb2)
      rw [← hT.out] at ho2
      have HO2 := Lib.hid ho2
      have HB2 := Lib.hid (HB.out.grown hg2 HB.out.size (fun g e => (HO.out.lt g e).1))
      clear ho2 hg2 hb2
      go_wp2_with fail
      go_roundw
      case rel => exact ⟨k + 1, A2, c2, by omega, by go_num, rfl, HO2, HB2⟩
      case measure => simp [intOf]; omega
    · obtain rfl : k = n := by omega
      have e1 : (mv xs t).take k = mv xs t := List.take_of_length_le (by rw [mv_len, HL.out]; omega)
      rw [e1] at HO
      clear e1
      go_wp2_with fail
      go_ret
      exact ⟨_, _, _, rfl, HO.out, HB.out⟩
/-- What is handed back where a side comes out. -/
noncomputable def sideOr (xs : List Int) : List Int := if pIn xs then xs else []
set_option maxRecDepth 100000 in
set_option maxHeartbeats 800000 in
theorem l6pDone_any (A : Option Addr) (n c : Nat) (xs : List Int) (w : World) (ha : Rd w w.heap.size A n xs) (hn : n ≤ 1000) :
    Calls Try.prog 56 #[.slice A n c] w (RetOwnB w (sideOr (Srt.up xs)) (pIn (Srt.up xs))) := by
  have HA := Lib.hid ha
  have HL := Lib.hid ha.len
  clear ha
  obtain ⟨b, hb⟩ : ∃ b, pIn (Srt.up xs) = b := ⟨_, rfl⟩
  have hs : sideOr (Srt.up xs) = if b then Srt.up xs else [] := by unfold sideOr; rw [hb]
  rw [hs, hb]
  have HP := Lib.hid hb
  clear hb hs
  cases b with
  | true =>
    go_enter Try.func56, Try.ntmps56
    go_wp2_with fail
    refine (l1Sorted_any _ _ _ _ _ HA.out hn).mono ?_
    rintro e w1 ⟨A1, n1, c1, rfl, ho, hbl⟩
    have hN : n1 ≤ 1000000000 := by
      have hn1 : n1 = n := by rw [← ho.len, (Srt.up_perm xs).length_eq]; exact HL.out
      omega
    have HO := Lib.hid ho
    have HB := Lib.hid hbl
    have hsz := hbl.size
    clear ho hbl
    go_wp2_with fail
    refine (specPowerIn_any _ _ _ _ _ HO.out.rd hN _ HP.out).mono ?_
    rintro e w2 ⟨rfl, hq⟩
    have HQ : Hid (Drn w1 w2) := Lib.hid hq
    have hs2 := HQ.out.below.size
    clear hq
    go_wp2_with fail
    go_ret2
    exact ⟨_, _, _, rfl, HO.out.below HQ.out.below, HB.out.trans (HQ.out.below.mono hsz)⟩
  | false =>
    go_enter Try.func56, Try.ntmps56
    go_wp2_with fail
    refine (l1Sorted_any _ _ _ _ _ HA.out hn).mono ?_
    rintro e w1 ⟨A1, n1, c1, rfl, ho, hbl⟩
    have hN : n1 ≤ 1000000000 := by
      have hn1 : n1 = n := by rw [← ho.len, (Srt.up_perm xs).length_eq]; exact HL.out
      omega
    have HO := Lib.hid ho
    have HB := Lib.hid hbl
    have hsz := hbl.size
    clear ho hbl
    go_wp2_with fail
    refine (specPowerIn_any _ _ _ _ _ HO.out.rd hN _ HP.out).mono ?_
    rintro e w2 ⟨rfl, hq⟩
    have HQ : Hid (Drn w1 w2) := Lib.hid hq
    have hs2 := HQ.out.below.size
    clear hq
    go_wp2_with fail
    go_ret2
    exact ⟨_, _, _, rfl, (own_empty w2).mono (by omega), (HB.out.trans (HQ.out.below.mono hsz)).alloc (by omega) _⟩
end Go.Proofs.Ytbfpllmoaooadaa
