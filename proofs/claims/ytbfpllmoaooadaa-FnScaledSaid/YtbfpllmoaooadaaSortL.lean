
/- spec.l1Sorted: the walk. -/
import Derived.Test.YtbfpllmoaooadaaSum
import Derived.Test.YtbfpllmoaooadaaClone
import Derived.Test.YtbfpllmoaooadaaSortP
import Derived.Test.YtbfpllmoaooadaaAppD
import Derived.Deep.DrawnRows
import Derived.Deep.CutBlock
import Derived.Deep.CutRange
namespace Go.Proofs.Ytbfpllmoaooadaa
set_option linter.unusedVariables false
open Go.RowKit
attribute [local go_sem ↓] Go.wp_at_zero Go.wp_at_succ
theorem Own.cap {w : World} {B n c : Nat} {A : Option Addr} {xs : List Int} (h : Own w B A n c xs) : n ≤ c ∧ c ≤ maxLen := by
  rcases h.2 with ⟨h1, h2⟩ | ⟨g, cap, cur, h1, _, _, h3, h4, _⟩
  · injection h1 with e1 e2 e3
    subst e3 h2
    exact ⟨Nat.le_refl _, by unfold maxLen; omega⟩
  · injection h1 with e1 e2 e3
    subst e3
    exact ⟨h3, h4⟩
theorem rd_take {w : World} {B n : Nat} {A : Option Addr} {xs : List Int} (h : Rd w B A n xs) {k : Nat} (hk : k ≤ n) : Rd w B A k (xs.take k) := by
  refine ⟨by have := h.len; simp; omega, fun h0 => ?_⟩
  obtain ⟨b, o, e, hb, hc⟩ := h.at_ (show 0 < n by omega)
  exact ⟨b, o, e, hb, fun j hj => by rw [hc j (by omega)]; simp [List.getD, hj]⟩
theorem own_dropC {w : World} {base n c : Nat} {g : Nat} {xs : List Int} (h : Own w base (some ⟨g, 0, none⟩) n c xs) (k : Nat) (hk : k ≤ n) : Rd w w.heap.size (if c = k then some ⟨g, 0, none⟩ else some ⟨g, k, none⟩) (n - k) (xs.drop k) := by
  split
  · have hc := h.cap
    have e : n - k = 0 := by omega
    refine ⟨by have := h.len; simp; omega, fun h0 => by omega⟩
  · exact own_drop h k
theorem below_drw {B : Nat} {a w : World} (h : Below B a w) : Below B a w.drew := below_drewN h 1
set_option maxRecDepth 100000 in
set_option maxHeartbeats 3200000 in
theorem l1Sorted_any (A0 : Option Addr) (n c0 : Nat) (xs : List Int) (w : World) (ha : Rd w w.heap.size A0 n xs) (hn : n ≤ 1000) :
    Calls Try.prog 75 #[.slice A0 n c0] w (RetOwn w (Srt.up xs)) := by
  have hl := ha.len
  have HA := Lib.hid ha
  have HL := Lib.hid hl
  have HOE := Lib.hid (own_empty w)
  have HB0 := Lib.hid ((Below.refl w.heap.size w).alloc (Nat.le_refl _) (.cells #[] 3))
  clear ha hl
  go_enter Try.func75, Try.ntmps75
  go_wp2_with fail
  go_loopw [3, 4] (fun o i wr => ∃ (k G c : Nat) (S : List Int), k ≤ n ∧ i = .int .i64 k ∧ o = .slice (some ⟨G, 0, none⟩) k c ∧ Hid (S.Perm (xs.take k)) ∧ Hid (S.Pairwise (fun a b => a ≤ b)) ∧ Hid (Own wr w.heap.size (some ⟨G, 0, none⟩) k c S) ∧ Hid (Below w.heap.size w wr)) (fun _ i _ => n - (intOf i).toNat)
  case atStart => exact ⟨0, _, _, [], by omega, rfl, rfl, Lib.hid (by simp), Lib.hid (by simp), HOE, HB0⟩
  case round =>
    obtain ⟨k, G, c, S, hk, rfl, rfl, HP, HS, HO, HB⟩ := hrel
    clear HOE HB0
    by_cases hlt : k < n
    · have hltz : (k : Int) < (n : Int) := by omega
      have dv : decide ((k : Int) < (n : Int)) = true := decide_eq_true hltz
      obtain ⟨b1, o1, rfl, hb1, hcc⟩ := HA.out.at_ hlt
      have g1 : wr.cell? ⟨b1, o1 + k, none⟩ = some (.int .i64 (xs.getD k 0)) := (HB.out.cell (p := ⟨b1, o1 + k, none⟩) hb1).trans (hcc k hlt)
      obtain ⟨v, hv⟩ : ∃ v, xs.getD k 0 = v := ⟨_, rfl⟩
      rw [hv] at g1
      have HV := Lib.hid hv
      clear hv hcc
      have hLS : S.length = k := HO.out.len
      have HLS := Lib.hid hLS
      clear hLS
      have k0 : (0 : Int) ≤ (k : Int) := by omega
      have k3 : ((k : Int)).toNat = k := by omega
      obtain ⟨wm, rfl⟩ : ∃ wm : World, wm = wr := ⟨_, rfl⟩
      go_upto_block 2 with fail
      go_cut [5] from 15 to 30 (fun jv wq => ∃ (j q : Nat), j ≤ k ∧ jv = .int .i64 j ∧ wq = wm.drewN q ∧ Hid ((S.take j ++ [v] ++ S.drop j).Pairwise (fun a b => a ≤ b)))
      case first =>
        go_wp2_with fail
        go_loopw [5] (fun jv wq => ∃ (j q : Nat), j ≤ k ∧ jv = .int .i64 j ∧ wq = wm.drewN q ∧ Hid (∀ p, j ≤ p → p < k → v < S.getD p 0)) (fun jv _ => (intOf jv).toNat)
        case atStart => exact ⟨k, 0, by omega, rfl, rfl, Lib.hid (fun p h1 h2 => by omega)⟩
        case round =>
          obtain ⟨j, q, hj, rfl, rfl, HJ⟩ := hrel
          have stop : (j = 0 ∨ S.getD (j - 1) 0 ≤ v) → Hid ((S.take j ++ [v] ++ S.drop j).Pairwise (fun a b => a ≤ b)) := fun h =>
            Lib.hid (Srt.ins_asc HS.out (by rw [HLS.out]; omega) (fun p h1 h2 => HJ.out p h1 (by rw [HLS.out] at h2; exact h2)) h)
          have STOP := Lib.hid stop
          clear stop
          rcases Nat.eq_zero_or_pos j with h0 | h0
          · subst h0
            have hd0 : decide ((0 : Int) > (0 : Int)) = false := by decide
            go_wp2_with fail
            go_quiet (fail)
            go_wp2_with fail
            go_meet
            exact ⟨0, q + nq, by omega, rfl, World.drewN_drewN _ _ _, STOP.out (Or.inl trivial)⟩
          · obtain ⟨jp, rfl⟩ : ∃ jp, j = jp + 1 := ⟨j - 1, by omega⟩
            have c2 := HO.out.cell (j := jp) (by omega)
            obtain ⟨y, hy⟩ : ∃ y, S.getD jp 0 = y := ⟨_, rfl⟩
            rw [hy] at c2
            have HY := Lib.hid hy
            clear hy
            have jz1 : (jp : Int) < (k : Int) := by omega
            have jg : (0 : Int) < (jp : Int) + 1 := by omega
            have hwp : IntKind.i64.wrap (jp : Int) = (jp : Int) := IntWalk.i64_in _ (by omega)
            by_cases hvy : v < y
            · have dw : decide (v < y) = true := decide_eq_true hvy
              go_wp2_with fail
              go_quiet (fail)
              go_wp2_with fail
              have hN : Hid (∀ p, jp ≤ p → p < k → v < S.getD p 0) := Lib.hid (fun p h1 h2 => by
                by_cases hp : p = jp
                · subst hp; rw [HY.out]; exact hvy
                · exact HJ.out p (by omega) h2)
              go_roundw
              case rel => exact ⟨jp, q + nq, by omega, by go_num, rfl, hN⟩
              case measure => simp [intOf]
            · have dw : decide (v < y) = false := decide_eq_false hvy
              go_wp2_with fail
              go_quiet (fail)
              go_wp2_with fail
              go_meet
              exact ⟨jp + 1, q + nq, by omega, by go_num, World.drewN_drewN _ _ _, STOP.out (Or.inr (by rw [Nat.add_sub_cancel, HY.out]; omega))⟩
      case rest =>
        obtain ⟨j, q, hj, rfl, rfl, HN⟩ := hcut
        have ho := HO.out.drewN q
        have hb := below_drewN HB.out q
        have g2 : (wm.drewN q).cell? ⟨b1, o1 + k, none⟩ = some (.int .i64 v) := g1
        clear g1
        have HO2 := Lib.hid ho
        have HB2 := Lib.hid hb
        clear ho hb HO HB
        generalize wm.drewN q = wv at HO2 HB2 g2 ⊢
        have hcap := HO2.out.cap
        have hw1 : b1 < wv.heap.size := Nat.lt_of_lt_of_le hb1 HB2.out.size
        have R1 : Hid (Rd wv wv.heap.size (some ⟨G, 0, none⟩) j (S.take j)) := Lib.hid (rd_take HO2.out.rd hj)
        have R2 := Lib.hid (own_dropC HO2.out j hj)
        have hj0 : (0 : Int) ≤ (j : Int) := by omega
        have hjk : (j : Int) ≤ (k : Int) := by omega
        have hkc : (k : Int) ≤ (c : Int) := by omega
        have hjc : (j : Int) ≤ (c : Int) := by omega
        have ej : ((j : Int)).toNat = j := by omega
        go_wp2_with fail
        go_region_held3 (fun w' => w'.cell? ⟨b1, o1 + k, none⟩ = some (.int .i64 v)) (first | go_keep | exact (hbA.cell (p := ⟨b1, o1 + k, none⟩) hw1).trans g2 | exact (hbB.cell (p := ⟨b1, o1 + k, none⟩) hw1).trans g2 | exact (hbC.cell (p := ⟨b1, o1 + k, none⟩) hw1).trans g2)
          (first
            | (refine step_app (by rfl) _ _ _ (by rfl) Try.underlying22 wv (by first | exact Below.alloc (Below.refl _ _) (Nat.le_refl _) _ | exact below_drw (Below.alloc (Below.refl _ _) (Nat.le_refl _) _) | exact Below.alloc (Below.alloc (Below.refl _ _) (Nat.le_refl _) _) (by simp) _ | exact below_drw (Below.alloc (Below.alloc (Below.refl _ _) (Nat.le_refl _) _) (by simp) _)) _ _ _ _ (by exact rfl) (by first | exact own_emptyN (by rfl) (by simp) (by simp) | exact Own.drewN (own_emptyN (by rfl) (by simp) (by simp)) 1 | exact Own.drewN (Own.alloc (own_emptyN (by rfl) (by simp) (by simp)) _) 1) _ _ _ _ (by exact rfl) _ (by exact R1.out.below (by first | exact Below.alloc (Below.refl _ _) (Nat.le_refl _) _ | exact below_drw (Below.alloc (Below.refl _ _) (Nat.le_refl _) _) | exact Below.alloc (Below.alloc (Below.refl _ _) (Nat.le_refl _) _) (by simp) _ | exact below_drw (Below.alloc (Below.alloc (Below.refl _ _) (Nat.le_refl _) _) (by simp) _))) (by omega) ?_
               intro A1 cA wA hA hgA hbA
               simp only [Nat.zero_add, List.nil_append] at hA ⊢)
            | (refine step_app (by rfl) _ _ _ (by rfl) Try.underlying22 wv (by first | exact hbA | exact hbA.alloc hbA.size _) _ _ _ _ (by exact rfl) (by first | exact hA | exact hA.alloc _) _ _ _ _ (by exact rfl) _ (by first | exact rd_cell (by simp; rfl) | exact rd_cell (by rw [hgA.cell_far _ (by simp <;> omega) (by simp [blk])]; simp; rfl)) (by omega) ?_
               intro A2 cB wB hB hgB hbB)
            | (refine step_app (by rfl) _ _ _ (by rfl) Try.underlying22 wv (by exact hbB) _ _ _ _ (by exact rfl) (by exact hB) _ _ _ _ (by exact rfl) _ (by exact R2.out.below hbB) (by omega) ?_
               intro A3 cC wC hC hgC hbC))
        all_goals
          have e : j + 1 + (k - j) = k + 1 := by omega
          simp only [e] at hC ⊢
          obtain ⟨G', rfl, _⟩ := hC.form (by omega)
          have HPN : Hid ((S.take j ++ [v] ++ S.drop j).Perm (xs.take (k + 1))) := Lib.hid ((Srt.ins_perm S v j).trans (by
            rw [take_succ_getD (by rw [HL.out]; exact hlt), HV.out]
            exact HP.out.append_right [v]))
          have HON := Lib.hid (hC.mono HB2.out.size)
          have HBN := Lib.hid (HB2.out.trans (hbC.mono HB2.out.size))
          clear hA hB hC hbA hbB hbC hgA hgB hgC HO2 HB2 e
          go_wp2_with fail
          go_roundw
          case rel => exact ⟨k + 1, G', cC, _, by omega, by go_num, rfl, HPN, HN, HON, HBN⟩
          case measure => simp [intOf]; omega
    · have hltz : ¬ (k : Int) < (n : Int) := by omega
      have hkn : k = n := by omega
      subst hkn
      have e1 : xs.take k = xs := List.take_of_length_le (by have := HL.out; omega)
      rw [e1] at HP
      have eS : S = Srt.up xs := Srt.up_eq HP.out HS.out
      subst eS
      go_wp2_with fail
      go_ret
      exact ⟨_, _, _, rfl, HO.out, HB.out⟩
end Go.Proofs.Ytbfpllmoaooadaa
