
/- spec.l4Down: the walk. -/
import Derived.Test.YtbihdajoflaknaaSortI
namespace Go.Proofs.Ytbihdajoflaknaa
set_option linter.unusedVariables false
open Go.RowKit
set_option maxRecDepth 100000 in
set_option maxHeartbeats 1600000 in
theorem l4Down_any (A0 : Option Addr) (n c0 : Nat) (xs : List Int) (w : World) (ha : Rd w w.heap.size A0 n xs) (hn : n ≤ 1000) :
    Calls Try.prog 41 #[.slice A0 n c0] w (RetOwn w (Srt.dn xs)) := by
  have hl := ha.len
  have HA := Lib.hid ha
  have HL := Lib.hid hl
  clear ha hl
  go_enter Try.func41, Try.ntmps41
  go_wp2_with fail
  refine (l1Sorted_any _ _ _ _ _ HA.out hn).mono ?_
  rintro e w1 ⟨A1, n1, c1, rfl, ho, hb⟩
  obtain rfl : n1 = n := by rw [← ho.len, (Srt.up_perm xs).length_eq]; exact HL.out
  have hd : Hid ((Srt.up xs).reverse = Srt.dn xs) := Lib.hid (Srt.up_rev xs)
  generalize Srt.up xs = U at ho hd
  have hU := ho.len
  have HR := Lib.hid ho.rd
  have HLU := Lib.hid hU
  have HOE := Lib.hid (own_empty w1)
  have HB0 := Lib.hid ((Below.refl w1.heap.size w1).alloc (Nat.le_refl _) (.cells #[] 3))
  have HB := Lib.hid hb
  have hs1 := hb.size
  clear ho hb hU
  go_wp2_with fail
  go_loopw [4, 5] (fun o i wr => ∃ (m k : Nat) (x : Int) (A : Option Addr) (c : Nat), m + k = n1 ∧ x = (m : Int) - 1 ∧ i = .int .i64 x ∧ o = .slice A k c ∧ Hid (Own wr w1.heap.size A k c (U.drop m).reverse) ∧ Hid (Below w1.heap.size w1 wr)) (fun _ i _ => (intOf i + 1).toNat)
  case atStart => exact ⟨n1, 0, (n1 : Int) - 1, _, _, by omega, rfl, by go_num, rfl, by rw [List.drop_of_length_le (by rw [HLU.out]; omega)]; exact HOE, HB0⟩
  case round =>
    obtain ⟨m, k, x, A, c, hmk, hx, rfl, rfl, HO, HBW⟩ := hrel
    clear HOE HB0
    rcases Nat.eq_zero_or_pos m with h0 | h0
    · subst h0
      have hxn : ¬ (0 : Int) ≤ x := by omega
      clear hx
      obtain rfl : k = n1 := by omega
      go_wp2_with fail
      go_ret
      rw [List.drop_zero, hd.out] at HO
      exact ⟨_, _, _, rfl, HO.out.mono HB.out.size, HB.out.trans (HBW.out.mono HB.out.size)⟩
    · obtain ⟨p, rfl⟩ : ∃ p, m = p + 1 := ⟨m - 1, by omega⟩
      obtain rfl : x = (p : Int) := by omega
      obtain ⟨b1, o1, rfl, hb1, hcc⟩ := HR.out.at_ (show p < n1 by omega)
      have g1 : wr.cell? ⟨b1, o1 + p, none⟩ = some (.int .i64 (U.getD p 0)) := (HBW.out.cell (p := ⟨b1, o1 + p, none⟩) hb1).trans (hcc p (by omega))
      have hD : Hid ((U.drop p).reverse = (U.drop (p + 1)).reverse ++ [U.getD p 0]) := Lib.hid (by
        rw [List.drop_eq_getElem_cons (show p < U.length by rw [HLU.out]; omega), List.reverse_cons, Srt.getD_eq (by rw [HLU.out]; omega)])
      generalize U.getD p 0 = v at g1 hD
      clear hcc hx
      have p0 : (0 : Int) ≤ (p : Int) := by omega
      have p1 : (p : Int) < (n1 : Int) := by omega
      have p3 : ((p : Int)).toNat = p := by omega
      go_wp2_with (at_builtin; refine wpList_pushN rfl _ _ _ rfl Try.underlying22 rfl HO.out rfl (by simp) (by omega) HBW.out.size ?_; intro A' c' w' ho' hg' hb')
      have HO' := Lib.hid ho'
      have HB' := Lib.hid (HBW.out.grown hg' HBW.out.size (fun g e => (HO.out.lt g e).1))
      clear ho' hg' hb'
      go_wp2_with fail
      go_roundw
      case rel => exact ⟨p, k + 1, (p : Int) - 1, A', c', by omega, rfl, by go_num, rfl, by rw [hD.out]; exact HO', HB'⟩
      case measure => simp [intOf]
end Go.Proofs.Ytbihdajoflaknaa
