
/- spec.l4Least: the walk. -/
import Derived.Test.YtmnjablknjijbaaSum
import Derived.Test.YtmnjablknjijbaaApp
import Derived.Test.YtmnjablknjijbaaBits
import Derived.Test.YtmnjablknjijbaaSubP
import Derived.Laws.ShiftsVarLaws
namespace Go.Proofs.Ytmnjablknjijbaa
set_option linter.unusedVariables false
open Go.RowKit
/-- A value, and a world that is another but for draws. -/
def RetD (w : World) (v : Value) (e : Ending) (w' : World) : Prop := e = .returned v ∧ ∃ q, w' = w.drewN q
theorem and_one_i64 (a : Nat) (ha : a < 4611686018427387904) : bits .and .i64 (a : Int) 1 = ((a % 2 : Nat) : Int) := by
  have := and_i64 a 1 ha (by omega)
  rw [Nat.and_one_is_mod] at this
  exact this
theorem sel_sum {xs : List Int} (h : ∀ x ∈ xs, 1 ≤ x ∧ x ≤ 60) (s : Nat) : 0 ≤ Pk.tot (Pk.sel xs s) ∧ Pk.tot (Pk.sel xs s) ≤ 60 * xs.length := by
  have h1 : ∀ l : List Int, (∀ x ∈ l, 1 ≤ x ∧ x ≤ 60) → 0 ≤ Pk.tot l ∧ Pk.tot l ≤ 60 * l.length := by
    intro l
    induction l with
    | nil => intro _; simp
    | cons x l ih =>
      intro h
      have a := h x (by simp)
      have b := ih fun y hy => h y (by simp [hy])
      simp only [Pk.tot_cons, List.length_cons]
      omega
  have a := h1 (Pk.sel xs s) (fun x hx => h x (Pk.sel_mem xs s x hx))
  have b := Pk.sel_len xs s
  omega
theorem sum_step {s k : Nat} {t x : Int} (hs : s < 4096) (hx1 : 1 ≤ x) (hx2 : x ≤ 60) (ht1 : 0 ≤ t) (ht2 : t ≤ 600) : wrap64 (t + wrap64 (bits BinOp.and IntKind.i64 ((s : Int) / 2 ^ k) 1 * x)) = t + ((s / 2 ^ k % 2 : Nat) : Int) * x := by
  have e : (s : Int) / 2 ^ k = ((s / 2 ^ k : Nat) : Int) := by simp
  have hle : s / 2 ^ k ≤ s := Nat.div_le_self _ _
  rw [e, and_one_i64 _ (by omega)]
  rcases Nat.mod_two_eq_zero_or_one (s / 2 ^ k) with e | e
  · rw [e]; simp only [Int.natCast_zero, Int.zero_mul, Int.add_zero]
    rw [IntWalk.wrap64_in 0 (by omega), Int.add_zero]; exact IntWalk.wrap64_in _ (by omega)
  · rw [e]; simp only [Int.natCast_one, Int.one_mul]
    rw [IntWalk.wrap64_in x (by omega)]; exact IntWalk.wrap64_in _ (by omega)
set_option maxHeartbeats 800000 in
theorem l1Sum_any (A : Option Addr) (n c : Nat) (xs : List Int) (s : Nat) (w : World) (ha : Rd w w.heap.size A n xs) (hn : n ≤ 10) (hx : ∀ x ∈ xs, 1 ≤ x ∧ x ≤ 60) (hs : s < 4096) :
    Calls Try.prog 57 #[.slice A n c, .int .i64 s] w (RetD w (.int .i64 (Pk.tot (Pk.sel xs s)))) := by
  have hl := ha.len
  have HX := Lib.hid hx
  clear hx
  go_enter Try.func57, Try.ntmps57
  go_wp2_with fail
  go_loopw [5, 6] (fun t i wr => ∃ k q : Nat, k ≤ n ∧ i = .int .i64 k ∧ t = .int .i64 (Pk.tot (Pk.sel (xs.take k) s)) ∧ wr = w.drewN q) (fun _ i _ => n - (intOf i).toNat)
  case atStart => exact ⟨0, 0, by omega, rfl, rfl, rfl⟩
  case round =>
    obtain ⟨k, q, hk, rfl, rfl, rfl⟩ := hrel
    by_cases hlt : k < n
    · obtain ⟨b1, o1, rfl, _, hc1⟩ := ha.at_ hlt
      have g1 := hc1 k hlt
      obtain ⟨x, hx⟩ : ∃ x, xs.getD k 0 = x := ⟨_, rfl⟩
      have hin := HX.out _ (getD_mem (show k < xs.length by omega))
      rw [hx] at g1 hin
      obtain ⟨hx1, hx2⟩ := hin
      have HT := Lib.hid (Pk.sel_take xs s k (by omega))
      rw [hx] at HT
      obtain ⟨t, ht⟩ : ∃ t, Pk.tot (Pk.sel (xs.take k) s) = t := ⟨_, rfl⟩
      have hts := sel_sum (xs := xs.take k) (fun y hy => HX.out y (List.mem_of_mem_take hy)) s
      rw [ht] at hts
      rw [List.length_take] at hts
      have HTB : Hid (0 ≤ t ∧ t ≤ 600) := Lib.hid (by omega)
      rw [ht]
      rw [ht] at HT
      clear hc1 ha hx ht hts
      have i1 : (0 : Int) ≤ (k : Int) := by omega
      have i2 : (k : Int) < (n : Int) := by omega
      have i3 : ((k : Int)).toNat = k := by omega
      go_wp2_with fail
      go_quiet (fail)
      go_wp2_with fail
      go_roundw
      case rel => exact ⟨k + 1, q + nq, by omega, by go_num, by rw [HT.out, ← sum_step hs hx1 hx2 HTB.out.1 HTB.out.2], rfl⟩
      case measure => simp [intOf]; omega
    · have hkn : k = n := by omega
      subst hkn
      clear ha
      go_wp2_with fail
      go_ret
      exact ⟨ret_int (by rw [List.take_of_length_le (by omega)]), _, rfl⟩
end Go.Proofs.Ytmnjablknjijbaa
