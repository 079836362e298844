
/- FnBinLeast: least numbers are at least the bound: the walk. -/
import Derived.Test.YtmnjablknjijbaaLeastK
import Derived.Test.YtmnjablknjijbaaBinB
import Derived.Test.YtmnjablknjijbaaDrawC
namespace Go.Proofs.Ytmnjablknjijbaa
set_option linter.unusedVariables false
open Go.RowKit
/-- There is a least number. -/
theorem least_any {C : Int} {xs : List Int} (hx : ∀ x ∈ xs, 0 ≤ x ∧ x ≤ C) : Pk.IsLeast C xs (leastF C xs) := by
  have hp : ∀ x ∈ xs, 0 ≤ x := fun x hm => (hx x hm).1
  have h0 : Pk.Packs xs C xs.length := (Pk.can_packs hp).1 (Pk.packs_len xs hx)
  have : ∃ k, Pk.IsLeast C xs k := by
    classical
    have hex : ∃ k, Pk.Packs xs C k := ⟨_, h0⟩
    have key : ∀ n, Pk.Packs xs C n → ∃ k, Pk.IsLeast C xs k := by
      intro n
      induction n using Nat.strongRecOn with
      | ind n ih =>
        intro hn
        by_cases hm : ∃ m, m < n ∧ Pk.Packs xs C m
        · obtain ⟨m, h1, h2⟩ := hm
          exact ih m h1 h2
        · refine ⟨n, hn, fun m hm2 => ?_⟩
          rcases Nat.lt_or_ge m n with h | h
          · exact absurd ⟨m, h, hm2⟩ hm
          · exact h
    exact key _ h0
  exact Classical.epsilon_spec this
set_option maxRecDepth 100000 in
set_option maxHeartbeats 1600000 in
theorem mainBinLeast (a0 : Option Addr) (n0 c0 : Nat) (z0 : List Int) (w : World) (hd0 : Rb w w.heap.size a0 n0 z0) (hk0 : n0 ≤ c0) : Calls Try.prog 4 #[.slice a0 n0 c0] w (RetB w true) := by
  by_cases big : 1048576 < n0
  · go_enter Try.func4, Try.ntmps4
    go_wp2_with fail
    go_ret
    exact ⟨rfl, Below.refl _ _⟩
  have BB := Lib.hid (Below.refl w.heap.size w)
  go_enter Try.func4, Try.ntmps4
  go_wp2_with fail
  refine (drawBinLeast_any _ _ _ _ _ hd0 hk0).mono ?_
  rintro e w1 ⟨A, n, c, xs, v, rfl, ho, hn, hsn, hb⟩
  have BB_ := Lib.hid (BB.out.trans (hb.mono BB.out.size)); clear BB; have BB := BB_; clear BB_ hb
  have R := Lib.hid ho.rd; clear ho
  go_wp2_with fail
  cases hs : bnOk xs v with
  | false =>
    have HS := Lib.hid hs
    clear hs
    refine (implBinLeast_no _ _ _ _ _ _ R.out (by omega) HS.out).mono ?_
    rintro e w2 ⟨rfl, hb⟩
    have R_ := Lib.hid (R.out.below hb).lt; clear R; have R := R_; clear R_
    have BB_ := Lib.hid (BB.out.trans (hb.mono BB.out.size)); clear BB; have BB := BB_; clear BB_ hb
    go_wp2_with fail
    refine (specBinLeast_no _ _ _ _ _ _ R.out (by omega) HS.out).mono ?_
    rintro e w3 ⟨rfl, hb⟩
    have BB_ := Lib.hid (BB.out.trans (hb.mono BB.out.size)); clear BB; have BB := BB_; clear BB_ hb
    go_wp2_with fail
    go_ret
    exact ⟨rfl, BB.out⟩
  | true =>
    have HS := Lib.hid hs
    obtain ⟨h1, h2, h3, h4, h5⟩ := bnOk_in hs
    have hl := R.out.len
    have hx3 : ∀ x ∈ xs, 0 ≤ x ∧ x ≤ v := fun x hm => by have := h3 x hm; omega
    have hle := least_any hx3
    have hb := bbnd_least h2 (fun x hm => (h3 x hm).2) h4 hle
    have hll := least_le hle hx3
    obtain ⟨hb1, hb2⟩ := hb
    obtain ⟨k, hk⟩ : ∃ k, leastF v xs = k := ⟨_, rfl⟩
    obtain ⟨b, hbb⟩ : ∃ b, bbnd v xs = b := ⟨_, rfl⟩
    have K1 : Hid (∀ (A : Option Addr) (n c : Nat) (w : World), Rd w w.heap.size A n xs → Calls Try.prog 15 #[.slice A n c, .int .i64 v] w (RetIB w (k : Int) true)) := Lib.hid (fun A n c w ha => by rw [← hk]; exact implBinLeast_yes A n c xs v w ha HS.out)
    have K2 : Hid (∀ (A : Option Addr) (n c : Nat) (w : World), Rd w w.heap.size A n xs → Calls Try.prog 13 #[.slice A n c, .int .i64 v] w (RetIB w (k : Int) true)) := Lib.hid (fun A n c w ha => by rw [← hk]; exact specBinLeast_yes A n c xs v w ha HS.out)
    have K3 : Hid (∀ (A : Option Addr) (n c : Nat) (w : World), Rd w w.heap.size A n xs → Calls Try.prog 18 #[.slice A n c, .int .i64 v] w (RetIB w b true)) := Lib.hid (fun A n c w ha => by rw [← hbb]; exact implBinBound_yes A n c xs v w ha HS.out)
    rw [hk] at hb1 hb2 hll
    rw [hbb] at hb1 hb2
    have hkn : (k : Int) ≤ (n : Int) := by omega
    have hk10 : (k : Int) ≤ 10 := by omega
    have hb0 : 0 ≤ b := by omega
    have m1 : IntKind.i64.wrap (2 * b) = 2 * b := IntWalk.i64_in _ (by omega)
    have d1 : decide (b ≤ (k : Int)) = true := by simpa using hb1
    have d2 : decide ((k : Int) ≤ 2 * b) = true := by simpa using hb2
    have d3 : decide ((k : Int) ≤ (n : Int)) = true := by simpa using hkn
    have e1 : ((k : Int) != (k : Int)) = false := by simp
    clear hs hx3 hle hk hbb h1 h2 h3 hll hsn
    refine (K1.out _ _ _ _ R.out).mono ?_
    rintro e w2 ⟨rfl, hb⟩
    have R_ := Lib.hid (R.out.below hb).lt; clear R; have R := R_; clear R_
    have BB_ := Lib.hid (BB.out.trans (hb.mono BB.out.size)); clear BB; have BB := BB_; clear BB_ hb
    go_wp2_with fail
    refine (K2.out _ _ _ _ R.out).mono ?_
    rintro e w3 ⟨rfl, hb⟩
    have R_ := Lib.hid (R.out.below hb).lt; clear R; have R := R_; clear R_
    have BB_ := Lib.hid (BB.out.trans (hb.mono BB.out.size)); clear BB; have BB := BB_; clear BB_ hb
    go_wp2_with fail
    refine (K3.out _ _ _ _ R.out).mono ?_
    rintro e w4 ⟨rfl, hb⟩
    have BB_ := Lib.hid (BB.out.trans (hb.mono BB.out.size)); clear BB; have BB := BB_; clear BB_ hb
    go_wp2_with fail
    go_ret
    exact ⟨rfl, BB.out⟩
end Go.Proofs.Ytmnjablknjijbaa
