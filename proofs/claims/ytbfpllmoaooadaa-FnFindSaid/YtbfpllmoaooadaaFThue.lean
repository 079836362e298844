
/- FnThue: even and odd digits are equal to all but one: the walk. -/
import Derived.Test.YtbfpllmoaooadaaThueI
import Derived.Test.YtbfpllmoaooadaaThueS
import Derived.Test.YtbfpllmoaooadaaPowDegK
import Derived.Test.YtbfpllmoaooadaaDrawP
namespace Go.Proofs.Ytbfpllmoaooadaa
set_option linter.unusedVariables false
open Go.RowKit
/-- Is it a side? By reckoning. -/
def pInB (xs : List Int) : Bool := decide (xs.length ≤ 8) && ((List.range xs.length).all fun j => decide (j + 1 < xs.length → xs.getD j 0 ≤ xs.getD (j + 1) 0) && decide (-50 ≤ xs.getD j 0 ∧ xs.getD j 0 ≤ 50))
theorem pIn_of_B {xs : List Int} (h : pInB xs = true) : pIn xs = true := by
  unfold pInB at h
  rw [Bool.and_eq_true, List.all_eq_true] at h
  obtain ⟨h1, h2⟩ := h
  have h3 : ∀ j, j < xs.length → (j + 1 < xs.length → xs.getD j 0 ≤ xs.getD (j + 1) 0) ∧ (-50 ≤ xs.getD j 0 ∧ xs.getD j 0 ≤ 50) := fun j hj => by
    have := h2 j (List.mem_range.2 hj)
    rw [Bool.and_eq_true, decide_eq_true_eq, decide_eq_true_eq] at this
    exact this
  exact pIn_true.2 ⟨by simpa using h1, fun j hj => (h3 j (by omega)).1 hj, fun j hj => (h3 j hj).2⟩
/-- The degree of two lists, by reckoning. -/
theorem isDeg_of {p q : Nat → Int} (d : Nat) (hd : d ≤ 5) (h : ((List.range (d + 1)).all fun j => p j == q j) = true) (h2 : (p (d + 1) == q (d + 1)) = false) : IsDeg p q d := by
  rw [List.all_eq_true] at h
  refine ⟨by omega, by omega, fun j hj => ?_, fun j hj _ => ?_⟩
  · have := h j (List.mem_range.2 (by omega))
    simpa using this
  · obtain rfl : j = d + 1 := by omega
    simpa using h2
set_option maxRecDepth 100000 in
theorem thue_facts (n : Int) (N : Nat) (hn : n = 1 ∧ N = 2 ∨ n = 2 ∧ N = 4 ∨ n = 3 ∧ N = 8 ∨ n = 4 ∧ N = 16) : pIn (Th.evn N) = true ∧ pIn (Th.odd N) = true ∧ IsDeg (fun j => Nw.ps j (Th.evn N)) (fun j => Nw.ps j (Th.odd N)) (n - 1) := by
  rcases hn with ⟨rfl, rfl⟩ | ⟨rfl, rfl⟩ | ⟨rfl, rfl⟩ | ⟨rfl, rfl⟩
  · rw [Th.thue1.1, Th.thue1.2]
    exact ⟨pIn_of_B (by decide), pIn_of_B (by decide), isDeg_of 0 (by omega) (by decide) (by decide)⟩
  · rw [Th.thue2.1, Th.thue2.2]
    exact ⟨pIn_of_B (by decide), pIn_of_B (by decide), isDeg_of 1 (by omega) (by decide) (by decide)⟩
  · rw [Th.thue3.1, Th.thue3.2]
    exact ⟨pIn_of_B (by decide +kernel), pIn_of_B (by decide +kernel), isDeg_of 2 (by omega) (by decide +kernel) (by decide +kernel)⟩
  · rw [Th.thue4.1, Th.thue4.2]
    exact ⟨pIn_of_B (by decide +kernel), pIn_of_B (by decide +kernel), isDeg_of 3 (by omega) (by decide +kernel) (by decide +kernel)⟩
theorem thue_halves (n : Int) (N : Nat) (hn : n = 1 ∧ N = 2 ∨ n = 2 ∧ N = 4 ∨ n = 3 ∧ N = 8 ∨ n = 4 ∧ N = 16) : (Th.evn N).length + (Th.evn N).length = N ∧ (Th.odd N).length = (Th.evn N).length := by
  rcases hn with ⟨rfl, rfl⟩ | ⟨rfl, rfl⟩ | ⟨rfl, rfl⟩ | ⟨rfl, rfl⟩
  · rw [Th.thue1.1, Th.thue1.2]; decide
  · rw [Th.thue2.1, Th.thue2.2]; decide
  · rw [Th.thue3.1, Th.thue3.2]; decide
  · rw [Th.thue4.1, Th.thue4.2]; decide
set_option maxRecDepth 100000 in
set_option maxHeartbeats 3200000 in
theorem mainThue (a0 : Option Addr) (n0 c0 : Nat) (z0 : List Int) (w : World) (hd0 : Rb w w.heap.size a0 n0 z0) (hk0 : n0 ≤ c0) : Calls Try.prog 14 #[.slice a0 n0 c0] w (RetB w true) := by
  by_cases big : 1048576 < n0
  · go_enter Try.func14, Try.ntmps14
    go_wp2_with fail
    go_ret
    exact ⟨rfl, Below.refl _ _⟩
  have BB := Lib.hid (Below.refl w.heap.size w)
  go_enter Try.func14, Try.ntmps14
  go_wp2_with fail
  refine (drawPowerThue_any _ _ _ _ _ hd0 hk0).mono ?_
  rintro e w1 ⟨t, rfl, t0, t1, hb⟩
  have BB_ := Lib.hid (BB.out.trans (hb.mono BB.out.size)); clear BB; have BB := BB_; clear BB_ hb
  go_wp2_with fail
  by_cases h : 1 ≤ t ∧ t ≤ 4
  · obtain ⟨N, hN⟩ : ∃ N : Nat, t = 1 ∧ N = 2 ∨ t = 2 ∧ N = 4 ∨ t = 3 ∧ N = 8 ∨ t = 4 ∧ N = 16 := by
      rcases (show t = 1 ∨ t = 2 ∨ t = 3 ∨ t = 4 from by omega) with rfl | rfl | rfl | rfl
      · exact ⟨2, by omega⟩
      · exact ⟨4, by omega⟩
      · exact ⟨8, by omega⟩
      · exact ⟨16, by omega⟩
    obtain ⟨f1, f2, f3⟩ := thue_facts t N hN
    obtain ⟨f4, f5⟩ := thue_halves t N hN
    have F1 := Lib.hid f1
    have F2 := Lib.hid f2
    have F3 := Lib.hid f3
    have HI := Lib.hid (fun W => implThue_yes t N hN W)
    have HS := Lib.hid (fun W => specThue_yes t N hN W)
    have F6 : Hid (∀ k : Nat, (Th.evn N).length = k → (t = 1 ∧ k = 1 ∨ t = 2 ∧ k = 2 ∨ t = 3 ∧ k = 4 ∨ t = 4 ∧ k = 8) ∧ (Th.odd N).length = k) := Lib.hid (fun k hk => ⟨by omega, by omega⟩)
    generalize Th.evn N = E at f4 f5 F1 F3 HI HS F6
    generalize Th.odd N = O at f4 f5 F2 F3 HI HS F6
    clear f1 f2 f3 f4 f5 hN h
    refine (HI.out _).mono ?_
    rintro e w2 ⟨A2, n2, c2, B2, m2, d2, rfl, ho2, hp2, _, hb⟩
    have BB_ := Lib.hid (BB.out.trans (hb.mono BB.out.size)); clear BB; have BB := BB_; clear BB_ hb
    have P := Lib.hid ho2.rd; clear ho2
    have Q := Lib.hid hp2.rd; clear hp2
    go_wp2_with fail
    obtain ⟨hk, hk2⟩ := F6.out n2 P.out.len
    obtain rfl : m2 = n2 := by have := Q.out.len; omega
    clear hk2 F6
    refine (HS.out _).mono ?_
    rintro e w3 ⟨A3, n3, c3, B3, m3, d3, rfl, ho3, hp3, _, hb⟩
    have P_ := Lib.hid (P.out.below hb).lt; clear P; have P := P_; clear P_
    have Q_ := Lib.hid (Q.out.below hb).lt; clear Q; have Q := Q_; clear Q_
    have BB_ := Lib.hid (BB.out.trans (hb.mono BB.out.size)); clear BB; have BB := BB_; clear BB_ hb
    have U := Lib.hid ho3.rd; clear ho3
    have V := Lib.hid hp3.rd; clear hp3
    go_wp2_with fail
    obtain rfl : n3 = m2 := by have h1 := U.out.len; have h2 := P.out.len; omega
    obtain rfl : m3 = n3 := by have h1 := V.out.len; have h2 := Q.out.len; omega
    have hle : m3 ≤ 8 := by omega
    refine (sameInts_same _ _ _ _ _ _ _ P.out U.out (by omega)).mono ?_
    rintro e w4 ⟨rfl, hb⟩
    have P_ := Lib.hid (P.out.below hb).lt; clear P; have P := P_; clear P_
    have Q_ := Lib.hid (Q.out.below hb).lt; clear Q; have Q := Q_; clear Q_
    have V_ := Lib.hid (V.out.below hb).lt; clear V; have V := V_; clear V_
    have BB_ := Lib.hid (BB.out.trans (hb.mono BB.out.size)); clear BB; have BB := BB_; clear BB_ hb
    go_wp2_with fail
    refine (sameInts_same _ _ _ _ _ _ _ Q.out V.out (by omega)).mono ?_
    rintro e w5 ⟨rfl, hb⟩
    have P_ := Lib.hid (P.out.below hb).lt; clear P; have P := P_; clear P_
    have Q_ := Lib.hid (Q.out.below hb).lt; clear Q; have Q := Q_; clear Q_
    have BB_ := Lib.hid (BB.out.trans (hb.mono BB.out.size)); clear BB; have BB := BB_; clear BB_ hb
    go_wp2_with fail
    rcases hk with ⟨rfl, rfl⟩ | ⟨rfl, rfl⟩ | ⟨rfl, rfl⟩ | ⟨rfl, rfl⟩
    all_goals
      refine (implPowerDegree_yes _ _ _ _ _ _ _ _ _ P.out Q.out F1.out F2.out _ F3.out).mono ?_
      rintro e w6 ⟨rfl, hb⟩
      have BB_ := Lib.hid (BB.out.trans (hb.mono BB.out.size)); clear BB; have BB := BB_; clear BB_ hb
      go_wp2_with fail
      go_ret
      exact ⟨rfl, BB.out⟩
  · have HI := Lib.hid (fun W => implThue_no t h W)
    have HS := Lib.hid (fun W => specThue_no t h W)
    refine (HI.out _).mono ?_
    rintro e w2 ⟨A2, n2, c2, B2, m2, d2, rfl, ho2, hp2, _, hb⟩
    have BB_ := Lib.hid (BB.out.trans (hb.mono BB.out.size)); clear BB; have BB := BB_; clear BB_ hb
    have P := Lib.hid ho2.rd; clear ho2
    have Q := Lib.hid hp2.rd; clear hp2
    go_wp2_with fail
    have q2 : n2 = 0 := by have := P.out.len; simp at this; omega
    have q3 : m2 = 0 := by have := Q.out.len; simp at this; omega
    subst q2 q3
    refine (HS.out _).mono ?_
    rintro e w3 ⟨A3, n3, c3, B3, m3, d3, rfl, ho3, hp3, _, hb⟩
    have P_ := Lib.hid (P.out.below hb).lt; clear P; have P := P_; clear P_
    have Q_ := Lib.hid (Q.out.below hb).lt; clear Q; have Q := Q_; clear Q_
    have BB_ := Lib.hid (BB.out.trans (hb.mono BB.out.size)); clear BB; have BB := BB_; clear BB_ hb
    have U := Lib.hid ho3.rd; clear ho3
    have V := Lib.hid hp3.rd; clear hp3
    go_wp2_with fail
    have q2 : n3 = 0 := by have := U.out.len; simp at this; omega
    have q3 : m3 = 0 := by have := V.out.len; simp at this; omega
    subst q2 q3
    refine (sameInts_same _ _ _ _ _ _ _ P.out U.out (by omega)).mono ?_
    rintro e w4 ⟨rfl, hb⟩
    have P_ := Lib.hid (P.out.below hb).lt; clear P; have P := P_; clear P_
    have Q_ := Lib.hid (Q.out.below hb).lt; clear Q; have Q := Q_; clear Q_
    have U_ := Lib.hid (U.out.below hb).lt; clear U; have U := U_; clear U_
    have V_ := Lib.hid (V.out.below hb).lt; clear V; have V := V_; clear V_
    have BB_ := Lib.hid (BB.out.trans (hb.mono BB.out.size)); clear BB; have BB := BB_; clear BB_ hb
    go_wp2_with fail
    refine (sameInts_same _ _ _ _ _ _ _ Q.out V.out (by omega)).mono ?_
    rintro e w5 ⟨rfl, hb⟩
    have P_ := Lib.hid (P.out.below hb).lt; clear P; have P := P_; clear P_
    have Q_ := Lib.hid (Q.out.below hb).lt; clear Q; have Q := Q_; clear Q_
    have U_ := Lib.hid (U.out.below hb).lt; clear U; have U := U_; clear U_
    have V_ := Lib.hid (V.out.below hb).lt; clear V; have V := V_; clear V_
    have BB_ := Lib.hid (BB.out.trans (hb.mono BB.out.size)); clear BB; have BB := BB_; clear BB_ hb
    go_wp2_with fail
    refine (sameInts_same _ _ _ _ _ _ _ P.out U.out (by omega)).mono ?_
    rintro e w6 ⟨rfl, hb⟩
    have P_ := Lib.hid (P.out.below hb).lt; clear P; have P := P_; clear P_
    have Q_ := Lib.hid (Q.out.below hb).lt; clear Q; have Q := Q_; clear Q_
    have U_ := Lib.hid (U.out.below hb).lt; clear U; have U := U_; clear U_
    have V_ := Lib.hid (V.out.below hb).lt; clear V; have V := V_; clear V_
    have BB_ := Lib.hid (BB.out.trans (hb.mono BB.out.size)); clear BB; have BB := BB_; clear BB_ hb
    go_wp2_with fail
    refine (sameInts_same _ _ _ _ _ _ _ Q.out V.out (by omega)).mono ?_
    rintro e w7 ⟨rfl, hb⟩
    have P_ := Lib.hid (P.out.below hb).lt; clear P; have P := P_; clear P_
    have Q_ := Lib.hid (Q.out.below hb).lt; clear Q; have Q := Q_; clear Q_
    have U_ := Lib.hid (U.out.below hb).lt; clear U; have U := U_; clear U_
    have V_ := Lib.hid (V.out.below hb).lt; clear V; have V := V_; clear V_
    have BB_ := Lib.hid (BB.out.trans (hb.mono BB.out.size)); clear BB; have BB := BB_; clear BB_ hb
    go_wp2_with fail
    go_ret
    exact ⟨rfl, BB.out⟩
end Go.Proofs.Ytbfpllmoaooadaa
