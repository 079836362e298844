
/- LoadList, LoadSpan, both packages. -/
import Derived.Test.YtcfakainajpebaaLoadB
namespace Go.Proofs.Ytcfakainajpebaa
set_option linter.unusedVariables false
open Go.RowKit
theorem sus_range {xs : List Int} (hs : sumIn xs = true) (m : Nat) : ∀ j, j < m → 0 ≤ (sus m xs).getD j 0 ∧ (sus m xs).getD j 0 ≤ 600 := fun j hj => by
  have h := Ld.byL_range m xs (fun x hx => by have := sumIn_get hs x hx; omega) j hj
  have hn := sumIn_len hs
  unfold sus
  omega
set_option maxHeartbeats 400000 in
theorem spanByList_any (A : Option Addr) (n c : Nat) (xs : List Int) (m : Nat) (w : World) (ha : Rd w w.heap.size A n xs) (hs : sumIn xs = true) (hm1 : 1 ≤ m) (hm2 : m ≤ 5) :
    Calls Try.prog 13 #[.slice A n c, .int .i64 m] w (RetI w (Ld.mx (sus m xs))) := by
  have hr := sus_range hs m
  go_enter Try.func13, Try.ntmps13
  go_wp2_with fail
  refine (byList_any _ _ _ _ _ _ ha hs hm1 hm2).mono ?_
  rintro e w1 ⟨A1, n1, c1, A2, n2, c2, rfl, h1, h2, hb⟩
  have hl2 := h2.len
  rw [sus_len] at hl2
  have hl2a : n2 ≤ 5 := by omega
  have hl2b : 1 ≤ n2 := by omega
  clear hl2
  have H2 := Lib.hid h2.rd
  have HB := Lib.hid hb
  have HR := Lib.hid hr
  clear h1 h2 hb hr ha
  go_wp2_with fail
  refine (slicesMax_any _ _ _ _ _ H2.out (by omega) (by omega) (HR.out 0 (by omega)).1).mono ?_
  rintro e w2 ⟨rfl, rfl⟩
  go_wp2_with fail
  go_ret
  exact ⟨rfl, HB.out⟩
end Go.Proofs.Ytcfakainajpebaa
