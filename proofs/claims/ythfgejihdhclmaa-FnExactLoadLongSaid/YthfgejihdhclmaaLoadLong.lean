/- LoadLong, both packages. -/
import Derived.Test.YthfgejihdhclmaaLoadC
import Derived.Test.YthfgejihdhclmaaSortJ
import Derived.Test.YthfgejihdhclmaaSortS
namespace Go.Proofs.Ythfgejihdhclmaa
set_option linter.unusedVariables false
open Go.RowKit
theorem sumIn_perm {xs ys : List Int} (hp : ys.Perm xs) (h : sumIn xs = true) : sumIn ys = true :=
  sumIn_true (by rw [hp.length_eq]; exact sumIn_len h) (fun x hx => sumIn_get h x (hp.mem_iff.1 hx))
set_option maxHeartbeats 400000 in
theorem specLoadLong_no (A : Option Addr) (n c : Nat) (xs : List Int) (m : Int) (w : World) (ha : Rd w w.heap.size A n xs) (hn : n ≤ 1000000000) (h : ldOk xs m = false) :
    Calls Try.prog 29 #[.slice A n c, .int .i64 m] w (RetIB w 0 false) := by
  go_enter Try.func29, Try.ntmps29
  go_wp2_with (go_at_call 31; refine (l5Given_any _ _ _ _ _ _ ha hn _ h).mono ?_; rintro e w' ⟨rfl, rfl⟩)
  go_ret2
  exact ⟨rfl, Below.refl _ _⟩
set_option maxHeartbeats 400000 in
theorem specLoadLong_yes (A : Option Addr) (n c : Nat) (xs : List Int) (m : Nat) (w : World) (ha : Rd w w.heap.size A n xs) (h : ldOk xs m = true) :
    Calls Try.prog 29 #[.slice A n c, .int .i64 m] w (RetIB w (Ld.mx (sus m (Srt.dn xs))) true) := by
  obtain ⟨hs, hm1, hm2⟩ := ldOk_true h
  have hn0 : n ≤ 10 := by have := sumIn_len hs; have := ha.len; omega
  have hsd := sumIn_perm (Srt.dn_perm xs) hs
  generalize hD : Srt.dn xs = D at hsd ⊢
  have HD := Lib.hid hD
  have HS := Lib.hid hsd
  have HA := Lib.hid ha
  have HH := Lib.hid h
  clear hD hsd ha h hs
  go_enter Try.func29, Try.ntmps29
  go_wp2_with fail
  refine (l5Given_any _ _ _ _ _ _ HA.out (by omega) _ HH.out).mono ?_
  rintro e w' ⟨rfl, rfl⟩
  go_wp2_with fail
  refine (l4Down_any _ _ _ _ _ HA.out (by omega)).mono ?_
  rintro e w1 ⟨A1, n1, c1, rfl, ho, hb⟩
  rw [HD.out] at ho
  have HO := Lib.hid ho.rd
  have HB := Lib.hid hb
  clear ho hb
  go_wp2_with fail
  refine (l5List_any _ _ _ _ _ _ HO.out HS.out (by omega) (by omega)).mono ?_
  rintro e w2 ⟨A2, n2, c2, A3, n3, c3, rfl, h1, h2, hb⟩
  have hl2 := h2.len
  rw [sus_len] at hl2
  have hl2a : n3 ≤ 5 := by omega
  have hl2b : 1 ≤ n3 := by omega
  clear hl2
  have H2 := Lib.hid h2.rd
  have HB2 := Lib.hid (HB.out.trans (hb.mono HB.out.size))
  clear h1 h2 hb
  go_wp2_with fail
  refine (l5Most_any _ _ _ _ _ H2.out (by omega)).mono ?_
  rintro e w2 ⟨rfl, rfl⟩
  go_wp2_with fail
  go_ret2
  exact ⟨rfl, HB2.out⟩
set_option maxHeartbeats 400000 in
theorem implLoadLong_no (A : Option Addr) (n c : Nat) (xs : List Int) (m : Int) (w : World) (ha : Rd w w.heap.size A n xs) (hn : n ≤ 1000000000) (h : ldOk xs m = false) :
    Calls Try.prog 30 #[.slice A n c, .int .i64 m] w (RetIB w 0 false) := by
  go_enter Try.func30, Try.ntmps30
  go_wp2_with (go_at_call 34; refine (loadsTold_any _ _ _ _ _ _ ha hn _ h).mono ?_; rintro e w' ⟨rfl, rfl⟩)
  go_ret2
  exact ⟨rfl, Below.refl _ _⟩
set_option maxHeartbeats 400000 in
theorem implLoadLong_yes (A : Option Addr) (n c : Nat) (xs : List Int) (m : Nat) (w : World) (ha : Rd w w.heap.size A n xs) (h : ldOk xs m = true) :
    Calls Try.prog 30 #[.slice A n c, .int .i64 m] w (RetIB w (Ld.mx (sus m (Srt.dn xs))) true) := by
  obtain ⟨hs, hm1, hm2⟩ := ldOk_true h
  have hn0 : n ≤ 10 := by have := sumIn_len hs; have := ha.len; omega
  have hsd := sumIn_perm (Srt.dn_perm xs) hs
  generalize hD : Srt.dn xs = D at hsd ⊢
  have HD := Lib.hid hD
  have HS := Lib.hid hsd
  have HA := Lib.hid ha
  have HH := Lib.hid h
  clear hD hsd ha h hs
  go_enter Try.func30, Try.ntmps30
  go_wp2_with fail
  refine (loadsTold_any _ _ _ _ _ _ HA.out (by omega) _ HH.out).mono ?_
  rintro e w' ⟨rfl, rfl⟩
  go_wp2_with fail
  refine (inOrder_any _ _ _ _ _ HA.out (by omega)).mono ?_
  rintro e w1 ⟨A1, n1, c1, rfl, ho, hb⟩
  rw [HD.out] at ho
  have HO := Lib.hid ho.rd
  have HB := Lib.hid hb
  clear ho hb
  go_wp2_with fail
  refine (spanByList_any _ _ _ _ _ _ HO.out HS.out (by omega) (by omega)).mono ?_
  rintro e w2 ⟨rfl, hb⟩
  have HB2 := Lib.hid (HB.out.trans (hb.mono HB.out.size))
  clear hb
  go_wp2_with fail
  go_ret2
  exact ⟨rfl, HB2.out⟩
end Go.Proofs.Ythfgejihdhclmaa
