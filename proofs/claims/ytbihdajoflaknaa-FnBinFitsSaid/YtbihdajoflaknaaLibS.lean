
/- The laws' helpers on slices of slices: comparison, marks. -/
import Derived.Test.YtbihdajoflaknaaByS
import Derived.Deep.QuietTactic
import Derived.BigQuiet
namespace Go.Proofs.Ytbihdajoflaknaa
set_option linter.unusedVariables false
open Go.RowKit
def RetQ (w : World) (v : Value) (e : Ending) (w' : World) : Prop := e = .returned v ∧ ∃ q, w' = w.drewN q
theorem quiet_retQ {f : FuncId} {args : Array Value} {w : World} {n : Nat} {v : Value} (h : Calls Try.prog f args (w.drewN n) (RetQ (w.drewN n) v)) :
    Calls Try.prog f args (w.drewN n) fun e w'' => e = .returned v ∧ ∃ m, w'' = w.drewN m := h.mono fun _ _ h => by
  obtain ⟨h1, q, h2⟩ := h
  exact ⟨h1, n + q, by rw [h2, World.drewN_drewN]⟩
def Drn (w wr : World) : Prop := ∃ q, wr = w.drewN q
theorem Drn.refl (w : World) : Drn w w := ⟨0, rfl⟩
theorem Drn.more {w wr : World} (h : Drn w wr) (k : Nat) : Drn w (wr.drewN k) := by
  obtain ⟨q, rfl⟩ := h
  exact ⟨q + k, World.drewN_drewN _ _ _⟩
theorem Drn.rd {w wr : World} (h : Drn w wr) {B n : Nat} {A : Option Addr} {xs : List Int} (hr : Rd w B A n xs) : Rd wr B A n xs := by
  obtain ⟨q, rfl⟩ := h
  exact hr
theorem RdF.below {w w' : World} {A : Option Addr} {n : Nat} {fs : List Sl} {B : List (List Int)} (h : RdF w A n fs B) (hb : Below w.heap.size w w') : RdF w' A n fs B := by
  obtain ⟨h1, h2, h3⟩ := h
  refine ⟨h1, fun hn => ?_, fun j hj => ((h3 j hj).below hb).lt⟩
  obtain ⟨b, o, e, hlt, hc⟩ := h2 hn
  exact ⟨b, o, e, Nat.lt_of_lt_of_le hlt hb.size, fun j hj => (hb.cell (p := ⟨b, o + j, none⟩) hlt).trans (hc j hj)⟩
theorem RdF.drn {w wr : World} {A : Option Addr} {n : Nat} {fs : List Sl} {B : List (List Int)} (h : RdF w A n fs B) (hd : Drn w wr) : RdF wr A n fs B := by
  obtain ⟨q, rfl⟩ := hd
  exact h
set_option maxHeartbeats 400000 in
theorem eqIntS_q (A B : Option Addr) (n c d : Nat) (xs : List Int) (w : World) (ha : Rd w w.heap.size A n xs) (hb : Rd w w.heap.size B n xs) (hn : n ≤ 4611686018427387904) :
    Calls Try.prog 10 #[.slice A n c, .slice B n d] w (RetQ w (.bool true)) := by
  have hne : (((n : Nat) : Int) != (n : Int)) = false := by simp
  go_enter Try.func10, Try.ntmps10
  go_wp2
  go_loopw [5] (fun i wr => ∃ k q : Nat, k ≤ n ∧ i = .int .i64 k ∧ wr = w.drewN q) (fun i _ => n - (intOf i).toNat)
  case atStart => exact ⟨0, 0, by omega, rfl, rfl⟩
  case round =>
    obtain ⟨k, q, hk, rfl, rfl⟩ := hrel
    by_cases hlt : k < n
    · obtain ⟨b1, o1, rfl, _, hc1⟩ := ha.at_ hlt
      obtain ⟨b2, o2, rfl, _, hc2⟩ := hb.at_ hlt
      have g1 := hc1 k hlt
      have g2 := hc2 k hlt
      obtain ⟨x, hx⟩ : ∃ x, xs.getD k 0 = x := ⟨_, rfl⟩
      rw [hx] at g1 g2
      clear hc1 hc2 ha hb hx
      have hxx : (x != x) = false := by simp
      have i1 : (0 : Int) ≤ (k : Int) := by omega
      have i2 : (k : Int) < (n : Int) := by omega
      have i3 : ((k : Int)).toNat = k := by omega
      go_wp2
      go_quiet (fail)
      go_wp2
      go_roundw
      case rel => exact ⟨k + 1, q + nq, by omega, by go_num, rfl⟩
      case measure => simp [intOf]; omega
    · go_wp2
      go_ret
      exact ⟨rfl, _, rfl⟩
/-- One row's comparison, the row named. -/
theorem eqRow {w : World} {A A' : Option Addr} {n c n' c' : Nat} {xs : List Int} (ha : Rd w w.heap.size A n xs) (hb : Rd w w.heap.size A' n' xs) (hl : xs.length ≤ 1000000000) : Calls Try.prog 10 #[.slice A n c, .slice A' n' c'] w (RetQ w (.bool true)) := by
  have h1 := ha.len
  have h2 := hb.len
  have e : n = n' := by omega
  subst e
  exact eqIntS_q A A' n c c' xs w ha hb (by omega)
set_option maxRecDepth 100000 in
set_option maxHeartbeats 1600000 in
theorem eqIntSS_same (A A' : Option Addr) (n c c' : Nat) (fs fs' : List Sl) (B : List (List Int)) (w : World) (h : RdF w A n fs B) (h' : RdF w A' n fs' B) (hn : n ≤ 1048576) (hl : ∀ j, j < n → (B.getD j []).length ≤ 1000000000) :
    Calls Try.prog 11 #[.slice A n c, .slice A' n c'] w (RetB w true) := by
  have H := Lib.hid h
  have H' := Lib.hid h'
  have HL := Lib.hid hl
  have hne : (((n : Nat) : Int) != (n : Int)) = false := by simp
  clear h h' hl
  go_enter Try.func11, Try.ntmps11
  go_wp2_with fail
  go_loopw [5] (fun i wr => ∃ k : Nat, k ≤ n ∧ i = .int .i64 k ∧ Hid (Drn w wr)) (fun i _ => n - (intOf i).toNat)
  case atStart => exact ⟨0, by omega, rfl, Lib.hid (Drn.refl w)⟩
  case round =>
    obtain ⟨k, hk, rfl, HD⟩ := hrel
    by_cases hlt : k < n
    · have R1 := H.out.drn HD.out
      have R2 := H'.out.drn HD.out
      obtain ⟨b1, o1, rfl, _, hc1⟩ := R1.2.1 (by omega)
      obtain ⟨b2, o2, rfl, _, hc2⟩ := R2.2.1 (by omega)
      have g1 := hc1 k hlt
      have g2 := hc2 k hlt
      have r1 := R1.2.2 k hlt
      have r2 := R2.2.2 k hlt
      obtain ⟨⟨Ak, nk, ck⟩, hf⟩ : ∃ s, fs.getD k slNil = s := ⟨_, rfl⟩
      obtain ⟨⟨Al, nl, cl⟩, hf'⟩ : ∃ s, fs'.getD k slNil = s := ⟨_, rfl⟩
      rw [hf] at g1 r1
      rw [hf'] at g2 r2
      have g1_ : wr.cell? ⟨b1, o1 + k, none⟩ = some (.slice Ak nk ck) := g1
      have g2_ : wr.cell? ⟨b2, o2 + k, none⟩ = some (.slice Al nl cl) := g2
      have K : Hid (∀ q, Calls Try.prog 10 #[.slice Ak nk ck, .slice Al nl cl] (wr.drewN q) (RetQ (wr.drewN q) (.bool true))) := Lib.hid (fun q => eqRow (w := wr.drewN q) (show Rd (wr.drewN q) (wr.drewN q).heap.size Ak nk (B.getD k []) from r1) (show Rd (wr.drewN q) (wr.drewN q).heap.size Al nl (B.getD k []) from r2) (HL.out k hlt))
      have i1 : (0 : Int) ≤ (k : Int) := by omega
      have i2 : (k : Int) < (n : Int) := by omega
      have i3 : ((k : Int)).toNat = k := by omega
      clear hc1 hc2 hf hf' R1 R2 g1 g2 r1 r2
      go_wp2_with fail
      go_quiet ((go_at_call 10; exact quiet_retQ (K.out _)))
      go_wp2_with fail
      go_roundw
      case rel => exact ⟨k + 1, by omega, by go_num, Lib.hid (HD.out.more _)⟩
      case measure => simp [intOf]; omega
    · go_wp2_with fail
      go_ret
      obtain ⟨q, hq⟩ := HD.out
      exact ⟨rfl, by rw [hq]; exact below_drewN (Below.refl _ _) q⟩
/-- The marks of slices of slices. -/
def marks : Int → List (List Int) → List (List Int)
  | _, [] => []
  | k, ys :: l => iota k ys.length :: marks (k + ys.length) l
/-- How many numbers stand in the first k rows. -/
def upTo (B : List (List Int)) (k : Nat) : Nat := (B.take k).flatten.length
theorem upTo_succ {B : List (List Int)} {k : Nat} (h : k < B.length) : upTo B (k + 1) = upTo B k + (B.getD k []).length := by
  unfold upTo
  rw [List.take_succ_eq_append_getElem h, List.flatten_append, List.length_append]
  congr 1
  simp [List.getD, h]
theorem marks_len : ∀ (k : Int) (B : List (List Int)), (marks k B).length = B.length
  | _, [] => rfl
  | k, ys :: l => by simp [marks, marks_len (k + ys.length) l]
theorem marks_get : ∀ (k0 : Int) (B : List (List Int)) (k : Nat), k < B.length → (marks k0 B).getD k [] = iota (k0 + upTo B k) (B.getD k []).length
  | k0, ys :: l, 0, _ => by simp [marks, upTo]
  | k0, ys :: l, k + 1, h => by
    have ih := marks_get (k0 + ys.length) l k (by simpa using h)
    simp only [marks, List.getD_cons_succ]
    rw [ih]
    congr 1
    unfold upTo
    simp only [List.take_succ_cons, List.flatten_cons, List.length_append]
    omega
end Go.Proofs.Ytbihdajoflaknaa
