
/- inOrder by falling. -/
import Derived.Test.YtbihdajoflaknaaSortI
import Derived.Test.YtbihdajoflaknaaCloneA
namespace Go.Proofs.Ytbihdajoflaknaa
set_option linter.unusedVariables false
open Go.RowKit
theorem insertion_none (c : Nat) (w : World) (A : Option Addr) :
    Calls Try.prog 43 #[.slice A 0 c, .int .i64 0, .int .i64 0, .func (.func 21) #[] #[]] w (RetV w (.tuple #[])) := by
  go_enter Try.func43, Try.ntmps43
  go_wp2_with fail
  refine wp_loop_rounds 1 ?_
  rw [rounds_succ]
  go_wp2_with fail
  go_end0
  exact ⟨rfl, rfl⟩
/-- What a sort in place hands back. -/
def RetSorted (w : World) (base : Nat) (A : Option Addr) (n c : Nat) (xs : List Int) (e : Ending) (w' : World) : Prop := e = .returned (.tuple #[]) ∧ Own w' base A n c (Srt.dn xs) ∧ w.grownBy w' (blk A)
theorem insertion_own (base : Nat) (A : Option Addr) (n c : Nat) (xs : List Int) (w : World) (ho : Own w base A n c xs) (hn : n ≤ 1000) :
    Calls Try.prog 43 #[.slice A n c, .int .i64 0, .int .i64 n, .func (.func 21) #[] #[]] w (RetSorted w base A n c xs) := by
  rcases Nat.eq_zero_or_pos n with h | h
  · subst h
    obtain rfl : xs = [] := List.eq_nil_of_length_eq_zero ho.len
    refine (insertion_none c w A).mono ?_
    rintro e w' ⟨rfl, rfl⟩
    exact ⟨rfl, by simpa [Srt.dn] using ho, World.grownBy.refl _ _⟩
  · obtain ⟨g, rfl, _⟩ := ho.form h
    refine (insertion_any base g n c xs w ho hn).mono ?_
    rintro e w' ⟨rfl, S, hp, hd, h1, h2⟩
    have e : S = Srt.dn xs := Srt.dn_eq hp (Srt.Des.pairwise (by rw [h1.len]; exact hd))
    subst e
    exact ⟨rfl, h1, h2⟩
set_option maxHeartbeats 800000 in
theorem stable_own (base : Nat) (A : Option Addr) (n c : Nat) (xs : List Int) (w : World) (ho : Own w base A n c xs) (hn : n < 20) :
    Calls Try.prog 38 #[.slice A n c, .int .i64 n, .func (.func 21) #[] #[]] w (RetSorted w base A n c xs) := by
  have H := Lib.hid ho
  clear ho
  have h1 : ¬ (20 : Int) ≤ (n : Int) := by omega
  have h2 : ¬ (20 : Int) < (n : Int) := by omega
  go_enter Try.func38, Try.ntmps38
  go_wp2_with fail
  refine wp_loop_rounds 1 ?_
  rw [rounds_succ]
  go_wp2_with (go_at_call 43; refine (insertion_own _ _ _ _ _ _ H.out (by omega)).mono ?_; rintro e w' ⟨rfl, h1, h2⟩; have H1 := Lib.hid h1; have H2 := Lib.hid h2; clear h1 h2)
  refine wp_loop_rounds 1 ?_
  rw [rounds_succ]
  go_wp2_with fail
  go_end0
  exact ⟨rfl, H1.out, H2.out⟩
theorem sortStable_own (base : Nat) (A : Option Addr) (n c : Nat) (xs : List Int) (w : World) (ho : Own w base A n c xs) (hn : n < 20) :
    Calls Try.prog 32 #[.slice A n c, .func (.func 21) #[] #[]] w (RetSorted w base A n c xs) := by
  have H := Lib.hid ho
  clear ho
  go_enter Try.func32, Try.ntmps32
  go_wp2_with (go_at_call 38; refine (stable_own _ _ _ _ _ _ H.out hn).mono ?_; rintro e w' ⟨rfl, h1, h2⟩; have H1 := Lib.hid h1; have H2 := Lib.hid h2; clear h1 h2)
  go_end0
  exact ⟨rfl, H1.out, H2.out⟩
theorem inOrder_any (A : Option Addr) (n c : Nat) (xs : List Int) (w : World) (ha : Rd w w.heap.size A n xs) (hn : n < 20) :
    Calls Try.prog 20 #[.slice A n c, .func (.func 21) #[] #[]] w (RetOwn w (Srt.dn xs)) := by
  have hl := ha.len
  have H := Lib.hid ha
  clear ha
  go_enter Try.func20, Try.ntmps20
  go_wp2_with fail
  refine (clone_any _ _ _ _ _ H.out (by omega)).mono ?_
  rintro e w1 ⟨A1, n1, c1, rfl, ho, hb⟩
  obtain rfl : n1 = n := by rw [← ho.len]; exact hl
  have HO := Lib.hid ho
  have HB := Lib.hid hb
  clear ho hb
  go_wp2_with fail
  refine (sortStable_own _ _ _ _ _ _ HO.out hn).mono ?_
  rintro e w2 ⟨rfl, h1, h2⟩
  have H1 := Lib.hid h1
  have H2 := Lib.hid (HB.out.grown h2 HB.out.size (fun g e => (HO.out.lt g e).1))
  clear h1 h2
  go_wp2_with fail
  go_ret
  exact ⟨_, _, _, rfl, H1.out, H2.out⟩
end Go.Proofs.Ytbihdajoflaknaa
