
/- FnExactBinRoom: the walk at the two contracts. -/
import Derived.Test.YtmnjablknjijbaaSpecB
import Derived.Test.YtmnjablknjijbaaWBinRoom
namespace Go.Proofs.Ytmnjablknjijbaa
set_option linter.unusedVariables false
open Go.RowKit
theorem RetOwnB.rd {w : World} {xs : List Int} {b : Bool} {e : Ending} {w' : World} (h : RetOwnB w xs b e w') : RetRdB w xs b e w' := by
  obtain ⟨A, n, c, he, ho, hb⟩ := h
  exact ⟨A, n, c, he, ho.rd, hb⟩
theorem mainExactBinRoom (a0 : Option Addr) (n0 c0 : Nat) (z0 : List Int) (a1 : Int) (a2 : ByteArray) (w : World) (hd0 : Rd w w.heap.size a0 n0 z0) (_w1 : (Lit.int .i64 a1).wf = true) (_w2 : a2.size ≤ maxLen) : Calls Try.prog 7 #[.slice a0 n0 c0, .int .i64 a1, .string a2] w (RetB w true) := by
  cases hs : bkOk z0 a1 a2 with
  | true =>
    have hle := (binsF_in hs).2.1
    obtain ⟨_, _, _, hC1, hC2⟩ := bnOk_in (bkOk_true hs).1
    exact walkExactBinRoom a0 n0 c0 z0 a1 a2 (Pk.rooms a1 (binsF z0 a1 a2)) true (by rw [Pk.rooms_len]; omega) (fun w A n c ha hn => (specBinRoom_any A n c z0 a1 a2 w ha (by omega) true hs (fun _ => ⟨hC1, hC2⟩)).mono fun _ _ h => h.rd) (fun w A n c ha _ => implBinRoom_yes A n c z0 a1 a2 w ha hs) w hd0
  | false => exact walkExactBinRoom a0 n0 c0 z0 a1 a2 [] false (by simp) (fun w A n c ha hn => (specBinRoom_any A n c z0 a1 a2 w ha (by omega) false hs (fun h => by cases h)).mono fun _ _ h => h.rd) (fun w A n c ha hn => implBinRoom_no A n c z0 a1 a2 w ha (by omega) hs) w hd0
end Go.Proofs.Ytmnjablknjijbaa
