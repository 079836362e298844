
/- impl.LoadWorst's closure: the walk of the orders. -/
import Derived.Test.YtcfakainajpebaaWorstI
namespace Go.Proofs.Ytcfakainajpebaa
set_option linter.unusedVariables false
open Go.RowKit
theorem WS.len {W0 w : World} {bo bw bm bf n c m : Nat} {A : Option Addr} {O : List Int} {v : Int} (h : WS W0 bo bw bm bf A n c m O v w) : O.length = n := h.own.len

set_option maxRecDepth 100000 in
set_option maxHeartbeats 3200000 in
theorem arrange_leaf (m : Nat) (hm1 : 1 ≤ m) (hm2 : m ≤ 5) (W0 : World) (bo bw bm bf : Nat) (A : Option Addr) (n c : Nat) (O : List Int) (v : Int) (w : World) (h : WS W0 bo bw bm bf A n c m O v w) (hs : sumIn O = true) :
    Calls Try.prog 12 #[.int .i64 n, .pointer (some ⟨bo, 0, none⟩), .pointer (some ⟨bw, 0, none⟩), .pointer (some ⟨bm, 0, none⟩), .pointer (some ⟨bf, 0, none⟩)] w
      fun e w' => e = .returned (.tuple #[]) ∧ WS W0 bo bw bm bf A n c m O (max v (spanF m O)) w' := by
  have c1 := h.order
  have c2 := h.worst
  have c3 := h.mach
  have c4 := h.free
  have HH := Lib.hid h
  have HR : Hid (Rd w.drew w.drew.heap.size A n O) := Lib.hid (h.own.drewN 1).rd
  have HS := Lib.hid hs
  have l2 : bw < w.heap.size := World.block_lt_of_cell? w _ c2
  clear h hs
  go_enter Try.func12, Try.ntmps12
  go_wp2_with fail
  go_region_with (go_at_call 13; refine (spanByList_any A n c O m _ HR.out HS.out hm1 hm2).mono ?_; rintro e w2 ⟨rfl, hb⟩; have d2 := (hb.cell (p := ⟨bw, 0, none⟩) l2).trans c2; have d4 := (hb.frozen (p := ⟨bw, 0, none⟩) l2).trans c4)
  all_goals
    rw [gomax]
    have HP := Lib.hid (((HH.out.drewN 1).grown hb).put (max v (Ld.mx (sus m O))))
    clear hb d2 d4
    go_wp2_with fail
    refine bodyPost_ret (results_none rfl _ _ _) rfl ?_
    exact ⟨rfl, HP.out⟩
end Go.Proofs.Ytcfakainajpebaa
