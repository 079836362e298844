
/- spec.l1Sorted: the walk. -/
import Derived.Test.YtbpnpceikbedbaaSum
import Derived.Test.YtbpnpceikbedbaaClone
import Derived.Test.YtbpnpceikbedbaaSortP
import Derived.Test.YtbpnpceikbedbaaAppD
import Derived.Deep.DrawnRows
import Derived.Deep.CutBlock
import Derived.Deep.CutRange
namespace Go.Proofs.Ytbpnpceikbedbaa
set_option linter.unusedVariables false
open Go.RowKit
attribute [local go_sem ↓] Go.wp_at_zero Go.wp_at_succ
theorem Own.cap {w : World} {B n c : Nat} {A : Option Addr} {xs : List Int} (h : Own w B A n c xs) : n ≤ c ∧ c ≤ maxLen := by
  rcases h.2 with ⟨h1, h2⟩ | ⟨g, cap, cur, h1, _, _, h3, h4, _⟩
  · injection h1 with e1 e2 e3
    subst e3 h2
    exact ⟨Nat.le_refl _, by unfold maxLen; omega⟩
  · injection h1 with e1 e2 e3
    subst e3
    exact ⟨h3, h4⟩
theorem rd_take {w : World} {B n : Nat} {A : Option Addr} {xs : List Int} (h : Rd w B A n xs) {k : Nat} (hk : k ≤ n) : Rd w B A k (xs.take k) := by
  refine ⟨by have := h.len; simp; omega, fun h0 => ?_⟩
  obtain ⟨b, o, e, hb, hc⟩ := h.at_ (show 0 < n by omega)
  exact ⟨b, o, e, hb, fun j hj => by rw [hc j (by omega)]; simp [List.getD, hj]⟩
theorem own_dropC {w : World} {base n c : Nat} {g : Nat} {xs : List Int} (h : Own w base (some ⟨g, 0, none⟩) n c xs) (k : Nat) (hk : k ≤ n) : Rd w w.heap.size (if c = k then some ⟨g, 0, none⟩ else some ⟨g, k, none⟩) (n - k) (xs.drop k) := by
  split
  · have hc := h.cap
    have e : n - k = 0 := by omega
    refine ⟨by have := h.len; simp; omega, fun h0 => by omega⟩
  · exact own_drop h k
theorem below_drw {B : Nat} {a w : World} (h : Below B a w) : Below B a w.drew := below_drewN h 1
end Go.Proofs.Ytbpnpceikbedbaa
