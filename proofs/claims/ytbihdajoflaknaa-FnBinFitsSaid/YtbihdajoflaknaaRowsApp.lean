
/- append of values onto a slice of the call's own, of whatever element type of one cell, inside a region that draws its order; another own slice is carried beside it. -/
import Derived.Test.YtbihdajoflaknaaLists
import Derived.Test.YtbihdajoflaknaaAppD
namespace Go.Proofs.Ytbihdajoflaknaa
set_option linter.unusedVariables false
open Go.RowKit
/-- The slice value (A, n, _) reads as the values vs, in a block below B. -/
def RdV (w : World) (B : Nat) (A : Option Addr) (n : Nat) (vs : List Value) : Prop :=
  vs.length = n ∧ (∀ v ∈ vs, v.oneCell' = true) ∧ (0 < n → ∃ b off, A = some ⟨b, off, none⟩ ∧ b < B ∧ ∀ j u, vs[j]? = some u → w.cell? ⟨b, off + j, none⟩ = some u)
theorem RdV.below {w w' : World} {B n : Nat} {A : Option Addr} {vs : List Value} (h : RdV w B A n vs) (hb : Below B w w') : RdV w' B A n vs := by
  refine ⟨h.1, h.2.1, fun hn => ?_⟩
  obtain ⟨b, off, e, hlt, hc⟩ := h.2.2 hn
  exact ⟨b, off, e, hlt, fun j u hu => (hb.cell (p := ⟨b, off + j, none⟩) hlt).trans (hc j u hu)⟩
theorem rdV_ints {w : World} {B n : Nat} {A : Option Addr} {xs : List Int} (h : Rd w B A n xs) : RdV w B A n (ints xs) := by
  refine ⟨by simp [h.len], ints_one xs, fun hn => ?_⟩
  obtain ⟨b, off, e, hlt, hc⟩ := h.at_ hn
  refine ⟨b, off, e, hlt, fun j u hu => ?_⟩
  have hj : j < xs.length := by
    have := (List.getElem?_eq_some_iff.1 hu).1
    simpa using this
  rw [hc j (by rw [← h.len]; exact hj), ← ints_get hj]
  exact hu
theorem rdV_cell {w : World} {g : Nat} {v : Value} (h : w.cell? ⟨g, 0, none⟩ = some v) (h1 : v.oneCell' = true) : RdV w (g + 1) (some ⟨g, 0, none⟩) 1 [v] := by
  refine ⟨rfl, by simpa using h1, fun _ => ⟨g, 0, rfl, by omega, fun j u hu => ?_⟩⟩
  cases j with
  | zero => simp at hu; subst hu; exact h
  | succ j => simp at hu
/-- The slice value (A, n, c) owns the values vs, or has no capacity. -/
def OwnV (w : World) (base : Nat) (e : TypeId) (A : Option Addr) (n c : Nat) (vs : List Value) : Prop :=
  vs.length = n ∧ (c = 0 ∧ n = 0 ∨ 0 < c ∧ w.ownsRow base e 1 (.slice A n c) n vs)
theorem OwnV.zero (w : World) (base : Nat) (e : TypeId) (A : Option Addr) : OwnV w base e A 0 0 [] := ⟨rfl, .inl ⟨rfl, rfl⟩⟩
/-- Two own slices lie apart. -/
def Apt (c : Nat) (A : Option Addr) (c' : Nat) (A' : Option Addr) : Prop := c = 0 ∨ c' = 0 ∨ blk A ≠ blk A'
theorem Apt.symm {c c' : Nat} {A A' : Option Addr} (h : Apt c A c' A') : Apt c' A' c A := by
  rcases h with h | h | h
  · exact .inr (.inl h)
  · exact .inl h
  · exact .inr (.inr (Ne.symm h))
theorem OwnV.lt {w : World} {base n c : Nat} {e : TypeId} {A : Option Addr} {vs : List Value} (h : OwnV w base e A n c vs) (hc : 0 < c) : ∃ g, A = some ⟨g, 0, none⟩ ∧ base ≤ g ∧ g < w.heap.size := by
  rcases h.2 with ⟨h1, _⟩ | ⟨_, h1⟩
  · omega
  · rcases h1.2 with ⟨h2, _⟩ | ⟨g, cap, cur, h2, h3, h4, _⟩
    · injection h2 with e1 e2 e3; omega
    · have hA : A = some ⟨g, 0, none⟩ := by injection h2
      exact ⟨g, hA, h3, (Array.getElem?_eq_some_iff.1 h4).1⟩
theorem OwnV.grown {w w' : World} {base n c c' : Nat} {e : TypeId} {A A' : Option Addr} {vs : List Value} (h : OwnV w base e A n c vs) (hg : w.grownBy w' (if c' = 0 then none else blk A')) (hd : Apt c A c' A') : OwnV w' base e A n c vs := by
  refine ⟨h.1, ?_⟩
  rcases h.2 with h1 | ⟨h0, h1⟩
  · exact .inl h1
  · refine .inr ⟨h0, World.ownsRow.kept h1 hg ?_⟩
    obtain ⟨g, rfl, _⟩ := h.lt h0
    rcases hd with h2 | h2 | h2
    · omega
    · rw [if_pos h2]; right; simp [Value.ownBlock]
    · split
      · right; simp [Value.ownBlock]
      · right; simpa [Value.ownBlock, blk] using h2
theorem OwnV.alloc {w : World} {base n c : Nat} {e : TypeId} {A : Option Addr} {vs : List Value} (h : OwnV w base e A n c vs) (o : Obj) : OwnV (w.alloc o) base e A n c vs :=
  ⟨h.1, h.2.imp id fun h => ⟨h.1, World.ownsRow.alloc h.2 o⟩⟩
theorem OwnV.drewN {w : World} {base n c : Nat} {e : TypeId} {A : Option Addr} {vs : List Value} (h : OwnV w base e A n c vs) (k : Nat) : OwnV (w.drewN k) base e A n c vs := h
theorem OwnV.drew {w : World} {base n c : Nat} {e : TypeId} {A : Option Addr} {vs : List Value} (h : OwnV w base e A n c vs) : OwnV w.drew base e A n c vs := h
/-- append. -/
theorem run_appV (w : World) (t ty e : TypeId) (ht : Try.prog.underlying t = some (.slice e)) (z : Value) (bytes : Nat) (hinf : (Try.prog.info? e).map (fun i => (i.zero, i.size, i.bytes)) = some (some z, 1, bytes)) (hzc : z.cells.size = 1) (hby : bytes ≤ 24)
    (base : Nat) (A : Option Addr) (n c : Nat) (vs : List Value) (hown : OwnV w base e A n c vs) (B : Nat) (A2 : Option Addr) (m c2 : Nat) (ws : List Value) (hr : RdV w B A2 m ws) (hlen : n + m ≤ 1000000) (hbase : base ≤ w.heap.size) :
    ∃ A' c' w', (Builtin.append_ #[t, t] ty #[.slice A n c, .slice A2 m c2]).run Try.prog w = .ok (.slice A' (n + m) c') w' ∧ OwnV w' base e A' (n + m) c' (vs ++ ws) ∧ w.grownBy w' (if c = 0 then none else blk A) ∧ (c' = 0 ∨ (0 < c ∧ blk A' = blk A) ∨ blk A' = some w.heap.size) := by
  obtain ⟨i, hi, hz, hz1, hz2⟩ := info_parts hinf
  have hl := hr.1
  have hlo := hown.1
  have h63 : n + m ≤ maxLen := by unfold maxLen; omega
  by_cases hm : m = 0
  · subst hm
    have hw : ws = [] := List.eq_nil_of_length_eq_zero hl
    subst hw
    have hnc : n ≤ c := by
      rcases hown.2 with ⟨h1, h2⟩ | ⟨h1, h2⟩
      · omega
      · rcases h2.2 with ⟨h3, h4⟩ | ⟨g, cap, cur, h3, _, _, h4, _⟩
        · omega
        · injection h3 with e1 e2 e3; omega
    refine ⟨A, c, w, ?_, by simpa using hown, World.grownBy.refl _ _, ?_⟩
    · cases A <;> cases A2 <;> simp [Builtin.append_, run_underlying ht, sizeOf, typeInfo, hi, Builtin.lenOf, Builtin.firstCells, hnc, storeCells, loadCells, loadCellsFrom]
    · rcases Nat.eq_zero_or_pos c with h | h
      · exact .inl h
      · exact .inr (.inl ⟨h, rfl⟩)
  · obtain ⟨b, off, rfl, _, hc⟩ := hr.2.2 (by omega)
    have hnews : ∀ j u, ws[j]? = some u → w.cell? ((⟨b, off, none⟩ : Addr).add j) = some u := fun j u hu => by rw [Addr.add_lit]; exact hc j u hu
    rcases hown.2 with ⟨hc0, hn0⟩ | ⟨hcp, ho⟩
    · subst hc0 hn0
      have hvs : vs = [] := List.eq_nil_of_length_eq_zero hlo
      subst hvs
      have hge := grownCap_ge w (0 + m) 0 e
      have hcm : grownCap w (0 + m) 0 e ≤ maxLen := grownCap_le_maxLen w (0 + m) 0 e h63
      have hnew : ∀ cs : Array Value, cs.size = grownCap w (0 + m) 0 e * 1 → cs.toList.take ((0 + m) * 1) = ws → OwnV (w.drew.alloc (.cells cs e)) base e (some ⟨w.heap.size, 0, none⟩) (0 + m) (grownCap w (0 + m) 0 e) ([] ++ ws) ∧ w.grownBy (w.drew.alloc (.cells cs e)) none := fun cs h1 h2 =>
        ⟨⟨by simp [hl], .inr ⟨by omega, by simp [hl], .inr ⟨w.heap.size, _, _, rfl, hbase, heap_alloc_new w.drew _, hge, hcm, h1, h2⟩⟩⟩, ⟨rfl, rfl, rfl, by simp, fun k hk _ => Below.heap_alloc w.drew _ k hk⟩⟩
      have hfit : Builtin.nextslicecap (0 + m) 0 * i.bytes ≤ 281474976710656 := growslice_fits (by omega) (by rw [hz2]; exact Nat.le_trans (Nat.mul_le_mul_left _ hby) (by omega))
      have hsz : i.size = 1 := hz1
      cases A with
      | none =>
        have hr := run_append_nil (P := Try.prog) w t ty e i z ht hi hz ⟨b, off, none⟩ m c2 ws (by rw [hsz, hl, Nat.mul_one]) hnews (by omega) (by omega) (by rw [hz2]; exact Nat.le_trans (Nat.mul_le_mul_left _ hby) (by omega))
        simp only [Nat.zero_add, List.nil_append] at hnew ⊢
        refine ⟨_, _, _, hr, (hnew _ ?_ ?_).1, ⟨rfl, rfl, rfl, by simp, fun k hk _ => Below.heap_alloc w.drew _ k hk⟩, .inr (.inr rfl)⟩
        · simp only [Array.size_append, List.size_toArray, size_zeroCells, hzc, hl]
          have := hge
          simp only [Nat.zero_add] at this
          omega
        · simp only [Array.toList_append]
          rw [← hl, Nat.mul_one]
          exact List.take_left
      | some ad =>
        have hr := run_append_grow (P := Try.prog) w t ty e i z ht hi hz ad 0 0 [] (by simp) (by simp) ⟨b, off, none⟩ m c2 ws (by rw [hsz, hl, Nat.mul_one]) hnews (by omega) (by omega) hfit
        refine ⟨_, _, _, hr, (hnew _ ?_ ?_).1, ⟨rfl, rfl, rfl, by simp, fun k hk _ => Below.heap_alloc w.drew _ k hk⟩, .inr (.inr rfl)⟩
        · simp only [Array.size_append, List.size_toArray, size_zeroCells, hzc, hl, List.length_nil]
          omega
        · simp only [Array.toList_append, List.nil_append]
          rw [Nat.zero_add, ← hl, Nat.mul_one]
          exact List.take_left
    · obtain ⟨g, rfl, hg1, hg2⟩ := hown.lt hcp
      obtain ⟨v', w', hrun, h2, h3, _, h5⟩ := run_append_own_at (P := Try.prog) w base t ty e i z 1 bytes ht hi hz hz1 hz2 hzc (by omega) (.slice (some ⟨g, 0, none⟩) n c) n vs ho ⟨b, off, none⟩ m c2 ws (by rw [hl, Nat.mul_one]) hnews hr.2.1 h63 (Nat.le_trans (Nat.mul_le_mul_left _ hby) (by omega)) hbase
      rcases h2.2 with ⟨rfl, h6⟩ | ⟨g', cap, cur, rfl, h7, h8, h9, h10⟩
      · omega
      · refine ⟨some ⟨g', 0, none⟩, cap, w', hrun, ⟨by simp [hlo, hl], .inr ⟨by omega, h2⟩⟩, by rw [if_neg (by omega)]; exact h3, ?_⟩
        rcases h5 with h5 | h5
        · exact .inr (.inl ⟨hcp, h5⟩)
        · exact .inr (.inr h5)
/-- append as a step of a region that draws its order. -/
theorem step_appV {ops : Array Oper} {o : Oper} {a : Act} {K : Act → World → Prop} {Q : Exit → Act → World → Prop} {E : Prop} {w : World} (hgd : o.guard = none) (s x : Operand) (t : TypeId)
    (ho : o.op = .call { callee := .builtin .append, args := #[s, x], argTypes := #[t, t] }) {e : TypeId} (ht : Try.prog.underlying t = some (.slice e)) {z : Value} {bytes : Nat} (hinf : (Try.prog.info? e).map (fun i => (i.zero, i.size, i.bytes)) = some (some z, 1, bytes)) (hzc : z.cells.size = 1) (hby : bytes ≤ 24)
    (W0 : World) (hb : Below W0.heap.size W0 w) (A : Option Addr) (n c : Nat) (vs : List Value) (hs : a.eval s = .slice A n c) (hown : OwnV w W0.heap.size e A n c vs)
    (A2 : Option Addr) (m c2 : Nat) (ws : List Value) (hx : a.eval x = .slice A2 m c2) (B : Nat) (hr : RdV w B A2 m ws) (hlen : n + m ≤ 1000000)
    {e' : TypeId} (Ap : Option Addr) (np cp : Nat) (us : List Value) (hpay : OwnV w W0.heap.size e' Ap np cp us) (hd : Apt cp Ap c A)
    (h : ∀ A' c' w', OwnV w' W0.heap.size e A' (n + m) c' (vs ++ ws) → OwnV w' W0.heap.size e' Ap np cp us → Apt cp Ap c' A' → w.grownBy w' (if c = 0 then none else blk A) → Below W0.heap.size W0 w' → K (a.put o.dst (.slice A' (n + m) c')) w') :
    if Region.wanted o (yielded ops a.tmps) = true then Oper.wp Try.prog o a w K Q else E := by
  have hw : Region.wanted o (yielded ops a.tmps) = true := by simp [Region.wanted, hgd]
  rw [if_pos hw]
  obtain ⟨A', c', w', hrun, h2, h3, h4⟩ := run_appV w t o.type e ht z bytes hinf hzc hby W0.heap.size A n c vs hown B A2 m c2 ws hr hlen hb.size
  unfold Oper.wp execOp
  simp only [ho, resolve, invoke, builtin, Sem.run_bind, Sem.run_pure, Result.andThen_ok, List.map_toArray, List.map_cons, List.map_nil, hs, hx, hrun]
  refine h A' c' w' h2 (hpay.grown h3 hd) ?_ h3 (hb.grown h3 hb.size (fun g eg => ?_))
  · rcases Nat.eq_zero_or_pos cp with h0 | h0
    · exact .inl h0
    · rcases h4 with h4 | ⟨h4, h5⟩ | h4
      · exact .inr (.inl h4)
      · rcases hd with hd | hd | hd
        · exact .inl hd
        · omega
        · exact .inr (.inr (by rw [h5]; exact hd))
      · obtain ⟨g, rfl, _, hlt⟩ := hpay.lt h0
        refine .inr (.inr ?_)
        rw [h4]
        intro e3
        injection e3 with e3
        have e4 : g = w.heap.size := e3
        omega
  · split at eg
    · cases eg
    · rename_i hc
      obtain ⟨g', rfl, hge, _⟩ := hown.lt (by omega)
      injection eg with eg
      have e4 : g' = g := eg
      omega
end Go.Proofs.Ytbihdajoflaknaa
