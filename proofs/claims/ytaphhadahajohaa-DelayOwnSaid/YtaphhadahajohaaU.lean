/-
  The state of DelayActs' loop.
-/
import Derived.Test.YtaphhadahajohaaT
set_option linter.unusedVariables false
set_option linter.unusedSimpArgs false
namespace Go.Proofs.Ytaphhadahajohaa
open Go.RowKit

structure AS (w W : World) (p b : Nat) (m nn : Int) (L : List (It × List Int)) (F : Nat → Prop) (A : Option Addr) (c : Nat) (M : List Rt) : Prop where
  q : QS W p m nn L F
  fb : ∀ k, F k → w.heap.size ≤ k ∧ k < W.heap.size ∧ k ≠ b
  box : W.heap[b]? = some (.cells #[.slice A M.length c, .int .i64 m] 38 (0, 0))
  bw : w.heap.size ≤ b
  row : RR W (.slice A M.length c) M
  own : ∀ k, (Value.slice A M.length c).ownBlock = some k → ¬ F k ∧ k ≠ b
  bel : Below w.heap.size w W
theorem AS.ext {w W W' : World} {p b : Nat} {m nn : Int} {L : List (It × List Int)} {F : Nat → Prop} {A : Option Addr} {c : Nat} {M : List Rt} (h : AS w W p b m nn L F A c M) (hx : Ext NoB W W') : AS w W' p b m nn L F A c M :=
  ⟨h.q.ext hx (fun _ _ h => h), fun k hk => ⟨(h.fb k hk).1, Nat.lt_of_lt_of_le (h.fb k hk).2.1 hx.size, (h.fb k hk).2.2⟩, hx.obj h.box id, h.bw, h.row.ext hx (fun _ _ h => h), h.own, h.bel.trans (hx.below h.bel.size fun _ h => h.elim)⟩
theorem AS.qstep {w W W' : World} {p b : Nat} {m nn nn' : Int} {L L' : List (It × List Int)} {F G : Nat → Prop} {A : Option Addr} {c : Nat} {M : List Rt} (h : AS w W p b m nn L F A c M) (hq : QS W' p m nn' L' G) (hx : Ext F W W') (hG : ∀ k, G k → F k ∨ W.heap.size ≤ k) :
    AS w W' p b m nn' L' (fun k => G k ∧ k < W'.heap.size) A c M := by
  have hb := blk_lt' h.box
  have hbF : ¬ F b := fun hf => (h.fb b hf).2.2 rfl
  refine ⟨hq.mono fun k hk h => ⟨h, hk⟩, fun k hk => ?_, hx.obj h.box hbF, h.bw, h.row.ext hx (fun k hk => (h.own k hk).1), fun k hk => ⟨fun hf => ?_, (h.own k hk).2⟩, h.bel.trans (hx.below h.bel.size fun k hk => (h.fb k hk).1)⟩
  · rcases hG k hk.1 with h1 | h1
    · exact ⟨(h.fb k h1).1, hk.2, (h.fb k h1).2.2⟩
    · exact ⟨Nat.le_trans h.bel.size h1, hk.2, by omega⟩
  · have hl := QRow.lt h.row k hk
    rcases hG k hf.1 with h1 | h1
    · exact (h.own k hk).1 h1
    · omega
theorem AS.rstep {w W W3 W4 : World} {p b : Nat} {m nn : Int} {L : List (It × List Int)} {F : Nat → Prop} {A A' : Option Addr} {c c' : Nat} {M M' : List Rt} (h : AS w W p b m nn L F A c M) (x1 : Ext NoB W W3) (hr : RR W3 (.slice A' M'.length c') M')
    (ho : ∀ k, (Value.slice A' M'.length c').ownBlock = some k → (Value.slice A M.length c).ownBlock = some k ∨ W.heap.size ≤ k) (x2 : Ext (fun k => k = b) W3 W4) (hb : W4.heap[b]? = some (.cells #[.slice A' M'.length c', .int .i64 m] 38 (0, 0))) :
    AS w W4 p b m nn L F A' c' M' := by
  have hbl := blk_lt' h.box
  have hbF : ∀ k, F k → ¬ k = b := fun k hf => (h.fb k hf).2.2
  have ho' : ∀ k, (Value.slice A' M'.length c').ownBlock = some k → ¬ F k ∧ k ≠ b := fun k hk => by
    rcases ho k hk with h1 | h1
    · exact h.own k h1
    · exact ⟨fun hf => by have := (h.fb k hf).2.1; omega, by omega⟩
  have hz := x1.size
  have hz2 := x2.size
  exact ⟨(h.q.ext x1 (fun _ _ h => h)).ext x2 hbF, fun k hk => ⟨(h.fb k hk).1, by have := (h.fb k hk).2.1; omega, (h.fb k hk).2.2⟩, hb, h.bw, hr.ext x2 (fun k hk => (ho' k hk).2), ho',
    (h.bel.trans (x1.below h.bel.size fun _ h => h.elim)).trans (x2.below (Nat.le_trans h.bel.size x1.size) fun k hk => by rw [hk]; exact h.bw)⟩
theorem two {w : World} {b : Nat} {a0 a1 : Value} {e : TypeId} {fr : Nat × Nat} (h : w.heap[b]? = some (.cells #[a0, a1] e fr)) : w.cell? ⟨b, 0, none⟩ = some a0 ∧ w.cell? ⟨b, 1, none⟩ = some a1 :=
  ⟨by rw [cellOf h]; rfl, by rw [cellOf h]; rfl⟩
theorem four {w : World} {b : Nat} {a0 a1 a2 a3 : Value} {e : TypeId} {fr : Nat × Nat} (h : w.heap[b]? = some (.cells #[a0, a1, a2, a3] e fr)) : w.cell? ⟨b, 0, none⟩ = some a0 ∧ w.cell? ⟨b, 1, none⟩ = some a1 ∧ w.cell? ⟨b, 2, none⟩ = some a2 ∧ w.cell? ⟨b, 3, none⟩ = some a3 :=
  ⟨by rw [cellOf h]; rfl, by rw [cellOf h]; rfl, by rw [cellOf h]; rfl, by rw [cellOf h]; rfl⟩
/-- Behind some rounds. -/
def ActsRel (w : World) (p b : Nat) (m : Int) (k : Nat) (W : World) : Prop := ∃ nn L F A c M, AS w W p b m nn L F A c M ∧ Cor w L M ∧ 0 ≤ nn ∧ nn ≤ k ∧ L.length ≤ k
theorem ActsRel.more {w W : World} {p b : Nat} {m : Int} {k : Nat} (h : ActsRel w p b m k W) {W' : World} (hx : Ext NoB W W') : ActsRel w p b m (k + 1) W' := by
  obtain ⟨nn, L, F, A, c, M, h1, h2, h3, h4, h5⟩ := h
  exact ⟨nn, L, F, A, c, M, h1.ext hx, h2, h3, by omega, by omega⟩
end Go.Proofs.Ytaphhadahajohaa
