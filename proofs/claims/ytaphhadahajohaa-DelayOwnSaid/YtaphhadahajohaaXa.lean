/-
  What waits while all that is due is popped (DelayOrder's second loop).
-/
import Derived.Test.YtaphhadahajohaaX
set_option linter.unusedVariables false
set_option linter.unusedSimpArgs false
namespace Go.Proofs.Ytaphhadahajohaa
open Go.RowKit

/-- Behind k of tot Pops; bl: the block of the item that was popped last. -/
def PoRel (w : World) (p bl : Nat) (now : Int) (tot len0 k : Nat) (W : World) : Prop :=
  ∃ nn L F ld lt lj v K, QS W p 4096 nn L F ∧ (∀ k, F k → w.heap.size ≤ k ∧ k ≠ bl) ∧ Sg K L ∧ K ≤ 100 ∧ cntD L now + k = tot ∧ L.length + k = len0 ∧ len0 ≤ 100 ∧ w.heap.size ≤ bl ∧
    W.heap[bl]? = some (.cells #[.int .i64 ld, .int .i64 lt, v] 31 (0, 0)) ∧ (ld = -1 ∨ (Aft ld lj L ∧ El W v [lj])) ∧ Below w.heap.size w W
theorem El.one {w : World} {v : Value} {j : Int} (h : El w v [j]) : ∃ g o c, v = .slice (some ⟨g, o, none⟩) 1 c ∧ 1 ≤ c ∧ w.cell? ⟨g, o, none⟩ = some (.int .u8 j) := by
  obtain ⟨n, h⟩ := h
  have hn : n = 1 := by have := h.1; simp at this; omega
  subst hn
  obtain ⟨g, o, c, hv, h1, h2, h3, _⟩ := h.form (by decide)
  refine ⟨g, o, c, hv, h1, ?_⟩
  have := h3 0 (by decide)
  simpa using this
theorem El.cell {w : World} {g o c : Nat} {j : Int} (h : El w (.slice (some ⟨g, o, none⟩) 1 c) [j]) : w.cell? ⟨g, o, none⟩ = some (.int .u8 j) := by
  obtain ⟨g', o', c', hv, _, h3⟩ := h.one
  injection hv with e1 _ _
  injection e1 with e1
  injection e1 with e1 e2
  subst e1; subst e2
  exact h3
/-- What one Pop takes: due, one byte, behind the last one. -/
structure Took (W : World) (p : Nat) (now : Int) (nn : Int) (L : List (It × List Int)) (F : Nat → Prop) (K : Nat) (xd xt xj : Int) (v : Value) (W' : World) : Prop where
  x2 : 0 ≤ xd
  el : El W' v [xj]
  keep : ∀ u bs, El W u bs → El W' u bs
  x : Ext F W W'
  q : ∃ L', QS W' p 4096 nn L' F ∧ Sg K L' ∧ cntD L' now + 1 = cntD L now ∧ L'.length + 1 = L.length ∧ Aft xd xj L'
theorem take_one {F : Nat → Prop} {W0 : World} {p : Nat} {now nn : Int} {L : List (It × List Int)} {K : Nat} (hq0 : QS W0 p 4096 nn L F) (hS : Sg K L) (hc : 0 < cntD L now) (hL : L.length ≤ 100) :
    ∃ (xd xt xj : Int) (gx ox cx : Nat), xd ≤ now ∧ 0 ≤ xd ∧ 0 ≤ xj ∧ xj < K ∧ 1 ≤ cx ∧ (∀ ld lj, Aft ld lj L → ld < xd ∨ (ld = xd ∧ lj < xj)) ∧ ∀ W, QS W p 4096 nn L F →
      Calls Try.prog 11 #[.pointer (some ⟨p, 0, none⟩), .int .i64 now] W fun e W' => e = .returned (.tuple #[.agg #[.int .i64 xd, .int .i64 xt, .slice (some ⟨gx, ox, none⟩) 1 cx], .int .i64 0]) ∧ Took W p now nn L F K xd xt xj (.slice (some ⟨gx, ox, none⟩) 1 cx) W' := by
  obtain ⟨i, hi⟩ := cntD_some hc
  have hil := popI_lt hi
  have hbest : IsBest (dues L) now i := by
    have h1 := bst_best (D := dues L) (now := now) (by rw [dues_len]; exact hi)
    exact h1
  obtain ⟨j, hj1, hj2⟩ := hS.one L[i] (List.getElem_mem hil)
  obtain ⟨a1, a2⟩ := aft_pop hS hil hbest
  have hj3 : L[i].2.headD 0 = (j : Int) := by rw [hj2]; rfl
  rw [hj3] at a2
  have h0 := (hq0.top L[i] (List.getElem_mem hil)).2
  have hel := (hq0.el L[i] (List.getElem_mem hil)).1
  rw [hj2] at hel
  obtain ⟨gx, ox, cx, hv, hcx, _⟩ := hel.one
  refine ⟨L[i].1.due, L[i].1.dest, (j : Int), gx, ox, cx, a1, h0, by omega, by omega, hcx, fun ld lj hA => ?_, fun W hq => ?_⟩
  · have := hA L[i] (List.getElem_mem hil)
    rw [hj3] at this
    exact this
  · refine (pop_keep hq (by decide) now i hil hbest (by omega)).mono ?_
    rintro e W' ⟨h1, h2, h3, h4⟩
    rw [← hv]
    refine ⟨h1, h0, ?_, h4, h3, L.eraseIdx i, h2, hS.erase i, cntD_erase hil a1, ?_, a2⟩
    · have := (hq.el L[i] (List.getElem_mem hil)).1
      rw [hj2] at this
      exact h4 _ _ this
    · rw [List.length_eraseIdx_of_lt hil]; omega
theorem PoRel.next {w W W6 W' : World} {p bl : Nat} {now nn ld lt : Int} {tot len0 m : Nat} {L : List (It × List Int)} {F : Nat → Prop} {K : Nat} {u : Value} {xd xt xj : Int} {v : Value} (hT : Took W p now nn L F K xd xt xj v W6) (hF : ∀ k, F k → w.heap.size ≤ k ∧ k ≠ bl) (hK : K ≤ 100)
    (hc : cntD L now + m = tot) (hl : L.length + m = len0) (hl1 : len0 ≤ 100) (hb : w.heap.size ≤ bl) (hbl : Below w.heap.size w W) (hbx : W.heap[bl]? = some (.cells #[.int .i64 ld, .int .i64 lt, u] 31 (0, 0)))
    (hx : Ext (fun k => k = bl) W6 W') (hbx' : W'.heap[bl]? = some (.cells #[.int .i64 xd, .int .i64 xt, v] 31 (0, 0))) : PoRel w p bl now tot len0 (m + 1) W' := by
  obtain ⟨h2, hel, hkeep, x, L', q, s, c, l, a⟩ := hT
  have hb6 := x.obj hbx (fun h => (hF bl h).2 rfl)
  refine ⟨nn, L', F, xd, xt, xj, v, K, q.ext hx (fun k hk e => (hF k hk).2 e), hF, s, hK, by omega, by omega, hl1, hb, hbx', .inr ⟨a, ?_⟩, hbl.trans ((x.below hbl.size fun k h => (hF k h).1).trans (hx.below (Nat.le_trans hbl.size x.size) fun k h => by rw [h]; exact hb))⟩
  refine hel.ext hx fun k hk e => ?_
  obtain ⟨n, hr⟩ := hel
  exact hr.neBlk hb6 (by decide) (by rw [hk, e])
theorem set3 {W : World} {g : Nat} {a b c v0 v1 v2 : Value} {e : TypeId} (h : W.heap[g]? = some (.cells #[a, b, c] e (0, 0))) : (((W.setCell ⟨g, 0, none⟩ v0).setCell ⟨g, 1, none⟩ v1).setCell ⟨g, 2, none⟩ v2).heap[g]? = some (.cells #[v0, v1, v2] e (0, 0)) := by
  rw [heapSet (heapSet (heapSet h _ _) _ _) _ _]; rfl
theorem ext3 {W6 : World} {o : Obj} {n g : Nat} {v0 v1 v2 : Value} : Ext (fun k => k = g) W6 ((((((W6.alloc o).drewN n).setCell ⟨g, 0, none⟩ v0).setCell ⟨g, 1, none⟩ v1)).setCell ⟨g, 2, none⟩ v2) :=
  ((((Ext.alloc (fun k => k = g) W6 o).andDrewN n).andSet _ _ fun _ => rfl).andSet _ _ fun _ => rfl).andSet _ _ fun _ => rfl
end Go.Proofs.Ytaphhadahajohaa
