/-
  Both caches side by side: what holds between two rounds of ReplayActs.
-/
import Derived.Test.YteidkdbngjhopaaW
set_option linter.unusedVariables false
set_option linter.unusedSimpArgs false
namespace Go.Proofs.Yteidkdbngjhopaa
open Go.RowKit

/-- The cache at p holds E; the document's, in the box bm, holds E'. -/
structure RS (w W : World) (p bm : Nat) (size lo : Int) (E : List Ent) (lo' : Int) (E' : List Ent) (F : Nat → Prop) (A : Option Addr) (c : Nat) : Prop where
  cs : CS W p size lo E F
  bx : W.heap[bm]? = some (.cells #[.slice A E'.length c, .int .i64 size, .int .i64 lo'] 28 (0, 0))
  re : RE W (.slice A E'.length c) E'
  sep : ∀ k, F k → w.heap.size ≤ k ∧ k ≠ bm ∧ (Value.slice A E'.length c).ownBlock ≠ some k
  own : ∀ k, (Value.slice A E'.length c).ownBlock = some k → w.heap.size ≤ k
  lt : ∀ k, F k → k < W.heap.size
  x : Below w.heap.size w W
  bm : w.heap.size ≤ bm
theorem RS.ext {w W W' : World} {p bm : Nat} {size lo lo' : Int} {E E' : List Ent} {F : Nat → Prop} {A : Option Addr} {c : Nat} (h : RS w W p bm size lo E lo' E' F A c) (hx : Ext NoB W W') : RS w W' p bm size lo E lo' E' F A c :=
  ⟨h.cs.ext hx (fun _ _ h => h), hx.obj h.bx id, h.re.ext hx (fun _ _ h => h), h.sep, h.own, fun k hk => Nat.lt_of_lt_of_le (h.lt k hk) hx.size, h.x.trans (hx.below h.x.size fun _ h => h.elim), h.bm⟩
/-- The document's step. -/
theorem RS.rstep {w W W4 : World} {p bm : Nat} {size lo lo' lo2 : Int} {E E' E2 : List Ent} {F : Nat → Prop} {A A2 : Option Addr} {c c2 : Nat} (h : RS w W p bm size lo E lo' E' F A c) (x4 : Ext NoB W W4)
    (hre : RE W4 (.slice A2 E2.length c2) E2) (hn : ∀ k, (Value.slice A2 E2.length c2).ownBlock = some k → w.heap.size ≤ k ∧ ¬ F k) (o : Obj) :
    RS w ((((W4.alloc o).setCell ⟨bm, 0, none⟩ (.slice A2 E2.length c2)).setCell ⟨bm, 1, none⟩ (.int .i64 size)).setCell ⟨bm, 2, none⟩ (.int .i64 lo2)) p bm size lo E lo2 E2 F A2 c2 := by
  have x5 := x4.andAlloc o
  have hb5 := x5.obj h.bx id
  have hre5 := hre.ext (Ext.alloc NoB W4 o) (fun _ _ h => h)
  generalize W4.alloc o = W5 at *
  have x6 : Ext (fun k => k = bm) W5 (((W5.setCell ⟨bm, 0, none⟩ (.slice A2 E2.length c2)).setCell ⟨bm, 1, none⟩ (.int .i64 size)).setCell ⟨bm, 2, none⟩ (.int .i64 lo2)) :=
    ((Ext.setCell (F := fun k => k = bm) W5 ⟨bm, 0, none⟩ (.slice A2 E2.length c2) fun _ => rfl).andSet ⟨bm, 1, none⟩ (.int .i64 size) fun _ => rfl).andSet ⟨bm, 2, none⟩ (.int .i64 lo2) fun _ => rfl
  refine ⟨(h.cs.ext x5 (fun _ _ h => h)).ext x6 (fun k hk e => (h.sep k hk).2.1 e), set3 hb5, hre5.ext x6 (fun k hk e => hre5.row.neBlk hb5 (by decide) (by rw [hk, e])), fun k hk => ⟨(h.sep k hk).1, (h.sep k hk).2.1, fun e => (hn k e).2 hk⟩, fun k hk => (hn k hk).1, fun k hk => ?_, ?_, h.bm⟩
  · exact Nat.lt_of_lt_of_le (h.lt k hk) (Nat.le_trans x5.size x6.size)
  · exact h.x.trans ((x5.below (B := w.heap.size) h.x.size fun _ h => h.elim).trans (x6.below (B := w.heap.size) (Nat.le_trans h.x.size x5.size) fun k hk => by rw [hk]; exact h.bm))
/-- A new row, or the old one, is fit. -/
theorem RS.fresh {w W : World} {p bm : Nat} {size lo lo' : Int} {E E' : List Ent} {F : Nat → Prop} {A : Option Addr} {c : Nat} (h : RS w W p bm size lo E lo' E' F A c) {v : Value} (hv : (∀ k, v.ownBlock = some k → W.heap.size ≤ k) ∨ v = .slice A E'.length c) :
    ∀ k, v.ownBlock = some k → w.heap.size ≤ k ∧ ¬ F k := fun k hk => by
  rcases hv with hv | hv
  · exact ⟨Nat.le_trans h.x.size (hv k hk), fun hf => by have := h.lt k hf; have := hv k hk; omega⟩
  · subst hv; exact ⟨h.own k hk, fun hf => (h.sep k hf).2.2 hk⟩
/-- The program's step. -/
theorem RS.cstep {w W W7 : World} {p bm : Nat} {size lo lo' lo2 : Int} {E E' E2 : List Ent} {F G : Nat → Prop} {A : Option Addr} {c : Nat} (h : RS w W p bm size lo E lo' E' F A c) (x7 : Ext F W W7)
    (hcs : CS W7 p size lo2 E2 G) (hG : ∀ k, G k → F k ∨ W.heap.size ≤ k) : RS w W7 p bm size lo2 E2 lo' E' (fun k => G k ∧ k < W7.heap.size) A c := by
  have hbl := blk_lt' h.bx
  refine ⟨hcs.mono fun k hk hg => ⟨hg, hk⟩, x7.obj h.bx (fun hf => (h.sep _ hf).2.1 rfl), h.re.ext x7 (fun k hk hf => (h.sep _ hf).2.2 hk), fun k hk => ?_, h.own, fun k hk => hk.2, h.x.trans (x7.below h.x.size fun k hk => (h.sep k hk).1), h.bm⟩
  rcases hG k hk.1 with h1 | h1
  · exact h.sep k h1
  · refine ⟨Nat.le_trans h.x.size h1, by omega, fun e => ?_⟩
    have := h.re.row.lt k e
    omega
theorem AddE_pos {most low : Int} {E : List Ent} {g : Int} {t : List Int} (h : AddE most low E g t = 0) : 0 ≤ g := by
  unfold AddE at h
  by_cases hg : g < 0
  · rw [if_pos hg] at h; exact absurd h (by decide)
  · omega
/-- The document's Add, in one contract. -/
def RAddEnd (w : World) (most low g : Int) (t : List Int) (E : List Ent) (A : Option Addr) (c : Nat) (e : Ending) (w' : World) : Prop :=
  ∃ A' c' E2, E2 = (if AddE most low E g t = 0 then E ++ [(g, t)] else E) ∧ e = .returned (.tuple #[rq A' E2.length c' most low, .int .i64 (AddE most low E g t)]) ∧ RE w' (.slice A' E2.length c') E2 ∧ Ext NoB w w' ∧ ((∀ k, (Value.slice A' E2.length c').ownBlock = some k → w.heap.size ≤ k) ∨ (A' = A ∧ c' = c ∧ E2 = E))
theorem radd (A : Option Addr) (c : Nat) (most low g : Int) (t : List Int) (ht : Tg t) (hwf : (Lit.int .i64 g).wf = true) (E : List Ent) (w : World) (hr : RE w (.slice A E.length c) E) (h0 : ∀ e ∈ E, 0 ≤ e.1) (hlen : E.length ≤ 100000) :
    Calls Try.prog 11 #[rq A E.length c most low, .int .i64 g, .agg (tv t)] w (RAddEnd w most low g t E A c) := by
  by_cases hE : AddE most low E g t = 0
  · refine (radd_yes A c most low g t ht hwf E w hr h0 hlen hE).mono ?_
    rintro e w' ⟨A', c', h1, h2, h3, h4⟩
    refine ⟨A', c', E ++ [(g, t)], by rw [if_pos hE], by rw [hE, h1]; simp, by simpa using h2, h3, .inl (by simpa using h4)⟩
  · refine (radd_no A c most low g t ht E w hr h0 (by omega) hE).mono ?_
    rintro e w' ⟨h1, h2⟩
    exact ⟨A, c, E, by rw [if_neg hE], h1, hr.ext h2 (fun _ _ h => h), h2, .inr ⟨rfl, rfl, rfl⟩⟩
end Go.Proofs.Yteidkdbngjhopaa
