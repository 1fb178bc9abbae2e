/-
  The document's Add: what it refuses.
-/
import Derived.Test.YteidkdbngjhopaaT
set_option linter.unusedVariables false
set_option linter.unusedSimpArgs false
namespace Go.Proofs.Yteidkdbngjhopaa
open Go.RowKit

/-- The result of Add, or Forget. -/
theorem radd_end {W : World} {a : Act} {R : Ending → World → Prop} {m l e : Int} {A : Option Addr} {n c : Nat} (hd : a.defers = []) {b : Nat}
    (h6 : a.tmps.getD 6 undef = .pointer (some ⟨b, 0, none⟩)) (h7 : a.tmps.getD 7 undef = .int .i64 e) (hb : W.heap[b]? = some (.cells #[.slice A n c, .int .i64 m, .int .i64 l] 28 (0, 0)))
    (hR : R (.returned (.tuple #[rq A n c m l, .int .i64 e])) W) : bodyPost Try.prog Try.f11 R .ret a W := by
  obtain ⟨c0, c1, c2⟩ := three hb
  refine bodyPost_ret (v := .tuple #[rq A n c m l, .int .i64 e]) ?_ hd hR
  rw [Array.getD_eq_getD_getElem?] at h6 h7
  simp [results, Try.results11, go_sem, h6, h7, c0, c1, c2]
theorem set3 {W : World} {g : Nat} {a b c v0 v1 v2 : Value} {e : TypeId} (h : W.heap[g]? = some (.cells #[a, b, c] e (0, 0))) : (((W.setCell ⟨g, 0, none⟩ v0).setCell ⟨g, 1, none⟩ v1).setCell ⟨g, 2, none⟩ v2).heap[g]? = some (.cells #[v0, v1, v2] e (0, 0)) := by
  rw [heapSet (heapSet (heapSet h _ _) _ _) _ _]; rfl
/-- The boxes of Add. -/
structure AB (w W : World) (A : Option Addr) (n c : Nat) (m l : Int) (B : List Value) : Prop where
  q : W.heap[w.heap.size]? = some (.cells #[.slice A n c, .int .i64 m, .int .i64 l] 28 (0, 0))
  t : W.heap[w.heap.size + 1]? = some (.cells B.toArray 30 (0, 0))
  r : W.heap[w.heap.size + 1 + 1]? = some (.cells #[.slice none 0 0, .int .i64 0, .int .i64 0] 28 (0, 0))
  x : Ext NoB w W
theorem AB.start (w : World) (A : Option Addr) (n c : Nat) (m l : Int) (B : List Value) : AB w (((w.alloc (.cells #[.slice A n c, .int .i64 m, .int .i64 l] 28)).alloc (.cells B.toArray 30)).alloc (.cells #[.slice none 0 0, .int .i64 0, .int .i64 0] 28)) A n c m l B := by
  refine ⟨(Ext.alloc NoB _ _).obj ((Ext.alloc NoB _ _).obj (heapNew w _) id) id, (Ext.alloc NoB _ _).obj ?_ id, ?_, ((Ext.alloc NoB _ _).andAlloc _).andAlloc _⟩
  · have := heapNew (w.alloc (.cells #[.slice A n c, .int .i64 m, .int .i64 l] 28)) (.cells B.toArray 30)
    simpa using this
  · have := heapNew ((w.alloc (.cells #[.slice A n c, .int .i64 m, .int .i64 l] 28)).alloc (.cells B.toArray 30)) (.cells #[.slice none 0 0, .int .i64 0, .int .i64 0] 28)
    simpa using this
theorem AB.ext {w W W' : World} {A : Option Addr} {n c : Nat} {m l : Int} {B : List Value} (h : AB w W A n c m l B) (hx : Ext NoB W W') : AB w W' A n c m l B := ⟨hx.obj h.q id, hx.obj h.t id, hx.obj h.r id, h.x.then hx⟩
/-- The result's box is written, and read. -/
theorem AB.fin {w W : World} {A : Option Addr} {n c : Nat} {m l : Int} {B : List Value} (h : AB w W A n c m l B) (A' : Option Addr) (n' c' : Nat) (m' l' : Int) :
    ((((W.setCell ⟨w.heap.size + 1 + 1, 0, none⟩ (.slice A' n' c')).setCell ⟨w.heap.size + 1 + 1, 1, none⟩ (.int .i64 m')).setCell ⟨w.heap.size + 1 + 1, 2, none⟩ (.int .i64 l')).heap[w.heap.size + 1 + 1]? = some (.cells #[.slice A' n' c', .int .i64 m', .int .i64 l'] 28 (0, 0))) ∧
      Ext NoB w (((W.setCell ⟨w.heap.size + 1 + 1, 0, none⟩ (.slice A' n' c')).setCell ⟨w.heap.size + 1 + 1, 1, none⟩ (.int .i64 m')).setCell ⟨w.heap.size + 1 + 1, 2, none⟩ (.int .i64 l')) :=
  ⟨set3 h.r, ((h.x.andSet _ _ fun h => absurd h (by simp; omega)).andSet _ _ fun h => absurd h (by simp; omega)).andSet _ _ fun h => absurd h (by simp; omega)⟩
theorem tags_zero {E : List Ent} {g : Int} : ((tagsOf E g).length : Int) = 0 ↔ g ∉ gl E := by
  constructor
  · intro h hm
    obtain ⟨t, ht⟩ := mem_gl.1 hm
    have := List.length_pos_of_mem (mem_tagsOf.2 ht)
    omega
  · intro h; rw [tagsOf_nil h]; rfl
set_option maxHeartbeats 1600000 in
theorem radd_no (A : Option Addr) (c : Nat) (most low g : Int) (t : List Int) (ht : Tg t) (E : List Ent) (w : World) (hr : RE w (.slice A E.length c) E) (h0 : ∀ e ∈ E, 0 ≤ e.1) (hlen : E.length ≤ 1000000) (hE : AddE most low E g t ≠ 0) :
    Calls Try.prog 11 #[rq A E.length c most low, .int .i64 g, .agg (tv t)] w fun e w' => e = .returned (.tuple #[rq A E.length c most low, .int .i64 (AddE most low E g t)]) ∧ Ext NoB w w' := by
  have hb := AB.start w A E.length c most low (tvs t)
  have hc16 := fun W (hW : RE W (.slice A E.length c) E) => len16 A c most low g E W hW hlen
  have hc14 := fun W (hW : RE W (.slice A E.length c) E) => has14 A c most low g t ht E W hW hlen
  have hc19 := fun W (hW : RE W (.slice A E.length c) E) => gens19 A c most low E W hW h0 hlen
  have hrx := fun W (hW : Ext NoB w W) => hr.ext hW (fun _ _ h => h)
  have lA := tvs_len ht
  have sA : (Try.prog.info? 30).map (·.size) = some (tvs t).toArray.size := by rw [List.size_toArray, lA]; exact size30
  have hA : (tv t).size = 16 := by rw [List.size_toArray]; exact lA
  unfold tv at *
  have HC16 := Lib.hid hc16
  have HC14 := Lib.hid hc14
  have HC19 := Lib.hid hc19
  have HRX := Lib.hid hrx
  have hgg := gl_len E
  clear hc16 hc14 hc19 hrx hr
  by_cases h1 : g < 0
  · have hE2 : AddE most low E g t = 2 := by unfold AddE; rw [if_pos h1]
    rw [hE2]
    clear hE hE2
    generalize tvs t = B at *
    have HB := Lib.hid hb
    clear hb lA
    go_enter Try.func11, Try.ntmps11
    go_upto_region 1 with (fail)
    generalize World.alloc (World.alloc (World.alloc w _) _) _ = W1 at HB ⊢
    obtain ⟨q0, q1, q2⟩ := three HB.out.q
    go_wp2_with (first
      | (go_at_call 16; (with_reducible refine (HC16.out _ (HRX.out _ HB.out.x)).mono ?_); rintro e W2 ⟨rfl, x2⟩; have hb2 := HB.out.ext x2; obtain ⟨q0, q1, q2⟩ := three hb2.q; obtain ⟨r0, r1, r2⟩ := three hb2.r; have rf := freeOf hb2.r))
    obtain ⟨f1, f2⟩ := hb2.fin A E.length c most low
    exact radd_end rfl rfl rfl f1 ⟨rfl, f2⟩
  by_cases h2 : g < low
  · have hE2 : AddE most low E g t = 13 := by unfold AddE; rw [if_neg h1, if_pos h2]
    rw [hE2]
    clear hE hE2
    generalize tvs t = B at *
    have HB := Lib.hid hb
    clear hb lA
    go_enter Try.func11, Try.ntmps11
    go_upto_region 1 with (fail)
    generalize World.alloc (World.alloc (World.alloc w _) _) _ = W1 at HB ⊢
    obtain ⟨q0, q1, q2⟩ := three HB.out.q
    go_wp2_with (first
      | (go_at_call 16; (with_reducible refine (HC16.out _ (HRX.out _ HB.out.x)).mono ?_); rintro e W2 ⟨rfl, x2⟩; have hb2 := HB.out.ext x2; obtain ⟨q0, q1, q2⟩ := three hb2.q; obtain ⟨r0, r1, r2⟩ := three hb2.r; have rf := freeOf hb2.r))
    obtain ⟨f1, f2⟩ := hb2.fin A E.length c most low
    exact radd_end rfl rfl rfl f1 ⟨rfl, f2⟩
  by_cases h3 : (g, t) ∈ E
  · have hE2 : AddE most low E g t = 11 := by unfold AddE; rw [if_neg h1, if_neg h2, if_pos h3]
    rw [hE2]
    have HC14 : Hid (∀ W, RE W (.slice A E.length c) E → Calls Try.prog 14 #[rq A E.length c most low, .int .i64 g, .agg (tvs t).toArray] W fun e w' => e = .returned (.bool true) ∧ Ext NoB W w') := Lib.hid (fun W hW => (HC14.out W hW).mono fun e w' h => by simpa only [h3, decide_true] using h)
    clear hE hE2 h3
    generalize tvs t = B at *
    have HB := Lib.hid hb
    clear hb lA
    go_enter Try.func11, Try.ntmps11
    go_upto_region 1 with (fail)
    generalize World.alloc (World.alloc (World.alloc w _) _) _ = W1 at HB ⊢
    obtain ⟨q0, q1, q2⟩ := three HB.out.q
    go_wp2_with (first
      | (go_at_call 16; (with_reducible refine (HC16.out _ (HRX.out _ HB.out.x)).mono ?_); rintro e W2 ⟨rfl, x2⟩; have hb2 := HB.out.ext x2; obtain ⟨q0, q1, q2⟩ := three hb2.q; obtain ⟨r0, r1, r2⟩ := three hb2.r; have rf := freeOf hb2.r)
      | ((with_reducible show wpList _ _ _ (⟨_, .load 30 _, _, _, _, _⟩ :: _) _ _); refine wpList_load_arr (by rfl) 30 _ rfl (w.heap.size + 1) rfl 30 B.toArray (0, 0) _ hb2.t Try.underlying30 rfl sA ?_)
      | (go_at_call 14; (with_reducible refine (HC14.out _ (HRX.out _ hb2.x)).mono ?_); rintro e W3 ⟨rfl, x3⟩; have hb3 := hb2.ext x3; obtain ⟨q0, q1, q2⟩ := three hb3.q; obtain ⟨r0, r1, r2⟩ := three hb3.r; have rf := freeOf hb3.r))
    obtain ⟨f1, f2⟩ := hb3.fin A E.length c most low
    exact radd_end rfl rfl rfl f1 ⟨rfl, f2⟩
  have h4 : most ≤ ((tagsOf E g).length : Int) ∨ (g ∉ gl E ∧ 16 ≤ (gl E).length) := by
    rcases Classical.em (most ≤ ((tagsOf E g).length : Int) ∨ (g ∉ gl E ∧ 16 ≤ (gl E).length)) with h | h
    · exact h
    · exact absurd (by unfold AddE; rw [if_neg h1, if_neg h2, if_neg h3, if_neg h]) hE
  have hE2 : AddE most low E g t = 8 := by unfold AddE; rw [if_neg h1, if_neg h2, if_neg h3, if_pos h4]
  rw [hE2]
  have HC14 : Hid (∀ W, RE W (.slice A E.length c) E → Calls Try.prog 14 #[rq A E.length c most low, .int .i64 g, .agg (tvs t).toArray] W fun e w' => e = .returned (.bool false) ∧ Ext NoB W w') := Lib.hid (fun W hW => (HC14.out W hW).mono fun e w' h => by simpa only [h3, decide_false] using h)
  clear hE hE2 h3
  by_cases h5 : most ≤ ((tagsOf E g).length : Int)
  · clear h4
    generalize ((tagsOf E g).length : Int) = nt at *
    generalize tvs t = B at *
    have HB := Lib.hid hb
    clear hb lA
    go_enter Try.func11, Try.ntmps11
    go_upto_region 1 with (fail)
    generalize World.alloc (World.alloc (World.alloc w _) _) _ = W1 at HB ⊢
    obtain ⟨q0, q1, q2⟩ := three HB.out.q
    go_wp2_with (first
      | (go_at_call 16; (with_reducible refine (HC16.out _ (HRX.out _ HB.out.x)).mono ?_); rintro e W2 ⟨rfl, x2⟩; have hb2 := HB.out.ext x2; obtain ⟨q0, q1, q2⟩ := three hb2.q; obtain ⟨r0, r1, r2⟩ := three hb2.r; have rf := freeOf hb2.r)
      | ((with_reducible show wpList _ _ _ (⟨_, .load 30 _, _, _, _, _⟩ :: _) _ _); refine wpList_load_arr (by rfl) 30 _ rfl (w.heap.size + 1) rfl 30 B.toArray (0, 0) _ hb2.t Try.underlying30 rfl sA ?_)
      | (go_at_call 14; (with_reducible refine (HC14.out _ (HRX.out _ hb2.x)).mono ?_); rintro e W3 ⟨rfl, x3⟩; have hb3 := hb2.ext x3; obtain ⟨q0, q1, q2⟩ := three hb3.q; obtain ⟨r0, r1, r2⟩ := three hb3.r; have rf := freeOf hb3.r))
    obtain ⟨f1, f2⟩ := hb3.fin A E.length c most low
    exact radd_end rfl rfl rfl f1 ⟨rfl, f2⟩
  · obtain ⟨h6, h7⟩ := h4.resolve_left h5
    have h8 := tags_zero.2 h6
    have h9 : ((16 : Nat) : Int) ≤ ((gens E).length : Int) := by rw [gens_len]; omega
    rw [h8] at HC16 h5
    clear h4 h6 h7 h8
    generalize tvs t = B at *
    have HB := Lib.hid hb
    clear hb lA
    go_enter Try.func11, Try.ntmps11
    go_upto_region 1 with (fail)
    generalize World.alloc (World.alloc (World.alloc w _) _) _ = W1 at HB ⊢
    obtain ⟨q0, q1, q2⟩ := three HB.out.q
    go_wp2_with (first
      | (go_at_call 16; (with_reducible refine (HC16.out _ (HRX.out _ HB.out.x)).mono ?_); rintro e W2 ⟨rfl, x2⟩; have hb2 := HB.out.ext x2; obtain ⟨q0, q1, q2⟩ := three hb2.q; obtain ⟨r0, r1, r2⟩ := three hb2.r; have rf := freeOf hb2.r)
      | ((with_reducible show wpList _ _ _ (⟨_, .load 30 _, _, _, _, _⟩ :: _) _ _); refine wpList_load_arr (by rfl) 30 _ rfl (w.heap.size + 1) rfl 30 B.toArray (0, 0) _ hb2.t Try.underlying30 rfl sA ?_)
      | (go_at_call 14; (with_reducible refine (HC14.out _ (HRX.out _ hb2.x)).mono ?_); rintro e W3 ⟨rfl, x3⟩; have hb3 := hb2.ext x3; obtain ⟨q0, q1, q2⟩ := three hb3.q; obtain ⟨r0, r1, r2⟩ := three hb3.r; have rf := freeOf hb3.r)
      | (go_at_call 19; (with_reducible refine (HC19.out _ (HRX.out _ hb3.x)).mono ?_); rintro e W4 ⟨v4, rfl, hq4, x4, _⟩; obtain ⟨A4, c4, rfl, _⟩ := hq4.slice; have hb4 := hb3.ext x4; obtain ⟨q0, q1, q2⟩ := three hb4.q; obtain ⟨r0, r1, r2⟩ := three hb4.r; have rf := freeOf hb4.r))
    obtain ⟨f1, f2⟩ := hb4.fin A E.length c most low
    exact radd_end rfl rfl rfl f1 ⟨rfl, f2⟩
end Go.Proofs.Yteidkdbngjhopaa
