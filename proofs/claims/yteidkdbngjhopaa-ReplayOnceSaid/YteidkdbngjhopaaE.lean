/-
  The cache's Len, Gens, Has.
-/
import Derived.Test.YteidkdbngjhopaaD
set_option linter.unusedVariables false
set_option linter.unusedSimpArgs false
attribute [local go_sem ↓] Go.wp_at_zero Go.wp_at_succ
namespace Go.Proofs.Yteidkdbngjhopaa
open Go.RowKit Go.Maps

/-- What the outer map gives at g, and how many tags are there. -/
theorem CS.look {F : Nat → Prop} {w : World} {p : Nat} {room low : Int} {E : List Ent} (h : CS w p room low E F) {g : Int} (hg : (Lit.int .i64 g).wf = true) :
    ∃ mb r, w.heap[p]? = some (.cells #[.int .i64 room, .int .i64 low, .map (some mb)] 53 (0, 0)) ∧ (∀ W, Ext NoB w W → (Instr.lookup 51 (.map (some mb)) (.int .i64 g) false).run Try.prog W = .ok (.map r) W) ∧
      (∀ W ty, Ext NoB w W → (Builtin.len_ #[60] ty #[.map r]).run Try.prog W = .ok (.int .i64 (tagsOf E g).length) W) ∧ (∀ W ty, Ext NoB w W → (Builtin.len_ #[51] ty #[.map (some mb)]).run Try.prog W = .ok (.int .i64 (gl E).length) W) ∧
      (∀ W t, Ext NoB w W → Tg t → (Instr.lookup 60 (.map r) (.agg (tv t)) true).run Try.prog W = .ok (.tuple #[.agg #[], .bool (decide ((g, t) ∈ E))]) W) ∧ (r = none ↔ g ∉ gl E) := by
  obtain ⟨⟨mb, G, f, h1, h2, h3, h4, h5, h6⟩, h7, h8⟩ := h
  refine ⟨mb, OMat G f g, h1, fun W hx => (h2.ext hx id).look hg, fun W ty hx => ?_, fun W ty hx => ?_, fun W t hx ht => ?_, ?_⟩
  · unfold OMat
    by_cases hm : g ∈ G
    · rw [if_pos hm]; exact ((h4 g hm).1.ext hx id).len ty
    · rw [if_neg hm, tagsOf_nil (fun h => hm ((h3 g).2 h))]; exact len_none W ty
  · rw [← (perm_gl h2.nd h3).length_eq]; exact (h2.ext hx id).len ty
  · unfold OMat
    by_cases hm : g ∈ G
    · rw [if_pos hm, ((h4 g hm).1.ext hx id).look ht]
      simp [mem_tagsOf]
    · rw [if_neg hm, look_none W ht]
      have : (g, t) ∉ E := fun h => hm ((h3 g).2 (mem_gl.2 ⟨t, h⟩))
      simp [this]
  · unfold OMat
    rw [← h3]
    by_cases hm : g ∈ G <;> simp [hm]
theorem len15 {F : Nat → Prop} {w : World} {p : Nat} {room low : Int} {E : List Ent} (h : CS w p room low E F) {g : Int} (hg : (Lit.int .i64 g).wf = true) :
    Calls Try.prog 15 #[.pointer (some ⟨p, 0, none⟩), .int .i64 g] w fun e w' => e = .returned (.int .i64 (tagsOf E g).length) ∧ Ext NoB w w' := by
  obtain ⟨mb, r, hb, hl, hn, _⟩ := h.look hg
  obtain ⟨c0, c1, c2⟩ := three hb
  have hl1 := fun m => hl (w.drewN m) (Ext.drewN NoB w m)
  have hn1 := fun m ty => hn (w.drewN m) ty (Ext.drewN NoB w m)
  have HB := Lib.hid hb
  clear h hb hl hn
  go_enter Try.func15, Try.ntmps15
  go_wp2_with (first
    | (go_at_call 21; refine (good_yes p mb room low _ HB.out).mono ?_; rintro e W1 ⟨rfl, m, rfl⟩))
  go_ret
  exact ⟨rfl, Ext.drewN NoB w _⟩
/-- The generations, sorted. -/
def gens (E : List Ent) : List Int := (gl E).mergeSort (fun x y => decide (x ≤ y))
def GensEnd (w : World) (E : List Ent) (e : Ending) (w' : World) : Prop :=
  ∃ v, e = .returned v ∧ QRow w' 3 1 v (gens E).length ((gens E).map (Value.int .i64)) ∧ Ext NoB w w' ∧ ∀ k, v.ownBlock = some k → w.heap.size ≤ k
theorem gens_len (E : List Ent) : (gens E).length = (gl E).length := by unfold gens; rw [List.length_mergeSort]
theorem gens_perm {G : List Int} {E : List Ent} (h : G.Perm (gl E)) : G.mergeSort (fun x y => decide (x ≤ y)) = gens E := mergeSort_of_perm_i h
theorem gens18 {F : Nat → Prop} {w : World} {p : Nat} {room low : Int} {E : List Ent} (h : CS w p room low E F) (hlen : (gl E).length ≤ 1000000) :
    Calls Try.prog 18 #[.pointer (some ⟨p, 0, none⟩)] w (GensEnd w E) := by
  obtain ⟨⟨mb, G, f, hb, h2, h3, h4, h5, h6⟩, h7, h8⟩ := h
  have hp := perm_gl h2.nd h3
  obtain ⟨c0, c1, c2⟩ := three hb
  have hlG : G.length ≤ 1000000 := by rw [hp.length_eq]; exact hlen
  have HB := Lib.hid hb
  have H2 := Lib.hid h2
  have HP := Lib.hid hp
  clear hb h2 h3 h4 h5 h6 h7 h8 hp
  go_enter Try.func18, Try.ntmps18
  go_wp2_with (first
    | (go_at_call 21; refine (good_yes p mb room low _ HB.out).mono ?_; rintro e W1 ⟨rfl, m, rfl⟩)
    | (go_at_call 23; refine (keys_call (some mb) _).mono ?_; rintro e W2 ⟨rfl, rfl⟩)
    | (go_at_call 22; refine (sorted_call _ _ mb G f (H2.out.ext ((Ext.drewN NoB w m).andAlloc (.cells #[.map (some mb)] 51)) id) (heapNew (w.drewN m) _) hlG).mono ?_; rintro e W3 ⟨v, rfl, hr, hb3⟩))
  go_ret
  have hrow := QRow.ofOwn hr
  rw [gens_perm HP.out] at hrow
  have hbx : Ext NoB w W3 := ((Ext.drewN NoB w m).andAlloc (.cells #[.map (some mb)] 51)).then (Ext.ofBelow hb3 NoB)
  refine ⟨v, rfl, by rw [gens_len, ← HP.out.length_eq]; exact hrow, hbx, fun k hk => ?_⟩
  rcases hr.2 with ⟨rfl, _⟩ | ⟨g, cap, cur, rfl, hge, _⟩
  · simp [Value.ownBlock] at hk
  · have : g = k := by simpa [Value.ownBlock] using hk
    simp at hge; omega
end Go.Proofs.Yteidkdbngjhopaa
