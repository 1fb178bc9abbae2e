/-
  The cache's Forget.
-/
import Derived.Test.YteidkdbngjhopaaJ
set_option linter.unusedVariables false
set_option linter.unusedSimpArgs false
attribute [local go_sem ↓] Go.wp_at_zero Go.wp_at_succ
namespace Go.Proofs.Yteidkdbngjhopaa
open Go.RowKit Go.Maps

def dropG (E : List Ent) (g : Int) : List Ent := E.filter (fun e => decide (e.1 ≠ g))
def keepG (E : List Ent) (gen : Int) : List Ent := E.filter (fun e => decide (gen ≤ e.1))
theorem tagsOf_drop {E : List Ent} {g x : Int} (h : x ≠ g) : tagsOf (dropG E g) x = tagsOf E x := by
  unfold tagsOf dropG
  rw [List.filter_filter]
  congr 1
  apply List.filter_congr
  intro e _
  by_cases hx : e.1 = x
  · simp [hx, h]
  · simp [hx]
theorem len_drop (E : List Ent) (g : Int) : (dropG E g).length + (tagsOf E g).length = E.length := by
  unfold dropG tagsOf
  rw [List.length_map]
  induction E with
  | nil => rfl
  | cons e E ih =>
    by_cases h : e.1 = g
    · simp [h] at ih ⊢; omega
    · simp [h] at ih ⊢; omega
theorem mem_gl_drop {E : List Ent} {g x : Int} : x ∈ gl (dropG E g) ↔ x ∈ gl E ∧ x ≠ g := by
  rw [mem_gl, mem_gl]
  unfold dropG
  constructor
  · rintro ⟨t, ht⟩
    obtain ⟨h1, h2⟩ := List.mem_filter.1 ht
    exact ⟨⟨t, h1⟩, by simpa using h2⟩
  · rintro ⟨⟨t, ht⟩, h⟩
    exact ⟨t, List.mem_filter.2 ⟨ht, by simpa using h⟩⟩
/-- A generation goes. -/
theorem CS.drop {F : Nat → Prop} {w : World} {p : Nat} {room low : Int} {E : List Ent} (h : CS w p room low E F) {g : Int} (hg : (Lit.int .i64 g).wf = true) (hgl : g ∈ gl E) (ty : TypeId) :
    ∃ mb b W, w.heap[p]? = some (.cells #[.int .i64 room, .int .i64 low, .map (some mb)] 53 (0, 0)) ∧ (Instr.lookup 51 (.map (some mb)) (.int .i64 g) false).run Try.prog w = .ok (.map (some b)) w ∧
      (∀ ty, (Builtin.len_ #[60] ty #[.map (some b)]).run Try.prog w = .ok (.int .i64 (tagsOf E g).length) w) ∧
      (Builtin.delete_ #[51, 3] ty #[.map (some mb), .int .i64 g]).run Try.prog w = .ok (.tuple #[]) W ∧ CS W p room low (dropG E g) F ∧ Ext F w W ∧ Ext (fun k => k = mb) w W := by
  obtain ⟨⟨mb, G, f, hb, h2, h3, h4, h5, h6⟩, h7, h8⟩ := h
  have hgG : g ∈ G := (h3 g).2 hgl
  obtain ⟨W, hr, hom, hx⟩ := h2.del hg hgG ty
  have hmp := map_ne_box h2 hb
  refine ⟨mb, f g, W, hb, ?_, fun ty => (h4 g hgG).1.len ty, hr, ⟨⟨mb, _, f, hx.obj hb (fun e => hmp e.symm), hom, fun x => ?_, fun x hxG => ?_, fun x hxG y hyG => h5 x (List.mem_filter.1 hxG).1 y (List.mem_filter.1 hyG).1, h6⟩, h7, fun e he => h8 e (List.mem_filter.1 he).1⟩, hx.mono fun k _ hk => by rw [hk]; exact h6, hx⟩
  · have := h2.look hg
    unfold OMat at this
    rw [if_pos hgG] at this
    exact this
  · rw [mem_gl_drop, List.mem_filter, h3]; simp
  · obtain ⟨h1, h1'⟩ := List.mem_filter.1 hxG
    have hne : x ≠ g := by simpa using h1'
    refine ⟨?_, (h4 x h1).2⟩
    rw [tagsOf_drop hne]
    exact (h4 x h1).1.ext hx (h4 x h1).2.1
theorem CS.setLow {F : Nat → Prop} {w : World} {p : Nat} {room low : Int} {E : List Ent} (h : CS w p room low E F) (low' : Int) : CS (w.setCell ⟨p, 1, none⟩ (.int .i64 low')) p room low' E F := by
  obtain ⟨⟨mb, G, f, hb, h2, h3, h4, h5, h6⟩, h7, h8⟩ := h
  have hx : Ext (fun k => k = p) w (w.setCell ⟨p, 1, none⟩ (.int .i64 low')) := Ext.setCell w _ _ fun _ => rfl
  exact ⟨⟨mb, G, f, by rw [heapSet hb]; rfl, h2.ext hx (map_ne_box h2 hb), h3, fun g hg => ⟨(h4 g hg).1.ext hx (set_ne_box (h4 g hg).1 hb), (h4 g hg).2⟩, h5, h6⟩, h7, h8⟩
/-- Behind k rounds. -/
def upG (E : List Ent) (gen : Int) (k : Nat) : List Ent := E.filter (fun e => decide (¬ (e.1 < gen ∧ e.1 ∈ (gens E).take k)))
theorem upG_zero (E : List Ent) (gen : Int) : upG E gen 0 = E := by
  unfold upG; rw [List.filter_eq_self]; intro e _; simp
theorem gens_mem {E : List Ent} {g : Int} : g ∈ gens E ↔ g ∈ gl E := (List.mergeSort_perm _ _).mem_iff
theorem gens_nodup (E : List Ent) : (gens E).Nodup := (List.mergeSort_perm (gl E) _).nodup_iff.2 (gl_nodup E)
theorem upG_end (E : List Ent) (gen : Int) : upG E gen (gens E).length = keepG E gen := by
  unfold upG keepG
  apply List.filter_congr
  intro e he
  have hm : e.1 ∈ gens E := gens_mem.2 (mem_gl.2 ⟨e.2, he⟩)
  rw [List.take_length]
  by_cases h : gen ≤ e.1
  · have h' : ¬ e.1 < gen := by omega
    simp [h, h']
  · have h' : e.1 < gen := by omega
    simp [h, h', hm]
theorem take_succ_mem {l : List Int} {k : Nat} (hk : k < l.length) (x : Int) : x ∈ l.take (k + 1) ↔ x ∈ l.take k ∨ x = l.getD k 0 := by
  have e1 : l.getD k 0 = l[k] := by simp [List.getD_eq_getElem?_getD, List.getElem?_eq_getElem hk]
  rw [List.take_succ_eq_append_getElem hk, List.mem_append, List.mem_singleton, e1]
theorem upG_keep {E : List Ent} {gen : Int} {k : Nat} (hk : k < (gens E).length) (h : ¬ (gens E).getD k 0 < gen) : upG E gen (k + 1) = upG E gen k := by
  unfold upG
  apply List.filter_congr
  intro e _
  rw [decide_eq_decide, take_succ_mem hk]
  constructor
  · exact fun h1 h2 => h1 ⟨h2.1, .inl h2.2⟩
  · rintro h1 ⟨h2, h3 | h3⟩
    · exact h1 ⟨h2, h3⟩
    · rw [h3] at h2; exact h h2
theorem upG_drop {E : List Ent} {gen : Int} {k : Nat} (hk : k < (gens E).length) (h : (gens E).getD k 0 < gen) : upG E gen (k + 1) = dropG (upG E gen k) ((gens E).getD k 0) := by
  unfold upG dropG
  rw [List.filter_filter]
  apply List.filter_congr
  intro e _
  rw [← Bool.decide_and, decide_eq_decide, take_succ_mem hk]
  constructor
  · intro h1
    refine ⟨fun h2 => h1 ⟨by rw [h2]; exact h, .inr h2⟩, fun h2 => h1 ⟨h2.1, .inl h2.2⟩⟩
  · rintro ⟨h1, h2⟩ ⟨h3, h4 | h4⟩
    · exact h2 ⟨h3, h4⟩
    · exact h1 h4
theorem upG_has {E : List Ent} {gen : Int} {k : Nat} (hk : k < (gens E).length) : (gens E).getD k 0 ∈ gl (upG E gen k) := by
  have e1 : (gens E).getD k 0 = (gens E)[k] := by simp [List.getD_eq_getElem?_getD, List.getElem?_eq_getElem hk]
  rw [e1]
  obtain ⟨t, ht⟩ := mem_gl.1 (gens_mem.1 (List.getElem_mem hk))
  refine mem_gl.2 ⟨t, List.mem_filter.2 ⟨ht, ?_⟩⟩
  have hnd := gens_nodup E
  have : (gens E)[k] ∉ (gens E).take k := by
    intro hm
    obtain ⟨j, hj, he⟩ := List.mem_iff_getElem.1 hm
    rw [List.getElem_take] at he
    have hj' : j < k := by simp at hj; omega
    exact List.pairwise_iff_getElem.1 hnd j k (by omega) hk hj' he
  simp [this]
end Go.Proofs.Yteidkdbngjhopaa
