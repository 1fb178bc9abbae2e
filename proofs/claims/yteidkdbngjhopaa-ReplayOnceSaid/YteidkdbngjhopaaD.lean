/-
  The cache: what it holds; good, Len, Gens, New.
-/
import Derived.Test.YteidkdbngjhopaaC
import Derived.Deep.RegionHeld3
import Derived.Deep.MidRow
import Derived.Deep.DrawnRows
set_option linter.unusedVariables false
set_option linter.unusedSimpArgs false
namespace Go.Proofs.Yteidkdbngjhopaa
open Go.RowKit Go.Maps

abbrev Ent := Int × List Int
/-- The generations, each once. -/
def gl : List Ent → List Int
  | [] => []
  | e :: E => if e.1 ∈ gl E then gl E else e.1 :: gl E
theorem mem_gl {g : Int} : ∀ {E : List Ent}, g ∈ gl E ↔ ∃ t, (g, t) ∈ E
  | [] => by simp [gl]
  | e :: E => by
    unfold gl
    split
    · rename_i h
      rw [mem_gl]
      constructor
      · rintro ⟨t, ht⟩; exact ⟨t, List.mem_cons_of_mem _ ht⟩
      · rintro ⟨t, ht⟩
        rcases List.mem_cons.1 ht with ht | ht
        · rw [← ht] at h; exact mem_gl.1 h
        · exact ⟨t, ht⟩
    · rw [List.mem_cons, mem_gl]
      constructor
      · rintro (h | ⟨t, ht⟩)
        · exact ⟨e.2, by rw [h]; simp⟩
        · exact ⟨t, List.mem_cons_of_mem _ ht⟩
      · rintro ⟨t, ht⟩
        rcases List.mem_cons.1 ht with ht | ht
        · exact .inl (by rw [← ht])
        · exact .inr ⟨t, ht⟩
theorem gl_nodup : ∀ E : List Ent, (gl E).Nodup
  | [] => List.nodup_nil
  | e :: E => by
    unfold gl
    split
    · exact gl_nodup E
    · exact List.nodup_cons.2 ⟨‹_›, gl_nodup E⟩
theorem gl_len : ∀ E : List Ent, (gl E).length ≤ E.length
  | [] => Nat.le_refl _
  | e :: E => by
    unfold gl
    have := gl_len E
    split
    · simp; omega
    · simp; exact this
/-- The tags of one generation. -/
def tagsOf (E : List Ent) (g : Int) : List (List Int) := (E.filter (fun e => decide (e.1 = g))).map (·.2)
theorem mem_tagsOf {E : List Ent} {g : Int} {t : List Int} : t ∈ tagsOf E g ↔ (g, t) ∈ E := by
  unfold tagsOf
  rw [List.mem_map]
  constructor
  · rintro ⟨e, he, rfl⟩
    obtain ⟨h1, h2⟩ := List.mem_filter.1 he
    have : e.1 = g := by simpa using h2
    rw [← this]; exact h1
  · intro h
    exact ⟨(g, t), List.mem_filter.2 ⟨h, by simp⟩, rfl⟩
theorem tagsOf_snoc (E : List Ent) (e : Ent) (g : Int) : tagsOf (E ++ [e]) g = if e.1 = g then tagsOf E g ++ [e.2] else tagsOf E g := by
  unfold tagsOf
  by_cases h : e.1 = g
  · simp [h, List.filter_append]
  · simp [h, List.filter_append]
theorem tagsOf_len (E : List Ent) (g : Int) : (tagsOf E g).length ≤ E.length := by
  unfold tagsOf; rw [List.length_map]; exact List.length_filter_le _ _
theorem tagsOf_nil {E : List Ent} {g : Int} (h : g ∉ gl E) : tagsOf E g = [] := by
  rw [List.eq_nil_iff_forall_not_mem]
  intro t ht
  exact h (mem_gl.2 ⟨t, mem_tagsOf.1 ht⟩)
theorem gl_snoc {E : List Ent} {e : Ent} {G : List Int} (hG : ∀ g, g ∈ G ↔ g ∈ gl E) : ∀ g, g ∈ gl (E ++ [e]) ↔ g ∈ G ∨ g = e.1 := fun g => by
  rw [hG, mem_gl, mem_gl]
  constructor
  · rintro ⟨t, ht⟩
    rcases List.mem_append.1 ht with ht | ht
    · exact .inl ⟨t, ht⟩
    · simp at ht; exact .inr (by rw [← ht])
  · rintro (⟨t, ht⟩ | h)
    · exact ⟨t, List.mem_append_left _ ht⟩
    · exact ⟨e.2, List.mem_append_right _ (by simp [h])⟩

/-- Entry's numbers are such as may be. -/
structure EntOk (e : Ent) : Prop where
  gen : (Lit.int .i64 e.1).wf = true
  tag : Tg e.2
/-- What the cache at p holds: the entries E, in the order in which they came. -/
structure CS (w : World) (p : Nat) (room low : Int) (E : List Ent) (F : Nat → Prop) : Prop where
  st : ∃ mb G f, w.heap[p]? = some (.cells #[.int .i64 room, .int .i64 low, .map (some mb)] 53 (0, 0)) ∧ OM w mb G f ∧ (∀ g, g ∈ G ↔ g ∈ gl E) ∧ (∀ g ∈ G, IM w (f g) (tagsOf E g) ∧ f g ≠ mb ∧ F (f g)) ∧ (∀ g ∈ G, ∀ g' ∈ G, f g = f g' → g = g') ∧ F mb
  own : F p
  ok : ∀ e ∈ E, EntOk e
theorem perm_gl {G : List Int} {E : List Ent} (h1 : G.Nodup) (h2 : ∀ g, g ∈ G ↔ g ∈ gl E) : G.Perm (gl E) := (List.perm_ext_iff_of_nodup h1 (gl_nodup E)).2 h2
theorem CS.ext {F G : Nat → Prop} {w w' : World} {p : Nat} {room low : Int} {E : List Ent} (h : CS w p room low E F) (hx : Ext G w w') (hF : ∀ k, F k → ¬ G k) : CS w' p room low E F := by
  obtain ⟨⟨mb, K, f, h1, h2, h3, h4, h5, h6⟩, h7, h8⟩ := h
  exact ⟨⟨mb, K, f, hx.obj h1 (hF _ h7), h2.ext hx (hF _ h6), h3, fun g hg => ⟨(h4 g hg).1.ext hx (hF _ (h4 g hg).2.2), (h4 g hg).2⟩, h5, h6⟩, h7, h8⟩
theorem CS.mono {F G : Nat → Prop} {w : World} {p : Nat} {room low : Int} {E : List Ent} (h : CS w p room low E F) (hF : ∀ k, k < w.heap.size → F k → G k) : CS w p room low E G := by
  obtain ⟨⟨mb, K, f, h1, h2, h3, h4, h5, h6⟩, h7, h8⟩ := h
  exact ⟨⟨mb, K, f, h1, h2, h3, fun g hg => ⟨(h4 g hg).1, (h4 g hg).2.1, hF _ (h4 g hg).1.lt (h4 g hg).2.2⟩, h5, hF _ h2.lt h6⟩, hF _ (blk_lt' h1) h7, h8⟩
theorem CS.lt {F : Nat → Prop} {w : World} {p : Nat} {room low : Int} {E : List Ent} (h : CS w p room low E F) : p < w.heap.size := by
  obtain ⟨⟨_, _, _, h1, _⟩, _⟩ := h; exact blk_lt' h1
theorem three {w : World} {b : Nat} {a0 a1 a2 : Value} {e : TypeId} {fr : Nat × Nat} (h : w.heap[b]? = some (.cells #[a0, a1, a2] e fr)) : w.cell? ⟨b, 0, none⟩ = some a0 ∧ w.cell? ⟨b, 1, none⟩ = some a1 ∧ w.cell? ⟨b, 2, none⟩ = some a2 :=
  ⟨by rw [cellOf h]; rfl, by rw [cellOf h]; rfl, by rw [cellOf h]; rfl⟩
theorem eqMap51 (w : World) (r : Option Nat) : (binOp .neq 51 (.map r) (.map none)).run Try.prog w = .ok (.bool (!r.isNone)) w := run_neq_map_nil w _ _ _ r Try.underlying51
theorem eqMap60 (w : World) (r : Option Nat) : (binOp .eql 60 (.map r) (.map none)).run Try.prog w = .ok (.bool r.isNone) w := run_eql_map_nil w _ _ _ r Try.underlying60

theorem good_yes (p mb : Nat) (room low : Int) (w : World) (h : w.heap[p]? = some (.cells #[.int .i64 room, .int .i64 low, .map (some mb)] 53 (0, 0))) :
    Calls Try.prog 21 #[.pointer (some ⟨p, 0, none⟩)] w fun e w' => e = .returned (.bool true) ∧ ∃ m, w' = w.drewN m := by
  obtain ⟨c0, c1, c2⟩ := three h
  have hq := eqMap51
  go_enter Try.func21, Try.ntmps21
  go_wp2
  go_ret
  exact ⟨rfl, 0, rfl⟩
theorem good_nil (w : World) : Calls Try.prog 21 #[.pointer none] w fun e w' => e = .returned (.bool false) ∧ ∃ m, w' = w.drewN m := by
  go_enter Try.func21, Try.ntmps21
  go_wp2
  go_ret
  exact ⟨rfl, 0, rfl⟩
theorem good_zero (p : Nat) (w : World) (h : w.cell? ⟨p, 2, none⟩ = some (.map none)) : Calls Try.prog 21 #[.pointer (some ⟨p, 0, none⟩)] w fun e w' => e = .returned (.bool false) ∧ ∃ m, w' = w.drewN m := by
  have hq := eqMap51
  go_enter Try.func21, Try.ntmps21
  go_wp2
  go_ret
  exact ⟨rfl, 0, rfl⟩
/-- New. -/
theorem new_no (m : Int) (h : m < 1 ∨ 4096 < m) (w : World) : Calls Try.prog 8 #[.int .i64 m] w fun e w' => e = .returned (.pointer none) ∧ w' = w := by
  rcases h with h | h
  · go_enter Try.func8, Try.ntmps8
    go_wp2
    go_ret
    exact ⟨rfl, rfl⟩
  · have h' : ¬ m < 1 := by omega
    go_enter Try.func8, Try.ntmps8
    go_wp2
    go_ret
    exact ⟨rfl, rfl⟩
theorem new_yes (m : Int) (h1 : 1 ≤ m) (h2 : m ≤ 4096) (w : World) : Calls Try.prog 8 #[.int .i64 m] w fun e w' => e = .returned (.pointer (some ⟨w.heap.size + 1, 0, none⟩)) ∧ CS w' (w.heap.size + 1) m 0 [] (fun k => w.heap.size ≤ k) ∧ Ext NoB w w' := by
  have hmm := @run_makeMap Try.prog
  go_enter Try.func8, Try.ntmps8
  go_wp2
  go_ret
  refine ⟨rfl, ⟨⟨w.heap.size, [], fun _ => 0, ?_, (OM.new w _).ext (Ext.alloc NoB _ _) id, by simp [gl], by simp, by simp, Nat.le_refl _⟩, by simp, by simp⟩, (Ext.alloc NoB w _).andAlloc _⟩
  have := heapNew (w.alloc (.map #[] 0)) (.cells #[.int .i64 m, .int .i64 0, .map (some w.heap.size)] 53)
  simpa using this
end Go.Proofs.Yteidkdbngjhopaa
