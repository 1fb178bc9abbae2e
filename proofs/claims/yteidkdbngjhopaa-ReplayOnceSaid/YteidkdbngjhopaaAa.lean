/-
  ReplayLens' own map: how many tags each generation has.
-/
import Derived.Test.YteidkdbngjhopaaX
import Derived.Maps.RangeWalk
set_option linter.unusedVariables false
set_option linter.unusedSimpArgs false
namespace Go.Proofs.Yteidkdbngjhopaa
open Go.RowKit Go.Maps

noncomputable abbrev pE : Value → Option (DataW Unit × List MemPlace) := plainElem Try.prog 3
theorem zero3' (w : World) : (zeroValue 3).run Try.prog w = .ok (.int .i64 0) w := by kernel_rfl
/-- Block nb holds of each generation of E its number of tags. -/
def NMD (E : List Ent) (D : DataW Unit) : Prop := Maps.size D = (gl E).length ∧ (∀ g, Maps.has D (gk g) = decide (g ∈ gl E)) ∧ ∀ g ∈ gl E, ∀ z, D.atKey (gk g) z = .lit (.int .i64 (tagsOf E g).length)
structure NM (w : World) (nb : Nat) (E : List Ent) : Prop where
  dat : ∃ D : DataW Unit, w.ownsMap Try.prog 3 pE nb (gl E).length D ∧ NMD E D
theorem NM.ext {F : Nat → Prop} {w w' : World} {nb : Nat} {E : List Ent} (h : NM w nb E) (hx : Ext F w w') (hb : ¬ F nb) : NM w' nb E := by
  obtain ⟨D, h1, h2⟩ := h.dat
  exact ⟨D, owns_ext h1 hx hb, h2⟩
theorem NM.lt {w : World} {nb : Nat} {E : List Ent} (h : NM w nb E) : nb < w.heap.size := by
  obtain ⟨D, h1, _⟩ := h.dat; exact h1.lt
theorem NM.new (w : World) : NM (w.alloc (.map #[] 0)) w.heap.size [] :=
  ⟨_, World.ownsMap_made w _ _ _, rfl, fun g => by simp [Maps.has, gl], fun g hg => by simp [gl] at hg⟩
theorem NM.look {w : World} {nb : Nat} {E : List Ent} (h : NM w nb E) {g : Int} (hg : (Lit.int .i64 g).wf = true) :
    (Instr.lookup 56 (.map (some nb)) (.int .i64 g) false).run Try.prog w = .ok (.int .i64 (tagsOf E g).length) w := by
  obtain ⟨D, h1, h2, h3, h4⟩ := h.dat
  obtain ⟨c, hr, hv, _⟩ := h1.lookup_int keyed3 Try.underlying56 Try.underlying3 (zero3' w) (keyOf3 hg)
  rw [hr]
  by_cases hm : g ∈ gl E
  · rw [h4 g hm] at hv
    injection hv with hv
    injection hv with _ hv
    rw [hv]
  · rw [Maps.atKey_of_not_has (by rw [h3]; simpa using hm)] at hv
    injection hv with hv
    injection hv with _ hv
    rw [← hv, tagsOf_nil hm]; rfl
theorem NM.len {w : World} {nb : Nat} {E : List Ent} (h : NM w nb E) (ty : TypeId) : (Builtin.len_ #[56] ty #[.map (some nb)]).run Try.prog w = .ok (.int .i64 (gl E).length) w := by
  obtain ⟨D, h1, h2, _⟩ := h.dat
  have := h1.len Try.underlying56 ty
  rw [h2] at this
  exact this
theorem gl_snoc_len (E : List Ent) (g : Int) (t : List Int) : (gl (E ++ [(g, t)])).length = if g ∈ gl E then (gl E).length else (gl E).length + 1 := by
  have hm := gl_snoc (E := E) (e := (g, t)) (G := gl E) (fun _ => Iff.rfl)
  by_cases h : g ∈ gl E
  · rw [if_pos h]
    refine ((List.perm_ext_iff_of_nodup (gl_nodup _) (gl_nodup E)).2 fun x => ?_).length_eq
    rw [hm]
    exact ⟨fun h' => h'.elim id (fun e => by rw [e]; exact h), .inl⟩
  · rw [if_neg h]
    have hn : (g :: gl E).Nodup := List.nodup_cons.2 ⟨h, gl_nodup E⟩
    have := ((List.perm_ext_iff_of_nodup (gl_nodup (E ++ [(g, t)])) hn).2 fun x => by rw [hm, List.mem_cons]; exact Or.comm).length_eq
    rw [this]; rfl
theorem NM.incr {w : World} {nb : Nat} {E : List Ent} (h : NM w nb E) {g : Int} (hg : (Lit.int .i64 g).wf = true) (t : List Int) (hl : E.length < 1000000) :
    ∃ w', (Instr.mapUpdate 56 (.map (some nb)) (.int .i64 g) (.int .i64 ((tagsOf E g).length + 1))).run Try.prog w = .ok () w' ∧ NM w' nb (E ++ [(g, t)]) ∧ Ext (fun k => k = nb) w w' := by
  obtain ⟨D, h1, h2, h3, h4⟩ := h.dat
  have hgl := gl_len E
  have htl := tagsOf_len E g
  have hwf : (Lit.int .i64 ((tagsOf E g).length + 1 : Int)).wf = true := by
    simp [Lit.wf, IntKind.min, IntKind.max, IntKind.bits, IntKind.signed]; omega
  obtain ⟨w', hr, h6, h7⟩ := h1.store keyed3 Try.underlying56 (by unfold maxLen; omega) (val := .int .i64 ((tagsOf E g).length + 1)) (keyOf3 hg) (plainElem_int Try.underlying3 hwf)
  have hD := h1.isMap
  have hsz := Maps.size_put (k := gk g) (d := .lit (.int .i64 ((tagsOf E g).length + 1))) (h1.tidy keyed3)
  have hm := gl_snoc (E := E) (e := (g, t)) (G := gl E) (fun _ => Iff.rfl)
  have hsz' : Maps.size (D.put (gk g) (.lit (.int .i64 ((tagsOf E g).length + 1)))) = (gl (E ++ [(g, t)])).length := by
    rw [hsz, gl_snoc_len, h3, h2]
    by_cases h : g ∈ gl E <;> simp [h]
  refine ⟨w', hr, ⟨_, ?_, hsz', fun x => ?_, fun x hx z => ?_⟩, turned_ext h7⟩
  · have := owns_tight h6
    rw [hsz'] at this
    exact this
  · by_cases hx : x = g
    · subst hx; rw [Maps.has_put_same hD (gk_key _)]; symm; simp only [decide_eq_true_eq]; rw [hm]; exact .inr rfl
    · rw [Maps.has_put_other (gk_ne hx), h3, decide_eq_decide, hm]; simp [hx]
  · by_cases hxg : x = g
    · subst hxg; rw [Maps.atKey_put_same hD (gk_key _), tagsOf_snoc, if_pos rfl]; simp
    · rw [Maps.atKey_put_other (gk_ne hxg), tagsOf_snoc, if_neg (fun e => hxg e.symm)]
      rw [hm] at hx
      exact h4 x (hx.resolve_right hxg) z
theorem gl_drop_len (E : List Ent) (g : Int) : (gl (dropG E g)).length + (if g ∈ gl E then 1 else 0) = (gl E).length := by
  have hp : (gl (dropG E g)).Perm ((gl E).filter (fun x => decide (x ≠ g))) := (List.perm_ext_iff_of_nodup (gl_nodup _) ((gl_nodup E).filter _)).2 fun x => by
    rw [mem_gl_drop, List.mem_filter]; simp
  rw [hp.length_eq]
  by_cases h : g ∈ gl E
  · rw [if_pos h]
    have e : (gl E).filter (fun x => decide (x ≠ g)) = (gl E).erase g := by rw [(gl_nodup E).erase_eq_filter]; congr 1; funext x; simp [bne, BEq.beq]
    rw [e, List.length_erase_of_mem h]
    have := List.length_pos_of_mem h
    omega
  · rw [if_neg h, List.filter_eq_self.2 (fun x hx => by simp; rintro rfl; exact h hx)]; rfl
theorem NM.del {w : World} {nb : Nat} {E : List Ent} (h : NM w nb E) {g : Int} (hg : (Lit.int .i64 g).wf = true) (ty : TypeId) :
    ∃ w', (Builtin.delete_ #[56, 3] ty #[.map (some nb), .int .i64 g]).run Try.prog w = .ok (.tuple #[]) w' ∧ NM w' nb (dropG E g) ∧ Ext (fun k => k = nb) w w' := by
  obtain ⟨D, h1, h2, h3, h4⟩ := h.dat
  obtain ⟨w', hr, h6, h7⟩ := h1.drop keyed3 Try.underlying56 (keyOf3 hg) ty
  have hsz := Maps.size_del (k := gk g) (h1.tidy keyed3)
  have hgd := gl_drop_len E g
  have hs2 : Maps.size (D.del (gk g)) = (gl (dropG E g)).length := by
    rw [h3, h2] at hsz
    by_cases h : g ∈ gl E
    · simp [h] at hsz hgd; omega
    · simp [h] at hsz hgd; omega
  refine ⟨w', hr, ⟨_, ?_, hs2, fun x => ?_, fun x hx z => ?_⟩, turned_ext h7⟩
  · have := owns_tight h6
    rw [hs2] at this
    exact this
  · by_cases hx : x = g
    · subst hx; rw [Maps.has_del_same]; symm; simp only [decide_eq_false_iff_not]; rw [mem_gl_drop]; exact fun h => h.2 rfl
    · rw [Maps.has_del_other (gk_ne hx), h3, decide_eq_decide, mem_gl_drop]; simp [hx]
  · rw [mem_gl_drop] at hx
    rw [Maps.atKey_del_other (gk_ne hx.2), h4 x hx.1, tagsOf_drop hx.2]
end Go.Proofs.Yteidkdbngjhopaa
