/-
  Maps of blocks, and sets of tags: what a map's block holds, said plainly.
-/
import Derived.Test.YteidkdbngjhopaaA
import Derived.Lib.SlKeysI
set_option linter.unusedVariables false
set_option linter.unusedSimpArgs false
namespace Go.Proofs.Yteidkdbngjhopaa
open Go.RowKit Go.Maps

theorem owns_tight {H : Type} {P : Program} {k : TypeId} {R : Value → Option (DataW H × List MemPlace)} {w : World} {b n : Nat} {D : DataW H} (h : w.ownsMap P k R b n D) : w.ownsMap P k R b (Maps.size D) D := by
  obtain ⟨es, clock, hb, F, hs, hD⟩ := h
  refine ⟨es, clock, hb, F, ?_, hD⟩
  rw [hD]
  simp [Maps.size, length_sorted]
theorem owns_ext {H : Type} {P : Program} {k : TypeId} {R : Value → Option (DataW H × List MemPlace)} {w w' : World} {b n : Nat} {D : DataW H} {F : Nat → Prop} (h : w.ownsMap P k R b n D) (hx : Ext F w w') (hb : ¬ F b) : w'.ownsMap P k R b n D := by
  obtain ⟨es, clock, h1, r⟩ := h
  exact ⟨es, clock, hx.obj h1 hb, r⟩
theorem turned_ext {w w' : World} {b : Nat} (h : w.mapTurned w' b) : Ext (fun k => k = b) w w' := by
  have := h.grown
  exact (Ext.ofGrown this).mono fun k _ hk => by injection hk with hk; exact hk.symm

/-- How an element of the outer map reads: the block of a map. -/
def mE : Value → Option (DataW Unit × List MemPlace)
  | .map none => some (.nil, [])
  | .map (some b) => some (.lit (.int .i64 b), [])
  | _ => none
theorem mE_nil {v : Value} {ps : List MemPlace} (h : mE v = some (.nil, ps)) : v = .map none := by
  unfold mE at h
  split at h
  · rfl
  · cases h
  · cases h
theorem mE_blk {v : Value} {b : Nat} {ps : List MemPlace} (h : mE v = some (.lit (.int .i64 b), ps)) : v = .map (some b) := by
  unfold mE at h
  split at h
  · cases h
  · rename_i c
    injection h with h
    injection h with h _
    injection h with h
    injection h with _ h
    have : c = b := by exact_mod_cast h
    rw [this]
  · cases h
theorem zero60 (w : World) : (zeroValue 60).run Try.prog w = .ok (.map none) w := by kernel_rfl
theorem zero61 (w : World) : (zeroValue 61).run Try.prog w = .ok (.agg #[]) w := by kernel_rfl

/-- Block mb is a map with the keys G; at g the map in block f g. -/
structure OM (w : World) (mb : Nat) (G : List Int) (f : Int → Nat) : Prop where
  dat : ∃ D : DataW Unit, w.ownsMap Try.prog 3 mE mb G.length D ∧ Maps.size D = G.length ∧ (∀ g, Maps.has D (gk g) = decide (g ∈ G)) ∧ ∀ g ∈ G, ∀ z, D.atKey (gk g) z = .lit (.int .i64 (f g))
  nd : G.Nodup
theorem OM.ext {F : Nat → Prop} {w w' : World} {mb : Nat} {G : List Int} {f : Int → Nat} (h : OM w mb G f) (hx : Ext F w w') (hb : ¬ F mb) : OM w' mb G f := by
  obtain ⟨⟨D, h1, h2⟩, h3⟩ := h
  exact ⟨⟨D, owns_ext h1 hx hb, h2⟩, h3⟩
theorem OM.lt {w : World} {mb : Nat} {G : List Int} {f : Int → Nat} (h : OM w mb G f) : mb < w.heap.size := by
  obtain ⟨⟨D, h1, _⟩, _⟩ := h; exact h1.lt
theorem OM.new (w : World) (f : Int → Nat) : OM (w.alloc (.map #[] 0)) w.heap.size [] f :=
  ⟨⟨_, World.ownsMap_made w _ _ _, rfl, fun g => by simp [Maps.has], fun g hg => by simp at hg⟩, List.nodup_nil⟩
/-- What a look-up gives. -/
def OMat (G : List Int) (f : Int → Nat) (g : Int) : Option Nat := if g ∈ G then some (f g) else none
theorem OM.look {w : World} {mb : Nat} {G : List Int} {f : Int → Nat} (h : OM w mb G f) {g : Int} (hg : (Lit.int .i64 g).wf = true) :
    (Instr.lookup 51 (.map (some mb)) (.int .i64 g) false).run Try.prog w = .ok (.map (OMat G f g)) w := by
  obtain ⟨⟨D, h1, h2, h3, h4⟩, _⟩ := h
  obtain ⟨v, ps, hr, hv⟩ := h1.lookup keyed3 Try.underlying51 (zero60 w) (zd := .nil) (zp := []) rfl (keyOf3 hg)
  rw [hr]
  unfold OMat
  by_cases hm : g ∈ G
  · rw [if_pos hm]
    rw [h4 g hm] at hv
    rw [mE_blk hv]
  · rw [if_neg hm]
    rw [Maps.atKey_of_not_has (by rw [h3]; simpa using hm)] at hv
    rw [mE_nil hv]
theorem OM.len {w : World} {mb : Nat} {G : List Int} {f : Int → Nat} (h : OM w mb G f) (ty : TypeId) : (Builtin.len_ #[51] ty #[.map (some mb)]).run Try.prog w = .ok (.int .i64 G.length) w := by
  obtain ⟨⟨D, h1, h2, _⟩, _⟩ := h
  have := h1.len Try.underlying51 ty
  rw [h2] at this
  exact this
theorem OM.add {w : World} {mb : Nat} {G : List Int} {f : Int → Nat} (h : OM w mb G f) {g : Int} (hg : (Lit.int .i64 g).wf = true) (hn : g ∉ G) (hl : G.length < maxLen) (b : Nat) (f' : Int → Nat) (hf : ∀ x ∈ G, f' x = f x) (hf' : f' g = b) :
    ∃ w', (Instr.mapUpdate 51 (.map (some mb)) (.int .i64 g) (.map (some b))).run Try.prog w = .ok () w' ∧ OM w' mb (G ++ [g]) f' ∧ Ext (fun k => k = mb) w w' := by
  obtain ⟨⟨D, h1, h2, h3, h4⟩, h5⟩ := h
  obtain ⟨w', hr, h6, h7⟩ := h1.store keyed3 Try.underlying51 hl (val := .map (some b)) (d := .lit (.int .i64 b)) (ps := []) (keyOf3 hg) rfl
  have hD := h1.isMap
  have hhas : Maps.has D (gk g) = false := by rw [h3]; simpa using hn
  have hsz : Maps.size (D.put (gk g) (.lit (.int .i64 b))) = G.length + 1 := by
    rw [Maps.size_put (h1.tidy keyed3), hhas, h2]; simp
  refine ⟨w', hr, ⟨⟨D.put (gk g) (.lit (.int .i64 b)), ?_, ?_, fun x => ?_, fun x hx z => ?_⟩, ?_⟩, turned_ext h7⟩
  · have := h6.mono (n' := (G ++ [g]).length) (by simp)
    exact this
  · rw [hsz]; simp
  · by_cases hx : x = g
    · subst hx; rw [Maps.has_put_same hD (gk_key _)]; simp
    · rw [Maps.has_put_other (gk_ne hx), h3]; simp [hx]
  · by_cases hxg : x = g
    · subst hxg; rw [Maps.atKey_put_same hD (gk_key _), hf']
    · rw [Maps.atKey_put_other (gk_ne hxg)]
      have hx' : x ∈ G := by simpa [hxg] using hx
      rw [h4 x hx', hf x hx']
  · refine List.nodup_append.2 ⟨h5, by simp, fun a ha b hb => ?_⟩
    simp at hb
    subst hb
    exact fun e => hn (e ▸ ha)
theorem OM.del {w : World} {mb : Nat} {G : List Int} {f : Int → Nat} (h : OM w mb G f) {g : Int} (hg : (Lit.int .i64 g).wf = true) (hin : g ∈ G) (ty : TypeId) :
    ∃ w', (Builtin.delete_ #[51, 3] ty #[.map (some mb), .int .i64 g]).run Try.prog w = .ok (.tuple #[]) w' ∧ OM w' mb (G.filter (fun x => decide (x ≠ g))) f ∧ Ext (fun k => k = mb) w w' := by
  obtain ⟨⟨D, h1, h2, h3, h4⟩, h5⟩ := h
  obtain ⟨w', hr, h6, h7⟩ := h1.drop keyed3 Try.underlying51 (keyOf3 hg) ty
  have hhas : Maps.has D (gk g) = true := by rw [h3]; simpa using hin
  have hsz := Maps.size_del (k := gk g) (h1.tidy keyed3)
  rw [hhas, if_pos rfl, h2] at hsz
  have hlen : (G.filter (fun x => decide (x ≠ g))).length + 1 = G.length := by
    have e : G.filter (fun x => decide (x ≠ g)) = G.erase g := by rw [h5.erase_eq_filter]; congr 1; funext x; simp [bne, BEq.beq]
    rw [e, List.length_erase_of_mem hin]
    have := List.length_pos_of_mem hin
    omega
  have hs2 : Maps.size (D.del (gk g)) = (G.filter (fun x => decide (x ≠ g))).length := by omega
  refine ⟨w', hr, ⟨⟨D.del (gk g), ?_, hs2, fun x => ?_, fun x hx z => ?_⟩, h5.filter _⟩, turned_ext h7⟩
  · have := owns_tight h6
    rw [hs2] at this
    exact this
  · by_cases hx : x = g
    · subst hx; rw [Maps.has_del_same]; simp
    · rw [Maps.has_del_other (gk_ne hx), h3]; simp [hx]
  · have hx' := List.mem_filter.1 hx
    have hxg : x ≠ g := by simpa using hx'.2
    rw [Maps.atKey_del_other (gk_ne hxg), h4 x hx'.1]
/-- Its keys, for the library's sorting. -/
theorem OM.keys {w : World} {mb : Nat} {G : List Int} {f : Int → Nat} (h : OM w mb G f) : ∃ D : DataW Unit, w.ownsMap Try.prog 3 mE mb G.length D ∧ Maps.size D = G.length ∧ ∀ ss : List Int, ss.Perm (intKeys D) → ss.Perm G := by
  obtain ⟨⟨D, h1, h2, h3, h4⟩, h5⟩ := h
  refine ⟨D, h1, h2, fun ss hs => hs.trans ?_⟩
  obtain ⟨es, hes, hk⟩ := h1.keysOf
  obtain ⟨es', hes', hp⟩ := h1.tidy keyed3
  have hk' : ∀ p ∈ es, ∃ x, p.1 = .int .i64 x := fun p hp' => by
    obtain ⟨v, hv⟩ := hk p hp'
    obtain ⟨x, _, hx, _⟩ := Maps.keyOf_i64 Try.underlying3 hv
    exact ⟨x, hx⟩
  rw [hes] at hes'
  injection hes' with hes'
  subst hes'
  rw [hes]
  refine (perm_intKeys hp hk' h5 fun x => ?_).symm
  rw [← hes]
  rw [show (Lit.int .i64 x) = gk x from rfl, h3]
  simp

/-- Block b is the set of the tags T. -/
structure IM (w : World) (b : Nat) (T : List (List Int)) : Prop where
  dat : ∃ D : DataW Unit, w.ownsMap Try.prog 30 unitElem b T.length D ∧ Maps.size D = T.length ∧ ∀ t, Tg t → Maps.has D (tk t) = decide (t ∈ T)
  nd : T.Nodup
  tg : ∀ t ∈ T, Tg t
theorem IM.ext {F : Nat → Prop} {w w' : World} {b : Nat} {T : List (List Int)} (h : IM w b T) (hx : Ext F w w') (hb : ¬ F b) : IM w' b T := by
  obtain ⟨⟨D, h1, h2⟩, h3, h4⟩ := h
  exact ⟨⟨D, owns_ext h1 hx hb, h2⟩, h3, h4⟩
theorem IM.lt {w : World} {b : Nat} {T : List (List Int)} (h : IM w b T) : b < w.heap.size := by
  obtain ⟨⟨D, h1, _⟩, _⟩ := h; exact h1.lt
theorem IM.new (w : World) : IM (w.alloc (.map #[] 0)) w.heap.size [] :=
  ⟨⟨_, World.ownsMap_made w _ _ _, rfl, fun t _ => by simp [Maps.has]⟩, List.nodup_nil, fun t ht => by simp at ht⟩
theorem IM.look {w : World} {b : Nat} {T : List (List Int)} (h : IM w b T) {t : List Int} (ht : Tg t) :
    (Instr.lookup 60 (.map (some b)) (.agg (tv t)) true).run Try.prog w = .ok (.tuple #[.agg #[], .bool (decide (t ∈ T))]) w := by
  obtain ⟨⟨D, h1, h2, h3⟩, _⟩ := h
  obtain ⟨v, ps, hr, hv⟩ := h1.look_ok keyed30 Try.underlying60 (zero61 w) (zd := .agg []) (zp := []) unitElem_mk (keyOf30 ht)
  obtain ⟨rfl, _⟩ := unitElem_inv hv
  rw [hr, h3 t ht]
theorem look_none (w : World) {t : List Int} (ht : Tg t) : (Instr.lookup 60 (.map none) (.agg (tv t)) true).run Try.prog w = .ok (.tuple #[.agg #[], .bool false]) w := by
  have := Maps.look_nil (w := w) true keyed30 Try.underlying60 (zero61 w) (keyOf30 ht)
  simpa using this
theorem IM.len {w : World} {b : Nat} {T : List (List Int)} (h : IM w b T) (ty : TypeId) : (Builtin.len_ #[60] ty #[.map (some b)]).run Try.prog w = .ok (.int .i64 T.length) w := by
  obtain ⟨⟨D, h1, h2, _⟩, _⟩ := h
  have := h1.len Try.underlying60 ty
  rw [h2] at this
  exact this
theorem len_none (w : World) (ty : TypeId) : (Builtin.len_ #[60] ty #[.map none]).run Try.prog w = .ok (.int .i64 0) w := Maps.len_nil Try.underlying60 ty
theorem IM.add {w : World} {b : Nat} {T : List (List Int)} (h : IM w b T) {t : List Int} (ht : Tg t) (hn : t ∉ T) (hl : T.length < maxLen) :
    ∃ w', (Instr.mapUpdate 60 (.map (some b)) (.agg (tv t)) (.agg #[])).run Try.prog w = .ok () w' ∧ IM w' b (T ++ [t]) ∧ Ext (fun k => k = b) w w' := by
  obtain ⟨⟨D, h1, h2, h3⟩, h5, h6⟩ := h
  obtain ⟨w', hr, h7, h8⟩ := h1.store keyed30 Try.underlying60 hl (val := .agg #[]) (d := .agg []) (ps := []) (keyOf30 ht) unitElem_mk
  have hD := h1.isMap
  have hhas : Maps.has D (tk t) = false := by rw [h3 t ht]; simpa using hn
  have hsz : Maps.size (D.put (tk t) (.agg [])) = T.length + 1 := by
    rw [Maps.size_put (h1.tidy keyed30), hhas, h2]; simp
  refine ⟨w', hr, ⟨⟨D.put (tk t) (.agg []), h7.mono (n' := (T ++ [t]).length) (by simp), by rw [hsz]; simp, fun x hx => ?_⟩, ?_, fun x hx => ?_⟩, turned_ext h8⟩
  · by_cases hxt : x = t
    · subst hxt; rw [Maps.has_put_same hD (tk_key ht)]; simp
    · rw [Maps.has_put_other (fun e => hxt (tk_inj hx ht e)), h3 x hx]; simp [hxt]
  · refine List.nodup_append.2 ⟨h5, by simp, fun a ha b hb => ?_⟩
    simp at hb
    subst hb
    exact fun e => hn (e ▸ ha)
  · rcases List.mem_append.1 hx with hx | hx
    · exact h6 x hx
    · simp at hx; subst hx; exact ht
end Go.Proofs.Yteidkdbngjhopaa
