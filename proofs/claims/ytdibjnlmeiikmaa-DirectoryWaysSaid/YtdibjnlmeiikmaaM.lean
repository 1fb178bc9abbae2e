/-
  twice: have two nodes one Id?
-/
import Derived.Test.YtdibjnlmeiikmaaL
import Derived.Maps.OwnSet
import Derived.Maps.Ext
import Derived.Maps.Views
set_option linter.unusedVariables false
set_option linter.unusedSimpArgs false
namespace Go.Proofs.Ytdibjnlmeiikmaa
open Go.RowKit Go.Maps

def dd : List Int → List Int
  | [] => []
  | x :: l => if x ∈ dd l then dd l else x :: dd l
theorem mem_dd {x : Int} : ∀ {l : List Int}, x ∈ dd l ↔ x ∈ l
  | [] => by simp [dd]
  | y :: l => by
    unfold dd
    split
    · rename_i h
      rw [mem_dd, List.mem_cons]
      exact ⟨.inr, fun h' => h'.elim (fun e => by rw [e]; exact mem_dd.1 h) id⟩
    · rw [List.mem_cons, List.mem_cons, mem_dd]
theorem dd_nodup : ∀ l : List Int, (dd l).Nodup
  | [] => List.nodup_nil
  | x :: l => by
    unfold dd
    split
    · exact dd_nodup l
    · exact List.nodup_cons.2 ⟨‹_›, dd_nodup l⟩
theorem dd_le : ∀ l : List Int, (dd l).length ≤ l.length
  | [] => Nat.le_refl _
  | x :: l => by
    have := dd_le l
    unfold dd
    split
    · simp; omega
    · simp; exact this
theorem dd_lt : ∀ l : List Int, (dd l).length < l.length ↔ ¬ l.Nodup
  | [] => by simp [dd]
  | x :: l => by
    have h1 := dd_le l
    have h2 := dd_lt l
    unfold dd
    rw [List.nodup_cons]
    by_cases h : x ∈ dd l
    · rw [if_pos h]
      have := mem_dd.1 h
      simp [this]; omega
    · rw [if_neg h]
      have h3 : x ∉ l := fun h' => h (mem_dd.2 h')
      simp only [List.length_cons, h3, not_false_eq_true, true_and]
      rw [← h2]; omega
theorem dd_snoc (l : List Int) (x : Int) : (dd (l ++ [x])).length = if x ∈ l then (dd l).length else (dd l).length + 1 := by
  by_cases h : x ∈ l
  · rw [if_pos h]
    refine ((List.perm_ext_iff_of_nodup (dd_nodup _) (dd_nodup l)).2 fun y => ?_).length_eq
    rw [mem_dd, mem_dd, List.mem_append, List.mem_singleton]
    exact ⟨fun h' => h'.elim id (fun e => by rw [e]; exact h), .inl⟩
  · rw [if_neg h]
    have hn : (x :: dd l).Nodup := List.nodup_cons.2 ⟨fun h' => h (mem_dd.1 h'), dd_nodup l⟩
    have := ((List.perm_ext_iff_of_nodup (dd_nodup (l ++ [x])) hn).2 fun y => by rw [mem_dd, List.mem_append, List.mem_singleton, List.mem_cons, mem_dd]; exact Or.comm).length_eq
    rw [this]; rfl
theorem owns_tight {H : Type} {P : Program} {k : TypeId} {R : Value → Option (DataW H × List MemPlace)} {w : World} {b n : Nat} {D : DataW H} (h : w.ownsMap P k R b n D) : w.ownsMap P k R b (Maps.size D) D := by
  obtain ⟨es, clock, hb, F, hs, hD⟩ := h
  refine ⟨es, clock, hb, F, ?_, hD⟩
  rw [hD]
  simp [Maps.size, length_sorted]
theorem owns_ext {H : Type} {P : Program} {k : TypeId} {R : Value → Option (DataW H × List MemPlace)} {w w' : World} {b n : Nat} {D : DataW H} {F : Nat → Prop} (h : w.ownsMap P k R b n D) (hx : Ext F w w') (hb : ¬ F b) : w'.ownsMap P k R b n D := by
  obtain ⟨es, clock, h1, r⟩ := h
  exact ⟨es, clock, hx.obj h1 hb, r⟩
theorem turned_ext {w w' : World} {b : Nat} (h : w.mapTurned w' b) : Ext (fun k => k = b) w w' := by
  have := h.grown
  exact (Ext.ofGrown this).mono fun k _ hk => by injection hk with hk; exact hk.symm
theorem keyed3 : Keyed Try.prog 3 := int_keyed Try.underlying3
abbrev gk (g : Int) : Lit := .int .i64 g
theorem keyOf3 {g : Int} (h : (Lit.int .i64 g).wf = true) : keyOf Try.prog 3 (.int .i64 g) = some (gk g) := keyOf_int_mk Try.underlying3 h
theorem gk_ne {g g' : Int} (h : g ≠ g') : gk g ≠ gk g' := fun e => h (by injection e)
theorem gk_key (g : Int) : WideAt.IsKeyLit (gk g) := trivial
noncomputable abbrev pE : Value → Option (DataW Unit × List MemPlace) := plainElem Try.prog 3
theorem zero3' (w : World) : (zeroValue 3).run Try.prog w = .ok (.int .i64 0) w := by kernel_rfl
theorem lit_inj {a b : Int} (h : (DataW.lit (.int .i64 a) : DataW Unit) = .lit (.int .i64 b)) : a = b := by
  cases h
  rfl
/-- Block mb is a map whose keys are the numbers of l. -/
structure SM (w : World) (mb : Nat) (l : List Int) : Prop where
  dat : ∃ D : DataW Unit, w.ownsMap Try.prog 3 pE mb (dd l).length D ∧ Maps.size D = (dd l).length ∧ (∀ g, Maps.has D (gk g) = decide (g ∈ l)) ∧ ∀ g ∈ l, ∃ c : Int, (0 ≤ c ∧ c ≤ l.length) ∧ ∀ z, D.atKey (gk g) z = .lit (.int .i64 c)
theorem SM.ext {F : Nat → Prop} {w w' : World} {mb : Nat} {l : List Int} (h : SM w mb l) (hx : Ext F w w') (hb : ¬ F mb) : SM w' mb l := by
  obtain ⟨D, h1, h2⟩ := h.dat
  exact ⟨D, owns_ext h1 hx hb, h2⟩
theorem SM.lt {w : World} {mb : Nat} {l : List Int} (h : SM w mb l) : mb < w.heap.size := by
  obtain ⟨D, h1, _⟩ := h.dat; exact h1.lt
theorem SM.new (w : World) : SM (w.alloc (.map #[] 0)) w.heap.size [] :=
  ⟨_, World.ownsMap_made w _ _ _, rfl, fun g => by simp [Maps.has], fun g hg => by simp at hg⟩
theorem SM.len {w : World} {mb : Nat} {l : List Int} (h : SM w mb l) (ty : TypeId) : (Builtin.len_ #[78] ty #[.map (some mb)]).run Try.prog w = .ok (.int .i64 (dd l).length) w := by
  obtain ⟨D, h1, h2, _⟩ := h.dat
  have := h1.len Try.underlying78 ty
  rw [h2] at this
  exact this
theorem SM.incr {w : World} {mb : Nat} {l : List Int} (h : SM w mb l) {g : Int} (hg : (Lit.int .i64 g).wf = true) (hl : l.length < 1000000) :
    ∃ c w', (0 ≤ c ∧ c ≤ 1000000) ∧ (Instr.lookup 78 (.map (some mb)) (.int .i64 g) false).run Try.prog w = .ok (.int .i64 c) w ∧ (Instr.mapUpdate 78 (.map (some mb)) (.int .i64 g) (.int .i64 (c + 1))).run Try.prog w = .ok () w' ∧ SM w' mb (l ++ [g]) ∧ Ext (fun k => k = mb) w w' := by
  obtain ⟨D, h1, h2, h3, h4⟩ := h.dat
  obtain ⟨c, hr, hv, _⟩ := h1.lookup_int keyed3 Try.underlying78 Try.underlying3 (zero3' w) (keyOf3 hg)
  have hc : 0 ≤ c ∧ c ≤ l.length := by
    by_cases hm : g ∈ l
    · obtain ⟨c', hb, ha⟩ := h4 g hm
      rw [ha] at hv
      have := lit_inj hv
      omega
    · rw [Maps.atKey_of_not_has (by rw [h3]; simpa using hm)] at hv
      have := lit_inj hv
      omega
  have hdl := dd_le l
  have hwf : (Lit.int .i64 (c + 1)).wf = true := by
    simp [Lit.wf, IntKind.min, IntKind.max, IntKind.bits, IntKind.signed]; omega
  obtain ⟨w', hr2, h6, h7⟩ := h1.store keyed3 Try.underlying78 (by unfold maxLen; omega) (val := .int .i64 (c + 1)) (keyOf3 hg) (plainElem_int Try.underlying3 hwf)
  have hD := h1.isMap
  have hsz := Maps.size_put (k := gk g) (d := .lit (.int .i64 (c + 1))) (h1.tidy keyed3)
  have hsz' : Maps.size (D.put (gk g) (.lit (.int .i64 (c + 1)))) = (dd (l ++ [g])).length := by
    rw [hsz, dd_snoc, h3, h2]
    by_cases h : g ∈ l <;> simp [h]
  refine ⟨c, w', by omega, hr, hr2, ⟨_, ?_, hsz', fun x => ?_, fun x hx => ?_⟩, turned_ext h7⟩
  · have := owns_tight h6
    rw [hsz'] at this
    exact this
  · by_cases hx : x = g
    · subst hx; rw [Maps.has_put_same hD (gk_key _)]; simp
    · rw [Maps.has_put_other (gk_ne hx), h3, decide_eq_decide]; simp [hx]
  · by_cases hxg : x = g
    · subst hxg; exact ⟨c + 1, by simp; omega, fun z => Maps.atKey_put_same hD (gk_key _) _ _⟩
    · have hx' : x ∈ l := by simpa [hxg] using hx
      obtain ⟨c', hb, ha⟩ := h4 x hx'
      exact ⟨c', by simp; omega, fun z => by rw [Maps.atKey_put_other (gk_ne hxg)]; exact ha z⟩
end Go.Proofs.Ytdibjnlmeiikmaa
