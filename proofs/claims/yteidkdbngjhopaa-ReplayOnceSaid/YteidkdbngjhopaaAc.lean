/-
  ReplayLens: what holds between two rounds; plain facts of its two inner loops.
-/
import Derived.Test.YteidkdbngjhopaaAb
set_option linter.unusedVariables false
set_option linter.unusedSimpArgs false
namespace Go.Proofs.Yteidkdbngjhopaa
open Go.RowKit Go.Maps

def goneOf (E : List Ent) (gen : Int) (ks : List Int) : Nat := (E.filter (fun e => decide (e.1 < gen ∧ e.1 ∈ ks))).length
theorem goneOf_nil (E : List Ent) (gen : Int) : goneOf E gen [] = 0 := by unfold goneOf; simp
theorem goneOf_le (E : List Ent) (gen : Int) (ks : List Int) : goneOf E gen ks ≤ E.length := List.length_filter_le _ _
theorem goneOf_yes (E : List Ent) (gen : Int) (ks : List Int) {x : Int} (hx : x ∉ ks) (h : x < gen) : goneOf E gen (ks ++ [x]) = goneOf E gen ks + (tagsOf E x).length := by
  unfold goneOf tagsOf
  rw [List.length_map]
  induction E with
  | nil => rfl
  | cons e E ih =>
    by_cases h1 : e.1 = x
    · subst h1
      rw [List.filter_cons_of_pos (by simp [h]), List.filter_cons_of_neg (by simp [hx]), List.filter_cons_of_pos (by simp)]
      simp only [List.length_cons]
      omega
    · rw [List.filter_cons_of_neg (l := E) (a := e) (p := fun e => decide (e.1 = x)) (by simp [h1]), List.filter_cons, List.filter_cons]
      simp only [List.mem_append, List.mem_singleton, h1, or_false] at ih ⊢
      split
      · simp only [List.length_cons]; omega
      · exact ih
theorem goneOf_no (E : List Ent) (gen : Int) (ks : List Int) {x : Int} (h : ¬ x < gen) : goneOf E gen (ks ++ [x]) = goneOf E gen ks := by
  unfold goneOf
  congr 1
  apply List.filter_congr
  intro e _
  rw [decide_eq_decide, List.mem_append, List.mem_singleton]
  constructor
  · rintro ⟨h1, h2 | h2⟩
    · exact ⟨h1, h2⟩
    · exact absurd (h2 ▸ h1) h
  · rintro ⟨h1, h2⟩; exact ⟨h1, .inl h2⟩
theorem goneOf_end {E : List Ent} {gen : Int} {ks : List Int} (h : ks.Perm (gl E)) : (goneOf E gen ks : Int) = (E.length : Int) - ((keepG E gen).length : Int) := by
  have e1 : goneOf E gen ks = (E.filter (fun e => decide (e.1 < gen))).length := by
    unfold goneOf
    congr 1
    apply List.filter_congr
    intro e he
    have : e.1 ∈ ks := h.mem_iff.2 (mem_gl.2 ⟨e.2, he⟩)
    simp [this]
  have e2 : (E.filter (fun e => decide (e.1 < gen))).length + (keepG E gen).length = E.length := by
    clear h e1
    unfold keepG
    induction E with
    | nil => rfl
    | cons e E ih =>
      by_cases h1 : e.1 < gen
      · have h2 : ¬ gen ≤ e.1 := by omega
        simp [List.filter_cons, h1, h2]; omega
      · have h2 : gen ≤ e.1 := by omega
        simp [List.filter_cons, h1, h2]; omega
  omega
def upK (E : List Ent) (gen : Int) (ks : List Int) (k : Nat) : List Ent := E.filter (fun e => decide (¬ (e.1 < gen ∧ e.1 ∈ ks.take k)))
theorem upK_zero (E : List Ent) (gen : Int) (ks : List Int) : upK E gen ks 0 = E := by
  unfold upK; rw [List.filter_eq_self]; intro e _; simp
theorem upK_end {E : List Ent} {gen : Int} {ks : List Int} (h : ks.Perm (gl E)) : upK E gen ks ks.length = keepG E gen := by
  unfold upK keepG
  apply List.filter_congr
  intro e he
  have hm : e.1 ∈ ks := h.mem_iff.2 (mem_gl.2 ⟨e.2, he⟩)
  rw [List.take_length, decide_eq_decide]
  simp [hm]
theorem upK_keep {E : List Ent} {gen : Int} {ks : List Int} {k : Nat} (hk : k < ks.length) (h : ¬ ks.getD k 0 < gen) : upK E gen ks (k + 1) = upK E gen ks k := by
  unfold upK
  apply List.filter_congr
  intro e _
  rw [decide_eq_decide, take_succ_mem hk]
  constructor
  · rintro h1 ⟨h2, h3⟩; exact h1 ⟨h2, .inl h3⟩
  · rintro h1 ⟨h2, h3 | h3⟩
    · exact h1 ⟨h2, h3⟩
    · exact h (h3 ▸ h2)
theorem upK_drop {E : List Ent} {gen : Int} {ks : List Int} {k : Nat} (hk : k < ks.length) (h : ks.getD k 0 < gen) : upK E gen ks (k + 1) = dropG (upK E gen ks k) (ks.getD k 0) := by
  unfold upK dropG
  rw [List.filter_filter]
  apply List.filter_congr
  intro e _
  rw [← Bool.decide_and, decide_eq_decide, take_succ_mem hk]
  constructor
  · intro h1
    exact ⟨fun h2 => h1 ⟨h2 ▸ h, .inr h2⟩, fun h2 => h1 ⟨h2.1, .inl h2.2⟩⟩
  · rintro ⟨h1, h2⟩ ⟨h3, h4 | h4⟩
    · exact h2 ⟨h3, h4⟩
    · exact h1 h4
theorem goneOf_wf {E : List Ent} {gen : Int} {ks : List Int} : goneOf E gen ks ≤ E.length := goneOf_le E gen ks
/-- Between two rounds. -/
structure LS (w W : World) (p nb : Nat) (size lo : Int) (E : List Ent) (F : Nat → Prop) : Prop where
  cs : CS W p size lo E F
  nm : NM W nb E
  own : ∀ k, F k → w.heap.size ≤ k ∧ k ≠ nb ∧ k < W.heap.size
  x : Below w.heap.size w W
  nb : w.heap.size ≤ nb
theorem LS.ext {w W W' : World} {p nb : Nat} {size lo : Int} {E : List Ent} {F : Nat → Prop} (h : LS w W p nb size lo E F) (hx : Ext NoB W W') : LS w W' p nb size lo E F :=
  ⟨h.cs.ext hx (fun _ _ h => h), h.nm.ext hx id, fun k hk => ⟨(h.own k hk).1, (h.own k hk).2.1, Nat.lt_of_lt_of_le (h.own k hk).2.2 hx.size⟩, h.x.trans (hx.below h.x.size fun _ h => h.elim), h.nb⟩
/-- The cache has turned, its own blocks and new ones alone; then the law's map. -/
theorem LS.step {w W W1 W2 : World} {p nb : Nat} {size lo lo2 : Int} {E E2 : List Ent} {F G : Nat → Prop} (h : LS w W p nb size lo E F) (x1 : Ext F W W1) (hcs : CS W1 p size lo2 E2 G) (hG : ∀ k, G k → F k ∨ W.heap.size ≤ k)
    (x2 : Ext (fun k => k = nb) W1 W2) (hnm : NM W2 nb E2) : LS w W2 p nb size lo2 E2 (fun k => G k ∧ k < W1.heap.size) := by
  have hlt := h.nm.lt
  have hg : ∀ k, G k ∧ k < W1.heap.size → w.heap.size ≤ k ∧ k ≠ nb ∧ k < W2.heap.size := fun k hk => by
    have := x2.size
    rcases hG k hk.1 with h1 | h1
    · have := h.own k h1; exact ⟨this.1, this.2.1, by omega⟩
    · have := h.x.size; exact ⟨by omega, by omega, by omega⟩
  exact ⟨(hcs.mono fun k hk hg => ⟨hg, hk⟩).ext x2 (fun k hk e => (hg k hk).2.1 e), hnm, hg, h.x.trans ((x1.below h.x.size fun k hk => (h.own k hk).1).trans (x2.below (Nat.le_trans h.x.size x1.size) fun k hk => by rw [hk]; exact h.nb)), h.nb⟩
end Go.Proofs.Yteidkdbngjhopaa
