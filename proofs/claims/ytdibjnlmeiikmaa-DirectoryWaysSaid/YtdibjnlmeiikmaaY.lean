/-
  The layer's list, as the document says it; what chk = 0 gives.
-/
import Derived.Test.YtdibjnlmeiikmaaX
set_option linter.unusedVariables false
set_option linter.unusedSimpArgs false
namespace Go.Proofs.Ytdibjnlmeiikmaa
open Go.RowKit Go.Proofs

/-- The nodes of a layer, by Id (the document's layer). -/
def layL (L : List Nd) (l : Int) : List Nd := (List.range 16).flatMap fun (q : Nat) => L.filter (fun n => decide (n.id = (q : Int) ∧ n.lay = l))
theorem mem_layL {L : List Nd} {l : Int} {n : Nd} : n ∈ layL L l ↔ n ∈ L ∧ n.lay = l ∧ 0 ≤ n.id ∧ n.id < 16 := by
  unfold layL
  rw [List.mem_flatMap]
  constructor
  · rintro ⟨id, h1, h2⟩
    obtain ⟨h3, h4⟩ := List.mem_filter.1 h2
    simp at h4 h1
    exact ⟨h3, h4.2, by omega, by omega⟩
  · rintro ⟨h1, h2, h3, h4⟩
    exact ⟨n.id.toNat, List.mem_range.2 (by omega), List.mem_filter.2 ⟨h1, by simp; omega⟩⟩
theorem layL_sorted (L : List Nd) (l : Int) : (layL L l).Pairwise (fun a b => a.id ≤ b.id) := by
  unfold layL
  rw [List.pairwise_flatMap]
  refine ⟨fun id _ => ?_, ?_⟩
  · rw [List.pairwise_iff_forall_sublist]
    intro a b h
    have ha := (List.mem_filter.1 (h.subset (show a ∈ [a, b] by simp))).2
    have hb := (List.mem_filter.1 (h.subset (show b ∈ [a, b] by simp))).2
    simp at ha hb
    omega
  · refine (List.pairwise_lt_range (n := 16)).imp ?_
    intro i j hij a ha b hb
    have ha' := (List.mem_filter.1 ha).2
    have hb' := (List.mem_filter.1 hb).2
    simp at ha' hb'
    omega
/-- What a good directory is. -/
structure Good (layers : Int) (L : List Nd) : Prop where
  lo : 1 ≤ layers
  hi : layers ≤ 5
  plc : ∀ n ∈ L, 0 ≤ n.id ∧ n.id < 16 ∧ 0 ≤ n.lay ∧ n.lay < layers
  nd : (ids L).Nodup
  full : ∀ k : Nat, (k : Int) < layers → inLay L k ≠ []
theorem chk_good {layers : Int} {L : List Nd} (h : chk layers L = 0) : Good layers L := by
  obtain ⟨l1, l5⟩ := chk_lay h
  unfold chk at h
  rw [if_neg (by omega)] at h
  by_cases h1 : L.any (fun n => !plc layers n) = true
  · rw [if_pos h1] at h; exact absurd h (by decide)
  rw [if_neg h1] at h
  by_cases h2 : (ids L).Nodup
  · rw [if_neg (not_not_intro h2)] at h
    by_cases h3 : L.any (fun n => decide (num n.key % P25 = 0)) = true
    · rw [if_pos h3] at h; exact absurd h (by decide)
    rw [if_neg h3] at h
    by_cases h4 : bare layers L
    · rw [if_pos h4] at h; exact absurd h (by decide)
    refine ⟨l1, l5, fun n hn => ?_, h2, fun k hk he => h4 ⟨k, hk, he⟩⟩
    have : ¬ (!plc layers n) = true := fun hh => h1 (List.any_eq_true.2 ⟨n, hn, hh⟩)
    simpa [plc] using this
  · rw [if_pos h2] at h; exact absurd h (by decide)
theorem ids_inj {L : List Nd} (h : (ids L).Nodup) {a b : Nd} (ha : a ∈ L) (hb : b ∈ L) (he : a.id = b.id) : a = b := by
  obtain ⟨i, hi, rfl⟩ := List.mem_iff_getElem.1 ha
  obtain ⟨j, hj, rfl⟩ := List.mem_iff_getElem.1 hb
  have hp := List.pairwise_iff_getElem.1 h
  rcases Nat.lt_trichotomy i j with h1 | h1 | h1
  · have := hp i j (by simpa using hi) (by simpa using hj) h1
    simp at this; exact absurd he this
  · subst h1; rfl
  · have := hp j i (by simpa using hj) (by simpa using hi) h1
    simp at this; exact absurd he.symm this
theorem nodup_of_ids {L : List Nd} (h : (ids L).Nodup) : L.Nodup := List.Pairwise.of_map (·.id) (fun a b hab e => hab (by rw [e])) h
theorem layL_perm {layers : Int} {L : List Nd} (h : Good layers L) (l : Int) : (layL L l).Perm (inLay L l) := by
  have hL := nodup_of_ids h.nd
  refine (List.perm_ext_iff_of_nodup ?_ (hL.filter _)).2 fun n => ?_
  · unfold layL
    rw [List.nodup_iff_pairwise_ne, List.pairwise_flatMap]
    refine ⟨fun id _ => hL.filter _, (List.pairwise_lt_range (n := 16)).imp ?_⟩
    intro i j hij a ha b hb e
    subst e
    have ha' := (List.mem_filter.1 ha).2
    have hb' := (List.mem_filter.1 hb).2
    simp at ha' hb'
    omega
  · rw [mem_layL]
    rw [List.mem_filter]
    constructor
    · rintro ⟨h1, h2, _⟩; exact ⟨h1, by simpa using h2⟩
    · rintro ⟨h1, h2⟩
      have := h.plc n h1
      exact ⟨h1, by simpa using h2, this.1, this.2.1⟩
/-- An ascending permutation of the layer's nodes is that list. -/
theorem lay_eq {layers : Int} {L M : List Nd} (h : Good layers L) {l : Int} (hp : M.Perm (inLay L l)) (hs : M.Pairwise (fun a b => a.id ≤ b.id)) : M = layL L l := by
  have hp2 := hp.trans (layL_perm h l).symm
  refine List.Perm.eq_of_pairwise (fun a b ha hb h1 h2 => ?_) hs (layL_sorted L l) hp2
  have ha' := (List.mem_filter.1 (hp.mem_iff.1 ha)).1
  have hb' := (mem_layL.1 hb).1
  exact ids_inj h.nd ha' hb' (by omega)
end Go.Proofs.Ytdibjnlmeiikmaa
