/-
  The document's Gens: the least one above the last one, and so on.
-/
import Derived.Test.YteidkdbngjhopaaQ
set_option linter.unusedVariables false
set_option linter.unusedSimpArgs false
namespace Go.Proofs.Yteidkdbngjhopaa
open Go.RowKit

/-- The least generation above 'last' among the first k entries; -1: none. -/
def nx (E : List Ent) (last : Int) : Nat → Int
  | 0 => -1
  | k + 1 => if last < (E.getD k (0, [])).1 ∧ (nx E last k < 0 ∨ (E.getD k (0, [])).1 < nx E last k) then (E.getD k (0, [])).1 else nx E last k
theorem nx_spec {E : List Ent} {last : Int} (h0 : ∀ e ∈ E, 0 ≤ e.1) : ∀ k, k ≤ E.length → (nx E last k = -1 ∧ ∀ j (hj : j < k) (hl : j < E.length), E[j].1 ≤ last) ∨
    (0 ≤ nx E last k ∧ last < nx E last k ∧ (∃ j, ∃ hl : j < E.length, E[j].1 = nx E last k) ∧ ∀ j (hj : j < k) (hl : j < E.length), last < E[j].1 → nx E last k ≤ E[j].1)
  | 0, _ => .inl ⟨rfl, fun j hj => by omega⟩
  | k + 1, hk => by
    have hlt : k < E.length := by omega
    have e1 : E.getD k (0, []) = E[k] := by simp [List.getD_eq_getElem?_getD, List.getElem?_eq_getElem hlt]
    have hpos := h0 E[k] (List.getElem_mem hlt)
    unfold nx
    rw [e1]
    rcases nx_spec h0 k (by omega) with ⟨h1, h2⟩ | ⟨h1, h2, h3, h4⟩
    · rw [h1]
      by_cases hl : last < E[k].1
      · rw [if_pos ⟨hl, .inl (by decide)⟩]
        refine .inr ⟨hpos, hl, ⟨k, hlt, rfl⟩, fun j hj hjl hla => ?_⟩
        by_cases hjk : j = k
        · subst hjk; exact Int.le_refl _
        · have := h2 j (by omega) hjl; omega
      · rw [if_neg (fun h => hl h.1)]
        refine .inl ⟨rfl, fun j hj hjl => ?_⟩
        by_cases hjk : j = k
        · subst hjk; omega
        · exact h2 j (by omega) hjl
    · by_cases hc : last < E[k].1 ∧ (nx E last k < 0 ∨ E[k].1 < nx E last k)
      · rw [if_pos hc]
        refine .inr ⟨hpos, hc.1, ⟨k, hlt, rfl⟩, fun j hj hjl hla => ?_⟩
        by_cases hjk : j = k
        · subst hjk; exact Int.le_refl _
        · have := h4 j (by omega) hjl hla
          rcases hc.2 with h | h <;> omega
      · rw [if_neg hc]
        refine .inr ⟨h1, h2, h3, fun j hj hjl hla => ?_⟩
        by_cases hjk : j = k
        · subst hjk
          rcases Int.lt_or_le E[j].1 (nx E last j) with h | h
          · exact absurd ⟨hla, .inr h⟩ hc
          · exact h
        · exact h4 j (by omega) hjl hla
theorem gens_lt (E : List Ent) : (gens E).Pairwise (· < ·) := by
  have h1 : (gens E).Pairwise (fun a b => (decide (a ≤ b)) = true) := List.pairwise_mergeSort (fun a b c h1 h2 => by simp at *; omega) (fun a b => by simp; omega) _
  have h2 : (gens E).Pairwise (· ≠ ·) := gens_nodup E
  exact (h1.and h2).imp fun {a b} h => by have := h.1; have := h.2; simp at *; omega
def lastOf (S : List Int) (j : Nat) : Int := if j = 0 then -1 else S.getD (j - 1) 0
theorem nx_gens {E : List Ent} (h0 : ∀ e ∈ E, 0 ≤ e.1) (j : Nat) (hj : j ≤ (gens E).length) : nx E (lastOf (gens E) j) E.length = if j < (gens E).length then (gens E).getD j 0 else -1 := by
  have hm : ∀ x, x ∈ gens E ↔ ∃ i, ∃ hl : i < E.length, E[i].1 = x := fun x => by
    rw [gens_mem, mem_gl]
    constructor
    · rintro ⟨t, ht⟩
      obtain ⟨i, hi, he⟩ := List.mem_iff_getElem.1 ht
      exact ⟨i, hi, by rw [he]⟩
    · rintro ⟨i, hi, he⟩
      exact ⟨E[i].2, by rw [← he]; exact List.getElem_mem hi⟩
  have hlt := List.pairwise_iff_getElem.1 (gens_lt E)
  have gd : ∀ i (hi : i < (gens E).length), (gens E).getD i 0 = (gens E)[i] := fun i hi => by simp [List.getD_eq_getElem?_getD, List.getElem?_eq_getElem hi]
  have hlast : ∀ i (hi : i < (gens E).length), lastOf (gens E) j < (gens E)[i] ↔ j ≤ i := fun i hi => by
    unfold lastOf
    by_cases hj0 : j = 0
    · rw [if_pos hj0]
      obtain ⟨k, hk, he⟩ := (hm _).1 (List.getElem_mem hi)
      have := h0 E[k] (List.getElem_mem hk)
      omega
    · rw [if_neg hj0, gd (j - 1) (by omega)]
      constructor
      · intro h
        rcases Nat.lt_or_ge i j with h1 | h1
        · rcases Nat.lt_or_eq_of_le (Nat.le_sub_one_of_lt h1) with h2 | h2
          · have := hlt i (j - 1) hi (by omega) h2; omega
          · subst h2; omega
        · exact h1
      · intro h
        exact hlt (j - 1) i (by omega) hi (by omega)
  rcases nx_spec (last := lastOf (gens E) j) h0 E.length (Nat.le_refl _) with ⟨h1, h2⟩ | ⟨h1, h2, ⟨k, hk, h3⟩, h4⟩
  · rw [h1]
    rw [if_neg]
    intro hjl
    obtain ⟨i, hi, he⟩ := (hm _).1 (List.getElem_mem hjl)
    have := h2 i hi hi
    have := (hlast j hjl).2 (Nat.le_refl _)
    omega
  · have hin : nx E (lastOf (gens E) j) E.length ∈ gens E := (hm _).2 ⟨k, hk, h3⟩
    obtain ⟨i, hi, he⟩ := List.mem_iff_getElem.1 hin
    have hji := (hlast i hi).1 (by rw [he]; exact h2)
    rw [if_pos (by omega), gd j (by omega)]
    obtain ⟨m, hm1, hm2⟩ := (hm _).1 (List.getElem_mem (show j < (gens E).length by omega))
    have h5 := h4 m hm1 hm1 (by rw [hm2]; exact (hlast j (by omega)).2 (Nat.le_refl _))
    rcases Nat.lt_or_eq_of_le hji with h6 | h6
    · have := hlt j i (by omega) hi h6; omega
    · subst h6; exact he.symm
end Go.Proofs.Yteidkdbngjhopaa
