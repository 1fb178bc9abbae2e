/-
  What waits in DelayOrder: bytes that rise, how many are due, what a Pop takes.
-/
import Derived.Test.YtaphhadahajohaaW
set_option linter.unusedVariables false
set_option linter.unusedSimpArgs false
namespace Go.Proofs.Ytaphhadahajohaa
open Go.RowKit

def cntD (L : List (It × List Int)) (now : Int) : Nat := L.countP (fun e => decide (e.1.due ≤ now))
theorem cntD_le (L : List (It × List Int)) (now : Int) : cntD L now ≤ L.length := List.countP_le_length
theorem cntD_yes (L : List (It × List Int)) (now : Int) (e : It × List Int) (h : e.1.due ≤ now) : cntD (L ++ [e]) now = cntD L now + 1 := by
  simp [cntD, List.countP_append, h]
theorem cntD_no (L : List (It × List Int)) (now : Int) (e : It × List Int) (h : now < e.1.due) : cntD (L ++ [e]) now = cntD L now := by
  have : ¬ e.1.due ≤ now := by omega
  simp [cntD, List.countP_append, this]
theorem cntD_some {L : List (It × List Int)} {now : Int} (h : 0 < cntD L now) : ∃ i, popI L now = some i := by
  cases hi : popI L now with
  | some i => exact ⟨i, rfl⟩
  | none =>
    exfalso
    unfold cntD at h
    obtain ⟨e, he, hd⟩ := List.countP_pos_iff.1 h
    obtain ⟨j, hj, rfl⟩ := List.mem_iff_getElem.1 he
    have := bst_none (D := dues L) (now := now) (by rw [dues_len]; exact hi) j (by rw [dues_len]; exact hj)
    rw [dues_at hj] at this
    simp at hd
    omega
theorem cntD_none {L : List (It × List Int)} {now : Int} (h : cntD L now = 0) : ∀ e ∈ L, now < e.1.due := fun e he => by
  unfold cntD at h
  have := List.countP_eq_zero.1 h e he
  simp at this
  exact this
theorem cntD_erase {L : List (It × List Int)} {now : Int} {i : Nat} (hi : i < L.length) (hd : L[i].1.due ≤ now) : cntD (L.eraseIdx i) now + 1 = cntD L now := by
  have h := (perm_erase L i hi).countP_eq (fun e => decide (e.1.due ≤ now))
  unfold cntD
  rw [← h, List.countP_cons, if_pos (by simpa using hd)]
/-- Each entry's one byte; they rise. -/
structure Sg (k : Nat) (L : List (It × List Int)) : Prop where
  one : ∀ e ∈ L, ∃ j : Nat, j < k ∧ e.2 = [(j : Int)]
  up : L.Pairwise (fun a b => a.2.headD 0 < b.2.headD 0)
theorem Sg.nil : Sg 0 [] := ⟨fun e he => by simp at he, List.Pairwise.nil⟩
theorem Sg.skip {k : Nat} {L : List (It × List Int)} (h : Sg k L) : Sg (k + 1) L := ⟨fun e he => by obtain ⟨j, h1, h2⟩ := h.one e he; exact ⟨j, by omega, h2⟩, h.up⟩
theorem Sg.add {k : Nat} {L : List (It × List Int)} (h : Sg k L) (x : It) : Sg (k + 1) (L ++ [(x, [(k : Int)])]) := by
  refine ⟨fun e he => ?_, ?_⟩
  · rcases List.mem_append.1 he with he | he
    · exact h.skip.one e he
    · simp at he; subst he; exact ⟨k, by omega, rfl⟩
  · refine List.pairwise_append.2 ⟨h.up, List.pairwise_singleton _ _, fun a ha b hb => ?_⟩
    simp at hb
    subst hb
    obtain ⟨j, h1, h2⟩ := h.one a ha
    rw [h2]
    simp
    exact h1
theorem Sg.erase {k : Nat} {L : List (It × List Int)} (h : Sg k L) (i : Nat) : Sg k (L.eraseIdx i) :=
  ⟨fun e he => h.one e (List.mem_of_mem_eraseIdx he), h.up.sublist (List.eraseIdx_sublist _ _)⟩
/-- All that waits comes behind what was popped last. -/
def Aft (ld lj : Int) (L : List (It × List Int)) : Prop := ∀ e ∈ L, ld < e.1.due ∨ (ld = e.1.due ∧ lj < e.2.headD 0)
theorem aft_pop {k : Nat} {L : List (It × List Int)} {now : Int} {i : Nat} (h : Sg k L) (hi : i < L.length) (hb : IsBest (dues L) now i) : L[i].1.due ≤ now ∧ Aft L[i].1.due (L[i].2.headD 0) (L.eraseIdx i) := by
  obtain ⟨_, h2, h3⟩ := hb
  rw [dues_at hi] at h2
  refine ⟨h2, fun e he => ?_⟩
  obtain ⟨t, ht, hti, rfl⟩ := List.mem_eraseIdx_iff_getElem.1 he
  by_cases hd : L[t].1.due ≤ now
  · have h4 := h3 t (by rw [dues_len]; exact ht) (by rw [dues_at ht]; exact hd)
    rw [dues_at hi, dues_at ht] at h4
    rcases Int.lt_or_eq_of_le h4.1 with h5 | h5
    · exact .inl h5
    · refine .inr ⟨h5, ?_⟩
      rcases Nat.lt_trichotomy t i with h6 | h6 | h6
      · have := h4.2 h6; omega
      · omega
      · exact List.pairwise_iff_getElem.1 h.up i t hi ht h6
  · exact .inl (by omega)
end Go.Proofs.Ytaphhadahajohaa
