/-
  A binary heap over lists, pure: what moving an item up, or down, keeps. No program is named here; nothing is assumed.
-/
import Derived.Test.YtaphhadahajohaaA
set_option linter.unusedVariables false
namespace Go.Proofs.Ytaphhadahajohaa

def at' (hs : List It) (k : Nat) : It := hs.getD k default
def lt (a b : It) : Prop := a.due < b.due ∨ (a.due = b.due ∧ a.n < b.n)
theorem ltB_iff (a b : It) : ltB a b = true ↔ lt a b := by
  unfold ltB lt
  by_cases h : a.due = b.due
  · have : (a.due != b.due) = false := by simp [h]
    rw [this]; simp; omega
  · have : (a.due != b.due) = true := by simp [h]
    rw [this]; simp; omega
theorem ltB_false (a b : It) : ltB a b = false ↔ ¬ lt a b := by rw [← ltB_iff]; simp
theorem nlt_trans {a b c : It} (h : ¬ lt a b) (k : ¬ lt b c) : ¬ lt a c := by unfold lt at *; omega
theorem lt_asym {a b : It} (h : lt a b) : ¬ lt b a := by unfold lt at *; omega
theorem at_get {hs : List It} {k : Nat} (h : k < hs.length) : hs[k]? = some (at' hs k) := by
  unfold at'; rw [List.getD_eq_getElem?_getD, List.getElem?_eq_getElem h]; rfl
theorem at_of {hs : List It} {k : Nat} {x : It} (h : hs[k]? = some x) : at' hs k = x := by
  unfold at'; rw [List.getD_eq_getElem?_getD, h]; rfl

def swapL (hs : List It) (i j : Nat) : List It := (hs.set i (at' hs j)).set j (at' hs i)
theorem swapL_length (hs : List It) (i j : Nat) : (swapL hs i j).length = hs.length := by simp [swapL]
theorem swapL_perm (hs : List It) (i j : Nat) (hi : i < hs.length) (hj : j < hs.length) : (swapL hs i j).Perm hs := by
  have e1 : at' hs j = hs[j] := by unfold at'; rw [List.getD_eq_getElem?_getD, List.getElem?_eq_getElem hj]; rfl
  have e2 : at' hs i = hs[i] := by unfold at'; rw [List.getD_eq_getElem?_getD, List.getElem?_eq_getElem hi]; rfl
  unfold swapL
  rw [e1, e2]
  exact List.set_set_perm hi hj
theorem at_set (hs : List It) (i k : Nat) (x : It) (hi : i < hs.length) : at' (hs.set i x) k = if k = i then x else at' hs k := by
  unfold at'
  rw [List.getD_eq_getElem?_getD, List.getD_eq_getElem?_getD, List.getElem?_set]
  by_cases h : i = k
  · subst h; simp [hi]
  · rw [if_neg h, if_neg (fun e => h e.symm)]
theorem at_swap (hs : List It) (i j k : Nat) (hi : i < hs.length) (hj : j < hs.length) : at' (swapL hs i j) k = if k = j then at' hs i else if k = i then at' hs j else at' hs k := by
  unfold swapL
  rw [at_set _ _ _ _ (by simpa using hj), at_set _ _ _ _ hi]

/-! ### up -/
def UpInv (hs : List It) (j : Nat) : Prop :=
  j < hs.length ∧ (∀ k, 0 < k → k < hs.length → k ≠ j → ¬ lt (at' hs k) (at' hs ((k - 1) / 2))) ∧
    ∀ k, 0 < k → k < hs.length → (k - 1) / 2 = j → 0 < j → ¬ lt (at' hs k) (at' hs ((j - 1) / 2))
def HeapN (hs : List It) (n : Nat) : Prop := ∀ k, 0 < k → k < n → ¬ lt (at' hs k) (at' hs ((k - 1) / 2))
theorem UpInv.done {hs : List It} {j : Nat} (h : UpInv hs j) (hd : j = 0 ∨ ¬ lt (at' hs j) (at' hs ((j - 1) / 2))) : HeapN hs hs.length := by
  intro k hk hl
  by_cases hj : k = j
  · subst hj
    rcases hd with h0 | h1
    · omega
    · exact h1
  · exact h.2.1 k hk hl hj
theorem UpInv.step {hs : List It} {j : Nat} (h : UpInv hs j) (hj : 0 < j) (hl : lt (at' hs j) (at' hs ((j - 1) / 2))) : UpInv (swapL hs ((j - 1) / 2) j) ((j - 1) / 2) := by
  obtain ⟨h0, h1, h2⟩ := h
  obtain ⟨i, hi⟩ : ∃ i, i = (j - 1) / 2 := ⟨_, rfl⟩
  rw [← hi] at hl ⊢
  have hij : i < j := by omega
  have hil : i < hs.length := by omega
  have S := fun k => at_swap hs i j k hil h0
  refine ⟨by rw [swapL_length]; exact hil, fun k hk hkl hki => ?_, fun k hk hkl hpk hi0 => ?_⟩
  · rw [swapL_length] at hkl
    rw [S k, S ((k - 1) / 2)]
    by_cases hkj : k = j
    · subst hkj
      rw [if_pos rfl, ← hi, if_neg (by omega), if_pos rfl]
      exact lt_asym hl
    · rw [if_neg hkj, if_neg hki]
      by_cases hp : (k - 1) / 2 = j
      · rw [if_pos hp]
        have := h2 k hk hkl hp hj
        rw [← hi] at this
        exact this
      · rw [if_neg hp]
        by_cases hq : (k - 1) / 2 = i
        · rw [if_pos hq]
          have := h1 k hk hkl hkj
          rw [hq] at this
          exact nlt_trans this (lt_asym hl)
        · rw [if_neg hq]
          exact h1 k hk hkl hkj
  · rw [swapL_length] at hkl
    have hpi : (i - 1) / 2 < i := by omega
    have hii := h1 i hi0 hil (by omega)
    rw [S k, S ((i - 1) / 2)]
    rw [if_neg (show ¬ (i - 1) / 2 = j by omega), if_neg (show ¬ (i - 1) / 2 = i by omega)]
    by_cases hkj : k = j
    · rw [if_pos hkj]; exact hii
    · rw [if_neg hkj, if_neg (by omega)]
      have := h1 k hk hkl hkj
      rw [hpk] at this
      exact nlt_trans this hii
/-- A heap, and one item behind it. -/
theorem UpInv.start {hs : List It} {x : It} (h : HeapN hs hs.length) : UpInv (hs ++ [x]) hs.length := by
  have e : ∀ k, k < hs.length → at' (hs ++ [x]) k = at' hs k := fun k hk => by
    unfold at'; rw [List.getD_eq_getElem?_getD, List.getD_eq_getElem?_getD, List.getElem?_append_left hk]
  refine ⟨by simp, fun k hk hl hne => ?_, fun k hk hl hp h0 => ?_⟩
  · simp at hl
    rw [e k (by omega), e _ (by omega)]
    exact h k hk (by omega)
  · simp at hl; omega

/-! ### down -/
def DnInv (hs : List It) (i n : Nat) : Prop :=
  (∀ k, 0 < k → k < n → (k - 1) / 2 ≠ i → ¬ lt (at' hs k) (at' hs ((k - 1) / 2))) ∧
    ∀ k, 0 < k → k < n → (k - 1) / 2 = i → 0 < i → ¬ lt (at' hs k) (at' hs ((i - 1) / 2))
theorem DnInv.leaf {hs : List It} {i n : Nat} (h : DnInv hs i n) (hl : n ≤ 2 * i + 1) : HeapN hs n := fun k hk hkn => h.1 k hk hkn (by omega)
/-- j is the lesser child. -/
def Child (hs : List It) (i n j : Nat) : Prop := j < n ∧ (j = 2 * i + 1 ∨ j = 2 * i + 2) ∧ (∀ k, 0 < k → k < n → (k - 1) / 2 = i → ¬ lt (at' hs k) (at' hs j))
theorem Child.left {hs : List It} {i n : Nat} (h1 : 2 * i + 1 < n) (h2 : 2 * i + 1 + 1 < n → ¬ lt (at' hs (2 * i + 1 + 1)) (at' hs (2 * i + 1))) : Child hs i n (2 * i + 1) := by
  refine ⟨h1, .inl rfl, fun k hk hkn hp => ?_⟩
  have : k = 2 * i + 1 ∨ k = 2 * i + 1 + 1 := by omega
  rcases this with rfl | rfl
  · intro h; exact lt_asym h h
  · exact h2 hkn
theorem Child.right {hs : List It} {i n : Nat} (h1 : 2 * i + 1 + 1 < n) (h2 : lt (at' hs (2 * i + 1 + 1)) (at' hs (2 * i + 1))) : Child hs i n (2 * i + 1 + 1) := by
  refine ⟨h1, .inr rfl, fun k hk hkn hp => ?_⟩
  have : k = 2 * i + 1 ∨ k = 2 * i + 1 + 1 := by omega
  rcases this with rfl | rfl
  · exact lt_asym h2
  · intro h; exact lt_asym h h
theorem DnInv.done {hs : List It} {i n j : Nat} (h : DnInv hs i n) (hc : Child hs i n j) (hn : ¬ lt (at' hs j) (at' hs i)) : HeapN hs n := by
  intro k hk hkn
  by_cases hp : (k - 1) / 2 = i
  · rw [hp]
    exact nlt_trans (hc.2.2 k hk hkn hp) hn
  · exact h.1 k hk hkn hp
theorem DnInv.step {hs : List It} {i n j : Nat} (h : DnInv hs i n) (hnl : n ≤ hs.length) (hc : Child hs i n j) (hl : lt (at' hs j) (at' hs i)) : DnInv (swapL hs i j) j n := by
  obtain ⟨h1, h2⟩ := h
  obtain ⟨hjn, hj, hmin⟩ := hc
  have hij : i < j := by omega
  have hpj : (j - 1) / 2 = i := by omega
  have S := fun k => at_swap hs i j k (by omega) (by omega)
  refine ⟨fun k hk hkn hp => ?_, fun k hk hkn hp h0 => ?_⟩
  · rw [S k, S ((k - 1) / 2)]
    rw [if_neg hp]
    by_cases hkj : k = j
    · subst hkj
      rw [if_pos rfl, if_pos hpj]
      exact lt_asym hl
    · rw [if_neg hkj]
      by_cases hki : k = i
      · subst hki
        rw [if_pos rfl, if_neg (by omega)]
        have := h2 j (by omega) hjn hpj (by omega)
        exact this
      · rw [if_neg hki]
        by_cases hq : (k - 1) / 2 = i
        · rw [if_pos hq]
          exact hmin k hk hkn hq
        · rw [if_neg hq]
          exact h1 k hk hkn hq
  · rw [hpj, S k, S i]
    rw [if_neg (by omega), if_neg (by omega), if_neg (by omega), if_pos rfl]
    have := h1 k hk hkn (by omega)
    rw [hp] at this
    exact this
theorem HeapN.min {hs : List It} {n : Nat} (h : HeapN hs n) : ∀ k, k < n → ¬ lt (at' hs k) (at' hs 0) := by
  intro k
  induction k using Nat.strongRecOn with
  | _ k ih =>
    intro hk
    by_cases h0 : k = 0
    · subst h0; intro h; exact lt_asym h h
    · exact nlt_trans (h k (by omega) hk) (ih ((k - 1) / 2) (by omega) (by omega))
/-- The root put behind, before it goes down. -/
theorem DnInv.start {hs : List It} {n : Nat} (h : HeapN hs (n + 1)) (hl : hs.length = n + 1) : DnInv (swapL hs 0 n) 0 n := by
  have S := fun k => at_swap hs 0 n k (by omega) (by omega)
  refine ⟨fun k hk hkn hp => ?_, fun k hk hkn hp h0 => by omega⟩
  rw [S k, S ((k - 1) / 2)]
  rw [if_neg (by omega), if_neg (by omega), if_neg (by omega), if_neg hp]
  exact h k hk (by omega)
theorem HeapN.take {hs : List It} {n m : Nat} (h : HeapN hs n) (hm : m ≤ n) (hn : n ≤ hs.length) : HeapN (hs.take m) m := by
  have e : ∀ k, k < m → at' (hs.take m) k = at' hs k := fun k hk => by
    unfold at'; rw [List.getD_eq_getElem?_getD, List.getD_eq_getElem?_getD, List.getElem?_take, if_pos hk]
  intro k hk hkm
  rw [e k hkm, e _ (by omega)]
  exact h k hk (by omega)
end Go.Proofs.Ytaphhadahajohaa
