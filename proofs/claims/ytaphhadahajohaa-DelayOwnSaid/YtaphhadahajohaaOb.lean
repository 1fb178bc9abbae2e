/-
  DelayOwn returns true: the walk.
-/
import Derived.Test.YtaphhadahajohaaOa
set_option linter.unusedVariables false
set_option linter.unusedSimpArgs false
namespace Go.Proofs.Ytaphhadahajohaa
open Go.RowKit

theorem append_nil0 (w : World) (t ty e : TypeId) (A : Option Addr) (c : Nat) (ht : Try.prog.underlying t = some (.slice e)) {i : TypeInfo} (hi : Try.prog.info? e = some i) :
    (Builtin.append_ #[t, t] ty #[.slice none 0 0, .slice A 0 c]).run Try.prog w = .ok (.slice none 0 0) w := by
  cases A
  · simp [Builtin.append_, run_underlying ht, sizeOf, typeInfo, hi, Builtin.lenOf, Builtin.firstCells, loadCells, loadCellsFrom, storeCells]
  · simp [Builtin.append_, run_underlying ht, sizeOf, typeInfo, hi, Builtin.lenOf, Builtin.firstCells, loadCells, loadCellsFrom, storeCells]
theorem wpList_append_nil0 {ops : Array Oper} {rest : List Oper} {o : Oper} {a : Act} {w : World} {Q : Exit → Act → World → Prop} (hgd : o.guard = none) (s x : Operand) (t : TypeId)
    (ho : o.op = .call { callee := .builtin .append, args := #[s, x], argTypes := #[t, t] }) (e : TypeId) (ht : Try.prog.underlying t = some (.slice e)) {i : TypeInfo} (hi : Try.prog.info? e = some i)
    (A : Option Addr) (c : Nat) (hs : a.eval s = .slice none 0 0) (hx : a.eval x = .slice A 0 c)
    (hK : wpList Try.prog ops Q rest (a.put o.dst (.slice none 0 0)) w) : wpList Try.prog ops Q (o :: rest) a w :=
  wpList_plain hgd fun K hK' => by
    have hr := append_nil0 w t o.type e A c ht hi
    unfold Oper.wp execOp
    simp only [ho, resolve, invoke, builtin, Sem.run_bind, Sem.run_pure, Result.andThen_ok, List.map_toArray, List.map_cons, List.map_nil, hs, hx, hr]
    exact hK' _ _ hK
/-- append([]byte(nil), x...): a row of its own, or nil. -/
def Own (w : World) (bs : List Int) (v : Value) (w' : World) : Prop := El w' v bs ∧ Ext NoB w w' ∧ (∀ k, v.ownBlock = some k → w.heap.size ≤ k)
theorem wpList_own {ops : Array Oper} {rest : List Oper} {o : Oper} {a : Act} {w : World} {Q : Exit → Act → World → Prop} (hgd : o.guard = none) (s x : Operand)
    (ho : o.op = .call { callee := .builtin .append, args := #[s, x], argTypes := #[28, 28] })
    (A : Option Addr) (c : Nat) (bs : List Int) (hb : Bytes w (.slice A bs.length c) bs) (hl : bs.length ≤ 1000000) (hs : a.eval s = .slice none 0 0) (hx : a.eval x = .slice A bs.length c)
    (hK : ∀ A' c' w', Own w bs (.slice A' bs.length c') w' → wpList Try.prog ops Q rest (a.put o.dst (.slice A' bs.length c')) w') : wpList Try.prog ops Q (o :: rest) a w := by
  obtain ⟨i0, hi, _⟩ := info_parts Try.info5
  rcases Nat.eq_zero_or_pos bs.length with h0 | h0
  · have hbs : bs = [] := List.eq_nil_of_length_eq_zero h0
    subst hbs
    exact wpList_append_nil0 hgd s x 28 ho 5 Try.underlying28 hi A c hs hx (hK none 0 w ⟨⟨0, QRow.nil _ _ _⟩, Ext.refl _ _, fun k hk => by simp [Value.ownBlock] at hk⟩)
  · rcases hb with ⟨e1, e2⟩ | ⟨ad, c1, e1, h1, h2, h3⟩
    · subst e2; simp at h0
    · injection e1 with e1 _ e3
      subst e1; subst e3
      refine wpList_append_q hgd s x 28 ho 5 1 1 (.int .u8 0) Try.underlying28 Try.info5 rfl (by decide) (.slice none 0 0) 0 [] hs (QRow.nil _ _ _) ad bs.length c (bs.map (Value.int .u8)) hx (by simp) (fun j u hu => ?_) (ints_oneCell _ _) h0 (by unfold maxLen; omega) (by omega) (fun g off cap w' hq hxx hg => ?_)
      · have hj : j < bs.length := by have := (List.getElem?_eq_some_iff.1 hu).1; simpa using this
        have e : (bs.map (Value.int .u8))[j]? = some (.int .u8 (bs.getD j 0)) := by simp [List.getElem?_eq_getElem hj, List.getD_eq_getElem?_getD]
        rw [e] at hu
        rw [← hu]
        exact h3 j hj
      · rw [Nat.zero_add] at hq ⊢
        refine hK _ _ w' ⟨⟨_, by simpa using hq⟩, hxx.mono (fun k _ h => by simp [Value.ownBlock] at h), fun k hk => ?_⟩
        have hgk : g = k := by simpa [Value.ownBlock] using hk
        rcases hg with hg | hg
        · simp [Value.ownBlock] at hg
        · omega
theorem El.set {w : World} {g o n c j : Nat} {xs : List Int} (h : El w (.slice (some ⟨g, o, none⟩) n c) xs) (hj : j < xs.length) (v : Int) : El (w.setCell ⟨g, o + j, none⟩ (.int .u8 v)) (.slice (some ⟨g, o, none⟩) n c) (xs.set j v) := by
  obtain ⟨m, h1, h2⟩ := h
  refine ⟨m, by simpa using h1, ?_⟩
  rcases h2 with ⟨h2, _⟩ | ⟨g', o', c', cur, hv, hh, k1, k2, k3, k4⟩
  · cases h2
  · injection hv with e1 e2 e3
    injection e1 with e1
    injection e1 with e1 e4
    subst e1; subst e4; subst e3; subst e2
    have hlx : xs.length = n := by simpa using h1
    refine .inr ⟨g, o, c, _, rfl, heapSet hh _ _, k1, k2, by simpa using k3, fun i hi => ?_⟩
    have hi' : i < xs.length := by simpa using hi
    by_cases hij : i = j
    · subst hij
      rw [Array.getElem?_setIfInBounds_self_of_lt (by omega)]
      simp [List.getElem?_set, hi']
    · rw [Array.getElem?_setIfInBounds_ne (by omega), k4 i (by simpa using hi')]
      simp [List.getElem?_set]; intro e; exact absurd e.symm hij
theorem El.at {w : World} {v : Value} {xs : List Int} (h : El w v xs) {j : Nat} (hj : j < xs.length) : ∃ g o c, v = .slice (some ⟨g, o, none⟩) xs.length c ∧ xs.length ≤ c ∧ c ≤ maxLen ∧ w.cell? ⟨g, o + j, none⟩ = some (.int .u8 (xs.getD j 0)) ∧ w.frozen? ⟨g, o + j, none⟩ = false := by
  obtain ⟨n, h⟩ := h
  have hn : xs.length = n := by simpa using h.1
  subst hn
  obtain ⟨g, o, c, hv, h1, h2, h3, h4⟩ := h.form (by omega)
  refine ⟨g, o, c, hv, h1, h2, ?_, h4 _⟩
  rw [h3 j (by omega)]
  simp [List.getElem?_eq_getElem hj, List.getD_eq_getElem?_getD]
theorem pushE_le (n : Nat) (h : n ≤ 4096) : pushE 4 ([] : List (It × List Int)).length 1 0 n = 0 := by
  unfold pushE
  rw [if_pos ((mayB_iff 1 0 n).2 (by omega)), if_neg (by simp)]
theorem pushE_gt (n : Nat) (h : 4096 < n) : pushE 4 ([] : List (It × List Int)).length 1 0 n = 2 := by
  unfold pushE
  rw [if_neg (fun h' => by have := (mayB_iff 1 0 n).1 h'; omega)]
theorem best_one (n : Int) (hn : n = 1) : IsBest [n] 1 0 := by
  subst hn
  exact ⟨by decide, by decide, fun k hk _ => by simp at hk; subst hk; simp⟩
end Go.Proofs.Ytaphhadahajohaa
