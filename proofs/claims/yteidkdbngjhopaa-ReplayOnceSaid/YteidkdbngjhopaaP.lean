/-
  The document's cache: its row of entries; Len.
-/
import Derived.Test.YteidkdbngjhopaaOpen
import Derived.ChangeKeysEq
import Derived.Laws.StructEq
set_option linter.unusedVariables false
set_option linter.unusedSimpArgs false
namespace Go.Proofs.Yteidkdbngjhopaa
open Go.RowKit

/-! ### 1. Tags compared -/
theorem ext_getD {s t : List Int} (hl : s.length = t.length) (h : ∀ j, j < s.length → s.getD j 0 = t.getD j 0) : s = t := by
  apply List.ext_getElem hl
  intro i h1 h2
  have := h i h1
  simpa [List.getD_eq_getElem?_getD, List.getElem?_eq_getElem h1, List.getElem?_eq_getElem h2] using this
theorem tvs_at {t : List Int} {i : Nat} (h : i < t.length) : (tvs t)[i]? = some (.int .u8 (t.getD i 0)) := by
  simp [List.getD_eq_getElem?_getD, List.getElem?_eq_getElem h]
section
variable {P : Program} (w : World)
theorem run_eqItems_u8 (d : Nat) {e : TypeId} {c : Nat} (hc : c = 1) (he : P.underlying e = some (.int .u8)) (a b : List Int) (hab : a.length = b.length) : ∀ (is : List Nat), (∀ i ∈ is, i < a.length) →
    (Op.eqItems (d + 1) e c (tv a) (tv b) is).run P w = .ok (is.all fun i => a.getD i 0 == b.getD i 0) w
  | [], _ => by simp [Op.eqItems]
  | i :: is, h => by
    have hp : P.plainKey e = true := by simp [Program.plainKey, he]
    have h1 := h i (by simp)
    have pa := run_part_plain (P := P) w hp (xs := tv a) (off := i * c) (v := .int .u8 (a.getD i 0)) (by rw [hc, Nat.mul_one, List.getElem?_toArray]; exact tvs_at h1)
    have pb := run_part_plain (P := P) w hp (xs := tv b) (off := i * c) (v := .int .u8 (b.getD i 0)) (by rw [hc, Nat.mul_one, List.getElem?_toArray]; exact tvs_at (by omega))
    have pe := run_equalIn_int (P := P) w d e .u8 .u8 (a.getD i 0) (b.getD i 0) he
    have ih := run_eqItems_u8 d hc he a b hab is (fun j hj => h j (by simp [hj]))
    simp only [Op.eqItems, Sem.run_bind, pa, pb, pe, Result.andThen_ok]
    cases hr : (a.getD i 0 == b.getD i 0)
    · simp only [Bool.not_false, if_true, Sem.run_pure, List.all_cons, hr, Bool.false_and]
    · simp only [Bool.not_true, Bool.false_eq_true, if_false, ih, List.all_cons, hr, Bool.true_and]
theorem all_range_eq (a b : List Int) (h : a.length = b.length) : ((List.range a.length).all fun i => a.getD i 0 == b.getD i 0) = (a == b) := by
  rw [Bool.eq_iff_iff, List.all_eq_true]
  simp only [List.mem_range, beq_iff_eq]
  exact ⟨fun hh => ext_getD h hh, fun hh i _ => by rw [hh]⟩
theorem run_eql_bytes (t e : TypeId) (a b : List Int) (hab : a.length = b.length) (hu : P.underlying t = some (.array a.length e)) (he : P.underlying e = some (.int .u8)) (hc : P.cellsOf e = 1) :
    (Op.equal t (.agg (tv a)) (.agg (tv b))).run P w = .ok (a == b) w := by
  obtain ⟨i, hi⟩ := info_of_underlying he
  unfold Op.equal
  rw [show Op.maxDepth = 9998 + 1 + 1 from rfl, run_equalIn_array w (9998 + 1) _ _ hu hi]
  rw [run_eqItems_u8 w 9998 hc he a b hab _ (fun j hj => by simpa using hj), all_range_eq a b hab]
theorem run_binEql_bytes (t e : TypeId) (a b : List Int) (hab : a.length = b.length) (hu : P.underlying t = some (.array a.length e)) (he : P.underlying e = some (.int .u8)) (hc : P.cellsOf e = 1) :
    (binOp .eql t (.agg (tv a)) (.agg (tv b))).run P w = .ok (.bool (a == b)) w := by
  have := run_eql_bytes (P := P) w t e a b hab hu he hc
  unfold binOp
  simp [this]
end
theorem Try.eql30 {a b : List Int} (ha : Tg a) (hb : Tg b) (w : World) : (binOp .eql 30 (.agg (tv a)) (.agg (tv b))).run Try.prog w = .ok (.bool (a == b)) w :=
  run_binEql_bytes w 30 5 a b (by rw [ha.len, hb.len]) (by rw [ha.len]; exact Try.underlying30) Try.underlying5 (by kernel_rfl)

/-! ### 2. The row of entries -/
abbrev ecs (e : Ent) : List Value := .int .i64 e.1 :: tvs e.2
def flatE (E : List Ent) : List Value := E.flatMap ecs
theorem ecs_len {e : Ent} (h : EntOk e) : (ecs e).length = 17 := by simp [h.tag.len]
theorem flatE_length {E : List Ent} (h : ∀ e ∈ E, EntOk e) : (flatE E).length = E.length * 17 := by
  induction E with
  | nil => rfl
  | cons x xs ih =>
    have := ih (fun e he => h e (by simp [he]))
    have h1 := ecs_len (h x (by simp))
    simp only [flatE, List.flatMap_cons, List.length_append, List.length_cons] at this h1 ⊢
    omega
theorem flatE_append (a b : List Ent) : flatE (a ++ b) = flatE a ++ flatE b := by simp [flatE]
theorem flatE_at : ∀ (E : List Ent) (i c : Nat), (∀ e ∈ E, EntOk e) → c < 17 → i < E.length → (flatE E)[i * 17 + c]? = (E[i]?).bind fun e => (ecs e)[c]?
  | [], i, c, _, hc, hi => by simp at hi
  | x :: xs, 0, c, h, hc, hi => by
    have h1 := ecs_len (h x (by simp))
    simp only [flatE, List.flatMap_cons, Nat.zero_mul, Nat.zero_add, List.getElem?_cons_zero, Option.bind_some]
    rw [List.getElem?_append_left (by omega)]
  | x :: xs, i + 1, c, h, hc, hi => by
    have h1 := ecs_len (h x (by simp))
    simp only [flatE, List.flatMap_cons, List.getElem?_cons_succ]
    rw [List.getElem?_append_right (by omega)]
    have := flatE_at xs i c (fun e he => h e (by simp [he])) hc (by simp at hi; omega)
    simp only [flatE] at this
    rw [← this]
    congr 1
    omega
theorem flatE_one (E : List Ent) : ∀ u ∈ flatE E, u.oneCell' = true := by
  intro u hu
  obtain ⟨x, _, hx⟩ := List.mem_flatMap.1 hu
  rcases List.mem_cons.1 hx with rfl | hx
  · rfl
  · exact tvs_one _ u hx
/-- The row of the document's cache. -/
structure RE (w : World) (v : Value) (E : List Ent) : Prop where
  row : QRow w 59 17 v E.length (flatE E)
  ok : ∀ e ∈ E, EntOk e
theorem RE.nil (w : World) : RE w (.slice none 0 0) [] := ⟨QRow.nil _ _ _, by simp⟩
theorem RE.ext {F : Nat → Prop} {w w' : World} {v : Value} {E : List Ent} (h : RE w v E) (hx : Ext F w w') (hF : ∀ k, v.ownBlock = some k → ¬ F k) : RE w' v E := ⟨h.row.ext hx hF, h.ok⟩
theorem RE.slice {w : World} {v : Value} {E : List Ent} (h : RE w v E) : ∃ A c, v = .slice A E.length c ∧ E.length ≤ c ∧ c ≤ maxLen ∧ (A = none → E.length = 0 ∧ c = 0) := QRow.slice h.row
/-- Entry i. -/
theorem RE.at {w : World} {A : Option Addr} {c : Nat} {E : List Ent} (h : RE w (.slice A E.length c) E) {i : Nat} (hi : i < E.length) :
    ∃ g o, A = some ⟨g, o, none⟩ ∧ g < w.heap.size ∧ w.rangeAt g (o + i * 17) (ecs E[i]) := by
  obtain ⟨g, o, cap', hv, _, _, hc, _⟩ := QRow.form h.row (by omega)
  injection hv with hv1 _ _
  have hok := h.ok E[i] (List.getElem_mem hi)
  have hr : w.rangeAt g (o + i * 17) (ecs E[i]) := fun j v hj => by
    have hjl : j < 17 := by have := (List.getElem?_eq_some_iff.1 hj).1; rw [ecs_len hok] at this; exact this
    rw [Nat.add_assoc, hc _ (by omega), flatE_at E i j h.ok hjl hi, List.getElem?_eq_getElem hi]
    exact hj
  exact ⟨g, o, hv1, World.block_lt_of_cell? _ _ (hr 0 _ rfl), hr⟩
theorem ent_gen {w : World} {g o : Nat} {e : Ent} (h : w.rangeAt g o (ecs e)) : w.cell? ⟨g, o, none⟩ = some (.int .i64 e.1) := h 0 _ rfl
theorem ent_tag {w : World} {g o : Nat} {e : Ent} (h : w.rangeAt g o (ecs e)) : w.rangeAt g (o + 1) (tvs e.2) := fun j v hj => by
  have := h (j + 1) v hj
  rw [Nat.add_assoc, Nat.add_comm 1 j]
  exact this
theorem Ext.range {F : Nat → Prop} {w w' : World} (h : Ext F w w') {g o : Nat} {cs : List Value} (hr : w.rangeAt g o cs) (hF : ¬ F g) : w'.rangeAt g o cs := fun j v hv => h.cell (hr j v hv) hF

abbrev rq (A : Option Addr) (n c : Nat) (most low : Int) : Value := .agg #[.slice A n c, .int .i64 most, .int .i64 low]
/-! ### 3. Len -/
def cnt (E : List Ent) (g : Int) (k : Nat) : Int := (tagsOf (E.take k) g).length
theorem cnt_le (E : List Ent) (g : Int) (k : Nat) : 0 ≤ cnt E g k ∧ cnt E g k ≤ k := by
  unfold cnt
  have h1 := tagsOf_len (E.take k) g
  have h2 : (E.take k).length ≤ k := List.length_take_le _ _
  exact ⟨by omega, by omega⟩
theorem cnt_succ {E : List Ent} {g : Int} {k : Nat} (h : k < E.length) : cnt E g (k + 1) = if E[k].1 = g then cnt E g k + 1 else cnt E g k := by
  unfold cnt
  rw [List.take_succ_eq_append_getElem h, tagsOf_snoc]
  split <;> simp
theorem cnt_all (E : List Ent) (g : Int) : cnt E g E.length = (tagsOf E g).length := by unfold cnt; rw [List.take_length]
set_option maxHeartbeats 800000 in
theorem len16 (A : Option Addr) (c : Nat) (most low g : Int) (E : List Ent) (w : World) (hr : RE w (.slice A E.length c) E) (hlen : E.length ≤ 1000000) :
    Calls Try.prog 16 #[rq A E.length c most low, .int .i64 g] w fun e w' => e = .returned (.int .i64 (tagsOf E g).length) ∧ Ext NoB w w' := by
  have x1 := Ext.alloc NoB w (.cells #[.slice A E.length c, .int .i64 most, .int .i64 low] 28)
  have hr1 := hr.ext x1 (fun _ _ h => h)
  obtain ⟨z0, z1, z2⟩ := three (heapNew w (.cells #[.slice A E.length c, .int .i64 most, .int .i64 low] 28))
  obtain ⟨A', c', hv, hc1, hc2, _⟩ := hr.slice
  injection hv with e1 e2 e3
  subst e1; subst e3
  clear e2 hr
  have h63 : c ≤ 9223372036854775807 := by unfold maxLen at hc2; omega
  go_enter Try.func16, Try.ntmps16
  go_wp2_with fail
  go_loop [5, 6] (fun t i => ∃ k : Nat, k ≤ E.length ∧ i = .int .i64 k ∧ t = .int .i64 (cnt E g k)) (fun _ i => E.length - (intOf i).toNat)
  case atStart => exact ⟨0, by omega, rfl, rfl⟩
  case round =>
    obtain ⟨k, hk, rfl, rfl⟩ := hrel
    have hb := cnt_le E g k
    by_cases hlt : k < E.length
    · have k1 : (k : Int) < (E.length : Int) := by omega
      obtain ⟨gb, o, rfl, hgb, hra⟩ := hr1.at hlt
      have d0 := ent_gen hra
      have hs := cnt_succ (g := g) hlt
      generalize E[k].1 = x at d0 hs
      clear hra
      by_cases hx : x = g
      · rw [if_pos hx] at hs
        have HS := Lib.hid hs
        subst hx
        clear hs
        go_wp2_with fail
        exact ⟨⟨k + 1, by omega, by go_num, by rw [HS.out]⟩, by simp [intOf]; omega⟩
      · rw [if_neg hx] at hs
        have HS := Lib.hid hs
        have e9 : (x == g) = false := beq_eq_false_iff_ne.2 hx
        clear hs
        go_wp2_with fail
        exact ⟨⟨k + 1, by omega, by go_num, by rw [HS.out]⟩, by simp [intOf]; omega⟩
    · have k1 : ¬ (k : Int) < (E.length : Int) := by omega
      obtain rfl : k = E.length := by omega
      rw [cnt_all]
      clear hb
      go_wp2_with fail
      go_ret
      exact ⟨rfl, x1⟩
end Go.Proofs.Yteidkdbngjhopaa
