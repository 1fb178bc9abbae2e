/-
  Tags as keys of maps.
-/
import Derived.Test.YteidkdbngjhopaaBase
import Derived.Test.YteidkdbngjhopaaProg
import Derived.Maps.OwnSet
import Derived.Maps.Ext
import Derived.DeepKeys5
set_option linter.unusedVariables false
set_option linter.unusedSimpArgs false
namespace Go.Proofs.Yteidkdbngjhopaa
open Go.RowKit Go.Maps

/-- Sixteen bytes. -/
structure Tg (t : List Int) : Prop where
  len : t.length = 16
  bd : ∀ x ∈ t, 0 ≤ x ∧ x ≤ 255
abbrev tvs (t : List Int) : List Value := t.map (Value.int .u8)
abbrev tv (t : List Int) : Array Value := (tvs t).toArray
noncomputable def tk (t : List Int) : Lit := (keyOf Try.prog 30 (.agg (tv t))).getD (.bool false)
theorem laidOut : laidOutB Try.prog = true := by kernel_rfl
theorem wide30 : (match Try.prog.underlying 30 with | some (.array _ _) | some (.struct _) => true | _ => false) = true := by kernel_rfl
theorem keyed30 : Keyed Try.prog 30 := Keyed.of_law (deep_law_gate laidOut (of_decide_eq_true (by kernel_rfl)) (of_decide_eq_true (by kernel_rfl)) (by kernel_rfl) wide30)
theorem keyed3 : Keyed Try.prog 3 := int_keyed Try.underlying3
theorem types_pos : ∃ n, Try.prog.types.size = n + 1 := ⟨Try.prog.types.size - 1, by have : 0 < Try.prog.types.size := of_decide_eq_true (by kernel_rfl); omega⟩
theorem keyType30 : Try.prog.keyType 30 = true := by kernel_rfl
theorem cells30 : Try.prog.cellsOf 30 = 16 := by kernel_rfl
theorem cells5 : Try.prog.cellsOf 5 = 1 := by kernel_rfl
theorem lits5 (n : Nat) (x : Int) (h : 0 ≤ x ∧ x ≤ 255) : Try.prog.keyLits (n + 1) 5 [.int .u8 x] = some [.int .u8 x] := by
  have : (Lit.int .u8 x).wf = true := by simp [Lit.wf, IntKind.min, IntKind.max, IntKind.bits, IntKind.signed]; omega
  simp [Program.keyLits, Try.underlying5, this]
theorem mapM_range16 {α : Type} (f : Nat → Option α) (g : Nat → α) (h : ∀ i, i < 16 → f i = some (g i)) : (List.range 16).mapM f = some ((List.range 16).map g) := by
  have key : ∀ l : List Nat, (∀ i ∈ l, i < 16) → l.mapM f = some (l.map g) := by
    intro l
    induction l with
    | nil => intro _; rfl
    | cons a l ih => intro hl; simp [List.mapM_cons, h a (hl a (by simp)), ih (fun i hi => hl i (by simp [hi]))]
  exact key _ (fun i hi => List.mem_range.1 hi)
theorem take_at {l : List Int} {i : Nat} (hi : i < l.length) : ((tvs l).drop i).take 1 = [.int .u8 l[i]] := by
  rw [List.drop_eq_getElem_cons (by simpa using hi)]
  simp
theorem keyOf30 {t : List Int} (h : Tg t) : keyOf Try.prog 30 (.agg (tv t)) = some (tk t) := by
  have hs : (keyOf Try.prog 30 (.agg (tv t))).isSome = true := by
    obtain ⟨n, hn⟩ := types_pos
    have hf : (Value.agg (tv t)).formed Try.prog 30 = true := by simp [Value.formed, Try.underlying30, cells30, h.len]
    have hl : Try.prog.keyLits (Try.prog.types.size + 1) 30 (tvs t) = some ((List.range 16).map fun i => [Lit.int .u8 (t.getD i 0)]).flatten := by
      rw [hn]
      unfold Program.keyLits
      have e1 : (tvs t).length = Try.prog.cellsOf 30 := by rw [cells30]; simp [h.len]
      simp only [Try.underlying30, e1, if_true, cells5]
      rw [mapM_range16 _ (fun i => [Lit.int .u8 (t.getD i 0)]) (fun i hi => ?_)]
      · rfl
      · have hi' : i < t.length := by rw [h.len]; exact hi
        rw [Nat.mul_one, take_at hi', lits5 _ _ (h.bd _ (List.getElem_mem hi'))]
        simp [List.getD_eq_getElem?_getD, List.getElem?_eq_getElem hi']
    have hc : (Value.agg (tv t)).cells.toList = tvs t := rfl
    unfold keyOf
    simp only [Try.underlying30, keyType30, hf, hc, hl, Bool.and_self, if_true, Option.map_some, Option.isSome_some]
  unfold tk
  cases hk : keyOf Try.prog 30 (.agg (tv t)) with
  | none => rw [hk] at hs; cases hs
  | some l => rfl
theorem tvs_inj {t u : List Int} (h : tvs t = tvs u) : t = u := by
  have : ∀ {a b : List Int}, a.map (Value.int .u8) = b.map (Value.int .u8) → a = b := by
    intro a
    induction a with
    | nil => intro b hb; cases b with | nil => rfl | cons x l => simp at hb
    | cons x l ih => intro b hb; cases b with
      | nil => simp at hb
      | cons y m => simp at hb; rw [hb.1, ih (by simpa using hb.2)]
  exact this h
theorem tk_inj {t u : List Int} (ht : Tg t) (hu : Tg u) (h : tk t = tk u) : t = u := by
  have h1 := keyOf30 ht
  rw [h] at h1
  have := keyed30.inj h1 (keyOf30 hu)
  injection this with this
  exact tvs_inj (by injection this)
theorem tk_key {t : List Int} (ht : Tg t) : WideAt.IsKeyLit (tk t) := keyed30.key (keyOf30 ht)
/-- A generation as a key. -/
abbrev gk (g : Int) : Lit := .int .i64 g
theorem keyOf3 {g : Int} (h : (Lit.int .i64 g).wf = true) : keyOf Try.prog 3 (.int .i64 g) = some (gk g) := keyOf_int_mk Try.underlying3 h
theorem gk_ne {g g' : Int} (h : g ≠ g') : gk g ≠ gk g' := fun e => h (by injection e)
theorem gk_key (g : Int) : WideAt.IsKeyLit (gk g) := trivial
end Go.Proofs.Yteidkdbngjhopaa
