/-
  Whole arrays stored into a block that was just made. No program is named here.
-/
import Derived.Test.YtdibjnlmeiikmaaBase
import Derived.Deep.MidRow
set_option linter.unusedVariables false
namespace Go.Proofs.Ytdibjnlmeiikmaa
open Go.RowKit

theorem setCells_whole {w : World} {g : Nat} {e : TypeId} {cur : Array Value} (hb : w.heap[g]? = some (.cells cur e (0, 0))) (cs : List Value) (hl : cs.length = cur.size) :
    (w.setCells g 0 cs).heap[g]? = some (.cells cs.toArray e (0, 0)) := by
  obtain ⟨cur', k1, k2, k3⟩ := setCells_row' cs 0 w cur hb (by omega)
  rw [k1]
  have : cur' = cs.toArray := by
    apply Array.ext_getElem?
    intro j
    rw [k3 j]
    by_cases hj : j < cs.length
    · rw [if_pos (by omega)]; simp
    · rw [if_neg (by omega), Array.getElem?_eq_none (by omega)]
      simp; omega
  rw [this]
theorem setCells_form (g : Nat) : ∀ (vs : List Value) (o : Nat) (w : World), w.setCells g o vs = { w with heap := (w.setCells g o vs).heap }
  | [], _, _ => rfl
  | v :: vs, o, w => by
    show (w.setCell ⟨g, o, none⟩ v).setCells g (o + 1) vs = _
    rw [setCells_form g vs (o + 1) (w.setCell ⟨g, o, none⟩ v)]
    rfl
/-- A new block, written whole, is a new block of what was written. -/
theorem alloc_set (w : World) (Z : Array Value) (e : TypeId) (V : Array Value) (hl : V.size = Z.size) : (w.alloc (.cells Z e)).setCells w.heap.size 0 V.toList = w.alloc (.cells V e) := by
  rw [setCells_form]
  have : ((w.alloc (.cells Z e)).setCells w.heap.size 0 V.toList).heap = (w.alloc (.cells V e)).heap := by
    apply Array.ext_getElem?
    intro k
    by_cases hk : k = w.heap.size
    · subst hk
      rw [setCells_whole (heapNew w _) V.toList (by simpa using hl), heapNew]
    · rw [setCells_far' _ _ k hk]
      show (w.heap.push _)[k]? = (w.heap.push _)[k]?
      rw [Array.getElem?_push, Array.getElem?_push, if_neg hk, if_neg hk]
  rw [this]
  rfl
theorem there_new (w : World) (Z : Array Value) (e : TypeId) (n : Nat) (hn : n = Z.size) : (w.alloc (.cells Z e)).there w.heap.size 0 n := fun j hj => by
  have hb := heapNew w (.cells Z e)
  refine ⟨?_, freeOf hb _⟩
  rw [cellOf hb, Array.getElem?_eq_getElem (by omega)]; rfl

theorem wpList_store_new {P : Program} {ops : Array Oper} {rest : List Oper} {op : Oper} {a : Act} {w : World} {Q : Exit → Act → World → Prop} {Z : Array Value} {e : TypeId} (hgd : op.guard = none) (ty : TypeId) (x y : Operand) (ho : op.op = .store ty x y)
    (g : Nat) (V : Array Value) (hx : a.eval x = .pointer (some ⟨g, 0, none⟩)) (hy : a.eval y = .agg V) (hg : g = w.heap.size) (hl : V.size = Z.size)
    (hi : (P.info? ty).map (·.size) = some V.size) (h1 : V.all (·.oneCell') = true)
    (h : wpList P ops Q rest (a.put op.dst undef) (w.alloc (.cells V e))) : wpList P ops Q (op :: rest) a (w.alloc (.cells Z e)) := by
  subst hg
  refine wpList_store_mid hgd ty x y ho w.heap.size 0 V hx hy (there_new _ _ _ _ hl) hi h1 ?_
  rw [alloc_set _ _ _ _ hl]
  exact h
/-- A guarded operation that is wanted. -/
theorem wpList_wanted {P : Program} {ops : Array Oper} {rest : List Oper} {o : Oper} {a : Act} {w : World} {Q : Exit → Act → World → Prop} (hw : Region.wanted o (yielded ops a.tmps) = true)
    (h : ∀ K : Act → World → Prop, (∀ a w, wpList P ops Q rest a w → K a w) → o.wp P a w K Q) : wpList P ops Q (o :: rest) a w :=
  wpList_step fun K hK => by rw [if_pos hw]; exact h K hK
/-- A whole array read, guarded or not. -/
theorem wpList_load_arr {P : Program} {ops : Array Oper} {rest : List Oper} {o : Oper} {a : Act} {w : World} {Q : Exit → Act → World → Prop} (hw : Region.wanted o (yielded ops a.tmps) = true) (ty : TypeId) (x : Operand) (ho : o.op = .load ty x)
    (g : Nat) (hx : a.eval x = .pointer (some ⟨g, 0, none⟩)) (t : TypeId) (cs : Array Value) (fr : Nat × Nat) (d : TypeDesc) (hg : w.heap[g]? = some (.cells cs t fr))
    (hu : P.underlying ty = some d) (hd : (match d with | .struct _ | .array _ _ => true | _ => false) = true) (hi : (P.info? ty).map (·.size) = some cs.size)
    (h : wpList P ops Q rest (a.put o.dst (.agg cs)) w) : wpList P ops Q (o :: rest) a w :=
  wpList_wanted hw fun _ hK => wp_load_row ty x ho g hx t cs fr d hg hu hd hi (hK _ _ h)
theorem wpList_load_arrm {P : Program} {ops : Array Oper} {rest : List Oper} {o : Oper} {a : Act} {w : World} {Q : Exit → Act → World → Prop} (hw : Region.wanted o (yielded ops a.tmps) = true) (ty : TypeId) (x : Operand) (ho : o.op = .load ty x)
    (g k : Nat) (hx : a.eval x = .pointer (some ⟨g, k, none⟩)) (cs : List Value) (d : TypeDesc) (hg : w.rangeAt g k cs)
    (hu : P.underlying ty = some d) (hd : d.isRow = true) (hi : (P.info? ty).map (·.size) = some cs.length)
    (h : wpList P ops Q rest (a.put o.dst (.agg cs.toArray)) w) : wpList P ops Q (o :: rest) a w :=
  wpList_wanted hw fun _ hK => wp_load_mid ty x ho g k hx cs d hg hu hd hi (hK _ _ h)
end Go.Proofs.Ytdibjnlmeiikmaa
