/-
  Arrays of bytes: read, written, compared; keys as numbers.
-/
import Derived.Test.YtdibjnlmeiikmaaA
import Derived.Test.YtdibjnlmeiikmaaArr
import Derived.Test.YtdibjnlmeiikmaaProg
import Derived.Deep.RegionHeld3
import Derived.Deep.MidRow
import Derived.Deep.DrawnRows
import Derived.Deep.Slices
import Derived.Deep.CutRange
import Derived.IntWalk
import Derived.ChangeKeysEq
import Derived.Laws.StructEq
import Derived.Lib.Hide
set_option linter.unusedVariables false
set_option linter.unusedSimpArgs false
namespace Go.Proofs.Ytdibjnlmeiikmaa
open Go.RowKit

def bys (s : List Int) : List Value := s.map (Value.int .u8)
abbrev Arr (s : List Int) : Value := .agg (bys s).toArray
theorem bys_length (s : List Int) : (bys s).length = s.length := by simp [bys]
theorem bys_at {s : List Int} {i : Nat} (hi : i < s.length) : (bys s)[i]? = some (.int .u8 (s.getD i 0)) := by
  simp [bys, List.getElem?_eq_getElem hi]
theorem bys_one (s : List Int) : ∀ u ∈ bys s, u.oneCell' = true := by
  intro u hu
  obtain ⟨x, _, rfl⟩ := List.mem_map.1 hu
  rfl
theorem blockSet {w : World} {g : Nat} {e : TypeId} {s : List Int} (h : w.heap[g]? = some (.cells (bys s).toArray e (0, 0))) (i : Nat) (x : Int) : (w.setCell ⟨g, i, none⟩ (.int .u8 x)).heap[g]? = some (.cells (bys (s.set i x)).toArray e (0, 0)) := by
  rw [heapSet h]
  simp [bys, List.map_set]
theorem byteAt {w : World} {g : Nat} {e : TypeId} {s : List Int} (h : w.heap[g]? = some (.cells (bys s).toArray e (0, 0))) {i : Nat} (hi : i < s.length) : w.cell? ⟨g, i, none⟩ = some (.int .u8 (s.getD i 0)) := by
  rw [cellOf h, List.getElem?_toArray]; exact bys_at hi
theorem getD_set (s : List Int) (i j : Nat) (x : Int) : (s.set i x).getD j 0 = if i = j then (if i < s.length then x else 0) else s.getD j 0 := by
  simp only [List.getD_eq_getElem?_getD, List.getElem?_set]
  split
  · rename_i h; subst h
    split <;> simp_all
  · rfl
theorem ext_getD {s t : List Int} (hl : s.length = t.length) (h : ∀ j, j < s.length → s.getD j 0 = t.getD j 0) : s = t := by
  apply List.ext_getElem hl
  intro j h1 h2
  have := h j h1
  rw [List.getD_eq_getElem?_getD, List.getD_eq_getElem?_getD, List.getElem?_eq_getElem h1, List.getElem?_eq_getElem h2] at this
  simpa using this
section
variable {P : Program}
/-- A whole block is read by value. -/
theorem load_whole {w : World} {g : Nat} {e : TypeId} {cs : List Value} (hb : w.heap[g]? = some (.cells cs.toArray e (0, 0))) (ty : TypeId) (d : TypeDesc)
    (hu : P.underlying ty = some d) (hd : d.isRow = true) (hi : (P.info? ty).map (·.size) = some cs.length) :
    (Instr.loadAt ty (.pointer (some ⟨g, 0, none⟩))).run P w = .ok (.agg cs.toArray) w :=
  run_loadAt_mid w g 0 ty cs d (fun j v hv => by rw [cellOf hb]; simpa using hv) hu hd hi
/-- A whole block is written by value. -/
theorem store_whole {w : World} {g : Nat} {e : TypeId} {cur : Array Value} (hb : w.heap[g]? = some (.cells cur e (0, 0))) (ty : TypeId) (cs : List Value) (hl : cs.length = cur.size)
    (hi : (P.info? ty).map (·.size) = some cs.length) (h1 : ∀ v ∈ cs, v.oneCell' = true) :
    (Instr.storeAt ty (.pointer (some ⟨g, 0, none⟩)) (.agg cs.toArray)).run P w = .ok () (w.setCells g 0 cs) := by
  have := run_storeAt_mid (P := P) w g 0 ty cs.toArray (fun j hj => ⟨by
    rw [cellOf hb]
    have : j < cur.size := by simpa [hl] using hj
    simp [this], freeOf hb _⟩) (by simpa using hi) (all_oneCell_toArray h1)
  simpa using this
end
theorem Ext.andCells {F : Nat → Prop} {a w : World} (h : Ext F a w) (g : Nat) (vs : List Value) (hF : g < a.heap.size → F g) : Ext F a (w.setCells g 0 vs) := by
  obtain ⟨s1, s2, s3, s4⟩ := setCells_same' g vs 0 w
  exact ⟨s1.trans h.os, s2.trans h.tape, s3.trans h.output, by rw [s4]; exact h.size, fun k hk hn => (setCells_far' _ _ k fun e => hn (by rw [e]; exact hF (by rw [← e]; exact hk))).trans (h.block k hk hn)⟩
section
variable {P : Program} (w : World)
theorem run_eqItems_u8 (d : Nat) {e : TypeId} {c : Nat} (hc : c = 1) (he : P.underlying e = some (.int .u8)) (a b : List Int) (hab : a.length = b.length) : ∀ (is : List Nat), (∀ i ∈ is, i < a.length) →
    (Op.eqItems (d + 1) e c (bys a).toArray (bys b).toArray is).run P w = .ok (is.all fun i => a.getD i 0 == b.getD i 0) w
  | [], _ => by simp [Op.eqItems]
  | i :: is, h => by
    have hp : P.plainKey e = true := by simp [Program.plainKey, he]
    have h1 := h i (by simp)
    have pa := run_part_plain (P := P) w hp (xs := (bys a).toArray) (off := i * c) (v := .int .u8 (a.getD i 0)) (by rw [hc, Nat.mul_one, List.getElem?_toArray]; exact bys_at h1)
    have pb := run_part_plain (P := P) w hp (xs := (bys b).toArray) (off := i * c) (v := .int .u8 (b.getD i 0)) (by rw [hc, Nat.mul_one, List.getElem?_toArray]; exact bys_at (by omega))
    have pe := run_equalIn_int (P := P) w d e .u8 .u8 (a.getD i 0) (b.getD i 0) he
    have ih := run_eqItems_u8 d hc he a b hab is (fun j hj => h j (by simp [hj]))
    simp only [Op.eqItems, Sem.run_bind, pa, pb, pe, Result.andThen_ok]
    cases hr : (a.getD i 0 == b.getD i 0)
    · simp only [Bool.not_false, if_true, Sem.run_pure, List.all_cons, hr, Bool.false_and]
    · simp only [Bool.not_true, Bool.false_eq_true, if_false, ih, List.all_cons, hr, Bool.true_and]
theorem all_range_eq (a b : List Int) (h : a.length = b.length) : ((List.range a.length).all fun i => a.getD i 0 == b.getD i 0) = (a == b) := by
  rw [Bool.eq_iff_iff, List.all_eq_true]
  simp only [List.mem_range, beq_iff_eq]
  exact ⟨fun hh => ext_getD h hh, fun hh i _ => by rw [hh]⟩
/-- Two arrays of bytes, compared. -/
theorem run_eql_bytes (t e : TypeId) (a b : List Int) (hab : a.length = b.length) (hu : P.underlying t = some (.array a.length e)) (he : P.underlying e = some (.int .u8)) (hc : P.cellsOf e = 1) :
    (Op.equal t (Arr a) (Arr b)).run P w = .ok (a == b) w := by
  obtain ⟨i, hi⟩ := info_of_underlying he
  unfold Op.equal Arr
  rw [show Op.maxDepth = 9998 + 1 + 1 from rfl, run_equalIn_array w (9998 + 1) _ _ hu hi]
  rw [run_eqItems_u8 w 9998 hc he a b hab _ (fun j hj => by simpa using hj), all_range_eq a b hab]
theorem run_binEql_bytes (t e : TypeId) (a b : List Int) (hab : a.length = b.length) (hu : P.underlying t = some (.array a.length e)) (he : P.underlying e = some (.int .u8)) (hc : P.cellsOf e = 1) :
    (binOp .eql t (Arr a) (Arr b)).run P w = .ok (.bool (a == b)) w := by
  have := run_eql_bytes (P := P) w t e a b hab hu he hc
  unfold binOp
  simp only [Arr] at this ⊢
  simp [this]
end

theorem heapNew' (w : World) (o : Obj) (g : Nat) (h : g = w.heap.size) : (w.alloc o).heap[g]? = some o := by subst h; exact heapNew w o
/-- A key: 32 bytes. -/
structure Ky (A : List Int) : Prop where
  len : A.length = 32
  bd : ∀ x ∈ A, 0 ≤ x ∧ x ≤ 255
theorem Ky.at {A : List Int} (h : Ky A) {i : Nat} (hi : i < 32) : 0 ≤ A.getD i 0 ∧ A.getD i 0 ≤ 255 := by
  rw [List.getD_eq_getElem?_getD, List.getElem?_eq_getElem (by rw [h.len]; exact hi)]
  exact h.bd _ (List.getElem_mem _)
abbrev ax (A : List Int) : Nat → Int := fun i => A.getD i 0
theorem Ky.dg {A : List Int} (h : Ky A) : Dg (ax A) 32 := fun i hi => h.at hi
/-- The number of a key. -/
def num (A : List Int) : Int := sm (ax A) 32
def Zk : List Int := List.replicate 32 0
theorem Zk_at (i : Nat) : Zk.getD i 0 = 0 := by
  unfold Zk
  rw [List.getD_eq_getElem?_getD, List.getElem?_replicate]
  split <;> rfl
theorem num_lt {A : List Int} (h : Ky A) : num A < 2 * P25 + 38 := by
  have := sm_lt h.dg
  unfold num
  have e : (256 : Int) ^ 32 = 2 * P25 + 38 := by decide
  omega
theorem num_nonneg {A : List Int} (h : Ky A) : 0 ≤ num A := sm_nonneg h.dg
theorem num_zero {A : List Int} (h : Ky A) : (A == Zk) = decide (num A = 0) := by
  rw [Bool.eq_iff_iff, beq_iff_eq, decide_eq_true_eq]
  unfold num
  rw [sm_zero h.dg]
  constructor
  · intro e i hi; subst e; exact Zk_at i
  · intro e
    refine ext_getD (by rw [h.len]; rfl) fun j hj => ?_
    rw [h.len] at hj
    have := e j hj
    simp only [ax] at this
    rw [this, Zk_at]
theorem Try.eql33 {a b : List Int} (ha : a.length = 32) (hb : b.length = 32) (w : World) : (binOp .eql 33 (Arr a) (Arr b)).run Try.prog w = .ok (.bool (a == b)) w :=
  run_binEql_bytes w 33 5 a b (by rw [ha, hb]) (by rw [ha]; exact Try.underlying33) Try.underlying5 (by kernel_rfl)
theorem Try.size33 : (Try.prog.info? 33).map (·.size) = some 32 := by kernel_rfl
theorem Ky.size {A : List Int} (h : Ky A) : (Try.prog.info? 33).map (·.size) = some (bys A).length := by rw [bys_length, h.len]; exact Try.size33
theorem thereArr {w : World} {g : Nat} {e : TypeId} {s : List Int} (h : w.heap[g]? = some (.cells (bys s).toArray e (0, 0))) {n : Nat} (hn : n ≤ s.length) : w.there g 0 n := fun j hj => ⟨by
  rw [cellOf h, List.getElem?_toArray, List.getElem?_eq_getElem (by rw [bys_length]; omega)]; rfl, freeOf h _⟩
theorem setArr {w : World} {g : Nat} {e : TypeId} {s : List Int} (h : w.heap[g]? = some (.cells (bys s).toArray e (0, 0))) (t : List Int) (hl : t.length = s.length) : (w.setCells g 0 (bys t)).heap[g]? = some (.cells (bys t).toArray e (0, 0)) :=
  setCells_whole h (bys t) (by simp [bys_length, hl])
end Go.Proofs.Ytdibjnlmeiikmaa
