/-
  field: Canon, Zero.
-/
import Derived.Test.YtdibjnlmeiikmaaH
set_option linter.unusedVariables false
set_option linter.unusedSimpArgs false
namespace Go.Proofs.Ytdibjnlmeiikmaa
open Go.RowKit

set_option maxRecDepth 100000 in
theorem canon40 (A : List Int) (h : Ky A) (w : World) : Calls Try.prog 40 #[Arr A] w fun e w' => ∃ B, Ky B ∧ num B = num A % P25 ∧ e = .returned (Arr B) ∧ Ext NoB w w' := by
  have sA := h.size
  go_enter Try.func40, Try.ntmps40
  go_upto_region 1 with fail
  generalize hW1 : World.alloc (World.alloc w _) _ = W1
  have hA1 : W1.heap[w.heap.size]? = some (.cells (bys A).toArray 33 (0, 0)) := by rw [← hW1, heapAlloc _ _ _ (by simp), heapNew]
  have hR1 : W1.heap[w.heap.size + 1]? = some (.cells (bys Zk).toArray 33 (0, 0)) := by rw [← hW1, heapNew' _ _ _ (by simp)]; rfl
  have x1 : Ext NoB w W1 := by rw [← hW1]; exact (Ext.alloc NoB w _).andAlloc _
  clear hW1
  have hbb : w.heap.size < W1.heap.size := blk_lt' hA1
  have HR := Lib.hid (And.intro hR1 x1)
  clear hR1 x1
  go_wp2_with (first
    | ((with_reducible show wpList _ _ _ (⟨_, .load 33 _, _, _, _, _⟩ :: _) _ _); refine wpList_load_arr (by rfl) 33 _ rfl w.heap.size rfl 33 _ _ _ hA1 Try.underlying33 rfl (by rw [List.size_toArray]; exact sA) ?_)
    | (go_at_call 50; (with_reducible refine (of50 A h _).mono ?_); rintro e W2 ⟨M, hM, hnM, rfl, x2⟩)
    | (go_at_call 51; (with_reducible refine (key51 M hM _).mono ?_); rintro e W3 ⟨B, hB, hnB, rfl, x3⟩; have hr3 := x3.obj (x2.obj HR.out.1 id) id; have hth := thereArr hr3 (n := (bys B).toArray.size) (by rw [List.size_toArray, bys_length, hB.len]; decide); have hend := setArr hr3 B (by rw [hB.len]; rfl); have sB := hB.size; have HE := Lib.hid (And.intro hend (And.intro ((HR.out.2.then x2).then x3) (hnB.trans (by rw [hnM])))); clear hend hr3)
    | ((with_reducible show wpList _ _ _ (⟨_, .store 33 _ _, _, _, _, _⟩ :: _) _ _); refine wpList_store_mid rfl 33 _ _ rfl (w.heap.size + 1) 0 _ rfl rfl hth (by rw [List.size_toArray]; exact sB) (all_oneCell_toArray (bys_one B)) ?_))
  refine bodyPost_ret (results_cell_row rfl _ _ (w.heap.size + 1) 33 _ (0, 0) _ rfl HE.out.1 Try.underlying33 rfl (by rw [List.size_toArray]; exact sB)) rfl ⟨B, hB, HE.out.2.2, rfl, HE.out.2.1.andCells _ _ fun h => absurd h (by omega)⟩
set_option maxRecDepth 100000 in
theorem zero28 (A : List Int) (h : Ky A) (w : World) : Calls Try.prog 28 #[Arr A] w fun e w' => e = .returned (.bool (decide (num A % P25 = 0))) ∧ Ext NoB w w' := by
  have hb := heapNew w (.cells (bys A).toArray 33)
  have hx := Ext.alloc NoB w (.cells (bys A).toArray 33)
  have sA := h.size
  go_enter Try.func28, Try.ntmps28
  go_wp2_with (first
    | ((with_reducible show wpList _ _ _ (⟨_, .load 33 _, _, _, _, _⟩ :: _) _ _); refine wpList_load_arr (by rfl) 33 _ rfl w.heap.size rfl 33 _ _ _ hb Try.underlying33 rfl (by rw [List.size_toArray]; exact sA) ?_)
    | (go_at_call 40; (with_reducible refine (canon40 A h _).mono ?_); rintro e W2 ⟨B, hB, hn, rfl, x2⟩; have heq := isZero33 hB; rw [hn] at heq))
  go_ret
  exact ⟨rfl, hx.then x2⟩
end Go.Proofs.Ytdibjnlmeiikmaa
