/-
  The document's Canon, Zero.
-/
import Derived.Test.YtdibjnlmeiikmaaC
set_option linter.unusedVariables false
set_option linter.unusedSimpArgs false
namespace Go.Proofs.Ytdibjnlmeiikmaa
open Go.RowKit

def numOf : Option Obj → Nat
  | some (.cells cs _ _) => (num (cs.toList.map intOf)).toNat
  | _ => 0
theorem numOf_bys (B : List Int) (e : TypeId) : numOf (some (.cells (bys B).toArray e (0, 0))) = (num B).toNat := by
  unfold numOf bys
  simp [List.map_map, Function.comp_def, intOf]
set_option maxRecDepth 100000 in
set_option maxHeartbeats 1600000 in
theorem canon49 (A : List Int) (h : Ky A) (w : World) : Calls Try.prog 49 #[Arr A] w fun e w' => ∃ B, Ky B ∧ num B = num A % P25 ∧ e = .returned (Arr B) ∧ Ext NoB w w' := by
  go_enter Try.func49, Try.ntmps49
  go_wp2_with fail
  generalize hW1 : World.alloc (World.alloc w _) _ = W1
  have hA1 : W1.heap[w.heap.size]? = some (.cells (bys A).toArray 33 (0, 0)) := by rw [← hW1, heapAlloc _ _ _ (by simp), heapNew]
  have hR1 : W1.heap[w.heap.size + 1]? = some (.cells (bys Zk).toArray 33 (0, 0)) := by rw [← hW1, heapNew' _ _ _ (by simp)]; rfl
  have x1 : Ext NoB w W1 := by rw [← hW1]; exact (Ext.alloc NoB w _).andAlloc _
  have hbs : w.heap.size < W1.heap.size := blk_lt' hA1
  clear hW1
  generalize hbb : w.heap.size = b at *
  go_loopw [4] (fun _ W => ∃ B, Ky B ∧ num B % P25 = num A % P25 ∧ W.heap[b]? = some (.cells (bys B).toArray 33 (0, 0)) ∧ Ext (fun k => k = b) W1 W) (fun _ W => numOf (W.heap[b]?))
  case atStart => exact ⟨A, h, rfl, hA1, Ext.refl _ _⟩
  case round =>
    clear hA1
    obtain ⟨B, hB, hm, hbB, hxW⟩ := hrel
    have hme : numOf (wr.heap[b]?) = (num B).toNat := by rw [hbB, numOf_bys]
    rw [hme]
    clear hme
    have sB := hB.size
    have hat := atLeast55 B hB
    have hn0 := num_nonneg hB
    have hn1 := num_lt hB
    by_cases hge : P25 ≤ num B
    · have hd : decide (P25 ≤ num B) = true := by simpa using hge
      rw [hd] at hat
      have HAT := Lib.hid hat
      have HLE := Lib.hid (less56 B hB hge)
      clear hat
      go_upto_region 2 with (first
        | ((with_reducible show wpList _ _ _ (⟨_, .load 33 _, _, _, _, _⟩ :: _) _ _); refine wpList_load_arr (by rfl) 33 _ rfl b rfl 33 _ _ _ hbB Try.underlying33 rfl (by rw [List.size_toArray]; exact sB) ?_)
        | (go_at_call 55; (with_reducible refine (HAT.out _).mono ?_); rintro e W2 ⟨rfl, x2⟩))
      have hb2 := x2.obj hbB id
      have hx2 := hxW.trans x2 (fun _ _ h => h) (fun _ _ h => h.elim)
      clear hbB hxW HAT x2
      go_wp2_with (first
        | ((with_reducible show wpList _ _ _ (⟨_, .load 33 _, _, _, _, _⟩ :: _) _ _); refine wpList_load_arr (by rfl) 33 _ rfl b rfl 33 _ _ _ hb2 Try.underlying33 rfl (by rw [List.size_toArray]; exact sB) ?_)
        | (go_at_call 56; (with_reducible refine (HLE.out _).mono ?_); rintro e W3 ⟨C, hC, hnC, rfl, x3⟩; have hb3 := x3.obj hb2 id; have hth := thereArr hb3 (n := (bys C).toArray.size) (by rw [List.size_toArray, bys_length, hC.len, hB.len]; decide); have hend := setArr hb3 C (by rw [hC.len, hB.len]); have hx3 := (hx2.trans x3 (fun _ _ h => h) (fun _ _ h => h.elim)); have HE := Lib.hid (And.intro hend hx3); have sC := hC.size; clear hend hx3 hb3 hx2 hb2 x3)
        | ((with_reducible show wpList _ _ _ (⟨_, .store 33 _ _, _, _, _, _⟩ :: _) _ _); refine wpList_store_mid rfl 33 _ _ rfl b 0 _ rfl rfl hth (by rw [List.size_toArray]; exact sC) (all_oneCell_toArray (bys_one C)) ?_))
      refine ⟨⟨_, _, _, _, ⟨C, hC, by rw [hnC, ← hm, Int.sub_emod_right], HE.out.1, HE.out.2.andCells _ _ fun _ => rfl⟩, rfl⟩, ?_⟩
      rw [HE.out.1, numOf_bys, hnC]
      have : 0 < P25 := by decide
      omega
    · have hd : decide (P25 ≤ num B) = false := by simpa using hge
      rw [hd] at hat
      have HAT := Lib.hid hat
      clear hat
      go_upto_region 3 with (first
        | ((with_reducible show wpList _ _ _ (⟨_, .load 33 _, _, _, _, _⟩ :: _) _ _); refine wpList_load_arr (by rfl) 33 _ rfl b rfl 33 _ _ _ hbB Try.underlying33 rfl (by rw [List.size_toArray]; exact sB) ?_)
        | (go_at_call 55; (with_reducible refine (HAT.out _).mono ?_); rintro e W2 ⟨rfl, x2⟩))
      have hb2 := x2.obj hbB id
      have hr2 := x2.obj (hxW.obj hR1 (by omega)) id
      have hx2 : Ext NoB w W2 := x1.trans (hxW.trans x2 (fun _ _ h => h) (fun _ _ h => h.elim)) (fun _ _ h => h) (fun k hk h => by omega)
      have hth := thereArr hr2 (n := (bys B).toArray.size) (by rw [List.size_toArray, bys_length, hB.len]; decide)
      have hend := setArr hr2 B (by rw [hB.len]; rfl)
      have hnum : num B = num A % P25 := by rw [← hm]; exact (Int.emod_eq_of_lt hn0 (by omega)).symm
      have HE := Lib.hid (And.intro hend (And.intro hx2 hnum))
      clear hbB hxW HAT x2 hend hx2 hr2 hnum hm
      go_wp2_with (first
        | ((with_reducible show wpList _ _ _ (⟨_, .load 33 _, _, _, _, _⟩ :: _) _ _); refine wpList_load_arr (by rfl) 33 _ rfl b rfl 33 _ _ _ hb2 Try.underlying33 rfl (by rw [List.size_toArray]; exact sB) ?_)
        | ((with_reducible show wpList _ _ _ (⟨_, .store 33 _ _, _, _, _, _⟩ :: _) _ _); refine wpList_store_mid rfl 33 _ _ rfl (b + 1) 0 _ rfl rfl hth (by rw [List.size_toArray]; exact sB) (all_oneCell_toArray (bys_one B)) ?_))
      refine bodyPost_ret (results_cell_row rfl _ _ (b + 1) 33 _ (0, 0) _ rfl HE.out.1 Try.underlying33 rfl (by rw [List.size_toArray]; exact sB)) rfl ⟨B, hB, HE.out.2.2, rfl, HE.out.2.1.andCells _ _ fun h => absurd h (by omega)⟩
/-- A key compared with nought. -/
theorem isZero33 {B : List Int} (h : Ky B) (w : World) : (binOp .eql 33 (Arr B) (.agg #[.int .u8 0, .int .u8 0, .int .u8 0, .int .u8 0, .int .u8 0, .int .u8 0, .int .u8 0, .int .u8 0, .int .u8 0, .int .u8 0, .int .u8 0, .int .u8 0, .int .u8 0, .int .u8 0, .int .u8 0, .int .u8 0, .int .u8 0, .int .u8 0, .int .u8 0, .int .u8 0, .int .u8 0, .int .u8 0, .int .u8 0, .int .u8 0, .int .u8 0, .int .u8 0, .int .u8 0, .int .u8 0, .int .u8 0, .int .u8 0, .int .u8 0, .int .u8 0])).run Try.prog w = .ok (.bool (decide (num B = 0))) w := by
  rw [← num_zero h]
  exact Try.eql33 h.len (show Zk.length = 32 by rfl) w
set_option maxRecDepth 100000 in
theorem zero35 (A : List Int) (h : Ky A) (w : World) : Calls Try.prog 35 #[Arr A] w fun e w' => e = .returned (.bool (decide (num A % P25 = 0))) ∧ Ext NoB w w' := by
  have hb := heapNew w (.cells (bys A).toArray 33)
  have hx := Ext.alloc NoB w (.cells (bys A).toArray 33)
  have sA := h.size
  go_enter Try.func35, Try.ntmps35
  go_wp2_with (first
    | ((with_reducible show wpList _ _ _ (⟨_, .load 33 _, _, _, _, _⟩ :: _) _ _); refine wpList_load_arr (by rfl) 33 _ rfl w.heap.size rfl 33 _ _ _ hb Try.underlying33 rfl (by rw [List.size_toArray]; exact sA) ?_)
    | (go_at_call 49; (with_reducible refine (canon49 A h _).mono ?_); rintro e W2 ⟨B, hB, hn, rfl, x2⟩; have heq := isZero33 hB; rw [hn] at heq))
  go_ret
  exact ⟨rfl, hx.then x2⟩
end Go.Proofs.Ytdibjnlmeiikmaa
