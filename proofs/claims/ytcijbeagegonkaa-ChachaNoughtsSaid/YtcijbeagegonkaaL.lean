/-
  Arrays of bytes compared; the answers that the document fixes.
-/
import Derived.Test.YtcijbeagegonkaaK
import Derived.ChangeKeysEq
import Derived.Laws.StructEq
set_option linter.unusedVariables false
namespace Go.Proofs.Ytcijbeagegonkaa
open Go.RowKit

section
variable {P : Program} (w : World)
theorem run_eqItems_u8 (d : Nat) {e : TypeId} {c : Nat} (hc : c = 1) (he : P.underlying e = some (.int .u8)) (a b : List Int) (hab : a.length = b.length) : ∀ (is : List Nat), (∀ i ∈ is, i < a.length) →
    (Op.eqItems (d + 1) e c (bys a).toArray (bys b).toArray is).run P w = .ok (is.all fun i => a.getD i 0 == b.getD i 0) w
  | [], _ => by simp [Op.eqItems]
  | i :: is, h => by
    have hp : P.plainKey e = true := by simp [Program.plainKey, he]
    have h1 := h i (by simp)
    have pa := run_part_plain (P := P) w hp (xs := (bys a).toArray) (off := i * c) (v := .int .u8 (a.getD i 0)) (by rw [hc, Nat.mul_one, List.getElem?_toArray]; exact bys_at h1)
    have pb := run_part_plain (P := P) w hp (xs := (bys b).toArray) (off := i * c) (v := .int .u8 (b.getD i 0)) (by rw [hc, Nat.mul_one, List.getElem?_toArray]; exact bys_at (by omega))
    have pe := run_equalIn_int (P := P) w d e .u8 .u8 (a.getD i 0) (b.getD i 0) he
    have ih := run_eqItems_u8 d hc he a b hab is (fun j hj => h j (by simp [hj]))
    simp only [Op.eqItems, Sem.run_bind, pa, pb, pe, Result.andThen_ok]
    cases hr : (a.getD i 0 == b.getD i 0)
    · simp only [Bool.not_false, if_true, Sem.run_pure, List.all_cons, hr, Bool.false_and]
    · simp only [Bool.not_true, Bool.false_eq_true, if_false, ih, List.all_cons, hr, Bool.true_and]
theorem all_range_eq (a b : List Int) (h : a.length = b.length) : ((List.range a.length).all fun i => a.getD i 0 == b.getD i 0) = (a == b) := by
  rw [Bool.eq_iff_iff, List.all_eq_true]
  simp only [List.mem_range, beq_iff_eq]
  exact ⟨fun hh => ext_getD h hh, fun hh i _ => by rw [hh]⟩
/-- Two arrays of bytes, compared. -/
theorem run_eql_bytes (t e : TypeId) (a b : List Int) (hab : a.length = b.length) (hu : P.underlying t = some (.array a.length e)) (he : P.underlying e = some (.int .u8)) (hc : P.cellsOf e = 1) :
    (Op.equal t (Arr a) (Arr b)).run P w = .ok (a == b) w := by
  obtain ⟨i, hi⟩ := info_of_underlying he
  unfold Op.equal Arr
  rw [show Op.maxDepth = 9998 + 1 + 1 from rfl, run_equalIn_array w (9998 + 1) _ _ hu hi]
  rw [run_eqItems_u8 w 9998 hc he a b hab _ (fun j hj => by simpa using hj), all_range_eq a b hab]
theorem run_binEql_bytes (t e : TypeId) (a b : List Int) (hab : a.length = b.length) (hu : P.underlying t = some (.array a.length e)) (he : P.underlying e = some (.int .u8)) (hc : P.cellsOf e = 1) :
    (binOp .eql t (Arr a) (Arr b)).run P w = .ok (.bool (a == b)) w := by
  have := run_eql_bytes (P := P) w t e a b hab hu he hc
  unfold binOp
  simp only [Arr] at this ⊢
  simp [this]
end
theorem Try.eql27 (a b : List Int) (ha : a.length = 64) (hb : b.length = 64) (w : World) : (binOp .eql 27 (Arr a) (Arr b)).run Try.prog w = .ok (.bool (a == b)) w :=
  run_binEql_bytes w 27 5 a b (by omega) (by rw [ha]; exact Try.underlying27) Try.underlying5 (by kernel_rfl)
theorem Try.guard27 : Try.prog.eqGuardType Try.prog.depth 27 = false := by kernel_rfl

def K0 : List Int := [0, 1, 2, 3, 4, 5, 6, 7, 8, 9, 10, 11, 12, 13, 14, 15, 16, 17, 18, 19, 20, 21, 22, 23, 24, 25, 26, 27, 28, 29, 30, 31]
def N0 : List Int := [0, 0, 0, 9, 0, 0, 0, 74, 0, 0, 0, 0]
def N1 : List Int := [0, 0, 0, 0, 0, 0, 0, 0, 0, 0, 0, 0]
theorem K0_at {j : Nat} (h : j < 32) : K0.getD j 0 = j := by
  have : ∀ j : Fin 32, K0.getD j.1 0 = (j.1 : Int) := by decide +kernel
  exact this ⟨j, h⟩
theorem K0_b : Bs K0 := by unfold Bs B; decide +kernel
theorem N0_b : Bs N0 := by unfold Bs B; decide +kernel
theorem N1_b : Bs N1 := by unfold Bs B; decide +kernel
theorem blk0 : (blk K0 N0 1).getD 0 0 = 16 ∧ (blk K0 N0 1).getD 1 0 = 241 := by decide +kernel

set_option maxHeartbeats 1600000 in
theorem alive_any (w : World) : Calls Try.prog 8 #[] w fun e w' => e = .returned (.bool true) ∧ Ext NoB w w' := by
  have hbl := block9 K0 N0 1 rfl rfl K0_b N0_b (by constructor <;> decide)
  have hst := stream_ok K0 N1 0 3 rfl rfl K0_b N1_b (by constructor <;> decide) (by decide) (by decide)
  have b01 := blk0
  go_enter Try.func8, Try.ntmps8
  go_upto_region 2 with (fail)
  generalize hW1 : World.alloc w _ = W1
  have hk1 : W1.heap[w.heap.size]? = some (.cells (bys (List.replicate 32 0)).toArray 23 (0, 0)) := by rw [← hW1, heapNew]; rfl
  have x1 : Ext NoB w W1 := by rw [← hW1]; exact Ext.alloc NoB w _
  clear hW1
  obtain ⟨D, hD⟩ : ∃ D, D = blk K0 N0 1 := ⟨_, rfl⟩
  rw [← hD] at hbl b01
  have lD : D.length = 64 := by rw [hD]; exact blk_length _ _ _
  obtain ⟨A, hA⟩ : ∃ A, A = (bys K0).toArray := ⟨_, rfl⟩
  have sA : (Try.prog.info? 23).map (·.size) = some A.size := by rw [hA]; exact Try.size23
  obtain ⟨V, hV⟩ : ∃ V, V = (bys D).toArray := ⟨_, rfl⟩
  have lV : V.size = 64 := by rw [hV, List.size_toArray, bys_length, lD]
  have sV : (Try.prog.info? 27).map (·.size) = some V.size := by rw [lV]; exact Try.size27
  have oV : V.all (·.oneCell') = true := by rw [hV]; exact all_oneCell_toArray (bys_one _)
  have v0 : V[0]? = some (.int .u8 16) := by rw [hV, List.getElem?_toArray, ← b01.1]; exact bys_at (by omega)
  have v1 : V[1]? = some (.int .u8 241) := by rw [hV, List.getElem?_toArray, ← b01.2]; exact bys_at (by omega)
  unfold Arr at hbl hst
  rw [← hA] at hbl hst
  rw [← hV] at hbl
  have HA := Lib.hid hA
  have HB := Lib.hid hbl
  have HS := Lib.hid hst
  clear hD hA hbl hst hV b01 lD D
  go_wp2_with fail
  go_loopw [6] (fun i W => ∃ (n : Nat) (o : List Int), n ≤ 32 ∧ i = .int .i64 n ∧ o.length = 32 ∧ (∀ j, j < n → o.getD j 0 = j) ∧ W.heap[w.heap.size]? = some (.cells (bys o).toArray 23 (0, 0)) ∧ Ext NoB w W) (fun i _ => 32 - (intOf i).toNat)
  case atStart => exact ⟨0, List.replicate 32 0, by omega, rfl, rfl, fun j hj => by omega, hk1, x1⟩
  case round =>
    clear hk1 x1
    obtain ⟨n, o, hn, rfl, ho, hpre, hO, hx⟩ := hrel
    rcases Nat.lt_or_ge n 32 with hlt | hge
    · have co := cellOf hO n
      rw [List.getElem?_toArray, bys_at (by omega)] at co
      have fo := freeOf hO n
      have hnext : ∀ j, j < n + 1 → (o.set n (n : Int)).getD j 0 = j := fun j hj => by
        rw [getD_set]
        by_cases he : n = j
        · rw [if_pos he, if_pos (by omega), he]
        · rw [if_neg he, hpre j (by omega)]
      have hnb := blockSet hO n n
      have hnx : Ext NoB w (wr.setCell ⟨w.heap.size, n, none⟩ (.int .u8 n)) := hx.andSet _ _ fun h => absurd h (by simp)
      have hlen : (o.set n (n : Int)).length = 32 := by rw [List.length_set]; exact ho
      have HN := Lib.hid hnext
      clear hnext hpre hO hx
      go_wp2_with fail
      exact ⟨⟨n + 1, o.set n n, by omega, by go_num, hlen, HN.out, hnb, hnx⟩, by simp [intOf]; omega⟩
    · have hoK : o = K0 := ext_getD (by rw [ho]; rfl) fun j hj => by rw [hpre j (by omega), K0_at (by omega)]
      rw [hoK, ← HA.out] at hO
      clear hoK hpre ho
      go_wp2_with (first
        | (refine wpList_load_row rfl 23 _ rfl w.heap.size rfl 23 A (0, 0) _ hO Try.underlying23 rfl sA ?_)
        | (refine (HB.out _).mono ?_; rintro e W2 ⟨rfl, x2⟩; have hO2 := (x2.andAlloc (.cells V 27)).obj hO (fun h => h); clear hO)
        | (refine wpList_store_new rfl 27 _ _ rfl W2.heap.size V rfl rfl rfl (by rw [lV]; rfl) sV oV ?_)
        | (refine wpList_load_row rfl 23 _ rfl w.heap.size rfl 23 A (0, 0) _ hO2 Try.underlying23 rfl sA ?_)
        | (refine (HS.out _).mono ?_; rintro e W3 ⟨A3, m3, rfl, hq3, x3, o3⟩; have hV3 := x3.obj (heapNew W2 (.cells V 27)) (fun h => h); have y0 := cellOf hV3 0; have y1 := cellOf hV3 1; rw [v0] at y0; rw [v1] at y1))
      go_ret
      exact ⟨rfl, (hx.then (x2.andAlloc _)).then x3⟩
end Go.Proofs.Ytcijbeagegonkaa
