/-
  fe: Key; field: Canon, Zero.
-/
import Derived.Test.YtdibjnlmeiikmaaG
set_option linter.unusedVariables false
set_option linter.unusedSimpArgs false
namespace Go.Proofs.Ytdibjnlmeiikmaa
open Go.RowKit

/-- The bytes of four parts. -/
def outK (M : List Int) : List Int := (List.range 32).map fun i => M.getD (i / 8) 0 / 256 ^ (i % 8) % 256
theorem outK_len (M : List Int) : (outK M).length = 32 := by simp [outK]
theorem outK_at (M : List Int) {k m : Nat} (hk : k < 4) (hm : m < 8) : (outK M).getD (8 * k + m) 0 = M.getD k 0 / 256 ^ m % 256 := by
  have h1 : (8 * k + m) / 8 = k := by omega
  have h2 : (8 * k + m) % 8 = m := by omega
  have h3 : 8 * k + m < 32 := by omega
  unfold outK
  rw [List.getD_eq_getElem?_getD, List.getElem?_map, List.getElem?_range h3]
  simp only [Option.map_some, Option.getD_some, h1, h2]
theorem outK_ky (M : List Int) : Ky (outK M) := ⟨outK_len M, fun x hx => by
  obtain ⟨i, _, rfl⟩ := List.mem_map.1 hx
  omega⟩
theorem outK_num {M : List Int} (h : Lb M) : num (outK M) = lv M := by
  have q : ∀ k, k < 4 → sm (fun m => ax (outK M) (8 * k + m)) 8 = M.getD k 0 := fun k hk => by
    have e : sm (fun m => ax (outK M) (8 * k + m)) 8 = sm (fun m => M.getD k 0 / 256 ^ m % 256) 8 := sm_congr fun m hm => outK_at M hk hm
    have hb := h.bd k hk
    rw [e, sm_digits _ hb.1, show (256 : Int) ^ 8 = 18446744073709551616 by decide]
    exact Int.emod_eq_of_lt hb.1 (by omega)
  unfold num
  rw [show (32 : Nat) = 8 + 24 from rfl, sm_split, show (24 : Nat) = 8 + 16 from rfl, sm_split, show (16 : Nat) = 8 + 8 from rfl, sm_split]
  rw [show (256 : Int) ^ 8 = 18446744073709551616 by decide]
  have r0 : sm (ax (outK M)) 8 = M.getD 0 0 := by rw [← q 0 (by omega)]; exact sm_congr fun m _ => by rw [show 8 * 0 + m = m by omega]
  have r1 : sm (fun i => ax (outK M) (8 + i)) 8 = M.getD 1 0 := by rw [← q 1 (by omega)]
  have r2 : sm (fun i => ax (outK M) (8 + (8 + i))) 8 = M.getD 2 0 := by rw [← q 2 (by omega)]; exact sm_congr fun m _ => by rw [show 8 + (8 + m) = 8 * 2 + m by omega]
  have r3 : sm (fun i => ax (outK M) (8 + (8 + (8 + i)))) 8 = M.getD 3 0 := by rw [← q 3 (by omega)]; exact sm_congr fun m _ => by rw [show 8 + (8 + (8 + m)) = 8 * 3 + m by omega]
  rw [r0, r1, r2, r3]
  unfold lv
  omega
set_option maxRecDepth 100000 in
set_option maxHeartbeats 3200000 in
theorem key51 (L : List Int) (h : Lb L) (w : World) : Calls Try.prog 51 #[.agg (us L).toArray] w fun e w' => ∃ B, Ky B ∧ num B = lv L % P25 ∧ e = .returned (Arr B) ∧ Ext NoB w w' := by
  have sL := h.size
  go_enter Try.func51, Try.ntmps51
  go_upto_region 2 with fail
  generalize hW1 : World.alloc (World.alloc (World.alloc w _) _) _ = W1
  have hA1 : W1.heap[w.heap.size]? = some (.cells (us L).toArray 87 (0, 0)) := by rw [← hW1, heapAlloc _ _ _ (by simp; omega), heapAlloc _ _ _ (by simp), heapNew]
  have hR1 : W1.heap[w.heap.size + 1]? = some (.cells (bys Zk).toArray 33 (0, 0)) := by rw [← hW1, heapAlloc _ _ _ (by simp), heapNew' _ _ _ (by simp)]; rfl
  have hL1 : W1.heap[w.heap.size + 1 + 1]? = some (.cells (bys Zk).toArray 33 (0, 0)) := by rw [← hW1, heapNew' _ _ _ (by simp)]; rfl
  have x1 : Ext NoB w W1 := by rw [← hW1]; exact ((Ext.alloc NoB w _).andAlloc _).andAlloc _
  have hbs : w.heap.size < W1.heap.size := blk_lt' hA1
  clear hW1
  generalize hbb : w.heap.size = b at *
  go_upto_region 3 with (first
    | ((with_reducible show wpList _ _ _ (⟨_, .load 87 _, _, _, _, _⟩ :: _) _ _); refine wpList_load_arr (by rfl) 87 _ rfl b rfl 87 _ _ _ hA1 Try.underlying87 rfl (by rw [List.size_toArray]; exact sL) ?_)
    | (go_at_call 57; (with_reducible refine (canon57 L h _).mono ?_); rintro e W2 ⟨M, hM, hnM, rfl, x2⟩))
  have hR2 := x2.obj hR1 id
  have hL2 := x2.obj hL1 id
  have hx2 := x1.then x2
  have hb2 : b + 1 + 1 < W2.heap.size := blk_lt' hL2
  have hMl := hM.len
  have hMb := hM.bd
  have HM := Lib.hid (And.intro (outK_ky M) ((outK_num hM).trans hnM))
  clear hR1 hL1 x1 x2 hA1 hnM
  go_loopw [9] (fun i W => ∃ (k : Nat) (o : List Int), k ≤ 4 ∧ i = .int .i64 k ∧ o.length = 32 ∧ (∀ j, j < 8 * k → o.getD j 0 = (outK M).getD j 0) ∧ W.heap[b + 1 + 1]? = some (.cells (bys o).toArray 33 (0, 0)) ∧ Ext (fun k => k = b + 1 + 1) W2 W) (fun i _ => 4 - (intOf i).toNat)
  case atStart => exact ⟨0, Zk, by omega, rfl, rfl, fun j hj => absurd hj (by omega), hL2, Ext.refl _ _⟩
  case round =>
    clear hL2
    obtain ⟨k, o, hk, rfl, ho, hpre, hO, hx⟩ := hrel
    by_cases hlt : k < 4
    · have k4 : (k : Int) < 4 := by omega
      have hix := fun w => index87 hMl k hlt w
      obtain ⟨m0, m1⟩ := hMb k hlt
      have hat := fun m (hm : m < 8) => outK_at M hlt hm
      generalize M.getD k 0 = x at *
      go_wp2_with fail
      go_loopw [13] (fun i W => ∃ (m : Nat) (o : List Int), m ≤ 8 ∧ i = .int .i64 m ∧ o.length = 32 ∧ (∀ j, j < 8 * k + m → o.getD j 0 = (outK M).getD j 0) ∧ W.heap[b + 1 + 1]? = some (.cells (bys o).toArray 33 (0, 0)) ∧ Ext (fun k => k = b + 1 + 1) W2 W) (fun i _ => 8 - (intOf i).toNat)
      case atStart => exact ⟨0, o, by omega, rfl, ho, fun j hj => hpre j (by omega), hO, hx⟩
      case round =>
        clear hO hx hpre ho
        obtain ⟨m, o, hm, rfl, ho, hpre, hO, hx⟩ := hrel
        rcases Nat.lt_or_ge m 8 with hlm | hgm
        · have co := byteAt hO (i := 8 * k + m) (by omega)
          have fo := freeOf hO (8 * k + m)
          have hnext : ∀ y, y = x / 256 ^ m % 256 → (∀ j, j < 8 * k + (m + 1) → (o.set (8 * k + m) y).getD j 0 = (outK M).getD j 0) := fun y hy j hj => by
            rw [getD_set]
            by_cases he : 8 * k + m = j
            · rw [if_pos he, if_pos (by omega), ← he, hat m hlm, hy]
            · rw [if_neg he, hpre j (by omega)]
          have hnb := fun y => blockSet hO (8 * k + m) y
          have hnx : ∀ y, Ext (fun k => k = b + 1 + 1) W2 (wr.setCell ⟨b + 1 + 1, 8 * k + m, none⟩ (.int .u8 y)) := fun y => hx.andSet _ _ fun _ => rfl
          have hlen : ∀ y : Int, (o.set (8 * k + m) y).length = 32 := fun y => by rw [List.length_set]; exact ho
          have hm8 : m = 0 ∨ m = 1 ∨ m = 2 ∨ m = 3 ∨ m = 4 ∨ m = 5 ∨ m = 6 ∨ m = 7 := by omega
          clear hO hx hpre hlm hm
          have hw1 := IntWalk.i64_in (8 * (k : Int)) (by omega)
          rcases hm8 with rfl | rfl | rfl | rfl | rfl | rfl | rfl | rfl
          · simp only [Nat.add_zero] at co fo hnext hnb hnx hlen
            go_wp2_with fail
            exact ⟨⟨1, o.set (8 * k) (x % 256), by omega, by go_num, hlen _, hnext _ (by simp), hnb _, hnx _⟩, by simp [intOf]⟩
          · have hw2 := IntWalk.i64_in (8 * (k : Int) + 1) (by omega)
            have hp0 : 0 ≤ 8 * (k : Int) + 1 := by omega
            have hp1 : 8 * (k : Int) + 1 < 32 := by omega
            have hp2 : (8 * (k : Int) + 1).toNat = 8 * k + 1 := by omega
            go_wp2_with fail
            exact ⟨⟨2, o.set (8 * k + 1) (x / 256 % 256), by omega, by go_num, hlen _, hnext _ (by simp), hnb _, hnx _⟩, by simp [intOf]⟩
          · have hw2 := IntWalk.i64_in (8 * (k : Int) + 2) (by omega)
            have hp0 : 0 ≤ 8 * (k : Int) + 2 := by omega
            have hp1 : 8 * (k : Int) + 2 < 32 := by omega
            have hp2 : (8 * (k : Int) + 2).toNat = 8 * k + 2 := by omega
            go_wp2_with fail
            exact ⟨⟨3, o.set (8 * k + 2) (x / 65536 % 256), by omega, by go_num, hlen _, hnext _ (by simp), hnb _, hnx _⟩, by simp [intOf]⟩
          · have hw2 := IntWalk.i64_in (8 * (k : Int) + 3) (by omega)
            have hp0 : 0 ≤ 8 * (k : Int) + 3 := by omega
            have hp1 : 8 * (k : Int) + 3 < 32 := by omega
            have hp2 : (8 * (k : Int) + 3).toNat = 8 * k + 3 := by omega
            go_wp2_with fail
            exact ⟨⟨4, o.set (8 * k + 3) (x / 16777216 % 256), by omega, by go_num, hlen _, hnext _ (by simp), hnb _, hnx _⟩, by simp [intOf]⟩
          · have hw2 := IntWalk.i64_in (8 * (k : Int) + 4) (by omega)
            have hp0 : 0 ≤ 8 * (k : Int) + 4 := by omega
            have hp1 : 8 * (k : Int) + 4 < 32 := by omega
            have hp2 : (8 * (k : Int) + 4).toNat = 8 * k + 4 := by omega
            go_wp2_with fail
            exact ⟨⟨5, o.set (8 * k + 4) (x / 4294967296 % 256), by omega, by go_num, hlen _, hnext _ (by simp), hnb _, hnx _⟩, by simp [intOf]⟩
          · have hw2 := IntWalk.i64_in (8 * (k : Int) + 5) (by omega)
            have hp0 : 0 ≤ 8 * (k : Int) + 5 := by omega
            have hp1 : 8 * (k : Int) + 5 < 32 := by omega
            have hp2 : (8 * (k : Int) + 5).toNat = 8 * k + 5 := by omega
            go_wp2_with fail
            exact ⟨⟨6, o.set (8 * k + 5) (x / 1099511627776 % 256), by omega, by go_num, hlen _, hnext _ (by simp), hnb _, hnx _⟩, by simp [intOf]⟩
          · have hw2 := IntWalk.i64_in (8 * (k : Int) + 6) (by omega)
            have hp0 : 0 ≤ 8 * (k : Int) + 6 := by omega
            have hp1 : 8 * (k : Int) + 6 < 32 := by omega
            have hp2 : (8 * (k : Int) + 6).toNat = 8 * k + 6 := by omega
            go_wp2_with fail
            exact ⟨⟨7, o.set (8 * k + 6) (x / 281474976710656 % 256), by omega, by go_num, hlen _, hnext _ (by simp), hnb _, hnx _⟩, by simp [intOf]⟩
          · have hw2 := IntWalk.i64_in (8 * (k : Int) + 7) (by omega)
            have hp0 : 0 ≤ 8 * (k : Int) + 7 := by omega
            have hp1 : 8 * (k : Int) + 7 < 32 := by omega
            have hp2 : (8 * (k : Int) + 7).toNat = 8 * k + 7 := by omega
            go_wp2_with fail
            exact ⟨⟨8, o.set (8 * k + 7) (x / 72057594037927936), by omega, by go_num, hlen _, hnext _ (by simp; omega), hnb _, hnx _⟩, by simp [intOf]⟩
        · obtain rfl : m = 8 := by omega
          go_wp2_with fail
          exact ⟨⟨k + 1, o, by omega, by go_num, ho, fun j hj => hpre j (by omega), hO, hx⟩, by simp [intOf]; omega⟩
    · have k4 : ¬ (k : Int) < 4 := by omega
      obtain rfl : k = 4 := by omega
      have hoF : o = outK M := ext_getD (by rw [ho, outK_len]) fun j hj => hpre j (by omega)
      obtain ⟨hky, hnum⟩ := HM.out
      rw [← hoF] at hky hnum
      have sS := hky.size
      have hr3 := hx.obj hR2 (by omega)
      have hxf : Ext NoB w wr := hx2.trans hx (fun _ _ h => h) (fun k hk h => by omega)
      have hth := thereArr hr3 (n := (bys o).toArray.size) (by rw [List.size_toArray, bys_length, ho]; decide)
      have hend := setArr hr3 o (by rw [ho]; rfl)
      have HE := Lib.hid (And.intro hend (And.intro hxf (And.intro hky hnum)))
      clear hend hxf hr3 hky hnum hx hoF hpre HM
      go_wp2_with (first
        | ((with_reducible show wpList _ _ _ (⟨_, .load 33 _, _, _, _, _⟩ :: _) _ _); refine wpList_load_arr (by rfl) 33 _ rfl (b + 1 + 1) rfl 33 _ _ _ hO Try.underlying33 rfl (by rw [List.size_toArray]; exact sS) ?_)
        | ((with_reducible show wpList _ _ _ (⟨_, .store 33 _ _, _, _, _, _⟩ :: _) _ _); refine wpList_store_mid rfl 33 _ _ rfl (b + 1) 0 _ rfl rfl hth (by rw [List.size_toArray]; exact sS) (all_oneCell_toArray (bys_one o)) ?_))
      refine bodyPost_ret (results_cell_row rfl _ _ (b + 1) 33 _ (0, 0) _ rfl HE.out.1 Try.underlying33 rfl (by rw [List.size_toArray]; exact sS)) rfl ⟨o, HE.out.2.2.1, HE.out.2.2.2, rfl, HE.out.2.1.andCells _ _ fun h => absurd h (by omega)⟩
end Go.Proofs.Ytdibjnlmeiikmaa
