/-
  fe: Of.
-/
import Derived.Test.YtdibjnlmeiikmaaF
import Derived.Lib.EndianBits
set_option linter.unusedVariables false
set_option linter.unusedSimpArgs false
namespace Go.Proofs.Ytdibjnlmeiikmaa
open Go.RowKit

def hsv (A : List Int) (i j : Nat) : Int := sm (fun m => A.getD (8 * i + j + m) 0) (8 - j)
theorem hsv_end (A : List Int) (i : Nat) : hsv A i 8 = 0 := rfl
theorem hsv_step (A : List Int) (i : Nat) {j : Nat} (hj : j < 8) : hsv A i j = A.getD (8 * i + j) 0 + 256 * hsv A i (j + 1) := by
  unfold hsv
  obtain ⟨n, hn⟩ : ∃ n, 8 - j = n + 1 := ⟨7 - j, by omega⟩
  rw [hn, sm_shift, show 8 - (j + 1) = n by omega]
  simp only [Nat.add_zero]
  congr 2
  exact sm_congr fun m _ => by rw [show 8 * i + j + (m + 1) = 8 * i + (j + 1) + m by omega]
theorem hsv_bd {A : List Int} (h : Ky A) {i j : Nat} (hi : i < 4) (hj : j ≤ 8) : 0 ≤ hsv A i j ∧ hsv A i j < 256 ^ (8 - j) := by
  have hd : Dg (fun m => A.getD (8 * i + j + m) 0) (8 - j) := fun m hm => h.at (by omega)
  exact ⟨sm_nonneg hd, sm_lt hd⟩
theorem pow_le7 {n : Nat} (h : n ≤ 7) : (256 : Int) ^ n ≤ 72057594037927936 := by
  have : n = 0 ∨ n = 1 ∨ n = 2 ∨ n = 3 ∨ n = 4 ∨ n = 5 ∨ n = 6 ∨ n = 7 := by omega
  rcases this with rfl | rfl | rfl | rfl | rfl | rfl | rfl | rfl <;> decide
def mixO (A : List Int) (i j : Nat) : List Int := (List.range 4).map fun m => if m < i then hsv A m 0 else if m = i then hsv A i j else 0
theorem mixO_len (A : List Int) (i j : Nat) : (mixO A i j).length = 4 := by simp [mixO]
theorem mixO_at (A : List Int) (i j : Nat) {m : Nat} (hm : m < 4) : (mixO A i j).getD m 0 = if m < i then hsv A m 0 else if m = i then hsv A i j else 0 := by
  unfold mixO
  rw [List.getD_eq_getElem?_getD, List.getElem?_map, List.getElem?_range hm]; rfl
theorem mixO_step (A : List Int) {i : Nat} (j : Nat) (hi : i < 4) : (mixO A i (j + 1)).set i (hsv A i j) = mixO A i j := ext_getD (by simp [mixO]) fun m hm => by
  have hm' : m < 4 := by simpa [mixO] using hm
  rw [getD_set, mixO_at _ _ _ hm', mixO_at _ _ _ hm', mixO_len]
  by_cases h : i = m
  · subst h; rw [if_pos rfl, if_pos hi, if_neg (by omega), if_pos rfl]
  · rw [if_neg h]
    by_cases h2 : m < i
    · rw [if_pos h2, if_pos h2]
    · rw [if_neg h2, if_neg h2, if_neg (fun e => h e.symm), if_neg (fun e => h e.symm)]
theorem mixO_next (A : List Int) (i : Nat) : mixO A i 0 = mixO A (i + 1) 8 := ext_getD (by simp [mixO]) fun m hm => by
  have hm' : m < 4 := by simpa [mixO] using hm
  rw [mixO_at _ _ _ hm', mixO_at _ _ _ hm']
  by_cases h2 : m < i
  · rw [if_pos h2, if_pos (by omega)]
  · rw [if_neg h2]
    by_cases h : m = i
    · subst h; rw [if_pos rfl, if_pos (by omega)]
    · rw [if_neg h, if_neg (by omega)]
      split
      · exact (hsv_end _ _).symm
      · rfl
theorem mixO_zero (A : List Int) : mixO A 0 8 = [0, 0, 0, 0] := rfl
theorem mixO_lb {A : List Int} (h : Ky A) : Lb (mixO A 4 8) := ⟨mixO_len _ _ _, fun i hi => by
  rw [mixO_at _ _ _ hi, if_pos hi]
  have := hsv_bd h hi (Nat.zero_le 8)
  have e : (256 : Int) ^ (8 - 0) = 18446744073709551616 := by decide
  omega⟩
theorem mixO_lv (A : List Int) : lv (mixO A 4 8) = num A := by
  unfold lv
  rw [mixO_at _ _ _ (by omega), mixO_at _ _ _ (by omega), mixO_at _ _ _ (by omega), mixO_at _ _ _ (by omega)]
  simp only [if_pos (show 0 < 4 by omega), if_pos (show 1 < 4 by omega), if_pos (show 2 < 4 by omega), if_pos (show 3 < 4 by omega)]
  unfold num
  rw [show (32 : Nat) = 8 + 24 from rfl, sm_split, show (24 : Nat) = 8 + 16 from rfl, sm_split, show (16 : Nat) = 8 + 8 from rfl, sm_split]
  unfold hsv
  have e8 : (256 : Int) ^ 8 = 18446744073709551616 := by decide
  rw [e8]
  have q : ∀ i, sm (fun m => A.getD (8 * i + 0 + m) 0) (8 - 0) = sm (fun m => ax A (8 * i + m)) 8 := fun i => rfl
  rw [q, q, q, q]
  have r0 : sm (fun m => ax A (8 * 0 + m)) 8 = sm (ax A) 8 := sm_congr fun m _ => by rw [show 8 * 0 + m = m by omega]
  have r2 : sm (fun i => ax A (8 + (8 + i))) 8 = sm (fun m => ax A (8 * 2 + m)) 8 := sm_congr fun m _ => by rw [show 8 + (8 + m) = 8 * 2 + m by omega]
  have r3 : sm (fun i => ax A (8 + (8 + (8 + i)))) 8 = sm (fun m => ax A (8 * 3 + m)) 8 := sm_congr fun m _ => by rw [show 8 + (8 + (8 + m)) = 8 * 3 + m by omega]
  rw [r0, r2, r3]
  simp only [Nat.mul_one]
  omega
theorem or_byte (v y : Int) (h0 : 0 ≤ v) (h1 : v < 72057594037927936) (h2 : 0 ≤ y) (h3 : y ≤ 255) : bits .or .u64 (v * 256) y = y + 256 * v := by
  have := bits_join .u64 64 (by decide) wraps_u64 8 (v * 256) y (by omega) (by omega) (by omega) h2 (by omega) (by omega)
  rw [this]; omega
set_option maxRecDepth 100000 in
set_option maxHeartbeats 3200000 in
theorem of50 (A : List Int) (h : Ky A) (w : World) : Calls Try.prog 50 #[Arr A] w fun e w' => ∃ M, Lb M ∧ lv M = num A ∧ e = .returned (.agg (us M).toArray) ∧ Ext NoB w w' := by
  go_enter Try.func50, Try.ntmps50
  go_wp2_with fail
  generalize hW1 : World.alloc (World.alloc (World.alloc w _) _) _ = W1
  have hA1 : W1.heap[w.heap.size]? = some (.cells (bys A).toArray 33 (0, 0)) := by rw [← hW1, heapAlloc _ _ _ (by simp; omega), heapAlloc _ _ _ (by simp), heapNew]
  have hR1 : W1.heap[w.heap.size + 1]? = some (.cells (us [0, 0, 0, 0]).toArray 87 (0, 0)) := by rw [← hW1, heapAlloc _ _ _ (by simp), heapNew' _ _ _ (by simp)]; rfl
  have hL1 : W1.heap[w.heap.size + 1 + 1]? = some (.cells (us [0, 0, 0, 0]).toArray 87 (0, 0)) := by rw [← hW1, heapNew' _ _ _ (by simp)]; rfl
  have x1 : Ext NoB w W1 := by rw [← hW1]; exact ((Ext.alloc NoB w _).andAlloc _).andAlloc _
  have hbs : w.heap.size < W1.heap.size := blk_lt' hA1
  clear hW1
  generalize hbb : w.heap.size = b at *
  rw [← mixO_zero A] at hL1
  go_loopw [6] (fun i W => ∃ k : Nat, k ≤ 4 ∧ i = .int .i64 k ∧ W.heap[b + 1 + 1]? = some (.cells (us (mixO A k 8)).toArray 87 (0, 0)) ∧ Ext (fun k => k = b + 1 + 1) W1 W) (fun i _ => 4 - (intOf i).toNat)
  case atStart => exact ⟨0, by omega, rfl, hL1, Ext.refl _ _⟩
  case round =>
    clear hL1
    obtain ⟨k, hk, rfl, hmk, hxk⟩ := hrel
    by_cases hlt : k < 4
    · have k4 : (k : Int) < 4 := by omega
      go_wp2_with fail
      go_loopw [5] (fun kk W => ∃ j : Nat, j ≤ 8 ∧ kk = .int .i64 ((j : Int) - 1) ∧ W.heap[b + 1 + 1]? = some (.cells (us (mixO A k j)).toArray 87 (0, 0)) ∧ Ext (fun k => k = b + 1 + 1) W1 W) (fun kk _ => (intOf kk + 1).toNat)
      case atStart => exact ⟨8, by omega, rfl, hmk, hxk⟩
      case round =>
        clear hmk hxk
        obtain ⟨j, hj, rfl, hmj, hxj⟩ := hrel
        cases j with
        | zero =>
          rw [mixO_next] at hmj
          go_wp2_with fail
          exact ⟨⟨k + 1, by omega, by go_num, hmj, hxj⟩, by simp [intOf]; omega⟩
        | succ j =>
          have e1 : (((j + 1 : Nat) : Int) - 1) = (j : Int) := by omega
          rw [e1]
          clear e1
          have hst := hsv_step A k (j := j) (by omega)
          obtain ⟨v0, v1⟩ := hsv_bd h hlt (j := j + 1) (by omega)
          have v2 := pow_le7 (n := 8 - (j + 1)) (by omega)
          obtain ⟨b1, b2⟩ := h.at (i := 8 * k + j) (by omega)
          have hcA := byteAt (hxj.obj hA1 (by omega)) (i := 8 * k + j) (by rw [h.len]; omega)
          have hcL := usAt hmj (i := k) (by rw [mixO_len]; omega)
          rw [mixO_at _ _ _ hlt, if_neg (by omega), if_pos rfl] at hcL
          have hfr := freeOf hmj k
          have hset := fun x => usSet hmj k x
          have hms := mixO_step A j hlt
          rw [hst] at hms
          generalize hsv A k (j + 1) = v at *
          generalize A.getD (8 * k + j) 0 = y at *
          have hp32 : 8 * k + j < 32 := by omega
          have hEND : Hid ((wr.setCell ⟨b + 1 + 1, k, none⟩ (.int .u64 (y + 256 * v))).heap[b + 1 + 1]? = some (.cells (us (mixO A k j)).toArray 87 (0, 0)) ∧ Ext (fun k => k = b + 1 + 1) W1 (wr.setCell ⟨b + 1 + 1, k, none⟩ (.int .u64 (y + 256 * v)))) := Lib.hid ⟨by rw [← hms]; exact hset _, hxj.andSet _ _ fun _ => rfl⟩
          have hor := or_byte v y v0 (by omega) b1 b2
          clear hms hset hmj hxj hst
          go_upto_region 8 with fail
          have hw1 := IntWalk.i64_in (8 * (k : Int)) (by omega)
          have hw2 := IntWalk.i64_in (8 * (k : Int) + (j : Int)) (by omega)
          have hp0 : 0 ≤ 8 * (k : Int) + (j : Int) := by omega
          have hp1 : 8 * (k : Int) + (j : Int) < 32 := by omega
          have hp2 : (8 * (k : Int) + (j : Int)).toNat = 8 * k + j := by omega
          go_region
          go_wp2_with fail
          exact ⟨⟨j, by omega, by go_num, hEND.out.1, hEND.out.2.andDrew⟩, by first | (simp [intOf]; done) | (simp [intOf]; omega)⟩
    · have k4 : ¬ (k : Int) < 4 := by omega
      obtain rfl : k = 4 := by omega
      have hlb := mixO_lb h
      have hlv := mixO_lv A
      have hr3 := hxk.obj hR1 (by omega)
      have hxf : Ext NoB w wr := x1.trans hxk (fun _ _ h => h) (fun k hk h => by omega)
      have sS := hlb.size
      generalize mixO A 4 8 = S at *
      have hth := thereUs hr3 (n := (us S).toArray.size) (by rw [List.size_toArray, us_length, hlb.len]; exact Nat.le_refl _)
      have hend := setUs hr3 S (by rw [hlb.len]; rfl)
      have HE := Lib.hid (And.intro hend (And.intro hxf (And.intro hlb hlv)))
      clear hend hxf hr3 hlb hlv hxk
      go_wp2_with (first
        | ((with_reducible show wpList _ _ _ (⟨_, .load 87 _, _, _, _, _⟩ :: _) _ _); refine wpList_load_arr (by rfl) 87 _ rfl (b + 1 + 1) rfl 87 _ _ _ hmk Try.underlying87 rfl (by rw [List.size_toArray]; exact sS) ?_)
        | ((with_reducible show wpList _ _ _ (⟨_, .store 87 _ _, _, _, _, _⟩ :: _) _ _); refine wpList_store_mid rfl 87 _ _ rfl (b + 1) 0 _ rfl rfl hth (by rw [List.size_toArray]; exact sS) (all_oneCell_toArray (us_one S)) ?_))
      refine bodyPost_ret (results_cell_row rfl _ _ (b + 1) 87 _ (0, 0) _ rfl HE.out.1 Try.underlying87 rfl (by rw [List.size_toArray]; exact sS)) rfl ⟨S, HE.out.2.2.1, HE.out.2.2.2, rfl, HE.out.2.1.andCells _ _ fun h => absurd h (by omega)⟩
end Go.Proofs.Ytdibjnlmeiikmaa
