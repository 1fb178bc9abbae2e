/-
  fe: prime, canon.
-/
import Derived.Test.YtdibjnlmeiikmaaE
set_option linter.unusedVariables false
set_option linter.unusedSimpArgs false
namespace Go.Proofs.Ytdibjnlmeiikmaa
open Go.RowKit

def us (s : List Int) : List Value := s.map (Value.int .u64)
theorem us_length (s : List Int) : (us s).length = s.length := by simp [us]
theorem us_at {s : List Int} {i : Nat} (hi : i < s.length) : (us s)[i]? = some (.int .u64 (s.getD i 0)) := by
  simp [us, List.getElem?_eq_getElem hi]
theorem us_one (s : List Int) : ∀ u ∈ us s, u.oneCell' = true := by
  intro u hu
  obtain ⟨x, _, rfl⟩ := List.mem_map.1 hu
  rfl
theorem usSet {w : World} {g : Nat} {e : TypeId} {s : List Int} (h : w.heap[g]? = some (.cells (us s).toArray e (0, 0))) (i : Nat) (x : Int) : (w.setCell ⟨g, i, none⟩ (.int .u64 x)).heap[g]? = some (.cells (us (s.set i x)).toArray e (0, 0)) := by
  rw [heapSet h]
  simp [us, List.map_set]
theorem usAt {w : World} {g : Nat} {e : TypeId} {s : List Int} (h : w.heap[g]? = some (.cells (us s).toArray e (0, 0))) {i : Nat} (hi : i < s.length) : w.cell? ⟨g, i, none⟩ = some (.int .u64 (s.getD i 0)) := by
  rw [cellOf h, List.getElem?_toArray]; exact us_at hi
theorem thereUs {w : World} {g : Nat} {e : TypeId} {s : List Int} (h : w.heap[g]? = some (.cells (us s).toArray e (0, 0))) {n : Nat} (hn : n ≤ s.length) : w.there g 0 n := fun j hj => ⟨by
  rw [cellOf h, List.getElem?_toArray, List.getElem?_eq_getElem (by rw [us_length]; omega)]; rfl, freeOf h _⟩
theorem setUs {w : World} {g : Nat} {e : TypeId} {s : List Int} (h : w.heap[g]? = some (.cells (us s).toArray e (0, 0))) (t : List Int) (hl : t.length = s.length) : (w.setCells g 0 (us t)).heap[g]? = some (.cells (us t).toArray e (0, 0)) :=
  setCells_whole h (us t) (by simp [us_length, hl])
theorem Try.size87 : (Try.prog.info? 87).map (·.size) = some 4 := by kernel_rfl
def PL : List Int := [18446744073709551597, 18446744073709551615, 18446744073709551615, 9223372036854775807]
theorem PL_at {i : Nat} (hi : i < 4) : PL.getD i 0 = pl i := by
  have : i = 0 ∨ i = 1 ∨ i = 2 ∨ i = 3 := by omega
  rcases this with rfl | rfl | rfl | rfl <;> rfl
theorem prime69 (w : World) : Calls Try.prog 69 #[] w fun e w' => e = .returned (.agg (us PL).toArray) ∧ Ext NoB w w' := by
  go_enter Try.func69, Try.ntmps69
  go_wp2
  exact bodyPost_ret (results_cell_row rfl _ _ w.heap.size 87 _ (0, 0) _ rfl (heapNew _ _) Try.underlying87 rfl Try.size87) rfl ⟨rfl, Ext.alloc _ _ _⟩
def mixU (L : List Int) (k : Nat) : List Int := (List.range 4).map fun i => if i < k then dgL L i else 0
theorem mixU_len (L : List Int) (k : Nat) : (mixU L k).length = 4 := by simp [mixU]
theorem mixU_step (L : List Int) {k : Nat} (hk : k < 4) : (mixU L k).set k (dgL L k) = mixU L (k + 1) := by
  have : k = 0 ∨ k = 1 ∨ k = 2 ∨ k = 3 := by omega
  rcases this with rfl | rfl | rfl | rfl <;> rfl
theorem mixU_end (L : List Int) : mixU L 4 = subL L := rfl
def lvOf : Option Obj → Nat
  | some (.cells cs _ _) => (lv (cs.toList.map intOf)).toNat
  | _ => 0
theorem lvOf_us (L : List Int) (e : TypeId) : lvOf (some (.cells (us L).toArray e (0, 0))) = (lv L).toNat := by
  unfold lvOf us
  simp [List.map_map, Function.comp_def, intOf]
theorem Lb.size {L : List Int} (h : Lb L) : (Try.prog.info? 87).map (·.size) = some (us L).length := by rw [us_length, h.len]; exact Try.size87
theorem index_arr {P : Program} (w : World) (t e : TypeId) (n : Nat) (cs : Array Value) (k : Nat) (x : Value) (h : P.underlying t = some (.array n e)) (he : P.underlying e = some (.int .u64)) {i : TypeInfo} (hi : P.info? e = some i) (hs : i.size = 1) (hk : k < n) (hx : cs[k]? = some x)
  : (Instr.index t (.agg cs) (.int .i64 (k : Int))).run P w = .ok x w := by
  have h1 : (0 : Int) ≤ k ∧ (k : Int) < n := by omega
  simp [Instr.index, run_underlying h, asIntOf, h1, go_sem, sizeOf, typeInfo, hi, hs, hk, isAgg, run_underlying he, hx]
theorem index87 {L : List Int} (hl : L.length = 4) (k : Nat) (hk : k < 4) (w : World) : (Instr.index 87 (.agg (us L).toArray) (.int .i64 (k : Int))).run Try.prog w = .ok (.int .u64 (L.getD k 0)) w :=
  index_arr w 87 85 4 _ k _ Try.underlying87 Try.underlying85 (i := (Try.prog.info? 85).getD default) (by kernel_rfl) (by kernel_rfl) hk (by rw [List.getElem?_toArray]; exact us_at (by omega))
set_option maxRecDepth 100000 in
set_option maxHeartbeats 3200000 in
theorem canon57 (L : List Int) (h : Lb L) (w : World) : Calls Try.prog 57 #[.agg (us L).toArray] w fun e w' => ∃ M, Lb M ∧ lv M = lv L % P25 ∧ e = .returned (.agg (us M).toArray) ∧ Ext NoB w w' := by
  go_enter Try.func57, Try.ntmps57
  go_wp2_with fail
  generalize hW1 : World.alloc (World.alloc w _) _ = W1
  have hA1 : W1.heap[w.heap.size]? = some (.cells (us L).toArray 87 (0, 0)) := by rw [← hW1, heapAlloc _ _ _ (by simp), heapNew]
  have hR1 : W1.heap[w.heap.size + 1]? = some (.cells (us [0, 0, 0, 0]).toArray 87 (0, 0)) := by rw [← hW1, heapNew' _ _ _ (by simp)]; rfl
  have x1 : Ext NoB w W1 := by rw [← hW1]; exact (Ext.alloc NoB w _).andAlloc _
  have hbs : w.heap.size < W1.heap.size := blk_lt' hA1
  clear hW1
  generalize hbb : w.heap.size = b at *
  go_loopw [4] (fun _ W => ∃ M, Lb M ∧ lv M % P25 = lv L % P25 ∧ W.heap[b]? = some (.cells (us M).toArray 87 (0, 0)) ∧ Ext (fun k => k = b) W1 W) (fun _ W => lvOf (W.heap[b]?))
  case atStart => exact ⟨L, h, rfl, hA1, Ext.refl _ _⟩
  case round =>
    clear hA1
    obtain ⟨M, hM, hm, hbM, hxW⟩ := hrel
    have hme : lvOf (wr.heap[b]?) = (lv M).toNat := by rw [hbM, lvOf_us]
    rw [hme]
    clear hme
    have sM := hM.size
    obtain ⟨hn0, hn1⟩ := lv_lt hM
    have hbo := borL_iff hM
    have hZ := (Ext.alloc NoB wr (.cells (us [0, 0, 0, 0]).toArray 87))
    have hm0 := heapNew wr (.cells (us [0, 0, 0, 0]).toArray 87)
    have hbM0 := hZ.obj hbM id
    have HZ := Lib.hid (And.intro hm0 (And.intro hbM0 (hxW.trans hZ (fun _ _ h => h) (fun _ _ h => h.elim))))
    clear hm0 hbM0 hZ
    go_upto_region 4 with (first
      | (go_at_call 69; (with_reducible refine (prime69 _).mono ?_); rintro e W2 ⟨rfl, x2⟩))
    obtain ⟨hm0, hbM0, hxM0⟩ := HZ.out
    have hm2 := x2.obj hm0 id
    have hb2 := x2.obj hbM0 id
    have hx2 := hxM0.trans x2 (fun _ _ h => h) (fun _ _ h => h.elim)
    have hne : b ≠ wr.heap.size := fun e => by have := blk_lt' hbM; omega
    have hgeW := hxW.size
    clear HZ hm0 hbM0 hxM0 x2 hbM
    rw [show [0, 0, 0, 0] = mixU M 0 from rfl] at hm2
    obtain ⟨mb, hmb⟩ : ∃ mb, mb = wr.heap.size := ⟨_, rfl⟩
    rw [← hmb] at hm2 hne hgeW ⊢
    clear hmb
    have hPL : PL.length = 4 := rfl
    have hPLat := fun k (hk : k < 4) => PL_at hk
    obtain ⟨Q, hQ⟩ : ∃ Q, Q = PL := ⟨_, rfl⟩
    rw [← hQ] at hPL hPLat ⊢
    clear hQ
    go_loopw [4, 8] (fun o i W => ∃ k : Nat, k ≤ 4 ∧ i = .int .i64 k ∧ o = .int .u64 (borL M k) ∧ W.heap[mb]? = some (.cells (us (mixU M k)).toArray 87 (0, 0)) ∧ Ext (fun k => k = mb) W2 W) (fun _ i _ => 4 - (intOf i).toNat)
    case atStart => exact ⟨0, by omega, rfl, rfl, hm2, Ext.refl _ _⟩
    case round =>
      clear hm2
      obtain ⟨k, hk, rfl, rfl, hmk, hxk⟩ := hrel
      by_cases hlt : k < 4
      · have k4 : (k : Int) < 4 := by omega
        have hbk := hxk.obj hb2 hne
        have hc := usAt hbk (i := k) (by rw [hM.len]; omega)
        have hix := fun w => index87 hPL k hlt w
        rw [hPLat k hlt] at hix
        have hsub := fun w => sub70 (M.getD k 0) (pl k) (borL M k) (hM.bd k hlt) (pl_bd k) (borL_01 M k) w
        have hset := fun x => usSet hmk k x
        have hms := mixU_step M hlt
        have hd1 : dgL M k = if M.getD k 0 < pl k + borL M k then M.getD k 0 - pl k - borL M k + 18446744073709551616 else M.getD k 0 - pl k - borL M k := rfl
        have hd2 : borL M (k + 1) = if M.getD k 0 < pl k + borL M k then 1 else 0 := rfl
        rw [← hd1, ← hd2] at hsub
        have hfr := freeOf hmk k
        have hcm := usAt hmk (i := k) (by rw [mixU_len]; omega)
        have hEND : Hid ((wr.setCell ⟨mb, k, none⟩ (.int .u64 (dgL M k))).heap[mb]? = some (.cells (us (mixU M (k + 1))).toArray 87 (0, 0)) ∧ Ext (fun k => k = mb) W2 (wr.setCell ⟨mb, k, none⟩ (.int .u64 (dgL M k)))) := Lib.hid ⟨by rw [← hms]; exact hset _, hxk.andSet _ _ fun _ => rfl⟩
        clear hms hd1 hd2 hset hbk hmk hxk
        generalize hcp : borL M (k + 1) = c' at *
        have HCP := Lib.hid hcp
        clear hcp
        generalize M.getD k 0 = x at *
        generalize pl k = y at *
        generalize borL M k = c at *
        generalize dgL M k = d at *
        generalize (mixU M k).getD k 0 = x0 at *
        go_wp2_with fail
        exact ⟨⟨k + 1, by omega, by go_num, by rw [HCP.out], hEND.out⟩, by simp [intOf]; omega⟩
      · have k4 : ¬ (k : Int) < 4 := by omega
        obtain rfl : k = 4 := by omega
        rw [mixU_end] at hmk
        have hb3 := hxk.obj hb2 hne
        have hx3 : Ext (fun k => k = b) W1 wr := hx2.trans hxk (fun _ _ h => h) (fun k hk h => by omega)
        have hS := subL_lb hM
        have hSS := subL_sum hM
        clear hxk hb2 hx2
        by_cases hlp : lv M < P25
        · rw [if_pos hlp] at hbo
          rw [hbo]
          have hr3 := hx3.obj hR1 (by omega)
          have hxf : Ext NoB w wr := x1.trans hx3 (fun _ _ h => h) (fun k hk h => by omega)
          have hth := thereUs hr3 (n := (us M).toArray.size) (by rw [List.size_toArray, us_length, hM.len]; decide)
          have hend := setUs hr3 M (by rw [hM.len]; rfl)
          have hnum : lv M = lv L % P25 := by rw [← hm]; exact (Int.emod_eq_of_lt hn0 hlp).symm
          have HE := Lib.hid (And.intro hend (And.intro hxf hnum))
          clear hend hxf hr3 hnum hm hSS hx3 hmk
          go_wp2_with (first
            | ((with_reducible show wpList _ _ _ (⟨_, .load 87 _, _, _, _, _⟩ :: _) _ _); refine wpList_load_arr (by rfl) 87 _ rfl b rfl 87 _ _ _ hb3 Try.underlying87 rfl (by rw [List.size_toArray]; exact sM) ?_)
            | ((with_reducible show wpList _ _ _ (⟨_, .store 87 _ _, _, _, _, _⟩ :: _) _ _); refine wpList_store_mid rfl 87 _ _ rfl (b + 1) 0 _ rfl rfl hth (by rw [List.size_toArray]; exact sM) (all_oneCell_toArray (us_one M)) ?_))
          refine bodyPost_ret (results_cell_row rfl _ _ (b + 1) 87 _ (0, 0) _ rfl HE.out.1 Try.underlying87 rfl (by rw [List.size_toArray]; exact sM)) rfl ⟨M, hM, HE.out.2.2, rfl, HE.out.2.1.andCells _ _ fun h => absurd h (by omega)⟩
        · rw [if_neg hlp] at hbo
          rw [hbo] at hSS ⊢
          have sS := hS.size
          have hth := thereUs hb3 (n := (us (subL M)).toArray.size) (by rw [List.size_toArray, us_length, hM.len]; exact Nat.le_refl _)
          have hend := setUs hb3 (subL M) (by rw [hM.len]; rfl)
          have HE := Lib.hid (And.intro hend (And.intro hx3 (And.intro hS hSS)))
          clear hend hx3 hb3 hSS hS
          generalize subL M = S at *
          go_wp2_with (first
            | ((with_reducible show wpList _ _ _ (⟨_, .load 87 _, _, _, _, _⟩ :: _) _ _); refine wpList_load_arr (by rfl) 87 _ rfl mb rfl 87 _ _ _ hmk Try.underlying87 rfl (by rw [List.size_toArray]; exact sS) ?_)
            | ((with_reducible show wpList _ _ _ (⟨_, .store 87 _ _, _, _, _, _⟩ :: _) _ _); refine wpList_store_mid rfl 87 _ _ rfl b 0 _ rfl rfl hth (by rw [List.size_toArray]; exact sS) (all_oneCell_toArray (us_one S)) ?_))
          have hP : 0 < P25 := by decide
          have hlv : lv S = lv M - P25 := by rw [HE.out.2.2.2]; omega
          refine ⟨⟨S, HE.out.2.2.1, by rw [hlv, ← hm, Int.sub_emod_right], HE.out.1, HE.out.2.1.andCells _ _ fun _ => rfl⟩, ?_⟩
          rw [HE.out.1, lvOf_us, hlv]
          omega
end Go.Proofs.Ytdibjnlmeiikmaa
