/-
  The document's numbers: prime, atLeast, less.
-/
import Derived.Test.YtdibjnlmeiikmaaB
set_option linter.unusedVariables false
set_option linter.unusedSimpArgs false
namespace Go.Proofs.Ytdibjnlmeiikmaa
open Go.RowKit

theorem prime68 (i : Int) (w : World) : Calls Try.prog 68 #[.int .i64 i] w fun e w' => e = .returned (.int .i64 (pd i)) ∧ w' = w := by
  unfold pd
  by_cases h1 : i = 0
  · subst h1
    go_enter Try.func68, Try.ntmps68
    go_wp2
    go_ret
    exact ⟨rfl, rfl⟩
  · by_cases h2 : i = 31
    · subst h2
      go_enter Try.func68, Try.ntmps68
      go_wp2
      go_ret
      exact ⟨rfl, rfl⟩
    · rw [if_neg h1, if_neg h2]
      go_enter Try.func68, Try.ntmps68
      go_wp2
      go_ret
      exact ⟨rfl, rfl⟩
theorem atLeast55 (A : List Int) (h : Ky A) (w : World) : Calls Try.prog 55 #[Arr A] w fun e w' => e = .returned (.bool (decide (P25 ≤ num A))) ∧ Ext NoB w w' := by
  have hal := alF_eq h.dg
  rw [pd_sum] at hal
  have hb : (w.alloc (.cells (bys A).toArray 33)).heap[w.heap.size]? = some (.cells (bys A).toArray 33 (0, 0)) := heapNew _ _
  have hx := Ext.alloc NoB w (.cells (bys A).toArray 33)
  have HE : Hid (decide (P25 ≤ num A) = alF (ax A) 32) := Lib.hid (by rw [hal]; rfl)
  rw [HE.out]
  have HB := Lib.hid hb
  clear hal hb HE
  go_enter Try.func55, Try.ntmps55
  go_wp2_with fail
  generalize World.alloc w _ = W0 at *
  generalize w.heap.size = b at *
  go_loopw [3] (fun i W => ∃ k : Nat, k ≤ 32 ∧ i = .int .i64 ((k : Int) - 1) ∧ alF (ax A) 32 = alF (ax A) k ∧ Ext NoB W0 W) (fun i _ => (intOf i + 1).toNat)
  case atStart => exact ⟨32, by omega, rfl, rfl, Ext.refl _ _⟩
  case round =>
    obtain ⟨k, hk, rfl, hal, hxW⟩ := hrel
    cases k with
    | zero =>
      have hx2 := hx.then hxW
      have HAL := Lib.hid hal
      clear hal
      go_wp2_with fail
      go_ret
      exact ⟨by rw [HAL.out]; rfl, hx2⟩
    | succ k =>
      have hc := byteAt (hxW.obj HB.out id) (i := k) (by rw [h.len]; omega)
      obtain ⟨hb1, hb2⟩ := h.at (i := k) (by omega)
      have e1 : (((k + 1 : Nat) : Int) - 1) = (k : Int) := by omega
      rw [e1]
      have hal2 : alF (ax A) 32 = if A.getD k 0 = pd k then alF (ax A) k else decide (pd k < A.getD k 0) := hal
      have hpr := prime68 (k : Int)
      have k32 : (k : Int) < 32 := by omega
      have hx2 := hx.then hxW
      clear e1 hal
      generalize A.getD k 0 = x at *
      have hwr := IntWalk.i64_in x (by omega)
      obtain ⟨hp1, hp2⟩ := pd_bd (k : Int)
      generalize pd (k : Int) = y at *
      have HP := Lib.hid hpr
      clear hpr
      by_cases hxy : x = y
      · rw [if_pos hxy] at hal2
        have HAL := Lib.hid hal2
        clear hal2
        subst hxy
        go_upto_region 4 with fail
        go_region_held3 (fun W => W.cell? ⟨b, k, none⟩ = some (.int .u8 x))
          (first | (exact hc) | assumption)
          (first | (go_at_call 68; (with_reducible refine (HP.out _).mono ?_); rintro e W8 ⟨rfl, rfl⟩))
        all_goals (
          go_wp2_with fail
          exact ⟨⟨k, by omega, by go_num, HAL.out, hxW.andDrew⟩, by first | (simp [intOf]; done) | (simp [intOf]; omega)⟩)
      · rw [if_neg hxy] at hal2
        have HAL := Lib.hid hal2
        clear hal2
        go_upto_region 4 with fail
        go_region_held3 (fun W => W.cell? ⟨b, k, none⟩ = some (.int .u8 x))
          (first | (exact hc) | assumption)
          (first | (go_at_call 68; (with_reducible refine (HP.out _).mono ?_); rintro e W8 ⟨rfl, rfl⟩))
        all_goals go_upto_region 5 with fail
        all_goals go_region_held3 (fun W => W.cell? ⟨b, k, none⟩ = some (.int .u8 x))
          (first | (exact hc) | assumption)
          (first | (go_at_call 68; (with_reducible refine (HP.out _).mono ?_); rintro e W8 ⟨rfl, rfl⟩))
        all_goals (
          go_wp2_with fail
          go_ret
          exact ⟨by rw [HAL.out]; rfl, hx2.andDrew.andDrew⟩)
/-- less' row behind k rounds. -/
def mixL (A : List Int) (k : Nat) : List Int := (List.range 32).map fun i => if i < k then dgt (ax A) i else A.getD i 0
theorem mixL_len (A : List Int) (k : Nat) : (mixL A k).length = 32 := by simp [mixL]
theorem mixL_at (A : List Int) (k : Nat) {i : Nat} (hi : i < 32) : (mixL A k).getD i 0 = if i < k then dgt (ax A) i else A.getD i 0 := by
  unfold mixL
  rw [List.getD_eq_getElem?_getD, List.getElem?_map, List.getElem?_range hi]; rfl
theorem mixL_zero {A : List Int} (h : Ky A) : mixL A 0 = A := ext_getD (by rw [mixL_len, h.len]) fun j hj => by rw [mixL_len] at hj; rw [mixL_at A 0 hj, if_neg (by omega)]
theorem mixL_step (A : List Int) {k : Nat} (hk : k < 32) : (mixL A k).set k (dgt (ax A) k) = mixL A (k + 1) := ext_getD (by simp [mixL]) fun j hj => by
  have hj' : j < 32 := by simpa [mixL] using hj
  rw [getD_set, mixL_at A _ hj', mixL_at A _ hj', mixL_len]
  by_cases h : k = j
  · subst h; rw [if_pos rfl, if_pos hk, if_pos (by omega)]
  · rw [if_neg h]
    by_cases h2 : j < k
    · rw [if_pos h2, if_pos (by omega)]
    · rw [if_neg h2, if_neg (by omega)]
theorem mixL_ky {A : List Int} (h : Ky A) : Ky (mixL A 32) := ⟨mixL_len A 32, fun x hx => by
  obtain ⟨i, hi, rfl⟩ := List.mem_map.1 hx
  have hi' := List.mem_range.1 hi
  rw [if_pos hi']
  exact dgt_bd (h.at hi')⟩
theorem mixL_num {A : List Int} (h : Ky A) (hge : P25 ≤ num A) : num (mixL A 32) = num A - P25 := by
  rw [show num A = sm (ax A) 32 from rfl, ← less_sum h.dg hge]
  unfold num
  exact sm_congr fun i hi => by show (mixL A 32).getD i 0 = _; rw [mixL_at A 32 hi, if_pos hi]
theorem u8_in (x : Int) (h : 0 ≤ x ∧ x ≤ 255) : IntKind.u8.wrap x = x := by rw [IntKind.wrap_u8]; omega
set_option maxHeartbeats 1600000 in
theorem less56 (A : List Int) (h : Ky A) (hge : P25 ≤ num A) (w : World) : Calls Try.prog 56 #[Arr A] w fun e w' => ∃ B, Ky B ∧ num B = num A - P25 ∧ e = .returned (Arr B) ∧ Ext NoB w w' := by
  have sA := h.size
  have lA : (bys A).toArray.size = 32 := by simp [bys_length, h.len]
  go_enter Try.func56, Try.ntmps56
  go_wp2_with fail
  generalize hW1 : World.alloc (World.alloc w _) _ = W1
  have hA1 : W1.heap[w.heap.size]? = some (.cells (bys A).toArray 33 (0, 0)) := by rw [← hW1, heapAlloc _ _ _ (by simp), heapNew]
  have hR1 : W1.heap[w.heap.size + 1]? = some (.cells (bys Zk).toArray 33 (0, 0)) := by rw [← hW1, heapNew' _ _ _ (by simp)]; rfl
  have x1 : Ext NoB w W1 := by rw [← hW1]; exact (Ext.alloc NoB w _).andAlloc _
  have hbs : w.heap.size < W1.heap.size := blk_lt' hA1
  clear hW1
  rw [← mixL_zero h] at hA1
  generalize hbb : w.heap.size = b at *
  go_loopw [3, 4] (fun o i W => ∃ k : Nat, k ≤ 32 ∧ i = .int .i64 k ∧ o = .int .i64 (bor (ax A) k) ∧ W.heap[b]? = some (.cells (bys (mixL A k)).toArray 33 (0, 0)) ∧ Ext (fun k => k = b) W1 W) (fun _ i _ => 32 - (intOf i).toNat)
  case atStart => exact ⟨0, by omega, rfl, rfl, hA1, Ext.refl _ _⟩
  case round =>
    clear hA1
    obtain ⟨k, hk, rfl, rfl, hbk, hxW⟩ := hrel
    by_cases hlt : k < 32
    · have k32 : (k : Int) < 32 := by omega
      have hc := byteAt hbk (i := k) (by rw [mixL_len]; omega)
      rw [mixL_at A k hlt, if_neg (by omega)] at hc
      obtain ⟨hb1, hb2⟩ := h.at hlt
      obtain ⟨hp1, hp2⟩ := pd_bd (k : Int)
      have hpr := prime68 (k : Int)
      have hset := fun x => blockSet (show wr.drew.heap[b]? = _ from hbk) k x
      have hxD := hxW.andDrew
      have hms := mixL_step A hlt
      have hbo := bor_01 (ax A) k
      have hd1 : dgt (ax A) k = if A.getD k 0 - pd k - bor (ax A) k < 0 then A.getD k 0 - pd k - bor (ax A) k + 256 else A.getD k 0 - pd k - bor (ax A) k := rfl
      have hd2 : bor (ax A) (k + 1) = if A.getD k 0 - pd k - bor (ax A) k < 0 then 1 else 0 := rfl
      have hfr := freeOf (show wr.drew.heap[b]? = _ from hbk) k
      have hcd : wr.drew.cell? ⟨b, k, none⟩ = wr.cell? ⟨b, k, none⟩ := rfl
      have hdb := dgt_bd (f := ax A) (k := k) ⟨hb1, hb2⟩
      generalize A.getD k 0 = x at *
      have hwr := IntWalk.i64_in x (by omega)
      generalize pd (k : Int) = y at *
      generalize bor (ax A) k = c at *
      generalize hcp : bor (ax A) (k + 1) = c' at *
      have HCP := Lib.hid hcp
      clear hcp
      generalize dgt (ax A) k = d at *
      have HP := Lib.hid hpr
      have HSET := Lib.hid hset
      have HMS := Lib.hid hms
      clear hpr hset hms hbk
      go_upto_region 5 with fail
      go_region_held3 (fun W => W.cell? ⟨b, k, none⟩ = some (.int .u8 x))
        (first | (exact hc) | assumption)
        (first | (go_at_call 68; (with_reducible refine (HP.out _).mono ?_); rintro e W8 ⟨rfl, rfl⟩))
      have hw1 := IntWalk.i64_in (x - y) (by omega)
      have hw2 := IntWalk.i64_in (x - y - c) (by omega)
      have hw3 := IntWalk.i64_in (x - y - c + 256) (by omega)
      rw [hc] at hcd
      by_cases hneg : x - y - c < 0
      · rw [if_pos hneg] at hd1 hd2
        have hw4 := u8_in (x - y - c + 256) (by omega)
        have HD := Lib.hid (And.intro hd1 hd2)
        have hEND : Hid ((wr.drew.setCell ⟨b, k, none⟩ (.int .u8 (x - y - c + 256))).heap[b]? = some (.cells (bys (mixL A (k + 1))).toArray 33 (0, 0)) ∧ Ext (fun k => k = b) W1 (wr.drew.setCell ⟨b, k, none⟩ (.int .u8 (x - y - c + 256)))) := Lib.hid ⟨by rw [← hd1, ← HMS.out]; exact HSET.out _, hxD.andSet _ _ fun _ => rfl⟩
        clear hd1 hd2 hxW hxD
        go_wp2_with fail
        exact ⟨⟨k + 1, by omega, by go_num, by rw [HCP.out, HD.out.2], hEND.out⟩, by simp [intOf]; omega⟩
      · rw [if_neg hneg] at hd1 hd2
        have hw4 := u8_in (x - y - c) (by omega)
        have HD := Lib.hid (And.intro hd1 hd2)
        have hEND : Hid ((wr.drew.setCell ⟨b, k, none⟩ (.int .u8 (x - y - c))).heap[b]? = some (.cells (bys (mixL A (k + 1))).toArray 33 (0, 0)) ∧ Ext (fun k => k = b) W1 (wr.drew.setCell ⟨b, k, none⟩ (.int .u8 (x - y - c)))) := Lib.hid ⟨by rw [← hd1, ← HMS.out]; exact HSET.out _, hxD.andSet _ _ fun _ => rfl⟩
        clear hd1 hd2 hxW hxD
        go_wp2_with fail
        exact ⟨⟨k + 1, by omega, by go_num, by rw [HCP.out, HD.out.2], hEND.out⟩, by simp [intOf]; omega⟩
    · have k32 : ¬ (k : Int) < 32 := by omega
      obtain rfl : k = 32 := by omega
      have hx2 : Ext NoB w wr := x1.trans hxW (fun _ _ h => h) (fun k hk h => by omega)
      have hb2 := hxW.obj hR1 (by omega)
      have hky := mixL_ky h
      have hnum := mixL_num h hge
      have sB := hky.size
      generalize mixL A 32 = B at *
      have lB : (bys B).length = 32 := by rw [bys_length, hky.len]
      have hth := thereArr hb2 (n := (bys B).toArray.size) (by rw [List.size_toArray, lB]; decide)
      have hend := setArr hb2 B (by rw [hky.len]; rfl)
      have HK := Lib.hid (And.intro hky (And.intro hnum (And.intro hend hx2)))
      clear hky hnum hx2 hend
      go_wp2_with (first
        | ((with_reducible show wpList _ _ _ (⟨_, .load 33 _, _, _, _, _⟩ :: _) _ _); refine wpList_load_arr (by rfl) 33 _ rfl b rfl 33 _ _ _ hbk Try.underlying33 rfl (by rw [List.size_toArray]; exact sB) ?_)
        | ((with_reducible show wpList _ _ _ (⟨_, .store 33 _ _, _, _, _, _⟩ :: _) _ _); refine wpList_store_mid rfl 33 _ _ rfl (b + 1) 0 _ rfl rfl hth (by rw [List.size_toArray]; exact sB) (all_oneCell_toArray (bys_one B)) ?_))
      refine bodyPost_ret (results_cell_row rfl _ _ (b + 1) 33 _ (0, 0) _ rfl HK.out.2.2.1 Try.underlying33 rfl (by rw [List.size_toArray]; exact sB)) rfl ⟨B, HK.out.1, HK.out.2.1, rfl, HK.out.2.2.2.andCells _ _ fun h => absurd h (by omega)⟩
end Go.Proofs.Ytdibjnlmeiikmaa
