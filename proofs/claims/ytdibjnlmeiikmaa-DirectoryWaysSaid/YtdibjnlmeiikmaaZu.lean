/-
  The law DirectoryRoutes, walked.
-/
import Derived.Test.YtdibjnlmeiikmaaZt
import Derived.Test.YtdibjnlmeiikmaaZh
import Derived.Deep.RegionHeld3
import Derived.Deep.MidRow
set_option linter.unusedVariables false
set_option linter.unusedSimpArgs false
namespace Go.Proofs.Ytdibjnlmeiikmaa
open Go.RowKit Go.Proofs

theorem dr_take {b n : Nat} {W : World} {D : List Int} (hl : D.length = 12) (hn : n ≤ 10) (hb : ∀ x ∈ D, 0 ≤ x ∧ x ≤ 255) (h : W.rangeAt b 0 (bys D)) (hs : b < W.heap.size) : Dr W (some ⟨b, 2, none⟩) 10 ((D.drop 2).take n) := by
  refine ⟨fun i hi => ⟨b, 2, rfl, hs, ?_, ?_⟩, by rw [List.length_take, List.length_drop, hl]; unfold maxLen; omega⟩
  · rw [List.length_take, List.length_drop, hl] at hi
    have h1 := h (2 + i) (.int .u8 (D.getD (2 + i) 0)) (bys_at (by omega))
    rw [Nat.zero_add] at h1
    rw [h1, List.getD_eq_getElem?_getD, List.getD_eq_getElem?_getD, List.getElem?_take, if_pos (by omega), List.getElem?_drop]
  · have := hb (((D.drop 2).take n).getD i 0) (by
      rw [List.getD_eq_getElem?_getD, List.getElem?_eq_getElem hi]
      exact List.mem_of_mem_drop (List.mem_of_mem_take (List.getElem_mem hi)))
    exact this
theorem at_i {b i : Nat} {W : World} {D : List Int} (hi : i < D.length) (h : W.rangeAt b 0 (bys D)) : W.cell? ⟨b, i, none⟩ = some (.int .u8 (D.getD i 0)) := by
  have := h i _ (bys_at hi)
  rw [Nat.zero_add] at this
  exact this
theorem at_ib {i : Nat} {D : List Int} (hi : i < D.length) (hb : ∀ x ∈ D, 0 ≤ x ∧ x ≤ 255) : 0 ≤ D.getD i 0 ∧ D.getD i 0 ≤ 255 := by
  rw [List.getD_eq_getElem?_getD, List.getElem?_eq_getElem hi]
  exact hb _ (List.getElem_mem _)
theorem ansH_len (l pv : Int) (L : List Nd) (m : Cm) (D : List Int) : (ansH l pv L m D).length ≤ 5 := by
  unfold ansH
  split
  · rename_i h
    have : chk l L = 0 := by
      unfold ansE at h
      by_cases hE : chk l L = 0
      · exact hE
      · rw [if_neg hE] at h; exact h
    have := chk_lay this
    rw [List.length_map, List.length_range]; omega
  · simp
theorem Try.slice49 (w : World) (g n : Nat) (hn : n ≤ 10) (h : Int) (hh : h = 2 + (n : Int)) : Sem.run Try.prog (Instr.sliceAt 49 (.pointer (some ⟨g, 0, none⟩)) (some (.int .i64 2)) (some (.int .i64 h)) none) w = .ok (.slice (some ⟨g, 2, none⟩) n 10) w := by
  have hn1 : Try.prog.arrayLen 49 = 12 := by kernel_rfl
  have he1 : Try.prog.elem 49 = 5 := by kernel_rfl
  have ht : Try.prog.underlying 49 = some (.array 12 5) := by kernel_rfl
  have hsz : (sizeOf 5).run Try.prog w = .ok 1 w := by kernel_rfl
  rw [run_sliceAt_array_lh (P := Try.prog) w 49 ⟨g, 0, none⟩ (by rw [hn1, he1]; exact ht) .i64 .i64 2 h (by omega) (by omega) (by rw [hn1]; omega)]
  have h1 : h.toNat = 2 + n := by omega
  rw [hn1, he1, hsz, h1]
  show Result.ok (slicedAt ⟨g, 0, none⟩ 2 (2 + n) 12 1) w = _
  unfold slicedAt
  rw [if_neg (by decide), Nat.add_sub_cancel_left, add_none]
theorem neq_key {a : List Int} (ha : a.length = 32) (w : World) : (binOp .neq 33 (Arr a) (Arr a)).run Try.prog w = .ok (.bool false) w := by
  have : (Op.equal 33 (Arr a) (Arr a)).run Try.prog w = .ok true w := by
    rw [run_eql_bytes w 33 5 a a rfl (by rw [ha]; exact Try.underlying33) Try.underlying5 (by kernel_rfl)]
    simp
  unfold binOp
  simp only [Arr] at this ⊢
  simp [this]
theorem neq_cmd (a : Cm) (w : World) : (binOp .neq 48 (.agg (cc a).toArray) (.agg (cc a).toArray)).run Try.prog w = .ok (.bool false) w := by
  rw [neq_cm48, cmB_self]; rfl
def RoRel (w : World) (n : Nat) (iv : Value) (W : World) : Prop := ∃ i : Nat, i ≤ n ∧ iv = .int .i64 i ∧ Ext NoB w W
set_option maxHeartbeats 12800000 in
set_option maxRecDepth 100000 in
theorem routes_walk (l : Int) (A : Option Addr) (c : Nat) (L : List Nd) (m : Cm) (at' : List Int) (hat : at'.length = 12) (hab : ∀ x ∈ at', 0 ≤ x ∧ x ≤ 255) (w : World) (hr : NRd w A c L) (hok : ∀ n ∈ L, NdOk n) :
    Calls Try.prog 6 #[dirv l A L.length c, .agg (cc m).toArray, Arr at'] w fun e w' => e = .returned (.bool true) ∧ Ext NoB w w' := by
  have h63 : c ≤ 9223372036854775807 := by have := hr.cap.2; unfold maxLen at this; omega
  have hcap := hr.cap.1
  have s48 : (Try.prog.info? 48).map (·.size) = some (cc m).length := by rw [cc_len]; kernel_rfl
  have hb0 : ((w.alloc (.cells #[.int .i64 l, .slice A L.length c] 24)).alloc (.cells (cc m).toArray 48)).heap[w.heap.size]? = some (.cells #[.int .i64 l, .slice A L.length c] 24 (0, 0)) := (Ext.alloc NoB _ _).obj (heapNew w _) id
  have hb1 : ((w.alloc (.cells #[.int .i64 l, .slice A L.length c] 24)).alloc (.cells (cc m).toArray 48)).heap[w.heap.size + 1]? = some (.cells (cc m).toArray 48 (0, 0)) := heapNew' _ _ _ (by simp)
  have hb2 : (((w.alloc (.cells #[.int .i64 l, .slice A L.length c] 24)).alloc (.cells (cc m).toArray 48)).alloc (.cells (bys at').toArray 49)).heap[w.heap.size + 1 + 1]? = some (.cells (bys at').toArray 49 (0, 0)) := heapNew' _ _ _ (by simp)
  have x0 : Ext NoB w (((w.alloc (.cells #[.int .i64 l, .slice A L.length c] 24)).alloc (.cells (cc m).toArray 48)).alloc (.cells (bys at').toArray 49)) := ((Ext.alloc NoB w _).andAlloc _).andAlloc _
  have hb0' := (Ext.alloc NoB _ (.cells (bys at').toArray 49)).obj hb0 id
  have hb1' := (Ext.alloc NoB _ (.cells (bys at').toArray 49)).obj hb1 id
  obtain ⟨Vm, hVm⟩ : ∃ Vm, Vm = (cc m).toArray := ⟨_, rfl⟩
  obtain ⟨Va, hVa⟩ : ∃ Va, Va = (bys at').toArray := ⟨_, rfl⟩
  have HVM := Lib.hid hVm
  have HVA := Lib.hid hVa
  have HR := Lib.hid hr
  have HOK := Lib.hid hok
  unfold dirv Arr
  rw [← hVm, ← hVa] at hb0' hb1' hb2 x0 ⊢
  clear hr hok hb0 hb1 hVm hVa
  go_enter Try.func6, Try.ntmps6
  go_upto_region 1 with fail
  generalize hW0 : ((w.alloc (.cells #[.int .i64 l, .slice A L.length c] 24)).alloc (.cells Vm 48)).alloc (.cells Va 49) = W0 at *
  have hbx : ∀ W, Ext NoB W0 W → W.heap[w.heap.size]? = some (.cells #[.int .i64 l, .slice A L.length c] 24 (0, 0)) ∧ W.rangeAt (w.heap.size + 1) 0 (cc m) ∧ W.rangeAt (w.heap.size + 1 + 1) 0 (bys at') := fun W hW =>
    ⟨hW.obj hb0' id, nd_box (by rw [← HVM.out]; exact hW.obj hb1' id), nd_box (by rw [← HVA.out]; exact hW.obj hb2 id)⟩
  have hcl : ∀ W, Ext NoB W0 W → W.cell? ⟨w.heap.size, 0, none⟩ = some (.int .i64 l) ∧ W.cell? ⟨w.heap.size, 1, none⟩ = some (.slice A L.length c) := fun W hW => by
    have := (hbx W hW).1
    exact ⟨by rw [cellOf this]; rfl, by rw [cellOf this]; rfl⟩
  have HCL := Lib.hid hcl
  have HBX := Lib.hid hbx
  have hsz : w.heap.size + 1 + 1 < W0.heap.size := blk_lt' hb2
  clear hb0' hb1' hb2 hcl hbx hW0
  go_upto_region 3 with (go_at_call 9; (with_reducible refine (alive9 _).mono ?_); rintro e W1 ⟨rfl, x1⟩)
  obtain ⟨d0, d1⟩ := HCL.out W1 x1
  by_cases hm : L.length ≤ 100
  · have hm1 : ¬ 100 < (L.length : Int) := by omega
    go_upto_region 5 with fail
    obtain ⟨_, hr1, hr2⟩ := HBX.out W1 x1
    obtain ⟨a0, ha0⟩ : ∃ a0, a0 = at'.getD 0 0 := ⟨_, rfl⟩
    obtain ⟨a1, ha1⟩ : ∃ a1, a1 = at'.getD 1 0 := ⟨_, rfl⟩
    have c0 : W1.cell? ⟨w.heap.size + 1 + 1, 0, none⟩ = some (.int .u8 a0) := by rw [ha0]; exact at_i (by omega) hr2
    have c1 : W1.cell? ⟨w.heap.size + 1 + 1, 1, none⟩ = some (.int .u8 a1) := by rw [ha1]; exact at_i (by omega) hr2
    have b0 : 0 ≤ a0 ∧ a0 ≤ 255 := by rw [ha0]; exact at_ib (by omega) hab
    have b1 : 0 ≤ a1 ∧ a1 ≤ 255 := by rw [ha1]; exact at_ib (by omega) hab
    clear ha0 ha1 hr1 hr2
    have w0 := IntWalk.i64_in a0 (by omega)
    have w1 := IntWalk.i64_in (a0 - 2) (by omega)
    obtain ⟨na, hna⟩ : ∃ na, a1.tmod 12 = na := ⟨_, rfl⟩
    have hna1 : a1 % 12 = na := by rw [← hna, Int.tmod_eq_emod_of_nonneg b1.1]
    have bna : 0 ≤ na ∧ na < 12 := by omega
    have w2 : IntKind.u8.wrap na = na := by unfold IntKind.wrap; simp [IntKind.signed, IntKind.bits]; omega
    have w3 := IntWalk.i64_in na (by omega)
    obtain ⟨nn, hnn⟩ : ∃ nn : Nat, min na 10 = (nn : Int) := ⟨(min na 10).toNat, by omega⟩
    have hnn10 : nn ≤ 10 := by omega
    have hsl := fun W => Try.slice49 W (w.heap.size + 1 + 1) nn hnn10 (2 + (nn : Int)) rfl
    go_region
    go_upto_region 7 with fail
    clear hsl c0 c1 w0 hna hna1 w2 w3 d0 d1
    obtain ⟨D, hD⟩ : ∃ D, D = (at'.drop 2).take nn := ⟨_, rfl⟩
    have hDl : D.length = nn := by rw [hD, List.length_take, List.length_drop, hat]; omega
    have hdr : ∀ W, Ext NoB W0 W → Dr W (some ⟨w.heap.size + 1 + 1, 2, none⟩) 10 D := fun W hW => by
      rw [hD]; exact dr_take hat hnn10 hab (HBX.out W hW).2.2 (Nat.lt_of_lt_of_le hsz hW.size)
    have HTH := Lib.hid fun W (hW : Ext NoB W0 W) => theirs11 l A c L W (HR.out.ext (x0.then hW) (fun _ _ _ h => h)) (by omega)
    have HTC := Lib.hid (theirs13 m)
    obtain ⟨pv, hpv⟩ : ∃ pv, pv = a0 - 2 := ⟨_, rfl⟩
    rw [← hpv] at w1 ⊢
    have hrt := fun W2 W A' c' (hn : NR W2 (.slice A' L.length c') L) (y : Ext NoB W2 W) (hW : Ext NoB W0 W) => route12 l pv A' (some ⟨w.heap.size + 1 + 1, 2, none⟩) c' 10 L D m W ((NR.rd hn).ext y (fun _ _ _ h => h)) HOK.out (by omega) (hdr W hW)
    have hrr := fun W (hW : Ext NoB W0 W) => refRoute17 l pv A (some ⟨w.heap.size + 1 + 1, 2, none⟩) c 10 L D m W (HR.out.ext (x0.then hW) (fun _ _ _ h => h)) HOK.out (by omega) (hdr W hW) (by omega)
    have hH5 := ansH_len l pv L m D
    generalize ansE l pv L m D.length = aE at *
    generalize ansF l pv L m D = aF at *
    generalize ansH l pv L m D = H at *
    rw [hDl] at hrt hrr
    unfold dirv at HTH hrt hrr
    have HRT := Lib.hid hrt
    have HRR := Lib.hid hrr
    clear hdr hrt hrr hpv hD hDl hnn bna b0 b1
    have x22 := x1.andDrew.andDrew
    have y22 := Ext.refl NoB W1.drew.drew
    have HSS : Hid (∀ W, Ext NoB W0 W → (W.cell? ⟨w.heap.size, 0, none⟩ = some (.int .i64 l) ∧ W.cell? ⟨w.heap.size, 1, none⟩ = some (.slice A L.length c)) ∧ W.rangeAt (w.heap.size + 1) 0 (cc m)) := Lib.hid fun W hW => ⟨HCL.out _ hW, (HBX.out _ hW).2.1⟩
    refine wp_region_held_drew (S := fun W => (W.cell? ⟨w.heap.size, 0, none⟩ = some (.int .i64 l) ∧ W.cell? ⟨w.heap.size, 1, none⟩ = some (.slice A L.length c)) ∧ W.rangeAt (w.heap.size + 1) 0 (cc m)) (by kernel_rfl) (HSS.out _ x22) (fun hHeld => ?_)
    refine wpAnyH_take (i := 0) (oi := ⟨some 36, _, _, _, _, _⟩) (v := .agg #[.int .i64 l, .slice A L.length c]) rfl (by kernel_rfl) (by kernel_rfl) (by kernel_rfl) (fun _ _ _ h => h) (Or.inl ⟨by rfl, fun w hSw => by (obtain ⟨⟨s0, s1⟩, s2⟩ := hSw; go_simp)⟩) (by assumption) ?_
    try simp only [Act.put, List.setIfInBounds_toArray, List.set_cons_zero, List.set_cons_succ]
    refine wpAnyH_take (i := 2) (oi := ⟨some 38, _, _, _, _, _⟩) (v := .int .i64 pv) rfl (by kernel_rfl) (by kernel_rfl) (by kernel_rfl) (fun _ _ _ h => h) (Or.inl ⟨by rfl, fun w hSw => by (obtain ⟨⟨s0, s1⟩, s2⟩ := hSw; go_simp)⟩) (by assumption) ?_
    try simp only [Act.put, List.setIfInBounds_toArray, List.set_cons_zero, List.set_cons_succ]
    refine' wpAnyH_take (i := 3) (oi := ⟨some 39, _, _, _, _, _⟩) (v := _) rfl (by kernel_rfl) (by kernel_rfl) (by kernel_rfl) (fun _ _ _ h => h) (yieldsIf_load_mid (by rfl) 48 _ (by rfl) (w.heap.size + 1) (0) (by rfl) (cc m) _ (fun w h => h.2) Try.underlying48 (by rfl) s48) (by assumption) ?_
    try simp only [Act.put, List.setIfInBounds_toArray, List.set_cons_zero, List.set_cons_succ]
    refine wpAnyH_take (i := 5) (oi := ⟨some 41, _, _, _, _, _⟩) (v := .slice (some ⟨w.heap.size + 1 + 1, 2, none⟩) nn 10) rfl (by kernel_rfl) (by kernel_rfl) (by kernel_rfl) (fun _ _ _ h => h) (Or.inl ⟨by rfl, fun w hSw => by (obtain ⟨⟨s0, s1⟩, s2⟩ := hSw; go_simp)⟩) (by assumption) ?_
    try simp only [Act.put, List.setIfInBounds_toArray, List.set_cons_zero, List.set_cons_succ]
    refine wpAnyH_ready (rs := [1]) (by kernel_rfl) (by simp) (AllReadyH.cons (by rfl) (fun K hK => ?_) AllReadyH.nil)
    go_simp
    refine (HTH.out _ x22).mono ?_
    rintro e W2 ⟨A', c', rfl, hn, y, _⟩
    have HN := Lib.hid hn
    clear hn
    have x22 := x22.then y
    have y22 := Ext.refl NoB W2
    go_simp
    refine hK.out _ _ (HSS.out _ x22) (fun hHeld => ?_)
    clear hK K
    try simp only [Act.put, List.setIfInBounds_toArray, List.set_cons_zero, List.set_cons_succ]
    refine wpAnyH_ready (rs := [4]) (by kernel_rfl) (by simp) (AllReadyH.cons (by rfl) (fun K hK => ?_) AllReadyH.nil)
    go_simp
    refine (HTC.out _).mono ?_
    rintro e W3 ⟨rfl, y⟩
    have x22 := x22.then y
    have y22 := y22.then y
    go_simp
    refine hK.out _ _ (HSS.out _ x22) (fun hHeld => ?_)
    clear hK K
    try simp only [Act.put, List.setIfInBounds_toArray, List.set_cons_zero, List.set_cons_succ]
    refine wpAnyH_ready (rs := [6]) (by kernel_rfl) (by simp) (AllReadyH.cons (by rfl) (fun K hK => ?_) AllReadyH.nil)
    go_simp
    refine (HRT.out _ _ _ _ HN.out y22 x22).mono ?_
    rintro e W8 ⟨A8, c8, rfl, hh, y⟩
    have HH8 := Lib.hid hh
    clear hh
    have x22 := x22.then y
    go_simp
    refine hK.out _ _ (HSS.out _ x22) (fun hHeld => ?_)
    clear hK K
    try simp only [Act.put, List.setIfInBounds_toArray, List.set_cons_zero, List.set_cons_succ]
    refine wpAnyH_take (i := 7) (oi := ⟨some 35, _, _, _, _, _⟩) (v := .tuple #[.int .i64 aF, .slice A8 H.length c8, .int .i64 aE]) rfl (by kernel_rfl) (by kernel_rfl) (by kernel_rfl) (fun _ _ _ h => h) (Or.inl ⟨by rfl, fun w hSw => by (obtain ⟨⟨s0, s1⟩, s2⟩ := hSw; go_simp)⟩) (by assumption) ?_
    try simp only [Act.put, List.setIfInBounds_toArray, List.set_cons_zero, List.set_cons_succ]
    refine wpAnyH_take (i := 8) (oi := ⟨some 43, _, _, _, _, _⟩) (v := .int .i64 aF) rfl (by kernel_rfl) (by kernel_rfl) (by kernel_rfl) (fun _ _ _ h => h) (Or.inl ⟨by rfl, fun w hSw => by (obtain ⟨⟨s0, s1⟩, s2⟩ := hSw; go_simp)⟩) (by assumption) ?_
    try simp only [Act.put, List.setIfInBounds_toArray, List.set_cons_zero, List.set_cons_succ]
    refine wpAnyH_take (i := 9) (oi := ⟨some 44, _, _, _, _, _⟩) (v := .slice A8 H.length c8) rfl (by kernel_rfl) (by kernel_rfl) (by kernel_rfl) (fun _ _ _ h => h) (Or.inl ⟨by rfl, fun w hSw => by (obtain ⟨⟨s0, s1⟩, s2⟩ := hSw; go_simp)⟩) (by assumption) ?_
    try simp only [Act.put, List.setIfInBounds_toArray, List.set_cons_zero, List.set_cons_succ]
    refine wpAnyH_take (i := 10) (oi := ⟨some 45, _, _, _, _, _⟩) (v := .int .i64 aE) rfl (by kernel_rfl) (by kernel_rfl) (by kernel_rfl) (fun _ _ _ h => h) (Or.inl ⟨by rfl, fun w hSw => by (obtain ⟨⟨s0, s1⟩, s2⟩ := hSw; go_simp)⟩) (by assumption) ?_
    try simp only [Act.put, List.setIfInBounds_toArray, List.set_cons_zero, List.set_cons_succ]
    refine wpAnyH_take (i := 11) (oi := ⟨some 10, _, _, _, _, _⟩) (v := .int .i64 aF) rfl (by kernel_rfl) (by kernel_rfl) (by kernel_rfl) (fun _ _ _ h => h) (Or.inl ⟨by rfl, fun w hSw => by (obtain ⟨⟨s0, s1⟩, s2⟩ := hSw; go_simp)⟩) (by assumption) ?_
    try simp only [Act.put, List.setIfInBounds_toArray, List.set_cons_zero, List.set_cons_succ]
    refine wpAnyH_take (i := 12) (oi := ⟨some 11, _, _, _, _, _⟩) (v := .slice A8 H.length c8) rfl (by kernel_rfl) (by kernel_rfl) (by kernel_rfl) (fun _ _ _ h => h) (Or.inl ⟨by rfl, fun w hSw => by (obtain ⟨⟨s0, s1⟩, s2⟩ := hSw; go_simp)⟩) (by assumption) ?_
    try simp only [Act.put, List.setIfInBounds_toArray, List.set_cons_zero, List.set_cons_succ]
    refine wpAnyH_take (i := 13) (oi := ⟨some 12, _, _, _, _, _⟩) (v := .int .i64 aE) rfl (by kernel_rfl) (by kernel_rfl) (by kernel_rfl) (fun _ _ _ h => h) (Or.inl ⟨by rfl, fun w hSw => by (obtain ⟨⟨s0, s1⟩, s2⟩ := hSw; go_simp)⟩) (by assumption) ?_
    try simp only [Act.put, List.setIfInBounds_toArray, List.set_cons_zero, List.set_cons_succ]
    refine wpAnyH_done (by kernel_rfl) ?_ _
    clear hHeld HSS y22
    have s481 := s48
    obtain ⟨e0, e1⟩ := HCL.out _ x22
    have r1 := (HBX.out _ x22).2.1
    go_upto_region 12 with (first
      | ((with_reducible show wpList _ _ _ (⟨_, .load 48 _, _, _, _, _⟩ :: _) _ _); refine wpList_load_arrm (by rfl) 48 _ rfl (w.heap.size + 1) 0 rfl (cc m) _ r1 Try.underlying48 rfl s48 ?_)
      | (go_at_call 17; (with_reducible refine (HRR.out _ x22).mono ?_); rintro e W9 ⟨A9, c9, rfl, hh9, y9⟩; have HH9 := Lib.hid hh9; clear hh9))
    have h88 := QRow.ext HH8.out y9 (fun _ _ h => h)
    have hd8 := GR.rd hc_len (by decide) h88
    have hd9 := GR.rd (e := 60) hc_len (by decide) HH9.out
    have hc8 : H.length ≤ c8 ∧ c8 ≤ 9223372036854775807 := by have := hd8.cap; unfold maxLen at this; omega
    have hc9 : H.length ≤ c9 ∧ c9 ≤ 9223372036854775807 := by have := hd9.cap; unfold maxLen at this; omega
    have HD8 := Lib.hid hd8
    have HD9 := Lib.hid hd9
    have HXX := Lib.hid (x0.then (x22.then y9))
    clear h88 hd8 hd9 HH8 HH9 y9 HRR HRT HTH HTC e0 e1 r1
    go_loopw [72] (fun iv W => RoRel W9 H.length iv W) (fun iv _ => H.length - (intOf iv).toNat)
    case atStart => exact ⟨0, by omega, rfl, Ext.refl _ _⟩
    case round =>
      obtain ⟨i, hi, rfl, hx⟩ := hrel
      by_cases hlt : i < H.length
      · have k2 : (i : Int) < (H.length : Int) := by omega
        obtain ⟨b1, o1, rfl, _, hr1⟩ := (HD8.out.ext hx (fun _ _ _ h => h)).at' i hlt
        obtain ⟨b2, o2, rfl, _, hr2⟩ := (HD9.out.ext hx (fun _ _ _ h => h)).at' i hlt
        generalize H[i] = hp at *
        have sK : (Try.prog.info? 33).map (·.size) = some (bys hp.key).length := by rw [bys_length, hp.len]; exact Try.size33
        have s43 := sizeCm hp.cmd
        have s48' : (Try.prog.info? 48).map (·.size) = some (cc hp.cmd).length := by rw [cc_len]; kernel_rfl
        have heq := neq_key hp.len
        have heq2 := neq_cmd hp.cmd
        have HOU := Lib.hid (ours18 hp.cmd)
        go_upto_region 14 with fail
        refine wp_region_held_drew (S := fun W => W.rangeAt b1 (o1 + i * 43) (hc hp) ∧ W.rangeAt b2 (o2 + i * 43) (hc hp)) (by kernel_rfl) ⟨hr1, hr2⟩ (fun hHeld => ?_)
        refine wpAnyH_take (i := 0) (oi := ⟨some 75, _, _, _, _, _⟩) (v := .slice (some ⟨b1, o1, none⟩) H.length c8) rfl (by kernel_rfl) (by kernel_rfl) (by kernel_rfl) (fun _ _ _ h => h) (Or.inl ⟨by rfl, fun w hSw => by (obtain ⟨s0, s1⟩ := hSw; go_simp)⟩) (by assumption) ?_
        try simp only [Act.put, List.setIfInBounds_toArray, List.set_cons_zero, List.set_cons_succ]
        refine wpAnyH_take (i := 1) (oi := ⟨some 76, _, _, _, _, _⟩) (v := .int .i64 i) rfl (by kernel_rfl) (by kernel_rfl) (by kernel_rfl) (fun _ _ _ h => h) (Or.inl ⟨by rfl, fun w hSw => by (obtain ⟨s0, s1⟩ := hSw; go_simp)⟩) (by assumption) ?_
        try simp only [Act.put, List.setIfInBounds_toArray, List.set_cons_zero, List.set_cons_succ]
        refine wpAnyH_take (i := 2) (oi := ⟨some 77, _, _, _, _, _⟩) (v := .pointer (some ⟨b1, o1 + i * 43, none⟩)) rfl (by kernel_rfl) (by kernel_rfl) (by kernel_rfl) (fun _ _ _ h => h) (Or.inl ⟨by rfl, fun w hSw => by (obtain ⟨s0, s1⟩ := hSw; go_simp)⟩) (by assumption) ?_
        try simp only [Act.put, List.setIfInBounds_toArray, List.set_cons_zero, List.set_cons_succ]
        refine wpAnyH_take (i := 3) (oi := ⟨some 78, _, _, _, _, _⟩) (v := .pointer (some ⟨b1, o1 + i * 43, none⟩)) rfl (by kernel_rfl) (by kernel_rfl) (by kernel_rfl) (fun _ _ _ h => h) (Or.inl ⟨by rfl, fun w hSw => by (obtain ⟨s0, s1⟩ := hSw; go_simp)⟩) (by assumption) ?_
        try simp only [Act.put, List.setIfInBounds_toArray, List.set_cons_zero, List.set_cons_succ]
        refine' wpAnyH_take (i := 4) (oi := ⟨some 79, _, _, _, _, _⟩) (v := _) rfl (by kernel_rfl) (by kernel_rfl) (by kernel_rfl) (fun _ _ _ h => h) (yieldsIf_load_mid (by rfl) 33 _ (by rfl) (b1) (o1 + i * 43) (by rfl) (bys hp.key) _ (fun w h => hp_key h.1) Try.underlying33 (by rfl) sK) (by assumption) ?_
        try simp only [Act.put, List.setIfInBounds_toArray, List.set_cons_zero, List.set_cons_succ]
        refine wpAnyH_take (i := 5) (oi := ⟨some 80, _, _, _, _, _⟩) (v := .slice (some ⟨b2, o2, none⟩) H.length c9) rfl (by kernel_rfl) (by kernel_rfl) (by kernel_rfl) (fun _ _ _ h => h) (Or.inl ⟨by rfl, fun w hSw => by (obtain ⟨s0, s1⟩ := hSw; go_simp)⟩) (by assumption) ?_
        try simp only [Act.put, List.setIfInBounds_toArray, List.set_cons_zero, List.set_cons_succ]
        refine wpAnyH_take (i := 6) (oi := ⟨some 81, _, _, _, _, _⟩) (v := .int .i64 i) rfl (by kernel_rfl) (by kernel_rfl) (by kernel_rfl) (fun _ _ _ h => h) (Or.inl ⟨by rfl, fun w hSw => by (obtain ⟨s0, s1⟩ := hSw; go_simp)⟩) (by assumption) ?_
        try simp only [Act.put, List.setIfInBounds_toArray, List.set_cons_zero, List.set_cons_succ]
        refine wpAnyH_take (i := 7) (oi := ⟨some 82, _, _, _, _, _⟩) (v := .pointer (some ⟨b2, o2 + i * 43, none⟩)) rfl (by kernel_rfl) (by kernel_rfl) (by kernel_rfl) (fun _ _ _ h => h) (Or.inl ⟨by rfl, fun w hSw => by (obtain ⟨s0, s1⟩ := hSw; go_simp)⟩) (by assumption) ?_
        try simp only [Act.put, List.setIfInBounds_toArray, List.set_cons_zero, List.set_cons_succ]
        refine wpAnyH_take (i := 8) (oi := ⟨some 83, _, _, _, _, _⟩) (v := .pointer (some ⟨b2, o2 + i * 43, none⟩)) rfl (by kernel_rfl) (by kernel_rfl) (by kernel_rfl) (fun _ _ _ h => h) (Or.inl ⟨by rfl, fun w hSw => by (obtain ⟨s0, s1⟩ := hSw; go_simp)⟩) (by assumption) ?_
        try simp only [Act.put, List.setIfInBounds_toArray, List.set_cons_zero, List.set_cons_succ]
        refine' wpAnyH_take (i := 9) (oi := ⟨some 84, _, _, _, _, _⟩) (v := _) rfl (by kernel_rfl) (by kernel_rfl) (by kernel_rfl) (fun _ _ _ h => h) (yieldsIf_load_mid (by rfl) 33 _ (by rfl) (b2) (o2 + i * 43) (by rfl) (bys hp.key) _ (fun w h => hp_key h.2) Try.underlying33 (by rfl) sK) (by assumption) ?_
        try simp only [Act.put, List.setIfInBounds_toArray, List.set_cons_zero, List.set_cons_succ]
        refine wpAnyH_take (i := 10) (oi := ⟨some 85, _, _, _, _, _⟩) (v := .bool false) rfl (by kernel_rfl) (by kernel_rfl) (by kernel_rfl) (fun _ _ _ h => h) (Or.inl ⟨by rfl, fun w hSw => by (obtain ⟨s0, s1⟩ := hSw; go_simp)⟩) (by assumption) ?_
        try simp only [Act.put, List.setIfInBounds_toArray, List.set_cons_zero, List.set_cons_succ]
        refine wpAnyH_take (i := 11) (oi := ⟨some 86, _, _, _, _, _⟩) (v := .bool false) rfl (by kernel_rfl) (by kernel_rfl) (by kernel_rfl) (fun _ _ _ h => h) (Or.inl ⟨by rfl, fun w hSw => by (obtain ⟨s0, s1⟩ := hSw; go_simp)⟩) (by assumption) ?_
        try simp only [Act.put, List.setIfInBounds_toArray, List.set_cons_zero, List.set_cons_succ]
        refine wpAnyH_take (i := 12) (oi := ⟨some 87, _, _, _, _, _⟩) (v := .slice (some ⟨b1, o1, none⟩) H.length c8) rfl (by kernel_rfl) (by kernel_rfl) (by kernel_rfl) (fun _ _ _ h => h) (Or.inl ⟨by rfl, fun w hSw => by (obtain ⟨s0, s1⟩ := hSw; go_simp)⟩) (by assumption) ?_
        try simp only [Act.put, List.setIfInBounds_toArray, List.set_cons_zero, List.set_cons_succ]
        refine wpAnyH_take (i := 13) (oi := ⟨some 88, _, _, _, _, _⟩) (v := .int .i64 i) rfl (by kernel_rfl) (by kernel_rfl) (by kernel_rfl) (fun _ _ _ h => h) (Or.inl ⟨by rfl, fun w hSw => by (obtain ⟨s0, s1⟩ := hSw; go_simp)⟩) (by assumption) ?_
        try simp only [Act.put, List.setIfInBounds_toArray, List.set_cons_zero, List.set_cons_succ]
        refine wpAnyH_take (i := 14) (oi := ⟨some 89, _, _, _, _, _⟩) (v := .pointer (some ⟨b1, o1 + i * 43, none⟩)) rfl (by kernel_rfl) (by kernel_rfl) (by kernel_rfl) (fun _ _ _ h => h) (Or.inl ⟨by rfl, fun w hSw => by (obtain ⟨s0, s1⟩ := hSw; go_simp)⟩) (by assumption) ?_
        try simp only [Act.put, List.setIfInBounds_toArray, List.set_cons_zero, List.set_cons_succ]
        refine wpAnyH_take (i := 15) (oi := ⟨some 90, _, _, _, _, _⟩) (v := .pointer (some ⟨b1, o1 + i * 43 + 32, none⟩)) rfl (by kernel_rfl) (by kernel_rfl) (by kernel_rfl) (fun _ _ _ h => h) (Or.inl ⟨by rfl, fun w hSw => by (obtain ⟨s0, s1⟩ := hSw; go_simp)⟩) (by assumption) ?_
        try simp only [Act.put, List.setIfInBounds_toArray, List.set_cons_zero, List.set_cons_succ]
        refine' wpAnyH_take (i := 16) (oi := ⟨some 91, _, _, _, _, _⟩) (v := _) rfl (by kernel_rfl) (by kernel_rfl) (by kernel_rfl) (fun _ _ _ h => h) (yieldsIf_load_mid (by rfl) 43 _ (by rfl) (b1) (o1 + i * 43 + 32) (by rfl) (cc hp.cmd) _ (fun w h => hp_cmd h.1) Try.underlying43 (by rfl) s43) (by assumption) ?_
        try simp only [Act.put, List.setIfInBounds_toArray, List.set_cons_zero, List.set_cons_succ]
        refine wpAnyH_take (i := 18) (oi := ⟨some 93, _, _, _, _, _⟩) (v := .slice (some ⟨b2, o2, none⟩) H.length c9) rfl (by kernel_rfl) (by kernel_rfl) (by kernel_rfl) (fun _ _ _ h => h) (Or.inl ⟨by rfl, fun w hSw => by (obtain ⟨s0, s1⟩ := hSw; go_simp)⟩) (by assumption) ?_
        try simp only [Act.put, List.setIfInBounds_toArray, List.set_cons_zero, List.set_cons_succ]
        refine wpAnyH_take (i := 19) (oi := ⟨some 94, _, _, _, _, _⟩) (v := .int .i64 i) rfl (by kernel_rfl) (by kernel_rfl) (by kernel_rfl) (fun _ _ _ h => h) (Or.inl ⟨by rfl, fun w hSw => by (obtain ⟨s0, s1⟩ := hSw; go_simp)⟩) (by assumption) ?_
        try simp only [Act.put, List.setIfInBounds_toArray, List.set_cons_zero, List.set_cons_succ]
        refine wpAnyH_take (i := 20) (oi := ⟨some 95, _, _, _, _, _⟩) (v := .pointer (some ⟨b2, o2 + i * 43, none⟩)) rfl (by kernel_rfl) (by kernel_rfl) (by kernel_rfl) (fun _ _ _ h => h) (Or.inl ⟨by rfl, fun w hSw => by (obtain ⟨s0, s1⟩ := hSw; go_simp)⟩) (by assumption) ?_
        try simp only [Act.put, List.setIfInBounds_toArray, List.set_cons_zero, List.set_cons_succ]
        refine wpAnyH_take (i := 21) (oi := ⟨some 96, _, _, _, _, _⟩) (v := .pointer (some ⟨b2, o2 + i * 43 + 32, none⟩)) rfl (by kernel_rfl) (by kernel_rfl) (by kernel_rfl) (fun _ _ _ h => h) (Or.inl ⟨by rfl, fun w hSw => by (obtain ⟨s0, s1⟩ := hSw; go_simp)⟩) (by assumption) ?_
        try simp only [Act.put, List.setIfInBounds_toArray, List.set_cons_zero, List.set_cons_succ]
        refine' wpAnyH_take (i := 22) (oi := ⟨some 97, _, _, _, _, _⟩) (v := _) rfl (by kernel_rfl) (by kernel_rfl) (by kernel_rfl) (fun _ _ _ h => h) (yieldsIf_load_mid (by rfl) 48 _ (by rfl) (b2) (o2 + i * 43 + 32) (by rfl) (cc hp.cmd) _ (fun w h => hp_cmd h.2) Try.underlying48 (by rfl) s48') (by assumption) ?_
        try simp only [Act.put, List.setIfInBounds_toArray, List.set_cons_zero, List.set_cons_succ]
        refine wpAnyH_ready (rs := [17]) (by kernel_rfl) (by simp) (AllReadyH.cons (by rfl) (fun K hK => ?_) AllReadyH.nil)
        go_simp
        refine (HOU.out _).mono ?_
        rintro e W10 ⟨rfl, y⟩
        go_simp
        refine hK.out _ _ ⟨y.range hHeld.1 id, y.range hHeld.2 id⟩ (fun hHeld => ?_)
        clear hK K
        try simp only [Act.put, List.setIfInBounds_toArray, List.set_cons_zero, List.set_cons_succ]
        refine wpAnyH_take (i := 23) (oi := ⟨some 98, _, _, _, _, _⟩) (v := .bool false) rfl (by kernel_rfl) (by kernel_rfl) (by kernel_rfl) (fun _ _ _ h => h) (Or.inl ⟨by rfl, fun w hSw => by (obtain ⟨s0, s1⟩ := hSw; go_simp)⟩) (by assumption) ?_
        try simp only [Act.put, List.setIfInBounds_toArray, List.set_cons_zero, List.set_cons_succ]
        refine wpAnyH_take (i := 24) (oi := ⟨some 99, _, _, _, _, _⟩) (v := .bool false) rfl (by kernel_rfl) (by kernel_rfl) (by kernel_rfl) (fun _ _ _ h => h) (Or.inl ⟨by rfl, fun w hSw => by (obtain ⟨s0, s1⟩ := hSw; go_simp)⟩) (by assumption) ?_
        try simp only [Act.put, List.setIfInBounds_toArray, List.set_cons_zero, List.set_cons_succ]
        refine wpAnyH_done (by kernel_rfl) ?_ _
        have hEND : RoRel W9 H.length (.int .i64 ((i + 1 : Nat) : Int)) W10 := ⟨i + 1, by omega, rfl, (hx.andDrew).then y⟩
        have HEND := Lib.hid hEND
        clear hEND hHeld heq heq2 hr1 hr2
        go_wp2_with fail
        exact ⟨by simpa using HEND.out, by simp [intOf]; omega⟩
      · have k2 : ¬ (i : Int) < (H.length : Int) := by omega
        have HDE := Lib.hid (delay19 A8 c8 H wr (HD8.out.ext hx (fun _ _ _ h => h)) (by omega))
        have HRE := Lib.hid fun W (hW : Ext NoB wr W) => refDelay20 A9 c9 H W ((HD9.out.ext hx (fun _ _ _ h => h)).ext hW (fun _ _ _ h => h)) (by omega)
        generalize dly H 0 = dd at *
        go_wp2_with (first
          | (go_at_call 19; (with_reducible refine (HDE.out).mono ?_); rintro e W10 ⟨rfl, y10⟩)
          | (go_at_call 20; (with_reducible refine (HRE.out _ y10).mono ?_); rintro e W11 ⟨rfl, y11⟩))
        go_ret
        exact ⟨by simp, ((HXX.out.then hx).then y10).then y11⟩
  · have hm1 : 100 < (L.length : Int) := by omega
    go_wp2_with fail
    go_ret
    exact ⟨rfl, x0.then x1⟩
end Go.Proofs.Ytdibjnlmeiikmaa
