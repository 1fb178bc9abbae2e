/-
  The law DirectoryWays, walked.
-/
import Derived.Test.YtdibjnlmeiikmaaZv
import Derived.Deep.RegionHeld3
import Derived.Deep.MidRow
set_option linter.unusedVariables false
set_option linter.unusedSimpArgs false
namespace Go.Proofs.Ytdibjnlmeiikmaa
open Go.RowKit Go.Proofs

/-- Between two rounds of the law's loop: i hops are gone through, and the next one is N i's. -/
def WaRel (w : World) (H : List Hp) (N : Nat → Nd) (ov nv iv : Value) (W : World) : Prop :=
  ∃ (i : Nat) (A' : Option Addr) (c' : Nat) (nx : Int), i ≤ H.length ∧ iv = .int .i64 i ∧ nv = .int .i64 nx ∧ (i < H.length → nx = (N i).id) ∧ ov = .slice A' i c' ∧ QRow W 60 43 (.slice A' i c') i (flatG hc (H.take i)) ∧ Ext NoB w W ∧ ∀ g, (Value.slice A' 0 0).ownBlock = some g → w.heap.size ≤ g
def WbRel (w : World) (n j : Nat) (fv tv : Value) (W : World) : Prop := ∃ (t : Nat) (f : Bool), t ≤ n ∧ tv = .int .i64 t ∧ fv = .bool f ∧ (j < t → f = true) ∧ Ext NoB w W
set_option maxHeartbeats 12800000 in
set_option maxRecDepth 100000 in
theorem ways_walk (l : Int) (A : Option Addr) (c : Nat) (L : List Nd) (m : Cm) (at' : List Int) (hat : at'.length = 12) (hab : ∀ x ∈ at', 0 ≤ x ∧ x ≤ 255) (w : World) (hr : NRd w A c L) (hok : ∀ n ∈ L, NdOk n) :
    Calls Try.prog 8 #[dirv l A L.length c, .agg (cc m).toArray, Arr at'] w fun e w' => e = .returned (.bool true) ∧ Ext NoB w w' := by
  have h63 : c ≤ 9223372036854775807 := by have := hr.cap.2; unfold maxLen at this; omega
  have hcap := hr.cap.1
  have s48 : (Try.prog.info? 48).map (·.size) = some (cc m).length := by rw [cc_len]; kernel_rfl
  have hb0 : ((w.alloc (.cells #[.int .i64 l, .slice A L.length c] 24)).alloc (.cells (cc m).toArray 48)).heap[w.heap.size]? = some (.cells #[.int .i64 l, .slice A L.length c] 24 (0, 0)) := (Ext.alloc NoB _ _).obj (heapNew w _) id
  have hb1 : ((w.alloc (.cells #[.int .i64 l, .slice A L.length c] 24)).alloc (.cells (cc m).toArray 48)).heap[w.heap.size + 1]? = some (.cells (cc m).toArray 48 (0, 0)) := heapNew' _ _ _ (by simp)
  have hb2 : (((w.alloc (.cells #[.int .i64 l, .slice A L.length c] 24)).alloc (.cells (cc m).toArray 48)).alloc (.cells (bys at').toArray 49)).heap[w.heap.size + 1 + 1]? = some (.cells (bys at').toArray 49 (0, 0)) := heapNew' _ _ _ (by simp)
  have x0 : Ext NoB w (((w.alloc (.cells #[.int .i64 l, .slice A L.length c] 24)).alloc (.cells (cc m).toArray 48)).alloc (.cells (bys at').toArray 49)) := ((Ext.alloc NoB w _).andAlloc _).andAlloc _
  have hb0' := (Ext.alloc NoB _ (.cells (bys at').toArray 49)).obj hb0 id
  have hb1' := (Ext.alloc NoB _ (.cells (bys at').toArray 49)).obj hb1 id
  obtain ⟨Vm, hVm⟩ : ∃ Vm, Vm = (cc m).toArray := ⟨_, rfl⟩
  obtain ⟨Va, hVa⟩ : ∃ Va, Va = (bys at').toArray := ⟨_, rfl⟩
  have HVM := Lib.hid hVm
  have HVA := Lib.hid hVa
  have HRD := Lib.hid hr
  have HOK := Lib.hid hok
  unfold dirv Arr
  rw [← hVm, ← hVa] at hb0' hb1' hb2 x0 ⊢
  clear hr hok hb0 hb1 hVm hVa
  go_enter Try.func8, Try.ntmps8
  go_upto_region 1 with fail
  generalize hW0 : ((w.alloc (.cells #[.int .i64 l, .slice A L.length c] 24)).alloc (.cells Vm 48)).alloc (.cells Va 49) = W0 at *
  have hbx : ∀ W, Ext NoB W0 W → W.heap[w.heap.size]? = some (.cells #[.int .i64 l, .slice A L.length c] 24 (0, 0)) ∧ W.rangeAt (w.heap.size + 1) 0 (cc m) ∧ W.rangeAt (w.heap.size + 1 + 1) 0 (bys at') := fun W hW =>
    ⟨hW.obj hb0' id, nd_box (by rw [← HVM.out]; exact hW.obj hb1' id), nd_box (by rw [← HVA.out]; exact hW.obj hb2 id)⟩
  have hcl : ∀ W, Ext NoB W0 W → W.cell? ⟨w.heap.size, 0, none⟩ = some (.int .i64 l) ∧ W.cell? ⟨w.heap.size, 1, none⟩ = some (.slice A L.length c) := fun W hW => by
    have := (hbx W hW).1
    exact ⟨by rw [cellOf this]; rfl, by rw [cellOf this]; rfl⟩
  have HCL := Lib.hid hcl
  have HBX := Lib.hid hbx
  have hsz : w.heap.size + 1 + 1 < W0.heap.size := blk_lt' hb2
  clear hb0' hb1' hb2 hcl hbx hW0
  go_upto_region 3 with (go_at_call 9; (with_reducible refine (alive9 _).mono ?_); rintro e W1 ⟨rfl, x1⟩)
  obtain ⟨d0, d1⟩ := HCL.out W1 x1
  by_cases hm : L.length ≤ 100
  · have hm1 : ¬ 100 < (L.length : Int) := by omega
    obtain ⟨_, hr1, hr2⟩ := HBX.out W1 x1
    obtain ⟨a0, ha0⟩ : ∃ a0, a0 = at'.getD 0 0 := ⟨_, rfl⟩
    have c0 : W1.cell? ⟨w.heap.size + 1 + 1, 0, none⟩ = some (.int .u8 a0) := by rw [ha0]; exact at_i (by omega) hr2
    have b0 : 0 ≤ a0 ∧ a0 ≤ 255 := by rw [ha0]; exact at_ib (by omega) hab
    clear ha0 hr1 hr2
    obtain ⟨pv, hpv⟩ : ∃ pv, a0.tmod 16 = pv := ⟨_, rfl⟩
    have hpv1 : a0 % 16 = pv := by rw [← hpv, Int.tmod_eq_emod_of_nonneg b0.1]
    have hpb : 0 ≤ pv ∧ pv < 16 := by omega
    have hwu : IntKind.u8.wrap pv = pv := by unfold IntKind.wrap; simp [IntKind.signed, IntKind.bits]; omega
    have hwi := IntWalk.i64_in pv (by omega)
    go_upto_region 6 with fail
    clear hpv hpv1 hwu hwi c0 d0 d1 b0
    obtain ⟨D, hD⟩ : ∃ D, D = (at'.drop 2).take 10 := ⟨_, rfl⟩
    have hDl : D.length = 10 := by rw [hD, List.length_take, List.length_drop, hat]; decide
    have hdr : ∀ W, Ext NoB W0 W → Dr W (some ⟨w.heap.size + 1 + 1, 2, none⟩) 10 D := fun W hW => by
      rw [hD]; exact dr_take hat (Nat.le_refl _) hab (HBX.out W hW).2.2 (Nat.lt_of_lt_of_le hsz hW.size)
    have HTH := Lib.hid fun W (hW : Ext NoB W0 W) => theirs11 l A c L W (HRD.out.ext (x0.then hW) (fun _ _ _ h => h)) (by omega)
    have HTC := Lib.hid (theirs13 m)
    have hrt := fun W2 W A' c' (hn : NR W2 (.slice A' L.length c') L) (y : Ext NoB W2 W) (hW : Ext NoB W0 W) => route12 l pv A' (some ⟨w.heap.size + 1 + 1, 2, none⟩) c' 10 L D m W ((NR.rd hn).ext y (fun _ _ _ h => h)) HOK.out (by omega) (hdr W hW)
    have hbad := fun h => ans_bad (l := l) (pv := pv) (L := L) (m := m) (D := D) h
    have hway := fun h => ans_way (l := l) (pv := pv) (L := L) (m := m) (D := D) h
    generalize ansE l pv L m D.length = aE at *
    generalize ansF l pv L m D = aF at *
    generalize ansH l pv L m D = H at *
    rw [hDl] at hrt
    unfold dirv at HTH hrt
    have HRT := Lib.hid hrt
    have HBA := Lib.hid hbad
    have HWA := Lib.hid hway
    clear hdr hrt hD hDl hbad hway
    have x22 := x1.andDrew
    have y22 := Ext.refl NoB W1.drew
    have HSS : Hid (∀ W, Ext NoB W0 W → (W.cell? ⟨w.heap.size, 0, none⟩ = some (.int .i64 l) ∧ W.cell? ⟨w.heap.size, 1, none⟩ = some (.slice A L.length c)) ∧ W.rangeAt (w.heap.size + 1) 0 (cc m)) := Lib.hid fun W hW => ⟨HCL.out _ hW, (HBX.out _ hW).2.1⟩
    refine wp_region_held_drew (S := fun W => (W.cell? ⟨w.heap.size, 0, none⟩ = some (.int .i64 l) ∧ W.cell? ⟨w.heap.size, 1, none⟩ = some (.slice A L.length c)) ∧ W.rangeAt (w.heap.size + 1) 0 (cc m)) (by kernel_rfl) (HSS.out _ x22) (fun hHeld => ?_)
    refine wpAnyH_take (i := 0) (oi := ⟨some 29, _, _, _, _, _⟩) (v := .agg #[.int .i64 l, .slice A L.length c]) rfl (by kernel_rfl) (by kernel_rfl) (by kernel_rfl) (fun _ _ _ h => h) (Or.inl ⟨by rfl, fun w hSw => by (obtain ⟨⟨s0, s1⟩, s2⟩ := hSw; go_simp)⟩) (by assumption) ?_
    try simp only [Act.put, List.setIfInBounds_toArray, List.set_cons_zero, List.set_cons_succ]
    refine wpAnyH_take (i := 2) (oi := ⟨some 31, _, _, _, _, _⟩) (v := .int .i64 pv) rfl (by kernel_rfl) (by kernel_rfl) (by kernel_rfl) (fun _ _ _ h => h) (Or.inl ⟨by rfl, fun w hSw => by (obtain ⟨⟨s0, s1⟩, s2⟩ := hSw; go_simp)⟩) (by assumption) ?_
    try simp only [Act.put, List.setIfInBounds_toArray, List.set_cons_zero, List.set_cons_succ]
    refine' wpAnyH_take (i := 3) (oi := ⟨some 32, _, _, _, _, _⟩) (v := _) rfl (by kernel_rfl) (by kernel_rfl) (by kernel_rfl) (fun _ _ _ h => h) (yieldsIf_load_mid (by rfl) 48 _ (by rfl) (w.heap.size + 1) (0) (by rfl) (cc m) _ (fun w h => h.2) Try.underlying48 (by rfl) s48) (by assumption) ?_
    try simp only [Act.put, List.setIfInBounds_toArray, List.set_cons_zero, List.set_cons_succ]
    refine wpAnyH_take (i := 5) (oi := ⟨some 34, _, _, _, _, _⟩) (v := .slice (some ⟨w.heap.size + 1 + 1, 2, none⟩) 10 10) rfl (by kernel_rfl) (by kernel_rfl) (by kernel_rfl) (fun _ _ _ h => h) (Or.inl ⟨by rfl, fun w hSw => by (obtain ⟨⟨s0, s1⟩, s2⟩ := hSw; go_simp)⟩) (by assumption) ?_
    try simp only [Act.put, List.setIfInBounds_toArray, List.set_cons_zero, List.set_cons_succ]
    refine wpAnyH_ready (rs := [1]) (by kernel_rfl) (by simp) (AllReadyH.cons (by rfl) (fun K hK => ?_) AllReadyH.nil)
    go_simp
    refine (HTH.out _ x22).mono ?_
    rintro e W2 ⟨A', c', rfl, hn, y, _⟩
    have HN := Lib.hid hn
    clear hn
    have x22 := x22.then y
    have y22 := Ext.refl NoB W2
    go_simp
    refine hK.out _ _ (HSS.out _ x22) (fun hHeld => ?_)
    clear hK K
    try simp only [Act.put, List.setIfInBounds_toArray, List.set_cons_zero, List.set_cons_succ]
    refine wpAnyH_ready (rs := [4]) (by kernel_rfl) (by simp) (AllReadyH.cons (by rfl) (fun K hK => ?_) AllReadyH.nil)
    go_simp
    refine (HTC.out _).mono ?_
    rintro e W3 ⟨rfl, y⟩
    have x22 := x22.then y
    have y22 := y22.then y
    go_simp
    refine hK.out _ _ (HSS.out _ x22) (fun hHeld => ?_)
    clear hK K
    try simp only [Act.put, List.setIfInBounds_toArray, List.set_cons_zero, List.set_cons_succ]
    refine wpAnyH_ready (rs := [6]) (by kernel_rfl) (by simp) (AllReadyH.cons (by rfl) (fun K hK => ?_) AllReadyH.nil)
    go_simp
    refine (HRT.out _ _ _ _ HN.out y22 x22).mono ?_
    rintro e W8 ⟨A8, c8, rfl, hh, y⟩
    have HH8 := Lib.hid hh
    clear hh
    have x22 := x22.then y
    go_simp
    refine hK.out _ _ (HSS.out _ x22) (fun hHeld => ?_)
    clear hK K
    try simp only [Act.put, List.setIfInBounds_toArray, List.set_cons_zero, List.set_cons_succ]
    refine wpAnyH_take (i := 7) (oi := ⟨some 28, _, _, _, _, _⟩) (v := .tuple #[.int .i64 aF, .slice A8 H.length c8, .int .i64 aE]) rfl (by kernel_rfl) (by kernel_rfl) (by kernel_rfl) (fun _ _ _ h => h) (Or.inl ⟨by rfl, fun w hSw => by (obtain ⟨⟨s0, s1⟩, s2⟩ := hSw; go_simp)⟩) (by assumption) ?_
    try simp only [Act.put, List.setIfInBounds_toArray, List.set_cons_zero, List.set_cons_succ]
    refine wpAnyH_take (i := 8) (oi := ⟨some 36, _, _, _, _, _⟩) (v := .int .i64 aF) rfl (by kernel_rfl) (by kernel_rfl) (by kernel_rfl) (fun _ _ _ h => h) (Or.inl ⟨by rfl, fun w hSw => by (obtain ⟨⟨s0, s1⟩, s2⟩ := hSw; go_simp)⟩) (by assumption) ?_
    try simp only [Act.put, List.setIfInBounds_toArray, List.set_cons_zero, List.set_cons_succ]
    refine wpAnyH_take (i := 9) (oi := ⟨some 37, _, _, _, _, _⟩) (v := .slice A8 H.length c8) rfl (by kernel_rfl) (by kernel_rfl) (by kernel_rfl) (fun _ _ _ h => h) (Or.inl ⟨by rfl, fun w hSw => by (obtain ⟨⟨s0, s1⟩, s2⟩ := hSw; go_simp)⟩) (by assumption) ?_
    try simp only [Act.put, List.setIfInBounds_toArray, List.set_cons_zero, List.set_cons_succ]
    refine wpAnyH_take (i := 10) (oi := ⟨some 38, _, _, _, _, _⟩) (v := .int .i64 aE) rfl (by kernel_rfl) (by kernel_rfl) (by kernel_rfl) (fun _ _ _ h => h) (Or.inl ⟨by rfl, fun w hSw => by (obtain ⟨⟨s0, s1⟩, s2⟩ := hSw; go_simp)⟩) (by assumption) ?_
    try simp only [Act.put, List.setIfInBounds_toArray, List.set_cons_zero, List.set_cons_succ]
    refine wpAnyH_take (i := 11) (oi := ⟨some 8, _, _, _, _, _⟩) (v := .int .i64 aF) rfl (by kernel_rfl) (by kernel_rfl) (by kernel_rfl) (fun _ _ _ h => h) (Or.inl ⟨by rfl, fun w hSw => by (obtain ⟨⟨s0, s1⟩, s2⟩ := hSw; go_simp)⟩) (by assumption) ?_
    try simp only [Act.put, List.setIfInBounds_toArray, List.set_cons_zero, List.set_cons_succ]
    refine wpAnyH_take (i := 12) (oi := ⟨some 9, _, _, _, _, _⟩) (v := .slice A8 H.length c8) rfl (by kernel_rfl) (by kernel_rfl) (by kernel_rfl) (fun _ _ _ h => h) (Or.inl ⟨by rfl, fun w hSw => by (obtain ⟨⟨s0, s1⟩, s2⟩ := hSw; go_simp)⟩) (by assumption) ?_
    try simp only [Act.put, List.setIfInBounds_toArray, List.set_cons_zero, List.set_cons_succ]
    refine wpAnyH_take (i := 13) (oi := ⟨some 10, _, _, _, _, _⟩) (v := .int .i64 aE) rfl (by kernel_rfl) (by kernel_rfl) (by kernel_rfl) (fun _ _ _ h => h) (Or.inl ⟨by rfl, fun w hSw => by (obtain ⟨⟨s0, s1⟩, s2⟩ := hSw; go_simp)⟩) (by assumption) ?_
    try simp only [Act.put, List.setIfInBounds_toArray, List.set_cons_zero, List.set_cons_succ]
    refine wpAnyH_done (by kernel_rfl) ?_ _
    clear hHeld HSS y22
    go_upto_region 7 with fail
    by_cases hE : aE = 0
    · obtain ⟨hl, N, hW, hF⟩ := HWA.out hE
      subst hE
      subst hl
      subst hF
      have hlo := hW.lo
      have hhi := hW.hi
      have HW := Lib.hid hW
      have hd8 := GR.rd hc_len (by decide) HH8.out
      have hc8 : H.length ≤ c8 ∧ c8 ≤ 9223372036854775807 := by have := hd8.cap; unfold maxLen at this; omega
      have HD8 := Lib.hid hd8
      have X0 := Lib.hid x22
      clear hW hd8 HH8 HRT HTH HTC HBA HWA x1 y
      go_upto_region 12 with fail
      go_loopw [11, 12, 51] (fun ov nv iv W => WaRel W8 H N ov nv iv W) (fun _ _ iv _ => H.length - (intOf iv).toNat)
      case atStart => exact ⟨0, none, 0, _, by omega, rfl, rfl, fun _ => rfl, rfl, QRow.nil _ _ _, Ext.refl _ _, fun g hg => by cases hg⟩
      case round =>
        clear x22
        obtain ⟨i, A', c', nx, hi, rfl, rfl, hnx, rfl, hrow, hx, hown⟩ := hrel
        by_cases hlt : i < H.length
        · have k2 : (i : Int) < (H.length : Int) := by omega
          have HNI := Lib.hid (hnx hlt)
          obtain ⟨b1, o1, rfl, _, hr1⟩ := (HD8.out.ext hx (fun _ _ _ h => h)).at' i hlt
          have htk : H.take (i + 1) = H.take i ++ [H[i]] := by rw [List.take_succ_eq_append_getElem hlt]
          have hky := HW.out.key i hlt
          have hnxt := HW.out.next i hlt
          have hmem := HW.out.mem i hlt
          have hlast := HW.out.last
          generalize H[i] = hp at *
          obtain ⟨j0, hj0, hj⟩ := List.mem_iff_getElem.1 hmem.1
          obtain ⟨V, hV⟩ : ∃ V, V = (hc hp).toArray := ⟨_, rfl⟩
          have lV : V.size = 43 := by rw [hV]; simp [hc_len]
          have sV : (Try.prog.info? 45).map (·.size) = some V.size := by rw [lV]; exact Try.size45
          have oV : V.all (·.oneCell') = true := by rw [hV]; exact all_oneCell_toArray (hc_one hp)
          have hbV : (wr.alloc (.cells V 45)).heap[wr.heap.size]? = some (.cells (hc hp).toArray 45 (0, 0)) := by rw [← hV]; exact heapNew _ _
          have xV := Ext.alloc NoB wr (.cells V 45)
          have sH := sizeHp hp
          have hql : ∀ g, (Value.slice A' i c').ownBlock = some g → g < wr.heap.size := fun g hg => QRow.lt hrow g hg
          have HVV := Lib.hid hV
          have HRA := Lib.hid hr1
          have HTK := Lib.hid htk
          have HROW := Lib.hid hrow
          have HPL := Lib.hid (And.intro hky (And.intro hnxt (And.intro hmem (And.intro hlast hj))))
          clear hV hr1 htk hrow hky hnxt hmem hlast hnx hj
          go_upto_region 14 with (first
            | ((with_reducible show wpList _ _ _ (⟨_, .load 45 _, _, _, _, _⟩ :: _) _ _); refine wpList_load_arrm (by rfl) 45 _ rfl b1 (o1 + i * 43) rfl (hc hp) _ HRA.out Try.underlying45 rfl sH ?_)
            | ((with_reducible show wpList _ _ _ (⟨_, .store 45 _ _, _, _, _, _⟩ :: _) _ _); refine wpList_store_new rfl 45 _ _ rfl wr.heap.size V rfl (by rw [HVV.out]; rfl) rfl (by rw [lV]; rfl) sV oV ?_))
          generalize hhb : wr.heap.size = hb at *
          generalize wr.alloc (.cells V 45) = W2 at *
          have hrng : ∀ W, Ext (fun g => (Value.slice A' i c').ownBlock = some g) W2 W → W.rangeAt hb 0 (bys hp.key) ∧ W.rangeAt hb 32 (cc hp.cmd) := fun W hW => by
            have := nd_box (hW.obj hbV (fun hf => Nat.lt_irrefl _ (hql _ hf)))
            have h2 := hp_cmd this
            rw [Nat.zero_add] at h2
            exact ⟨hp_key this, h2⟩
          have HRNG := Lib.hid hrng
          have sK : (Try.prog.info? 33).map (·.size) = some (bys hp.key).length := by rw [bys_length, hp.len]; exact Try.size33
          have sC := sizeCm hp.cmd
          have HOU := Lib.hid (ours18 hp.cmd)
          have HXV := Lib.hid xV
          have HBV := Lib.hid hbV
          have HOWN := Lib.hid hown
          have HGL := Lib.hid hql
          have HX := Lib.hid hx
          clear hrng hql hbV xV hown hx
          refine wp_region_held_drew (S := fun W => Ext (fun g => (Value.slice A' i c').ownBlock = some g) W2 W) (by kernel_rfl) ?_ (fun hHeld => ?_)
          · exact Ext.drew _ _
          refine wpAnyH_take (i := 0) (oi := ⟨some 56, _, _, _, _, _⟩) (v := .slice A' i c') rfl (by kernel_rfl) (by kernel_rfl) (by kernel_rfl) (fun _ _ _ h => h) (Or.inl ⟨by rfl, fun w hSw => by (obtain _ := hSw; go_simp)⟩) (by assumption) ?_
          try simp only [Act.put, List.setIfInBounds_toArray, List.set_cons_zero, List.set_cons_succ]
          refine wpAnyH_take (i := 1) (oi := ⟨some 57, _, _, _, _, _⟩) (v := .pointer (some ⟨hb, 0, none⟩)) rfl (by kernel_rfl) (by kernel_rfl) (by kernel_rfl) (fun _ _ _ h => h) (Or.inl ⟨by rfl, fun w hSw => by (obtain _ := hSw; go_simp)⟩) (by assumption) ?_
          try simp only [Act.put, List.setIfInBounds_toArray, List.set_cons_zero, List.set_cons_succ]
          refine' wpAnyH_take (i := 2) (oi := ⟨some 58, _, _, _, _, _⟩) (v := _) rfl (by kernel_rfl) (by kernel_rfl) (by kernel_rfl) (fun _ _ _ h => h) (yieldsIf_load_mid (by rfl) 33 _ (by rfl) (hb) (0) (by rfl) (bys hp.key) _ (fun w h => (HRNG.out w h).1) Try.underlying33 (by rfl) sK) (by assumption) ?_
          try simp only [Act.put, List.setIfInBounds_toArray, List.set_cons_zero, List.set_cons_succ]
          refine wpAnyH_take (i := 3) (oi := ⟨some 59, _, _, _, _, _⟩) (v := .pointer (some ⟨hb, 32, none⟩)) rfl (by kernel_rfl) (by kernel_rfl) (by kernel_rfl) (fun _ _ _ h => h) (Or.inl ⟨by rfl, fun w hSw => by (obtain _ := hSw; go_simp)⟩) (by assumption) ?_
          try simp only [Act.put, List.setIfInBounds_toArray, List.set_cons_zero, List.set_cons_succ]
          refine' wpAnyH_take (i := 4) (oi := ⟨some 60, _, _, _, _, _⟩) (v := _) rfl (by kernel_rfl) (by kernel_rfl) (by kernel_rfl) (fun _ _ _ h => h) (yieldsIf_load_mid (by rfl) 43 _ (by rfl) (hb) (32) (by rfl) (cc hp.cmd) _ (fun w h => (HRNG.out w h).2) Try.underlying43 (by rfl) sC) (by assumption) ?_
          try simp only [Act.put, List.setIfInBounds_toArray, List.set_cons_zero, List.set_cons_succ]
          refine wpAnyH_ready (rs := [5]) (by kernel_rfl) (by simp) (AllReadyH.cons (by rfl) (fun K' hK => ?_) AllReadyH.nil)
          go_simp
          refine (HOU.out _).mono ?_
          rintro e W3 ⟨rfl, x3⟩
          have x23 := (Ext.drew NoB W2).then x3
          go_simp
          refine hK.out _ _ (x23.mono fun _ _ h => h.elim) (fun hHeld => ?_)
          clear hK K'
          try simp only [Act.put, List.setIfInBounds_toArray, List.set_cons_zero, List.set_cons_succ]
          refine wpAnyH_take (i := 6) (oi := ⟨some 62, _, _, _, _, _⟩) (v := .agg (bys hp.key ++ cc hp.cmd).toArray) rfl (by kernel_rfl) (by kernel_rfl) (by kernel_rfl) (fun _ _ _ h => h) (yieldsIf_build60 (by rfl) _ _ (by rfl) (bys hp.key) (cc hp.cmd) (by rw [bys_length, hp.len]) (cc_len _) (by rfl) (by rfl)) (by assumption) ?_
          try simp only [Act.put, List.setIfInBounds_toArray, List.set_cons_zero, List.set_cons_succ]
          refine wpAnyH_ready (rs := [7]) (by kernel_rfl) (by simp) (AllReadyH.cons (by rfl) (fun K' hK => ?_) AllReadyH.nil)
          refine step_slice60 (by rfl) _ (by rfl) (bys hp.key ++ cc hp.cmd) (by simp [bys_length, hp.len, cc_len]) (by rfl) ?_
          have hnew := heapNew W3 (.cells (bys hp.key ++ cc hp.cmd).toArray 60)
          have x13 := x23.andAlloc (.cells (bys hp.key ++ cc hp.cmd).toArray 60)
          refine hK.out _ _ (x13.mono fun _ _ h => h.elim) (fun hHeld => ?_)
          clear hK K'
          try simp only [Act.put, List.setIfInBounds_toArray, List.set_cons_zero, List.set_cons_succ]
          have HQ9 := Lib.hid ((HROW.out.ext HXV.out (fun _ _ h => h)).ext x13 (fun _ _ h => h))
          refine wpAnyH_ready (rs := [8]) (by kernel_rfl) (by simp) (AllReadyH.cons (by rfl) (fun K' hK => ?_) AllReadyH.nil)
          refine step_append_q (by rfl) _ _ 56 (by rfl) 60 43 64 (.agg (hc ⟨List.replicate 32 0, ⟨0, 0, 0, Z8, rfl⟩, rfl⟩).toArray) Try.underlying56 info60 (by rfl) (by decide) (.slice A' i c') i _ (by rfl) HQ9.out ⟨W3.heap.size, 0, none⟩ 1 1 (bys hp.key ++ cc hp.cmd) (by rfl) (by simp [bys_length, hp.len, cc_len]) (fun j u hj => by rw [add_none]; exact nd_box hnew j u hj) (hc_one hp) (by omega) (by unfold maxLen; omega) (by omega) ?_
          intro g3 o3 c3 W9 hq10 x10 hg10
          have x19 := (x13.mono (fun _ _ h => h.elim)).then x10
          refine hK.out _ _ x19 (fun hHeld => ?_)
          clear hK K'
          try simp only [Act.put, List.setIfInBounds_toArray, List.set_cons_zero, List.set_cons_succ]
          refine wpAnyH_take (i := 9) (oi := ⟨some 11, _, _, _, _, _⟩) (v := .slice (some ⟨g3, o3, none⟩) (i + 1) c3) rfl (by kernel_rfl) (by kernel_rfl) (by kernel_rfl) (fun _ _ _ h => h) (Or.inl ⟨by rfl, fun w hSw => by go_simp⟩) (by assumption) ?_
          try simp only [Act.put, List.setIfInBounds_toArray, List.set_cons_zero, List.set_cons_succ]
          refine wpAnyH_done (by kernel_rfl) ?_ _
          have hgo : ∀ g, (Value.slice A' i c').ownBlock = some g → W8.heap.size ≤ g := fun g hg => HOWN.out g (by rw [own_sl A' 0 0 i c']; exact hg)
          have hown3 : ∀ g, (Value.slice (some ⟨g3, o3, none⟩) 0 0).ownBlock = some g → W8.heap.size ≤ g := fun g hg => by
            have e : g3 = g := by simpa [Value.ownBlock] using hg
            rcases hg10 with h | h
            · exact hgo g (e ▸ h)
            · have h1 := (HX.out.then HXV.out).size
              have h2 := x13.size
              omega
          have hrow9 : QRow W9 60 43 (.slice (some ⟨g3, o3, none⟩) (i + 1) c3) (i + 1) (flatG hc (H.take (i + 1))) := by
            rw [HTK.out, flatG_append]
            have : flatG hc [hp] = bys hp.key ++ cc hp.cmd := by simp [flatG, hc]
            rw [this]; exact hq10
          have hx9 : Ext NoB W8 W9 := (HX.out.then HXV.out).trans x19 (fun _ _ h => h) (fun k hk hf => by have := hgo k hf; omega)
          have hend : ∀ W nx, Ext NoB W9 W → (i + 1 < H.length → nx = (N (i + 1)).id) → WaRel W8 H N (.slice (some ⟨g3, o3, none⟩) (i + 1) c3) (.int .i64 nx) (.int .i64 ((i + 1 : Nat) : Int)) W := fun W nx hW hn => ⟨i + 1, _, _, nx, by omega, rfl, rfl, hn, rfl, hrow9.ext hW (fun _ _ h => h), hx9.then hW, hown3⟩
          have hhop : ∀ W, Ext NoB W9 W → W.rangeAt hb 0 (bys hp.key) ∧ W.rangeAt hb 32 (cc hp.cmd) := fun W hW => HRNG.out _ (x19.trans hW (fun _ _ h => h) (fun _ _ h => h.elim))
          have HEN := Lib.hid hend
          have HHO := Lib.hid hhop
          have HX9 := Lib.hid (X0.out.then hx9)
          clear hend hhop hrow9 hx9 hown3 hgo x19 hq10 x10 hg10 x13 hnew hHeld x23 HRNG HQ9
          obtain ⟨d0, d1⟩ := HCL.out _ HX9.out
          go_upto_region 17 with fail
          clear d0 d1
          go_loopw [15, 68] (fun fv tv W => WbRel W9 L.length j0 fv tv W) (fun _ tv _ => L.length - (intOf tv).toNat)
          case atStart => exact ⟨0, false, by omega, rfl, rfl, fun h => absurd h (by omega), Ext.refl _ _⟩
          case round =>
            obtain ⟨t, f, ht, rfl, rfl, hf, hx⟩ := hrel
            by_cases hlt2 : t < L.length
            · have k3 : (t : Int) < (L.length : Int) := by omega
              obtain ⟨b, o, rfl, hbb, hra⟩ := (HRD.out.ext ((x0.then HX9.out).then hx) (fun _ _ _ h => h)).at' t hlt2
              have hN : (Try.prog.info? 35).map (·.size) = some (nc L[t]).length := by rw [nc_len]; kernel_rfl
              have hjt : t = j0 → L[t] = N i := fun h => by subst h; exact HPL.out.2.2.2.2
              generalize L[t] = nd at *
              obtain ⟨V2, hV2⟩ : ∃ V2, V2 = (nc nd).toArray := ⟨_, rfl⟩
              have lV2 : V2.size = 34 := by rw [hV2]; simp [nc_len]
              have sV2 : (Try.prog.info? 35).map (·.size) = some V2.size := by rw [lV2]; kernel_rfl
              have oV2 : V2.all (·.oneCell') = true := by rw [hV2]; exact all_oneCell_toArray (nc_one nd)
              have hbV2 : (wr.alloc (.cells V2 35)).heap[wr.heap.size]? = some (.cells (nc nd).toArray 35 (0, 0)) := by rw [← hV2]; exact heapNew _ _
              have n0 := nd_id (nd_box hbV2)
              have n33 := nd_lay (nd_box hbV2)
              have nk := nd_key (nd_box hbV2)
              simp only [Nat.zero_add] at n33 nk
              have hx2 := hx.andAlloc (.cells V2 35)
              have hk9 := (HHO.out _ hx2).1
              have heq := Try.eql33 nd.len hp.len
              have sN : (Try.prog.info? 33).map (·.size) = some (bys nd.key).length := by rw [bys_length, nd.len]; exact Try.size33
              have HVV2 := Lib.hid hV2
              have HRA2 := Lib.hid hra
              have HJT := Lib.hid hjt
              have HF := Lib.hid hf
              clear hV2 hra hbV2 hjt hf hx
              go_upto_region 19 with (first
                | ((with_reducible show wpList _ _ _ (⟨_, .load 35 _, _, _, _, _⟩ :: _) _ _); refine wpList_load_arrm (by rfl) 35 _ rfl b (o + t * 34) rfl (nc nd) _ HRA2.out Try.underlying35 rfl hN ?_)
                | ((with_reducible show wpList _ _ _ (⟨_, .store 35 _ _, _, _, _, _⟩ :: _) _ _); refine wpList_store_new rfl 35 _ _ rfl wr.heap.size V2 rfl (by rw [HVV2.out]; rfl) rfl (by rw [lV2]; rfl) sV2 oV2 ?_))
              generalize hnb : wr.heap.size = nb at *
              generalize wr.alloc (.cells V2 35) = W10 at *
              have hbad : ¬ (nd.id = nx ∧ nd.lay = (i : Int) ∧ nd.key = hp.key) → ¬ j0 < t → ¬ j0 < t + 1 := fun h1 h2 h3 => by
                have e := HJT.out (by omega)
                subst e
                exact h1 ⟨HNI.out.symm, HPL.out.2.2.1.2, HPL.out.1.symm⟩
              have HBAD := Lib.hid hbad
              clear hbad
              generalize hid : nd.id = di at *
              generalize hly : nd.lay = dl at *
              clear hid hly
              cases f with
              | true =>
                have hEND : WbRel W9 L.length j0 (.bool true) (.int .i64 ((t + 1 : Nat) : Int)) W10 := ⟨t + 1, true, by omega, rfl, rfl, fun _ => rfl, hx2⟩
                have HEND := Lib.hid hEND
                clear hEND heq nk hk9 n0 n33
                go_wp2_with fail
                exact ⟨by simpa using HEND.out, by simp [intOf]; omega⟩
              | false =>
                have hnj : ¬ j0 < t := fun h => absurd (HF.out h) (by decide)
                have hEND : ∀ r : Bool, (¬ (di = nx ∧ dl = (i : Int) ∧ nd.key = hp.key) ∨ r = true) → WbRel W9 L.length j0 (.bool r) (.int .i64 ((t + 1 : Nat) : Int)) W10 := fun r hr => ⟨t + 1, r, by omega, rfl, rfl, fun h => hr.elim (fun h1 => absurd h (HBAD.out h1 hnj)) id, hx2⟩
                have HEND := Lib.hid hEND
                clear hEND
                by_cases h1 : di = nx
                · by_cases h2 : dl = (i : Int)
                  · have hr3 : ¬ (di = nx ∧ dl = (i : Int) ∧ nd.key = hp.key) ∨ (nd.key == hp.key) = true := by
                      by_cases h3 : nd.key = hp.key
                      · exact .inr (by rw [h3]; simp)
                      · exact .inl (fun h => h3 h.2.2)
                    have HE2 := Lib.hid (HEND.out _ hr3)
                    subst h1
                    subst h2
                    clear hr3 HEND
                    go_wp2_with (first
                      | ((with_reducible show wpList _ _ _ (⟨_, .load 33 (.tmp 85), _, _, _, _⟩ :: _) _ _); refine wpList_load_arrm (by rfl) 33 _ rfl nb 1 rfl (bys nd.key) _ nk Try.underlying33 rfl sN ?_)
                      | ((with_reducible show wpList _ _ _ (⟨_, .load 33 (.tmp 87), _, _, _, _⟩ :: _) _ _); refine wpList_load_arrm (by rfl) 33 _ rfl hb 0 rfl (bys hp.key) _ hk9 Try.underlying33 rfl sK ?_))
                    exact ⟨by simpa using HE2.out, by simp [intOf]; omega⟩
                  · have h3 : (dl == (i : Int)) = false := beq_eq_false_iff_ne.2 h2
                    have HE2 := Lib.hid (HEND.out false (.inl fun h => h2 h.2.1))
                    subst h1
                    clear HEND h2
                    go_wp2_with fail
                    exact ⟨by simpa using HE2.out, by simp [intOf]; omega⟩
                · have h3 : (di == nx) = false := beq_eq_false_iff_ne.2 h1
                  have HE2 := Lib.hid (HEND.out false (.inl fun h => h1 h.1))
                  clear HEND h1
                  go_wp2_with fail
                  exact ⟨by simpa using HE2.out, by simp [intOf]; omega⟩
            · have k3 : ¬ (t : Int) < (L.length : Int) := by omega
              obtain rfl : f = true := hf (by omega)
              have hcm := (HHO.out wr hx).2
              have cn := cm_1 hcm
              have hwn := IntWalk.i64_in ((H.length : Int) - 2) (by omega)
              by_cases hi2 : i + 2 = H.length
              · have hpv : hp.cmd.next = pv := by
                  rw [HPL.out.2.1 (by omega), ← HPL.out.2.2.2.1]
                  congr 2
                  omega
                have hE1 := HEN.out wr hp.cmd.next hx (fun h => HPL.out.2.1 h)
                have hb2 : ((i : Int) == (H.length : Int) - 2) = true := by rw [beq_iff_eq]; omega
                have HE1 := Lib.hid hE1
                rw [hpv] at cn HE1
                clear hE1 hcm hpv hi2
                go_wp2_with fail
                exact ⟨by simpa using HE1.out, by simp [intOf]; omega⟩
              · have hE1 := HEN.out wr hp.cmd.next hx (fun h => HPL.out.2.1 h)
                have hb2 : ((i : Int) == (H.length : Int) - 2) = false := beq_eq_false_iff_ne.2 (by omega)
                have HE1 := Lib.hid hE1
                generalize hp.cmd.next = nn at *
                clear hE1 hcm hi2
                go_wp2_with fail
                exact ⟨by simpa using HE1.out, by simp [intOf]; omega⟩
        · have k2 : ¬ (i : Int) < (H.length : Int) := by omega
          obtain rfl : i = H.length := by omega
          rw [List.take_length] at hrow
          have hrd := GR.rd (e := 60) hc_len (by decide) hrow
          have HRO := Lib.hid fun W (hW : Ext NoB wr W) => refRoute22 A' c' H W (hrd.ext hW (fun _ _ _ h => h)) hlo hhi HW.out.may
          have HDE := Lib.hid fun W (hW : Ext NoB wr W) => delay19 A8 c8 H W ((HD8.out.ext hx (fun _ _ _ h => h)).ext hW (fun _ _ _ h => h)) (by omega)
          have hdl := HW.out.dly
          generalize dly H 0 = dd at *
          have hw1 := IntWalk.i64_in ((H.length : Int) - 1) (by omega)
          have hw2 := IntWalk.i64_in (64 * ((H.length : Int) - 1)) (by omega)
          have hd2 : dd ≤ 64 * ((H.length : Int) - 1) := hdl.1
          have HXF := Lib.hid (X0.out.then hx)
          clear hrow hrd hdl HW hx hnx hown
          go_upto_region 27 with fail
          have x22 := Ext.drew NoB wr
          go_region_held3 (fun W => W.cell? ⟨w.heap.size, 0, none⟩ = some (.int .i64 (H.length : Int)))
            (exact (HCL.out _ (HXF.out.then x22)).1)
            (first
              | (go_at_call 22; (with_reducible refine (HRO.out _ x22).mono ?_); rintro e W10 ⟨rfl, y⟩; have x22 := x22.then y)
              | (go_at_call 19; (with_reducible refine (HDE.out _ x22).mono ?_); rintro e W10 ⟨rfl, y⟩; have x22 := x22.then y))
          all_goals
            go_wp2_with fail
            go_ret
            exact ⟨by simp [hd2], (x0.then HXF.out).then x22⟩
    · obtain ⟨hH, hF⟩ := HBA.out hE
      subst hH
      subst hF
      clear HRT HTH HTC HBA HWA HH8
      go_wp2_with fail
      go_ret
      exact ⟨by simp, x0.then x22⟩
  · have hm1 : 100 < (L.length : Int) := by omega
    go_wp2_with fail
    go_ret
    exact ⟨rfl, x0.then x1⟩
end Go.Proofs.Ytdibjnlmeiikmaa
