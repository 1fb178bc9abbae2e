/-
  The law DirectoryOrder, walked.
-/
import Derived.Test.YtdibjnlmeiikmaaZp
import Derived.Deep.RegionHeld3
import Derived.Deep.MidRow
set_option linter.unusedVariables false
set_option linter.unusedSimpArgs false
namespace Go.Proofs.Ytdibjnlmeiikmaa
open Go.RowKit Go.Proofs

/-- Between two rounds of the loop that turns the nodes around. -/
def OvRel (W5 : World) (L : List Nd) (Af : Option Addr) (cf : Nat) (iv : Value) (W : World) : Prop :=
  ∃ i : Nat, i ≤ L.length ∧ iv = .int .i64 i ∧ QRow W 50 34 (.slice Af L.length cf) L.length (flatN (rvP L i)) ∧ Ext (fun g => (Value.slice Af L.length cf).ownBlock = some g) W5 W
def OcRel (W5 : World) (n : Nat) (iv : Value) (W : World) : Prop := ∃ i : Nat, i ≤ n ∧ iv = .int .i64 i ∧ Ext NoB W5 W
theorem dr_drop {b : Nat} {W : World} {D : List Int} (hl : D.length = 12) (hb : ∀ x ∈ D, 0 ≤ x ∧ x ≤ 255) (h : W.rangeAt b 0 (bys D)) (hs : b < W.heap.size) : Dr W (some ⟨b, 2, none⟩) 10 (D.drop 2) := by
  refine ⟨fun i hi => ⟨b, 2, rfl, hs, ?_, ?_⟩, by rw [List.length_drop, hl]; decide⟩
  · rw [List.length_drop, hl] at hi
    have h1 := h (2 + i) (.int .u8 (D.getD (2 + i) 0)) (bys_at (by omega))
    rw [Nat.zero_add] at h1
    rw [h1, List.getD_eq_getElem?_getD, List.getD_eq_getElem?_getD, List.getElem?_drop]
  · have := hb ((D.drop 2).getD i 0) (by
      rw [List.getD_eq_getElem?_getD, List.getElem?_eq_getElem hi]
      exact List.mem_of_mem_drop (List.getElem_mem hi))
    exact this
theorem at_0 {b : Nat} {W : World} {D : List Int} (hl : D.length = 12) (h : W.rangeAt b 0 (bys D)) : W.cell? ⟨b, 0, none⟩ = some (.int .u8 (D.getD 0 0)) := h 0 _ (bys_at (by omega))
theorem at_0b {D : List Int} (hl : D.length = 12) (hb : ∀ x ∈ D, 0 ≤ x ∧ x ≤ 255) : 0 ≤ D.getD 0 0 ∧ D.getD 0 0 ≤ 255 := by
  rw [List.getD_eq_getElem?_getD, List.getElem?_eq_getElem (by omega)]
  exact hb _ (List.getElem_mem _)
set_option maxHeartbeats 12800000 in
set_option maxRecDepth 100000 in
theorem order_walk (l : Int) (A : Option Addr) (c : Nat) (L : List Nd) (m : Cm) (at' : List Int) (hat : at'.length = 12) (hab : ∀ x ∈ at', 0 ≤ x ∧ x ≤ 255) (w : World) (hr : NRd w A c L) (hok : ∀ n ∈ L, NdOk n) :
    Calls Try.prog 4 #[dirv l A L.length c, .agg (cc m).toArray, Arr at'] w fun e w' => e = .returned (.bool true) ∧ Ext NoB w w' := by
  have h63 : c ≤ 9223372036854775807 := by have := hr.cap.2; unfold maxLen at this; omega
  have hcap := hr.cap.1
  have h30 : (Try.prog.info? 30).map (·.size) = some 2 := by kernel_rfl
  have s48 : (Try.prog.info? 48).map (·.size) = some (cc m).length := by rw [cc_len]; kernel_rfl
  have hb0 : ((w.alloc (.cells #[.int .i64 l, .slice A L.length c] 24)).alloc (.cells (cc m).toArray 48)).heap[w.heap.size]? = some (.cells #[.int .i64 l, .slice A L.length c] 24 (0, 0)) := (Ext.alloc NoB _ _).obj (heapNew w _) id
  have hb1 : ((w.alloc (.cells #[.int .i64 l, .slice A L.length c] 24)).alloc (.cells (cc m).toArray 48)).heap[w.heap.size + 1]? = some (.cells (cc m).toArray 48 (0, 0)) := heapNew' _ _ _ (by simp)
  have hb2 : (((w.alloc (.cells #[.int .i64 l, .slice A L.length c] 24)).alloc (.cells (cc m).toArray 48)).alloc (.cells (bys at').toArray 49)).heap[w.heap.size + 1 + 1]? = some (.cells (bys at').toArray 49 (0, 0)) := heapNew' _ _ _ (by simp)
  have x0 : Ext NoB w (((w.alloc (.cells #[.int .i64 l, .slice A L.length c] 24)).alloc (.cells (cc m).toArray 48)).alloc (.cells (bys at').toArray 49)) := ((Ext.alloc NoB w _).andAlloc _).andAlloc _
  have hb0' := (Ext.alloc NoB _ (.cells (bys at').toArray 49)).obj hb0 id
  have hb1' := (Ext.alloc NoB _ (.cells (bys at').toArray 49)).obj hb1 id
  obtain ⟨Vm, hVm⟩ : ∃ Vm, Vm = (cc m).toArray := ⟨_, rfl⟩
  obtain ⟨Va, hVa⟩ : ∃ Va, Va = (bys at').toArray := ⟨_, rfl⟩
  have HVM := Lib.hid hVm
  have HVA := Lib.hid hVa
  have HR := Lib.hid hr
  have HOK := Lib.hid hok
  unfold dirv Arr
  rw [← hVm, ← hVa] at hb0' hb1' hb2 x0 ⊢
  clear hr hok hb0 hb1 hVm hVa
  go_enter Try.func4, Try.ntmps4
  go_upto_region 1 with fail
  generalize hW0 : ((w.alloc (.cells #[.int .i64 l, .slice A L.length c] 24)).alloc (.cells Vm 48)).alloc (.cells Va 49) = W0 at *
  have hbx : ∀ W, Ext NoB W0 W → W.heap[w.heap.size]? = some (.cells #[.int .i64 l, .slice A L.length c] 24 (0, 0)) ∧ W.rangeAt (w.heap.size + 1) 0 (cc m) ∧ W.rangeAt (w.heap.size + 1 + 1) 0 (bys at') := fun W hW =>
    ⟨hW.obj hb0' id, nd_box (by rw [← HVM.out]; exact hW.obj hb1' id), nd_box (by rw [← HVA.out]; exact hW.obj hb2 id)⟩
  have hcl : ∀ W, Ext NoB W0 W → W.cell? ⟨w.heap.size, 0, none⟩ = some (.int .i64 l) ∧ W.cell? ⟨w.heap.size, 1, none⟩ = some (.slice A L.length c) := fun W hW => by
    have := (hbx W hW).1
    exact ⟨by rw [cellOf this]; rfl, by rw [cellOf this]; rfl⟩
  have HCL := Lib.hid hcl
  have HBX := Lib.hid hbx
  have hsz : w.heap.size + 1 + 1 < W0.heap.size := blk_lt' hb2
  clear hb0' hb1' hb2 hcl hbx hW0
  go_upto_region 3 with (go_at_call 9; (with_reducible refine (alive9 _).mono ?_); rintro e W1 ⟨rfl, x1⟩)
  obtain ⟨d0, d1⟩ := HCL.out W1 x1
  by_cases hm : L.length ≤ 100
  · have hm1 : ¬ 100 < (L.length : Int) := by omega
    have HTH := Lib.hid fun W (hW : Ext NoB W0 W) => theirs11 l A c L W (HR.out.ext (x0.then hW) (fun _ _ _ h => h)) (by omega)
    unfold dirv at HTH
    go_upto_region 6 with (first
      | (go_at_call 11; (with_reducible refine (HTH.out _ x1).mono ?_); rintro e W2 ⟨Ae, ce, rfl, hne, y2, hoe⟩; have HNE := Lib.hid hne; clear hne)
      | ((with_reducible show wpList _ _ _ (⟨_, .store 30 _ _, _, _, _, _⟩ :: _) _ _); refine wpList_store_new rfl 30 _ _ rfl W2.heap.size #[.int .i64 l, .slice Ae L.length ce] rfl rfl rfl rfl (by exact h30) rfl ?_))
    have hbe := heapNew W2 (.cells #[.int .i64 l, .slice Ae L.length ce] 30)
    have xe := Ext.alloc NoB W2 (.cells #[.int .i64 l, .slice Ae L.length ce] 30)
    have hge := QRow.lt HNE.out
    have HNE3 := Lib.hid (HNE.out.ext xe (fun _ _ h => h))
    have hx3 := (x1.then y2).then xe
    have hs23 : W2.heap.size < (W2.alloc (.cells #[.int .i64 l, .slice Ae L.length ce] 30)).heap.size := blk_lt' hbe
    have hgg2 : ∀ g, (Value.slice Ae L.length ce).ownBlock = some g → g < (W2.alloc (.cells #[.int .i64 l, .slice Ae L.length ce] 30)).heap.size := fun g hg => Nat.lt_trans (hge g hg) hs23
    generalize W2.heap.size = eb at *
    generalize W2.alloc (.cells #[.int .i64 l, .slice Ae L.length ce] 30) = W3 at *
    obtain ⟨e0, e1⟩ := HCL.out W3 hx3
    have HBE := Lib.hid hbe
    clear HNE d0 d1 y2 xe hoe hbe
    go_upto_region 7 with (first
      | (go_at_call 11; (with_reducible refine (HTH.out _ hx3).mono ?_); rintro e W4 ⟨Af, cf, rfl, hnf, y4, hof⟩; have HNF := Lib.hid hnf; clear hnf)
      | ((with_reducible show wpList _ _ _ (⟨_, .store 30 _ _, _, _, _, _⟩ :: _) _ _); refine wpList_store_new rfl 30 _ _ rfl W4.heap.size #[.int .i64 l, .slice Af L.length cf] rfl rfl rfl rfl (by exact h30) rfl ?_))
    have hbf := heapNew W4 (.cells #[.int .i64 l, .slice Af L.length cf] 30)
    have xf := Ext.alloc NoB W4 (.cells #[.int .i64 l, .slice Af L.length cf] 30)
    have hgf := QRow.lt HNF.out
    have HNF5 := Lib.hid (HNF.out.ext xf (fun _ _ h => h))
    have HNE5 := Lib.hid ((HNE3.out.ext y4 (fun _ _ h => h)).ext xf (fun _ _ h => h))
    have hbe5 := xf.obj (y4.obj HBE.out id) id
    have hx5 := (hx3.then y4).then xf
    have hs34 := y4.size
    have hs45 : W4.heap.size < (W4.alloc (.cells #[.int .i64 l, .slice Af L.length cf] 30)).heap.size := blk_lt' hbf
    generalize W4.heap.size = fb at *
    generalize W4.alloc (.cells #[.int .i64 l, .slice Af L.length cf] 30) = W5 at *
    have hs03 : W0.heap.size ≤ W3.heap.size := hx3.size
    -- what holds while the second list is written
    obtain ⟨F, hF⟩ : ∃ F : Nat → Prop, F = fun g => (Value.slice Af L.length cf).ownBlock = some g := ⟨_, rfl⟩
    have hFr : ∀ g, F g → W3.heap.size ≤ g ∧ g < fb := fun g hg => by
      rw [hF] at hg
      exact ⟨hof g (by rw [own_sl Af 0 0 L.length cf]; exact hg), hgf g hg⟩
    have hfe : ∀ W, Ext F W5 W → W.heap[fb]? = some (.cells #[.int .i64 l, .slice Af L.length cf] 30 (0, 0)) ∧ W.heap[eb]? = some (.cells #[.int .i64 l, .slice Ae L.length ce] 30 (0, 0)) ∧ NR W (.slice Ae L.length ce) L := fun W hW =>
      ⟨hW.obj hbf (fun h => by have := hFr _ h; omega), hW.obj hbe5 (fun h => by have := hFr _ h; omega), HNE5.out.ext hW (fun g hg h => by have := hFr g h; have := hge g hg; omega)⟩
    have hcf : ∀ W, Ext F W5 W → (W.cell? ⟨fb, 0, none⟩ = some (.int .i64 l) ∧ W.cell? ⟨fb, 1, none⟩ = some (.slice Af L.length cf)) ∧ W.cell? ⟨eb, 0, none⟩ = some (.int .i64 l) ∧ W.cell? ⟨eb, 1, none⟩ = some (.slice Ae L.length ce) := fun W hW => by
      obtain ⟨h1, h2, _⟩ := hfe W hW
      exact ⟨⟨by rw [cellOf h1]; rfl, by rw [cellOf h1]; rfl⟩, by rw [cellOf h2]; rfl, by rw [cellOf h2]; rfl⟩
    have hx5F : ∀ W, Ext F W5 W → Ext NoB W0 W := fun W hW => hx5.trans hW (fun _ _ h => h) (fun i hi hf => by have := hFr i hf; omega)
    have HFE := Lib.hid hfe
    have HCF := Lib.hid hcf
    have HX5 := Lib.hid hx5F
    have HFR := Lib.hid hFr
    have HFF := Lib.hid hF
    have g0 := (hcf W5 (Ext.refl _ _)).1.2
    have hcfm : L.length ≤ cf ∧ cf ≤ maxLen := (NR.rd HNF5.out).cap
    have hcem : L.length ≤ ce ∧ ce ≤ maxLen := (NR.rd HNE5.out).cap
    have h63f : cf ≤ 9223372036854775807 := by have := hcfm.2; unfold maxLen at this; omega
    have h63e : ce ≤ 9223372036854775807 := by have := hcem.2; unfold maxLen at this; omega
    clear hfe hcf hx5F hFr hF hbf hbe5 HBE HNE3 HNF e0 e1 xf y4 hof hgf hge hs03 hs34 hs45 hs23
    have HGE : Hid (∀ g, (Value.slice Ae L.length ce).ownBlock = some g → g < W3.heap.size) := Lib.hid hgg2
    clear hgg2
    have hL0 : QRow W5 50 34 (.slice Af L.length cf) L.length (flatN (rvP L 0)) := by rw [rvP_0]; exact HNF5.out
    have HL0 := Lib.hid hL0
    clear hL0
    go_upto_region 8 with fail
    clear g0
    go_loopw [30] (fun iv W => OvRel W5 L Af cf iv W) (fun iv _ => L.length - (intOf iv).toNat)
    case atStart => exact ⟨0, by omega, rfl, HL0.out, Ext.refl _ _⟩
    case round =>
      obtain ⟨i, hi, rfl, hrow, hx⟩ := hrel
      have hxF : Ext F W5 wr := by rw [HFF.out]; exact hx
      obtain ⟨⟨f0, f1⟩, e0, e1⟩ := HCF.out wr hxF
      by_cases hlt : i < L.length
      · have k1 : (i : Int) < (L.length : Int) := by omega
        obtain ⟨gf, of, cap', hAf, _⟩ := QRow.form HNF5.out (by omega)
        injection hAf with hAf _ hcc
        subst hAf
        subst hcc
        obtain ⟨ge', oe, hAe, hbe, hre⟩ := (NR.rd (HFE.out wr hxF).2.2).at' (L.length - 1 - i) (by omega)
        subst hAe
        have hst := rvP_set hlt
        have hrl := rvP_len hi
        generalize L[L.length - 1 - i] = nd at *
        have hrow2 : NR wr.drew (.slice (some ⟨gf, of, none⟩) (rvP L i).length cf) (rvP L i) := by unfold NR; rw [hrl]; exact hrow.ext (Ext.drew NoB wr) (fun _ _ h => h)
        obtain ⟨hput, hth, hxp⟩ := NR.put hrow2 (i := i) (by omega) nd
        rw [hst, rvP_len (by omega)] at hput
        have hN := sizeNd nd
        have t1 : ((L.length : Int) - 1 - (i : Int)).toNat = L.length - 1 - i := by omega
        have t2 : 0 ≤ (L.length : Int) - 1 - (i : Int) := by omega
        have t3 : (L.length : Int) - 1 - (i : Int) < (L.length : Int) := by omega
        have t4 : ¬ ((L.length : Int) - 1 < (i : Int)) := by omega
        have hw1 := IntWalk.i64_in ((L.length : Int) - 1) (by omega)
        have hw2 := IntWalk.i64_in ((L.length : Int) - 1 - (i : Int)) (by omega)
        generalize L.length - 1 - i = q at *
        have HPUT := Lib.hid (And.intro hput hxp)
        have HHX := Lib.hid hx
        clear hrow hrow2 hst hput hxp
        go_upto_region 10 with fail
        have hN' : (Try.prog.info? 50).map (·.size) = some (nc nd).toArray.size := by rw [List.size_toArray]; exact hN
        have hth' : wr.drew.there gf (of + i * 34) (nc nd).toArray.size := by rw [List.size_toArray, nc_len]; exact hth
        refine wp_region_held_drew (S := fun W => W.cell? ⟨fb, 1, none⟩ = some (.slice (some ⟨gf, of, none⟩) L.length cf) ∧ W.cell? ⟨eb, 1, none⟩ = some (.slice (some ⟨ge', oe, none⟩) L.length ce) ∧ W.rangeAt ge' (oe + q * 34) (nc nd)) (by kernel_rfl) ⟨f1, e1, hre⟩ (fun hHeld => ?_)
        refine wpAnyH_take (i := 0) (oi := ⟨some 33, _, _, _, _, _⟩) (v := .pointer (some ⟨fb, 1, none⟩)) rfl (by kernel_rfl) (by kernel_rfl) (by kernel_rfl) (fun _ _ _ h => h) (Or.inl ⟨by rfl, fun w hSw => by (obtain ⟨s0, s1, s2⟩ := hSw; go_simp)⟩) (by assumption) ?_
        try simp only [Act.put, List.setIfInBounds_toArray, List.set_cons_zero, List.set_cons_succ]
        refine wpAnyH_take (i := 1) (oi := ⟨some 34, _, _, _, _, _⟩) (v := .slice (some ⟨gf, of, none⟩) L.length cf) rfl (by kernel_rfl) (by kernel_rfl) (by kernel_rfl) (fun _ _ _ h => h) (Or.inl ⟨by rfl, fun w hSw => by (obtain ⟨s0, s1, s2⟩ := hSw; go_simp)⟩) (by assumption) ?_
        try simp only [Act.put, List.setIfInBounds_toArray, List.set_cons_zero, List.set_cons_succ]
        refine wpAnyH_take (i := 2) (oi := ⟨some 35, _, _, _, _, _⟩) (v := .int .i64 i) rfl (by kernel_rfl) (by kernel_rfl) (by kernel_rfl) (fun _ _ _ h => h) (Or.inl ⟨by rfl, fun w hSw => by (obtain ⟨s0, s1, s2⟩ := hSw; go_simp)⟩) (by assumption) ?_
        try simp only [Act.put, List.setIfInBounds_toArray, List.set_cons_zero, List.set_cons_succ]
        refine wpAnyH_take (i := 3) (oi := ⟨some 36, _, _, _, _, _⟩) (v := .pointer (some ⟨eb, 1, none⟩)) rfl (by kernel_rfl) (by kernel_rfl) (by kernel_rfl) (fun _ _ _ h => h) (Or.inl ⟨by rfl, fun w hSw => by (obtain ⟨s0, s1, s2⟩ := hSw; go_simp)⟩) (by assumption) ?_
        try simp only [Act.put, List.setIfInBounds_toArray, List.set_cons_zero, List.set_cons_succ]
        refine wpAnyH_take (i := 4) (oi := ⟨some 37, _, _, _, _, _⟩) (v := .slice (some ⟨ge', oe, none⟩) L.length ce) rfl (by kernel_rfl) (by kernel_rfl) (by kernel_rfl) (fun _ _ _ h => h) (Or.inl ⟨by rfl, fun w hSw => by (obtain ⟨s0, s1, s2⟩ := hSw; go_simp)⟩) (by assumption) ?_
        try simp only [Act.put, List.setIfInBounds_toArray, List.set_cons_zero, List.set_cons_succ]
        refine wpAnyH_take (i := 5) (oi := ⟨some 38, _, _, _, _, _⟩) (v := .pointer (some ⟨eb, 1, none⟩)) rfl (by kernel_rfl) (by kernel_rfl) (by kernel_rfl) (fun _ _ _ h => h) (Or.inl ⟨by rfl, fun w hSw => by (obtain ⟨s0, s1, s2⟩ := hSw; go_simp)⟩) (by assumption) ?_
        try simp only [Act.put, List.setIfInBounds_toArray, List.set_cons_zero, List.set_cons_succ]
        refine wpAnyH_take (i := 6) (oi := ⟨some 39, _, _, _, _, _⟩) (v := .slice (some ⟨ge', oe, none⟩) L.length ce) rfl (by kernel_rfl) (by kernel_rfl) (by kernel_rfl) (fun _ _ _ h => h) (Or.inl ⟨by rfl, fun w hSw => by (obtain ⟨s0, s1, s2⟩ := hSw; go_simp)⟩) (by assumption) ?_
        try simp only [Act.put, List.setIfInBounds_toArray, List.set_cons_zero, List.set_cons_succ]
        refine wpAnyH_take (i := 7) (oi := ⟨some 40, _, _, _, _, _⟩) (v := .int .i64 L.length) rfl (by kernel_rfl) (by kernel_rfl) (by kernel_rfl) (fun _ _ _ h => h) (Or.inl ⟨by rfl, fun w hSw => by (obtain ⟨s0, s1, s2⟩ := hSw; go_simp)⟩) (by assumption) ?_
        try simp only [Act.put, List.setIfInBounds_toArray, List.set_cons_zero, List.set_cons_succ]
        refine wpAnyH_take (i := 8) (oi := ⟨some 41, _, _, _, _, _⟩) (v := .int .i64 ((L.length : Int) - 1)) rfl (by kernel_rfl) (by kernel_rfl) (by kernel_rfl) (fun _ _ _ h => h) (Or.inl ⟨by rfl, fun w hSw => by (obtain ⟨s0, s1, s2⟩ := hSw; go_simp)⟩) (by assumption) ?_
        try simp only [Act.put, List.setIfInBounds_toArray, List.set_cons_zero, List.set_cons_succ]
        refine wpAnyH_take (i := 9) (oi := ⟨some 42, _, _, _, _, _⟩) (v := .int .i64 i) rfl (by kernel_rfl) (by kernel_rfl) (by kernel_rfl) (fun _ _ _ h => h) (Or.inl ⟨by rfl, fun w hSw => by (obtain ⟨s0, s1, s2⟩ := hSw; go_simp)⟩) (by assumption) ?_
        try simp only [Act.put, List.setIfInBounds_toArray, List.set_cons_zero, List.set_cons_succ]
        refine wpAnyH_take (i := 10) (oi := ⟨some 43, _, _, _, _, _⟩) (v := .int .i64 ((L.length : Int) - 1 - (i : Int))) rfl (by kernel_rfl) (by kernel_rfl) (by kernel_rfl) (fun _ _ _ h => h) (Or.inl ⟨by rfl, fun w hSw => by (obtain ⟨s0, s1, s2⟩ := hSw; go_simp)⟩) (by assumption) ?_
        try simp only [Act.put, List.setIfInBounds_toArray, List.set_cons_zero, List.set_cons_succ]
        refine wpAnyH_take (i := 11) (oi := ⟨some 44, _, _, _, _, _⟩) (v := .pointer (some ⟨ge', oe + q * 34, none⟩)) rfl (by kernel_rfl) (by kernel_rfl) (by kernel_rfl) (fun _ _ _ h => h) (Or.inl ⟨by rfl, fun w hSw => by (obtain ⟨s0, s1, s2⟩ := hSw; go_simp)⟩) (by assumption) ?_
        try simp only [Act.put, List.setIfInBounds_toArray, List.set_cons_zero, List.set_cons_succ]
        refine' wpAnyH_take (i := 12) (oi := ⟨some 45, _, _, _, _, _⟩) (v := _) rfl (by kernel_rfl) (by kernel_rfl) (by kernel_rfl) (fun _ _ _ h => h) (yieldsIf_load_mid (by rfl) 50 _ (by rfl) (ge') (oe + q * 34) (by rfl) (nc nd) _ (fun w h => h.2.2) Try.underlying50 (by rfl) hN) (by assumption) ?_
        try simp only [Act.put, List.setIfInBounds_toArray, List.set_cons_zero, List.set_cons_succ]
        refine wpAnyH_take (i := 13) (oi := ⟨some 46, _, _, _, _, _⟩) (v := .pointer (some ⟨gf, of + i * 34, none⟩)) rfl (by kernel_rfl) (by kernel_rfl) (by kernel_rfl) (fun _ _ _ h => h) (Or.inl ⟨by rfl, fun w hSw => by (obtain ⟨s0, s1, s2⟩ := hSw; go_simp)⟩) (by assumption) ?_
        try simp only [Act.put, List.setIfInBounds_toArray, List.set_cons_zero, List.set_cons_succ]
        refine wpAnyH_ready (rs := [14]) (by kernel_rfl) (by simp) (AllReadyH.cons (by rfl) (fun K hK => ?_) AllReadyH.nil)
        rw [if_pos (by rfl)]
        refine wp_store_mid 50 _ _ rfl gf (of + i * 34) (nc nd).toArray (by rfl) (by rfl) hth' hN' (all_oneCell_toArray (nc_one nd)) ?_
        have hx2 : Ext (fun g => (Value.slice (some ⟨gf, of, none⟩) L.length cf).ownBlock = some g) W5 (wr.drew.setCells gf (of + i * 34) (nc nd)) := (HHX.out.andDrew).trans HPUT.out.2 (fun _ _ h => h) (fun k hk h => by rw [h]; rfl)
        have hx2F : Ext F W5 (wr.drew.setCells gf (of + i * 34) (nc nd)) := by rw [HFF.out]; exact hx2
        have hcells := HCF.out _ hx2F
        have hS2 : (wr.drew.setCells gf (of + i * 34) (nc nd)).rangeAt ge' (oe + q * 34) (nc nd) := HPUT.out.2.range hHeld.2.2 (fun h => by
          have h1 := HFR.out gf (by rw [HFF.out]; rfl)
          have h2 := HGE.out ge' rfl
          omega)
        refine hK.out _ _ ⟨hcells.1.2, hcells.2.2, hS2⟩ (fun hHeld2 => ?_)
        clear hK K
        try simp only [Act.put, List.setIfInBounds_toArray, List.set_cons_zero, List.set_cons_succ]
        refine wpAnyH_done (by kernel_rfl) ?_ _
        have hEND : OvRel W5 L (some ⟨gf, of, none⟩) cf (.int .i64 ((i + 1 : Nat) : Int)) (wr.drew.setCells gf (of + i * 34) (nc nd)) := ⟨i + 1, by omega, rfl, by have := HPUT.out.1; unfold NR at this; rw [rvP_len (by omega)] at this; exact this, hx2⟩
        have HEND := Lib.hid hEND
        clear hEND hx2 hx2F hcells hS2 hHeld hHeld2 hth hth' f0 f1 e0 e1 hre
        go_wp2_with fail
        exact ⟨by simpa using HEND.out, by simp [intOf]; omega⟩
      · have k1 : ¬ (i : Int) < (L.length : Int) := by omega
        obtain rfl : i = L.length := by omega
        go_upto_region 12 with fail
        rw [rvP_n] at hrow
        have hx6 := HX5.out wr hxF
        obtain ⟨_, hr1, hr2⟩ := HBX.out wr hx6
        have hsz6 : w.heap.size + 1 + 1 < wr.heap.size := Nat.lt_of_lt_of_le hsz hx6.size
        obtain ⟨D, hD⟩ : ∃ D, D = at'.drop 2 := ⟨_, rfl⟩
        have hD10 : D.length = 10 := by rw [hD, List.length_drop, hat]
        have hdr := fun W (hW : Ext NoB wr W) => dr_drop hat hab (hW.range hr2 id) (Nat.lt_of_lt_of_le hsz6 hW.size)
        rw [← hD] at hdr
        obtain ⟨a0, ha0⟩ : ∃ a0, a0 = at'.getD 0 0 := ⟨_, rfl⟩
        have hca : wr.cell? ⟨w.heap.size + 1 + 1, 0, none⟩ = some (.int .u8 a0) := by rw [ha0]; exact at_0 hat hr2
        have hba : 0 ≤ a0 ∧ a0 ≤ 255 := by rw [ha0]; exact at_0b hat hab
        obtain ⟨pv, hpv⟩ : ∃ pv, a0.tmod 16 = pv := ⟨_, rfl⟩
        have hpv1 : a0 % 16 = pv := by rw [← hpv, Int.tmod_eq_emod_of_nonneg hba.1]
        have hpb : 0 ≤ pv ∧ pv < 16 := by omega
        have hwu : IntKind.u8.wrap pv = pv := by unfold IntKind.wrap; simp [IntKind.signed, IntKind.bits]; omega
        have hwi := IntWalk.i64_in pv (by omega)
        have hne6 := (HFE.out wr hxF).2.2
        have hnf6 : NR wr (.slice Af L.reverse.length cf) L.reverse := by unfold NR; rw [List.length_reverse]; exact hrow
        have hrtE := fun W (hW : Ext NoB wr W) => route12 l pv Ae (some ⟨w.heap.size + 1 + 1, 2, none⟩) ce 10 L D m W ((NR.rd hne6).ext hW (fun _ _ _ h => h)) HOK.out (by omega) (hdr W hW)
        have hrtF := fun W (hW : Ext NoB wr W) => route12 l pv Af (some ⟨w.heap.size + 1 + 1, 2, none⟩) cf 10 L.reverse D m W ((NR.rd hnf6).ext hW (fun _ _ _ h => h)) (fun n hn => HOK.out n (List.mem_reverse.1 hn)) (by rw [List.length_reverse]; omega) (hdr W hW)
        obtain ⟨r1, r2, r3⟩ := ans_rev l pv L m D
        rw [r1, r2, r3, List.length_reverse] at hrtF
        have hH5 : (ansH l pv L m D).length ≤ 1000 := by
          unfold ansH
          split
          · rename_i h
            have : chk l L = 0 := by
              unfold ansE at h
              by_cases hE : chk l L = 0
              · exact hE
              · rw [if_neg hE] at h; exact h
            have := chk_lay this
            rw [List.length_map, List.length_range]; omega
          · simp
        generalize ansE l pv L m D.length = aE at *
        generalize ansF l pv L m D = aF at *
        generalize ansH l pv L m D = H at *
        rw [hD10] at hrtE hrtF
        unfold dirv at hrtE hrtF
        have hcE := (HCF.out wr hxF).2
        have hcF := (HCF.out wr hxF).1
        have HTC := Lib.hid (theirs13 m)
        have HRE := Lib.hid hrtE
        have HRF := Lib.hid hrtF
        obtain ⟨ab, hab'⟩ : ∃ ab, ab = w.heap.size + 1 + 1 := ⟨_, rfl⟩
        obtain ⟨cb, hcb'⟩ : ∃ cb, cb = w.heap.size + 1 := ⟨_, rfl⟩
        rw [← hab'] at hca HRE HRF ⊢
        rw [← hcb'] at hr1 ⊢
        clear hab' hcb'
        have HS1 : Hid (∀ W, Ext NoB wr W → (W.cell? ⟨eb, 0, none⟩ = some (.int .i64 l) ∧ W.cell? ⟨eb, 1, none⟩ = some (.slice Ae L.length ce)) ∧ W.cell? ⟨ab, 0, none⟩ = some (.int .u8 a0) ∧ W.rangeAt cb 0 (cc m)) := Lib.hid fun W hW => ⟨⟨hW.cell hcE.1 id, hW.cell hcE.2 id⟩, hW.cell hca id, hW.range hr1 id⟩
        have HS2 : Hid (∀ W, Ext NoB wr W → (W.cell? ⟨fb, 0, none⟩ = some (.int .i64 l) ∧ W.cell? ⟨fb, 1, none⟩ = some (.slice Af L.length cf)) ∧ W.cell? ⟨ab, 0, none⟩ = some (.int .u8 a0) ∧ W.rangeAt cb 0 (cc m)) := Lib.hid fun W hW => ⟨⟨hW.cell hcF.1 id, hW.cell hcF.2 id⟩, hW.cell hca id, hW.range hr1 id⟩
        have HX6 := Lib.hid hx6
        clear hrow hr1 hr2 hsz6 hdr hca ha0 hne6 hnf6 hrtE hrtF r1 r2 r3 hcE hcF hx6 hx hD hsz
        have x22 := Ext.drew NoB wr
        refine wp_region_held_drew (S := fun W => (W.cell? ⟨eb, 0, none⟩ = some (.int .i64 l) ∧ W.cell? ⟨eb, 1, none⟩ = some (.slice Ae L.length ce)) ∧ W.cell? ⟨ab, 0, none⟩ = some (.int .u8 a0) ∧ W.rangeAt cb 0 (cc m)) (by kernel_rfl) (HS1.out _ x22) (fun hHeld => ?_)
        refine wpAnyH_take (i := 0) (oi := ⟨some 49, _, _, _, _, _⟩) (v := .agg #[.int .i64 l, .slice Ae L.length ce]) rfl (by kernel_rfl) (by kernel_rfl) (by kernel_rfl) (fun _ _ _ h => h) (Or.inl ⟨by rfl, fun w hSw => by (obtain ⟨⟨s0, s1⟩, s2, s3⟩ := hSw; go_simp)⟩) (by assumption) ?_
        try simp only [Act.put, List.setIfInBounds_toArray, List.set_cons_zero, List.set_cons_succ]
        refine wpAnyH_take (i := 1) (oi := ⟨some 50, _, _, _, _, _⟩) (v := .pointer (some ⟨ab, 0, none⟩)) rfl (by kernel_rfl) (by kernel_rfl) (by kernel_rfl) (fun _ _ _ h => h) (Or.inl ⟨by rfl, fun w hSw => by (obtain ⟨⟨s0, s1⟩, s2, s3⟩ := hSw; go_simp)⟩) (by assumption) ?_
        try simp only [Act.put, List.setIfInBounds_toArray, List.set_cons_zero, List.set_cons_succ]
        refine wpAnyH_take (i := 2) (oi := ⟨some 51, _, _, _, _, _⟩) (v := .int .u8 a0) rfl (by kernel_rfl) (by kernel_rfl) (by kernel_rfl) (fun _ _ _ h => h) (Or.inl ⟨by rfl, fun w hSw => by (obtain ⟨⟨s0, s1⟩, s2, s3⟩ := hSw; go_simp)⟩) (by assumption) ?_
        try simp only [Act.put, List.setIfInBounds_toArray, List.set_cons_zero, List.set_cons_succ]
        refine wpAnyH_take (i := 3) (oi := ⟨some 52, _, _, _, _, _⟩) (v := .int .u8 pv) rfl (by kernel_rfl) (by kernel_rfl) (by kernel_rfl) (fun _ _ _ h => h) (Or.inl ⟨by rfl, fun w hSw => by (obtain ⟨⟨s0, s1⟩, s2, s3⟩ := hSw; go_simp)⟩) (by assumption) ?_
        try simp only [Act.put, List.setIfInBounds_toArray, List.set_cons_zero, List.set_cons_succ]
        refine wpAnyH_take (i := 4) (oi := ⟨some 53, _, _, _, _, _⟩) (v := .int .i64 pv) rfl (by kernel_rfl) (by kernel_rfl) (by kernel_rfl) (fun _ _ _ h => h) (Or.inl ⟨by rfl, fun w hSw => by (obtain ⟨⟨s0, s1⟩, s2, s3⟩ := hSw; go_simp)⟩) (by assumption) ?_
        try simp only [Act.put, List.setIfInBounds_toArray, List.set_cons_zero, List.set_cons_succ]
        refine' wpAnyH_take (i := 5) (oi := ⟨some 54, _, _, _, _, _⟩) (v := _) rfl (by kernel_rfl) (by kernel_rfl) (by kernel_rfl) (fun _ _ _ h => h) (yieldsIf_load_mid (by rfl) 48 _ (by rfl) (cb) (0) (by rfl) (cc m) _ (fun w h => h.2.2) Try.underlying48 (by rfl) s48) (by assumption) ?_
        try simp only [Act.put, List.setIfInBounds_toArray, List.set_cons_zero, List.set_cons_succ]
        refine wpAnyH_take (i := 7) (oi := ⟨some 56, _, _, _, _, _⟩) (v := .slice (some ⟨ab, 2, none⟩) 10 10) rfl (by kernel_rfl) (by kernel_rfl) (by kernel_rfl) (fun _ _ _ h => h) (Or.inl ⟨by rfl, fun w hSw => by (obtain ⟨⟨s0, s1⟩, s2, s3⟩ := hSw; go_simp)⟩) (by assumption) ?_
        try simp only [Act.put, List.setIfInBounds_toArray, List.set_cons_zero, List.set_cons_succ]
        refine wpAnyH_ready (rs := [6]) (by kernel_rfl) (by simp) (AllReadyH.cons (by rfl) (fun K hK => ?_) AllReadyH.nil)
        go_simp
        refine (HTC.out _).mono ?_
        rintro e V1 ⟨rfl, y1⟩
        have x22 := x22.then y1
        go_simp
        refine hK.out _ _ (HS1.out _ x22) (fun hHeld => ?_)
        clear hK K
        try simp only [Act.put, List.setIfInBounds_toArray, List.set_cons_zero, List.set_cons_succ]
        refine wpAnyH_ready (rs := [8]) (by kernel_rfl) (by simp) (AllReadyH.cons (by rfl) (fun K hK => ?_) AllReadyH.nil)
        go_simp
        refine (HRE.out _ x22).mono ?_
        rintro e V2 ⟨A8, c8, rfl, hh, y2⟩
        have x22 := x22.then y2
        have HH8 := Lib.hid hh
        clear hh
        go_simp
        refine hK.out _ _ (HS1.out _ x22) (fun hHeld => ?_)
        clear hK K
        try simp only [Act.put, List.setIfInBounds_toArray, List.set_cons_zero, List.set_cons_succ]
        refine wpAnyH_take (i := 9) (oi := ⟨some 48, _, _, _, _, _⟩) (v := .tuple #[.int .i64 aF, .slice A8 H.length c8, .int .i64 aE]) rfl (by kernel_rfl) (by kernel_rfl) (by kernel_rfl) (fun _ _ _ h => h) (Or.inl ⟨by rfl, fun w hSw => by (obtain ⟨⟨s0, s1⟩, s2, s3⟩ := hSw; go_simp)⟩) (by assumption) ?_
        try simp only [Act.put, List.setIfInBounds_toArray, List.set_cons_zero, List.set_cons_succ]
        refine wpAnyH_take (i := 10) (oi := ⟨some 58, _, _, _, _, _⟩) (v := .int .i64 aF) rfl (by kernel_rfl) (by kernel_rfl) (by kernel_rfl) (fun _ _ _ h => h) (Or.inl ⟨by rfl, fun w hSw => by (obtain ⟨⟨s0, s1⟩, s2, s3⟩ := hSw; go_simp)⟩) (by assumption) ?_
        try simp only [Act.put, List.setIfInBounds_toArray, List.set_cons_zero, List.set_cons_succ]
        refine wpAnyH_take (i := 11) (oi := ⟨some 59, _, _, _, _, _⟩) (v := .slice A8 H.length c8) rfl (by kernel_rfl) (by kernel_rfl) (by kernel_rfl) (fun _ _ _ h => h) (Or.inl ⟨by rfl, fun w hSw => by (obtain ⟨⟨s0, s1⟩, s2, s3⟩ := hSw; go_simp)⟩) (by assumption) ?_
        try simp only [Act.put, List.setIfInBounds_toArray, List.set_cons_zero, List.set_cons_succ]
        refine wpAnyH_take (i := 12) (oi := ⟨some 60, _, _, _, _, _⟩) (v := .int .i64 aE) rfl (by kernel_rfl) (by kernel_rfl) (by kernel_rfl) (fun _ _ _ h => h) (Or.inl ⟨by rfl, fun w hSw => by (obtain ⟨⟨s0, s1⟩, s2, s3⟩ := hSw; go_simp)⟩) (by assumption) ?_
        try simp only [Act.put, List.setIfInBounds_toArray, List.set_cons_zero, List.set_cons_succ]
        refine wpAnyH_take (i := 13) (oi := ⟨some 10, _, _, _, _, _⟩) (v := .int .i64 aF) rfl (by kernel_rfl) (by kernel_rfl) (by kernel_rfl) (fun _ _ _ h => h) (Or.inl ⟨by rfl, fun w hSw => by (obtain ⟨⟨s0, s1⟩, s2, s3⟩ := hSw; go_simp)⟩) (by assumption) ?_
        try simp only [Act.put, List.setIfInBounds_toArray, List.set_cons_zero, List.set_cons_succ]
        refine wpAnyH_take (i := 14) (oi := ⟨some 11, _, _, _, _, _⟩) (v := .slice A8 H.length c8) rfl (by kernel_rfl) (by kernel_rfl) (by kernel_rfl) (fun _ _ _ h => h) (Or.inl ⟨by rfl, fun w hSw => by (obtain ⟨⟨s0, s1⟩, s2, s3⟩ := hSw; go_simp)⟩) (by assumption) ?_
        try simp only [Act.put, List.setIfInBounds_toArray, List.set_cons_zero, List.set_cons_succ]
        refine wpAnyH_take (i := 15) (oi := ⟨some 12, _, _, _, _, _⟩) (v := .int .i64 aE) rfl (by kernel_rfl) (by kernel_rfl) (by kernel_rfl) (fun _ _ _ h => h) (Or.inl ⟨by rfl, fun w hSw => by (obtain ⟨⟨s0, s1⟩, s2, s3⟩ := hSw; go_simp)⟩) (by assumption) ?_
        try simp only [Act.put, List.setIfInBounds_toArray, List.set_cons_zero, List.set_cons_succ]
        refine wpAnyH_done (by kernel_rfl) ?_ _
        clear hHeld
        go_upto_region 13 with fail
        have x22 := x22.andDrew
        have z22 := Ext.drew NoB V2
        refine wp_region_held_drew (S := fun W => (W.cell? ⟨fb, 0, none⟩ = some (.int .i64 l) ∧ W.cell? ⟨fb, 1, none⟩ = some (.slice Af L.length cf)) ∧ W.cell? ⟨ab, 0, none⟩ = some (.int .u8 a0) ∧ W.rangeAt cb 0 (cc m)) (by kernel_rfl) (HS2.out _ x22) (fun hHeld => ?_)
        refine wpAnyH_take (i := 0) (oi := ⟨some 62, _, _, _, _, _⟩) (v := .agg #[.int .i64 l, .slice Af L.length cf]) rfl (by kernel_rfl) (by kernel_rfl) (by kernel_rfl) (fun _ _ _ h => h) (Or.inl ⟨by rfl, fun w hSw => by (obtain ⟨⟨s0, s1⟩, s2, s3⟩ := hSw; go_simp)⟩) (by assumption) ?_
        try simp only [Act.put, List.setIfInBounds_toArray, List.set_cons_zero, List.set_cons_succ]
        refine wpAnyH_take (i := 1) (oi := ⟨some 63, _, _, _, _, _⟩) (v := .pointer (some ⟨ab, 0, none⟩)) rfl (by kernel_rfl) (by kernel_rfl) (by kernel_rfl) (fun _ _ _ h => h) (Or.inl ⟨by rfl, fun w hSw => by (obtain ⟨⟨s0, s1⟩, s2, s3⟩ := hSw; go_simp)⟩) (by assumption) ?_
        try simp only [Act.put, List.setIfInBounds_toArray, List.set_cons_zero, List.set_cons_succ]
        refine wpAnyH_take (i := 2) (oi := ⟨some 64, _, _, _, _, _⟩) (v := .int .u8 a0) rfl (by kernel_rfl) (by kernel_rfl) (by kernel_rfl) (fun _ _ _ h => h) (Or.inl ⟨by rfl, fun w hSw => by (obtain ⟨⟨s0, s1⟩, s2, s3⟩ := hSw; go_simp)⟩) (by assumption) ?_
        try simp only [Act.put, List.setIfInBounds_toArray, List.set_cons_zero, List.set_cons_succ]
        refine wpAnyH_take (i := 3) (oi := ⟨some 65, _, _, _, _, _⟩) (v := .int .u8 pv) rfl (by kernel_rfl) (by kernel_rfl) (by kernel_rfl) (fun _ _ _ h => h) (Or.inl ⟨by rfl, fun w hSw => by (obtain ⟨⟨s0, s1⟩, s2, s3⟩ := hSw; go_simp)⟩) (by assumption) ?_
        try simp only [Act.put, List.setIfInBounds_toArray, List.set_cons_zero, List.set_cons_succ]
        refine wpAnyH_take (i := 4) (oi := ⟨some 66, _, _, _, _, _⟩) (v := .int .i64 pv) rfl (by kernel_rfl) (by kernel_rfl) (by kernel_rfl) (fun _ _ _ h => h) (Or.inl ⟨by rfl, fun w hSw => by (obtain ⟨⟨s0, s1⟩, s2, s3⟩ := hSw; go_simp)⟩) (by assumption) ?_
        try simp only [Act.put, List.setIfInBounds_toArray, List.set_cons_zero, List.set_cons_succ]
        refine' wpAnyH_take (i := 5) (oi := ⟨some 67, _, _, _, _, _⟩) (v := _) rfl (by kernel_rfl) (by kernel_rfl) (by kernel_rfl) (fun _ _ _ h => h) (yieldsIf_load_mid (by rfl) 48 _ (by rfl) (cb) (0) (by rfl) (cc m) _ (fun w h => h.2.2) Try.underlying48 (by rfl) s48) (by assumption) ?_
        try simp only [Act.put, List.setIfInBounds_toArray, List.set_cons_zero, List.set_cons_succ]
        refine wpAnyH_take (i := 7) (oi := ⟨some 69, _, _, _, _, _⟩) (v := .slice (some ⟨ab, 2, none⟩) 10 10) rfl (by kernel_rfl) (by kernel_rfl) (by kernel_rfl) (fun _ _ _ h => h) (Or.inl ⟨by rfl, fun w hSw => by (obtain ⟨⟨s0, s1⟩, s2, s3⟩ := hSw; go_simp)⟩) (by assumption) ?_
        try simp only [Act.put, List.setIfInBounds_toArray, List.set_cons_zero, List.set_cons_succ]
        refine wpAnyH_ready (rs := [6]) (by kernel_rfl) (by simp) (AllReadyH.cons (by rfl) (fun K hK => ?_) AllReadyH.nil)
        go_simp
        refine (HTC.out _).mono ?_
        rintro e V3 ⟨rfl, y1⟩
        have x22 := x22.then y1
        have z22 := z22.then y1
        go_simp
        refine hK.out _ _ (HS2.out _ x22) (fun hHeld => ?_)
        clear hK K
        try simp only [Act.put, List.setIfInBounds_toArray, List.set_cons_zero, List.set_cons_succ]
        refine wpAnyH_ready (rs := [8]) (by kernel_rfl) (by simp) (AllReadyH.cons (by rfl) (fun K hK => ?_) AllReadyH.nil)
        go_simp
        refine (HRF.out _ x22).mono ?_
        rintro e V4 ⟨A9, c9, rfl, hh, y2⟩
        have x22 := x22.then y2
        have z22 := z22.then y2
        have HH9 := Lib.hid hh
        clear hh
        go_simp
        refine hK.out _ _ (HS2.out _ x22) (fun hHeld => ?_)
        clear hK K
        try simp only [Act.put, List.setIfInBounds_toArray, List.set_cons_zero, List.set_cons_succ]
        refine wpAnyH_take (i := 9) (oi := ⟨some 61, _, _, _, _, _⟩) (v := .tuple #[.int .i64 aF, .slice A9 H.length c9, .int .i64 aE]) rfl (by kernel_rfl) (by kernel_rfl) (by kernel_rfl) (fun _ _ _ h => h) (Or.inl ⟨by rfl, fun w hSw => by (obtain ⟨⟨s0, s1⟩, s2, s3⟩ := hSw; go_simp)⟩) (by assumption) ?_
        try simp only [Act.put, List.setIfInBounds_toArray, List.set_cons_zero, List.set_cons_succ]
        refine wpAnyH_take (i := 10) (oi := ⟨some 71, _, _, _, _, _⟩) (v := .int .i64 aF) rfl (by kernel_rfl) (by kernel_rfl) (by kernel_rfl) (fun _ _ _ h => h) (Or.inl ⟨by rfl, fun w hSw => by (obtain ⟨⟨s0, s1⟩, s2, s3⟩ := hSw; go_simp)⟩) (by assumption) ?_
        try simp only [Act.put, List.setIfInBounds_toArray, List.set_cons_zero, List.set_cons_succ]
        refine wpAnyH_take (i := 11) (oi := ⟨some 72, _, _, _, _, _⟩) (v := .slice A9 H.length c9) rfl (by kernel_rfl) (by kernel_rfl) (by kernel_rfl) (fun _ _ _ h => h) (Or.inl ⟨by rfl, fun w hSw => by (obtain ⟨⟨s0, s1⟩, s2, s3⟩ := hSw; go_simp)⟩) (by assumption) ?_
        try simp only [Act.put, List.setIfInBounds_toArray, List.set_cons_zero, List.set_cons_succ]
        refine wpAnyH_take (i := 12) (oi := ⟨some 73, _, _, _, _, _⟩) (v := .int .i64 aE) rfl (by kernel_rfl) (by kernel_rfl) (by kernel_rfl) (fun _ _ _ h => h) (Or.inl ⟨by rfl, fun w hSw => by (obtain ⟨⟨s0, s1⟩, s2, s3⟩ := hSw; go_simp)⟩) (by assumption) ?_
        try simp only [Act.put, List.setIfInBounds_toArray, List.set_cons_zero, List.set_cons_succ]
        refine wpAnyH_take (i := 13) (oi := ⟨some 13, _, _, _, _, _⟩) (v := .int .i64 aF) rfl (by kernel_rfl) (by kernel_rfl) (by kernel_rfl) (fun _ _ _ h => h) (Or.inl ⟨by rfl, fun w hSw => by (obtain ⟨⟨s0, s1⟩, s2, s3⟩ := hSw; go_simp)⟩) (by assumption) ?_
        try simp only [Act.put, List.setIfInBounds_toArray, List.set_cons_zero, List.set_cons_succ]
        refine wpAnyH_take (i := 14) (oi := ⟨some 14, _, _, _, _, _⟩) (v := .slice A9 H.length c9) rfl (by kernel_rfl) (by kernel_rfl) (by kernel_rfl) (fun _ _ _ h => h) (Or.inl ⟨by rfl, fun w hSw => by (obtain ⟨⟨s0, s1⟩, s2, s3⟩ := hSw; go_simp)⟩) (by assumption) ?_
        try simp only [Act.put, List.setIfInBounds_toArray, List.set_cons_zero, List.set_cons_succ]
        refine wpAnyH_take (i := 15) (oi := ⟨some 15, _, _, _, _, _⟩) (v := .int .i64 aE) rfl (by kernel_rfl) (by kernel_rfl) (by kernel_rfl) (fun _ _ _ h => h) (Or.inl ⟨by rfl, fun w hSw => by (obtain ⟨⟨s0, s1⟩, s2, s3⟩ := hSw; go_simp)⟩) (by assumption) ?_
        try simp only [Act.put, List.setIfInBounds_toArray, List.set_cons_zero, List.set_cons_succ]
        refine wpAnyH_done (by kernel_rfl) ?_ _
        clear hHeld
        have h88 := QRow.ext HH8.out z22 (fun _ _ h => h)
        have hd8 := GR.rd hc_len (by decide) h88
        have hd9 := GR.rd hc_len (by decide) HH9.out
        have hc8 : H.length ≤ c8 ∧ c8 ≤ 9223372036854775807 := by have := hd8.cap; unfold maxLen at this; omega
        have hc9 : H.length ≤ c9 ∧ c9 ≤ 9223372036854775807 := by have := hd9.cap; unfold maxLen at this; omega
        have HD8 := Lib.hid hd8
        have HD9 := Lib.hid hd9
        have HXX := Lib.hid (HX6.out.then x22)
        clear h88 hd8 hd9 HH8 HH9 x22 z22 y1 y2 HS1 HS2 HRE HRF HTC hpv hpv1 hwu hwi
        go_upto_region 17 with fail
        go_loopw [91] (fun iv W => OcRel V4 H.length iv W) (fun iv _ => H.length - (intOf iv).toNat)
        case atStart => exact ⟨0, by omega, rfl, Ext.refl _ _⟩
        case round =>
          obtain ⟨i, hi, rfl, hx⟩ := hrel
          by_cases hlt : i < H.length
          · have k2 : (i : Int) < (H.length : Int) := by omega
            obtain ⟨b1, o1, rfl, _, hr1⟩ := (HD8.out.ext hx (fun _ _ _ h => h)).at' i hlt
            obtain ⟨b2, o2, rfl, _, hr2⟩ := (HD9.out.ext hx (fun _ _ _ h => h)).at' i hlt
            have sH := sizeHp H[i]
            have heq := neq_hop H[i]
            generalize H[i] = h at *
            go_upto_region 19 with fail
            refine wp_region_held_drew (S := fun W => W.rangeAt b1 (o1 + i * 43) (hc h) ∧ W.rangeAt b2 (o2 + i * 43) (hc h)) (by kernel_rfl) ⟨hr1, hr2⟩ (fun hHeld => ?_)
            refine wpAnyH_take (i := 0) (oi := ⟨some 94, _, _, _, _, _⟩) (v := .slice (some ⟨b1, o1, none⟩) H.length c8) rfl (by kernel_rfl) (by kernel_rfl) (by kernel_rfl) (fun _ _ _ h => h) (Or.inl ⟨by rfl, fun w hSw => by (obtain ⟨s0, s1⟩ := hSw; go_simp)⟩) (by assumption) ?_
            try simp only [Act.put, List.setIfInBounds_toArray, List.set_cons_zero, List.set_cons_succ]
            refine wpAnyH_take (i := 1) (oi := ⟨some 95, _, _, _, _, _⟩) (v := .int .i64 i) rfl (by kernel_rfl) (by kernel_rfl) (by kernel_rfl) (fun _ _ _ h => h) (Or.inl ⟨by rfl, fun w hSw => by (obtain ⟨s0, s1⟩ := hSw; go_simp)⟩) (by assumption) ?_
            try simp only [Act.put, List.setIfInBounds_toArray, List.set_cons_zero, List.set_cons_succ]
            refine wpAnyH_take (i := 2) (oi := ⟨some 96, _, _, _, _, _⟩) (v := .pointer (some ⟨b1, o1 + i * 43, none⟩)) rfl (by kernel_rfl) (by kernel_rfl) (by kernel_rfl) (fun _ _ _ h => h) (Or.inl ⟨by rfl, fun w hSw => by (obtain ⟨s0, s1⟩ := hSw; go_simp)⟩) (by assumption) ?_
            try simp only [Act.put, List.setIfInBounds_toArray, List.set_cons_zero, List.set_cons_succ]
            refine' wpAnyH_take (i := 3) (oi := ⟨some 97, _, _, _, _, _⟩) (v := _) rfl (by kernel_rfl) (by kernel_rfl) (by kernel_rfl) (fun _ _ _ h => h) (yieldsIf_load_mid (by rfl) 45 _ (by rfl) (b1) (o1 + i * 43) (by rfl) (hc h) _ (fun w h => h.1) Try.underlying45 (by rfl) sH) (by assumption) ?_
            try simp only [Act.put, List.setIfInBounds_toArray, List.set_cons_zero, List.set_cons_succ]
            refine wpAnyH_take (i := 4) (oi := ⟨some 98, _, _, _, _, _⟩) (v := .slice (some ⟨b2, o2, none⟩) H.length c9) rfl (by kernel_rfl) (by kernel_rfl) (by kernel_rfl) (fun _ _ _ h => h) (Or.inl ⟨by rfl, fun w hSw => by (obtain ⟨s0, s1⟩ := hSw; go_simp)⟩) (by assumption) ?_
            try simp only [Act.put, List.setIfInBounds_toArray, List.set_cons_zero, List.set_cons_succ]
            refine wpAnyH_take (i := 5) (oi := ⟨some 99, _, _, _, _, _⟩) (v := .int .i64 i) rfl (by kernel_rfl) (by kernel_rfl) (by kernel_rfl) (fun _ _ _ h => h) (Or.inl ⟨by rfl, fun w hSw => by (obtain ⟨s0, s1⟩ := hSw; go_simp)⟩) (by assumption) ?_
            try simp only [Act.put, List.setIfInBounds_toArray, List.set_cons_zero, List.set_cons_succ]
            refine wpAnyH_take (i := 6) (oi := ⟨some 100, _, _, _, _, _⟩) (v := .pointer (some ⟨b2, o2 + i * 43, none⟩)) rfl (by kernel_rfl) (by kernel_rfl) (by kernel_rfl) (fun _ _ _ h => h) (Or.inl ⟨by rfl, fun w hSw => by (obtain ⟨s0, s1⟩ := hSw; go_simp)⟩) (by assumption) ?_
            try simp only [Act.put, List.setIfInBounds_toArray, List.set_cons_zero, List.set_cons_succ]
            refine' wpAnyH_take (i := 7) (oi := ⟨some 101, _, _, _, _, _⟩) (v := _) rfl (by kernel_rfl) (by kernel_rfl) (by kernel_rfl) (fun _ _ _ h => h) (yieldsIf_load_mid (by rfl) 45 _ (by rfl) (b2) (o2 + i * 43) (by rfl) (hc h) _ (fun w h => h.2) Try.underlying45 (by rfl) sH) (by assumption) ?_
            try simp only [Act.put, List.setIfInBounds_toArray, List.set_cons_zero, List.set_cons_succ]
            refine wpAnyH_take (i := 8) (oi := ⟨some 102, _, _, _, _, _⟩) (v := .bool false) rfl (by kernel_rfl) (by kernel_rfl) (by kernel_rfl) (fun _ _ _ h => h) (Or.inl ⟨by rfl, fun w hSw => by (obtain ⟨s0, s1⟩ := hSw; go_simp)⟩) (by assumption) ?_
            try simp only [Act.put, List.setIfInBounds_toArray, List.set_cons_zero, List.set_cons_succ]
            refine wpAnyH_done (by kernel_rfl) ?_ _
            have hEND : OcRel V4 H.length (.int .i64 ((i + 1 : Nat) : Int)) wr.drew := ⟨i + 1, by omega, rfl, hx.andDrew⟩
            have HEND := Lib.hid hEND
            clear hEND hHeld heq hr1 hr2
            go_wp2_with fail
            exact ⟨by simpa using HEND.out, by simp [intOf]; omega⟩
          · have k2 : ¬ (i : Int) < (H.length : Int) := by omega
            go_wp2_with fail
            go_ret
            exact ⟨rfl, (x0.then HXX.out).then hx⟩
  · have hm1 : 100 < (L.length : Int) := by omega
    go_wp2_with fail
    go_ret
    exact ⟨rfl, x0.then x1⟩
end Go.Proofs.Ytdibjnlmeiikmaa
