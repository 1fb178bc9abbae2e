/-
  Hops: the document's hops, turned into the program's.
-/
import Derived.Test.YtdibjnlmeiikmaaZf
import Derived.Deep.RegionHeld3
import Derived.Deep.MidRow
set_option linter.unusedVariables false
set_option linter.unusedSimpArgs false
namespace Go.Proofs.Ytdibjnlmeiikmaa
open Go.RowKit Go.Proofs

theorem yieldsIf_build45 {ops : Array Oper} {S : World → Prop} {o : Oper} {a : Act} (hw : Region.wanted o (yielded ops a.tmps) = true) (x y : Operand)
    (ho : o.op = .build 45 #[(0, x), (1, y)]) (B C : List Value) (hB : B.length = 32) (hC : C.length = 11) (hx : a.eval x = .agg B.toArray) (hy : a.eval y = .agg C.toArray) : YieldsIf Try.prog ops S o (.agg (B ++ C).toArray) a :=
  .inl ⟨hw, fun w _ => by
    have hr := run_build45 w B C hB hC
    unfold execOp
    simp only [ho, List.map_toArray, List.map_cons, List.map_nil, hx, hy, Sem.run_bind, Sem.run_pure, hr, Result.andThen_ok]⟩
theorem step_slice45 {ops : Array Oper} {o : Oper} {a : Act} {w : World} {K : Act → World → Prop} {Q : Exit → Act → World → Prop} {E : Prop} (hgd : o.guard = none) (x : Operand)
    (ho : o.op = .buildSlice 37 1 #[(0, x)]) (C : List Value) (hC : C.length = 43) (hx : a.eval x = .agg C.toArray)
    (hK : K (a.put o.dst (.slice (some ⟨w.heap.size, 0, none⟩) 1 1)) (w.alloc (.cells C.toArray 45))) : if Region.wanted o (yielded ops a.tmps) = true then Oper.wp Try.prog o a w K Q else E := by
  have hw : Region.wanted o (yielded ops a.tmps) = true := by simp [Region.wanted, hgd]
  rw [if_pos hw]
  have hr := run_slice45 w C hC
  unfold Oper.wp execOp
  simp only [ho, List.map_toArray, List.map_cons, List.map_nil, hx, Sem.run_bind, Sem.run_pure, hr, Result.andThen_ok]
  exact hK
/-- Between two rounds of Hops' loop. -/
def HoRel (w : World) (L : List Hp) (ov iv : Value) (W : World) : Prop :=
  ∃ (k : Nat) (A' : Option Addr) (c' : Nat), k ≤ L.length ∧ iv = .int .i64 k ∧ ov = .slice A' k c' ∧ QRow W 45 43 (.slice A' k c') k (flatG hc (L.take k)) ∧ Ext NoB w W ∧ ∀ g, (Value.slice A' 0 0).ownBlock = some g → w.heap.size ≤ g
theorem own_sl (A : Option Addr) (n c n' c' : Nat) : (Value.slice A n c).ownBlock = (Value.slice A n' c').ownBlock := by cases A <;> rfl
theorem hc_k : ∀ x, (hc x).length = 43 := hc_len
set_option maxHeartbeats 3200000 in
set_option maxRecDepth 100000 in
theorem hops21 (A : Option Addr) (c : Nat) (L : List Hp) (w : World) (hr : HRd w A c L) (hlen : L.length ≤ 1000) :
    Calls Try.prog 21 #[.slice A L.length c] w fun e w' => ∃ A' c', e = .returned (.slice A' L.length c') ∧ HR w' (.slice A' L.length c') L ∧ Ext NoB w w' ∧ ∀ g, (Value.slice A' 0 0).ownBlock = some g → w.heap.size ≤ g := by
  have h63 : c ≤ 9223372036854775807 := by have := hr.cap.2; unfold maxLen at this; omega
  have hcap := hr.cap.1
  have HR := Lib.hid hr
  clear hr
  go_enter Try.func21, Try.ntmps21
  go_wp2_with fail
  go_loopw [3, 8] (fun ov iv W => HoRel w L ov iv W) (fun _ iv _ => L.length - (intOf iv).toNat)
  case atStart => exact ⟨0, none, 0, by omega, rfl, rfl, QRow.nil _ _ _, Ext.refl _ _, fun g hg => by cases hg⟩
  case round =>
    obtain ⟨k, A', c', hk, rfl, rfl, hrow, hx, hown⟩ := hrel
    by_cases hlt : k < L.length
    · have k1 : (k : Int) < (L.length : Int) := by omega
      obtain ⟨b, o, rfl, hb, hra⟩ := (HR.out.ext hx (fun _ _ _ h => h)).at' k hlt
      have htk : L.take (k + 1) = L.take k ++ [L[k]] := by rw [List.take_succ_eq_append_getElem hlt]
      have hN : (Try.prog.info? 60).map (·.size) = some (hc L[k]).length := by rw [hc_len]; kernel_rfl
      generalize L[k] = h at *
      obtain ⟨V, hV⟩ : ∃ V, V = (hc h).toArray := ⟨_, rfl⟩
      have lV : V.size = 43 := by rw [hV]; simp [hc_len]
      have sV : (Try.prog.info? 60).map (·.size) = some V.size := by rw [lV]; kernel_rfl
      have oV : V.all (·.oneCell') = true := by rw [hV]; exact all_oneCell_toArray (hc_one h)
      have hbV : (wr.alloc (.cells V 60)).heap[wr.heap.size]? = some (.cells (hc h).toArray 60 (0, 0)) := by rw [← hV]; exact heapNew _ _
      have xV := Ext.alloc NoB wr (.cells V 60)
      have HVV := Lib.hid hV
      have HRA := Lib.hid hra
      have HTK := Lib.hid htk
      have HROW := Lib.hid hrow
      clear hV hra htk hrow
      go_upto_region 5 with (first
        | ((with_reducible show wpList _ _ _ (⟨_, .load 60 _, _, _, _, _⟩ :: _) _ _); refine wpList_load_arrm (by rfl) 60 _ rfl b (o + k * 43) rfl (hc h) _ HRA.out Try.underlying60 rfl hN ?_)
        | ((with_reducible show wpList _ _ _ (⟨_, .store 60 _ _, _, _, _, _⟩ :: _) _ _); refine wpList_store_new rfl 60 _ _ rfl wr.heap.size V rfl (by rw [HVV.out]; rfl) rfl (by rw [lV]; rfl) sV oV ?_))
      generalize hW1 : wr.alloc (.cells V 60) = W1 at *
      have hgl : ∀ g, (Value.slice A' k c').ownBlock = some g → g < wr.heap.size := fun g hg => QRow.lt HROW.out g hg
      have hrng : ∀ W, Ext (fun g => (Value.slice A' k c').ownBlock = some g) W1 W → W.rangeAt wr.heap.size 0 (bys h.key) ∧ W.rangeAt wr.heap.size 32 (cc h.cmd) := fun W hW => by
        have := nd_box (hW.obj hbV (fun hf => Nat.lt_irrefl _ (hgl _ hf)))
        have h2 := hp_cmd this
        rw [Nat.zero_add] at h2
        exact ⟨hp_key this, h2⟩
      have HRNG := Lib.hid hrng
      have sK : (Try.prog.info? 33).map (·.size) = some (bys h.key).length := by rw [bys_length, h.len]; exact Try.size33
      have sC : (Try.prog.info? 48).map (·.size) = some (cc h.cmd).length := by rw [cc_len]; kernel_rfl
      have x0 : Ext NoB W1 W1.drew := Ext.drew _ _
      have HTH := Lib.hid (theirs13 h.cmd)
      have HXV := Lib.hid xV
      have HBV := Lib.hid hbV
      have HOWN := Lib.hid hown
      have HGL := Lib.hid hgl
      have HX := Lib.hid hx
      clear hrng hgl hbV xV hown hx hW1
      refine wp_region_held_drew (S := fun W => Ext (fun g => (Value.slice A' k c').ownBlock = some g) W1 W) (by kernel_rfl) ?_ (fun hHeld => ?_)
      · exact Ext.drew _ _
      refine wpAnyH_take (i := 0) (oi := ⟨some 12, _, _, _, _, _⟩) (v := .slice A' k c') rfl (by kernel_rfl) (by kernel_rfl) (by kernel_rfl) (fun _ _ _ h => h) (Or.inl ⟨by rfl, fun w hSw => by (obtain _ := hSw; go_simp)⟩) (by assumption) ?_
      try simp only [Act.put, List.setIfInBounds_toArray, List.set_cons_zero, List.set_cons_succ]
      refine wpAnyH_take (i := 1) (oi := ⟨some 13, _, _, _, _, _⟩) (v := .pointer (some ⟨wr.heap.size, 0, none⟩)) rfl (by kernel_rfl) (by kernel_rfl) (by kernel_rfl) (fun _ _ _ h => h) (Or.inl ⟨by rfl, fun w hSw => by (obtain _ := hSw; go_simp)⟩) (by assumption) ?_
      try simp only [Act.put, List.setIfInBounds_toArray, List.set_cons_zero, List.set_cons_succ]
      refine' wpAnyH_take (i := 2) (oi := ⟨some 14, _, _, _, _, _⟩) (v := _) rfl (by kernel_rfl) (by kernel_rfl) (by kernel_rfl) (fun _ _ _ h => h) (yieldsIf_load_mid (by rfl) 33 _ (by rfl) (wr.heap.size) (0) (by rfl) (bys h.key) _ (fun w h => (HRNG.out w h).1) Try.underlying33 (by rfl) sK) (by assumption) ?_
      try simp only [Act.put, List.setIfInBounds_toArray, List.set_cons_zero, List.set_cons_succ]
      refine wpAnyH_take (i := 3) (oi := ⟨some 15, _, _, _, _, _⟩) (v := .pointer (some ⟨wr.heap.size, 32, none⟩)) rfl (by kernel_rfl) (by kernel_rfl) (by kernel_rfl) (fun _ _ _ h => h) (Or.inl ⟨by rfl, fun w hSw => by (obtain _ := hSw; go_simp)⟩) (by assumption) ?_
      try simp only [Act.put, List.setIfInBounds_toArray, List.set_cons_zero, List.set_cons_succ]
      refine' wpAnyH_take (i := 4) (oi := ⟨some 16, _, _, _, _, _⟩) (v := _) rfl (by kernel_rfl) (by kernel_rfl) (by kernel_rfl) (fun _ _ _ h => h) (yieldsIf_load_mid (by rfl) 48 _ (by rfl) (wr.heap.size) (32) (by rfl) (cc h.cmd) _ (fun w h => (HRNG.out w h).2) Try.underlying48 (by rfl) sC) (by assumption) ?_
      try simp only [Act.put, List.setIfInBounds_toArray, List.set_cons_zero, List.set_cons_succ]
      refine wpAnyH_ready (rs := [5]) (by kernel_rfl) (by simp) (AllReadyH.cons (by rfl) (fun K hK => ?_) AllReadyH.nil)
      go_simp
      refine (HTH.out _).mono ?_
      rintro e W2 ⟨rfl, x2⟩
      have x12 := x0.then x2
      go_simp
      refine hK.out _ _ (x12.mono fun _ _ h => h.elim) (fun hHeld => ?_)
      clear hK K
      try simp only [Act.put, List.setIfInBounds_toArray, List.set_cons_zero, List.set_cons_succ]
      refine wpAnyH_take (i := 6) (oi := ⟨some 18, _, _, _, _, _⟩) (v := .agg (bys h.key ++ cc h.cmd).toArray) rfl (by kernel_rfl) (by kernel_rfl) (by kernel_rfl) (fun _ _ _ h => h) (yieldsIf_build45 (by rfl) _ _ (by rfl) (bys h.key) (cc h.cmd) (by rw [bys_length, h.len]) (cc_len _) (by rfl) (by rfl)) (by assumption) ?_
      try simp only [Act.put, List.setIfInBounds_toArray, List.set_cons_zero, List.set_cons_succ]
      refine wpAnyH_ready (rs := [7]) (by kernel_rfl) (by simp) (AllReadyH.cons (by rfl) (fun K hK => ?_) AllReadyH.nil)
      refine step_slice45 (by rfl) _ (by rfl) (bys h.key ++ cc h.cmd) (by simp [bys_length, h.len, cc_len]) (by rfl) ?_
      have hnew := heapNew W2 (.cells (bys h.key ++ cc h.cmd).toArray 45)
      have x13 := x12.andAlloc (.cells (bys h.key ++ cc h.cmd).toArray 45)
      refine hK.out _ _ (x13.mono fun _ _ h => h.elim) (fun hHeld => ?_)
      clear hK K
      try simp only [Act.put, List.setIfInBounds_toArray, List.set_cons_zero, List.set_cons_succ]
      have HQ9 := Lib.hid ((HROW.out.ext HXV.out (fun _ _ h => h)).ext x13 (fun _ _ h => h))
      refine wpAnyH_ready (rs := [8]) (by kernel_rfl) (by simp) (AllReadyH.cons (by rfl) (fun K hK => ?_) AllReadyH.nil)
      refine step_append_q (by rfl) _ _ 37 (by rfl) 45 43 64 (.agg (hc ⟨List.replicate 32 0, ⟨0, 0, 0, Z8, rfl⟩, rfl⟩).toArray) Try.underlying37 info45 (by rfl) (by decide) (.slice A' k c') k _ (by rfl) HQ9.out ⟨W2.heap.size, 0, none⟩ 1 1 (bys h.key ++ cc h.cmd) (by rfl) (by simp [bys_length, h.len, cc_len]) (fun j u hj => by rw [add_none]; exact nd_box hnew j u hj) (hc_one h) (by omega) (by unfold maxLen; omega) (by omega) ?_
      intro g3 o3 c3 W9 hq10 x10 hg10
      have x19 := (x13.mono (fun _ _ h => h.elim)).then x10
      refine hK.out _ _ x19 (fun hHeld => ?_)
      clear hK K
      try simp only [Act.put, List.setIfInBounds_toArray, List.set_cons_zero, List.set_cons_succ]
      refine wpAnyH_take (i := 9) (oi := ⟨some 3, _, _, _, _, _⟩) (v := .slice (some ⟨g3, o3, none⟩) (k + 1) c3) rfl (by kernel_rfl) (by kernel_rfl) (by kernel_rfl) (fun _ _ _ h => h) (Or.inl ⟨by rfl, fun w hSw => by go_simp⟩) (by assumption) ?_
      try simp only [Act.put, List.setIfInBounds_toArray, List.set_cons_zero, List.set_cons_succ]
      refine wpAnyH_done (by kernel_rfl) ?_ _
      have hown3 : ∀ g, (Value.slice (some ⟨g3, o3, none⟩) 0 0).ownBlock = some g → w.heap.size ≤ g := fun g hg => by
        have e : g3 = g := by simpa [Value.ownBlock] using hg
        rcases hg10 with h | h
        · exact HOWN.out g (by rw [own_sl A' 0 0 k c']; exact e ▸ h)
        · have := x13.size
          have := HXV.out.size
          have := HX.out.size
          omega
      have hEND : HoRel w L (.slice (some ⟨g3, o3, none⟩) (k + 1) c3) (.int .i64 ((k + 1 : Nat) : Int)) W9 := by
        refine ⟨k + 1, _, _, by omega, rfl, rfl, ?_, ?_, hown3⟩
        · rw [HTK.out, flatG_append]
          have : flatG hc [h] = bys h.key ++ cc h.cmd := by simp [flatG, hc]
          rw [this]; exact hq10
        · exact (HX.out.then HXV.out).trans x19 (fun _ _ h => h) (fun i hi hf => by have := HOWN.out i (by rw [own_sl A' 0 0 k c']; exact hf); omega)
      have HEND := Lib.hid hEND
      clear hEND hown3 x19 hq10 x10 hg10 x13 x12 hnew hHeld
      go_wp2_with fail
      exact ⟨by have := HEND.out; simpa using this, by simp [intOf]; omega⟩
    · have k1 : ¬ (k : Int) < (L.length : Int) := by omega
      obtain rfl : k = L.length := by omega
      rw [List.take_length] at hrow
      go_wp2_with fail
      go_ret
      exact ⟨_, _, rfl, hrow, hx, hown⟩
end Go.Proofs.Ytdibjnlmeiikmaa
