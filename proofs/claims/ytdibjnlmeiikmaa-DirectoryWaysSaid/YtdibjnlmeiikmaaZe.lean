/-
  alive: the answers at the fixed directory.
-/
import Derived.Test.YtdibjnlmeiikmaaZd
set_option linter.unusedVariables false
set_option linter.unusedSimpArgs false
namespace Go.Proofs.Ytdibjnlmeiikmaa
open Go.RowKit Go.Proofs

theorem rd_new {w : World} : NRd (w.alloc (.cells (flatN L3).toArray 50)) (some ⟨w.heap.size, 0, none⟩) 3 L3 := by
  have hq : NR (w.alloc (.cells (flatN L3).toArray 50)) (.slice (some ⟨w.heap.size, 0, none⟩) L3.length 3) L3 :=
    ⟨flatN_length L3, .inr ⟨w.heap.size, 0, 3, (flatN L3).toArray, rfl, heapNew _ _, by decide, by decide, by rw [List.size_toArray, flatN_length]; decide, fun j hj => by simp⟩⟩
  exact NR.rd hq
theorem dr_new {w : World} : Dr (w.alloc (.cells #[.int .u8 3, .int .u8 10] 5)) (some ⟨w.heap.size, 0, none⟩) 2 [3, 10] := by
  have hb := heapNew w (.cells #[.int .u8 3, .int .u8 10] 5)
  refine ⟨fun i hi => ?_, by decide⟩
  have : i = 0 ∨ i = 1 := by simp at hi; omega
  rcases this with rfl | rfl
  · exact ⟨_, 0, rfl, by simp, by rw [cellOf hb]; rfl, by decide, by decide⟩
  · exact ⟨_, 0, rfl, by simp, by rw [cellOf hb]; rfl, by decide, by decide⟩
set_option maxHeartbeats 6400000 in
set_option maxRecDepth 100000 in
theorem alive9 (w : World) : Calls Try.prog 9 #[] w fun e w' => e = .returned (.bool true) ∧ Ext NoB w w' := by
  have x0 := Ext.alloc NoB w (.cells (flatN L3).toArray 50)
  have hrd := fun W (hW : Ext NoB (w.alloc (.cells (flatN L3).toArray 50)) W) => (rd_new (w := w)).ext hW (fun _ _ _ h => h)
  have h30 : (Try.prog.info? 30).map (·.size) = some 2 := by kernel_rfl
  have HRD := Lib.hid hrd
  clear hrd
  go_enter Try.func9, Try.ntmps9
  go_upto_region 2 with (first
    | ((with_reducible show wpList _ _ _ (⟨_, .build 33 #[(0, .const (.int .u8 9))], _, _, _, _⟩ :: _) _ _); refine wpList_run (by rfl) (Arr K9) _ (by kernel_rfl) ?_)
    | ((with_reducible show wpList _ _ _ (⟨_, .build 33 #[(0, .const (.int .u8 8))], _, _, _, _⟩ :: _) _ _); refine wpList_run (by rfl) (Arr K8) _ (by kernel_rfl) ?_)
    | ((with_reducible show wpList _ _ _ (⟨_, .build 33 #[(0, .const (.int .u8 7))], _, _, _, _⟩ :: _) _ _); refine wpList_run (by rfl) (Arr K7) _ (by kernel_rfl) ?_)
    | ((with_reducible show wpList _ _ _ (⟨_, .build 50 #[(0, .const (.int .i64 4)), _], _, _, _, _⟩ :: _) _ _); refine wpList_run (by rfl) (.agg (nc N4).toArray) _ (by kernel_rfl) ?_)
    | ((with_reducible show wpList _ _ _ (⟨_, .build 50 #[(0, .const (.int .i64 2)), _], _, _, _, _⟩ :: _) _ _); refine wpList_run (by rfl) (.agg (nc N2).toArray) _ (by kernel_rfl) ?_)
    | ((with_reducible show wpList _ _ _ (⟨_, .build 50 _, _, _, _, _⟩ :: _) _ _); refine wpList_run (by rfl) (.agg (nc N7).toArray) _ (by kernel_rfl) ?_)
    | ((with_reducible show wpList _ _ _ (⟨_, .buildSlice 28 _ _, _, _, _, _⟩ :: _) _ _); refine wpList_run (by rfl) (.slice (some ⟨w.heap.size, 0, none⟩) 3 3) (w.alloc (.cells (flatN L3).toArray 50)) (by kernel_rfl) ?_; generalize w.alloc (.cells (flatN L3).toArray 50) = W0 at *)
    | ((with_reducible show wpList _ _ _ (⟨_, .store 30 _ _, _, _, _, _⟩ :: _) _ _); refine wpList_store_new rfl 30 _ _ rfl W0.heap.size #[.int .i64 2, .slice (some ⟨w.heap.size, 0, none⟩) 3 3] rfl rfl rfl rfl (by exact h30) rfl ?_))
  have hb1 := heapNew W0 (.cells #[.int .i64 2, .slice (some ⟨w.heap.size, 0, none⟩) 3 3] 30)
  have x1 := Ext.alloc NoB W0 (.cells #[.int .i64 2, .slice (some ⟨w.heap.size, 0, none⟩) 3 3] 30)
  generalize W0.alloc (.cells #[.int .i64 2, .slice (some ⟨w.heap.size, 0, none⟩) 3 3] 30) = W1 at *
  have hcl : ∀ W, Ext NoB W1 W → W.cell? ⟨W0.heap.size, 0, none⟩ = some (.int .i64 2) ∧ W.cell? ⟨W0.heap.size, 1, none⟩ = some (.slice (some ⟨w.heap.size, 0, none⟩) 3 3) := fun W hW => by
    have := hW.obj hb1 id
    exact ⟨by rw [cellOf this]; rfl, by rw [cellOf this]; rfl⟩
  have hrt := fun W (hW : Ext NoB W1 W) => L3_route (some ⟨w.heap.size, 0, none⟩) (some ⟨W.heap.size, 0, none⟩) (W.alloc (.cells #[.int .u8 3, .int .u8 10] 5)) (HRD.out _ ((x1.then hW).andAlloc _)) dr_new
  have hno := fun W dv (hW : Ext NoB W1 W) => L3_none (some ⟨w.heap.size, 0, none⟩) dv W (HRD.out _ (x1.then hW))
  have hch := fun W (hW : Ext NoB W1 W) => L3_check (some ⟨w.heap.size, 0, none⟩) W (HRD.out _ (x1.then hW))
  have hdr := fun W (hW : Ext NoB W1 W) => L3_draws (some ⟨w.heap.size, 0, none⟩) W (HRD.out _ (x1.then hW))
  have HCL := Lib.hid hcl
  have HRT := Lib.hid hrt
  have HNO := Lib.hid hno
  have HCH := Lib.hid hch
  have HDR := Lib.hid hdr
  have hx1 := x0.then x1
  obtain ⟨d0, d1⟩ := HCL.out W1 (Ext.refl _ _)
  clear hcl hrt hno hch hdr hb1 x0
  go_upto_region 3 with (first
    | ((with_reducible show wpList _ _ _ (⟨_, .build 43 _, _, _, _, _⟩ :: _) _ _); refine wpList_run (by rfl) (.agg (cc M4).toArray) _ (by kernel_rfl) ?_)
    | (go_at_call 12; (with_reducible refine (HRT.out _ (Ext.refl _ _)).mono ?_); rintro e W2 ⟨A', c', rfl, hh2, x2'⟩))
  have x2 := (Ext.alloc NoB W1 (.cells #[.int .u8 3, .int .u8 10] 5)).then x2'
  obtain ⟨e0, e1⟩ := HCL.out W2 x2
  have HH2 := Lib.hid hh2
  clear hh2 d0 d1 x2'
  go_upto_region 4 with (first
    | ((with_reducible show wpList _ _ _ (⟨_, .build 43 _, _, _, _, _⟩ :: _) _ _); refine wpList_run (by rfl) (.agg (cc M4).toArray) _ (by kernel_rfl) ?_)
    | (go_at_call 12; (with_reducible refine (HNO.out _ _ (x2.andAlloc _)).mono ?_); rintro e W3 ⟨rfl, x3'⟩))
  have x23 := (Ext.alloc NoB W2 (.cells #[.int .u8 3, .int .u8 10] 5)).then x3'
  have x3 := x2.then x23
  obtain ⟨f0, f1⟩ := HCL.out W3 x3
  have hh3 := QRow.ext HH2.out x23 (fun _ _ h => h)
  clear e0 e1
  obtain ⟨g, o, cap', hAe, hcap2, hcap3, hrow, _⟩ := QRow.form hh3 (by decide)
  injection hAe with hAe _ hce
  subst hAe
  subst hce
  have hh4 : HR W3 (.slice (some ⟨g, o, none⟩) [H0, H1].length c') [H0, H1] := hh3
  have hrd3 := GR.rd hc_len (by decide) hh4
  have h63 : c' ≤ 9223372036854775807 := by have := hrd3.cap.2; unfold maxLen at this; omega
  have hcc : 2 ≤ c' := hrd3.cap.1
  have HRD3 := Lib.hid hrd3
  have heq : ∀ W, Sem.run Try.prog (Op.equalIn 10000 33 (.agg (bys K9).toArray) (.agg #[.int .u8 9, .int .u8 0, .int .u8 0, .int .u8 0, .int .u8 0, .int .u8 0, .int .u8 0, .int .u8 0, .int .u8 0, .int .u8 0, .int .u8 0, .int .u8 0, .int .u8 0, .int .u8 0, .int .u8 0, .int .u8 0, .int .u8 0, .int .u8 0, .int .u8 0, .int .u8 0, .int .u8 0, .int .u8 0, .int .u8 0, .int .u8 0, .int .u8 0, .int .u8 0, .int .u8 0, .int .u8 0, .int .u8 0, .int .u8 0, .int .u8 0, .int .u8 0])) W = .ok true W := fun W => by kernel_rfl
  have sK : (Try.prog.info? 33).map (·.size) = some (bys K9).length := by kernel_rfl
  have hcells : ∀ W, Ext NoB W3 W → W.rangeAt g o (bys K9) ∧ W.cell? ⟨g, o + 33, none⟩ = some (.int .i64 7) ∧ W.cell? ⟨g, o + 34, none⟩ = some (.int .i64 10) := fun W hW => by
    obtain ⟨b, o', h1, h2, h3⟩ := (HRD3.out.ext hW (fun _ _ _ h => h)).at' 0 (by decide)
    injection h1 with h1
    injection h1 with h1 h4
    subst h1; subst h4
    rw [Nat.zero_mul, Nat.add_zero] at h3
    exact ⟨hp_key h3, cm_1 (hp_cmd h3), cm_2 (hp_cmd h3)⟩
  have HCE := Lib.hid hcells
  clear hrow hh3 hh4 hrd3 hcells
  go_wp2_with (first
    | ((with_reducible show wpList _ _ _ (⟨_, .load 33 _, _, _, _, _⟩ :: _) _ _); refine wpList_load_arrm (by rfl) 33 _ rfl g o rfl (bys K9) _ hk5 Try.underlying33 rfl sK ?_)
    | (go_at_call 10; (with_reducible refine (HCH.out _ x3).mono ?_); rintro e W4 ⟨rfl, x4'⟩; have x4 := x3.then x4'; obtain ⟨g0, g1⟩ := HCL.out W4 x4)
    | (go_at_call 15; (with_reducible refine (HDR.out _ x4).mono ?_); rintro e W5 ⟨rfl, x5'⟩; have x5 := x4.then x5'; obtain ⟨hk5, hk6, hk7⟩ := HCE.out W5 (x4'.then x5'))
    | (go_at_call 19; (with_reducible refine (L3_delay _ _ _ (HRD3.out.ext (x4'.then x5') (fun _ _ _ h => h))).mono ?_); rintro e W6 ⟨rfl, x6'⟩; have x6 := x5.then x6')
    | (go_at_call 10; (with_reducible refine (none_check _).mono ?_); rintro e W7 ⟨rfl, x7'⟩; have x7 := x6.then x7'))
  go_ret
  exact ⟨rfl, hx1.then x7⟩
end Go.Proofs.Ytdibjnlmeiikmaa
