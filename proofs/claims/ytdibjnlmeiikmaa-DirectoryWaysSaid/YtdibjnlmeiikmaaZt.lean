/-
  The document's Route.
-/
import Derived.Test.YtdibjnlmeiikmaaZs
import Derived.Deep.RegionHeld3
import Derived.Deep.MidRow
set_option linter.unusedVariables false
set_option linter.unusedSimpArgs false
namespace Go.Proofs.Ytdibjnlmeiikmaa
open Go.RowKit Go.Proofs

theorem run_build60' (w : World) (xx0 xx1 xx2 xx3 xx4 xx5 xx6 xx7 xx8 xx9 xx10 xx11 xx12 xx13 xx14 xx15 xx16 xx17 xx18 xx19 xx20 xx21 xx22 xx23 xx24 xx25 xx26 xx27 xx28 xx29 xx30 xx31 yy0 yy1 yy2 yy3 yy4 yy5 yy6 yy7 yy8 yy9 yy10 : Value) : (Instr.build 60 #[(0, .agg #[xx0, xx1, xx2, xx3, xx4, xx5, xx6, xx7, xx8, xx9, xx10, xx11, xx12, xx13, xx14, xx15, xx16, xx17, xx18, xx19, xx20, xx21, xx22, xx23, xx24, xx25, xx26, xx27, xx28, xx29, xx30, xx31]), (1, .agg #[yy0, yy1, yy2, yy3, yy4, yy5, yy6, yy7, yy8, yy9, yy10])]).run Try.prog w = .ok (.agg #[xx0, xx1, xx2, xx3, xx4, xx5, xx6, xx7, xx8, xx9, xx10, xx11, xx12, xx13, xx14, xx15, xx16, xx17, xx18, xx19, xx20, xx21, xx22, xx23, xx24, xx25, xx26, xx27, xx28, xx29, xx30, xx31, yy0, yy1, yy2, yy3, yy4, yy5, yy6, yy7, yy8, yy9, yy10]) w := by kernel_rfl
theorem run_build60 (w : World) (B C : List Value) (hB : B.length = 32) (hC : C.length = 11) : (Instr.build 60 #[(0, .agg B.toArray), (1, .agg C.toArray)]).run Try.prog w = .ok (.agg (B ++ C).toArray) w := by
  obtain ⟨yy0, yy1, yy2, yy3, yy4, yy5, yy6, yy7, yy8, yy9, yy10, rfl⟩ := eleven C hC
  obtain ⟨xx0, xx1, xx2, xx3, xx4, xx5, xx6, xx7, xx8, xx9, xx10, xx11, xx12, xx13, xx14, xx15, xx16, xx17, xx18, xx19, xx20, xx21, xx22, xx23, xx24, xx25, xx26, xx27, xx28, xx29, xx30, xx31, rfl⟩ := thirtytwo B hB
  exact run_build60' w xx0 xx1 xx2 xx3 xx4 xx5 xx6 xx7 xx8 xx9 xx10 xx11 xx12 xx13 xx14 xx15 xx16 xx17 xx18 xx19 xx20 xx21 xx22 xx23 xx24 xx25 xx26 xx27 xx28 xx29 xx30 xx31 yy0 yy1 yy2 yy3 yy4 yy5 yy6 yy7 yy8 yy9 yy10
theorem run_slice60' (w : World) (xx0 xx1 xx2 xx3 xx4 xx5 xx6 xx7 xx8 xx9 xx10 xx11 xx12 xx13 xx14 xx15 xx16 xx17 xx18 xx19 xx20 xx21 xx22 xx23 xx24 xx25 xx26 xx27 xx28 xx29 xx30 xx31 xx32 xx33 xx34 xx35 xx36 xx37 xx38 xx39 xx40 xx41 xx42 : Value) : (Instr.buildSlice 56 1 #[(0, .agg #[xx0, xx1, xx2, xx3, xx4, xx5, xx6, xx7, xx8, xx9, xx10, xx11, xx12, xx13, xx14, xx15, xx16, xx17, xx18, xx19, xx20, xx21, xx22, xx23, xx24, xx25, xx26, xx27, xx28, xx29, xx30, xx31, xx32, xx33, xx34, xx35, xx36, xx37, xx38, xx39, xx40, xx41, xx42])]).run Try.prog w = .ok (.slice (some ⟨w.heap.size, 0, none⟩) 1 1) (w.alloc (.cells #[xx0, xx1, xx2, xx3, xx4, xx5, xx6, xx7, xx8, xx9, xx10, xx11, xx12, xx13, xx14, xx15, xx16, xx17, xx18, xx19, xx20, xx21, xx22, xx23, xx24, xx25, xx26, xx27, xx28, xx29, xx30, xx31, xx32, xx33, xx34, xx35, xx36, xx37, xx38, xx39, xx40, xx41, xx42] 60)) := by kernel_rfl
theorem run_slice60 (w : World) (C : List Value) (hC : C.length = 43) : (Instr.buildSlice 56 1 #[(0, .agg C.toArray)]).run Try.prog w = .ok (.slice (some ⟨w.heap.size, 0, none⟩) 1 1) (w.alloc (.cells C.toArray 60)) := by
  obtain ⟨xx0, xx1, xx2, xx3, xx4, xx5, xx6, xx7, xx8, xx9, xx10, xx11, xx12, xx13, xx14, xx15, xx16, xx17, xx18, xx19, xx20, xx21, xx22, xx23, xx24, xx25, xx26, xx27, xx28, xx29, xx30, xx31, h1⟩ := thirtytwo (C.take 32) (by simp [hC])
  obtain ⟨xx32, xx33, xx34, xx35, xx36, xx37, xx38, xx39, xx40, xx41, xx42, h2⟩ := eleven (C.drop 32) (by simp [hC])
  have h := List.take_append_drop 32 C
  rw [h1, h2] at h
  rw [← h]
  exact run_slice60' w xx0 xx1 xx2 xx3 xx4 xx5 xx6 xx7 xx8 xx9 xx10 xx11 xx12 xx13 xx14 xx15 xx16 xx17 xx18 xx19 xx20 xx21 xx22 xx23 xx24 xx25 xx26 xx27 xx28 xx29 xx30 xx31 xx32 xx33 xx34 xx35 xx36 xx37 xx38 xx39 xx40 xx41 xx42
theorem yieldsIf_build60 {ops : Array Oper} {S : World → Prop} {o : Oper} {a : Act} (hw : Region.wanted o (yielded ops a.tmps) = true) (x y : Operand)
    (ho : o.op = .build 60 #[(0, x), (1, y)]) (B C : List Value) (hB : B.length = 32) (hC : C.length = 11) (hx : a.eval x = .agg B.toArray) (hy : a.eval y = .agg C.toArray) : YieldsIf Try.prog ops S o (.agg (B ++ C).toArray) a :=
  .inl ⟨hw, fun w _ => by
    have hr := run_build60 w B C hB hC
    unfold execOp
    simp only [ho, List.map_toArray, List.map_cons, List.map_nil, hx, hy, Sem.run_bind, Sem.run_pure, hr, Result.andThen_ok]⟩
theorem step_slice60 {ops : Array Oper} {o : Oper} {a : Act} {w : World} {K : Act → World → Prop} {Q : Exit → Act → World → Prop} {E : Prop} (hgd : o.guard = none) (x : Operand)
    (ho : o.op = .buildSlice 56 1 #[(0, x)]) (C : List Value) (hC : C.length = 43) (hx : a.eval x = .agg C.toArray)
    (hK : K (a.put o.dst (.slice (some ⟨w.heap.size, 0, none⟩) 1 1)) (w.alloc (.cells C.toArray 60))) : if Region.wanted o (yielded ops a.tmps) = true then Oper.wp Try.prog o a w K Q else E := by
  have hw : Region.wanted o (yielded ops a.tmps) = true := by simp [Region.wanted, hgd]
  rw [if_pos hw]
  have hr := run_slice60 w C hC
  unfold Oper.wp execOp
  simp only [ho, List.map_toArray, List.map_cons, List.map_nil, hx, Sem.run_bind, Sem.run_pure, hr, Result.andThen_ok]
  exact hK
theorem info60 : (Try.prog.info? 60).map (fun i => (i.zero, i.size, i.bytes)) = some (some (.agg (hc ⟨List.replicate 32 0, ⟨0, 0, 0, Z8, rfl⟩, rfl⟩).toArray), 43, 64) := by kernel_rfl
/-- Between two rounds of Route's loop: t hops are there. -/
def RrRel (w : World) (K : Nat) (H : List Hp) (ov iv : Value) (W : World) : Prop :=
  ∃ (t : Nat) (A' : Option Addr) (c' : Nat), t ≤ K ∧ iv = .int .i64 t ∧ ov = .slice A' t c' ∧ QRow W 60 43 (.slice A' t c') t (flatG hc (H.take t)) ∧ Ext NoB w W ∧ ∀ g, (Value.slice A' 0 0).ownBlock = some g → w.heap.size ≤ g
set_option maxHeartbeats 12800000 in
set_option maxRecDepth 100000 in
theorem refRoute17 (l pv : Int) (A DA : Option Addr) (c dc : Nat) (L : List Nd) (D : List Int) (m : Cm) (w : World) (hr : NRd w A c L) (hok : ∀ n ∈ L, NdOk n) (hlen : L.length ≤ 1000) (hD : Dr w DA dc D) (hDl : D.length ≤ 1000) :
    Calls Try.prog 17 #[dirv l A L.length c, .int .i64 pv, .agg (cc m).toArray, .slice DA D.length dc] w fun e' w' => ∃ A' c', e' = .returned (.tuple #[.int .i64 (ansF l pv L m D), .slice A' (ansH l pv L m D).length c', .int .i64 (ansE l pv L m D.length)]) ∧ QRow w' 60 43 (.slice A' (ansH l pv L m D).length c') (ansH l pv L m D).length (flatG hc (ansH l pv L m D)) ∧ Ext NoB w w' := by
  have hdc := hD.cap
  have s48 : (Try.prog.info? 48).map (·.size) = some (cc m).length := by rw [cc_len]; kernel_rfl
  have hb0 : ((w.alloc (.cells #[.int .i64 l, .slice A L.length c] 24)).alloc (.cells (cc m).toArray 48)).heap[w.heap.size]? = some (.cells #[.int .i64 l, .slice A L.length c] 24 (0, 0)) := (Ext.alloc NoB _ _).obj (heapNew w _) id
  have hb1 : ((w.alloc (.cells #[.int .i64 l, .slice A L.length c] 24)).alloc (.cells (cc m).toArray 48)).heap[w.heap.size + 1]? = some (.cells (cc m).toArray 48 (0, 0)) := heapNew' _ _ _ (by simp)
  have x0 : Ext NoB w ((w.alloc (.cells #[.int .i64 l, .slice A L.length c] 24)).alloc (.cells (cc m).toArray 48)) := (Ext.alloc NoB w _).andAlloc _
  have HCK := Lib.hid fun W (hW : Ext NoB w W) => refCheck14 l A c L W (hr.ext hW (fun _ _ _ h => h)) hok hlen
  have HDR := Lib.hid fun W (hW : Ext NoB w W) => refDraws16 l A c L W (hr.ext hW (fun _ _ _ h => h)) hok hlen
  have HMA := Lib.hid (refMay37 m)
  have HRR := Lib.hid hr
  have HD := Lib.hid hD
  obtain ⟨Vm, hVm⟩ : ∃ Vm, Vm = (cc m).toArray := ⟨_, rfl⟩
  have HVM := Lib.hid hVm
  unfold dirv at HCK HDR ⊢
  rw [← hVm] at hb0 hb1 x0 ⊢
  clear hr hVm hD
  go_enter Try.func17, Try.ntmps17
  go_upto_region 1 with fail
  generalize hW0 : (w.alloc (.cells #[.int .i64 l, .slice A L.length c] 24)).alloc (.cells Vm 48) = W0 at *
  have hcl : ∀ W, Ext NoB W0 W → (W.cell? ⟨w.heap.size, 0, none⟩ = some (.int .i64 l) ∧ W.cell? ⟨w.heap.size, 1, none⟩ = some (.slice A L.length c)) ∧ W.rangeAt (w.heap.size + 1) 0 (cc m) := fun W hW => by
    have := hW.obj hb0 id
    exact ⟨⟨by rw [cellOf this]; rfl, by rw [cellOf this]; rfl⟩, nd_box (by rw [← HVM.out]; exact hW.obj hb1 id)⟩
  have HCL := Lib.hid hcl
  obtain ⟨⟨d0, d1⟩, _⟩ := hcl W0 (Ext.refl _ _)
  clear hb0 hb1 hcl hW0
  have bad : ∀ x : Int, x ≠ 0 → ansE l pv L m D.length = x → ansF l pv L m D = 0 ∧ ansH l pv L m D = [] := fun x hx he => ⟨by unfold ansF; rw [he, if_neg hx], by unfold ansH; rw [he, if_neg hx]⟩
  have HBAD := Lib.hid bad
  clear bad
  by_cases hE : chk l L = 0
  · obtain ⟨l1, l5⟩ := chk_lay hE
    have hdw : drw l L = 2 * (l - 1) := by unfold drw; rw [if_pos hE]
    rw [hE] at HCK
    rw [hdw] at HDR
    have HEE := Lib.hid hE
    clear hdw hE
    go_upto_region 4 with (go_at_call 14; (with_reducible refine (HCK.out _ x0).mono ?_); rintro e W1 ⟨rfl, x1⟩)
    obtain ⟨_, r1⟩ := HCL.out W1 x1
    clear d0 d1
    by_cases hM : mayC m = false ∨ m.kind = 1
    · have he : ansE l pv L m D.length = 2 := by unfold ansE; rw [if_pos HEE.out, if_pos hM]
      have HE := Lib.hid (And.intro he (HBAD.out 2 (by decide) he))
      clear he
      by_cases hM1 : mayC m = false
      · rw [hM1] at HMA
        clear hM hM1
        go_wp2_with (first
          | ((with_reducible show wpList _ _ _ (⟨_, .load 48 _, _, _, _, _⟩ :: _) _ _); refine wpList_load_arrm (by rfl) 48 _ rfl (w.heap.size + 1) 0 rfl (cc m) _ r1 Try.underlying48 rfl s48 ?_)
          | (go_at_call 37; (with_reducible refine (HMA.out _).mono ?_); rintro e W2 ⟨rfl, x2⟩))
        go_ret3
        exact ⟨none, 0, by rw [HE.out.1, HE.out.2.1, HE.out.2.2]; rfl, by rw [HE.out.2.2]; exact QRow.nil _ _ _, (x0.then x1).then x2⟩
      · have hk : m.kind = 1 := hM.resolve_left hM1
        have hM2 : mayC m = true := by cases h : mayC m with
          | true => rfl
          | false => exact absurd h hM1
        rw [hM2] at HMA
        have hk0 : ∀ W, Ext NoB W0 W → W.cell? ⟨w.heap.size + 1, 0, none⟩ = some (.int .i64 1) := fun W hW => by have := cm_0 (HCL.out W hW).2; rw [hk] at this; exact this
        have HK0 := Lib.hid hk0
        clear hM hM1 hM2 hk0 hk
        go_wp2_with (first
          | ((with_reducible show wpList _ _ _ (⟨_, .load 48 _, _, _, _, _⟩ :: _) _ _); refine wpList_load_arrm (by rfl) 48 _ rfl (w.heap.size + 1) 0 rfl (cc m) _ r1 Try.underlying48 rfl s48 ?_)
          | (go_at_call 37; (with_reducible refine (HMA.out _).mono ?_); rintro e W2 ⟨rfl, x2⟩; have hk2 := HK0.out W2 (x1.then x2)))
        go_ret3
        exact ⟨none, 0, by rw [HE.out.1, HE.out.2.1, HE.out.2.2]; rfl, by rw [HE.out.2.2]; exact QRow.nil _ _ _, (x0.then x1).then x2⟩
    · have hM1 : mayC m = true := by cases h : mayC m with
        | true => rfl
        | false => exact absurd (.inl h) hM
      have hK : m.kind ≠ 1 := fun h => hM (.inr h)
      have hK2 : (m.kind == 1) = false := beq_eq_false_iff_ne.2 hK
      rw [hM1] at HMA
      have hk0 : ∀ W, Ext NoB W0 W → W.cell? ⟨w.heap.size + 1, 0, none⟩ = some (.int .i64 m.kind) := fun W hW => cm_0 (HCL.out W hW).2
      have HK0 := Lib.hid hk0
      have HMM := Lib.hid (And.intro hM1 (And.intro hK hM))
      clear hM hM1 hK hk0
      generalize hkd : m.kind = kd at hK2 HK0
      clear hkd
      go_upto_region 6 with (first
        | ((with_reducible show wpList _ _ _ (⟨_, .load 48 _, _, _, _, _⟩ :: _) _ _); refine wpList_load_arrm (by rfl) 48 _ rfl (w.heap.size + 1) 0 rfl (cc m) _ r1 Try.underlying48 rfl s48 ?_)
        | (go_at_call 37; (with_reducible refine (HMA.out _).mono ?_); rintro e W2 ⟨rfl, x2⟩; have hk2 := HK0.out W2 (x1.then x2)))
      have hx2 := x1.then x2
      obtain ⟨⟨d0, d1⟩, _⟩ := HCL.out W2 hx2
      have HPR := Lib.hid fun W (hW : Ext NoB w W) => provides38 l pv A c L W (HRR.out.ext hW (fun _ _ _ h => h)) hlen HEE.out
      unfold dirv at HPR
      clear r1 hk2
      rcases idx_cases (p := prv pv) (layL L (l - 1)) with hI | ⟨i0, hi0, hI⟩
      · have he : ansE l pv L m D.length = 9 := by unfold ansE; rw [if_pos HEE.out, if_neg HMM.out.2.2, if_pos hI]
        have HE := Lib.hid (And.intro he (HBAD.out 9 (by decide) he))
        rw [hI] at HPR
        clear he hI
        go_wp2_with (go_at_call 38; (with_reducible refine (HPR.out _ (x0.then hx2)).mono ?_); rintro e W3 ⟨rfl, x3⟩)
        go_ret3
        exact ⟨none, 0, by rw [HE.out.1, HE.out.2.1, HE.out.2.2]; rfl, by rw [HE.out.2.2]; exact QRow.nil _ _ _, (x0.then hx2).then x3⟩
      · have hne : ¬ (i0 : Int) = -1 := by omega
        have hpt : (!decide (idxF (prv pv) (layL L (l - 1)) 0 = -1)) = true := by rw [hI, decide_eq_false hne]; rfl
        rw [hpt] at HPR
        have HII := Lib.hid (And.intro hi0 hI)
        clear hpt hI hi0 hne
        go_upto_region 8 with (go_at_call 38; (with_reducible refine (HPR.out _ (x0.then hx2)).mono ?_); rintro e W3 ⟨rfl, x3⟩)
        have hx3 := hx2.then x3
        obtain ⟨⟨f0, f1⟩, _⟩ := HCL.out W3 hx3
        clear d0 d1
        by_cases hS : (D.length : Int) < 2 * (l - 1)
        · have he : ansE l pv L m D.length = 4 := by unfold ansE; rw [if_pos HEE.out, if_neg HMM.out.2.2, if_neg (by rw [HII.out.2]; omega), if_pos hS]
          have HE := Lib.hid (And.intro he (HBAD.out 4 (by decide) he))
          have hS2 : decide ((D.length : Int) < 2 * (l - 1)) = true := decide_eq_true hS
          clear he
          go_wp2_with (go_at_call 16; (with_reducible refine (HDR.out _ (x0.then hx3)).mono ?_); rintro e W4 ⟨rfl, x4⟩)
          go_ret3
          exact ⟨none, 0, by rw [HE.out.1, HE.out.2.1, HE.out.2.2]; rfl, by rw [HE.out.2.2]; exact QRow.nil _ _ _, (x0.then hx3).then x4⟩
        · have hS2 : decide ((D.length : Int) < 2 * (l - 1)) = false := decide_eq_false hS
          have he : ansE l pv L m D.length = 0 := by unfold ansE; rw [if_pos HEE.out, if_neg HMM.out.2.2, if_neg (by rw [HII.out.2]; omega), if_neg hS]
          have hi0 := HII.out.1
          have hI' := HII.out.2
          have hp : provN l pv L = (layL L (l - 1))[i0] := by
            unfold provN
            rw [hI', Int.toNat_natCast, List.getD_eq_getElem?_getD, List.getElem?_eq_getElem hi0]
            rfl
          have e1 : ansF l pv L m D = (nodeAt l.toNat L D (provN l pv L) 0).id := by unfold ansF; rw [if_pos he]
          have e2 : ansH l pv L m D = (List.range l.toNat).map (hopAt l.toNat L D (provN l pv L) m) := by unfold ansH; rw [if_pos he]
          obtain ⟨K, rfl⟩ : ∃ K : Nat, l = (K : Int) := ⟨l.toNat, by omega⟩
          rw [Int.toNat_natCast] at e1 e2
          have HWY := Lib.hid fun W (hW : Ext NoB w W) => way39 K pv A DA c dc i0 L D W (HRR.out.ext hW (fun _ _ _ h => h)) hlen HEE.out hI' hi0 hS (HD.out.ext hW) (provN K pv L) hp
          unfold dirv at HWY
          have hH : (ansH (K : Int) pv L m D).length = K := by rw [e2]; simp
          have HANS := Lib.hid (And.intro he (And.intro e1 (And.intro e2 hH)))
          clear he hp e1 e2 hH HBAD hI' hi0
          go_upto_region 10 with (go_at_call 16; (with_reducible refine (HDR.out _ (x0.then hx3)).mono ?_); rintro e W4 ⟨rfl, x4⟩)
          have hx4 := hx3.then x4
          obtain ⟨⟨g0, g1⟩, _⟩ := HCL.out W4 hx4
          clear f0 f1
          generalize provN (K : Int) pv L = e at *
          go_upto_region 13 with (go_at_call 39; (with_reducible refine (HWY.out _ (x0.then hx4)).mono ?_); rintro e' W5 ⟨Aw, cw, rfl, hqw, x5⟩; have HQW := Lib.hid hqw; clear hqw)
          have hx5 := hx4.then x5
          have hqw2 : QRow W5 35 34 (.slice Aw ((List.range K).map (nodeAt K L D e)).length cw) ((List.range K).map (nodeAt K L D e)).length (flatN ((List.range K).map (nodeAt K L D e))) := by rw [List.length_map, List.length_range]; exact HQW.out
          have hrw := rd35 hqw2
          have hcw : K ≤ cw ∧ cw ≤ 9223372036854775807 := by have := hrw.cap; rw [List.length_map, List.length_range] at this; unfold maxLen at this; omega
          have HRW := Lib.hid hrw
          have HX5 := Lib.hid (x0.then hx5)
          have HX05 := Lib.hid hx5
          clear hqw2 hrw g0 g1 x2 x3 x4 x5 hx2 hx3 hx4 hx5 hS2 hK2
          go_loopw [14, 15] (fun ov iv W => RrRel W5 K ((List.range K).map (hopAt K L D e m)) ov iv W) (fun _ iv _ => K - (intOf iv).toNat)
          case atStart => exact ⟨0, none, 0, by omega, rfl, rfl, QRow.nil _ _ _, Ext.refl _ _, fun g hg => by cases hg⟩
          case round =>
            obtain ⟨t, A', c', ht, rfl, rfl, hrow, hx, hown⟩ := hrel
            by_cases hlt : t < K
            · have k1 : (t : Int) < (K : Int) := by omega
              have r1 := (HCL.out wr (HX05.out.then hx)).2
              obtain ⟨V, hV⟩ : ∃ V, V = (cc m).toArray := ⟨_, rfl⟩
              have lV : V.size = 11 := by rw [hV]; simp [cc_len]
              have sV : (Try.prog.info? 48).map (·.size) = some V.size := by rw [lV]; kernel_rfl
              have oV : V.all (·.oneCell') = true := by rw [hV]; exact all_oneCell_toArray (cc_one m)
              have hbV : (wr.alloc (.cells V 48)).heap[wr.heap.size]? = some (.cells (cc m).toArray 48 (0, 0)) := by rw [← hV]; exact heapNew _ _
              have xV := Ext.alloc NoB wr (.cells V 48)
              obtain ⟨bw0, ow0, hAw0, hbw0, _⟩ := HRW.out.at' t (by simp; omega)
              obtain ⟨bw, ow, hAw, hbw, hrt⟩ := (HRW.out.ext hx (fun _ _ _ h => h)).at' t (by simp; omega)
              have HBW0 : Hid (bw < W5.heap.size) := by
                rw [hAw] at hAw0
                injection hAw0 with hAw0
                injection hAw0 with q1 _
                subst q1
                exact Lib.hid hbw0
              clear hAw0 hbw0
              subst hAw
              rw [List.getElem_map, List.getElem_range] at hrt
              have hhop : ((List.range K).map (hopAt K L D e m)).take (t + 1) = ((List.range K).map (hopAt K L D e m)).take t ++ [hopAt K L D e m t] := by
                rw [List.take_succ_eq_append_getElem (by simp; omega), List.getElem_map, List.getElem_range]
              have HVV := Lib.hid hV
              have HRT := Lib.hid hrt
              have HHP := Lib.hid hhop
              have HROW := Lib.hid hrow
              have HOWN := Lib.hid hown
              have HXX := Lib.hid hx
              clear hV hrt hhop hrow hown
              go_upto_region 16 with (first
                | ((with_reducible show wpList _ _ _ (⟨_, .load 48 _, _, _, _, _⟩ :: _) _ _); refine wpList_load_arrm (by rfl) 48 _ rfl (w.heap.size + 1) 0 rfl (cc m) _ r1 Try.underlying48 rfl s48 ?_)
                | ((with_reducible show wpList _ _ _ (⟨_, .store 48 _ _, _, _, _, _⟩ :: _) _ _); refine wpList_store_new rfl 48 _ _ rfl wr.heap.size V rfl (by rw [HVV.out]; rfl) rfl (by rw [lV]; rfl) sV oV ?_))
              clear r1
              have hzs : wr.heap.size < (wr.alloc (.cells V 48)).heap.size := blk_lt' hbV
              have hql : ∀ g, (Value.slice A' t c').ownBlock = some g → g < wr.heap.size := fun g hg => QRow.lt HROW.out g hg
              generalize hcb : wr.heap.size = cb at *
              generalize wr.alloc (.cells V 48) = W6 at *
              have hgl : ∀ g, (Value.slice A' t c').ownBlock = some g → g < cb := fun g hg => hql g hg
              have HGL := Lib.hid hgl
              have hw1 := IntWalk.i64_in ((K : Int) - 1) (by omega)
              have HBV := Lib.hid hbV
              have HXV := Lib.hid xV
              have hkk : t + 1 = K ∨ t + 1 < K := by omega
              clear hgl hbV xV
              rcases hkk with htK | htK
              · have k2 : ¬ (t : Int) < (K : Int) - 1 := by omega
                have hnode : nodeAt K L D e t = e := by unfold nodeAt; rw [if_pos htK]
                have hhc : hc (hopAt K L D e m t) = bys (nodeAt K L D e t).key ++ cc m := by unfold hopAt hc; rw [if_pos htK, hnode]
                have HHC := Lib.hid hhc
                clear hnode hhc htK
                generalize hnd : nodeAt K L D e t = nd at *
                clear hnd
                have HX0 : Hid (Ext NoB W6 W6) := Lib.hid (Ext.refl _ _)
                have HB7 := HBV
                go_upto_region 18 with fail
                have HQ7 := Lib.hid (HROW.out.ext HXV.out (fun _ _ h => h))
                have HX57 := Lib.hid (hx.then HXV.out)
                have HKEY := Lib.hid (HXV.out.range (nd_key HRT.out) id)
                have HBW : Hid (bw < W5.heap.size) := Lib.hid HBW0.out
                have hrng : ∀ W, Ext (fun g => (Value.slice A' t c').ownBlock = some g) W6 W → W.rangeAt bw (ow + t * 34 + 1) (bys nd.key) ∧ W.rangeAt cb 0 (cc m) := fun W hW =>
                  ⟨hW.range (HKEY.out) (fun h => by have := HOWN.out bw (by rw [own_sl A' 0 0 t c']; exact h); have := HBW.out; omega), nd_box (hW.obj HB7.out (fun h => Nat.lt_irrefl _ (HGL.out _ h)))⟩
                have HRNG := Lib.hid hrng
                clear hrng
                have sK : (Try.prog.info? 33).map (·.size) = some (bys nd.key).length := by rw [bys_length, nd.len]; exact Try.size33
                have sC : (Try.prog.info? 48).map (·.size) = some (cc m).length := by rw [cc_len]; kernel_rfl
                refine wp_region_held_drew (S := fun W => Ext (fun g => (Value.slice A' t c').ownBlock = some g) W6 W) (by kernel_rfl) ?_ (fun hHeld => ?_)
                · exact Ext.drew _ _
                refine wpAnyH_take (i := 0) (oi := ⟨some 77, _, _, _, _, _⟩) (v := .slice A' t c') rfl (by kernel_rfl) (by kernel_rfl) (by kernel_rfl) (fun _ _ _ h => h) (Or.inl ⟨by rfl, fun w hSw => by (obtain _ := hSw; go_simp)⟩) (by assumption) ?_
                try simp only [Act.put, List.setIfInBounds_toArray, List.set_cons_zero, List.set_cons_succ]
                refine wpAnyH_take (i := 1) (oi := ⟨some 78, _, _, _, _, _⟩) (v := .slice (some ⟨bw, ow, none⟩) K cw) rfl (by kernel_rfl) (by kernel_rfl) (by kernel_rfl) (fun _ _ _ h => h) (Or.inl ⟨by rfl, fun w hSw => by (obtain _ := hSw; go_simp)⟩) (by assumption) ?_
                try simp only [Act.put, List.setIfInBounds_toArray, List.set_cons_zero, List.set_cons_succ]
                refine wpAnyH_take (i := 2) (oi := ⟨some 79, _, _, _, _, _⟩) (v := .int .i64 t) rfl (by kernel_rfl) (by kernel_rfl) (by kernel_rfl) (fun _ _ _ h => h) (Or.inl ⟨by rfl, fun w hSw => by (obtain _ := hSw; go_simp)⟩) (by assumption) ?_
                try simp only [Act.put, List.setIfInBounds_toArray, List.set_cons_zero, List.set_cons_succ]
                refine wpAnyH_take (i := 3) (oi := ⟨some 80, _, _, _, _, _⟩) (v := .pointer (some ⟨bw, ow + t * 34, none⟩)) rfl (by kernel_rfl) (by kernel_rfl) (by kernel_rfl) (fun _ _ _ h => h) (Or.inl ⟨by rfl, fun w hSw => by (obtain _ := hSw; go_simp)⟩) (by assumption) ?_
                try simp only [Act.put, List.setIfInBounds_toArray, List.set_cons_zero, List.set_cons_succ]
                refine wpAnyH_take (i := 4) (oi := ⟨some 81, _, _, _, _, _⟩) (v := .pointer (some ⟨bw, ow + t * 34 + 1, none⟩)) rfl (by kernel_rfl) (by kernel_rfl) (by kernel_rfl) (fun _ _ _ h => h) (Or.inl ⟨by rfl, fun w hSw => by (obtain _ := hSw; go_simp)⟩) (by assumption) ?_
                try simp only [Act.put, List.setIfInBounds_toArray, List.set_cons_zero, List.set_cons_succ]
                refine' wpAnyH_take (i := 5) (oi := ⟨some 82, _, _, _, _, _⟩) (v := _) rfl (by kernel_rfl) (by kernel_rfl) (by kernel_rfl) (fun _ _ _ h => h) (yieldsIf_load_mid (by rfl) 33 _ (by rfl) (bw) (ow + t * 34 + 1) (by rfl) (bys nd.key) _ (fun w h => (HRNG.out w h).1) Try.underlying33 (by rfl) sK) (by assumption) ?_
                try simp only [Act.put, List.setIfInBounds_toArray, List.set_cons_zero, List.set_cons_succ]
                refine' wpAnyH_take (i := 6) (oi := ⟨some 83, _, _, _, _, _⟩) (v := _) rfl (by kernel_rfl) (by kernel_rfl) (by kernel_rfl) (fun _ _ _ h => h) (yieldsIf_load_mid (by rfl) 48 _ (by rfl) (cb) (0) (by rfl) (cc m) _ (fun w h => (HRNG.out w h).2) Try.underlying48 (by rfl) sC) (by assumption) ?_
                try simp only [Act.put, List.setIfInBounds_toArray, List.set_cons_zero, List.set_cons_succ]
                refine wpAnyH_take (i := 7) (oi := ⟨some 84, _, _, _, _, _⟩) (v := .agg (bys nd.key ++ cc m).toArray) rfl (by kernel_rfl) (by kernel_rfl) (by kernel_rfl) (fun _ _ _ h => h) (yieldsIf_build60 (by rfl) _ _ (by rfl) (bys nd.key) (cc m) (by rw [bys_length, nd.len]) (cc_len _) (by rfl) (by rfl)) (by assumption) ?_
                try simp only [Act.put, List.setIfInBounds_toArray, List.set_cons_zero, List.set_cons_succ]
                refine wpAnyH_ready (rs := [8]) (by kernel_rfl) (by simp) (AllReadyH.cons (by rfl) (fun K' hK => ?_) AllReadyH.nil)
                refine step_slice60 (by rfl) _ (by rfl) (bys nd.key ++ cc m) (by simp [bys_length, nd.len, cc_len]) (by rfl) ?_
                have hnew := heapNew W6.drew (.cells (bys nd.key ++ cc m).toArray 60)
                have x13 : Ext NoB W6 (W6.drew.alloc (.cells (bys nd.key ++ cc m).toArray 60)) := (Ext.drew NoB W6).andAlloc _
                refine hK.out _ _ (x13.mono fun _ _ h => h.elim) (fun hHeld => ?_)
                clear hK K'
                try simp only [Act.put, List.setIfInBounds_toArray, List.set_cons_zero, List.set_cons_succ]
                have HQ9 := Lib.hid (HQ7.out.ext x13 (fun _ _ h => h))
                refine wpAnyH_ready (rs := [9]) (by kernel_rfl) (by simp) (AllReadyH.cons (by rfl) (fun K' hK => ?_) AllReadyH.nil)
                refine step_append_q (by rfl) _ _ 56 (by rfl) 60 43 64 (.agg (hc ⟨List.replicate 32 0, ⟨0, 0, 0, Z8, rfl⟩, rfl⟩).toArray) Try.underlying56 info60 (by rfl) (by decide) (.slice A' t c') t _ (by rfl) HQ9.out ⟨W6.drew.heap.size, 0, none⟩ 1 1 (bys nd.key ++ cc m) (by rfl) (by simp [bys_length, nd.len, cc_len]) (fun j u hj => by rw [add_none]; exact nd_box hnew j u hj) (hc_one ⟨nd.key, m, nd.len⟩) (by omega) (by unfold maxLen; omega) (by omega) ?_
                intro g3 o3 c3 W9 hq10 x10 hg10
                have x19 := (x13.mono (fun _ _ h => h.elim)).then x10
                refine hK.out _ _ x19 (fun hHeld => ?_)
                clear hK K'
                try simp only [Act.put, List.setIfInBounds_toArray, List.set_cons_zero, List.set_cons_succ]
                refine wpAnyH_take (i := 10) (oi := ⟨some 14, _, _, _, _, _⟩) (v := .slice (some ⟨g3, o3, none⟩) (t + 1) c3) rfl (by kernel_rfl) (by kernel_rfl) (by kernel_rfl) (fun _ _ _ h => h) (Or.inl ⟨by rfl, fun w hSw => by go_simp⟩) (by assumption) ?_
                try simp only [Act.put, List.setIfInBounds_toArray, List.set_cons_zero, List.set_cons_succ]
                refine wpAnyH_done (by kernel_rfl) ?_ _
                have hgo : ∀ g, (Value.slice A' t c').ownBlock = some g → W5.heap.size ≤ g := fun g hg => HOWN.out g (by rw [own_sl A' 0 0 t c']; exact hg)
                have hown3 : ∀ g, (Value.slice (some ⟨g3, o3, none⟩) 0 0).ownBlock = some g → W5.heap.size ≤ g := fun g hg => by
                  have e : g3 = g := by simpa [Value.ownBlock] using hg
                  rcases hg10 with h | h
                  · exact hgo g (e ▸ h)
                  · have := x13.size
                    have := HX57.out.size
                    omega
                have hEND : RrRel W5 K ((List.range K).map (hopAt K L D e m)) (.slice (some ⟨g3, o3, none⟩) (t + 1) c3) (.int .i64 ((t + 1 : Nat) : Int)) W9 := by
                  refine ⟨t + 1, _, _, by omega, rfl, rfl, ?_, ?_, hown3⟩
                  · rw [HHP.out, flatG_append]
                    have : flatG hc [hopAt K L D e m t] = bys nd.key ++ cc m := by rw [← HHC.out]; simp [flatG]
                    rw [this]; exact hq10
                  · exact HX57.out.trans x19 (fun _ _ h => h) (fun i hi hf => by have := hgo i hf; omega)
                have HEND := Lib.hid hEND
                clear hEND hown3 x19 hq10 x10 hg10 x13 hnew hHeld
                go_wp2_with fail
                exact ⟨by have := HEND.out; simpa using this, by simp [intOf]; omega⟩
              · have k2 : (t : Int) < (K : Int) - 1 := by omega
                have hnode : nodeAt K L D e t = pickN L D t := by unfold nodeAt; rw [if_neg (by omega)]
                have hhc : hc (hopAt K L D e m t) = bys (nodeAt K L D e t).key ++ cc (fwd (nodeAt K L D e (t + 1)).id (D.getD (2 * t + 1) 0 % 65)) := by unfold hopAt hc; rw [if_neg (by omega), hnode]
                obtain ⟨bw', ow', hAw, _, hrt1⟩ := (HRW.out.ext (hx.then HXV.out) (fun _ _ _ h => h)).at' (t + 1) (by simp; omega)
                injection hAw with hAw
                injection hAw with q1 q2
                subst q1; subst q2
                rw [List.getElem_map, List.getElem_range] at hrt1
                have cn := nd_id hrt1
                obtain ⟨bd, od, hDA, hbd, hd1, hd2, hd3⟩ := (HD.out.ext ((HX5.out.then hx).then HXV.out)).at' (2 * t + 1) (by omega)
                obtain ⟨_, _, hDA2, hbd2, _⟩ := (HD.out.ext (HX5.out.then hx)).at' (2 * t + 1) (by omega)
                rw [hDA] at hDA2
                injection hDA2 with hDA2
                injection hDA2 with q3 q4
                subst q3
                subst q4
                subst hDA
                have HHC := Lib.hid hhc
                clear hhc hnode hrt1
                generalize hnd : nodeAt K L D e t = nd at *
                generalize (nodeAt K L D e (t + 1)).id = nid at *
                generalize D.getD (2 * t + 1) 0 = dy at *
                clear hnd
                obtain ⟨C, hC⟩ : ∃ C, C = fwd nid (dy % 65) := ⟨_, rfl⟩
                rw [← hC] at HHC
                have hCa : (cc C).toArray = #[.int .i64 1, .int .i64 nid, .int .i64 (dy % 65), .int .u8 0, .int .u8 0, .int .u8 0, .int .u8 0, .int .u8 0, .int .u8 0, .int .u8 0, .int .u8 0] := by rw [hC]; rfl
                have HCA := Lib.hid hCa
                clear hC hCa
                have t1 : (t : Int) + 1 < (K : Int) := by omega
                have t2 : ((t : Int) + 1).toNat = t + 1 := by omega
                have t3 : 0 ≤ (t : Int) + 1 := by omega
                have t4 : 2 * (t : Int) + 1 < (D.length : Int) := by omega
                have t5 : (2 * (t : Int) + 1).toNat = 2 * t + 1 := by omega
                have t6 : 0 ≤ 2 * (t : Int) + 1 := by omega
                have w1 := IntWalk.i64_in ((t : Int) + 1) (by omega)
                have w2 := IntWalk.i64_in (2 * (t : Int)) (by omega)
                have w3 := IntWalk.i64_in (2 * (t : Int) + 1) (by omega)
                have w4 := IntWalk.i64_in dy (by omega)
                have hr0 : dy.tmod 65 = dy % 65 := Int.tmod_eq_emod_of_nonneg hd2
                have w5 := IntWalk.i64_in (dy % 65) (by omega)
                have u1 : (t : Int) + 1 ≤ 9223372036854775807 := by omega
                go_upto_region 17 with fail
                refine wp_region_held_drew (S := fun W => W.cell? ⟨bw, ow + (t + 1) * 34, none⟩ = some (.int .i64 nid) ∧ W.cell? ⟨bd, od + (2 * t + 1), none⟩ = some (.int .u8 dy)) (by kernel_rfl) ⟨cn, hd1⟩ (fun hHeld => ?_)
                refine wpAnyH_take (i := 0) (oi := ⟨some 62, _, _, _, _, _⟩) (v := .slice (some ⟨bw, ow, none⟩) K cw) rfl (by kernel_rfl) (by kernel_rfl) (by kernel_rfl) (fun _ _ _ h => h) (Or.inl ⟨by rfl, fun w hSw => by (obtain ⟨s0, s1⟩ := hSw; go_simp)⟩) (by assumption) ?_
                try simp only [Act.put, List.setIfInBounds_toArray, List.set_cons_zero, List.set_cons_succ]
                refine wpAnyH_take (i := 1) (oi := ⟨some 63, _, _, _, _, _⟩) (v := .int .i64 t) rfl (by kernel_rfl) (by kernel_rfl) (by kernel_rfl) (fun _ _ _ h => h) (Or.inl ⟨by rfl, fun w hSw => by (obtain ⟨s0, s1⟩ := hSw; go_simp)⟩) (by assumption) ?_
                try simp only [Act.put, List.setIfInBounds_toArray, List.set_cons_zero, List.set_cons_succ]
                refine wpAnyH_take (i := 2) (oi := ⟨some 64, _, _, _, _, _⟩) (v := .int .i64 ((t : Int) + 1)) rfl (by kernel_rfl) (by kernel_rfl) (by kernel_rfl) (fun _ _ _ h => h) (Or.inl ⟨by rfl, fun w hSw => by (obtain ⟨s0, s1⟩ := hSw; go_simp)⟩) (by assumption) ?_
                try simp only [Act.put, List.setIfInBounds_toArray, List.set_cons_zero, List.set_cons_succ]
                refine wpAnyH_take (i := 3) (oi := ⟨some 65, _, _, _, _, _⟩) (v := .pointer (some ⟨bw, ow + (t + 1) * 34, none⟩)) rfl (by kernel_rfl) (by kernel_rfl) (by kernel_rfl) (fun _ _ _ h => h) (Or.inl ⟨by rfl, fun w hSw => by (obtain ⟨s0, s1⟩ := hSw; go_simp)⟩) (by assumption) ?_
                try simp only [Act.put, List.setIfInBounds_toArray, List.set_cons_zero, List.set_cons_succ]
                refine wpAnyH_take (i := 4) (oi := ⟨some 66, _, _, _, _, _⟩) (v := .pointer (some ⟨bw, ow + (t + 1) * 34, none⟩)) rfl (by kernel_rfl) (by kernel_rfl) (by kernel_rfl) (fun _ _ _ h => h) (Or.inl ⟨by rfl, fun w hSw => by (obtain ⟨s0, s1⟩ := hSw; go_simp)⟩) (by assumption) ?_
                try simp only [Act.put, List.setIfInBounds_toArray, List.set_cons_zero, List.set_cons_succ]
                refine wpAnyH_take (i := 5) (oi := ⟨some 67, _, _, _, _, _⟩) (v := .int .i64 nid) rfl (by kernel_rfl) (by kernel_rfl) (by kernel_rfl) (fun _ _ _ h => h) (Or.inl ⟨by rfl, fun w hSw => by (obtain ⟨s0, s1⟩ := hSw; go_simp)⟩) (by assumption) ?_
                try simp only [Act.put, List.setIfInBounds_toArray, List.set_cons_zero, List.set_cons_succ]
                refine wpAnyH_take (i := 6) (oi := ⟨some 68, _, _, _, _, _⟩) (v := .slice (some ⟨bd, od, none⟩) D.length dc) rfl (by kernel_rfl) (by kernel_rfl) (by kernel_rfl) (fun _ _ _ h => h) (Or.inl ⟨by rfl, fun w hSw => by (obtain ⟨s0, s1⟩ := hSw; go_simp)⟩) (by assumption) ?_
                try simp only [Act.put, List.setIfInBounds_toArray, List.set_cons_zero, List.set_cons_succ]
                refine wpAnyH_take (i := 7) (oi := ⟨some 69, _, _, _, _, _⟩) (v := .int .i64 t) rfl (by kernel_rfl) (by kernel_rfl) (by kernel_rfl) (fun _ _ _ h => h) (Or.inl ⟨by rfl, fun w hSw => by (obtain ⟨s0, s1⟩ := hSw; go_simp)⟩) (by assumption) ?_
                try simp only [Act.put, List.setIfInBounds_toArray, List.set_cons_zero, List.set_cons_succ]
                refine wpAnyH_take (i := 8) (oi := ⟨some 70, _, _, _, _, _⟩) (v := .int .i64 (2 * (t : Int))) rfl (by kernel_rfl) (by kernel_rfl) (by kernel_rfl) (fun _ _ _ h => h) (Or.inl ⟨by rfl, fun w hSw => by (obtain ⟨s0, s1⟩ := hSw; go_simp)⟩) (by assumption) ?_
                try simp only [Act.put, List.setIfInBounds_toArray, List.set_cons_zero, List.set_cons_succ]
                refine wpAnyH_take (i := 9) (oi := ⟨some 71, _, _, _, _, _⟩) (v := .int .i64 (2 * (t : Int) + 1)) rfl (by kernel_rfl) (by kernel_rfl) (by kernel_rfl) (fun _ _ _ h => h) (Or.inl ⟨by rfl, fun w hSw => by (obtain ⟨s0, s1⟩ := hSw; go_simp)⟩) (by assumption) ?_
                try simp only [Act.put, List.setIfInBounds_toArray, List.set_cons_zero, List.set_cons_succ]
                refine wpAnyH_take (i := 10) (oi := ⟨some 72, _, _, _, _, _⟩) (v := .pointer (some ⟨bd, od + (2 * t + 1), none⟩)) rfl (by kernel_rfl) (by kernel_rfl) (by kernel_rfl) (fun _ _ _ h => h) (Or.inl ⟨by rfl, fun w hSw => by (obtain ⟨s0, s1⟩ := hSw; go_simp)⟩) (by assumption) ?_
                try simp only [Act.put, List.setIfInBounds_toArray, List.set_cons_zero, List.set_cons_succ]
                refine wpAnyH_take (i := 11) (oi := ⟨some 73, _, _, _, _, _⟩) (v := .int .u8 dy) rfl (by kernel_rfl) (by kernel_rfl) (by kernel_rfl) (fun _ _ _ h => h) (Or.inl ⟨by rfl, fun w hSw => by (obtain ⟨s0, s1⟩ := hSw; go_simp)⟩) (by assumption) ?_
                try simp only [Act.put, List.setIfInBounds_toArray, List.set_cons_zero, List.set_cons_succ]
                refine wpAnyH_take (i := 12) (oi := ⟨some 74, _, _, _, _, _⟩) (v := .int .i64 dy) rfl (by kernel_rfl) (by kernel_rfl) (by kernel_rfl) (fun _ _ _ h => h) (Or.inl ⟨by rfl, fun w hSw => by (obtain ⟨s0, s1⟩ := hSw; go_simp)⟩) (by assumption) ?_
                try simp only [Act.put, List.setIfInBounds_toArray, List.set_cons_zero, List.set_cons_succ]
                refine wpAnyH_take (i := 13) (oi := ⟨some 75, _, _, _, _, _⟩) (v := .int .i64 (dy % 65)) rfl (by kernel_rfl) (by kernel_rfl) (by kernel_rfl) (fun _ _ _ h => h) (Or.inl ⟨by rfl, fun w hSw => by (obtain ⟨s0, s1⟩ := hSw; go_simp)⟩) (by assumption) ?_
                try simp only [Act.put, List.setIfInBounds_toArray, List.set_cons_zero, List.set_cons_succ]
                refine wpAnyH_take (i := 14) (oi := ⟨some 76, _, _, _, _, _⟩) (v := .agg #[.int .i64 1, .int .i64 nid, .int .i64 (dy % 65), .int .u8 0, .int .u8 0, .int .u8 0, .int .u8 0, .int .u8 0, .int .u8 0, .int .u8 0, .int .u8 0]) rfl (by kernel_rfl) (by kernel_rfl) (by kernel_rfl) (fun _ _ _ h => h) (Or.inl ⟨by rfl, fun w hSw => by (obtain ⟨s0, s1⟩ := hSw; go_simp)⟩) (by assumption) ?_
                try simp only [Act.put, List.setIfInBounds_toArray, List.set_cons_zero, List.set_cons_succ]
                refine wpAnyH_ready (rs := [15]) (by kernel_rfl) (by simp) (AllReadyH.cons (o := ⟨none, _, _, _, _, _⟩) (by rfl) (fun K' hK => ?_) AllReadyH.nil)
                rw [if_pos (by rfl)]
                have hb6 : W6.drew.heap[cb]? = some (.cells (cc m).toArray 48 (0, 0)) := HBV.out
                have hb7 := setCells_whole hb6 (cc C) (by simp [cc_len])
                have x7 : Ext (fun g => g = cb) W6.drew (W6.drew.setCells cb 0 (cc C)) := Ext.andCells (Ext.refl _ _) _ _ (fun _ => rfl)
                refine wp_store_mid 48 _ _ rfl cb 0 (cc C).toArray (by rfl) (by rw [HCA.out]; rfl) (there_of hb6 (by rw [List.size_toArray, cc_len, cc_len]; exact Nat.le_refl _)) (by rw [List.size_toArray, cc_len]; kernel_rfl) (all_oneCell_toArray (cc_one C)) ?_
                refine hK.out _ _ ⟨x7.cell (show W6.drew.cell? _ = _ from cn) (by show ¬ bw = cb; omega), x7.cell (show W6.drew.cell? _ = _ from hd1) (by show ¬ bd = cb; omega)⟩ (fun hHeld2 => ?_)
                clear hK K'
                try simp only [Act.put, List.setIfInBounds_toArray, List.set_cons_zero, List.set_cons_succ]
                refine wpAnyH_done (by kernel_rfl) ?_ _
                have hx7 : Ext (fun g => g = cb) W6 (W6.drew.setCells cb 0 (cc C)) := (Ext.drew _ _).then x7
                have HB7 := Lib.hid hb7
                have HX7 := Lib.hid hx7
                clear hHeld hHeld2 hb6 hb7 x7 hx7 cn hd1
                go_upto_region 18 with fail
                generalize W6.drew.setCells cb 0 (cc C) = W7 at *
                have HQ7 := Lib.hid ((HROW.out.ext HXV.out (fun _ _ h => h)).ext HX7.out (fun g hg h => Nat.lt_irrefl _ (h ▸ HGL.out g hg)))
                have HX57 : Hid (Ext NoB W5 W7) := Lib.hid ((hx.then HXV.out).trans HX7.out (fun _ _ h => h) (fun i hi h => by have := hx.size; omega))
                have HKEY := Lib.hid (HX7.out.range (HXV.out.range (nd_key HRT.out) id) (show ¬ bw = cb by omega))
                have HBW : Hid (bw < W5.heap.size) := Lib.hid HBW0.out
                have hrng : ∀ W, Ext (fun g => (Value.slice A' t c').ownBlock = some g) W7 W → W.rangeAt bw (ow + t * 34 + 1) (bys nd.key) ∧ W.rangeAt cb 0 (cc C) := fun W hW =>
                  ⟨hW.range (HKEY.out) (fun h => by have := HOWN.out bw (by rw [own_sl A' 0 0 t c']; exact h); have := HBW.out; omega), nd_box (hW.obj HB7.out (fun h => Nat.lt_irrefl _ (HGL.out _ h)))⟩
                have HRNG := Lib.hid hrng
                clear hrng
                have sK : (Try.prog.info? 33).map (·.size) = some (bys nd.key).length := by rw [bys_length, nd.len]; exact Try.size33
                have sC : (Try.prog.info? 48).map (·.size) = some (cc C).length := by rw [cc_len]; kernel_rfl
                refine wp_region_held_drew (S := fun W => Ext (fun g => (Value.slice A' t c').ownBlock = some g) W7 W) (by kernel_rfl) ?_ (fun hHeld => ?_)
                · exact Ext.drew _ _
                refine wpAnyH_take (i := 0) (oi := ⟨some 77, _, _, _, _, _⟩) (v := .slice A' t c') rfl (by kernel_rfl) (by kernel_rfl) (by kernel_rfl) (fun _ _ _ h => h) (Or.inl ⟨by rfl, fun w hSw => by (obtain _ := hSw; go_simp)⟩) (by assumption) ?_
                try simp only [Act.put, List.setIfInBounds_toArray, List.set_cons_zero, List.set_cons_succ]
                refine wpAnyH_take (i := 1) (oi := ⟨some 78, _, _, _, _, _⟩) (v := .slice (some ⟨bw, ow, none⟩) K cw) rfl (by kernel_rfl) (by kernel_rfl) (by kernel_rfl) (fun _ _ _ h => h) (Or.inl ⟨by rfl, fun w hSw => by (obtain _ := hSw; go_simp)⟩) (by assumption) ?_
                try simp only [Act.put, List.setIfInBounds_toArray, List.set_cons_zero, List.set_cons_succ]
                refine wpAnyH_take (i := 2) (oi := ⟨some 79, _, _, _, _, _⟩) (v := .int .i64 t) rfl (by kernel_rfl) (by kernel_rfl) (by kernel_rfl) (fun _ _ _ h => h) (Or.inl ⟨by rfl, fun w hSw => by (obtain _ := hSw; go_simp)⟩) (by assumption) ?_
                try simp only [Act.put, List.setIfInBounds_toArray, List.set_cons_zero, List.set_cons_succ]
                refine wpAnyH_take (i := 3) (oi := ⟨some 80, _, _, _, _, _⟩) (v := .pointer (some ⟨bw, ow + t * 34, none⟩)) rfl (by kernel_rfl) (by kernel_rfl) (by kernel_rfl) (fun _ _ _ h => h) (Or.inl ⟨by rfl, fun w hSw => by (obtain _ := hSw; go_simp)⟩) (by assumption) ?_
                try simp only [Act.put, List.setIfInBounds_toArray, List.set_cons_zero, List.set_cons_succ]
                refine wpAnyH_take (i := 4) (oi := ⟨some 81, _, _, _, _, _⟩) (v := .pointer (some ⟨bw, ow + t * 34 + 1, none⟩)) rfl (by kernel_rfl) (by kernel_rfl) (by kernel_rfl) (fun _ _ _ h => h) (Or.inl ⟨by rfl, fun w hSw => by (obtain _ := hSw; go_simp)⟩) (by assumption) ?_
                try simp only [Act.put, List.setIfInBounds_toArray, List.set_cons_zero, List.set_cons_succ]
                refine' wpAnyH_take (i := 5) (oi := ⟨some 82, _, _, _, _, _⟩) (v := _) rfl (by kernel_rfl) (by kernel_rfl) (by kernel_rfl) (fun _ _ _ h => h) (yieldsIf_load_mid (by rfl) 33 _ (by rfl) (bw) (ow + t * 34 + 1) (by rfl) (bys nd.key) _ (fun w h => (HRNG.out w h).1) Try.underlying33 (by rfl) sK) (by assumption) ?_
                try simp only [Act.put, List.setIfInBounds_toArray, List.set_cons_zero, List.set_cons_succ]
                refine' wpAnyH_take (i := 6) (oi := ⟨some 83, _, _, _, _, _⟩) (v := _) rfl (by kernel_rfl) (by kernel_rfl) (by kernel_rfl) (fun _ _ _ h => h) (yieldsIf_load_mid (by rfl) 48 _ (by rfl) (cb) (0) (by rfl) (cc C) _ (fun w h => (HRNG.out w h).2) Try.underlying48 (by rfl) sC) (by assumption) ?_
                try simp only [Act.put, List.setIfInBounds_toArray, List.set_cons_zero, List.set_cons_succ]
                refine wpAnyH_take (i := 7) (oi := ⟨some 84, _, _, _, _, _⟩) (v := .agg (bys nd.key ++ cc C).toArray) rfl (by kernel_rfl) (by kernel_rfl) (by kernel_rfl) (fun _ _ _ h => h) (yieldsIf_build60 (by rfl) _ _ (by rfl) (bys nd.key) (cc C) (by rw [bys_length, nd.len]) (cc_len _) (by rfl) (by rfl)) (by assumption) ?_
                try simp only [Act.put, List.setIfInBounds_toArray, List.set_cons_zero, List.set_cons_succ]
                refine wpAnyH_ready (rs := [8]) (by kernel_rfl) (by simp) (AllReadyH.cons (by rfl) (fun K' hK => ?_) AllReadyH.nil)
                refine step_slice60 (by rfl) _ (by rfl) (bys nd.key ++ cc C) (by simp [bys_length, nd.len, cc_len]) (by rfl) ?_
                have hnew := heapNew W7.drew (.cells (bys nd.key ++ cc C).toArray 60)
                have x13 : Ext NoB W7 (W7.drew.alloc (.cells (bys nd.key ++ cc C).toArray 60)) := (Ext.drew NoB W7).andAlloc _
                refine hK.out _ _ (x13.mono fun _ _ h => h.elim) (fun hHeld => ?_)
                clear hK K'
                try simp only [Act.put, List.setIfInBounds_toArray, List.set_cons_zero, List.set_cons_succ]
                have HQ9 := Lib.hid (HQ7.out.ext x13 (fun _ _ h => h))
                refine wpAnyH_ready (rs := [9]) (by kernel_rfl) (by simp) (AllReadyH.cons (by rfl) (fun K' hK => ?_) AllReadyH.nil)
                refine step_append_q (by rfl) _ _ 56 (by rfl) 60 43 64 (.agg (hc ⟨List.replicate 32 0, ⟨0, 0, 0, Z8, rfl⟩, rfl⟩).toArray) Try.underlying56 info60 (by rfl) (by decide) (.slice A' t c') t _ (by rfl) HQ9.out ⟨W7.drew.heap.size, 0, none⟩ 1 1 (bys nd.key ++ cc C) (by rfl) (by simp [bys_length, nd.len, cc_len]) (fun j u hj => by rw [add_none]; exact nd_box hnew j u hj) (hc_one ⟨nd.key, C, nd.len⟩) (by omega) (by unfold maxLen; omega) (by omega) ?_
                intro g3 o3 c3 W9 hq10 x10 hg10
                have x19 := (x13.mono (fun _ _ h => h.elim)).then x10
                refine hK.out _ _ x19 (fun hHeld => ?_)
                clear hK K'
                try simp only [Act.put, List.setIfInBounds_toArray, List.set_cons_zero, List.set_cons_succ]
                refine wpAnyH_take (i := 10) (oi := ⟨some 14, _, _, _, _, _⟩) (v := .slice (some ⟨g3, o3, none⟩) (t + 1) c3) rfl (by kernel_rfl) (by kernel_rfl) (by kernel_rfl) (fun _ _ _ h => h) (Or.inl ⟨by rfl, fun w hSw => by go_simp⟩) (by assumption) ?_
                try simp only [Act.put, List.setIfInBounds_toArray, List.set_cons_zero, List.set_cons_succ]
                refine wpAnyH_done (by kernel_rfl) ?_ _
                have hgo : ∀ g, (Value.slice A' t c').ownBlock = some g → W5.heap.size ≤ g := fun g hg => HOWN.out g (by rw [own_sl A' 0 0 t c']; exact hg)
                have hown3 : ∀ g, (Value.slice (some ⟨g3, o3, none⟩) 0 0).ownBlock = some g → W5.heap.size ≤ g := fun g hg => by
                  have e : g3 = g := by simpa [Value.ownBlock] using hg
                  rcases hg10 with h | h
                  · exact hgo g (e ▸ h)
                  · have := x13.size
                    have := HX57.out.size
                    omega
                have hEND : RrRel W5 K ((List.range K).map (hopAt K L D e m)) (.slice (some ⟨g3, o3, none⟩) (t + 1) c3) (.int .i64 ((t + 1 : Nat) : Int)) W9 := by
                  refine ⟨t + 1, _, _, by omega, rfl, rfl, ?_, ?_, hown3⟩
                  · rw [HHP.out, flatG_append]
                    have : flatG hc [hopAt K L D e m t] = bys nd.key ++ cc C := by rw [← HHC.out]; simp [flatG]
                    rw [this]; exact hq10
                  · exact HX57.out.trans x19 (fun _ _ h => h) (fun i hi hf => by have := hgo i hf; omega)
                have HEND := Lib.hid hEND
                clear hEND hown3 x19 hq10 x10 hg10 x13 hnew hHeld
                go_wp2_with fail
                exact ⟨by have := HEND.out; simpa using this, by simp [intOf]; omega⟩
            · have k1 : ¬ (t : Int) < (K : Int) := by omega
              obtain rfl : t = K := by omega
              have hK1 : 0 < t := by omega
              have hkc : (0 : Int) < (t : Int) := by omega
              obtain ⟨bw, ow, hAw, hbw, hrt⟩ := (HRW.out.ext hx (fun _ _ _ h => h)).at' 0 (by simp; omega)
              subst hAw
              rw [List.getElem_map, List.getElem_range, Nat.zero_mul, Nat.add_zero] at hrt
              have cn := nd_id hrt
              rw [List.take_of_length_le (by simp)] at hrow
              have HROW := Lib.hid hrow
              clear hrow hrt
              go_wp2_with fail
              go_ret3
              refine ⟨A', c', by rw [HANS.out.1, HANS.out.2.1, HANS.out.2.2.2]; rfl, ?_, HX5.out.then hx⟩
              rw [HANS.out.2.2.2, HANS.out.2.2.1]
              exact HROW.out
  · have he : ansE l pv L m D.length = chk l L := by unfold ansE; rw [if_neg hE]
    have HE := Lib.hid (And.intro he (HBAD.out _ hE he))
    have hE2 : (chk l L == 0) = false := beq_eq_false_iff_ne.2 hE
    generalize chk l L = q at *
    clear he
    go_wp2_with (go_at_call 14; (with_reducible refine (HCK.out _ x0).mono ?_); rintro e W1 ⟨rfl, x1⟩)
    go_ret3
    exact ⟨none, 0, by rw [HE.out.1, HE.out.2.1, HE.out.2.2]; rfl, by rw [HE.out.2.2]; exact QRow.nil _ _ _, x0.then x1⟩
end Go.Proofs.Ytdibjnlmeiikmaa
