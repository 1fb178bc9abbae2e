/-
  Theirs: the document's directory, turned into the program's.
-/
import Derived.Test.YtdibjnlmeiikmaaZg
set_option linter.unusedVariables false
set_option linter.unusedSimpArgs false
namespace Go.Proofs.Ytdibjnlmeiikmaa
open Go.RowKit Go.Proofs

theorem run_build50' (w : World) (a b : Int) (xx0 xx1 xx2 xx3 xx4 xx5 xx6 xx7 xx8 xx9 xx10 xx11 xx12 xx13 xx14 xx15 xx16 xx17 xx18 xx19 xx20 xx21 xx22 xx23 xx24 xx25 xx26 xx27 xx28 xx29 xx30 xx31 : Value) : (Instr.build 50 #[(0, .int .i64 a), (1, .agg #[xx0, xx1, xx2, xx3, xx4, xx5, xx6, xx7, xx8, xx9, xx10, xx11, xx12, xx13, xx14, xx15, xx16, xx17, xx18, xx19, xx20, xx21, xx22, xx23, xx24, xx25, xx26, xx27, xx28, xx29, xx30, xx31]), (2, .int .i64 b)]).run Try.prog w = .ok (.agg #[.int .i64 a, xx0, xx1, xx2, xx3, xx4, xx5, xx6, xx7, xx8, xx9, xx10, xx11, xx12, xx13, xx14, xx15, xx16, xx17, xx18, xx19, xx20, xx21, xx22, xx23, xx24, xx25, xx26, xx27, xx28, xx29, xx30, xx31, .int .i64 b]) w := by kernel_rfl
theorem run_build50 (w : World) (n : Nd) : (Instr.build 50 #[(0, .int .i64 n.id), (1, .agg (bys n.key).toArray), (2, .int .i64 n.lay)]).run Try.prog w = .ok (.agg (nc n).toArray) w := by
  obtain ⟨xx0, xx1, xx2, xx3, xx4, xx5, xx6, xx7, xx8, xx9, xx10, xx11, xx12, xx13, xx14, xx15, xx16, xx17, xx18, xx19, xx20, xx21, xx22, xx23, xx24, xx25, xx26, xx27, xx28, xx29, xx30, xx31, h⟩ := thirtytwo (bys n.key) (by rw [bys_length, n.len])
  unfold nc
  rw [h]
  exact run_build50' w _ _ xx0 xx1 xx2 xx3 xx4 xx5 xx6 xx7 xx8 xx9 xx10 xx11 xx12 xx13 xx14 xx15 xx16 xx17 xx18 xx19 xx20 xx21 xx22 xx23 xx24 xx25 xx26 xx27 xx28 xx29 xx30 xx31
theorem wpList_build50 {ops : Array Oper} {rest : List Oper} {o : Oper} {a : Act} {w : World} {Q : Exit → Act → World → Prop} (hgd : o.guard = none) (x0 x1 x2 : Operand)
    (ho : o.op = .build 50 #[(0, x0), (1, x1), (2, x2)]) (n : Nd) (h0 : a.eval x0 = .int .i64 n.id) (h1 : a.eval x1 = .agg (bys n.key).toArray) (h2 : a.eval x2 = .int .i64 n.lay)
    (hK : wpList Try.prog ops Q rest (a.put o.dst (.agg (nc n).toArray)) w) : wpList Try.prog ops Q (o :: rest) a w :=
  wpList_plain hgd fun K hK' => by
    unfold Oper.wp execOp
    simp only [ho, List.map_toArray, List.map_cons, List.map_nil, h0, h1, h2, Sem.run_bind, Sem.run_pure, run_build50 w n, Result.andThen_ok]
    exact hK' _ _ hK
theorem two_more (C : List Value) (hC : C.length = 34) : ∃ yy0 yy1 yy2 yy3 yy4 yy5 yy6 yy7 yy8 yy9 yy10 yy11 yy12 yy13 yy14 yy15 yy16 yy17 yy18 yy19 yy20 yy21 yy22 yy23 yy24 yy25 yy26 yy27 yy28 yy29 yy30 yy31 yy32 yy33, C = [yy0, yy1, yy2, yy3, yy4, yy5, yy6, yy7, yy8, yy9, yy10, yy11, yy12, yy13, yy14, yy15, yy16, yy17, yy18, yy19, yy20, yy21, yy22, yy23, yy24, yy25, yy26, yy27, yy28, yy29, yy30, yy31, yy32, yy33] := by
  obtain ⟨xx0, xx1, xx2, xx3, xx4, xx5, xx6, xx7, xx8, xx9, xx10, xx11, xx12, xx13, xx14, xx15, xx16, xx17, xx18, xx19, xx20, xx21, xx22, xx23, xx24, xx25, xx26, xx27, xx28, xx29, xx30, xx31, h1⟩ := thirtytwo (C.take 32) (by simp [hC])
  have h2 : ∃ p q, C.drop 32 = [p, q] := by
    match h : C.drop 32, (by rw [List.length_drop, hC] : (C.drop 32).length = 2) with
    | [p, q], _ => exact ⟨p, q, rfl⟩
  obtain ⟨p, q, h2⟩ := h2
  have h := List.take_append_drop 32 C
  rw [h1, h2] at h
  exact ⟨xx0, xx1, xx2, xx3, xx4, xx5, xx6, xx7, xx8, xx9, xx10, xx11, xx12, xx13, xx14, xx15, xx16, xx17, xx18, xx19, xx20, xx21, xx22, xx23, xx24, xx25, xx26, xx27, xx28, xx29, xx30, xx31, p, q, h.symm⟩
theorem run_slice50' (w : World) (yy0 yy1 yy2 yy3 yy4 yy5 yy6 yy7 yy8 yy9 yy10 yy11 yy12 yy13 yy14 yy15 yy16 yy17 yy18 yy19 yy20 yy21 yy22 yy23 yy24 yy25 yy26 yy27 yy28 yy29 yy30 yy31 yy32 yy33 : Value) : (Instr.buildSlice 28 1 #[(0, .agg #[yy0, yy1, yy2, yy3, yy4, yy5, yy6, yy7, yy8, yy9, yy10, yy11, yy12, yy13, yy14, yy15, yy16, yy17, yy18, yy19, yy20, yy21, yy22, yy23, yy24, yy25, yy26, yy27, yy28, yy29, yy30, yy31, yy32, yy33])]).run Try.prog w = .ok (.slice (some ⟨w.heap.size, 0, none⟩) 1 1) (w.alloc (.cells #[yy0, yy1, yy2, yy3, yy4, yy5, yy6, yy7, yy8, yy9, yy10, yy11, yy12, yy13, yy14, yy15, yy16, yy17, yy18, yy19, yy20, yy21, yy22, yy23, yy24, yy25, yy26, yy27, yy28, yy29, yy30, yy31, yy32, yy33] 50)) := by kernel_rfl
theorem run_slice50 (w : World) (C : List Value) (hC : C.length = 34) : (Instr.buildSlice 28 1 #[(0, .agg C.toArray)]).run Try.prog w = .ok (.slice (some ⟨w.heap.size, 0, none⟩) 1 1) (w.alloc (.cells C.toArray 50)) := by
  obtain ⟨yy0, yy1, yy2, yy3, yy4, yy5, yy6, yy7, yy8, yy9, yy10, yy11, yy12, yy13, yy14, yy15, yy16, yy17, yy18, yy19, yy20, yy21, yy22, yy23, yy24, yy25, yy26, yy27, yy28, yy29, yy30, yy31, yy32, yy33, rfl⟩ := two_more C hC
  exact run_slice50' w yy0 yy1 yy2 yy3 yy4 yy5 yy6 yy7 yy8 yy9 yy10 yy11 yy12 yy13 yy14 yy15 yy16 yy17 yy18 yy19 yy20 yy21 yy22 yy23 yy24 yy25 yy26 yy27 yy28 yy29 yy30 yy31 yy32 yy33
theorem wpList_slice50 {ops : Array Oper} {rest : List Oper} {o : Oper} {a : Act} {w : World} {Q : Exit → Act → World → Prop} (hgd : o.guard = none) (x : Operand)
    (ho : o.op = .buildSlice 28 1 #[(0, x)]) (C : List Value) (hC : C.length = 34) (hx : a.eval x = .agg C.toArray)
    (hK : wpList Try.prog ops Q rest (a.put o.dst (.slice (some ⟨w.heap.size, 0, none⟩) 1 1)) (w.alloc (.cells C.toArray 50))) : wpList Try.prog ops Q (o :: rest) a w :=
  wpList_plain hgd fun K hK' => by
    have hr := run_slice50 w C hC
    unfold Oper.wp execOp
    simp only [ho, List.map_toArray, List.map_cons, List.map_nil, hx, Sem.run_bind, Sem.run_pure, hr, Result.andThen_ok]
    exact hK' _ _ hK
theorem run_slice35' (w : World) (yy0 yy1 yy2 yy3 yy4 yy5 yy6 yy7 yy8 yy9 yy10 yy11 yy12 yy13 yy14 yy15 yy16 yy17 yy18 yy19 yy20 yy21 yy22 yy23 yy24 yy25 yy26 yy27 yy28 yy29 yy30 yy31 yy32 yy33 : Value) : (Instr.buildSlice 22 1 #[(0, .agg #[yy0, yy1, yy2, yy3, yy4, yy5, yy6, yy7, yy8, yy9, yy10, yy11, yy12, yy13, yy14, yy15, yy16, yy17, yy18, yy19, yy20, yy21, yy22, yy23, yy24, yy25, yy26, yy27, yy28, yy29, yy30, yy31, yy32, yy33])]).run Try.prog w = .ok (.slice (some ⟨w.heap.size, 0, none⟩) 1 1) (w.alloc (.cells #[yy0, yy1, yy2, yy3, yy4, yy5, yy6, yy7, yy8, yy9, yy10, yy11, yy12, yy13, yy14, yy15, yy16, yy17, yy18, yy19, yy20, yy21, yy22, yy23, yy24, yy25, yy26, yy27, yy28, yy29, yy30, yy31, yy32, yy33] 35)) := by kernel_rfl
theorem run_slice35 (w : World) (C : List Value) (hC : C.length = 34) : (Instr.buildSlice 22 1 #[(0, .agg C.toArray)]).run Try.prog w = .ok (.slice (some ⟨w.heap.size, 0, none⟩) 1 1) (w.alloc (.cells C.toArray 35)) := by
  obtain ⟨yy0, yy1, yy2, yy3, yy4, yy5, yy6, yy7, yy8, yy9, yy10, yy11, yy12, yy13, yy14, yy15, yy16, yy17, yy18, yy19, yy20, yy21, yy22, yy23, yy24, yy25, yy26, yy27, yy28, yy29, yy30, yy31, yy32, yy33, rfl⟩ := two_more C hC
  exact run_slice35' w yy0 yy1 yy2 yy3 yy4 yy5 yy6 yy7 yy8 yy9 yy10 yy11 yy12 yy13 yy14 yy15 yy16 yy17 yy18 yy19 yy20 yy21 yy22 yy23 yy24 yy25 yy26 yy27 yy28 yy29 yy30 yy31 yy32 yy33
theorem wpList_slice35 {ops : Array Oper} {rest : List Oper} {o : Oper} {a : Act} {w : World} {Q : Exit → Act → World → Prop} (hgd : o.guard = none) (x : Operand)
    (ho : o.op = .buildSlice 22 1 #[(0, x)]) (C : List Value) (hC : C.length = 34) (hx : a.eval x = .agg C.toArray)
    (hK : wpList Try.prog ops Q rest (a.put o.dst (.slice (some ⟨w.heap.size, 0, none⟩) 1 1)) (w.alloc (.cells C.toArray 35))) : wpList Try.prog ops Q (o :: rest) a w :=
  wpList_plain hgd fun K hK' => by
    have hr := run_slice35 w C hC
    unfold Oper.wp execOp
    simp only [ho, List.map_toArray, List.map_cons, List.map_nil, hx, Sem.run_bind, Sem.run_pure, hr, Result.andThen_ok]
    exact hK' _ _ hK
/-- Between two rounds of Theirs' loop: rb the result's block, ob the copy's. -/
def ThRel (w : World) (l : Int) (L : List Nd) (rb ob : Nat) (iv : Value) (W : World) : Prop :=
  ∃ (k : Nat) (A' : Option Addr) (c' : Nat), k ≤ L.length ∧ iv = .int .i64 k ∧ QRow W 50 34 (.slice A' k c') k (flatN (L.take k)) ∧ W.heap[ob]? = some (.cells #[.int .i64 l, .slice A' k c'] 30 (0, 0)) ∧ W.heap[rb]? = some (.cells #[.int .i64 0, .slice none 0 0] 30 (0, 0)) ∧ Ext NoB w W ∧ ∀ g, (Value.slice A' 0 0).ownBlock = some g → w.heap.size ≤ g ∧ g ≠ ob ∧ g ≠ rb
set_option maxHeartbeats 3200000 in
set_option maxRecDepth 100000 in
theorem theirs11 (l : Int) (A : Option Addr) (c : Nat) (L : List Nd) (w : World) (hr : NRd w A c L) (hlen : L.length ≤ 1000) :
    Calls Try.prog 11 #[dirv l A L.length c] w fun e w' => ∃ A' c', e = .returned (dirv l A' L.length c') ∧ NR w' (.slice A' L.length c') L ∧ Ext NoB w w' ∧ ∀ g, (Value.slice A' 0 0).ownBlock = some g → w.heap.size ≤ g := by
  have h63 : c ≤ 9223372036854775807 := by have := hr.cap.2; unfold maxLen at this; omega
  have hcap := hr.cap.1
  have h30 : (Try.prog.info? 30).map (·.size) = some 2 := by kernel_rfl
  have hb0 := heapNew w (.cells #[.int .i64 l, .slice A L.length c] 24)
  have x0 := Ext.alloc NoB w (.cells #[.int .i64 l, .slice A L.length c] 24)
  have HR := Lib.hid hr
  unfold dirv
  clear hr
  go_enter Try.func11, Try.ntmps11
  go_upto_region 1 with fail
  generalize hW0 : w.alloc (.cells #[.int .i64 l, .slice A L.length c] 24) = W0 at *
  have hz : w.heap.size < W0.heap.size := by rw [← hW0]; simp
  have hb1 := heapNew' W0 (.cells #[.int .i64 0, .slice none 0 0] 30) (w.heap.size + 1) (by rw [← hW0]; simp)
  have x1 := Ext.alloc NoB W0 (.cells #[.int .i64 0, .slice none 0 0] 30)
  have hb01 := x1.obj hb0 id
  have d0 : (W0.alloc (.cells #[.int .i64 0, .slice none 0 0] 30)).cell? ⟨w.heap.size, 0, none⟩ = some (.int .i64 l) := by rw [cellOf hb01]; rfl
  have hz1 : w.heap.size + 1 < (W0.alloc (.cells #[.int .i64 0, .slice none 0 0] 30)).heap.size := by rw [← hW0]; simp
  generalize hW1 : W0.alloc (.cells #[.int .i64 0, .slice none 0 0] 30) = W1 at *
  clear hW0 hW1
  go_upto_region 2 with ((with_reducible show wpList _ _ _ (⟨_, .store 30 _ _, _, _, _, _⟩ :: _) _ _); refine wpList_store_new rfl 30 _ _ rfl W1.heap.size #[.int .i64 l, .slice none 0 0] rfl rfl rfl rfl (by exact h30) rfl ?_)
  have hb2 := heapNew W1 (.cells #[.int .i64 l, .slice none 0 0] 30)
  have x2 := Ext.alloc NoB W1 (.cells #[.int .i64 l, .slice none 0 0] 30)
  have hb02 := x2.obj hb01 id
  have hb12 := x2.obj hb1 id
  have e1 : (W1.alloc (.cells #[.int .i64 l, .slice none 0 0] 30)).cell? ⟨w.heap.size, 1, none⟩ = some (.slice A L.length c) := by rw [cellOf hb02]; rfl
  have hxx := (x0.then x1).then x2
  generalize hW2 : W1.alloc (.cells #[.int .i64 l, .slice none 0 0] 30) = W2 at *
  have HST : Hid (ThRel w l L (w.heap.size + 1) W1.heap.size (.int .i64 0) W2) := Lib.hid ⟨0, none, 0, by omega, rfl, QRow.nil _ _ _, hb2, hb12, hxx, fun g hg => by cases hg⟩
  generalize hob : W1.heap.size = ob at *
  have hob_ge : w.heap.size + 1 < ob := by omega
  clear hb0 hb1 hb2 hb01 hb02 hb12 x0 x1 x2 hxx d0 hW2
  go_upto_region 3 with fail
  clear e1
  go_loopw [12] (fun iv W => ThRel w l L (w.heap.size + 1) ob iv W) (fun iv _ => L.length - (intOf iv).toNat)
  case atStart => exact HST.out
  case round =>
    clear HST
    obtain ⟨k, A', c', hk, rfl, hrow, hobx, hrbx, hx, hown⟩ := hrel
    by_cases hlt : k < L.length
    · have k1 : (k : Int) < (L.length : Int) := by omega
      obtain ⟨b, o, rfl, hb, hra⟩ := (HR.out.ext hx (fun _ _ _ h => h)).at' k hlt
      have htk : L.take (k + 1) = L.take k ++ [L[k]] := by rw [List.take_succ_eq_append_getElem hlt]
      have hN : (Try.prog.info? 35).map (·.size) = some (nc L[k]).length := by rw [nc_len]; kernel_rfl
      generalize L[k] = nd at *
      obtain ⟨V, hV⟩ : ∃ V, V = (nc nd).toArray := ⟨_, rfl⟩
      have lV : V.size = 34 := by rw [hV]; simp [nc_len]
      have sV : (Try.prog.info? 35).map (·.size) = some V.size := by rw [lV]; kernel_rfl
      have oV : V.all (·.oneCell') = true := by rw [hV]; exact all_oneCell_toArray (nc_one nd)
      have hbV : (wr.alloc (.cells V 35)).heap[wr.heap.size]? = some (.cells (nc nd).toArray 35 (0, 0)) := by rw [← hV]; exact heapNew _ _
      have xV := Ext.alloc NoB wr (.cells V 35)
      have HVV := Lib.hid hV
      have HRA := Lib.hid hra
      have HTK := Lib.hid htk
      have HROW := Lib.hid hrow
      have HOWN := Lib.hid hown
      have HX := Lib.hid hx
      have HB := Lib.hid (And.intro hobx hrbx)
      clear hV hra htk hrow hown hx hobx hrbx
      go_upto_region 5 with (first
        | ((with_reducible show wpList _ _ _ (⟨_, .load 35 _, _, _, _, _⟩ :: _) _ _); refine wpList_load_arrm (by rfl) 35 _ rfl b (o + k * 34) rfl (nc nd) _ HRA.out Try.underlying35 rfl hN ?_)
        | ((with_reducible show wpList _ _ _ (⟨_, .store 35 _ _, _, _, _, _⟩ :: _) _ _); refine wpList_store_new rfl 35 _ _ rfl wr.heap.size V rfl (by rw [HVV.out]; rfl) rfl (by rw [lV]; rfl) sV oV ?_))
      generalize hW3 : wr.alloc (.cells V 35) = W3 at *
      have hgl : ∀ g, (Value.slice A' k c').ownBlock = some g → g < wr.heap.size := fun g hg => QRow.lt HROW.out g hg
      have hgo : ∀ g, (Value.slice A' k c').ownBlock = some g → w.heap.size ≤ g ∧ g ≠ ob ∧ g ≠ w.heap.size + 1 := fun g hg => HOWN.out g (by rw [own_sl A' 0 0 k c']; exact hg)
      have hrn := nd_box hbV
      have c0 := nd_id hrn
      have c33 := nd_lay hrn
      have ck := nd_key hrn
      simp only [Nat.zero_add] at c33 ck
      have hob3 := xV.obj HB.out.1 id
      have f1 : W3.cell? ⟨ob, 1, none⟩ = some (.slice A' k c') := by rw [cellOf hob3]; rfl
      have sK : (Try.prog.info? 33).map (·.size) = some (bys nd.key).length := by rw [bys_length, nd.len]; exact Try.size33
      have hnew := heapNew W3 (.cells (nc nd).toArray 50)
      have x4 := Ext.alloc NoB W3 (.cells (nc nd).toArray 50)
      have HN4 := Lib.hid hnew
      have HQ9 := Lib.hid ((HROW.out.ext xV (fun _ _ h => h)).ext x4 (fun _ _ h => h))
      have HO4 := Lib.hid (And.intro (x4.obj hob3 id) (And.intro (x4.obj (xV.obj HB.out.2 id) id) ((HX.out.then xV).then x4)))
      clear hnew hbV hrn hob3 xV x4 hW3
      go_wp2_with (first
        | ((with_reducible show wpList _ _ _ (⟨_, .load 33 _, _, _, _, _⟩ :: _) _ _); refine wpList_load_arrm (by rfl) 33 _ rfl wr.heap.size 1 rfl (bys nd.key) _ ck Try.underlying33 rfl sK ?_)
        | ((with_reducible show wpList _ _ _ (⟨_, .build 50 _, _, _, _, _⟩ :: _) _ _); refine wpList_build50 rfl _ _ _ rfl nd rfl rfl rfl ?_)
        | ((with_reducible show wpList _ _ _ (⟨_, .buildSlice 28 _ _, _, _, _, _⟩ :: _) _ _); refine wpList_slice50 rfl _ rfl (nc nd) (nc_len nd) rfl ?_)
        | (at_builtin; refine wpList_append_q rfl _ _ 28 rfl 50 34 48 (.agg (nc default).toArray) Try.underlying28 info50 (by rfl) (by decide) (.slice A' k c') k _ rfl HQ9.out ⟨W3.heap.size, 0, none⟩ 1 1 (nc nd) rfl (by rw [nc_len]) (fun j u hj => by rw [add_none]; have := nd_box HN4.out j u hj; rw [Nat.zero_add] at this ⊢; exact this) (nc_one nd) (by omega) (by unfold maxLen; omega) (by omega) ?_; intro g3 o3 c3 W9 hq10 x10 hg10; have hob9 := x10.obj HO4.out.1 (fun h => (hgo _ h).2.1 rfl); have fz9 := freeOf hob9 1; have cl9 : W9.cell? ⟨ob, 1, none⟩ = some (.slice A' k c') := (by rw [cellOf hob9]; rfl); have HH := Lib.hid (And.intro hq10 (And.intro x10 (And.intro hg10 hob9))); clear hq10 x10 hg10 hob9))
      obtain ⟨hq10, x10, hg10, hob9⟩ := HH.out
      have hrb9 := x10.obj HO4.out.2.1 (fun h => (hgo _ h).2.2 rfl)
      have hset := heapSet hob9 1 (.slice (some ⟨g3, o3, none⟩) (k + 1) c3)
      have hown3 : ∀ g, (Value.slice (some ⟨g3, o3, none⟩) 0 0).ownBlock = some g → w.heap.size ≤ g ∧ g ≠ ob ∧ g ≠ w.heap.size + 1 := fun g hg => by
        have e : g3 = g := by simpa [Value.ownBlock] using hg
        rcases hg10 with h | h
        · exact hgo g (e ▸ h)
        · have h1 := blk_lt' HO4.out.1
          have h2 := blk_lt' HO4.out.2.1
          have h3 := HO4.out.2.2.size
          omega
      have hnob : ob ≠ w.heap.size + 1 := by omega
      have xs : Ext (fun g => g = ob) W9 (W9.setCell ⟨ob, 1, none⟩ (.slice (some ⟨g3, o3, none⟩) (k + 1) c3)) := Ext.setCell _ _ _ (fun _ => rfl)
      have hEND : ThRel w l L (w.heap.size + 1) ob (.int .i64 ((k + 1 : Nat) : Int)) (W9.setCell ⟨ob, 1, none⟩ (.slice (some ⟨g3, o3, none⟩) (k + 1) c3)) := by
        refine ⟨k + 1, _, _, by omega, rfl, ?_, hset, xs.obj hrb9 (fun h => hnob h.symm), ?_, hown3⟩
        · rw [HTK.out, flatN_append]
          have : flatN [nd] = nc nd := by simp [flatN]
          rw [this]
          exact QRow.ext hq10 xs (fun g hg h => (hown3 g (by rw [own_sl _ 0 0 (k + 1) c3]; exact hg)).2.1 h)
        · exact (HO4.out.2.2.trans x10 (fun _ _ h => h) (fun i hi hf => by have := (hgo i hf).1; omega)).trans xs (fun _ _ h => h) (fun i hi hf => by have := hob_ge; omega)
      exact ⟨by simpa using hEND, by simp [intOf]; omega⟩
    · have k1 : ¬ (k : Int) < (L.length : Int) := by omega
      obtain rfl : k = L.length := by omega
      rw [List.take_length] at hrow
      have g0 : wr.cell? ⟨ob, 0, none⟩ = some (.int .i64 l) := by rw [cellOf hobx]; rfl
      have g1 : wr.cell? ⟨ob, 1, none⟩ = some (.slice A' L.length c') := by rw [cellOf hobx]; rfl
      have r0 : wr.cell? ⟨w.heap.size + 1, 0, none⟩ = some (.int .i64 0) := by rw [cellOf hrbx]; rfl
      have r1 : wr.cell? ⟨w.heap.size + 1, 1, none⟩ = some (.slice none 0 0) := by rw [cellOf hrbx]; rfl
      have z0 := freeOf hrbx 0
      have z1 := freeOf hrbx 1
      have hend := setCells_whole hrbx [.int .i64 l, .slice A' L.length c'] rfl
      have xs : Ext (fun g => g = w.heap.size + 1) wr (wr.setCells (w.heap.size + 1) 0 [.int .i64 l, .slice A' L.length c']) := Ext.andCells (Ext.refl _ _) _ _ (fun _ => rfl)
      have HE := Lib.hid (And.intro hend (And.intro xs (And.intro hrow (And.intro hx hown))))
      clear hend xs hrow hx hown hobx hrbx
      go_wp2_with fail
      obtain ⟨hend, xs, hrow, hx, hown⟩ := HE.out
      refine bodyPost_ret (results_cell_row rfl _ _ (w.heap.size + 1) 30 _ (0, 0) _ rfl hend Try.underlying30 rfl (by exact h30)) rfl ⟨A', c', rfl, ?_, ?_, fun g hg => (hown g hg).1⟩
      · exact QRow.ext hrow xs (fun g hg h => (hown g (by rw [own_sl A' 0 0 L.length c']; exact hg)).2.2 h)
      · exact hx.trans xs (fun _ _ h => h) (fun i hi hf => by have := hob_ge; omega)
end Go.Proofs.Ytdibjnlmeiikmaa
