/-
  Theirs, Ours: a command, turned into the other side's.
-/
import Derived.Test.YtdibjnlmeiikmaaZe
set_option linter.unusedVariables false
set_option linter.unusedSimpArgs false
namespace Go.Proofs.Ytdibjnlmeiikmaa
open Go.RowKit Go.Proofs

theorem eight (C : List Value) (hC : C.length = 8) : ∃ q0 q1 q2 q3 q4 q5 q6 q7, C = [q0, q1, q2, q3, q4, q5, q6, q7] := by
  match C, hC with
  | [q0, q1, q2, q3, q4, q5, q6, q7], _ => exact ⟨q0, q1, q2, q3, q4, q5, q6, q7, rfl⟩
theorem run_build43' (w : World) (a b c : Int) (q0 q1 q2 q3 q4 q5 q6 q7 : Value) : (Instr.build 43 #[(0, .int .i64 a), (1, .int .i64 b), (2, .int .i64 c), (3, .agg #[q0, q1, q2, q3, q4, q5, q6, q7])]).run Try.prog w = .ok (.agg #[.int .i64 a, .int .i64 b, .int .i64 c, q0, q1, q2, q3, q4, q5, q6, q7]) w := by kernel_rfl
theorem run_build48' (w : World) (a b c : Int) (q0 q1 q2 q3 q4 q5 q6 q7 : Value) : (Instr.build 48 #[(0, .int .i64 a), (1, .int .i64 b), (2, .int .i64 c), (3, .agg #[q0, q1, q2, q3, q4, q5, q6, q7])]).run Try.prog w = .ok (.agg #[.int .i64 a, .int .i64 b, .int .i64 c, q0, q1, q2, q3, q4, q5, q6, q7]) w := by kernel_rfl
theorem run_build43 (w : World) (m : Cm) : (Instr.build 43 #[(0, .int .i64 m.kind), (1, .int .i64 m.next), (2, .int .i64 m.delay), (3, .agg (bys m.id).toArray)]).run Try.prog w = .ok (.agg (cc m).toArray) w := by
  obtain ⟨q0, q1, q2, q3, q4, q5, q6, q7, h⟩ := eight (bys m.id) (by rw [bys_length, m.len])
  unfold cc
  rw [h]
  exact run_build43' w _ _ _ q0 q1 q2 q3 q4 q5 q6 q7
theorem run_build48 (w : World) (m : Cm) : (Instr.build 48 #[(0, .int .i64 m.kind), (1, .int .i64 m.next), (2, .int .i64 m.delay), (3, .agg (bys m.id).toArray)]).run Try.prog w = .ok (.agg (cc m).toArray) w := by
  obtain ⟨q0, q1, q2, q3, q4, q5, q6, q7, h⟩ := eight (bys m.id) (by rw [bys_length, m.len])
  unfold cc
  rw [h]
  exact run_build48' w _ _ _ q0 q1 q2 q3 q4 q5 q6 q7
theorem wpList_build4 {ops : Array Oper} {rest : List Oper} {o : Oper} {a : Act} {w : World} {Q : Exit → Act → World → Prop} (hgd : o.guard = none) (t : TypeId) (x0 x1 x2 x3 : Operand)
    (ho : o.op = .build t #[(0, x0), (1, x1), (2, x2), (3, x3)]) (m : Cm) (hr : ∀ w, (Instr.build t #[(0, .int .i64 m.kind), (1, .int .i64 m.next), (2, .int .i64 m.delay), (3, .agg (bys m.id).toArray)]).run Try.prog w = .ok (.agg (cc m).toArray) w)
    (h0 : a.eval x0 = .int .i64 m.kind) (h1 : a.eval x1 = .int .i64 m.next) (h2 : a.eval x2 = .int .i64 m.delay) (h3 : a.eval x3 = .agg (bys m.id).toArray)
    (hK : wpList Try.prog ops Q rest (a.put o.dst (.agg (cc m).toArray)) w) : wpList Try.prog ops Q (o :: rest) a w :=
  wpList_plain hgd fun K hK' => by
    unfold Oper.wp execOp
    simp only [ho, List.map_toArray, List.map_cons, List.map_nil, h0, h1, h2, h3, Sem.run_bind, Sem.run_pure, hr w, Result.andThen_ok]
    exact hK' _ _ hK
set_option maxHeartbeats 1600000 in
set_option maxRecDepth 100000 in
theorem theirs13 (m : Cm) (w : World) : Calls Try.prog 13 #[.agg (cc m).toArray] w fun e w' => e = .returned (.agg (cc m).toArray) ∧ Ext NoB w w' := by
  have hb := heapNew w (.cells (cc m).toArray 48)
  have x1 := Ext.alloc NoB w (.cells (cc m).toArray 48)
  generalize hV : (cc m).toArray = V at *
  generalize hW1 : w.alloc (.cells V 48) = W1 at *
  obtain ⟨Zv, hZ⟩ : ∃ Zv, Zv = (cc (default : Cm)).toArray := ⟨_, rfl⟩
  have xD := Ext.alloc NoB W1 (.cells #[.int .i64 0, .int .i64 0, .int .i64 0, .int .u8 0, .int .u8 0, .int .u8 0, .int .u8 0, .int .u8 0, .int .u8 0, .int .u8 0, .int .u8 0] 43)
  have hb2 := xD.obj hb id
  have hrow : (W1.alloc (.cells #[.int .i64 0, .int .i64 0, .int .i64 0, .int .u8 0, .int .u8 0, .int .u8 0, .int .u8 0, .int .u8 0, .int .u8 0, .int .u8 0, .int .u8 0] 43)).rangeAt w.heap.size 0 (cc m) := nd_box (by rw [hV]; exact hb2)
  have c0 := cm_0 hrow
  have c1 := cm_1 hrow
  have c2 := cm_2 hrow
  have r3 := cm_3 hrow
  simp only [Nat.zero_add] at c1 c2 r3
  have sA : (Try.prog.info? 40).map (·.size) = some (bys m.id).length := by rw [bys_length, m.len]; kernel_rfl
  have sV : (Try.prog.info? 43).map (·.size) = some V.size := by rw [← hV, List.size_toArray, cc_len]; kernel_rfl
  have oV : V.all (·.oneCell') = true := by rw [← hV]; exact all_oneCell_toArray (cc_one m)
  have lV : V.size = 11 := by rw [← hV, List.size_toArray, cc_len]
  have hend := heapNew W1 (.cells V 43)
  have HV := Lib.hid hV
  have HB := Lib.hid (And.intro hb hrow)
  have HEND := Lib.hid (And.intro hend (x1.then (Ext.alloc NoB W1 (.cells V 43))))
  have hr := run_build43
  clear hb hb2 hrow x1 xD hend hV hZ
  go_enter Try.func13, Try.ntmps13
  go_upto_region 1 with (rw [hW1])
  clear hW1
  go_wp2_with (first
    | ((with_reducible show wpList _ _ _ (⟨_, .load 40 _, _, _, _, _⟩ :: _) _ _); refine wpList_load_arrm (by rfl) 40 _ rfl w.heap.size 3 rfl (bys m.id) _ r3 Try.underlying40 rfl sA ?_)
    | ((with_reducible show wpList _ _ _ (⟨_, .build 43 _, _, _, _, _⟩ :: _) _ _); refine wpList_build4 rfl 43 _ _ _ _ rfl m (fun w => hr w m) rfl rfl rfl rfl ?_; rw [HV.out])
    | ((with_reducible show wpList _ _ _ (⟨_, .store 43 _ _, _, _, _, _⟩ :: _) _ _); refine wpList_store_new rfl 43 _ _ rfl W1.heap.size V rfl rfl rfl (by rw [lV]; rfl) sV oV ?_))
  refine bodyPost_ret (results_cell_row rfl _ _ W1.heap.size 43 _ (0, 0) _ rfl HEND.out.1 Try.underlying43 rfl sV) rfl ⟨rfl, HEND.out.2⟩
set_option maxHeartbeats 1600000 in
set_option maxRecDepth 100000 in
theorem ours18 (m : Cm) (w : World) : Calls Try.prog 18 #[.agg (cc m).toArray] w fun e w' => e = .returned (.agg (cc m).toArray) ∧ Ext NoB w w' := by
  have hb := heapNew w (.cells (cc m).toArray 43)
  have x1 := Ext.alloc NoB w (.cells (cc m).toArray 43)
  generalize hV : (cc m).toArray = V at *
  generalize hW1 : w.alloc (.cells V 43) = W1 at *
  obtain ⟨Zv, hZ⟩ : ∃ Zv, Zv = (cc (default : Cm)).toArray := ⟨_, rfl⟩
  have xD := Ext.alloc NoB W1 (.cells #[.int .i64 0, .int .i64 0, .int .i64 0, .int .u8 0, .int .u8 0, .int .u8 0, .int .u8 0, .int .u8 0, .int .u8 0, .int .u8 0, .int .u8 0] 48)
  have hb2 := xD.obj hb id
  have hrow : (W1.alloc (.cells #[.int .i64 0, .int .i64 0, .int .i64 0, .int .u8 0, .int .u8 0, .int .u8 0, .int .u8 0, .int .u8 0, .int .u8 0, .int .u8 0, .int .u8 0] 48)).rangeAt w.heap.size 0 (cc m) := nd_box (by rw [hV]; exact hb2)
  have c0 := cm_0 hrow
  have c1 := cm_1 hrow
  have c2 := cm_2 hrow
  have r3 := cm_3 hrow
  simp only [Nat.zero_add] at c1 c2 r3
  have sA : (Try.prog.info? 41).map (·.size) = some (bys m.id).length := by rw [bys_length, m.len]; kernel_rfl
  have sV : (Try.prog.info? 48).map (·.size) = some V.size := by rw [← hV, List.size_toArray, cc_len]; kernel_rfl
  have oV : V.all (·.oneCell') = true := by rw [← hV]; exact all_oneCell_toArray (cc_one m)
  have lV : V.size = 11 := by rw [← hV, List.size_toArray, cc_len]
  have hend := heapNew W1 (.cells V 48)
  have HV := Lib.hid hV
  have HB := Lib.hid (And.intro hb hrow)
  have HEND := Lib.hid (And.intro hend (x1.then (Ext.alloc NoB W1 (.cells V 48))))
  have hr := run_build48
  clear hb hb2 hrow x1 xD hend hV hZ
  go_enter Try.func18, Try.ntmps18
  go_upto_region 1 with (rw [hW1])
  clear hW1
  go_wp2_with (first
    | ((with_reducible show wpList _ _ _ (⟨_, .load 41 _, _, _, _, _⟩ :: _) _ _); refine wpList_load_arrm (by rfl) 41 _ rfl w.heap.size 3 rfl (bys m.id) _ r3 Try.underlying41 rfl sA ?_)
    | ((with_reducible show wpList _ _ _ (⟨_, .build 48 _, _, _, _, _⟩ :: _) _ _); refine wpList_build4 rfl 48 _ _ _ _ rfl m (fun w => hr w m) rfl rfl rfl rfl ?_; rw [HV.out])
    | ((with_reducible show wpList _ _ _ (⟨_, .store 48 _ _, _, _, _, _⟩ :: _) _ _); refine wpList_store_new rfl 48 _ _ rfl W1.heap.size V rfl rfl rfl (by rw [lV]; rfl) sV oV ?_))
  refine bodyPost_ret (results_cell_row rfl _ _ W1.heap.size 48 _ (0, 0) _ rfl HEND.out.1 Try.underlying48 rfl sV) rfl ⟨rfl, HEND.out.2⟩
end Go.Proofs.Ytdibjnlmeiikmaa
