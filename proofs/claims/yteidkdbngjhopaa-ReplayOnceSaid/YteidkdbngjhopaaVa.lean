/-
  Laws on laying out entries.
-/
import Derived.Test.YteidkdbngjhopaaU
set_option linter.unusedVariables false
set_option linter.unusedSimpArgs false
namespace Go.Proofs.Yteidkdbngjhopaa
open Go.RowKit

theorem run_build59' (w : World) (g : Int) (b0 b1 b2 b3 b4 b5 b6 b7 b8 b9 b10 b11 b12 b13 b14 b15 : Value) : (Instr.build 59 #[(0, .int .i64 g), (1, .agg #[b0, b1, b2, b3, b4, b5, b6, b7, b8, b9, b10, b11, b12, b13, b14, b15])]).run Try.prog w = .ok (.agg #[.int .i64 g, b0, b1, b2, b3, b4, b5, b6, b7, b8, b9, b10, b11, b12, b13, b14, b15]) w := by kernel_rfl
theorem run_slice59' (w : World) (c0 c1 c2 c3 c4 c5 c6 c7 c8 c9 c10 c11 c12 c13 c14 c15 c16 : Value) : (Instr.buildSlice 26 1 #[(0, .agg #[c0, c1, c2, c3, c4, c5, c6, c7, c8, c9, c10, c11, c12, c13, c14, c15, c16])]).run Try.prog w = .ok (.slice (some ⟨w.heap.size, 0, none⟩) 1 1) (w.alloc (.cells #[c0, c1, c2, c3, c4, c5, c6, c7, c8, c9, c10, c11, c12, c13, c14, c15, c16] 59)) := by kernel_rfl
theorem run_build59 (w : World) (g : Int) (B : List Value) (hB : B.length = 16) (h1 : ∀ v ∈ B, v.oneCell' = true) : (Instr.build 59 #[(0, .int .i64 g), (1, .agg B.toArray)]).run Try.prog w = .ok (.agg (.int .i64 g :: B).toArray) w := by
  match B, hB with
  | [b0, b1, b2, b3, b4, b5, b6, b7, b8, b9, b10, b11, b12, b13, b14, b15], _ => exact run_build59' w g b0 b1 b2 b3 b4 b5 b6 b7 b8 b9 b10 b11 b12 b13 b14 b15
theorem run_slice59 (w : World) (C : List Value) (hC : C.length = 17) : (Instr.buildSlice 26 1 #[(0, .agg C.toArray)]).run Try.prog w = .ok (.slice (some ⟨w.heap.size, 0, none⟩) 1 1) (w.alloc (.cells C.toArray 59)) := by
  match C, hC with
  | [c0, c1, c2, c3, c4, c5, c6, c7, c8, c9, c10, c11, c12, c13, c14, c15, c16], _ => exact run_slice59' w c0 c1 c2 c3 c4 c5 c6 c7 c8 c9 c10 c11 c12 c13 c14 c15 c16
theorem wpList_build59 {ops : Array Oper} {rest : List Oper} {o : Oper} {a : Act} {w : World} {Q : Exit → Act → World → Prop} (hgd : o.guard = none) (x y : Operand)
    (ho : o.op = .build 59 #[(0, x), (1, y)]) (g : Int) (B : List Value) (hB : B.length = 16) (h1 : ∀ v ∈ B, v.oneCell' = true) (hx : a.eval x = .int .i64 g) (hy : a.eval y = .agg B.toArray)
    (hK : wpList Try.prog ops Q rest (a.put o.dst (.agg (.int .i64 g :: B).toArray)) w) : wpList Try.prog ops Q (o :: rest) a w :=
  wpList_plain hgd fun K hK' => by
    have hr := run_build59 w g B hB h1
    unfold Oper.wp execOp
    simp only [ho, List.map_toArray, List.map_cons, List.map_nil, hx, hy, Sem.run_bind, Sem.run_pure, hr, Result.andThen_ok]
    exact hK' _ _ hK
theorem wpList_slice59 {ops : Array Oper} {rest : List Oper} {o : Oper} {a : Act} {w : World} {Q : Exit → Act → World → Prop} (hgd : o.guard = none) (x : Operand)
    (ho : o.op = .buildSlice 26 1 #[(0, x)]) (C : List Value) (hC : C.length = 17) (hx : a.eval x = .agg C.toArray)
    (hK : wpList Try.prog ops Q rest (a.put o.dst (.slice (some ⟨w.heap.size, 0, none⟩) 1 1)) (w.alloc (.cells C.toArray 59))) : wpList Try.prog ops Q (o :: rest) a w :=
  wpList_plain hgd fun K hK' => by
    have hr := run_slice59 w C hC
    unfold Oper.wp execOp
    simp only [ho, List.map_toArray, List.map_cons, List.map_nil, hx, Sem.run_bind, Sem.run_pure, hr, Result.andThen_ok]
    exact hK' _ _ hK
end Go.Proofs.Yteidkdbngjhopaa
