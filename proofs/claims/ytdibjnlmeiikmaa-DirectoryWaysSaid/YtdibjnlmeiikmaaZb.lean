/-
  Hops laid out; the way, plainly.
-/
import Derived.Test.YtdibjnlmeiikmaaZa
set_option linter.unusedVariables false
set_option linter.unusedSimpArgs false
namespace Go.Proofs.Ytdibjnlmeiikmaa
open Go.RowKit Go.Proofs

theorem run_build45' (w : World) (xx0 xx1 xx2 xx3 xx4 xx5 xx6 xx7 xx8 xx9 xx10 xx11 xx12 xx13 xx14 xx15 xx16 xx17 xx18 xx19 xx20 xx21 xx22 xx23 xx24 xx25 xx26 xx27 xx28 xx29 xx30 xx31 yy0 yy1 yy2 yy3 yy4 yy5 yy6 yy7 yy8 yy9 yy10 : Value) : (Instr.build 45 #[(0, .agg #[xx0, xx1, xx2, xx3, xx4, xx5, xx6, xx7, xx8, xx9, xx10, xx11, xx12, xx13, xx14, xx15, xx16, xx17, xx18, xx19, xx20, xx21, xx22, xx23, xx24, xx25, xx26, xx27, xx28, xx29, xx30, xx31]), (1, .agg #[yy0, yy1, yy2, yy3, yy4, yy5, yy6, yy7, yy8, yy9, yy10])]).run Try.prog w = .ok (.agg #[xx0, xx1, xx2, xx3, xx4, xx5, xx6, xx7, xx8, xx9, xx10, xx11, xx12, xx13, xx14, xx15, xx16, xx17, xx18, xx19, xx20, xx21, xx22, xx23, xx24, xx25, xx26, xx27, xx28, xx29, xx30, xx31, yy0, yy1, yy2, yy3, yy4, yy5, yy6, yy7, yy8, yy9, yy10]) w := by kernel_rfl
theorem eleven (C : List Value) (hC : C.length = 11) : ∃ yy0 yy1 yy2 yy3 yy4 yy5 yy6 yy7 yy8 yy9 yy10, C = [yy0, yy1, yy2, yy3, yy4, yy5, yy6, yy7, yy8, yy9, yy10] := by
  match C, hC with
  | [yy0, yy1, yy2, yy3, yy4, yy5, yy6, yy7, yy8, yy9, yy10], _ => exact ⟨yy0, yy1, yy2, yy3, yy4, yy5, yy6, yy7, yy8, yy9, yy10, rfl⟩
theorem sixteen (C : List Value) (hC : C.length = 16) : ∃ q0 q1 q2 q3 q4 q5 q6 q7 q8 q9 q10 q11 q12 q13 q14 q15, C = [q0, q1, q2, q3, q4, q5, q6, q7, q8, q9, q10, q11, q12, q13, q14, q15] := by
  match C, hC with
  | [q0, q1, q2, q3, q4, q5, q6, q7, q8, q9, q10, q11, q12, q13, q14, q15], _ => exact ⟨q0, q1, q2, q3, q4, q5, q6, q7, q8, q9, q10, q11, q12, q13, q14, q15, rfl⟩
theorem thirtytwo (B : List Value) (hB : B.length = 32) : ∃ xx0 xx1 xx2 xx3 xx4 xx5 xx6 xx7 xx8 xx9 xx10 xx11 xx12 xx13 xx14 xx15 xx16 xx17 xx18 xx19 xx20 xx21 xx22 xx23 xx24 xx25 xx26 xx27 xx28 xx29 xx30 xx31, B = [xx0, xx1, xx2, xx3, xx4, xx5, xx6, xx7, xx8, xx9, xx10, xx11, xx12, xx13, xx14, xx15, xx16, xx17, xx18, xx19, xx20, xx21, xx22, xx23, xx24, xx25, xx26, xx27, xx28, xx29, xx30, xx31] := by
  obtain ⟨xx0, xx1, xx2, xx3, xx4, xx5, xx6, xx7, xx8, xx9, xx10, xx11, xx12, xx13, xx14, xx15, h1⟩ := sixteen (B.take 16) (by simp [hB])
  obtain ⟨xx16, xx17, xx18, xx19, xx20, xx21, xx22, xx23, xx24, xx25, xx26, xx27, xx28, xx29, xx30, xx31, h2⟩ := sixteen (B.drop 16) (by simp [hB])
  have h := List.take_append_drop 16 B
  rw [h1, h2] at h
  exact ⟨xx0, xx1, xx2, xx3, xx4, xx5, xx6, xx7, xx8, xx9, xx10, xx11, xx12, xx13, xx14, xx15, xx16, xx17, xx18, xx19, xx20, xx21, xx22, xx23, xx24, xx25, xx26, xx27, xx28, xx29, xx30, xx31, h.symm⟩
theorem run_build45 (w : World) (B C : List Value) (hB : B.length = 32) (hC : C.length = 11) : (Instr.build 45 #[(0, .agg B.toArray), (1, .agg C.toArray)]).run Try.prog w = .ok (.agg (B ++ C).toArray) w := by
  obtain ⟨yy0, yy1, yy2, yy3, yy4, yy5, yy6, yy7, yy8, yy9, yy10, rfl⟩ := eleven C hC
  obtain ⟨xx0, xx1, xx2, xx3, xx4, xx5, xx6, xx7, xx8, xx9, xx10, xx11, xx12, xx13, xx14, xx15, xx16, xx17, xx18, xx19, xx20, xx21, xx22, xx23, xx24, xx25, xx26, xx27, xx28, xx29, xx30, xx31, rfl⟩ := thirtytwo B hB
  exact run_build45' w xx0 xx1 xx2 xx3 xx4 xx5 xx6 xx7 xx8 xx9 xx10 xx11 xx12 xx13 xx14 xx15 xx16 xx17 xx18 xx19 xx20 xx21 xx22 xx23 xx24 xx25 xx26 xx27 xx28 xx29 xx30 xx31 yy0 yy1 yy2 yy3 yy4 yy5 yy6 yy7 yy8 yy9 yy10
theorem run_slice45' (w : World) (xx0 xx1 xx2 xx3 xx4 xx5 xx6 xx7 xx8 xx9 xx10 xx11 xx12 xx13 xx14 xx15 xx16 xx17 xx18 xx19 xx20 xx21 xx22 xx23 xx24 xx25 xx26 xx27 xx28 xx29 xx30 xx31 xx32 xx33 xx34 xx35 xx36 xx37 xx38 xx39 xx40 xx41 xx42 : Value) : (Instr.buildSlice 37 1 #[(0, .agg #[xx0, xx1, xx2, xx3, xx4, xx5, xx6, xx7, xx8, xx9, xx10, xx11, xx12, xx13, xx14, xx15, xx16, xx17, xx18, xx19, xx20, xx21, xx22, xx23, xx24, xx25, xx26, xx27, xx28, xx29, xx30, xx31, xx32, xx33, xx34, xx35, xx36, xx37, xx38, xx39, xx40, xx41, xx42])]).run Try.prog w = .ok (.slice (some ⟨w.heap.size, 0, none⟩) 1 1) (w.alloc (.cells #[xx0, xx1, xx2, xx3, xx4, xx5, xx6, xx7, xx8, xx9, xx10, xx11, xx12, xx13, xx14, xx15, xx16, xx17, xx18, xx19, xx20, xx21, xx22, xx23, xx24, xx25, xx26, xx27, xx28, xx29, xx30, xx31, xx32, xx33, xx34, xx35, xx36, xx37, xx38, xx39, xx40, xx41, xx42] 45)) := by kernel_rfl
theorem run_slice45 (w : World) (C : List Value) (hC : C.length = 43) : (Instr.buildSlice 37 1 #[(0, .agg C.toArray)]).run Try.prog w = .ok (.slice (some ⟨w.heap.size, 0, none⟩) 1 1) (w.alloc (.cells C.toArray 45)) := by
  obtain ⟨xx0, xx1, xx2, xx3, xx4, xx5, xx6, xx7, xx8, xx9, xx10, xx11, xx12, xx13, xx14, xx15, xx16, xx17, xx18, xx19, xx20, xx21, xx22, xx23, xx24, xx25, xx26, xx27, xx28, xx29, xx30, xx31, h1⟩ := thirtytwo (C.take 32) (by simp [hC])
  obtain ⟨xx32, xx33, xx34, xx35, xx36, xx37, xx38, xx39, xx40, xx41, xx42, h2⟩ := eleven (C.drop 32) (by simp [hC])
  have h := List.take_append_drop 32 C
  rw [h1, h2] at h
  rw [← h]
  exact run_slice45' w xx0 xx1 xx2 xx3 xx4 xx5 xx6 xx7 xx8 xx9 xx10 xx11 xx12 xx13 xx14 xx15 xx16 xx17 xx18 xx19 xx20 xx21 xx22 xx23 xx24 xx25 xx26 xx27 xx28 xx29 xx30 xx31 xx32 xx33 xx34 xx35 xx36 xx37 xx38 xx39 xx40 xx41 xx42
theorem wpList_build45 {ops : Array Oper} {rest : List Oper} {o : Oper} {a : Act} {w : World} {Q : Exit → Act → World → Prop} (hgd : o.guard = none) (x y : Operand)
    (ho : o.op = .build 45 #[(0, x), (1, y)]) (B C : List Value) (hB : B.length = 32) (hC : C.length = 11) (hx : a.eval x = .agg B.toArray) (hy : a.eval y = .agg C.toArray)
    (hK : wpList Try.prog ops Q rest (a.put o.dst (.agg (B ++ C).toArray)) w) : wpList Try.prog ops Q (o :: rest) a w :=
  wpList_plain hgd fun K hK' => by
    have hr := run_build45 w B C hB hC
    unfold Oper.wp execOp
    simp only [ho, List.map_toArray, List.map_cons, List.map_nil, hx, hy, Sem.run_bind, Sem.run_pure, hr, Result.andThen_ok]
    exact hK' _ _ hK
theorem wpList_slice45 {ops : Array Oper} {rest : List Oper} {o : Oper} {a : Act} {w : World} {Q : Exit → Act → World → Prop} (hgd : o.guard = none) (x : Operand)
    (ho : o.op = .buildSlice 37 1 #[(0, x)]) (C : List Value) (hC : C.length = 43) (hx : a.eval x = .agg C.toArray)
    (hK : wpList Try.prog ops Q rest (a.put o.dst (.slice (some ⟨w.heap.size, 0, none⟩) 1 1)) (w.alloc (.cells C.toArray 45))) : wpList Try.prog ops Q (o :: rest) a w :=
  wpList_plain hgd fun K hK' => by
    have hr := run_slice45 w C hC
    unfold Oper.wp execOp
    simp only [ho, List.map_toArray, List.map_cons, List.map_nil, hx, Sem.run_bind, Sem.run_pure, hr, Result.andThen_ok]
    exact hK' _ _ hK
/-- The node that is drawn in layer l. -/
def pickN (L : List Nd) (D : List Int) (l : Nat) : Nd := (layL L l).getD ((D.getD (2 * l) 0).toNat % (layL L l).length) default
/-- The way's node in layer l. -/
def nodeAt (K : Nat) (L : List Nd) (D : List Int) (e : Nd) (l : Nat) : Nd := if l + 1 = K then e else pickN L D l
def fwd (next delay : Int) : Cm := ⟨1, next, delay, Z8, rfl⟩
def hopAt (K : Nat) (L : List Nd) (D : List Int) (e : Nd) (last : Cm) (l : Nat) : Hp :=
  if l + 1 = K then ⟨e.key, last, e.len⟩ else ⟨(pickN L D l).key, fwd (nodeAt K L D e (l + 1)).id (D.getD (2 * l + 1) 0 % 65), (pickN L D l).len⟩
/-- The hops from the last layer back to layer t. -/
def back (K : Nat) (L : List Nd) (D : List Int) (e : Nd) (last : Cm) (t : Nat) : List Hp := (List.range (K - t)).map fun i => hopAt K L D e last (K - 1 - i)
theorem back_len (K : Nat) (L : List Nd) (D : List Int) (e : Nd) (last : Cm) (t : Nat) : (back K L D e last t).length = K - t := by simp [back]
theorem back_step {K : Nat} (L : List Nd) (D : List Int) (e : Nd) (last : Cm) {t : Nat} (ht : t < K) : back K L D e last t = back K L D e last (t + 1) ++ [hopAt K L D e last t] := by
  unfold back
  rw [show K - t = (K - (t + 1)) + 1 by omega, List.range_succ, List.map_append]
  simp only [List.map_cons, List.map_nil]
  rw [show K - 1 - (K - (t + 1)) = t by omega]
theorem back_last {K : Nat} (hK : 1 ≤ K) (L : List Nd) (D : List Int) (e : Nd) (last : Cm) : back K L D e last (K - 1) = [⟨e.key, last, e.len⟩] := by
  unfold back
  rw [show K - (K - 1) = 1 by omega]
  simp only [List.range_one, List.map_cons, List.map_nil]
  unfold hopAt
  rw [if_pos (by omega)]
theorem back_rev (K : Nat) (L : List Nd) (D : List Int) (e : Nd) (last : Cm) : (back K L D e last 0).reverse = (List.range K).map (hopAt K L D e last) := by
  unfold back
  apply List.ext_getElem
  · simp
  · intro i h1 h2
    simp at h1 h2
    rw [List.getElem_reverse]
    simp only [List.length_map, List.length_range, List.getElem_map, List.getElem_range]
    congr 1
    omega
end Go.Proofs.Ytdibjnlmeiikmaa
