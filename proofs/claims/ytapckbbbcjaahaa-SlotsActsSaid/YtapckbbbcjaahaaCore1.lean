/- SlotsActs, over what its arguments read as. -/
import Derived.Test.YtapckbbbcjaahaaActs
set_option linter.unusedVariables false
namespace Go.Proofs.Ytapckbbbcjaahaa
open Go.ChangeShapes Go.WideShapes Go.ChangeAt Go.RowKit Go.Deep Go.Joins
theorem okWide_arr {P : Program} {w : World} {r : Reach} {base : Nat} {t : TypeId} {v : Value} {n : Nat} {e : TypeId} (ht : P.underlying t = some (.array n e)) (h : Value.okWide P w r base t v) : ∃ cs, v = .agg cs ∧ cs.size = P.cellsOf t := by
  simp only [Value.okWide, ht] at h
  obtain ⟨cs, h1, h2, _⟩ := h
  exact ⟨cs, h1, h2⟩
theorem Try.cells22 : Try.prog.cellsOf 22 = 3 := by kernel_rfl
section
variable {H : Type} {enc : TypeId × Value → H} {w : World} {base : Nat} {spare : Nat → Bool} {held : Bool}
/-- Three whole numbers in an array. -/
theorem open_with {fuel : Nat} {cs : List Value} {x : DataW H × List MemPlace} (h : DataW.trod enc Try.prog w base spare held fuel 22 cs = some x) : ∃ p ph m : Int, cs = [.int .i64 p, .int .i64 ph, .int .i64 m] := by
  obtain ⟨xs, n, _, _, hl, hlen, hf⟩ := DataW.trod_array Try.underlying22 h
  rw [Try.cells22] at hl
  match cs, hl with
  | [c0, c1, c2], _ =>
    have e0 := hf 0 (by decide)
    have e1 := hf 1 (by decide)
    have e2 := hf 2 (by decide)
    rw [List.getElem?_eq_getElem (by omega)] at e0 e1 e2
    simp only [Try.cells3, List.drop_zero, List.drop_succ_cons, List.take_succ_cons, List.take_zero, Nat.mul_one] at e0 e1 e2
    obtain ⟨a, k0, _, w0⟩ := DataW.trod_int Try.underlying3 e0
    obtain ⟨b, k1, _, w1⟩ := DataW.trod_int Try.underlying3 e1
    obtain ⟨c, k2, _, w2⟩ := DataW.trod_int Try.underlying3 e2
    simp only [List.cons.injEq, and_true] at k0 k1 k2
    exact ⟨a, b, c, by rw [k0, k1, k2]⟩
end
theorem slotsActs_core {H : Type} {enc : TypeId × Value → H} {base : Nat} (v0 v1 : Value) (W : World) {d0 d1 : DataW H} {p0 p1 : List MemPlace} (h0 : DataW.Trod enc Try.prog W 0 (fun _ => true) true 22 v0 d0 p0) (h1 : DataW.Trod enc Try.prog W 0 (fun _ => true) true 23 v1 d1 p1)
    (o0 : Value.okWide Try.prog W .any base 22 v0) (o1 : Value.okWide Try.prog W .any base 23 v1) :
    Calls Try.prog 3 #[v0, v1] W fun e w' => e = .returned (.bool true) ∧ Below W.heap.size W w' := by
  obtain ⟨cs, rfl, hsz⟩ := okWide_arr Try.underlying22 o0
  obtain ⟨fuel, hf⟩ := h0
  obtain ⟨p, ph, m, hcs⟩ := open_with hf
  have hcs' : cs = #[.int .i64 p, .int .i64 ph, .int .i64 m] := Array.ext' hcs
  subst hcs'
  obtain ⟨A, n, c, rfl⟩ := okWide_slice Try.underlying23 o1
  obtain ⟨fuel1, hf1⟩ := h1
  obtain ⟨A', n', c', hcs1, ha⟩ := open_acts hf1
  have he : Value.slice A n c = Value.slice A' n' c' := by simpa [Value.cells] using hcs1
  injection he with e1 e2 e3
  subst e1; subst e2; subst e3
  exact acts_walk p ph m A n c W ha
end Go.Proofs.Ytapckbbbcjaahaa
