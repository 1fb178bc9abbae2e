/- SlotsOrder, over what its arguments read as. -/
import Derived.Test.YtapckbbbcjaahaaOrder
set_option linter.unusedVariables false
namespace Go.Proofs.Ytapckbbbcjaahaa
open Go.ChangeShapes Go.WideShapes Go.ChangeAt Go.RowKit Go.Deep Go.Joins
theorem slotsOrder_core {H : Type} {enc : TypeId × Value → H} {base : Nat} (v0 v1 : Value) (W : World) {d0 d1 : DataW H} {p0 p1 : List MemPlace} (h0 : DataW.Trod enc Try.prog W 0 (fun _ => true) true 5 v0 d0 p0) (h1 : DataW.Trod enc Try.prog W 0 (fun _ => true) true 23 v1 d1 p1)
    (o0 : Value.okWide Try.prog W .any base 5 v0) (o1 : Value.okWide Try.prog W .any base 23 v1) :
    Calls Try.prog 5 #[v0, v1] W fun e w' => e = .returned (.bool true) ∧ Below W.heap.size W w' := by
  obtain ⟨x, rfl, _, _, wx⟩ := open_int Try.underlying5 o0 h0
  obtain ⟨A, n, c, rfl⟩ := okWide_slice Try.underlying23 o1
  obtain ⟨fuel1, hf1⟩ := h1
  obtain ⟨A', n', c', hcs1, ha⟩ := open_acts hf1
  have he : Value.slice A n c = Value.slice A' n' c' := by simpa [Value.cells] using hcs1
  injection he with e1 e2 e3
  subst e1; subst e2; subst e3
  exact order_walk x A n c W (bounds_u8 wx).1 (bounds_u8 wx).2 ha
end Go.Proofs.Ytapckbbbcjaahaa
