/- SlotsNobody, over what its argument reads as. -/
import Derived.Test.YtapckbbbcjaahaaOpen
set_option linter.unusedVariables false
namespace Go.Proofs.Ytapckbbbcjaahaa
open Go.ChangeShapes Go.WideShapes Go.ChangeAt Go.RowKit Go.Deep Go.Joins
theorem slotsNobody_core {H : Type} {enc : TypeId × Value → H} {base : Nat} (v0 : Value) (W : World) {d0 : DataW H} {p0 : List MemPlace} (h0 : DataW.Trod enc Try.prog W 0 (fun _ => true) true 34 v0 d0 p0) (o0 : Value.okWide Try.prog W .any base 34 v0) :
    Calls Try.prog 6 #[v0] W fun e w' => e = .returned (.bool true) ∧ Below W.heap.size W w' := by
  obtain ⟨cs, rfl, hsz⟩ := okWide_struct Try.underlying34 o0
  obtain ⟨fuel, hf⟩ := h0
  obtain ⟨kd, now, dr, v, bs, hcs, ha⟩ := open_act hf
  have hcs' : cs = #[.int .u8 kd, .int .i64 now, .int .u8 dr, v] := Array.ext' hcs
  subst hcs'
  obtain ⟨A, c, rfl, hc1, hc2, _⟩ := ha.bytes.shape
  exact nobody_walk kd now dr A bs.length c W (by omega)
end Go.Proofs.Ytapckbbbcjaahaa
