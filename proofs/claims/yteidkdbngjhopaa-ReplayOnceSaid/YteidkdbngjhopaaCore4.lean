/- ReplayOnce, over what its arguments read as. -/
import Derived.Test.YteidkdbngjhopaaBc
set_option linter.unusedVariables false
namespace Go.Proofs.Yteidkdbngjhopaa
open Go.ChangeShapes Go.WideShapes Go.ChangeAt Go.RowKit Go.Deep Go.Joins
theorem replayOnce_core {H : Type} {enc : TypeId × Value → H} {base : Nat} (v0 v1 : Value) (W : World) {d0 d1 : DataW H} {p0 p1 : List MemPlace} (h0 : DataW.Trod enc Try.prog W 0 (fun _ => true) true 5 v0 d0 p0) (h1 : DataW.Trod enc Try.prog W 0 (fun _ => true) true 22 v1 d1 p1)
    (o0 : Value.okWide Try.prog W .any base 5 v0) (o1 : Value.okWide Try.prog W .any base 22 v1) :
    Calls Try.prog 4 #[v0, v1] W fun e w' => e = .returned (.bool true) ∧ Below W.heap.size W w' := by
  obtain ⟨s, rfl, hs⟩ := open_num Try.underlying5 h0 o0
  obtain ⟨A, n, c, rfl, ha⟩ := open_actsv h1 o1
  obtain ⟨s0, s1⟩ := wf_u8' hs
  exact once_walk s s0 s1 A n c W ha
end Go.Proofs.Yteidkdbngjhopaa
