/- DelayOwn, over what its argument reads as. -/
import Derived.Test.YtaphhadahajohaaOc
set_option linter.unusedVariables false
namespace Go.Proofs.Ytaphhadahajohaa
open Go.ChangeShapes Go.WideShapes Go.ChangeAt Go.RowKit Go.Deep Go.Joins
theorem delayOwn_core {H : Type} {enc : TypeId × Value → H} {base : Nat} (v0 : Value) (W : World) {d0 : DataW H} {p0 : List MemPlace} (h0 : DataW.Trod enc Try.prog W 0 (fun _ => true) true 30 v0 d0 p0)
    (o0 : Value.okWide Try.prog W .any base 30 v0) :
    Calls Try.prog 5 #[v0] W fun e w' => e = .returned (.bool true) ∧ Below W.heap.size W w' := by
  obtain ⟨cs, rfl, _⟩ := okWide_struct Try.underlying30 o0
  obtain ⟨fuel, hf⟩ := h0
  obtain ⟨due, dest, A, c, bs, hcs, hb, _⟩ := open_item hf
  obtain ⟨l⟩ := cs
  have hl : l = [.int .i64 due, .int .i64 dest, .slice A bs.length c] := hcs
  subst hl
  exact own_walk due dest A c bs W hb
end Go.Proofs.Ytaphhadahajohaa
