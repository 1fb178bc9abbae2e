/- DirectoryDelays, over what its argument reads as. -/
import Derived.Test.YtdibjnlmeiikmaaZh
import Derived.Test.YtdibjnlmeiikmaaOpen
set_option linter.unusedVariables false
set_option maxRecDepth 100000
namespace Go.Proofs.Ytdibjnlmeiikmaa
open Go.ChangeShapes Go.WideShapes Go.ChangeAt Go.RowKit Go.Deep Go.Joins
theorem directoryDelays_core {H : Type} {enc : TypeId × Value → H} {base : Nat} (v0 : Value) (W : World) {d0 : DataW H} {p0 : List MemPlace} (h0 : DataW.Trod enc Try.prog W 0 (fun _ => true) true 56 v0 d0 p0)
    (o0 : Value.okWide Try.prog W .any base 56 v0) :
    Calls Try.prog 7 #[v0] W fun e w' => e = .returned (.bool true) ∧ Below W.heap.size W w' := by
  obtain ⟨A, c, L, rfl, ha, _⟩ := open_hopsv h0 o0
  exact (delays_walk A c L.length L W rfl ha.cap (fun _ => ha)).mono fun e w' ⟨h1, h2⟩ => ⟨h1, h2.below (Nat.le_refl _) (fun _ h => h.elim)⟩
end Go.Proofs.Ytdibjnlmeiikmaa
