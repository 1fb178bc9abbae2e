/- DirectoryAll, over what its arguments read as. -/
import Derived.Test.YtdibjnlmeiikmaaZn
import Derived.Test.YtdibjnlmeiikmaaOpen
set_option linter.unusedVariables false
set_option maxRecDepth 100000
namespace Go.Proofs.Ytdibjnlmeiikmaa
open Go.ChangeShapes Go.WideShapes Go.ChangeAt Go.RowKit Go.Deep Go.Joins
theorem directoryAll_core {H : Type} {enc : TypeId × Value → H} {base : Nat} (v0 v1 : Value) (W : World) {d0 d1 : DataW H} {p0 p1 : List MemPlace} (h0 : DataW.Trod enc Try.prog W 0 (fun _ => true) true 24 v0 d0 p0) (h1 : DataW.Trod enc Try.prog W 0 (fun _ => true) true 5 v1 d1 p1)
    (o0 : Value.okWide Try.prog W .any base 24 v0) (o1 : Value.okWide Try.prog W .any base 5 v1) :
    Calls Try.prog 3 #[v0, v1] W fun e w' => e = .returned (.bool true) ∧ Below W.heap.size W w' := by
  obtain ⟨l, A, c, L, rfl, hl, ha, hok⟩ := open_dirv h0 o0
  obtain ⟨a, rfl, ha1⟩ := open_u8v h1 o1
  exact (all_walk l A c L a ha1 W ⟨ha.at', ha.cap⟩ hok).mono fun e w' ⟨h1, h2⟩ => ⟨h1, h2.below (Nat.le_refl _) (fun _ h => h.elim)⟩
end Go.Proofs.Ytdibjnlmeiikmaa
