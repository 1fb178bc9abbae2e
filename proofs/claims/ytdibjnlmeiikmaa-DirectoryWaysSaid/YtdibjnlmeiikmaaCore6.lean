/- DirectoryWays, over what its arguments read as. -/
import Derived.Test.YtdibjnlmeiikmaaZw
import Derived.Test.YtdibjnlmeiikmaaOpen
set_option linter.unusedVariables false
set_option maxRecDepth 100000
namespace Go.Proofs.Ytdibjnlmeiikmaa
open Go.ChangeShapes Go.WideShapes Go.ChangeAt Go.RowKit Go.Deep Go.Joins
theorem directoryWays_core {H : Type} {enc : TypeId × Value → H} {base : Nat} (v0 v1 v2 : Value) (W : World) {d0 d1 d2 : DataW H} {p0 p1 p2 : List MemPlace} (h0 : DataW.Trod enc Try.prog W 0 (fun _ => true) true 24 v0 d0 p0) (h1 : DataW.Trod enc Try.prog W 0 (fun _ => true) true 48 v1 d1 p1) (h2 : DataW.Trod enc Try.prog W 0 (fun _ => true) true 49 v2 d2 p2)
    (o0 : Value.okWide Try.prog W .any base 24 v0) (o1 : Value.okWide Try.prog W .any base 48 v1) (o2 : Value.okWide Try.prog W .any base 49 v2) :
    Calls Try.prog 8 #[v0, v1, v2] W fun e w' => e = .returned (.bool true) ∧ Below W.heap.size W w' := by
  obtain ⟨l, A, c, L, rfl, hl, ha, hok⟩ := open_dirv h0 o0
  obtain ⟨m, rfl, hm⟩ := open_cmdv h1 o1
  obtain ⟨a, rfl, ha1, ha2⟩ := open_atv h2 o2
  exact (ways_walk l A c L m a ha1 ha2 W ⟨ha.at', ha.cap⟩ hok).mono fun e w' ⟨h1, h2⟩ => ⟨h1, h2.below (Nat.le_refl _) (fun _ h => h.elim)⟩
end Go.Proofs.Ytdibjnlmeiikmaa
