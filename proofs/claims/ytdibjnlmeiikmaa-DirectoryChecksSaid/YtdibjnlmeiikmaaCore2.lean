/- DirectoryChecks, over what its argument reads as. -/
import Derived.Test.YtdibjnlmeiikmaaZl
import Derived.Test.YtdibjnlmeiikmaaOpen
set_option linter.unusedVariables false
set_option maxRecDepth 100000
namespace Go.Proofs.Ytdibjnlmeiikmaa
open Go.ChangeShapes Go.WideShapes Go.ChangeAt Go.RowKit Go.Deep Go.Joins
theorem GRd.nrd {w : World} {A : Option Addr} {c : Nat} {L : List Nd} (h : GRd nc 34 w A c L) : NRd w A c L := ⟨h.at', h.cap⟩
theorem directoryChecks_core {H : Type} {enc : TypeId × Value → H} {base : Nat} (v0 : Value) (W : World) {d0 : DataW H} {p0 : List MemPlace} (h0 : DataW.Trod enc Try.prog W 0 (fun _ => true) true 24 v0 d0 p0)
    (o0 : Value.okWide Try.prog W .any base 24 v0) :
    Calls Try.prog 5 #[v0] W fun e w' => e = .returned (.bool true) ∧ Below W.heap.size W w' := by
  obtain ⟨l, A, c, L, rfl, hl, ha, hok⟩ := open_dirv h0 o0
  exact (checks_walk l A c L W (GRd.nrd ha) hok).mono fun e w' ⟨h1, h2⟩ => ⟨h1, h2.below (Nat.le_refl _) (fun _ h => h.elim)⟩
end Go.Proofs.Ytdibjnlmeiikmaa
