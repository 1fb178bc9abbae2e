/-
  No cell of these rows narrows 'for every input' (looked for: loops, veiled, ifaces, maps, wideKeys, modest, calm, conditions, laid).
  DERIVED. THE GIVEN ROWS OF THIS SEAT. 4 by the template 'for every input the law returns true; each argument reads behind the call as it read before'; 0 by the template 'total and deterministic' (their statements: YtapckbbbcjaahaaTotals.lean).
  GIVEN WITH THE SEED: the statements are not yours to turn. If you find one false, say at which input.
  Laid BY PROGRAM, IN A SANDBOX (cutbox-rows.mjs): the forced cells as the released guide's own fill.sh prints them over the translation ef08b3f9552691bf… (all of the seat's roots in one cut). By AI agents, Wed Nov 11 2026. No macro, syntax, notation, axiom, sorry.
-/
import Derived.Test.YtapckbbbcjaahaaChecked
import GoSem.Claim
import GoSem.ClaimJoined
import GoSem.ClaimMapViews
import Derived.JoinedTies
import Derived.KernelRfl
namespace Go.Proofs.Ytapckbbbcjaahaa
/- THE CELL 'sum', in the pinned program and in every row, IS THE sha256 OF THE DUMP (.gsa) THAT YtapckbbbcjaahaaProg.lean LOADS. Nothing in Lean hashes anything: it is a label: what it is worth is what the hold of that sum in a sandbox is worth. -/
noncomputable def Try.pinned : Pinned := { name := "ytapckbbbcjaahaa", sum := "ef08b3f9552691bfed926463e327611666d364f928790f2875f4168bb52bdca7", checked := Try.checked }
namespace Rows
def none {H : Type} : Left H := { results := [], args := [] }

/-- 'pigeonrylaw24.SlotsActs': WHATEVER THE INPUT: true; the input reads as it did. -/
def slotsActsSpec : ChangeSpec := { name := "slotsActs", fn := fun _ => fun
  | [d1, d2] => { results := [.lit (.bool true)], args := [d1, d2] }
  | _ => none }
def slotsActsRow : OpenClaim := { program := "ytapckbbbcjaahaa", sum := "ef08b3f9552691bfed926463e327611666d364f928790f2875f4168bb52bdca7", func := "pigeonry/pigeonrylaw24.SlotsActs", spec := "slotsActs", apart := false }
def SlotsActsSaid : Prop := slotsActsRow.holds Try.pinned (OpenSpec.ofChange slotsActsSpec)

/-- ITS FALSE NEIGHBOUR: 'it returns false'. Refute it at one input. -/
def slotsActsWrong : ChangeSpec := { name := "slotsActs", fn := fun _ => fun
  | [d1, d2] => { results := [.lit (.bool false)], args := [d1, d2] }
  | _ => none }
def SlotsActsWrongFalsely : Prop := slotsActsRow.holds Try.pinned (OpenSpec.ofChange slotsActsWrong)

/-- 'pigeonrylaw24.SlotsBlind': WHATEVER THE INPUT: true; the input reads as it did. -/
def slotsBlindSpec : ChangeSpec := { name := "slotsBlind", fn := fun _ => fun
  | [d1, d2] => { results := [.lit (.bool true)], args := [d1, d2] }
  | _ => none }
def slotsBlindRow : OpenClaim := { program := "ytapckbbbcjaahaa", sum := "ef08b3f9552691bfed926463e327611666d364f928790f2875f4168bb52bdca7", func := "pigeonry/pigeonrylaw24.SlotsBlind", spec := "slotsBlind", apart := false }
def SlotsBlindSaid : Prop := slotsBlindRow.holds Try.pinned (OpenSpec.ofChange slotsBlindSpec)

/-- ITS FALSE NEIGHBOUR: 'it returns false'. Refute it at one input. -/
def slotsBlindWrong : ChangeSpec := { name := "slotsBlind", fn := fun _ => fun
  | [d1, d2] => { results := [.lit (.bool false)], args := [d1, d2] }
  | _ => none }
def SlotsBlindWrongFalsely : Prop := slotsBlindRow.holds Try.pinned (OpenSpec.ofChange slotsBlindWrong)

/-- 'pigeonrylaw24.SlotsOrder': WHATEVER THE INPUT: true; the input reads as it did. -/
def slotsOrderSpec : ChangeSpec := { name := "slotsOrder", fn := fun _ => fun
  | [d1, d2] => { results := [.lit (.bool true)], args := [d1, d2] }
  | _ => none }
def slotsOrderRow : OpenClaim := { program := "ytapckbbbcjaahaa", sum := "ef08b3f9552691bfed926463e327611666d364f928790f2875f4168bb52bdca7", func := "pigeonry/pigeonrylaw24.SlotsOrder", spec := "slotsOrder", apart := false }
def SlotsOrderSaid : Prop := slotsOrderRow.holds Try.pinned (OpenSpec.ofChange slotsOrderSpec)

/-- ITS FALSE NEIGHBOUR: 'it returns false'. Refute it at one input. -/
def slotsOrderWrong : ChangeSpec := { name := "slotsOrder", fn := fun _ => fun
  | [d1, d2] => { results := [.lit (.bool false)], args := [d1, d2] }
  | _ => none }
def SlotsOrderWrongFalsely : Prop := slotsOrderRow.holds Try.pinned (OpenSpec.ofChange slotsOrderWrong)

/-- 'pigeonrylaw24.SlotsNobody': WHATEVER THE INPUT: true; the input reads as it did. -/
def slotsNobodySpec : ChangeSpec := { name := "slotsNobody", fn := fun _ => fun
  | [d] => { results := [.lit (.bool true)], args := [d] }
  | _ => none }
def slotsNobodyRow : OpenClaim := { program := "ytapckbbbcjaahaa", sum := "ef08b3f9552691bfed926463e327611666d364f928790f2875f4168bb52bdca7", func := "pigeonry/pigeonrylaw24.SlotsNobody", spec := "slotsNobody", apart := false }
def SlotsNobodySaid : Prop := slotsNobodyRow.holds Try.pinned (OpenSpec.ofChange slotsNobodySpec)

/-- ITS FALSE NEIGHBOUR: 'it returns false'. Refute it at one input. -/
def slotsNobodyWrong : ChangeSpec := { name := "slotsNobody", fn := fun _ => fun
  | [d] => { results := [.lit (.bool false)], args := [d] }
  | _ => none }
def SlotsNobodyWrongFalsely : Prop := slotsNobodyRow.holds Try.pinned (OpenSpec.ofChange slotsNobodyWrong)

/- THE SECOND FORM. 'bulk': how many values and letters a reading holds, each counted each time it is reached (what is shared counts as often as it is met; a slice's spare places count too). A statement '..UptoSaid' is the law's where the arguments, and the package variables that the reading takes, are together of bulk at most 1048576: NARROWER than '..Said'. Prove '..Said' where nothing that the law and all that it calls make is longer than what came in: it says more and counts as full. Else prove '..UptoSaid'. A law counts once. -/
mutual
def uptoBulk {H : Type} : DataW H → Nat
  | .lit (.string bytes) => bytes.length + 1
  | .lit _ => 1
  | .nil => 1
  | .ptr d => uptoBulk d + 1
  | .slice elems spare => uptoBulkAll elems + uptoBulkAll spare + 1
  | .agg parts => uptoBulkAll parts + 1
  | .iface _ d => uptoBulk d + 1
  | .map entries => uptoBulkEntries entries + 1
  | .held _ => 1
def uptoBulkAll {H : Type} : List (DataW H) → Nat
  | [] => 0
  | d :: r => uptoBulk d + uptoBulkAll r
def uptoBulkEntries {H : Type} : List (Lit × DataW H) → Nat
  | [] => 0
  | x :: r => uptoBulkEntry x + uptoBulkEntries r
def uptoBulkEntry {H : Type} : Lit × DataW H → Nat
  | (.string bytes, d) => bytes.length + uptoBulk d + 1
  | (_, d) => uptoBulk d + 1
 end
def uptoSmall : (H : Type) → List (DataW H) → Bool := fun _ ds => decide (uptoBulkAll ds ≤ 1048576)
def OpenSpec.upto (s : _root_.Go.ChangeSpec) : _root_.Go.OpenSpec := { _root_.Go.OpenSpec.ofChange s with cond := some uptoSmall }

/-- 'pigeonrylaw24.SlotsActs', WHERE WHAT IT READS IS OF BULK AT MOST 1048576: true; the input reads as it did. -/
def slotsActsUptoRow : OpenClaim := { program := "ytapckbbbcjaahaa", sum := "ef08b3f9552691bfed926463e327611666d364f928790f2875f4168bb52bdca7", func := "pigeonry/pigeonrylaw24.SlotsActs", spec := "slotsActs", apart := false, narrowed := true }
def SlotsActsUptoSaid : Prop := slotsActsUptoRow.holds Try.pinned (OpenSpec.upto slotsActsSpec)

/-- 'pigeonrylaw24.SlotsBlind', WHERE WHAT IT READS IS OF BULK AT MOST 1048576: true; the input reads as it did. -/
def slotsBlindUptoRow : OpenClaim := { program := "ytapckbbbcjaahaa", sum := "ef08b3f9552691bfed926463e327611666d364f928790f2875f4168bb52bdca7", func := "pigeonry/pigeonrylaw24.SlotsBlind", spec := "slotsBlind", apart := false, narrowed := true }
def SlotsBlindUptoSaid : Prop := slotsBlindUptoRow.holds Try.pinned (OpenSpec.upto slotsBlindSpec)

/-- 'pigeonrylaw24.SlotsOrder', WHERE WHAT IT READS IS OF BULK AT MOST 1048576: true; the input reads as it did. -/
def slotsOrderUptoRow : OpenClaim := { program := "ytapckbbbcjaahaa", sum := "ef08b3f9552691bfed926463e327611666d364f928790f2875f4168bb52bdca7", func := "pigeonry/pigeonrylaw24.SlotsOrder", spec := "slotsOrder", apart := false, narrowed := true }
def SlotsOrderUptoSaid : Prop := slotsOrderUptoRow.holds Try.pinned (OpenSpec.upto slotsOrderSpec)

/-- 'pigeonrylaw24.SlotsNobody', WHERE WHAT IT READS IS OF BULK AT MOST 1048576: true; the input reads as it did. -/
def slotsNobodyUptoRow : OpenClaim := { program := "ytapckbbbcjaahaa", sum := "ef08b3f9552691bfed926463e327611666d364f928790f2875f4168bb52bdca7", func := "pigeonry/pigeonrylaw24.SlotsNobody", spec := "slotsNobody", apart := false, narrowed := true }
def SlotsNobodyUptoSaid : Prop := slotsNobodyUptoRow.holds Try.pinned (OpenSpec.upto slotsNobodySpec)

end Rows
end Go.Proofs.Ytapckbbbcjaahaa
