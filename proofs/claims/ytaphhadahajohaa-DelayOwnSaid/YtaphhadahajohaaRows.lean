/-
  No cell of these rows narrows 'for every input' (looked for: loops, veiled, ifaces, maps, wideKeys, modest, calm, conditions, laid).
  DERIVED. THE GIVEN ROWS OF THIS SEAT. 4 by the template 'for every input the law returns true; each argument reads behind the call as it read before'; 0 by the template 'total and deterministic' (their statements: YtaphhadahajohaaTotals.lean).
  GIVEN WITH THE SEED: the statements are not yours to turn. If you find one false, say at which input.
  Laid BY PROGRAM, IN A SANDBOX (cutbox-rows.mjs): the forced cells as the released guide's own fill.sh prints them over the translation 1ce3439a38c5ef52… (all of the seat's roots in one cut). By AI agents, Wed Nov 11 2026. No macro, syntax, notation, axiom, sorry.
-/
import Derived.Test.YtaphhadahajohaaChecked
import GoSem.Claim
import GoSem.ClaimJoined
import GoSem.ClaimMapViews
import Derived.JoinedTies
import Derived.KernelRfl
namespace Go.Proofs.Ytaphhadahajohaa
/- THE CELL 'sum', in the pinned program and in every row, IS THE sha256 OF THE DUMP (.gsa) THAT YtaphhadahajohaaProg.lean LOADS. Nothing in Lean hashes anything: it is a label: what it is worth is what the hold of that sum in a sandbox is worth. -/
noncomputable def Try.pinned : Pinned := { name := "ytaphhadahajohaa", sum := "1ce3439a38c5ef524a0bed3ff3c0cbeb5f81cd2f083e8b7fb35c70c0d1c1d350", checked := Try.checked }
namespace Rows
def none {H : Type} : Left H := { results := [], args := [] }

/-- 'pigeonrylaw15.DelayOrder': WHATEVER THE INPUT: true; the input reads as it did. -/
def delayOrderSpec : ChangeSpec := { name := "delayOrder", fn := fun _ => fun
  | [d1, d2] => { results := [.lit (.bool true)], args := [d1, d2] }
  | _ => none }
def delayOrderRow : OpenClaim := { program := "ytaphhadahajohaa", sum := "1ce3439a38c5ef524a0bed3ff3c0cbeb5f81cd2f083e8b7fb35c70c0d1c1d350", func := "pigeonry/pigeonrylaw15.DelayOrder", spec := "delayOrder", unfollowed := true, recurses := true, apart := false }
def DelayOrderSaid : Prop := delayOrderRow.holds Try.pinned (OpenSpec.ofChange delayOrderSpec)

/-- ITS FALSE NEIGHBOUR: 'it returns false'. Refute it at one input. -/
def delayOrderWrong : ChangeSpec := { name := "delayOrder", fn := fun _ => fun
  | [d1, d2] => { results := [.lit (.bool false)], args := [d1, d2] }
  | _ => none }
def DelayOrderWrongFalsely : Prop := delayOrderRow.holds Try.pinned (OpenSpec.ofChange delayOrderWrong)

/-- 'pigeonrylaw15.DelayActs': WHATEVER THE INPUT: true; the input reads as it did. -/
def delayActsSpec : ChangeSpec := { name := "delayActs", fn := fun _ => fun
  | [d1, d2] => { results := [.lit (.bool true)], args := [d1, d2] }
  | _ => none }
def delayActsRow : OpenClaim := { program := "ytaphhadahajohaa", sum := "1ce3439a38c5ef524a0bed3ff3c0cbeb5f81cd2f083e8b7fb35c70c0d1c1d350", func := "pigeonry/pigeonrylaw15.DelayActs", spec := "delayActs", unfollowed := true, recurses := true, apart := false }
def DelayActsSaid : Prop := delayActsRow.holds Try.pinned (OpenSpec.ofChange delayActsSpec)

/-- ITS FALSE NEIGHBOUR: 'it returns false'. Refute it at one input. -/
def delayActsWrong : ChangeSpec := { name := "delayActs", fn := fun _ => fun
  | [d1, d2] => { results := [.lit (.bool false)], args := [d1, d2] }
  | _ => none }
def DelayActsWrongFalsely : Prop := delayActsRow.holds Try.pinned (OpenSpec.ofChange delayActsWrong)

/-- 'pigeonrylaw15.DelayOwn': WHATEVER THE INPUT: true; the input reads as it did. -/
def delayOwnSpec : ChangeSpec := { name := "delayOwn", fn := fun _ => fun
  | [d] => { results := [.lit (.bool true)], args := [d] }
  | _ => none }
def delayOwnRow : OpenClaim := { program := "ytaphhadahajohaa", sum := "1ce3439a38c5ef524a0bed3ff3c0cbeb5f81cd2f083e8b7fb35c70c0d1c1d350", func := "pigeonry/pigeonrylaw15.DelayOwn", spec := "delayOwn", unfollowed := true, recurses := true, apart := false }
def DelayOwnSaid : Prop := delayOwnRow.holds Try.pinned (OpenSpec.ofChange delayOwnSpec)

/-- ITS FALSE NEIGHBOUR: 'it returns false'. Refute it at one input. -/
def delayOwnWrong : ChangeSpec := { name := "delayOwn", fn := fun _ => fun
  | [d] => { results := [.lit (.bool false)], args := [d] }
  | _ => none }
def DelayOwnWrongFalsely : Prop := delayOwnRow.holds Try.pinned (OpenSpec.ofChange delayOwnWrong)

/-- 'pigeonrylaw15.DelayLens': WHATEVER THE INPUT: true; the input reads as it did. -/
def delayLensSpec : ChangeSpec := { name := "delayLens", fn := fun _ => fun
  | [d1, d2] => { results := [.lit (.bool true)], args := [d1, d2] }
  | _ => none }
def delayLensRow : OpenClaim := { program := "ytaphhadahajohaa", sum := "1ce3439a38c5ef524a0bed3ff3c0cbeb5f81cd2f083e8b7fb35c70c0d1c1d350", func := "pigeonry/pigeonrylaw15.DelayLens", spec := "delayLens", unfollowed := true, recurses := true, apart := false }
def DelayLensSaid : Prop := delayLensRow.holds Try.pinned (OpenSpec.ofChange delayLensSpec)

/-- ITS FALSE NEIGHBOUR: 'it returns false'. Refute it at one input. -/
def delayLensWrong : ChangeSpec := { name := "delayLens", fn := fun _ => fun
  | [d1, d2] => { results := [.lit (.bool false)], args := [d1, d2] }
  | _ => none }
def DelayLensWrongFalsely : Prop := delayLensRow.holds Try.pinned (OpenSpec.ofChange delayLensWrong)

/- THE SECOND FORM. 'bulk': how many values and letters a reading holds, each counted each time it is reached (what is shared counts as often as it is met; a slice's spare places count too). A statement '..UptoSaid' is the law's where the arguments, and the package variables that the reading takes, are together of bulk at most 1048576: NARROWER than '..Said'. Prove '..Said' where nothing that the law and all that it calls make is longer than what came in: it says more and counts as full. Else prove '..UptoSaid'. A law counts once. -/
mutual
def uptoBulk {H : Type} : DataW H → Nat
  | .lit (.string bytes) => bytes.length + 1
  | .lit _ => 1
  | .nil => 1
  | .ptr d => uptoBulk d + 1
  | .slice elems spare => uptoBulkAll elems + uptoBulkAll spare + 1
  | .agg parts => uptoBulkAll parts + 1
  | .iface _ d => uptoBulk d + 1
  | .map entries => uptoBulkEntries entries + 1
  | .held _ => 1
def uptoBulkAll {H : Type} : List (DataW H) → Nat
  | [] => 0
  | d :: r => uptoBulk d + uptoBulkAll r
def uptoBulkEntries {H : Type} : List (Lit × DataW H) → Nat
  | [] => 0
  | x :: r => uptoBulkEntry x + uptoBulkEntries r
def uptoBulkEntry {H : Type} : Lit × DataW H → Nat
  | (.string bytes, d) => bytes.length + uptoBulk d + 1
  | (_, d) => uptoBulk d + 1
 end
def uptoSmall : (H : Type) → List (DataW H) → Bool := fun _ ds => decide (uptoBulkAll ds ≤ 1048576)
def OpenSpec.upto (s : _root_.Go.ChangeSpec) : _root_.Go.OpenSpec := { _root_.Go.OpenSpec.ofChange s with cond := some uptoSmall }

/-- 'pigeonrylaw15.DelayOrder', WHERE WHAT IT READS IS OF BULK AT MOST 1048576: true; the input reads as it did. -/
def delayOrderUptoRow : OpenClaim := { program := "ytaphhadahajohaa", sum := "1ce3439a38c5ef524a0bed3ff3c0cbeb5f81cd2f083e8b7fb35c70c0d1c1d350", func := "pigeonry/pigeonrylaw15.DelayOrder", spec := "delayOrder", unfollowed := true, recurses := true, apart := false, narrowed := true }
def DelayOrderUptoSaid : Prop := delayOrderUptoRow.holds Try.pinned (OpenSpec.upto delayOrderSpec)

/-- 'pigeonrylaw15.DelayActs', WHERE WHAT IT READS IS OF BULK AT MOST 1048576: true; the input reads as it did. -/
def delayActsUptoRow : OpenClaim := { program := "ytaphhadahajohaa", sum := "1ce3439a38c5ef524a0bed3ff3c0cbeb5f81cd2f083e8b7fb35c70c0d1c1d350", func := "pigeonry/pigeonrylaw15.DelayActs", spec := "delayActs", unfollowed := true, recurses := true, apart := false, narrowed := true }
def DelayActsUptoSaid : Prop := delayActsUptoRow.holds Try.pinned (OpenSpec.upto delayActsSpec)

/-- 'pigeonrylaw15.DelayOwn', WHERE WHAT IT READS IS OF BULK AT MOST 1048576: true; the input reads as it did. -/
def delayOwnUptoRow : OpenClaim := { program := "ytaphhadahajohaa", sum := "1ce3439a38c5ef524a0bed3ff3c0cbeb5f81cd2f083e8b7fb35c70c0d1c1d350", func := "pigeonry/pigeonrylaw15.DelayOwn", spec := "delayOwn", unfollowed := true, recurses := true, apart := false, narrowed := true }
def DelayOwnUptoSaid : Prop := delayOwnUptoRow.holds Try.pinned (OpenSpec.upto delayOwnSpec)

/-- 'pigeonrylaw15.DelayLens', WHERE WHAT IT READS IS OF BULK AT MOST 1048576: true; the input reads as it did. -/
def delayLensUptoRow : OpenClaim := { program := "ytaphhadahajohaa", sum := "1ce3439a38c5ef524a0bed3ff3c0cbeb5f81cd2f083e8b7fb35c70c0d1c1d350", func := "pigeonry/pigeonrylaw15.DelayLens", spec := "delayLens", unfollowed := true, recurses := true, apart := false, narrowed := true }
def DelayLensUptoSaid : Prop := delayLensUptoRow.holds Try.pinned (OpenSpec.upto delayLensSpec)

end Rows
end Go.Proofs.Ytaphhadahajohaa
