/-
  No cell of these rows narrows 'for every input' (looked for: loops, veiled, ifaces, maps, wideKeys, modest, calm, conditions, laid).
  DERIVED. THE GIVEN ROWS OF THIS SEAT. 6 by the template 'for every input the law returns true; each argument reads behind the call as it read before'; 0 by the template 'total and deterministic' (their statements: YtdibjnlmeiikmaaTotals.lean).
  GIVEN WITH THE SEED: the statements are not yours to turn. If you find one false, say at which input.
  Laid BY PROGRAM, IN A SANDBOX (cutbox-rows.mjs): the forced cells as the released guide's own fill.sh prints them over the translation e2c4c8bfbba41226… (all of the seat's roots in one cut). By AI agents, Wed Nov 11 2026. No macro, syntax, notation, axiom, sorry.
-/
import Derived.Test.YtdibjnlmeiikmaaChecked
import GoSem.Claim
import GoSem.ClaimJoined
import GoSem.ClaimMapViews
import Derived.JoinedTies
import Derived.KernelRfl
namespace Go.Proofs.Ytdibjnlmeiikmaa
/- THE CELL 'sum', in the pinned program and in every row, IS THE sha256 OF THE DUMP (.gsa) THAT YtdibjnlmeiikmaaProg.lean LOADS. Nothing in Lean hashes anything: it is a label: what it is worth is what the hold of that sum in a sandbox is worth. -/
noncomputable def Try.pinned : Pinned := { name := "ytdibjnlmeiikmaa", sum := "e2c4c8bfbba412262782e5f9b67de3f27fbed14a560c184e3fe4ce59035a81c8", checked := Try.checked }
namespace Rows
def none {H : Type} : Left H := { results := [], args := [] }

/-- 'pigeonrylaw23.DirectoryAll': WHATEVER THE INPUT: true; the input reads as it did. -/
def directoryAllSpec : ChangeSpec := { name := "directoryAll", fn := fun _ => fun
  | [d1, d2] => { results := [.lit (.bool true)], args := [d1, d2] }
  | _ => none }
def directoryAllRow : OpenClaim := { program := "ytdibjnlmeiikmaa", sum := "e2c4c8bfbba412262782e5f9b67de3f27fbed14a560c184e3fe4ce59035a81c8", func := "pigeonry/pigeonrylaw23.DirectoryAll", spec := "directoryAll", inPlace := ["math/bits.Sub64"], unfollowed := true, recurses := true, apart := false }
def DirectoryAllSaid : Prop := directoryAllRow.holds Try.pinned (OpenSpec.ofChange directoryAllSpec)

/-- ITS FALSE NEIGHBOUR: 'it returns false'. Refute it at one input. -/
def directoryAllWrong : ChangeSpec := { name := "directoryAll", fn := fun _ => fun
  | [d1, d2] => { results := [.lit (.bool false)], args := [d1, d2] }
  | _ => none }
def DirectoryAllWrongFalsely : Prop := directoryAllRow.holds Try.pinned (OpenSpec.ofChange directoryAllWrong)

/-- 'pigeonrylaw23.DirectoryOrder': WHATEVER THE INPUT: true; the input reads as it did. -/
def directoryOrderSpec : ChangeSpec := { name := "directoryOrder", fn := fun _ => fun
  | [d1, d2, d3] => { results := [.lit (.bool true)], args := [d1, d2, d3] }
  | _ => none }
def directoryOrderRow : OpenClaim := { program := "ytdibjnlmeiikmaa", sum := "e2c4c8bfbba412262782e5f9b67de3f27fbed14a560c184e3fe4ce59035a81c8", func := "pigeonry/pigeonrylaw23.DirectoryOrder", spec := "directoryOrder", inPlace := ["math/bits.Sub64"], unfollowed := true, recurses := true, apart := false }
def DirectoryOrderSaid : Prop := directoryOrderRow.holds Try.pinned (OpenSpec.ofChange directoryOrderSpec)

/-- ITS FALSE NEIGHBOUR: 'it returns false'. Refute it at one input. -/
def directoryOrderWrong : ChangeSpec := { name := "directoryOrder", fn := fun _ => fun
  | [d1, d2, d3] => { results := [.lit (.bool false)], args := [d1, d2, d3] }
  | _ => none }
def DirectoryOrderWrongFalsely : Prop := directoryOrderRow.holds Try.pinned (OpenSpec.ofChange directoryOrderWrong)

/-- 'pigeonrylaw23.DirectoryChecks': WHATEVER THE INPUT: true; the input reads as it did. -/
def directoryChecksSpec : ChangeSpec := { name := "directoryChecks", fn := fun _ => fun
  | [d] => { results := [.lit (.bool true)], args := [d] }
  | _ => none }
def directoryChecksRow : OpenClaim := { program := "ytdibjnlmeiikmaa", sum := "e2c4c8bfbba412262782e5f9b67de3f27fbed14a560c184e3fe4ce59035a81c8", func := "pigeonry/pigeonrylaw23.DirectoryChecks", spec := "directoryChecks", inPlace := ["math/bits.Sub64"], unfollowed := true, recurses := true, apart := false }
def DirectoryChecksSaid : Prop := directoryChecksRow.holds Try.pinned (OpenSpec.ofChange directoryChecksSpec)

/-- ITS FALSE NEIGHBOUR: 'it returns false'. Refute it at one input. -/
def directoryChecksWrong : ChangeSpec := { name := "directoryChecks", fn := fun _ => fun
  | [d] => { results := [.lit (.bool false)], args := [d] }
  | _ => none }
def DirectoryChecksWrongFalsely : Prop := directoryChecksRow.holds Try.pinned (OpenSpec.ofChange directoryChecksWrong)

/-- 'pigeonrylaw23.DirectoryRoutes': WHATEVER THE INPUT: true; the input reads as it did. -/
def directoryRoutesSpec : ChangeSpec := { name := "directoryRoutes", fn := fun _ => fun
  | [d1, d2, d3] => { results := [.lit (.bool true)], args := [d1, d2, d3] }
  | _ => none }
def directoryRoutesRow : OpenClaim := { program := "ytdibjnlmeiikmaa", sum := "e2c4c8bfbba412262782e5f9b67de3f27fbed14a560c184e3fe4ce59035a81c8", func := "pigeonry/pigeonrylaw23.DirectoryRoutes", spec := "directoryRoutes", inPlace := ["math/bits.Sub64"], unfollowed := true, recurses := true, apart := false }
def DirectoryRoutesSaid : Prop := directoryRoutesRow.holds Try.pinned (OpenSpec.ofChange directoryRoutesSpec)

/-- ITS FALSE NEIGHBOUR: 'it returns false'. Refute it at one input. -/
def directoryRoutesWrong : ChangeSpec := { name := "directoryRoutes", fn := fun _ => fun
  | [d1, d2, d3] => { results := [.lit (.bool false)], args := [d1, d2, d3] }
  | _ => none }
def DirectoryRoutesWrongFalsely : Prop := directoryRoutesRow.holds Try.pinned (OpenSpec.ofChange directoryRoutesWrong)

/-- 'pigeonrylaw23.DirectoryDelays': WHATEVER THE INPUT: true; the input reads as it did. -/
def directoryDelaysSpec : ChangeSpec := { name := "directoryDelays", fn := fun _ => fun
  | [d] => { results := [.lit (.bool true)], args := [d] }
  | _ => none }
def directoryDelaysRow : OpenClaim := { program := "ytdibjnlmeiikmaa", sum := "e2c4c8bfbba412262782e5f9b67de3f27fbed14a560c184e3fe4ce59035a81c8", func := "pigeonry/pigeonrylaw23.DirectoryDelays", spec := "directoryDelays", inPlace := ["math/bits.Sub64"], unfollowed := true, recurses := true, apart := false }
def DirectoryDelaysSaid : Prop := directoryDelaysRow.holds Try.pinned (OpenSpec.ofChange directoryDelaysSpec)

/-- ITS FALSE NEIGHBOUR: 'it returns false'. Refute it at one input. -/
def directoryDelaysWrong : ChangeSpec := { name := "directoryDelays", fn := fun _ => fun
  | [d] => { results := [.lit (.bool false)], args := [d] }
  | _ => none }
def DirectoryDelaysWrongFalsely : Prop := directoryDelaysRow.holds Try.pinned (OpenSpec.ofChange directoryDelaysWrong)

/-- 'pigeonrylaw23.DirectoryWays': WHATEVER THE INPUT: true; the input reads as it did. -/
def directoryWaysSpec : ChangeSpec := { name := "directoryWays", fn := fun _ => fun
  | [d1, d2, d3] => { results := [.lit (.bool true)], args := [d1, d2, d3] }
  | _ => none }
def directoryWaysRow : OpenClaim := { program := "ytdibjnlmeiikmaa", sum := "e2c4c8bfbba412262782e5f9b67de3f27fbed14a560c184e3fe4ce59035a81c8", func := "pigeonry/pigeonrylaw23.DirectoryWays", spec := "directoryWays", inPlace := ["math/bits.Sub64"], unfollowed := true, recurses := true, apart := false }
def DirectoryWaysSaid : Prop := directoryWaysRow.holds Try.pinned (OpenSpec.ofChange directoryWaysSpec)

/-- ITS FALSE NEIGHBOUR: 'it returns false'. Refute it at one input. -/
def directoryWaysWrong : ChangeSpec := { name := "directoryWays", fn := fun _ => fun
  | [d1, d2, d3] => { results := [.lit (.bool false)], args := [d1, d2, d3] }
  | _ => none }
def DirectoryWaysWrongFalsely : Prop := directoryWaysRow.holds Try.pinned (OpenSpec.ofChange directoryWaysWrong)

/- THE SECOND FORM. 'bulk': how many values and letters a reading holds, each counted each time it is reached (what is shared counts as often as it is met; a slice's spare places count too). A statement '..UptoSaid' is the law's where the arguments, and the package variables that the reading takes, are together of bulk at most 1048576: NARROWER than '..Said'. Prove '..Said' where nothing that the law and all that it calls make is longer than what came in: it says more and counts as full. Else prove '..UptoSaid'. A law counts once. -/
mutual
def uptoBulk {H : Type} : DataW H → Nat
  | .lit (.string bytes) => bytes.length + 1
  | .lit _ => 1
  | .nil => 1
  | .ptr d => uptoBulk d + 1
  | .slice elems spare => uptoBulkAll elems + uptoBulkAll spare + 1
  | .agg parts => uptoBulkAll parts + 1
  | .iface _ d => uptoBulk d + 1
  | .map entries => uptoBulkEntries entries + 1
  | .held _ => 1
def uptoBulkAll {H : Type} : List (DataW H) → Nat
  | [] => 0
  | d :: r => uptoBulk d + uptoBulkAll r
def uptoBulkEntries {H : Type} : List (Lit × DataW H) → Nat
  | [] => 0
  | x :: r => uptoBulkEntry x + uptoBulkEntries r
def uptoBulkEntry {H : Type} : Lit × DataW H → Nat
  | (.string bytes, d) => bytes.length + uptoBulk d + 1
  | (_, d) => uptoBulk d + 1
 end
def uptoSmall : (H : Type) → List (DataW H) → Bool := fun _ ds => decide (uptoBulkAll ds ≤ 1048576)
def OpenSpec.upto (s : _root_.Go.ChangeSpec) : _root_.Go.OpenSpec := { _root_.Go.OpenSpec.ofChange s with cond := some uptoSmall }

/-- 'pigeonrylaw23.DirectoryAll', WHERE WHAT IT READS IS OF BULK AT MOST 1048576: true; the input reads as it did. -/
def directoryAllUptoRow : OpenClaim := { program := "ytdibjnlmeiikmaa", sum := "e2c4c8bfbba412262782e5f9b67de3f27fbed14a560c184e3fe4ce59035a81c8", func := "pigeonry/pigeonrylaw23.DirectoryAll", spec := "directoryAll", inPlace := ["math/bits.Sub64"], unfollowed := true, recurses := true, apart := false, narrowed := true }
def DirectoryAllUptoSaid : Prop := directoryAllUptoRow.holds Try.pinned (OpenSpec.upto directoryAllSpec)

/-- 'pigeonrylaw23.DirectoryOrder', WHERE WHAT IT READS IS OF BULK AT MOST 1048576: true; the input reads as it did. -/
def directoryOrderUptoRow : OpenClaim := { program := "ytdibjnlmeiikmaa", sum := "e2c4c8bfbba412262782e5f9b67de3f27fbed14a560c184e3fe4ce59035a81c8", func := "pigeonry/pigeonrylaw23.DirectoryOrder", spec := "directoryOrder", inPlace := ["math/bits.Sub64"], unfollowed := true, recurses := true, apart := false, narrowed := true }
def DirectoryOrderUptoSaid : Prop := directoryOrderUptoRow.holds Try.pinned (OpenSpec.upto directoryOrderSpec)

/-- 'pigeonrylaw23.DirectoryChecks', WHERE WHAT IT READS IS OF BULK AT MOST 1048576: true; the input reads as it did. -/
def directoryChecksUptoRow : OpenClaim := { program := "ytdibjnlmeiikmaa", sum := "e2c4c8bfbba412262782e5f9b67de3f27fbed14a560c184e3fe4ce59035a81c8", func := "pigeonry/pigeonrylaw23.DirectoryChecks", spec := "directoryChecks", inPlace := ["math/bits.Sub64"], unfollowed := true, recurses := true, apart := false, narrowed := true }
def DirectoryChecksUptoSaid : Prop := directoryChecksUptoRow.holds Try.pinned (OpenSpec.upto directoryChecksSpec)

/-- 'pigeonrylaw23.DirectoryRoutes', WHERE WHAT IT READS IS OF BULK AT MOST 1048576: true; the input reads as it did. -/
def directoryRoutesUptoRow : OpenClaim := { program := "ytdibjnlmeiikmaa", sum := "e2c4c8bfbba412262782e5f9b67de3f27fbed14a560c184e3fe4ce59035a81c8", func := "pigeonry/pigeonrylaw23.DirectoryRoutes", spec := "directoryRoutes", inPlace := ["math/bits.Sub64"], unfollowed := true, recurses := true, apart := false, narrowed := true }
def DirectoryRoutesUptoSaid : Prop := directoryRoutesUptoRow.holds Try.pinned (OpenSpec.upto directoryRoutesSpec)

/-- 'pigeonrylaw23.DirectoryDelays', WHERE WHAT IT READS IS OF BULK AT MOST 1048576: true; the input reads as it did. -/
def directoryDelaysUptoRow : OpenClaim := { program := "ytdibjnlmeiikmaa", sum := "e2c4c8bfbba412262782e5f9b67de3f27fbed14a560c184e3fe4ce59035a81c8", func := "pigeonry/pigeonrylaw23.DirectoryDelays", spec := "directoryDelays", inPlace := ["math/bits.Sub64"], unfollowed := true, recurses := true, apart := false, narrowed := true }
def DirectoryDelaysUptoSaid : Prop := directoryDelaysUptoRow.holds Try.pinned (OpenSpec.upto directoryDelaysSpec)

/-- 'pigeonrylaw23.DirectoryWays', WHERE WHAT IT READS IS OF BULK AT MOST 1048576: true; the input reads as it did. -/
def directoryWaysUptoRow : OpenClaim := { program := "ytdibjnlmeiikmaa", sum := "e2c4c8bfbba412262782e5f9b67de3f27fbed14a560c184e3fe4ce59035a81c8", func := "pigeonry/pigeonrylaw23.DirectoryWays", spec := "directoryWays", inPlace := ["math/bits.Sub64"], unfollowed := true, recurses := true, apart := false, narrowed := true }
def DirectoryWaysUptoSaid : Prop := directoryWaysUptoRow.holds Try.pinned (OpenSpec.upto directoryWaysSpec)

end Rows
end Go.Proofs.Ytdibjnlmeiikmaa
