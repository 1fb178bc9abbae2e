/-
  No cell of these rows narrows 'for every input' (looked for: loops, veiled, ifaces, maps, wideKeys, modest, calm, conditions, laid).
  DERIVED. THE GIVEN ROWS OF THIS SEAT. 4 by the template 'for every input the law returns true; each argument reads behind the call as it read before'; 0 by the template 'total and deterministic' (their statements: YteidkdbngjhopaaTotals.lean).
  GIVEN WITH THE SEED: the statements are not yours to turn. If you find one false, say at which input.
  Laid BY PROGRAM, IN A SANDBOX (cutbox-rows.mjs): the forced cells as the released guide's own fill.sh prints them over the translation 64a3d970c2b8928f… (all of the seat's roots in one cut). By AI agents, Wed Nov 11 2026. No macro, syntax, notation, axiom, sorry.
-/
import Derived.Test.YteidkdbngjhopaaChecked
import GoSem.Claim
import GoSem.ClaimJoined
import GoSem.ClaimMapViews
import Derived.JoinedTies
import Derived.KernelRfl
namespace Go.Proofs.Yteidkdbngjhopaa
/- THE CELL 'sum', in the pinned program and in every row, IS THE sha256 OF THE DUMP (.gsa) THAT YteidkdbngjhopaaProg.lean LOADS. Nothing in Lean hashes anything: it is a label: what it is worth is what the hold of that sum in a sandbox is worth. -/
noncomputable def Try.pinned : Pinned := { name := "yteidkdbngjhopaa", sum := "64a3d970c2b8928f87ce31d7cda86276b45134bc7be7fd3d2cb817d7c388a1a8", checked := Try.checked }
namespace Rows
def none {H : Type} : Left H := { results := [], args := [] }

/-- 'pigeonrylaw13.ReplayActs': WHATEVER THE INPUT: true; the input reads as it did. -/
def replayActsSpec : ChangeSpec := { name := "replayActs", fn := fun _ => fun
  | [d1, d2] => { results := [.lit (.bool true)], args := [d1, d2] }
  | _ => none }
def replayActsRow : OpenClaim := { program := "yteidkdbngjhopaa", sum := "64a3d970c2b8928f87ce31d7cda86276b45134bc7be7fd3d2cb817d7c388a1a8", func := "pigeonry/pigeonrylaw13.ReplayActs", spec := "replayActs", unfollowed := true, recurses := true, plainKeys := false, apart := false }
def ReplayActsSaid : Prop := replayActsRow.holds Try.pinned (OpenSpec.ofChange replayActsSpec)

/-- ITS FALSE NEIGHBOUR: 'it returns false'. Refute it at one input. -/
def replayActsWrong : ChangeSpec := { name := "replayActs", fn := fun _ => fun
  | [d1, d2] => { results := [.lit (.bool false)], args := [d1, d2] }
  | _ => none }
def ReplayActsWrongFalsely : Prop := replayActsRow.holds Try.pinned (OpenSpec.ofChange replayActsWrong)

/-- 'pigeonrylaw13.ReplayOnce': WHATEVER THE INPUT: true; the input reads as it did. -/
def replayOnceSpec : ChangeSpec := { name := "replayOnce", fn := fun _ => fun
  | [d1, d2] => { results := [.lit (.bool true)], args := [d1, d2] }
  | _ => none }
def replayOnceRow : OpenClaim := { program := "yteidkdbngjhopaa", sum := "64a3d970c2b8928f87ce31d7cda86276b45134bc7be7fd3d2cb817d7c388a1a8", func := "pigeonry/pigeonrylaw13.ReplayOnce", spec := "replayOnce", unfollowed := true, recurses := true, plainKeys := false, apart := false }
def ReplayOnceSaid : Prop := replayOnceRow.holds Try.pinned (OpenSpec.ofChange replayOnceSpec)

/-- ITS FALSE NEIGHBOUR: 'it returns false'. Refute it at one input. -/
def replayOnceWrong : ChangeSpec := { name := "replayOnce", fn := fun _ => fun
  | [d1, d2] => { results := [.lit (.bool false)], args := [d1, d2] }
  | _ => none }
def ReplayOnceWrongFalsely : Prop := replayOnceRow.holds Try.pinned (OpenSpec.ofChange replayOnceWrong)

/-- 'pigeonrylaw13.ReplayNobody': WHATEVER THE INPUT: true; the input reads as it did. -/
def replayNobodySpec : ChangeSpec := { name := "replayNobody", fn := fun _ => fun
  | [d] => { results := [.lit (.bool true)], args := [d] }
  | _ => none }
def replayNobodyRow : OpenClaim := { program := "yteidkdbngjhopaa", sum := "64a3d970c2b8928f87ce31d7cda86276b45134bc7be7fd3d2cb817d7c388a1a8", func := "pigeonry/pigeonrylaw13.ReplayNobody", spec := "replayNobody", unfollowed := true, recurses := true, plainKeys := false, apart := false }
def ReplayNobodySaid : Prop := replayNobodyRow.holds Try.pinned (OpenSpec.ofChange replayNobodySpec)

/-- ITS FALSE NEIGHBOUR: 'it returns false'. Refute it at one input. -/
def replayNobodyWrong : ChangeSpec := { name := "replayNobody", fn := fun _ => fun
  | [d] => { results := [.lit (.bool false)], args := [d] }
  | _ => none }
def ReplayNobodyWrongFalsely : Prop := replayNobodyRow.holds Try.pinned (OpenSpec.ofChange replayNobodyWrong)

/-- 'pigeonrylaw13.ReplayLens': WHATEVER THE INPUT: true; the input reads as it did. -/
def replayLensSpec : ChangeSpec := { name := "replayLens", fn := fun _ => fun
  | [d1, d2] => { results := [.lit (.bool true)], args := [d1, d2] }
  | _ => none }
def replayLensRow : OpenClaim := { program := "yteidkdbngjhopaa", sum := "64a3d970c2b8928f87ce31d7cda86276b45134bc7be7fd3d2cb817d7c388a1a8", func := "pigeonry/pigeonrylaw13.ReplayLens", spec := "replayLens", unfollowed := true, recurses := true, plainKeys := false, apart := false }
def ReplayLensSaid : Prop := replayLensRow.holds Try.pinned (OpenSpec.ofChange replayLensSpec)

/-- ITS FALSE NEIGHBOUR: 'it returns false'. Refute it at one input. -/
def replayLensWrong : ChangeSpec := { name := "replayLens", fn := fun _ => fun
  | [d1, d2] => { results := [.lit (.bool false)], args := [d1, d2] }
  | _ => none }
def ReplayLensWrongFalsely : Prop := replayLensRow.holds Try.pinned (OpenSpec.ofChange replayLensWrong)

/- THE SECOND FORM. 'bulk': how many values and letters a reading holds, each counted each time it is reached (what is shared counts as often as it is met; a slice's spare places count too). A statement '..UptoSaid' is the law's where the arguments, and the package variables that the reading takes, are together of bulk at most 1048576: NARROWER than '..Said'. Prove '..Said' where nothing that the law and all that it calls make is longer than what came in: it says more and counts as full. Else prove '..UptoSaid'. A law counts once. -/
mutual
def uptoBulk {H : Type} : DataW H → Nat
  | .lit (.string bytes) => bytes.length + 1
  | .lit _ => 1
  | .nil => 1
  | .ptr d => uptoBulk d + 1
  | .slice elems spare => uptoBulkAll elems + uptoBulkAll spare + 1
  | .agg parts => uptoBulkAll parts + 1
  | .iface _ d => uptoBulk d + 1
  | .map entries => uptoBulkEntries entries + 1
  | .held _ => 1
def uptoBulkAll {H : Type} : List (DataW H) → Nat
  | [] => 0
  | d :: r => uptoBulk d + uptoBulkAll r
def uptoBulkEntries {H : Type} : List (Lit × DataW H) → Nat
  | [] => 0
  | x :: r => uptoBulkEntry x + uptoBulkEntries r
def uptoBulkEntry {H : Type} : Lit × DataW H → Nat
  | (.string bytes, d) => bytes.length + uptoBulk d + 1
  | (_, d) => uptoBulk d + 1
 end
def uptoSmall : (H : Type) → List (DataW H) → Bool := fun _ ds => decide (uptoBulkAll ds ≤ 1048576)
def OpenSpec.upto (s : _root_.Go.ChangeSpec) : _root_.Go.OpenSpec := { _root_.Go.OpenSpec.ofChange s with cond := some uptoSmall }

/-- 'pigeonrylaw13.ReplayActs', WHERE WHAT IT READS IS OF BULK AT MOST 1048576: true; the input reads as it did. -/
def replayActsUptoRow : OpenClaim := { program := "yteidkdbngjhopaa", sum := "64a3d970c2b8928f87ce31d7cda86276b45134bc7be7fd3d2cb817d7c388a1a8", func := "pigeonry/pigeonrylaw13.ReplayActs", spec := "replayActs", unfollowed := true, recurses := true, plainKeys := false, apart := false, narrowed := true }
def ReplayActsUptoSaid : Prop := replayActsUptoRow.holds Try.pinned (OpenSpec.upto replayActsSpec)

/-- 'pigeonrylaw13.ReplayOnce', WHERE WHAT IT READS IS OF BULK AT MOST 1048576: true; the input reads as it did. -/
def replayOnceUptoRow : OpenClaim := { program := "yteidkdbngjhopaa", sum := "64a3d970c2b8928f87ce31d7cda86276b45134bc7be7fd3d2cb817d7c388a1a8", func := "pigeonry/pigeonrylaw13.ReplayOnce", spec := "replayOnce", unfollowed := true, recurses := true, plainKeys := false, apart := false, narrowed := true }
def ReplayOnceUptoSaid : Prop := replayOnceUptoRow.holds Try.pinned (OpenSpec.upto replayOnceSpec)

/-- 'pigeonrylaw13.ReplayNobody', WHERE WHAT IT READS IS OF BULK AT MOST 1048576: true; the input reads as it did. -/
def replayNobodyUptoRow : OpenClaim := { program := "yteidkdbngjhopaa", sum := "64a3d970c2b8928f87ce31d7cda86276b45134bc7be7fd3d2cb817d7c388a1a8", func := "pigeonry/pigeonrylaw13.ReplayNobody", spec := "replayNobody", unfollowed := true, recurses := true, plainKeys := false, apart := false, narrowed := true }
def ReplayNobodyUptoSaid : Prop := replayNobodyUptoRow.holds Try.pinned (OpenSpec.upto replayNobodySpec)

/-- 'pigeonrylaw13.ReplayLens', WHERE WHAT IT READS IS OF BULK AT MOST 1048576: true; the input reads as it did. -/
def replayLensUptoRow : OpenClaim := { program := "yteidkdbngjhopaa", sum := "64a3d970c2b8928f87ce31d7cda86276b45134bc7be7fd3d2cb817d7c388a1a8", func := "pigeonry/pigeonrylaw13.ReplayLens", spec := "replayLens", unfollowed := true, recurses := true, plainKeys := false, apart := false, narrowed := true }
def ReplayLensUptoSaid : Prop := replayLensUptoRow.holds Try.pinned (OpenSpec.upto replayLensSpec)

end Rows
end Go.Proofs.Yteidkdbngjhopaa
