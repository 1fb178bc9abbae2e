/-
  The contract of slices.Reverse at this program: the table of numbers, written by the kit's lay-plain.mjs.
-/
import Derived.Shelf.SlicesQ.Reverse
import Derived.Test.YtdibjnlmeiikmaaProg
namespace Go.Proofs.Ytdibjnlmeiikmaa
open Go.Shelf
def Try.revL_ren : Go.Shelf.Ren := ⟨fun | 35 => 33 | n => n, fun | 22 => 37 | 23 => 45 | 3 => 3 | 4 => 4 | 0 => 0 | n => n, fun | n => n⟩
theorem Try.revL : Go.Proofs.SlLaysE0.n35 Try.prog Try.revL_ren := {
  mixed := by kernel_rfl
  f35 := ⟨Try.f33.name, by decide, Try.func33.trans (congrArg some (by kernel_rfl))⟩
  t0 := Try.underlying0
  a0 := Try.isAgg0
  z0 := Try.sizeOf0
  v0 := Try.zeroValue0
  t3 := Try.underlying3
  a3 := Try.isAgg3
  z3 := Try.sizeOf3
  v3 := Try.zeroValue3
  t4 := Try.underlying4
  a4 := Try.isAgg4
  z4 := Try.sizeOf4
  v4 := Try.zeroValue4
  t22 := Try.underlying37
  a22 := Try.isAgg37
  z22 := Try.sizeOf37
  v22 := Try.zeroValue37 }
end Go.Proofs.Ytdibjnlmeiikmaa
