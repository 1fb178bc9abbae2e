/-
  The line's method Swap.
-/
import Derived.Test.YtaphhadahajohaaB
import Derived.BigRegion
set_option linter.unusedVariables false
set_option linter.unusedSimpArgs false
namespace Go.Proofs.Ytaphhadahajohaa
open Go.RowKit

theorem swap44 (p g o cap i j : Nat) (room nn : Int) (hs : List It) (a b : It) (w : World) (h : HL w p room nn g o cap hs) (hi : hs[i]? = some a) (hj : hs[j]? = some b) (hne : i ≠ j) :
    Calls Try.prog 44 #[.pointer (some ⟨p, 1, none⟩), .int .i64 i, .int .i64 j] w fun e w' => e = .returned (.tuple #[]) ∧ ∃ m, w' = ((w.setCells g (o + i * 4) b.cs).setCells g (o + j * 4) a.cs).drewN m := by
  obtain ⟨i0, i1, i2, i3⟩ := h.at hi
  obtain ⟨j0, j1, j2, j3⟩ := h.at hj
  have c1 := h.c1
  have li : i < hs.length := (List.getElem?_eq_some_iff.1 hi).1
  have lj : j < hs.length := (List.getElem?_eq_some_iff.1 hj).1
  have fr := h.free (by omega)
  have hm := h.len
  have k1 : (i : Int) < (hs.length : Int) := by omega
  have k2 : (j : Int) < (hs.length : Int) := by omega
  have k3 : hs.length ≤ 9223372036854775807 := by have := hm; unfold maxLen at this; omega
  have hgp := h.ne
  obtain ⟨d, t, A, l, c, n⟩ := a
  obtain ⟨d', t', A', l', c', n'⟩ := b
  simp only [It.cs, It.b, List.size_toArray] at i0 i1 i2 i3 j0 j1 j2 j3 ⊢
  clear h hi hj hm
  go_enter Try.func44, Try.ntmps44
  go_wp2_with fail
  go_region
  go_end0
  exact ⟨rfl, 1, rfl⟩
end Go.Proofs.Ytaphhadahajohaa
