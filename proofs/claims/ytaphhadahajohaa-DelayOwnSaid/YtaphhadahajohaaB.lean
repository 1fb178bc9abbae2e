/-
  The line's methods Less, Swap, Pop.
-/
import Derived.Test.YtaphhadahajohaaA
set_option linter.unusedVariables false
set_option linter.unusedSimpArgs false
namespace Go.Proofs.Ytaphhadahajohaa
open Go.RowKit

theorem less42 (p g o cap i j : Nat) (room nn : Int) (hs : List It) (a b : It) (w : World) (h : HL w p room nn g o cap hs) (hi : hs[i]? = some a) (hj : hs[j]? = some b) :
    Calls Try.prog 42 #[.pointer (some ⟨p, 1, none⟩), .int .i64 i, .int .i64 j] w fun e w' => e = .returned (.bool (ltB a b)) ∧ Ext NoB w w' := by
  have hc := less45 a b
  obtain ⟨i0, i1, i2, i3⟩ := h.at hi
  obtain ⟨j0, j1, j2, j3⟩ := h.at hj
  have c1 := h.c1
  have li : i < hs.length := (List.getElem?_eq_some_iff.1 hi).1
  have lj : j < hs.length := (List.getElem?_eq_some_iff.1 hj).1
  have hm := h.len
  have k1 : (i : Int) < (hs.length : Int) := by omega
  have k2 : (j : Int) < (hs.length : Int) := by omega
  have k3 : hs.length ≤ 9223372036854775807 := by have := hm; unfold maxLen at this; omega
  obtain ⟨d, t, A, l, c, n⟩ := a
  obtain ⟨d', t', A', l', c', n'⟩ := b
  simp only [It.cs, It.b, List.size_toArray] at hc i0 i1 i2 i3 j0 j1 j2 j3
  generalize ltB _ _ = r at hc ⊢
  have HC := Lib.hid hc
  clear hc h hi hj hm
  go_enter Try.func42, Try.ntmps42
  go_wp2_with fail
  go_region_held3 (fun W => W.cell? ⟨p, 1, none⟩ = some (.slice (some ⟨g, o, none⟩) hs.length cap) ∧ W.cell? ⟨g, o + i * 4, none⟩ = some (.int .i64 d) ∧ W.cell? ⟨g, o + i * 4 + 1, none⟩ = some (.int .i64 t) ∧ W.cell? ⟨g, o + i * 4 + 2, none⟩ = some (.slice A l c) ∧ W.cell? ⟨g, o + i * 4 + 3, none⟩ = some (.int .i64 n) ∧ W.cell? ⟨g, o + j * 4, none⟩ = some (.int .i64 d') ∧ W.cell? ⟨g, o + j * 4 + 1, none⟩ = some (.int .i64 t') ∧ W.cell? ⟨g, o + j * 4 + 2, none⟩ = some (.slice A' l' c') ∧ W.cell? ⟨g, o + j * 4 + 3, none⟩ = some (.int .i64 n'))
    (first | (exact ⟨c1, i0, i1, i2, i3, j0, j1, j2, j3⟩) | (exact ⟨x.cell c1 id, x.cell i0 id, x.cell i1 id, x.cell i2 id, x.cell i3 id, x.cell j0 id, x.cell j1 id, x.cell j2 id, x.cell j3 id⟩))
    (first | (go_at_call 45; refine (HC.out _).mono ?_; rintro e W2 ⟨rfl, x2⟩; have x := (Ext.drew NoB w).then x2))
  go_wp2_with fail
  go_ret
  exact ⟨rfl, x⟩
end Go.Proofs.Ytaphhadahajohaa
