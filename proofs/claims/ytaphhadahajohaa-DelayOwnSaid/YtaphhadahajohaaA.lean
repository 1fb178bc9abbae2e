/-
  What waits, as the program lays it: the line's cells, and its methods Len, Less, Swap, Pop.
-/
import Derived.Test.YtaphhadahajohaaBase
import Derived.Test.YtaphhadahajohaaProg
import Derived.Deep.RegionHeld3
import Derived.Deep.CutRange
import Derived.Deep.MidRow
set_option linter.unusedVariables false
set_option linter.unusedSimpArgs false
namespace Go.Proofs.Ytaphhadahajohaa
open Go.RowKit

/-- A waiting item's four cells. -/
structure It where
  due : Int
  dest : Int
  A : Option Addr
  l : Nat
  c : Nat
  n : Int
abbrev It.b (x : It) : Value := .slice x.A x.l x.c
def It.cs (x : It) : List Value := [.int .i64 x.due, .int .i64 x.dest, x.b, .int .i64 x.n]
def flat (hs : List It) : List Value := hs.flatMap It.cs
theorem flat_length (hs : List It) : (flat hs).length = hs.length * 4 := by
  induction hs with
  | nil => rfl
  | cons x xs ih => simp only [flat, List.flatMap_cons, List.length_append, List.length_cons] at ih ⊢; rw [ih]; simp [It.cs]; omega
theorem flat_append (a b : List It) : flat (a ++ b) = flat a ++ flat b := by simp [flat]
theorem flat_at : ∀ (hs : List It) (i c : Nat), c < 4 → i < hs.length → (flat hs)[i * 4 + c]? = (hs[i]?).bind fun x => x.cs[c]?
  | [], i, c, hc, hi => by simp at hi
  | x :: xs, 0, c, hc, hi => by
    simp only [flat, List.flatMap_cons, Nat.zero_mul, Nat.zero_add, List.getElem?_cons_zero, Option.bind_some]
    rw [List.getElem?_append_left (by simp [It.cs]; omega)]
  | x :: xs, i + 1, c, hc, hi => by
    simp only [flat, List.flatMap_cons, List.getElem?_cons_succ]
    rw [List.getElem?_append_right (by simp [It.cs]; omega)]
    have := flat_at xs i c hc (by simp at hi; omega)
    simp only [flat] at this
    rw [← this]
    congr 1
    simp [It.cs]; omega
instance : Inhabited It := ⟨⟨0, 0, none, 0, 0, 0⟩⟩
theorem It.cs0 (x : It) : x.cs[0]? = some (.int .i64 x.due) := rfl
theorem It.cs1 (x : It) : x.cs[1]? = some (.int .i64 x.dest) := rfl
theorem It.cs2 (x : It) : x.cs[2]? = some x.b := rfl
theorem It.cs3 (x : It) : x.cs[3]? = some (.int .i64 x.n) := rfl

/-- Does one come ahead of another one? -/
def ltB (a b : It) : Bool := if a.due != b.due then decide (a.due < b.due) else decide (a.n < b.n)

/-- The line's row at p (its header lies at offset 1 of the queue's block). -/
structure HL (w : World) (p : Nat) (room nn : Int) (g o cap : Nat) (hs : List It) : Prop where
  blk : w.heap[p]? = some (.cells #[.int .i64 room, .slice (some ⟨g, o, none⟩) hs.length cap, .int .i64 nn] 53 (0, 0))
  row : QRow w 59 4 (.slice (some ⟨g, o, none⟩) hs.length cap) hs.length (flat hs)
theorem HL.ext {F : Nat → Prop} {w w' : World} {p : Nat} {room nn : Int} {g o cap : Nat} {hs : List It} (h : HL w p room nn g o cap hs) (hx : Ext F w w') (hp : ¬ F p) (hg : ¬ F g) : HL w' p room nn g o cap hs :=
  ⟨hx.obj h.blk hp, h.row.ext hx (fun k hk => by simp [Value.ownBlock] at hk; subst hk; exact hg)⟩
theorem HL.ne {w : World} {p : Nat} {room nn : Int} {g o cap : Nat} {hs : List It} (h : HL w p room nn g o cap hs) : g ≠ p := fun e => h.row.neBlk h.blk (by decide) (by rw [e]; rfl)
theorem HL.c0 {w : World} {p : Nat} {room nn : Int} {g o cap : Nat} {hs : List It} (h : HL w p room nn g o cap hs) : w.cell? ⟨p, 0, none⟩ = some (.int .i64 room) := by rw [cellOf h.blk]; rfl
theorem HL.c1 {w : World} {p : Nat} {room nn : Int} {g o cap : Nat} {hs : List It} (h : HL w p room nn g o cap hs) : w.cell? ⟨p, 1, none⟩ = some (.slice (some ⟨g, o, none⟩) hs.length cap) := by rw [cellOf h.blk]; rfl
theorem HL.c2 {w : World} {p : Nat} {room nn : Int} {g o cap : Nat} {hs : List It} (h : HL w p room nn g o cap hs) : w.cell? ⟨p, 2, none⟩ = some (.int .i64 nn) := by rw [cellOf h.blk]; rfl
theorem HL.fr {w : World} {p : Nat} {room nn : Int} {g o cap : Nat} {hs : List It} (h : HL w p room nn g o cap hs) (j : Nat) : w.frozen? ⟨p, j, none⟩ = false := freeOf h.blk j
theorem HL.len {w : World} {p : Nat} {room nn : Int} {g o cap : Nat} {hs : List It} (h : HL w p room nn g o cap hs) : hs.length ≤ cap ∧ cap ≤ maxLen := by
  obtain ⟨A, c, hv, h1, h2, _⟩ := h.row.slice
  injection hv with _ _ e
  subst e
  exact ⟨h1, h2⟩
/-- The four cells of item i. -/
theorem HL.at {w : World} {p : Nat} {room nn : Int} {g o cap : Nat} {hs : List It} (h : HL w p room nn g o cap hs) {i : Nat} {x : It} (hi : hs[i]? = some x) :
    w.cell? ⟨g, o + i * 4, none⟩ = some (.int .i64 x.due) ∧ w.cell? ⟨g, o + i * 4 + 1, none⟩ = some (.int .i64 x.dest) ∧ w.cell? ⟨g, o + i * 4 + 2, none⟩ = some x.b ∧ w.cell? ⟨g, o + i * 4 + 3, none⟩ = some (.int .i64 x.n) := by
  have hl : i < hs.length := (List.getElem?_eq_some_iff.1 hi).1
  obtain ⟨g', o', cap', hv, _, _, hc, _⟩ := h.row.form (by omega)
  injection hv with hv1 _ _
  injection hv1 with hv1
  injection hv1 with e1 e2
  subst e1; subst e2
  have key : ∀ c, c < 4 → w.cell? ⟨g, o + (i * 4 + c), none⟩ = x.cs[c]? := fun c hc4 => by
    rw [hc _ (by omega), flat_at hs i c hc4 hl, hi]; rfl
  refine ⟨?_, ?_, ?_, ?_⟩
  · rw [← It.cs0 x]; exact key 0 (by omega)
  · rw [← It.cs1 x]; exact key 1 (by omega)
  · rw [← It.cs2 x]; exact key 2 (by omega)
  · rw [← It.cs3 x]; exact key 3 (by omega)
theorem HL.free {w : World} {p : Nat} {room nn : Int} {g o cap : Nat} {hs : List It} (h : HL w p room nn g o cap hs) (hn : 0 < hs.length) (j : Nat) : w.frozen? ⟨g, j, none⟩ = false := by
  obtain ⟨g', o', cap', hv, _, _, _, hf⟩ := h.row.form hn
  injection hv with hv1 _ _
  injection hv1 with hv1
  injection hv1 with e1 e2
  subst e1
  exact hf j

theorem len20 (p g o cap : Nat) (room nn : Int) (hs : List It) (w : World) (h : HL w p room nn g o cap hs) :
    Calls Try.prog 20 #[.pointer (some ⟨p, 1, none⟩)] w fun e w' => e = .returned (.int .i64 hs.length) ∧ ∃ m, w' = w.drewN m := by
  have c1 := h.c1
  go_enter Try.func20, Try.ntmps20
  go_wp2
  go_ret
  exact ⟨rfl, 0, rfl⟩
theorem less45 (a b : It) (w : World) :
    Calls Try.prog 45 #[.agg a.cs.toArray, .agg b.cs.toArray] w fun e w' => e = .returned (.bool (ltB a b)) ∧ Ext NoB w w' := by
  obtain ⟨d, t, A, l, c, n⟩ := a
  obtain ⟨d', t', A', l', c', n'⟩ := b
  unfold ltB It.cs It.b
  by_cases hd : d = d'
  · subst hd
    have e1 : (d != d) = false := by simp
    go_enter Try.func45, Try.ntmps45
    go_wp2
    go_ret
    exact ⟨by simp, (Ext.alloc NoB w _).andAlloc _⟩
  · have e1 : (d != d') = true := by simp [hd]
    go_enter Try.func45, Try.ntmps45
    go_wp2
    go_ret
    exact ⟨by simp [hd], (Ext.alloc NoB w _).andAlloc _⟩
end Go.Proofs.Ytaphhadahajohaa
