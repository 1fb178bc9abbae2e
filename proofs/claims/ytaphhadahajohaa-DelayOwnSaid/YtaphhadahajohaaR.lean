/-
  The answers that the document fixes.
-/
import Derived.Test.YtaphhadahajohaaQ
set_option linter.unusedVariables false
set_option linter.unusedSimpArgs false
namespace Go.Proofs.Ytaphhadahajohaa
open Go.RowKit

/-- All blocks from B on. -/
def From (B : Nat) : Nat → Prop := fun k => B ≤ k
theorem push_from {B : Nat} {w : World} {p : Nat} {room nn : Int} {L : List (It × List Int)} (hB : B ≤ w.heap.size) (h : QS w p room nn L (From B)) (hr : 0 < room) (hr2 : room ≤ 4096) (hn0 : 0 ≤ nn) (hn1 : nn ≤ 1000000) (due dest : Int) (A : Option Addr) (c : Nat) (bs : List Int) (hb0 : Bytes w (.slice A bs.length c) bs) (hm : mayB due dest bs.length = true) (hf : L.length < room) :
    Calls Try.prog 9 #[.pointer (some ⟨p, 0, none⟩), .agg #[.int .i64 due, .int .i64 dest, .slice A bs.length c]] w fun e w' => e = .returned (.int .i64 0) ∧ (∃ A c, QS w' p room (nn + 1) (L ++ [(⟨due, dest, A, bs.length, c, nn + 1⟩, bs)]) (From B)) ∧ Ext (From B) w w' := by
  refine (push_ok h hr hr2 hn0 hn1 due dest A c bs hb0 hm hf).mono ?_
  rintro e w' ⟨h1, ⟨A', c', h2⟩, h3⟩
  exact ⟨h1, ⟨A', c', h2.mono fun k _ hk => hk.elim id (fun hk => Nat.le_trans hB hk)⟩, h3⟩
theorem al_push {B : Nat} {w : World} {p : Nat} {nn : Int} {L : List (It × List Int)} (due dest : Int) (hB : B ≤ w.heap.size) (h : QS w p 3 nn L (From B)) (hn0 : 0 ≤ nn) (hn1 : nn ≤ 10) (hm : mayB due dest 0 = true) (hf : L.length < 3) :
    Calls Try.prog 9 #[.pointer (some ⟨p, 0, none⟩), .agg #[.int .i64 due, .int .i64 dest, .slice none 0 0]] w fun e w' => e = .returned (.int .i64 0) ∧ (∃ A c, QS w' p 3 (nn + 1) (L ++ [(⟨due, dest, A, 0, c, nn + 1⟩, [])]) (From B)) ∧ B ≤ w'.heap.size ∧ Ext (From B) w w' :=
  (push_from hB h (by decide) (by decide) hn0 (by omega) due dest none 0 [] (Bytes.nil _) hm (by omega)).mono fun e w' ⟨h1, h2, h3⟩ => ⟨h1, h2, Nat.le_trans hB h3.size, h3⟩

theorem best1 : IsBest [5, 3, 5] 4 1 := by
  refine ⟨by decide, by decide, fun k hk hd => ?_⟩
  have : k = 0 ∨ k = 1 ∨ k = 2 := by simp at hk; omega
  rcases this with rfl | rfl | rfl
  · simp at hd
  · simp
  · simp at hd
theorem best0 : IsBest [5, 5] 5 0 := by
  refine ⟨by decide, by decide, fun k hk hd => ?_⟩
  have : k = 0 ∨ k = 1 := by simp at hk; omega
  rcases this with rfl | rfl <;> simp
/-- Three items, of which the second one goes, then the first one. -/
theorem al_pop1 {F : Nat → Prop} {W : World} {p : Nat} {nn : Int} {a b c : It} (h : QS W p 3 nn [(a, []), (b, []), (c, [])] F) (ha : a.due = 5) (hb : b.due = 3) (hc : c.due = 5) (hbt : b.dest = 2) :
    Calls Try.prog 11 #[.pointer (some ⟨p, 0, none⟩), .int .i64 4] W fun e w' => e = .returned (.tuple #[.agg #[.int .i64 3, .int .i64 2, b.b], .int .i64 0]) ∧ QS w' p 3 nn [(a, []), (c, [])] F ∧ Ext F W w' := by
  have hd : dues [(a, []), (b, []), (c, [])] = [5, 3, 5] := by simp [dues, ha, hb, hc]
  refine (pop_some h (by decide) 4 1 (by simp) (by rw [hd]; exact best1) (by simp)).mono ?_
  rintro e w' ⟨h1, h2, h3, _⟩
  refine ⟨?_, h2, h3⟩
  rw [h1]
  show _ = Ending.returned (.tuple #[.agg #[.int .i64 3, .int .i64 2, b.b], .int .i64 0])
  simp only [List.getElem_cons_succ, List.getElem_cons_zero, hb, hbt]
theorem al_pop2 {F : Nat → Prop} {W : World} {p : Nat} {nn : Int} {a c : It} (h : QS W p 3 nn [(a, []), (c, [])] F) (ha : a.due = 5) (hc : c.due = 5) :
    Calls Try.prog 11 #[.pointer (some ⟨p, 0, none⟩), .int .i64 4] W fun e w' => e = .returned (.tuple #[.agg #[.int .i64 0, .int .i64 0, .slice none 0 0], .int .i64 9]) ∧ Ext NoB W w' :=
  pop_none h (by decide) 4 (fun e he => by simp at he; rcases he with rfl | rfl <;> simp [ha, hc])
theorem al_pop3 {F : Nat → Prop} {W : World} {p : Nat} {nn : Int} {a c : It} (h : QS W p 3 nn [(a, []), (c, [])] F) (ha : a.due = 5) (hc : c.due = 5) (hat : a.dest = 1) :
    Calls Try.prog 11 #[.pointer (some ⟨p, 0, none⟩), .int .i64 5] W fun e w' => e = .returned (.tuple #[.agg #[.int .i64 5, .int .i64 1, a.b], .int .i64 0]) ∧ QS w' p 3 nn [(c, [])] F ∧ Ext F W w' := by
  have hd : dues [(a, []), (c, [])] = [5, 5] := by simp [dues, ha, hc]
  refine (pop_some h (by decide) 5 0 (by simp) (by rw [hd]; exact best0) (by simp)).mono ?_
  rintro e w' ⟨h1, h2, h3, _⟩
  refine ⟨?_, h2, h3⟩
  rw [h1]
  show _ = Ending.returned (.tuple #[.agg #[.int .i64 5, .int .i64 1, a.b], .int .i64 0])
  simp only [List.getElem_cons_zero, ha, hat]
set_option maxHeartbeats 1600000 in
theorem alive_any (w : World) : Calls Try.prog 7 #[] w fun e w' => e = .returned (.bool true) ∧ Ext NoB w w' := by
  obtain ⟨B, hB⟩ : ∃ B, B = w.heap.size := ⟨_, rfl⟩
  have h0 := (QS.new w 3).mono (G := From B) (fun k _ hk => by rw [hk, hB]; exact Nat.le_refl _)
  have b0 : B ≤ (w.alloc (.cells #[.int .i64 3, .slice none 0 0, .int .i64 0] 53)).heap.size := by rw [hB]; simp
  have x0 : Ext (From B) w (w.alloc (.cells #[.int .i64 3, .slice none 0 0, .int .i64 0] 53)) := Ext.alloc _ _ _
  have HB := Lib.hid hB
  clear hB
  go_enter Try.func7, Try.ntmps7
  go_wp2_with (first
    | (go_at_call 8; refine (new_yes 3 (by decide) (by decide) _).mono ?_; rintro e W1 ⟨rfl, rfl⟩)
    | ((go_at_call 9; (with_reducible refine (al_push 5 1 b0 h0 (by decide) (by decide) (by decide) (by decide)).mono ?_)); rintro e W2 ⟨rfl, ⟨A2, c2, h2⟩, b2, x2⟩)
    | ((go_at_call 9; (with_reducible refine (al_push 3 2 b2 h2 (by decide) (by decide) (by decide) (by simp)).mono ?_)); rintro e W3 ⟨rfl, ⟨A3, c3, h3⟩, b3, x3⟩)
    | ((go_at_call 9; (with_reducible refine (al_push 5 3 b3 h3 (by decide) (by decide) (by decide) (by simp)).mono ?_)); rintro e W4 ⟨rfl, ⟨A4, c4, h4⟩, b4, x4⟩)
    | ((go_at_call 9; (with_reducible refine (push_full h4 (by decide) 0 0 none 0 0 (by decide) (by decide) (by simp)).mono ?_)); rintro e W5 ⟨rfl, x5⟩; have h5 := h4.ext x5 (fun _ _ h => h))
    | ((go_at_call 11; (with_reducible refine (al_pop1 h5 rfl rfl rfl rfl).mono ?_)); rintro e W6 ⟨rfl, h6, x6⟩; have g6 := h6.mono (G := fun k => From B k ∧ k < W6.heap.size) (fun k hk h => ⟨h, hk⟩); have b6 := Nat.le_trans (Nat.le_trans b4 x5.size) x6.size)
    | ((go_at_call 11; (with_reducible refine (al_pop2 (g6.ext (Ext.alloc NoB W6 _) (fun _ _ h => h)) rfl rfl).mono ?_)); rintro e W7 ⟨rfl, x7⟩; have x67 := (Ext.alloc NoB W6 (.cells #[.int .i64 3, .int .i64 2, .slice A3 0 c3] 31)).then x7; have h7 := g6.ext x67 (fun _ _ h => h))
    | ((go_at_call 11; (with_reducible refine (al_pop3 (h7.ext (Ext.alloc NoB W7 _) (fun _ _ h => h)) rfl rfl rfl).mono ?_)); rintro e W8 ⟨rfl, h8, x8⟩; have bx6 := x8.obj ((Ext.alloc NoB W7 (.cells #[.int .i64 0, .int .i64 0, .slice none 0 0] 31)).obj (x7.obj (heapNew W6 (.cells #[.int .i64 3, .int .i64 2, .slice A3 0 c3] 31)) id) id) (fun h => Nat.lt_irrefl _ h.2); have m1 := cellOf ((Ext.alloc NoB W8 (.cells #[.int .i64 5, .int .i64 1, .slice A2 0 c2] 31)).obj bx6 id) 1; have h9 := h8.ext (Ext.alloc NoB W8 (.cells #[.int .i64 5, .int .i64 1, .slice A2 0 c2] 31)) (fun _ _ h => h); clear bx6)
    | ((go_at_call 10; (with_reducible refine (len10 h9 (by decide)).mono ?_)); rintro e W9 ⟨rfl, x9⟩))
  go_ret
  refine ⟨rfl, ?_⟩
  have X6 : Ext (From B) w W6 := (x0.then (x2.then (x3.then (x4.then ((x5.mono fun _ _ h => h.elim).then x6)))))
  have X7 : Ext (From B) w W7 := X6.then (x67.mono fun _ _ h => h.elim)
  have X8 : Ext (From B) w W8 := (X7.andAlloc _).trans x8 (fun _ _ h => h) (fun k hk h => h.1)
  exact ((X8.andAlloc _).then (x9.mono fun _ _ h => h.elim)).mono fun k hk h => absurd h (by unfold From; rw [HB.out]; omega)
end Go.Proofs.Ytaphhadahajohaa
