/- The law's own 'alive' is true. -/
import Derived.Test.YtapckbbbcjaahaaF
import Derived.Lib.SlBytesConst
set_option linter.unusedVariables false
namespace Go.Proofs.Ytapckbbbcjaahaa
open Go.RowKit

def From (B : Nat) : Nat → Prop := fun k => B ≤ k
theorem al1 (b B : Nat) (W : World) (h : SlotsAt W b 4 1 2 [] 0 (From B)) : Calls Try.prog 13 #[.pointer (some ⟨b, 0, none⟩), .int .i64 1, .int .u8 2] W (Atted W b 4 1 2 (From B) 2 0 2 [] []) :=
  at_any b 4 1 2 0 1 2 [] _ W (by decide) (by decide) (by decide) (by decide) (by decide) (by decide) h
theorem al2 (b B : Nat) (W : World) (h : SlotsAt W b 4 1 2 [[97]] 2 (From B)) : Calls Try.prog 13 #[.pointer (some ⟨b, 0, none⟩), .int .i64 1, .int .u8 0] W (Atted W b 4 1 2 (From B) 0 13 2 [] [[97]]) :=
  at_any b 4 1 2 2 1 0 [[97]] _ W (by decide) (by decide) (by decide) (by decide) (by decide) (by decide) h
theorem al3 (b B : Nat) (W : World) (h : SlotsAt W b 4 1 2 [[97]] 2 (From B)) : Calls Try.prog 13 #[.pointer (some ⟨b, 0, none⟩), .int .i64 5, .int .u8 3] W (Atted W b 4 1 2 (From B) 1 0 6 [97] []) :=
  at_any b 4 1 2 2 5 3 [[97]] _ W (by decide) (by decide) (by decide) (by decide) (by decide) (by decide) h
theorem al4 (b B : Nat) (W : World) (h : SlotsAt W b 4 1 2 [] 6 (From B)) : Calls Try.prog 13 #[.pointer (some ⟨b, 0, none⟩), .int .i64 9, .int .u8 3] W (Atted W b 4 1 2 (From B) 3 0 10 [] []) :=
  at_any b 4 1 2 6 9 3 [] _ W (by decide) (by decide) (by decide) (by decide) (by decide) (by decide) h
theorem alp (b B : Nat) (W : World) (v : Value) (hB : B ≤ W.heap.size) (hs : SlotsAt W b 4 1 2 [] 2 (From B)) (hb : Bytes W v [97]) : Calls Try.prog 12 #[.pointer (some ⟨b, 0, none⟩), v] W fun e w' => e = .returned (.int .i64 0) ∧ SlotsAt w' b 4 1 2 [[97]] 2 (From B) ∧ Ext (From B) W w' :=
  (push_any b 4 1 2 2 [] _ v [97] W (by decide) (by decide) (by decide) (by decide) hs hb (by decide)).mono fun e w' ⟨h1, h2, h3⟩ =>
    ⟨h1, SlotsAt.mono h2 fun k _ h => by rcases h with h | h; exact h; exact Nat.le_trans hB h, h3⟩
theorem ali (b : Nat) (now : Int) (F : Nat → Prop) (W : World) (h : SlotsAt W b 4 1 2 [] 0 F) : Calls Try.prog 16 #[.pointer (some ⟨b, 0, none⟩), .int .i64 now] W fun e w' => e = .returned (.bool (isB 4 1 now)) ∧ SlotsAt w' b 4 1 2 [] 0 F ∧ Ext NoB W w' := by
  have h0 := h
  obtain ⟨sv, ho, _⟩ := h
  refine (is_yes b 4 1 now W (by decide) (by decide) ho.c0 ho.c1).mono fun e w' ⟨h1, m, h2⟩ => ⟨h1, ?_, ?_⟩
  · rw [h2]; exact h0.ext (Ext.drewN NoB W m) fun _ _ h => h
  · rw [h2]; exact Ext.drewN NoB W m
theorem alr (b : Nat) (F : Nat → Prop) (W : World) (h : SlotsAt W b 4 1 2 [] 0 F) : Calls Try.prog 15 #[.pointer (some ⟨b, 0, none⟩)] W fun e w' => e = .returned (.int .i64 2) ∧ SlotsAt w' b 4 1 2 [] 0 F ∧ Ext NoB W w' := by
  have h0 := h
  obtain ⟨sv, ho, ⟨vs, hq, _⟩, _⟩ := h
  obtain ⟨A, c, rfl, h1, h2, h3⟩ := hq.slice
  refine (room_yes b 4 2 A 0 c W (by decide) (by decide) (by decide) (by decide) ho.c0 ho.c2 ho.c3).mono fun e w' ⟨h1, m, h2⟩ => ⟨h1, ?_, ?_⟩
  · rw [h2]; exact h0.ext (Ext.drewN NoB W m) fun _ _ h => h
  · rw [h2]; exact Ext.drewN NoB W m
theorem lit_bytes (w : World) (fr : Nat × Nat) : Bytes (w.alloc (.cells #[.int .u8 97] 5 fr)) (.slice (some ⟨w.heap.size, 0, none⟩) 1 1) [97] := by
  refine .inr ⟨_, 1, rfl, Nat.le_refl _, by decide, fun j hj => ?_⟩
  have hj0 : j = 0 := by simp at hj; omega
  subst hj0
  rw [add_none, cellOf (heapNew w _)]
  rfl
theorem str97 : (strOfNums [97]).toList = [97] := by decide +kernel
set_option maxHeartbeats 1600000 in
theorem alive_any (w : World) : Calls Try.prog 7 #[] w fun e w' => e = .returned (.bool true) ∧ Below w.heap.size w w' := by
  have kc := fun (w : World) (C : Array Value) (n c : Nat) => Lib.run_convert_bytes_const (P := Try.prog) w 32 5 C n c Try.underlying32 Try.underlying5
  have i0 : isB 4 1 0 = false := by decide
  have i1 : isB 4 1 1 = true := by decide
  go_enter Try.func7, Try.ntmps7
  go_wp2_with fail
  refine (new_yes 4 1 2 w (by decide) (by decide) (by decide) (by decide) (by decide) (by decide)).mono ?_
  rintro e w1 ⟨rfl, hw1⟩
  have s1 : SlotsAt w1 w.heap.size 4 1 2 [] 0 (From w.heap.size) := ⟨.slice none 0 0, ⟨by rw [hw1]; exact heapNew _ _⟩, Line.nil _ _, Nat.le_refl _⟩
  have x1 : Ext (From w.heap.size) w w1 := by rw [hw1]; exact Ext.alloc _ _ _
  clear hw1
  go_wp2_with fail
  refine (ali w.heap.size 1 _ w1 s1).mono ?_
  rintro e w2 ⟨rfl, s2, x2⟩
  replace x2 := x1.then (x2.mono fun _ _ h => h.elim)
  clear s1 x1
  go_wp2_with fail
  refine (ali w.heap.size 0 _ w2 s2).mono ?_
  rintro e w3 ⟨rfl, s3, x3⟩
  replace x3 := x2.then (x3.mono fun _ _ h => h.elim)
  clear s2 x2
  go_wp2_with fail
  refine (alr w.heap.size _ w3 s3).mono ?_
  rintro e w4 ⟨rfl, s4, x4⟩
  replace x4 := x3.then (x4.mono fun _ _ h => h.elim)
  clear s3 x3
  go_wp2_with fail
  refine (al1 w.heap.size _ w4 s4).mono ?_
  rintro e w5 ⟨A5, c5, rfl, b5, o5, s5, x5⟩
  replace x5 := x4.then (x5.mono fun _ _ h => by rw [h]; exact Nat.le_refl _)
  clear s4 x4 b5 o5
  go_wp2_with fail
  refine (alp w.heap.size w.heap.size (w5.alloc (.cells #[.int .u8 97] 5 (1, 2))) _ (by have := x5.size; simp; omega) (s5.ext (Ext.alloc NoB w5 _) fun _ _ h => h) (lit_bytes w5 _)).mono ?_
  rintro e w6 ⟨rfl, s6, x6⟩
  replace x6 := (x5.andAlloc _).then x6
  clear s5 x5
  go_wp2_with fail
  refine (al2 w.heap.size _ w6 s6).mono ?_
  rintro e w7 ⟨A7, c7, rfl, b7, o7, s7, x7⟩
  replace x7 := x6.then (x7.mono fun _ _ h => by rw [h]; exact Nat.le_refl _)
  clear s6 x6 b7 o7
  go_wp2_with fail
  refine (al3 w.heap.size _ w7 s7).mono ?_
  rintro e w8 ⟨A8, c8, rfl, b8, o8, s8, x8⟩
  replace x8 := x7.then (x8.mono fun _ _ h => by rw [h]; exact Nat.le_refl _)
  clear s7 x7
  go_wp2_with fail
  refine (al4 w.heap.size _ w8 s8).mono ?_
  rintro e w9 ⟨A9, c9, rfl, b9, o9, s9, x9⟩
  have hstr : (convert 32 9 (.slice A8 1 c8)).run Try.prog w9 = .ok (.string (strOfNums [97])) w9 := (b8.ext x9 fun k _ hk h => (o8 k hk).2 h).string (P := Try.prog) Try.underlying32 Try.underlying5 Try.underlying9
  have x10 := x8.then (x9.mono fun _ _ h => by rw [h]; exact Nat.le_refl _)
  have h97 := str97
  clear s8 x8 x9 b8 b9 o8 o9 s9
  go_wp2
  go_ret
  exact ⟨by simp, x10.below (Nat.le_refl _) fun _ h => h⟩
end Go.Proofs.Ytapckbbbcjaahaa
