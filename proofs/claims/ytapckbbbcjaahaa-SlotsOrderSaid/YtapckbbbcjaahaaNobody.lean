/- The law SlotsNobody returns true: the walk. -/
import Derived.Test.YtapckbbbcjaahaaG
set_option linter.unusedVariables false
namespace Go.Proofs.Ytapckbbbcjaahaa
open Go.RowKit

/-- Four cells of a block: an Act. -/
theorem four {w : World} {b : Nat} {a0 a1 a2 a3 : Value} {e : TypeId} (h : w.heap[b]? = some (.cells #[a0, a1, a2, a3] e (0, 0))) :
    w.cell? ⟨b, 0, none⟩ = some a0 ∧ w.cell? ⟨b, 1, none⟩ = some a1 ∧ w.cell? ⟨b, 2, none⟩ = some a2 ∧ w.cell? ⟨b, 3, none⟩ = some a3 :=
  ⟨by rw [cellOf h]; rfl, by rw [cellOf h]; rfl, by rw [cellOf h]; rfl, by rw [cellOf h]; rfl⟩
/-- The two Slots that no call made, in a list. -/
def Two (w : World) (B : Nat) : Prop := w.heap[B]? = some (.cells #[.int .i64 0, .int .i64 0, .int .i64 0, .slice none 0 0, .int .i64 0] 50 (0, 0)) ∧ w.heap[B + 1]? = some (.cells #[.pointer none, .pointer (some ⟨B, 0, none⟩)] 25 (0, 0))
theorem Two.at0 {w : World} {B : Nat} (h : Two w B) : ∃ v, w.cell? ⟨B + 1, 0, none⟩ = some v ∧ Nobody w v := ⟨_, by rw [cellOf h.2]; rfl, .inl rfl⟩
theorem Two.at1 {w : World} {B : Nat} (h : Two w B) : ∃ v, w.cell? ⟨B + 1, 1, none⟩ = some v ∧ Nobody w v := ⟨_, by rw [cellOf h.2]; rfl, .inr ⟨B, rfl, by rw [cellOf h.1]; rfl⟩⟩
theorem Two.at {w : World} {B : Nat} (h : Two w B) (k : Nat) (hk : k < 2) : ∃ a, w.cell? ⟨B + 1, k, none⟩ = some (.pointer a) ∧ Nobody w (.pointer a) := by
  match k, hk with
  | 0, _ => exact ⟨none, by rw [cellOf h.2]; rfl, .inl rfl⟩
  | 1, _ => exact ⟨some ⟨B, 0, none⟩, by rw [cellOf h.2]; rfl, .inr ⟨B, rfl, by rw [cellOf h.1]; rfl⟩⟩
set_option maxHeartbeats 1600000 in
theorem nobody_walk (kd now draw : Int) (A : Option Addr) (n c : Nat) (w : World) (hn : n ≤ maxLen) :
    Calls Try.prog 6 #[.agg #[.int .u8 kd, .int .i64 now, .int .u8 draw, .slice A n c]] w fun e w' => e = .returned (.bool true) ∧ Below w.heap.size w w' := by
  have hn' : n ≤ 9223372036854775807 := hn
  by_cases hbig : 5000 < n
  · have hb : (5000 : Int) < (n : Int) := by omega
    go_enter Try.func6, Try.ntmps6
    go_wp2_with (go_at_call 7; refine (alive_any _).mono ?_; rintro e w1 ⟨rfl, hx⟩; have hx' := Ext.ofBelow hx NoB; have k3 := hx'.cell (p := ⟨w.heap.size, 3, none⟩) (v := .slice A n c) (by simp [cellOf (heapNew w _)]) (fun h => h))
    go_ret
    exact ⟨rfl, ((Ext.alloc NoB w _).then hx').below (Nat.le_refl _) fun _ h => h.elim⟩
  · have hb : (n : Int) ≤ 5000 := by omega
    go_enter Try.func6, Try.ntmps6
    go_wp2_with (go_at_call 7; refine (alive_any _).mono ?_; rintro e w1 ⟨rfl, hx⟩; have hx' := Ext.ofBelow hx NoB; have t := hx'.obj (heapNew w _) (fun h => h); obtain ⟨e0, e1, e2, e3⟩ := four t)
    have hz := (Ext.alloc NoB w1 (.cells #[.int .i64 0, .int .i64 0, .int .i64 0, .slice none 0 0, .int .i64 0] 50)).andAlloc (.cells #[.pointer none, .pointer (some ⟨w1.heap.size, 0, none⟩)] 25)
    have h2 : Two ((w1.alloc (.cells #[.int .i64 0, .int .i64 0, .int .i64 0, .slice none 0 0, .int .i64 0] 50)).alloc (.cells #[.pointer none, .pointer (some ⟨w1.heap.size, 0, none⟩)] 25)) w1.heap.size := heap_two w1 _ _
    have ha := hz.obj t (fun h => h)
    have hbl : Below w.heap.size w ((w1.alloc (.cells #[.int .i64 0, .int .i64 0, .int .i64 0, .slice none 0 0, .int .i64 0] 50)).alloc (.cells #[.pointer none, .pointer (some ⟨w1.heap.size, 0, none⟩)] 25)) := (((Ext.alloc NoB w _).then hx').then hz).below (Nat.le_refl _) fun _ h => h.elim
    clear hz t e0 e1 e2 e3 hx hx'
    go_loopw [18] (fun i wr => ∃ k : Nat, k ≤ 2 ∧ i = .int .i64 k ∧ wr.heap[w.heap.size]? = some (.cells #[.int .u8 kd, .int .i64 now, .int .u8 draw, .slice A n c] 34 (0, 0)) ∧ Two wr w1.heap.size ∧ Below w.heap.size w wr) (fun i _ => 2 - (intOf i).toNat)
    case atStart => exact ⟨0, by decide, rfl, ha, h2, hbl⟩
    case round =>
      clear ha h2 hbl
      obtain ⟨k, hk, rfl, ha, h2, hbl⟩ := hrel
      by_cases hlt : k < 2
      · obtain ⟨v, hc, hno⟩ := h2.at k hlt
        obtain ⟨e0, e1, e2, e3⟩ := four ha
        have hlt' : (k : Int) < 2 := by omega
        go_wp2_with (first | (go_at_call 13; refine (at_no _ _ _ _ hno).mono ?_; rintro e w2 ⟨rfl, m1, rfl⟩) | (go_at_call 12; refine (push_no _ _ _ _ _ (hno.drewN _)).mono ?_; rintro e w2 ⟨rfl, m2, rfl⟩) | (go_at_call 15; refine (room_no _ _ (hno.drewN _)).mono ?_; rintro e w2 ⟨rfl, m3, rfl⟩) | (go_at_call 16; refine (is_no _ _ _ (hno.drewN _)).mono ?_; rintro e w2 ⟨rfl, m4, rfl⟩))
        exact ⟨⟨k + 1, by omega, by go_num, ha, h2, (Ext.drewN NoB _ _).below (B := w.heap.size) hbl.size (fun _ h => h.elim) |> hbl.trans⟩, by simp [intOf]; omega⟩
      · obtain rfl : k = 2 := by omega
        go_wp2
        go_ret
        exact ⟨rfl, hbl⟩
end Go.Proofs.Ytapckbbbcjaahaa
