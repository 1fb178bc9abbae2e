/-
  ReplayNobody returns true: the walk.
-/
import Derived.Test.YteidkdbngjhopaaN
set_option linter.unusedVariables false
set_option linter.unusedSimpArgs false
namespace Go.Proofs.Yteidkdbngjhopaa
open Go.RowKit Go.Maps

/-- An Act's cells. -/
abbrev acs (kd g : Int) (A : List Value) : List Value := .int .u8 kd :: .int .i64 g :: A
theorem act_range {w : World} {b : Nat} {kd g : Int} {A : List Value} {e : TypeId} {fr : Nat × Nat} (h : w.heap[b]? = some (.cells (acs kd g A).toArray e fr)) : w.rangeAt b 2 A := fun j v hv => by
  rw [cellOf h, List.getElem?_toArray, Nat.add_comm]; exact hv
theorem act_gen {w : World} {b : Nat} {kd g : Int} {A : List Value} {e : TypeId} {fr : Nat × Nat} (h : w.heap[b]? = some (.cells (acs kd g A).toArray e fr)) : w.cell? ⟨b, 1, none⟩ = some (.int .i64 g) := by
  rw [cellOf h, List.getElem?_toArray]; rfl
theorem act_kind {w : World} {b : Nat} {kd g : Int} {A : List Value} {e : TypeId} {fr : Nat × Nat} (h : w.heap[b]? = some (.cells (acs kd g A).toArray e fr)) : w.cell? ⟨b, 0, none⟩ = some (.int .u8 kd) := by
  rw [cellOf h, List.getElem?_toArray]; rfl
set_option maxHeartbeats 1600000 in
theorem nobody_walk (kd g : Int) (A : List Value) (lA : A.length = 16) (w : World) :
    Calls Try.prog 5 #[.agg (acs kd g A).toArray] w fun e w' => e = .returned (.bool true) ∧ Below w.heap.size w w' := by
  have hbx0 := heapNew w (.cells (acs kd g A).toArray 32)
  have x0 := Ext.alloc NoB w (.cells (acs kd g A).toArray 32)
  have sA : (Try.prog.info? 30).map (·.size) = some A.length := by rw [lA]; exact size30
  have lA' : A.toArray.size = 16 := by simpa using lA
  obtain ⟨V, hV⟩ : ∃ V, V = (acs kd g A).toArray := ⟨_, rfl⟩
  have lV : V.size = 18 := by rw [hV]; simp [acs, lA]
  rw [← hV] at x0 hbx0 ⊢
  have HV := Lib.hid hV
  have HA' := Lib.hid lA'
  clear hV lA lA'
  go_enter Try.func5, Try.ntmps5
  go_wp2_with (first
    | (go_at_call 7; refine (alive_any _).mono ?_; rintro e W1 ⟨rfl, x1⟩))
  have x2 := (Ext.alloc NoB W1 (.cells #[.int .i64 0, .int .i64 0, .map none] 53)).andAlloc (.cells #[.pointer none, .pointer (some ⟨W1.heap.size, 0, none⟩)] 24)
  have hq0 : ((W1.alloc (.cells #[.int .i64 0, .int .i64 0, .map none] 53)).alloc (.cells #[.pointer none, .pointer (some ⟨W1.heap.size, 0, none⟩)] 24)).heap[W1.heap.size]? = some (.cells #[.int .i64 0, .int .i64 0, .map none] 53 (0, 0)) := (Ext.alloc NoB _ _).obj (heapNew W1 _) id
  have hs0 : ((W1.alloc (.cells #[.int .i64 0, .int .i64 0, .map none] 53)).alloc (.cells #[.pointer none, .pointer (some ⟨W1.heap.size, 0, none⟩)] 24)).heap[W1.heap.size + 1]? = some (.cells #[.pointer none, .pointer (some ⟨W1.heap.size, 0, none⟩)] 24 (0, 0)) := by
    have := heapNew (W1.alloc (.cells #[.int .i64 0, .int .i64 0, .map none] 53)) (.cells #[.pointer none, .pointer (some ⟨W1.heap.size, 0, none⟩)] 24)
    simpa using this
  have hb0 := x2.obj (x1.obj hbx0 id) id
  have X2 := (x0.then x1).then x2
  clear x2 x1 x0 hbx0
  generalize (W1.alloc _).alloc _ = W3 at hq0 hs0 hb0 X2 ⊢
  go_loopw [11] (fun i W => ∃ k : Nat, k ≤ 2 ∧ i = .int .i64 k ∧ Ext NoB W3 W) (fun i _ => 2 - (intOf i).toNat)
  case atStart => exact ⟨0, by omega, rfl, Ext.refl _ _⟩
  case round =>
    obtain ⟨k, hk, rfl, hx⟩ := hrel
    by_cases hk2 : k < 2
    · have hv : ∃ v, (k = 0 ∨ k = 1) ∧ wr.cell? ⟨W1.heap.size + 1, k, none⟩ = some v ∧ Bad wr v := by
        have : k = 0 ∨ k = 1 := by omega
        rcases this with rfl | rfl
        · exact ⟨_, .inl rfl, by rw [cellOf (hx.obj hs0 id)]; rfl, bad_nil _⟩
        · exact ⟨_, .inr rfl, by rw [cellOf (hx.obj hs0 id)]; rfl, bad_zero (by rw [cellOf (hx.obj hq0 id)]; rfl)⟩
      obtain ⟨v, _, hcv, hbad⟩ := hv
      have e1 : (k : Int) < 2 := by omega
      have hbx := hx.obj hb0 id
      rw [HV.out] at hbx
      have c1 := act_gen hbx
      have HBX := Lib.hid hbx
      have HBAD := Lib.hid hbad
      clear hbad hq0 hs0 hb0 hbx
      have x22 := Ext.refl NoB wr
      go_wp2_with (first
        | ((with_reducible show wpList _ _ _ (⟨_, .load 30 _, _, _, _, _⟩ :: _) _ _); refine wpList_load_arrm (by rfl) 30 _ rfl w.heap.size 2 rfl A _ (act_range (x22.obj HBX.out id)) Try.underlying30 rfl sA ?_)
        | (go_at_call 12; (with_reducible refine (add_bad v _ (HBAD.out.ext x22) g A.toArray HA'.out).mono ?_); rintro e W4 ⟨rfl, x4⟩; have x22 := x22.then x4; have c1 := act_gen (x22.obj HBX.out id))
        | (go_at_call 13; (with_reducible refine (has_bad v _ (HBAD.out.ext x22) g A.toArray HA'.out).mono ?_); rintro e W5 ⟨rfl, x5⟩; have x22 := x22.then x5; have c1 := act_gen (x22.obj HBX.out id))
        | (go_at_call 10; (with_reducible refine (forget_bad v _ (HBAD.out.ext x22) g).mono ?_); rintro e W6 ⟨rfl, x6⟩; have x22 := x22.then x6; have c1 := act_gen (x22.obj HBX.out id))
        | (go_at_call 15; (with_reducible refine (len_bad v _ (HBAD.out.ext x22) g).mono ?_); rintro e W7 ⟨rfl, x7⟩; have x22 := x22.then x7)
        | (go_at_call 18; (with_reducible refine (gens_bad v _ (HBAD.out.ext x22)).mono ?_); rintro e W8 ⟨rfl, x8⟩; have x22 := x22.then x8))
      exact ⟨⟨k + 1, by omega, by go_num, hx.then x22⟩, by simp [intOf]; omega⟩
    · have e1 : ¬ (k : Int) < 2 := by omega
      clear hq0 hs0 hb0
      go_wp2_with fail
      go_ret
      exact ⟨rfl, (X2.then hx).below (Nat.le_refl _) fun _ h => h.elim⟩
end Go.Proofs.Yteidkdbngjhopaa
