/-
  Draws; commands: user, bare.
-/
import Derived.Test.YtdibjnlmeiikmaaT
set_option linter.unusedVariables false
set_option linter.unusedSimpArgs false
namespace Go.Proofs.Ytdibjnlmeiikmaa
open Go.RowKit Go.Proofs

theorem chk_lay {layers : Int} {L : List Nd} (h : chk layers L = 0) : 1 ≤ layers ∧ layers ≤ 5 := by
  unfold chk at h
  by_cases h1 : layers < 1 ∨ 5 < layers
  · rw [if_pos h1] at h; exact absurd h (by decide)
  · omega
noncomputable def drw (layers : Int) (L : List Nd) : Int := if chk layers L = 0 then 2 * (layers - 1) else 0
theorem draws15 (layers : Int) (A : Option Addr) (c : Nat) (L : List Nd) (w : World) (hr : NRd w A c L) (hok : ∀ n ∈ L, NdOk n) (hlen : L.length ≤ 1000) :
    Calls Try.prog 15 #[dirv layers A L.length c] w fun e w' => e = .returned (.int .i64 (drw layers L)) ∧ Ext NoB w w' := by
  have hx := Ext.alloc NoB w (.cells #[.int .i64 layers, .slice A L.length c] 30)
  have hb := heapNew w (.cells #[.int .i64 layers, .slice A L.length c] 30)
  have hck := check10 layers A c L (w.alloc (.cells #[.int .i64 layers, .slice A L.length c] 30)) (hr.ext hx (fun _ _ _ h => h)) hok hlen
  have hcl : ∀ W, Ext NoB (w.alloc (.cells #[.int .i64 layers, .slice A L.length c] 30)) W → W.cell? ⟨w.heap.size, 0, none⟩ = some (.int .i64 layers) ∧ W.cell? ⟨w.heap.size, 1, none⟩ = some (.slice A L.length c) := fun W hW => by
    have := hW.obj hb id
    exact ⟨by rw [cellOf this]; rfl, by rw [cellOf this]; rfl⟩
  obtain ⟨c0, c1⟩ := hcl _ (Ext.refl _ _)
  have HCL := Lib.hid hcl
  unfold dirv at hck ⊢
  by_cases h0 : chk layers L = 0
  · obtain ⟨l1, l5⟩ := chk_lay h0
    have HE : Hid (drw layers L = 2 * (layers - 1)) := Lib.hid (by unfold drw; rw [if_pos h0])
    rw [h0] at hck
    have HC := Lib.hid hck
    clear hck hcl hb h0 hr
    go_enter Try.func15, Try.ntmps15
    go_wp2_with (go_at_call 10; (with_reducible refine HC.out.mono ?_); rintro e W1 ⟨rfl, x1⟩; obtain ⟨e0, e1⟩ := HCL.out _ x1)
    go_ret
    exact ⟨by rw [HE.out]; rfl, hx.then x1⟩
  · have HE : Hid (drw layers L = 0) := Lib.hid (by unfold drw; rw [if_neg h0])
    have HC := Lib.hid hck
    clear hck hcl hb hr
    generalize chk layers L = ck at *
    go_enter Try.func15, Try.ntmps15
    go_wp2_with (go_at_call 10; (with_reducible refine HC.out.mono ?_); rintro e W1 ⟨rfl, x1⟩; obtain ⟨e0, e1⟩ := HCL.out _ x1)
    go_ret
    exact ⟨by rw [HE.out]; rfl, hx.then x1⟩
/-- A command. -/
structure Cm where
  kind : Int
  next : Int
  delay : Int
  id : List Int
  len : id.length = 8
def cc (m : Cm) : List Value := .int .i64 m.kind :: .int .i64 m.next :: .int .i64 m.delay :: bys m.id
theorem cc_len (m : Cm) : (cc m).length = 11 := by simp [cc, bys_length, m.len]
theorem cc_one (m : Cm) : ∀ u ∈ cc m, u.oneCell' = true := by
  intro u hu
  rcases List.mem_cons.1 hu with rfl | hu
  · rfl
  rcases List.mem_cons.1 hu with rfl | hu
  · rfl
  rcases List.mem_cons.1 hu with rfl | hu
  · rfl
  · exact bys_one _ u hu
def Z8 : List Int := List.replicate 8 0
theorem Try.eql41 {a : List Int} (ha : a.length = 8) (w : World) : (binOp .eql 41 (Arr a) (.agg #[.int .u8 0, .int .u8 0, .int .u8 0, .int .u8 0, .int .u8 0, .int .u8 0, .int .u8 0, .int .u8 0])).run Try.prog w = .ok (.bool (a == Z8)) w :=
  run_binEql_bytes w 41 5 a Z8 (by rw [ha]; rfl) (by rw [ha]; exact Try.underlying41) Try.underlying5 (by kernel_rfl)
theorem Try.size41 : (Try.prog.info? 41).map (·.size) = some 8 := by kernel_rfl
theorem Try.size43 : (Try.prog.info? 43).map (·.size) = some 11 := by kernel_rfl
theorem cm_0 {w : World} {g o : Nat} {m : Cm} (h : w.rangeAt g o (cc m)) : w.cell? ⟨g, o, none⟩ = some (.int .i64 m.kind) := h 0 _ rfl
theorem cm_1 {w : World} {g o : Nat} {m : Cm} (h : w.rangeAt g o (cc m)) : w.cell? ⟨g, o + 1, none⟩ = some (.int .i64 m.next) := h 1 _ rfl
theorem cm_2 {w : World} {g o : Nat} {m : Cm} (h : w.rangeAt g o (cc m)) : w.cell? ⟨g, o + 2, none⟩ = some (.int .i64 m.delay) := h 2 _ rfl
theorem cm_3 {w : World} {g o : Nat} {m : Cm} (h : w.rangeAt g o (cc m)) : w.rangeAt g (o + 3) (bys m.id) := fun j v hj => by
  have := h (j + 3) v hj
  rw [Nat.add_assoc, Nat.add_comm 3 j]; exact this
def userC (m : Cm) : Bool := decide (0 ≤ m.next) && decide (m.next < 8)
def bareC (m : Cm) : Bool := decide (m.delay = 0) && (m.id == Z8)
theorem user47 (m : Cm) (w : World) : Calls Try.prog 47 #[.agg (cc m).toArray] w fun e w' => e = .returned (.bool (userC m)) ∧ Ext NoB w w' := by
  have hb := heapNew w (.cells (cc m).toArray 43)
  have hx := Ext.alloc NoB w (.cells (cc m).toArray 43)
  have c1 := cm_1 (nd_box hb)
  simp only [Nat.zero_add] at c1
  unfold userC
  clear hb
  generalize hV : (cc m).toArray = V at *
  clear hV
  by_cases h1 : 0 ≤ m.next
  · go_enter Try.func47, Try.ntmps47
    go_wp2_with fail
    go_ret
    exact ⟨by simp [h1], hx⟩
  · go_enter Try.func47, Try.ntmps47
    go_wp2_with fail
    go_ret
    exact ⟨by simp [h1]; omega, hx⟩
theorem bare48 (m : Cm) (w : World) : Calls Try.prog 48 #[.agg (cc m).toArray] w fun e w' => e = .returned (.bool (bareC m)) ∧ Ext NoB w w' := by
  have hb := heapNew w (.cells (cc m).toArray 43)
  have hx := Ext.alloc NoB w (.cells (cc m).toArray 43)
  have c2 := cm_2 (nd_box hb)
  have r3 := cm_3 (nd_box hb)
  simp only [Nat.zero_add] at c2 r3
  have heq := Try.eql41 m.len
  have s41 : (Try.prog.info? 41).map (·.size) = some (bys m.id).length := by rw [bys_length, m.len]; exact Try.size41
  unfold bareC
  clear hb
  generalize hV : (cc m).toArray = V at *
  clear hV
  by_cases h1 : m.delay = 0
  · go_enter Try.func48, Try.ntmps48
    go_wp2_with ((with_reducible show wpList _ _ _ (⟨_, .load 41 _, _, _, _, _⟩ :: _) _ _); refine wpList_load_arrm (by rfl) 41 _ rfl w.heap.size 3 rfl (bys m.id) _ r3 Try.underlying41 rfl s41 ?_)
    go_ret
    exact ⟨by simp [h1], hx⟩
  · have h2 : (m.delay == 0) = false := beq_eq_false_iff_ne.2 h1
    go_enter Try.func48, Try.ntmps48
    go_wp2_with fail
    go_ret
    exact ⟨by simp [h1], hx⟩
end Go.Proofs.Ytdibjnlmeiikmaa
