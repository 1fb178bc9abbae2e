/-
  The cache's Has.
-/
import Derived.Test.YteidkdbngjhopaaE
set_option linter.unusedVariables false
set_option linter.unusedSimpArgs false
attribute [local go_sem ↓] Go.wp_at_zero Go.wp_at_succ
namespace Go.Proofs.Yteidkdbngjhopaa
open Go.RowKit Go.Maps

theorem rangeOf {w : World} {g : Nat} {cs : List Value} {e : TypeId} {fr : Nat × Nat} (h : w.heap[g]? = some (.cells cs.toArray e fr)) : w.rangeAt g 0 cs := fun j v hv => by
  rw [cellOf h, Nat.zero_add, List.getElem?_toArray]; exact hv
theorem size30 : (Try.prog.info? 30).map (·.size) = some 16 := by kernel_rfl
theorem tvs_one (t : List Int) : ∀ v ∈ tvs t, v.oneCell' = true := by
  intro v hv
  obtain ⟨x, _, rfl⟩ := List.mem_map.1 hv
  rfl
theorem tvs_len {t : List Int} (h : Tg t) : (tvs t).length = 16 := by simp [h.len]
set_option maxHeartbeats 1600000 in
theorem has13 {F : Nat → Prop} {w : World} {p : Nat} {room low : Int} {E : List Ent} (h : CS w p room low E F) {g : Int} (hg : (Lit.int .i64 g).wf = true) {t : List Int} (ht : Tg t) :
    Calls Try.prog 13 #[.pointer (some ⟨p, 0, none⟩), .int .i64 g, .agg (tv t)] w fun e w' => e = .returned (.bool (decide ((g, t) ∈ E))) ∧ Ext NoB w w' := by
  obtain ⟨mb, r, hb, hl, _, _, hh, _⟩ := h.look hg
  have hh' := fun W (hx : Ext NoB w W) => hh W t hx ht
  have hx0 := Ext.alloc NoB w (.cells (tv t) 30)
  have hbx := heapNew w (.cells (tv t) 30)
  have hS : ∀ W, Ext NoB (w.alloc (.cells (tv t) 30)) W → (W.cell? ⟨p, 2, none⟩ = some (.map (some mb)) ∧ (Instr.lookup 51 (.map (some mb)) (.int .i64 g) false).run Try.prog W = .ok (.map r) W ∧ W.rangeAt w.heap.size 0 (tvs t) ∧ (Instr.lookup 60 (.map r) (.agg (tv t)) true).run Try.prog W = .ok (.tuple #[.agg #[], .bool (decide ((g, t) ∈ E))]) W) ∧ Ext NoB (w.alloc (.cells (tv t) 30)) W := fun W hx =>
    ⟨⟨(three ((hx0.then hx).obj hb id)).2.2, hl W (hx0.then hx), rangeOf (hx.obj hbx id), hh' W (hx0.then hx)⟩, hx⟩
  have sA : (Try.prog.info? 30).map (·.size) = some (tvs t).length := by rw [tvs_len ht]; exact size30
  have lA := tvs_len ht
  have oA := tvs_one t
  have u30 := Try.underlying30
  have HB := Lib.hid hb
  have HS := Lib.hid hS
  unfold tv at hS HS hx0 ⊢
  generalize tvs t = A at hS HS hx0 sA lA oA ⊢
  generalize decide ((g, t) ∈ E) = res at hS HS ⊢
  clear h hb hl hh hh' hS hbx
  go_enter Try.func13, Try.ntmps13
  go_wp2_with (first
    | (go_at_call 21; refine (good_yes p mb room low _ (hx0.obj HB.out id)).mono ?_; rintro e W1 ⟨rfl, hm⟩; have x1 : Ext NoB (w.alloc (.cells A.toArray 30)) W1 := (by obtain ⟨m, rfl⟩ := hm; exact Ext.drewN NoB _ m); clear hm))
  have hh0 := HS.out _ x1.andDrew
  go_region_held3 (fun W => (W.cell? ⟨p, 2, none⟩ = some (.map (some mb)) ∧ (Instr.lookup 51 (.map (some mb)) (.int .i64 g) false).run Try.prog W = .ok (.map r) W ∧ W.rangeAt w.heap.size 0 A ∧ (Instr.lookup 60 (.map r) (.agg A.toArray) true).run Try.prog W = .ok (.tuple #[.agg #[], .bool res]) W) ∧ Ext NoB (w.alloc (.cells A.toArray 30)) W)
    (first | exact hh0 | assumption | (exact HS.out _ (Ext.andAlloc (And.right (by assumption)) _)))
    (fail)
  all_goals (go_wp2_with fail; go_ret; exact ⟨rfl, hx0.then ((x1.andAlloc _).andDrew)⟩)
end Go.Proofs.Yteidkdbngjhopaa
