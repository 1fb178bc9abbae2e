/-
  The cache's Add: what it refuses.
-/
import Derived.Test.YteidkdbngjhopaaF
set_option linter.unusedVariables false
set_option linter.unusedSimpArgs false
attribute [local go_sem ↓] Go.wp_at_zero Go.wp_at_succ
namespace Go.Proofs.Yteidkdbngjhopaa
open Go.RowKit Go.Maps

/-- What Add answers. -/
def AddE (room low : Int) (E : List Ent) (g : Int) (t : List Int) : Int :=
  if g < 0 then 2 else if g < low then 13 else if (g, t) ∈ E then 11 else if room ≤ ((tagsOf E g).length : Int) ∨ (g ∉ gl E ∧ 16 ≤ (gl E).length) then 8 else 0
theorem add_neg {F : Nat → Prop} {w : World} {p : Nat} {room low : Int} {E : List Ent} (h : CS w p room low E F) {g : Int} {t : List Int} (hg : g < 0) (hA : (tvs t).length = 16) :
    Calls Try.prog 12 #[.pointer (some ⟨p, 0, none⟩), .int .i64 g, .agg (tv t)] w fun e w' => e = .returned (.int .i64 2) ∧ Ext NoB w w' := by
  obtain ⟨mb, G, f, hb, _⟩ := h.st
  have hx0 := Ext.alloc NoB w (.cells (tv t) 30)
  unfold tv at hx0 ⊢
  generalize tvs t = A at hx0 hA ⊢
  have HB := Lib.hid hb
  clear hb h
  go_enter Try.func12, Try.ntmps12
  go_wp2_with (first
    | (go_at_call 21; refine (good_yes p mb room low _ (hx0.obj HB.out id)).mono ?_; rintro e W1 ⟨rfl, m, rfl⟩))
  go_ret
  exact ⟨rfl, hx0.then (Ext.drewN NoB _ _)⟩
theorem add_old {F : Nat → Prop} {w : World} {p : Nat} {room low : Int} {E : List Ent} (h : CS w p room low E F) {g : Int} {t : List Int} (hg : 0 ≤ g) (hlo : g < low) :
    Calls Try.prog 12 #[.pointer (some ⟨p, 0, none⟩), .int .i64 g, .agg (tv t)] w fun e w' => e = .returned (.int .i64 13) ∧ Ext NoB w w' := by
  obtain ⟨mb, G, f, hb, _⟩ := h.st
  have hx0 := Ext.alloc NoB w (.cells (tv t) 30)
  unfold tv at hx0 ⊢
  generalize tvs t = A at hx0 ⊢
  have c1 := (three (hx0.obj hb id)).2.1
  have hg' : ¬ g < 0 := by omega
  have HB := Lib.hid hb
  clear hb h
  go_enter Try.func12, Try.ntmps12
  go_wp2_with (first
    | (go_at_call 21; refine (good_yes p mb room low _ (hx0.obj HB.out id)).mono ?_; rintro e W1 ⟨rfl, m, rfl⟩))
  go_ret
  exact ⟨rfl, hx0.then (Ext.drewN NoB _ _)⟩
theorem add_replay {F : Nat → Prop} {w : World} {p : Nat} {room low : Int} {E : List Ent} (h : CS w p room low E F) {g : Int} {t : List Int} (ht : Tg t) (hwf : (Lit.int .i64 g).wf = true) (hg : 0 ≤ g) (hlo : low ≤ g) (hin : (g, t) ∈ E) :
    Calls Try.prog 12 #[.pointer (some ⟨p, 0, none⟩), .int .i64 g, .agg (tv t)] w fun e w' => e = .returned (.int .i64 11) ∧ Ext NoB w w' := by
  have hh := fun W hW => has13 (w := W) (F := F) (p := p) (room := room) (low := low) (E := E) hW hwf ht
  simp only [hin, decide_true] at hh
  obtain ⟨mb, G, f, hb, _⟩ := h.st
  have hx0 := Ext.alloc NoB w (.cells (tv t) 30)
  have hbx := heapNew w (.cells (tv t) 30)
  have sA : (Try.prog.info? 30).map (·.size) = some (tv t).size := by rw [List.size_toArray, tvs_len ht]; exact size30
  generalize tv t = A at hh hx0 hbx sA ⊢
  have c1 := (three (hx0.obj hb id)).2.1
  have hg' : ¬ g < 0 := by omega
  have hlo' : ¬ g < low := by omega
  have HB := Lib.hid hb
  have HH := Lib.hid hh
  have HBX := Lib.hid hbx
  have HC := Lib.hid h
  clear hb h hh hbx hin
  go_enter Try.func12, Try.ntmps12
  go_wp2_with (first
    | (go_at_call 21; refine (good_yes p mb room low _ (hx0.obj HB.out id)).mono ?_; rintro e W1 ⟨rfl, m, rfl⟩)
    | ((with_reducible show wpList _ _ _ (⟨_, .load 30 _, _, _, _, _⟩ :: _) _ _); refine wpList_load_row rfl 30 _ rfl w.heap.size rfl 30 A (0, 0) _ HBX.out Try.underlying30 rfl sA ?_)
    | (go_at_call 13; (with_reducible refine (HH.out _ (HC.out.ext (hx0.then (Ext.drewN NoB _ m)) (fun _ _ h => h))).mono ?_); rintro e W2 ⟨rfl, x2⟩))
  go_ret
  exact ⟨rfl, (hx0.then (Ext.drewN NoB _ _)).then x2⟩
end Go.Proofs.Yteidkdbngjhopaa
