/-
  The cache's Add: no room.
-/
import Derived.Test.YteidkdbngjhopaaG
set_option linter.unusedVariables false
set_option linter.unusedSimpArgs false
attribute [local go_sem ↓] Go.wp_at_zero Go.wp_at_succ
namespace Go.Proofs.Yteidkdbngjhopaa
open Go.RowKit Go.Maps

set_option maxHeartbeats 800000 in
theorem add_full {F : Nat → Prop} {w : World} {p : Nat} {room low : Int} {E : List Ent} (h : CS w p room low E F) {g : Int} {t : List Int} (ht : Tg t) (hwf : (Lit.int .i64 g).wf = true) (hg : 0 ≤ g) (hlo : low ≤ g) (hin : (g, t) ∉ E)
    (hfull : room ≤ ((tagsOf E g).length : Int) ∨ (g ∉ gl E ∧ 16 ≤ (gl E).length)) :
    Calls Try.prog 12 #[.pointer (some ⟨p, 0, none⟩), .int .i64 g, .agg (tv t)] w fun e w' => e = .returned (.int .i64 8) ∧ Ext NoB w w' := by
  have hh := fun W hW => has13 (w := W) (F := F) (p := p) (room := room) (low := low) (E := E) hW hwf ht
  simp only [hin, decide_false] at hh
  obtain ⟨mb, r, hb, hl, hn, hk, _, hr⟩ := h.look hwf
  have hx0 := Ext.alloc NoB w (.cells (tv t) 30)
  have hbx := heapNew w (.cells (tv t) 30)
  have sA : (Try.prog.info? 30).map (·.size) = some (tv t).size := by rw [List.size_toArray, tvs_len ht]; exact size30
  generalize tv t = A at hh hx0 hbx sA ⊢
  have c1 := (three (hx0.obj hb id)).2.1
  have hg' : ¬ g < 0 := by omega
  have hlo' : ¬ g < low := by omega
  have HB := Lib.hid hb
  have HH := Lib.hid hh
  have HBX := Lib.hid hbx
  have HC := Lib.hid h
  have HL := Lib.hid hl
  have HN := Lib.hid hn
  have HK := Lib.hid hk
  have hq := eqMap60
  clear hb h hh hbx hin hl hn hk
  by_cases hroom : room ≤ ((tagsOf E g).length : Int)
  · clear hfull hr
    go_enter Try.func12, Try.ntmps12
    go_upto_region 9 with (first
      | (go_at_call 21; refine (good_yes p mb room low _ (hx0.obj HB.out id)).mono ?_; rintro e W1 ⟨rfl, m, rfl⟩)
      | ((with_reducible show wpList _ _ _ (⟨_, .load 30 _, _, _, _, _⟩ :: _) _ _); refine wpList_load_row rfl 30 _ rfl w.heap.size rfl 30 A (0, 0) _ HBX.out Try.underlying30 rfl sA ?_)
      | (go_at_call 13; (with_reducible refine (HH.out _ (HC.out.ext (hx0.then (Ext.drewN NoB _ m)) (fun _ _ h => h))).mono ?_); rintro e W2 ⟨rfl, x2⟩))
    have X2 := (hx0.then (Ext.drewN NoB _ m)).then x2
    obtain ⟨b0, b1, b2⟩ := three (X2.obj HB.out id)
    have hl1 := fun m => HL.out (W2.drewN m) (X2.andDrewN m)
    have hn1 := fun m ty => HN.out (W2.drewN m) ty (X2.andDrewN m)
    clear x2 c1 hx0
    go_quiet (fail)
    clear hl1 hn1
    go_wp2_with fail
    go_ret
    exact ⟨rfl, X2.andDrewN _⟩
  · have h2 : g ∉ gl E ∧ 16 ≤ (gl E).length := hfull.resolve_left hroom
    have hrn : r = none := hr.2 h2.1
    subst hrn
    have h3 : (16 : Int) ≤ ((gl E).length : Int) := by omega
    clear hfull hr h2
    go_enter Try.func12, Try.ntmps12
    go_upto_region 9 with (first
      | (go_at_call 21; refine (good_yes p mb room low _ (hx0.obj HB.out id)).mono ?_; rintro e W1 ⟨rfl, m, rfl⟩)
      | ((with_reducible show wpList _ _ _ (⟨_, .load 30 _, _, _, _, _⟩ :: _) _ _); refine wpList_load_row rfl 30 _ rfl w.heap.size rfl 30 A (0, 0) _ HBX.out Try.underlying30 rfl sA ?_)
      | (go_at_call 13; (with_reducible refine (HH.out _ (HC.out.ext (hx0.then (Ext.drewN NoB _ m)) (fun _ _ h => h))).mono ?_); rintro e W2 ⟨rfl, x2⟩))
    have X2 := (hx0.then (Ext.drewN NoB _ m)).then x2
    obtain ⟨b0, b1, b2⟩ := three (X2.obj HB.out id)
    have hl1 := fun m => HL.out (W2.drewN m) (X2.andDrewN m)
    have hn1 := fun m ty => HN.out (W2.drewN m) ty (X2.andDrewN m)
    have hk1 := fun m ty => HK.out (W2.drewN m) ty (X2.andDrewN m)
    clear x2 c1 hx0
    go_quiet (fail)
    go_wp2_with fail
    go_ret
    exact ⟨rfl, X2.andDrewN _⟩
end Go.Proofs.Yteidkdbngjhopaa
