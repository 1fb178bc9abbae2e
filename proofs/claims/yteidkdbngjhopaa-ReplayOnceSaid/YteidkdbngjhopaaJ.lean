/-
  The cache's Add: the first tag of a generation; Add as a whole.
-/
import Derived.Test.YteidkdbngjhopaaI
set_option linter.unusedVariables false
set_option linter.unusedSimpArgs false
attribute [local go_sem ↓] Go.wp_at_zero Go.wp_at_succ
namespace Go.Proofs.Yteidkdbngjhopaa
open Go.RowKit Go.Maps

set_option maxHeartbeats 1600000 in
theorem add_ok_new {F : Nat → Prop} {w : World} {p : Nat} {room low : Int} {E : List Ent} (h : CS w p room low E F) (hr1 : 1 ≤ room) (hr4 : room ≤ 4096) {g : Int} {t : List Int} (ht : Tg t) (hwf : (Lit.int .i64 g).wf = true) (hg : 0 ≤ g) (hlo : low ≤ g)
    (hgl : g ∉ gl E) (h16 : (gl E).length < 16) :
    Calls Try.prog 12 #[.pointer (some ⟨p, 0, none⟩), .int .i64 g, .agg (tv t)] w fun e w' => e = .returned (.int .i64 0) ∧ CS w' p room low (E ++ [(g, t)]) (fun k => F k ∨ w.heap.size ≤ k) ∧ Ext F w w' := by
  have hin : (g, t) ∉ E := fun hm => hgl (mem_gl.2 ⟨t, hm⟩)
  have hh := fun W hW => has13 (w := W) (F := F) (p := p) (room := room) (low := low) (E := E) hW hwf ht
  simp only [hin, decide_false] at hh
  have hst := h
  obtain ⟨⟨mb, G, f, hb, h2, h3, h4, h5, h6⟩, h7, h8⟩ := h
  have hgG : g ∉ G := fun hm => hgl ((h3 g).1 hm)
  have hGl : G.length < 16 := by rw [(perm_gl h2.nd h3).length_eq]; exact h16
  have hx0 := Ext.alloc NoB w (.cells (tv t) 30)
  have hbx := heapNew w (.cells (tv t) 30)
  have sA : (Try.prog.info? 30).map (·.size) = some (tvs t).length := by rw [tvs_len ht]; exact size30
  have sA' : (Try.prog.info? 30).map (·.size) = some (tv t).size := by rw [List.size_toArray]; exact sA
  have lA := tvs_len ht
  have oA := tvs_one t
  have u30 := Try.underlying30
  have hmp : mb ≠ p := map_ne_box h2 hb
  have hmw := h2.lt
  have hl : ∀ W, Ext NoB w W → (Instr.lookup 51 (.map (some mb)) (.int .i64 g) false).run Try.prog W = .ok (.map none) W := fun W hW => by
    have := (h2.ext hW id).look hwf
    unfold OMat at this
    rw [if_neg hgG] at this
    exact this
  have hn : ∀ W ty, (Builtin.len_ #[60] ty #[.map none]).run Try.prog W = .ok (.int .i64 0) W := fun W ty => len_none W ty
  have hk : ∀ W ty, Ext NoB w W → (Builtin.len_ #[51] ty #[.map (some mb)]).run Try.prog W = .ok (.int .i64 G.length) W := fun W ty hW => (h2.ext hW id).len ty
  have hst1 : ∀ W nb, Ext NoB w W → ∃ W', (Instr.mapUpdate 51 (.map (some mb)) (.int .i64 g) (.map (some nb))).run Try.prog W = .ok () W' ∧ OM W' mb (G ++ [g]) (fun x => if x = g then nb else f x) ∧ Ext (fun k => k = mb) W W' := fun W nb hW =>
    (h2.ext hW id).add hwf hgG (by unfold maxLen; omega) nb _ (fun x hx => if_neg (fun e => hgG (by rw [← e]; exact hx))) (if_pos rfl)
  have hlk : ∀ W nb, OM W mb (G ++ [g]) (fun x => if x = g then nb else f x) → (Instr.lookup 51 (.map (some mb)) (.int .i64 g) false).run Try.prog W = .ok (.map (some nb)) W := fun W nb hW => by
    have := hW.look hwf
    unfold OMat at this
    rw [if_pos (by simp)] at this
    simpa using this
  have hup : ∀ W nb, IM W nb [] → ∃ W', (Instr.mapUpdate 60 (.map (some nb)) (.agg (tv t)) (.agg #[])).run Try.prog W = .ok () W' ∧ IM W' nb [t] ∧ Ext (fun k => k = nb) W W' := fun W nb hW =>
    hW.add ht (by simp) (by unfold maxLen; simp)
  have hfin : ∀ W nb, w.heap.size ≤ nb → Ext (fun k => k = mb) w W → OM W mb (G ++ [g]) (fun x => if x = g then nb else f x) → IM W nb [t] → CS W p room low (E ++ [(g, t)]) (fun k => F k ∨ w.heap.size ≤ k) ∧ Ext F w W := fun W nb hnb hW ho hi =>
    ⟨CS.addNew hb h2 h3 h4 h5 h6 h7 h8 hgG ⟨hwf, ht⟩ hW hmp hnb ho hi, hW.mono fun k _ hk => by rw [hk]; exact h6⟩
  unfold tv at *
  generalize tvs t = A at hh hx0 hbx sA sA' lA oA hup ⊢
  have c1 := (three (hx0.obj hb id)).2.1
  have hg' : ¬ g < 0 := by omega
  have hlo' : ¬ g < low := by omega
  have hro' : ¬ room ≤ (0 : Int) := by omega
  have hG16 : ¬ (16 : Int) ≤ (G.length : Int) := by omega
  have HB := Lib.hid hb
  have HH := Lib.hid hh
  have HBX := Lib.hid hbx
  have HC := Lib.hid hst
  have HL := Lib.hid hl
  have HK := Lib.hid hk
  have HST := Lib.hid hst1
  have HLK := Lib.hid hlk
  have HUP := Lib.hid hup
  have HFIN := Lib.hid hfin
  have hq := eqMap60
  have hmm := @run_makeMap Try.prog
  clear hb h2 h3 h4 h5 h6 h7 h8 hh hbx hin hl hk hup hfin hst hgG hgl hst1 hlk
  go_enter Try.func12, Try.ntmps12
  go_upto_region 9 with (first
    | (go_at_call 21; refine (good_yes p mb room low _ (hx0.obj HB.out id)).mono ?_; rintro e W1 ⟨rfl, m, rfl⟩)
    | ((with_reducible show wpList _ _ _ (⟨_, .load 30 _, _, _, _, _⟩ :: _) _ _); refine wpList_load_row rfl 30 _ rfl w.heap.size rfl 30 A.toArray (0, 0) _ HBX.out Try.underlying30 rfl sA' ?_)
    | (go_at_call 13; (with_reducible refine (HH.out _ (HC.out.ext (hx0.then (Ext.drewN NoB _ m)) (fun _ _ h => h))).mono ?_); rintro e W2 ⟨rfl, x2⟩))
  have X2 := (hx0.then (Ext.drewN NoB _ m)).then x2
  have HBX2 := x2.obj ((Ext.drewN NoB _ m).obj HBX.out id) id
  obtain ⟨b0, b1, b2⟩ := three (X2.obj HB.out id)
  have hl1 := fun m => HL.out (W2.drewN m) (X2.andDrewN m)
  have hk1 := fun m ty => HK.out (W2.drewN m) ty (X2.andDrewN m)
  clear x2 c1 hx0
  go_quiet (fail)
  go_upto_region 13 with (fail)
  generalize hW3 : World.drewN W2 _ = W3
  have X3 : Ext NoB w W3 := by rw [← hW3]; exact X2.andDrewN _
  have hbx3 : W3.heap[w.heap.size]? = some (.cells A.toArray 30 (0, 0)) := by rw [← hW3]; exact HBX2
  clear hW3 b0 b1 b2 hl1 hk1 HBX2 X2 hn
  obtain ⟨c0, c1, c2⟩ := three (X3.obj HB.out id)
  have x4 := Ext.alloc NoB W3 (.map #[] 0)
  obtain ⟨W5, hr5, hom5, x5⟩ := HST.out (W3.alloc (.map #[] 0)) W3.heap.size (X3.then x4)
  have him5 : IM W5 W3.heap.size [] := (IM.new W3).ext x5 (fun e => by have := X3.size; omega)
  have hbx5 := x5.obj (x4.obj hbx3 id) (by omega)
  have X5 : Ext (fun k => k = mb) w W5 := ((X3.then x4).mono fun _ _ h => h.elim).then x5
  have hnb := X3.size
  have hblt := blk_lt' hbx3
  clear hbx3 x4 x5
  go_upto_region 14 with (fail)
  clear hr5 c0 c1 c2
  have hS : ∀ W, Ext (fun k => k = W3.heap.size) W5 W → (W.cell? ⟨p, 2, none⟩ = some (.map (some mb)) ∧ (Instr.lookup 51 (.map (some mb)) (.int .i64 g) false).run Try.prog W = .ok (.map (some W3.heap.size)) W ∧ W.rangeAt w.heap.size 0 A) ∧ Ext (fun k => k = W3.heap.size) W5 W := fun W hW =>
    ⟨⟨(three (hW.obj (X5.obj HB.out (fun e => hmp e.symm)) (fun e => by have := blk_lt' HB.out; omega))).2.2, HLK.out W _ (hom5.ext hW (by omega)), rangeOf (hW.obj hbx5 (by omega))⟩, hW⟩
  obtain ⟨W6, hup, him6, x6⟩ := HUP.out W5.drew W3.heap.size (him5.ext (Ext.drew NoB W5) id)
  have hh0 := hS _ (Ext.drew _ W5)
  have hh6 := hS W6 ((Ext.drew _ W5).then x6)
  have x56 : Ext (fun k => k = W3.heap.size) W5 W6 := (Ext.drew _ W5).then x6
  have HFIN6 := Lib.hid (HFIN.out W6 W3.heap.size hnb (X5.trans x56 (fun _ _ h => h) (fun k hk h => by omega)) (hom5.ext x56 (by omega)) him6)
  clear hS hbx5 him6 x6 x56 him5 hom5
  go_region_held3 (fun W => (W.cell? ⟨p, 2, none⟩ = some (.map (some mb)) ∧ (Instr.lookup 51 (.map (some mb)) (.int .i64 g) false).run Try.prog W = .ok (.map (some W3.heap.size)) W ∧ W.rangeAt w.heap.size 0 A) ∧ Ext (fun k => k = W3.heap.size) W5 W)
    (first | exact hh0 | exact hh6 | assumption)
    (fail)
  all_goals (go_wp2_with fail; go_ret; exact ⟨rfl, HFIN6.out⟩)
/-- Add. -/
def AddEnd (w : World) (p : Nat) (room low : Int) (E : List Ent) (F : Nat → Prop) (g : Int) (t : List Int) (e : Ending) (w' : World) : Prop :=
  e = .returned (.int .i64 (AddE room low E g t)) ∧ Ext F w w' ∧ CS w' p room low (if AddE room low E g t = 0 then E ++ [(g, t)] else E) (fun k => F k ∨ w.heap.size ≤ k)
theorem add12 {F : Nat → Prop} {w : World} {p : Nat} {room low : Int} {E : List Ent} (h : CS w p room low E F) (hr1 : 1 ≤ room) (hr4 : room ≤ 4096) {g : Int} {t : List Int} (ht : Tg t) (hwf : (Lit.int .i64 g).wf = true) :
    Calls Try.prog 12 #[.pointer (some ⟨p, 0, none⟩), .int .i64 g, .agg (tv t)] w (AddEnd w p room low E F g t) := by
  have hno : ∀ n : Int, n ≠ 0 → AddE room low E g t = n → ∀ e w', e = .returned (.int .i64 n) ∧ Ext NoB w w' → AddEnd w p room low E F g t e w' := fun n hn hE e w' ⟨h1, h2⟩ => by
    unfold AddEnd
    rw [hE, if_neg hn]
    exact ⟨h1, h2.mono fun _ _ h => h.elim, (h.ext h2 (fun _ _ h => h)).mono fun _ _ h => .inl h⟩
  by_cases h1 : g < 0
  · exact (add_neg h h1 (tvs_len ht)).mono (hno 2 (by decide) (by unfold AddE; rw [if_pos h1]))
  by_cases h2 : g < low
  · exact (add_old h (by omega) h2).mono (hno 13 (by decide) (by unfold AddE; rw [if_neg h1, if_pos h2]))
  by_cases h3 : (g, t) ∈ E
  · exact (add_replay h ht hwf (by omega) (by omega) h3).mono (hno 11 (by decide) (by unfold AddE; rw [if_neg h1, if_neg h2, if_pos h3]))
  by_cases h4 : room ≤ ((tagsOf E g).length : Int) ∨ (g ∉ gl E ∧ 16 ≤ (gl E).length)
  · exact (add_full h ht hwf (by omega) (by omega) h3 h4).mono (hno 8 (by decide) (by unfold AddE; rw [if_neg h1, if_neg h2, if_neg h3, if_pos h4]))
  · have hE : AddE room low E g t = 0 := by unfold AddE; rw [if_neg h1, if_neg h2, if_neg h3, if_neg h4]
    have h5 : ¬ room ≤ ((tagsOf E g).length : Int) := fun h => h4 (.inl h)
    by_cases h6 : g ∈ gl E
    · refine (add_ok_old h hr4 ht hwf (by omega) (by omega) h3 (by omega) h6).mono ?_
      rintro e w' ⟨k1, k2, k3⟩
      unfold AddEnd
      rw [hE, if_pos rfl]
      exact ⟨k1, k3, k2.mono fun _ _ h => .inl h⟩
    · have h7 : (gl E).length < 16 := by
        rcases Nat.lt_or_ge (gl E).length 16 with h | h
        · exact h
        · exact absurd (.inr ⟨h6, h⟩) h4
      refine (add_ok_new h hr1 hr4 ht hwf (by omega) (by omega) h6 h7).mono ?_
      rintro e w' ⟨k1, k2, k3⟩
      unfold AddEnd
      rw [hE, if_pos rfl]
      exact ⟨k1, k3, k2⟩
end Go.Proofs.Yteidkdbngjhopaa
