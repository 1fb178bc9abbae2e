/-
  The cache's Add: a tag is taken.
-/
import Derived.Test.YteidkdbngjhopaaH
set_option linter.unusedVariables false
set_option linter.unusedSimpArgs false
attribute [local go_sem ↓] Go.wp_at_zero Go.wp_at_succ
namespace Go.Proofs.Yteidkdbngjhopaa
open Go.RowKit Go.Maps

theorem gl_add_mem {E : List Ent} {g : Int} {t : List Int} (hg : g ∈ gl E) : ∀ x, x ∈ gl (E ++ [(g, t)]) ↔ x ∈ gl E := fun x => by
  rw [gl_snoc (G := gl E) (fun _ => Iff.rfl)]
  constructor
  · rintro (h | h)
    · exact h
    · rw [h]; exact hg
  · exact .inl
/-- A tag more in a generation that is there. -/
theorem CS.addOld {F : Nat → Prop} {w W : World} {p mb : Nat} {room low : Int} {E : List Ent} {G : List Int} {f : Int → Nat} {g : Int} {t : List Int}
    (hb : w.heap[p]? = some (.cells #[.int .i64 room, .int .i64 low, .map (some mb)] 53 (0, 0))) (h2 : OM w mb G f) (h3 : ∀ g, g ∈ G ↔ g ∈ gl E) (h4 : ∀ g ∈ G, IM w (f g) (tagsOf E g) ∧ f g ≠ mb ∧ F (f g)) (h5 : ∀ g ∈ G, ∀ g' ∈ G, f g = f g' → g = g') (h6 : F mb) (h7 : F p) (h8 : ∀ e ∈ E, EntOk e)
    (hg : g ∈ G) (hok : EntOk (g, t)) (hx : Ext (fun k => k = f g) w W) (hne : f g ≠ p) (him : IM W (f g) (tagsOf E g ++ [t])) : CS W p room low (E ++ [(g, t)]) F := by
  refine ⟨⟨mb, G, f, hx.obj hb (fun e => hne e.symm), h2.ext hx (fun e => (h4 g hg).2.1 e.symm), fun x => by rw [h3, gl_add_mem ((h3 g).1 hg)], fun x hxG => ⟨?_, (h4 x hxG).2⟩, h5, h6⟩, h7, fun e he => ?_⟩
  · rw [tagsOf_snoc]
    by_cases hxg : g = x
    · subst hxg; rw [if_pos rfl]; exact him
    · rw [if_neg hxg]
      exact (h4 x hxG).1.ext hx (fun e => hxg (h5 x hxG g hg e).symm)
  · rcases List.mem_append.1 he with he | he
    · exact h8 e he
    · simp at he; subst he; exact hok
/-- The first tag of a generation. -/
theorem CS.addNew {F : Nat → Prop} {w W : World} {p mb nb : Nat} {room low : Int} {E : List Ent} {G : List Int} {f : Int → Nat} {g : Int} {t : List Int}
    (hb : w.heap[p]? = some (.cells #[.int .i64 room, .int .i64 low, .map (some mb)] 53 (0, 0))) (h2 : OM w mb G f) (h3 : ∀ g, g ∈ G ↔ g ∈ gl E) (h4 : ∀ g ∈ G, IM w (f g) (tagsOf E g) ∧ f g ≠ mb ∧ F (f g)) (h5 : ∀ g ∈ G, ∀ g' ∈ G, f g = f g' → g = g') (h6 : F mb) (h7 : F p) (h8 : ∀ e ∈ E, EntOk e)
    (hg : g ∉ G) (hok : EntOk (g, t)) (hx : Ext (fun k => k = mb) w W) (hne : mb ≠ p) (hnb : w.heap.size ≤ nb) (hom : OM W mb (G ++ [g]) (fun x => if x = g then nb else f x)) (him : IM W nb [t]) : CS W p room low (E ++ [(g, t)]) (fun k => F k ∨ w.heap.size ≤ k) := by
  have hmb := h2.lt
  refine ⟨⟨mb, G ++ [g], _, hx.obj hb (fun e => hne e.symm), hom, fun x => ?_, fun x hxG => ?_, fun x hxG y hyG hxy => ?_, .inl h6⟩, .inl h7, fun e he => ?_⟩
  · rw [gl_snoc h3]; simp
  · by_cases hxg : x = g
    · subst hxg
      simp only [if_true]
      refine ⟨?_, by omega, .inr hnb⟩
      rw [tagsOf_snoc, if_pos rfl, tagsOf_nil (fun h => hg ((h3 _).2 h))]
      exact him
    · have hxG' : x ∈ G := by simpa [hxg] using hxG
      simp only [hxg, if_false]
      refine ⟨?_, (h4 x hxG').2.1, .inl (h4 x hxG').2.2⟩
      rw [tagsOf_snoc, if_neg (fun e => hxg e.symm)]
      exact (h4 x hxG').1.ext hx (h4 x hxG').2.1
  · by_cases hxg : x = g
    · by_cases hyg : y = g
      · rw [hxg, hyg]
      · have hyG' : y ∈ G := by simpa [hyg] using hyG
        simp only [hxg, hyg, if_true, if_false] at hxy
        have := (h4 y hyG').1.lt
        omega
    · have hxG' : x ∈ G := by simpa [hxg] using hxG
      by_cases hyg : y = g
      · simp only [hxg, hyg, if_true, if_false] at hxy
        have := (h4 x hxG').1.lt
        omega
      · have hyG' : y ∈ G := by simpa [hyg] using hyG
        simp only [hxg, hyg, if_false] at hxy
        exact h5 x hxG' y hyG' hxy
  · rcases List.mem_append.1 he with he | he
    · exact h8 e he
    · simp at he; subst he; exact hok
theorem map_ne_box {w : World} {a b : Nat} {G : List Int} {f : Int → Nat} {cs : Array Value} {e : TypeId} {fr : Nat × Nat} (h : OM w a G f) (hb : w.heap[b]? = some (.cells cs e fr)) : a ≠ b := by
  rintro rfl
  obtain ⟨⟨D, ⟨es, clock, h1, _⟩, _⟩, _⟩ := h
  rw [h1] at hb
  cases hb
theorem set_ne_box {w : World} {a b : Nat} {T : List (List Int)} {cs : Array Value} {e : TypeId} {fr : Nat × Nat} (h : IM w a T) (hb : w.heap[b]? = some (.cells cs e fr)) : a ≠ b := by
  rintro rfl
  obtain ⟨⟨D, ⟨es, clock, h1, _⟩, _⟩, _⟩ := h
  rw [h1] at hb
  cases hb

set_option maxHeartbeats 1600000 in
theorem add_ok_old {F : Nat → Prop} {w : World} {p : Nat} {room low : Int} {E : List Ent} (h : CS w p room low E F) (hr4 : room ≤ 4096) {g : Int} {t : List Int} (ht : Tg t) (hwf : (Lit.int .i64 g).wf = true) (hg : 0 ≤ g) (hlo : low ≤ g) (hin : (g, t) ∉ E)
    (hroom : ((tagsOf E g).length : Int) < room) (hgl : g ∈ gl E) :
    Calls Try.prog 12 #[.pointer (some ⟨p, 0, none⟩), .int .i64 g, .agg (tv t)] w fun e w' => e = .returned (.int .i64 0) ∧ CS w' p room low (E ++ [(g, t)]) F ∧ Ext F w w' := by
  have hh := fun W hW => has13 (w := W) (F := F) (p := p) (room := room) (low := low) (E := E) hW hwf ht
  simp only [hin, decide_false] at hh
  have hst := h
  obtain ⟨⟨mb, G, f, hb, h2, h3, h4, h5, h6⟩, h7, h8⟩ := h
  have hgG : g ∈ G := (h3 g).2 hgl
  have hx0 := Ext.alloc NoB w (.cells (tv t) 30)
  have hbx := heapNew w (.cells (tv t) 30)
  have sA : (Try.prog.info? 30).map (·.size) = some (tvs t).length := by rw [tvs_len ht]; exact size30
  have sA' : (Try.prog.info? 30).map (·.size) = some (tv t).size := by rw [List.size_toArray]; exact sA
  have lA := tvs_len ht
  have oA := tvs_one t
  have u30 := Try.underlying30
  have hnb : f g ≠ p := set_ne_box (h4 g hgG).1 hb
  have hnx : f g < w.heap.size := (h4 g hgG).1.lt
  have hl : ∀ W, Ext (fun k => k = f g) w W → (Instr.lookup 51 (.map (some mb)) (.int .i64 g) false).run Try.prog W = .ok (.map (some (f g))) W := fun W hW => by
    have := (h2.ext hW (fun e => (h4 g hgG).2.1 e.symm)).look hwf
    unfold OMat at this
    rw [if_pos hgG] at this
    exact this
  have hn : ∀ W ty, Ext NoB w W → (Builtin.len_ #[60] ty #[.map (some (f g))]).run Try.prog W = .ok (.int .i64 (tagsOf E g).length) W := fun W ty hW => ((h4 g hgG).1.ext hW id).len ty
  have hup : ∀ W, Ext NoB w W → ∃ W', (Instr.mapUpdate 60 (.map (some (f g))) (.agg (tv t)) (.agg #[])).run Try.prog W = .ok () W' ∧ IM W' (f g) (tagsOf E g ++ [t]) ∧ Ext (fun k => k = f g) W W' := fun W hW =>
    ((h4 g hgG).1.ext hW id).add ht (fun hm => hin (mem_tagsOf.1 hm)) (by unfold maxLen; omega)
  have hfin : ∀ W, Ext (fun k => k = f g) w W → IM W (f g) (tagsOf E g ++ [t]) → CS W p room low (E ++ [(g, t)]) F ∧ Ext F w W := fun W hW hi =>
    ⟨CS.addOld hb h2 h3 h4 h5 h6 h7 h8 hgG ⟨hwf, ht⟩ hW hnb hi, hW.mono fun k _ hk => by rw [hk]; exact (h4 g hgG).2.2⟩
  unfold tv at *
  generalize tvs t = A at hh hx0 hbx sA sA' lA oA hup ⊢
  generalize f g = b at *
  have c1 := (three (hx0.obj hb id)).2.1
  have hg' : ¬ g < 0 := by omega
  have hlo' : ¬ g < low := by omega
  have hro' : ¬ room ≤ ((tagsOf E g).length : Int) := by omega
  have HB := Lib.hid hb
  have HH := Lib.hid hh
  have HBX := Lib.hid hbx
  have HC := Lib.hid hst
  have HL := Lib.hid hl
  have HN := Lib.hid hn
  have HUP := Lib.hid hup
  have HFIN := Lib.hid hfin
  have hq := eqMap60
  clear hb h2 h3 h4 h5 h6 h7 h8 hh hbx hin hl hn hup hfin hst hgG hgl
  go_enter Try.func12, Try.ntmps12
  go_upto_region 9 with (first
    | (go_at_call 21; refine (good_yes p mb room low _ (hx0.obj HB.out id)).mono ?_; rintro e W1 ⟨rfl, m, rfl⟩)
    | ((with_reducible show wpList _ _ _ (⟨_, .load 30 _, _, _, _, _⟩ :: _) _ _); refine wpList_load_row rfl 30 _ rfl w.heap.size rfl 30 A.toArray (0, 0) _ HBX.out Try.underlying30 rfl sA' ?_)
    | (go_at_call 13; (with_reducible refine (HH.out _ (HC.out.ext (hx0.then (Ext.drewN NoB _ m)) (fun _ _ h => h))).mono ?_); rintro e W2 ⟨rfl, x2⟩))
  have X2 := (hx0.then (Ext.drewN NoB _ m)).then x2
  have HBX2 := x2.obj ((Ext.drewN NoB _ m).obj HBX.out id) id
  obtain ⟨b0, b1, b2⟩ := three (X2.obj HB.out id)
  have hl1 := fun m => HL.out (W2.drewN m) ((X2.andDrewN m).mono fun _ _ h => h.elim)
  have hn1 := fun m ty => HN.out (W2.drewN m) ty (X2.andDrewN m)
  clear x2 c1 hx0
  go_quiet (fail)
  go_upto_region 14 with (fail)
  generalize hW3 : World.drewN W2 _ = W3
  have X3 : Ext NoB w W3 := by rw [← hW3]; exact X2.andDrewN _
  have hbx3 : W3.heap[w.heap.size]? = some (.cells A.toArray 30 (0, 0)) := by rw [← hW3]; exact HBX2
  clear hW3 b0 b1 b2 hl1 hn1 HBX2
  have hS : ∀ W, Ext (fun k => k = b) W3 W → (W.cell? ⟨p, 2, none⟩ = some (.map (some mb)) ∧ (Instr.lookup 51 (.map (some mb)) (.int .i64 g) false).run Try.prog W = .ok (.map (some b)) W ∧ W.rangeAt w.heap.size 0 A) ∧ Ext (fun k => k = b) W3 W := fun W hW =>
    ⟨⟨(three (hW.obj (X3.obj HB.out id) (fun e => hnb e.symm))).2.2, HL.out W (X3.trans hW (fun _ _ h => h.elim) (fun _ _ h => h)), rangeOf (hW.obj hbx3 (by omega))⟩, hW⟩
  obtain ⟨W5, hup, him, x5⟩ := HUP.out W3.drew X3.andDrew
  have hh0 := hS _ (Ext.drew _ W3)
  have hh5 := hS W5 ((Ext.drew _ W3).then x5)
  have HFIN5 := Lib.hid (HFIN.out W5 ((X3.andDrew.mono fun _ _ h => h.elim).then x5) him)
  clear hS hbx3 him x5
  go_region_held3 (fun W => (W.cell? ⟨p, 2, none⟩ = some (.map (some mb)) ∧ (Instr.lookup 51 (.map (some mb)) (.int .i64 g) false).run Try.prog W = .ok (.map (some b)) W ∧ W.rangeAt w.heap.size 0 A) ∧ Ext (fun k => k = b) W3 W)
    (first | exact hh0 | exact hh5 | assumption)
    (fail)
  all_goals (go_wp2_with fail; go_ret; exact ⟨rfl, HFIN5.out⟩)
end Go.Proofs.Yteidkdbngjhopaa
