/-
  The document's Add: an entry is taken.
-/
import Derived.Test.YteidkdbngjhopaaVa
set_option linter.unusedVariables false
set_option linter.unusedSimpArgs false
namespace Go.Proofs.Yteidkdbngjhopaa
open Go.RowKit

theorem zero59 : (Value.agg #[.int .i64 0, .int .u8 0, .int .u8 0, .int .u8 0, .int .u8 0, .int .u8 0, .int .u8 0, .int .u8 0, .int .u8 0, .int .u8 0, .int .u8 0, .int .u8 0, .int .u8 0, .int .u8 0, .int .u8 0, .int .u8 0, .int .u8 0]).cells.size = 17 := rfl
theorem Try.info59 : (Try.prog.info? 59).map (fun i => (i.zero, i.size, i.bytes)) = some (some (.agg #[.int .i64 0, .int .u8 0, .int .u8 0, .int .u8 0, .int .u8 0, .int .u8 0, .int .u8 0, .int .u8 0, .int .u8 0, .int .u8 0, .int .u8 0, .int .u8 0, .int .u8 0, .int .u8 0, .int .u8 0, .int .u8 0, .int .u8 0]), 17, 24) := by kernel_rfl
theorem append_zero (w : World) (t ty e : TypeId) (g : Nat) (A : Option Addr) (c : Nat) (ht : Try.prog.underlying t = some (.slice e)) {i : TypeInfo} (hi : Try.prog.info? e = some i) :
    (Builtin.append_ #[t, t] ty #[.slice (some ⟨g, 0, none⟩) 0 0, .slice A 0 c]).run Try.prog w = .ok (.slice (some ⟨g, 0, none⟩) 0 0) w := by
  cases A
  · simp [Builtin.append_, run_underlying ht, sizeOf, typeInfo, hi, Builtin.lenOf, Builtin.firstCells, loadCells, loadCellsFrom, storeCells]
  · simp [Builtin.append_, run_underlying ht, sizeOf, typeInfo, hi, Builtin.lenOf, Builtin.firstCells, loadCells, loadCellsFrom, storeCells]
/-- append([]Entry{}, l...): a copy. -/
theorem wpList_cloneE {ops : Array Oper} {rest : List Oper} {o : Oper} {a : Act} {w : World} {Q : Exit → Act → World → Prop} (hgd : o.guard = none) (s x : Operand)
    (ho : o.op = .call { callee := .builtin .append, args := #[s, x], argTypes := #[26, 26] }) (gz : Nat) (hz : w.heap[gz]? = some (.cells #[] 59 (0, 0)))
    (A : Option Addr) (c : Nat) (E : List Ent) (hr : RE w (.slice A E.length c) E) (hl : E.length ≤ 1000000) (hs : a.eval s = .slice (some ⟨gz, 0, none⟩) 0 0) (hx : a.eval x = .slice A E.length c)
    (hK : ∀ g' o' c' w', RE w' (.slice (some ⟨g', o', none⟩) E.length c') E → Ext (fun k => k = gz) w w' → (g' = gz ∨ w.heap.size ≤ g') → wpList Try.prog ops Q rest (a.put o.dst (.slice (some ⟨g', o', none⟩) E.length c')) w') : wpList Try.prog ops Q (o :: rest) a w := by
  obtain ⟨i0, hi, _⟩ := info_parts Try.info59
  rcases Nat.eq_zero_or_pos E.length with h0 | h0
  · refine wpList_plain hgd fun K hK' => ?_
    rw [h0] at hx
    have hrun := append_zero w 26 o.type 59 gz A c Try.underlying26 hi
    have hE : E = [] := List.eq_nil_of_length_eq_zero h0
    unfold Oper.wp execOp
    simp only [ho, resolve, invoke, builtin, Sem.run_bind, Sem.run_pure, Result.andThen_ok, List.map_toArray, List.map_cons, List.map_nil, hs, hx, hrun]
    have := hK gz 0 0 w ⟨by rw [h0, hE]; exact ⟨by simp [flatE], .inr ⟨gz, 0, 0, #[], rfl, hz, Nat.le_refl _, Nat.zero_le _, by simp, by simp [flatE]⟩⟩, hr.ok⟩ (Ext.refl _ _) (.inl rfl)
    rw [h0] at this
    exact hK' _ _ this
  · obtain ⟨g1, o1, cap1, hv, _, _, hc, _⟩ := QRow.form hr.row h0
    injection hv with hv1 _ _
    subst hv1
    have hq : QRow w 59 17 (.slice (some ⟨gz, 0, none⟩) 0 0) 0 [] := ⟨by simp, .inr ⟨gz, 0, 0, #[], rfl, hz, Nat.le_refl _, Nat.zero_le _, by simp, by simp⟩⟩
    refine wpList_append_q hgd s x 26 ho 59 17 24 _ Try.underlying26 Try.info59 rfl (by decide) (.slice (some ⟨gz, 0, none⟩) 0 0) 0 [] hs hq ⟨g1, o1, none⟩ E.length c (flatE E) hx (flatE_length hr.ok) (fun j u hu => ?_) (flatE_one E) h0 (by unfold maxLen; omega) (by omega) (fun g off cap w' hq' hxx hg => ?_)
    · have hj : j < (flatE E).length := (List.getElem?_eq_some_iff.1 hu).1
      rw [flatE_length hr.ok] at hj
      rw [add_none, hc j hj, hu]
    · rw [Nat.zero_add] at hq' ⊢
      refine hK g off cap w' ⟨by simpa using hq', hr.ok⟩ (hxx.mono fun k _ h => by simp [Value.ownBlock] at h; omega) ?_
      rcases hg with hg | hg
      · simp [Value.ownBlock] at hg; exact .inl hg.symm
      · exact .inr hg
theorem AB.extF {F : Nat → Prop} {w W W' : World} {A : Option Addr} {n c : Nat} {m l : Int} {B : List Value} (h : AB w W A n c m l B) (hx : Ext F W W') (hF : ∀ k, F k → w.heap.size + 1 + 1 < k) : AB w W' A n c m l B :=
  ⟨hx.obj h.q (fun h => by have := hF _ h; omega), hx.obj h.t (fun h => by have := hF _ h; omega), hx.obj h.r (fun h => by have := hF _ h; omega), h.x.trans hx (fun _ _ h => h) (fun k hk h => by have := hF _ h; omega)⟩
/-- The entry's own field is written. -/
theorem AB.setq {w W : World} {A : Option Addr} {n c : Nat} {m l : Int} {B : List Value} (h : AB w W A n c m l B) (A' : Option Addr) (n' c' : Nat) : AB w (W.setCell ⟨w.heap.size, 0, none⟩ (.slice A' n' c')) A' n' c' m l B :=
  ⟨by rw [heapSet h.q]; rfl, by rw [heapSetNe _ (by simp)]; exact h.t, by rw [heapSetNe _ (by simp; omega)]; exact h.r, h.x.andSet _ _ fun h => absurd h (by simp)⟩
set_option maxHeartbeats 1600000 in
theorem radd_yes (A : Option Addr) (c : Nat) (most low g : Int) (t : List Int) (ht : Tg t) (hwf : (Lit.int .i64 g).wf = true) (E : List Ent) (w : World) (hr : RE w (.slice A E.length c) E) (h0 : ∀ e ∈ E, 0 ≤ e.1) (hlen : E.length ≤ 100000) (hE : AddE most low E g t = 0) :
    Calls Try.prog 11 #[rq A E.length c most low, .int .i64 g, .agg (tv t)] w fun e w' => ∃ A' c', e = .returned (.tuple #[rq A' (E.length + 1) c' most low, .int .i64 0]) ∧ RE w' (.slice A' (E.length + 1) c') (E ++ [(g, t)]) ∧ Ext NoB w w' ∧ ∀ k, (Value.slice A' (E.length + 1) c').ownBlock = some k → w.heap.size ≤ k := by
  have h1 : ¬ g < 0 := fun h => by unfold AddE at hE; rw [if_pos h] at hE; exact absurd hE (by decide)
  have h2 : ¬ g < low := fun h => by unfold AddE at hE; rw [if_neg h1, if_pos h] at hE; exact absurd hE (by decide)
  have h3 : (g, t) ∉ E := fun h => by unfold AddE at hE; rw [if_neg h1, if_neg h2, if_pos h] at hE; exact absurd hE (by decide)
  have h4 : ¬ (most ≤ ((tagsOf E g).length : Int) ∨ (g ∉ gl E ∧ 16 ≤ (gl E).length)) := fun h => by unfold AddE at hE; rw [if_neg h1, if_neg h2, if_neg h3, if_pos h] at hE; exact absurd hE (by decide)
  have h5 : ¬ most ≤ ((tagsOf E g).length : Int) := fun h => h4 (.inl h)
  have h6 : g ∉ gl E → (gl E).length < 16 := fun h => by
    rcases Nat.lt_or_ge (gl E).length 16 with h' | h'
    · exact h'
    · exact absurd (.inr ⟨h, h'⟩) h4
  have hb := AB.start w A E.length c most low (tvs t)
  have hc16 := fun W (hW : RE W (.slice A E.length c) E) => len16 A c most low g E W hW (by omega)
  have hc14 : ∀ W, RE W (.slice A E.length c) E → Calls Try.prog 14 #[rq A E.length c most low, .int .i64 g, .agg (tv t)] W fun e w' => e = .returned (.bool false) ∧ Ext NoB W w' := fun W hW => (has14 A c most low g t ht E W hW (by omega)).mono fun e w' h => by simpa only [h3, decide_false] using h
  have hc19 := fun W (hW : RE W (.slice A E.length c) E) => gens19 A c most low E W hW h0 (by omega)
  have hrx := fun W (hW : Ext NoB w W) => hr.ext hW (fun _ _ h => h)
  have lA := tvs_len ht
  have sA : (Try.prog.info? 30).map (·.size) = some (tvs t).toArray.size := by rw [List.size_toArray, lA]; exact size30
  have hA : (tv t).size = 16 := by rw [List.size_toArray]; exact lA
  unfold tv at *
  have HC16 := Lib.hid hc16
  have HC14 := Lib.hid hc14
  have HC19 := Lib.hid hc19
  have HRX := Lib.hid hrx
  have hgg := gl_len E
  have hent : EntOk (g, t) := ⟨hwf, ht⟩
  clear hc16 hc14 hc19 hrx hE h3 h4
  have oA := tvs_one t
  by_cases h7 : ((tagsOf E g).length : Int) = 0
  · have h8 := h6 (tags_zero.1 h7)
    have h9 : ¬ ((16 : Nat) : Int) ≤ ((gens E).length : Int) := by rw [gens_len]; omega
    rw [h7] at HC16 h5
    clear h6 h7 h8
    generalize hB : tvs t = B at *
    have HBB := Lib.hid hB
    have HB := Lib.hid hb
    clear hb hB
    go_enter Try.func11, Try.ntmps11
    go_upto_region 1 with (fail)
    generalize World.alloc (World.alloc (World.alloc w _) _) _ = W1 at HB ⊢
    obtain ⟨q0, q1, q2⟩ := three HB.out.q
    go_upto_region 10 with (first
      | (go_at_call 16; (with_reducible refine (HC16.out _ (HRX.out _ HB.out.x)).mono ?_); rintro e W2 ⟨rfl, x2⟩; have hb2 := HB.out.ext x2; obtain ⟨q0, q1, q2⟩ := three hb2.q)
      | ((with_reducible show wpList _ _ _ (⟨_, .load 30 _, _, _, _, _⟩ :: _) _ _); refine wpList_load_arr (by rfl) 30 _ rfl (w.heap.size + 1) rfl 30 B.toArray (0, 0) _ hb2.t Try.underlying30 rfl sA ?_)
      | (go_at_call 14; (with_reducible refine (HC14.out _ (HRX.out _ hb2.x)).mono ?_); rintro e W3 ⟨rfl, x3⟩; have hb3 := hb2.ext x3; obtain ⟨q0, q1, q2⟩ := three hb3.q)
      | (go_at_call 19; (with_reducible refine (HC19.out _ (HRX.out _ hb3.x)).mono ?_); rintro e W4 ⟨v4, rfl, hq4, x4, _⟩; obtain ⟨A4, c4, rfl, _⟩ := hq4.slice; have hb3 := hb3.ext x4; obtain ⟨q0, q1, q2⟩ := three hb3.q))
    have HB3 := Lib.hid hb3
    have hr3 := HRX.out _ hb3.x
    have x4 := Ext.alloc NoB W4 (.cells #[] 59)
    have hb4 := hb3.ext x4
    obtain ⟨q0, q1, q2⟩ := three hb4.q
    have hz4 := heapNew W4 (.cells #[] 59)
    have hzW := blk_lt' hb3.r
    have hzx := hb3.x.size
    clear hb2 hb3
    go_upto_region 11 with (at_builtin; refine wpList_cloneE rfl _ _ rfl W4.heap.size hz4 A c E (hr3.ext x4 (fun _ _ h => h)) (by omega) rfl rfl ?_; intro g5 o5 c5 W5 hr5 x5 hg5)
    have hb5 := hb4.extF x5 (fun k hk => by omega)
    have hg5' : w.heap.size + 1 + 1 < g5 := by
      rcases hg5 with h | h
      · omega
      · have : (W4.alloc (.cells #[] 59)).heap.size = W4.heap.size + 1 := by simp
        omega
    clear hr3 x4 hb4 hz4 x5 hg5 q0 q1 q2
    go_upto_region 12 with (first
      | ((with_reducible show wpList _ _ _ (⟨_, .load 30 _, _, _, _, _⟩ :: _) _ _); refine wpList_load_arr (by rfl) 30 _ rfl (w.heap.size + 1) rfl 30 B.toArray (0, 0) _ hb5.t Try.underlying30 rfl sA ?_)
      | ((with_reducible show wpList _ _ _ (⟨_, .build 59 _, _, _, _, _⟩ :: _) _ _); refine wpList_build59 rfl _ _ rfl g B lA oA rfl rfl ?_)
      | ((with_reducible show wpList _ _ _ (⟨_, .buildSlice 26 1 _, _, _, _, _⟩ :: _) _ _); refine wpList_slice59 rfl _ rfl (.int .i64 g :: B) (by simp [lA]) rfl ?_)
      | (at_builtin; refine wpList_append_q rfl _ _ 26 rfl 59 17 24 _ Try.underlying26 Try.info59 rfl (by decide) (.slice (some ⟨g5, o5, none⟩) E.length c5) E.length (flatE E) rfl (hr5.row.ext (Ext.alloc NoB W5 _) (fun _ _ h => h)) ⟨W5.heap.size, 0, none⟩ 1 1 (.int .i64 g :: B) rfl (by simp [lA]) (fun j u hj => by rw [add_none, cellOf (heapNew W5 _), Nat.zero_add, List.getElem?_toArray]; exact hj) (fun u hu => by rcases List.mem_cons.1 hu with rfl | hu; rfl; exact oA u hu) (by decide) (by unfold maxLen; omega) (by omega) ?_; intro g6 o6 c6 W6 hq6 x6 hg6; have hb6 := (hb5.ext (Ext.alloc NoB W5 (.cells (Value.int .i64 g :: B).toArray 59))).extF x6 (fun k hk => by simp [Value.ownBlock] at hk; omega); obtain ⟨q0, q1, q2⟩ := three hb6.q; have qf := freeOf hb6.q))
    have hb7 := hb6.setq (some ⟨g6, o6, none⟩) (E.length + 1) c6
    have hrow : RE W6 (.slice (some ⟨g6, o6, none⟩) (E.length + 1) c6) (E ++ [(g, t)]) := ⟨by
        have e1 : flatE E ++ (Value.int .i64 g :: B) = flatE (E ++ [(g, t)]) := by rw [← HBB.out]; simp [flatE]
        rw [e1] at hq6
        rw [List.length_append]
        exact hq6, fun e he => by
        rcases List.mem_append.1 he with he | he
        · exact hr5.ok e he
        · simp at he; subst he; exact hent⟩
    have hg6' : w.heap.size + 1 + 1 < g6 := by
      rcases hg6 with h | h
      · simp [Value.ownBlock] at h; omega
      · have := hb5.x.size
        have := blk_lt' hb5.r
        simp at h; omega
    have hrow7 := hrow.ext (Ext.setCell (F := fun k => k = w.heap.size) W6 ⟨w.heap.size, 0, none⟩ (.slice (some ⟨g6, o6, none⟩) (E.length + 1) c6) fun _ => rfl) (fun k hk h => by simp [Value.ownBlock] at hk; omega)
    generalize World.setCell W6 _ _ = W7 at hb7 hrow7 ⊢
    clear hrow hq6 x6 hg6 hb6 q0 q1 q2 qf hr5 hb5
    obtain ⟨q0, q1, q2⟩ := three hb7.q
    obtain ⟨r0, r1, r2⟩ := three hb7.r
    have rf := freeOf hb7.r
    go_wp2_with fail
    obtain ⟨f1, f2⟩ := hb7.fin (some ⟨g6, o6, none⟩) (E.length + 1) c6 most low
    refine radd_end rfl rfl rfl f1 ⟨some ⟨g6, o6, none⟩, c6, rfl, ?_, f2, fun k hk => by simp [Value.ownBlock] at hk; omega⟩
    exact hrow7.ext (((Ext.setCell (F := fun k => k = w.heap.size + 1 + 1) W7 _ _ fun _ => rfl).andSet _ _ fun _ => rfl).andSet _ _ fun _ => rfl) (fun k hk h => by simp [Value.ownBlock] at hk; omega)
  · clear h6
    generalize ((tagsOf E g).length : Int) = nt at *
    have e9 : (nt == 0) = false := beq_eq_false_iff_ne.2 h7
    generalize hB : tvs t = B at *
    have HBB := Lib.hid hB
    have HB := Lib.hid hb
    clear hb hB
    go_enter Try.func11, Try.ntmps11
    go_upto_region 1 with (fail)
    generalize World.alloc (World.alloc (World.alloc w _) _) _ = W1 at HB ⊢
    obtain ⟨q0, q1, q2⟩ := three HB.out.q
    go_upto_region 10 with (first
      | (go_at_call 16; (with_reducible refine (HC16.out _ (HRX.out _ HB.out.x)).mono ?_); rintro e W2 ⟨rfl, x2⟩; have hb2 := HB.out.ext x2; obtain ⟨q0, q1, q2⟩ := three hb2.q)
      | ((with_reducible show wpList _ _ _ (⟨_, .load 30 _, _, _, _, _⟩ :: _) _ _); refine wpList_load_arr (by rfl) 30 _ rfl (w.heap.size + 1) rfl 30 B.toArray (0, 0) _ hb2.t Try.underlying30 rfl sA ?_)
      | (go_at_call 14; (with_reducible refine (HC14.out _ (HRX.out _ hb2.x)).mono ?_); rintro e W3 ⟨rfl, x3⟩; have hb3 := hb2.ext x3; obtain ⟨q0, q1, q2⟩ := three hb3.q))
    have HB3 := Lib.hid hb3
    have hr3 := HRX.out _ hb3.x
    have x4 := Ext.alloc NoB W3 (.cells #[] 59)
    have hb4 := hb3.ext x4
    obtain ⟨q0, q1, q2⟩ := three hb4.q
    have hz4 := heapNew W3 (.cells #[] 59)
    have hzW := blk_lt' hb3.r
    have hzx := hb3.x.size
    clear hb2 hb3
    go_upto_region 11 with (at_builtin; refine wpList_cloneE rfl _ _ rfl W3.heap.size hz4 A c E (hr3.ext x4 (fun _ _ h => h)) (by omega) rfl rfl ?_; intro g5 o5 c5 W5 hr5 x5 hg5)
    have hb5 := hb4.extF x5 (fun k hk => by omega)
    have hg5' : w.heap.size + 1 + 1 < g5 := by
      rcases hg5 with h | h
      · omega
      · have : (W3.alloc (.cells #[] 59)).heap.size = W3.heap.size + 1 := by simp
        omega
    clear hr3 x4 hb4 hz4 x5 hg5 q0 q1 q2
    go_upto_region 12 with (first
      | ((with_reducible show wpList _ _ _ (⟨_, .load 30 _, _, _, _, _⟩ :: _) _ _); refine wpList_load_arr (by rfl) 30 _ rfl (w.heap.size + 1) rfl 30 B.toArray (0, 0) _ hb5.t Try.underlying30 rfl sA ?_)
      | ((with_reducible show wpList _ _ _ (⟨_, .build 59 _, _, _, _, _⟩ :: _) _ _); refine wpList_build59 rfl _ _ rfl g B lA oA rfl rfl ?_)
      | ((with_reducible show wpList _ _ _ (⟨_, .buildSlice 26 1 _, _, _, _, _⟩ :: _) _ _); refine wpList_slice59 rfl _ rfl (.int .i64 g :: B) (by simp [lA]) rfl ?_)
      | (at_builtin; refine wpList_append_q rfl _ _ 26 rfl 59 17 24 _ Try.underlying26 Try.info59 rfl (by decide) (.slice (some ⟨g5, o5, none⟩) E.length c5) E.length (flatE E) rfl (hr5.row.ext (Ext.alloc NoB W5 _) (fun _ _ h => h)) ⟨W5.heap.size, 0, none⟩ 1 1 (.int .i64 g :: B) rfl (by simp [lA]) (fun j u hj => by rw [add_none, cellOf (heapNew W5 _), Nat.zero_add, List.getElem?_toArray]; exact hj) (fun u hu => by rcases List.mem_cons.1 hu with rfl | hu; rfl; exact oA u hu) (by decide) (by unfold maxLen; omega) (by omega) ?_; intro g6 o6 c6 W6 hq6 x6 hg6; have hb6 := (hb5.ext (Ext.alloc NoB W5 (.cells (Value.int .i64 g :: B).toArray 59))).extF x6 (fun k hk => by simp [Value.ownBlock] at hk; omega); obtain ⟨q0, q1, q2⟩ := three hb6.q; have qf := freeOf hb6.q))
    have hb7 := hb6.setq (some ⟨g6, o6, none⟩) (E.length + 1) c6
    have hrow : RE W6 (.slice (some ⟨g6, o6, none⟩) (E.length + 1) c6) (E ++ [(g, t)]) := ⟨by
        have e1 : flatE E ++ (Value.int .i64 g :: B) = flatE (E ++ [(g, t)]) := by rw [← HBB.out]; simp [flatE]
        rw [e1] at hq6
        rw [List.length_append]
        exact hq6, fun e he => by
        rcases List.mem_append.1 he with he | he
        · exact hr5.ok e he
        · simp at he; subst he; exact hent⟩
    have hg6' : w.heap.size + 1 + 1 < g6 := by
      rcases hg6 with h | h
      · simp [Value.ownBlock] at h; omega
      · have := hb5.x.size
        have := blk_lt' hb5.r
        simp at h; omega
    have hrow7 := hrow.ext (Ext.setCell (F := fun k => k = w.heap.size) W6 ⟨w.heap.size, 0, none⟩ (.slice (some ⟨g6, o6, none⟩) (E.length + 1) c6) fun _ => rfl) (fun k hk h => by simp [Value.ownBlock] at hk; omega)
    generalize World.setCell W6 _ _ = W7 at hb7 hrow7 ⊢
    clear hrow hq6 x6 hg6 hb6 q0 q1 q2 qf hr5 hb5
    obtain ⟨q0, q1, q2⟩ := three hb7.q
    obtain ⟨r0, r1, r2⟩ := three hb7.r
    have rf := freeOf hb7.r
    go_wp2_with fail
    obtain ⟨f1, f2⟩ := hb7.fin (some ⟨g6, o6, none⟩) (E.length + 1) c6 most low
    refine radd_end rfl rfl rfl f1 ⟨some ⟨g6, o6, none⟩, c6, rfl, ?_, f2, fun k hk => by simp [Value.ownBlock] at hk; omega⟩
    exact hrow7.ext (((Ext.setCell (F := fun k => k = w.heap.size + 1 + 1) W7 _ _ fun _ => rfl).andSet _ _ fun _ => rfl).andSet _ _ fun _ => rfl) (fun k hk h => by simp [Value.ownBlock] at hk; omega)
end Go.Proofs.Yteidkdbngjhopaa
