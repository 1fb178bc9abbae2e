/-
  The queue's Push.
-/
import Derived.Test.YtaphhadahajohaaI
set_option linter.unusedVariables false
set_option linter.unusedSimpArgs false
namespace Go.Proofs.Ytaphhadahajohaa
open Go.RowKit

theorem push_full {F : Nat → Prop} {w : World} {p : Nat} {room nn : Int} {L : List (It × List Int)} (h : QS w p room nn L F) (hr : 0 < room) (due dest : Int) (A : Option Addr) (l c : Nat) (hl : l ≤ 9223372036854775807) (hm : mayB due dest l = true) (hf : room ≤ L.length) :
    Calls Try.prog 9 #[.pointer (some ⟨p, 0, none⟩), .agg #[.int .i64 due, .int .i64 dest, .slice A l c]] w fun e w' => e = .returned (.int .i64 8) ∧ Ext NoB w w' := by
  obtain ⟨A1, k1, hb, _⟩ := h.cells
  have hmay := fun W => may19 due dest A l c hl W
  rw [hm] at hmay
  have HM := Lib.hid hmay
  have hge : room ≤ (L.length : Int) := hf
  clear hmay hm h hf
  go_enter Try.func9, Try.ntmps9
  go_upto_region 5 with (first
    | (go_at_call 18; refine (good_yes p room _ hr ((Ext.alloc NoB w _).cell (three hb).1 id)).mono ?_; rintro e W1 ⟨rfl, m, rfl⟩)
    | (go_at_call 19; refine (HM.out _).mono ?_; rintro e W2 ⟨rfl, x2⟩))
  have x3 : Ext NoB w W2 := ((Ext.alloc NoB w _).andDrewN m).then x2
  obtain ⟨c0, c1, c2⟩ := three (x3.obj hb id)
  clear x2
  go_quiet ((go_at_call 20; exact Calls.quiet_of (len20' p L.length k1 A1 _ c1)))
  go_wp2_with fail
  go_ret
  exact ⟨rfl, x3.andDrewN nq⟩

theorem El.shape {w : World} {v : Value} {bs : List Int} (h : El w v bs) : ∃ A c, v = .slice A bs.length c := by
  obtain ⟨n, h⟩ := h
  have hn : bs.length = n := by simpa using h.1
  obtain ⟨A, c, hv, _⟩ := h.slice
  exact ⟨A, c, by rw [hn]; exact hv⟩
/-- What a Push that is taken leaves. -/
def Pushed (w : World) (p : Nat) (room nn : Int) (L : List (It × List Int)) (F : Nat → Prop) (due dest : Int) (bs : List Int) (e : Ending) (w' : World) : Prop :=
  e = .returned (.int .i64 0) ∧ (∃ A c, QS w' p room (nn + 1) (L ++ [(⟨due, dest, A, bs.length, c, nn + 1⟩, bs)]) (fun k => F k ∨ w.heap.size ≤ k)) ∧ Ext F w w'
theorem keepP {W : World} {p bx : Nat} {a b c d0 d1 d2 : Value} {e1 e2 : TypeId} (h : W.heap[p]? = some (.cells #[a, b, c] e1 (0, 0)) ∧ W.heap[bx]? = some (.cells #[d0, d1, d2] e2 (0, 0))) (hne : bx ≠ p) (v : Value) :
    (W.setCell ⟨p, 1, none⟩ v).cell? ⟨bx, 0, none⟩ = some d0 ∧ (W.setCell ⟨p, 1, none⟩ v).cell? ⟨bx, 1, none⟩ = some d1 ∧ (W.setCell ⟨p, 1, none⟩ v).cell? ⟨bx, 2, none⟩ = some d2 ∧ (W.setCell ⟨p, 1, none⟩ v).cell? ⟨p, 2, none⟩ = some c := by
  have h1 : (W.setCell ⟨p, 1, none⟩ v).heap[p]? = some (.cells #[a, v, c] e1 (0, 0)) := by rw [heapSet h.1]; rfl
  have h2 : (W.setCell ⟨p, 1, none⟩ v).heap[bx]? = some (.cells #[d0, d1, d2] e2 (0, 0)) := by rw [heapSetNe _ hne]; exact h.2
  exact ⟨(three h2).1, (three h2).2.1, (three h2).2.2, (three h1).2.2⟩
theorem len20e (p n c : Nat) (A : Option Addr) (w : World) (c1 : w.cell? ⟨p, 1, none⟩ = some (.slice A n c)) :
    Calls Try.prog 20 #[.pointer (some ⟨p, 1, none⟩)] w fun e w' => e = .returned (.int .i64 n) ∧ w' = w := by
  go_enter Try.func20, Try.ntmps20
  go_wp2
  go_ret
  exact ⟨rfl, rfl⟩
theorem hd_push {W : World} {p : Nat} {room nn : Int} {A1 : Option Addr} {k1 n g o cap : Nat} {hs : List It} {x : It} (hp : W.heap[p]? = some (.cells #[.int .i64 room, .slice A1 n k1, .int .i64 nn] 53 (0, 0)))
    (hq : QRow W 59 4 (.slice (some ⟨g, o, none⟩) (hs.length + 1) cap) (hs.length + 1) (flat hs ++ x.cs)) : HL (W.setCell ⟨p, 1, none⟩ (.slice (some ⟨g, o, none⟩) (hs.length + 1) cap)) p room nn g o cap (hs ++ [x]) := by
  have hl : (hs ++ [x]).length = hs.length + 1 := by simp
  have hf : flat (hs ++ [x]) = flat hs ++ x.cs := by rw [flat_append]; simp [flat]
  refine ⟨by rw [heapSet hp, hl]; rfl, ?_⟩
  rw [hl, hf]
  exact hq.ext (Ext.setCell (F := fun k => k = p) _ _ _ fun _ => rfl) (fun k hk e => hq.neBlk hp (by decide) (by rw [hk, e]))
set_option maxHeartbeats 1600000 in
theorem push_ok {F : Nat → Prop} {w : World} {p : Nat} {room nn : Int} {L : List (It × List Int)} (h : QS w p room nn L F) (hr : 0 < room) (hr2 : room ≤ 4096) (hn0 : 0 ≤ nn) (hn1 : nn ≤ 1000000) (due dest : Int) (A : Option Addr) (c : Nat) (bs : List Int) (hb0 : Bytes w (.slice A bs.length c) bs) (hm : mayB due dest bs.length = true) (hf : L.length < room) :
    Calls Try.prog 9 #[.pointer (some ⟨p, 0, none⟩), .agg #[.int .i64 due, .int .i64 dest, .slice A bs.length c]] w (Pushed w p room nn L F due dest bs) := by
  obtain ⟨m1, m2, m3, m4, m5⟩ := (mayB_iff _ _ _).1 hm
  obtain ⟨sv, hs, hb, hq, hperm, hheap, hown⟩ := h.st
  obtain ⟨A1, k1, rfl, hk1, hk2, _⟩ := hq.slice
  have hlen : hs.length = L.length := by rw [hperm.length_eq, List.length_map]
  have hmay := fun W => may19 due dest A bs.length c (by omega) W
  rw [hm] at hmay
  have HM := Lib.hid hmay
  have hge : (hs.length : Int) < room := by omega
  have HQ := Lib.hid h
  have HP := Lib.hid hperm
  have HO := Lib.hid hown
  have HLEN := Lib.hid hlen
  have lp := blk_lt' hb
  clear hmay hm hperm hown hlen
  go_enter Try.func9, Try.ntmps9
  go_upto_region 5 with (first
    | (go_at_call 18; refine (good_yes p room _ hr ((Ext.alloc NoB w _).cell (three hb).1 id)).mono ?_; rintro e W1 ⟨rfl, m, rfl⟩)
    | (go_at_call 19; refine (HM.out _).mono ?_; rintro e W2 ⟨rfl, x2⟩))
  have x3 : Ext NoB w W2 := ((Ext.alloc NoB w _).andDrewN m).then x2
  have hbx : W2.heap[w.heap.size]? = some (.cells #[.int .i64 due, .int .i64 dest, .slice A bs.length c] 31 (0, 0)) := x2.obj (heapNew w _) id
  have hp2 := x3.obj hb id
  obtain ⟨c0, c1, c2⟩ := three hp2
  clear x2
  go_quiet ((go_at_call 20; exact Calls.quiet_of (len20' p hs.length k1 A1 _ c1)))
  have x4 := x3.andDrewN nq
  have hbx4 : (W2.drewN nq).heap[w.heap.size]? = some (.cells #[.int .i64 due, .int .i64 dest, .slice A bs.length c] 31 (0, 0)) := hbx
  have hp4 : (W2.drewN nq).heap[p]? = some (.cells #[.int .i64 room, .slice A1 hs.length k1, .int .i64 nn] 53 (0, 0)) := hp2
  generalize W2.drewN nq = W4 at x4 hbx4 hp4 ⊢
  clear x3 hbx hp2 c0 c1 c2
  have hb4 := hb0.ext x4 (fun _ _ _ h => h)
  obtain ⟨d0, d1, d2⟩ := three hbx4
  go_upto_region 8 with (first
    | (go_at_call 21; refine (clone_any _ bs _ hb4 (by omega)).mono ?_; rintro e W5 ⟨v5, rfl, hel, x5, own5⟩; obtain ⟨A5, c5, rfl⟩ := hel.shape; have f5 := freeOf (x5.obj hbx4 id) 2; have g5 := (three (x5.obj hbx4 id)).2.2))
  have hbx6 : (W5.setCell ⟨w.heap.size, 2, none⟩ (.slice A5 bs.length c5)).heap[w.heap.size]? = some (.cells #[.int .i64 due, .int .i64 dest, .slice A5 bs.length c5] 31 (0, 0)) := by rw [heapSet (x5.obj hbx4 id)]; rfl
  have hp6 : (W5.setCell ⟨w.heap.size, 2, none⟩ (.slice A5 bs.length c5)).heap[p]? = some (.cells #[.int .i64 room, .slice A1 hs.length k1, .int .i64 nn] 53 (0, 0)) := by rw [heapSetNe _ (by show p ≠ w.heap.size; omega)]; exact x5.obj hp4 id
  have x6 : Ext NoB w (W5.setCell ⟨w.heap.size, 2, none⟩ (.slice A5 bs.length c5)) := (x4.then x5).andSet _ _ fun h => absurd h (by show ¬ w.heap.size < w.heap.size; omega)
  have el6 : El (W5.setCell ⟨w.heap.size, 2, none⟩ (.slice A5 bs.length c5)) (.slice A5 bs.length c5) bs := hel.ext (Ext.setCell (F := fun k => k = w.heap.size) _ _ _ fun _ => rfl) (fun k hk e => by have := own5 k hk; have := x4.size; have := blk_lt' hbx4; omega)
  have own6 : ∀ k, (Value.slice A5 bs.length c5).ownBlock = some k → w.heap.size < k := fun k hk => by have := own5 k hk; have := blk_lt' hbx4; omega
  generalize W5.setCell ⟨w.heap.size, 2, none⟩ (.slice A5 bs.length c5) = W6 at hbx6 hp6 x6 el6 ⊢
  clear x4 x5 hel own5 f5 g5 d0 d1 d2 hbx4 hp4 hb4
  obtain ⟨c0, c1, c2⟩ := three hp6
  have fp2 := freeOf hp6 2
  go_upto_region 9 with (fail)
  have hp7 : (W6.setCell ⟨p, 2, none⟩ (.int .i64 (nn + 1))).heap[p]? = some (.cells #[.int .i64 room, .slice A1 hs.length k1, .int .i64 (nn + 1)] 53 (0, 0)) := by rw [heapSet hp6]; rfl
  have hbx7 : (W6.setCell ⟨p, 2, none⟩ (.int .i64 (nn + 1))).heap[w.heap.size]? = some (.cells #[.int .i64 due, .int .i64 dest, .slice A5 bs.length c5] 31 (0, 0)) := by rw [heapSetNe _ (by show w.heap.size ≠ p; omega)]; exact hbx6
  have x7 : Ext (fun k => k = p) w (W6.setCell ⟨p, 2, none⟩ (.int .i64 (nn + 1))) := (x6.mono fun _ _ h => h.elim).andSet _ _ fun _ => rfl
  have el7 := el6.ext (Ext.setCell (F := fun k => k = p) W6 ⟨p, 2, none⟩ (.int .i64 (nn + 1)) fun _ => rfl) (fun k hk e => by have := own6 k hk; omega)
  have hq7 := hq.ext x7 (fun k hk e => hq.neBlk hb (by decide) (by rw [hk, e]))
  generalize W6.setCell ⟨p, 2, none⟩ (.int .i64 (nn + 1)) = W7 at hp7 hbx7 x7 el7 hq7 ⊢
  clear hbx6 hp6 x6 el6 c0 c1 c2 fp2
  obtain ⟨c0, c1, c2⟩ := three hp7
  obtain ⟨d0, d1, d2⟩ := three hbx7
  have fp1 := freeOf hp7 1
  have hA := fun ob => (Ext.alloc NoB W7 ob).cell c1 id
  obtain ⟨news, hnews⟩ : ∃ news, news = [Value.int .i64 due, .int .i64 dest, .slice A5 bs.length c5, .int .i64 (nn + 1)] := ⟨_, rfl⟩
  have hq8 : QRow (W7.alloc (.cells #[.int .i64 due, .int .i64 dest, .slice A5 bs.length c5, .int .i64 (nn + 1)] 59)).drew 59 4 (.slice A1 hs.length k1) hs.length (flat hs) := hq7.ext (Ext.alloc NoB W7 _).andDrew (fun _ _ h => h)
  have hn8 : ∀ j u, [Value.int .i64 due, .int .i64 dest, .slice A5 bs.length c5, .int .i64 (nn + 1)][j]? = some u → (W7.alloc (.cells #[.int .i64 due, .int .i64 dest, .slice A5 bs.length c5, .int .i64 (nn + 1)] 59)).drew.cell? ((⟨W7.heap.size, 0, none⟩ : Addr).add j) = some u := fun j u hj => by
    have : (W7.alloc (.cells #[.int .i64 due, .int .i64 dest, .slice A5 bs.length c5, .int .i64 (nn + 1)] 59)).drew.heap[W7.heap.size]? = some (.cells #[.int .i64 due, .int .i64 dest, .slice A5 bs.length c5, .int .i64 (nn + 1)] 59 (0, 0)) := heapNew W7 _
    rw [add_none, cellOf this, Nat.zero_add]
    simpa using hj
  have ho8 : ∀ u ∈ [Value.int .i64 due, .int .i64 dest, .slice A5 bs.length c5, .int .i64 (nn + 1)], u.oneCell' = true := by intro u hu; simp at hu; rcases hu with rfl | rfl | rfl | rfl <;> rfl
  have hx8 : ∀ ob W, Ext (fun k => (Value.slice A1 hs.length k1).ownBlock = some k) (W7.alloc ob).drew W → W.heap[p]? = some (.cells #[.int .i64 room, .slice A1 hs.length k1, .int .i64 (nn + 1)] 53 (0, 0)) ∧ W.heap[w.heap.size]? = some (.cells #[.int .i64 due, .int .i64 dest, .slice A5 bs.length c5] 31 (0, 0)) := fun ob W x =>
    ⟨x.obj ((Ext.alloc NoB W7 ob).andDrew.obj hp7 id) (hq.neBlk hb (by decide)), x.obj ((Ext.alloc NoB W7 ob).andDrew.obj hbx7 id) (fun e => by have := hq.lt _ e; omega)⟩
  have n63 : hs.length + 1 ≤ maxLen := by unfold maxLen; omega
  have HX8 := Lib.hid hx8
  clear hx8 hnews
  go_region_law ((refine step_append_q (by rfl) _ _ 49 (by rfl) 59 4 48 (.agg #[.int .i64 0, .int .i64 0, .slice none 0 0, .int .i64 0]) Try.underlying49 Try.info59 rfl (by decide) (.slice A1 hs.length k1) hs.length (flat hs) (by rfl) hq8 ⟨W7.heap.size, 0, none⟩ 1 1 [Value.int .i64 due, .int .i64 dest, .slice A5 bs.length c5, .int .i64 (nn + 1)] (by rfl) rfl hn8 ho8 (by decide) n63 (by omega) ?_; intro g9 o9 cap9 W9 hq9 hx9 hg9; have c9 := (three (HX8.out _ _ hx9).1).2.1; have f9 := freeOf (HX8.out _ _ hx9).1 1))
  all_goals
    obtain ⟨hp9, hbx9⟩ := HX8.out _ _ hx9
    have hsh := hd_push (x := ⟨due, dest, A5, bs.length, c5, nn + 1⟩) hp9 hq9
    have xx9 : Ext F w (W9.setCell ⟨p, 1, none⟩ (.slice (some ⟨g9, o9, none⟩) (hs.length + 1) cap9)) := by
      refine ((x7.mono fun k _ h => by rw [h]; exact HQ.out.own).then (((Ext.alloc F W7 _).andDrew).trans hx9 (fun _ _ h => h) (fun k hk h => HO.out k h))).andSet _ _ fun _ => HQ.out.own
    have xq9 : Ext (fun k => k = p ∨ (Value.slice A1 hs.length k1).ownBlock = some k) w (W9.setCell ⟨p, 1, none⟩ (.slice (some ⟨g9, o9, none⟩) (hs.length + 1) cap9)) := by
      refine ((x7.mono fun k _ h => .inl h).then (((Ext.alloc _ W7 _).andDrew).trans hx9 (fun _ _ h => h) (fun k hk h => .inr h))).andSet _ _ fun _ => .inl rfl
    have hgq : (Value.slice A1 hs.length k1).ownBlock = some g9 ∨ w.heap.size ≤ g9 := hg9.imp id (fun h => by have := x7.size; have h' : W7.heap.size + 1 ≤ g9 := (by simpa using h); omega)
    have hg : F g9 ∨ w.heap.size ≤ g9 := hg9.imp (fun h => HO.out _ h) (fun h => by have := x7.size; have h' : W7.heap.size + 1 ≤ g9 := (by simpa using h); omega)
    have el9 : El (W9.setCell ⟨p, 1, none⟩ (.slice (some ⟨g9, o9, none⟩) (hs.length + 1) cap9)) (.slice A5 bs.length c5) bs := by
      have e1 := (el7.ext (Ext.alloc NoB W7 _).andDrew (fun _ _ h => h)).ext hx9 (fun k hk h => by have := own6 k hk; have := hq.lt k h; omega)
      exact e1.ext (Ext.setCell (F := fun k => k = p) _ _ _ fun _ => rfl) (fun k hk e => by have := own6 k hk; omega)
    generalize W9.setCell ⟨p, 1, none⟩ (.slice (some ⟨g9, o9, none⟩) (hs.length + 1) cap9) = W10 at hsh xx9 xq9 el9 ⊢
    clear hx9 hq9 hg9 c9 f9 hp9 hbx9 HX8 hA c0 c1 c2 d0 d1 d2 fp1 hq8 hn8 ho8 hp7 hbx7 x7 el7 hq7
    have hlx : (hs ++ [(⟨due, dest, A5, bs.length, c5, nn + 1⟩ : It)]).length = hs.length + 1 := by simp
    have hfix := fun W hW => fix22 p g9 o9 cap9 hs.length room (nn + 1) (hs ++ [⟨due, dest, A5, bs.length, c5, nn + 1⟩]) W hW hlx (by omega) (UpInv.start hheap)
    have hc1 := hsh.c1
    rw [hlx] at hc1
    have w1 : IntKind.i64.wrap (hs.length : Int) = (hs.length : Int) := IntWalk.i64_in _ (by omega)
    have hc1' : W10.drew.cell? ⟨p, 1, none⟩ = some (.slice (some ⟨g9, o9, none⟩) (hs.length + 1) cap9) := hc1
    have hsh' := hsh.ext (Ext.drew NoB W10) id id
    have HF := Lib.hid hfix
    clear hlx hfix
    go_wp2_with fail
    go_region_with (first
      | (go_at_call 20; (with_reducible refine (len20e p (hs.length + 1) cap9 _ _ hc1').mono ?_); rintro e W11 ⟨rfl, rfl⟩)
      | (go_at_call 22; (with_reducible refine (HF.out _ hsh').mono ?_); rintro e W12 ⟨rfl, hM⟩))
    go_wp2_with fail
    go_ret
    obtain ⟨hs', hl', xe, hpm, hhe⟩ := hM
    have xe2 : Ext (fun k => F k ∨ w.heap.size ≤ k) w W12 := (xx9.andDrew).trans xe (fun _ _ h => .inl h) (fun k hk h => by rw [h]; exact hg)
    have xe3 : Ext F w W12 := xe2.mono fun k hk h => h.resolve_right (by omega)
    have el12 := (el9.ext (Ext.drew NoB W10) (fun _ _ h => h)).ext xe (fun k hk h => by
      obtain ⟨n9, q9⟩ := el9
      exact q9.ne hsh.row (by decide) k hk (by rw [h]; rfl))
    refine ⟨rfl, ⟨A5, c5, ?_⟩, xe3⟩
    have hF12 := HQ.out
    refine ⟨⟨_, hs', hl'.blk, hl'.row, ?_, hhe, fun k hk => by simp [Value.ownBlock] at hk; rw [← hk]; exact hg⟩, fun e he => ?_, .inl hF12.own, ?_, fun e he => ?_⟩
    · refine hpm.trans ?_
      rw [List.map_append]
      exact HP.out.append_right _
    · rcases List.mem_append.1 he with he | he
      · obtain ⟨q1, q2⟩ := hF12.el e he
        have xq12 : Ext (fun k => k = p ∨ (Value.slice A1 hs.length k1).ownBlock = some k ∨ k = g9) w W12 := (xq9.andDrew).trans xe (fun _ _ h => h.elim .inl (fun h => .inr (.inl h))) (fun k hk h => .inr (.inr h))
        refine ⟨q1.ext xq12 fun k hk h => ?_, fun k hk => .inl (q2 k hk)⟩
        obtain ⟨n1, q⟩ := q1
        have hnown := q.ne hq (by decide) k hk
        rcases h with h | h | h
        · exact q.neBlk hb (by decide) (by rw [hk, h])
        · exact hnown h
        · rcases hgq with h2 | h2
          · exact hnown (by rw [h]; exact h2)
          · have := q.lt k hk; omega
      · simp at he
        subst he
        exact ⟨el12, fun k hk => .inr (by have := own6 k hk; omega)⟩
    · rw [List.pairwise_append]
      refine ⟨hF12.ord, List.pairwise_singleton _ _, fun a ha b hb => ?_⟩
      simp at hb
      subst hb
      have := (hF12.top a ha).1
      simp; omega
    · rcases List.mem_append.1 he with he | he
      · have := hF12.top e he
        exact ⟨by omega, this.2⟩
      · simp at he
        subst he
        exact ⟨by simp, m1⟩
end Go.Proofs.Ytaphhadahajohaa
