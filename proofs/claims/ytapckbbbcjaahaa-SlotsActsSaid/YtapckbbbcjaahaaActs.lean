/- The law SlotsActs returns true: the walk. -/
import Derived.Test.YtapckbbbcjaahaaOrder
import Derived.Deep.CutRange
import Derived.Deep.RegionHeld3
set_option linter.unusedVariables false
namespace Go.Proofs.Ytapckbbbcjaahaa
open Go.RowKit

/-- The reference's Slots in a block. -/
def MAt (w : World) (b : Nat) (p ph m : Int) (A : Option Addr) (n c : Nat) (last : Int) : Prop := w.heap[b]? = some (.cells #[.int .i64 p, .int .i64 ph, .int .i64 m, .slice A n c, .int .i64 last] 30 (0, 0))
/-- The Slots and the reference's behind some rounds. -/
def ActsRel (w : World) (sb mb : Nat) (p ph m : Int) (wr : World) : Prop :=
  ∃ L nx F G A c, SlotsAt wr sb p ph m L nx F ∧ L.length ≤ m ∧ MAt wr mb p ph m A L.length c (nx - 1) ∧ RLine wr (.slice A L.length c) L G ∧ (∀ k, F k → w.heap.size ≤ k ∧ k ≠ mb ∧ ¬ G k) ∧ ¬ G mb ∧ w.heap.size ≤ mb ∧ Below w.heap.size w wr
theorem rnew_b (p ph m : Int) (w : World) : Calls Try.prog 10 #[.int .i64 p, .int .i64 ph, .int .i64 m] w fun e w' => e = .returned (rv p ph m none 0 0 (-1)) ∧ Ext NoB w w' := rnew_any p ph m w

theorem RLine.shrink {w : World} {v : Value} {L : List (List Int)} {G : Nat → Prop} (h : RLine w v L G) : RLine w v L (fun k => G k ∧ k < w.heap.size) := by
  obtain ⟨vs, hq, he, hs⟩ := h
  refine ⟨vs, hq, fun i u bs h1 h2 => ⟨(he i u bs h1 h2).1, ?_⟩, fun k hk => ⟨hs k hk, hq.lt k hk⟩⟩
  obtain ⟨hb, hg⟩ := he i u bs h1 h2
  by_cases h0 : bs = []
  · exact .inl h0
  · rcases hg with hg | hg
    · exact .inl hg
    · refine .inr fun k hk => ⟨hg k hk, ?_⟩
      rcases hb with ⟨rfl, rfl⟩ | ⟨a, c, rfl, _, _, hc⟩
      · exact absurd rfl h0
      · have hpos : 0 < bs.length := List.length_pos_iff.2 h0
        have := World.block_lt_of_cell? _ _ (hc 0 hpos)
        have e : (a.add 0).block = a.block := by simp [Addr.add]
        have e2 : a.block = k := by simpa [Value.ownBlock] using hk
        omega
theorem Bytes.inW {w : World} {v : Value} {bs : List Int} (hb : Bytes w v bs) : bs = [] ∨ ∀ k, v.ownBlock = some k → k < w.heap.size := by
  by_cases h0 : bs = []
  · exact .inl h0
  · refine .inr fun k hk => ?_
    rcases hb with ⟨rfl, rfl⟩ | ⟨a, c, rfl, _, _, hc⟩
    · exact absurd rfl h0
    · have hpos : 0 < bs.length := List.length_pos_iff.2 h0
      have := World.block_lt_of_cell? _ _ (hc 0 hpos)
      have e : (a.add 0).block = a.block := by simp [Addr.add]
      have e2 : a.block = k := by simpa [Value.ownBlock] using hk
      omega
theorem MAt.ext {F : Nat → Prop} {w w' : World} {b : Nat} {p ph m last : Int} {A : Option Addr} {n c : Nat} (h : MAt w b p ph m A n c last) (hx : Ext F w w') (hF : ¬ F b) : MAt w' b p ph m A n c last := hx.obj h hF
theorem MAt.set {w : World} {b : Nat} {p ph m last last' : Int} {A A' : Option Addr} {n c n' c' : Nat} (h : MAt w b p ph m A n c last) :
    MAt (((((w.setCell ⟨b, 0, none⟩ (.int .i64 p)).setCell ⟨b, 1, none⟩ (.int .i64 ph)).setCell ⟨b, 2, none⟩ (.int .i64 m)).setCell ⟨b, 3, none⟩ (.slice A' n' c')).setCell ⟨b, 4, none⟩ (.int .i64 last')) b p ph m A' n' c' last' := by
  unfold MAt
  rw [heapSet (heapSet (heapSet (heapSet (heapSet h _ _) _ _) _ _) _ _) _ _]
  rfl
theorem keep10 {W W' : World} (hx : Ext NoB W W') {a0 a1 a2 a3 a4 a5 a6 a7 a8 a9 : Addr} {v0 v1 v2 v3 v4 v5 v6 v7 v8 v9 : Value}
    (h : W.cell? a0 = some v0 ∧ W.cell? a1 = some v1 ∧ W.cell? a2 = some v2 ∧ W.cell? a3 = some v3 ∧ W.cell? a4 = some v4 ∧ W.cell? a5 = some v5 ∧ W.cell? a6 = some v6 ∧ W.cell? a7 = some v7 ∧ W.cell? a8 = some v8 ∧ W.cell? a9 = some v9) :
    W'.cell? a0 = some v0 ∧ W'.cell? a1 = some v1 ∧ W'.cell? a2 = some v2 ∧ W'.cell? a3 = some v3 ∧ W'.cell? a4 = some v4 ∧ W'.cell? a5 = some v5 ∧ W'.cell? a6 = some v6 ∧ W'.cell? a7 = some v7 ∧ W'.cell? a8 = some v8 ∧ W'.cell? a9 = some v9 := by
  obtain ⟨h0, h1, h2, h3, h4, h5, h6, h7, h8, h9⟩ := h
  exact ⟨hx.cell h0 fun h => h, hx.cell h1 fun h => h, hx.cell h2 fun h => h, hx.cell h3 fun h => h, hx.cell h4 fun h => h, hx.cell h5 fun h => h, hx.cell h6 fun h => h, hx.cell h7 fun h => h, hx.cell h8 fun h => h, hx.cell h9 fun h => h⟩
theorem atL_len (p ph : Int) (L : List (List Int)) (nx now m : Int) (h : L.length ≤ m) : (atL p ph L nx now).length ≤ m := by
  unfold atL
  split
  · exact h
  · split
    · exact h
    · rw [List.length_tail]; omega
section
variable {W : World} {sb mb ab : Nat} {p ph m last now : Int} {As A : Option Addr} {n cs c : Nat}
theorem room10 (hp : 0 < p) (hm : 1 ≤ m) (hm2 : m ≤ 256) (hn : n ≤ m)
    (h : W.cell? ⟨sb, 0, none⟩ = some (.int .i64 p) ∧ W.cell? ⟨sb, 1, none⟩ = some (.int .i64 ph) ∧ W.cell? ⟨sb, 2, none⟩ = some (.int .i64 m) ∧ W.cell? ⟨sb, 3, none⟩ = some (.slice As n cs) ∧ W.cell? ⟨mb, 0, none⟩ = some (.int .i64 p) ∧ W.cell? ⟨mb, 1, none⟩ = some (.int .i64 ph) ∧ W.cell? ⟨mb, 2, none⟩ = some (.int .i64 m) ∧ W.cell? ⟨mb, 3, none⟩ = some (.slice A n c) ∧ W.cell? ⟨mb, 4, none⟩ = some (.int .i64 last) ∧ W.cell? ⟨ab, 1, none⟩ = some (.int .i64 now)) :
    Calls Try.prog 15 #[.pointer (some ⟨sb, 0, none⟩)] W fun e w' => e = .returned (.int .i64 (m - n)) ∧ Ext NoB W w' :=
  (room_yes sb p m As n cs W hp (by omega) hm2 (by omega) h.1 h.2.2.1 h.2.2.2.1).mono fun e w' ⟨h1, k, h2⟩ => ⟨h1, by rw [h2]; exact Ext.drewN _ _ _⟩
theorem is10 (hp : 0 < p) (hp2 : p ≤ 64)
    (h : W.cell? ⟨sb, 0, none⟩ = some (.int .i64 p) ∧ W.cell? ⟨sb, 1, none⟩ = some (.int .i64 ph) ∧ W.cell? ⟨sb, 2, none⟩ = some (.int .i64 m) ∧ W.cell? ⟨sb, 3, none⟩ = some (.slice As n cs) ∧ W.cell? ⟨mb, 0, none⟩ = some (.int .i64 p) ∧ W.cell? ⟨mb, 1, none⟩ = some (.int .i64 ph) ∧ W.cell? ⟨mb, 2, none⟩ = some (.int .i64 m) ∧ W.cell? ⟨mb, 3, none⟩ = some (.slice A n c) ∧ W.cell? ⟨mb, 4, none⟩ = some (.int .i64 last) ∧ W.cell? ⟨ab, 1, none⟩ = some (.int .i64 now)) :
    Calls Try.prog 16 #[.pointer (some ⟨sb, 0, none⟩), .int .i64 now] W fun e w' => e = .returned (.bool (isB p ph now)) ∧ Ext NoB W w' :=
  (is_yes sb p ph now W hp hp2 h.1 h.2.1).mono fun e w' ⟨h1, k, h2⟩ => ⟨h1, by rw [h2]; exact Ext.drewN _ _ _⟩
end
set_option maxHeartbeats 1600000 in
set_option maxRecDepth 100000 in
theorem acts_walk (p ph m : Int) (A0 : Option Addr) (n c0 : Nat) (w : World) (ha : Acts w A0 n) :
    Calls Try.prog 3 #[.agg #[.int .i64 p, .int .i64 ph, .int .i64 m], .slice A0 n c0] w fun e w' => e = .returned (.bool true) ∧ Below w.heap.size w w' := by
  have hR := right_any p ph m
  have Ha := Lib.hid ha
  have hn63 := ha.1
  clear ha
  cases hr : rightB p ph m with
  | false =>
    rw [hr] at hR
    go_enter Try.func3, Try.ntmps3
    go_wp2_with (first | (go_at_call 7; refine (alive_any _).mono ?_; rintro e w1 ⟨rfl, hx⟩; have hx' := Ext.ofBelow hx NoB; have t := hx'.obj (heapNew w _) (fun h => h); obtain ⟨e0, e1, e2⟩ := three t) | (go_at_call 8; refine (new_no p ph m _ hr).mono ?_; rintro e w2 ⟨rfl, rfl⟩) | (go_at_call 9; refine (hR _).mono ?_; rintro e w2 ⟨rfl, rfl⟩) | (go_at_call 10; refine (rnew_b p ph m _).mono ?_; rintro e w3 ⟨rfl, hx3⟩))
    refine wp_loop_once ?_
    go_wp2
    go_ret
    exact ⟨rfl, ((((Ext.alloc NoB w _).then hx').then hx3).andAlloc _).below (Nat.le_refl _) fun _ h => h.elim⟩
  | true =>
    obtain ⟨h1, h2, h3, h4, h5, h6⟩ := (rightB_iff p ph m).1 hr
    rw [hr] at hR
    have hN := fun W => new_yes p ph m W h1 h2 h3 h4 h5 h6
    go_enter Try.func3, Try.ntmps3
    go_wp2_with (first | (go_at_call 7; refine (alive_any _).mono ?_; rintro e w1 ⟨rfl, hx⟩; have hx' := Ext.ofBelow hx NoB; have t := hx'.obj (heapNew w _) (fun h => h); obtain ⟨e0, e1, e2⟩ := three t) | (go_at_call 8; refine (hN _).mono ?_; rintro e w2 ⟨rfl, hw2⟩; have hx2 : Ext NoB w1 w2 := (by rw [hw2]; exact Ext.alloc _ _ _); have q2 := (by rw [hw2]; exact heapNew w1 _ : w2.heap[w1.heap.size]? = some (.cells #[.int .i64 p, .int .i64 ph, .int .i64 m, .slice none 0 0, .int .i64 0] 50)); obtain ⟨i0, i1, i2⟩ := three (hx2.obj t (fun h => h)); clear hw2) | (go_at_call 9; refine (hR _).mono ?_; rintro e w4 ⟨rfl, rfl⟩) | (go_at_call 10; refine (rnew_b p ph m _).mono ?_; rintro e w3 ⟨rfl, hx3⟩))
    have hst : ActsRel w w1.heap.size w3.heap.size p ph m (w3.alloc (.cells #[.int .i64 p, .int .i64 ph, .int .i64 m, .slice none 0 0, .int .i64 (-1)] 30)) := by
      have q3 := hx3.obj q2 (fun h => h)
      have q4 := (Ext.alloc NoB w3 (.cells #[.int .i64 p, .int .i64 ph, .int .i64 m, .slice none 0 0, .int .i64 (-1)] 30)).obj q3 (fun h => h)
      have hlt := blk_lt' q3
      have hltw : w.heap.size < w1.heap.size := blk_lt' t
      refine ⟨[], 0, fun k => k = w1.heap.size, fun _ => False, none, 0, ⟨_, ⟨q4⟩, Line.nil _ _, rfl⟩, by simp; omega, heapNew _ _, ⟨[], QRow.nil _ _ _, fun i u bs h => by simp at h, fun k h => by simp [Value.ownBlock] at h⟩, fun k hk => ⟨by omega, by omega, fun h => h⟩, fun h => h, by omega, ?_⟩
      exact (((((Ext.alloc NoB w _).then hx').then hx2).then hx3).andAlloc _).below (Nat.le_refl _) fun _ h => h.elim
    clear hx hx' t e0 e1 e2 i0 i1 i2 q2 hx2 hx3 hN
    clear hR hr
    go_loopw [7] (fun i wr => ∃ k : Nat, k ≤ n ∧ k ≤ 80 ∧ i = .int .i64 k ∧ ActsRel w w1.heap.size w3.heap.size p ph m wr) (fun i _ => n - (intOf i).toNat)
    case atStart => exact ⟨0, Nat.zero_le _, Nat.zero_le _, rfl, hst⟩
    case round =>
      clear hst
      obtain ⟨k, hkn, hk80, rfl, L, nx, F, G, Am, cm, hs, hLm, hm, hl, hF, hGm, hmb, hbl⟩ := hrel
      rcases Nat.lt_or_ge k n with hlt | hge
      · rcases Nat.lt_or_ge k 80 with hlt2 | hge2
        · obtain ⟨b, o, kd, now, dr, v, bs, rfl, ha, c0, c1, c2, c3, hbw, hb0⟩ := Acts.at' Ha.out hbl hlt
          obtain ⟨A', c', rfl, hc1, hc2, _⟩ := ha.bytes.shape
          have hk0 := ha.kd0
          have hk1 := ha.kd1
          have hd0 := ha.dr0
          have hd1 := ha.dr1
          have hn0 := ha.now0
          have hn1 := ha.now1
          have hW : Ext NoB wr (wr.alloc (.cells #[.int .u8 kd, .int .i64 now, .int .u8 dr, .slice A' bs.length c'] 34)) := Ext.alloc _ _ _
          have hbal : w1.heap.size < wr.heap.size := hs.lt
          have hmlt : w3.heap.size < wr.heap.size := blk_lt' hm
          have hba : F w1.heap.size := by obtain ⟨_, _, _, h⟩ := hs; exact h
          by_cases hbig : 5000 < bs.length
          · have hb' : (5000 : Int) < (bs.length : Int) := by omega
            go_wp2
            exact ⟨⟨k + 1, by omega, by omega, by go_num, L, nx, F, G, Am, cm, hs.ext hW fun _ _ h => h, hLm, hm.ext hW fun h => h, hl.ext hW fun _ _ h => h, hF, hGm, hmb, hbl.trans (hW.below hbl.size fun _ h => h.elim)⟩, by simp [intOf]; omega⟩
          · have hb' : (bs.length : Int) ≤ 5000 := by omega
            have hs1 : SlotsAt (wr.alloc (.cells #[.int .u8 kd, .int .i64 now, .int .u8 dr, .slice A' bs.length c'] 34)) w1.heap.size p ph m L nx (fun k => F k ∧ k < wr.heap.size) := (hs.mono fun k hk h => ⟨h, hk⟩).ext hW fun _ _ h => h
            have hb1 : Bytes (wr.alloc (.cells #[.int .u8 kd, .int .i64 now, .int .u8 dr, .slice A' bs.length c'] 34)) (.slice A' bs.length c') bs := ha.bytes.ext hW fun _ _ _ h => h
            have hl1 := hl.ext hW (fun _ _ h => h)
            have hm1 := hm.ext hW (fun h => h)
            have hact := heapNew wr (.cells #[.int .u8 kd, .int .i64 now, .int .u8 dr, .slice A' bs.length c'] 34)
            by_cases hkd : kd % 2 = 1
            · have hkb : (kd % 2 == 1) = true := by simp [hkd]
              obtain ⟨e0, e1, e2, e3⟩ := four hact
              obtain ⟨⟨i0, i1, i2, i3, i4⟩, j0, j1, j2, j3, j4⟩ := five hm1
              clear hkd
              have hG0 : bs = [] ∨ ∀ k, (Value.slice A' bs.length c').ownBlock = some k → G k ∨ k < w.heap.size := hb0.inW.imp id fun h k hk => .inr (h k hk)
              go_wp2_with fail
              refine (rpush_any p ph m (nx - 1) Am cm L (fun k => G k ∨ k < w.heap.size) A' c' bs (wr.alloc (.cells #[.int .u8 kd, .int .i64 now, .int .u8 dr, .slice A' bs.length c'] 34)) h5 h6 (hl1.mono fun k h => .inl h) hb1 hG0).mono ?_
              rintro e w4 ⟨A2, c2', rfl, hl2, hx4⟩
              have hm2 := hm1.ext hx4 (fun h => h)
              have hs2 := hs1.ext hx4 (fun _ _ h => h)
              have hact2 := hx4.obj hact (fun h => h)
              have hsz4 : wr.heap.size + 1 ≤ w4.heap.size := by have := hx4.size; simp at this; exact this
              have hmlt4 : w3.heap.size < w4.heap.size := by omega
              have hX4 : Ext NoB wr w4 := hW.then hx4
              clear i0 i1 i2 i3 i4 j0 j1 j2 j3 j4 e0 e1 e2 e3
              obtain ⟨e0, e1, e2, e3⟩ := four hact2
              obtain ⟨⟨i0, i1, i2, i3, i4⟩, j0, j1, j2, j3, j4⟩ := five hm2
              obtain ⟨L2, hL2⟩ : ∃ L2, L2 = pushL bs m L := ⟨_, rfl⟩
              obtain ⟨E2, hE2⟩ : ∃ E2, E2 = pushE bs m L := ⟨_, rfl⟩
              have hL2m : L2.length ≤ m := by rw [hL2]; exact pushL_len bs m L hLm
              rw [← hL2, ← hE2]
              rw [← hL2] at hl2
              have HL2 := Lib.hid hL2
              have HE2 := Lib.hid hE2
              clear hL2 hE2 hs1 hm1 hl1 hact hx4 hb1 ha c0 c1 c2 c3
              go_upto_region 15 with (fail)
              obtain ⟨W5, hW5⟩ : ∃ W5, W5 = ((((((w4.setCell ⟨w3.heap.size, 0, none⟩ (.int .i64 p)).setCell ⟨w3.heap.size, 1, none⟩ (.int .i64 ph)).setCell ⟨w3.heap.size, 2, none⟩ (.int .i64 m)).setCell ⟨w3.heap.size, 3, none⟩ (.slice A2 L2.length c2')).setCell ⟨w3.heap.size, 4, none⟩ (.int .i64 (nx - 1))).alloc (.cells #[.int .i64 p, .int .i64 ph, .int .i64 m, .slice A2 L2.length c2', .int .i64 (nx - 1)] 30)) := ⟨_, rfl⟩
              rw [← hW5]
              have x5 : Ext (fun k => k = w3.heap.size) w4 W5 := by rw [hW5]; exact (set5 (fun k => k = w3.heap.size) w4 w3.heap.size _ _ _ _ _ fun _ => rfl).andAlloc _
              have m5 : MAt W5 w3.heap.size p ph m A2 L2.length c2' (nx - 1) := by rw [hW5]; exact (MAt.set hm2).ext (Ext.alloc NoB _ _) fun h => h
              have a5 := x5.obj hact2 (by omega)
              have s5 := hs2.ext x5 (fun k hk h => (hF k hk.1).2.1 h)
              have l5 := hl2.ext x5 (fun k hk h => by
                subst h
                rcases hk with (h | h) | h
                · exact hGm h
                · omega
                · simp at h; omega)
              have sz5 := x5.size
              clear hW5 e0 e1 e2 e3 i0 i1 i2 i3 i4 j0 j1 j2 j3 j4 hact2 hm2 hs2 hl2
              obtain ⟨e0, e1, e2, e3⟩ := four a5
              have X5 : Ext (fun k => k = w3.heap.size) wr W5 := hX4.trans x5 (fun _ _ h => h.elim) fun _ _ h => h
              have bl5 : Below w.heap.size w W5 := hbl.trans (X5.below hbl.size fun k h => by rw [h]; exact hmb)
              go_wp2_with fail
              refine (push_any _ p ph m nx L _ _ bs W5 (by omega) h5 h6 hLm s5 (hb0.ext (Ext.ofBelow bl5 NoB) fun _ _ _ h => h) (by omega)).mono ?_
              rintro e w6 ⟨rfl, s6, x6⟩
              rw [← HE2.out]
              rw [← HL2.out] at s6
              have m6 := m5.ext x6 (fun h => (hF _ h.1).2.1 rfl)
              have a6 := x6.obj a5 (fun h => by have := h.2; omega)
              have l6 := l5.shrink.ext x6 (fun k hk h => by
                rcases hk.1 with (h1 | h1) | h1
                · exact (hF k h.1).2.2 h1
                · have := (hF k h.1).1; omega
                · have := h.2; simp at h1; omega)
              go_upto_region 22 with (fail)
              obtain ⟨As, cs, q0, q1, q2, q3⟩ : ∃ As cs, w6.cell? ⟨w1.heap.size, 0, none⟩ = some (.int .i64 p) ∧ w6.cell? ⟨w1.heap.size, 1, none⟩ = some (.int .i64 ph) ∧ w6.cell? ⟨w1.heap.size, 2, none⟩ = some (.int .i64 m) ∧ w6.cell? ⟨w1.heap.size, 3, none⟩ = some (.slice As L2.length cs) := by
                obtain ⟨sv, ho, ⟨vs, hq, _⟩, _⟩ := s6
                obtain ⟨As, cs, rfl, _⟩ := hq.slice
                exact ⟨As, cs, ho.c0, ho.c1, ho.c2, ho.c3⟩
              obtain ⟨⟨i0, i1, i2, i3, i4⟩, _⟩ := five m6
              obtain ⟨_, z1, _, _⟩ := four a6
              have hp0 : 0 < p := by omega
              have hwrap : IntKind.i64.wrap (m - (L2.length : Int)) = m - (L2.length : Int) := IntWalk.i64_in _ (by omega)
              have hne0 : (m - (L2.length : Int) != m - (L2.length : Int)) = false := by simp
              have hib : (isB p ph now != isB p ph now) = false := by simp
              clear e0 e1 e2 e3
              go_region_held3 (fun W => W.cell? ⟨w1.heap.size, 0, none⟩ = some (.int .i64 p) ∧ W.cell? ⟨w1.heap.size, 1, none⟩ = some (.int .i64 ph) ∧ W.cell? ⟨w1.heap.size, 2, none⟩ = some (.int .i64 m) ∧ W.cell? ⟨w1.heap.size, 3, none⟩ = some (.slice As L2.length cs) ∧ W.cell? ⟨w3.heap.size, 0, none⟩ = some (.int .i64 p) ∧ W.cell? ⟨w3.heap.size, 1, none⟩ = some (.int .i64 ph) ∧ W.cell? ⟨w3.heap.size, 2, none⟩ = some (.int .i64 m) ∧ W.cell? ⟨w3.heap.size, 3, none⟩ = some (.slice A2 L2.length c2') ∧ W.cell? ⟨w3.heap.size, 4, none⟩ = some (.int .i64 (nx - 1)) ∧ W.cell? ⟨wr.heap.size, 1, none⟩ = some (.int .i64 now)) (first | (exact keep10 (by assumption) (by assumption)) | go_keep) (first | (go_at_call 17; refine (ris_any p ph m now (nx - 1) A2 L2.length c2' hp0 h2 _).mono ?_; rintro e w9 ⟨rfl, x9⟩) | (go_at_call 15; refine (room10 (ph := ph) (mb := w3.heap.size) (ab := wr.heap.size) (last := nx - 1) (now := now) (As := As) (A := A2) (cs := cs) (c := c2') hp0 h5 h6 hL2m ?_).mono ?_; assumption; rintro e w7 ⟨rfl, x7⟩) | (go_at_call 16; refine (is10 (m := m) (ph := ph) (n := L2.length) (mb := w3.heap.size) (ab := wr.heap.size) (last := nx - 1) (As := As) (A := A2) (cs := cs) (c := c2') hp0 h2 ?_).mono ?_; assumption; rintro e w8 ⟨rfl, x8⟩))
              go_wp2
              have x9' : Ext NoB w6 w9 := (((Ext.drew NoB w6).then x7).then x8).then x9
              have hbl6 : Below w.heap.size w w6 := bl5.trans (x6.below bl5.size fun k h => (hF k h.1).1)
              have hsz5 : wr.heap.size < W5.heap.size := by omega
              refine ⟨⟨k + 1, by omega, by omega, by go_num, L2, nx, _, _, A2, c2', s6.ext x9' fun _ _ h => h, hL2m, m6.ext x9' fun h => h, l6.ext x9' fun _ _ h => h, fun k hk => ?_, fun h => ?_, hmb, hbl6.trans (x9'.below hbl6.size fun _ h => h.elim)⟩, by simp [intOf]; omega⟩
              · rcases hk with hk | hk
                · obtain ⟨z1, z2, z3⟩ := hF k hk.1
                  refine ⟨z1, z2, fun h => ?_⟩
                  rcases h.1 with (h | h) | h
                  · exact z3 h
                  · omega
                  · have := hk.2; simp at h; omega
                · have := hbl.size
                  exact ⟨by omega, by omega, fun h => by have := h.2; omega⟩
              · rcases h.1 with (h | h) | h
                · exact hGm h
                · omega
                · simp at h; omega
            · have hkb : (kd % 2 == 1) = false := by simp [hkd]
              obtain ⟨e0, e1, e2, e3⟩ := four hact
              obtain ⟨K2, hK2⟩ : ∃ K2, K2 = atK p ph L nx now dr := ⟨_, rfl⟩
              obtain ⟨E2, hE2⟩ : ∃ E2, E2 = atE p ph nx now := ⟨_, rfl⟩
              obtain ⟨L2, hL2⟩ : ∃ L2, L2 = atL p ph L nx now := ⟨_, rfl⟩
              obtain ⟨B2, hB2⟩ : ∃ B2, B2 = atB p ph L nx now := ⟨_, rfl⟩
              obtain ⟨N2, hN2⟩ : ∃ N2, N2 = atN p ph nx now := ⟨_, rfl⟩
              have hL2m : L2.length ≤ m := by rw [hL2]; exact atL_len p ph L nx now m hLm
              have hcA := at_any w1.heap.size p ph m nx now dr L _ _ (by omega) h2 h6 hLm hd0 hd1 hs1
              rw [← hK2, ← hE2, ← hL2, ← hB2, ← hN2] at hcA
              have hcR : ∀ W, RLine W (.slice Am L.length cm) L G → Calls Try.prog 14 #[rv p ph m Am L.length cm (nx - 1), .int .i64 now, .int .u8 dr] W (RAtEnd W p ph m L (nx - 1) G K2 E2 (N2 - 1) B2 L2) := fun W h => by
                have h3 := rat_any p ph m (nx - 1) now dr Am cm L G W (by omega) h2 hd0 hd1 h
                rw [show nx - 1 + 1 = nx by omega, ← hK2, ← hE2, ← hL2, ← hB2, ← hN2] at h3
                exact h3
              have HcA := Lib.hid hcA
              have HcR := Lib.hid hcR
              clear hcA hcR hK2 hE2 hL2 hB2 hN2 hkd
              go_wp2_with fail
              refine HcA.out.mono ?_
              rintro e w4 ⟨A4, c4, rfl, hb4, ho4, s4, x4⟩
              have m4 := hm1.ext x4 (fun h => (hF _ hba).2.1 h.symm)
              have a4 := x4.obj hact (by omega)
              have l4 := hl1.ext x4 (fun k hk h => (hF _ hba).2.2 (by rw [← h]; exact hk))
              have sz4 : wr.heap.size + 1 ≤ w4.heap.size := by have := x4.size; simp at this; exact this
              have X4 : Ext (fun k => k = w1.heap.size) wr w4 := hW.trans x4 (fun _ _ h => h.elim) fun _ _ h => h
              clear e0 e1 e2 e3
              obtain ⟨e0, e1, e2, e3⟩ := four a4
              obtain ⟨⟨i0, i1, i2, i3, i4⟩, j0, j1, j2, j3, j4⟩ := five m4
              go_wp2_with fail
              refine (HcR.out w4 l4).mono ?_
              rintro e w5 ⟨A5, c5, A6, c6, rfl, l5, hb5, hg5, x5⟩
              have m5 := m4.ext x5 (fun h => h)
              have a5 := x5.obj a4 (fun h => h)
              have s5 := s4.ext x5 (fun _ _ h => h)
              have b5 := hb4.ext x5 (fun _ _ _ h => h)
              have sz5 := x5.size
              have hm5 : w3.heap.size < w5.heap.size := by omega
              clear e0 e1 e2 e3 i0 i1 i2 i3 i4 j0 j1 j2 j3 j4 hs1 hm1 hl1 hact hb1 ha
              obtain ⟨⟨i0, i1, i2, i3, i4⟩, j0, j1, j2, j3, j4⟩ := five m5
              go_upto_region 20 with (fail)
              obtain ⟨W6, hW6⟩ : ∃ W6, W6 = ((((((w5.setCell ⟨w3.heap.size, 0, none⟩ (.int .i64 p)).setCell ⟨w3.heap.size, 1, none⟩ (.int .i64 ph)).setCell ⟨w3.heap.size, 2, none⟩ (.int .i64 m)).setCell ⟨w3.heap.size, 3, none⟩ (.slice A5 L2.length c5)).setCell ⟨w3.heap.size, 4, none⟩ (.int .i64 (N2 - 1))).alloc (.cells #[.int .i64 p, .int .i64 ph, .int .i64 m, .slice A5 L2.length c5, .int .i64 (N2 - 1)] 30)) := ⟨_, rfl⟩
              rw [← hW6]
              have x6 : Ext (fun k => k = w3.heap.size) w5 W6 := by rw [hW6]; exact (set5 (fun k => k = w3.heap.size) w5 w3.heap.size _ _ _ _ _ fun _ => rfl).andAlloc _
              have m6 : MAt W6 w3.heap.size p ph m A5 L2.length c5 (N2 - 1) := by rw [hW6]; exact (MAt.set m5).ext (Ext.alloc NoB _ _) fun h => h
              have a6 := x6.obj a5 (by omega)
              have s6 := s5.ext x6 (fun k hk h => (hF k hk.1).2.1 h)
              have l6 := l5.shrink.ext x6 (fun k hk h => by
                subst h
                rcases hk.1 with h | h
                · exact hGm h
                · omega)
              have str1 := (b5.ext x6 fun k _ hk h => (hF k (ho4 k hk).1.1).2.1 h).string (P := Try.prog) Try.underlying32 Try.underlying5 Try.underlying9
              have str2 := (Bytes.ext' hb5 x6 (hg5.imp id fun h k hk hm => hGm (by rw [← hm]; exact h k hk))).string (P := Try.prog) Try.underlying32 Try.underlying5 Try.underlying9
              have sz6 := x6.size
              have X6 : Ext (fun k => k = w3.heap.size ∨ k = w1.heap.size) wr W6 := (X4.then (x5.mono fun _ _ h => h.elim)).trans x6 (fun _ _ h => .inr h) fun _ _ h => .inl h
              have hbl6 : Below w.heap.size w W6 := hbl.trans (X6.below hbl.size fun k h => by rcases h with h | h <;> rw [h]; exact hmb; exact (hF _ hba).1)
              have hKK : (K2 != K2) = false := by simp
              have hEE : (E2 != E2) = false := by simp
              clear hW6 i0 i1 i2 i3 i4 j0 j1 j2 j3 j4 m5 a5 s5 l5 b5 hb5 hg5 x6
              go_upto_region 22 with (fail)
              obtain ⟨As, cs, q0, q1, q2, q3⟩ : ∃ As cs, W6.cell? ⟨w1.heap.size, 0, none⟩ = some (.int .i64 p) ∧ W6.cell? ⟨w1.heap.size, 1, none⟩ = some (.int .i64 ph) ∧ W6.cell? ⟨w1.heap.size, 2, none⟩ = some (.int .i64 m) ∧ W6.cell? ⟨w1.heap.size, 3, none⟩ = some (.slice As L2.length cs) := by
                obtain ⟨sv, ho, ⟨vs, hq, _⟩, _⟩ := s6
                obtain ⟨As, cs, rfl, _⟩ := hq.slice
                exact ⟨As, cs, ho.c0, ho.c1, ho.c2, ho.c3⟩
              obtain ⟨⟨i0, i1, i2, i3, i4⟩, _⟩ := five m6
              obtain ⟨_, z1, _, _⟩ := four a6
              have hp0 : 0 < p := by omega
              have hwrap : IntKind.i64.wrap (m - (L2.length : Int)) = m - (L2.length : Int) := IntWalk.i64_in _ (by omega)
              have hne0 : (m - (L2.length : Int) != m - (L2.length : Int)) = false := by simp
              have hib : (isB p ph now != isB p ph now) = false := by simp
              go_region_held3 (fun W => W.cell? ⟨w1.heap.size, 0, none⟩ = some (.int .i64 p) ∧ W.cell? ⟨w1.heap.size, 1, none⟩ = some (.int .i64 ph) ∧ W.cell? ⟨w1.heap.size, 2, none⟩ = some (.int .i64 m) ∧ W.cell? ⟨w1.heap.size, 3, none⟩ = some (.slice As L2.length cs) ∧ W.cell? ⟨w3.heap.size, 0, none⟩ = some (.int .i64 p) ∧ W.cell? ⟨w3.heap.size, 1, none⟩ = some (.int .i64 ph) ∧ W.cell? ⟨w3.heap.size, 2, none⟩ = some (.int .i64 m) ∧ W.cell? ⟨w3.heap.size, 3, none⟩ = some (.slice A5 L2.length c5) ∧ W.cell? ⟨w3.heap.size, 4, none⟩ = some (.int .i64 (N2 - 1)) ∧ W.cell? ⟨wr.heap.size, 1, none⟩ = some (.int .i64 now)) (first | (exact keep10 (by assumption) (by assumption)) | go_keep) (first | (go_at_call 17; refine (ris_any p ph m now (N2 - 1) A5 L2.length c5 hp0 h2 _).mono ?_; rintro e w9 ⟨rfl, x9⟩) | (go_at_call 15; refine (room10 (ph := ph) (mb := w3.heap.size) (ab := wr.heap.size) (last := N2 - 1) (now := now) (As := As) (A := A5) (cs := cs) (c := c5) hp0 h5 h6 hL2m ?_).mono ?_; assumption; rintro e w7 ⟨rfl, x7⟩) | (go_at_call 16; refine (is10 (m := m) (ph := ph) (n := L2.length) (mb := w3.heap.size) (ab := wr.heap.size) (last := N2 - 1) (As := As) (A := A5) (cs := cs) (c := c5) hp0 h2 ?_).mono ?_; assumption; rintro e w8 ⟨rfl, x8⟩))
              go_wp2
              have x9' : Ext NoB W6 w9 := (((Ext.drew NoB W6).then x7).then x8).then x9
              refine ⟨⟨k + 1, by omega, by omega, by go_num, L2, N2, _, _, A5, c5, s6.ext x9' fun _ _ h => h, hL2m, m6.ext x9' fun h => h, l6.ext x9' fun _ _ h => h, fun k hk => ?_, fun h => ?_, hmb, hbl6.trans (x9'.below hbl6.size fun _ h => h.elim)⟩, by simp [intOf]; omega⟩
              · obtain ⟨z1, z2, z3⟩ := hF k hk.1
                refine ⟨z1, z2, fun h => ?_⟩
                rcases h.1 with h | h
                · exact z3 h
                · have := hk.2; omega
              · rcases h.1 with h | h
                · exact hGm h
                · omega
        · obtain rfl : k = 80 := by omega
          go_wp2
          go_ret
          exact ⟨rfl, hbl⟩
      · obtain rfl : k = n := by omega
        go_wp2
        go_ret
        exact ⟨rfl, hbl⟩
end Go.Proofs.Ytapckbbbcjaahaa
