/-
  DelayActs returns true: the walk.
-/
import Derived.Test.YtaphhadahajohaaU
set_option linter.unusedVariables false
set_option linter.unusedSimpArgs false
namespace Go.Proofs.Ytaphhadahajohaa
open Go.RowKit
set_option maxHeartbeats 3200000 in
set_option maxRecDepth 100000 in
theorem acts_walk (m : Int) (hm0 : -9223372036854775808 ≤ m) (hm1 : m ≤ 9223372036854775807) (A0 : Option Addr) (n c0 : Nat) (w : World) (ha : Acts w A0 n) :
    Calls Try.prog 4 #[.int .i64 m, .slice A0 n c0] w fun e w' => e = .returned (.bool true) ∧ Below w.heap.size w w' := by
  have hn63 := ha.1
  unfold maxLen at hn63
  have Ha := Lib.hid ha
  clear ha
  by_cases hin : 1 ≤ m ∧ m ≤ 4096
  · obtain ⟨m1, m2⟩ := hin
    go_enter Try.func4, Try.ntmps4
    go_wp2_with (first
      | (go_at_call 7; refine (alive_any _).mono ?_; rintro e W1 ⟨rfl, x1⟩)
      | (go_at_call 8; refine (new_yes m m1 m2 _).mono ?_; rintro e W2 ⟨rfl, rfl⟩))
    have hq : ActsRel w W1.heap.size (W1.heap.size + 1) m 0 ((W1.alloc (.cells #[.int .i64 m, .slice none 0 0, .int .i64 0] 53)).alloc (.cells #[.slice none 0 0, .int .i64 m] 38)) := by
      refine ⟨0, [], _, none, 0, [], ⟨(QS.new W1 m).ext (Ext.alloc NoB _ _) (fun _ _ h => h), fun k hk => ?_, ?_, ?_, RR.nil _, ?_, ?_⟩, Cor.nil w, by omega, by omega, by simp⟩
      · rw [hk]; exact ⟨x1.size, by simp; omega, by omega⟩
      · exact heapNew' _ _ _ (by simp)
      · have := x1.size; omega
      · intro k hk; simp [Value.ownBlock] at hk
      · exact ((x1.andAlloc _).andAlloc _).below (Nat.le_refl _) fun _ h => h.elim
    go_loopw [7] (fun i W => ∃ (k : Nat), k ≤ n ∧ k ≤ 100 ∧ i = .int .i64 k ∧ ActsRel w W1.heap.size (W1.heap.size + 1) m k W) (fun i _ => n - (intOf i).toNat)
    case atStart => exact ⟨0, Nat.zero_le _, Nat.zero_le _, rfl, hq⟩
    case round =>
      clear hq
      obtain ⟨k, hk, hk2, rfl, hR⟩ := hrel
      rcases Nat.lt_or_ge k n with hlt | hge
      · rcases Nat.lt_or_ge k 100 with hlt2 | hge2
        · obtain ⟨nn, L, F, A, c, M, h1, hc, hn0, hn1, hLk⟩ := hR
          obtain ⟨b, o, kd, due, dest, Ab, cb, bs, rfl, hb, hkd0, hkd1, d0, d1, d2, d3⟩ := Acts.at' Ha.out h1.bel hlt
          have n1 : (k : Int) < (n : Int) := by omega
          have n2 : (k : Int) < 100 := by omega
          have hb63 := hb.len63
          have x0 : Ext NoB wr (wr.alloc (.cells #[.int .u8 kd, .int .i64 due, .int .i64 dest, .slice Ab bs.length cb] 40)) := Ext.alloc NoB wr _
          by_cases hbig : 5000 < bs.length
          · have e1 : (5000 : Int) < (bs.length : Int) := by omega
            have hR := ActsRel.more ⟨nn, L, F, A, c, M, h1, hc, hn0, hn1, hLk⟩ x0
            clear h1 hc
            go_wp2_with fail
            exact ⟨⟨k + 1, by omega, by omega, by go_num, hR⟩, by simp [intOf]; omega⟩
          · have e1 : (bs.length : Int) ≤ 5000 := by omega
            have g1 := h1.ext x0
            have hk8 : kd % 8 = 5 ∨ kd % 8 = 6 ∨ kd % 8 = 7 ∨ (kd % 8 ≠ 5 ∧ kd % 8 ≠ 6 ∧ kd % 8 ≠ 7) := by omega
            have hF : ∀ k, F k → k < wr.heap.size := fun k hk => (h1.fb k hk).2.1
            have g8 := heapNew wr (.cells #[.int .u8 kd, .int .i64 due, .int .i64 dest, .slice Ab bs.length cb] 40)
            have hbw := blk_lt' h1.box
            clear hbig h1
            rcases hk8 with hk8 | hk8 | hk8 | ⟨hk5, hk6, hk7⟩
            · have hpop := fun W hW => pop_any (F := F) (w := W) (p := W1.heap.size) (room := m) (nn := nn) (L := L) hW (by omega) due (by omega)
              have hrp := fun W hW => rpop_cor (w0 := w) A c m M due (by have := hc.1; omega) hc W hW
              have hxo := popX_own g1.q due
              generalize popX L due = x at hpop hrp hxo
              obtain ⟨xd, xt, xA, xl, xc, xn⟩ := x
              generalize popE L due = E at hpop hrp
              generalize popB L due = pb at hpop hrp
              have hpl : (popL L due).length ≤ k := by rcases popL_len L due with ⟨_, h⟩ | ⟨_, h⟩; exact (by omega); exact (by rw [h]; exact hLk)
              generalize popL L due = L' at hpop hrp hpl
              have HP := Lib.hid hpop
              have HR := Lib.hid hrp
              clear hpop hrp hc
              go_upto_region 21 with (first
                | ((go_at_call 11; (with_reducible refine (HP.out _ g1.q).mono ?_)); rintro e W2 ⟨rfl, hq2, x2, hby⟩; have x3 := Ext.alloc NoB W2 (.cells #[.int .i64 xd, .int .i64 xt, .slice xA xl xc] 31); have g2 := (g1.qstep hq2 x2 (fun _ h => .inl h)).ext x3; obtain ⟨b0, b1⟩ := two g2.box; have g9 := heapNew W2 (.cells #[.int .i64 xd, .int .i64 xt, .slice xA xl xc] 31); obtain ⟨q0, q1, q2, q3⟩ := four (x3.obj (x2.obj g8 (fun h => Nat.lt_irrefl _ (hF _ h))) id))
                | ((go_at_call 12; (with_reducible refine (HR.out _ g2.row).mono ?_)); rintro e W4 ⟨A', c', M', yA, yl, yc, rfl, hr4, hc4, x4, ho4, hby4⟩))
              have x5 : Ext NoB W4 ((W4.alloc (.cells #[.slice A' M'.length c', .int .i64 m] 38)).alloc (.cells #[.int .i64 xd, .int .i64 xt, .slice yA yl yc] 30)) := (Ext.alloc NoB W4 _).andAlloc _
              have gb := x5.obj (x4.obj g2.box id) id
              have fr := freeOf gb
              obtain ⟨w0, w1⟩ := two gb
              go_upto_region 22 with (fail)
              generalize hW7 : World.setCell (World.setCell ((W4.alloc (.cells #[.slice A' M'.length c', .int .i64 m] 38)).alloc (.cells #[.int .i64 xd, .int .i64 xt, .slice yA yl yc] 30)) ⟨W1.heap.size + 1, 0, none⟩ (.slice A' M'.length c')) ⟨W1.heap.size + 1, 1, none⟩ (.int .i64 m) = W7
              have xs : Ext (fun k => k = W1.heap.size + 1) ((W4.alloc (.cells #[.slice A' M'.length c', .int .i64 m] 38)).alloc (.cells #[.int .i64 xd, .int .i64 xt, .slice yA yl yc] 30)) W7 := by
                rw [← hW7]
                exact ((Ext.refl (fun k => k = W1.heap.size + 1) _).andSet _ _ fun _ => rfl).andSet _ _ fun _ => rfl
              have x57 := (x5.mono (G := fun k => k = W1.heap.size + 1) fun _ _ h => h.elim).then xs
              have g5 := g2.rstep x4 hr4 ho4 x57 (by rw [← hW7, heapSet (heapSet gb _ _) _ _]; rfl)
              have z4 := x4.size
              have z12 := heapNew' (W4.alloc (.cells #[.slice A' M'.length c', .int .i64 m] 38)) (.cells #[.int .i64 xd, .int .i64 xt, .slice yA yl yc] 30) (W4.heap.size + 1) (by simp)
              have lb := blk_lt' g2.box
              obtain ⟨y0, y1, y2⟩ := three (xs.obj z12 (by omega))
              obtain ⟨v0, v1, v2⟩ := three (x57.obj (x4.obj g9 id) (by have := blk_lt' (x2.obj (g1.box) (fun h => (g1.fb _ h).2.2 rfl)); omega))
              have by1 : Bytes W7 (.slice xA xl xc) pb := (((hby.ext x3 (fun _ _ _ h => h)).ext x4 (fun _ _ _ h => h))).ext x57 (fun k _ hk hk2 => (g1.fb k (hxo k hk)).2.2 hk2)
              have by2 : Bytes W7 (.slice yA yl yc) pb := hby4.later g5.bel
              clear xs x5 gb fr hW7 x57 z12 w0 w1
              have eE : (E == E) = true := by simp
              clear g1 g8 q0 q1 q2 q3 b0 b1 g9 x0 hb d0 d1 d2 d3 hby hby4
              have B1 := Lib.hid by1
              have B2 := Lib.hid by2
              clear by1 by2
              go_region_held3 (fun W => W.cell? ⟨W2.heap.size, 0, none⟩ = some (.int .i64 xd) ∧ W.cell? ⟨W2.heap.size, 1, none⟩ = some (.int .i64 xt) ∧ W.cell? ⟨W2.heap.size, 2, none⟩ = some (.slice xA xl xc) ∧ W.cell? ⟨W4.heap.size + 1, 0, none⟩ = some (.int .i64 xd) ∧ W.cell? ⟨W4.heap.size + 1, 1, none⟩ = some (.int .i64 xt) ∧ W.cell? ⟨W4.heap.size + 1, 2, none⟩ = some (.slice yA yl yc))
                (first | (exact ⟨v0, v1, v2, y0, y1, y2⟩) | (exact ⟨x22.cell v0 id, x22.cell v1 id, x22.cell v2 id, x22.cell y0 id, x22.cell y1 id, x22.cell y2 id⟩))
                (first
                  | (go_at_call 14; refine (ours14 _ _ _ _ _ _).mono ?_; rintro e W8 ⟨rfl, x8⟩; have x22 := (Ext.drew NoB W7).then x8)
                  | (go_at_call 13; refine (same_yes _ _ _ _ _ _ _ _ pb _ (B1.out.ext x22 (fun _ _ _ h => h)) (B2.out.ext x22 (fun _ _ _ h => h))).mono ?_; rintro e W9 ⟨rfl, x9⟩; have x22 := x22.then x9))
              have g6 := g5.ext x22
              clear g2 g5 hq2 x2 x3 x4 x22 x8 x9 y0 y1 y2 v0 v1 v2 HP HR B1 B2 hr4 z4 lb ho4
              have hM := hc4.1
              have gb := (two g6.box).1
              rw [hM] at gb
              have hL63 : L'.length ≤ 9223372036854775807 := by omega
              have HG := Lib.hid g6.q
              have hR2 : ∀ W, Ext NoB W9 W → ActsRel w W1.heap.size (W1.heap.size + 1) m (k + 1) W := fun W hx => ⟨nn, L', _, A', c', M', g6.ext hx, hc4, hn0, by omega, by omega⟩
              have HR2 := Lib.hid hR2
              clear g6 hc4 hR2 hM
              go_upto_region 28 with (fail)
              go_region_held3 (fun W => W.cell? ⟨W1.heap.size + 1, 0, none⟩ = some (.slice A' L'.length c'))
                (first | (exact gb) | (exact x23.cell gb id))
                (first
                  | (go_at_call 10; (with_reducible refine (len10 (HG.out.ext (Ext.drew NoB W9) (fun _ _ h => h)) (by omega)).mono ?_); rintro e W10 ⟨rfl, x10⟩; have x23 := (Ext.drew NoB W9).then x10))
              have hR := HR2.out _ x23
              clear HR2 HG gb x23 x10
              go_wp2_with fail
              exact ⟨⟨k + 1, by omega, by omega, by go_num, hR⟩, by simp [intOf]; omega⟩
            · have hpop := fun W hW => pop_any (F := F) (w := W) (p := W1.heap.size) (room := m) (nn := nn) (L := L) hW (by omega) due (by omega)
              have hrp := fun W hW => rpop_cor (w0 := w) A c m M due (by have := hc.1; omega) hc W hW
              have hxo := popX_own g1.q due
              generalize popX L due = x at hpop hrp hxo
              obtain ⟨xd, xt, xA, xl, xc, xn⟩ := x
              generalize popE L due = E at hpop hrp
              generalize popB L due = pb at hpop hrp
              have hpl : (popL L due).length ≤ k := by rcases popL_len L due with ⟨_, h⟩ | ⟨_, h⟩; exact (by omega); exact (by rw [h]; exact hLk)
              generalize popL L due = L' at hpop hrp hpl
              have HP := Lib.hid hpop
              have HR := Lib.hid hrp
              clear hpop hrp hc
              go_upto_region 21 with (first
                | ((go_at_call 11; (with_reducible refine (HP.out _ g1.q).mono ?_)); rintro e W2 ⟨rfl, hq2, x2, hby⟩; have x3 := Ext.alloc NoB W2 (.cells #[.int .i64 xd, .int .i64 xt, .slice xA xl xc] 31); have g2 := (g1.qstep hq2 x2 (fun _ h => .inl h)).ext x3; obtain ⟨b0, b1⟩ := two g2.box; have g9 := heapNew W2 (.cells #[.int .i64 xd, .int .i64 xt, .slice xA xl xc] 31); obtain ⟨q0, q1, q2, q3⟩ := four (x3.obj (x2.obj g8 (fun h => Nat.lt_irrefl _ (hF _ h))) id))
                | ((go_at_call 12; (with_reducible refine (HR.out _ g2.row).mono ?_)); rintro e W4 ⟨A', c', M', yA, yl, yc, rfl, hr4, hc4, x4, ho4, hby4⟩))
              have x5 : Ext NoB W4 ((W4.alloc (.cells #[.slice A' M'.length c', .int .i64 m] 38)).alloc (.cells #[.int .i64 xd, .int .i64 xt, .slice yA yl yc] 30)) := (Ext.alloc NoB W4 _).andAlloc _
              have gb := x5.obj (x4.obj g2.box id) id
              have fr := freeOf gb
              obtain ⟨w0, w1⟩ := two gb
              go_upto_region 22 with (fail)
              generalize hW7 : World.setCell (World.setCell ((W4.alloc (.cells #[.slice A' M'.length c', .int .i64 m] 38)).alloc (.cells #[.int .i64 xd, .int .i64 xt, .slice yA yl yc] 30)) ⟨W1.heap.size + 1, 0, none⟩ (.slice A' M'.length c')) ⟨W1.heap.size + 1, 1, none⟩ (.int .i64 m) = W7
              have xs : Ext (fun k => k = W1.heap.size + 1) ((W4.alloc (.cells #[.slice A' M'.length c', .int .i64 m] 38)).alloc (.cells #[.int .i64 xd, .int .i64 xt, .slice yA yl yc] 30)) W7 := by
                rw [← hW7]
                exact ((Ext.refl (fun k => k = W1.heap.size + 1) _).andSet _ _ fun _ => rfl).andSet _ _ fun _ => rfl
              have x57 := (x5.mono (G := fun k => k = W1.heap.size + 1) fun _ _ h => h.elim).then xs
              have g5 := g2.rstep x4 hr4 ho4 x57 (by rw [← hW7, heapSet (heapSet gb _ _) _ _]; rfl)
              have z4 := x4.size
              have z12 := heapNew' (W4.alloc (.cells #[.slice A' M'.length c', .int .i64 m] 38)) (.cells #[.int .i64 xd, .int .i64 xt, .slice yA yl yc] 30) (W4.heap.size + 1) (by simp)
              have lb := blk_lt' g2.box
              obtain ⟨y0, y1, y2⟩ := three (xs.obj z12 (by omega))
              obtain ⟨v0, v1, v2⟩ := three (x57.obj (x4.obj g9 id) (by have := blk_lt' (x2.obj (g1.box) (fun h => (g1.fb _ h).2.2 rfl)); omega))
              have by1 : Bytes W7 (.slice xA xl xc) pb := (((hby.ext x3 (fun _ _ _ h => h)).ext x4 (fun _ _ _ h => h))).ext x57 (fun k _ hk hk2 => (g1.fb k (hxo k hk)).2.2 hk2)
              have by2 : Bytes W7 (.slice yA yl yc) pb := hby4.later g5.bel
              clear xs x5 gb fr hW7 x57 z12 w0 w1
              have eE : (E == E) = true := by simp
              clear g1 g8 q0 q1 q2 q3 b0 b1 g9 x0 hb d0 d1 d2 d3 hby hby4
              have B1 := Lib.hid by1
              have B2 := Lib.hid by2
              clear by1 by2
              go_region_held3 (fun W => W.cell? ⟨W2.heap.size, 0, none⟩ = some (.int .i64 xd) ∧ W.cell? ⟨W2.heap.size, 1, none⟩ = some (.int .i64 xt) ∧ W.cell? ⟨W2.heap.size, 2, none⟩ = some (.slice xA xl xc) ∧ W.cell? ⟨W4.heap.size + 1, 0, none⟩ = some (.int .i64 xd) ∧ W.cell? ⟨W4.heap.size + 1, 1, none⟩ = some (.int .i64 xt) ∧ W.cell? ⟨W4.heap.size + 1, 2, none⟩ = some (.slice yA yl yc))
                (first | (exact ⟨v0, v1, v2, y0, y1, y2⟩) | (exact ⟨x22.cell v0 id, x22.cell v1 id, x22.cell v2 id, x22.cell y0 id, x22.cell y1 id, x22.cell y2 id⟩))
                (first
                  | (go_at_call 14; refine (ours14 _ _ _ _ _ _).mono ?_; rintro e W8 ⟨rfl, x8⟩; have x22 := (Ext.drew NoB W7).then x8)
                  | (go_at_call 13; refine (same_yes _ _ _ _ _ _ _ _ pb _ (B1.out.ext x22 (fun _ _ _ h => h)) (B2.out.ext x22 (fun _ _ _ h => h))).mono ?_; rintro e W9 ⟨rfl, x9⟩; have x22 := x22.then x9))
              have g6 := g5.ext x22
              clear g2 g5 hq2 x2 x3 x4 x22 x8 x9 y0 y1 y2 v0 v1 v2 HP HR B1 B2 hr4 z4 lb ho4
              have hM := hc4.1
              have gb := (two g6.box).1
              rw [hM] at gb
              have hL63 : L'.length ≤ 9223372036854775807 := by omega
              have HG := Lib.hid g6.q
              have hR2 : ∀ W, Ext NoB W9 W → ActsRel w W1.heap.size (W1.heap.size + 1) m (k + 1) W := fun W hx => ⟨nn, L', _, A', c', M', g6.ext hx, hc4, hn0, by omega, by omega⟩
              have HR2 := Lib.hid hR2
              clear g6 hc4 hR2 hM
              go_upto_region 28 with (fail)
              go_region_held3 (fun W => W.cell? ⟨W1.heap.size + 1, 0, none⟩ = some (.slice A' L'.length c'))
                (first | (exact gb) | (exact x23.cell gb id))
                (first
                  | (go_at_call 10; (with_reducible refine (len10 (HG.out.ext (Ext.drew NoB W9) (fun _ _ h => h)) (by omega)).mono ?_); rintro e W10 ⟨rfl, x10⟩; have x23 := (Ext.drew NoB W9).then x10))
              have hR := HR2.out _ x23
              clear HR2 HG gb x23 x10
              go_wp2_with fail
              exact ⟨⟨k + 1, by omega, by omega, by go_num, hR⟩, by simp [intOf]; omega⟩
            · have hcl := clear15 g1.q (by omega)
              have hown := g1.q.own
              have hM := hc.1
              have gb1 := g1.box
              rw [hM] at gb1
              have HC := Lib.hid hcl
              have gb := (two gb1).1
              clear hcl hc
              go_upto_region 25 with (fail)
              go_region_held3 (fun W => W.cell? ⟨W1.heap.size + 1, 0, none⟩ = some (.slice A L.length c))
                (first | (exact gb) | (exact gb2))
                (first
                  | (go_at_call 15; (with_reducible refine (clear15 (g1.q.ext (Ext.drew NoB _) (fun _ _ h => h)) (by omega)).mono ?_); rintro e W2 ⟨rfl, hq2, x2⟩; have gb2 := x2.cell gb (show ¬ (W1.heap.size + 1 = W1.heap.size) by omega)))
              have g2 := (g1.ext (Ext.drew NoB _)).qstep hq2 (x2.mono fun k _ h => by rw [h]; exact hown) (fun _ h => .inl h)
              have gbx := g2.box
              have fr := freeOf gbx
              obtain ⟨w0, w1⟩ := two gbx
              have g3 := g2.rstep (A' := none) (c' := 0) (M' := []) (Ext.refl NoB W2) (RR.nil _) (fun k hk => by simp [Value.ownBlock] at hk) ((Ext.refl (fun k => k = W1.heap.size + 1) W2).andSet ⟨W1.heap.size + 1, 0, none⟩ (.slice none 0 0) fun _ => rfl) (by rw [heapSet gbx]; rfl)
              clear g1 g2 hq2 x2 gb gb1 HC g8 gb2 x0 hb d0 d1 d2 d3 gbx
              go_upto_region 28 with (fail)
              generalize hW9 : World.setCell W2 _ _ = W9 at g3 ⊢
              clear hW9 fr w0 w1
              have gb := (two g3.box).1
              have HG := Lib.hid g3.q
              have hR2 : ∀ W, Ext NoB W9 W → ActsRel w W1.heap.size (W1.heap.size + 1) m (k + 1) W := fun W hx => ⟨nn, [], _, none, 0, [], g3.ext hx, Cor.nil w, hn0, by omega, by simp⟩
              have HR2 := Lib.hid hR2
              clear g3 hR2
              go_region_held3 (fun W => W.cell? ⟨W1.heap.size + 1, 0, none⟩ = some (.slice none 0 0))
                (first | (exact gb) | (exact x23.cell gb id))
                (first
                  | (go_at_call 10; (with_reducible refine (len10 (HG.out.ext (Ext.drew NoB W9) (fun _ _ h => h)) (by omega)).mono ?_); rintro e W10 ⟨rfl, x10⟩; have x23 := (Ext.drew NoB W9).then x10))
              have hR := HR2.out _ x23
              clear HR2 HG gb x23 x10
              go_wp2_with fail
              exact ⟨⟨k + 1, by omega, by omega, by go_num, hR⟩, by simp [intOf]; omega⟩
            · have f5 : (kd % 8 == 5) = false := by simp; exact hk5
              have f6 : (kd % 8 == 6) = false := by simp; exact hk6
              have f7 : (kd % 8 == 7) = false := by simp; exact hk7
              have hpu := fun W hW hbW => push_any (F := F) (w := W) (p := W1.heap.size) (room := m) (nn := nn) (L := L) hW (by omega) m2 hn0 (by omega) due dest Ab cb bs hbW hb63
              have hrp := fun W hW => rpush_cor (w0 := w) (L := L) A c m M (by have := hc.1; omega) hc due dest Ab cb bs hb hb63 W hW
              generalize pushE m L.length due dest bs.length = E at hpu hrp
              have eE : (E == E) = true := by simp
              have HP := Lib.hid hpu
              have HR := Lib.hid hrp
              obtain ⟨b0, b1⟩ := two g1.box
              clear hpu hrp hc hk5 hk6 hk7
              go_upto_region 14 with (first
                | ((go_at_call 16; (with_reducible refine (HR.out _ g1.row).mono ?_)); rintro e W2 ⟨A', c', M', rfl, hr2, hcor, x2, ho2⟩))
              have HCOR := Lib.hid hcor
              have xa := Ext.alloc NoB W2 (.cells #[.slice A' M'.length c', .int .i64 m] 38)
              have gb := xa.obj (x2.obj g1.box id) id
              have fr := freeOf gb
              obtain ⟨w0, w1⟩ := two gb
              clear hcor b0 b1
              go_upto_region 15 with (fail)
              generalize hW4 : World.setCell (World.setCell (W2.alloc (.cells #[.slice A' M'.length c', .int .i64 m] 38)) ⟨W1.heap.size + 1, 0, none⟩ (.slice A' M'.length c')) ⟨W1.heap.size + 1, 1, none⟩ (.int .i64 m) = W4
              have xs : Ext (fun k => k = W1.heap.size + 1) (W2.alloc (.cells #[.slice A' M'.length c', .int .i64 m] 38)) W4 := by
                rw [← hW4]
                exact ((Ext.refl (fun k => k = W1.heap.size + 1) _).andSet _ _ fun _ => rfl).andSet _ _ fun _ => rfl
              have x24 := (xa.mono (G := fun k => k = W1.heap.size + 1) fun _ _ h => h.elim).then xs
              have g3 := g1.rstep x2 hr2 ho2 x24 (by rw [← hW4, heapSet (heapSet gb _ _) _ _]; rfl)
              obtain ⟨q0, q1, q2, q3⟩ := four (x24.obj (x2.obj g8 id) (by omega))
              clear xs gb fr hW4 x24 w0 w1 x2 ho2 hr2 HR g1 g8 x0
              go_upto_region 28 with (first
                | ((go_at_call 17; (with_reducible refine (theirs17 due dest Ab bs.length cb _).mono ?_)); rintro e W5 ⟨rfl, x5⟩; have g5 := g3.ext x5; have hb5 := hb.later g5.bel)
                | ((go_at_call 9; (with_reducible refine (HP.out _ g5.q hb5).mono ?_)); rintro e W9 ⟨rfl, nn', L', hq6, x6, hPL⟩))
              have g6 := g5.qstep hq6 x6 (fun _ h => h)
              have hc6 := HCOR.out _ _ _ hPL
              have hnl : nn ≤ nn' ∧ nn' ≤ nn + 1 ∧ L'.length ≤ L.length + 1 := by
                rcases hPL with ⟨_, _, h, _, _, h2⟩ | ⟨_, h, h2⟩
                · rw [h2]; simp; omega
                · rw [h2]; omega
              obtain ⟨l1, l2, l3⟩ := hnl
              have hM := hc6.1
              have gb := (two g6.box).1
              rw [hM] at gb
              have hL63 : L'.length ≤ 9223372036854775807 := by omega
              have HG := Lib.hid g6.q
              have hR2 : ∀ W, Ext NoB W9 W → ActsRel w W1.heap.size (W1.heap.size + 1) m (k + 1) W := fun W hx => ⟨nn', L', _, A', c', M', g6.ext hx, hc6, by omega, by omega, by omega⟩
              have HR2 := Lib.hid hR2
              clear g3 g5 hb hb5 hq6 x6 hPL g6 hc6 hM HP HCOR x5 q0 q1 q2 q3 hR2
              go_region_held3 (fun W => W.cell? ⟨W1.heap.size + 1, 0, none⟩ = some (.slice A' L'.length c'))
                (first | (exact gb) | (exact x23.cell gb id))
                (first
                  | (go_at_call 10; (with_reducible refine (len10 (HG.out.ext (Ext.drew NoB W9) (fun _ _ h => h)) (by omega)).mono ?_); rintro e W10 ⟨rfl, x10⟩; have x23 := (Ext.drew NoB W9).then x10))
              have hR := HR2.out _ x23
              clear HR2 HG gb x23 x10
              go_wp2_with fail
              exact ⟨⟨k + 1, by omega, by omega, by go_num, hR⟩, by simp [intOf]; omega⟩
        · have hk100 : k = 100 := by omega
          have e1 : ¬ (k : Int) < 100 := by omega
          obtain ⟨_, _, _, _, _, _, h1, _⟩ := hR
          have hbl := h1.bel
          clear h1
          go_wp2_with fail
          go_ret
          exact ⟨rfl, hbl⟩
      · have e1 : ¬ (k : Int) < (n : Int) := by omega
        obtain ⟨_, _, _, _, _, _, h1, _⟩ := hR
        have hbl := h1.bel
        clear h1
        go_wp2_with fail
        go_ret
        exact ⟨rfl, hbl⟩
  · have hout : m < 1 ∨ 4096 < m := by omega
    rcases hout with hout | hout
    · go_enter Try.func4, Try.ntmps4
      go_wp2_with (first
        | (go_at_call 7; refine (alive_any _).mono ?_; rintro e W1 ⟨rfl, x1⟩)
        | (go_at_call 8; refine (new_no m (.inl hout) _).mono ?_; rintro e W2 ⟨rfl, rfl⟩))
      have hq : Below w.heap.size w (W2.alloc (.cells #[.slice none 0 0, .int .i64 m] 38)) := (x1.andAlloc _).below (Nat.le_refl _) fun _ h => h.elim
      go_loopw [7] (fun i W => i = .int .i64 0 ∧ Below w.heap.size w W) (fun i _ => 0)
      case atStart => exact ⟨rfl, hq⟩
      case round =>
        clear hq
        obtain ⟨rfl, hb⟩ := hrel
        go_wp2_with fail
        go_ret
        exact ⟨rfl, hb⟩
    · go_enter Try.func4, Try.ntmps4
      go_wp2_with (first
        | (go_at_call 7; refine (alive_any _).mono ?_; rintro e W1 ⟨rfl, x1⟩)
        | (go_at_call 8; refine (new_no m (.inr hout) _).mono ?_; rintro e W2 ⟨rfl, rfl⟩))
      have hq : Below w.heap.size w (W2.alloc (.cells #[.slice none 0 0, .int .i64 m] 38)) := (x1.andAlloc _).below (Nat.le_refl _) fun _ h => h.elim
      go_loopw [7] (fun i W => i = .int .i64 0 ∧ Below w.heap.size w W) (fun i _ => 0)
      case atStart => exact ⟨rfl, hq⟩
      case round =>
        clear hq
        obtain ⟨rfl, hb⟩ := hrel
        go_wp2_with fail
        go_ret
        exact ⟨rfl, hb⟩
end Go.Proofs.Ytaphhadahajohaa
