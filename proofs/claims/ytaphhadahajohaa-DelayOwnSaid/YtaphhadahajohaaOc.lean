/-
  DelayOwn returns true: the walk.
-/
import Derived.Test.YtaphhadahajohaaOb
set_option linter.unusedVariables false
set_option linter.unusedSimpArgs false
namespace Go.Proofs.Ytaphhadahajohaa
open Go.RowKit

set_option maxHeartbeats 3200000 in
set_option maxRecDepth 100000 in
theorem own_walk (due dest : Int) (A : Option Addr) (c : Nat) (bs : List Int) (w : World) (hb : Bytes w (.slice A bs.length c) bs) :
    Calls Try.prog 5 #[.agg #[.int .i64 due, .int .i64 dest, .slice A bs.length c]] w fun e w' => e = .returned (.bool true) ∧ Below w.heap.size w w' := by
  have hl63 := hb.len63
  have HB := Lib.hid hb
  have x0 := Ext.alloc NoB w (.cells #[.int .i64 due, .int .i64 dest, .slice A bs.length c] 30)
  have hbx0 := heapNew w (.cells #[.int .i64 due, .int .i64 dest, .slice A bs.length c] 30)
  clear hb
  by_cases hlen : bs.length ≤ 5000
  · have l1 : (bs.length : Int) ≤ 5000 := by omega
    go_enter Try.func5, Try.ntmps5
    go_wp2_with (first
      | (go_at_call 7; refine (alive_any _).mono ?_; rintro e W1 ⟨rfl, x1⟩; have hbx1 := x1.obj hbx0 id; obtain ⟨b0, b1, b2⟩ := three hbx1))
    have hz1 : W1.heap[w.heap.size]? = some (.cells #[.int .i64 due, .int .i64 dest, .slice A bs.length c] 30 (0, 0)) := hbx1
    have X1 : Ext NoB w W1 := x0.then x1
    have x2 := (Ext.alloc NoB W1 (.cells #[.int .i64 0, .slice none 0 0, .int .i64 0] 53)).andAlloc (.cells #[.pointer none, .pointer (some ⟨W1.heap.size, 0, none⟩)] 24)
    have hq0 : ((W1.alloc (.cells #[.int .i64 0, .slice none 0 0, .int .i64 0] 53)).alloc (.cells #[.pointer none, .pointer (some ⟨W1.heap.size, 0, none⟩)] 24)).heap[W1.heap.size]? = some (.cells #[.int .i64 0, .slice none 0 0, .int .i64 0] 53 (0, 0)) := (Ext.alloc NoB _ _).obj (heapNew W1 _) id
    have hs0 : ((W1.alloc (.cells #[.int .i64 0, .slice none 0 0, .int .i64 0] 53)).alloc (.cells #[.pointer none, .pointer (some ⟨W1.heap.size, 0, none⟩)] 24)).heap[W1.heap.size + 1]? = some (.cells #[.pointer none, .pointer (some ⟨W1.heap.size, 0, none⟩)] 24 (0, 0)) := heapNew' _ _ _ (by simp)
    have hb0 := x2.obj hz1 id
    have X2 := X1.then x2
    clear x2 hbx1 b0 b1 b2 hz1 X1 x1
    generalize (W1.alloc _).alloc _ = W3 at hq0 hs0 hb0 X2 ⊢
    go_loopw [22] (fun i W => ∃ k : Nat, k ≤ 2 ∧ i = .int .i64 k ∧ Ext NoB W3 W) (fun i _ => 2 - (intOf i).toNat)
    case atStart => exact ⟨0, by omega, rfl, Ext.refl _ _⟩
    case round =>
      obtain ⟨k, hk, rfl, hx⟩ := hrel
      by_cases hk2 : k < 2
      · have hv : ∃ v, (k = 0 ∨ k = 1) ∧ wr.cell? ⟨W1.heap.size + 1, k, none⟩ = some v ∧ Bad wr v := by
          have : k = 0 ∨ k = 1 := by omega
          rcases this with rfl | rfl
          · exact ⟨_, .inl rfl, by rw [cellOf (hx.obj hs0 id)]; rfl, bad_nil _⟩
          · exact ⟨_, .inr rfl, by rw [cellOf (hx.obj hs0 id)]; rfl, bad_zero (by rw [cellOf (hx.obj hq0 id)]; rfl)⟩
        obtain ⟨v, _, hcv, hbad⟩ := hv
        have e1 : (k : Int) < 2 := by omega
        obtain ⟨b0, b1, b2⟩ := three (hx.obj hb0 id)
        have HBX := Lib.hid (hx.obj hb0 id)
        have HBAD := Lib.hid hbad
        clear hbad hq0 hs0 hb0
        go_wp2_with (first
          | (go_at_call 11; (with_reducible refine (pop_bad v _ HBAD.out due).mono ?_); rintro e W4 ⟨rfl, x4⟩; have x5 := x4.andAlloc (.cells #[.int .i64 0, .int .i64 0, .slice none 0 0] 31); have HBX5 := Lib.hid (x5.obj HBX.out id); have HBAD5 := Lib.hid (HBAD.out.ext x5); have HY5 := Lib.hid (heapNew W4 (.cells #[.int .i64 0, .int .i64 0, .slice none 0 0] 31)); clear HBX HBAD; have x22 := Ext.refl NoB (W4.alloc (.cells #[.int .i64 0, .int .i64 0, .slice none 0 0] 31)); obtain ⟨b0, b1, b2⟩ := three HBX5.out)
          | (go_at_call 17; (with_reducible refine (theirs17 due dest A bs.length c _).mono ?_); rintro e W6 ⟨rfl, x6⟩; have x22 := x22.then x6)
          | (go_at_call 9; (with_reducible refine (push_bad v _ (HBAD5.out.ext x22) due dest A bs.length c).mono ?_); rintro e W7 ⟨rfl, x7⟩; have x22 := x22.then x7; obtain ⟨y0, y1, y2⟩ := three (x22.obj HY5.out id))
          | (go_at_call 14; (with_reducible refine (ours14 0 0 none 0 0 _).mono ?_); rintro e W8 ⟨rfl, x8⟩; have x22 := x22.then x8)
          | (go_at_call 13; (with_reducible refine (same_yes 0 0 none none 0 0 0 0 [] _ (Bytes.nil _) (Bytes.nil _)).mono ?_); rintro e W9 ⟨rfl, x9⟩; have x22 := x22.then x9)
          | (go_at_call 10; (with_reducible refine (len_bad v _ (HBAD5.out.ext x22)).mono ?_); rintro e W10 ⟨rfl, x10⟩; have x22 := x22.then x10)
          | (go_at_call 15; (with_reducible refine (clear_bad v _ (HBAD5.out.ext x22)).mono ?_); rintro e W11 ⟨rfl, x11⟩; have x22 := x22.then x11))
        exact ⟨⟨k + 1, by omega, by go_num, hx.then (x5.then x22)⟩, by simp [intOf]; omega⟩
      · have e1 : ¬ (k : Int) < 2 := by omega
        obtain ⟨b0, b1, b2⟩ := three (hx.obj hb0 id)
        have HBX := Lib.hid (hx.obj hb0 id)
        have X := X2.then hx
        have hbw := HB.out.ext X (fun _ _ _ h => h)
        clear hq0 hs0 hb0 X2 hx
        go_upto_region 14 with (first
          | (go_at_call 8; refine (new_yes 4 (by decide) (by decide) _).mono ?_; rintro e W2 ⟨rfl, rfl⟩; obtain ⟨b0, b1, b2⟩ := three ((Ext.alloc NoB wr (.cells #[.int .i64 4, .slice none 0 0, .int .i64 0] 53)).obj HBX.out id))
          | (at_builtin; refine wpList_own rfl _ _ rfl A c bs (hbw.ext (Ext.alloc NoB wr _) (fun _ _ _ h => h)) (by omega) rfl rfl ?_; intro A' c' W3' hO))
        obtain ⟨hel, x3, hnew⟩ := hO
        have hq3 : QS W3' wr.heap.size 4 0 [] (fun k => k = wr.heap.size) := (QS.new wr 4).ext x3 (fun _ _ h => h)
        have hx3 := ((Ext.alloc NoB wr (.cells #[.int .i64 4, .slice none 0 0, .int .i64 0] 53)).then x3)
        have hbw3 := hbw.ext hx3 (fun _ _ _ h => h)
        have hbx3 := hx3.obj HBX.out id
        have hnew' : ∀ k, (Value.slice A' bs.length c').ownBlock = some k → wr.heap.size < k := fun k hk => by have := hnew k hk; simp at this; omega
        have hlt3 := hel.lt
        have XX := X.then hx3
        have hsz := X.size
        have hbxlt := blk_lt' HBX.out
        have h3sz := hx3.size
        clear hnew hx3 x3 hbw HBX X b0 b1 b2
        have X0lt : w.heap.size < wr.heap.size := by have := hbxlt; omega
        by_cases hle : bs.length ≤ 4096
        · have hpush := push_any hq3 (by decide) (by decide) (by decide) (by decide) 1 0 A' c' bs hel.bytes hl63
          have hpl : ∀ nn' L', PushL 4 0 [] 1 0 bs nn' L' → ∃ A2 c2, L' = [(⟨1, 0, A2, bs.length, c2, 1⟩, bs)] := fun nn' L' h => by
            rcases h with ⟨_, _, _, A2, c2, h⟩ | ⟨h, _⟩
            · exact ⟨A2, c2, by rw [h]; rfl⟩
            · exact absurd (pushE_le _ hle) h
          rw [pushE_le _ hle] at hpush
          have HPU := Lib.hid hpush
          have HPL := Lib.hid hpl
          have l2 : (bs.length : Int) ≤ 4096 := by omega
          clear hpush hpl
          go_wp2_with (first
            | (go_at_call 9; (with_reducible refine HPU.out.mono ?_); rintro e W4 ⟨rfl, nn', L', hq4, x4, hP⟩))
          clear HPU hq3
          have hnF : ∀ k, (k = wr.heap.size ∨ W3'.heap.size ≤ k) → ¬ (Value.slice A' bs.length c').ownBlock = some k := fun k hk e => by
            have h1 := hnew' k e
            have h2 := hlt3 k e
            omega
          have hel4 := hel.ext x4 (fun k hk e => by have := hnew' k hk; omega)
          have hbx4 := x4.obj hbx3 (by omega)
          have XX4 := XX.below (Nat.le_refl _) (fun _ h => h.elim)
          have XB4 := XX4.trans (x4.below (B := w.heap.size) XX.size fun k hk => by rw [hk]; exact hsz)
          have hown : ∀ k, (Value.slice A' bs.length c').ownBlock = some k → w.heap.size ≤ k := fun k hk => by have := hnew' k hk; omega
          have hz4 := XB4.size
          clear hel hbw3 hbx3 x4 XX XX4
          go_loopw [79] (fun i W => ∃ (m : Nat) (xs : List Int), m ≤ bs.length ∧ i = .int .i64 m ∧ xs.length = bs.length ∧ El W (.slice A' bs.length c') xs ∧ Ext (fun j => (Value.slice A' bs.length c').ownBlock = some j) W4 W) (fun i _ => bs.length - (intOf i).toNat)
          case atStart => exact ⟨0, bs, by omega, rfl, rfl, hel4, Ext.refl _ _⟩
          case round =>
            rename_i wr2 _
            clear hel4
            obtain ⟨m, xs, hm, rfl, hxs, hel, hx⟩ := hrel
            by_cases hlt : m < bs.length
            · have m1 : (m : Int) < (bs.length : Int) := by omega
              obtain ⟨g, o, c2, hv, k1, k2, k3, k4⟩ := hel.at (j := m) (by omega)
              injection hv with e1 e2 e3
              clear e2
              subst e1
              have hset := fun v => hel.set (j := m) (by omega) v
              have HSET := Lib.hid hset
              have HE := Lib.hid e3
              clear hset hel e3
              go_wp2_with fail
              exact ⟨⟨m + 1, _, by omega, by go_num, by simpa using hxs, HSET.out _, hx.andSet _ _ fun _ => rfl⟩, by simp [intOf]; omega⟩
            · have m1 : ¬ (m : Int) < (bs.length : Int) := by omega
              have hq5 := hq4.ext hx hnF
              have hbx5 := hx.obj hbx4 (fun e => by have := hnew' _ e; omega)
              have XB5 := XB4.trans (hx.below (B := w.heap.size) XB4.size fun k hk => hown k hk)
              clear hel hx hbx4 XB4 hq4

              obtain ⟨A2, c2, rfl⟩ := HPL.out nn' L' hP
              have hpop := pop_some hq5 (by decide) 1 0 (by simp) (best_one 1 rfl) (by simp)
              have HPOP := Lib.hid hpop
              have HXB := Lib.hid hbx5
              clear hpop hP hq5 hbx5
              go_wp2_with fail
              refine HPOP.out.mono ?_
              rintro e W6 ⟨rfl, hq6, x6, hel6⟩
              have x7 := x6.andAlloc (.cells #[.int .i64 1, .int .i64 0, .slice A2 bs.length c2] 31)
              have hel7 : El W6 (.slice A2 bs.length c2) bs := hel6 bs (by simp)
              have s1 := str_bytes (hel7.bytes.ext (Ext.alloc NoB W6 (.cells #[.int .i64 1, .int .i64 0, .slice A2 bs.length c2] 31)) (fun _ _ _ h => h))
              have XB7 := XB5.trans (x7.below (B := w.heap.size) XB5.size fun k hk => by rcases hk with hk | hk <;> omega)
              have s2 := str_bytes (HB.out.ext (Ext.ofBelow XB7 NoB) (fun _ _ _ h => h))
              obtain ⟨y0, y1, y2⟩ := three (heapNew W6 (.cells #[.int .i64 1, .int .i64 0, .slice A2 bs.length c2] 31))
              obtain ⟨b0, b1, b2⟩ := three (x7.obj HXB.out (fun hk => by rcases hk with hk | hk <;> omega))
              clear hel6 hel7 hq6 x6
              generalize strOfNums bs = str at s1 s2
              go_wp2_with fail
              go_ret
              exact ⟨rfl, XB7⟩
        · have hpush := push_any hq3 (by decide) (by decide) (by decide) (by decide) 1 0 A' c' bs hel.bytes hl63
          have hpl : ∀ nn' L', PushL 4 0 [] 1 0 bs nn' L' → L' = [] := fun nn' L' h => by
            rcases h with ⟨h, _⟩ | ⟨_, _, h⟩
            · rw [pushE_gt _ (by omega)] at h; exact absurd h (by decide)
            · exact h
          rw [pushE_gt _ (by omega)] at hpush
          have HPU := Lib.hid hpush
          have HPL := Lib.hid hpl
          have l2 : (4096 : Int) < (bs.length : Int) := by omega
          clear hpush hpl
          go_wp2_with (first
            | (go_at_call 9; (with_reducible refine HPU.out.mono ?_); rintro e W4 ⟨rfl, nn', L', hq4, x4, hP⟩))
          clear HPU hq3
          have hnF : ∀ k, (k = wr.heap.size ∨ W3'.heap.size ≤ k) → ¬ (Value.slice A' bs.length c').ownBlock = some k := fun k hk e => by
            have h1 := hnew' k e
            have h2 := hlt3 k e
            omega
          have hel4 := hel.ext x4 (fun k hk e => by have := hnew' k hk; omega)
          have hbx4 := x4.obj hbx3 (by omega)
          have XX4 := XX.below (Nat.le_refl _) (fun _ h => h.elim)
          have XB4 := XX4.trans (x4.below (B := w.heap.size) XX.size fun k hk => by rw [hk]; exact hsz)
          have hown : ∀ k, (Value.slice A' bs.length c').ownBlock = some k → w.heap.size ≤ k := fun k hk => by have := hnew' k hk; omega
          have hz4 := XB4.size
          clear hel hbw3 hbx3 x4 XX XX4
          go_loopw [79] (fun i W => ∃ (m : Nat) (xs : List Int), m ≤ bs.length ∧ i = .int .i64 m ∧ xs.length = bs.length ∧ El W (.slice A' bs.length c') xs ∧ Ext (fun j => (Value.slice A' bs.length c').ownBlock = some j) W4 W) (fun i _ => bs.length - (intOf i).toNat)
          case atStart => exact ⟨0, bs, by omega, rfl, rfl, hel4, Ext.refl _ _⟩
          case round =>
            rename_i wr2 _
            clear hel4
            obtain ⟨m, xs, hm, rfl, hxs, hel, hx⟩ := hrel
            by_cases hlt : m < bs.length
            · have m1 : (m : Int) < (bs.length : Int) := by omega
              obtain ⟨g, o, c2, hv, k1, k2, k3, k4⟩ := hel.at (j := m) (by omega)
              injection hv with e1 e2 e3
              clear e2
              subst e1
              have hset := fun v => hel.set (j := m) (by omega) v
              have HSET := Lib.hid hset
              have HE := Lib.hid e3
              clear hset hel e3
              go_wp2_with fail
              exact ⟨⟨m + 1, _, by omega, by go_num, by simpa using hxs, HSET.out _, hx.andSet _ _ fun _ => rfl⟩, by simp [intOf]; omega⟩
            · have m1 : ¬ (m : Int) < (bs.length : Int) := by omega
              have hq5 := hq4.ext hx hnF
              have hbx5 := hx.obj hbx4 (fun e => by have := hnew' _ e; omega)
              have XB5 := XB4.trans (hx.below (B := w.heap.size) XB4.size fun k hk => hown k hk)
              clear hel hx hbx4 XB4 hq4

              obtain rfl := HPL.out nn' L' hP
              have hpop : Calls Try.prog 11 #[.pointer (some ⟨_, 0, none⟩), .int .i64 1] _ fun e w' => e = .returned (.tuple #[.agg #[.int .i64 0, .int .i64 0, .slice none 0 0], .int .i64 9]) ∧ Ext NoB _ w' := pop_none hq5 (by decide) 1 (fun e he => by simp at he)
              have HPOP := Lib.hid hpop
              have HXB := Lib.hid hbx5
              clear hpop hP hq5 hbx5
              go_wp2_with fail
              refine HPOP.out.mono ?_
              rintro e W6 ⟨rfl, x6⟩
              have x7 := x6.andAlloc (.cells #[.int .i64 0, .int .i64 0, .slice none 0 0] 31)
              have XB7 := XB5.trans (x7.below (B := w.heap.size) XB5.size fun k hk => hk.elim)
              obtain ⟨y0, y1, y2⟩ := three (heapNew W6 (.cells #[.int .i64 0, .int .i64 0, .slice none 0 0] 31))
              obtain ⟨b0, b1, b2⟩ := three (x7.obj HXB.out id)
              clear x6
              go_wp2_with fail
              go_ret
              exact ⟨rfl, XB7⟩
  · have l1 : (5000 : Int) < (bs.length : Int) := by omega
    go_enter Try.func5, Try.ntmps5
    go_wp2_with (first
      | (go_at_call 7; refine (alive_any _).mono ?_; rintro e W1 ⟨rfl, x1⟩; have hbx1 := x1.obj hbx0 id; obtain ⟨b0, b1, b2⟩ := three hbx1))
    go_ret
    exact ⟨rfl, (x0.then x1).below (Nat.le_refl _) fun _ h => h.elim⟩
end Go.Proofs.Ytaphhadahajohaa
