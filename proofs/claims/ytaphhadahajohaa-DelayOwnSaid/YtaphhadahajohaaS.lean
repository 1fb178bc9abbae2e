/-
  Push and Pop of the queue in one contract each; DelayLens returns true: the walk.
-/
import Derived.Test.YtaphhadahajohaaOpen
set_option linter.unusedVariables false
set_option linter.unusedSimpArgs false
namespace Go.Proofs.Ytaphhadahajohaa
open Go.RowKit

def pushE (room : Int) (n : Nat) (due dest : Int) (l : Nat) : Int := if mayB due dest l = true then (if room ≤ n then 8 else 0) else 2
/-- What waits behind a Push. -/
def PushL (room nn : Int) (L : List (It × List Int)) (due dest : Int) (bs : List Int) (nn' : Int) (L' : List (It × List Int)) : Prop :=
  (pushE room L.length due dest bs.length = 0 ∧ L.length < room ∧ nn' = nn + 1 ∧ ∃ A c, L' = L ++ [(⟨due, dest, A, bs.length, c, nn + 1⟩, bs)]) ∨ (pushE room L.length due dest bs.length ≠ 0 ∧ nn' = nn ∧ L' = L)
theorem push_any {F : Nat → Prop} {w : World} {p : Nat} {room nn : Int} {L : List (It × List Int)} (h : QS w p room nn L F) (hr : 0 < room) (hr2 : room ≤ 4096) (hn0 : 0 ≤ nn) (hn1 : nn ≤ 1000000) (due dest : Int) (A : Option Addr) (c : Nat) (bs : List Int) (hb0 : Bytes w (.slice A bs.length c) bs) (hl : bs.length ≤ 9223372036854775807) :
    Calls Try.prog 9 #[.pointer (some ⟨p, 0, none⟩), .agg #[.int .i64 due, .int .i64 dest, .slice A bs.length c]] w fun e w' => e = .returned (.int .i64 (pushE room L.length due dest bs.length)) ∧ ∃ nn' L', QS w' p room nn' L' (fun k => F k ∨ w.heap.size ≤ k) ∧ Ext F w w' ∧ PushL room nn L due dest bs nn' L' := by
  by_cases hm : mayB due dest bs.length = true
  · by_cases hf : room ≤ (L.length : Int)
    · have hE : pushE room L.length due dest bs.length = 8 := by unfold pushE; rw [if_pos hm, if_pos hf]
      refine (push_full h hr due dest A _ c hl hm hf).mono ?_
      rintro e w' ⟨h1, x⟩
      exact ⟨by rw [hE]; exact h1, nn, L, (h.ext x (fun _ _ h => h)).mono (fun _ _ h => .inl h), x.mono fun _ _ h => h.elim, .inr ⟨by rw [hE]; decide, rfl, rfl⟩⟩
    · have hE : pushE room L.length due dest bs.length = 0 := by unfold pushE; rw [if_pos hm, if_neg hf]
      refine (push_ok h hr hr2 hn0 hn1 due dest A c bs hb0 hm (by omega)).mono ?_
      rintro e w' ⟨h1, ⟨A', c', h2⟩, h3⟩
      exact ⟨by rw [hE]; exact h1, nn + 1, _, h2, h3, .inl ⟨hE, by omega, rfl, A', c', rfl⟩⟩
  · have hm' : mayB due dest bs.length = false := by simpa using hm
    have hE : pushE room L.length due dest bs.length = 2 := by unfold pushE; rw [if_neg hm]
    refine (push_arg h hr due dest A _ c hl hm').mono ?_
    rintro e w' ⟨h1, x⟩
    exact ⟨by rw [hE]; exact h1, nn, L, (h.ext x (fun _ _ h => h)).mono (fun _ _ h => .inl h), x.mono fun _ _ h => h.elim, .inr ⟨by rw [hE]; decide, rfl, rfl⟩⟩
theorem dues_len (L : List (It × List Int)) : (dues L).length = L.length := by simp [dues]
/-- What a Pop answers, and what waits behind it. -/
def popI (L : List (It × List Int)) (now : Int) : Option Nat := bst (dues L) now L.length
def popL (L : List (It × List Int)) (now : Int) : List (It × List Int) := match popI L now with | none => L | some i => L.eraseIdx i
def popX (L : List (It × List Int)) (now : Int) : It := match popI L now with | none => ⟨0, 0, none, 0, 0, 0⟩ | some i => (L.getD i default).1
def popB (L : List (It × List Int)) (now : Int) : List Int := match popI L now with | none => [] | some i => (L.getD i default).2
def popE (L : List (It × List Int)) (now : Int) : Int := match popI L now with | none => 9 | some i => 0
theorem popI_lt {L : List (It × List Int)} {now : Int} {i : Nat} (h : popI L now = some i) : i < L.length := (bst_lt _ _ _ _ h).1
theorem popL_len (L : List (It × List Int)) (now : Int) : (popE L now = 0 ∧ (popL L now).length + 1 = L.length) ∨ (popE L now = 9 ∧ popL L now = L) := by
  unfold popE popL
  cases h : popI L now with
  | none => exact .inr ⟨rfl, rfl⟩
  | some i =>
    have := popI_lt h
    exact .inl ⟨rfl, by simp only []; rw [List.length_eraseIdx_of_lt this]; omega⟩
theorem pop_any {F : Nat → Prop} {w : World} {p : Nat} {room nn : Int} {L : List (It × List Int)} (h : QS w p room nn L F) (hr : 0 < room) (now : Int) (hL : L.length ≤ 1000000) :
    Calls Try.prog 11 #[.pointer (some ⟨p, 0, none⟩), .int .i64 now] w fun e w' => e = .returned (.tuple #[.agg #[.int .i64 (popX L now).due, .int .i64 (popX L now).dest, (popX L now).b], .int .i64 (popE L now)]) ∧ QS w' p room nn (popL L now) F ∧ Ext F w w' ∧ Bytes w' (popX L now).b (popB L now) := by
  unfold popX popE popL popB
  cases hi : popI L now with
  | none =>
    refine (pop_none h hr now (fun e he => ?_)).mono ?_
    · obtain ⟨j, hj, rfl⟩ := List.mem_iff_getElem.1 he
      have := bst_none (D := dues L) (now := now) (by rw [dues_len]; exact hi) j (by rw [dues_len]; exact hj)
      rw [dues_at hj] at this
      exact this
    · rintro e w' ⟨h1, x⟩
      exact ⟨h1, h.ext x (fun _ _ h => h), x.mono fun _ _ h => h.elim, Bytes.nil _⟩
  | some i =>
    have hil := popI_lt hi
    have e1 : L.getD i default = L[i] := by rw [List.getD_eq_getElem?_getD, List.getElem?_eq_getElem hil]; rfl
    simp only [e1]
    refine (pop_some h hr now i hil (bst_best (by rw [dues_len]; exact hi)) hL).mono ?_
    rintro e w' ⟨h1, h2, h3, h4⟩
    exact ⟨h1, h2, h3, (h4 L[i].2 (List.getElem_mem hil)).bytes⟩

theorem Bytes.len63 {w : World} {v : Value} {bs : List Int} (h : Bytes w v bs) : bs.length ≤ 9223372036854775807 := by
  obtain ⟨A, c, _, h1, h2, _⟩ := h.shape
  unfold maxLen at h2; omega
/-- The queue behind some rounds. -/
def LensRel (w : World) (p : Nat) (room : Int) (k : Nat) (cnt : Int) (wr : World) : Prop :=
  ∃ nn L F, QS wr p room nn L F ∧ (∀ k, F k → w.heap.size ≤ k) ∧ 0 ≤ nn ∧ nn ≤ k ∧ (L.length : Int) = cnt ∧ L.length ≤ k ∧ (L.length : Int) ≤ room ∧ Below w.heap.size w wr
theorem LensRel.next {w wr W : World} {p : Nat} {room : Int} {k : Nat} {nn nn' : Int} {L' : List (It × List Int)} {F G : Nat → Prop} (hbl : Below w.heap.size w wr) (hF : ∀ k, F k → w.heap.size ≤ k) (hx : Ext F wr W) (hq : QS W p room nn' L' G) (hG : ∀ k, G k → F k ∨ wr.heap.size ≤ k) (h0 : 0 ≤ nn) (h1 : nn ≤ k) (h2 : nn ≤ nn') (h3 : nn' ≤ nn + 1) (hl : L'.length ≤ k + 1) (hr : (L'.length : Int) ≤ room) :
    LensRel w p room (k + 1) L'.length W :=
  ⟨nn', L', G, hq, fun k hk => (hG k hk).elim (hF k) (fun h => Nat.le_trans hbl.size h), by omega, by omega, rfl, hl, hr, hbl.trans (hx.below hbl.size fun k h => hF k h)⟩
set_option maxHeartbeats 3200000 in
set_option maxRecDepth 100000 in
theorem lens_walk (s : Int) (hs0 : 0 ≤ s) (hs1 : s ≤ 255) (A0 : Option Addr) (n c0 : Nat) (w : World) (ha : Acts w A0 n) :
    Calls Try.prog 6 #[.int .u8 s, .slice A0 n c0] w fun e w' => e = .returned (.bool true) ∧ Below w.heap.size w w' := by
  have hn63 := ha.1
  unfold maxLen at hn63
  have Ha := Lib.hid ha
  clear ha
  go_enter Try.func6, Try.ntmps6
  go_wp2_with (first
    | (go_at_call 7; refine (alive_any _).mono ?_; rintro e W1 ⟨rfl, x1⟩)
    | (go_at_call 8; refine (new_yes (s + 1) (by omega) (by omega) _).mono ?_; rintro e W2 ⟨rfl, rfl⟩))
  have hq : LensRel w W1.heap.size (s + 1) 0 0 (W1.alloc (.cells #[.int .i64 (s + 1), .slice none 0 0, .int .i64 0] 53)) :=
    ⟨0, [], _, QS.new W1 (s + 1), fun k hk => by rw [hk]; exact x1.size, by omega, by omega, rfl, by simp, by simp; omega, (x1.andAlloc _).below (Nat.le_refl _) fun _ h => h.elim⟩
  go_loopw [7, 6] (fun i cnt W => ∃ (k : Nat) (t : Int), k ≤ n ∧ k ≤ 100 ∧ i = .int .i64 k ∧ cnt = .int .i64 t ∧ LensRel w W1.heap.size (s + 1) k t W) (fun i _ _ => n - (intOf i).toNat)
  case atStart => exact ⟨0, 0, Nat.zero_le _, Nat.zero_le _, rfl, rfl, hq⟩
  case round =>
    clear hq
    obtain ⟨k, t, hk, hk2, rfl, rfl, nn, L, F, hq, hF, hn0, hn1, ht, hLk, hLr, hbl⟩ := hrel
    subst ht
    rcases Nat.lt_or_ge k n with hlt | hge
    · rcases Nat.lt_or_ge k 100 with hlt2 | hge2
      · obtain ⟨b, o, kd, due, dest, Ab, c, bs, rfl, hb, hkd0, hkd1, d0, d1, d2, d3⟩ := Acts.at' Ha.out hbl hlt
        have n1 : (k : Int) < (n : Int) := by omega
        have n2 : (k : Int) < 100 := by omega
        have hbw := hb.later hbl
        have hbx : ∀ ob, Ext NoB wr (wr.alloc ob) := fun ob => Ext.alloc NoB wr ob
        have hb63 := hb.len63
        by_cases hbig : 5000 < bs.length
        · have e1 : (5000 : Int) < (bs.length : Int) := by omega
          go_wp2_with fail
          have hR := LensRel.next (nn := nn) (k := k) hbl hF ((hbx (.cells #[.int .u8 kd, .int .i64 due, .int .i64 dest, .slice Ab bs.length c] 40)).mono fun _ _ h => h.elim) (hq.ext (hbx (.cells #[.int .u8 kd, .int .i64 due, .int .i64 dest, .slice Ab bs.length c] 40)) (fun _ _ h => h)) (fun k h => .inl h) hn0 hn1 (by omega) (by omega) (by omega) (by omega)
          exact ⟨⟨k + 1, (L.length : Int), by omega, by omega, by go_num, rfl, hR⟩, by simp [intOf]; omega⟩
        · have e1 : (bs.length : Int) ≤ 5000 := by omega
          have hq1 := hq.ext (hbx (.cells #[.int .u8 kd, .int .i64 due, .int .i64 dest, .slice Ab bs.length c] 40)) (fun _ _ h => h)
          have hbx' : ∀ F, Ext F wr (wr.alloc (.cells #[.int .u8 kd, .int .i64 due, .int .i64 dest, .slice Ab bs.length c] 40)) := fun F => Ext.alloc F wr _
          have hk8 : kd % 8 = 5 ∨ kd % 8 = 6 ∨ kd % 8 = 7 ∨ (kd % 8 ≠ 5 ∧ kd % 8 ≠ 6 ∧ kd % 8 ≠ 7) := by omega
          clear hbx hq hbig
          rcases hk8 with hk8 | hk8 | hk8 | ⟨hk5, hk6, hk7⟩
          · have hc := fun W hW => pop_any (F := F) (w := W) (p := W1.heap.size) (room := s + 1) (nn := nn) (L := L) hW (by omega) due (by omega)
            rcases popL_len L due with ⟨hE, hlen⟩ | ⟨hE, hLL⟩
            · have e2 : ((popL L due).length : Int) = (L.length : Int) - 1 := by omega
              have e3 : (1 : Int) ≤ (L.length : Int) := by omega
              rw [hE] at hc
              generalize popX L due = x at hc
              obtain ⟨xd, xt, xA, xl, xc, xn⟩ := x
              generalize hPL : popL L due = L' at hc e2 hlen
              have HC := Lib.hid hc
              clear hc hE hPL
              go_wp2_with (first
                | ((go_at_call 11; (with_reducible refine (HC.out _ hq1).mono ?_)); rintro e W2 ⟨rfl, hq2, x2, _⟩; have hq3 := (hq2.mono (G := fun k => F k ∧ k < W2.heap.size) (fun k hk h => ⟨h, hk⟩)).ext (Ext.alloc NoB W2 (.cells #[.int .i64 xd, .int .i64 xt, .slice xA xl xc] 31)) (fun _ _ h => h); have X3 := ((hbx' F).then x2).andAlloc (.cells #[.int .i64 xd, .int .i64 xt, .slice xA xl xc] 31); clear hq2 x2)
                | ((go_at_call 10; (with_reducible refine (len10 hq3 (by omega)).mono ?_)); rintro e W4 ⟨rfl, x4⟩; have hR := LensRel.next (nn := nn) (k := k) hbl hF (X3.then (x4.mono fun _ _ h => h.elim)) (hq3.ext x4 (fun _ _ h => h)) (fun k h => .inl h.1) hn0 hn1 (by omega) (by omega) (by omega) (by omega); rw [e2] at hR; clear hq3 X3 x4))
              exact ⟨⟨k + 1, (L.length : Int) - 1, by omega, by omega, by go_num, rfl, hR⟩, by simp [intOf]; omega⟩
            · rw [hE, hLL] at hc
              generalize popX L due = x at hc
              obtain ⟨xd, xt, xA, xl, xc, xn⟩ := x
              have HC := Lib.hid hc
              clear hc hE hLL
              go_wp2_with (first
                | ((go_at_call 11; (with_reducible refine (HC.out _ hq1).mono ?_)); rintro e W2 ⟨rfl, hq2, x2, _⟩; have hq3 := (hq2.mono (G := fun k => F k ∧ k < W2.heap.size) (fun k hk h => ⟨h, hk⟩)).ext (Ext.alloc NoB W2 (.cells #[.int .i64 xd, .int .i64 xt, .slice xA xl xc] 31)) (fun _ _ h => h); have X3 := ((hbx' F).then x2).andAlloc (.cells #[.int .i64 xd, .int .i64 xt, .slice xA xl xc] 31); clear hq2 x2)
                | ((go_at_call 10; (with_reducible refine (len10 hq3 (by omega)).mono ?_)); rintro e W4 ⟨rfl, x4⟩; have hR := LensRel.next (nn := nn) (k := k) hbl hF (X3.then (x4.mono fun _ _ h => h.elim)) (hq3.ext x4 (fun _ _ h => h)) (fun k h => .inl h.1) hn0 hn1 (by omega) (by omega) (by omega) (by omega); clear hq3 X3 x4))
              exact ⟨⟨k + 1, (L.length : Int), by omega, by omega, by go_num, rfl, hR⟩, by simp [intOf]; omega⟩
          · have hc := fun W hW => pop_any (F := F) (w := W) (p := W1.heap.size) (room := s + 1) (nn := nn) (L := L) hW (by omega) due (by omega)
            rcases popL_len L due with ⟨hE, hlen⟩ | ⟨hE, hLL⟩
            · have e2 : ((popL L due).length : Int) = (L.length : Int) - 1 := by omega
              have e3 : (1 : Int) ≤ (L.length : Int) := by omega
              rw [hE] at hc
              generalize popX L due = x at hc
              obtain ⟨xd, xt, xA, xl, xc, xn⟩ := x
              generalize hPL : popL L due = L' at hc e2 hlen
              have HC := Lib.hid hc
              clear hc hE hPL
              go_wp2_with (first
                | ((go_at_call 11; (with_reducible refine (HC.out _ hq1).mono ?_)); rintro e W2 ⟨rfl, hq2, x2, _⟩; have hq3 := (hq2.mono (G := fun k => F k ∧ k < W2.heap.size) (fun k hk h => ⟨h, hk⟩)).ext (Ext.alloc NoB W2 (.cells #[.int .i64 xd, .int .i64 xt, .slice xA xl xc] 31)) (fun _ _ h => h); have X3 := ((hbx' F).then x2).andAlloc (.cells #[.int .i64 xd, .int .i64 xt, .slice xA xl xc] 31); clear hq2 x2)
                | ((go_at_call 10; (with_reducible refine (len10 hq3 (by omega)).mono ?_)); rintro e W4 ⟨rfl, x4⟩; have hR := LensRel.next (nn := nn) (k := k) hbl hF (X3.then (x4.mono fun _ _ h => h.elim)) (hq3.ext x4 (fun _ _ h => h)) (fun k h => .inl h.1) hn0 hn1 (by omega) (by omega) (by omega) (by omega); rw [e2] at hR; clear hq3 X3 x4))
              exact ⟨⟨k + 1, (L.length : Int) - 1, by omega, by omega, by go_num, rfl, hR⟩, by simp [intOf]; omega⟩
            · rw [hE, hLL] at hc
              generalize popX L due = x at hc
              obtain ⟨xd, xt, xA, xl, xc, xn⟩ := x
              have HC := Lib.hid hc
              clear hc hE hLL
              go_wp2_with (first
                | ((go_at_call 11; (with_reducible refine (HC.out _ hq1).mono ?_)); rintro e W2 ⟨rfl, hq2, x2, _⟩; have hq3 := (hq2.mono (G := fun k => F k ∧ k < W2.heap.size) (fun k hk h => ⟨h, hk⟩)).ext (Ext.alloc NoB W2 (.cells #[.int .i64 xd, .int .i64 xt, .slice xA xl xc] 31)) (fun _ _ h => h); have X3 := ((hbx' F).then x2).andAlloc (.cells #[.int .i64 xd, .int .i64 xt, .slice xA xl xc] 31); clear hq2 x2)
                | ((go_at_call 10; (with_reducible refine (len10 hq3 (by omega)).mono ?_)); rintro e W4 ⟨rfl, x4⟩; have hR := LensRel.next (nn := nn) (k := k) hbl hF (X3.then (x4.mono fun _ _ h => h.elim)) (hq3.ext x4 (fun _ _ h => h)) (fun k h => .inl h.1) hn0 hn1 (by omega) (by omega) (by omega) (by omega); clear hq3 X3 x4))
              exact ⟨⟨k + 1, (L.length : Int), by omega, by omega, by go_num, rfl, hR⟩, by simp [intOf]; omega⟩
          · have hc := clear15 hq1 (by omega)
            have HC := Lib.hid hc
            have hown := hq1.own
            clear hc
            go_wp2_with (first
              | (go_at_call 15; refine HC.out.mono ?_; rintro e W2 ⟨rfl, hq2, x2⟩; have X2 := (hbx' F).then (x2.mono fun k _ h => by rw [h]; exact hown))
              | ((go_at_call 10; (with_reducible refine (len10 hq2 (by omega)).mono ?_)); rintro e W4 ⟨rfl, x4⟩; have hR := LensRel.next (nn := nn) (k := k) hbl hF (X2.then (x4.mono fun _ _ h => h.elim)) (hq2.ext x4 (fun _ _ h => h)) (fun k h => .inl h) hn0 hn1 (by omega) (by omega) (by simp) (by simp; omega); clear hq2 X2 x4))
            exact ⟨⟨k + 1, 0, by omega, by omega, by go_num, rfl, hR⟩, by simp [intOf]; omega⟩
          · have f5 : (kd % 8 == 5) = false := by simp; exact hk5
            have f6 : (kd % 8 == 6) = false := by simp; exact hk6
            have f7 : (kd % 8 == 7) = false := by simp; exact hk7
            have hc := fun W (hW : QS W W1.heap.size (s + 1) nn L F) hbW => push_any hW (by omega) (by omega) hn0 (by omega) due dest Ab c bs hbW hb63
            clear hk5 hk6 hk7
            by_cases hE : pushE (s + 1) L.length due dest bs.length = 0
            · have hP : ∀ nn' L', PushL (s + 1) nn L due dest bs nn' L' → nn ≤ nn' ∧ nn' ≤ nn + 1 ∧ (L'.length : Int) = (L.length : Int) + 1 ∧ (L.length : Int) + 1 ≤ s + 1 := fun nn' L' h => by
                rcases h with ⟨_, h1, h2, A', c', h3⟩ | ⟨h, _⟩
                · rw [h3]; simp; omega
                · exact absurd hE h
              rw [hE] at hc
              have HP := Lib.hid hP
              have HC := Lib.hid hc
              clear hc hP hE
              have e9 : (s : Int) + 1 ≤ 256 := by omega
              go_wp2_with (first
                | ((go_at_call 17; refine (theirs17 due dest Ab bs.length c _).mono ?_); rintro e W2 ⟨rfl, x2⟩; have hq2 := hq1.ext x2 (fun _ _ h => h); have hb2 := hbw.ext ((hbx' NoB).then x2) (fun _ _ _ h => h))
                | ((go_at_call 9; (with_reducible refine (HC.out _ hq2 hb2).mono ?_)); rintro e W3 ⟨rfl, nn', L', hq3, x3, hP⟩; have X3 := ((hbx' F).then (x2.mono fun _ _ h => h.elim)).then x3; have Z3 := ((hbx' NoB).then x2).size; obtain ⟨p1, p2, p3, p4⟩ := HP.out nn' L' hP; clear hP)
                | ((go_at_call 10; (with_reducible refine (len10 hq3 (by omega)).mono ?_)); rintro e W4 ⟨rfl, x4⟩; have hR := LensRel.next (nn := nn) (k := k) hbl hF (X3.then (x4.mono fun _ _ h => h.elim)) (hq3.ext x4 (fun _ _ h => h)) (fun k h => h.imp id (fun h => Nat.le_trans Z3 h)) hn0 hn1 (by omega) (by omega) (by omega) (by omega); rw [p3] at hR; clear hq3 X3 x4))
              exact ⟨⟨k + 1, (L.length : Int) + 1, by omega, by omega, by go_num, rfl, hR⟩, by simp [intOf]; omega⟩
            · have hP : ∀ nn' L', PushL (s + 1) nn L due dest bs nn' L' → nn ≤ nn' ∧ nn' ≤ nn + 1 ∧ (L'.length : Int) = (L.length : Int) ∧ (L.length : Int) ≤ s + 1 := fun nn' L' h => by
                rcases h with ⟨h, _⟩ | ⟨_, h2, h3⟩
                · exact absurd h hE
                · rw [h3]; omega
              have hE' : (pushE (s + 1) L.length due dest bs.length == 0) = false := beq_eq_false_iff_ne.2 hE
              generalize pushE (s + 1) L.length due dest bs.length = E at hc hE'
              have HP := Lib.hid hP
              have HC := Lib.hid hc
              clear hc hP hE
              go_wp2_with (first
                | ((go_at_call 17; refine (theirs17 due dest Ab bs.length c _).mono ?_); rintro e W2 ⟨rfl, x2⟩; have hq2 := hq1.ext x2 (fun _ _ h => h); have hb2 := hbw.ext ((hbx' NoB).then x2) (fun _ _ _ h => h))
                | ((go_at_call 9; (with_reducible refine (HC.out _ hq2 hb2).mono ?_)); rintro e W3 ⟨rfl, nn', L', hq3, x3, hP⟩; have X3 := ((hbx' F).then (x2.mono fun _ _ h => h.elim)).then x3; have Z3 := ((hbx' NoB).then x2).size; obtain ⟨p1, p2, p3, p4⟩ := HP.out nn' L' hP; clear hP)
                | ((go_at_call 10; (with_reducible refine (len10 hq3 (by omega)).mono ?_)); rintro e W4 ⟨rfl, x4⟩; have hR := LensRel.next (nn := nn) (k := k) hbl hF (X3.then (x4.mono fun _ _ h => h.elim)) (hq3.ext x4 (fun _ _ h => h)) (fun k h => h.imp id (fun h => Nat.le_trans Z3 h)) hn0 hn1 (by omega) (by omega) (by omega) (by omega); rw [p3] at hR; clear hq3 X3 x4))
              exact ⟨⟨k + 1, (L.length : Int), by omega, by omega, by go_num, rfl, hR⟩, by simp [intOf]; omega⟩
      · have hk100 : k = 100 := by omega
        have e1 : ¬ (k : Int) < 100 := by omega
        clear hq
        go_wp2_with fail
        go_ret
        exact ⟨rfl, hbl⟩
    · have e1 : ¬ (k : Int) < (n : Int) := by omega
      clear hq
      go_wp2_with fail
      go_ret
      exact ⟨rfl, hbl⟩
end Go.Proofs.Ytaphhadahajohaa
