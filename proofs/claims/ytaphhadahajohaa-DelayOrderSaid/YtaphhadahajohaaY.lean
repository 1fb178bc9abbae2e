/-
  DelayOrder returns true: the walk.
-/
import Derived.Test.YtaphhadahajohaaXa
import Derived.BigQuiet
import Derived.Test.YtaphhadahajohaaOpenI
import Derived.IntWalk
set_option linter.unusedVariables false
set_option linter.unusedSimpArgs false
namespace Go.Proofs.Ytaphhadahajohaa
open Go.RowKit
/-- Behind k pushes. -/
def PuRel (w : World) (p : Nat) (now : Int) (k : Nat) (cnt : Int) (W : World) : Prop :=
  ∃ nn L F, QS W p 4096 nn L F ∧ (∀ k, F k → w.heap.size ≤ k) ∧ Sg k L ∧ L.length ≤ k ∧ 0 ≤ nn ∧ nn ≤ k ∧ (cntD L now : Int) = cnt ∧ Below w.heap.size w W
theorem push_one {F : Nat → Prop} {w : World} {p : Nat} {nn : Int} {L : List (It × List Int)} (hq : QS w p 4096 nn L F) (k : Nat) (hS : Sg k L) (hL : L.length ≤ k) (hk : k < 100) (hn0 : 0 ≤ nn) (hn1 : nn ≤ k) (due dest : Int) (g : Nat) (hc : w.cell? ⟨g, 0, none⟩ = some (.int .u8 k)) (E : Int) (hE : pushE 4096 L.length due dest 1 = E) :
    Calls Try.prog 9 #[.pointer (some ⟨p, 0, none⟩), .agg #[.int .i64 due, .int .i64 dest, .slice (some ⟨g, 0, none⟩) 1 1]] w fun e w' => e = .returned (.int .i64 E) ∧ ∃ nn' L', QS w' p 4096 nn' L' (fun k => F k ∨ w.heap.size ≤ k) ∧ Ext F w w' ∧ Sg (k + 1) L' ∧ L'.length ≤ k + 1 ∧ 0 ≤ nn' ∧ nn' ≤ k + 1 ∧ ∀ now, cntD L' now = cntD L now + (if E = 0 ∧ due ≤ now then 1 else 0) := by
  have hb : Bytes w (.slice (some ⟨g, 0, none⟩) [(k : Int)].length 1) [(k : Int)] := .inr ⟨_, 1, rfl, by simp, by unfold maxLen; simp, fun j hj => by
    have : j = 0 := by simp at hj; omega
    subst this
    rw [add_none]
    exact hc⟩
  refine (push_any hq (by decide) (by decide) hn0 (by omega) due dest _ 1 [(k : Int)] hb (by simp)).mono ?_
  rintro e w' ⟨h1, nn', L', h2, h3, h4⟩
  refine ⟨by rw [← hE]; exact h1, nn', L', h2, h3, ?_⟩
  rcases h4 with ⟨k1, _, k3, A, c, k4⟩ | ⟨k1, k3, k4⟩
  · have k1' : E = 0 := by rw [← hE]; exact k1
    subst k4
    refine ⟨hS.add _, by simp; omega, by omega, by omega, fun now => ?_⟩
    by_cases hd : due ≤ now
    · rw [if_pos ⟨k1', hd⟩]; exact cntD_yes L now _ hd
    · rw [if_neg (fun h => hd h.2)]; exact cntD_no L now _ (by show now < due; omega)
  · have k1' : ¬ E = 0 := by rw [← hE]; exact k1
    subst k4
    exact ⟨hS.skip, by omega, by omega, by omega, fun now => by rw [if_neg (fun h => k1' h.1)]; rfl⟩
theorem pushE_some (n : Nat) (due dest : Int) (hn : n ≤ 100) : pushE 4096 n due dest 1 = 0 ∨ pushE 4096 n due dest 1 = 2 := by
  unfold pushE
  split
  · rw [if_neg (by omega)]; exact .inl rfl
  · exact .inr rfl
set_option maxHeartbeats 12800000 in
set_option maxRecDepth 100000 in
theorem order_walk (now : Int) (hm0 : -9223372036854775808 ≤ now) (hm1 : now ≤ 9223372036854775807) (A0 : Option Addr) (n c0 : Nat) (w : World) (ha : Items w A0 n) :
    Calls Try.prog 3 #[.slice A0 n c0, .int .i64 now] w fun e w' => e = .returned (.bool true) ∧ Below w.heap.size w w' := by
  have hn63 := ha.1
  unfold maxLen at hn63
  have Ha := Lib.hid ha
  clear ha
  go_enter Try.func3, Try.ntmps3
  go_wp2_with (first
    | (go_at_call 7; refine (alive_any _).mono ?_; rintro e W1 ⟨rfl, x1⟩)
    | (go_at_call 8; refine (new_yes 4096 (by decide) (by decide) _).mono ?_; rintro e W2 ⟨rfl, rfl⟩))
  have hq : PuRel w W1.heap.size now 0 0 (W1.alloc (.cells #[.int .i64 4096, .slice none 0 0, .int .i64 0] 53)) :=
    ⟨0, [], _, QS.new W1 4096, fun k hk => by rw [hk]; exact x1.size, Sg.nil, by simp, by omega, by omega, by simp [cntD], (x1.andAlloc _).below (Nat.le_refl _) fun _ h => h.elim⟩
  go_loopw [7, 6] (fun i cnt W => ∃ (k : Nat) (t : Int), k ≤ n ∧ k ≤ 100 ∧ i = .int .i64 k ∧ cnt = .int .i64 t ∧ PuRel w W1.heap.size now k t W) (fun i _ _ => n - (intOf i).toNat)
  case atStart => exact ⟨0, 0, Nat.zero_le _, Nat.zero_le _, rfl, rfl, hq⟩
  case round =>
    clear hq
    obtain ⟨k, t, hk, hk2, rfl, rfl, nn, L, F, hq, hF, hS, hLk, hn0, hn1, ht, hbl⟩ := hrel
    subst ht
    have hct := cntD_le L now
    by_cases hgo : k < n ∧ k < 100
    · obtain ⟨hlt, hlt2⟩ := hgo
      obtain ⟨b, o, due, dest, rfl, hbw, ⟨hd0, hd1⟩, d0, d1⟩ := Items.at' Ha.out hbl hlt
      have n1 : (k : Int) < (n : Int) := by omega
      have n2 : (k : Int) < 100 := by omega
      have hwk : IntKind.u8.wrap (k : Int) = (k : Int) := IntWalk.u8_in _ (by omega)
      have hpe := pushE_some L.length due dest (by omega)
      generalize hE : pushE 4096 L.length due dest 1 = E at hpe
      have hpu := fun W (hW : QS W W1.heap.size 4096 nn L F) g hg => push_one hW k hS hLk hlt2 hn0 hn1 due dest g hg E hE
      have HPU := Lib.hid hpu
      have hbF : ¬ F b := fun h => by have := hF b h; omega
      clear hpu hE
      have hcell : ((wr.alloc (.cells #[.int .u8 k] 5)).drew).cell? ⟨wr.heap.size, 0, none⟩ = some (.int .u8 k) := cellOf (w := wr.alloc (.cells #[.int .u8 k] 5)) (heapNew wr _) 0
      rcases hpe with rfl | hE2
      · by_cases hle : due ≤ now
        · have hcc : (cntD L now : Int) + 1 ≤ 9223372036854775807 := by omega
          go_upto_region 10 with (fail)
          go_region_held3 (fun W => W.cell? ⟨b, o + k * 3, none⟩ = some (.int .i64 due) ∧ W.cell? ⟨b, o + k * 3 + 1, none⟩ = some (.int .i64 dest))
            (first | (exact ⟨d0, d1⟩) | (exact ⟨x23.cell d0 hbF, x23.cell d1 hbF⟩) | (exact ⟨(Ext.alloc NoB _ _).cell d0 id, (Ext.alloc NoB _ _).cell d1 id⟩))
            (first
              | (go_at_call 9; (with_reducible refine (HPU.out _ (hq.ext ((Ext.alloc NoB wr (.cells #[.int .u8 k] 5)).andDrew) (fun _ _ h => h)) _ hcell).mono ?_); rintro e W10 ⟨rfl, nn', L', q1, x10, q2, q3, q4, q5, q6⟩; have x23 : Ext F wr W10 := ((Ext.alloc F wr (.cells #[.int .u8 k] 5)).andDrew).then x10))
          have hR : PuRel w W1.heap.size now (k + 1) ((cntD L now : Int) + 1) W10 := ⟨nn', L', _, q1, fun j hj => hj.elim (hF j) (fun h => Nat.le_trans hbl.size (Nat.le_trans (Nat.le_trans (Ext.alloc NoB wr (.cells #[.int .u8 k] 5)).size (Nat.le_refl _)) h)), q2, q3, q4, by omega, by rw [q6 now]; simp [hle], hbl.trans (x23.below hbl.size fun k h => hF k h)⟩
          clear hq q1 x10 q2 q6 x23 HPU hcell
          go_wp2_with fail
          exact ⟨⟨k + 1, _, by omega, by omega, by go_num, rfl, hR⟩, by simp [intOf]; omega⟩
        · have hle' : now < due := by omega
          go_upto_region 10 with (fail)
          go_region_held3 (fun W => W.cell? ⟨b, o + k * 3, none⟩ = some (.int .i64 due) ∧ W.cell? ⟨b, o + k * 3 + 1, none⟩ = some (.int .i64 dest))
            (first | (exact ⟨d0, d1⟩) | (exact ⟨x23.cell d0 hbF, x23.cell d1 hbF⟩) | (exact ⟨(Ext.alloc NoB _ _).cell d0 id, (Ext.alloc NoB _ _).cell d1 id⟩))
            (first
              | (go_at_call 9; (with_reducible refine (HPU.out _ (hq.ext ((Ext.alloc NoB wr (.cells #[.int .u8 k] 5)).andDrew) (fun _ _ h => h)) _ hcell).mono ?_); rintro e W10 ⟨rfl, nn', L', q1, x10, q2, q3, q4, q5, q6⟩; have x23 : Ext F wr W10 := ((Ext.alloc F wr (.cells #[.int .u8 k] 5)).andDrew).then x10))
          have hR : PuRel w W1.heap.size now (k + 1) ((cntD L now : Int)) W10 := ⟨nn', L', _, q1, fun j hj => hj.elim (hF j) (fun h => Nat.le_trans hbl.size (Nat.le_trans (Nat.le_trans (Ext.alloc NoB wr (.cells #[.int .u8 k] 5)).size (Nat.le_refl _)) h)), q2, q3, q4, by omega, by rw [q6 now, if_neg (fun h => by have := h.2; omega)]; simp, hbl.trans (x23.below hbl.size fun k h => hF k h)⟩
          clear hq q1 x10 q2 q6 x23 HPU hcell
          go_wp2_with fail
          exact ⟨⟨k + 1, _, by omega, by omega, by go_num, rfl, hR⟩, by simp [intOf]; omega⟩
      · have hEn : ¬ E = 0 := by omega
        have h20 : (E == 0) = false := beq_eq_false_iff_ne.2 hEn
        clear hE2
        go_upto_region 10 with (fail)
        refine wp_region_held_drew (S := fun W => W.cell? ⟨b, o + k * 3, none⟩ = some (.int .i64 due) ∧ W.cell? ⟨b, o + k * 3 + 1, none⟩ = some (.int .i64 dest)) (by kernel_rfl) ?_ (fun hHeld => ?_)
        · exact ⟨d0, d1⟩
        refine wpAnyH_take (i := 0) (oi := ⟨some 29, _, _, _, _, _⟩) (v := .pointer (some ⟨W1.heap.size, 0, none⟩)) rfl (by kernel_rfl) (by kernel_rfl) (by kernel_rfl) (fun _ _ _ h => h) (Or.inl ⟨by rfl, fun w hSw => by (obtain ⟨s0, s1⟩ := hSw; go_simp)⟩) (by assumption) ?_
        try simp only [Act.put, List.setIfInBounds_toArray, List.set_cons_zero, List.set_cons_succ]
        refine wpAnyH_take (i := 1) (oi := ⟨some 30, _, _, _, _, _⟩) (v := .slice (some ⟨b, o, none⟩) n c0) rfl (by kernel_rfl) (by kernel_rfl) (by kernel_rfl) (fun _ _ _ h => h) (Or.inl ⟨by rfl, fun w hSw => by (obtain ⟨s0, s1⟩ := hSw; go_simp)⟩) (by assumption) ?_
        try simp only [Act.put, List.setIfInBounds_toArray, List.set_cons_zero, List.set_cons_succ]
        refine wpAnyH_take (i := 2) (oi := ⟨some 31, _, _, _, _, _⟩) (v := .int .i64 k) rfl (by kernel_rfl) (by kernel_rfl) (by kernel_rfl) (fun _ _ _ h => h) (Or.inl ⟨by rfl, fun w hSw => by (obtain ⟨s0, s1⟩ := hSw; go_simp)⟩) (by assumption) ?_
        try simp only [Act.put, List.setIfInBounds_toArray, List.set_cons_zero, List.set_cons_succ]
        refine wpAnyH_take (i := 3) (oi := ⟨some 32, _, _, _, _, _⟩) (v := .pointer (some ⟨b, o + k * 3, none⟩)) rfl (by kernel_rfl) (by kernel_rfl) (by kernel_rfl) (fun _ _ _ h => h) (Or.inl ⟨by rfl, fun w hSw => by (obtain ⟨s0, s1⟩ := hSw; go_simp)⟩) (by assumption) ?_
        try simp only [Act.put, List.setIfInBounds_toArray, List.set_cons_zero, List.set_cons_succ]
        refine wpAnyH_take (i := 4) (oi := ⟨some 33, _, _, _, _, _⟩) (v := .pointer (some ⟨b, o + k * 3, none⟩)) rfl (by kernel_rfl) (by kernel_rfl) (by kernel_rfl) (fun _ _ _ h => h) (Or.inl ⟨by rfl, fun w hSw => by (obtain ⟨s0, s1⟩ := hSw; go_simp)⟩) (by assumption) ?_
        try simp only [Act.put, List.setIfInBounds_toArray, List.set_cons_zero, List.set_cons_succ]
        refine wpAnyH_take (i := 5) (oi := ⟨some 34, _, _, _, _, _⟩) (v := .int .i64 due) rfl (by kernel_rfl) (by kernel_rfl) (by kernel_rfl) (fun _ _ _ h => h) (Or.inl ⟨by rfl, fun w hSw => by (obtain ⟨s0, s1⟩ := hSw; go_simp)⟩) (by assumption) ?_
        try simp only [Act.put, List.setIfInBounds_toArray, List.set_cons_zero, List.set_cons_succ]
        refine wpAnyH_take (i := 6) (oi := ⟨some 35, _, _, _, _, _⟩) (v := .slice (some ⟨b, o, none⟩) n c0) rfl (by kernel_rfl) (by kernel_rfl) (by kernel_rfl) (fun _ _ _ h => h) (Or.inl ⟨by rfl, fun w hSw => by (obtain ⟨s0, s1⟩ := hSw; go_simp)⟩) (by assumption) ?_
        try simp only [Act.put, List.setIfInBounds_toArray, List.set_cons_zero, List.set_cons_succ]
        refine wpAnyH_take (i := 7) (oi := ⟨some 36, _, _, _, _, _⟩) (v := .int .i64 k) rfl (by kernel_rfl) (by kernel_rfl) (by kernel_rfl) (fun _ _ _ h => h) (Or.inl ⟨by rfl, fun w hSw => by (obtain ⟨s0, s1⟩ := hSw; go_simp)⟩) (by assumption) ?_
        try simp only [Act.put, List.setIfInBounds_toArray, List.set_cons_zero, List.set_cons_succ]
        refine wpAnyH_take (i := 8) (oi := ⟨some 37, _, _, _, _, _⟩) (v := .pointer (some ⟨b, o + k * 3, none⟩)) rfl (by kernel_rfl) (by kernel_rfl) (by kernel_rfl) (fun _ _ _ h => h) (Or.inl ⟨by rfl, fun w hSw => by (obtain ⟨s0, s1⟩ := hSw; go_simp)⟩) (by assumption) ?_
        try simp only [Act.put, List.setIfInBounds_toArray, List.set_cons_zero, List.set_cons_succ]
        refine wpAnyH_take (i := 9) (oi := ⟨some 38, _, _, _, _, _⟩) (v := .pointer (some ⟨b, o + k * 3 + 1, none⟩)) rfl (by kernel_rfl) (by kernel_rfl) (by kernel_rfl) (fun _ _ _ h => h) (Or.inl ⟨by rfl, fun w hSw => by (obtain ⟨s0, s1⟩ := hSw; go_simp)⟩) (by assumption) ?_
        try simp only [Act.put, List.setIfInBounds_toArray, List.set_cons_zero, List.set_cons_succ]
        refine wpAnyH_take (i := 10) (oi := ⟨some 39, _, _, _, _, _⟩) (v := .int .i64 dest) rfl (by kernel_rfl) (by kernel_rfl) (by kernel_rfl) (fun _ _ _ h => h) (Or.inl ⟨by rfl, fun w hSw => by (obtain ⟨s0, s1⟩ := hSw; go_simp)⟩) (by assumption) ?_
        try simp only [Act.put, List.setIfInBounds_toArray, List.set_cons_zero, List.set_cons_succ]
        refine wpAnyH_take (i := 11) (oi := ⟨some 40, _, _, _, _, _⟩) (v := .int .i64 k) rfl (by kernel_rfl) (by kernel_rfl) (by kernel_rfl) (fun _ _ _ h => h) (Or.inl ⟨by rfl, fun w hSw => by (obtain ⟨s0, s1⟩ := hSw; go_simp)⟩) (by assumption) ?_
        try simp only [Act.put, List.setIfInBounds_toArray, List.set_cons_zero, List.set_cons_succ]
        refine wpAnyH_take (i := 12) (oi := ⟨some 41, _, _, _, _, _⟩) (v := .int .u8 k) rfl (by kernel_rfl) (by kernel_rfl) (by kernel_rfl) (fun _ _ _ h => h) (Or.inl ⟨by rfl, fun w hSw => by (obtain ⟨s0, s1⟩ := hSw; go_simp)⟩) (by assumption) ?_
        try simp only [Act.put, List.setIfInBounds_toArray, List.set_cons_zero, List.set_cons_succ]
        refine wpAnyH_ready (rs := [13]) (by kernel_rfl) (by simp) (AllReadyH.cons (by rfl) (fun K hK => ?_) AllReadyH.nil)
        go_simp
        refine hK.out _ _ (⟨(Ext.alloc NoB _ _).cell hHeld.1 id, (Ext.alloc NoB _ _).cell hHeld.2 id⟩) (fun hHeld => ?_)
        clear hK K
        try simp only [Act.put, List.setIfInBounds_toArray, List.set_cons_zero, List.set_cons_succ]
        refine wpAnyH_take (i := 14) (oi := ⟨some 43, _, _, _, _, _⟩) (v := .agg #[.int .i64 due, .int .i64 dest, .slice (some ⟨wr.heap.size, 0, none⟩) 1 1]) rfl (by kernel_rfl) (by kernel_rfl) (by kernel_rfl) (fun _ _ _ h => h) (Or.inl ⟨by rfl, fun w hSw => by (obtain ⟨s0, s1⟩ := hSw; go_simp)⟩) (by assumption) ?_
        try simp only [Act.put, List.setIfInBounds_toArray, List.set_cons_zero, List.set_cons_succ]
        refine wpAnyH_ready (rs := [15]) (by kernel_rfl) (by simp) (AllReadyH.cons (by rfl) (fun K hK => ?_) AllReadyH.nil)
        go_simp
        refine (HPU.out _ (hq.ext ((Ext.alloc NoB wr (.cells #[.int .u8 k] 5)).andDrew) (fun _ _ h => h)) _ hcell).mono ?_
        rintro e W10 ⟨rfl, nn', L', q1, x10, q2, q3, q4, q5, q6⟩
        have x23 : Ext F wr W10 := ((Ext.alloc F wr (.cells #[.int .u8 k] 5)).andDrew).then x10
        go_simp
        refine hK.out _ _ (⟨x23.cell d0 hbF, x23.cell d1 hbF⟩) (fun hHeld => ?_)
        clear hK K
        try simp only [Act.put, List.setIfInBounds_toArray, List.set_cons_zero, List.set_cons_succ]
        refine wpAnyH_take (i := 16) (oi := ⟨some 45, _, _, _, _, _⟩) (v := .bool false) rfl (by kernel_rfl) (by kernel_rfl) (by kernel_rfl) (fun _ _ _ h => h) (Or.inl ⟨by rfl, fun w hSw => by (obtain ⟨s0, s1⟩ := hSw; go_simp)⟩) (by assumption) ?_
        try simp only [Act.put, List.setIfInBounds_toArray, List.set_cons_zero, List.set_cons_succ]
        refine wpAnyH_take (i := 17) (oi := ⟨some 46, _, _, _, _, _⟩) (v := .bool false) rfl (by kernel_rfl) (by kernel_rfl) (by kernel_rfl) (fun _ _ _ h => h) (Or.inl ⟨by rfl, fun w hSw => by (obtain ⟨s0, s1⟩ := hSw; go_simp)⟩) (by assumption) ?_
        try simp only [Act.put, List.setIfInBounds_toArray, List.set_cons_zero, List.set_cons_succ]
        refine wpAnyH_take (i := 18) (oi := ⟨some 47, _, _, _, _, _⟩) (v := undef) rfl (by kernel_rfl) (by kernel_rfl) (by kernel_rfl) (fun _ _ _ h => h) (Or.inr ⟨by kernel_rfl, rfl⟩) (by assumption) ?_
        try simp only [Act.put, List.setIfInBounds_toArray, List.set_cons_zero, List.set_cons_succ]
        refine wpAnyH_take (i := 19) (oi := ⟨some 48, _, _, _, _, _⟩) (v := undef) rfl (by kernel_rfl) (by kernel_rfl) (by kernel_rfl) (fun _ _ _ h => h) (Or.inr ⟨by kernel_rfl, rfl⟩) (by assumption) ?_
        try simp only [Act.put, List.setIfInBounds_toArray, List.set_cons_zero, List.set_cons_succ]
        refine wpAnyH_take (i := 20) (oi := ⟨some 49, _, _, _, _, _⟩) (v := undef) rfl (by kernel_rfl) (by kernel_rfl) (by kernel_rfl) (fun _ _ _ h => h) (Or.inr ⟨by kernel_rfl, rfl⟩) (by assumption) ?_
        try simp only [Act.put, List.setIfInBounds_toArray, List.set_cons_zero, List.set_cons_succ]
        refine wpAnyH_take (i := 21) (oi := ⟨some 50, _, _, _, _, _⟩) (v := undef) rfl (by kernel_rfl) (by kernel_rfl) (by kernel_rfl) (fun _ _ _ h => h) (Or.inr ⟨by kernel_rfl, rfl⟩) (by assumption) ?_
        try simp only [Act.put, List.setIfInBounds_toArray, List.set_cons_zero, List.set_cons_succ]
        refine wpAnyH_take (i := 22) (oi := ⟨some 51, _, _, _, _, _⟩) (v := undef) rfl (by kernel_rfl) (by kernel_rfl) (by kernel_rfl) (fun _ _ _ h => h) (Or.inr ⟨by kernel_rfl, rfl⟩) (by assumption) ?_
        try simp only [Act.put, List.setIfInBounds_toArray, List.set_cons_zero, List.set_cons_succ]
        refine wpAnyH_take (i := 23) (oi := ⟨some 52, _, _, _, _, _⟩) (v := undef) rfl (by kernel_rfl) (by kernel_rfl) (by kernel_rfl) (fun _ _ _ h => h) (Or.inr ⟨by kernel_rfl, rfl⟩) (by assumption) ?_
        try simp only [Act.put, List.setIfInBounds_toArray, List.set_cons_zero, List.set_cons_succ]
        refine wpAnyH_take (i := 24) (oi := ⟨some 53, _, _, _, _, _⟩) (v := undef) rfl (by kernel_rfl) (by kernel_rfl) (by kernel_rfl) (fun _ _ _ h => h) (Or.inr ⟨by kernel_rfl, rfl⟩) (by assumption) ?_
        try simp only [Act.put, List.setIfInBounds_toArray, List.set_cons_zero, List.set_cons_succ]
        refine wpAnyH_take (i := 25) (oi := ⟨some 54, _, _, _, _, _⟩) (v := .bool false) rfl (by kernel_rfl) (by kernel_rfl) (by kernel_rfl) (fun _ _ _ h => h) (Or.inl ⟨by rfl, fun w hSw => by (obtain ⟨s0, s1⟩ := hSw; go_simp)⟩) (by assumption) ?_
        try simp only [Act.put, List.setIfInBounds_toArray, List.set_cons_zero, List.set_cons_succ]
        refine wpAnyH_done (by kernel_rfl) ?_ _
        have hR : PuRel w W1.heap.size now (k + 1) ((cntD L now : Int)) W10 := ⟨nn', L', _, q1, fun j hj => hj.elim (hF j) (fun h => Nat.le_trans hbl.size (Nat.le_trans (Nat.le_trans (Ext.alloc NoB wr (.cells #[.int .u8 k] 5)).size (Nat.le_refl _)) h)), q2, q3, q4, by omega, by rw [q6 now, if_neg (fun h => hEn h.1)]; simp, hbl.trans (x23.below hbl.size fun k h => hF k h)⟩
        clear hq q1 x10 q2 q6 x23 HPU hcell hHeld
        go_wp2_with fail
        exact ⟨⟨k + 1, _, by omega, by omega, by go_num, rfl, hR⟩, by simp [intOf]; omega⟩
    · have hq1 := hq.mono (G := fun k => F k ∧ k < wr.heap.size) (fun k hk h => ⟨h, hk⟩)
      have hex : ¬ k < n ∨ (k < n ∧ ¬ k < 100) := by omega
      clear hgo Ha hq
      have hll : L.length ≤ 100 := by omega
      have hct0 : (0 : Int) ≤ (cntD L now : Int) := by omega
      have hct1 : (cntD L now : Int) ≤ 9223372036854775807 := by omega
      rcases hex with hex | ⟨hex, hex2⟩
      · have e1 : ¬ (k : Int) < (n : Int) := by omega
        go_wp2_with (first
          | ((go_at_call 10; (with_reducible refine (len10 hq1 (by omega)).mono ?_)); rintro e W4 ⟨rfl, x4⟩))
        have hP : PoRel w W1.heap.size W4.heap.size now (cntD L now) L.length 0 (W4.alloc (.cells #[.int .i64 (-1), .int .i64 0, .slice none 0 0] 31)) :=
          ⟨nn, L, _, -1, 0, 0, _, k, (hq1.ext x4 (fun _ _ h => h)).ext (Ext.alloc NoB _ _) (fun _ _ h => h), fun i hi => ⟨hF i hi.1, by have := hi.2; have := x4.size; omega⟩, hS, hk2, rfl, rfl, hll, Nat.le_trans hbl.size x4.size, heapNew _ _, .inl rfl, hbl.trans ((x4.andAlloc _).below hbl.size fun _ h => h.elim)⟩
        obtain ⟨tot, htot⟩ : ∃ tot, tot = cntD L now := ⟨_, rfl⟩
        obtain ⟨len0, hlen0⟩ : ∃ len0, len0 = L.length := ⟨_, rfl⟩
        rw [← htot, ← hlen0] at hP
        rw [← hlen0] at hll hct
        rw [← htot] at hct hct0 hct1
        rw [← htot, ← hlen0]
        clear htot hlen0 hq1 hS hF hbl x4 hLk hn0 hn1
        generalize W4.alloc _ = W5 at hP ⊢
        go_loopw [61] (fun i W => ∃ m : Nat, m ≤ tot ∧ i = .int .i64 m ∧ PoRel w W1.heap.size W4.heap.size now tot len0 m W) (fun i _ => tot - (intOf i).toNat)
        case atStart => exact ⟨0, Nat.zero_le _, rfl, hP⟩
        case round =>
          clear hP
          obtain ⟨m, hm, rfl, nn, L, F, ld, lt, lj, v, K, hq, hF, hS, hK, hc, hl, hl1, hbb, hbx, hv, hbl⟩ := hrel
          by_cases hlt : m < tot
          · have m1 : (m : Int) < (tot : Int) := by omega
            obtain ⟨xd, xt, xj, gx, ox, cx, x1, x2, x3, x4, hcx, x5, hpop⟩ := take_one (p := W1.heap.size) (nn := nn) (F := F) (now := now) hq hS (by omega) (by omega)
            have hnext := fun W6 W' hT => PoRel.next (p := W1.heap.size) (W := wr) (W6 := W6) (W' := W') (xd := xd) (xt := xt) (xj := xj) (v := .slice (some ⟨gx, ox, none⟩) 1 cx) (nn := nn) (L := L) (F := F) (K := K) hT hF hK hc hl hl1 hbb hbl hbx
            have hcs : ld < xd ∨ (ld = xd ∧ lj < xj ∧ El wr v [lj]) := by
              rcases hv with rfl | ⟨ha, he⟩
              · exact .inl (by omega)
              · rcases x5 _ _ ha with h | ⟨h1, h2⟩
                · exact .inl h
                · exact .inr ⟨h1, h2, he⟩
            have hblF : ¬ F W4.heap.size := fun h => (hF _ h).2 rfl
            have HPOP := Lib.hid hpop
            have HN := Lib.hid hnext
            have HBX := Lib.hid hbx
            clear hpop hnext hbx x5 hv hc hl hS hF hbl
            rcases hcs with hcs | ⟨rfl, hcs, hel⟩
            · have f1 : (xd == ld) = false := beq_eq_false_iff_ne.2 (by omega)
              have f2 : decide (xd < ld) = false := by simp; omega
              have f3 : decide (now < xd) = false := by simp; omega
              go_upto_region 17 with (first
                | ((go_at_call 11; (with_reducible refine (HPOP.out _ hq).mono ?_)); rintro e W6 ⟨rfl, hT⟩))
              have hz6 := (Ext.alloc NoB W6 (.cells #[.int .i64 xd, .int .i64 xt, .slice (some ⟨gx, ox, none⟩) 1 cx] 31)).obj (hT.x.obj HBX.out hblF) id
              obtain ⟨b0, b1, b2⟩ := three hz6
              have bf := freeOf hz6
              go_quiet (fail)
              go_wp2_with fail
              exact ⟨⟨m + 1, by omega, by go_num, HN.out _ _ hT ext3 (set3 hz6)⟩, by simp [intOf]; omega⟩
            · obtain ⟨gv, ov, cv, rfl, hcv, _⟩ := hel.one
              have f1 : (ld == ld) = true := by simp
              have f2 : decide (ld < ld) = false := by simp
              have f3 : decide (now < ld) = false := by simp; omega
              have f4 : decide (xj ≤ lj) = false := by simp; omega
              have HEL := Lib.hid hel
              clear hel
              go_upto_region 17 with (first
                | ((go_at_call 11; (with_reducible refine (HPOP.out _ hq).mono ?_)); rintro e W6 ⟨rfl, hT⟩))
              have hz6 := (Ext.alloc NoB W6 (.cells #[.int .i64 ld, .int .i64 xt, .slice (some ⟨gx, ox, none⟩) 1 cx] 31)).obj (hT.x.obj HBX.out hblF) id
              have hx0 := (Ext.alloc NoB W6 (.cells #[.int .i64 ld, .int .i64 xt, .slice (some ⟨gx, ox, none⟩) 1 cx] 31)).cell hT.el.cell id
              have hv0 := (Ext.alloc NoB W6 (.cells #[.int .i64 ld, .int .i64 xt, .slice (some ⟨gx, ox, none⟩) 1 cx] 31)).cell (hT.keep _ _ HEL.out).cell id
              obtain ⟨b0, b1, b2⟩ := three hz6
              have bf := freeOf hz6
              go_quiet (fail)
              go_wp2_with fail
              exact ⟨⟨m + 1, by omega, by go_num, HN.out _ _ hT ext3 (set3 hz6)⟩, by simp [intOf]; omega⟩
          · have m1 : ¬ (m : Int) < (tot : Int) := by omega
            have hc0 : cntD L now = 0 := by omega
            have hpn : ∀ W, QS W W1.heap.size 4096 nn L F → Calls Try.prog 11 #[.pointer (some ⟨W1.heap.size, 0, none⟩), .int .i64 now] W fun e w' => e = .returned (.tuple #[.agg #[.int .i64 0, .int .i64 0, .slice none 0 0], .int .i64 9]) ∧ Ext NoB W w' := fun W (hW : QS W W1.heap.size 4096 nn L F) => pop_none hW (by decide) now (cntD_none hc0)
            have HPN := Lib.hid hpn
            have HX : m = tot ∧ L.length = len0 - tot := by omega
            have e5 : (len0 : Int) - (tot : Int) = (L.length : Int) := by omega
            clear hpn hv hc hc0 hS hbx
            go_wp2_with (first
              | ((go_at_call 11; (with_reducible refine (HPN.out _ hq).mono ?_)); rintro e W6 ⟨rfl, x6⟩; have hq6 := (hq.ext x6 (fun _ _ h => h)).ext (Ext.alloc NoB W6 (.cells #[.int .i64 0, .int .i64 0, .slice none 0 0] 31)) (fun _ _ h => h))
              | ((go_at_call 10; (with_reducible refine (len10 hq6 (by decide)).mono ?_)); rintro e W7 ⟨rfl, x7⟩))
            go_ret
            exact ⟨rfl, hbl.trans (((x6.andAlloc _).then x7).below hbl.size fun _ h => h.elim)⟩

      · have e1 : (k : Int) < (n : Int) := by omega
        have e2 : ¬ (k : Int) < 100 := by omega
        go_wp2_with (first
          | ((go_at_call 10; (with_reducible refine (len10 hq1 (by omega)).mono ?_)); rintro e W4 ⟨rfl, x4⟩))
        have hP : PoRel w W1.heap.size W4.heap.size now (cntD L now) L.length 0 (W4.alloc (.cells #[.int .i64 (-1), .int .i64 0, .slice none 0 0] 31)) :=
          ⟨nn, L, _, -1, 0, 0, _, k, (hq1.ext x4 (fun _ _ h => h)).ext (Ext.alloc NoB _ _) (fun _ _ h => h), fun i hi => ⟨hF i hi.1, by have := hi.2; have := x4.size; omega⟩, hS, hk2, rfl, rfl, hll, Nat.le_trans hbl.size x4.size, heapNew _ _, .inl rfl, hbl.trans ((x4.andAlloc _).below hbl.size fun _ h => h.elim)⟩
        obtain ⟨tot, htot⟩ : ∃ tot, tot = cntD L now := ⟨_, rfl⟩
        obtain ⟨len0, hlen0⟩ : ∃ len0, len0 = L.length := ⟨_, rfl⟩
        rw [← htot, ← hlen0] at hP
        rw [← hlen0] at hll hct
        rw [← htot] at hct hct0 hct1
        rw [← htot, ← hlen0]
        clear htot hlen0 hq1 hS hF hbl x4 hLk hn0 hn1
        generalize W4.alloc _ = W5 at hP ⊢
        go_loopw [61] (fun i W => ∃ m : Nat, m ≤ tot ∧ i = .int .i64 m ∧ PoRel w W1.heap.size W4.heap.size now tot len0 m W) (fun i _ => tot - (intOf i).toNat)
        case atStart => exact ⟨0, Nat.zero_le _, rfl, hP⟩
        case round =>
          clear hP
          obtain ⟨m, hm, rfl, nn, L, F, ld, lt, lj, v, K, hq, hF, hS, hK, hc, hl, hl1, hbb, hbx, hv, hbl⟩ := hrel
          by_cases hlt : m < tot
          · have m1 : (m : Int) < (tot : Int) := by omega
            obtain ⟨xd, xt, xj, gx, ox, cx, x1, x2, x3, x4, hcx, x5, hpop⟩ := take_one (p := W1.heap.size) (nn := nn) (F := F) (now := now) hq hS (by omega) (by omega)
            have hnext := fun W6 W' hT => PoRel.next (p := W1.heap.size) (W := wr) (W6 := W6) (W' := W') (xd := xd) (xt := xt) (xj := xj) (v := .slice (some ⟨gx, ox, none⟩) 1 cx) (nn := nn) (L := L) (F := F) (K := K) hT hF hK hc hl hl1 hbb hbl hbx
            have hcs : ld < xd ∨ (ld = xd ∧ lj < xj ∧ El wr v [lj]) := by
              rcases hv with rfl | ⟨ha, he⟩
              · exact .inl (by omega)
              · rcases x5 _ _ ha with h | ⟨h1, h2⟩
                · exact .inl h
                · exact .inr ⟨h1, h2, he⟩
            have hblF : ¬ F W4.heap.size := fun h => (hF _ h).2 rfl
            have HPOP := Lib.hid hpop
            have HN := Lib.hid hnext
            have HBX := Lib.hid hbx
            clear hpop hnext hbx x5 hv hc hl hS hF hbl
            rcases hcs with hcs | ⟨rfl, hcs, hel⟩
            · have f1 : (xd == ld) = false := beq_eq_false_iff_ne.2 (by omega)
              have f2 : decide (xd < ld) = false := by simp; omega
              have f3 : decide (now < xd) = false := by simp; omega
              go_upto_region 17 with (first
                | ((go_at_call 11; (with_reducible refine (HPOP.out _ hq).mono ?_)); rintro e W6 ⟨rfl, hT⟩))
              have hz6 := (Ext.alloc NoB W6 (.cells #[.int .i64 xd, .int .i64 xt, .slice (some ⟨gx, ox, none⟩) 1 cx] 31)).obj (hT.x.obj HBX.out hblF) id
              obtain ⟨b0, b1, b2⟩ := three hz6
              have bf := freeOf hz6
              go_quiet (fail)
              go_wp2_with fail
              exact ⟨⟨m + 1, by omega, by go_num, HN.out _ _ hT ext3 (set3 hz6)⟩, by simp [intOf]; omega⟩
            · obtain ⟨gv, ov, cv, rfl, hcv, _⟩ := hel.one
              have f1 : (ld == ld) = true := by simp
              have f2 : decide (ld < ld) = false := by simp
              have f3 : decide (now < ld) = false := by simp; omega
              have f4 : decide (xj ≤ lj) = false := by simp; omega
              have HEL := Lib.hid hel
              clear hel
              go_upto_region 17 with (first
                | ((go_at_call 11; (with_reducible refine (HPOP.out _ hq).mono ?_)); rintro e W6 ⟨rfl, hT⟩))
              have hz6 := (Ext.alloc NoB W6 (.cells #[.int .i64 ld, .int .i64 xt, .slice (some ⟨gx, ox, none⟩) 1 cx] 31)).obj (hT.x.obj HBX.out hblF) id
              have hx0 := (Ext.alloc NoB W6 (.cells #[.int .i64 ld, .int .i64 xt, .slice (some ⟨gx, ox, none⟩) 1 cx] 31)).cell hT.el.cell id
              have hv0 := (Ext.alloc NoB W6 (.cells #[.int .i64 ld, .int .i64 xt, .slice (some ⟨gx, ox, none⟩) 1 cx] 31)).cell (hT.keep _ _ HEL.out).cell id
              obtain ⟨b0, b1, b2⟩ := three hz6
              have bf := freeOf hz6
              go_quiet (fail)
              go_wp2_with fail
              exact ⟨⟨m + 1, by omega, by go_num, HN.out _ _ hT ext3 (set3 hz6)⟩, by simp [intOf]; omega⟩
          · have m1 : ¬ (m : Int) < (tot : Int) := by omega
            have hc0 : cntD L now = 0 := by omega
            have hpn : ∀ W, QS W W1.heap.size 4096 nn L F → Calls Try.prog 11 #[.pointer (some ⟨W1.heap.size, 0, none⟩), .int .i64 now] W fun e w' => e = .returned (.tuple #[.agg #[.int .i64 0, .int .i64 0, .slice none 0 0], .int .i64 9]) ∧ Ext NoB W w' := fun W (hW : QS W W1.heap.size 4096 nn L F) => pop_none hW (by decide) now (cntD_none hc0)
            have HPN := Lib.hid hpn
            have HX : m = tot ∧ L.length = len0 - tot := by omega
            have e5 : (len0 : Int) - (tot : Int) = (L.length : Int) := by omega
            clear hpn hv hc hc0 hS hbx
            go_wp2_with (first
              | ((go_at_call 11; (with_reducible refine (HPN.out _ hq).mono ?_)); rintro e W6 ⟨rfl, x6⟩; have hq6 := (hq.ext x6 (fun _ _ h => h)).ext (Ext.alloc NoB W6 (.cells #[.int .i64 0, .int .i64 0, .slice none 0 0] 31)) (fun _ _ h => h))
              | ((go_at_call 10; (with_reducible refine (len10 hq6 (by decide)).mono ?_)); rintro e W7 ⟨rfl, x7⟩))
            go_ret
            exact ⟨rfl, hbl.trans (((x6.andAlloc _).then x7).below hbl.size fun _ h => h.elim)⟩

end Go.Proofs.Ytaphhadahajohaa
