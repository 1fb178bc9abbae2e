/-
  The document's Has.
-/
import Derived.Test.YteidkdbngjhopaaP
set_option linter.unusedVariables false
set_option linter.unusedSimpArgs false
attribute [local go_sem ↓] Go.wp_at_zero Go.wp_at_succ
namespace Go.Proofs.Yteidkdbngjhopaa
open Go.RowKit

theorem Try.guard30 : Try.prog.eqGuardType Try.prog.depth 30 = false := by kernel_rfl
set_option maxHeartbeats 1600000 in
theorem has14 (A : Option Addr) (c : Nat) (most low g : Int) (t : List Int) (ht : Tg t) (E : List Ent) (w : World) (hr : RE w (.slice A E.length c) E) (hlen : E.length ≤ 1000000) :
    Calls Try.prog 14 #[rq A E.length c most low, .int .i64 g, .agg (tv t)] w fun e w' => e = .returned (.bool (decide ((g, t) ∈ E))) ∧ Ext NoB w w' := by
  have x1 := (Ext.alloc NoB w (.cells #[.slice A E.length c, .int .i64 most, .int .i64 low] 28)).andAlloc (.cells (tv t) 30)
  have hr1 := hr.ext x1 (fun _ _ h => h)
  have hb1 : ((w.alloc (.cells #[.slice A E.length c, .int .i64 most, .int .i64 low] 28)).alloc (.cells (tv t) 30)).heap[w.heap.size]? = some (.cells #[.slice A E.length c, .int .i64 most, .int .i64 low] 28 (0, 0)) := (Ext.alloc NoB _ _).obj (heapNew w _) id
  have ht1 : ((w.alloc (.cells #[.slice A E.length c, .int .i64 most, .int .i64 low] 28)).alloc (.cells (tv t) 30)).heap[w.heap.size + 1]? = some (.cells (tv t) 30 (0, 0)) := by
    have := heapNew (w.alloc (.cells #[.slice A E.length c, .int .i64 most, .int .i64 low] 28)) (.cells (tv t) 30)
    simpa using this
  have rt1 := rangeOf ht1
  obtain ⟨A', c', hv, hc1, hc2, _⟩ := hr.slice
  injection hv with e1 e2 e3
  subst e1; subst e3
  clear e2 hr ht1
  have h63 : c ≤ 9223372036854775807 := by unfold maxLen at hc2; omega
  have lA := tvs_len ht
  have sA : (Try.prog.info? 30).map (·.size) = some (tvs t).length := by rw [lA]; exact size30
  have oA := tvs_one t
  have u30 := Try.underlying30
  have hgd := Try.guard30
  have heq : ∀ u, Tg u → ∀ w, (binOp .eql 30 (.agg (tvs u).toArray) (.agg (tvs t).toArray)).run Try.prog w = .ok (.bool (u == t)) w := fun u hu w => Try.eql30 hu ht w
  unfold tv
  unfold tv at hb1 x1 hr1 rt1
  have hmem : ∀ k, k ≤ E.length → (∀ j, j < k → E[j]? ≠ some (g, t)) → k = E.length → decide ((g, t) ∈ E) = false := fun k _ hk hke => by
    simp only [decide_eq_false_iff_not]
    intro hm
    obtain ⟨j, hj, he⟩ := List.mem_iff_getElem.1 hm
    exact hk j (by omega) (by rw [List.getElem?_eq_getElem hj, he])
  have hyes : ∀ k, k < E.length → E[k]? = some (g, t) → decide ((g, t) ∈ E) = true := fun k hk he => by
    simp only [decide_eq_true_eq]
    rw [List.getElem?_eq_getElem hk] at he
    injection he with he
    exact he ▸ List.getElem_mem hk
  generalize hB : tvs t = B at heq sA lA oA x1 hr1 hb1 rt1 ⊢
  generalize hres : decide ((g, t) ∈ E) = res at hmem hyes ⊢
  have HEQ := Lib.hid heq
  have HM := Lib.hid hmem
  have HY := Lib.hid hyes
  have HR := Lib.hid hr1
  have HB := Lib.hid hb1
  have HRT := Lib.hid rt1
  clear heq hmem hyes hB hres hr1 hb1 rt1
  go_enter Try.func14, Try.ntmps14
  go_wp2_with fail
  generalize World.alloc (World.alloc w _) _ = W1 at x1 HR HB HRT ⊢
  go_loopw [7] (fun i W => ∃ k : Nat, k ≤ E.length ∧ i = .int .i64 k ∧ (∀ j, j < k → E[j]? ≠ some (g, t)) ∧ Ext NoB W1 W) (fun i _ => E.length - (intOf i).toNat)
  case atStart => exact ⟨0, by omega, rfl, fun j hj => by omega, Ext.refl _ _⟩
  case round =>
    obtain ⟨k, hk, rfl, hpre, hx⟩ := hrel
    obtain ⟨z0, z1, z2⟩ := three (hx.obj HB.out id)
    by_cases hlt : k < E.length
    · have k1 : (k : Int) < (E.length : Int) := by omega
      have hre := HR.out.ext hx (fun _ _ h => h)
      obtain ⟨gb, o, rfl, hgb, hra⟩ := hre.at hlt
      have d0 := ent_gen hra
      have d1 := ent_tag hra
      have d2 := hx.range HRT.out id
      have hEk : E[k]? = some E[k] := List.getElem?_eq_getElem hlt
      have hok := hre.ok E[k] (List.getElem_mem hlt)
      generalize E[k] = x at *
      obtain ⟨xg, xt⟩ := x
      simp only at d0 d1
      have hq := HEQ.out xt hok.tag
      have lX := tvs_len hok.tag
      have sX : (Try.prog.info? 30).map (·.size) = some (tvs xt).length := by rw [lX]; exact size30
      have HEK := Lib.hid hEk
      clear hra hEk hre
      by_cases hxg : xg = g
      · subst hxg
        by_cases hxt : xt = t
        · have hyes := HY.out k hlt (by rw [HEK.out, hxt])
          have e1 : (xt == t) = true := by simp [hxt]
          rw [e1] at hq
          clear hpre hxt e1
          generalize tvs xt = B' at *
          have HYES := Lib.hid hyes
          clear hyes
          go_upto_region 4 with (fail)
          refine wp_region_held_drew (S := fun W => W.cell? ⟨w.heap.size, 0, none⟩ = some (.slice (some ⟨gb, o, none⟩) E.length c) ∧ W.cell? ⟨gb, o + k * 17, none⟩ = some (.int .i64 xg) ∧ W.rangeAt gb (o + k * 17 + 1) B' ∧ W.rangeAt (w.heap.size + 1) 0 B) (by kernel_rfl) ?_ (fun hHeld => ?_)
          · exact ⟨z0, d0, d1, d2⟩
          refine wpAnyH_take (i := 0) (oi := ⟨some 15, _, _, _, _, _⟩) (v := .pointer (some ⟨w.heap.size, 0, none⟩)) rfl (by kernel_rfl) (by kernel_rfl) (by kernel_rfl) (fun _ _ _ h => h) (Or.inl ⟨by rfl, fun w hSw => by (obtain ⟨s0, s1, s2, s3⟩ := hSw; go_simp)⟩) (by assumption) ?_
          try simp only [Act.put, List.setIfInBounds_toArray, List.set_cons_zero, List.set_cons_succ]
          refine wpAnyH_take (i := 1) (oi := ⟨some 16, _, _, _, _, _⟩) (v := .slice (some ⟨gb, o, none⟩) E.length c) rfl (by kernel_rfl) (by kernel_rfl) (by kernel_rfl) (fun _ _ _ h => h) (Or.inl ⟨by rfl, fun w hSw => by (obtain ⟨s0, s1, s2, s3⟩ := hSw; go_simp)⟩) (by assumption) ?_
          try simp only [Act.put, List.setIfInBounds_toArray, List.set_cons_zero, List.set_cons_succ]
          refine wpAnyH_take (i := 2) (oi := ⟨some 17, _, _, _, _, _⟩) (v := .int .i64 k) rfl (by kernel_rfl) (by kernel_rfl) (by kernel_rfl) (fun _ _ _ h => h) (Or.inl ⟨by rfl, fun w hSw => by (obtain ⟨s0, s1, s2, s3⟩ := hSw; go_simp)⟩) (by assumption) ?_
          try simp only [Act.put, List.setIfInBounds_toArray, List.set_cons_zero, List.set_cons_succ]
          refine wpAnyH_take (i := 3) (oi := ⟨some 18, _, _, _, _, _⟩) (v := .pointer (some ⟨gb, o + k * 17, none⟩)) rfl (by kernel_rfl) (by kernel_rfl) (by kernel_rfl) (fun _ _ _ h => h) (Or.inl ⟨by rfl, fun w hSw => by (obtain ⟨s0, s1, s2, s3⟩ := hSw; go_simp)⟩) (by assumption) ?_
          try simp only [Act.put, List.setIfInBounds_toArray, List.set_cons_zero, List.set_cons_succ]
          refine wpAnyH_take (i := 4) (oi := ⟨some 19, _, _, _, _, _⟩) (v := .pointer (some ⟨gb, o + k * 17, none⟩)) rfl (by kernel_rfl) (by kernel_rfl) (by kernel_rfl) (fun _ _ _ h => h) (Or.inl ⟨by rfl, fun w hSw => by (obtain ⟨s0, s1, s2, s3⟩ := hSw; go_simp)⟩) (by assumption) ?_
          try simp only [Act.put, List.setIfInBounds_toArray, List.set_cons_zero, List.set_cons_succ]
          refine wpAnyH_take (i := 5) (oi := ⟨some 20, _, _, _, _, _⟩) (v := .int .i64 xg) rfl (by kernel_rfl) (by kernel_rfl) (by kernel_rfl) (fun _ _ _ h => h) (Or.inl ⟨by rfl, fun w hSw => by (obtain ⟨s0, s1, s2, s3⟩ := hSw; go_simp)⟩) (by assumption) ?_
          try simp only [Act.put, List.setIfInBounds_toArray, List.set_cons_zero, List.set_cons_succ]
          refine wpAnyH_take (i := 6) (oi := ⟨some 21, _, _, _, _, _⟩) (v := .int .i64 xg) rfl (by kernel_rfl) (by kernel_rfl) (by kernel_rfl) (fun _ _ _ h => h) (Or.inl ⟨by rfl, fun w hSw => by (obtain ⟨s0, s1, s2, s3⟩ := hSw; go_simp)⟩) (by assumption) ?_
          try simp only [Act.put, List.setIfInBounds_toArray, List.set_cons_zero, List.set_cons_succ]
          refine wpAnyH_take (i := 7) (oi := ⟨some 22, _, _, _, _, _⟩) (v := .bool true) rfl (by kernel_rfl) (by kernel_rfl) (by kernel_rfl) (fun _ _ _ h => h) (Or.inl ⟨by rfl, fun w hSw => by (obtain ⟨s0, s1, s2, s3⟩ := hSw; go_simp)⟩) (by assumption) ?_
          try simp only [Act.put, List.setIfInBounds_toArray, List.set_cons_zero, List.set_cons_succ]
          refine wpAnyH_take (i := 8) (oi := ⟨some 23, _, _, _, _, _⟩) (v := .bool true) rfl (by kernel_rfl) (by kernel_rfl) (by kernel_rfl) (fun _ _ _ h => h) (Or.inl ⟨by rfl, fun w hSw => by (obtain ⟨s0, s1, s2, s3⟩ := hSw; go_simp)⟩) (by assumption) ?_
          try simp only [Act.put, List.setIfInBounds_toArray, List.set_cons_zero, List.set_cons_succ]
          refine wpAnyH_take (i := 9) (oi := ⟨some 24, _, _, _, _, _⟩) (v := .pointer (some ⟨w.heap.size, 0, none⟩)) rfl (by kernel_rfl) (by kernel_rfl) (by kernel_rfl) (fun _ _ _ h => h) (Or.inl ⟨by rfl, fun w hSw => by (obtain ⟨s0, s1, s2, s3⟩ := hSw; go_simp)⟩) (by assumption) ?_
          try simp only [Act.put, List.setIfInBounds_toArray, List.set_cons_zero, List.set_cons_succ]
          refine wpAnyH_take (i := 10) (oi := ⟨some 25, _, _, _, _, _⟩) (v := .slice (some ⟨gb, o, none⟩) E.length c) rfl (by kernel_rfl) (by kernel_rfl) (by kernel_rfl) (fun _ _ _ h => h) (Or.inl ⟨by rfl, fun w hSw => by (obtain ⟨s0, s1, s2, s3⟩ := hSw; go_simp)⟩) (by assumption) ?_
          try simp only [Act.put, List.setIfInBounds_toArray, List.set_cons_zero, List.set_cons_succ]
          refine wpAnyH_take (i := 11) (oi := ⟨some 26, _, _, _, _, _⟩) (v := .int .i64 k) rfl (by kernel_rfl) (by kernel_rfl) (by kernel_rfl) (fun _ _ _ h => h) (Or.inl ⟨by rfl, fun w hSw => by (obtain ⟨s0, s1, s2, s3⟩ := hSw; go_simp)⟩) (by assumption) ?_
          try simp only [Act.put, List.setIfInBounds_toArray, List.set_cons_zero, List.set_cons_succ]
          refine wpAnyH_take (i := 12) (oi := ⟨some 27, _, _, _, _, _⟩) (v := .pointer (some ⟨gb, o + k * 17, none⟩)) rfl (by kernel_rfl) (by kernel_rfl) (by kernel_rfl) (fun _ _ _ h => h) (Or.inl ⟨by rfl, fun w hSw => by (obtain ⟨s0, s1, s2, s3⟩ := hSw; go_simp)⟩) (by assumption) ?_
          try simp only [Act.put, List.setIfInBounds_toArray, List.set_cons_zero, List.set_cons_succ]
          refine wpAnyH_take (i := 13) (oi := ⟨some 28, _, _, _, _, _⟩) (v := .pointer (some ⟨gb, o + k * 17 + 1, none⟩)) rfl (by kernel_rfl) (by kernel_rfl) (by kernel_rfl) (fun _ _ _ h => h) (Or.inl ⟨by rfl, fun w hSw => by (obtain ⟨s0, s1, s2, s3⟩ := hSw; go_simp)⟩) (by assumption) ?_
          try simp only [Act.put, List.setIfInBounds_toArray, List.set_cons_zero, List.set_cons_succ]
          refine' wpAnyH_take (i := 14) (oi := ⟨some 29, _, _, _, _, _⟩) (v := _) rfl (by kernel_rfl) (by kernel_rfl) (by kernel_rfl) (fun _ _ _ h => h) (yieldsIf_load_mid (by rfl) 30 _ (by rfl) (gb) (o + k * 17 + 1) (by rfl) (B') _ (fun w h => h.2.2.1) Try.underlying30 (by rfl) sX) (by assumption) ?_
          try simp only [Act.put, List.setIfInBounds_toArray, List.set_cons_zero, List.set_cons_succ]
          refine' wpAnyH_take (i := 15) (oi := ⟨some 30, _, _, _, _, _⟩) (v := _) rfl (by kernel_rfl) (by kernel_rfl) (by kernel_rfl) (fun _ _ _ h => h) (yieldsIf_load_mid (by rfl) 30 _ (by rfl) (w.heap.size + 1) (0) (by rfl) (B) _ (fun w h => h.2.2.2) Try.underlying30 (by rfl) sA) (by assumption) ?_
          try simp only [Act.put, List.setIfInBounds_toArray, List.set_cons_zero, List.set_cons_succ]
          refine wpAnyH_take (i := 16) (oi := ⟨some 31, _, _, _, _, _⟩) (v := .bool true) rfl (by kernel_rfl) (by kernel_rfl) (by kernel_rfl) (fun _ _ _ h => h) (Or.inl ⟨by rfl, fun w hSw => by (obtain ⟨s0, s1, s2, s3⟩ := hSw; go_simp)⟩) (by assumption) ?_
          try simp only [Act.put, List.setIfInBounds_toArray, List.set_cons_zero, List.set_cons_succ]
          refine wpAnyH_take (i := 17) (oi := ⟨some 32, _, _, _, _, _⟩) (v := .bool true) rfl (by kernel_rfl) (by kernel_rfl) (by kernel_rfl) (fun _ _ _ h => h) (Or.inl ⟨by rfl, fun w hSw => by (obtain ⟨s0, s1, s2, s3⟩ := hSw; go_simp)⟩) (by assumption) ?_
          try simp only [Act.put, List.setIfInBounds_toArray, List.set_cons_zero, List.set_cons_succ]
          refine wpAnyH_done (by kernel_rfl) ?_ _
          clear hHeld hq d1 d2
          go_wp2_with fail
          go_ret
          exact ⟨by rw [HYES.out]; rfl, x1.then (hx.then (Ext.drew NoB wr))⟩
        · have e1 : (xt == t) = false := beq_eq_false_iff_ne.2 hxt
          rw [e1] at hq
          have hpre' : ∀ j, j < k + 1 → E[j]? ≠ some (xg, t) := fun j hj => by
            rcases Nat.lt_succ_iff_lt_or_eq.1 hj with h | h
            · exact hpre j h
            · rw [h, HEK.out]; intro e; injection e with e; injection e with _ e; exact hxt e
          have HP := Lib.hid hpre'
          clear hpre hpre' hxt e1
          generalize tvs xt = B' at *
          go_upto_region 4 with (fail)
          refine wp_region_held_drew (S := fun W => W.cell? ⟨w.heap.size, 0, none⟩ = some (.slice (some ⟨gb, o, none⟩) E.length c) ∧ W.cell? ⟨gb, o + k * 17, none⟩ = some (.int .i64 xg) ∧ W.rangeAt gb (o + k * 17 + 1) B' ∧ W.rangeAt (w.heap.size + 1) 0 B) (by kernel_rfl) ?_ (fun hHeld => ?_)
          · exact ⟨z0, d0, d1, d2⟩
          refine wpAnyH_take (i := 0) (oi := ⟨some 15, _, _, _, _, _⟩) (v := .pointer (some ⟨w.heap.size, 0, none⟩)) rfl (by kernel_rfl) (by kernel_rfl) (by kernel_rfl) (fun _ _ _ h => h) (Or.inl ⟨by rfl, fun w hSw => by (obtain ⟨s0, s1, s2, s3⟩ := hSw; go_simp)⟩) (by assumption) ?_
          try simp only [Act.put, List.setIfInBounds_toArray, List.set_cons_zero, List.set_cons_succ]
          refine wpAnyH_take (i := 1) (oi := ⟨some 16, _, _, _, _, _⟩) (v := .slice (some ⟨gb, o, none⟩) E.length c) rfl (by kernel_rfl) (by kernel_rfl) (by kernel_rfl) (fun _ _ _ h => h) (Or.inl ⟨by rfl, fun w hSw => by (obtain ⟨s0, s1, s2, s3⟩ := hSw; go_simp)⟩) (by assumption) ?_
          try simp only [Act.put, List.setIfInBounds_toArray, List.set_cons_zero, List.set_cons_succ]
          refine wpAnyH_take (i := 2) (oi := ⟨some 17, _, _, _, _, _⟩) (v := .int .i64 k) rfl (by kernel_rfl) (by kernel_rfl) (by kernel_rfl) (fun _ _ _ h => h) (Or.inl ⟨by rfl, fun w hSw => by (obtain ⟨s0, s1, s2, s3⟩ := hSw; go_simp)⟩) (by assumption) ?_
          try simp only [Act.put, List.setIfInBounds_toArray, List.set_cons_zero, List.set_cons_succ]
          refine wpAnyH_take (i := 3) (oi := ⟨some 18, _, _, _, _, _⟩) (v := .pointer (some ⟨gb, o + k * 17, none⟩)) rfl (by kernel_rfl) (by kernel_rfl) (by kernel_rfl) (fun _ _ _ h => h) (Or.inl ⟨by rfl, fun w hSw => by (obtain ⟨s0, s1, s2, s3⟩ := hSw; go_simp)⟩) (by assumption) ?_
          try simp only [Act.put, List.setIfInBounds_toArray, List.set_cons_zero, List.set_cons_succ]
          refine wpAnyH_take (i := 4) (oi := ⟨some 19, _, _, _, _, _⟩) (v := .pointer (some ⟨gb, o + k * 17, none⟩)) rfl (by kernel_rfl) (by kernel_rfl) (by kernel_rfl) (fun _ _ _ h => h) (Or.inl ⟨by rfl, fun w hSw => by (obtain ⟨s0, s1, s2, s3⟩ := hSw; go_simp)⟩) (by assumption) ?_
          try simp only [Act.put, List.setIfInBounds_toArray, List.set_cons_zero, List.set_cons_succ]
          refine wpAnyH_take (i := 5) (oi := ⟨some 20, _, _, _, _, _⟩) (v := .int .i64 xg) rfl (by kernel_rfl) (by kernel_rfl) (by kernel_rfl) (fun _ _ _ h => h) (Or.inl ⟨by rfl, fun w hSw => by (obtain ⟨s0, s1, s2, s3⟩ := hSw; go_simp)⟩) (by assumption) ?_
          try simp only [Act.put, List.setIfInBounds_toArray, List.set_cons_zero, List.set_cons_succ]
          refine wpAnyH_take (i := 6) (oi := ⟨some 21, _, _, _, _, _⟩) (v := .int .i64 xg) rfl (by kernel_rfl) (by kernel_rfl) (by kernel_rfl) (fun _ _ _ h => h) (Or.inl ⟨by rfl, fun w hSw => by (obtain ⟨s0, s1, s2, s3⟩ := hSw; go_simp)⟩) (by assumption) ?_
          try simp only [Act.put, List.setIfInBounds_toArray, List.set_cons_zero, List.set_cons_succ]
          refine wpAnyH_take (i := 7) (oi := ⟨some 22, _, _, _, _, _⟩) (v := .bool true) rfl (by kernel_rfl) (by kernel_rfl) (by kernel_rfl) (fun _ _ _ h => h) (Or.inl ⟨by rfl, fun w hSw => by (obtain ⟨s0, s1, s2, s3⟩ := hSw; go_simp)⟩) (by assumption) ?_
          try simp only [Act.put, List.setIfInBounds_toArray, List.set_cons_zero, List.set_cons_succ]
          refine wpAnyH_take (i := 8) (oi := ⟨some 23, _, _, _, _, _⟩) (v := .bool true) rfl (by kernel_rfl) (by kernel_rfl) (by kernel_rfl) (fun _ _ _ h => h) (Or.inl ⟨by rfl, fun w hSw => by (obtain ⟨s0, s1, s2, s3⟩ := hSw; go_simp)⟩) (by assumption) ?_
          try simp only [Act.put, List.setIfInBounds_toArray, List.set_cons_zero, List.set_cons_succ]
          refine wpAnyH_take (i := 9) (oi := ⟨some 24, _, _, _, _, _⟩) (v := .pointer (some ⟨w.heap.size, 0, none⟩)) rfl (by kernel_rfl) (by kernel_rfl) (by kernel_rfl) (fun _ _ _ h => h) (Or.inl ⟨by rfl, fun w hSw => by (obtain ⟨s0, s1, s2, s3⟩ := hSw; go_simp)⟩) (by assumption) ?_
          try simp only [Act.put, List.setIfInBounds_toArray, List.set_cons_zero, List.set_cons_succ]
          refine wpAnyH_take (i := 10) (oi := ⟨some 25, _, _, _, _, _⟩) (v := .slice (some ⟨gb, o, none⟩) E.length c) rfl (by kernel_rfl) (by kernel_rfl) (by kernel_rfl) (fun _ _ _ h => h) (Or.inl ⟨by rfl, fun w hSw => by (obtain ⟨s0, s1, s2, s3⟩ := hSw; go_simp)⟩) (by assumption) ?_
          try simp only [Act.put, List.setIfInBounds_toArray, List.set_cons_zero, List.set_cons_succ]
          refine wpAnyH_take (i := 11) (oi := ⟨some 26, _, _, _, _, _⟩) (v := .int .i64 k) rfl (by kernel_rfl) (by kernel_rfl) (by kernel_rfl) (fun _ _ _ h => h) (Or.inl ⟨by rfl, fun w hSw => by (obtain ⟨s0, s1, s2, s3⟩ := hSw; go_simp)⟩) (by assumption) ?_
          try simp only [Act.put, List.setIfInBounds_toArray, List.set_cons_zero, List.set_cons_succ]
          refine wpAnyH_take (i := 12) (oi := ⟨some 27, _, _, _, _, _⟩) (v := .pointer (some ⟨gb, o + k * 17, none⟩)) rfl (by kernel_rfl) (by kernel_rfl) (by kernel_rfl) (fun _ _ _ h => h) (Or.inl ⟨by rfl, fun w hSw => by (obtain ⟨s0, s1, s2, s3⟩ := hSw; go_simp)⟩) (by assumption) ?_
          try simp only [Act.put, List.setIfInBounds_toArray, List.set_cons_zero, List.set_cons_succ]
          refine wpAnyH_take (i := 13) (oi := ⟨some 28, _, _, _, _, _⟩) (v := .pointer (some ⟨gb, o + k * 17 + 1, none⟩)) rfl (by kernel_rfl) (by kernel_rfl) (by kernel_rfl) (fun _ _ _ h => h) (Or.inl ⟨by rfl, fun w hSw => by (obtain ⟨s0, s1, s2, s3⟩ := hSw; go_simp)⟩) (by assumption) ?_
          try simp only [Act.put, List.setIfInBounds_toArray, List.set_cons_zero, List.set_cons_succ]
          refine' wpAnyH_take (i := 14) (oi := ⟨some 29, _, _, _, _, _⟩) (v := _) rfl (by kernel_rfl) (by kernel_rfl) (by kernel_rfl) (fun _ _ _ h => h) (yieldsIf_load_mid (by rfl) 30 _ (by rfl) (gb) (o + k * 17 + 1) (by rfl) (B') _ (fun w h => h.2.2.1) Try.underlying30 (by rfl) sX) (by assumption) ?_
          try simp only [Act.put, List.setIfInBounds_toArray, List.set_cons_zero, List.set_cons_succ]
          refine' wpAnyH_take (i := 15) (oi := ⟨some 30, _, _, _, _, _⟩) (v := _) rfl (by kernel_rfl) (by kernel_rfl) (by kernel_rfl) (fun _ _ _ h => h) (yieldsIf_load_mid (by rfl) 30 _ (by rfl) (w.heap.size + 1) (0) (by rfl) (B) _ (fun w h => h.2.2.2) Try.underlying30 (by rfl) sA) (by assumption) ?_
          try simp only [Act.put, List.setIfInBounds_toArray, List.set_cons_zero, List.set_cons_succ]
          refine wpAnyH_take (i := 16) (oi := ⟨some 31, _, _, _, _, _⟩) (v := .bool false) rfl (by kernel_rfl) (by kernel_rfl) (by kernel_rfl) (fun _ _ _ h => h) (Or.inl ⟨by rfl, fun w hSw => by (obtain ⟨s0, s1, s2, s3⟩ := hSw; go_simp)⟩) (by assumption) ?_
          try simp only [Act.put, List.setIfInBounds_toArray, List.set_cons_zero, List.set_cons_succ]
          refine wpAnyH_take (i := 17) (oi := ⟨some 32, _, _, _, _, _⟩) (v := .bool false) rfl (by kernel_rfl) (by kernel_rfl) (by kernel_rfl) (fun _ _ _ h => h) (Or.inl ⟨by rfl, fun w hSw => by (obtain ⟨s0, s1, s2, s3⟩ := hSw; go_simp)⟩) (by assumption) ?_
          try simp only [Act.put, List.setIfInBounds_toArray, List.set_cons_zero, List.set_cons_succ]
          refine wpAnyH_done (by kernel_rfl) ?_ _
          clear hHeld hq d1 d2
          go_wp2_with fail
          exact ⟨⟨k + 1, by omega, by go_num, HP.out, hx.andDrew⟩, by simp [intOf]; omega⟩
      · have e9 : (xg == g) = false := beq_eq_false_iff_ne.2 hxg
        have hpre' : ∀ j, j < k + 1 → E[j]? ≠ some (g, t) := fun j hj => by
          rcases Nat.lt_succ_iff_lt_or_eq.1 hj with h | h
          · exact hpre j h
          · rw [h, HEK.out]; intro e; injection e with e; injection e with e _; exact hxg e
        have HP := Lib.hid hpre'
        clear hpre hpre' hq d1 d2
        go_upto_region 4 with (fail)
        go_quiet (fail)
        go_wp2_with fail
        exact ⟨⟨k + 1, by omega, by go_num, HP.out, hx.andDrewN _⟩, by simp [intOf]; omega⟩
    · have k1 : ¬ (k : Int) < (E.length : Int) := by omega
      have hf := HM.out k hk hpre (by omega)
      clear hpre
      go_wp2_with fail
      go_ret
      exact ⟨rfl, x1.then hx⟩
end Go.Proofs.Yteidkdbngjhopaa
