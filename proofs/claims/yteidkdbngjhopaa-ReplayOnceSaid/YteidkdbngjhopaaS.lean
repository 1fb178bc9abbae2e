/-
  The document's Gens: the walk.
-/
import Derived.Test.YteidkdbngjhopaaR
set_option linter.unusedVariables false
set_option linter.unusedSimpArgs false
namespace Go.Proofs.Yteidkdbngjhopaa
open Go.RowKit

theorem info3 : (Try.prog.info? 3).map (fun i => (i.zero, i.size, i.bytes)) = some (some (.int .i64 0), 1, 8) := by kernel_rfl
theorem take_map_snoc {S : List Int} {j : Nat} (h : j < S.length) : (S.take j).map (Value.int .i64) ++ [.int .i64 (S.getD j 0)] = (S.take (j + 1)).map (Value.int .i64) := by
  have e1 : S.getD j 0 = S[j] := by simp [List.getD_eq_getElem?_getD, List.getElem?_eq_getElem h]
  rw [e1, List.take_succ_eq_append_getElem h, List.map_append]
  rfl
def slen : Value → Nat
  | .slice _ n _ => n
  | _ => 0
set_option maxHeartbeats 3200000 in
set_option maxRecDepth 100000 in
theorem gens19 (A : Option Addr) (c : Nat) (most low : Int) (E : List Ent) (w : World) (hr : RE w (.slice A E.length c) E) (h0 : ∀ e ∈ E, 0 ≤ e.1) (hlen : E.length ≤ 1000000) :
    Calls Try.prog 19 #[rq A E.length c most low] w (GensEnd w E) := by
  have x1 := Ext.alloc NoB w (.cells #[.slice A E.length c, .int .i64 most, .int .i64 low] 28)
  have hr1 := hr.ext x1 (fun _ _ h => h)
  have hb1 := heapNew w (.cells #[.slice A E.length c, .int .i64 most, .int .i64 low] 28)
  obtain ⟨A', c', hv, hc1, hc2, _⟩ := hr.slice
  injection hv with e1 e2 e3
  subst e1; subst e3
  clear e2 hr
  have h63 : c ≤ 9223372036854775807 := by unfold maxLen at hc2; omega
  have hnx := nx_gens h0
  have hwf : ∀ j, j < (gens E).length → ∃ x, (gens E).getD j 0 = x ∧ 0 ≤ x := fun j hj => by
    refine ⟨_, rfl, ?_⟩
    have e1 : (gens E).getD j 0 = (gens E)[j] := by simp [List.getD_eq_getElem?_getD, List.getElem?_eq_getElem hj]
    rw [e1]
    obtain ⟨t, ht⟩ := mem_gl.1 (gens_mem.1 (List.getElem_mem hj))
    exact h0 _ ht
  have hls : ∀ j, j < (gens E).length → lastOf (gens E) (j + 1) = (gens E).getD j 0 := fun j hj => by unfold lastOf; rw [if_neg (by omega)]; rfl
  have hgl : (gens E).length ≤ 1000000 := by rw [gens_len]; have := gl_len E; omega
  have hsn := fun j (hj : j < (gens E).length) => take_map_snoc hj
  obtain ⟨S, hS⟩ : ∃ S, S = gens E := ⟨_, rfl⟩
  rw [← hS] at hnx hwf hls hgl hsn
  have HGE : Hid (GensEnd w E = fun (e : Ending) (w' : World) => ∃ v, e = .returned v ∧ QRow w' 3 1 v S.length (S.map (Value.int .i64)) ∧ Ext NoB w w' ∧ ∀ k, v.ownBlock = some k → w.heap.size ≤ k) := Lib.hid (by subst hS; rfl)
  rw [HGE.out]
  have HNX := Lib.hid hnx
  have HWF := Lib.hid hwf
  have HLS := Lib.hid hls
  have HSN := Lib.hid hsn
  have HR := Lib.hid hr1
  have HB := Lib.hid hb1
  clear hS HGE hnx hwf hls hr1 hb1 h0 hsn
  go_enter Try.func19, Try.ntmps19
  go_wp2_with fail
  generalize World.alloc w _ = W1 at x1 HR HB ⊢
  go_loopw [3, 4] (fun o l W => ∃ (j : Nat) (A2 : Option Addr) (c2 : Nat), j ≤ S.length ∧ o = .slice A2 j c2 ∧ l = .int .i64 (lastOf S j) ∧ QRow W 3 1 (.slice A2 j c2) j ((S.take j).map (Value.int .i64)) ∧ Ext NoB W1 W ∧ ∀ k, (Value.slice A2 j c2).ownBlock = some k → W1.heap.size ≤ k) (fun o _ _ => S.length + 1 - slen o)
  case atStart => exact ⟨0, none, 0, by omega, rfl, rfl, QRow.nil _ _ _, Ext.refl _ _, fun k hk => by simp [Value.ownBlock] at hk⟩
  case round =>
    obtain ⟨j, A2, c2, hj, rfl, rfl, hrow, hx, hnew⟩ := hrel
    obtain ⟨z0, z1, z2⟩ := three (hx.obj HB.out id)
    have hre := HR.out.ext hx (fun _ _ h => h)
    have hnx := HNX.out j hj
    generalize hlast : lastOf S j = last at hnx ⊢
    have HRE := Lib.hid hre
    have HROW := Lib.hid hrow
    have HLAST := Lib.hid hlast
    have HNJ := Lib.hid hnx
    clear hre hrow hlast hnx
    obtain ⟨wo, rfl⟩ : ∃ wo : World, wo = wr := ⟨_, rfl⟩
    go_wp2_with fail
    go_loop [5, 6] (fun n i => ∃ k : Nat, k ≤ E.length ∧ i = .int .i64 k ∧ n = .int .i64 (nx E last k)) (fun _ i => E.length - (intOf i).toNat)
    case atStart => exact ⟨0, by omega, rfl, rfl⟩
    case round =>
      obtain ⟨k, hk, rfl, rfl⟩ := hrel
      by_cases hlt : k < E.length
      · have k1 : (k : Int) < (E.length : Int) := by omega
        obtain ⟨gb, o, rfl, hgb, hra⟩ := HRE.out.at hlt
        have d0 := ent_gen hra
        have hs : nx E last (k + 1) = if last < E[k].1 ∧ (nx E last k < 0 ∨ E[k].1 < nx E last k) then E[k].1 else nx E last k := by
          have e1 : E.getD k (0, []) = E[k] := by simp [List.getD_eq_getElem?_getD, List.getElem?_eq_getElem hlt]
          rw [← e1]; rfl
        clear hra
        generalize E[k].1 = x at d0 hs
        generalize hn1 : nx E last k = nn at hs ⊢
        generalize hn2 : nx E last (k + 1) = nn' at hs
        have HN2 := Lib.hid hn2
        clear hn1 hn2
        by_cases h1 : last < x
        · by_cases h2 : nn < 0
          · rw [if_pos ⟨h1, .inl h2⟩] at hs
            have HS := Lib.hid hs
            clear hs
            go_wp2_with fail
            exact ⟨⟨k + 1, by omega, by go_num, by rw [HN2.out, HS.out]⟩, by simp [intOf]; omega⟩
          · by_cases h3 : x < nn
            · rw [if_pos ⟨h1, .inr h3⟩] at hs
              have HS := Lib.hid hs
              clear hs
              go_wp2_with fail
              exact ⟨⟨k + 1, by omega, by go_num, by rw [HN2.out, HS.out]⟩, by simp [intOf]; omega⟩
            · rw [if_neg (fun h => h.2.elim h2 h3)] at hs
              have HS := Lib.hid hs
              clear hs
              go_wp2_with fail
              exact ⟨⟨k + 1, by omega, by go_num, by rw [HN2.out, HS.out]⟩, by simp [intOf]; omega⟩
        · rw [if_neg (fun h => h1 h.1)] at hs
          have HS := Lib.hid hs
          clear hs
          go_wp2_with fail
          exact ⟨⟨k + 1, by omega, by go_num, by rw [HN2.out, HS.out]⟩, by simp [intOf]; omega⟩
      · have k1 : ¬ (k : Int) < (E.length : Int) := by omega
        obtain rfl : k = E.length := by omega
        rw [HNJ.out]
        by_cases hjl : j < S.length
        · obtain ⟨x, hx1, hx2⟩ := HWF.out j hjl
          rw [if_pos hjl, hx1]
          have e9 : ¬ x < 0 := by omega
          go_wp2_with (at_builtin; refine wpList_append_q rfl _ _ 43 rfl 3 1 8 (.int .i64 0) Try.underlying43 info3 rfl (by decide) (.slice A2 j c2) j ((S.take j).map (Value.int .i64)) rfl (HROW.out.ext (Ext.alloc NoB wo _) (fun _ _ h => h)) ⟨wo.heap.size, 0, none⟩ 1 1 [.int .i64 x] rfl rfl (new_one wo _ _) (one_of rfl) (by decide) (by unfold maxLen; omega) (by omega) ?_; intro g3 o3 c3 W3 hq3 x3 hg3)
          have hq4 : QRow W3 3 1 (.slice (some ⟨g3, o3, none⟩) (j + 1) c3) (j + 1) ((S.take (j + 1)).map (Value.int .i64)) := by
            rw [← HSN.out j hjl, hx1]; exact hq3
          have hl4 : lastOf S (j + 1) = x := by rw [HLS.out j hjl, hx1]
          have hx4 : Ext NoB W1 W3 := (hx.andAlloc (.cells #[.int .i64 x] 3)).trans x3 (fun _ _ h => h) (fun k hk h => by have := hnew k h; omega)
          have hn4 : ∀ k, (Value.slice (some ⟨g3, o3, none⟩) (j + 1) c3).ownBlock = some k → W1.heap.size ≤ k := fun k hk => by
            have hgk : g3 = k := by simpa [Value.ownBlock] using hk
            subst hgk
            rcases hg3 with h | h
            · exact hnew _ h
            · have := hx.size; simp at h; omega
          have HR4 := Lib.hid (And.intro hq4 (And.intro hx4 hn4))
          have HL4 := Lib.hid hl4
          clear hq3 hq4 hl4 hx4 hn4 x3 hg3 hx1
          go_wp2_with fail
          exact ⟨⟨j + 1, some ⟨g3, o3, none⟩, c3, by omega, rfl, by rw [HL4.out], HR4.out⟩, by simp [slen]; omega⟩
        · rw [if_neg hjl]
          obtain rfl : j = S.length := by omega
          go_wp2_with fail
          go_ret
          exact ⟨_, rfl, by have := HROW.out; rw [List.take_length] at this; exact this, x1.then hx, fun k hk => Nat.le_trans x1.size (hnew k hk)⟩
end Go.Proofs.Yteidkdbngjhopaa
