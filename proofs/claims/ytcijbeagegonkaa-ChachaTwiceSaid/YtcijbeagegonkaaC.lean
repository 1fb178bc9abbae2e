/-
  A quarter round in the document's answer: a new row of words.
-/
import Derived.Test.YtcijbeagegonkaaB
set_option linter.unusedVariables false
namespace Go.Proofs.Ytcijbeagegonkaa
open Go.RowKit

theorem Try.info25 : (Try.prog.info? 25).map (fun i => (i.zero, i.size, i.bytes)) = some (some (.int .u32 0), 1, 4) := by kernel_rfl

theorem QRow.setAt {w : World} {e g o n cap : Nat} {xs : List Value} (h : QRow w e 1 (.slice (some ⟨g, o, none⟩) n cap) n xs) {i : Nat} (hi : i < n) (x : Value) :
    QRow (w.setCell ⟨g, o + i, none⟩ x) e 1 (.slice (some ⟨g, o, none⟩) n cap) n (xs.set i x) := by
  obtain ⟨h1, h2⟩ := h
  refine ⟨by rw [List.length_set]; exact h1, ?_⟩
  rcases h2 with ⟨h2, _⟩ | ⟨g', o', cap', cur, hv, hh, hn, hm, hs, ht⟩
  · cases h2
  · injection hv with hv1 hv2 hv3
    injection hv1 with hv1
    injection hv1 with e1 e2
    subst e1; subst e2; subst hv3
    refine .inr ⟨g, o, cap, cur.setIfInBounds (o + i) x, rfl, heapSet hh _ _, hn, hm, by simpa using hs, fun j hj => ?_⟩
    rw [List.length_set] at hj
    by_cases hij : i = j
    · subst hij
      rw [Array.getElem?_setIfInBounds_self_of_lt (by omega), List.getElem?_set_self hj]
    · rw [Array.getElem?_setIfInBounds_ne (by omega), List.getElem?_set_ne hij]
      exact ht j hj

/-- The words lie in a slice of the call's own. -/
def Ws (w : World) (v : Value) (s : List Int) : Prop := QRow w 25 1 v s.length (vals s)
theorem Ws.cells {w : World} {v : Value} {s : List Int} (h : Ws w v s) (h0 : 0 < s.length) : ∃ g o c, v = .slice (some ⟨g, o, none⟩) s.length c ∧ s.length ≤ c ∧ c ≤ maxLen ∧ (∀ j, j < s.length → w.cell? ⟨g, o + j, none⟩ = some (.int .u32 (s.getD j 0))) ∧ ∀ j, w.frozen? ⟨g, j, none⟩ = false := by
  obtain ⟨g, o, c, hv, hc, hm, hj, hf⟩ := QRow.form h h0
  exact ⟨g, o, c, hv, hc, hm, fun j hl => by rw [hj j (by omega), vals_at hl], hf⟩

theorem vals_one (s : List Int) : ∀ u ∈ vals s, u.oneCell' = true := by
  intro u hu
  obtain ⟨x, _, rfl⟩ := List.mem_map.1 hu
  rfl
theorem QRow.reads {w : World} {e n g o cap : Nat} {xs : List Value} (h : QRow w e 1 (.slice (some ⟨g, o, none⟩) n cap) n xs) (j : Nat) (u : Value) (hu : xs[j]? = some u) : w.cell? ((⟨g, o, none⟩ : Addr).add j) = some u := by
  have hj : j < xs.length := (List.getElem?_eq_some_iff.1 hu).1
  have hl : xs.length = n := by have := h.1; omega
  obtain ⟨g', o', c', hv', hc', hm', hcell, hfr⟩ := QRow.form h (by omega)
  injection hv' with hv1 hv2 hv3
  injection hv1 with hv1
  injection hv1 with e1 e2
  subst e1; subst e2
  rw [add_none, hcell j (by omega), hu]

set_option maxRecDepth 100000 in
set_option maxHeartbeats 1600000 in
theorem quarter18 (i j k l : Nat) (s : List Int) (hs : Sixteen s) (v : Value) (w : World) (h : Ws w v s)
    (hi : i < 16) (hj : j < 16) (hk : k < 16) (hl : l < 16) (nij : i ≠ j) (nik : i ≠ k) (nil : i ≠ l) (njk : j ≠ k) (njl : j ≠ l) (nkl : k ≠ l) :
    Calls Try.prog 18 #[v, .int .i64 i, .int .i64 j, .int .i64 k, .int .i64 l] w fun e' w' => ∃ v', e' = .returned v' ∧ Ws w' v' (qst s i j k l) ∧ Ext NoB w w' ∧ ∀ k, v'.ownBlock = some k → w.heap.size ≤ k := by
  have hn := hs.1
  have hU := fun {i : Nat} (hi : i < 16) => hs.at hi
  obtain ⟨g, o, cap, rfl, hc, hm, hcell, hfr⟩ := h.cells (by omega)
  rw [hn] at hc hcell
  unfold Ws at h
  rw [hn] at h ⊢
  have ca := hcell i hi
  have cb := hcell j hj
  have cc := hcell k hk
  have cd := hcell l hl
  obtain ⟨a0, a1⟩ := hU hi
  obtain ⟨b0, b1⟩ := hU hj
  obtain ⟨c0, c1⟩ := hU hk
  obtain ⟨d0, d1⟩ := hU hl
  have hq : qst s i j k l = (((s.set i (qa (s.getD i 0) (s.getD j 0) (s.getD k 0) (s.getD l 0))).set j (qb (s.getD i 0) (s.getD j 0) (s.getD k 0) (s.getD l 0))).set k (qc (s.getD i 0) (s.getD j 0) (s.getD k 0) (s.getD l 0))).set l (qd (s.getD i 0) (s.getD j 0) (s.getD k 0) (s.getD l 0)) := rfl
  rw [hq]
  clear hq hU hcell
  revert ca cb cc cd a0 a1 b0 b1 c0 c1 d0 d1
  generalize s.getD i 0 = a
  generalize s.getD j 0 = b
  generalize s.getD k 0 = c
  generalize s.getD l 0 = d
  intro ca cb cc cd a0 a1 b0 b1 c0 c1 d0 d1
  go_enter Try.func18, Try.ntmps18
  go_wp2
  go_quiet (fail)
  go_wp2_with fail
  go_at_call 23; refine (left23_16 _ (xr_u _ _) _).mono ?_; rintro e w' ⟨rfl, rfl⟩
  generalize hd1 : rot 65536 65536 _ = d1
  go_wp2_with fail
  go_at_call 23; refine (left23_12 _ (xr_u _ _) _).mono ?_; rintro e w' ⟨rfl, rfl⟩
  generalize hb1 : rot 4096 1048576 _ = b1
  go_wp2_with fail
  go_at_call 23; refine (left23_8 _ (xr_u _ _) _).mono ?_; rintro e w' ⟨rfl, rfl⟩
  generalize hd2 : rot 256 16777216 _ = d2
  go_wp2_with fail
  go_at_call 23; refine (left23_7 _ (xr_u _ _) _).mono ?_; rintro e w' ⟨rfl, rfl⟩
  generalize hb2 : rot 128 33554432 _ = b2
  go_upto_region 10 with (fail)
  have ra : (a + b + b1) % 4294967296 = qa a b c d := by subst hb1; subst hd1; rfl
  have rc : (c + d1 + d2) % 4294967296 = qc a b c d := by subst hd2; subst hb1; subst hd1; rfl
  have rd : d2 = qd a b c d := by subst hd2; subst hb1; subst hd1; rfl
  have rb : b2 = qb a b c d := by subst hb2; subst hd2; subst hb1; subst hd1; rfl
  obtain ⟨A, hA⟩ : ∃ A, A = qa a b c d := ⟨_, rfl⟩
  obtain ⟨C, hC⟩ : ∃ C, C = qc a b c d := ⟨_, rfl⟩
  rw [ra, ← hA, rc, ← hC]
  clear hd1 hb1 hd2 hb2 ra rc
  obtain ⟨W, hW⟩ : ∃ W, W = w.drewN nq := ⟨_, rfl⟩
  rw [← hW]
  have hq := h.ext (F := NoB) (w' := W) (by rw [hW]; exact Ext.drewN _ _ _) (fun _ _ h => h)
  have hx : Ext NoB w W := by rw [hW]; exact Ext.drewN _ _ _
  clear hW ca cb cc cd hfr
  go_wp2_with (at_builtin; refine wpList_append_q rfl (.tmp 60) (.tmp 61) 49 rfl 25 1 4 (.int .u32 0) Try.underlying49 Try.info25 rfl (by decide) (.slice (some ⟨W.heap.size, 0, none⟩) 0 0) 0 [] rfl ?hq ⟨g, o, none⟩ 16 cap (vals s) rfl (by rw [vals_length, hn]) ?hn ?h1 (by decide) ?hm ?hb ?hK)
  case hq => exact ⟨by simp, .inr ⟨_, 0, 0, #[], rfl, heapNew _ _, Nat.le_refl _, Nat.zero_le _, by simp, by simp⟩⟩
  case hn => exact (hq.ext (Ext.alloc NoB W _) (fun _ _ h => h)).reads
  case h1 => exact vals_one s
  case hm => unfold maxLen; omega
  case hb => omega
  case hK =>
    intro g1 o1 cap1 W2 hq2 hx2 hg2
    have hx3 : Ext NoB w W2 := (hx.andAlloc (.cells #[] 25)).trans hx2 (fun _ _ h => h) (fun k hk h => by simp [Value.ownBlock] at h; have := hx.size; omega)
    have hg1 : w.heap.size ≤ g1 := by
      have := hx.size
      rcases hg2 with h | h
      · simp [Value.ownBlock] at h; omega
      · omega
    have hn2 : vals s = [] ++ vals s := rfl
    obtain ⟨g', o', c', hv', hc', hm', hcell, hfr⟩ := QRow.form hq2 (by decide)
    injection hv' with hv1 hv2 hv3
    injection hv1 with hv1
    injection hv1 with e1 e2
    subst e1; subst e2; subst hv3
    clear hq h hc hm hx hx2 hg2 hv2 hn2
    have ci : W2.cell? ⟨g1, o1 + i, none⟩ = some (.int .u32 (s.getD i 0)) := by rw [hcell i (by omega)]; exact vals_at (by omega)
    have cj : W2.cell? ⟨g1, o1 + j, none⟩ = some (.int .u32 (s.getD j 0)) := by rw [hcell j (by omega)]; exact vals_at (by omega)
    have ck : W2.cell? ⟨g1, o1 + k, none⟩ = some (.int .u32 (s.getD k 0)) := by rw [hcell k (by omega)]; exact vals_at (by omega)
    have cl : W2.cell? ⟨g1, o1 + l, none⟩ = some (.int .u32 (s.getD l 0)) := by rw [hcell l (by omega)]; exact vals_at (by omega)
    clear hcell
    go_wp2_with fail
    go_ret
    refine ⟨_, rfl, ?_, ?_, fun k hk => ?_⟩
    · unfold Ws
      simp only [List.length_set, hn, ← vals_set]
      exact (((hq2.setAt (by omega) _).setAt (by omega) _).setAt (by omega) _).setAt (by omega) _
    · have x1 := hx3.andSet ⟨g1, o1 + i, none⟩ (.int .u32 (qa a b c d)) (fun h => absurd h (by show ¬ g1 < _; omega))
      have x2 := x1.andSet ⟨g1, o1 + j, none⟩ (.int .u32 (qb a b c d)) (fun h => absurd h (by show ¬ g1 < _; omega))
      have x3 := x2.andSet ⟨g1, o1 + k, none⟩ (.int .u32 (qc a b c d)) (fun h => absurd h (by show ¬ g1 < _; omega))
      exact x3.andSet ⟨g1, o1 + l, none⟩ (.int .u32 (qd a b c d)) (fun h => absurd h (by show ¬ g1 < _; omega))
    · simp [Value.ownBlock] at hk; omega
end Go.Proofs.Ytcijbeagegonkaa
