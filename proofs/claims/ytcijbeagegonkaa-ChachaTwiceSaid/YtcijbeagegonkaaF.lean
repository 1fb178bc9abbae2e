/-
  A block's first words in the document's answer.
-/
import Derived.Test.YtcijbeagegonkaaE
import Derived.Deep.RegionHeld3
set_option linter.unusedVariables false
namespace Go.Proofs.Ytcijbeagegonkaa
open Go.RowKit

/-- The state of the document's 'first': the boxes of key and nonce, and the words so far. -/
structure Fst (w W : World) (K N : List Int) (v : Value) (s : List Int) : Prop where
  key : W.heap[w.heap.size]? = some (.cells (bys K).toArray 23 (0, 0))
  non : W.heap[w.heap.size + 1]? = some (.cells (bys N).toArray 24 (0, 0))
  row : Ws W v s
  ext : Ext NoB w W
  own : ∀ k, v.ownBlock = some k → w.heap.size + 1 < k

theorem Ws.ext {F : Nat → Prop} {w w' : World} {v : Value} {s : List Int} (h : Ws w v s) (hx : Ext F w w') (hF : ∀ k, v.ownBlock = some k → ¬ F k) : Ws w' v s := QRow.ext h hx hF

theorem vals_take {F : List Int} {l n : Nat} (hl : F.length = l) (hn : n < l) : vals (F.take n) ++ [.int .u32 (F.getD n 0)] = vals (F.take (n + 1)) := by
  have h : n < F.length := by omega
  rw [List.take_add_one, List.getElem?_eq_getElem h, List.getD_eq_getElem?_getD, List.getElem?_eq_getElem h]
  simp only [vals, List.map_append, Option.toList_some, List.map_cons, List.map_nil, Option.getD_some]
theorem Fst.step {w W W2 W4 : World} {K N s s' : List Int} {v : Value} {n off cap g : Nat} (h : Fst w W K N v s) (hx : Ext NoB W W2) (hx4 : Ext (fun k => v.ownBlock = some k) W2 W4) (hg : v.ownBlock = some g ∨ W2.heap.size ≤ g)
    (hn : n = s'.length) (hq : QRow W4 25 1 (.slice (some ⟨g, off, none⟩) n cap) n (vals s')) : Fst w W4 K N (.slice (some ⟨g, off, none⟩) n cap) s' := by
  have hs := h.ext.size
  have l1 := blk_lt' h.non
  have hs2 := hx.size
  refine ⟨hx4.obj (hx.obj h.key fun h => h) fun hk => ?_, hx4.obj (hx.obj h.non fun h => h) fun hk => ?_, by unfold Ws; rw [← hn]; exact hq, (h.ext.then hx).trans hx4 (fun _ _ h => h) (fun k hk hk2 => ?_), fun k hk => ?_⟩
  · have := h.own _ hk; omega
  · have := h.own _ hk; omega
  · have := h.own _ hk2; omega
  · have : g = k := by simpa [Value.ownBlock] using hk
    subst this
    rcases hg with hg | hg
    · exact h.own _ hg
    · omega
theorem Fst.step2 {w W W2 W4 : World} {K N F : List Int} {v : Value} {n off cap g : Nat} {x : Int} {o : Obj} (h : Fst w W K N v (F.take n)) (hx : Ext NoB W W2) (hx4 : Ext (fun k => v.ownBlock = some k) (W2.alloc o) W4) (hg : v.ownBlock = some g ∨ (W2.alloc o).heap.size ≤ g)
    (hF : F.length = 16) (hn : n < 16) (hv : x = F.getD n 0) (hq : QRow W4 25 1 (.slice (some ⟨g, off, none⟩) (n + 1) cap) (n + 1) (vals (F.take n) ++ [.int .u32 x])) : Fst w W4 K N (.slice (some ⟨g, off, none⟩) (n + 1) cap) (F.take (n + 1)) := by
  subst hv
  rw [vals_take hF hn] at hq
  exact h.step (hx.andAlloc o) hx4 hg (by rw [List.length_take, hF]; omega) hq
/-- A guard: the step ahead is a call of function n. -/
theorem step_guard {P : Program} {ops : Array Oper} {o : Oper} {a : Act} {w : World} {K : Act → World → Prop} {Q : Exit → Act → World → Prop} {E : Prop} (n : Nat) {args : Array Operand} {ts : Array TypeId}
    (ho : o.op = .call { callee := .value (.func n), args := args, argTypes := ts })
    (h : if Region.wanted o (yielded ops a.tmps) = true then Oper.wp P o a w K Q else E) : if Region.wanted o (yielded ops a.tmps) = true then Oper.wp P o a w K Q else E := h
theorem four_drew (w : World) (x0 x1 x2 x3 : Value) (e : TypeId) : (w.alloc (.cells #[x0, x1, x2, x3] e)).drew.cell? ⟨w.heap.size, 0, none⟩ = some x0 ∧ (w.alloc (.cells #[x0, x1, x2, x3] e)).drew.cell? ⟨w.heap.size, 0 + 1, none⟩ = some x1 ∧ (w.alloc (.cells #[x0, x1, x2, x3] e)).drew.cell? ⟨w.heap.size, 0 + 2, none⟩ = some x2 ∧ (w.alloc (.cells #[x0, x1, x2, x3] e)).drew.cell? ⟨w.heap.size, 0 + 3, none⟩ = some x3 := by
  have h : (w.alloc (.cells #[x0, x1, x2, x3] e)).drew.heap[w.heap.size]? = some (.cells #[x0, x1, x2, x3] e) := heapNew w _
  exact ⟨cellOf h 0, cellOf h 1, cellOf h 2, cellOf h 3⟩
theorem word22' (g o n c : Nat) (b0 b1 b2 b3 : Int) (h0 : B b0) (h1 : B b1) (h2 : B b2) (h3 : B b3) (w : World) (hn : 4 ≤ n) (hm : n ≤ 9223372036854775807)
    (c0 : w.cell? ⟨g, o, none⟩ = some (.int .u8 b0)) (c1 : w.cell? ⟨g, o + 1, none⟩ = some (.int .u8 b1)) (c2 : w.cell? ⟨g, o + 2, none⟩ = some (.int .u8 b2)) (c3 : w.cell? ⟨g, o + 3, none⟩ = some (.int .u8 b3)) :
    Calls Try.prog 22 #[.slice (some ⟨g, o, none⟩) n c] w fun e w' => e = .returned (.int .u32 (wd b0 b1 b2 b3)) ∧ Ext NoB w w' :=
  (word22 g o n c b0 b1 b2 b3 h0 h1 h2 h3 w hn hm c0 c1 c2 c3).mono (by rintro e w' ⟨h, m, rfl⟩; exact ⟨h, Ext.drewN _ _ _⟩)

theorem keep4 {F : Nat → Prop} {W W' : World} (hx : Ext F W W') {b p : Nat} {v0 v1 v2 v3 : Value} (hF : ¬ F b)
    (h : W.cell? ⟨b, p, none⟩ = some v0 ∧ W.cell? ⟨b, p + 1, none⟩ = some v1 ∧ W.cell? ⟨b, p + 2, none⟩ = some v2 ∧ W.cell? ⟨b, p + 3, none⟩ = some v3) :
    W'.cell? ⟨b, p, none⟩ = some v0 ∧ W'.cell? ⟨b, p + 1, none⟩ = some v1 ∧ W'.cell? ⟨b, p + 2, none⟩ = some v2 ∧ W'.cell? ⟨b, p + 3, none⟩ = some v3 := by
  obtain ⟨h0, h1, h2, h3⟩ := h
  exact ⟨hx.cell h0 hF, hx.cell h1 hF, hx.cell h2 hF, hx.cell h3 hF⟩
set_option maxHeartbeats 1600000 in
theorem first17 (K N : List Int) (c : Int) (hK : K.length = 32) (hN : N.length = 12) (bK : Bs K) (bN : Bs N) (hc : U c) (w : World) :
    Calls Try.prog 17 #[Arr K, Arr N, .int .u32 c] w fun e w' => ∃ v, e = .returned v ∧ Ws w' v (firstW K N c) ∧ Ext NoB w w' ∧ ∀ k, v.ownBlock = some k → w.heap.size ≤ k := by
  obtain ⟨F, hF⟩ : ∃ F, F = firstW K N c := ⟨_, rfl⟩
  have hFF : Sixteen F := by rw [hF]; exact firstW_ok K N c hc
  have hkey : ∀ i, i < 8 → F.getD (4 + i) 0 = kw K i := by rw [hF]; exact firstW_key K N c
  have hnon : ∀ i, i < 3 → F.getD (13 + i) 0 = kw N i := by rw [hF]; exact firstW_nonce K N c
  have h12 : F.getD 12 0 = c := by rw [hF]; rfl
  have h4 : F.take 4 = [1634760805, 857760878, 2036477234, 1797285236] := by rw [hF]; rfl
  rw [← hF]
  clear hF
  obtain ⟨c0, c1⟩ := hc
  go_enter Try.func17, Try.ntmps17
  go_wp2_with fail
  generalize hW1 : World.alloc (World.alloc (World.alloc w _) _) _ = W1
  have h1 : Fst w W1 K N (.slice (some ⟨w.heap.size + 1 + 1, 0, none⟩) 4 4) (F.take 4) := by
    have l4 : (F.take 4).length = 4 := by rw [h4]; rfl
    have hh : W1.heap[w.heap.size + 1 + 1]? = some (.cells (vals (F.take 4)).toArray 25 (0, 0)) := by rw [← hW1, heapNew' _ _ _ (by simp), h4]; rfl
    refine ⟨?_, ?_, ?_, ?_, fun k hk => by simp [Value.ownBlock] at hk; omega⟩
    · rw [← hW1, heapAlloc _ _ _ (by simp; omega), heapAlloc _ _ _ (by simp), heapNew]
    · rw [← hW1, heapAlloc _ _ _ (by simp), heapNew' _ _ _ (by simp)]
    · unfold Ws
      rw [l4]
      exact ⟨by rw [vals_length, l4], .inr ⟨_, 0, 4, _, rfl, hh, Nat.le_refl _, by unfold maxLen; omega, by simp [vals_length, l4], fun j hj => by simp⟩⟩
    · rw [← hW1]; exact ((Ext.alloc NoB w _).andAlloc _).andAlloc _
  clear hW1
  go_loopw [8, 7] (fun i v W => ∃ (k : Nat), k ≤ 8 ∧ i = .int .i64 k ∧ Fst w W K N v (F.take (4 + k))) (fun i _ _ => 8 - (intOf i).toNat)
  case atStart => exact ⟨0, by omega, rfl, h1⟩
  case round =>
    clear h1
    obtain ⟨k, hk, rfl, hf⟩ := hrel
    have hF16 : F.length = 16 := hFF.1
    have hl : (F.take (4 + k)).length = 4 + k := by rw [List.length_take]; omega
    have hq0 := hf.row
    unfold Ws at hq0
    rw [hl] at hq0
    obtain ⟨A, m, rfl, hm1, hm2, hm3⟩ := hq0.slice
    rcases Nat.lt_or_ge k 8 with hlt | hge
    · obtain ⟨p, hp⟩ : ∃ p, p = 4 * k := ⟨_, rfl⟩
      have hp3 : p + 3 < 32 := by omega
      have w0 : IntKind.i64.wrap (4 * (k : Int)) = (p : Int) := by rw [hp]; rw [IntWalk.i64_in _ (by omega)]; omega
      have w1 : IntKind.i64.wrap ((p : Int) + 1) = (p : Int) + 1 := IntWalk.i64_in _ (by omega)
      have w2 : IntKind.i64.wrap ((p : Int) + 2) = (p : Int) + 2 := IntWalk.i64_in _ (by omega)
      have w3 : IntKind.i64.wrap ((p : Int) + 3) = (p : Int) + 3 := IntWalk.i64_in _ (by omega)
      have q0 : (p : Int) < 32 := by omega
      have q1 : (p : Int) + 1 < 32 := by omega
      have q2 : (p : Int) + 2 < 32 := by omega
      have q3 : (p : Int) + 3 < 32 := by omega
      have q4 : 0 ≤ (p : Int) + 1 := by omega
      have q5 : 0 ≤ (p : Int) + 2 := by omega
      have q6 : 0 ≤ (p : Int) + 3 := by omega
      have t2 : ((p : Int) + 2).toNat = p + 2 := by omega
      have t3 : ((p : Int) + 3).toNat = p + 3 := by omega
      have k0 := cellOf hf.key p
      have k1 := cellOf hf.key (p + 1)
      have k2 := cellOf hf.key (p + 2)
      have k3 := cellOf hf.key (p + 3)
      rw [List.getElem?_toArray, bys_at (by omega)] at k0 k1 k2 k3
      have b0 : B (K.getD p 0) := bK.at (by omega)
      have b1 : B (K.getD (p + 1) 0) := bK.at (by omega)
      have b2 : B (K.getD (p + 2) 0) := bK.at (by omega)
      have b3 : B (K.getD (p + 3) 0) := bK.at (by omega)
      have hkw : wd (K.getD p 0) (K.getD (p + 1) 0) (K.getD (p + 2) 0) (K.getD (p + 3) 0) = F.getD (4 + k) 0 := by rw [hkey k hlt, hp]; rfl
      have HK := Lib.hid hkw
      clear hkw
      generalize K.getD p 0 = x0 at k0 b0 HK
      generalize K.getD (p + 1) 0 = x1 at k1 b1 HK
      generalize K.getD (p + 2) 0 = x2 at k2 b2 HK
      generalize K.getD (p + 3) 0 = x3 at k3 b3 HK
      clear hp hkey hnon h12 h4 hFF
      have HA : ∀ h : (Value.slice A (4 + k) m).ownBlock = some w.heap.size, False := fun h => by have := hf.own _ h; omega
      have nc := four_drew wr (.int .u8 x0) (.int .u8 x1) (.int .u8 x2) (.int .u8 x3) 5
      have hn16 : 4 + k < 16 := by omega
      have hk63 : 4 + k + 1 ≤ maxLen := by unfold maxLen; omega
      go_wp2_with fail
      go_region_held3 (fun W => W.cell? ⟨w.heap.size, p, none⟩ = some (.int .u8 x0) ∧ W.cell? ⟨w.heap.size, p + 1, none⟩ = some (.int .u8 x1) ∧ W.cell? ⟨w.heap.size, p + 2, none⟩ = some (.int .u8 x2) ∧ W.cell? ⟨w.heap.size, p + 3, none⟩ = some (.int .u8 x3)) (first | (exact keep4 (Ext.alloc NoB _ _) (fun h => h) (by assumption)) | (exact keep4 hx2 (fun h => h) (by assumption)) | (exact keep4 hx4 HA (by assumption)) | go_keep) (first
        | (go_at_call 22; refine (word22' wr.heap.size 0 4 4 x0 x1 x2 x3 b0 b1 b2 b3 _ (by decide) (by decide) nc.1 nc.2.1 nc.2.2.1 nc.2.2.2).mono ?_; rintro e W2 ⟨rfl, hx2⟩; have hx3 : Ext NoB wr W2 := (Ext.alloc NoB wr _).andDrew.then hx2; have hq2 : QRow (W2.alloc (.cells #[.int .u32 (wd x0 x1 x2 x3)] 25)) 25 1 (.slice A (4 + k) m) (4 + k) (vals (F.take (4 + k))) := (hq0.ext hx3 (fun _ _ h => h)).ext (Ext.alloc NoB W2 _) (fun _ _ h => h); have hn2 : ∀ j u, [Value.int .u32 (wd x0 x1 x2 x3)][j]? = some u → (W2.alloc (.cells #[.int .u32 (wd x0 x1 x2 x3)] 25)).cell? ((⟨W2.heap.size, 0, none⟩ : Addr).add j) = some u := fun j u h => new_one W2 _ 25 j u h)
        | ((refine step_append_q (by rfl) _ _ 49 (by rfl) 25 1 4 (.int .u32 0) Try.underlying49 Try.info25 rfl (by decide) (.slice A (4 + k) m) (4 + k) (vals (F.take (4 + k))) (by rfl) hq2 ⟨W2.heap.size, 0, none⟩ 1 1 [.int .u32 (wd x0 x1 x2 x3)] (by rfl) rfl hn2 (one_of rfl) (by decide) hk63 (by omega) ?_; intro g off cap W4 hq4 hx4 hg4; have hf' := Fst.step2 hf hx3 hx4 hg4 hF16 hn16 HK.out hq4)))
      all_goals go_wp2_with fail
      all_goals exact ⟨⟨k + 1, by omega, by go_num, hf'⟩, by simp [intOf]; omega⟩
    · have e8 : c = F.getD (4 + k) 0 := by
        have : k = 8 := by omega
        rw [this]; exact h12.symm
      have e13 : 4 + k + 1 = 13 := by omega
      have E8 := Lib.hid e8
      have E13 := Lib.hid e13
      clear hkey h4 hFF e8 e13
      go_wp2_with (at_builtin; refine wpList_append_q rfl _ _ 49 rfl 25 1 4 (.int .u32 0) Try.underlying49 Try.info25 rfl (by decide) (.slice A (4 + k) m) (4 + k) (vals (F.take (4 + k))) rfl ?hq ⟨wr.heap.size, 0, none⟩ 1 1 [.int .u32 c] rfl rfl (new_one _ _ _) (one_of rfl) (by decide) ?hm ?hb ?hK)
      case hq => exact hq0.ext (Ext.alloc NoB wr _) (fun _ _ h => h)
      case hm => unfold maxLen; omega
      case hb => omega
      case hK =>
        intro g off cap W4 hq4 hx4 hg4
        have hf1 := Fst.step2 hf (Ext.refl NoB wr) hx4 (hg4.imp id (fun h => by simp; omega)) hF16 (by omega) E8.out hq4
        rw [E13.out] at hf1 ⊢
        clear hq4 hx4 hg4 hf hq0 hm1 hm2 hm3 hl E8 E13
        go_wp2_with fail
        go_loopw [9, 7] (fun i v W => ∃ (k : Nat), k ≤ 3 ∧ i = .int .i64 k ∧ Fst w W K N v (F.take (13 + k))) (fun i _ _ => 3 - (intOf i).toNat)
        case atStart => exact ⟨0, by omega, rfl, hf1⟩
        case round =>
          clear hf1 hge hk
          obtain ⟨k, hk, rfl, hf⟩ := hrel
          have hl : (F.take (13 + k)).length = 13 + k := by rw [List.length_take]; omega
          have hq0 := hf.row
          unfold Ws at hq0
          rw [hl] at hq0
          obtain ⟨A, m, rfl, hm1, hm2, hm3⟩ := hq0.slice
          rcases Nat.lt_or_ge k 3 with hlt | hge
          · obtain ⟨p, hp⟩ : ∃ p, p = 4 * k := ⟨_, rfl⟩
            have hp3 : p + 3 < 12 := by omega
            have w0 : IntKind.i64.wrap (4 * (k : Int)) = (p : Int) := by rw [hp]; rw [IntWalk.i64_in _ (by omega)]; omega
            have w1 : IntKind.i64.wrap ((p : Int) + 1) = (p : Int) + 1 := IntWalk.i64_in _ (by omega)
            have w2 : IntKind.i64.wrap ((p : Int) + 2) = (p : Int) + 2 := IntWalk.i64_in _ (by omega)
            have w3 : IntKind.i64.wrap ((p : Int) + 3) = (p : Int) + 3 := IntWalk.i64_in _ (by omega)
            have q0 : (p : Int) < 12 := by omega
            have q1 : (p : Int) + 1 < 12 := by omega
            have q2 : (p : Int) + 2 < 12 := by omega
            have q3 : (p : Int) + 3 < 12 := by omega
            have q4 : 0 ≤ (p : Int) + 1 := by omega
            have q5 : 0 ≤ (p : Int) + 2 := by omega
            have q6 : 0 ≤ (p : Int) + 3 := by omega
            have t2 : ((p : Int) + 2).toNat = p + 2 := by omega
            have t3 : ((p : Int) + 3).toNat = p + 3 := by omega
            have k0 := cellOf hf.non p
            have k1 := cellOf hf.non (p + 1)
            have k2 := cellOf hf.non (p + 2)
            have k3 := cellOf hf.non (p + 3)
            rw [List.getElem?_toArray, bys_at (by omega)] at k0 k1 k2 k3
            have b0 : B (N.getD p 0) := bN.at (by omega)
            have b1 : B (N.getD (p + 1) 0) := bN.at (by omega)
            have b2 : B (N.getD (p + 2) 0) := bN.at (by omega)
            have b3 : B (N.getD (p + 3) 0) := bN.at (by omega)
            have hkw : wd (N.getD p 0) (N.getD (p + 1) 0) (N.getD (p + 2) 0) (N.getD (p + 3) 0) = F.getD (13 + k) 0 := by rw [hnon k hlt, hp]; rfl
            have HK := Lib.hid hkw
            clear hkw
            generalize N.getD p 0 = x0 at k0 b0 HK
            generalize N.getD (p + 1) 0 = x1 at k1 b1 HK
            generalize N.getD (p + 2) 0 = x2 at k2 b2 HK
            generalize N.getD (p + 3) 0 = x3 at k3 b3 HK
            clear hp hnon h12
            have HA : ∀ h : (Value.slice A (13 + k) m).ownBlock = some (w.heap.size + 1), False := fun h => by have := hf.own _ h; omega
            have nc := four_drew wr (.int .u8 x0) (.int .u8 x1) (.int .u8 x2) (.int .u8 x3) 5
            have hn16 : 13 + k < 16 := by omega
            have hk63 : 13 + k + 1 ≤ maxLen := by unfold maxLen; omega
            go_wp2_with fail
            go_region_held3 (fun W => W.cell? ⟨w.heap.size + 1, p, none⟩ = some (.int .u8 x0) ∧ W.cell? ⟨w.heap.size + 1, p + 1, none⟩ = some (.int .u8 x1) ∧ W.cell? ⟨w.heap.size + 1, p + 2, none⟩ = some (.int .u8 x2) ∧ W.cell? ⟨w.heap.size + 1, p + 3, none⟩ = some (.int .u8 x3)) (first | (exact keep4 (Ext.alloc NoB _ _) (fun h => h) (by assumption)) | (exact keep4 hx2 (fun h => h) (by assumption)) | (exact keep4 hx4 HA (by assumption)) | go_keep) (first
              | (go_at_call 22; refine (word22' wr.heap.size 0 4 4 x0 x1 x2 x3 b0 b1 b2 b3 _ (by decide) (by decide) nc.1 nc.2.1 nc.2.2.1 nc.2.2.2).mono ?_; rintro e W2 ⟨rfl, hx2⟩; have hx3 : Ext NoB wr W2 := (Ext.alloc NoB wr _).andDrew.then hx2; have hq2 : QRow (W2.alloc (.cells #[.int .u32 (wd x0 x1 x2 x3)] 25)) 25 1 (.slice A (13 + k) m) (13 + k) (vals (F.take (13 + k))) := (hq0.ext hx3 (fun _ _ h => h)).ext (Ext.alloc NoB W2 _) (fun _ _ h => h); have hn2 : ∀ j u, [Value.int .u32 (wd x0 x1 x2 x3)][j]? = some u → (W2.alloc (.cells #[.int .u32 (wd x0 x1 x2 x3)] 25)).cell? ((⟨W2.heap.size, 0, none⟩ : Addr).add j) = some u := fun j u h => new_one W2 _ 25 j u h)
              | ((refine step_append_q (by rfl) _ _ 49 (by rfl) 25 1 4 (.int .u32 0) Try.underlying49 Try.info25 rfl (by decide) (.slice A (13 + k) m) (13 + k) (vals (F.take (13 + k))) (by rfl) hq2 ⟨W2.heap.size, 0, none⟩ 1 1 [.int .u32 (wd x0 x1 x2 x3)] (by rfl) rfl hn2 (one_of rfl) (by decide) hk63 (by omega) ?_; intro g off cap W4 hq4 hx4 hg4; have hf' := Fst.step2 hf hx3 hx4 hg4 hF16 hn16 HK.out hq4)))
            all_goals go_wp2_with fail
            all_goals exact ⟨⟨k + 1, by omega, by go_num, hf'⟩, by simp [intOf]; omega⟩
          · have hFk : F.take (13 + k) = F := by rw [List.take_of_length_le]; omega
            have hf2 := hf
            rw [hFk] at hf2
            go_wp2_with fail
            go_ret
            exact ⟨_, rfl, hf2.row, hf2.ext, fun k hk => by have := hf2.own k hk; omega⟩
end Go.Proofs.Ytcijbeagegonkaa
