/-
  A block in the document's answer.
-/
import Derived.Test.YtcijbeagegonkaaF
set_option linter.unusedVariables false
namespace Go.Proofs.Ytcijbeagegonkaa
open Go.RowKit

/-- The columns, and the diagonals, as the document's loops have them. -/
def cols : Nat → List Int → List Int
  | 0, s => s
  | j + 1, s => qst (cols j s) j (j + 4) (j + 8) (j + 12)
def diags : Nat → List Int → List Int
  | 0, s => s
  | j + 1, s => qst (diags j s) j (4 + (j + 1) % 4) (8 + (j + 2) % 4) (12 + (j + 3) % 4)
theorem dbl_cols (s : List Int) : diags 4 (cols 4 s) = dbl s := rfl
theorem cols_ok {s : List Int} (h : Sixteen s) : ∀ j, Sixteen (cols j s)
  | 0 => h
  | j + 1 => qst_ok (cols_ok h j) _ _ _ _
theorem diags_ok {s : List Int} (h : Sixteen s) : ∀ j, Sixteen (diags j s)
  | 0 => h
  | j + 1 => qst_ok (diags_ok h j) _ _ _ _
/-- The words so far lie in a slice of the call's own. -/
structure Wrd (W1 W : World) (v : Value) (s : List Int) : Prop where
  row : Ws W v s
  ext : Ext NoB W1 W
theorem Wrd.next {W1 W W' : World} {v v' : Value} {s s' : List Int} (h : Wrd W1 W v s) (hx : Ext NoB W W') (hr : Ws W' v' s') : Wrd W1 W' v' s' := ⟨hr, h.ext.then hx⟩

set_option maxHeartbeats 1600000 in
theorem block10 (K N : List Int) (c : Int) (hK : K.length = 32) (hN : N.length = 12) (bK : Bs K) (bN : Bs N) (hc : U c) (w : World) :
    Calls Try.prog 10 #[Arr K, Arr N, .int .u32 c] w fun e w' => e = .returned (Arr (blk K N c)) ∧ Ext NoB w w' := by
  obtain ⟨A, hA⟩ : ∃ A, A = (bys K).toArray := ⟨_, rfl⟩
  obtain ⟨C, hC⟩ : ∃ C, C = (bys N).toArray := ⟨_, rfl⟩
  have sA : (Try.prog.info? 23).map (·.size) = some A.size := by rw [hA, List.size_toArray, bys_length, hK]; exact Try.size23
  have sC : (Try.prog.info? 24).map (·.size) = some C.size := by rw [hC, List.size_toArray, bys_length, hN]; exact Try.size24
  have hfst := first17 K N c hK hN bK bN hc
  unfold Arr at hfst ⊢
  rw [← hA, ← hC] at hfst ⊢
  clear hA hC
  obtain ⟨F, hF⟩ : ∃ F, F = firstW K N c := ⟨_, rfl⟩
  have e3 : blk K N c = outB (rounds 10 F) F := by rw [hF]; rfl
  have hFF : Sixteen F := by rw [hF]; exact firstW_ok K N c hc
  rw [e3]
  rw [← hF] at hfst
  clear e3 hF
  go_enter Try.func10, Try.ntmps10
  go_upto_region 1 with (fail)
  generalize hW1 : World.alloc (World.alloc (World.alloc w _) _) _ = W1
  have hA1 : W1.heap[w.heap.size]? = some (.cells A 23 (0, 0)) := by
    rw [← hW1, heapAlloc _ _ _ (by simp; omega), heapAlloc _ _ _ (by simp), heapNew]
  have hC1 : W1.heap[w.heap.size + 1]? = some (.cells C 24 (0, 0)) := by
    rw [← hW1, heapAlloc _ _ _ (by simp), heapNew' _ _ _ (by simp)]
  have hR1 : W1.heap[w.heap.size + 1 + 1]? = some (.cells (List.replicate 64 (Value.int .u8 0)).toArray 27 (0, 0)) := by
    rw [← hW1, heapNew' _ _ _ (by simp)]; rfl
  have x1 : Ext NoB w W1 := by rw [← hW1]; exact ((Ext.alloc NoB w _).andAlloc _).andAlloc _
  clear hW1
  go_wp2_with (first
    | (refine wpList_load_row rfl 23 _ rfl w.heap.size rfl 23 A (0, 0) _ hA1 Try.underlying23 rfl sA ?_)
    | (refine wpList_load_row rfl 24 _ rfl (w.heap.size + 1) rfl 24 C (0, 0) _ hC1 Try.underlying24 rfl sC ?_))
  refine (hfst _).mono ?_
  rintro e W2 ⟨v0, rfl, hv0, x2, own0⟩
  clear hfst
  go_wp2_with fail
  go_loopw [9, 8] (fun i v W => ∃ (k : Nat), k ≤ 10 ∧ i = .int .i64 k ∧ Wrd W2 W v (rounds k F)) (fun i _ _ => 10 - (intOf i).toNat)
  case atStart => exact ⟨0, by omega, rfl, ⟨hv0, Ext.refl _ _⟩⟩
  case round =>
    obtain ⟨k, hk, rfl, hr⟩ := hrel
    rcases Nat.lt_or_ge k 10 with hlt | hge
    · have hd : decide ((k : Int) < 10) = true := by simp; omega
      go_wp2_with fail
      go_loopw [10, 8] (fun i v W => ∃ (j : Nat), j ≤ 4 ∧ i = .int .i64 j ∧ Wrd W2 W v (cols j (rounds k F))) (fun i _ _ => 4 - (intOf i).toNat)
      case atStart => exact ⟨0, by omega, rfl, hr⟩
      case round =>
        clear hr
        obtain ⟨j, hj, rfl, hr⟩ := hrel
        rcases Nat.lt_or_ge j 4 with hjl | hjg
        · have hq := quarter18 j (j + 4) (j + 8) (j + 12) _ (cols_ok (rounds_ok hFF k) j) _ _ hr.row (by omega) (by omega) (by omega) (by omega) (by omega) (by omega) (by omega) (by omega) (by omega) (by omega)
          have Hq := Lib.hid hq
          clear hq
          go_wp2_with fail
          refine Hq.out.mono ?_
          rintro e W4 ⟨v', rfl, hv', x4, own4⟩
          have hn := hr.next (s' := cols (j + 1) (rounds k F)) x4 hv'
          go_wp2_with fail
          exact ⟨⟨j + 1, by omega, by go_num, hn⟩, by simp [intOf]; omega⟩
        · have hj4 : j = 4 := by omega
          rw [hj4] at hr
          clear hj4
          have hd2 : decide ((j : Int) < 4) = false := by simp; omega
          go_wp2_with fail
          go_loopw [11, 8] (fun i v W => ∃ (j : Nat), j ≤ 4 ∧ i = .int .i64 j ∧ Wrd W2 W v (diags j (cols 4 (rounds k F)))) (fun i _ _ => 4 - (intOf i).toNat)
          case atStart => exact ⟨0, by omega, rfl, hr⟩
          case round =>
            clear hr hj hjg hd2
            obtain ⟨j, hj, rfl, hr⟩ := hrel
            rcases Nat.lt_or_ge j 4 with hjl | hjg
            · have hq := quarter18 j (4 + (j + 1) % 4) (8 + (j + 2) % 4) (12 + (j + 3) % 4) _ (diags_ok (cols_ok (rounds_ok hFF k) 4) j) _ _ hr.row (by omega) (by omega) (by omega) (by omega) (by omega) (by omega) (by omega) (by omega) (by omega) (by omega)
              have Hq := Lib.hid hq
              clear hq
              go_wp2_with fail
              refine Hq.out.mono ?_
              rintro e W4 ⟨v', rfl, hv', x4, own4⟩
              have hn := hr.next (s' := diags (j + 1) (cols 4 (rounds k F))) x4 hv'
              go_wp2_with fail
              exact ⟨⟨j + 1, by omega, by go_num, hn⟩, by simp [intOf]; omega⟩
            · have hj4 : j = 4 := by omega
              rw [hj4, dbl_cols] at hr
              clear hj4
              have hn : Wrd W2 wr _ (rounds (k + 1) F) := hr
              go_wp2_with fail
              exact ⟨⟨k + 1, by omega, by go_num, hn⟩, by simp [intOf]; omega⟩
    · have hk10 : k = 10 := by omega
      rw [hk10] at hr
      clear hk10
      obtain ⟨S, hS⟩ : ∃ S, S = rounds 10 F := ⟨_, rfl⟩
      rw [← hS] at hr
      have hSS : Sixteen S := by rw [hS]; exact rounds_ok hFF 10
      have HS := Lib.hid hS
      clear hS
      have hv0' := hv0.ext hr.ext (fun _ _ h => h)
      obtain ⟨g0, o0, m0, rfl, hm01, hm02, hc0, hf0⟩ := hv0'.cells (by have := hFF.1; omega)
      obtain ⟨g1, o1, m1, rfl, hm11, hm12, hc1, hf1⟩ := hr.row.cells (by have := hSS.1; omega)
      have lF := hFF.1
      have lS := hSS.1
      rw [lF] at hm01 hc0 ⊢
      rw [lS] at hm11 hc1 ⊢
      have hR3 := (x2.then hr.ext).obj hR1 (fun h => h)
      have x3 := (x1.then x2).then hr.ext
      clear hv0' hv0 hr x2 x1 hR1 hA1 hC1
      go_upto_region 15 with (fail)
      generalize hW5 : World.alloc wr _ = W5
      have hc05 : ∀ j, j < 16 → W5.cell? ⟨g0, o0 + j, none⟩ = some (.int .u32 (F.getD j 0)) := fun j hj => by rw [← hW5]; exact (Ext.alloc NoB wr _).cell (hc0 j hj) (fun h => h)
      have hc15 : ∀ j, j < 16 → W5.cell? ⟨g1, o1 + j, none⟩ = some (.int .u32 (S.getD j 0)) := fun j hj => by rw [← hW5]; exact (Ext.alloc NoB wr _).cell (hc1 j hj) (fun h => h)
      have hR5 : W5.heap[w.heap.size + 1 + 1]? = some (.cells (List.replicate 64 (Value.int .u8 0)).toArray 27 (0, 0)) := by rw [← hW5]; exact (Ext.alloc NoB wr _).obj hR3 (fun h => h)
      have hO5 : W5.heap[wr.heap.size]? = some (.cells (bys (List.replicate 64 0)).toArray 27 (0, 0)) := by rw [← hW5, heapNew' _ _ _ rfl]; rfl
      have x5 : Ext NoB w W5 := by rw [← hW5]; exact x3.andAlloc _
      have lR := blk_lt' hR3
      have l0 := World.block_lt_of_cell? _ _ (hc0 0 (by omega))
      have l1 := World.block_lt_of_cell? _ _ (hc1 0 (by omega))
      simp only [] at l0 l1
      clear hW5 hR3 x3 hc0 hc1 hf0 hf1
      generalize hb9 : wr.heap.size = b9 at hO5 lR l0 l1 ⊢
      clear hb9
      go_wp2_with fail
      go_loopw [13] (fun i W => ∃ (k : Nat) (o : List Int), k ≤ 64 ∧ i = .int .i64 k ∧ o.length = 64 ∧ (∀ j, j < k → o.getD j 0 = (outB S F).getD j 0) ∧ W.heap[b9]? = some (.cells (bys o).toArray 27 (0, 0)) ∧ Ext (fun k => k = b9) W5 W) (fun i _ => 64 - (intOf i).toNat)
      case atStart => exact ⟨0, List.replicate 64 0, by omega, rfl, by simp, fun j hj => by omega, hO5, Ext.refl _ _⟩
      case round =>
        clear hge hk hO5
        obtain ⟨i, o, hi, rfl, ho, hpre, hO, hx⟩ := hrel
        rcases Nat.lt_or_ge i 64 with hlt | hge
        · have cX := hx.cell (hc15 (i / 4) (by omega)) (show ¬ g1 = b9 by omega)
          have cY := hx.cell (hc05 (i / 4) (by omega)) (show ¬ g0 = b9 by omega)
          obtain ⟨sx0, sx1⟩ := hSS.at (i := i / 4) (by omega)
          obtain ⟨fx0, fx1⟩ := hFF.at (i := i / 4) (by omega)
          generalize hX : S.getD (i / 4) 0 = X at cX sx0 sx1
          generalize hY : F.getD (i / 4) 0 = Y at cY fx0 fx1
          have HX := Lib.hid hX
          have HY := Lib.hid hY
          have co := cellOf hO i
          rw [List.getElem?_toArray, bys_at (by omega)] at co
          have fo := freeOf hO i
          clear hX hY
          go_wp2_with fail
          go_region
          have hlen : ∀ x : Int, (o.set i x).length = 64 := fun x => by rw [List.length_set]; exact ho
          have hnext : ∀ x, x = byt (plus X Y) (i % 4) → (∀ j, j < i + 1 → (o.set i x).getD j 0 = (outB S F).getD j 0) := fun x hx j hj => by
            rw [getD_set]
            by_cases he : i = j
            · rw [if_pos he, if_pos (by omega), ← he, hx, ← HX.out, ← HY.out]
              have := outB_at S F (i / 4) (i % 4) (by omega) (by omega)
              rw [show 4 * (i / 4) + i % 4 = i by omega] at this
              exact this.symm
            · rw [if_neg he, hpre j (by omega)]
          have hnb := fun x => blockSet hO i x
          have hnx : ∀ x, Ext (fun k => k = b9) W5 (wr.setCell ⟨b9, i, none⟩ (.int .u8 x)).drew := fun x => (hx.andSet _ _ fun _ => rfl).andDrew
          have Hlen := Lib.hid hlen
          have Hnext := Lib.hid hnext
          have Hnb := Lib.hid hnb
          have Hnx := Lib.hid hnx
          clear hlen hnext hnb hnx hO hx hpre cX cY co fo
          go_wp2_with fail
          exact ⟨⟨i + 1, o.set i ((X + Y) % 4294967296 / 2 ^ (8 * (i % 4)) % 256), by omega, by go_num, Hlen.out _, Hnext.out _ rfl, Hnb.out _, Hnx.out _⟩, by simp [intOf]; omega⟩
        · have hoF : o = outB S F := ext_getD (by rw [ho, outB_length]) fun j hj => hpre j (by omega)
          have hR6 := hx.obj hR5 (by omega)
          have x6 : Ext NoB w wr := x5.trans hx (fun _ _ h => h) (fun k hk h => by have := blk_lt' hR5; omega)
          obtain ⟨D, hD⟩ : ∃ D, D = (bys o).toArray := ⟨_, rfl⟩
          rw [← hD] at hO
          have lD : D.size = 64 := by rw [hD, List.size_toArray, bys_length, ho]
          have sD : (Try.prog.info? 27).map (·.size) = some D.size := by rw [lD]; exact Try.size27
          have oD : D.all (·.oneCell') = true := by rw [hD]; exact all_oneCell_toArray (bys_one _)
          have hth : wr.there (w.heap.size + 1 + 1) 0 D.size := fun j hj => ⟨by rw [cellOf hR6, Array.getElem?_eq_getElem (by rw [lD] at hj; simpa using hj)]; rfl, freeOf hR6 _⟩
          have hend : (wr.setCells (w.heap.size + 1 + 1) 0 D.toList).heap[w.heap.size + 1 + 1]? = some (.cells D 27 (0, 0)) := by
            have := setCells_whole hR6 D.toList (by rw [Array.length_toList, lD]; simp)
            simpa using this
          have hDF : D = (bys (outB (rounds 10 F) F)).toArray := by rw [hD, hoF, HS.out]
          clear hD hoF hpre
          go_wp2_with (first
            | (refine wpList_load_row rfl 27 _ rfl b9 rfl 27 D (0, 0) _ hO Try.underlying27 rfl sD ?_)
            | (refine wpList_store_mid rfl 27 _ _ rfl (w.heap.size + 1 + 1) 0 D rfl rfl hth sD oD ?_))
          refine bodyPost_ret (results_cell_row rfl _ _ (w.heap.size + 1 + 1) 27 D (0, 0) _ rfl hend Try.underlying27 rfl sD) rfl ⟨by rw [hDF], x6.andCells _ _ fun h => absurd h (by omega)⟩
end Go.Proofs.Ytcijbeagegonkaa
