/-
  The stream in the document's answer.
-/
import Derived.Test.YtcijbeagegonkaaH
set_option linter.unusedVariables false
namespace Go.Proofs.Ytcijbeagegonkaa
open Go.RowKit

theorem rstream_neg (K N : List Int) (c L : Int) (hL : L < 0) (w : World) :
    Calls Try.prog 12 #[Arr K, Arr N, .int .u32 c, .int .i64 L] w fun e w' => e = .returned (.tuple #[.slice none 0 0, .int .i64 2]) ∧ Ext NoB w w' := by
  obtain ⟨A, hA⟩ : ∃ A, A = (bys K).toArray := ⟨_, rfl⟩
  obtain ⟨C, hC⟩ : ∃ C, C = (bys N).toArray := ⟨_, rfl⟩
  unfold Arr
  rw [← hA, ← hC]
  clear hA hC
  go_enter Try.func12, Try.ntmps12
  go_wp2_with fail
  go_ret2
  exact ⟨rfl, (Ext.alloc NoB w _).andAlloc _⟩
theorem rstream_far (K N : List Int) (c L : Int) (hL : 65536 < L) (w : World) :
    Calls Try.prog 12 #[Arr K, Arr N, .int .u32 c, .int .i64 L] w fun e w' => e = .returned (.tuple #[.slice none 0 0, .int .i64 3]) ∧ Ext NoB w w' := by
  obtain ⟨A, hA⟩ : ∃ A, A = (bys K).toArray := ⟨_, rfl⟩
  obtain ⟨C, hC⟩ : ∃ C, C = (bys N).toArray := ⟨_, rfl⟩
  unfold Arr
  rw [← hA, ← hC]
  clear hA hC
  go_enter Try.func12, Try.ntmps12
  go_wp2_with fail
  go_ret2
  exact ⟨rfl, (Ext.alloc NoB w _).andAlloc _⟩
theorem rstream_big (K N : List Int) (c L : Int) (hc : U c) (h0 : 0 ≤ L) (hL : L ≤ 65536) (hb : 4294967296 < c + (L + 63) / 64) (w : World) :
    Calls Try.prog 12 #[Arr K, Arr N, .int .u32 c, .int .i64 L] w fun e w' => e = .returned (.tuple #[.slice none 0 0, .int .i64 3]) ∧ Ext NoB w w' := by
  obtain ⟨A, hA⟩ : ∃ A, A = (bys K).toArray := ⟨_, rfl⟩
  obtain ⟨C, hC⟩ : ∃ C, C = (bys N).toArray := ⟨_, rfl⟩
  unfold Arr
  rw [← hA, ← hC]
  clear hA hC
  obtain ⟨c0, c1⟩ := hc
  go_enter Try.func12, Try.ntmps12
  go_wp2_with fail
  go_ret2
  exact ⟨rfl, (Ext.alloc NoB w _).andAlloc _⟩

theorem D_at (D : Array Value) (s : List Int) (hD : D = (bys s).toArray) (hs : s.length = 64) {j : Nat} (hj : j < 64) : D[j]? = some (.int .u8 (s.getD j 0)) := by
  rw [hD, List.getElem?_toArray]
  exact bys_at (by omega)
theorem D_take (D : Array Value) (s : List Int) (hD : D = (bys s).toArray) (hs : s.length = 64) {j : Nat} (hj : j < 64) : D.toList.take j ++ [.int .u8 (s.getD j 0)] = D.toList.take (j + 1) := by
  have h := D_at D s hD hs hj
  rw [List.take_add_one]
  congr 1
  have : D.toList[j]? = D[j]? := by simp
  rw [this, h]
  rfl
set_option maxHeartbeats 1600000 in
theorem rstream_ok (K N : List Int) (c : Int) (L : Nat) (hK : K.length = 32) (hN : N.length = 12) (bK : Bs K) (bN : Bs N) (hc : U c) (hL : L ≤ 65536) (hb : c + ((L + 63) / 64 : Nat) ≤ 4294967296) (w : World) :
    Calls Try.prog 12 #[Arr K, Arr N, .int .u32 c, .int .i64 L] w (StreamEnd K N c L w) := by
  obtain ⟨A, hA⟩ : ∃ A, A = (bys K).toArray := ⟨_, rfl⟩
  obtain ⟨C, hC⟩ : ∃ C, C = (bys N).toArray := ⟨_, rfl⟩
  have sA : (Try.prog.info? 23).map (·.size) = some A.size := by rw [hA, List.size_toArray, bys_length, hK]; exact Try.size23
  have sC : (Try.prog.info? 24).map (·.size) = some C.size := by rw [hC, List.size_toArray, bys_length, hN]; exact Try.size24
  have hblk := fun c hc => block10 K N c hK hN bK bN hc
  unfold Arr at hblk ⊢
  rw [← hA, ← hC] at hblk ⊢
  have HA := Lib.hid hA
  have HC := Lib.hid hC
  clear hA hC
  obtain ⟨c0, c1⟩ := hc
  have hb' : ¬ 4294967296 < c + ((L : Int) + 63) / 64 := by omega
  go_enter Try.func12, Try.ntmps12
  go_upto_region 5 with (fail)
  generalize hW1 : World.alloc (World.alloc w _) _ = W1
  have hA1 : W1.heap[w.heap.size]? = some (.cells A 23 (0, 0)) := by rw [← hW1, heapAlloc _ _ _ (by simp), heapNew]
  have hC1 : W1.heap[w.heap.size + 1]? = some (.cells C 24 (0, 0)) := by rw [← hW1, heapNew' _ _ _ (by simp)]
  have x1 : Ext NoB w W1 := by rw [← hW1]; exact (Ext.alloc NoB w _).andAlloc _
  clear hW1
  have hb1 : Bx w W1 24 K N 5 (.slice none 0 0) (64 * 0) (bys (strm K N c 0)) :=
    ⟨by rw [← HA.out]; exact hA1, by rw [← HC.out]; exact hC1, QRow.nil _ _ _, x1, fun k hk => by simp [Value.ownBlock] at hk⟩
  clear hA1 hC1 x1 hb'
  go_wp2_with fail
  go_loopw [11, 10] (fun i v W => ∃ (k : Nat), k ≤ (L + 63) / 64 ∧ i = .int .i64 (64 * k : Nat) ∧ Bx w W 24 K N 5 v (64 * k) (bys (strm K N c k))) (fun i _ _ => L + 63 - (intOf i).toNat)
  case atStart => exact ⟨0, by omega, rfl, hb1⟩
  case round =>
    clear hb1
    obtain ⟨k, hk, rfl, hb1⟩ := hrel
    have hq := hb1.row
    obtain ⟨Av, m, rfl, hm1, hm2, hm3⟩ := hq.slice
    have hA1 := hb1.key
    have hC1 := hb1.non
    rw [← HA.out] at hA1
    rw [← HC.out] at hC1
    rcases Nat.lt_or_ge (64 * k) L with hlt | hge
    · have hkc : (c + (k : Int)) % 4294967296 = c + k := by omega
      have hbk := hblk (c + k) ⟨by omega, by omega⟩
      obtain ⟨D, hD⟩ : ∃ D, D = (bys (blk K N (c + k))).toArray := ⟨_, rfl⟩
      have lD : D.size = 64 := by rw [hD, List.size_toArray, bys_length, blk_length]
      have sD : (Try.prog.info? 27).map (·.size) = some D.size := by rw [lD]; exact Try.size27
      have oD : D.all (·.oneCell') = true := by rw [hD]; exact all_oneCell_toArray (bys_one _)
      rw [← hD] at hbk
      have hs' : bys (strm K N c (k + 1)) = bys (strm K N c k) ++ D.toList := by rw [strm, hkc, bys_append, hD]
      have HS := Lib.hid hs'
      have HD := Lib.hid hD
      clear hD hkc hs' hm3
      have hi4 : ((64 * k : Nat) : Int) / 64 = k := by omega
      have hlt' : ((64 * k : Nat) : Int) < L := by omega
      generalize hI : ((64 * k : Nat) : Int) = I at hi4 hlt' ⊢
      have HI := Lib.hid hI
      have I0 : 0 ≤ I := by omega
      have I1 : I ≤ 65536 := by omega
      clear hI
      go_wp2_with (first
        | (refine wpList_load_row rfl 23 _ rfl w.heap.size rfl 23 A (0, 0) _ hA1 Try.underlying23 rfl sA ?_)
        | (refine wpList_load_row rfl 24 _ rfl (w.heap.size + 1) rfl 24 C (0, 0) _ hC1 Try.underlying24 rfl sC ?_)
        | (go_at_call 10; refine (hbk _).mono ?_; rintro e W4 ⟨rfl, x4⟩)
        | (refine wpList_store_new rfl 27 _ _ rfl W4.heap.size D rfl rfl rfl (by rw [lD]; rfl) sD oD ?_))
      generalize hW5 : World.alloc W4 _ = W5
      have hD5 : W5.heap[W4.heap.size]? = some (.cells D 27 (0, 0)) := by rw [← hW5, heapNew]
      have x5 : Ext NoB wr W5 := by rw [← hW5]; exact x4.andAlloc _
      have z4 := x4.size
      have hb2 : Bx w W5 24 K N 5 (.slice Av (64 * k) m) (64 * k + 0) (bys (strm K N c k) ++ D.toList.take 0) := by
        refine hb1.step (Ext.refl _ _) (x5.mono fun _ _ h => h.elim) (fun g h => .inl h) ?_
        have := hq.ext x5 (fun _ _ h => h)
        simpa using this
      have hbk9 : ∀ k', (Value.slice Av (64 * k) m).ownBlock = some k' → k' ≠ W4.heap.size := fun k' hk' => by have := hq.lt k' hk'; omega
      clear hW5 x4 x5 hb1 hA1 hC1 hq hbk hblk
      generalize hb9 : W4.heap.size = b9 at hD5 hbk9 z4 ⊢
      clear hb9
      have zb := blk_lt' hD5
      go_wp2_with fail
      go_loopw [13, 10] (fun j v W => ∃ (n : Nat), n ≤ 64 ∧ j = .int .i64 n ∧ Bx w W 24 K N 5 v (64 * k + n) (bys (strm K N c k) ++ D.toList.take n) ∧ (∀ k', v.ownBlock = some k' → k' ≠ b9) ∧ W.heap[b9]? = some (.cells D 27 (0, 0))) (fun j _ _ => 64 - (intOf j).toNat)
      case atStart => exact ⟨0, by omega, rfl, hb2, hbk9, hD5⟩
      case round =>
        clear hb2 hbk9 hD5 hm1 hm2
        obtain ⟨n, hn, rfl, hb1, hn9, hD⟩ := hrel
        have hq := hb1.row
        obtain ⟨Av, m, rfl, hm1, hm2, hm3⟩ := hq.slice
        rcases Nat.lt_or_ge n 64 with hln | hgn
        · have cD := cellOf hD n
          rw [D_at D _ HD.out (blk_length _ _ _) hln] at cD
          have htk := D_take D _ HD.out (blk_length _ _ _) hln
          generalize (blk K N (c + ↑k)).getD n 0 = x at cD htk
          have HT := Lib.hid htk
          have hsz := blk_lt' hD
          clear htk hm3
          go_wp2_with (at_builtin; refine wpList_append_q rfl _ _ 32 rfl 5 1 1 (.int .u8 0) Try.underlying32 Try.info5 rfl (by decide) (.slice Av (64 * k + n) m) (64 * k + n) (bys (strm K N c k) ++ D.toList.take n) rfl ?hq ⟨wr.heap.size, 0, none⟩ 1 1 [.int .u8 x] rfl rfl (new_one _ _ _) (one_of rfl) (by decide) (by unfold maxLen; omega) (by omega) ?hK)
          case hq => exact hq.ext (Ext.alloc NoB wr _) (fun _ _ h => h)
          case hK =>
            intro g off cap W6 hq6 hx6 hg6
            rw [HT.out] at hq6
            have hb3 : Bx w W6 24 K N 5 (.slice (some ⟨g, off, none⟩) (64 * k + (n + 1)) cap) (64 * k + (n + 1)) (bys (strm K N c k) ++ D.toList.take (n + 1)) := by
              refine hb1.step (Ext.alloc NoB wr (.cells #[.int .u8 x] 5)) hx6 (fun g' hg' => ?_) hq6
              have : g = g' := by simpa [Value.ownBlock] using hg'
              subst this
              exact hg6.imp id (fun h => by simp; omega)
            have hn9' : ∀ k', (Value.slice (some ⟨g, off, none⟩) (64 * k + (n + 1)) cap).ownBlock = some k' → k' ≠ b9 := fun k' hk' => by
              have : g = k' := by simpa [Value.ownBlock] using hk'
              subst this
              rcases hg6 with h | h
              · exact hn9 _ h
              · omega
            have hD6 := hx6.obj ((Ext.alloc NoB wr (.cells #[.int .u8 x] 5)).obj hD (fun h => h)) (fun h => hn9 _ h rfl)
            clear hq6 hx6 hg6 hb1 hn9 hD hq cD hm1 hm2
            go_wp2_with fail
            exact ⟨⟨n + 1, by omega, by go_num, hb3, hn9', hD6⟩, by simp [intOf]; omega⟩
        · have hn64 : n = 64 := by omega
          have hb3 : Bx w wr 24 K N 5 (.slice Av (64 * k + n) m) (64 * (k + 1)) (bys (strm K N c (k + 1))) := by
            rw [HS.out]
            have := hb1
            rw [hn64, List.take_of_length_le (by simp [lD])] at this
            rw [hn64]
            exact this
          clear hm3 hn64
          go_wp2_with fail
          exact ⟨⟨k + 1, by omega, by rw [← HI.out]; congr 1, hb3⟩, by simp [intOf]; omega⟩
    · have hkk : k = (L + 63) / 64 := by omega
      have hLm : L ≤ m := by omega
      have hge' : ¬ ((64 * k : Nat) : Int) < L := by omega
      rcases Av with _ | ⟨g, o, so⟩
      · obtain ⟨h1, h2⟩ := hm3 rfl
        have hL0 : L = 0 := by omega
        subst hL0
        subst h2
        have hq2 : QRow wr 5 1 (.slice none 0 0) 0 (bys ((strm K N c ((0 + 63) / 64)).take 0)) := by simpa [bys] using QRow.nil wr 5 1
        rw [h1] at hq hge' ⊢
        clear hm3 hkk hm1
        go_wp2_with fail
        go_ret2
        exact ⟨none, 0, rfl, hq2, hb1.ext, fun k hk => by simp [Value.ownBlock] at hk⟩
      · obtain rfl : so = none := by
          rcases hq.2 with ⟨h, _⟩ | ⟨g', o', c', cur, hv, _⟩
          · cases h
          · injection hv with hv1
            injection hv1 with hv1
            injection hv1
        have hq2 := hq.cut (m := L) (m' := m) hge hLm (Nat.le_refl _)
        have e2 : (bys (strm K N c k)).take L = bys ((strm K N c ((L + 63) / 64)).take L) := by rw [← hkk]; simp [bys]
        rw [e2] at hq2
        clear hm3 hkk e2
        go_wp2_with fail
        go_ret2
        exact ⟨some ⟨g, o, none⟩, m, rfl, hq2, hb1.ext, fun k hk => by have := hb1.own k hk; omega⟩
end Go.Proofs.Ytcijbeagegonkaa
