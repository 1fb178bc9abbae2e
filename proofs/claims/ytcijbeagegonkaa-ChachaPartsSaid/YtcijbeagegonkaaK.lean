/-
  Bytes turned by the stream, in the program and in the document's answer: no error.
-/
import Derived.Test.YtcijbeagegonkaaJ
set_option linter.unusedVariables false
namespace Go.Proofs.Ytcijbeagegonkaa
open Go.RowKit

def part (S T : List Int) (n : Nat) : List Int := (xorB S T).take n ++ S.drop n
theorem part_zero (S T : List Int) : part S T 0 = S := by simp [part]
theorem part_all (S T : List Int) (h : S.length = T.length) : part S T T.length = xorB S T := by
  unfold part
  rw [List.take_of_length_le (by rw [xorB_length _ _ h]; omega), List.drop_of_length_le (by omega), List.append_nil]
theorem part_length (S T : List Int) (h : S.length = T.length) (n : Nat) : (part S T n).length = T.length := by
  simp only [part, List.length_append, List.length_take, List.length_drop, xorB_length _ _ h]; omega
theorem part_at (S T : List Int) (h : S.length = T.length) {n : Nat} (hn : n < T.length) : (part S T n).getD n 0 = S.getD n 0 := by
  unfold part
  rw [List.getD_eq_getElem?_getD, List.getElem?_append_right (by simp [xorB_length _ _ h]; omega), List.getElem?_drop, List.getD_eq_getElem?_getD]
  congr 2
  simp [xorB_length _ _ h]; omega
theorem part_next (S T : List Int) (h : S.length = T.length) {n : Nat} (hn : n < T.length) : (part S T n).set n (xb (S.getD n 0) (T.getD n 0)) = part S T (n + 1) := by
  apply List.ext_getElem?
  intro j
  have hl := xorB_length _ _ h
  have ht : ((xorB S T).take n).length = n := by rw [List.length_take, hl]; omega
  have ht1 : ((xorB S T).take (n + 1)).length = n + 1 := by rw [List.length_take, hl]; omega
  rw [List.getElem?_set]
  by_cases hj : n = j
  · subst hj
    rw [if_pos rfl, if_pos (by rw [part_length _ _ h]; omega)]
    unfold part
    rw [List.getElem?_append_left (by omega), List.getElem?_take, if_pos (by omega), ← xorB_at S T h hn]
    rw [List.getD_eq_getElem?_getD, List.getElem?_eq_getElem (by omega)]
    rfl
  · rw [if_neg hj]
    unfold part
    rcases Nat.lt_or_ge j n with hlt | hge
    · rw [List.getElem?_append_left (by omega), List.getElem?_append_left (by omega), List.getElem?_take, List.getElem?_take, if_pos (by omega), if_pos (by omega)]
    · rw [List.getElem?_append_right (by omega), List.getElem?_append_right (by omega), ht, ht1, List.getElem?_drop, List.getElem?_drop]
      congr 1
      omega

set_option maxHeartbeats 1600000 in
theorem xor_ok (K N : List Int) (c : Int) (bs S : List Int) (hK : K.length = 32) (hN : N.length = 12) (bB : Bs bs) (bS : Bs S) (hl : S.length = bs.length) (hT : bs.length ≤ 65536) (v : Value)
    (hS : ∀ W, Calls Try.prog 11 #[Arr K, Arr N, .int .u32 c, .int .i64 bs.length] W fun e w' => ∃ A m, e = .returned (.tuple #[.slice A bs.length m, .int .i64 0]) ∧ QRow w' 5 1 (.slice A bs.length m) bs.length (bys S) ∧ Ext NoB W w' ∧ ∀ k, (Value.slice A bs.length m).ownBlock = some k → W.heap.size ≤ k)
    (w : World) (hb : Bytes w v bs) :
    Calls Try.prog 13 #[Arr K, Arr N, .int .u32 c, v] w (XorEnd S bs w) := by
  obtain ⟨A0, cb, rfl, _⟩ := hb.shape
  obtain ⟨A, hA⟩ : ∃ A, A = (bys K).toArray := ⟨_, rfl⟩
  obtain ⟨C, hC⟩ : ∃ C, C = (bys N).toArray := ⟨_, rfl⟩
  have sA : (Try.prog.info? 23).map (·.size) = some A.size := by rw [hA, List.size_toArray, bys_length, hK]; exact Try.size23
  have sC : (Try.prog.info? 38).map (·.size) = some C.size := by rw [hC, List.size_toArray, bys_length, hN]; exact Try.size38
  unfold Arr at hS ⊢
  rw [← hA, ← hC] at hS ⊢
  clear hA hC
  have HS := Lib.hid hS
  have HL := Lib.hid hl
  clear hS hl
  go_enter Try.func13, Try.ntmps13
  go_upto_region 1 with (fail)
  generalize hW1 : World.alloc (World.alloc w _) _ = W1
  have hA1 : W1.heap[w.heap.size]? = some (.cells A 23 (0, 0)) := by rw [← hW1, heapAlloc _ _ _ (by simp), heapNew]
  have hC1 : W1.heap[w.heap.size + 1]? = some (.cells C 38 (0, 0)) := by rw [← hW1, heapNew' _ _ _ (by simp)]
  have x1 : Ext NoB w W1 := by rw [← hW1]; exact (Ext.alloc NoB w _).andAlloc _
  clear hW1
  go_wp2_with (first
    | (refine wpList_load_row rfl 23 _ rfl w.heap.size rfl 23 A (0, 0) _ hA1 Try.underlying23 rfl sA ?_)
    | (refine wpList_load_row rfl 38 _ rfl (w.heap.size + 1) rfl 38 C (0, 0) _ hC1 Try.underlying38 rfl sC ?_)
    | (go_at_call 11; refine (HS.out _).mono ?_; rintro e W2 ⟨As, m, rfl, hq2, x2, own2⟩))
  have x3 := x1.then x2
  have o3 : ∀ k, (Value.slice As bs.length m).ownBlock = some k → w.heap.size ≤ k := fun k hk => by have := own2 k hk; have := x1.size; omega
  clear x1 x2 own2 hA1 hC1
  go_loopw [27] (fun i W => ∃ (n : Nat), n ≤ bs.length ∧ i = .int .i64 n ∧ QRow W 5 1 (.slice As bs.length m) bs.length (bys (part S bs n)) ∧ Ext NoB w W) (fun i _ => bs.length - (intOf i).toNat)
  case atStart => exact ⟨0, by omega, rfl, by rw [part_zero]; exact hq2, x3⟩
  case round =>
    clear hq2 x3
    obtain ⟨n, hn, rfl, hq, hx⟩ := hrel
    rcases Nat.lt_or_ge n bs.length with hlt | hge
    · obtain ⟨gb, ob, cb', hvb, lb, hcb⟩ := hb.plain (by omega)
      injection hvb with e1 _ e2
      subst e1; subst e2
      obtain ⟨ga, oa, m', hva, hm1, hm2, hca, hfa⟩ := hq.form (by omega)
      injection hva with e1 _ e2
      subst e1; subst e2
      have k0 := hca n (by omega)
      rw [bys_at (by rw [part_length _ _ HL.out]; omega), part_at _ _ HL.out hlt] at k0
      have k1 := hx.cell (hcb n (by omega)) (fun h => h)
      have f0 := hfa (oa + n)
      obtain ⟨x0, x1⟩ := bS.at (i := n) (by rw [HL.out]; omega)
      obtain ⟨y0, y1⟩ := bB.at (i := n) (by omega)
      have hs := part_next S bs HL.out hlt
      have hset := fun x => hq.setAt hlt (.int .u8 x)
      generalize S.getD n 0 = X at k0 x0 x1 hs
      generalize bs.getD n 0 = Y at k1 y0 y1 hs
      have HN := Lib.hid hs
      have HQ := Lib.hid hset
      have hlT : (n : Int) < (bs.length : Int) := by omega
      have hne : ga ≠ gb := by have := o3 ga rfl; omega
      have hga : w.heap.size ≤ ga := o3 ga rfl
      clear hs hset hq hcb hca hfa hb
      go_wp2_with fail
      go_region
      have hq' := HQ.out (xb X Y)
      rw [show (bys (part S bs n)).set n (.int .u8 (xb X Y)) = bys (part S bs (n + 1)) by rw [← HN.out]; simp [bys, List.map_set]] at hq'
      have hq6 : QRow (wr.setCell ⟨ga, oa + n, none⟩ (.int .u8 (xb X Y))).drew 5 1 (.slice (some ⟨ga, oa, none⟩) bs.length m) bs.length (bys (part S bs (n + 1))) := hq'.ext (Ext.drew NoB _) (fun _ _ h => h)
      have hx6 : Ext NoB w (wr.setCell ⟨ga, oa + n, none⟩ (.int .u8 (xb X Y))).drew := (hx.andSet _ _ (fun h => absurd h (by show ¬ ga < _; omega))).andDrew
      clear hq' HQ hx k0 k1
      go_wp2_with fail
      exact ⟨⟨n + 1, by omega, by go_num, hq6, hx6⟩, by simp [intOf]; omega⟩
    · have hnn : n = bs.length := by omega
      subst hnn
      rw [part_all _ _ HL.out] at hq
      go_wp2_with fail
      go_ret2
      exact ⟨_, rfl, hq, hx, o3⟩

set_option maxHeartbeats 800000 in
theorem rxor_ok (K N : List Int) (c : Int) (bs S : List Int) (hK : K.length = 32) (hN : N.length = 12) (bB : Bs bs) (bS : Bs S) (hl : S.length = bs.length) (hT : bs.length ≤ 65536) (v : Value)
    (hS : ∀ W, Calls Try.prog 12 #[Arr K, Arr N, .int .u32 c, .int .i64 bs.length] W fun e w' => ∃ A m, e = .returned (.tuple #[.slice A bs.length m, .int .i64 0]) ∧ QRow w' 5 1 (.slice A bs.length m) bs.length (bys S) ∧ Ext NoB W w' ∧ ∀ k, (Value.slice A bs.length m).ownBlock = some k → W.heap.size ≤ k)
    (w : World) (hb : Bytes w v bs) :
    Calls Try.prog 14 #[Arr K, Arr N, .int .u32 c, v] w (XorEnd S bs w) := by
  obtain ⟨A0, cb, rfl, _⟩ := hb.shape
  obtain ⟨A, hA⟩ : ∃ A, A = (bys K).toArray := ⟨_, rfl⟩
  obtain ⟨C, hC⟩ : ∃ C, C = (bys N).toArray := ⟨_, rfl⟩
  have sA : (Try.prog.info? 23).map (·.size) = some A.size := by rw [hA, List.size_toArray, bys_length, hK]; exact Try.size23
  have sC : (Try.prog.info? 24).map (·.size) = some C.size := by rw [hC, List.size_toArray, bys_length, hN]; exact Try.size24
  unfold Arr at hS ⊢
  rw [← hA, ← hC] at hS ⊢
  clear hA hC
  have HS := Lib.hid hS
  have HL := Lib.hid hl
  clear hS hl
  go_enter Try.func14, Try.ntmps14
  go_upto_region 1 with (fail)
  generalize hW1 : World.alloc (World.alloc w _) _ = W1
  have hA1 : W1.heap[w.heap.size]? = some (.cells A 23 (0, 0)) := by rw [← hW1, heapAlloc _ _ _ (by simp), heapNew]
  have hC1 : W1.heap[w.heap.size + 1]? = some (.cells C 24 (0, 0)) := by rw [← hW1, heapNew' _ _ _ (by simp)]
  have x1 : Ext NoB w W1 := by rw [← hW1]; exact (Ext.alloc NoB w _).andAlloc _
  clear hW1
  go_wp2_with (first
    | (refine wpList_load_row rfl 23 _ rfl w.heap.size rfl 23 A (0, 0) _ hA1 Try.underlying23 rfl sA ?_)
    | (refine wpList_load_row rfl 24 _ rfl (w.heap.size + 1) rfl 24 C (0, 0) _ hC1 Try.underlying24 rfl sC ?_)
    | (go_at_call 12; refine (HS.out _).mono ?_; rintro e W2 ⟨As, m, rfl, hq2, x2, own2⟩)
    | (go_at_call 19; refine (mixed19 _ _ S bs HL.out hT bS bB _ (Bytes.ofRow hq2) (hb.ext (x1.then x2) (fun _ _ _ h => h))).mono ?_; rintro e W3 ⟨v3, rfl, hq3, x3, own3⟩))
  go_ret2
  exact ⟨_, rfl, hq3, (x1.then x2).then x3, fun k hk => by have := own3 k hk; have := (x1.then x2).size; omega⟩
end Go.Proofs.Ytcijbeagegonkaa
