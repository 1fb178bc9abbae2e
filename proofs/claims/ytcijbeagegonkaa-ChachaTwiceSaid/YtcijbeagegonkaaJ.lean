/-
  Bytes turned by the stream, in the program and in the document's answer.
-/
import Derived.Test.YtcijbeagegonkaaI
set_option linter.unusedVariables false
namespace Go.Proofs.Ytcijbeagegonkaa
open Go.RowKit

def xb (a b : Int) : Int := bits .xor .u8 a b
def xorB (s b : List Int) : List Int := List.zipWith xb s b
theorem xorB_length (s b : List Int) (h : s.length = b.length) : (xorB s b).length = b.length := by simp [xorB, h]
theorem xorB_at (s b : List Int) (h : s.length = b.length) {i : Nat} (hi : i < b.length) : (xorB s b).getD i 0 = xb (s.getD i 0) (b.getD i 0) := by
  simp [xorB, List.getD_eq_getElem?_getD, List.getElem?_zipWith, List.getElem?_eq_getElem hi, List.getElem?_eq_getElem (show i < s.length by omega)]

theorem Bytes.plain {w : World} {v : Value} {xs : List Int} (h : Bytes w v xs) (hx : 0 < xs.length) : ∃ g o c, v = .slice (some ⟨g, o, none⟩) xs.length c ∧ g < w.heap.size ∧ ∀ j, j < xs.length → w.cell? ⟨g, o + j, none⟩ = some (.int .u8 (xs.getD j 0)) := by
  rcases h with ⟨rfl, rfl⟩ | ⟨a, c, rfl, h1, h2, h3⟩
  · simp at hx
  · obtain ⟨g, o, rfl⟩ := addr_plain (h3 0 hx)
    have h3' : ∀ j, j < xs.length → w.cell? ⟨g, o + j, none⟩ = some (.int .u8 (xs.getD j 0)) := fun j hj => by rw [← h3 j hj, add_none]
    exact ⟨g, o, c, rfl, World.block_lt_of_cell? _ _ (h3' 0 hx), h3'⟩
def XorEnd (s bs : List Int) (w : World) (e : Ending) (w' : World) : Prop :=
  ∃ v, e = .returned (.tuple #[v, .int .i64 0]) ∧ QRow w' 5 1 v bs.length (bys (xorB s bs)) ∧ Ext NoB w w' ∧ ∀ k, v.ownBlock = some k → w.heap.size ≤ k

theorem xor_err (K N : List Int) (c : Int) (bs : List Int) (hK : K.length = 32) (hN : N.length = 12) (A0 : Option Addr) (c0 : Nat)
    (hS : ∀ W, Calls Try.prog 11 #[Arr K, Arr N, .int .u32 c, .int .i64 bs.length] W fun e w' => e = .returned (.tuple #[.slice none 0 0, .int .i64 3]) ∧ Ext NoB W w') (w : World) :
    Calls Try.prog 13 #[Arr K, Arr N, .int .u32 c, .slice A0 bs.length c0] w fun e w' => e = .returned (.tuple #[.slice none 0 0, .int .i64 3]) ∧ Ext NoB w w' := by
  obtain ⟨A, hA⟩ : ∃ A, A = (bys K).toArray := ⟨_, rfl⟩
  obtain ⟨C, hC⟩ : ∃ C, C = (bys N).toArray := ⟨_, rfl⟩
  have sA : (Try.prog.info? 23).map (·.size) = some A.size := by rw [hA, List.size_toArray, bys_length, hK]; exact Try.size23
  have sC : (Try.prog.info? 38).map (·.size) = some C.size := by rw [hC, List.size_toArray, bys_length, hN]; exact Try.size38
  unfold Arr at hS ⊢
  rw [← hA, ← hC] at hS ⊢
  clear hA hC
  go_enter Try.func13, Try.ntmps13
  go_upto_region 1 with (fail)
  generalize hW1 : World.alloc (World.alloc w _) _ = W1
  have hA1 : W1.heap[w.heap.size]? = some (.cells A 23 (0, 0)) := by rw [← hW1, heapAlloc _ _ _ (by simp), heapNew]
  have hC1 : W1.heap[w.heap.size + 1]? = some (.cells C 38 (0, 0)) := by rw [← hW1, heapNew' _ _ _ (by simp)]
  have x1 : Ext NoB w W1 := by rw [← hW1]; exact (Ext.alloc NoB w _).andAlloc _
  clear hW1
  go_wp2_with (first
    | (refine wpList_load_row rfl 23 _ rfl w.heap.size rfl 23 A (0, 0) _ hA1 Try.underlying23 rfl sA ?_)
    | (refine wpList_load_row rfl 38 _ rfl (w.heap.size + 1) rfl 38 C (0, 0) _ hC1 Try.underlying38 rfl sC ?_)
    | (go_at_call 11; refine (hS _).mono ?_; rintro e W2 ⟨rfl, x2⟩))
  go_ret2
  exact ⟨rfl, x1.then x2⟩
theorem rxor_err (K N : List Int) (c : Int) (bs : List Int) (hK : K.length = 32) (hN : N.length = 12) (A0 : Option Addr) (c0 : Nat)
    (hS : ∀ W, Calls Try.prog 12 #[Arr K, Arr N, .int .u32 c, .int .i64 bs.length] W fun e w' => e = .returned (.tuple #[.slice none 0 0, .int .i64 3]) ∧ Ext NoB W w') (w : World) :
    Calls Try.prog 14 #[Arr K, Arr N, .int .u32 c, .slice A0 bs.length c0] w fun e w' => e = .returned (.tuple #[.slice none 0 0, .int .i64 3]) ∧ Ext NoB w w' := by
  obtain ⟨A, hA⟩ : ∃ A, A = (bys K).toArray := ⟨_, rfl⟩
  obtain ⟨C, hC⟩ : ∃ C, C = (bys N).toArray := ⟨_, rfl⟩
  have sA : (Try.prog.info? 23).map (·.size) = some A.size := by rw [hA, List.size_toArray, bys_length, hK]; exact Try.size23
  have sC : (Try.prog.info? 24).map (·.size) = some C.size := by rw [hC, List.size_toArray, bys_length, hN]; exact Try.size24
  unfold Arr at hS ⊢
  rw [← hA, ← hC] at hS ⊢
  clear hA hC
  go_enter Try.func14, Try.ntmps14
  go_upto_region 1 with (fail)
  generalize hW1 : World.alloc (World.alloc w _) _ = W1
  have hA1 : W1.heap[w.heap.size]? = some (.cells A 23 (0, 0)) := by rw [← hW1, heapAlloc _ _ _ (by simp), heapNew]
  have hC1 : W1.heap[w.heap.size + 1]? = some (.cells C 24 (0, 0)) := by rw [← hW1, heapNew' _ _ _ (by simp)]
  have x1 : Ext NoB w W1 := by rw [← hW1]; exact (Ext.alloc NoB w _).andAlloc _
  clear hW1
  go_wp2_with (first
    | (refine wpList_load_row rfl 23 _ rfl w.heap.size rfl 23 A (0, 0) _ hA1 Try.underlying23 rfl sA ?_)
    | (refine wpList_load_row rfl 24 _ rfl (w.heap.size + 1) rfl 24 C (0, 0) _ hC1 Try.underlying24 rfl sC ?_)
    | (go_at_call 12; refine (hS _).mono ?_; rintro e W2 ⟨rfl, x2⟩))
  go_ret2
  exact ⟨rfl, x1.then x2⟩

theorem bys_getD (s : List Int) (i : Nat) (h : i < s.length) : bys (s.take (i + 1)) = bys (s.take i) ++ [.int .u8 (s.getD i 0)] := by
  rw [List.take_add_one, List.getElem?_eq_getElem h, List.getD_eq_getElem?_getD, List.getElem?_eq_getElem h]
  simp only [bys, List.map_append, Option.toList_some, List.map_cons, List.map_nil, Option.getD_some]
theorem keep2 {F : Nat → Prop} {W W' : World} (hx : Ext F W W') {a b : Addr} {v0 v1 : Value} (ha : ¬ F a.block) (hb : ¬ F b.block)
    (h : W.cell? a = some v0 ∧ W.cell? b = some v1) : W'.cell? a = some v0 ∧ W'.cell? b = some v1 := ⟨hx.cell h.1 ha, hx.cell h.2 hb⟩
set_option maxHeartbeats 800000 in
theorem mixed19 (va vb : Value) (S T : List Int) (hl : S.length = T.length) (hT : T.length ≤ 65536) (bS : Bs S) (bT : Bs T) (w : World) (ha : Bytes w va S) (hb : Bytes w vb T) :
    Calls Try.prog 19 #[va, vb] w fun e w' => ∃ v, e = .returned v ∧ QRow w' 5 1 v T.length (bys (xorB S T)) ∧ Ext NoB w w' ∧ ∀ k, v.ownBlock = some k → w.heap.size ≤ k := by
  obtain ⟨Aa, ca, rfl, _⟩ := ha.shape
  obtain ⟨Ab, cb, rfl, _⟩ := hb.shape
  go_enter Try.func19, Try.ntmps19
  go_wp2_with fail
  go_loopw [6, 5] (fun i v W => ∃ (n : Nat), n ≤ T.length ∧ i = .int .i64 n ∧ QRow W 5 1 v n (bys ((xorB S T).take n)) ∧ Ext NoB w W ∧ ∀ k, v.ownBlock = some k → w.heap.size ≤ k) (fun i _ _ => T.length - (intOf i).toNat)
  case atStart => exact ⟨0, by omega, rfl, QRow.nil _ _ _, Ext.refl _ _, fun k hk => by simp [Value.ownBlock] at hk⟩
  case round =>
    obtain ⟨n, hn, rfl, hq, hx, hown⟩ := hrel
    obtain ⟨Av, m, rfl, hm1, hm2, hm3⟩ := hq.slice
    rcases Nat.lt_or_ge n T.length with hlt | hge
    · obtain ⟨ga, oa, ca', hva, la, hca⟩ := ha.plain (by omega)
      obtain ⟨gb, ob, cb', hvb, lb, hcb⟩ := hb.plain (by omega)
      injection hva with e1 _ e2
      subst e1; subst e2
      injection hvb with e1 _ e2
      subst e1; subst e2
      have k0 := hx.cell (hca n (by omega)) (fun h => h)
      have k1 := hx.cell (hcb n (by omega)) (fun h => h)
      obtain ⟨x0, x1⟩ := bS.at (i := n) (by omega)
      obtain ⟨y0, y1⟩ := bT.at (i := n) (by omega)
      have hs := bys_getD (xorB S T) n (by rw [xorB_length _ _ hl]; exact hlt)
      rw [xorB_at S T hl hlt] at hs
      generalize S.getD n 0 = X at k0 x0 x1 hs
      generalize T.getD n 0 = Y at k1 y0 y1 hs
      have HS := Lib.hid hs
      have HL := Lib.hid hl
      have n63 : n + 1 ≤ maxLen := by unfold maxLen; omega
      have hlS : (n : Int) < (S.length : Int) := by omega
      have hlT : (n : Int) < (T.length : Int) := by omega
      have hna : ¬ (Value.slice Av n m).ownBlock = some ga := fun h => by have := hown _ h; omega
      have hnb : ¬ (Value.slice Av n m).ownBlock = some gb := fun h => by have := hown _ h; omega
      have hq1 : QRow (wr.alloc (.cells #[.int .u8 (xb X Y)] 5)).drew 5 1 (.slice Av n m) n (bys ((xorB S T).take n)) := hq.ext (Ext.alloc NoB wr _).andDrew (fun _ _ h => h)
      have hn1 : ∀ j u, [Value.int .u8 (xb X Y)][j]? = some u → (wr.alloc (.cells #[.int .u8 (xb X Y)] 5)).drew.cell? ((⟨wr.heap.size, 0, none⟩ : Addr).add j) = some u := new_one wr _ 5
      clear hs ha hb hca hcb hm3 hl
      go_wp2_with fail
      go_region_held3 (fun W => W.cell? ⟨ga, oa + n, none⟩ = some (.int .u8 X) ∧ W.cell? ⟨gb, ob + n, none⟩ = some (.int .u8 Y)) (first | (exact keep2 (Ext.alloc NoB _ _) (fun h => h) (fun h => h) (by assumption)) | (exact keep2 hx4 hna hnb (by assumption)) | go_keep) ((refine step_append_q (by rfl) _ _ 32 (by rfl) 5 1 1 (.int .u8 0) Try.underlying32 Try.info5 rfl (by decide) (.slice Av n m) n (bys ((xorB S T).take n)) (by rfl) hq1 ⟨wr.heap.size, 0, none⟩ 1 1 [.int .u8 (xb X Y)] (by rfl) rfl hn1 (one_of rfl) (by decide) n63 (by omega) ?_; intro g off cap W4 hq4 hx4 hg4))
      have hx5 : Ext NoB w W4 := ((hx.andAlloc (.cells #[.int .u8 (xb X Y)] 5)).andDrew).trans hx4 (fun _ _ h => h) (fun k hk h => by have := hown _ h; omega)
      have hown' : ∀ k, (Value.slice (some ⟨g, off, none⟩) (n + 1) cap).ownBlock = some k → w.heap.size ≤ k := fun k hk => by
        have : g = k := by simpa [Value.ownBlock] using hk
        subst this
        have := hx.size
        rcases hg4 with h | h
        · exact hown _ h
        · simp at h; omega
      rw [← HS.out] at hq4
      clear hq hx hx4 hg4 hown hq1 hn1 hna hnb
      go_wp2_with fail
      exact ⟨⟨n + 1, by omega, by go_num, hq4, hx5, hown'⟩, by simp [intOf]; omega⟩
    · have hnn : n = T.length := by omega
      subst hnn
      have e : (xorB S T).take T.length = xorB S T := List.take_of_length_le (by rw [xorB_length _ _ hl]; omega)
      rw [e] at hq
      clear e hm3 hl
      go_wp2_with fail
      go_ret
      exact ⟨_, rfl, hq, hx, hown⟩
end Go.Proofs.Ytcijbeagegonkaa
