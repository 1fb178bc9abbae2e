/-
  ChachaParts returns true: the walk.
-/
import Derived.Test.YtcijbeagegonkaaS
set_option linter.unusedVariables false
set_option linter.unusedSimpArgs false
namespace Go.Proofs.Ytcijbeagegonkaa
open Go.RowKit

theorem strm_add (K N : List Int) (c : Int) (s : Nat) : ∀ m, strm K N c (s + m) = strm K N c s ++ strm K N (c + s) m
  | 0 => by simp [strm]
  | m + 1 => by
    rw [show s + (m + 1) = (s + m) + 1 by omega, strm, strm_add K N c s m, strm, List.append_assoc]
    congr 3
    omega
theorem strB_drop (K N : List Int) (c : Int) (s z : Nat) : (strB K N c (64 * s + z)).drop (64 * s) = strB K N (c + s) z := by
  unfold strB
  rw [show (64 * s + z + 63) / 64 = s + (z + 63) / 64 by omega, strm_add, List.drop_take, List.drop_append_of_le_length (by rw [strm_length]; omega), List.drop_of_length_le (by rw [strm_length]; omega)]
  simp
theorem strB_take (K N : List Int) (c : Int) (n : Nat) (hn : 64 ≤ n) (hc : U c) : (strB K N c n).take 64 = blk K N c := by
  unfold strB
  rw [List.take_take, show (n + 63) / 64 = 1 + ((n + 63) / 64 - 1) by omega, strm_add, Nat.min_eq_left hn, List.take_append_of_le_length (by rw [strm_length]; omega), List.take_of_length_le (by rw [strm_length]; omega)]
  simp only [strm, List.nil_append]
  congr 1
  obtain ⟨h0, h1⟩ := hc
  omega
theorem add_add' (a : Addr) (k j : Nat) : (a.add k).add j = a.add (k + j) := by
  obtain ⟨g, o, s⟩ := a
  unfold Addr.add
  split <;> split <;> simp_all [Nat.add_assoc]
theorem Try.elem32 : Try.prog.elem 32 = 5 := by kernel_rfl
theorem Bytes.from {w : World} {A : Option Addr} {c : Nat} {xs : List Int} (h : Bytes w (.slice A xs.length c) xs) (k : Nat) (hk : k ≤ xs.length) :
    ∃ A' c', (∀ W, (Instr.slice 32 (.slice A xs.length c) (some (.int .i64 (k : Int))) none none).run Try.prog W = .ok (.slice A' (xs.length - k) c') W) ∧ Bytes w (.slice A' (xs.length - k) c') (xs.drop k) := by
  obtain ⟨i0, hi0, hz0, hz1, hz2⟩ := info_parts Try.info5
  refine ⟨if c = k then A else A.map (·.add (k * 1)), c - k, fun W => ?_, ?_⟩
  · rw [run_slice_l (P := Try.prog) W 32 A xs.length c (by rw [Try.elem32]; exact Try.underlying32) .i64 k (by omega) (by omega)]
    simp [Try.elem32, sizeOf, typeInfo, hi0, hz1, sliced]
  · rw [Nat.mul_one]
    rcases h with ⟨h1, h2⟩ | ⟨a, c', h1, h2, h3, h4⟩
    · injection h1 with h1 h5 h6
      subst h1; subst h6; subst h2
      refine .inl ⟨?_, by simp⟩
      simp
    · injection h1 with h1 _ h6
      subst h1; subst h6
      by_cases hck : c = k
      · rw [if_pos hck]
        have : xs.length = k := by omega
        refine .inr ⟨a, c - k, by simp [this], by simp; omega, by omega, fun j hj => by simp at hj; omega⟩
      · rw [if_neg hck]
        refine .inr ⟨a.add k, c - k, by simp, by simp; omega, by omega, fun j hj => ?_⟩
        simp at hj
        rw [add_add', h4 _ (by omega)]
        simp [List.getD_eq_getElem?_getD]
theorem Bytes.upto {w : World} {A : Option Addr} {c : Nat} {xs : List Int} (h : Bytes w (.slice A xs.length c) xs) (k : Nat) (hk : k ≤ xs.length) (hx : A ≠ none) :
    ∃ A' c', (∀ W, (Instr.slice 32 (.slice A xs.length c) none (some (.int .i64 (k : Int))) none).run Try.prog W = .ok (.slice A' k c') W) ∧ Bytes w (.slice A' k c') (xs.take k) := by
  obtain ⟨i0, hi0, hz0, hz1, hz2⟩ := info_parts Try.info5
  rcases h with ⟨h1, h2⟩ | ⟨a, c', h1, h2, h3, h4⟩
  · injection h1 with h1
    exact absurd h1 hx
  · injection h1 with h1 _ h6
    subst h1; subst h6
    refine ⟨if c = 0 then some a else (some a).map (·.add (0 * 1)), c, fun W => ?_, ?_⟩
    · rw [run_slice_h (P := Try.prog) W 32 (some a) xs.length c (by rw [Try.elem32]; exact Try.underlying32) .i64 k (by omega) (by omega)]
      simp [Try.elem32, sizeOf, typeInfo, hi0, hz1, sliced]
    · have hl : (xs.take k).length = k := by simp; omega
      by_cases hc0 : c = 0
      · rw [if_pos hc0]
        refine .inr ⟨a, c, by rw [hl], by omega, h3, fun j hj => by omega⟩
      · rw [if_neg hc0]
        refine .inr ⟨a.add 0, c, by rw [hl]; simp, by omega, h3, fun j hj => ?_⟩
        rw [hl] at hj
        rw [add_add', Nat.zero_add, h4 _ (by omega)]
        simp [List.getD_eq_getElem?_getD, hj]
/-- The boxes of a key and a nonce in a world. -/
structure Kn (w W : World) (A C : Array Value) (t : TypeId) : Prop where
  key : W.heap[w.heap.size]? = some (.cells A 23 (0, 0))
  non : W.heap[w.heap.size + 1]? = some (.cells C t (0, 0))
  ext : Ext NoB w W
theorem Kn.next {w W W' : World} {A C : Array Value} {t : TypeId} (h : Kn w W A C t) (hx : Ext NoB W W') : Kn w W' A C t := ⟨hx.obj h.key id, hx.obj h.non id, h.ext.then hx⟩

set_option maxHeartbeats 1600000 in
theorem parts_walk (K N : List Int) (a0 a1 : Int) (hK : K.length = 32) (hN : N.length = 12) (bK : Bs K) (bN : Bs N) (h0 : B a0) (h1 : B a1) (w : World) :
    Calls Try.prog 4 #[Arr K, Arr N, .agg #[.int .u8 a0, .int .u8 a1]] w fun e w' => e = .returned (.bool true) ∧ Ext NoB w w' := by
  obtain ⟨b0, b1⟩ := h0
  obtain ⟨b2, b3⟩ := h1
  obtain ⟨s, hs⟩ : ∃ s : Nat, a0 % 8 = s := ⟨(a0 % 8).toNat, by omega⟩
  obtain ⟨z, hz⟩ : ∃ z : Nat, a1 = z := ⟨a1.toNat, by omega⟩
  subst hz
  have hs8 : s < 8 := by omega
  have hx1 := stream_fine K N 5 (64 * s + z) hK hN bK bN (by constructor <;> decide) (by omega) (by omega)
  have hx2 := stream_fine K N (5 + s) z hK hN bK bN (by constructor <;> omega) (by omega) (by omega)
  have hx3 := block9 K N 5 hK hN bK bN (by constructor <;> decide)
  obtain ⟨A, hA⟩ : ∃ A, A = (bys K).toArray := ⟨_, rfl⟩
  obtain ⟨C, hC⟩ : ∃ C, C = (bys N).toArray := ⟨_, rfl⟩
  have sA : (Try.prog.info? 23).map (·.size) = some A.size := by rw [hA, List.size_toArray, bys_length, hK]; exact Try.size23
  have sC : (Try.prog.info? 24).map (·.size) = some C.size := by rw [hC, List.size_toArray, bys_length, hN]; exact Try.size24
  unfold Arr at hx1 hx2 hx3 ⊢
  rw [← hA, ← hC] at hx1 hx2 hx3 ⊢
  have H1 := Lib.hid hx1
  have H2 := Lib.hid hx2
  have H3 := Lib.hid hx3
  have HS := Lib.hid hs
  clear hA hC hx1 hx2 hx3
  go_enter Try.func4, Try.ntmps4
  go_upto_region 1 with (fail)
  generalize hW1 : World.alloc (World.alloc (World.alloc w _) _) _ = W1
  have hk : Kn w W1 A C 24 := ⟨by rw [← hW1, heapAlloc _ _ _ (by simp; omega), heapAlloc _ _ _ (by simp), heapNew], by rw [← hW1, heapAlloc _ _ _ (by simp), heapNew' _ _ _ (by simp)], by rw [← hW1]; exact ((Ext.alloc NoB w _).andAlloc _).andAlloc _⟩
  have ht : W1.heap[w.heap.size + 1 + 1]? = some (.cells #[.int .u8 a0, .int .u8 z] 31 (0, 0)) := by rw [← hW1, heapNew' _ _ _ (by simp)]
  clear hW1
  go_upto_region 3 with (first | (go_at_call 8; refine (alive_any _).mono ?_; rintro e W2 ⟨rfl, x2⟩))
  replace hk := hk.next x2
  have ht2 := x2.obj ht id
  have c0 := cellOf ht2 0
  have c1 := cellOf ht2 1
  clear ht ht2 x2
  clear HS
  go_quiet (fail)
  clear hs c0 c1
  replace hk := hk.next (Ext.drewN NoB W2 nq)
  generalize W2.drewN nq = W3 at hk ⊢
  have e1 : ((64 * s + z : Nat) : Int) = 64 * (s : Int) + z := by omega
  have E1 := Lib.hid e1
  clear e1
  rw [E1.out] at H1
  go_upto_region 5 with (first
    | ((with_reducible show wpList _ _ _ (⟨_, .load 23 _, _, _, _, _⟩ :: _) _ _); refine wpList_load_row rfl 23 _ rfl w.heap.size rfl 23 A (0, 0) _ hk.key Try.underlying23 rfl sA ?_)
    | ((with_reducible show wpList _ _ _ (⟨_, .load 24 _, _, _, _, _⟩ :: _) _ _); refine wpList_load_row rfl 24 _ rfl (w.heap.size + 1) rfl 24 C (0, 0) _ hk.non Try.underlying24 rfl sC ?_)
    | (go_at_call 11; refine (H1.out _).mono ?_; rintro e W4 ⟨A4, m4, rfl, b4, x4, _⟩))
  replace hk := hk.next x4
  go_upto_region 6 with (first
    | ((with_reducible show wpList _ _ _ (⟨_, .load 23 _, _, _, _, _⟩ :: _) _ _); refine wpList_load_row rfl 23 _ rfl w.heap.size rfl 23 A (0, 0) _ hk.key Try.underlying23 rfl sA ?_)
    | ((with_reducible show wpList _ _ _ (⟨_, .load 24 _, _, _, _, _⟩ :: _) _ _); refine wpList_load_row rfl 24 _ rfl (w.heap.size + 1) rfl 24 C (0, 0) _ hk.non Try.underlying24 rfl sC ?_)
    | (go_at_call 11; refine (H2.out _).mono ?_; rintro e W5 ⟨A5, m5, rfl, b5, x5, _⟩))
  replace hk := hk.next x5
  have y4 := Bytes.ofRow (b4.ext x5 (fun _ _ h => h))
  have y5 := Bytes.ofRow b5
  have l4 : (strB K N 5 (64 * s + z)).length = 64 * s + z := strB_length _ _ _ _
  have f4 := Bytes.from (xs := strB K N 5 (64 * s + z)) (by rw [l4]; exact y4) (64 * s) (by omega)
  rw [l4, strB_drop] at f4
  obtain ⟨A6, c6, f4, y6⟩ := f4
  have t4 := fun n => str_bytes (y6.ext (Ext.drewN NoB W5 n) (fun _ _ _ h => h))
  have t5 := fun n => str_bytes (y5.ext (Ext.drewN NoB W5 n) (fun _ _ _ h => h))
  generalize strOfNums (strB K N (5 + s) z) = st at t4 t5
  clear b4 b5 x4 x5 y5 y6 l4
  have w1 : IntKind.i64.wrap (64 * (s : Int)) = 64 * (s : Int) := IntWalk.i64_in _ (by omega)
  have w2 : IntKind.i64.wrap (64 * (s : Int) + z) = 64 * (s : Int) + z := IntWalk.i64_in _ (by omega)
  have w3 : (((64 * s + z : Nat) : Int) != 64 * (s : Int) + z) = false := by simp
  have w4 : ((64 * s : Nat) : Int) = 64 * (s : Int) := by omega
  have w5 : 64 * s + z - 64 * s = z := by omega
  rw [w4, w5] at f4
  rw [w5] at t4
  clear w4 w5
  go_quiet (fail)
  clear t4 t5 f4 w1 w2 w3
  replace hk := hk.next (Ext.drewN NoB W5 nq)
  replace y4 := y4.ext (Ext.drewN NoB W5 nq) (fun _ _ _ h => h)
  generalize W5.drewN nq = W6 at hk y4 ⊢
  obtain ⟨V, hV⟩ : ∃ V, V = (bys (blk K N 5)).toArray := ⟨_, rfl⟩
  have lV : V.size = 64 := by rw [hV, List.size_toArray, bys_length, blk_length]
  have sV : (Try.prog.info? 27).map (·.size) = some V.size := by rw [lV]; exact Try.size27
  have oV : V.all (·.oneCell') = true := by rw [hV]; exact all_oneCell_toArray (bys_one _)
  rw [← hV] at H3
  have HV := Lib.hid hV
  clear hV
  go_upto_region 9 with (first
    | ((with_reducible show wpList _ _ _ (⟨_, .load 23 _, _, _, _, _⟩ :: _) _ _); refine wpList_load_row rfl 23 _ rfl w.heap.size rfl 23 A (0, 0) _ hk.key Try.underlying23 rfl sA ?_)
    | ((with_reducible show wpList _ _ _ (⟨_, .load 24 _, _, _, _, _⟩ :: _) _ _); refine wpList_load_row rfl 24 _ rfl (w.heap.size + 1) rfl 24 C (0, 0) _ hk.non Try.underlying24 rfl sC ?_)
    | (go_at_call 9; refine (H3.out _).mono ?_; rintro e W7 ⟨rfl, x7⟩)
    | ((with_reducible show wpList _ _ _ (⟨_, .store 27 _ _, _, _, _, _⟩ :: _) _ _); refine wpList_store_new rfl 27 _ _ rfl W7.heap.size V rfl rfl rfl (by rw [lV]; rfl) sV oV ?_))
  have hb := heapNew W7 (.cells V 27)
  have xx := x7.andAlloc (.cells V 27)
  replace hk := hk.next xx
  replace y4 := y4.ext xx (fun _ _ _ h => h)
  generalize W7.heap.size = g at hb ⊢
  generalize W7.alloc (.cells V 27) = W8 at hb hk y4 ⊢
  clear xx x7
  have hb' : Bytes W8 (.slice (some ⟨g, 0, none⟩) 64 64) (blk K N 5) := by
    refine .inr ⟨_, 64, by rw [blk_length], by rw [blk_length]; omega, by unfold maxLen; omega, fun j hj => ?_⟩
    rw [add_none, cellOf hb, Nat.zero_add, HV.out, List.getElem?_toArray]
    exact bys_at hj
  have t5 := fun n => str_bytes (hb'.ext (Ext.drewN NoB W8 n) (fun _ _ _ h => h))
  have hE := hk.ext
  by_cases h64 : 64 * s + z < 64
  · have d1 : decide (64 * (s : Int) + z < 64) = true := by simp; omega
    clear t5 hb' hb
    go_quiet (fail)
    go_wp2_with fail
    go_ret
    exact ⟨rfl, hE.andDrewN _⟩
  · have hA4 : A4 ≠ none := by
      intro h0
      subst h0
      rcases y4 with ⟨h1, h2⟩ | ⟨a, c', h1, _⟩
      · have := strB_length K N 5 (64 * s + z); rw [h2] at this; simp at this; omega
      · cases h1
    have l4 : (strB K N 5 (64 * s + z)).length = 64 * s + z := strB_length _ _ _ _
    have f4 := Bytes.upto (xs := strB K N 5 (64 * s + z)) (by rw [l4]; exact y4) 64 (by omega) hA4
    rw [l4, strB_take _ _ _ _ (by omega) (by constructor <;> decide)] at f4
    obtain ⟨A8, c8, f4, y8⟩ := f4
    replace f4 : ∀ W, (Instr.slice 32 (.slice A4 (64 * s + z) m4) none (some (.int .i64 64)) none).run Try.prog W = .ok (.slice A8 64 c8) W := f4
    have t4 := fun n => str_bytes (y8.ext (Ext.drewN NoB W8 n) (fun _ _ _ h => h))
    generalize strOfNums (blk K N 5) = st at t4 t5
    have d1 : decide (64 * (s : Int) + z < 64) = false := by simp; omega
    clear hb' hb y4 y8 l4 hA4 h64
    go_quiet (fail)
    go_wp2_with fail
    go_ret
    exact ⟨rfl, hE.andDrewN _⟩
end Go.Proofs.Ytcijbeagegonkaa
