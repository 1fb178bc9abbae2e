/-
  The stream in the program.
-/
import Derived.Test.YtcijbeagegonkaaG
import Derived.OwnWalk
set_option linter.unusedVariables false
namespace Go.Proofs.Ytcijbeagegonkaa
open Go.RowKit

theorem Try.info5 : (Try.prog.info? 5).map (fun i => (i.zero, i.size, i.bytes)) = some (some (.int .u8 0), 1, 1) := by kernel_rfl
/-- So many blocks of the stream. -/
def strm (K N : List Int) (c : Int) : Nat → List Int
  | 0 => []
  | n + 1 => strm K N c n ++ blk K N ((c + n) % 4294967296)
theorem blk_length (K N : List Int) (c : Int) : (blk K N c).length = 64 := outB_length _ _
theorem strm_length (K N : List Int) (c : Int) : ∀ n, (strm K N c n).length = 64 * n
  | 0 => rfl
  | n + 1 => by rw [strm, List.length_append, strm_length K N c n, blk_length]; omega
theorem byt_b (x : Int) (k : Nat) : B (byt x k) := ⟨Int.emod_nonneg _ (by decide), Int.emod_lt_of_pos _ (by decide)⟩
theorem outB_b (s f : List Int) : Bs (outB s f) := by
  intro x hx
  obtain ⟨i, _, rfl⟩ := List.mem_map.1 hx
  exact byt_b _ _
theorem strm_b (K N : List Int) (c : Int) : ∀ n, Bs (strm K N c n)
  | 0 => fun x hx => by simp [strm] at hx
  | n + 1 => fun x hx => by
    rw [strm] at hx
    rcases List.mem_append.1 hx with h | h
    · exact strm_b K N c n x h
    · exact outB_b _ _ x h
theorem bys_append (s t : List Int) : bys (s ++ t) = bys s ++ bys t := by simp [bys]

/-- The boxes of a key and a nonce, and a row of the call's own. -/
structure Bx (w W : World) (tn : TypeId) (K N : List Int) (e : TypeId) (v : Value) (n : Nat) (xs : List Value) : Prop where
  key : W.heap[w.heap.size]? = some (.cells (bys K).toArray 23 (0, 0))
  non : W.heap[w.heap.size + 1]? = some (.cells (bys N).toArray tn (0, 0))
  row : QRow W e 1 v n xs
  ext : Ext NoB w W
  own : ∀ k, v.ownBlock = some k → w.heap.size + 1 < k
theorem Bx.step {w W W2 W4 : World} {tn e : TypeId} {K N : List Int} {v v' : Value} {n n' : Nat} {xs xs' : List Value} (h : Bx w W tn K N e v n xs) (hx : Ext NoB W W2) (hx4 : Ext (fun k => v.ownBlock = some k) W2 W4)
    (hg : ∀ g, v'.ownBlock = some g → v.ownBlock = some g ∨ W2.heap.size ≤ g) (hq : QRow W4 e 1 v' n' xs') : Bx w W4 tn K N e v' n' xs' := by
  have hs := h.ext.size
  have l1 := blk_lt' h.non
  have hs2 := hx.size
  refine ⟨hx4.obj (hx.obj h.key fun h => h) fun hk => ?_, hx4.obj (hx.obj h.non fun h => h) fun hk => ?_, hq, (h.ext.then hx).trans hx4 (fun _ _ h => h) (fun k hk hk2 => ?_), fun k hk => ?_⟩
  · have := h.own _ hk; omega
  · have := h.own _ hk; omega
  · have := h.own _ hk2; omega
  · rcases hg k hk with hg | hg
    · exact h.own _ hg
    · omega
theorem QRow.cut {w : World} {e g o n cap : Nat} {xs : List Value} (h : QRow w e 1 (.slice (some ⟨g, o, none⟩) n cap) n xs) {m m' : Nat} (h1 : m ≤ n) (h2 : m ≤ m') (h3 : m' ≤ cap) :
    QRow w e 1 (.slice (some ⟨g, o, none⟩) m m') m (xs.take m) := by
  obtain ⟨h4, h5⟩ := h
  refine ⟨by rw [List.length_take]; omega, ?_⟩
  rcases h5 with ⟨h5, _⟩ | ⟨g', o', cap', cur, hv, hh, hn, hm, hs, hc⟩
  · cases h5
  · injection hv with hv1 hv2 hv3
    injection hv1 with hv1
    injection hv1 with e1 e2
    subst e1; subst e2; subst hv3
    refine .inr ⟨g, o, m', cur, rfl, hh, h2, by omega, by omega, fun j hj => ?_⟩
    rw [List.length_take] at hj
    rw [hc j (by omega), List.getElem?_take, if_pos (by omega)]

theorem stream_neg (K N : List Int) (c L : Int) (hL : L < 0) (w : World) :
    Calls Try.prog 11 #[Arr K, Arr N, .int .u32 c, .int .i64 L] w fun e w' => e = .returned (.tuple #[.slice none 0 0, .int .i64 2]) ∧ Ext NoB w w' := by
  obtain ⟨A, hA⟩ : ∃ A, A = (bys K).toArray := ⟨_, rfl⟩
  obtain ⟨C, hC⟩ : ∃ C, C = (bys N).toArray := ⟨_, rfl⟩
  unfold Arr
  rw [← hA, ← hC]
  clear hA hC
  go_enter Try.func11, Try.ntmps11
  go_wp2_with fail
  go_ret2
  exact ⟨rfl, (Ext.alloc NoB w _).andAlloc _⟩
theorem stream_far (K N : List Int) (c L : Int) (hL : 65536 < L) (w : World) :
    Calls Try.prog 11 #[Arr K, Arr N, .int .u32 c, .int .i64 L] w fun e w' => e = .returned (.tuple #[.slice none 0 0, .int .i64 3]) ∧ Ext NoB w w' := by
  obtain ⟨A, hA⟩ : ∃ A, A = (bys K).toArray := ⟨_, rfl⟩
  obtain ⟨C, hC⟩ : ∃ C, C = (bys N).toArray := ⟨_, rfl⟩
  unfold Arr
  rw [← hA, ← hC]
  clear hA hC
  go_enter Try.func11, Try.ntmps11
  go_wp2_with fail
  go_ret2
  exact ⟨rfl, (Ext.alloc NoB w _).andAlloc _⟩
theorem stream_big (K N : List Int) (c L : Int) (hc : U c) (h0 : 0 ≤ L) (hL : L ≤ 65536) (hb : 4294967296 < c + (L + 63) / 64) (w : World) :
    Calls Try.prog 11 #[Arr K, Arr N, .int .u32 c, .int .i64 L] w fun e w' => e = .returned (.tuple #[.slice none 0 0, .int .i64 3]) ∧ Ext NoB w w' := by
  obtain ⟨A, hA⟩ : ∃ A, A = (bys K).toArray := ⟨_, rfl⟩
  obtain ⟨C, hC⟩ : ∃ C, C = (bys N).toArray := ⟨_, rfl⟩
  unfold Arr
  rw [← hA, ← hC]
  clear hA hC
  obtain ⟨c0, c1⟩ := hc
  have hb' : 4294967296 < c + (L + 64 - 1) / 64 := by omega
  go_enter Try.func11, Try.ntmps11
  go_wp2_with fail
  go_ret2
  exact ⟨rfl, (Ext.alloc NoB w _).andAlloc _⟩

def StreamEnd (K N : List Int) (c : Int) (L : Nat) (w : World) (e : Ending) (w' : World) : Prop :=
  ∃ A m, e = .returned (.tuple #[.slice A L m, .int .i64 0]) ∧ QRow w' 5 1 (.slice A L m) L (bys ((strm K N c ((L + 63) / 64)).take L)) ∧ Ext NoB w w' ∧ ∀ k, (Value.slice A L m).ownBlock = some k → w.heap.size ≤ k
set_option maxHeartbeats 800000 in
theorem stream_ok (K N : List Int) (c : Int) (L : Nat) (hK : K.length = 32) (hN : N.length = 12) (bK : Bs K) (bN : Bs N) (hc : U c) (hL : L ≤ 65536) (hb : c + ((L + 63) / 64 : Nat) ≤ 4294967296) (w : World) :
    Calls Try.prog 11 #[Arr K, Arr N, .int .u32 c, .int .i64 L] w (StreamEnd K N c L w) := by
  obtain ⟨A, hA⟩ : ∃ A, A = (bys K).toArray := ⟨_, rfl⟩
  obtain ⟨C, hC⟩ : ∃ C, C = (bys N).toArray := ⟨_, rfl⟩
  have sA : (Try.prog.info? 23).map (·.size) = some A.size := by rw [hA, List.size_toArray, bys_length, hK]; exact Try.size23
  have sC : (Try.prog.info? 38).map (·.size) = some C.size := by rw [hC, List.size_toArray, bys_length, hN]; exact Try.size38
  have hblk := fun c hc => block9 K N c hK hN bK bN hc
  unfold Arr at hblk ⊢
  rw [← hA, ← hC] at hblk ⊢
  have HA := Lib.hid hA
  have HC := Lib.hid hC
  clear hA hC
  obtain ⟨c0, c1⟩ := hc
  obtain ⟨i0, hi0, hz0, hz1, hz2⟩ := info_parts Try.info5
  have hb' : ¬ 4294967296 < c + ((L : Int) + 64 - 1) / 64 := by omega
  go_enter Try.func11, Try.ntmps11
  go_upto_region 5 with (fail)
  generalize hW1 : World.alloc (World.alloc w _) _ = W1
  have hA1 : W1.heap[w.heap.size]? = some (.cells A 23 (0, 0)) := by rw [← hW1, heapAlloc _ _ _ (by simp), heapNew]
  have hC1 : W1.heap[w.heap.size + 1]? = some (.cells C 38 (0, 0)) := by rw [← hW1, heapNew' _ _ _ (by simp)]
  have x1 : Ext NoB w W1 := by rw [← hW1]; exact (Ext.alloc NoB w _).andAlloc _
  clear hW1
  go_wp2_with (refine wpList_make_own _ rfl _ _ 32 rfl W1.heap.size 5 i0 _ 1 Try.underlying32 hi0 hz0 hz1 .i64 .i64 ((L : Int) + 64) (L + 64) rfl rfl (by omega) (by rw [hz2]; omega) (by unfold maxLen; omega) (Nat.le_refl _) ?_; intro W2 own2 grow2)
  have hb1 : Bx w W2 38 K N 5 (.slice (some ⟨W1.heap.size, 0, none⟩) 0 (L + 64)) 0 (bys (strm K N c 0)) := by
    have hx2 : Ext NoB W1 W2 := (Ext.ofGrown grow2).mono fun k _ h => by cases h
    have hC2 := hx2.obj hC1 (fun h => h)
    refine ⟨by rw [← HA.out]; exact hx2.obj hA1 (fun h => h), by rw [← HC.out]; exact hC2, QRow.ofOwn own2, x1.then hx2, fun k hk => ?_⟩
    have : W1.heap.size = k := by simpa [Value.ownBlock] using hk
    have := blk_lt' hC1
    omega
  generalize hv : Value.slice (some ⟨W1.heap.size, 0, none⟩) 0 (L + 64) = v1 at hb1 ⊢
  clear hv own2 grow2 hA1 hC1 x1 hb'
  go_loopw [10, 2] (fun v t W => ∃ (k : Nat), k ≤ (L + 63) / 64 ∧ t = .int .u32 ((c + k) % 4294967296) ∧ Bx w W 38 K N 5 v (64 * k) (bys (strm K N c k))) (fun v _ _ => match v with | .slice _ n _ => L + 63 - n | _ => 0)
  case atStart => exact ⟨0, by omega, by congr 1; omega, hb1⟩
  case round =>
    clear hb1
    obtain ⟨k, hk, rfl, hb1⟩ := hrel
    have hq := hb1.row
    obtain ⟨Av, m, rfl, hm1, hm2, hm3⟩ := hq.slice
    have hA1 := hb1.key
    have hC1 := hb1.non
    rw [← HA.out] at hA1
    rw [← HC.out] at hC1
    rcases Nat.lt_or_ge (64 * k) L with hlt | hge
    · have hkc : (c + (k : Int)) % 4294967296 = c + k := by omega
      have hbk := hblk (c + k) ⟨by omega, by omega⟩
      have hD0 := hbk
      obtain ⟨D, hD⟩ : ∃ D, D = (bys (blk K N (c + k))).toArray := ⟨_, rfl⟩
      have lD : D.size = 64 := by rw [hD, List.size_toArray, bys_length, blk_length]
      have sD : (Try.prog.info? 27).map (·.size) = some D.size := by rw [lD]; exact Try.size27
      have oD : D.all (·.oneCell') = true := by rw [hD]; exact all_oneCell_toArray (bys_one _)
      rw [← hD] at hbk
      have hs' : bys (strm K N c (k + 1)) = bys (strm K N c k) ++ D.toList := by rw [strm, hkc, bys_append, hD]
      have ho' : ∀ u ∈ D.toList, u.oneCell' = true := by rw [hD]; exact bys_one _
      rw [hkc]
      have HS := Lib.hid hs'
      have HO := Lib.hid ho'
      have Hm3 := Lib.hid hm3
      clear hD hkc hs' ho' hD0 hm3
      go_wp2_with (first
        | (refine wpList_load_row rfl 23 _ rfl w.heap.size rfl 23 A (0, 0) _ hA1 Try.underlying23 rfl sA ?_)
        | (refine wpList_load_row rfl 38 _ rfl (w.heap.size + 1) rfl 38 C (0, 0) _ hC1 Try.underlying38 rfl sC ?_)
        | (go_at_call 9; refine (hbk _).mono ?_; rintro e W4 ⟨rfl, x4⟩)
        | (refine wpList_store_new rfl 27 _ _ rfl W4.heap.size D rfl rfl rfl (by rw [lD]; rfl) sD oD ?_)
        | (at_builtin; refine wpList_append_q rfl _ _ 32 rfl 5 1 1 (.int .u8 0) Try.underlying32 Try.info5 rfl (by decide) (.slice Av (64 * k) m) (64 * k) (bys (strm K N c k)) rfl ?hq ⟨W4.heap.size, 0, none⟩ 64 64 D.toList rfl (by simp [lD]) ?hn HO.out (by decide) (by unfold maxLen; omega) (by omega) ?hK))
      case hq => exact (hq.ext x4 (fun _ _ h => h)).ext (Ext.alloc NoB W4 _) (fun _ _ h => h)
      case hn =>
        intro j u hj
        rw [add_none, cellOf (heapNew W4 _), Nat.zero_add]
        simpa using hj
      case hK =>
        intro g off cap W5 hq5 hx5 hg5
        rw [← HS.out] at hq5
        have hb2 : Bx w W5 38 K N 5 (.slice (some ⟨g, off, none⟩) (64 * (k + 1)) cap) (64 * (k + 1)) (bys (strm K N c (k + 1))) := by
          refine hb1.step (x4.andAlloc (.cells D 27)) hx5 (fun g' hg' => ?_) hq5
          have : g = g' := by simpa [Value.ownBlock] using hg'
          subst this
          exact hg5.imp id (fun h => by simp; omega)
        have hm : 64 * k + 64 = 64 * (k + 1) := by omega
        rw [hm]
        have e1 : (c + (k : Int) + 1) % 4294967296 = (c + ((k + 1 : Nat) : Int)) % 4294967296 := by congr 1; omega
        clear hq5 hx5 hg5 hq hb1 hA1 hC1 hm x4 hbk hblk
        have E1 := Lib.hid e1
        clear e1
        go_wp2_with fail
        rw [E1.out]
        exact ⟨⟨k + 1, by omega, rfl, hb2⟩, by simp; omega⟩
    · have hkk : k = (L + 63) / 64 := by omega
      have hLm : L ≤ m := by omega
      rcases Av with _ | ⟨g, o, so⟩
      · obtain ⟨h1, h2⟩ := hm3 rfl
        have hL0 : L = 0 := by omega
        subst hL0
        subst h2
        have hq2 : QRow wr 5 1 (.slice none 0 0) 0 (bys ((strm K N c ((0 + 63) / 64)).take 0)) := by simpa [bys] using QRow.nil wr 5 1
        rw [h1] at hq ⊢
        clear hm3 hkk hm1
        go_wp2_with fail
        go_ret2
        exact ⟨none, 0, rfl, hq2, hb1.ext, fun k hk => by simp [Value.ownBlock] at hk⟩
      · obtain rfl : so = none := by
          rcases hq.2 with ⟨h, _⟩ | ⟨g', o', c', cur, hv, _⟩
          · cases h
          · injection hv with hv1
            injection hv1 with hv1
            injection hv1
        have hq2 := hq.cut (m := L) (m' := L) hge (Nat.le_refl _) hLm
        have e2 : (bys (strm K N c k)).take L = bys ((strm K N c ((L + 63) / 64)).take L) := by rw [← hkk]; simp [bys]
        rw [e2] at hq2
        clear hm3 hkk e2
        go_wp2_with fail
        go_ret2
        exact ⟨some ⟨g, o, none⟩, L, rfl, hq2, hb1.ext, fun k hk => by have := hb1.own k hk; omega⟩
end Go.Proofs.Ytcijbeagegonkaa
