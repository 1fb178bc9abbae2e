/-
  ChachaTwice returns true: the walk.
-/
import Derived.Test.YtcijbeagegonkaaOpen
set_option linter.unusedVariables false
set_option linter.unusedSimpArgs false
namespace Go.Proofs.Ytcijbeagegonkaa
open Go.RowKit

/-- So many bytes of the stream. -/
def strB (K N : List Int) (c : Int) (n : Nat) : List Int := (strm K N c ((n + 63) / 64)).take n
theorem strB_length (K N : List Int) (c : Int) (n : Nat) : (strB K N c n).length = n := by unfold strB; rw [List.length_take, strm_length]; omega
theorem strB_b (K N : List Int) (c : Int) (n : Nat) : Bs (strB K N c n) := fun x hx => strm_b _ _ _ _ x (List.mem_of_mem_take hx)
theorem xb_b (a b : Int) : B (xb a b) := ⟨bits_lo_u8 _ _ _, by have := bits_hi_u8 .xor a b; unfold xb; omega⟩
theorem xorB_b (s b : List Int) : Bs (xorB s b) := by
  intro x hx
  obtain ⟨i, hi, rfl⟩ := List.mem_iff_getElem.1 hx
  simp only [xorB, List.getElem_zipWith]
  exact xb_b _ _
theorem xb_xb (a b : Int) (ha : B a) (hb : B b) : xb a (xb a b) = b := by
  have key : ∀ x < 256, ∀ y < 256, xb (x : Nat) (xb (x : Nat) (y : Nat)) = (y : Nat) := by decide +kernel
  obtain ⟨h0, h1⟩ := ha
  obtain ⟨h2, h3⟩ := hb
  obtain ⟨x, rfl⟩ : ∃ x : Nat, a = x := ⟨a.toNat, by omega⟩
  obtain ⟨y, rfl⟩ : ∃ y : Nat, b = y := ⟨b.toNat, by omega⟩
  exact key x (by omega) y (by omega)
theorem xorB_xorB (s b : List Int) (h : s.length = b.length) (hs : Bs s) (hb : Bs b) : xorB s (xorB s b) = b := by
  have hl := xorB_length s b h
  refine ext_getD (by rw [xorB_length _ _ (by omega), hl]) fun j hj => ?_
  rw [xorB_length _ _ (by omega), hl] at hj
  rw [xorB_at _ _ (by omega) (by omega), xorB_at _ _ h hj, xb_xb _ _ (hs.at (by omega)) (hb.at hj)]

theorem stream_fine (K N : List Int) (c : Int) (L : Nat) (hK : K.length = 32) (hN : N.length = 12) (bK : Bs K) (bN : Bs N) (hc : U c) (hL : L ≤ 65536) (hb : c + ((L + 63) / 64 : Nat) ≤ 4294967296) (w : World) :
    Calls Try.prog 11 #[Arr K, Arr N, .int .u32 c, .int .i64 L] w fun e w' => ∃ A m, e = .returned (.tuple #[.slice A L m, .int .i64 0]) ∧ QRow w' 5 1 (.slice A L m) L (bys (strB K N c L)) ∧ Ext NoB w w' ∧ ∀ k, (Value.slice A L m).ownBlock = some k → w.heap.size ≤ k :=
  stream_ok K N c L hK hN bK bN hc hL hb w
theorem rstream_fine (K N : List Int) (c : Int) (L : Nat) (hK : K.length = 32) (hN : N.length = 12) (bK : Bs K) (bN : Bs N) (hc : U c) (hL : L ≤ 65536) (hb : c + ((L + 63) / 64 : Nat) ≤ 4294967296) (w : World) :
    Calls Try.prog 12 #[Arr K, Arr N, .int .u32 c, .int .i64 L] w fun e w' => ∃ A m, e = .returned (.tuple #[.slice A L m, .int .i64 0]) ∧ QRow w' 5 1 (.slice A L m) L (bys (strB K N c L)) ∧ Ext NoB w w' ∧ ∀ k, (Value.slice A L m).ownBlock = some k → w.heap.size ≤ k :=
  rstream_ok K N c L hK hN bK bN hc hL hb w
theorem xor_fine (K N : List Int) (c : Int) (bs : List Int) (hK : K.length = 32) (hN : N.length = 12) (bK : Bs K) (bN : Bs N) (hc : U c) (bB : Bs bs) (hL : bs.length ≤ 65536) (hb : c + ((bs.length + 63) / 64 : Nat) ≤ 4294967296) (v : Value) (w : World) (hv : Bytes w v bs) :
    Calls Try.prog 13 #[Arr K, Arr N, .int .u32 c, v] w (XorEnd (strB K N c bs.length) bs w) :=
  xor_ok K N c bs _ hK hN bB (strB_b _ _ _ _) (strB_length _ _ _ _) hL v (fun W => stream_fine K N c bs.length hK hN bK bN hc hL hb W) w hv
theorem rxor_fine (K N : List Int) (c : Int) (bs : List Int) (hK : K.length = 32) (hN : N.length = 12) (bK : Bs K) (bN : Bs N) (hc : U c) (bB : Bs bs) (hL : bs.length ≤ 65536) (hb : c + ((bs.length + 63) / 64 : Nat) ≤ 4294967296) (v : Value) (w : World) (hv : Bytes w v bs) :
    Calls Try.prog 14 #[Arr K, Arr N, .int .u32 c, v] w (XorEnd (strB K N c bs.length) bs w) :=
  rxor_ok K N c bs _ hK hN bB (strB_b _ _ _ _) (strB_length _ _ _ _) hL v (fun W => rstream_fine K N c bs.length hK hN bK bN hc hL hb W) w hv
/-- The result of Xor with its slice in the open. -/
theorem XorEnd.open {s bs : List Int} {w w' : World} {e : Ending} (h : XorEnd s bs w e w') : ∃ A m, e = .returned (.tuple #[.slice A bs.length m, .int .i64 0]) ∧ QRow w' 5 1 (.slice A bs.length m) bs.length (bys (xorB s bs)) ∧ Ext NoB w w' ∧ ∀ k, (Value.slice A bs.length m).ownBlock = some k → w.heap.size ≤ k := by
  obtain ⟨v, h1, h2, h3, h4⟩ := h
  obtain ⟨A, m, rfl, _⟩ := h2.slice
  exact ⟨A, m, h1, h2, h3, h4⟩
theorem str_bytes {w : World} {v : Value} {xs : List Int} (h : Bytes w v xs) : (convert 32 9 v).run Try.prog w = .ok (.string (strOfNums xs)) w :=
  h.string Try.underlying32 Try.underlying5 Try.underlying9

set_option maxHeartbeats 800000 in
theorem twice_walk (K N bs : List Int) (hK : K.length = 32) (hN : N.length = 12) (bK : Bs K) (bN : Bs N) (bB : Bs bs) (v : Value) (w : World) (hv : Bytes w v bs) :
    Calls Try.prog 6 #[Arr K, Arr N, v] w fun e w' => e = .returned (.bool true) ∧ Ext NoB w w' := by
  obtain ⟨Av, mv, rfl, hv1, hv2, _⟩ := hv.shape
  have hN63 : bs.length ≤ 9223372036854775807 := by have := hv2; unfold maxLen at this; omega
  rcases Nat.lt_or_ge 2000 bs.length with hbig | hsm
  · have hb1 : (2000 : Int) < (bs.length : Int) := by omega
    obtain ⟨A, hA⟩ : ∃ A, A = (bys K).toArray := ⟨_, rfl⟩
    obtain ⟨C, hC⟩ : ∃ C, C = (bys N).toArray := ⟨_, rfl⟩
    unfold Arr
    rw [← hA, ← hC]
    clear hA hC
    go_enter Try.func6, Try.ntmps6
    go_wp2_with (first | (refine (alive_any _).mono ?_; rintro e W2 ⟨rfl, x2⟩))
    go_ret
    exact ⟨rfl, ((Ext.alloc NoB w _).andAlloc _).then x2⟩
  · have hb1 : (bs.length : Int) ≤ 2000 := by omega
    have hx1 := xor_fine K N 7 bs hK hN bK bN (by constructor <;> decide) bB (by omega) (by omega)
    have hx2 := xor_fine K N 7 (xorB (strB K N 7 bs.length) bs) hK hN bK bN (by constructor <;> decide) (xorB_b _ _) (by rw [xorB_length _ _ (strB_length _ _ _ _)]; omega) (by rw [xorB_length _ _ (strB_length _ _ _ _)]; omega)
    rw [xorB_length _ _ (strB_length _ _ _ _)] at hx2
    have e1 : xorB (strB K N 7 bs.length) (xorB (strB K N 7 bs.length) bs) = bs := xorB_xorB _ _ (strB_length _ _ _ _) (strB_b _ _ _ _) bB
    have e2 := xorB_length _ _ (strB_length K N 7 bs.length)
    obtain ⟨A, hA⟩ : ∃ A, A = (bys K).toArray := ⟨_, rfl⟩
    obtain ⟨C, hC⟩ : ∃ C, C = (bys N).toArray := ⟨_, rfl⟩
    have sA : (Try.prog.info? 23).map (·.size) = some A.size := by rw [hA, List.size_toArray, bys_length, hK]; exact Try.size23
    have sC : (Try.prog.info? 24).map (·.size) = some C.size := by rw [hC, List.size_toArray, bys_length, hN]; exact Try.size24
    unfold Arr at hx1 hx2 ⊢
    rw [← hA, ← hC] at hx1 hx2 ⊢
    clear hA hC
    have H1 := Lib.hid hx1
    have H2 := Lib.hid hx2
    have E1 := Lib.hid e1
    have E2 := Lib.hid e2
    clear hx1 hx2 e1 e2
    go_enter Try.func6, Try.ntmps6
    go_upto_region 1 with (fail)
    generalize hW1 : World.alloc (World.alloc w _) _ = W1
    have hA1 : W1.heap[w.heap.size]? = some (.cells A 23 (0, 0)) := by rw [← hW1, heapAlloc _ _ _ (by simp), heapNew]
    have hC1 : W1.heap[w.heap.size + 1]? = some (.cells C 24 (0, 0)) := by rw [← hW1, heapNew' _ _ _ (by simp)]
    have x1 : Ext NoB w W1 := by rw [← hW1]; exact (Ext.alloc NoB w _).andAlloc _
    clear hW1
    go_wp2_with (first
      | (go_at_call 8; refine (alive_any _).mono ?_; rintro e W2 ⟨rfl, x2⟩; have hA2 := x2.obj hA1 (fun h => h); have hC2 := x2.obj hC1 (fun h => h); have y2 := x1.then x2; clear hA1 hC1)
      | (refine wpList_load_row rfl 23 _ rfl w.heap.size rfl 23 A (0, 0) _ hA2 Try.underlying23 rfl sA ?_)
      | (refine wpList_load_row rfl 24 _ rfl (w.heap.size + 1) rfl 24 C (0, 0) _ hC2 Try.underlying24 rfl sC ?_)
      | (go_at_call 13; (with_reducible refine (H1.out _ _ (hv.ext y2 (fun _ _ _ h => h))).mono ?_); intro e W3 hend; obtain ⟨A3, m3, rfl, q3, x3, _⟩ := hend.open; clear hend; have hA3 := x3.obj hA2 (fun h => h); have hC3 := x3.obj hC2 (fun h => h); have y3 := y2.then x3; clear hA2 hC2)
      | (refine wpList_load_row rfl 23 _ rfl w.heap.size rfl 23 A (0, 0) _ hA3 Try.underlying23 rfl sA ?_)
      | (refine wpList_load_row rfl 24 _ rfl (w.heap.size + 1) rfl 24 C (0, 0) _ hC3 Try.underlying24 rfl sC ?_)
      | (go_at_call 13; (with_reducible refine (H2.out _ _ (Bytes.ofRow q3)).mono ?_); intro e W4 hend; obtain ⟨A4, m4, rfl, q4, x4, _⟩ := hend.open; clear hend; rw [E1.out, E2.out] at q4; rw [E2.out]; have y4 := y3.then x4; have z1 := str_bytes (Bytes.ofRow q4); have z2 := str_bytes (hv.ext y4 (fun _ _ _ h => h))))
    go_ret
    exact ⟨rfl, y4⟩
end Go.Proofs.Ytcijbeagegonkaa
