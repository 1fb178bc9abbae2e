/-
  ChachaStreams returns true: the walk.
-/
import Derived.Test.YtcijbeagegonkaaQ
set_option linter.unusedVariables false
set_option linter.unusedSimpArgs false
namespace Go.Proofs.Ytcijbeagegonkaa
open Go.RowKit

/-- The error of a stream, and its bytes. -/
def stE (c L : Int) : Int := if L < 0 then 2 else if 65536 < L then 3 else if 4294967296 < c + (L + 63) / 64 then 3 else 0
def stX (K N : List Int) (c L : Int) : List Int := if stE c L = 0 then strB K N c L.toNat else []
def BytesEnd (E : Int) (X : List Int) (w : World) (e : Ending) (w' : World) : Prop :=
  ∃ A m, e = .returned (.tuple #[.slice A X.length m, .int .i64 E]) ∧ Bytes w' (.slice A X.length m) X ∧ Ext NoB w w'
theorem BytesEnd.ofNone {E : Int} {w : World} {e : Ending} {w' : World} (h : e = .returned (.tuple #[.slice none 0 0, .int .i64 E]) ∧ Ext NoB w w') : BytesEnd E [] w e w' := ⟨Option.none, 0, h.1, Bytes.nil _, h.2⟩
theorem BytesEnd.ofSome {L : Nat} {X : List Int} {w : World} {e : Ending} {w' : World} (hX : X.length = L) (h : ∃ A m, e = .returned (.tuple #[.slice A L m, .int .i64 0]) ∧ QRow w' 5 1 (.slice A L m) L (bys X) ∧ Ext NoB w w' ∧ ∀ k, (Value.slice A L m).ownBlock = some k → w.heap.size ≤ k) : BytesEnd 0 X w e w' := by
  subst hX
  obtain ⟨A, m, h1, h2, h3, _⟩ := h
  exact ⟨A, m, h1, Bytes.ofRow h2, h3⟩
section
variable (K N : List Int) (c : Int) (hK : K.length = 32) (hN : N.length = 12) (bK : Bs K) (bN : Bs N) (hc : U c)
include hK hN bK bN hc
theorem stream_any (L : Int) (w : World) : Calls Try.prog 11 #[Arr K, Arr N, .int .u32 c, .int .i64 L] w (BytesEnd (stE c L) (stX K N c L) w) := by
  unfold stX stE
  by_cases h1 : L < 0
  · rw [if_pos h1, if_neg (by decide)]
    exact (stream_neg K N c L h1 w).mono fun _ _ h => BytesEnd.ofNone h
  · rw [if_neg h1]
    by_cases h2 : 65536 < L
    · rw [if_pos h2, if_neg (by decide)]
      exact (stream_far K N c L h2 w).mono fun _ _ h => BytesEnd.ofNone h
    · rw [if_neg h2]
      by_cases h3 : 4294967296 < c + (L + 63) / 64
      · rw [if_pos h3, if_neg (by decide)]
        exact (stream_big K N c L hc (by omega) (by omega) h3 w).mono fun _ _ h => BytesEnd.ofNone h
      · rw [if_neg h3, if_pos rfl]
        obtain ⟨n, rfl⟩ : ∃ n : Nat, L = n := ⟨L.toNat, by omega⟩
        exact (stream_fine K N c n hK hN bK bN hc (by omega) (by omega) w).mono fun _ _ h => BytesEnd.ofSome (strB_length _ _ _ _) h
theorem rstream_any (L : Int) (w : World) : Calls Try.prog 12 #[Arr K, Arr N, .int .u32 c, .int .i64 L] w (BytesEnd (stE c L) (stX K N c L) w) := by
  unfold stX stE
  by_cases h1 : L < 0
  · rw [if_pos h1, if_neg (by decide)]
    exact (rstream_neg K N c L h1 w).mono fun _ _ h => BytesEnd.ofNone h
  · rw [if_neg h1]
    by_cases h2 : 65536 < L
    · rw [if_pos h2, if_neg (by decide)]
      exact (rstream_far K N c L h2 w).mono fun _ _ h => BytesEnd.ofNone h
    · rw [if_neg h2]
      by_cases h3 : 4294967296 < c + (L + 63) / 64
      · rw [if_pos h3, if_neg (by decide)]
        exact (rstream_big K N c L hc (by omega) (by omega) h3 w).mono fun _ _ h => BytesEnd.ofNone h
      · rw [if_neg h3, if_pos rfl]
        obtain ⟨n, rfl⟩ : ∃ n : Nat, L = n := ⟨L.toNat, by omega⟩
        exact (rstream_fine K N c n hK hN bK bN hc (by omega) (by omega) w).mono fun _ _ h => BytesEnd.ofSome (strB_length _ _ _ _) h
end
def xoX (K N : List Int) (c : Int) (bs : List Int) : List Int := if stE c bs.length = 0 then xorB (strB K N c bs.length) bs else []
section
variable (K N : List Int) (c : Int) (bs : List Int) (hK : K.length = 32) (hN : N.length = 12) (bK : Bs K) (bN : Bs N) (hc : U c) (bB : Bs bs) (hl : bs.length ≤ 65536)
include hK hN bK bN hc bB hl
theorem xor_any (v : Value) (w : World) (hv : Bytes w v bs) : Calls Try.prog 13 #[Arr K, Arr N, .int .u32 c, v] w (BytesEnd (stE c bs.length) (xoX K N c bs) w) := by
  unfold xoX stE
  rw [if_neg (by omega), if_neg (by omega)]
  by_cases h3 : 4294967296 < c + ((bs.length : Int) + 63) / 64
  · rw [if_pos h3, if_neg (by decide)]
    obtain ⟨A0, c0, rfl, _⟩ := hv.shape
    exact (xor_err K N c bs hK hN A0 c0 (fun W => stream_big K N c bs.length hc (by omega) (by omega) h3 W) w).mono fun _ _ h => BytesEnd.ofNone h
  · rw [if_neg h3, if_pos rfl]
    exact (xor_fine K N c bs hK hN bK bN hc bB hl (by omega) v w hv).mono fun _ _ h => BytesEnd.ofSome (xorB_length _ _ (strB_length _ _ _ _)) h.open
theorem rxor_any (v : Value) (w : World) (hv : Bytes w v bs) : Calls Try.prog 14 #[Arr K, Arr N, .int .u32 c, v] w (BytesEnd (stE c bs.length) (xoX K N c bs) w) := by
  unfold xoX stE
  rw [if_neg (by omega), if_neg (by omega)]
  by_cases h3 : 4294967296 < c + ((bs.length : Int) + 63) / 64
  · rw [if_pos h3, if_neg (by decide)]
    obtain ⟨A0, c0, rfl, _⟩ := hv.shape
    exact (rxor_err K N c bs hK hN A0 c0 (fun W => rstream_big K N c bs.length hc (by omega) (by omega) h3 W) w).mono fun _ _ h => BytesEnd.ofNone h
  · rw [if_neg h3, if_pos rfl]
    exact (rxor_fine K N c bs hK hN bK bN hc bB hl (by omega) v w hv).mono fun _ _ h => BytesEnd.ofSome (xorB_length _ _ (strB_length _ _ _ _)) h.open
end
/-- The world of the law: the boxes of the key and of the two numbers, and the nonce. -/
structure Lw (w W : World) (A C : Array Value) (a0 a1 : Int) (g : Nat) : Prop where
  key : W.heap[w.heap.size]? = some (.cells A 23 (0, 0))
  at0 : W.cell? ⟨w.heap.size + 1, 0, none⟩ = some (.int .i64 a0)
  at1 : W.cell? ⟨w.heap.size + 1, 1, none⟩ = some (.int .i64 a1)
  non : W.heap[g]? = some (.cells C 38 (0, 0))
  ext : Ext NoB w W
theorem Lw.next {w W W' : World} {A C : Array Value} {a0 a1 : Int} {g : Nat} (h : Lw w W A C a0 a1 g) (hx : Ext NoB W W') : Lw w W' A C a0 a1 g :=
  ⟨hx.obj h.key id, hx.cell h.at0 id, hx.cell h.at1 id, hx.obj h.non id, h.ext.then hx⟩

theorem Try.arr38 (g : Nat) (w : World) : (Instr.arrayAt 38 (.slice (some ⟨g, 0, none⟩) 12 32)).run Try.prog w = .ok (.pointer (some ⟨g, 0, none⟩)) w := by
  simp [Instr.arrayAt, run_underlying Try.underlying38]
set_option maxHeartbeats 8000000 in
theorem streams_walk (K bs : List Int) (a0 a1 : Int) (hK : K.length = 32) (bK : Bs K) (bB : Bs bs) (v : Value) (w : World) (hv : Bytes w v bs) (h0 : -9223372036854775808 ≤ a0) (h1 : a0 ≤ 9223372036854775807) (h2 : -9223372036854775808 ≤ a1) (h3 : a1 ≤ 9223372036854775807) :
    Calls Try.prog 5 #[Arr K, v, .agg #[.int .i64 a0, .int .i64 a1]] w fun e w' => e = .returned (.bool true) ∧ Ext NoB w w' := by
  obtain ⟨Av, mv, rfl, hv1, hv2, _⟩ := hv.shape
  have hN63 : bs.length ≤ 9223372036854775807 := by have := hv2; unfold maxLen at this; omega
  have hN : (K.take 12).length = 12 := by rw [List.length_take]; omega
  have bN : Bs (K.take 12) := fun x hx => bK x (List.mem_of_mem_take hx)
  have hc : U (a0 % 4294967296) := ⟨by omega, by omega⟩
  have hs := stream_any K (K.take 12) _ hK hN bK bN hc a1
  have hr := rstream_any K (K.take 12) _ hK hN bK bN hc a1
  have hx := fun hl => xor_any K (K.take 12) _ bs hK hN bK bN hc bB hl
  have hy := fun hl => rxor_any K (K.take 12) _ bs hK hN bK bN hc bB hl
  obtain ⟨E, hE⟩ : ∃ E, E = stE (a0 % 4294967296) a1 := ⟨_, rfl⟩
  obtain ⟨X, hX⟩ : ∃ X, X = stX K (K.take 12) (a0 % 4294967296) a1 := ⟨_, rfl⟩
  obtain ⟨E', hE'⟩ : ∃ E, E = stE (a0 % 4294967296) bs.length := ⟨_, rfl⟩
  obtain ⟨Y, hY⟩ : ∃ X, X = xoX K (K.take 12) (a0 % 4294967296) bs := ⟨_, rfl⟩
  rw [← hE, ← hX] at hs hr
  rw [← hE', ← hY] at hx hy
  clear hE hX hE' hY
  obtain ⟨A, hA⟩ : ∃ A, A = (bys K).toArray := ⟨_, rfl⟩
  obtain ⟨C, hC⟩ : ∃ C, C = bys (K.take 12) := ⟨_, rfl⟩
  have sA : (Try.prog.info? 23).map (·.size) = some A.size := by rw [hA, List.size_toArray, bys_length, hK]; exact Try.size23
  have lC : C.length = 12 := by rw [hC, bys_length, hN]
  have sC : (Try.prog.info? 38).map (·.size) = some C.length := by rw [lC]; exact Try.size38
  have sC' : (Try.prog.info? 38).map (·.size) = some C.toArray.size := by rw [List.size_toArray, lC]; exact Try.size38
  have oC : C.toArray.all (·.oneCell') = true := by rw [hC]; exact all_oneCell_toArray (bys_one _)
  unfold Arr at hs hr hx hy ⊢
  rw [← hA, ← hC] at hs hr hx hy
  rw [← hA]
  have hpre : ∀ (W : World) (g : Nat), W.heap[g]? = some (.cells A 23 (0, 0)) → W.rangeAt g 0 C := fun W g h j u hu => by
    rw [cellOf h, Nat.zero_add, hA, List.getElem?_toArray]
    rw [hC] at hu
    simp only [bys, List.map_take, List.getElem?_take] at hu ⊢
    split at hu
    · exact hu
    · cases hu
  have HP := Lib.hid hpre
  have HA := Lib.hid hA
  have HS := Lib.hid hs
  have HR := Lib.hid hr
  have HX := Lib.hid hx
  have HY := Lib.hid hy
  clear hpre hA hC hs hr hx hy hc
  by_cases hbig : 2000 < bs.length
  · have hb1 : (2000 : Int) < (bs.length : Int) := by omega
    go_enter Try.func5, Try.ntmps5
    go_wp2_with (first | (go_at_call 8; refine (alive_any _).mono ?_; rintro e W2 ⟨rfl, x2⟩))
    go_ret
    exact ⟨rfl, ((Ext.alloc NoB w _).andAlloc _).then x2⟩
  by_cases hmid : 2000 < a1 ∧ a1 ≤ 65536
  · obtain ⟨hm1, hm2⟩ := hmid
    have hb1 : (bs.length : Int) ≤ 2000 := by omega
    go_enter Try.func5, Try.ntmps5
    go_wp2_with (first | (go_at_call 8; refine (alive_any _).mono ?_; rintro e W2 ⟨rfl, x2⟩; have hC2 := x2.obj (heapNew (w.alloc (.cells A 23)) (.cells #[.int .i64 a0, .int .i64 a1] 37)) (fun h => h); have c0 := cellOf hC2 0; have c1 := cellOf hC2 1; have z1 : (w.alloc (.cells A 23)).heap.size = w.heap.size + 1 := (by simp); rw [z1] at c0 c1))
    go_ret
    exact ⟨rfl, ((Ext.alloc NoB w _).andAlloc _).then x2⟩
  · have hb1 : (bs.length : Int) ≤ 2000 := by omega
    have hb2 : bs.length ≤ 65536 := by omega
    have hpt := fun W => Try.arr38 w.heap.size W
    have hm3 : a1 ≤ 2000 ∨ 65536 < a1 := by omega
    clear hmid
    rcases hm3 with hm3 | hm3
    all_goals
      go_enter Try.func5, Try.ntmps5
      go_upto_region 1 with (fail)
      generalize hW1 : World.alloc (World.alloc w _) _ = W1
      have hA1 : W1.heap[w.heap.size]? = some (.cells A 23 (0, 0)) := by rw [← hW1, heapAlloc _ _ _ (by simp), heapNew]
      have hC1 : W1.heap[w.heap.size + 1]? = some (.cells #[.int .i64 a0, .int .i64 a1] 37 (0, 0)) := by rw [← hW1, heapNew' _ _ _ (by simp)]
      have x1 : Ext NoB w W1 := by rw [← hW1]; exact (Ext.alloc NoB w _).andAlloc _
      clear hW1
      go_upto_region 5 with (first
        | (go_at_call 8; refine (alive_any _).mono ?_; rintro e W2 ⟨rfl, x2⟩; have hA2 := x2.obj hA1 (fun h => h); have hC2 := x2.obj hC1 (fun h => h); have c0 := cellOf hC2 0; have c1 := cellOf hC2 1; have y2 := x1.then x2; clear hA1 hC1 x1 x2))
      have hr2 := HP.out _ _ hA2
      go_upto_region 6 with (first
        | ((with_reducible show wpList _ _ _ (⟨_, .load 38 _, _, _, _, _⟩ :: _) _ _); refine wpList_load_mid rfl 38 _ rfl w.heap.size 0 rfl C _ hr2 Try.underlying38 rfl sC ?_)
        | ((with_reducible show wpList _ _ _ (⟨_, .store 38 _ _, _, _, _, _⟩ :: _) _ _); refine wpList_store_new rfl 38 _ _ rfl W2.heap.size C.toArray rfl rfl rfl (by rw [List.size_toArray, lC]; rfl) sC' oC ?_))
      have hl : Lw w (W2.alloc (.cells C.toArray 38)) A C.toArray a0 a1 W2.heap.size := by
        have xa := Ext.alloc NoB W2 (.cells C.toArray 38)
        exact ⟨xa.obj hA2 id, xa.cell c0 id, xa.cell c1 id, heapNew _ _, y2.then xa⟩
      generalize W2.alloc (.cells C.toArray 38) = W3 at hl ⊢
      generalize W2.heap.size = g at hl ⊢
      clear hA2 hC2 c0 c1 y2 hr2 W2
      have c0 := hl.at0
      have c1 := hl.at1
      go_upto_region 7 with (first
        | ((with_reducible show wpList _ _ _ (⟨_, .load 23 _, _, _, _, _⟩ :: _) _ _); refine wpList_load_row rfl 23 _ rfl w.heap.size rfl 23 A (0, 0) _ hl.key Try.underlying23 rfl sA ?_)
        | ((with_reducible show wpList _ _ _ (⟨_, .load 38 _, _, _, _, _⟩ :: _) _ _); refine wpList_load_row rfl 38 _ rfl g rfl 38 C.toArray (0, 0) _ hl.non Try.underlying38 rfl sC' ?_)
        | (go_at_call 11; refine (HS.out _).mono ?_; rintro e W4 ⟨A4, m4, rfl, b4, x4⟩))
      clear c0 c1
      replace hl := hl.next x4
      clear x4
      have c0 := hl.at0
      have c1 := hl.at1
      go_upto_region 8 with (first
        | ((with_reducible show wpList _ _ _ (⟨_, .load 23 _, _, _, _, _⟩ :: _) _ _); refine wpList_load_row rfl 23 _ rfl w.heap.size rfl 23 A (0, 0) _ hl.key Try.underlying23 rfl sA ?_)
        | ((with_reducible show wpList _ _ _ (⟨_, .load 38 _, _, _, _, _⟩ :: _) _ _); refine wpList_load_row rfl 38 _ rfl g rfl 38 C.toArray (0, 0) _ hl.non Try.underlying38 rfl sC' ?_)
        | (go_at_call 12; refine (HR.out _).mono ?_; rintro e W5 ⟨A5, m5, rfl, b5, x5⟩))
      clear c0 c1
      replace hl := hl.next x5
      replace b4 := b4.ext x5 (fun _ _ _ h => h)
      clear x5
      have c0 := hl.at0
      have c1 := hl.at1
      go_upto_region 9 with (first
        | ((with_reducible show wpList _ _ _ (⟨_, .load 23 _, _, _, _, _⟩ :: _) _ _); refine wpList_load_row rfl 23 _ rfl w.heap.size rfl 23 A (0, 0) _ hl.key Try.underlying23 rfl sA ?_)
        | ((with_reducible show wpList _ _ _ (⟨_, .load 38 _, _, _, _, _⟩ :: _) _ _); refine wpList_load_row rfl 38 _ rfl g rfl 38 C.toArray (0, 0) _ hl.non Try.underlying38 rfl sC' ?_)
        | (go_at_call 13; refine (HX.out hb2 _ _ (hv.ext hl.ext (fun _ _ _ h => h))).mono ?_; rintro e W6 ⟨A6, m6, rfl, b6, x6⟩))
      clear c0 c1
      replace hl := hl.next x6
      replace b4 := b4.ext x6 (fun _ _ _ h => h)
      replace b5 := b5.ext x6 (fun _ _ _ h => h)
      clear x6
      have c0 := hl.at0
      have c1 := hl.at1
      go_upto_region 10 with (first
        | ((with_reducible show wpList _ _ _ (⟨_, .load 23 _, _, _, _, _⟩ :: _) _ _); refine wpList_load_row rfl 23 _ rfl w.heap.size rfl 23 A (0, 0) _ hl.key Try.underlying23 rfl sA ?_)
        | ((with_reducible show wpList _ _ _ (⟨_, .load 38 _, _, _, _, _⟩ :: _) _ _); refine wpList_load_row rfl 38 _ rfl g rfl 38 C.toArray (0, 0) _ hl.non Try.underlying38 rfl sC' ?_)
        | (go_at_call 14; refine (HY.out hb2 _ _ (hv.ext hl.ext (fun _ _ _ h => h))).mono ?_; rintro e W7 ⟨A7, m7, rfl, b7, x7⟩))
      clear c0 c1
      replace hl := hl.next x7
      replace b4 := b4.ext x7 (fun _ _ _ h => h)
      replace b5 := b5.ext x7 (fun _ _ _ h => h)
      replace b6 := b6.ext x7 (fun _ _ _ h => h)
      clear x7
      have s4 := str_bytes b4
      have s5 := str_bytes b5
      have s6 := str_bytes b6
      have s7 := str_bytes b7
      clear b4 b5 b6 b7
      go_wp2_with fail
      go_ret
      exact ⟨rfl, hl.ext⟩
end Go.Proofs.Ytcijbeagegonkaa
