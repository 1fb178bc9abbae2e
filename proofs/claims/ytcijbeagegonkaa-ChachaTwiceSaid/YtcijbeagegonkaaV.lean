/-
  ChachaNoughts returns true: the walk.
-/
import Derived.Test.YtcijbeagegonkaaT
set_option linter.unusedVariables false
set_option linter.unusedSimpArgs false
namespace Go.Proofs.Ytcijbeagegonkaa
open Go.RowKit

theorem xb_nat : ∀ x < 256, ∀ y < 256, xb (x : Nat) (y : Nat) = ((x ^^^ y : Nat) : Int) := by decide +kernel
theorem nat_of_b {a : Int} (h : B a) : ∃ x : Nat, a = x ∧ x < 256 := ⟨a.toNat, by have := h.1; omega, by have := h.1; have := h.2; omega⟩
theorem xor_lt {x y : Nat} (hx : x < 256) (hy : y < 256) : x ^^^ y < 256 := Nat.xor_lt_two_pow (n := 8) hx hy
theorem xb_three (s a b : Int) (hs : B s) (ha : B a) (hb : B b) : xb (xb s a) (xb s b) = xb a b := by
  obtain ⟨x, rfl, hx⟩ := nat_of_b hs
  obtain ⟨y, rfl, hy⟩ := nat_of_b ha
  obtain ⟨z, rfl, hz⟩ := nat_of_b hb
  rw [xb_nat x hx y hy, xb_nat x hx z hz, xb_nat y hy z hz, xb_nat _ (xor_lt hx hy) _ (xor_lt hx hz)]
  congr 1
  rw [Nat.xor_comm x y, Nat.xor_assoc, ← Nat.xor_assoc x x z, Nat.xor_self, Nat.zero_xor]
theorem xb_back (s a : Int) (hs : B s) (ha : B a) : xb (xb s a) s = a := by
  obtain ⟨x, rfl, hx⟩ := nat_of_b hs
  obtain ⟨y, rfl, hy⟩ := nat_of_b ha
  rw [xb_nat x hx y hy, xb_nat _ (xor_lt hx hy) _ hx]
  rw [Nat.xor_comm x y, Nat.xor_assoc, Nat.xor_self, Nat.xor_zero]
theorem xb_zero (s : Int) (hs : B s) : xb s 0 = s := by
  obtain ⟨x, rfl, hx⟩ := nat_of_b hs
  have := xb_nat x hx 0 (by decide)
  rw [Nat.xor_zero] at this
  exact this
theorem xorB_zero (s : List Int) (hs : Bs s) : xorB s (List.replicate s.length 0) = s := by
  have hl : s.length = (List.replicate s.length (0 : Int)).length := by simp
  refine ext_getD (by rw [xorB_length _ _ hl]; simp) fun j hj => ?_
  rw [xorB_length _ _ hl] at hj
  rw [xorB_at _ _ hl hj]
  simp at hj
  have : (List.replicate s.length (0 : Int)).getD j 0 = 0 := by simp [List.getD_eq_getElem?_getD, List.getElem?_replicate, hj]
  rw [this, xb_zero _ (hs.at hj)]
/-- The boxes of the key and of the nonce. -/
structure Nw (w W : World) (A C : Array Value) (g : Nat) : Prop where
  key : W.heap[w.heap.size]? = some (.cells A 23 (0, 0))
  non : W.heap[g]? = some (.cells C 38 (0, 0))
  ext : Ext NoB w W
theorem Nw.next {w W W' : World} {A C : Array Value} {g : Nat} (h : Nw w W A C g) (hx : Ext NoB W W') : Nw w W' A C g := ⟨hx.obj h.key id, hx.obj h.non id, h.ext.then hx⟩
theorem made_bytes {W W' : World} {n base : Nat} (h : W'.ownsRow base 5 1 (.slice (some ⟨W.heap.size, 0, none⟩) n n) n (madeCells (Value.int .u8 0).cells (n * 1)).toList) : Bytes W' (.slice (some ⟨W.heap.size, 0, none⟩) n n) (List.replicate n 0) := by
  have := QRow.ofOwn h
  refine Bytes.ofRow (e := 5) (n := n) ?_
  have e : (madeCells (Value.int .u8 0).cells (n * 1)).toList = (List.replicate n (0 : Int)).map (Value.int .u8) := by
    simp only [madeCells, Value.cells, Nat.mul_one, Array.toList_map, Array.toList_range, List.map_replicate]
    rw [List.eq_replicate_iff]
    refine ⟨by simp, fun v hv => ?_⟩
    obtain ⟨i, _, rfl⟩ := List.mem_map.1 hv
    simp [Nat.mod_one]
  rw [← e]
  exact this

set_option maxHeartbeats 3200000 in
set_option maxRecDepth 100000 in
theorem noughts_walk (K al bs : List Int) (hK : K.length = 32) (bK : Bs K) (bA : Bs al) (bB : Bs bs) (va vb : Value) (w : World) (ha : Bytes w va al) (hb : Bytes w vb bs) :
    Calls Try.prog 7 #[Arr K, va, vb] w fun e w' => e = .returned (.bool true) ∧ Ext NoB w w' := by
  obtain ⟨Aa, ma, rfl, ha1, ha2, _⟩ := ha.shape
  obtain ⟨Ab, mb, rfl, hb1, hb2, _⟩ := hb.shape
  have hA63 : al.length ≤ 9223372036854775807 := by have := ha2; unfold maxLen at this; omega
  have hB63 : bs.length ≤ 9223372036854775807 := by have := hb2; unfold maxLen at this; omega
  by_cases hlet : 2000 < al.length ∨ al.length ≠ bs.length
  · obtain ⟨A, hA⟩ : ∃ A, A = (bys K).toArray := ⟨_, rfl⟩
    unfold Arr
    rw [← hA]
    clear hA
    by_cases h2 : 2000 < al.length
    · have d1 : (2000 : Int) < (al.length : Int) := by omega
      go_enter Try.func7, Try.ntmps7
      go_wp2_with (first | (go_at_call 8; refine (alive_any _).mono ?_; rintro e W2 ⟨rfl, x2⟩))
      go_ret
      exact ⟨rfl, (Ext.alloc NoB w _).then x2⟩
    · have d1 : (al.length : Int) ≤ 2000 := by omega
      have d2 : (((al.length : Int)) != (bs.length : Int)) = true := by simp; omega
      have d3 : al.length ≠ bs.length := by omega
      go_enter Try.func7, Try.ntmps7
      go_wp2_with (first | (go_at_call 8; refine (alive_any _).mono ?_; rintro e W2 ⟨rfl, x2⟩))
      go_ret
      exact ⟨rfl, (Ext.alloc NoB w _).then x2⟩
  · have hl1 : al.length ≤ 2000 := by omega
    have hl2 : bs.length = al.length := by omega
    have hN : (K.take 12).length = 12 := by rw [List.length_take]; omega
    have bN : Bs (K.take 12) := fun x hx => bK x (List.mem_of_mem_take hx)
    have hc : U 3 := by constructor <;> decide
    have hs := stream_fine K (K.take 12) 3 al.length hK hN bK bN hc (by omega) (by omega)
    have hz := xor_fine K (K.take 12) 3 (List.replicate al.length 0) hK hN bK bN hc (fun x hx => by rw [List.eq_of_mem_replicate hx]; constructor <;> decide) (by simp; omega) (by simp; omega)
    have hx := xor_fine K (K.take 12) 3 al hK hN bK bN hc bA (by omega) (by omega)
    have hy := xor_fine K (K.take 12) 3 bs hK hN bK bN hc bB (by omega) (by omega)
    rw [List.length_replicate] at hz
    rw [hl2] at hy
    have lS : (strB K (K.take 12) 3 al.length).length = al.length := strB_length _ _ _ _
    have bS := strB_b K (K.take 12) 3 al.length
    generalize strB K (K.take 12) 3 al.length = S at hs hz hx hy lS bS
    obtain ⟨A', hA⟩ : ∃ A', A' = bys K := ⟨_, rfl⟩
    obtain ⟨C, hC⟩ : ∃ C, C = bys (K.take 12) := ⟨_, rfl⟩
    have lA : A'.length = 32 := by rw [hA, bys_length, hK]
    have sA' : (Try.prog.info? 23).map (·.size) = some A'.length := by rw [lA]; exact Try.size23
    have lC : C.length = 12 := by rw [hC, bys_length, hN]
    have sC : (Try.prog.info? 38).map (·.size) = some C.length := by rw [lC]; exact Try.size38
    have sC' : (Try.prog.info? 38).map (·.size) = some C.toArray.size := by rw [List.size_toArray, lC]; exact Try.size38
    have oC : C.toArray.all (·.oneCell') = true := by rw [hC]; exact all_oneCell_toArray (bys_one _)
    have u23 := Try.underlying23
    have u38 := Try.underlying38
    unfold Arr at hs hz hx hy ⊢
    rw [← hA, ← hC] at hs hz hx hy
    rw [← hA]
    have hpre : ∀ (W : World) (g : Nat), W.heap[g]? = some (.cells A'.toArray 23 (0, 0)) → W.rangeAt g 0 C := fun W g h j u hu => by
      rw [cellOf h, Nat.zero_add, hA, List.getElem?_toArray]
      rw [hC] at hu
      simp only [bys, List.map_take, List.getElem?_take] at hu ⊢
      split at hu
      · exact hu
      · cases hu
    have hpt := fun W => Try.arr38 w.heap.size W
    have HP := Lib.hid hpre
    have HS := Lib.hid hs
    have HZ := Lib.hid hz
    have HX := Lib.hid hx
    have HY := Lib.hid hy
    have HL2 := Lib.hid hl2
    have d1 : (al.length : Int) ≤ 2000 := by omega
    have d2 : (((al.length : Int)) != (bs.length : Int)) = false := by simp; omega
    clear hpre hA hC hs hz hx hy hl2 hlet
    generalize hAA : A'.toArray = A at HS HZ HX HY HP ⊢
    have sA : (Try.prog.info? 23).map (·.size) = some A.size := by rw [← hAA, List.size_toArray, lA]; exact Try.size23
    have HAA := Lib.hid hAA
    clear hAA
    go_enter Try.func7, Try.ntmps7
    go_upto_region 1 with (fail)
    generalize hW1 : World.alloc w _ = W1
    have hA1 : W1.heap[w.heap.size]? = some (.cells A 23 (0, 0)) := by rw [← hW1, heapNew]
    have x1 : Ext NoB w W1 := by rw [← hW1]; exact Ext.alloc NoB w _
    clear hW1
    go_upto_region 5 with (first
      | (go_at_call 8; refine (alive_any _).mono ?_; rintro e W2 ⟨rfl, x2⟩; have hA2 := x2.obj hA1 (fun h => h); have y2 := x1.then x2; clear hA1 x1 x2))
    have hr2 := HP.out _ _ hA2
    go_upto_region 6 with (first
      | ((with_reducible show wpList _ _ _ (⟨_, .load 38 _, _, _, _, _⟩ :: _) _ _); refine wpList_load_mid rfl 38 _ rfl w.heap.size 0 rfl C _ hr2 Try.underlying38 rfl sC ?_)
      | ((with_reducible show wpList _ _ _ (⟨_, .store 38 _ _, _, _, _, _⟩ :: _) _ _); refine wpList_store_new rfl 38 _ _ rfl W2.heap.size C.toArray rfl rfl rfl (by rw [List.size_toArray, lC]; rfl) sC' oC ?_))
    have hl : Nw w (W2.alloc (.cells C.toArray 38)) A C.toArray W2.heap.size := by
      have xa := Ext.alloc NoB W2 (.cells C.toArray 38)
      exact ⟨xa.obj hA2 id, heapNew _ _, y2.then xa⟩
    generalize W2.alloc (.cells C.toArray 38) = W3 at hl ⊢
    generalize W2.heap.size = g at hl ⊢
    clear hA2 y2 hr2 W2
    go_upto_region 7 with (first
      | ((with_reducible show wpList _ _ _ (⟨_, .load 23 _, _, _, _, _⟩ :: _) _ _); refine wpList_load_row rfl 23 _ rfl w.heap.size rfl 23 A (0, 0) _ hl.key Try.underlying23 rfl sA ?_)
      | ((with_reducible show wpList _ _ _ (⟨_, .load 38 _, _, _, _, _⟩ :: _) _ _); refine wpList_load_row rfl 38 _ rfl g rfl 38 C.toArray (0, 0) _ hl.non Try.underlying38 rfl sC' ?_)
      | (go_at_call 11; refine (HS.out _).mono ?_; rintro e W4 ⟨A4, m4, rfl, q4, x4, _⟩))
    replace hl := hl.next x4
    clear x4
    have hkey := hl.key
    rw [← HAA.out] at hkey
    have rA := rangeOf hkey
    have rC := rangeOf hl.non
    clear hkey
    refine wp_region_held_drew (S := fun W => W.rangeAt w.heap.size 0 A' ∧ W.rangeAt g 0 C) (by kernel_rfl) ⟨rA, rC⟩ (fun hHeld => ?_)
    clear rA rC
    refine' wpAnyH_take (i := 0) (v := _) rfl (by kernel_rfl) (by kernel_rfl) (by kernel_rfl) (fun _ _ _ h => h) (yieldsIf_load_mid (by rfl) 23 _ (by rfl) (w.heap.size) 0 (by rfl) A' _ (fun w h => h.1) u23 (by rfl) sA') (by assumption) ?_
    simp only [Act.put, List.setIfInBounds_toArray, List.set_cons_zero, List.set_cons_succ]
    refine' wpAnyH_take (i := 1) (v := _) rfl (by kernel_rfl) (by kernel_rfl) (by kernel_rfl) (fun _ _ _ h => h) (yieldsIf_load_mid (by rfl) 38 _ (by rfl) g 0 (by rfl) C _ (fun w h => h.2) u38 (by rfl) sC) (by assumption) ?_
    simp only [Act.put, List.setIfInBounds_toArray, List.set_cons_zero, List.set_cons_succ]
    refine' wpAnyH_take (i := 2) (v := .slice Aa al.length ma) rfl (by kernel_rfl) (by kernel_rfl) (by kernel_rfl) (fun _ _ _ h => h) (Or.inl ⟨by rfl, fun w hSw => by go_simp⟩) (by assumption) ?_
    simp only [Act.put, List.setIfInBounds_toArray, List.set_cons_zero, List.set_cons_succ]
    refine' wpAnyH_take (i := 3) (v := .int .i64 al.length) rfl (by kernel_rfl) (by kernel_rfl) (by kernel_rfl) (fun _ _ _ h => h) (Or.inl ⟨by rfl, fun w hSw => by go_simp⟩) (by assumption) ?_
    simp only [Act.put, List.setIfInBounds_toArray, List.set_cons_zero, List.set_cons_succ]
    obtain ⟨i0, hi0, hz0, hz1, hz2⟩ := info_parts Try.info5
    obtain ⟨W5, hrun, own5, grow5⟩ := run_make_full (P := Try.prog) W4.drew 0 32 5 i0 _ 1 Try.underlying32 hi0 hz0 hz1 .i64 .i64 al.length (by rw [hz2]; omega) (by unfold maxLen; omega) (Nat.zero_le _)
    have x5 : Ext NoB W4 W5 := (Ext.drew NoB W4).then ((Ext.ofGrown grow5).mono fun k _ h => by cases h)
    have z5 : Bytes W5 (.slice (some ⟨W4.heap.size, 0, none⟩) al.length al.length) (List.replicate al.length 0) := made_bytes own5
    clear own5 grow5 hz0
    refine wpAnyH_ready (rs := [4]) (by kernel_rfl) (by simp) (AllReadyH.cons (by rfl) (fun K hK => ?_) AllReadyH.nil)
    go_simp
    refine hK.out _ _ (keepR x5 (by assumption)) (fun hHeld => ?_)
    clear hK K
    try simp only [Act.put, List.setIfInBounds_toArray, List.set_cons_zero, List.set_cons_succ]
    refine wpAnyH_ready (rs := [5]) (by kernel_rfl) (by simp) (AllReadyH.cons (by rfl) (fun K hK => ?_) AllReadyH.nil)
    go_simp; rw [HAA.out]; (with_reducible refine (HZ.out _ _ z5).mono ?_); intro e W6 hend; obtain ⟨A6, m6, rfl, q6, x6, _⟩ := hend.open; clear hend; rw [List.length_replicate] at q6 ⊢; go_simp
    refine hK.out _ _ (keepR x6 (by assumption)) (fun hHeld => ?_)
    clear hK K
    try simp only [Act.put, List.setIfInBounds_toArray, List.set_cons_zero, List.set_cons_succ]
    refine' wpAnyH_take (i := 6) (v := .tuple #[.slice A6 al.length m6, .int .i64 0]) rfl (by kernel_rfl) (by kernel_rfl) (by kernel_rfl) (fun _ _ _ h => h) (Or.inl ⟨by rfl, fun w hSw => by go_simp⟩) (by assumption) ?_
    simp only [Act.put, List.setIfInBounds_toArray, List.set_cons_zero, List.set_cons_succ]
    refine' wpAnyH_take (i := 7) (v := .slice A6 al.length m6) rfl (by kernel_rfl) (by kernel_rfl) (by kernel_rfl) (fun _ _ _ h => h) (Or.inl ⟨by rfl, fun w hSw => by go_simp⟩) (by assumption) ?_
    simp only [Act.put, List.setIfInBounds_toArray, List.set_cons_zero, List.set_cons_succ]
    refine' wpAnyH_take (i := 8) (v := .int .i64 0) rfl (by kernel_rfl) (by kernel_rfl) (by kernel_rfl) (fun _ _ _ h => h) (Or.inl ⟨by rfl, fun w hSw => by go_simp⟩) (by assumption) ?_
    simp only [Act.put, List.setIfInBounds_toArray, List.set_cons_zero, List.set_cons_succ]
    refine wpAnyH_ready (rs := [9]) (by kernel_rfl) (by simp) (AllReadyH.cons (by rfl) (fun K hK => ?_) AllReadyH.nil)
    go_simp
    refine hK.out _ _ (by assumption) (fun hHeld => ?_)
    clear hK K
    try simp only [Act.put, List.setIfInBounds_toArray, List.set_cons_zero, List.set_cons_succ]
    refine wpAnyH_ready (rs := [10]) (by kernel_rfl) (by simp) (AllReadyH.cons (by rfl) (fun K hK => ?_) AllReadyH.nil)
    go_simp
    refine hK.out _ _ (by assumption) (fun hHeld => ?_)
    clear hK K
    try simp only [Act.put, List.setIfInBounds_toArray, List.set_cons_zero, List.set_cons_succ]
    refine wpAnyH_done (by kernel_rfl) ?_ _
    clear hHeld hrun z5
    replace hl := (hl.next x5).next x6
    have b4 := (Bytes.ofRow q4).ext (x5.then x6) (fun _ _ _ h => h)
    have b6 := Bytes.ofRow q6
    rw [show xorB S (List.replicate al.length 0) = S by rw [← lS]; exact xorB_zero S bS] at b6
    clear x5 x6 q4 q6 HS HZ
    go_upto_region 9 with (first
      | ((with_reducible show wpList _ _ _ (⟨_, .load 23 _, _, _, _, _⟩ :: _) _ _); refine wpList_load_row rfl 23 _ rfl w.heap.size rfl 23 A (0, 0) _ hl.key Try.underlying23 rfl sA ?_)
      | ((with_reducible show wpList _ _ _ (⟨_, .load 38 _, _, _, _, _⟩ :: _) _ _); refine wpList_load_row rfl 38 _ rfl g rfl 38 C.toArray (0, 0) _ hl.non Try.underlying38 rfl sC' ?_)
      | (go_at_call 13; (with_reducible refine (HX.out _ _ (ha.ext hl.ext (fun _ _ _ h => h))).mono ?_); intro e W7 hend; obtain ⟨A7, m7, rfl, q7, x7, _⟩ := hend.open; clear hend))
    replace hl := hl.next x7
    replace b4 := b4.ext x7 (fun _ _ _ h => h)
    replace b6 := b6.ext x7 (fun _ _ _ h => h)
    have b7 := Bytes.ofRow q7
    clear x7 q7 HX
    go_upto_region 10 with (first
      | ((with_reducible show wpList _ _ _ (⟨_, .load 23 _, _, _, _, _⟩ :: _) _ _); refine wpList_load_row rfl 23 _ rfl w.heap.size rfl 23 A (0, 0) _ hl.key Try.underlying23 rfl sA ?_)
      | ((with_reducible show wpList _ _ _ (⟨_, .load 38 _, _, _, _, _⟩ :: _) _ _); refine wpList_load_row rfl 38 _ rfl g rfl 38 C.toArray (0, 0) _ hl.non Try.underlying38 rfl sC' ?_)
      | (go_at_call 13; refine (HY.out _ _ (hb.ext hl.ext (fun _ _ _ h => h))).mono ?_; intro e W8 hend; obtain ⟨A8, m8, rfl, q8, x8, _⟩ := hend.open; clear hend))
    replace hl := hl.next x8
    replace b4 := b4.ext x8 (fun _ _ _ h => h)
    replace b6 := b6.ext x8 (fun _ _ _ h => h)
    replace b7 := b7.ext x8 (fun _ _ _ h => h)
    have b8 := Bytes.ofRow q8
    clear x8 q8 HY
    have t4 := str_bytes b4
    have t6 := str_bytes b6
    have b7' := b7
    have b8' := b8
    have HB4 := Lib.hid b4
    have HB7 := Lib.hid b7
    have HB8 := Lib.hid b8
    have hE := hl.ext
    have HE := Lib.hid hE
    clear b4 b6 b7 b8 b7' b8' hE hl
    go_wp2_with fail
    clear t4 t6
    go_loopw [93] (fun i W => ∃ (k : Nat), k ≤ al.length ∧ i = .int .i64 k ∧ Ext NoB W8 W) (fun i _ => al.length - (intOf i).toNat)
    case atStart => exact ⟨0, by omega, rfl, Ext.refl _ _⟩
    case round =>
      obtain ⟨k, hk, rfl, hx⟩ := hrel
      rcases Nat.lt_or_ge k al.length with hlt | hge
      · have lX := xorB_length S al lS
        have lY := xorB_length S bs (by rw [lS, HL2.out])
        have h2 := HL2.out
        obtain ⟨g4, o4, c4, v4, _, p4⟩ := HB4.out.plain (by omega)
        obtain ⟨g7, o7, c7, v7, _, p7⟩ := HB7.out.plain (by omega)
        obtain ⟨g8, o8, c8, v8, _, p8⟩ := HB8.out.plain (by omega)
        obtain ⟨ga, oa, ca, va, _, pa⟩ := ha.plain (by omega)
        obtain ⟨gb, ob, cb, vb, _, pb⟩ := hb.plain (by omega)
        obtain rfl : A4 = some ⟨g4, o4, none⟩ := by injection v4
        obtain rfl : A7 = some ⟨g7, o7, none⟩ := by injection v7
        obtain rfl : A8 = some ⟨g8, o8, none⟩ := by injection v8
        obtain rfl : Aa = some ⟨ga, oa, none⟩ := by injection va
        obtain rfl : Ab = some ⟨gb, ob, none⟩ := by injection vb
        clear v4 v7 v8 va vb
        have k4 := hx.cell (p4 k (by omega)) id
        have k7 := hx.cell (p7 k (by omega)) id
        have k8 := hx.cell (p8 k (by omega)) id
        have ka := (HE.out.then hx).cell (pa k (by omega)) id
        have kb := (HE.out.then hx).cell (pb k (by omega)) id
        rw [xorB_at S al lS hlt] at k7
        rw [xorB_at S bs (by rw [lS, h2]) (by omega)] at k8
        have bs0 := bS.at (i := k) (by omega)
        have ba0 := bA.at (i := k) (by omega)
        have bb0 := bB.at (i := k) (by omega)
        have e1 : (bits .xor .u8 (xb (S.getD k 0) (al.getD k 0)) (xb (S.getD k 0) (bs.getD k 0)) != bits .xor .u8 (al.getD k 0) (bs.getD k 0)) = false := by
          have := xb_three _ _ _ bs0 ba0 bb0
          unfold xb at this ⊢
          rw [this]; simp
        have e2 : (bits .xor .u8 (xb (S.getD k 0) (al.getD k 0)) (S.getD k 0) != al.getD k 0) = false := by
          have := xb_back _ _ bs0 ba0
          unfold xb at this ⊢
          rw [this]; simp
        have n1 : (k : Int) < (al.length : Int) := by omega
        have n2 : (k : Int) < (bs.length : Int) := by omega
        have bX := xb_b (S.getD k 0) (al.getD k 0)
        have bY := xb_b (S.getD k 0) (bs.getD k 0)
        generalize xb (S.getD k 0) (al.getD k 0) = X at k7 e1 e2 bX
        generalize xb (S.getD k 0) (bs.getD k 0) = Y at k8 e1 bY
        generalize S.getD k 0 = s at k4 e2 bs0
        generalize al.getD k 0 = a at ka e1 e2 ba0
        generalize bs.getD k 0 = b at kb e1 bb0
        obtain ⟨z0, z1⟩ := bX
        obtain ⟨z2, z3⟩ := bY
        obtain ⟨z4, z5⟩ := bs0
        obtain ⟨z6, z7⟩ := ba0
        obtain ⟨z8, z9⟩ := bb0
        clear lX lY h2 p4 p7 p8 pa pb ha hb
        go_wp2_with fail
        go_quiet (fail)
        have hx2 : Ext NoB W8 (wr.drewN nq) := hx.then (Ext.drewN NoB wr nq)
        clear k4 k7 k8 ka kb e1 e2 n1 n2 hx
        go_wp2_with fail
        exact ⟨⟨k + 1, by omega, by go_num, hx2⟩, by simp [intOf]; omega⟩
      · go_wp2_with fail
        go_ret
        exact ⟨rfl, HE.out.then hx⟩
end Go.Proofs.Ytcijbeagegonkaa
