/-
  A block in the program.
-/
import Derived.Test.YtcijbeagegonkaaD
set_option linter.unusedVariables false
namespace Go.Proofs.Ytcijbeagegonkaa
open Go.RowKit

theorem setCells_form (g : Nat) : ∀ (vs : List Value) (o : Nat) (w : World), w.setCells g o vs = { w with heap := (w.setCells g o vs).heap }
  | [], _, _ => rfl
  | v :: vs, o, w => by
    show (w.setCell ⟨g, o, none⟩ v).setCells g (o + 1) vs = _
    rw [setCells_form g vs (o + 1) (w.setCell ⟨g, o, none⟩ v)]
    rfl
/-- A new block, written whole, is a new block of what was written. -/
theorem alloc_set (w : World) (Z : Array Value) (e : TypeId) (V : Array Value) (hl : V.size = Z.size) : (w.alloc (.cells Z e)).setCells w.heap.size 0 V.toList = w.alloc (.cells V e) := by
  rw [setCells_form]
  have : ((w.alloc (.cells Z e)).setCells w.heap.size 0 V.toList).heap = (w.alloc (.cells V e)).heap := by
    apply Array.ext_getElem?
    intro k
    by_cases hk : k = w.heap.size
    · subst hk
      rw [setCells_whole (heapNew w _) V.toList (by simpa using hl), heapNew]
    · rw [setCells_far' _ _ k hk]
      show (w.heap.push _)[k]? = (w.heap.push _)[k]?
      rw [Array.getElem?_push, Array.getElem?_push, if_neg hk, if_neg hk]
  rw [this]
  rfl
theorem there_new (w : World) (Z : Array Value) (e : TypeId) (n : Nat) (hn : n = Z.size) : (w.alloc (.cells Z e)).there w.heap.size 0 n := fun j hj => by
  have hb := heapNew w (.cells Z e)
  refine ⟨?_, freeOf hb _⟩
  rw [cellOf hb, Array.getElem?_eq_getElem (by omega)]; rfl

theorem wpList_store_new {P : Program} {ops : Array Oper} {rest : List Oper} {op : Oper} {a : Act} {w : World} {Q : Exit → Act → World → Prop} {Z : Array Value} {e : TypeId} (hgd : op.guard = none) (ty : TypeId) (x y : Operand) (ho : op.op = .store ty x y)
    (g : Nat) (V : Array Value) (hx : a.eval x = .pointer (some ⟨g, 0, none⟩)) (hy : a.eval y = .agg V) (hg : g = w.heap.size) (hl : V.size = Z.size)
    (hi : (P.info? ty).map (·.size) = some V.size) (h1 : V.all (·.oneCell') = true)
    (h : wpList P ops Q rest (a.put op.dst undef) (w.alloc (.cells V e))) : wpList P ops Q (op :: rest) a (w.alloc (.cells Z e)) := by
  subst hg
  refine wpList_store_mid hgd ty x y ho w.heap.size 0 V hx hy (there_new _ _ _ _ hl) hi h1 ?_
  rw [alloc_set _ _ _ _ hl]
  exact h

/-- A cell of an array of words by value. -/
theorem index_arr {P : Program} (w : World) (t e : TypeId) (n : Nat) (cs : Array Value) (k : Nat) (x : Value) (h : P.underlying t = some (.array n e)) (he : P.underlying e = some (.int .u32)) {i : TypeInfo} (hi : P.info? e = some i) (hs : i.size = 1) (hk : k < n) (hx : cs[k]? = some x)
  : (Instr.index t (.agg cs) (.int .i64 (k : Int))).run P w = .ok x w := by
  have h1 : (0 : Int) ≤ k ∧ (k : Int) < n := by omega
  simp [Instr.index, run_underlying h, asIntOf, h1, go_sem, sizeOf, typeInfo, hi, hs, hk, isAgg, run_underlying he, hx]
theorem Try.index47 (w : World) (s : List Int) (hl : s.length = 16) (k : Nat) (hk : k < 16) : (Instr.index 47 (.agg (vals s).toArray) (.int .i64 (k : Int))).run Try.prog w = .ok (.int .u32 (s.getD k 0)) w :=
  index_arr w 47 25 16 _ k _ Try.underlying47 Try.underlying25 (i := (Try.prog.info? 25).getD default) (by kernel_rfl) (by kernel_rfl) hk (by rw [List.getElem?_toArray]; exact vals_at (by omega))

/-- Twenty rounds. -/
def rounds : Nat → List Int → List Int
  | 0, s => s
  | n + 1, s => dbl (rounds n s)
theorem rounds_ok {s : List Int} (h : Sixteen s) : ∀ n, Sixteen (rounds n s)
  | 0 => h
  | n + 1 => dbl_ok (rounds_ok h n)
/-- Byte k of a word. -/
def byt (x : Int) (k : Nat) : Int := x / 2 ^ (8 * k) % 256
def outB (s f : List Int) : List Int := (List.range 64).map fun i => byt (plus (s.getD (i / 4) 0) (f.getD (i / 4) 0)) (i % 4)
def blk (K N : List Int) (c : Int) : List Int := outB (rounds 10 (firstW K N c)) (firstW K N c)

theorem bys_one (s : List Int) : ∀ u ∈ bys s, u.oneCell' = true := by
  intro u hu
  obtain ⟨x, _, rfl⟩ := List.mem_map.1 hu
  rfl
theorem outB_length (s f : List Int) : (outB s f).length = 64 := by simp [outB]
theorem outB_at (s f : List Int) (k m : Nat) (hk : k < 16) (hm : m < 4) : (outB s f).getD (4 * k + m) 0 = byt (plus (s.getD k 0) (f.getD k 0)) m := by
  have h1 : (4 * k + m) / 4 = k := by omega
  have h2 : (4 * k + m) % 4 = m := by omega
  have h3 : 4 * k + m < 64 := by omega
  unfold outB
  rw [List.getD_eq_getElem?_getD, List.getElem?_map, List.getElem?_range h3]
  simp only [Option.map_some, Option.getD_some, h1, h2]
theorem blockSet {w : World} {g : Nat} {e : TypeId} {s : List Int} (h : w.heap[g]? = some (.cells (bys s).toArray e (0, 0))) (i : Nat) (x : Int) : (w.setCell ⟨g, i, none⟩ (.int .u8 x)).heap[g]? = some (.cells (bys (s.set i x)).toArray e (0, 0)) := by
  rw [heapSet h]
  simp [bys, List.map_set]

set_option maxHeartbeats 1600000 in
theorem block9 (K N : List Int) (c : Int) (hK : K.length = 32) (hN : N.length = 12) (bK : Bs K) (bN : Bs N) (hc : U c) (w : World) :
    Calls Try.prog 9 #[Arr K, Arr N, .int .u32 c] w fun e w' => e = .returned (Arr (blk K N c)) ∧ Ext NoB w w' := by
  obtain ⟨A, hA⟩ : ∃ A, A = (bys K).toArray := ⟨_, rfl⟩
  obtain ⟨C, hC⟩ : ∃ C, C = (bys N).toArray := ⟨_, rfl⟩
  have sA : (Try.prog.info? 23).map (·.size) = some A.size := by rw [hA, List.size_toArray, bys_length, hK]; exact Try.size23
  have sC : (Try.prog.info? 38).map (·.size) = some C.size := by rw [hC, List.size_toArray, bys_length, hN]; exact Try.size38
  have hbeg := begin15 K N c hK hN bK bN hc
  unfold Arr at hbeg ⊢
  rw [← hA, ← hC] at hbeg ⊢
  clear hA hC
  obtain ⟨F, hF⟩ : ∃ F, F = firstW K N c := ⟨_, rfl⟩
  have e3 : blk K N c = outB (rounds 10 F) F := by rw [hF]; rfl
  have hFF : Sixteen F := by rw [hF]; exact firstW_ok K N c hc
  rw [e3]
  rw [← hF] at hbeg
  clear e3 hF
  go_enter Try.func9, Try.ntmps9
  go_upto_region 1 with (fail)
  generalize hW1 : World.alloc (World.alloc (World.alloc w _) _) _ = W1
  have hA1 : W1.heap[w.heap.size]? = some (.cells A 23 (0, 0)) := by
    rw [← hW1, heapAlloc _ _ _ (by simp; omega), heapAlloc _ _ _ (by simp), heapNew]
  have hC1 : W1.heap[w.heap.size + 1]? = some (.cells C 38 (0, 0)) := by
    rw [← hW1, heapAlloc _ _ _ (by simp), heapNew' _ _ _ (by simp)]
  have hR1 : W1.heap[w.heap.size + 1 + 1]? = some (.cells (List.replicate 64 (Value.int .u8 0)).toArray 27 (0, 0)) := by
    rw [← hW1, heapNew' _ _ _ (by simp)]; rfl
  have x1 : Ext NoB w W1 := by rw [← hW1]; exact ((Ext.alloc NoB w _).andAlloc _).andAlloc _
  clear hW1
  go_wp2_with (first
    | (refine wpList_load_row rfl 23 _ rfl w.heap.size rfl 23 A (0, 0) _ hA1 Try.underlying23 rfl sA ?_)
    | (refine wpList_load_row rfl 38 _ rfl (w.heap.size + 1) rfl 38 C (0, 0) _ hC1 Try.underlying38 rfl sC ?_))
  refine (hbeg _).mono ?_
  rintro e W2 ⟨rfl, x2⟩
  have hR2 := x2.obj hR1 (fun h => h)
  replace x2 := x1.then x2
  clear hR1 hA1 hC1
  obtain ⟨V, hV⟩ : ∃ V, V = (vals F).toArray := ⟨_, rfl⟩
  rw [← hV]
  have HV := Lib.hid hV
  have sV : (Try.prog.info? 47).map (·.size) = some V.size := by rw [hV, List.size_toArray, vals_length, hFF.1]; exact Try.size47
  have oV : V.all (·.oneCell') = true := by rw [hV]; exact all_oneCell_toArray (vals_one _)
  have lV : V.size = 16 := by rw [hV, List.size_toArray, vals_length]; exact hFF.1
  clear hV
  go_wp2_with (first
    | (refine wpList_load_row rfl 47 _ rfl W2.heap.size rfl 47 V (0, 0) _ (heapNew _ _) Try.underlying47 rfl sV ?_)
    | (refine wpList_store_new rfl 47 _ _ rfl W2.heap.size V rfl rfl rfl lV sV oV ?_)
    | (refine wpList_store_new rfl 47 _ _ rfl (W2.heap.size + 1) V rfl rfl (by simp) lV sV oV ?_))
  generalize hW3 : World.alloc (World.alloc W2 (.cells V 47)) _ = W3
  have hF3 : W3.heap[W2.heap.size]? = some (.cells V 47 (0, 0)) := by
    rw [← hW3, heapAlloc _ _ _ (by simp), heapNew]
  have hS3 : W3.heap[W2.heap.size + 1]? = some (.cells V 47 (0, 0)) := by
    rw [← hW3, heapNew' _ _ _ (by simp)]
  have hR3 : W3.heap[w.heap.size + 1 + 1]? = some (.cells (List.replicate 64 (Value.int .u8 0)).toArray 27 (0, 0)) := by
    rw [← hW3]; exact ((Ext.alloc NoB W2 _).andAlloc _).obj hR2 (fun h => h)
  have x3 : Ext NoB w W3 := by rw [← hW3]; exact (x2.andAlloc _).andAlloc _
  have z2 := x2.size
  have l2 := blk_lt' hR2
  clear hW3 hR2 x2 x1
  rw [HV.out] at hF3 hS3
  go_loopw [18] (fun i W => ∃ k : Nat, k ≤ 10 ∧ i = .int .i64 k ∧ St W (W2.heap.size + 1) 47 (rounds k F) ∧ Ext (fun k => k = W2.heap.size + 1) W3 W) (fun i _ => 10 - (intOf i).toNat)
  case atStart => exact ⟨0, by omega, rfl, hS3, Ext.refl _ _⟩
  case round =>
    obtain ⟨k, hk, rfl, hst, hx⟩ := hrel
    rcases Nat.lt_or_ge k 10 with hlt | hge
    · go_wp2_with fail
      refine (double16 (W2.heap.size + 1) 47 _ (rounds_ok (hFF) k) _ hst).mono ?_
      rintro e W4 ⟨rfl, h4, x4⟩
      go_wp2_with fail
      exact ⟨⟨k + 1, by omega, by go_num, h4, hx.then x4⟩, by simp [intOf]; omega⟩
    · have hk10 : k = 10 := by omega
      rw [hk10] at hst
      have hF4 := hx.obj hF3 (by omega)
      have hR4 := hx.obj hR3 (by omega)
      have x4 : Ext NoB w wr := x3.trans hx (fun _ _ h => h) (fun k hk h => by omega)
      clear hF3 hS3 hR3 x3 hx hk10
      obtain ⟨S, hS⟩ : ∃ S, S = rounds 10 F := ⟨_, rfl⟩
      rw [← hS] at hst
      have lS : (vals S).toArray.size = 16 := by rw [List.size_toArray, vals_length, hS]; exact (rounds_ok (hFF) 10).1
      have HS := Lib.hid hS
      clear hS
      have sS : (Try.prog.info? 47).map (·.size) = some (vals S).toArray.size := by rw [lS]; exact Try.size47
      go_upto_region 9 with (first | (refine wpList_load_row rfl 47 _ rfl (W2.heap.size + 1) rfl 47 (vals S).toArray (0, 0) _ ((Ext.alloc NoB wr _).obj hst (fun h => h)) Try.underlying47 rfl sS ?_))
      have l4 := blk_lt' hst
      generalize hW5 : World.alloc wr _ = W5
      have hF5 : St W5 W2.heap.size 47 F := by rw [← hW5]; exact (Ext.alloc NoB wr _).obj hF4 (fun h => h)
      have hR5 : W5.heap[w.heap.size + 1 + 1]? = some (.cells (List.replicate 64 (Value.int .u8 0)).toArray 27 (0, 0)) := by rw [← hW5]; exact (Ext.alloc NoB wr _).obj hR4 (fun h => h)
      have hO5 : W5.heap[wr.heap.size]? = some (.cells (bys (List.replicate 64 0)).toArray 27 (0, 0)) := by rw [← hW5, heapNew' _ _ _ rfl]; rfl
      have x5 : Ext NoB w W5 := by rw [← hW5]; exact x4.andAlloc _
      clear hW5 hR4 hF4 x4 hst
      have hSS : Sixteen S := by rw [HS.out]; exact rounds_ok (hFF) 10
      generalize hb9 : wr.heap.size = b9 at hO5 l4 ⊢
      clear hb9
      go_loopw [23] (fun i W => ∃ (k : Nat) (o : List Int), k ≤ 16 ∧ i = .int .i64 k ∧ o.length = 64 ∧ (∀ j, j < 4 * k → o.getD j 0 = (outB S F).getD j 0) ∧ W.heap[b9]? = some (.cells (bys o).toArray 27 (0, 0)) ∧ Ext (fun k => k = b9) W5 W) (fun i _ => 16 - (intOf i).toNat)
      case atStart => exact ⟨0, List.replicate 64 0, by omega, rfl, by simp, fun j hj => by omega, hO5, Ext.refl _ _⟩
      case round =>
        clear hge hk hO5
        obtain ⟨k, o, hk, rfl, ho, hpre, hO, hx⟩ := hrel
        rcases Nat.lt_or_ge k 16 with hlt | hge
        · have hF6 := hx.obj hF5 (by omega)
          have c7 := cellOf hF6 k
          rw [List.getElem?_toArray, vals_at (by have := hFF.1; omega)] at c7
          have hSl := hSS.1
          obtain ⟨sx0, sx1⟩ := hSS.at hlt
          obtain ⟨fx0, fx1⟩ := hFF.at hlt
          have hix := Try.index47 wr S hSl k hlt
          generalize hX : S.getD k 0 = X at hix sx0 sx1
          generalize hY : F.getD k 0 = Y at c7 fx0 fx1
          have HX := Lib.hid hX
          have HY := Lib.hid hY
          clear hX hY
          go_wp2_with fail
          obtain ⟨Z, hZ⟩ : ∃ Z, Z = (X + Y) % 4294967296 := ⟨_, rfl⟩
          rw [← hZ]
          have z0 : 0 ≤ Z := by omega
          have z1 : Z < 4294967296 := by omega
          have HZ := Lib.hid hZ
          clear hZ hix c7 sx0 sx1 fx0 fx1
          go_loopw [32] (fun i W => ∃ (m : Nat) (o : List Int), m ≤ 4 ∧ i = .int .i64 m ∧ o.length = 64 ∧ (∀ j, j < 4 * k + m → o.getD j 0 = (outB S F).getD j 0) ∧ W.heap[b9]? = some (.cells (bys o).toArray 27 (0, 0)) ∧ Ext (fun k => k = b9) W5 W) (fun i _ => 4 - (intOf i).toNat)
          case atStart => exact ⟨0, o, by omega, rfl, ho, fun j hj => hpre j (by omega), hO, hx⟩
          case round =>
            clear hO hx hpre ho
            obtain ⟨m, o, hm, rfl, ho, hpre, hO, hx⟩ := hrel
            rcases Nat.lt_or_ge m 4 with hlm | hgm
            · have co := cellOf hO (4 * k + m)
              rw [List.getElem?_toArray, bys_at (by omega)] at co
              have fo := freeOf hO (4 * k + m)
              have hnext : ∀ x, x = byt Z m → (∀ j, j < 4 * k + (m + 1) → (o.set (4 * k + m) x).getD j 0 = (outB S F).getD j 0) := fun x hx j hj => by
                rw [getD_set]
                by_cases he : 4 * k + m = j
                · rw [if_pos he, if_pos (by omega), ← he, outB_at S F k m hlt hlm, HX.out, HY.out, hx, HZ.out]
                  rfl
                · rw [if_neg he, hpre j (by omega)]
              have hnb := fun x => blockSet hO (4 * k + m) x
              have hnx : ∀ x, Ext (fun k => k = b9) W5 (wr.setCell ⟨b9, 4 * k + m, none⟩ (.int .u8 x)) := fun x => hx.andSet _ _ fun _ => rfl
              have hlen : ∀ x : Int, (o.set (4 * k + m) x).length = 64 := fun x => by rw [List.length_set]; exact ho
              have hm4 : m = 0 ∨ m = 1 ∨ m = 2 ∨ m = 3 := by omega
              clear hO hx hpre hlm hm
              rcases hm4 with rfl | rfl | rfl | rfl
              · simp only [Nat.add_zero] at co fo hnext hnb hnx hlen
                go_wp2_with fail
                exact ⟨⟨1, o.set (4 * k) (Z % 256), by omega, by go_num, hlen _, hnext _ (by simp [byt]), hnb _, hnx _⟩, by simp [intOf]⟩
              · go_wp2_with fail
                exact ⟨⟨2, o.set (4 * k + 1) (Z / 256 % 256), by omega, by go_num, hlen _, hnext _ (by simp [byt]), hnb _, hnx _⟩, by simp [intOf]⟩
              · go_wp2_with fail
                exact ⟨⟨3, o.set (4 * k + 2) (Z / 65536 % 256), by omega, by go_num, hlen _, hnext _ (by simp [byt]), hnb _, hnx _⟩, by simp [intOf]⟩
              · go_wp2_with fail
                exact ⟨⟨4, o.set (4 * k + 3) (Z / 16777216), by omega, by go_num, hlen _, hnext _ (by simp [byt]; omega), hnb _, hnx _⟩, by simp [intOf]⟩
            · go_wp2_with fail
              exact ⟨⟨k + 1, o, by omega, by go_num, ho, fun j hj => hpre j (by omega), hO, hx⟩, by simp [intOf]; omega⟩
        · have hoF : o = outB S F := ext_getD (by rw [ho, outB_length]) fun j hj => hpre j (by omega)
          have hR6 := hx.obj hR5 (by omega)
          have x6 : Ext NoB w wr := x5.trans hx (fun _ _ h => h) (fun k hk h => by omega)
          obtain ⟨D, hD⟩ : ∃ D, D = (bys o).toArray := ⟨_, rfl⟩
          rw [← hD] at hO
          have lD : D.size = 64 := by rw [hD, List.size_toArray, bys_length, ho]
          have sD : (Try.prog.info? 27).map (·.size) = some D.size := by rw [lD]; exact Try.size27
          have oD : D.all (·.oneCell') = true := by rw [hD]; exact all_oneCell_toArray (bys_one _)
          have hth : wr.there (w.heap.size + 1 + 1) 0 D.size := fun j hj => ⟨by rw [cellOf hR6, Array.getElem?_eq_getElem (by rw [lD] at hj; simpa using hj)]; rfl, freeOf hR6 _⟩
          have hend : (wr.setCells (w.heap.size + 1 + 1) 0 D.toList).heap[w.heap.size + 1 + 1]? = some (.cells D 27 (0, 0)) := by
            have := setCells_whole hR6 D.toList (by rw [Array.length_toList, lD]; simp)
            simpa using this
          have hDF : D = (bys (outB (rounds 10 F) F)).toArray := by rw [hD, hoF, HS.out]
          clear hD hoF hpre
          go_wp2_with (first
            | (refine wpList_load_row rfl 27 _ rfl b9 rfl 27 D (0, 0) _ hO Try.underlying27 rfl sD ?_)
            | (refine wpList_store_mid rfl 27 _ _ rfl (w.heap.size + 1 + 1) 0 D rfl rfl hth sD oD ?_))
          refine bodyPost_ret (results_cell_row rfl _ _ (w.heap.size + 1 + 1) 27 D (0, 0) _ rfl hend Try.underlying27 rfl sD) rfl ⟨by rw [hDF], x6.andCells _ _ fun h => absurd h (by omega)⟩
end Go.Proofs.Ytcijbeagegonkaa
