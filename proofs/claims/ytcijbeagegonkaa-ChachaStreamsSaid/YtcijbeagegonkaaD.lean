/-
  A block's first words in the program.
-/
import Derived.Test.YtcijbeagegonkaaC
import Derived.Deep.MidRow
import Derived.Deep.CutRange
set_option linter.unusedVariables false
namespace Go.Proofs.Ytcijbeagegonkaa
open Go.RowKit

def bys (s : List Int) : List Value := s.map (Value.int .u8)
abbrev Arr (s : List Int) : Value := .agg (bys s).toArray
theorem bys_length (s : List Int) : (bys s).length = s.length := by simp [bys]
theorem bys_at {s : List Int} {i : Nat} (hi : i < s.length) : (bys s)[i]? = some (.int .u8 (s.getD i 0)) := by
  simp [bys, List.getElem?_eq_getElem hi]
def Bs (s : List Int) : Prop := ∀ x ∈ s, B x
theorem Bs.at {s : List Int} (h : Bs s) {i : Nat} (hi : i < s.length) : B (s.getD i 0) := by
  rw [List.getD_eq_getElem?_getD, List.getElem?_eq_getElem hi]
  exact h _ (List.getElem_mem hi)

theorem Try.size47 : (Try.prog.info? 47).map (·.size) = some 16 := by kernel_rfl
theorem Try.size23 : (Try.prog.info? 23).map (·.size) = some 32 := by kernel_rfl
theorem Try.size24 : (Try.prog.info? 24).map (·.size) = some 12 := by kernel_rfl
theorem Try.size38 : (Try.prog.info? 38).map (·.size) = some 12 := by kernel_rfl
theorem Try.size27 : (Try.prog.info? 27).map (·.size) = some 64 := by kernel_rfl

section
variable {P : Program}
/-- A whole block is read by value. -/
theorem load_whole {w : World} {g : Nat} {e : TypeId} {cs : List Value} (hb : w.heap[g]? = some (.cells cs.toArray e (0, 0))) (ty : TypeId) (d : TypeDesc)
    (hu : P.underlying ty = some d) (hd : d.isRow = true) (hi : (P.info? ty).map (·.size) = some cs.length) :
    (Instr.loadAt ty (.pointer (some ⟨g, 0, none⟩))).run P w = .ok (.agg cs.toArray) w :=
  run_loadAt_mid w g 0 ty cs d (fun j v hv => by rw [cellOf hb]; simpa using hv) hu hd hi
/-- A whole block is written by value. -/
theorem store_whole {w : World} {g : Nat} {e : TypeId} {cur : Array Value} (hb : w.heap[g]? = some (.cells cur e (0, 0))) (ty : TypeId) (cs : List Value) (hl : cs.length = cur.size)
    (hi : (P.info? ty).map (·.size) = some cs.length) (h1 : ∀ v ∈ cs, v.oneCell' = true) :
    (Instr.storeAt ty (.pointer (some ⟨g, 0, none⟩)) (.agg cs.toArray)).run P w = .ok () (w.setCells g 0 cs) := by
  have := run_storeAt_mid (P := P) w g 0 ty cs.toArray (fun j hj => ⟨by
    rw [cellOf hb]
    have : j < cur.size := by simpa [hl] using hj
    simp [this], freeOf hb _⟩) (by simpa using hi) (all_oneCell_toArray h1)
  simpa using this
end
theorem setCells_whole {w : World} {g : Nat} {e : TypeId} {cur : Array Value} (hb : w.heap[g]? = some (.cells cur e (0, 0))) (cs : List Value) (hl : cs.length = cur.size) :
    (w.setCells g 0 cs).heap[g]? = some (.cells cs.toArray e (0, 0)) := by
  obtain ⟨cur', k1, k2, k3⟩ := setCells_row' cs 0 w cur hb (by omega)
  rw [k1]
  have : cur' = cs.toArray := by
    apply Array.ext_getElem?
    intro j
    rw [k3 j]
    by_cases hj : j < cs.length
    · rw [if_pos (by omega)]; simp
    · rw [if_neg (by omega), Array.getElem?_eq_none (by omega)]
      simp; omega
  rw [this]
theorem Ext.andCells {F : Nat → Prop} {a w : World} (h : Ext F a w) (g : Nat) (vs : List Value) (hF : g < a.heap.size → F g) : Ext F a (w.setCells g 0 vs) := by
  obtain ⟨s1, s2, s3, s4⟩ := setCells_same' g vs 0 w
  exact ⟨s1.trans h.os, s2.trans h.tape, s3.trans h.output, by rw [s4]; exact h.size, fun k hk hn => (setCells_far' _ _ k fun e => hn (by rw [e]; exact hF (by rw [← e]; exact hk))).trans (h.block k hk hn)⟩
theorem heapNew' (w : World) (o : Obj) (g : Nat) (h : g = w.heap.size) : (w.alloc o).heap[g]? = some o := by subst h; exact heapNew w o
/-- An array, sliced from a place on. -/
theorem slice_from {P : Program} (w : World) (t e : TypeId) (n : Nat) (hn : P.arrayLen t = n) (he : P.elem t = e) (ht : P.underlying t = some (.array n e)) {i : TypeInfo} (hi : P.info? e = some i) (hs : i.size = 1) (g k : Nat) (hk : k < n) :
    (Instr.sliceAt t (.pointer (some ⟨g, 0, none⟩)) (some (.int .i64 (k : Int))) none none).run P w = .ok (.slice (some ⟨g, k, none⟩) (n - k) (n - k)) w := by
  rw [run_sliceAt_array_l (P := P) w t ⟨g, 0, none⟩ (by rw [hn, he]; exact ht) .i64 k (by omega) (by rw [hn]; omega)]
  have : ¬ n = k := by omega
  simp [he, hn, sizeOf, typeInfo, hi, hs, slicedAt, this, add_none]
theorem Try.slice23 (w : World) (g k : Nat) (hk : k < 32) : (Instr.sliceAt 23 (.pointer (some ⟨g, 0, none⟩)) (some (.int .i64 (k : Int))) none none).run Try.prog w = .ok (.slice (some ⟨g, k, none⟩) (32 - k) (32 - k)) w :=
  slice_from w 23 5 32 (by kernel_rfl) (by kernel_rfl) (by kernel_rfl) (i := (Try.prog.info? 5).getD default) (by kernel_rfl) (by kernel_rfl) g k hk
theorem Try.slice38 (w : World) (g k : Nat) (hk : k < 12) : (Instr.sliceAt 38 (.pointer (some ⟨g, 0, none⟩)) (some (.int .i64 (k : Int))) none none).run Try.prog w = .ok (.slice (some ⟨g, k, none⟩) (12 - k) (12 - k)) w :=
  slice_from w 38 5 12 (by kernel_rfl) (by kernel_rfl) (by kernel_rfl) (i := (Try.prog.info? 5).getD default) (by kernel_rfl) (by kernel_rfl) g k hk

/-! ### The document's first words -/
def kw (K : List Int) (i : Nat) : Int := wd (K.getD (4 * i) 0) (K.getD (4 * i + 1) 0) (K.getD (4 * i + 2) 0) (K.getD (4 * i + 3) 0)
def firstW (K N : List Int) (c : Int) : List Int :=
  [1634760805, 857760878, 2036477234, 1797285236, kw K 0, kw K 1, kw K 2, kw K 3, kw K 4, kw K 5, kw K 6, kw K 7, c, kw N 0, kw N 1, kw N 2]
theorem firstW_key (K N : List Int) (c : Int) (i : Nat) (hi : i < 8) : (firstW K N c).getD (4 + i) 0 = kw K i := by
  have : i = 0 ∨ i = 1 ∨ i = 2 ∨ i = 3 ∨ i = 4 ∨ i = 5 ∨ i = 6 ∨ i = 7 := by omega
  rcases this with rfl | rfl | rfl | rfl | rfl | rfl | rfl | rfl <;> rfl
theorem firstW_nonce (K N : List Int) (c : Int) (i : Nat) (hi : i < 3) : (firstW K N c).getD (13 + i) 0 = kw N i := by
  have : i = 0 ∨ i = 1 ∨ i = 2 := by omega
  rcases this with rfl | rfl | rfl <;> rfl
theorem firstW_ok (K N : List Int) (c : Int) (hc : U c) : Sixteen (firstW K N c) := by
  refine ⟨rfl, fun x hx => ?_⟩
  simp only [firstW, List.mem_cons, List.not_mem_nil, or_false] at hx
  rcases hx with rfl | rfl | rfl | rfl | rfl | rfl | rfl | rfl | rfl | rfl | rfl | rfl | rfl | rfl | rfl | rfl
  all_goals first | exact wd_u _ _ _ _ | exact hc | (constructor <;> decide)
theorem getD_set (s : List Int) (i j : Nat) (x : Int) : (s.set i x).getD j 0 = if i = j then (if i < s.length then x else 0) else s.getD j 0 := by
  simp only [List.getD_eq_getElem?_getD, List.getElem?_set]
  split
  · rename_i h; subst h
    split <;> simp_all
  · rfl
theorem ext_getD {s t : List Int} (hl : s.length = t.length) (h : ∀ j, j < s.length → s.getD j 0 = t.getD j 0) : s = t := by
  apply List.ext_getElem hl
  intro j h1 h2
  have := h j h1
  rw [List.getD_eq_getElem?_getD, List.getD_eq_getElem?_getD, List.getElem?_eq_getElem h1, List.getElem?_eq_getElem h2] at this
  simpa using this

/-- The state of 'begin': a key, a nonce, and what there is of the words. -/
def Beg (w W : World) (K N s : List Int) : Prop :=
  W.heap[w.heap.size]? = some (.cells (bys K).toArray 23 (0, 0)) ∧ W.heap[w.heap.size + 1]? = some (.cells (bys N).toArray 38 (0, 0)) ∧ (∃ z, W.heap[w.heap.size + 1 + 1]? = some (.cells z 47 (0, 0)) ∧ z.size = 16) ∧
    St W (w.heap.size + 1 + 1 + 1) 47 s ∧ Ext NoB w W
theorem Beg.drewN {w W : World} {K N s : List Int} (h : Beg w W K N s) (m : Nat) : Beg w (W.drewN m) K N s := ⟨h.1, h.2.1, h.2.2.1, h.2.2.2.1, h.2.2.2.2.andDrewN m⟩
theorem Beg.set {w W : World} {K N s : List Int} (h : Beg w W K N s) (i : Nat) (x : Int) : Beg w (W.setCell ⟨w.heap.size + 1 + 1 + 1, i, none⟩ (.int .u32 x)) K N (s.set i x) := by
  obtain ⟨h1, h2, ⟨z, h3, hz⟩, h4, h5⟩ := h
  exact ⟨(heapSetNe _ (by simp; omega)).trans h1, (heapSetNe _ (by simp)).trans h2, ⟨z, (heapSetNe _ (by simp)).trans h3, hz⟩, h4.set i x, h5.andSet _ _ fun h => absurd h (by simp; omega)⟩

set_option maxHeartbeats 1600000 in
theorem begin15 (K N : List Int) (c : Int) (hK : K.length = 32) (hN : N.length = 12) (bK : Bs K) (bN : Bs N) (hc : U c) (w : World) :
    Calls Try.prog 15 #[Arr K, Arr N, .int .u32 c] w fun e w' => e = .returned (.agg (vals (firstW K N c)).toArray) ∧ Ext NoB w w' := by
  have h0 : Beg w ((((w.alloc (Obj.cells (bys K).toArray 23)).alloc (Obj.cells (bys N).toArray 38)).alloc
          (Obj.cells
            #[Value.int IntKind.u32 0, Value.int IntKind.u32 0, Value.int IntKind.u32 0, Value.int IntKind.u32 0,
              Value.int IntKind.u32 0, Value.int IntKind.u32 0, Value.int IntKind.u32 0, Value.int IntKind.u32 0,
              Value.int IntKind.u32 0, Value.int IntKind.u32 0, Value.int IntKind.u32 0, Value.int IntKind.u32 0,
              Value.int IntKind.u32 0, Value.int IntKind.u32 0, Value.int IntKind.u32 0, Value.int IntKind.u32 0]
            47)).alloc
      (Obj.cells
        #[Value.int IntKind.u32 1634760805, Value.int IntKind.u32 857760878, Value.int IntKind.u32 2036477234,
          Value.int IntKind.u32 1797285236, Value.int IntKind.u32 0, Value.int IntKind.u32 0, Value.int IntKind.u32 0,
          Value.int IntKind.u32 0, Value.int IntKind.u32 0, Value.int IntKind.u32 0, Value.int IntKind.u32 0,
          Value.int IntKind.u32 0, Value.int IntKind.u32 c, Value.int IntKind.u32 0, Value.int IntKind.u32 0,
          Value.int IntKind.u32 0]
        47)) K N [1634760805, 857760878, 2036477234, 1797285236, 0, 0, 0, 0, 0, 0, 0, 0, c, 0, 0, 0] := by
    refine ⟨?_, ?_, ⟨(List.replicate 16 (Value.int .u32 0)).toArray, ?_, rfl⟩, ?_, (((Ext.alloc NoB w _).andAlloc _).andAlloc _).andAlloc _⟩
    · rw [heapAlloc _ _ _ (by simp; omega), heapAlloc _ _ _ (by simp; omega), heapAlloc _ _ _ (by simp), heapNew]
    · rw [heapAlloc _ _ _ (by simp), heapAlloc _ _ _ (by simp), heapNew' _ _ _ (by simp)]
    · rw [heapAlloc _ _ _ (by simp), heapNew' _ _ _ (by simp)]
      rfl
    · unfold St
      rw [heapNew' _ _ _ (by simp)]
      rfl
  go_enter Try.func15, Try.ntmps15
  go_wp2_with fail
  go_loopw [12] (fun i W => ∃ (k : Nat) (s : List Int), k ≤ 8 ∧ i = .int .i64 k ∧ s.length = 16 ∧ (∀ j, j < 4 + k → s.getD j 0 = (firstW K N c).getD j 0) ∧ s.getD 12 0 = c ∧ Beg w W K N s) (fun i _ => 8 - (intOf i).toNat)
  case atStart =>
    refine ⟨0, _, by omega, rfl, rfl, fun j hj => ?_, rfl, h0⟩
    have : j = 0 ∨ j = 1 ∨ j = 2 ∨ j = 3 := by omega
    rcases this with rfl | rfl | rfl | rfl <;> rfl
  case round =>
    clear h0
    obtain ⟨k, s, hk, rfl, hs, hpre, h12, hb⟩ := hrel
    rcases Nat.lt_or_ge k 8 with hlt | hge
    · obtain ⟨h1, h2, h3, h4, h5⟩ := hb
      have hb : Beg w wr K N s := ⟨h1, h2, h3, h4, h5⟩
      have k0 := cellOf h1 (4 * k)
      have k1 := cellOf h1 (4 * k + 1)
      have k2 := cellOf h1 (4 * k + 2)
      have k3 := cellOf h1 (4 * k + 3)
      rw [List.getElem?_toArray, bys_at (by omega)] at k0 k1 k2 k3
      have hcl := cellOf h4 (4 + k)
      rw [List.getElem?_toArray, vals_at (by omega)] at hcl
      have hfr := freeOf h4 (4 + k)
      have hsl := Try.slice23 wr w.heap.size (4 * k) (by omega)
      rw [show ((4 * k : Nat) : Int) = 4 * (k : Int) by omega] at hsl
      go_wp2_with fail
      refine (word20 _ _ _ _ _ _ _ _ (bK.at (by omega)) (bK.at (by omega)) (bK.at (by omega)) (bK.at (by omega)) _ (by omega) (by omega) k0 k1 k2 k3).mono ?_
      rintro e w2 ⟨rfl, m, rfl⟩
      go_wp2_with fail
      have ek : wd (K[4 * k]?.getD 0) (K[4 * k + 1]?.getD 0) (K[4 * k + 2]?.getD 0) (K[4 * k + 3]?.getD 0) = kw K k := by simp [kw]
      rw [ek]
      refine ⟨⟨k + 1, s.set (4 + k) (kw K k), by omega, by go_num, by rw [List.length_set]; exact hs, fun j hj => ?_, ?_, (hb.drewN m).set _ _⟩, by simp [intOf]; omega⟩
      · rw [getD_set]
        by_cases he : 4 + k = j
        · rw [if_pos he, if_pos (by omega), ← he, firstW_key K N c k hlt]
        · rw [if_neg he, hpre j (by omega)]
      · rw [getD_set]
        by_cases he : 4 + k = 12
        · omega
        · rw [if_neg he, h12]
    · go_wp2_with fail
      go_loopw [23] (fun i W => ∃ (k : Nat) (s : List Int), k ≤ 3 ∧ i = .int .i64 k ∧ s.length = 16 ∧ (∀ j, j < 13 + k → s.getD j 0 = (firstW K N c).getD j 0) ∧ Beg w W K N s) (fun i _ => 3 - (intOf i).toNat)
      case atStart =>
        refine ⟨0, s, by omega, rfl, hs, fun j hj => ?_, hb⟩
        by_cases he : j = 12
        · subst he; exact h12
        · exact hpre j (by omega)
      case round =>
        clear hb hpre h12 hs
        obtain ⟨k, s, hk, rfl, hs, hpre, hb⟩ := hrel
        obtain ⟨h1, h2, h3, h4, h5⟩ := hb
        have hb : Beg w wr K N s := ⟨h1, h2, h3, h4, h5⟩
        rcases Nat.lt_or_ge k 3 with hlt | hge
        · have k0 := cellOf h2 (4 * k)
          have k1 := cellOf h2 (4 * k + 1)
          have k2 := cellOf h2 (4 * k + 2)
          have k3 := cellOf h2 (4 * k + 3)
          rw [List.getElem?_toArray, bys_at (by omega)] at k0 k1 k2 k3
          have hcl := cellOf h4 (13 + k)
          rw [List.getElem?_toArray, vals_at (by omega)] at hcl
          have hfr := freeOf h4 (13 + k)
          have hsl := Try.slice38 wr (w.heap.size + 1) (4 * k) (by omega)
          rw [show ((4 * k : Nat) : Int) = 4 * (k : Int) by omega] at hsl
          go_wp2_with fail
          refine (word20 _ _ _ _ _ _ _ _ (bN.at (by omega)) (bN.at (by omega)) (bN.at (by omega)) (bN.at (by omega)) _ (by omega) (by omega) k0 k1 k2 k3).mono ?_
          rintro e w2 ⟨rfl, m, rfl⟩
          go_wp2_with fail
          have ek : wd (N[4 * k]?.getD 0) (N[4 * k + 1]?.getD 0) (N[4 * k + 2]?.getD 0) (N[4 * k + 3]?.getD 0) = kw N k := by simp [kw]
          rw [ek]
          refine ⟨⟨k + 1, s.set (13 + k) (kw N k), by omega, by go_num, by rw [List.length_set]; exact hs, fun j hj => ?_, (hb.drewN m).set _ _⟩, by simp [intOf]; omega⟩
          rw [getD_set]
          by_cases he : 13 + k = j
          · rw [if_pos he, if_pos (by omega), ← he, firstW_nonce K N c k hlt]
          · rw [if_neg he, hpre j (by omega)]
        · have hsF : s = firstW K N c := ext_getD hs fun j hj => hpre j (by omega)
          obtain ⟨z, hz, hz16⟩ := h3
          have hva : (vals s).toArray.size = 16 := by rw [List.size_toArray, vals_length, hs]
          obtain ⟨V, hV⟩ : ∃ V, V = (vals s).toArray := ⟨_, rfl⟩
          have hsz : (Try.prog.info? 47).map (·.size) = some V.size := by rw [hV, hva]; exact Try.size47
          have hth : wr.there (w.heap.size + 1 + 1) 0 V.size := fun j hj => ⟨by rw [cellOf hz, Array.getElem?_eq_getElem (by rw [hz16]; rw [hV, hva] at hj; omega)]; rfl, freeOf hz _⟩
          have hone : V.all (·.oneCell') = true := by rw [hV]; exact all_oneCell_toArray (vals_one _)
          have h4' : wr.heap[w.heap.size + 1 + 1 + 1]? = some (.cells V 47 (0, 0)) := by rw [hV]; exact h4
          have hend : (wr.setCells (w.heap.size + 1 + 1) 0 V.toList).heap[w.heap.size + 1 + 1]? = some (.cells V 47 (0, 0)) := by
            have := setCells_whole hz V.toList (by rw [hz16, Array.length_toList, hV, hva])
            simpa using this
          have hVF : V = (vals (firstW K N c)).toArray := by rw [hV, hsF]
          clear hV hva hsF hz h4 hb h1 h2 hz16
          go_wp2_with (first
            | (refine wpList_load_row rfl 47 _ rfl (w.heap.size + 1 + 1 + 1) rfl 47 V (0, 0) _ h4' Try.underlying47 rfl hsz ?_)
            | (refine wpList_store_mid rfl 47 _ _ rfl (w.heap.size + 1 + 1) 0 V rfl rfl hth hsz hone ?_))
          refine bodyPost_ret (results_cell_row rfl _ _ (w.heap.size + 1 + 1) 47 V (0, 0) _ rfl hend Try.underlying47 rfl hsz) rfl ⟨by rw [hVF], h5.andCells _ _ fun h => absurd h (by omega)⟩
end Go.Proofs.Ytcijbeagegonkaa
