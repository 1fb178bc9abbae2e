/-
  The document's Pop.
-/
import Derived.Test.YtaphhadahajohaaN
set_option linter.unusedVariables false
set_option linter.unusedSimpArgs false
namespace Go.Proofs.Ytaphhadahajohaa
open Go.RowKit

/-- The best of the first k, as the document's loop finds it. -/
def bst (D : List Int) (now : Int) : Nat → Option Nat
  | 0 => none
  | k + 1 => if D.getD k 0 ≤ now then (match bst D now k with | none => some k | some b => if D.getD k 0 < D.getD b 0 then some k else some b) else bst D now k
def bv : Option Nat → Int
  | none => -1
  | some b => b
theorem bst_lt (D : List Int) (now : Int) : ∀ k b, bst D now k = some b → b < k ∧ D.getD b 0 ≤ now
  | 0, b, h => by cases h
  | k + 1, b, h => by
    unfold bst at h
    split at h
    · rename_i hk
      split at h
      · injection h with h; subst h; exact ⟨by omega, hk⟩
      · rename_i b' hb'
        have := bst_lt D now k b' hb'
        split at h
        · injection h with h; subst h; exact ⟨by omega, hk⟩
        · injection h with h; subst h; exact ⟨by omega, this.2⟩
    · have := bst_lt D now k b h
      exact ⟨by omega, this.2⟩
theorem bst_spec (D : List Int) (now : Int) : ∀ k, (bst D now k = none → ∀ j, j < k → now < D.getD j 0) ∧ ∀ b, bst D now k = some b → ∀ j, j < k → D.getD j 0 ≤ now → D.getD b 0 ≤ D.getD j 0 ∧ (j < b → D.getD b 0 < D.getD j 0)
  | 0 => ⟨(fun _ j h => by omega), (fun b h => by cases h)⟩
  | k + 1 => by
    obtain ⟨h1, h2⟩ := bst_spec D now k
    have hl := bst_lt D now k
    unfold bst
    by_cases hk : D.getD k 0 ≤ now
    · rw [if_pos hk]
      cases hb : bst D now k with
      | none =>
        refine ⟨(fun h => by cases h), fun b h j hj hjd => ?_⟩
        injection h with h; subst h
        by_cases hjk : j = k
        · subst hjk; exact ⟨by omega, by omega⟩
        · have := h1 hb j (by omega); omega
      | some b' =>
        have hb2 := h2 b' hb
        have hl2 := hl b' hb
        refine ⟨(fun h => by simp only [] at h; split at h <;> cases h), fun b h j hj hjd => ?_⟩
        simp only [] at h
        split at h
        · rename_i hlt
          injection h with h; subst h
          by_cases hjk : j = k
          · subst hjk; exact ⟨by omega, by omega⟩
          · have := hb2 j (by omega) hjd; exact ⟨by omega, fun _ => by omega⟩
        · rename_i hlt
          injection h with h; subst h
          by_cases hjk : j = k
          · subst hjk; exact ⟨by omega, fun _ => by omega⟩
          · exact hb2 j (by omega) hjd
    · rw [if_neg hk]
      refine ⟨fun h j hj => ?_, fun b h j hj hjd => ?_⟩
      · by_cases hjk : j = k
        · subst hjk; omega
        · exact h1 h j (by omega)
      · by_cases hjk : j = k
        · subst hjk; omega
        · exact h2 b h j (by omega) hjd
theorem bst_best {D : List Int} {now : Int} {b : Nat} (h : bst D now D.length = some b) : IsBest D now b :=
  ⟨(bst_lt D now _ b h).1, (bst_lt D now _ b h).2, fun k hk hkd => (bst_spec D now D.length).2 b h k hk hkd⟩
theorem bst_none {D : List Int} {now : Int} (h : bst D now D.length = none) : ∀ j, j < D.length → now < D.getD j 0 := (bst_spec D now D.length).1 h

def rdues (M : List Rt) : List Int := M.map (·.due)
theorem rdues_at {M : List Rt} {i : Nat} (hi : i < M.length) : (rdues M).getD i 0 = M[i].due := by
  simp [rdues, List.getD_eq_getElem?_getD, List.getElem?_eq_getElem hi]
/-- The boxes of R.Pop. -/
structure Bo (w W : World) (A : Option Addr) (n c : Nat) (m : Int) : Prop where
  q : W.heap[w.heap.size]? = some (.cells #[.slice A n c, .int .i64 m] 38 (0, 0))
  r : W.heap[w.heap.size + 1]? = some (.cells #[.slice none 0 0, .int .i64 0] 38 (0, 0))
  x : W.heap[w.heap.size + 1 + 1]? = some (.cells #[.int .i64 0, .int .i64 0, .slice none 0 0] 30 (0, 0))
  ext : Ext NoB w W
theorem Bo.next {w W W' : World} {A : Option Addr} {n c : Nat} {m : Int} (h : Bo w W A n c m) (hx : Ext NoB W W') : Bo w W' A n c m := ⟨hx.obj h.q id, hx.obj h.r id, hx.obj h.x id, h.ext.then hx⟩

theorem rpop_end {W : World} {a : Act} {R : Ending → World → Prop} {m e due dest : Int} {A A' : Option Addr} {n c l c' b b' : Nat} (hd : a.defers = [])
    (h4 : a.tmps.getD 4 undef = .pointer (some ⟨b, 0, none⟩)) (h5 : a.tmps.getD 5 undef = .pointer (some ⟨b', 0, none⟩)) (h6 : a.tmps.getD 6 undef = .int .i64 e)
    (hb : W.heap[b]? = some (.cells #[.slice A n c, .int .i64 m] 38 (0, 0))) (hb' : W.heap[b']? = some (.cells #[.int .i64 due, .int .i64 dest, .slice A' l c'] 30 (0, 0)))
    (hR : R (.returned (.tuple #[rq A n c m, ri ⟨due, dest, A', l, c'⟩, .int .i64 e])) W) : bodyPost Try.prog Try.f12 R .ret a W := by
  have c0 : W.cell? ⟨b, 0, none⟩ = some (.slice A n c) := by rw [cellOf hb]; rfl
  have c1 : W.cell? ⟨b, 1, none⟩ = some (.int .i64 m) := by rw [cellOf hb]; rfl
  obtain ⟨d0, d1, d2⟩ := three hb'
  refine bodyPost_ret (v := .tuple #[rq A n c m, ri ⟨due, dest, A', l, c'⟩, .int .i64 e]) ?_ hd hR
  rw [Array.getD_eq_getD_getElem?] at h4 h5 h6
  simp [results, Try.results12, go_sem, h4, h5, h6, c0, c1, d0, d1, d2]
def RPopEnd (w : World) (A : Option Addr) (c : Nat) (m : Int) (M : List Rt) (now : Int) (e : Ending) (w' : World) : Prop :=
  match bst (rdues M) now M.length with
  | none => e = .returned (.tuple #[rq A M.length c m, ri ⟨0, 0, none, 0, 0⟩, .int .i64 9]) ∧ Ext NoB w w'
  | some b => ∃ A' c', e = .returned (.tuple #[rq A' (M.length - 1) c' m, ri (M.getD b default), .int .i64 0]) ∧ RR w' (.slice A' (M.length - 1) c') (M.eraseIdx b) ∧ Ext NoB w w' ∧ ∀ k, (Value.slice A' (M.length - 1) c').ownBlock = some k → w.heap.size ≤ k
/-- The state of R.Pop's second loop. -/
structure LoopR (w W9 W : World) (A : Option Addr) (c : Nat) (m : Int) (M : List Rt) (b b9 : Nat) (x : Rt) (k : Nat) (v : Value) : Prop where
  bo : Bo w W A M.length c m
  bx : W.heap[b9]? = some (.cells #[.int .i64 x.due, .int .i64 x.dest, .slice x.A x.l x.c] 30 (0, 0))
  row : RR W v ((M.take k).eraseIdx b)
  ext : Ext NoB W9 W
  own : ∀ k', v.ownBlock = some k' → W9.heap.size ≤ k'
theorem erase_skip {M : List Rt} {k : Nat} (h : k < M.length) : (M.take (k + 1)).eraseIdx k = (M.take k).eraseIdx k := by
  have hl : (M.take k).length = k := by rw [List.length_take]; omega
  rw [List.take_add_one, List.getElem?_eq_getElem h, List.eraseIdx_append_of_length_le (by omega), hl, Nat.sub_self]
  simp only [Option.toList_some, List.eraseIdx_cons_zero, List.append_nil]
  rw [List.eraseIdx_of_length_le (by omega)]
theorem erase_take {M : List Rt} {k b : Nat} (h : k < M.length) (hb : k ≠ b) : (M.take (k + 1)).eraseIdx b = (M.take k).eraseIdx b ++ [M[k]] := by
  have hl : (M.take k).length = k := by rw [List.length_take]; omega
  rw [List.take_add_one, List.getElem?_eq_getElem h]
  simp only [Option.toList_some]
  rcases Nat.lt_or_ge b k with hlt | hge
  · rw [List.eraseIdx_append_of_lt_length (by omega)]
  · rw [List.eraseIdx_of_length_le (by simp; omega), List.eraseIdx_of_length_le (by omega)]
theorem LoopR.skip {w W9 W : World} {A : Option Addr} {c : Nat} {m : Int} {M : List Rt} {b9 : Nat} {x : Rt} {k : Nat} {v : Value} (h : LoopR w W9 W A c m M k b9 x k v) (hk : k < M.length) : LoopR w W9 W A c m M k b9 x (k + 1) v :=
  ⟨h.bo, h.bx, by rw [erase_skip hk]; exact h.row, h.ext, h.own⟩
theorem LoopR.next {w W9 W W4 : World} {A : Option Addr} {c : Nat} {m : Int} {M : List Rt} {b b9 : Nat} {x : Rt} {k : Nat} {v v' : Value} (h : LoopR w W9 W A c m M b b9 x k v) (hk : k < M.length) (hkb : k ≠ b) (hb9 : b9 < W9.heap.size) (hw9 : w.heap.size + 1 + 1 < W9.heap.size) {cs : Obj}
    (hx : Ext (fun k => v.ownBlock = some k) (W.alloc cs) W4) (hr : RR W4 v' ((M.take k).eraseIdx b ++ [M[k]])) (hg : ∀ g, v'.ownBlock = some g → v.ownBlock = some g ∨ (W.alloc cs).heap.size ≤ g) : LoopR w W9 W4 A c m M b b9 x (k + 1) v' := by
  have xa := Ext.alloc NoB W cs
  have hs := h.ext.size
  have hF : ∀ g, g < W9.heap.size → ¬ v.ownBlock = some g := fun g hg e => by have := h.own g e; omega
  refine ⟨⟨hx.obj (xa.obj h.bo.q id) (hF _ (by omega)), hx.obj (xa.obj h.bo.r id) (hF _ (by omega)), hx.obj (xa.obj h.bo.x id) (hF _ (by omega)), (h.bo.ext.then xa).trans hx (fun _ _ h => h) (fun g hg e => absurd e (hF g (by omega)))⟩, hx.obj (xa.obj h.bx id) (hF _ hb9), by rw [erase_take hk hkb]; exact hr, (h.ext.then xa).trans hx (fun _ _ h => h) (fun g hg e => absurd e (hF g hg)), fun g hgg => ?_⟩
  rcases hg g hgg with h1 | h1
  · exact h.own g h1
  · simp at h1; omega
set_option maxHeartbeats 1600000 in
theorem rpop_any (A : Option Addr) (c : Nat) (m : Int) (M : List Rt) (now : Int) (hM : M.length ≤ 1000000) (w : World) (hr : RR w (.slice A M.length c) M) :
    Calls Try.prog 12 #[rq A M.length c m, .int .i64 now] w (RPopEnd w A c m M now) := by
  go_enter Try.func12, Try.ntmps12
  go_upto_region 1 with (fail)
  generalize hW1 : World.alloc (World.alloc (World.alloc w _) _) _ = W1
  have hbo : Bo w W1 A M.length c m := by
    refine ⟨?_, ?_, ?_, by rw [← hW1]; exact ((Ext.alloc NoB w _).andAlloc _).andAlloc _⟩
    · rw [← hW1, heapAlloc _ _ _ (by simp; omega), heapAlloc _ _ _ (by simp), heapNew]
    · rw [← hW1, heapAlloc _ _ _ (by simp), heapNew' _ _ _ (by simp)]
    · rw [← hW1, heapNew' _ _ _ (by simp)]
  clear hW1
  go_wp2_with fail
  go_loopw [7, 8] (fun b i W => ∃ (k : Nat), k ≤ M.length ∧ i = .int .i64 k ∧ b = .int .i64 (bv (bst (rdues M) now k)) ∧ Bo w W A M.length c m) (fun _ i _ => M.length - (intOf i).toNat)
  case atStart => exact ⟨0, Nat.zero_le _, rfl, rfl, hbo⟩
  case round =>
    clear hbo
    obtain ⟨k, hk, rfl, rfl, hbo⟩ := hrel
    have hr1 := hr.ext hbo.ext (fun _ _ h => h)
    have z0 : wr.cell? ⟨w.heap.size, 0, none⟩ = some (.slice A M.length c) := by rw [cellOf hbo.q]; rfl
    rcases Nat.lt_or_ge k M.length with hlt | hge
    · obtain ⟨g, o, rfl, d0, _⟩ := hr1.at (List.getElem?_eq_getElem hlt)
      have hdk := rdues_at hlt
      have n1 : (k : Int) < (M.length : Int) := by omega
      have hstep : bst (rdues M) now (k + 1) = if (rdues M).getD k 0 ≤ now then (match bst (rdues M) now k with | none => some k | some b => if (rdues M).getD k 0 < (rdues M).getD b 0 then some k else some b) else bst (rdues M) now k := rfl
      rw [hdk] at hstep
      by_cases hd : M[k].due ≤ now
      · rw [if_pos hd] at hstep
        have hd' : decide (M[k].due ≤ now) = true := by simpa using hd
        cases hb : bst (rdues M) now k with
        | none =>
          rw [hb] at hstep
          simp only [] at hstep
          have HS := Lib.hid hstep
          have e1 : bv none = -1 := rfl
          rw [e1]
          clear e1
          generalize M[k].due = du at d0 hd hd'
          have HB := Lib.hid (fun n => hbo.next (Ext.drewN NoB wr n))
          clear hstep hb hdk hbo hr hr1
          go_wp2_with fail
          go_quiet (fail)
          go_wp2_with fail
          exact ⟨⟨k + 1, by omega, by go_num, by rw [HS.out]; rfl, HB.out nq⟩, by simp [intOf]; omega⟩
        | some b =>
          have hbl := bst_lt (rdues M) now k b hb
          have hbM : b < M.length := by omega
          obtain ⟨g', o', he, d0', _⟩ := hr1.at (List.getElem?_eq_getElem hbM)
          injection he with he
          injection he with e1 e2
          subst e1; subst e2
          rw [hb] at hstep
          simp only [rdues_at hbM] at hstep
          have e1 : bv (some b) = (b : Int) := rfl
          rw [e1]
          have n2 : (b : Int) < (M.length : Int) := by omega
          clear hbl
          by_cases hlt2 : M[k].due < M[b].due
          · rw [if_pos hlt2] at hstep
            have hl' : decide (M[k].due < M[b].due) = true := by simpa using hlt2
            have HS := Lib.hid hstep
            generalize M[k].due = du at d0 hd hd' hlt2 hl'
            generalize M[b].due = dv at d0' hlt2 hl'
            clear e1
            have HB := Lib.hid (fun n => hbo.next (Ext.drewN NoB wr n))
            clear hstep hb hdk hbo hr hr1
            go_wp2_with fail
            go_quiet (fail)
            go_wp2_with fail
            exact ⟨⟨k + 1, by omega, by go_num, by rw [HS.out]; rfl, HB.out nq⟩, by simp [intOf]; omega⟩
          · rw [if_neg hlt2] at hstep
            have hl' : decide (M[k].due < M[b].due) = false := by simpa using hlt2
            have HS := Lib.hid hstep
            generalize M[k].due = du at d0 hd hd' hlt2 hl'
            generalize M[b].due = dv at d0' hlt2 hl'
            clear e1
            have HB := Lib.hid (fun n => hbo.next (Ext.drewN NoB wr n))
            clear hstep hb hdk hbo hr hr1
            go_wp2_with fail
            go_quiet (fail)
            go_wp2_with fail
            exact ⟨⟨k + 1, by omega, by go_num, by rw [HS.out]; rfl, HB.out nq⟩, by simp [intOf]; omega⟩
      · rw [if_neg hd] at hstep
        have hd' : decide (M[k].due ≤ now) = false := by simpa using hd
        have HS := Lib.hid hstep
        generalize M[k].due = du at d0 hd hd'
        generalize hbv : bv (bst (rdues M) now k) = bb
        have HV := Lib.hid hbv
        clear hbv
        have hb : True := trivial
        have HB := Lib.hid (fun n => hbo.next (Ext.drewN NoB wr n))
        clear hstep hb hdk hbo hr hr1
        go_wp2_with fail
        go_quiet (fail)
        go_wp2_with fail
        exact ⟨⟨k + 1, by omega, by go_num, by rw [HS.out]; exact congrArg _ HV.out.symm, HB.out nq⟩, by simp [intOf]; omega⟩
    · have hkM : k = M.length := by omega
      rw [hkM]
      cases hb : bst (rdues M) now M.length with
      | none =>
        have e1 : bv none = -1 := rfl
        rw [e1]
        have HBS := Lib.hid hb
        clear e1 hb hkM
        have q0 := cellOf hbo.q 0
        have q1 := cellOf hbo.q 1
        have r0 := cellOf hbo.r 0
        have r1 := cellOf hbo.r 1
        obtain ⟨x0, x1, x2⟩ := three hbo.x
        have f1 := freeOf hbo.r
        have f2 := freeOf hbo.x
        have HB := Lib.hid hbo
        clear hbo hr1 z0
        go_wp2_with fail
        have p1 := HB.out.r
        have p2 := HB.out.x
        have xx := ((((((Ext.refl (fun k => k = w.heap.size + 1 ∨ k = w.heap.size + 1 + 1) wr).andSet ⟨w.heap.size + 1, 0, none⟩ (.slice A M.length c) (fun _ => .inl rfl)).andSet ⟨w.heap.size + 1, 1, none⟩ (.int .i64 m) (fun _ => .inl rfl)).andSet ⟨w.heap.size + 1 + 1, 0, none⟩ (.int .i64 0) (fun _ => .inr rfl)).andSet ⟨w.heap.size + 1 + 1, 1, none⟩ (.int .i64 0) (fun _ => .inr rfl)).andSet ⟨w.heap.size + 1 + 1, 2, none⟩ (.slice none 0 0) (fun _ => .inr rfl))
        refine rpop_end (m := m) (e := 9) (due := 0) (dest := 0) (A := A) (A' := none) (n := M.length) (c := c) (l := 0) (c' := 0) rfl rfl rfl rfl ?_ ?_ ?_
        rotate_left 2
        · show RPopEnd w A c m M now _ _
          unfold RPopEnd
          rw [HBS.out]
          exact ⟨rfl, HB.out.ext.trans xx (fun _ _ h => h) (fun k hk h => by have := HB.out.ext.size; omega)⟩
        · rw [heapSetNe _ (by simp), heapSetNe _ (by simp), heapSetNe _ (by simp), heapSet (heapSet p1 _ _) _ _]; rfl
        · rw [heapSet (heapSet (heapSet (by rw [heapSetNe _ (by simp), heapSetNe _ (by simp)]; exact p2) _ _) _ _) _ _]; rfl
      | some b =>
        have e1 : bv (some b) = (b : Int) := rfl
        rw [e1]
        obtain ⟨hbM, _⟩ := bst_lt (rdues M) now M.length b hb
        obtain ⟨g, o, rfl, d0, d1, d2⟩ := hr1.at (List.getElem?_eq_getElem hbM)
        have n2 : (b : Int) < (M.length : Int) := by omega
        have hMb : M.getD b default = M[b] := by rw [List.getD_eq_getElem?_getD, List.getElem?_eq_getElem hbM]; rfl
        have HBS := Lib.hid hb
        have HMB := Lib.hid hMb
        have q0 := cellOf hbo.q 0
        clear e1 hb hkM hMb
        generalize hx : M[b] = x at d0 d1 d2 HMB
        obtain ⟨due, dest, A', l, c'⟩ := x
        simp only [Rt.b] at d0 d1 d2
        clear hx
        go_upto_region 10 with (fail)
        have hbo1 := hbo.next (Ext.alloc NoB wr (.cells #[.int .i64 due, .int .i64 dest, .slice A' l c'] 30))
        have h9 := heapNew wr (.cells #[.int .i64 due, .int .i64 dest, .slice A' l c'] 30)
        have hs9 : wr.heap.size < (wr.alloc (.cells #[.int .i64 due, .int .i64 dest, .slice A' l c'] 30)).heap.size ∧ w.heap.size + 1 + 1 < (wr.alloc (.cells #[.int .i64 due, .int .i64 dest, .slice A' l c'] 30)).heap.size := by have := blk_lt' hbo.x; simp; omega
        have hs10 : w.heap.size + 1 + 1 < wr.heap.size := blk_lt' hbo.x
        generalize wr.alloc (.cells #[.int .i64 due, .int .i64 dest, .slice A' l c'] 30) = W9 at hbo1 h9 hs9 ⊢
        generalize wr.heap.size = b9 at h9 hs9 hs10 ⊢
        have HS9 : b9 < W9.heap.size ∧ w.heap.size + 1 + 1 < W9.heap.size := hs9
        clear hbo z0 d0 d1 d2 q0 hr1
        have hin : LoopR w W9 W9 (some ⟨g, o, none⟩) c m M b b9 ⟨due, dest, A', l, c'⟩ 0 (.slice none 0 0) := ⟨hbo1, h9, by simp [RR.nil], Ext.refl _ _, fun k hk => by simp [Value.ownBlock] at hk⟩
        go_wp2_with fail
        go_loopw [10, 11] (fun v i W => ∃ (k : Nat), k ≤ M.length ∧ i = .int .i64 k ∧ LoopR w W9 W (some ⟨g, o, none⟩) c m M b b9 ⟨due, dest, A', l, c'⟩ k v) (fun _ i _ => M.length - (intOf i).toNat)
        case atStart => exact ⟨0, Nat.zero_le _, rfl, hin⟩
        case round =>
          clear hin hbo1 h9 hge hk
          obtain ⟨k, hk, rfl, hL⟩ := hrel
          have hbo := hL.bo
          have q0 := cellOf hbo.q 0
          have q1 := cellOf hbo.q 1
          rcases Nat.lt_or_ge k M.length with hlt | hge
          · by_cases hkb : k = b
            · subst hkb
              have e2 : ((k : Int) != (k : Int)) = false := by simp
              have hL2 := hL.skip hlt
              have n1 : (k : Int) < (M.length : Int) := by omega
              clear hL hbo
              go_wp2_with fail
              exact ⟨⟨k + 1, by omega, by go_num, hL2⟩, by simp [intOf]; omega⟩
            · have e2 : ((k : Int) != (b : Int)) = true := by simp; omega
              have n1 : (k : Int) < (M.length : Int) := by omega
              have hr2 := hr.ext hbo.ext (fun _ _ h => h)
              obtain ⟨g', o', he, d0, d1, d2⟩ := hr2.at (List.getElem?_eq_getElem hlt)
              injection he with he
              injection he with e3 e4
              subst e3; subst e4
              have hrow := hL.row
              obtain ⟨Av, cv, rfl, hc1, hc2, _⟩ := hrow.slice
              have hn4 : ((M.take k).eraseIdx b).length ≤ 1000000 := by have := List.length_eraseIdx_le (M.take k) b; rw [List.length_take] at this; omega
              have hl9 : b9 < W9.heap.size := HS9.1
              have hNX := fun cs W4 v' => hL.next hlt hkb hl9 HS9.2 (cs := cs) (W4 := W4) (v' := v')
              generalize hy : M[k] = y at d0 d1 d2 hNX
              obtain ⟨yd, yt, yA, yl, yc⟩ := y
              simp only [Rt.b] at d0 d1 d2
              clear hy
              have HNX := Lib.hid hNX
              unfold RR at hrow
              have hq2 : QRow (wr.alloc (.cells #[.int .i64 yd, .int .i64 yt, .slice yA yl yc] 30)) 30 3 (.slice Av ((M.take k).eraseIdx b).length cv) ((M.take k).eraseIdx b).length (flat3 ((M.take k).eraseIdx b)) := hrow.ext (Ext.alloc NoB wr _) (fun _ _ h => h)
              have hnw : ∀ j u, [Value.int .i64 yd, .int .i64 yt, .slice yA yl yc][j]? = some u → (wr.alloc (.cells #[.int .i64 yd, .int .i64 yt, .slice yA yl yc] 30)).cell? ((⟨wr.heap.size, 0, none⟩ : Addr).add j) = some u := fun j u hj => by
                rw [add_none, cellOf (heapNew wr _), Nat.zero_add]
                simpa using hj
              have ho : ∀ u ∈ [Value.int .i64 yd, .int .i64 yt, .slice yA yl yc], u.oneCell' = true := by intro u hu; simp at hu; rcases hu with rfl | rfl | rfl <;> rfl
              have n63 : ((M.take k).eraseIdx b).length + 1 ≤ maxLen := by unfold maxLen; omega
              generalize hL2 : (M.take k).eraseIdx b = L2 at hq2 hrow hc1 hn4 HNX n63 ⊢
              clear hNX hrow hL hr2 hL2 hbo
              go_wp2_with (at_builtin; refine wpList_append_q rfl _ _ 22 rfl 30 3 40 (.agg #[.int .i64 0, .int .i64 0, .slice none 0 0]) Try.underlying22 Try.info30 rfl (by decide) (.slice Av L2.length cv) L2.length (flat3 L2) rfl hq2 ⟨wr.heap.size, 0, none⟩ 1 1 [Value.int .i64 yd, .int .i64 yt, .slice yA yl yc] rfl rfl hnw ho (by decide) n63 (by omega) ?_)
              intro g3 o3 c3 W3 hq3 x3 hg3
              have hL3 := HNX.out _ W3 (.slice (some ⟨g3, o3, none⟩) (L2.length + 1) c3) x3 (by unfold RR; rw [flat3_append]; simp only [List.length_append, List.length_cons, List.length_nil]; exact hq3) (fun g hg => by simp [Value.ownBlock] at hg; subst hg; exact hg3.imp id (fun h => by simp; omega))
              clear hq3 x3 hg3 hq2 hnw ho d0 d1 d2 q0 q1
              go_wp2_with fail
              exact ⟨⟨k + 1, by omega, by go_num, hL3⟩, by simp [intOf]; omega⟩
          · have hkM : k = M.length := by omega
            rw [hkM] at hL
            have hrow := hL.row
            rw [List.take_length] at hrow
            have hle : (M.eraseIdx b).length = M.length - 1 := List.length_eraseIdx_of_lt hbM
            obtain ⟨Av, cv, rfl, hc1, hc2, _⟩ := hrow.slice
            rw [hle] at hrow ⊢
            have f0 := freeOf hbo.q 0
            have e3 : ¬ k < M.length := by omega
            have hown := hL.own
            rw [hle] at hown
            have hbx := hL.bx
            have hext := hL.ext
            simp only [] at hbx
            clear hL hkM
            go_upto_region 17 with (fail)
            have hb6 := hbo.ext.size
            have p0 : (wr.setCell ⟨w.heap.size, 0, none⟩ (.slice Av (M.length - 1) cv)).heap[w.heap.size]? = some (.cells #[.slice Av (M.length - 1) cv, .int .i64 m] 38 (0, 0)) := by rw [heapSet hbo.q]; rfl
            have p1 : (wr.setCell ⟨w.heap.size, 0, none⟩ (.slice Av (M.length - 1) cv)).heap[w.heap.size + 1]? = some (.cells #[.slice none 0 0, .int .i64 0] 38 (0, 0)) := by rw [heapSetNe _ (by simp)]; exact hbo.r
            have p2 : (wr.setCell ⟨w.heap.size, 0, none⟩ (.slice Av (M.length - 1) cv)).heap[w.heap.size + 1 + 1]? = some (.cells #[.int .i64 0, .int .i64 0, .slice none 0 0] 30 (0, 0)) := by rw [heapSetNe _ (by simp; omega)]; exact hbo.x
            have p3 : (wr.setCell ⟨w.heap.size, 0, none⟩ (.slice Av (M.length - 1) cv)).heap[b9]? = some (.cells #[.int .i64 due, .int .i64 dest, .slice A' l c'] 30 (0, 0)) := by rw [heapSetNe _ (by simp; omega)]; exact hbx
            have px : Ext NoB w (wr.setCell ⟨w.heap.size, 0, none⟩ (.slice Av (M.length - 1) cv)) := hbo.ext.andSet _ _ fun h => absurd h (by simp)
            have hown2 : ∀ k', (Value.slice Av (M.length - 1) cv).ownBlock = some k' → w.heap.size + 1 + 1 < k' := fun k' hk' => by have := hown k' hk'; omega
            have pr : QRow (wr.setCell ⟨w.heap.size, 0, none⟩ (.slice Av (M.length - 1) cv)) 30 3 (.slice Av (M.length - 1) cv) (M.length - 1) (flat3 (M.eraseIdx b)) := by
              unfold RR at hrow
              rw [hle] at hrow
              exact hrow.ext (Ext.setCell (F := fun k => k = w.heap.size) _ _ _ fun _ => rfl) (fun k hk e => by have := hown2 k hk; omega)
            generalize wr.setCell ⟨w.heap.size, 0, none⟩ (.slice Av (M.length - 1) cv) = W16 at p0 p1 p2 p3 px pr ⊢
            clear hrow hbo hbx hext q0 q1 f0 hown hc1 hc2 e3
            have q0 := cellOf p0 0
            have q1 := cellOf p0 1
            have r0 := cellOf p1 0
            have r1 := cellOf p1 1
            obtain ⟨x0, x1, x2⟩ := three p2
            obtain ⟨d0, d1, d2⟩ := three p3
            have f1 := freeOf p1
            have f2 := freeOf p2
            have n93 : b9 ≠ w.heap.size + 1 + 1 := by omega
            have n92 : b9 ≠ w.heap.size + 1 := by omega
            have P1 := Lib.hid p1
            have P2 := Lib.hid p2
            have PR := Lib.hid pr
            clear p0 p1 p2 p3 pr
            go_region
            clear q0 q1 r0 r1 x0 x1 x2 d0 d1 d2 f1 f2
            go_wp2_with fail
            have xx := ((((((Ext.refl (fun k => k = w.heap.size + 1 ∨ k = w.heap.size + 1 + 1) W16).andSet ⟨w.heap.size + 1, 0, none⟩ (.slice Av (M.length - 1) cv) (fun _ => .inl rfl)).andSet ⟨w.heap.size + 1, 1, none⟩ (.int .i64 m) (fun _ => .inl rfl)).andSet ⟨w.heap.size + 1 + 1, 0, none⟩ (.int .i64 due) (fun _ => .inr rfl)).andSet ⟨w.heap.size + 1 + 1, 1, none⟩ (.int .i64 dest) (fun _ => .inr rfl)).andSet ⟨w.heap.size + 1 + 1, 2, none⟩ (.slice A' l c') (fun _ => .inr rfl))
            refine rpop_end (m := m) (e := 0) (due := due) (dest := dest) (A := Av) (A' := A') (n := M.length - 1) (c := cv) (l := l) (c' := c') rfl rfl rfl rfl ?_ ?_ ?_
            · rw [heapDrew, heapSetNe _ (by simp), heapSetNe _ (by simp), heapSetNe _ (by simp), heapSet (heapSet P1.out _ _) _ _]; rfl
            · rw [heapDrew, heapSet (heapSet (heapSet (by rw [heapSetNe _ (by simp), heapSetNe _ (by simp)]; exact P2.out) _ _) _ _) _ _]; rfl
            · show RPopEnd w _ c m M now _ _
              unfold RPopEnd
              rw [HBS.out]
              simp only [HMB.out]
              refine ⟨Av, cv, rfl, ?_, (px.trans xx (fun _ _ h => h) (fun k hk h => by omega)).andDrew, fun k' hk' => by have := hown2 k' hk'; omega⟩
              unfold RR
              rw [hle]
              exact (PR.out.ext xx (fun k hk h => by have := hown2 k hk; omega)).ext (Ext.drew NoB _) (fun _ _ h => h)
end Go.Proofs.Ytaphhadahajohaa
