/-
  The document's queue: its row, Push.
-/
import Derived.Test.YtaphhadahajohaaM
set_option linter.unusedVariables false
set_option linter.unusedSimpArgs false
namespace Go.Proofs.Ytaphhadahajohaa
open Go.RowKit

theorem heapNew' (w : World) (o : Obj) (g : Nat) (h : g = w.heap.size) : (w.alloc o).heap[g]? = some o := by subst h; exact heapNew w o
/-- An item of the document's, its three cells. -/
structure Rt where
  due : Int
  dest : Int
  A : Option Addr
  l : Nat
  c : Nat
abbrev Rt.b (x : Rt) : Value := .slice x.A x.l x.c
def Rt.cs (x : Rt) : List Value := [.int .i64 x.due, .int .i64 x.dest, x.b]
instance : Inhabited Rt := ⟨⟨0, 0, none, 0, 0⟩⟩
def flat3 (hs : List Rt) : List Value := hs.flatMap Rt.cs
theorem flat3_length (hs : List Rt) : (flat3 hs).length = hs.length * 3 := by
  induction hs with
  | nil => rfl
  | cons x xs ih => simp only [flat3, List.flatMap_cons, List.length_append, List.length_cons] at ih ⊢; rw [ih]; simp [Rt.cs]; omega
theorem flat3_append (a b : List Rt) : flat3 (a ++ b) = flat3 a ++ flat3 b := by simp [flat3]
theorem flat3_at : ∀ (hs : List Rt) (i c : Nat), c < 3 → i < hs.length → (flat3 hs)[i * 3 + c]? = (hs[i]?).bind fun x => x.cs[c]?
  | [], i, c, hc, hi => by simp at hi
  | x :: xs, 0, c, hc, hi => by
    simp only [flat3, List.flatMap_cons, Nat.zero_mul, Nat.zero_add, List.getElem?_cons_zero, Option.bind_some]
    rw [List.getElem?_append_left (by simp [Rt.cs]; omega)]
  | x :: xs, i + 1, c, hc, hi => by
    simp only [flat3, List.flatMap_cons, List.getElem?_cons_succ]
    rw [List.getElem?_append_right (by simp [Rt.cs]; omega)]
    have := flat3_at xs i c hc (by simp at hi; omega)
    simp only [flat3] at this
    rw [← this]
    congr 1
    simp [Rt.cs]; omega
theorem flat3_one (M : List Rt) : ∀ u ∈ flat3 M, u.oneCell' = true := by
  intro u hu
  obtain ⟨x, _, hx⟩ := List.mem_flatMap.1 hu
  simp [Rt.cs] at hx
  rcases hx with rfl | rfl | rfl <;> rfl
/-- The row of the document's queue. -/
def RR (w : World) (v : Value) (M : List Rt) : Prop := QRow w 30 3 v M.length (flat3 M)
theorem RR.nil (w : World) : RR w (.slice none 0 0) [] := QRow.nil _ _ _
theorem RR.ext {F : Nat → Prop} {w w' : World} {v : Value} {M : List Rt} (h : RR w v M) (hx : Ext F w w') (hF : ∀ k, v.ownBlock = some k → ¬ F k) : RR w' v M := QRow.ext h hx hF
theorem RR.slice {w : World} {v : Value} {M : List Rt} (h : RR w v M) : ∃ A c, v = .slice A M.length c ∧ M.length ≤ c ∧ c ≤ maxLen ∧ (A = none → M.length = 0 ∧ c = 0) := QRow.slice h
/-- The three cells of item i. -/
theorem RR.at {w : World} {A : Option Addr} {c : Nat} {M : List Rt} (h : RR w (.slice A M.length c) M) {i : Nat} {x : Rt} (hi : M[i]? = some x) :
    ∃ g o, A = some ⟨g, o, none⟩ ∧ w.cell? ⟨g, o + i * 3, none⟩ = some (.int .i64 x.due) ∧ w.cell? ⟨g, o + i * 3 + 1, none⟩ = some (.int .i64 x.dest) ∧ w.cell? ⟨g, o + i * 3 + 2, none⟩ = some x.b := by
  have hl : i < M.length := (List.getElem?_eq_some_iff.1 hi).1
  obtain ⟨g, o, cap', hv, _, _, hc, _⟩ := QRow.form h (by omega)
  injection hv with hv1 _ _
  have key : ∀ c, c < 3 → w.cell? ⟨g, o + (i * 3 + c), none⟩ = x.cs[c]? := fun c hc3 => by
    rw [hc _ (by omega), flat3_at M i c hc3 hl, hi]; rfl
  exact ⟨g, o, hv1, key 0 (by omega), key 1 (by omega), key 2 (by omega)⟩
theorem RR.plain {w : World} {A : Option Addr} {c : Nat} {M : List Rt} (h : RR w (.slice A M.length c) M) (hn : 0 < M.length) : ∃ g o, A = some ⟨g, o, none⟩ ∧ (∀ j u, (flat3 M)[j]? = some u → w.cell? ((⟨g, o, none⟩ : Addr).add j) = some u) := by
  obtain ⟨g, o, cap', hv, _, _, hc, _⟩ := QRow.form h hn
  injection hv with hv1 _ _
  refine ⟨g, o, hv1, fun j u hu => ?_⟩
  have hj : j < (flat3 M).length := (List.getElem?_eq_some_iff.1 hu).1
  rw [flat3_length] at hj
  rw [add_none, hc j hj, hu]

theorem Try.info30 : (Try.prog.info? 30).map (fun i => (i.zero, i.size, i.bytes)) = some (some (.agg #[.int .i64 0, .int .i64 0, .slice none 0 0]), 3, 40) := by kernel_rfl
abbrev rq (A : Option Addr) (n c : Nat) (m : Int) : Value := .agg #[.slice A n c, .int .i64 m]
abbrev ri (x : Rt) : Value := .agg #[.int .i64 x.due, .int .i64 x.dest, .slice x.A x.l x.c]
theorem append_zero (w : World) (t ty e : TypeId) (g : Nat) (A : Option Addr) (c : Nat) (ht : Try.prog.underlying t = some (.slice e)) {i : TypeInfo} (hi : Try.prog.info? e = some i) :
    (Builtin.append_ #[t, t] ty #[.slice (some ⟨g, 0, none⟩) 0 0, .slice A 0 c]).run Try.prog w = .ok (.slice (some ⟨g, 0, none⟩) 0 0) w := by
  cases A
  · simp [Builtin.append_, run_underlying ht, sizeOf, typeInfo, hi, Builtin.lenOf, Builtin.firstCells, loadCells, loadCellsFrom, storeCells]
  · simp [Builtin.append_, run_underlying ht, sizeOf, typeInfo, hi, Builtin.lenOf, Builtin.firstCells, loadCells, loadCellsFrom, storeCells]
theorem wpList_append_zero {ops : Array Oper} {rest : List Oper} {o : Oper} {a : Act} {w : World} {Q : Exit → Act → World → Prop} (hgd : o.guard = none) (s x : Operand) (t : TypeId)
    (ho : o.op = .call { callee := .builtin .append, args := #[s, x], argTypes := #[t, t] }) (e : TypeId) (ht : Try.prog.underlying t = some (.slice e)) {i : TypeInfo} (hi : Try.prog.info? e = some i)
    (g : Nat) (A : Option Addr) (c : Nat) (hs : a.eval s = .slice (some ⟨g, 0, none⟩) 0 0) (hx : a.eval x = .slice A 0 c)
    (hK : wpList Try.prog ops Q rest (a.put o.dst (.slice (some ⟨g, 0, none⟩) 0 0)) w) : wpList Try.prog ops Q (o :: rest) a w :=
  wpList_plain hgd fun K hK' => by
    have hr := append_zero w t o.type e g A c ht hi
    unfold Oper.wp execOp
    simp only [ho, resolve, invoke, builtin, Sem.run_bind, Sem.run_pure, Result.andThen_ok, List.map_toArray, List.map_cons, List.map_nil, hs, hx, hr]
    exact hK' _ _ hK
/-- The result of a function with a struct and an error. -/
theorem rpush_end {W : World} {a : Act} {R : Ending → World → Prop} {m e : Int} {A : Option Addr} {n c : Nat} (hd : a.defers = []) {b : Nat}
    (h4 : a.tmps.getD 4 undef = .pointer (some ⟨b, 0, none⟩)) (h5 : a.tmps.getD 5 undef = .int .i64 e) (hb : W.heap[b]? = some (.cells #[.slice A n c, .int .i64 m] 38 (0, 0)))
    (hR : R (.returned (.tuple #[rq A n c m, .int .i64 e])) W) : bodyPost Try.prog Try.f16 R .ret a W := by
  have c0 : W.cell? ⟨b, 0, none⟩ = some (.slice A n c) := by rw [cellOf hb]; rfl
  have c1 : W.cell? ⟨b, 1, none⟩ = some (.int .i64 m) := by rw [cellOf hb]; rfl
  refine bodyPost_ret (v := .tuple #[rq A n c m, .int .i64 e]) ?_ hd hR
  rw [Array.getD_eq_getD_getElem?] at h4 h5
  simp [results, Try.results16, go_sem, h4, h5, c0, c1]
theorem rpush_arg (A : Option Addr) (n c : Nat) (m : Int) (x : Rt) (hl : x.l ≤ 9223372036854775807) (hm : mayB x.due x.dest x.l = false) (w : World) :
    Calls Try.prog 16 #[rq A n c m, ri x] w fun e w' => e = .returned (.tuple #[rq A n c m, .int .i64 2]) ∧ Ext NoB w w' := by
  obtain ⟨due, dest, A', l, c'⟩ := x
  have hm' : ¬ (0 ≤ due ∧ due ≤ 1099511627840 ∧ 0 ≤ dest ∧ dest ≤ 255 ∧ l ≤ 4096) := fun h => by rw [(mayB_iff due dest l).2 h] at hm; cases hm
  clear hm
  simp only at hl
  by_cases h1 : 0 ≤ due
  · by_cases h2 : due ≤ 1099511627840
    · by_cases h3 : 0 ≤ dest
      · by_cases h4 : dest ≤ 255
        · have h5 : (4096 : Int) < (l : Int) := by omega
          clear hm'
          go_enter Try.func16, Try.ntmps16
          go_wp2
          exact rpush_end rfl rfl rfl (heapNew' _ _ _ (by simp)) ⟨rfl, ((Ext.alloc NoB w _).andAlloc _).andAlloc _⟩
        · clear hm'
          go_enter Try.func16, Try.ntmps16
          go_wp2
          exact rpush_end rfl rfl rfl (heapNew' _ _ _ (by simp)) ⟨rfl, ((Ext.alloc NoB w _).andAlloc _).andAlloc _⟩
      · clear hm'
        go_enter Try.func16, Try.ntmps16
        go_wp2
        exact rpush_end rfl rfl rfl (heapNew' _ _ _ (by simp)) ⟨rfl, ((Ext.alloc NoB w _).andAlloc _).andAlloc _⟩
    · clear hm'
      go_enter Try.func16, Try.ntmps16
      go_wp2
      exact rpush_end rfl rfl rfl (heapNew' _ _ _ (by simp)) ⟨rfl, ((Ext.alloc NoB w _).andAlloc _).andAlloc _⟩
  · clear hm'
    go_enter Try.func16, Try.ntmps16
    go_wp2
    exact rpush_end rfl rfl rfl (heapNew' _ _ _ (by simp)) ⟨rfl, ((Ext.alloc NoB w _).andAlloc _).andAlloc _⟩
theorem rpush_full (A : Option Addr) (n c : Nat) (m : Int) (x : Rt) (hn : n ≤ 9223372036854775807) (hm : mayB x.due x.dest x.l = true) (hf : m ≤ n) (w : World) :
    Calls Try.prog 16 #[rq A n c m, ri x] w fun e w' => e = .returned (.tuple #[rq A n c m, .int .i64 8]) ∧ Ext NoB w w' := by
  obtain ⟨due, dest, A', l, c'⟩ := x
  obtain ⟨h1, h2, h3, h4, h5⟩ := (mayB_iff due dest l).1 hm
  have h5' : (l : Int) ≤ 4096 := by omega
  clear hm
  go_enter Try.func16, Try.ntmps16
  go_wp2
  exact rpush_end rfl rfl rfl (heapNew' _ _ _ (by simp)) ⟨rfl, ((Ext.alloc NoB w _).andAlloc _).andAlloc _⟩

/-- What a Push that is taken answers. -/
def RPushed (w : World) (M : List Rt) (m : Int) (x : Rt) (e : Ending) (w' : World) : Prop :=
  ∃ A c, e = .returned (.tuple #[rq A (M.length + 1) c m, .int .i64 0]) ∧ RR w' (.slice A (M.length + 1) c) (M ++ [x]) ∧ Ext NoB w w' ∧ ∀ k, (Value.slice A (M.length + 1) c).ownBlock = some k → w.heap.size ≤ k
set_option maxHeartbeats 800000 in
theorem rpush_ok (A : Option Addr) (c : Nat) (m : Int) (M : List Rt) (x : Rt) (hm : mayB x.due x.dest x.l = true) (hf : (M.length : Int) < m) (hM : M.length ≤ 1000000) (w : World) (hr : RR w (.slice A M.length c) M) :
    Calls Try.prog 16 #[rq A M.length c m, ri x] w (RPushed w M m x) := by
  obtain ⟨due, dest, A', l, c'⟩ := x
  obtain ⟨h1, h2, h3, h4, h5⟩ := (mayB_iff due dest l).1 hm
  have h5' : (l : Int) ≤ 4096 := by omega
  clear hm
  go_enter Try.func16, Try.ntmps16
  go_upto_region 5 with (fail)
  generalize hW1 : World.alloc (World.alloc (World.alloc w _) _) _ = W1
  have b0 : W1.heap[w.heap.size]? = some (.cells #[.slice A M.length c, .int .i64 m] 38 (0, 0)) := by
    rw [← hW1, heapAlloc _ _ _ (by simp; omega), heapAlloc _ _ _ (by simp), heapNew]
  have b1 : W1.heap[w.heap.size + 1]? = some (.cells #[.int .i64 due, .int .i64 dest, .slice A' l c'] 30 (0, 0)) := by
    rw [← hW1, heapAlloc _ _ _ (by simp), heapNew' _ _ _ (by simp)]
  have b2 : W1.heap[w.heap.size + 1 + 1]? = some (.cells #[.slice none 0 0, .int .i64 0] 38 (0, 0)) := by rw [← hW1, heapNew' _ _ _ (by simp)]
  have x1 : Ext NoB w W1 := by rw [← hW1]; exact ((Ext.alloc NoB w _).andAlloc _).andAlloc _
  clear hW1
  have z0 : W1.cell? ⟨w.heap.size, 0, none⟩ = some (.slice A M.length c) := by rw [cellOf b0]; rfl
  have hr1 := hr.ext x1 (fun _ _ h => h)
  have hnews : ∀ A2 c2 W2 W3 n2, n2 = M.length → Ext NoB W1 W2 → (∀ k, (Value.slice A2 n2 c2).ownBlock = some k → W1.heap.size ≤ k) → Ext (fun k => (Value.slice A2 n2 c2).ownBlock = some k) (W2.alloc (.cells #[.int .i64 due, .int .i64 dest, .slice A' l c'] 30)) W3 →
      W3.heap[w.heap.size]? = some (.cells #[.slice A M.length c, .int .i64 m] 38 (0, 0)) ∧ W3.heap[w.heap.size + 1 + 1]? = some (.cells #[.slice none 0 0, .int .i64 0] 38 (0, 0)) ∧ Ext NoB w W3 := fun A2 c2 W2 W3 n2 h2 h3 h4 h5 => by
    have l2 := blk_lt' b2
    have e1 := h3.andAlloc (.cells #[.int .i64 due, .int .i64 dest, .slice A' l c'] 30)
    refine ⟨h5.obj (e1.obj b0 id) (fun h => by have := h4 _ h; omega), h5.obj (e1.obj b2 id) (fun h => by have := h4 _ h; omega), (x1.then e1).trans h5 (fun _ _ h => h) (fun k hk h => by have := h4 _ h; omega)⟩
  have HN := Lib.hid hnews
  have n63 : M.length + 1 ≤ maxLen := by unfold maxLen; omega
  obtain ⟨i30, hi30, _⟩ := info_parts Try.info30
  clear hnews
  rcases Nat.eq_zero_or_pos M.length with h0 | h0
  · have hM0 : M = [] := List.eq_nil_of_length_eq_zero h0
    rw [h0] at z0
    have zA := fun ob => (Ext.alloc NoB W1 ob).cell z0 id
    go_upto_region 6 with (at_builtin; refine wpList_append_zero rfl _ _ 22 rfl 30 Try.underlying22 hi30 W1.heap.size A c rfl rfl ?_)
    have x2 : Ext NoB W1 (W1.alloc (.cells #[] 30)) := Ext.alloc _ _ _
    have hr2 : QRow (W1.alloc (.cells #[] 30)) 30 3 (.slice (some ⟨W1.heap.size, 0, none⟩) 0 0) 0 (flat3 M) := by
      rw [hM0]
      exact ⟨by simp [flat3], .inr ⟨_, 0, 0, #[], rfl, heapNew _ _, Nat.le_refl _, Nat.zero_le _, by simp, by simp [flat3]⟩⟩
    have own2 : ∀ k, (Value.slice (some ⟨W1.heap.size, 0, none⟩) 0 0).ownBlock = some k → W1.heap.size ≤ k := fun k hk => by simp [Value.ownBlock] at hk; omega
    generalize W1.alloc (.cells #[] 30) = W2 at x2 hr2 ⊢
    generalize hg2 : W1.heap.size = g2 at hr2 own2 ⊢
    rw [hg2] at HN
    clear zA hM0
    have d0 := three (((Ext.refl NoB W1).then x2).obj b1 id)
    have hq2 : QRow (W2.alloc (.cells #[.int .i64 due, .int .i64 dest, .slice A' l c'] 30)) 30 3 (.slice (some ⟨g2, 0, none⟩) 0 0) 0 (flat3 M) := QRow.ext hr2 (Ext.alloc NoB W2 _) (fun _ _ h => h)
    obtain ⟨d0, d1, d2⟩ := d0
    have y0 := x2.cell z0 id
    have hnw : ∀ j u, [Value.int .i64 due, .int .i64 dest, .slice A' l c'][j]? = some u → (W2.alloc (.cells #[.int .i64 due, .int .i64 dest, .slice A' l c'] 30)).cell? ((⟨W2.heap.size, 0, none⟩ : Addr).add j) = some u := fun j u hj => by
      rw [add_none, cellOf (heapNew W2 _), Nat.zero_add]
      simpa using hj
    have ho : ∀ u ∈ [Value.int .i64 due, .int .i64 dest, .slice A' l c'], u.oneCell' = true := by intro u hu; simp at hu; rcases hu with rfl | rfl | rfl <;> rfl
    go_upto_region 7 with (at_builtin; refine wpList_append_q rfl _ _ 22 rfl 30 3 40 (.agg #[.int .i64 0, .int .i64 0, .slice none 0 0]) Try.underlying22 Try.info30 rfl (by decide) (.slice (some ⟨g2, 0, none⟩) 0 0) 0 (flat3 M) rfl hq2 ⟨W2.heap.size, 0, none⟩ 1 1 [Value.int .i64 due, .int .i64 dest, .slice A' l c'] rfl rfl hnw ho (by decide) (by first | omega | decide) (by omega) ?_)
    intro g3 o3 c3 W3 hq3 x3 hg3
    obtain ⟨p0, p2, xx3⟩ := HN.out _ _ _ _ _ (by omega) x2 own2 x3
    have v0 := cellOf p0 0
    have v1 := cellOf p0 1
    have f0 := freeOf p0 0
    go_upto_region 7 with (fail)
    have p0' : (W3.setCell ⟨w.heap.size, 0, none⟩ (.slice (some ⟨g3, o3, none⟩) 1 c3)).heap[w.heap.size]? = some (.cells #[.slice (some ⟨g3, o3, none⟩) 1 c3, .int .i64 m] 38 (0, 0)) := by rw [heapSet p0]; rfl
    have p2' : (W3.setCell ⟨w.heap.size, 0, none⟩ (.slice (some ⟨g3, o3, none⟩) 1 c3)).heap[w.heap.size + 1 + 1]? = some (.cells #[.slice none 0 0, .int .i64 0] 38 (0, 0)) := by rw [heapSetNe _ (by simp; omega)]; exact p2
    have hq3' : QRow (W3.setCell ⟨w.heap.size, 0, none⟩ (.slice (some ⟨g3, o3, none⟩) 1 c3)) 30 3 (.slice (some ⟨g3, o3, none⟩) 1 c3) 1 (flat3 M ++ [Value.int .i64 due, .int .i64 dest, .slice A' l c']) := hq3.ext (Ext.setCell (F := fun k => k = w.heap.size) _ _ _ fun _ => rfl) (fun k hk e => hq3.neBlk p0 (by decide) (by rw [hk, e]))
    have xx4 : Ext NoB w (W3.setCell ⟨w.heap.size, 0, none⟩ (.slice (some ⟨g3, o3, none⟩) 1 c3)) := xx3.andSet _ _ fun h => absurd h (by simp)
    have own3 : w.heap.size ≤ g3 := by
      have l2 := blk_lt' b2
      have s2 := x2.size
      rcases hg3 with h | h
      · have := own2 _ h; omega
      · omega
    generalize W3.setCell ⟨w.heap.size, 0, none⟩ (.slice (some ⟨g3, o3, none⟩) 1 c3) = W4 at p0' p2' hq3' xx4 ⊢
    clear p0 p2 xx3 v0 v1 f0 hq3 x3 hg3 hq2 hnw ho d0 d1 d2 y0
    have v0 := cellOf p0' 0
    have v1 := cellOf p0' 1
    have q0 := cellOf p2' 0
    have q1 := cellOf p2' 1
    have f0 := freeOf p2' 0
    have f1 := freeOf p2' 1
    go_wp2_with fail
    have xx5 : Ext NoB w ((W4.setCell ⟨w.heap.size + 1 + 1, 0, none⟩ (.slice (some ⟨g3, o3, none⟩) 1 c3)).setCell ⟨w.heap.size + 1 + 1, 1, none⟩ (.int .i64 m)) := (xx4.andSet _ _ fun h => absurd h (by simp; omega)).andSet _ _ fun h => absurd h (by simp; omega)
    have hq5 : QRow ((W4.setCell ⟨w.heap.size + 1 + 1, 0, none⟩ (.slice (some ⟨g3, o3, none⟩) 1 c3)).setCell ⟨w.heap.size + 1 + 1, 1, none⟩ (.int .i64 m)) 30 3 (.slice (some ⟨g3, o3, none⟩) 1 c3) 1 (flat3 M ++ [Value.int .i64 due, .int .i64 dest, .slice A' l c']) :=
      hq3'.ext ((Ext.setCell (F := fun k => k = w.heap.size + 1 + 1) _ _ _ fun _ => rfl).andSet _ _ fun _ => rfl) (fun k hk e => hq3'.neBlk p2' (by decide) (by rw [hk, e]))
    refine rpush_end rfl rfl rfl (by rw [heapSet (heapSet p2' _ _) _ _]; rfl) ⟨some ⟨g3, o3, none⟩, c3, ?_, ?_, xx5, fun k hk => ?_⟩
    · rw [h0]
    · unfold RR
      rw [flat3_append]
      simp only [List.length_append, h0, List.length_cons, List.length_nil]
      exact hq5
    · simp [Value.ownBlock] at hk; omega
  · obtain ⟨g1, o1, rfl, hcells⟩ := hr1.plain h0
    have zA := fun ob => (Ext.alloc NoB W1 ob).cell z0 id
    go_upto_region 6 with (at_builtin; refine wpList_append_q rfl _ _ 22 rfl 30 3 40 (.agg #[.int .i64 0, .int .i64 0, .slice none 0 0]) Try.underlying22 Try.info30 rfl (by decide) (.slice (some ⟨W1.heap.size, 0, none⟩) 0 0) 0 [] rfl ?_ ⟨g1, o1, none⟩ M.length c (flat3 M) rfl (flat3_length M) ?_ (flat3_one M) h0 (by unfold maxLen; omega) (by omega) ?_; rotate_left 2; intro g2 o2 c2 W2 hr2 x2' hg2)
    rotate_left 1
    · exact ⟨by simp, .inr ⟨_, 0, 0, #[], rfl, heapNew _ _, Nat.le_refl _, Nat.zero_le _, by simp, by simp⟩⟩
    · intro j u hu
      have := hcells j u hu
      exact (Ext.alloc NoB W1 _).cell this id
    rw [Nat.zero_add, List.nil_append] at hr2
    have x2 : Ext NoB W1 W2 := (Ext.alloc NoB W1 (.cells #[] 30)).trans x2' (fun _ _ h => h) (fun k hk h => by simp [Value.ownBlock] at h; omega)
    have own2 : ∀ k, (Value.slice (some ⟨g2, o2, none⟩) M.length c2).ownBlock = some k → W1.heap.size ≤ k := fun k hk => by
      simp [Value.ownBlock] at hk hg2; omega
    clear x2' hg2 hcells zA
    have d0 := three (((Ext.refl NoB W1).then x2).obj b1 id)
    have hq2 : QRow (W2.alloc (.cells #[.int .i64 due, .int .i64 dest, .slice A' l c'] 30)) 30 3 (.slice (some ⟨g2, o2, none⟩) M.length c2) M.length (flat3 M) := QRow.ext hr2 (Ext.alloc NoB W2 _) (fun _ _ h => h)
    obtain ⟨d0, d1, d2⟩ := d0
    have y0 := x2.cell z0 id
    have hnw : ∀ j u, [Value.int .i64 due, .int .i64 dest, .slice A' l c'][j]? = some u → (W2.alloc (.cells #[.int .i64 due, .int .i64 dest, .slice A' l c'] 30)).cell? ((⟨W2.heap.size, 0, none⟩ : Addr).add j) = some u := fun j u hj => by
      rw [add_none, cellOf (heapNew W2 _), Nat.zero_add]
      simpa using hj
    have ho : ∀ u ∈ [Value.int .i64 due, .int .i64 dest, .slice A' l c'], u.oneCell' = true := by intro u hu; simp at hu; rcases hu with rfl | rfl | rfl <;> rfl
    go_upto_region 7 with (at_builtin; refine wpList_append_q rfl _ _ 22 rfl 30 3 40 (.agg #[.int .i64 0, .int .i64 0, .slice none 0 0]) Try.underlying22 Try.info30 rfl (by decide) (.slice (some ⟨g2, o2, none⟩) M.length c2) M.length (flat3 M) rfl hq2 ⟨W2.heap.size, 0, none⟩ 1 1 [Value.int .i64 due, .int .i64 dest, .slice A' l c'] rfl rfl hnw ho (by decide) (by first | omega | decide) (by omega) ?_)
    intro g3 o3 c3 W3 hq3 x3 hg3
    obtain ⟨p0, p2, xx3⟩ := HN.out _ _ _ _ _ (by omega) x2 own2 x3
    have v0 := cellOf p0 0
    have v1 := cellOf p0 1
    have f0 := freeOf p0 0
    go_upto_region 7 with (fail)
    have p0' : (W3.setCell ⟨w.heap.size, 0, none⟩ (.slice (some ⟨g3, o3, none⟩) (M.length + 1) c3)).heap[w.heap.size]? = some (.cells #[.slice (some ⟨g3, o3, none⟩) (M.length + 1) c3, .int .i64 m] 38 (0, 0)) := by rw [heapSet p0]; rfl
    have p2' : (W3.setCell ⟨w.heap.size, 0, none⟩ (.slice (some ⟨g3, o3, none⟩) (M.length + 1) c3)).heap[w.heap.size + 1 + 1]? = some (.cells #[.slice none 0 0, .int .i64 0] 38 (0, 0)) := by rw [heapSetNe _ (by simp; omega)]; exact p2
    have hq3' : QRow (W3.setCell ⟨w.heap.size, 0, none⟩ (.slice (some ⟨g3, o3, none⟩) (M.length + 1) c3)) 30 3 (.slice (some ⟨g3, o3, none⟩) (M.length + 1) c3) (M.length + 1) (flat3 M ++ [Value.int .i64 due, .int .i64 dest, .slice A' l c']) := hq3.ext (Ext.setCell (F := fun k => k = w.heap.size) _ _ _ fun _ => rfl) (fun k hk e => hq3.neBlk p0 (by decide) (by rw [hk, e]))
    have xx4 : Ext NoB w (W3.setCell ⟨w.heap.size, 0, none⟩ (.slice (some ⟨g3, o3, none⟩) (M.length + 1) c3)) := xx3.andSet _ _ fun h => absurd h (by simp)
    have own3 : w.heap.size ≤ g3 := by
      have l2 := blk_lt' b2
      have s2 := x2.size
      rcases hg3 with h | h
      · have := own2 _ h; omega
      · omega
    generalize W3.setCell ⟨w.heap.size, 0, none⟩ (.slice (some ⟨g3, o3, none⟩) (M.length + 1) c3) = W4 at p0' p2' hq3' xx4 ⊢
    clear p0 p2 xx3 v0 v1 f0 hq3 x3 hg3 hq2 hnw ho d0 d1 d2 y0
    have v0 := cellOf p0' 0
    have v1 := cellOf p0' 1
    have q0 := cellOf p2' 0
    have q1 := cellOf p2' 1
    have f0 := freeOf p2' 0
    have f1 := freeOf p2' 1
    go_wp2_with fail
    have xx5 : Ext NoB w ((W4.setCell ⟨w.heap.size + 1 + 1, 0, none⟩ (.slice (some ⟨g3, o3, none⟩) (M.length + 1) c3)).setCell ⟨w.heap.size + 1 + 1, 1, none⟩ (.int .i64 m)) := (xx4.andSet _ _ fun h => absurd h (by simp; omega)).andSet _ _ fun h => absurd h (by simp; omega)
    have hq5 : QRow ((W4.setCell ⟨w.heap.size + 1 + 1, 0, none⟩ (.slice (some ⟨g3, o3, none⟩) (M.length + 1) c3)).setCell ⟨w.heap.size + 1 + 1, 1, none⟩ (.int .i64 m)) 30 3 (.slice (some ⟨g3, o3, none⟩) (M.length + 1) c3) (M.length + 1) (flat3 M ++ [Value.int .i64 due, .int .i64 dest, .slice A' l c']) :=
      hq3'.ext ((Ext.setCell (F := fun k => k = w.heap.size + 1 + 1) _ _ _ fun _ => rfl).andSet _ _ fun _ => rfl) (fun k hk e => hq3'.neBlk p2' (by decide) (by rw [hk, e]))
    refine rpush_end rfl rfl rfl (by rw [heapSet (heapSet p2' _ _) _ _]; rfl) ⟨some ⟨g3, o3, none⟩, c3, ?_, ?_, xx5, fun k hk => ?_⟩
    · rfl
    · unfold RR
      rw [flat3_append]
      simp only [List.length_append, List.length_cons, List.length_nil]
      exact hq5
    · simp [Value.ownBlock] at hk; omega
end Go.Proofs.Ytaphhadahajohaa
