/- The reference's Push and At. -/
import Derived.Test.YtapckbbbcjaahaaD
set_option linter.unusedVariables false
namespace Go.Proofs.Ytapckbbbcjaahaa
open Go.RowKit

theorem Bytes.ext' {F : Nat → Prop} {w w' : World} {v : Value} {xs : List Int} (h : Bytes w v xs) (hx : Ext F w w') (hF : xs = [] ∨ ∀ k, v.ownBlock = some k → ¬ F k) : Bytes w' v xs := by
  rcases hF with hF | hF
  · subst hF
    rcases h with h | ⟨a, c, rfl, h1, h2, _⟩
    · exact .inl h
    · exact .inr ⟨a, c, rfl, h1, h2, fun j hj => by simp at hj⟩
  · exact h.ext hx fun k _ hk => hF k hk
/-- What waits in the reference: a row of slices of bytes that are only read. -/
def RLine (w : World) (v : Value) (L : List (List Int)) (G : Nat → Prop) : Prop :=
  ∃ vs, QRow w 32 1 v L.length vs ∧ (∀ (i : Nat) (u : Value) (bs : List Int), vs[i]? = some u → L[i]? = some bs → Bytes w u bs ∧ (bs = [] ∨ ∀ k, u.ownBlock = some k → G k)) ∧ ∀ k, v.ownBlock = some k → G k
theorem RLine.ext {w w' : World} {v : Value} {L : List (List Int)} {F G : Nat → Prop} (h : RLine w v L G) (hx : Ext F w w') (hd : ∀ k, G k → ¬ F k) : RLine w' v L G := by
  obtain ⟨vs, hq, he, hs⟩ := h
  refine ⟨vs, hq.ext hx fun k hk => hd k (hs k hk), fun i u bs h1 h2 => ?_, hs⟩
  obtain ⟨h3, h4⟩ := he i u bs h1 h2
  exact ⟨h3.ext' hx (h4.imp id fun h k hk => hd k (h k hk)), h4⟩
theorem RLine.mono {w : World} {v : Value} {L : List (List Int)} {F G : Nat → Prop} (h : RLine w v L F) (hG : ∀ k, F k → G k) : RLine w v L G := by
  obtain ⟨vs, hq, he, hs⟩ := h
  exact ⟨vs, hq, fun i u bs h1 h2 => ⟨(he i u bs h1 h2).1, (he i u bs h1 h2).2.imp id fun h k hk => hG k (h k hk)⟩, fun k hk => hG k (hs k hk)⟩

theorem rpush_big (p ph m last : Int) (A : Option Addr) (n c : Nat) (A' : Option Addr) (n' c' : Nat) (w : World) (h : 4096 < n') :
    Calls Try.prog 11 #[rv p ph m A n c last, .slice A' n' c'] w fun e w' => e = .returned (.tuple #[rv p ph m A n c last, .int .i64 2]) ∧ Ext NoB w w' := by
  have h' : (4096 : Int) < (n' : Int) := by omega
  go_enter Try.func11, Try.ntmps11
  go_wp2
  exact bodyPost_ret (v := .tuple #[rv p ph m A n c last, .int .i64 2]) (by simp [results, Try.results11, go_sem]) rfl ⟨rfl, ((Ext.alloc _ _ _).andAlloc _)⟩
theorem rpush_full (p ph m last : Int) (A : Option Addr) (n c : Nat) (A' : Option Addr) (n' c' : Nat) (w : World) (h : n' ≤ 4096) (h2 : m ≤ n) :
    Calls Try.prog 11 #[rv p ph m A n c last, .slice A' n' c'] w fun e w' => e = .returned (.tuple #[rv p ph m A n c last, .int .i64 8]) ∧ Ext NoB w w' := by
  have h' : (n' : Int) ≤ (4096 : Int) := by omega
  go_enter Try.func11, Try.ntmps11
  go_wp2
  exact bodyPost_ret (v := .tuple #[rv p ph m A n c last, .int .i64 8]) (by simp [results, Try.results11, go_sem]) rfl ⟨rfl, ((Ext.alloc _ _ _).andAlloc _)⟩
/-- Five cells of a block. -/
theorem five {w : World} {b : Nat} {a0 a1 a2 a3 a4 : Value} {e : TypeId} (h : w.heap[b]? = some (.cells #[a0, a1, a2, a3, a4] e (0, 0))) :
    (w.cell? ⟨b, 0, none⟩ = some a0 ∧ w.cell? ⟨b, 1, none⟩ = some a1 ∧ w.cell? ⟨b, 2, none⟩ = some a2 ∧ w.cell? ⟨b, 3, none⟩ = some a3 ∧ w.cell? ⟨b, 4, none⟩ = some a4) ∧
      w.frozen? ⟨b, 0, none⟩ = false ∧ w.frozen? ⟨b, 1, none⟩ = false ∧ w.frozen? ⟨b, 2, none⟩ = false ∧ w.frozen? ⟨b, 3, none⟩ = false ∧ w.frozen? ⟨b, 4, none⟩ = false :=
  ⟨⟨by rw [cellOf h]; rfl, by rw [cellOf h]; rfl, by rw [cellOf h]; rfl, by rw [cellOf h]; rfl, by rw [cellOf h]; rfl⟩, freeOf h 0, freeOf h 1, freeOf h 2, freeOf h 3, freeOf h 4⟩
theorem heap_three (w : World) (a b c : Obj) : (((w.alloc a).alloc b).alloc c).heap[w.heap.size]? = some a ∧ (((w.alloc a).alloc b).alloc c).heap[w.heap.size + 1]? = some b ∧ (((w.alloc a).alloc b).alloc c).heap[w.heap.size + 1 + 1]? = some c := by
  refine ⟨?_, ?_, ?_⟩
  · rw [heapAlloc _ _ _ (by simp; omega), heapAlloc _ _ _ (by simp), heapNew]
  · have := heapNew (w.alloc a) b
    rw [heapAlloc _ _ _ (by simp)]
    simpa using this
  · have := heapNew ((w.alloc a).alloc b) c
    simpa using this
/-- Behind the reference's Push: a new row, the old one and one more. -/
def RPushed (w : World) (p ph m last : Int) (n : Nat) (xs : List Value) (e : Ending) (w' : World) : Prop :=
  ∃ g off cap, e = .returned (.tuple #[rv p ph m (some ⟨g, off, none⟩) n cap last, .int .i64 0]) ∧ QRow w' 32 1 (.slice (some ⟨g, off, none⟩) n cap) n xs ∧ w.heap.size ≤ g ∧ Ext NoB w w'
set_option maxHeartbeats 1600000 in
theorem rpush_ok (p ph m last : Int) (A : Option Addr) (n c : Nat) (A' : Option Addr) (n' c' : Nat) (vs : List Value) (w : World) (h : n' ≤ 4096) (h2 : n < m) (hm : m ≤ 256) (hq : QRow w 32 1 (.slice A n c) n vs) (hv1 : ∀ u ∈ vs, u.oneCell' = true) (hn : 0 < n) :
    Calls Try.prog 11 #[rv p ph m A n c last, .slice A' n' c'] w (RPushed w p ph m last (n + 1) (vs ++ [.slice A' n' c'])) := by
  have h' : (n' : Int) ≤ (4096 : Int) := by omega
  obtain ⟨g, off, cap, hv, h3, h4, hc, hf⟩ := hq.form hn
  simp only [Value.slice.injEq] at hv
  obtain ⟨rfl, -, rfl⟩ := hv
  have hvl : vs.length = n := by simpa using hq.1
  go_enter Try.func11, Try.ntmps11
  go_wp2_with (at_builtin; refine wpList_append_q rfl (.tmp 18) (.tmp 20) 28 rfl 32 1 24 (.slice none 0 0) Try.underlying28 Try.info32 rfl (by decide) (.slice (some ⟨w.heap.size + 1 + 1, 0, none⟩) 0 0) 0 [] rfl ?hq ⟨g, off, none⟩ n c vs rfl (by simpa using hvl) ?hn ?h1 hn ?hm ?hb ?hK)
  case hq => exact ⟨by simp, .inr ⟨_, 0, 0, #[], rfl, (heap_three w _ _ _).2.2, Nat.le_refl _, Nat.zero_le _, by simp, by simp⟩⟩
  case hn =>
    intro j u hu
    have hj : j < n := by have := (List.getElem?_eq_some_iff.1 hu).1; omega
    have hcw := hc j (by simpa using hj)
    rw [hu] at hcw
    rw [add_none]
    exact (((Ext.alloc NoB w _).andAlloc _).andAlloc _).cell hcw fun h => h
  case h1 => exact hv1
  case hm => unfold maxLen; omega
  case hb => omega
  case hK =>
    intro g1 o1 cap1 w2 hq2 hx2 hg2
    obtain ⟨t1, t2, t3⟩ := heap_three w (.cells #[.int .i64 p, .int .i64 ph, .int .i64 m, .slice (some ⟨g, off, none⟩) n c, .int .i64 last] 30) (.cells #[.int .i64 0, .int .i64 0, .int .i64 0, .slice none 0 0, .int .i64 0] 30) (.cells #[] 32)
    have hown : ∀ k, k < w.heap.size + 1 + 1 → ¬ (Value.slice (some ⟨w.heap.size + 1 + 1, 0, none⟩) 0 0).ownBlock = some k := fun k hk h => by simp [Value.ownBlock] at h; omega
    have b1 := hx2.obj t1 (hown _ (by omega))
    have b2 := hx2.obj t2 (hown _ (by omega))
    have hg1 : w.heap.size + 1 + 1 ≤ g1 := by
      rcases hg2 with h | h
      · simp [Value.ownBlock] at h; omega
      · omega
    have hx : Ext NoB w w2 := (((Ext.alloc NoB w _).andAlloc _).andAlloc _).trans hx2 (fun _ _ h => h.elim) fun k hk h => hown k (by omega) h
    have Hx := Lib.hid hx2
    clear t1 t2 t3 hx2 hg2 hc hf hq
    go_wp2_with (at_builtin; refine wpList_append_q rfl (.tmp 22) (.tmp 24) 28 rfl 32 1 24 (.slice none 0 0) Try.underlying28 Try.info32 rfl (by decide) (.slice (some ⟨g1, o1, none⟩) n cap1) n vs rfl ?hqB ⟨w2.heap.size, 0, none⟩ 1 1 [.slice A' n' c'] rfl rfl (new_one _ _ _) (one_of rfl) (by decide) ?hmB ?hbB ?hKB)
    case hqB => exact hq2.ext (Ext.alloc NoB w2 _) fun _ _ h => h
    case hmB => unfold maxLen; omega
    case hbB => omega
    case hKB =>
      intro g3 o3 cap3 w3 hq3 hx3 hg3
      have hx3' : Ext NoB w w3 := (hx.andAlloc _).trans hx3 (fun _ _ h => h.elim) fun k hk h => by simp [Value.ownBlock] at h; omega
      have d1 := hx3.obj ((Ext.alloc NoB w2 _).obj b1 fun h => h) (fun h => by simp [Value.ownBlock] at h; omega)
      have d2 := hx3.obj ((Ext.alloc NoB w2 _).obj b2 fun h => h) (fun h => by simp [Value.ownBlock] at h; omega)
      obtain ⟨⟨e0, e1, e2, e3, e4⟩, f0, f1, f2, f3, f4⟩ := five d1
      obtain ⟨⟨i0, i1, i2, i3, i4⟩, j0, j1, j2, j3, j4⟩ := five d2
      have hgg : w.heap.size ≤ g3 := by
        rcases hg3 with h | h
        · simp [Value.ownBlock] at h; omega
        · have := hx.size; omega
      clear hx3 hg3
      go_wp2
      have hs1 : ∀ (F : Nat → Prop) (v0 v1 v2 v3 v4 v5 : Value), (∀ k, k = w.heap.size ∨ k = w.heap.size + 1 → F k) → Ext F w3 ((((((w3.setCell ⟨w.heap.size, 3, none⟩ v0).setCell ⟨w.heap.size + 1, 0, none⟩ v1).setCell ⟨w.heap.size + 1, 1, none⟩ v2).setCell ⟨w.heap.size + 1, 2, none⟩ v3).setCell ⟨w.heap.size + 1, 3, none⟩ v4).setCell ⟨w.heap.size + 1, 4, none⟩ v5) := fun F v0 v1 v2 v3 v4 v5 hF =>
        (((((Ext.setCell w3 _ _ fun _ => hF _ (.inl rfl)).andSet _ _ fun _ => hF _ (.inr rfl)).andSet _ _ fun _ => hF _ (.inr rfl)).andSet _ _ fun _ => hF _ (.inr rfl)).andSet _ _ fun _ => hF _ (.inr rfl)).andSet _ _ fun _ => hF _ (.inr rfl)
      refine bodyPost_ret (v := .tuple #[rv p ph m (some ⟨g3, o3, none⟩) (n + 1) cap3 last, .int .i64 0]) (by simp [results, Try.results11, go_sem, i0, i1, i2, i3, i4]) rfl ⟨g3, o3, cap3, rfl, ?_, hgg, ?_⟩
      · refine hq3.ext (hs1 (fun k => k = w.heap.size ∨ k = w.heap.size + 1) _ _ _ _ _ _ fun _ h => h) fun k hk h => ?_
        rcases h with h | h
        · exact hq3.neBlk d1 (by decide) (by rw [hk, h])
        · exact hq3.neBlk d2 (by decide) (by rw [hk, h])
      · exact hx3'.trans (hs1 (fun k => k = w.heap.size ∨ k = w.heap.size + 1) _ _ _ _ _ _ fun _ h => h) (fun _ _ h => h.elim) fun k hk h => by rcases h with h | h <;> omega
set_option maxHeartbeats 1600000 in
theorem rpush_ok_nil (p ph m last : Int) (A' : Option Addr) (n' c' : Nat) (w : World) (h : n' ≤ 4096) (hm0 : 1 ≤ m) :
    Calls Try.prog 11 #[rv p ph m none 0 0 last, .slice A' n' c'] w (RPushed w p ph m last 1 [.slice A' n' c']) := by
  have h' : (n' : Int) ≤ (4096 : Int) := by omega
  have hm1 : 0 < m := by omega
  go_enter Try.func11, Try.ntmps11
  go_wp2_with (at_builtin; refine wpList_append_q rfl (.tmp 22) (.tmp 24) 28 rfl 32 1 24 (.slice none 0 0) Try.underlying28 Try.info32 rfl (by decide) (.slice (some ⟨w.heap.size + 1 + 1, 0, none⟩) 0 0) 0 [] rfl ?hqB ⟨w.heap.size + 1 + 1 + 1, 0, none⟩ 1 1 [.slice A' n' c'] rfl rfl ?hnB (one_of rfl) (by decide) ?hmB ?hbB ?hKB)
  case hqB => exact ⟨by simp, .inr ⟨_, 0, 0, #[], rfl, by rw [heapAlloc _ _ _ (by simp)]; exact (heap_three w _ _ _).2.2, Nat.le_refl _, Nat.zero_le _, by simp, by simp⟩⟩
  try case hnB =>
    have hz : ∀ a b c : Obj, (((w.alloc a).alloc b).alloc c).heap.size = w.heap.size + 1 + 1 + 1 := fun a b c => by simp
    rw [← hz]
    exact new_one _ _ _
  case hmB => unfold maxLen; omega
  case hbB => omega
  case hKB =>
    intro g3 o3 cap3 w3 hq3 hx3 hg3
    have hx : ∀ a b c d : Obj, Ext NoB w ((((w.alloc a).alloc b).alloc c).alloc d) := fun a b c d => (((Ext.alloc NoB w _).andAlloc _).andAlloc _).andAlloc _
    have hx3' : Ext NoB w w3 := (hx _ _ _ _).trans hx3 (fun _ _ h => h.elim) fun k hk h => by simp [Value.ownBlock] at h; omega
    have hh := fun (a b c d : Obj) => (Ext.alloc NoB (((w.alloc a).alloc b).alloc c) d).obj (heap_three w a b c).1 (fun h => h)
    have hh2 := fun (a b c d : Obj) => (Ext.alloc NoB (((w.alloc a).alloc b).alloc c) d).obj (heap_three w a b c).2.1 (fun h => h)
    have d1 := hx3.obj (hh _ _ _ _) (fun h => by simp [Value.ownBlock] at h; omega)
    have d2 := hx3.obj (hh2 _ _ _ _) (fun h => by simp [Value.ownBlock] at h <;> omega)
    obtain ⟨⟨e0, e1, e2, e3, e4⟩, f0, f1, f2, f3, f4⟩ := five d1
    obtain ⟨⟨i0, i1, i2, i3, i4⟩, j0, j1, j2, j3, j4⟩ := five d2
    have hgg : w.heap.size ≤ g3 := by
      rcases hg3 with h | h
      · simp [Value.ownBlock] at h; omega
      · omega
    clear hx3 hg3 hx hh hh2
    go_wp2
    have hs1 : ∀ (F : Nat → Prop) (v0 v1 v2 v3 v4 v5 : Value), (∀ k, k = w.heap.size ∨ k = w.heap.size + 1 → F k) → Ext F w3 ((((((w3.setCell ⟨w.heap.size, 3, none⟩ v0).setCell ⟨w.heap.size + 1, 0, none⟩ v1).setCell ⟨w.heap.size + 1, 1, none⟩ v2).setCell ⟨w.heap.size + 1, 2, none⟩ v3).setCell ⟨w.heap.size + 1, 3, none⟩ v4).setCell ⟨w.heap.size + 1, 4, none⟩ v5) := fun F v0 v1 v2 v3 v4 v5 hF =>
      (((((Ext.setCell w3 _ _ fun _ => hF _ (.inl rfl)).andSet _ _ fun _ => hF _ (.inr rfl)).andSet _ _ fun _ => hF _ (.inr rfl)).andSet _ _ fun _ => hF _ (.inr rfl)).andSet _ _ fun _ => hF _ (.inr rfl)).andSet _ _ fun _ => hF _ (.inr rfl)
    refine bodyPost_ret (v := .tuple #[rv p ph m (some ⟨g3, o3, none⟩) 1 cap3 last, .int .i64 0]) (by simp [results, Try.results11, go_sem, i0, i1, i2, i3, i4]) rfl ⟨g3, o3, cap3, rfl, ?_, hgg, ?_⟩
    · refine QRow.ext (w := w3) (by simpa using hq3) (hs1 (fun k => k = w.heap.size ∨ k = w.heap.size + 1) _ _ _ _ _ _ fun _ h => h) fun k hk h => ?_
      rcases h with h | h
      · exact hq3.neBlk d1 (by decide) (by simpa [Value.ownBlock, h] using hk)
      · exact hq3.neBlk d2 (by decide) (by simpa [Value.ownBlock, h] using hk)
    · exact hx3'.trans (hs1 (fun k => k = w.heap.size ∨ k = w.heap.size + 1) _ _ _ _ _ _ fun _ h => h) (fun _ _ h => h.elim) fun k hk h => by rcases h with h | h <;> omega
set_option maxHeartbeats 1600000 in
theorem rpush_ok_none (p ph m last : Int) (a : Addr) (c : Nat) (A' : Option Addr) (n' c' : Nat) (w : World) (h : n' ≤ 4096) (hm0 : 1 ≤ m) :
    Calls Try.prog 11 #[rv p ph m (some a) 0 c last, .slice A' n' c'] w (RPushed w p ph m last 1 [.slice A' n' c']) := by
  have h' : (n' : Int) ≤ (4096 : Int) := by omega
  have hm1 : 0 < m := by omega
  go_enter Try.func11, Try.ntmps11
  go_wp2_with (at_builtin; refine wpList_append_q rfl (.tmp 22) (.tmp 24) 28 rfl 32 1 24 (.slice none 0 0) Try.underlying28 Try.info32 rfl (by decide) (.slice (some ⟨w.heap.size + 1 + 1, 0, none⟩) 0 0) 0 [] rfl ?hqB ⟨w.heap.size + 1 + 1 + 1, 0, none⟩ 1 1 [.slice A' n' c'] rfl rfl ?hnB (one_of rfl) (by decide) ?hmB ?hbB ?hKB)
  case hqB => exact ⟨by simp, .inr ⟨_, 0, 0, #[], rfl, by rw [heapAlloc _ _ _ (by simp)]; exact (heap_three w _ _ _).2.2, Nat.le_refl _, Nat.zero_le _, by simp, by simp⟩⟩
  try case hnB =>
    have hz : ∀ a b c : Obj, (((w.alloc a).alloc b).alloc c).heap.size = w.heap.size + 1 + 1 + 1 := fun a b c => by simp
    rw [← hz]
    exact new_one _ _ _
  case hmB => unfold maxLen; omega
  case hbB => omega
  case hKB =>
    intro g3 o3 cap3 w3 hq3 hx3 hg3
    have hx : ∀ a b c d : Obj, Ext NoB w ((((w.alloc a).alloc b).alloc c).alloc d) := fun a b c d => (((Ext.alloc NoB w _).andAlloc _).andAlloc _).andAlloc _
    have hx3' : Ext NoB w w3 := (hx _ _ _ _).trans hx3 (fun _ _ h => h.elim) fun k hk h => by simp [Value.ownBlock] at h; omega
    have hh := fun (a b c d : Obj) => (Ext.alloc NoB (((w.alloc a).alloc b).alloc c) d).obj (heap_three w a b c).1 (fun h => h)
    have hh2 := fun (a b c d : Obj) => (Ext.alloc NoB (((w.alloc a).alloc b).alloc c) d).obj (heap_three w a b c).2.1 (fun h => h)
    have d1 := hx3.obj (hh _ _ _ _) (fun h => by simp [Value.ownBlock] at h; omega)
    have d2 := hx3.obj (hh2 _ _ _ _) (fun h => by simp [Value.ownBlock] at h <;> omega)
    obtain ⟨⟨e0, e1, e2, e3, e4⟩, f0, f1, f2, f3, f4⟩ := five d1
    obtain ⟨⟨i0, i1, i2, i3, i4⟩, j0, j1, j2, j3, j4⟩ := five d2
    have hgg : w.heap.size ≤ g3 := by
      rcases hg3 with h | h
      · simp [Value.ownBlock] at h; omega
      · omega
    clear hx3 hg3 hx hh hh2
    go_wp2
    have hs1 : ∀ (F : Nat → Prop) (v0 v1 v2 v3 v4 v5 : Value), (∀ k, k = w.heap.size ∨ k = w.heap.size + 1 → F k) → Ext F w3 ((((((w3.setCell ⟨w.heap.size, 3, none⟩ v0).setCell ⟨w.heap.size + 1, 0, none⟩ v1).setCell ⟨w.heap.size + 1, 1, none⟩ v2).setCell ⟨w.heap.size + 1, 2, none⟩ v3).setCell ⟨w.heap.size + 1, 3, none⟩ v4).setCell ⟨w.heap.size + 1, 4, none⟩ v5) := fun F v0 v1 v2 v3 v4 v5 hF =>
      (((((Ext.setCell w3 _ _ fun _ => hF _ (.inl rfl)).andSet _ _ fun _ => hF _ (.inr rfl)).andSet _ _ fun _ => hF _ (.inr rfl)).andSet _ _ fun _ => hF _ (.inr rfl)).andSet _ _ fun _ => hF _ (.inr rfl)).andSet _ _ fun _ => hF _ (.inr rfl)
    refine bodyPost_ret (v := .tuple #[rv p ph m (some ⟨g3, o3, none⟩) 1 cap3 last, .int .i64 0]) (by simp [results, Try.results11, go_sem, i0, i1, i2, i3, i4]) rfl ⟨g3, o3, cap3, rfl, ?_, hgg, ?_⟩
    · refine QRow.ext (w := w3) (by simpa using hq3) (hs1 (fun k => k = w.heap.size ∨ k = w.heap.size + 1) _ _ _ _ _ _ fun _ h => h) fun k hk h => ?_
      rcases h with h | h
      · exact hq3.neBlk d1 (by decide) (by simpa [Value.ownBlock, h] using hk)
      · exact hq3.neBlk d2 (by decide) (by simpa [Value.ownBlock, h] using hk)
    · exact hx3'.trans (hs1 (fun k => k = w.heap.size ∨ k = w.heap.size + 1) _ _ _ _ _ _ fun _ h => h) (fun _ _ h => h.elim) fun k hk h => by rcases h with h | h <;> omega
end Go.Proofs.Ytapckbbbcjaahaa
