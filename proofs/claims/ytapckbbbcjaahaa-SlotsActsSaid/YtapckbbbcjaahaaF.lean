/- The reference's Push and At, whole. -/
import Derived.Test.YtapckbbbcjaahaaE
set_option linter.unusedVariables false
namespace Go.Proofs.Ytapckbbbcjaahaa
open Go.RowKit

theorem bytes_one {w : World} {v : Value} {bs : List Int} (h : Bytes w v bs) : v.oneCell' = true := by
  obtain ⟨A, c, rfl, _⟩ := h.shape
  rfl
/-- The reference's line grown by one. -/
theorem RLine.snoc {w w' : World} {g off cap : Nat} {L : List (List Int)} {G : Nat → Prop} {vs : List Value} {v : Value} {bs : List Int}
    (hq : QRow w' 32 1 (.slice (some ⟨g, off, none⟩) (L.length + 1) cap) (L.length + 1) (vs ++ [v])) (hg : w.heap.size ≤ g) (hx : Ext NoB w w') (hvl : vs.length = L.length)
    (he : ∀ (i : Nat) (u : Value) (bs : List Int), vs[i]? = some u → L[i]? = some bs → Bytes w u bs ∧ (bs = [] ∨ ∀ k, u.ownBlock = some k → G k)) (hb : Bytes w v bs) (hbG : bs = [] ∨ ∀ k, v.ownBlock = some k → G k) :
    RLine w' (.slice (some ⟨g, off, none⟩) (L.length + 1) cap) (L ++ [bs]) (Plus G w) := by
  have key : ∀ {u : Value} {bs : List Int}, (Bytes w u bs ∧ (bs = [] ∨ ∀ k, u.ownBlock = some k → G k)) → Bytes w' u bs ∧ (bs = [] ∨ ∀ k, u.ownBlock = some k → Plus G w k) := by
    intro u bs ⟨h1, h2⟩
    exact ⟨h1.ext hx fun _ _ _ h => h, h2.imp id fun h k hk => .inl (h k hk)⟩
  refine ⟨vs ++ [v], by rw [List.length_append]; exact hq, fun i u bs' h1 h2 => ?_, fun k hk => .inr ?_⟩
  · by_cases hil : i < L.length
    · rw [List.getElem?_append_left (by omega)] at h1 h2
      exact key (he i u bs' h1 h2)
    · have hil' : i = L.length := by
        have := (List.getElem?_eq_some_iff.1 h2).1
        simp at this; omega
      subst hil'
      rw [List.getElem?_append_right (by omega)] at h1 h2
      simp [hvl] at h1 h2
      subst h1; subst h2
      exact key ⟨hb, hbG⟩
  · have : g = k := by simpa [Value.ownBlock] using hk
    omega
theorem RLine.plus {w w' : World} {v : Value} {L : List (List Int)} {G : Nat → Prop} (h : RLine w v L G) (hx : Ext NoB w w') : RLine w' v L (Plus G w) := (h.ext hx fun _ _ h => h).mono fun _ h => .inl h

def RPushEnd (w : World) (p ph m last : Int) (L : List (List Int)) (G : Nat → Prop) (bs : List Int) (e : Ending) (w' : World) : Prop :=
  ∃ A c, e = .returned (.tuple #[rv p ph m A (pushL bs m L).length c last, .int .i64 (pushE bs m L)]) ∧ RLine w' (.slice A (pushL bs m L).length c) (pushL bs m L) (Plus G w) ∧ Ext NoB w w'
theorem rpush_any (p ph m last : Int) (A : Option Addr) (c : Nat) (L : List (List Int)) (G : Nat → Prop) (A' : Option Addr) (c' : Nat) (bs : List Int) (w : World) (hm0 : 1 ≤ m) (hm : m ≤ 256) (hr : RLine w (.slice A L.length c) L G)
    (hb : Bytes w (.slice A' bs.length c') bs) (hbG : bs = [] ∨ ∀ k, (Value.slice A' bs.length c').ownBlock = some k → G k) :
    Calls Try.prog 11 #[rv p ph m A L.length c last, .slice A' bs.length c'] w (RPushEnd w p ph m last L G bs) := by
  by_cases h1 : 4096 < bs.length
  · refine (rpush_big p ph m last A L.length c A' bs.length c' w h1).mono fun e w' ⟨he, hx⟩ => ⟨A, c, ?_, ?_, hx⟩
    · rw [he]; simp [pushL, pushE, h1]
    · simp only [pushL, if_pos h1]; exact hr.plus hx
  by_cases h2 : m ≤ L.length
  · refine (rpush_full p ph m last A L.length c A' bs.length c' w (by omega) h2).mono fun e w' ⟨he, hx⟩ => ⟨A, c, ?_, ?_, hx⟩
    · rw [he]; simp [pushL, pushE, h1, h2]
    · simp only [pushL, if_neg h1, if_pos h2]; exact hr.plus hx
  have hpl : pushL bs m L = L ++ [bs] := by simp [pushL, h1, h2]
  have hpe : pushE bs m L = 0 := by simp [pushE, h1, h2]
  obtain ⟨vs, hq, he, hG⟩ := hr
  have hvl : vs.length = L.length := by simpa using hq.1
  have fin : ∀ (e : Ending) (w' : World), RPushed w p ph m last (L.length + 1) (vs ++ [.slice A' bs.length c']) e w' → RPushEnd w p ph m last L G bs e w' := by
    rintro e w' ⟨g, off, cap, h3, h4, h5, h6⟩
    refine ⟨some ⟨g, off, none⟩, cap, ?_, ?_, h6⟩
    · rw [h3, hpl, hpe]; simp
    · rw [hpl]
      have := RLine.snoc h4 h5 h6 hvl he hb hbG
      simpa using this
  match L, A, c, vs, hq, he, hvl, h2, fin with
  | [], none, c, vs, hq, he, hvl, h2, fin =>
    obtain ⟨A0, c0, h0, _, _, h00⟩ := hq.slice
    injection h0 with h01 h02 h03
    subst h01
    obtain rfl : c = 0 := by rw [h03]; exact (h00 rfl).2
    obtain rfl : vs = [] := List.eq_nil_of_length_eq_zero hvl
    exact (rpush_ok_nil p ph m last A' bs.length c' w (by omega) hm0).mono fin
  | [], some a, c, vs, hq, he, hvl, h2, fin =>
    obtain rfl : vs = [] := List.eq_nil_of_length_eq_zero hvl
    exact (rpush_ok_none p ph m last a c A' bs.length c' w (by omega) hm0).mono fin
  | x :: L, A, c, vs, hq, he, hvl, h2, fin =>
    have hones : ∀ u ∈ vs, u.oneCell' = true := by
      intro u hu
      obtain ⟨i, hi, rfl⟩ := List.getElem_of_mem hu
      exact bytes_one (he i _ _ (List.getElem?_eq_getElem hi) (List.getElem?_eq_getElem (by omega))).1
    exact (rpush_ok p ph m last A (x :: L).length c A' bs.length c' vs w (by omega) (by omega) hm hq hones (Nat.succ_pos _)).mono fin

/-! ### At -/
def RAtEnd (w : World) (p ph m : Int) (L : List (List Int)) (last : Int) (G : Nat → Prop) (K E N : Int) (B : List Int) (L' : List (List Int)) (e : Ending) (w' : World) : Prop :=
  ∃ A c A2 c2, e = .returned (.tuple #[rv p ph m A L'.length c N, .int .i64 K, .slice A2 B.length c2, .int .i64 E]) ∧ RLine w' (.slice A L'.length c) L' (Plus G w) ∧ Bytes w' (.slice A2 B.length c2) B ∧ (B = [] ∨ ∀ k, (Value.slice A2 B.length c2).ownBlock = some k → G k) ∧ Ext NoB w w'
theorem heap_two (w : World) (a b : Obj) : ((w.alloc a).alloc b).heap[w.heap.size]? = some a ∧ ((w.alloc a).alloc b).heap[w.heap.size + 1]? = some b := by
  refine ⟨?_, ?_⟩
  · rw [heapAlloc _ _ _ (by simp), heapNew]
  · have := heapNew (w.alloc a) b
    simpa using this
theorem set5 (F : Nat → Prop) (w : World) (b : Nat) (v0 v1 v2 v3 v4 : Value) (hb : b < w.heap.size → F b) : Ext F w (((((w.setCell ⟨b, 0, none⟩ v0).setCell ⟨b, 1, none⟩ v1).setCell ⟨b, 2, none⟩ v2).setCell ⟨b, 3, none⟩ v3).setCell ⟨b, 4, none⟩ v4) :=
  ((((Ext.setCell w _ _ hb).andSet _ _ hb).andSet _ _ hb).andSet _ _ hb).andSet _ _ hb
set_option maxHeartbeats 1600000 in
theorem rat_no (p ph m last now draw : Int) (A : Option Addr) (n c : Nat) (w : World) (hp : 0 < p) (hp2 : p ≤ 64) (hi : isB p ph now = false) :
    Calls Try.prog 14 #[rv p ph m A n c last, .int .i64 now, .int .u8 draw] w fun e w' => e = .returned (.tuple #[rv p ph m A n c last, .int .i64 0, .slice none 0 0, .int .i64 9]) ∧ Ext NoB w w' := by
  have hic : ∀ W : World, Calls Try.prog 17 #[rv p ph m A n c last, .int .i64 now] W fun e w' => e = .returned (.bool false) ∧ Ext NoB W w' := fun W => by
    have h := ris_any p ph m now last A n c hp hp2 W
    rwa [hi] at h
  clear hi
  go_enter Try.func14, Try.ntmps14
  go_wp2_with (go_at_call 17; refine (hic _).mono ?_; rintro e w1 ⟨rfl, hx⟩; obtain ⟨t1, t2⟩ := heap_two w _ _; have d1 := hx.obj t1 (fun h => h); have d2 := hx.obj t2 (fun h => h); have hxx := ((Ext.alloc NoB w _).andAlloc _).then hx; clear t1 t2 hx; obtain ⟨⟨e0, e1, e2, e3, e4⟩, f0, f1, f2, f3, f4⟩ := five d1; obtain ⟨⟨i0, i1, i2, i3, i4⟩, j0, j1, j2, j3, j4⟩ := five d2)
  exact bodyPost_ret (v := .tuple #[rv p ph m A n c last, .int .i64 0, .slice none 0 0, .int .i64 9]) (by simp [results, Try.results14, go_sem, i0, i1, i2, i3, i4]) rfl ⟨rfl, hxx.trans (set5 (fun k => k = w.heap.size + 1) _ _ _ _ _ _ _ fun _ => rfl) (fun _ _ h => h) fun k hk h => absurd h (by omega)⟩
set_option maxHeartbeats 1600000 in
theorem rat_old (p ph m last now draw : Int) (A : Option Addr) (n c : Nat) (w : World) (hp : 0 < p) (hp2 : p ≤ 64) (hi : isB p ph now = true) (hl : now ≤ last) :
    Calls Try.prog 14 #[rv p ph m A n c last, .int .i64 now, .int .u8 draw] w fun e w' => e = .returned (.tuple #[rv p ph m A n c last, .int .i64 0, .slice none 0 0, .int .i64 13]) ∧ Ext NoB w w' := by
  have hic : ∀ W : World, Calls Try.prog 17 #[rv p ph m A n c last, .int .i64 now] W fun e w' => e = .returned (.bool true) ∧ Ext NoB W w' := fun W => by
    have h := ris_any p ph m now last A n c hp hp2 W
    rwa [hi] at h
  clear hi
  go_enter Try.func14, Try.ntmps14
  go_wp2_with (go_at_call 17; refine (hic _).mono ?_; rintro e w1 ⟨rfl, hx⟩; obtain ⟨t1, t2⟩ := heap_two w _ _; have d1 := hx.obj t1 (fun h => h); have d2 := hx.obj t2 (fun h => h); have hxx := ((Ext.alloc NoB w _).andAlloc _).then hx; clear t1 t2 hx; obtain ⟨⟨e0, e1, e2, e3, e4⟩, f0, f1, f2, f3, f4⟩ := five d1; obtain ⟨⟨i0, i1, i2, i3, i4⟩, j0, j1, j2, j3, j4⟩ := five d2)
  exact bodyPost_ret (v := .tuple #[rv p ph m A n c last, .int .i64 0, .slice none 0 0, .int .i64 13]) (by simp [results, Try.results14, go_sem, i0, i1, i2, i3, i4]) rfl ⟨rfl, hxx.trans (set5 (fun k => k = w.heap.size + 1) _ _ _ _ _ _ _ fun _ => rfl) (fun _ _ h => h) fun k hk h => absurd h (by omega)⟩
set_option maxHeartbeats 1600000 in
theorem rat_none (p ph m last now draw : Int) (A : Option Addr) (c : Nat) (w : World) (hp : 0 < p) (hp2 : p ≤ 64) (hi : isB p ph now = true) (hl : last < now) (hd0 : 0 ≤ draw) (hd1 : draw ≤ 255) :
    Calls Try.prog 14 #[rv p ph m A 0 c last, .int .i64 now, .int .u8 draw] w fun e w' => e = .returned (.tuple #[rv p ph m A 0 c now, .int .i64 (2 + draw % 2), .slice none 0 0, .int .i64 0]) ∧ Ext NoB w w' := by
  have hic : ∀ W : World, Calls Try.prog 17 #[rv p ph m A 0 c last, .int .i64 now] W fun e w' => e = .returned (.bool true) ∧ Ext NoB W w' := fun W => by
    have h := ris_any p ph m now last A 0 c hp hp2 W
    rwa [hi] at h
  clear hi
  rcases (by omega : draw % 2 = 0 ∨ draw % 2 = 1) with h2 | h2
  · rw [h2]
    have hb : (draw % 2 == 0) = true := by simp [h2]
    clear h2
    go_enter Try.func14, Try.ntmps14
    go_wp2_with (go_at_call 17; refine (hic _).mono ?_; rintro e w1 ⟨rfl, hx⟩; obtain ⟨t1, t2⟩ := heap_two w _ _; have d1 := hx.obj t1 (fun h => h); have d2 := hx.obj t2 (fun h => h); have hxx := ((Ext.alloc NoB w _).andAlloc _).then hx; clear t1 t2 hx; obtain ⟨⟨e0, e1, e2, e3, e4⟩, f0, f1, f2, f3, f4⟩ := five d1; obtain ⟨⟨i0, i1, i2, i3, i4⟩, j0, j1, j2, j3, j4⟩ := five d2)
    exact bodyPost_ret (v := .tuple #[rv p ph m A 0 c now, .int .i64 2, .slice none 0 0, .int .i64 0]) (by simp [results, Try.results14, go_sem, i0, i1, i2, i3, i4]) rfl ⟨rfl, hxx.trans ((Ext.setCell (F := fun k => w.heap.size ≤ k) _ _ _ fun _ => Nat.le_refl _).then (set5 (fun k => w.heap.size ≤ k) _ _ _ _ _ _ _ fun _ => Nat.le_succ _)) (fun _ _ h => h) fun k hk h => absurd h (by omega)⟩
  · rw [h2]
    have hb : (draw % 2 == 0) = false := by simp [h2]
    clear h2
    go_enter Try.func14, Try.ntmps14
    go_wp2_with (go_at_call 17; refine (hic _).mono ?_; rintro e w1 ⟨rfl, hx⟩; obtain ⟨t1, t2⟩ := heap_two w _ _; have d1 := hx.obj t1 (fun h => h); have d2 := hx.obj t2 (fun h => h); have hxx := ((Ext.alloc NoB w _).andAlloc _).then hx; clear t1 t2 hx; obtain ⟨⟨e0, e1, e2, e3, e4⟩, f0, f1, f2, f3, f4⟩ := five d1; obtain ⟨⟨i0, i1, i2, i3, i4⟩, j0, j1, j2, j3, j4⟩ := five d2)
    exact bodyPost_ret (v := .tuple #[rv p ph m A 0 c now, .int .i64 3, .slice none 0 0, .int .i64 0]) (by simp [results, Try.results14, go_sem, i0, i1, i2, i3, i4]) rfl ⟨rfl, hxx.trans ((Ext.setCell (F := fun k => w.heap.size ≤ k) _ _ _ fun _ => Nat.le_refl _).then (set5 (fun k => w.heap.size ≤ k) _ _ _ _ _ _ _ fun _ => Nat.le_succ _)) (fun _ _ h => h) fun k hk h => absurd h (by omega)⟩
set_option maxHeartbeats 1600000 in
theorem rat_some (p ph m last now draw : Int) (g off n cap n0 c0 : Nat) (A0 : Option Addr) (w : World) (hp : 0 < p) (hp2 : p ≤ 64) (hi : isB p ph now = true) (hl : last < now) (hcap : 1 < cap) (hcap1 : n + 1 ≤ cap) (hcell : w.cell? ⟨g, off, none⟩ = some (.slice A0 n0 c0)) :
    Calls Try.prog 14 #[rv p ph m (some ⟨g, off, none⟩) (n + 1) cap last, .int .i64 now, .int .u8 draw] w fun e w' => e = .returned (.tuple #[rv p ph m (some ⟨g, off + 1, none⟩) n (cap - 1) now, .int .i64 1, .slice A0 n0 c0, .int .i64 0]) ∧ Ext NoB w w' := by
  have hgs : g ≠ w.heap.size := fun h => by have := World.block_lt_of_cell? _ _ hcell; simp only at this; omega
  have hic : ∀ W : World, Calls Try.prog 17 #[rv p ph m (some ⟨g, off, none⟩) (n + 1) cap last, .int .i64 now] W fun e w' => e = .returned (.bool true) ∧ Ext NoB W w' := fun W => by
    have h := ris_any p ph m now last (some ⟨g, off, none⟩) (n + 1) cap hp hp2 W
    rwa [hi] at h
  clear hi
  have hL1 : 0 < n + 1 := Nat.succ_pos _
  have hcap2 : ¬ cap = 1 := by omega
  go_enter Try.func14, Try.ntmps14
  go_wp2_with (go_at_call 17; refine (hic _).mono ?_; rintro e w1 ⟨rfl, hx⟩; obtain ⟨t1, t2⟩ := heap_two w _ _; have d1 := hx.obj t1 (fun h => h); have d2 := hx.obj t2 (fun h => h); have hxx := ((Ext.alloc NoB w _).andAlloc _).then hx; clear t1 t2 hx; obtain ⟨⟨e0, e1, e2, e3, e4⟩, f0, f1, f2, f3, f4⟩ := five d1; obtain ⟨⟨i0, i1, i2, i3, i4⟩, j0, j1, j2, j3, j4⟩ := five d2; have kc : (w1.setCell ⟨w.heap.size, 4, none⟩ (.int .i64 now)).cell? ⟨g, off, none⟩ = some (.slice A0 n0 c0) := ((Ext.setCell (F := fun k => k = w.heap.size) w1 ⟨w.heap.size, 4, none⟩ _ fun _ => rfl).cell (hxx.cell hcell (fun h => h)) hgs))
  exact bodyPost_ret (v := .tuple #[rv p ph m (some ⟨g, off + 1, none⟩) n (cap - 1) now, .int .i64 1, .slice A0 n0 c0, .int .i64 0]) (by simp [results, Try.results14, go_sem, i0, i1, i2, i3, i4]) rfl ⟨rfl, hxx.trans (((Ext.setCell (F := fun k => w.heap.size ≤ k) _ _ _ fun _ => Nat.le_refl _).andSet _ _ fun _ => Nat.le_refl _).then (set5 (fun k => w.heap.size ≤ k) _ _ _ _ _ _ _ fun _ => Nat.le_succ _)) (fun _ _ h => h) fun k hk h => absurd h (by omega)⟩
set_option maxHeartbeats 1600000 in
theorem rat_last (p ph m last now draw : Int) (g off n n0 c0 : Nat) (A0 : Option Addr) (w : World) (hp : 0 < p) (hp2 : p ≤ 64) (hi : isB p ph now = true) (hl : last < now) (hn0 : n = 0) (hcell : w.cell? ⟨g, off, none⟩ = some (.slice A0 n0 c0)) :
    Calls Try.prog 14 #[rv p ph m (some ⟨g, off, none⟩) 1 1 last, .int .i64 now, .int .u8 draw] w fun e w' => e = .returned (.tuple #[rv p ph m (some ⟨g, off, none⟩) 0 0 now, .int .i64 1, .slice A0 n0 c0, .int .i64 0]) ∧ Ext NoB w w' := by
  have hgs : g ≠ w.heap.size := fun h => by have := World.block_lt_of_cell? _ _ hcell; simp only at this; omega
  have hic : ∀ W : World, Calls Try.prog 17 #[rv p ph m (some ⟨g, off, none⟩) 1 1 last, .int .i64 now] W fun e w' => e = .returned (.bool true) ∧ Ext NoB W w' := fun W => by
    have h := ris_any p ph m now last (some ⟨g, off, none⟩) 1 1 hp hp2 W
    rwa [hi] at h
  clear hi
  go_enter Try.func14, Try.ntmps14
  go_wp2_with (go_at_call 17; refine (hic _).mono ?_; rintro e w1 ⟨rfl, hx⟩; obtain ⟨t1, t2⟩ := heap_two w _ _; have d1 := hx.obj t1 (fun h => h); have d2 := hx.obj t2 (fun h => h); have hxx := ((Ext.alloc NoB w _).andAlloc _).then hx; clear t1 t2 hx; obtain ⟨⟨e0, e1, e2, e3, e4⟩, f0, f1, f2, f3, f4⟩ := five d1; obtain ⟨⟨i0, i1, i2, i3, i4⟩, j0, j1, j2, j3, j4⟩ := five d2; have kc : (w1.setCell ⟨w.heap.size, 4, none⟩ (.int .i64 now)).cell? ⟨g, off, none⟩ = some (.slice A0 n0 c0) := ((Ext.setCell (F := fun k => k = w.heap.size) w1 ⟨w.heap.size, 4, none⟩ _ fun _ => rfl).cell (hxx.cell hcell (fun h => h)) hgs))
  exact bodyPost_ret (v := .tuple #[rv p ph m (some ⟨g, off, none⟩) 0 0 now, .int .i64 1, .slice A0 n0 c0, .int .i64 0]) (by simp [results, Try.results14, go_sem, i0, i1, i2, i3, i4]) rfl ⟨rfl, hxx.trans (((Ext.setCell (F := fun k => w.heap.size ≤ k) _ _ _ fun _ => Nat.le_refl _).andSet _ _ fun _ => Nat.le_refl _).then (set5 (fun k => w.heap.size ≤ k) _ _ _ _ _ _ _ fun _ => Nat.le_succ _)) (fun _ _ h => h) fun k hk h => absurd h (by omega)⟩
theorem rat_any (p ph m last now draw : Int) (A : Option Addr) (c : Nat) (L : List (List Int)) (G : Nat → Prop) (w : World) (hp : 0 < p) (hp2 : p ≤ 64) (hd0 : 0 ≤ draw) (hd1 : draw ≤ 255) (hr : RLine w (.slice A L.length c) L G) :
    Calls Try.prog 14 #[rv p ph m A L.length c last, .int .i64 now, .int .u8 draw] w (RAtEnd w p ph m L last G (atK p ph L (last + 1) now draw) (atE p ph (last + 1) now) (atN p ph (last + 1) now - 1) (atB p ph L (last + 1) now) (atL p ph L (last + 1) now)) := by
  cases hi : isB p ph now with
  | false =>
    simp only [atK, atE, atB, atL, atN, hi, if_true]
    refine (rat_no p ph m last now draw A L.length c w hp hp2 hi).mono fun e w' ⟨he, hx⟩ => ⟨A, c, none, 0, ?_, hr.plus hx, Bytes.nil _, .inl rfl, hx⟩
    rw [he, show last + 1 - 1 = last by omega]; rfl
  | true =>
    simp only [atK, atE, atB, atL, atN, hi, Bool.true_eq_false, if_false]
    by_cases hl : now < last + 1
    · simp only [hl, if_true]
      refine (rat_old p ph m last now draw A L.length c w hp hp2 hi (by omega)).mono fun e w' ⟨he, hx⟩ => ⟨A, c, none, 0, ?_, hr.plus hx, Bytes.nil _, .inl rfl, hx⟩
      rw [he, show last + 1 - 1 = last by omega]; rfl
    · simp only [hl, if_false, show now + 1 - 1 = now by omega]
      match L, hr with
      | [], hr =>
        refine (rat_none p ph m last now draw A c w hp hp2 hi (by omega) hd0 hd1).mono fun e w' ⟨he, hx⟩ => ⟨A, c, none, 0, ?_, hr.plus hx, Bytes.nil _, .inl rfl, hx⟩
        rw [he]; rfl
      | x :: L, hr =>
        obtain ⟨vs, hq, he, hG⟩ := hr
        obtain ⟨g, off, cap, hv, hq1, hq2, hqc, hqf⟩ := hq.form (Nat.succ_pos _)
        injection hv with hv1 hv2 hv3
        subst hv1; subst hv3
        obtain ⟨v0, vs, rfl⟩ : ∃ v0 vs', vs = v0 :: vs' := by
          match vs, hq.1 with
          | v0 :: vs', _ => exact ⟨v0, vs', rfl⟩
        simp only [reduceCtorEq, if_false, List.headD_cons, List.tail_cons]
        obtain ⟨hb0, hG0⟩ := he 0 v0 x rfl rfl
        obtain ⟨A0, c0, rfl, _⟩ := hb0.shape
        have hcell : w.cell? ⟨g, off, none⟩ = some (.slice A0 x.length c0) := by have := hqc 0 (by simp); simpa using this
        have hlen : (x :: L).length = L.length + 1 := rfl
        have fin : ∀ (off' : Nat), (off' = off + 1 ∨ (off' = off ∧ c = 1)) → ∀ w', Ext NoB w w' → RLine w' (.slice (some ⟨g, off', none⟩) L.length (c - 1)) L (Plus G w) := fun off' hoff w' hx => by
          refine RLine.plus ⟨vs, hq.tail off' hoff, fun i u bs h1 h2 => he (i + 1) u bs h1 h2, fun k hk => hG k ?_⟩ hx
          simpa [Value.ownBlock] using hk
        rcases Nat.lt_or_ge 1 c with hcap | hcap
        · refine (rat_some p ph m last now draw g off L.length c x.length c0 A0 w hp hp2 hi (by omega) hcap (by omega) hcell).mono fun e w' ⟨he', hx⟩ => ⟨some ⟨g, off + 1, none⟩, c - 1, A0, c0, he', fin _ (.inl rfl) w' hx, hb0.ext hx fun _ _ _ h => h, hG0, hx⟩
        · obtain rfl : c = 1 := by omega
          obtain rfl : L = [] := List.eq_nil_of_length_eq_zero (by omega)
          refine (rat_last p ph m last now draw g off 0 x.length c0 A0 w hp hp2 hi (by omega) rfl hcell).mono fun e w' ⟨he', hx⟩ => ⟨some ⟨g, off, none⟩, 0, A0, c0, he', fin _ (.inr ⟨rfl, rfl⟩) w' hx, hb0.ext hx fun _ _ _ h => h, hG0, hx⟩
end Go.Proofs.Ytapckbbbcjaahaa
