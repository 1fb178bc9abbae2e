/-
  The queue's Pop.
-/
import Derived.Test.YtaphhadahajohaaJ
set_option linter.unusedVariables false
set_option linter.unusedSimpArgs false
namespace Go.Proofs.Ytaphhadahajohaa
open Go.RowKit

/-- The first of those that are due the earliest. -/
def IsBest (D : List Int) (now : Int) (i : Nat) : Prop :=
  i < D.length ∧ D.getD i 0 ≤ now ∧ ∀ k, k < D.length → D.getD k 0 ≤ now → D.getD i 0 ≤ D.getD k 0 ∧ (k < i → D.getD i 0 < D.getD k 0)
theorem IsBest.uniq {D : List Int} {now : Int} {i j : Nat} (h : IsBest D now i) (k : IsBest D now j) : i = j := by
  obtain ⟨h1, h2, h3⟩ := h
  obtain ⟨k1, k2, k3⟩ := k
  have a := h3 j k1 k2
  have b := k3 i h1 h2
  rcases Nat.lt_trichotomy i j with c | c | c
  · have := b.2 c; omega
  · exact c
  · have := a.2 c; omega
def dues (L : List (It × List Int)) : List Int := L.map (·.1.due)
theorem dues_at {L : List (It × List Int)} {i : Nat} (hi : i < L.length) : (dues L).getD i 0 = L[i].1.due := by
  simp [dues, List.getD_eq_getElem?_getD, List.getElem?_eq_getElem hi]
/-- The least of a queue is its first one that is due the earliest. -/
theorem best_of_min {L : List (It × List Int)} (ho : L.Pairwise (fun a b => a.1.n < b.1.n)) {j : Nat} (hj : j < L.length) (hmin : ∀ e ∈ L, ¬ lt e.1 L[j].1) (now : Int) (hd : L[j].1.due ≤ now) : IsBest (dues L) now j := by
  refine ⟨by simpa [dues] using hj, by rw [dues_at hj]; exact hd, fun k hk hkd => ?_⟩
  have hk' : k < L.length := by simpa [dues] using hk
  rw [dues_at hj, dues_at hk']
  have hm := hmin L[k] (List.getElem_mem hk')
  unfold lt at hm
  refine ⟨by omega, fun hkj => ?_⟩
  have := (List.pairwise_iff_getElem.1 ho) k j hk' hj hkj
  omega
theorem root_of {L : List (It × List Int)} {hs : List It} (hp : hs.Perm (L.map (·.1))) (hh : HeapN hs hs.length) (hn : 0 < hs.length) : ∃ j, ∃ hj : j < L.length, at' hs 0 = L[j].1 ∧ ∀ e ∈ L, ¬ lt e.1 L[j].1 := by
  have h0 : at' hs 0 ∈ hs := by
    unfold at'; rw [List.getD_eq_getElem?_getD, List.getElem?_eq_getElem hn]; exact List.getElem_mem hn
  have h1 := hp.mem_iff.1 h0
  obtain ⟨e, he, hx⟩ := List.mem_map.1 h1
  obtain ⟨j, hj, hje⟩ := List.mem_iff_getElem.1 he
  refine ⟨j, hj, by rw [hje]; exact hx.symm, fun e' he' => ?_⟩
  rw [hje, hx]
  have h2 : e'.1 ∈ hs := hp.mem_iff.2 (List.mem_map.2 ⟨e', he', rfl⟩)
  obtain ⟨k, hk, hke⟩ := List.mem_iff_getElem.1 h2
  have := hh.min k hk
  rw [at_of (by rw [List.getElem?_eq_getElem hk, hke])] at this
  exact this

def zi : Value := .agg #[.int .i64 0, .int .i64 0, .slice none 0 0]
theorem Try.size31 : (Try.prog.info? 31).map (·.size) = some 3 := by kernel_rfl
theorem pop_end {w W : World} {a : Act} {R : Ending → World → Prop} {due dest e : Int} {A : Option Addr} {l c : Nat} (hd : a.defers = [])
    (h4 : a.tmps.getD 4 undef = .pointer (some ⟨w.heap.size, 0, none⟩)) (h5 : a.tmps.getD 5 undef = .int .i64 e) (hb : W.heap[w.heap.size]? = some (.cells #[.int .i64 due, .int .i64 dest, .slice A l c] 31 (0, 0)))
    (hR : R (.returned (.tuple #[.agg #[.int .i64 due, .int .i64 dest, .slice A l c], .int .i64 e])) W) : bodyPost Try.prog Try.f11 R .ret a W := by
  obtain ⟨c0, c1, c2⟩ := three hb
  refine bodyPost_ret (v := .tuple #[.agg #[.int .i64 due, .int .i64 dest, .slice A l c], .int .i64 e]) ?_ hd hR
  rw [Array.getD_eq_getD_getElem?] at h4 h5
  simp [results, Try.results11, go_sem, h4, h5, c0, c1, c2]
theorem zero_box (w : World) (m : Nat) : (((((w.alloc (.cells #[.int .i64 0, .int .i64 0, .slice none 0 0] 31)).drewN m).setCell ⟨w.heap.size, 0, none⟩ (.int .i64 0)).setCell ⟨w.heap.size, 1, none⟩ (.int .i64 0)).setCell ⟨w.heap.size, 2, none⟩ (.slice none 0 0)).heap[w.heap.size]? = some (.cells #[.int .i64 0, .int .i64 0, .slice none 0 0] 31 (0, 0)) ∧
    Ext NoB w (((((w.alloc (.cells #[.int .i64 0, .int .i64 0, .slice none 0 0] 31)).drewN m).setCell ⟨w.heap.size, 0, none⟩ (.int .i64 0)).setCell ⟨w.heap.size, 1, none⟩ (.int .i64 0)).setCell ⟨w.heap.size, 2, none⟩ (.slice none 0 0)) := by
  have h0 : ((w.alloc (.cells #[.int .i64 0, .int .i64 0, .slice none 0 0] 31)).drewN m).heap[w.heap.size]? = some (.cells #[.int .i64 0, .int .i64 0, .slice none 0 0] 31 (0, 0)) := heapNew w _
  refine ⟨by rw [heapSet (heapSet (heapSet h0 _ _) _ _) _ _]; rfl, ?_⟩
  exact ((((Ext.alloc NoB w _).andDrewN m).andSet _ _ fun h => absurd h (by simp)).andSet _ _ fun h => absurd h (by simp)).andSet _ _ fun h => absurd h (by simp)
theorem pop_no (v : Value) (hv : ∀ W, Calls Try.prog 18 #[v] W fun e w' => e = .returned (.bool false) ∧ ∃ m, w' = W.drewN m) (now : Int) (w : World) :
    Calls Try.prog 11 #[v, .int .i64 now] w fun e w' => e = .returned (.tuple #[zi, .int .i64 1]) ∧ Ext NoB w w' := by
  go_enter Try.func11, Try.ntmps11
  go_wp2_with (first
    | (go_at_call 18; refine (hv _).mono ?_; rintro e W1 ⟨rfl, m, rfl⟩))
  exact pop_end (w := w) rfl rfl rfl (zero_box w m).1 ⟨rfl, (zero_box w m).2⟩
theorem pop_none {F : Nat → Prop} {w : World} {p : Nat} {room nn : Int} {L : List (It × List Int)} (h : QS w p room nn L F) (hr : 0 < room) (now : Int) (hd : ∀ e ∈ L, now < e.1.due) :
    Calls Try.prog 11 #[.pointer (some ⟨p, 0, none⟩), .int .i64 now] w fun e w' => e = .returned (.tuple #[zi, .int .i64 9]) ∧ Ext NoB w w' := by
  obtain ⟨sv, hs, hb, hq, hperm, hheap, hown⟩ := h.st
  obtain ⟨A1, k1, rfl, hk1, hk2, _⟩ := hq.slice
  have xa := Ext.alloc NoB w (.cells #[.int .i64 0, .int .i64 0, .slice none 0 0] 31)
  have hb1 := xa.obj hb id
  rcases Nat.eq_zero_or_pos hs.length with h0 | h0
  · have e1 : (hs.length : Int) = 0 := by omega
    go_enter Try.func11, Try.ntmps11
    go_wp2_with (first
      | (go_at_call 18; refine (good_yes p room _ hr (three hb1).1).mono ?_; rintro e W1 ⟨rfl, m, rfl⟩)
      | (go_at_call 20; refine (len20e p hs.length k1 A1 _ (by exact (three hb1).2.1)).mono ?_; rintro e W2 ⟨rfl, rfl⟩))
    exact pop_end (w := w) rfl rfl rfl (zero_box w m).1 ⟨rfl, (zero_box w m).2⟩
  · obtain ⟨j, hj, hroot, _⟩ := root_of hperm hheap h0
    have hlate : now < (at' hs 0).due := by rw [hroot]; exact hd _ (List.getElem_mem hj)
    obtain ⟨g, o, cap, hv, _, _⟩ := hq.form h0
    injection hv with hv1 hv2 hv3
    subst hv1
    clear hv2 hv3
    have hHL : HL w p room nn g o k1 hs := ⟨hb, hq⟩
    obtain ⟨d0, _⟩ := hHL.at (at_get h0)
    rw [Nat.zero_mul, Nat.add_zero] at d0
    have d1 := xa.cell d0 id
    generalize (at' hs 0).due = du at d0 d1 hlate
    have e1 : ¬ (hs.length : Int) = 0 := by omega
    have e2 : ((hs.length : Int) == 0) = false := beq_eq_false_iff_ne.2 e1
    have e3 : (0 : Int) < (hs.length : Int) := by omega
    clear hroot hHL hperm hheap hown hd h
    have HB1 := Lib.hid hb1
    have c1 := (three hb1).2.1
    clear hb1
    go_enter Try.func11, Try.ntmps11
    go_wp2_with (first
      | (go_at_call 18; refine (good_yes p room _ hr (three HB1.out).1).mono ?_; rintro e W1 ⟨rfl, m, rfl⟩)
      | (go_at_call 20; refine (len20e p hs.length k1 _ _ (by exact (three HB1.out).2.1)).mono ?_; rintro e W2 ⟨rfl, rfl⟩))
    exact pop_end (w := w) rfl rfl rfl (zero_box w m).1 ⟨rfl, (zero_box w m).2⟩
end Go.Proofs.Ytaphhadahajohaa
