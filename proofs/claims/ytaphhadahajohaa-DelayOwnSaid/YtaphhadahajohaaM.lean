/-
  The queue's Pop of what is due.
-/
import Derived.Test.YtaphhadahajohaaK
set_option linter.unusedVariables false
set_option linter.unusedSimpArgs false
namespace Go.Proofs.Ytaphhadahajohaa
open Go.RowKit

theorem perm_erase {α : Type} : ∀ (l : List α) (i : Nat) (h : i < l.length), (l[i] :: l.eraseIdx i).Perm l
  | [], i, h => by simp at h
  | a :: l, 0, h => by simp
  | a :: l, i + 1, h => by
    simp only [List.getElem_cons_succ, List.eraseIdx_cons_succ]
    exact (List.Perm.swap _ _ _).trans ((perm_erase l i (by simpa using h)).cons a)
theorem assert59 (cs : Array Value) (w : World) : (Instr.typeAssert (.iface 59 (.agg cs)) 20 59 true).run Try.prog w = .ok (.tuple #[.agg cs, .bool true]) w := by kernel_rfl
def PopEnd (w : World) (p : Nat) (room nn : Int) (L : List (It × List Int)) (F : Nat → Prop) (i : Nat) (x : It) (e : Ending) (w' : World) : Prop :=
  e = .returned (.tuple #[.agg #[.int .i64 x.due, .int .i64 x.dest, x.b], .int .i64 0]) ∧ QS w' p room nn (L.eraseIdx i) F ∧ Ext F w w' ∧ ∀ bs, (x, bs) ∈ L → El w' x.b bs
theorem popped_box {w W : World} {m p g o cap : Nat} {room nn : Int} {hs : List It} (h : Popped ((w.alloc (.cells #[.int .i64 0, .int .i64 0, .slice none 0 0] 31)).drewN m) p room nn g o cap hs W) (lg : g < w.heap.size) (lp : p < w.heap.size) :
    W.heap[w.heap.size]? = some (.cells #[.int .i64 0, .int .i64 0, .slice none 0 0] 31 (0, 0)) := by
  obtain ⟨hs', _, xe, _⟩ := h
  exact xe.obj (heapNew w _) (by omega)
set_option maxHeartbeats 800000 in
theorem pop_some' {F : Nat → Prop} {w : World} {p : Nat} {room nn : Int} {L : List (It × List Int)} (h : QS w p room nn L F) (hFlt : ∀ k, F k → k < w.heap.size) (hr : 0 < room) (now : Int) (i : Nat) (hi : i < L.length) (hbest : IsBest (dues L) now i) (hL : L.length ≤ 1000000) :
    Calls Try.prog 11 #[.pointer (some ⟨p, 0, none⟩), .int .i64 now] w (PopEnd w p room nn L F i L[i].1) := by
  obtain ⟨sv, hs, hb, hq, hperm, hheap, hown⟩ := h.st
  obtain ⟨A1, k1, rfl, hk1, hk2, _⟩ := hq.slice
  have hlen : hs.length = L.length := by rw [hperm.length_eq, List.length_map]
  have h0 : 0 < hs.length := by omega
  have xa := Ext.alloc NoB w (.cells #[.int .i64 0, .int .i64 0, .slice none 0 0] 31)
  obtain ⟨j, hj, hroot, hmin⟩ := root_of hperm hheap h0
  obtain ⟨g, o, cap, hv, _, _⟩ := hq.form h0
  injection hv with hv1 hv2 hv3
  subst hv1
  clear hv2 hv3
  have hHL : HL w p room nn g o k1 hs := ⟨hb, hq⟩
  -- the root is the best
  have hji : j = i := by
    have hd : L[j].1.due ≤ now := by
      have h1 := hmin L[i] (List.getElem_mem hi)
      have h2 := hbest.2.1
      rw [dues_at hi] at h2
      unfold lt at h1
      omega
    exact (best_of_min h.ord hj hmin now hd).uniq hbest
  subst hji
  have hd : (at' hs 0).due ≤ now := by
    have h2 := hbest.2.1
    rw [dues_at hj] at h2
    rw [hroot]; exact h2
  obtain ⟨d0, _⟩ := hHL.at (at_get h0)
  rw [Nat.zero_mul, Nat.add_zero] at d0
  have d1 := xa.cell d0 id
  have e1 : ¬ (hs.length : Int) = 0 := by omega
  have e2 : ((hs.length : Int) == 0) = false := beq_eq_false_iff_ne.2 e1
  have e3 : (0 : Int) < (hs.length : Int) := by omega
  obtain ⟨m0, hm0⟩ : ∃ m0, hs.length = m0 + 1 := ⟨hs.length - 1, by omega⟩
  have hpop := fun W hW => pop23 p g o k1 m0 room nn hs W hW hm0 (by omega) hheap
  have hfin : ∀ W W', Ext NoB w W → Popped W p room nn g o k1 hs W' → QS W' p room nn (L.eraseIdx j) F ∧ Ext F w W' ∧ ∀ bs, (L[j].1, bs) ∈ L → El W' L[j].1.b bs ∧ ∀ k, L[j].1.b.ownBlock = some k → F k := fun W W' x hP => by
    obtain ⟨hs', hl', xe, hpm, hhe⟩ := hP
    have xF : Ext (fun k => k = g ∨ k = p) w W' := x.trans xe (fun _ _ h => h.elim) (fun _ _ h => h)
    have keep : ∀ e ∈ L, El W' e.1.b e.2 := fun e he => by
      obtain ⟨q1, q2⟩ := h.el e he
      refine q1.ext xF fun k hk hh => ?_
      obtain ⟨n1, q⟩ := q1
      rcases hh with hh | hh
      · exact q.ne hq (by decide) k hk (by rw [hh]; rfl)
      · exact q.neBlk hb (by decide) (by rw [hk, hh])
    have hFg : F g := hown g rfl
    refine ⟨⟨⟨_, hs', hl'.blk, hl'.row, ?_, hhe, fun k hk => by simp [Value.ownBlock] at hk; rw [← hk]; exact hFg⟩, fun e he => ?_, h.own, ?_, fun e he => h.top e (List.mem_of_mem_eraseIdx he)⟩, xF.mono fun k _ hk => by rcases hk with hk | hk <;> rw [hk]; exact hFg; exact h.own, fun bs hbs => ⟨keep _ hbs, (h.el _ hbs).2⟩⟩
    · have h1 := hpm.trans hperm
      have h2 : (L.map (·.1)).Perm (L[j].1 :: (L.eraseIdx j).map (·.1)) := by
        have := (perm_erase L j hj).symm.map (fun e : It × List Int => e.1)
        simpa using this
      rw [hroot] at h1
      exact (h1.trans h2).cons_inv
    · have he' := List.mem_of_mem_eraseIdx he
      exact ⟨keep e he', (h.el e he').2⟩
    · exact h.ord.sublist (List.eraseIdx_sublist _ _)
  have hx : at' hs 0 = L[j].1 := hroot
  rw [hx] at hpop hd d1
  generalize L[j].1 = x at hpop hd hfin d1 hx ⊢
  have HG : g < w.heap.size := hq.lt g rfl
  have HPL := blk_lt' hb
  have HPOP := Lib.hid hpop
  have HFIN := Lib.hid hfin
  have HB := Lib.hid hb
  have HHL := Lib.hid hHL
  obtain ⟨due, dest, A, l, c, n⟩ := x
  simp only [It.cs, It.b] at HPOP HFIN hd d1 ⊢
  clear hpop hfin hroot hHL hperm hheap hown hx hm0 hlen hb hbest hmin hj d0
  have has := fun w => assert59 #[.int .i64 due, .int .i64 dest, .slice A l c, .int .i64 n] w
  go_enter Try.func11, Try.ntmps11
  go_wp2_with (first
    | (go_at_call 18; refine (good_yes p room _ hr (three (xa.obj HB.out id)).1).mono ?_; rintro e W1 ⟨rfl, m, rfl⟩; have c1 := (three (xa.obj HB.out id)).2.1)
    | (go_at_call 20; refine (len20e p hs.length k1 _ _ (by exact c1)).mono ?_; rintro e W2 ⟨rfl, rfl⟩)
    | (go_at_call 23; refine (HPOP.out _ (HHL.out.ext (xa.andDrewN m) id id)).mono ?_; rintro e W3 ⟨rfl, hP⟩; have zb := popped_box hP (lg := HG) (lp := HPL); obtain ⟨z0, z1, z2⟩ := three ((Ext.alloc NoB W3 (.cells #[.int .i64 due, .int .i64 dest, .slice A l c, .int .i64 n] 59)).obj zb id); have zf := freeOf ((Ext.alloc NoB W3 (.cells #[.int .i64 due, .int .i64 dest, .slice A l c, .int .i64 n] 59)).obj zb id)))
  obtain ⟨k1', k2', k3'⟩ := HFIN.out _ _ (xa.andDrewN m) hP
  have zb2 := (Ext.alloc NoB W3 (.cells #[.int .i64 due, .int .i64 dest, .slice A l c, .int .i64 n] 59)).obj zb id
  have xx : Ext (fun k => k = w.heap.size) W3 ((((W3.alloc (.cells #[.int .i64 due, .int .i64 dest, .slice A l c, .int .i64 n] 59)).setCell ⟨w.heap.size, 0, none⟩ (.int .i64 due)).setCell ⟨w.heap.size, 1, none⟩ (.int .i64 dest)).setCell ⟨w.heap.size, 2, none⟩ (.slice A l c)) :=
    (((Ext.alloc (fun k => k = w.heap.size) W3 _).andSet _ _ fun _ => rfl).andSet _ _ fun _ => rfl).andSet _ _ fun _ => rfl
  refine pop_end (w := w) rfl rfl rfl (by rw [heapSet (heapSet (heapSet zb2 _ _) _ _) _ _]; rfl) ⟨rfl, ?_, ?_, ?_⟩
  · exact k1'.ext xx (fun k hk h => by have := hFlt k hk; omega)
  · exact k2'.trans xx (fun _ _ h => h) (fun k hk h => absurd hk (by omega))
  · intro bs hbs
    obtain ⟨q1, q2⟩ := k3' bs hbs
    exact q1.ext xx (fun k hk h => by have := hFlt k (q2 k hk); omega)
theorem pop_some {F : Nat → Prop} {w : World} {p : Nat} {room nn : Int} {L : List (It × List Int)} (h : QS w p room nn L F) (hr : 0 < room) (now : Int) (i : Nat) (hi : i < L.length) (hbest : IsBest (dues L) now i) (hL : L.length ≤ 1000000) :
    Calls Try.prog 11 #[.pointer (some ⟨p, 0, none⟩), .int .i64 now] w (PopEnd w p room nn L F i L[i].1) := by
  refine (pop_some' (h.mono (G := fun k => F k ∧ k < w.heap.size) (fun k hk hf => ⟨hf, hk⟩)) (fun k hk => hk.2) hr now i hi hbest hL).mono ?_
  rintro e w' ⟨h1, h2, h3, h4⟩
  exact ⟨h1, h2.mono fun _ _ h => h.1, h3.mono fun _ _ h => h.1, h4⟩
end Go.Proofs.Ytaphhadahajohaa
