/-
  The document's Forget.
-/
import Derived.Test.YteidkdbngjhopaaV
set_option linter.unusedVariables false
set_option linter.unusedSimpArgs false
namespace Go.Proofs.Yteidkdbngjhopaa
open Go.RowKit

theorem rforget_end {W : World} {a : Act} {R : Ending → World → Prop} {m l e : Int} {A : Option Addr} {n c : Nat} (hd : a.defers = []) {b : Nat}
    (h6 : a.tmps.getD 4 undef = .pointer (some ⟨b, 0, none⟩)) (h7 : a.tmps.getD 5 undef = .int .i64 e) (hb : W.heap[b]? = some (.cells #[.slice A n c, .int .i64 m, .int .i64 l] 28 (0, 0)))
    (hR : R (.returned (.tuple #[rq A n c m l, .int .i64 e])) W) : bodyPost Try.prog Try.f9 R .ret a W := by
  obtain ⟨c0, c1, c2⟩ := three hb
  refine bodyPost_ret (v := .tuple #[rq A n c m l, .int .i64 e]) ?_ hd hR
  rw [Array.getD_eq_getD_getElem?] at h6 h7
  simp [results, Try.results9, go_sem, h6, h7, c0, c1, c2]
structure FB (w W : World) (A : Option Addr) (n c : Nat) (m l : Int) : Prop where
  q : W.heap[w.heap.size]? = some (.cells #[.slice A n c, .int .i64 m, .int .i64 l] 28 (0, 0))
  r : W.heap[w.heap.size + 1]? = some (.cells #[.slice none 0 0, .int .i64 0, .int .i64 0] 28 (0, 0))
  x : Ext NoB w W
theorem FB.start (w : World) (A : Option Addr) (n c : Nat) (m l : Int) : FB w ((w.alloc (.cells #[.slice A n c, .int .i64 m, .int .i64 l] 28)).alloc (.cells #[.slice none 0 0, .int .i64 0, .int .i64 0] 28)) A n c m l := by
  refine ⟨(Ext.alloc NoB _ _).obj (heapNew w _) id, ?_, (Ext.alloc NoB _ _).andAlloc _⟩
  have := heapNew (w.alloc (.cells #[.slice A n c, .int .i64 m, .int .i64 l] 28)) (.cells #[.slice none 0 0, .int .i64 0, .int .i64 0] 28)
  simpa using this
theorem FB.extF {F : Nat → Prop} {w W W' : World} {A : Option Addr} {n c : Nat} {m l : Int} (h : FB w W A n c m l) (hx : Ext F W W') (hF : ∀ k, F k → w.heap.size + 1 < k) : FB w W' A n c m l :=
  ⟨hx.obj h.q (fun h => by have := hF _ h; omega), hx.obj h.r (fun h => by have := hF _ h; omega), h.x.trans hx (fun _ _ h => h) (fun k hk h => by have := hF _ h; omega)⟩
theorem keepG_snoc (E : List Ent) (gen : Int) (e : Ent) : keepG (E ++ [e]) gen = if gen ≤ e.1 then keepG E gen ++ [e] else keepG E gen := by
  unfold keepG
  by_cases h : gen ≤ e.1 <;> simp [h, List.filter_append]
theorem keepG_len (E : List Ent) (gen : Int) : (keepG E gen).length ≤ E.length := List.length_filter_le _ _
def RForgetEnd (w : World) (most low gen : Int) (E : List Ent) (e : Ending) (w' : World) : Prop :=
  ∃ A' c', e = .returned (.tuple #[rq A' (keepG E gen).length c' most (max low gen), .int .i64 ((E.length : Int) - ((keepG E gen).length : Int))]) ∧ RE w' (.slice A' (keepG E gen).length c') (keepG E gen) ∧ Ext NoB w w' ∧ ∀ k, (Value.slice A' (keepG E gen).length c').ownBlock = some k → w.heap.size ≤ k
set_option maxHeartbeats 1600000 in
theorem rforget (A : Option Addr) (c : Nat) (most low gen : Int) (E : List Ent) (w : World) (hr : RE w (.slice A E.length c) E) (hlen : E.length ≤ 100000) :
    Calls Try.prog 9 #[rq A E.length c most low, .int .i64 gen] w (RForgetEnd w most low gen E) := by
  have hb := FB.start w A E.length c most low
  have hrx := fun W (hW : Ext NoB w W) => hr.ext hW (fun _ _ h => h)
  have hok := hr.ok
  obtain ⟨A', c', hv, hc1, hc2, _⟩ := hr.slice
  injection hv with e1 e2 e3
  subst e1; subst e3
  clear e2 hr
  have h63 : c ≤ 9223372036854775807 := by unfold maxLen at hc2; omega
  have HB := Lib.hid hb
  have HRX := Lib.hid hrx
  have HOK := Lib.hid hok
  clear hb hrx hok
  go_enter Try.func9, Try.ntmps9
  go_wp2_with fail
  generalize World.alloc (World.alloc w _) _ = W1 at HB ⊢
  have hs1 := HB.out.x.size
  have hs2 := blk_lt' HB.out.r
  go_loopw [6, 7] (fun o i W => ∃ (k : Nat) (A2 : Option Addr) (c2 : Nat), k ≤ E.length ∧ i = .int .i64 k ∧ o = .slice A2 (keepG (E.take k) gen).length c2 ∧ RE W (.slice A2 (keepG (E.take k) gen).length c2) (keepG (E.take k) gen) ∧ FB w W A E.length c most low ∧ ∀ k', (Value.slice A2 (keepG (E.take k) gen).length c2).ownBlock = some k' → w.heap.size + 1 < k') (fun _ i _ => E.length - (intOf i).toNat)
  case atStart => exact ⟨0, none, 0, by omega, rfl, rfl, RE.nil _, HB.out, fun k hk => by simp [Value.ownBlock] at hk⟩
  case round =>
    obtain ⟨k, A2, c2, hk, rfl, rfl, hre, hfb, hnew⟩ := hrel
    obtain ⟨q0, q1, q2⟩ := three hfb.q
    have HFB := Lib.hid hfb
    have HRE := Lib.hid hre
    have hkl : (keepG (E.take k) gen).length ≤ k := by have h1 := keepG_len (E.take k) gen; have h2 : (E.take k).length ≤ k := List.length_take_le _ _; omega
    by_cases hlt : k < E.length
    · have k1 : (k : Int) < (E.length : Int) := by omega
      obtain ⟨gb, o, rfl, hgb, hra⟩ := (HRX.out _ hfb.x).at hlt
      have d0 := ent_gen hra
      have hks := keepG_snoc (E.take k) gen E[k]
      rw [← List.take_succ_eq_append_getElem hlt] at hks
      have hoE := HOK.out _ (List.getElem_mem hlt)
      have lX := ecs_len hoE
      have HRA := Lib.hid hra
      clear hra hfb hre
      by_cases hg : gen ≤ E[k].1
      · rw [if_pos hg] at hks
        have HKS := Lib.hid hks
        have sX : (Try.prog.info? 59).map (·.size) = some (ecs E[k]).length := by rw [lX]; kernel_rfl
        have oX : ∀ v ∈ ecs E[k], v.oneCell' = true := fun v hv => flatE_one [E[k]] v (by simpa [flatE] using hv)
        have HL : Hid (flatE (keepG (E.take k) gen) ++ ecs E[k] = flatE (keepG (E.take (k + 1)) gen)) := Lib.hid (by rw [hks, flatE_append]; simp [flatE])
        have HLL : Hid ((keepG (E.take (k + 1)) gen).length = (keepG (E.take k) gen).length + 1) := Lib.hid (by rw [hks]; simp)
        have HOK' : Hid (∀ e ∈ keepG (E.take (k + 1)) gen, EntOk e) := Lib.hid (fun e he => HOK.out e (List.mem_of_mem_take (List.mem_filter.1 he).1))
        clear hks
        generalize hXl : ecs E[k] = X at *
        generalize E[k].1 = x at *
        go_wp2_with (first
          | ((with_reducible show wpList _ _ _ (⟨_, .load 59 _, _, _, _, _⟩ :: _) _ _); refine wpList_load_arrm (by rfl) 59 _ rfl gb (o + k * 17) rfl X _ HRA.out Try.underlying59 rfl sX ?_)
          | ((with_reducible show wpList _ _ _ (⟨_, .buildSlice 26 1 _, _, _, _, _⟩ :: _) _ _); refine wpList_slice59 rfl _ rfl X lX rfl ?_)
          | (at_builtin; refine wpList_append_q rfl _ _ 26 rfl 59 17 24 _ Try.underlying26 Try.info59 rfl (by decide) (.slice A2 (keepG (E.take k) gen).length c2) (keepG (E.take k) gen).length (flatE (keepG (E.take k) gen)) rfl (HRE.out.row.ext (Ext.alloc NoB wr _) (fun _ _ h => h)) ⟨wr.heap.size, 0, none⟩ 1 1 X rfl (by simp [lX]) (fun j u hj => by rw [add_none, cellOf (heapNew wr _), Nat.zero_add, List.getElem?_toArray]; exact hj) oX (by decide) (by unfold maxLen; omega) (by omega) ?_; intro g6 o6 c6 W6 hq6 x6 hg6; have hb6 := (HFB.out.extF (Ext.alloc NoB wr (.cells X.toArray 59)) (fun k h => h.elim)).extF x6 (fun k hk => hnew k hk)))
        have hn6 : ∀ k', (Value.slice (some ⟨g6, o6, none⟩) ((keepG (E.take k) gen).length + 1) c6).ownBlock = some k' → w.heap.size + 1 < k' := fun k' hk' => by
          have hgk : g6 = k' := by simpa [Value.ownBlock] using hk'
          subst hgk
          rcases hg6 with h | h
          · exact hnew _ h
          · have := blk_lt' HFB.out.r
            simp at h
            omega
        have hre6 : RE W6 (.slice (some ⟨g6, o6, none⟩) (keepG (E.take (k + 1)) gen).length c6) (keepG (E.take (k + 1)) gen) := ⟨by rw [HLL.out, ← HL.out]; exact hq6, HOK'.out⟩
        exact ⟨⟨k + 1, some ⟨g6, o6, none⟩, c6, by omega, by go_num, by rw [HLL.out], hre6, hb6, by rw [HLL.out]; exact hn6⟩, by simp [intOf]; omega⟩
      · rw [if_neg hg] at hks
        have hre' := HRE.out
        have HR1 : Hid (RE wr (.slice A2 (keepG (E.take (k + 1)) gen).length c2) (keepG (E.take (k + 1)) gen) ∧ ∀ k', (Value.slice A2 (keepG (E.take (k + 1)) gen).length c2).ownBlock = some k' → w.heap.size + 1 < k') := Lib.hid (by rw [hks]; exact ⟨hre', hnew⟩)
        have HKS := Lib.hid hks
        have hg' : ¬ gen ≤ E[k].1 := hg
        clear hks hre' hnew
        generalize E[k].1 = x at *
        go_wp2_with fail
        exact ⟨⟨k + 1, A2, c2, by omega, by go_num, by rw [HKS.out], HR1.out.1, HFB.out, HR1.out.2⟩, by simp [intOf]; omega⟩
    · have k1 : ¬ (k : Int) < (E.length : Int) := by omega
      obtain rfl : k = E.length := by omega
      rw [List.take_length] at HRE hnew hkl ⊢
      obtain ⟨r0, r1, r2⟩ := three hfb.r
      have qf := freeOf hfb.q
      have rf := freeOf hfb.r
      have hne : (w.heap.size + 1 : Nat) ≠ w.heap.size := by omega
      clear hfb hre
      go_wp2_with fail
      have x2 := ((Ext.setCell (F := fun k => k = w.heap.size) wr ⟨w.heap.size, 0, none⟩ (.slice A2 (keepG E gen).length c2) fun _ => rfl).andSet ⟨w.heap.size, 2, none⟩ (.int .i64 (max low gen)) fun _ => rfl)
      have hr2 := x2.obj HFB.out.r (fun h => by omega)
      have x5 := ((x2.mono (G := fun k => k = w.heap.size ∨ k = w.heap.size + 1) fun _ _ h => .inl h).andSet ⟨w.heap.size + 1, 0, none⟩ (.slice A2 (keepG E gen).length c2) fun _ => .inr rfl).andSet ⟨w.heap.size + 1, 1, none⟩ (.int .i64 most) fun _ => .inr rfl
      have x6 := x5.andSet ⟨w.heap.size + 1, 2, none⟩ (.int .i64 (max low gen)) fun _ => .inr rfl
      refine rforget_end rfl rfl rfl (set3 hr2) ⟨A2, c2, rfl, HRE.out.ext x6 (fun k hk h => by have := hnew k hk; omega), HFB.out.x.trans x6 (fun _ _ h => h) (fun k hk h => by omega), fun k hk => by have := hnew k hk; omega⟩
end Go.Proofs.Yteidkdbngjhopaa
