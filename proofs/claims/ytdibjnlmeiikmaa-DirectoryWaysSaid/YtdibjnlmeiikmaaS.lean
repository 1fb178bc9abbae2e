/-
  layer.
-/
import Derived.Test.YtdibjnlmeiikmaaR
set_option linter.unusedVariables false
set_option linter.unusedSimpArgs false
namespace Go.Proofs.Ytdibjnlmeiikmaa
open Go.RowKit Go.Proofs

theorem enters43 (args : Array Value) (w : World) : (callFunc 43 args).run Try.prog w = .ok (.enter 43 args) w := enters_of Try.func43 (by kernel_rfl) rfl args w
theorem delete41_none (g : Nat) (cb : Array Value) (eg : ∀ args w, (callFunc g args).run Try.prog w = .ok (.enter g args) w) (A : Option Addr) (c : Nat) (hc : c ≤ maxLen) (w : World) :
    Calls Try.prog 41 #[.slice A 0 c, .func (.func g) #[] cb] w fun e w' => e = .returned (.slice A 0 c) ∧ Ext NoB w w' := by
  have hidx := index30 g cb eg A c [] (fun _ => false) w ⟨fun i hi => absurd hi (by simp), Nat.zero_le _, hc⟩ (fun n hn => absurd hn (by simp)) (by simp)
  have hidx' : Calls Try.prog 30 #[.slice A 0 c, .func (.func g) #[] cb] w fun e w' => e = .returned (.int .i64 (-1)) ∧ Ext NoB w w' := hidx
  have HX := Lib.hid hidx'
  clear hidx hidx'
  go_enter Try.func41, Try.ntmps41
  go_wp2_with (go_at_call 30; (with_reducible refine HX.out.mono ?_); rintro e W1 ⟨rfl, x1⟩)
  go_ret
  exact ⟨rfl, x1⟩
theorem sort44_none (A : Option Addr) (c : Nat) (fv : Value) (w : World) : Calls Try.prog 44 #[.slice A 0 c, fv] w fun e w' => e = .returned (.tuple #[]) ∧ w' = w :=
  AnyF.slices_SortFunc_none (P := Try.prog) (ρ := Try.sortL_ren) Try.sortL A c fv w
theorem own_any (A : Option Addr) (n c m d : Nat) : (Value.slice A n c).ownBlock = (Value.slice A m d).ownBlock := by cases A <;> rfl
theorem kept_not (l : Int) (L : List Nd) : kept (fun n => !decide (n.lay = l)) L = L.filter (fun n => decide (n.lay = l)) := by unfold kept; simp
def LayEnd (w : World) (L : List Nd) (l : Int) (e : Ending) (w' : World) : Prop :=
  ∃ A' c' M, e = .returned (.slice A' M.length c') ∧ List.Perm M (L.filter (fun n => decide (n.lay = l))) ∧ M.Pairwise (fun a b => a.id ≤ b.id) ∧ NR w' (.slice A' M.length c') M ∧ Ext NoB w w' ∧ ∀ k, (Value.slice A' M.length c').ownBlock = some k → w.heap.size ≤ k
/-- DeleteFunc and SortFunc, in one: what layer does behind Clone. -/
def DelEnd (w : World) (A : Option Addr) (L : List Nd) (p : Nd → Bool) (e : Ending) (w' : World) : Prop :=
  ∃ c', e = .returned (.slice A (kept p L).length c') ∧ NR w' (.slice A (kept p L).length c') (kept p L) ∧ Ext (fun k => (Value.slice A 0 0).ownBlock = some k) w w'
theorem delete_any (g : Nat) (cb : Array Value) (eg : ∀ args w, (callFunc g args).run Try.prog w = .ok (.enter g args) w) (A : Option Addr) (c : Nat) (L : List Nd) (p : Nd → Bool) (w : World) (hr : NR w (.slice A L.length c) L) (ht : TstF w g cb L p (fun k => (Value.slice A 0 0).ownBlock = some k)) (hlen : L.length ≤ 1000000) :
    Calls Try.prog 41 #[.slice A L.length c, .func (.func g) #[] cb] w (DelEnd w A L p) := by
  by_cases hL : L = []
  · subst hL
    refine (delete41_none g cb eg A c (NR.rd hr).cap.2 w).mono fun e w' ⟨h1, h2⟩ => ⟨c, h1, hr.ext h2 (fun _ _ h => h), h2.mono fun _ _ h => h.elim⟩
  · obtain ⟨b, o, cap, hA, _⟩ := QRow.form hr (List.length_pos_iff.2 hL)
    injection hA with hA _ hc
    subst hA; subst hc
    have hF : ∀ k, (Value.slice (some ⟨b, o, none⟩) 0 0).ownBlock = some k ↔ k = b := fun k => by simp [Value.ownBlock, eq_comm]
    refine (delete41 g cb eg b o c L p w hr (fun n hn W hW => ht n hn W (hW.mono fun k _ h => (hF k).2 h)) hlen).mono fun e w' ⟨c', h1, h2, h3⟩ => ⟨c', h1, h2, h3.mono fun k _ h => (hF k).2 h⟩
def SortEnd (w : World) (A : Option Addr) (c : Nat) (L : List Nd) (e : Ending) (w' : World) : Prop :=
  e = .returned (.tuple #[]) ∧ ∃ M : List Nd, M.Perm L ∧ M.Pairwise (fun a b => a.id ≤ b.id) ∧ NR w' (.slice A M.length c) M ∧ Ext (fun k => (Value.slice A 0 0).ownBlock = some k) w w'
theorem sort_any (A : Option Addr) (c : Nat) (L : List Nd) (w : World) (hr : NR w (.slice A L.length c) L) (hlen : L.length ≤ 1000000) :
    Calls Try.prog 44 #[.slice A L.length c, .func (.func 45) #[] #[]] w (SortEnd w A c L) := by
  by_cases hL : L = []
  · subst hL
    refine (sort44_none A c _ w).mono fun e w' ⟨h1, h2⟩ => ⟨h1, [], List.Perm.refl _, List.Pairwise.nil, by rw [h2]; exact hr, by rw [h2]; exact Ext.refl _ _⟩
  · obtain ⟨b, o, cap, hA, _⟩ := QRow.form hr (List.length_pos_iff.2 hL)
    injection hA with hA _ hc
    subst hA; subst hc
    have hF : ∀ k, (Value.slice (some ⟨b, o, none⟩) 0 0).ownBlock = some k ↔ k = b := fun k => by simp [Value.ownBlock, eq_comm]
    exact (sort44 b o c L w hr (List.length_pos_iff.2 hL) hlen).mono fun e w' ⟨h1, M, h2, h3, h4, h5⟩ => ⟨h1, M, h2, h3, h4, h5.mono fun k _ h => (hF k).2 h⟩
set_option maxHeartbeats 1600000 in
set_option maxRecDepth 100000 in
theorem layer29 (layers l : Int) (A : Option Addr) (c : Nat) (L : List Nd) (w : World) (hr : NRd w A c L) (hlen : L.length ≤ 1000) :
    Calls Try.prog 29 #[.agg #[.int .i64 layers, .slice A L.length c], .int .i64 l] w (LayEnd w L l) := by
  have h63 : c ≤ 9223372036854775807 := by have := hr.cap.2; unfold maxLen at this; omega
  have hcap := hr.cap.1
  have hmf : ∀ (fn : Fn) (first cap : Array Value) (w : World), (Instr.makeFunc fn first cap).run Try.prog w = .ok (.func fn first cap) w := fun _ _ _ _ => rfl
  go_enter Try.func29, Try.ntmps29
  go_upto_region 1 with fail
  generalize hW1 : World.alloc (World.alloc w _) _ = W1
  have hd : W1.heap[w.heap.size]? = some (.cells #[.int .i64 layers, .slice A L.length c] 30 (0, 0)) := by rw [← hW1, heapAlloc _ _ _ (by simp), heapNew]
  have hb : W1.heap[w.heap.size + 1]? = some (.cells #[.int .i64 l] 3 (0, 0)) := by rw [← hW1, heapNew' _ _ _ (by simp)]
  have x1 : Ext NoB w W1 := by rw [← hW1]; exact (Ext.alloc NoB w _).andAlloc _
  clear hW1
  have d1 : W1.cell? ⟨w.heap.size, 1, none⟩ = some (.slice A L.length c) := by rw [cellOf hd]; rfl
  have hbl := blk_lt' hb
  have hr1 := hr.ext x1 (fun _ _ _ h => h)
  have hcl := clone42 A c L W1 hr1 (by omega)
  have HB := Lib.hid hb
  have HX := Lib.hid x1
  have HCL := Lib.hid hcl
  have hd0 : ∀ (A2 : Option Addr) (c2 : Nat) (W2 : World), NR W2 (.slice A2 L.length c2) L → Ext NoB W1 W2 → (∀ k, (Value.slice A2 L.length c2).ownBlock = some k → W1.heap.size ≤ k) → Calls Try.prog 41 #[.slice A2 L.length c2, .func (.func 43) #[] #[.pointer (some ⟨w.heap.size + 1, 0, none⟩)]] W2 (DelEnd W2 A2 L (fun n => !decide (n.lay = l))) := fun A2 c2 W2 hr2 x2 hn2 =>
    delete_any 43 #[.pointer (some ⟨w.heap.size + 1, 0, none⟩)] enters43 A2 c2 L (fun n => !decide (n.lay = l)) W2 hr2 (fun n hn W hW => layFn43 n (w.heap.size + 1) l W (hW.cell (by rw [cellOf (x2.obj hb id)]; rfl) (fun e => by have := hn2 (w.heap.size + 1) (by rw [own_any A2 L.length c2 0 0]; exact e); omega))) (by omega)
  have HD0 := Lib.hid hd0
  clear hd hb hr hr1 hcl x1 hd0
  go_wp2_with (first
    | (go_at_call 42; (with_reducible refine HCL.out.mono ?_); rintro e W2 ⟨A2, c2, rfl, hr2, x2, hn2⟩; have HDEL := Lib.hid (HD0.out A2 c2 W2 hr2 x2 hn2); have HN2 := Lib.hid hn2; have HX2 := Lib.hid x2; clear hr2 hn2 x2)
    | (go_at_call 41; (with_reducible refine HDEL.out.mono ?_); rintro e W3 ⟨c3, rfl, hr3, x3⟩)
    | (go_at_call 44; (with_reducible refine (sort_any A2 c3 _ W3 hr3 (by have := List.length_filter_le (fun n => !(fun n : Nd => !decide (n.lay = l)) n) L; unfold kept; omega)).mono ?_); rintro e W4 ⟨rfl, M, hM1, hM2, hr4, x4⟩))
  go_ret
  have hl := hM1.length_eq
  have hb2 : ∀ k, (Value.slice A2 0 0).ownBlock = some k → W1.heap.size ≤ k := fun k hk => HN2.out k (by rw [own_any A2 L.length c2 0 0]; exact hk)
  have hs1 := HX.out.size
  refine ⟨A2, c3, M, by rw [hl]; rfl, by rw [← kept_not]; exact hM1, hM2, hr4, ?_, fun k hk => ?_⟩
  · exact (HX.out.then HX2.out).trans (x3.then x4) (fun _ _ h => h) (fun k hk h => by have := hb2 k h; omega)
  · have := hb2 k (by rw [own_any A2 0 0 M.length c3]; exact hk)
    omega
end Go.Proofs.Ytdibjnlmeiikmaa
