/-
  slices.Clone at nodes.
-/
import Derived.Test.YtdibjnlmeiikmaaP
set_option linter.unusedVariables false
set_option linter.unusedSimpArgs false
namespace Go.Proofs.Ytdibjnlmeiikmaa
open Go.RowKit

def CloneEnd (w : World) (L : List Nd) (e : Ending) (w' : World) : Prop :=
  ∃ A' c', e = .returned (.slice A' L.length c') ∧ NR w' (.slice A' L.length c') L ∧ Ext NoB w w' ∧ ∀ k, (Value.slice A' L.length c').ownBlock = some k → w.heap.size ≤ k
set_option maxRecDepth 100000 in
set_option maxHeartbeats 800000 in
theorem clone42 (A : Option Addr) (c : Nat) (L : List Nd) (w : World) (hr : NRd w A c L) (hlen : L.length ≤ 1000000) : Calls Try.prog 42 #[.slice A L.length c] w (CloneEnd w L) := by
  have heq := fun w' : World => Lib.run_eql_slice_nil (P := Try.prog) w' 28 50 A L.length c 0 0 Try.underlying28
  have h63 : c ≤ 9223372036854775807 := by have := hr.cap.2; unfold maxLen at this; omega
  have hcap := hr.cap.1
  cases A with
  | none =>
    have hL : L = [] := by
      rcases L with _ | ⟨x, l⟩
      · rfl
      · obtain ⟨b, o, h, _⟩ := hr.at' 0 (by simp)
        cases h
    subst hL
    clear hr hlen h63 hcap
    simp only [List.length_nil, Option.isNone_none] at heq ⊢
    go_enter Try.func42, Try.ntmps42
    go_wp2_with fail
    go_ret
    exact ⟨none, 0, rfl, QRow.nil _ _ _, Ext.refl _ _, fun k hk => by simp [Value.ownBlock] at hk⟩
  | some a =>
    by_cases hL : L = []
    · subst hL
      clear hr hlen hcap
      simp only [List.length_nil, Option.isNone_some] at heq ⊢
      go_enter Try.func42, Try.ntmps42
      go_wp2_with fail
      go_ret
      refine ⟨some ⟨w.heap.size, 0, none⟩, 0, rfl, ⟨rfl, .inr ⟨w.heap.size, 0, 0, #[], rfl, heapNew _ _, Nat.le_refl _, by decide, by simp, fun j hj => by simp [flatN] at hj⟩⟩, Ext.alloc _ _ _, fun k hk => ?_⟩
      have : w.heap.size = k := by simpa [Value.ownBlock] using hk
      omega
    · have hpos : 0 < L.length := List.length_pos_iff.2 hL
      obtain ⟨b, o, hA, _⟩ := hr.at' 0 hpos
      injection hA with hA
      subst hA
      have hnews : ∀ j u, (flatN L)[j]? = some u → w.cell? ((⟨b, o, none⟩ : Addr).add j) = some u := fun j u hj => by
        have hjl : j < L.length * 34 := by have := (List.getElem?_eq_some_iff.1 hj).1; rwa [flatN_length] at this
        have hd : j = (j / 34) * 34 + j % 34 := by omega
        obtain ⟨b', o', hA, _, hra⟩ := hr.at' (j / 34) (by omega)
        injection hA with hA
        injection hA with e1 e2
        subst e1; subst e2
        rw [hd, flatN_at L _ _ (Nat.mod_lt _ (by decide)) (by omega), List.getElem?_eq_getElem (by omega)] at hj
        have := hra _ u hj
        rw [add_none, hd, ← Nat.add_assoc]
        exact this
      have HNW := Lib.hid hnews
      have hq0 : QRow (w.alloc (.cells #[] 50)) 50 34 (.slice (some ⟨w.heap.size, 0, none⟩) 0 0) 0 [] := ⟨rfl, .inr ⟨w.heap.size, 0, 0, #[], rfl, heapNew _ _, Nat.le_refl _, by decide, by simp, fun j hj => by simp at hj⟩⟩
      have hx0 := Ext.alloc NoB w (.cells #[] 50)
      have HQ := Lib.hid hq0
      clear hnews hr hq0
      go_enter Try.func42, Try.ntmps42
      go_wp2_with (at_builtin; refine wpList_append_q rfl _ _ 28 rfl 50 34 48 (.agg (nc default).toArray) Try.underlying28 info50 (by rfl) (by decide) (.slice (some ⟨w.heap.size, 0, none⟩) 0 0) 0 [] rfl HQ.out ⟨b, o, none⟩ L.length c (flatN L) rfl (flatN_length L) (fun j u hj => hx0.cell (HNW.out j u hj) id) (flatN_one L) hpos (by unfold maxLen; omega) (by omega) ?_; intro g3 o3 c3 W3 hq3 x3 hg3)
      go_ret
      simp only [Nat.zero_add, List.nil_append] at hq3
      refine ⟨some ⟨g3, o3, none⟩, c3, rfl, hq3, hx0.trans x3 (fun _ _ h => h) (fun k hk h => ?_), fun k hk => ?_⟩
      · have : w.heap.size = k := by simpa [Value.ownBlock] using h
        omega
      · have hgk : g3 = k := by simpa [Value.ownBlock] using hk
        subst hgk
        rcases hg3 with h | h
        · have : w.heap.size = g3 := by simpa [Value.ownBlock] using h
          omega
        · simp at h; omega
end Go.Proofs.Ytdibjnlmeiikmaa
