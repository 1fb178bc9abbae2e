/-
  The cache's Forget: the walk.
-/
import Derived.Test.YteidkdbngjhopaaK
set_option linter.unusedVariables false
set_option linter.unusedSimpArgs false
attribute [local go_sem ↓] Go.wp_at_zero Go.wp_at_succ
namespace Go.Proofs.Yteidkdbngjhopaa
open Go.RowKit Go.Maps

def ForgetEnd (w : World) (p : Nat) (room low : Int) (E : List Ent) (F : Nat → Prop) (gen : Int) (e : Ending) (w' : World) : Prop :=
  e = .returned (.int .i64 ((E.length : Int) - ((keepG E gen).length : Int))) ∧ CS w' p room (max low gen) (keepG E gen) F ∧ Ext F w w'
theorem QRow.cellAt {w : World} {v : Value} {n : Nat} {xs : List Int} (h : QRow w 3 1 v n (xs.map (Value.int .i64))) {k : Nat} (hk : k < n) : ∃ g o c, v = .slice (some ⟨g, o, none⟩) n c ∧ n ≤ c ∧ c ≤ maxLen ∧ w.cell? ⟨g, o + k, none⟩ = some (.int .i64 (xs.getD k 0)) := by
  have hl : xs.length = n := by simpa using h.1
  obtain ⟨g, o, c, hv, h1, h2, h3, _⟩ := h.form (by omega)
  refine ⟨g, o, c, hv, h1, h2, ?_⟩
  rw [h3 k (by omega)]
  have hk' : k < xs.length := by omega
  simp [List.getD_eq_getElem?_getD, List.getElem?_eq_getElem hk']
set_option maxHeartbeats 1600000 in
theorem forget10 {F : Nat → Prop} {w : World} {p : Nat} {room low : Int} {E : List Ent} (h : CS w p room low E F) (hFlt : ∀ k, F k → k < w.heap.size) (hlen : E.length ≤ 1000000) {gen : Int} (hgen : (Lit.int .i64 gen).wf = true) :
    Calls Try.prog 10 #[.pointer (some ⟨p, 0, none⟩), .int .i64 gen] w (ForgetEnd w p room low E F gen) := by
  obtain ⟨mb, G, f, hb, _⟩ := h.st
  have hgl := gl_len E
  have hgens := fun W hW => gens18 (w := W) (F := F) (p := p) (room := room) (low := low) (E := E) hW (by omega)
  have hlg : (gens E).length ≤ 1000000 := by rw [gens_len]; omega
  have hok := h.ok
  have HB := Lib.hid hb
  have HG := Lib.hid hgens
  have HC := Lib.hid h
  have HOK := Lib.hid hok
  clear hb h hgens hok
  go_enter Try.func10, Try.ntmps10
  go_wp2_with (first
    | (go_at_call 21; refine (good_yes p mb room low _ HB.out).mono ?_; rintro e W1 ⟨rfl, m, rfl⟩)
    | (go_at_call 18; refine (HG.out _ (HC.out.ext (Ext.drewN NoB w m) (fun _ _ h => h))).mono ?_; rintro e W2 ⟨v, rfl, hrow, x2, hnew⟩; obtain ⟨A, c, rfl, hc1, hc2, _⟩ := hrow.slice))
  have hq0 : CS W2 p room low (upG E gen 0) F := by rw [upG_zero]; exact (HC.out.ext (Ext.drewN NoB w m) (fun _ _ h => h)).ext x2 (fun _ _ h => h)
  have X2 : Ext F w W2 := ((Ext.drewN F w m).then (x2.mono fun _ _ h => h.elim))
  have hz2 := x2.size
  have hcnt0 : (0 : Int) = (E.length : Int) - ((upG E gen 0).length : Int) := by rw [upG_zero]; omega
  go_loopw [5, 14] (fun cnt i W => ∃ k : Nat, k ≤ (gens E).length ∧ i = .int .i64 k ∧ cnt = .int .i64 ((E.length : Int) - ((upG E gen k).length : Int)) ∧ CS W p room low (upG E gen k) F ∧ QRow W 3 1 (.slice A (gens E).length c) (gens E).length ((gens E).map (Value.int .i64)) ∧ Ext F w W ∧ W2.heap.size ≤ W.heap.size) (fun _ i _ => (gens E).length - (intOf i).toNat)
  case atStart => exact ⟨0, Nat.zero_le _, rfl, by rw [← hcnt0], hq0, hrow, X2, Nat.le_refl _⟩
  case round =>
    clear hq0 X2 hcnt0 hrow
    obtain ⟨k, hk, rfl, rfl, hq, hrow, hx, hsz⟩ := hrel
    have hul : (upG E gen k).length ≤ E.length := List.length_filter_le _ _
    by_cases hlt : k < (gens E).length
    · have k1 : (k : Int) < ((gens E).length : Int) := by omega
      obtain ⟨gb, o, c', hv, hn1, hn2, hcell⟩ := hrow.cellAt hlt
      injection hv with e1 e2 e3
      clear e2
      subst e1
      have HE3 := Lib.hid e3
      clear e3
      have hgbF : ¬ F gb := fun hf => by have h1 := hFlt gb hf; have h2 := hnew gb rfl; have h3 : (w.drewN m).heap.size = w.heap.size := rfl; omega
      have hin := upG_has (gen := gen) hlt
      have hwf : (Lit.int .i64 ((gens E).getD k 0)).wf = true := by
        obtain ⟨t, ht⟩ := mem_gl.1 hin
        exact (HOK.out _ (List.mem_filter.1 ht).1).gen
      have hup1 := fun h => upG_drop (E := E) (gen := gen) hlt h
      have hup2 := fun h => upG_keep (E := E) (gen := gen) hlt h
      generalize (gens E).getD k 0 = g at *
      by_cases hg : g < gen
      · have hup := hup1 hg
        obtain ⟨mb1, b1, W, hb1, hlk, hln, hdel, hq1, hxF, hxm⟩ := hq.drop hwf hin 0
        obtain ⟨c0, c1, c2⟩ := three hb1
        have hld := len_drop (upG E gen k) g
        rw [← hup] at hld hq1
        have hmbF : F mb1 ∨ True := .inr trivial
        have hrow1 := hrow.ext hxF (fun j hj => by simp [Value.ownBlock] at hj; subst hj; exact hgbF)
        have e9 : (E.length : Int) - ((upG E gen k).length : Int) + ((tagsOf (upG E gen k) g).length : Int) = (E.length : Int) - ((upG E gen (k + 1)).length : Int) := by omega
        have b1' : (0 : Int) ≤ (E.length : Int) - ((upG E gen k).length : Int) := by omega
        have b2' : (E.length : Int) - ((upG E gen k).length : Int) ≤ 1000000 := by omega
        have b3' : ((tagsOf (upG E gen k) g).length : Int) ≤ 1000000 := by omega
        have HR := Lib.hid (And.intro hq1 (And.intro hrow1 (And.intro (hx.then hxF) (Nat.le_trans hsz hxF.size))))
        have H9 := Lib.hid e9
        clear hup1 hup2 hup hq hq1 hrow hrow1 hb1 hld e9 hxF hxm
        generalize (E.length : Int) - ((upG E gen k).length : Int) = cnt at *
        go_wp2_with fail
        exact ⟨⟨k + 1, by omega, by go_num, by rw [H9.out], HR.out⟩, by simp [intOf]; omega⟩
      · have hup := hup2 hg
        have HR := Lib.hid (And.intro hq (And.intro hrow (And.intro hx hsz)))
        rw [← hup] at HR
        have H9 : Hid ((E.length : Int) - ((upG E gen k).length : Int) = (E.length : Int) - ((upG E gen (k + 1)).length : Int)) := Lib.hid (by rw [hup])
        clear hup1 hup2 hup hq hrow
        generalize (E.length : Int) - ((upG E gen k).length : Int) = cnt at *
        go_wp2_with fail
        exact ⟨⟨k + 1, by omega, by go_num, by rw [H9.out], HR.out⟩, by simp [intOf]; omega⟩
    · have k1 : ¬ (k : Int) < ((gens E).length : Int) := by omega
      obtain rfl : k = (gens E).length := by omega
      rw [upG_end] at hq ⊢
      obtain ⟨mb1, G1, f1, hb1, _⟩ := hq.st
      obtain ⟨c0, c1, c2⟩ := three hb1
      have fr := freeOf hb1 1
      have HQ := Lib.hid hq
      have hown := hq.own
      clear hb1 hq hrow
      go_wp2_with fail
      go_ret
      exact ⟨rfl, HQ.out.setLow _, hx.andSet _ _ fun _ => hown⟩
end Go.Proofs.Yteidkdbngjhopaa
