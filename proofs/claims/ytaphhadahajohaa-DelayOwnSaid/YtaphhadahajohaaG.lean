/-
  container/heap's Fix and Pop over the line.
-/
import Derived.Test.YtaphhadahajohaaF
set_option linter.unusedVariables false
set_option linter.unusedSimpArgs false
namespace Go.Proofs.Ytaphhadahajohaa
open Go.RowKit

set_option maxHeartbeats 400000 in
theorem fix22 (p g o cap j : Nat) (room nn : Int) (hs : List It) (w : World) (h : HL w p room nn g o cap hs) (hj : hs.length = j + 1) (hb : hs.length ≤ 1000000) (hu : UpInv hs j) :
    Calls Try.prog 22 #[Li p, .int .i64 j] w fun e w' => e = .returned (.tuple #[]) ∧ Moved w p room nn g o cap hs (fun hs' => HeapN hs' hs'.length) w' := by
  have ml := m_len ⟨p, 1, none⟩
  have h1 := len20 p g o cap room nn hs w h
  have h2 := fun W => down_leaf p j (hs.length) W (by omega) (by omega)
  have h3 := fun W (hW : HL W p room nn g o cap hs) => up25 p g o cap j room nn hs W hW hu
  have H1 := Lib.hid h1
  have H2 := Lib.hid h2
  have H3 := Lib.hid h3
  clear h1 h2 h3 hj hu
  go_enter Try.func22, Try.ntmps22
  go_wp2_with (first
    | (go_at_call 20; refine H1.out.mono ?_; rintro e W1 ⟨rfl, m, rfl⟩; have hl1 := h.ext (Ext.drewN NoB w m) id id)
    | (go_at_call 24; refine (H2.out _).mono ?_; rintro e W2 ⟨rfl, rfl⟩)
    | (go_at_call 25; refine (H3.out _ hl1).mono ?_; rintro e W3 ⟨rfl, hM⟩))
  go_end0
  obtain ⟨hs', k1, k2, k3, k4⟩ := hM
  exact ⟨rfl, hs', k1, ((Ext.refl _ w).andDrewN m).then k2, k3, k4⟩

/-- What is left behind a Pop. -/
def Popped (w : World) (p : Nat) (room nn : Int) (g o cap : Nat) (hs : List It) (w' : World) : Prop :=
  ∃ hs', HL w' p room nn g o cap hs' ∧ Ext (fun k => k = g ∨ k = p) w w' ∧ (at' hs 0 :: hs').Perm hs ∧ HeapN hs' hs'.length
set_option maxHeartbeats 800000 in
theorem pop23 (p g o cap m : Nat) (room nn : Int) (hs : List It) (w : World) (h : HL w p room nn g o cap hs) (hm : hs.length = m + 1) (hb : hs.length ≤ 1000000) (hH : HeapN hs hs.length) :
    Calls Try.prog 23 #[Li p] w fun e w' => e = .returned (.iface 59 (.agg (at' hs 0).cs.toArray)) ∧ Popped w p room nn g o cap hs w' := by
  have ml := m_len ⟨p, 1, none⟩
  have ms := m_swap ⟨p, 1, none⟩
  have mp := m_pop ⟨p, 1, none⟩
  have h1 := len20 p g o cap room nn hs w h
  have h2 : ∀ W, HL W p room nn g o cap hs → Calls Try.prog 44 #[.pointer (some ⟨p, 1, none⟩), .int .i64 0, .int .i64 m] W fun e w' => e = .returned (.tuple #[]) ∧ HL w' p room nn g o cap (swapL hs 0 m) ∧ Ext (fun k => k = g) W w' := fun W hW => by
    by_cases h0 : m = 0
    · subst h0
      exact swapHLs 0 hW (by omega)
    · exact swapHL 0 m hW (by omega) (by omega) (fun e => h0 e.symm)
  have hd : DnInv (swapL hs 0 m) 0 m := DnInv.start (by rw [← hm]; exact hH) hm
  have h3 : ∀ W, HL W p room nn g o cap (swapL hs 0 m) → Calls Try.prog 24 #[Li p, .int .i64 0, .int .i64 m] W fun e w' => ∃ r, e = .returned (.bool r) ∧ Moved W p room nn g o cap (swapL hs 0 m) (DnEnd (swapL hs 0 m) m) w' :=
    fun W hW => down24 p g o cap 0 m room nn _ W hW hd (by rw [swapL_length]; omega) (by rw [swapL_length]; omega) (by omega)
  have h4 : ∀ W hs', HL W p room nn g o cap hs' → hs'.Perm (swapL hs 0 m) → DnEnd (swapL hs 0 m) m hs' → Calls Try.prog 43 #[.pointer (some ⟨p, 1, none⟩)] W fun e w' => e = .returned (.iface 59 (.agg (at' hs 0).cs.toArray)) ∧ HL w' p room nn g o cap (hs'.take m) ∧ Ext (fun k => k = p) W w' ∧ (at' hs 0 :: hs'.take m).Perm hs ∧ HeapN (hs'.take m) (hs'.take m).length := fun W hs' hW hp hD => by
    have hl' : hs'.length = m + 1 := by rw [hp.length_eq, swapL_length, hm]
    have hx : at' hs' m = at' hs 0 := by
      rw [hD.2 m (Nat.le_refl _), at_swap _ _ _ _ (by omega) (by omega), if_pos rfl]
    have hsplit : hs' = hs'.take m ++ [at' hs 0] := by
      conv => lhs; rw [← List.take_append_drop m hs']
      congr 1
      have hdl : (hs'.drop m).length = 1 := by rw [List.length_drop]; omega
      match hq : hs'.drop m, hdl with
      | [y], _ =>
        have : hs'[m]? = some y := by
          have := List.getElem?_drop (xs := hs') (i := m) (j := 0)
          rw [hq] at this
          simpa using this.symm
        rw [← hx, at_of this]
    have ht : (hs'.take m).length = m := by rw [List.length_take]; omega
    refine (pop43 p g o cap room nn (hs'.take m) (at' hs 0) W (by rw [← hsplit]; exact hW)).mono ?_
    rintro e w' ⟨k1, k2, k3⟩
    refine ⟨k1, k2, k3, ?_, by rw [ht]; exact hD.1.take (Nat.le_refl _) (by omega)⟩
    have q1 : (at' hs 0 :: hs'.take m).Perm (hs'.take m ++ [at' hs 0]) := (List.perm_append_singleton _ _).symm
    rw [← hsplit] at q1
    exact q1.trans (hp.trans (swapL_perm hs 0 m (by omega) (by omega)))
  have e1 : ((hs.length : Nat) : Int) - 1 = (m : Int) := by omega
  have H1 := Lib.hid h1
  have H2 := Lib.hid h2
  have H3 := Lib.hid h3
  have H4 := Lib.hid h4
  have k3 : hs.length ≤ 1000000 := hb
  clear h1 h2 h3 h4 hm hd
  go_enter Try.func23, Try.ntmps23
  go_wp2_with (first
    | (go_at_call 20; refine H1.out.mono ?_; rintro e W1 ⟨rfl, m1, rfl⟩; have hl1 := h.ext (Ext.drewN NoB w m1) id id)
    | (go_at_call 44; refine (H2.out _ hl1).mono ?_; rintro e W2 ⟨rfl, hl2, x2⟩)
    | (go_at_call 24; refine (H3.out _ hl2).mono ?_; rintro e W3 ⟨r, rfl, hs', hl3, x3, hp3, hD3⟩)
    | (go_at_call 43; refine (H4.out _ hs' hl3 hp3 hD3).mono ?_; rintro e W4 ⟨rfl, hl4, x4, hp4, hH4⟩))
  go_ret
  refine ⟨rfl, _, hl4, ?_, hp4, hH4⟩
  exact ((((Ext.refl (fun k => k = g) w).andDrewN m1).then x2).then x3).trans x4 (fun _ _ h => .inl h) (fun _ _ h => .inr h)
end Go.Proofs.Ytaphhadahajohaa
