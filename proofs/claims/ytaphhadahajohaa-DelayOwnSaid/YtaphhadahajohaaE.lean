/-
  container/heap's up, down, Fix and Pop over the line.
-/
import Derived.Test.YtaphhadahajohaaD
set_option linter.unusedVariables false
set_option linter.unusedSimpArgs false
namespace Go.Proofs.Ytaphhadahajohaa
open Go.RowKit

abbrev Li (p : Nat) : Value := .iface 61 (.pointer (some ⟨p, 1, none⟩))
/-- The line behind a call: a permutation of what it was. -/
def Moved (w : World) (p : Nat) (room nn : Int) (g o cap : Nat) (hs : List It) (P : List It → Prop) (w' : World) : Prop :=
  ∃ hs', HL w' p room nn g o cap hs' ∧ Ext (fun k => k = g) w w' ∧ hs'.Perm hs ∧ P hs'
theorem Moved.here {w : World} {p : Nat} {room nn : Int} {g o cap : Nat} {hs : List It} {P : List It → Prop} (h : HL w p room nn g o cap hs) (hP : P hs) : Moved w p room nn g o cap hs P w := ⟨hs, h, Ext.refl _ _, List.Perm.refl _, hP⟩
set_option maxHeartbeats 400000 in
theorem up25 (p g o cap j : Nat) (room nn : Int) (hs : List It) (w : World) (h : HL w p room nn g o cap hs) (hu : UpInv hs j) :
    Calls Try.prog 25 #[Li p, .int .i64 j] w fun e w' => e = .returned (.tuple #[]) ∧ Moved w p room nn g o cap hs (fun hs' => HeapN hs' hs'.length) w' := by
  have ml := m_less ⟨p, 1, none⟩
  have ms := m_swap ⟨p, 1, none⟩
  go_enter Try.func25, Try.ntmps25
  go_wp2_with fail
  go_loopw [1] (fun v W => ∃ (k : Nat), v = .int .i64 k ∧ Moved w p room nn g o cap hs (fun hs' => UpInv hs' k) W) (fun v _ => (intOf v).toNat)
  case atStart => exact ⟨j, rfl, Moved.here h hu⟩
  case round =>
    clear h hu
    obtain ⟨k, rfl, hs', hl, hx, hp, hu⟩ := hrel
    have hlen := hl.len
    have k3 : hs'.length ≤ 9223372036854775807 := by have := hlen; unfold maxLen at this; omega
    have hk := hu.1
    by_cases hk0 : k = 0
    · subst hk0
      have hd := hu.done (.inl rfl)
      clear hlen hu
      go_wp2_with fail
      go_end0
      exact ⟨rfl, hs', hl, hx, hp, hd⟩
    · obtain ⟨i, hi⟩ : ∃ i : Nat, i = (k - 1) / 2 := ⟨_, rfl⟩
      have e1 : ((k : Int) - 1) / 2 = (i : Int) := by omega
      have e2 : ((i : Int) == (k : Int)) = false := by simp; omega
      have hik : i < k := by omega
      have hc := lessHL k i hl hk (by omega)
      have e0 : 0 ≤ (k : Int) - 1 := by omega
      cases hb : ltB (at' hs' k) (at' hs' i) with
      | false =>
        rw [hb] at hc
        have hd := hu.done (.inr (by rw [← hi]; exact (ltB_false _ _).1 hb))
        have HC := Lib.hid hc
        clear hc hb hi hlen hu
        go_wp2_with (first | (go_at_call 42; refine HC.out.mono ?_; rintro e W2 ⟨rfl, x2⟩))
        go_end0
        exact ⟨rfl, hs', hl.ext x2 id id, hx.trans x2 (fun _ _ h => h) (fun _ _ h => h.elim), hp, hd⟩
      | true =>
        rw [hb] at hc
        have hst := hu.step (by omega) (by rw [← hi]; exact (ltB_iff _ _).1 hb)
        rw [← hi] at hst
        have HC := Lib.hid hc
        have HP := Lib.hid hst
        have hsp := swapL_perm hs' i k (by omega) hk
        clear hc hb hi hlen hst
        go_wp2_with (first | (go_at_call 42; refine HC.out.mono ?_; rintro e W2 ⟨rfl, x2⟩) | (go_at_call 44; refine (swapHL i k (hl.ext x2 id id) (by omega) hk (by omega)).mono ?_; rintro e W3 ⟨rfl, h3, x3⟩))
        exact ⟨⟨i, rfl, _, h3, (hx.trans x2 (fun _ _ h => h) (fun _ _ h => h.elim)).then x3, hsp.trans hp, HP.out⟩, by simp [intOf]; omega⟩
end Go.Proofs.Ytaphhadahajohaa
