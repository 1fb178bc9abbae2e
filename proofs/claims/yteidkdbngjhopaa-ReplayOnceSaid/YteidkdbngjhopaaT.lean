/-
  The law's comparison of two rows of numbers.
-/
import Derived.Test.YteidkdbngjhopaaS
set_option linter.unusedVariables false
set_option linter.unusedSimpArgs false
namespace Go.Proofs.Yteidkdbngjhopaa
open Go.RowKit

set_option maxHeartbeats 800000 in
theorem same17 (v v' : Value) (xs : List Int) (w : World) (h1 : QRow w 3 1 v xs.length (xs.map (Value.int .i64))) (h2 : QRow w 3 1 v' xs.length (xs.map (Value.int .i64))) (hl : xs.length ≤ 1000000) :
    Calls Try.prog 17 #[v, v'] w fun e w' => e = .returned (.bool true) ∧ Ext NoB w w' := by
  obtain ⟨A, c, rfl, k1, k2, _⟩ := h1.slice
  obtain ⟨A', c', rfl, k1', k2', _⟩ := h2.slice
  have H1 := Lib.hid h1
  have H2 := Lib.hid h2
  clear h1 h2
  have h63 : c ≤ 9223372036854775807 := by unfold maxLen at k2; omega
  have h63' : c' ≤ 9223372036854775807 := by unfold maxLen at k2'; omega
  go_enter Try.func17, Try.ntmps17
  go_wp2_with fail
  go_loopw [13] (fun i W => ∃ k : Nat, k ≤ xs.length ∧ i = .int .i64 k ∧ ∃ m, W = w.drewN m) (fun i _ => xs.length - (intOf i).toNat)
  case atStart => exact ⟨0, by omega, rfl, 0, rfl⟩
  case round =>
    obtain ⟨k, hk, rfl, m, rfl⟩ := hrel
    by_cases hlt : k < xs.length
    · have e1 : (k : Int) < (xs.length : Int) := by omega
      obtain ⟨g, o, cc, hv, _, _, hcell⟩ := H1.out.cellAt hlt
      obtain ⟨g', o', cc', hv', _, _, hcell'⟩ := H2.out.cellAt hlt
      injection hv with e2 _ e3
      injection hv' with e2' _ e3'
      subst e2; subst e2'
      generalize xs.getD k 0 = x at hcell hcell'
      have i1 : (0 : Int) ≤ (k : Int) := by omega
      clear e3 e3'
      go_upto_region 6 with (fail)
      go_quiet (fail)
      go_wp2_with fail
      exact ⟨⟨k + 1, by omega, by go_num, _, rfl⟩, by simp [intOf]; omega⟩
    · have e1 : ¬ (k : Int) < (xs.length : Int) := by omega
      go_wp2_with fail
      go_ret
      exact ⟨rfl, Ext.drewN NoB w m⟩
end Go.Proofs.Yteidkdbngjhopaa
