/-
  A queue that no call made: each method answers an error, or nothing.
-/
import Derived.Test.YtaphhadahajohaaXa
set_option linter.unusedVariables false
set_option linter.unusedSimpArgs false
namespace Go.Proofs.Ytaphhadahajohaa
open Go.RowKit

/-- v is no good queue, in w and in whatever w grows to. -/
def Bad (w : World) (v : Value) : Prop := ∀ W, Ext NoB w W → Calls Try.prog 18 #[v] W fun e w' => e = .returned (.bool false) ∧ ∃ m, w' = W.drewN m
theorem Bad.ext {w w' : World} {v : Value} (h : Bad w v) (x : Ext NoB w w') : Bad w' v := fun W hW => h W (x.then hW)
theorem bad_nil (w : World) : Bad w (.pointer none) := fun W _ => good_nil W
theorem bad_zero {w : World} {b : Nat} (h : w.cell? ⟨b, 0, none⟩ = some (.int .i64 0)) : Bad w (.pointer (some ⟨b, 0, none⟩)) := fun W hW => good_zero b W (hW.cell h id)
theorem push_bad (v : Value) (w : World) (hv : Bad w v) (due dest : Int) (A : Option Addr) (l c : Nat) :
    Calls Try.prog 9 #[v, .agg #[.int .i64 due, .int .i64 dest, .slice A l c]] w fun e w' => e = .returned (.int .i64 1) ∧ Ext NoB w w' := by
  have HV := Lib.hid hv
  clear hv
  go_enter Try.func9, Try.ntmps9
  go_wp2_with (first
    | (go_at_call 18; refine (HV.out _ (Ext.alloc NoB w _)).mono ?_; rintro e W1 ⟨rfl, m, rfl⟩))
  go_ret
  exact ⟨rfl, (Ext.alloc NoB w _).andDrewN m⟩
theorem pop_bad (v : Value) (w : World) (hv : Bad w v) (now : Int) :
    Calls Try.prog 11 #[v, .int .i64 now] w fun e w' => e = .returned (.tuple #[.agg #[.int .i64 0, .int .i64 0, .slice none 0 0], .int .i64 1]) ∧ Ext NoB w w' := by
  have HV := Lib.hid hv
  clear hv
  go_enter Try.func11, Try.ntmps11
  go_wp2_with (first
    | (go_at_call 18; refine (HV.out _ (Ext.alloc NoB w _)).mono ?_; rintro e W1 ⟨rfl, m, rfl⟩))
  exact pop_end (w := w) rfl rfl rfl (zero_box w m).1 ⟨rfl, (zero_box w m).2⟩
theorem len_bad (v : Value) (w : World) (hv : Bad w v) : Calls Try.prog 10 #[v] w fun e w' => e = .returned (.int .i64 0) ∧ Ext NoB w w' := by
  have HV := Lib.hid hv
  clear hv
  go_enter Try.func10, Try.ntmps10
  go_wp2_with (first
    | (go_at_call 18; refine (HV.out _ (Ext.refl NoB w)).mono ?_; rintro e W1 ⟨rfl, m, rfl⟩))
  go_ret
  exact ⟨rfl, Ext.drewN NoB w m⟩
theorem clear_bad (v : Value) (w : World) (hv : Bad w v) : Calls Try.prog 15 #[v] w fun e w' => e = .returned (.int .i64 0) ∧ Ext NoB w w' := by
  have hl := len_bad v w hv
  have HL := Lib.hid hl
  clear hl hv
  go_enter Try.func15, Try.ntmps15
  go_wp2_with (first
    | (go_at_call 10; refine HL.out.mono ?_; rintro e W1 ⟨rfl, x1⟩))
  go_ret
  exact ⟨rfl, x1⟩
end Go.Proofs.Ytaphhadahajohaa
