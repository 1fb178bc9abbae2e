/-
  A cache that no call made.
-/
import Derived.Test.YteidkdbngjhopaaL
set_option linter.unusedVariables false
set_option linter.unusedSimpArgs false
namespace Go.Proofs.Yteidkdbngjhopaa
open Go.RowKit Go.Maps

/-- v is no good cache, in w and in whatever w grows to. -/
def Bad (w : World) (v : Value) : Prop := ∀ W, Ext NoB w W → Calls Try.prog 21 #[v] W fun e w' => e = .returned (.bool false) ∧ ∃ m, w' = W.drewN m
theorem Bad.ext {w w' : World} {v : Value} (h : Bad w v) (x : Ext NoB w w') : Bad w' v := fun W hW => h W (x.then hW)
theorem bad_nil (w : World) : Bad w (.pointer none) := fun W _ => good_nil W
theorem bad_zero {w : World} {b : Nat} (h : w.cell? ⟨b, 2, none⟩ = some (.map none)) : Bad w (.pointer (some ⟨b, 0, none⟩)) := fun W hW => good_zero b W (hW.cell h id)
theorem add_bad (v : Value) (w : World) (hv : Bad w v) (g : Int) (A : Array Value) (hA : A.size = 16) :
    Calls Try.prog 12 #[v, .int .i64 g, .agg A] w fun e w' => e = .returned (.int .i64 1) ∧ Ext NoB w w' := by
  have HV := Lib.hid hv
  clear hv
  go_enter Try.func12, Try.ntmps12
  go_wp2_with (first
    | (go_at_call 21; refine (HV.out _ (Ext.alloc NoB w _)).mono ?_; rintro e W1 ⟨rfl, m, rfl⟩))
  go_ret
  exact ⟨rfl, (Ext.alloc NoB w _).andDrewN m⟩
theorem has_bad (v : Value) (w : World) (hv : Bad w v) (g : Int) (A : Array Value) (hA : A.size = 16) :
    Calls Try.prog 13 #[v, .int .i64 g, .agg A] w fun e w' => e = .returned (.bool false) ∧ Ext NoB w w' := by
  have HV := Lib.hid hv
  clear hv
  go_enter Try.func13, Try.ntmps13
  go_wp2_with (first
    | (go_at_call 21; refine (HV.out _ (Ext.alloc NoB w _)).mono ?_; rintro e W1 ⟨rfl, m, rfl⟩))
  go_ret
  exact ⟨rfl, (Ext.alloc NoB w _).andDrewN m⟩
theorem forget_bad (v : Value) (w : World) (hv : Bad w v) (g : Int) :
    Calls Try.prog 10 #[v, .int .i64 g] w fun e w' => e = .returned (.int .i64 0) ∧ Ext NoB w w' := by
  have HV := Lib.hid hv
  clear hv
  go_enter Try.func10, Try.ntmps10
  go_wp2_with (first
    | (go_at_call 21; refine (HV.out _ (Ext.refl NoB w)).mono ?_; rintro e W1 ⟨rfl, m, rfl⟩))
  go_ret
  exact ⟨rfl, Ext.drewN NoB w m⟩
theorem len_bad (v : Value) (w : World) (hv : Bad w v) (g : Int) :
    Calls Try.prog 15 #[v, .int .i64 g] w fun e w' => e = .returned (.int .i64 0) ∧ Ext NoB w w' := by
  have HV := Lib.hid hv
  clear hv
  go_enter Try.func15, Try.ntmps15
  go_wp2_with (first
    | (go_at_call 21; refine (HV.out _ (Ext.refl NoB w)).mono ?_; rintro e W1 ⟨rfl, m, rfl⟩))
  go_ret
  exact ⟨rfl, Ext.drewN NoB w m⟩
theorem gens_bad (v : Value) (w : World) (hv : Bad w v) :
    Calls Try.prog 18 #[v] w fun e w' => e = .returned (.slice none 0 0) ∧ Ext NoB w w' := by
  have HV := Lib.hid hv
  clear hv
  go_enter Try.func18, Try.ntmps18
  go_wp2_with (first
    | (go_at_call 21; refine (HV.out _ (Ext.refl NoB w)).mono ?_; rintro e W1 ⟨rfl, m, rfl⟩))
  go_ret
  exact ⟨rfl, Ext.drewN NoB w m⟩
end Go.Proofs.Yteidkdbngjhopaa
