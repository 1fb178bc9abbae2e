/-
  The law's small functions: ours, theirs, Same.
-/
import Derived.Test.YtaphhadahajohaaO
set_option linter.unusedVariables false
set_option linter.unusedSimpArgs false
namespace Go.Proofs.Ytaphhadahajohaa
open Go.RowKit

theorem ours14 (due dest : Int) (A : Option Addr) (l c : Nat) (w : World) : Calls Try.prog 14 #[.agg #[.int .i64 due, .int .i64 dest, .slice A l c]] w fun e w' => e = .returned (.agg #[.int .i64 due, .int .i64 dest, .slice A l c]) ∧ Ext NoB w w' := by
  go_enter Try.func14, Try.ntmps14
  go_wp2
  exact bodyPost_ret (v := .agg #[.int .i64 due, .int .i64 dest, .slice A l c]) (by simp [results, Try.results14, go_sem]) rfl ⟨rfl, (Ext.alloc NoB w _).andAlloc _⟩
theorem theirs17 (due dest : Int) (A : Option Addr) (l c : Nat) (w : World) : Calls Try.prog 17 #[.agg #[.int .i64 due, .int .i64 dest, .slice A l c]] w fun e w' => e = .returned (.agg #[.int .i64 due, .int .i64 dest, .slice A l c]) ∧ Ext NoB w w' := by
  go_enter Try.func17, Try.ntmps17
  go_wp2
  exact bodyPost_ret (v := .agg #[.int .i64 due, .int .i64 dest, .slice A l c]) (by simp [results, Try.results17, go_sem]) rfl ⟨rfl, (Ext.alloc NoB w _).andAlloc _⟩
theorem str_bytes {w : World} {v : Value} {xs : List Int} (h : Bytes w v xs) : (convert 28 9 v).run Try.prog w = .ok (.string (strOfNums xs)) w :=
  h.string Try.underlying28 Try.underlying5 Try.underlying9
theorem same_yes (due dest : Int) (A A' : Option Addr) (l c l' c' : Nat) (bs : List Int) (w : World) (h1 : Bytes w (.slice A l c) bs) (h2 : Bytes w (.slice A' l' c') bs) :
    Calls Try.prog 13 #[.agg #[.int .i64 due, .int .i64 dest, .slice A l c], .agg #[.int .i64 due, .int .i64 dest, .slice A' l' c']] w fun e w' => e = .returned (.bool true) ∧ Ext NoB w w' := by
  have s1 := fun o1 o2 => str_bytes (h1.ext ((Ext.alloc NoB w o1).andAlloc o2) (fun _ _ _ h => h))
  have s2 := fun o1 o2 => str_bytes (h2.ext ((Ext.alloc NoB w o1).andAlloc o2) (fun _ _ _ h => h))
  generalize strOfNums bs = st at s1 s2
  clear h1 h2
  go_enter Try.func13, Try.ntmps13
  go_wp2
  go_ret
  exact ⟨rfl, (Ext.alloc NoB w _).andAlloc _⟩
end Go.Proofs.Ytaphhadahajohaa
