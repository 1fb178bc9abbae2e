/- slots.New and the reference's Right, New, Is: what each call answers. -/
import Derived.Test.YtapckbbbcjaahaaA
set_option linter.unusedVariables false
namespace Go.Proofs.Ytapckbbbcjaahaa
open Go.RowKit

/-- May there be such slots? -/
def rightB (p ph m : Int) : Bool := decide (1 ≤ p) && (decide (p ≤ 64) && (decide (0 ≤ ph) && (decide (ph < p) && (decide (1 ≤ m) && decide (m ≤ 256)))))
theorem rightB_iff (p ph m : Int) : rightB p ph m = true ↔ 1 ≤ p ∧ p ≤ 64 ∧ 0 ≤ ph ∧ ph < p ∧ 1 ≤ m ∧ m ≤ 256 := by simp [rightB]

theorem new_yes (p ph m : Int) (w : World) (h1 : 1 ≤ p) (h2 : p ≤ 64) (h3 : 0 ≤ ph) (h4 : ph < p) (h5 : 1 ≤ m) (h6 : m ≤ 256) :
    Calls Try.prog 8 #[.int .i64 p, .int .i64 ph, .int .i64 m] w fun e w' => e = .returned (.pointer (some ⟨w.heap.size, 0, none⟩)) ∧ w' = w.alloc (.cells #[.int .i64 p, .int .i64 ph, .int .i64 m, .slice none 0 0, .int .i64 0] 50) := by
  go_enter Try.func8, Try.ntmps8
  go_wp2
  go_ret
  exact ⟨rfl, rfl⟩
theorem new_no (p ph m : Int) (w : World) (h : rightB p ph m = false) :
    Calls Try.prog 8 #[.int .i64 p, .int .i64 ph, .int .i64 m] w fun e w' => e = .returned (.pointer none) ∧ w' = w := by
  by_cases h1 : 1 ≤ p
  · by_cases h2 : p ≤ 64
    · by_cases h3 : 0 ≤ ph
      · by_cases h4 : ph < p
        · by_cases h5 : 1 ≤ m
          · have h6 : 256 < m := by simp [rightB, h1, h2, h3, h4, h5] at h; omega
            clear h
            go_enter Try.func8, Try.ntmps8
            go_wp2
            go_ret
            exact ⟨rfl, rfl⟩
          · have h5' : m < 1 := by omega
            clear h h5
            go_enter Try.func8, Try.ntmps8
            go_wp2
            go_ret
            exact ⟨rfl, rfl⟩
        · have h4' : p ≤ ph := by omega
          clear h h4
          go_enter Try.func8, Try.ntmps8
          go_wp2
          go_ret
          exact ⟨rfl, rfl⟩
      · have h3' : ph < 0 := by omega
        clear h h3
        go_enter Try.func8, Try.ntmps8
        go_wp2
        go_ret
        exact ⟨rfl, rfl⟩
    · have h2' : 64 < p := by omega
      clear h h2
      go_enter Try.func8, Try.ntmps8
      go_wp2
      go_ret
      exact ⟨rfl, rfl⟩
  · have h1' : p < 1 := by omega
    clear h h1
    go_enter Try.func8, Try.ntmps8
    go_wp2
    go_ret
    exact ⟨rfl, rfl⟩
theorem right_any (p ph m : Int) (w : World) : Calls Try.prog 9 #[.int .i64 p, .int .i64 ph, .int .i64 m] w fun e w' => e = .returned (.bool (rightB p ph m)) ∧ w' = w := by
  by_cases h1 : 1 ≤ p
  · by_cases h2 : p ≤ 64
    · by_cases h3 : 0 ≤ ph
      · by_cases h4 : ph < p
        · by_cases h5 : 1 ≤ m
          · by_cases h6 : m ≤ 256
            · rw [show rightB p ph m = true from (rightB_iff p ph m).2 ⟨h1, h2, h3, h4, h5, h6⟩]
              go_enter Try.func9, Try.ntmps9
              go_wp2
              go_ret
              exact ⟨rfl, rfl⟩
            · have h6' : 256 < m := by omega
              rw [show rightB p ph m = false by simp [rightB, h6]]
              have hd : decide (m ≤ 256) = false := by simp; omega
              clear h6
              go_enter Try.func9, Try.ntmps9
              go_wp2
              go_ret
              exact ⟨rfl, rfl⟩
          · have h5' : m < 1 := by omega
            rw [show rightB p ph m = false by simp [rightB, h5]]
            clear h5
            go_enter Try.func9, Try.ntmps9
            go_wp2
            go_ret
            exact ⟨rfl, rfl⟩
        · have h4' : p ≤ ph := by omega
          rw [show rightB p ph m = false by simp [rightB, h4]]
          clear h4
          go_enter Try.func9, Try.ntmps9
          go_wp2
          go_ret
          exact ⟨rfl, rfl⟩
      · have h3' : ph < 0 := by omega
        rw [show rightB p ph m = false by simp [rightB, h3]]
        clear h3
        go_enter Try.func9, Try.ntmps9
        go_wp2
        go_ret
        exact ⟨rfl, rfl⟩
    · have h2' : 64 < p := by omega
      rw [show rightB p ph m = false by simp [rightB, h2]]
      clear h2
      go_enter Try.func9, Try.ntmps9
      go_wp2
      go_ret
      exact ⟨rfl, rfl⟩
  · have h1' : p < 1 := by omega
    rw [show rightB p ph m = false by simp [rightB, h1]]
    clear h1
    go_enter Try.func9, Try.ntmps9
    go_wp2
    go_ret
    exact ⟨rfl, rfl⟩
/-- The reference's Slots, as a value. -/
abbrev rv (p ph m : Int) (A : Option Addr) (n c : Nat) (last : Int) : Value := .agg #[.int .i64 p, .int .i64 ph, .int .i64 m, .slice A n c, .int .i64 last]
theorem rnew_any (p ph m : Int) (w : World) : Calls Try.prog 10 #[.int .i64 p, .int .i64 ph, .int .i64 m] w fun e w' => e = .returned (rv p ph m none 0 0 (-1)) ∧ Ext NoB w w' := by
  go_enter Try.func10, Try.ntmps10
  go_wp2
  exact bodyPost_ret (v := rv p ph m none 0 0 (-1)) (by simp [results, Try.results10, go_sem]) rfl ⟨rfl, Ext.alloc _ _ _⟩
theorem ris_any (p ph m now last : Int) (A : Option Addr) (n c : Nat) (hp : 0 < p) (hp2 : p ≤ 64) (w : World) : Calls Try.prog 17 #[rv p ph m A n c last, .int .i64 now] w fun e w' => e = .returned (.bool (isB p ph now)) ∧ Ext NoB w w' := by
  by_cases hn : 0 ≤ now
  · by_cases hn2 : now ≤ 1099511627776
    · rw [show isB p ph now = (now % p == ph) by simp [isB, hn, hn2]]
      go_enter Try.func17, Try.ntmps17
      go_wp2_with fail
      go_quiet (fail)
      go_wp2
      go_ret
      exact ⟨rfl, (Ext.alloc _ _ _).andDrewN _⟩
    · rw [show isB p ph now = false by simp [isB, hn2]]
      have hd : decide (now ≤ 1099511627776) = false := by simp; omega
      go_enter Try.func17, Try.ntmps17
      go_wp2_with fail
      go_quiet (fail)
      go_wp2
      go_ret
      exact ⟨rfl, (Ext.alloc _ _ _).andDrewN _⟩
  · rw [show isB p ph now = false by simp [isB, hn]]
    have hd : decide (0 ≤ now) = false := by simp; omega
    go_enter Try.func17, Try.ntmps17
    go_wp2_with fail
    go_quiet (fail)
    go_wp2
    go_ret
    exact ⟨rfl, (Ext.alloc _ _ _).andDrewN _⟩
end Go.Proofs.Ytapckbbbcjaahaa
