/-
  Clone; good, may, New.
-/
import Derived.Test.YtaphhadahajohaaG
set_option linter.unusedVariables false
set_option linter.unusedSimpArgs false
namespace Go.Proofs.Ytaphhadahajohaa
open Go.RowKit

theorem Try.info5 : (Try.prog.info? 5).map (fun i => (i.zero, i.size, i.bytes)) = some (some (.int .u8 0), 1, 1) := by kernel_rfl
/-- A slice of bytes in a block of the call's own. -/
def El (w : World) (v : Value) (bs : List Int) : Prop := ∃ n, QRow w 5 1 v n (bs.map (Value.int .u8))
theorem El.bytes {w : World} {v : Value} {bs : List Int} (h : El w v bs) : Bytes w v bs := by obtain ⟨n, h⟩ := h; exact Bytes.ofRow h
theorem El.ext {F : Nat → Prop} {w w' : World} {v : Value} {bs : List Int} (h : El w v bs) (hx : Ext F w w') (hF : ∀ k, v.ownBlock = some k → ¬ F k) : El w' v bs := by obtain ⟨n, h⟩ := h; exact ⟨n, h.ext hx hF⟩
theorem El.lt {w : World} {v : Value} {bs : List Int} (h : El w v bs) : ∀ k, v.ownBlock = some k → k < w.heap.size := by obtain ⟨n, h⟩ := h; exact h.lt

/-- What a clone is: the same bytes, in new memory. -/
def Cloned (w : World) (bs : List Int) (e : Ending) (w' : World) : Prop := ∃ v, e = .returned v ∧ El w' v bs ∧ Ext NoB w w' ∧ ∀ k, v.ownBlock = some k → w.heap.size ≤ k

theorem Try.eqNil28 (w : World) (a : Option Addr) (n c : Nat) : (binOp .eql 28 (.slice a n c) (.slice none 0 0)).run Try.prog w = .ok (.bool a.isNone) w := Lib.run_eql_slice_nil w 28 5 a n c 0 0 Try.underlying28
/-- append of nothing onto the empty row that the call has just made. -/
theorem append_none (w : World) (t ty e : TypeId) (g : Nat) (a : Addr) (c : Nat) (ht : Try.prog.underlying t = some (.slice e)) {i : TypeInfo} (hi : Try.prog.info? e = some i) :
    (Builtin.append_ #[t, t] ty #[.slice (some ⟨g, 0, none⟩) 0 0, .slice (some a) 0 c]).run Try.prog w = .ok (.slice (some ⟨g, 0, none⟩) 0 0) w := by
  simp [Builtin.append_, run_underlying ht, sizeOf, typeInfo, hi, Builtin.lenOf, Builtin.firstCells, loadCells, loadCellsFrom, storeCells]

set_option maxHeartbeats 800000 in
theorem clone_any (v : Value) (bs : List Int) (w : World) (hb : Bytes w v bs) (hl : bs.length ≤ 140737488355328) : Calls Try.prog 21 #[v] w (Cloned w bs) := by
  have hq := Try.eqNil28
  rcases hb with ⟨rfl, rfl⟩ | ⟨a, c, rfl, h1, h2, h3⟩
  · go_enter Try.func21, Try.ntmps21
    go_wp2
    go_ret
    exact ⟨_, rfl, ⟨0, QRow.nil _ _ _⟩, Ext.refl _ _, fun k hk => by simp [Value.ownBlock] at hk⟩
  · rcases Nat.eq_zero_or_pos bs.length with h0 | h0
    · have hbs : bs = [] := List.eq_nil_of_length_eq_zero h0
      subst hbs
      go_enter Try.func21, Try.ntmps21
      go_wp2
      go_ret
      refine ⟨_, rfl, ⟨0, by simp, .inr ⟨w.heap.size, 0, 0, #[], rfl, heapNew _ _, Nat.le_refl _, Nat.zero_le _, by simp, by simp⟩⟩, Ext.alloc _ _ _, fun k hk => ?_⟩
      simp [Value.ownBlock] at hk; omega
    · have hl63 : bs.length ≤ maxLen := by omega
      go_enter Try.func21, Try.ntmps21
      go_wp2_with (at_builtin; refine wpList_append_q rfl _ _ 28 rfl 5 1 1 (.int .u8 0) Try.underlying28 Try.info5 rfl (by decide) (.slice (some ⟨w.heap.size, 0, none⟩) 0 0) 0 [] rfl ?hq a bs.length c (bs.map (Value.int .u8)) rfl (by simp) ?hn ?h1 h0 ?hm ?hb ?hK)
      case hq => exact ⟨by simp, .inr ⟨w.heap.size, 0, 0, #[], rfl, heapNew _ _, Nat.le_refl _, Nat.zero_le _, by simp, by simp⟩⟩
      case hn =>
        intro j u hu
        have hj : j < bs.length := by have := (List.getElem?_eq_some_iff.1 hu).1; simpa using this
        have e : (bs.map (Value.int .u8))[j]? = some (.int .u8 (bs.getD j 0)) := by simp [List.getElem?_eq_getElem hj, List.getD_eq_getElem?_getD]
        rw [e] at hu
        rw [← hu]
        exact (Ext.alloc NoB w _).cell (h3 j hj) (fun h => h)
      case h1 => exact ints_oneCell _ _
      case hm => omega
      case hb => omega
      case hK =>
        intro g off cap w' hq2 hx hg
        go_wp2
        go_ret
        have hx' : Ext NoB w w' := (Ext.alloc (fun k => some w.heap.size = some k) w _).trans hx (fun i hi h => by simp at h; omega) (fun i hi h => by simp [Value.ownBlock] at h; omega)
        refine ⟨_, rfl, ⟨_, hq2⟩, hx', fun k hk => ?_⟩
        have hgk : g = k := by simpa [Value.ownBlock] using hk
        rcases hg with hg | hg
        · simp [Value.ownBlock] at hg; omega
        · omega


theorem good_nil (w : World) : Calls Try.prog 18 #[.pointer none] w fun e w' => e = .returned (.bool false) ∧ ∃ m, w' = w.drewN m := by
  go_enter Try.func18, Try.ntmps18
  go_wp2
  go_ret
  exact ⟨rfl, 0, rfl⟩
theorem good_yes (b : Nat) (p : Int) (w : World) (hp : 0 < p) (hc : w.cell? ⟨b, 0, none⟩ = some (.int .i64 p)) : Calls Try.prog 18 #[.pointer (some ⟨b, 0, none⟩)] w fun e w' => e = .returned (.bool true) ∧ ∃ m, w' = w.drewN m := by
  go_enter Try.func18, Try.ntmps18
  go_wp2
  go_ret
  exact ⟨by simp, 0, rfl⟩
theorem good_zero (b : Nat) (w : World) (hc : w.cell? ⟨b, 0, none⟩ = some (.int .i64 0)) : Calls Try.prog 18 #[.pointer (some ⟨b, 0, none⟩)] w fun e w' => e = .returned (.bool false) ∧ ∃ m, w' = w.drewN m := by
  go_enter Try.func18, Try.ntmps18
  go_wp2
  go_ret
  exact ⟨rfl, 0, rfl⟩
/-- May an item wait? -/
def mayB (due dest : Int) (l : Nat) : Bool := decide (0 ≤ due) && decide (due ≤ 1099511627840) && decide (0 ≤ dest) && decide (dest ≤ 255) && decide ((l : Int) ≤ 4096)
theorem mayB_iff (due dest : Int) (l : Nat) : mayB due dest l = true ↔ 0 ≤ due ∧ due ≤ 1099511627840 ∧ 0 ≤ dest ∧ dest ≤ 255 ∧ l ≤ 4096 := by
  simp [mayB]; omega
theorem may19 (due dest : Int) (A : Option Addr) (l c : Nat) (hl : l ≤ 9223372036854775807) (w : World) : Calls Try.prog 19 #[.agg #[.int .i64 due, .int .i64 dest, .slice A l c]] w fun e w' => e = .returned (.bool (mayB due dest l)) ∧ Ext NoB w w' := by
  unfold mayB
  by_cases h1 : 0 ≤ due
  · by_cases h2 : due ≤ 1099511627840
    · by_cases h3 : 0 ≤ dest
      · by_cases h4 : dest ≤ 255
        · by_cases h5 : (l : Int) ≤ 4096
          · go_enter Try.func19, Try.ntmps19
            go_wp2
            go_ret
            exact ⟨by simp [h1, h2, h3, h4, h5], Ext.alloc _ _ _⟩
          · go_enter Try.func19, Try.ntmps19
            go_wp2
            go_ret
            exact ⟨by simp [h1, h2, h3, h4]; omega, Ext.alloc _ _ _⟩
        · go_enter Try.func19, Try.ntmps19
          go_wp2
          go_ret
          exact ⟨by simp [h1, h2, h3]; intros; omega, Ext.alloc _ _ _⟩
      · go_enter Try.func19, Try.ntmps19
        go_wp2
        go_ret
        exact ⟨by simp [h1, h2]; intros; omega, Ext.alloc _ _ _⟩
    · go_enter Try.func19, Try.ntmps19
      go_wp2
      go_ret
      exact ⟨by simp [h1]; intros; omega, Ext.alloc _ _ _⟩
  · go_enter Try.func19, Try.ntmps19
    go_wp2
    go_ret
    exact ⟨by simp; intros; omega, Ext.alloc _ _ _⟩
theorem new_no (m : Int) (h : m < 1 ∨ 4096 < m) (w : World) : Calls Try.prog 8 #[.int .i64 m] w fun e w' => e = .returned (.pointer none) ∧ w' = w := by
  rcases h with h | h
  · go_enter Try.func8, Try.ntmps8
    go_wp2
    go_ret
    exact ⟨rfl, rfl⟩
  · have h' : ¬ m < 1 := by omega
    go_enter Try.func8, Try.ntmps8
    go_wp2
    go_ret
    exact ⟨rfl, rfl⟩
theorem new_yes (m : Int) (h1 : 1 ≤ m) (h2 : m ≤ 4096) (w : World) : Calls Try.prog 8 #[.int .i64 m] w fun e w' => e = .returned (.pointer (some ⟨w.heap.size, 0, none⟩)) ∧ w' = w.alloc (.cells #[.int .i64 m, .slice none 0 0, .int .i64 0] 53) := by
  go_enter Try.func8, Try.ntmps8
  go_wp2
  go_ret
  exact ⟨rfl, rfl⟩
end Go.Proofs.Ytaphhadahajohaa
