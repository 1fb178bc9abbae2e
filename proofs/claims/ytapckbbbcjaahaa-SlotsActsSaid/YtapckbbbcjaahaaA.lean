/- The small functions of package slots, and slices.Clone at bytes: what each call answers, and what it changes. -/
import Derived.Test.YtapckbbbcjaahaaRows
import Derived.Test.YtapckbbbcjaahaaBase
set_option linter.unusedVariables false
namespace Go.Proofs.Ytapckbbbcjaahaa
open Go.RowKit

theorem Try.info5 : (Try.prog.info? 5).map (fun i => (i.zero, i.size, i.bytes)) = some (some (.int .u8 0), 1, 1) := by kernel_rfl
theorem Try.info32 : (Try.prog.info? 32).map (fun i => (i.zero, i.size, i.bytes)) = some (some (.slice none 0 0), 1, 24) := by kernel_rfl

/-- A slice of bytes in a block of the call's own. -/
def El (w : World) (v : Value) (bs : List Int) : Prop := ∃ n, QRow w 5 1 v n (bs.map (Value.int .u8))
theorem El.bytes {w : World} {v : Value} {bs : List Int} (h : El w v bs) : Bytes w v bs := by obtain ⟨n, h⟩ := h; exact Bytes.ofRow h
theorem El.ext {F : Nat → Prop} {w w' : World} {v : Value} {bs : List Int} (h : El w v bs) (hx : Ext F w w') (hF : ∀ k, v.ownBlock = some k → ¬ F k) : El w' v bs := by obtain ⟨n, h⟩ := h; exact ⟨n, h.ext hx hF⟩
theorem El.lt {w : World} {v : Value} {bs : List Int} (h : El w v bs) : ∀ k, v.ownBlock = some k → k < w.heap.size := by obtain ⟨n, h⟩ := h; exact h.lt

/-- What a clone is: the same bytes, in new memory. -/
def Cloned (w : World) (bs : List Int) (e : Ending) (w' : World) : Prop := ∃ v, e = .returned v ∧ El w' v bs ∧ Ext NoB w w' ∧ ∀ k, v.ownBlock = some k → w.heap.size ≤ k

theorem Try.eqNil32 (w : World) (a : Option Addr) (n c : Nat) : (binOp .eql 32 (.slice a n c) (.slice none 0 0)).run Try.prog w = .ok (.bool a.isNone) w := Lib.run_eql_slice_nil w 32 5 a n c 0 0 Try.underlying32
/-- append of nothing onto the empty row that the call has just made. -/
theorem append_none (w : World) (t ty e : TypeId) (g : Nat) (a : Addr) (c : Nat) (ht : Try.prog.underlying t = some (.slice e)) {i : TypeInfo} (hi : Try.prog.info? e = some i) :
    (Builtin.append_ #[t, t] ty #[.slice (some ⟨g, 0, none⟩) 0 0, .slice (some a) 0 c]).run Try.prog w = .ok (.slice (some ⟨g, 0, none⟩) 0 0) w := by
  simp [Builtin.append_, run_underlying ht, sizeOf, typeInfo, hi, Builtin.lenOf, Builtin.firstCells, loadCells, loadCellsFrom, storeCells]

set_option maxHeartbeats 800000 in
theorem clone_any (v : Value) (bs : List Int) (w : World) (hb : Bytes w v bs) (hl : bs.length ≤ 140737488355328) : Calls Try.prog 19 #[v] w (Cloned w bs) := by
  have hq := Try.eqNil32
  rcases hb with ⟨rfl, rfl⟩ | ⟨a, c, rfl, h1, h2, h3⟩
  · go_enter Try.func19, Try.ntmps19
    go_wp2
    go_ret
    exact ⟨_, rfl, ⟨0, QRow.nil _ _ _⟩, Ext.refl _ _, fun k hk => by simp [Value.ownBlock] at hk⟩
  · rcases Nat.eq_zero_or_pos bs.length with h0 | h0
    · have hbs : bs = [] := List.eq_nil_of_length_eq_zero h0
      subst hbs
      go_enter Try.func19, Try.ntmps19
      go_wp2
      go_ret
      refine ⟨_, rfl, ⟨0, by simp, .inr ⟨w.heap.size, 0, 0, #[], rfl, heapNew _ _, Nat.le_refl _, Nat.zero_le _, by simp, by simp⟩⟩, Ext.alloc _ _ _, fun k hk => ?_⟩
      simp [Value.ownBlock] at hk; omega
    · have hl63 : bs.length ≤ maxLen := by omega
      go_enter Try.func19, Try.ntmps19
      go_wp2_with (at_builtin; refine wpList_append_q rfl _ _ 32 rfl 5 1 1 (.int .u8 0) Try.underlying32 Try.info5 rfl (by decide) (.slice (some ⟨w.heap.size, 0, none⟩) 0 0) 0 [] rfl ?hq a bs.length c (bs.map (Value.int .u8)) rfl (by simp) ?hn ?h1 h0 ?hm ?hb ?hK)
      case hq => exact ⟨by simp, .inr ⟨w.heap.size, 0, 0, #[], rfl, heapNew _ _, Nat.le_refl _, Nat.zero_le _, by simp, by simp⟩⟩
      case hn =>
        intro j u hu
        have hj : j < bs.length := by have := (List.getElem?_eq_some_iff.1 hu).1; simpa using this
        have e : (bs.map (Value.int .u8))[j]? = some (.int .u8 (bs.getD j 0)) := by simp [List.getElem?_eq_getElem hj, List.getD_eq_getElem?_getD]
        rw [e] at hu
        rw [← hu]
        exact (Ext.alloc NoB w _).cell (h3 j hj) (fun h => h)
      case h1 => exact ints_oneCell _ _
      case hm => omega
      case hb => omega
      case hK =>
        intro g off cap w' hq2 hx hg
        go_wp2
        go_ret
        have hx' : Ext NoB w w' := (Ext.alloc (fun k => some w.heap.size = some k) w _).trans hx (fun i hi h => by simp at h; omega) (fun i hi h => by simp [Value.ownBlock] at h; omega)
        refine ⟨_, rfl, ⟨_, hq2⟩, hx', fun k hk => ?_⟩
        have hgk : g = k := by simpa [Value.ownBlock] using hk
        rcases hg with hg | hg
        · simp [Value.ownBlock] at hg; omega
        · omega

/-! ### The five cells of a Slots -/
structure SO (w : World) (b : Nat) (p ph r : Int) (sv : Value) (nx : Int) : Prop where
  mk :: (blk : w.heap[b]? = some (.cells #[.int .i64 p, .int .i64 ph, .int .i64 r, sv, .int .i64 nx] 50 (0, 0)))
section
variable {w : World} {b : Nat} {p ph r nx : Int} {sv : Value}
theorem SO.c0 (h : SO w b p ph r sv nx) : w.cell? ⟨b, 0, none⟩ = some (.int .i64 p) := by rw [cellOf h.blk]; rfl
theorem SO.c1 (h : SO w b p ph r sv nx) : w.cell? ⟨b, 1, none⟩ = some (.int .i64 ph) := by rw [cellOf h.blk]; rfl
theorem SO.c2 (h : SO w b p ph r sv nx) : w.cell? ⟨b, 2, none⟩ = some (.int .i64 r) := by rw [cellOf h.blk]; rfl
theorem SO.c3 (h : SO w b p ph r sv nx) : w.cell? ⟨b, 3, none⟩ = some sv := by rw [cellOf h.blk]; rfl
theorem SO.c4 (h : SO w b p ph r sv nx) : w.cell? ⟨b, 4, none⟩ = some (.int .i64 nx) := by rw [cellOf h.blk]; rfl
theorem SO.fr (h : SO w b p ph r sv nx) (j : Nat) : w.frozen? ⟨b, j, none⟩ = false := freeOf h.blk j
theorem SO.ext {F : Nat → Prop} {w' : World} (h : SO w b p ph r sv nx) (hx : Ext F w w') (hF : ¬ F b) : SO w' b p ph r sv nx := ⟨hx.obj h.blk hF⟩
theorem SO.lt (h : SO w b p ph r sv nx) : b < w.heap.size := blk_lt' h.blk
theorem SO.set3 (h : SO w b p ph r sv nx) (v : Value) : SO (w.setCell ⟨b, 3, none⟩ v) b p ph r v nx := ⟨by rw [heapSet h.blk]; rfl⟩
theorem SO.set4 (h : SO w b p ph r sv nx) (n : Int) : SO (w.setCell ⟨b, 4, none⟩ (.int .i64 n)) b p ph r sv n := ⟨by rw [heapSet h.blk]; rfl⟩
end

/-! ### good, Room, Is: they read -/
def Reads (v : Value) (w : World) (e : Ending) (w' : World) : Prop := e = .returned v ∧ ∃ m, w' = w.drewN m

theorem good_nil (w : World) : Calls Try.prog 18 #[.pointer none] w fun e w' => e = .returned (.bool false) ∧ ∃ m, w' = w.drewN m := by
  go_enter Try.func18, Try.ntmps18
  go_wp2
  go_ret
  exact ⟨rfl, 0, rfl⟩
theorem good_yes (b : Nat) (p : Int) (w : World) (hp : 0 < p) (hc : w.cell? ⟨b, 0, none⟩ = some (.int .i64 p)) : Calls Try.prog 18 #[.pointer (some ⟨b, 0, none⟩)] w fun e w' => e = .returned (.bool true) ∧ ∃ m, w' = w.drewN m := by
  go_enter Try.func18, Try.ntmps18
  go_wp2
  go_ret
  exact ⟨by simp, 0, rfl⟩
theorem good_zero (b : Nat) (w : World) (hc : w.cell? ⟨b, 0, none⟩ = some (.int .i64 0)) : Calls Try.prog 18 #[.pointer (some ⟨b, 0, none⟩)] w fun e w' => e = .returned (.bool false) ∧ ∃ m, w' = w.drewN m := by
  go_enter Try.func18, Try.ntmps18
  go_wp2
  go_ret
  exact ⟨rfl, 0, rfl⟩
/-- A pointer of which no call has made what it points to: nil, or at zero values. -/
def Nobody (w : World) (v : Value) : Prop := v = .pointer none ∨ ∃ b, v = .pointer (some ⟨b, 0, none⟩) ∧ w.cell? ⟨b, 0, none⟩ = some (.int .i64 0)
theorem Nobody.drewN {w : World} {v : Value} (h : Nobody w v) (m : Nat) : Nobody (w.drewN m) v := h
theorem good_no (v : Value) (w : World) (h : Nobody w v) : Calls Try.prog 18 #[v] w fun e w' => e = .returned (.bool false) ∧ ∃ m, w' = w.drewN m := by
  rcases h with rfl | ⟨b, rfl, hc⟩
  · exact good_nil w
  · exact good_zero b w hc

theorem room_no (v : Value) (w : World) (h : Nobody w v) : Calls Try.prog 15 #[v] w fun e w' => e = .returned (.int .i64 0) ∧ ∃ m, w' = w.drewN m := by
  go_enter Try.func15, Try.ntmps15
  go_wp2_with (go_at_call 18; refine (good_no v _ h).mono ?_; rintro e w' ⟨rfl, m, rfl⟩)
  go_ret
  exact ⟨rfl, _, rfl⟩
theorem room_yes (b : Nat) (p r : Int) (ao : Option Addr) (k c : Nat) (w : World) (hp : 0 < p) (hr : 0 ≤ r) (hr2 : r ≤ 256) (hk : k ≤ 256) (c0 : w.cell? ⟨b, 0, none⟩ = some (.int .i64 p))
    (c2 : w.cell? ⟨b, 2, none⟩ = some (.int .i64 r)) (c3 : w.cell? ⟨b, 3, none⟩ = some (.slice ao k c)) :
    Calls Try.prog 15 #[.pointer (some ⟨b, 0, none⟩)] w fun e w' => e = .returned (.int .i64 (r - k)) ∧ ∃ m, w' = w.drewN m := by
  go_enter Try.func15, Try.ntmps15
  go_wp2_with (go_at_call 18; refine (good_yes b p _ hp c0).mono ?_; rintro e w' ⟨rfl, m, rfl⟩)
  go_quiet (fail)
  go_wp2
  go_ret
  exact ⟨rfl, _, by rw [World.drewN_drewN]⟩

theorem is_no (v : Value) (now : Int) (w : World) (h : Nobody w v) : Calls Try.prog 16 #[v, .int .i64 now] w fun e w' => e = .returned (.bool false) ∧ ∃ m, w' = w.drewN m := by
  go_enter Try.func16, Try.ntmps16
  go_wp2_with fail
  go_quiet ((go_at_call 18; exact Calls.quiet_of (good_no v _ h)))
  go_wp2
  go_ret
  exact ⟨rfl, _, rfl⟩
/-- Is: P24.1. -/
def isB (p ph now : Int) : Bool := decide (0 ≤ now) && (decide (now ≤ 1099511627776) && (now % p == ph))
theorem is_yes (b : Nat) (p ph now : Int) (w : World) (hp : 0 < p) (hp2 : p ≤ 64) (c0 : w.cell? ⟨b, 0, none⟩ = some (.int .i64 p)) (c1 : w.cell? ⟨b, 1, none⟩ = some (.int .i64 ph)) :
    Calls Try.prog 16 #[.pointer (some ⟨b, 0, none⟩), .int .i64 now] w fun e w' => e = .returned (.bool (isB p ph now)) ∧ ∃ m, w' = w.drewN m := by
  by_cases hn : 0 ≤ now
  · by_cases hn2 : now ≤ 1099511627776
    · have hi : isB p ph now = (now % p == ph) := by simp [isB, hn, hn2]
      rw [hi]
      clear hi
      go_enter Try.func16, Try.ntmps16
      go_wp2_with fail
      go_quiet ((go_at_call 18; exact Calls.quiet_of (good_yes b p _ hp (by simpa using c0))))
      go_wp2
      go_ret
      exact ⟨rfl, _, rfl⟩
    · have hi : isB p ph now = false := by simp [isB, hn2]
      rw [hi]
      have hd : decide (now ≤ 1099511627776) = false := by simp; omega
      clear hi
      go_enter Try.func16, Try.ntmps16
      go_wp2_with fail
      go_quiet ((go_at_call 18; exact Calls.quiet_of (good_yes b p _ hp (by simpa using c0))))
      go_wp2
      go_ret
      exact ⟨rfl, _, rfl⟩
  · have hi : isB p ph now = false := by simp [isB, hn]
    rw [hi]
    have hd : decide (0 ≤ now) = false := by simp; omega
    clear hi
    go_enter Try.func16, Try.ntmps16
    go_wp2_with fail
    go_quiet ((go_at_call 18; exact Calls.quiet_of (good_yes b p _ hp (by simpa using c0))))
    go_wp2
    go_ret
    exact ⟨rfl, _, rfl⟩
end Go.Proofs.Ytapckbbbcjaahaa
