/-
  ReplayLens' keys: a map's keys, each once.
-/
import Derived.Test.YteidkdbngjhopaaAa
set_option linter.unusedVariables false
set_option linter.unusedSimpArgs false
namespace Go.Proofs.Yteidkdbngjhopaa
open Go.RowKit Go.Maps

/-- What is told of a loop over the map: the keys ks are gone through. -/
structure Left (E : List Ent) (left : Lit → Bool) (ks : List Int) : Prop where
  nd : ks.Nodup
  sub : ∀ x ∈ ks, x ∈ gl E
  lf : ∀ x, left (gk x) = (decide (x ∈ gl E) && !decide (x ∈ ks))
theorem gk_same (x y : Int) : (gk x).sameKey (gk y) = decide (x = y) := by
  by_cases h : x = y
  · subst h; simp [Lit.sameKey]
  · simp [Lit.sameKey, h]
theorem Left.start {E : List Ent} {D : DataW Unit} (h : NMD E D) : Left E (Maps.has D) [] := ⟨List.nodup_nil, by simp, fun x => by rw [h.2.1]; simp⟩
theorem Left.step {E : List Ent} {left : Lit → Bool} {ks : List Int} (h : Left E left ks) {x : Int} (hx : left (gk x) = true) : Left E (fun z => left z && !z.sameKey (gk x)) (ks ++ [x]) ∧ x ∈ gl E ∧ x ∉ ks := by
  rw [h.lf] at hx
  simp at hx
  refine ⟨⟨List.nodup_append.2 ⟨h.nd, by simp, fun a ha b hb => ?_⟩, fun y hy => ?_, fun y => ?_⟩, hx⟩
  · simp at hb; subst hb; rintro rfl; exact hx.2 ha
  · rcases List.mem_append.1 hy with hy | hy
    · exact h.sub y hy
    · simp at hy; subst hy; exact hx.1
  · show (left (gk y) && !(gk y).sameKey (gk x)) = _
    rw [h.lf, gk_same]
    by_cases hyx : y = x <;> simp [hyx]
theorem Left.done {E : List Ent} {left : Lit → Bool} {ks : List Int} (h : Left E left ks) (h0 : ∀ kl, left kl = false) : ks.Perm (gl E) := by
  refine (List.perm_ext_iff_of_nodup h.nd (gl_nodup E)).2 fun x => ⟨h.sub x, fun hx => ?_⟩
  have := h0 (gk x)
  rw [h.lf] at this
  simp at this
  exact this hx
theorem nodup_len : ∀ (l : List Int) {m : List Int}, l.Nodup → (∀ x ∈ l, x ∈ m) → l.length ≤ m.length
  | [], _, _, _ => by simp
  | a :: l, m, hn, hs => by
    have h1 := List.nodup_cons.1 hn
    have ha := hs a (by simp)
    have := nodup_len l (m := m.erase a) h1.2 (fun x hx => (List.mem_erase_of_ne (fun e => h1.1 (by rw [← e]; exact hx))).2 (hs x (by simp [hx])))
    rw [List.length_erase_of_mem ha] at this
    have := List.length_pos_of_mem ha
    simp; omega
theorem Left.len {E : List Ent} {left : Lit → Bool} {ks : List Int} (h : Left E left ks) : ks.length ≤ (gl E).length := nodup_len _ h.nd h.sub
def KeysEnd (w : World) (E : List Ent) (e : Ending) (w' : World) : Prop :=
  ∃ (v : Value) (ks : List Int), e = .returned v ∧ ks.Perm (gl E) ∧ QRow w' 3 1 v ks.length (ks.map (Value.int .i64)) ∧ Ext NoB w w' ∧ ∀ k, v.ownBlock = some k → w.heap.size ≤ k
set_option maxHeartbeats 3200000 in
theorem keys20 (nb : Nat) (E : List Ent) (w : World) (h : NM w nb E) (hlen : E.length ≤ 1000000) : Calls Try.prog 20 #[.map (some nb)] w (KeysEnd w E) := by
  have hgl := gl_len E
  obtain ⟨D, hown, hD⟩ := h.dat
  have HD := Lib.hid hD
  clear hD h
  go_enter Try.func20, Try.ntmps20
  go_wp2_with (first
    | (at_range; refine wpList_range_own _ rfl _ 56 rfl 3 3 keyed3 Try.underlying56 _ nb _ D rfl hown ?_; intro w0 hrg0 hg0 hs0)
    | go_in)
  go_frame
  go_loopw [3] (fun o W => ∃ (left : Lit → Bool) (cnt : Nat) (ks : List Int) (A2 : Option Addr) (c2 : Nat), W.ranges Try.prog 3 pE nb w.heap.size (gl E).length D left cnt ∧ Left E left ks ∧ o = .slice A2 ks.length c2 ∧ QRow W 3 1 (.slice A2 ks.length c2) ks.length (ks.map (Value.int .i64)) ∧ Ext NoB w W ∧ ∀ k, (Value.slice A2 ks.length c2).ownBlock = some k → w.heap.size < k) (fun _ W => W.rangeLeft nb w.heap.size)
  case atStart => exact ⟨_, _, [], none, 0, hrg0, Left.start HD.out, rfl, QRow.nil _ _ _, (Ext.ofGrown hg0).mono (fun _ _ h => by simp at h), fun k hk => by simp [Value.ownBlock] at hk⟩
  case round =>
    obtain ⟨left, cnt, ks, A2, c2, hrg, hL, rfl, hrow, hx, hnew⟩ := hrel
    have HL := Lib.hid hL
    have HROW := Lib.hid hrow
    have hkl := hL.len
    clear hL hrow
    go_wp2_with (first
      | (at_next; refine wpList_next_ranges_ii _ rfl _ rfl 3 3 .i64 .i64 keyed3 Try.underlying3 Try.underlying3 nb w.heap.size _ _ _ _ rfl hrg ?_ ?_)
      | go_in)
    · intro _ hl0
      go_wp2
      go_ret
      exact ⟨_, ks, rfl, HL.out.done hl0, HROW.out, hx, fun k hk => Nat.le_of_lt (hnew k hk)⟩
    · intro x c w1 cnt1 hwx hwc hlx hat hrg1 hlt hg1 hs1 hen
      obtain ⟨hL1, hxE, hxk⟩ := HL.out.step hlx
      have hlen1 := hL1.len
      simp at hlen1
      have hx1 : Ext (fun k => k = w.heap.size) wr w1 := (Ext.ofGrown hg1).mono fun k _ hk => by injection hk with hk; exact hk.symm
      have hq1 := HROW.out.ext hx1 (fun k hk e => by have := hnew k hk; omega)
      have hxw : Ext NoB w w1 := hx.trans hx1 (fun _ _ h => h) (fun k hk h => by omega)
      have HL1 := Lib.hid hL1
      have HQ1 := Lib.hid hq1
      have hs2 := hs1
      have HS1 := Lib.hid hs1
      clear hL1 hq1 hxE hxk hs1 hs2 hg1
      go_wp2_with (at_builtin; refine wpList_append_q rfl _ _ 43 rfl 3 1 8 (.int .i64 0) Try.underlying43 info3 rfl (by decide) (.slice A2 ks.length c2) ks.length (ks.map (Value.int .i64)) rfl (HQ1.out.ext (Ext.alloc NoB w1 _) (fun _ _ h => h)) ⟨w1.heap.size, 0, none⟩ 1 1 [.int .i64 x] rfl rfl (new_one w1 _ _) (one_of rfl) (by decide) (by unfold maxLen; omega) (by omega) ?_; intro g3 o3 c3 W3 hq3 x3 hg3)
      have hq4 : QRow W3 3 1 (.slice (some ⟨g3, o3, none⟩) (ks ++ [x]).length c3) (ks ++ [x]).length ((ks ++ [x]).map (Value.int .i64)) := by
        simpa using hq3
      have hx4 : Ext (fun k => (Value.slice A2 ks.length c2).ownBlock = some k) w1 W3 := (Ext.alloc _ w1 (.cells #[.int .i64 x] 3)).then x3
      have hxw4 : Ext NoB w W3 := hxw.trans hx4 (fun _ _ h => h) (fun k hk h => by have := hnew k h; omega)
      have hrg4 : W3.ranges Try.prog 3 pE nb w.heap.size (gl E).length D (fun z => left z && !z.sameKey (.int .i64 x)) cnt1 := hrg1.kept (row := (Value.slice A2 ks.length c2).ownBlock) (hx4.toGrown _ fun _ h => h) (fun e => by have := hnew _ e.symm; have := hown.lt; omega) (fun e => by have := hnew _ e.symm; omega)
      have hn4 : ∀ k, (Value.slice (some ⟨g3, o3, none⟩) (ks ++ [x]).length c3).ownBlock = some k → w.heap.size < k := fun k hk => by
        have hgk : g3 = k := by simpa [Value.ownBlock] using hk
        subst hgk
        rcases hg3 with h | h
        · exact hnew _ h
        · have := hx.size; have := hrg.lt; have := HS1.out; simp at h; omega
      have HR4 := Lib.hid (And.intro hrg4 (And.intro HL1.out (And.intro hq4 (And.intro hxw4 hn4))))
      clear hq3 hq4 hx4 hxw4 hrg4 hn4 x3 hg3
      go_wp2_with fail
      go_roundw
      case rel => exact ⟨_, _, ks ++ [x], some ⟨g3, o3, none⟩, c3, HR4.out.1, HR4.out.2.1, by simp, HR4.out.2.2⟩
      case measure => rw [HR4.out.1.left_eq, hrg.left_eq]; exact hlt
end Go.Proofs.Yteidkdbngjhopaa
