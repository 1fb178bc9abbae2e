/- Push and At of package slots, over what a Slots holds. -/
import Derived.Test.YtapckbbbcjaahaaB
set_option linter.unusedVariables false
namespace Go.Proofs.Ytapckbbbcjaahaa
open Go.RowKit

/-- What waits: a row of slices of bytes, all of it in memory that 'F' holds of. -/
def Line (w : World) (sv : Value) (L : List (List Int)) (F : Nat → Prop) : Prop :=
  ∃ vs, QRow w 32 1 sv L.length vs ∧ (∀ (i : Nat) (v : Value) (bs : List Int), vs[i]? = some v → L[i]? = some bs → El w v bs ∧ ∀ k, v.ownBlock = some k → F k) ∧ ∀ k, sv.ownBlock = some k → F k
theorem Line.nil (w : World) (F : Nat → Prop) : Line w (.slice none 0 0) [] F := ⟨[], QRow.nil _ _ _, fun i v bs h => by simp at h, fun k h => by simp [Value.ownBlock] at h⟩
theorem Line.mono {w : World} {sv : Value} {L : List (List Int)} {F G : Nat → Prop} (h : Line w sv L F) (hG : ∀ k, k < w.heap.size → F k → G k) : Line w sv L G := by
  obtain ⟨vs, hq, he, hs⟩ := h
  exact ⟨vs, hq, fun i v bs h1 h2 => ⟨(he i v bs h1 h2).1, fun k hk => hG k ((he i v bs h1 h2).1.lt k hk) ((he i v bs h1 h2).2 k hk)⟩, fun k hk => hG k (hq.lt k hk) (hs k hk)⟩
theorem Line.ext {w w' : World} {sv : Value} {L : List (List Int)} {F G : Nat → Prop} (h : Line w sv L F) (hx : Ext G w w') (hd : ∀ k, F k → ¬ G k) : Line w' sv L F := by
  obtain ⟨vs, hq, he, hs⟩ := h
  exact ⟨vs, hq.ext hx fun k hk => hd k (hs k hk), fun i v bs h1 h2 => ⟨(he i v bs h1 h2).1.ext hx fun k hk => hd k ((he i v bs h1 h2).2 k hk), (he i v bs h1 h2).2⟩, hs⟩
/-- A write to a block of another element type than the line's own two leaves it. -/
theorem Line.extT {w w' : World} {sv : Value} {L : List (List Int)} {F G : Nat → Prop} (h : Line w sv L F) (hx : Ext G w w') (hG : ∀ k, G k → ∃ cur e fr, w.heap[k]? = some (.cells cur e fr) ∧ e ≠ 32 ∧ e ≠ 5) : Line w' sv L F := by
  obtain ⟨vs, hq, he, hs⟩ := h
  have hn : ∀ {e size n : Nat} {v : Value} {xs : List Value}, QRow w e size v n xs → (e = 32 ∨ e = 5) → ∀ k, v.ownBlock = some k → ¬ G k := by
    intro e size n v xs hv hee k hk hg
    obtain ⟨cur, e', fr, hb, h1, h2⟩ := hG k hg
    exact hv.neBlk hb (by rintro rfl; rcases hee with h | h <;> contradiction) hk
  exact ⟨vs, hq.ext hx (hn hq (.inl rfl)), fun i v bs h1 h2 => ⟨by obtain ⟨n, hv⟩ := (he i v bs h1 h2).1; exact ⟨n, hv.ext hx (hn hv (.inr rfl))⟩, (he i v bs h1 h2).2⟩, hs⟩
/-- A Slots: its cells, and what waits. -/
def SlotsAt (w : World) (b : Nat) (p ph r : Int) (L : List (List Int)) (nx : Int) (F : Nat → Prop) : Prop := ∃ sv, SO w b p ph r sv nx ∧ Line w sv L F ∧ F b
theorem SlotsAt.ext {w w' : World} {b : Nat} {p ph r nx : Int} {L : List (List Int)} {F G : Nat → Prop} (h : SlotsAt w b p ph r L nx F) (hx : Ext G w w') (hd : ∀ k, F k → ¬ G k) : SlotsAt w' b p ph r L nx F := by
  obtain ⟨sv, ho, hl, hf⟩ := h
  exact ⟨sv, ho.ext hx (hd b hf), hl.ext hx hd, hf⟩
theorem SlotsAt.mono {w : World} {b : Nat} {p ph r nx : Int} {L : List (List Int)} {F G : Nat → Prop} (h : SlotsAt w b p ph r L nx F) (hG : ∀ k, k < w.heap.size → F k → G k) : SlotsAt w b p ph r L nx G := by
  obtain ⟨sv, ho, hl, hf⟩ := h
  exact ⟨sv, ho, hl.mono hG, hG b ho.lt hf⟩
theorem SlotsAt.lt {w : World} {b : Nat} {p ph r nx : Int} {L : List (List Int)} {F : Nat → Prop} (h : SlotsAt w b p ph r L nx F) : b < w.heap.size := by
  obtain ⟨sv, ho, _⟩ := h; exact ho.lt
def Plus (F : Nat → Prop) (w : World) : Nat → Prop := fun k => F k ∨ w.heap.size ≤ k

/-- push: P24.2. -/
def pushE (bs : List Int) (r : Int) (L : List (List Int)) : Int := if 4096 < bs.length then 2 else if r ≤ L.length then 8 else 0
def pushL (bs : List Int) (r : Int) (L : List (List Int)) : List (List Int) := if 4096 < bs.length then L else if r ≤ L.length then L else L ++ [bs]

theorem push_no (v : Value) (A : Option Addr) (n c : Nat) (w : World) (h : Nobody w v) : Calls Try.prog 12 #[v, .slice A n c] w fun e w' => e = .returned (.int .i64 1) ∧ ∃ m, w' = w.drewN m := by
  go_enter Try.func12, Try.ntmps12
  go_wp2_with (go_at_call 18; refine (good_no v _ h).mono ?_; rintro e w' ⟨rfl, m, rfl⟩)
  go_ret
  exact ⟨rfl, _, rfl⟩
/-- Behind a call of Push. -/
def Pushed (w : World) (b : Nat) (p ph r : Int) (L : List (List Int)) (nx : Int) (F : Nat → Prop) (bs : List Int) (e : Ending) (w' : World) : Prop :=
  e = .returned (.int .i64 (pushE bs r L)) ∧ SlotsAt w' b p ph r (pushL bs r L) nx (Plus F w) ∧ Ext F w w'

theorem El.shape {w : World} {v : Value} {bs : List Int} (h : El w v bs) : ∃ A c, v = .slice A bs.length c := by
  obtain ⟨A, c, hv, _⟩ := h.bytes.shape
  exact ⟨A, c, hv⟩
/-- What Push leaves: w1: behind the clone; w2: behind the append. -/
theorem push_end {w w1 w2 : World} {b g off cap : Nat} {p ph r nx : Int} {L : List (List Int)} {F : Nat → Prop} {bs : List Int} {sv v1 : Value} {vs : List Value} {O : Obj}
    (hfb : F b) (hq : QRow w 32 1 sv L.length vs) (he : ∀ (i : Nat) (v : Value) (bs : List Int), vs[i]? = some v → L[i]? = some bs → El w v bs ∧ ∀ k, v.ownBlock = some k → F k) (hsf : ∀ k, sv.ownBlock = some k → F k)
    (hx : Ext NoB w w1) (hel : El w1 v1 bs) (hlt : ∀ k, v1.ownBlock = some k → w.heap.size ≤ k)
    (hq2 : QRow w2 32 1 (.slice (some ⟨g, off, none⟩) (L.length + 1) cap) (L.length + 1) (vs ++ [v1])) (hx2 : Ext (fun k => sv.ownBlock = some k) (w1.alloc O) w2) (hg : sv.ownBlock = some g ∨ (w1.alloc O).heap.size ≤ g) (ho2 : SO w2 b p ph r sv nx) :
    SlotsAt (w2.setCell ⟨b, 3, none⟩ (.slice (some ⟨g, off, none⟩) (L.length + 1) cap)) b p ph r (L ++ [bs]) nx (Plus F w) ∧ Ext F w (w2.setCell ⟨b, 3, none⟩ (.slice (some ⟨g, off, none⟩) (L.length + 1) cap)) := by
  have hsz : w.heap.size ≤ (w1.alloc O).heap.size := Nat.le_trans hx.size (by simp)
  have hxa : Ext NoB w (w1.alloc O) := hx.andAlloc O
  have hx3 : Ext (fun k => sv.ownBlock = some k) w w2 := hxa.trans hx2 (fun _ _ h => h.elim) fun _ _ h => h
  have hset : Ext (fun k => k = b) w2 (w2.setCell ⟨b, 3, none⟩ (.slice (some ⟨g, off, none⟩) (L.length + 1) cap)) := Ext.setCell _ _ _ fun _ => rfl
  refine ⟨⟨_, ho2.set3 _, ⟨vs ++ [v1], ?_, ?_, ?_⟩, .inl hfb⟩, hx3.trans hset (fun k _ h => hsf k h) fun k _ h => by rw [h]; exact hfb⟩
  · rw [List.length_append]
    exact hq2.ext hset fun k hk h => hq2.neBlk ho2.blk (by decide) (by rw [hk, h])
  · intro i v bs' hi hb'
    have elk : ∀ {w' : World} {v : Value} {bs : List Int}, El w' v bs → Ext (fun k => sv.ownBlock = some k) w' w2 → QRow w' 32 1 sv L.length vs → El (w2.setCell ⟨b, 3, none⟩ (.slice (some ⟨g, off, none⟩) (L.length + 1) cap)) v bs := by
      intro w' v bs hv hxx hqq
      obtain ⟨n, hv⟩ := hv
      have hv2 := hv.ext hxx fun k hk h => hv.ne hqq (by decide) k hk h
      exact ⟨n, hv2.ext hset fun k hk h => hv2.neBlk ho2.blk (by decide) (by rw [hk, h])⟩
    have hvl : vs.length = L.length := by simpa using hq.1
    by_cases hil : i < L.length
    · rw [List.getElem?_append_left (by omega)] at hi hb'
      obtain ⟨h1, h2⟩ := he i v bs' hi hb'
      exact ⟨elk h1 hx3 hq, fun k hk => .inl (h2 k hk)⟩
    · have hil' : i = L.length := by
        have := (List.getElem?_eq_some_iff.1 hb').1
        simp at this; omega
      subst hil'
      rw [List.getElem?_append_right (by omega)] at hi hb'
      simp [hvl] at hi hb'
      subst hi; subst hb'
      exact ⟨elk (hel.ext (Ext.alloc NoB w1 O) fun _ _ h => h) hx2 (hq.ext hxa fun _ _ h => h), fun k hk => .inr (hlt k hk)⟩
  · intro k hk
    have : g = k := by simpa [Value.ownBlock] using hk
    subst this
    rcases hg with h | h
    · exact .inl (hsf _ h)
    · exact .inr (Nat.le_trans hsz h)

set_option maxHeartbeats 1600000 in
theorem push_any (b : Nat) (p ph r nx : Int) (L : List (List Int)) (F : Nat → Prop) (v : Value) (bs : List Int) (w : World) (hp : 0 < p) (hr : 1 ≤ r) (hr2 : r ≤ 256) (hL : L.length ≤ r) (hs : SlotsAt w b p ph r L nx F) (hb : Bytes w v bs) (hbl : bs.length ≤ 5000) :
    Calls Try.prog 12 #[.pointer (some ⟨b, 0, none⟩), v] w (Pushed w b p ph r L nx F bs) := by
  have hs0 := hs
  obtain ⟨sv, ho, hl, hfb⟩ := hs
  obtain ⟨A, c, hv, hc1, hc2, _⟩ := hb.shape
  by_cases h1 : 4096 < bs.length
  · subst hv
    have h1' : (4096 : Int) < (bs.length : Int) := by omega
    have hfin : Pushed w b p ph r L nx F bs = fun e w' => e = .returned (.int .i64 2) ∧ SlotsAt w' b p ph r L nx (Plus F w) ∧ Ext F w w' := by unfold Pushed pushE pushL; rw [if_pos h1, if_pos h1]
    rw [hfin]
    clear hfin
    go_enter Try.func12, Try.ntmps12
    go_wp2_with (go_at_call 18; refine (good_yes b p _ hp ho.c0).mono ?_; rintro e w' ⟨rfl, m, rfl⟩)
    go_ret
    exact ⟨rfl, (hs0.ext (Ext.drewN NoB w _) fun k _ h => h).mono fun k _ h => .inl h, Ext.drewN _ _ _⟩
  · obtain ⟨vs, hq, he, hsf⟩ := hl
    obtain ⟨A2, c2, rfl, hq1, hq2, _⟩ := hq.slice
    by_cases h2 : r ≤ L.length
    · subst hv
      have h1' : (bs.length : Int) ≤ 4096 := by omega
      have hfin : Pushed w b p ph r L nx F bs = fun e w' => e = .returned (.int .i64 8) ∧ SlotsAt w' b p ph r L nx (Plus F w) ∧ Ext F w w' := by unfold Pushed pushE pushL; rw [if_neg h1, if_neg h1, if_pos h2, if_pos h2]
      rw [hfin]
      clear hfin h1
      have hz : (r - (L.length : Int) == 0) = true := by simp; omega
      go_enter Try.func12, Try.ntmps12
      go_wp2_with (first | (go_at_call 18; refine (good_yes b p _ hp ho.c0).mono ?_; rintro e w' ⟨rfl, m, rfl⟩) | (go_at_call 15; refine (room_yes b p r A2 L.length c2 (w.drewN m) hp (by omega) hr2 (by omega) ho.c0 ho.c2 ho.c3).mono ?_; rintro e w' ⟨rfl, m2, rfl⟩))
      go_ret
      exact ⟨rfl, (hs0.ext (Ext.drewN NoB w _) fun k _ h => h).mono fun k _ h => .inl h, Ext.drewN _ _ _⟩
    · have h1' : (bs.length : Int) ≤ 4096 := by omega
      have hfin : Pushed w b p ph r L nx F bs = fun e w' => e = .returned (.int .i64 0) ∧ SlotsAt w' b p ph r (L ++ [bs]) nx (Plus F w) ∧ Ext F w w' := by unfold Pushed pushE pushL; rw [if_neg h1, if_neg h1, if_neg h2, if_neg h2]
      rw [hfin]
      have hz : (r - (L.length : Int) == 0) = false := by simp; omega
      subst hv
      have hbd : ∀ k, Bytes (w.drewN k) (.slice A bs.length c) bs := fun k => hb.ext (Ext.drewN NoB w k) fun _ _ _ h => h
      have c3 := ho.c3
      clear hfin h1
      go_enter Try.func12, Try.ntmps12
      go_wp2_with (first | (go_at_call 18; refine (good_yes b p _ hp ho.c0).mono ?_; rintro e w' ⟨rfl, m, rfl⟩) | (go_at_call 15; refine (room_yes b p r A2 L.length c2 (w.drewN m) hp (by omega) hr2 (by omega) ho.c0 ho.c2 ho.c3).mono ?_; rintro e w' ⟨rfl, m2, rfl⟩))
      have hne : (Value.slice A2 L.length c2).ownBlock ≠ some b := hq.neBlk ho.blk (by decide)
      have hl63 : L.length + 1 ≤ maxLen := by unfold maxLen; omega
      go_region_law (first | (go_simp; go_at_call 19; refine (clone_any _ bs _ (hbd _) (by omega)).mono ?_; rintro e w1 ⟨v1, rfl, hel, hx0, hlt⟩; obtain ⟨A1, c1, rfl⟩ := hel.shape; have hx : Ext NoB w w1 := (Ext.drewN NoB w _).then hx0; have ho1 : SO w1 b p ph r (.slice A2 L.length c2) nx := ho.ext hx (fun h => h); have k3 := ho1.c3; have k4 : (w1.alloc (.cells #[.slice A1 bs.length c1] 32)).cell? ⟨b, 3, none⟩ = some (.slice A2 L.length c2) := (ho1.ext (Ext.alloc NoB w1 _) (fun h => h)).c3; have hqa : QRow (w1.alloc (.cells #[.slice A1 bs.length c1] 32)) 32 1 (.slice A2 L.length c2) L.length vs := (hq.ext (F := NoB) (w' := w1) hx (fun _ _ h => h)).ext (Ext.alloc NoB w1 _) (fun _ _ h => h)) | (refine step_append_q rfl _ _ 28 rfl 32 1 24 (.slice none 0 0) Try.underlying28 Try.info32 rfl (by decide) (.slice A2 L.length c2) L.length vs rfl hqa ⟨w1.heap.size, 0, none⟩ 1 1 [.slice A1 bs.length c1] rfl rfl (new_one _ _ _) (one_of rfl) (by decide) hl63 (by omega) ?_; intro g off cap w2 hq2 hx2 hg2; have ho2 : SO w2 b p ph r (.slice A2 L.length c2) nx := (ho1.ext (Ext.alloc NoB w1 _) (fun h => h)).ext hx2 (fun h => hne h); have d3 := ho2.c3; have d3f := ho2.fr 3))
      all_goals
        go_wp2
        go_ret
        exact ⟨rfl, push_end hfb hq he hsf hx hel hlt hq2 hx2 hg2 ho2⟩
end Go.Proofs.Ytapckbbbcjaahaa
