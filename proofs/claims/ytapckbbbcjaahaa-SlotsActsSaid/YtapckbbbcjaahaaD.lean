/- At of package slots. -/
import Derived.Test.YtapckbbbcjaahaaC
set_option linter.unusedVariables false
namespace Go.Proofs.Ytapckbbbcjaahaa
open Go.RowKit

/-- P24.3: what At answers: the kind, the bytes, the error; what waits then, and the first tick that may still be a slot. -/
def atK (p ph : Int) (L : List (List Int)) (nx now draw : Int) : Int := if isB p ph now = false then 0 else if now < nx then 0 else if L = [] then 2 + draw % 2 else 1
def atE (p ph : Int) (nx now : Int) : Int := if isB p ph now = false then 9 else if now < nx then 13 else 0
def atB (p ph : Int) (L : List (List Int)) (nx now : Int) : List Int := if isB p ph now = false then [] else if now < nx then [] else L.headD []
def atL (p ph : Int) (L : List (List Int)) (nx now : Int) : List (List Int) := if isB p ph now = false then L else if now < nx then L else L.tail
def atN (p ph : Int) (nx now : Int) : Int := if isB p ph now = false then nx else if now < nx then nx else now + 1
def Atted (w : World) (b : Nat) (p ph r : Int) (F : Nat → Prop) (K E N : Int) (B : List Int) (L' : List (List Int)) (e : Ending) (w' : World) : Prop :=
  ∃ A c, e = .returned (.tuple #[.int .i64 K, .slice A B.length c, .int .i64 E]) ∧ Bytes w' (.slice A B.length c) B ∧ (∀ k, (Value.slice A B.length c).ownBlock = some k → F k ∧ k ≠ b) ∧ SlotsAt w' b p ph r L' N F ∧ Ext (fun k => k = b) w w'

theorem at_no (v : Value) (now draw : Int) (w : World) (h : Nobody w v) : Calls Try.prog 13 #[v, .int .i64 now, .int .u8 draw] w fun e w' => e = .returned (.tuple #[.int .i64 0, .slice none 0 0, .int .i64 1]) ∧ ∃ m, w' = w.drewN m := by
  go_enter Try.func13, Try.ntmps13
  go_wp2_with (go_at_call 18; refine (good_no v _ h).mono ?_; rintro e w' ⟨rfl, m, rfl⟩)
  go_ret3
  exact ⟨rfl, _, rfl⟩
/-- The row's tail, and the tick: outside the walk. -/
theorem at_end {w1 w : World} {b g off off' cap : Nat} {p ph r nx nx' : Int} {x : List Int} {L : List (List Int)} {F : Nat → Prop} {vs : List Value} {v0 : Value}
    (hx : Ext NoB w w1) (ho : SO w1 b p ph r (.slice (some ⟨g, off, none⟩) (L.length + 1) cap) nx) (hfb : F b) (hq : QRow w1 32 1 (.slice (some ⟨g, off, none⟩) (L.length + 1) cap) (L.length + 1) (v0 :: vs))
    (he : ∀ (i : Nat) (v : Value) (bs : List Int), (v0 :: vs)[i]? = some v → (x :: L)[i]? = some bs → El w1 v bs ∧ ∀ k, v.ownBlock = some k → F k) (hsf : ∀ k, (Value.slice (some ⟨g, off, none⟩) (L.length + 1) cap).ownBlock = some k → F k)
    (hoff : off' = off + 1 ∨ (off' = off ∧ cap = 1)) :
    SlotsAt ((w1.setCell ⟨b, 4, none⟩ (.int .i64 nx')).setCell ⟨b, 3, none⟩ (.slice (some ⟨g, off', none⟩) L.length (cap - 1))) b p ph r L nx' F ∧
      Ext (fun k => k = b) w ((w1.setCell ⟨b, 4, none⟩ (.int .i64 nx')).setCell ⟨b, 3, none⟩ (.slice (some ⟨g, off', none⟩) L.length (cap - 1))) ∧
      Bytes ((w1.setCell ⟨b, 4, none⟩ (.int .i64 nx')).setCell ⟨b, 3, none⟩ (.slice (some ⟨g, off', none⟩) L.length (cap - 1))) v0 x := by
  have hb : Ext (fun k => k = b) w1 ((w1.setCell ⟨b, 4, none⟩ (.int .i64 nx')).setCell ⟨b, 3, none⟩ (.slice (some ⟨g, off', none⟩) L.length (cap - 1))) := (Ext.setCell (F := fun k => k = b) w1 ⟨b, 4, none⟩ _ fun _ => rfl).andSet ⟨b, 3, none⟩ _ fun _ => rfl
  have ht := hq.tail off' hoff
  have elk : ∀ {v : Value} {bs : List Int}, El w1 v bs → El ((w1.setCell ⟨b, 4, none⟩ (.int .i64 nx')).setCell ⟨b, 3, none⟩ (.slice (some ⟨g, off', none⟩) L.length (cap - 1))) v bs := by
    rintro v bs ⟨n, hv⟩
    exact ⟨n, hv.ext hb fun k hk h => hv.neBlk ho.blk (by decide) (by rw [hk, h])⟩
  refine ⟨⟨_, (ho.set4 nx').set3 _, ⟨vs, ?_, ?_, ?_⟩, hfb⟩, hx.trans hb (fun _ _ h => h.elim) fun _ _ h => h, (elk (he 0 v0 x rfl rfl).1).bytes⟩
  · exact ht.ext hb fun k hk h => ht.neBlk ho.blk (by decide) (by rw [hk, h])
  · intro i v bs hi hl
    obtain ⟨h1, h2⟩ := he (i + 1) v bs hi hl
    exact ⟨elk h1, h2⟩
  · intro k hk
    exact hsf k (by simpa [Value.ownBlock] using hk)

set_option maxHeartbeats 1600000 in
theorem at_any (b : Nat) (p ph r nx now draw : Int) (L : List (List Int)) (F : Nat → Prop) (w : World) (hp : 0 < p) (hp2 : p ≤ 64) (hr2 : r ≤ 256) (hL : L.length ≤ r) (hd0 : 0 ≤ draw) (hd1 : draw ≤ 255) (hs : SlotsAt w b p ph r L nx F) :
    Calls Try.prog 13 #[.pointer (some ⟨b, 0, none⟩), .int .i64 now, .int .u8 draw] w (Atted w b p ph r F (atK p ph L nx now draw) (atE p ph nx now) (atN p ph nx now) (atB p ph L nx now) (atL p ph L nx now)) := by
  have hs0 := hs
  obtain ⟨sv, ho, hl, hfb⟩ := hs
  cases hi : isB p ph now with
  | false =>
    simp only [atK, atE, atB, atL, atN, hi, if_true]
    have hic : ∀ k, Calls Try.prog 16 #[.pointer (some ⟨b, 0, none⟩), .int .i64 now] (w.drewN k) fun e w' => e = .returned (.bool false) ∧ Ext NoB w w' := fun k => by
      have h := is_yes b p ph now (w.drewN k) hp hp2 ho.c0 ho.c1
      rw [hi] at h
      exact h.mono fun e w' ⟨h1, m, h2⟩ => ⟨h1, by rw [h2]; exact (Ext.drewN _ _ _).andDrewN _⟩
    clear hi
    go_enter Try.func13, Try.ntmps13
    go_wp2_with (first | (go_at_call 18; refine (good_yes b p _ hp ho.c0).mono ?_; rintro e w' ⟨rfl, m, rfl⟩) | (go_at_call 16; refine (hic _).mono ?_; rintro e w1 ⟨rfl, hx⟩))
    go_ret3
    exact ⟨none, 0, rfl, Bytes.nil _, fun k hk => by simp [Value.ownBlock] at hk, hs0.ext hx fun _ _ h => h, hx.mono fun _ _ h => h.elim⟩
  | true =>
    have hb := hi
    simp only [isB, Bool.and_eq_true, decide_eq_true_eq] at hb
    obtain ⟨hn0, hn1, _⟩ := hb
    simp only [atK, atE, atB, atL, atN, hi, Bool.true_eq_false, if_false]
    have hic : ∀ k, Calls Try.prog 16 #[.pointer (some ⟨b, 0, none⟩), .int .i64 now] (w.drewN k) fun e w' => e = .returned (.bool true) ∧ Ext NoB w w' := fun k => by
      have h := is_yes b p ph now (w.drewN k) hp hp2 ho.c0 ho.c1
      rw [hi] at h
      exact h.mono fun e w' ⟨h1, m, h2⟩ => ⟨h1, by rw [h2]; exact (Ext.drewN _ _ _).andDrewN _⟩
    clear hi
    by_cases hlt : now < nx
    · simp only [hlt, if_true]
      go_enter Try.func13, Try.ntmps13
      go_wp2_with (first | (go_at_call 18; refine (good_yes b p _ hp ho.c0).mono ?_; rintro e w' ⟨rfl, m, rfl⟩) | (go_at_call 16; refine (hic _).mono ?_; rintro e w1 ⟨rfl, hx⟩; have ho1 := ho.ext hx (fun h => h); have k4 := ho1.c4))
      go_ret3
      exact ⟨none, 0, rfl, Bytes.nil _, fun k hk => by simp [Value.ownBlock] at hk, hs0.ext hx fun _ _ h => h, hx.mono fun _ _ h => h.elim⟩
    · simp only [hlt, if_false]
      obtain ⟨vs, hq, he, hsf⟩ := hl
      match L, hL, hs0, hq, he with
      | [], hL, hs0, hq, he =>
        obtain ⟨A2, c2, rfl, hq1, hq2, _⟩ := hq.slice
        simp only [if_true, List.headD_nil, List.tail_nil]
        go_enter Try.func13, Try.ntmps13
        go_wp2_with (first | (go_at_call 18; refine (good_yes b p _ hp ho.c0).mono ?_; rintro e w' ⟨rfl, m, rfl⟩) | (go_at_call 16; refine (hic _).mono ?_; rintro e w1 ⟨rfl, hx⟩; have ho1 := ho.ext hx (fun h => h); have k4 := ho1.c4; have f4 := ho1.fr 4; have k3 := ho1.c3))
        go_ret3
        refine ⟨none, 0, rfl, Bytes.nil _, fun k hk => by simp [Value.ownBlock] at hk, ⟨_, ho1.set4 (now + 1), ⟨vs, ?_, fun i v bs h1 h2 => by simp at h2, hsf⟩, hfb⟩, (hx.mono fun _ _ h => h.elim).andSet _ _ fun _ => rfl⟩
        exact (hq.ext hx fun _ _ h => h).ext (Ext.setCell (F := fun k => k = b) w1 ⟨b, 4, none⟩ _ fun _ => rfl) fun k hk h => hq.neBlk ho.blk (by decide) (by rw [hk, h])
      | x :: L, hL, hs0, hq, he =>
        obtain ⟨g, off, cap, rfl, hq1, hq2, hqc, hqf⟩ := hq.form (Nat.succ_pos _)
        obtain ⟨v0, vs, rfl⟩ : ∃ v0 vs', vs = v0 :: vs' := by
          match vs, hq.1 with
          | v0 :: vs', _ => exact ⟨v0, vs', rfl⟩
        simp only [reduceCtorEq, if_false, List.headD_cons, List.tail_cons]
        have hgb : g ≠ b := fun h => hq.neBlk ho.blk (by decide) (by simp [Value.ownBlock, h])
        obtain ⟨A0, c0, hv0⟩ := (he 0 v0 x rfl rfl).1.shape
        subst hv0
        have hcell : w.cell? ⟨g, off, none⟩ = some (.slice A0 x.length c0) := by have := hqc 0 (by simp); simpa using this
        have hoA : ∀ k, (Value.slice A0 x.length c0).ownBlock = some k → F k ∧ k ≠ b := fun k hk => ⟨(he 0 _ x rfl rfl).2 k hk, fun h => by obtain ⟨n, hv⟩ := (he 0 _ x rfl rfl).1; exact hv.neBlk ho.blk (by decide) (by rw [hk, h])⟩
        have hL1 : 0 < L.length + 1 := Nat.succ_pos _
        rcases Nat.lt_or_ge 1 cap with hcap | hcap
        · have hcap1 : ¬ cap = 1 := by omega
          go_enter Try.func13, Try.ntmps13
          go_wp2_with (first | (go_at_call 18; refine (good_yes b p _ hp ho.c0).mono ?_; rintro e w' ⟨rfl, m, rfl⟩) | (go_at_call 16; refine (hic _).mono ?_; rintro e w1 ⟨rfl, hx⟩; have ho1 := ho.ext hx (fun h => h); have k4 := ho1.c4; have f4 := ho1.fr 4; have k3 := ho1.c3; have f3 := ho1.fr 3; have kc : (w1.setCell ⟨b, 4, none⟩ (.int .i64 (now + 1))).cell? ⟨g, off, none⟩ = some (.slice A0 x.length c0) := ((Ext.setCell (F := fun k => k = b) w1 ⟨b, 4, none⟩ _ fun _ => rfl).cell (hx.cell hcell (fun h => h)) hgb)))
          go_ret3
          have hend := at_end (F := F) (nx' := now + 1) hx ho1 hfb (hq.ext hx fun _ _ h => h) (fun i v bs h1 h2 => ⟨(he i v bs h1 h2).1.ext hx fun _ _ h => h, (he i v bs h1 h2).2⟩) hsf (.inl rfl)
          exact ⟨A0, c0, rfl, hend.2.2, hoA, hend.1, hend.2.1⟩
        · obtain rfl : cap = 1 := by have h2 : (x :: L).length = L.length + 1 := rfl; omega
          obtain rfl : L = [] := List.eq_nil_of_length_eq_zero (by have h2 : (x :: L).length = L.length + 1 := rfl; omega)
          go_enter Try.func13, Try.ntmps13
          go_wp2_with (first | (go_at_call 18; refine (good_yes b p _ hp ho.c0).mono ?_; rintro e w' ⟨rfl, m, rfl⟩) | (go_at_call 16; refine (hic _).mono ?_; rintro e w1 ⟨rfl, hx⟩; have ho1 := ho.ext hx (fun h => h); have k4 := ho1.c4; have f4 := ho1.fr 4; have k3 := ho1.c3; have f3 := ho1.fr 3; have kc : (w1.setCell ⟨b, 4, none⟩ (.int .i64 (now + 1))).cell? ⟨g, off, none⟩ = some (.slice A0 x.length c0) := ((Ext.setCell (F := fun k => k = b) w1 ⟨b, 4, none⟩ _ fun _ => rfl).cell (hx.cell hcell (fun h => h)) hgb)))
          go_ret3
          have hend := at_end (F := F) (nx' := now + 1) hx ho1 hfb (hq.ext hx fun _ _ h => h) (fun i v bs h1 h2 => ⟨(he i v bs h1 h2).1.ext hx fun _ _ h => h, (he i v bs h1 h2).2⟩) hsf (.inr ⟨rfl, rfl⟩)
          exact ⟨A0, c0, rfl, hend.2.2, hoA, hend.1, hend.2.1⟩
end Go.Proofs.Ytapckbbbcjaahaa
