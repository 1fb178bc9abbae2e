/- The law SlotsBlind returns true: the walk. -/
import Derived.Test.YtapckbbbcjaahaaOpen
import Derived.Deep.RegionHeld3
set_option linter.unusedVariables false
namespace Go.Proofs.Ytapckbbbcjaahaa
open Go.RowKit

section
variable {b : Nat} {p ph r nx now draw : Int} {L : List (List Int)} {F : Nat → Prop} {w : World}
theorem at_bad (hp : 0 < p) (hp2 : p ≤ 64) (hr2 : r ≤ 256) (hL : L.length ≤ r) (hd0 : 0 ≤ draw) (hd1 : draw ≤ 255) (hs : SlotsAt w b p ph r L nx F) (hi : isB p ph now = false) : Calls Try.prog 13 #[.pointer (some ⟨b, 0, none⟩), .int .i64 now, .int .u8 draw] w (Atted w b p ph r F 0 9 nx [] L) := by
  have h := at_any b p ph r nx now draw L F w hp hp2 hr2 hL hd0 hd1 hs
  simpa only [atK, atE, atN, atB, atL, hi, if_true] using h
theorem at_old (hp : 0 < p) (hp2 : p ≤ 64) (hr2 : r ≤ 256) (hL : L.length ≤ r) (hd0 : 0 ≤ draw) (hd1 : draw ≤ 255) (hs : SlotsAt w b p ph r L nx F) (hi : isB p ph now = true) (hn : now < nx) : Calls Try.prog 13 #[.pointer (some ⟨b, 0, none⟩), .int .i64 now, .int .u8 draw] w (Atted w b p ph r F 0 13 nx [] L) := by
  have h := at_any b p ph r nx now draw L F w hp hp2 hr2 hL hd0 hd1 hs
  simpa only [atK, atE, atN, atB, atL, hi, hn, if_true, Bool.true_eq_false, if_false] using h
theorem at_idle (hp : 0 < p) (hp2 : p ≤ 64) (hr2 : r ≤ 256) (hL : (0 : Int) ≤ r) (hd0 : 0 ≤ draw) (hd1 : draw ≤ 255) (hs : SlotsAt w b p ph r [] nx F) (hi : isB p ph now = true) (hn : nx ≤ now) : Calls Try.prog 13 #[.pointer (some ⟨b, 0, none⟩), .int .i64 now, .int .u8 draw] w (Atted w b p ph r F (2 + draw % 2) 0 (now + 1) [] []) := by
  have h := at_any b p ph r nx now draw [] F w hp hp2 hr2 hL hd0 hd1 hs
  have hn' : ¬ now < nx := by omega
  simpa only [atK, atE, atN, atB, atL, hi, hn', if_true, Bool.true_eq_false, if_false, List.headD_nil, List.tail_nil] using h
theorem at_real {x : List Int} (hp : 0 < p) (hp2 : p ≤ 64) (hr2 : r ≤ 256) (hL : (x :: L).length ≤ r) (hd0 : 0 ≤ draw) (hd1 : draw ≤ 255) (hs : SlotsAt w b p ph r (x :: L) nx F) (hi : isB p ph now = true) (hn : nx ≤ now) : Calls Try.prog 13 #[.pointer (some ⟨b, 0, none⟩), .int .i64 now, .int .u8 draw] w (Atted w b p ph r F 1 0 (now + 1) x L) := by
  have h := at_any b p ph r nx now draw (x :: L) F w hp hp2 hr2 hL hd0 hd1 hs
  have hn' : ¬ now < nx := by omega
  simpa only [atK, atE, atN, atB, atL, hi, hn', if_true, Bool.true_eq_false, if_false, reduceCtorEq, List.headD_cons, List.tail_cons] using h
end
/-- Three cells of a block. -/
theorem three {w : World} {b : Nat} {a0 a1 a2 : Value} {e : TypeId} (h : w.heap[b]? = some (.cells #[a0, a1, a2] e (0, 0))) :
    w.cell? ⟨b, 0, none⟩ = some a0 ∧ w.cell? ⟨b, 1, none⟩ = some a1 ∧ w.cell? ⟨b, 2, none⟩ = some a2 := ⟨by rw [cellOf h]; rfl, by rw [cellOf h]; rfl, by rw [cellOf h]; rfl⟩

/-- The two Slots behind some rounds: nothing waits in the second one. -/
def BlindRel (w : World) (ba bb : Nat) (p ph m : Int) (wr : World) : Prop :=
  ∃ La nx F, SlotsAt wr ba p ph m La nx F ∧ La.length ≤ m ∧ (∀ k, F k → w.heap.size ≤ k ∧ k ≠ bb) ∧ SlotsAt wr bb p ph m [] nx (fun k => k = bb) ∧ w.heap.size ≤ bb ∧ Below w.heap.size w wr
theorem Acts.at {w wr : World} {A : Option Addr} {n : Nat} (h : Acts w A n) (hb : Below w.heap.size w wr) {i : Nat} (hi : i < n) :
    ∃ b o kd now dr v bs, A = some ⟨b, o, none⟩ ∧ ActC wr kd now dr v bs ∧ wr.cell? ⟨b, o + i * 4, none⟩ = some (.int .u8 kd) ∧ wr.cell? ⟨b, o + i * 4 + 1, none⟩ = some (.int .i64 now) ∧ wr.cell? ⟨b, o + i * 4 + 2, none⟩ = some (.int .u8 dr) ∧ wr.cell? ⟨b, o + i * 4 + 3, none⟩ = some v ∧ b < w.heap.size := by
  obtain ⟨b, o, kd, now, dr, v, bs, hA, ha, c0, c1, c2, c3⟩ := h.2 i hi
  have hx := Ext.ofBelow hb NoB
  exact ⟨b, o, kd, now, dr, v, bs, hA, ⟨ha.kd0, ha.kd1, ha.dr0, ha.dr1, ha.now0, ha.now1, ha.bytes.ext hx fun _ _ _ h => h⟩, hx.cell c0 (fun h => h), hx.cell c1 (fun h => h), hx.cell c2 (fun h => h), hx.cell c3 (fun h => h), World.block_lt_of_cell? _ _ c0⟩

theorem pushL_len (bs : List Int) (m : Int) (L : List (List Int)) (h : L.length ≤ m) : (pushL bs m L).length ≤ m := by
  unfold pushL
  split
  · exact h
  · split
    · exact h
    · rw [List.length_append]; simp; omega
/-- Behind a call on the first Slots, in a world 'W' that is 'wr' with new blocks. -/
theorem blind_step {w wr W w2 w3 : World} {ba bb : Nat} {p ph m nx' : Int} {La' : List (List Int)} {F F1 : Nat → Prop} (hF : ∀ k, F k → w.heap.size ≤ k ∧ k ≠ bb) (hba : F ba) (hbb : w.heap.size ≤ bb) (hbl : Below w.heap.size w wr) (hW : Ext NoB wr W) (hbW : bb < wr.heap.size)
    (hF1 : ∀ k, F1 k → F k) (hx2 : Ext F1 W w2) (hs2 : SlotsAt w2 ba p ph m La' nx' (Plus F1 W)) (hL : La'.length ≤ m) (hs3 : SlotsAt w3 bb p ph m [] nx' (fun k => k = bb)) (hx3 : Ext (fun k => k = bb) w2 w3) : BlindRel w ba bb p ph m w3 := by
  have hsz := hW.size
  have hP : ∀ k, Plus F1 W k → w.heap.size ≤ k ∧ k ≠ bb := fun k hk => by
    rcases hk with h | h
    · exact hF k (hF1 k h)
    · have := hbl.size; exact ⟨by omega, by omega⟩
  refine ⟨La', nx', Plus F1 W, hs2.ext hx3 fun k hk h => (hP k hk).2 h, hL, hP, hs3, hbb, ?_⟩
  refine hbl.trans (((hW.trans hx2 (H := fun k => w.heap.size ≤ k) (fun _ _ h => h.elim) fun k _ h => (hF k (hF1 k h)).1).trans hx3 (H := fun k => w.heap.size ≤ k) (fun _ _ h => h) fun k _ h => by rw [h]; exact hbb).below hbl.size fun _ h => h)

set_option maxHeartbeats 1600000 in
set_option maxRecDepth 100000 in
theorem blind_walk (p ph m : Int) (A : Option Addr) (n c : Nat) (w : World) (ha : Acts w A n) :
    Calls Try.prog 4 #[.agg #[.int .i64 p, .int .i64 ph, .int .i64 m], .slice A n c] w fun e w' => e = .returned (.bool true) ∧ Below w.heap.size w w' := by
  cases hr : rightB p ph m with
  | false =>
    have hn : ∀ W : World, Calls Try.prog 8 #[.int .i64 p, .int .i64 ph, .int .i64 m] W fun e w' => e = .returned (.pointer none) ∧ ∃ k, w' = W.drewN k := fun W => (new_no p ph m W hr).mono fun e w' ⟨h1, h2⟩ => ⟨h1, 0, h2⟩
    have hR := right_any p ph m
    rw [hr] at hR
    go_enter Try.func4, Try.ntmps4
    go_wp2_with (go_at_call 7; refine (alive_any _).mono ?_; rintro e w1 ⟨rfl, hx⟩; have hx' := Ext.ofBelow hx NoB; have t := hx'.obj (heapNew w _) (fun h => h); obtain ⟨e0, e1, e2⟩ := three t)
    go_quiet ((go_at_call 8; exact Calls.quiet_of (hn _)))
    go_wp2_with (go_at_call 9; refine (hR _).mono ?_; rintro e w2 ⟨rfl, rfl⟩)
    go_ret
    exact ⟨rfl, (((Ext.alloc NoB w _).then hx').andDrewN _).below (Nat.le_refl _) fun _ h => h.elim⟩
  | true =>
    obtain ⟨h1, h2, h3, h4, h5, h6⟩ := (rightB_iff p ph m).1 hr
    have hN := fun W => new_yes p ph m W h1 h2 h3 h4 h5 h6
    go_enter Try.func4, Try.ntmps4
    go_wp2_with (go_at_call 7; refine (alive_any _).mono ?_; rintro e w1 ⟨rfl, hx⟩; have hx' := Ext.ofBelow hx NoB; have t := hx'.obj (heapNew w _) (fun h => h); obtain ⟨e0, e1, e2⟩ := three t; have hlt1 : w.heap.size < w1.heap.size := blk_lt' t)
    have n0 := World.new_ne w1 _ e0
    go_region_held3 (fun W => W.cell? ⟨w.heap.size, 0, none⟩ = some (.int .i64 p) ∧ W.cell? ⟨w.heap.size, 1, none⟩ = some (.int .i64 ph) ∧ W.cell? ⟨w.heap.size, 2, none⟩ = some (.int .i64 m)) (go_keep) (first | (go_at_call 8; refine (hN _).mono ?_; rintro e w2 ⟨rfl, rfl⟩))
    go_wp2
    have hst : BlindRel w w1.heap.size (w1.heap.size + 1) p ph m (((w1.alloc (.cells #[.int .i64 p, .int .i64 ph, .int .i64 m, .slice none 0 0, .int .i64 0] 50)).alloc (.cells #[.int .i64 p, .int .i64 ph, .int .i64 m, .slice none 0 0, .int .i64 0] 50)).drew) := by
      obtain ⟨q1, q2⟩ := heap_two w1 (.cells #[.int .i64 p, .int .i64 ph, .int .i64 m, .slice none 0 0, .int .i64 0] 50) (.cells #[.int .i64 p, .int .i64 ph, .int .i64 m, .slice none 0 0, .int .i64 0] 50)
      refine ⟨[], 0, fun k => k = w1.heap.size, ⟨_, ⟨q1⟩, Line.nil _ _, rfl⟩, by simp; omega, fun k hk => by omega, ⟨_, ⟨q2⟩, Line.nil _ _, rfl⟩, by omega, ?_⟩
      exact (((((Ext.alloc NoB w _).then hx').andAlloc _).andAlloc _).andDrew).below (Nat.le_refl _) fun _ h => h.elim
    clear hx hx' t e0 e1 e2 n0 hN
    have hp2 := h2
    have hn63 := ha.1
    have Ha := Lib.hid ha
    clear ha hr
    go_loopw [7] (fun i wr => ∃ k : Nat, k ≤ n ∧ k ≤ 80 ∧ i = .int .i64 k ∧ BlindRel w w1.heap.size (w1.heap.size + 1) p ph m wr) (fun i _ => n - (intOf i).toNat)
    case atStart => exact ⟨0, Nat.zero_le _, Nat.zero_le _, rfl, hst⟩
    case round =>
      clear hst
      obtain ⟨k, hkn, hk80, rfl, La, nx, F, hsa, hLa, hF, hsb, hbb, hbl⟩ := hrel
      rcases Nat.lt_or_ge k n with hlt | hge
      · rcases Nat.lt_or_ge k 80 with hlt2 | hge2
        · obtain ⟨b, o, kd, now, dr, v, bs, rfl, ha, c0, c1, c2, c3, hbw⟩ := Acts.at Ha.out hbl hlt
          obtain ⟨A', c', rfl, hc1, hc2, _⟩ := ha.bytes.shape
          have hk0 := ha.kd0
          have hk1 := ha.kd1
          have hd0 := ha.dr0
          have hd1 := ha.dr1
          have hn0 := ha.now0
          have hn1 := ha.now1
          have hW : Ext NoB wr (wr.alloc (.cells #[.int .u8 kd, .int .i64 now, .int .u8 dr, .slice A' bs.length c'] 34)) := Ext.alloc _ _ _
          have hbW : w1.heap.size + 1 < wr.heap.size := hsb.lt
          have hbal : w1.heap.size < wr.heap.size := hsa.lt
          have hba : F w1.heap.size := by obtain ⟨_, _, _, h⟩ := hsa; exact h
          by_cases hbig : 5000 < bs.length
          · have hb' : (5000 : Int) < (bs.length : Int) := by omega
            go_wp2
            exact ⟨⟨k + 1, by omega, by omega, by go_num, La, nx, F, hsa.ext hW fun _ _ h => h, hLa, hF, hsb.ext hW fun _ _ h => h, hbb, hbl.trans (hW.below hbl.size fun _ h => h.elim)⟩, by simp [intOf]; omega⟩
          · have hb' : (bs.length : Int) ≤ 5000 := by omega
            have hsa1 : SlotsAt (wr.alloc (.cells #[.int .u8 kd, .int .i64 now, .int .u8 dr, .slice A' bs.length c'] 34)) w1.heap.size p ph m La nx (fun k => F k ∧ k < wr.heap.size) := (hsa.mono fun k hk h => ⟨h, hk⟩).ext hW fun _ _ h => h
            by_cases hkd : kd % 2 = 1
            · have hkb : (kd % 2 == 1) = true := by simp [hkd]
              clear hkd
              go_wp2_with (go_at_call 12; refine (push_any _ p ph m nx La _ _ bs (wr.alloc (.cells #[.int .u8 kd, .int .i64 now, .int .u8 dr, .slice A' bs.length c'] 34)) (by omega) h5 h6 hLa hsa1 (ha.bytes.ext hW fun _ _ _ h => h) (by omega)).mono ?_; rintro e w2 ⟨rfl, hs2, hx2⟩)
              have hs3 := ((hsb.ext hW fun _ _ h => h).ext hx2 fun k hk h => (hF k h.1).2 hk)
              exact ⟨⟨k + 1, by omega, by omega, by go_num, blind_step hF hba hbb hbl hW hbW (fun _ h => h.1) hx2 hs2 (pushL_len bs m La hLa) hs3 (Ext.refl _ _)⟩, by simp [intOf]; omega⟩
            · have hkb : (kd % 2 == 1) = false := by simp [hkd]
              have hx4 : ∀ j (u : Value), (wr.alloc (.cells #[.int .u8 kd, .int .i64 now, .int .u8 dr, .slice A' bs.length c'] 34)).cell? ⟨wr.heap.size, j, none⟩ = some u → ∀ w2, Ext (fun k => k = w1.heap.size) (wr.alloc (.cells #[.int .u8 kd, .int .i64 now, .int .u8 dr, .slice A' bs.length c'] 34)) w2 → w2.cell? ⟨wr.heap.size, j, none⟩ = some u := fun j u hu w2 hx => hx.cell hu (by simp only; omega)
              have hfour := four (heapNew wr (.cells #[.int .u8 kd, .int .i64 now, .int .u8 dr, .slice A' bs.length c'] 34))
              clear hkd
              cases hi : isB p ph now with
              | false =>
                go_wp2_with fail
                refine (at_bad (by omega) hp2 h6 hLa hd0 hd1 hsa1 hi).mono ?_
                rintro e w2 ⟨A2, c2, rfl, hb2, ho2, hs2, hx2⟩
                have hsb2 := (hsb.ext hW fun _ _ h => h).ext hx2 (fun k hk h => by omega)
                have k1 := hx4 1 _ hfour.2.1 w2 hx2
                have k2 := hx4 2 _ hfour.2.2.1 w2 hx2
                clear hb2 ho2
                go_wp2_with fail
                refine (at_bad (by omega) hp2 h6 (by simp; omega) hd0 hd1 hsb2 hi).mono ?_
                rintro e w3 ⟨A3, c3, rfl, hb3, ho3, hs3, hx3⟩
                go_wp2_with fail
                exact ⟨⟨k + 1, by omega, by omega, by go_num, blind_step hF hba hbb hbl hW hbW (F1 := fun k => F k ∧ k < wr.heap.size) (fun _ h => h.1) (hx2.mono fun _ _ h => by rw [h]; exact ⟨hba, hbal⟩) (hs2.mono fun _ _ h => .inl h) hLa hs3 hx3⟩, by simp [intOf]; omega⟩
              | true =>
                rcases Int.lt_or_le now nx with hold | hold
                · have hlt3 := hold
                  clear hlt3
                  go_wp2_with fail
                  refine (at_old (by omega) hp2 h6 hLa hd0 hd1 hsa1 hi hold).mono ?_
                  rintro e w2 ⟨A2, c2, rfl, hb2, ho2, hs2, hx2⟩
                  have hsb2 := (hsb.ext hW fun _ _ h => h).ext hx2 (fun k hk h => by omega)
                  have k1 := hx4 1 _ hfour.2.1 w2 hx2
                  have k2 := hx4 2 _ hfour.2.2.1 w2 hx2
                  clear hb2 ho2
                  go_wp2_with fail
                  refine (at_old (by omega) hp2 h6 (by simp; omega) hd0 hd1 hsb2 hi hold).mono ?_
                  rintro e w3 ⟨A3, c3, rfl, hb3, ho3, hs3, hx3⟩
                  go_wp2_with fail
                  exact ⟨⟨k + 1, by omega, by omega, by go_num, blind_step hF hba hbb hbl hW hbW (F1 := fun k => F k ∧ k < wr.heap.size) (fun _ h => h.1) (hx2.mono fun _ _ h => by rw [h]; exact ⟨hba, hbal⟩) (hs2.mono fun _ _ h => .inl h) hLa hs3 hx3⟩, by simp [intOf]; omega⟩
                · have hdr : 0 ≤ dr % 2 := by omega
                  have hdr2 : dr % 2 ≤ 1 := by omega
                  have z1 : (2 + dr % 2 == 0) = false := by simp; omega
                  have z2 : (2 + dr % 2 == 1) = false := by simp; omega
                  match La, hLa, hsa, hsa1 with
                  | [], hLa, hsa, hsa1 =>
                    go_wp2_with fail
                    refine (at_idle (by omega) hp2 h6 (by omega) hd0 hd1 hsa1 hi hold).mono ?_
                    rintro e w2 ⟨A2, c2, rfl, hb2, ho2, hs2, hx2⟩
                    have hsb2 := (hsb.ext hW fun _ _ h => h).ext hx2 (fun k hk h => by omega)
                    have k1 := hx4 1 _ hfour.2.1 w2 hx2
                    have k2 := hx4 2 _ hfour.2.2.1 w2 hx2
                    clear hb2 ho2
                    go_wp2_with fail
                    refine (at_idle (by omega) hp2 h6 (by omega) hd0 hd1 hsb2 hi hold).mono ?_
                    rintro e w3 ⟨A3, c3, rfl, hb3, ho3, hs3, hx3⟩
                    obtain ⟨sv, ho, _⟩ := hs2.ext hx3 (fun k hk h => (hF k hk.1).2 h)
                    have k3 := hx3.cell k1 (by simp only; omega)
                    go_wp2_with fail
                    refine (is_yes _ p ph now w3 (by omega) hp2 ho.c0 ho.c1).mono ?_
                    rw [hi]
                    rintro e w4 ⟨rfl, m4, rfl⟩
                    go_wp2_with fail
                    exact ⟨⟨k + 1, by omega, by omega, by go_num, blind_step hF hba hbb hbl hW hbW (F1 := fun k => F k ∧ k < wr.heap.size) (fun _ h => h.1) (hx2.mono fun _ _ h => by rw [h]; exact ⟨hba, hbal⟩) (hs2.mono fun _ _ h => .inl h) hLa (hs3.ext (Ext.drewN NoB w3 m4) fun _ _ h => h) (hx3.andDrewN m4)⟩, by simp [intOf]; omega⟩
                  | x :: La, hLa, hsa, hsa1 =>
                    go_wp2_with fail
                    refine (at_real (by omega) hp2 h6 hLa hd0 hd1 hsa1 hi hold).mono ?_
                    rintro e w2 ⟨A2, c2, rfl, hb2, ho2, hs2, hx2⟩
                    have hsb2 := (hsb.ext hW fun _ _ h => h).ext hx2 (fun k hk h => by omega)
                    have k1 := hx4 1 _ hfour.2.1 w2 hx2
                    have k2 := hx4 2 _ hfour.2.2.1 w2 hx2
                    clear hb2 ho2
                    go_wp2_with fail
                    refine (at_idle (by omega) hp2 h6 (by omega) hd0 hd1 hsb2 hi hold).mono ?_
                    rintro e w3 ⟨A3, c3, rfl, hb3, ho3, hs3, hx3⟩
                    obtain ⟨sv, ho, _⟩ := hs2.ext hx3 (fun k hk h => (hF k hk.1).2 h)
                    have k3 := hx3.cell k1 (by simp only; omega)
                    go_wp2_with fail
                    refine (is_yes _ p ph now w3 (by omega) hp2 ho.c0 ho.c1).mono ?_
                    rw [hi]
                    rintro e w4 ⟨rfl, m4, rfl⟩
                    go_wp2_with fail
                    exact ⟨⟨k + 1, by omega, by omega, by go_num, blind_step hF hba hbb hbl hW hbW (F1 := fun k => F k ∧ k < wr.heap.size) (fun _ h => h.1) (hx2.mono fun _ _ h => by rw [h]; exact ⟨hba, hbal⟩) (hs2.mono fun _ _ h => .inl h) (by simp at hLa; omega) (hs3.ext (Ext.drewN NoB w3 m4) fun _ _ h => h) (hx3.andDrewN m4)⟩, by simp [intOf]; omega⟩
        · obtain rfl : k = 80 := by omega
          go_wp2
          go_ret
          exact ⟨rfl, hbl⟩
      · obtain rfl : k = n := by omega
        go_wp2
        go_ret
        exact ⟨rfl, hbl⟩
end Go.Proofs.Ytapckbbbcjaahaa
