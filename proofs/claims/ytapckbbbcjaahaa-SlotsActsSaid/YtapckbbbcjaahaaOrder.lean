/- The law SlotsOrder returns true: the walk. -/
import Derived.Test.YtapckbbbcjaahaaBlind
set_option linter.unusedVariables false
namespace Go.Proofs.Ytapckbbbcjaahaa
open Go.RowKit

theorem Acts.at' {w wr : World} {A : Option Addr} {n : Nat} (h : Acts w A n) (hb : Below w.heap.size w wr) {i : Nat} (hi : i < n) :
    ∃ b o kd now dr v bs, A = some ⟨b, o, none⟩ ∧ ActC wr kd now dr v bs ∧ wr.cell? ⟨b, o + i * 4, none⟩ = some (.int .u8 kd) ∧ wr.cell? ⟨b, o + i * 4 + 1, none⟩ = some (.int .i64 now) ∧ wr.cell? ⟨b, o + i * 4 + 2, none⟩ = some (.int .u8 dr) ∧ wr.cell? ⟨b, o + i * 4 + 3, none⟩ = some v ∧ b < w.heap.size ∧ Bytes w v bs := by
  obtain ⟨b, o, kd, now, dr, v, bs, hA, ha, c0, c1, c2, c3⟩ := h.2 i hi
  have hx := Ext.ofBelow hb NoB
  exact ⟨b, o, kd, now, dr, v, bs, hA, ⟨ha.kd0, ha.kd1, ha.dr0, ha.dr1, ha.now0, ha.now1, ha.bytes.ext hx fun _ _ _ h => h⟩, hx.cell c0 (fun h => h), hx.cell c1 (fun h => h), hx.cell c2 (fun h => h), hx.cell c3 (fun h => h), World.block_lt_of_cell? _ _ c0, ha.bytes⟩
theorem Try.info9 : (Try.prog.info? 9).map (fun i => (i.zero, i.size, i.bytes)) = some (some (.string ByteArray.empty), 1, 16) := by kernel_rfl
def strs (L : List (List Int)) : List Value := L.map fun b => .string (strOfNums b)
/-- What holds of s, now and waits at a round's head. -/
def OrderRel (w : World) (b : Nat) (P now : Int) (v : Value) (k : Nat) (wr : World) : Prop :=
  ∃ L nx F, SlotsAt wr b P 0 256 L nx F ∧ L.length ≤ k ∧ nx ≤ now ∧ 0 ≤ now ∧ now ≤ 64 * k ∧ now % P = 0 ∧ QRow wr 9 1 v L.length (strs L) ∧ (∀ j, F j → w.heap.size ≤ j) ∧ (∀ j, v.ownBlock = some j → w.heap.size ≤ j ∧ ¬ F j) ∧ Below w.heap.size w wr
set_option maxHeartbeats 1600000 in
set_option maxRecDepth 100000 in
theorem order_walk (pe : Int) (A : Option Addr) (n c : Nat) (w : World) (hpe0 : 0 ≤ pe) (hpe1 : pe ≤ 255) (ha : Acts w A n) :
    Calls Try.prog 5 #[.int .u8 pe, .slice A n c] w fun e w' => e = .returned (.bool true) ∧ Below w.heap.size w w' := by
  have hq0 : 0 ≤ pe % 64 := by omega
  have hq1 : pe % 64 ≤ 63 := by omega
  have hN := fun W => new_yes (pe % 64 + 1) 0 256 W (by omega) (by omega) (by omega) (by omega) (by omega) (by omega)
  have Ha := Lib.hid ha
  have hn63 := ha.1
  clear ha
  go_enter Try.func5, Try.ntmps5
  go_wp2_with (first | (go_at_call 7; refine (alive_any _).mono ?_; rintro e w1 ⟨rfl, hx⟩; have hx' := Ext.ofBelow hx NoB) | (go_at_call 8; refine (hN _).mono ?_; rintro e w2 ⟨rfl, hw2⟩))
  have hst : OrderRel w w1.heap.size (pe % 64 + 1) 0 (.slice none 0 0) 0 (w1.alloc (.cells #[.int .i64 (pe % 64 + 1), .int .i64 0, .int .i64 256, .slice none 0 0, .int .i64 0] 50)) := by
    refine ⟨[], 0, fun k => k = w1.heap.size, ⟨_, ⟨heapNew _ _⟩, Line.nil _ _, rfl⟩, by simp, by omega, by omega, by omega, by simp, QRow.nil _ _ _, fun j hj => by rw [hj]; exact hx'.size, fun j hj => by simp [Value.ownBlock] at hj, ?_⟩
    exact (hx'.andAlloc _).below (Nat.le_refl _) fun _ h => h.elim
  clear hx hx' hN
  obtain ⟨P, hP⟩ : ∃ P, P = pe % 64 + 1 := ⟨_, rfl⟩
  have hP0 : 1 ≤ P := by omega
  have hP1 : P ≤ 64 := by omega
  have HP := Lib.hid hP
  go_loopw [6, 7, 8] (fun now v i wr => ∃ (k : Nat) (t : Int), k ≤ n ∧ k ≤ 80 ∧ i = .int .i64 k ∧ now = .int .i64 t ∧ OrderRel w w1.heap.size P t v k wr) (fun _ _ i _ => n - (intOf i).toNat)
  case atStart => exact ⟨0, 0, Nat.zero_le _, Nat.zero_le _, rfl, rfl, by rw [HP.out]; exact hst⟩
  case round =>
    clear hst hP
    obtain ⟨k, t, hkn, hk80, rfl, rfl, L, nx, F, hs, hLk, hnx, ht0, ht1, htP, hq, hF, hv, hbl⟩ := hrel
    obtain ⟨A2, c2, rfl, hq1, hq2, _⟩ := hq.slice
    have hL80 : L.length ≤ 80 := by omega
    rcases Nat.lt_or_ge k n with hlt | hge
    · rcases Nat.lt_or_ge k 80 with hlt2 | hge2
      · obtain ⟨b, o, kd, na, dr, v, bs, rfl, ha, c0, c1, c2', c3, hbw, hb0⟩ := Acts.at' Ha.out hbl hlt
        obtain ⟨A', c', rfl, hc1, hc2, _⟩ := ha.bytes.shape
        have hk0 := ha.kd0
        have hk1 := ha.kd1
        have hd0 := ha.dr0
        have hd1 := ha.dr1
        have hW : Ext NoB wr (wr.alloc (.cells #[.int .u8 kd, .int .i64 na, .int .u8 dr, .slice A' bs.length c'] 34)) := Ext.alloc _ _ _
        have hbal : w1.heap.size < wr.heap.size := hs.lt
        have hba : F w1.heap.size := by obtain ⟨_, _, _, h⟩ := hs; exact h
        have hlt' : (k : Int) + 1 ≤ 80 := by omega
        have ht2 : t ≤ 5120 := by omega
        by_cases hbig : 5000 < bs.length
        · have hb' : (5000 : Int) < (bs.length : Int) := by omega
          go_wp2
          exact ⟨⟨k + 1, t, by omega, by omega, by go_num, rfl, L, nx, F, hs.ext hW fun _ _ h => h, by omega, hnx, ht0, by omega, htP, hq.ext hW fun _ _ h => h, hF, hv, hbl.trans (hW.below hbl.size fun _ h => h.elim)⟩, by simp [intOf]; omega⟩
        · have hb' : (bs.length : Int) ≤ 5000 := by omega
          have hs1 : SlotsAt (wr.alloc (.cells #[.int .u8 kd, .int .i64 na, .int .u8 dr, .slice A' bs.length c'] 34)) w1.heap.size P 0 256 L nx (fun k => F k ∧ k < wr.heap.size) := (hs.mono fun k hk h => ⟨h, hk⟩).ext hW fun _ _ h => h
          have hb1 : Bytes (wr.alloc (.cells #[.int .u8 kd, .int .i64 na, .int .u8 dr, .slice A' bs.length c'] 34)) (.slice A' bs.length c') bs := ha.bytes.ext hW fun _ _ _ h => h
          have hfour := four (heapNew wr (.cells #[.int .u8 kd, .int .i64 na, .int .u8 dr, .slice A' bs.length c'] 34))
          by_cases hkd : kd % 2 = 1
          · have hkb : (kd % 2 == 1) = true := by simp [hkd]
            clear hkd
            go_wp2_with fail
            refine (push_any _ P 0 256 nx L _ _ bs (wr.alloc (.cells #[.int .u8 kd, .int .i64 na, .int .u8 dr, .slice A' bs.length c'] 34)) (by omega) (by decide) (by decide) (by omega) hs1 hb1 (by omega)).mono ?_
            rintro e w2 ⟨rfl, hs2, hx2⟩
            have hx2F : Ext F wr w2 := hW.trans hx2 (fun _ _ h => h.elim) fun _ _ h => h.1
            have hq3 : QRow w2 9 1 (.slice A2 L.length c2) L.length (strs L) := hq.ext hx2F fun j hj => (hv j hj).2
            have hbl2 : Below w.heap.size w w2 := hbl.trans (hx2F.below hbl.size hF)
            have hF2 : ∀ j, Plus (fun k => F k ∧ k < wr.heap.size) (wr.alloc (.cells #[.int .u8 kd, .int .i64 na, .int .u8 dr, .slice A' bs.length c'] 34)) j → w.heap.size ≤ j := fun j hj => by
              rcases hj with h | h
              · exact hF j h.1
              · have := hbl.size; simp at h; omega
            have hv2 : ∀ j, (Value.slice A2 L.length c2).ownBlock = some j → ¬ Plus (fun k => F k ∧ k < wr.heap.size) (wr.alloc (.cells #[.int .u8 kd, .int .i64 na, .int .u8 dr, .slice A' bs.length c'] 34)) j := fun j hj h => by
              rcases h with h | h
              · exact (hv j hj).2 h.1
              · have := hq.lt j hj; simp at h; omega
            by_cases hb4 : 4096 < bs.length
            · rw [show pushE bs 256 L = 2 by simp [pushE, hb4]]
              rw [show pushL bs 256 L = L by simp [pushL, hb4]] at hs2
              clear hfour
              go_wp2
              exact ⟨⟨k + 1, t, by omega, by omega, by go_num, rfl, L, nx, _, hs2, by omega, hnx, ht0, by omega, htP, hq3, hF2, fun j hj => ⟨(hv j hj).1, hv2 j hj⟩, hbl2⟩, by simp [intOf]; omega⟩
            · rw [show pushE bs 256 L = 0 by simp only [pushE, if_neg hb4]; rw [if_neg (by omega)]]
              rw [show pushL bs 256 L = L ++ [bs] by simp only [pushL, if_neg hb4]; rw [if_neg (by omega)]] at hs2
              have hstr := (hb0.ext (Ext.ofBelow hbl2 NoB) fun _ _ _ h => h).string (P := Try.prog) Try.underlying32 Try.underlying5 Try.underlying9
              have c3' := hx2.cell hfour.2.2.2 (by simp only; omega)
              have hsl : (strs L).length = L.length := by simp [strs]
              clear hfour
              go_wp2_with (at_builtin; refine wpList_append_q rfl _ _ 47 rfl 9 1 16 (.string ByteArray.empty) Try.underlying47 Try.info9 rfl (by decide) (.slice A2 L.length c2) L.length (strs L) rfl ?hq ⟨w2.heap.size, 0, none⟩ 1 1 [.string (strOfNums bs)] rfl rfl (new_one _ _ _) (one_of rfl) (by decide) ?hm ?hb ?hK)
              case hq => exact hq3.ext (Ext.alloc NoB w2 _) fun _ _ h => h
              case hm => unfold maxLen; omega
              case hb => omega
              case hK =>
                intro g off cap w3 hq4 hx4 hg
                go_wp2
                have hs3 : SlotsAt w3 w1.heap.size P 0 256 (L ++ [bs]) nx (fun j => Plus (fun k => F k ∧ k < wr.heap.size) (wr.alloc (.cells #[.int .u8 kd, .int .i64 na, .int .u8 dr, .slice A' bs.length c'] 34)) j ∧ j < w2.heap.size) := ((hs2.mono fun j hj h => ⟨h, hj⟩).ext (Ext.alloc NoB w2 (.cells #[.string (strOfNums bs)] 9)) fun _ _ h => h).ext hx4 fun j hj h => hv2 j h hj.1
                refine ⟨⟨k + 1, t, by omega, by omega, by go_num, rfl, L ++ [bs], nx, _, hs3, by simp; omega, hnx, ht0, by omega, htP, by simpa [strs] using hq4, fun j hj => hF2 j hj.1, fun j hj => ?_, ?_⟩, by simp [intOf]; omega⟩
                · have hgj : g = j := by simpa [Value.ownBlock] using hj
                  subst hgj
                  rcases hg with h | h
                  · exact ⟨(hv g h).1, fun hh => hv2 g h hh.1⟩
                  · have := hbl2.size
                    exact ⟨by omega, fun hh => by have h3 := hh.2; omega⟩
                · exact (hbl2.alloc hbl2.size _).trans (hx4.below (by have := hbl2.size; simp; omega) fun j hj => (hv j hj).1)
          · have hkb : (kd % 2 == 1) = false := by simp [hkd]
            have hi : isB P 0 t = true := by
              have h1 : t ≤ 1099511627776 := by omega
              simp [isB, ht0, h1, htP]
            have htP2 : (t + P) % P = 0 := by rw [Int.add_emod_right]; exact htP
            have HI := Lib.hid hi
            have HT := Lib.hid htP2
            have HT0 := Lib.hid htP
            clear hkd hi htP htP2
            match L, hLk, hs, hq, hq1, hL80, hs1 with
            | [], hLk, hs, hq, hq1, hL80, hs1 =>
              have hdr : 0 ≤ dr % 2 := by omega
              have hdr2 : dr % 2 ≤ 1 := by omega
              have z2 : (2 + dr % 2 == 1) = false := by simp; omega
              have z3 : (2 + dr % 2 == 2) = (dr % 2 == 0) := by rw [Bool.eq_iff_iff]; simp; omega
              go_wp2_with fail
              refine (at_idle (by omega) hP1 (by decide) (by decide) hd0 hd1 hs1 HI.out hnx).mono ?_
              rintro e w2 ⟨A3, c3', rfl, hb2, ho2, hs2, hx2⟩
              have hx2F : Ext (fun k => k = w1.heap.size) wr w2 := hW.trans hx2 (fun _ _ h => h.elim) fun _ _ h => h
              have hq3 := hq.ext hx2F fun j hj h => (hv j hj).2 (by rw [h]; exact hba)
              have hbl2 : Below w.heap.size w w2 := hbl.trans (hx2F.below hbl.size fun j h => by rw [h]; exact hF _ hba)
              have k3 := hx2.cell hfour.2.2.1 (by simp only; omega)
              clear hfour
              go_wp2
              exact ⟨⟨k + 1, t + (pe % 64 + 1), by omega, by omega, by go_num, rfl, [], t + 1, _, hs2, by simp, by have := HP.out; omega, by omega, by omega, by have := HT.out; rw [HP.out] at this ⊢; exact this, hq3, fun j hj => hF j hj.1, fun j hj => ⟨(hv j hj).1, fun h => (hv j hj).2 h.1⟩, hbl2⟩, by simp [intOf]; omega⟩
            | x :: L, hLk, hs, hq, hq1, hL80, hs1 =>
              have hll : (x :: L).length = L.length + 1 := rfl
              go_wp2_with fail
              refine (at_real (by omega) hP1 (by decide) (by omega) hd0 hd1 hs1 HI.out hnx).mono ?_
              rintro e w2 ⟨A3, c3', rfl, hb2, ho2, hs2, hx2⟩
              have hx2F : Ext (fun k => k = w1.heap.size) wr w2 := hW.trans hx2 (fun _ _ h => h.elim) fun _ _ h => h
              have hq3 := hq.ext hx2F fun j hj h => (hv j hj).2 (by rw [h]; exact hba)
              have hbl2 : Below w.heap.size w w2 := hbl.trans (hx2F.below hbl.size fun j h => by rw [h]; exact hF _ hba)
              have hstr := fun (m : Nat) => (hb2.ext (Ext.drewN NoB w2 m) fun _ _ _ h => h).string (P := Try.prog) Try.underlying32 Try.underlying5 Try.underlying9
              obtain ⟨g, off, cap, hvq, g1, g2, g3, g4⟩ := hq3.form (by omega)
              injection hvq with hv1 hv2 hv3
              subst hv1; subst hv3
              have hcell : w2.cell? ⟨g, off, none⟩ = some (.string (strOfNums x)) := by have := g3 0 (by omega); simpa [strs] using this
              clear hfour g3 g4
              have hL1 : 0 < L.length + 1 := Nat.succ_pos _
              go_wp2_with fail
              go_quiet (fail)
              go_wp2_with fail
              have htail : ∀ off', (off' = off + 1 ∨ (off' = off ∧ c2 = 1)) → QRow (w2.drewN nq) 9 1 (.slice (some ⟨g, off', none⟩) L.length (c2 - 1)) L.length (strs L) := fun off' ho => by
                have := QRow.tail (n := L.length) hq3 off' ho
                exact this.ext (Ext.drewN NoB w2 nq) fun _ _ h => h
              have hrow : QRow (w2.drewN nq) 9 1 (.slice (if c2 = 1 then some ⟨g, off, none⟩ else some ⟨g, off + 1, none⟩) L.length (c2 - 1)) L.length (strs L) := by
                by_cases hc : c2 = 1
                · rw [if_pos hc]; exact htail off (.inr ⟨rfl, hc⟩)
                · rw [if_neg hc]; exact htail (off + 1) (.inl rfl)
              have hown : ∀ j, (Value.slice (if c2 = 1 then some ⟨g, off, none⟩ else some ⟨g, off + 1, none⟩) L.length (c2 - 1)).ownBlock = some j → g = j := fun j hj => by
                by_cases hc : c2 = 1
                · rw [if_pos hc] at hj; simpa [Value.ownBlock] using hj
                · rw [if_neg hc] at hj; simpa [Value.ownBlock] using hj
              have hvg := hv g rfl
              exact ⟨⟨k + 1, t + (pe % 64 + 1), by omega, by omega, by go_num, rfl, L, t + 1, _, hs2.ext (Ext.drewN NoB w2 nq) fun _ _ h => h, by omega, by have := HP.out; omega, by omega, by omega, by have := HT.out; rw [HP.out] at this ⊢; exact this, hrow, fun j hj => hF j hj.1, fun j hj => by rw [← hown j hj]; exact ⟨hvg.1, fun h => hvg.2 h.1⟩, hbl2.trans ((Ext.drewN NoB w2 nq).below hbl2.size fun _ h => h.elim)⟩, by simp [intOf]; omega⟩
      · obtain rfl : k = 80 := by omega
        obtain ⟨sv, ho, hl, hfb⟩ := hs
        obtain ⟨vs, hqs, _, _⟩ := hl
        obtain ⟨As, cs, rfl, hs1, hs2, _⟩ := hqs.slice
        go_wp2_with (go_at_call 15; refine (room_yes _ P 256 As L.length cs wr (by omega) (by decide) (by decide) (by omega) ho.c0 ho.c2 ho.c3).mono ?_; rintro e w2 ⟨rfl, m2, rfl⟩)
        go_ret
        exact ⟨by simp, hbl.trans ((Ext.drewN NoB wr m2).below hbl.size fun _ h => h.elim)⟩
    · obtain rfl : k = n := by omega
      obtain ⟨sv, ho, hl, hfb⟩ := hs
      obtain ⟨vs, hqs, _, _⟩ := hl
      obtain ⟨As, cs, rfl, hs1, hs2, _⟩ := hqs.slice
      go_wp2_with (go_at_call 15; refine (room_yes _ P 256 As L.length cs wr (by omega) (by decide) (by decide) (by omega) ho.c0 ho.c2 ho.c3).mono ?_; rintro e w2 ⟨rfl, m2, rfl⟩)
      go_ret
      exact ⟨by simp, hbl.trans ((Ext.drewN NoB wr m2).below hbl.size fun _ h => h.elim)⟩
end Go.Proofs.Ytapckbbbcjaahaa
