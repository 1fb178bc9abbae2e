/-
  The document's May, provides.
-/
import Derived.Test.YtdibjnlmeiikmaaZo
set_option linter.unusedVariables false
set_option linter.unusedSimpArgs false
namespace Go.Proofs.Ytdibjnlmeiikmaa
open Go.RowKit Go.Proofs

theorem Try.eql40 {a : List Int} (ha : a.length = 8) (w : World) : (binOp .eql 40 (Arr a) (.agg #[.int .u8 0, .int .u8 0, .int .u8 0, .int .u8 0, .int .u8 0, .int .u8 0, .int .u8 0, .int .u8 0])).run Try.prog w = .ok (.bool (a == Z8)) w :=
  run_binEql_bytes w 40 5 a Z8 (by rw [ha]; rfl) (by rw [ha]; exact Try.underlying40) Try.underlying5 (by kernel_rfl)
set_option maxHeartbeats 6400000 in
set_option maxRecDepth 100000 in
theorem refMay37 (m : Cm) (w : World) : Calls Try.prog 37 #[.agg (cc m).toArray] w fun e w' => e = .returned (.bool (mayC m)) ∧ Ext NoB w w' := by
  have hb := heapNew w (.cells (cc m).toArray 48)
  have hx := Ext.alloc NoB w (.cells (cc m).toArray 48)
  have c0 := cm_0 (nd_box hb)
  have c1 := cm_1 (nd_box hb)
  have c2 := cm_2 (nd_box hb)
  have r3 := cm_3 (nd_box hb)
  simp only [Nat.zero_add] at c1 c2 r3
  have heq := Try.eql40 m.len
  have s40 : (Try.prog.info? 40).map (·.size) = some (bys m.id).length := by rw [bys_length, m.len]; kernel_rfl
  have HM : Hid (mayC m = if m.kind = 1 then decide (0 ≤ m.next) && (decide (m.next < 16) && (decide (0 ≤ m.delay) && (decide (m.delay ≤ 64) && (m.id == Z8)))) else if m.kind = 2 then (decide (0 ≤ m.next) && decide (m.next < 8)) && (decide (m.delay = 0) && (m.id == Z8)) else if m.kind = 3 then (decide (0 ≤ m.next) && decide (m.next < 8)) && decide (m.delay = 0) else if m.kind = 4 then decide (m.next = 0) && (decide (m.delay = 0) && (m.id == Z8)) else false) := Lib.hid rfl
  clear hb
  generalize hV : (cc m).toArray = V at *
  clear hV
  go_enter Try.func37, Try.ntmps37
  go_upto_region 2 with ((with_reducible show wpList _ _ _ (⟨_, .load 40 _, _, _, _, _⟩ :: _) _ _); refine wpList_load_arrm (by rfl) 40 _ rfl w.heap.size 3 rfl (bys m.id) _ r3 Try.underlying40 rfl s40 ?_)
  clear r3 heq s40
  generalize (m.id == Z8) = z at *
  generalize m.kind = kd at *
  generalize m.next = nx at *
  generalize m.delay = dl at *
  generalize w.alloc (.cells V 48) = W1 at *
  by_cases k1 : kd = 1
  · have HE : Hid (mayC m = (decide (0 ≤ nx) && (decide (nx < 16) && (decide (0 ≤ dl) && (decide (dl ≤ 64) && z))))) := Lib.hid (by rw [HM.out, if_pos k1])
    subst k1
    clear HM
    by_cases h1 : 0 ≤ nx
    · by_cases h2 : nx ≤ 15
      · by_cases h3 : 0 ≤ dl
        · by_cases h4 : dl ≤ 64
          · go_wp2_with fail
            go_ret
            exact ⟨by rw [HE.out, decide_eq_true h1, decide_eq_true (show nx < 16 by omega), decide_eq_true h3, decide_eq_true h4]; rfl, hx⟩
          · go_wp2_with fail
            go_ret
            exact ⟨by rw [HE.out, decide_eq_true h1, decide_eq_true (show nx < 16 by omega), decide_eq_true h3, decide_eq_false (show ¬ dl ≤ 64 by omega)]; rfl, hx⟩
        · go_wp2_with fail
          go_ret
          exact ⟨by rw [HE.out, decide_eq_true h1, decide_eq_true (show nx < 16 by omega), decide_eq_false (show ¬ 0 ≤ dl by omega)]; rfl, hx⟩
      · go_wp2_with fail
        go_ret
        exact ⟨by rw [HE.out, decide_eq_true h1, decide_eq_false (show ¬ nx < 16 by omega)]; rfl, hx⟩
    · go_wp2_with fail
      go_ret
      exact ⟨by rw [HE.out, decide_eq_false (show ¬ 0 ≤ nx by omega)]; rfl, hx⟩
  · have j1 : (kd == 1) = false := beq_eq_false_iff_ne.2 k1
    by_cases k2 : kd = 2
    · have HE : Hid (mayC m = ((decide (0 ≤ nx) && decide (nx < 8)) && (decide (dl = 0) && z))) := Lib.hid (by rw [HM.out, if_neg k1, if_pos k2])
      subst k2
      clear HM j1
      by_cases h1 : 0 ≤ nx
      · by_cases h2 : nx ≤ 7
        · by_cases h3 : dl = 0
          · subst h3
            go_wp2_with fail
            go_ret
            exact ⟨by rw [HE.out, decide_eq_true h1, decide_eq_true (show nx < 8 by omega)]; simp, hx⟩
          · have h4 : (dl == 0) = false := beq_eq_false_iff_ne.2 h3
            go_wp2_with fail
            go_ret
            exact ⟨by rw [HE.out, decide_eq_true h1, decide_eq_true (show nx < 8 by omega), decide_eq_false h3]; rfl, hx⟩
        · go_wp2_with fail
          go_ret
          exact ⟨by rw [HE.out, decide_eq_true h1, decide_eq_false (show ¬ nx < 8 by omega)]; rfl, hx⟩
      · go_wp2_with fail
        go_ret
        exact ⟨by rw [HE.out, decide_eq_false (show ¬ 0 ≤ nx by omega)]; rfl, hx⟩
    · have j2 : (kd == 2) = false := beq_eq_false_iff_ne.2 k2
      by_cases k3 : kd = 3
      · have HE : Hid (mayC m = ((decide (0 ≤ nx) && decide (nx < 8)) && decide (dl = 0))) := Lib.hid (by rw [HM.out, if_neg k1, if_neg k2, if_pos k3])
        subst k3
        clear HM j1 j2
        by_cases h1 : 0 ≤ nx
        · by_cases h2 : nx ≤ 7
          · by_cases h3 : dl = 0
            · subst h3
              go_wp2_with fail
              go_ret
              exact ⟨by rw [HE.out, decide_eq_true h1, decide_eq_true (show nx < 8 by omega)]; simp, hx⟩
            · have h4 : (dl == 0) = false := beq_eq_false_iff_ne.2 h3
              go_wp2_with fail
              go_ret
              exact ⟨by rw [HE.out, decide_eq_true h1, decide_eq_true (show nx < 8 by omega), decide_eq_false h3]; rfl, hx⟩
          · go_wp2_with fail
            go_ret
            exact ⟨by rw [HE.out, decide_eq_true h1, decide_eq_false (show ¬ nx < 8 by omega)]; rfl, hx⟩
        · go_wp2_with fail
          go_ret
          exact ⟨by rw [HE.out, decide_eq_false (show ¬ 0 ≤ nx by omega)]; rfl, hx⟩
      · have j3 : (kd == 3) = false := beq_eq_false_iff_ne.2 k3
        by_cases k4 : kd = 4
        · have HE : Hid (mayC m = (decide (nx = 0) && (decide (dl = 0) && z))) := Lib.hid (by rw [HM.out, if_neg k1, if_neg k2, if_neg k3, if_pos k4])
          subst k4
          clear HM j1 j2 j3
          by_cases h1 : nx = 0
          · subst h1
            by_cases h3 : dl = 0
            · subst h3
              go_wp2_with fail
              go_ret
              exact ⟨by rw [HE.out]; simp, hx⟩
            · have h4 : (dl == 0) = false := beq_eq_false_iff_ne.2 h3
              go_wp2_with fail
              go_ret
              exact ⟨by rw [HE.out, decide_eq_false h3]; rfl, hx⟩
          · have h4 : (nx == 0) = false := beq_eq_false_iff_ne.2 h1
            go_wp2_with fail
            go_ret
            exact ⟨by rw [HE.out, decide_eq_false h1]; rfl, hx⟩
        · have j4 : (kd == 4) = false := beq_eq_false_iff_ne.2 k4
          have HE : Hid (mayC m = false) := Lib.hid (by rw [HM.out, if_neg k1, if_neg k2, if_neg k3, if_neg k4])
          clear HM
          go_wp2_with fail
          go_ret
          exact ⟨by rw [HE.out]; rfl, hx⟩
theorem any_idx {p : Nd → Bool} (L : List Nd) : L.any p = !decide (idxF p L 0 = -1) := by
  rcases idx_cases (p := p) L with h | ⟨i, hi, h⟩
  · have ha : L.any p = false := by
      rw [Bool.eq_false_iff]
      intro ha
      obtain ⟨n, hn, hp⟩ := List.any_eq_true.1 ha
      obtain ⟨i, hi, he⟩ := idx_at L 0 ⟨n, hn, hp⟩
      rw [h] at he; omega
    rw [h, ha]
    rfl
  · have : ∃ n ∈ L, p n = true := by
      refine Classical.byContradiction fun hh => ?_
      have := idx_none (p := p) L 0 (fun n hn => by
        cases hq : p n with
        | true => exact absurd ⟨n, hn, hq⟩ hh
        | false => rfl)
      rw [this] at h; omega
    rw [List.any_eq_true.2 this, decide_eq_false (by omega)]
    rfl
theorem rd35 {w : World} {A : Option Addr} {c : Nat} {M : List Nd} (h : QRow w 35 34 (.slice A M.length c) M.length (flatN M)) : NRd w A c M := by
  have h2 : GR 35 nc 34 w (.slice A M.length c) M := h
  have := GR.rd nc_len (by decide) h2
  exact ⟨this.at', this.cap⟩
theorem layL_1000 {l : Int} {L : List Nd} (hg : Good l L) (k : Int) : (layL L k).length ≤ 16 := layL_16 hg.nd k
def PrRel (w : World) (pv : Int) (M : List Nd) (iv : Value) (W : World) : Prop := ∃ t : Nat, t ≤ M.length ∧ iv = .int .i64 t ∧ (∀ n ∈ M.take t, n.id ≠ pv) ∧ Ext NoB w W
set_option maxHeartbeats 3200000 in
set_option maxRecDepth 100000 in
theorem provides38 (l pv : Int) (A : Option Addr) (c : Nat) (L : List Nd) (w : World) (hr : NRd w A c L) (hlen : L.length ≤ 1000) (hE : chk l L = 0) :
    Calls Try.prog 38 #[dirv l A L.length c, .int .i64 pv] w fun e w' => e = .returned (.bool (!decide (idxF (prv pv) (layL L (l - 1)) 0 = -1))) ∧ Ext NoB w w' := by
  rw [← any_idx]
  obtain ⟨l1, l5⟩ := chk_lay hE
  have hll := layL_1000 (chk_good hE) (l - 1)
  have hb0 := heapNew w (.cells #[.int .i64 l, .slice A L.length c] 24)
  have x0 := Ext.alloc NoB w (.cells #[.int .i64 l, .slice A L.length c] 24)
  have HLA := Lib.hid fun W (hW : Ext NoB w W) => layer36 l (l - 1) A c L W (hr.ext hW (fun _ _ _ h => h)) hlen
  have hcl : ∀ W, Ext NoB (w.alloc (.cells #[.int .i64 l, .slice A L.length c] 24)) W → W.cell? ⟨w.heap.size, 0, none⟩ = some (.int .i64 l) ∧ W.cell? ⟨w.heap.size, 1, none⟩ = some (.slice A L.length c) := fun W hW => by
    have := hW.obj hb0 id
    exact ⟨by rw [cellOf this]; rfl, by rw [cellOf this]; rfl⟩
  obtain ⟨d0, d1⟩ := hcl _ (Ext.refl _ _)
  unfold dirv at HLA ⊢
  generalize layL L (l - 1) = M at *
  clear hr hcl hb0 hE
  go_enter Try.func38, Try.ntmps38
  go_upto_region 1 with fail
  generalize w.alloc (.cells #[.int .i64 l, .slice A L.length c] 24) = W0 at *
  have hw1 := IntWalk.i64_in (l - 1) (by omega)
  go_upto_region 3 with (go_at_call 36; (with_reducible refine (HLA.out _ x0).mono ?_); rintro e W1 ⟨A1, c1, rfl, hq1, x1, _⟩; have HQ1 := Lib.hid (rd35 hq1); clear hq1)
  clear d0 d1
  have hc1 := HQ1.out.cap
  have h63 : c1 ≤ 9223372036854775807 := by have := hc1.2; unfold maxLen at this; omega
  have hcap := hc1.1
  clear hc1
  go_loopw [6] (fun iv W => PrRel W1 pv M iv W) (fun iv _ => M.length - (intOf iv).toNat)
  case atStart => exact ⟨0, by omega, rfl, by simp, Ext.refl _ _⟩
  case round =>
    obtain ⟨t, ht, rfl, hne, hx⟩ := hrel
    by_cases hlt : t < M.length
    · have k1 : (t : Int) < (M.length : Int) := by omega
      obtain ⟨b, o, rfl, hb, hra⟩ := (HQ1.out.ext hx (fun _ _ _ h => h)).at' t hlt
      have htk : M.take (t + 1) = M.take t ++ [M[t]] := by rw [List.take_succ_eq_append_getElem hlt]
      have hin : M[t] ∈ M := List.getElem_mem hlt
      generalize M[t] = nd at *
      have c0 := nd_id hra
      have HTK := Lib.hid htk
      have HNE := Lib.hid hne
      clear htk hne hra
      by_cases hid : nd.id = pv
      · have hany : M.any (prv pv) = true := List.any_eq_true.2 ⟨nd, hin, by unfold prv; exact decide_eq_true hid⟩
        have HA := Lib.hid hany
        rw [hid] at c0
        clear hany hid hin
        go_wp2_with fail
        go_ret
        exact ⟨by rw [HA.out]; rfl, (x0.then x1).then hx⟩
      · have HI : Hid (¬ nd.id = pv) := Lib.hid hid
        generalize hyy : nd.id = y at c0 hid
        clear hyy
        have hb2 : (y == pv) = false := beq_eq_false_iff_ne.2 hid
        clear hid hin
        go_wp2_with fail
        refine ⟨⟨t + 1, by omega, by go_num, fun n hn => ?_, hx⟩, by simp [intOf]; omega⟩
        rw [HTK.out] at hn
        rcases List.mem_append.1 hn with hn | hn
        · exact HNE.out n hn
        · simp at hn; subst hn; exact HI.out
    · have k1 : ¬ (t : Int) < (M.length : Int) := by omega
      obtain rfl : t = M.length := by omega
      rw [List.take_length] at hne
      have hany : M.any (prv pv) = false := by
        rw [Bool.eq_false_iff]
        intro h
        obtain ⟨n, hn, hp⟩ := List.any_eq_true.1 h
        exact hne n hn (of_decide_eq_true hp)
      have HA := Lib.hid hany
      clear hany hne
      go_wp2_with fail
      go_ret
      exact ⟨by rw [HA.out]; rfl, (x0.then x1).then hx⟩
end Go.Proofs.Ytdibjnlmeiikmaa
