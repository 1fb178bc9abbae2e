/-
  The document's Check and Draws.
-/
import Derived.Test.YtdibjnlmeiikmaaZj
set_option linter.unusedVariables false
set_option linter.unusedSimpArgs false
namespace Go.Proofs.Ytdibjnlmeiikmaa
open Go.RowKit Go.Proofs

theorem numB_l {l : Int} {L : List Nd} (h : numB l L = true) : 1 ≤ l ∧ l ≤ 5 ∧ ∀ n ∈ L, plc l n = true := by
  unfold numB at h
  simp only [Bool.and_eq_true, decide_eq_true_eq, List.all_eq_true] at h
  exact ⟨h.2.1, h.2.2, h.1⟩
theorem chk_num {l : Int} {L : List Nd} (h : numB l L = false) : chk l L = 2 := by
  unfold chk
  by_cases h1 : l < 1 ∨ 5 < l
  · rw [if_pos h1]
  · rw [if_neg h1]
    by_cases h2 : L.any (fun n => !plc l n) = true
    · rw [if_pos h2]
    · exfalso
      have : numB l L = true := by
        unfold numB
        simp only [Bool.and_eq_true, decide_eq_true_eq, List.all_eq_true]
        refine ⟨fun n hn => ?_, by omega, by omega⟩
        cases hp : plc l n with
        | true => rfl
        | false => exact absurd (List.any_eq_true.2 ⟨n, hn, by simp [hp]⟩) h2
      rw [this] at h; cases h
theorem chk_go {l : Int} {L : List Nd} (h : numB l L = true) : chk l L = if ¬ (ids L).Nodup then 10 else if L.any (fun n => decide (num n.key % P25 = 0)) = true then 15 else if bare l L then 9 else 0 := by
  obtain ⟨h1, h2, h3⟩ := numB_l h
  have h4 : ¬ L.any (fun n => !plc l n) = true := by
    intro h4
    obtain ⟨n, hn, h5⟩ := List.any_eq_true.1 h4
    rw [h3 n hn] at h5; cases h5
  unfold chk
  rw [if_neg (by omega), if_neg h4]
theorem lay_nil {l : Int} {L : List Nd} (h : numB l L = true) (k : Int) : layL L k = [] ↔ inLay L k = [] := by
  obtain ⟨_, _, h3⟩ := numB_l h
  rw [List.eq_nil_iff_forall_not_mem, List.eq_nil_iff_forall_not_mem]
  have : ∀ n, n ∈ layL L k ↔ n ∈ inLay L k := fun n => by
    rw [mem_layL]
    unfold inLay
    rw [List.mem_filter]
    simp only [decide_eq_true_eq]
    constructor
    · rintro ⟨a, b, _⟩; exact ⟨a, b⟩
    · rintro ⟨a, b⟩
      have := h3 n a
      unfold plc at this
      simp only [decide_eq_true_eq] at this
      exact ⟨a, b, this.1, this.2.1⟩
  simp only [this]
theorem dup_at {L : List Nd} {s t : Nat} (hst : s < t) (ht : t < L.length) (h : L[s].id = L[t].id) : ¬ (ids L).Nodup := by
  intro hn
  unfold ids List.Nodup at hn
  rw [List.pairwise_iff_getElem] at hn
  exact hn s t (by simp; omega) (by simp; omega) hst (by simpa using h)
theorem nodup_more {L : List Nd} {t : Nat} (ht : t < L.length) (h : (ids (L.take t)).Nodup) (hs : ∀ n ∈ L.take t, n.id ≠ L[t].id) : (ids (L.take (t + 1))).Nodup := by
  rw [List.take_succ_eq_append_getElem ht]
  unfold ids at h ⊢
  rw [List.map_append, List.nodup_append]
  refine ⟨h, by simp, fun a ha b hb => ?_⟩
  obtain ⟨n, hn, rfl⟩ := List.mem_map.1 ha
  simp at hb
  subst hb
  exact hs n hn
def DuOut (w : World) (L : List Nd) (iv : Value) (W : World) : Prop := ∃ t : Nat, t ≤ L.length ∧ iv = .int .i64 t ∧ (ids (L.take t)).Nodup ∧ Ext NoB w W
def DuIn (w : World) (L : List Nd) (t : Nat) (x : Int) (kv : Value) (W : World) : Prop := ∃ s : Nat, s ≤ t ∧ kv = .int .i64 s ∧ (∀ n ∈ L.take s, n.id ≠ x) ∧ Ext NoB w W
def ZeOut (w : World) (L : List Nd) (iv : Value) (W : World) : Prop := ∃ t : Nat, t ≤ L.length ∧ iv = .int .i64 t ∧ (∀ n ∈ L.take t, ¬ num n.key % P25 = 0) ∧ Ext NoB w W
def BaOut (w : World) (l : Int) (L : List Nd) (iv : Value) (W : World) : Prop := ∃ t : Nat, (t : Int) ≤ l ∧ iv = .int .i64 t ∧ (∀ k : Nat, k < t → layL L k ≠ []) ∧ Ext NoB w W
set_option maxHeartbeats 6400000 in
set_option maxRecDepth 100000 in
theorem refCheck14 (l : Int) (A : Option Addr) (c : Nat) (L : List Nd) (w : World) (hr : NRd w A c L) (hok : ∀ n ∈ L, NdOk n) (hlen : L.length ≤ 1000) :
    Calls Try.prog 14 #[dirv l A L.length c] w fun e w' => e = .returned (.int .i64 (chk l L)) ∧ Ext NoB w w' := by
  have h63 : c ≤ 9223372036854775807 := by have := hr.cap.2; unfold maxLen at this; omega
  have hcap := hr.cap.1
  have hb0 := heapNew w (.cells #[.int .i64 l, .slice A L.length c] 24)
  have x0 := Ext.alloc NoB w (.cells #[.int .i64 l, .slice A L.length c] 24)
  have HR := Lib.hid hr
  have HNU := Lib.hid fun W (hW : Ext NoB w W) => numbers34 l A c L W (hr.ext hW (fun _ _ _ h => h)) hlen
  have HLA := Lib.hid fun W (hW : Ext NoB w W) k => layer36 l k A c L W (hr.ext hW (fun _ _ _ h => h)) hlen
  have HOK := Lib.hid hok
  unfold dirv at HNU HLA ⊢
  clear hr hok
  go_enter Try.func14, Try.ntmps14
  go_upto_region 1 with fail
  generalize hW0 : w.alloc (.cells #[.int .i64 l, .slice A L.length c] 24) = W0 at *
  have hcl : ∀ W, Ext NoB W0 W → W.cell? ⟨w.heap.size, 0, none⟩ = some (.int .i64 l) ∧ W.cell? ⟨w.heap.size, 1, none⟩ = some (.slice A L.length c) := fun W hW => by
    have := hW.obj hb0 id
    exact ⟨by rw [cellOf this]; rfl, by rw [cellOf this]; rfl⟩
  have HCL := Lib.hid hcl
  obtain ⟨d0, d1⟩ := hcl W0 (Ext.refl _ _)
  clear hb0 hcl hW0
  cases hnb : numB l L with
  | false =>
    have HC := Lib.hid (chk_num hnb)
    rw [hnb] at HNU
    clear hnb
    go_wp2_with (go_at_call 34; (with_reducible refine (HNU.out _ x0).mono ?_); rintro e W1 ⟨rfl, x1⟩)
    go_ret
    exact ⟨by rw [HC.out]; rfl, x0.then x1⟩
  | true =>
    have HC := Lib.hid (chk_go hnb)
    have HNB := Lib.hid hnb
    obtain ⟨l1, l5, _⟩ := numB_l hnb
    rw [hnb] at HNU
    clear hnb
    go_upto_region 4 with (go_at_call 34; (with_reducible refine (HNU.out _ x0).mono ?_); rintro e W1 ⟨rfl, x1⟩)
    clear d0 d1
    go_loopw [3] (fun iv W => DuOut W0 L iv W) (fun iv _ => L.length - (intOf iv).toNat)
    case atStart => exact ⟨0, by omega, rfl, by simp [ids], x1⟩
    case round =>
      clear x1
      obtain ⟨t, ht, rfl, hnd, hx⟩ := hrel
      obtain ⟨d0, d1⟩ := HCL.out wr hx
      by_cases hlt : t < L.length
      · have k1 : (t : Int) < (L.length : Int) := by omega
        go_upto_region 7 with fail
        clear d0 d1
        have HND := Lib.hid hnd
        clear hnd
        go_loopw [4] (fun kv W => DuIn W0 L t L[t].id kv W) (fun kv _ => t - (intOf kv).toNat)
        case atStart => exact ⟨0, by omega, rfl, by simp, hx⟩
        case round =>
          clear hx
          obtain ⟨s, hs, rfl, hne, hx⟩ := hrel
          obtain ⟨d0, d1⟩ := HCL.out wr hx
          by_cases hlt2 : s < t
          · have k2 : (s : Int) < (t : Int) := by omega
            have k3 : (s : Int) < (L.length : Int) := by omega
            obtain ⟨b, o, rfl, hb, hra⟩ := (HR.out.ext (x0.then hx) (fun _ _ _ h => h)).at' t hlt
            obtain ⟨b', o', hA', _, hrs⟩ := (HR.out.ext (x0.then hx) (fun _ _ _ h => h)).at' s (by omega)
            injection hA' with hA'
            injection hA' with g1 g2
            subst g1; subst g2
            have c0 := nd_id hra
            have c1 := nd_id hrs
            have htk : L.take (s + 1) = L.take s ++ [L[s]] := by rw [List.take_succ_eq_append_getElem (by omega)]
            have hdup := dup_at hlt2 hlt
            have HDU := Lib.hid hdup
            have HTK := Lib.hid htk
            have HNE := Lib.hid hne
            clear hra hrs hdup htk hne
            generalize hLs : L[s] = ns at *
            generalize hI : L[t].id = x at *
            generalize hJ : ns.id = y at *
            have HJ := Lib.hid hJ
            clear hI hJ hLs
            by_cases hxy : y = x
            · have HD2 := Lib.hid (HDU.out hxy)
              have HC2 : Hid (chk l L = 10) := Lib.hid (by rw [HC.out, if_pos HD2.out])
              subst hxy
              go_upto_region 9 with fail
              go_region
              go_wp2_with fail
              go_ret
              exact ⟨by rw [HC2.out]; rfl, x0.then hx.andDrew⟩
            · have h2 : (x == y) = false := beq_eq_false_iff_ne.2 (fun h => hxy h.symm)
              go_upto_region 9 with fail
              go_region
              go_wp2_with fail
              refine ⟨⟨s + 1, by omega, by go_num, fun n hn => ?_, hx.andDrew⟩, by simp [intOf]; omega⟩
              rw [HTK.out] at hn
              rcases List.mem_append.1 hn with hn | hn
              · exact HNE.out n hn
              · simp at hn; subst hn; rw [HJ.out]; exact hxy
          · have k2 : ¬ (s : Int) < (t : Int) := by omega
            obtain rfl : s = t := by omega
            have hnd2 := nodup_more hlt HND.out hne
            go_wp2_with fail
            exact ⟨⟨s + 1, by omega, by go_num, hnd2, hx⟩, by simp [intOf]; omega⟩
      · have k1 : ¬ (t : Int) < (L.length : Int) := by omega
        obtain rfl : t = L.length := by omega
        rw [List.take_length] at hnd
        have hc2 : chk l L = if L.any (fun n => decide (num n.key % P25 = 0)) = true then 15 else if bare l L then 9 else 0 := by rw [HC.out, if_neg (not_not_intro hnd)]
        have HC2 := Lib.hid hc2
        clear hnd HC hc2
        go_upto_region 12 with fail
        clear d0 d1
        go_loopw [5] (fun iv W => ZeOut W0 L iv W) (fun iv _ => L.length - (intOf iv).toNat)
        case atStart => exact ⟨0, by omega, rfl, by simp, hx⟩
        case round =>
          clear hx
          obtain ⟨t, ht, rfl, hne, hx⟩ := hrel
          obtain ⟨d0, d1⟩ := HCL.out wr hx
          by_cases hlt : t < L.length
          · have k1 : (t : Int) < (L.length : Int) := by omega
            obtain ⟨b, o, rfl, hb, hra⟩ := (HR.out.ext (x0.then hx) (fun _ _ _ h => h)).at' t hlt
            have htk : L.take (t + 1) = L.take t ++ [L[t]] := by rw [List.take_succ_eq_append_getElem hlt]
            have hin : L[t] ∈ L := List.getElem_mem hlt
            generalize L[t] = nd at *
            have hz := zero35 nd.key (HOK.out nd hin).ky
            have ck := nd_key hra
            have sK : (Try.prog.info? 33).map (·.size) = some (bys nd.key).length := by rw [bys_length, nd.len]; exact Try.size33
            have HTK := Lib.hid htk
            have HNE := Lib.hid hne
            clear htk hne hra
            by_cases hzz : num nd.key % P25 = 0
            · have hc3 : chk l L = 15 := by rw [HC2.out, if_pos (List.any_eq_true.2 ⟨nd, hin, decide_eq_true hzz⟩)]
              rw [decide_eq_true hzz] at hz
              have HZ := Lib.hid hz
              have HC3 := Lib.hid hc3
              clear hz hc3 hzz
              go_wp2_with (first
                | ((with_reducible show wpList _ _ _ (⟨_, .load 33 _, _, _, _, _⟩ :: _) _ _); refine wpList_load_arrm (by rfl) 33 _ rfl b (o + t * 34 + 1) rfl (bys nd.key) _ ck Try.underlying33 rfl sK ?_)
                | (go_at_call 35; (with_reducible refine (HZ.out _).mono ?_); rintro e W2 ⟨rfl, x2⟩))
              go_ret
              exact ⟨by rw [HC3.out]; rfl, (x0.then hx).then x2⟩
            · rw [decide_eq_false hzz] at hz
              have HZ := Lib.hid hz
              have HZZ := Lib.hid hzz
              clear hz hzz
              go_wp2_with (first
                | ((with_reducible show wpList _ _ _ (⟨_, .load 33 _, _, _, _, _⟩ :: _) _ _); refine wpList_load_arrm (by rfl) 33 _ rfl b (o + t * 34 + 1) rfl (bys nd.key) _ ck Try.underlying33 rfl sK ?_)
                | (go_at_call 35; (with_reducible refine (HZ.out _).mono ?_); rintro e W2 ⟨rfl, x2⟩))
              refine ⟨⟨t + 1, by omega, by go_num, fun n hn => ?_, hx.then x2⟩, by simp [intOf]; omega⟩
              rw [HTK.out] at hn
              rcases List.mem_append.1 hn with hn | hn
              · exact HNE.out n hn
              · simp at hn; subst hn; exact HZZ.out
          · have k1 : ¬ (t : Int) < (L.length : Int) := by omega
            obtain rfl : t = L.length := by omega
            rw [List.take_length] at hne
            have hany : ¬ L.any (fun n => decide (num n.key % P25 = 0)) = true := fun h => by
              obtain ⟨n, hn, h2⟩ := List.any_eq_true.1 h
              exact hne n hn (of_decide_eq_true h2)
            have hc3 : chk l L = if bare l L then 9 else 0 := by rw [HC2.out, if_neg hany]
            have HC3 := Lib.hid hc3
            clear HC2 hc3 hany hne
            go_upto_region 17 with fail
            clear d0 d1
            go_loopw [6] (fun iv W => BaOut W0 l L iv W) (fun iv _ => (l - intOf iv).toNat)
            case atStart => exact ⟨0, by omega, rfl, fun k hk => absurd hk (by omega), hx⟩
            case round =>
              clear hx
              obtain ⟨t, ht, rfl, hne, hx⟩ := hrel
              obtain ⟨d0, d1⟩ := HCL.out wr hx
              by_cases hlt : (t : Int) < l
              · have HNE := Lib.hid hne
                clear hne
                by_cases hnil : layL L t = []
                · have hc4 : chk l L = 9 := by rw [HC3.out, if_pos ⟨t, hlt, (lay_nil HNB.out t).1 hnil⟩]
                  have HC4 := Lib.hid hc4
                  have hll : (layL L (t : Int)).length = 0 := by rw [hnil]; rfl
                  have h36 := HLA.out wr (x0.then hx) t
                  rw [hll] at h36
                  have H36 := Lib.hid h36
                  clear h36 hll hnil hc4
                  go_wp2_with (go_at_call 36; (with_reducible refine (H36.out).mono ?_); rintro e W2 ⟨A2, c2, rfl, _, x2, _⟩)
                  go_ret
                  exact ⟨by rw [HC4.out]; rfl, (x0.then hx).then x2⟩
                · have hll : ((layL L (t : Int)).length : Int) ≠ 0 := by
                    intro h
                    exact hnil (List.length_eq_zero_iff.1 (by omega))
                  have h36 := HLA.out wr (x0.then hx) t
                  have H36 := Lib.hid h36
                  have HNIL := Lib.hid hnil
                  have hb2 : (((layL L (t : Int)).length : Int) == 0) = false := beq_eq_false_iff_ne.2 hll
                  clear h36 hnil
                  generalize ((layL L (t : Int)).length) = m at *
                  go_wp2_with (go_at_call 36; (with_reducible refine (H36.out).mono ?_); rintro e W2 ⟨A2, c2, rfl, hq2, x2, _⟩; clear hq2)
                  refine ⟨⟨t + 1, by omega, by go_num, fun k hk => ?_, hx.then x2⟩, by simp [intOf]; omega⟩
                  by_cases hkt : k < t
                  · exact HNE.out k hkt
                  · obtain rfl : k = t := by omega
                    exact HNIL.out
              · have hnb : ¬ bare l L := by
                  rintro ⟨k, hk, h⟩
                  exact hne k (by omega) ((lay_nil HNB.out k).2 h)
                have hc4 : chk l L = 0 := by rw [HC3.out, if_neg hnb]
                have HC4 := Lib.hid hc4
                clear hc4 hnb hne
                go_wp2_with fail
                go_ret
                exact ⟨by rw [HC4.out]; rfl, x0.then hx⟩
set_option maxHeartbeats 3200000 in
theorem refDraws16 (l : Int) (A : Option Addr) (c : Nat) (L : List Nd) (w : World) (hr : NRd w A c L) (hok : ∀ n ∈ L, NdOk n) (hlen : L.length ≤ 1000) :
    Calls Try.prog 16 #[dirv l A L.length c] w fun e w' => e = .returned (.int .i64 (drw l L)) ∧ Ext NoB w w' := by
  have hb0 := heapNew w (.cells #[.int .i64 l, .slice A L.length c] 24)
  have x0 := Ext.alloc NoB w (.cells #[.int .i64 l, .slice A L.length c] 24)
  have hck := refCheck14 l A c L (w.alloc (.cells #[.int .i64 l, .slice A L.length c] 24)) (hr.ext x0 (fun _ _ _ h => h)) hok hlen
  have HCK := Lib.hid hck
  have hcl : ∀ W, Ext NoB (w.alloc (.cells #[.int .i64 l, .slice A L.length c] 24)) W → W.cell? ⟨w.heap.size, 0, none⟩ = some (.int .i64 l) ∧ W.cell? ⟨w.heap.size, 1, none⟩ = some (.slice A L.length c) := fun W hW => by
    have := hW.obj hb0 id
    exact ⟨by rw [cellOf this]; rfl, by rw [cellOf this]; rfl⟩
  have HCL := Lib.hid hcl
  obtain ⟨d0, d1⟩ := hcl _ (Ext.refl _ _)
  unfold dirv at HCK ⊢
  clear hr hck hcl hb0
  go_enter Try.func16, Try.ntmps16
  go_upto_region 1 with fail
  generalize w.alloc (.cells #[.int .i64 l, .slice A L.length c] 24) = W0 at *
  by_cases hE : chk l L = 0
  · have HD : Hid (drw l L = 2 * (l - 1)) := Lib.hid (by unfold drw; rw [if_pos hE])
    obtain ⟨l1, l5⟩ := chk_lay hE
    rw [hE] at HCK
    clear hE
    go_wp2_with (go_at_call 14; (with_reducible refine HCK.out.mono ?_); rintro e W1 ⟨rfl, x1⟩; have dd := (HCL.out W1 x1).1)
    go_ret
    exact ⟨by rw [HD.out]; rfl, x0.then x1⟩
  · have HD : Hid (drw l L = 0) := Lib.hid (by unfold drw; rw [if_neg hE])
    have hb : (chk l L == 0) = false := beq_eq_false_iff_ne.2 hE
    generalize chk l L = q at *
    go_wp2_with (go_at_call 14; (with_reducible refine HCK.out.mono ?_); rintro e W1 ⟨rfl, x1⟩; have dd := (HCL.out W1 x1).1)
    go_ret
    exact ⟨by rw [HD.out]; rfl, x0.then x1⟩
end Go.Proofs.Ytdibjnlmeiikmaa
