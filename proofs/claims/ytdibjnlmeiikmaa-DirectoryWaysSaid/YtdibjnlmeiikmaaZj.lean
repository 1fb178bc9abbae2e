/-
  The document's numbers and layer.
-/
import Derived.Test.YtdibjnlmeiikmaaZi
set_option linter.unusedVariables false
set_option linter.unusedSimpArgs false
namespace Go.Proofs.Ytdibjnlmeiikmaa
open Go.RowKit Go.Proofs

def numB (l : Int) (L : List Nd) : Bool := L.all (plc l) && (decide (1 ≤ l) && decide (l ≤ 5))
set_option maxHeartbeats 6400000 in
set_option maxRecDepth 100000 in
theorem numbers34 (l : Int) (A : Option Addr) (c : Nat) (L : List Nd) (w : World) (hr : NRd w A c L) (hlen : L.length ≤ 1000) :
    Calls Try.prog 34 #[dirv l A L.length c] w fun e w' => e = .returned (.bool (numB l L)) ∧ Ext NoB w w' := by
  have h63 : c ≤ 9223372036854775807 := by have := hr.cap.2; unfold maxLen at this; omega
  have hcap := hr.cap.1
  have hb0 := heapNew w (.cells #[.int .i64 l, .slice A L.length c] 24)
  have x0 := Ext.alloc NoB w (.cells #[.int .i64 l, .slice A L.length c] 24)
  have HR := Lib.hid hr
  unfold dirv
  clear hr
  go_enter Try.func34, Try.ntmps34
  go_upto_region 1 with fail
  generalize hW0 : w.alloc (.cells #[.int .i64 l, .slice A L.length c] 24) = W0 at *
  have hcl : ∀ W, Ext NoB W0 W → W.cell? ⟨w.heap.size, 0, none⟩ = some (.int .i64 l) ∧ W.cell? ⟨w.heap.size, 1, none⟩ = some (.slice A L.length c) := fun W hW => by
    have := hW.obj hb0 id
    exact ⟨by rw [cellOf this]; rfl, by rw [cellOf this]; rfl⟩
  have HCL := Lib.hid hcl
  clear hb0 hcl hW0
  go_upto_region 2 with fail
  go_loopw [3] (fun iv W => ∃ t : Nat, t ≤ L.length ∧ iv = .int .i64 t ∧ (∀ n ∈ L.take t, plc l n = true) ∧ Ext NoB W0 W) (fun iv _ => L.length - (intOf iv).toNat)
  case atStart => exact ⟨0, by omega, rfl, by simp, Ext.refl _ _⟩
  case round =>
    obtain ⟨t, ht, rfl, hall, hx⟩ := hrel
    obtain ⟨d0, d1⟩ := HCL.out wr hx
    by_cases hlt : t < L.length
    · have k1 : (t : Int) < (L.length : Int) := by omega
      obtain ⟨b, o, rfl, hb, hra⟩ := (HR.out.ext (x0.then hx) (fun _ _ _ h => h)).at' t hlt
      have htk : L.take (t + 1) = L.take t ++ [L[t]] := by rw [List.take_succ_eq_append_getElem hlt]
      have hin : L[t] ∈ L := List.getElem_mem hlt
      have hN : (Try.prog.info? 35).map (·.size) = some (nc L[t]).length := by rw [nc_len]; kernel_rfl
      generalize L[t] = nd at *
      obtain ⟨V, hV⟩ : ∃ V, V = (nc nd).toArray := ⟨_, rfl⟩
      have lV : V.size = 34 := by rw [hV]; simp [nc_len]
      have sV : (Try.prog.info? 35).map (·.size) = some V.size := by rw [lV]; kernel_rfl
      have oV : V.all (·.oneCell') = true := by rw [hV]; exact all_oneCell_toArray (nc_one nd)
      have hbV : (wr.alloc (.cells V 35)).heap[wr.heap.size]? = some (.cells (nc nd).toArray 35 (0, 0)) := by rw [← hV]; exact heapNew _ _
      have c0 := nd_id (nd_box hbV)
      have c33 := nd_lay (nd_box hbV)
      simp only [Nat.zero_add] at c33
      obtain ⟨e0, e1⟩ := HCL.out _ (hx.andAlloc (.cells V 35))
      have hx2 := hx.andAlloc (.cells V 35)
      have HVV := Lib.hid hV
      have HRA := Lib.hid hra
      have HTK := Lib.hid htk
      have hbad : plc l nd = false → numB l L = false := fun h => by
        unfold numB
        have : L.all (plc l) = false := by
          rw [Bool.eq_false_iff]
          intro ha
          rw [List.all_eq_true] at ha
          rw [ha nd hin] at h
          exact absurd h (by decide)
        rw [this]; rfl
      have HBAD := Lib.hid hbad
      have HALL := Lib.hid hall
      have HPLC : Hid (plc l nd = decide (0 ≤ nd.id ∧ nd.id < 16 ∧ 0 ≤ nd.lay ∧ nd.lay < l)) := Lib.hid rfl
      clear hV hra hbV htk hx hall hbad hin
      go_upto_region 5 with (first
        | ((with_reducible show wpList _ _ _ (⟨_, .load 35 _, _, _, _, _⟩ :: _) _ _); refine wpList_load_arrm (by rfl) 35 _ rfl b (o + t * 34) rfl (nc nd) _ HRA.out Try.underlying35 rfl hN ?_)
        | ((with_reducible show wpList _ _ _ (⟨_, .store 35 _ _, _, _, _, _⟩ :: _) _ _); refine wpList_store_new rfl 35 _ _ rfl wr.heap.size V rfl (by rw [HVV.out]; rfl) rfl (by rw [lV]; rfl) sV oV ?_))
      clear d0 d1
      generalize wr.alloc (.cells V 35) = W3 at *
      generalize hI : nd.id = id' at *
      generalize hY : nd.lay = ly at *
      have HI := Lib.hid hI
      have HY := Lib.hid hY
      clear hI hY
      by_cases h1 : id' < 0
      · go_wp2_with fail
        go_ret
        exact ⟨by rw [HBAD.out (by rw [HPLC.out]; exact decide_eq_false (by omega))]; rfl, x0.then hx2⟩
      · by_cases h2 : 15 < id'
        · go_wp2_with fail
          go_ret
          exact ⟨by rw [HBAD.out (by rw [HPLC.out]; exact decide_eq_false (by omega))]; rfl, x0.then hx2⟩
        · by_cases h3 : ly < 0
          · go_wp2_with fail
            go_ret
            exact ⟨by rw [HBAD.out (by rw [HPLC.out]; exact decide_eq_false (by omega))]; rfl, x0.then hx2⟩
          · by_cases h4 : l ≤ ly
            · go_wp2_with fail
              go_ret
              exact ⟨by rw [HBAD.out (by rw [HPLC.out]; exact decide_eq_false (by omega))]; rfl, x0.then hx2⟩
            · have hp : plc l nd = true := by rw [HPLC.out]; exact decide_eq_true (by omega)
              have HP := Lib.hid hp
              clear hp
              go_wp2_with fail
              refine ⟨⟨t + 1, by omega, by go_num, fun n hn => ?_, hx2⟩, by simp [intOf]; omega⟩
              rw [HTK.out] at hn
              rcases List.mem_append.1 hn with hn | hn
              · exact HALL.out n hn
              · simp at hn; subst hn; exact HP.out
    · have k1 : ¬ (t : Int) < (L.length : Int) := by omega
      obtain rfl : t = L.length := by omega
      rw [List.take_length] at hall
      have hA : L.all (plc l) = true := List.all_eq_true.2 hall
      have HE : Hid (numB l L = (decide (1 ≤ l) && decide (l ≤ 5))) := Lib.hid (by unfold numB; rw [hA]; rfl)
      clear hA hall
      by_cases h1 : 1 ≤ l
      · go_wp2_with fail
        go_ret
        exact ⟨by rw [HE.out]; simp [h1], x0.then hx⟩
      · go_wp2_with fail
        go_ret
        exact ⟨by rw [HE.out, decide_eq_false (show ¬ 1 ≤ l by omega)]; rfl, x0.then hx⟩
def layP (L : List Nd) (l : Int) (q : Nat) : List Nd := (List.range q).flatMap fun (q : Nat) => L.filter (fun n => decide (n.id = (q : Int) ∧ n.lay = l))
theorem layP_succ (L : List Nd) (l : Int) (q : Nat) : layP L l (q + 1) = layP L l q ++ L.filter (fun n => decide (n.id = (q : Int) ∧ n.lay = l)) := by
  unfold layP
  rw [List.range_succ, List.flatMap_append]
  simp
theorem layP_len (L : List Nd) (l : Int) : ∀ q, (layP L l q).length ≤ q * L.length
  | 0 => by simp [layP]
  | q + 1 => by
    rw [layP_succ, List.length_append, Nat.add_mul]
    have := layP_len L l q
    have := List.length_filter_le (fun n : Nd => decide (n.id = (q : Int) ∧ n.lay = l)) L
    omega
theorem layP_16 (L : List Nd) (l : Int) : layP L l 16 = layL L l := rfl
theorem info35 : (Try.prog.info? 35).map (fun i => (i.zero, i.size, i.bytes)) = some (some (.agg (nc default).toArray), 34, 48) := by kernel_rfl
/-- What layer has made. -/
def LaRel (w : World) (M : List Nd) (ov : Value) (W : World) : Prop :=
  ∃ (A' : Option Addr) (c' : Nat), ov = .slice A' M.length c' ∧ QRow W 35 34 (.slice A' M.length c') M.length (flatN M) ∧ Ext NoB w W ∧ ∀ g, (Value.slice A' 0 0).ownBlock = some g → w.heap.size ≤ g
def LaOut (w : World) (L : List Nd) (l : Int) (ov qv : Value) (W : World) : Prop := ∃ q : Nat, q ≤ 16 ∧ qv = .int .i64 q ∧ LaRel w (layP L l q) ov W
def LaIn (w : World) (L : List Nd) (l : Int) (q : Nat) (ov iv : Value) (W : World) : Prop := ∃ t : Nat, t ≤ L.length ∧ iv = .int .i64 t ∧ LaRel w (layP L l q ++ (L.take t).filter (fun n => decide (n.id = (q : Int) ∧ n.lay = l))) ov W
set_option maxHeartbeats 6400000 in
set_option maxRecDepth 100000 in
theorem layer36 (l0 l : Int) (A : Option Addr) (c : Nat) (L : List Nd) (w : World) (hr : NRd w A c L) (hlen : L.length ≤ 1000) :
    Calls Try.prog 36 #[dirv l0 A L.length c, .int .i64 l] w fun e w' => ∃ A' c', e = .returned (.slice A' (layL L l).length c') ∧ QRow w' 35 34 (.slice A' (layL L l).length c') (layL L l).length (flatN (layL L l)) ∧ Ext NoB w w' ∧ ∀ g, (Value.slice A' 0 0).ownBlock = some g → w.heap.size ≤ g := by
  have h63 : c ≤ 9223372036854775807 := by have := hr.cap.2; unfold maxLen at this; omega
  have hcap := hr.cap.1
  have hb0 := heapNew w (.cells #[.int .i64 l0, .slice A L.length c] 24)
  have x0 := Ext.alloc NoB w (.cells #[.int .i64 l0, .slice A L.length c] 24)
  have HR := Lib.hid hr
  unfold dirv
  clear hr
  go_enter Try.func36, Try.ntmps36
  go_upto_region 1 with fail
  generalize hW0 : w.alloc (.cells #[.int .i64 l0, .slice A L.length c] 24) = W0 at *
  have hcl : ∀ W, Ext NoB w W → Ext NoB W0 W → W.cell? ⟨w.heap.size, 1, none⟩ = some (.slice A L.length c) := fun W _ hW => by
    have := hW.obj hb0 id
    rw [cellOf this]; rfl
  have hz : w.heap.size < W0.heap.size := by rw [← hW0]; simp
  have HCL := Lib.hid hcl
  clear hb0 hcl hW0
  go_upto_region 3 with fail
  go_loopw [5, 6] (fun ov qv W => LaOut W0 L l ov qv W) (fun _ qv _ => 16 - (intOf qv).toNat)
  case atStart => exact ⟨0, by omega, rfl, none, 0, rfl, QRow.nil _ _ _, Ext.refl _ _, fun g hg => by cases hg⟩
  case round =>
    obtain ⟨q, hq, rfl, hla⟩ := hrel
    by_cases hlt : q < 16
    · have k1 : (q : Int) < 16 := by omega
      have HLA := Lib.hid hla
      clear hla
      go_upto_region 6 with fail
      go_loopw [5, 7] (fun ov iv W => LaIn W0 L l q ov iv W) (fun _ iv _ => L.length - (intOf iv).toNat)
      case atStart => exact ⟨0, by omega, rfl, by simpa using HLA.out⟩
      case round =>
        clear HLA
        obtain ⟨t, ht, rfl, A', c', rfl, hrow, hx, hown⟩ := hrel
        have d1 := HCL.out wr (x0.then hx) hx
        by_cases hlt2 : t < L.length
        · have k2 : (t : Int) < (L.length : Int) := by omega
          obtain ⟨b, o, rfl, hb, hra⟩ := (HR.out.ext (x0.then hx) (fun _ _ _ h => h)).at' t hlt2
          have htk : L.take (t + 1) = L.take t ++ [L[t]] := by rw [List.take_succ_eq_append_getElem hlt2]
          have hN : (Try.prog.info? 35).map (·.size) = some (nc L[t]).length := by rw [nc_len]; kernel_rfl
          have hML : (layP L l q ++ (L.take t).filter (fun n => decide (n.id = (q : Int) ∧ n.lay = l))).length ≤ 16000 := by
            have h1 := layP_len L l q
            have h2 := List.length_filter_le (fun n : Nd => decide (n.id = (q : Int) ∧ n.lay = l)) (L.take t)
            have h3 : q * L.length ≤ 15 * 1000 := Nat.mul_le_mul (by omega) hlen
            have h4 : (L.take t).length ≤ 1000 := by rw [List.length_take]; omega
            rw [List.length_append]
            omega
          generalize L[t] = nd at *
          have c0 := nd_id hra
          have c33 := nd_lay hra
          by_cases hid : nd.id = (q : Int) ∧ nd.lay = l
          · have hfl : (L.take (t + 1)).filter (fun n => decide (n.id = (q : Int) ∧ n.lay = l)) = (L.take t).filter (fun n => decide (n.id = (q : Int) ∧ n.lay = l)) ++ [nd] := by
              rw [htk, List.filter_append]
              simp [hid]
            have hM : layP L l q ++ (L.take (t + 1)).filter (fun n => decide (n.id = (q : Int) ∧ n.lay = l)) = (layP L l q ++ (L.take t).filter (fun n => decide (n.id = (q : Int) ∧ n.lay = l))) ++ [nd] := by rw [hfl, List.append_assoc]
            generalize layP L l q ++ (L.take t).filter (fun n => decide (n.id = (q : Int) ∧ n.lay = l)) = M at *
            rw [hid.1] at c0
            rw [hid.2] at c33
            have hnew := heapNew wr (.cells (nc nd).toArray 35)
            have x4 := Ext.alloc NoB wr (.cells (nc nd).toArray 35)
            have HN4 := Lib.hid hnew
            have HQ9 := Lib.hid (hrow.ext x4 (fun _ _ h => h))
            have HX4 := Lib.hid (And.intro x4 hx)
            have HM := Lib.hid hM
            have HOWN := Lib.hid hown
            have HRA := Lib.hid hra
            clear hid hfl hM htk hnew x4 hrow hown hra hx
            go_wp2_with (first
              | ((with_reducible show wpList _ _ _ (⟨_, .load 35 _, _, _, _, _⟩ :: _) _ _); refine wpList_load_arrm (by rfl) 35 _ rfl b (o + t * 34) rfl (nc nd) _ HRA.out Try.underlying35 rfl hN ?_)
              | ((with_reducible show wpList _ _ _ (⟨_, .buildSlice 22 _ _, _, _, _, _⟩ :: _) _ _); refine wpList_slice35 rfl _ rfl (nc nd) (nc_len nd) rfl ?_)
              | (at_builtin; refine wpList_append_q rfl _ _ 22 rfl 35 34 48 (.agg (nc default).toArray) Try.underlying22 info35 (by rfl) (by decide) (.slice A' M.length c') M.length _ rfl HQ9.out ⟨wr.heap.size, 0, none⟩ 1 1 (nc nd) rfl (by rw [nc_len]) (fun j u hj => by rw [add_none]; have := nd_box HN4.out j u hj; rw [Nat.zero_add] at this ⊢; exact this) (nc_one nd) (by omega) (by unfold maxLen; omega) (by omega) ?_; intro g3 o3 c3 W9 hq10 x10 hg10; have HH := Lib.hid (And.intro hq10 (And.intro x10 hg10)); clear hq10 x10 hg10))
            obtain ⟨hq10, x10, hg10⟩ := HH.out
            have hgo : ∀ g, (Value.slice A' M.length c').ownBlock = some g → W0.heap.size ≤ g := fun g hg => HOWN.out g (by rw [own_sl A' 0 0 M.length c']; exact hg)
            have hown3 : ∀ g, (Value.slice (some ⟨g3, o3, none⟩) 0 0).ownBlock = some g → W0.heap.size ≤ g := fun g hg => by
              have e : g3 = g := by simpa [Value.ownBlock] using hg
              rcases hg10 with h | h
              · exact hgo g (e ▸ h)
              · have h1 := HX4.out.1.size
                have h3 := HX4.out.2.size
                omega
            have hEND : LaIn W0 L l q (.slice (some ⟨g3, o3, none⟩) (M.length + 1) c3) (.int .i64 ((t + 1 : Nat) : Int)) W9 := by
              refine ⟨t + 1, by omega, rfl, some ⟨g3, o3, none⟩, c3, ?_, ?_, ?_, hown3⟩
              · rw [HM.out, List.length_append]; rfl
              · rw [HM.out, List.length_append, flatN_append]
                have : flatN [nd] = nc nd := by simp [flatN]
                rw [this]; exact hq10
              · exact (HX4.out.2.then HX4.out.1).trans x10 (fun _ _ h => h) (fun i hi hf => by have := hgo i hf; omega)
            exact ⟨by simpa using hEND, by simp [intOf]; omega⟩
          · have hfl : (L.take (t + 1)).filter (fun n => decide (n.id = (q : Int) ∧ n.lay = l)) = (L.take t).filter (fun n => decide (n.id = (q : Int) ∧ n.lay = l)) := by
              rw [htk, List.filter_append]
              simp [hid]
            have hEND : LaIn W0 L l q (.slice A' (layP L l q ++ (L.take t).filter (fun n => decide (n.id = (q : Int) ∧ n.lay = l))).length c') (.int .i64 ((t + 1 : Nat) : Int)) wr := by
              refine ⟨t + 1, by omega, rfl, A', c', by rw [hfl], by rw [hfl]; exact hrow, hx, hown⟩
            have HEND := Lib.hid hEND
            generalize (layP L l q ++ (L.take t).filter (fun n => decide (n.id = (q : Int) ∧ n.lay = l))).length = mm at *
            generalize hI : nd.id = id' at *
            generalize hY : nd.lay = ly at *
            clear hrow hEND hfl htk hra hI hY
            by_cases h1 : id' = (q : Int)
            · have h2 : (ly == l) = false := beq_eq_false_iff_ne.2 (fun h => hid ⟨h1, h⟩)
              clear hid
              subst h1
              go_wp2_with fail
              exact ⟨by simpa using HEND.out, by simp [intOf]; omega⟩
            · have h2 : (id' == (q : Int)) = false := beq_eq_false_iff_ne.2 h1
              clear hid
              go_wp2_with fail
              exact ⟨by simpa using HEND.out, by simp [intOf]; omega⟩
        · have k2 : ¬ (t : Int) < (L.length : Int) := by omega
          obtain rfl : t = L.length := by omega
          rw [List.take_length, ← layP_succ] at *
          have hEND : LaOut W0 L l (.slice A' (layP L l (q + 1)).length c') (.int .i64 ((q + 1 : Nat) : Int)) wr := ⟨q + 1, by omega, rfl, A', c', rfl, hrow, hx, hown⟩
          have HEND := Lib.hid hEND
          clear hEND hrow
          go_wp2_with fail
          exact ⟨by simpa using HEND.out, by simp [intOf]; omega⟩
    · have k1 : ¬ (q : Int) < 16 := by omega
      obtain rfl : q = 16 := by omega
      obtain ⟨A', c', rfl, hrow, hx, hown⟩ := hla
      rw [layP_16] at *
      go_wp2_with fail
      go_ret
      exact ⟨A', c', rfl, hrow, x0.then hx, fun g hg => by have := hown g hg; omega⟩
end Go.Proofs.Ytdibjnlmeiikmaa
