/-
  The document's way.
-/
import Derived.Test.YtdibjnlmeiikmaaZr
set_option linter.unusedVariables false
set_option linter.unusedSimpArgs false
namespace Go.Proofs.Ytdibjnlmeiikmaa
open Go.RowKit Go.Proofs

theorem idx_before {pv : Int} : ∀ (L : List Nd) (k i : Nat), idxF (prv pv) L k = ((k + i : Nat) : Int) → ∀ j (hj : j < L.length), j < i → L[j].id ≠ pv
  | [], _, _, _, j, hj, _ => absurd hj (by simp)
  | m :: L, k, i, h, j, hj, hji => by
    unfold idxF at h
    by_cases hp : prv pv m = true
    · rw [if_pos hp] at h; omega
    · rw [if_neg hp] at h
      cases j with
      | zero => intro he; exact hp (decide_eq_true he)
      | succ j => exact idx_before L (k + 1) (i - 1) (by rw [h]; congr 1; omega) j (by simpa using hj) (by omega)
def WyRel (w : World) (K : Nat) (L : List Nd) (D : List Int) (ov iv : Value) (W : World) : Prop :=
  ∃ (t : Nat) (A' : Option Addr) (c' : Nat), t + 1 ≤ K ∧ iv = .int .i64 t ∧ ov = .slice A' t c' ∧ QRow W 35 34 (.slice A' t c') t (flatN ((List.range t).map (pickN L D))) ∧ Ext NoB w W ∧ ∀ g, (Value.slice A' 0 0).ownBlock = some g → w.heap.size ≤ g
def WsRel (w : World) (i0 : Nat) (iv : Value) (W : World) : Prop := ∃ i : Nat, i ≤ i0 ∧ iv = .int .i64 i ∧ Ext NoB w W
set_option maxHeartbeats 6400000 in
set_option maxRecDepth 100000 in
theorem way39 (K : Nat) (pv : Int) (A DA : Option Addr) (c dc i0 : Nat) (L : List Nd) (D : List Int) (w : World) (hr : NRd w A c L) (hlen : L.length ≤ 1000) (hE : chk (K : Int) L = 0)
    (hI : idxF (prv pv) (layL L ((K : Int) - 1)) 0 = (i0 : Int)) (hi0 : i0 < (layL L ((K : Int) - 1)).length) (hS : ¬ (D.length : Int) < 2 * ((K : Int) - 1)) (hD : Dr w DA dc D) (e : Nd) (he : e = (layL L ((K : Int) - 1))[i0]) :
    Calls Try.prog 39 #[dirv (K : Int) A L.length c, .int .i64 pv, .slice DA D.length dc] w fun e' w' => ∃ A' c', e' = .returned (.tuple #[.slice A' K c', .bool true]) ∧ QRow w' 35 34 (.slice A' K c') K (flatN ((List.range K).map (nodeAt K L D e))) ∧ Ext NoB w w' := by
  obtain ⟨l1, l5⟩ := chk_lay hE
  have hg := chk_good hE
  have HG := Lib.hid hg
  have HD := Lib.hid hD
  have hdc := hD.cap
  have hb0 := heapNew w (.cells #[.int .i64 (K : Int), .slice A L.length c] 24)
  have x0 := Ext.alloc NoB w (.cells #[.int .i64 (K : Int), .slice A L.length c] 24)
  have HLA := Lib.hid fun W (hW : Ext NoB w W) k => layer36 (K : Int) k A c L W (hr.ext hW (fun _ _ _ h => h)) hlen
  have hcl : ∀ W, Ext NoB (w.alloc (.cells #[.int .i64 (K : Int), .slice A L.length c] 24)) W → W.cell? ⟨w.heap.size, 0, none⟩ = some (.int .i64 (K : Int)) ∧ W.cell? ⟨w.heap.size, 1, none⟩ = some (.slice A L.length c) := fun W hW => by
    have := hW.obj hb0 id
    exact ⟨by rw [cellOf this]; rfl, by rw [cellOf this]; rfl⟩
  have HCL := Lib.hid hcl
  unfold dirv at HLA ⊢
  clear hr hcl hb0 hE hg hD
  go_enter Try.func39, Try.ntmps39
  go_upto_region 1 with fail
  generalize hW0 : w.alloc (.cells #[.int .i64 (K : Int), .slice A L.length c] 24) = W0 at *
  have hz : w.heap.size < W0.heap.size := by rw [← hW0]; simp
  clear hW0
  go_upto_region 3 with fail
  have hwK := IntWalk.i64_in ((K : Int) - 1) (by omega)
  go_loopw [8, 9] (fun ov iv W => WyRel W0 K L D ov iv W) (fun _ iv _ => K - (intOf iv).toNat)
  case atStart => exact ⟨0, none, 0, by omega, rfl, rfl, QRow.nil _ _ _, Ext.refl _ _, fun g hg => by cases hg⟩
  case round =>
    obtain ⟨t, A', c', ht, rfl, rfl, hrow, hx, hown⟩ := hrel
    obtain ⟨d0, d1⟩ := HCL.out wr hx
    by_cases hlt : (t : Int) < (K : Int) - 1
    · have hxw := x0.then hx
      have hlt2 := HLA.out _ hxw (t : Int)
      obtain ⟨bd, od, hDA, hbd, hd1, hd2, hd3⟩ := (HD.out.ext hxw).at' (2 * t) (by omega)
      subst hDA
      have hpl : 0 < (layL L (t : Int)).length := by
        have hf := HG.out.full t (by omega)
        have hp := (layL_perm HG.out (t : Int)).length_eq
        have := List.length_pos_iff.2 hf
        omega
      have hll2 := layL_1000 HG.out (t : Int)
      have hpk : pickN L D t = (layL L (t : Int)).getD ((D.getD (2 * t) 0).toNat % (layL L (t : Int)).length) default := rfl
      obtain ⟨q, hq⟩ : ∃ q, q = (D.getD (2 * t) 0).toNat % (layL L (t : Int)).length := ⟨_, rfl⟩
      have hqr : (D.getD (2 * t) 0) % ((layL L (t : Int)).length : Int) = (q : Int) := by
        obtain ⟨z, hz⟩ : ∃ z : Nat, D.getD (2 * t) 0 = z := ⟨(D.getD (2 * t) 0).toNat, by omega⟩
        rw [hq, hz, Int.toNat_natCast]
        simp
      have hql : q < (layL L (t : Int)).length := by rw [hq]; exact Nat.mod_lt _ hpl
      rw [← hq] at hpk
      have hpe : pickN L D t = (layL L (t : Int))[q] := by rw [hpk]; simp [List.getD_eq_getElem?_getD, List.getElem?_eq_getElem hql]
      have hmr : (List.range (t + 1)).map (pickN L D) = (List.range t).map (pickN L D) ++ [pickN L D t] := by rw [List.range_succ, List.map_append]; rfl
      generalize D.getD (2 * t) 0 = dx at *
      have HLT := Lib.hid hlt2
      have HQE := Lib.hid hpe
      have HROW := Lib.hid hrow
      have HMR := Lib.hid hmr
      have HOWN := Lib.hid hown
      have hw2 := IntWalk.i64_in (2 * (t : Int)) (by omega)
      have hwx := IntWalk.i64_in dx (by omega)
      have t1 : 2 * (t : Int) < (D.length : Int) := by omega
      have t2 : (2 * (t : Int)).toNat = 2 * t := by omega
      have t3 : 0 ≤ 2 * (t : Int) := by omega
      have hl0 : (((layL L (t : Int)).length : Int) == 0) = false := beq_eq_false_iff_ne.2 (by omega)
      clear hlt2 hq hpk hpe hrow hmr hown
      go_upto_region 6 with (go_at_call 36; (with_reducible refine HLT.out.mono ?_); rintro e' W6 ⟨A6, c6, rfl, hr6, x6, hn6⟩)
      have hd7 := x6.cell hd1 id
      have hrd6 := rd35 hr6
      obtain ⟨b6, o6, hA6, hb6, hra6⟩ := hrd6.at' q hql
      have hc6 := hrd6.cap
      have h636 : c6 ≤ 9223372036854775807 := by have := hc6.2; unfold maxLen at this; omega
      rw [← HQE.out] at hra6
      subst hA6
      have q1 : (q : Int) < ((layL L (t : Int)).length : Int) := by omega
      have q2 : ((layL L (t : Int)).length : Int) ≤ (c6 : Int) := by have := hc6.1; omega
      have hNp : (Try.prog.info? 35).map (·.size) = some (nc (pickN L D t)).length := by rw [nc_len]; kernel_rfl
      generalize pickN L D t = nd at *
      have hnew := heapNew W6 (.cells (nc nd).toArray 35)
      have x4 := Ext.alloc NoB W6 (.cells (nc nd).toArray 35)
      have HN4 := Lib.hid hnew
      have HQ9 := Lib.hid ((HROW.out.ext x6 (fun _ _ h => h)).ext x4 (fun _ _ h => h))
      have HX4 := Lib.hid ((hx.then x6).then x4)
      have HRA := Lib.hid hra6
      clear hnew x4 hra6 hr6 hrd6 hc6 hn6 d0 d1 hd1 hx x6
      go_wp2_with (first
        | ((with_reducible show wpList _ _ _ (⟨_, .load 35 _, _, _, _, _⟩ :: _) _ _); refine wpList_load_arrm (by rfl) 35 _ rfl b6 (o6 + q * 34) rfl (nc nd) _ HRA.out Try.underlying35 rfl hNp ?_)
        | ((with_reducible show wpList _ _ _ (⟨_, .buildSlice 22 _ _, _, _, _, _⟩ :: _) _ _); refine wpList_slice35 rfl _ rfl (nc nd) (nc_len nd) rfl ?_)
        | (at_builtin; refine wpList_append_q rfl _ _ 22 rfl 35 34 48 (.agg (nc default).toArray) Try.underlying22 info35 (by rfl) (by decide) (.slice A' t c') t _ rfl HQ9.out ⟨W6.heap.size, 0, none⟩ 1 1 (nc nd) rfl (by rw [nc_len]) (fun j u hj => by rw [add_none]; have := nd_box HN4.out j u hj; rw [Nat.zero_add] at this ⊢; exact this) (nc_one nd) (by omega) (by unfold maxLen; omega) (by omega) ?_; intro g3 o3 c3 W9 hq10 x10 hg10; have HH := Lib.hid (And.intro hq10 (And.intro x10 hg10)); clear hq10 x10 hg10))
      obtain ⟨hq10, x10, hg10⟩ := HH.out
      have hgo : ∀ g, (Value.slice A' t c').ownBlock = some g → W0.heap.size ≤ g := fun g hg => HOWN.out g (by rw [own_sl A' 0 0 t c']; exact hg)
      have hown3 : ∀ g, (Value.slice (some ⟨g3, o3, none⟩) 0 0).ownBlock = some g → W0.heap.size ≤ g := fun g hg => by
        have e : g3 = g := by simpa [Value.ownBlock] using hg
        rcases hg10 with h | h
        · exact hgo g (e ▸ h)
        · have h1 := HX4.out.size
          omega
      have hEND : WyRel W0 K L D (.slice (some ⟨g3, o3, none⟩) (t + 1) c3) (.int .i64 ((t + 1 : Nat) : Int)) W9 := by
        refine ⟨t + 1, some ⟨g3, o3, none⟩, c3, by omega, rfl, rfl, ?_, ?_, hown3⟩
        · rw [HMR.out, flatN_append]
          have : flatN [nd] = nc nd := by simp [flatN]
          rw [this]; exact hq10
        · exact HX4.out.trans x10 (fun _ _ h => h) (fun i hi hf => by have := hgo i hf; omega)
      exact ⟨by simpa using hEND, by simp [intOf]; omega⟩
    · have htK : t + 1 = K := by omega
      have hlay := HLA.out _ (x0.then hx) ((K : Int) - 1)
      have HLY := Lib.hid hlay
      have HROW := Lib.hid hrow
      have HOWN := Lib.hid hown
      have hbf := idx_before (pv := pv) (layL L ((K : Int) - 1)) 0 i0 (by rw [Nat.zero_add]; exact hI)
      have hhit := idx_hit (pv := pv) (layL L ((K : Int) - 1)) 0 i0 hi0 (by rw [Nat.zero_add]; exact hI)
      rw [← he] at hhit
      have hll := layL_1000 HG.out ((K : Int) - 1)
      have hmr : (List.range K).map (nodeAt K L D e) = (List.range t).map (pickN L D) ++ [e] := by
        rw [← htK, List.range_succ, List.map_append]
        congr 1
        · apply List.map_congr_left
          intro i hi
          have := List.mem_range.1 hi
          unfold nodeAt
          rw [if_neg (by omega)]
        · simp only [List.map_cons, List.map_nil]
          unfold nodeAt
          rw [if_pos rfl]
      have HMR := Lib.hid hmr
      have HHE := Lib.hid he
      have HX := Lib.hid hx
      clear hlay hrow hown hmr hI he
      go_upto_region 9 with (go_at_call 36; (with_reducible refine HLY.out.mono ?_); rintro e' W6 ⟨A6, c6, rfl, hr6, x6, hn6⟩)
      have HRD := Lib.hid (rd35 hr6)
      have hc6 := HRD.out.cap
      have h636 : c6 ≤ 9223372036854775807 := by have := hc6.2; unfold maxLen at this; omega
      have hcap6 := hc6.1
      have HR6 := Lib.hid (HROW.out.ext x6 (fun _ _ h => h))
      have HX6 := Lib.hid x6
      generalize layL L ((K : Int) - 1) = M at *
      clear hr6 hn6 hc6 d0 d1 x6
      go_loopw [12] (fun iv W => WsRel W6 i0 iv W) (fun iv _ => i0 - (intOf iv).toNat)
      case atStart => exact ⟨0, by omega, rfl, Ext.refl _ _⟩
      case round =>
        obtain ⟨i, hi, rfl, hx⟩ := hrel
        have k1 : (i : Int) < (M.length : Int) := by omega
        obtain ⟨b, o, rfl, hb, hra⟩ := (HRD.out.ext hx (fun _ _ _ h => h)).at' i (by omega)
        have c0 := nd_id hra
        by_cases hii : i = i0
        · subst hii
          rw [← HHE.out] at hra
          rw [← HHE.out, hhit] at c0
          have hNp : (Try.prog.info? 35).map (·.size) = some (nc e).length := by rw [nc_len]; kernel_rfl
          have hnew := heapNew wr (.cells (nc e).toArray 35)
          have x4 := Ext.alloc NoB wr (.cells (nc e).toArray 35)
          have HN4 := Lib.hid hnew
          have HQ9 := Lib.hid ((HR6.out.ext hx (fun _ _ h => h)).ext x4 (fun _ _ h => h))
          have HX4 := Lib.hid (((HX.out.then HX6.out).then hx).then x4)
          have HRA := Lib.hid hra
          clear hnew x4 hra hx hhit hbf
          go_wp2_with (first
            | ((with_reducible show wpList _ _ _ (⟨_, .load 35 _, _, _, _, _⟩ :: _) _ _); refine wpList_load_arrm (by rfl) 35 _ rfl b (o + i * 34) rfl (nc e) _ HRA.out Try.underlying35 rfl hNp ?_)
            | ((with_reducible show wpList _ _ _ (⟨_, .buildSlice 22 _ _, _, _, _, _⟩ :: _) _ _); refine wpList_slice35 rfl _ rfl (nc e) (nc_len e) rfl ?_)
            | (at_builtin; refine wpList_append_q rfl _ _ 22 rfl 35 34 48 (.agg (nc default).toArray) Try.underlying22 info35 (by rfl) (by decide) (.slice A' t c') t _ rfl HQ9.out ⟨wr.heap.size, 0, none⟩ 1 1 (nc e) rfl (by rw [nc_len]) (fun j u hj => by rw [add_none]; have := nd_box HN4.out j u hj; rw [Nat.zero_add] at this ⊢; exact this) (nc_one e) (by omega) (by unfold maxLen; omega) (by omega) ?_; intro g3 o3 c3 W9 hq10 x10 hg10; have HH := Lib.hid (And.intro hq10 (And.intro x10 hg10)); clear hq10 x10 hg10))
          obtain ⟨hq10, x10, hg10⟩ := HH.out
          go_ret2
          have hgo : ∀ g, (Value.slice A' t c').ownBlock = some g → W0.heap.size ≤ g := fun g hg => HOWN.out g (by rw [own_sl A' 0 0 t c']; exact hg)
          refine ⟨some ⟨g3, o3, none⟩, c3, by rw [← htK]; rfl, ?_, (x0.then HX4.out).trans x10 (fun _ _ h => h) (fun j hj hf => by have := hgo j hf; omega)⟩
          have e1 : flatN [e] = nc e := by simp [flatN]
          rw [HMR.out, flatN_append, e1, ← htK]
          exact hq10
        · have hne := hbf i (by omega) (by omega)
          generalize M[i].id = y at *
          have hb2 : (y == pv) = false := beq_eq_false_iff_ne.2 hne
          clear hne hra hhit hbf
          go_wp2_with fail
          exact ⟨⟨i + 1, by omega, by go_num, hx⟩, by simp [intOf]; omega⟩
end Go.Proofs.Ytdibjnlmeiikmaa
