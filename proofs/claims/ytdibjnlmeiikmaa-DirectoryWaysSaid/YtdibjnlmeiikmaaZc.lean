/-
  Route: the way.
-/
import Derived.Test.YtdibjnlmeiikmaaZb
set_option linter.unusedVariables false
set_option linter.unusedSimpArgs false
namespace Go.Proofs.Ytdibjnlmeiikmaa
open Go.RowKit Go.Proofs

/-- A slice of bytes that is read. -/
structure Dr (w : World) (A : Option Addr) (c : Nat) (D : List Int) : Prop where
  at' : ∀ i, i < D.length → ∃ b o, A = some ⟨b, o, none⟩ ∧ b < w.heap.size ∧ w.cell? ⟨b, o + i, none⟩ = some (.int .u8 (D.getD i 0)) ∧ 0 ≤ D.getD i 0 ∧ D.getD i 0 ≤ 255
  cap : D.length ≤ c ∧ c ≤ maxLen
theorem Dr.ext {w w' : World} {A : Option Addr} {c : Nat} {D : List Int} (h : Dr w A c D) (hx : Ext NoB w w') : Dr w' A c D := ⟨fun i hi => by
  obtain ⟨b, o, h1, h2, h3, h4⟩ := h.at' i hi
  exact ⟨b, o, h1, Nat.lt_of_lt_of_le h2 hx.size, hx.cell h3 id, h4⟩, h.cap⟩
theorem info45 : (Try.prog.info? 45).map (fun i => (i.zero, i.size, i.bytes)) = some (some (.agg (hc ⟨List.replicate 32 0, ⟨0, 0, 0, Z8, rfl⟩, rfl⟩).toArray), 43, 64) := by kernel_rfl
theorem there_of {w : World} {g : Nat} {e : TypeId} {cs : List Value} (h : w.heap[g]? = some (.cells cs.toArray e (0, 0))) {n : Nat} (hn : n ≤ cs.length) : w.there g 0 n := fun j hj => ⟨by
  rw [cellOf h, List.getElem?_toArray, List.getElem?_eq_getElem (by omega)]; rfl, freeOf h _⟩
theorem two {P G : Prop} (h : P → G) (k : P) : G := h k
/-- Between two rounds of Route's loop. -/
def RtRel (W5 : World) (K : Nat) (L : List Nd) (D : List Int) (e : Nd) (m : Cm) (nb : Nat) (hv iv : Value) (W : World) : Prop :=
  ∃ (t : Nat) (A' : Option Addr) (c' : Nat), t + 1 ≤ K ∧ iv = .int .i64 ((t : Int) - 1) ∧ hv = .slice A' (K - t) c' ∧ QRow W 45 43 (.slice A' (K - t) c') (K - t) (flatG hc (back K L D e m t)) ∧ W.heap[nb]? = some (.cells (nc (nodeAt K L D e t)).toArray 50 (0, 0)) ∧ Ext NoB W5 W ∧ ∀ k, (Value.slice A' 0 0).ownBlock = some k → W5.heap.size ≤ k ∧ k ≠ nb
set_option maxHeartbeats 6400000 in
set_option maxRecDepth 100000 in
theorem route_ok (K : Nat) (pv : Int) (A DA : Option Addr) (c dc i0 : Nat) (L : List Nd) (D : List Int) (m : Cm) (w : World) (hr : NRd w A c L) (hok : ∀ n ∈ L, NdOk n) (hlen : L.length ≤ 1000) (hE : chk (K : Int) L = 0) (hM : mayC m = true) (hK : m.kind ≠ 1)
    (hI : idxF (prv pv) (layL L ((K : Int) - 1)) 0 = (i0 : Int)) (hi0 : i0 < (layL L ((K : Int) - 1)).length) (hS : ¬ (D.length : Int) < 2 * ((K : Int) - 1)) (hD : Dr w DA dc D) (e : Nd) (he : e = (layL L ((K : Int) - 1))[i0]) :
    Calls Try.prog 12 #[dirv (K : Int) A L.length c, .int .i64 pv, .agg (cc m).toArray, .slice DA D.length dc] w fun e' w' => ∃ A' c', e' = .returned (.tuple #[.int .i64 (nodeAt K L D e 0).id, .slice A' K c', .int .i64 0]) ∧ QRow w' 45 43 (.slice A' K c') K (flatG hc ((List.range K).map (hopAt K L D e m))) ∧ Ext NoB w w' := by
  have hdr := fun W (hW : Ext NoB w W) => draws15 (K : Int) A c L W (hr.ext hW (fun _ _ _ h => h)) hok hlen
  have hdw : drw (K : Int) L = 2 * ((K : Int) - 1) := by unfold drw; rw [if_pos hE]
  rw [hdw] at hdr
  unfold dirv at hdr
  have HDR := Lib.hid hdr
  have HD := Lib.hid hD
  have hdc := hD.cap
  clear hdr hdw hD
  have hmf : ∀ (fn : Fn) (first cap : Array Value) (w : World), (Instr.makeFunc fn first cap).run Try.prog w = .ok (.func fn first cap) w := fun _ _ _ _ => rfl
  have hg := chk_good hE
  obtain ⟨l1, l5⟩ := chk_lay hE
  have hbx := RtBox.new w (K : Int) pv A L.length c m
  have hck := fun W (hW : Ext NoB w W) => check10 (K : Int) A c L W (hr.ext hW (fun _ _ _ h => h)) hok hlen
  rw [hE] at hck
  have hly := fun W (hW : Ext NoB w W) l => layer_good hg A c W (hr.ext hW (fun _ _ _ h => h)) hlen l
  have hll := layL_len L ((K : Int) - 1) hlen (K : Int) hg
  have HCK := Lib.hid hck
  have HLY := Lib.hid hly
  have HBX := Lib.hid hbx
  have s43 := sizeCm m
  have HM32 := Lib.hid (may32 m)
  have HG := Lib.hid hg
  clear hbx hck hr hly hE hg hok
  generalize hV : (cc m).toArray = V at HBX HM32 ⊢
  unfold dirv at HCK HLY ⊢
  go_enter Try.func12, Try.ntmps12
  go_upto_region 1 with fail
  generalize World.alloc (World.alloc (World.alloc w _) _) _ = W0 at HBX ⊢
  obtain ⟨c0, c1⟩ := HBX.out.dc
  have hx := HBX.out.x
  go_upto_region 4 with (go_at_call 10; (with_reducible refine (HCK.out _ hx).mono ?_); rintro e W1 ⟨rfl, x1⟩)
  have hB1 := HBX.out.ext x1
  have hx1 := hx.then x1
  obtain ⟨d0, d1⟩ := hB1.dc
  have HB1 := Lib.hid hB1
  clear hB1 c0 c1
  go_upto_region 5 with (go_at_call 29; (with_reducible refine (HLY.out _ hx1 ((K : Int) - 1)).mono ?_); rintro e W2 ⟨A2, c2, rfl, hr2, x2, hn2⟩)
  have hB2 := HB1.out.ext x2
  have hx2 := hx1.then x2
  have hq := index30 31 #[.pointer (some ⟨w.heap.size + 1, 0, none⟩)] enters31 A2 c2 (layL L ((K : Int) - 1)) (prv pv) W2 (NR.rd hr2) (fun n _ W hW => idFn31 n (w.heap.size + 1) pv W (hB2.ext hW).pc) (by omega)
  rw [hI] at hq
  have HQ := Lib.hid hq
  have HB2 := Lib.hid hB2
  have HR2 := Lib.hid hr2
  clear hq hr2 hn2 hB2 d0 d1
  go_upto_region 6 with (go_at_call 30; (with_reducible refine HQ.out.mono ?_); rintro e W3 ⟨rfl, x3⟩)
  have hB3 := HB2.out.ext x3
  have hx3 := hx2.then x3
  have r3 := hB3.mr
  have m0 := cm_0 r3
  rw [hM] at HM32
  have hK2 : (m.kind == 1) = false := beq_eq_false_iff_ne.2 hK
  go_upto_region 10 with (first
    | ((with_reducible show wpList _ _ _ (⟨_, .load 43 _, _, _, _, _⟩ :: _) _ _); refine wpList_load_arrm (by rfl) 43 _ rfl (w.heap.size + 1 + 1) 0 rfl (cc m) _ r3 Try.underlying43 rfl s43 ?_)
    | (go_at_call 32; (with_reducible refine (HM32.out _).mono ?_); rintro e W4 ⟨rfl, x4⟩; have n0 := cm_0 (hB3.ext x4).mr))
  have hB4 := hB3.ext x4
  have hx4 := hx3.then x4
  obtain ⟨p0, p1⟩ := hB4.dc
  go_upto_region 12 with (go_at_call 15; (with_reducible refine (HDR.out _ hx4).mono ?_); rintro e W5 ⟨rfl, x5⟩)
  have hB5 := hB4.ext x5
  have hx5 := hx4.then x5
  have hr5 := ((HR2.out.ext x3 (fun _ _ h => h)).ext x4 (fun _ _ h => h)).ext x5 (fun _ _ h => h)
  have hS2 : decide ((D.length : Int) < 2 * ((K : Int) - 1)) = false := decide_eq_false (by omega)
  have hcap2 := (NR.rd hr5).cap
  have h632 : c2 ≤ 9223372036854775807 := by have := hcap2.2; unfold maxLen at this; omega
  obtain ⟨b2, o2, hA2, hb2, hra⟩ := (NR.rd hr5).at' i0 hi0
  rw [← he] at hra
  have HEE := Lib.hid he
  clear he
  subst hA2
  have hN := sizeNd e
  have sK : (Try.prog.info? 33).map (·.size) = some (bys e.key).length := by rw [bys_length, e.len]; exact Try.size33
  obtain ⟨U, hV2⟩ : ∃ U, U = (nc e).toArray := ⟨_, rfl⟩
  have lV : U.size = 34 := by rw [hV2]; simp [nc_len]
  have sV : (Try.prog.info? 50).map (·.size) = some U.size := by rw [lV]; exact Try.size50
  have oV : U.all (·.oneCell') = true := by rw [hV2]; exact all_oneCell_toArray (nc_one e)
  have hbV : (W5.alloc (.cells U 50)).heap[W5.heap.size]? = some (.cells (nc e).toArray 50 (0, 0)) := by rw [← hV2]; exact heapNew _ _
  have hB6 := hB5.ext (Ext.alloc NoB W5 (.cells U 50))
  have HVV := Lib.hid hV2
  have HRA := Lib.hid hra
  have i1 : (i0 : Int) < ((layL L ((K : Int) - 1)).length : Int) := by omega
  have i2 : ((layL L ((K : Int) - 1)).length : Int) ≤ (c2 : Int) := by have := hcap2.1; omega
  clear hV2 hra hr5 HR2 HQ hcap2
  go_upto_region 13 with (first
    | ((with_reducible show wpList _ _ _ (⟨_, .load 50 _, _, _, _, _⟩ :: _) _ _); refine wpList_load_arrm (by rfl) 50 _ rfl b2 (o2 + i0 * 34) rfl (nc e) _ HRA.out Try.underlying50 rfl hN ?_)
    | ((with_reducible show wpList _ _ _ (⟨_, .store 50 _ _, _, _, _, _⟩ :: _) _ _); refine wpList_store_new rfl 50 _ _ rfl W5.heap.size U rfl (by rw [HVV.out]; rfl) rfl (by rw [lV]; rfl) sV oV ?_))
  have r6 := hB6.mr
  have k6 := nd_key (nd_box hbV)
  simp only [Nat.zero_add] at k6
  obtain ⟨q0, q1⟩ := (hB6.ext (Ext.alloc NoB _ (.cells (bys e.key ++ cc m).toArray 45))).dc
  go_upto_region 15 with (first
    | ((with_reducible show wpList _ _ _ (⟨_, .load 33 _, _, _, _, _⟩ :: _) _ _); refine wpList_load_arrm (by rfl) 33 _ rfl W5.heap.size 1 rfl (bys e.key) _ k6 Try.underlying33 rfl sK ?_)
    | ((with_reducible show wpList _ _ _ (⟨_, .load 43 _, _, _, _, _⟩ :: _) _ _); refine wpList_load_arrm (by rfl) 43 _ rfl (w.heap.size + 1 + 1) 0 rfl (cc m) _ r6 Try.underlying43 rfl s43 ?_)
    | ((with_reducible show wpList _ _ _ (⟨_, .build 45 _, _, _, _, _⟩ :: _) _ _); refine wpList_build45 rfl _ _ rfl (bys e.key) (cc m) (by rw [bys_length, e.len]) (cc_len m) rfl rfl ?_)
    | ((with_reducible show wpList _ _ _ (⟨_, .buildSlice 37 _ _, _, _, _, _⟩ :: _) _ _); refine wpList_slice45 rfl _ rfl (bys e.key ++ cc m) (by simp [bys_length, e.len, cc_len]) rfl ?_))
  have hK1 : 1 ≤ K := by omega
  have hbk := back_last hK1 L D e m
  have hnode : nodeAt K L D e (K - 1) = e := by unfold nodeAt; rw [if_pos (by omega)]
  have hq0 : HR ((W5.alloc (.cells U 50)).alloc (.cells (bys e.key ++ cc m).toArray 45)) (.slice (some ⟨W5.heap.size + 1, 0, none⟩) (back K L D e m (K - 1)).length 1) (back K L D e m (K - 1)) := by
    rw [hbk]
    refine ⟨by simp [flatG, hc_len], .inr ⟨W5.heap.size + 1, 0, 1, (bys e.key ++ cc m).toArray, rfl, heapNew' _ _ _ (by simp), Nat.le_refl _, by decide, by simp [bys_length, e.len, cc_len], fun j hj => ?_⟩⟩
    simp [flatG, hc]
  have hbV7 := (Ext.alloc NoB (W5.alloc (.cells U 50)) (.cells (bys e.key ++ cc m).toArray 45)).obj hbV id
  have hx7 := (hx5.andAlloc (.cells U 50)).andAlloc (.cells (bys e.key ++ cc m).toArray 45)
  have hx57 : Ext NoB W5 ((W5.alloc (.cells U 50)).alloc (.cells (bys e.key ++ cc m).toArray 45)) := (Ext.alloc NoB W5 _).andAlloc _
  have hst : RtRel W5 K L D e m W5.heap.size (.slice (some ⟨W5.heap.size + 1, 0, none⟩) 1 1) (.int .i64 ((K : Int) - 2)) ((W5.alloc (.cells U 50)).alloc (.cells (bys e.key ++ cc m).toArray 45)) := by
    have hq1 := hq0
    unfold HR GR at hq1
    rw [back_len, show K - (K - 1) = 1 by omega] at hq1
    refine ⟨K - 1, some ⟨W5.heap.size + 1, 0, none⟩, 1, by omega, by congr 1; omega, by rw [show K - (K - 1) = 1 by omega], by rw [show K - (K - 1) = 1 by omega]; exact hq1, by rw [hnode]; exact hbV7, hx57, fun k hk => ?_⟩
    have : W5.heap.size + 1 = k := by simpa [Value.ownBlock] using hk
    omega
  have HST := Lib.hid hst
  clear hq0 hbV hbV7 hbk hnode hst hB6 k6 r6 q0 q1 hx7 hx57
  go_loopw [15, 16] (fun hv iv W => RtRel W5 K L D e m W5.heap.size hv iv W) (fun _ iv _ => (intOf iv + 1).toNat)
  case atStart => exact HST.out
  case round =>
    clear HST
    obtain ⟨t, A', c', htK, rfl, rfl, hrow, hnb, hx, hown⟩ := hrel
    cases t with
    | zero =>
      rw [Nat.sub_zero] at hrow ⊢
      obtain ⟨gb, og, cap', hAe, _⟩ := QRow.form hrow (by omega)
      injection hAe with hAe _ hce
      subst hAe
      have hrow' : HR wr (.slice (some ⟨gb, og, none⟩) (back K L D e m 0).length c') (back K L D e m 0) := by unfold HR GR; rw [back_len, Nat.sub_zero]; exact hrow
      have hg := hown gb rfl
      have hK5 : K ≤ 1000 := by omega
      have hrv := reverse33 gb og c' (back K L D e m 0) wr hrow' (by rw [back_len]; omega) (by rw [back_len]; omega)
      rw [back_rev, back_len, Nat.sub_zero] at hrv
      have HRV := Lib.hid hrv
      have HNB := Lib.hid hnb
      clear hrow hrow' hrv hnb hce
      go_wp2_with (go_at_call 33; (with_reducible refine HRV.out.mono ?_); rintro e' W6 ⟨rfl, hr6, x6⟩; have c6 := nd_id (nd_box (x6.obj HNB.out (fun h => hg.2 h.symm))); have HR6 := Lib.hid hr6; clear hr6)
      go_ret3
      have h6 := HR6.out
      unfold HR GR at h6
      rw [List.length_map, List.length_range] at h6
      exact ⟨_, c', rfl, h6, (hx5.then hx).trans x6 (fun _ _ h => h) (fun k hk h => by have := hx5.size; omega)⟩
    | succ t =>
      have e1 : (((t + 1 : Nat) : Int) - 1) = (t : Int) := by omega
      rw [e1]
      clear e1
      obtain ⟨f0, f1⟩ := (hB5.ext hx).dc
      have hxw := hx5.then hx
      have hlt := HLY.out _ hxw (t : Int)
      have hDD := HD.out.ext hxw
      obtain ⟨bd, od, hDA, hbd, hd1, hd2, hd3⟩ := hDD.at' (2 * t) (by omega)
      obtain ⟨bd', od', hDA', _, hd4, hd5, hd6⟩ := hDD.at' (2 * t + 1) (by omega)
      rw [hDA] at hDA'
      injection hDA' with hDA'
      injection hDA' with g1 g2
      subst g1; subst g2
      subst hDA
      have hpl : 0 < (layL L (t : Int)).length := by
        have hf := HG.out.full t (by omega)
        have hp := (layL_perm HG.out (t : Int)).length_eq
        have := List.length_pos_iff.2 hf
        omega
      have hll2 := layL_len L (t : Int) hlen (K : Int) HG.out
      have hpk : pickN L D t = (layL L (t : Int)).getD ((D.getD (2 * t) 0).toNat % (layL L (t : Int)).length) default := rfl
      obtain ⟨q, hq⟩ : ∃ q, q = (D.getD (2 * t) 0).toNat % (layL L (t : Int)).length := ⟨_, rfl⟩
      have hqr : (D.getD (2 * t) 0) % ((layL L (t : Int)).length : Int) = (q : Int) := by
        obtain ⟨z, hz⟩ : ∃ z : Nat, D.getD (2 * t) 0 = z := ⟨(D.getD (2 * t) 0).toNat, by omega⟩
        rw [hq, hz, Int.toNat_natCast]
        simp
      have hql : q < (layL L (t : Int)).length := by rw [hq]; exact Nat.mod_lt _ hpl
      rw [← hq] at hpk
      have hpe : pickN L D t = (layL L (t : Int))[q] := by rw [hpk]; simp [List.getD_eq_getElem?_getD, List.getElem?_eq_getElem hql]
      generalize D.getD (2 * t) 0 = dx at *
      have HLT := Lib.hid hlt
      have HQE := Lib.hid (And.intro hq hpe)
      have HROW := Lib.hid hrow
      have HNB := Lib.hid hnb
      have HXW := Lib.hid hxw
      have hw2 := IntWalk.i64_in (2 * (t : Int)) (by omega)
      have hwx := IntWalk.i64_in dx (by omega)
      clear hlt hq hpk hpe hrow hnb hDD
      go_upto_region 18 with (go_at_call 29; (with_reducible refine HLT.out.mono ?_); rintro e' W6 ⟨A6, c6, rfl, hr6, x6, hn6⟩)
      have hd7 := x6.cell hd1 id
      have hd8 := x6.cell hd4 id
      have hN6 := x6.obj HNB.out id
      obtain ⟨b6, o6, hA6, hb6, hra6⟩ := (NR.rd hr6).at' q hql
      have hc6 := (NR.rd hr6).cap
      have h636 : c6 ≤ 9223372036854775807 := by have := hc6.2; unfold maxLen at this; omega
      rw [← HQE.out.2] at hra6
      subst hA6
      have hNp := sizeNd (pickN L D t)
      obtain ⟨Y, hY⟩ : ∃ Y, Y = (nc (pickN L D t)).toArray := ⟨_, rfl⟩
      have lY : Y.size = 34 := by rw [hY]; simp [nc_len]
      have sY : (Try.prog.info? 50).map (·.size) = some Y.size := by rw [lY]; exact Try.size50
      have oY : Y.all (·.oneCell') = true := by rw [hY]; exact all_oneCell_toArray (nc_one _)
      have hbY : (W6.alloc (.cells Y 50)).heap[W6.heap.size]? = some (.cells (nc (pickN L D t)).toArray 50 (0, 0)) := by rw [← hY]; exact heapNew _ _
      have HYY := Lib.hid hY
      have HRY := Lib.hid hra6
      have q1 : (q : Int) < ((layL L (t : Int)).length : Int) := by omega
      have q2 : ((layL L (t : Int)).length : Int) ≤ (c6 : Int) := by have := hc6.1; omega
      have t1 : 2 * (t : Int) < (D.length : Int) := by omega
      have t2 : (2 * (t : Int)).toNat = 2 * t := by omega
      have hl0 : (((layL L (t : Int)).length : Int) == 0) = false := beq_eq_false_iff_ne.2 (by omega)
      clear hY hra6 hd1 hd4 hr6 hc6
      go_upto_region 19 with (first
        | ((with_reducible show wpList _ _ _ (⟨_, .load 50 _, _, _, _, _⟩ :: _) _ _); refine wpList_load_arrm (by rfl) 50 _ rfl b6 (o6 + q * 34) rfl (nc (pickN L D t)) _ HRY.out Try.underlying50 rfl hNp ?_)
        | ((with_reducible show wpList _ _ _ (⟨_, .store 50 _ _, _, _, _, _⟩ :: _) _ _); refine wpList_store_new rfl 50 _ _ rfl W6.heap.size Y rfl (by rw [HYY.out]; rfl) rfl (by rw [lY]; rfl) sY oY ?_))
      have xY := Ext.alloc NoB W6 (.cells Y 50)
      have hd9 := xY.cell hd8 id
      have n7 := nd_id (nd_box (xY.obj hN6 id))
      have hs6 : bd < (W6.alloc (.cells Y 50)).heap.size := Nat.lt_of_lt_of_le hbd (Nat.le_trans x6.size xY.size)
      have hs7 : W5.heap.size < (W6.alloc (.cells Y 50)).heap.size := Nat.lt_of_lt_of_le (Array.getElem?_eq_some_iff.1 hN6).1 xY.size
      have t3 : 2 * (t : Int) + 1 < (D.length : Int) := by omega
      have t4 : (2 * (t : Int) + 1).toNat = 2 * t + 1 := by omega
      have t5 : 0 ≤ 2 * (t : Int) + 1 := by omega
      have hw3 := IntWalk.i64_in (2 * (t : Int) + 1) (by omega)
      have hhop : hopAt K L D e m t = ⟨(pickN L D t).key, fwd (nodeAt K L D e (t + 1)).id (D.getD (2 * t + 1) 0 % 65), (pickN L D t).len⟩ := by unfold hopAt; rw [if_neg (by omega)]
      have HHOP := Lib.hid hhop
      clear hhop
      generalize D.getD (2 * t + 1) 0 = dy at *
      have hwy := IntWalk.i64_in dy (by omega)
      have hr0 : dy.tmod 65 = dy % 65 := Int.tmod_eq_emod_of_nonneg hd5
      have hwr := IntWalk.i64_in (dy % 65) (by omega)
      generalize (nodeAt K L D e (t + 1)).id = nid at *
      generalize W6.alloc (.cells Y 50) = W7 at *
      obtain ⟨C, hC⟩ : ∃ C, C = fwd nid (dy % 65) := ⟨_, rfl⟩
      have hz8 : (W7.alloc (.cells #[.int .i64 1, .int .i64 nid, .int .i64 (dy % 65), .int .u8 0, .int .u8 0, .int .u8 0, .int .u8 0, .int .u8 0, .int .u8 0, .int .u8 0, .int .u8 0] 43)).drew.heap[W7.heap.size]? = some (.cells (cc C).toArray 43 (0, 0)) := by
        rw [heapDrew, heapNew, hC]; rfl
      have xz8 : Ext NoB W7 (W7.alloc (.cells #[.int .i64 1, .int .i64 nid, .int .i64 (dy % 65), .int .u8 0, .int .u8 0, .int .u8 0, .int .u8 0, .int .u8 0, .int .u8 0, .int .u8 0, .int .u8 0] 43)).drew := (Ext.alloc NoB W7 _).andDrew
      have HZ8 := Lib.hid (And.intro hz8 xz8)
      have HBY := Lib.hid hbY
      have hx67 := x6.then xY
      have hN7 := xY.obj hN6 id
      clear hz8 xz8 hbY xY
      have HCC := Lib.hid hC
      clear hC
      apply two
      · intro key
        go_region
        all_goals exact key
      · skip
        generalize (W7.alloc (.cells #[.int .i64 1, .int .i64 nid, .int .i64 (dy % 65), .int .u8 0, .int .u8 0, .int .u8 0, .int .u8 0, .int .u8 0, .int .u8 0, .int .u8 0, .int .u8 0] 43)).drew = W8 at *
        obtain ⟨hz8, xz8⟩ := HZ8.out
        have hbY8 := xz8.obj HBY.out id
        have k8 := nd_key (nd_box hbY8)
        simp only [Nat.zero_add] at k8
        have hN8 := xz8.obj hN7 id
        have hx8 := hx67.then xz8
        have sC := sizeCm C
        have sK8 : (Try.prog.info? 33).map (·.size) = some (bys (pickN L D t).key).length := by rw [bys_length, (pickN L D t).len]; exact Try.size33
        have xA := Ext.alloc NoB W8 (.cells (bys (pickN L D t).key ++ cc C).toArray 45)
        have HQ9 := Lib.hid ((HROW.out.ext hx8 (fun _ _ h => h)).ext xA (fun _ _ h => h))
        have HNEW := Lib.hid (heapNew W8 (.cells (bys (pickN L D t).key ++ cc C).toArray 45))
        have HMV := Lib.hid (And.intro (xA.obj hN8 id) (And.intro (xA.obj hbY8 id) (hx8.then xA)))
        go_upto_region 21 with (first
          | ((with_reducible show wpList _ _ _ (⟨_, .load 33 _, _, _, _, _⟩ :: _) _ _); refine wpList_load_arrm (by rfl) 33 _ rfl W6.heap.size 1 rfl (bys (pickN L D t).key) _ k8 Try.underlying33 rfl sK8 ?_)
          | ((with_reducible show wpList _ _ _ (⟨_, .load 43 _, _, _, _, _⟩ :: _) _ _); refine wpList_load_arrm (by rfl) 43 _ rfl W7.heap.size 0 rfl (cc C) _ (nd_box hz8) Try.underlying43 rfl sC ?_)
          | ((with_reducible show wpList _ _ _ (⟨_, .build 45 _, _, _, _, _⟩ :: _) _ _); refine wpList_build45 rfl _ _ rfl (bys (pickN L D t).key) (cc C) (by rw [bys_length, (pickN L D t).len]) (cc_len C) rfl rfl ?_)
          | ((with_reducible show wpList _ _ _ (⟨_, .buildSlice 37 _ _, _, _, _, _⟩ :: _) _ _); refine wpList_slice45 rfl _ rfl (bys (pickN L D t).key ++ cc C) (by simp [bys_length, (pickN L D t).len, cc_len]) rfl ?_)
          | (at_builtin; refine wpList_append_q rfl _ _ 37 rfl 45 43 64 (.agg (hc ⟨List.replicate 32 0, ⟨0, 0, 0, Z8, rfl⟩, rfl⟩).toArray) Try.underlying37 info45 (by rfl) (by decide) (.slice A' (K - (t + 1)) c') (K - (t + 1)) _ rfl HQ9.out ⟨W8.heap.size, 0, none⟩ 1 1 (bys (pickN L D t).key ++ cc C) rfl (by simp [bys_length, (pickN L D t).len, cc_len]) (fun j u hj => by rw [add_none]; exact nd_box HNEW.out j u hj) (hc_one ⟨(pickN L D t).key, C, (pickN L D t).len⟩) (by omega) (by unfold maxLen; omega) (by omega) ?_; intro g3 o3 c3 W9 hq10 x10 hg10))
        have hgk : ∀ k, (Value.slice A' (K - (t + 1)) c').ownBlock = some k → W5.heap.size ≤ k ∧ k ≠ W5.heap.size := fun k hk => hown k (by rw [show (Value.slice A' 0 0).ownBlock = (Value.slice A' (K - (t + 1)) c').ownBlock by cases A' <;> rfl]; exact hk)
        have hgl : ∀ k, (Value.slice A' (K - (t + 1)) c').ownBlock = some k → k < W6.heap.size := fun k hk => Nat.lt_of_lt_of_le (QRow.lt HROW.out k hk) x6.size
        have s78 := xz8.size
        have s89 : W8.heap.size ≤ (W8.alloc (.cells (bys (pickN L D t).key ++ cc C).toArray 45)).heap.size := xA.size
        have hN10 := x10.obj HMV.out.1 (fun h => (hgk _ h).2 rfl)
        have hY10 := x10.obj HMV.out.2.1 (fun h => Nat.lt_irrefl _ (hgl _ h))
        have hth : W9.there W5.heap.size 0 (nc (pickN L D t)).toArray.size := there_of hN10 (by rw [List.size_toArray, nc_len, nc_len]; exact Nat.le_refl _)
        have hend := setCells_whole hN10 (nc (pickN L D t)) (by simp [nc_len])
        have hx10 : Ext NoB W5 (W9.setCells W5.heap.size 0 (nc (pickN L D t))) := by
          have h1 := (hx.then HMV.out.2.2).trans x10 (F := NoB) (H := NoB) (fun _ _ h => h) (fun i hi h => absurd (hgk i h).1 (by omega))
          exact Ext.andCells h1 _ _ (fun h => absurd h (Nat.lt_irrefl _))
        have hown10 : ∀ k, (Value.slice (some ⟨g3, o3, none⟩) 0 0).ownBlock = some k → W5.heap.size ≤ k ∧ k ≠ W5.heap.size := fun k hk => by
          have e : g3 = k := by simpa [Value.ownBlock] using hk
          rcases hg10 with h | h
          · exact hgk k (e ▸ h)
          · rw [← e]; omega
        have hqq : QRow (W9.setCells W5.heap.size 0 (nc (pickN L D t))) 45 43 (.slice (some ⟨g3, o3, none⟩) (K - (t + 1) + 1) c3) (K - (t + 1) + 1) (flatG hc (back K L D e m t)) := by
          rw [back_step L D e m (by omega), flatG_append]
          have e1 : flatG hc [hopAt K L D e m t] = bys (pickN L D t).key ++ cc C := by
            rw [HHOP.out, HCC.out]; simp [flatG, hc]
          rw [e1]
          exact QRow.ext (F := fun k => k = W5.heap.size) hq10 (Ext.andCells (Ext.refl _ _) _ _ (fun _ => rfl)) (fun k hk h => (hown10 k (by simpa [Value.ownBlock] using hk)).2 h)
        rw [show K - (t + 1) + 1 = K - t by omega] at hqq ⊢
        have hEND : ∀ tt : Int, tt = (t : Int) - 1 → RtRel W5 K L D e m W5.heap.size (.slice (some ⟨g3, o3, none⟩) (K - t) c3) (.int .i64 tt) (W9.setCells W5.heap.size 0 (nc (pickN L D t))) := fun tt htt => ⟨t, some ⟨g3, o3, none⟩, c3, by omega, by rw [htt], rfl, hqq, by unfold nodeAt; rw [if_neg (by omega)]; exact hend, hx10, hown10⟩
        have HEND := Lib.hid hEND
        have HY10 := Lib.hid hY10
        clear hEND hqq hown10 hx10 hend hY10 hN10
        go_wp2_with (first
          | ((with_reducible show wpList _ _ _ (⟨_, .load 50 _, _, _, _, _⟩ :: _) _ _); refine wpList_load_arrm (by rfl) 50 _ rfl W6.heap.size 0 rfl (nc (pickN L D t)) _ (nd_box HY10.out) Try.underlying50 rfl hNp ?_)
          | ((with_reducible show wpList _ _ _ (⟨_, .store 50 _ _, _, _, _, _⟩ :: _) _ _); refine wpList_store_mid rfl 50 _ _ rfl W5.heap.size 0 _ rfl rfl hth (by rw [List.size_toArray]; exact hNp) (all_oneCell_toArray (nc_one (pickN L D t))) ?_))
        exact ⟨HEND.out _ rfl, by show ((t : Int) - 1 + 1).toNat < ((t : Int) + 1).toNat; omega⟩
end Go.Proofs.Ytdibjnlmeiikmaa
