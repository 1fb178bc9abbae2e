/-
  What a way is, plainly; the document's Route of layer 10 over it.
-/
import Derived.Test.YtdibjnlmeiikmaaZu
set_option linter.unusedVariables false
set_option linter.unusedSimpArgs false
namespace Go.Proofs.Ytdibjnlmeiikmaa
open Go.RowKit Go.Proofs

/-- Hops that are a way through the nodes N 0, N 1, .. -/
structure WH (pv : Int) (L : List Nd) (H : List Hp) (N : Nat → Nd) : Prop where
  lo : 1 ≤ H.length
  hi : H.length ≤ 5
  mem : ∀ i, i < H.length → N i ∈ L ∧ (N i).lay = (i : Int)
  key : ∀ i (hi : i < H.length), H[i].key = (N i).key
  next : ∀ i (hi : i < H.length), i + 1 < H.length → H[i].cmd.next = (N (i + 1)).id
  last : (N (H.length - 1)).id = pv
  may : ∀ i (hi : i < H.length), mayC H[i].cmd = true ∧ (H[i].cmd.kind == 1) = decide (i + 1 < H.length)
  dly : dly H 0 ≤ 64 * ((H.length : Int) - 1) ∧ -9223372036854775808 ≤ dly H 0
theorem may_fwd {n d : Int} (h1 : 0 ≤ n ∧ n < 16) (h2 : 0 ≤ d ∧ d ≤ 64) : mayC (fwd n d) = true := by
  unfold mayC fwd
  simp [h1.1, h1.2, h2.1, h2.2]
theorem dly_le : ∀ (H : List Hp) (n : Int), 0 ≤ n → n + 64 * H.length ≤ 100000 → (∀ h ∈ H, 0 ≤ h.cmd.delay ∧ h.cmd.delay ≤ 64) → 0 ≤ dly H n ∧ dly H n ≤ n + 64 * H.length
  | [], n, h0, _, _ => by unfold dly; simp; exact h0
  | h :: H, n, h0, h1, h2 => by
    obtain ⟨a, b⟩ := h2 h (by simp)
    have h3 := fun x hx => h2 x (List.mem_cons_of_mem _ hx)
    simp only [List.length_cons] at h1 ⊢
    unfold dly
    by_cases hk : h.cmd.kind = 1
    · rw [if_pos hk, Int.max_eq_left a, IntWalk.i64_in _ (by omega)]
      have := dly_le H (n + h.cmd.delay) (by omega) (by omega) h3
      omega
    · rw [if_neg hk]
      have := dly_le H n h0 (by omega) h3
      omega
theorem ans_way {l pv : Int} {L : List Nd} {m : Cm} {D : List Int} (he : ansE l pv L m D.length = 0) : l = ((ansH l pv L m D).length : Int) ∧ ∃ N : Nat → Nd, WH pv L (ansH l pv L m D) N ∧ ansF l pv L m D = (N 0).id := by
  have hE : chk l L = 0 := by
    by_cases hE : chk l L = 0
    · exact hE
    · unfold ansE at he; rw [if_neg hE] at he; exact absurd he hE
  have hM : ¬ (mayC m = false ∨ m.kind = 1) := fun h => by unfold ansE at he; rw [if_pos hE, if_pos h] at he; exact absurd he (by decide)
  have hM1 : mayC m = true := by cases h : mayC m with
    | true => rfl
    | false => exact absurd (.inl h) hM
  have hK : m.kind ≠ 1 := fun h => hM (.inr h)
  obtain ⟨l1, l5⟩ := chk_lay hE
  have hg := chk_good hE
  obtain ⟨K, rfl⟩ : ∃ K : Nat, l = (K : Int) := ⟨l.toNat, by omega⟩
  have e1 : ansF (K : Int) pv L m D = (nodeAt K L D (provN K pv L) 0).id := by unfold ansF; rw [if_pos he, Int.toNat_natCast]
  have e2 : ansH (K : Int) pv L m D = (List.range K).map (hopAt K L D (provN K pv L) m) := by unfold ansH; rw [if_pos he, Int.toNat_natCast]
  have hp : provN (K : Int) pv L ∈ layL L ((K : Int) - 1) ∧ (provN (K : Int) pv L).id = pv := by
    rcases idx_cases (p := prv pv) (layL L ((K : Int) - 1)) with hI | ⟨i0, hi0, hI⟩
    · unfold ansE at he; rw [if_pos hE, if_neg hM, if_pos hI] at he; exact absurd he (by decide)
    · have : provN (K : Int) pv L = (layL L ((K : Int) - 1))[i0] := by
        unfold provN
        rw [hI, Int.toNat_natCast, List.getD_eq_getElem?_getD, List.getElem?_eq_getElem hi0]
        rfl
      rw [this]
      exact ⟨List.getElem_mem hi0, idx_hit _ 0 i0 hi0 (by rw [Nat.zero_add]; exact hI)⟩
  generalize provN (K : Int) pv L = e at *
  have hpick : ∀ i, i < K → pickN L D i ∈ layL L (i : Int) := fun i hi => by
    have hpl : 0 < (layL L (i : Int)).length := by
      have hf := hg.full i (by omega)
      have hp := (layL_perm hg (i : Int)).length_eq
      have := List.length_pos_iff.2 hf
      omega
    have hq := Nat.mod_lt (D.getD (2 * i) 0).toNat hpl
    unfold pickN
    rw [List.getD_eq_getElem?_getD, List.getElem?_eq_getElem hq]
    exact List.getElem_mem hq
  have hN : ∀ i, i < K → nodeAt K L D e i ∈ layL L (i : Int) := fun i hi => by
    unfold nodeAt
    by_cases h : i + 1 = K
    · rw [if_pos h]
      have := hp.1
      rw [show (K : Int) - 1 = (i : Int) by omega] at this
      exact this
    · rw [if_neg h]; exact hpick i hi
  have hlen : (ansH (K : Int) pv L m D).length = K := by rw [e2]; simp
  have hget : ∀ i (hi : i < (ansH (K : Int) pv L m D).length), (ansH (K : Int) pv L m D)[i] = hopAt K L D e m i := fun i hi => by
    have : ∀ (X : List Hp) (hX : X = (List.range K).map (hopAt K L D e m)) (h : i < X.length), X[i] = hopAt K L D e m i := by
      intro X hX h; subst hX; simp
    exact this _ e2 hi
  refine ⟨by rw [hlen], nodeAt K L D e, ⟨by omega, by omega, fun i hi => ?_, fun i hi => ?_, fun i hi h => ?_, ?_, fun i hi => ?_, ?_⟩, e1⟩
  · have := mem_layL.1 (hN i (by omega))
    exact ⟨this.1, this.2.1⟩
  · rw [hget]
    unfold hopAt nodeAt
    by_cases h : i + 1 = K
    · rw [if_pos h, if_pos h]
    · rw [if_neg h, if_neg h]
  · rw [hget]
    unfold hopAt
    rw [if_neg (by omega)]
    rfl
  · rw [hlen]
    unfold nodeAt
    rw [if_pos (by omega)]
    exact hp.2
  · rw [hget, hlen]
    unfold hopAt
    by_cases h : i + 1 = K
    · rw [if_pos h]
      refine ⟨hM1, ?_⟩
      rw [decide_eq_false (by omega)]
      exact beq_eq_false_iff_ne.2 hK
    · rw [if_neg h]
      have hid := mem_layL.1 (hN (i + 1) (by omega))
      refine ⟨may_fwd ⟨hid.2.2.1, hid.2.2.2⟩ ⟨Int.emod_nonneg _ (by decide), by have := Int.emod_lt_of_pos (D.getD (2 * i + 1) 0) (show (0 : Int) < 65 by decide); omega⟩, ?_⟩
      rw [decide_eq_true (by omega)]
      rfl
  · rw [hlen, e2]
    obtain ⟨k, rfl⟩ : ∃ k, K = k + 1 := ⟨K - 1, by omega⟩
    rw [List.range_succ, List.map_append]
    simp only [List.map_cons, List.map_nil]
    rw [dly_snoc]
    have hl : (hopAt (k + 1) L D e m k).cmd.kind ≠ 1 := by unfold hopAt; rw [if_pos rfl]; exact hK
    rw [if_neg hl]
    have := dly_le ((List.range k).map (hopAt (k + 1) L D e m)) 0 (by decide) (by simp; omega) (fun h hh => by
      obtain ⟨i, hi, rfl⟩ := List.mem_map.1 hh
      have hi := List.mem_range.1 hi
      unfold hopAt
      rw [if_neg (by omega)]
      exact ⟨Int.emod_nonneg _ (by decide), by have := Int.emod_lt_of_pos (D.getD (2 * i + 1) 0) (show (0 : Int) < 65 by decide); show D.getD (2 * i + 1) 0 % 65 ≤ 64; omega⟩)
    simp only [List.length_map, List.length_range] at this
    omega
theorem ans_bad {l pv : Int} {L : List Nd} {m : Cm} {D : List Int} (he : ansE l pv L m D.length ≠ 0) : ansH l pv L m D = [] ∧ ansF l pv L m D = 0 := ⟨by unfold ansH; rw [if_neg he], by unfold ansF; rw [if_neg he]⟩
set_option maxHeartbeats 3200000 in
set_option maxRecDepth 100000 in
theorem refRoute22 (A : Option Addr) (c : Nat) (H : List Hp) (w : World) (hr : HRd w A c H) (h1 : 1 ≤ H.length) (h5 : H.length ≤ 5) (hm : ∀ i (hi : i < H.length), mayC H[i].cmd = true ∧ (H[i].cmd.kind == 1) = decide (i + 1 < H.length)) :
    Calls Try.prog 22 #[.slice A H.length c] w fun e w' => e = .returned (.bool true) ∧ Ext NoB w w' := by
  have h63 : c ≤ 9223372036854775807 := by have := hr.cap.2; unfold maxLen at this; omega
  have hcap := hr.cap.1
  have HR := Lib.hid hr
  have HM := Lib.hid hm
  have hj1 : (1 : Int) ≤ (H.length : Int) := by omega
  have hj5 : (H.length : Int) ≤ 5 := by omega
  clear hr hm
  go_enter Try.func22, Try.ntmps22
  go_upto_region 2 with fail
  go_loopw [3] (fun iv W => RoRel w H.length iv W) (fun iv _ => H.length - (intOf iv).toNat)
  case atStart => exact ⟨0, by omega, rfl, Ext.refl _ _⟩
  case round =>
    obtain ⟨i, hi, rfl, hx⟩ := hrel
    by_cases hlt : i < H.length
    · have k1 : (i : Int) < (H.length : Int) := by omega
      obtain ⟨b, o, rfl, _, hra⟩ := (HR.out.ext hx (fun _ _ _ h => h)).at' i hlt
      obtain ⟨hma, hkd⟩ := HM.out i hlt
      have hrc := hp_cmd hra
      generalize H[i].cmd = m at *
      obtain ⟨V, hV⟩ : ∃ V, V = (cc m).toArray := ⟨_, rfl⟩
      have lV : V.size = 11 := by rw [hV]; simp [cc_len]
      have sV : (Try.prog.info? 48).map (·.size) = some V.size := by rw [lV]; kernel_rfl
      have s48 : (Try.prog.info? 48).map (·.size) = some (cc m).length := by rw [cc_len]; kernel_rfl
      have oV : V.all (·.oneCell') = true := by rw [hV]; exact all_oneCell_toArray (cc_one m)
      have hbV : (wr.alloc (.cells V 48)).heap[wr.heap.size]? = some (.cells (cc m).toArray 48 (0, 0)) := by rw [← hV]; exact heapNew _ _
      have xV := Ext.alloc NoB wr (.cells V 48)
      have HVV := Lib.hid hV
      have HRC := Lib.hid hrc
      have hmy := refMay37 m
      rw [hma] at hmy
      have HMY := Lib.hid hmy
      have hbx := nd_box hbV
      have HBX : Hid (∀ W, Ext NoB (wr.alloc (.cells V 48)) W → W.cell? ⟨wr.heap.size, 0, none⟩ = some (.int .i64 m.kind)) := Lib.hid fun W hW => cm_0 (nd_box (hW.obj hbV id))
      have hw1 := IntWalk.i64_in ((H.length : Int) - 1) (by omega)
      clear hV hra hrc hbV hmy hma
      generalize m.kind = kd at *
      go_upto_region 5 with (first
        | ((with_reducible show wpList _ _ _ (⟨_, .load 48 _, _, _, _, _⟩ :: _) _ _); refine wpList_load_arrm (by rfl) 48 _ rfl b (o + i * 43 + 32) rfl (cc m) _ HRC.out Try.underlying48 rfl s48 ?_)
        | ((with_reducible show wpList _ _ _ (⟨_, .store 48 _ _, _, _, _, _⟩ :: _) _ _); refine wpList_store_new rfl 48 _ _ rfl wr.heap.size V rfl (by rw [HVV.out]; rfl) rfl (by rw [lV]; rfl) sV oV ?_))
      have hx2 := hx.then xV
      generalize wr.heap.size = cb at *
      generalize wr.alloc (.cells V 48) = W1 at *
      by_cases hl : i + 1 < H.length
      · rw [decide_eq_true hl] at hkd
        have hk : kd = 1 := by simpa using hkd
        subst hk
        have k2 : (i : Int) < (H.length : Int) - 1 := by omega
        clear hkd
        go_wp2_with (first
          | ((with_reducible show wpList _ _ _ (⟨_, .load 48 _, _, _, _, _⟩ :: _) _ _); refine wpList_load_arrm (by rfl) 48 _ rfl cb 0 rfl (cc m) _ hbx Try.underlying48 rfl s48 ?_)
          | (go_at_call 37; (with_reducible refine (HMY.out _).mono ?_); rintro e W2 ⟨rfl, x2⟩; have hk2 := HBX.out W2 x2))
        exact ⟨⟨i + 1, by omega, by go_num, hx2.then x2⟩, by simp [intOf]; omega⟩
      · rw [decide_eq_false hl] at hkd
        have k2 : ¬ (i : Int) < (H.length : Int) - 1 := by omega
        go_wp2_with (first
          | ((with_reducible show wpList _ _ _ (⟨_, .load 48 _, _, _, _, _⟩ :: _) _ _); refine wpList_load_arrm (by rfl) 48 _ rfl cb 0 rfl (cc m) _ hbx Try.underlying48 rfl s48 ?_)
          | (go_at_call 37; (with_reducible refine (HMY.out _).mono ?_); rintro e W2 ⟨rfl, x2⟩; have hk2 := HBX.out W2 x2))
        exact ⟨⟨i + 1, by omega, by go_num, hx2.then x2⟩, by simp [intOf]; omega⟩
    · have k1 : ¬ (i : Int) < (H.length : Int) := by omega
      go_wp2_with fail
      go_ret
      exact ⟨by simp [hj1, hj5], hx⟩
end Go.Proofs.Ytdibjnlmeiikmaa
