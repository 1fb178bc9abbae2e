/-
  slices.DeleteFunc at nodes.
-/
import Derived.Test.YtdibjnlmeiikmaaO
set_option linter.unusedVariables false
set_option linter.unusedSimpArgs false
namespace Go.Proofs.Ytdibjnlmeiikmaa
open Go.RowKit

/-- A test that answers p whatever becomes of the blocks F. -/
def TstF (w : World) (g : Nat) (cb : Array Value) (L : List Nd) (p : Nd → Bool) (F : Nat → Prop) : Prop := ∀ n ∈ L, ∀ W, Ext F w W → Calls Try.prog g (#[.agg (nc n).toArray] ++ cb) W fun e w' => e = .returned (.bool (p n)) ∧ Ext NoB W w'
theorem TstF.plain {w : World} {g : Nat} {cb : Array Value} {L : List Nd} {p : Nd → Bool} {F : Nat → Prop} (h : TstF w g cb L p F) : Tst w g cb L p := fun n hn W hW => h n hn W (hW.mono fun _ _ h => h.elim)
theorem idxF_spec (p : Nd → Bool) : ∀ (L : List Nd) (k : Nat), (idxF p L k = -1 ∧ ∀ n ∈ L, p n = false) ∨ ∃ i, ∃ h : i < L.length, idxF p L k = ((k + i : Nat) : Int) ∧ p L[i] = true ∧ ∀ n ∈ L.take i, p n = false
  | [], k => .inl ⟨rfl, by simp⟩
  | n :: L, k => by
    by_cases hp : p n
    · exact .inr ⟨0, by simp, by unfold idxF; rw [if_pos hp]; simp, hp, by simp⟩
    · have hp' : p n = false := by simpa using hp
      rcases idxF_spec p L (k + 1) with ⟨h1, h2⟩ | ⟨i, hi, h1, h2, h3⟩
      · refine .inl ⟨by unfold idxF; rw [if_neg hp]; exact h1, fun x hx => ?_⟩
        rcases List.mem_cons.1 hx with rfl | hx
        · exact hp'
        · exact h2 x hx
      · refine .inr ⟨i + 1, by simp; omega, by unfold idxF; rw [if_neg hp, h1]; omega, by simpa using h2, fun x hx => ?_⟩
        rw [List.take_succ_cons] at hx
        rcases List.mem_cons.1 hx with rfl | hx
        · exact hp'
        · exact h3 x hx
def kept (p : Nd → Bool) (L : List Nd) : List Nd := L.filter (fun n => !p n)
theorem kept_all {p : Nd → Bool} {L : List Nd} (h : ∀ n ∈ L, p n = false) : kept p L = L := by
  unfold kept; rw [List.filter_eq_self]; intro n hn; rw [h n hn]; rfl
theorem kept_step (p : Nd → Bool) {L : List Nd} {j : Nat} (hj : j < L.length) : kept p (L.take (j + 1)) = if p L[j] then kept p (L.take j) else kept p (L.take j) ++ [L[j]] := by
  unfold kept
  rw [List.take_succ_eq_append_getElem hj, List.filter_append]
  by_cases h : p L[j] <;> simp [h]
/-- The row behind the rounds below j. -/
def rowD (p : Nd → Bool) (L : List Nd) (j : Nat) : List Nd := kept p (L.take j) ++ L.drop (kept p (L.take j)).length
theorem kept_len (p : Nd → Bool) (L : List Nd) (j : Nat) : (kept p (L.take j)).length ≤ j := Nat.le_trans (List.length_filter_le _ _) (List.length_take_le _ _)
theorem rowD_len {p : Nd → Bool} {L : List Nd} {j : Nat} (hj : j ≤ L.length) : (rowD p L j).length = L.length := by
  have := kept_len p L j
  unfold rowD; rw [List.length_append, List.length_drop]; omega
theorem rowD_at {p : Nd → Bool} {L : List Nd} {j : Nat} (hj : j < L.length) (hj' : j < (rowD p L j).length) : (rowD p L j)[j] = L[j] := by
  have := kept_len p L j
  have e : (rowD p L j)[j]? = L[j]? := by
    unfold rowD
    rw [List.getElem?_append_right this, List.getElem?_drop]
    congr 1; omega
  rw [List.getElem?_eq_getElem hj', List.getElem?_eq_getElem hj] at e
  injection e
theorem set_behind {α : Type} (F R : List α) (x : α) (h : F.length < R.length) : (F ++ R.drop F.length).set F.length x = (F ++ [x]) ++ R.drop (F.length + 1) := by
  rw [List.set_append_right _ _ (Nat.le_refl _), Nat.sub_self]
  have e : (R.drop F.length).set 0 x = x :: R.drop (F.length + 1) := by
    generalize hd : R.drop F.length = D
    rw [List.drop_eq_getElem_cons h] at hd
    rw [← hd]; rfl
  rw [e]; simp
theorem rowD_put {p : Nd → Bool} {L : List Nd} {j : Nat} (hj : j < L.length) (hp : p L[j] = false) : (rowD p L j).set (kept p (L.take j)).length L[j] = rowD p L (j + 1) := by
  have := kept_len p L j
  have hk := kept_step p hj
  rw [hp] at hk
  unfold rowD
  rw [set_behind _ _ _ (by omega), hk]
  simp
theorem rowD_skip {p : Nd → Bool} {L : List Nd} {j : Nat} (hj : j < L.length) (hp : p L[j] = true) : rowD p L (j + 1) = rowD p L j := by
  have hk := kept_step p hj
  rw [hp] at hk
  unfold rowD
  rw [hk]; rfl
def DlRel (w : World) (bk o cap : Nat) (L : List Nd) (p : Nd → Bool) (i jv : Value) (W : World) : Prop :=
  ∃ j : Nat, j ≤ L.length ∧ jv = .int .i64 j ∧ i = .int .i64 (kept p (L.take j)).length ∧ (kept p (L.take j)).length < j ∧ NR W (.slice (some ⟨bk, o, none⟩) (rowD p L j).length cap) (rowD p L j) ∧ Ext (fun k => k = bk) w W
set_option maxHeartbeats 3200000 in
set_option maxRecDepth 100000 in
theorem delete41 (g : Nat) (cb : Array Value) (eg : ∀ args w, (callFunc g args).run Try.prog w = .ok (.enter g args) w) (bk o cap : Nat) (L : List Nd) (p : Nd → Bool) (w : World) (hr : NR w (.slice (some ⟨bk, o, none⟩) L.length cap) L) (ht : TstF w g cb L p (fun k => k = bk)) (hlen : L.length ≤ 1000000) :
    Calls Try.prog 41 #[.slice (some ⟨bk, o, none⟩) L.length cap, .func (.func g) #[] cb] w fun e w' => ∃ c', e = .returned (.slice (some ⟨bk, o, none⟩) (kept p L).length c') ∧ NR w' (.slice (some ⟨bk, o, none⟩) (kept p L).length c') (kept p L) ∧ Ext (fun k => k = bk) w w' := by
  have hrd := NR.rd hr
  have h63 : cap ≤ 9223372036854775807 := by have := hrd.cap.2; unfold maxLen at this; omega
  have hcap := hrd.cap.1
  have hidx := index30 g cb eg (some ⟨bk, o, none⟩) cap L p w hrd ht.plain hlen
  rcases idxF_spec p L 0 with ⟨h1, h2⟩ | ⟨i0, hi0, h1, h2, h3⟩
  · rw [h1] at hidx
    rw [kept_all h2]
    have HX := Lib.hid hidx
    have HR := Lib.hid hr
    clear hidx hr hrd h1 h2 ht
    go_enter Try.func41, Try.ntmps41
    go_wp2_with (go_at_call 30; (with_reducible refine HX.out.mono ?_); rintro e W1 ⟨rfl, x1⟩)
    go_ret
    exact ⟨cap, rfl, HR.out.ext x1 (fun _ _ h => h), x1.mono fun _ _ h => h.elim⟩
  · simp only [Nat.zero_add] at h1
    rw [h1] at hidx
    have hk0 : kept p (L.take (i0 + 1)) = L.take i0 := by
      rw [kept_step p hi0, h2, if_pos rfl, kept_all h3]
    have hl0 : (L.take i0).length = i0 := by rw [List.length_take]; omega
    have hrow0 : rowD p L (i0 + 1) = L := by
      unfold rowD; rw [hk0, hl0, List.take_append_drop]
    have hne : ¬ ((i0 : Int) = -1) := by omega
    have hne' : ((i0 : Int) == -1) = false := beq_eq_false_iff_ne.2 hne
    have HX := Lib.hid hidx
    have HR := Lib.hid hr
    have HT := Lib.hid ht
    have HK := Lib.hid (And.intro hk0 (And.intro hl0 hrow0))
    clear hidx hr hrd h1 h2 h3 hk0 hl0 hrow0 ht
    go_enter Try.func41, Try.ntmps41
    go_upto_region 5 with (go_at_call 30; (with_reducible refine HX.out.mono ?_); rintro e W1 ⟨rfl, x1⟩)
    obtain ⟨hk0, hl0, hrow0⟩ := HK.out
    go_loopw [5, 6] (fun i j W => DlRel w bk o cap L p i j W) (fun _ j _ => L.length - (intOf j).toNat)
    case atStart => exact ⟨i0 + 1, by omega, by go_num, by rw [hk0, hl0], by rw [hk0, hl0]; omega, by rw [hrow0]; exact HR.out.ext x1 (fun _ _ h => h), x1.mono fun _ _ h => h.elim⟩
    case round =>
      clear HK HX HR x1 hk0 hl0 hrow0
      obtain ⟨j, hj, rfl, rfl, hij, hrow, hx⟩ := hrel
      by_cases hlt : j < L.length
      · have k1 : (j : Int) < (L.length : Int) := by omega
        have hlr := rowD_len (p := p) (L := L) (j := j) (by omega)
        obtain ⟨ba, oa, hA, hba, hra⟩ := (NR.rd hrow).at' j (by omega)
        injection hA with hA
        injection hA with e1 e2
        subst e1; subst e2
        rw [rowD_at hlt] at hra
        have hN := sizeNd L[j]
        have hcall := fun W hW => HT.out L[j] (List.getElem_mem hlt) W hW
        have hks := kept_step p hlt
        have hrp := rowD_put (p := p) hlt
        have hrs := rowD_skip (p := p) hlt
        obtain ⟨V, hV⟩ : ∃ V, V = (nc L[j]).toArray := ⟨_, rfl⟩
        have lV : V.size = 34 := by rw [hV]; simp [nc_len]
        have sV : (Try.prog.info? 50).map (·.size) = some V.size := by rw [lV]; exact Try.size50
        have oV : V.all (·.oneCell') = true := by rw [hV]; exact all_oneCell_toArray (nc_one _)
        generalize L[j] = nd at *
        have x0 := Ext.alloc NoB wr (.cells V 50)
        have hbV : (wr.alloc (.cells V 50)).heap[wr.heap.size]? = some (.cells (nc nd).toArray 50 (0, 0)) := by rw [← hV]; exact heapNew _ _
        have hvne : wr.heap.size ≠ bk := by omega
        have HV := Lib.hid hV
        have HRA := Lib.hid hra
        have hxw1 := hx.then (x0.mono fun _ _ h => h.elim)
        have HC := Lib.hid (hcall _ hxw1)
        have HROW := Lib.hid hrow
        have HS := Lib.hid (And.intro hks (And.intro hrp hrs))
        clear hV hra hcall hrow hks hrp hrs
        generalize hkk : (kept p (L.take j)).length = i at *
        by_cases hp : p nd = true
        · rw [hp] at HC
          go_wp2_with (first
            | ((with_reducible show wpList _ _ _ (⟨_, .load 50 (.tmp 24), _, _, _, _⟩ :: _) _ _); refine wpList_load_arrm (by rfl) 50 _ rfl bk (o + j * 34) rfl (nc nd) _ HRA.out Try.underlying50 rfl hN ?_)
            | ((with_reducible show wpList _ _ _ (⟨_, .load 50 (.tmp 7), _, _, _, _⟩ :: _) _ _); refine wpList_load_arrm (by rfl) 50 _ rfl wr.heap.size 0 rfl (nc nd) _ (nd_box hbV) Try.underlying50 rfl hN ?_)
            | ((with_reducible show wpList _ _ _ (⟨_, .store 50 (.tmp 7) _, _, _, _, _⟩ :: _) _ _); refine wpList_store_new rfl 50 _ _ rfl wr.heap.size V rfl (by rw [HV.out]; rfl) rfl (by rw [lV]; rfl) sV oV ?_)
            | (go_at_fn g; (with_reducible refine HC.out.mono ?_); rintro e W2 ⟨rfl, x2⟩))
          have hk2 : kept p (L.take (j + 1)) = kept p (L.take j) := by rw [HS.out.1, hp, if_pos rfl]
          have hEND : DlRel w bk o cap L p (.int .i64 i) (.int .i64 ((j + 1 : Nat) : Int)) W2 := ⟨j + 1, by omega, rfl, by rw [hk2, hkk], by rw [hk2, hkk]; omega, by rw [HS.out.2.2 hp]; exact (HROW.out.ext x0 (fun _ _ h => h)).ext x2 (fun _ _ h => h), hxw1.trans x2 (fun _ _ h => h) (fun _ _ h => h.elim)⟩
          exact ⟨hEND, by simp [intOf]; omega⟩
        · have hp' : p nd = false := by simpa using hp
          rw [hp'] at HC
          have hput := fun W2 (x2 : Ext NoB (wr.alloc (.cells V 50)) W2) => NR.put ((HROW.out.ext x0 (fun _ _ h => h)).ext x2 (fun _ _ h => h)) (i := i) (by omega) nd
          have HPUT := Lib.hid hput
          clear hput
          go_wp2_with (first
            | ((with_reducible show wpList _ _ _ (⟨_, .load 50 (.tmp 24), _, _, _, _⟩ :: _) _ _); refine wpList_load_arrm (by rfl) 50 _ rfl bk (o + j * 34) rfl (nc nd) _ HRA.out Try.underlying50 rfl hN ?_)
            | ((with_reducible show wpList _ _ _ (⟨_, .load 50 (.tmp 7), _, _, _, _⟩ :: _) _ _); refine wpList_load_arrm (by rfl) 50 _ rfl wr.heap.size 0 rfl (nc nd) _ (nd_box hbV) Try.underlying50 rfl hN ?_)
            | ((with_reducible show wpList _ _ _ (⟨_, .load 50 (.tmp 7), _, _, _, _⟩ :: _) _ _); refine wpList_load_arrm (by rfl) 50 _ rfl wr.heap.size 0 rfl (nc nd) _ (nd_box (x2.obj hbV id)) Try.underlying50 rfl hN ?_)
            | ((with_reducible show wpList _ _ _ (⟨_, .store 50 (.tmp 7) _, _, _, _, _⟩ :: _) _ _); refine wpList_store_new rfl 50 _ _ rfl wr.heap.size V rfl (by rw [HV.out]; rfl) rfl (by rw [lV]; rfl) sV oV ?_)
            | ((with_reducible show wpList _ _ _ (⟨_, .store 50 (.tmp 33) _, _, _, _, _⟩ :: _) _ _); refine wpList_store_mid rfl 50 _ _ rfl bk (o + i * 34) _ rfl rfl hth (by rw [List.size_toArray]; exact hN) (all_oneCell_toArray (nc_one nd)) ?_)
            | (go_at_fn g; (with_reducible refine HC.out.mono ?_); rintro e W2 ⟨rfl, x2⟩; have HP := Lib.hid (HPUT.out _ x2); have hth : W2.there bk (o + i * 34) (nc nd).toArray.size := (by rw [List.size_toArray, nc_len]; exact HP.out.2.1)))
          have hk2 : kept p (L.take (j + 1)) = kept p (L.take j) ++ [nd] := by rw [HS.out.1, if_neg hp]
          have hkl : (kept p (L.take (j + 1))).length = i + 1 := by rw [hk2, List.length_append, hkk]; rfl
          have hrp : (rowD p L j).set i nd = rowD p L (j + 1) := HS.out.2.1 hp'
          have hq := HP.out
          rw [hrp] at hq
          have hEND : DlRel w bk o cap L p (.int .i64 ((i : Int) + 1)) (.int .i64 ((j + 1 : Nat) : Int)) (W2.setCells bk (o + i * 34) (nc nd)) := ⟨j + 1, by omega, rfl, by rw [hkl]; go_num, by rw [hkl]; omega, hq.1, (hxw1.trans x2 (fun _ _ h => h) (fun _ _ h => h.elim)).then hq.2.2⟩
          exact ⟨hEND, by simp [intOf]; omega⟩
      · have k1 : ¬ (j : Int) < (L.length : Int) := by omega
        obtain rfl : j = L.length := by omega
        have hlr := rowD_len (p := p) (L := L) (j := L.length) (Nat.le_refl _)
        rw [List.take_length] at hij ⊢
        have hfr := NR.front hrow (i := (kept p L).length) (by omega) (by omega)
        have htk : (rowD p L L.length).take (kept p L).length = kept p L := by unfold rowD; rw [List.take_length, List.take_left]
        rw [htk] at hfr
        obtain ⟨g', o', cap', cur, hv, hh, q1, q2, q3, q4⟩ := NR.lst hrow (by omega)
        injection hv with e1 e2 e3
        injection e1 with e1
        injection e1 with e1 e4
        subst e1; subst e4; subst e3
        generalize hkk : (kept p L).length = i at *
        have hth : wr.there bk (o + i * 34) ((L.length - i) * 34) := fun y hy => ⟨by
          rw [cellOf hh, Array.getElem?_eq_getElem (by omega)]; rfl, freeOf hh _⟩
        obtain ⟨zs, hzl, hcl⟩ := run_clear50 wr 0 bk (o + i * 34) (L.length - i) (cap - i) (by omega) hth
        have hil : i ≤ L.length := by omega
        have i3' : L.length ≤ cap := by omega
        have hic : i ≤ cap := by omega
        have i1 : (i : Int) ≤ (L.length : Int) := by omega
        have i2 : (i : Int) ≤ (cap : Int) := by omega
        have i3 : (L.length : Int) ≤ (cap : Int) := by omega
        have i4 : (i : Int) < (L.length : Int) := by omega
        have hbe : QRow (wr.setCells bk (o + i * 34) zs) 50 34 (.slice (some ⟨bk, o, none⟩) i cap) i (flatN (kept p L)) := by
          subst hkk
          exact NR.behind hfr ⟨cur, hh⟩ zs _ (Nat.le_refl _) (fun cur' h' => by
            rw [hh] at h'
            injection h' with h'
            injection h' with h'
            subst h'
            have := Nat.mul_le_mul_right 34 i3'
            omega)
        have hxe : Ext (fun k => k = bk) w (wr.setCells bk (o + i * 34) zs) := by
          obtain ⟨s1, s2, s3, s4⟩ := setCells_same' bk zs (o + i * 34) wr
          exact hx.then ⟨s1, s2, s3, by rw [s4]; exact Nat.le_refl _, fun k hk hn => setCells_far' _ _ k hn⟩
        have HE := Lib.hid (And.intro hbe hxe)
        clear hh q4 hth hrow htk hbe hxe hfr hx
        go_wp2_with fail
        go_ret
        exact ⟨cap, rfl, (by show QRow _ _ _ _ _ _; rw [hkk]; exact HE.out.1), HE.out.2⟩
end Go.Proofs.Ytdibjnlmeiikmaa
