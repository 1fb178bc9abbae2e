/-
  slices.SortFunc at nodes, by Id.
-/
import Derived.Test.YtdibjnlmeiikmaaQ
import Derived.Test.YtdibjnlmeiikmaaLay
set_option linter.unusedVariables false
set_option linter.unusedSimpArgs false
namespace Go.Proofs.Ytdibjnlmeiikmaa
open Go.RowKit Go.Sort Go.Shelf Go.Proofs

def cfN (x y : Nd) : Int := cmpI x.id y.id
theorem lt_cfN (x y : Nd) : ltOf cfN x y = decide (x.id < y.id) := by
  unfold ltOf cfN cmpI
  split
  · simp [*]
  · split
    · simp; omega
    · simp; omega
theorem swoN : SWO (ltOf cfN) := ⟨fun x => by rw [lt_cfN]; simp, fun x y z h1 h2 => by rw [lt_cfN] at *; simp at *; omega, fun x y z h1 h2 => by rw [lt_cfN] at *; simp at *; omega⟩
theorem grow_two (W : World) (a b : Obj) (n : Nat) : ((W.alloc a).alloc b).drewN n = grow (W.drewN n) #[a, b] := by
  unfold grow World.alloc World.drewN
  congr 1
theorem cmpFn45 (x y : Nd) (W : World) : Calls Try.prog 45 #[.agg (nc x).toArray, .agg (nc y).toArray] W fun e w' => e = .returned (.int .i64 (cfN x y)) ∧ ∃ q os', w' = grow (W.drewN q) os' := by
  have hbx := heapNew W (.cells (nc x).toArray 50)
  have hx1 := (Ext.alloc NoB (W.alloc (.cells (nc x).toArray 50)) (.cells (nc y).toArray 50)).obj hbx id
  have hb2 : ((W.alloc (.cells (nc x).toArray 50)).alloc (.cells (nc y).toArray 50)).heap[W.heap.size + 1]? = some (.cells (nc y).toArray 50 (0, 0)) := heapNew' _ _ _ (by simp)
  have c0 := nd_id (nd_box hx1)
  have c1 := nd_id (nd_box hb2)
  clear hbx hx1 hb2
  have hcm := compare46 x.id y.id
  unfold cfN
  generalize hV : (nc x).toArray = V at *
  generalize hU : (nc y).toArray = U at *
  clear hV hU
  go_enter Try.func45, Try.ntmps45
  go_wp2_with (go_at_call 46; (with_reducible refine (hcm _).mono ?_); rintro e W2 ⟨rfl, m, rfl⟩)
  go_ret
  exact ⟨rfl, m, _, grow_two W _ _ m⟩
theorem size_flatN (L : List Nd) : (flatK nc 34 L.toArray) = (flatN L).toArray := by
  apply Array.ext_getElem?
  intro j
  by_cases hj : j < L.length * 34
  · have hd : j = (j / 34) * 34 + j % 34 := by omega
    have hq : j / 34 < L.length := by omega
    have hr := Nat.mod_lt j (show 0 < 34 by decide)
    have e0 : (flatN L).toArray[j]? = (nc L[j / 34])[j % 34]? := by
      rw [List.getElem?_toArray]
      have := flatN_at L (j / 34) (j % 34) hr hq
      rw [← hd, List.getElem?_eq_getElem hq] at this
      exact this
    rw [e0]
    unfold flatK
    have hj2 : j < L.toArray.size * 34 := by simpa using hj
    rw [Array.getElem?_map, Array.getElem?_range, if_pos hj2]
    simp only [Option.map_some]
    have e1 : L.toArray[j / 34]! = L[j / 34] := by rw [getElem!_pos L.toArray _ (by simpa using hq)]; rfl
    rw [e1, getElem!_pos (nc L[j / 34]) _ (by rw [nc_len]; exact hr), List.getElem?_eq_getElem (by rw [nc_len]; exact hr)]
  · rw [Array.getElem?_eq_none (by simp [flatK]; omega), Array.getElem?_eq_none (by simp [flatN_length]; omega)]
/-- What a world of the sort's is. -/
theorem sortWorld_row {w : World} {bk o cap : Nat} {L M : List Nd} (h : NR w (.slice (some ⟨bk, o, none⟩) L.length cap) L) (hn : 0 < L.length) (hl : M.length = L.length) (n : Nat) (os : Array Obj) :
    NR (sortWorldK nc 34 w bk o n M.toArray os) (.slice (some ⟨bk, o, none⟩) M.length cap) M ∧ Ext (fun k => k = bk) w (sortWorldK nc 34 w bk o n M.toArray os) := by
  obtain ⟨g', o', cap', cur, hv, hh, h1, h2, h3, h4⟩ := NR.lst h hn
  injection hv with e1 e2 e3
  injection e1 with e1
  injection e1 with e1 e4
  subst e1; subst e4; subst e3
  have hlt := blk_lt' hh
  have hfl := flatN_length M
  have hb : (sortWorldK nc 34 w bk o n M.toArray os).heap[bk]? = some (.cells (putCells id o (flatN M).toArray cur) 50 (0, 0)) := by
    show ((w.heap.modify bk (onCells (putCells id o (flatK nc 34 M.toArray)))) ++ os)[bk]? = _
    rw [Array.getElem?_append_left (by simpa using hlt), Array.getElem?_modify, if_pos rfl, hh, size_flatN]
    rfl
  refine ⟨⟨hfl, .inr ⟨bk, o, cap, _, rfl, hb, by omega, h2, by simpa [putCells] using h3, fun j hj => ?_⟩⟩, rfl, rfl, rfl, ?_, fun k hk hne => ?_⟩
  · have hjc : o + j < cur.size := by omega
    simp only [putCells, Array.getElem?_mapIdx, Array.getElem?_eq_getElem hjc, Option.map_some, List.size_toArray]
    rw [if_pos (by omega), show o + j - o = j by omega]
    rw [getElem!_pos (flatN M).toArray j (by simpa using hj), List.getElem?_eq_getElem hj]
    rfl
  · show w.heap.size ≤ ((w.heap.modify bk _) ++ os).size
    simp
  · show ((w.heap.modify bk _) ++ os)[k]? = _
    rw [Array.getElem?_append_left (by simpa using hk), Array.getElem?_modify, if_neg (fun e => hne e.symm)]
theorem enters45 (args : Array Value) (w : World) : (callFunc 45 args).run Try.prog w = .ok (.enter 45 args) w := enters_of Try.func45 (by kernel_rfl) rfl args w
theorem agg50 (w : World) : (isAgg 50).run Try.prog w = .ok true w := by kernel_rfl
theorem sz50 (w : World) : (Go.sizeOf 50).run Try.prog w = .ok 34 w := by kernel_rfl
theorem sort44 (bk o cap : Nat) (L : List Nd) (w : World) (h : NR w (.slice (some ⟨bk, o, none⟩) L.length cap) L) (hn : 0 < L.length) (hlen : L.length ≤ 1000000) :
    Calls Try.prog 44 #[.slice (some ⟨bk, o, none⟩) L.length cap, .func (.func 45) #[] #[]] w fun e w' => e = .returned (.tuple #[]) ∧ ∃ M : List Nd, M.Perm L ∧ M.Pairwise (fun a b => a.id ≤ b.id) ∧ NR w' (.slice (some ⟨bk, o, none⟩) M.length cap) M ∧ Ext (fun k => k = bk) w w' := by
  have hcmp : CmpLays Try.prog 45 #[] nc 34 cfN bk o L.toArray.size w := fun m os dk _ x y => cmpFn45 x y _
  have hH : HoldsK nc 34 w bk o L.toArray := by
    intro j hj
    rw [size_flatN] at hj ⊢
    obtain ⟨g', o', cap', hv, q1, q2, q3, q4⟩ := QRow.form h hn
    injection hv with e1 e2 e3
    injection e1 with e1
    injection e1 with e1 e4
    subst e1; subst e4; subst e3
    have hj' : j < (flatN L).length := by simpa using hj
    refine ⟨?_, q4 _⟩
    rw [q3 j (by rw [flatN_length] at hj'; exact hj'), getElem!_pos (flatN L).toArray j hj, List.getElem?_eq_getElem hj']
    rfl
  obtain ⟨g', o', cap', cur, hv, hh, _⟩ := NR.lst h hn
  injection hv with e1 e2 e3
  injection e1 with e1
  injection e1 with e1 e4
  subst e1
  have hs := AnyQ.slices_SortFunc (P := Try.prog) (ρ := Try.sortL_ren) Try.sortL 34 agg50 sz50 nc nc_len nc_one cfN swoN 45 #[] bk o cap L.toArray w enters45 hcmp hH (blk_lt' hh) (by simp; omega)
  have hs' : Calls Try.prog 44 #[.slice (some ⟨bk, o, none⟩) L.length cap, .func (.func 45) #[] #[]] w fun e w' => e = .returned (.tuple #[]) ∧ ∃ d' n os, PermIn 0 L.toArray.size L.toArray d' ∧ SortedIn (ltOf cfN) 0 L.toArray.size d' ∧ w' = sortWorldK nc 34 w bk o n d' os := hs
  refine hs'.mono fun e w' ⟨he, d', n, os, ⟨p1, p2, p3⟩, hsr, hw⟩ => ⟨he, d'.toList, ?_, ?_, ?_⟩
  · have e1 : d'.extract 0 L.toArray.size = d' := by rw [← p1]; simp
    have e2 : L.toArray.extract 0 L.toArray.size = L.toArray := by simp
    rw [e1, e2] at p3
    exact p3
  · rw [List.pairwise_iff_getElem]
    intro i j hi hj hij
    have hd : d'.toList.length = L.length := by simpa using p1
    have := hsr i j (Nat.zero_le _) hij (by simp; omega)
    rw [lt_cfN, getElem!_pos d' j (by simpa using hj), getElem!_pos d' i (by simpa using hi)] at this
    simp at this
    simpa using this
  · subst hw
    have := sortWorld_row h hn (M := d'.toList) (by simpa using p1) n os
    simpa using this
end Go.Proofs.Ytdibjnlmeiikmaa
