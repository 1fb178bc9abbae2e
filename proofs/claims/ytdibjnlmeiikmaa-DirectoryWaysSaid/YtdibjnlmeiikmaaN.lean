/-
  twice: the walk.
-/
import Derived.Test.YtdibjnlmeiikmaaM
set_option linter.unusedVariables false
set_option linter.unusedSimpArgs false
namespace Go.Proofs.Ytdibjnlmeiikmaa
open Go.RowKit Go.Maps

abbrev ids (L : List Nd) : List Int := L.map (·.id)
set_option maxHeartbeats 3200000 in
set_option maxRecDepth 100000 in
theorem twice26 (layers : Int) (A : Option Addr) (c : Nat) (L : List Nd) (w : World) (hr : NRd w A c L) (hok : ∀ n ∈ L, NdOk n) (hlen : L.length ≤ 1000) :
    Calls Try.prog 26 #[.agg #[.int .i64 layers, .slice A L.length c]] w fun e w' => e = .returned (.bool (!decide (ids L).Nodup)) ∧ Ext NoB w w' := by
  have h63 : c ≤ 9223372036854775807 := by have := hr.cap.2; unfold maxLen at this; omega
  have hcap := hr.cap.1
  have hmm := @run_makeMap Try.prog
  have hx0 := Ext.alloc NoB w (.cells #[.int .i64 layers, .slice A L.length c] 30)
  have hbx := heapNew w (.cells #[.int .i64 layers, .slice A L.length c] 30)
  have hr0 := hr.ext hx0 (fun _ _ _ h => h)
  have d1 : (w.alloc (.cells #[.int .i64 layers, .slice A L.length c] 30)).cell? ⟨w.heap.size, 1, none⟩ = some (.slice A L.length c) := by rw [cellOf hbx]; rfl
  have d1' := (Ext.alloc NoB _ (.map #[] 0)).cell d1 id
  have hs0 := SM.new (w.alloc (.cells #[.int .i64 layers, .slice A L.length c] 30))
  have hx1 := hx0.andAlloc (.map #[] 0)
  have hr1 := hr0.ext (Ext.alloc NoB _ (.map #[] 0)) (fun _ _ _ h => h)
  have HRR := Lib.hid (And.intro hs0 (And.intro hx1 hr1))
  have HOLD : Hid (∀ i, i < L.length → ∃ b o, A = some ⟨b, o, none⟩ ∧ b < w.heap.size ∧ True) := Lib.hid fun i hi => by obtain ⟨b, o, h1, h2, _⟩ := hr.at' i hi; exact ⟨b, o, h1, h2, trivial⟩
  clear hr hr0 hs0 hx1 hr1 hx0 hbx d1
  go_enter Try.func26, Try.ntmps26
  go_wp2_with fail
  obtain ⟨hs1, hx1, hr1⟩ := HRR.out
  clear HRR
  have hmb : (w.alloc (.cells #[.int .i64 layers, .slice A L.length c] 30)).heap.size = w.heap.size + 1 := by simp
  rw [hmb] at hs1
  generalize World.alloc (World.alloc w _) _ = W1 at *
  have hm1 := hs1.lt
  generalize hbb : w.heap.size = b at *
  have HR := Lib.hid hr1
  have HOK := Lib.hid hok
  clear hr1 hmb hok
  go_loopw [10] (fun i W => ∃ k : Nat, k ≤ L.length ∧ i = .int .i64 k ∧ SM W (b + 1) ((ids L).take k) ∧ Ext (fun k => k = b + 1) W1 W) (fun i _ => L.length - (intOf i).toNat)
  case atStart => exact ⟨0, by omega, rfl, hs1, Ext.refl _ _⟩
  case round =>
    clear hs1
    obtain ⟨k, hk, rfl, hsm, hx⟩ := hrel
    by_cases hlt : k < L.length
    · have k1 : (k : Int) < (L.length : Int) := by omega
      have hbw : b < wr.heap.size := by have := hx.size; omega
      obtain ⟨ba, oa, rfl, hb, hra⟩ := HR.out.at' k hlt
      have hne : ba ≠ b + 1 := fun e => by
        obtain ⟨b2, o2, e2, hb2, _⟩ := HOLD.out k hlt
        injection e2 with e2
        injection e2 with e2
        omega
      have hrw := hx.range hra hne
      have hN := sizeNd L[k]
      have hnok := HOK.out L[k] (List.getElem_mem hlt)
      have htk : (ids L).take (k + 1) = (ids L).take k ++ [L[k].id] := by
        rw [List.take_succ_eq_append_getElem (by simpa using hlt)]; simp
      generalize L[k] = nd at *
      obtain ⟨V, hV⟩ : ∃ V, V = (nc nd).toArray := ⟨_, rfl⟩
      have lV : V.size = 34 := by rw [hV]; simp [nc_len]
      have sV : (Try.prog.info? 50).map (·.size) = some V.size := by rw [lV]; exact Try.size50
      have oV : V.all (·.oneCell') = true := by rw [hV]; exact all_oneCell_toArray (nc_one nd)
      have hbV : (wr.alloc (.cells V 50)).heap[wr.heap.size]? = some (.cells (nc nd).toArray 50 (0, 0)) := by rw [← hV]; exact heapNew _ _
      have c0 := nd_id (nd_box hbV)
      have hs2 := hsm.ext (Ext.alloc NoB wr (.cells V 50)) id
      obtain ⟨cc, w3, hcc, hlk, hup, hs3, x3⟩ := hs2.incr hnok.id (by simp; omega)
      obtain ⟨cc1, cc2⟩ := hcc
      have HV := Lib.hid hV
      have HRW := Lib.hid hrw
      have HEND := Lib.hid (show SM w3 (b + 1) ((ids L).take (k + 1)) ∧ Ext (fun k => k = b + 1) W1 w3 from ⟨by rw [htk]; exact hs3, (hx.andAlloc _).then x3⟩)
      clear hV hbV hs2 hs3 x3 htk hra hrw hnok hsm hx
      go_wp2_with (first
        | ((with_reducible show wpList _ _ _ (⟨_, .load 50 _, _, _, _, _⟩ :: _) _ _); refine wpList_load_arrm (by rfl) 50 _ rfl ba (oa + k * 34) rfl (nc nd) _ HRW.out Try.underlying50 rfl hN ?_)
        | ((with_reducible show wpList _ _ _ (⟨_, .store 50 _ _, _, _, _, _⟩ :: _) _ _); refine wpList_store_new rfl 50 _ _ rfl wr.heap.size V rfl (by rw [HV.out]; rfl) rfl (by rw [lV]; rfl) sV oV ?_))
      exact ⟨⟨k + 1, by omega, by go_num, HEND.out⟩, by simp [intOf]; omega⟩
    · have k1 : ¬ (k : Int) < (L.length : Int) := by omega
      obtain rfl : k = L.length := by omega
      have e1 : (ids L).take L.length = ids L := by rw [List.take_of_length_le (by simp)]
      rw [e1] at hsm
      have hlen1 := hsm.len 3
      have d2 := hx.cell d1' (by show ¬ (b = b + 1); omega)
      have hdl := dd_lt (ids L)
      have hil : (ids L).length = L.length := by simp
      have hxf : Ext NoB w wr := hx1.trans hx (fun _ _ h => h) (fun k hk h => by omega)
      by_cases hn : (ids L).Nodup
      · have hge : ¬ ((dd (ids L)).length : Int) < (L.length : Int) := by
          have : ¬ (dd (ids L)).length < (ids L).length := fun h => hdl.1 h hn
          omega
        have HN : Hid ((!decide (ids L).Nodup) = false) := Lib.hid (by simpa using hn)
        clear hdl hn hil hsm
        go_wp2_with fail
        go_ret
        exact ⟨by rw [HN.out]; rfl, hxf⟩
      · have hge : ((dd (ids L)).length : Int) < (L.length : Int) := by
          have := hdl.2 hn
          omega
        have HN : Hid ((!decide (ids L).Nodup) = true) := Lib.hid (by simpa using hn)
        clear hdl hn hil hsm
        go_wp2_with fail
        go_ret
        exact ⟨by rw [HN.out]; rfl, hxf⟩
end Go.Proofs.Ytdibjnlmeiikmaa
