/-
  The law DirectoryAll, walked.
-/
import Derived.Test.YtdibjnlmeiikmaaZm
import Derived.Deep.RegionHeld3
import Derived.Deep.MidRow
set_option linter.unusedVariables false
set_option linter.unusedSimpArgs false
namespace Go.Proofs.Ytdibjnlmeiikmaa
open Go.RowKit Go.Proofs

def Al1 (w : World) (L : List Nd) (K : Nat) (pv iv : Value) (W : World) : Prop :=
  ∃ (t : Nat) (p : Int), t ≤ L.length ∧ iv = .int .i64 t ∧ pv = .int .i64 p ∧ ((∃ n ∈ L, n.lay = (K : Int) - 1 ∧ n.id = p) ∨ ∀ n ∈ L.take t, n.lay ≠ (K : Int) - 1) ∧ Ext NoB w W
def Al2 (w : World) (L : List Nd) (iv : Value) (W : World) : Prop := ∃ t : Nat, t ≤ L.length ∧ iv = .int .i64 t ∧ Ext NoB w W
def Al3 (w : World) (q : Nat) (fv xv : Value) (W : World) : Prop := ∃ (x : Nat) (f : Bool), x ≤ 16 ∧ xv = .int .i64 x ∧ fv = .bool f ∧ (q < x → f = true) ∧ Ext NoB w W
theorem all_route (K : Nat) (p : Int) (L : List Nd) (k x : Nat) (bx : Nat) (hok : ∀ n ∈ L, NdOk n) (hlen : L.length ≤ 1000) (hE : chk (K : Int) L = 0) (hp : ∃ n ∈ layL L ((K : Int) - 1), n.id = p) (W : World) (A : Option Addr) (c : Nat) (hr : NRd W A c L) (hD : Dr W (some ⟨bx, 0, none⟩) 8 (D8 k x)) :
    Calls Try.prog 12 #[.agg #[.int .i64 K, .slice A L.length c], .int .i64 p, .agg #[.int .i64 4, .int .i64 0, .int .i64 0, .int .u8 0, .int .u8 0, .int .u8 0, .int .u8 0, .int .u8 0, .int .u8 0, .int .u8 0, .int .u8 0], .slice (some ⟨bx, 0, none⟩) 8 8] W fun e' w' => ∃ (e : Nd) (i : Int) (A' : Option Addr) (c' : Nat), e' = .returned (.tuple #[.int .i64 i, .slice A' K c', .int .i64 0]) ∧ HRd w' A' c' ((List.range K).map (hopAt K L (D8 k x) e M4)) ∧ K ≤ c' ∧ c' ≤ 9223372036854775807 ∧ Ext NoB W w' := by
  obtain ⟨l1, l5⟩ := chk_lay hE
  obtain ⟨e, _, _, h⟩ := route_good K p A (some ⟨bx, 0, none⟩) c 8 L (D8 k x) M4 W hr hok hlen hE M4_may (by decide) hp (by rw [D8_len]; omega) hD
  rw [D8_len] at h
  refine Calls.mono h ?_
  rintro e' w' ⟨A', c', rfl, hq, hx⟩
  have hl : ((List.range K).map (hopAt K L (D8 k x) e M4)).length = K := by simp
  have hq2 : HR w' (.slice A' ((List.range K).map (hopAt K L (D8 k x) e M4)).length c') ((List.range K).map (hopAt K L (D8 k x) e M4)) := by unfold HR GR; rw [hl]; exact hq
  have hrd := GR.rd hc_len (by decide) hq2
  have hc := hrd.cap
  rw [hl] at hc
  exact ⟨e, _, A', c', rfl, hrd, hc.1, by have := hc.2; unfold maxLen at this; omega, hx⟩
theorem make8 (w : World) : Sem.run Try.prog (Instr.makeSlice 36 (.int .i64 8) (.int .i64 8)) w = .ok (.slice (some ⟨w.heap.size, 0, none⟩) 8 8) (w.alloc (.cells (bys Z8).toArray 5)) := by kernel_rfl
theorem D8_set {w : World} {g k : Nat} (x : Int) (h : w.heap[g]? = some (.cells (bys Z8).toArray 5 (0, 0))) : (w.setCell ⟨g, 2 * k, none⟩ (.int .u8 x)).heap[g]? = some (.cells (bys (D8 k x)).toArray 5 (0, 0)) := by
  rw [heapSet h]
  unfold D8 bys Z8
  rw [List.map_set]
  simp
theorem hops_at {K k : Nat} (hk : k + 1 < K) (L : List Nd) (D : List Int) (e : Nd) {w : World} {A : Option Addr} {c : Nat} (h : HRd w A c ((List.range K).map (hopAt K L D e M4))) : ∃ b o, A = some ⟨b, o, none⟩ ∧ b < w.heap.size ∧ w.rangeAt b (o + k * 43) (bys (pickN L D k).key) := by
  obtain ⟨b, o, h1, h2, h3⟩ := h.at' k (by simp; omega)
  refine ⟨b, o, h1, h2, ?_⟩
  have := hp_key h3
  simp only [List.getElem_map, List.getElem_range] at this
  unfold hopAt at this
  rw [if_neg (by omega)] at this
  exact this
set_option maxHeartbeats 12800000 in
set_option maxRecDepth 100000 in
theorem all_walk (l : Int) (A : Option Addr) (c : Nat) (L : List Nd) (a : Int) (ha : 0 ≤ a ∧ a ≤ 255) (w : World) (hr : NRd w A c L) (hok : ∀ n ∈ L, NdOk n) :
    Calls Try.prog 3 #[dirv l A L.length c, .int .u8 a] w fun e w' => e = .returned (.bool true) ∧ Ext NoB w w' := by
  have h63 : c ≤ 9223372036854775807 := by have := hr.cap.2; unfold maxLen at this; omega
  have hcap := hr.cap.1
  have hb0 := heapNew w (.cells #[.int .i64 l, .slice A L.length c] 24)
  have x0 := Ext.alloc NoB w (.cells #[.int .i64 l, .slice A L.length c] 24)
  have HR := Lib.hid hr
  have HOK := Lib.hid hok
  unfold dirv
  clear hr hok
  go_enter Try.func3, Try.ntmps3
  go_upto_region 1 with fail
  generalize hW0 : w.alloc (.cells #[.int .i64 l, .slice A L.length c] 24) = W0 at *
  have hcl : ∀ W, Ext NoB W0 W → W.cell? ⟨w.heap.size, 0, none⟩ = some (.int .i64 l) ∧ W.cell? ⟨w.heap.size, 1, none⟩ = some (.slice A L.length c) := fun W hW => by
    have := hW.obj hb0 id
    exact ⟨by rw [cellOf this]; rfl, by rw [cellOf this]; rfl⟩
  have HCL := Lib.hid hcl
  clear hb0 hcl hW0
  go_upto_region 3 with (go_at_call 9; (with_reducible refine (alive9 _).mono ?_); rintro e W1 ⟨rfl, x1⟩)
  obtain ⟨d0, d1⟩ := HCL.out W1 x1
  by_cases hm : L.length ≤ 100
  · have hm1 : ¬ 100 < (L.length : Int) := by omega
    have HTH := Lib.hid fun W (hW : Ext NoB W0 W) => theirs11 l A c L W (HR.out.ext (x0.then hW) (fun _ _ _ h => h)) (by omega)
    have HCK := Lib.hid fun W A' c' (hn : NR W (.slice A' L.length c') L) => check10 l A' c' L W (NR.rd hn) HOK.out (by omega)
    unfold dirv at HTH HCK
    by_cases hE : chk l L = 0
    · have HE := Lib.hid hE
      obtain ⟨l1, l5⟩ := chk_lay hE
      have HGD := Lib.hid (chk_good hE)
      rw [hE] at HCK
      clear hE
      by_cases hl2 : l < 2
      · go_wp2_with (first
          | (go_at_call 11; (with_reducible refine (HTH.out _ x1).mono ?_); rintro e W2 ⟨A', c', rfl, hn, y, _⟩; have HN := Lib.hid hn; clear hn; have x2 := x1.then y)
          | (go_at_call 10; (with_reducible refine (HCK.out _ _ _ HN.out).mono ?_); rintro e W3 ⟨rfl, y3⟩; have x3 := x2.then y3; have dd := (HCL.out _ x3).1))
        go_ret
        exact ⟨rfl, x0.then x3⟩
      · go_upto_region 5 with (first
          | (go_at_call 11; (with_reducible refine (HTH.out _ x1).mono ?_); rintro e W2 ⟨A', c', rfl, hn, y, _⟩; have HN := Lib.hid hn; clear hn; have x2 := x1.then y)
          | (go_at_call 10; (with_reducible refine (HCK.out _ _ _ HN.out).mono ?_); rintro e W3 ⟨rfl, y3⟩; have x3 := x2.then y3; have dd := (HCL.out _ x3).1))
        obtain ⟨e0, e1⟩ := HCL.out _ x3
        obtain ⟨K, rfl⟩ : ∃ K : Nat, l = (K : Int) := ⟨l.toNat, by omega⟩
        clear d0 d1 dd HN HCK
        go_upto_region 7 with fail
        go_loopw [5, 37] (fun pv iv W => Al1 W0 L K pv iv W) (fun _ iv _ => L.length - (intOf iv).toNat)
        case atStart => exact ⟨0, 0, by omega, rfl, rfl, .inr (by simp), x3⟩
        case round =>
          clear x1 x2 y y3 x3 e0 e1
          obtain ⟨t, p, ht, rfl, rfl, hpn, hx⟩ := hrel
          by_cases hlt : t < L.length
          · have k1 : (t : Int) < (L.length : Int) := by omega
            obtain ⟨b, o, rfl, hb, hra⟩ := (HR.out.ext (x0.then hx) (fun _ _ _ h => h)).at' t hlt
            have htk : L.take (t + 1) = L.take t ++ [L[t]] := by rw [List.take_succ_eq_append_getElem hlt]
            have hin : L[t] ∈ L := List.getElem_mem hlt
            have hN : (Try.prog.info? 35).map (·.size) = some (nc L[t]).length := by rw [nc_len]; kernel_rfl
            generalize L[t] = nd at *
            obtain ⟨V, hV⟩ : ∃ V, V = (nc nd).toArray := ⟨_, rfl⟩
            have lV : V.size = 34 := by rw [hV]; simp [nc_len]
            have sV : (Try.prog.info? 35).map (·.size) = some V.size := by rw [lV]; kernel_rfl
            have oV : V.all (·.oneCell') = true := by rw [hV]; exact all_oneCell_toArray (nc_one nd)
            have hbV : (wr.alloc (.cells V 35)).heap[wr.heap.size]? = some (.cells (nc nd).toArray 35 (0, 0)) := by rw [← hV]; exact heapNew _ _
            have c0 := nd_id (nd_box hbV)
            have c33 := nd_lay (nd_box hbV)
            simp only [Nat.zero_add] at c33
            have hx2 := hx.andAlloc (.cells V 35)
            obtain ⟨e0, e1⟩ := HCL.out _ hx2
            have HVV := Lib.hid hV
            have HRA := Lib.hid hra
            have HTK := Lib.hid htk
            have HPN := Lib.hid hpn
            have HIN := Lib.hid hin
            clear hV hra hbV htk hpn hin
            generalize hI : nd.id = id' at *
            generalize hY : nd.lay = ly at *
            have HI := Lib.hid hI
            have HY := Lib.hid hY
            clear hI hY
            by_cases hla : ly = (K : Int) - 1
            · have hEND : Al1 W0 L K (.int .i64 id') (.int .i64 ((t + 1 : Nat) : Int)) (wr.alloc (.cells V 35)) := ⟨t + 1, id', by omega, rfl, rfl, .inl ⟨nd, HIN.out, by rw [HY.out, hla], HI.out⟩, hx2⟩
              have HEND := Lib.hid hEND
              subst hla
              clear hEND
              go_wp2_with (first
                | ((with_reducible show wpList _ _ _ (⟨_, .load 35 _, _, _, _, _⟩ :: _) _ _); refine wpList_load_arrm (by rfl) 35 _ rfl b (o + t * 34) rfl (nc nd) _ HRA.out Try.underlying35 rfl hN ?_)
                | ((with_reducible show wpList _ _ _ (⟨_, .store 35 _ _, _, _, _, _⟩ :: _) _ _); refine wpList_store_new rfl 35 _ _ rfl wr.heap.size V rfl (by rw [HVV.out]; rfl) rfl (by rw [lV]; rfl) sV oV ?_))
              exact ⟨by simpa using HEND.out, by simp [intOf]; omega⟩
            · have hEND : Al1 W0 L K (.int .i64 p) (.int .i64 ((t + 1 : Nat) : Int)) (wr.alloc (.cells V 35)) := ⟨t + 1, p, by omega, rfl, rfl, HPN.out.imp id (fun h n hn => by
                rw [HTK.out] at hn
                rcases List.mem_append.1 hn with hn | hn
                · exact h n hn
                · simp at hn; subst hn; rw [HY.out]; exact hla), hx2⟩
              have HEND := Lib.hid hEND
              have hlb : (ly == (K : Int) - 1) = false := beq_eq_false_iff_ne.2 hla
              clear hEND hla
              go_wp2_with (first
                | ((with_reducible show wpList _ _ _ (⟨_, .load 35 _, _, _, _, _⟩ :: _) _ _); refine wpList_load_arrm (by rfl) 35 _ rfl b (o + t * 34) rfl (nc nd) _ HRA.out Try.underlying35 rfl hN ?_)
                | ((with_reducible show wpList _ _ _ (⟨_, .store 35 _ _, _, _, _, _⟩ :: _) _ _); refine wpList_store_new rfl 35 _ _ rfl wr.heap.size V rfl (by rw [HVV.out]; rfl) rfl (by rw [lV]; rfl) sV oV ?_))
              exact ⟨by simpa using HEND.out, by simp [intOf]; omega⟩
          · have k1 : ¬ (t : Int) < (L.length : Int) := by omega
            obtain rfl : t = L.length := by omega
            rw [List.take_length] at hpn
            have hprov : ∃ n ∈ layL L ((K : Int) - 1), n.id = p := by
              rcases hpn with ⟨n, hn, h1, h2⟩ | h
              · exact ⟨n, mem_layL.2 ⟨hn, h1, (HGD.out.plc n hn).1, (HGD.out.plc n hn).2.1⟩, h2⟩
              · exfalso
                have hf := HGD.out.full (K - 1) (by omega)
                obtain ⟨n, hn⟩ := List.exists_mem_of_ne_nil _ hf
                have hn2 := List.mem_filter.1 hn
                exact h n hn2.1 (by have := of_decide_eq_true hn2.2; omega)
            have HPV := Lib.hid hprov
            clear hpn hprov
            obtain ⟨k, hk⟩ : ∃ k : Nat, a.tmod ((K : Int) - 1) = (k : Int) := ⟨(a.tmod ((K : Int) - 1)).toNat, by rw [Int.tmod_eq_emod_of_nonneg ha.1]; have := Int.emod_nonneg a (show (K : Int) - 1 ≠ 0 by omega); omega⟩
            have hkK : (k : Int) < (K : Int) - 1 := by rw [← hk, Int.tmod_eq_emod_of_nonneg ha.1]; exact Int.emod_lt_of_pos a (by omega)
            have hk0 : (((K : Int) - 1) == 0) = false := beq_eq_false_iff_ne.2 (by omega)
            have hk' : a % ((K : Int) - 1) = (k : Int) := by rw [← Int.tmod_eq_emod_of_nonneg ha.1]; exact hk
            have hwk := IntWalk.i64_in (k : Int) (by omega)
            have hwa := IntWalk.i64_in a (by omega)
            obtain ⟨e0, e1⟩ := HCL.out _ hx
            go_upto_region 14 with fail
            clear e0 e1 hk hk' hk0 hwa
            go_loopw [59] (fun iv W => Al2 W0 L iv W) (fun iv _ => L.length - (intOf iv).toNat)
            case atStart => exact ⟨0, by omega, rfl, hx⟩
            case round =>
              clear hx
              obtain ⟨t, ht, rfl, hx⟩ := hrel
              by_cases hlt : t < L.length
              · have k1 : (t : Int) < (L.length : Int) := by omega
                obtain ⟨b, o, rfl, hb, hra⟩ := (HR.out.ext (x0.then hx) (fun _ _ _ h => h)).at' t hlt
                have hin : L[t] ∈ L := List.getElem_mem hlt
                have hN : (Try.prog.info? 35).map (·.size) = some (nc L[t]).length := by rw [nc_len]; kernel_rfl
                generalize L[t] = nd at *
                obtain ⟨V, hV⟩ : ∃ V, V = (nc nd).toArray := ⟨_, rfl⟩
                have lV : V.size = 34 := by rw [hV]; simp [nc_len]
                have sV : (Try.prog.info? 35).map (·.size) = some V.size := by rw [lV]; kernel_rfl
                have oV : V.all (·.oneCell') = true := by rw [hV]; exact all_oneCell_toArray (nc_one nd)
                have hbV : (wr.alloc (.cells V 35)).heap[wr.heap.size]? = some (.cells (nc nd).toArray 35 (0, 0)) := by rw [← hV]; exact heapNew _ _
                have c33 := nd_lay (nd_box hbV)
                simp only [Nat.zero_add] at c33
                have hx2 := hx.andAlloc (.cells V 35)
                have HVV := Lib.hid hV
                have HRA := Lib.hid hra
                have HIN := Lib.hid hin
                have HBV := Lib.hid hbV
                clear hV hra hbV hin
                generalize hY : nd.lay = ly at *
                have HY := Lib.hid hY
                clear hY
                by_cases hla : ly = (k : Int)
                · subst hla
                  obtain ⟨q, hq16, hpick⟩ := pick_hit HGD.out HIN.out HY.out
                  have HPK := Lib.hid hpick
                  clear hpick
                  go_upto_region 19 with (first
                    | ((with_reducible show wpList _ _ _ (⟨_, .load 35 _, _, _, _, _⟩ :: _) _ _); refine wpList_load_arrm (by rfl) 35 _ rfl b (o + t * 34) rfl (nc nd) _ HRA.out Try.underlying35 rfl hN ?_)
                    | ((with_reducible show wpList _ _ _ (⟨_, .store 35 _ _, _, _, _, _⟩ :: _) _ _); refine wpList_store_new rfl 35 _ _ rfl wr.heap.size V rfl (by rw [HVV.out]; rfl) rfl (by rw [lV]; rfl) sV oV ?_))
                  clear c33
                  generalize hnb : wr.heap.size = nb at *
                  generalize wr.alloc (.cells V 35) = W4 at *
                  have hend2 : ∀ W, Ext NoB W4 W → Al2 W0 L (.int .i64 ((t + 1 : Nat) : Int)) W := fun W hW => ⟨t + 1, by omega, rfl, hx2.then hW⟩
                  have HEN2 := Lib.hid hend2
                  clear hend2 hx
                  go_loopw [11, 67] (fun fv xv W => Al3 W4 q fv xv W) (fun _ xv _ => 16 - (intOf xv).toNat)
                  case atStart => exact ⟨0, false, by omega, rfl, rfl, fun h => absurd h (by omega), Ext.refl _ _⟩
                  case round =>
                    obtain ⟨x, f, hx16, rfl, rfl, hf, hx⟩ := hrel
                    by_cases hxl : x < 16
                    · have k2 : (x : Int) < 16 := by omega
                      have hwx := IntWalk.i64_in (x : Int) (by omega)
                      have hw2k := IntWalk.i64_in (2 * (k : Int)) (by omega)
                      have t0 : 0 ≤ 2 * (k : Int) := by omega
                      have t1 : 2 * (k : Int) < 8 := by omega
                      have t2 : (2 * (k : Int)).toNat = 2 * k := by omega
                      have hwu : IntKind.u8.wrap (x : Int) = (x : Int) := by unfold IntKind.wrap; simp [IntKind.signed, IntKind.bits]; omega
                      have hx4 := hx2.then hx
                      have hmk := make8
                      go_upto_region 22 with fail
                      have hb5 := heapNew wr (.cells (bys Z8).toArray 5)
                      have x5 := Ext.alloc NoB wr (.cells (bys Z8).toArray 5)
                      have c5 : (wr.alloc (.cells (bys Z8).toArray 5)).cell? ⟨wr.heap.size, 2 * k, none⟩ = some (.int .u8 0) := by
                        rw [cellOf hb5, List.getElem?_toArray]
                        unfold bys Z8
                        rw [List.getElem?_map, List.getElem?_replicate, if_pos (by omega)]
                        rfl
                      have f5 := freeOf hb5 (2 * k)
                      have hs5 := D8_set (k := k) (x : Int) hb5
                      have hx5 := hx4.then x5
                      have hxs : Ext NoB W4 ((wr.alloc (.cells (bys Z8).toArray 5)).setCell ⟨wr.heap.size, 2 * k, none⟩ (.int .u8 x)) := (hx.then x5).andSet _ _ (fun h => absurd h (Nat.not_lt.2 hx.size))
                      generalize wr.alloc (.cells (bys Z8).toArray 5) = W5 at *
                      generalize wr.heap.size = bx at *
                      have HS5 := Lib.hid (And.intro hs5 hxs)
                      clear hmk hb5 x5 hs5 hxs
                      go_upto_region 23 with fail
                      clear c5 f5
                      obtain ⟨hs6, hx6⟩ := HS5.out
                      clear HS5
                      generalize W5.setCell ⟨bx, 2 * k, none⟩ (.int .u8 x) = W6 at *
                      have hD6 : Dr W6 (some ⟨bx, 0, none⟩) 8 (D8 k x) := by have := dr_box hs6 (by rw [D8_len]; decide) (D8_mem (by omega)); rw [D8_len] at this; exact this
                      have HD6 := Lib.hid hD6
                      have hx06 := hx2.then hx6
                      obtain ⟨e0, e1⟩ := HCL.out W6 hx06
                      clear hs6 hD6
                      go_upto_region 24 with (first
                        | (go_at_call 11; (with_reducible refine (HTH.out _ hx06).mono ?_); rintro e W7 ⟨A7, c7, rfl, hn7, y7, _⟩; have HN7 := Lib.hid hn7; clear hn7)
                        | (go_at_call 12; (with_reducible refine (all_route K p L k x bx HOK.out (by omega) HE.out HPV.out _ A7 c7 (NR.rd HN7.out) (HD6.out.ext y7)).mono ?_); rintro e' W8 ⟨ee, ii, A8, c8, rfl, hh8, hc8, hc9, y8⟩; have HH8 := Lib.hid hh8; clear hh8))
                      have hkK2 : (k : Int) < (K : Int) := by omega
                      go_upto_region 26 with fail
                      obtain ⟨b8, o8, rfl, hb8, hr8⟩ := hops_at (K := K) (k := k) (by omega) L (D8 k x) ee HH8.out
                      have hx8 := (hx6.then y7).then y8
                      have hrn8 := nd_key (nd_box (hx8.obj HBV.out id))
                      rw [Nat.zero_add] at hrn8
                      have hpq : x = q → pickN L (D8 k x) k = nd := fun h => HPK.out _ (by rw [D8_at (by omega), h])
                      generalize pickN L (D8 k x) k = pk at *
                      have HP8 := Lib.hid hpq
                      have hlk := pk.len
                      have hln := nd.len
                      have heq := Try.eql33 hlk hln
                      have sK8 : (Try.prog.info? 33).map (·.size) = some (bys pk.key).length := by rw [bys_length, hlk]; exact Try.size33
                      have sN8 : (Try.prog.info? 33).map (·.size) = some (bys nd.key).length := by rw [bys_length, hln]; exact Try.size33
                      have HF := Lib.hid hf
                      clear hpq hf e0 e1 HH8
                      cases f with
                      | true =>
                        refine wp_region_held_drew (S := fun W => W.rangeAt b8 (o8 + k * 43) (bys pk.key) ∧ W.rangeAt nb 1 (bys nd.key)) (by kernel_rfl) ⟨hr8, hrn8⟩ (fun hHeld => ?_)
                        refine wpAnyH_take (i := 0) (oi := ⟨some 95, _, _, _, _, _⟩) (v := .bool true) rfl (by kernel_rfl) (by kernel_rfl) (by kernel_rfl) (fun _ _ _ h => h) (Or.inl ⟨by rfl, fun w hSw => by (obtain ⟨s0, s1⟩ := hSw; go_simp)⟩) (by assumption) ?_
                        try simp only [Act.put, List.setIfInBounds_toArray, List.set_cons_zero, List.set_cons_succ]
                        refine wpAnyH_take (i := 1) (oi := ⟨some 96, _, _, _, _, _⟩) (v := .bool true) rfl (by kernel_rfl) (by kernel_rfl) (by kernel_rfl) (fun _ _ _ h => h) (Or.inl ⟨by rfl, fun w hSw => by (obtain ⟨s0, s1⟩ := hSw; go_simp)⟩) (by assumption) ?_
                        try simp only [Act.put, List.setIfInBounds_toArray, List.set_cons_zero, List.set_cons_succ]
                        refine wpAnyH_take (i := 2) (oi := ⟨some 97, _, _, _, _, _⟩) (v := undef) rfl (by kernel_rfl) (by kernel_rfl) (by kernel_rfl) (fun _ _ _ h => h) (Or.inr ⟨by kernel_rfl, rfl⟩) (by assumption) ?_
                        try simp only [Act.put, List.setIfInBounds_toArray, List.set_cons_zero, List.set_cons_succ]
                        refine wpAnyH_take (i := 3) (oi := ⟨some 98, _, _, _, _, _⟩) (v := undef) rfl (by kernel_rfl) (by kernel_rfl) (by kernel_rfl) (fun _ _ _ h => h) (Or.inr ⟨by kernel_rfl, rfl⟩) (by assumption) ?_
                        try simp only [Act.put, List.setIfInBounds_toArray, List.set_cons_zero, List.set_cons_succ]
                        refine wpAnyH_take (i := 4) (oi := ⟨some 99, _, _, _, _, _⟩) (v := undef) rfl (by kernel_rfl) (by kernel_rfl) (by kernel_rfl) (fun _ _ _ h => h) (Or.inr ⟨by kernel_rfl, rfl⟩) (by assumption) ?_
                        try simp only [Act.put, List.setIfInBounds_toArray, List.set_cons_zero, List.set_cons_succ]
                        refine wpAnyH_take (i := 5) (oi := ⟨some 100, _, _, _, _, _⟩) (v := undef) rfl (by kernel_rfl) (by kernel_rfl) (by kernel_rfl) (fun _ _ _ h => h) (Or.inr ⟨by kernel_rfl, rfl⟩) (by assumption) ?_
                        try simp only [Act.put, List.setIfInBounds_toArray, List.set_cons_zero, List.set_cons_succ]
                        refine wpAnyH_take (i := 6) (oi := ⟨some 101, _, _, _, _, _⟩) (v := undef) rfl (by kernel_rfl) (by kernel_rfl) (by kernel_rfl) (fun _ _ _ h => h) (Or.inr ⟨by kernel_rfl, rfl⟩) (by assumption) ?_
                        try simp only [Act.put, List.setIfInBounds_toArray, List.set_cons_zero, List.set_cons_succ]
                        refine wpAnyH_take (i := 7) (oi := ⟨some 102, _, _, _, _, _⟩) (v := undef) rfl (by kernel_rfl) (by kernel_rfl) (by kernel_rfl) (fun _ _ _ h => h) (Or.inr ⟨by kernel_rfl, rfl⟩) (by assumption) ?_
                        try simp only [Act.put, List.setIfInBounds_toArray, List.set_cons_zero, List.set_cons_succ]
                        refine wpAnyH_take (i := 8) (oi := ⟨some 103, _, _, _, _, _⟩) (v := undef) rfl (by kernel_rfl) (by kernel_rfl) (by kernel_rfl) (fun _ _ _ h => h) (Or.inr ⟨by kernel_rfl, rfl⟩) (by assumption) ?_
                        try simp only [Act.put, List.setIfInBounds_toArray, List.set_cons_zero, List.set_cons_succ]
                        refine wpAnyH_take (i := 9) (oi := ⟨some 104, _, _, _, _, _⟩) (v := undef) rfl (by kernel_rfl) (by kernel_rfl) (by kernel_rfl) (fun _ _ _ h => h) (Or.inr ⟨by kernel_rfl, rfl⟩) (by assumption) ?_
                        try simp only [Act.put, List.setIfInBounds_toArray, List.set_cons_zero, List.set_cons_succ]
                        refine wpAnyH_take (i := 10) (oi := ⟨some 105, _, _, _, _, _⟩) (v := .bool true) rfl (by kernel_rfl) (by kernel_rfl) (by kernel_rfl) (fun _ _ _ h => h) (Or.inl ⟨by rfl, fun w hSw => by (obtain ⟨s0, s1⟩ := hSw; go_simp)⟩) (by assumption) ?_
                        try simp only [Act.put, List.setIfInBounds_toArray, List.set_cons_zero, List.set_cons_succ]
                        refine wpAnyH_take (i := 11) (oi := ⟨some 11, _, _, _, _, _⟩) (v := .bool true) rfl (by kernel_rfl) (by kernel_rfl) (by kernel_rfl) (fun _ _ _ h => h) (Or.inl ⟨by rfl, fun w hSw => by (obtain ⟨s0, s1⟩ := hSw; go_simp)⟩) (by assumption) ?_
                        try simp only [Act.put, List.setIfInBounds_toArray, List.set_cons_zero, List.set_cons_succ]
                        refine wpAnyH_done (by kernel_rfl) ?_ _
                        have hEND : Al3 W4 q (.bool true) (.int .i64 ((x + 1 : Nat) : Int)) W8.drew := ⟨x + 1, true, by omega, rfl, rfl, fun _ => rfl, hx8.andDrew⟩
                        have HEND := Lib.hid hEND
                        clear hEND hHeld heq hr8 hrn8
                        go_wp2_with fail
                        exact ⟨by simpa using HEND.out, by simp [intOf]; omega⟩
                      | false =>
                        refine wp_region_held_drew (S := fun W => W.rangeAt b8 (o8 + k * 43) (bys pk.key) ∧ W.rangeAt nb 1 (bys nd.key)) (by kernel_rfl) ⟨hr8, hrn8⟩ (fun hHeld => ?_)
                        refine wpAnyH_take (i := 0) (oi := ⟨some 95, _, _, _, _, _⟩) (v := .bool false) rfl (by kernel_rfl) (by kernel_rfl) (by kernel_rfl) (fun _ _ _ h => h) (Or.inl ⟨by rfl, fun w hSw => by (obtain ⟨s0, s1⟩ := hSw; go_simp)⟩) (by assumption) ?_
                        try simp only [Act.put, List.setIfInBounds_toArray, List.set_cons_zero, List.set_cons_succ]
                        refine wpAnyH_take (i := 1) (oi := ⟨some 96, _, _, _, _, _⟩) (v := .bool false) rfl (by kernel_rfl) (by kernel_rfl) (by kernel_rfl) (fun _ _ _ h => h) (Or.inl ⟨by rfl, fun w hSw => by (obtain ⟨s0, s1⟩ := hSw; go_simp)⟩) (by assumption) ?_
                        try simp only [Act.put, List.setIfInBounds_toArray, List.set_cons_zero, List.set_cons_succ]
                        refine wpAnyH_take (i := 2) (oi := ⟨some 97, _, _, _, _, _⟩) (v := .slice (some ⟨b8, o8, none⟩) K c8) rfl (by kernel_rfl) (by kernel_rfl) (by kernel_rfl) (fun _ _ _ h => h) (Or.inl ⟨by rfl, fun w hSw => by (obtain ⟨s0, s1⟩ := hSw; go_simp)⟩) (by assumption) ?_
                        try simp only [Act.put, List.setIfInBounds_toArray, List.set_cons_zero, List.set_cons_succ]
                        refine wpAnyH_take (i := 3) (oi := ⟨some 98, _, _, _, _, _⟩) (v := .int .i64 k) rfl (by kernel_rfl) (by kernel_rfl) (by kernel_rfl) (fun _ _ _ h => h) (Or.inl ⟨by rfl, fun w hSw => by (obtain ⟨s0, s1⟩ := hSw; go_simp)⟩) (by assumption) ?_
                        try simp only [Act.put, List.setIfInBounds_toArray, List.set_cons_zero, List.set_cons_succ]
                        refine wpAnyH_take (i := 4) (oi := ⟨some 99, _, _, _, _, _⟩) (v := .pointer (some ⟨b8, o8 + k * 43, none⟩)) rfl (by kernel_rfl) (by kernel_rfl) (by kernel_rfl) (fun _ _ _ h => h) (Or.inl ⟨by rfl, fun w hSw => by (obtain ⟨s0, s1⟩ := hSw; go_simp)⟩) (by assumption) ?_
                        try simp only [Act.put, List.setIfInBounds_toArray, List.set_cons_zero, List.set_cons_succ]
                        refine wpAnyH_take (i := 5) (oi := ⟨some 100, _, _, _, _, _⟩) (v := .pointer (some ⟨b8, o8 + k * 43, none⟩)) rfl (by kernel_rfl) (by kernel_rfl) (by kernel_rfl) (fun _ _ _ h => h) (Or.inl ⟨by rfl, fun w hSw => by (obtain ⟨s0, s1⟩ := hSw; go_simp)⟩) (by assumption) ?_
                        try simp only [Act.put, List.setIfInBounds_toArray, List.set_cons_zero, List.set_cons_succ]
                        refine' wpAnyH_take (i := 6) (oi := ⟨some 101, _, _, _, _, _⟩) (v := _) rfl (by kernel_rfl) (by kernel_rfl) (by kernel_rfl) (fun _ _ _ h => h) (yieldsIf_load_mid (by rfl) 33 _ (by rfl) (b8) (o8 + k * 43) (by rfl) (bys pk.key) _ (fun w h => h.1) Try.underlying33 (by rfl) sK8) (by assumption) ?_
                        try simp only [Act.put, List.setIfInBounds_toArray, List.set_cons_zero, List.set_cons_succ]
                        refine wpAnyH_take (i := 7) (oi := ⟨some 102, _, _, _, _, _⟩) (v := .pointer (some ⟨nb, 1, none⟩)) rfl (by kernel_rfl) (by kernel_rfl) (by kernel_rfl) (fun _ _ _ h => h) (Or.inl ⟨by rfl, fun w hSw => by (obtain ⟨s0, s1⟩ := hSw; go_simp)⟩) (by assumption) ?_
                        try simp only [Act.put, List.setIfInBounds_toArray, List.set_cons_zero, List.set_cons_succ]
                        refine' wpAnyH_take (i := 8) (oi := ⟨some 103, _, _, _, _, _⟩) (v := _) rfl (by kernel_rfl) (by kernel_rfl) (by kernel_rfl) (fun _ _ _ h => h) (yieldsIf_load_mid (by rfl) 33 _ (by rfl) (nb) (1) (by rfl) (bys nd.key) _ (fun w h => h.2) Try.underlying33 (by rfl) sN8) (by assumption) ?_
                        try simp only [Act.put, List.setIfInBounds_toArray, List.set_cons_zero, List.set_cons_succ]
                        refine wpAnyH_take (i := 9) (oi := ⟨some 104, _, _, _, _, _⟩) (v := .bool (pk.key == nd.key)) rfl (by kernel_rfl) (by kernel_rfl) (by kernel_rfl) (fun _ _ _ h => h) (Or.inl ⟨by rfl, fun w hSw => by (obtain ⟨s0, s1⟩ := hSw; go_simp)⟩) (by assumption) ?_
                        try simp only [Act.put, List.setIfInBounds_toArray, List.set_cons_zero, List.set_cons_succ]
                        refine wpAnyH_take (i := 10) (oi := ⟨some 105, _, _, _, _, _⟩) (v := .bool (pk.key == nd.key)) rfl (by kernel_rfl) (by kernel_rfl) (by kernel_rfl) (fun _ _ _ h => h) (Or.inl ⟨by rfl, fun w hSw => by (obtain ⟨s0, s1⟩ := hSw; go_simp)⟩) (by assumption) ?_
                        try simp only [Act.put, List.setIfInBounds_toArray, List.set_cons_zero, List.set_cons_succ]
                        refine wpAnyH_take (i := 11) (oi := ⟨some 11, _, _, _, _, _⟩) (v := .bool (pk.key == nd.key)) rfl (by kernel_rfl) (by kernel_rfl) (by kernel_rfl) (fun _ _ _ h => h) (Or.inl ⟨by rfl, fun w hSw => by (obtain ⟨s0, s1⟩ := hSw; go_simp)⟩) (by assumption) ?_
                        try simp only [Act.put, List.setIfInBounds_toArray, List.set_cons_zero, List.set_cons_succ]
                        refine wpAnyH_done (by kernel_rfl) ?_ _
                        have hEND : Al3 W4 q (.bool (pk.key == nd.key)) (.int .i64 ((x + 1 : Nat) : Int)) W8.drew := ⟨x + 1, _, by omega, rfl, rfl, fun h => by
                          by_cases hq : q < x
                          · exact absurd (HF.out hq) (by decide)
                          · rw [HP8.out (by omega)]; simp, hx8.andDrew⟩
                        have HEND := Lib.hid hEND
                        clear hEND hHeld heq hr8 hrn8
                        go_wp2_with fail
                        exact ⟨by simpa using HEND.out, by simp [intOf]; omega⟩
                    · have k2 : ¬ (x : Int) < 16 := by omega
                      obtain rfl : f = true := hf (by omega)
                      go_wp2_with fail
                      exact ⟨by simpa using HEN2.out _ hx, by simp [intOf]; omega⟩
                · have hEND : Al2 W0 L (.int .i64 ((t + 1 : Nat) : Int)) (wr.alloc (.cells V 35)) := ⟨t + 1, by omega, rfl, hx2⟩
                  have HEND := Lib.hid hEND
                  have hlb : (ly == (k : Int)) = false := beq_eq_false_iff_ne.2 hla
                  clear hEND hla
                  go_wp2_with (first
                    | ((with_reducible show wpList _ _ _ (⟨_, .load 35 _, _, _, _, _⟩ :: _) _ _); refine wpList_load_arrm (by rfl) 35 _ rfl b (o + t * 34) rfl (nc nd) _ HRA.out Try.underlying35 rfl hN ?_)
                    | ((with_reducible show wpList _ _ _ (⟨_, .store 35 _ _, _, _, _, _⟩ :: _) _ _); refine wpList_store_new rfl 35 _ _ rfl wr.heap.size V rfl (by rw [HVV.out]; rfl) rfl (by rw [lV]; rfl) sV oV ?_))
                  exact ⟨by simpa using HEND.out, by simp [intOf]; omega⟩
              · have k1 : ¬ (t : Int) < (L.length : Int) := by omega
                go_wp2_with fail
                go_ret
                exact ⟨rfl, x0.then hx⟩
    · have hEb : (chk l L == 0) = false := beq_eq_false_iff_ne.2 hE
      generalize chk l L = q at *
      go_wp2_with (first
        | (go_at_call 11; (with_reducible refine (HTH.out _ x1).mono ?_); rintro e W2 ⟨A', c', rfl, hn, y, _⟩; have HN := Lib.hid hn; clear hn; have x2 := x1.then y)
        | (go_at_call 10; (with_reducible refine (HCK.out _ _ _ HN.out).mono ?_); rintro e W3 ⟨rfl, y3⟩; have x3 := x2.then y3))
      go_ret
      exact ⟨rfl, x0.then x3⟩
  · have hm1 : 100 < (L.length : Int) := by omega
    go_wp2_with fail
    go_ret
    exact ⟨rfl, x0.then x1⟩
end Go.Proofs.Ytdibjnlmeiikmaa
