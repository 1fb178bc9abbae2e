/-
  ReplayOnce returns true: the walk.
-/
import Derived.Test.YteidkdbngjhopaaBb
set_option linter.unusedVariables false
set_option linter.unusedSimpArgs false
namespace Go.Proofs.Yteidkdbngjhopaa
open Go.RowKit Go.Maps

def OnRel (w : World) (p tb : Nat) (size : Int) (k : Nat) (lo : Value) (W : World) : Prop := ∃ low T F, lo = .int .i64 low ∧ TS w W p tb size low T F ∧ T.length ≤ k
def GoRel (W0 : World) (tb : Nat) (T : List Ent) (D : DataW Unit) (W : World) : Prop :=
  ∃ (left : Lit → Bool) (cnt : Nat), W.ranges Try.prog 49 pE tb W0.heap.size T.length D left cnt ∧ (∀ kl, left kl = true → Maps.has D kl = true) ∧ Ext NoB W0 W
theorem ent49_gen {w : World} {b : Nat} {g : Int} {B : List Value} (h : w.heap[b]? = some (.cells (.int .i64 g :: B).toArray 49 (0, 0))) : w.cell? ⟨b, 0, none⟩ = some (.int .i64 g) := by rw [cellOf h]; rfl
theorem ent49_range {w : World} {b : Nat} {g : Int} {B : List Value} (h : w.heap[b]? = some (.cells (.int .i64 g :: B).toArray 49 (0, 0))) : w.rangeAt b 1 B := fun j v hj => by
  rw [cellOf h, List.getElem?_toArray, Nat.add_comm, List.getElem?_cons_succ]; exact hj
theorem ax49 : (Try.prog.info? 49).map (·.size) = some 17 := by kernel_rfl
set_option maxHeartbeats 12800000 in
set_option maxRecDepth 100000 in
theorem once_walk (size : Int) (hs0 : 0 ≤ size) (hs1 : size ≤ 255) (A0 : Option Addr) (n c0 : Nat) (w : World) (ha : Acts w A0 n) :
    Calls Try.prog 4 #[.int .u8 size, .slice A0 n c0] w fun e w' => e = .returned (.bool true) ∧ Below w.heap.size w w' := by
  have hn63 := ha.1
  unfold maxLen at hn63
  have Ha := Lib.hid ha
  clear ha
  have z0 : 0 ≤ size % 8 := by omega
  have z9 : size % 8 ≤ 7 := by omega
  have z1 : 1 ≤ size % 8 + 1 := by omega
  have z2 : size % 8 + 1 ≤ 4096 := by omega
  have hmm := @run_makeMap Try.prog
  go_enter Try.func4, Try.ntmps4
  go_upto_region 6 with (first
    | (go_at_call 7; refine (alive_any _).mono ?_; rintro e W1 ⟨rfl, x1⟩)
    | (go_at_call 8; refine (new_yes (size % 8 + 1) z1 z2 _).mono ?_; rintro e W2 ⟨rfl, h2, x2⟩))
  have hzz := x1.size
  have hTS : TS w (W2.alloc (.map #[] 0)) (W1.heap.size + 1) W2.heap.size (size % 8 + 1) 0 [] (fun k => w.heap.size ≤ k ∧ k < W2.heap.size) :=
    ⟨(h2.mono fun k hk hf => ⟨Nat.le_trans x1.size hf, hk⟩).ext (Ext.alloc NoB _ _) (fun _ _ h => h), TM.new _, fun k hk => ⟨hk.1, by have := hk.2; omega, by have := hk.2; simp; omega⟩, ((x1.then x2).andAlloc _).below (Nat.le_refl _) fun _ h => h.elim, Nat.le_trans x1.size x2.size⟩
  have hR0 : OnRel w (W1.heap.size + 1) W2.heap.size (size % 8 + 1) 0 (.int .i64 0) (W2.alloc (.map #[] 0)) := ⟨0, [], _, rfl, hTS, by simp⟩
  clear hTS h2
  obtain ⟨p, hp⟩ : ∃ p, p = W1.heap.size + 1 := ⟨_, rfl⟩
  obtain ⟨tb, htb⟩ : ∃ tb, tb = W2.heap.size := ⟨_, rfl⟩
  rw [← hp, ← htb] at hR0
  go_wp2_with fail
  rw [← hp, ← htb]
  generalize W2.alloc _ = W3 at hR0 ⊢
  clear hp htb x2 x1 hzz
  generalize size % 8 + 1 = room at *
  go_loopw [7, 8] (fun lo i W => ∃ k : Nat, k ≤ n ∧ k ≤ 120 ∧ i = .int .i64 k ∧ OnRel w p tb room k lo W) (fun _ i _ => n - (intOf i).toNat)
  case atStart => exact ⟨0, Nat.zero_le _, Nat.zero_le _, rfl, hR0⟩
  case round =>
    clear hR0
    obtain ⟨k, hk, hk2, rfl, low, T, F, rfl, hR, hTk⟩ := hrel
    by_cases hlt : k < n
    · by_cases hlt2 : k < 120
      · have k1 : (k : Int) < (n : Int) := by omega
        have k2 : (k : Int) < 120 := by omega
        obtain ⟨b, o, kd, g, t, rfl, hb, hkd, hwf, ht, hra⟩ := Ha.out.at' hR.x hlt
        have HRA := Lib.hid hra
        have sX : (Try.prog.info? 32).map (·.size) = some (acs kd g (tvs t)).length := by rw [show (acs kd g (tvs t)).length = 18 by simp [ht.len]]; exact ax32
        have lA := tvs_len ht
        have sA : (Try.prog.info? 30).map (·.size) = some (tvs t).length := by rw [lA]; exact size30
        have hA : (tv t).size = 16 := by rw [List.size_toArray]; exact lA
        clear hra
        obtain ⟨V, hV⟩ : ∃ V, V = (acs kd g (tvs t)).toArray := ⟨_, rfl⟩
        have lV : V.size = 18 := by rw [hV]; simp [ht.len]
        have sV : (Try.prog.info? 32).map (·.size) = some V.size := by rw [lV]; exact ax32
        have oV : V.all (·.oneCell') = true := by rw [hV]; exact all_oneCell_toArray (fun v hv => by rcases List.mem_cons.1 hv with rfl | hv; rfl; rcases List.mem_cons.1 hv with rfl | hv; rfl; exact tvs_one t v hv)
        have x0 := Ext.alloc NoB wr (.cells V 32)
        have hv0 : (wr.alloc (.cells V 32)).heap[wr.heap.size]? = some (.cells (acs kd g (tvs t)).toArray 32 (0, 0)) := by rw [← hV]; exact heapNew _ _
        have HVE := Lib.hid hV
        clear hV
        have hR1 := hR.ext x0
        have hvn : tb ≠ wr.heap.size := fun e => by have := hR.tm.lt; omega
        have hvF : ¬ F wr.heap.size := fun hf => Nat.lt_irrefl _ (hR.own _ hf).2.2
        go_upto_region 12 with (first
          | ((with_reducible show wpList _ _ _ (⟨_, .load 32 _, _, _, _, _⟩ :: _) _ _); refine wpList_load_arrm (by rfl) 32 _ rfl b (o + k * 18) rfl (acs kd g (tvs t)) _ HRA.out Try.underlying32 rfl sX ?_)
          | ((with_reducible show wpList _ _ _ (⟨_, .store 32 _ _, _, _, _, _⟩ :: _) _ _); refine wpList_store_new rfl 32 _ _ rfl wr.heap.size V rfl (by rw [HVE.out]; rfl) rfl (by rw [lV]; rfl) sV oV ?_))
        obtain ⟨vb, hvb⟩ : ∃ vb, vb = wr.heap.size := ⟨_, rfl⟩
        rw [← hvb] at hv0 hvn hvF ⊢
        have hvlt : vb < (wr.alloc (.cells V 32)).heap.size := by rw [hvb]; simp
        clear hR x0 HRA sX lV sV oV
        generalize wr.alloc (.cells V 32) = W0 at *
        clear hvb HVE
        have hFn : ¬ F tb := fun hf => (hR1.own _ hf).2.1 rfl
        have hsl := since_len T low
        have c0 := act_kind hv0
        have c1 := act_gen hv0
        by_cases hkd1 : kd % 4 = 1
        · have e1 := mod4 kd hkd hkd1
          clear hkd1
          go_upto_region 13 with fail
          clear e1 c0
          have HR1 := Lib.hid hR1
          have HV0 := Lib.hid hv0
          clear hR1 hv0
          have hlF : ∀ k, F k → k < W0.heap.size := fun k hk => (HR1.out.own k hk).2.2
          go_upto_region 14 with (first
            | (go_at_call 10; (with_reducible refine (forget10 HR1.out.cs hlF (by omega) hwf).mono ?_); rintro e W7 ⟨rfl, hcs7, x7⟩))
          have hv7 := x7.obj HV0.out hvF
          have c1 := act_gen hv7
          rw [since_keep] at hcs7
          have hR9 := HR1.out.step x7 hcs7 (fun _ h => .inl h) (Ext.refl _ _) (HR1.out.tm.ext x7 hFn)
          have hT9 : T.length ≤ k + 1 := by omega
          have HR9 := Lib.hid hR9
          clear hv7 x7 hcs7 HR1 HV0 hR9
          go_upto_region 17 with fail
          generalize max low g = low9 at *
          generalize (fun k => _ ∧ k < W7.heap.size) = F9 at *
          generalize T = T9 at *
          obtain ⟨W9, hW9⟩ : ∃ W9, W9 = W7 := ⟨_, rfl⟩
          subst hW9
          clear c1 hsl
          obtain ⟨D, hown, hD⟩ := HR9.out.tm.dat
          have HD := Lib.hid hD
          clear hD
          go_wp2_with (first
            | (at_range; refine wpList_range_own _ rfl _ 47 rfl 49 3 keyed49 Try.underlying47 _ tb _ D rfl hown ?_; intro w0 hrg0 hg0 hs0)
            | go_in)
          go_frame
          have hx00 : Ext NoB W9 w0 := (Ext.ofGrown hg0).mono (fun _ _ h => by simp at h)
          go_loopw [11] (fun _ W => GoRel W9 tb T9 D W) (fun _ W => W.rangeLeft tb W9.heap.size)
          case atStart => exact ⟨_, _, hrg0, fun _ h => h, hx00⟩
          case round =>
            clear hrg0 hg0 hs0 hx00
            obtain ⟨left, cnt, hrg, hsub, hx⟩ := hrel
            go_wp2_with (first
              | (at_next; refine wpList_next_T rfl _ rfl T9 tb W9.heap.size D left cnt rfl hrg hsub HD.out HR9.out.tm.nd HR9.out.tm.ok ?_ ?_)
              | go_in)
            · have HF : Hid (OnRel w p tb room (k + 1) (.int .i64 low9) wr) := Lib.hid ⟨low9, T9, F9, rfl, HR9.out.ext hx, hT9⟩
              clear hx hrg hsub
              go_wp2_with fail
              exact ⟨⟨k + 1, by omega, by omega, by go_num, HF.out⟩, by simp [intOf]; omega⟩
            · intro eg et left' w1 cnt1 heT hsub1 hrg1 hlt1 hg1 hen
              have hx1 : Ext NoB W9 w1 := hx.trans ((Ext.ofGrown hg1).mono (G := fun k => k = W9.heap.size) fun k _ hk => by injection hk with hk; exact hk.symm) (fun _ _ h => h) (fun k hk h => by omega)
              have heok := HR9.out.tm.ok _ heT
              have lB := tvs_len heok.tag
              have s30 : (Try.prog.info? 30).map (·.size) = some (tvs et).length := by rw [lB]; exact size30
              have hval : ev (eg, et) = .agg (.int .i64 eg :: tvs et).toArray := rfl
              rw [hval] at hen ⊢
              clear hval
              obtain ⟨V5, hV5⟩ : ∃ V5, V5 = (Value.int .i64 eg :: tvs et).toArray := ⟨_, rfl⟩
              have l5 : V5.size = 17 := by rw [hV5]; simp [heok.tag.len]
              have s5 : (Try.prog.info? 49).map (·.size) = some V5.size := by rw [l5]; exact ax49
              have o5 : V5.all (·.oneCell') = true := by rw [hV5]; exact all_oneCell_toArray (fun v hv => by rcases List.mem_cons.1 hv with rfl | hv; rfl; exact tvs_one et v hv)
              have hb5 : (w1.alloc (.cells V5 49)).heap[w1.heap.size]? = some (.cells (.int .i64 eg :: tvs et).toArray 49 (0, 0)) := by rw [← hV5]; exact heapNew _ _
              have HV5 := Lib.hid hV5
              have hx5 := hx1.andAlloc (.cells V5 49)
              have hmem := since_mem (low := low9) heT
              have hc13 : ∀ W, Ext NoB (w1.alloc (.cells V5 49)) W → Calls Try.prog 13 #[.pointer (some ⟨p, 0, none⟩), .int .i64 eg, .agg (tvs et).toArray] W fun e w' => e = .returned (.bool (decide (low9 ≤ eg))) ∧ Ext NoB W w' := fun W hW => (has13 (HR9.out.cs.ext (hx5.then hW) (fun _ _ h => h)) heok.gen heok.tag).mono fun e w' h => ⟨by rw [h.1]; congr 2; rw [decide_eq_decide]; exact hmem, h.2⟩
              have hEND : ∀ W, Ext NoB (w1.alloc (.cells V5 49)) W → GoRel W9 tb T9 D W ∧ W.rangeLeft tb W9.heap.size = cnt1 := fun W hW => by
                have hr := (hrg1.alloc (.cells V5 49)).kept (hW.toGrown none fun _ h => h.elim) (by simp) (by simp)
                exact ⟨⟨left', cnt1, hr, hsub1, hx5.then hW⟩, hr.left_eq⟩
              have hS : ∀ W, Ext NoB (w1.alloc (.cells V5 49)) W → W.cell? ⟨w1.heap.size, 0, none⟩ = some (.int .i64 eg) ∧ W.rangeAt w1.heap.size 1 (tvs et) := fun W hW => ⟨ent49_gen (hW.obj hb5 id), ent49_range (hW.obj hb5 id)⟩
              have HC13 := Lib.hid hc13
              have HEND := Lib.hid hEND
              have HS := Lib.hid hS
              have hle1 := hrg.left_eq
              clear hV5 hb5 hx5 hmem hc13 hEND hS heok heT hsub1 hrg1 hg1 hx hrg hsub
              go_upto_region 20 with (first
                | ((with_reducible show wpList _ _ _ (⟨_, .store 49 _ _, _, _, _, _⟩ :: _) _ _); refine wpList_store_new rfl 49 _ _ rfl w1.heap.size V5 rfl (by rw [HV5.out]; rfl) rfl (by rw [l5]; rfl) s5 o5 ?_))
              generalize w1.alloc (.cells V5 49) = W5 at *
              generalize w1.heap.size = xb at *
              generalize tvs et = B5 at *
              clear HV5 s5 o5 l5 hen
              have u30 := Try.underlying30
              by_cases hle : low9 ≤ eg
              · have hd : decide (low9 ≤ eg) = true := by simpa using hle
                rw [hd] at HC13
                go_region_held3 (fun W => W.cell? ⟨xb, 0, none⟩ = some (.int .i64 eg) ∧ W.rangeAt xb 1 B5)
                  (first | (exact HS.out _ x22) | (exact HS.out _ (Ext.drew NoB W5)))
                  (first | (go_at_call 13; (with_reducible refine (HC13.out _ (Ext.drew NoB W5)).mono ?_); rintro e V8 ⟨rfl, y8⟩; have x22 := (Ext.drew NoB W5).then y8))
                all_goals (
                  have hE := HEND.out _ x22
                  clear HEND HS x22 y8 HC13
                  go_wp2_with fail
                  exact ⟨hE.1, by rw [hE.2]; omega⟩)
              · have hd : decide (low9 ≤ eg) = false := by simpa using hle
                rw [hd] at HC13
                go_region_held3 (fun W => W.cell? ⟨xb, 0, none⟩ = some (.int .i64 eg) ∧ W.rangeAt xb 1 B5)
                  (first | (exact HS.out _ x22) | (exact HS.out _ (Ext.drew NoB W5)))
                  (first | (go_at_call 13; (with_reducible refine (HC13.out _ (Ext.drew NoB W5)).mono ?_); rintro e V8 ⟨rfl, y8⟩; have x22 := (Ext.drew NoB W5).then y8))
                all_goals (
                  have hE := HEND.out _ x22
                  clear HEND HS x22 y8 HC13
                  go_wp2_with fail
                  exact ⟨hE.1, by rw [hE.2]; omega⟩)
        · have e1 := mod4' kd hkd1
          clear hkd1
          go_upto_region 15 with fail
          clear e1 c0
          have HR1 := Lib.hid hR1
          have HV0 := Lib.hid hv0
          clear hR1
          by_cases hA : AddE room low (since T low) g t = 0
          · go_upto_region 16 with (first
              | ((with_reducible show wpList _ _ _ (⟨_, .load 30 _, _, _, _, _⟩ :: _) _ _); refine wpList_load_arrm (by rfl) 30 _ rfl vb 2 rfl (tvs t) _ (act_range hv0) Try.underlying30 rfl sA ?_)
              | (go_at_call 12; (with_reducible refine (add12 HR1.out.cs z1 z2 ht hwf).mono ?_); rintro e W7 ⟨he7, x7, hcs7⟩; rw [hA] at he7; rw [if_pos hA] at hcs7; subst he7))
            obtain ⟨hlo, hni⟩ := AddE_zero hA
            have heok : EntOk (g, t) := ⟨hwf, ht⟩
            have hnT : (g, t) ∉ T := fun hm => hni ((since_mem hm).2 hlo)
            have htm7 := HR1.out.tm.ext x7 hFn
            have htm8 := htm7.ext (Ext.drew NoB W7) id
            obtain ⟨st, w1, hme, xm, hl0, hl1, hes⟩ := htm8.incr heok hnT (by unfold maxLen; omega)
            have hl1' := hl1 w1 (Ext.refl _ _)
            obtain ⟨w3, hst, htm3, x3⟩ := hes w1 (Ext.refl _ _)
            have hv7 := x7.obj HV0.out hvF
            have hv8 := (Ext.drew NoB W7).obj hv7 id
            have hvm := xm.obj hv8 (fun e => hvn e.symm)
            have hv3 := x3.obj hvm (fun e => hvn e.symm)
            have S7 : (fun W : World => W.cell? ⟨vb, 1, none⟩ = some (.int .i64 g) ∧ W.rangeAt vb 2 (tvs t)) W7.drew := ⟨act_gen hv8, act_range hv8⟩
            have hS1 : (fun W : World => W.cell? ⟨vb, 1, none⟩ = some (.int .i64 g) ∧ W.rangeAt vb 2 (tvs t)) w1 := ⟨act_gen hvm, act_range hvm⟩
            have hS3 : (fun W : World => W.cell? ⟨vb, 1, none⟩ = some (.int .i64 g) ∧ W.rangeAt vb 2 (tvs t)) w3 := ⟨act_gen hv3, act_range hv3⟩
            have hx3 : Ext (fun k => k = tb) W7 w3 := ((Ext.drew _ W7).then xm).then x3
            rw [← since_add hlo] at hcs7
            have hR9 := HR1.out.step x7 hcs7 (fun _ h => h) hx3 htm3
            have hT9 : (T ++ [(g, t)]).length ≤ k + 1 := by simp; omega
            have HR9 := Lib.hid hR9
            have hbld := fun w' => run_build49 w' g (tvs t) lA
            have hev : ev (g, t) = .agg (.int .i64 g :: tvs t).toArray := rfl
            rw [hev] at hme hl0 hl1'
            simp only [goInt] at hme hst
            have hw1 : IntKind.i64.wrap 1 = 1 := by decide
            clear hev hR9 hx3 hcs7 x7 xm x3 htm7 htm8 htm3 hl1 hes hv7 hv8 hvm hv3 hv0 HV0 HR1 hni hnT heok c1
            generalize tvs t = B at S7 hS1 hS3 hbld hme hl0 hl1' sA lA
            have HS7 := Lib.hid S7
            have HS1 := Lib.hid hS1
            have HS3 := Lib.hid hS3
            clear S7 hS1 hS3
            refine wp_region_held_drew (S := fun W => W.cell? ⟨vb, 1, none⟩ = some (.int .i64 g) ∧ W.rangeAt vb 2 B) (by kernel_rfl) HS7.out (fun hHeld => ?_)
            refine wpAnyH_take (i := 0) (oi := ⟨some 55, _, _, _, _, _⟩) (v := .map (some tb)) rfl (by kernel_rfl) (by kernel_rfl) (by kernel_rfl) (fun _ _ _ h => h) (Or.inl ⟨by rfl, fun w hSw => by (obtain ⟨s0, s1⟩ := hSw; go_simp)⟩) (by assumption) ?_
            try simp only [Act.put, List.setIfInBounds_toArray, List.set_cons_zero, List.set_cons_succ]
            refine wpAnyH_take (i := 1) (oi := ⟨some 56, _, _, _, _, _⟩) (v := .pointer (some ⟨vb, 1, none⟩)) rfl (by kernel_rfl) (by kernel_rfl) (by kernel_rfl) (fun _ _ _ h => h) (Or.inl ⟨by rfl, fun w hSw => by (obtain ⟨s0, s1⟩ := hSw; go_simp)⟩) (by assumption) ?_
            try simp only [Act.put, List.setIfInBounds_toArray, List.set_cons_zero, List.set_cons_succ]
            refine wpAnyH_take (i := 2) (oi := ⟨some 57, _, _, _, _, _⟩) (v := .int .i64 g) rfl (by kernel_rfl) (by kernel_rfl) (by kernel_rfl) (fun _ _ _ h => h) (Or.inl ⟨by rfl, fun w hSw => by (obtain ⟨s0, s1⟩ := hSw; go_simp)⟩) (by assumption) ?_
            try simp only [Act.put, List.setIfInBounds_toArray, List.set_cons_zero, List.set_cons_succ]
            refine wpAnyH_take (i := 3) (oi := ⟨some 58, _, _, _, _, _⟩) (v := .pointer (some ⟨vb, 2, none⟩)) rfl (by kernel_rfl) (by kernel_rfl) (by kernel_rfl) (fun _ _ _ h => h) (Or.inl ⟨by rfl, fun w hSw => by (obtain ⟨s0, s1⟩ := hSw; go_simp)⟩) (by assumption) ?_
            try simp only [Act.put, List.setIfInBounds_toArray, List.set_cons_zero, List.set_cons_succ]
            refine' wpAnyH_take (i := 4) (oi := ⟨some 59, _, _, _, _, _⟩) (v := _) rfl (by kernel_rfl) (by kernel_rfl) (by kernel_rfl) (fun _ _ _ h => h) (yieldsIf_load_mid (by rfl) 30 _ (by rfl) (vb) (2) (by rfl) (B) _ (fun w h => h.2) Try.underlying30 (by rfl) sA) (by assumption) ?_
            try simp only [Act.put, List.setIfInBounds_toArray, List.set_cons_zero, List.set_cons_succ]
            refine wpAnyH_take (i := 5) (oi := ⟨some 60, _, _, _, _, _⟩) (v := .agg (Value.int .i64 g :: B).toArray) rfl (by kernel_rfl) (by kernel_rfl) (by kernel_rfl) (fun _ _ _ h => h) (yieldsIf_build49 (by rfl) _ _ (by rfl) g B lA (by rfl) (by rfl)) (by assumption) ?_
            try simp only [Act.put, List.setIfInBounds_toArray, List.set_cons_zero, List.set_cons_succ]
            refine wpAnyH_ready (rs := [6, 8]) (by kernel_rfl) (by simp) (AllReadyH.cons (by rfl) (fun K hK => ?_) (AllReadyH.cons (by rfl) (fun K hK => ?_) AllReadyH.nil))
            · go_simp
              refine hK.out _ _ HS7.out (fun hHeld => ?_)
              clear hK K
              try simp only [Act.put, List.setIfInBounds_toArray, List.set_cons_zero, List.set_cons_succ]
              refine wpAnyH_take (i := 7) (oi := ⟨some 62, _, _, _, _, _⟩) (v := .int .i64 1) rfl (by kernel_rfl) (by kernel_rfl) (by kernel_rfl) (fun _ _ _ h => h) (Or.inl ⟨by rfl, fun w hSw => by (obtain ⟨s0, s1⟩ := hSw; go_simp)⟩) (by assumption) ?_
              try simp only [Act.put, List.setIfInBounds_toArray, List.set_cons_zero, List.set_cons_succ]
              refine wpAnyH_ready (rs := [8]) (by kernel_rfl) (by simp) (AllReadyH.cons (by rfl) (fun K hK => ?_) AllReadyH.nil)
              go_simp
              refine hK.out _ _ HS1.out (fun hHeld => ?_)
              clear hK K
              try simp only [Act.put, List.setIfInBounds_toArray, List.set_cons_zero, List.set_cons_succ]
              refine wpAnyH_take (i := 9) (oi := ⟨some 64, _, _, _, _, _⟩) (v := .int .i64 st) rfl (by kernel_rfl) (by kernel_rfl) (by kernel_rfl) (fun _ _ _ h => h) (Or.inl ⟨by rfl, fun w hSw => by (obtain ⟨s0, s1⟩ := hSw; go_simp)⟩) (by assumption) ?_
              try simp only [Act.put, List.setIfInBounds_toArray, List.set_cons_zero, List.set_cons_succ]
              refine wpAnyH_ready (rs := [10]) (by kernel_rfl) (by simp) (AllReadyH.cons (by rfl) (fun K hK => ?_) AllReadyH.nil)
              go_simp
              refine hK.out _ _ (HS3.out) (fun hHeld => ?_)
              clear hK K
              try simp only [Act.put, List.setIfInBounds_toArray, List.set_cons_zero, List.set_cons_succ]
              refine wpAnyH_done (by kernel_rfl) ?_ _
              clear hHeld
              clear HS7 HS1 HS3 hme hl0 hl1' hst hbld hw1 hlo hA hsl hTk hmm
              generalize (fun k => _ ∧ k < W7.heap.size) = F9 at *
              generalize T ++ [(g, t)] = T9 at *
              generalize low = low9 at *
              obtain ⟨W9, hW9⟩ : ∃ W9, W9 = w3 := ⟨_, rfl⟩
              subst hW9
              obtain ⟨D, hown, hD⟩ := HR9.out.tm.dat
              have HD := Lib.hid hD
              clear hD
              go_wp2_with (first
                | (at_range; refine wpList_range_own _ rfl _ 47 rfl 49 3 keyed49 Try.underlying47 _ tb _ D rfl hown ?_; intro w0 hrg0 hg0 hs0)
                | go_in)
              go_frame
              have hx00 : Ext NoB W9 w0 := (Ext.ofGrown hg0).mono (fun _ _ h => by simp at h)
              go_loopw [11] (fun _ W => GoRel W9 tb T9 D W) (fun _ W => W.rangeLeft tb W9.heap.size)
              case atStart => exact ⟨_, _, hrg0, fun _ h => h, hx00⟩
              case round =>
                clear hrg0 hg0 hs0 hx00
                obtain ⟨left, cnt, hrg, hsub, hx⟩ := hrel
                go_wp2_with (first
                  | (at_next; refine wpList_next_T rfl _ rfl T9 tb W9.heap.size D left cnt rfl hrg hsub HD.out HR9.out.tm.nd HR9.out.tm.ok ?_ ?_)
                  | go_in)
                · have HF : Hid (OnRel w p tb room (k + 1) (.int .i64 low9) wr) := Lib.hid ⟨low9, T9, F9, rfl, HR9.out.ext hx, hT9⟩
                  clear hx hrg hsub
                  go_wp2_with fail
                  exact ⟨⟨k + 1, by omega, by omega, by go_num, HF.out⟩, by simp [intOf]; omega⟩
                · intro eg et left' w1 cnt1 heT hsub1 hrg1 hlt1 hg1 hen
                  have hx1 : Ext NoB W9 w1 := hx.trans ((Ext.ofGrown hg1).mono (G := fun k => k = W9.heap.size) fun k _ hk => by injection hk with hk; exact hk.symm) (fun _ _ h => h) (fun k hk h => by omega)
                  have heok := HR9.out.tm.ok _ heT
                  have lB := tvs_len heok.tag
                  have s30 : (Try.prog.info? 30).map (·.size) = some (tvs et).length := by rw [lB]; exact size30
                  have hval : ev (eg, et) = .agg (.int .i64 eg :: tvs et).toArray := rfl
                  rw [hval] at hen ⊢
                  clear hval
                  obtain ⟨V5, hV5⟩ : ∃ V5, V5 = (Value.int .i64 eg :: tvs et).toArray := ⟨_, rfl⟩
                  have l5 : V5.size = 17 := by rw [hV5]; simp [heok.tag.len]
                  have s5 : (Try.prog.info? 49).map (·.size) = some V5.size := by rw [l5]; exact ax49
                  have o5 : V5.all (·.oneCell') = true := by rw [hV5]; exact all_oneCell_toArray (fun v hv => by rcases List.mem_cons.1 hv with rfl | hv; rfl; exact tvs_one et v hv)
                  have hb5 : (w1.alloc (.cells V5 49)).heap[w1.heap.size]? = some (.cells (.int .i64 eg :: tvs et).toArray 49 (0, 0)) := by rw [← hV5]; exact heapNew _ _
                  have HV5 := Lib.hid hV5
                  have hx5 := hx1.andAlloc (.cells V5 49)
                  have hmem := since_mem (low := low9) heT
                  have hc13 : ∀ W, Ext NoB (w1.alloc (.cells V5 49)) W → Calls Try.prog 13 #[.pointer (some ⟨p, 0, none⟩), .int .i64 eg, .agg (tvs et).toArray] W fun e w' => e = .returned (.bool (decide (low9 ≤ eg))) ∧ Ext NoB W w' := fun W hW => (has13 (HR9.out.cs.ext (hx5.then hW) (fun _ _ h => h)) heok.gen heok.tag).mono fun e w' h => ⟨by rw [h.1]; congr 2; rw [decide_eq_decide]; exact hmem, h.2⟩
                  have hEND : ∀ W, Ext NoB (w1.alloc (.cells V5 49)) W → GoRel W9 tb T9 D W ∧ W.rangeLeft tb W9.heap.size = cnt1 := fun W hW => by
                    have hr := (hrg1.alloc (.cells V5 49)).kept (hW.toGrown none fun _ h => h.elim) (by simp) (by simp)
                    exact ⟨⟨left', cnt1, hr, hsub1, hx5.then hW⟩, hr.left_eq⟩
                  have hS : ∀ W, Ext NoB (w1.alloc (.cells V5 49)) W → W.cell? ⟨w1.heap.size, 0, none⟩ = some (.int .i64 eg) ∧ W.rangeAt w1.heap.size 1 (tvs et) := fun W hW => ⟨ent49_gen (hW.obj hb5 id), ent49_range (hW.obj hb5 id)⟩
                  have HC13 := Lib.hid hc13
                  have HEND := Lib.hid hEND
                  have HS := Lib.hid hS
                  have hle1 := hrg.left_eq
                  clear hV5 hb5 hx5 hmem hc13 hEND hS heok heT hsub1 hrg1 hg1 hx hrg hsub
                  go_upto_region 20 with (first
                    | ((with_reducible show wpList _ _ _ (⟨_, .store 49 _ _, _, _, _, _⟩ :: _) _ _); refine wpList_store_new rfl 49 _ _ rfl w1.heap.size V5 rfl (by rw [HV5.out]; rfl) rfl (by rw [l5]; rfl) s5 o5 ?_))
                  generalize w1.alloc (.cells V5 49) = W5 at *
                  generalize w1.heap.size = xb at *
                  generalize tvs et = B5 at *
                  clear HV5 s5 o5 l5 hen
                  have u30 := Try.underlying30
                  by_cases hle : low9 ≤ eg
                  · have hd : decide (low9 ≤ eg) = true := by simpa using hle
                    rw [hd] at HC13
                    go_region_held3 (fun W => W.cell? ⟨xb, 0, none⟩ = some (.int .i64 eg) ∧ W.rangeAt xb 1 B5)
                      (first | (exact HS.out _ x22) | (exact HS.out _ (Ext.drew NoB W5)))
                      (first | (go_at_call 13; (with_reducible refine (HC13.out _ (Ext.drew NoB W5)).mono ?_); rintro e V8 ⟨rfl, y8⟩; have x22 := (Ext.drew NoB W5).then y8))
                    all_goals (
                      have hE := HEND.out _ x22
                      clear HEND HS x22 y8 HC13
                      go_wp2_with fail
                      exact ⟨hE.1, by rw [hE.2]; omega⟩)
                  · have hd : decide (low9 ≤ eg) = false := by simpa using hle
                    rw [hd] at HC13
                    go_region_held3 (fun W => W.cell? ⟨xb, 0, none⟩ = some (.int .i64 eg) ∧ W.rangeAt xb 1 B5)
                      (first | (exact HS.out _ x22) | (exact HS.out _ (Ext.drew NoB W5)))
                      (first | (go_at_call 13; (with_reducible refine (HC13.out _ (Ext.drew NoB W5)).mono ?_); rintro e V8 ⟨rfl, y8⟩; have x22 := (Ext.drew NoB W5).then y8))
                    all_goals (
                      have hE := HEND.out _ x22
                      clear HEND HS x22 y8 HC13
                      go_wp2_with fail
                      exact ⟨hE.1, by rw [hE.2]; omega⟩)
            · go_simp
              refine hK.out _ _ HS1.out (fun hHeld => ?_)
              clear hK K
              try simp only [Act.put, List.setIfInBounds_toArray, List.set_cons_zero, List.set_cons_succ]
              refine wpAnyH_take (i := 9) (oi := ⟨some 64, _, _, _, _, _⟩) (v := .int .i64 st) rfl (by kernel_rfl) (by kernel_rfl) (by kernel_rfl) (fun _ _ _ h => h) (Or.inl ⟨by rfl, fun w hSw => by (obtain ⟨s0, s1⟩ := hSw; go_simp)⟩) (by assumption) ?_
              try simp only [Act.put, List.setIfInBounds_toArray, List.set_cons_zero, List.set_cons_succ]
              refine wpAnyH_ready (rs := [6]) (by kernel_rfl) (by simp) (AllReadyH.cons (by rfl) (fun K hK => ?_) AllReadyH.nil)
              go_simp
              refine hK.out _ _ HS1.out (fun hHeld => ?_)
              clear hK K
              try simp only [Act.put, List.setIfInBounds_toArray, List.set_cons_zero, List.set_cons_succ]
              refine wpAnyH_take (i := 7) (oi := ⟨some 62, _, _, _, _, _⟩) (v := .int .i64 1) rfl (by kernel_rfl) (by kernel_rfl) (by kernel_rfl) (fun _ _ _ h => h) (Or.inl ⟨by rfl, fun w hSw => by (obtain ⟨s0, s1⟩ := hSw; go_simp)⟩) (by assumption) ?_
              try simp only [Act.put, List.setIfInBounds_toArray, List.set_cons_zero, List.set_cons_succ]
              refine wpAnyH_ready (rs := [10]) (by kernel_rfl) (by simp) (AllReadyH.cons (by rfl) (fun K hK => ?_) AllReadyH.nil)
              go_simp
              refine hK.out _ _ (HS3.out) (fun hHeld => ?_)
              clear hK K
              try simp only [Act.put, List.setIfInBounds_toArray, List.set_cons_zero, List.set_cons_succ]
              refine wpAnyH_done (by kernel_rfl) ?_ _
              clear hHeld
              clear HS7 HS1 HS3 hme hl0 hl1' hst hbld hw1 hlo hA hsl hTk hmm
              generalize (fun k => _ ∧ k < W7.heap.size) = F9 at *
              generalize T ++ [(g, t)] = T9 at *
              generalize low = low9 at *
              obtain ⟨W9, hW9⟩ : ∃ W9, W9 = w3 := ⟨_, rfl⟩
              subst hW9
              obtain ⟨D, hown, hD⟩ := HR9.out.tm.dat
              have HD := Lib.hid hD
              clear hD
              go_wp2_with (first
                | (at_range; refine wpList_range_own _ rfl _ 47 rfl 49 3 keyed49 Try.underlying47 _ tb _ D rfl hown ?_; intro w0 hrg0 hg0 hs0)
                | go_in)
              go_frame
              have hx00 : Ext NoB W9 w0 := (Ext.ofGrown hg0).mono (fun _ _ h => by simp at h)
              go_loopw [11] (fun _ W => GoRel W9 tb T9 D W) (fun _ W => W.rangeLeft tb W9.heap.size)
              case atStart => exact ⟨_, _, hrg0, fun _ h => h, hx00⟩
              case round =>
                clear hrg0 hg0 hs0 hx00
                obtain ⟨left, cnt, hrg, hsub, hx⟩ := hrel
                go_wp2_with (first
                  | (at_next; refine wpList_next_T rfl _ rfl T9 tb W9.heap.size D left cnt rfl hrg hsub HD.out HR9.out.tm.nd HR9.out.tm.ok ?_ ?_)
                  | go_in)
                · have HF : Hid (OnRel w p tb room (k + 1) (.int .i64 low9) wr) := Lib.hid ⟨low9, T9, F9, rfl, HR9.out.ext hx, hT9⟩
                  clear hx hrg hsub
                  go_wp2_with fail
                  exact ⟨⟨k + 1, by omega, by omega, by go_num, HF.out⟩, by simp [intOf]; omega⟩
                · intro eg et left' w1 cnt1 heT hsub1 hrg1 hlt1 hg1 hen
                  have hx1 : Ext NoB W9 w1 := hx.trans ((Ext.ofGrown hg1).mono (G := fun k => k = W9.heap.size) fun k _ hk => by injection hk with hk; exact hk.symm) (fun _ _ h => h) (fun k hk h => by omega)
                  have heok := HR9.out.tm.ok _ heT
                  have lB := tvs_len heok.tag
                  have s30 : (Try.prog.info? 30).map (·.size) = some (tvs et).length := by rw [lB]; exact size30
                  have hval : ev (eg, et) = .agg (.int .i64 eg :: tvs et).toArray := rfl
                  rw [hval] at hen ⊢
                  clear hval
                  obtain ⟨V5, hV5⟩ : ∃ V5, V5 = (Value.int .i64 eg :: tvs et).toArray := ⟨_, rfl⟩
                  have l5 : V5.size = 17 := by rw [hV5]; simp [heok.tag.len]
                  have s5 : (Try.prog.info? 49).map (·.size) = some V5.size := by rw [l5]; exact ax49
                  have o5 : V5.all (·.oneCell') = true := by rw [hV5]; exact all_oneCell_toArray (fun v hv => by rcases List.mem_cons.1 hv with rfl | hv; rfl; exact tvs_one et v hv)
                  have hb5 : (w1.alloc (.cells V5 49)).heap[w1.heap.size]? = some (.cells (.int .i64 eg :: tvs et).toArray 49 (0, 0)) := by rw [← hV5]; exact heapNew _ _
                  have HV5 := Lib.hid hV5
                  have hx5 := hx1.andAlloc (.cells V5 49)
                  have hmem := since_mem (low := low9) heT
                  have hc13 : ∀ W, Ext NoB (w1.alloc (.cells V5 49)) W → Calls Try.prog 13 #[.pointer (some ⟨p, 0, none⟩), .int .i64 eg, .agg (tvs et).toArray] W fun e w' => e = .returned (.bool (decide (low9 ≤ eg))) ∧ Ext NoB W w' := fun W hW => (has13 (HR9.out.cs.ext (hx5.then hW) (fun _ _ h => h)) heok.gen heok.tag).mono fun e w' h => ⟨by rw [h.1]; congr 2; rw [decide_eq_decide]; exact hmem, h.2⟩
                  have hEND : ∀ W, Ext NoB (w1.alloc (.cells V5 49)) W → GoRel W9 tb T9 D W ∧ W.rangeLeft tb W9.heap.size = cnt1 := fun W hW => by
                    have hr := (hrg1.alloc (.cells V5 49)).kept (hW.toGrown none fun _ h => h.elim) (by simp) (by simp)
                    exact ⟨⟨left', cnt1, hr, hsub1, hx5.then hW⟩, hr.left_eq⟩
                  have hS : ∀ W, Ext NoB (w1.alloc (.cells V5 49)) W → W.cell? ⟨w1.heap.size, 0, none⟩ = some (.int .i64 eg) ∧ W.rangeAt w1.heap.size 1 (tvs et) := fun W hW => ⟨ent49_gen (hW.obj hb5 id), ent49_range (hW.obj hb5 id)⟩
                  have HC13 := Lib.hid hc13
                  have HEND := Lib.hid hEND
                  have HS := Lib.hid hS
                  have hle1 := hrg.left_eq
                  clear hV5 hb5 hx5 hmem hc13 hEND hS heok heT hsub1 hrg1 hg1 hx hrg hsub
                  go_upto_region 20 with (first
                    | ((with_reducible show wpList _ _ _ (⟨_, .store 49 _ _, _, _, _, _⟩ :: _) _ _); refine wpList_store_new rfl 49 _ _ rfl w1.heap.size V5 rfl (by rw [HV5.out]; rfl) rfl (by rw [l5]; rfl) s5 o5 ?_))
                  generalize w1.alloc (.cells V5 49) = W5 at *
                  generalize w1.heap.size = xb at *
                  generalize tvs et = B5 at *
                  clear HV5 s5 o5 l5 hen
                  have u30 := Try.underlying30
                  by_cases hle : low9 ≤ eg
                  · have hd : decide (low9 ≤ eg) = true := by simpa using hle
                    rw [hd] at HC13
                    go_region_held3 (fun W => W.cell? ⟨xb, 0, none⟩ = some (.int .i64 eg) ∧ W.rangeAt xb 1 B5)
                      (first | (exact HS.out _ x22) | (exact HS.out _ (Ext.drew NoB W5)))
                      (first | (go_at_call 13; (with_reducible refine (HC13.out _ (Ext.drew NoB W5)).mono ?_); rintro e V8 ⟨rfl, y8⟩; have x22 := (Ext.drew NoB W5).then y8))
                    all_goals (
                      have hE := HEND.out _ x22
                      clear HEND HS x22 y8 HC13
                      go_wp2_with fail
                      exact ⟨hE.1, by rw [hE.2]; omega⟩)
                  · have hd : decide (low9 ≤ eg) = false := by simpa using hle
                    rw [hd] at HC13
                    go_region_held3 (fun W => W.cell? ⟨xb, 0, none⟩ = some (.int .i64 eg) ∧ W.rangeAt xb 1 B5)
                      (first | (exact HS.out _ x22) | (exact HS.out _ (Ext.drew NoB W5)))
                      (first | (go_at_call 13; (with_reducible refine (HC13.out _ (Ext.drew NoB W5)).mono ?_); rintro e V8 ⟨rfl, y8⟩; have x22 := (Ext.drew NoB W5).then y8))
                    all_goals (
                      have hE := HEND.out _ x22
                      clear HEND HS x22 y8 HC13
                      go_wp2_with fail
                      exact ⟨hE.1, by rw [hE.2]; omega⟩)
          · go_upto_region 17 with (first
              | ((with_reducible show wpList _ _ _ (⟨_, .load 30 _, _, _, _, _⟩ :: _) _ _); refine wpList_load_arrm (by rfl) 30 _ rfl vb 2 rfl (tvs t) _ (act_range hv0) Try.underlying30 rfl sA ?_)
              | (go_at_call 12; (with_reducible refine (add12 HR1.out.cs z1 z2 ht hwf).mono ?_); rintro e W7 ⟨he7, x7, hcs7⟩; rw [if_neg hA] at hcs7; subst he7))
            have hR9 := HR1.out.step x7 hcs7 (fun _ h => h) (Ext.refl _ _) (HR1.out.tm.ext x7 hFn)
            have hT9 : T.length ≤ k + 1 := by omega
            have HR9 := Lib.hid hR9
            clear x7 hcs7 HR1 HV0 hR9 hv0 hA hsl hTk hmm c1
            generalize (AddE room low (since T low) g t == 0) = b0
            generalize AddE room low (since T low) g t = a0
            generalize (fun k => _ ∧ k < W7.heap.size) = F9 at *
            generalize T = T9 at *
            generalize low = low9 at *
            obtain ⟨W9, hW9⟩ : ∃ W9, W9 = W7 := ⟨_, rfl⟩
            subst hW9
            obtain ⟨D, hown, hD⟩ := HR9.out.tm.dat
            have HD := Lib.hid hD
            clear hD
            go_wp2_with (first
              | (at_range; refine wpList_range_own _ rfl _ 47 rfl 49 3 keyed49 Try.underlying47 _ tb _ D rfl hown ?_; intro w0 hrg0 hg0 hs0)
              | go_in)
            go_frame
            have hx00 : Ext NoB W9 w0 := (Ext.ofGrown hg0).mono (fun _ _ h => by simp at h)
            go_loopw [11] (fun _ W => GoRel W9 tb T9 D W) (fun _ W => W.rangeLeft tb W9.heap.size)
            case atStart => exact ⟨_, _, hrg0, fun _ h => h, hx00⟩
            case round =>
              clear hrg0 hg0 hs0 hx00
              obtain ⟨left, cnt, hrg, hsub, hx⟩ := hrel
              go_wp2_with (first
                | (at_next; refine wpList_next_T rfl _ rfl T9 tb W9.heap.size D left cnt rfl hrg hsub HD.out HR9.out.tm.nd HR9.out.tm.ok ?_ ?_)
                | go_in)
              · have HF : Hid (OnRel w p tb room (k + 1) (.int .i64 low9) wr) := Lib.hid ⟨low9, T9, F9, rfl, HR9.out.ext hx, hT9⟩
                clear hx hrg hsub
                go_wp2_with fail
                exact ⟨⟨k + 1, by omega, by omega, by go_num, HF.out⟩, by simp [intOf]; omega⟩
              · intro eg et left' w1 cnt1 heT hsub1 hrg1 hlt1 hg1 hen
                have hx1 : Ext NoB W9 w1 := hx.trans ((Ext.ofGrown hg1).mono (G := fun k => k = W9.heap.size) fun k _ hk => by injection hk with hk; exact hk.symm) (fun _ _ h => h) (fun k hk h => by omega)
                have heok := HR9.out.tm.ok _ heT
                have lB := tvs_len heok.tag
                have s30 : (Try.prog.info? 30).map (·.size) = some (tvs et).length := by rw [lB]; exact size30
                have hval : ev (eg, et) = .agg (.int .i64 eg :: tvs et).toArray := rfl
                rw [hval] at hen ⊢
                clear hval
                obtain ⟨V5, hV5⟩ : ∃ V5, V5 = (Value.int .i64 eg :: tvs et).toArray := ⟨_, rfl⟩
                have l5 : V5.size = 17 := by rw [hV5]; simp [heok.tag.len]
                have s5 : (Try.prog.info? 49).map (·.size) = some V5.size := by rw [l5]; exact ax49
                have o5 : V5.all (·.oneCell') = true := by rw [hV5]; exact all_oneCell_toArray (fun v hv => by rcases List.mem_cons.1 hv with rfl | hv; rfl; exact tvs_one et v hv)
                have hb5 : (w1.alloc (.cells V5 49)).heap[w1.heap.size]? = some (.cells (.int .i64 eg :: tvs et).toArray 49 (0, 0)) := by rw [← hV5]; exact heapNew _ _
                have HV5 := Lib.hid hV5
                have hx5 := hx1.andAlloc (.cells V5 49)
                have hmem := since_mem (low := low9) heT
                have hc13 : ∀ W, Ext NoB (w1.alloc (.cells V5 49)) W → Calls Try.prog 13 #[.pointer (some ⟨p, 0, none⟩), .int .i64 eg, .agg (tvs et).toArray] W fun e w' => e = .returned (.bool (decide (low9 ≤ eg))) ∧ Ext NoB W w' := fun W hW => (has13 (HR9.out.cs.ext (hx5.then hW) (fun _ _ h => h)) heok.gen heok.tag).mono fun e w' h => ⟨by rw [h.1]; congr 2; rw [decide_eq_decide]; exact hmem, h.2⟩
                have hEND : ∀ W, Ext NoB (w1.alloc (.cells V5 49)) W → GoRel W9 tb T9 D W ∧ W.rangeLeft tb W9.heap.size = cnt1 := fun W hW => by
                  have hr := (hrg1.alloc (.cells V5 49)).kept (hW.toGrown none fun _ h => h.elim) (by simp) (by simp)
                  exact ⟨⟨left', cnt1, hr, hsub1, hx5.then hW⟩, hr.left_eq⟩
                have hS : ∀ W, Ext NoB (w1.alloc (.cells V5 49)) W → W.cell? ⟨w1.heap.size, 0, none⟩ = some (.int .i64 eg) ∧ W.rangeAt w1.heap.size 1 (tvs et) := fun W hW => ⟨ent49_gen (hW.obj hb5 id), ent49_range (hW.obj hb5 id)⟩
                have HC13 := Lib.hid hc13
                have HEND := Lib.hid hEND
                have HS := Lib.hid hS
                have hle1 := hrg.left_eq
                clear hV5 hb5 hx5 hmem hc13 hEND hS heok heT hsub1 hrg1 hg1 hx hrg hsub
                go_upto_region 20 with (first
                  | ((with_reducible show wpList _ _ _ (⟨_, .store 49 _ _, _, _, _, _⟩ :: _) _ _); refine wpList_store_new rfl 49 _ _ rfl w1.heap.size V5 rfl (by rw [HV5.out]; rfl) rfl (by rw [l5]; rfl) s5 o5 ?_))
                generalize w1.alloc (.cells V5 49) = W5 at *
                generalize w1.heap.size = xb at *
                generalize tvs et = B5 at *
                clear HV5 s5 o5 l5 hen
                have u30 := Try.underlying30
                by_cases hle : low9 ≤ eg
                · have hd : decide (low9 ≤ eg) = true := by simpa using hle
                  rw [hd] at HC13
                  go_region_held3 (fun W => W.cell? ⟨xb, 0, none⟩ = some (.int .i64 eg) ∧ W.rangeAt xb 1 B5)
                    (first | (exact HS.out _ x22) | (exact HS.out _ (Ext.drew NoB W5)))
                    (first | (go_at_call 13; (with_reducible refine (HC13.out _ (Ext.drew NoB W5)).mono ?_); rintro e V8 ⟨rfl, y8⟩; have x22 := (Ext.drew NoB W5).then y8))
                  all_goals (
                    have hE := HEND.out _ x22
                    clear HEND HS x22 y8 HC13
                    go_wp2_with fail
                    exact ⟨hE.1, by rw [hE.2]; omega⟩)
                · have hd : decide (low9 ≤ eg) = false := by simpa using hle
                  rw [hd] at HC13
                  go_region_held3 (fun W => W.cell? ⟨xb, 0, none⟩ = some (.int .i64 eg) ∧ W.rangeAt xb 1 B5)
                    (first | (exact HS.out _ x22) | (exact HS.out _ (Ext.drew NoB W5)))
                    (first | (go_at_call 13; (with_reducible refine (HC13.out _ (Ext.drew NoB W5)).mono ?_); rintro e V8 ⟨rfl, y8⟩; have x22 := (Ext.drew NoB W5).then y8))
                  all_goals (
                    have hE := HEND.out _ x22
                    clear HEND HS x22 y8 HC13
                    go_wp2_with fail
                    exact ⟨hE.1, by rw [hE.2]; omega⟩)
      · have k1 : (k : Int) < (n : Int) := by omega
        have k2 : ¬ (k : Int) < 120 := by omega
        have hx := hR.x
        clear hR
        go_wp2_with fail
        go_ret
        exact ⟨rfl, hx⟩
    · have k1 : ¬ (k : Int) < (n : Int) := by omega
      have hx := hR.x
      clear hR
      go_wp2_with fail
      go_ret
      exact ⟨rfl, hx⟩
end Go.Proofs.Yteidkdbngjhopaa
