/-
  ReplayLens returns true: the walk.
-/
import Derived.Test.YteidkdbngjhopaaAc
import Derived.Test.YteidkdbngjhopaaY
set_option linter.unusedVariables false
set_option linter.unusedSimpArgs false
namespace Go.Proofs.Yteidkdbngjhopaa
open Go.RowKit Go.Maps

def LnRel (w : World) (p nb : Nat) (size : Int) (k : Nat) (W : World) : Prop := ∃ lo E F, LS w W p nb size lo E F ∧ E.length ≤ k
def SumRel (W0 : World) (nb : Nat) (E : List Ent) (D : DataW Unit) (g : Int) (o : Value) (W : World) : Prop :=
  ∃ (left : Lit → Bool) (cnt : Nat) (ks : List Int), W.ranges Try.prog 3 pE nb W0.heap.size (gl E).length D left cnt ∧ Left E left ks ∧ o = .int .i64 (goneOf E g ks) ∧ Ext NoB W0 W
def DelRel (W8 : World) (nb : Nat) (E : List Ent) (g : Int) (ks : List Int) (i : Value) (W : World) : Prop :=
  ∃ j : Nat, j ≤ ks.length ∧ i = .int .i64 j ∧ NM W nb (upK E g ks j) ∧ Ext (fun k => k = nb) W8 W
set_option maxHeartbeats 12800000 in
set_option maxRecDepth 100000 in
theorem lens_walk (size : Int) (hs0 : 0 ≤ size) (hs1 : size ≤ 255) (A0 : Option Addr) (n c0 : Nat) (w : World) (ha : Acts w A0 n) :
    Calls Try.prog 6 #[.int .u8 size, .slice A0 n c0] w fun e w' => e = .returned (.bool true) ∧ Below w.heap.size w w' := by
  have hn63 := ha.1
  unfold maxLen at hn63
  have Ha := Lib.hid ha
  clear ha
  have z1 : 1 ≤ size + 1 := by omega
  have z2 : size + 1 ≤ 4096 := by omega
  have hmm := @run_makeMap Try.prog
  go_enter Try.func6, Try.ntmps6
  go_upto_region 6 with (first
    | (go_at_call 7; refine (alive_any _).mono ?_; rintro e W1 ⟨rfl, x1⟩)
    | (go_at_call 8; refine (new_yes (size + 1) z1 z2 _).mono ?_; rintro e W2 ⟨rfl, h2, x2⟩))
  have hzz := x1.size
  have hLS : LS w (W2.alloc (.map #[] 0)) (W1.heap.size + 1) W2.heap.size (size + 1) 0 [] (fun k => w.heap.size ≤ k ∧ k < W2.heap.size) :=
    ⟨(h2.mono fun k hk hf => ⟨Nat.le_trans x1.size hf, hk⟩).ext (Ext.alloc NoB _ _) (fun _ _ h => h), NM.new _, fun k hk => ⟨hk.1, by have := hk.2; omega, by have := hk.2; simp; omega⟩, ((x1.then x2).andAlloc _).below (Nat.le_refl _) fun _ h => h.elim, Nat.le_trans x1.size x2.size⟩
  have hR0 : LnRel w (W1.heap.size + 1) W2.heap.size (size + 1) 0 (W2.alloc (.map #[] 0)) := ⟨0, [], _, hLS, by simp⟩
  clear hLS h2
  obtain ⟨p, hp⟩ : ∃ p, p = W1.heap.size + 1 := ⟨_, rfl⟩
  obtain ⟨nb, hnb⟩ : ∃ nb, nb = W2.heap.size := ⟨_, rfl⟩
  rw [← hp, ← hnb] at hR0
  go_wp2_with fail
  rw [← hp, ← hnb]
  generalize W2.alloc _ = W3 at hR0 ⊢
  clear hp hnb x2 x1 hzz
  generalize size + 1 = size at *
  go_loopw [7] (fun i W => ∃ k : Nat, k ≤ n ∧ k ≤ 120 ∧ i = .int .i64 k ∧ LnRel w p nb size k W) (fun i _ => n - (intOf i).toNat)
  case atStart => exact ⟨0, Nat.zero_le _, Nat.zero_le _, rfl, hR0⟩
  case round =>
    clear hR0
    obtain ⟨k, hk, hk2, rfl, lo, E, F, hR, hEk⟩ := hrel
    by_cases hlt : k < n
    · by_cases hlt2 : k < 120
      · have k1 : (k : Int) < (n : Int) := by omega
        have k2 : (k : Int) < 120 := by omega
        obtain ⟨b, o, kd, g, t, rfl, hb, hkd, hwf, ht, hra⟩ := Ha.out.at' hR.x hlt
        have HRA := Lib.hid hra
        have sX : (Try.prog.info? 32).map (·.size) = some (acs kd g (tvs t)).length := by rw [show (acs kd g (tvs t)).length = 18 by simp [ht.len]]; exact ax32
        have lA := tvs_len ht
        have sA : (Try.prog.info? 30).map (·.size) = some (tvs t).length := by rw [lA]; exact size30
        have hA : (tv t).size = 16 := by rw [List.size_toArray]; exact lA
        clear hra
        obtain ⟨V, hV⟩ : ∃ V, V = (acs kd g (tvs t)).toArray := ⟨_, rfl⟩
        have lV : V.size = 18 := by rw [hV]; simp [ht.len]
        have sV : (Try.prog.info? 32).map (·.size) = some V.size := by rw [lV]; exact ax32
        have oV : V.all (·.oneCell') = true := by rw [hV]; exact all_oneCell_toArray (fun v hv => by rcases List.mem_cons.1 hv with rfl | hv; rfl; rcases List.mem_cons.1 hv with rfl | hv; rfl; exact tvs_one t v hv)
        have x0 := Ext.alloc NoB wr (.cells V 32)
        have hv0 : (wr.alloc (.cells V 32)).heap[wr.heap.size]? = some (.cells (acs kd g (tvs t)).toArray 32 (0, 0)) := by rw [← hV]; exact heapNew _ _
        have HVE := Lib.hid hV
        clear hV
        have hR1 := hR.ext x0
        have hvn : nb ≠ wr.heap.size := fun e => by have := hR.nm.lt; omega
        have hvF : ¬ F wr.heap.size := fun hf => Nat.lt_irrefl _ (hR.own _ hf).2.2
        go_upto_region 11 with (first
          | ((with_reducible show wpList _ _ _ (⟨_, .load 32 _, _, _, _, _⟩ :: _) _ _); refine wpList_load_arrm (by rfl) 32 _ rfl b (o + k * 18) rfl (acs kd g (tvs t)) _ HRA.out Try.underlying32 rfl sX ?_)
          | ((with_reducible show wpList _ _ _ (⟨_, .store 32 _ _, _, _, _, _⟩ :: _) _ _); refine wpList_store_new rfl 32 _ _ rfl wr.heap.size V rfl (by rw [HVE.out]; rfl) rfl (by rw [lV]; rfl) sV oV ?_))
        obtain ⟨vb, hvb⟩ : ∃ vb, vb = wr.heap.size := ⟨_, rfl⟩
        rw [← hvb] at hv0 hvn hvF ⊢
        have hvlt : vb < (wr.alloc (.cells V 32)).heap.size := by rw [hvb]; simp
        clear hR x0 HRA sX lV sV oV
        generalize wr.alloc (.cells V 32) = W0 at *
        clear hvb HVE
        by_cases hkd1 : kd % 4 = 1
        · have e1 := mod4 kd hkd hkd1
          have c0 := act_kind hv0
          have c1 := act_gen hv0
          clear hkd1
          go_upto_region 12 with fail
          clear e1
          obtain ⟨D, hown, hD⟩ := hR1.nm.dat
          have HD := Lib.hid hD
          have HR1 := Lib.hid hR1
          clear hD hR1
          go_wp2_with (first
            | (at_range; refine wpList_range_own _ rfl _ 56 rfl 3 3 keyed3 Try.underlying56 _ nb _ D rfl hown ?_; intro w0 hrg0 hg0 hs0)
            | go_in)
          go_frame
          have hx00 : Ext NoB W0 w0 := (Ext.ofGrown hg0).mono (fun _ _ h => by simp at h)
          go_loopw [9] (fun o W => SumRel W0 nb E D g o W) (fun _ W => W.rangeLeft nb W0.heap.size)
          case atStart => exact ⟨_, _, [], hrg0, Left.start HD.out, by rw [goneOf_nil]; rfl, hx00⟩
          case round =>
            clear hrg0 hg0 hs0 hx00
            obtain ⟨left, cnt, ks, hrg, hL, rfl, hx⟩ := hrel
            have HL := Lib.hid hL
            have hgE := goneOf_le E g ks
            have d1 := hx.cell c1 (fun h => h)
            clear hL
            go_wp2_with (first
              | (at_next; refine wpList_next_ranges_ii _ rfl _ rfl 3 3 .i64 .i64 keyed3 Try.underlying3 Try.underlying3 nb W0.heap.size _ _ _ _ rfl hrg ?_ ?_)
              | go_in)
            · intro _ hl0
              have hperm := HL.out.done hl0
              have hend := goneOf_end (gen := g) hperm
              have HEND := Lib.hid hend
              have hR2 := HR1.out.ext hx
              have hv2 := hx.obj hv0 (fun h => h)
              have hE0 : E.length ≤ 1000000 := by omega
              have hlF : ∀ k, F k → k < wr.heap.size := fun k hk => (hR2.own k hk).2.2
              have HR2 := Lib.hid hR2
              rw [hend]
              clear hR2 hend
              go_upto_region 20 with (first
                | (go_at_call 10; (with_reducible refine (forget10 HR2.out.cs hlF hE0 hwf).mono ?_); rintro e W7 ⟨rfl, hcs7, x7⟩))
              have hFn : ¬ F nb := fun hf => (HR2.out.own _ hf).2.1 rfl
              have hv7 := x7.obj hv2 hvF
              have hnm7 := HR2.out.nm.ext x7 hFn
              have HNM7 := Lib.hid hnm7
              have HV7 := Lib.hid hv7
              clear hnm7 hv7 hv2 hFn hv0 c0 c1 d1 hvF
              go_upto_region 21 with (first
                | (go_at_call 20; (with_reducible refine (keys20 nb E _ HNM7.out hE0).mono ?_); rintro e W8 ⟨v8, ks8, rfl, hp8, hrow8, x8, hn8⟩; obtain ⟨A8, c8, rfl, hc8, hc8', _⟩ := hrow8.slice))
              have hnlt := HNM7.out.lt
              have hks8 : ks8.length ≤ 1000 := by have := hp8.length_eq; have := gl_len E; omega
              have hv8 := x8.obj HV7.out (fun h => h)
              have HV8 := Lib.hid hv8
              have HROW := Lib.hid hrow8
              have HP8 := Lib.hid hp8
              have hnm8 := HNM7.out.ext x8 (fun h => h)
              have HNM8 := Lib.hid hnm8
              clear hrow8 hp8 hnm8 hv8
              go_loopw [64] (fun i W => DelRel W8 nb E g ks8 i W) (fun i _ => ks8.length - (intOf i).toNat)
              case atStart => exact ⟨0, by omega, rfl, by rw [upK_zero]; exact HNM8.out, Ext.refl _ _⟩
              case round =>
                clear hx hrg
                obtain ⟨j, hj, rfl, hnmj, hxj⟩ := hrel
                have hvj := hxj.obj HV8.out (fun e => hvn e.symm)
                by_cases hjl : j < ks8.length
                · have j1 : (j : Int) < (ks8.length : Int) := by omega
                  have hrowj := HROW.out.ext hxj (fun q hq e => by have := hn8 q hq; omega)
                  obtain ⟨gb, o8, c', hv, hn1, hn2, hcell⟩ := hrowj.cellAt hjl
                  injection hv with e1 e2 e3
                  clear e2
                  subst e1
                  have HE3 := Lib.hid e3
                  clear e3
                  have hxin : ks8.getD j 0 ∈ gl E := by
                    have e9 : ks8.getD j 0 = ks8[j] := by simp [List.getD_eq_getElem?_getD, List.getElem?_eq_getElem hjl]
                    rw [e9]; exact HP8.out.mem_iff.1 (List.getElem_mem hjl)
                  have hxwf : (Lit.int .i64 (ks8.getD j 0)).wf = true := by
                    obtain ⟨t9, ht9⟩ := mem_gl.1 hxin
                    exact (HR2.out.cs.ok _ ht9).gen
                  have c1 := act_gen hvj
                  have hup1 := fun h => upK_drop (E := E) (gen := g) hjl h
                  have hup2 := fun h => upK_keep (E := E) (gen := g) hjl h
                  generalize ks8.getD j 0 = x at *
                  by_cases hxg : x < g
                  · have hup := hup1 hxg
                    obtain ⟨W10, hdel, hnm10, x10⟩ := hnmj.del hxwf 0
                    rw [← hup] at hnm10
                    have HN := Lib.hid (And.intro hnm10 (hxj.then x10))
                    clear hup1 hup2 hup hnmj hrowj hvj hnm10 x10 hxj hxin
                    go_wp2_with fail
                    exact ⟨⟨j + 1, by omega, by go_num, HN.out⟩, by simp [intOf]; omega⟩
                  · have hup := hup2 hxg
                    rw [← hup] at hnmj
                    have HN := Lib.hid (And.intro hnmj hxj)
                    clear hup1 hup2 hup hnmj hrowj hvj hxj hxin
                    go_wp2_with fail
                    exact ⟨⟨j + 1, by omega, by go_num, HN.out⟩, by simp [intOf]; omega⟩
                · have j1 : ¬ (j : Int) < (ks8.length : Int) := by omega
                  obtain rfl : j = ks8.length := by omega
                  rw [upK_end HP8.out] at hnmj
                  have hR9 := HR2.out.step (x7.then (x8.mono fun _ _ h => h.elim)) (hcs7.ext x8 (fun _ _ h => h)) (fun _ h => .inl h) hxj hnmj
                  have hv9 := hvj
                  have hE9 : (keepG E g).length ≤ k + 1 := by have := keepG_len E g; omega
                  clear hnmj hvj hxj HR2 x7 hcs7 x8 hn8 HP8 HROW HNM8 HNM7 HV7 HV8
                  go_upto_region 28 with fail
                  generalize keepG E g = E9 at *
                  generalize max lo g = lo9 at *
                  generalize (fun k => F k ∧ k < W8.heap.size) = F9 at *
                  obtain ⟨W9, hW9⟩ : ∃ W9, W9 = wr := ⟨_, rfl⟩
                  subst hW9
                  have hS : ∀ W, Ext NoB W9 W → W.cell? ⟨vb, 1, none⟩ = some (.int .i64 g) ∧ (Instr.lookup 56 (.map (some nb)) (.int .i64 g) false).run Try.prog W = .ok (.int .i64 (tagsOf E9 g).length) W ∧ (Builtin.len_ #[56] 3 #[.map (some nb)]).run Try.prog W = .ok (.int .i64 (gl E9).length) W := fun W hW => ⟨act_gen (hW.obj hv9 id), (hR9.nm.ext hW id).look hwf, (hR9.nm.ext hW id).len 3⟩
                  have hc18 : ∀ W, Ext NoB W9 W → Calls Try.prog 18 #[.pointer (some ⟨p, 0, none⟩)] W fun e w' => ∃ A c, e = .returned (.slice A (gl E9).length c) ∧ Ext NoB W w' := fun W hW => (gens18 (hR9.cs.ext hW (fun _ _ h => h)) (by have := gl_len E9; omega)).mono fun e w' h => by
                    obtain ⟨v, h1, h2, h3, _⟩ := h
                    obtain ⟨A, c, h4, _⟩ := h2.slice
                    rw [gens_len] at h4
                    exact ⟨A, c, by rw [h1, h4], h3⟩
                  have hc15 : ∀ W, Ext NoB W9 W → Calls Try.prog 15 #[.pointer (some ⟨p, 0, none⟩), .int .i64 g] W fun e w' => e = .returned (.int .i64 (tagsOf E9 g).length) ∧ Ext NoB W w' := fun W hW => len15 (hR9.cs.ext hW (fun _ _ h => h)) hwf
                  have HLR : Hid (∀ W, Ext NoB W9 W → LnRel w p nb size (k + 1) W) := Lib.hid fun W hW => ⟨lo9, E9, F9, hR9.ext hW, hE9⟩
                  have hg9 : (gl E9).length ≤ 1000 := by have := gl_len E9; omega
                  generalize tagsOf E9 g = T9 at hS hc15
                  generalize gl E9 = G9 at hS hc18 hg9
                  have HC18 := Lib.hid hc18
                  have HC15 := Lib.hid hc15
                  have HS := Lib.hid hS
                  clear hR9 hv9 hE9 hc15 hc18 hS
                  go_region_held3 (fun W => W.cell? ⟨vb, 1, none⟩ = some (.int .i64 g) ∧ (Instr.lookup 56 (.map (some nb)) (.int .i64 g) false).run Try.prog W = .ok (.int .i64 T9.length) W ∧ (Builtin.len_ #[56] 3 #[.map (some nb)]).run Try.prog W = .ok (.int .i64 G9.length) W)
                    (first | (exact HS.out _ x22) | (exact HS.out _ (Ext.drew NoB W9)))
                    (first
                      | (go_at_call 18; (with_reducible refine (HC18.out _ (Ext.drew NoB W9)).mono ?_); rintro e V8 ⟨A22, c22, rfl, y8⟩; have x22 := (Ext.drew NoB W9).then y8)
                      | (go_at_call 15; (with_reducible refine (HC15.out _ x22).mono ?_); rintro e V9 ⟨rfl, y9⟩; have x22 := x22.then y9))
                  all_goals (
                    have hR := HLR.out _ x22
                    clear HLR HS x22 y8 y9
                    go_wp2_with fail
                    exact ⟨⟨k + 1, by omega, by omega, by go_num, hR⟩, by simp [intOf]; omega⟩)
            · intro x c w1 cnt1 hwx hwc hlx hat hrg1 hlt9 hg1 hs1 hen
              obtain ⟨hL1, hxE, hxk⟩ := HL.out.step hlx
              have hx1 : Ext (fun k => k = W0.heap.size) wr w1 := (Ext.ofGrown hg1).mono fun k _ hk => by injection hk with hk; exact hk.symm
              have hxw : Ext NoB W0 w1 := hx.trans hx1 (fun _ _ h => h) (fun k hk h => by omega)
              have hcc : c = (tagsOf E x).length := by
                have h9 := HD.out.2.2 x hxE (.lit (.int .i64 0))
                rw [hat] at h9
                injection h9 with h9
                injection h9
              have f1 := hxw.cell c1 (fun h => h)
              have hyes : x < g → goneOf E g (ks ++ [x]) = goneOf E g ks + (tagsOf E x).length := fun h => goneOf_yes E g ks hxk h
              have hno : ¬ x < g → goneOf E g (ks ++ [x]) = goneOf E g ks := fun h => goneOf_no E g ks h
              have hle2 := goneOf_le E g (ks ++ [x])
              have hR4 := Lib.hid (And.intro hrg1 (And.intro hL1 hxw))
              by_cases hxg : x < g
              · have hy := hyes hxg
                have hs9 : (goneOf E g ks : Int) + c = (goneOf E g (ks ++ [x]) : Int) := by rw [hy, hcc]; simp
                have HS9 := Lib.hid hs9
                have hb9 : (goneOf E g ks : Int) + c ≤ 1000 := by omega
                have hb8 : 0 ≤ (goneOf E g ks : Int) + c := by omega
                clear hL1 hxE hxk hyes hno hy hs9 hcc d1
                go_wp2_with fail
                exact ⟨⟨_, _, ks ++ [x], hR4.out.1, hR4.out.2.1, by rw [HS9.out], hR4.out.2.2⟩, by rw [hR4.out.1.left_eq, hrg.left_eq]; exact hlt9⟩
              · have hy := hno hxg
                clear hL1 hxE hxk hyes hno hcc d1
                go_wp2_with fail
                exact ⟨⟨_, _, ks ++ [x], hR4.out.1, hR4.out.2.1, by rw [hy], hR4.out.2.2⟩, by rw [hR4.out.1.left_eq, hrg.left_eq]; exact hlt9⟩
        · have e1 := mod4' kd hkd1
          have c0 := act_kind hv0
          have c1 := act_gen hv0
          have hFn : ¬ F nb := fun hf => (hR1.own _ hf).2.1 rfl
          have hnm1 := hR1.nm
          have HR1 := Lib.hid hR1
          have HV0 := Lib.hid hv0
          have HNM := Lib.hid hnm1
          have hE0 : E.length < 1000000 := by omega
          clear hkd1 hR1 hnm1
          go_upto_region 26 with fail
          clear e1
          by_cases hA : AddE size lo E g t = 0
          · go_upto_region 27 with (first
              | ((with_reducible show wpList _ _ _ (⟨_, .load 30 _, _, _, _, _⟩ :: _) _ _); refine wpList_load_arrm (by rfl) 30 _ rfl vb 2 rfl (tvs t) _ (act_range hv0) Try.underlying30 rfl sA ?_)
              | (go_at_call 12; (with_reducible refine (add12 HR1.out.cs z1 z2 ht hwf).mono ?_); rintro e W7 ⟨he7, x7, hcs7⟩; rw [hA] at he7; rw [if_pos hA] at hcs7; subst he7))
            have hnm7 := HNM.out.ext x7 hFn
            have hlk := hnm7.look hwf
            obtain ⟨W9, hup, hnm9, x9⟩ := hnm7.incr hwf t hE0
            have hv7 := x7.obj HV0.out hvF
            have c1 := act_gen hv7
            have hv9 := x9.obj hv7 (fun e => hvn e.symm)
            have hR9 := HR1.out.step x7 hcs7 (fun _ h => h) x9 hnm9
            have hE9 : (E ++ [(g, t)]).length ≤ k + 1 := by simp; omega
            have htl := tagsOf_len E g
            have HR9 := Lib.hid hR9
            have HV9 := Lib.hid hv9
            clear hR9 hv9 hv7 hnm7 hnm9 x7 hcs7 x9 hv0 HV0 HR1 HNM c0
            go_upto_region 28 with fail
            have hR9 := HR9.out
            have hv9 := HV9.out
            clear HR9 HV9 hlk hup htl c1
            obtain ⟨E9, hE9e⟩ : ∃ E9, E9 = E ++ [(g, t)] := ⟨_, rfl⟩
            rw [← hE9e] at hR9 hE9
            generalize lo = lo9 at *
            generalize (fun k => _ ∧ k < W7.heap.size) = F9 at *
            clear hE9e
            have hS : ∀ W, Ext NoB W9 W → W.cell? ⟨vb, 1, none⟩ = some (.int .i64 g) ∧ (Instr.lookup 56 (.map (some nb)) (.int .i64 g) false).run Try.prog W = .ok (.int .i64 (tagsOf E9 g).length) W ∧ (Builtin.len_ #[56] 3 #[.map (some nb)]).run Try.prog W = .ok (.int .i64 (gl E9).length) W := fun W hW => ⟨act_gen (hW.obj hv9 id), (hR9.nm.ext hW id).look hwf, (hR9.nm.ext hW id).len 3⟩
            have hc18 : ∀ W, Ext NoB W9 W → Calls Try.prog 18 #[.pointer (some ⟨p, 0, none⟩)] W fun e w' => ∃ A c, e = .returned (.slice A (gl E9).length c) ∧ Ext NoB W w' := fun W hW => (gens18 (hR9.cs.ext hW (fun _ _ h => h)) (by have := gl_len E9; omega)).mono fun e w' h => by
              obtain ⟨v, h1, h2, h3, _⟩ := h
              obtain ⟨A, c, h4, _⟩ := h2.slice
              rw [gens_len] at h4
              exact ⟨A, c, by rw [h1, h4], h3⟩
            have hc15 : ∀ W, Ext NoB W9 W → Calls Try.prog 15 #[.pointer (some ⟨p, 0, none⟩), .int .i64 g] W fun e w' => e = .returned (.int .i64 (tagsOf E9 g).length) ∧ Ext NoB W w' := fun W hW => len15 (hR9.cs.ext hW (fun _ _ h => h)) hwf
            have HLR : Hid (∀ W, Ext NoB W9 W → LnRel w p nb size (k + 1) W) := Lib.hid fun W hW => ⟨lo9, E9, F9, hR9.ext hW, hE9⟩
            have hg9 : (gl E9).length ≤ 1000 := by have := gl_len E9; omega
            generalize tagsOf E9 g = T9 at hS hc15
            generalize gl E9 = G9 at hS hc18 hg9
            have HC18 := Lib.hid hc18
            have HC15 := Lib.hid hc15
            have HS := Lib.hid hS
            clear hR9 hv9 hE9 hc15 hc18 hS
            go_region_held3 (fun W => W.cell? ⟨vb, 1, none⟩ = some (.int .i64 g) ∧ (Instr.lookup 56 (.map (some nb)) (.int .i64 g) false).run Try.prog W = .ok (.int .i64 T9.length) W ∧ (Builtin.len_ #[56] 3 #[.map (some nb)]).run Try.prog W = .ok (.int .i64 G9.length) W)
              (first | (exact HS.out _ x22) | (exact HS.out _ (Ext.drew NoB W9)))
              (first
                | (go_at_call 18; (with_reducible refine (HC18.out _ (Ext.drew NoB W9)).mono ?_); rintro e V8 ⟨A22, c22, rfl, y8⟩; have x22 := (Ext.drew NoB W9).then y8)
                | (go_at_call 15; (with_reducible refine (HC15.out _ x22).mono ?_); rintro e V9 ⟨rfl, y9⟩; have x22 := x22.then y9))
            all_goals (
              have hR := HLR.out _ x22
              clear HLR HS x22 y8 y9
              go_wp2_with fail
              exact ⟨⟨k + 1, by omega, by omega, by go_num, hR⟩, by simp [intOf]; omega⟩)
          · go_upto_region 28 with (first
              | ((with_reducible show wpList _ _ _ (⟨_, .load 30 _, _, _, _, _⟩ :: _) _ _); refine wpList_load_arrm (by rfl) 30 _ rfl vb 2 rfl (tvs t) _ (act_range hv0) Try.underlying30 rfl sA ?_)
              | (go_at_call 12; (with_reducible refine (add12 HR1.out.cs z1 z2 ht hwf).mono ?_); rintro e W7 ⟨he7, x7, hcs7⟩; rw [if_neg hA] at hcs7; subst he7; have HA := Lib.hid (beq_eq_false_iff_ne.2 hA)))
            have hnm7 := HNM.out.ext x7 hFn
            have hv9 := x7.obj HV0.out hvF
            have hR9 := HR1.out.step x7 hcs7 (fun _ h => h) (Ext.refl _ _) hnm7
            have hE9 : E.length ≤ k + 1 := by omega
            clear hnm7 hcs7 x7 hv0 HV0 HR1 HNM c0 c1 HA hA
            generalize E = E9 at *
            generalize lo = lo9 at *
            generalize (fun k => _ ∧ k < W7.heap.size) = F9 at *
            obtain ⟨W9, hW9⟩ : ∃ W9, W9 = W7 := ⟨_, rfl⟩
            subst hW9
            have hS : ∀ W, Ext NoB W9 W → W.cell? ⟨vb, 1, none⟩ = some (.int .i64 g) ∧ (Instr.lookup 56 (.map (some nb)) (.int .i64 g) false).run Try.prog W = .ok (.int .i64 (tagsOf E9 g).length) W ∧ (Builtin.len_ #[56] 3 #[.map (some nb)]).run Try.prog W = .ok (.int .i64 (gl E9).length) W := fun W hW => ⟨act_gen (hW.obj hv9 id), (hR9.nm.ext hW id).look hwf, (hR9.nm.ext hW id).len 3⟩
            have hc18 : ∀ W, Ext NoB W9 W → Calls Try.prog 18 #[.pointer (some ⟨p, 0, none⟩)] W fun e w' => ∃ A c, e = .returned (.slice A (gl E9).length c) ∧ Ext NoB W w' := fun W hW => (gens18 (hR9.cs.ext hW (fun _ _ h => h)) (by have := gl_len E9; omega)).mono fun e w' h => by
              obtain ⟨v, h1, h2, h3, _⟩ := h
              obtain ⟨A, c, h4, _⟩ := h2.slice
              rw [gens_len] at h4
              exact ⟨A, c, by rw [h1, h4], h3⟩
            have hc15 : ∀ W, Ext NoB W9 W → Calls Try.prog 15 #[.pointer (some ⟨p, 0, none⟩), .int .i64 g] W fun e w' => e = .returned (.int .i64 (tagsOf E9 g).length) ∧ Ext NoB W w' := fun W hW => len15 (hR9.cs.ext hW (fun _ _ h => h)) hwf
            have HLR : Hid (∀ W, Ext NoB W9 W → LnRel w p nb size (k + 1) W) := Lib.hid fun W hW => ⟨lo9, E9, F9, hR9.ext hW, hE9⟩
            have hg9 : (gl E9).length ≤ 1000 := by have := gl_len E9; omega
            generalize tagsOf E9 g = T9 at hS hc15
            generalize gl E9 = G9 at hS hc18 hg9
            have HC18 := Lib.hid hc18
            have HC15 := Lib.hid hc15
            have HS := Lib.hid hS
            clear hR9 hv9 hE9 hc15 hc18 hS
            go_region_held3 (fun W => W.cell? ⟨vb, 1, none⟩ = some (.int .i64 g) ∧ (Instr.lookup 56 (.map (some nb)) (.int .i64 g) false).run Try.prog W = .ok (.int .i64 T9.length) W ∧ (Builtin.len_ #[56] 3 #[.map (some nb)]).run Try.prog W = .ok (.int .i64 G9.length) W)
              (first | (exact HS.out _ x22) | (exact HS.out _ (Ext.drew NoB W9)))
              (first
                | (go_at_call 18; (with_reducible refine (HC18.out _ (Ext.drew NoB W9)).mono ?_); rintro e V8 ⟨A22, c22, rfl, y8⟩; have x22 := (Ext.drew NoB W9).then y8)
                | (go_at_call 15; (with_reducible refine (HC15.out _ x22).mono ?_); rintro e V9 ⟨rfl, y9⟩; have x22 := x22.then y9))
            all_goals (
              have hR := HLR.out _ x22
              clear HLR HS x22 y8 y9
              go_wp2_with fail
              exact ⟨⟨k + 1, by omega, by omega, by go_num, hR⟩, by simp [intOf]; omega⟩)
      · have k1 : (k : Int) < (n : Int) := by omega
        have k2 : ¬ (k : Int) < 120 := by omega
        have hx := hR.x
        clear hR
        go_wp2_with fail
        go_ret
        exact ⟨rfl, hx⟩
    · have k1 : ¬ (k : Int) < (n : Int) := by omega
      have hx := hR.x
      clear hR
      go_wp2_with fail
      go_ret
      exact ⟨rfl, hx⟩
end Go.Proofs.Yteidkdbngjhopaa
