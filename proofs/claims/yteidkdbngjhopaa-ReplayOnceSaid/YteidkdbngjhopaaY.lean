/-
  ReplayActs returns true: the walk.
-/
import Derived.Test.YteidkdbngjhopaaX
set_option linter.unusedVariables false
set_option linter.unusedSimpArgs false
namespace Go.Proofs.Yteidkdbngjhopaa
open Go.RowKit

def AcRel (w : World) (p bm : Nat) (size : Int) (k : Nat) (W : World) : Prop := ∃ lo E F A c, RS w W p bm size lo E lo E F A c ∧ (∀ e ∈ E, 0 ≤ e.1) ∧ E.length ≤ k
theorem ax32 : (Try.prog.info? 32).map (·.size) = some 18 := by kernel_rfl
theorem mod4 (kd : Int) (h : 0 ≤ kd ∧ kd ≤ 255) (h1 : kd % 4 = 1) : (kd % 4 == 1) = true := by simp [h1]
theorem mod4' (kd : Int) (h1 : ¬ kd % 4 = 1) : (kd % 4 == 1) = false := beq_eq_false_iff_ne.2 h1
set_option maxHeartbeats 12800000 in
set_option maxRecDepth 100000 in
theorem acts_walk (size : Int) (hs0 : -9223372036854775808 ≤ size) (hs1 : size ≤ 9223372036854775807) (A0 : Option Addr) (n c0 : Nat) (w : World) (ha : Acts w A0 n) :
    Calls Try.prog 3 #[.int .i64 size, .slice A0 n c0] w fun e w' => e = .returned (.bool true) ∧ Below w.heap.size w w' := by
  have hn63 := ha.1
  unfold maxLen at hn63
  have Ha := Lib.hid ha
  clear ha
  by_cases hsz : 1 ≤ size ∧ size ≤ 4096
  · obtain ⟨z1, z2⟩ := hsz
    go_enter Try.func3, Try.ntmps3
    go_upto_region 6 with (first
      | (go_at_call 7; refine (alive_any _).mono ?_; rintro e W1 ⟨rfl, x1⟩)
      | (go_at_call 8; refine (new_yes size z1 z2 _).mono ?_; rintro e W2 ⟨rfl, h2, x2⟩))
    have hzz := x1.size
    have hRS : RS w (W2.alloc (.cells #[.slice none 0 0, .int .i64 size, .int .i64 0] 28)) (W1.heap.size + 1) W2.heap.size size 0 [] 0 [] (fun k => w.heap.size ≤ k ∧ k < W2.heap.size) none 0 :=
      ⟨(h2.mono fun k hk hf => ⟨Nat.le_trans x1.size hf, hk⟩).ext (Ext.alloc NoB _ _) (fun _ _ h => h), heapNew _ _, RE.nil _, fun k hk => ⟨hk.1, by have := hk.2; omega, by simp [Value.ownBlock]⟩, fun k hk => by simp [Value.ownBlock] at hk, fun k hk => by have := hk.2; simp; omega, ((x1.then x2).andAlloc _).below (Nat.le_refl _) fun _ h => h.elim, Nat.le_trans x1.size x2.size⟩
    have hR0 : AcRel w (W1.heap.size + 1) W2.heap.size size 0 (W2.alloc (.cells #[.slice none 0 0, .int .i64 size, .int .i64 0] 28)) := ⟨0, [], _, none, 0, hRS, by simp, by simp⟩
    clear hRS h2
    obtain ⟨p, hp⟩ : ∃ p, p = W1.heap.size + 1 := ⟨_, rfl⟩
    obtain ⟨bm, hbm⟩ : ∃ bm, bm = W2.heap.size := ⟨_, rfl⟩
    rw [← hp, ← hbm] at hR0
    go_wp2_with fail
    rw [← hp, ← hbm]
    generalize W2.alloc _ = W3 at hR0 ⊢
    clear hp hbm x2 x1 hzz
    go_loopw [7] (fun i W => ∃ k : Nat, k ≤ n ∧ k ≤ 120 ∧ i = .int .i64 k ∧ AcRel w p bm size k W) (fun i _ => n - (intOf i).toNat)
    case atStart => exact ⟨0, Nat.zero_le _, Nat.zero_le _, rfl, hR0⟩
    case round =>
      clear hR0
      obtain ⟨k, hk, hk2, rfl, lo, E, F, A, c, hR, hpos, hEk⟩ := hrel
      by_cases hlt : k < n
      · by_cases hlt2 : k < 120
        · have k1 : (k : Int) < (n : Int) := by omega
          have k2 : (k : Int) < 120 := by omega
          obtain ⟨b, o, kd, g, t, rfl, hb, hkd, hwf, ht, hra⟩ := Ha.out.at' hR.x hlt
          have HRA := Lib.hid hra
          have sX : (Try.prog.info? 32).map (·.size) = some (acs kd g (tvs t)).length := by rw [show (acs kd g (tvs t)).length = 18 by simp [ht.len]]; exact ax32
          have lA := tvs_len ht
          have sA : (Try.prog.info? 30).map (·.size) = some (tvs t).length := by rw [lA]; exact size30
          have hA : (tv t).size = 16 := by rw [List.size_toArray]; exact lA
          clear hra
          obtain ⟨V, hV⟩ : ∃ V, V = (acs kd g (tvs t)).toArray := ⟨_, rfl⟩
          have lV : V.size = 18 := by rw [hV]; simp [ht.len]
          have sV : (Try.prog.info? 32).map (·.size) = some V.size := by rw [lV]; exact ax32
          have oV : V.all (·.oneCell') = true := by rw [hV]; exact all_oneCell_toArray (fun v hv => by rcases List.mem_cons.1 hv with rfl | hv; rfl; rcases List.mem_cons.1 hv with rfl | hv; rfl; exact tvs_one t v hv)
          have x0 := Ext.alloc NoB wr (.cells V 32)
          have hv0 : (wr.alloc (.cells V 32)).heap[wr.heap.size]? = some (.cells (acs kd g (tvs t)).toArray 32 (0, 0)) := by rw [← hV]; exact heapNew _ _
          have HVE := Lib.hid hV
          clear hV
          have hR1 := hR.ext x0
          go_upto_region 11 with (first
            | ((with_reducible show wpList _ _ _ (⟨_, .load 32 _, _, _, _, _⟩ :: _) _ _); refine wpList_load_arrm (by rfl) 32 _ rfl b (o + k * 18) rfl (acs kd g (tvs t)) _ HRA.out Try.underlying32 rfl sX ?_)
            | ((with_reducible show wpList _ _ _ (⟨_, .store 32 _ _, _, _, _, _⟩ :: _) _ _); refine wpList_store_new rfl 32 _ _ rfl wr.heap.size V rfl (by rw [HVE.out]; rfl) rfl (by rw [lV]; rfl) sV oV ?_))
          by_cases hkd1 : kd % 4 = 1
          · have e1 := mod4 kd hkd hkd1
            have c0 := act_kind hv0
            have c1 := act_gen hv0
            obtain ⟨d0, d1, d2⟩ := three hR1.bx
            go_upto_region 13 with (first
              | (go_at_call 9; (with_reducible refine (rforget A c size lo g E _ hR1.re (by omega)).mono ?_); rintro e W4 ⟨A4, c4, rfl, hre4, x4, hn4⟩))
            have hR4 := hR1.rstep x4 hre4 (hR1.fresh (.inl hn4)) (.cells #[.slice A4 (keepG E g).length c4, .int .i64 size, .int .i64 (max lo g)] 28) (lo2 := max lo g)
            have hb4 := (x4.andAlloc (.cells #[.slice A4 (keepG E g).length c4, .int .i64 size, .int .i64 (max lo g)] 28)).obj hR1.bx id
            have hnew4 := heapNew W4 (.cells #[.slice A4 (keepG E g).length c4, .int .i64 size, .int .i64 (max lo g)] 28)
            have hv4 := (x4.andAlloc (.cells #[.slice A4 (keepG E g).length c4, .int .i64 size, .int .i64 (max lo g)] 28)).obj hv0 id
            have hvb : bm ≠ wr.heap.size := fun e => by have := blk_lt' hR.bx; omega
            obtain ⟨d0, d1, d2⟩ := three hb4
            have df := freeOf hb4
            obtain ⟨n0, n1, n2⟩ := three hnew4
            have HR4 := Lib.hid hR4
            have hx13 : Ext (fun k => k = bm) (W4.alloc (.cells #[.slice A4 (keepG E g).length c4, .int .i64 size, .int .i64 (max lo g)] 28)) ((((W4.alloc (.cells #[.slice A4 (keepG E g).length c4, .int .i64 size, .int .i64 (max lo g)] 28)).setCell ⟨bm, 0, none⟩ (.slice A4 (keepG E g).length c4)).setCell ⟨bm, 1, none⟩ (.int .i64 size)).setCell ⟨bm, 2, none⟩ (.int .i64 (max lo g))) :=
              ((Ext.setCell (F := fun k => k = bm) _ ⟨bm, 0, none⟩ _ fun _ => rfl).andSet ⟨bm, 1, none⟩ _ fun _ => rfl).andSet ⟨bm, 2, none⟩ _ fun _ => rfl
            have hv6 := hx13.obj hv4 (fun e => hvb e.symm)
            have HV6 := Lib.hid hv6
            have hFv : ¬ F wr.heap.size := fun hf => Nat.lt_irrefl _ (hR.lt _ hf)
            clear hR4 hre4 x4 hn4 hnew4 hb4 hv4 hx13 hv6 c0 c1
            go_upto_region 14 with (fail)
            clear d0 d1 d2 n0 n1 n2 df hR1 hv0
            generalize World.setCell (World.setCell (World.setCell _ _ _) _ _) _ _ = W6 at HR4 HV6 ⊢
            have c1 := act_gen HV6.out
            go_upto_region 20 with (first
              | (go_at_call 10; (with_reducible refine (forget10 HR4.out.cs HR4.out.lt (by omega) hwf).mono ?_); rintro e W7 ⟨rfl, hcs7, x7⟩))
            have hR7 := HR4.out.cstep x7 hcs7 (fun k hk => .inl hk)
            have hv7 := x7.obj HV6.out hFv
            have hE7 : (keepG E g).length ≤ k + 1 := by have := keepG_len E g; omega
            have hpos7 : ∀ e ∈ keepG E g, 0 ≤ e.1 := fun e he => hpos e (List.mem_filter.1 he).1
            have HPOS7 := Lib.hid hpos7
            clear HR4 HV6 x7 hcs7 c1 hpos hR HRA
            generalize keepG E g = E7 at *
            generalize max lo g = lo7 at *
            generalize A4 = A7 at *
            generalize c4 = c7 at *
            have hS : ∀ W, Ext NoB W7 W → (W.cell? ⟨wr.heap.size, 1, none⟩ = some (.int .i64 g) ∧ W.rangeAt wr.heap.size 2 (tvs t) ∧ W.cell? ⟨bm, 0, none⟩ = some (.slice A7 E7.length c7) ∧ W.cell? ⟨bm, 1, none⟩ = some (.int .i64 size) ∧ W.cell? ⟨bm, 2, none⟩ = some (.int .i64 lo7)) ∧ Ext NoB W7 W := fun W hW => ⟨⟨act_gen (hW.obj hv7 id), act_range (hW.obj hv7 id), three (hW.obj hR7.bx id)⟩, hW⟩
            have hc13 : ∀ W, Ext NoB W7 W → Calls Try.prog 13 #[.pointer (some ⟨p, 0, none⟩), .int .i64 g, .agg (tvs t).toArray] W fun e w' => e = .returned (.bool (decide ((g, t) ∈ E7))) ∧ Ext NoB W w' := fun W hW => has13 (hR7.cs.ext hW (fun _ _ h => h)) hwf ht
            have hc14 : ∀ W, Ext NoB W7 W → Calls Try.prog 14 #[.agg #[.slice A7 E7.length c7, .int .i64 size, .int .i64 lo7], .int .i64 g, .agg (tvs t).toArray] W fun e w' => e = .returned (.bool (decide ((g, t) ∈ E7))) ∧ Ext NoB W w' := fun W hW => has14 A7 c7 size lo7 g t ht E7 W (hR7.re.ext hW (fun _ _ h => h)) (by omega)
            have hc15 : ∀ W, Ext NoB W7 W → Calls Try.prog 15 #[.pointer (some ⟨p, 0, none⟩), .int .i64 g] W fun e w' => e = .returned (.int .i64 (tagsOf E7 g).length) ∧ Ext NoB W w' := fun W hW => len15 (hR7.cs.ext hW (fun _ _ h => h)) hwf
            have hc16 : ∀ W, Ext NoB W7 W → Calls Try.prog 16 #[.agg #[.slice A7 E7.length c7, .int .i64 size, .int .i64 lo7], .int .i64 g] W fun e w' => e = .returned (.int .i64 (tagsOf E7 g).length) ∧ Ext NoB W w' := fun W hW => len16 A7 c7 size lo7 g E7 W (hR7.re.ext hW (fun _ _ h => h)) (by omega)
            have hc18 : ∀ W, Ext NoB W7 W → Calls Try.prog 18 #[.pointer (some ⟨p, 0, none⟩)] W (GensEnd W E7) := fun W hW => gens18 (hR7.cs.ext hW (fun _ _ h => h)) (by have := gl_len E7; omega)
            have hc19 : ∀ W, Ext NoB W7 W → Calls Try.prog 19 #[.agg #[.slice A7 E7.length c7, .int .i64 size, .int .i64 lo7]] W (GensEnd W E7) := fun W hW => gens19 A7 c7 size lo7 E7 W (hR7.re.ext hW (fun _ _ h => h)) hpos7 (by omega)
            have hgl7 : (gens E7).length ≤ 1000000 := by rw [gens_len]; have := gl_len E7; omega
            generalize hBt : tvs t = B at *
            generalize decide ((g, t) ∈ E7) = hb at hc13 hc14
            generalize ((tagsOf E7 g).length : Int) = nt at hc15 hc16
            have HS := Lib.hid hS
            have HC13 := Lib.hid hc13
            have HC14 := Lib.hid hc14
            have HC15 := Lib.hid hc15
            have HC16 := Lib.hid hc16
            have HC18 := Lib.hid hc18
            have HC19 := Lib.hid hc19
            have HBT := Lib.hid hBt
            have h0 := hS _ (Ext.drew NoB W7)
            have x := Ext.drew NoB W7
            have HAC : Hid (AcRel w p bm size (k + 1) W7) := Lib.hid ⟨lo7, E7, _, A7, c7, hR7, hpos7, hE7⟩
            have HR7 := Lib.hid hR7
            clear hS hc13 hc14 hc15 hc16 hc18 hc19 hBt hR7 hv7 hpos7
            refine wp_region_held_drew (S := fun W => (W.cell? ⟨wr.heap.size, 1, none⟩ = some (.int .i64 g) ∧ W.rangeAt wr.heap.size 2 B ∧ W.cell? ⟨bm, 0, none⟩ = some (.slice A7 E7.length c7) ∧ W.cell? ⟨bm, 1, none⟩ = some (.int .i64 size) ∧ W.cell? ⟨bm, 2, none⟩ = some (.int .i64 lo7)) ∧ Ext NoB W7 W) (by kernel_rfl) ?_ (fun hHeld => ?_)
            · exact h0
            refine wpAnyH_take (i := 0) (oi := ⟨some 82, _, _, _, _, _⟩) (v := .pointer (some ⟨p, 0, none⟩)) rfl (by kernel_rfl) (by kernel_rfl) (by kernel_rfl) (fun _ _ _ h => h) (Or.inl ⟨by rfl, fun w hSw => by (obtain ⟨⟨s0, s1, s2, s3, s4⟩, s5⟩ := hSw; go_simp)⟩) (by assumption) ?_
            try simp only [Act.put, List.setIfInBounds_toArray, List.set_cons_zero, List.set_cons_succ]
            refine wpAnyH_take (i := 1) (oi := ⟨some 83, _, _, _, _, _⟩) (v := .pointer (some ⟨wr.heap.size, 1, none⟩)) rfl (by kernel_rfl) (by kernel_rfl) (by kernel_rfl) (fun _ _ _ h => h) (Or.inl ⟨by rfl, fun w hSw => by (obtain ⟨⟨s0, s1, s2, s3, s4⟩, s5⟩ := hSw; go_simp)⟩) (by assumption) ?_
            try simp only [Act.put, List.setIfInBounds_toArray, List.set_cons_zero, List.set_cons_succ]
            refine wpAnyH_take (i := 2) (oi := ⟨some 84, _, _, _, _, _⟩) (v := .int .i64 g) rfl (by kernel_rfl) (by kernel_rfl) (by kernel_rfl) (fun _ _ _ h => h) (Or.inl ⟨by rfl, fun w hSw => by (obtain ⟨⟨s0, s1, s2, s3, s4⟩, s5⟩ := hSw; go_simp)⟩) (by assumption) ?_
            try simp only [Act.put, List.setIfInBounds_toArray, List.set_cons_zero, List.set_cons_succ]
            refine wpAnyH_take (i := 3) (oi := ⟨some 85, _, _, _, _, _⟩) (v := .pointer (some ⟨wr.heap.size, 2, none⟩)) rfl (by kernel_rfl) (by kernel_rfl) (by kernel_rfl) (fun _ _ _ h => h) (Or.inl ⟨by rfl, fun w hSw => by (obtain ⟨⟨s0, s1, s2, s3, s4⟩, s5⟩ := hSw; go_simp)⟩) (by assumption) ?_
            try simp only [Act.put, List.setIfInBounds_toArray, List.set_cons_zero, List.set_cons_succ]
            refine' wpAnyH_take (i := 4) (oi := ⟨some 86, _, _, _, _, _⟩) (v := _) rfl (by kernel_rfl) (by kernel_rfl) (by kernel_rfl) (fun _ _ _ h => h) (yieldsIf_load_mid (by rfl) 30 _ (by rfl) (wr.heap.size) (2) (by rfl) (B) _ (fun w h => h.1.2.1) Try.underlying30 (by rfl) sA) (by assumption) ?_
            try simp only [Act.put, List.setIfInBounds_toArray, List.set_cons_zero, List.set_cons_succ]
            refine wpAnyH_take (i := 6) (oi := ⟨some 88, _, _, _, _, _⟩) (v := .agg #[.slice A7 E7.length c7, .int .i64 size, .int .i64 lo7]) rfl (by kernel_rfl) (by kernel_rfl) (by kernel_rfl) (fun _ _ _ h => h) (Or.inl ⟨by rfl, fun w hSw => by (obtain ⟨⟨s0, s1, s2, s3, s4⟩, s5⟩ := hSw; go_simp)⟩) (by assumption) ?_
            try simp only [Act.put, List.setIfInBounds_toArray, List.set_cons_zero, List.set_cons_succ]
            refine wpAnyH_take (i := 7) (oi := ⟨some 89, _, _, _, _, _⟩) (v := .pointer (some ⟨wr.heap.size, 1, none⟩)) rfl (by kernel_rfl) (by kernel_rfl) (by kernel_rfl) (fun _ _ _ h => h) (Or.inl ⟨by rfl, fun w hSw => by (obtain ⟨⟨s0, s1, s2, s3, s4⟩, s5⟩ := hSw; go_simp)⟩) (by assumption) ?_
            try simp only [Act.put, List.setIfInBounds_toArray, List.set_cons_zero, List.set_cons_succ]
            refine wpAnyH_take (i := 8) (oi := ⟨some 90, _, _, _, _, _⟩) (v := .int .i64 g) rfl (by kernel_rfl) (by kernel_rfl) (by kernel_rfl) (fun _ _ _ h => h) (Or.inl ⟨by rfl, fun w hSw => by (obtain ⟨⟨s0, s1, s2, s3, s4⟩, s5⟩ := hSw; go_simp)⟩) (by assumption) ?_
            try simp only [Act.put, List.setIfInBounds_toArray, List.set_cons_zero, List.set_cons_succ]
            refine wpAnyH_take (i := 9) (oi := ⟨some 91, _, _, _, _, _⟩) (v := .pointer (some ⟨wr.heap.size, 2, none⟩)) rfl (by kernel_rfl) (by kernel_rfl) (by kernel_rfl) (fun _ _ _ h => h) (Or.inl ⟨by rfl, fun w hSw => by (obtain ⟨⟨s0, s1, s2, s3, s4⟩, s5⟩ := hSw; go_simp)⟩) (by assumption) ?_
            try simp only [Act.put, List.setIfInBounds_toArray, List.set_cons_zero, List.set_cons_succ]
            refine' wpAnyH_take (i := 10) (oi := ⟨some 92, _, _, _, _, _⟩) (v := _) rfl (by kernel_rfl) (by kernel_rfl) (by kernel_rfl) (fun _ _ _ h => h) (yieldsIf_load_mid (by rfl) 30 _ (by rfl) (wr.heap.size) (2) (by rfl) (B) _ (fun w h => h.1.2.1) Try.underlying30 (by rfl) sA) (by assumption) ?_
            try simp only [Act.put, List.setIfInBounds_toArray, List.set_cons_zero, List.set_cons_succ]
            refine wpAnyH_ready (rs := [5]) (by kernel_rfl) (by simp) (AllReadyH.cons (by rfl) (fun K hK => ?_) AllReadyH.nil)
            go_simp
            refine (HC13.out _ x).mono ?_
            rintro e V1 ⟨rfl, y1⟩
            have x := x.then y1
            go_simp
            refine hK.out _ _ (HS.out _ x) (fun hHeld => ?_)
            clear hK K
            try simp only [Act.put, List.setIfInBounds_toArray, List.set_cons_zero, List.set_cons_succ]
            refine wpAnyH_ready (rs := [11]) (by kernel_rfl) (by simp) (AllReadyH.cons (by rfl) (fun K hK => ?_) AllReadyH.nil)
            go_simp
            refine (HC14.out _ x).mono ?_
            rintro e V2 ⟨rfl, y2⟩
            have x := x.then y2
            go_simp
            refine hK.out _ _ (HS.out _ x) (fun hHeld => ?_)
            clear hK K
            try simp only [Act.put, List.setIfInBounds_toArray, List.set_cons_zero, List.set_cons_succ]
            refine wpAnyH_take (i := 12) (oi := ⟨some 94, _, _, _, _, _⟩) (v := .bool false) rfl (by kernel_rfl) (by kernel_rfl) (by kernel_rfl) (fun _ _ _ h => h) (Or.inl ⟨by rfl, fun w hSw => by (obtain ⟨⟨s0, s1, s2, s3, s4⟩, s5⟩ := hSw; go_simp)⟩) (by assumption) ?_
            try simp only [Act.put, List.setIfInBounds_toArray, List.set_cons_zero, List.set_cons_succ]
            refine wpAnyH_take (i := 13) (oi := ⟨some 95, _, _, _, _, _⟩) (v := .bool false) rfl (by kernel_rfl) (by kernel_rfl) (by kernel_rfl) (fun _ _ _ h => h) (Or.inl ⟨by rfl, fun w hSw => by (obtain ⟨⟨s0, s1, s2, s3, s4⟩, s5⟩ := hSw; go_simp)⟩) (by assumption) ?_
            try simp only [Act.put, List.setIfInBounds_toArray, List.set_cons_zero, List.set_cons_succ]
            refine wpAnyH_take (i := 14) (oi := ⟨some 96, _, _, _, _, _⟩) (v := .pointer (some ⟨p, 0, none⟩)) rfl (by kernel_rfl) (by kernel_rfl) (by kernel_rfl) (fun _ _ _ h => h) (Or.inl ⟨by rfl, fun w hSw => by (obtain ⟨⟨s0, s1, s2, s3, s4⟩, s5⟩ := hSw; go_simp)⟩) (by assumption) ?_
            try simp only [Act.put, List.setIfInBounds_toArray, List.set_cons_zero, List.set_cons_succ]
            refine wpAnyH_take (i := 15) (oi := ⟨some 97, _, _, _, _, _⟩) (v := .pointer (some ⟨wr.heap.size, 1, none⟩)) rfl (by kernel_rfl) (by kernel_rfl) (by kernel_rfl) (fun _ _ _ h => h) (Or.inl ⟨by rfl, fun w hSw => by (obtain ⟨⟨s0, s1, s2, s3, s4⟩, s5⟩ := hSw; go_simp)⟩) (by assumption) ?_
            try simp only [Act.put, List.setIfInBounds_toArray, List.set_cons_zero, List.set_cons_succ]
            refine wpAnyH_take (i := 16) (oi := ⟨some 98, _, _, _, _, _⟩) (v := .int .i64 g) rfl (by kernel_rfl) (by kernel_rfl) (by kernel_rfl) (fun _ _ _ h => h) (Or.inl ⟨by rfl, fun w hSw => by (obtain ⟨⟨s0, s1, s2, s3, s4⟩, s5⟩ := hSw; go_simp)⟩) (by assumption) ?_
            try simp only [Act.put, List.setIfInBounds_toArray, List.set_cons_zero, List.set_cons_succ]
            refine wpAnyH_take (i := 18) (oi := ⟨some 100, _, _, _, _, _⟩) (v := .agg #[.slice A7 E7.length c7, .int .i64 size, .int .i64 lo7]) rfl (by kernel_rfl) (by kernel_rfl) (by kernel_rfl) (fun _ _ _ h => h) (Or.inl ⟨by rfl, fun w hSw => by (obtain ⟨⟨s0, s1, s2, s3, s4⟩, s5⟩ := hSw; go_simp)⟩) (by assumption) ?_
            try simp only [Act.put, List.setIfInBounds_toArray, List.set_cons_zero, List.set_cons_succ]
            refine wpAnyH_take (i := 19) (oi := ⟨some 101, _, _, _, _, _⟩) (v := .pointer (some ⟨wr.heap.size, 1, none⟩)) rfl (by kernel_rfl) (by kernel_rfl) (by kernel_rfl) (fun _ _ _ h => h) (Or.inl ⟨by rfl, fun w hSw => by (obtain ⟨⟨s0, s1, s2, s3, s4⟩, s5⟩ := hSw; go_simp)⟩) (by assumption) ?_
            try simp only [Act.put, List.setIfInBounds_toArray, List.set_cons_zero, List.set_cons_succ]
            refine wpAnyH_take (i := 20) (oi := ⟨some 102, _, _, _, _, _⟩) (v := .int .i64 g) rfl (by kernel_rfl) (by kernel_rfl) (by kernel_rfl) (fun _ _ _ h => h) (Or.inl ⟨by rfl, fun w hSw => by (obtain ⟨⟨s0, s1, s2, s3, s4⟩, s5⟩ := hSw; go_simp)⟩) (by assumption) ?_
            try simp only [Act.put, List.setIfInBounds_toArray, List.set_cons_zero, List.set_cons_succ]
            refine wpAnyH_ready (rs := [17]) (by kernel_rfl) (by simp) (AllReadyH.cons (by rfl) (fun K hK => ?_) AllReadyH.nil)
            go_simp
            refine (HC15.out _ x).mono ?_
            rintro e V3 ⟨rfl, y3⟩
            have x := x.then y3
            go_simp
            refine hK.out _ _ (HS.out _ x) (fun hHeld => ?_)
            clear hK K
            try simp only [Act.put, List.setIfInBounds_toArray, List.set_cons_zero, List.set_cons_succ]
            refine wpAnyH_ready (rs := [21]) (by kernel_rfl) (by simp) (AllReadyH.cons (by rfl) (fun K hK => ?_) AllReadyH.nil)
            go_simp
            refine (HC16.out _ x).mono ?_
            rintro e V4 ⟨rfl, y4⟩
            have x := x.then y4
            go_simp
            refine hK.out _ _ (HS.out _ x) (fun hHeld => ?_)
            clear hK K
            try simp only [Act.put, List.setIfInBounds_toArray, List.set_cons_zero, List.set_cons_succ]
            refine wpAnyH_take (i := 22) (oi := ⟨some 104, _, _, _, _, _⟩) (v := .bool false) rfl (by kernel_rfl) (by kernel_rfl) (by kernel_rfl) (fun _ _ _ h => h) (Or.inl ⟨by rfl, fun w hSw => by (obtain ⟨⟨s0, s1, s2, s3, s4⟩, s5⟩ := hSw; go_simp)⟩) (by assumption) ?_
            try simp only [Act.put, List.setIfInBounds_toArray, List.set_cons_zero, List.set_cons_succ]
            refine wpAnyH_take (i := 23) (oi := ⟨some 105, _, _, _, _, _⟩) (v := .bool false) rfl (by kernel_rfl) (by kernel_rfl) (by kernel_rfl) (fun _ _ _ h => h) (Or.inl ⟨by rfl, fun w hSw => by (obtain ⟨⟨s0, s1, s2, s3, s4⟩, s5⟩ := hSw; go_simp)⟩) (by assumption) ?_
            try simp only [Act.put, List.setIfInBounds_toArray, List.set_cons_zero, List.set_cons_succ]
            refine wpAnyH_take (i := 24) (oi := ⟨some 106, _, _, _, _, _⟩) (v := .bool false) rfl (by kernel_rfl) (by kernel_rfl) (by kernel_rfl) (fun _ _ _ h => h) (Or.inl ⟨by rfl, fun w hSw => by (obtain ⟨⟨s0, s1, s2, s3, s4⟩, s5⟩ := hSw; go_simp)⟩) (by assumption) ?_
            try simp only [Act.put, List.setIfInBounds_toArray, List.set_cons_zero, List.set_cons_succ]
            refine wpAnyH_take (i := 25) (oi := ⟨some 107, _, _, _, _, _⟩) (v := .pointer (some ⟨p, 0, none⟩)) rfl (by kernel_rfl) (by kernel_rfl) (by kernel_rfl) (fun _ _ _ h => h) (Or.inl ⟨by rfl, fun w hSw => by (obtain ⟨⟨s0, s1, s2, s3, s4⟩, s5⟩ := hSw; go_simp)⟩) (by assumption) ?_
            try simp only [Act.put, List.setIfInBounds_toArray, List.set_cons_zero, List.set_cons_succ]
            refine wpAnyH_take (i := 27) (oi := ⟨some 109, _, _, _, _, _⟩) (v := .agg #[.slice A7 E7.length c7, .int .i64 size, .int .i64 lo7]) rfl (by kernel_rfl) (by kernel_rfl) (by kernel_rfl) (fun _ _ _ h => h) (Or.inl ⟨by rfl, fun w hSw => by (obtain ⟨⟨s0, s1, s2, s3, s4⟩, s5⟩ := hSw; go_simp)⟩) (by assumption) ?_
            try simp only [Act.put, List.setIfInBounds_toArray, List.set_cons_zero, List.set_cons_succ]
            refine wpAnyH_ready (rs := [26]) (by kernel_rfl) (by simp) (AllReadyH.cons (by rfl) (fun K hK => ?_) AllReadyH.nil)
            go_simp
            refine (HC18.out _ x).mono ?_
            rintro e V5 ⟨v5, rfl, r5, y5, _⟩
            have x := x.then y5
            go_simp
            refine hK.out _ _ (HS.out _ x) (fun hHeld => ?_)
            clear hK K
            try simp only [Act.put, List.setIfInBounds_toArray, List.set_cons_zero, List.set_cons_succ]
            refine wpAnyH_ready (rs := [28]) (by kernel_rfl) (by simp) (AllReadyH.cons (by rfl) (fun K hK => ?_) AllReadyH.nil)
            go_simp
            refine (HC19.out _ x).mono ?_
            rintro e V6 ⟨v6, rfl, r6, y6, _⟩
            have x := x.then y6
            go_simp
            refine hK.out _ _ (HS.out _ x) (fun hHeld => ?_)
            clear hK K
            try simp only [Act.put, List.setIfInBounds_toArray, List.set_cons_zero, List.set_cons_succ]
            refine wpAnyH_ready (rs := [29]) (by kernel_rfl) (by simp) (AllReadyH.cons (by rfl) (fun K hK => ?_) AllReadyH.nil)
            go_simp
            refine (same17 v5 v6 (gens E7) _ (r5.ext y6 (fun _ _ h => h)) r6 hgl7).mono ?_
            rintro e V8 ⟨rfl, y8⟩
            have x := x.then y8
            go_simp
            refine hK.out _ _ (HS.out _ x) (fun hHeld => ?_)
            clear hK K
            try simp only [Act.put, List.setIfInBounds_toArray, List.set_cons_zero, List.set_cons_succ]
            refine wpAnyH_take (i := 30) (oi := ⟨some 112, _, _, _, _, _⟩) (v := .bool false) rfl (by kernel_rfl) (by kernel_rfl) (by kernel_rfl) (fun _ _ _ h => h) (Or.inl ⟨by rfl, fun w hSw => by (obtain ⟨⟨s0, s1, s2, s3, s4⟩, s5⟩ := hSw; go_simp)⟩) (by assumption) ?_
            try simp only [Act.put, List.setIfInBounds_toArray, List.set_cons_zero, List.set_cons_succ]
            refine wpAnyH_take (i := 31) (oi := ⟨some 113, _, _, _, _, _⟩) (v := .bool false) rfl (by kernel_rfl) (by kernel_rfl) (by kernel_rfl) (fun _ _ _ h => h) (Or.inl ⟨by rfl, fun w hSw => by (obtain ⟨⟨s0, s1, s2, s3, s4⟩, s5⟩ := hSw; go_simp)⟩) (by assumption) ?_
            try simp only [Act.put, List.setIfInBounds_toArray, List.set_cons_zero, List.set_cons_succ]
            refine wpAnyH_done (by kernel_rfl) ?_ _
            have hfin : AcRel w p bm size (k + 1) V8 := ⟨lo7, E7, _, A7, c7, HR7.out.ext x, HPOS7.out, hE7⟩
            clear hHeld h0 r5 r6 y1 y2 y3 y4 y5 y6 y8 x
            go_wp2_with fail
            exact ⟨⟨k + 1, by omega, by omega, by go_num, hfin⟩, by simp [intOf]; omega⟩
          · have e1 := mod4' kd hkd1
            have c0 := act_kind hv0
            have c1 := act_gen hv0
            obtain ⟨d0, d1, d2⟩ := three hR1.bx
            go_upto_region 17 with (first
              | ((with_reducible show wpList _ _ _ (⟨_, .load 30 _, _, _, _, _⟩ :: _) _ _); refine wpList_load_arrm (by rfl) 30 _ rfl wr.heap.size 2 rfl (tvs t) _ (act_range hv0) Try.underlying30 rfl sA ?_)
              | (go_at_call 11; (with_reducible refine (radd A c size lo g t ht hwf E _ hR1.re hpos (by omega)).mono ?_); rintro e W4 ⟨A4, c4, E4, hE4, rfl, hre4, x4, hn4⟩; have HE4 := Lib.hid hE4; clear hE4))
            have hfr : (∀ k, (Value.slice A4 E4.length c4).ownBlock = some k → (wr.alloc (.cells V 32)).heap.size ≤ k) ∨ (Value.slice A4 E4.length c4) = .slice A E.length c := hn4.imp id (fun h => by rw [h.1, h.2.1, h.2.2])
            have hR4 := hR1.rstep x4 hre4 (hR1.fresh hfr) (.cells #[.slice A4 E4.length c4, .int .i64 size, .int .i64 lo] 28) (lo2 := lo)
            have hb4 := (x4.andAlloc (.cells #[.slice A4 E4.length c4, .int .i64 size, .int .i64 lo] 28)).obj hR1.bx id
            have hnew4 := heapNew W4 (.cells #[.slice A4 E4.length c4, .int .i64 size, .int .i64 lo] 28)
            have hv4 := (x4.andAlloc (.cells #[.slice A4 E4.length c4, .int .i64 size, .int .i64 lo] 28)).obj hv0 id
            have hvb : bm ≠ wr.heap.size := fun e => by have := blk_lt' hR.bx; omega
            obtain ⟨d0, d1, d2⟩ := three hb4
            have df := freeOf hb4
            obtain ⟨n0, n1, n2⟩ := three hnew4
            have HR4 := Lib.hid hR4
            have hx13 : Ext (fun k => k = bm) (W4.alloc (.cells #[.slice A4 E4.length c4, .int .i64 size, .int .i64 lo] 28)) ((((W4.alloc (.cells #[.slice A4 E4.length c4, .int .i64 size, .int .i64 lo] 28)).setCell ⟨bm, 0, none⟩ (.slice A4 E4.length c4)).setCell ⟨bm, 1, none⟩ (.int .i64 size)).setCell ⟨bm, 2, none⟩ (.int .i64 lo)) :=
              ((Ext.setCell (F := fun k => k = bm) _ ⟨bm, 0, none⟩ _ fun _ => rfl).andSet ⟨bm, 1, none⟩ _ fun _ => rfl).andSet ⟨bm, 2, none⟩ _ fun _ => rfl
            have hv6 := hx13.obj hv4 (fun e => hvb e.symm)
            have HV6 := Lib.hid hv6
            have hFv : ¬ F wr.heap.size := fun hf => Nat.lt_irrefl _ (hR.lt _ hf)
            clear hR4 hre4 x4 hn4 hnew4 hb4 hv4 hx13 hv6 c0 c1 hfr
            go_upto_region 18 with (fail)
            clear d0 d1 d2 n0 n1 n2 df hR1 hv0
            generalize World.setCell (World.setCell (World.setCell _ _ _) _ _) _ _ = W6 at HR4 HV6 ⊢
            have c1 := act_gen HV6.out
            go_upto_region 20 with (first
              | ((with_reducible show wpList _ _ _ (⟨_, .load 30 _, _, _, _, _⟩ :: _) _ _); refine wpList_load_arrm (by rfl) 30 _ rfl wr.heap.size 2 rfl (tvs t) _ (act_range HV6.out) Try.underlying30 rfl sA ?_)
              | (go_at_call 12; (with_reducible refine (add12 HR4.out.cs z1 z2 ht hwf).mono ?_); rintro e W7 ⟨rfl, x7, hcs7⟩))
            have hR7 := HR4.out.cstep x7 hcs7 (fun k hk => hk)
            rw [← HE4.out] at hR7
            have hv7 := x7.obj HV6.out hFv
            have hE7 : E4.length ≤ k + 1 := by rw [HE4.out]; split; (· simp; omega); (· omega)
            have hpos7 : ∀ e ∈ E4, 0 ≤ e.1 := fun e he => by
              rw [HE4.out] at he
              by_cases hz : AddE size lo E g t = 0
              · rw [if_pos hz] at he
                rcases List.mem_append.1 he with he | he
                · exact hpos e he
                · simp at he; subst he; exact AddE_pos hz
              · rw [if_neg hz] at he; exact hpos e he
            have HPOS7 := Lib.hid hpos7
            clear HR4 HV6 x7 hcs7 c1 hpos hR HRA HE4
            generalize E4 = E7 at *
            generalize lo = lo7 at *
            generalize A4 = A7 at *
            generalize c4 = c7 at *
            have hS : ∀ W, Ext NoB W7 W → (W.cell? ⟨wr.heap.size, 1, none⟩ = some (.int .i64 g) ∧ W.rangeAt wr.heap.size 2 (tvs t) ∧ W.cell? ⟨bm, 0, none⟩ = some (.slice A7 E7.length c7) ∧ W.cell? ⟨bm, 1, none⟩ = some (.int .i64 size) ∧ W.cell? ⟨bm, 2, none⟩ = some (.int .i64 lo7)) ∧ Ext NoB W7 W := fun W hW => ⟨⟨act_gen (hW.obj hv7 id), act_range (hW.obj hv7 id), three (hW.obj hR7.bx id)⟩, hW⟩
            have hc13 : ∀ W, Ext NoB W7 W → Calls Try.prog 13 #[.pointer (some ⟨p, 0, none⟩), .int .i64 g, .agg (tvs t).toArray] W fun e w' => e = .returned (.bool (decide ((g, t) ∈ E7))) ∧ Ext NoB W w' := fun W hW => has13 (hR7.cs.ext hW (fun _ _ h => h)) hwf ht
            have hc14 : ∀ W, Ext NoB W7 W → Calls Try.prog 14 #[.agg #[.slice A7 E7.length c7, .int .i64 size, .int .i64 lo7], .int .i64 g, .agg (tvs t).toArray] W fun e w' => e = .returned (.bool (decide ((g, t) ∈ E7))) ∧ Ext NoB W w' := fun W hW => has14 A7 c7 size lo7 g t ht E7 W (hR7.re.ext hW (fun _ _ h => h)) (by omega)
            have hc15 : ∀ W, Ext NoB W7 W → Calls Try.prog 15 #[.pointer (some ⟨p, 0, none⟩), .int .i64 g] W fun e w' => e = .returned (.int .i64 (tagsOf E7 g).length) ∧ Ext NoB W w' := fun W hW => len15 (hR7.cs.ext hW (fun _ _ h => h)) hwf
            have hc16 : ∀ W, Ext NoB W7 W → Calls Try.prog 16 #[.agg #[.slice A7 E7.length c7, .int .i64 size, .int .i64 lo7], .int .i64 g] W fun e w' => e = .returned (.int .i64 (tagsOf E7 g).length) ∧ Ext NoB W w' := fun W hW => len16 A7 c7 size lo7 g E7 W (hR7.re.ext hW (fun _ _ h => h)) (by omega)
            have hc18 : ∀ W, Ext NoB W7 W → Calls Try.prog 18 #[.pointer (some ⟨p, 0, none⟩)] W (GensEnd W E7) := fun W hW => gens18 (hR7.cs.ext hW (fun _ _ h => h)) (by have := gl_len E7; omega)
            have hc19 : ∀ W, Ext NoB W7 W → Calls Try.prog 19 #[.agg #[.slice A7 E7.length c7, .int .i64 size, .int .i64 lo7]] W (GensEnd W E7) := fun W hW => gens19 A7 c7 size lo7 E7 W (hR7.re.ext hW (fun _ _ h => h)) hpos7 (by omega)
            have hgl7 : (gens E7).length ≤ 1000000 := by rw [gens_len]; have := gl_len E7; omega
            generalize hBt : tvs t = B at *
            generalize decide ((g, t) ∈ E7) = hb at hc13 hc14
            generalize ((tagsOf E7 g).length : Int) = nt at hc15 hc16
            have HS := Lib.hid hS
            have HC13 := Lib.hid hc13
            have HC14 := Lib.hid hc14
            have HC15 := Lib.hid hc15
            have HC16 := Lib.hid hc16
            have HC18 := Lib.hid hc18
            have HC19 := Lib.hid hc19
            have HBT := Lib.hid hBt
            have h0 := hS _ (Ext.drew NoB W7)
            have x := Ext.drew NoB W7
            have HAC : Hid (AcRel w p bm size (k + 1) W7) := Lib.hid ⟨lo7, E7, _, A7, c7, hR7, hpos7, hE7⟩
            have HR7 := Lib.hid hR7
            clear hS hc13 hc14 hc15 hc16 hc18 hc19 hBt hR7 hv7 hpos7
            refine wp_region_held_drew (S := fun W => (W.cell? ⟨wr.heap.size, 1, none⟩ = some (.int .i64 g) ∧ W.rangeAt wr.heap.size 2 B ∧ W.cell? ⟨bm, 0, none⟩ = some (.slice A7 E7.length c7) ∧ W.cell? ⟨bm, 1, none⟩ = some (.int .i64 size) ∧ W.cell? ⟨bm, 2, none⟩ = some (.int .i64 lo7)) ∧ Ext NoB W7 W) (by kernel_rfl) ?_ (fun hHeld => ?_)
            · exact h0
            refine wpAnyH_take (i := 0) (oi := ⟨some 82, _, _, _, _, _⟩) (v := .pointer (some ⟨p, 0, none⟩)) rfl (by kernel_rfl) (by kernel_rfl) (by kernel_rfl) (fun _ _ _ h => h) (Or.inl ⟨by rfl, fun w hSw => by (obtain ⟨⟨s0, s1, s2, s3, s4⟩, s5⟩ := hSw; go_simp)⟩) (by assumption) ?_
            try simp only [Act.put, List.setIfInBounds_toArray, List.set_cons_zero, List.set_cons_succ]
            refine wpAnyH_take (i := 1) (oi := ⟨some 83, _, _, _, _, _⟩) (v := .pointer (some ⟨wr.heap.size, 1, none⟩)) rfl (by kernel_rfl) (by kernel_rfl) (by kernel_rfl) (fun _ _ _ h => h) (Or.inl ⟨by rfl, fun w hSw => by (obtain ⟨⟨s0, s1, s2, s3, s4⟩, s5⟩ := hSw; go_simp)⟩) (by assumption) ?_
            try simp only [Act.put, List.setIfInBounds_toArray, List.set_cons_zero, List.set_cons_succ]
            refine wpAnyH_take (i := 2) (oi := ⟨some 84, _, _, _, _, _⟩) (v := .int .i64 g) rfl (by kernel_rfl) (by kernel_rfl) (by kernel_rfl) (fun _ _ _ h => h) (Or.inl ⟨by rfl, fun w hSw => by (obtain ⟨⟨s0, s1, s2, s3, s4⟩, s5⟩ := hSw; go_simp)⟩) (by assumption) ?_
            try simp only [Act.put, List.setIfInBounds_toArray, List.set_cons_zero, List.set_cons_succ]
            refine wpAnyH_take (i := 3) (oi := ⟨some 85, _, _, _, _, _⟩) (v := .pointer (some ⟨wr.heap.size, 2, none⟩)) rfl (by kernel_rfl) (by kernel_rfl) (by kernel_rfl) (fun _ _ _ h => h) (Or.inl ⟨by rfl, fun w hSw => by (obtain ⟨⟨s0, s1, s2, s3, s4⟩, s5⟩ := hSw; go_simp)⟩) (by assumption) ?_
            try simp only [Act.put, List.setIfInBounds_toArray, List.set_cons_zero, List.set_cons_succ]
            refine' wpAnyH_take (i := 4) (oi := ⟨some 86, _, _, _, _, _⟩) (v := _) rfl (by kernel_rfl) (by kernel_rfl) (by kernel_rfl) (fun _ _ _ h => h) (yieldsIf_load_mid (by rfl) 30 _ (by rfl) (wr.heap.size) (2) (by rfl) (B) _ (fun w h => h.1.2.1) Try.underlying30 (by rfl) sA) (by assumption) ?_
            try simp only [Act.put, List.setIfInBounds_toArray, List.set_cons_zero, List.set_cons_succ]
            refine wpAnyH_take (i := 6) (oi := ⟨some 88, _, _, _, _, _⟩) (v := .agg #[.slice A7 E7.length c7, .int .i64 size, .int .i64 lo7]) rfl (by kernel_rfl) (by kernel_rfl) (by kernel_rfl) (fun _ _ _ h => h) (Or.inl ⟨by rfl, fun w hSw => by (obtain ⟨⟨s0, s1, s2, s3, s4⟩, s5⟩ := hSw; go_simp)⟩) (by assumption) ?_
            try simp only [Act.put, List.setIfInBounds_toArray, List.set_cons_zero, List.set_cons_succ]
            refine wpAnyH_take (i := 7) (oi := ⟨some 89, _, _, _, _, _⟩) (v := .pointer (some ⟨wr.heap.size, 1, none⟩)) rfl (by kernel_rfl) (by kernel_rfl) (by kernel_rfl) (fun _ _ _ h => h) (Or.inl ⟨by rfl, fun w hSw => by (obtain ⟨⟨s0, s1, s2, s3, s4⟩, s5⟩ := hSw; go_simp)⟩) (by assumption) ?_
            try simp only [Act.put, List.setIfInBounds_toArray, List.set_cons_zero, List.set_cons_succ]
            refine wpAnyH_take (i := 8) (oi := ⟨some 90, _, _, _, _, _⟩) (v := .int .i64 g) rfl (by kernel_rfl) (by kernel_rfl) (by kernel_rfl) (fun _ _ _ h => h) (Or.inl ⟨by rfl, fun w hSw => by (obtain ⟨⟨s0, s1, s2, s3, s4⟩, s5⟩ := hSw; go_simp)⟩) (by assumption) ?_
            try simp only [Act.put, List.setIfInBounds_toArray, List.set_cons_zero, List.set_cons_succ]
            refine wpAnyH_take (i := 9) (oi := ⟨some 91, _, _, _, _, _⟩) (v := .pointer (some ⟨wr.heap.size, 2, none⟩)) rfl (by kernel_rfl) (by kernel_rfl) (by kernel_rfl) (fun _ _ _ h => h) (Or.inl ⟨by rfl, fun w hSw => by (obtain ⟨⟨s0, s1, s2, s3, s4⟩, s5⟩ := hSw; go_simp)⟩) (by assumption) ?_
            try simp only [Act.put, List.setIfInBounds_toArray, List.set_cons_zero, List.set_cons_succ]
            refine' wpAnyH_take (i := 10) (oi := ⟨some 92, _, _, _, _, _⟩) (v := _) rfl (by kernel_rfl) (by kernel_rfl) (by kernel_rfl) (fun _ _ _ h => h) (yieldsIf_load_mid (by rfl) 30 _ (by rfl) (wr.heap.size) (2) (by rfl) (B) _ (fun w h => h.1.2.1) Try.underlying30 (by rfl) sA) (by assumption) ?_
            try simp only [Act.put, List.setIfInBounds_toArray, List.set_cons_zero, List.set_cons_succ]
            refine wpAnyH_ready (rs := [5]) (by kernel_rfl) (by simp) (AllReadyH.cons (by rfl) (fun K hK => ?_) AllReadyH.nil)
            go_simp
            refine (HC13.out _ x).mono ?_
            rintro e V1 ⟨rfl, y1⟩
            have x := x.then y1
            go_simp
            refine hK.out _ _ (HS.out _ x) (fun hHeld => ?_)
            clear hK K
            try simp only [Act.put, List.setIfInBounds_toArray, List.set_cons_zero, List.set_cons_succ]
            refine wpAnyH_ready (rs := [11]) (by kernel_rfl) (by simp) (AllReadyH.cons (by rfl) (fun K hK => ?_) AllReadyH.nil)
            go_simp
            refine (HC14.out _ x).mono ?_
            rintro e V2 ⟨rfl, y2⟩
            have x := x.then y2
            go_simp
            refine hK.out _ _ (HS.out _ x) (fun hHeld => ?_)
            clear hK K
            try simp only [Act.put, List.setIfInBounds_toArray, List.set_cons_zero, List.set_cons_succ]
            refine wpAnyH_take (i := 12) (oi := ⟨some 94, _, _, _, _, _⟩) (v := .bool false) rfl (by kernel_rfl) (by kernel_rfl) (by kernel_rfl) (fun _ _ _ h => h) (Or.inl ⟨by rfl, fun w hSw => by (obtain ⟨⟨s0, s1, s2, s3, s4⟩, s5⟩ := hSw; go_simp)⟩) (by assumption) ?_
            try simp only [Act.put, List.setIfInBounds_toArray, List.set_cons_zero, List.set_cons_succ]
            refine wpAnyH_take (i := 13) (oi := ⟨some 95, _, _, _, _, _⟩) (v := .bool false) rfl (by kernel_rfl) (by kernel_rfl) (by kernel_rfl) (fun _ _ _ h => h) (Or.inl ⟨by rfl, fun w hSw => by (obtain ⟨⟨s0, s1, s2, s3, s4⟩, s5⟩ := hSw; go_simp)⟩) (by assumption) ?_
            try simp only [Act.put, List.setIfInBounds_toArray, List.set_cons_zero, List.set_cons_succ]
            refine wpAnyH_take (i := 14) (oi := ⟨some 96, _, _, _, _, _⟩) (v := .pointer (some ⟨p, 0, none⟩)) rfl (by kernel_rfl) (by kernel_rfl) (by kernel_rfl) (fun _ _ _ h => h) (Or.inl ⟨by rfl, fun w hSw => by (obtain ⟨⟨s0, s1, s2, s3, s4⟩, s5⟩ := hSw; go_simp)⟩) (by assumption) ?_
            try simp only [Act.put, List.setIfInBounds_toArray, List.set_cons_zero, List.set_cons_succ]
            refine wpAnyH_take (i := 15) (oi := ⟨some 97, _, _, _, _, _⟩) (v := .pointer (some ⟨wr.heap.size, 1, none⟩)) rfl (by kernel_rfl) (by kernel_rfl) (by kernel_rfl) (fun _ _ _ h => h) (Or.inl ⟨by rfl, fun w hSw => by (obtain ⟨⟨s0, s1, s2, s3, s4⟩, s5⟩ := hSw; go_simp)⟩) (by assumption) ?_
            try simp only [Act.put, List.setIfInBounds_toArray, List.set_cons_zero, List.set_cons_succ]
            refine wpAnyH_take (i := 16) (oi := ⟨some 98, _, _, _, _, _⟩) (v := .int .i64 g) rfl (by kernel_rfl) (by kernel_rfl) (by kernel_rfl) (fun _ _ _ h => h) (Or.inl ⟨by rfl, fun w hSw => by (obtain ⟨⟨s0, s1, s2, s3, s4⟩, s5⟩ := hSw; go_simp)⟩) (by assumption) ?_
            try simp only [Act.put, List.setIfInBounds_toArray, List.set_cons_zero, List.set_cons_succ]
            refine wpAnyH_take (i := 18) (oi := ⟨some 100, _, _, _, _, _⟩) (v := .agg #[.slice A7 E7.length c7, .int .i64 size, .int .i64 lo7]) rfl (by kernel_rfl) (by kernel_rfl) (by kernel_rfl) (fun _ _ _ h => h) (Or.inl ⟨by rfl, fun w hSw => by (obtain ⟨⟨s0, s1, s2, s3, s4⟩, s5⟩ := hSw; go_simp)⟩) (by assumption) ?_
            try simp only [Act.put, List.setIfInBounds_toArray, List.set_cons_zero, List.set_cons_succ]
            refine wpAnyH_take (i := 19) (oi := ⟨some 101, _, _, _, _, _⟩) (v := .pointer (some ⟨wr.heap.size, 1, none⟩)) rfl (by kernel_rfl) (by kernel_rfl) (by kernel_rfl) (fun _ _ _ h => h) (Or.inl ⟨by rfl, fun w hSw => by (obtain ⟨⟨s0, s1, s2, s3, s4⟩, s5⟩ := hSw; go_simp)⟩) (by assumption) ?_
            try simp only [Act.put, List.setIfInBounds_toArray, List.set_cons_zero, List.set_cons_succ]
            refine wpAnyH_take (i := 20) (oi := ⟨some 102, _, _, _, _, _⟩) (v := .int .i64 g) rfl (by kernel_rfl) (by kernel_rfl) (by kernel_rfl) (fun _ _ _ h => h) (Or.inl ⟨by rfl, fun w hSw => by (obtain ⟨⟨s0, s1, s2, s3, s4⟩, s5⟩ := hSw; go_simp)⟩) (by assumption) ?_
            try simp only [Act.put, List.setIfInBounds_toArray, List.set_cons_zero, List.set_cons_succ]
            refine wpAnyH_ready (rs := [17]) (by kernel_rfl) (by simp) (AllReadyH.cons (by rfl) (fun K hK => ?_) AllReadyH.nil)
            go_simp
            refine (HC15.out _ x).mono ?_
            rintro e V3 ⟨rfl, y3⟩
            have x := x.then y3
            go_simp
            refine hK.out _ _ (HS.out _ x) (fun hHeld => ?_)
            clear hK K
            try simp only [Act.put, List.setIfInBounds_toArray, List.set_cons_zero, List.set_cons_succ]
            refine wpAnyH_ready (rs := [21]) (by kernel_rfl) (by simp) (AllReadyH.cons (by rfl) (fun K hK => ?_) AllReadyH.nil)
            go_simp
            refine (HC16.out _ x).mono ?_
            rintro e V4 ⟨rfl, y4⟩
            have x := x.then y4
            go_simp
            refine hK.out _ _ (HS.out _ x) (fun hHeld => ?_)
            clear hK K
            try simp only [Act.put, List.setIfInBounds_toArray, List.set_cons_zero, List.set_cons_succ]
            refine wpAnyH_take (i := 22) (oi := ⟨some 104, _, _, _, _, _⟩) (v := .bool false) rfl (by kernel_rfl) (by kernel_rfl) (by kernel_rfl) (fun _ _ _ h => h) (Or.inl ⟨by rfl, fun w hSw => by (obtain ⟨⟨s0, s1, s2, s3, s4⟩, s5⟩ := hSw; go_simp)⟩) (by assumption) ?_
            try simp only [Act.put, List.setIfInBounds_toArray, List.set_cons_zero, List.set_cons_succ]
            refine wpAnyH_take (i := 23) (oi := ⟨some 105, _, _, _, _, _⟩) (v := .bool false) rfl (by kernel_rfl) (by kernel_rfl) (by kernel_rfl) (fun _ _ _ h => h) (Or.inl ⟨by rfl, fun w hSw => by (obtain ⟨⟨s0, s1, s2, s3, s4⟩, s5⟩ := hSw; go_simp)⟩) (by assumption) ?_
            try simp only [Act.put, List.setIfInBounds_toArray, List.set_cons_zero, List.set_cons_succ]
            refine wpAnyH_take (i := 24) (oi := ⟨some 106, _, _, _, _, _⟩) (v := .bool false) rfl (by kernel_rfl) (by kernel_rfl) (by kernel_rfl) (fun _ _ _ h => h) (Or.inl ⟨by rfl, fun w hSw => by (obtain ⟨⟨s0, s1, s2, s3, s4⟩, s5⟩ := hSw; go_simp)⟩) (by assumption) ?_
            try simp only [Act.put, List.setIfInBounds_toArray, List.set_cons_zero, List.set_cons_succ]
            refine wpAnyH_take (i := 25) (oi := ⟨some 107, _, _, _, _, _⟩) (v := .pointer (some ⟨p, 0, none⟩)) rfl (by kernel_rfl) (by kernel_rfl) (by kernel_rfl) (fun _ _ _ h => h) (Or.inl ⟨by rfl, fun w hSw => by (obtain ⟨⟨s0, s1, s2, s3, s4⟩, s5⟩ := hSw; go_simp)⟩) (by assumption) ?_
            try simp only [Act.put, List.setIfInBounds_toArray, List.set_cons_zero, List.set_cons_succ]
            refine wpAnyH_take (i := 27) (oi := ⟨some 109, _, _, _, _, _⟩) (v := .agg #[.slice A7 E7.length c7, .int .i64 size, .int .i64 lo7]) rfl (by kernel_rfl) (by kernel_rfl) (by kernel_rfl) (fun _ _ _ h => h) (Or.inl ⟨by rfl, fun w hSw => by (obtain ⟨⟨s0, s1, s2, s3, s4⟩, s5⟩ := hSw; go_simp)⟩) (by assumption) ?_
            try simp only [Act.put, List.setIfInBounds_toArray, List.set_cons_zero, List.set_cons_succ]
            refine wpAnyH_ready (rs := [26]) (by kernel_rfl) (by simp) (AllReadyH.cons (by rfl) (fun K hK => ?_) AllReadyH.nil)
            go_simp
            refine (HC18.out _ x).mono ?_
            rintro e V5 ⟨v5, rfl, r5, y5, _⟩
            have x := x.then y5
            go_simp
            refine hK.out _ _ (HS.out _ x) (fun hHeld => ?_)
            clear hK K
            try simp only [Act.put, List.setIfInBounds_toArray, List.set_cons_zero, List.set_cons_succ]
            refine wpAnyH_ready (rs := [28]) (by kernel_rfl) (by simp) (AllReadyH.cons (by rfl) (fun K hK => ?_) AllReadyH.nil)
            go_simp
            refine (HC19.out _ x).mono ?_
            rintro e V6 ⟨v6, rfl, r6, y6, _⟩
            have x := x.then y6
            go_simp
            refine hK.out _ _ (HS.out _ x) (fun hHeld => ?_)
            clear hK K
            try simp only [Act.put, List.setIfInBounds_toArray, List.set_cons_zero, List.set_cons_succ]
            refine wpAnyH_ready (rs := [29]) (by kernel_rfl) (by simp) (AllReadyH.cons (by rfl) (fun K hK => ?_) AllReadyH.nil)
            go_simp
            refine (same17 v5 v6 (gens E7) _ (r5.ext y6 (fun _ _ h => h)) r6 hgl7).mono ?_
            rintro e V8 ⟨rfl, y8⟩
            have x := x.then y8
            go_simp
            refine hK.out _ _ (HS.out _ x) (fun hHeld => ?_)
            clear hK K
            try simp only [Act.put, List.setIfInBounds_toArray, List.set_cons_zero, List.set_cons_succ]
            refine wpAnyH_take (i := 30) (oi := ⟨some 112, _, _, _, _, _⟩) (v := .bool false) rfl (by kernel_rfl) (by kernel_rfl) (by kernel_rfl) (fun _ _ _ h => h) (Or.inl ⟨by rfl, fun w hSw => by (obtain ⟨⟨s0, s1, s2, s3, s4⟩, s5⟩ := hSw; go_simp)⟩) (by assumption) ?_
            try simp only [Act.put, List.setIfInBounds_toArray, List.set_cons_zero, List.set_cons_succ]
            refine wpAnyH_take (i := 31) (oi := ⟨some 113, _, _, _, _, _⟩) (v := .bool false) rfl (by kernel_rfl) (by kernel_rfl) (by kernel_rfl) (fun _ _ _ h => h) (Or.inl ⟨by rfl, fun w hSw => by (obtain ⟨⟨s0, s1, s2, s3, s4⟩, s5⟩ := hSw; go_simp)⟩) (by assumption) ?_
            try simp only [Act.put, List.setIfInBounds_toArray, List.set_cons_zero, List.set_cons_succ]
            refine wpAnyH_done (by kernel_rfl) ?_ _
            have hfin : AcRel w p bm size (k + 1) V8 := ⟨lo7, E7, _, A7, c7, HR7.out.ext x, HPOS7.out, hE7⟩
            clear hHeld h0 r5 r6 y1 y2 y3 y4 y5 y6 y8 x
            go_wp2_with fail
            exact ⟨⟨k + 1, by omega, by omega, by go_num, hfin⟩, by simp [intOf]; omega⟩
        · have k1 : (k : Int) < (n : Int) := by omega
          have k2 : ¬ (k : Int) < 120 := by omega
          have hx := hR.x
          clear hR
          go_wp2_with fail
          go_ret
          exact ⟨rfl, hx⟩
      · have k1 : ¬ (k : Int) < (n : Int) := by omega
        have hx := hR.x
        clear hR
        go_wp2_with fail
        go_ret
        exact ⟨rfl, hx⟩
  · have hno : size < 1 ∨ 4096 < size := by omega
    rcases hno with hno | hno
    · have h9 : ¬ 1 ≤ size := by omega
      go_enter Try.func3, Try.ntmps3
      go_wp2_with (first
        | (go_at_call 7; refine (alive_any _).mono ?_; rintro e W1 ⟨rfl, x1⟩)
        | (go_at_call 8; refine (new_no size (.inl hno) _).mono ?_; rintro e W2 ⟨rfl, rfl⟩))
      refine wp_loop_rounds 1 ?_
      rw [rounds_succ]
      go_wp2_with fail
      go_ret
      exact ⟨rfl, (x1.andAlloc _).below (Nat.le_refl _) fun _ h => h.elim⟩
    · have h9 : ¬ size ≤ 4096 := by omega
      have h8 : 1 ≤ size := by omega
      go_enter Try.func3, Try.ntmps3
      go_wp2_with (first
        | (go_at_call 7; refine (alive_any _).mono ?_; rintro e W1 ⟨rfl, x1⟩)
        | (go_at_call 8; refine (new_no size (.inr hno) _).mono ?_; rintro e W2 ⟨rfl, rfl⟩))
      refine wp_loop_rounds 1 ?_
      rw [rounds_succ]
      go_wp2_with fail
      go_ret
      exact ⟨rfl, (x1.andAlloc _).below (Nat.le_refl _) fun _ h => h.elim⟩
end Go.Proofs.Yteidkdbngjhopaa
