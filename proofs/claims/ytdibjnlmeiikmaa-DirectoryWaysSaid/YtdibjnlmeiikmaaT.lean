/-
  Check, Draws.
-/
import Derived.Test.YtdibjnlmeiikmaaS
set_option linter.unusedVariables false
set_option linter.unusedSimpArgs false
namespace Go.Proofs.Ytdibjnlmeiikmaa
open Go.RowKit Go.Proofs

def inLay (L : List Nd) (l : Int) : List Nd := L.filter (fun n => decide (n.lay = l))
def bare (layers : Int) (L : List Nd) : Prop := ∃ k : Nat, (k : Int) < layers ∧ inLay L k = []
noncomputable instance (layers : Int) (L : List Nd) : Decidable (bare layers L) := Classical.propDecidable _
noncomputable def chk (layers : Int) (L : List Nd) : Int :=
  if layers < 1 ∨ 5 < layers then 2 else if L.any (fun n => !plc layers n) = true then 2 else if ¬ (ids L).Nodup then 10 else if L.any (fun n => decide (num n.key % P25 = 0)) = true then 15 else if bare layers L then 9 else 0
theorem enters24 (args : Array Value) (w : World) : (callFunc 24 args).run Try.prog w = .ok (.enter 24 args) w := enters_of Try.func24 (by kernel_rfl) rfl args w
theorem enters27 (args : Array Value) (w : World) : (callFunc 27 args).run Try.prog w = .ok (.enter 27 args) w := enters_of Try.func27 (by kernel_rfl) rfl args w
abbrev dirv (layers : Int) (A : Option Addr) (n c : Nat) : Value := .agg #[.int .i64 layers, .slice A n c]
set_option maxHeartbeats 3200000 in
set_option maxRecDepth 100000 in
theorem check10 (layers : Int) (A : Option Addr) (c : Nat) (L : List Nd) (w : World) (hr : NRd w A c L) (hok : ∀ n ∈ L, NdOk n) (hlen : L.length ≤ 1000) :
    Calls Try.prog 10 #[dirv layers A L.length c] w fun e w' => e = .returned (.int .i64 (chk layers L)) ∧ Ext NoB w w' := by
  have hmf : ∀ (fn : Fn) (first cap : Array Value) (w : World), (Instr.makeFunc fn first cap).run Try.prog w = .ok (.func fn first cap) w := fun _ _ _ _ => rfl
  have hx := Ext.alloc NoB w (.cells #[.int .i64 layers, .slice A L.length c] 30)
  have hb := heapNew w (.cells #[.int .i64 layers, .slice A L.length c] 30)
  have hcl : ∀ W, Ext NoB (w.alloc (.cells #[.int .i64 layers, .slice A L.length c] 30)) W → W.cell? ⟨w.heap.size, 0, none⟩ = some (.int .i64 layers) ∧ W.cell? ⟨w.heap.size, 1, none⟩ = some (.slice A L.length c) := fun W hW => by
    have := hW.obj hb id
    exact ⟨by rw [cellOf this]; rfl, by rw [cellOf this]; rfl⟩
  have hrr : ∀ W, Ext NoB (w.alloc (.cells #[.int .i64 layers, .slice A L.length c] 30)) W → NRd W A c L := fun W hW => hr.ext (hx.then hW) (fun _ _ _ h => h)
  have h24 : ∀ W, Ext NoB (w.alloc (.cells #[.int .i64 layers, .slice A L.length c] 30)) W → Calls Try.prog 23 #[.slice A L.length c, .func (.func 24) #[] #[.pointer (some ⟨w.heap.size, 0, none⟩)]] W fun e w' => e = .returned (.bool (L.any (fun n => !plc layers n))) ∧ Ext NoB W w' := fun W hW =>
    contains23 24 #[.pointer (some ⟨w.heap.size, 0, none⟩)] enters24 A c L _ W (hrr W hW) (fun n _ W' hW' => numFn24 n w.heap.size layers A c L.length W' (hcl W' (hW.then hW')).1 (hcl W' (hW.then hW')).2) (by omega)
  have h26 : ∀ W, Ext NoB (w.alloc (.cells #[.int .i64 layers, .slice A L.length c] 30)) W → Calls Try.prog 26 #[.agg #[.int .i64 layers, .slice A L.length c]] W fun e w' => e = .returned (.bool (!decide (ids L).Nodup)) ∧ Ext NoB W w' := fun W hW => twice26 layers A c L W (hrr W hW) hok hlen
  have h27 : ∀ W, Ext NoB (w.alloc (.cells #[.int .i64 layers, .slice A L.length c] 30)) W → Calls Try.prog 23 #[.slice A L.length c, .func (.func 27) #[] #[]] W fun e w' => e = .returned (.bool (L.any (fun n => decide (num n.key % P25 = 0)))) ∧ Ext NoB W w' := fun W hW =>
    contains23 27 #[] enters27 A c L _ W (hrr W hW) (fun n hn W' hW' => zeroFn27 n (hok n hn) W') (by omega)
  have h29 : ∀ W, Ext NoB (w.alloc (.cells #[.int .i64 layers, .slice A L.length c] 30)) W → ∀ l : Int, Calls Try.prog 29 #[.agg #[.int .i64 layers, .slice A L.length c], .int .i64 l] W (fun e w' => ∃ A' c', e = .returned (.slice A' (inLay L l).length c') ∧ Ext NoB W w') := fun W hW l =>
    (layer29 layers l A c L W (hrr W hW) hlen).mono fun e w' ⟨A', c', M, h1, h2, _, _, h5, _⟩ => ⟨A', c', by rw [h1, h2.length_eq]; rfl, h5⟩
  have hlL : ∀ l, (inLay L l).length ≤ 1000 := fun l => Nat.le_trans (List.length_filter_le _ _) hlen
  have H24 := Lib.hid h24
  have H26 := Lib.hid h26
  have H27 := Lib.hid h27
  have H29 := Lib.hid h29
  have HCL := Lib.hid hcl
  have HL := Lib.hid hlL
  clear hb hcl hrr h24 h26 h27 h29 hr hok hlL
  obtain ⟨d0, d1⟩ := HCL.out _ (Ext.refl _ _)
  generalize hWW : w.alloc (.cells #[.int .i64 layers, .slice A L.length c] 30) = W0 at *
  unfold dirv
  by_cases hl1 : layers < 1
  · have HE : Hid (chk layers L = 2) := Lib.hid (by unfold chk; rw [if_pos (.inl hl1)])
    go_enter Try.func10, Try.ntmps10
    go_wp2_with fail
    go_ret
    exact ⟨by rw [HE.out]; rfl, hx⟩
  · by_cases hl5 : 5 < layers
    · have HE : Hid (chk layers L = 2) := Lib.hid (by unfold chk; rw [if_pos (.inr hl5)])
      go_enter Try.func10, Try.ntmps10
      go_wp2_with fail
      go_ret
      exact ⟨by rw [HE.out]; rfl, hx⟩
    · have HI : Hid (¬ (layers < 1 ∨ 5 < layers)) := Lib.hid (by omega)
      cases hA : L.any (fun n => !plc layers n) with
      | true =>
        have HE : Hid (chk layers L = 2) := Lib.hid (by unfold chk; rw [if_neg HI.out, if_pos hA])
        have h1 := H24.out _ (Ext.refl _ _)
        rw [hA] at h1
        have HC := Lib.hid h1
        clear h1 hA
        go_enter Try.func10, Try.ntmps10
        go_wp2_with (go_at_call 23; (with_reducible refine HC.out.mono ?_); rintro e W1 ⟨rfl, x1⟩)
        go_ret
        exact ⟨by rw [HE.out]; rfl, hx.then x1⟩
      | false =>
        have hC0 := H24.out _ (Ext.refl _ _)
        rw [hA] at hC0
        have HC := Lib.hid hC0
        have HA : Hid (¬ L.any (fun n => !plc layers n) = true) := Lib.hid (by rw [hA]; decide)
        clear hC0 hA
        by_cases hN : (ids L).Nodup
        · have hd : (!decide (ids L).Nodup) = false := by simp [hN]
          rw [hd] at H26
          have HN := Lib.hid hN
          clear hN hd
          cases hZ : L.any (fun n => decide (num n.key % P25 = 0)) with
          | true =>
            have HE : Hid (chk layers L = 15) := Lib.hid (by unfold chk; rw [if_neg HI.out, if_neg HA.out, if_neg (not_not_intro HN.out), if_pos hZ])
            rw [hZ] at H27
            clear hZ
            go_enter Try.func10, Try.ntmps10
            go_upto_region 5 with (first
              | (go_at_call 26; (with_reducible refine (H26.out _ x1).mono ?_); rintro e W2 ⟨rfl, x2⟩; have x2 := x1.then x2; obtain ⟨e0, e1⟩ := HCL.out _ x2)
              | (go_at_call 23; (with_reducible refine HC.out.mono ?_); rintro e W1 ⟨rfl, x1⟩; obtain ⟨c0, c1⟩ := HCL.out _ x1))
            go_wp2_with (go_at_call 23; (with_reducible refine (H27.out _ x2).mono ?_); rintro e W3 ⟨rfl, x3⟩)
            go_ret
            exact ⟨by rw [HE.out]; rfl, hx.then (x2.then x3)⟩
          | false =>
            rw [hZ] at H27
            have HZ : Hid (¬ L.any (fun n => decide (num n.key % P25 = 0)) = true) := Lib.hid (by rw [hZ]; decide)
            clear hZ
            go_enter Try.func10, Try.ntmps10
            go_upto_region 5 with (first
              | (go_at_call 26; (with_reducible refine (H26.out _ x1).mono ?_); rintro e W2 ⟨rfl, x2⟩; have x2 := x1.then x2; obtain ⟨e0, e1⟩ := HCL.out _ x2)
              | (go_at_call 23; (with_reducible refine HC.out.mono ?_); rintro e W1 ⟨rfl, x1⟩; obtain ⟨c0, c1⟩ := HCL.out _ x1))
            go_upto_region 8 with (go_at_call 23; (with_reducible refine (H27.out _ x2).mono ?_); rintro e W3 ⟨rfl, x3⟩; obtain ⟨f0, f1⟩ := HCL.out _ (x2.then x3))
            have hx3 := x2.then x3
            clear x1 x2 x3 c0 c1 e0 e1
            go_loopw [28] (fun i W => ∃ k : Nat, (k : Int) ≤ layers ∧ i = .int .i64 k ∧ (∀ j : Nat, j < k → inLay L j ≠ []) ∧ Ext NoB W0 W) (fun i _ => layers.toNat - (intOf i).toNat)
            case atStart => exact ⟨0, by omega, rfl, fun j hj => absurd hj (by omega), hx3⟩
            case round =>
              clear hx3 f0 f1
              obtain ⟨k, hk, rfl, hall, hxk⟩ := hrel
              obtain ⟨f0, f1⟩ := HCL.out _ hxk
              by_cases hlt : (k : Int) < layers
              · have hll := HL.out k
                have h29 := H29.out _ hxk (k : Int)
                have HALL := Lib.hid hall
                by_cases hem : inLay L k = []
                · have HE : Hid (chk layers L = 9) := Lib.hid (by unfold chk; rw [if_neg HI.out, if_neg HA.out, if_neg (not_not_intro HN.out), if_neg HZ.out, if_pos ⟨k, hlt, hem⟩])
                  rw [hem] at h29
                  have HLY := Lib.hid h29
                  clear h29 hem hall hll
                  go_wp2_with (go_at_call 29; (with_reducible refine HLY.out.mono ?_); rintro e W4 ⟨A', c', rfl, x4⟩)
                  go_ret
                  exact ⟨by rw [HE.out]; rfl, hx.then (hxk.then x4)⟩
                · have hpos : 0 < (inLay L k).length := List.length_pos_iff.2 hem
                  have HLY := Lib.hid h29
                  have HEM := Lib.hid hem
                  clear h29 hem hall
                  generalize (inLay L (k : Int)).length = m at *
                  have hm0 : ((m : Int) == 0) = false := beq_eq_false_iff_ne.2 (by omega)
                  go_wp2_with (go_at_call 29; (with_reducible refine HLY.out.mono ?_); rintro e W4 ⟨A', c', rfl, x4⟩)
                  exact ⟨⟨k + 1, by omega, by go_num, fun j hj => by
                    rcases Nat.lt_or_ge j k with h | h
                    · exact HALL.out j h
                    · obtain rfl : j = k := by omega
                      exact HEM.out, hxk.then x4⟩, by simp [intOf]; omega⟩
              · have HE : Hid (chk layers L = 0) := Lib.hid (by
                  unfold chk
                  rw [if_neg HI.out, if_neg HA.out, if_neg (not_not_intro HN.out), if_neg HZ.out, if_neg]
                  rintro ⟨j, hj, he⟩
                  exact hall j (by omega) he)
                clear hall
                go_wp2_with fail
                go_ret
                exact ⟨by rw [HE.out]; rfl, hx.then hxk⟩
        · have hd : (!decide (ids L).Nodup) = true := by simp [hN]
          rw [hd] at H26
          have HE : Hid (chk layers L = 10) := Lib.hid (by unfold chk; rw [if_neg HI.out, if_neg HA.out, if_pos hN])
          clear hN hd
          go_enter Try.func10, Try.ntmps10
          go_wp2_with (first
            | (go_at_call 23; (with_reducible refine HC.out.mono ?_); rintro e W1 ⟨rfl, x1⟩; obtain ⟨c0, c1⟩ := HCL.out _ x1)
            | (go_at_call 26; (with_reducible refine (H26.out _ x1).mono ?_); rintro e W2 ⟨rfl, x2⟩))
          go_ret
          exact ⟨by rw [HE.out]; rfl, hx.then (x1.then x2)⟩
end Go.Proofs.Ytdibjnlmeiikmaa
