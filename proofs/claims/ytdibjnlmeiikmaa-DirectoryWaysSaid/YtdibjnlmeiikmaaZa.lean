/-
  Route: no such provider; too few draws.
-/
import Derived.Test.YtdibjnlmeiikmaaZ
set_option linter.unusedVariables false
set_option linter.unusedSimpArgs false
namespace Go.Proofs.Ytdibjnlmeiikmaa
open Go.RowKit Go.Proofs

set_option maxHeartbeats 3200000 in
set_option maxRecDepth 100000 in
theorem route_none (layers pv : Int) (A : Option Addr) (c : Nat) (L : List Nd) (m : Cm) (dv : Value) (w : World) (hr : NRd w A c L) (hok : ∀ n ∈ L, NdOk n) (hlen : L.length ≤ 1000) (hE : chk layers L = 0) (hM : mayC m = true) (hK : m.kind ≠ 1)
    (hI : idxF (prv pv) (layL L (layers - 1)) 0 = -1) :
    Calls Try.prog 12 #[dirv layers A L.length c, .int .i64 pv, .agg (cc m).toArray, dv] w fun e w' => e = .returned (.tuple #[.int .i64 0, .slice none 0 0, .int .i64 9]) ∧ Ext NoB w w' := by
  have hmf : ∀ (fn : Fn) (first cap : Array Value) (w : World), (Instr.makeFunc fn first cap).run Try.prog w = .ok (.func fn first cap) w := fun _ _ _ _ => rfl
  have hg := chk_good hE
  obtain ⟨l1, l5⟩ := chk_lay hE
  have hbx := RtBox.new w layers pv A L.length c m
  have hck := fun W (hW : Ext NoB w W) => check10 layers A c L W (hr.ext hW (fun _ _ _ h => h)) hok hlen
  rw [hE] at hck
  have hly := fun W (hW : Ext NoB w W) l => layer_good hg A c W (hr.ext hW (fun _ _ _ h => h)) hlen l
  have hll := layL_len L (layers - 1) hlen layers hg
  have HCK := Lib.hid hck
  have HLY := Lib.hid hly
  have HBX := Lib.hid hbx
  have s43 := sizeCm m
  have HM32 := Lib.hid (may32 m)
  clear hbx hck hr hly hE hg hok
  generalize hV : (cc m).toArray = V at HBX HM32 ⊢
  unfold dirv at HCK HLY ⊢
  go_enter Try.func12, Try.ntmps12
  go_upto_region 1 with fail
  generalize World.alloc (World.alloc (World.alloc w _) _) _ = W0 at HBX ⊢
  obtain ⟨c0, c1⟩ := HBX.out.dc
  have hx := HBX.out.x
  go_upto_region 4 with (go_at_call 10; (with_reducible refine (HCK.out _ hx).mono ?_); rintro e W1 ⟨rfl, x1⟩)
  have hB1 := HBX.out.ext x1
  have hx1 := hx.then x1
  obtain ⟨d0, d1⟩ := hB1.dc
  have HB1 := Lib.hid hB1
  clear hB1 c0 c1
  go_upto_region 5 with (go_at_call 29; (with_reducible refine (HLY.out _ hx1 (layers - 1)).mono ?_); rintro e W2 ⟨A2, c2, rfl, hr2, x2, hn2⟩)
  have hB2 := HB1.out.ext x2
  have hx2 := hx1.then x2
  have hq := index30 31 #[.pointer (some ⟨w.heap.size + 1, 0, none⟩)] enters31 A2 c2 (layL L (layers - 1)) (prv pv) W2 (NR.rd hr2) (fun n _ W hW => idFn31 n (w.heap.size + 1) pv W (hB2.ext hW).pc) (by omega)
  rw [hI] at hq
  have HQ := Lib.hid hq
  have HB2 := Lib.hid hB2
  clear hq hr2 hn2 hB2 d0 d1
  go_upto_region 6 with (go_at_call 30; (with_reducible refine HQ.out.mono ?_); rintro e W3 ⟨rfl, x3⟩)
  have hB3 := HB2.out.ext x3
  have hx3 := hx2.then x3
  have r3 := hB3.mr
  have m0 := cm_0 r3
  rw [hM] at HM32
  have hK2 : (m.kind == 1) = false := beq_eq_false_iff_ne.2 hK
  go_wp2_with (first
    | ((with_reducible show wpList _ _ _ (⟨_, .load 43 _, _, _, _, _⟩ :: _) _ _); refine wpList_load_arrm (by rfl) 43 _ rfl (w.heap.size + 1 + 1) 0 rfl (cc m) _ r3 Try.underlying43 rfl s43 ?_)
    | (go_at_call 32; (with_reducible refine (HM32.out _).mono ?_); rintro e W4 ⟨rfl, x4⟩; have n0 := cm_0 (hB3.ext x4).mr))
  go_ret3
  exact ⟨rfl, hx3.then x4⟩
set_option maxHeartbeats 3200000 in
set_option maxRecDepth 100000 in
theorem route_short (layers pv : Int) (A DA : Option Addr) (c dn dc i0 : Nat) (L : List Nd) (m : Cm) (w : World) (hr : NRd w A c L) (hok : ∀ n ∈ L, NdOk n) (hlen : L.length ≤ 1000) (hE : chk layers L = 0) (hM : mayC m = true) (hK : m.kind ≠ 1)
    (hI : idxF (prv pv) (layL L (layers - 1)) 0 = (i0 : Int)) (hS : (dn : Int) < 2 * (layers - 1)) :
    Calls Try.prog 12 #[dirv layers A L.length c, .int .i64 pv, .agg (cc m).toArray, .slice DA dn dc] w fun e w' => e = .returned (.tuple #[.int .i64 0, .slice none 0 0, .int .i64 4]) ∧ Ext NoB w w' := by
  have hdr := fun W (hW : Ext NoB w W) => draws15 layers A c L W (hr.ext hW (fun _ _ _ h => h)) hok hlen
  have hdw : drw layers L = 2 * (layers - 1) := by unfold drw; rw [if_pos hE]
  rw [hdw] at hdr
  unfold dirv at hdr
  have HDR := Lib.hid hdr
  clear hdr hdw
  have hmf : ∀ (fn : Fn) (first cap : Array Value) (w : World), (Instr.makeFunc fn first cap).run Try.prog w = .ok (.func fn first cap) w := fun _ _ _ _ => rfl
  have hg := chk_good hE
  obtain ⟨l1, l5⟩ := chk_lay hE
  have hbx := RtBox.new w layers pv A L.length c m
  have hck := fun W (hW : Ext NoB w W) => check10 layers A c L W (hr.ext hW (fun _ _ _ h => h)) hok hlen
  rw [hE] at hck
  have hly := fun W (hW : Ext NoB w W) l => layer_good hg A c W (hr.ext hW (fun _ _ _ h => h)) hlen l
  have hll := layL_len L (layers - 1) hlen layers hg
  have HCK := Lib.hid hck
  have HLY := Lib.hid hly
  have HBX := Lib.hid hbx
  have s43 := sizeCm m
  have HM32 := Lib.hid (may32 m)
  clear hbx hck hr hly hE hg hok
  generalize hV : (cc m).toArray = V at HBX HM32 ⊢
  unfold dirv at HCK HLY ⊢
  go_enter Try.func12, Try.ntmps12
  go_upto_region 1 with fail
  generalize World.alloc (World.alloc (World.alloc w _) _) _ = W0 at HBX ⊢
  obtain ⟨c0, c1⟩ := HBX.out.dc
  have hx := HBX.out.x
  go_upto_region 4 with (go_at_call 10; (with_reducible refine (HCK.out _ hx).mono ?_); rintro e W1 ⟨rfl, x1⟩)
  have hB1 := HBX.out.ext x1
  have hx1 := hx.then x1
  obtain ⟨d0, d1⟩ := hB1.dc
  have HB1 := Lib.hid hB1
  clear hB1 c0 c1
  go_upto_region 5 with (go_at_call 29; (with_reducible refine (HLY.out _ hx1 (layers - 1)).mono ?_); rintro e W2 ⟨A2, c2, rfl, hr2, x2, hn2⟩)
  have hB2 := HB1.out.ext x2
  have hx2 := hx1.then x2
  have hq := index30 31 #[.pointer (some ⟨w.heap.size + 1, 0, none⟩)] enters31 A2 c2 (layL L (layers - 1)) (prv pv) W2 (NR.rd hr2) (fun n _ W hW => idFn31 n (w.heap.size + 1) pv W (hB2.ext hW).pc) (by omega)
  rw [hI] at hq
  have HQ := Lib.hid hq
  have HB2 := Lib.hid hB2
  clear hq hr2 hn2 hB2 d0 d1
  go_upto_region 6 with (go_at_call 30; (with_reducible refine HQ.out.mono ?_); rintro e W3 ⟨rfl, x3⟩)
  have hB3 := HB2.out.ext x3
  have hx3 := hx2.then x3
  have r3 := hB3.mr
  have m0 := cm_0 r3
  rw [hM] at HM32
  have hK2 : (m.kind == 1) = false := beq_eq_false_iff_ne.2 hK
  go_upto_region 10 with (first
    | ((with_reducible show wpList _ _ _ (⟨_, .load 43 _, _, _, _, _⟩ :: _) _ _); refine wpList_load_arrm (by rfl) 43 _ rfl (w.heap.size + 1 + 1) 0 rfl (cc m) _ r3 Try.underlying43 rfl s43 ?_)
    | (go_at_call 32; (with_reducible refine (HM32.out _).mono ?_); rintro e W4 ⟨rfl, x4⟩; have n0 := cm_0 (hB3.ext x4).mr))
  have hB4 := hB3.ext x4
  have hx4 := hx3.then x4
  obtain ⟨p0, p1⟩ := hB4.dc
  go_wp2_with (go_at_call 15; (with_reducible refine (HDR.out _ hx4).mono ?_); rintro e W5 ⟨rfl, x5⟩)
  go_ret3
  exact ⟨rfl, hx4.then x5⟩
end Go.Proofs.Ytdibjnlmeiikmaa
