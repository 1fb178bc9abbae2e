/-
  Route: what it comes to behind its boxes; the ways that refuse.
-/
import Derived.Test.YtdibjnlmeiikmaaY
import Derived.OwnWalk
set_option linter.unusedVariables false
set_option linter.unusedSimpArgs false
namespace Go.Proofs.Ytdibjnlmeiikmaa
open Go.RowKit Go.Proofs

theorem enters31 (args : Array Value) (w : World) : (callFunc 31 args).run Try.prog w = .ok (.enter 31 args) w := enters_of Try.func31 (by kernel_rfl) rfl args w
/-- The three boxes. -/
structure RtBox (w W : World) (layers pv : Int) (A : Option Addr) (n c : Nat) (m : Cm) : Prop where
  d : W.heap[w.heap.size]? = some (.cells #[.int .i64 layers, .slice A n c] 30 (0, 0))
  p : W.heap[w.heap.size + 1]? = some (.cells #[.int .i64 pv] 3 (0, 0))
  m : W.heap[w.heap.size + 1 + 1]? = some (.cells (cc m).toArray 43 (0, 0))
  x : Ext NoB w W
theorem RtBox.ext {w W W' : World} {layers pv : Int} {A : Option Addr} {n c : Nat} {m : Cm} (h : RtBox w W layers pv A n c m) (hx : Ext NoB W W') : RtBox w W' layers pv A n c m := ⟨hx.obj h.d id, hx.obj h.p id, hx.obj h.m id, h.x.then hx⟩
theorem RtBox.dc {w W : World} {layers pv : Int} {A : Option Addr} {n c : Nat} {m : Cm} (h : RtBox w W layers pv A n c m) : W.cell? ⟨w.heap.size, 0, none⟩ = some (.int .i64 layers) ∧ W.cell? ⟨w.heap.size, 1, none⟩ = some (.slice A n c) := ⟨by rw [cellOf h.d]; rfl, by rw [cellOf h.d]; rfl⟩
theorem RtBox.pc {w W : World} {layers pv : Int} {A : Option Addr} {n c : Nat} {m : Cm} (h : RtBox w W layers pv A n c m) : W.cell? ⟨w.heap.size + 1, 0, none⟩ = some (.int .i64 pv) := by rw [cellOf h.p]; rfl
theorem RtBox.mr {w W : World} {layers pv : Int} {A : Option Addr} {n c : Nat} {m : Cm} (h : RtBox w W layers pv A n c m) : W.rangeAt (w.heap.size + 1 + 1) 0 (cc m) := nd_box h.m
theorem RtBox.new (w : World) (layers pv : Int) (A : Option Addr) (n c : Nat) (m : Cm) : RtBox w (((w.alloc (.cells #[.int .i64 layers, .slice A n c] 30)).alloc (.cells #[.int .i64 pv] 3)).alloc (.cells (cc m).toArray 43)) layers pv A n c m :=
  ⟨by rw [heapAlloc _ _ _ (by simp; omega), heapAlloc _ _ _ (by simp), heapNew], by rw [heapAlloc _ _ _ (by simp), heapNew' _ _ _ (by simp)], by rw [heapNew' _ _ _ (by simp)], ((Ext.alloc NoB w _).andAlloc _).andAlloc _⟩
set_option maxHeartbeats 1600000 in
set_option maxRecDepth 100000 in
/-- A directory that may not be. -/
theorem route_chk (layers pv : Int) (A : Option Addr) (c : Nat) (L : List Nd) (m : Cm) (dv : Value) (w : World) (hr : NRd w A c L) (hok : ∀ n ∈ L, NdOk n) (hlen : L.length ≤ 1000) (hE : chk layers L ≠ 0) :
    Calls Try.prog 12 #[dirv layers A L.length c, .int .i64 pv, .agg (cc m).toArray, dv] w fun e w' => e = .returned (.tuple #[.int .i64 0, .slice none 0 0, .int .i64 (chk layers L)]) ∧ Ext NoB w w' := by
  have hbx := RtBox.new w layers pv A L.length c m
  have hck := fun W (hW : Ext NoB w W) => check10 layers A c L W (hr.ext hW (fun _ _ _ h => h)) hok hlen
  have HCK := Lib.hid hck
  have HBX := Lib.hid hbx
  have hcf : (chk layers L == 0) = false := beq_eq_false_iff_ne.2 hE
  clear hbx hck hr
  generalize hV : (cc m).toArray = V at HBX ⊢
  unfold dirv at HCK ⊢
  generalize chk layers L = ck at *
  go_enter Try.func12, Try.ntmps12
  go_upto_region 1 with fail
  generalize World.alloc (World.alloc (World.alloc w _) _) _ = W0 at HBX ⊢
  obtain ⟨c0, c1⟩ := HBX.out.dc
  have hx := HBX.out.x
  go_wp2_with (go_at_call 10; (with_reducible refine (HCK.out _ hx).mono ?_); rintro e W1 ⟨rfl, x1⟩)
  go_ret3
  exact ⟨rfl, hx.then x1⟩
/-- Where the provider is among the last layer's nodes. -/
def prv (pv : Int) (n : Nd) : Bool := decide (n.id = pv)
/-- What holds behind the search for the provider. -/
theorem layer_good {layers : Int} {L : List Nd} (hg : Good layers L) (A : Option Addr) (c : Nat) (w : World) (hr : NRd w A c L) (hlen : L.length ≤ 1000) (l : Int) :
    Calls Try.prog 29 #[dirv layers A L.length c, .int .i64 l] w fun e w' => ∃ A' c', e = .returned (.slice A' (layL L l).length c') ∧ NR w' (.slice A' (layL L l).length c') (layL L l) ∧ Ext NoB w w' ∧ ∀ k, (Value.slice A' 0 0).ownBlock = some k → w.heap.size ≤ k :=
  (layer29 layers l A c L w hr hlen).mono fun e w' ⟨A', c', M, h1, h2, h3, h4, h5, h6⟩ => by
    have hM := lay_eq hg h2 h3
    subst hM
    exact ⟨A', c', h1, h4, h5, fun k hk => h6 k (by rw [own_any A' _ c' 0 0]; exact hk)⟩
theorem layL_len (L : List Nd) (l : Int) (h : L.length ≤ 1000) (layers : Int) (hg : Good layers L) : (layL L l).length ≤ 1000 := by
  rw [(layL_perm hg l).length_eq]
  exact Nat.le_trans (List.length_filter_le _ _) h
set_option maxHeartbeats 3200000 in
set_option maxRecDepth 100000 in
/-- A last command that may not be. -/
theorem route_arg (layers pv : Int) (A : Option Addr) (c : Nat) (L : List Nd) (m : Cm) (dv : Value) (w : World) (hr : NRd w A c L) (hok : ∀ n ∈ L, NdOk n) (hlen : L.length ≤ 1000) (hE : chk layers L = 0) (hM : mayC m = false ∨ m.kind = 1) :
    Calls Try.prog 12 #[dirv layers A L.length c, .int .i64 pv, .agg (cc m).toArray, dv] w fun e w' => e = .returned (.tuple #[.int .i64 0, .slice none 0 0, .int .i64 2]) ∧ Ext NoB w w' := by
  have hmf : ∀ (fn : Fn) (first cap : Array Value) (w : World), (Instr.makeFunc fn first cap).run Try.prog w = .ok (.func fn first cap) w := fun _ _ _ _ => rfl
  have hg := chk_good hE
  obtain ⟨l1, l5⟩ := chk_lay hE
  have hbx := RtBox.new w layers pv A L.length c m
  have hck := fun W (hW : Ext NoB w W) => check10 layers A c L W (hr.ext hW (fun _ _ _ h => h)) hok hlen
  rw [hE] at hck
  have hly := fun W (hW : Ext NoB w W) l => layer_good hg A c W (hr.ext hW (fun _ _ _ h => h)) hlen l
  have hll := layL_len L (layers - 1) hlen layers hg
  have HCK := Lib.hid hck
  have HLY := Lib.hid hly
  have HBX := Lib.hid hbx
  have s43 := sizeCm m
  have HM32 := Lib.hid (may32 m)
  clear hbx hck hr hly hE hg hok
  generalize hV : (cc m).toArray = V at HBX HM32 ⊢
  unfold dirv at HCK HLY ⊢
  go_enter Try.func12, Try.ntmps12
  go_upto_region 1 with fail
  generalize World.alloc (World.alloc (World.alloc w _) _) _ = W0 at HBX ⊢
  obtain ⟨c0, c1⟩ := HBX.out.dc
  have hx := HBX.out.x
  go_upto_region 4 with (go_at_call 10; (with_reducible refine (HCK.out _ hx).mono ?_); rintro e W1 ⟨rfl, x1⟩)
  have hB1 := HBX.out.ext x1
  have hx1 := hx.then x1
  obtain ⟨d0, d1⟩ := hB1.dc
  have HB1 := Lib.hid hB1
  clear hB1 c0 c1
  go_upto_region 5 with (go_at_call 29; (with_reducible refine (HLY.out _ hx1 (layers - 1)).mono ?_); rintro e W2 ⟨A2, c2, rfl, hr2, x2, hn2⟩)
  have hB2 := HB1.out.ext x2
  have hx2 := hx1.then x2
  have hq := index30 31 #[.pointer (some ⟨w.heap.size + 1, 0, none⟩)] enters31 A2 c2 (layL L (layers - 1)) (prv pv) W2 (NR.rd hr2) (fun n _ W hW => idFn31 n (w.heap.size + 1) pv W (hB2.ext hW).pc) (by omega)
  have HQ := Lib.hid hq
  have HB2 := Lib.hid hB2
  clear hq hr2 hn2 hB2 d0 d1
  go_upto_region 6 with (go_at_call 30; (with_reducible refine HQ.out.mono ?_); rintro e W3 ⟨rfl, x3⟩)
  have hB3 := HB2.out.ext x3
  have hx3 := hx2.then x3
  have r3 := hB3.mr
  have m0 := cm_0 r3
  cases hmy : mayC m with
  | false =>
    rw [hmy] at HM32
    go_wp2_with (first
      | ((with_reducible show wpList _ _ _ (⟨_, .load 43 _, _, _, _, _⟩ :: _) _ _); refine wpList_load_arrm (by rfl) 43 _ rfl (w.heap.size + 1 + 1) 0 rfl (cc m) _ r3 Try.underlying43 rfl s43 ?_)
      | (go_at_call 32; (with_reducible refine (HM32.out _).mono ?_); rintro e W4 ⟨rfl, x4⟩))
    go_ret3
    exact ⟨rfl, hx3.then x4⟩
  | true =>
    have hk : m.kind = 1 := by
      rcases hM with h | h
      · rw [h] at hmy; cases hmy
      · exact h
    rw [hmy] at HM32
    rw [hk] at m0
    go_wp2_with (first
      | ((with_reducible show wpList _ _ _ (⟨_, .load 43 _, _, _, _, _⟩ :: _) _ _); refine wpList_load_arrm (by rfl) 43 _ rfl (w.heap.size + 1 + 1) 0 rfl (cc m) _ r3 Try.underlying43 rfl s43 ?_)
      | (go_at_call 32; (with_reducible refine (HM32.out _).mono ?_); rintro e W4 ⟨rfl, x4⟩; have n0 := cm_0 (hB3.ext x4).mr; rw [hk] at n0))
    go_ret3
    exact ⟨rfl, hx3.then x4⟩
end Go.Proofs.Ytdibjnlmeiikmaa
