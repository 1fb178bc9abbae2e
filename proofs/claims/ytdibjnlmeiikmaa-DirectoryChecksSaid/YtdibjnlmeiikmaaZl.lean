/-
  The law DirectoryChecks, walked.
-/
import Derived.Test.YtdibjnlmeiikmaaZk
import Derived.Deep.RegionHeld3
set_option linter.unusedVariables false
set_option linter.unusedSimpArgs false
namespace Go.Proofs.Ytdibjnlmeiikmaa
open Go.RowKit Go.Proofs

set_option maxHeartbeats 6400000 in
set_option maxRecDepth 100000 in
theorem checks_walk (l : Int) (A : Option Addr) (c : Nat) (L : List Nd) (w : World) (hr : NRd w A c L) (hok : ∀ n ∈ L, NdOk n) :
    Calls Try.prog 5 #[dirv l A L.length c] w fun e w' => e = .returned (.bool true) ∧ Ext NoB w w' := by
  have hb0 := heapNew w (.cells #[.int .i64 l, .slice A L.length c] 24)
  have x0 := Ext.alloc NoB w (.cells #[.int .i64 l, .slice A L.length c] 24)
  have HR := Lib.hid hr
  have HOK := Lib.hid hok
  unfold dirv
  clear hr hok
  go_enter Try.func5, Try.ntmps5
  go_upto_region 1 with fail
  generalize hW0 : w.alloc (.cells #[.int .i64 l, .slice A L.length c] 24) = W0 at *
  have hcl : ∀ W, Ext NoB W0 W → W.cell? ⟨w.heap.size, 0, none⟩ = some (.int .i64 l) ∧ W.cell? ⟨w.heap.size, 1, none⟩ = some (.slice A L.length c) := fun W hW => by
    have := hW.obj hb0 id
    exact ⟨by rw [cellOf this]; rfl, by rw [cellOf this]; rfl⟩
  have HCL := Lib.hid hcl
  clear hb0 hcl hW0
  go_upto_region 3 with (go_at_call 9; (with_reducible refine (alive9 _).mono ?_); rintro e W1 ⟨rfl, x1⟩)
  obtain ⟨d0, d1⟩ := HCL.out W1 x1
  by_cases hm : L.length ≤ 100
  · have hm1 : ¬ 100 < (L.length : Int) := by omega
    go_upto_region 5 with fail
    have HTH := Lib.hid fun W (hW : Ext NoB W0 W) => theirs11 l A c L W (HR.out.ext (x0.then hW) (fun _ _ _ h => h)) (by omega)
    have HRC := Lib.hid fun W (hW : Ext NoB W0 W) => refCheck14 l A c L W (HR.out.ext (x0.then hW) (fun _ _ _ h => h)) HOK.out (by omega)
    have HRD := Lib.hid fun W (hW : Ext NoB W0 W) => refDraws16 l A c L W (HR.out.ext (x0.then hW) (fun _ _ _ h => h)) HOK.out (by omega)
    have HCK := Lib.hid fun W1 W A' c' (hn : NR W1 (.slice A' L.length c') L) (hW : Ext NoB W1 W) => check10 l A' c' L W ((NR.rd hn).ext hW (fun _ _ _ h => h)) HOK.out (by omega)
    have HDR := Lib.hid fun W1 W A' c' (hn : NR W1 (.slice A' L.length c') L) (hW : Ext NoB W1 W) => draws15 l A' c' L W ((NR.rd hn).ext hW (fun _ _ _ h => h)) HOK.out (by omega)
    unfold dirv at HTH HRC HRD HCK HDR
    generalize chk l L = q at *
    generalize drw l L = q2 at *
    clear HR HOK
    have x22 := x1.andDrew
    have y22 := Ext.refl NoB W1
    go_region_held3 (fun W => W.cell? ⟨w.heap.size, 0, none⟩ = some (.int .i64 l) ∧ W.cell? ⟨w.heap.size, 1, none⟩ = some (.slice A L.length c))
      (exact HCL.out _ x22)
      (first
        | (go_at_call 11; (with_reducible refine (HTH.out _ x22).mono ?_); rintro e W2 ⟨A', c', rfl, hn, y, _⟩; have HN := Lib.hid hn; clear hn; have x22 := x22.then y; have y22 := Ext.refl NoB W2)
        | (go_at_call 10; (with_reducible refine (HCK.out _ _ _ _ HN.out y22).mono ?_); rintro e W2 ⟨rfl, y⟩; have x22 := x22.then y; have y22 := y22.then y)
        | (go_at_call 15; (with_reducible refine (HDR.out _ _ _ _ HN.out y22).mono ?_); rintro e W2 ⟨rfl, y⟩; have x22 := x22.then y; have y22 := y22.then y)
        | (go_at_call 14; (with_reducible refine (HRC.out _ x22).mono ?_); rintro e W2 ⟨rfl, y⟩; have x22 := x22.then y; have y22 := y22.then y)
        | (go_at_call 16; (with_reducible refine (HRD.out _ x22).mono ?_); rintro e W2 ⟨rfl, y⟩; have x22 := x22.then y; have y22 := y22.then y))
    all_goals
      go_wp2_with fail
      go_ret
      exact ⟨by simp, x0.then x22⟩
  · have hm1 : 100 < (L.length : Int) := by omega
    go_wp2_with fail
    go_ret
    exact ⟨rfl, x0.then x1⟩
end Go.Proofs.Ytdibjnlmeiikmaa
