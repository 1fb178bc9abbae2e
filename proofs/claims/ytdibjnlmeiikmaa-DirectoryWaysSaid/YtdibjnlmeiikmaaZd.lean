/-
  The fixed directory of the laws: what Check, Draws, Route and Delay answer there.
-/
import Derived.Test.YtdibjnlmeiikmaaZc
set_option linter.unusedVariables false
set_option linter.unusedSimpArgs false
namespace Go.Proofs.Ytdibjnlmeiikmaa
open Go.RowKit Go.Proofs

def K9 : List Int := 9 :: List.replicate 31 0
def K8 : List Int := 8 :: List.replicate 31 0
def K7 : List Int := 7 :: List.replicate 31 0
def N4 : Nd := ⟨4, K9, 0, rfl⟩
def N2 : Nd := ⟨2, K8, 0, rfl⟩
def N7 : Nd := ⟨7, K7, 1, rfl⟩
def L3 : List Nd := [N4, N2, N7]
def M4 : Cm := ⟨4, 0, 0, Z8, rfl⟩
def H0 : Hp := ⟨K9, fwd 7 10, rfl⟩
def H1 : Hp := ⟨K7, M4, rfl⟩
theorem L3_ok : ∀ n ∈ L3, NdOk n := by
  intro n hn
  have h : ∀ k : Int, 0 ≤ k → k ≤ 255 → ∀ x ∈ k :: List.replicate 31 (0 : Int), 0 ≤ x ∧ x ≤ 255 := by
    intro k h1 h2 x hx
    rcases List.mem_cons.1 hx with rfl | hx
    · exact ⟨h1, h2⟩
    · have := List.eq_of_mem_replicate hx; omega
  simp only [L3, List.mem_cons, List.not_mem_nil, or_false] at hn
  rcases hn with rfl | rfl | rfl
  · exact ⟨by kernel_rfl, by kernel_rfl, h 9 (by decide) (by decide)⟩
  · exact ⟨by kernel_rfl, by kernel_rfl, h 8 (by decide) (by decide)⟩
  · exact ⟨by kernel_rfl, by kernel_rfl, h 7 (by decide) (by decide)⟩
theorem L3_chk : chk 2 L3 = 0 := by
  unfold chk
  rw [if_neg (by decide), if_neg (by decide), if_neg (by decide), if_neg (by decide +kernel), if_neg]
  rintro ⟨k, hk, h⟩
  have : k = 0 ∨ k = 1 := by omega
  rcases this with rfl | rfl
  · exact absurd h (by decide)
  · exact absurd h (by decide)
theorem L3_drw : drw 2 L3 = 2 := by unfold drw; rw [if_pos L3_chk]; rfl
theorem chk_none : chk 0 [] = 2 := by unfold chk; rw [if_pos (by decide)]
theorem M4_may : mayC M4 = true := by decide
theorem L3_hops : (List.range 2).map (hopAt 2 L3 [3, 10] N7 M4) = [H0, H1] := by kernel_rfl
theorem L3_first : (nodeAt 2 L3 [3, 10] N7 0).id = 4 := by kernel_rfl
theorem L3_dly : dly [H0, H1] 0 = 10 := by kernel_rfl
theorem L3_lay1 : layL L3 1 = [N7] := by kernel_rfl
theorem L3_route (A DA : Option Addr) (w : World) (hr : NRd w A 3 L3) (hD : Dr w DA 2 [3, 10]) :
    Calls Try.prog 12 #[.agg #[.int .i64 2, .slice A 3 3], .int .i64 7, .agg #[.int .i64 4, .int .i64 0, .int .i64 0, .int .u8 0, .int .u8 0, .int .u8 0, .int .u8 0, .int .u8 0, .int .u8 0, .int .u8 0, .int .u8 0], .slice DA 2 2] w fun e' w' => ∃ A' c', e' = .returned (.tuple #[.int .i64 4, .slice A' 2 c', .int .i64 0]) ∧ HR w' (.slice A' 2 c') [H0, H1] ∧ Ext NoB w w' := by
  have hl : layL L3 (((2 : Nat) : Int) - 1) = [N7] := L3_lay1
  have h := route_ok 2 7 A DA 3 2 0 L3 [3, 10] M4 w hr L3_ok (by decide) L3_chk M4_may (by decide) (by rw [hl]; decide) (by rw [hl]; decide) (by decide) hD N7 (by simp only [hl]; rfl)
  rw [L3_first, L3_hops] at h
  exact h
theorem L3_none (A : Option Addr) (dv : Value) (w : World) (hr : NRd w A 3 L3) :
    Calls Try.prog 12 #[.agg #[.int .i64 2, .slice A 3 3], .int .i64 4, .agg #[.int .i64 4, .int .i64 0, .int .i64 0, .int .u8 0, .int .u8 0, .int .u8 0, .int .u8 0, .int .u8 0, .int .u8 0, .int .u8 0, .int .u8 0], dv] w fun e w' => e = .returned (.tuple #[.int .i64 0, .slice none 0 0, .int .i64 9]) ∧ Ext NoB w w' :=
  route_none 2 4 A 3 L3 M4 dv w hr L3_ok (by decide) L3_chk M4_may (by decide) (by rw [show (2 : Int) - 1 = 1 by rfl, L3_lay1]; decide)
theorem L3_check (A : Option Addr) (w : World) (hr : NRd w A 3 L3) : Calls Try.prog 10 #[.agg #[.int .i64 2, .slice A 3 3]] w fun e w' => e = .returned (.int .i64 0) ∧ Ext NoB w w' := by
  have h := check10 2 A 3 L3 w hr L3_ok (by decide)
  rw [L3_chk] at h
  exact h
theorem L3_draws (A : Option Addr) (w : World) (hr : NRd w A 3 L3) : Calls Try.prog 15 #[.agg #[.int .i64 2, .slice A 3 3]] w fun e w' => e = .returned (.int .i64 2) ∧ Ext NoB w w' := by
  have h := draws15 2 A 3 L3 w hr L3_ok (by decide)
  rw [L3_drw] at h
  exact h
theorem none_check (w : World) : Calls Try.prog 10 #[.agg #[.int .i64 0, .slice none 0 0]] w fun e w' => e = .returned (.int .i64 2) ∧ Ext NoB w w' := by
  have h := check10 0 none 0 [] w ⟨fun i hi => absurd hi (by simp), by simp [maxLen]⟩ (by simp) (by decide)
  rw [chk_none] at h
  exact h
theorem L3_delay (A : Option Addr) (c : Nat) (w : World) (hr : HRd w A c [H0, H1]) : Calls Try.prog 19 #[.slice A 2 c] w fun e w' => e = .returned (.int .i64 10) ∧ Ext NoB w w' := by
  have h := delay19 A c [H0, H1] w hr (by decide)
  rw [L3_dly] at h
  exact h
/-- An operation whose answer is known. -/
theorem wpList_run {ops : Array Oper} {rest : List Oper} {o : Oper} {a : Act} {w : World} {Q : Exit → Act → World → Prop} (hw : Region.wanted o (yielded ops a.tmps) = true) (v : Value) (w' : World)
    (hr : (execOp a.eval o).run Try.prog w = .ok (.value v) w') (hK : wpList Try.prog ops Q rest (a.put o.dst v) w') : wpList Try.prog ops Q (o :: rest) a w :=
  wpList_wanted hw fun K hK' => by unfold Oper.wp; rw [hr]; exact hK' _ _ hK
end Go.Proofs.Ytdibjnlmeiikmaa
