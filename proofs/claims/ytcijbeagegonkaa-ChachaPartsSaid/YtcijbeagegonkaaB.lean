/-
  A quarter round: in the program (in place) and in the document's answer (a new row): one Lean function for both.
-/
import Derived.Test.YtcijbeagegonkaaA
import Derived.BigRegion
import Derived.Deep.CutRange
set_option linter.unusedVariables false
namespace Go.Proofs.Ytcijbeagegonkaa
open Go.RowKit

def qa1 (a b : Int) : Int := plus a b
def qd1 (a b d : Int) : Int := rot 65536 65536 (xr d (qa1 a b))
def qc1 (a b c d : Int) : Int := plus c (qd1 a b d)
def qb1 (a b c d : Int) : Int := rot 4096 1048576 (xr b (qc1 a b c d))
def qa (a b c d : Int) : Int := (a + b + qb1 a b c d) % 4294967296
def qd (a b c d : Int) : Int := rot 256 16777216 (xr (qd1 a b d) (qa a b c d))
def qc (a b c d : Int) : Int := (c + qd1 a b d + qd a b c d) % 4294967296
def qb (a b c d : Int) : Int := rot 128 33554432 (xr (qb1 a b c d) (qc a b c d))

set_option maxRecDepth 100000 in
set_option maxHeartbeats 1600000 in
theorem quarter21 (g : Nat) (i j k l : Nat) (a b c d : Int) (ha : U a) (hb : U b) (hc : U c) (hd : U d) (w : World)
    (hi : i < 16) (hj : j < 16) (hk : k < 16) (hl : l < 16) (nij : i ≠ j) (nik : i ≠ k) (nil : i ≠ l) (njk : j ≠ k) (njl : j ≠ l) (nkl : k ≠ l)
    (ca : w.cell? ⟨g, i, none⟩ = some (.int .u32 a)) (cb : w.cell? ⟨g, j, none⟩ = some (.int .u32 b)) (cc : w.cell? ⟨g, k, none⟩ = some (.int .u32 c)) (cd : w.cell? ⟨g, l, none⟩ = some (.int .u32 d))
    (fr : ∀ o, w.frozen? ⟨g, o, none⟩ = false) :
    Calls Try.prog 21 #[.pointer (some ⟨g, 0, none⟩), .int .i64 i, .int .i64 j, .int .i64 k, .int .i64 l] w fun e w' => e = .returned (.tuple #[]) ∧ ∃ m,
      w' = ((((w.setCell ⟨g, i, none⟩ (.int .u32 (qa a b c d))).setCell ⟨g, j, none⟩ (.int .u32 (qb a b c d))).setCell ⟨g, k, none⟩ (.int .u32 (qc a b c d))).setCell ⟨g, l, none⟩ (.int .u32 (qd a b c d))).drewN m := by
  obtain ⟨a0, a1⟩ := ha
  obtain ⟨b0, b1⟩ := hb
  obtain ⟨c0, c1⟩ := hc
  obtain ⟨d0, d1⟩ := hd
  go_enter Try.func21, Try.ntmps21
  go_wp2
  go_quiet (fail)
  go_wp2_with fail
  go_at_call 24; refine (left24_16 _ (xr_u _ _) _).mono ?_; rintro e w' ⟨rfl, rfl⟩
  generalize hd1 : rot 65536 65536 _ = d1
  go_wp2_with fail
  go_at_call 24; refine (left24_12 _ (xr_u _ _) _).mono ?_; rintro e w' ⟨rfl, rfl⟩
  generalize hb1 : rot 4096 1048576 _ = b1
  go_wp2_with fail
  go_at_call 24; refine (left24_8 _ (xr_u _ _) _).mono ?_; rintro e w' ⟨rfl, rfl⟩
  generalize hd2 : rot 256 16777216 _ = d2
  go_wp2_with fail
  go_at_call 24; refine (left24_7 _ (xr_u _ _) _).mono ?_; rintro e w' ⟨rfl, rfl⟩
  generalize hb2 : rot 128 33554432 _ = b2
  go_upto_region 9 with (fail)
  have ra : (a + b + b1) % 4294967296 = qa a b c d := by subst hb1; subst hd1; rfl
  have rc : (c + d1 + d2) % 4294967296 = qc a b c d := by subst hd2; subst hb1; subst hd1; rfl
  have rd : d2 = qd a b c d := by subst hd2; subst hb1; subst hd1; rfl
  have rb : b2 = qb a b c d := by subst hb2; subst hd2; subst hb1; subst hd1; rfl
  obtain ⟨A, hA⟩ : ∃ A, A = qa a b c d := ⟨_, rfl⟩
  obtain ⟨C, hC⟩ : ∃ C, C = qc a b c d := ⟨_, rfl⟩
  rw [ra, ← hA, rc, ← hC]
  clear hd1 hb1 hd2 hb2 ra rc
  obtain ⟨W, hW⟩ : ∃ W, W = w.drewN nq := ⟨_, rfl⟩
  rw [← hW]
  have ca' : W.cell? ⟨g, i, none⟩ = some (.int .u32 a) := by rw [hW]; exact ca
  have cb' : W.cell? ⟨g, j, none⟩ = some (.int .u32 b) := by rw [hW]; exact cb
  have cc' : W.cell? ⟨g, k, none⟩ = some (.int .u32 c) := by rw [hW]; exact cc
  have cd' : W.cell? ⟨g, l, none⟩ = some (.int .u32 d) := by rw [hW]; exact cd
  have fr' : ∀ o, W.frozen? ⟨g, o, none⟩ = false := fun o => by rw [hW]; exact fr o
  go_region
  go_end0
  subst hW hA hC rd rb
  exact ⟨rfl, nq + 1, rfl⟩

/-! ### The sixteen words as a list -/
def qst (s : List Int) (i j k l : Nat) : List Int :=
  let a := s.getD i 0
  let b := s.getD j 0
  let c := s.getD k 0
  let d := s.getD l 0
  (((s.set i (qa a b c d)).set j (qb a b c d)).set k (qc a b c d)).set l (qd a b c d)
def Sixteen (s : List Int) : Prop := s.length = 16 ∧ ∀ x ∈ s, U x
theorem Sixteen.at {s : List Int} (h : Sixteen s) {i : Nat} (hi : i < 16) : U (s.getD i 0) := by
  have hl : i < s.length := by rw [h.1]; exact hi
  rw [List.getD_eq_getElem?_getD, List.getElem?_eq_getElem hl]
  exact h.2 _ (List.getElem_mem hl)
theorem Sixteen.set {s : List Int} (h : Sixteen s) (i : Nat) {x : Int} (hx : U x) : Sixteen (s.set i x) :=
  ⟨by rw [List.length_set]; exact h.1, fun y hy => by
    rcases List.mem_or_eq_of_mem_set hy with hy | rfl
    · exact h.2 y hy
    · exact hx⟩
theorem qa_u (a b c d : Int) : U (qa a b c d) := ⟨by unfold qa; omega, by unfold qa; omega⟩
theorem qc_u (a b c d : Int) : U (qc a b c d) := ⟨by unfold qc; omega, by unfold qc; omega⟩
theorem qb_u (a b c d : Int) : U (qb a b c d) := rot_u _ _ _
theorem qd_u (a b c d : Int) : U (qd a b c d) := rot_u _ _ _
theorem qst_ok {s : List Int} (h : Sixteen s) (i j k l : Nat) : Sixteen (qst s i j k l) :=
  (((h.set i (qa_u _ _ _ _)).set j (qb_u _ _ _ _)).set k (qc_u _ _ _ _)).set l (qd_u _ _ _ _)

def vals (s : List Int) : List Value := s.map (Value.int .u32)
theorem vals_set (s : List Int) (i : Nat) (x : Int) : (vals s).set i (.int .u32 x) = vals (s.set i x) := by simp [vals, List.map_set]
theorem vals_at {s : List Int} {i : Nat} (hi : i < s.length) : (vals s)[i]? = some (.int .u32 (s.getD i 0)) := by
  simp [vals, List.getElem?_eq_getElem hi]
theorem vals_length (s : List Int) : (vals s).length = s.length := by simp [vals]

/-- The words lie in block g, alone. -/
def St (w : World) (g : Nat) (e : TypeId) (s : List Int) : Prop := w.heap[g]? = some (.cells (vals s).toArray e (0, 0))
theorem St.set {w : World} {g : Nat} {e : TypeId} {s : List Int} (h : St w g e s) (i : Nat) (x : Int) : St (w.setCell ⟨g, i, none⟩ (.int .u32 x)) g e (s.set i x) := by
  have := heapSet h i (.int .u32 x)
  unfold St
  rw [this, ← vals_set]
  simp
theorem St.cell {w : World} {g : Nat} {e : TypeId} {s : List Int} (h : St w g e s) {i : Nat} (hi : i < s.length) : w.cell? ⟨g, i, none⟩ = some (.int .u32 (s.getD i 0)) := by
  rw [cellOf h, List.getElem?_toArray, vals_at hi]

theorem quarterSt (g : Nat) (i j k l : Nat) (e : TypeId) (s : List Int) (hs : Sixteen s) (w : World) (h : St w g e s)
    (hi : i < 16) (hj : j < 16) (hk : k < 16) (hl : l < 16) (nij : i ≠ j) (nik : i ≠ k) (nil : i ≠ l) (njk : j ≠ k) (njl : j ≠ l) (nkl : k ≠ l) :
    Calls Try.prog 21 #[.pointer (some ⟨g, 0, none⟩), .int .i64 i, .int .i64 j, .int .i64 k, .int .i64 l] w fun e' w' => e' = .returned (.tuple #[]) ∧ St w' g e (qst s i j k l) ∧ Ext (fun k => k = g) w w' := by
  have hn := hs.1
  refine (quarter21 g i j k l _ _ _ _ (hs.at hi) (hs.at hj) (hs.at hk) (hs.at hl) w hi hj hk hl nij nik nil njk njl nkl
    (h.cell (by omega)) (h.cell (by omega)) (h.cell (by omega)) (h.cell (by omega)) (fun o => freeOf h o)).mono ?_
  rintro e' w' ⟨rfl, m, rfl⟩
  refine ⟨rfl, (((h.set i _).set j _).set k _).set l _, ?_⟩
  have x0 : Ext (fun k => k = g) w w := Ext.refl _ w
  have x1 := x0.andSet ⟨g, i, none⟩ (.int .u32 (qa (s.getD i 0) (s.getD j 0) (s.getD k 0) (s.getD l 0))) (fun _ => rfl)
  have x2 := x1.andSet ⟨g, j, none⟩ (.int .u32 (qb (s.getD i 0) (s.getD j 0) (s.getD k 0) (s.getD l 0))) (fun _ => rfl)
  have x3 := x2.andSet ⟨g, k, none⟩ (.int .u32 (qc (s.getD i 0) (s.getD j 0) (s.getD k 0) (s.getD l 0))) (fun _ => rfl)
  have x4 := x3.andSet ⟨g, l, none⟩ (.int .u32 (qd (s.getD i 0) (s.getD j 0) (s.getD k 0) (s.getD l 0))) (fun _ => rfl)
  exact x4.andDrewN m

/-- Two rounds. -/
def dbl (s : List Int) : List Int :=
  qst (qst (qst (qst (qst (qst (qst (qst s 0 4 8 12) 1 5 9 13) 2 6 10 14) 3 7 11 15) 0 5 10 15) 1 6 11 12) 2 7 8 13) 3 4 9 14
theorem dbl_ok {s : List Int} (h : Sixteen s) : Sixteen (dbl s) :=
  qst_ok (qst_ok (qst_ok (qst_ok (qst_ok (qst_ok (qst_ok (qst_ok h _ _ _ _) _ _ _ _) _ _ _ _) _ _ _ _) _ _ _ _) _ _ _ _) _ _ _ _) _ _ _ _
theorem double16 (g : Nat) (e : TypeId) (s : List Int) (hs : Sixteen s) (w : World) (h : St w g e s) :
    Calls Try.prog 16 #[.pointer (some ⟨g, 0, none⟩)] w fun e' w' => e' = .returned (.tuple #[]) ∧ St w' g e (dbl s) ∧ Ext (fun k => k = g) w w' := by
  go_enter Try.func16, Try.ntmps16
  go_wp2_with fail
  go_at_call 21; refine (quarterSt g 0 4 8 12 e _ hs _ h (by omega) (by omega) (by omega) (by omega) (by omega) (by omega) (by omega) (by omega) (by omega) (by omega)).mono ?_; rintro _ w1 ⟨rfl, h1, x1⟩
  replace hs := qst_ok hs 0 4 8 12
  go_wp2_with fail
  go_at_call 21; refine (quarterSt g 1 5 9 13 e _ hs _ h1 (by omega) (by omega) (by omega) (by omega) (by omega) (by omega) (by omega) (by omega) (by omega) (by omega)).mono ?_; rintro _ w2 ⟨rfl, h2, x2⟩
  replace hs := qst_ok hs 1 5 9 13
  go_wp2_with fail
  go_at_call 21; refine (quarterSt g 2 6 10 14 e _ hs _ h2 (by omega) (by omega) (by omega) (by omega) (by omega) (by omega) (by omega) (by omega) (by omega) (by omega)).mono ?_; rintro _ w3 ⟨rfl, h3, x3⟩
  replace hs := qst_ok hs 2 6 10 14
  go_wp2_with fail
  go_at_call 21; refine (quarterSt g 3 7 11 15 e _ hs _ h3 (by omega) (by omega) (by omega) (by omega) (by omega) (by omega) (by omega) (by omega) (by omega) (by omega)).mono ?_; rintro _ w4 ⟨rfl, h4, x4⟩
  replace hs := qst_ok hs 3 7 11 15
  go_wp2_with fail
  go_at_call 21; refine (quarterSt g 0 5 10 15 e _ hs _ h4 (by omega) (by omega) (by omega) (by omega) (by omega) (by omega) (by omega) (by omega) (by omega) (by omega)).mono ?_; rintro _ w5 ⟨rfl, h5, x5⟩
  replace hs := qst_ok hs 0 5 10 15
  go_wp2_with fail
  go_at_call 21; refine (quarterSt g 1 6 11 12 e _ hs _ h5 (by omega) (by omega) (by omega) (by omega) (by omega) (by omega) (by omega) (by omega) (by omega) (by omega)).mono ?_; rintro _ w6 ⟨rfl, h6, x6⟩
  replace hs := qst_ok hs 1 6 11 12
  go_wp2_with fail
  go_at_call 21; refine (quarterSt g 2 7 8 13 e _ hs _ h6 (by omega) (by omega) (by omega) (by omega) (by omega) (by omega) (by omega) (by omega) (by omega) (by omega)).mono ?_; rintro _ w7 ⟨rfl, h7, x7⟩
  replace hs := qst_ok hs 2 7 8 13
  go_wp2_with fail
  go_at_call 21; refine (quarterSt g 3 4 9 14 e _ hs _ h7 (by omega) (by omega) (by omega) (by omega) (by omega) (by omega) (by omega) (by omega) (by omega) (by omega)).mono ?_; rintro _ w8 ⟨rfl, h8, x8⟩
  go_wp2_with fail
  go_end0
  exact ⟨rfl, h8, x1.then (x2.then (x3.then (x4.then (x5.then (x6.then (x7.then x8))))))⟩
end Go.Proofs.Ytcijbeagegonkaa
