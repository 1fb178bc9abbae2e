/-
  The answers that the document fixes.
-/
import Derived.Test.YteidkdbngjhopaaM
import Derived.Test.YteidkdbngjhopaaArr
set_option linter.unusedVariables false
set_option linter.unusedSimpArgs false
namespace Go.Proofs.Yteidkdbngjhopaa
open Go.RowKit Go.Maps

/-- All blocks from B on but one. -/
def Fb (B bt : Nat) : Nat → Prop := fun k => B ≤ k ∧ k ≠ bt
def tg (x : Int) : List Int := [x, 0, 0, 0, 0, 0, 0, 0, 0, 0, 0, 0, 0, 0, 0, 0]
theorem tg_ok (x : Int) (h : 0 ≤ x ∧ x ≤ 255) : Tg (tg x) := ⟨rfl, fun y hy => by simp [tg] at hy; omega⟩
theorem al_add {B bt : Nat} {W : World} {p : Nat} {low : Int} {E E' : List Ent} (hB : B ≤ W.heap.size) (hbt : bt < W.heap.size) (h : CS W p 1 low E (Fb B bt)) (g x n : Int) (hx : 0 ≤ x ∧ x ≤ 255) (hg : (Lit.int .i64 g).wf = true) (A : Array Value) (hA : A = tv (tg x)) (hE : AddE 1 low E g (tg x) = n) (hE' : (if n = 0 then E ++ [(g, tg x)] else E) = E') :
    Calls Try.prog 12 #[.pointer (some ⟨p, 0, none⟩), .int .i64 g, .agg A] W fun e w' => e = .returned (.int .i64 n) ∧ Ext (Fb B bt) W w' ∧ CS w' p 1 low E' (Fb B bt) ∧ B ≤ w'.heap.size ∧ bt < w'.heap.size := by
  subst hA
  refine (add12 h (by decide) (by decide) (tg_ok x hx) hg).mono ?_
  rintro e w' ⟨h1, h2, h3⟩
  rw [hE] at h1 h3
  rw [hE'] at h3
  exact ⟨h1, h2, h3.mono fun k _ hk => hk.elim id fun hk => ⟨Nat.le_trans hB hk, by omega⟩, Nat.le_trans hB h2.size, Nat.lt_of_lt_of_le hbt h2.size⟩
theorem al_has {B bt : Nat} {W : World} {p : Nat} {low : Int} {E : List Ent} (hB : B ≤ W.heap.size) (hbt : bt < W.heap.size) (h : CS W p 1 low E (Fb B bt)) (g x : Int) (hx : 0 ≤ x ∧ x ≤ 255) (hg : (Lit.int .i64 g).wf = true) (A : Array Value) (hA : A = tv (tg x)) (hE : (g, tg x) ∈ E) :
    Calls Try.prog 13 #[.pointer (some ⟨p, 0, none⟩), .int .i64 g, .agg A] W fun e w' => e = .returned (.bool true) ∧ Ext (Fb B bt) W w' ∧ CS w' p 1 low E (Fb B bt) ∧ B ≤ w'.heap.size ∧ bt < w'.heap.size := by
  subst hA
  refine (has13 h hg (tg_ok x hx)).mono ?_
  rintro e w' ⟨h1, h2⟩
  exact ⟨by rw [h1]; simp [hE], h2.mono fun _ _ h => h.elim, h.ext h2 (fun _ _ h => h), Nat.le_trans hB h2.size, Nat.lt_of_lt_of_le hbt h2.size⟩
theorem al_gens {B bt : Nat} {W : World} {p : Nat} {low : Int} {E : List Ent} (hB : B ≤ W.heap.size) (hbt : bt < W.heap.size) (h : CS W p 1 low E (Fb B bt)) (n : Nat) (hn : (gl E).length = n) (hn' : n ≤ 1000) :
    Calls Try.prog 18 #[.pointer (some ⟨p, 0, none⟩)] W fun e w' => (∃ A c, e = .returned (.slice A n c)) ∧ Ext (Fb B bt) W w' ∧ CS w' p 1 low E (Fb B bt) ∧ B ≤ w'.heap.size ∧ bt < w'.heap.size := by
  refine (gens18 h (by omega)).mono ?_
  rintro e w' ⟨v, h1, h2, h3, _⟩
  obtain ⟨A, c, rfl, _⟩ := h2.slice
  rw [gens_len, hn] at h1
  exact ⟨⟨A, c, h1⟩, h3.mono fun _ _ h => h.elim, h.ext h3 (fun _ _ h => h), Nat.le_trans hB h3.size, Nat.lt_of_lt_of_le hbt h3.size⟩
theorem al_forget {B bt : Nat} {W : World} {p : Nat} {low : Int} {E : List Ent} (hB : B ≤ W.heap.size) (hbt : bt < W.heap.size) (h : CS W p 1 low E (Fb B bt)) (gen n low' : Int) (E' : List Ent) (hl : E.length ≤ 1000) (hg : (Lit.int .i64 gen).wf = true) (hE' : keepG E gen = E') (hn : (E.length : Int) - (E'.length : Int) = n) (hlow : max low gen = low') :
    Calls Try.prog 10 #[.pointer (some ⟨p, 0, none⟩), .int .i64 gen] W fun e w' => e = .returned (.int .i64 n) ∧ Ext (Fb B bt) W w' ∧ CS w' p 1 low' E' (Fb B bt) ∧ B ≤ w'.heap.size ∧ bt < w'.heap.size := by
  refine (forget10 (h.mono (G := fun k => Fb B bt k ∧ k < W.heap.size) (fun k hk hf => ⟨hf, hk⟩)) (fun k hk => hk.2) (by omega) hg).mono ?_
  rintro e w' ⟨h1, h2, h3⟩
  rw [hE'] at h1 h2
  rw [hn] at h1
  rw [hlow] at h2
  have h4 : Ext (Fb B bt) W w' := h3.mono fun _ _ h => h.1
  exact ⟨h1, h4, h2.mono fun _ _ h => h.1, Nat.le_trans hB h4.size, Nat.lt_of_lt_of_le hbt h4.size⟩
theorem al_len {B bt : Nat} {W : World} {p : Nat} {low : Int} {E : List Ent} (hB : B ≤ W.heap.size) (hbt : bt < W.heap.size) (h : CS W p 1 low E (Fb B bt)) (g n : Int) (hg : (Lit.int .i64 g).wf = true) (hn : ((tagsOf E g).length : Int) = n) :
    Calls Try.prog 15 #[.pointer (some ⟨p, 0, none⟩), .int .i64 g] W fun e w' => e = .returned (.int .i64 n) ∧ Ext (Fb B bt) W w' ∧ CS w' p 1 low E (Fb B bt) ∧ B ≤ w'.heap.size ∧ bt < w'.heap.size := by
  refine (len15 h hg).mono ?_
  rintro e w' ⟨h1, h2⟩
  rw [hn] at h1
  exact ⟨h1, h2.mono fun _ _ h => h.elim, h.ext h2 (fun _ _ h => h), Nat.le_trans hB h2.size, Nat.lt_of_lt_of_le hbt h2.size⟩
def E1 : List Ent := [(3, tg 1)]
def E2 : List Ent := [(3, tg 1), (4, tg 1)]
def E3 : List Ent := [(4, tg 1)]
set_option maxHeartbeats 3200000 in
theorem alive_any (w : World) : Calls Try.prog 7 #[] w fun e w' => e = .returned (.bool true) ∧ Ext NoB w w' := by
  obtain ⟨A, hA⟩ : ∃ A, A = tv (tg 1) := ⟨_, rfl⟩
  have sA : (Try.prog.info? 30).map (·.size) = some A.size := by rw [hA]; exact size30
  have oA : A.all (·.oneCell') = true := by rw [hA]; exact all_oneCell_toArray (tvs_one _)
  have lA : A.size = 16 := by rw [hA]; rfl
  have HA := Lib.hid hA
  go_enter Try.func7, Try.ntmps7
  go_upto_region 2 with (first
    | (go_at_call 8; refine (new_yes 1 (by decide) (by decide) _).mono ?_; rintro e W1 ⟨rfl, h1, x1⟩))
  obtain ⟨B, hB⟩ : ∃ B, B = w.heap.size := ⟨_, rfl⟩
  obtain ⟨bt, hbt⟩ : ∃ bt, bt = W1.heap.size := ⟨_, rfl⟩
  have h1' : CS W1 (w.heap.size + 1) 1 0 [] (Fb B bt) := h1.mono fun k hk hf => ⟨by omega, by omega⟩
  have hbn := heapNew W1 (.cells A 30)
  have h2 : CS (W1.alloc (.cells A 30)) (w.heap.size + 1) 1 0 [] (Fb B bt) := h1'.ext (Ext.alloc NoB W1 _) (fun _ _ h => h)
  have hz2 : B ≤ (W1.alloc (.cells A 30)).heap.size := by rw [hB]; exact Nat.le_trans x1.size (Ext.alloc NoB W1 _).size
  have ht2 : bt < (W1.alloc (.cells A 30)).heap.size := by rw [hbt]; exact blk_lt' hbn
  have hbnF : ¬ Fb B bt W1.heap.size := fun h => h.2 hbt.symm
  have HB := Lib.hid hB
  have HBT := Lib.hid hbt
  have HBN := Lib.hid hbn
  clear hB hbt hbn h1 h1' hA
  have hA2 : (#[.int .u8 2, .int .u8 0, .int .u8 0, .int .u8 0, .int .u8 0, .int .u8 0, .int .u8 0, .int .u8 0, .int .u8 0, .int .u8 0, .int .u8 0, .int .u8 0, .int .u8 0, .int .u8 0, .int .u8 0, .int .u8 0] : Array Value) = tv (tg 2) := rfl
  have HA2 := Lib.hid hA2
  clear hA2
  have x22 := Ext.refl (Fb B bt) (W1.alloc (.cells A 30))
  go_wp2_with (first
    | ((with_reducible show wpList _ _ _ (⟨_, .store 30 _ _, _, _, _, _⟩ :: _) _ _); refine wpList_store_new rfl 30 _ _ rfl W1.heap.size A rfl (by rw [HA.out]; rfl) rfl (by rw [lA]; rfl) sA oA ?_)
    | ((with_reducible show wpList _ _ _ (⟨_, .load 30 _, _, _, _, _⟩ :: _) _ _); refine wpList_load_arr (by rfl) 30 _ rfl W1.heap.size rfl 30 A (0, 0) _ (x22.obj HBN.out hbnF) Try.underlying30 rfl sA ?_)
    | (go_at_call 12; (with_reducible refine (al_add hz2 ht2 h2 3 1 0 (by decide) (by decide) A HA.out (by decide) (E' := E1) rfl).mono ?_); rintro e V3 ⟨rfl, y3, h3, hz3, ht3⟩; have x22 := x22.then y3)
    | (go_at_call 12; (with_reducible refine (al_add hz3 ht3 h3 3 1 11 (by decide) (by decide) A HA.out (by decide) (E' := E1) rfl).mono ?_); rintro e V4 ⟨rfl, y4, h4, hz4, ht4⟩; have x22 := x22.then y4)
    | (go_at_call 12; (with_reducible refine (al_add hz4 ht4 h4 3 2 8 (by decide) (by decide) _ HA2.out (by decide) (E' := E1) rfl).mono ?_); rintro e V5 ⟨rfl, y5, h5, hz5, ht5⟩; have x22 := x22.then y5)
    | (go_at_call 12; (with_reducible refine (al_add hz5 ht5 h5 4 1 0 (by decide) (by decide) A HA.out (by decide) (E' := E2) rfl).mono ?_); rintro e V6 ⟨rfl, y6, h6, hz6, ht6⟩; have x22 := x22.then y6)
    | (go_at_call 13; (with_reducible refine (al_has hz6 ht6 h6 3 1 (by decide) (by decide) A HA.out (by decide)).mono ?_); rintro e V7 ⟨rfl, y7, h7, hz7, ht7⟩; have x22 := x22.then y7)
    | (go_at_call 18; (with_reducible refine (al_gens hz7 ht7 h7 2 (by decide) (by decide)).mono ?_); rintro e V8 ⟨⟨A8, c8, rfl⟩, y8, h8, hz8, ht8⟩; have x22 := x22.then y8)
    | (go_at_call 10; (with_reducible refine (al_forget hz8 ht8 h8 4 1 4 E3 (by decide) (by decide) (by decide) (by decide) (by decide)).mono ?_); rintro e V9 ⟨rfl, y9, h9, hz9, ht9⟩; have x22 := x22.then y9)
    | (go_at_call 15; (with_reducible refine (al_len hz9 ht9 h9 4 1 (by decide) (by decide)).mono ?_); rintro e V10 ⟨rfl, y10, h10, hz10, ht10⟩; have x22 := x22.then y10)
    | (go_at_call 12; (with_reducible refine (al_add hz10 ht10 h10 3 1 13 (by decide) (by decide) A HA.out (by decide) (E' := E3) rfl).mono ?_); rintro e V11 ⟨rfl, y11, h11, hz11, ht11⟩; have x22 := x22.then y11))
  go_ret
  refine ⟨rfl, ?_⟩
  have X : Ext (Fb B bt) w V11 := ((x1.andAlloc (.cells A 30)).mono (G := Fb B bt) fun _ _ h => h.elim).then x22
  exact X.mono fun k hk h => by have := h.1; rw [HB.out] at this; omega
end Go.Proofs.Yteidkdbngjhopaa
