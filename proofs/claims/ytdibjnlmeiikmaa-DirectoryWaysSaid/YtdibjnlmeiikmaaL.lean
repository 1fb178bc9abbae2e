/-
  slices.IndexFunc, slices.ContainsFunc at nodes.
-/
import Derived.Test.YtdibjnlmeiikmaaK
set_option linter.unusedVariables false
set_option linter.unusedSimpArgs false
namespace Go.Proofs.Ytdibjnlmeiikmaa
open Go.RowKit

/-- A test that is handed over: at each node of L it answers p. -/
def Tst (w : World) (g : Nat) (cb : Array Value) (L : List Nd) (p : Nd → Bool) : Prop := ∀ n ∈ L, ∀ W, Ext NoB w W → Calls Try.prog g (#[.agg (nc n).toArray] ++ cb) W fun e w' => e = .returned (.bool (p n)) ∧ Ext NoB W w'
/-- Where the first is, from k on. -/
def idxF (p : Nd → Bool) : List Nd → Nat → Int
  | [], _ => -1
  | n :: L, k => if p n then k else idxF p L (k + 1)
theorem idxF_drop (p : Nd → Bool) : ∀ (L : List Nd) (k : Nat), k < L.length → idxF p (L.drop k) k = if p (L.getD k default) then (k : Int) else idxF p (L.drop (k + 1)) (k + 1) := fun L k hk => by
  rw [List.drop_eq_getElem_cons hk]
  have : L.getD k default = L[k] := by simp [List.getD_eq_getElem?_getD, List.getElem?_eq_getElem hk]
  rw [this]; rfl
theorem Tst.ext {w W : World} {g : Nat} {cb : Array Value} {L : List Nd} {p : Nd → Bool} (h : Tst w g cb L p) (hx : Ext NoB w W) : Tst W g cb L p := fun n hn V hV => h n hn V (hx.then hV)
set_option maxHeartbeats 1600000 in
theorem index30 (g : Nat) (cb : Array Value) (eg : ∀ args w, (callFunc g args).run Try.prog w = .ok (.enter g args) w) (A : Option Addr) (c : Nat) (L : List Nd) (p : Nd → Bool) (w : World) (hr : NRd w A c L) (ht : Tst w g cb L p) (hlen : L.length ≤ 1000000) :
    Calls Try.prog 30 #[.slice A L.length c, .func (.func g) #[] cb] w fun e w' => e = .returned (.int .i64 (idxF p L 0)) ∧ Ext NoB w w' := by
  have h63 : c ≤ 9223372036854775807 := by have := hr.cap.2; unfold maxLen at this; omega
  have hcap := hr.cap.1
  have HR := Lib.hid hr
  have HT := Lib.hid ht
  clear hr ht
  go_enter Try.func30, Try.ntmps30
  go_wp2_with fail
  go_loopw [8] (fun i W => ∃ k : Nat, k ≤ L.length ∧ i = .int .i64 k ∧ idxF p L 0 = idxF p (L.drop k) k ∧ Ext NoB w W) (fun i _ => L.length - (intOf i).toNat)
  case atStart => exact ⟨0, by omega, rfl, rfl, Ext.refl _ _⟩
  case round =>
    obtain ⟨k, hk, rfl, hidx, hx⟩ := hrel
    by_cases hlt : k < L.length
    · have k1 : (k : Int) < (L.length : Int) := by omega
      obtain ⟨b, o, rfl, hb, hra⟩ := (HR.out.ext hx (fun _ _ _ h => h)).at' k hlt
      have hN := sizeNd L[k]
      rw [idxF_drop p L k hlt] at hidx
      have hget : L.getD k default = L[k] := by simp [List.getD_eq_getElem?_getD, List.getElem?_eq_getElem hlt]
      rw [hget] at hidx
      have hcall := HT.out L[k] (List.getElem_mem hlt) wr hx
      generalize L[k] = nd at *
      have HRA := Lib.hid hra
      have HID := Lib.hid hidx
      have HC := Lib.hid hcall
      clear hra hidx hcall
      by_cases hp : p nd
      · have hp' : p nd = true := hp
        rw [hp'] at HC
        go_wp2_with (first
          | ((with_reducible show wpList _ _ _ (⟨_, .load 50 _, _, _, _, _⟩ :: _) _ _); refine wpList_load_arrm (by rfl) 50 _ rfl b (o + k * 34) rfl (nc nd) _ HRA.out Try.underlying50 rfl hN ?_)
          | (go_at_fn g; (with_reducible refine HC.out.mono ?_); rintro e W2 ⟨rfl, x2⟩))
        go_ret
        exact ⟨by rw [HID.out, if_pos hp]; rfl, hx.then x2⟩
      · have hp' : p nd = false := by simpa using hp
        rw [hp'] at HC
        go_wp2_with (first
          | ((with_reducible show wpList _ _ _ (⟨_, .load 50 _, _, _, _, _⟩ :: _) _ _); refine wpList_load_arrm (by rfl) 50 _ rfl b (o + k * 34) rfl (nc nd) _ HRA.out Try.underlying50 rfl hN ?_)
          | (go_at_fn g; (with_reducible refine HC.out.mono ?_); rintro e W2 ⟨rfl, x2⟩))
        exact ⟨⟨k + 1, by omega, by go_num, by rw [HID.out, if_neg hp], hx.then x2⟩, by simp [intOf]; omega⟩
    · have k1 : ¬ (k : Int) < (L.length : Int) := by omega
      obtain rfl : k = L.length := by omega
      rw [List.drop_length] at hidx
      have HID := Lib.hid hidx
      clear hidx
      go_wp2_with fail
      go_ret
      exact ⟨by rw [HID.out]; rfl, hx⟩
theorem idxF_any (p : Nd → Bool) : ∀ (L : List Nd) (k : Nat), decide (0 ≤ idxF p L k) = L.any p
  | [], k => by simp [idxF]
  | n :: L, k => by
    unfold idxF
    by_cases h : p n
    · rw [if_pos h]; simp [h]
    · rw [if_neg h, idxF_any p L (k + 1)]; simp [h]
theorem contains23 (g : Nat) (cb : Array Value) (eg : ∀ args w, (callFunc g args).run Try.prog w = .ok (.enter g args) w) (A : Option Addr) (c : Nat) (L : List Nd) (p : Nd → Bool) (w : World) (hr : NRd w A c L) (ht : Tst w g cb L p) (hlen : L.length ≤ 1000000) :
    Calls Try.prog 23 #[.slice A L.length c, .func (.func g) #[] cb] w fun e w' => e = .returned (.bool (L.any p)) ∧ Ext NoB w w' := by
  have h := index30 g cb eg A c L p w hr ht hlen
  have ha := idxF_any p L 0
  rw [← ha]
  clear ha hr ht
  go_enter Try.func23, Try.ntmps23
  go_wp2_with (go_at_call 30; (with_reducible refine h.mono ?_); rintro e W2 ⟨rfl, x2⟩)
  go_ret
  exact ⟨rfl, x2⟩
end Go.Proofs.Ytdibjnlmeiikmaa
