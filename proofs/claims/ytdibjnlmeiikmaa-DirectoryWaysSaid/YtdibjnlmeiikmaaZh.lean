/-
  The document's Delay; the law DirectoryDelays, walked.
-/
import Derived.Test.YtdibjnlmeiikmaaZg
set_option linter.unusedVariables false
set_option linter.unusedSimpArgs false
namespace Go.Proofs.Ytdibjnlmeiikmaa
open Go.RowKit Go.Proofs

theorem dly_in (L : List Hp) : ∀ n : Int, -9223372036854775808 ≤ n → n ≤ 9223372036854775807 → -9223372036854775808 ≤ dly L n ∧ dly L n ≤ 9223372036854775807 := by
  induction L with
  | nil => intro n h1 h2; exact ⟨h1, h2⟩
  | cons h L ih =>
    intro n h1 h2
    unfold dly
    by_cases hk : h.cmd.kind = 1
    · rw [if_pos hk]
      have : -9223372036854775808 ≤ IntKind.i64.wrap (n + max h.cmd.delay 0) ∧ IntKind.i64.wrap (n + max h.cmd.delay 0) ≤ 9223372036854775807 := by rw [IntKind.wrap_i64]; omega
      exact ih _ this.1 this.2
    · rw [if_neg hk]; exact ih _ h1 h2
set_option maxHeartbeats 3200000 in
set_option maxRecDepth 100000 in
theorem refDelay20 (A : Option Addr) (c : Nat) (L : List Hp) (w : World) (hr : HRd w A c L) (hlen : L.length ≤ 1000) : Calls Try.prog 20 #[.slice A L.length c] w fun e w' => e = .returned (.int .i64 (dly L 0)) ∧ Ext NoB w w' := by
  have h63 : c ≤ 9223372036854775807 := by have := hr.cap.2; unfold maxLen at this; omega
  have hcap := hr.cap.1
  have HR := Lib.hid hr
  clear hr
  go_enter Try.func20, Try.ntmps20
  go_wp2_with fail
  go_loopw [3, 4] (fun n i W => ∃ k : Nat, k ≤ L.length ∧ i = .int .i64 k ∧ n = .int .i64 (dly (L.take k) 0) ∧ Ext NoB w W) (fun _ i _ => L.length - (intOf i).toNat)
  case atStart => exact ⟨0, by omega, rfl, rfl, Ext.refl _ _⟩
  case round =>
    obtain ⟨k, hk, rfl, rfl, hx⟩ := hrel
    by_cases hlt : k < L.length
    · have k1 : (k : Int) < (L.length : Int) := by omega
      obtain ⟨b, o, rfl, hb, hra⟩ := (HR.out.ext hx (fun _ _ _ h => h)).at' k hlt
      have hsn : dly (L.take (k + 1)) 0 = if L[k].cmd.kind = 1 then IntKind.i64.wrap (dly (L.take k) 0 + max L[k].cmd.delay 0) else dly (L.take k) 0 := by
        rw [List.take_succ_eq_append_getElem hlt, dly_snoc]
      have hin := dly_in (L.take k) 0 (by decide) (by decide)
      generalize L[k] = h at *
      have c0 := cm_0 (hp_cmd hra)
      have c2 := cm_2 (hp_cmd hra)
      generalize dly (L.take k) 0 = n at *
      generalize hn2 : dly (L.take (k + 1)) 0 = n2 at *
      have HN2 := Lib.hid hn2
      generalize h.cmd.kind = kd at *
      generalize h.cmd.delay = dl at *
      clear hra hn2
      by_cases hk1 : kd = 1
      · rw [if_pos hk1] at hsn
        subst hk1
        by_cases hd : 0 < dl
        · rw [Int.max_eq_left (by omega)] at hsn
          have HSN := Lib.hid hsn
          clear hsn
          go_wp2_with fail
          exact ⟨⟨k + 1, by omega, by go_num, by rw [HN2.out, HSN.out, IntWalk.i64_left], hx⟩, by simp [intOf]; omega⟩
        · rw [Int.max_eq_right (by omega), Int.add_zero, IntWalk.i64_in n (by omega)] at hsn
          have HSN := Lib.hid hsn
          clear hsn
          go_wp2_with fail
          exact ⟨⟨k + 1, by omega, by go_num, by rw [HN2.out, HSN.out], hx⟩, by simp [intOf]; omega⟩
      · rw [if_neg hk1] at hsn
        have HSN := Lib.hid hsn
        have hk2 : (kd == 1) = false := beq_eq_false_iff_ne.2 hk1
        clear hsn
        go_wp2_with fail
        exact ⟨⟨k + 1, by omega, by go_num, by rw [HN2.out, HSN.out], hx⟩, by simp [intOf]; omega⟩
    · have k1 : ¬ (k : Int) < (L.length : Int) := by omega
      obtain rfl : k = L.length := by omega
      rw [List.take_length] at *
      go_wp2_with fail
      go_ret
      exact ⟨rfl, hx⟩
set_option maxHeartbeats 3200000 in
theorem delays_walk (A : Option Addr) (c : Nat) (n : Nat) (L : List Hp) (w : World) (hn : n = L.length) (hc : n ≤ c ∧ c ≤ maxLen) (hr : n ≤ 100 → HRd w A c L) :
    Calls Try.prog 7 #[.slice A n c] w fun e w' => e = .returned (.bool true) ∧ Ext NoB w w' := by
  have HRR := Lib.hid hr
  have h63 : c ≤ 9223372036854775807 := by have := hc.2; unfold maxLen at this; omega
  have hcap := hc.1
  clear hr
  by_cases hm : n ≤ 100
  · have hm1 : ¬ 100 < (n : Int) := by omega
    have HHO := Lib.hid fun W (hW : Ext NoB w W) => hops21 A c L W ((HRR.out hm).ext hW (fun _ _ _ h => h)) (by omega)
    have HDE := Lib.hid fun W A' c' (hW : HR W (.slice A' L.length c') L) => delay19 A' c' L W (GR.rd hc_len (by decide) hW) (by omega)
    have HRE := Lib.hid fun W (hW : Ext NoB w W) => refDelay20 A c L W ((HRR.out hm).ext hW (fun _ _ _ h => h)) (by omega)
    subst hn
    go_enter Try.func7, Try.ntmps7
    go_wp2_with (first
      | (go_at_call 9; (with_reducible refine (alive9 _).mono ?_); rintro e W1 ⟨rfl, x1⟩)
      | (go_at_call 21; (with_reducible refine (HHO.out _ x1).mono ?_); rintro e W2 ⟨A', c', rfl, h2, x2, _⟩; have H2 := Lib.hid h2; clear h2)
      | (go_at_call 19; (with_reducible refine (HDE.out _ _ _ H2.out).mono ?_); rintro e W3 ⟨rfl, x3⟩; have xx := (x1.then x2).then x3)
      | (go_at_call 20; (with_reducible refine (HRE.out _ xx).mono ?_); rintro e W4 ⟨rfl, x4⟩))
    go_ret
    exact ⟨by simp, xx.then x4⟩
  · have hm1 : 100 < (n : Int) := by omega
    go_enter Try.func7, Try.ntmps7
    go_wp2_with (go_at_call 9; (with_reducible refine (alive9 _).mono ?_); rintro e W1 ⟨rfl, x1⟩)
    go_ret
    exact ⟨rfl, x1⟩
end Go.Proofs.Ytdibjnlmeiikmaa
