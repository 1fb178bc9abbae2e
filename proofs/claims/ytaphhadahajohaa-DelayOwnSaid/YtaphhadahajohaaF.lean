/-
  container/heap's down.
-/
import Derived.Test.YtaphhadahajohaaE
set_option linter.unusedVariables false
set_option linter.unusedSimpArgs false
namespace Go.Proofs.Ytaphhadahajohaa
open Go.RowKit

theorem down_leaf (p i n : Nat) (w : World) (hi : n ≤ 2 * i + 1) (hb : i ≤ 1000000) :
    Calls Try.prog 24 #[Li p, .int .i64 i, .int .i64 n] w fun e w' => e = .returned (.bool false) ∧ w' = w := by
  have e1 : (n : Int) ≤ 2 * (i : Int) + 1 := by omega
  go_enter Try.func24, Try.ntmps24
  go_wp2_with fail
  refine wp_loop_once ?_
  go_wp2_with fail
  go_ret
  exact ⟨by simp, rfl⟩
/-- What 'down' keeps: a permutation, a heap so far, and what lies behind it. -/
def DnEnd (hs : List It) (n : Nat) (hs' : List It) : Prop := HeapN hs' n ∧ ∀ m, n ≤ m → at' hs' m = at' hs m
set_option maxHeartbeats 1600000 in
theorem down24 (p g o cap i0 n : Nat) (room nn : Int) (hs : List It) (w : World) (h : HL w p room nn g o cap hs) (hd : DnInv hs i0 n) (hn : n ≤ hs.length) (hb : hs.length ≤ 1000000) (hi0 : i0 ≤ n) :
    Calls Try.prog 24 #[Li p, .int .i64 i0, .int .i64 n] w fun e w' => ∃ r, e = .returned (.bool r) ∧ Moved w p room nn g o cap hs (DnEnd hs n) w' := by
  have ml := m_less ⟨p, 1, none⟩
  have ms := m_swap ⟨p, 1, none⟩
  go_enter Try.func24, Try.ntmps24
  go_wp2_with fail
  go_loopw [7] (fun v W => ∃ (k : Nat), v = .int .i64 k ∧ k ≤ n ∧ Moved w p room nn g o cap hs (fun hs' => DnInv hs' k n ∧ ∀ m, n ≤ m → at' hs' m = at' hs m) W) (fun v _ => n - (intOf v).toNat)
  case atStart => exact ⟨i0, rfl, hi0, Moved.here h ⟨hd, fun _ _ => rfl⟩⟩
  case round =>
    clear h hd
    obtain ⟨k, rfl, hkn, hs', hl, hx, hp, hu, ht⟩ := hrel
    have hll : hs'.length = hs.length := hp.length_eq
    obtain ⟨a, ha⟩ : ∃ a : Nat, a = 2 * k + 1 := ⟨_, rfl⟩
    have e1 : 2 * (k : Int) + 1 = (a : Int) := by omega
    by_cases hleaf : n ≤ a
    · have e2 : (n : Int) ≤ (a : Int) := by omega
      have hfin : DnEnd hs n hs' := ⟨hu.leaf (by omega), ht⟩
      clear hu ht ha hll
      go_wp2_with fail
      go_ret
      exact ⟨_, rfl, hs', hl, hx, hp, hfin⟩
    · have e2 : (a : Int) < (n : Int) := by omega
      have e3 : (0 : Int) ≤ (a : Int) := by omega
      have hnn : n ≤ hs'.length := by omega
      have hk : k < hs'.length := by omega
      obtain ⟨c, hc⟩ : ∃ c : Nat, c = a + 1 := ⟨_, rfl⟩
      have e4 : (a : Int) + 1 = (c : Int) := by omega
      -- the lesser child
      have hch : (n ≤ c ∧ Child hs' k n a) ∨ (c < n ∧ ltB (at' hs' c) (at' hs' a) = false ∧ Child hs' k n a) ∨ (c < n ∧ ltB (at' hs' c) (at' hs' a) = true ∧ Child hs' k n c) := by
        subst hc; subst ha
        rcases Nat.lt_or_ge (2 * k + 1 + 1) n with h1 | h1
        · right
          cases hb : ltB (at' hs' (2 * k + 1 + 1)) (at' hs' (2 * k + 1)) with
          | false => exact .inl ⟨h1, rfl, Child.left (by omega) fun _ => (ltB_false _ _).1 hb⟩
          | true => exact .inr ⟨h1, rfl, Child.right h1 ((ltB_iff _ _).1 hb)⟩
        · exact .inl ⟨h1, Child.left (by omega) fun h => by omega⟩
      have HL1 := Lib.hid hll
      have HA := Lib.hid ha
      have HCC := Lib.hid hc
      have HT := Lib.hid ht
      clear hll ht
      rcases hch with ⟨h1, hch⟩ | ⟨h1, hb1, hch⟩ | ⟨h1, hb1, hch⟩
      · have e5 : (n : Int) ≤ (c : Int) := by omega
        have hj := hch.1
        have hkj : k < a := by omega
        have hcl := fun W (hW : HL W p room nn g o cap hs') => lessHL a k hW (by omega) hk
        cases hb2 : ltB (at' hs' a) (at' hs' k) with
        | false =>
          rw [hb2] at hcl
          have hfin : DnEnd hs n hs' := ⟨hu.done hch ((ltB_false _ _).1 hb2), HT.out⟩
          have HC := Lib.hid hcl
          clear hcl hb2 hu hch ha hc
          go_wp2_with (first  | ((go_at_call 42; (with_reducible refine (HC.out _ hl).mono ?_)); rintro e W2 ⟨rfl, x2⟩))
          go_ret
          exact ⟨_, rfl, hs', hl.ext x2 id id, hx.trans x2 (fun _ _ h => h) (fun _ _ h => h.elim), hp, hfin⟩
        | true =>
          rw [hb2] at hcl
          have hst := hu.step hnn hch ((ltB_iff _ _).1 hb2)
          have HC := Lib.hid hcl
          have HP := Lib.hid hst
          have hsp := swapL_perm hs' k a hk (by omega)
          have ht2 : ∀ m, n ≤ m → at' (swapL hs' k a) m = at' hs m := fun m hm => by rw [at_swap _ _ _ _ hk (by omega), if_neg (by omega), if_neg (by omega)]; exact HT.out m hm
          have HT2 := Lib.hid ht2
          clear hcl hb2 hch hst ht2 hu ha hc
          go_wp2_with (first  | ((go_at_call 42; (with_reducible refine (HC.out _ hl).mono ?_)); rintro e W2 ⟨rfl, x2⟩) | (go_at_call 44; refine (swapHL k a (hl.ext x2 id id) hk (by omega) (by omega)).mono ?_; rintro e W3 ⟨rfl, h3, x3⟩))
          exact ⟨⟨a, rfl, by omega, _, h3, (hx.trans x2 (fun _ _ h => h) (fun _ _ h => h.elim)).then x3, hsp.trans hp, HP.out, HT2.out⟩, by simp [intOf]; omega⟩
      · have e5 : (c : Int) < (n : Int) := by omega
        have hc1 := lessHL c a hl (by omega) (by omega)
        rw [hb1] at hc1
        have H1 := Lib.hid hc1
        clear hc1 hb1
        have hj := hch.1
        have hkj : k < a := by omega
        have hcl := fun W (hW : HL W p room nn g o cap hs') => lessHL a k hW (by omega) hk
        cases hb2 : ltB (at' hs' a) (at' hs' k) with
        | false =>
          rw [hb2] at hcl
          have hfin : DnEnd hs n hs' := ⟨hu.done hch ((ltB_false _ _).1 hb2), HT.out⟩
          have HC := Lib.hid hcl
          clear hcl hb2 hu hch ha hc
          go_wp2_with (first | ((go_at_call 42; (with_reducible refine H1.out.mono ?_)); rintro e W1 ⟨rfl, x1⟩; have hl1 := hl.ext x1 id id) | ((go_at_call 42; (with_reducible refine (HC.out _ hl1).mono ?_)); rintro e W2 ⟨rfl, x2⟩))
          go_ret
          exact ⟨_, rfl, hs', hl1.ext x2 id id, (hx.trans x1 (fun _ _ h => h) (fun _ _ h => h.elim)).trans x2 (fun _ _ h => h) (fun _ _ h => h.elim), hp, hfin⟩
        | true =>
          rw [hb2] at hcl
          have hst := hu.step hnn hch ((ltB_iff _ _).1 hb2)
          have HC := Lib.hid hcl
          have HP := Lib.hid hst
          have hsp := swapL_perm hs' k a hk (by omega)
          have ht2 : ∀ m, n ≤ m → at' (swapL hs' k a) m = at' hs m := fun m hm => by rw [at_swap _ _ _ _ hk (by omega), if_neg (by omega), if_neg (by omega)]; exact HT.out m hm
          have HT2 := Lib.hid ht2
          clear hcl hb2 hch hst ht2 hu ha hc
          go_wp2_with (first | ((go_at_call 42; (with_reducible refine H1.out.mono ?_)); rintro e W1 ⟨rfl, x1⟩; have hl1 := hl.ext x1 id id) | ((go_at_call 42; (with_reducible refine (HC.out _ hl1).mono ?_)); rintro e W2 ⟨rfl, x2⟩) | (go_at_call 44; refine (swapHL k a (hl1.ext x2 id id) hk (by omega) (by omega)).mono ?_; rintro e W3 ⟨rfl, h3, x3⟩))
          exact ⟨⟨a, rfl, by omega, _, h3, ((hx.trans x1 (fun _ _ h => h) (fun _ _ h => h.elim)).trans x2 (fun _ _ h => h) (fun _ _ h => h.elim)).then x3, hsp.trans hp, HP.out, HT2.out⟩, by simp [intOf]; omega⟩
      · have e5 : (c : Int) < (n : Int) := by omega
        have hc1 := lessHL c a hl (by omega) (by omega)
        rw [hb1] at hc1
        have H1 := Lib.hid hc1
        clear hc1 hb1
        have hj := hch.1
        have hkj : k < c := by omega
        have hcl := fun W (hW : HL W p room nn g o cap hs') => lessHL c k hW (by omega) hk
        cases hb2 : ltB (at' hs' c) (at' hs' k) with
        | false =>
          rw [hb2] at hcl
          have hfin : DnEnd hs n hs' := ⟨hu.done hch ((ltB_false _ _).1 hb2), HT.out⟩
          have HC := Lib.hid hcl
          clear hcl hb2 hu hch ha hc
          go_wp2_with (first | ((go_at_call 42; (with_reducible refine H1.out.mono ?_)); rintro e W1 ⟨rfl, x1⟩; have hl1 := hl.ext x1 id id) | ((go_at_call 42; (with_reducible refine (HC.out _ hl1).mono ?_)); rintro e W2 ⟨rfl, x2⟩))
          go_ret
          exact ⟨_, rfl, hs', hl1.ext x2 id id, (hx.trans x1 (fun _ _ h => h) (fun _ _ h => h.elim)).trans x2 (fun _ _ h => h) (fun _ _ h => h.elim), hp, hfin⟩
        | true =>
          rw [hb2] at hcl
          have hst := hu.step hnn hch ((ltB_iff _ _).1 hb2)
          have HC := Lib.hid hcl
          have HP := Lib.hid hst
          have hsp := swapL_perm hs' k c hk (by omega)
          have ht2 : ∀ m, n ≤ m → at' (swapL hs' k c) m = at' hs m := fun m hm => by rw [at_swap _ _ _ _ hk (by omega), if_neg (by omega), if_neg (by omega)]; exact HT.out m hm
          have HT2 := Lib.hid ht2
          clear hcl hb2 hch hst ht2 hu ha hc
          go_wp2_with (first | ((go_at_call 42; (with_reducible refine H1.out.mono ?_)); rintro e W1 ⟨rfl, x1⟩; have hl1 := hl.ext x1 id id) | ((go_at_call 42; (with_reducible refine (HC.out _ hl1).mono ?_)); rintro e W2 ⟨rfl, x2⟩) | (go_at_call 44; refine (swapHL k c (hl1.ext x2 id id) hk (by omega) (by omega)).mono ?_; rintro e W3 ⟨rfl, h3, x3⟩))
          exact ⟨⟨c, rfl, by omega, _, h3, ((hx.trans x1 (fun _ _ h => h) (fun _ _ h => h.elim)).trans x2 (fun _ _ h => h) (fun _ _ h => h.elim)).then x3, hsp.trans hp, HP.out, HT2.out⟩, by simp [intOf]; omega⟩
end Go.Proofs.Ytaphhadahajohaa
