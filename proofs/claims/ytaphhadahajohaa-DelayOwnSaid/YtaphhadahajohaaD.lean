/-
  The line under Swap and Pop; calls through the interface.
-/
import Derived.Test.YtaphhadahajohaaC
import Derived.Test.YtaphhadahajohaaP
set_option linter.unusedVariables false
set_option linter.unusedSimpArgs false
namespace Go.Proofs.Ytaphhadahajohaa
open Go.RowKit

section
variable {w : World} {p : Nat} {room nn : Int} {g o cap : Nat} {hs : List It}
theorem HL.setItem (h : HL w p room nn g o cap hs) {i : Nat} (hi : i < hs.length) (x : It) : HL (w.setCells g (o + i * 4) x.cs) p room nn g o cap (hs.set i x) := by
  have hne := h.ne
  refine ⟨by rw [setCells_far' _ _ _ (fun e => hne e.symm), List.length_set]; exact h.blk, ?_⟩
  obtain ⟨h1, h2⟩ := h.row
  rw [List.length_set]
  refine ⟨by rw [flat_length, List.length_set], ?_⟩
  rcases h2 with ⟨h2, _⟩ | ⟨g', o', cap', cur, hv, hh, hn, hm, hs', hc⟩
  · cases h2
  · injection hv with hv1 hv2 hv3
    injection hv1 with hv1
    injection hv1 with e1 e2
    subst e1; subst e2; subst hv3
    obtain ⟨cur', k1, k2, k3⟩ := setCells_row' x.cs (o + i * 4) w cur hh (by simp [It.cs]; omega)
    refine .inr ⟨g, o, cap, cur', rfl, k1, hn, hm, by rw [k2]; exact hs', fun j hj => ?_⟩
    rw [flat_length, List.length_set] at hj
    have hx4 : x.cs.length = 4 := rfl
    rw [k3, hx4]
    have hq : j = j / 4 * 4 + j % 4 := by omega
    have hq1 : j / 4 < hs.length := by omega
    have hc4 : j % 4 < 4 := by omega
    have hL : (flat (hs.set i x))[j]? = ((hs.set i x)[j / 4]?).bind fun y => y.cs[j % 4]? := by
      conv => lhs; rw [hq]
      exact flat_at (hs.set i x) (j / 4) (j % 4) hc4 (by rw [List.length_set]; exact hq1)
    have hR : cur[o + j]? = (hs[j / 4]?).bind fun y => y.cs[j % 4]? := by
      rw [hc j (by rw [flat_length]; omega)]
      conv => lhs; rw [hq]
      exact flat_at hs (j / 4) (j % 4) hc4 hq1
    rw [hL, List.getElem?_set]
    by_cases hij : i = j / 4
    · rw [if_pos (by omega), if_pos hij, if_pos (by omega)]
      simp only [Option.bind_some]
      congr 1
      omega
    · rw [if_neg (by omega), if_neg hij, hR]
theorem Ext.cells' {F : Nat → Prop} {a w : World} (h : Ext F a w) (g o : Nat) (vs : List Value) (hF : g < a.heap.size → F g) : Ext F a (w.setCells g o vs) := by
  obtain ⟨s1, s2, s3, s4⟩ := setCells_same' g vs o w
  exact ⟨s1.trans h.os, s2.trans h.tape, s3.trans h.output, by rw [s4]; exact h.size, fun k hk hn => (setCells_far' _ _ k fun e => hn (by rw [e]; exact hF (by rw [← e]; exact hk))).trans (h.block k hk hn)⟩
theorem swapHL (i j : Nat) (h : HL w p room nn g o cap hs) (hi : i < hs.length) (hj : j < hs.length) (hne : i ≠ j) :
    Calls Try.prog 44 #[.pointer (some ⟨p, 1, none⟩), .int .i64 i, .int .i64 j] w fun e w' => e = .returned (.tuple #[]) ∧ HL w' p room nn g o cap (swapL hs i j) ∧ Ext (fun k => k = g) w w' := by
  refine (swap44 p g o cap i j room nn hs _ _ w h (at_get hi) (at_get hj) hne).mono ?_
  rintro e w' ⟨rfl, m, rfl⟩
  refine ⟨rfl, ?_, (((Ext.refl (fun k => k = g) w).cells' g _ _ fun _ => rfl).cells' g _ _ fun _ => rfl).andDrewN m⟩
  exact ((h.setItem hi (at' hs j)).setItem (by rw [List.length_set]; exact hj) (at' hs i)).ext (Ext.drewN NoB _ m) id id
end
set_option maxHeartbeats 400000 in
theorem swap44s (p g o cap i : Nat) (room nn : Int) (hs : List It) (a : It) (w : World) (h : HL w p room nn g o cap hs) (hi : hs[i]? = some a) :
    Calls Try.prog 44 #[.pointer (some ⟨p, 1, none⟩), .int .i64 i, .int .i64 i] w fun e w' => e = .returned (.tuple #[]) ∧ ∃ m, w' = ((w.setCells g (o + i * 4) a.cs).setCells g (o + i * 4) a.cs).drewN m := by
  obtain ⟨i0, i1, i2, i3⟩ := h.at hi
  have c1 := h.c1
  have li : i < hs.length := (List.getElem?_eq_some_iff.1 hi).1
  have fr := h.free (by omega)
  have hm := h.len
  have k1 : (i : Int) < (hs.length : Int) := by omega
  have k3 : hs.length ≤ 9223372036854775807 := by have := hm; unfold maxLen at this; omega
  have hgp := h.ne
  obtain ⟨d, t, A, l, c, n⟩ := a
  simp only [It.cs, It.b, List.size_toArray] at i0 i1 i2 i3 ⊢
  clear h hi hm
  go_enter Try.func44, Try.ntmps44
  go_wp2_with fail
  go_region
  go_end0
  exact ⟨rfl, 1, rfl⟩
theorem swapHLs {w : World} {p : Nat} {room nn : Int} {g o cap : Nat} {hs : List It} (i : Nat) (h : HL w p room nn g o cap hs) (hi : i < hs.length) :
    Calls Try.prog 44 #[.pointer (some ⟨p, 1, none⟩), .int .i64 i, .int .i64 i] w fun e w' => e = .returned (.tuple #[]) ∧ HL w' p room nn g o cap (swapL hs i i) ∧ Ext (fun k => k = g) w w' := by
  refine (swap44s p g o cap i room nn hs _ w h (at_get hi)).mono ?_
  rintro e w' ⟨rfl, m, rfl⟩
  refine ⟨rfl, ?_, (((Ext.refl (fun k => k = g) w).cells' g _ _ fun _ => rfl).cells' g _ _ fun _ => rfl).andDrewN m⟩
  exact ((h.setItem hi (at' hs i)).setItem (by rw [List.length_set]; exact hi) (at' hs i)).ext (Ext.drewN NoB _ m) id id

theorem lessHL {w : World} {p : Nat} {room nn : Int} {g o cap : Nat} {hs : List It} (i j : Nat) (h : HL w p room nn g o cap hs) (hi : i < hs.length) (hj : j < hs.length) :
    Calls Try.prog 42 #[.pointer (some ⟨p, 1, none⟩), .int .i64 i, .int .i64 j] w fun e w' => e = .returned (.bool (ltB (at' hs i) (at' hs j))) ∧ Ext NoB w w' :=
  less42 p g o cap i j room nn hs _ _ w h (at_get hi) (at_get hj)

theorem pop43 (p g o cap : Nat) (room nn : Int) (hs : List It) (x : It) (w : World) (h : HL w p room nn g o cap (hs ++ [x])) :
    Calls Try.prog 43 #[.pointer (some ⟨p, 1, none⟩)] w fun e w' => e = .returned (.iface 59 (.agg x.cs.toArray)) ∧ HL w' p room nn g o cap hs ∧ Ext (fun k => k = p) w w' := by
  have hi : (hs ++ [x])[hs.length]? = some x := by simp
  obtain ⟨i0, i1, i2, i3⟩ := h.at hi
  have c1 := h.c1
  have fp := h.fr 1
  have hm := h.len
  have hq := h.row
  have hb := h.blk
  have hne := h.ne
  simp only [List.length_append, List.length_cons, List.length_nil, Nat.zero_add] at c1 hm hb hq
  have lp := blk_lt' hb
  have kc : (hs.length : Int) ≤ (cap : Int) := by omega
  have kz : ¬ cap = 0 := by omega
  have cA : ∀ ob, (w.alloc ob).cell? ⟨p, 1, none⟩ = some (.slice (some ⟨g, o, none⟩) (hs.length + 1) cap) := fun ob => (Ext.alloc NoB w ob).cell c1 id
  have k3 : hs.length + 1 ≤ 9223372036854775807 := by have := hm; unfold maxLen at this; omega
  have hfin : ∀ w' : World, w'.heap[g]? = w.heap[g]? → w'.heap[p]? = some (.cells #[.int .i64 room, .slice (some ⟨g, o, none⟩) hs.length cap, .int .i64 nn] 53 (0, 0)) → HL w' p room nn g o cap hs := fun w' hg hp => by
    refine ⟨hp, by rw [flat_length], ?_⟩
    rcases hq.2 with ⟨h2, _⟩ | ⟨g', o', cap', cur, hv, hh, hn, hm', hs', hc⟩
    · cases h2
    · injection hv with hv1 hv2 hv3
      injection hv1 with hv1
      injection hv1 with e1 e2
      subst e1; subst e2; subst hv3
      refine .inr ⟨g, o, cap, cur, rfl, by rw [hg]; exact hh, by omega, hm', hs', fun j hj => ?_⟩
      rw [hc j (by rw [flat_append, List.length_append]; omega), flat_append, List.getElem?_append_left hj]
  obtain ⟨d, t, A, l, c, n⟩ := x
  simp only [It.cs, It.b, List.size_toArray] at i0 i1 i2 i3 ⊢
  have HF := Lib.hid hfin
  have HB := Lib.hid hb
  clear hfin h hi hm hq hb
  go_enter Try.func43, Try.ntmps43
  go_wp2_with fail
  go_ret
  have hx : Ext (fun k => k = p) w ((w.setCell ⟨p, 1, none⟩ (.slice (some ⟨g, o, none⟩) hs.length cap)).alloc (.cells #[.int .i64 d, .int .i64 t, .slice A l c, .int .i64 n] 59)) := ((Ext.refl (fun k => k = p) w).andSet _ _ fun _ => rfl).andAlloc _
  refine ⟨rfl, HF.out _ ?_ ?_, hx⟩
  · exact hx.block g (by have := World.block_lt_of_cell? _ _ i0; exact this) (by omega)
  · rw [heapAlloc _ _ _ (by rw [sizeSet]; exact lp), heapSet HB.out 1]
    rfl
theorem m_len (a : Addr) (w : World) : (method 189 61 (.pointer (some a)) "Len").run Try.prog w = .ok (20, .pointer (some a)) w := by kernel_rfl
theorem m_less (a : Addr) (w : World) : (method 189 61 (.pointer (some a)) "Less").run Try.prog w = .ok (42, .pointer (some a)) w := by kernel_rfl
theorem m_swap (a : Addr) (w : World) : (method 189 61 (.pointer (some a)) "Swap").run Try.prog w = .ok (44, .pointer (some a)) w := by kernel_rfl
theorem m_pop (a : Addr) (w : World) : (method 189 61 (.pointer (some a)) "Pop").run Try.prog w = .ok (43, .pointer (some a)) w := by kernel_rfl
end Go.Proofs.Ytaphhadahajohaa
