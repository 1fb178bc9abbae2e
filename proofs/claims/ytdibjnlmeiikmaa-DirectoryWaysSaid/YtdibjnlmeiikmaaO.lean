/-
  Rows of nodes: one written, the front kept, the rest cleared.
-/
import Derived.Test.YtdibjnlmeiikmaaN
import Derived.Lib.SliceRun
set_option linter.unusedVariables false
set_option linter.unusedSimpArgs false
namespace Go.Proofs.Ytdibjnlmeiikmaa
open Go.RowKit

theorem NR.lst {w : World} {v : Value} {L : List Nd} (h : NR w v L) (hn : 0 < L.length) :
    ∃ g o cap cur, v = .slice (some ⟨g, o, none⟩) L.length cap ∧ w.heap[g]? = some (.cells cur 50 (0, 0)) ∧ L.length ≤ cap ∧ cap ≤ maxLen ∧ o + cap * 34 ≤ cur.size ∧ ∀ j, j < (flatN L).length → cur[o + j]? = (flatN L)[j]? := by
  rcases h.2 with ⟨_, h0⟩ | ⟨g, off, cap, cur, hv, hh, h1, h2, h3, h4⟩
  · omega
  · exact ⟨g, off, cap, cur, hv, hh, h1, h2, h3, h4⟩
theorem flatN_set (L : List Nd) (i : Nat) (nd : Nd) (hi : i < L.length) (j : Nat) (hj : j < L.length * 34) :
    (flatN (L.set i nd))[j]? = if i * 34 ≤ j ∧ j < i * 34 + 34 then (nc nd)[j - i * 34]? else (flatN L)[j]? := by
  have hd : j = (j / 34) * 34 + j % 34 := by omega
  have hq : j / 34 < L.length := by omega
  have hr : j % 34 < 34 := by omega
  generalize j / 34 = q at *
  generalize j % 34 = r at *
  subst hd
  rw [flatN_at _ q r hr (by simpa using hq), flatN_at _ q r hr hq, List.getElem?_set]
  by_cases h : i = q
  · subst h
    rw [if_pos rfl, if_pos hi, if_pos (by omega), show i * 34 + r - i * 34 = r by omega]; rfl
  · rw [if_neg h, if_neg (by omega)]
/-- Node i of a row is written. -/
theorem NR.put {w : World} {g o cap : Nat} {L : List Nd} (h : NR w (.slice (some ⟨g, o, none⟩) L.length cap) L) {i : Nat} (hi : i < L.length) (nd : Nd) :
    NR (w.setCells g (o + i * 34) (nc nd)) (.slice (some ⟨g, o, none⟩) (L.set i nd).length cap) (L.set i nd) ∧ w.there g (o + i * 34) 34 ∧ Ext (fun k => k = g) w (w.setCells g (o + i * 34) (nc nd)) := by
  obtain ⟨g', o', cap', cur, hv, hh, h1, h2, h3, h4⟩ := NR.lst h (by omega)
  injection hv with e1 e2 e3
  injection e1 with e1
  injection e1 with e1 e4
  subst e1; subst e4; subst e3
  have hl := nc_len nd
  have hfl := flatN_length L
  obtain ⟨cur', k1, k2, k3⟩ := setCells_row' (nc nd) (o + i * 34) w cur hh (by omega)
  refine ⟨⟨by rw [flatN_length], .inr ⟨g, o, cap, cur', rfl, k1, by simpa using h1, h2, by rw [k2]; exact h3, fun j hj => ?_⟩⟩, fun j hj => ⟨?_, freeOf hh _⟩, ?_⟩
  · have hj' : j < L.length * 34 := by rw [flatN_length] at hj; simpa using hj
    rw [k3, flatN_set L i nd hi j hj', hl]
    by_cases hc : i * 34 ≤ j ∧ j < i * 34 + 34
    · rw [if_pos (by omega), if_pos hc, show o + j - (o + i * 34) = j - i * 34 by omega]
    · rw [if_neg (by omega), if_neg hc, h4 j (by omega)]
  · rw [cellOf hh, Array.getElem?_eq_getElem (by omega)]; rfl
  · obtain ⟨s1, s2, s3, s4⟩ := setCells_same' g (nc nd) (o + i * 34) w
    exact ⟨s1, s2, s3, by rw [s4]; exact Nat.le_refl _, fun k hk hn => setCells_far' _ _ k hn⟩
/-- The front of a row. -/
theorem NR.front {w : World} {g o cap : Nat} {L : List Nd} (h : NR w (.slice (some ⟨g, o, none⟩) L.length cap) L) {i : Nat} (hi : i ≤ L.length) (hn : 0 < L.length) : NR w (.slice (some ⟨g, o, none⟩) (L.take i).length cap) (L.take i) := by
  obtain ⟨g', o', cap', cur, hv, hh, h1, h2, h3, h4⟩ := NR.lst h hn
  injection hv with e1 e2 e3
  injection e1 with e1
  injection e1 with e1 e4
  subst e1; subst e4; subst e3
  have hfl := flatN_length L
  have hlt : (L.take i).length = i := by rw [List.length_take]; omega
  refine ⟨flatN_length _, .inr ⟨g, o, cap, cur, rfl, hh, by omega, h2, h3, fun j hj => ?_⟩⟩
  have e : flatN L = flatN (L.take i) ++ flatN (L.drop i) := by rw [← flatN_append, List.take_append_drop]
  have hj2 : j < (flatN L).length := by rw [e, List.length_append]; omega
  rw [h4 j hj2, e, List.getElem?_append_left hj]
/-- Cells behind the front are written. -/
theorem NR.behind {w : World} {g o cap : Nat} {L : List Nd} (h : NR w (.slice (some ⟨g, o, none⟩) L.length cap) L) (hb : ∃ cur, w.heap[g]? = some (.cells cur 50 (0, 0))) (zs : List Value) (a : Nat) (ha : o + L.length * 34 ≤ a) (hz : ∀ cur, w.heap[g]? = some (.cells cur 50 (0, 0)) → a + zs.length ≤ cur.size) :
    NR (w.setCells g a zs) (.slice (some ⟨g, o, none⟩) L.length cap) L := by
  rcases h.2 with ⟨hv, _⟩ | ⟨g', o', cap', cur, hv, hh, h1, h2, h3, h4⟩
  · injection hv with hv; cases hv
  · injection hv with e1 e2 e3
    injection e1 with e1
    injection e1 with e1 e4
    subst e1; subst e4; subst e3
    obtain ⟨cur', k1, k2, k3⟩ := setCells_row' zs a w cur hh (hz cur hh)
    refine ⟨h.1, .inr ⟨g, o, cap, cur', rfl, k1, h1, h2, by rw [k2]; exact h3, fun j hj => ?_⟩⟩
    have := flatN_length L
    rw [k3, if_neg (by omega), h4 j hj]
theorem info50 : (Try.prog.info? 50).map (fun i => (i.zero, i.size, i.bytes)) = some (some (.agg (nc default).toArray), 34, 48) := by kernel_rfl
theorem zero50 (w : World) : (zeroValue 50).run Try.prog w = .ok (.agg (nc default).toArray) w := by kernel_rfl
/-- clear at a slice of nodes. -/
theorem run_clear50 (w : World) (ty : TypeId) (b o n c : Nat) (hn : 0 < n) (hc : w.there b o (n * 34)) :
    ∃ zs : List Value, zs.length = n * 34 ∧ (Builtin.clear_ #[28] ty #[.slice (some ⟨b, o, none⟩) n c]).run Try.prog w = .ok (.tuple #[]) (w.setCells b o zs) := by
  obtain ⟨Z, hZ⟩ : ∃ Z, Z = (nc default).toArray := ⟨_, rfl⟩
  have hzc : Value.cells (.agg Z) = Z := rfl
  have lZ : Z.size = 34 := by rw [hZ]; rfl
  have oZ : ∀ i, i < 34 → (Z[i]!).oneCell' = true := fun i hi => by
    rw [hZ, getElem!_pos _ _ (by simpa [nc_len] using hi)]
    exact nc_one default _ (by simp)
  refine ⟨(Builtin.zeroCells Z n).toList, by simp [Builtin.zeroCells, lZ], ?_⟩
  have h1 : ∀ v ∈ (Builtin.zeroCells Z n).toList, v.oneCell' = true := fun v hv => by
    simp only [Builtin.zeroCells, Array.toList_map, List.mem_map, lZ] at hv
    obtain ⟨i, _, rfl⟩ := hv
    exact oZ _ (Nat.mod_lt _ (by decide))
  have hlen : (Builtin.zeroCells Z n).toList.length = n * 34 := by simp [Builtin.zeroCells, lZ]
  have hst := run_storeCells_cells (P := Try.prog) b o (Builtin.zeroCells Z n).toList 0 w (fun j hj => (hc j (by omega)).1) (fun j hj => (hc j (by omega)).2) h1
  simp only [Nat.add_zero] at hst
  have hv := zero50
  rw [← hZ] at hv
  obtain ⟨m, rfl⟩ : ∃ m, n = m + 1 := ⟨n - 1, by omega⟩
  clear hZ oZ h1 hc lZ hlen
  generalize hzs : Builtin.zeroCells Z (m + 1) = zs at *
  simp [Builtin.clear_, run_underlying Try.underlying28, hv, hzc, hzs, hst]
end Go.Proofs.Ytdibjnlmeiikmaa
