/-
  slices.Reverse at hops.
-/
import Derived.Test.YtdibjnlmeiikmaaW
set_option linter.unusedVariables false
set_option linter.unusedSimpArgs false
namespace Go.Proofs.Ytdibjnlmeiikmaa
open Go.RowKit Go.Proofs Go.Sort Go.Shelf

section
variable {α : Type} [Inhabited α] {enc : α → List Value} {k : Nat}
theorem flatK_flatG (hk : ∀ x, (enc x).length = k) (hk0 : 0 < k) (L : List α) : (flatK enc k L.toArray) = (flatG enc L).toArray := by
  apply Array.ext_getElem?
  intro j
  have hfl := flatG_length hk L
  by_cases hj : j < L.length * k
  · have hd : j = (j / k) * k + j % k := by rw [Nat.mul_comm]; exact (Nat.div_add_mod j k).symm
    have hq : j / k < L.length := Nat.div_lt_of_lt_mul (by rw [Nat.mul_comm]; exact hj)
    have hr := Nat.mod_lt j hk0
    have e0 : (flatG enc L).toArray[j]? = (enc L[j / k])[j % k]? := by
      rw [List.getElem?_toArray]
      have := flatG_at hk L (j / k) (j % k) hr hq
      rw [← hd, List.getElem?_eq_getElem hq] at this
      exact this
    rw [e0]
    unfold flatK
    have hj2 : j < L.toArray.size * k := by simpa using hj
    rw [Array.getElem?_map, Array.getElem?_range, if_pos hj2]
    simp only [Option.map_some]
    have e1 : L.toArray[j / k]! = L[j / k] := by rw [getElem!_pos L.toArray _ (by simpa using hq)]; rfl
    rw [e1, getElem!_pos (enc L[j / k]) _ (by rw [hk]; exact hr), List.getElem?_eq_getElem (by rw [hk]; exact hr)]
  · rw [Array.getElem?_eq_none (by simp [flatK]; omega), Array.getElem?_eq_none (by simp [hfl]; omega)]
omit [Inhabited α] in
theorem GR.lst {e : TypeId} {w : World} {v : Value} {L : List α} (h : GR e enc k w v L) (hn : 0 < L.length) :
    ∃ g o cap cur, v = .slice (some ⟨g, o, none⟩) L.length cap ∧ w.heap[g]? = some (.cells cur e (0, 0)) ∧ L.length ≤ cap ∧ cap ≤ maxLen ∧ o + cap * k ≤ cur.size ∧ ∀ j, j < (flatG enc L).length → cur[o + j]? = (flatG enc L)[j]? := by
  rcases h.2 with ⟨_, h0⟩ | ⟨g, off, cap, cur, hv, hh, h1, h2, h3, h4⟩
  · omega
  · exact ⟨g, off, cap, cur, hv, hh, h1, h2, h3, h4⟩
theorem putRow_row {e : TypeId} (hk : ∀ x, (enc x).length = k) (hk0 : 0 < k) {w : World} {bk o cap : Nat} {L M : List α} (h : GR e enc k w (.slice (some ⟨bk, o, none⟩) L.length cap) L) (hn : 0 < L.length) (hl : M.length = L.length) (n : Nat) :
    GR e enc k (putRowK enc k (Sort.ahead w n) bk o M.toArray) (.slice (some ⟨bk, o, none⟩) M.length cap) M ∧ Ext (fun k => k = bk) w (putRowK enc k (Sort.ahead w n) bk o M.toArray) := by
  obtain ⟨g', o', cap', cur, hv, hh, h1, h2, h3, h4⟩ := GR.lst h hn
  injection hv with e1 e2 e3
  injection e1 with e1
  injection e1 with e1 e4
  subst e1; subst e4; subst e3
  have hlt := blk_lt' hh
  have hfl := flatG_length hk M
  have hcap : M.length * k ≤ cap * k := Nat.mul_le_mul_right k (by omega)
  have hb : (putRowK enc k (Sort.ahead w n) bk o M.toArray).heap[bk]? = some (.cells (putCells id o (flatG enc M).toArray cur) e (0, 0)) := by
    show (w.heap.modify bk (onCells (putCells id o (flatK enc k M.toArray))))[bk]? = _
    rw [Array.getElem?_modify, if_pos rfl, hh, flatK_flatG hk hk0]
    rfl
  refine ⟨⟨hfl, .inr ⟨bk, o, cap, _, rfl, hb, by omega, h2, by simpa [putCells] using h3, fun j hj => ?_⟩⟩, rfl, rfl, rfl, ?_, fun q hq hne => ?_⟩
  · have hjc : o + j < cur.size := by omega
    simp only [putCells, Array.getElem?_mapIdx, Array.getElem?_eq_getElem hjc, Option.map_some, List.size_toArray]
    rw [if_pos (by omega), show o + j - o = j by omega]
    rw [getElem!_pos (flatG enc M).toArray j (by simpa using hj), List.getElem?_eq_getElem hj]
    rfl
  · show w.heap.size ≤ (w.heap.modify bk _).size
    simp
  · show (w.heap.modify bk _)[q]? = _
    rw [Array.getElem?_modify, if_neg (fun e => hne e.symm)]
theorem GR.holds {e : TypeId} (hk : ∀ x, (enc x).length = k) (hk0 : 0 < k) {w : World} {bk o cap : Nat} {L : List α} (h : GR e enc k w (.slice (some ⟨bk, o, none⟩) L.length cap) L) (hn : 0 < L.length) : HoldsK enc k w bk o L.toArray := by
  intro j hj
  rw [flatK_flatG hk hk0] at hj ⊢
  obtain ⟨g', o', cap', hv, q1, q2, q3, q4⟩ := QRow.form h hn
  injection hv with e1 e2 e3
  injection e1 with e1
  injection e1 with e1 e4
  subst e1; subst e4; subst e3
  have hj' : j < (flatG enc L).length := by simpa using hj
  refine ⟨?_, q4 _⟩
  rw [q3 j (by rw [flatG_length hk] at hj'; exact hj'), getElem!_pos (flatG enc L).toArray j hj, List.getElem?_eq_getElem hj']
  rfl
end
theorem agg45 (w : World) : (isAgg 45).run Try.prog w = .ok true w := by kernel_rfl
theorem sz45 (w : World) : (Go.sizeOf 45).run Try.prog w = .ok 43 w := by kernel_rfl
theorem reverse33 (bk o cap : Nat) (L : List Hp) (w : World) (h : HR w (.slice (some ⟨bk, o, none⟩) L.length cap) L) (hn : 0 < L.length) (hlen : L.length ≤ 1000) :
    Calls Try.prog 33 #[.slice (some ⟨bk, o, none⟩) L.length cap] w fun e w' => e = .returned (.tuple #[]) ∧ HR w' (.slice (some ⟨bk, o, none⟩) L.reverse.length cap) L.reverse ∧ Ext (fun k => k = bk) w w' := by
  have hs : Calls Try.prog 33 #[.slice (some ⟨bk, o, none⟩) L.length cap] w fun e w' => e = .returned (.tuple #[]) ∧ ∃ n, w' = putRowK hc 43 (Sort.ahead w n) bk o L.toArray.reverse :=
    AnyQ.slices_Reverse (P := Try.prog) (ρ := Try.revL_ren) Try.revL 43 agg45 sz45 hc hc_len hc_one bk o cap L.toArray w (GR.holds hc_len (by decide) h hn) (by simp; omega)
  refine hs.mono fun e w' ⟨he, n, hw⟩ => ⟨he, ?_⟩
  subst hw
  have := putRow_row hc_len (by decide) h hn (M := L.reverse) (by simp) n
  simpa using this
end Go.Proofs.Ytdibjnlmeiikmaa
