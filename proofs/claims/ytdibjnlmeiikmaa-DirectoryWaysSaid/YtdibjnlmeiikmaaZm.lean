/-
  Plain facts for DirectoryAll; Route at eight drawn bytes.
-/
import Derived.Test.YtdibjnlmeiikmaaZk
set_option linter.unusedVariables false
set_option linter.unusedSimpArgs false
namespace Go.Proofs.Ytdibjnlmeiikmaa
open Go.RowKit Go.Proofs

theorem one_id {L : List Nd} (h : (ids L).Nodup) (q l : Int) : (L.filter (fun n => decide (n.id = q ∧ n.lay = l))).length ≤ 1 := by
  have hs : (ids (L.filter (fun n => decide (n.id = q ∧ n.lay = l)))).Nodup := by
    unfold ids at h ⊢
    exact h.sublist (List.Sublist.map _ (List.filter_sublist))
  have ha : ∀ n ∈ L.filter (fun n => decide (n.id = q ∧ n.lay = l)), n.id = q := fun n hn => by
    have := (List.mem_filter.1 hn).2
    simp only [decide_eq_true_eq] at this
    exact this.1
  generalize L.filter (fun n => decide (n.id = q ∧ n.lay = l)) = F at hs ha ⊢
  match F, hs, ha with
  | [], _, _ => simp
  | [_], _, _ => simp
  | a :: b :: r, hs, ha =>
    exfalso
    have e1 := ha a (by simp)
    have e2 := ha b (by simp)
    unfold ids at hs
    simp only [List.map_cons, List.nodup_cons, List.mem_cons] at hs
    exact hs.1 (.inl (by rw [e1, e2]))
theorem layP_one {L : List Nd} (h : (ids L).Nodup) (l : Int) : ∀ q, (layP L l q).length ≤ q
  | 0 => by simp [layP]
  | q + 1 => by
    rw [layP_succ, List.length_append]
    have := layP_one h l q
    have := one_id h q l
    omega
theorem layL_16 {L : List Nd} (h : (ids L).Nodup) (l : Int) : (layL L l).length ≤ 16 := layP_one h l 16
/-- The draw that goes through a node. -/
theorem pick_hit {l : Int} {L : List Nd} (hg : Good l L) {n : Nd} (hn : n ∈ L) {k : Nat} (hk : n.lay = (k : Int)) :
    ∃ q : Nat, q < 16 ∧ ∀ D : List Int, D.getD (2 * k) 0 = (q : Int) → pickN L D k = n := by
  have hm : n ∈ layL L (k : Int) := mem_layL.2 ⟨hn, hk, (hg.plc n hn).1, (hg.plc n hn).2.1⟩
  obtain ⟨q, hq, he⟩ := List.mem_iff_getElem.1 hm
  refine ⟨q, Nat.lt_of_lt_of_le hq (layL_16 hg.nd k), fun D hD => ?_⟩
  unfold pickN
  rw [hD, Int.toNat_natCast, Nat.mod_eq_of_lt hq, List.getD_eq_getElem?_getD, List.getElem?_eq_getElem hq, he]
  rfl
theorem idx_at {p : Nd → Bool} : ∀ (L : List Nd) (k : Nat), (∃ n ∈ L, p n = true) → ∃ i : Nat, i < L.length ∧ idxF p L k = ((k + i : Nat) : Int)
  | [], _, h => by obtain ⟨n, hn, _⟩ := h; cases hn
  | m :: L, k, h => by
    unfold idxF
    by_cases hp : p m = true
    · rw [if_pos hp]; exact ⟨0, by simp, by simp⟩
    · rw [if_neg hp]
      obtain ⟨i, hi, he⟩ := idx_at L (k + 1) (by
        obtain ⟨n, hn, h2⟩ := h
        rcases List.mem_cons.1 hn with rfl | hn
        · exact absurd h2 hp
        · exact ⟨n, hn, h2⟩)
      exact ⟨i + 1, by simp; omega, by rw [he]; congr 1; omega⟩
theorem idx_none {p : Nd → Bool} : ∀ (L : List Nd) (k : Nat), (∀ n ∈ L, p n = false) → idxF p L k = -1
  | [], _, _ => rfl
  | m :: L, k, h => by
    unfold idxF
    rw [if_neg (by rw [h m (by simp)]; decide)]
    exact idx_none L (k + 1) (fun n hn => h n (by simp [hn]))
theorem idx_hit {pv : Int} : ∀ (L : List Nd) (k i : Nat) (hi : i < L.length), idxF (prv pv) L k = ((k + i : Nat) : Int) → L[i].id = pv
  | [], _, i, hi, _ => absurd hi (by simp)
  | m :: L, k, i, hi, h => by
    unfold idxF at h
    by_cases hp : prv pv m = true
    · rw [if_pos hp] at h
      obtain rfl : i = 0 := by omega
      exact of_decide_eq_true hp
    · rw [if_neg hp] at h
      cases i with
      | zero =>
        exfalso
        by_cases hx : ∃ n ∈ L, prv pv n = true
        · obtain ⟨j, hj, he⟩ := idx_at L (k + 1) hx
          rw [he] at h; omega
        · have : idxF (prv pv) L (k + 1) = -1 := idx_none L (k + 1) (fun n hn => by
            cases hq : prv pv n with
            | true => exact absurd ⟨n, hn, hq⟩ hx
            | false => rfl)
          rw [this] at h; omega
      | succ i =>
        exact idx_hit L (k + 1) i (by simpa using hi) (by rw [h]; congr 1; omega)
/-- Eight bytes, one of them x. -/
def D8 (k : Nat) (x : Int) : List Int := (List.replicate 8 (0 : Int)).set (2 * k) x
theorem D8_len (k : Nat) (x : Int) : (D8 k x).length = 8 := by simp [D8]
theorem D8_at {k : Nat} (hk : k < 4) (x : Int) : (D8 k x).getD (2 * k) 0 = x := by
  unfold D8
  rw [List.getD_eq_getElem?_getD, List.getElem?_set_self (by simp; omega)]
  rfl
theorem D8_mem {k : Nat} {x : Int} (hx : 0 ≤ x ∧ x ≤ 255) : ∀ y ∈ D8 k x, 0 ≤ y ∧ y ≤ 255 := fun y hy => by
  rcases List.mem_or_eq_of_mem_set hy with h | rfl
  · have := List.eq_of_mem_replicate h; omega
  · exact hx
theorem dr_box {w : World} {g : Nat} {e : TypeId} {D : List Int} (h : w.heap[g]? = some (.cells (bys D).toArray e (0, 0))) (hl : D.length ≤ 1000) (hD : ∀ x ∈ D, 0 ≤ x ∧ x ≤ 255) : Dr w (some ⟨g, 0, none⟩) D.length D := by
  refine ⟨fun i hi => ⟨g, 0, rfl, blk_lt' h, ?_, ?_⟩, Nat.le_refl _, by unfold maxLen; omega⟩
  · rw [Nat.zero_add, cellOf h]
    rw [List.getElem?_toArray, List.getD_eq_getElem?_getD, List.getElem?_eq_getElem hi]
    unfold bys
    rw [List.getElem?_map, List.getElem?_eq_getElem hi]
    rfl
  · rw [List.getD_eq_getElem?_getD, List.getElem?_eq_getElem hi]
    exact hD _ (List.getElem_mem hi)
/-- Route at a good directory and a provider that is there. -/
theorem route_good (K : Nat) (pv : Int) (A DA : Option Addr) (c dc : Nat) (L : List Nd) (D : List Int) (m : Cm) (w : World) (hr : NRd w A c L) (hok : ∀ n ∈ L, NdOk n) (hlen : L.length ≤ 1000) (hE : chk (K : Int) L = 0) (hM : mayC m = true) (hK : m.kind ≠ 1)
    (hp : ∃ n ∈ layL L ((K : Int) - 1), n.id = pv) (hS : ¬ (D.length : Int) < 2 * ((K : Int) - 1)) (hD : Dr w DA dc D) :
    ∃ e ∈ layL L ((K : Int) - 1), e.id = pv ∧ Calls Try.prog 12 #[dirv (K : Int) A L.length c, .int .i64 pv, .agg (cc m).toArray, .slice DA D.length dc] w fun e' w' => ∃ A' c', e' = .returned (.tuple #[.int .i64 (nodeAt K L D e 0).id, .slice A' K c', .int .i64 0]) ∧ QRow w' 45 43 (.slice A' K c') K (flatG hc ((List.range K).map (hopAt K L D e m))) ∧ Ext NoB w w' := by
  obtain ⟨i0, hi0, hI⟩ := idx_at (p := prv pv) (layL L ((K : Int) - 1)) 0 (by obtain ⟨n, hn, h⟩ := hp; exact ⟨n, hn, by unfold prv; exact decide_eq_true h⟩)
  rw [Nat.zero_add] at hI
  refine ⟨(layL L ((K : Int) - 1))[i0], List.getElem_mem hi0, ?_, route_ok K pv A DA c dc i0 L D m w hr hok hlen hE hM hK hI hi0 hS hD _ rfl⟩
  exact idx_hit (layL L ((K : Int) - 1)) 0 i0 hi0 (by rw [Nat.zero_add]; exact hI)
end Go.Proofs.Ytdibjnlmeiikmaa
