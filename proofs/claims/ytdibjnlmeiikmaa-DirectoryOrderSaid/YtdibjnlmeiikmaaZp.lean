/-
  The same nodes in another order: Route's answer is the same.
-/
import Derived.Test.YtdibjnlmeiikmaaZo
set_option linter.unusedVariables false
set_option linter.unusedSimpArgs false
namespace Go.Proofs.Ytdibjnlmeiikmaa
open Go.RowKit Go.Proofs

theorem Hp.ext' {a b : Hp} (h1 : a.key = b.key) (h2 : a.cmd = b.cmd) : a = b := by
  cases a; cases b; simp at h1 h2; subst h1; subst h2; rfl
theorem inLay_rev (L : List Nd) (k : Int) : inLay L.reverse k = (inLay L k).reverse := by
  unfold inLay; rw [List.filter_reverse]
theorem bare_rev (l : Int) (L : List Nd) : bare l L.reverse ↔ bare l L := by
  unfold bare
  simp only [inLay_rev, List.reverse_eq_nil_iff]
theorem ids_rev (L : List Nd) : (ids L.reverse).Nodup ↔ (ids L).Nodup := by
  unfold ids
  unfold List.Nodup
  rw [List.map_reverse, List.pairwise_reverse]
  exact ⟨fun h => h.imp (fun h e => h e.symm), fun h => h.imp (fun h e => h e.symm)⟩
theorem chk_rev (l : Int) (L : List Nd) : chk l L.reverse = chk l L := by
  unfold chk
  rw [List.any_reverse, List.any_reverse]
  simp only [ids_rev, bare_rev]
theorem short_rev {α : Type} (F : List α) (h : F.length ≤ 1) : F.reverse = F := by
  match F, h with
  | [], _ => rfl
  | [_], _ => rfl
theorem layP_rev {L : List Nd} (h : (ids L).Nodup) (k : Int) : ∀ q, layP L.reverse k q = layP L k q
  | 0 => rfl
  | q + 1 => by
    rw [layP_succ, layP_succ, layP_rev h k q, List.filter_reverse, short_rev _ (one_id h q k)]
theorem layL_rev {L : List Nd} (h : (ids L).Nodup) (k : Int) : layL L.reverse k = layL L k := layP_rev h k 16
theorem ans_rev (l pv : Int) (L : List Nd) (m : Cm) (D : List Int) : ansE l pv L.reverse m D.length = ansE l pv L m D.length ∧ ansH l pv L.reverse m D = ansH l pv L m D ∧ ansF l pv L.reverse m D = ansF l pv L m D := by
  by_cases hE : chk l L = 0
  · have hn := (chk_good hE).nd
    have e1 : ansE l pv L.reverse m D.length = ansE l pv L m D.length := by unfold ansE; rw [chk_rev, layL_rev hn]
    have e2 : provN l pv L.reverse = provN l pv L := by unfold provN; rw [layL_rev hn]
    have e3 : ∀ k, pickN L.reverse D k = pickN L D k := fun k => by unfold pickN; rw [layL_rev hn]
    have e4 : ∀ K e k, nodeAt K L.reverse D e k = nodeAt K L D e k := fun K e k => by unfold nodeAt; rw [e3]
    have e5 : ∀ K e k, hopAt K L.reverse D e m k = hopAt K L D e m k := fun K e k => by
      unfold hopAt
      by_cases h : k + 1 = K
      · rw [if_pos h, if_pos h]
      · rw [if_neg h, if_neg h]
        refine Hp.ext' ?_ ?_
        · show (pickN L.reverse D k).key = (pickN L D k).key
          rw [e3]
        · show fwd (nodeAt K L.reverse D e (k + 1)).id _ = fwd (nodeAt K L D e (k + 1)).id _
          rw [e4]
    refine ⟨e1, ?_, ?_⟩
    · unfold ansH
      rw [e1, e2]
      have : hopAt l.toNat L.reverse D (provN l pv L) m = hopAt l.toNat L D (provN l pv L) m := funext fun k => e5 _ _ k
      rw [this]
    · unfold ansF
      rw [e1, e2, e4]
  · have e1 : ansE l pv L.reverse m D.length = ansE l pv L m D.length := by unfold ansE; rw [chk_rev, if_neg hE, if_neg hE]
    have e2 : ansE l pv L m D.length ≠ 0 := by unfold ansE; rw [if_neg hE]; exact hE
    refine ⟨e1, ?_, ?_⟩
    · unfold ansH; rw [e1, if_neg e2, if_neg e2]
    · unfold ansF; rw [e1, if_neg e2, if_neg e2]
/-- The nodes, i of them already from the end. -/
def rvP (L : List Nd) (i : Nat) : List Nd := L.reverse.take i ++ L.drop i
theorem rvP_0 (L : List Nd) : rvP L 0 = L := by simp [rvP]
theorem rvP_n (L : List Nd) : rvP L L.length = L.reverse := by
  unfold rvP
  rw [List.drop_length, List.append_nil, List.take_of_length_le (by simp)]
theorem rvP_len {L : List Nd} {i : Nat} (h : i ≤ L.length) : (rvP L i).length = L.length := by
  unfold rvP; simp; omega
theorem rvP_set {L : List Nd} {i : Nat} (h : i < L.length) : (rvP L i).set i (L[L.length - 1 - i]) = rvP L (i + 1) := by
  have h1 : L.reverse.take (i + 1) = L.reverse.take i ++ [L[L.length - 1 - i]] := by
    rw [List.take_succ_eq_append_getElem (by simp; omega), List.getElem_reverse]
  have h2 : L.drop i = L[i] :: L.drop (i + 1) := by rw [List.drop_eq_getElem_cons h]
  unfold rvP
  rw [h1, h2, List.set_append, if_neg (by simp; omega)]
  have h3 : i - (L.reverse.take i).length = 0 := by simp; omega
  rw [h3, List.set_cons_zero, List.append_assoc]
  rfl
end Go.Proofs.Ytdibjnlmeiikmaa
