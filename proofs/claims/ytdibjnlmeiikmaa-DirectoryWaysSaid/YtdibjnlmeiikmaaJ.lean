/-
  Nodes, and rows of them.
-/
import Derived.Test.YtdibjnlmeiikmaaI
set_option linter.unusedVariables false
set_option linter.unusedSimpArgs false
namespace Go.Proofs.Ytdibjnlmeiikmaa
open Go.RowKit

/-- A node. -/
structure Nd where
  id : Int
  key : List Int
  lay : Int
  len : key.length = 32
instance : Inhabited Nd := ⟨⟨0, Zk, 0, rfl⟩⟩
theorem Nd.ext' {a b : Nd} (h1 : a.id = b.id) (h2 : a.key = b.key) (h3 : a.lay = b.lay) : a = b := by
  cases a; cases b; simp_all
def nc (n : Nd) : List Value := .int .i64 n.id :: (bys n.key ++ [.int .i64 n.lay])
theorem nc_len (n : Nd) : (nc n).length = 34 := by simp [nc, bys_length, n.len]
theorem nc_one (n : Nd) : ∀ u ∈ nc n, u.oneCell' = true := by
  intro u hu
  rcases List.mem_cons.1 hu with rfl | hu
  · rfl
  · rcases List.mem_append.1 hu with hu | hu
    · exact bys_one _ u hu
    · simp at hu; subst hu; rfl
theorem nc_inj {a b : Nd} (h : nc a = nc b) : a = b := by
  unfold nc at h
  injection h with h1 h2
  injection h1 with _ h1
  have hl : (bys a.key).length = (bys b.key).length := by rw [bys_length, bys_length, a.len, b.len]
  obtain ⟨h3, h4⟩ := List.append_inj h2 hl
  have hb : ∀ {x y : List Int}, bys x = bys y → x = y := by
    intro x
    induction x with
    | nil => intro y hy; cases y with | nil => rfl | cons a l => simp [bys] at hy
    | cons a l ih => intro y hy; cases y with
      | nil => simp [bys] at hy
      | cons c m => simp only [bys, List.map_cons, List.cons.injEq] at hy; obtain ⟨hy1, hy2⟩ := hy; injection hy1 with _ hy1; rw [hy1, ih hy2]
  injection h4 with h4 _
  injection h4 with _ h4
  exact Nd.ext' h1 (hb h3) h4
/-- Its numbers are such as may be. -/
structure NdOk (n : Nd) : Prop where
  id : (Lit.int .i64 n.id).wf = true
  lay : (Lit.int .i64 n.lay).wf = true
  key : ∀ x ∈ n.key, 0 ≤ x ∧ x ≤ 255
theorem NdOk.ky {n : Nd} (h : NdOk n) : Ky n.key := ⟨n.len, h.key⟩
def flatN (L : List Nd) : List Value := L.flatMap nc
theorem flatN_length (L : List Nd) : (flatN L).length = L.length * 34 := by
  induction L with
  | nil => rfl
  | cons x xs ih =>
    have h1 := nc_len x
    simp only [flatN, List.flatMap_cons, List.length_append, List.length_cons] at ih h1 ⊢
    omega
theorem flatN_append (a b : List Nd) : flatN (a ++ b) = flatN a ++ flatN b := by simp [flatN]
theorem flatN_one (L : List Nd) : ∀ u ∈ flatN L, u.oneCell' = true := by
  intro u hu
  obtain ⟨x, _, hx⟩ := List.mem_flatMap.1 hu
  exact nc_one x u hx
theorem flatN_at : ∀ (L : List Nd) (i c : Nat), c < 34 → i < L.length → (flatN L)[i * 34 + c]? = (L[i]?).bind fun e => (nc e)[c]?
  | [], i, c, hc, hi => by simp at hi
  | x :: xs, 0, c, hc, hi => by
    have h1 := nc_len x
    simp only [flatN, List.flatMap_cons, Nat.zero_mul, Nat.zero_add, List.getElem?_cons_zero, Option.bind_some]
    rw [List.getElem?_append_left (by omega)]
  | x :: xs, i + 1, c, hc, hi => by
    have h1 := nc_len x
    simp only [flatN, List.flatMap_cons, List.getElem?_cons_succ]
    rw [List.getElem?_append_right (by omega)]
    have := flatN_at xs i c hc (by simp at hi; omega)
    simp only [flatN] at this
    rw [← this]
    congr 1
    omega
theorem Ext.range {F : Nat → Prop} {w w' : World} (h : Ext F w w') {g o : Nat} {cs : List Value} (hr : w.rangeAt g o cs) (hF : ¬ F g) : w'.rangeAt g o cs := fun j v hv => h.cell (hr j v hv) hF
/-- A slice's cells are these nodes (a slice that is read). -/
structure NRd (w : World) (A : Option Addr) (c : Nat) (L : List Nd) : Prop where
  at' : ∀ i (hi : i < L.length), ∃ b o, A = some ⟨b, o, none⟩ ∧ b < w.heap.size ∧ w.rangeAt b (o + i * 34) (nc L[i])
  cap : L.length ≤ c ∧ c ≤ maxLen
theorem NRd.ext {F : Nat → Prop} {w w' : World} {A : Option Addr} {c : Nat} {L : List Nd} (h : NRd w A c L) (hx : Ext F w w') (hF : ∀ b o, A = some ⟨b, o, none⟩ → ¬ F b) : NRd w' A c L := ⟨fun i hi => by
  obtain ⟨b, o, h1, h2, h3⟩ := h.at' i hi
  exact ⟨b, o, h1, Nat.lt_of_lt_of_le h2 hx.size, hx.range h3 (hF b o h1)⟩, h.cap⟩
/-- A row of nodes. -/
abbrev NR (w : World) (v : Value) (L : List Nd) : Prop := QRow w 50 34 v L.length (flatN L)
theorem NR.rd {w : World} {A : Option Addr} {c : Nat} {L : List Nd} (h : NR w (.slice A L.length c) L) : NRd w A c L := by
  refine ⟨fun i hi => ?_, ?_⟩
  · obtain ⟨g, o, cap', hv, _, _, hc, _⟩ := QRow.form h (by omega)
    injection hv with hv1 _ _
    have hr : w.rangeAt g (o + i * 34) (nc L[i]) := fun j v hj => by
      have hjl : j < 34 := by have := (List.getElem?_eq_some_iff.1 hj).1; rw [nc_len] at this; exact this
      rw [Nat.add_assoc, hc _ (by omega), flatN_at L i j hjl hi, List.getElem?_eq_getElem hi]
      exact hj
    exact ⟨g, o, hv1, World.block_lt_of_cell? _ _ (hr 0 _ rfl), hr⟩
  · obtain ⟨A', c', hv, h1, h2, _⟩ := QRow.slice h
    injection hv with _ _ hv
    subst hv
    exact ⟨h1, h2⟩
theorem nd_id {w : World} {g o : Nat} {n : Nd} (h : w.rangeAt g o (nc n)) : w.cell? ⟨g, o, none⟩ = some (.int .i64 n.id) := h 0 _ rfl
theorem nd_lay {w : World} {g o : Nat} {n : Nd} (h : w.rangeAt g o (nc n)) : w.cell? ⟨g, o + 33, none⟩ = some (.int .i64 n.lay) := h 33 _ (by
  unfold nc
  rw [List.getElem?_cons_succ, List.getElem?_append_right (by rw [bys_length, n.len]; exact Nat.le_refl _)]
  simp [bys_length, n.len])
theorem nd_key {w : World} {g o : Nat} {n : Nd} (h : w.rangeAt g o (nc n)) : w.rangeAt g (o + 1) (bys n.key) := fun j v hj => by
  have hjl := (List.getElem?_eq_some_iff.1 hj).1
  have := h (j + 1) v (by unfold nc; rw [List.getElem?_cons_succ, List.getElem?_append_left hjl]; exact hj)
  rw [Nat.add_assoc, Nat.add_comm 1 j]
  exact this
theorem nd_box {w : World} {g : Nat} {cs : List Value} {e : TypeId} {fr : Nat × Nat} (h : w.heap[g]? = some (.cells cs.toArray e fr)) : w.rangeAt g 0 cs := fun j v hv => by
  rw [cellOf h, Nat.zero_add, List.getElem?_toArray]; exact hv
theorem Try.size50 : (Try.prog.info? 50).map (·.size) = some 34 := by kernel_rfl
theorem sizeNd (n : Nd) : (Try.prog.info? 50).map (·.size) = some (nc n).length := by rw [nc_len]; exact Try.size50
end Go.Proofs.Ytdibjnlmeiikmaa
