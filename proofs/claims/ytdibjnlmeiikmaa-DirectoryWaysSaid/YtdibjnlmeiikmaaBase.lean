/-
  Plain words on worlds for the proofs of this seat: what a call may have changed ('Ext'), slices that begin anywhere in their block ('QRow'), slices of bytes that are read ('Bytes'), and laws on append over them. No program is named here; nothing is assumed.
-/
import Derived.WalkKit
import Derived.WalkLawsBesides
import Derived.Lib.Hide
import Derived.WalkSpells
import Derived.Deep.QuietTactic
import Derived.BigQuiet
import Derived.Deep.RegionLaw
import Derived.Outline
import Derived.Deep.Draws
set_option linter.unusedVariables false
namespace Go.Proofs.Ytdibjnlmeiikmaa
open Go.RowKit

/-! ### 1. What a call may have changed: the blocks of 'F', and new ones -/
structure Ext (F : Nat → Prop) (w w' : World) : Prop where
  os : w'.os = w.os
  tape : w'.tape = w.tape
  output : w'.output = w.output
  size : w.heap.size ≤ w'.heap.size
  block : ∀ k, k < w.heap.size → ¬ F k → w'.heap[k]? = w.heap[k]?

def NoB : Nat → Prop := fun _ => False
theorem Ext.refl (F : Nat → Prop) (w : World) : Ext F w w := ⟨rfl, rfl, rfl, Nat.le_refl _, fun _ _ _ => rfl⟩
theorem Ext.mono {F G : Nat → Prop} {w w' : World} (h : Ext F w w') (hG : ∀ k, k < w.heap.size → F k → G k) : Ext G w w' :=
  ⟨h.os, h.tape, h.output, h.size, fun k hk hg => h.block k hk fun hf => hg (hG k hk hf)⟩
theorem Ext.trans {F G H : Nat → Prop} {a b c : World} (h : Ext F a b) (k : Ext G b c) (hF : ∀ i, i < a.heap.size → F i → H i) (hG : ∀ i, i < a.heap.size → G i → H i) : Ext H a c :=
  ⟨k.os.trans h.os, k.tape.trans h.tape, k.output.trans h.output, Nat.le_trans h.size k.size,
   fun i hi hn => (k.block i (Nat.lt_of_lt_of_le hi h.size) fun hg => hn (hG i hi hg)).trans (h.block i hi fun hf => hn (hF i hi hf))⟩
theorem Ext.then {F : Nat → Prop} {a b c : World} (h : Ext F a b) (k : Ext F b c) : Ext F a c := h.trans k (fun _ _ h => h) (fun _ _ h => h)
theorem Ext.drew (F : Nat → Prop) (w : World) : Ext F w w.drew := ⟨rfl, rfl, rfl, Nat.le_refl _, fun _ _ _ => rfl⟩
theorem Ext.drewN (F : Nat → Prop) (w : World) (n : Nat) : Ext F w (w.drewN n) := ⟨rfl, rfl, rfl, Nat.le_refl _, fun _ _ _ => rfl⟩
theorem Ext.alloc (F : Nat → Prop) (w : World) (o : Obj) : Ext F w (w.alloc o) := ⟨rfl, rfl, rfl, by simp, fun k hk _ => Below.heap_alloc _ _ _ hk⟩
theorem Ext.setCell {F : Nat → Prop} (w : World) (p : Addr) (v : Value) (hp : p.block < w.heap.size → F p.block) : Ext F w (w.setCell p v) :=
  ⟨rfl, rfl, rfl, by simp [World.setCell], fun k hk hn => Below.heap_setCell _ _ _ _ fun e => hn (by rw [e]; exact hp (by rw [← e]; exact hk))⟩
theorem Ext.andAlloc {F : Nat → Prop} {a w : World} (h : Ext F a w) (o : Obj) : Ext F a (w.alloc o) := h.then (Ext.alloc F w o)
theorem Ext.andDrew {F : Nat → Prop} {a w : World} (h : Ext F a w) : Ext F a w.drew := h.then (Ext.drew F w)
theorem Ext.andDrewN {F : Nat → Prop} {a w : World} (h : Ext F a w) (n : Nat) : Ext F a (w.drewN n) := h.then (Ext.drewN F w n)
theorem Ext.andSet {F : Nat → Prop} {a w : World} (h : Ext F a w) (p : Addr) (v : Value) (hp : p.block < a.heap.size → F p.block) : Ext F a (w.setCell p v) :=
  ⟨h.os, h.tape, h.output, by simpa [World.setCell] using h.size, fun k hk hn => by
    rw [Below.heap_setCell _ _ _ _ fun e => hn (by rw [e]; exact hp (by rw [← e]; exact hk))]
    exact h.block k hk hn⟩
theorem Ext.below {F : Nat → Prop} {w w' : World} {B : Nat} (h : Ext F w w') (hB : B ≤ w.heap.size) (hF : ∀ k, F k → B ≤ k) : Below B w w' :=
  ⟨h.os, h.tape, h.output, h.size, fun k hk => h.block k (Nat.lt_of_lt_of_le hk hB) fun hf => absurd (hF k hf) (by omega)⟩
theorem Ext.ofBelow {w w' : World} (h : Below w.heap.size w w') (F : Nat → Prop) : Ext F w w' := ⟨h.os, h.tape, h.output, h.size, fun k hk _ => h.block k hk⟩
theorem Ext.ofGrown {w w' : World} {row : Option Nat} (h : w.grownBy w' row) : Ext (fun k => row = some k) w w' :=
  ⟨h.os, h.tape, h.output, h.size, fun k hk hn => h.block k hk fun e => hn e.symm⟩
theorem Ext.toGrown {F : Nat → Prop} {w w' : World} (h : Ext F w w') (row : Option Nat) (hF : ∀ k, F k → row = some k) : w.grownBy w' row :=
  ⟨h.os, h.tape, h.output, h.size, fun k hk hn => h.block k hk fun hf => hn (hF k hf).symm⟩
theorem Ext.cellAt {F : Nat → Prop} {w w' : World} (h : Ext F w w') {p : Addr} (hp : p.block < w.heap.size) (hn : ¬ F p.block) : w'.cell? p = w.cell? p := World.cell?_of_block (w := w) (h.block _ hp hn)
theorem Ext.frozenAt {F : Nat → Prop} {w w' : World} (h : Ext F w w') {p : Addr} (hp : p.block < w.heap.size) (hn : ¬ F p.block) : w'.frozen? p = w.frozen? p := World.frozen?_of_block (w := w) (h.block _ hp hn)
theorem Ext.cell {F : Nat → Prop} {w w' : World} (h : Ext F w w') {p : Addr} {v : Value} (hc : w.cell? p = some v) (hn : ¬ F p.block) : w'.cell? p = some v :=
  (h.cellAt (World.block_lt_of_cell? w p hc) hn).trans hc
theorem blk_lt' {w : World} {g : Nat} {o : Obj} (h : w.heap[g]? = some o) : g < w.heap.size := (Array.getElem?_eq_some_iff.1 h).1
theorem Ext.obj {F : Nat → Prop} {w w' : World} (h : Ext F w w') {g : Nat} {o : Obj} (hc : w.heap[g]? = some o) (hn : ¬ F g) : w'.heap[g]? = some o := (h.block g (blk_lt' hc) hn).trans hc

/-! ### 2. A block known whole -/
theorem cellOf {w : World} {g : Nat} {cur : Array Value} {e : TypeId} {fr : Nat × Nat} (h : w.heap[g]? = some (.cells cur e fr)) (j : Nat) : w.cell? ⟨g, j, none⟩ = cur[j]? := by simp [World.cell?, h]
theorem freeOf {w : World} {g : Nat} {cur : Array Value} {e : TypeId} (h : w.heap[g]? = some (.cells cur e (0, 0))) (j : Nat) : w.frozen? ⟨g, j, none⟩ = false := by simp [World.frozen?, h]
theorem heapSet {w : World} {g : Nat} {cur : Array Value} {e : TypeId} {fr : Nat × Nat} (h : w.heap[g]? = some (.cells cur e fr)) (j : Nat) (v : Value) : (w.setCell ⟨g, j, none⟩ v).heap[g]? = some (.cells (cur.setIfInBounds j v) e fr) := by
  simp [World.setCell, Array.getElem?_modify, h]
theorem heapSetNe {w : World} {g : Nat} {a : Addr} (v : Value) (h : g ≠ a.block) : (w.setCell a v).heap[g]? = w.heap[g]? := Below.heap_setCell _ _ _ _ h
theorem heapDrew (w : World) (g : Nat) : (w.drew).heap[g]? = w.heap[g]? := rfl
theorem heapDrewN (w : World) (n g : Nat) : (w.drewN n).heap[g]? = w.heap[g]? := rfl
theorem heapAlloc (w : World) (o : Obj) (g : Nat) (h : g < w.heap.size) : (w.alloc o).heap[g]? = w.heap[g]? := Below.heap_alloc _ _ _ h
theorem heapNew (w : World) (o : Obj) : (w.alloc o).heap[w.heap.size]? = some o := by show (w.heap.push o)[w.heap.size]? = _; simp
theorem sizeSet (w : World) (a : Addr) (v : Value) : (w.setCell a v).heap.size = w.heap.size := by simp [World.setCell]

theorem setCells_far' {g : Nat} : ∀ (vs : List Value) (o : Nat) {w : World} (k : Nat), k ≠ g → (w.setCells g o vs).heap[k]? = w.heap[k]?
  | [], _, _, _, _ => rfl
  | v :: vs, o, w, k, hk => by
    show ((w.setCell ⟨g, o, none⟩ v).setCells g (o + 1) vs).heap[k]? = _
    rw [setCells_far' vs (o + 1) k hk, heapSetNe _ hk]
theorem setCells_same' (g : Nat) : ∀ (vs : List Value) (o : Nat) (w : World), (w.setCells g o vs).os = w.os ∧ (w.setCells g o vs).tape = w.tape ∧ (w.setCells g o vs).output = w.output ∧ (w.setCells g o vs).heap.size = w.heap.size
  | [], _, _ => ⟨rfl, rfl, rfl, rfl⟩
  | v :: vs, o, w => by
    obtain ⟨h1, h2, h3, h4⟩ := setCells_same' g vs (o + 1) (w.setCell ⟨g, o, none⟩ v)
    exact ⟨h1, h2, h3, h4.trans (sizeSet _ _ _)⟩
theorem setCells_row' {g : Nat} {e : TypeId} : ∀ (vs : List Value) (o : Nat) (w : World) (cur : Array Value), w.heap[g]? = some (.cells cur e (0, 0)) → o + vs.length ≤ cur.size →
    ∃ cur', (w.setCells g o vs).heap[g]? = some (.cells cur' e (0, 0)) ∧ cur'.size = cur.size ∧ ∀ j, cur'[j]? = if o ≤ j ∧ j < o + vs.length then vs[j - o]? else cur[j]?
  | [], o, w, cur, h, _ => ⟨cur, h, rfl, fun j => by rw [if_neg (by simp)]⟩
  | v :: vs, o, w, cur, h, hl => by
    simp only [List.length_cons] at hl
    obtain ⟨cur', h1, h2, h3⟩ := setCells_row' vs (o + 1) (w.setCell ⟨g, o, none⟩ v) (cur.setIfInBounds o v) (heapSet h o v) (by simp; omega)
    refine ⟨cur', h1, by simpa using h2, fun j => ?_⟩
    rw [h3 j]
    by_cases hj : o = j
    · subst hj
      rw [if_neg (by omega), if_pos (by simp)]
      simp only [Nat.sub_self, List.getElem?_cons_zero]
      rw [Array.getElem?_setIfInBounds_self_of_lt (by omega)]
    · rw [Array.getElem?_setIfInBounds_ne hj]
      by_cases hin : o + 1 ≤ j ∧ j < o + 1 + vs.length
      · rw [if_pos hin, if_pos (by simp only [List.length_cons]; omega), show j - o = (j - (o + 1)) + 1 by omega, List.getElem?_cons_succ]
      · rw [if_neg hin, if_neg (by simp only [List.length_cons]; omega)]

/-! ### 3. A slice that begins anywhere in a block of the call's own -/
def QRow (w : World) (e : TypeId) (size : Nat) (v : Value) (n : Nat) (xs : List Value) : Prop :=
  xs.length = n * size ∧ ((v = .slice none 0 0 ∧ n = 0) ∨
    ∃ g off cap cur, v = .slice (some ⟨g, off, none⟩) n cap ∧ w.heap[g]? = some (.cells cur e (0, 0)) ∧ n ≤ cap ∧ cap ≤ maxLen ∧ off + cap * size ≤ cur.size ∧ ∀ j, j < xs.length → cur[off + j]? = xs[j]?)

theorem QRow.nil (w : World) (e size : Nat) : QRow w e size (.slice none 0 0) 0 [] := ⟨by simp, .inl ⟨rfl, rfl⟩⟩
theorem QRow.ofOwn {w : World} {base e size n : Nat} {v : Value} {xs : List Value} (h : w.ownsRow base e size v n xs) : QRow w e size v n xs := by
  obtain ⟨h1, h2⟩ := h
  refine ⟨h1, ?_⟩
  rcases h2 with h2 | ⟨g, cap, cur, hv, _, hh, hn, hm, hs, ht⟩
  · exact .inl h2
  · refine .inr ⟨g, 0, cap, cur, hv, hh, hn, hm, by omega, fun j hj => ?_⟩
    rw [← ht, List.getElem?_take, if_pos (by omega)]
    simp
theorem QRow.ext {F : Nat → Prop} {w w' : World} {e size n : Nat} {v : Value} {xs : List Value} (h : QRow w e size v n xs) (hx : Ext F w w') (hF : ∀ k, v.ownBlock = some k → ¬ F k) : QRow w' e size v n xs := by
  obtain ⟨h1, h2⟩ := h
  refine ⟨h1, ?_⟩
  rcases h2 with h2 | ⟨g, off, cap, cur, rfl, hh, r⟩
  · exact .inl h2
  · exact .inr ⟨g, off, cap, cur, rfl, hx.obj hh (hF g rfl), r⟩
theorem QRow.lt {w : World} {e size n : Nat} {v : Value} {xs : List Value} (h : QRow w e size v n xs) : ∀ k, v.ownBlock = some k → k < w.heap.size := by
  intro k hk
  rcases h.2 with ⟨rfl, _⟩ | ⟨g, off, cap, cur, rfl, hh, _⟩
  · simp [Value.ownBlock] at hk
  · have : g = k := by simpa [Value.ownBlock] using hk
    subst this; exact blk_lt' hh
/-- Two rows of unlike element types lie in unlike blocks. -/
theorem QRow.ne {w : World} {e e' size size' n n' : Nat} {v v' : Value} {xs xs' : List Value} (h : QRow w e size v n xs) (h' : QRow w e' size' v' n' xs') (hne : e ≠ e') : ∀ k, v.ownBlock = some k → v'.ownBlock ≠ some k := by
  intro k hk hk'
  rcases h.2 with ⟨rfl, _⟩ | ⟨g, off, cap, cur, rfl, hh, _⟩
  · simp [Value.ownBlock] at hk
  rcases h'.2 with ⟨rfl, _⟩ | ⟨g', off', cap', cur', rfl, hh', _⟩
  · simp [Value.ownBlock] at hk'
  have e1 : g = k := by simpa [Value.ownBlock] using hk
  have e2 : g' = k := by simpa [Value.ownBlock] using hk'
  subst e1; subst e2
  rw [hh] at hh'
  injection hh' with hh'
  injection hh' with _ ht
  exact hne ht
theorem QRow.neBlk {w : World} {e e' size n b : Nat} {v : Value} {xs : List Value} {cur : Array Value} {fr : Nat × Nat} (h : QRow w e size v n xs) (hb : w.heap[b]? = some (.cells cur e' fr)) (hne : e ≠ e') : v.ownBlock ≠ some b := by
  intro hk
  rcases h.2 with ⟨rfl, _⟩ | ⟨g, off, cap, cur, rfl, hh, _⟩
  · simp [Value.ownBlock] at hk
  have e1 : g = b := by simpa [Value.ownBlock] using hk
  subst e1
  rw [hh] at hb
  injection hb with hb
  injection hb with _ ht
  exact hne ht
theorem QRow.form {w : World} {e size n : Nat} {v : Value} {xs : List Value} (h : QRow w e size v n xs) (hn : 0 < n) :
    ∃ g off cap, v = .slice (some ⟨g, off, none⟩) n cap ∧ n ≤ cap ∧ cap ≤ maxLen ∧ (∀ j, j < n * size → w.cell? ⟨g, off + j, none⟩ = xs[j]?) ∧ ∀ j, w.frozen? ⟨g, j, none⟩ = false := by
  rcases h.2 with ⟨_, h0⟩ | ⟨g, off, cap, cur, rfl, hh, h1, h2, h3, h4⟩
  · omega
  · exact ⟨g, off, cap, rfl, h1, h2, fun j hj => by rw [cellOf hh]; exact h4 j (by rw [h.1]; exact hj), fun j => freeOf hh j⟩
theorem QRow.slice {w : World} {e size n : Nat} {v : Value} {xs : List Value} (h : QRow w e size v n xs) : ∃ A c, v = .slice A n c ∧ n ≤ c ∧ c ≤ maxLen ∧ (A = none → n = 0 ∧ c = 0) := by
  rcases h.2 with ⟨rfl, rfl⟩ | ⟨g, off, cap, cur, rfl, hh, h1, h2, _⟩
  · exact ⟨none, 0, rfl, Nat.le_refl _, Nat.zero_le _, fun _ => ⟨rfl, rfl⟩⟩
  · exact ⟨_, cap, rfl, h1, h2, fun h => by cases h⟩
/-- The first element taken off. -/
theorem QRow.tail {w : World} {e size n g off cap : Nat} {xs : List Value} (h : QRow w e size (.slice (some ⟨g, off, none⟩) (n + 1) cap) (n + 1) xs) (off' : Nat) (ho : off' = off + size ∨ (off' = off ∧ cap = 1)) :
    QRow w e size (.slice (some ⟨g, off', none⟩) n (cap - 1)) n (xs.drop size) := by
  obtain ⟨h1, h2⟩ := h
  rcases h2 with ⟨h2, _⟩ | ⟨g', off2, cap', cur, hv, hh, hn, hm, hs, hc⟩
  · cases h2
  · injection hv with ha _ hcap
    injection ha with ha
    injection ha with hg hoff
    subst hg; subst hoff; subst hcap
    have hm1 : (n + 1) * size = n * size + size := by rw [Nat.add_mul, Nat.one_mul]
    have hcs : cap * size = (cap - 1) * size + size := by rw [← Nat.succ_mul]; congr 1; omega
    refine ⟨by rw [List.length_drop, h1]; omega, .inr ⟨g, off', cap - 1, cur, rfl, hh, by omega, by omega, ?_, fun j hj => ?_⟩⟩
    · rcases ho with rfl | ⟨rfl, rfl⟩ <;> omega
    · rw [List.length_drop] at hj
      rcases ho with rfl | ⟨rfl, rfl⟩
      · rw [List.getElem?_drop, Nat.add_assoc]; exact hc _ (by omega)
      · have : n = 0 := by omega
        subst this
        omega

theorem new_one (w : World) (v : Value) (e : TypeId) : ∀ (j : Nat) (u : Value), [v][j]? = some u → (w.alloc (.cells #[v] e)).cell? ((⟨w.heap.size, 0, none⟩ : Addr).add j) = some u := by
  intro j u hj
  match j, hj with
  | 0, hj => simp at hj; subst hj; simp [Addr.add]
theorem one_of {v : Value} (h : v.oneCell' = true) : ∀ u ∈ [v], u.oneCell' = true := by intro u hu; simp at hu; subst hu; exact h
section
variable {P : Program}
/-- append onto such a row: it is written behind its end, or a new one is made. -/
theorem run_append_q (w : World) (t ty e : TypeId) (size bytes : Nat) (z : Value) (ht : P.underlying t = some (.slice e)) (hinfo : (P.info? e).map (fun i => (i.zero, i.size, i.bytes)) = some (some z, size, bytes)) (hzs : z.cells.size = size) (hsz : 0 < size)
    (v : Value) (n : Nat) (xs : List Value) (h : QRow w e size v n xs)
    (ad : Addr) (m c : Nat) (news : List Value) (hl : news.length = m * size) (hnews : ∀ j u, news[j]? = some u → w.cell? (ad.add j) = some u) (h1 : ∀ u ∈ news, u.oneCell' = true)
    (hm : 0 < m) (h63 : n + m ≤ maxLen) (hbytes : (n + m) * bytes ≤ 140737488355328) :
    ∃ g off cap w', (Builtin.append_ #[t, t] ty #[v, .slice (some ad) m c]).run P w = .ok (.slice (some ⟨g, off, none⟩) (n + m) cap) w' ∧ QRow w' e size (.slice (some ⟨g, off, none⟩) (n + m) cap) (n + m) (xs ++ news) ∧
      Ext (fun k => v.ownBlock = some k) w w' ∧ (v.ownBlock = some g ∨ w.heap.size ≤ g) := by
  obtain ⟨i0, hi, hz0, hz1, hz2⟩ := info_parts hinfo
  rcases h.2 with ⟨rfl, rfl⟩ | ⟨g, off, cap, cur, rfl, hh, hn, hcm, hs, hc⟩
  · have hx : xs = [] := List.eq_nil_of_length_eq_zero (by simpa using h.1)
    subst hx
    obtain ⟨v', w', hr, hown, hg, hiff⟩ := run_append_own (P := P) w w.heap.size t ty e i0 z size bytes ht hi hz0 hz1 hz2 hzs hsz (.slice none 0 0) 0 [] (World.ownsRow_nil _ _ _ _) ad m c news hl hnews h1 h63 hbytes (Nat.le_refl _)
    rcases hown.2 with ⟨rfl, h0⟩ | ⟨g, cap, cur, rfl, hb, _⟩
    · omega
    · exact ⟨g, 0, cap, w', hr, QRow.ofOwn hown, Ext.ofGrown hg, .inr hb⟩
  · by_cases hroom : n + m ≤ cap
    · have hns : n * size + news.length ≤ cap * size := by rw [hl, ← Nat.add_mul]; exact Nat.mul_le_mul_right _ hroom
      have hin : ∀ j, j < news.length → (w.cell? ⟨g, off + n * size + j, none⟩).isSome = true := fun j hj => by
        rw [cellOf hh, Array.getElem?_eq_getElem (by omega)]; rfl
      have hr := run_append_room_cells (P := P) w t ty e i0 ht hi g off n cap ad m c news (by rw [hz1]; exact hl) hnews h1 hroom (by rw [hz1]; exact hin) (by rw [hz1]; exact fun j _ => freeOf hh _)
      rw [hz1] at hr
      obtain ⟨cur', k1, k2, k3⟩ := setCells_row' news (off + n * size) w cur hh (by omega)
      obtain ⟨s1, s2, s3, s4⟩ := setCells_same' g news (off + n * size) w
      refine ⟨g, off, cap, _, hr, ⟨by rw [List.length_append, h.1, hl, Nat.add_mul], .inr ⟨g, off, cap, cur', rfl, k1, hroom, hcm, by rw [k2]; exact hs, fun j hj => ?_⟩⟩, ⟨s1, s2, s3, by rw [s4]; exact Nat.le_refl _, fun k hk hn => setCells_far' _ _ k fun e => hn (by rw [e]; rfl)⟩, .inl rfl⟩
      rw [List.length_append] at hj
      rw [k3, List.getElem?_append]
      by_cases hj1 : j < xs.length
      · rw [if_neg (by rw [h.1] at hj1; omega), if_pos hj1]; exact hc j hj1
      · rw [if_pos (by rw [h.1] at hj1 hj; omega), if_neg hj1]
        congr 1
        rw [h.1]; omega
    · have holds : ∀ j u, xs[j]? = some u → w.cell? ((⟨g, off, none⟩ : Addr).add j) = some u := fun j u hj => by
        have hjl : j < xs.length := (List.getElem?_eq_some_iff.1 hj).1
        have ha : (⟨g, off, none⟩ : Addr).add j = ⟨g, off + j, none⟩ := by unfold Addr.add; split <;> simp_all
        rw [ha, cellOf hh, hc j hjl, hj]
      obtain ⟨v', w', hr, hown, hg⟩ := run_append_arg_grows (P := P) w t ty e i0 z size bytes ht hi hz0 hz1 hz2 hzs hsz ⟨g, off, none⟩ n cap xs h.1 holds ad m c news hl hnews (by omega) h63 hbytes
      rcases hown.2 with ⟨rfl, h0⟩ | ⟨g', cap', cur', rfl, hb, _⟩
      · omega
      · exact ⟨g', 0, cap', w', hr, QRow.ofOwn hown, (Ext.ofGrown hg).mono fun k _ h => (by cases h), .inr hb⟩

/-- The same as one step of a region that draws its order, or of a walk. -/
theorem step_append_q {ops : Array Oper} {o : Oper} {a : Act} {w : World} {K : Act → World → Prop} {Q : Exit → Act → World → Prop} {E : Prop} (hgd : o.guard = none) (s x : Operand) (t : TypeId)
    (ho : o.op = .call { callee := .builtin .append, args := #[s, x], argTypes := #[t, t] })
    (e : TypeId) (size bytes : Nat) (z : Value) (ht : P.underlying t = some (.slice e)) (hinfo : (P.info? e).map (fun i => (i.zero, i.size, i.bytes)) = some (some z, size, bytes)) (hzs : z.cells.size = size) (hsz : 0 < size)
    (v : Value) (n : Nat) (xs : List Value) (hs : a.eval s = v) (h : QRow w e size v n xs)
    (ad : Addr) (m c : Nat) (news : List Value) (hx : a.eval x = .slice (some ad) m c) (hl : news.length = m * size) (hnews : ∀ j u, news[j]? = some u → w.cell? (ad.add j) = some u) (h1 : ∀ u ∈ news, u.oneCell' = true)
    (hm : 0 < m) (h63 : n + m ≤ maxLen) (hbytes : (n + m) * bytes ≤ 140737488355328)
    (hK : ∀ g off cap w', QRow w' e size (.slice (some ⟨g, off, none⟩) (n + m) cap) (n + m) (xs ++ news) → Ext (fun k => v.ownBlock = some k) w w' → (v.ownBlock = some g ∨ w.heap.size ≤ g) → K (a.put o.dst (.slice (some ⟨g, off, none⟩) (n + m) cap)) w') :
    if Region.wanted o (yielded ops a.tmps) = true then Oper.wp P o a w K Q else E := by
  have hw : Region.wanted o (yielded ops a.tmps) = true := by simp [Region.wanted, hgd]
  rw [if_pos hw]
  obtain ⟨g, off, cap, w', hr, h2, h3, h4⟩ := run_append_q (P := P) w t o.type e size bytes z ht hinfo hzs hsz v n xs h ad m c news hl hnews h1 hm h63 hbytes
  unfold Oper.wp execOp
  simp only [ho, resolve, invoke, builtin, Sem.run_bind, Sem.run_pure, Result.andThen_ok, List.map_toArray, List.map_cons, List.map_nil, hs, hx, hr]
  exact hK g off cap w' h2 h3 h4
theorem wpList_append_q {ops : Array Oper} {rest : List Oper} {o : Oper} {a : Act} {w : World} {Q : Exit → Act → World → Prop} (hgd : o.guard = none) (s x : Operand) (t : TypeId)
    (ho : o.op = .call { callee := .builtin .append, args := #[s, x], argTypes := #[t, t] })
    (e : TypeId) (size bytes : Nat) (z : Value) (ht : P.underlying t = some (.slice e)) (hinfo : (P.info? e).map (fun i => (i.zero, i.size, i.bytes)) = some (some z, size, bytes)) (hzs : z.cells.size = size) (hsz : 0 < size)
    (v : Value) (n : Nat) (xs : List Value) (hs : a.eval s = v) (h : QRow w e size v n xs)
    (ad : Addr) (m c : Nat) (news : List Value) (hx : a.eval x = .slice (some ad) m c) (hl : news.length = m * size) (hnews : ∀ j u, news[j]? = some u → w.cell? (ad.add j) = some u) (h1 : ∀ u ∈ news, u.oneCell' = true)
    (hm : 0 < m) (h63 : n + m ≤ maxLen) (hbytes : (n + m) * bytes ≤ 140737488355328)
    (hK : ∀ g off cap w', QRow w' e size (.slice (some ⟨g, off, none⟩) (n + m) cap) (n + m) (xs ++ news) → Ext (fun k => v.ownBlock = some k) w w' → (v.ownBlock = some g ∨ w.heap.size ≤ g) → wpList P ops Q rest (a.put o.dst (.slice (some ⟨g, off, none⟩) (n + m) cap)) w') :
    wpList P ops Q (o :: rest) a w :=
  wpList_plain hgd fun K hK' => by
    obtain ⟨g, off, cap, w', hr, h2, h3, h4⟩ := run_append_q (P := P) w t o.type e size bytes z ht hinfo hzs hsz v n xs h ad m c news hl hnews h1 hm h63 hbytes
    unfold Oper.wp execOp
    simp only [ho, resolve, invoke, builtin, Sem.run_bind, Sem.run_pure, Result.andThen_ok, List.map_toArray, List.map_cons, List.map_nil, hs, hx, hr]
    exact hK' _ _ (hK g off cap w' h2 h3 h4)
end

/-! ### 4. Bytes that are read -/
/-- The slice value v holds the bytes xs: nil, or at an address with its cells. -/
def Bytes (w : World) (v : Value) (xs : List Int) : Prop :=
  (v = .slice none 0 0 ∧ xs = []) ∨ ∃ a c, v = .slice (some a) xs.length c ∧ xs.length ≤ c ∧ c ≤ maxLen ∧ ∀ j, j < xs.length → w.cell? (a.add j) = some (.int .u8 (xs.getD j 0))
theorem add_none (g o j : Nat) : (⟨g, o, none⟩ : Addr).add j = ⟨g, o + j, none⟩ := by unfold Addr.add; split <;> simp_all
theorem addr_plain {w : World} {a : Addr} {v : Value} (h : w.cell? (a.add 0) = some v) : ∃ g o, a = ⟨g, o, none⟩ := by
  obtain ⟨g, o, s⟩ := a
  have : s = none := by simpa [Addr.add] using World.cell?_spot h
  exact ⟨g, o, by rw [this]⟩
theorem Bytes.nil (w : World) : Bytes w (.slice none 0 0) [] := .inl ⟨rfl, rfl⟩
theorem Bytes.ofRow {w : World} {e n : Nat} {v : Value} {xs : List Int} (h : QRow w e 1 v n (xs.map (Value.int .u8))) : Bytes w v xs := by
  have hl : xs.length = n := by simpa using h.1
  rcases h.2 with ⟨rfl, h0⟩ | ⟨g, off, cap, cur, rfl, hh, hn, hm, hs, hc⟩
  · exact .inl ⟨rfl, List.eq_nil_of_length_eq_zero (by omega)⟩
  · subst hl
    refine .inr ⟨_, cap, rfl, hn, hm, fun j hj => ?_⟩
    rw [add_none, cellOf hh, hc j (by simpa using hj)]
    simp [List.getElem?_eq_getElem hj, List.getD_eq_getElem?_getD]
theorem Bytes.ext {F : Nat → Prop} {w w' : World} {v : Value} {xs : List Int} (h : Bytes w v xs) (hx : Ext F w w') (hF : ∀ k, k < w.heap.size → v.ownBlock = some k → ¬ F k) : Bytes w' v xs := by
  rcases h with h | ⟨a, c, rfl, h1, h2, h3⟩
  · exact .inl h
  · refine .inr ⟨a, c, rfl, h1, h2, fun j hj => hx.cell (h3 j hj) fun hf => ?_⟩
    have hb : (a.add j).block = a.block := by unfold Addr.add; split <;> rfl
    have hlt := World.block_lt_of_cell? _ _ (h3 j hj)
    rw [hb] at hf hlt
    exact hF a.block hlt rfl hf
theorem Bytes.shape {w : World} {v : Value} {xs : List Int} (h : Bytes w v xs) : ∃ A c, v = .slice A xs.length c ∧ xs.length ≤ c ∧ c ≤ maxLen ∧ (A = none → xs = [] ∧ c = 0) := by
  rcases h with ⟨rfl, rfl⟩ | ⟨a, c, rfl, h1, h2, _⟩
  · exact ⟨none, 0, rfl, Nat.le_refl _, Nat.zero_le _, fun _ => ⟨rfl, rfl⟩⟩
  · exact ⟨some a, c, rfl, h1, h2, fun h => by cases h⟩
theorem Bytes.string {P : Program} {w : World} {v : Value} {xs : List Int} (h : Bytes w v xs) {src dst e : TypeId} (hs : P.underlying src = some (.slice e)) (he : P.underlying e = some (.int .u8)) (hd : P.underlying dst = some .string) :
    (convert src dst v).run P w = .ok (.string (strOfNums xs)) w := by
  rcases h with ⟨rfl, rfl⟩ | ⟨a, c, rfl, h1, h2, h3⟩
  · exact run_convert_bytes_nil w src e hs he 0 0 dst hd
  · rcases Nat.eq_zero_or_pos xs.length with h0 | h0
    · rw [run_convert_bytes_string w src dst e _ xs.length c hs he hd]
      have : xs = [] := List.eq_nil_of_length_eq_zero h0
      subst this
      show (Conv.bytesToString (.slice (some a) 0 c)).run P w = _
      rw [run_bytesToString w a 0 c [] (by simp [loadCells, loadCellsFrom])]
      rfl
    · obtain ⟨g, o, rfl⟩ := addr_plain (h3 0 h0)
      exact run_convert_bytes_arg w src e hs he g o xs.length c xs rfl (fun i hi => by have := h3 i hi; rwa [add_none] at this) dst hd
end Go.Proofs.Ytdibjnlmeiikmaa
