/- The arguments of the laws of layer 23, as they lie in memory. -/
import Derived.Test.YtdibjnlmeiikmaaZg
import Derived.Test.YtdibjnlmeiikmaaRows
import Derived.Test.YtdibjnlmeiikmaaChecked
import Derived.ProofKit
import Derived.OpenShut
import Derived.Lib.SmallJoins
import Derived.Deep.Slices
set_option linter.unusedVariables false
set_option maxRecDepth 100000
namespace Go.Proofs.Ytdibjnlmeiikmaa
open Go.ChangeShapes Go.WideShapes Go.ChangeAt Go.RowKit Go.Deep Go.Joins

theorem cells5 : Try.prog.cellsOf 5 = 1 := by kernel_rfl
theorem cells3 : Try.prog.cellsOf 3 = 1 := by kernel_rfl
theorem cells33 : Try.prog.cellsOf 33 = 32 := by kernel_rfl
theorem cells40 : Try.prog.cellsOf 40 = 8 := by kernel_rfl
theorem cells48 : Try.prog.cellsOf 48 = 11 := by kernel_rfl
theorem cells60 : Try.prog.cellsOf 60 = 43 := by kernel_rfl
theorem cells35 : Try.prog.cellsOf 35 = 34 := by kernel_rfl
theorem cells22 : Try.prog.cellsOf 22 = 1 := by kernel_rfl
theorem cells24 : Try.prog.cellsOf 24 = 2 := by kernel_rfl
theorem cells49 : Try.prog.cellsOf 49 = 12 := by kernel_rfl
theorem wf_u8' {n : Int} (h : (Lit.int .u8 n).wf = true) : 0 ≤ n ∧ n ≤ 255 := by
  simp [Lit.wf, IntKind.min, IntKind.max, IntKind.signed, IntKind.bits] at h
  omega
theorem list_pick {α β : Type} (f : β → α) : ∀ (cs : List α), (∀ (i : Nat), i < cs.length → ∃ x, cs[i]? = some (f x)) → ∃ xs : List β, cs = xs.map f
  | [], _ => ⟨[], rfl⟩
  | c :: cs, h => by
    obtain ⟨x, hx⟩ := h 0 (by simp)
    obtain ⟨xs, hxs⟩ := list_pick f cs (fun i hi => by
      have := h (i + 1) (by simp; omega)
      simpa using this)
    refine ⟨x :: xs, ?_⟩
    simp at hx
    rw [hx, hxs]
    rfl
theorem pick_rows {α : Type} {P : Nat → α → Prop} : ∀ n, (∀ i, i < n → ∃ x, P i x) → ∃ L : List α, L.length = n ∧ ∀ i (hi : i < L.length), P i L[i]
  | 0, _ => ⟨[], rfl, fun i hi => absurd hi (by simp)⟩
  | n + 1, h => by
    obtain ⟨L, hl, hL⟩ := pick_rows n (fun i hi => h i (by omega))
    obtain ⟨x, hx⟩ := h n (by omega)
    refine ⟨L ++ [x], by simp [hl], fun i hi => ?_⟩
    by_cases h1 : i < L.length
    · rw [List.getElem_append_left h1]; exact hL i h1
    · have : i = L.length := by simp at hi; omega
      subst this
      rw [List.getElem_concat_length (by rfl)]
      rw [hl]; exact hx
section
variable {H : Type} {enc : TypeId × Value → H} {w : World} {base : Nat} {spare : Nat → Bool} {held : Bool}
/-- An array of bytes that came in. -/
theorem open_arr {t n : Nat} (ht : Try.prog.underlying t = some (.array n 5)) (hn : Try.prog.cellsOf t = n) {fuel : Nat} {cs : List Value} {x : DataW H × List MemPlace} (h : DataW.trod enc Try.prog w base spare held fuel t cs = some x) : ∃ k, cs = bys k ∧ k.length = n ∧ ∀ x ∈ k, 0 ≤ x ∧ x ≤ 255 := by
  obtain ⟨ys, m, _, _, hl, hlen, hf⟩ := DataW.trod_array ht h
  rw [hn] at hl
  have key : ∀ (i : Nat), i < cs.length → ∃ a, cs[i]? = some (.int .u8 a) ∧ 0 ≤ a ∧ a ≤ 255 := fun i hi => by
    have e := hf i (by omega)
    rw [cells5, Nat.mul_one] at e
    rw [List.getElem?_eq_getElem (by omega)] at e
    obtain ⟨a, k0, _, w0⟩ := DataW.trod_int Try.underlying5 e
    refine ⟨a, ?_, wf_u8' w0⟩
    have := congrArg (fun l => l[0]?) k0
    simpa using this
  obtain ⟨xs, hxs⟩ := list_pick (Value.int .u8) cs (fun i hi => by obtain ⟨a, h1, _⟩ := key i hi; exact ⟨a, h1⟩)
  refine ⟨xs, hxs, by rw [← hl, hxs]; simp, fun a ha => ?_⟩
  obtain ⟨i, hi, he⟩ := List.mem_iff_getElem.1 ha
  obtain ⟨b, h1, h2⟩ := key i (by rw [hxs]; simpa using hi)
  rw [hxs] at h1
  simp [List.getElem?_eq_getElem hi, he] at h1
  rw [h1]; exact h2
/-- A command that came in. -/
structure CmOk (m : Cm) : Prop where
  kind : (Lit.int .i64 m.kind).wf = true
  next : (Lit.int .i64 m.next).wf = true
  delay : (Lit.int .i64 m.delay).wf = true
  id : ∀ x ∈ m.id, 0 ≤ x ∧ x ≤ 255
theorem open_cmd {fuel : Nat} {cs : List Value} {x : DataW H × List MemPlace} (h : DataW.trod enc Try.prog w base spare held fuel 48 cs = some x) : ∃ m : Cm, cs = cc m ∧ CmOk m := by
  obtain ⟨y0, y1, y2, y3, n, _, hlen, h0, h1, h2, h3⟩ := trod_struct4 Try.underlying48 h
  rw [cells48] at hlen
  match cs, hlen with
  | c0 :: c1 :: c2 :: l, hlen =>
    have hl : l.length = 8 := by simpa using hlen
    simp only [cells3, cells40, List.drop_zero, List.drop_succ_cons, List.take_succ_cons, List.take_zero] at h0 h1 h2 h3
    rw [List.take_of_length_le (by omega)] at h3
    obtain ⟨a, e0, _, w0⟩ := DataW.trod_int Try.underlying3 h0
    obtain ⟨b, e1, _, w1⟩ := DataW.trod_int Try.underlying3 h1
    obtain ⟨d, e2, _, w2⟩ := DataW.trod_int Try.underlying3 h2
    obtain ⟨t, rfl, ht, hb⟩ := open_arr Try.underlying40 cells40 h3
    simp only [List.cons.injEq, and_true] at e0 e1 e2
    subst e0; subst e1; subst e2
    exact ⟨⟨a, b, d, t, ht⟩, rfl, w0, w1, w2, hb⟩
/-- A hop that came in. -/
structure HpOk (h : Hp) : Prop where
  key : ∀ x ∈ h.key, 0 ≤ x ∧ x ≤ 255
  cmd : CmOk h.cmd
theorem open_hop {fuel : Nat} {cs : List Value} {x : DataW H × List MemPlace} (h : DataW.trod enc Try.prog w base spare held fuel 60 cs = some x) : ∃ p : Hp, cs = hc p ∧ HpOk p := by
  obtain ⟨y0, y1, n, _, hlen, h0, h1⟩ := trod_struct2 Try.underlying60 h
  rw [cells60] at hlen
  simp only [cells33, cells48, List.drop_zero] at h0 h1
  rw [List.take_of_length_le (l := cs.drop _) (by rw [List.length_drop]; omega)] at h1
  obtain ⟨k, e0, hk, hb⟩ := open_arr Try.underlying33 cells33 h0
  obtain ⟨m, e1, hm⟩ := open_cmd h1
  refine ⟨⟨k, m, hk⟩, ?_, hb, hm⟩
  unfold hc
  rw [← e0, ← e1]
  exact (List.take_append_drop 32 cs).symm
/-- A node that came in. -/
theorem open_node {fuel : Nat} {cs : List Value} {x : DataW H × List MemPlace} (h : DataW.trod enc Try.prog w base spare held fuel 35 cs = some x) : ∃ p : Nd, cs = nc p ∧ NdOk p := by
  obtain ⟨y0, y1, y2, n, _, hlen, h0, h1, h2⟩ := trod_struct3 Try.underlying35 h
  rw [cells35] at hlen
  match cs, hlen with
  | c0 :: l, hlen =>
    have hl : l.length = 33 := by simpa using hlen
    simp only [cells3, cells33, List.drop_zero, List.drop_succ_cons, List.take_succ_cons, List.take_zero] at h0 h1 h2
    obtain ⟨a, e0, _, w0⟩ := DataW.trod_int Try.underlying3 h0
    obtain ⟨k, e1, hk, hb⟩ := open_arr Try.underlying33 cells33 h1
    obtain ⟨b, e2, _, w2⟩ := DataW.trod_int Try.underlying3 h2
    simp only [List.cons.injEq, and_true] at e0
    subst e0
    refine ⟨⟨a, k, b, hk⟩, ?_, w0, w2, hb⟩
    show _ = .int .i64 a :: (bys k ++ [.int .i64 b])
    rw [← e1, ← e2]
    congr 1
    rw [List.take_of_length_le (l := l.drop _) (by rw [List.length_drop]; omega)]
    exact (List.take_append_drop 32 l).symm
/-- A list of structs that came in. -/
theorem open_rows {α : Type} {en : α → List Value} {k t e : Nat} {G : α → Prop} (hk : ∀ a, (en a).length = k) (hk0 : 0 < k) (ht : Try.prog.underlying t = some (.slice e)) (hc : Try.prog.cellsOf e = k)
    (hop : ∀ {fuel : Nat} {cs : List Value} {x : DataW H × List MemPlace}, DataW.trod enc Try.prog w base spare held fuel e cs = some x → ∃ a, cs = en a ∧ G a)
    {fuel : Nat} {cs : List Value} {x : DataW H × List MemPlace} (h : DataW.trod enc Try.prog w base spare held fuel t cs = some x) :
    ∃ A c L, cs = [.slice A L.length c] ∧ GRd en k w A c L ∧ ∀ a ∈ L, G a := by
  rcases open_slice ht h with ⟨hcs, _⟩ | ⟨a, len, cap, m, n, D, Pl, hcs, _, hl, hm, hmm, _, hx⟩
  · exact ⟨_, _, [], hcs, ⟨fun i hi => absurd hi (by simp), by simp⟩, fun a ha => by cases ha⟩
  · have hle : len ≤ m := by rw [hmm]; split <;> omega
    have hel : ∀ i, i < len → ∃ p, (∃ b o, some a = some (⟨b, o, none⟩ : Addr) ∧ b < w.heap.size ∧ w.rangeAt b (o + i * k) (en p)) ∧ G p := fun i hi => by
      obtain ⟨cs', h1, h2⟩ := hx i (by omega)
      obtain ⟨p, rfl, hp⟩ := hop h2
      rw [hc] at h1
      have h1' := (World.cells?_some h1).2.2
      have hab : ∃ b' o', a = ⟨b', o', none⟩ := by
        obtain ⟨cs0, h10, h20⟩ := hx 0 (by omega)
        obtain ⟨p0, rfl, _⟩ := hop h20
        rw [hc, Nat.zero_mul] at h10
        have k0 := (World.cells?_some h10).2.2 0 hk0
        have e0 : (a.add 0).add 0 = a.add 0 := by simp [Addr.add]
        rw [e0, List.getElem?_eq_getElem (by rw [hk]; exact hk0)] at k0
        exact addr_plain k0
      obtain ⟨b', o', rfl⟩ := hab
      have hr : w.rangeAt b' (o' + i * k) (en p) := fun j v hj => by
        have hjl : j < (en p).length := (List.getElem?_eq_some_iff.1 hj).1
        have h2' := h1' j (by rw [hk] at hjl; exact hjl)
        simp only [add_none] at h2'
        rw [h2']; exact hj
      exact ⟨p, ⟨b', o', rfl, World.block_lt_of_cell? _ _ (hr 0 _ (List.getElem?_eq_getElem (by rw [hk]; exact hk0))), hr⟩, hp⟩
    obtain ⟨L, hl2, hL⟩ := pick_rows len hel
    refine ⟨some a, cap, L, by rw [hl2]; exact hcs, ⟨fun i hi => (hL i hi).1, by rw [hl2]; exact ⟨hl, hm⟩⟩, fun p hp => ?_⟩
    obtain ⟨i, hi, rfl⟩ := List.mem_iff_getElem.1 hp
    exact (hL i hi).2
end
theorem okWide_arr {P : Program} {w : World} {r : Reach} {base : Nat} {t : TypeId} {v : Value} {n : Nat} {e : TypeId} (ht : P.underlying t = some (.array n e)) (h : Value.okWide P w r base t v) : ∃ cs, v = .agg cs ∧ cs.size = P.cellsOf t := by
  simp only [Value.okWide, ht] at h
  obtain ⟨cs, h1, h2, _⟩ := h
  exact ⟨cs, h1, h2⟩
section
variable {H : Type} {enc : TypeId × Value → H} {W : World} {r : Reach} {base b2 : Nat}
/-- A list of hops that was read. -/
theorem open_hopsv {v : Value} {d : DataW H} {p : List MemPlace}
    (h : DataW.Trod enc Try.prog W base (fun _ => true) true 56 v d p) (o : Value.okWide Try.prog W r b2 56 v) : ∃ A c L, v = .slice A L.length c ∧ HRd W A c L ∧ ∀ a ∈ L, HpOk a := by
  obtain ⟨A, n, c, rfl⟩ := okWide_slice Try.underlying56 o
  obtain ⟨fuel, hf⟩ := h
  obtain ⟨A', c', L, hcs1, ha, hG⟩ := open_rows hc_len (by decide) Try.underlying56 cells60 (fun h => open_hop h) hf
  have he : Value.slice A n c = Value.slice A' L.length c' := by simpa [Value.cells] using hcs1
  exact ⟨A', c', L, he, ha, hG⟩
/-- A directory that was read. -/
theorem open_dirv {v : Value} {d : DataW H} {p : List MemPlace}
    (h : DataW.Trod enc Try.prog W base (fun _ => true) true 24 v d p) (o : Value.okWide Try.prog W r b2 24 v) : ∃ (l : Int) (A : Option Addr) (c : Nat) (L : List Nd), v = .agg #[.int .i64 l, .slice A L.length c] ∧ (Lit.int .i64 l).wf = true ∧ GRd nc 34 W A c L ∧ ∀ a ∈ L, NdOk a := by
  obtain ⟨cs, rfl, hsz⟩ := okWide_struct Try.underlying24 o
  obtain ⟨fuel, hf⟩ := h
  obtain ⟨y0, y1, n, _, hlen, h0, h1⟩ := trod_struct2 Try.underlying24 hf
  rw [cells24] at hlen
  simp only [Value.cells, cells3, cells22] at hlen h0 h1
  obtain ⟨l, e0, _, w0⟩ := DataW.trod_int Try.underlying3 h0
  obtain ⟨A', c', L, e1, ha, hG⟩ := open_rows nc_len (by decide) Try.underlying22 cells35 (fun h => open_node h) h1
  refine ⟨l, A', c', L, ?_, w0, ha, hG⟩
  have e2 : cs.toList = [.int .i64 l, .slice A' L.length c'] := by
    match hc : cs.toList, hlen with
    | [c0, c1], _ =>
      rw [hc] at e0 e1
      simp at e0 e1
      rw [e0, e1]
  have : cs = #[.int .i64 l, .slice A' L.length c'] := by rw [← Array.toArray_toList (xs := cs), e2]
  rw [this]
/-- A command that was read. -/
theorem open_cmdv {v : Value} {d : DataW H} {p : List MemPlace}
    (h : DataW.Trod enc Try.prog W base (fun _ => true) true 48 v d p) (o : Value.okWide Try.prog W r b2 48 v) : ∃ m, v = .agg (cc m).toArray ∧ CmOk m := by
  obtain ⟨cs, rfl, hsz⟩ := okWide_struct Try.underlying48 o
  obtain ⟨fuel, hf⟩ := h
  obtain ⟨m, e, hm⟩ := open_cmd hf
  exact ⟨m, by rw [← e]; simp [Value.cells], hm⟩
/-- Twelve bytes that were read. -/
theorem open_atv {v : Value} {d : DataW H} {p : List MemPlace}
    (h : DataW.Trod enc Try.prog W base (fun _ => true) true 49 v d p) (o : Value.okWide Try.prog W r b2 49 v) : ∃ k, v = Arr k ∧ k.length = 12 ∧ ∀ x ∈ k, 0 ≤ x ∧ x ≤ 255 := by
  obtain ⟨cs, rfl, hsz⟩ := okWide_arr Try.underlying49 o
  obtain ⟨fuel, hf⟩ := h
  obtain ⟨k, e, hk⟩ := open_arr Try.underlying49 cells49 hf
  exact ⟨k, by show _ = Value.agg (bys k).toArray; rw [← e]; simp [Value.cells], hk⟩
/-- A byte that was read. -/
theorem open_u8v {v : Value} {d : DataW H} {p : List MemPlace}
    (h : DataW.Trod enc Try.prog W base (fun _ => true) true 5 v d p) (o : Value.okWide Try.prog W r b2 5 v) : ∃ n, v = .int .u8 n ∧ 0 ≤ n ∧ n ≤ 255 := by
  obtain ⟨n, rfl⟩ := okWide_int Try.underlying5 o
  obtain ⟨fuel, hf⟩ := h
  obtain ⟨m, h1, _, h3⟩ := DataW.trod_int Try.underlying5 hf
  simp [Value.cells] at h1
  subst h1
  exact ⟨n, rfl, wf_u8' h3⟩
end
end Go.Proofs.Ytdibjnlmeiikmaa
