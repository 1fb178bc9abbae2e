/- The arguments of the laws of layer 13, as they lie in memory. -/
import Derived.Test.YteidkdbngjhopaaO
import Derived.Test.YteidkdbngjhopaaRows
import Derived.Test.YteidkdbngjhopaaChecked
import Derived.ProofKit
import Derived.OpenShut
import Derived.Lib.SmallJoins
import Derived.Deep.Slices
set_option linter.unusedVariables false
namespace Go.Proofs.Yteidkdbngjhopaa
open Go.ChangeShapes Go.WideShapes Go.ChangeAt Go.RowKit Go.Deep Go.Joins

theorem cells32 : Try.prog.cellsOf 32 = 18 := by kernel_rfl
theorem cells3 : Try.prog.cellsOf 3 = 1 := by kernel_rfl
theorem wf_u8' {n : Int} (h : (Lit.int .u8 n).wf = true) : 0 ≤ n ∧ n ≤ 255 := by
  simp [Lit.wf, IntKind.min, IntKind.max, IntKind.signed, IntKind.bits] at h
  omega
theorem list_pick {α β : Type} (f : β → α) : ∀ (cs : List α), (∀ (i : Nat), i < cs.length → ∃ x, cs[i]? = some (f x)) → ∃ xs : List β, cs = xs.map f
  | [], _ => ⟨[], rfl⟩
  | c :: cs, h => by
    obtain ⟨x, hx⟩ := h 0 (by simp)
    obtain ⟨xs, hxs⟩ := list_pick f cs (fun i hi => by
      have := h (i + 1) (by simp; omega)
      simpa using this)
    refine ⟨x :: xs, ?_⟩
    simp at hx
    rw [hx, hxs]
    rfl
section
variable {H : Type} {enc : TypeId × Value → H} {w : World} {base : Nat} {spare : Nat → Bool} {held : Bool}
/-- A tag that came in. -/
theorem open_tag {fuel : Nat} {cs : List Value} {x : DataW H × List MemPlace} (h : DataW.trod enc Try.prog w base spare held fuel 30 cs = some x) : ∃ t, cs = tvs t ∧ Tg t := by
  obtain ⟨ys, m, _, _, hl, hlen, hf⟩ := DataW.trod_array Try.underlying30 h
  rw [cells30] at hl
  have key : ∀ (i : Nat), i < cs.length → ∃ a, cs[i]? = some (.int .u8 a) ∧ 0 ≤ a ∧ a ≤ 255 := fun i hi => by
    have e := hf i (by omega)
    rw [cells5, Nat.mul_one] at e
    rw [List.getElem?_eq_getElem (by omega)] at e
    obtain ⟨a, k0, _, w0⟩ := DataW.trod_int Try.underlying5 e
    refine ⟨a, ?_, wf_u8' w0⟩
    have := congrArg (fun l => l[0]?) k0
    simpa using this
  obtain ⟨xs, hxs⟩ := list_pick (Value.int .u8) cs (fun i hi => by obtain ⟨a, h1, _⟩ := key i hi; exact ⟨a, h1⟩)
  refine ⟨xs, hxs, by rw [← hl, hxs]; simp, fun a ha => ?_⟩
  obtain ⟨i, hi, he⟩ := List.mem_iff_getElem.1 ha
  obtain ⟨b, h1, h2⟩ := key i (by rw [hxs]; simpa using hi)
  rw [hxs] at h1
  simp [List.getElem?_eq_getElem hi, he] at h1
  rw [h1]; exact h2
/-- An Act that came in. -/
theorem open_act {fuel : Nat} {cs : List Value} {x : DataW H × List MemPlace} (h : DataW.trod enc Try.prog w base spare held fuel 32 cs = some x) :
    ∃ kd g t, cs = acs kd g (tvs t) ∧ Tg t ∧ (0 ≤ kd ∧ kd ≤ 255) ∧ (Lit.int .i64 g).wf = true := by
  obtain ⟨y0, y1, y2, n, _, hlen, h0, h1, h2⟩ := trod_struct3 Try.underlying32 h
  rw [cells32] at hlen
  match cs, hlen with
  | c0 :: c1 :: l, hlen =>
    have hl : l.length = 16 := by simpa using hlen
    simp only [cells5, cells3, cells30, List.drop_zero, List.drop_succ_cons, List.take_succ_cons, List.take_zero] at h0 h1 h2
    rw [List.take_of_length_le (by omega)] at h2
    obtain ⟨a, e0, _, w0⟩ := DataW.trod_int Try.underlying5 h0
    obtain ⟨b, e1, _, w1⟩ := DataW.trod_int Try.underlying3 h1
    obtain ⟨t, rfl, ht⟩ := open_tag h2
    simp only [List.cons.injEq, and_true] at e0 e1
    subst e0; subst e1
    exact ⟨a, b, t, rfl, ht, wf_u8' w0, w1⟩
/-- A list of Acts that came in. -/
def Acts (w : World) (A : Option Addr) (n : Nat) : Prop :=
  n ≤ maxLen ∧ ∀ i, i < n → ∃ b o kd g t, A = some ⟨b, o, none⟩ ∧ (0 ≤ kd ∧ kd ≤ 255) ∧ (Lit.int .i64 g).wf = true ∧ Tg t ∧ w.rangeAt b (o + i * 18) (acs kd g (tvs t))
theorem open_acts {fuel : Nat} {cs : List Value} {x : DataW H × List MemPlace} (h : DataW.trod enc Try.prog w base spare held fuel 22 cs = some x) : ∃ A n c, cs = [.slice A n c] ∧ Acts w A n := by
  rcases open_slice Try.underlying22 h with ⟨hcs, _⟩ | ⟨a, len, cap, m, n, D, Pl, hcs, _, hl, hm, hmm, _, hx⟩
  · exact ⟨_, _, _, hcs, Nat.zero_le _, fun i hi => absurd hi (Nat.not_lt_zero _)⟩
  · refine ⟨_, _, _, hcs, by omega, fun i hi => ?_⟩
    have hle : len ≤ m := by rw [hmm]; split <;> omega
    have hb : ∃ b' o', a = ⟨b', o', none⟩ := by
      obtain ⟨cs0, h1, h2⟩ := hx 0 (by omega)
      obtain ⟨kd, g, t, rfl, ht, _⟩ := open_act h2
      rw [cells32, Nat.zero_mul] at h1
      have k0 := (World.cells?_some h1).2.2 0 (by decide)
      have : (a.add 0).add 0 = a.add 0 := by simp [Addr.add]
      rw [this] at k0
      exact addr_plain k0
    obtain ⟨b', o', rfl⟩ := hb
    obtain ⟨cs', h1, h2⟩ := hx i (by omega)
    obtain ⟨kd, g, t, rfl, ht, hk, hg⟩ := open_act h2
    rw [cells32] at h1
    have h1' := (World.cells?_some h1).2.2
    refine ⟨b', o', kd, g, t, rfl, hk, hg, ht, fun j v hj => ?_⟩
    have hjl : j < (acs kd g (tvs t)).length := (List.getElem?_eq_some_iff.1 hj).1
    have hj18 : j < 18 := by simp [acs, ht.len] at hjl; omega
    have h2' := h1' j hj18
    simp only [add_none] at h2'
    rw [h2', List.getElem?_eq_getElem hjl] at *
    exact hj
end
/-- The i-th Act, in a later world. -/
theorem Acts.at' {w wr : World} {A : Option Addr} {n : Nat} (h : Acts w A n) (hb : Below w.heap.size w wr) {i : Nat} (hi : i < n) :
    ∃ b o kd g t, A = some ⟨b, o, none⟩ ∧ b < w.heap.size ∧ (0 ≤ kd ∧ kd ≤ 255) ∧ (Lit.int .i64 g).wf = true ∧ Tg t ∧ wr.rangeAt b (o + i * 18) (acs kd g (tvs t)) := by
  obtain ⟨b, o, kd, g, t, h1, h2, h3, h4, h5⟩ := h.2 i hi
  have h0 := h5 0 _ rfl
  exact ⟨b, o, kd, g, t, h1, World.block_lt_of_cell? _ _ h0, h2, h3, h4, fun j v hj => (hb.cell (World.block_lt_of_cell? _ _ (h5 j v hj))).trans (h5 j v hj)⟩
/-- A whole number that was read. -/
theorem open_num {H : Type} {enc : TypeId × Value → H} {W : World} {r : Reach} {base b2 : Nat} {t : TypeId} {k : IntKind} (hu : Try.prog.underlying t = some (.int k)) {v : Value} {d : DataW H} {p : List MemPlace}
    (h : DataW.Trod enc Try.prog W base (fun _ => true) true t v d p) (o : Value.okWide Try.prog W r b2 t v) : ∃ n, v = .int k n ∧ (Lit.int k n).wf = true := by
  obtain ⟨n, rfl⟩ := okWide_int hu o
  obtain ⟨fuel, hf⟩ := h
  obtain ⟨m, h1, _, h3⟩ := DataW.trod_int hu hf
  simp [Value.cells] at h1
  subst h1
  exact ⟨n, rfl, h3⟩
/-- A list of Acts that was read. -/
theorem open_actsv {H : Type} {enc : TypeId × Value → H} {W : World} {r : Reach} {base b2 : Nat} {v : Value} {d : DataW H} {p : List MemPlace}
    (h : DataW.Trod enc Try.prog W base (fun _ => true) true 22 v d p) (o : Value.okWide Try.prog W r b2 22 v) : ∃ A n c, v = .slice A n c ∧ Acts W A n := by
  obtain ⟨A, n, c, rfl⟩ := okWide_slice Try.underlying22 o
  obtain ⟨fuel, hf⟩ := h
  obtain ⟨A', n', c', hcs1, ha⟩ := open_acts hf
  have he : Value.slice A n c = Value.slice A' n' c' := by simpa [Value.cells] using hcs1
  injection he with e1 e2 e3
  subst e1; subst e2; subst e3
  exact ⟨A, n, c, rfl, ha⟩
theorem replayNobody_core {H : Type} {enc : TypeId × Value → H} {base : Nat} (v0 : Value) (W : World) {d0 : DataW H} {p0 : List MemPlace} (h0 : DataW.Trod enc Try.prog W 0 (fun _ => true) true 32 v0 d0 p0)
    (o0 : Value.okWide Try.prog W .any base 32 v0) :
    Calls Try.prog 5 #[v0] W fun e w' => e = .returned (.bool true) ∧ Below W.heap.size W w' := by
  obtain ⟨cs, rfl, _⟩ := okWide_struct Try.underlying32 o0
  obtain ⟨fuel, hf⟩ := h0
  obtain ⟨kd, g, t, hcs, ht, _⟩ := open_act hf
  have hl : cs = (acs kd g (tvs t)).toArray := by rw [← hcs]; simp [Value.cells]
  rw [hl]
  exact nobody_walk kd g _ (tvs_len ht) W
end Go.Proofs.Yteidkdbngjhopaa
