/- The laws of layer 5, over what their arguments read as. -/
import Derived.Test.YtcijbeagegonkaaV
set_option linter.unusedVariables false
namespace Go.Proofs.Ytcijbeagegonkaa
open Go.ChangeShapes Go.WideShapes Go.ChangeAt Go.RowKit Go.Deep Go.Joins

theorem Try.cells31 : Try.prog.cellsOf 31 = 2 := by kernel_rfl
theorem Try.cells37 : Try.prog.cellsOf 37 = 2 := by kernel_rfl
theorem Try.cells3 : Try.prog.cellsOf 3 = 1 := by kernel_rfl
/-- Bytes that were read. -/
theorem open_bytes {H : Type} {enc : TypeId × Value → H} {W : World} {r : Reach} {base b2 : Nat} {v : Value} {d : DataW H} {p : List MemPlace}
    (h : DataW.Trod enc Try.prog W base (fun _ => true) true 32 v d p) (o : Value.okWide Try.prog W r b2 32 v) : ∃ bs, Bytes W v bs ∧ Bs bs := by
  obtain ⟨A, n, c, rfl⟩ := okWide_slice Try.underlying32 o
  obtain ⟨fuel, hf⟩ := h
  rcases open_ints Try.underlying32 Try.underlying5 Try.cells5 hf with ⟨hcs, _⟩ | ⟨a, len, cap, zs, hcs, _, hl, hm, hz, _, hcell, hwz⟩
  · simp [Value.cells] at hcs
    obtain ⟨rfl, rfl, rfl⟩ := hcs
    exact ⟨[], Bytes.nil _, fun x hx => by simp at hx⟩
  · simp [Value.cells] at hcs
    obtain ⟨rfl, rfl, rfl⟩ := hcs
    have hlz : n ≤ zs.length := by rw [hz]; split <;> omega
    have htl : (zs.take n).length = n := by simp; omega
    refine ⟨zs.take n, .inr ⟨a, c, by rw [htl], by omega, hm, fun j hj => ?_⟩, fun x hx => wf_u8 (hwz x (List.mem_of_mem_take hx))⟩
    rw [htl] at hj
    rw [hcell j (by omega)]
    simp [List.getD_eq_getElem?_getD, hj]
section
variable {H : Type} {enc : TypeId × Value → H} {w : World} {base : Nat} {spare : Nat → Bool} {held : Bool}
/-- Two numbers in an array. -/
theorem open_two {fuel : Nat} {t e : TypeId} {k : IntKind} (hu : Try.prog.underlying t = some (.array 2 e)) (he : Try.prog.underlying e = some (.int k)) (hc : Try.prog.cellsOf t = 2) (hce : Try.prog.cellsOf e = 1) {cs : List Value} {x : DataW H × List MemPlace} (h : DataW.trod enc Try.prog w base spare held fuel t cs = some x) :
    ∃ p q : Int, cs = [.int k p, .int k q] ∧ (Lit.int k p).wf = true ∧ (Lit.int k q).wf = true := by
  obtain ⟨xs, n, _, _, hl, hlen, hf⟩ := DataW.trod_array hu h
  rw [hc] at hl
  match cs, hl with
  | [c0, c1], _ =>
    have e0 := hf 0 (by decide)
    have e1 := hf 1 (by decide)
    rw [List.getElem?_eq_getElem (by omega)] at e0 e1
    simp only [hce, List.drop_zero, List.drop_succ_cons, List.take_succ_cons, List.take_zero, Nat.mul_one] at e0 e1
    obtain ⟨a, k0, _, w0⟩ := DataW.trod_int he e0
    obtain ⟨b, k1, _, w1⟩ := DataW.trod_int he e1
    simp only [List.cons.injEq, and_true] at k0 k1
    exact ⟨a, b, by rw [k0, k1], w0, w1⟩
end
theorem open_pair {H : Type} {enc : TypeId × Value → H} {W : World} {r : Reach} {base b2 : Nat} {t e : TypeId} {k : IntKind} (hu : Try.prog.underlying t = some (.array 2 e)) (he : Try.prog.underlying e = some (.int k)) (hc : Try.prog.cellsOf t = 2) (hce : Try.prog.cellsOf e = 1) {v : Value} {d : DataW H} {p : List MemPlace}
    (h : DataW.Trod enc Try.prog W base (fun _ => true) true t v d p) (o : Value.okWide Try.prog W r b2 t v) : ∃ p q : Int, v = .agg #[.int k p, .int k q] ∧ (Lit.int k p).wf = true ∧ (Lit.int k q).wf = true := by
  obtain ⟨cs, rfl, hsz⟩ := okWide_arr hu o
  obtain ⟨fuel, hf⟩ := h
  obtain ⟨a, b, h1, h2, h3⟩ := open_two hu he hc hce hf
  refine ⟨a, b, ?_, h2, h3⟩
  have : cs = #[.int k a, .int k b] := Array.ext' h1
  rw [this]
theorem wf_i64 {n : Int} (h : (Lit.int .i64 n).wf = true) : -9223372036854775808 ≤ n ∧ n ≤ 9223372036854775807 := by
  simp [Lit.wf, IntKind.min, IntKind.max, IntKind.signed, IntKind.bits] at h
  omega
theorem toBelow {w : World} {v : Value} {e : Ending} {w' : World} (h : e = .returned v ∧ Ext NoB w w') : e = .returned v ∧ Below w.heap.size w w' := ⟨h.1, h.2.below (Nat.le_refl _) fun _ h => h.elim⟩

theorem chachaTwice_core {H : Type} {enc : TypeId × Value → H} {base : Nat} (v0 v1 v2 : Value) (W : World) {d0 d1 d2 : DataW H} {p0 p1 p2 : List MemPlace} (h0 : DataW.Trod enc Try.prog W 0 (fun _ => true) true 23 v0 d0 p0) (h1 : DataW.Trod enc Try.prog W 0 (fun _ => true) true 24 v1 d1 p1) (h2 : DataW.Trod enc Try.prog W 0 (fun _ => true) true 32 v2 d2 p2)
    (o0 : Value.okWide Try.prog W .any base 23 v0) (o1 : Value.okWide Try.prog W .any base 24 v1) (o2 : Value.okWide Try.prog W .any base 32 v2) :
    Calls Try.prog 6 #[v0, v1, v2] W fun e w' => e = .returned (.bool true) ∧ Below W.heap.size W w' := by
  obtain ⟨K, rfl, hK, bK⟩ := open_key Try.underlying23 Try.cells23 h0 o0
  obtain ⟨N, rfl, hN, bN⟩ := open_key Try.underlying24 Try.cells24 h1 o1
  obtain ⟨bs, hb, bB⟩ := open_bytes h2 o2
  exact (twice_walk K N bs hK hN bK bN bB v2 W hb).mono fun e w' h => toBelow h
theorem chachaParts_core {H : Type} {enc : TypeId × Value → H} {base : Nat} (v0 v1 v2 : Value) (W : World) {d0 d1 d2 : DataW H} {p0 p1 p2 : List MemPlace} (h0 : DataW.Trod enc Try.prog W 0 (fun _ => true) true 23 v0 d0 p0) (h1 : DataW.Trod enc Try.prog W 0 (fun _ => true) true 24 v1 d1 p1) (h2 : DataW.Trod enc Try.prog W 0 (fun _ => true) true 31 v2 d2 p2)
    (o0 : Value.okWide Try.prog W .any base 23 v0) (o1 : Value.okWide Try.prog W .any base 24 v1) (o2 : Value.okWide Try.prog W .any base 31 v2) :
    Calls Try.prog 4 #[v0, v1, v2] W fun e w' => e = .returned (.bool true) ∧ Below W.heap.size W w' := by
  obtain ⟨K, rfl, hK, bK⟩ := open_key Try.underlying23 Try.cells23 h0 o0
  obtain ⟨N, rfl, hN, bN⟩ := open_key Try.underlying24 Try.cells24 h1 o1
  obtain ⟨a, b, rfl, w1, w2⟩ := open_pair Try.underlying31 Try.underlying5 Try.cells31 Try.cells5 h2 o2
  exact (parts_walk K N a b hK hN bK bN (wf_u8 w1) (wf_u8 w2) W).mono fun e w' h => toBelow h
theorem chachaStreams_core {H : Type} {enc : TypeId × Value → H} {base : Nat} (v0 v1 v2 : Value) (W : World) {d0 d1 d2 : DataW H} {p0 p1 p2 : List MemPlace} (h0 : DataW.Trod enc Try.prog W 0 (fun _ => true) true 23 v0 d0 p0) (h1 : DataW.Trod enc Try.prog W 0 (fun _ => true) true 32 v1 d1 p1) (h2 : DataW.Trod enc Try.prog W 0 (fun _ => true) true 37 v2 d2 p2)
    (o0 : Value.okWide Try.prog W .any base 23 v0) (o1 : Value.okWide Try.prog W .any base 32 v1) (o2 : Value.okWide Try.prog W .any base 37 v2) :
    Calls Try.prog 5 #[v0, v1, v2] W fun e w' => e = .returned (.bool true) ∧ Below W.heap.size W w' := by
  obtain ⟨K, rfl, hK, bK⟩ := open_key Try.underlying23 Try.cells23 h0 o0
  obtain ⟨bs, hb, bB⟩ := open_bytes h1 o1
  obtain ⟨a, b, rfl, w1, w2⟩ := open_pair Try.underlying37 Try.underlying3 Try.cells37 Try.cells3 h2 o2
  exact (streams_walk K bs a b hK bK bB v1 W hb (wf_i64 w1).1 (wf_i64 w1).2 (wf_i64 w2).1 (wf_i64 w2).2).mono fun e w' h => toBelow h
theorem chachaNoughts_core {H : Type} {enc : TypeId × Value → H} {base : Nat} (v0 v1 v2 : Value) (W : World) {d0 d1 d2 : DataW H} {p0 p1 p2 : List MemPlace} (h0 : DataW.Trod enc Try.prog W 0 (fun _ => true) true 23 v0 d0 p0) (h1 : DataW.Trod enc Try.prog W 0 (fun _ => true) true 32 v1 d1 p1) (h2 : DataW.Trod enc Try.prog W 0 (fun _ => true) true 32 v2 d2 p2)
    (o0 : Value.okWide Try.prog W .any base 23 v0) (o1 : Value.okWide Try.prog W .any base 32 v1) (o2 : Value.okWide Try.prog W .any base 32 v2) :
    Calls Try.prog 7 #[v0, v1, v2] W fun e w' => e = .returned (.bool true) ∧ Below W.heap.size W w' := by
  obtain ⟨K, rfl, hK, bK⟩ := open_key Try.underlying23 Try.cells23 h0 o0
  obtain ⟨xs, ha, bA⟩ := open_bytes h1 o1
  obtain ⟨bs, hb, bB⟩ := open_bytes h2 o2
  exact (noughts_walk K xs bs hK bK bA bB v1 v2 W ha hb).mono fun e w' h => toBelow h
end Go.Proofs.Ytcijbeagegonkaa
