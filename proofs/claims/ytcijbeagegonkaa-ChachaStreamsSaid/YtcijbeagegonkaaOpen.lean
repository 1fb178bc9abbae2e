/- The arguments of the laws of layer 5, as they lie in memory. -/
import Derived.Test.YtcijbeagegonkaaM
import Derived.Test.YtcijbeagegonkaaRows
import Derived.Test.YtcijbeagegonkaaChecked
import Derived.ProofKit
import Derived.OpenShut
import Derived.Lib.SmallJoins
import Derived.Deep.Slices
set_option linter.unusedVariables false
namespace Go.Proofs.Ytcijbeagegonkaa
open Go.ChangeShapes Go.WideShapes Go.ChangeAt Go.RowKit Go.Deep Go.Joins

theorem Try.cells5 : Try.prog.cellsOf 5 = 1 := by kernel_rfl
theorem okWide_arr {P : Program} {w : World} {r : Reach} {base : Nat} {t : TypeId} {v : Value} {n : Nat} {e : TypeId} (ht : P.underlying t = some (.array n e)) (h : Value.okWide P w r base t v) : ∃ cs, v = .agg cs ∧ cs.size = P.cellsOf t := by
  simp only [Value.okWide, ht] at h
  obtain ⟨cs, h1, h2, _⟩ := h
  exact ⟨cs, h1, h2⟩
theorem wf_u8 {n : Int} (h : (Lit.int .u8 n).wf = true) : B n := by
  simp [Lit.wf, IntKind.min, IntKind.max, IntKind.signed, IntKind.bits] at h
  unfold B; omega
theorem wf_u32 {n : Int} (h : (Lit.int .u32 n).wf = true) : U n := by
  simp [Lit.wf, IntKind.min, IntKind.max, IntKind.signed, IntKind.bits] at h
  unfold U; omega
theorem list_pick {α β : Type} (f : β → α) : ∀ (cs : List α), (∀ (i : Nat), i < cs.length → ∃ x, cs[i]? = some (f x)) → ∃ xs : List β, cs = xs.map f
  | [], _ => ⟨[], rfl⟩
  | c :: cs, h => by
    obtain ⟨x, hx⟩ := h 0 (by simp)
    obtain ⟨xs, hxs⟩ := list_pick f cs (fun i hi => by
      have := h (i + 1) (by simp; omega)
      simpa using this)
    refine ⟨x :: xs, ?_⟩
    simp at hx
    rw [hx, hxs]
    rfl
section
variable {H : Type} {enc : TypeId × Value → H} {w : World} {base : Nat} {spare : Nat → Bool} {held : Bool}
/-- An array of bytes. -/
theorem open_arr {fuel : Nat} {t n : Nat} (hu : Try.prog.underlying t = some (.array n 5)) (hc : Try.prog.cellsOf t = n) {cs : List Value} {x : DataW H × List MemPlace} (h : DataW.trod enc Try.prog w base spare held fuel t cs = some x) :
    ∃ xs, cs = bys xs ∧ xs.length = n ∧ Bs xs := by
  obtain ⟨ys, m, _, _, hl, hlen, hf⟩ := DataW.trod_array hu h
  rw [hc] at hl
  have key : ∀ (i : Nat), i < cs.length → ∃ a, cs[i]? = some (.int .u8 a) ∧ B a := fun i hi => by
    have e := hf i (by omega)
    rw [Try.cells5, Nat.mul_one] at e
    rw [List.getElem?_eq_getElem (by omega)] at e
    obtain ⟨a, k0, _, w0⟩ := DataW.trod_int Try.underlying5 e
    refine ⟨a, ?_, wf_u8 w0⟩
    have := congrArg (fun l => l[0]?) k0
    simpa using this
  obtain ⟨xs, hxs⟩ := list_pick (Value.int .u8) cs (fun i hi => by obtain ⟨a, h1, _⟩ := key i hi; exact ⟨a, h1⟩)
  refine ⟨xs, hxs, by rw [← hl, hxs]; simp, fun a ha => ?_⟩
  obtain ⟨i, hi, he⟩ := List.mem_iff_getElem.1 ha
  obtain ⟨b, h1, h2⟩ := key i (by rw [hxs]; simpa using hi)
  rw [hxs] at h1
  simp [List.getElem?_eq_getElem hi, he] at h1
  rw [h1]; exact h2
end
/-- A number that was read. -/
theorem open_num {H : Type} {enc : TypeId × Value → H} {W : World} {r : Reach} {base b2 : Nat} {t : TypeId} {k : IntKind} (hu : Try.prog.underlying t = some (.int k)) {v : Value} {d : DataW H} {p : List MemPlace}
    (h : DataW.Trod enc Try.prog W base (fun _ => true) true t v d p) (o : Value.okWide Try.prog W r b2 t v) : ∃ n, v = .int k n ∧ (Lit.int k n).wf = true := by
  obtain ⟨n, rfl⟩ := okWide_int hu o
  obtain ⟨fuel, hf⟩ := h
  obtain ⟨m, h1, _, h3⟩ := DataW.trod_int hu hf
  simp [Value.cells] at h1
  subst h1
  exact ⟨n, rfl, h3⟩
theorem Try.cells23 : Try.prog.cellsOf 23 = 32 := by kernel_rfl
theorem Try.cells24 : Try.prog.cellsOf 24 = 12 := by kernel_rfl
/-- A key that was read. -/
theorem open_key {H : Type} {enc : TypeId × Value → H} {W : World} {r : Reach} {base b2 : Nat} {t n : Nat} (hu : Try.prog.underlying t = some (.array n 5)) (hc : Try.prog.cellsOf t = n) {v : Value} {d : DataW H} {p : List MemPlace}
    (h : DataW.Trod enc Try.prog W base (fun _ => true) true t v d p) (o : Value.okWide Try.prog W r b2 t v) : ∃ xs, v = Arr xs ∧ xs.length = n ∧ Bs xs := by
  obtain ⟨cs, rfl, hsz⟩ := okWide_arr hu o
  obtain ⟨fuel, hf⟩ := h
  obtain ⟨xs, h1, h2, h3⟩ := open_arr hu hc hf
  refine ⟨xs, ?_, h2, h3⟩
  unfold Arr
  rw [← h1]
  simp [Value.cells]

theorem chachaBlocks_core {H : Type} {enc : TypeId × Value → H} {base : Nat} (v0 v1 v2 : Value) (W : World) {d0 d1 d2 : DataW H} {p0 p1 p2 : List MemPlace} (h0 : DataW.Trod enc Try.prog W 0 (fun _ => true) true 23 v0 d0 p0) (h1 : DataW.Trod enc Try.prog W 0 (fun _ => true) true 24 v1 d1 p1) (h2 : DataW.Trod enc Try.prog W 0 (fun _ => true) true 25 v2 d2 p2)
    (o0 : Value.okWide Try.prog W .any base 23 v0) (o1 : Value.okWide Try.prog W .any base 24 v1) (o2 : Value.okWide Try.prog W .any base 25 v2) :
    Calls Try.prog 3 #[v0, v1, v2] W fun e w' => e = .returned (.bool true) ∧ Below W.heap.size W w' := by
  obtain ⟨K, rfl, hK, bK⟩ := open_key Try.underlying23 Try.cells23 h0 o0
  obtain ⟨N, rfl, hN, bN⟩ := open_key Try.underlying24 Try.cells24 h1 o1
  obtain ⟨c, rfl, hc⟩ := open_num Try.underlying25 h2 o2
  exact (blocks_walk K N c hK hN bK bN (wf_u32 hc) W).mono fun e w' ⟨h, x⟩ => ⟨h, x.below (Nat.le_refl _) fun _ h => h.elim⟩
end Go.Proofs.Ytcijbeagegonkaa
