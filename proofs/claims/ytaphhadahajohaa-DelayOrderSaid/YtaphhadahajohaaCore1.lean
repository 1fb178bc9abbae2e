/- DelayLens, over what its arguments read as. -/
import Derived.Test.YtaphhadahajohaaS
set_option linter.unusedVariables false
namespace Go.Proofs.Ytaphhadahajohaa
open Go.ChangeShapes Go.WideShapes Go.ChangeAt Go.RowKit Go.Deep Go.Joins
/-- A whole number that was read. -/
theorem open_num {H : Type} {enc : TypeId × Value → H} {W : World} {r : Reach} {base b2 : Nat} {t : TypeId} {k : IntKind} (hu : Try.prog.underlying t = some (.int k)) {v : Value} {d : DataW H} {p : List MemPlace}
    (h : DataW.Trod enc Try.prog W base (fun _ => true) true t v d p) (o : Value.okWide Try.prog W r b2 t v) : ∃ n, v = .int k n ∧ (Lit.int k n).wf = true := by
  obtain ⟨n, rfl⟩ := okWide_int hu o
  obtain ⟨fuel, hf⟩ := h
  obtain ⟨m, h1, _, h3⟩ := DataW.trod_int hu hf
  simp [Value.cells] at h1
  subst h1
  exact ⟨n, rfl, h3⟩
/-- A list of Acts that was read. -/
theorem open_actsv {H : Type} {enc : TypeId × Value → H} {W : World} {r : Reach} {base b2 : Nat} {v : Value} {d : DataW H} {p : List MemPlace}
    (h : DataW.Trod enc Try.prog W base (fun _ => true) true 36 v d p) (o : Value.okWide Try.prog W r b2 36 v) : ∃ A n c, v = .slice A n c ∧ Acts W A n := by
  obtain ⟨A, n, c, rfl⟩ := okWide_slice Try.underlying36 o
  obtain ⟨fuel, hf⟩ := h
  obtain ⟨A', n', c', hcs1, ha⟩ := open_acts hf
  have he : Value.slice A n c = Value.slice A' n' c' := by simpa [Value.cells] using hcs1
  injection he with e1 e2 e3
  subst e1; subst e2; subst e3
  exact ⟨A, n, c, rfl, ha⟩
theorem delayLens_core {H : Type} {enc : TypeId × Value → H} {base : Nat} (v0 v1 : Value) (W : World) {d0 d1 : DataW H} {p0 p1 : List MemPlace} (h0 : DataW.Trod enc Try.prog W 0 (fun _ => true) true 5 v0 d0 p0) (h1 : DataW.Trod enc Try.prog W 0 (fun _ => true) true 36 v1 d1 p1)
    (o0 : Value.okWide Try.prog W .any base 5 v0) (o1 : Value.okWide Try.prog W .any base 36 v1) :
    Calls Try.prog 6 #[v0, v1] W fun e w' => e = .returned (.bool true) ∧ Below W.heap.size W w' := by
  obtain ⟨s, rfl, hs⟩ := open_num Try.underlying5 h0 o0
  obtain ⟨A, n, c, rfl, ha⟩ := open_actsv h1 o1
  obtain ⟨s0, s1⟩ := bounds_u8 hs
  exact lens_walk s s0 s1 A n c W ha
end Go.Proofs.Ytaphhadahajohaa
