/- A list of items of the document's that came in. -/
import Derived.Test.YtaphhadahajohaaCore1
set_option linter.unusedVariables false
namespace Go.Proofs.Ytaphhadahajohaa
open Go.ChangeShapes Go.WideShapes Go.ChangeAt Go.RowKit Go.Deep Go.Joins
def Items (w : World) (A : Option Addr) (n : Nat) : Prop :=
  n ≤ maxLen ∧ ∀ i, i < n → ∃ b o due dest, A = some ⟨b, o, none⟩ ∧ (-9223372036854775808 ≤ due ∧ due ≤ 9223372036854775807) ∧ w.cell? ⟨b, o + i * 3, none⟩ = some (.int .i64 due) ∧ w.cell? ⟨b, o + i * 3 + 1, none⟩ = some (.int .i64 dest)
theorem cells3 {w : World} {base : Nat} {a : Addr} {c0 c1 c2 : Value} (h : w.cells? base a 3 = some [c0, c1, c2]) : w.cell? (a.add 0) = some c0 ∧ w.cell? (a.add 1) = some c1 ∧ w.cell? (a.add 2) = some c2 := by
  have h' := (World.cells?_some h).2.2
  exact ⟨h' 0 (by decide), h' 1 (by decide), h' 2 (by decide)⟩
section
variable {H : Type} {enc : TypeId × Value → H} {w : World} {base : Nat} {spare : Nat → Bool} {held : Bool}
theorem open_items {fuel : Nat} {cs : List Value} {x : DataW H × List MemPlace} (h : DataW.trod enc Try.prog w base spare held fuel 22 cs = some x) : ∃ A n c, cs = [.slice A n c] ∧ Items w A n := by
  rcases open_slice Try.underlying22 h with ⟨hcs, _⟩ | ⟨a, len, cap, m, n, D, Pl, hcs, _, hl, hm, hmm, _, hx⟩
  · exact ⟨_, _, _, hcs, Nat.zero_le _, fun i hi => absurd hi (Nat.not_lt_zero _)⟩
  · refine ⟨_, _, _, hcs, by omega, fun i hi => ?_⟩
    have hle : len ≤ m := by rw [hmm]; split <;> omega
    have hb : ∃ b' o', a = ⟨b', o', none⟩ := by
      obtain ⟨cs0, h1, h2⟩ := hx 0 (by omega)
      obtain ⟨_, _, _, _, _, rfl, _⟩ := open_item h2
      rw [Try.cells30, Nat.zero_mul] at h1
      obtain ⟨k0, _⟩ := cells3 h1
      have : (a.add 0).add 0 = a.add 0 := by simp [Addr.add]
      rw [this] at k0
      exact addr_plain k0
    obtain ⟨b', o', rfl⟩ := hb
    obtain ⟨cs', h1, h2⟩ := hx i (by omega)
    obtain ⟨due, dest, Ab, c, bs, rfl, hbs, wd, _⟩ := open_item h2
    rw [Try.cells30] at h1
    obtain ⟨k0, k1, k2⟩ := cells3 h1
    simp only [add_none, Nat.add_zero] at k0 k1 k2
    exact ⟨b', o', due, dest, rfl, bounds_i64' wd, k0, k1⟩
end
theorem open_itemsv {H : Type} {enc : TypeId × Value → H} {W : World} {r : Reach} {base b2 : Nat} {v : Value} {d : DataW H} {p : List MemPlace}
    (h : DataW.Trod enc Try.prog W base (fun _ => true) true 22 v d p) (o : Value.okWide Try.prog W r b2 22 v) : ∃ A n c, v = .slice A n c ∧ Items W A n := by
  obtain ⟨A, n, c, rfl⟩ := okWide_slice Try.underlying22 o
  obtain ⟨fuel, hf⟩ := h
  obtain ⟨A', n', c', hcs1, ha⟩ := open_items hf
  have he : Value.slice A n c = Value.slice A' n' c' := by simpa [Value.cells] using hcs1
  injection he with e1 e2 e3
  subst e1; subst e2; subst e3
  exact ⟨A, n, c, rfl, ha⟩
/-- The i-th item, in a later world. -/
theorem Items.at' {w wr : World} {A : Option Addr} {n : Nat} (h : Items w A n) (hb : Below w.heap.size w wr) {i : Nat} (hi : i < n) :
    ∃ b o due dest, A = some ⟨b, o, none⟩ ∧ b < w.heap.size ∧ (-9223372036854775808 ≤ due ∧ due ≤ 9223372036854775807) ∧ wr.cell? ⟨b, o + i * 3, none⟩ = some (.int .i64 due) ∧ wr.cell? ⟨b, o + i * 3 + 1, none⟩ = some (.int .i64 dest) := by
  obtain ⟨b, o, due, dest, h1, h2, k0, k1⟩ := h.2 i hi
  have K : ∀ p v, w.cell? p = some v → wr.cell? p = some v := fun p v hv => (hb.cell (World.block_lt_of_cell? _ _ hv)).trans hv
  exact ⟨b, o, due, dest, h1, World.block_lt_of_cell? _ _ k0, h2, K _ _ k0, K _ _ k1⟩
end Go.Proofs.Ytaphhadahajohaa
