/- The arguments of the laws of layer 24, as they lie in memory. -/
import Derived.Test.YtapckbbbcjaahaaNobody
import Derived.ProofKit
import Derived.OpenShut
import Derived.Lib.SmallJoins
import Derived.Deep.Slices
set_option linter.unusedVariables false
namespace Go.Proofs.Ytapckbbbcjaahaa
open Go.ChangeShapes Go.WideShapes Go.ChangeAt Go.RowKit Go.Deep Go.Joins

theorem Try.cells34 : Try.prog.cellsOf 34 = 4 := by kernel_rfl
theorem Try.cells5 : Try.prog.cellsOf 5 = 1 := by kernel_rfl
theorem Try.cells3 : Try.prog.cellsOf 3 = 1 := by kernel_rfl
theorem Try.cells32 : Try.prog.cellsOf 32 = 1 := by kernel_rfl

section
variable {H : Type} {enc : TypeId × Value → H} {w : World} {base : Nat} {spare : Nat → Bool} {held : Bool}
/-- A slice of bytes that came in. -/
theorem open_bytes {fuel : Nat} {cs : List Value} {x : DataW H × List MemPlace} (h : DataW.trod enc Try.prog w base spare held fuel 32 cs = some x) : ∃ v bs, cs = [v] ∧ Bytes w v bs := by
  rcases open_ints Try.underlying32 Try.underlying5 Try.cells5 h with ⟨hcs, _⟩ | ⟨a, len, cap, zs, hcs, _, hl, hm, hz, _, hcell, hwz⟩
  · exact ⟨_, [], hcs, Bytes.nil _⟩
  · have hlz : len ≤ zs.length := by rw [hz]; split <;> omega
    have htl : (zs.take len).length = len := by simp; omega
    refine ⟨_, zs.take len, hcs, .inr ⟨a, cap, by rw [htl], by omega, hm, fun j hj => ?_⟩⟩
    rw [htl] at hj
    rw [hcell j (by omega)]
    simp [List.getD_eq_getElem?_getD, hj]
/-- An Act's four cells. -/
structure ActC (w : World) (kd now dr : Int) (v : Value) (bs : List Int) : Prop where
  kd0 : 0 ≤ kd
  kd1 : kd ≤ 255
  dr0 : 0 ≤ dr
  dr1 : dr ≤ 255
  now0 : -9223372036854775808 ≤ now
  now1 : now ≤ 9223372036854775807
  bytes : Bytes w v bs
theorem open_act {fuel : Nat} {cs : List Value} {x : DataW H × List MemPlace} (h : DataW.trod enc Try.prog w base spare held fuel 34 cs = some x) :
    ∃ kd now dr v bs, cs = [.int .u8 kd, .int .i64 now, .int .u8 dr, v] ∧ ActC w kd now dr v bs := by
  obtain ⟨y0, y1, y2, y3, n, _, hlen, h0, h1, h2, h3⟩ := trod_struct4 Try.underlying34 h
  rw [Try.cells34] at hlen
  match cs, hlen with
  | [c0, c1, c2, c3], _ =>
    simp only [Try.cells5, Try.cells3, Try.cells32, List.drop_zero, List.drop_succ_cons, List.take_succ_cons, List.take_zero] at h0 h1 h2 h3
    obtain ⟨a, e0, _, w0⟩ := DataW.trod_int Try.underlying5 h0
    obtain ⟨b, e1, _, w1⟩ := DataW.trod_int Try.underlying3 h1
    obtain ⟨c, e2, _, w2⟩ := DataW.trod_int Try.underlying5 h2
    obtain ⟨v, bs, e3, hb⟩ := open_bytes h3
    simp only [List.cons.injEq, and_true] at e0 e1 e2 e3
    subst e0; subst e1; subst e2; subst e3
    exact ⟨a, b, c, c3, bs, rfl, ⟨(bounds_u8 w0).1, (bounds_u8 w0).2, (bounds_u8 w2).1, (bounds_u8 w2).2, (bounds_i64 w1).1, (bounds_i64 w1).2, hb⟩⟩
/-- A list of Acts that came in: each one's four cells. -/
def Acts (w : World) (A : Option Addr) (n : Nat) : Prop :=
  n ≤ maxLen ∧ ∀ i, i < n → ∃ b o kd now dr v bs, A = some ⟨b, o, none⟩ ∧ ActC w kd now dr v bs ∧ w.cell? ⟨b, o + i * 4, none⟩ = some (.int .u8 kd) ∧ w.cell? ⟨b, o + i * 4 + 1, none⟩ = some (.int .i64 now) ∧ w.cell? ⟨b, o + i * 4 + 2, none⟩ = some (.int .u8 dr) ∧ w.cell? ⟨b, o + i * 4 + 3, none⟩ = some v
theorem cells4 {a : Addr} {c0 c1 c2 c3 : Value} (h : w.cells? base a 4 = some [c0, c1, c2, c3]) : w.cell? (a.add 0) = some c0 ∧ w.cell? (a.add 1) = some c1 ∧ w.cell? (a.add 2) = some c2 ∧ w.cell? (a.add 3) = some c3 := by
  have h' := (World.cells?_some h).2.2
  exact ⟨h' 0 (by decide), h' 1 (by decide), h' 2 (by decide), h' 3 (by decide)⟩
theorem open_acts {fuel : Nat} {cs : List Value} {x : DataW H × List MemPlace} (h : DataW.trod enc Try.prog w base spare held fuel 23 cs = some x) : ∃ A n c, cs = [.slice A n c] ∧ Acts w A n := by
  rcases open_slice Try.underlying23 h with ⟨hcs, _⟩ | ⟨a, len, cap, m, n, D, Pl, hcs, _, hl, hm, hmm, _, hx⟩
  · exact ⟨_, _, _, hcs, Nat.zero_le _, fun i hi => absurd hi (Nat.not_lt_zero _)⟩
  · refine ⟨_, _, _, hcs, by omega, fun i hi => ?_⟩
    have hle : len ≤ m := by rw [hmm]; split <;> omega
    have hb : ∃ b' o', a = ⟨b', o', none⟩ := by
      obtain ⟨cs0, h1, h2⟩ := hx 0 (by omega)
      obtain ⟨_, _, _, _, _, rfl, _⟩ := open_act h2
      rw [Try.cells34, Nat.zero_mul] at h1
      obtain ⟨k0, _⟩ := cells4 h1
      have : (a.add 0).add 0 = a.add 0 := by simp [Addr.add]
      rw [this] at k0
      exact addr_plain k0
    obtain ⟨b', o', rfl⟩ := hb
    obtain ⟨cs', h1, h2⟩ := hx i (by omega)
    obtain ⟨kd, now, dr, v, bs, rfl, ha⟩ := open_act h2
    rw [Try.cells34] at h1
    obtain ⟨k0, k1, k2, k3⟩ := cells4 h1
    simp only [add_none, Nat.add_zero] at k0 k1 k2 k3
    exact ⟨b', o', kd, now, dr, v, bs, rfl, ha, k0, k1, k2, k3⟩
end
end Go.Proofs.Ytapckbbbcjaahaa
