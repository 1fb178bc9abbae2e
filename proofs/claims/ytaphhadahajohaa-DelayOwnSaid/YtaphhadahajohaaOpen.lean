/- The arguments of the laws of layer 15, as they lie in memory. -/
import Derived.Test.YtaphhadahajohaaR
import Derived.Test.YtaphhadahajohaaRows
import Derived.Test.YtaphhadahajohaaChecked
import Derived.ProofKit
import Derived.OpenShut
import Derived.Lib.SmallJoins
import Derived.Deep.Slices
set_option linter.unusedVariables false
namespace Go.Proofs.Ytaphhadahajohaa
open Go.ChangeShapes Go.WideShapes Go.ChangeAt Go.RowKit Go.Deep Go.Joins

theorem Try.cells40 : Try.prog.cellsOf 40 = 4 := by kernel_rfl
theorem Try.cells30 : Try.prog.cellsOf 30 = 3 := by kernel_rfl
theorem Try.cells5 : Try.prog.cellsOf 5 = 1 := by kernel_rfl
theorem Try.cells3 : Try.prog.cellsOf 3 = 1 := by kernel_rfl
theorem Try.cells28 : Try.prog.cellsOf 28 = 1 := by kernel_rfl

section
variable {H : Type} {enc : TypeId × Value → H} {w : World} {base : Nat} {spare : Nat → Bool} {held : Bool}
/-- A slice of bytes that came in. -/
theorem open_bytes {fuel : Nat} {cs : List Value} {x : DataW H × List MemPlace} (h : DataW.trod enc Try.prog w base spare held fuel 28 cs = some x) : ∃ A c bs, cs = [.slice A (List.length bs) c] ∧ Bytes w (.slice A bs.length c) bs := by
  rcases open_ints Try.underlying28 Try.underlying5 Try.cells5 h with ⟨hcs, _⟩ | ⟨a, len, cap, zs, hcs, _, hl, hm, hz, _, hcell, hwz⟩
  · exact ⟨none, 0, [], hcs, Bytes.nil _⟩
  · have hlz : len ≤ zs.length := by rw [hz]; split <;> omega
    have htl : (zs.take len).length = len := by simp; omega
    refine ⟨some a, cap, zs.take len, by rw [htl]; exact hcs, .inr ⟨a, cap, by rw [htl], by omega, hm, fun j hj => ?_⟩⟩
    rw [htl] at hj
    rw [hcell j (by omega)]
    simp [List.getD_eq_getElem?_getD, hj]
theorem bounds_i64' {n : Int} (h : (Lit.int .i64 n).wf = true) : -9223372036854775808 ≤ n ∧ n ≤ 9223372036854775807 := bounds_i64 h
/-- An item that came in. -/
theorem open_item {fuel : Nat} {cs : List Value} {x : DataW H × List MemPlace} (h : DataW.trod enc Try.prog w base spare held fuel 30 cs = some x) :
    ∃ due dest A c bs, cs = [.int .i64 due, .int .i64 dest, .slice A (List.length bs) c] ∧ Bytes w (.slice A bs.length c) bs ∧ (Lit.int .i64 due).wf = true ∧ (Lit.int .i64 dest).wf = true := by
  obtain ⟨y0, y1, y2, n, _, hlen, h0, h1, h2⟩ := trod_struct3 Try.underlying30 h
  rw [Try.cells30] at hlen
  match cs, hlen with
  | [c0, c1, c2], _ =>
    simp only [Try.cells3, Try.cells28, List.drop_zero, List.drop_succ_cons, List.take_succ_cons, List.take_zero] at h0 h1 h2
    obtain ⟨a, e0, _, w0⟩ := DataW.trod_int Try.underlying3 h0
    obtain ⟨b, e1, _, w1⟩ := DataW.trod_int Try.underlying3 h1
    obtain ⟨A, c, bs, e2, hb⟩ := open_bytes h2
    simp only [List.cons.injEq, and_true] at e0 e1 e2
    subst e0; subst e1; subst e2
    exact ⟨a, b, A, c, bs, rfl, hb, w0, w1⟩
theorem open_act {fuel : Nat} {cs : List Value} {x : DataW H × List MemPlace} (h : DataW.trod enc Try.prog w base spare held fuel 40 cs = some x) :
    ∃ kd due dest A c bs, cs = [.int .u8 kd, .int .i64 due, .int .i64 dest, .slice A (List.length bs) c] ∧ Bytes w (.slice A bs.length c) bs ∧ (0 ≤ kd ∧ kd ≤ 255) := by
  obtain ⟨y0, y1, n, _, hlen, h0, h1⟩ := trod_struct2 Try.underlying40 h
  rw [Try.cells40] at hlen
  match cs, hlen with
  | [c0, c1, c2, c3], _ =>
    simp only [Try.cells5, Try.cells30, List.drop_zero, List.drop_succ_cons, List.take_succ_cons, List.take_zero] at h0 h1
    obtain ⟨a, e0, _, w0⟩ := DataW.trod_int Try.underlying5 h0
    obtain ⟨due, dest, A, c, bs, e1, hb, _⟩ := open_item h1
    simp only [List.cons.injEq, and_true] at e0 e1
    subst e0
    obtain ⟨rfl, rfl, rfl⟩ := e1
    exact ⟨a, due, dest, A, c, bs, rfl, hb, bounds_u8 w0⟩
/-- A list of Acts that came in: each one's four cells. -/
def Acts (w : World) (A : Option Addr) (n : Nat) : Prop :=
  n ≤ maxLen ∧ ∀ i, i < n → ∃ b o kd due dest Ab c bs, A = some ⟨b, o, none⟩ ∧ Bytes w (.slice Ab (List.length bs) c) bs ∧ 0 ≤ kd ∧ kd ≤ 255 ∧ w.cell? ⟨b, o + i * 4, none⟩ = some (.int .u8 kd) ∧ w.cell? ⟨b, o + i * 4 + 1, none⟩ = some (.int .i64 due) ∧ w.cell? ⟨b, o + i * 4 + 2, none⟩ = some (.int .i64 dest) ∧ w.cell? ⟨b, o + i * 4 + 3, none⟩ = some (.slice Ab bs.length c)
theorem cells4 {a : Addr} {c0 c1 c2 c3 : Value} (h : w.cells? base a 4 = some [c0, c1, c2, c3]) : w.cell? (a.add 0) = some c0 ∧ w.cell? (a.add 1) = some c1 ∧ w.cell? (a.add 2) = some c2 ∧ w.cell? (a.add 3) = some c3 := by
  have h' := (World.cells?_some h).2.2
  exact ⟨h' 0 (by decide), h' 1 (by decide), h' 2 (by decide), h' 3 (by decide)⟩
theorem open_acts {fuel : Nat} {cs : List Value} {x : DataW H × List MemPlace} (h : DataW.trod enc Try.prog w base spare held fuel 36 cs = some x) : ∃ A n c, cs = [.slice A n c] ∧ Acts w A n := by
  rcases open_slice Try.underlying36 h with ⟨hcs, _⟩ | ⟨a, len, cap, m, n, D, Pl, hcs, _, hl, hm, hmm, _, hx⟩
  · exact ⟨_, _, _, hcs, Nat.zero_le _, fun i hi => absurd hi (Nat.not_lt_zero _)⟩
  · refine ⟨_, _, _, hcs, by omega, fun i hi => ?_⟩
    have hle : len ≤ m := by rw [hmm]; split <;> omega
    have hb : ∃ b' o', a = ⟨b', o', none⟩ := by
      obtain ⟨cs0, h1, h2⟩ := hx 0 (by omega)
      obtain ⟨_, _, _, _, _, _, rfl, _⟩ := open_act h2
      rw [Try.cells40, Nat.zero_mul] at h1
      obtain ⟨k0, _⟩ := cells4 h1
      have : (a.add 0).add 0 = a.add 0 := by simp [Addr.add]
      rw [this] at k0
      exact addr_plain k0
    obtain ⟨b', o', rfl⟩ := hb
    obtain ⟨cs', h1, h2⟩ := hx i (by omega)
    obtain ⟨kd, due, dest, Ab, c, bs, rfl, hbs, hk1, hk2⟩ := open_act h2
    rw [Try.cells40] at h1
    obtain ⟨k0, k1, k2, k3⟩ := cells4 h1
    simp only [add_none, Nat.add_zero] at k0 k1 k2 k3
    exact ⟨b', o', kd, due, dest, Ab, c, bs, rfl, hbs, hk1, hk2, k0, k1, k2, k3⟩
end
/-- The i-th Act, in a later world. -/
theorem Acts.at' {w wr : World} {A : Option Addr} {n : Nat} (h : Acts w A n) (hb : Below w.heap.size w wr) {i : Nat} (hi : i < n) :
    ∃ b o kd due dest Ab c bs, A = some ⟨b, o, none⟩ ∧ Bytes w (.slice Ab (List.length bs) c) bs ∧ 0 ≤ kd ∧ kd ≤ 255 ∧ wr.cell? ⟨b, o + i * 4, none⟩ = some (.int .u8 kd) ∧ wr.cell? ⟨b, o + i * 4 + 1, none⟩ = some (.int .i64 due) ∧ wr.cell? ⟨b, o + i * 4 + 2, none⟩ = some (.int .i64 dest) ∧ wr.cell? ⟨b, o + i * 4 + 3, none⟩ = some (.slice Ab bs.length c) := by
  obtain ⟨b, o, kd, due, dest, Ab, c, bs, h1, h2, h3, h4, k0, k1, k2, k3⟩ := h.2 i hi
  have K : ∀ p v, w.cell? p = some v → wr.cell? p = some v := fun p v hv => (hb.cell (World.block_lt_of_cell? _ _ hv)).trans hv
  exact ⟨b, o, kd, due, dest, Ab, c, bs, h1, h2, h3, h4, K _ _ k0, K _ _ k1, K _ _ k2, K _ _ k3⟩
/-- Bytes of an argument, in a later world. -/
theorem Bytes.later {w wr : World} {v : Value} {bs : List Int} (h : Bytes w v bs) (hb : Below w.heap.size w wr) : Bytes wr v bs := by
  rcases h with h | ⟨a, c, rfl, h1, h2, h3⟩
  · exact .inl h
  · exact .inr ⟨a, c, rfl, h1, h2, fun j hj => (hb.cell (World.block_lt_of_cell? _ _ (h3 j hj))).trans (h3 j hj)⟩
end Go.Proofs.Ytaphhadahajohaa
