/-
  ReplayOnce: what holds between two rounds; laws for its walk.
-/
import Derived.Test.YteidkdbngjhopaaBa
set_option linter.unusedVariables false
set_option linter.unusedSimpArgs false
namespace Go.Proofs.Yteidkdbngjhopaa
open Go.RowKit Go.Maps

def since (T : List Ent) (low : Int) : List Ent := T.filter (fun e => decide (low ≤ e.1))
theorem since_mem {T : List Ent} {low : Int} {e : Ent} (h : e ∈ T) : e ∈ since T low ↔ low ≤ e.1 := by
  unfold since; rw [List.mem_filter]; simp [h]
theorem since_keep (T : List Ent) (low g : Int) : keepG (since T low) g = since T (max low g) := by
  unfold keepG since
  rw [List.filter_filter]
  apply List.filter_congr
  intro e _
  rw [← Bool.decide_and, decide_eq_decide]
  omega
theorem since_add {T : List Ent} {low g : Int} {t : List Int} (h : low ≤ g) : since (T ++ [(g, t)]) low = since T low ++ [(g, t)] := by
  unfold since
  rw [List.filter_append]
  simp [h]
theorem since_len (T : List Ent) (low : Int) : (since T low).length ≤ T.length := List.length_filter_le _ _
theorem AddE_zero {room low g : Int} {E : List Ent} {t : List Int} (h : AddE room low E g t = 0) : low ≤ g ∧ (g, t) ∉ E := by
  unfold AddE at h
  by_cases h1 : g < 0
  · rw [if_pos h1] at h; exact absurd h (by decide)
  · rw [if_neg h1] at h
    by_cases h2 : g < low
    · rw [if_pos h2] at h; exact absurd h (by decide)
    · rw [if_neg h2] at h
      by_cases h3 : (g, t) ∈ E
      · rw [if_pos h3] at h; exact absurd h (by decide)
      · exact ⟨by omega, h3⟩
/-- Between two rounds. -/
structure TS (w W : World) (p tb : Nat) (size low : Int) (T : List Ent) (F : Nat → Prop) : Prop where
  cs : CS W p size low (since T low) F
  tm : TM W tb T
  own : ∀ k, F k → w.heap.size ≤ k ∧ k ≠ tb ∧ k < W.heap.size
  x : Below w.heap.size w W
  tb : w.heap.size ≤ tb
theorem TS.ext {w W W' : World} {p tb : Nat} {size low : Int} {T : List Ent} {F : Nat → Prop} (h : TS w W p tb size low T F) (hx : Ext NoB W W') : TS w W' p tb size low T F :=
  ⟨h.cs.ext hx (fun _ _ h => h), h.tm.ext hx id, fun k hk => ⟨(h.own k hk).1, (h.own k hk).2.1, Nat.lt_of_lt_of_le (h.own k hk).2.2 hx.size⟩, h.x.trans (hx.below h.x.size fun _ h => h.elim), h.tb⟩
theorem TS.step {w W W1 W2 : World} {p tb : Nat} {size low low2 : Int} {T T2 : List Ent} {F G : Nat → Prop} (h : TS w W p tb size low T F) (x1 : Ext F W W1) (hcs : CS W1 p size low2 (since T2 low2) G) (hG : ∀ k, G k → F k ∨ W.heap.size ≤ k)
    (x2 : Ext (fun k => k = tb) W1 W2) (htm : TM W2 tb T2) : TS w W2 p tb size low2 T2 (fun k => G k ∧ k < W1.heap.size) := by
  have hlt := h.tm.lt
  have hg : ∀ k, G k ∧ k < W1.heap.size → w.heap.size ≤ k ∧ k ≠ tb ∧ k < W2.heap.size := fun k hk => by
    have := x2.size
    rcases hG k hk.1 with h1 | h1
    · have := h.own k h1; exact ⟨this.1, this.2.1, by omega⟩
    · have := h.x.size; exact ⟨by omega, by omega, by omega⟩
  exact ⟨(hcs.mono fun k hk hg => ⟨hg, hk⟩).ext x2 (fun k hk e => (hg k hk).2.1 e), htm, hg, h.x.trans ((x1.below h.x.size fun k hk => (h.own k hk).1).trans (x2.below (Nat.le_trans h.x.size x1.size) fun k hk => by rw [hk]; exact h.tb)), h.tb⟩
theorem run_build49' (w : World) (g : Int) (b0 b1 b2 b3 b4 b5 b6 b7 b8 b9 b10 b11 b12 b13 b14 b15 : Value) : (Instr.build 49 #[(0, .int .i64 g), (1, .agg #[b0, b1, b2, b3, b4, b5, b6, b7, b8, b9, b10, b11, b12, b13, b14, b15])]).run Try.prog w = .ok (.agg #[.int .i64 g, b0, b1, b2, b3, b4, b5, b6, b7, b8, b9, b10, b11, b12, b13, b14, b15]) w := by kernel_rfl
theorem run_build49 (w : World) (g : Int) (B : List Value) (hB : B.length = 16) : (Instr.build 49 #[(0, .int .i64 g), (1, .agg B.toArray)]).run Try.prog w = .ok (.agg (.int .i64 g :: B).toArray) w := by
  match B, hB with
  | [b0, b1, b2, b3, b4, b5, b6, b7, b8, b9, b10, b11, b12, b13, b14, b15], _ => exact run_build49' w g b0 b1 b2 b3 b4 b5 b6 b7 b8 b9 b10 b11 b12 b13 b14 b15
theorem yieldsIf_build49 {ops : Array Oper} {S : World → Prop} {op : Oper} {a : Act} (hw : Region.wanted op (yielded ops a.tmps) = true) (x y : Operand) (ho : op.op = .build 49 #[(0, x), (1, y)])
    (g : Int) (B : List Value) (hB : B.length = 16) (hx : a.eval x = .int .i64 g) (hy : a.eval y = .agg B.toArray) : YieldsIf Try.prog ops S op (.agg (Value.int .i64 g :: B).toArray) a :=
  .inl ⟨hw, fun w _ => by
    have hr := run_build49 w g B hB
    unfold execOp
    simp only [ho, List.map_toArray, List.map_cons, List.map_nil, hx, hy, Sem.run_bind, Sem.run_pure, hr, Result.andThen_ok]⟩
/-- The step of the loop over the map. -/
theorem wpList_next_T {ops : Array Oper} {rest : List Oper} {o : Oper} {a : Act} {w : World} {Q : Exit → Act → World → Prop} (hg : o.guard = none) (it : Operand) (hop : o.op = Op.next it false) (T : List Ent) (tb r : Nat) (D : DataW Unit) (left : Lit → Bool) (cnt : Nat)
    (hit : a.eval it = .pointer (some ⟨r, 0, none⟩)) (h : w.ranges Try.prog 49 pE tb r T.length D left cnt) (hsub : ∀ kl, left kl = true → Maps.has D kl = true) (hD : TMD T D) (hnd : T.Nodup) (hok : ∀ e ∈ T, EntOk e)
    (hDone : wpList Try.prog ops Q rest (a.put o.dst (.tuple #[.bool false])) w)
    (hMore : ∀ (e : Ent) (left' : Lit → Bool) (w' : World) (cnt' : Nat), e ∈ T → (∀ kl, left' kl = true → Maps.has D kl = true) → w'.ranges Try.prog 49 pE tb r T.length D left' cnt' → cnt' < cnt →
      w.grownBy w' (some r) → (Instr.entry (.pointer (some ⟨r, 0, none⟩))).run Try.prog w' = .ok (.tuple #[ev e, .int .i64 1]) w' → wpList Try.prog ops Q rest (a.put o.dst (.tuple #[.bool true, ev e, .int .i64 1])) w') :
    wpList Try.prog ops Q (o :: rest) a w := by
  refine wpList_next_ranges w hg it hop 49 keyed49 pE (fun v : Value => v) (Value.int .i64) (fun key kl _ => ⟨key, rfl⟩) (fun v y hv => by obtain ⟨c, rfl, _⟩ := plainElem_int_inv Try.underlying3 hv; exact ⟨c, rfl⟩) tb r T.length D left cnt hit h (fun _ _ => hDone) ?_
  intro x c kl y w' cnt' hkey hlx hv hat hrg hlt hg1 hs1 hen
  obtain ⟨e, he, rfl⟩ := TMD.has h.owns hD hnd hok (hsub kl hlx)
  have hx : x = ev e := keyed49.inj hkey (keyOf49 (hok e he))
  subst hx
  obtain ⟨c', ec, rfl, _⟩ := plainElem_int_inv Try.underlying3 hv
  cases ec
  have h1 := hat (.lit (.int .i64 0))
  rw [hD.2.2 e he] at h1
  injection h1 with h1
  injection h1 with _ h1
  subst h1
  exact hMore e _ w' cnt' he (fun kl h2 => hsub kl (by simp at h2; exact h2.1)) hrg hlt hg1 hen
end Go.Proofs.Yteidkdbngjhopaa
