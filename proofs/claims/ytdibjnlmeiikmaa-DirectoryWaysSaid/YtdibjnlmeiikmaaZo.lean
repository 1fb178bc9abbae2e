/-
  Route's answer, whole; commands and hops, compared.
-/
import Derived.Test.YtdibjnlmeiikmaaZm
import Derived.Laws.StructEq
set_option linter.unusedVariables false
set_option linter.unusedSimpArgs false
namespace Go.Proofs.Ytdibjnlmeiikmaa
open Go.RowKit Go.Proofs

noncomputable def ansE (l pv : Int) (L : List Nd) (m : Cm) (n : Nat) : Int :=
  if chk l L = 0 then (if mayC m = false ∨ m.kind = 1 then 2 else if idxF (prv pv) (layL L (l - 1)) 0 = -1 then 9 else if (n : Int) < 2 * (l - 1) then 4 else 0) else chk l L
def provN (l pv : Int) (L : List Nd) : Nd := (layL L (l - 1)).getD (idxF (prv pv) (layL L (l - 1)) 0).toNat default
noncomputable def ansH (l pv : Int) (L : List Nd) (m : Cm) (D : List Int) : List Hp :=
  if ansE l pv L m D.length = 0 then (List.range l.toNat).map (hopAt l.toNat L D (provN l pv L) m) else []
noncomputable def ansF (l pv : Int) (L : List Nd) (m : Cm) (D : List Int) : Int :=
  if ansE l pv L m D.length = 0 then (nodeAt l.toNat L D (provN l pv L) 0).id else 0
theorem idx_cases {p : Nd → Bool} (L : List Nd) : idxF p L 0 = -1 ∨ ∃ i : Nat, i < L.length ∧ idxF p L 0 = (i : Int) := by
  by_cases h : ∃ n ∈ L, p n = true
  · obtain ⟨i, hi, he⟩ := idx_at L 0 h
    exact .inr ⟨i, hi, by rw [he, Nat.zero_add]⟩
  · exact .inl (idx_none L 0 (fun n hn => by
      cases hq : p n with
      | true => exact absurd ⟨n, hn, hq⟩ h
      | false => rfl))
theorem HR.nil (w : World) : HR w (.slice none 0 0) [] := QRow.nil _ _ _
theorem route12 (l pv : Int) (A DA : Option Addr) (c dc : Nat) (L : List Nd) (D : List Int) (m : Cm) (w : World) (hr : NRd w A c L) (hok : ∀ n ∈ L, NdOk n) (hlen : L.length ≤ 1000) (hD : Dr w DA dc D) :
    Calls Try.prog 12 #[dirv l A L.length c, .int .i64 pv, .agg (cc m).toArray, .slice DA D.length dc] w fun e' w' => ∃ A' c', e' = .returned (.tuple #[.int .i64 (ansF l pv L m D), .slice A' (ansH l pv L m D).length c', .int .i64 (ansE l pv L m D.length)]) ∧ HR w' (.slice A' (ansH l pv L m D).length c') (ansH l pv L m D) ∧ Ext NoB w w' := by
  have bad : ∀ x : Int, x ≠ 0 → ansE l pv L m D.length = x → Calls Try.prog 12 #[dirv l A L.length c, .int .i64 pv, .agg (cc m).toArray, .slice DA D.length dc] w (fun e w' => e = .returned (.tuple #[.int .i64 0, .slice none 0 0, .int .i64 x]) ∧ Ext NoB w w') →
      Calls Try.prog 12 #[dirv l A L.length c, .int .i64 pv, .agg (cc m).toArray, .slice DA D.length dc] w fun e' w' => ∃ A' c', e' = .returned (.tuple #[.int .i64 (ansF l pv L m D), .slice A' (ansH l pv L m D).length c', .int .i64 (ansE l pv L m D.length)]) ∧ HR w' (.slice A' (ansH l pv L m D).length c') (ansH l pv L m D) ∧ Ext NoB w w' := by
    intro x hx he h
    have e1 : ansF l pv L m D = 0 := by unfold ansF; rw [he, if_neg hx]
    have e2 : ansH l pv L m D = [] := by unfold ansH; rw [he, if_neg hx]
    rw [e1, e2, he]
    exact h.mono fun e w' ⟨h1, h2⟩ => ⟨none, 0, h1, HR.nil _, h2⟩
  by_cases hE : chk l L = 0
  · obtain ⟨l1, l5⟩ := chk_lay hE
    by_cases hM : mayC m = false ∨ m.kind = 1
    · exact bad 2 (by decide) (by unfold ansE; rw [if_pos hE, if_pos hM]) (route_arg l pv A c L m _ w hr hok hlen hE hM)
    · have hM1 : mayC m = true := by cases h : mayC m with
        | true => rfl
        | false => exact absurd (.inl h) hM
      have hK : m.kind ≠ 1 := fun h => hM (.inr h)
      rcases idx_cases (p := prv pv) (layL L (l - 1)) with hI | ⟨i0, hi0, hI⟩
      · exact bad 9 (by decide) (by unfold ansE; rw [if_pos hE, if_neg hM, if_pos hI]) (route_none l pv A c L m _ w hr hok hlen hE hM1 hK hI)
      · by_cases hS : (D.length : Int) < 2 * (l - 1)
        · exact bad 4 (by decide) (by unfold ansE; rw [if_pos hE, if_neg hM, if_neg (by omega), if_pos hS]) (route_short l pv A DA c D.length dc i0 L m w hr hok hlen hE hM1 hK hI hS)
        · have he : ansE l pv L m D.length = 0 := by unfold ansE; rw [if_pos hE, if_neg hM, if_neg (by omega), if_neg hS]
          have hp : provN l pv L = (layL L (l - 1))[i0] := by
            unfold provN
            rw [hI, Int.toNat_natCast, List.getD_eq_getElem?_getD, List.getElem?_eq_getElem hi0]
            rfl
          have e1 : ansF l pv L m D = (nodeAt l.toNat L D (provN l pv L) 0).id := by unfold ansF; rw [if_pos he]
          have e2 : ansH l pv L m D = (List.range l.toNat).map (hopAt l.toNat L D (provN l pv L) m) := by unfold ansH; rw [if_pos he]
          obtain ⟨K, rfl⟩ : ∃ K : Nat, l = (K : Int) := ⟨l.toNat, by omega⟩
          rw [Int.toNat_natCast] at e1 e2
          have hl2 : (ansH (K : Int) pv L m D).length = K := by rw [e2]; simp
          rw [he, hl2, e1]
          refine (route_ok K pv A DA c dc i0 L D m w hr hok hlen hE hM1 hK hI hi0 hS hD (provN K pv L) hp).mono ?_
          rintro e' w' ⟨A', c', h1, h2, h3⟩
          refine ⟨A', c', h1, ?_, h3⟩
          unfold HR GR
          rw [hl2, e2]
          exact h2
  · exact bad (chk l L) hE (by unfold ansE; rw [if_neg hE]) (route_chk l pv A c L m _ w hr hok hlen hE)
theorem part_key45' (w : World) (xx0 xx1 xx2 xx3 xx4 xx5 xx6 xx7 xx8 xx9 xx10 xx11 xx12 xx13 xx14 xx15 xx16 xx17 xx18 xx19 xx20 xx21 xx22 xx23 xx24 xx25 xx26 xx27 xx28 xx29 xx30 xx31 yy0 yy1 yy2 yy3 yy4 yy5 yy6 yy7 yy8 yy9 yy10 : Value) : (part 33 #[xx0, xx1, xx2, xx3, xx4, xx5, xx6, xx7, xx8, xx9, xx10, xx11, xx12, xx13, xx14, xx15, xx16, xx17, xx18, xx19, xx20, xx21, xx22, xx23, xx24, xx25, xx26, xx27, xx28, xx29, xx30, xx31, yy0, yy1, yy2, yy3, yy4, yy5, yy6, yy7, yy8, yy9, yy10] 0).run Try.prog w = .ok (.agg #[xx0, xx1, xx2, xx3, xx4, xx5, xx6, xx7, xx8, xx9, xx10, xx11, xx12, xx13, xx14, xx15, xx16, xx17, xx18, xx19, xx20, xx21, xx22, xx23, xx24, xx25, xx26, xx27, xx28, xx29, xx30, xx31]) w := by kernel_rfl
theorem part_cmd45' (w : World) (xx0 xx1 xx2 xx3 xx4 xx5 xx6 xx7 xx8 xx9 xx10 xx11 xx12 xx13 xx14 xx15 xx16 xx17 xx18 xx19 xx20 xx21 xx22 xx23 xx24 xx25 xx26 xx27 xx28 xx29 xx30 xx31 yy0 yy1 yy2 yy3 yy4 yy5 yy6 yy7 yy8 yy9 yy10 : Value) : (part 43 #[xx0, xx1, xx2, xx3, xx4, xx5, xx6, xx7, xx8, xx9, xx10, xx11, xx12, xx13, xx14, xx15, xx16, xx17, xx18, xx19, xx20, xx21, xx22, xx23, xx24, xx25, xx26, xx27, xx28, xx29, xx30, xx31, yy0, yy1, yy2, yy3, yy4, yy5, yy6, yy7, yy8, yy9, yy10] 32).run Try.prog w = .ok (.agg #[yy0, yy1, yy2, yy3, yy4, yy5, yy6, yy7, yy8, yy9, yy10]) w := by kernel_rfl
theorem part_id43' (w : World) (yy0 yy1 yy2 yy3 yy4 yy5 yy6 yy7 yy8 yy9 yy10 : Value) : (part 41 #[yy0, yy1, yy2, yy3, yy4, yy5, yy6, yy7, yy8, yy9, yy10] 3).run Try.prog w = .ok (.agg #[yy3, yy4, yy5, yy6, yy7, yy8, yy9, yy10]) w := by kernel_rfl
theorem part_key45 (w : World) (h : Hp) : (part 33 (hc h).toArray 0).run Try.prog w = .ok (Arr h.key) w := by
  obtain ⟨yy0, yy1, yy2, yy3, yy4, yy5, yy6, yy7, yy8, yy9, yy10, h1⟩ := eleven (cc h.cmd) (cc_len h.cmd)
  obtain ⟨xx0, xx1, xx2, xx3, xx4, xx5, xx6, xx7, xx8, xx9, xx10, xx11, xx12, xx13, xx14, xx15, xx16, xx17, xx18, xx19, xx20, xx21, xx22, xx23, xx24, xx25, xx26, xx27, xx28, xx29, xx30, xx31, h2⟩ := thirtytwo (bys h.key) (by rw [bys_length, h.len])
  unfold hc Arr
  rw [h1, h2]
  exact part_key45' w xx0 xx1 xx2 xx3 xx4 xx5 xx6 xx7 xx8 xx9 xx10 xx11 xx12 xx13 xx14 xx15 xx16 xx17 xx18 xx19 xx20 xx21 xx22 xx23 xx24 xx25 xx26 xx27 xx28 xx29 xx30 xx31 yy0 yy1 yy2 yy3 yy4 yy5 yy6 yy7 yy8 yy9 yy10
theorem part_cmd45 (w : World) (h : Hp) : (part 43 (hc h).toArray 32).run Try.prog w = .ok (.agg (cc h.cmd).toArray) w := by
  obtain ⟨yy0, yy1, yy2, yy3, yy4, yy5, yy6, yy7, yy8, yy9, yy10, h1⟩ := eleven (cc h.cmd) (cc_len h.cmd)
  obtain ⟨xx0, xx1, xx2, xx3, xx4, xx5, xx6, xx7, xx8, xx9, xx10, xx11, xx12, xx13, xx14, xx15, xx16, xx17, xx18, xx19, xx20, xx21, xx22, xx23, xx24, xx25, xx26, xx27, xx28, xx29, xx30, xx31, h2⟩ := thirtytwo (bys h.key) (by rw [bys_length, h.len])
  unfold hc
  rw [h1, h2]
  exact part_cmd45' w xx0 xx1 xx2 xx3 xx4 xx5 xx6 xx7 xx8 xx9 xx10 xx11 xx12 xx13 xx14 xx15 xx16 xx17 xx18 xx19 xx20 xx21 xx22 xx23 xx24 xx25 xx26 xx27 xx28 xx29 xx30 xx31 yy0 yy1 yy2 yy3 yy4 yy5 yy6 yy7 yy8 yy9 yy10
theorem part_id43 (w : World) (m : Cm) : (part 41 (cc m).toArray 3).run Try.prog w = .ok (Arr m.id) w := by
  obtain ⟨qq0, qq1, qq2, qq3, qq4, qq5, qq6, qq7, h1⟩ := eight (bys m.id) (by rw [bys_length, m.len])
  unfold cc Arr
  rw [h1]
  exact part_id43' w _ _ _ qq0 qq1 qq2 qq3 qq4 qq5 qq6 qq7
theorem part_key60' (w : World) (xx0 xx1 xx2 xx3 xx4 xx5 xx6 xx7 xx8 xx9 xx10 xx11 xx12 xx13 xx14 xx15 xx16 xx17 xx18 xx19 xx20 xx21 xx22 xx23 xx24 xx25 xx26 xx27 xx28 xx29 xx30 xx31 yy0 yy1 yy2 yy3 yy4 yy5 yy6 yy7 yy8 yy9 yy10 : Value) : (part 33 #[xx0, xx1, xx2, xx3, xx4, xx5, xx6, xx7, xx8, xx9, xx10, xx11, xx12, xx13, xx14, xx15, xx16, xx17, xx18, xx19, xx20, xx21, xx22, xx23, xx24, xx25, xx26, xx27, xx28, xx29, xx30, xx31, yy0, yy1, yy2, yy3, yy4, yy5, yy6, yy7, yy8, yy9, yy10] 0).run Try.prog w = .ok (.agg #[xx0, xx1, xx2, xx3, xx4, xx5, xx6, xx7, xx8, xx9, xx10, xx11, xx12, xx13, xx14, xx15, xx16, xx17, xx18, xx19, xx20, xx21, xx22, xx23, xx24, xx25, xx26, xx27, xx28, xx29, xx30, xx31]) w := by kernel_rfl
theorem part_cmd60' (w : World) (xx0 xx1 xx2 xx3 xx4 xx5 xx6 xx7 xx8 xx9 xx10 xx11 xx12 xx13 xx14 xx15 xx16 xx17 xx18 xx19 xx20 xx21 xx22 xx23 xx24 xx25 xx26 xx27 xx28 xx29 xx30 xx31 yy0 yy1 yy2 yy3 yy4 yy5 yy6 yy7 yy8 yy9 yy10 : Value) : (part 48 #[xx0, xx1, xx2, xx3, xx4, xx5, xx6, xx7, xx8, xx9, xx10, xx11, xx12, xx13, xx14, xx15, xx16, xx17, xx18, xx19, xx20, xx21, xx22, xx23, xx24, xx25, xx26, xx27, xx28, xx29, xx30, xx31, yy0, yy1, yy2, yy3, yy4, yy5, yy6, yy7, yy8, yy9, yy10] 32).run Try.prog w = .ok (.agg #[yy0, yy1, yy2, yy3, yy4, yy5, yy6, yy7, yy8, yy9, yy10]) w := by kernel_rfl
theorem part_id48' (w : World) (yy0 yy1 yy2 yy3 yy4 yy5 yy6 yy7 yy8 yy9 yy10 : Value) : (part 40 #[yy0, yy1, yy2, yy3, yy4, yy5, yy6, yy7, yy8, yy9, yy10] 3).run Try.prog w = .ok (.agg #[yy3, yy4, yy5, yy6, yy7, yy8, yy9, yy10]) w := by kernel_rfl
theorem part_key60 (w : World) (h : Hp) : (part 33 (hc h).toArray 0).run Try.prog w = .ok (Arr h.key) w := by
  obtain ⟨yy0, yy1, yy2, yy3, yy4, yy5, yy6, yy7, yy8, yy9, yy10, h1⟩ := eleven (cc h.cmd) (cc_len h.cmd)
  obtain ⟨xx0, xx1, xx2, xx3, xx4, xx5, xx6, xx7, xx8, xx9, xx10, xx11, xx12, xx13, xx14, xx15, xx16, xx17, xx18, xx19, xx20, xx21, xx22, xx23, xx24, xx25, xx26, xx27, xx28, xx29, xx30, xx31, h2⟩ := thirtytwo (bys h.key) (by rw [bys_length, h.len])
  unfold hc Arr
  rw [h1, h2]
  exact part_key60' w xx0 xx1 xx2 xx3 xx4 xx5 xx6 xx7 xx8 xx9 xx10 xx11 xx12 xx13 xx14 xx15 xx16 xx17 xx18 xx19 xx20 xx21 xx22 xx23 xx24 xx25 xx26 xx27 xx28 xx29 xx30 xx31 yy0 yy1 yy2 yy3 yy4 yy5 yy6 yy7 yy8 yy9 yy10
theorem part_cmd60 (w : World) (h : Hp) : (part 48 (hc h).toArray 32).run Try.prog w = .ok (.agg (cc h.cmd).toArray) w := by
  obtain ⟨yy0, yy1, yy2, yy3, yy4, yy5, yy6, yy7, yy8, yy9, yy10, h1⟩ := eleven (cc h.cmd) (cc_len h.cmd)
  obtain ⟨xx0, xx1, xx2, xx3, xx4, xx5, xx6, xx7, xx8, xx9, xx10, xx11, xx12, xx13, xx14, xx15, xx16, xx17, xx18, xx19, xx20, xx21, xx22, xx23, xx24, xx25, xx26, xx27, xx28, xx29, xx30, xx31, h2⟩ := thirtytwo (bys h.key) (by rw [bys_length, h.len])
  unfold hc
  rw [h1, h2]
  exact part_cmd60' w xx0 xx1 xx2 xx3 xx4 xx5 xx6 xx7 xx8 xx9 xx10 xx11 xx12 xx13 xx14 xx15 xx16 xx17 xx18 xx19 xx20 xx21 xx22 xx23 xx24 xx25 xx26 xx27 xx28 xx29 xx30 xx31 yy0 yy1 yy2 yy3 yy4 yy5 yy6 yy7 yy8 yy9 yy10
theorem part_id48 (w : World) (m : Cm) : (part 40 (cc m).toArray 3).run Try.prog w = .ok (Arr m.id) w := by
  obtain ⟨qq0, qq1, qq2, qq3, qq4, qq5, qq6, qq7, h1⟩ := eight (bys m.id) (by rw [bys_length, m.len])
  unfold cc Arr
  rw [h1]
  exact part_id48' w _ _ _ qq0 qq1 qq2 qq3 qq4 qq5 qq6 qq7
theorem list2 {α : Type} (L : List α) (h : L.length = 2) : ∃ a b, L = [a, b] := by
  match L, h with
  | [a, b], _ => exact ⟨a, b, rfl⟩
theorem list4 {α : Type} (L : List α) (h : L.length = 4) : ∃ a b c d, L = [a, b, c, d] := by
  match L, h with
  | [a, b, c, d], _ => exact ⟨a, b, c, d, rfl⟩
theorem eqFields2 {P : Program} (d : Nat) (xs ys : Array Value) (f0 f1 : Field) (n0 : f0.name ≠ "_") (n1 : f1.name ≠ "_") (v0 u0 v1 u1 : Value) (r0 r1 : Bool) (w : World) (pa0 : (part f0.type xs f0.offset).run P w = .ok v0 w) (pb0 : (part f0.type ys f0.offset).run P w = .ok u0 w)
    (q0 : (Op.equalIn d f0.type v0 u0).run P w = .ok r0 w) (pa1 : (part f1.type xs f1.offset).run P w = .ok v1 w) (pb1 : (part f1.type ys f1.offset).run P w = .ok u1 w) (q1 : (Op.equalIn d f1.type v1 u1).run P w = .ok r1 w) : (Op.eqFields d xs ys [f0, f1]).run P w = .ok (r0 && r1) w := by
  simp only [Op.eqFields, Sem.run_bind, Sem.run_ite, n0, n1, pa0, pb0, q0, pa1, pb1, q1, Result.andThen_ok, ne_eq, not_false_eq_true, if_true]
  cases r0 <;> cases r1 <;> simp [pa1, pb1, q1]
theorem Try.plain3 : Try.prog.plainKey 3 = true := by kernel_rfl
theorem run_eqIn_bytes (d : Nat) (t e : TypeId) (a b : List Int) (w : World) (hab : a.length = b.length) (hu : Try.prog.underlying t = some (.array a.length e)) (he : Try.prog.underlying e = some (.int .u8)) (hc : Try.prog.cellsOf e = 1) :
    (Op.equalIn (d + 1 + 1) t (Arr a) (Arr b)).run Try.prog w = .ok (a == b) w := by
  obtain ⟨i, hi⟩ := info_of_underlying he
  unfold Arr
  rw [run_equalIn_array w (d + 1) _ _ hu hi]
  rw [run_eqItems_u8 w d hc he a b hab _ (fun j hj => by simpa using hj), all_range_eq a b hab]
def cmB (a b : Cm) : Bool := (a.kind == b.kind) && ((a.next == b.next) && ((a.delay == b.delay) && (a.id == b.id)))
theorem cmB_self (a : Cm) : cmB a a = true := by unfold cmB; simp
theorem fields43 : (Try.prog.fieldsOf 43).toList.map (fun f => (f.name, f.type, f.offset)) = [("Kind", 3, 0), ("Next", 3, 1), ("Delay", 3, 2), ("Id", 41, 3)] := by kernel_rfl
theorem held43 : Try.prog.stoodInHeld 43 = false := by kernel_rfl
theorem under43 : Try.prog.underlying 43 = some (.struct (Try.prog.fieldsOf 43)) := by kernel_rfl
theorem run_eqcm43 (d : Nat) (a b : Cm) (w : World) : (Op.equalIn (d + 1 + 1 + 1) 43 (.agg (cc a).toArray) (.agg (cc b).toArray)).run Try.prog w = .ok (cmB a b) w := by
  rw [run_equalIn_struct w (d + 1 + 1) 43 _ _ under43 held43]
  have hf := fields43
  generalize (Try.prog.fieldsOf 43).toList = fs at hf ⊢
  obtain ⟨f0, f1, f2, f3, rfl⟩ := list4 fs (by have := congrArg List.length hf; rw [List.length_map] at this; exact this)
  · 
    simp only [List.map_cons, List.map_nil, List.cons.injEq, Prod.mk.injEq, and_true] at hf
    obtain ⟨⟨n0, t0, o0⟩, ⟨n1, t1, o1⟩, ⟨n2, t2, o2⟩, ⟨n3, t3, o3⟩⟩ := hf
    have pa0 := run_part_plain (P := Try.prog) w Try.plain3 (xs := (cc a).toArray) (off := 0) (v := .int .i64 a.kind) (by rw [List.getElem?_toArray]; rfl)
    have pb0 := run_part_plain (P := Try.prog) w Try.plain3 (xs := (cc b).toArray) (off := 0) (v := .int .i64 b.kind) (by rw [List.getElem?_toArray]; rfl)
    have pa1 := run_part_plain (P := Try.prog) w Try.plain3 (xs := (cc a).toArray) (off := 1) (v := .int .i64 a.next) (by rw [List.getElem?_toArray]; rfl)
    have pb1 := run_part_plain (P := Try.prog) w Try.plain3 (xs := (cc b).toArray) (off := 1) (v := .int .i64 b.next) (by rw [List.getElem?_toArray]; rfl)
    have pa2 := run_part_plain (P := Try.prog) w Try.plain3 (xs := (cc a).toArray) (off := 2) (v := .int .i64 a.delay) (by rw [List.getElem?_toArray]; rfl)
    have pb2 := run_part_plain (P := Try.prog) w Try.plain3 (xs := (cc b).toArray) (off := 2) (v := .int .i64 b.delay) (by rw [List.getElem?_toArray]; rfl)
    have pa3 := part_id43 w a
    have pb3 := part_id43 w b
    have q0 := run_equalIn_int (P := Try.prog) w (d + 1) 3 .i64 .i64 a.kind b.kind Try.underlying3
    have q1 := run_equalIn_int (P := Try.prog) w (d + 1) 3 .i64 .i64 a.next b.next Try.underlying3
    have q2 := run_equalIn_int (P := Try.prog) w (d + 1) 3 .i64 .i64 a.delay b.delay Try.underlying3
    have q3 := run_eqIn_bytes d 41 5 a.id b.id w (by rw [a.len, b.len]) (by rw [a.len]; exact Try.underlying41) Try.underlying5 (by kernel_rfl)
    simp only [Op.eqFields, n0, n1, n2, n3, t0, t1, t2, t3, o0, o1, o2, o3, Sem.run_bind, Sem.run_ite, pa0, pb0, pa1, pb1, pa2, pb2, pa3, pb3, q0, q1, q2, q3, Result.andThen_ok]
    unfold cmB
    cases a.kind == b.kind <;> cases a.next == b.next <;> cases a.delay == b.delay <;> cases a.id == b.id <;> simp [pa1, pb1, pa2, pb2, pa3, pb3, q1, q2, q3]
theorem fields48 : (Try.prog.fieldsOf 48).toList.map (fun f => (f.name, f.type, f.offset)) = [("Kind", 3, 0), ("Next", 3, 1), ("Delay", 3, 2), ("Id", 40, 3)] := by kernel_rfl
theorem held48 : Try.prog.stoodInHeld 48 = false := by kernel_rfl
theorem under48 : Try.prog.underlying 48 = some (.struct (Try.prog.fieldsOf 48)) := by kernel_rfl
theorem run_eqcm48 (d : Nat) (a b : Cm) (w : World) : (Op.equalIn (d + 1 + 1 + 1) 48 (.agg (cc a).toArray) (.agg (cc b).toArray)).run Try.prog w = .ok (cmB a b) w := by
  rw [run_equalIn_struct w (d + 1 + 1) 48 _ _ under48 held48]
  have hf := fields48
  generalize (Try.prog.fieldsOf 48).toList = fs at hf ⊢
  obtain ⟨f0, f1, f2, f3, rfl⟩ := list4 fs (by have := congrArg List.length hf; rw [List.length_map] at this; exact this)
  · 
    simp only [List.map_cons, List.map_nil, List.cons.injEq, Prod.mk.injEq, and_true] at hf
    obtain ⟨⟨n0, t0, o0⟩, ⟨n1, t1, o1⟩, ⟨n2, t2, o2⟩, ⟨n3, t3, o3⟩⟩ := hf
    have pa0 := run_part_plain (P := Try.prog) w Try.plain3 (xs := (cc a).toArray) (off := 0) (v := .int .i64 a.kind) (by rw [List.getElem?_toArray]; rfl)
    have pb0 := run_part_plain (P := Try.prog) w Try.plain3 (xs := (cc b).toArray) (off := 0) (v := .int .i64 b.kind) (by rw [List.getElem?_toArray]; rfl)
    have pa1 := run_part_plain (P := Try.prog) w Try.plain3 (xs := (cc a).toArray) (off := 1) (v := .int .i64 a.next) (by rw [List.getElem?_toArray]; rfl)
    have pb1 := run_part_plain (P := Try.prog) w Try.plain3 (xs := (cc b).toArray) (off := 1) (v := .int .i64 b.next) (by rw [List.getElem?_toArray]; rfl)
    have pa2 := run_part_plain (P := Try.prog) w Try.plain3 (xs := (cc a).toArray) (off := 2) (v := .int .i64 a.delay) (by rw [List.getElem?_toArray]; rfl)
    have pb2 := run_part_plain (P := Try.prog) w Try.plain3 (xs := (cc b).toArray) (off := 2) (v := .int .i64 b.delay) (by rw [List.getElem?_toArray]; rfl)
    have pa3 := part_id48 w a
    have pb3 := part_id48 w b
    have q0 := run_equalIn_int (P := Try.prog) w (d + 1) 3 .i64 .i64 a.kind b.kind Try.underlying3
    have q1 := run_equalIn_int (P := Try.prog) w (d + 1) 3 .i64 .i64 a.next b.next Try.underlying3
    have q2 := run_equalIn_int (P := Try.prog) w (d + 1) 3 .i64 .i64 a.delay b.delay Try.underlying3
    have q3 := run_eqIn_bytes d 40 5 a.id b.id w (by rw [a.len, b.len]) (by rw [a.len]; exact Try.underlying40) Try.underlying5 (by kernel_rfl)
    simp only [Op.eqFields, n0, n1, n2, n3, t0, t1, t2, t3, o0, o1, o2, o3, Sem.run_bind, Sem.run_ite, pa0, pb0, pa1, pb1, pa2, pb2, pa3, pb3, q0, q1, q2, q3, Result.andThen_ok]
    unfold cmB
    cases a.kind == b.kind <;> cases a.next == b.next <;> cases a.delay == b.delay <;> cases a.id == b.id <;> simp [pa1, pb1, pa2, pb2, pa3, pb3, q1, q2, q3]
theorem fields45 : (Try.prog.fieldsOf 45).toList.map (fun f => (f.name, f.type, f.offset)) = [("Key", 33, 0), ("Cmd", 43, 32)] := by kernel_rfl
theorem held45 : Try.prog.stoodInHeld 45 = false := by kernel_rfl
theorem under45 : Try.prog.underlying 45 = some (.struct (Try.prog.fieldsOf 45)) := by kernel_rfl
theorem run_eqhp45 (d : Nat) (a b : Hp) (w : World) : (Op.equalIn (d + 1 + 1 + 1 + 1) 45 (.agg (hc a).toArray) (.agg (hc b).toArray)).run Try.prog w = .ok ((a.key == b.key) && cmB a.cmd b.cmd) w := by
  rw [run_equalIn_struct w (d + 1 + 1 + 1) 45 _ _ under45 held45]
  have hf := fields45
  generalize (Try.prog.fieldsOf 45).toList = fs at hf ⊢
  obtain ⟨f0, f1, rfl⟩ := list2 fs (by have := congrArg List.length hf; rw [List.length_map] at this; exact this)
  · 
    simp only [List.map_cons, List.map_nil, List.cons.injEq, Prod.mk.injEq, and_true] at hf
    obtain ⟨⟨n0, t0, o0⟩, ⟨n1, t1, o1⟩⟩ := hf
    exact eqFields2 (d + 1 + 1 + 1) (hc a).toArray (hc b).toArray f0 f1 (by rw [n0]; decide) (by rw [n1]; decide) (Arr a.key) (Arr b.key) (.agg (cc a.cmd).toArray) (.agg (cc b.cmd).toArray) _ _ w (by rw [t0, o0]; exact part_key45 w a) (by rw [t0, o0]; exact part_key45 w b)
      (by rw [t0]; exact run_eqIn_bytes (d + 1) 33 5 a.key b.key w (by rw [a.len, b.len]) (by rw [a.len]; exact Try.underlying33) Try.underlying5 (by kernel_rfl)) (by rw [t1, o1]; exact part_cmd45 w a) (by rw [t1, o1]; exact part_cmd45 w b) (by rw [t1]; exact run_eqcm43 d a.cmd b.cmd w)
/-- != of a hop and itself; of a command and itself. -/
theorem neq_hop (h : Hp) (w : World) : (binOp .neq 45 (.agg (hc h).toArray) (.agg (hc h).toArray)).run Try.prog w = .ok (.bool false) w := by
  have : (Op.equal 45 (.agg (hc h).toArray) (.agg (hc h).toArray)).run Try.prog w = .ok true w := by
    unfold Op.equal
    rw [show Op.maxDepth = 9996 + 1 + 1 + 1 + 1 from rfl, run_eqhp45 9996 h h w, cmB_self]
    simp
  unfold binOp
  simp [this]
theorem neq_cm48 (a b : Cm) (w : World) : (binOp .neq 48 (.agg (cc a).toArray) (.agg (cc b).toArray)).run Try.prog w = .ok (.bool (!cmB a b)) w := by
  have : (Op.equal 48 (.agg (cc a).toArray) (.agg (cc b).toArray)).run Try.prog w = .ok (cmB a b) w := by
    unfold Op.equal
    rw [show Op.maxDepth = 9997 + 1 + 1 + 1 from rfl, run_eqcm48 9997 a b w]
  unfold binOp
  simp [this]
end Go.Proofs.Ytdibjnlmeiikmaa
