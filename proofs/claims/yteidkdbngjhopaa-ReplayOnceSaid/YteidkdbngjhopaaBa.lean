/-
  ReplayOnce's own map: entries as keys.
-/
import Derived.Test.YteidkdbngjhopaaAd
import Derived.WideKeyEntry
set_option linter.unusedVariables false
set_option linter.unusedSimpArgs false
namespace Go.Proofs.Yteidkdbngjhopaa
open Go.RowKit Go.Maps Go.WideElems Go.ChangeShapes Go.MapKept Go.ChangeMaps

section
variable {H : Type} {P : Program} {w : World} {t k e : TypeId} {R : Value → Option (DataW H × List MemPlace)} {b n : Nat} {D : DataW H}
/-- m[k]++ (or '+=') at a key that is not there: the entry is laid, then stored. -/
theorem own_entry (h : w.ownsMap P k R b n D) (K : Keyed P k) (ht : P.underlying t = some (.map k e)) {z : Value} (hz : ∀ u : World, (zeroValue e).run P u = .ok z u)
    {key : Value} {kl : Lit} (hkey : keyOf P k key = some kl) (hno : Maps.has D kl = false) :
    ∃ (st : Nat) (w1 : World), (Instr.mapEntry t (.map (some b)) key).run P w = .ok (.tuple #[z, goInt st]) w1 ∧ (Instr.mapUpdate t (.map (some b)) key z).run P w = .ok () w1 ∧
      ∀ (w2 : World) (val : Value), w2.heap[b]? = w1.heap[b]? → ∃ w3 w3', (Instr.entryStore t (.map (some b)) (goInt st) val).run P w2 = .ok () w3 ∧ (Instr.mapUpdate t (.map (some b)) key val).run P w = .ok () w3' ∧ w3.heap[b]? = w3'.heap[b]? ∧ Ext (fun k => k = b) w2 w3 := by
  obtain ⟨es, clock, hb, F, hs, hD⟩ := h
  obtain ⟨s1, s2, _⟩ := F.stamped
  have hnk : ∀ x ∈ es.toList, x.key ≠ key := by
    rcases Maps.fit_look false K ht (hz w) hb F hkey with ⟨_, h2, _⟩ | ⟨e0, y, _, _, _, _, hat, _⟩
    · exact h2
    · rw [← hD] at hat
      rw [Maps.has_true_of_atKey hat] at hno
      cases hno
  rcases K.find w hkey es.toList F.keys with ⟨h1, h2⟩ | ⟨j, e0, h1, h2, h3⟩
  · refine ⟨clock, setBlock w b (.map (es.push ⟨key, z, clock⟩) (clock + 1)), ?_, ?_, fun w2 val hw2 => ⟨setBlock w2 b (.map (es.push ⟨key, val, clock⟩) (clock + 1)), setBlock w b (.map (es.push ⟨key, val, clock⟩) (clock + 1)), ?_, ?_, ?_, ?_⟩⟩
    · simp [Instr.mapEntry, run_underlying ht, MapKept.run_getObj_map hb, K.check w false hkey, h1, hz, MapKept.run_setObj_map _ hb, Result.andThen, setBlock]
    · simp [Instr.mapUpdate, run_underlying ht, MapKept.run_getObj_map hb, K.check w false hkey, h1, MapKept.run_setObj_map _ hb, Result.andThen, setBlock]
    · rw [heap_setBlock_same hb _] at hw2
      have hidx : (es.push ⟨key, z, clock⟩).findIdx? (fun e => ((e.born : Nat) : Int) == ((clock : Nat) : Int)) = some es.size := by
        rw [findIdx_arr]
        have := findIdx_born (l := (es.push ⟨key, z, clock⟩).toList) (j := es.size) (e0 := ⟨key, z, clock⟩) (by
          simp only [Array.toList_push, List.map_append, List.map_cons, List.map_nil]
          refine List.nodup_append.2 ⟨s2, by simp, fun a ha c hc e1 => ?_⟩
          simp only [List.mem_singleton] at hc
          obtain ⟨x, hx, rfl⟩ := List.mem_map.1 ha
          have := s1 x hx
          omega) (by simp)
        exact this
      have hmod : (es.push ⟨key, z, clock⟩).modify es.size (fun e => { e with val := val }) = es.push ⟨key, val, clock⟩ := by
        apply Array.ext'
        rw [Array.toList_modify, Array.toList_push, Array.toList_push, ← Array.length_toList, modify_last]
      simp [Instr.entryStore, MapKept.run_getObj_map hw2, asInt, asIntOf, goInt, hidx, hmod, MapKept.run_setObj_map _ hw2, Result.andThen, setBlock]
    · simp [Instr.mapUpdate, run_underlying ht, MapKept.run_getObj_map hb, K.check w false hkey, h1, MapKept.run_setObj_map _ hb, Result.andThen, setBlock]
    · have hw2' := hw2
      rw [heap_setBlock_same hb _] at hw2'
      rw [heap_setBlock_same hb _, heap_setBlock_same hw2' _]
    · exact ⟨rfl, rfl, rfl, by simp [setBlock], fun i _ hi => heap_setBlock_other (by rw [heap_setBlock_same hb _] at hw2; exact hw2) _ hi⟩
  · exact absurd h3 (hnk e0 (List.mem_of_getElem? h2))
end
abbrev ev (e : Ent) : Value := .agg (.int .i64 e.1 :: tvs e.2).toArray
noncomputable def ek (e : Ent) : Lit := (keyOf Try.prog 49 (ev e)).getD (.bool false)
theorem wide49 : (match Try.prog.underlying 49 with | some (.array _ _) | some (.struct _) => true | _ => false) = true := by kernel_rfl
theorem keyed49 : Keyed Try.prog 49 := Keyed.of_law (deep_law_gate laidOut (of_decide_eq_true (by kernel_rfl)) (of_decide_eq_true (by kernel_rfl)) (by kernel_rfl) wide49)
theorem keyType49 : Try.prog.keyType 49 = true := by kernel_rfl
theorem cells49 : Try.prog.cellsOf 49 = 17 := by kernel_rfl
theorem lits30 (n : Nat) {t : List Int} (h : Tg t) : Try.prog.keyLits (n + 2) 30 (tvs t) = some ((List.range 16).map fun i => [Lit.int .u8 (t.getD i 0)]).flatten := by
  unfold Program.keyLits
  have e1 : (tvs t).length = Try.prog.cellsOf 30 := by rw [cells30]; simp [h.len]
  simp only [Try.underlying30, e1, if_true, cells5]
  rw [mapM_range16 _ (fun i => [Lit.int .u8 (t.getD i 0)]) (fun i hi => ?_)]
  · rfl
  · have hi' : i < t.length := by rw [h.len]; exact hi
    rw [Nat.mul_one, take_at hi', lits5 _ _ (h.bd _ (List.getElem_mem hi'))]
    simp [List.getD_eq_getElem?_getD, List.getElem?_eq_getElem hi']
theorem keyOf49 {e : Ent} (h : EntOk e) : keyOf Try.prog 49 (ev e) = some (ek e) := by
  have hs : (keyOf Try.prog 49 (ev e)).isSome = true := by
    obtain ⟨n, hn⟩ := types_pos
    have hf : (ev e).formed Try.prog 49 = true := by simp [Value.formed, Try.underlying49, cells49, h.tag.len]
    have hl : (Try.prog.keyLits (Try.prog.types.size + 1) 49 (.int .i64 e.1 :: tvs e.2)).isSome = true := by
      have hn2 : ∃ n, Try.prog.types.size = n + 2 := ⟨Try.prog.types.size - 2, by have : 1 < Try.prog.types.size := of_decide_eq_true (by kernel_rfl); omega⟩
      obtain ⟨n, hn⟩ := hn2
      rw [hn]
      have d1 : ((Value.int .i64 e.1 :: tvs e.2).drop 0).take 1 = [Value.int .i64 e.1] := rfl
      have d2 : ((Value.int .i64 e.1 :: tvs e.2).drop 1).take 16 = tvs e.2 := List.take_of_length_le (by simp [h.tag.len])
      have l3 : Try.prog.keyLits (n + 2) 3 [Value.int .i64 e.1] = some [.int .i64 e.1] := by simp [Program.keyLits, Try.underlying3, h.gen]
      have l30 := lits30 n h.tag
      unfold Program.keyLits
      have e1 : (Value.int .i64 e.1 :: tvs e.2).length = Try.prog.cellsOf 49 := by rw [cells49]; simp [h.tag.len]
      simp only [Try.underlying49, e1, true_and]
      simp [cells3, cells30]
      rw [l3, List.take_of_length_le (show (tvs e.2).length ≤ 16 by simp [h.tag.len]), l30]
      rfl
    have hc : (ev e).cells.toList = (.int .i64 e.1 :: tvs e.2) := rfl
    unfold keyOf
    simp only [Try.underlying49, keyType49, hf, hc, Bool.and_self, if_true, Option.isSome_map]
    exact hl
  unfold ek
  cases hk : keyOf Try.prog 49 (ev e) with
  | none => rw [hk] at hs; cases hs
  | some l => rfl
theorem ek_inj {e f : Ent} (he : EntOk e) (hf : EntOk f) (h : ek e = ek f) : e = f := by
  have h1 := keyOf49 he
  rw [h] at h1
  have h2 := keyed49.inj h1 (keyOf49 hf)
  injection h2 with h2
  injection h2 with h2
  injection h2 with h3 h4
  injection h3 with _ h3
  exact Prod.ext h3 (tvs_inj h4)
theorem ek_key {e : Ent} (h : EntOk e) : WideAt.IsKeyLit (ek e) := keyed49.key (keyOf49 h)
theorem ek_ne {e f : Ent} (he : EntOk e) (hf : EntOk f) (h : e ≠ f) : ek e ≠ ek f := fun h' => h (ek_inj he hf h')
theorem wf01 (n : Int) (h : n = 0 ∨ n = 1) : (Lit.int .i64 n).wf = true := by rcases h with rfl | rfl <;> decide
/-- Block tb is a map of the entries T, each once: 1. -/
def TMD (T : List Ent) (D : DataW Unit) : Prop := Maps.size D = T.length ∧ (∀ e, EntOk e → Maps.has D (ek e) = decide (e ∈ T)) ∧ ∀ e ∈ T, ∀ z, D.atKey (ek e) z = .lit (.int .i64 1)
structure TM (w : World) (tb : Nat) (T : List Ent) : Prop where
  dat : ∃ D : DataW Unit, w.ownsMap Try.prog 49 pE tb T.length D ∧ TMD T D
  nd : T.Nodup
  ok : ∀ e ∈ T, EntOk e
theorem TM.ext {F : Nat → Prop} {w w' : World} {tb : Nat} {T : List Ent} (h : TM w tb T) (hx : Ext F w w') (hb : ¬ F tb) : TM w' tb T := by
  obtain ⟨D, h1, h2⟩ := h.dat
  exact ⟨⟨D, owns_ext h1 hx hb, h2⟩, h.nd, h.ok⟩
theorem TM.lt {w : World} {tb : Nat} {T : List Ent} (h : TM w tb T) : tb < w.heap.size := by
  obtain ⟨D, h1, _⟩ := h.dat; exact h1.lt
theorem TM.new (w : World) : TM (w.alloc (.map #[] 0)) w.heap.size [] :=
  ⟨⟨_, World.ownsMap_made w _ _ _, rfl, fun g _ => by simp [Maps.has], fun g hg => by simp at hg⟩, List.nodup_nil, by simp⟩
theorem TM.put {w w' : World} {tb : Nat} {T : List Ent} (hnd : T.Nodup) (hok : ∀ e ∈ T, EntOk e) {D : DataW Unit} (h1 : w.ownsMap Try.prog 49 pE tb T.length D) (hD : TMD T D) {e : Ent} (he : EntOk e) (hn : e ∉ T)
    (h6 : w'.ownsMap Try.prog 49 pE tb (T.length + 1) (D.put (ek e) (.lit (.int .i64 1)))) : TM w' tb (T ++ [e]) := by
  obtain ⟨h2, h3, h4⟩ := hD
  have hm := h1.isMap
  have hhas : Maps.has D (ek e) = false := by rw [h3 e he]; simpa using hn
  refine ⟨⟨_, h6.mono (n' := (T ++ [e]).length) (by simp), ?_, fun x hx => ?_, fun x hx z => ?_⟩, ?_, fun x hx => ?_⟩
  · rw [Maps.size_put (h1.tidy keyed49), hhas, h2]; simp
  · by_cases hxt : x = e
    · subst hxt; rw [Maps.has_put_same hm (ek_key he)]; simp
    · rw [Maps.has_put_other (ek_ne hx he hxt), h3 x hx]; simp [hxt]
  · by_cases hxt : x = e
    · subst hxt; rw [Maps.atKey_put_same hm (ek_key he)]
    · have hx' : x ∈ T := by simpa [hxt] using hx
      rw [Maps.atKey_put_other (ek_ne (hok x hx') he hxt)]
      exact h4 x hx' z
  · refine List.nodup_append.2 ⟨hnd, by simp, fun a ha b hb => ?_⟩
    simp at hb
    subst hb
    rintro rfl; exact hn ha
  · rcases List.mem_append.1 hx with hx | hx
    · exact hok x hx
    · simp at hx; subst hx; exact he
/-- taken[e]++ at an entry that is not there. -/
theorem TM.incr {w : World} {tb : Nat} {T : List Ent} (h : TM w tb T) {e : Ent} (he : EntOk e) (hn : e ∉ T) (hl : T.length < maxLen) :
    ∃ (st : Nat) (w1 : World), (Instr.mapEntry 47 (.map (some tb)) (ev e)).run Try.prog w = .ok (.tuple #[.int .i64 0, goInt st]) w1 ∧ Ext (fun k => k = tb) w w1 ∧
      (Instr.lookup 47 (.map (some tb)) (ev e) false).run Try.prog w = .ok (.int .i64 0) w ∧ (∀ W, Ext NoB w1 W → (Instr.lookup 47 (.map (some tb)) (ev e) false).run Try.prog W = .ok (.int .i64 0) W) ∧
      ∀ W, Ext NoB w1 W → ∃ w3, (Instr.entryStore 47 (.map (some tb)) (goInt st) (.int .i64 1)).run Try.prog W = .ok () w3 ∧ TM w3 tb (T ++ [e]) ∧ Ext (fun k => k = tb) W w3 := by
  obtain ⟨D, h1, hD⟩ := h.dat
  have hhas : Maps.has D (ek e) = false := by rw [hD.2.1 e he]; simpa using hn
  obtain ⟨st, w1, r1, r2, r3⟩ := own_entry h1 keyed49 Try.underlying47 (z := .int .i64 0) zero3' (keyOf49 he) hhas
  obtain ⟨w1', q1, q2, q3⟩ := h1.store keyed49 Try.underlying47 hl (val := .int .i64 0) (keyOf49 he) (plainElem_int Try.underlying3 (wf01 0 (.inl rfl)))
  rw [r2] at q1
  injection q1 with _ q1
  subst q1
  refine ⟨st, w1, r1, turned_ext q3, ?_, fun W hW => ?_, fun W hW => ?_⟩
  · obtain ⟨c, hr, hv, _⟩ := h1.lookup_int keyed49 Try.underlying47 Try.underlying3 (zero3' w) (keyOf49 he)
    rw [Maps.atKey_of_not_has hhas] at hv
    have e9 : c = 0 := by injection hv with hv; injection hv with _ hv; omega
    rw [e9] at hr
    exact hr
  · obtain ⟨c, hr, hv, _⟩ := (owns_ext q2 hW id).lookup_int keyed49 Try.underlying47 Try.underlying3 (zero3' W) (keyOf49 he)
    rw [Maps.atKey_put_same h1.isMap (ek_key he)] at hv
    have e9 : c = 0 := by injection hv with hv; injection hv with _ hv; omega
    rw [e9] at hr
    exact hr
  · obtain ⟨w3, w3', s1, s2, s3, s4⟩ := r3 W (.int .i64 1) (hW.block _ q2.lt id)
    obtain ⟨w4, t1, t2, t3⟩ := h1.store keyed49 Try.underlying47 hl (val := .int .i64 1) (keyOf49 he) (plainElem_int Try.underlying3 (wf01 1 (.inr rfl)))
    rw [s2] at t1
    injection t1 with _ t1
    subst t1
    have t2' : w3.ownsMap Try.prog 49 pE tb (T.length + 1) (D.put (ek e) (.lit (.int .i64 1))) := by
      obtain ⟨es, clock, hb, r⟩ := t2
      exact ⟨es, clock, s3.trans hb, r⟩
    exact ⟨w3, s1, TM.put h.nd h.ok h1 hD he hn t2', s4⟩
theorem nodup_sub {α : Type} [DecidableEq α] : ∀ (l : List α) {m : List α}, l.Nodup → (∀ x ∈ l, x ∈ m) → l.length ≤ m.length
  | [], _, _, _ => by simp
  | a :: l, m, hn, hs => by
    have h1 := List.nodup_cons.1 hn
    have ha := hs a (by simp)
    have := nodup_sub l (m := m.erase a) h1.2 (fun x hx => (List.mem_erase_of_ne (fun e => h1.1 (by rw [← e]; exact hx))).2 (hs x (by simp [hx])))
    rw [List.length_erase_of_mem ha] at this
    have := List.length_pos_of_mem ha
    simp; omega
/-- What the map has is an entry of T. -/
theorem TMD.has {w : World} {tb : Nat} {T : List Ent} {D : DataW Unit} (h1 : w.ownsMap Try.prog 49 pE tb T.length D) (hD : TMD T D) (hnd : T.Nodup) (hok : ∀ e ∈ T, EntOk e) {kl : Lit} (h : Maps.has D kl = true) : ∃ e ∈ T, kl = ek e := by
  obtain ⟨h2, h3, h4⟩ := hD
  obtain ⟨es, rfl, hp, hk⟩ := h1.entries keyed49
  apply Classical.byContradiction
  intro hno
  have hin : ∀ kl, Maps.has (.map es) kl = true → kl ∈ es.map (·.1) := fun kl h => by
    rw [Maps.has_eq, List.any_eq_true] at h
    obtain ⟨p, hp, hs⟩ := h
    exact List.mem_map.2 ⟨p, hp, WideAt.sameKey_eq hs⟩
  have hnT : (kl :: T.map ek).Nodup := by
    refine List.nodup_cons.2 ⟨fun hm => ?_, ?_⟩
    · obtain ⟨e, he, hk⟩ := List.mem_map.1 hm
      exact hno ⟨e, he, hk.symm⟩
    · refine List.pairwise_map.2 (hnd.imp_of_mem fun {a b} ha hb hab => ek_ne (hok a ha) (hok b hb) hab)
  have hl := @nodup_sub Lit (Classical.typeDecidableEq _) _ (es.map (·.1)) hnT (fun x hx => by
    rcases List.mem_cons.1 hx with rfl | hx
    · exact hin _ h
    · obtain ⟨e, he, rfl⟩ := List.mem_map.1 hx
      exact hin _ (by rw [h3 e (hok e he)]; simpa using he))
  have h2' : es.length = T.length := h2
  simp at hl
  omega
end Go.Proofs.Yteidkdbngjhopaa
