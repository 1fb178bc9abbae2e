/-
  Rows of structs of k cells; hops; Reverse.
-/
import Derived.Test.YtdibjnlmeiikmaaV
import Derived.Test.YtdibjnlmeiikmaaLayR
set_option linter.unusedVariables false
set_option linter.unusedSimpArgs false
namespace Go.Proofs.Ytdibjnlmeiikmaa
open Go.RowKit Go.Proofs Go.Sort

section
variable {α : Type} {enc : α → List Value} {k : Nat}
def flatG (enc : α → List Value) (L : List α) : List Value := L.flatMap enc
theorem flatG_length (hk : ∀ x, (enc x).length = k) (L : List α) : (flatG enc L).length = L.length * k := by
  induction L with
  | nil => simp [flatG]
  | cons x xs ih =>
    have h1 := hk x
    simp only [flatG, List.flatMap_cons, List.length_append, List.length_cons] at ih h1 ⊢
    rw [ih, h1, Nat.add_mul]; omega
theorem flatG_append (a b : List α) : flatG enc (a ++ b) = flatG enc a ++ flatG enc b := by simp [flatG]
theorem flatG_one (h1 : ∀ x, ∀ v ∈ enc x, v.oneCell' = true) (L : List α) : ∀ u ∈ flatG enc L, u.oneCell' = true := by
  intro u hu
  obtain ⟨x, _, hx⟩ := List.mem_flatMap.1 hu
  exact h1 x u hx
theorem flatG_at (hk : ∀ x, (enc x).length = k) : ∀ (L : List α) (i c : Nat), c < k → i < L.length → (flatG enc L)[i * k + c]? = (L[i]?).bind fun e => (enc e)[c]?
  | [], i, c, hc, hi => by simp at hi
  | x :: xs, 0, c, hc, hi => by
    have h1 := hk x
    simp only [flatG, List.flatMap_cons, Nat.zero_mul, Nat.zero_add, List.getElem?_cons_zero, Option.bind_some]
    rw [List.getElem?_append_left (by omega)]
  | x :: xs, i + 1, c, hc, hi => by
    have h1 := hk x
    simp only [flatG, List.flatMap_cons, List.getElem?_cons_succ]
    have e : (i + 1) * k + c = k + (i * k + c) := by rw [Nat.add_mul]; omega
    rw [e, List.getElem?_append_right (by omega)]
    have := flatG_at hk xs i c hc (by simp at hi; omega)
    simp only [flatG] at this
    rw [← this]
    congr 1
    omega
/-- A slice that is read. -/
structure GRd (enc : α → List Value) (k : Nat) (w : World) (A : Option Addr) (c : Nat) (L : List α) : Prop where
  at' : ∀ i (hi : i < L.length), ∃ b o, A = some ⟨b, o, none⟩ ∧ b < w.heap.size ∧ w.rangeAt b (o + i * k) (enc L[i])
  cap : L.length ≤ c ∧ c ≤ maxLen
theorem GRd.ext {F : Nat → Prop} {w w' : World} {A : Option Addr} {c : Nat} {L : List α} (h : GRd enc k w A c L) (hx : Ext F w w') (hF : ∀ b o, A = some ⟨b, o, none⟩ → ¬ F b) : GRd enc k w' A c L := ⟨fun i hi => by
  obtain ⟨b, o, h1, h2, h3⟩ := h.at' i hi
  exact ⟨b, o, h1, Nat.lt_of_lt_of_le h2 hx.size, hx.range h3 (hF b o h1)⟩, h.cap⟩
abbrev GR (e : TypeId) (enc : α → List Value) (k : Nat) (w : World) (v : Value) (L : List α) : Prop := QRow w e k v L.length (flatG enc L)
theorem GR.rd {e : TypeId} (hk : ∀ x, (enc x).length = k) (hk0 : 0 < k) {w : World} {A : Option Addr} {c : Nat} {L : List α} (h : GR e enc k w (.slice A L.length c) L) : GRd enc k w A c L := by
  refine ⟨fun i hi => ?_, ?_⟩
  · obtain ⟨g, o, cap', hv, _, _, hc, _⟩ := QRow.form h (by omega)
    injection hv with hv1 _ _
    have hr : w.rangeAt g (o + i * k) (enc L[i]) := fun j v hj => by
      have hjl : j < k := by have := (List.getElem?_eq_some_iff.1 hj).1; rw [hk] at this; exact this
      have hle : (i + 1) * k ≤ L.length * k := Nat.mul_le_mul_right k hi
      rw [Nat.add_mul] at hle
      rw [Nat.add_assoc, hc _ (by omega), flatG_at hk L i j hjl hi, List.getElem?_eq_getElem hi]
      exact hj
    have h0 : ∃ v, (enc L[i])[0]? = some v := ⟨_, List.getElem?_eq_getElem (by rw [hk]; exact hk0)⟩
    obtain ⟨v, hv0⟩ := h0
    exact ⟨g, o, hv1, World.block_lt_of_cell? _ _ (hr 0 v hv0), hr⟩
  · obtain ⟨A', c', hv, h1, h2, _⟩ := QRow.slice h
    injection hv with _ _ hv
    subst hv
    exact ⟨h1, h2⟩
end
/-- A hop. -/
structure Hp where
  key : List Int
  cmd : Cm
  len : key.length = 32
instance : Inhabited Cm := ⟨⟨0, 0, 0, Z8, rfl⟩⟩
instance : Inhabited Hp := ⟨⟨Zk, default, rfl⟩⟩
def hc (h : Hp) : List Value := bys h.key ++ cc h.cmd
theorem hc_len (h : Hp) : (hc h).length = 43 := by simp [hc, bys_length, h.len, cc_len]
theorem hc_one (h : Hp) : ∀ u ∈ hc h, u.oneCell' = true := by
  intro u hu
  rcases List.mem_append.1 hu with hu | hu
  · exact bys_one _ u hu
  · exact cc_one _ u hu
theorem hp_key {w : World} {g o : Nat} {h : Hp} (hr : w.rangeAt g o (hc h)) : w.rangeAt g o (bys h.key) := fun j v hj => by
  have hjl := (List.getElem?_eq_some_iff.1 hj).1
  exact hr j v (by unfold hc; rw [List.getElem?_append_left hjl]; exact hj)
theorem hp_cmd {w : World} {g o : Nat} {h : Hp} (hr : w.rangeAt g o (hc h)) : w.rangeAt g (o + 32) (cc h.cmd) := fun j v hj => by
  have := hr (j + 32) v (by unfold hc; rw [List.getElem?_append_right (by rw [bys_length, h.len]; omega), bys_length, h.len, Nat.add_sub_cancel]; exact hj)
  rw [Nat.add_assoc, Nat.add_comm 32 j]; exact this
theorem Try.size45 : (Try.prog.info? 45).map (·.size) = some 43 := by kernel_rfl
theorem sizeHp (h : Hp) : (Try.prog.info? 45).map (·.size) = some (hc h).length := by rw [hc_len]; exact Try.size45
abbrev HR (w : World) (v : Value) (L : List Hp) : Prop := GR 45 hc 43 w v L
abbrev HRd (w : World) (A : Option Addr) (c : Nat) (L : List Hp) : Prop := GRd hc 43 w A c L
/-- Delay's sum. -/
def dly : List Hp → Int → Int
  | [], n => n
  | h :: L, n => dly L (if h.cmd.kind = 1 then IntKind.i64.wrap (n + max h.cmd.delay 0) else n)
theorem dly_snoc (L : List Hp) (h : Hp) : ∀ n, dly (L ++ [h]) n = if h.cmd.kind = 1 then IntKind.i64.wrap (dly L n + max h.cmd.delay 0) else dly L n := by
  induction L with
  | nil => intro n; rfl
  | cons x L ih => intro n; exact ih _
set_option maxHeartbeats 1600000 in
theorem delay19 (A : Option Addr) (c : Nat) (L : List Hp) (w : World) (hr : HRd w A c L) (hlen : L.length ≤ 1000) : Calls Try.prog 19 #[.slice A L.length c] w fun e w' => e = .returned (.int .i64 (dly L 0)) ∧ Ext NoB w w' := by
  have h63 : c ≤ 9223372036854775807 := by have := hr.cap.2; unfold maxLen at this; omega
  have hcap := hr.cap.1
  have HR := Lib.hid hr
  clear hr
  go_enter Try.func19, Try.ntmps19
  go_wp2_with fail
  go_loopw [3, 8] (fun n i W => ∃ k : Nat, k ≤ L.length ∧ i = .int .i64 k ∧ n = .int .i64 (dly (L.take k) 0) ∧ Ext NoB w W) (fun _ i _ => L.length - (intOf i).toNat)
  case atStart => exact ⟨0, by omega, rfl, rfl, Ext.refl _ _⟩
  case round =>
    obtain ⟨k, hk, rfl, rfl, hx⟩ := hrel
    by_cases hlt : k < L.length
    · have k1 : (k : Int) < (L.length : Int) := by omega
      obtain ⟨b, o, rfl, hb, hra⟩ := (HR.out.ext hx (fun _ _ _ h => h)).at' k hlt
      have hN := sizeHp L[k]
      have hsn : dly (L.take (k + 1)) 0 = if L[k].cmd.kind = 1 then IntKind.i64.wrap (dly (L.take k) 0 + max L[k].cmd.delay 0) else dly (L.take k) 0 := by
        rw [List.take_succ_eq_append_getElem hlt, dly_snoc]
      generalize L[k] = h at *
      obtain ⟨V, hV⟩ : ∃ V, V = (hc h).toArray := ⟨_, rfl⟩
      have lV : V.size = 43 := by rw [hV]; simp [hc_len]
      have sV : (Try.prog.info? 45).map (·.size) = some V.size := by rw [lV]; exact Try.size45
      have oV : V.all (·.oneCell') = true := by rw [hV]; exact all_oneCell_toArray (hc_one h)
      have hbV : (wr.alloc (.cells V 45)).heap[wr.heap.size]? = some (.cells (hc h).toArray 45 (0, 0)) := by rw [← hV]; exact heapNew _ _
      have c0 := cm_0 (hp_cmd (nd_box hbV))
      have c2 := cm_2 (hp_cmd (nd_box hbV))
      simp only [Nat.zero_add] at c0 c2
      have hx2 := hx.andAlloc (.cells V 45)
      have HV := Lib.hid hV
      have HRA := Lib.hid hra
      generalize dly (L.take k) 0 = n at *
      generalize hn2 : dly (L.take (k + 1)) 0 = n2 at *
      have HN2 := Lib.hid hn2
      clear hV hra hbV hx hn2
      by_cases hk1 : h.cmd.kind = 1
      · rw [if_pos hk1] at hsn
        have HSN := Lib.hid hsn
        rw [hk1] at c0
        clear hsn hk1
        go_wp2_with (first
          | ((with_reducible show wpList _ _ _ (⟨_, .load 45 _, _, _, _, _⟩ :: _) _ _); refine wpList_load_arrm (by rfl) 45 _ rfl b (o + k * 43) rfl (hc h) _ HRA.out Try.underlying45 rfl hN ?_)
          | ((with_reducible show wpList _ _ _ (⟨_, .store 45 _ _, _, _, _, _⟩ :: _) _ _); refine wpList_store_new rfl 45 _ _ rfl wr.heap.size V rfl (by rw [HV.out]; rfl) rfl (by rw [lV]; rfl) sV oV ?_))
        exact ⟨⟨k + 1, by omega, by go_num, by rw [HN2.out, HSN.out, IntWalk.i64_left], hx2⟩, by simp [intOf]; omega⟩
      · rw [if_neg hk1] at hsn
        have HSN := Lib.hid hsn
        have hk2 : (h.cmd.kind == 1) = false := beq_eq_false_iff_ne.2 hk1
        clear hsn
        go_wp2_with (first
          | ((with_reducible show wpList _ _ _ (⟨_, .load 45 _, _, _, _, _⟩ :: _) _ _); refine wpList_load_arrm (by rfl) 45 _ rfl b (o + k * 43) rfl (hc h) _ HRA.out Try.underlying45 rfl hN ?_)
          | ((with_reducible show wpList _ _ _ (⟨_, .store 45 _ _, _, _, _, _⟩ :: _) _ _); refine wpList_store_new rfl 45 _ _ rfl wr.heap.size V rfl (by rw [HV.out]; rfl) rfl (by rw [lV]; rfl) sV oV ?_))
        exact ⟨⟨k + 1, by omega, by go_num, by rw [HN2.out, HSN.out], hx2⟩, by simp [intOf]; omega⟩
    · have k1 : ¬ (k : Int) < (L.length : Int) := by omega
      obtain rfl : k = L.length := by omega
      rw [List.take_length]
      go_wp2_with fail
      go_ret
      exact ⟨rfl, hx⟩
end Go.Proofs.Ytdibjnlmeiikmaa
