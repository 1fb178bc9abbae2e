/-
  The queue: what it holds; Len, Clear, Push.
-/
import Derived.Test.YtaphhadahajohaaH
set_option linter.unusedVariables false
set_option linter.unusedSimpArgs false
namespace Go.Proofs.Ytaphhadahajohaa
open Go.RowKit

theorem Try.info59 : (Try.prog.info? 59).map (fun i => (i.zero, i.size, i.bytes)) = some (some (.agg #[.int .i64 0, .int .i64 0, .slice none 0 0, .int .i64 0]), 4, 48) := by kernel_rfl
/-- What waits: in the order in which it came, each with its bytes. -/
structure QS (w : World) (p : Nat) (room nn : Int) (L : List (It × List Int)) (F : Nat → Prop) : Prop where
  st : ∃ sv hs, w.heap[p]? = some (.cells #[.int .i64 room, sv, .int .i64 nn] 53 (0, 0)) ∧ QRow w 59 4 sv hs.length (flat hs) ∧ hs.Perm (L.map (·.1)) ∧ HeapN hs hs.length ∧ ∀ k, sv.ownBlock = some k → F k
  el : ∀ e ∈ L, El w e.1.b e.2 ∧ ∀ k, e.1.b.ownBlock = some k → F k
  own : F p
  ord : L.Pairwise (fun a b => a.1.n < b.1.n)
  top : ∀ e ∈ L, e.1.n ≤ nn ∧ 0 ≤ e.1.due
theorem QS.ext {F G : Nat → Prop} {w w' : World} {p : Nat} {room nn : Int} {L : List (It × List Int)} (h : QS w p room nn L F) (hx : Ext G w w') (hF : ∀ k, F k → ¬ G k) : QS w' p room nn L F := by
  obtain ⟨⟨sv, hs, h1, h2, h3, h4, h5⟩, h6, h7, h8, h9⟩ := h
  exact ⟨⟨sv, hs, hx.obj h1 (hF _ h7), h2.ext hx (fun k hk => hF k (h5 k hk)), h3, h4, h5⟩, fun e he => ⟨(h6 e he).1.ext hx (fun k hk => hF k ((h6 e he).2 k hk)), (h6 e he).2⟩, h7, h8, h9⟩
theorem QS.mono {F G : Nat → Prop} {w : World} {p : Nat} {room nn : Int} {L : List (It × List Int)} (h : QS w p room nn L F) (hF : ∀ k, k < w.heap.size → F k → G k) : QS w p room nn L G := by
  obtain ⟨⟨sv, hs, h1, h2, h3, h4, h5⟩, h6, h7, h8, h9⟩ := h
  exact ⟨⟨sv, hs, h1, h2, h3, h4, fun k hk => hF k (h2.lt k hk) (h5 k hk)⟩, fun e he => ⟨(h6 e he).1, fun k hk => hF k ((h6 e he).1.lt k hk) ((h6 e he).2 k hk)⟩, hF p (blk_lt' h1) h7, h8, h9⟩
theorem QS.lt {F : Nat → Prop} {w : World} {p : Nat} {room nn : Int} {L : List (It × List Int)} (h : QS w p room nn L F) : p < w.heap.size := by
  obtain ⟨⟨sv, hs, h1, _⟩, _⟩ := h; exact blk_lt' h1
theorem QS.new (w : World) (room : Int) : QS (w.alloc (.cells #[.int .i64 room, .slice none 0 0, .int .i64 0] 53)) w.heap.size room 0 [] (fun k => k = w.heap.size) :=
  ⟨⟨_, [], heapNew _ _, QRow.nil _ _ _, List.Perm.refl _, fun k h1 h2 => by simp at h2, fun k hk => by simp [Value.ownBlock] at hk⟩, fun e he => by simp at he, rfl, List.Pairwise.nil, fun e he => by simp at he⟩
/-- The three cells of the queue. -/
theorem QS.cells {F : Nat → Prop} {w : World} {p : Nat} {room nn : Int} {L : List (It × List Int)} (h : QS w p room nn L F) :
    ∃ A c, w.heap[p]? = some (.cells #[.int .i64 room, .slice A L.length c, .int .i64 nn] 53 (0, 0)) ∧ L.length ≤ c ∧ c ≤ maxLen := by
  obtain ⟨⟨sv, hs, h1, h2, h3, _⟩, _⟩ := h
  obtain ⟨A, c, rfl, k1, k2, _⟩ := h2.slice
  have : hs.length = L.length := by rw [h3.length_eq, List.length_map]
  rw [this] at h1 k1
  exact ⟨A, c, h1, k1, k2⟩
theorem three {w : World} {b : Nat} {a0 a1 a2 : Value} {e : TypeId} {fr : Nat × Nat} (h : w.heap[b]? = some (.cells #[a0, a1, a2] e fr)) : w.cell? ⟨b, 0, none⟩ = some a0 ∧ w.cell? ⟨b, 1, none⟩ = some a1 ∧ w.cell? ⟨b, 2, none⟩ = some a2 :=
  ⟨by rw [cellOf h]; rfl, by rw [cellOf h]; rfl, by rw [cellOf h]; rfl⟩

theorem len20' (p n c : Nat) (A : Option Addr) (w : World) (c1 : w.cell? ⟨p, 1, none⟩ = some (.slice A n c)) :
    Calls Try.prog 20 #[.pointer (some ⟨p, 1, none⟩)] w fun e w' => e = .returned (.int .i64 n) ∧ ∃ m, w' = w.drewN m := by
  go_enter Try.func20, Try.ntmps20
  go_wp2
  go_ret
  exact ⟨rfl, 0, rfl⟩
theorem len10 {F : Nat → Prop} {w : World} {p : Nat} {room nn : Int} {L : List (It × List Int)} (h : QS w p room nn L F) (hr : 0 < room) :
    Calls Try.prog 10 #[.pointer (some ⟨p, 0, none⟩)] w fun e w' => e = .returned (.int .i64 L.length) ∧ Ext NoB w w' := by
  obtain ⟨A, c, hb, _⟩ := h.cells
  obtain ⟨c0, c1, c2⟩ := three hb
  go_enter Try.func10, Try.ntmps10
  go_wp2_with (first
    | (go_at_call 18; refine (good_yes p room _ hr c0).mono ?_; rintro e W1 ⟨rfl, m, rfl⟩)
    | (go_at_call 20; refine (len20' p L.length c A (w.drewN m) c1).mono ?_; rintro e W2 ⟨rfl, m2, rfl⟩))
  go_ret
  exact ⟨rfl, Ext.drewN NoB w _⟩

theorem QS.clear {F : Nat → Prop} {w w' : World} {p : Nat} {room nn : Int} {L : List (It × List Int)} (h : QS w p room nn L F) (hb : w'.heap[p]? = some (.cells #[.int .i64 room, .slice none 0 0, .int .i64 nn] 53 (0, 0))) : QS w' p room nn [] F :=
  ⟨⟨_, [], hb, QRow.nil _ _ _, List.Perm.refl _, fun k h1 h2 => by simp at h2, fun k hk => by simp [Value.ownBlock] at hk⟩, fun e he => by simp at he, h.own, List.Pairwise.nil, fun e he => by simp at he⟩
theorem clear15 {F : Nat → Prop} {w : World} {p : Nat} {room nn : Int} {L : List (It × List Int)} (h : QS w p room nn L F) (hr : 0 < room) :
    Calls Try.prog 15 #[.pointer (some ⟨p, 0, none⟩)] w fun e w' => e = .returned (.int .i64 L.length) ∧ QS w' p room nn [] F ∧ Ext (fun k => k = p) w w' := by
  have hl := len10 h hr
  obtain ⟨A, c, hb, hc1, hc2⟩ := h.cells
  have HL := Lib.hid hl
  clear hl
  rcases Nat.eq_zero_or_pos L.length with h0 | h0
  · have e0 : ¬ (0 : Int) < (L.length : Int) := by omega
    have hL : L = [] := List.eq_nil_of_length_eq_zero h0
    subst hL
    have HQ := Lib.hid h
    clear h0
    go_enter Try.func15, Try.ntmps15
    go_wp2_with (first
      | (go_at_call 10; refine HL.out.mono ?_; rintro e W1 ⟨rfl, x1⟩))
    go_ret
    exact ⟨rfl, HQ.out.ext x1 fun _ _ h => h, x1.mono fun _ _ h => h.elim⟩
  · have e0 : (0 : Int) < (L.length : Int) := by omega
    have e1 : ¬ L.length = 0 := by omega
    go_enter Try.func15, Try.ntmps15
    go_upto_region 3 with (first
      | (go_at_call 10; refine HL.out.mono ?_; rintro e W1 ⟨rfl, x1⟩))
    have hb1 := x1.obj hb id
    obtain ⟨c0, c1, c2⟩ := three hb1
    have fr := freeOf hb1 1
    go_wp2_with fail
    go_ret
    refine ⟨rfl, h.clear (by rw [heapSet hb1]; rfl), (x1.mono fun _ _ h => h.elim).andSet _ _ fun _ => rfl⟩

/-! ### Push -/
theorem push_no (v : Value) (hv : ∀ W, Calls Try.prog 18 #[v] W fun e w' => e = .returned (.bool false) ∧ ∃ m, w' = W.drewN m) (due dest : Int) (A : Option Addr) (l c : Nat) (w : World) :
    Calls Try.prog 9 #[v, .agg #[.int .i64 due, .int .i64 dest, .slice A l c]] w fun e w' => e = .returned (.int .i64 1) ∧ Ext NoB w w' := by
  go_enter Try.func9, Try.ntmps9
  go_wp2_with (first
    | (go_at_call 18; refine (hv _).mono ?_; rintro e W1 ⟨rfl, m, rfl⟩))
  go_ret
  exact ⟨rfl, (Ext.alloc NoB w _).andDrewN m⟩
theorem push_arg {F : Nat → Prop} {w : World} {p : Nat} {room nn : Int} {L : List (It × List Int)} (h : QS w p room nn L F) (hr : 0 < room) (due dest : Int) (A : Option Addr) (l c : Nat) (hl : l ≤ 9223372036854775807) (hm : mayB due dest l = false) :
    Calls Try.prog 9 #[.pointer (some ⟨p, 0, none⟩), .agg #[.int .i64 due, .int .i64 dest, .slice A l c]] w fun e w' => e = .returned (.int .i64 2) ∧ Ext NoB w w' := by
  obtain ⟨A1, k1, hb, _⟩ := h.cells
  obtain ⟨c0, c1, c2⟩ := three hb
  have hmay := fun W => may19 due dest A l c hl W
  rw [hm] at hmay
  have HM := Lib.hid hmay
  clear hmay hm
  go_enter Try.func9, Try.ntmps9
  go_wp2_with (first
    | (go_at_call 18; refine (good_yes p room _ hr ((Ext.alloc NoB w _).cell c0 id)).mono ?_; rintro e W1 ⟨rfl, m, rfl⟩)
    | (go_at_call 19; refine (HM.out _).mono ?_; rintro e W2 ⟨rfl, x2⟩))
  go_ret
  exact ⟨rfl, ((Ext.alloc NoB w _).andDrewN m).then x2⟩
end Go.Proofs.Ytaphhadahajohaa
