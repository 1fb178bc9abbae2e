/-
  The queue beside the document's queue: both answer alike.
-/
import Derived.Test.YtaphhadahajohaaS
set_option linter.unusedVariables false
set_option linter.unusedSimpArgs false
namespace Go.Proofs.Ytaphhadahajohaa
open Go.RowKit

/-- One entry of each list, alike. -/
def RelE (w : World) (e : It × List Int) (x : Rt) : Prop := x.due = e.1.due ∧ x.dest = e.1.dest ∧ x.l = e.2.length ∧ Bytes w x.b e.2
def Cor (w : World) (L : List (It × List Int)) (M : List Rt) : Prop := M.length = L.length ∧ ∀ (i : Nat) (e : It × List Int) (x : Rt), L[i]? = some e → M[i]? = some x → RelE w e x
theorem Cor.nil (w : World) : Cor w [] [] := ⟨rfl, fun i e x h => by simp at h⟩
theorem Cor.append {w : World} {L : List (It × List Int)} {M : List Rt} (h : Cor w L M) {e : It × List Int} {x : Rt} (hx : RelE w e x) : Cor w (L ++ [e]) (M ++ [x]) := by
  obtain ⟨h1, h2⟩ := h
  refine ⟨by simp [h1], fun i e' x' he hx' => ?_⟩
  rcases Nat.lt_trichotomy i L.length with hl | hl | hl
  · rw [List.getElem?_append_left hl] at he
    rw [List.getElem?_append_left (by omega)] at hx'
    exact h2 i e' x' he hx'
  · rw [List.getElem?_append_right (by omega), hl, Nat.sub_self] at he
    rw [List.getElem?_append_right (by omega), hl, h1, Nat.sub_self] at hx'
    simp at he hx'
    subst he; subst hx'
    exact hx
  · rw [List.getElem?_eq_none (by simp; omega)] at he
    cases he
theorem Cor.erase {w : World} {L : List (It × List Int)} {M : List Rt} (h : Cor w L M) (b : Nat) : Cor w (L.eraseIdx b) (M.eraseIdx b) := by
  obtain ⟨h1, h2⟩ := h
  refine ⟨by rw [List.length_eraseIdx, List.length_eraseIdx, h1], fun i e x he hx => ?_⟩
  rw [List.getElem?_eraseIdx] at he hx
  split at he
  · rename_i hb
    rw [if_pos hb] at hx
    exact h2 _ e x he hx
  · rename_i hb
    rw [if_neg hb] at hx
    exact h2 _ e x he hx
theorem Cor.dues {w : World} {L : List (It × List Int)} {M : List Rt} (h : Cor w L M) : rdues M = dues L := by
  refine List.ext_getElem (by simp [rdues, Go.Proofs.Ytaphhadahajohaa.dues, h.1]) fun i h1 h2 => ?_
  have l1 : i < M.length := by simpa [rdues] using h1
  have l2 : i < L.length := by rw [← h.1]; exact l1
  have := h.2 i _ _ (List.getElem?_eq_getElem l2) (List.getElem?_eq_getElem l1)
  simp only [rdues, Go.Proofs.Ytaphhadahajohaa.dues, List.getElem_map]
  exact this.1
theorem popX_own {F : Nat → Prop} {w : World} {p : Nat} {room nn : Int} {L : List (It × List Int)} (h : QS w p room nn L F) (now : Int) : ∀ k, (popX L now).b.ownBlock = some k → F k := by
  unfold popX
  cases hi : popI L now with
  | none => intro k hk; simp [Value.ownBlock] at hk
  | some i =>
    have hil := popI_lt hi
    have e1 : L.getD i default = L[i] := by rw [List.getD_eq_getElem?_getD, List.getElem?_eq_getElem hil]; rfl
    simp only [e1]
    exact (h.el _ (List.getElem_mem hil)).2
/-- The document's Pop, told by what the queue's Pop does. -/
def RPopC (w0 w : World) (A : Option Addr) (n c : Nat) (m : Int) (xd xt E : Int) (bs : List Int) (L' : List (It × List Int)) (e : Ending) (w' : World) : Prop :=
  ∃ A' c' M' yA yl yc, e = .returned (.tuple #[rq A' (List.length M') c' m, ri ⟨xd, xt, yA, yl, yc⟩, .int .i64 E]) ∧ RR w' (.slice A' M'.length c') M' ∧ Cor w0 L' M' ∧ Ext NoB w w' ∧ (∀ k, (Value.slice A' M'.length c').ownBlock = some k → (Value.slice A n c).ownBlock = some k ∨ w.heap.size ≤ k) ∧ Bytes w0 (.slice yA yl yc) bs
theorem rpop_cor {w0 : World} {L : List (It × List Int)} (A : Option Addr) (c : Nat) (m : Int) (M : List Rt) (now : Int) (hM : M.length ≤ 1000000) (hc : Cor w0 L M) (w : World) (hr : RR w (.slice A M.length c) M) :
    Calls Try.prog 12 #[rq A M.length c m, .int .i64 now] w (RPopC w0 w A M.length c m (popX L now).due (popX L now).dest (popE L now) (popB L now) (popL L now)) := by
  refine (rpop_any A c m M now hM w hr).mono ?_
  intro e w' h
  unfold RPopEnd at h
  unfold RPopC popX popE popB popL
  have hd : popI L now = bst (rdues M) now M.length := by unfold popI; rw [hc.dues, hc.1]
  rw [hd]
  cases hi : bst (rdues M) now M.length with
  | none =>
    rw [hi] at h
    obtain ⟨h1, h2⟩ := h
    exact ⟨A, c, M, none, 0, 0, h1, hr.ext h2 (fun _ _ h => h), hc, h2, fun k hk => .inl hk, Bytes.nil _⟩
  | some b =>
    rw [hi] at h
    obtain ⟨A', c', h1, h2, h3, h4⟩ := h
    have hb : b < M.length := (bst_lt _ _ _ _ hi).1
    have hb2 : b < L.length := by rw [← hc.1]; exact hb
    have e1 : L.getD b default = L[b] := by rw [List.getD_eq_getElem?_getD, List.getElem?_eq_getElem hb2]; rfl
    have e2 : M.getD b default = M[b] := by rw [List.getD_eq_getElem?_getD, List.getElem?_eq_getElem hb]; rfl
    have hlen : (M.eraseIdx b).length = M.length - 1 := List.length_eraseIdx_of_lt hb
    obtain ⟨r1, r2, r3, r4⟩ := hc.2 b _ _ (List.getElem?_eq_getElem hb2) (List.getElem?_eq_getElem hb)
    simp only [e1]
    rw [e2] at h1
    refine ⟨A', c', M.eraseIdx b, M[b].A, M[b].l, M[b].c, ?_, ?_, hc.erase b, h3, ?_, r4⟩
    · rw [hlen, h1, ← r1, ← r2]
    · rw [hlen]; exact h2
    · rw [hlen]; exact fun k hk => .inr (h4 k hk)
def RPushC (w0 w : World) (A : Option Addr) (n c : Nat) (m E : Int) (L : List (It × List Int)) (due dest : Int) (bs : List Int) (e : Ending) (w' : World) : Prop :=
  ∃ A' c' M', e = .returned (.tuple #[rq A' (List.length M') c' m, .int .i64 E]) ∧ RR w' (.slice A' M'.length c') M' ∧ (∀ nn nn' L', PushL m nn L due dest bs nn' L' → Cor w0 L' M') ∧ Ext NoB w w' ∧ (∀ k, (Value.slice A' M'.length c').ownBlock = some k → (Value.slice A n c).ownBlock = some k ∨ w.heap.size ≤ k)
theorem rpush_cor {w0 : World} {L : List (It × List Int)} (A : Option Addr) (c : Nat) (m : Int) (M : List Rt) (hM : M.length ≤ 1000000) (hc : Cor w0 L M) (due dest : Int) (Ab : Option Addr) (cb : Nat) (bs : List Int) (hb : Bytes w0 (.slice Ab bs.length cb) bs) (hl : bs.length ≤ 9223372036854775807) (w : World) (hr : RR w (.slice A M.length c) M) :
    Calls Try.prog 16 #[rq A M.length c m, ri ⟨due, dest, Ab, bs.length, cb⟩] w (RPushC w0 w A M.length c m (pushE m L.length due dest bs.length) L due dest bs) := by
  have hlen := hc.1
  by_cases hm : mayB due dest bs.length = true
  · by_cases hf : m ≤ (L.length : Int)
    · have hE : pushE m L.length due dest bs.length = 8 := by unfold pushE; rw [if_pos hm, if_pos hf]
      refine (rpush_full A M.length c m ⟨due, dest, Ab, bs.length, cb⟩ (by omega) hm (by omega) w).mono ?_
      rintro e w' ⟨h1, x⟩
      refine ⟨A, c, M, by rw [hE]; exact h1, hr.ext x (fun _ _ h => h), fun nn nn' L' hp => ?_, x, fun k hk => .inl hk⟩
      rcases hp with ⟨h, _⟩ | ⟨_, _, h⟩
      · rw [hE] at h; cases h
      · rw [h]; exact hc
    · have hE : pushE m L.length due dest bs.length = 0 := by unfold pushE; rw [if_pos hm, if_neg hf]
      refine (rpush_ok A c m M ⟨due, dest, Ab, bs.length, cb⟩ hm (by omega) hM w hr).mono ?_
      rintro e w' ⟨A', c', h1, h2, h3, h4⟩
      have hl1 : (M ++ [(⟨due, dest, Ab, bs.length, cb⟩ : Rt)]).length = M.length + 1 := by simp
      refine ⟨A', c', M ++ [⟨due, dest, Ab, bs.length, cb⟩], by rw [hE, hl1]; exact h1, by rw [hl1]; exact h2, fun nn nn' L' hp => ?_, h3, by rw [hl1]; exact fun k hk => .inr (h4 k hk)⟩
      rcases hp with ⟨_, _, _, A1, c1, h⟩ | ⟨h, _⟩
      · rw [h]; exact hc.append ⟨rfl, rfl, rfl, hb⟩
      · exact absurd hE h
  · have hm' : mayB due dest bs.length = false := by simpa using hm
    have hE : pushE m L.length due dest bs.length = 2 := by unfold pushE; rw [if_neg hm]
    refine (rpush_arg A M.length c m ⟨due, dest, Ab, bs.length, cb⟩ hl hm' w).mono ?_
    rintro e w' ⟨h1, x⟩
    refine ⟨A, c, M, by rw [hE]; exact h1, hr.ext x (fun _ _ h => h), fun nn nn' L' hp => ?_, x, fun k hk => .inl hk⟩
    rcases hp with ⟨h, _⟩ | ⟨_, _, h⟩
    · rw [hE] at h; cases h
    · rw [h]; exact hc
end Go.Proofs.Ytaphhadahajohaa
