/-
  commands: May.
-/
import Derived.Test.YtdibjnlmeiikmaaU
set_option linter.unusedVariables false
set_option linter.unusedSimpArgs false
namespace Go.Proofs.Ytdibjnlmeiikmaa
open Go.RowKit Go.Proofs

def mayC (m : Cm) : Bool :=
  if m.kind = 1 then decide (0 ≤ m.next) && (decide (m.next < 16) && (decide (0 ≤ m.delay) && (decide (m.delay ≤ 64) && (m.id == Z8)))) else if m.kind = 2 then userC m && bareC m else if m.kind = 3 then userC m && decide (m.delay = 0) else if m.kind = 4 then decide (m.next = 0) && bareC m else false
theorem sizeCm (m : Cm) : (Try.prog.info? 43).map (·.size) = some (cc m).length := by rw [cc_len]; exact Try.size43
set_option maxHeartbeats 3200000 in
set_option maxRecDepth 100000 in
theorem may32 (m : Cm) (w : World) : Calls Try.prog 32 #[.agg (cc m).toArray] w fun e w' => e = .returned (.bool (mayC m)) ∧ Ext NoB w w' := by
  have hb := heapNew w (.cells (cc m).toArray 43)
  have hx := Ext.alloc NoB w (.cells (cc m).toArray 43)
  have c0 := cm_0 (nd_box hb)
  have c1 := cm_1 (nd_box hb)
  have c2 := cm_2 (nd_box hb)
  have r3 := cm_3 (nd_box hb)
  simp only [Nat.zero_add] at c1 c2 r3
  have heq := Try.eql41 m.len
  have s41 : (Try.prog.info? 41).map (·.size) = some (bys m.id).length := by rw [bys_length, m.len]; exact Try.size41
  have s43 := sizeCm m
  have HRC : Hid (∀ W, Ext NoB (w.alloc (.cells (cc m).toArray 43)) W → W.rangeAt w.heap.size 0 (cc m)) := Lib.hid fun W hW => nd_box (hW.obj hb id)
  have HU := Lib.hid (user47 m)
  have HBA := Lib.hid (bare48 m)
  have r0 := HRC.out _ (Ext.refl _ _)
  clear hb
  generalize hV : (cc m).toArray = V at *
  by_cases k1 : m.kind = 1
  · have hE : mayC m = (decide (0 ≤ m.next) && (decide (m.next < 16) && (decide (0 ≤ m.delay) && (decide (m.delay ≤ 64) && (m.id == Z8))))) := by unfold mayC; rw [if_pos k1]
    rw [k1] at c0
    have HE := Lib.hid hE
    clear hE k1 hV
    by_cases h1 : 0 ≤ m.next
    · by_cases h2 : m.next < 16
      · by_cases h3 : 0 ≤ m.delay
        · by_cases h4 : m.delay ≤ 64
          · go_enter Try.func32, Try.ntmps32
            go_wp2_with ((with_reducible show wpList _ _ _ (⟨_, .load 41 _, _, _, _, _⟩ :: _) _ _); refine wpList_load_arrm (by rfl) 41 _ rfl w.heap.size 3 rfl (bys m.id) _ r3 Try.underlying41 rfl s41 ?_)
            go_ret
            exact ⟨by rw [HE.out]; simp [h1, h2, h3, h4], hx⟩
          · go_enter Try.func32, Try.ntmps32
            go_wp2_with fail
            go_ret
            exact ⟨by rw [HE.out]; simp [h4]; intros; exfalso; omega, hx⟩
        · go_enter Try.func32, Try.ntmps32
          go_wp2_with fail
          go_ret
          exact ⟨by rw [HE.out]; simp [h3]; intros; exfalso; omega, hx⟩
      · go_enter Try.func32, Try.ntmps32
        go_wp2_with fail
        go_ret
        exact ⟨by rw [HE.out]; simp [h2]; intros; exfalso; omega, hx⟩
    · go_enter Try.func32, Try.ntmps32
      go_wp2_with fail
      go_ret
      exact ⟨by rw [HE.out]; simp [h1]; intros; exfalso; omega, hx⟩
  · by_cases k2 : m.kind = 2
    · have hE : mayC m = (userC m && bareC m) := by unfold mayC; rw [if_neg k1, if_pos k2]
      rw [k2] at c0
      clear k1 k2
      cases hU : userC m with
      | true =>
        rw [hU] at HU hE
        cases hB : bareC m with
        | true =>
          rw [hB] at HBA hE
          have HE := Lib.hid hE
          clear hU hB hE
          go_enter Try.func32, Try.ntmps32
          go_wp2_with (first
            | ((with_reducible show wpList _ _ _ (⟨_, .load 43 _, _, _, _, _⟩ :: _) _ _); refine wpList_load_arrm (by rfl) 43 _ rfl w.heap.size 0 rfl (cc m) _ (r0) Try.underlying43 rfl s43 ?_)
            | ((with_reducible show wpList _ _ _ (⟨_, .load 43 _, _, _, _, _⟩ :: _) _ _); refine wpList_load_arrm (by rfl) 43 _ rfl w.heap.size 0 rfl (cc m) _ (HRC.out _ x1) Try.underlying43 rfl s43 ?_)
            | (go_at_call 47; (with_reducible refine (HU.out _).mono ?_); rintro e W1 ⟨rfl, x1⟩; have e2 := cm_2 (HRC.out _ x1); simp only [Nat.zero_add] at e2)
            | (go_at_call 48; (with_reducible refine (HBA.out _).mono ?_); rintro e W2 ⟨rfl, x2⟩))
          go_ret
          first
            | exact ⟨by rw [HE.out]; rfl, hx.then (x1.then x2)⟩
            | exact ⟨by rw [HE.out]; rfl, hx.then x1⟩
            | exact ⟨by rw [HE.out]; rfl, hx.then x2⟩
            | exact ⟨by rw [HE.out]; rfl, hx⟩
        | false =>
          rw [hB] at HBA hE
          have HE := Lib.hid hE
          clear hU hB hE
          go_enter Try.func32, Try.ntmps32
          go_wp2_with (first
            | ((with_reducible show wpList _ _ _ (⟨_, .load 43 _, _, _, _, _⟩ :: _) _ _); refine wpList_load_arrm (by rfl) 43 _ rfl w.heap.size 0 rfl (cc m) _ (r0) Try.underlying43 rfl s43 ?_)
            | ((with_reducible show wpList _ _ _ (⟨_, .load 43 _, _, _, _, _⟩ :: _) _ _); refine wpList_load_arrm (by rfl) 43 _ rfl w.heap.size 0 rfl (cc m) _ (HRC.out _ x1) Try.underlying43 rfl s43 ?_)
            | (go_at_call 47; (with_reducible refine (HU.out _).mono ?_); rintro e W1 ⟨rfl, x1⟩; have e2 := cm_2 (HRC.out _ x1); simp only [Nat.zero_add] at e2)
            | (go_at_call 48; (with_reducible refine (HBA.out _).mono ?_); rintro e W2 ⟨rfl, x2⟩))
          go_ret
          first
            | exact ⟨by rw [HE.out]; rfl, hx.then (x1.then x2)⟩
            | exact ⟨by rw [HE.out]; rfl, hx.then x1⟩
            | exact ⟨by rw [HE.out]; rfl, hx.then x2⟩
            | exact ⟨by rw [HE.out]; rfl, hx⟩
      | false =>
        rw [hU] at HU hE
        have HE := Lib.hid hE
        clear hU hE
        go_enter Try.func32, Try.ntmps32
        go_wp2_with (first
          | ((with_reducible show wpList _ _ _ (⟨_, .load 43 _, _, _, _, _⟩ :: _) _ _); refine wpList_load_arrm (by rfl) 43 _ rfl w.heap.size 0 rfl (cc m) _ (r0) Try.underlying43 rfl s43 ?_)
          | ((with_reducible show wpList _ _ _ (⟨_, .load 43 _, _, _, _, _⟩ :: _) _ _); refine wpList_load_arrm (by rfl) 43 _ rfl w.heap.size 0 rfl (cc m) _ (HRC.out _ x1) Try.underlying43 rfl s43 ?_)
          | (go_at_call 47; (with_reducible refine (HU.out _).mono ?_); rintro e W1 ⟨rfl, x1⟩; have e2 := cm_2 (HRC.out _ x1); simp only [Nat.zero_add] at e2)
          | (go_at_call 48; (with_reducible refine (HBA.out _).mono ?_); rintro e W2 ⟨rfl, x2⟩))
        go_ret
        first
          | exact ⟨by rw [HE.out]; rfl, hx.then (x1.then x2)⟩
          | exact ⟨by rw [HE.out]; rfl, hx.then x1⟩
          | exact ⟨by rw [HE.out]; rfl, hx.then x2⟩
          | exact ⟨by rw [HE.out]; rfl, hx⟩
    · by_cases k3 : m.kind = 3
      · have hE : mayC m = (userC m && decide (m.delay = 0)) := by unfold mayC; rw [if_neg k1, if_neg k2, if_pos k3]
        rw [k3] at c0
        clear k1 k2 k3
        cases hU : userC m with
        | true =>
          rw [hU] at HU hE
          by_cases hd : m.delay = 0
          · have HE : Hid (mayC m = true) := Lib.hid (by rw [hE]; simp [hd])
            clear hU hE
            go_enter Try.func32, Try.ntmps32
            go_wp2_with (first
              | ((with_reducible show wpList _ _ _ (⟨_, .load 43 _, _, _, _, _⟩ :: _) _ _); refine wpList_load_arrm (by rfl) 43 _ rfl w.heap.size 0 rfl (cc m) _ (r0) Try.underlying43 rfl s43 ?_)
              | ((with_reducible show wpList _ _ _ (⟨_, .load 43 _, _, _, _, _⟩ :: _) _ _); refine wpList_load_arrm (by rfl) 43 _ rfl w.heap.size 0 rfl (cc m) _ (HRC.out _ x1) Try.underlying43 rfl s43 ?_)
              | (go_at_call 47; (with_reducible refine (HU.out _).mono ?_); rintro e W1 ⟨rfl, x1⟩; have e2 := cm_2 (HRC.out _ x1); simp only [Nat.zero_add] at e2)
              | (go_at_call 48; (with_reducible refine (HBA.out _).mono ?_); rintro e W2 ⟨rfl, x2⟩))
            go_ret
            first
              | exact ⟨by rw [HE.out]; rfl, hx.then (x1.then x2)⟩
              | exact ⟨by rw [HE.out]; rfl, hx.then x1⟩
              | exact ⟨by rw [HE.out]; rfl, hx.then x2⟩
              | exact ⟨by rw [HE.out]; rfl, hx⟩
          · have hd2 : (m.delay == 0) = false := beq_eq_false_iff_ne.2 hd
            have HE : Hid (mayC m = false) := Lib.hid (by rw [hE]; simp [hd])
            clear hU hE
            go_enter Try.func32, Try.ntmps32
            go_wp2_with (first
              | ((with_reducible show wpList _ _ _ (⟨_, .load 43 _, _, _, _, _⟩ :: _) _ _); refine wpList_load_arrm (by rfl) 43 _ rfl w.heap.size 0 rfl (cc m) _ (r0) Try.underlying43 rfl s43 ?_)
              | ((with_reducible show wpList _ _ _ (⟨_, .load 43 _, _, _, _, _⟩ :: _) _ _); refine wpList_load_arrm (by rfl) 43 _ rfl w.heap.size 0 rfl (cc m) _ (HRC.out _ x1) Try.underlying43 rfl s43 ?_)
              | (go_at_call 47; (with_reducible refine (HU.out _).mono ?_); rintro e W1 ⟨rfl, x1⟩; have e2 := cm_2 (HRC.out _ x1); simp only [Nat.zero_add] at e2)
              | (go_at_call 48; (with_reducible refine (HBA.out _).mono ?_); rintro e W2 ⟨rfl, x2⟩))
            go_ret
            first
              | exact ⟨by rw [HE.out]; rfl, hx.then (x1.then x2)⟩
              | exact ⟨by rw [HE.out]; rfl, hx.then x1⟩
              | exact ⟨by rw [HE.out]; rfl, hx.then x2⟩
              | exact ⟨by rw [HE.out]; rfl, hx⟩
        | false =>
          rw [hU] at HU hE
          have HE := Lib.hid hE
          clear hU hE
          go_enter Try.func32, Try.ntmps32
          go_wp2_with (first
            | ((with_reducible show wpList _ _ _ (⟨_, .load 43 _, _, _, _, _⟩ :: _) _ _); refine wpList_load_arrm (by rfl) 43 _ rfl w.heap.size 0 rfl (cc m) _ (r0) Try.underlying43 rfl s43 ?_)
            | ((with_reducible show wpList _ _ _ (⟨_, .load 43 _, _, _, _, _⟩ :: _) _ _); refine wpList_load_arrm (by rfl) 43 _ rfl w.heap.size 0 rfl (cc m) _ (HRC.out _ x1) Try.underlying43 rfl s43 ?_)
            | (go_at_call 47; (with_reducible refine (HU.out _).mono ?_); rintro e W1 ⟨rfl, x1⟩; have e2 := cm_2 (HRC.out _ x1); simp only [Nat.zero_add] at e2)
            | (go_at_call 48; (with_reducible refine (HBA.out _).mono ?_); rintro e W2 ⟨rfl, x2⟩))
          go_ret
          first
            | exact ⟨by rw [HE.out]; rfl, hx.then (x1.then x2)⟩
            | exact ⟨by rw [HE.out]; rfl, hx.then x1⟩
            | exact ⟨by rw [HE.out]; rfl, hx.then x2⟩
            | exact ⟨by rw [HE.out]; rfl, hx⟩
      · by_cases k4 : m.kind = 4
        · have hE : mayC m = (decide (m.next = 0) && bareC m) := by unfold mayC; rw [if_neg k1, if_neg k2, if_neg k3, if_pos k4]
          rw [k4] at c0
          clear k1 k2 k3 k4
          by_cases hn : m.next = 0
          · cases hB : bareC m with
            | true =>
              rw [hB] at HBA
              have HE : Hid (mayC m = true) := Lib.hid (by rw [hE, hB]; simp [hn])
              clear hB hE
              go_enter Try.func32, Try.ntmps32
              go_wp2_with (first
                | ((with_reducible show wpList _ _ _ (⟨_, .load 43 _, _, _, _, _⟩ :: _) _ _); refine wpList_load_arrm (by rfl) 43 _ rfl w.heap.size 0 rfl (cc m) _ (r0) Try.underlying43 rfl s43 ?_)
                | ((with_reducible show wpList _ _ _ (⟨_, .load 43 _, _, _, _, _⟩ :: _) _ _); refine wpList_load_arrm (by rfl) 43 _ rfl w.heap.size 0 rfl (cc m) _ (HRC.out _ x1) Try.underlying43 rfl s43 ?_)
                | (go_at_call 47; (with_reducible refine (HU.out _).mono ?_); rintro e W1 ⟨rfl, x1⟩; have e2 := cm_2 (HRC.out _ x1); simp only [Nat.zero_add] at e2)
                | (go_at_call 48; (with_reducible refine (HBA.out _).mono ?_); rintro e W2 ⟨rfl, x2⟩))
              go_ret
              first
                | exact ⟨by rw [HE.out]; rfl, hx.then (x1.then x2)⟩
                | exact ⟨by rw [HE.out]; rfl, hx.then x1⟩
                | exact ⟨by rw [HE.out]; rfl, hx.then x2⟩
                | exact ⟨by rw [HE.out]; rfl, hx⟩
            | false =>
              rw [hB] at HBA
              have HE : Hid (mayC m = false) := Lib.hid (by rw [hE, hB]; simp)
              clear hB hE
              go_enter Try.func32, Try.ntmps32
              go_wp2_with (first
                | ((with_reducible show wpList _ _ _ (⟨_, .load 43 _, _, _, _, _⟩ :: _) _ _); refine wpList_load_arrm (by rfl) 43 _ rfl w.heap.size 0 rfl (cc m) _ (r0) Try.underlying43 rfl s43 ?_)
                | ((with_reducible show wpList _ _ _ (⟨_, .load 43 _, _, _, _, _⟩ :: _) _ _); refine wpList_load_arrm (by rfl) 43 _ rfl w.heap.size 0 rfl (cc m) _ (HRC.out _ x1) Try.underlying43 rfl s43 ?_)
                | (go_at_call 47; (with_reducible refine (HU.out _).mono ?_); rintro e W1 ⟨rfl, x1⟩; have e2 := cm_2 (HRC.out _ x1); simp only [Nat.zero_add] at e2)
                | (go_at_call 48; (with_reducible refine (HBA.out _).mono ?_); rintro e W2 ⟨rfl, x2⟩))
              go_ret
              first
                | exact ⟨by rw [HE.out]; rfl, hx.then (x1.then x2)⟩
                | exact ⟨by rw [HE.out]; rfl, hx.then x1⟩
                | exact ⟨by rw [HE.out]; rfl, hx.then x2⟩
                | exact ⟨by rw [HE.out]; rfl, hx⟩
          · have hn2 : (m.next == 0) = false := beq_eq_false_iff_ne.2 hn
            have HE : Hid (mayC m = false) := Lib.hid (by rw [hE]; simp [hn])
            clear hE
            go_enter Try.func32, Try.ntmps32
            go_wp2_with (first
              | ((with_reducible show wpList _ _ _ (⟨_, .load 43 _, _, _, _, _⟩ :: _) _ _); refine wpList_load_arrm (by rfl) 43 _ rfl w.heap.size 0 rfl (cc m) _ (r0) Try.underlying43 rfl s43 ?_)
              | ((with_reducible show wpList _ _ _ (⟨_, .load 43 _, _, _, _, _⟩ :: _) _ _); refine wpList_load_arrm (by rfl) 43 _ rfl w.heap.size 0 rfl (cc m) _ (HRC.out _ x1) Try.underlying43 rfl s43 ?_)
              | (go_at_call 47; (with_reducible refine (HU.out _).mono ?_); rintro e W1 ⟨rfl, x1⟩; have e2 := cm_2 (HRC.out _ x1); simp only [Nat.zero_add] at e2)
              | (go_at_call 48; (with_reducible refine (HBA.out _).mono ?_); rintro e W2 ⟨rfl, x2⟩))
            go_ret
            first
              | exact ⟨by rw [HE.out]; rfl, hx.then (x1.then x2)⟩
              | exact ⟨by rw [HE.out]; rfl, hx.then x1⟩
              | exact ⟨by rw [HE.out]; rfl, hx.then x2⟩
              | exact ⟨by rw [HE.out]; rfl, hx⟩
        · have HE : Hid (mayC m = false) := Lib.hid (by unfold mayC; rw [if_neg k1, if_neg k2, if_neg k3, if_neg k4])
          have q1 : (m.kind == 1) = false := beq_eq_false_iff_ne.2 k1
          have q2 : (m.kind == 2) = false := beq_eq_false_iff_ne.2 k2
          have q3 : (m.kind == 3) = false := beq_eq_false_iff_ne.2 k3
          have q4 : (m.kind == 4) = false := beq_eq_false_iff_ne.2 k4
          go_enter Try.func32, Try.ntmps32
          go_wp2_with (first
            | ((with_reducible show wpList _ _ _ (⟨_, .load 43 _, _, _, _, _⟩ :: _) _ _); refine wpList_load_arrm (by rfl) 43 _ rfl w.heap.size 0 rfl (cc m) _ (r0) Try.underlying43 rfl s43 ?_)
            | ((with_reducible show wpList _ _ _ (⟨_, .load 43 _, _, _, _, _⟩ :: _) _ _); refine wpList_load_arrm (by rfl) 43 _ rfl w.heap.size 0 rfl (cc m) _ (HRC.out _ x1) Try.underlying43 rfl s43 ?_)
            | (go_at_call 47; (with_reducible refine (HU.out _).mono ?_); rintro e W1 ⟨rfl, x1⟩; have e2 := cm_2 (HRC.out _ x1); simp only [Nat.zero_add] at e2)
            | (go_at_call 48; (with_reducible refine (HBA.out _).mono ?_); rintro e W2 ⟨rfl, x2⟩))
          go_ret
          first
            | exact ⟨by rw [HE.out]; rfl, hx.then (x1.then x2)⟩
            | exact ⟨by rw [HE.out]; rfl, hx.then x1⟩
            | exact ⟨by rw [HE.out]; rfl, hx.then x2⟩
            | exact ⟨by rw [HE.out]; rfl, hx⟩
end Go.Proofs.Ytdibjnlmeiikmaa
