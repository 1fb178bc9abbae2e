/-
  ChachaBlocks returns true: the walk.
-/
import Derived.Test.YtcijbeagegonkaaL
set_option linter.unusedVariables false
set_option linter.unusedSimpArgs false
namespace Go.Proofs.Ytcijbeagegonkaa
open Go.RowKit

theorem rangeOf {w : World} {g : Nat} {cs : List Value} {e : TypeId} {fr : Nat × Nat} (h : w.heap[g]? = some (.cells cs.toArray e fr)) : w.rangeAt g 0 cs := fun j v hv => by
  rw [cellOf h, Nat.zero_add, List.getElem?_toArray]; exact hv
theorem Ext.range {F : Nat → Prop} {w w' : World} (h : Ext F w w') {g o : Nat} {cs : List Value} (hr : w.rangeAt g o cs) (hF : ¬ F g) : w'.rangeAt g o cs := fun j v hv => h.cell (hr j v hv) hF
theorem keepR {w w' : World} (h : Ext NoB w w') {g g' : Nat} {cs cs' : List Value} (hr : w.rangeAt g 0 cs ∧ w.rangeAt g' 0 cs') : w'.rangeAt g 0 cs ∧ w'.rangeAt g' 0 cs' := ⟨h.range hr.1 id, h.range hr.2 id⟩

set_option maxHeartbeats 800000 in
theorem blocks_walk (K N : List Int) (c : Int) (hK : K.length = 32) (hN : N.length = 12) (bK : Bs K) (bN : Bs N) (hc : U c) (w : World) :
    Calls Try.prog 3 #[Arr K, Arr N, .int .u32 c] w fun e w' => e = .returned (.bool true) ∧ Ext NoB w w' := by
  have h9 := block9 K N c hK hN bK bN hc
  have h10 := block10 K N c hK hN bK bN hc
  have heq := fun w => Try.eql27 (blk K N c) (blk K N c) (blk_length _ _ _) (blk_length _ _ _) w
  have hg := Try.guard27
  obtain ⟨V, hV⟩ : ∃ V, V = Arr (blk K N c) := ⟨_, rfl⟩
  obtain ⟨V', hV'⟩ : ∃ V', V' = (bys (blk K N c)).toArray := ⟨_, rfl⟩
  unfold Arr at h9 h10 heq ⊢
  rw [← hV'] at h9 h10 heq
  obtain ⟨A, hA⟩ : ∃ A, A = bys K := ⟨_, rfl⟩
  obtain ⟨C, hC⟩ : ∃ C, C = bys N := ⟨_, rfl⟩
  have lA : A.length = 32 := by rw [hA, bys_length, hK]
  have lC : C.length = 12 := by rw [hC, bys_length, hN]
  have sA : (Try.prog.info? 23).map (·.size) = some A.length := by rw [lA]; exact Try.size23
  have sC : (Try.prog.info? 24).map (·.size) = some C.length := by rw [lC]; exact Try.size24
  have oA : ∀ v ∈ A, v.oneCell' = true := by rw [hA]; exact bys_one _
  have oC : ∀ v ∈ C, v.oneCell' = true := by rw [hC]; exact bys_one _
  rw [← hA, ← hC] at h9 h10 ⊢
  have u23 := Try.underlying23
  have u24 := Try.underlying24
  have e0 : (blk K N c == blk K N c) = true := by simp
  rw [e0] at heq
  clear hA hC hV hV' e0
  have H9 := Lib.hid h9
  have H10 := Lib.hid h10
  clear h9 h10
  go_enter Try.func3, Try.ntmps3
  go_wp2_with (first | (refine (alive_any _).mono ?_; rintro e W2 ⟨rfl, x2⟩))
  have hA2 := x2.obj ((Ext.alloc NoB _ _).obj (heapNew w (.cells A.toArray 23)) (fun h => h)) (fun h => h)
  have hC2 := x2.obj (heapNew (w.alloc (.cells A.toArray 23)) (.cells C.toArray 24)) (fun h => h)
  have rA := rangeOf hA2
  have rC := rangeOf hC2
  have z1 : (w.alloc (.cells A.toArray 23)).heap.size = w.heap.size + 1 := by simp
  rw [z1] at rC
  clear hA2 hC2 z1
  go_wp2_with fail
  refine wp_region_held_drew (S := fun W => W.rangeAt w.heap.size 0 A ∧ W.rangeAt (w.heap.size + 1) 0 C) (by kernel_rfl) ?_ (fun hHeld => ?_)
  · exact ⟨rA, rC⟩
  · clear rA rC
    refine' wpAnyH_take (i := 0) (v := _) rfl (by kernel_rfl) (by kernel_rfl) (by kernel_rfl) (fun _ _ _ h => h) (yieldsIf_load_mid (by rfl) 23 _ (by rfl) (w.heap.size) 0 (by rfl) A _ (fun w h => h.1) u23 (by rfl) sA) (by assumption) ?_
    try simp only [Act.put, List.setIfInBounds_toArray, List.set_cons_zero, List.set_cons_succ]
    refine' wpAnyH_take (i := 1) (v := _) rfl (by kernel_rfl) (by kernel_rfl) (by kernel_rfl) (fun _ _ _ h => h) (yieldsIf_load_mid (by rfl) 24 _ (by rfl) (w.heap.size + 1) 0 (by rfl) C _ (fun w h => h.2) u24 (by rfl) sC) (by assumption) ?_
    try simp only [Act.put, List.setIfInBounds_toArray, List.set_cons_zero, List.set_cons_succ]
    refine' wpAnyH_take (i := 4) (v := _) rfl (by kernel_rfl) (by kernel_rfl) (by kernel_rfl) (fun _ _ _ h => h) (yieldsIf_load_mid (by rfl) 23 _ (by rfl) (w.heap.size) 0 (by rfl) A _ (fun w h => h.1) u23 (by rfl) sA) (by assumption) ?_
    try simp only [Act.put, List.setIfInBounds_toArray, List.set_cons_zero, List.set_cons_succ]
    refine' wpAnyH_take (i := 5) (v := _) rfl (by kernel_rfl) (by kernel_rfl) (by kernel_rfl) (fun _ _ _ h => h) (yieldsIf_load_mid (by rfl) 24 _ (by rfl) (w.heap.size + 1) 0 (by rfl) C _ (fun w h => h.2) u24 (by rfl) sC) (by assumption) ?_
    try simp only [Act.put, List.setIfInBounds_toArray, List.set_cons_zero, List.set_cons_succ]
    refine' wpAnyH_take (i := 2) (v := .int .u32 c) rfl (by kernel_rfl) (by kernel_rfl) (by kernel_rfl) (fun _ _ _ h => h) (Or.inl ⟨by rfl, fun w hSw => by go_simp⟩) (by assumption) ?_
    try simp only [Act.put, List.setIfInBounds_toArray, List.set_cons_zero, List.set_cons_succ]
    refine' wpAnyH_take (i := 6) (v := .int .u32 c) rfl (by kernel_rfl) (by kernel_rfl) (by kernel_rfl) (fun _ _ _ h => h) (Or.inl ⟨by rfl, fun w hSw => by go_simp⟩) (by assumption) ?_
    try simp only [Act.put, List.setIfInBounds_toArray, List.set_cons_zero, List.set_cons_succ]
    refine wpAnyH_ready (rs := [3]) (by kernel_rfl) (by simp) (AllReadyH.cons (by rfl) (fun K hK => ?_) AllReadyH.nil)
    go_simp; refine (H9.out _).mono ?_; rintro e W3 ⟨rfl, x3⟩; go_simp
    refine hK.out _ _ (keepR x3 (by assumption)) (fun hHeld => ?_)
    clear hK K
    try simp only [Act.put, List.setIfInBounds_toArray, List.set_cons_zero, List.set_cons_succ]
    refine wpAnyH_ready (rs := [7]) (by kernel_rfl) (by simp) (AllReadyH.cons (by rfl) (fun K hK => ?_) AllReadyH.nil)
    go_simp; refine (H10.out _).mono ?_; rintro e W4 ⟨rfl, x4⟩; go_simp
    refine hK.out _ _ (keepR x4 (by assumption)) (fun hHeld => ?_)
    clear hK K
    try simp only [Act.put, List.setIfInBounds_toArray, List.set_cons_zero, List.set_cons_succ]
    refine wpAnyH_ready (rs := [8]) (by kernel_rfl) (by simp) (AllReadyH.cons (by rfl) (fun K hK => ?_) AllReadyH.nil)
    go_simp
    refine hK.out _ _ (by assumption) (fun hHeld => ?_)
    clear hK K
    try simp only [Act.put, List.setIfInBounds_toArray, List.set_cons_zero, List.set_cons_succ]
    refine wpAnyH_ready (rs := [9]) (by kernel_rfl) (by simp) (AllReadyH.cons (by rfl) (fun K hK => ?_) AllReadyH.nil)
    go_simp
    refine hK.out _ _ (by assumption) (fun hHeld => ?_)
    clear hK K
    try simp only [Act.put, List.setIfInBounds_toArray, List.set_cons_zero, List.set_cons_succ]
    refine wpAnyH_done (by kernel_rfl) ?_ _
    have x5 : Ext NoB w W4 := ((((((Ext.alloc NoB w _).andAlloc _).then x2).andDrew).then x3).then x4)
    go_wp2_with fail
    go_ret
    exact ⟨rfl, x5⟩
end Go.Proofs.Ytcijbeagegonkaa
