/-
  The functions that are handed over; placed.
-/
import Derived.Test.YtdibjnlmeiikmaaJ
set_option linter.unusedVariables false
set_option linter.unusedSimpArgs false
namespace Go.Proofs.Ytdibjnlmeiikmaa
open Go.RowKit

def cmpI (a b : Int) : Int := if a < b then -1 else if b < a then 1 else 0
theorem compare46 (a b : Int) (w : World) : Calls Try.prog 46 #[.int .i64 a, .int .i64 b] w fun e w' => e = .returned (.int .i64 (cmpI a b)) ∧ ∃ n, w' = w.drewN n := by
  unfold cmpI
  by_cases h1 : a < b
  · rw [if_pos h1]
    go_enter Try.func46, Try.ntmps46
    go_wp2
    go_ret
    exact ⟨rfl, 0, rfl⟩
  · by_cases h2 : b < a
    · rw [if_neg h1, if_pos h2]
      go_enter Try.func46, Try.ntmps46
      go_wp2
      go_ret
      exact ⟨rfl, 0, rfl⟩
    · rw [if_neg h1, if_neg h2]
      go_enter Try.func46, Try.ntmps46
      go_wp2
      go_ret
      exact ⟨rfl, 0, rfl⟩
def plc (layers : Int) (n : Nd) : Bool := decide (0 ≤ n.id ∧ n.id < 16 ∧ 0 ≤ n.lay ∧ n.lay < layers)
set_option maxHeartbeats 800000 in
theorem placed25 (layers : Int) (A : Option Addr) (c m : Nat) (n : Nd) (w : World) : Calls Try.prog 25 #[.agg #[.int .i64 layers, .slice A m c], .agg (nc n).toArray] w fun e w' => e = .returned (.bool (plc layers n)) ∧ Ext NoB w w' := by
  generalize hW1 : (w.alloc (.cells #[.int .i64 layers, .slice A m c] 30)).alloc (.cells (nc n).toArray 50) = W1
  have hb : W1.heap[w.heap.size + 1]? = some (.cells (nc n).toArray 50 (0, 0)) := by rw [← hW1, heapNew' _ _ _ (by simp)]
  have hd : W1.heap[w.heap.size]? = some (.cells #[.int .i64 layers, .slice A m c] 30 (0, 0)) := by rw [← hW1, heapAlloc _ _ _ (by simp), heapNew]
  have hx : Ext NoB w W1 := by rw [← hW1]; exact (Ext.alloc NoB w _).andAlloc _
  have c0 := nd_id (nd_box hb)
  have c1 := nd_lay (nd_box hb)
  have d0 : W1.cell? ⟨w.heap.size, 0, none⟩ = some (.int .i64 layers) := by rw [cellOf hd]; rfl
  simp only [Nat.zero_add] at c1
  unfold plc
  clear hb hd
  obtain ⟨V, hV⟩ : ∃ V, V = (nc n).toArray := ⟨_, rfl⟩
  rw [← hV] at hW1 ⊢
  clear hV
  go_enter Try.func25, Try.ntmps25
  go_upto_region 1 with fail
  by_cases h1 : 0 ≤ n.id
  · by_cases h2 : n.id < 16
    · by_cases h3 : 0 ≤ n.lay
      · by_cases h4 : n.lay < layers
        · have e : decide (0 ≤ n.id ∧ n.id < 16 ∧ 0 ≤ n.lay ∧ n.lay < layers) = true := by simp [h1, h2, h3, h4]
          have HE := Lib.hid e
          clear e
          go_wp2_with fail
          go_ret
          exact ⟨by first | (simp [*]; done) | (simp [*]; omega), hx⟩
        · have e : decide (0 ≤ n.id ∧ n.id < 16 ∧ 0 ≤ n.lay ∧ n.lay < layers) = false := by simp [h4]
          have HE := Lib.hid e
          clear e
          go_wp2_with fail
          go_ret
          exact ⟨by first | (simp [*]; done) | (simp [*]; omega), hx⟩
      · have e : decide (0 ≤ n.id ∧ n.id < 16 ∧ 0 ≤ n.lay ∧ n.lay < layers) = false := by simp [h3]
        have HE := Lib.hid e
        clear e
        go_wp2_with fail
        go_ret
        exact ⟨by first | (simp [*]; done) | (simp [*]; omega), hx⟩
    · have e : decide (0 ≤ n.id ∧ n.id < 16 ∧ 0 ≤ n.lay ∧ n.lay < layers) = false := by simp [h2]
      have HE := Lib.hid e
      clear e
      go_wp2_with fail
      go_ret
      exact ⟨by first | (simp [*]; done) | (simp [*]; omega), hx⟩
  · have e : decide (0 ≤ n.id ∧ n.id < 16 ∧ 0 ≤ n.lay ∧ n.lay < layers) = false := by simp [h1]
    have HE := Lib.hid e
    clear e
    go_wp2_with fail
    go_ret
    exact ⟨by first | (simp [*]; done) | (simp [*]; omega), hx⟩
theorem zeroFn27 (n : Nd) (hn : NdOk n) (w : World) : Calls Try.prog 27 #[.agg (nc n).toArray] w fun e w' => e = .returned (.bool (decide (num n.key % P25 = 0))) ∧ Ext NoB w w' := by
  have hb := heapNew w (.cells (nc n).toArray 50)
  have hx := Ext.alloc NoB w (.cells (nc n).toArray 50)
  have hr := nd_key (nd_box hb)
  simp only [Nat.zero_add] at hr
  have sB := hn.ky.size
  clear hb
  obtain ⟨V, hV⟩ : ∃ V, V = (nc n).toArray := ⟨_, rfl⟩
  rw [← hV] at hx hr ⊢
  clear hV
  go_enter Try.func27, Try.ntmps27
  go_wp2_with (first
    | ((with_reducible show wpList _ _ _ (⟨_, .load 33 _, _, _, _, _⟩ :: _) _ _); refine wpList_load_arrm (by rfl) 33 _ rfl w.heap.size 1 rfl (bys n.key) _ hr Try.underlying33 rfl sB ?_)
    | (go_at_call 28; (with_reducible refine (zero28 n.key hn.ky _).mono ?_); rintro e W2 ⟨rfl, x2⟩))
  go_ret
  exact ⟨rfl, hx.then x2⟩
theorem bool_dec (a b : Int) : (a == b) = decide (a = b) := by rw [Bool.eq_iff_iff]; simp
theorem layFn43 (n : Nd) (b : Nat) (l : Int) (w : World) (hc : w.cell? ⟨b, 0, none⟩ = some (.int .i64 l)) : Calls Try.prog 43 #[.agg (nc n).toArray, .pointer (some ⟨b, 0, none⟩)] w fun e w' => e = .returned (.bool (!decide (n.lay = l))) ∧ Ext NoB w w' := by
  have hb := heapNew w (.cells (nc n).toArray 50)
  have hx := Ext.alloc NoB w (.cells (nc n).toArray 50)
  have c1 := nd_lay (nd_box hb)
  have c2 := hx.cell hc id
  simp only [Nat.zero_add] at c1
  clear hb hc
  obtain ⟨V, hV⟩ : ∃ V, V = (nc n).toArray := ⟨_, rfl⟩
  rw [← hV] at hx c1 c2 ⊢
  clear hV
  generalize n.lay = x at *
  rw [← bool_dec]
  go_enter Try.func43, Try.ntmps43
  go_wp2_with fail
  go_ret
  exact ⟨rfl, hx⟩
theorem idFn31 (n : Nd) (b : Nat) (l : Int) (w : World) (hc : w.cell? ⟨b, 0, none⟩ = some (.int .i64 l)) : Calls Try.prog 31 #[.agg (nc n).toArray, .pointer (some ⟨b, 0, none⟩)] w fun e w' => e = .returned (.bool (decide (n.id = l))) ∧ Ext NoB w w' := by
  have hb := heapNew w (.cells (nc n).toArray 50)
  have hx := Ext.alloc NoB w (.cells (nc n).toArray 50)
  have c1 := nd_id (nd_box hb)
  have c2 := hx.cell hc id
  clear hb hc
  obtain ⟨V, hV⟩ : ∃ V, V = (nc n).toArray := ⟨_, rfl⟩
  rw [← hV] at hx c1 c2 ⊢
  clear hV
  generalize n.id = x at *
  rw [← bool_dec]
  go_enter Try.func31, Try.ntmps31
  go_wp2_with fail
  go_ret
  exact ⟨rfl, hx⟩
theorem numFn24 (n : Nd) (b : Nat) (layers : Int) (A : Option Addr) (c m : Nat) (w : World) (hc0 : w.cell? ⟨b, 0, none⟩ = some (.int .i64 layers)) (hc1 : w.cell? ⟨b, 1, none⟩ = some (.slice A m c)) :
    Calls Try.prog 24 #[.agg (nc n).toArray, .pointer (some ⟨b, 0, none⟩)] w fun e w' => e = .returned (.bool (!plc layers n)) ∧ Ext NoB w w' := by
  have hb := heapNew w (.cells (nc n).toArray 50)
  have hx := Ext.alloc NoB w (.cells (nc n).toArray 50)
  have d0 := hx.cell hc0 id
  have d1 := hx.cell hc1 id
  have sN := sizeNd n
  have hpl := placed25 layers A c m n
  have HB := Lib.hid hb
  clear hb hc0 hc1
  go_enter Try.func24, Try.ntmps24
  go_wp2_with (first
    | ((with_reducible show wpList _ _ _ (⟨_, .load 50 _, _, _, _, _⟩ :: _) _ _); refine wpList_load_arrm (by rfl) 50 _ rfl w.heap.size 0 rfl (nc n) _ (nd_box HB.out) Try.underlying50 rfl sN ?_)
    | (go_at_call 25; (with_reducible refine (hpl _).mono ?_); rintro e W2 ⟨rfl, x2⟩))
  go_ret
  exact ⟨rfl, hx.then x2⟩
end Go.Proofs.Ytdibjnlmeiikmaa
