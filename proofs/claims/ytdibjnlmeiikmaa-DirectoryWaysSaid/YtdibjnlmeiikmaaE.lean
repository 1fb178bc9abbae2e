/-
  Numbers in four parts of 64 bits; math/bits.Sub64.
-/
import Derived.Test.YtdibjnlmeiikmaaD
import Derived.Shelf.Spec.BitsCarry
set_option linter.unusedVariables false
set_option linter.unusedSimpArgs false
namespace Go.Proofs.Ytdibjnlmeiikmaa
open Go.RowKit

theorem sm_shift (f : Nat → Int) : ∀ n, sm f (n + 1) = f 0 + 256 * sm (fun i => f (i + 1)) n
  | 0 => by simp [sm]
  | n + 1 => by
    have ih := sm_shift f n
    rw [show sm f (n + 1 + 1) = sm f (n + 1) + f (n + 1) * 256 ^ (n + 1) from rfl, ih]
    rw [show sm (fun i => f (i + 1)) (n + 1) = sm (fun i => f (i + 1)) n + f (n + 1) * 256 ^ n from rfl]
    rw [Int.pow_succ, Int.mul_add, Int.add_assoc]
    congr 1
    congr 1
    rw [Int.mul_comm (256 ^ n) 256, ← Int.mul_assoc, Int.mul_comm (f (n + 1)) 256, Int.mul_assoc]
theorem sm_split (f : Nat → Int) (a : Nat) : ∀ b, sm f (a + b) = sm f a + 256 ^ a * sm (fun i => f (a + i)) b
  | 0 => by simp [sm]
  | b + 1 => by
    have ih := sm_split f a b
    rw [show sm f (a + (b + 1)) = sm f (a + b) + f (a + b) * 256 ^ (a + b) from rfl, ih]
    rw [show sm (fun i => f (a + i)) (b + 1) = sm (fun i => f (a + i)) b + f (a + b) * 256 ^ b from rfl]
    rw [Int.mul_add, Int.add_assoc, Int.pow_add]
    congr 2
    rw [← Int.mul_assoc, Int.mul_comm (f (a + b)) (256 ^ a), Int.mul_assoc]
theorem sm_digits (x : Int) (hx : 0 ≤ x) : ∀ n, sm (fun k => x / 256 ^ k % 256) n = x % 256 ^ n
  | 0 => by simp [sm, Int.emod_one]
  | n + 1 => by
    have ih := sm_digits x hx n
    have hp := pow_pos256 n
    unfold sm
    rw [ih, Int.pow_succ]
    have h1 := Int.emod_add_mul_ediv x (256 ^ n)
    have h2 := Int.emod_add_mul_ediv x (256 ^ n * 256)
    have h3 := Int.emod_add_mul_ediv (x / 256 ^ n) 256
    have h4 : x / 256 ^ n / 256 = x / (256 ^ n * 256) := Int.ediv_ediv_of_nonneg (Int.le_of_lt hp)
    rw [h4] at h3
    have h5 : 256 ^ n * (x / 256 ^ n) = 256 ^ n * (x / 256 ^ n % 256) + 256 ^ n * 256 * (x / (256 ^ n * 256)) := by
      have := congrArg (fun z => 256 ^ n * z) h3
      simp only [Int.mul_add, ← Int.mul_assoc] at this
      exact this.symm
    rw [Int.mul_comm (x / 256 ^ n % 256) (256 ^ n)]
    omega
/-- Four parts. -/
structure Lb (L : List Int) : Prop where
  len : L.length = 4
  bd : ∀ i, i < 4 → 0 ≤ L.getD i 0 ∧ L.getD i 0 ≤ 18446744073709551615
def lv (L : List Int) : Int := L.getD 0 0 + 18446744073709551616 * L.getD 1 0 + 340282366920938463463374607431768211456 * L.getD 2 0 + 6277101735386680763835789423207666416102355444464034512896 * L.getD 3 0
/-- p's parts. -/
def pl (i : Nat) : Int := if i = 0 then 18446744073709551597 else if i = 3 then 9223372036854775807 else 18446744073709551615
def borL (L : List Int) : Nat → Int
  | 0 => 0
  | k + 1 => if L.getD k 0 < pl k + borL L k then 1 else 0
def dgL (L : List Int) (k : Nat) : Int := if L.getD k 0 < pl k + borL L k then L.getD k 0 - pl k - borL L k + 18446744073709551616 else L.getD k 0 - pl k - borL L k
theorem borL_01 (L : List Int) (k : Nat) : borL L k = 0 ∨ borL L k = 1 := by
  cases k with
  | zero => exact .inl rfl
  | succ k => unfold borL; split <;> simp
theorem pl_bd (k : Nat) : 0 ≤ pl k ∧ pl k ≤ 18446744073709551615 := by unfold pl; split; (· decide); (· split <;> decide)
theorem dgL_bd {L : List Int} (h : Lb L) {k : Nat} (hk : k < 4) : 0 ≤ dgL L k ∧ dgL L k ≤ 18446744073709551615 := by
  have h1 := pl_bd k
  have h2 := borL_01 L k
  have h3 := h.bd k hk
  unfold dgL
  split <;> omega
def subL (L : List Int) : List Int := [dgL L 0, dgL L 1, dgL L 2, dgL L 3]
theorem subL_lb {L : List Int} (h : Lb L) : Lb (subL L) := ⟨rfl, fun i hi => by
  have : i = 0 ∨ i = 1 ∨ i = 2 ∨ i = 3 := by omega
  rcases this with rfl | rfl | rfl | rfl
  · exact dgL_bd h (k := 0) (by omega)
  · exact dgL_bd h (k := 1) (by omega)
  · exact dgL_bd h (k := 2) (by omega)
  · exact dgL_bd h (k := 3) (by omega)⟩
theorem subL_sum {L : List Int} (h : Lb L) : lv (subL L) = lv L - P25 + borL L 4 * 115792089237316195423570985008687907853269984665640564039457584007913129639936 := by
  have e0 : lv (subL L) = dgL L 0 + 18446744073709551616 * dgL L 1 + 340282366920938463463374607431768211456 * dgL L 2 + 6277101735386680763835789423207666416102355444464034512896 * dgL L 3 := rfl
  have s : ∀ k, dgL L k = L.getD k 0 - pl k - borL L k + 18446744073709551616 * borL L (k + 1) := fun k => by
    have hd : dgL L k = if L.getD k 0 < pl k + borL L k then L.getD k 0 - pl k - borL L k + 18446744073709551616 else L.getD k 0 - pl k - borL L k := rfl
    have hb : borL L (k + 1) = if L.getD k 0 < pl k + borL L k then 1 else 0 := rfl
    rw [hd, hb]
    split <;> omega
  have b0 : borL L 0 = 0 := rfl
  have p0 : pl 0 = 18446744073709551597 := rfl
  have p1 : pl 1 = 18446744073709551615 := rfl
  have p2 : pl 2 = 18446744073709551615 := rfl
  have p3 : pl 3 = 9223372036854775807 := rfl
  have s0 := s 0
  have s1 := s 1
  have s2 := s 2
  have s3 := s 3
  rw [e0]
  unfold lv P25
  simp only [Nat.reduceAdd] at s0 s1 s2 s3
  omega
theorem lv_lt {L : List Int} (h : Lb L) : 0 ≤ lv L ∧ lv L ≤ 115792089237316195423570985008687907853269984665640564039457584007913129639935 := by
  have h0 := h.bd 0 (by omega)
  have h1 := h.bd 1 (by omega)
  have h2 := h.bd 2 (by omega)
  have h3 := h.bd 3 (by omega)
  unfold lv
  omega
theorem borL_iff {L : List Int} (h : Lb L) : borL L 4 = if lv L < P25 then 1 else 0 := by
  have h1 := subL_sum h
  have h2 := lv_lt (subL_lb h)
  have h3 := lv_lt h
  have h4 := borL_01 L 4
  have h5 : P25 = 57896044618658097711785492504343953926634992332820282019728792003956564819949 := rfl
  split
  · rcases h4 with h | h
    · rw [h] at h1; omega
    · exact h
  · rcases h4 with h | h
    · exact h
    · rw [h] at h1; omega
theorem sub70 (x y b : Int) (hx : 0 ≤ x ∧ x ≤ 18446744073709551615) (hy : 0 ≤ y ∧ y ≤ 18446744073709551615) (hb : b = 0 ∨ b = 1) (w : World) :
    (callFunc 70 #[.int .u64 x, .int .u64 y, .int .u64 b]).run Try.prog w = .ok (.value (.tuple #[.int .u64 (if x < y + b then x - y - b + 18446744073709551616 else x - y - b), .int .u64 (if x < y + b then 1 else 0)])) w := by
  obtain ⟨x, rfl⟩ : ∃ n : Nat, x = n := ⟨x.toNat, by omega⟩
  obtain ⟨y, rfl⟩ : ∃ n : Nat, y = n := ⟨y.toNat, by omega⟩
  obtain ⟨b, rfl⟩ : ∃ n : Nat, b = n := ⟨b.toNat, by omega⟩
  rw [run_callFunc_extern Try.func70 (by kernel_rfl) (by kernel_rfl) (by kernel_rfl) (e := sub64Entry) (by kernel_rfl), run_sub64 x y b (by omega)]
  have e1 : (((x + 18446744073709551616 - y - b) % 18446744073709551616 : Nat) : Int) = if (x : Int) < (y : Int) + (b : Int) then (x : Int) - y - b + 18446744073709551616 else (x : Int) - y - b := by split <;> omega
  have e2 : ((if x < y + b then 1 else 0 : Nat) : Int) = if (x : Int) < (y : Int) + (b : Int) then 1 else 0 := by split <;> split <;> omega
  rw [e1, e2]
  rfl
end Go.Proofs.Ytdibjnlmeiikmaa
