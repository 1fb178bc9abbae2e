/-
  Numbers of 32 digits to the base 256, and p. No program is named here.
-/
import Derived.Test.YtdibjnlmeiikmaaBase
set_option linter.unusedVariables false
set_option linter.unusedSimpArgs false
namespace Go.Proofs.Ytdibjnlmeiikmaa

/-- The digits below k, as a number. -/
def sm (f : Nat → Int) : Nat → Int
  | 0 => 0
  | k + 1 => sm f k + f k * 256 ^ k
def Dg (f : Nat → Int) (k : Nat) : Prop := ∀ i, i < k → 0 ≤ f i ∧ f i ≤ 255
theorem pow_pos256 (k : Nat) : (0 : Int) < 256 ^ k := Int.pow_pos (by decide)
theorem sm_nonneg {f : Nat → Int} : ∀ {k : Nat}, Dg f k → 0 ≤ sm f k
  | 0, _ => Int.le_refl _
  | k + 1, h => by
    have h1 := sm_nonneg (f := f) (k := k) fun i hi => h i (by omega)
    have h2 := Int.mul_nonneg (h k (by omega)).1 (Int.le_of_lt (pow_pos256 k))
    unfold sm; omega
theorem sm_lt {f : Nat → Int} : ∀ {k : Nat}, Dg f k → sm f k < 256 ^ k
  | 0, _ => by simp [sm]
  | k + 1, h => by
    have h1 := sm_lt (f := f) (k := k) fun i hi => h i (by omega)
    have h2 := Int.mul_le_mul_of_nonneg_right (h k (by omega)).2 (Int.le_of_lt (pow_pos256 k))
    unfold sm
    rw [Int.pow_succ]
    omega
theorem sm_zero {f : Nat → Int} : ∀ {k : Nat}, Dg f k → (sm f k = 0 ↔ ∀ i, i < k → f i = 0)
  | 0, _ => by simp [sm]
  | k + 1, h => by
    have h0 : Dg f k := fun i hi => h i (by omega)
    have h1 := sm_nonneg h0
    have hp := pow_pos256 k
    have h2 := Int.mul_nonneg (h k (by omega)).1 (Int.le_of_lt hp)
    have ih := sm_zero h0
    unfold sm
    constructor
    · intro e
      have e1 : sm f k = 0 := by omega
      have e2 : f k * 256 ^ k = 0 := by omega
      have e3 : f k = 0 := by
        rcases Int.mul_eq_zero.1 e2 with h | h
        · exact h
        · omega
      intro i hi
      rcases Nat.lt_or_ge i k with h | h
      · exact ih.1 e1 i h
      · rw [show i = k by omega, e3]
    · intro e
      rw [ih.2 fun i hi => e i (by omega), e k (by omega)]
      simp
theorem sm_congr {f g : Nat → Int} : ∀ {k : Nat}, (∀ i, i < k → f i = g i) → sm f k = sm g k
  | 0, _ => rfl
  | k + 1, h => by unfold sm; rw [sm_congr fun i hi => h i (by omega), h k (by omega)]
/-- p's digits, and p. -/
def pd (i : Int) : Int := if i = 0 then 237 else if i = 31 then 127 else 255
def P25 : Int := 57896044618658097711785492504343953926634992332820282019728792003956564819949
theorem pd_bd (i : Int) : 0 ≤ pd i ∧ pd i ≤ 255 := by unfold pd; split; (· decide); (· split <;> decide)
theorem pd_sum : sm (fun i => pd i) 32 = P25 := by decide
/-- atLeast's loop. -/
def alF (f : Nat → Int) : Nat → Bool
  | 0 => true
  | k + 1 => if f k = pd k then alF f k else decide (pd k < f k)
theorem alF_eq {f : Nat → Int} : ∀ {k : Nat}, Dg f k → alF f k = decide (sm (fun i => pd i) k ≤ sm f k)
  | 0, _ => by simp [alF, sm]
  | k + 1, h => by
    have h0 : Dg f k := fun i hi => h i (by omega)
    have hd : Dg (fun i => pd i) k := fun i _ => pd_bd i
    have ih := alF_eq h0
    have a1 := sm_nonneg h0
    have a2 := sm_lt h0
    have b1 := sm_nonneg hd
    have b2 := sm_lt hd
    have hp := pow_pos256 k
    unfold alF sm
    by_cases e : f k = pd k
    · rw [if_pos e, ih, decide_eq_decide, e]; omega
    · rw [if_neg e, decide_eq_decide]
      constructor
      · intro h
        have := Int.mul_le_mul_of_nonneg_right (show pd k + 1 ≤ f k by omega) (Int.le_of_lt hp)
        rw [Int.add_mul] at this
        omega
      · intro h
        rcases Int.lt_or_gt_of_ne e with h1 | h1
        · have := Int.mul_le_mul_of_nonneg_right (show f k + 1 ≤ pd k by omega) (Int.le_of_lt hp)
          rw [Int.add_mul] at this
          omega
        · exact h1
/-- less' loop: what is borrowed, and the digits. -/
def bor (f : Nat → Int) : Nat → Int
  | 0 => 0
  | k + 1 => if f k - pd k - bor f k < 0 then 1 else 0
def dgt (f : Nat → Int) (k : Nat) : Int := if f k - pd k - bor f k < 0 then f k - pd k - bor f k + 256 else f k - pd k - bor f k
theorem bor_01 (f : Nat → Int) (k : Nat) : bor f k = 0 ∨ bor f k = 1 := by
  cases k with
  | zero => exact .inl rfl
  | succ k => unfold bor; split <;> simp
theorem dgt_bd {f : Nat → Int} {k : Nat} (h : 0 ≤ f k ∧ f k ≤ 255) : 0 ≤ dgt f k ∧ dgt f k ≤ 255 := by
  have h1 := pd_bd k
  have h2 := bor_01 f k
  unfold dgt
  split <;> omega
theorem dgt_sum (f : Nat → Int) : ∀ k, sm (dgt f) k = sm f k - sm (fun i => pd i) k + bor f k * 256 ^ k
  | 0 => by simp [sm, bor]
  | k + 1 => by
    have ih := dgt_sum f k
    have hp := pow_pos256 k
    unfold sm
    rw [ih, Int.pow_succ]
    show _ + dgt f k * 256 ^ k = _ + bor f (k + 1) * (256 ^ k * 256)
    have hb : bor f (k + 1) = if f k - pd k - bor f k < 0 then 1 else 0 := rfl
    have hd : dgt f k = if f k - pd k - bor f k < 0 then f k - pd k - bor f k + 256 else f k - pd k - bor f k := rfl
    rw [hb, hd]
    by_cases h : f k - pd k - bor f k < 0
    · rw [if_pos h, if_pos h, Int.add_mul, Int.sub_mul, Int.sub_mul]; omega
    · rw [if_neg h, if_neg h, Int.sub_mul, Int.sub_mul]; omega
theorem less_sum {f : Nat → Int} (h : Dg f 32) (hge : P25 ≤ sm f 32) : sm (dgt f) 32 = sm f 32 - P25 := by
  have h1 := dgt_sum f 32
  rw [pd_sum] at h1
  have h2 := sm_lt (f := dgt f) (k := 32) fun i hi => dgt_bd (h i hi)
  have h3 := sm_nonneg (f := dgt f) (k := 32) fun i hi => dgt_bd (h i hi)
  have e : (256 : Int) ^ 32 = 115792089237316195423570985008687907853269984665640564039457584007913129639936 := by decide
  rw [e] at h1 h2
  rcases bor_01 f 32 with hb | hb
  · rw [hb] at h1; omega
  · rw [hb] at h1; omega
end Go.Proofs.Ytdibjnlmeiikmaa
