/-
  The words of chapter 5: turning left and reading four bytes as a word, in the program and in the document's answer: one Lean function for both.
-/
import Derived.Test.YtcijbeagegonkaaBase
import Derived.Test.YtcijbeagegonkaaProg
import Derived.Laws.Closers25b
set_option linter.unusedVariables false
namespace Go.Proofs.Ytcijbeagegonkaa
open Go.RowKit

/-- A word that is turned: a is 2^k and b is 2^(32-k). -/
def rot (a b x : Int) : Int := bits .or .u32 (x * a % 4294967296) (x / b)
def plus (a b : Int) : Int := (a + b) % 4294967296
def xr (a b : Int) : Int := bits .xor .u32 a b
def U (x : Int) : Prop := 0 ≤ x ∧ x < 4294967296
theorem rot_u (a b x : Int) : U (rot a b x) := ⟨bits_lo_u32 _ _ _, by have := bits_hi_u32 .or (x * a % 4294967296) (x / b); unfold rot; omega⟩
theorem xr_u (a b : Int) : U (xr a b) := ⟨bits_lo_u32 _ _ _, by have := bits_hi_u32 .xor a b; unfold xr; omega⟩
theorem plus_u (a b : Int) : U (plus a b) := ⟨by unfold plus; omega, by unfold plus; omega⟩



theorem left23_16 (x : Int) (hx : U x) (w : World) : Calls Try.prog 23 #[.int .u32 x, .int .i64 16] w fun e w' => e = .returned (.int .u32 (rot 65536 65536 x)) ∧ w' = w := by
  obtain ⟨h0, h1⟩ := hx
  go_enter Try.func23, Try.ntmps23
  go_wp2
  go_ret
  exact ⟨rfl, rfl⟩
theorem left23_12 (x : Int) (hx : U x) (w : World) : Calls Try.prog 23 #[.int .u32 x, .int .i64 12] w fun e w' => e = .returned (.int .u32 (rot 4096 1048576 x)) ∧ w' = w := by
  obtain ⟨h0, h1⟩ := hx
  go_enter Try.func23, Try.ntmps23
  go_wp2
  go_ret
  exact ⟨rfl, rfl⟩
theorem left23_8 (x : Int) (hx : U x) (w : World) : Calls Try.prog 23 #[.int .u32 x, .int .i64 8] w fun e w' => e = .returned (.int .u32 (rot 256 16777216 x)) ∧ w' = w := by
  obtain ⟨h0, h1⟩ := hx
  go_enter Try.func23, Try.ntmps23
  go_wp2
  go_ret
  exact ⟨rfl, rfl⟩
theorem left23_7 (x : Int) (hx : U x) (w : World) : Calls Try.prog 23 #[.int .u32 x, .int .i64 7] w fun e w' => e = .returned (.int .u32 (rot 128 33554432 x)) ∧ w' = w := by
  obtain ⟨h0, h1⟩ := hx
  go_enter Try.func23, Try.ntmps23
  go_wp2
  go_ret
  exact ⟨rfl, rfl⟩
theorem left24_16 (x : Int) (hx : U x) (w : World) : Calls Try.prog 24 #[.int .u32 x, .int .i64 16] w fun e w' => e = .returned (.int .u32 (rot 65536 65536 x)) ∧ w' = w := by
  obtain ⟨h0, h1⟩ := hx
  have e : bits .and .u64 16 31 = 16 := by decide
  go_enter Try.func24, Try.ntmps24
  go_wp2
  go_ret
  exact ⟨rfl, rfl⟩
theorem left24_12 (x : Int) (hx : U x) (w : World) : Calls Try.prog 24 #[.int .u32 x, .int .i64 12] w fun e w' => e = .returned (.int .u32 (rot 4096 1048576 x)) ∧ w' = w := by
  obtain ⟨h0, h1⟩ := hx
  have e : bits .and .u64 12 31 = 12 := by decide
  go_enter Try.func24, Try.ntmps24
  go_wp2
  go_ret
  exact ⟨rfl, rfl⟩
theorem left24_8 (x : Int) (hx : U x) (w : World) : Calls Try.prog 24 #[.int .u32 x, .int .i64 8] w fun e w' => e = .returned (.int .u32 (rot 256 16777216 x)) ∧ w' = w := by
  obtain ⟨h0, h1⟩ := hx
  have e : bits .and .u64 8 31 = 8 := by decide
  go_enter Try.func24, Try.ntmps24
  go_wp2
  go_ret
  exact ⟨rfl, rfl⟩
theorem left24_7 (x : Int) (hx : U x) (w : World) : Calls Try.prog 24 #[.int .u32 x, .int .i64 7] w fun e w' => e = .returned (.int .u32 (rot 128 33554432 x)) ∧ w' = w := by
  obtain ⟨h0, h1⟩ := hx
  have e : bits .and .u64 7 31 = 7 := by decide
  go_enter Try.func24, Try.ntmps24
  go_wp2
  go_ret
  exact ⟨rfl, rfl⟩

/-- A byte. -/
def B (x : Int) : Prop := 0 ≤ x ∧ x < 256
/-- Four bytes as a word, the lowest one first. -/
def wd (a b c d : Int) : Int := bits .or .u32 (bits .or .u32 (bits .or .u32 a (b * 256)) (c * 65536)) (d * 16777216)
theorem wd_u (a b c d : Int) : U (wd a b c d) := ⟨bits_lo_u32 _ _ _, by have := bits_hi_u32 .or (bits .or .u32 (bits .or .u32 a (b * 256)) (c * 65536)) (d * 16777216); unfold wd; omega⟩

theorem word20 (g o n c : Nat) (b0 b1 b2 b3 : Int) (h0 : B b0) (h1 : B b1) (h2 : B b2) (h3 : B b3) (w : World) (hn : 4 ≤ n) (hm : n ≤ 9223372036854775807)
    (c0 : w.cell? ⟨g, o, none⟩ = some (.int .u8 b0)) (c1 : w.cell? ⟨g, o + 1, none⟩ = some (.int .u8 b1)) (c2 : w.cell? ⟨g, o + 2, none⟩ = some (.int .u8 b2)) (c3 : w.cell? ⟨g, o + 3, none⟩ = some (.int .u8 b3)) :
    Calls Try.prog 20 #[.slice (some ⟨g, o, none⟩) n c] w fun e w' => e = .returned (.int .u32 (wd b0 b1 b2 b3)) ∧ ∃ m, w' = w.drewN m := by
  obtain ⟨a0, a1⟩ := h0
  obtain ⟨a2, a3⟩ := h1
  obtain ⟨a4, a5⟩ := h2
  obtain ⟨a6, a7⟩ := h3
  go_enter Try.func20, Try.ntmps20
  go_wp2
  go_quiet (fail)
  go_wp2
  go_ret
  exact ⟨rfl, _, rfl⟩
theorem word22 (g o n c : Nat) (b0 b1 b2 b3 : Int) (h0 : B b0) (h1 : B b1) (h2 : B b2) (h3 : B b3) (w : World) (hn : 4 ≤ n) (hm : n ≤ 9223372036854775807)
    (c0 : w.cell? ⟨g, o, none⟩ = some (.int .u8 b0)) (c1 : w.cell? ⟨g, o + 1, none⟩ = some (.int .u8 b1)) (c2 : w.cell? ⟨g, o + 2, none⟩ = some (.int .u8 b2)) (c3 : w.cell? ⟨g, o + 3, none⟩ = some (.int .u8 b3)) :
    Calls Try.prog 22 #[.slice (some ⟨g, o, none⟩) n c] w fun e w' => e = .returned (.int .u32 (wd b0 b1 b2 b3)) ∧ ∃ m, w' = w.drewN m := by
  obtain ⟨a0, a1⟩ := h0
  obtain ⟨a2, a3⟩ := h1
  obtain ⟨a4, a5⟩ := h2
  obtain ⟨a6, a7⟩ := h3
  go_enter Try.func22, Try.ntmps22
  go_wp2
  go_quiet (fail)
  go_wp2
  go_ret
  exact ⟨rfl, _, rfl⟩
end Go.Proofs.Ytcijbeagegonkaa
