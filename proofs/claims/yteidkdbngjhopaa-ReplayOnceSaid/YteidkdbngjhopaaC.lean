/-
  The keys of the outer map, sorted: what the library answers.
-/
import Derived.Test.YteidkdbngjhopaaB
import Derived.Test.YteidkdbngjhopaaLay
set_option linter.unusedVariables false
set_option linter.unusedSimpArgs false
namespace Go.Proofs.Yteidkdbngjhopaa
open Go.RowKit Go.Maps Go.Sort Go.Shelf

theorem sortsA (m : Nat) : AnyZI.SortsIn Try.prog Try.sortedA_ren Fence.wide m :=
  ⟨fun blk off cap ss W hH hblk hsz => callsIn_wide.2 (AnyM.slices_Sort_int Try.sortA blk off cap ss W hH hblk hsz),
   fun p cap W => callsIn_wide.2 (AnyM.slices_Sort_int_none Try.sortA p cap W)⟩
theorem keys_call (mb : Option Nat) (w : World) : Calls Try.prog 23 #[.map mb] w fun e w' => e = .returned (.func (.func 26) #[] #[.pointer (some ⟨w.heap.size, 0, none⟩)]) ∧ w' = w.alloc (.cells #[.map mb] 51) :=
  (callsIn_wide (n := 5)).1 (AnyZI.keys_in Try.keysA Fence.wide 5 trivial rfl mb w)
/-- What slices.Sorted(maps.Keys(m)) answers. -/
def SortedG (w : World) (G : List Int) (e : Ending) (w' : World) : Prop :=
  ∃ v, e = .returned v ∧ w'.ownsRow w.heap.size 3 1 v G.length ((G.mergeSort (fun x y => decide (x ≤ y))).map (Value.int .i64)) ∧ Below w.heap.size w w'
theorem sorted_call (w : World) (bm mb : Nat) (G : List Int) (f : Int → Nat) (h : OM w mb G f) (hc : w.heap[bm]? = some (.cells #[.map (some mb)] 51 (0, 0))) (hl : G.length ≤ 1000000) :
    Calls Try.prog 22 #[.func (.func 26) #[] #[.pointer (some ⟨bm, 0, none⟩)]] w (SortedG w G) := by
  obtain ⟨D, h1, h2, h3⟩ := h.keys
  have hseq : SeqGives Fence.wide 2 Try.prog 26 #[.pointer (some ⟨bm, 0, none⟩)] encZ (fun ss => ss.Perm (intKeys D)) (Maps.size D) w :=
    AnyZI.keys_gives (ρ := Try.keysA_ren) { Try.keysA with } Fence.wide _ trivial rfl (by omega) bm mb _ D _ (blk_lt' hc) (by rw [cellOf hc]; rfl) h1
  have cS := AnyZI.sorted_in Try.sortedA Fence.wide 5 trivial trivial trivial trivial rfl (by omega) (sortsA _) (enters_of Try.func25 (by kernel_rfl) rfl) 26 #[.pointer (some ⟨bm, 0, none⟩)] trivial (enters_of Try.func26 (by kernel_rfl) rfl) _ _ (by rw [h2]; unfold maxLen; omega) (by rw [h2]; omega) _ hseq
  change CallsIn _ _ Try.prog 22 _ _ _ at cS
  refine ((callsIn_wide (n := 5)).1 cS).mono ?_
  rintro e w' ⟨v, ss, rfl, hp, hrow, hnil, hb⟩
  have hG := h3 ss hp
  refine ⟨v, rfl, ?_, hb⟩
  rw [mergeSort_of_perm_i hG, hG.length_eq] at hrow
  exact hrow
end Go.Proofs.Yteidkdbngjhopaa
