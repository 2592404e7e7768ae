/- package ops: Pairs, Writes, Seens of a work without any, and of none. -/
import Derived.Test.YtdinnaijfemmbaaGreatDoorOpsNew
import Derived.Test.YtdinnaijfemmbaaGreatDoorSorted
namespace Go.Proofs.YtdinnaijfemmbaaGreatDoor
open Go.RowKit
set_option maxRecDepth 100000

theorem ops_Pairs_none (wb mb : Nat) (w : World) (h4 : w.cell? ⟨wb, 4, none⟩ = some (.map (some mb))) (hm : w.heap[mb]? = some (.map #[] 0)) :
    Calls Tryz.prog 14 #[.pointer (some ⟨wb, 0, none⟩)] w fun e w' => e = .returned (.slice none 0 0) ∧ Below w.heap.size w w' := by
  have hm := Lib.hid hm
  go_enter Tryz.func14, Tryz.ntmps14
  go_wp2_with (first
    | (go_at_call 55; refine (pairKeys_call _ _).mono ?_; rintro e w' ⟨rfl, rfl⟩)
    | (go_at_call 54; refine (pairSorted_none mb w.heap.size _ (by simp) (by simp) ((Below.heap_alloc _ _ _ (blk_lt hm.out)).trans hm.out)).mono ?_; rintro e w' ⟨rfl, hb⟩))
  refine wp_loop_rounds 1 ?_
  rw [rounds_succ]
  go_wp2
  go_ret
  exact ⟨rfl, ((Below.refl _ _).alloc (Nat.le_refl _) _).trans (hb.mono (by simp))⟩

theorem ops_Writes_none (wb mb : Nat) (w : World) (h4 : w.cell? ⟨wb, 6, none⟩ = some (.map (some mb))) (hm : w.heap[mb]? = some (.map #[] 0)) :
    Calls Tryz.prog 16 #[.pointer (some ⟨wb, 0, none⟩)] w fun e w' => e = .returned (.slice none 0 0) ∧ Below w.heap.size w w' := by
  have hm := Lib.hid hm
  go_enter Tryz.func16, Tryz.ntmps16
  go_wp2_with (first
    | (go_at_call 56; refine (writeKeys_call _ _).mono ?_; rintro e w' ⟨rfl, rfl⟩)
    | (go_at_call 54; refine (writeSorted_none mb w.heap.size _ (by simp) (by simp) ((Below.heap_alloc _ _ _ (blk_lt hm.out)).trans hm.out)).mono ?_; rintro e w' ⟨rfl, hb⟩))
  refine wp_loop_rounds 1 ?_
  rw [rounds_succ]
  go_wp2
  go_ret
  exact ⟨rfl, ((Below.refl _ _).alloc (Nat.le_refl _) _).trans (hb.mono (by simp))⟩

theorem ops_Seens_none (wb : Nat) (w : World) (h4 : w.cell? ⟨wb, 5, none⟩ = some (.slice none 0 0)) :
    Calls Tryz.prog 15 #[.pointer (some ⟨wb, 0, none⟩)] w fun e w' => e = .returned (.slice none 0 0) ∧ Below w.heap.size w w' := by
  go_enter Tryz.func15, Tryz.ntmps15
  go_wp2
  refine wp_loop_rounds 1 ?_
  rw [rounds_succ]
  go_wp2
  go_ret
  exact ⟨rfl, Below.refl _ _⟩

theorem ops_Pairs_nil (w : World) : Calls Tryz.prog 14 #[.pointer none] w fun e w' => e = .returned (.slice none 0 0) ∧ Below w.heap.size w w' := by
  go_enter Tryz.func14, Tryz.ntmps14
  go_wp2
  go_ret
  exact ⟨rfl, Below.refl _ _⟩
theorem ops_Writes_nil (w : World) : Calls Tryz.prog 16 #[.pointer none] w fun e w' => e = .returned (.slice none 0 0) ∧ Below w.heap.size w w' := by
  go_enter Tryz.func16, Tryz.ntmps16
  go_wp2
  go_ret
  exact ⟨rfl, Below.refl _ _⟩
theorem ops_Seens_nil (w : World) : Calls Tryz.prog 15 #[.pointer none] w fun e w' => e = .returned (.slice none 0 0) ∧ Below w.heap.size w w' := by
  go_enter Tryz.func15, Tryz.ntmps15
  go_wp2
  go_ret
  exact ⟨rfl, Below.refl _ _⟩
end Go.Proofs.YtdinnaijfemmbaaGreatDoor
