/- package armoirehelp: two zero tables, two zero indexes. -/
import Derived.Test.YtdinnaijfemmbaaGreatDoorTxnRes
namespace Go.Proofs.YtdinnaijfemmbaaGreatDoor
open Go.RowKit
set_option maxRecDepth 100000

theorem help_Table_none (w : World) : Calls Tryz.prog 76 #[.agg #[.int .i64 0, .string ByteArray.empty, .slice none 0 0, .slice none 0 0], .agg #[.int .i64 0, .string ByteArray.empty, .slice none 0 0, .slice none 0 0]] w fun e w' => e = .returned (.bool true) ∧ Below w.heap.size w w' := by
  go_enter Tryz.func76, Tryz.ntmps76
  go_wp2_with fail
  refine (Plain_Column_none _).mono ?_
  rintro e w1 ⟨rfl, hb1⟩
  have k1 : w1.cell? ⟨w.heap.size, 3, none⟩ = some (.slice none 0 0) := (hb1.cell (p := ⟨w.heap.size, 3, none⟩) (by simp; omega)).trans (by simp)
  have k2 : w1.cell? ⟨w.heap.size + 1, 3, none⟩ = some (.slice none 0 0) := (hb1.cell (p := ⟨w.heap.size + 1, 3, none⟩) (by simp)).trans (by simp)
  have hb1 := ((((Below.refl _ _).alloc (Nat.le_refl _) _).alloc (by simp) _).trans (hb1.mono (by simp; omega)) : Below w.heap.size w w1)
  go_wp2_with fail
  refine (Plain_int_none _).mono ?_
  rintro e w2 ⟨rfl, hb2⟩
  go_wp2
  go_ret
  exact ⟨rfl, hb1.trans (hb2.mono hb1.size)⟩
theorem help_Index_none (w : World) : Calls Tryz.prog 77 #[.agg #[.int .i64 0, .int .i64 0, .string ByteArray.empty, .slice none 0 0, .bool false, .int .i64 0, .bool false], .agg #[.int .i64 0, .int .i64 0, .string ByteArray.empty, .slice none 0 0, .bool false, .int .i64 0, .bool false]] w fun e w' => e = .returned (.bool true) ∧ Below w.heap.size w w' := by
  go_enter Tryz.func77, Tryz.ntmps77
  go_wp2_with fail
  refine (Plain_int_none _).mono ?_
  rintro e w1 ⟨rfl, hb1⟩
  have k4 : w1.cell? ⟨w.heap.size, 4, none⟩ = some (.bool false) := (hb1.cell (p := ⟨w.heap.size, 4, none⟩) (by simp; omega)).trans (by simp)
  have k5 : w1.cell? ⟨w.heap.size, 5, none⟩ = some (.int .i64 0) := (hb1.cell (p := ⟨w.heap.size, 5, none⟩) (by simp; omega)).trans (by simp)
  have k6 : w1.cell? ⟨w.heap.size, 6, none⟩ = some (.bool false) := (hb1.cell (p := ⟨w.heap.size, 6, none⟩) (by simp; omega)).trans (by simp)
  have m4 : w1.cell? ⟨w.heap.size + 1, 4, none⟩ = some (.bool false) := (hb1.cell (p := ⟨w.heap.size + 1, 4, none⟩) (by simp)).trans (by simp)
  have m5 : w1.cell? ⟨w.heap.size + 1, 5, none⟩ = some (.int .i64 0) := (hb1.cell (p := ⟨w.heap.size + 1, 5, none⟩) (by simp)).trans (by simp)
  have m6 : w1.cell? ⟨w.heap.size + 1, 6, none⟩ = some (.bool false) := (hb1.cell (p := ⟨w.heap.size + 1, 6, none⟩) (by simp)).trans (by simp)
  have hb1 := ((((Below.refl _ _).alloc (Nat.le_refl _) _).alloc (by simp) _).trans (hb1.mono (by simp; omega)) : Below w.heap.size w w1)
  go_wp2
  go_ret
  exact ⟨rfl, hb1⟩
end Go.Proofs.YtdinnaijfemmbaaGreatDoor
