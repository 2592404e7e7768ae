/- package armoirehelp: Bytes; Span, Want, Result of nothing. -/
import Derived.Test.YtdinnaijfemmbaaGreatDoorSortNil
import Derived.Test.YtdinnaijfemmbaaGreatDoorMaps
import Derived.Lib.Hide
namespace Go.Proofs.YtdinnaijfemmbaaGreatDoor
open Go.RowKit
set_option maxRecDepth 100000

theorem help_Bytes (l m : List UInt8) (va vb : Value) (w : World) (ha : RBytes w.cell? va l) (hb : RBytes w.cell? vb m) :
    Calls Tryz.prog 44 #[va, vb] w fun e w' => e = .returned (.bool (decide (l = m))) ∧ w' = w := by
  have h1 := conv_bytes (P := Tryz.prog) w 27 5 9 Tryz.underlying27 Tryz.underlying5 Tryz.underlying9 ha
  have h2 := conv_bytes (P := Tryz.prog) w 27 5 9 Tryz.underlying27 Tryz.underlying5 Tryz.underlying9 hb
  obtain ⟨A, c, rfl⟩ := ha.shape
  obtain ⟨B, d, rfl⟩ := hb.shape
  clear ha hb
  go_enter Tryz.func44, Tryz.ntmps44
  go_wp2
  go_ret
  have he : (l == m) = decide (l = m) := by by_cases h : l = m <;> simp [h]
  exact ⟨congrArg (fun b => Ending.returned (.bool b)) he, rfl⟩

theorem help_Bytes_none (w : World) : Calls Tryz.prog 44 #[.slice none 0 0, .slice none 0 0] w fun e w' => e = .returned (.bool true) ∧ w' = w :=
  (help_Bytes [] [] _ _ w (RBytes.none_ _) (RBytes.none_ _)).mono fun e w' ⟨h, h2⟩ => ⟨by simpa using h, h2⟩

/-- two spans of nothing -/
theorem help_Span_none (w : World) :
    Calls Tryz.prog 45 #[.agg #[.slice none 0 0, .slice none 0 0], .agg #[.slice none 0 0, .slice none 0 0]] w fun e w' => e = .returned (.bool true) ∧ Below w.heap.size w w' := by
  go_enter Tryz.func45, Tryz.ntmps45
  go_wp2_with (go_at_call 44; refine (help_Bytes_none _).mono ?_; rintro e w' ⟨rfl, rfl⟩)
  go_ret
  exact ⟨rfl, ((Below.refl _ _).alloc (Nat.le_refl _) _).alloc (by simp) _⟩
end Go.Proofs.YtdinnaijfemmbaaGreatDoor
