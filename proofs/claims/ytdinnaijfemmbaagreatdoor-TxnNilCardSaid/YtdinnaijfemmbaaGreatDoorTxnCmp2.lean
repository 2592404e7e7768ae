/- package armoirehelp: two zero commands, tolds, dones. -/
import Derived.Test.YtdinnaijfemmbaaGreatDoorTxnCmp
import Derived.Test.YtdinnaijfemmbaaGreatDoorHelp
import Derived.Test.YtdinnaijfemmbaaGreatDoorFr
namespace Go.Proofs.YtdinnaijfemmbaaGreatDoor
open Go.RowKit
set_option maxRecDepth 100000

/-- two boxes that hold the same -/
structure Two (w : World) (b : Nat) (cs : Array Value) (T : TypeId) : Prop where
  a : w.heap[b]? = some (.cells cs T (0, 0))
  b : w.heap[b + 1]? = some (.cells cs T (0, 0))
theorem Two.mk_ (w : World) (cs : Array Value) (T : TypeId) : Two ((w.alloc (.cells cs T)).alloc (.cells cs T)) w.heap.size cs T :=
  ⟨(Below.heap_alloc _ _ _ (by simp)).trans (heap_alloc_new w _), by have := heap_alloc_new (w.alloc (.cells cs T)) (.cells cs T); simpa using this⟩
theorem Two.below {w w' : World} {b : Nat} {cs : Array Value} {T : TypeId} (h : Two w b cs T) (hb : Below w.heap.size w w') : Two w' b cs T := ⟨below_at hb h.a, below_at hb h.b⟩
theorem Two.cell {w : World} {b : Nat} {cs : Array Value} {T : TypeId} (h : Two w b cs T) (i : Nat) {u : Value} (hu : cs[i]? = some u) : w.cell? ⟨b, i, none⟩ = some u ∧ w.cell? ⟨b + 1, i, none⟩ = some u :=
  ⟨blk_cell h.a i hu, blk_cell h.b i hu⟩

set_option maxHeartbeats 4000000 in
theorem help_Command_none (w : World) : Calls Tryz.prog 31 #[.agg (cmdc 0 0 0 false), .agg (cmdc 0 0 0 false)] w fun e w' => e = .returned (.bool true) ∧ Below w.heap.size w w' := by
  have h0 := Two.mk_ w (cmdc 0 0 0 false) 84
  have b0 : Below w.heap.size w ((w.alloc (.cells (cmdc 0 0 0 false) 84)).alloc (.cells (cmdc 0 0 0 false) 84)) := ((Below.refl _ _).alloc (Nat.le_refl _) _).alloc (by simp) _
  simp only [cmdc] at h0 b0 ⊢
  have h0 := Lib.hid h0
  go_enter Tryz.func31, Tryz.ntmps31
  go_wp2_with fail
  refine (help_Bytes_none _).mono ?_
  rintro e w' ⟨rfl, rfl⟩
  go_wp2_with fail
  refine (help_Span_none _).mono ?_
  rintro e w1 ⟨rfl, hb1⟩
  have h1 := h0.out.below hb1
  have b1 := b0.trans (hb1.mono b0.size)
  obtain ⟨x1, y1⟩ := h1.cell 10 (u := .slice none 0 0) rfl
  have h1 := Lib.hid h1
  clear h0 b0 hb1
  go_wp2_with fail
  refine (Same_Pair_none _ _).mono ?_
  rintro e w2 ⟨rfl, hb2⟩
  have h2 := h1.out.below hb2
  have b2 := b1.trans (hb2.mono b1.size)
  obtain ⟨x2, y2⟩ := h2.cell 11 (u := .slice none 0 0) rfl
  have h2 := Lib.hid h2
  clear h1 b1 hb2 x1 y1
  go_wp2_with fail
  refine (Same_Seen_none _ _).mono ?_
  rintro e w3 ⟨rfl, hb3⟩
  have h3 := h2.out.below hb3
  have b3 := b2.trans (hb3.mono b2.size)
  obtain ⟨x3, y3⟩ := h3.cell 12 (u := .slice none 0 0) rfl
  have h3 := Lib.hid h3
  clear h2 b2 hb3 x2 y2
  go_wp2_with fail
  refine (Same_Write_none _ _).mono ?_
  rintro e w4 ⟨rfl, hb4⟩
  have h4 := h3.out.below hb4
  have b4 := b3.trans (hb4.mono b3.size)
  obtain ⟨x4, y4⟩ := h4.cell 13 (u := .int .i64 0) rfl
  obtain ⟨x5, y5⟩ := h4.cell 14 (u := .string ByteArray.empty) rfl
  obtain ⟨x6, y6⟩ := h4.cell 15 (u := .slice none 0 0) rfl
  obtain ⟨x7, y7⟩ := h4.cell 16 (u := .slice none 0 0) rfl
  have h4 := Lib.hid h4
  clear h3 b3 hb4 x3 y3
  go_wp2_with fail
  refine (help_Table_none _).mono ?_
  rintro e w5 ⟨rfl, hb5⟩
  have h5 := h4.out.below hb5
  have b5 := b4.trans (hb5.mono b4.size)
  clear x4 y4 x5 y5 x6 y6 x7 y7
  obtain ⟨x4, y4⟩ := h5.cell 17 (u := .int .i64 0) rfl
  obtain ⟨x5, y5⟩ := h5.cell 18 (u := .int .i64 0) rfl
  obtain ⟨x6, y6⟩ := h5.cell 19 (u := .string ByteArray.empty) rfl
  obtain ⟨x7, y7⟩ := h5.cell 20 (u := .slice none 0 0) rfl
  obtain ⟨x8, y8⟩ := h5.cell 21 (u := .bool false) rfl
  obtain ⟨x9, y9⟩ := h5.cell 22 (u := .int .i64 0) rfl
  obtain ⟨xa, ya⟩ := h5.cell 23 (u := .bool false) rfl
  have h5 := Lib.hid h5
  clear h4 b4 hb5
  go_wp2_with fail
  refine (help_Index_none _).mono ?_
  rintro e w6 ⟨rfl, hb6⟩
  have h6 := h5.out.below hb6
  have b6 := b5.trans (hb6.mono b5.size)
  clear x4 y4 x5 y5 x6 y6 x7 y7 x8 y8 x9 y9 xa ya
  obtain ⟨x4, y4⟩ := h6.cell 24 (u := .string ByteArray.empty) rfl
  clear h5 b5 hb6 h6
  go_wp2
  go_ret
  exact ⟨rfl, b6⟩

set_option maxHeartbeats 2000000 in
theorem help_Told_none (w : World) : Calls Tryz.prog 33 #[.agg #[.int .i64 0, .slice none 0 0, .int .i64 0], .agg #[.int .i64 0, .slice none 0 0, .int .i64 0]] w fun e w' => e = .returned (.bool true) ∧ Below w.heap.size w w' := by
  have h0 := Lib.hid (Two.mk_ w #[.int .i64 0, .slice none 0 0, .int .i64 0] 88)
  have b0 : Below w.heap.size w ((w.alloc (.cells #[.int .i64 0, .slice none 0 0, .int .i64 0] 88)).alloc (.cells #[.int .i64 0, .slice none 0 0, .int .i64 0] 88)) := ((Below.refl _ _).alloc (Nat.le_refl _) _).alloc (by simp) _
  go_enter Tryz.func33, Tryz.ntmps33
  go_wp2_with fail
  refine (Same_Result_none _ _).mono ?_
  rintro e w1 ⟨rfl, hb1⟩
  have h1 := h0.out.below hb1
  have b1 := b0.trans (hb1.mono b0.size)
  obtain ⟨x1, y1⟩ := h1.cell 2 (u := .int .i64 0) rfl
  clear h0 b0 hb1 h1
  go_wp2
  go_ret
  exact ⟨rfl, b1⟩

set_option maxHeartbeats 2000000 in
theorem help_Done_none (w : World) : Calls Tryz.prog 34 #[.agg #[.int .i64 0, .int .u64 0, .int .i64 0, .slice none 0 0, .slice none 0 0], .agg #[.int .i64 0, .int .u64 0, .int .i64 0, .slice none 0 0, .slice none 0 0]] w fun e w' => e = .returned (.bool true) ∧ Below w.heap.size w w' := by
  have h0 := Lib.hid (Two.mk_ w #[.int .i64 0, .int .u64 0, .int .i64 0, .slice none 0 0, .slice none 0 0] 92)
  have b0 : Below w.heap.size w ((w.alloc (.cells #[.int .i64 0, .int .u64 0, .int .i64 0, .slice none 0 0, .slice none 0 0] 92)).alloc (.cells #[.int .i64 0, .int .u64 0, .int .i64 0, .slice none 0 0, .slice none 0 0] 92)) := ((Below.refl _ _).alloc (Nat.le_refl _) _).alloc (by simp) _
  go_enter Tryz.func34, Tryz.ntmps34
  go_wp2_with fail
  refine (Same_Op_none _ _).mono ?_
  rintro e w1 ⟨rfl, hb1⟩
  have h1 := h0.out.below hb1
  have b1 := b0.trans (hb1.mono b0.size)
  obtain ⟨x1, y1⟩ := h1.cell 4 (u := .slice none 0 0) rfl
  clear h0 b0 hb1 h1
  go_wp2_with fail
  refine (Same_Result_none _ _).mono ?_
  rintro e w2 ⟨rfl, hb2⟩
  have b2 := b1.trans (hb2.mono b1.size)
  go_wp2
  go_ret
  exact ⟨rfl, b2⟩
end Go.Proofs.YtdinnaijfemmbaaGreatDoor
