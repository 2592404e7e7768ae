/- armoirelaw20: awake answers true. -/
import Derived.Test.YtdinnaijfemmbaaGreatDoorTxnGot
namespace Go.Proofs.YtdinnaijfemmbaaGreatDoor
open Go.RowKit
set_option maxRecDepth 100000

/-- the spans of the first answer, as they are built -/
theorem span_built (w : World) (B : Nat) (hB : B ≤ w.heap.size) :
    SlOf EOw 2 (hpFrom ((w.alloc (.cells #[.int .u8 120] 5)).alloc (.cells #[.int .i64 2, .slice (some ⟨w.heap.size, 0, none⟩) 1 1] 147)) B) (.slice (some ⟨w.heap.size + 1, 0, none⟩) 1 1) [⟨2, [120]⟩] := by
  refine ⟨_, 1, rfl, by simp, by simp [maxLen], fun k hk => ?_⟩
  obtain rfl : k = 0 := by simpa using hk
  refine ⟨w.heap.size + 1, 0, [.int .i64 2, .slice (some ⟨w.heap.size, 0, none⟩) 1 1], rfl, rfl, ⟨_, rfl, ⟨_, 1, rfl, by simp, by simp [maxLen], fun j hj => ?_⟩⟩, fun j u hj => ?_⟩
  · obtain rfl : j = 0 := by simpa using hj
    refine ⟨w.heap.size, 0, [u8 120], rfl, rfl, rfl, fun i u hi => ?_⟩
    have : i = 0 := by
      rcases Nat.eq_zero_or_pos i with h | h
      · exact h
      · rw [List.getElem?_eq_none (by simp; omega)] at hi; cases hi
    subst this
    simp at hi
    subst hi
    unfold hpFrom
    rw [if_pos hB]
    exact (World.cell?_of_block (Below.heap_alloc _ _ _ (by simp))).trans (blk_cell (heap_alloc_new w _) 0 rfl)
  · unfold hpFrom
    rw [if_pos (by simp; omega)]
    have h := heap_alloc_new (w.alloc (.cells #[.int .u8 120] 5)) (.cells #[.int .i64 2, .slice (some ⟨w.heap.size, 0, none⟩) 1 1] 147)
    rw [World.size_alloc] at h
    simpa using blk_cell h j (u := u) (by simpa using hj)

set_option maxHeartbeats 4000000 in
theorem law20_awake (w : World) : Calls Tryz.prog 24 #[] w fun e w' => e = .returned (.bool true) ∧ Below w.heap.size w w' := by
  go_enter Tryz.func24, Tryz.ntmps24
  go_wp2_with fail
  refine (txn_New w).mono ?_
  rintro e w1 ⟨rfl, hw1⟩
  have h1 : w1.heap[w.heap.size]? = some (.cells (txc 0 0 0 (.pointer none) (.int .i64 0) (.int .i64 0) (.slice none 0 0) (.int .i64 0) (.slice none 0 0) false 0) 149 (0, 0)) := by rw [hw1]; exact heap_alloc_new w _
  have b1 : Below w.heap.size w w1 := by rw [hw1]; exact (Below.refl _ _).alloc (Nat.le_refl _) _
  clear hw1
  have h1 := Lib.hid h1
  go_wp2_with fail
  refine (txn_Commit_first w.heap.size w1 h1.out).mono ?_
  rintro e w2 ⟨rfl, h2, hb2⟩
  have b2 := b1.trans hb2
  have h2 := Lib.hid h2
  clear h1 b1 hb2
  go_wp2_with fail
  refine (txn_Next_first w.heap.size w2 h2.out).mono ?_
  rintro e w3 ⟨rfl, hb3⟩
  have h3 := Lib.hid (below_at hb3 h2.out)
  have b3 := b2.trans (hb3.mono b2.size)
  clear h2 b2 hb3
  go_wp2_with (guard_target =~ wpList _ _ _ ({ dst := _, op := Op.store 84 (.tmp 3) (.tmp 22), type := _, pos := _, after := _, guard := none } :: _) _ _; refine wpList_store_new rfl 84 (.tmp 3) (.tmp 22) rfl (cmdc 11 0 0 false) _ rfl (by kernel_rfl) _ info_cmd (by kernel_rfl) (by kernel_rfl) ?_; obtain ⟨X, hX⟩ : ∃ X, w3.alloc (.cells (cmdc 11 0 0 false) 84) = X := ⟨_, rfl⟩; have hbX : Below w3.heap.size w3 X := (by rw [← hX]; exact (Below.refl _ _).alloc (Nat.le_refl _) _); have h4 := Lib.hid (below_at hbX h3.out); have b4 := b3.trans (hbX.mono b3.size); have k4 : X.heap[w3.heap.size]? = some (.cells (cmdc 11 0 0 false) 84 (0, 0)) := (by rw [← hX]; exact heap_alloc_new w3 _); have k4 := Lib.hid k4; have hne : w3.heap.size ≠ w.heap.size := (by have := blk_lt h3.out; omega); rw [hX]; clear hX hbX h3 b3)
  have hB4 : w.heap.size + 1 ≤ X.heap.size := blk_lt h4.out
  have hsp := span_built X (w.heap.size + 1) hB4
  obtain ⟨Y, hY⟩ : ∃ Y, (X.alloc (.cells #[.int .u8 120] 5)).alloc (.cells #[.int .i64 2, .slice (some ⟨X.heap.size, 0, none⟩) 1 1] 147) = Y := ⟨_, rfl⟩
  have hbY : Below X.heap.size X Y := by rw [← hY]; exact ((Below.refl _ _).alloc (Nat.le_refl _) _).alloc (by simp) _
  rw [hY] at hsp ⊢
  clear hY
  refine (txn_Got_begin Y _ (below_at hbY h4.out) hsp).mono ?_
  rintro e w5 ⟨wb, m0, m1, a0, a1, a2, a3, a4, rfl, h5, f5⟩
  have b5 := (b4.trans (hbY.mono b4.size)).trans (f5.toBelow (b4.trans (hbY.mono b4.size)).size (fun k hk => by omega))
  have k5 := Lib.hid (f5.heap hne (below_at hbY k4.out))
  have h5 := Lib.hid h5
  clear hsp hbY f5 b4 k4 h4
  go_wp2_with fail
  refine (txn_Next_decide w.heap.size _ _ w5 h5.out.blk).mono ?_
  rintro e w6 ⟨rfl, hb6⟩
  have h6 := Lib.hid (h5.out.below hb6)
  have b6 := b5.trans (hb6.mono b5.size)
  have k6 := Lib.hid (below_at hb6 k5.out)
  clear h5 b5 hb6 k5
  go_wp2_with (guard_target =~ wpList _ _ _ ({ dst := _, op := Op.store 84 (.tmp 6) (.tmp 36), type := _, pos := _, after := _, guard := none } :: _) _ _; refine wpList_store_new rfl 84 (.tmp 6) (.tmp 36) rfl (cmdc 12 1 0 true) _ rfl (by kernel_rfl) _ info_cmd (by kernel_rfl) (by kernel_rfl) ?_; obtain ⟨Z, hZ⟩ : ∃ Z, w6.alloc (.cells (cmdc 12 1 0 true) 84) = Z := ⟨_, rfl⟩; have hbZ : Below w6.heap.size w6 Z := (by rw [← hZ]; exact (Below.refl _ _).alloc (Nat.le_refl _) _); have h7 := Lib.hid (h6.out.below hbZ); have b7 := b6.trans (hbZ.mono b6.size); have k7 := Lib.hid (below_at hbZ k6.out); have l7 : Z.heap[w6.heap.size]? = some (.cells (cmdc 12 1 0 true) 84 (0, 0)) := (by rw [← hZ]; exact heap_alloc_new w6 _); have l7 := Lib.hid l7; have hne6 : w6.heap.size ≠ w.heap.size := (by have := blk_lt h6.out.blk; omega); rw [hZ]; clear hZ hbZ h6 b6 k6)
  refine (txn_Got_decide Z h7.out).mono ?_
  rintro e w8 ⟨rfl, h8, f8⟩
  have k8 := Lib.hid (f8.heap hne k7.out)
  have l8 := Lib.hid (f8.heap hne6 l7.out)
  have b8 := b7.trans (f8.toBelow b7.size (fun k hk => by omega))
  have h8 := Lib.hid h8
  clear h7 f8 b7 k7 l7
  go_wp2_with fail
  refine (txn_Told_over w8 h8.out).mono ?_
  rintro e w9 ⟨rfl, hb9⟩
  have b9 := b8.trans (hb9.mono b8.size)
  have k9 := below_at hb9 k8.out
  have l9 := below_at hb9 l8.out
  have x0 : ∀ o, (w9.alloc o).cell? ⟨w3.heap.size, 0, none⟩ = some (.int .i64 11) := fun o => alloc_keeps (blk_cell k9 0 rfl)
  have y0 : ∀ o, (w9.alloc o).cell? ⟨w6.heap.size, 0, none⟩ = some (.int .i64 12) := fun o => alloc_keeps (blk_cell l9 0 rfl)
  have y2 : ∀ o, (w9.alloc o).cell? ⟨w6.heap.size, 2, none⟩ = some (.int .u64 1) := fun o => alloc_keeps (blk_cell l9 2 rfl)
  clear h8 b8 hb9 k8 l8 k9 l9
  go_wp2
  go_ret
  exact ⟨rfl, b9.alloc b9.size _⟩
end Go.Proofs.YtdinnaijfemmbaaGreatDoor
