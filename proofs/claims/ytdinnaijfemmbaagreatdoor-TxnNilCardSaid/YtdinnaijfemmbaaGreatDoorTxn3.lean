/- package txn: Next of a transaction that is to be decided. -/
import Derived.Test.YtdinnaijfemmbaaGreatDoorTxn2
import Derived.StillTailTactics
namespace Go.Proofs.YtdinnaijfemmbaaGreatDoor
open Go.RowKit
set_option maxRecDepth 100000
variable {wk r0 r1 r2 r3 r4 : Value} {cm : Bool}

set_option maxHeartbeats 1000000 in
theorem txn_Next_decide (tb : Nat) (id ver : Int) (w : World) (h : w.heap[tb]? = some (.cells (txc 3 id ver wk r0 r1 r2 r3 r4 cm 0) 149 (0, 0))) :
    Calls Tryz.prog 25 #[.pointer (some ⟨tb, 0, none⟩)] w fun e w' => e = .returned (.tuple #[.int .i64 0, .agg (cmdc 12 id ver true), .bool true]) ∧ Below w.heap.size w w' := by
  have c0 : ∀ o, (w.alloc o).cell? ⟨tb, 0, none⟩ = some (.int .i64 3) := fun o => alloc_keeps (blk_cell h 0 rfl)
  have c1 : ∀ o, (w.alloc o).cell? ⟨tb, 1, none⟩ = some (.int .u64 id) := fun o => alloc_keeps (blk_cell h 1 rfl)
  have c2 : ∀ o, (w.alloc o).cell? ⟨tb, 2, none⟩ = some (.int .i64 ver) := fun o => alloc_keeps (blk_cell h 2 rfl)
  have c12 : ∀ o, (w.alloc o).cell? ⟨tb, 12, none⟩ = some (.bool false) := fun o => alloc_keeps (blk_cell h 12 rfl)
  clear h
  go_enter Tryz.func25, Tryz.ntmps25
  go_wp2
  obtain ⟨W, hW⟩ : ∃ W, w.alloc (.cells (cmdc 0 0 0 false) 84) = W := ⟨_, rfl⟩
  have hg : W.heap[w.heap.size]? = some (.cells (cmdc 0 0 0 false) 84 (0, 0)) := by rw [← hW]; exact heap_alloc_last w _
  have d1 : W.cell? ⟨tb, 1, none⟩ = some (.int .u64 id) := by rw [← hW]; exact c1 _
  have d2 : W.cell? ⟨tb, 2, none⟩ = some (.int .i64 ver) := by rw [← hW]; exact c2 _
  have d12 : W.cell? ⟨tb, 12, none⟩ = some (.bool false) := by rw [← hW]; exact c12 _
  have hb : Below w.heap.size w W := by rw [← hW]; exact (Below.refl _ _).alloc (Nat.le_refl _) _
  have hW' : w.alloc (.cells #[.int .i64 0, .int .i64 0, .int .u64 0, .int .i64 0, .int .i64 0, .int .i64 0, .bool false, .slice none 0 0, .slice none 0 0, .slice none 0 0, .slice none 0 0, .slice none 0 0, .slice none 0 0, .int .i64 0, .string ⟨#[]⟩, .slice none 0 0, .slice none 0 0, .int .i64 0, .int .i64 0, .string ⟨#[]⟩, .slice none 0 0, .bool false, .int .i64 0, .bool false, .string ⟨#[]⟩] 84) = W := hW
  rw [hW']
  have hg := Lib.hid hg
  clear hW hW' c0 c1 c2 c12
  go_still_tail 15, (by kernel_rfl)
  change wpList _ _ _ _ _ W.drew
  have hb' : Below w.heap.size w W.drew := hb.drew
  have hg' : W.drew.heap[w.heap.size]? = some (.cells (cmdc 0 0 0 false) 84 (0, 0)) := hg.out
  have hg' := Lib.hid hg'
  clear hb hg d1 d2 d12
  generalize W.drew = w2 at *
  refine wpList_store_row rfl 84 (.tmp 3) (.tmp 147) rfl w.heap.size (cmdc 12 id ver true) rfl (by rfl) _ _ hg'.out info_cmd (by kernel_rfl) (by simp [cmdc, Value.oneCell']) ?_
  have hg3 := Lib.hid (setRow_heap w2 w.heap.size _ (cmdc 12 id ver true) _ _ hg'.out)
  have hb3 := hb'.trans (below_setRow w2 w.heap.size (cmdc 12 id ver true))
  generalize w2.setRow w.heap.size (cmdc 12 id ver true) = w3 at *
  go_wp2
  exact bodyPost_ret (results_tct rfl _ _ w.heap.size _ (cmdc 12 id ver true) (0, 0) _ (by rfl) hg3.out Tryz.underlying84 rfl info_cmd) rfl ⟨rfl, hb3⟩
end Go.Proofs.YtdinnaijfemmbaaGreatDoor
