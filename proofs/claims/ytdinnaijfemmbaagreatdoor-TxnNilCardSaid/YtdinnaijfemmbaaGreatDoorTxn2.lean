/- package txn: Next of a transaction that begins, or is decided. -/
import Derived.Test.YtdinnaijfemmbaaGreatDoorTxn1
import Derived.Test.YtdinnaijfemmbaaGreatDoorRowLaws
namespace Go.Proofs.YtdinnaijfemmbaaGreatDoor
open Go.RowKit
set_option maxRecDepth 100000
variable {wk r0 r1 r2 r3 r4 : Value} {cm : Bool}

/-- a command's cells -/
def cmdc (kind txn n : Int) (flag : Bool) : Array Value :=
  #[.int .i64 kind, .int .i64 0, .int .u64 txn, .int .i64 n, .int .i64 0, .int .i64 0, .bool flag, .slice none 0 0, .slice none 0 0, .slice none 0 0, .slice none 0 0, .slice none 0 0, .slice none 0 0, .int .i64 0, .string ByteArray.empty, .slice none 0 0, .slice none 0 0, .int .i64 0, .int .i64 0, .string ByteArray.empty, .slice none 0 0, .bool false, .int .i64 0, .bool false, .string ByteArray.empty]

theorem info_cmd : (Tryz.prog.info? 84).map (·.size) = some 25 := by kernel_rfl

set_option maxHeartbeats 1000000 in
theorem txn_Next_first (tb : Nat) (w : World) (h : w.heap[tb]? = some (.cells (txc 0 0 0 wk r0 r1 r2 r3 r4 cm 0) 149 (0, 0))) :
    Calls Tryz.prog 25 #[.pointer (some ⟨tb, 0, none⟩)] w fun e w' => e = .returned (.tuple #[.int .i64 0, .agg (cmdc 11 0 0 false), .bool true]) ∧ Below w.heap.size w w' := by
  have c0 : ∀ o, (w.alloc o).cell? ⟨tb, 0, none⟩ = some (.int .i64 0) := fun o => alloc_keeps (blk_cell h 0 rfl)
  clear h
  go_enter Tryz.func25, Tryz.ntmps25
  go_wp2_with (guard_target =~ wpList _ _ _ ({ dst := _, op := Op.store 84 (.tmp 3) (.tmp 16), type := _, pos := _, after := _, guard := none } :: _) _ _; refine wpList_store_new rfl 84 (.tmp 3) (.tmp 16) rfl (cmdc 11 0 0 false) _ rfl (by kernel_rfl) _ info_cmd (by kernel_rfl) (by kernel_rfl) ?_)
  exact bodyPost_ret (results_tct rfl _ _ w.heap.size _ (cmdc 11 0 0 false) (0, 0) _ (by rfl) (heap_alloc_last w _) Tryz.underlying84 rfl info_cmd) rfl ⟨rfl, (Below.refl _ _).alloc (Nat.le_refl _) _⟩

set_option maxHeartbeats 1000000 in
theorem txn_Next_nil (w : World) :
    Calls Tryz.prog 25 #[.pointer none] w fun e w' => e = .returned (.tuple #[.int .i64 0, .agg (cmdc 0 0 0 false), .bool false]) ∧ Below w.heap.size w w' := by
  go_enter Tryz.func25, Tryz.ntmps25
  go_wp2_with (guard_target =~ wpList _ _ _ ({ dst := _, op := Op.store 84 (.tmp 3) (.tmp 9), type := _, pos := _, after := _, guard := none } :: _) _ _; refine wpList_store_new rfl 84 (.tmp 3) (.tmp 9) rfl (cmdc 0 0 0 false) _ rfl (by kernel_rfl) _ info_cmd (by kernel_rfl) (by kernel_rfl) ?_)
  exact bodyPost_ret (results_tct rfl _ _ w.heap.size _ (cmdc 0 0 0 false) (0, 0) _ (by rfl) (heap_alloc_last w _) Tryz.underlying84 rfl info_cmd) rfl ⟨rfl, (Below.refl _ _).alloc (Nat.le_refl _) _⟩
end Go.Proofs.YtdinnaijfemmbaaGreatDoor
