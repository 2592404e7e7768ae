/- package txn: New, on (nothing to do), Commit, Next, of a transaction that has no ops. -/
import Derived.Test.YtdinnaijfemmbaaGreatDoorChecked
import Derived.Test.YtdinnaijfemmbaaGreatDoorData2
import Derived.LoopN
import Derived.Lib.Hide
import Derived.Deep.QuietTactic
import Derived.WalkSmall
namespace Go.Proofs.YtdinnaijfemmbaaGreatDoor
open Go.RowKit
set_option maxRecDepth 100000

/-- a transaction's cells: without ops, results, and lacks -/
def txc (ph id ver : Int) (wk r0 r1 r2 r3 r4 : Value) (cm : Bool) (pl : Int) : Array Value :=
  #[.int .i64 ph, .int .u64 id, .int .i64 ver, wk, r0, r1, r2, r3, r4, .slice none 0 0, .slice none 0 0, .bool cm, .bool false, .bool false, .slice none 0 0, .slice none 0 0, .slice none 0 0, .bool false, .slice none 0 0, .int .i64 0, .slice none 0 0, .int .i64 0, .int .i64 pl]

theorem txn_New (w : World) : Calls Tryz.prog 62 #[] w fun e w' => e = .returned (.pointer (some ⟨w.heap.size, 0, none⟩)) ∧
    w' = w.alloc (.cells (txc 0 0 0 (.pointer none) (.int .i64 0) (.int .i64 0) (.slice none 0 0) (.int .i64 0) (.slice none 0 0) false 0) 149) := by
  go_enter Tryz.func62, Tryz.ntmps62
  go_wp2
  go_ret
  exact ⟨rfl, rfl⟩

variable {wk r0 r1 r2 r3 r4 : Value} {cm : Bool}

set_option maxHeartbeats 1000000 in
theorem txn_on_idle (tb : Nat) (w : World) (h : w.heap[tb]? = some (.cells (txc 0 0 0 wk r0 r1 r2 r3 r4 cm 0) 149 (0, 0))) :
    Calls Tryz.prog 68 #[.pointer (some ⟨tb, 0, none⟩)] w fun e w' => e = .returned (.tuple #[]) ∧ Below w.heap.size w w' := by
  have c0 : w.cell? ⟨tb, 0, none⟩ = some (.int .i64 0) := blk_cell h 0 rfl
  clear h
  go_enter Tryz.func68, Tryz.ntmps68
  go_wp2
  refine wp_loop_rounds 1 ?_
  rw [rounds_succ]
  go_wp2
  go_quiet (fail)
  go_wp2
  go_end0
  exact ⟨rfl, below_drewN (Below.refl _ _) _⟩

set_option maxHeartbeats 1000000 in
theorem txn_Commit_first (tb : Nat) (w : World) (h : w.heap[tb]? = some (.cells (txc 0 0 0 wk r0 r1 r2 r3 r4 false 0) 149 (0, 0))) :
    Calls Tryz.prog 29 #[.pointer (some ⟨tb, 0, none⟩)] w fun e w' => e = .returned (.int .i64 0) ∧ w'.heap[tb]? = some (.cells (txc 0 0 0 wk r0 r1 r2 r3 r4 true 0) 149 (0, 0)) ∧ Below tb w w' := by
  have c0 : w.cell? ⟨tb, 0, none⟩ = some (.int .i64 0) := blk_cell h 0 rfl
  have c11 : w.cell? ⟨tb, 11, none⟩ = some (.bool false) := blk_cell h 11 rfl
  have f11 : w.frozen? ⟨tb, 11, none⟩ = false := blk_free h 11
  have HI := Lib.hid (txn_on_idle (cm := true) tb (w.setCell ⟨tb, 11, none⟩ (.bool true)) (blk_set h 11 _))
  have hlt := blk_lt h
  have hs : (w.setCell ⟨tb, 11, none⟩ (.bool true)).heap[tb]? = some (.cells (txc 0 0 0 wk r0 r1 r2 r3 r4 true 0) 149 (0, 0)) := blk_set h 11 _
  have hs := Lib.hid hs
  clear h
  go_enter Tryz.func29, Tryz.ntmps29
  go_wp2_with (go_at_call 68; refine HI.out.mono ?_; rintro e w1 ⟨rfl, hb⟩)
  go_ret
  exact ⟨rfl, (hb.block tb (by simp; omega)).trans hs.out, ((Below.refl tb w).setCell (p := ⟨tb, 11, none⟩) (Nat.le_refl _) _).trans (hb.mono (by simp; omega))⟩

end Go.Proofs.YtdinnaijfemmbaaGreatDoor
