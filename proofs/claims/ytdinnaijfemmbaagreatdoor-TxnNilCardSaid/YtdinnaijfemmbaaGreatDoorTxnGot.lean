/- package txn: decided, Got at the beginning, Got when decided, Told. -/
import Derived.Test.YtdinnaijfemmbaaGreatDoorTxnBegun
import Derived.Test.YtdinnaijfemmbaaGreatDoorTxn3
import Derived.Test.YtdinnaijfemmbaaGreatDoorTxnRes
import Derived.Laws.Rows
namespace Go.Proofs.YtdinnaijfemmbaaGreatDoor
open Go.RowKit
set_option maxRecDepth 100000
variable {r0 r1 r2 r3 r4 : Value} {w w' : World} {tb wb m0 m1 : Nat} {ph id ver pl : Int}

/-- the second answer's cells -/
def repd : Array Value := #[.int .i64 0, .int .u64 0, .int .i64 1, .bool false, .slice none 0 0, .slice none 0 0, .int .i64 0, .int .i64 0, .slice none 0 0, .slice none 0 0, .int .i64 0, .int .i64 0, .slice none 0 0, .int .i64 0, .slice none 0 0]

set_option maxHeartbeats 2000000 in
theorem txn_decided_ok (w : World) (h : Idle w tb wb m0 m1 3 id ver r0 r1 r2 r3 r4 0) :
    Calls Tryz.prog 80 #[.pointer (some ⟨tb, 0, none⟩), .agg repd] w fun e w' => e = .returned (.tuple #[]) ∧ Idle w' tb wb m0 m1 4 id ver r0 r1 r2 r3 r4 1 ∧ Fr (· = tb) w w' := by
  have htb := blk_lt h.blk
  simp only [repd]
  go_enter Tryz.func80, Tryz.ntmps80
  go_upto_region 3 with fail
  obtain ⟨W, hW⟩ : ∃ W, w.alloc (.cells #[.int .i64 0, .int .u64 0, .int .i64 1, .bool false, .slice none 0 0, .slice none 0 0, .int .i64 0, .int .i64 0, .slice none 0 0, .slice none 0 0, .int .i64 0, .int .i64 0, .slice none 0 0, .int .i64 0, .slice none 0 0] 75) = W := ⟨_, rfl⟩
  have hI : Idle W tb wb m0 m1 3 id ver r0 r1 r2 r3 r4 0 := by rw [← hW]; exact h.below ((Below.refl _ _).alloc (Nat.le_refl _) _)
  have hf : Fr (fun k => k = tb) w W := by rw [← hW]; exact (Fr.refl _ w).alloc _
  have p2 : W.cell? ⟨w.heap.size, 2, none⟩ = some (.int .i64 1) := by rw [← hW]; simp
  have c0 := hI.c0
  have c22 : W.cell? ⟨tb, 22, none⟩ = some (.int .i64 0) := blk_cell hI.blk 22 rfl
  have f0 := hI.free 0
  have f22 := hI.free 22
  have h1 := Lib.hid ((hI.set 0 (.int .i64 4) (ph' := 4) (pl' := 0) rfl).set 22 (.int .i64 1) (ph' := 4) (pl' := 1) rfl)
  have hf1 := Lib.hid ((hf.setCell (p := ⟨tb, 0, none⟩) (.inl rfl) (.int .i64 4)).setCell (p := ⟨tb, 22, none⟩) (.inl rfl) (.int .i64 1))
  rw [hW]
  clear hW hI hf h
  go_region
  go_wp2
  go_end0
  exact ⟨rfl, h1.out.below (Below.refl _ _).drew, hf1.out.drew⟩

theorem info_rep : (Tryz.prog.info? 75).map (·.size) = some 15 := by kernel_rfl

set_option maxHeartbeats 4000000 in
theorem txn_Got_begin (w : World) (sb : Nat) (hblk : w.heap[tb]? = some (.cells (txc 0 0 0 (.pointer none) (.int .i64 0) (.int .i64 0) (.slice none 0 0) (.int .i64 0) (.slice none 0 0) true 0) 149 (0, 0)))
    (hsp : SlOf EOw 2 (hpFrom w (tb + 1)) (.slice (some ⟨sb, 0, none⟩) 1 1) [⟨2, [120]⟩]) :
    Calls Tryz.prog 32 #[.pointer (some ⟨tb, 0, none⟩), .agg (repc sb)] w fun e w' => ∃ wb m0 m1 a0 a1 a2 a3 a4, e = .returned (.int .i64 0) ∧ Idle w' tb wb m0 m1 3 1 0 a0 a1 a2 a3 a4 0 ∧ Fr (· = tb) w w' := by
  have htb := blk_lt hblk
  have kr : (w.alloc (.cells (repc sb) 75)).heap[w.heap.size]? = _ := heap_alloc_new w _
  have kb : (w.alloc (.cells (repc sb) 75)).heap[tb]? = _ := (Below.heap_alloc w _ tb htb).trans hblk
  have ks := SlOf.mono EOw.mono hsp (hpFrom_below ((Below.refl _ w).alloc (Nat.le_refl _) (.cells (repc sb) 75)) _)
  have kf : Fr (fun k => k = tb) w (w.alloc (.cells (repc sb) 75)) := (Fr.refl _ w).alloc _
  have kz : (w.alloc (.cells (repc sb) 75)).heap.size = w.heap.size + 1 := by simp
  simp only [repc] at kr kb ks kf kz ⊢
  have kr := Lib.hid kr
  have kb := Lib.hid kb
  have ks := Lib.hid ks
  have kf := Lib.hid kf
  have kz := Lib.hid kz
  clear hblk hsp
  go_enter Tryz.func32, Tryz.ntmps32
  go_wp2_with fail
  obtain ⟨W, hW⟩ : ∃ W, w.alloc (.cells #[.int .i64 0, .int .u64 1, .int .i64 0, .bool false, .slice none 0 0, .slice none 0 0, .int .i64 0, .int .i64 1, .slice none 0 0, .slice none 0 0, .int .i64 0, .int .i64 1, .slice (some ⟨sb, 0, none⟩) 1 1, .int .i64 0, .slice none 0 0] 75) = W := ⟨_, rfl⟩
  rw [hW] at kr kb ks kf kz ⊢
  clear hW
  refine (txn_Next_first tb W kb.out).mono ?_
  rintro e w1 ⟨rfl, hb1⟩
  have kr1 := Lib.hid (below_at hb1 kr.out)
  have kb1 := Lib.hid (below_at hb1 kb.out)
  have ks1 := Lib.hid (SlOf.mono EOw.mono ks.out (hpFrom_below hb1 _))
  have kf1 := Lib.hid (kf.out.trans (Fr.below hb1))
  have hz1 : w.heap.size + 1 ≤ w1.heap.size := by have := kz.out; have := hb1.size; omega
  clear hb1 kr kb ks kf kz
  go_wp2_with (first
    | (guard_target =~ wpList _ _ _ ({ dst := _, op := Op.store 84 (.tmp 6) (.tmp 14), type := _, pos := _, after := _, guard := none } :: _) _ _; refine wpList_store_new rfl 84 (.tmp 6) (.tmp 14) rfl (cmdc 11 0 0 false) _ rfl (by kernel_rfl) _ info_cmd (by kernel_rfl) (by kernel_rfl) ?_; obtain ⟨X, hX⟩ : ∃ X, w1.alloc (.cells (cmdc 11 0 0 false) 84) = X := ⟨_, rfl⟩; have hbX : Below w1.heap.size w1 X := (by rw [← hX]; exact (Below.refl _ _).alloc (Nat.le_refl _) _); have krX := Lib.hid (below_at hbX kr1.out); have kbX := Lib.hid (below_at hbX kb1.out); have ksX := Lib.hid (SlOf.mono EOw.mono ks1.out (hpFrom_below hbX _)); have kfX := Lib.hid (kf1.out.trans (Fr.below hbX)); have c0 : X.cell? ⟨tb, 0, none⟩ = some (.int .i64 0) := blk_cell kbX.out 0 rfl; rw [hX]; clear hX hbX kr1 kb1 ks1 kf1)
    | (guard_target =~ wpList _ _ _ ({ dst := _, op := Op.load 75 (.tmp 3), type := _, pos := _, after := _, guard := none } :: _) _ _; refine wpList_load_row rfl 75 (.tmp 3) rfl w.heap.size rfl 75 (repc sb) (0, 0) _ krX.out Tryz.underlying75 rfl info_rep ?_))
  refine (txn_begun_first X sb kbX.out ksX.out).mono ?_
  rintro e w3 ⟨wb, m0, m1, a0, a1, a2, a3, a4, rfl, hI, hf⟩
  have hI := Lib.hid hI
  have hF := Lib.hid (kfX.out.trans hf)
  clear hf
  go_wp2
  go_ret
  exact ⟨wb, m0, m1, a0, a1, a2, a3, a4, rfl, hI.out, hF.out⟩

set_option maxHeartbeats 4000000 in
theorem txn_Got_decide (w : World) (h : Idle w tb wb m0 m1 3 id ver r0 r1 r2 r3 r4 0) :
    Calls Tryz.prog 32 #[.pointer (some ⟨tb, 0, none⟩), .agg repd] w fun e w' => e = .returned (.int .i64 0) ∧ Idle w' tb wb m0 m1 4 id ver r0 r1 r2 r3 r4 1 ∧ Fr (· = tb) w w' := by
  have htb := blk_lt h.blk
  have kr : (w.alloc (.cells repd 75)).heap[w.heap.size]? = _ := heap_alloc_new w _
  have kb := h.below ((Below.refl _ w).alloc (Nat.le_refl _) (.cells repd 75))
  have kf : Fr (fun k => k = tb) w (w.alloc (.cells repd 75)) := (Fr.refl _ w).alloc _
  simp only [repd] at kr kb kf ⊢
  have kr := Lib.hid kr
  have kb := Lib.hid kb
  have kf := Lib.hid kf
  clear h
  go_enter Tryz.func32, Tryz.ntmps32
  go_wp2_with fail
  obtain ⟨W, hW⟩ : ∃ W, w.alloc (.cells #[.int .i64 0, .int .u64 0, .int .i64 1, .bool false, .slice none 0 0, .slice none 0 0, .int .i64 0, .int .i64 0, .slice none 0 0, .slice none 0 0, .int .i64 0, .int .i64 0, .slice none 0 0, .int .i64 0, .slice none 0 0] 75) = W := ⟨_, rfl⟩
  rw [hW] at kr kb kf ⊢
  clear hW
  refine (txn_Next_decide tb id ver W kb.out.blk).mono ?_
  rintro e w1 ⟨rfl, hb1⟩
  have kr1 := Lib.hid (below_at hb1 kr.out)
  have kb1 := Lib.hid (kb.out.below hb1)
  have kf1 := Lib.hid (kf.out.trans (Fr.below hb1))
  clear hb1 kr kb kf
  go_wp2_with (first
    | (guard_target =~ wpList _ _ _ ({ dst := _, op := Op.store 84 (.tmp 6) (.tmp 14), type := _, pos := _, after := _, guard := none } :: _) _ _; refine wpList_store_new rfl 84 (.tmp 6) (.tmp 14) rfl (cmdc 12 id ver true) _ rfl (by kernel_rfl) _ info_cmd (by kernel_rfl) (by simp [cmdc, Value.oneCell']) ?_; obtain ⟨X, hX⟩ : ∃ X, w1.alloc (.cells (cmdc 12 id ver true) 84) = X := ⟨_, rfl⟩; have hbX : Below w1.heap.size w1 X := (by rw [← hX]; exact (Below.refl _ _).alloc (Nat.le_refl _) _); have krX := Lib.hid (below_at hbX kr1.out); have kbX := kb1.out.below hbX; have kfX := Lib.hid (kf1.out.trans (Fr.below hbX)); have c0 := kbX.c0; have kbX := Lib.hid kbX; rw [hX]; clear hX hbX kr1 kb1 kf1)
    | (guard_target =~ wpList _ _ _ ({ dst := _, op := Op.load 75 (.tmp 3), type := _, pos := _, after := _, guard := none } :: _) _ _; refine wpList_load_row rfl 75 (.tmp 3) rfl w.heap.size rfl 75 repd (0, 0) _ krX.out Tryz.underlying75 rfl info_rep ?_))
  refine (txn_decided_ok X kbX.out).mono ?_
  rintro e w3 ⟨rfl, hI, hf⟩
  have hI := Lib.hid hI
  have hF := Lib.hid (kfX.out.trans hf)
  clear hf
  go_wp2
  go_ret
  exact ⟨rfl, hI.out, hF.out⟩

set_option maxHeartbeats 2000000 in
theorem txn_Told_over (w : World) (h : Idle w tb wb m0 m1 4 id ver r0 r1 r2 r3 r4 1) :
    Calls Tryz.prog 26 #[.pointer (some ⟨tb, 0, none⟩)] w fun e w' => e = .returned (.tuple #[.agg #[.int .i64 0, .slice none 0 0, .int .i64 1], .bool true]) ∧ Below w.heap.size w w' := by
  have c0 : ∀ o, (w.alloc o).cell? ⟨tb, 0, none⟩ = some (.int .i64 4) := fun o => alloc_keeps h.c0
  have c10 : ∀ o, (w.alloc o).cell? ⟨tb, 10, none⟩ = some (.slice none 0 0) := fun o => alloc_keeps (blk_cell h.blk 10 rfl)
  have c21 : ∀ o, (w.alloc o).cell? ⟨tb, 21, none⟩ = some (.int .i64 0) := fun o => alloc_keeps (blk_cell h.blk 21 rfl)
  have c22 : ∀ o, (w.alloc o).cell? ⟨tb, 22, none⟩ = some (.int .i64 1) := fun o => alloc_keeps (blk_cell h.blk 22 rfl)
  clear h
  go_enter Tryz.func26, Tryz.ntmps26
  go_wp2
  go_region_with ((go_at_call 65; refine (txn_results_none _).mono ?_; rintro e w' ⟨rfl, rfl⟩))
  all_goals
    go_wp2
    refine bodyPost_ret (v := .tuple #[.agg #[.int .i64 0, .slice none 0 0, .int .i64 1], .bool true]) (by simp [results, Tryz.results26, go_sem]) rfl ⟨rfl, ?_⟩
    first
      | exact ((Below.refl _ _).alloc (Nat.le_refl _) _).drew
      | (repeat (first | exact Below.refl _ _ | refine Below.drew ?_ | refine Below.alloc ?_ (by simp <;> omega) _ | refine Below.setCell ?_ (by simp) _))

set_option maxHeartbeats 2000000 in
theorem txn_Told_nil (w : World) : Calls Tryz.prog 26 #[.pointer none] w fun e w' => e = .returned (.tuple #[.agg #[.int .i64 0, .slice none 0 0, .int .i64 0], .bool false]) ∧ Below w.heap.size w w' := by
  go_enter Tryz.func26, Tryz.ntmps26
  go_wp2
  refine bodyPost_ret (v := .tuple #[.agg #[.int .i64 0, .slice none 0 0, .int .i64 0], .bool false]) (by simp [results, Tryz.results26, go_sem]) rfl ⟨rfl, ?_⟩
  repeat (first | exact Below.refl _ _ | refine Below.drew ?_ | refine Below.alloc ?_ (by simp <;> omega) _ | refine Below.setCell ?_ (by simp) _)

set_option maxHeartbeats 2000000 in
theorem txn_Done_nil (w : World) : Calls Tryz.prog 27 #[.pointer none] w fun e w' => e = .returned (.tuple #[.agg #[.int .i64 0, .int .u64 0, .int .i64 0, .slice none 0 0, .slice none 0 0], .bool false]) ∧ Below w.heap.size w w' := by
  go_enter Tryz.func27, Tryz.ntmps27
  go_wp2
  refine bodyPost_ret (v := .tuple #[.agg #[.int .i64 0, .int .u64 0, .int .i64 0, .slice none 0 0, .slice none 0 0], .bool false]) (by simp [results, Tryz.results27, go_sem]) rfl ⟨rfl, ?_⟩
  repeat (first | exact Below.refl _ _ | refine Below.drew ?_ | refine Below.alloc ?_ (by simp <;> omega) _ | refine Below.setCell ?_ (by simp) _)
end Go.Proofs.YtdinnaijfemmbaaGreatDoor
