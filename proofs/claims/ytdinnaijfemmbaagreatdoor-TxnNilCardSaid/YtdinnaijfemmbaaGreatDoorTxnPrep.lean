/- package txn: prepare of a transaction that has read and written nothing; on, behind it. -/
import Derived.Test.YtdinnaijfemmbaaGreatDoorTxn1
import Derived.Test.YtdinnaijfemmbaaGreatDoorFr
import Derived.Test.YtdinnaijfemmbaaGreatDoorSortInt
import Derived.Test.YtdinnaijfemmbaaGreatDoorOpsNone
namespace Go.Proofs.YtdinnaijfemmbaaGreatDoor
open Go.RowKit
set_option maxRecDepth 100000
variable {r0 r1 r2 r3 r4 : Value}

/-- a transaction without ops, its work (given nothing, written nothing) -/
structure Idle (w : World) (tb wb m0 m1 : Nat) (ph id ver : Int) (r0 r1 r2 r3 r4 : Value) (pl : Int) : Prop where
  blk : w.heap[tb]? = some (.cells (txc ph id ver (.pointer (some ⟨wb, 0, none⟩)) r0 r1 r2 r3 r4 true pl) 149 (0, 0))
  work : ∃ v0 v1 v2 v3, w.heap[wb]? = some (.cells #[v0, v1, v2, v3, .map (some m0), .slice none 0 0, .map (some m1)] 120 (0, 0))
  e0 : w.heap[m0]? = some (.map #[] 0)
  e1 : w.heap[m1]? = some (.map #[] 0)
  nw : wb ≠ tb
  n0 : m0 ≠ tb
  n1 : m1 ≠ tb
variable {w w' : World} {tb wb m0 m1 : Nat} {ph id ver pl : Int}
theorem Idle.below (h : Idle w tb wb m0 m1 ph id ver r0 r1 r2 r3 r4 pl) (hb : Below w.heap.size w w') : Idle w' tb wb m0 m1 ph id ver r0 r1 r2 r3 r4 pl :=
  ⟨below_at hb h.blk, let ⟨a, b, c, d, e⟩ := h.work; ⟨a, b, c, d, below_at hb e⟩, below_at hb h.e0, below_at hb h.e1, h.nw, h.n0, h.n1⟩
theorem Idle.set (h : Idle w tb wb m0 m1 ph id ver r0 r1 r2 r3 r4 pl) (i : Nat) (u : Value) {ph' pl' : Int} (he : (txc ph id ver (.pointer (some ⟨wb, 0, none⟩)) r0 r1 r2 r3 r4 true pl).setIfInBounds i u = txc ph' id ver (.pointer (some ⟨wb, 0, none⟩)) r0 r1 r2 r3 r4 true pl') :
    Idle (w.setCell ⟨tb, i, none⟩ u) tb wb m0 m1 ph' id ver r0 r1 r2 r3 r4 pl' :=
  ⟨he ▸ blk_set h.blk i u, let ⟨a, b, c, d, e⟩ := h.work; ⟨a, b, c, d, blk_far e h.nw u⟩, blk_far h.e0 h.n0 u, blk_far h.e1 h.n1 u, h.nw, h.n0, h.n1⟩
theorem Idle.w4 (h : Idle w tb wb m0 m1 ph id ver r0 r1 r2 r3 r4 pl) : w.cell? ⟨wb, 4, none⟩ = some (.map (some m0)) := let ⟨_, _, _, _, e⟩ := h.work; blk_cell e 4 rfl
theorem Idle.w5 (h : Idle w tb wb m0 m1 ph id ver r0 r1 r2 r3 r4 pl) : w.cell? ⟨wb, 5, none⟩ = some (.slice none 0 0) := let ⟨_, _, _, _, e⟩ := h.work; blk_cell e 5 rfl
theorem Idle.w6 (h : Idle w tb wb m0 m1 ph id ver r0 r1 r2 r3 r4 pl) : w.cell? ⟨wb, 6, none⟩ = some (.map (some m1)) := let ⟨_, _, _, _, e⟩ := h.work; blk_cell e 6 rfl
theorem Idle.c3 (h : Idle w tb wb m0 m1 ph id ver r0 r1 r2 r3 r4 pl) : w.cell? ⟨tb, 3, none⟩ = some (.pointer (some ⟨wb, 0, none⟩)) := blk_cell h.blk 3 rfl
theorem Idle.c18 (h : Idle w tb wb m0 m1 ph id ver r0 r1 r2 r3 r4 pl) : w.cell? ⟨tb, 18, none⟩ = some (.slice none 0 0) := blk_cell h.blk 18 rfl
theorem Idle.c0 (h : Idle w tb wb m0 m1 ph id ver r0 r1 r2 r3 r4 pl) : w.cell? ⟨tb, 0, none⟩ = some (.int .i64 ph) := blk_cell h.blk 0 rfl
theorem Idle.c19 (h : Idle w tb wb m0 m1 ph id ver r0 r1 r2 r3 r4 pl) : w.cell? ⟨tb, 19, none⟩ = some (.int .i64 0) := blk_cell h.blk 19 rfl
theorem Idle.free (h : Idle w tb wb m0 m1 ph id ver r0 r1 r2 r3 r4 pl) (i : Nat) : w.frozen? ⟨tb, i, none⟩ = false := blk_free h.blk i

set_option maxHeartbeats 2000000 in
theorem txn_prepare_none (w : World) (h : Idle w tb wb m0 m1 1 id ver r0 r1 r2 r3 r4 0) :
    Calls Tryz.prog 134 #[.pointer (some ⟨tb, 0, none⟩)] w fun e w' => e = .returned (.tuple #[]) ∧ Idle w' tb wb m0 m1 3 id ver r0 r1 r2 r3 r4 0 ∧ Fr (· = tb) w w' := by
  have f0 := h.free 0
  have f18 := h.free 18
  have f19 := h.free 19
  have h1 := ((h.set 0 (.int .i64 2) (ph' := 2) (pl' := 0) rfl).set 19 (.int .i64 0) (ph' := 2) (pl' := 0) rfl).set 18 (.slice none 0 0) (ph' := 2) (pl' := 0) rfl
  have b1 : Fr (· = tb) w (((w.setCell ⟨tb, 0, none⟩ (.int .i64 2)).setCell ⟨tb, 19, none⟩ (.int .i64 0)).setCell ⟨tb, 18, none⟩ (.slice none 0 0)) := (((Fr.refl (fun k => k = tb) w).setCell (p := ⟨tb, 0, none⟩) (.inl rfl) _).setCell (p := ⟨tb, 19, none⟩) (.inl rfl) _).setCell (p := ⟨tb, 18, none⟩) (.inl rfl) _
  have c3 := h.c3
  have c0 := h.c0
  have c18 := h.c18
  have c19 := h.c19
  have h1 := Lib.hid h1
  have h := Lib.hid h
  go_enter Tryz.func134, Tryz.ntmps134
  go_wp2_with fail
  generalize ((w.setCell ⟨tb, 0, none⟩ (.int .i64 2)).setCell ⟨tb, 19, none⟩ (.int .i64 0)).setCell ⟨tb, 18, none⟩ (.slice none 0 0) = w1 at *
  refine (ops_Pairs_none wb m0 w1 h1.out.w4 h1.out.e0).mono ?_
  rintro e w2 ⟨rfl, hb2⟩
  have h2 := h1.out.below hb2
  have b2 := b1.trans (Fr.below hb2)
  have d3 := h2.c3
  have h2 := Lib.hid h2
  clear c3 h1 b1 hb2 f0 f18 f19 c0 c18 c19
  go_wp2_with fail
  refine wp_loop_rounds 1 ?_
  rw [rounds_succ]
  go_wp2_with fail
  refine (ops_Writes_none wb m1 w2 h2.out.w6 h2.out.e1).mono ?_
  rintro e w3 ⟨rfl, hb3⟩
  have h3 := h2.out.below hb3
  have b3 := b2.trans (Fr.below hb3)
  have e3 := h3.c3
  have h3 := Lib.hid h3
  clear d3 h2 b2 hb3
  go_wp2_with fail
  refine wp_loop_rounds 1 ?_
  rw [rounds_succ]
  go_wp2_with fail
  refine (ops_Seens_none wb w3 h3.out.w5).mono ?_
  rintro e w4 ⟨rfl, hb4⟩
  have h4 := h3.out.below hb4
  have b4 := b3.trans (Fr.below hb4)
  have k18 := h4.c18
  have k0 := h4.c0
  have g18 := h4.free 18
  have g0 := h4.free 0
  have h5 := Lib.hid (h4.set 18 (.slice none 0 0) (ph' := 2) (pl' := 0) rfl)
  have h4 := Lib.hid h4
  clear e3 h3 b3 hb4
  go_wp2_with fail
  refine wp_loop_rounds 1 ?_
  rw [rounds_succ]
  go_wp2_with fail
  refine (sort_int_nil _).mono ?_
  rintro e w5 ⟨rfl, rfl⟩
  go_wp2_with fail
  refine (compact_int_nil _).mono ?_
  rintro e w5 ⟨rfl, rfl⟩
  go_wp2_with fail
  refine (contains_int_nil 0 _).mono ?_
  rintro e w5 ⟨rfl, rfl⟩
  go_wp2
  go_end0
  exact ⟨rfl, h5.out.set 0 (.int .i64 3) rfl, (b4.setCell (p := ⟨tb, 18, none⟩) (.inl rfl) _).setCell (p := ⟨tb, 0, none⟩) (.inl rfl) _⟩
end Go.Proofs.YtdinnaijfemmbaaGreatDoor
