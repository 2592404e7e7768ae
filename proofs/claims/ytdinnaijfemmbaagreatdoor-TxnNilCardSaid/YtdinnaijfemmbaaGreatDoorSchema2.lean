/- package schema, on: ownIndex, Table, Of -/
import Derived.Test.YtdinnaijfemmbaaGreatDoorSchema
import Derived.Test.YtdinnaijfemmbaaGreatDoorIndexFunc
namespace Go.Proofs.YtdinnaijfemmbaaGreatDoor
open Go.RowKit
set_option maxRecDepth 100000

theorem schema_ownIndex (x : Idx) (cs : List Value) (w : World) (hx : EIdx w.cell? cs x) (h1 : x.cols.length ≤ 1048576) :
    Calls Tryz.prog 144 #[.agg cs.toArray] w fun e w' => ∃ cs', e = .returned (.agg cs'.toArray) ∧ EIdx (hpFrom w' w.heap.size) cs' x ∧ Below w.heap.size w w' := by
  obtain ⟨vc, rfl, hc⟩ := hx
  obtain ⟨Ac, cc, rfl⟩ := hc.shape
  have HC := Lib.hid (fun w' (h : Below w.heap.size w w') => clone_int x.cols _ w' (hc.mono (below_hle h)) (by omega))
  clear hc
  have hB0 : Below w.heap.size w ((w.alloc (.cells #[.int .i64 x.id, .int .i64 x.table, .string x.name, .slice Ac x.cols.length cc, .bool x.uniq, .int .i64 x.state, .bool x.bad] 82)).alloc (.cells #[.int .i64 0, .int .i64 0, .string ByteArray.empty, .slice none 0 0, .bool false, .int .i64 0, .bool false] 82)) := (((Below.refl _ _).alloc (Nat.le_refl _) _).alloc (by simp) _)
  have k0 : ((w.alloc (.cells #[.int .i64 x.id, .int .i64 x.table, .string x.name, .slice Ac x.cols.length cc, .bool x.uniq, .int .i64 x.state, .bool x.bad] 82)).alloc (.cells #[.int .i64 0, .int .i64 0, .string ByteArray.empty, .slice none 0 0, .bool false, .int .i64 0, .bool false] 82)).heap[w.heap.size]? = some (.cells #[.int .i64 x.id, .int .i64 x.table, .string x.name, .slice Ac x.cols.length cc, .bool x.uniq, .int .i64 x.state, .bool x.bad] 82 (0, 0)) := by
    rw [Below.heap_alloc _ _ _ (by simp)]; exact heap_alloc_new w _
  have l0 : ((w.alloc (.cells #[.int .i64 x.id, .int .i64 x.table, .string x.name, .slice Ac x.cols.length cc, .bool x.uniq, .int .i64 x.state, .bool x.bad] 82)).alloc (.cells #[.int .i64 0, .int .i64 0, .string ByteArray.empty, .slice none 0 0, .bool false, .int .i64 0, .bool false] 82)).heap[w.heap.size + 1]? = some (.cells #[.int .i64 0, .int .i64 0, .string ByteArray.empty, .slice none 0 0, .bool false, .int .i64 0, .bool false] 82 (0, 0)) := by
    have := heap_alloc_new (w.alloc (.cells #[.int .i64 x.id, .int .i64 x.table, .string x.name, .slice Ac x.cols.length cc, .bool x.uniq, .int .i64 x.state, .bool x.bad] 82)) (.cells #[.int .i64 0, .int .i64 0, .string ByteArray.empty, .slice none 0 0, .bool false, .int .i64 0, .bool false] 82)
    simpa using this
  have k0 := Lib.hid k0
  have l0 := Lib.hid l0
  go_enter Tryz.func144, Tryz.ntmps144
  go_wp2_with fail
  refine (HC.out _ hB0).mono ?_
  rintro e w3 ⟨v3, rfl, hown3, hb3⟩
  obtain ⟨A3, c3', rfl⟩ := (hown3.reads EInt.mono).shape
  have k3 := (hb3.block w.heap.size (by simp; omega)).trans k0.out
  have l3 := (hb3.block (w.heap.size + 1) (by simp)).trans l0.out
  have c0 : w3.cell? ⟨w.heap.size, 0, none⟩ = some (.int .i64 x.id) := blk_cell k3 0 rfl
  have c1 : w3.cell? ⟨w.heap.size, 1, none⟩ = some (.int .i64 x.table) := blk_cell k3 1 rfl
  have c2 : w3.cell? ⟨w.heap.size, 2, none⟩ = some (.string x.name) := blk_cell k3 2 rfl
  have c3 : w3.cell? ⟨w.heap.size, 3, none⟩ = some (.slice Ac x.cols.length cc) := blk_cell k3 3 rfl
  have c4 : w3.cell? ⟨w.heap.size, 4, none⟩ = some (.bool x.uniq) := blk_cell k3 4 rfl
  have c5 : w3.cell? ⟨w.heap.size, 5, none⟩ = some (.int .i64 x.state) := blk_cell k3 5 rfl
  have c6 : w3.cell? ⟨w.heap.size, 6, none⟩ = some (.bool x.bad) := blk_cell k3 6 rfl
  have f3 := blk_free k3 3
  have d0 : w3.cell? ⟨w.heap.size + 1, 0, none⟩ = some (.int .i64 0) := blk_cell l3 0 rfl
  have d1 : w3.cell? ⟨w.heap.size + 1, 1, none⟩ = some (.int .i64 0) := blk_cell l3 1 rfl
  have d2 : w3.cell? ⟨w.heap.size + 1, 2, none⟩ = some (.string ByteArray.empty) := blk_cell l3 2 rfl
  have d3 : w3.cell? ⟨w.heap.size + 1, 3, none⟩ = some (.slice none 0 0) := blk_cell l3 3 rfl
  have d4 : w3.cell? ⟨w.heap.size + 1, 4, none⟩ = some (.bool false) := blk_cell l3 4 rfl
  have d5 : w3.cell? ⟨w.heap.size + 1, 5, none⟩ = some (.int .i64 0) := blk_cell l3 5 rfl
  have d6 : w3.cell? ⟨w.heap.size + 1, 6, none⟩ = some (.bool false) := blk_cell l3 6 rfl
  have g0 := blk_free l3 0
  have g1 := blk_free l3 1
  have g2 := blk_free l3 2
  have g3 := blk_free l3 3
  have g4 := blk_free l3 4
  have g5 := blk_free l3 5
  have g6 := blk_free l3 6
  have r1 := Lib.hid (hown3.readsF (fun _ _ _ _ h => h))
  have hBF : Below w.heap.size w w3 := hB0.trans (hb3.mono hB0.size)
  clear k3 l3
  go_wp2
  refine bodyPost_ret (v := .agg #[.int .i64 x.id, .int .i64 x.table, .string x.name, .slice A3 x.cols.length c3', .bool x.uniq, .int .i64 x.state, .bool x.bad]) (by simp [results, Tryz.results144, go_sem, d0, d1, d2, d3, d4, d5, d6]) rfl ⟨[.int .i64 x.id, .int .i64 x.table, .string x.name, .slice A3 x.cols.length c3', .bool x.uniq, .int .i64 x.state, .bool x.bad], rfl, ⟨_, rfl, ?_⟩, ?_⟩
  · refine SlOf.mono EInt.mono r1.out (Hp.le_trans ?_ (hpFrom_mono _ (B := w.heap.size + 2) (by omega)))
    refine Hp.le_trans (hpFrom_mono _ (B' := w.heap.size + 2) (by simp)) ?_
    repeat (refine Hp.le_trans ?_ (hpFrom_set _ (by simp) _))
    exact Hp.le_refl _
  · repeat (refine Below.setCell ?_ (by simp) _)
    exact hBF
end Go.Proofs.YtdinnaijfemmbaaGreatDoor
