/- package schema -/
import Derived.Test.YtdinnaijfemmbaaGreatDoorClone
import Derived.Deep.RegionWith
import Derived.Deep.RegionHeld3
import Derived.Deep.DrawnRows
namespace Go.Proofs.YtdinnaijfemmbaaGreatDoor
open Go.RowKit
set_option maxRecDepth 100000

theorem OwnOf.readsF {α : Type} {E : Hp → List Value → α → Prop} (hE : ∀ h h' cs x, E h cs x → E h' cs x) {e : TypeId} {sz : Nat} {w : World} {B : Nat} {v : Value} {l : List α} {ok : Nat → Bool} (h : OwnOf E e sz w B v l ok) : SlOf E sz (hpFrom w B) v l := by
  obtain ⟨css, h1, h2, h3, h4⟩ := h
  refine SlOf.of_own h1 h2 (fun k hk => hE _ _ _ _ (h3 k hk (by omega))) (fun b o u hb hc => ?_) h4
  have := h4.lt b hb.symm
  unfold hpFrom
  rw [if_pos this.1]
  exact hc

set_option maxHeartbeats 1000000 in
theorem schema_ownTable (t : Tab) (cs : List Value) (w : World) (ht : ETab w.cell? cs t) (h1 : t.cols.length ≤ 1048576) (h2 : t.key.length ≤ 1048576) :
    Calls Tryz.prog 143 #[.agg cs.toArray] w fun e w' => ∃ cs', e = .returned (.agg cs'.toArray) ∧ ETab (hpFrom w' w.heap.size) cs' t ∧ Below w.heap.size w w' := by
  obtain ⟨vc, vk, rfl, hc, hk⟩ := ht
  obtain ⟨Ac, cc, rfl⟩ := hc.shape
  obtain ⟨Ak, ck, rfl⟩ := hk.shape
  have HC := Lib.hid (fun w' (h : Below w.heap.size w w') => clone_col t.cols _ w' (hc.mono (below_hle h)) (by omega))
  have HK := Lib.hid (fun w' (h : Below w.heap.size w w') => clone_int t.key _ w' (hk.mono (below_hle h)) (by omega))
  clear hc hk
  have k0 : ((w.alloc (.cells #[.int .i64 t.id, .string t.name, .slice Ac t.cols.length cc, .slice Ak t.key.length ck] 80)).alloc (.cells #[.int .i64 0, .string ByteArray.empty, .slice none 0 0, .slice none 0 0] 80)).heap[w.heap.size]? = some (.cells #[.int .i64 t.id, .string t.name, .slice Ac t.cols.length cc, .slice Ak t.key.length ck] 80 (0, 0)) := by
    rw [Below.heap_alloc _ _ _ (by simp)]; exact heap_alloc_new w _
  have l0 : ((w.alloc (.cells #[.int .i64 t.id, .string t.name, .slice Ac t.cols.length cc, .slice Ak t.key.length ck] 80)).alloc (.cells #[.int .i64 0, .string ByteArray.empty, .slice none 0 0, .slice none 0 0] 80)).heap[w.heap.size + 1]? = some (.cells #[.int .i64 0, .string ByteArray.empty, .slice none 0 0, .slice none 0 0] 80 (0, 0)) := by
    have := heap_alloc_new (w.alloc (.cells #[.int .i64 t.id, .string t.name, .slice Ac t.cols.length cc, .slice Ak t.key.length ck] 80)) (.cells #[.int .i64 0, .string ByteArray.empty, .slice none 0 0, .slice none 0 0] 80)
    simpa using this
  have hB0 : Below w.heap.size w ((w.alloc (.cells #[.int .i64 t.id, .string t.name, .slice Ac t.cols.length cc, .slice Ak t.key.length ck] 80)).alloc (.cells #[.int .i64 0, .string ByteArray.empty, .slice none 0 0, .slice none 0 0] 80)).drew := (((Below.refl _ _).alloc (Nat.le_refl _) _).alloc (by simp) _).drew
  have k0 := Lib.hid k0
  have l0 := Lib.hid l0
  go_enter Tryz.func143, Tryz.ntmps143
  go_wp2
  go_region_with (first
    | (go_at_call 199; refine (HC.out _ hB0).mono ?_; rintro e w3 ⟨v3, rfl, hown3, hb3⟩; have k3 := (hb3.block w.heap.size (by simp; omega)).trans k0.out; have l3 := (hb3.block (w.heap.size + 1) (by simp)).trans l0.out; have c3 := blk_cell k3 3 rfl; have k3 := Lib.hid k3; have l3 := Lib.hid l3)
    | (go_at_call 200; refine (HK.out _ (hB0.trans (hb3.mono hB0.size))).mono ?_; rintro e w4 ⟨v4, rfl, hown4, hb4⟩; obtain ⟨A3, c3', rfl⟩ := (hown3.reads ECol.mono).shape; obtain ⟨A4, c4', rfl⟩ := (hown4.reads EInt.mono).shape; have k4 := (hb4.block w.heap.size (blk_lt k3.out)).trans k3.out; have l4 := (hb4.block (w.heap.size + 1) (blk_lt l3.out)).trans l3.out; have c43 : w4.cell? ⟨w.heap.size, 3, none⟩ = some (.slice Ak t.key.length ck) := blk_cell k4 3 rfl; have c42 : w4.cell? ⟨w.heap.size, 2, none⟩ = some (.slice Ac t.cols.length cc) := blk_cell k4 2 rfl; have f2 := blk_free k4 2; have f3 := blk_free k4 3; have k4 := Lib.hid k4; have l4 := Lib.hid l4))
  all_goals
    have c40 : w4.cell? ⟨w.heap.size, 0, none⟩ = some (.int .i64 t.id) := blk_cell k4.out 0 rfl
    have c41 : w4.cell? ⟨w.heap.size, 1, none⟩ = some (.string t.name) := blk_cell k4.out 1 rfl
    have d0 : w4.cell? ⟨w.heap.size + 1, 0, none⟩ = some (.int .i64 0) := blk_cell l4.out 0 rfl
    have d1 : w4.cell? ⟨w.heap.size + 1, 1, none⟩ = some (.string ByteArray.empty) := blk_cell l4.out 1 rfl
    have d2 : w4.cell? ⟨w.heap.size + 1, 2, none⟩ = some (.slice none 0 0) := blk_cell l4.out 2 rfl
    have d3 : w4.cell? ⟨w.heap.size + 1, 3, none⟩ = some (.slice none 0 0) := blk_cell l4.out 3 rfl
    have g0 := blk_free l4.out 0
    have g1 := blk_free l4.out 1
    have g2 := blk_free l4.out 2
    have g3 := blk_free l4.out 3
    have hs3 := hb3.size
    simp at hs3
    have r1 := SlOf.mono ECol.mono (hown3.readsF (fun _ _ _ _ h => h)) (hpFrom_below hb4 _)
    have r2 := SlOf.mono EInt.mono (hown4.readsF (fun _ _ _ _ h => h)) (hpFrom_mono w4 (B' := w.heap.size + 2) (by omega))
    have hBF : Below w.heap.size w w4 := (hB0.trans (hb3.mono hB0.size)).trans (hb4.mono (by omega))
    simp at r1
    have r1 := Lib.hid r1
    have r2 := Lib.hid r2
    go_wp2
    refine bodyPost_ret (v := .agg #[.int .i64 t.id, .string t.name, .slice A3 t.cols.length c3', .slice A4 t.key.length c4']) (by simp [results, Tryz.results143, go_sem, d0, d1, d2, d3]) rfl ⟨[.int .i64 t.id, .string t.name, .slice A3 t.cols.length c3', .slice A4 t.key.length c4'], rfl, ⟨_, _, rfl, ?_, ?_⟩, ?_⟩
    · refine SlOf.mono ECol.mono r1.out (Hp.le_trans ?_ (hpFrom_mono _ (B := w.heap.size + 2) (by omega)))
      repeat (refine Hp.le_trans ?_ (hpFrom_set _ (by simp) _))
      exact Hp.le_refl _
    · refine SlOf.mono EInt.mono r2.out (Hp.le_trans ?_ (hpFrom_mono _ (B := w.heap.size + 2) (by omega)))
      repeat (refine Hp.le_trans ?_ (hpFrom_set _ (by simp) _))
      exact Hp.le_refl _
    · repeat (refine Below.setCell ?_ (by simp) _)
      exact hBF
end Go.Proofs.YtdinnaijfemmbaaGreatDoor
