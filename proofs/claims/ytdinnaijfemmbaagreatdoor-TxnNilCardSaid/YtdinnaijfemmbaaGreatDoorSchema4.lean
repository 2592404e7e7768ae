/- package schema, on: Of -/
import Derived.Test.YtdinnaijfemmbaaGreatDoorSchema3
namespace Go.Proofs.YtdinnaijfemmbaaGreatDoor
open Go.RowKit
set_option maxRecDepth 100000

theorem info_Idx : (Tryz.prog.info? 82).map (fun i => (i.zero, i.size, i.bytes)) = some (some (.agg #[.int .i64 0, .int .i64 0, .string ByteArray.empty, .slice none 0 0, .bool false, .int .i64 0, .bool false]), 7, 80) := by kernel_rfl

/-- a table's indexes -/
def idxsOf (c : Cat) (id : Int) : List Idx := c.idxs.filter fun x => decide (x.table = id)

set_option maxHeartbeats 1000000 in
theorem schema_Of (c : Cat) (hcb : CatB c) (cs : List Value) (id : Int) (w : World) (hc : ECat w.cell? cs c) :
    Calls Tryz.prog 218 #[.agg cs.toArray, .int .i64 id] w fun e w' => ∃ v, e = .returned v ∧ OwnOf EIdx 82 7 w' w.heap.size v (idxsOf c id) ∧ Below w.heap.size w w' := by
  obtain ⟨i0, hi, hz0, hz1, hz2⟩ := info_parts info_Idx
  obtain ⟨vt, vi, rfl, _, hix⟩ := hc
  obtain ⟨Ai, ci, rfl, hli, hci, hcells⟩ := hix
  unfold maxLen at hci
  have hlb := hcb.idxs
  have hcells := Lib.hid hcells
  go_enter Tryz.func218, Tryz.ntmps218
  go_wp2
  go_loopw [5, 7, 11] (fun v _ i wr => ∃ k : Nat, k ≤ c.idxs.length ∧ i = .int .i64 k ∧ OwnOf EIdx 82 7 wr w.heap.size v ((c.idxs.take k).filter fun x => decide (x.table = id)) ∧ Below w.heap.size w wr) (fun _ _ i _ => c.idxs.length - (intOf i).toNat)
  case atStart => exact ⟨0, by omega, rfl, OwnOf.nil_ _ _, (Below.refl _ _).alloc (Nat.le_refl _) _⟩
  case round =>
    obtain ⟨k, hk, rfl, hown, hb⟩ := hrel
    by_cases hlt : k < c.idxs.length
    · obtain ⟨b, o, vc, rfl, r1, c0, c1, c2, c3, c4, c5, c6⟩ := Idx.at_ hcells.out hlt
      have c0 := below_hle hb _ _ c0
      have c1 := below_hle hb _ _ c1
      have c2 := below_hle hb _ _ c2
      have c3 := below_hle hb _ _ c3
      have c4 := below_hle hb _ _ c4
      have c5 := below_hle hb _ _ c5
      have c6 := below_hle hb _ _ c6
      obtain ⟨Ac, cc, hvc⟩ := r1.shape
      subst hvc
      have hbs := hb.size
      have ht := Lib.hid (List.take_succ_eq_append_getElem hlt)
      have hcol := hcb.icols _ (List.getElem_mem hlt)
      have HO := Lib.hid (fun w' (h : Below w.heap.size w w') => schema_ownIndex c.idxs[k] [.int .i64 c.idxs[k].id, .int .i64 c.idxs[k].table, .string c.idxs[k].name, .slice Ac c.idxs[k].cols.length cc, .bool c.idxs[k].uniq, .int .i64 c.idxs[k].state, .bool c.idxs[k].bad] w' ⟨_, rfl, r1.mono (below_hle h)⟩ (by omega))
      have r1 := Lib.hid r1
      have hfl : ((c.idxs.take k).filter fun x => decide (x.table = id)).length ≤ k := Nat.le_trans (List.length_filter_le _ _) (List.length_take_le _ _)
      by_cases heq : c.idxs[k].table = id
      · have hfs : ((c.idxs.take (k + 1)).filter fun x => decide (x.table = id)) = ((c.idxs.take k).filter fun x => decide (x.table = id)) ++ [c.idxs[k]] := by rw [ht.out, List.filter_append]; simp [heq]
        have hfs := Lib.hid hfs
        subst heq
        go_wp2_with fail
        refine (HO.out _ (hb.alloc hbs _)).mono ?_
        rintro e w2 ⟨ts, rfl, hts, hb2⟩
        have hbs2 := hb2.size
        simp at hbs2
        have hB2 : Below w.heap.size w w2 := (hb.alloc hbs _).trans (hb2.mono (by simp; omega))
        have hown2 := (hown.below EIdx.mono ((Below.refl _ _).alloc (Nat.le_refl _) (.cells #[.int .i64 c.idxs[k].id, .int .i64 c.idxs[k].table, .string c.idxs[k].name, .slice Ac c.idxs[k].cols.length cc, .bool c.idxs[k].uniq, .int .i64 c.idxs[k].state, .bool c.idxs[k].bad] 82))).below EIdx.mono hb2
        have hF : ∀ g, u5.ownBlock = some g → g < wr.heap.size := fun g hg => by
          exact (hown.lt g hg).2
        obtain ⟨vc2, rfl, q1⟩ := hts
        obtain ⟨Ac2, cc2, rfl⟩ := q1.shape
        simp at q1
        have q1 := Lib.hid q1
        go_wp2_with (at_builtin; refine wpList_append_of _ EIdx.mono rfl (.tmp 19) (.tmp 22) 58 rfl w.heap.size 82 i0 _ 7 80 Tryz.underlying58 hi hz0 hz1 hz2 rfl (by decide) _ _ rfl _ (hown2.below EIdx.mono ((Below.refl _ _).alloc (Nat.le_refl _) _)) w2.heap.size [.int .i64 c.idxs[k].id, .int .i64 c.idxs[k].table, .string c.idxs[k].name, .slice Ac2 c.idxs[k].cols.length cc2, .bool c.idxs[k].uniq, .int .i64 c.idxs[k].state, .bool c.idxs[k].bad] c.idxs[k] rfl rfl ⟨_, heap_alloc_new w2 _⟩ (by simp [Value.oneCell']) ?c1 (by simp only [maxLen]; omega) (by omega) _ (hB2.alloc (by omega) _) (by simp; omega) ?_; rotate_left; intro v4 w4 hown4 hg4 hat4 hb4 hB4)
        case c1 => exact ⟨_, rfl, SlOf.mono EInt.mono q1.out (Hp.le_trans (hpFrom_below ((Below.refl _ _).alloc (Nat.le_refl _) _) _) (hpFrom_but (fun _ _ => rfl) (fun g hg => by have := hF g hg; omega)))⟩
        go_roundw
        case rel => exact ⟨k + 1, by omega, by go_num, by rw [hfs.out]; exact hown4, hb4⟩
        case measure => simp [intOf]; omega
      · have e1 : (c.idxs[k].table == id) = false := by simpa using heq
        have hfs : ((c.idxs.take (k + 1)).filter fun x => decide (x.table = id)) = ((c.idxs.take k).filter fun x => decide (x.table = id)) := by rw [ht.out, List.filter_append]; simp [heq]
        have hfs := Lib.hid hfs
        have heq := Lib.hid heq
        go_wp2
        go_roundw
        case rel => exact ⟨k + 1, by omega, by go_num, by rw [hfs.out]; exact hown.below EIdx.mono ((Below.refl _ _).alloc (Nat.le_refl _) _), hb.alloc hbs _⟩
        case measure => simp [intOf]; omega
    · obtain rfl : k = c.idxs.length := by omega
      go_wp2
      go_ret
      exact ⟨_, rfl, by rw [idxsOf]; simpa using hown, hb⟩
end Go.Proofs.YtdinnaijfemmbaaGreatDoor
