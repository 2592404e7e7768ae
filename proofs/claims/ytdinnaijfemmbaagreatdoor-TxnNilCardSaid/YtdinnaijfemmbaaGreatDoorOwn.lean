/- package schema, on: Own -/
import Derived.Test.YtdinnaijfemmbaaGreatDoorSchema4
import Derived.Deep.RegionLaw
namespace Go.Proofs.YtdinnaijfemmbaaGreatDoor
open Go.RowKit
set_option maxRecDepth 100000
attribute [local go_sem ↓] Go.wp_at_zero Go.wp_at_succ

theorem info_Tab : (Tryz.prog.info? 80).map (fun i => (i.zero, i.size, i.bytes)) = some (some (.agg #[.int .i64 0, .string ByteArray.empty, .slice none 0 0, .slice none 0 0]), 4, 72) := by kernel_rfl

set_option maxHeartbeats 4000000 in
theorem schema_Own (c : Cat) (hcb : CatB c) (cs : List Value) (w : World) (hc : ECat w.cell? cs c) :
    Calls Tryz.prog 84 #[.agg cs.toArray] w fun e w' => ∃ cs', e = .returned (.agg cs'.toArray) ∧ ECat (hpFrom w' w.heap.size) cs' c ∧ Below w.heap.size w w' := by
  obtain ⟨it, hti, htz0, htz1, htz2⟩ := info_parts info_Tab
  obtain ⟨ix, hxi, hxz0, hxz1, hxz2⟩ := info_parts info_Idx
  obtain ⟨vt, vi, rfl, htb, hix⟩ := hc
  obtain ⟨At, ct, rfl, hlt, hct, htcells⟩ := htb
  obtain ⟨Ai, ci, rfl, hli, hci, hcells⟩ := hix
  unfold maxLen at hci hct
  have hlb := hcb.idxs
  have hlb2 := hcb.tabs
  have hcells := Lib.hid hcells
  have htcells := Lib.hid htcells
  go_enter Tryz.func84, Tryz.ntmps84
  go_wp2
  go_loopw [5, 16] (fun _ i wr => ∃ k : Nat, k ≤ c.tabs.length ∧ i = .int .i64 k ∧ ∃ vT, wr.heap[w.heap.size + 1 + 1]? = some (.cells #[.int .i64 c.version, .int .i64 c.next, vT, .slice none 0 0] 60 (0, 0)) ∧ OwnOf ETab 80 4 wr (w.heap.size + 3) vT (c.tabs.take k) (fun b => decide (w.heap.size + 3 ≤ b)) ∧ Below (w.heap.size + 2) ((w.alloc (.cells #[.int .i64 c.version, .int .i64 c.next, .slice At c.tabs.length ct, .slice Ai c.idxs.length ci] 60)).alloc (.cells #[.int .i64 0, .int .i64 0, .slice none 0 0, .slice none 0 0] 60)) wr) (fun _ i _ => c.tabs.length - (intOf i).toNat)
  case atStart => exact ⟨0, by omega, rfl, .slice none 0 0, by have := heap_alloc_new ((w.alloc (.cells #[.int .i64 c.version, .int .i64 c.next, .slice At c.tabs.length ct, .slice Ai c.idxs.length ci] 60)).alloc (.cells #[.int .i64 0, .int .i64 0, .slice none 0 0, .slice none 0 0] 60)) (.cells #[.int .i64 c.version, .int .i64 c.next, .slice none 0 0, .slice none 0 0] 60); simpa using this, OwnOf.nil_ _ _, (Below.refl _ _).alloc (by simp) _⟩
  case round =>
    obtain ⟨k, hk, rfl, vT, hblk, hown, hb⟩ := hrel
    by_cases hlt : k < c.tabs.length
    · have hB : Below w.heap.size w wr := (((Below.refl _ _).alloc (Nat.le_refl _) _).alloc (by simp) _).trans (hb.mono (by omega))
      obtain ⟨b, o, vc, vk, rfl, r1, r2, c0, c1, c2, c3⟩ := Tab.at_ htcells.out hlt
      have c0 := below_hle hB _ _ c0
      have c1 := below_hle hB _ _ c1
      have c2 := below_hle hB _ _ c2
      have c3 := below_hle hB _ _ c3
      obtain ⟨Ac, cc, hvc⟩ := r1.shape
      subst hvc
      obtain ⟨Ak, ck, hvk⟩ := r2.shape
      subst hvk
      have hbs := hb.size
      simp at hbs
      have ht := Lib.hid (List.take_succ_eq_append_getElem hlt)
      have hcol := hcb.cols _ (List.getElem_mem hlt)
      have hkey := hcb.key _ (List.getElem_mem hlt)
      have hltk : (c.tabs.take k).length ≤ k := List.length_take_le _ _
      have HO := Lib.hid (fun w' (h : Below w.heap.size w w') => schema_ownTable c.tabs[k] [.int .i64 c.tabs[k].id, .string c.tabs[k].name, .slice Ac c.tabs[k].cols.length cc, .slice Ak c.tabs[k].key.length ck] w' ⟨_, _, rfl, r1.mono (below_hle h), r2.mono (below_hle h)⟩ (by omega) (by omega))
      have hltk2 : (c.tabs.take k).length = k := by rw [List.length_take]; omega
      obtain ⟨AT, cT, hvT⟩ := (hown.reads ETab.mono).shape
      rw [hltk2] at hvT
      subst hvT
      have hltk2 := Lib.hid hltk2
      have hgl := blk_lt hblk
      have o2 : ∀ o, (wr.alloc o).cell? ⟨w.heap.size + 1 + 1, 2, none⟩ = some (.slice AT k cT) := fun o => alloc_keeps (blk_cell hblk 2 rfl)
      have hblk := Lib.hid hblk
      have r1 := Lib.hid r1
      have r2 := Lib.hid r2
      have ownA := Lib.hid (hown.below ETab.mono ((Below.refl _ _).alloc (Nat.le_refl _) (.cells #[.int .i64 c.tabs[k].id, .string c.tabs[k].name, .slice Ac c.tabs[k].cols.length cc, .slice Ak c.tabs[k].key.length ck] 80)))
      have hF : ∀ g, (Value.slice AT k cT).ownBlock = some g → w.heap.size + 3 ≤ g ∧ g < wr.heap.size := hown.lt
      have hF := Lib.hid hF
      clear hown
      go_wp2_with fail
      go_region_law (first
        | (go_simp; go_at_call 143; refine (HO.out _ (hB.alloc hB.size _).drew).mono ?_; rintro e w2 ⟨ts, rfl, hts, hb2⟩; obtain ⟨vc2, vk2, rfl, q1, q2⟩ := hts; obtain ⟨Ac2, cc2, rfl⟩ := q1.shape; obtain ⟨Ak2, ck2, rfl⟩ := q2.shape; have q1 := Lib.hid q1; have q2 := Lib.hid q2; have blk2 := (hb2.block (w.heap.size + 1 + 1) (by simp; omega)).trans ((Below.heap_alloc wr _ (w.heap.size + 1 + 1) hgl).trans hblk.out); have o3 := fun o => alloc_keeps (o := o) (blk_cell blk2 2 rfl); have o4 := blk_cell blk2 2 rfl; have blk2 := Lib.hid blk2; have hs2 := hb2.size; simp at hs2)
        | (refine step_append_of _ ETab.mono rfl (.tmp 21) (.tmp 24) 57 rfl (w.heap.size + 3) 80 it _ 4 72 Tryz.underlying57 hti htz0 htz1 htz2 rfl (by decide) (.slice AT k cT) (c.tabs.take k) (by rfl) _ (((ownA.out.below ETab.mono ((Below.refl _ _).drew)).below ETab.mono hb2).below ETab.mono ((Below.refl _ _).alloc (Nat.le_refl _) _)) w2.heap.size [.int .i64 c.tabs[k].id, .string c.tabs[k].name, .slice Ac2 c.tabs[k].cols.length cc2, .slice Ak2 c.tabs[k].key.length ck2] c.tabs[k] (by rfl) (by rfl) ⟨_, heap_alloc_new w2 _⟩ (by simp [Value.oneCell']) ⟨_, _, rfl, SlOf.mono ECol.mono q1.out (Hp.le_trans (hpFrom_below ((Below.refl _ _).alloc (Nat.le_refl _) _) _) (hpFrom_but (fun b hb => by simp at hb ⊢; omega) (fun g hg => by have := (hF.out g hg).2; simp; omega))), SlOf.mono EInt.mono q2.out (Hp.le_trans (hpFrom_below ((Below.refl _ _).alloc (Nat.le_refl _) _) _) (hpFrom_but (fun b hb => by simp at hb ⊢; omega) (fun g hg => by have := (hF.out g hg).2; simp; omega)))⟩ (by simp only [maxLen]; omega) (by omega) w2 (((Below.refl _ _).alloc (by omega) _)) (by simp; omega) ?_; intro v4 w4 hown4 hg4 hat4 hb4 hB4; obtain ⟨A4, c4, rfl⟩ := (hown4.reads ETab.mono).shape; have blk4 := (hg4.block (w.heap.size + 1 + 1) (by simp; omega) (fun e => by have := (hF.out _ e.symm).1; omega)).trans ((Below.heap_alloc w2 _ (w.heap.size + 1 + 1) (by omega)).trans blk2.out); have p2 := blk_cell blk4 2 rfl; have p3 := blk_free blk4 2; have blk4 := Lib.hid blk4))
      all_goals
        have hlen4 : (c.tabs.take k ++ [c.tabs[k]]).length = k + 1 := by rw [List.length_append, hltk2.out]; rfl
        have hbF := ((((hb.alloc (by omega) _).drew).trans (hb2.mono (by simp; omega))).trans (hb4.mono (by omega))).setCell (p := ⟨w.heap.size + 1 + 1, 2, none⟩) (by simp) (.slice A4 (c.tabs.take k ++ [c.tabs[k]]).length c4)
        have hbF := Lib.hid hbF
        have ownF := Lib.hid (hown4.set ETab.mono (p := ⟨w.heap.size + 1 + 1, 2, none⟩) (by simp) (fun g hg => by have := (hown4.lt g hg).1; simp; omega) (.slice A4 (c.tabs.take k ++ [c.tabs[k]]).length c4))
        have blkF := Lib.hid (blk_set blk4.out 2 (.slice A4 (c.tabs.take k ++ [c.tabs[k]]).length c4))
        have hlen4 := Lib.hid hlen4
        clear hown4 hg4 hat4 hb4 hB4 o2 o3 o4 p2 p3 c0 c1 c2 c3
        go_wp2
        go_roundw
        case rel => exact ⟨k + 1, by omega, by go_num, _, by simpa [hlen4.out] using blkF.out, by rw [ht.out]; simpa [hlen4.out] using ownF.out, by simpa [hlen4.out] using hbF.out⟩
        case measure => simp [intOf]; omega
    · obtain rfl : k = c.tabs.length := by omega
      rw [List.take_length] at hown
      obtain ⟨AT, cT, hvT⟩ := (hown.reads ETab.mono).shape
      subst hvT
      have hbs := hb.size
      simp at hbs
      have hR : RTabs (hpOk (fun b => decide (w.heap.size + 3 ≤ b ∧ b < wr.heap.size)) wr) (.slice AT c.tabs.length cT) c.tabs := hown.readsG ETab.mono (fun a u e => by
        unfold hpBut at e
        split at e
        · rename_i h1
          unfold hpOk
          rw [if_pos]
          · exact e
          · have := World.block_lt_of_cell? wr a e
            simp at h1 ⊢
            omega
        · cases e) (fun b o u hb h1 => by
          have := hown.lt b hb.symm
          unfold hpOk
          rw [if_pos (by simp; omega)]
          exact h1)
      clear hown
      obtain ⟨wo, rfl⟩ : ∃ wo : World, wo = wr := ⟨_, rfl⟩
      have f3 : wo.cell? ⟨w.heap.size, 3, none⟩ = some (.slice Ai c.idxs.length ci) := (hb.cell (p := ⟨w.heap.size, 3, none⟩) (by simp)).trans (by simp)
      have hwo3 : w.heap.size + 3 ≤ wo.heap.size := by have := blk_lt hblk; omega
      have hR := Lib.hid hR
      have hblk := Lib.hid hblk
      go_wp2
      go_loopw [7, 31] (fun _ i wr => ∃ k : Nat, k ≤ c.idxs.length ∧ i = .int .i64 k ∧ ∃ vI, wr.heap[w.heap.size + 1 + 1]? = some (.cells #[.int .i64 c.version, .int .i64 c.next, .slice AT c.tabs.length cT, vI] 60 (0, 0)) ∧ RTabs (hpOk (fun b => decide (w.heap.size + 3 ≤ b ∧ b < wo.heap.size)) wr) (.slice AT c.tabs.length cT) c.tabs ∧ OwnOf EIdx 82 7 wr wo.heap.size vI (c.idxs.take k) (fun b => decide (w.heap.size + 3 ≤ b)) ∧ wo.heap.size ≤ wr.heap.size ∧ Below (w.heap.size + 2) ((w.alloc (.cells #[.int .i64 c.version, .int .i64 c.next, .slice At c.tabs.length ct, .slice Ai c.idxs.length ci] 60)).alloc (.cells #[.int .i64 0, .int .i64 0, .slice none 0 0, .slice none 0 0] 60)) wr) (fun _ i _ => c.idxs.length - (intOf i).toNat)
      case atStart => exact ⟨0, by omega, rfl, _, hblk.out, hR.out, OwnOf.nil_ _ _, Nat.le_refl _, hb⟩
      case round =>
        obtain ⟨k, hk, rfl, vI, hblk, hR, hown, hwo, hb⟩ := hrel
        by_cases hlt : k < c.idxs.length
        · have hB : Below w.heap.size w wr := (((Below.refl _ _).alloc (Nat.le_refl _) _).alloc (by simp) _).trans (hb.mono (by omega))
          obtain ⟨b, o, vc, rfl, r1, c0, c1, c2, c3, c4, c5, c6⟩ := Idx.at_ hcells.out hlt
          have c0 := below_hle hB _ _ c0
          have c1 := below_hle hB _ _ c1
          have c2 := below_hle hB _ _ c2
          have c3 := below_hle hB _ _ c3
          have c4 := below_hle hB _ _ c4
          have c5 := below_hle hB _ _ c5
          have c6 := below_hle hB _ _ c6
          obtain ⟨Ac, cc, hvc⟩ := r1.shape
          subst hvc
          have ht := Lib.hid (List.take_succ_eq_append_getElem hlt)
          have hcol := hcb.icols _ (List.getElem_mem hlt)
          have HO := Lib.hid (fun w' (h : Below w.heap.size w w') => schema_ownIndex c.idxs[k] [.int .i64 c.idxs[k].id, .int .i64 c.idxs[k].table, .string c.idxs[k].name, .slice Ac c.idxs[k].cols.length cc, .bool c.idxs[k].uniq, .int .i64 c.idxs[k].state, .bool c.idxs[k].bad] w' ⟨_, rfl, r1.mono (below_hle h)⟩ (by omega))
          have hltk2 : (c.idxs.take k).length = k := by rw [List.length_take]; omega
          obtain ⟨AI, cI, hvI⟩ := (hown.reads EIdx.mono).shape
          rw [hltk2] at hvI
          subst hvI
          have hltk : (c.idxs.take k).length ≤ k := Nat.le_of_eq hltk2
          have hltk2 := Lib.hid hltk2
          have hgl := blk_lt hblk
          have o2 : ∀ o, (wr.alloc o).cell? ⟨w.heap.size + 1 + 1, 3, none⟩ = some (.slice AI k cI) := fun o => alloc_keeps (blk_cell hblk 3 rfl)
          have hblk := Lib.hid hblk
          have r1 := Lib.hid r1
          have hR := Lib.hid hR
          have ownA := Lib.hid (hown.below EIdx.mono ((Below.refl _ _).alloc (Nat.le_refl _) (.cells #[.int .i64 c.idxs[k].id, .int .i64 c.idxs[k].table, .string c.idxs[k].name, .slice Ac c.idxs[k].cols.length cc, .bool c.idxs[k].uniq, .int .i64 c.idxs[k].state, .bool c.idxs[k].bad] 82)))
          have hF : ∀ g, (Value.slice AI k cI).ownBlock = some g → wo.heap.size ≤ g ∧ g < wr.heap.size := hown.lt
          have hF := Lib.hid hF
          have RA := Lib.hid (hR.out.mono (hpOk_below ((Below.refl _ _).alloc (Nat.le_refl _) (.cells #[.int .i64 c.idxs[k].id, .int .i64 c.idxs[k].table, .string c.idxs[k].name, .slice Ac c.idxs[k].cols.length cc, .bool c.idxs[k].uniq, .int .i64 c.idxs[k].state, .bool c.idxs[k].bad] 82))))
          clear hown
          go_wp2_with fail
          go_region_law (first
            | (go_simp; go_at_call 144; refine (HO.out _ (hB.alloc hB.size _).drew).mono ?_; rintro e w2 ⟨ts, rfl, hts, hb2⟩; obtain ⟨vc2, rfl, q1⟩ := hts; obtain ⟨Ac2, cc2, rfl⟩ := q1.shape; have q1 := Lib.hid q1; have blk2 := (hb2.block (w.heap.size + 1 + 1) (by simp; omega)).trans ((Below.heap_alloc wr _ (w.heap.size + 1 + 1) hgl).trans hblk.out); have o3 := fun o => alloc_keeps (o := o) (blk_cell blk2 3 rfl); have o4 := blk_cell blk2 3 rfl; have blk2 := Lib.hid blk2; have hs2 := hb2.size; simp at hs2)
            | (refine step_append_of _ EIdx.mono rfl (.tmp 36) (.tmp 39) 58 rfl wo.heap.size 82 ix _ 7 80 Tryz.underlying58 hxi hxz0 hxz1 hxz2 rfl (by decide) (.slice AI k cI) (c.idxs.take k) (by rfl) _ (((ownA.out.below EIdx.mono ((Below.refl _ _).drew)).below EIdx.mono hb2).below EIdx.mono ((Below.refl _ _).alloc (Nat.le_refl _) _)) w2.heap.size [.int .i64 c.idxs[k].id, .int .i64 c.idxs[k].table, .string c.idxs[k].name, .slice Ac2 c.idxs[k].cols.length cc2, .bool c.idxs[k].uniq, .int .i64 c.idxs[k].state, .bool c.idxs[k].bad] c.idxs[k] (by rfl) (by rfl) ⟨_, heap_alloc_new w2 _⟩ (by simp [Value.oneCell']) ⟨_, rfl, SlOf.mono EInt.mono q1.out (Hp.le_trans (hpFrom_below ((Below.refl _ _).alloc (Nat.le_refl _) _) _) (hpFrom_but (fun b hb => by simp at hb ⊢; omega) (fun g hg => by have := (hF.out g hg).2; simp; omega)))⟩ (by simp only [maxLen]; omega) (by omega) w2 (((Below.refl _ _).alloc (by omega) _)) (by simp; omega) ?_; intro v4 w4 hown4 hg4 hat4 hb4 hB4; obtain ⟨A4, c4', rfl⟩ := (hown4.reads EIdx.mono).shape; have blk4 := (hg4.block (w.heap.size + 1 + 1) (by simp; omega) (fun e => by have := (hF.out _ e.symm).1; omega)).trans ((Below.heap_alloc w2 _ (w.heap.size + 1 + 1) (by omega)).trans blk2.out); have p2 := blk_cell blk4 3 rfl; have p3 := blk_free blk4 3; have blk4 := Lib.hid blk4))
          all_goals
            have hlen4 : (c.idxs.take k ++ [c.idxs[k]]).length = k + 1 := by rw [List.length_append, hltk2.out]; rfl
            have hbF := ((((hb.alloc (by omega) _).drew).trans (hb2.mono (by simp; omega))).trans (hb4.mono (by omega))).setCell (p := ⟨w.heap.size + 1 + 1, 3, none⟩) (by simp) (.slice A4 (c.idxs.take k ++ [c.idxs[k]]).length c4')
            have hbF := Lib.hid hbF
            have ownF := Lib.hid (hown4.set EIdx.mono (p := ⟨w.heap.size + 1 + 1, 3, none⟩) (by simp) (fun g hg => by have := (hown4.lt g hg).1; simp; omega) (.slice A4 (c.idxs.take k ++ [c.idxs[k]]).length c4'))
            have blkF := Lib.hid (blk_set blk4.out 3 (.slice A4 (c.idxs.take k ++ [c.idxs[k]]).length c4'))
            have RF := Lib.hid ((((RA.out.mono (hpOk_below ((Below.refl _ _).drew))).mono (hpOk_below hb2)).mono (hpOk_below ((Below.refl _ _).alloc (Nat.le_refl _) _))).mono (Hp.le_trans (hpOk_grown hg4 (fun g hg => by have := (hF.out g hg).1; simp; omega)) (hpOk_set (p := ⟨w.heap.size + 1 + 1, 3, none⟩) (by simp; omega) (.slice A4 (c.idxs.take k ++ [c.idxs[k]]).length c4'))))
            have hsz : wo.heap.size ≤ w4.heap.size := by omega
            have hlen4 := Lib.hid hlen4
            clear hown4 hg4 hat4 hb4 hB4 o2 o3 o4 p2 p3 c0 c1 c2 c3 c4 c5 c6
            go_wp2
            go_roundw
            case rel => exact ⟨k + 1, by omega, by go_num, _, by simpa [hlen4.out] using blkF.out, by simpa [hlen4.out] using RF.out, by rw [ht.out]; simpa [hlen4.out] using ownF.out, by simpa using hsz, by simpa [hlen4.out] using hbF.out⟩
            case measure => simp [intOf]; omega
        · obtain rfl : k = c.idxs.length := by omega
          rw [List.take_length] at hown
          obtain ⟨AI, cI, hvI⟩ := (hown.reads EIdx.mono).shape
          subst hvI
          have hbs2 := hb.size
          simp at hbs2
          have hgl := blk_lt hblk
          have s0 : wr.cell? ⟨w.heap.size + 1 + 1, 0, none⟩ = some (.int .i64 c.version) := blk_cell hblk 0 rfl
          have s1 : wr.cell? ⟨w.heap.size + 1 + 1, 1, none⟩ = some (.int .i64 c.next) := blk_cell hblk 1 rfl
          have s2 : wr.cell? ⟨w.heap.size + 1 + 1, 2, none⟩ = some (.slice AT c.tabs.length cT) := blk_cell hblk 2 rfl
          have s3 : wr.cell? ⟨w.heap.size + 1 + 1, 3, none⟩ = some (.slice AI c.idxs.length cI) := blk_cell hblk 3 rfl
          have l0 : wr.heap[w.heap.size + 1]? = some (.cells #[.int .i64 0, .int .i64 0, .slice none 0 0, .slice none 0 0] 60 (0, 0)) := (hb.block (w.heap.size + 1) (by omega)).trans (by
            have := heap_alloc_new (w.alloc (.cells #[.int .i64 c.version, .int .i64 c.next, .slice At c.tabs.length ct, .slice Ai c.idxs.length ci] 60)) (.cells #[.int .i64 0, .int .i64 0, .slice none 0 0, .slice none 0 0] 60)
            simpa using this)
          have d0 : wr.cell? ⟨w.heap.size + 1, 0, none⟩ = some (.int .i64 0) := blk_cell l0 0 rfl
          have d1 : wr.cell? ⟨w.heap.size + 1, 1, none⟩ = some (.int .i64 0) := blk_cell l0 1 rfl
          have d2 : wr.cell? ⟨w.heap.size + 1, 2, none⟩ = some (.slice none 0 0) := blk_cell l0 2 rfl
          have d3 : wr.cell? ⟨w.heap.size + 1, 3, none⟩ = some (.slice none 0 0) := blk_cell l0 3 rfl
          have g0 := blk_free l0 0
          have g1 := blk_free l0 1
          have g2 := blk_free l0 2
          have g3 := blk_free l0 3
          have R1 : RTabs (hpFrom wr (w.heap.size + 2)) (.slice AT c.tabs.length cT) c.tabs := hR.mono (hpOk_from (fun b hb => by simp at hb; omega))
          have R2 : RIdxs (hpFrom wr (w.heap.size + 2)) (.slice AI c.idxs.length cI) c.idxs := hown.readsG EIdx.mono (fun a u e => by
            unfold hpBut at e
            split at e
            · rename_i h1
              unfold hpFrom
              rw [if_pos (by simp at h1; omega)]
              exact e
            · cases e) (fun b o u hb h1 => by
              have := hown.lt b hb.symm
              unfold hpFrom
              rw [if_pos (by simp; omega)]
              exact h1)
          have hBF : Below w.heap.size w wr := (((Below.refl _ _).alloc (Nat.le_refl _) _).alloc (by simp) _).trans (hb.mono (by omega))
          have R1 := Lib.hid R1
          have R2 := Lib.hid R2
          clear hR hown hblk l0 hb
          go_wp2
          refine bodyPost_ret (v := .agg #[.int .i64 c.version, .int .i64 c.next, .slice AT c.tabs.length cT, .slice AI c.idxs.length cI]) (by simp [results, Tryz.results84, go_sem, d0, d1, d2, d3]) rfl ⟨[.int .i64 c.version, .int .i64 c.next, .slice AT c.tabs.length cT, .slice AI c.idxs.length cI], rfl, ⟨_, _, rfl, ?_, ?_⟩, ?_⟩
          · refine R1.out.mono (Hp.le_trans ?_ (hpFrom_mono _ (B := w.heap.size + 2) (by omega)))
            repeat (refine Hp.le_trans ?_ (hpFrom_set _ (by simp) _))
            exact Hp.le_refl _
          · refine R2.out.mono (Hp.le_trans ?_ (hpFrom_mono _ (B := w.heap.size + 2) (by omega)))
            repeat (refine Hp.le_trans ?_ (hpFrom_set _ (by simp) _))
            exact Hp.le_refl _
          · repeat (refine Below.setCell ?_ (by simp) _)
            exact hBF
end Go.Proofs.YtdinnaijfemmbaaGreatDoor
