/- package route: Own -/
import Derived.Test.YtdinnaijfemmbaaGreatDoorSchema
import Derived.Deep.RegionLaw
namespace Go.Proofs.YtdinnaijfemmbaaGreatDoor
open Go.RowKit
set_option maxRecDepth 100000
attribute [local go_sem ↓] Go.wp_at_zero Go.wp_at_succ

structure Ow where
  group : Int
  frm : List UInt8
structure Rt where
  epoch : Int
  base : Int
  spans : List Ow
  moving : Int
  cut : List UInt8
def EOw (h : Hp) (cs : List Value) (o : Ow) : Prop := ∃ vf, cs = [.int .i64 o.group, vf] ∧ RBytes h vf o.frm
theorem EOw.mono : Mono EOw := fun _ _ _ _ ⟨vf, e, h1⟩ hh => ⟨vf, e, h1.mono hh⟩
def ERt (h : Hp) (cs : List Value) (r : Rt) : Prop := ∃ vs vc, cs = [.int .i64 r.epoch, .int .i64 r.base, vs, .int .i64 r.moving, vc] ∧ SlOf EOw 2 h vs r.spans ∧ RBytes h vc r.cut
theorem ERt.mono : Mono ERt := fun _ _ _ _ ⟨vs, vc, e, h1, h2⟩ hh => ⟨vs, vc, e, SlOf.mono EOw.mono h1 hh, h2.mono hh⟩
theorem Ow.at_ {h : Hp} {A : Option Addr} {l : List Ow} (hc : ∀ k (hk : k < l.length), ∃ b o cs, A = some ⟨b, o, none⟩ ∧ cs.length = 2 ∧ EOw h cs l[k] ∧ ∀ j u, cs[j]? = some u → h ⟨b, o + k * 2 + j, none⟩ = some u)
    {k : Nat} (hk : k < l.length) : ∃ b o vf, A = some ⟨b, o, none⟩ ∧ RBytes h vf l[k].frm ∧ h ⟨b, o + k * 2, none⟩ = some (.int .i64 l[k].group) ∧ h ⟨b, o + k * 2 + 1, none⟩ = some vf := by
  obtain ⟨b, o, cs, hA, _, ⟨vf, he, h1⟩, hcc⟩ := hc k hk
  subst he
  exact ⟨b, o, vf, hA, h1, hcc 0 _ rfl, hcc 1 _ rfl⟩

theorem info_Ow : (Tryz.prog.info? 147).map (fun i => (i.zero, i.size, i.bytes)) = some (some (.agg #[.int .i64 0, .slice none 0 0]), 2, 32) := by kernel_rfl

set_option maxHeartbeats 4000000 in
theorem route_Own (r : Rt) (cs : List Value) (w : World) (hr : ERt w.cell? cs r) (hl : r.spans.length ≤ 1048576) (hf : ∀ o ∈ r.spans, o.frm.length ≤ 1048576) (hcl : r.cut.length ≤ 1048576) :
    Calls Tryz.prog 137 #[.agg cs.toArray] w fun e w' => ∃ cs', e = .returned (.agg cs'.toArray) ∧ ERt (hpFrom w' w.heap.size) cs' r ∧ Below w.heap.size w w' := by
  obtain ⟨it, hti, htz0, htz1, htz2⟩ := info_parts info_Ow
  obtain ⟨vs, vc, rfl, hsp, hcut⟩ := hr
  obtain ⟨As, ca, rfl, hls, hcs, hcells⟩ := hsp
  obtain ⟨Ac, cc, rfl⟩ := hcut.shape
  unfold maxLen at hcs
  have HC := Lib.hid (fun w' (h : Below w.heap.size w w') => clone_u8 r.cut _ w' (hcut.mono (below_hle h)) (by omega))
  have hcells := Lib.hid hcells
  clear hcut
  go_enter Tryz.func137, Tryz.ntmps137
  go_wp2
  go_loopw [3, 5, 9] (fun v _ i wr => ∃ k : Nat, k ≤ r.spans.length ∧ i = .int .i64 k ∧ OwnOf EOw 147 2 wr (w.heap.size + 2) v (r.spans.take k) (fun b => decide (w.heap.size + 2 ≤ b)) ∧ Below (w.heap.size + 2) ((w.alloc (.cells #[.int .i64 r.epoch, .int .i64 r.base, .slice As r.spans.length ca, .int .i64 r.moving, .slice Ac r.cut.length cc] 73)).alloc (.cells #[.int .i64 0, .int .i64 0, .slice none 0 0, .int .i64 0, .slice none 0 0] 73)) wr) (fun _ _ i _ => r.spans.length - (intOf i).toNat)
  case atStart => exact ⟨0, by omega, rfl, OwnOf.nil_ _ _, Below.refl _ _⟩
  case round =>
    obtain ⟨k, hk, rfl, hown, hb⟩ := hrel
    have hbs := hb.size
    simp at hbs
    by_cases hlt : k < r.spans.length
    · have hB : Below w.heap.size w wr := (((Below.refl _ _).alloc (Nat.le_refl _) _).alloc (by simp) _).trans (hb.mono (by omega))
      obtain ⟨b, o, vf, rfl, r1, c0, c1⟩ := Ow.at_ hcells.out hlt
      have c0 := below_hle hB _ _ c0
      have c1 := below_hle hB _ _ c1
      obtain ⟨Af, cf, hvf⟩ := r1.shape
      subst hvf
      have ht := Lib.hid (List.take_succ_eq_append_getElem hlt)
      have hfl := hf _ (List.getElem_mem hlt)
      have HO := Lib.hid (fun w' (h : Below w.heap.size w w') => clone_u8 r.spans[k].frm _ w' (r1.mono (below_hle h)) (by omega))
      have hltk : (r.spans.take k).length ≤ k := List.length_take_le _ _
      have ownA := Lib.hid (hown.below EOw.mono ((Below.refl _ _).alloc (Nat.le_refl _) (.cells #[.int .i64 r.spans[k].group, .slice Af r.spans[k].frm.length cf] 147)))
      have hF : ∀ g, u3.ownBlock = some g → w.heap.size + 2 ≤ g ∧ g < wr.heap.size := hown.lt
      have hF := Lib.hid hF
      have hbA := Lib.hid (hb.alloc (by omega) (.cells #[.int .i64 r.spans[k].group, .slice Af r.spans[k].frm.length cf] 147))
      clear hown r1
      go_wp2_with fail
      go_region_law (first
        | (go_simp; go_at_call 57; refine (HO.out _ (hB.alloc hB.size _).drew).mono ?_; rintro e w2 ⟨v2, rfl, hown2, hb2⟩; obtain ⟨A2, c2, rfl⟩ := (hown2.reads E8.mono).shape; have q1 := SlOf.mono E8.mono (hown2.readsF (fun _ _ _ _ h => h)) (Hp.le_refl _); have q1 := Lib.hid q1; have g0 : w2.cell? ⟨wr.heap.size, 0, none⟩ = some (.int .i64 r.spans[k].group) := (hb2.cell (p := ⟨wr.heap.size, 0, none⟩) (by simp)).trans (by simp); have hs2 := hb2.size; simp at hs2; clear hown2)
        | (refine step_append_of _ EOw.mono rfl (.tmp 13) (.tmp 20) 71 rfl (w.heap.size + 2) 147 it _ 2 32 Tryz.underlying71 hti htz0 htz1 htz2 rfl (by decide) u3 (r.spans.take k) (by rfl) _ (((ownA.out.below EOw.mono ((Below.refl _ _).drew)).below EOw.mono hb2).below EOw.mono ((Below.refl _ _).alloc (Nat.le_refl _) _)) w2.heap.size [.int .i64 r.spans[k].group, .slice A2 r.spans[k].frm.length c2] r.spans[k] (by rfl) (by rfl) ⟨_, heap_alloc_new w2 _⟩ (by simp [Value.oneCell']) ⟨_, rfl, SlOf.mono E8.mono q1.out (Hp.le_trans (hpFrom_below ((Below.refl _ _).alloc (Nat.le_refl _) _) _) (hpFrom_but (fun b hb => by simp at hb ⊢; omega) (fun g hg => by have := (hF.out g hg).2; simp; omega)))⟩ (by simp only [maxLen]; omega) (by omega) w2 (((Below.refl _ _).alloc (by omega) _)) (by simp; omega) ?_; intro v4 w4 hown4 hg4 hat4 hb4 hB4))
      all_goals
        have hbF := Lib.hid ((hbA.out.drew.trans (hb2.mono (by simp; omega))).trans (hb4.mono (by omega)))
        have ownF := Lib.hid hown4
        clear hown4 hg4 hat4 hb4 hB4 c0 c1
        go_wp2
        go_roundw
        case rel => exact ⟨k + 1, by omega, by go_num, by rw [ht.out]; exact ownF.out, hbF.out⟩
        case measure => simp [intOf]; omega
    · obtain rfl : k = r.spans.length := by omega
      rw [List.take_length] at hown
      obtain ⟨AT, cT, hvT⟩ := (hown.reads EOw.mono).shape
      subst hvT
      have hB : Below w.heap.size w wr := (((Below.refl _ _).alloc (Nat.le_refl _) _).alloc (by simp) _).trans (hb.mono (by omega))
      have k0 : wr.heap[w.heap.size]? = some (.cells #[.int .i64 r.epoch, .int .i64 r.base, .slice As r.spans.length ca, .int .i64 r.moving, .slice Ac r.cut.length cc] 73 (0, 0)) := (hb.block w.heap.size (by omega)).trans (by
        rw [Below.heap_alloc _ _ _ (by simp)]; exact heap_alloc_new w _)
      have l0 : wr.heap[w.heap.size + 1]? = some (.cells #[.int .i64 0, .int .i64 0, .slice none 0 0, .int .i64 0, .slice none 0 0] 73 (0, 0)) := (hb.block (w.heap.size + 1) (by omega)).trans (by
        have := heap_alloc_new (w.alloc (.cells #[.int .i64 r.epoch, .int .i64 r.base, .slice As r.spans.length ca, .int .i64 r.moving, .slice Ac r.cut.length cc] 73)) (.cells #[.int .i64 0, .int .i64 0, .slice none 0 0, .int .i64 0, .slice none 0 0] 73)
        simpa using this)
      have c4 : wr.cell? ⟨w.heap.size, 4, none⟩ = some (.slice Ac r.cut.length cc) := blk_cell k0 4 rfl
      have R1 : SlOf EOw 2 (hpFrom wr (w.heap.size + 2)) (.slice AT r.spans.length cT) r.spans := hown.readsG EOw.mono (fun a u e => by
        unfold hpBut at e
        split at e
        · rename_i h1
          unfold hpFrom
          rw [if_pos (by simpa using h1.1)]
          exact e
        · cases e) (fun b o u hb h1 => by
          have := hown.lt b hb.symm
          unfold hpFrom
          rw [if_pos (by simp; omega)]
          exact h1)
      have R1 := Lib.hid R1
      clear hown
      go_wp2_with fail
      refine (HC.out _ hB).mono ?_
      rintro e w5 ⟨v5, rfl, hown5, hb5⟩
      obtain ⟨A5, c5, rfl⟩ := (hown5.reads E8.mono).shape
      have k5 := (hb5.block w.heap.size (by omega)).trans k0
      have l5 := (hb5.block (w.heap.size + 1) (by omega)).trans l0
      have b0 : w5.cell? ⟨w.heap.size, 0, none⟩ = some (.int .i64 r.epoch) := blk_cell k5 0 rfl
      have b1 : w5.cell? ⟨w.heap.size, 1, none⟩ = some (.int .i64 r.base) := blk_cell k5 1 rfl
      have b2 : w5.cell? ⟨w.heap.size, 2, none⟩ = some (.slice As r.spans.length ca) := blk_cell k5 2 rfl
      have b3 : w5.cell? ⟨w.heap.size, 3, none⟩ = some (.int .i64 r.moving) := blk_cell k5 3 rfl
      have b4 : w5.cell? ⟨w.heap.size, 4, none⟩ = some (.slice Ac r.cut.length cc) := blk_cell k5 4 rfl
      have f2 := blk_free k5 2
      have f4 := blk_free k5 4
      have d0 : w5.cell? ⟨w.heap.size + 1, 0, none⟩ = some (.int .i64 0) := blk_cell l5 0 rfl
      have d1 : w5.cell? ⟨w.heap.size + 1, 1, none⟩ = some (.int .i64 0) := blk_cell l5 1 rfl
      have d2 : w5.cell? ⟨w.heap.size + 1, 2, none⟩ = some (.slice none 0 0) := blk_cell l5 2 rfl
      have d3 : w5.cell? ⟨w.heap.size + 1, 3, none⟩ = some (.int .i64 0) := blk_cell l5 3 rfl
      have d4 : w5.cell? ⟨w.heap.size + 1, 4, none⟩ = some (.slice none 0 0) := blk_cell l5 4 rfl
      have g0 := blk_free l5 0
      have g1 := blk_free l5 1
      have g2 := blk_free l5 2
      have g3 := blk_free l5 3
      have g4 := blk_free l5 4
      have R2 := Lib.hid (SlOf.mono E8.mono (hown5.readsF (fun _ _ _ _ h => h)) (hpFrom_mono w5 (B' := w.heap.size + 2) (by omega)))
      have R1 := Lib.hid (SlOf.mono EOw.mono R1.out (hpFrom_below hb5 (w.heap.size + 2)))
      have hBF : Below w.heap.size w w5 := hB.trans (hb5.mono hB.size)
      clear k0 l0 k5 l5 c4 hown5 hb hB
      go_wp2
      refine bodyPost_ret (v := .agg #[.int .i64 r.epoch, .int .i64 r.base, .slice AT r.spans.length cT, .int .i64 r.moving, .slice A5 r.cut.length c5]) (by simp [results, Tryz.results137, go_sem, d0, d1, d2, d3, d4]) rfl ⟨[.int .i64 r.epoch, .int .i64 r.base, .slice AT r.spans.length cT, .int .i64 r.moving, .slice A5 r.cut.length c5], rfl, ⟨_, _, rfl, ?_, ?_⟩, ?_⟩
      · refine SlOf.mono EOw.mono R1.out (Hp.le_trans ?_ (hpFrom_mono _ (B := w.heap.size + 2) (by omega)))
        repeat (refine Hp.le_trans ?_ (hpFrom_set _ (by simp) _))
        exact Hp.le_refl _
      · refine SlOf.mono E8.mono R2.out (Hp.le_trans ?_ (hpFrom_mono _ (B := w.heap.size + 2) (by omega)))
        repeat (refine Hp.le_trans ?_ (hpFrom_set _ (by simp) _))
        exact Hp.le_refl _
      · repeat (refine Below.setCell ?_ (by simp) _)
        exact hBF
end Go.Proofs.YtdinnaijfemmbaaGreatDoor
