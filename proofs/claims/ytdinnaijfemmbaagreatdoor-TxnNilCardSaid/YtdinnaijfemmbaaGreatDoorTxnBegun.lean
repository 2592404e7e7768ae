/- package txn: begun, of a transaction without ops that is to be committed. -/
import Derived.Test.YtdinnaijfemmbaaGreatDoorTxnPrep
import Derived.Test.YtdinnaijfemmbaaGreatDoorRoute
import Derived.Deep.DeepCutAuto
import Derived.BigRegion
namespace Go.Proofs.YtdinnaijfemmbaaGreatDoor
open Go.RowKit
set_option maxRecDepth 100000
variable {r0 r1 r2 r3 r4 : Value} {w w' : World} {tb wb m0 m1 : Nat} {ph id ver pl : Int}

set_option maxHeartbeats 2000000 in
theorem txn_on_ready (w : World) (h : Idle w tb wb m0 m1 1 id ver r0 r1 r2 r3 r4 0) :
    Calls Tryz.prog 68 #[.pointer (some ⟨tb, 0, none⟩)] w fun e w' => e = .returned (.tuple #[]) ∧ Idle w' tb wb m0 m1 3 id ver r0 r1 r2 r3 r4 0 ∧ Fr (· = tb) w w' := by
  have c0 := h.c0
  have c9 : w.cell? ⟨tb, 9, none⟩ = some (.slice none 0 0) := blk_cell h.blk 9 rfl
  have c10 : w.cell? ⟨tb, 10, none⟩ = some (.slice none 0 0) := blk_cell h.blk 10 rfl
  have c13 : w.cell? ⟨tb, 13, none⟩ = some (.bool false) := blk_cell h.blk 13 rfl
  have c11 : w.cell? ⟨tb, 11, none⟩ = some (.bool true) := blk_cell h.blk 11 rfl
  have h := Lib.hid h
  go_enter Tryz.func68, Tryz.ntmps68
  go_wp2
  refine wp_loop_rounds 1 ?_
  rw [rounds_succ]
  go_wp2
  go_quiet (fail)
  go_wp2_with fail
  refine (txn_prepare_none _ (h.out.below (below_drewN (Below.refl _ _) _))).mono ?_
  rintro e w1 ⟨rfl, h1, hb⟩
  go_wp2
  go_end0
  exact ⟨rfl, h1, (Fr.below (below_drewN (Below.refl _ _) _)).trans hb⟩

/-- the first answer's cells -/
def repc (sb : Nat) : Array Value := #[.int .i64 0, .int .u64 1, .int .i64 0, .bool false, .slice none 0 0, .slice none 0 0, .int .i64 0, .int .i64 1, .slice none 0 0, .slice none 0 0, .int .i64 0, .int .i64 1, .slice (some ⟨sb, 0, none⟩) 1 1, .int .i64 0, .slice none 0 0]
def cat0 : Cat := ⟨0, 1, [], []⟩
theorem cat0_b : CatB cat0 := by constructor <;> simp [cat0]
theorem cat0_reads (h : Hp) : ECat h [.int .i64 0, .int .i64 1, .slice none 0 0, .slice none 0 0] cat0 :=
  ⟨_, _, rfl, ⟨none, 0, rfl, by simp [cat0], by simp [maxLen], fun k hk => absurd hk (by simp [cat0])⟩, ⟨none, 0, rfl, by simp [cat0], by simp [maxLen], fun k hk => absurd hk (by simp [cat0])⟩⟩
def rt0 : Rt := ⟨0, 1, [⟨2, [120]⟩], 0, []⟩

theorem cat0_of {h h' : Hp} {cs : List Value} (r : ECat h cs cat0) : ECat h' cs cat0 := by
  obtain ⟨vt, vi, rfl, ⟨A, c, rfl, h1, h2, _⟩, ⟨A', c', rfl, h1', h2', _⟩⟩ := r
  exact ⟨_, _, rfl, ⟨A, c, rfl, h1, h2, fun k hk => absurd hk (by simp [cat0])⟩, ⟨A', c', rfl, h1', h2', fun k hk => absurd hk (by simp [cat0])⟩⟩
theorem cat0_shape {h : Hp} {cs : List Value} (r : ECat h cs cat0) : ∃ At ct Ai ci, cs = [.int .i64 0, .int .i64 1, .slice At 0 ct, .slice Ai 0 ci] ∧ ∀ h', ECat h' [.int .i64 0, .int .i64 1, .slice At 0 ct, .slice Ai 0 ci] cat0 := by
  have r' := fun h' => cat0_of (h' := h') r
  obtain ⟨vt, vi, rfl, ⟨A, c, rfl, _, _, _⟩, ⟨A', c', rfl, _, _, _⟩⟩ := r
  exact ⟨A, c, A', c', rfl, r'⟩
theorem rt0_shape {h : Hp} {cs : List Value} (r : ERt h cs rt0) : ∃ A c A' c', cs = [.int .i64 0, .int .i64 1, .slice A 1 c, .int .i64 0, .slice A' 0 c'] := by
  obtain ⟨vt, vi, rfl, ⟨A, c, rfl, _, _, _⟩, ⟨A', c', rfl, _, _, _⟩⟩ := r
  exact ⟨A, c, A', c', rfl⟩
structure Held2 (w : World) (tb bx sb : Nat) : Prop where
  t : w.heap[tb]? = some (.cells (txc 1 1 0 (.pointer none) (.int .i64 0) (.int .i64 0) (.slice none 0 0) (.int .i64 0) (.slice none 0 0) true 0) 149 (0, 0))
  r : w.heap[bx]? = some (.cells (repc sb) 75 (0, 0))
theorem Held2.below {bx sb : Nat} (h : Held2 w tb bx sb) (hb : Below w.heap.size w w') : Held2 w' tb bx sb := ⟨below_at hb h.t, below_at hb h.r⟩
theorem Held2.box {bx sb : Nat} (h : Held2 w tb bx sb) : w.cell? ⟨bx, 6, none⟩ = some (.int .i64 0) ∧ w.cell? ⟨bx, 7, none⟩ = some (.int .i64 1) ∧ w.cell? ⟨bx, 8, none⟩ = some (.slice none 0 0) ∧ w.cell? ⟨bx, 9, none⟩ = some (.slice none 0 0) ∧
    w.cell? ⟨bx, 10, none⟩ = some (.int .i64 0) ∧ w.cell? ⟨bx, 11, none⟩ = some (.int .i64 1) ∧ w.cell? ⟨bx, 12, none⟩ = some (.slice (some ⟨sb, 0, none⟩) 1 1) ∧ w.cell? ⟨bx, 13, none⟩ = some (.int .i64 0) ∧ w.cell? ⟨bx, 14, none⟩ = some (.slice none 0 0) :=
  ⟨blk_cell h.r 6 rfl, blk_cell h.r 7 rfl, blk_cell h.r 8 rfl, blk_cell h.r 9 rfl, blk_cell h.r 10 rfl, blk_cell h.r 11 rfl, blk_cell h.r 12 rfl, blk_cell h.r 13 rfl, blk_cell h.r 14 rfl⟩
theorem Held2.txn {bx sb : Nat} (h : Held2 w tb bx sb) : (w.cell? ⟨tb, 3, none⟩ = some (.pointer none) ∧ w.cell? ⟨tb, 4, none⟩ = some (.int .i64 0) ∧ w.cell? ⟨tb, 5, none⟩ = some (.int .i64 0) ∧ w.cell? ⟨tb, 6, none⟩ = some (.slice none 0 0) ∧ w.cell? ⟨tb, 7, none⟩ = some (.int .i64 0) ∧ w.cell? ⟨tb, 8, none⟩ = some (.slice none 0 0)) ∧
    w.frozen? ⟨tb, 3, none⟩ = false ∧ w.frozen? ⟨tb, 4, none⟩ = false ∧ w.frozen? ⟨tb, 5, none⟩ = false ∧ w.frozen? ⟨tb, 6, none⟩ = false ∧ w.frozen? ⟨tb, 7, none⟩ = false ∧ w.frozen? ⟨tb, 8, none⟩ = false :=
  ⟨⟨blk_cell h.t 3 rfl, blk_cell h.t 4 rfl, blk_cell h.t 5 rfl, blk_cell h.t 6 rfl, blk_cell h.t 7 rfl, blk_cell h.t 8 rfl⟩, blk_free h.t 3, blk_free h.t 4, blk_free h.t 5, blk_free h.t 6, blk_free h.t 7, blk_free h.t 8⟩
/-- the work and the routes are stored -/
theorem idle_mk {bx sb : Nat} {a0 a1 a2 a3 a4 v0 v1 v2 v3 : Value} (h : Held2 w tb bx sb) (hk : w.heap[wb]? = some (.cells #[v0, v1, v2, v3, .map (some m0), .slice none 0 0, .map (some m1)] 120 (0, 0))) (h0 : w.heap[m0]? = some (.map #[] 0)) (h1 : w.heap[m1]? = some (.map #[] 0))
    (nw : wb ≠ tb) (n0 : m0 ≠ tb) (n1 : m1 ≠ tb) : Idle ((((((w.setCell ⟨tb, 3, none⟩ (.pointer (some ⟨wb, 0, none⟩))).setCell ⟨tb, 4, none⟩ a0).setCell ⟨tb, 5, none⟩ a1).setCell ⟨tb, 6, none⟩ a2).setCell ⟨tb, 7, none⟩ a3).setCell ⟨tb, 8, none⟩ a4) tb wb m0 m1 1 1 0 a0 a1 a2 a3 a4 0 :=
  ⟨blk_set (blk_set (blk_set (blk_set (blk_set (blk_set h.t 3 _) 4 _) 5 _) 6 _) 7 _) 8 _, ⟨v0, v1, v2, v3, blk_far (blk_far (blk_far (blk_far (blk_far (blk_far hk nw _) nw _) nw _) nw _) nw _) nw _⟩,
    blk_far (blk_far (blk_far (blk_far (blk_far (blk_far h0 n0 _) n0 _) n0 _) n0 _) n0 _) n0 _, blk_far (blk_far (blk_far (blk_far (blk_far (blk_far h1 n1 _) n1 _) n1 _) n1 _) n1 _) n1 _, nw, n0, n1⟩
theorem idle_mk2 {bx sb : Nat} {a0 a1 a2 a3 a4 v0 v1 v2 v3 : Value} (h : Held2 w tb bx sb) (hk : w.heap[wb]? = some (.cells #[v0, v1, v2, v3, .map (some m0), .slice none 0 0, .map (some m1)] 120 (0, 0))) (h0 : w.heap[m0]? = some (.map #[] 0)) (h1 : w.heap[m1]? = some (.map #[] 0))
    (nw : wb ≠ tb) (n0 : m0 ≠ tb) (n1 : m1 ≠ tb) : Idle ((((((w.setCell ⟨tb, 4, none⟩ a0).setCell ⟨tb, 5, none⟩ a1).setCell ⟨tb, 6, none⟩ a2).setCell ⟨tb, 7, none⟩ a3).setCell ⟨tb, 8, none⟩ a4).setCell ⟨tb, 3, none⟩ (.pointer (some ⟨wb, 0, none⟩))) tb wb m0 m1 1 1 0 a0 a1 a2 a3 a4 0 :=
  ⟨blk_set (blk_set (blk_set (blk_set (blk_set (blk_set h.t 4 _) 5 _) 6 _) 7 _) 8 _) 3 _, ⟨v0, v1, v2, v3, blk_far (blk_far (blk_far (blk_far (blk_far (blk_far hk nw _) nw _) nw _) nw _) nw _) nw _⟩,
    blk_far (blk_far (blk_far (blk_far (blk_far (blk_far h0 n0 _) n0 _) n0 _) n0 _) n0 _) n0 _, blk_far (blk_far (blk_far (blk_far (blk_far (blk_far h1 n1 _) n1 _) n1 _) n1 _) n1 _) n1 _, nw, n0, n1⟩

set_option maxHeartbeats 4000000 in
theorem txn_begun_first (w : World) (sb : Nat) (hblk : w.heap[tb]? = some (.cells (txc 0 0 0 (.pointer none) (.int .i64 0) (.int .i64 0) (.slice none 0 0) (.int .i64 0) (.slice none 0 0) true 0) 149 (0, 0)))
    (hsp : SlOf EOw 2 (hpFrom w (tb + 1)) (.slice (some ⟨sb, 0, none⟩) 1 1) [⟨2, [120]⟩]) :
    Calls Tryz.prog 78 #[.pointer (some ⟨tb, 0, none⟩), .agg (repc sb)] w fun e w' => ∃ wb m0 m1 a0 a1 a2 a3 a4, e = .returned (.tuple #[]) ∧ Idle w' tb wb m0 m1 3 1 0 a0 a1 a2 a3 a4 0 ∧ Fr (· = tb) w w' := by
  have htb := blk_lt hblk
  have hr : ∀ w', Fr (· = tb) w w' → ERt w'.cell? [.int .i64 0, .int .i64 1, .slice (some ⟨sb, 0, none⟩) 1 1, .int .i64 0, .slice none 0 0] rt0 := fun w' hw' =>
    ⟨_, _, rfl, SlOf.mono EOw.mono hsp (fun a u e => by
      unfold hpFrom at e
      split at e
      · exact hw'.cell (by omega) e
      · cases e), RBytes.none_ _⟩
  have hr := Lib.hid hr
  have c0 : w.cell? ⟨tb, 0, none⟩ = some (.int .i64 0) := blk_cell hblk 0 rfl
  have c1 : w.cell? ⟨tb, 1, none⟩ = some (.int .u64 0) := blk_cell hblk 1 rfl
  have c2 : w.cell? ⟨tb, 2, none⟩ = some (.int .i64 0) := blk_cell hblk 2 rfl
  have f0 := blk_free hblk 0
  have f1 := blk_free hblk 1
  have f2 := blk_free hblk 2
  have kb : (w.alloc (.cells (repc sb) 75)).heap[tb]? = _ := (Below.heap_alloc w _ tb htb).trans hblk
  have kr : (w.alloc (.cells (repc sb) 75)).heap[w.heap.size]? = _ := heap_alloc_new w _
  simp only [repc] at kb kr ⊢
  have kb := Lib.hid kb
  have kr := Lib.hid kr
  clear hsp hblk
  go_enter Tryz.func78, Tryz.ntmps78
  go_upto_region 3 with fail
  obtain ⟨W, hW⟩ : ∃ W, w.alloc (.cells #[.int .i64 0, .int .u64 1, .int .i64 0, .bool false, .slice none 0 0, .slice none 0 0, .int .i64 0, .int .i64 1, .slice none 0 0, .slice none 0 0, .int .i64 0, .int .i64 1, .slice (some ⟨sb, 0, none⟩) 1 1, .int .i64 0, .slice none 0 0] 75) = W := ⟨_, rfl⟩
  have kbW := hW ▸ kb.out
  have krW := hW ▸ kr.out
  have frW : Fr (fun k => k = tb) w W := hW ▸ (Fr.refl _ w).alloc _
  rw [hW]
  have e0 : W.cell? ⟨tb, 0, none⟩ = some (.int .i64 0) := blk_cell kbW 0 rfl
  have e1 : W.cell? ⟨tb, 1, none⟩ = some (.int .u64 0) := blk_cell kbW 1 rfl
  have e2 : W.cell? ⟨tb, 2, none⟩ = some (.int .i64 0) := blk_cell kbW 2 rfl
  have p1 : W.cell? ⟨w.heap.size, 1, none⟩ = some (.int .u64 1) := blk_cell krW 1 rfl
  have p6 : W.cell? ⟨w.heap.size, 6, none⟩ = some (.int .i64 0) := blk_cell krW 6 rfl
  have q0 := blk_free kbW 0
  have q1 := blk_free kbW 1
  have q2 := blk_free kbW 2
  have kbW := Lib.hid kbW
  have krW := Lib.hid krW
  clear hW c0 c1 c2 f0 f1 f2 kb kr
  go_cut [] (fun wx => wx.heap[tb]? = some (.cells (txc 1 1 0 (.pointer none) (.int .i64 0) (.int .i64 0) (.slice none 0 0) (.int .i64 0) (.slice none 0 0) true 0) 149 (0, 0)) ∧ wx.heap[w.heap.size]? = some (.cells #[.int .i64 0, .int .u64 1, .int .i64 0, .bool false, .slice none 0 0, .slice none 0 0, .int .i64 0, .int .i64 1, .slice none 0 0, .slice none 0 0, .int .i64 0, .int .i64 1, .slice (some ⟨sb, 0, none⟩) 1 1, .int .i64 0, .slice none 0 0] 75 (0, 0)) ∧ Fr (fun k => k = tb) w wx)
  case first =>
    go_region
    go_wp2_with fail
    go_meet
    refine ⟨?_, ?_, ?_⟩
    · have h := blk_set (blk_set (blk_set kbW.out 0 (.int .i64 1)) 1 (.int .u64 1)) 2 (.int .i64 0)
      exact h
    · have hne : w.heap.size ≠ tb := by omega
      have h := blk_far (p := ⟨tb, 2, none⟩) (blk_far (p := ⟨tb, 1, none⟩) (blk_far (p := ⟨tb, 0, none⟩) krW.out hne (.int .i64 1)) hne (.int .u64 1)) hne (.int .i64 0)
      exact h
    · exact (((frW.setCell (p := ⟨tb, 0, none⟩) (.inl rfl) _).setCell (p := ⟨tb, 1, none⟩) (.inl rfl) _).setCell (p := ⟨tb, 2, none⟩) (.inl rfl) _).drew
  case rest =>
    obtain ⟨h1, h2, h3⟩ := hcut
    have kD : Held2 wc tb w.heap.size sb := ⟨h1, h2⟩
    clear h1 h2 kbW krW frW e0 e1 e2 p1 p6 q0 q1 q2
    go_wp2_with fail
    obtain ⟨x6, x7, x8, x9, x10, x11, x12, x13, x14⟩ := kD.box
    obtain ⟨⟨t3, t4, t5, t6, t7, t8⟩, g3, g4, g5, g6, g7, g8⟩ := kD.txn
    have kX : Held2 wc.drew tb w.heap.size sb := ⟨kD.t, kD.r⟩
    have fX : Fr (fun k => k = tb) w wc.drew := h3.drew
    go_cut [] (fun wx => ∃ wb m0 m1 a0 a1 a2 a3 a4, Idle wx tb wb m0 m1 1 1 0 a0 a1 a2 a3 a4 0 ∧ Fr (fun k => k = tb) w wx)
    case first =>
      go_region_with (first
        | (go_at_call 84; refine (schema_Own cat0 cat0_b _ _ (cat0_reads _)).mono ?_; rintro e wA ⟨csA, rfl, hA, hbA⟩; obtain ⟨AtA, ctA, AiA, ciA, rfl, hA2⟩ := cat0_shape hA; clear hA; have hA2 := Lib.hid hA2; have kA := Held2.below (by assumption) hbA; have fA := Fr.trans (by assumption) (Fr.below (S := fun k => k = tb) hbA); obtain ⟨y6, y7, y8, y9, y10, y11, y12, y13, y14⟩ := kA.box; obtain ⟨⟨z3, z4, z5, z6, z7, z8⟩, i3, i4, i5, i6, i7, i8⟩ := kA.txn)
        | (go_at_call 38; refine (ops_New cat0 cat0_b _ _ (hA2.out _)).mono ?_; rintro e wB ⟨B, v0, v1, v2, v3, rfl, hB1, _, n0, n1, nk, hsB, hbB⟩; have hsB := Lib.hid hsB; have n0 := Lib.hid n0; have n1 := Lib.hid n1; have nk := Lib.hid nk; have kB := Held2.below (by assumption) hbB; have fB := Fr.trans (by assumption) (Fr.below (S := fun k => k = tb) hbB); have hBt : tb < B := (by first | (have := fA.size; omega) | (have := fC.size; omega)); obtain ⟨y6, y7, y8, y9, y10, y11, y12, y13, y14⟩ := kB.box; obtain ⟨⟨z3, z4, z5, z6, z7, z8⟩, i3, i4, i5, i6, i7, i8⟩ := kB.txn)
        | (go_at_call 137; refine (route_Own rt0 _ _ (hr.out _ (by assumption)) (by simp [rt0]) (by simp [rt0]) (by simp [rt0])).mono ?_; rintro e wC ⟨csC, rfl, hC, hbC⟩; obtain ⟨AsC, c1C, AcC, c2C, rfl⟩ := rt0_shape hC; clear hC; have kC := Held2.below (by assumption) hbC; have fC := Fr.trans (by assumption) (Fr.below (S := fun k => k = tb) hbC); obtain ⟨y6, y7, y8, y9, y10, y11, y12, y13, y14⟩ := kC.box; obtain ⟨⟨z3, z4, z5, z6, z7, z8⟩, i3, i4, i5, i6, i7, i8⟩ := kC.txn))
      all_goals
        go_wp2_with fail
        go_meet
        exact ⟨B + 2, B, B + 1, _, _, _, _, _, idle_mk kC (below_at hbC nk.out) (below_at hbC n0.out) (below_at hbC n1.out) (by omega) (by omega) (by omega), (((((fC.setCell (p := ⟨tb, 3, none⟩) (.inl rfl) _).setCell (p := ⟨tb, 4, none⟩) (.inl rfl) _).setCell (p := ⟨tb, 5, none⟩) (.inl rfl) _).setCell (p := ⟨tb, 6, none⟩) (.inl rfl) _).setCell (p := ⟨tb, 7, none⟩) (.inl rfl) _).setCell (p := ⟨tb, 8, none⟩) (.inl rfl) _⟩
    case rest =>
      obtain ⟨wb, m0, m1, a0, a1, a2, a3, a4, hI, hf⟩ := hcut
      clear x6 x7 x8 x9 x10 x11 x12 x13 x14 t3 t4 t5 t6 t7 t8 g3 g4 g5 g6 g7 g8
      have hI := Lib.hid hI
      go_wp2_with fail
      refine (txn_on_ready _ hI.out).mono ?_
      rintro e w9 ⟨rfl, h9, f9⟩
      go_wp2
      go_end0
      exact ⟨wb, m0, m1, a0, a1, a2, a3, a4, rfl, h9, hf.trans f9⟩
end Go.Proofs.YtdinnaijfemmbaaGreatDoor
