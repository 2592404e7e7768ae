/- package ops: New -/
import Derived.Test.YtdinnaijfemmbaaGreatDoorOwn
namespace Go.Proofs.YtdinnaijfemmbaaGreatDoor
open Go.RowKit
set_option maxRecDepth 100000

/-- what is read from new blocks is read from those below the next one, whatever comes behind -/
theorem hpFrom_ok {w w' : World} {B0 B : Nat} (h : B0 ≤ B) (hb : Below w.heap.size w w') : (hpFrom w B).le (hpOk (fun b => decide (B0 ≤ b ∧ b < w.heap.size)) w') := fun a u e => by
  unfold hpFrom at e
  split at e
  · rename_i h1
    have := World.block_lt_of_cell? w a e
    unfold hpOk
    rw [if_pos (by simp; omega)]
    exact below_hle hb _ _ e
  · cases e

set_option maxHeartbeats 4000000 in
theorem ops_New (c : Cat) (hcb : CatB c) (cs : List Value) (w : World) (hc : ECat w.cell? cs c) :
    Calls Tryz.prog 38 #[.agg cs.toArray] w fun e w' => ∃ B v0 v1 v2 v3, e = .returned (.pointer (some ⟨B + 2, 0, none⟩)) ∧ w.heap.size ≤ B ∧ ECat (hpOk (fun b => decide (w.heap.size ≤ b ∧ b < B)) w') [v0, v1, v2, v3] c ∧
      w'.heap[B]? = some (.map #[] 0) ∧ w'.heap[B + 1]? = some (.map #[] 0) ∧ w'.heap[B + 2]? = some (.cells #[v0, v1, v2, v3, .map (some B), .slice none 0 0, .map (some (B + 1))] 120 (0, 0)) ∧ w'.heap.size = B + 3 ∧ Below w.heap.size w w' := by
  have HO := Lib.hid (fun w' (h : Below w.heap.size w w') => schema_Own c hcb cs w' (ECat.mono _ _ _ _ hc (below_hle h)))
  obtain ⟨vt, vi, rfl, htb, hix⟩ := hc
  obtain ⟨At, ct, rfl⟩ := htb.shape
  obtain ⟨Ai, ci, rfl⟩ := hix.shape
  clear htb hix
  have hmm := @run_makeMap Tryz.prog
  go_enter Tryz.func38, Tryz.ntmps38
  go_wp2_with fail
  refine (HO.out _ ((Below.refl _ _).alloc (Nat.le_refl _) _)).mono ?_
  rintro e w1 ⟨cs', rfl, hc', hb⟩
  obtain ⟨vt', vi', rfl, htb', hix'⟩ := hc'
  obtain ⟨At', ct', rfl⟩ := htb'.shape
  obtain ⟨Ai', ci', rfl⟩ := hix'.shape
  have htb' := Lib.hid htb'
  have hix' := Lib.hid hix'
  go_wp2
  have hb1 : Below w.heap.size w w1 := ((Below.refl _ _).alloc (Nat.le_refl _) _).trans (hb.mono (by simp))
  have hs1 := hb.size
  simp at hs1
  obtain ⟨w2, hw2⟩ : ∃ w2, ((w1.alloc (.map #[] 0)).alloc (.map #[] 0)) = w2 := ⟨_, rfl⟩
  have hb2 : Below w1.heap.size w1 w2 := by rw [← hw2]; exact ((Below.refl _ _).alloc (Nat.le_refl _) _).alloc (by simp) _
  have hs2 : w2.heap.size = w1.heap.size + 2 := by rw [← hw2]; simp
  have hm0 : w2.heap[w1.heap.size]? = some (.map #[] 0) := by rw [← hw2]; exact (Below.heap_alloc _ _ _ (by simp)).trans (heap_alloc_new w1 _)
  have hm1 : w2.heap[w1.heap.size + 1]? = some (.map #[] 0) := by rw [← hw2]; have := heap_alloc_new (w1.alloc (.map #[] 0)) (.map #[] 0); rwa [World.size_alloc] at this
  rw [hw2]
  have hs2 := Lib.hid hs2
  have hm0 := Lib.hid hm0
  have hm1 := Lib.hid hm1
  clear hw2
  go_ret
  have hF : Below w1.heap.size w1 (w2.alloc (.cells #[.int .i64 c.version, .int .i64 c.next, .slice At' c.tabs.length ct', .slice Ai' c.idxs.length ci', .map (some w1.heap.size), .slice none 0 0, .map (some (w1.heap.size + 1))] 120)) := hb2.alloc (by have := hs2.out; omega) _
  refine ⟨w1.heap.size, .int .i64 c.version, .int .i64 c.next, .slice At' c.tabs.length ct', .slice Ai' c.idxs.length ci', rfl, by omega, ⟨_, _, rfl, htb'.out.mono (hpFrom_ok (by simp) hF), hix'.out.mono (hpFrom_ok (by simp) hF)⟩, (Below.heap_alloc _ _ _ (by have := hs2.out; omega)).trans hm0.out, (Below.heap_alloc _ _ _ (by have := hs2.out; omega)).trans hm1.out, ?_, by simp [hs2.out], hb1.trans (hF.mono (by omega))⟩
  have := heap_alloc_new w2 (.cells #[.int .i64 c.version, .int .i64 c.next, .slice At' c.tabs.length ct', .slice Ai' c.idxs.length ci', .map (some w1.heap.size), .slice none 0 0, .map (some (w1.heap.size + 1))] 120)
  rwa [hs2.out] at this
end Go.Proofs.YtdinnaijfemmbaaGreatDoor
