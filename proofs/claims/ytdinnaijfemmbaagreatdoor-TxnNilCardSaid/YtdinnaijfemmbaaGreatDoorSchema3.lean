/- package schema, on: Table -/
import Derived.Test.YtdinnaijfemmbaaGreatDoorSchema2
namespace Go.Proofs.YtdinnaijfemmbaaGreatDoor
open Go.RowKit
set_option maxRecDepth 100000

/-- two texts alike -/
def sEq (a b : ByteArray) : Bool := a.toList == b.toList

theorem schema_Table1 (t : Tab) (cs : List Value) (name : ByteArray) (g : Nat) (w : World) (ht : ETab w.cell? cs t) (hn : w.cell? ⟨g, 0, none⟩ = some (.string name)) :
    Calls Tryz.prog 159 #[.agg cs.toArray, .pointer (some ⟨g, 0, none⟩)] w fun e w' => e = .returned (.bool (sEq t.name name)) ∧ Below w.heap.size w w' := by
  obtain ⟨vc, vk, rfl, _, _⟩ := ht
  have hn' : ∀ o, (w.alloc o).cell? ⟨g, 0, none⟩ = some (.string name) := fun o => alloc_keeps hn
  go_enter Tryz.func159, Tryz.ntmps159
  go_wp2
  go_ret
  exact ⟨rfl, (Below.refl _ _).alloc (Nat.le_refl _) _⟩

theorem table1_in : ∀ args w, (callFunc 159 args).run Tryz.prog w = .ok (.enter 159 args) w :=
  fun args w => run_enter Tryz.func159 (by kernel_rfl) rfl args w

/-- the table of a name -/
def tabOf (c : Cat) (name : ByteArray) : Option Tab := c.tabs.find? fun t => sEq t.name name
theorem tabOf_none {c : Cat} {name : ByteArray} (h : idx (fun t : Tab => sEq t.name name) c.tabs < 0) : tabOf c name = none := by
  unfold idx at h
  split at h
  · rename_i k hk; omega
  · rename_i hk
    rw [tabOf, List.find?_eq_none]
    intro x hx
    have := List.findIdx?_eq_none_iff.1 hk x hx
    simp [this]
theorem tabOf_some {c : Cat} {name : ByteArray} {k : Nat} (h : idx (fun t : Tab => sEq t.name name) c.tabs = k) : ∃ hk : k < c.tabs.length, tabOf c name = some c.tabs[k] := by
  unfold idx at h
  split at h
  · rename_i j hj
    have : j = k := by omega
    subst this
    obtain ⟨hk, hp, hno⟩ := List.findIdx?_eq_some_iff_getElem.1 hj
    refine ⟨hk, ?_⟩
    rw [tabOf, List.find?_eq_some_iff_getElem]
    exact ⟨hp, j, hk, rfl, fun i hi => by simpa using hno i hi⟩
  · omega
/-- a catalog whose parts are not too great -/
structure CatB (c : Cat) : Prop where
  tabs : c.tabs.length ≤ 65536
  idxs : c.idxs.length ≤ 65536
  cols : ∀ t ∈ c.tabs, t.cols.length ≤ 65536
  key : ∀ t ∈ c.tabs, t.key.length ≤ 65536
  icols : ∀ x ∈ c.idxs, x.cols.length ≤ 65536

theorem schema_Table_none (c : Cat) (cs : List Value) (name : ByteArray) (w : World) (hc : ECat w.cell? cs c) (hn : tabOf c name = none) :
    Calls Tryz.prog 93 #[.agg cs.toArray, .string name] w fun e w' => (∃ ts, e = .returned (.tuple #[.agg ts, .bool false])) ∧ Below w.heap.size w w' := by
  obtain ⟨vt, vi, rfl, ht, hi⟩ := hc
  obtain ⟨At, ct, rfl⟩ := ht.shape
  have HI := Lib.hid (fun w' (h : Below w.heap.size w w') g (hg : g < w'.heap.size) (hs : w'.cell? ⟨g, 0, none⟩ = some (.string name)) =>
    indexFunc_Tab 159 #[.pointer (some ⟨g, 0, none⟩)] (fun t => sEq t.name name) _ c.tabs w' (ht.mono (below_hle h)) table1_in (fun x cs w'' hb hx => schema_Table1 x cs name g w'' hx (below_hle hb _ _ hs)))
  have hneg : idx (fun t : Tab => sEq t.name name) c.tabs < 0 := by
    rcases Int.lt_or_le (idx (fun t : Tab => sEq t.name name) c.tabs) 0 with h | h
    · exact h
    · obtain ⟨k, hk⟩ := Int.eq_ofNat_of_zero_le h
      obtain ⟨_, h2⟩ := tabOf_some hk
      rw [hn] at h2; cases h2
  clear ht hi
  have hn := Lib.hid hn
  have hB0 : Below w.heap.size w (((w.alloc (.cells #[.int .i64 c.version, .int .i64 c.next, .slice At c.tabs.length ct, vi] 60)).alloc (.cells #[.string name] 9)).alloc (.cells #[.int .i64 0, .string ⟨#[]⟩, .slice none 0 0, .slice none 0 0] 80)) := ((((Below.refl _ _).alloc (Nat.le_refl _) _).alloc (by simp) _).alloc (by simp <;> omega) _)
  have l0 : (((w.alloc (.cells #[.int .i64 c.version, .int .i64 c.next, .slice At c.tabs.length ct, vi] 60)).alloc (.cells #[.string name] 9)).alloc (.cells #[.int .i64 0, .string ⟨#[]⟩, .slice none 0 0, .slice none 0 0] 80)).heap[w.heap.size + 2]? = some (.cells #[.int .i64 0, .string ⟨#[]⟩, .slice none 0 0, .slice none 0 0] 80 (0, 0)) := by
    have := heap_alloc_new ((w.alloc (.cells #[.int .i64 c.version, .int .i64 c.next, .slice At c.tabs.length ct, vi] 60)).alloc (.cells #[.string name] 9)) (.cells #[.int .i64 0, .string ⟨#[]⟩, .slice none 0 0, .slice none 0 0] 80)
    simpa using this
  have n0 : (((w.alloc (.cells #[.int .i64 c.version, .int .i64 c.next, .slice At c.tabs.length ct, vi] 60)).alloc (.cells #[.string name] 9)).alloc (.cells #[.int .i64 0, .string ⟨#[]⟩, .slice none 0 0, .slice none 0 0] 80)).cell? ⟨w.heap.size + 1, 0, none⟩ = some (.string name) := alloc_keeps (by simp)
  have l0 := Lib.hid l0
  have n0 := Lib.hid n0
  go_enter Tryz.func93, Tryz.ntmps93
  go_wp2_with fail
  refine (HI.out _ hB0 _ (by simp <;> omega) n0.out).mono ?_
  rintro e w1 ⟨rfl, hb1⟩
  have l1 := (hb1.block (w.heap.size + 2) (by simp)).trans l0.out
  have d0 : w1.cell? ⟨w.heap.size + 1 + 1, 0, none⟩ = some (.int .i64 0) := blk_cell l1 0 rfl
  have d1 : w1.cell? ⟨w.heap.size + 1 + 1, 1, none⟩ = some (.string ⟨#[]⟩) := blk_cell l1 1 rfl
  have d2 : w1.cell? ⟨w.heap.size + 1 + 1, 2, none⟩ = some (.slice none 0 0) := blk_cell l1 2 rfl
  have d3 : w1.cell? ⟨w.heap.size + 1 + 1, 3, none⟩ = some (.slice none 0 0) := blk_cell l1 3 rfl
  have g0 := blk_free l1 0
  have g1 := blk_free l1 1
  have g2 := blk_free l1 2
  have g3 := blk_free l1 3
  have hBF : Below w.heap.size w w1 := hB0.trans (hb1.mono hB0.size)
  clear l1
  go_wp2
  refine bodyPost_ret (v := .tuple #[.agg #[.int .i64 0, .string ⟨#[]⟩, .slice none 0 0, .slice none 0 0], .bool false]) (by simp [results, Tryz.results93, go_sem, d0, d1, d2, d3]) rfl ⟨⟨_, rfl⟩, ?_⟩
  repeat (refine Below.setCell ?_ (by simp <;> omega) _)
  exact hBF

theorem schema_Table_some (c : Cat) (hcb : CatB c) (cs : List Value) (name : ByteArray) (t : Tab) (w : World) (hc : ECat w.cell? cs c) (hn : tabOf c name = some t) :
    Calls Tryz.prog 93 #[.agg cs.toArray, .string name] w fun e w' => ∃ ts, e = .returned (.tuple #[.agg ts.toArray, .bool true]) ∧ ETab (hpFrom w' w.heap.size) ts t ∧ Below w.heap.size w w' := by
  obtain ⟨vt, vi, rfl, ht, hi⟩ := hc
  obtain ⟨At, ct, rfl, hlt, hct, hcells⟩ := ht
  have ht : RTabs w.cell? (.slice At c.tabs.length ct) c.tabs := ⟨At, ct, rfl, hlt, hct, hcells⟩
  unfold maxLen at hct
  have HI := Lib.hid (fun w' (h : Below w.heap.size w w') g (hg : g < w'.heap.size) (hs : w'.cell? ⟨g, 0, none⟩ = some (.string name)) =>
    indexFunc_Tab 159 #[.pointer (some ⟨g, 0, none⟩)] (fun t => sEq t.name name) _ c.tabs w' (ht.mono (below_hle h)) table1_in (fun x cs w'' hb hx => schema_Table1 x cs name g w'' hx (below_hle hb _ _ hs)))
  obtain ⟨k, hk⟩ : ∃ k : Nat, idx (fun t : Tab => sEq t.name name) c.tabs = k := by
    rcases Int.lt_or_le (idx (fun t : Tab => sEq t.name name) c.tabs) 0 with h | h
    · rw [tabOf_none h] at hn; cases hn
    · exact Int.eq_ofNat_of_zero_le h
  obtain ⟨hkl, hkt⟩ := tabOf_some hk
  obtain rfl : c.tabs[k] = t := by rw [hn] at hkt; exact (Option.some.inj hkt).symm
  obtain ⟨b, o, vc, vk, rfl, r1, r2, c0, c1, c2, c3⟩ := Tab.at_ hcells hkl
  have HO := Lib.hid (fun w' (h : Below w.heap.size w w') => schema_ownTable c.tabs[k] [.int .i64 c.tabs[k].id, .string c.tabs[k].name, vc, vk] w' ⟨vc, vk, rfl, r1.mono (below_hle h), r2.mono (below_hle h)⟩ (by have := hcb.cols _ (List.getElem_mem hkl); omega) (by have := hcb.key _ (List.getElem_mem hkl); omega))
  clear hi hcells ht r1 r2
  have hn := Lib.hid hn
  have hkt := Lib.hid hkt
  have hk := Lib.hid hk
  have hB0 : Below w.heap.size w (((w.alloc (.cells #[.int .i64 c.version, .int .i64 c.next, .slice (some ⟨b, o, none⟩) c.tabs.length ct, vi] 60)).alloc (.cells #[.string name] 9)).alloc (.cells #[.int .i64 0, .string ⟨#[]⟩, .slice none 0 0, .slice none 0 0] 80)) := ((((Below.refl _ _).alloc (Nat.le_refl _) _).alloc (by simp) _).alloc (by simp <;> omega) _)
  have l0 : (((w.alloc (.cells #[.int .i64 c.version, .int .i64 c.next, .slice (some ⟨b, o, none⟩) c.tabs.length ct, vi] 60)).alloc (.cells #[.string name] 9)).alloc (.cells #[.int .i64 0, .string ⟨#[]⟩, .slice none 0 0, .slice none 0 0] 80)).heap[w.heap.size + 2]? = some (.cells #[.int .i64 0, .string ⟨#[]⟩, .slice none 0 0, .slice none 0 0] 80 (0, 0)) := by
    have := heap_alloc_new ((w.alloc (.cells #[.int .i64 c.version, .int .i64 c.next, .slice (some ⟨b, o, none⟩) c.tabs.length ct, vi] 60)).alloc (.cells #[.string name] 9)) (.cells #[.int .i64 0, .string ⟨#[]⟩, .slice none 0 0, .slice none 0 0] 80)
    simpa using this
  have n0 : (((w.alloc (.cells #[.int .i64 c.version, .int .i64 c.next, .slice (some ⟨b, o, none⟩) c.tabs.length ct, vi] 60)).alloc (.cells #[.string name] 9)).alloc (.cells #[.int .i64 0, .string ⟨#[]⟩, .slice none 0 0, .slice none 0 0] 80)).cell? ⟨w.heap.size + 1, 0, none⟩ = some (.string name) := alloc_keeps (by simp)
  have m0 : (((w.alloc (.cells #[.int .i64 c.version, .int .i64 c.next, .slice (some ⟨b, o, none⟩) c.tabs.length ct, vi] 60)).alloc (.cells #[.string name] 9)).alloc (.cells #[.int .i64 0, .string ⟨#[]⟩, .slice none 0 0, .slice none 0 0] 80)).cell? ⟨w.heap.size, 2, none⟩ = some (.slice (some ⟨b, o, none⟩) c.tabs.length ct) := alloc_keeps (alloc_keeps (by simp))
  have l0 := Lib.hid l0
  have n0 := Lib.hid n0
  have m0 := Lib.hid m0
  go_enter Tryz.func93, Tryz.ntmps93
  go_wp2_with fail
  refine (HI.out _ hB0 _ (by simp <;> omega) n0.out).mono ?_
  rintro e w1 ⟨rfl, hb1⟩
  rw [hk.out]
  have hB1 : Below w.heap.size w w1 := hB0.trans (hb1.mono hB0.size)
  have l1 := Lib.hid ((hb1.block (w.heap.size + 2) (by simp)).trans l0.out)
  have m1 := below_hle hb1 _ _ m0.out
  have c0 := below_hle hB1 _ _ c0
  have c1 := below_hle hB1 _ _ c1
  have c2 := below_hle hB1 _ _ c2
  have c3 := below_hle hB1 _ _ c3
  have hkl' : (k : Int) < (c.tabs.length : Int) := by omega
  go_wp2_with fail
  refine (HO.out w1 hB1).mono ?_
  rintro e w2 ⟨ts, rfl, hts, hb2⟩
  have hB2 : Below w.heap.size w w2 := hB1.trans (hb2.mono hB1.size)
  obtain ⟨vc2, vk2, rfl, q1, q2⟩ := hts
  obtain ⟨Ac2, cc2, rfl⟩ := q1.shape
  obtain ⟨Ak2, ck2, rfl⟩ := q2.shape
  have l2 := (hb2.block (w.heap.size + 2) (blk_lt l1.out)).trans l1.out
  have hlt1 := blk_lt l1.out
  have d0 : w2.cell? ⟨w.heap.size + 1 + 1, 0, none⟩ = some (.int .i64 0) := blk_cell l2 0 rfl
  have d1 : w2.cell? ⟨w.heap.size + 1 + 1, 1, none⟩ = some (.string ⟨#[]⟩) := blk_cell l2 1 rfl
  have d2 : w2.cell? ⟨w.heap.size + 1 + 1, 2, none⟩ = some (.slice none 0 0) := blk_cell l2 2 rfl
  have d3 : w2.cell? ⟨w.heap.size + 1 + 1, 3, none⟩ = some (.slice none 0 0) := blk_cell l2 3 rfl
  have g0 := blk_free l2 0
  have g1 := blk_free l2 1
  have g2 := blk_free l2 2
  have g3 := blk_free l2 3
  have q1 := Lib.hid q1
  have q2 := Lib.hid q2
  clear l2
  go_wp2
  refine bodyPost_ret (v := .tuple #[.agg #[.int .i64 c.tabs[k].id, .string c.tabs[k].name, .slice Ac2 c.tabs[k].cols.length cc2, .slice Ak2 c.tabs[k].key.length ck2], .bool true]) (by simp [results, Tryz.results93, go_sem, d0, d1, d2, d3]) rfl ⟨[.int .i64 c.tabs[k].id, .string c.tabs[k].name, .slice Ac2 c.tabs[k].cols.length cc2, .slice Ak2 c.tabs[k].key.length ck2], rfl, ⟨_, _, rfl, ?_, ?_⟩, ?_⟩
  · refine SlOf.mono ECol.mono q1.out (Hp.le_trans ?_ (hpFrom_mono _ (B := w1.heap.size) hB1.size))
    repeat (refine Hp.le_trans ?_ (hpFrom_set _ (by simp <;> omega) _))
    exact Hp.le_refl _
  · refine SlOf.mono EInt.mono q2.out (Hp.le_trans ?_ (hpFrom_mono _ (B := w1.heap.size) hB1.size))
    repeat (refine Hp.le_trans ?_ (hpFrom_set _ (by simp <;> omega) _))
    exact Hp.le_refl _
  · repeat (refine Below.setCell ?_ (by simp <;> omega) _)
    exact hB2
end Go.Proofs.YtdinnaijfemmbaaGreatDoor
