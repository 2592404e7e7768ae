/- How an argument's datum is read as lists of plain things: slices, values, ops. -/
import Derived.Test.YtdinnaijfemmbaaGreatDoorData2
import Derived.ProofKit
namespace Go.Proofs.YtdinnaijfemmbaaGreatDoor
open Go.RowKit
set_option maxRecDepth 100000
variable {H : Type} {enc : TypeId × Value → H} {P : Program} {w : World} {base : Nat} {sp : Nat → Bool} {held : Bool}

theorem cells_at {a : Addr} {n : Nat} {cs : List Value} (h : w.cells? base a n = some cs) : cs.length = n ∧ ∀ j u, cs[j]? = some u → w.cell? (a.add j) = some u := by
  unfold World.cells? at h
  split at h
  · refine ⟨by simpa using mapM_some_length h, fun j u hj => ?_⟩
    have hl : j < n := by
      have := (List.getElem?_eq_some_iff.1 hj).1
      have e := mapM_some_length h
      simp at e; omega
    have := mapM_some_get h j j (by simp [hl])
    rw [this]; exact hj
  · cases h

/-- a slice whose elements each read as something -/
theorem slOf_trod {α : Type} {E : Hp → List Value → α → Prop} {t e : TypeId} {sz : Nat} (ht : P.underlying t = some (.slice e)) (hc : P.cellsOf e = sz) (h0 : 0 < sz)
    (hE : ∀ n cs y, DataW.trod enc P w base sp held n e cs = some y → ∃ x, E w.cell? cs x)
    {n : Nat} {v : Value} {x : DataW H × List MemPlace} (h : DataW.trod enc P w base sp held n t [v] = some x) : ∃ l : List α, SlOf E sz w.cell? v l := by
  rcases DataW.trod_slice ht h with ⟨hv, _⟩ | ⟨a, len, cap, elems, rest, m, _, hv, _, _, hl, hm, hlen, hel, _⟩
  · simp at hv; subst hv
    exact ⟨[], none, 0, rfl, by simp, by simp [maxLen], fun k hk => absurd hk (by simp)⟩
  · simp at hv; subst hv
    have key : ∀ i, i < len → ∃ cs x, w.cells? base (a.add (i * sz)) sz = some cs ∧ E w.cell? cs x := fun i hi => by
      have h1 := hel i hi
      rw [hc, List.getElem?_eq_getElem (by omega), Option.bind_eq_some_iff] at h1
      obtain ⟨cs, hcs, htr⟩ := h1
      obtain ⟨x, hx⟩ := hE _ _ _ htr
      exact ⟨cs, x, hcs, hx⟩
    let f : Nat → List Value := fun i => if hi : i < len then (key i hi).choose else []
    have hf : ∀ i (hi : i < len), ∃ x, w.cells? base (a.add (i * sz)) sz = some (f i) ∧ E w.cell? (f i) x := fun i hi => by
      simp only [f, hi, dif_pos]
      exact (key i hi).choose_spec
    let g : Fin len → α := fun i => (hf i.1 i.2).choose
    have hg : ∀ i : Fin len, w.cells? base (a.add (i.1 * sz)) sz = some (f i.1) ∧ E w.cell? (f i.1) (g i) := fun i => (hf i.1 i.2).choose_spec
    refine ⟨List.ofFn g, some a, cap, by simp, by simpa using hl, hm, fun k hk => ?_⟩
    have hk' : k < len := by simpa using hk
    obtain ⟨c0, e0⟩ := cells_at (hg ⟨0, by omega⟩).1
    have hf0 : 0 < (f 0).length := by rw [c0]; exact h0
    have hz := e0 0 _ (List.getElem?_eq_getElem hf0)
    simp only [Nat.zero_mul] at hz
    rw [show (a.add 0).add 0 = a from rfl] at hz
    have hspot := World.cell?_spot hz
    obtain ⟨b, o, spot⟩ := a
    subst hspot
    obtain ⟨ck, ek⟩ := cells_at (hg ⟨k, hk'⟩).1
    refine ⟨b, o, f k, rfl, ck, by simpa using (hg ⟨k, hk'⟩).2, fun j u hj => ?_⟩
    have := ek j u hj
    rwa [Go.WideShapes.add_plain, Go.WideShapes.add_plain] at this

theorem open_u8 (h8 : P.underlying 5 = some (.int .u8)) {n : Nat} {cs : List Value} {y : DataW H × List MemPlace} (h : DataW.trod enc P w base sp held n 5 cs = some y) : ∃ x : UInt8, E8 w.cell? cs x := by
  obtain ⟨k, rfl, _, hw⟩ := DataW.trod_int h8 h
  have hb : 0 ≤ k ∧ k ≤ 255 := by simpa [Lit.wf, IntKind.min, IntKind.max, IntKind.signed, IntKind.bits] using hw
  refine ⟨UInt8.ofNat k.toNat, ?_⟩
  simp only [E8, u8, List.cons.injEq, and_true, Value.int.injEq, true_and]
  rw [UInt8.toNat_ofNat', Nat.mod_eq_of_lt (by omega), Int.toNat_of_nonneg hb.1]

end Go.Proofs.YtdinnaijfemmbaaGreatDoor
