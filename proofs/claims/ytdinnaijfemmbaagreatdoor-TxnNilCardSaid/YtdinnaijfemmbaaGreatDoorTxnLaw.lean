/- TxnNil: from the walk to the row's form. -/
import Derived.Test.YtdinnaijfemmbaaGreatDoorTxnFits
import Derived.Test.YtdinnaijfemmbaaGreatDoorOpen
import Derived.Test.YtdinnaijfemmbaaGreatDoorFrame
import Derived.Test.YtdinnaijfemmbaaGreatDoorCards
import Derived.Test.YtdinnaijfemmbaaGreatDoorTie
import Derived.LaidMore
import Derived.OpenShut
import Derived.Stop.Joined
namespace Go.Proofs.YtdinnaijfemmbaaGreatDoor
open Go.ChangeShapes Go.WideShapes Go.ChangeAt Go.RowKit
set_option maxRecDepth 100000

theorem arr11 (a : Array Value) (h : a.size = 11) : ∃ p0 p1 p2 p3 p4 p5 p6 p7 p8 p9 p10 : Value, a = #[p0, p1, p2, p3, p4, p5, p6, p7, p8, p9, p10] := by
  obtain ⟨l⟩ := a
  match l, h with
  | [p0, p1, p2, p3, p4, p5, p6, p7, p8, p9, p10], _ => exact ⟨p0, p1, p2, p3, p4, p5, p6, p7, p8, p9, p10, rfl⟩

section
variable {H : Type} {enc : TypeId × Value → H} {w : World} {base : Nat} {sp : Nat → Bool} {held : Bool}
theorem slice_shape {P : Program} {t e : TypeId} (ht : P.underlying t = some (.slice e)) {n : Nat} {v : Value} {x : DataW H × List MemPlace} (h : DataW.trod enc P w base sp held n t [v] = some x) : ∃ A k c, v = .slice A k c ∧ k ≤ maxLen := by
  rcases DataW.trod_slice ht h with ⟨hv, _⟩ | ⟨a, len, cap, elems, rest, m, _, hv, _, _, hl, hm, _⟩
  · simp at hv; exact ⟨none, 0, 0, hv, by simp [maxLen]⟩
  · simp at hv; exact ⟨some a, len, cap, hv, by omega⟩

theorem open_op {n : Nat} {oc : Array Value} {x : DataW H × List MemPlace} (h : DataW.trod enc Tryz.prog w base sp held n 26 oc.toList = some x) (hs : oc.size = 11) : OpShape w oc := by
  obtain ⟨o0, o1, o2, o3, o4, o5, o6, o7, o8, o9, o10, rfl⟩ := arr11 oc hs
  have c3 : Tryz.prog.cellsOf 3 = 1 := by kernel_rfl
  have c9 : Tryz.prog.cellsOf 9 = 1 := by kernel_rfl
  have c4 : Tryz.prog.cellsOf 4 = 1 := by kernel_rfl
  have cv : Tryz.prog.cellsOf 22 = 1 := by kernel_rfl
  have cs : Tryz.prog.cellsOf 23 = 1 := by kernel_rfl
  have cn : Tryz.prog.cellsOf 24 = 1 := by kernel_rfl
  have cb : Tryz.prog.cellsOf 27 = 1 := by kernel_rfl
  obtain ⟨xs, m, rfl, _, _, hl, hf⟩ := DataW.trod_struct Tryz.underlying26 h
  have hl : xs.length = 11 := hl
  have g : ∀ i, i < 11 → ∃ y, xs[i]? = some y := fun i hi => ⟨xs[i], List.getElem?_eq_getElem (by omega)⟩
  obtain ⟨y0, e0⟩ := g 0 (by omega)
  obtain ⟨y1, e1⟩ := g 1 (by omega)
  obtain ⟨y2, e2⟩ := g 2 (by omega)
  obtain ⟨y3, e3⟩ := g 3 (by omega)
  obtain ⟨y4, e4⟩ := g 4 (by omega)
  obtain ⟨y5, e5⟩ := g 5 (by omega)
  obtain ⟨y6, e6⟩ := g 6 (by omega)
  obtain ⟨y7, e7⟩ := g 7 (by omega)
  obtain ⟨y8, e8⟩ := g 8 (by omega)
  obtain ⟨y9, e9⟩ := g 9 (by omega)
  obtain ⟨y10, e10⟩ := g 10 (by omega)
  have f0 : DataW.trod enc Tryz.prog w base sp held m 3 (([o0, o1, o2, o3, o4, o5, o6, o7, o8, o9, o10].drop 0).take (Tryz.prog.cellsOf 3)) = some y0 := (hf 0 _ rfl).trans e0
  rw [c3] at f0
  have f0 : DataW.trod enc Tryz.prog w base sp held m 3 [o0] = some y0 := f0
  have f1 : DataW.trod enc Tryz.prog w base sp held m 9 (([o0, o1, o2, o3, o4, o5, o6, o7, o8, o9, o10].drop 1).take (Tryz.prog.cellsOf 9)) = some y1 := (hf 1 _ rfl).trans e1
  rw [c9] at f1
  have f1 : DataW.trod enc Tryz.prog w base sp held m 9 [o1] = some y1 := f1
  have f2 : DataW.trod enc Tryz.prog w base sp held m 9 (([o0, o1, o2, o3, o4, o5, o6, o7, o8, o9, o10].drop 2).take (Tryz.prog.cellsOf 9)) = some y2 := (hf 2 _ rfl).trans e2
  rw [c9] at f2
  have f2 : DataW.trod enc Tryz.prog w base sp held m 9 [o2] = some y2 := f2
  have f3 : DataW.trod enc Tryz.prog w base sp held m 22 (([o0, o1, o2, o3, o4, o5, o6, o7, o8, o9, o10].drop 3).take (Tryz.prog.cellsOf 22)) = some y3 := (hf 3 _ rfl).trans e3
  rw [cv] at f3
  have f3 : DataW.trod enc Tryz.prog w base sp held m 22 [o3] = some y3 := f3
  have f4 : DataW.trod enc Tryz.prog w base sp held m 22 (([o0, o1, o2, o3, o4, o5, o6, o7, o8, o9, o10].drop 4).take (Tryz.prog.cellsOf 22)) = some y4 := (hf 4 _ rfl).trans e4
  rw [cv] at f4
  have f4 : DataW.trod enc Tryz.prog w base sp held m 22 [o4] = some y4 := f4
  have f5 : DataW.trod enc Tryz.prog w base sp held m 23 (([o0, o1, o2, o3, o4, o5, o6, o7, o8, o9, o10].drop 5).take (Tryz.prog.cellsOf 23)) = some y5 := (hf 5 _ rfl).trans e5
  rw [cs] at f5
  have f5 : DataW.trod enc Tryz.prog w base sp held m 23 [o5] = some y5 := f5
  have f6 : DataW.trod enc Tryz.prog w base sp held m 22 (([o0, o1, o2, o3, o4, o5, o6, o7, o8, o9, o10].drop 6).take (Tryz.prog.cellsOf 22)) = some y6 := (hf 6 _ rfl).trans e6
  rw [cv] at f6
  have f6 : DataW.trod enc Tryz.prog w base sp held m 22 [o6] = some y6 := f6
  have f7 : DataW.trod enc Tryz.prog w base sp held m 22 (([o0, o1, o2, o3, o4, o5, o6, o7, o8, o9, o10].drop 7).take (Tryz.prog.cellsOf 22)) = some y7 := (hf 7 _ rfl).trans e7
  rw [cv] at f7
  have f7 : DataW.trod enc Tryz.prog w base sp held m 22 [o7] = some y7 := f7
  have f8 : DataW.trod enc Tryz.prog w base sp held m 3 (([o0, o1, o2, o3, o4, o5, o6, o7, o8, o9, o10].drop 8).take (Tryz.prog.cellsOf 3)) = some y8 := (hf 8 _ rfl).trans e8
  rw [c3] at f8
  have f8 : DataW.trod enc Tryz.prog w base sp held m 3 [o8] = some y8 := f8
  have f9 : DataW.trod enc Tryz.prog w base sp held m 4 (([o0, o1, o2, o3, o4, o5, o6, o7, o8, o9, o10].drop 9).take (Tryz.prog.cellsOf 4)) = some y9 := (hf 9 _ rfl).trans e9
  rw [c4] at f9
  have f9 : DataW.trod enc Tryz.prog w base sp held m 4 [o9] = some y9 := f9
  have f10 : DataW.trod enc Tryz.prog w base sp held m 24 (([o0, o1, o2, o3, o4, o5, o6, o7, o8, o9, o10].drop 10).take (Tryz.prog.cellsOf 24)) = some y10 := (hf 10 _ rfl).trans e10
  rw [cn] at f10
  have f10 : DataW.trod enc Tryz.prog w base sp held m 24 [o10] = some y10 := f10
  obtain ⟨k, hk, _⟩ := DataW.trod_int Tryz.underlying3 f0
  obtain ⟨tb, htb, _⟩ := DataW.trod_string Tryz.underlying9 f1
  obtain ⟨ix, hix, _⟩ := DataW.trod_string Tryz.underlying9 f2
  obtain ⟨A1, n1, c1, h1, _⟩ := slice_shape Tryz.underlying22 f3
  obtain ⟨A2, n2, c2, h2, _⟩ := slice_shape Tryz.underlying22 f4
  obtain ⟨A3, n3, d3, h3, _⟩ := slice_shape Tryz.underlying23 f5
  obtain ⟨A4, n4, d4, h4, _⟩ := slice_shape Tryz.underlying22 f6
  obtain ⟨A5, n5, d5, h5, _⟩ := slice_shape Tryz.underlying22 f7
  obtain ⟨lim, hlim, _⟩ := DataW.trod_int Tryz.underlying3 f8
  obtain ⟨rev, hrev, _⟩ := DataW.trod_bool Tryz.underlying4 f9
  obtain ⟨ns, hns⟩ := slOf_trod (E := ELen) Tryz.underlying24 cb (by decide) (fun n cs y hy => by
    cases cs with
    | nil =>
      rcases DataW.trod_slice Tryz.underlying27 hy with ⟨hv, _⟩ | ⟨_, _, _, _, _, _, _, hv, _⟩ <;> cases hv
    | cons c cs =>
      cases cs with
      | nil =>
        obtain ⟨A, k, c', rfl, hk⟩ := slice_shape Tryz.underlying27 hy
        exact ⟨k, A, c', rfl, hk⟩
      | cons c2 cs =>
        rcases DataW.trod_slice Tryz.underlying27 hy with ⟨hv, _⟩ | ⟨_, _, _, _, _, _, _, hv, _⟩ <;> cases hv) f10
  simp only [List.cons.injEq, and_true] at hk htb hix hlim hrev
  subst hk htb hix h1 h2 h3 h4 h5 hlim hrev
  exact ⟨k, lim, tb, ix, A1, A2, A3, A4, A5, n1, n2, n3, n4, n5, c1, c2, d3, d4, d5, rev, _, ns, rfl, hns⟩
end

theorem own : ownKnob Tryz.prog.godebug = none := by kernel_rfl
/-- a zero op and a zero reply -/
def zeroArgs : Array Value := #[.agg #[.int .i64 0, .string ByteArray.empty, .string ByteArray.empty, .slice none 0 0, .slice none 0 0, .slice none 0 0, .slice none 0 0, .slice none 0 0, .int .i64 0, .bool false, .slice none 0 0],
  .agg #[.int .i64 0, .int .u64 0, .int .i64 0, .bool false, .slice none 0 0, .slice none 0 0, .int .i64 0, .int .i64 0, .slice none 0 0, .slice none 0 0, .int .i64 0, .int .i64 0, .slice none 0 0, .int .i64 0, .slice none 0 0]]
theorem txnNil_door (os : Os) (args : Array Value) : laidMetH Tryz.prog Rows.txnNilRow.laid ((World.doorLaid Tryz.prog 16 os).forCall (fun _ _ => 0) ⟨#[], args, []⟩).memory :=
  laidMetH_of_parts3 (fuel := 8) (laidMet_of_run' 8 (by kernel_rfl) (by kernel_rfl)) (by kernel_rfl) (by kernel_rfl)

theorem txnNil_lifted (os : Os) (started : os.Started) (H : Type) (enc : TypeId × Value → H) :
    ReturnsInHanded {} Tryz.checked os 5 .any (fun w args => (Rows.txnNilSpec.pre enc Tryz.prog Tryz.f5 [] false w args ∧ laidMetH Tryz.prog Rows.txnNilRow.laid w) ∧ sizedMet enc Tryz.prog Tryz.f5 (OpenSpec.ofChange Rows.txnNilSpec) false w args)
      (Rows.txnNilSpec.post enc Tryz.prog Tryz.f5 false true false false) := by
  refine returnsInHanded_of_change_and (C := Tryz.checked) (X := fun w _ => laidMetH Tryz.prog Rows.txnNilRow.laid w) (fun _ _ _ hh h => h.of_heap hh) own started (by kernel_rfl) Tryz.func5
    (ChangeSpec.witness_shaped (enc := enc) (C := Tryz.checked) (os := os) (X := fun w _ => laidMetH Tryz.prog Rows.txnNilRow.laid w) false (World.doorLaid Tryz.prog 16 os) zeroArgs 8 rfl (World.shaped_of_RefB (by kernel_rfl) (by kernel_rfl)) (by kernel_rfl) (by kernel_rfl) (by kernel_rfl) (txnNil_door os _)) ?_
  intro W base args ds gs before hval0 hW _ _ _ _
  have hval : ∀ (j : Nat) t v, Tryz.f5.params[j]? = some t → args[j]? = some v → Value.okWide Tryz.prog W .any base t v := hval0
  have hW' := hW
  obtain ⟨p, q, hA0, hV, rfl, hfz, hnd⟩ := hW
  have hA : DataW.TrodAll enc Tryz.prog W 0 (fun _ => true) true Tryz.f5.params.toList args.toList ds p := hA0
  rw [Tryz.params5] at hA hval
  obtain ⟨v0, v1, d0, d1, p0, p1, rfl, rfl, rfl, h0, h1⟩ := trodAll_two hA
  obtain ⟨rfl, rfl⟩ := trodVars_none hV
  obtain ⟨oc, rfl, hos⟩ := okWide_struct Tryz.underlying26 (hval 0 _ v0 rfl rfl)
  obtain ⟨rc, rfl, hrs⟩ := okWide_struct Tryz.underlying75 (hval 1 _ v1 rfl rfl)
  have co : Tryz.prog.cellsOf 26 = 11 := by kernel_rfl
  have cr : Tryz.prog.cellsOf 75 = 15 := by kernel_rfl
  obtain ⟨n, hn⟩ := h0
  refine (law20_nil W oc rc (open_op hn (hos.trans co)) (hrs.trans cr)).mono fun e W' ⟨he, hb⟩ => ?_
  subst he
  simp only [List.append_nil] at hW'
  exact ⟨_, rfl, post_true rfl rfl rfl (by kernel_rfl) hW' hb⟩

end Go.Proofs.YtdinnaijfemmbaaGreatDoor
