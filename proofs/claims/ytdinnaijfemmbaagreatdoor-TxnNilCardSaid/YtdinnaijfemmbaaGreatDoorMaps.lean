/- Maps keyed by strings; bytes made a string. No program. -/
import Derived.Test.YtdinnaijfemmbaaGreatDoorData2
import Derived.MapKept
import Derived.Laws.BytesArg
namespace Go.Proofs.YtdinnaijfemmbaaGreatDoor
open Go.RowKit
open Go.MapKept (run_getObj_map run_setObj_map run_checkKey run_findKey)

/-- bytes as a text -/
abbrev bstr (l : List UInt8) : ByteArray := ⟨l.toArray⟩
theorem bstr_inj {a b : List UInt8} (h : bstr a = bstr b) : a = b := by
  have := congrArg (fun s : ByteArray => s.data.toList) h
  simpa using this
theorem conv_bytes {P : Program} (w : World) (src e dst : TypeId) (hs : P.underlying src = some (.slice e)) (he : P.underlying e = some (.int .u8)) (hd : P.underlying dst = some .string) {v : Value} {l : List UInt8} (h : RBytes w.cell? v l) :
    (convert src dst v).run P w = .ok (.string (bstr l)) w := by
  obtain ⟨A, c, rfl, _, _, h3⟩ := h.parts
  by_cases hA : A = none
  · subst hA
    have : l = [] := by
      cases l with
      | nil => rfl
      | cons x l => obtain ⟨b, o, h, _⟩ := h3 0 (u8 x) rfl; cases h
    subst this
    exact run_convert_bytes_nil w src e hs he 0 c dst hd
  · obtain ⟨ad, rfl⟩ := Option.ne_none_iff_exists'.1 hA
    by_cases hl : l = []
    · subst hl
      have hr : (convert src dst (.slice (some ad) 0 c)).run P w = .ok (.string ByteArray.empty) w := by
        rw [run_convert_bytes_string w src dst e _ 0 c hs he hd, run_bytesToString w ad 0 c [] (by simp [loadCells, loadCellsFrom])]
        rfl
      exact hr
    · have hl0 : 0 < l.length := List.length_pos_iff.2 hl
      obtain ⟨b, o, hbo, _⟩ := h3 0 (u8 l[0]) (by rw [List.getElem?_map, List.getElem?_eq_getElem hl0]; rfl)
      injection hbo with hbo
      subst hbo
      have := run_convert_bytes_arg (P := P) w src e hs he b o l.length c (l.map fun b => (b.toNat : Int)) (by simp) (fun i hi => by
        have hi' : i < l.length := by simpa using hi
        obtain ⟨b', o', hb', hc⟩ := h3 i (u8 l[i]) (by rw [List.getElem?_map, List.getElem?_eq_getElem hi']; rfl)
        injection hb' with hb'
        injection hb' with e1 e2
        subst e1 e2
        rw [hc]
        simp [hi']) dst hd
      rw [this]
      congr 2
      show bstr _ = bstr _
      congr 1
      rw [List.map_map]
      exact (List.map_congr_left (fun x _ => by simp)).trans (List.map_id l)

/-! ### maps -/
theorem ba_beq (a b : ByteArray) : (a == b) = true ↔ a = b := by
  cases a with | mk a => cases b with | mk b =>
  constructor
  · intro h
    have : (a == b) = true := h
    rw [eq_of_beq this]
  · intro h
    cases h
    show (a == a) = true
    simp
theorem ba_beq' (a b : ByteArray) : (a == b) = decide (a = b) := by
  by_cases h : a = b
  · rw [decide_eq_true h]; exact (ba_beq a b).2 h
  · rw [decide_eq_false h]; rw [← Bool.not_eq_true]; exact fun e => h ((ba_beq a b).1 e)
/-- the entries of a map, as pairs of text and value -/
def Entries (es : Array MapEntry) (M : List (ByteArray × Value)) : Prop := es.toList.map (fun e => (e.key, e.val)) = M.map fun p => (Value.string p.1, p.2)
def mfind (k : ByteArray) : List (ByteArray × Value) → Option Value
  | [] => none
  | p :: M => if p.1 = k then some p.2 else mfind k M
def mput (k : ByteArray) (v : Value) : List (ByteArray × Value) → List (ByteArray × Value)
  | [] => [(k, v)]
  | p :: M => if p.1 = k then (k, v) :: M else p :: mput k v M
theorem mfind_put_same (k : ByteArray) (v : Value) : ∀ M, mfind k (mput k v M) = some v
  | [] => by simp [mfind, mput]
  | p :: M => by
    by_cases h : p.1 = k
    · simp [mfind, mput, h]
    · simp [mfind, mput, h, mfind_put_same k v M]
theorem mfind_put_other {k k' : ByteArray} (v : Value) (hne : k' ≠ k) : ∀ M, mfind k' (mput k v M) = mfind k' M
  | [] => by simp [mfind, mput, Ne.symm hne]
  | p :: M => by
    have ih := mfind_put_other v hne M
    by_cases h : p.1 = k
    · simp [mfind, mput, h, Ne.symm hne]
    · simp [mfind, mput, h, ih]

theorem findNow_entries (k : ByteArray) : ∀ (es : List MapEntry) (M : List (ByteArray × Value)) (i : Nat), es.map (fun e => (e.key, e.val)) = M.map (fun p => (Value.string p.1, p.2)) →
    ∃ r, Instr.findNow .string (.string k) es i = some r ∧ r.map (·.2) = mfind k M
  | [], [], i, _ => ⟨none, rfl, rfl⟩
  | [], p :: M, i, h => by simp at h
  | e :: es, [], i, h => by simp at h
  | e :: es, p :: M, i, h => by
    simp only [List.map_cons, List.cons.injEq, Prod.mk.injEq] at h
    obtain ⟨⟨h1, h2⟩, h3⟩ := h
    by_cases hk : p.1 = k
    · have hb : (k == p.1) = true := (ba_beq _ _).2 hk.symm
      refine ⟨some (i, e.val), ?_, ?_⟩
      · simp [Instr.findNow, Instr.sameNow, h1, hb]
      · simp [mfind, hk, h2]
    · have hb : (k == p.1) = false := by rw [ba_beq', decide_eq_false (Ne.symm hk)]
      obtain ⟨r, hr, hr2⟩ := findNow_entries k es M (i + 1) h3
      refine ⟨r, ?_, ?_⟩
      · simp [Instr.findNow, Instr.sameNow, h1, hb, hr]
      · rw [hr2]; simp [mfind, hk]

theorem run_lookup_str {P : Program} (w : World) {t kt et : TypeId} (ht : P.underlying t = some (.map kt et)) (hk : P.underlying kt = some .string) {z : Value} (hz : ∀ w, (zeroValue et).run P w = .ok z w)
    {r : Nat} {es : Array MapEntry} {clock : Nat} {M : List (ByteArray × Value)} (hb : w.heap[r]? = some (.map es clock)) (hM : Entries es M) (k : ByteArray) :
    (Instr.lookup t (.map (some r)) (.string k) true).run P w = .ok (.tuple #[(mfind k M).getD z, .bool (mfind k M).isSome]) w := by
  obtain ⟨x, hx, hx2⟩ := findNow_entries k es.toList M 0 hM
  have hc : (Instr.checkKey es.isEmpty 10000 kt (.string k)).run P w = .ok () w := Go.MapKept.run_checkKey hk (k := .string k) (by simp [MapKept.IsKey]) es.isEmpty 9999
  have hf := Go.MapKept.run_findKey (P := P) (w := w) hk hx
  simp only [Instr.lookup, Sem.run_bind, run_underlying ht, Result.andThen, Go.MapKept.run_getObj_map hb]
  rw [show (pure es : Sem _).run P w = .ok es w from rfl]
  simp only [hc, hf]
  cases x with
  | none =>
    have : mfind k M = none := by simpa using hx2.symm
    simp [this, hz, Result.andThen]
  | some p =>
    have : mfind k M = some p.2 := by simpa using hx2.symm
    simp [this]
end Go.Proofs.YtdinnaijfemmbaaGreatDoor
