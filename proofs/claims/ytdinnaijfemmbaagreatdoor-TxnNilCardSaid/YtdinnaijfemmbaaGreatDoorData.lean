/- Words for memory: what values read as. No program. -/
import Derived.WalkKit
import Derived.BigQuiet
namespace Go.Proofs.YtdinnaijfemmbaaGreatDoor
open Go.RowKit

/-- A view of memory: which cells are there. -/
abbrev Hp := Addr → Option Value
def Hp.le (h h' : Hp) : Prop := ∀ a u, h a = some u → h' a = some u
theorem Hp.le_refl (h : Hp) : h.le h := fun _ _ e => e
theorem Hp.le_trans {a b c : Hp} (h : a.le b) (k : b.le c) : a.le c := fun x u e => k x u (h x u e)

/-- a slice value whose elements (sz cells each) read as l -/
def SlOf {α : Type} (E : Hp → List Value → α → Prop) (sz : Nat) (h : Hp) (v : Value) (l : List α) : Prop :=
  ∃ A c, v = .slice A l.length c ∧ l.length ≤ c ∧ c ≤ maxLen ∧
    ∀ k (hk : k < l.length), ∃ b o cs, A = some ⟨b, o, none⟩ ∧ cs.length = sz ∧ E h cs l[k] ∧ ∀ j u, cs[j]? = some u → h ⟨b, o + k * sz + j, none⟩ = some u

def Mono {α : Type} (E : Hp → List Value → α → Prop) : Prop := ∀ (h h' : Hp) cs x, E h cs x → h.le h' → E h' cs x
theorem SlOf.mono {α : Type} {E : Hp → List Value → α → Prop} (hE : Mono E) {sz : Nat} {h h' : Hp} {v : Value} {l : List α}
    (r : SlOf E sz h v l) (hh : h.le h') : SlOf E sz h' v l := by
  obtain ⟨A, c, rfl, h1, h2, h3⟩ := r
  refine ⟨A, c, rfl, h1, h2, fun k hk => ?_⟩
  obtain ⟨b, o, cs, hA, hl, he, hc⟩ := h3 k hk
  exact ⟨b, o, cs, hA, hl, hE _ _ _ _ he hh, fun j u hj => hh _ _ (hc j u hj)⟩

/-! ### api.Value -/
structure V where
  kind : Int
  i : Int
  s : ByteArray
def V.cells (x : V) : List Value := [.int .i64 x.kind, .int .i64 x.i, .string x.s]
def EV (_ : Hp) (cs : List Value) (x : V) : Prop := cs = x.cells
abbrev RVals (h : Hp) (v : Value) (l : List V) : Prop := SlOf EV 3 h v l
theorem EV.mono : Mono EV := fun _ _ _ _ r _ => r
theorem RVals.mono {h h' : Hp} {v l} (r : RVals h v l) (hh : h.le h') : RVals h' v l := SlOf.mono EV.mono r hh

/-- element k of a slice of Values: its three cells -/
theorem V.at_ {h : Hp} {A : Option Addr} {l : List V} (hc : ∀ k (hk : k < l.length), ∃ b o cs, A = some ⟨b, o, none⟩ ∧ cs.length = 3 ∧ EV h cs l[k] ∧ ∀ j u, cs[j]? = some u → h ⟨b, o + k * 3 + j, none⟩ = some u)
    {k : Nat} (hk : k < l.length) : ∃ b o, A = some ⟨b, o, none⟩ ∧ h ⟨b, o + k * 3, none⟩ = some (.int .i64 l[k].kind) ∧ h ⟨b, o + k * 3 + 1, none⟩ = some (.int .i64 l[k].i) ∧ h ⟨b, o + k * 3 + 2, none⟩ = some (.string l[k].s) := by
  obtain ⟨b, o, cs, hA, _, he, hcc⟩ := hc k hk
  simp only [EV, V.cells] at he
  subst he
  exact ⟨b, o, hA, hcc 0 _ rfl, hcc 1 _ rfl, hcc 2 _ rfl⟩

theorem below_hle {w w' : World} (h : Below w.heap.size w w') : Hp.le w.cell? w'.cell? := fun a u e => by
  rw [h.cell (World.block_lt_of_cell? w a e)]; exact e

theorem alloc_keeps {w : World} {o : Obj} {a : Addr} {u : Value} (h : w.cell? a = some u) : (w.alloc o).cell? a = some u := below_hle ((Below.refl _ _).alloc (Nat.le_refl _) o) _ _ h
theorem blk_cell {w : World} {g : Nat} {cs : Array Value} {T : TypeId} (h : w.heap[g]? = some (.cells cs T (0, 0))) (i : Nat) {u : Value} (hu : cs[i]? = some u) : w.cell? ⟨g, i, none⟩ = some u :=
  (cell_of_row w g i cs T (0, 0) h).trans hu
theorem blk_free {w : World} {g : Nat} {cs : Array Value} {T : TypeId} (h : w.heap[g]? = some (.cells cs T (0, 0))) (i : Nat) : w.frozen? ⟨g, i, none⟩ = false := by
  simp [World.frozen?, h]
theorem blk_lt {w : World} {g : Nat} {o : Obj} (h : w.heap[g]? = some o) : g < w.heap.size := (Array.getElem?_eq_some_iff.1 h).1
/-! ### bytes -/
abbrev u8 (b : UInt8) : Value := .int .u8 b.toNat
def E8 (_ : Hp) (cs : List Value) (x : UInt8) : Prop := cs = [u8 x]
abbrev RBytes (h : Hp) (v : Value) (l : List UInt8) : Prop := SlOf E8 1 h v l
theorem E8.mono : Mono E8 := fun _ _ _ _ r _ => r
theorem RBytes.mono {h h' : Hp} {v l} (r : RBytes h v l) (hh : h.le h') : RBytes h' v l := SlOf.mono E8.mono r hh
/-- what the call itself gathers -/
abbrev Own8 (w : World) (B : Nat) (v : Value) (l : List UInt8) : Prop := w.ownsRow B 5 1 v l.length (l.map u8)
theorem Own8.reads {w : World} {B : Nat} {v : Value} {l : List UInt8} (h : Own8 w B v l) : RBytes w.cell? v l := by
  rcases h.2 with ⟨rfl, h0⟩ | ⟨g, cap, cur, rfl, _, hg, hn, hm, hs, ht⟩
  · have : l = [] := List.eq_nil_of_length_eq_zero h0
    subst this
    exact ⟨none, 0, rfl, by simp, by simp [maxLen], fun k hk => absurd hk (by simp)⟩
  · refine ⟨_, cap, rfl, hn, hm, fun k hk => ⟨g, 0, [u8 l[k]], rfl, rfl, rfl, fun j u hj => ?_⟩⟩
    obtain rfl : j = 0 := by
      rcases Nat.eq_zero_or_pos j with h | h
      · exact h
      · rw [List.getElem?_eq_none (by simp; omega)] at hj; cases hj
    simp at hj
    subst hj
    have := h.cells (g := g) rfl k (u8 l[k]) (by simp [hk])
    have e : (⟨g, 0, none⟩ : Addr).add k = ⟨g, 0 + k * 1 + 0, none⟩ := by unfold Addr.add; split <;> simp_all
    rw [← e]; exact this
theorem Own8.snoc {w : World} {B : Nat} {v : Value} {l : List UInt8} {x : UInt8} (h : w.ownsRow B 5 1 v (l.length + 1) (l.map u8 ++ [u8 x])) : Own8 w B v (l ++ [x]) := by
  unfold Own8; rw [List.length_append, List.map_append]; exact h
theorem own_base {w : World} {B B' : Nat} {e : TypeId} {sz : Nat} {v : Value} {n : Nat} {xs : List Value} (h : w.ownsRow B e sz v n xs) (hB : B' ≤ B) : w.ownsRow B' e sz v n xs := by
  refine ⟨h.1, ?_⟩
  rcases h.2 with h2 | ⟨g, cap, cur, hv, hg, r⟩
  · exact .inl h2
  · exact .inr ⟨g, cap, cur, hv, Nat.le_trans hB hg, r⟩
theorem own_below {w w' : World} {B : Nat} {e : TypeId} {sz : Nat} {v : Value} {n : Nat} {xs : List Value} (h : w.ownsRow B e sz v n xs) (hb : Below w.heap.size w w') : w'.ownsRow B e sz v n xs :=
  h.kept (row := none) ⟨hb.os, hb.tape, hb.output, hb.size, fun k hk _ => hb.block k hk⟩ (by cases v.ownBlock <;> simp)
/-- the callee's first block was w's next: what is below it, is below it still -/
theorem below_of_alloc {w w' : World} {o : Obj} (h : Below (w.heap.size + 1) (w.alloc o) w') : Below w.heap.size w w' :=
  ((Below.refl _ _).alloc (Nat.le_refl _) o).trans (h.mono (by omega))
theorem own_built {w : World} {B : Nat} {e : TypeId} (x : Value) (hB : B ≤ w.heap.size) : (w.alloc (.cells #[x] e)).ownsRow B e 1 (.slice (some ⟨w.heap.size, 0, none⟩) 1 1) 1 [x] :=
  ⟨rfl, .inr ⟨w.heap.size, 1, #[x], rfl, hB, heap_alloc_new w _, Nat.le_refl _, by simp [maxLen], rfl, rfl⟩⟩

/-- the parts of a reading of bytes: what an append asks of its source -/
theorem RBytes.parts {h : Hp} {v : Value} {l : List UInt8} (r : RBytes h v l) : ∃ A c, v = .slice A l.length c ∧ l.length ≤ c ∧ c ≤ maxLen ∧
    ∀ k u, (l.map u8)[k]? = some u → ∃ b o, A = some ⟨b, o, none⟩ ∧ h ⟨b, o + k, none⟩ = some u := by
  obtain ⟨A, c, rfl, h1, h2, h3⟩ := r
  refine ⟨A, c, rfl, h1, h2, fun k u hu => ?_⟩
  have hk : k < l.length := by
    rcases Nat.lt_or_ge k l.length with h | h
    · exact h
    · rw [List.getElem?_eq_none (by simpa using h)] at hu; cases hu
  obtain ⟨b, o, cs, hA, _, he, hc⟩ := h3 k hk
  simp only [E8] at he
  subst he
  refine ⟨b, o, hA, ?_⟩
  have := hc 0 _ rfl
  simp [hk] at hu
  subst hu
  simpa using this
theorem u8_one (l : List UInt8) : ∀ u ∈ l.map u8, u.oneCell' = true := by
  intro u hu; simp at hu; obtain ⟨b, _, rfl⟩ := hu; rfl
theorem Own8.app {w : World} {B : Nat} {v : Value} {l m : List UInt8} (h : w.ownsRow B 5 1 v (l.length + m.length) (l.map u8 ++ m.map u8)) : Own8 w B v (l ++ m) := by
  unfold Own8; rw [List.length_append, List.map_append]; exact h
theorem own8_built {w : World} {B g : Nat} {b : UInt8} (hB : B ≤ w.heap.size) (hg : w.heap.size = g) : Own8 (w.alloc (.cells #[u8 b] 5)) B (.slice (some ⟨g, 0, none⟩) 1 1) [b] := by
  subst hg; exact own_built (e := 5) (u8 b) hB

section
variable {P : Program} (w : World)
theorem run_append_nilsrc (base : Nat) (t ty e : TypeId) (i : TypeInfo) (size : Nat) (ht : P.underlying t = some (.slice e)) (hi : P.info? e = some i)
    (v : Value) (n : Nat) (xs : List Value) (hown : w.ownsRow base e size v n xs) (c : Nat) : (Builtin.append_ #[t, t] ty #[v, .slice none 0 c]).run P w = .ok v w := by
  rcases hown.2 with ⟨rfl, rfl⟩ | ⟨g, cap, cur, rfl, _, _, hnc, _⟩
  · simp [Builtin.append_, run_underlying ht, sizeOf, typeInfo, hi, Builtin.lenOf, Builtin.firstCells]
  · simp [Builtin.append_, run_underlying ht, sizeOf, typeInfo, hi, Builtin.lenOf, Builtin.firstCells, hnc, storeCells]
/-- out = append(out, ..): elements of one cell each; what is appended reads as ys (nil, empty or not) -/
theorem wpList_append_read {ops : Array Oper} {rest : List Oper} {o : Oper} {a : Act} {Q : Exit → Act → World → Prop} (hgd : o.guard = none) (s x : Operand) (t : TypeId)
    (ho : o.op = .call { callee := .builtin .append, args := #[s, x], argTypes := #[t, t] })
    (B : Nat) (e : TypeId) (i : TypeInfo) (z : Value) (bytes : Nat) (ht : P.underlying t = some (.slice e)) (hi : P.info? e = some i) (hz : i.zero = some z)
    (hsize : i.size = 1) (hby : i.bytes = bytes) (hzs : z.cells.size = 1)
    (v : Value) (n : Nat) (xs : List Value) (hs : a.eval s = v) (hown : w.ownsRow B e 1 v n xs)
    (A : Option Addr) (m c : Nat) (ys : List Value) (hx : a.eval x = .slice A m c) (hm : ys.length = m)
    (hc : ∀ k u, ys[k]? = some u → ∃ b o, A = some ⟨b, o, none⟩ ∧ w.cell? ⟨b, o + k, none⟩ = some u) (h1 : ∀ u ∈ ys, u.oneCell' = true)
    (h63 : n + m ≤ maxLen) (hbytes : (n + m) * bytes ≤ 140737488355328) (w0 : World) (hbel : Below B w0 w) (hbase : B ≤ w.heap.size)
    (h : ∀ v' w', w'.ownsRow B e 1 v' (n + m) (xs ++ ys) → w.grownBy w' v.ownBlock → Below B w0 w' → B ≤ w'.heap.size → wpList P ops Q rest (a.put o.dst v') w') : wpList P ops Q (o :: rest) a w := by
  have hg0 : ∀ {v' w'}, w'.ownsRow B e 1 v' (n + m) (xs ++ ys) → w.grownBy w' v.ownBlock → wpList P ops Q rest (a.put o.dst v') w' := fun hown' hg =>
    h _ _ hown' hg (hbel.grown hg hbase (fun k hk => (hown.lt k hk).1)) (Nat.le_trans hbase hg.size)
  by_cases hn : A = none
  · subst hn
    have hy : ys = [] := by
      cases ys with
      | nil => rfl
      | cons y ys => obtain ⟨b, o, h, _⟩ := hc 0 y rfl; cases h
    subst hy
    have h0 : m = 0 := by simpa using hm.symm
    subst h0
    have hr := run_append_nilsrc (P := P) w B t o.type e i 1 ht hi v n xs hown c
    refine wpList_plain hgd fun K hK => ?_
    unfold Oper.wp execOp
    simp only [ho, resolve, invoke, builtin, Sem.run_bind, Sem.run_pure, Result.andThen_ok, List.map_toArray, List.map_cons, List.map_nil, hs, hx, hr]
    exact hK _ _ (hg0 (by simpa using hown) ⟨rfl, rfl, rfl, Nat.le_refl _, fun _ _ _ => rfl⟩)
  · obtain ⟨ad, rfl⟩ := Option.ne_none_iff_exists'.1 hn
    refine wpList_append_own w hgd s x t ho B e i z 1 bytes ht hi hz hsize hby hzs (by decide) v n xs hs hown ad m c ys hx (by omega) ?_ h1 h63 hbytes hbase fun v' w' hown' hg _ => hg0 hown' hg
    intro j u hj
    obtain ⟨b, o, hA, hcell⟩ := hc j u hj
    injection hA with hA
    subst hA
    have e : (⟨b, o, none⟩ : Addr).add j = ⟨b, o + j, none⟩ := by unfold Addr.add; split <;> simp_all
    rw [e]; exact hcell

/-- one element of one cell, which lies in a block of its own (buildSlice) -/
theorem wpList_append_one {ops : Array Oper} {rest : List Oper} {o : Oper} {a : Act} {Q : Exit → Act → World → Prop} (hgd : o.guard = none) (s x : Operand) (t : TypeId)
    (ho : o.op = .call { callee := .builtin .append, args := #[s, x], argTypes := #[t, t] })
    (B : Nat) (e : TypeId) (i : TypeInfo) (z : Value) (bytes : Nat) (ht : P.underlying t = some (.slice e)) (hi : P.info? e = some i) (hz : i.zero = some z)
    (hsize : i.size = 1) (hby : i.bytes = bytes) (hzs : z.cells.size = 1)
    (v : Value) (n : Nat) (xs : List Value) (hs : a.eval s = v) (hown : w.ownsRow B e 1 v n xs)
    (g : Nat) (y : Value) (hx : a.eval x = .slice (some ⟨g, 0, none⟩) 1 1) (hy : y.oneCell' = true) (hc : w.cell? ⟨g, 0, none⟩ = some y)
    (h63 : n + 1 ≤ maxLen) (hbytes : (n + 1) * bytes ≤ 140737488355328) (w0 : World) (hbel : Below B w0 w) (hbase : B ≤ w.heap.size)
    (h : ∀ v' w', w'.ownsRow B e 1 v' (n + 1) (xs ++ [y]) → w.grownBy w' v.ownBlock → Below B w0 w' → B ≤ w'.heap.size → wpList P ops Q rest (a.put o.dst v') w') : wpList P ops Q (o :: rest) a w := by
  refine wpList_append_read w hgd s x t ho B e i z bytes ht hi hz hsize hby hzs v n xs hs hown _ 1 1 [y] hx rfl (fun k u hu => ⟨g, 0, rfl, ?_⟩) ?_ h63 hbytes w0 hbel hbase h
  · match k, hu with
    | 0, hu => simp at hu; subst hu; exact hc
  · intro u hu; simp at hu; subst hu; exact hy

/-- the like, the elements written out in a block of their own (buildSlice) -/
theorem wpList_append_cells {ops : Array Oper} {rest : List Oper} {o : Oper} {a : Act} {Q : Exit → Act → World → Prop} (hgd : o.guard = none) (s x : Operand) (t : TypeId)
    (ho : o.op = .call { callee := .builtin .append, args := #[s, x], argTypes := #[t, t] })
    (B : Nat) (e : TypeId) (i : TypeInfo) (z : Value) (bytes : Nat) (ht : P.underlying t = some (.slice e)) (hi : P.info? e = some i) (hz : i.zero = some z)
    (hsize : i.size = 1) (hby : i.bytes = bytes) (hzs : z.cells.size = 1)
    (v : Value) (n : Nat) (xs : List Value) (hs : a.eval s = v) (hown : w.ownsRow B e 1 v n xs)
    (g m c : Nat) (ys : List Value) (hx : a.eval x = .slice (some ⟨g, 0, none⟩) m c) (hm : ys.length = m)
    (hc : ∃ T, w.heap[g]? = some (.cells ys.toArray T (0, 0))) (h1 : ∀ u ∈ ys, u.oneCell' = true)
    (h63 : n + m ≤ maxLen) (hbytes : (n + m) * bytes ≤ 140737488355328) (w0 : World) (hbel : Below B w0 w) (hbase : B ≤ w.heap.size)
    (h : ∀ v' w', w'.ownsRow B e 1 v' (n + m) (xs ++ ys) → w.grownBy w' v.ownBlock → Below B w0 w' → B ≤ w'.heap.size → wpList P ops Q rest (a.put o.dst v') w') : wpList P ops Q (o :: rest) a w := by
  obtain ⟨T, hT⟩ := hc
  refine wpList_append_read w hgd s x t ho B e i z bytes ht hi hz hsize hby hzs v n xs hs hown _ m c ys hx hm (fun k u hu => ⟨g, 0, rfl, ?_⟩) h1 h63 hbytes w0 hbel hbase h
  have := cell_of_row w g (0 + k) ys.toArray T (0, 0) hT
  simpa [hu] using this
/-- one element of sz cells, which lies in a block of its own (buildSlice) -/
theorem wpList_append_elem {ops : Array Oper} {rest : List Oper} {o : Oper} {a : Act} {Q : Exit → Act → World → Prop} (hgd : o.guard = none) (s x : Operand) (t : TypeId)
    (ho : o.op = .call { callee := .builtin .append, args := #[s, x], argTypes := #[t, t] })
    (B : Nat) (e : TypeId) (i : TypeInfo) (z : Value) (sz bytes : Nat) (ht : P.underlying t = some (.slice e)) (hi : P.info? e = some i) (hz : i.zero = some z)
    (hsize : i.size = sz) (hby : i.bytes = bytes) (hzs : z.cells.size = sz) (h0 : 0 < sz)
    (v : Value) (n : Nat) (xs : List Value) (hs : a.eval s = v) (hown : w.ownsRow B e sz v n xs)
    (g : Nat) (ys : List Value) (hx : a.eval x = .slice (some ⟨g, 0, none⟩) 1 1) (hm : ys.length = sz)
    (hc : ∃ T, w.heap[g]? = some (.cells ys.toArray T (0, 0))) (h1 : ∀ u ∈ ys, u.oneCell' = true)
    (h63 : n + 1 ≤ maxLen) (hbytes : (n + 1) * bytes ≤ 140737488355328) (w0 : World) (hbel : Below B w0 w) (hbase : B ≤ w.heap.size)
    (h : ∀ v' w', w'.ownsRow B e sz v' (n + 1) (xs ++ ys) → w.grownBy w' v.ownBlock → Below B w0 w' → B ≤ w'.heap.size → wpList P ops Q rest (a.put o.dst v') w') : wpList P ops Q (o :: rest) a w := by
  obtain ⟨T, hT⟩ := hc
  refine wpList_append_own w hgd s x t ho B e i z sz bytes ht hi hz hsize hby hzs h0 v n xs hs hown ⟨g, 0, none⟩ 1 1 ys hx (by omega) ?_ h1 h63 hbytes hbase fun v' w' hown' hg _ =>
    h v' w' hown' hg (hbel.grown hg hbase (fun k hk => (hown.lt k hk).1)) (Nat.le_trans hbase hg.size)
  intro j u hj
  have e : (⟨g, 0, none⟩ : Addr).add j = ⟨g, j, none⟩ := by unfold Addr.add; split <;> simp_all
  have := cell_of_row w g j ys.toArray T (0, 0) hT
  rw [e, this]; simpa using hj
end

/-! ### the part of memory from a block on -/
def hpFrom (w : World) (B : Nat) : Hp := fun a => if B ≤ a.block then w.cell? a else none
theorem hpFrom_le (w : World) (B : Nat) : (hpFrom w B).le w.cell? := fun a u e => by
  unfold hpFrom at e; split at e
  · exact e
  · cases e
theorem hpFrom_below {w w' : World} (h : Below w.heap.size w w') (B : Nat) : (hpFrom w B).le (hpFrom w' B) := fun a u e => by
  unfold hpFrom at *; split at e
  · rename_i hb; rw [if_pos hb]; exact below_hle h _ _ e
  · cases e
theorem hpFrom_mono (w : World) {B B' : Nat} (h : B' ≤ B) : (hpFrom w B).le (hpFrom w B') := fun a u e => by
  unfold hpFrom at *; split at e
  · rename_i hb; rw [if_pos (by omega)]; exact e
  · cases e
theorem hpFrom_set (w : World) {B : Nat} {p : Addr} (hp : p.block < B) (x : Value) : (hpFrom w B).le (hpFrom (w.setCell p x) B) := fun a u e => by
  unfold hpFrom at *; split at e
  · rename_i hb; rw [if_pos hb, World.cell?_setCell_other w p a x (fun e => by subst e; omega)]; exact e
  · cases e
theorem Own8.readsF {w : World} {B : Nat} {v : Value} {l : List UInt8} (h : Own8 w B v l) : RBytes (hpFrom w B) v l := by
  obtain ⟨A, c, rfl, h1, h2, h3⟩ := h.reads
  refine ⟨A, c, rfl, h1, h2, fun k hk => ?_⟩
  obtain ⟨b, o, cs, hA, hl, he, hc⟩ := h3 k hk
  refine ⟨b, o, cs, hA, hl, he, fun j u hj => ?_⟩
  subst hA
  have := h.lt b rfl
  unfold hpFrom
  rw [if_pos this.1]
  exact hc j u hj

/-! ### rows of elements of several cells -/
theorem flatten_at {sz : Nat} : ∀ (css : List (List Value)), (∀ cs ∈ css, cs.length = sz) → ∀ (k : Nat) (hk : k < css.length) (j : Nat), j < sz → css.flatten[k * sz + j]? = css[k][j]?
  | [], _, k, hk, _, _ => absurd hk (by simp)
  | c :: css, h, 0, _, j, hj => by
    have hc := h c (by simp)
    simp [List.getElem?_append_left, hc, hj]
  | c :: css, h, k + 1, hk, j, hj => by
    have hc := h c (by simp)
    have ih := flatten_at css (fun cs hcs => h cs (by simp [hcs])) k (by simpa using hk) j hj
    rw [List.flatten_cons, List.getElem?_append_right (by rw [hc, Nat.add_mul]; omega)]
    rw [show (k + 1) * sz + j - c.length = k * sz + j from by rw [hc, Nat.add_mul]; omega, ih]
    rfl
theorem SlOf.of_own {α : Type} {E : Hp → List Value → α → Prop} {sz : Nat} {w : World} {B : Nat} {e : TypeId} {v : Value} {l : List α} {css : List (List Value)} {h : Hp}
    (hl : css.length = l.length) (hs : ∀ cs ∈ css, cs.length = sz) (hE : ∀ k (hk : k < l.length), E h (css[k]'(by omega)) l[k]) (hh : ∀ b o u, some b = v.ownBlock → w.cell? ⟨b, o, none⟩ = some u → h ⟨b, o, none⟩ = some u)
    (hown : w.ownsRow B e sz v l.length css.flatten) : SlOf E sz h v l := by
  rcases hown.2 with ⟨rfl, h0⟩ | ⟨g, cap, cur, rfl, _, hg, hn, hm, hcs, ht⟩
  · have : l = [] := List.eq_nil_of_length_eq_zero h0
    subst this
    exact ⟨none, 0, rfl, by simp, by simp [maxLen], fun k hk => absurd hk (by simp)⟩
  · refine ⟨_, cap, rfl, hn, hm, fun k hk => ⟨g, 0, css[k]'(by omega), rfl, hs _ (List.getElem_mem _), hE k hk, fun j u hj => ?_⟩⟩
    have hjs : j < sz := by
      rcases Nat.lt_or_ge j sz with h | h
      · exact h
      · rw [List.getElem?_eq_none (by rw [hs _ (List.getElem_mem _)]; exact h)] at hj; cases hj
    have hf := flatten_at css hs k (by omega) j hjs
    rw [hj] at hf
    have hc := hown.cells (g := g) rfl _ u hf
    refine hh g _ u rfl ?_
    have e : (⟨g, 0, none⟩ : Addr).add (k * sz + j) = ⟨g, 0 + k * sz + j, none⟩ := by
      unfold Addr.add
      split
      · simp
      · simp
    rw [← e]; exact hc
/-- a row of elements that lead nowhere -/
abbrev OwnV (w : World) (B : Nat) (v : Value) (l : List V) : Prop := w.ownsRow B 109 3 v l.length (l.map V.cells).flatten
theorem OwnV.reads {w : World} {B : Nat} {v : Value} {l : List V} (h : OwnV w B v l) : RVals w.cell? v l :=
  SlOf.of_own (css := l.map V.cells) (by simp) (by simp [V.cells]) (by simp [EV]) (fun _ _ _ _ h => h) h
theorem OwnV.snoc {w : World} {B : Nat} {v : Value} {l : List V} {x : V} (h : w.ownsRow B 109 3 v (l.length + 1) ((l.map V.cells).flatten ++ x.cells)) : OwnV w B v (l ++ [x]) := by
  unfold OwnV; rw [List.length_append, List.map_append, List.flatten_append]; simpa using h
theorem own_built_n {w : World} {B g sz : Nat} {e : TypeId} (cs : List Value) (hB : B ≤ w.heap.size) (hl : cs.length = sz) (hg : w.heap.size = g) : (w.alloc (.cells cs.toArray e)).ownsRow B e sz (.slice (some ⟨g, 0, none⟩) 1 1) 1 cs := by
  subst hg
  exact ⟨by simpa using hl, .inr ⟨w.heap.size, 1, cs.toArray, rfl, hB, heap_alloc_new w _, Nat.le_refl _, by simp [maxLen], by simpa using hl, by simp [← hl]⟩⟩

/-! ### api.Column, int, api.Table, api.Index, api.Catalog -/
structure Col where
  name : ByteArray
  kind : Int
  null : Bool
def Col.cells (x : Col) : List Value := [.string x.name, .int .i64 x.kind, .bool x.null]
def ECol (_ : Hp) (cs : List Value) (x : Col) : Prop := cs = x.cells
theorem ECol.mono : Mono ECol := fun _ _ _ _ r _ => r
abbrev RCols (h : Hp) (v : Value) (l : List Col) : Prop := SlOf ECol 3 h v l
theorem RCols.mono {h h' : Hp} {v l} (r : RCols h v l) (hh : h.le h') : RCols h' v l := SlOf.mono ECol.mono r hh
theorem Col.at_ {h : Hp} {A : Option Addr} {l : List Col} (hc : ∀ k (hk : k < l.length), ∃ b o cs, A = some ⟨b, o, none⟩ ∧ cs.length = 3 ∧ ECol h cs l[k] ∧ ∀ j u, cs[j]? = some u → h ⟨b, o + k * 3 + j, none⟩ = some u)
    {k : Nat} (hk : k < l.length) : ∃ b o, A = some ⟨b, o, none⟩ ∧ h ⟨b, o + k * 3, none⟩ = some (.string l[k].name) ∧ h ⟨b, o + k * 3 + 1, none⟩ = some (.int .i64 l[k].kind) ∧ h ⟨b, o + k * 3 + 2, none⟩ = some (.bool l[k].null) := by
  obtain ⟨b, o, cs, hA, _, he, hcc⟩ := hc k hk
  simp only [ECol, Col.cells] at he
  subst he
  exact ⟨b, o, hA, hcc 0 _ rfl, hcc 1 _ rfl, hcc 2 _ rfl⟩

def EInt (_ : Hp) (cs : List Value) (x : Int) : Prop := cs = [.int .i64 x]
theorem EInt.mono : Mono EInt := fun _ _ _ _ r _ => r
abbrev RInts (h : Hp) (v : Value) (l : List Int) : Prop := SlOf EInt 1 h v l
theorem RInts.mono {h h' : Hp} {v l} (r : RInts h v l) (hh : h.le h') : RInts h' v l := SlOf.mono EInt.mono r hh
theorem Ints.at_ {h : Hp} {A : Option Addr} {l : List Int} (hc : ∀ k (hk : k < l.length), ∃ b o cs, A = some ⟨b, o, none⟩ ∧ cs.length = 1 ∧ EInt h cs l[k] ∧ ∀ j u, cs[j]? = some u → h ⟨b, o + k * 1 + j, none⟩ = some u)
    {k : Nat} (hk : k < l.length) : ∃ b o, A = some ⟨b, o, none⟩ ∧ h ⟨b, o + k, none⟩ = some (.int .i64 l[k]) := by
  obtain ⟨b, o, cs, hA, _, he, hcc⟩ := hc k hk
  simp only [EInt] at he
  subst he
  exact ⟨b, o, hA, by simpa using hcc 0 _ rfl⟩

structure Tab where
  id : Int
  name : ByteArray
  cols : List Col
  key : List Int
def ETab (h : Hp) (cs : List Value) (t : Tab) : Prop := ∃ vc vk, cs = [.int .i64 t.id, .string t.name, vc, vk] ∧ RCols h vc t.cols ∧ RInts h vk t.key
theorem ETab.mono : Mono ETab := fun _ _ _ _ ⟨vc, vk, e, h1, h2⟩ hh => ⟨vc, vk, e, h1.mono hh, h2.mono hh⟩
abbrev RTabs (h : Hp) (v : Value) (l : List Tab) : Prop := SlOf ETab 4 h v l
theorem RTabs.mono {h h' : Hp} {v l} (r : RTabs h v l) (hh : h.le h') : RTabs h' v l := SlOf.mono ETab.mono r hh
theorem Tab.at_ {h : Hp} {A : Option Addr} {l : List Tab} (hc : ∀ k (hk : k < l.length), ∃ b o cs, A = some ⟨b, o, none⟩ ∧ cs.length = 4 ∧ ETab h cs l[k] ∧ ∀ j u, cs[j]? = some u → h ⟨b, o + k * 4 + j, none⟩ = some u)
    {k : Nat} (hk : k < l.length) : ∃ b o vc vk, A = some ⟨b, o, none⟩ ∧ RCols h vc l[k].cols ∧ RInts h vk l[k].key ∧ h ⟨b, o + k * 4, none⟩ = some (.int .i64 l[k].id) ∧ h ⟨b, o + k * 4 + 1, none⟩ = some (.string l[k].name) ∧ h ⟨b, o + k * 4 + 2, none⟩ = some vc ∧ h ⟨b, o + k * 4 + 3, none⟩ = some vk := by
  obtain ⟨b, o, cs, hA, _, ⟨vc, vk, he, h1, h2⟩, hcc⟩ := hc k hk
  subst he
  exact ⟨b, o, vc, vk, hA, h1, h2, hcc 0 _ rfl, hcc 1 _ rfl, hcc 2 _ rfl, hcc 3 _ rfl⟩

structure Idx where
  id : Int
  table : Int
  name : ByteArray
  cols : List Int
  uniq : Bool
  state : Int
  bad : Bool
def EIdx (h : Hp) (cs : List Value) (x : Idx) : Prop := ∃ vc, cs = [.int .i64 x.id, .int .i64 x.table, .string x.name, vc, .bool x.uniq, .int .i64 x.state, .bool x.bad] ∧ RInts h vc x.cols
theorem EIdx.mono : Mono EIdx := fun _ _ _ _ ⟨vc, e, h1⟩ hh => ⟨vc, e, h1.mono hh⟩
abbrev RIdxs (h : Hp) (v : Value) (l : List Idx) : Prop := SlOf EIdx 7 h v l
theorem RIdxs.mono {h h' : Hp} {v l} (r : RIdxs h v l) (hh : h.le h') : RIdxs h' v l := SlOf.mono EIdx.mono r hh
theorem Idx.at_ {h : Hp} {A : Option Addr} {l : List Idx} (hc : ∀ k (hk : k < l.length), ∃ b o cs, A = some ⟨b, o, none⟩ ∧ cs.length = 7 ∧ EIdx h cs l[k] ∧ ∀ j u, cs[j]? = some u → h ⟨b, o + k * 7 + j, none⟩ = some u)
    {k : Nat} (hk : k < l.length) : ∃ b o vc, A = some ⟨b, o, none⟩ ∧ RInts h vc l[k].cols ∧ h ⟨b, o + k * 7, none⟩ = some (.int .i64 l[k].id) ∧ h ⟨b, o + k * 7 + 1, none⟩ = some (.int .i64 l[k].table) ∧ h ⟨b, o + k * 7 + 2, none⟩ = some (.string l[k].name) ∧ h ⟨b, o + k * 7 + 3, none⟩ = some vc ∧ h ⟨b, o + k * 7 + 4, none⟩ = some (.bool l[k].uniq) ∧ h ⟨b, o + k * 7 + 5, none⟩ = some (.int .i64 l[k].state) ∧ h ⟨b, o + k * 7 + 6, none⟩ = some (.bool l[k].bad) := by
  obtain ⟨b, o, cs, hA, _, ⟨vc, he, h1⟩, hcc⟩ := hc k hk
  subst he
  exact ⟨b, o, vc, hA, h1, hcc 0 _ rfl, hcc 1 _ rfl, hcc 2 _ rfl, hcc 3 _ rfl, hcc 4 _ rfl, hcc 5 _ rfl, hcc 6 _ rfl⟩

structure Cat where
  version : Int
  next : Int
  tabs : List Tab
  idxs : List Idx
def ECat (h : Hp) (cs : List Value) (x : Cat) : Prop := ∃ vt vi, cs = [.int .i64 x.version, .int .i64 x.next, vt, vi] ∧ RTabs h vt x.tabs ∧ RIdxs h vi x.idxs
theorem ECat.mono : Mono ECat := fun _ _ _ _ ⟨vt, vi, e, h1, h2⟩ hh => ⟨vt, vi, e, h1.mono hh, h2.mono hh⟩

/-! ### api.Pair -/
structure Pr where
  key : List UInt8
  val : List UInt8
  ver : Int
def EPr (h : Hp) (cs : List Value) (p : Pr) : Prop := ∃ vk vv, cs = [vk, vv, .int .i64 p.ver] ∧ RBytes h vk p.key ∧ RBytes h vv p.val
theorem EPr.mono : Mono EPr := fun _ _ _ _ ⟨vk, vv, e, h1, h2⟩ hh => ⟨vk, vv, e, h1.mono hh, h2.mono hh⟩
abbrev RPrs (h : Hp) (v : Value) (l : List Pr) : Prop := SlOf EPr 3 h v l
theorem RPrs.mono {h h' : Hp} {v l} (r : RPrs h v l) (hh : h.le h') : RPrs h' v l := SlOf.mono EPr.mono r hh
theorem RBytes.none_ (h : Hp) : RBytes h (.slice none 0 0) [] := ⟨none, 0, rfl, by simp, by simp [maxLen], fun k hk => absurd hk (by simp)⟩

/-! ### a region that draws its order, in the class of the worlds that go on from one -/
structure Ext (w : World) where
  val : World
  h : Below w.heap.size w val
instance (w : World) : Nonempty (Ext w) := ⟨⟨w, Below.refl _ _⟩⟩
theorem Ext.calls {P : Program} {f : FuncId} {args : Array Value} {w : World} {d : Ext w} {v : Value} (h : Calls P f args d.val fun e w'' => e = .returned v ∧ Below d.val.heap.size d.val w'') :
    Calls P f args d.val fun e w'' => e = .returned v ∧ ∃ d' : Ext w, w'' = d'.val :=
  h.mono fun _ w'' ⟨he, hb⟩ => ⟨he, ⟨w'', d.h.trans (hb.mono d.h.size)⟩, rfl⟩
theorem Ext.keeps {w : World} (d : Ext w) {a : Addr} {u : Value} (h : w.cell? a = some u) : d.val.cell? a = some u := below_hle d.h _ _ h

theorem wp_region_ext {P : Program} {id : Nat} {Q : Exit → Act → World → Prop} {a : Act} {w : World} {l : List Oper} (hm : P.follows .mixedOrders = true) (hB : Region.lexB .any l.toArray = true)
    (h : wpQuiet P l.toArray (fun w' => ∃ d : Ext w, w' = d.val) (fun a' => ∀ w', Below w.heap.size w w' → Q .normal a' w') l a) : (Code.region id l.toArray true).wp P Q a w :=
  wp_region_quiet (C := fun w' => ∃ d : Ext w, w' = d.val) hm hB ⟨⟨w.drew, (Below.refl _ _).drew⟩, rfl⟩ (by
    have : (fun a' => ∀ w', (∃ d : Ext w, w' = d.val) → Q .normal a' w') = (fun a' => ∀ w', Below w.heap.size w w' → Q .normal a' w') := by
      funext a'; apply propext; exact ⟨fun k w' hw => k w' ⟨⟨w', hw⟩, rfl⟩, fun k w' ⟨d, hd⟩ => k w' (hd ▸ d.h)⟩
    rw [this]
    simpa using h)

/-- A CALL OF A FUNCTION THAT HAS A Go BODY: it is entered. -/
theorem run_enter {P : Program} {f : FuncId} {fn : Func} {c : Code} (hf : P.funcs[f]? = some fn) (hname : (fn.name == "runtime.NumGoroutine") = false) (hb : fn.body = some c) (args : Array Value) (w : World) :
    (callFunc f args).run P w = .ok (.enter f args) w := by
  have h1 : fn.name ≠ "runtime.NumGoroutine" := by simpa using hname
  simp [callFunc, hf, h1, hb]

/-- the place of the first that p says yes to, or -1 -/
def idx {α : Type} (p : α → Bool) (l : List α) : Int := match l.findIdx? p with | some k => (k : Int) | none => -1
theorem idx_hit {α : Type} {p : α → Bool} {l : List α} {k : Nat} (hk : k < l.length) (hp : p l[k] = true) (hno : ∀ j (hj : j < l.length), j < k → p l[j] = false) : idx p l = k := by
  have : l.findIdx? p = some k := by
    rw [List.findIdx?_eq_some_iff_getElem]
    exact ⟨hk, hp, fun j hj => by simp [hno j (by omega) hj]⟩
  simp [idx, this]
theorem idx_none {α : Type} {p : α → Bool} {l : List α} (hno : ∀ j (hj : j < l.length), p l[j] = false) : idx p l = -1 := by
  have : l.findIdx? p = none := by
    rw [List.findIdx?_eq_none_iff]
    intro x hx
    obtain ⟨j, hj, rfl⟩ := List.getElem_of_mem hx
    exact hno j hj
  simp [idx, this]
theorem idx_any {α : Type} (p : α → Bool) (l : List α) : decide (0 ≤ idx p l) = l.any p := by
  rw [Bool.eq_iff_iff]
  cases h : l.findIdx? p with
  | none =>
    have := List.findIdx?_eq_none_iff.1 h
    simp [idx, h]
    intro x hx
    simpa using this x hx
  | some k =>
    obtain ⟨hk, hp, _⟩ := List.findIdx?_eq_some_iff_getElem.1 h
    simp [idx, h]
    exact ⟨_, List.getElem_mem hk, hp⟩
end Go.Proofs.YtdinnaijfemmbaaGreatDoor
