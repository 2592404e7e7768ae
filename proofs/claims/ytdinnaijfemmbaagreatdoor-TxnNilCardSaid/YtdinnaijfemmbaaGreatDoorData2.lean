/- Words for memory, on: rows whose elements lead on. No program. -/
import Derived.Test.YtdinnaijfemmbaaGreatDoorData
import Derived.Maps.AppendAt
namespace Go.Proofs.YtdinnaijfemmbaaGreatDoor
open Go.RowKit

def One {α : Type} (E : Hp → List Value → α → Prop) : Prop := ∀ h cs x, E h cs x → ∀ u ∈ cs, u.oneCell' = true
theorem EV.one : One EV := by intro h cs x e u hu; simp only [EV, V.cells] at e; subst e; simp at hu; rcases hu with rfl | rfl | rfl <;> rfl
theorem ECol.one : One ECol := by intro h cs x e u hu; simp only [ECol, Col.cells] at e; subst e; simp at hu; rcases hu with rfl | rfl | rfl <;> rfl
theorem EInt.one : One EInt := by intro h cs x e u hu; simp only [EInt] at e; subst e; simp at hu; subst hu; rfl
theorem E8.one : One E8 := by intro h cs x e u hu; simp only [E8] at e; subst e; simp at hu; subst hu; rfl
theorem SlOf.shape {α : Type} {E : Hp → List Value → α → Prop} {sz : Nat} {h : Hp} {v : Value} {l : List α} (r : SlOf E sz h v l) : ∃ A c, v = .slice A l.length c := let ⟨A, c, e, _⟩ := r; ⟨A, c, e⟩
theorem SlOf.oneC {α : Type} {E : Hp → List Value → α → Prop} {sz : Nat} {h : Hp} {v : Value} {l : List α} (r : SlOf E sz h v l) : v.oneCell' = true := by obtain ⟨A, c, rfl⟩ := r.shape; rfl
theorem ETab.one : One ETab := by
  intro h cs x ⟨vc, vk, e, h1, h2⟩ u hu; subst e; simp at hu
  rcases hu with rfl | rfl | rfl | rfl
  · rfl
  · rfl
  · exact h1.oneC
  · exact h2.oneC
theorem EIdx.one : One EIdx := by
  intro h cs x ⟨vc, e, h1⟩ u hu; subst e; simp at hu
  rcases hu with rfl | rfl | rfl | rfl | rfl | rfl | rfl <;> first | rfl | exact h1.oneC
theorem EPr.one : One EPr := by
  intro h cs x ⟨vc, vk, e, h1, h2⟩ u hu; subst e; simp at hu
  rcases hu with rfl | rfl | rfl
  · exact h1.oneC
  · exact h2.oneC
  · rfl

/-- a reading, its cells in a row -/
theorem SlOf.flat {α : Type} {E : Hp → List Value → α → Prop} {sz : Nat} {h : Hp} {v : Value} {l : List α} (r : SlOf E sz h v l) :
    ∃ (A : Option Addr) (c : Nat) (css : List (List Value)), v = .slice A l.length c ∧ l.length ≤ c ∧ c ≤ maxLen ∧ css.length = l.length ∧ (∀ cs ∈ css, cs.length = sz) ∧ (∀ k (hk : k < l.length) (hk' : k < css.length), E h css[k] l[k]) ∧
      ∀ j u, css.flatten[j]? = some u → ∃ b o, A = some ⟨b, o, none⟩ ∧ h ⟨b, o + j, none⟩ = some u := by
  obtain ⟨A, c, rfl, h1, h2, h3⟩ := r
  let f : Nat → List Value := fun k => if hk : k < l.length then (h3 k hk).choose_spec.choose_spec.choose else []
  have hf : ∀ k (hk : k < l.length), ∃ b o, A = some ⟨b, o, none⟩ ∧ (f k).length = sz ∧ E h (f k) l[k] ∧ ∀ j u, (f k)[j]? = some u → h ⟨b, o + k * sz + j, none⟩ = some u := fun k hk => by
    have := (h3 k hk).choose_spec.choose_spec.choose_spec
    simp only [f, hk, dif_pos]
    exact ⟨_, _, this⟩
  have hcs : ∀ cs ∈ (List.range l.length).map f, cs.length = sz := by
    intro cs hcs
    simp at hcs
    obtain ⟨k, hk, rfl⟩ := hcs
    obtain ⟨_, _, _, hl, _⟩ := hf k hk
    exact hl
  refine ⟨A, c, (List.range l.length).map f, rfl, h1, h2, by simp, hcs, ?_, ?_⟩
  · intro k hk hk'
    obtain ⟨_, _, _, _, he, _⟩ := hf k hk
    simpa using he
  · intro j u hj
    have hjl : j < l.length * sz := by
      have := (List.getElem?_eq_some_iff.1 hj).1
      rw [List.length_flatten] at this
      have e : (List.map List.length ((List.range l.length).map f)) = List.replicate l.length sz := by
        rw [List.eq_replicate_iff]
        refine ⟨by simp, fun b hb => ?_⟩
        rw [List.mem_map] at hb
        obtain ⟨cs, hc, rfl⟩ := hb
        exact hcs cs hc
      rw [e] at this
      simpa using this
    have hsz : 0 < sz := by
      rcases Nat.eq_zero_or_pos sz with h | h
      · subst h; simp at hjl
      · exact h
    have hk : j / sz < l.length := Nat.div_lt_of_lt_mul (by rw [Nat.mul_comm]; exact hjl)
    have hm : j % sz < sz := Nat.mod_lt _ hsz
    obtain ⟨b, o, hA, hl, _, hc⟩ := hf (j / sz) hk
    refine ⟨b, o, hA, ?_⟩
    have := flatten_at ((List.range l.length).map f) hcs (j / sz) (by simpa using hk) (j % sz) hm
    rw [Nat.div_add_mod' j sz, hj] at this
    have h4 := hc (j % sz) u (by simpa using this.symm)
    rwa [Nat.add_assoc, Nat.div_add_mod' j sz] at h4

theorem blk_set {w : World} {g : Nat} {cs : Array Value} {T : TypeId} (h : w.heap[g]? = some (.cells cs T (0, 0))) (i : Nat) (u : Value) : (w.setCell ⟨g, i, none⟩ u).heap[g]? = some (.cells (cs.setIfInBounds i u) T (0, 0)) := by
  simp [World.setCell, Array.getElem?_modify, h]
theorem blk_far {w : World} {g : Nat} {o : Obj} (h : w.heap[g]? = some o) {p : Addr} (hp : g ≠ p.block) (u : Value) : (w.setCell p u).heap[g]? = some o := (Below.heap_setCell w p u g hp).trans h
section
variable {P : Program} (w : World)
/-- out = append(out, src...): what is appended reads as ys (nil, empty or not), sz cells an element -/
theorem wpList_append_src {ops : Array Oper} {rest : List Oper} {o : Oper} {a : Act} {Q : Exit → Act → World → Prop} (hgd : o.guard = none) (s x : Operand) (t : TypeId)
    (ho : o.op = .call { callee := .builtin .append, args := #[s, x], argTypes := #[t, t] })
    (B : Nat) (e : TypeId) (i : TypeInfo) (z : Value) (sz bytes : Nat) (ht : P.underlying t = some (.slice e)) (hi : P.info? e = some i) (hz : i.zero = some z)
    (hsize : i.size = sz) (hby : i.bytes = bytes) (hzs : z.cells.size = sz) (h0 : 0 < sz)
    (v : Value) (n : Nat) (xs : List Value) (hs : a.eval s = v) (hown : w.ownsRow B e sz v n xs)
    (A : Option Addr) (m c : Nat) (ys : List Value) (hx : a.eval x = .slice A m c) (hm : ys.length = m * sz)
    (hc : ∀ k u, ys[k]? = some u → ∃ b o, A = some ⟨b, o, none⟩ ∧ w.cell? ⟨b, o + k, none⟩ = some u) (h1 : ∀ u ∈ ys, u.oneCell' = true)
    (h63 : n + m ≤ maxLen) (hbytes : (n + m) * bytes ≤ 140737488355328) (w0 : World) (hbel : Below B w0 w) (hbase : B ≤ w.heap.size)
    (h : ∀ v' w', w'.ownsRow B e sz v' (n + m) (xs ++ ys) → w.grownBy w' v.ownBlock → Below B w0 w' → B ≤ w'.heap.size → wpList P ops Q rest (a.put o.dst v') w') : wpList P ops Q (o :: rest) a w := by
  have hg0 : ∀ {v' w'}, w'.ownsRow B e sz v' (n + m) (xs ++ ys) → w.grownBy w' v.ownBlock → wpList P ops Q rest (a.put o.dst v') w' := fun hown' hg =>
    h _ _ hown' hg (hbel.grown hg hbase (fun k hk => (hown.lt k hk).1)) (Nat.le_trans hbase hg.size)
  by_cases hn : A = none
  · subst hn
    have hy : ys = [] := by
      cases ys with
      | nil => rfl
      | cons y ys => obtain ⟨b, o, h, _⟩ := hc 0 y rfl; cases h
    subst hy
    have h0 : m = 0 := by
      rcases Nat.eq_zero_or_pos m with h | h
      · exact h
      · have := Nat.mul_pos h h0; simp at hm; omega
    subst h0
    have hr := run_append_nilsrc (P := P) w B t o.type e i sz ht hi v n xs hown c
    refine wpList_plain hgd fun K hK => ?_
    unfold Oper.wp execOp
    simp only [ho, resolve, invoke, builtin, Sem.run_bind, Sem.run_pure, Result.andThen_ok, List.map_toArray, List.map_cons, List.map_nil, hs, hx, hr]
    exact hK _ _ (hg0 (by simpa using hown) ⟨rfl, rfl, rfl, Nat.le_refl _, fun _ _ _ => rfl⟩)
  · obtain ⟨ad, rfl⟩ := Option.ne_none_iff_exists'.1 hn
    refine wpList_append_own w hgd s x t ho B e i z sz bytes ht hi hz hsize hby hzs h0 v n xs hs hown ad m c ys hx hm ?_ h1 h63 hbytes hbase fun v' w' hown' hg _ => hg0 hown' hg
    intro j u hj
    obtain ⟨b, o, hA, hcell⟩ := hc j u hj
    injection hA with hA
    subst hA
    have e : (⟨b, o, none⟩ : Addr).add j = ⟨b, o + j, none⟩ := by unfold Addr.add; split <;> simp_all
    rw [e]; exact hcell
end

/-- memory in some blocks alone -/
def hpOk (ok : Nat → Bool) (w : World) : Hp := fun a => if ok a.block = true then w.cell? a else none
theorem hpOk_le {ok : Nat → Bool} {w w' : World} (h : ∀ b, ok b = true → b < w.heap.size → w'.heap[b]? = w.heap[b]?) : (hpOk ok w).le (hpOk ok w') := fun a u e => by
  unfold hpOk at *; split at e
  · rename_i hb
    rw [if_pos hb, World.cell?_of_block (h a.block hb (World.block_lt_of_cell? w a e))]
    exact e
  · cases e
theorem hpOk_below {ok : Nat → Bool} {w w' : World} (h : Below w.heap.size w w') : (hpOk ok w).le (hpOk ok w') := hpOk_le fun b _ hb => h.block b hb
theorem hpOk_set {ok : Nat → Bool} {w : World} {p : Addr} (hp : ok p.block = false) (x : Value) : (hpOk ok w).le (hpOk ok (w.setCell p x)) :=
  hpOk_le fun b hb _ => Below.heap_setCell w p x b (fun e => by subst e; rw [hp] at hb; cases hb)
theorem hpOk_grown {ok : Nat → Bool} {w w' : World} {row : Option Nat} (hg : w.grownBy w' row) (hr : ∀ g, row = some g → ok g = false) : (hpOk ok w).le (hpOk ok w') :=
  hpOk_le fun b hb hl => hg.block b hl (fun e => by rw [hr b e.symm] at hb; cases hb)
theorem hpOk_cell (ok : Nat → Bool) (w : World) : (hpOk ok w).le w.cell? := fun a u e => by
  unfold hpOk at e; split at e
  · exact e
  · cases e
theorem hpOk_from {ok : Nat → Bool} {w : World} {B : Nat} (h : ∀ b, ok b = true → B ≤ b) : (hpOk ok w).le (hpFrom w B) := fun a u e => by
  unfold hpOk at e; split at e
  · rename_i hb; unfold hpFrom; rw [if_pos (h _ hb)]; exact e
  · cases e

/-- memory but for some blocks, and for a row's own -/
def hpBut (ok : Nat → Bool) (w : World) (v : Value) : Hp := fun a => if ok a.block = true ∧ some a.block ≠ v.ownBlock then w.cell? a else none
theorem hpBut_le (ok : Nat → Bool) (w : World) (v : Value) : (hpBut ok w v).le w.cell? := fun a u e => by
  unfold hpBut at e; split at e
  · exact e
  · cases e
theorem hpBut_below {ok : Nat → Bool} {w w' : World} {v : Value} (h : Below w.heap.size w w') : (hpBut ok w v).le (hpBut ok w' v) := fun a u e => by
  unfold hpBut at *; split at e
  · rename_i hb; rw [if_pos hb]; exact below_hle h _ _ e
  · cases e
theorem hpBut_set {ok : Nat → Bool} {w : World} {v : Value} {p : Addr} (hp : ok p.block = false) (x : Value) : (hpBut ok w v).le (hpBut ok (w.setCell p x) v) := fun a u e => by
  unfold hpBut at *; split at e
  · rename_i hb; rw [if_pos hb, World.cell?_setCell_other w p a x (fun e => by subst e; rw [hp] at hb; exact absurd hb.1 (by simp))]; exact e
  · cases e
theorem hpFrom_but {ok : Nat → Bool} {w : World} {v : Value} {F : Nat} (hok : ∀ b, F ≤ b → ok b = true) (hF : ∀ g, v.ownBlock = some g → g < F) : (hpFrom w F).le (hpBut ok w v) := fun a u e => by
  unfold hpFrom at e; split at e
  · rename_i hb
    unfold hpBut
    rw [if_pos ⟨hok _ hb, fun e2 => by have := hF _ e2.symm; omega⟩]
    exact e
  · cases e
/-- a row of the call's own whose elements read (their own memory lies outside the row, and outside blocks that are not ok) -/
def OwnOf {α : Type} (E : Hp → List Value → α → Prop) (e : TypeId) (sz : Nat) (w : World) (B : Nat) (v : Value) (l : List α) (ok : Nat → Bool := fun _ => true) : Prop :=
  ∃ css : List (List Value), css.length = l.length ∧ (∀ cs ∈ css, cs.length = sz) ∧
    (∀ k (hk : k < l.length) (hk' : k < css.length), E (hpBut ok w v) css[k] l[k]) ∧ w.ownsRow B e sz v l.length css.flatten
section
variable {α : Type} {E : Hp → List Value → α → Prop} {ok : Nat → Bool} {e : TypeId} {sz : Nat} {w w' : World} {B : Nat} {v v' : Value} {l : List α}
theorem OwnOf.readsG (hE : Mono E) {h : Hp} (hh : (hpBut ok w v).le h) (hh2 : ∀ b o u, some b = v.ownBlock → w.cell? ⟨b, o, none⟩ = some u → h ⟨b, o, none⟩ = some u) (r : OwnOf E e sz w B v l ok) : SlOf E sz h v l := by
  obtain ⟨css, h1, h2, h3, h4⟩ := r
  exact SlOf.of_own h1 h2 (fun k hk => hE _ _ _ _ (h3 k hk (by omega)) hh) hh2 h4
theorem OwnOf.reads (hE : Mono E) (r : OwnOf E e sz w B v l ok) : SlOf E sz w.cell? v l := r.readsG hE (hpBut_le _ _ _) (fun _ _ _ _ h => h)
theorem OwnOf.lt (r : OwnOf E e sz w B v l ok) : ∀ g, v.ownBlock = some g → B ≤ g ∧ g < w.heap.size := by
  obtain ⟨css, _, _, _, h4⟩ := r
  exact fun g hg => h4.lt g hg
theorem OwnOf.nil_ (w : World) (B : Nat) : OwnOf E e sz w B (.slice none 0 0) ([] : List α) ok :=
  ⟨[], rfl, by simp, fun k hk => absurd hk (by simp), World.ownsRow_nil _ _ _ _⟩
/-- what is owned stays owned where nothing old is touched -/
theorem OwnOf.below (hE : Mono E) (h : OwnOf E e sz w B v l ok) (hb : Below w.heap.size w w') : OwnOf E e sz w' B v l ok := by
  obtain ⟨css, h1, h2, h3, h4⟩ := h
  exact ⟨css, h1, h2, fun k hk hk' => hE _ _ _ _ (h3 k hk hk') (hpBut_below hb), own_below h4 hb⟩
/-- .. where a block is written that is not ok -/
theorem OwnOf.set (hE : Mono E) (h : OwnOf E e sz w B v l ok) {p : Addr} (hp : ok p.block = false) (hne : ∀ g, v.ownBlock = some g → g ≠ p.block) (x : Value) : OwnOf E e sz (w.setCell p x) B v l ok := by
  obtain ⟨css, h1, h2, h3, h4⟩ := h
  refine ⟨css, h1, h2, fun k hk hk' => hE _ _ _ _ (h3 k hk hk') (hpBut_set hp x), ?_⟩
  refine h4.kept (row := some p.block) ⟨rfl, rfl, rfl, by simp [World.setCell], fun k _ hk => Below.heap_setCell w p x k (fun e => hk (by rw [e]))⟩ (.inr ?_)
  intro e; exact hne _ e rfl
theorem OwnOf.base (h : OwnOf E e sz w B v l ok) {B' : Nat} (hB : B' ≤ B) : OwnOf E e sz w B' v l ok := by
  obtain ⟨css, h1, h2, h3, h4⟩ := h
  exact ⟨css, h1, h2, h3, own_base h4 hB⟩
/-- one more: behind the law on append -/
theorem OwnOf.snoc (hE : Mono E) {css : List (List Value)} {x : α} {cs : List Value}
    (h1 : css.length = l.length) (h2 : ∀ cs ∈ css, cs.length = sz) (h3 : ∀ k (hk : k < l.length) (hk' : k < css.length), E (hpBut ok w v) css[k] l[k])
    (hx : E (hpBut ok w v) cs x) (hl : cs.length = sz) (hg : w.grownBy w' v.ownBlock) (hat : v'.ownBlock = v.ownBlock ∨ v'.ownBlock = some w.heap.size)
    (hown : w'.ownsRow B e sz v' (l.length + 1) (css.flatten ++ cs)) : OwnOf E e sz w' B v' (l ++ [x]) ok := by
  have key : (hpBut ok w v).le (hpBut ok w' v') := fun a u e => by
    unfold hpBut at e ⊢
    split at e
    · rename_i hn
      have hlt := World.block_lt_of_cell? w a e
      have hc := World.cell?_of_block (a := a) (hg.block a.block hlt hn.2)
      rw [if_pos, hc]
      · exact e
      · refine ⟨hn.1, ?_⟩
        rcases hat with hh | hh
        · rw [hh]; exact hn.2
        · rw [hh]; intro e; injection e with e; omega
    · cases e
  refine ⟨css ++ [cs], by simp [h1], ?_, ?_, by simpa using hown⟩
  · intro c hc
    simp at hc
    rcases hc with hc | rfl
    · exact h2 c hc
    · exact hl
  · intro k hk hk'
    rcases Nat.lt_or_ge k l.length with h | h
    · rw [List.getElem_append_left (by omega), List.getElem_append_left h]
      exact hE _ _ _ _ (h3 k h (by omega)) key
    · have : k = l.length := by simp at hk; omega
      subst this
      rw [List.getElem_append_right (by omega), List.getElem_append_right (by omega)]
      simp [h1]
      exact hE _ _ _ _ hx key
end

section
variable {P : Program} (w : World)
/-- out = append(out, x), x one element which lies in a block of its own (buildSlice) and reads in memory that is not out's own -/
theorem wp_append_of {α : Type} {E : Hp → List Value → α → Prop} (hE : Mono E) {o : Oper} {a : Act} {K : Act → World → Prop} {Q : Exit → Act → World → Prop} (s x : Operand) (t : TypeId)
    (ho : o.op = .call { callee := .builtin .append, args := #[s, x], argTypes := #[t, t] })
    (B : Nat) (e : TypeId) (i : TypeInfo) (z : Value) (sz bytes : Nat) (ht : P.underlying t = some (.slice e)) (hi : P.info? e = some i) (hz : i.zero = some z)
    (hsize : i.size = sz) (hby : i.bytes = bytes) (hzs : z.cells.size = sz) (h0 : 0 < sz)
    (v : Value) (l : List α) (hs : a.eval s = v) (ok : Nat → Bool) (hown : OwnOf E e sz w B v l ok)
    (g : Nat) (ys : List Value) (y : α) (hx : a.eval x = .slice (some ⟨g, 0, none⟩) 1 1) (hm : ys.length = sz)
    (hc : ∃ T, w.heap[g]? = some (.cells ys.toArray T (0, 0))) (h1 : ∀ u ∈ ys, u.oneCell' = true)
    (hy : E (hpBut ok w v) ys y)
    (h63 : l.length + 1 ≤ maxLen) (hbytes : (l.length + 1) * bytes ≤ 140737488355328) (w0 : World) (hbel : Below B w0 w) (hbase : B ≤ w.heap.size)
    (h : ∀ v' w', OwnOf E e sz w' B v' (l ++ [y]) ok → w.grownBy w' v.ownBlock → (v'.ownBlock = v.ownBlock ∨ v'.ownBlock = some w.heap.size) → Below B w0 w' → B ≤ w'.heap.size → K (a.put o.dst v') w') : o.wp P a w K Q := by
  obtain ⟨T, hT⟩ := hc
  obtain ⟨css, e1, e2, e3, e4⟩ := hown
  have hcells : ∀ j u, ys[j]? = some u → w.cell? ((⟨g, 0, none⟩ : Addr).add j) = some u := by
    intro j u hj
    have e : (⟨g, 0, none⟩ : Addr).add j = ⟨g, j, none⟩ := by unfold Addr.add; split <;> simp_all
    have := cell_of_row w g j ys.toArray T (0, 0) hT
    rw [e, this]; simpa using hj
  obtain ⟨v', w', hr, h2, h3, _, h5⟩ := run_append_own_at (P := P) w B t o.type e i z sz bytes ht hi hz hsize hby hzs h0 v l.length css.flatten e4 ⟨g, 0, none⟩ 1 1 ys (by omega) hcells h1 h63 hbytes hbase
  unfold Oper.wp execOp
  simp only [ho, resolve, invoke, builtin, Sem.run_bind, Sem.run_pure, Result.andThen_ok, List.map_toArray, List.map_cons, List.map_nil, hs, hx, hr]
  exact h v' w' (OwnOf.snoc hE e1 e2 e3 hy hm h3 h5 h2) h3 h5 (hbel.grown h3 hbase (fun k hk => (e4.lt k hk).1)) (Nat.le_trans hbase h3.size)
theorem wpList_append_of {α : Type} {E : Hp → List Value → α → Prop} (hE : Mono E) {ops : Array Oper} {rest : List Oper} {o : Oper} {a : Act} {Q : Exit → Act → World → Prop} (hgd : o.guard = none) (s x : Operand) (t : TypeId)
    (ho : o.op = .call { callee := .builtin .append, args := #[s, x], argTypes := #[t, t] })
    (B : Nat) (e : TypeId) (i : TypeInfo) (z : Value) (sz bytes : Nat) (ht : P.underlying t = some (.slice e)) (hi : P.info? e = some i) (hz : i.zero = some z)
    (hsize : i.size = sz) (hby : i.bytes = bytes) (hzs : z.cells.size = sz) (h0 : 0 < sz)
    (v : Value) (l : List α) (hs : a.eval s = v) (ok : Nat → Bool) (hown : OwnOf E e sz w B v l ok)
    (g : Nat) (ys : List Value) (y : α) (hx : a.eval x = .slice (some ⟨g, 0, none⟩) 1 1) (hm : ys.length = sz)
    (hc : ∃ T, w.heap[g]? = some (.cells ys.toArray T (0, 0))) (h1 : ∀ u ∈ ys, u.oneCell' = true)
    (hy : E (hpBut ok w v) ys y)
    (h63 : l.length + 1 ≤ maxLen) (hbytes : (l.length + 1) * bytes ≤ 140737488355328) (w0 : World) (hbel : Below B w0 w) (hbase : B ≤ w.heap.size)
    (h : ∀ v' w', OwnOf E e sz w' B v' (l ++ [y]) ok → w.grownBy w' v.ownBlock → (v'.ownBlock = v.ownBlock ∨ v'.ownBlock = some w.heap.size) → Below B w0 w' → B ≤ w'.heap.size → wpList P ops Q rest (a.put o.dst v') w') : wpList P ops Q (o :: rest) a w :=
  wpList_plain hgd fun _ hK => wp_append_of w hE s x t ho B e i z sz bytes ht hi hz hsize hby hzs h0 v l hs ok hown g ys y hx hm hc h1 hy h63 hbytes w0 hbel hbase fun v' w' a b c d f => hK _ _ (h v' w' a b c d f)
theorem step_append_of {α : Type} {E : Hp → List Value → α → Prop} (hE : Mono E) {ops : Array Oper} {o : Oper} {a : Act} {K : Act → World → Prop} {Q : Exit → Act → World → Prop} {X : Prop} (hgd : o.guard = none) (s x : Operand) (t : TypeId)
    (ho : o.op = .call { callee := .builtin .append, args := #[s, x], argTypes := #[t, t] })
    (B : Nat) (e : TypeId) (i : TypeInfo) (z : Value) (sz bytes : Nat) (ht : P.underlying t = some (.slice e)) (hi : P.info? e = some i) (hz : i.zero = some z)
    (hsize : i.size = sz) (hby : i.bytes = bytes) (hzs : z.cells.size = sz) (h0 : 0 < sz)
    (v : Value) (l : List α) (hs : a.eval s = v) (ok : Nat → Bool) (hown : OwnOf E e sz w B v l ok)
    (g : Nat) (ys : List Value) (y : α) (hx : a.eval x = .slice (some ⟨g, 0, none⟩) 1 1) (hm : ys.length = sz)
    (hc : ∃ T, w.heap[g]? = some (.cells ys.toArray T (0, 0))) (h1 : ∀ u ∈ ys, u.oneCell' = true)
    (hy : E (hpBut ok w v) ys y)
    (h63 : l.length + 1 ≤ maxLen) (hbytes : (l.length + 1) * bytes ≤ 140737488355328) (w0 : World) (hbel : Below B w0 w) (hbase : B ≤ w.heap.size)
    (h : ∀ v' w', OwnOf E e sz w' B v' (l ++ [y]) ok → w.grownBy w' v.ownBlock → (v'.ownBlock = v.ownBlock ∨ v'.ownBlock = some w.heap.size) → Below B w0 w' → B ≤ w'.heap.size → K (a.put o.dst v') w') :
    if Region.wanted o (yielded ops a.tmps) = true then Oper.wp P o a w K Q else X := by
  have hw : Region.wanted o (yielded ops a.tmps) = true := by simp [Region.wanted, hgd]
  rw [if_pos hw]
  exact wp_append_of w hE s x t ho B e i z sz bytes ht hi hz hsize hby hzs h0 v l hs ok hown g ys y hx hm hc h1 hy h63 hbytes w0 hbel hbase h
end
end Go.Proofs.YtdinnaijfemmbaaGreatDoor
