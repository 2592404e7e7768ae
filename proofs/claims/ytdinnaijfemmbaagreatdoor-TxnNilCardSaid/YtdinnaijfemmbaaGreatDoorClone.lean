/- slices.Clone at elements that lead nowhere. Printed by gen_clone.py. -/
import Derived.Test.YtdinnaijfemmbaaGreatDoorChecked
import Derived.Test.YtdinnaijfemmbaaGreatDoorData2
import Derived.WalkLawsBesides
import Derived.WalkSpells
import Derived.Lib.Hide
namespace Go.Proofs.YtdinnaijfemmbaaGreatDoor
open Go.RowKit
set_option maxRecDepth 100000
theorem OwnOf.flat {α : Type} {E : Hp → List Value → α → Prop} (hE : ∀ h h' cs x, E h cs x → E h' cs x) {e : TypeId} {sz : Nat} {w : World} {B : Nat} {v : Value} {l : List α} {css : List (List Value)} {h : Hp}
    (e1 : css.length = l.length) (e2 : ∀ cs ∈ css, cs.length = sz) (e3 : ∀ k (hk : k < l.length) (hk' : k < css.length), E h css[k] l[k]) (hown : w.ownsRow B e sz v l.length css.flatten) : OwnOf E e sz w B v l :=
  ⟨css, e1, e2, fun k hk hk' => hE _ _ _ _ (e3 k hk hk'), hown⟩
theorem flat_one {α : Type} {E : Hp → List Value → α → Prop} (hE : One E) {h : Hp} {css : List (List Value)} {l : List α} (e1 : css.length = l.length) (e3 : ∀ k (hk : k < l.length) (hk' : k < css.length), E h css[k] l[k]) : ∀ u ∈ css.flatten, u.oneCell' = true := by
  intro u hu
  simp only [List.mem_flatten] at hu
  obtain ⟨cs, hcs, hu⟩ := hu
  obtain ⟨k, hk, rfl⟩ := List.mem_iff_getElem.1 hcs
  exact hE _ _ _ (e3 k (by omega) hk) u hu
theorem flat_len {css : List (List Value)} {sz n : Nat} (e1 : css.length = n) (e2 : ∀ cs ∈ css, cs.length = sz) : css.flatten.length = n * sz := by
  subst e1
  induction css with
  | nil => simp
  | cons c css ih => rw [List.flatten_cons, List.length_append, e2 c (by simp), ih (fun cs h => e2 cs (by simp [h])), List.length_cons, Nat.add_mul]; omega

theorem info_u8' : (Tryz.prog.info? 5).map (fun i => (i.zero, i.size, i.bytes)) = some (some (.int .u8 0), 1, 1) := by kernel_rfl
theorem clone_u8 (l : List UInt8) (v : Value) (w : World) (hr : SlOf E8 1 w.cell? v l) (hl : l.length ≤ 16777216) :
    Calls Tryz.prog 57 #[v] w fun e w' => ∃ v', e = .returned v' ∧ OwnOf E8 5 1 w' w.heap.size v' l ∧ Below w.heap.size w w' := by
  obtain ⟨i0, hi, hz0, hz1, hz2⟩ := info_parts info_u8'
  obtain ⟨A, c, css, rfl, h1, h2, e1, e2, e3, hc⟩ := hr.flat
  have hq := fun (w : World) a n c => Lib.run_eql_slice_nil (P := Tryz.prog) w 27 5 a n c 0 0 Tryz.underlying27
  by_cases hA : A = none
  · subst hA
    have hl0 : l = [] := by
      cases hcs : css with
      | nil => subst hcs; exact List.eq_nil_of_length_eq_zero (by simpa using e1.symm)
      | cons x xs =>
        exfalso
        have hx := e2 x (by rw [hcs]; simp)
        obtain ⟨b, o, h, _⟩ := hc 0 (x[0]'(by omega)) (by rw [hcs]; simp [List.flatten_cons, List.getElem?_append_left, hx])
        cases h
    subst hl0
    clear hc e2 e3 e1
    go_enter Tryz.func57, Tryz.ntmps57
    go_wp2
    go_ret
    exact ⟨_, rfl, OwnOf.nil_ _ _, Below.refl _ _⟩
  · obtain ⟨ad, rfl⟩ := Option.ne_none_iff_exists'.1 hA
    have hc := Lib.hid hc
    have hone := flat_one E8.one e1 e3
    have hlen := Lib.hid (flat_len e1 e2)
    have e1 := Lib.hid e1
    have e2 := Lib.hid e2
    have e3 := Lib.hid e3
    have hone := Lib.hid hone
    clear hA
    go_enter Tryz.func57, Tryz.ntmps57
    go_wp2_with (at_builtin; refine wpList_append_src _ rfl (.tmp 5) (.tmp 6) 27 rfl w.heap.size 5 i0 _ 1 1 Tryz.underlying27 hi hz0 hz1 hz2 rfl (by decide) _ _ _ rfl (World.ownsRow_made w #[] 0 (Nat.le_refl _) (by simp [maxLen]) (by simp)) (some ad) l.length c css.flatten rfl hlen.out (fun k u hk => by obtain ⟨b, o, h1, h2⟩ := hc.out k u hk; exact ⟨b, o, h1, alloc_keeps h2⟩) hone.out (by simp only [maxLen]; omega) (by omega) _ ((Below.refl _ _).alloc (Nat.le_refl _) _) (by simp) ?_; intro v1 w1 hown1 hg1 hb1 hB1)
    go_ret
    exact ⟨_, rfl, OwnOf.flat (fun _ _ _ _ h => h) e1.out e2.out e3.out (by simpa using hown1), hb1⟩

theorem info_int' : (Tryz.prog.info? 3).map (fun i => (i.zero, i.size, i.bytes)) = some (some (.int .i64 0), 1, 8) := by kernel_rfl
theorem clone_int (l : List Int) (v : Value) (w : World) (hr : SlOf EInt 1 w.cell? v l) (hl : l.length ≤ 16777216) :
    Calls Tryz.prog 200 #[v] w fun e w' => ∃ v', e = .returned v' ∧ OwnOf EInt 3 1 w' w.heap.size v' l ∧ Below w.heap.size w w' := by
  obtain ⟨i0, hi, hz0, hz1, hz2⟩ := info_parts info_int'
  obtain ⟨A, c, css, rfl, h1, h2, e1, e2, e3, hc⟩ := hr.flat
  have hq := fun (w : World) a n c => Lib.run_eql_slice_nil (P := Tryz.prog) w 78 3 a n c 0 0 Tryz.underlying78
  by_cases hA : A = none
  · subst hA
    have hl0 : l = [] := by
      cases hcs : css with
      | nil => subst hcs; exact List.eq_nil_of_length_eq_zero (by simpa using e1.symm)
      | cons x xs =>
        exfalso
        have hx := e2 x (by rw [hcs]; simp)
        obtain ⟨b, o, h, _⟩ := hc 0 (x[0]'(by omega)) (by rw [hcs]; simp [List.flatten_cons, List.getElem?_append_left, hx])
        cases h
    subst hl0
    clear hc e2 e3 e1
    go_enter Tryz.func200, Tryz.ntmps200
    go_wp2
    go_ret
    exact ⟨_, rfl, OwnOf.nil_ _ _, Below.refl _ _⟩
  · obtain ⟨ad, rfl⟩ := Option.ne_none_iff_exists'.1 hA
    have hc := Lib.hid hc
    have hone := flat_one EInt.one e1 e3
    have hlen := Lib.hid (flat_len e1 e2)
    have e1 := Lib.hid e1
    have e2 := Lib.hid e2
    have e3 := Lib.hid e3
    have hone := Lib.hid hone
    clear hA
    go_enter Tryz.func200, Tryz.ntmps200
    go_wp2_with (at_builtin; refine wpList_append_src _ rfl (.tmp 5) (.tmp 6) 78 rfl w.heap.size 3 i0 _ 1 8 Tryz.underlying78 hi hz0 hz1 hz2 rfl (by decide) _ _ _ rfl (World.ownsRow_made w #[] 0 (Nat.le_refl _) (by simp [maxLen]) (by simp)) (some ad) l.length c css.flatten rfl hlen.out (fun k u hk => by obtain ⟨b, o, h1, h2⟩ := hc.out k u hk; exact ⟨b, o, h1, alloc_keeps h2⟩) hone.out (by simp only [maxLen]; omega) (by omega) _ ((Below.refl _ _).alloc (Nat.le_refl _) _) (by simp) ?_; intro v1 w1 hown1 hg1 hb1 hB1)
    go_ret
    exact ⟨_, rfl, OwnOf.flat (fun _ _ _ _ h => h) e1.out e2.out e3.out (by simpa using hown1), hb1⟩

theorem info_col' : (Tryz.prog.info? 106).map (fun i => (i.zero, i.size, i.bytes)) = some (some (.agg #[.string ByteArray.empty, .int .i64 0, .bool false]), 3, 32) := by kernel_rfl
theorem clone_col (l : List Col) (v : Value) (w : World) (hr : SlOf ECol 3 w.cell? v l) (hl : l.length ≤ 16777216) :
    Calls Tryz.prog 199 #[v] w fun e w' => ∃ v', e = .returned v' ∧ OwnOf ECol 106 3 w' w.heap.size v' l ∧ Below w.heap.size w w' := by
  obtain ⟨i0, hi, hz0, hz1, hz2⟩ := info_parts info_col'
  obtain ⟨A, c, css, rfl, h1, h2, e1, e2, e3, hc⟩ := hr.flat
  have hq := fun (w : World) a n c => Lib.run_eql_slice_nil (P := Tryz.prog) w 77 106 a n c 0 0 Tryz.underlying77
  by_cases hA : A = none
  · subst hA
    have hl0 : l = [] := by
      cases hcs : css with
      | nil => subst hcs; exact List.eq_nil_of_length_eq_zero (by simpa using e1.symm)
      | cons x xs =>
        exfalso
        have hx := e2 x (by rw [hcs]; simp)
        obtain ⟨b, o, h, _⟩ := hc 0 (x[0]'(by omega)) (by rw [hcs]; simp [List.flatten_cons, List.getElem?_append_left, hx])
        cases h
    subst hl0
    clear hc e2 e3 e1
    go_enter Tryz.func199, Tryz.ntmps199
    go_wp2
    go_ret
    exact ⟨_, rfl, OwnOf.nil_ _ _, Below.refl _ _⟩
  · obtain ⟨ad, rfl⟩ := Option.ne_none_iff_exists'.1 hA
    have hc := Lib.hid hc
    have hone := flat_one ECol.one e1 e3
    have hlen := Lib.hid (flat_len e1 e2)
    have e1 := Lib.hid e1
    have e2 := Lib.hid e2
    have e3 := Lib.hid e3
    have hone := Lib.hid hone
    clear hA
    go_enter Tryz.func199, Tryz.ntmps199
    go_wp2_with (at_builtin; refine wpList_append_src _ rfl (.tmp 5) (.tmp 6) 77 rfl w.heap.size 106 i0 _ 3 32 Tryz.underlying77 hi hz0 hz1 hz2 rfl (by decide) _ _ _ rfl (World.ownsRow_made w #[] 0 (Nat.le_refl _) (by simp [maxLen]) (by simp)) (some ad) l.length c css.flatten rfl hlen.out (fun k u hk => by obtain ⟨b, o, h1, h2⟩ := hc.out k u hk; exact ⟨b, o, h1, alloc_keeps h2⟩) hone.out (by simp only [maxLen]; omega) (by omega) _ ((Below.refl _ _).alloc (Nat.le_refl _) _) (by simp) ?_; intro v1 w1 hown1 hg1 hb1 hB1)
    go_ret
    exact ⟨_, rfl, OwnOf.flat (fun _ _ _ _ h => h) e1.out e2.out e3.out (by simpa using hown1), hb1⟩

theorem info_val' : (Tryz.prog.info? 109).map (fun i => (i.zero, i.size, i.bytes)) = some (some (.agg #[.int .i64 0, .int .i64 0, .string ByteArray.empty]), 3, 32) := by kernel_rfl
theorem clone_val (l : List V) (v : Value) (w : World) (hr : SlOf EV 3 w.cell? v l) (hl : l.length ≤ 16777216) :
    Calls Tryz.prog 130 #[v] w fun e w' => ∃ v', e = .returned v' ∧ OwnOf EV 109 3 w' w.heap.size v' l ∧ Below w.heap.size w w' := by
  obtain ⟨i0, hi, hz0, hz1, hz2⟩ := info_parts info_val'
  obtain ⟨A, c, css, rfl, h1, h2, e1, e2, e3, hc⟩ := hr.flat
  have hq := fun (w : World) a n c => Lib.run_eql_slice_nil (P := Tryz.prog) w 22 109 a n c 0 0 Tryz.underlying22
  by_cases hA : A = none
  · subst hA
    have hl0 : l = [] := by
      cases hcs : css with
      | nil => subst hcs; exact List.eq_nil_of_length_eq_zero (by simpa using e1.symm)
      | cons x xs =>
        exfalso
        have hx := e2 x (by rw [hcs]; simp)
        obtain ⟨b, o, h, _⟩ := hc 0 (x[0]'(by omega)) (by rw [hcs]; simp [List.flatten_cons, List.getElem?_append_left, hx])
        cases h
    subst hl0
    clear hc e2 e3 e1
    go_enter Tryz.func130, Tryz.ntmps130
    go_wp2
    go_ret
    exact ⟨_, rfl, OwnOf.nil_ _ _, Below.refl _ _⟩
  · obtain ⟨ad, rfl⟩ := Option.ne_none_iff_exists'.1 hA
    have hc := Lib.hid hc
    have hone := flat_one EV.one e1 e3
    have hlen := Lib.hid (flat_len e1 e2)
    have e1 := Lib.hid e1
    have e2 := Lib.hid e2
    have e3 := Lib.hid e3
    have hone := Lib.hid hone
    clear hA
    go_enter Tryz.func130, Tryz.ntmps130
    go_wp2_with (at_builtin; refine wpList_append_src _ rfl (.tmp 5) (.tmp 6) 22 rfl w.heap.size 109 i0 _ 3 32 Tryz.underlying22 hi hz0 hz1 hz2 rfl (by decide) _ _ _ rfl (World.ownsRow_made w #[] 0 (Nat.le_refl _) (by simp [maxLen]) (by simp)) (some ad) l.length c css.flatten rfl hlen.out (fun k u hk => by obtain ⟨b, o, h1, h2⟩ := hc.out k u hk; exact ⟨b, o, h1, alloc_keeps h2⟩) hone.out (by simp only [maxLen]; omega) (by omega) _ ((Below.refl _ _).alloc (Nat.le_refl _) _) (by simp) ?_; intro v1 w1 hown1 hg1 hb1 hB1)
    go_ret
    exact ⟨_, rfl, OwnOf.flat (fun _ _ _ _ h => h) e1.out e2.out e3.out (by simpa using hown1), hb1⟩
end Go.Proofs.YtdinnaijfemmbaaGreatDoor
