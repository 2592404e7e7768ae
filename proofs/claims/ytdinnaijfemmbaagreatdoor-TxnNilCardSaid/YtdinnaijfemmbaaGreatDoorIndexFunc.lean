/- slices.IndexFunc at several element types. Printed by gen_indexfunc.py. -/
import Derived.Test.YtdinnaijfemmbaaGreatDoorClone
namespace Go.Proofs.YtdinnaijfemmbaaGreatDoor
open Go.RowKit
set_option maxRecDepth 100000

theorem indexFunc_Tab (f : FuncId) (cap : Array Value) (p : Tab → Bool) (v : Value) (l : List Tab) (w : World) (hv : SlOf ETab 4 w.cell? v l)
    (hin : ∀ args w, (callFunc f args).run Tryz.prog w = .ok (.enter f args) w)
    (hf : ∀ x cs w', Below w.heap.size w w' → ETab w'.cell? cs x → Calls Tryz.prog f (#[.agg cs.toArray] ++ cap) w' fun e w'' => e = .returned (.bool (p x)) ∧ Below w'.heap.size w' w'') :
    Calls Tryz.prog 115 #[v, .func (.func f) #[] cap] w fun e w' => e = .returned (.int .i64 (idx p l)) ∧ Below w.heap.size w w' := by
  obtain ⟨A, c, rfl, hlc, hcm, hcells⟩ := hv
  unfold maxLen at hcm
  have Hf := Lib.hid hf
  have hcells := Lib.hid hcells
  clear hf
  go_enter Tryz.func115, Tryz.ntmps115
  go_wp2
  go_loopw [5, 8] (fun _ i wr => ∃ k : Nat, k ≤ l.length ∧ i = .int .i64 k ∧ Below w.heap.size w wr ∧ (∀ j (hj : j < l.length), j < k → p l[j] = false)) (fun _ i _ => l.length - (intOf i).toNat)
  case atStart => exact ⟨0, by omega, rfl, Below.refl _ _, by intros; omega⟩
  case round =>
    obtain ⟨k, hk, rfl, hb, hno⟩ := hrel
    by_cases hlt : k < l.length
    · obtain ⟨b, o, vc, vk, rfl, h1, h2, c0, c1, c2, c3⟩ := Tab.at_ hcells.out hlt
      have c0 := below_hle hb _ _ c0
      have c1 := below_hle hb _ _ c1
      have c2 := below_hle hb _ _ c2
      have c3 := below_hle hb _ _ c3
      have H := Lib.hid (Hf.out l[k] [.int .i64 l[k].id, .string l[k].name, vc, vk] wr hb ⟨vc, vk, rfl, SlOf.mono ECol.mono h1 (below_hle hb), SlOf.mono EInt.mono h2 (below_hle hb)⟩)
      have Hno := Lib.hid hno
      clear h1 h2 hno
      go_wp2_with fail
      refine (H.out).mono ?_
      rintro e w1 ⟨rfl, hb1⟩
      by_cases hp : p l[k] = true
      · rw [hp]
        go_wp2
        go_ret
        exact ⟨by rw [idx_hit hlt hp Hno.out]; rfl, hb.trans (hb1.mono hb.size)⟩
      · simp only [Bool.not_eq_true] at hp
        rw [hp]
        go_wp2
        go_roundw
        case rel => exact ⟨k + 1, by omega, by go_num, hb.trans (hb1.mono hb.size), fun j hj hjk => by rcases Nat.lt_or_ge j k with h | h; exact Hno.out j hj h; obtain rfl : j = k := (by omega); exact hp⟩
        case measure => simp [intOf]; omega
    · go_wp2
      go_ret
      exact ⟨by rw [idx_none fun j hj => hno j hj (by omega)]; rfl, hb⟩

theorem indexFunc_Idx (f : FuncId) (cap : Array Value) (p : Idx → Bool) (v : Value) (l : List Idx) (w : World) (hv : SlOf EIdx 7 w.cell? v l)
    (hin : ∀ args w, (callFunc f args).run Tryz.prog w = .ok (.enter f args) w)
    (hf : ∀ x cs w', Below w.heap.size w w' → EIdx w'.cell? cs x → Calls Tryz.prog f (#[.agg cs.toArray] ++ cap) w' fun e w'' => e = .returned (.bool (p x)) ∧ Below w'.heap.size w' w'') :
    Calls Tryz.prog 119 #[v, .func (.func f) #[] cap] w fun e w' => e = .returned (.int .i64 (idx p l)) ∧ Below w.heap.size w w' := by
  obtain ⟨A, c, rfl, hlc, hcm, hcells⟩ := hv
  unfold maxLen at hcm
  have Hf := Lib.hid hf
  have hcells := Lib.hid hcells
  clear hf
  go_enter Tryz.func119, Tryz.ntmps119
  go_wp2
  go_loopw [5, 8] (fun _ i wr => ∃ k : Nat, k ≤ l.length ∧ i = .int .i64 k ∧ Below w.heap.size w wr ∧ (∀ j (hj : j < l.length), j < k → p l[j] = false)) (fun _ i _ => l.length - (intOf i).toNat)
  case atStart => exact ⟨0, by omega, rfl, Below.refl _ _, by intros; omega⟩
  case round =>
    obtain ⟨k, hk, rfl, hb, hno⟩ := hrel
    by_cases hlt : k < l.length
    · obtain ⟨b, o, vc, rfl, h1, c0, c1, c2, c3, c4, c5, c6⟩ := Idx.at_ hcells.out hlt
      have c0 := below_hle hb _ _ c0
      have c1 := below_hle hb _ _ c1
      have c2 := below_hle hb _ _ c2
      have c3 := below_hle hb _ _ c3
      have c4 := below_hle hb _ _ c4
      have c5 := below_hle hb _ _ c5
      have c6 := below_hle hb _ _ c6
      have H := Lib.hid (Hf.out l[k] [.int .i64 l[k].id, .int .i64 l[k].table, .string l[k].name, vc, .bool l[k].uniq, .int .i64 l[k].state, .bool l[k].bad] wr hb ⟨vc, rfl, SlOf.mono EInt.mono h1 (below_hle hb)⟩)
      have Hno := Lib.hid hno
      clear h1 hno
      go_wp2_with fail
      refine (H.out).mono ?_
      rintro e w1 ⟨rfl, hb1⟩
      by_cases hp : p l[k] = true
      · rw [hp]
        go_wp2
        go_ret
        exact ⟨by rw [idx_hit hlt hp Hno.out]; rfl, hb.trans (hb1.mono hb.size)⟩
      · simp only [Bool.not_eq_true] at hp
        rw [hp]
        go_wp2
        go_roundw
        case rel => exact ⟨k + 1, by omega, by go_num, hb.trans (hb1.mono hb.size), fun j hj hjk => by rcases Nat.lt_or_ge j k with h | h; exact Hno.out j hj h; obtain rfl : j = k := (by omega); exact hp⟩
        case measure => simp [intOf]; omega
    · go_wp2
      go_ret
      exact ⟨by rw [idx_none fun j hj => hno j hj (by omega)]; rfl, hb⟩
end Go.Proofs.YtdinnaijfemmbaaGreatDoor
