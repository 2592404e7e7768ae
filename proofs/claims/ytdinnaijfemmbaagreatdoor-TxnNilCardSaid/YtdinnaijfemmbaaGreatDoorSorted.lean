/- slices.Sorted(maps.Keys(m)): the library's contracts on the iterator idiom at this program; a map without entries. -/
import Derived.Shelf.SlIter.Sorted
import Derived.Lib.Hide
import Derived.Test.YtdinnaijfemmbaaGreatDoorSortNil
namespace Go.Proofs.YtdinnaijfemmbaaGreatDoor
open Go.RowKit Go.Maps Go.Sort
set_option maxRecDepth 100000

def pairKeys_ren : Go.Shelf.Ren := { f := fun | 7 => 55 | 10 => 111 | n => n, t := fun | 0 => 0 | 3 => 29 | 4 => 4 | 23 => 118 | 26 => 9 | 27 => 134 | 28 => 135 | 33 => 191 | n => n, g := fun n => n }

theorem pairKeys : SlLaysZ.n7 Tryz.prog pairKeys_ren :=
 { mixed := (by kernel_rfl), f7 := ⟨"maps.Keys[map[string]armoire/api.Pair,string,armoire/api.Pair]", (by decide), Tryz.func55.trans (congrArg some (by kernel_rfl))⟩,
   f10 := ⟨"maps.Keys[map[string]armoire/api.Pair,string,armoire/api.Pair]$1", (by decide), Tryz.func111.trans (congrArg some (by kernel_rfl))⟩,
   t0 := Tryz.underlying0, a0 := Tryz.isAgg0, z0 := Tryz.sizeOf0, v0 := Tryz.zeroValue0,
   t4 := Tryz.underlying4, a4 := Tryz.isAgg4, z4 := Tryz.sizeOf4, v4 := Tryz.zeroValue4,
   t23 := Tryz.underlying118, a23 := Tryz.isAgg118, z23 := Tryz.sizeOf118, v23 := Tryz.zeroValue118,
   t26 := Tryz.underlying9, a26 := Tryz.isAgg9, z26 := Tryz.sizeOf9, v26 := Tryz.zeroValue9,
   t27 := Tryz.underlying134, a27 := Tryz.isAgg134, z27 := Tryz.sizeOf134, v27 := Tryz.zeroValue134,
   t28 := Tryz.underlying135, a28 := Tryz.isAgg135, z28 := Tryz.sizeOf135, v28 := Tryz.zeroValue135,
   t33 := Tryz.underlying191, a33 := Tryz.isAgg191, z33 := Tryz.sizeOf191, v33 := Tryz.zeroValue191 }

theorem pairKeys_call (mb : Option Nat) (w : World) : Calls Tryz.prog 55 #[.map mb] w fun e w' => e = .returned (.func (.func 111) #[] #[.pointer (some ⟨w.heap.size, 0, none⟩)]) ∧ w' = w.alloc (.cells #[.map mb] 118) :=
  (callsIn_wide (n := 6)).1 (AnyZ.keys_in pairKeys Fence.wide 6 trivial rfl mb w)

def writeKeys_ren : Go.Shelf.Ren := { f := fun | 7 => 56 | 10 => 112 | n => n, t := fun | 0 => 0 | 3 => 117 | 4 => 4 | 23 => 111 | 26 => 9 | 27 => 134 | 28 => 135 | 33 => 191 | n => n, g := fun n => n }

theorem writeKeys : SlLaysZ.n7 Tryz.prog writeKeys_ren :=
 { mixed := (by kernel_rfl), f7 := ⟨"maps.Keys[map[string]armoire/api.Write,string,armoire/api.Write]", (by decide), Tryz.func56.trans (congrArg some (by kernel_rfl))⟩,
   f10 := ⟨"maps.Keys[map[string]armoire/api.Write,string,armoire/api.Write]$1", (by decide), Tryz.func112.trans (congrArg some (by kernel_rfl))⟩,
   t0 := Tryz.underlying0, a0 := Tryz.isAgg0, z0 := Tryz.sizeOf0, v0 := Tryz.zeroValue0,
   t4 := Tryz.underlying4, a4 := Tryz.isAgg4, z4 := Tryz.sizeOf4, v4 := Tryz.zeroValue4,
   t23 := Tryz.underlying111, a23 := Tryz.isAgg111, z23 := Tryz.sizeOf111, v23 := Tryz.zeroValue111,
   t26 := Tryz.underlying9, a26 := Tryz.isAgg9, z26 := Tryz.sizeOf9, v26 := Tryz.zeroValue9,
   t27 := Tryz.underlying134, a27 := Tryz.isAgg134, z27 := Tryz.sizeOf134, v27 := Tryz.zeroValue134,
   t28 := Tryz.underlying135, a28 := Tryz.isAgg135, z28 := Tryz.sizeOf135, v28 := Tryz.zeroValue135,
   t33 := Tryz.underlying191, a33 := Tryz.isAgg191, z33 := Tryz.sizeOf191, v33 := Tryz.zeroValue191 }

theorem writeKeys_call (mb : Option Nat) (w : World) : Calls Tryz.prog 56 #[.map mb] w fun e w' => e = .returned (.func (.func 112) #[] #[.pointer (some ⟨w.heap.size, 0, none⟩)]) ∧ w' = w.alloc (.cells #[.map mb] 111) :=
  (callsIn_wide (n := 6)).1 (AnyZ.keys_in writeKeys Fence.wide 6 trivial rfl mb w)

def collect_ren : Go.Shelf.Ren := { f := fun | 8 => 109 | 11 => 173 | n => n, t := fun | 0 => 0 | 24 => 132 | 26 => 9 | 28 => 135 | 33 => 191 | n => n, g := fun n => n }

theorem info_str : (Tryz.prog.info? 9).map (fun i => (i.zero, i.size, i.bytes)) = some (some (.string ⟨#[]⟩), 1, 16) := by kernel_rfl
theorem collectL : SlLaysZ.n8 Tryz.prog collect_ren :=
 { mixed := (by kernel_rfl), f8 := ⟨"slices.Collect[string]", (by decide), Tryz.func109.trans (congrArg some (by kernel_rfl))⟩,
   f11 := ⟨"slices.AppendSeq[[]string,string]", (by decide), Tryz.func173.trans (congrArg some (by kernel_rfl))⟩,
   t0 := Tryz.underlying0, a0 := Tryz.isAgg0, z0 := Tryz.sizeOf0, v0 := Tryz.zeroValue0,
   t24 := Tryz.underlying132, a24 := Tryz.isAgg132, z24 := Tryz.sizeOf132, v24 := Tryz.zeroValue132,
   t26 := Tryz.underlying9, a26 := Tryz.isAgg9, z26 := Tryz.sizeOf9, v26 := Tryz.zeroValue9,
   t28 := Tryz.underlying135, a28 := Tryz.isAgg135, z28 := Tryz.sizeOf135, v28 := Tryz.zeroValue135, i26 := info_str }

set_option maxHeartbeats 1000000 in
theorem pairSorted_none (mb B : Nat) (w : World) (hB : B < w.heap.size) (hc : w.cell? ⟨B, 0, none⟩ = some (.map (some mb))) (hm : w.heap[mb]? = some (.map #[] 0)) :
    Calls Tryz.prog 54 #[.func (.func 111) #[] #[.pointer (some ⟨B, 0, none⟩)]] w fun e w' => e = .returned (.slice none 0 0) ∧ Below w.heap.size w w' := by
  have hown : w.ownsMap (H := Unit) Tryz.prog 9 (fun _ => none) mb 0 (.map []) := ⟨#[], 0, hm, ⟨by simp, MapKept.stamped_empty 0, by simp⟩, Nat.le_refl _, rfl⟩
  have hseq := AnyZ.keys_gives (ρ := pairKeys_ren) { pairKeys with } Fence.wide 4 trivial rfl (by omega) B mb 0 (.map []) w hB hc hown
  have hC := Lib.hid ((callsIn_wide (n := 6)).1 (AnyZ.collect_in collectL Fence.wide 6 trivial trivial rfl (by omega) 111 #[.pointer (some ⟨B, 0, none⟩)] trivial (enters_of Tryz.func111 (by kernel_rfl) rfl) _ 0 (Nat.zero_le _) (by omega) w hseq))
  clear hseq hown
  go_enter Tryz.func54, Tryz.ntmps54
  go_wp2_with fail
  refine hC.out.mono ?_
  rintro e w1 ⟨v, ss, rfl, hS, hrow, hnil, hb⟩
  have hss : ss = [] := by
    have h := List.Perm.length_eq hS
    exact List.eq_nil_of_length_eq_zero (by simpa [strKeys] using h)
  obtain rfl := hnil.2 hss
  clear hnil hrow hS hC
  go_wp2_with (go_at_call 110; refine (sort_str_nil _).mono ?_; rintro e w' ⟨rfl, rfl⟩)
  go_ret
  exact ⟨rfl, hb⟩

set_option maxHeartbeats 1000000 in
theorem writeSorted_none (mb B : Nat) (w : World) (hB : B < w.heap.size) (hc : w.cell? ⟨B, 0, none⟩ = some (.map (some mb))) (hm : w.heap[mb]? = some (.map #[] 0)) :
    Calls Tryz.prog 54 #[.func (.func 112) #[] #[.pointer (some ⟨B, 0, none⟩)]] w fun e w' => e = .returned (.slice none 0 0) ∧ Below w.heap.size w w' := by
  have hown : w.ownsMap (H := Unit) Tryz.prog 9 (fun _ => none) mb 0 (.map []) := ⟨#[], 0, hm, ⟨by simp, MapKept.stamped_empty 0, by simp⟩, Nat.le_refl _, rfl⟩
  have hseq := AnyZ.keys_gives (ρ := writeKeys_ren) { writeKeys with } Fence.wide 4 trivial rfl (by omega) B mb 0 (.map []) w hB hc hown
  have hC := Lib.hid ((callsIn_wide (n := 6)).1 (AnyZ.collect_in collectL Fence.wide 6 trivial trivial rfl (by omega) 112 #[.pointer (some ⟨B, 0, none⟩)] trivial (enters_of Tryz.func112 (by kernel_rfl) rfl) _ 0 (Nat.zero_le _) (by omega) w hseq))
  clear hseq hown
  go_enter Tryz.func54, Tryz.ntmps54
  go_wp2_with fail
  refine hC.out.mono ?_
  rintro e w1 ⟨v, ss, rfl, hS, hrow, hnil, hb⟩
  have hss : ss = [] := by
    have h := List.Perm.length_eq hS
    exact List.eq_nil_of_length_eq_zero (by simpa [strKeys] using h)
  obtain rfl := hnil.2 hss
  clear hnil hrow hS hC
  go_wp2_with (go_at_call 110; refine (sort_str_nil _).mono ?_; rintro e w' ⟨rfl, rfl⟩)
  go_ret
  exact ⟨rfl, hb⟩

end Go.Proofs.YtdinnaijfemmbaaGreatDoor
