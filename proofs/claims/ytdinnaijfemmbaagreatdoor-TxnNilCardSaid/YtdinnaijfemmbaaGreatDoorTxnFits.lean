/- armoirelaw20: fits answers something; TxnNil answers true. -/
import Derived.Test.YtdinnaijfemmbaaGreatDoorTxnAwake
import Derived.Test.YtdinnaijfemmbaaGreatDoorTxnCmp2
import Derived.Test.YtdinnaijfemmbaaGreatDoorTxnNil
import Derived.Laws.Rows
namespace Go.Proofs.YtdinnaijfemmbaaGreatDoor
open Go.RowKit
set_option maxRecDepth 100000

/-- a guarded operation that is wanted: a struct is read whole -/
theorem wpList_load_row_w {P : Program} {ops : Array Oper} {rest : List Oper} {o : Oper} {a : Act} {w : World} {Q : Exit → Act → World → Prop} (hw : Region.wanted o (yielded ops a.tmps) = true) (ty : TypeId) (x : Operand) (ho : o.op = .load ty x)
    (g : Nat) (hx : a.eval x = .pointer (some ⟨g, 0, none⟩)) (t : TypeId) (cs : Array Value) (fr : Nat × Nat) (d : TypeDesc) (hg : w.heap[g]? = some (.cells cs t fr))
    (hu : P.underlying ty = some d) (hd : (match d with | .struct _ | .array _ _ => true | _ => false) = true) (hi : (P.info? ty).map (·.size) = some cs.size)
    (h : wpList P ops Q rest (a.put o.dst (.agg cs)) w) : wpList P ops Q (o :: rest) a w := by
  unfold wpList
  rw [if_pos hw]
  exact .inl (wp_load_row ty x ho g hx t cs fr d hg hu hd hi h)

/-- the cells of a block that is pointed to at its beginning -/
def rowOfV (w : World) (v : Value) : Option (Array Value) := match v with
  | .pointer (some ⟨g, 0, none⟩) => (match w.heap[g]? with | some (.cells cs _ _) => some cs | _ => none)
  | _ => none
theorem rowOfV_ptr {w : World} {g : Nat} {cs : Array Value} {t : TypeId} {fr : Nat × Nat} (h : w.heap[g]? = some (.cells cs t fr)) : rowOfV w (.pointer (some ⟨g, 0, none⟩)) = some cs := by
  simp [rowOfV, h]
theorem rowOfV_some {w : World} {v : Value} {cs : Array Value} (h : rowOfV w v = some cs) : ∃ g t fr, v = .pointer (some ⟨g, 0, none⟩) ∧ w.heap[g]? = some (.cells cs t fr) := by
  unfold rowOfV at h
  split at h
  · rename_i g
    split at h
    · rename_i cs' t fr hg
      injection h with h
      subst h
      exact ⟨g, t, fr, rfl, hg⟩
    · cases h
  · cases h
/-- a load as it is, behind a name that the walk does not open -/
def LoadAsIs (P : Program) (o : Oper) (a : Act) (w : World) (K : Act → World → Prop) (Q : Exit → Act → World → Prop) : Prop := Oper.wp P o a w K Q
/-- a struct of n cells is read whole, where it lies in a block -/
theorem wp_load_row_eq {P : Program} (ty : TypeId) (n : Nat) (d : TypeDesc) (hu : P.underlying ty = some d) (hd : (match d with | .struct _ | .array _ _ => true | _ => false) = true) (hi : (P.info? ty).map (·.size) = some n)
    (x : Operand) (A : Act) (w : World) (K : Act → World → Prop) (Q : Exit → Act → World → Prop) (dst : Option Tmp) (ty' : TypeId) (pos : String) (after : Array Edge) (gd : Option (Nat × Bool)) :
    Oper.wp P { dst := dst, op := .load ty x, type := ty', pos := pos, after := after, guard := gd } A w K Q =
      (match rowOfV w (A.eval x) with
        | some cs => if cs.size = n then K (A.put dst (.agg cs)) w else LoadAsIs P { dst := dst, op := .load ty x, type := ty', pos := pos, after := after, guard := gd } A w K Q
        | none => LoadAsIs P { dst := dst, op := .load ty x, type := ty', pos := pos, after := after, guard := gd } A w K Q) := by
  split
  · rename_i cs h
    obtain ⟨g, t, fr, hx, hg⟩ := rowOfV_some h
    split
    · rename_i hn
      subst hn
      unfold Oper.wp execOp
      simp only [hx, Instr.loadAt, Instr.sureAddr, Sem.run_bind, Sem.run_pure, Result.andThen_ok, run_loadVar_row w g t ty cs fr d hg hu hd hi]
      rfl
    · rfl
  · rfl
theorem wp_load_op (x : Operand) (A : Act) (w : World) (K : Act → World → Prop) (Q : Exit → Act → World → Prop) (dst : Option Tmp) (ty' : TypeId) (pos : String) (after : Array Edge) (gd : Option (Nat × Bool)) :
    Oper.wp Tryz.prog { dst := dst, op := .load 26 x, type := ty', pos := pos, after := after, guard := gd } A w K Q =
      (match rowOfV w (A.eval x) with
        | some cs => if cs.size = 11 then K (A.put dst (.agg cs)) w else LoadAsIs Tryz.prog { dst := dst, op := .load 26 x, type := ty', pos := pos, after := after, guard := gd } A w K Q
        | none => LoadAsIs Tryz.prog { dst := dst, op := .load 26 x, type := ty', pos := pos, after := after, guard := gd } A w K Q) :=
  wp_load_row_eq (P := Tryz.prog) 26 11 _ Tryz.underlying26 rfl (by kernel_rfl) x A w K Q dst ty' pos after gd
theorem wp_load_rep (x : Operand) (A : Act) (w : World) (K : Act → World → Prop) (Q : Exit → Act → World → Prop) (dst : Option Tmp) (ty' : TypeId) (pos : String) (after : Array Edge) (gd : Option (Nat × Bool)) :
    Oper.wp Tryz.prog { dst := dst, op := .load 75 x, type := ty', pos := pos, after := after, guard := gd } A w K Q =
      (match rowOfV w (A.eval x) with
        | some cs => if cs.size = 15 then K (A.put dst (.agg cs)) w else LoadAsIs Tryz.prog { dst := dst, op := .load 75 x, type := ty', pos := pos, after := after, guard := gd } A w K Q
        | none => LoadAsIs Tryz.prog { dst := dst, op := .load 75 x, type := ty', pos := pos, after := after, guard := gd } A w K Q) :=
  wp_load_row_eq (P := Tryz.prog) 75 15 _ Tryz.underlying75 rfl (by kernel_rfl) x A w K Q dst ty' pos after gd
theorem wp_load_cmd (x : Operand) (A : Act) (w : World) (K : Act → World → Prop) (Q : Exit → Act → World → Prop) (dst : Option Tmp) (ty' : TypeId) (pos : String) (after : Array Edge) (gd : Option (Nat × Bool)) :
    Oper.wp Tryz.prog { dst := dst, op := .load 84 x, type := ty', pos := pos, after := after, guard := gd } A w K Q =
      (match rowOfV w (A.eval x) with
        | some cs => if cs.size = 25 then K (A.put dst (.agg cs)) w else LoadAsIs Tryz.prog { dst := dst, op := .load 84 x, type := ty', pos := pos, after := after, guard := gd } A w K Q
        | none => LoadAsIs Tryz.prog { dst := dst, op := .load 84 x, type := ty', pos := pos, after := after, guard := gd } A w K Q) :=
  wp_load_row_eq (P := Tryz.prog) 84 25 _ Tryz.underlying84 rfl (by kernel_rfl) x A w K Q dst ty' pos after gd

/-- a slice of which its length alone matters -/
def ELen (_ : Hp) (cs : List Value) (n : Nat) : Prop := ∃ A c, cs = [.slice A n c] ∧ n ≤ maxLen
theorem ELen.mono : Mono ELen := fun _ _ _ _ r _ => r

/-- an op's cells: a shape that is enough for fits -/
def OpShape (w : World) (oc : Array Value) : Prop := ∃ (k lim : Int) (tb ix : ByteArray) (A1 A2 A3 A4 A5 : Option Addr) (n1 n2 n3 n4 n5 c1 c2 c3 c4 c5 : Nat) (rev : Bool) (vn : Value) (ns : List Nat),
  oc = #[.int .i64 k, .string tb, .string ix, .slice A1 n1 c1, .slice A2 n2 c2, .slice A3 n3 c3, .slice A4 n4 c4, .slice A5 n5 c5, .int .i64 lim, .bool rev, vn] ∧ SlOf ELen 1 w.cell? vn ns
theorem OpShape.size {w : World} {oc : Array Value} (h : OpShape w oc) : oc.size = 11 := by
  obtain ⟨_, _, _, _, _, _, _, _, _, _, _, _, _, _, _, _, _, _, _, _, _, _, rfl, _⟩ := h
  rfl
theorem OpShape.below {w w' : World} {oc : Array Value} (h : OpShape w oc) (hb : Below w.heap.size w w') : OpShape w' oc := by
  obtain ⟨k, lim, tb, ix, A1, A2, A3, A4, A5, n1, n2, n3, n4, n5, c1, c2, c3, c4, c5, rev, vn, ns, rfl, hn⟩ := h
  exact ⟨k, lim, tb, ix, A1, A2, A3, A4, A5, n1, n2, n3, n4, n5, c1, c2, c3, c4, c5, rev, vn, ns, rfl, SlOf.mono ELen.mono hn (below_hle hb)⟩

/-- some bool comes back -/
def SomeBool (e : Ending) : Prop := ∃ b, e = .returned (.bool b)

set_option maxHeartbeats 2000000 in
theorem law20_fits (w : World) (oc : Array Value) (h : OpShape w oc) : Calls Tryz.prog 23 #[.agg oc] w fun e w' => SomeBool e ∧ Below w.heap.size w w' := by
  obtain ⟨k, lim, tb, ix, A1, A2, A3, A4, A5, n1, n2, n3, n4, n5, c1, c2, c3, c4, c5, rev, vn, ns, rfl, ⟨An, cn, rfl, hln, hcn, hel⟩⟩ := h
  have hel := Lib.hid hel
  unfold maxLen at hcn
  go_enter Tryz.func23, Tryz.ntmps23
  go_wp2
  go_loop [3, 4] (fun n i => ∃ (j : Nat) (m : Int), j ≤ ns.length ∧ j ≤ 30 ∧ i = .int .i64 j ∧ n = .int .i64 m) (fun _ i => 30 - (intOf i).toNat)
  case atStart => exact ⟨0, _, by omega, by omega, rfl, rfl⟩
  case round =>
    obtain ⟨j, m, hj, hj30, rfl, rfl⟩ := hrel
    by_cases hlt : j < ns.length
    · by_cases h30 : j < 30
      · obtain ⟨b, o, cs, rfl, _, ⟨A, c, rfl, hm⟩, hc⟩ := hel.out j hlt
        have d0 : ∀ o', (w.alloc o').cell? ⟨b, o + j, none⟩ = some (.slice A ns[j] c) := fun o' => alloc_keeps (by simpa using hc 0 _ rfl)
        clear hc
        go_wp2
        go_round
        case rel => exact ⟨j + 1, _, by omega, by omega, by go_num, rfl⟩
        case measure => simp [intOf]; omega
      · go_wp2
        all_goals go_ret
        all_goals exact ⟨⟨_, rfl⟩, (Below.refl _ _).alloc (Nat.le_refl _) _⟩
    · go_wp2
      all_goals go_ret
      all_goals exact ⟨⟨_, rfl⟩, (Below.refl _ _).alloc (Nat.le_refl _) _⟩

theorem info_op : (Tryz.prog.info? 26).map (·.size) = some 11 := by kernel_rfl

/-- five blocks -/
structure Keep5 (w : World) (o r k t d : Nat) (oc rc : Array Value) : Prop where
  o : w.heap[o]? = some (.cells oc 26 (0, 0))
  r : w.heap[r]? = some (.cells rc 75 (0, 0))
  k : w.heap[k]? = some (.cells (cmdc 0 0 0 false) 84 (0, 0))
  t : w.heap[t]? = some (.cells #[.int .i64 0, .slice none 0 0, .int .i64 0] 88 (0, 0))
  d : w.heap[d]? = some (.cells #[.int .i64 0, .int .u64 0, .int .i64 0, .slice none 0 0, .slice none 0 0] 92 (0, 0))
theorem Keep5.below {w w' : World} {o r k t d : Nat} {oc rc : Array Value} (h : Keep5 w o r k t d oc rc) (hb : Below w.heap.size w w') : Keep5 w' o r k t d oc rc :=
  ⟨below_at hb h.o, below_at hb h.r, below_at hb h.k, below_at hb h.t, below_at hb h.d⟩
theorem info_told : (Tryz.prog.info? 88).map (·.size) = some 3 := by kernel_rfl
theorem info_done : (Tryz.prog.info? 92).map (·.size) = some 5 := by kernel_rfl

attribute [local go_sem ↓] wp_load_op wp_load_rep wp_load_cmd
set_option maxHeartbeats 8000000 in
theorem law20_nil (w : World) (oc rc : Array Value) (h : OpShape w oc) (hrc : rc.size = 15) : Calls Tryz.prog 5 #[.agg oc, .agg rc] w fun e w' => e = .returned (.bool true) ∧ Below w.heap.size w w' := by
  have io : (Tryz.prog.info? 26).map (·.size) = some oc.size := by rw [h.size]; exact info_op
  have ir : (Tryz.prog.info? 75).map (·.size) = some rc.size := by rw [hrc]; exact info_rep
  have b0 : Below w.heap.size w ((w.alloc (.cells oc 26)).alloc (.cells rc 75)) := ((Below.refl _ _).alloc (Nat.le_refl _) _).alloc (by simp) _
  have o0 : ((w.alloc (.cells oc 26)).alloc (.cells rc 75)).heap[w.heap.size]? = some (.cells oc 26 (0, 0)) := (Below.heap_alloc _ _ _ (by simp)).trans (heap_alloc_new w _)
  have r0 : ((w.alloc (.cells oc 26)).alloc (.cells rc 75)).heap[w.heap.size + 1]? = some (.cells rc 75 (0, 0)) := by have := heap_alloc_new (w.alloc (.cells oc 26)) (.cells rc 75); simpa using this
  have hF := Lib.hid (law20_fits _ oc (h.below b0))
  have o0 := Lib.hid o0
  have r0 := Lib.hid r0
  have io := Lib.hid io
  have ir := Lib.hid ir
  have hos := h.size
  have hos := Lib.hid hos
  have hrs := Lib.hid hrc
  clear h hrc
  go_enter Tryz.func5, Tryz.ntmps5
  go_wp2_with (guard_target =~ wpList _ _ _ ({ dst := _, op := Op.load 26 (.tmp 2), type := _, pos := _, after := _, guard := none } :: _) _ _; refine wpList_load_row rfl 26 (.tmp 2) rfl w.heap.size rfl 26 oc (0, 0) _ o0.out Tryz.underlying26 rfl io.out ?_)
  refine hF.out.mono ?_
  rintro e w1 ⟨⟨b, rfl⟩, hb1⟩
  have o1 := Lib.hid (below_at hb1 o0.out)
  have r1 := Lib.hid (below_at hb1 r0.out)
  have b1 := b0.trans (hb1.mono b0.size)
  clear o0 r0 b0 hb1 hF
  cases b
  · go_wp2_with fail
    refine (law20_awake w1).mono ?_
    rintro e w2 ⟨rfl, hb2⟩
    go_wp2
    go_ret
    exact ⟨rfl, b1.trans (hb2.mono b1.size)⟩
  · go_wp2_with fail
    refine (txn_Next_nil w1).mono ?_
    rintro e w2 ⟨rfl, hb2⟩
    have o2 := Lib.hid (below_at hb2 o1.out)
    have r2 := Lib.hid (below_at hb2 r1.out)
    have b2 := b1.trans (hb2.mono b1.size)
    clear o1 r1 b1 hb2
    go_wp2_with (guard_target =~ wpList _ _ _ ({ dst := _, op := Op.store 84 (.tmp 7) (.tmp 21), type := _, pos := _, after := _, guard := none } :: _) _ _; refine wpList_store_new rfl 84 (.tmp 7) (.tmp 21) rfl (cmdc 0 0 0 false) _ rfl (by kernel_rfl) _ info_cmd (by kernel_rfl) (by kernel_rfl) ?_; obtain ⟨X, hX⟩ : ∃ X, w2.alloc (.cells (cmdc 0 0 0 false) 84) = X := ⟨_, rfl⟩; have hbX : Below w2.heap.size w2 X := (by rw [← hX]; exact (Below.refl _ _).alloc (Nat.le_refl _) _); have o3 := Lib.hid (below_at hbX o2.out); have r3 := Lib.hid (below_at hbX r2.out); have b3 := b2.trans (hbX.mono b2.size); have k3 : X.heap[w2.heap.size]? = some (.cells (cmdc 0 0 0 false) 84 (0, 0)) := (by rw [← hX]; exact heap_alloc_new w2 _); have k3 := Lib.hid k3; rw [hX]; clear hX hbX o2 r2 b2)
    refine (txn_Told_nil X).mono ?_
    rintro e w4 ⟨rfl, hb4⟩
    have o4 := Lib.hid (below_at hb4 o3.out)
    have r4 := Lib.hid (below_at hb4 r3.out)
    have k4 := Lib.hid (below_at hb4 k3.out)
    have b4 := b3.trans (hb4.mono b3.size)
    clear o3 r3 k3 b3 hb4
    go_wp2_with fail
    obtain ⟨Y, hY⟩ : ∃ Y, w4.alloc (.cells #[.int .i64 0, .slice none 0 0, .int .i64 0] 88) = Y := ⟨_, rfl⟩
    have hbY : Below w4.heap.size w4 Y := by rw [← hY]; exact (Below.refl _ _).alloc (Nat.le_refl _) _
    have t5 : Y.heap[w4.heap.size]? = some (.cells #[.int .i64 0, .slice none 0 0, .int .i64 0] 88 (0, 0)) := by rw [← hY]; exact heap_alloc_new w4 _
    have t5 := Lib.hid t5
    have o5 := Lib.hid (below_at hbY o4.out)
    have r5 := Lib.hid (below_at hbY r4.out)
    have k5 := Lib.hid (below_at hbY k4.out)
    have b5 := b4.trans (hbY.mono b4.size)
    rw [hY]
    clear hY hbY o4 r4 k4 b4
    refine (txn_Done_nil Y).mono ?_
    rintro e w6 ⟨rfl, hb6⟩
    have t6 := Lib.hid (below_at hb6 t5.out)
    have o6 := Lib.hid (below_at hb6 o5.out)
    have r6 := Lib.hid (below_at hb6 r5.out)
    have k6 := Lib.hid (below_at hb6 k5.out)
    have b6 := b5.trans (hb6.mono b5.size)
    clear t5 o5 r5 k5 b5 hb6
    go_wp2_with fail
    obtain ⟨Z, hZ⟩ : ∃ Z, w6.alloc (.cells #[.int .i64 0, .int .u64 0, .int .i64 0, .slice none 0 0, .slice none 0 0] 92) = Z := ⟨_, rfl⟩
    have hbZ : Below w6.heap.size w6 Z := by rw [← hZ]; exact (Below.refl _ _).alloc (Nat.le_refl _) _
    have d7 : Z.heap[w6.heap.size]? = some (.cells #[.int .i64 0, .int .u64 0, .int .i64 0, .slice none 0 0, .slice none 0 0] 92 (0, 0)) := by rw [← hZ]; exact heap_alloc_new w6 _
    have K7 : Keep5 Z w.heap.size (w.heap.size + 1) w2.heap.size w4.heap.size w6.heap.size oc rc := ⟨below_at hbZ o6.out, below_at hbZ r6.out, below_at hbZ k6.out, below_at hbZ t6.out, d7⟩
    have K7 := Lib.hid K7
    have b7 := b6.trans (hbZ.mono b6.size)
    rw [hZ]
    clear hZ hbZ o6 r6 k6 t6 d7 b6
    refine (law20_awake Z).mono ?_
    rintro e w8 ⟨rfl, hb8⟩
    have K8 := Lib.hid (K7.out.below hb8)
    have b8 := b7.trans (hb8.mono b7.size)
    clear K7 b7 hb8
    have hrow := rowOfV_ptr K8.out.o
    have hsz := hos.out
    go_wp2_with fail
    clear hrow hsz
    refine (txn_Op_nil _ _).mono ?_
    rintro e w9 ⟨rfl, hb9⟩
    have K9 := Lib.hid (K8.out.below hb9)
    have b9 := b8.trans (hb9.mono b8.size)
    clear K8 b8 hb9
    go_wp2_with fail
    refine (txn_Commit_nil _).mono ?_
    rintro e w10 ⟨rfl, hb10⟩
    have K10 := Lib.hid (K9.out.below hb10)
    have b10 := b9.trans (hb10.mono b9.size)
    clear K9 b9 hb10
    go_wp2_with fail
    refine (txn_Abort_nil _).mono ?_
    rintro e w11 ⟨rfl, hb11⟩
    have K11 := Lib.hid (K10.out.below hb11)
    have b11 := b10.trans (hb11.mono b10.size)
    clear K10 b10 hb11
    have hrow := rowOfV_ptr K11.out.k
    have hsz : (cmdc 0 0 0 false).size = 25 := rfl
    go_wp2_with fail
    clear hrow hsz
    refine (help_Command_none _).mono ?_
    rintro e w12 ⟨rfl, hb12⟩
    have K12 := Lib.hid (K11.out.below hb12)
    have b12 := b11.trans (hb12.mono b11.size)
    clear K11 b11 hb12
    have hrow := rowOfV_ptr K12.out.r
    have hsz := hrs.out
    go_wp2_with fail
    clear hrow hsz
    refine (txn_Got_nil _ _).mono ?_
    rintro e w13 ⟨rfl, hb13⟩
    have K13 := Lib.hid (K12.out.below hb13)
    have b13 := b12.trans (hb13.mono b12.size)
    clear K12 b12 hb13
    have z0 := blk_cell K13.out.t 0 (u := .int .i64 0) rfl
    have z1 := blk_cell K13.out.t 1 (u := .slice none 0 0) rfl
    have z2 := blk_cell K13.out.t 2 (u := .int .i64 0) rfl
    go_wp2_with fail
    clear z0 z1 z2
    refine (help_Told_none _).mono ?_
    rintro e w14 ⟨rfl, hb14⟩
    have K14 := Lib.hid (K13.out.below hb14)
    have b14 := b13.trans (hb14.mono b13.size)
    clear K13 b13 hb14
    have z0 := blk_cell K14.out.d 0 (u := .int .i64 0) rfl
    have z1 := blk_cell K14.out.d 1 (u := .int .u64 0) rfl
    have z2 := blk_cell K14.out.d 2 (u := .int .i64 0) rfl
    have z3 := blk_cell K14.out.d 3 (u := .slice none 0 0) rfl
    have z4 := blk_cell K14.out.d 4 (u := .slice none 0 0) rfl
    go_wp2_with fail
    clear z0 z1 z2 z3 z4
    refine (help_Done_none _).mono ?_
    rintro e w15 ⟨rfl, hb15⟩
    have K15 := Lib.hid (K14.out.below hb15)
    have b15 := b14.trans (hb15.mono b14.size)
    clear K14 b14 hb15
    go_wp2_with fail
    refine (txn_ID_nil _).mono ?_
    rintro e w16 ⟨rfl, hb16⟩
    have K16 := Lib.hid (K15.out.below hb16)
    have b16 := b15.trans (hb16.mono b15.size)
    clear K15 b15 hb16
    go_wp2_with fail
    refine (txn_Results_nil _).mono ?_
    rintro e w17 ⟨rfl, hb17⟩
    have b17 := b16.trans (hb17.mono b16.size)
    clear K16 hb17 b16
    go_wp2
    go_ret
    exact ⟨rfl, b17⟩
end Go.Proofs.YtdinnaijfemmbaaGreatDoor
