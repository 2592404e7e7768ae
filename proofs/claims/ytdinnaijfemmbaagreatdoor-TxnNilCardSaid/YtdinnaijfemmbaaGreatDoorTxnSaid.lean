/- TxnNil answers true whatever op and reply come in (P20.4: a nil transaction), and what comes in reads as it did; conditions: none but those of the given row. -/
import Derived.Test.YtdinnaijfemmbaaGreatDoorTxnLaw
import Derived.Test.YtdinnaijfemmbaaGreatDoorTxnClosed
import Derived.Test.YtdinnaijfemmbaaGreatDoorCards
import Derived.Test.YtdinnaijfemmbaaGreatDoorTie
namespace Go.Proofs.YtdinnaijfemmbaaGreatDoor
open Go.ChangeShapes Go.WideShapes Go.ChangeAt Go.RowKit
set_option maxRecDepth 100000

theorem txnNil_inst : Tryz.f5.isInstance Tryz.pinned.checked.prog Rows.txnNilRow.origin Rows.txnNilRow.targs := of_decide_eq_true (by kernel_rfl)

theorem txnNil_said : Rows.TxnNilSaid :=
  OpenClaim.holds_of_wide 5 Tryz.f5 rfl rfl rfl rfl rfl rfl rfl ⟨rfl, rfl, rfl, rfl, rfl⟩ rfl rfl rfl rfl rfl (by as_aux_lemma => kernel_rfl) Tryz.func5 txnNil_closed
    txnNil_inst (by unfold Func.isWrapper; first | (rw [if_pos (by decide +kernel)]; kernel_rfl) | (rw [if_neg (by decide +kernel)]; exact ⟨rfl, rfl⟩))
    (fun os started H enc _ => txnNil_lifted os started H enc)

theorem txnNil_plain (f : FuncId) (fn : Func) (hf : Tryz.pinned.checked.prog.funcNamed "armoire/armoirelaw20.TxnNil" = some f) (hfn : Tryz.pinned.checked.prog.funcs[f]? = some fn) :
    true = Tryz.pinned.checked.prog.looks [] ∧ ∀ (j : Nat) t, fn.params[j]? = some t → Tryz.pinned.checked.prog.wantsStandIn t = false := by
  obtain rfl : f = 5 := Option.some.inj ((show Tryz.prog.funcNamed "armoire/armoirelaw20.TxnNil" = some 5 by kernel_rfl).symm.trans hf) |>.symm
  obtain rfl : fn = Tryz.f5 := (Option.some.inj (Tryz.func5.symm.trans hfn)).symm
  refine ⟨by kernel_rfl, fun j t ht => ?_⟩
  rw [Tryz.params5] at ht
  have hm : t ∈ [26, 75] := by simpa using Array.mem_of_getElem? ht
  have hall : ([26, 75].all fun u => !Tryz.prog.wantsStandIn u) = true := by kernel_rfl
  exact (show Tryz.prog.wantsStandIn t = false by simpa using List.all_eq_true.1 hall t hm)

/-- THE CARD. -/
theorem txnNil_holds : Rows.TxnNilCardSaid :=
  Claim7.holds_tied_plain_at .later [] _ _ _ _ txnNil_said (fun _ h => by cases h) (by kernel_rfl) (fun _ h => by cases h) txnNil_row_tie rfl ⟨rfl, rfl⟩ (by kernel_rfl) rfl txnNil_plain (by kernel_rfl)
#print axioms txnNil_holds
end Go.Proofs.YtdinnaijfemmbaaGreatDoor
