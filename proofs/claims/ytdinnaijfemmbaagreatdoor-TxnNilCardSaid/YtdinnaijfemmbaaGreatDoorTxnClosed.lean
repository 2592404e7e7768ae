/- The closed facts of TxnNil's row, one by one. -/
import Derived.Test.YtdinnaijfemmbaaGreatDoorRows
import Derived.KernelRfl
import Derived.JoinedOf
namespace Go.Proofs.YtdinnaijfemmbaaGreatDoor
set_option maxRecDepth 100000

theorem and_true_mk {a b : Bool} (ha : a = true) (hb : b = true) : (a && b) = true := by rw [ha, hb]; rfl
set_option maxHeartbeats 4000000 in
theorem txnNil_closed : joinedFacts Tryz.pinned.checked.prog 5 Tryz.f5 Rows.txnNilSpec Rows.txnNilRow = true := by
  unfold joinedFacts
  repeat' (with_reducible refine and_true_mk ?_ ?_)
  all_goals (as_aux_lemma => kernel_rfl)
end Go.Proofs.YtdinnaijfemmbaaGreatDoor
