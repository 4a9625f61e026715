/- The closed facts of RpcReads' row, each in a lemma of its own (in one declaration they outgrow the kernel's memory). -/
import Derived.Test.YtlbffbkbkajciaaGreatChecked
import Derived.Test.YtlbffbkbkajciaaGreatRows
import Derived.JoinedOf
import Derived.ProofKit
namespace Go.Proofs.YtlbffbkbkajciaaGreat
open Go.RowKit
theorem and_mkMyH {a b : Bool} (h1 : a = true) (h2 : b = true) : (a && b) = true := by rw [h1, h2]; rfl
set_option maxHeartbeats 100000000 in
theorem rpcReads_closed : joinedFacts Tryz.prog 10 Tryz.f10 Rows.rpcReadsSpec Rows.rpcReadsRow = true := by
  unfold joinedFacts
  repeat' (with_reducible refine and_mkMyH ?_ ?_)
  all_goals (as_aux_lemma => kernel_rfl)
end Go.Proofs.YtlbffbkbkajciaaGreat
