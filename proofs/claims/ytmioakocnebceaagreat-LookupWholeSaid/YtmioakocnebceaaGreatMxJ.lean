/- The closed facts of LookupWhole' row, each in a lemma of its own (in one declaration they outgrow the kernel's memory). -/
import Derived.Test.YtmioakocnebceaaGreatChecked
import Derived.Test.YtmioakocnebceaaGreatRows
import Derived.JoinedOf
import Derived.ProofKit
namespace Go.Proofs.YtmioakocnebceaaGreat
open Go.RowKit
theorem and_mkMxJ {a b : Bool} (h1 : a = true) (h2 : b = true) : (a && b) = true := by rw [h1, h2]; rfl
set_option maxHeartbeats 100000000 in
theorem lookupWhole_closed : joinedFacts Tryz.prog 9 Tryz.f9 Rows.lookupWholeSpec Rows.lookupWholeRow = true := by
  unfold joinedFacts
  repeat' (with_reducible refine and_mkMxJ ?_ ?_)
  all_goals (as_aux_lemma => kernel_rfl)
end Go.Proofs.YtmioakocnebceaaGreat
