/- The closed facts of SegmentCompacts' row, each in a lemma of its own (in one declaration they outgrow the kernel's memory). -/
import Derived.Test.YtkipiefcnjfdjaaGreatChecked
import Derived.Test.YtkipiefcnjfdjaaGreatRows
import Derived.JoinedOf
import Derived.ProofKit
namespace Go.Proofs.YtkipiefcnjfdjaaGreat
open Go.RowKit
theorem and_mkSgZc {a b : Bool} (h1 : a = true) (h2 : b = true) : (a && b) = true := by rw [h1, h2]; rfl
set_option maxHeartbeats 100000000 in
theorem segmentCompacts_closed : joinedFacts Tryz.prog 9 Tryz.f9 Rows.segmentCompactsSpec Rows.segmentCompactsRow = true := by
  unfold joinedFacts
  repeat' (with_reducible refine and_mkSgZc ?_ ?_)
  all_goals (as_aux_lemma => kernel_rfl)
end Go.Proofs.YtkipiefcnjfdjaaGreat
