/- The closed facts of FeedWhole' row, each in a lemma of its own (in one declaration they outgrow the kernel's memory). -/
import Derived.Test.YtfddhafbhceoaaaGreatChecked
import Derived.Test.YtfddhafbhceoaaaGreatRows
import Derived.JoinedOf
import Derived.ProofKit
namespace Go.Proofs.YtfddhafbhceoaaaGreat
open Go.RowKit
theorem and_mkMxI {a b : Bool} (h1 : a = true) (h2 : b = true) : (a && b) = true := by rw [h1, h2]; rfl
set_option maxHeartbeats 100000000 in
theorem feedWhole_closed : joinedFacts Tryz.prog 13 Tryz.f13 Rows.feedWholeSpec Rows.feedWholeRow = true := by
  unfold joinedFacts
  repeat' (with_reducible refine and_mkMxI ?_ ?_)
  all_goals (as_aux_lemma => kernel_rfl)
end Go.Proofs.YtfddhafbhceoaaaGreat
