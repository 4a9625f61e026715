/- PressLongest: the walk. -/
import Derived.Test.YtkipiefcnjfdjaaGreatPrO
namespace Go.Proofs.YtkipiefcnjfdjaaGreat
open Go.RowKit Go.Bs Go.Maps
set_option linter.unusedVariables false
set_option linter.unusedSimpArgs false

theorem toks_len (b : List UInt8) : ∀ (f p i : Nat), (toksF b f p i).length ≤ 2 * f + 1
  | 0, p, i => by
    simp only [toksF, litT]
    split <;> simp
  | f + 1, p, i => by
    simp only [toksF]
    split
    · split
      · have := toks_len b f (p + 1) i; omega
      · have := toks_len b f (p + (bestR b p).2) (p + (bestR b p).2)
        simp only [List.length_append, List.length_cons, litT]
        split <;> simp <;> omega
    · simp only [litT]
      split <;> simp

end Go.Proofs.YtkipiefcnjfdjaaGreat
