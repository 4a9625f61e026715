/- How many bytes a payload's block has. -/
import Derived.Test.YtgcdbnbdbjaijaaBlE
namespace Go.Proofs.Ytgcdbnbdbjaijaa
open Go.RowKit Go.Bs Go.Maps
set_option linter.unusedVariables false
set_option linter.unusedSimpArgs false

set_option maxRecDepth 100000 in
theorem block_size (w : World) (p : List UInt8) (a : Option Addr) (n c : Nat) (hl : rBytes.r (· < w.heap.size) w [.slice a n c] p) (hp : p.length ≤ 1048576) :
    Calls Try.prog 32 #[.slice a n c] w fun r w' => r = .returned (.int .i64 (blockB p).length) ∧ Below w.heap.size w w' := by
  have HB := hid (block_bytes w p a n c hl hp)
  clear hl
  generalize blockB p = K at *
  go_enter Try.func32, Try.ntmps32
  go_wp2_with fail
  refine HB.out.mono ?_
  rintro r w1 ⟨v, rfl, hr, hb1⟩
  obtain ⟨a1, c1, hv, _, _⟩ := sl_form hr
  simp only [List.cons.injEq, and_true] at hv
  subst hv
  clear hr
  go_wp2
  go_ret
  exact ⟨rfl, hb1⟩
end Go.Proofs.Ytgcdbnbdbjaijaa
