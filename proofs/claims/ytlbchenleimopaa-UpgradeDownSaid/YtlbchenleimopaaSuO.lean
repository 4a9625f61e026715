/- UpgradeDown: the law's walk, for every input. -/
import Derived.Test.YtlbchenleimopaaSuN
namespace Go.Proofs.Ytlbchenleimopaa
open Go.RowKit Go.Bs
set_option linter.unusedVariables false

set_option maxRecDepth 100000 in
theorem upgradeDown_walk {H : Type} (enc : TypeId × Value → H) (W : World) (base : Nat) (v0 : Value) (d0 : DataW H) (p0 : List MemPlace)
    (k0 : DataW.Trod enc Try.prog W 0 (fun _ => true) true 30 v0 d0 p0) (o0 : Value.okWide Try.prog W .any base 30 v0) :
    Calls Try.prog 5 #[v0] W fun e w' => e = .returned (.bool true) ∧ Below W.heap.size W w' := by
  obtain ⟨fuel, hf⟩ := k0
  obtain ⟨cs, rfl, hsz⟩ := Go.WideShapes.okWide_struct Try.underlying30 o0
  obtain ⟨u, hu⟩ := o_seg enc W fuel _ _ hf
  obtain ⟨a, c, hcs, h0, hl⟩ := seg_cells hu
  have e : cs = #[.int .u64 u.epoch, .slice a u.batches.length c] := by
    have := hcs
    simp only [Value.cells] at this
    exact Array.ext' this
  rw [e]
  exact upgradeDown_c u.epoch u.batches a _ c W h0 hl
end Go.Proofs.Ytlbchenleimopaa
