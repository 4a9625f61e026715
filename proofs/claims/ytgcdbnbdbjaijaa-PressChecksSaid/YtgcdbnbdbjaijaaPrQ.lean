/- PressLongest: the law's walk, for every input. -/
import Derived.Test.YtgcdbnbdbjaijaaPrP
namespace Go.Proofs.Ytgcdbnbdbjaijaa
open Go.RowKit Go.Bs Go.Maps
set_option linter.unusedVariables false
set_option linter.unusedSimpArgs false

theorem o_bytes : Opens Try.prog 22 rBytes := opens_slice (sz := 1) Try.underlying22 (by kernel_rfl) (by decide) (opens_byte Try.underlying5)

set_option maxRecDepth 100000 in
theorem pressLongest_walk {H : Type} (enc : TypeId × Value → H) (W : World) (base : Nat) (v0 : Value) (d0 : DataW H) (p0 : List MemPlace)
    (k0 : DataW.Trod enc Try.prog W 0 (fun _ => true) true 22 v0 d0 p0) (o0 : Value.okWide Try.prog W .any base 22 v0) :
    Calls Try.prog 3 #[v0] W fun e w' => e = .returned (.bool true) ∧ Below W.heap.size W w' := by
  obtain ⟨fuel, hf⟩ := k0
  obtain ⟨a, len, cap, rfl⟩ := Go.WideShapes.okWide_slice Try.underlying22 o0
  obtain ⟨b, hb⟩ := o_bytes enc W fuel _ _ hf
  exact pressLongest_c b a len cap W hb
end Go.Proofs.Ytgcdbnbdbjaijaa
