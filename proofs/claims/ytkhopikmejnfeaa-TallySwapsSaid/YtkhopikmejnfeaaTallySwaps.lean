/- The walk of the law TallySwaps. -/
import Derived.Test.YtkhopikmejnfeaaTallyE
import Derived.Test.YtkhopikmejnfeaaRep
namespace Go.Proofs.Ytkhopikmejnfeaa
open Go.RowKit Fl Go.Bs
set_option linter.unusedVariables false
set_option linter.unusedSimpArgs false
attribute [local go_sem] unary_neg_float floatOfInt_fI

set_option maxHeartbeats 800000 in
theorem swaps_c (a b : Int) (ha : -2147483648 ≤ a ∧ a ≤ 2147483647) (hb : -2147483648 ≤ b ∧ b ≤ 2147483647) (w : World) :
    Calls Try.prog 3 #[.agg #[.int .i32 a, .int .i32 b]] w fun e w' => e = .returned (.bool true) ∧ Below w.heap.size w w' := by
  have ha' : a.natAbs < 2 ^ 53 := by rw [p53]; omega
  have hb' : b.natAbs < 2 ^ 53 := by rw [p53]; omega
  have h1 : (FloatKind.f64.format.order (fI a) (fI a) == some Ordering.eq) = true := by rw [ord_eq a ha']; rfl
  have h2 : (FloatKind.f64.format.order (fI b) (fI b) == some Ordering.eq) = true := by rw [ord_eq b hb']; rfl
  go_enter Try.func3, Try.ntmps3
  go_wp2_with fail
  refine (swap_c a b ha' hb' _).mono ?_; rintro e w' ⟨rfl, rfl⟩
  go_wp2_with fail
  refine (swap_c b a hb' ha' _).mono ?_; rintro e w' ⟨rfl, rfl⟩
  go_wp2_with fail
  refine (live_any _).mono ?_; rintro e w' ⟨rfl, hb⟩
  go_wp2
  go_ret
  exact ⟨rfl, ((Below.refl _ _).alloc (Nat.le_refl _) _).trans (hb.mono (by simp))⟩

theorem tallySwaps_walk {H : Type} (enc : TypeId × Value → H) (W : World) (base : Nat) (v0 : Value) (d0 : DataW H) (p0 : List MemPlace)
    (k0 : DataW.Trod enc Try.prog W 0 (fun _ => true) true 22 v0 d0 p0) (o0 : Value.okWide Try.prog W .any base 22 v0) :
    Calls Try.prog 3 #[v0] W fun e w' => e = .returned (.bool true) ∧ Below W.heap.size W w' := by
  obtain ⟨fuel, hf⟩ := k0
  obtain ⟨cs, rfl, hsz⟩ := okWide_array Try.underlying22 o0
  obtain ⟨y, h1, h2, h3⟩ := opens_array (A := rInt .i32) (sz := 1) Try.underlying22 (by kernel_rfl) (by kernel_rfl) (opens_int Try.underlying21) enc W fuel _ _ hf
  match y, h2 with
  | [a, b], _ =>
    obtain ⟨e0, wa⟩ := h3 0 a rfl
    obtain ⟨e1, wb⟩ := h3 1 b rfl
    obtain ⟨c0, c1, rfl⟩ := Joins.array2 (cs := cs) (by simpa [Value.cells] using h1)
    simp [Value.cells] at e0 e1
    subst e0 e1
    exact swaps_c a b (bounds_i32 wa) (bounds_i32 wb) W
end Go.Proofs.Ytkhopikmejnfeaa
