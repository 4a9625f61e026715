/- The old logs, by the program: numbers. -/
import Derived.Test.YtlbchenleimopaaStR
namespace Go.Proofs.Ytlbchenleimopaa
open Go.RowKit Go.Bs
set_option linter.unusedVariables false
set_option linter.unusedSimpArgs false
set_option maxHeartbeats 800000 in
theorem legacy_numbered (b : Int) (n : Nat) (w : World) (h0 : 0 ≤ b ∧ b ≤ 18446744073709551615) (hn : n ≤ 1000000000000) :
    Calls Try.prog 42 #[.int .u64 b, .int .i64 n] w fun r w' => r = .returned (.bool (poR b && decide (b + n ≤ 4611686018427387904))) ∧ w = w' := by
  have hc := epoch_pos b
  cases hp : poR b
  · rw [hp] at hc
    have HC := hid hc; clear hc hp
    go_enter Try.func42, Try.ntmps42
    go_wp2_with (go_at_call 66; refine (HC.out _).mono ?_; rintro e w' ⟨rfl, rfl⟩)
    go_ret
    exact ⟨rfl, rfl⟩
  · have hlt : b < 4611686018427387904 := by simpa [poR] using hp
    rw [hp] at hc
    have HC := hid hc; clear hc hp
    go_enter Try.func42, Try.ntmps42
    go_wp2_with (go_at_call 66; refine (HC.out _).mono ?_; rintro e w' ⟨rfl, rfl⟩)
    go_ret
    exact ⟨rfl, rfl⟩
end Go.Proofs.Ytlbchenleimopaa
