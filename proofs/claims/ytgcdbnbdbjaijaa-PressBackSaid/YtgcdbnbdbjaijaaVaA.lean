/- Numbers in as few bytes as can be: contracts. -/
import Derived.Test.YtgcdbnbdbjaijaaPrQ
namespace Go.Bs
/-- A number's bytes, lowest digits first. -/
def varF : Nat → Nat → List UInt8
  | 0, x => [UInt8.ofNat x]
  | f + 1, x => if x < 128 then [UInt8.ofNat x] else UInt8.ofNat (128 + x % 128) :: varF f (x / 128)
def varB (x : Nat) : List UInt8 := varF 9 x
theorem varF_more : ∀ (f g x : Nat), x < 128 ^ (f + 1) → f ≤ g → varF f x = varF g x
  | 0, 0, _, _, _ => rfl
  | 0, g + 1, x, h, _ => by
    have : x < 128 := by simpa using h
    simp [varF, this]
  | f + 1, 0, _, _, h => by omega
  | f + 1, g + 1, x, h, hg => by
    simp only [varF]
    split
    · rfl
    · rw [varF_more f g (x / 128) (by rw [Nat.pow_succ] at h; omega) (by omega)]
theorem varB_small {x : Nat} (h : x < 128) : varB x = [UInt8.ofNat x] := by simp [varB, varF, h]
theorem varB_step {x : Nat} (h : ¬ x < 128) (hx : x < 2 ^ 64) : varB x = UInt8.ofNat (128 + x % 128) :: varB (x / 128) := by
  have e : varF 8 (x / 128) = varF 9 (x / 128) := varF_more 8 9 _ (by omega) (by omega)
  unfold varB
  rw [← e]
  simp [varF, h]
theorem varB_len (x : Nat) : (varB x).length ≤ 10 ∧ 1 ≤ (varB x).length := by
  have : ∀ f x, (varF f x).length ≤ f + 1 ∧ 1 ≤ (varF f x).length := by
    intro f
    induction f with
    | zero => intro x; simp [varF]
    | succ f ih => intro x; simp only [varF]; split <;> simp; exact (ih _).1
  exact this 9 x
end Go.Bs
namespace Go.Proofs.Ytgcdbnbdbjaijaa
open Go.RowKit Go.Bs Go.Maps
set_option linter.unusedVariables false
set_option linter.unusedSimpArgs false

set_option maxHeartbeats 1600000 in
theorem varint_size (x : Nat) (hx : x < 18446744073709551616) (w : World) :
    Calls Try.prog 104 #[.int .u64 x] w fun r w' => r = .returned (.int .i64 (varB x).length) ∧ Below w.heap.size w w' := by
  go_enter Try.func104, Try.ntmps104
  go_wp2_with fail
  go_loopw [0, 3] (fun y n wr => ∃ v k : Nat, y = .int .u64 v ∧ n = .int .i64 k ∧ v < 18446744073709551616 ∧ k ≤ 10 ∧ 1 ≤ k ∧ Hid ((varB x).length + 1 = k + (varB v).length) ∧ Below w.heap.size w wr) (fun y _ _ => (intOf y).toNat)
  case atStart => exact ⟨x, 1, rfl, rfl, hx, by omega, by omega, hid (by omega), Below.refl _ _⟩
  case round =>
    obtain ⟨v, k, rfl, rfl, hv, hk, hk1, hs, hb⟩ := hrel
    by_cases h : v < 128
    · have d1 : decide ((128 : Int) ≤ (v : Int)) = false := by simp; omega
      have hf : Hid ((varB x).length = k) := hid (by have := hs.out; rw [varB_small h] at this; simpa using this)
      go_wp2
      go_ret
      exact ⟨by rw [hf.out]; rfl, hb⟩
    · have d1 : decide ((128 : Int) ≤ (v : Int)) = true := by simp; omega
      have hn : Hid ((varB x).length + 1 = k + 1 + (varB (v / 128)).length) := hid (by have := hs.out; rw [varB_step h (by omega)] at this; simp at this; omega)
      have hk10 : k + 1 ≤ 10 := by have := hn.out; have := varB_len x; have := varB_len (v / 128); omega
      go_wp2_with fail
      go_outline
      go_roundw
      case rel => exact ⟨v / 128, k + 1, by go_num, by go_num, by omega, by omega, by omega, hn, hb⟩
      case measure => simp [intOf]; omega
end Go.Proofs.Ytgcdbnbdbjaijaa
