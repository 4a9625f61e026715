/- The document's numbers in digits (written by gen_wta.py). -/
import Derived.Test.YtlkpnpbodbokkaaDoorProg
import Derived.WalkKit
import Derived.Deep.Cut
import Derived.Test.YtlkpnpbodbokkaaDoorFwC
namespace Go.Bs
open Go.RowKit
theorem dec_len (k : Nat) (h : k < 18446744073709551616) : (Lib.decDigits k).length ≤ 20 := by
  rw [Lib.decDigits_length]
  exact Lib.nDigits_le20 k h
theorem dec_big (k : Nat) (h : 10 ≤ k) : Lib.decDigits k = Lib.decDigits (k / 10) ++ [UInt8.ofNat (48 + k % 10)] := by
  conv => lhs; rw [Lib.decDigits, dif_neg (by omega)]
end Go.Bs
namespace Go.Proofs.YtlkpnpbodbokkaaDoor
open Go.RowKit Go.Bs
set_option linter.unusedVariables false
set_option linter.unusedSimpArgs false

def NumSpec (k : Nat) : Prop := ∀ w : World, Calls Tryd.prog 21 #[.int .u64 (k : Int)] w fun r w' => r = .returned (.string ⟨(Lib.decDigits k).toArray⟩) ∧ Below w.heap.size w w'

set_option maxRecDepth 100000 in
set_option maxHeartbeats 3200000 in
theorem ref10_num_s (k : Nat) (h : k < 10) : NumSpec k := by
  intro w
  have HI := hid (Lib.decDigits_one h)
  generalize Lib.decDigits k = L at *
  have d2 : decide ((k : Int) < 10) = true := decide_eq_true (by omega)
  have hcv := fun W : World => one_new W (48 + (k : Int) % 10) (UInt8.ofNat (48 + k)) (by rw [u8_48 k h]; omega)
  generalize UInt8.ofNat (48 + k) = u at *
  go_enter Tryd.func21, Tryd.ntmps21
  go_wp2_with fail
  go_ret
  exact ⟨by rw [HI.out]; rfl, by (repeat (first | exact Below.refl _ _ | assumption | (refine below_alloc ?_ _) | (refine Below.setCell ?_ (by first | omega | (simp; done) | (simp; omega)) _) | (refine Below.drew ?_) | (refine below_drewN ?_ _) | (refine below_then (by assumption) ?_)))⟩

set_option maxRecDepth 100000 in
set_option maxHeartbeats 3200000 in
theorem ref10_num_b (k : Nat) (h : 10 ≤ k) (hm : k < 18446744073709551616) (IH : NumSpec (k / 10)) : NumSpec k := by
  intro w
  have HI := hid (dec_big k h)
  generalize Lib.decDigits k = L at *
  have d2 : decide ((k : Int) < 10) = false := decide_eq_false (by omega)
  have hcv := fun W : World => one_new W (48 + (k : Int) % 10) (UInt8.ofNat (48 + k % 10)) (by rw [u8_48 _ (Nat.mod_lt _ (by decide))]; omega)
  have HQ := hid (IH)
  have HLen := dec_len (k / 10) (by omega)
  unfold NumSpec at HQ
  have e1 : ((k / 10 : Nat) : Int) = (k : Int) / 10 := by omega
  rw [e1] at HQ
  generalize UInt8.ofNat (48 + k % 10) = u at *
  generalize Lib.decDigits (k / 10) = L2 at *
  clear IH e1
  have HB : Hid (Below w.heap.size w (w.alloc (.cells #[.int .u8 (48 + (k : Int) % 10)] 5))) := hid (by (repeat (first | exact Below.refl _ _ | assumption | (refine below_alloc ?_ _) | (refine Below.setCell ?_ (by first | omega | (simp; done) | (simp; omega)) _) | (refine Below.drew ?_) | (refine below_drewN ?_ _) | (refine below_then (by assumption) ?_))))
  have hs : decide ((9223372036854775807 : Nat) < L2.length + 1) = false := decide_eq_false (by omega)
  go_enter Tryd.func21, Tryd.ntmps21
  go_wp2_with fail
  refine (HQ.out _).mono ?_
  rintro r w1 ⟨rfl, hb⟩
  go_wp2_with fail
  go_ret
  exact ⟨by rw [HI.out]; simp [ByteArray.mk_append_mk], HB.out.trans (hb.mono (by simp))⟩

theorem ref10_num : ∀ k : Nat, k < 18446744073709551616 → NumSpec k := by
  intro k
  induction k using Nat.strongRecOn with
  | _ k ih =>
    intro hk
    by_cases h : k < 10
    · exact ref10_num_s k h
    · exact ref10_num_b k (by omega) hk (ih (k / 10) (by omega) (by omega))
end Go.Proofs.YtlkpnpbodbokkaaDoor
