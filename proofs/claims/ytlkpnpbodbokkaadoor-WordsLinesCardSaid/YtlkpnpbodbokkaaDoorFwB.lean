/- The document's word and digits (written by gen_fwb.py). -/
import Derived.Test.YtlkpnpbodbokkaaDoorProg
import Derived.WalkKit
import Derived.Deep.Cut
import Derived.Deep.WholeRow
import Derived.Deep.RegionWith
import Derived.Lib.SlBytesRow
import Derived.Lib.ItoaMem
import Derived.Lib.ItoaLen
import Derived.Laws.Concat
import Derived.Test.YtlkpnpbodbokkaaDoorBase
import Derived.Test.YtlkpnpbodbokkaaDoorRep
import Derived.Test.YtlkpnpbodbokkaaDoorFwA
namespace Go.Bs
open Go.RowKit
set_option linter.unusedVariables false
theorem wordOf_nat (k : Nat) (h : k < 21) : wordOf (k : Int) = wordsL.getD k ⟨#[]⟩ := by
  unfold wordOf
  rw [if_pos (by omega), Int.toNat_natCast]
theorem wordOf_no (c : Int) (h : ∀ j : Nat, j < 21 → (j : Int) ≠ c) : wordOf c = ⟨#[]⟩ := by
  unfold wordOf
  rw [if_neg (fun h' => h c.toNat (by omega) (by omega))]
end Go.Bs
namespace Go.Proofs.YtlkpnpbodbokkaaDoor
open Go.RowKit Go.Bs
set_option linter.unusedVariables false
set_option linter.unusedSimpArgs false

set_option maxRecDepth 100000 in
set_option maxHeartbeats 3200000 in
theorem ref01_word (c : Int) (w : World) : Calls Tryd.prog 10 #[.int .i64 c] w fun r w' => r = .returned (.string (wordOf c)) ∧ Below w.heap.size w w' := by
  have HC : Hid (∀ k : Nat, k < 21 → (w.alloc (.cells wS 9)).cell? ⟨w.heap.size, k, none⟩ = some (.string (wordsL.getD k ⟨#[]⟩))) := hid (fun k hk => by
    rw [World.cell?_alloc_new]
    exact wS_get k hk)
  have HB : Hid (Below w.heap.size w (w.alloc (.cells wS 9))) := hid (by (repeat (first | exact Below.refl _ _ | assumption | (refine below_alloc ?_ _) | (refine Below.setCell ?_ (by first | omega | (simp; done) | (simp; omega)) _) | (refine Below.drew ?_) | (refine below_drewN ?_ _) | (refine below_then (by assumption) ?_))))
  have HF := hid (wordOf_nat)
  have HN := hid (wordOf_no c)
  go_enter Tryd.func10, Tryd.ntmps10
  go_upto_region 1 with (fail)
  refine wp_region_lit ?_
  refine wpList_plain rfl fun K hK => ?_
  unfold Oper.wp
  refine upon_val (v := .slice (some ⟨w.heap.size, 0, none⟩) 21 21) (w' := w.alloc (.cells wS 9)) (by kernel_rfl) ?_
  refine hK _ _ ?_
  clear hK K
  refine wpList_plain rfl fun K hK => ?_
  unfold Oper.wp
  refine upon_val (v := .slice (some ⟨w.heap.size, 0, none⟩) 21 21) (w' := w.alloc (.cells wS 9)) (by kernel_rfl) ?_
  refine hK _ _ ?_
  clear hK K
  refine wpList_nil ?_
  generalize w.alloc (.cells wS 9) = W at *
  go_wp2_with fail
  go_loopw [4] (fun i wr => ∃ k : Nat, k ≤ 21 ∧ i = .int .i64 k ∧ Hid (∀ j : Nat, j < k → (j : Int) ≠ c) ∧ wr = W) (fun i _ => 21 - (intOf i).toNat)
  case atStart => exact ⟨0, by omega, rfl, hid (fun j hj => absurd hj (Nat.not_lt_zero _)), rfl⟩
  case round =>
    obtain ⟨k, hk, rfl, hno, rfl⟩ := hrel
    by_cases hlt : k < 21
    · have i1 : (k : Int) < 21 := by omega
      have hix := HC.out k hlt
      have HE := hid (fun e : (k : Int) = c => (by rw [← HF.out k hlt, e] : wordsL.getD k ⟨#[]⟩ = wordOf c))
      generalize wordsL.getD k ⟨#[]⟩ = u at *
      by_cases he : (k : Int) = c
      · have hd : ((k : Int) == c) = true := beq_iff_eq.2 he
        have HE' := hid (HE.out he)
        clear he HE
        go_wp2_with fail
        go_ret
        exact ⟨by rw [← HE'.out]; rfl, HB.out⟩
      · have hd : ((k : Int) == c) = false := beq_eq_false_iff_ne.2 he
        have HN' := hid (fun (j : Nat) (hj : j < k + 1) => (by
          rcases Nat.lt_succ_iff_lt_or_eq.1 hj with h | rfl
          · exact hno.out j h
          · exact he : (j : Int) ≠ c))
        clear he HE
        go_wp2_with fail
        go_roundw
        case rel => exact ⟨k + 1, by omega, by go_num, hid HN'.out, trivial⟩
        case measure => simp [intOf]; omega
    · obtain rfl : k = 21 := by omega
      go_wp2_with fail
      go_ret
      exact ⟨by rw [HN.out hno.out]; rfl, HB.out⟩

theorem itoa_pos_s (k : Nat) (h : k < 10) : Lib.itoa (k : Int) = [UInt8.ofNat (48 + k)] := by rw [Lib.itoa_nonneg, Lib.decDigits_one h]
theorem itoa_pos_b (k : Nat) (h : 10 ≤ k) : Lib.itoa (k : Int) = Lib.itoa ((k / 10 : Nat) : Int) ++ [UInt8.ofNat (48 + k % 10)] := by
  rw [Lib.itoa_nonneg, Lib.itoa_nonneg]
  conv => lhs; rw [Lib.decDigits, dif_neg (by omega)]
theorem itoa_neg_s (k : Nat) (h0 : 1 ≤ k) (h : k < 10) : Lib.itoa (-(k : Int)) = [45, UInt8.ofNat (48 + k)] := by rw [Lib.itoa_neg _ h0, Lib.decDigits_one h]
theorem itoa_neg_b (k : Nat) (h : 10 ≤ k) : Lib.itoa (-(k : Int)) = Lib.itoa (-((k / 10 : Nat) : Int)) ++ [UInt8.ofNat (48 + k % 10)] := by
  rw [Lib.itoa_neg _ (by omega), Lib.itoa_neg _ (by omega)]
  conv => lhs; rw [Lib.decDigits, dif_neg (by omega)]
  rfl

/-- One byte as a string. -/
theorem one_str (W : World) (b : Nat) (x : Int) (u : UInt8) (hu : (u.toNat : Int) = x) (h : W.cell? ⟨b, 0, none⟩ = some (.int .u8 x)) :
    (convert 37 9 (.slice (some ⟨b, 0, none⟩) 1 1)).run Tryd.prog W = .ok (.string ⟨#[u]⟩) W := by
  have := run_convert_bytes_back (P := Tryd.prog) W 37 9 5 ⟨b, 0, none⟩ 1 [u] (by kernel_rfl) (by kernel_rfl) (by kernel_rfl) (fun j hj => by
    have : j = 0 := by simp at hj; omega
    subst this
    simp [Addr.add, h, hu])
  simpa using this

theorem dig_keep (w w1 : World) (x : Int) (h : Below ((w.alloc (.cells #[.int .u8 x] 5)).drew).heap.size ((w.alloc (.cells #[.int .u8 x] 5)).drew) w1) : w1.cell? ⟨w.heap.size, 0, none⟩ = some (.int .u8 x) := by
  rw [h.cell (by simp)]
  simp

def DigSpec (n : Int) : Prop := ∀ w : World, Calls Tryd.prog 39 #[.int .i64 n] w fun r w' => r = .returned (.string ⟨(Lib.itoa n).toArray⟩) ∧ Below w.heap.size w w'

theorem one_new (W : World) (x : Int) (u : UInt8) (hu : (u.toNat : Int) = x) :
    (convert 37 9 (.slice (some ⟨W.heap.size, 0, none⟩) 1 1)).run Tryd.prog (W.alloc (.cells #[.int .u8 x] 5)) = .ok (.string ⟨#[u]⟩) (W.alloc (.cells #[.int .u8 x] 5)) :=
  one_str _ _ x u hu (by rw [World.cell?_alloc_new]; rfl)

theorem u8_48 (k : Nat) (h : k < 10) : ((UInt8.ofNat (48 + k)).toNat : Int) = 48 + (k : Int) := by
  simp
  omega

set_option maxRecDepth 100000 in
set_option maxHeartbeats 3200000 in
theorem ref01_dig_s (k : Nat) (h : k < 10) : DigSpec (k : Int) := by
  intro w
  have HI := hid (itoa_pos_s k h)
  generalize Lib.itoa (k : Int) = L at *
  have d1 : decide ((k : Int) < 0) = false := decide_eq_false (by omega)
  have d2 : decide ((k : Int) < 10) = true := decide_eq_true (by omega)
  have hcv := fun W : World => one_new W (48 + (k : Int) % 10) (UInt8.ofNat (48 + k)) (by rw [u8_48 k h]; omega)
  have HU := hid (rfl : UInt8.ofNat (48 + k) = UInt8.ofNat (48 + k))
  generalize UInt8.ofNat (48 + k) = u at *
  go_enter Tryd.func39, Tryd.ntmps39
  go_wp2_with fail
  go_ret
  exact ⟨by rw [HI.out]; rfl, by (repeat (first | exact Below.refl _ _ | assumption | (refine below_alloc ?_ _) | (refine Below.setCell ?_ (by first | omega | (simp; done) | (simp; omega)) _) | (refine Below.drew ?_) | (refine below_drewN ?_ _) | (refine below_then (by assumption) ?_)))⟩

set_option maxRecDepth 100000 in
set_option maxHeartbeats 3200000 in
theorem ref01_dig_b (k : Nat) (h : 10 ≤ k) (hm : k ≤ 9223372036854775807) (IH : DigSpec ((k / 10 : Nat) : Int)) : DigSpec (k : Int) := by
  intro w
  have HI := hid (itoa_pos_b k h)
  generalize Lib.itoa (k : Int) = L at *
  have d1 : decide ((k : Int) < 0) = false := decide_eq_false (by omega)
  have d2 : decide ((k : Int) < 10) = false := decide_eq_false (by omega)
  have hcv := fun W : World => one_new W (48 + (k : Int) % 10) (UInt8.ofNat (48 + k % 10)) (by rw [u8_48 _ (Nat.mod_lt _ (by decide))]; omega)
  have HQ := hid (IH)
  have HLen := Lib.itoa_length_le ((k / 10 : Nat) : Int) (by omega) (by omega)
  unfold DigSpec at HQ
  have e1 : ((k / 10 : Nat) : Int) = (k : Int) / 10 := by omega
  rw [e1] at HQ HLen HI
  generalize UInt8.ofNat (48 + k % 10) = u at *
  generalize Lib.itoa ((k : Int) / 10) = L2 at *
  clear IH e1
  have HB : Hid (Below w.heap.size w (w.alloc (.cells #[.int .u8 (48 + (k : Int) % 10)] 5))) := hid (by (repeat (first | exact Below.refl _ _ | assumption | (refine below_alloc ?_ _) | (refine Below.setCell ?_ (by first | omega | (simp; done) | (simp; omega)) _) | (refine Below.drew ?_) | (refine below_drewN ?_ _) | (refine below_then (by assumption) ?_))))
  have hs : decide ((9223372036854775807 : Nat) < L2.length + 1) = false := decide_eq_false (by omega)
  go_enter Tryd.func39, Tryd.ntmps39
  go_wp2_with fail
  refine (HQ.out _).mono ?_
  rintro r w1 ⟨rfl, hb⟩
  go_wp2_with fail
  go_ret
  exact ⟨by rw [HI.out]; simp [ByteArray.mk_append_mk], HB.out.trans (hb.mono (by simp))⟩

set_option maxRecDepth 100000 in
set_option maxHeartbeats 3200000 in
theorem ref01_dig_n (k : Nat) (h0 : 1 ≤ k) (h : k < 10) : DigSpec (-(k : Int)) := by
  intro w
  have HI := hid (itoa_neg_s k h0 h)
  generalize Lib.itoa (-(k : Int)) = L at *
  have HE : Hid (48 - -(k : Int) = 48 + (k : Int)) := hid (by omega)
  have d1 : decide (-(k : Int) < 0) = true := decide_eq_true (by omega)
  have d2 : decide (-10 < -(k : Int)) = true := decide_eq_true (by omega)
  have hcv := fun W : World => one_new W (48 + (k : Int)) (UInt8.ofNat (48 + k)) (by rw [u8_48 k h])
  generalize UInt8.ofNat (48 + k) = u at *
  go_enter Tryd.func39, Tryd.ntmps39
  go_wp2_with fail
  go_ret
  exact ⟨by rw [HI.out]; rfl, by (repeat (first | exact Below.refl _ _ | assumption | (refine below_alloc ?_ _) | (refine Below.setCell ?_ (by first | omega | (simp; done) | (simp; omega)) _) | (refine Below.drew ?_) | (refine below_drewN ?_ _) | (refine below_then (by assumption) ?_)))⟩

set_option maxRecDepth 100000 in
set_option maxHeartbeats 3200000 in
theorem ref01_dig_m (k : Nat) (h : 10 ≤ k) (hm : k ≤ 9223372036854775808) (IH : DigSpec (-((k / 10 : Nat) : Int))) : DigSpec (-(k : Int)) := by
  intro w
  have HI := hid (itoa_neg_b k h)
  generalize Lib.itoa (-(k : Int)) = L at *
  have d1 : decide (-(k : Int) < 0) = true := decide_eq_true (by omega)
  have d2 : decide (-10 < -(k : Int)) = false := decide_eq_false (by omega)
  have hw0 : IntKind.i64.wrap (-((k : Int) / 10)) = -((k / 10 : Nat) : Int) := by rw [IntKind.wrap_i64]; omega
  have hX : IntKind.u8.wrap (IntKind.i64.wrap (48 + (k : Int).tmod 10)) = 48 + ((k % 10 : Nat) : Int) := by rw [show (k : Int).tmod 10 = ((k % 10 : Nat) : Int) from rfl, IntKind.wrap_i64, IntKind.wrap_u8]; omega
  have hcv := fun W : World => one_new W (IntKind.u8.wrap (IntKind.i64.wrap (48 + (k : Int).tmod 10))) (UInt8.ofNat (48 + k % 10)) (by rw [u8_48 _ (Nat.mod_lt _ (by decide)), hX])
  have hc1 := fun (W : World) (b : Nat) => one_str W b (IntKind.u8.wrap (IntKind.i64.wrap (48 + (k : Int).tmod 10))) (UInt8.ofNat (48 + k % 10)) (by rw [u8_48 _ (Nat.mod_lt _ (by decide)), hX])
  have hcd := fun W : World => hc1 ((W.alloc (.cells #[.int .u8 (IntKind.u8.wrap (IntKind.i64.wrap (48 + (k : Int).tmod 10)))] 5)).drew) W.heap.size (by simp)
  have HQ := hid (IH)
  have HLen := Lib.itoa_length_le (-((k / 10 : Nat) : Int)) (by omega) (by omega)
  unfold DigSpec at HQ
  have HW0 := hid hw0
  have HC1 := hid hc1
  clear hX hw0 hc1
  generalize UInt8.ofNat (48 + k % 10) = u at *
  generalize Lib.itoa (-((k / 10 : Nat) : Int)) = L2 at *
  clear IH
  go_enter Tryd.func39, Tryd.ntmps39
  go_upto_region 4 with (fail)
  go_region_with (go_at_call 39; rw [HW0.out]; refine (HQ.out _).mono ?_; rintro r w1 ⟨rfl, hb⟩; (first | have hc2 := HC1.out _ _ (dig_keep _ _ _ hb) | skip))
  all_goals go_wp2_with fail
  all_goals go_ret
  all_goals refine ⟨by rw [HI.out]; simp [ByteArray.mk_append_mk]; rfl, ?_⟩
  all_goals first
    | exact ((Below.refl _ w).alloc (Nat.le_refl _) _).drew.trans (hb.mono (by simp))
    | exact ((Below.refl _ w).drew.trans (hb.mono (by simp))).alloc (by have := hb.size; simpa using this) _
  done

theorem ref01_dig : ∀ (N : Nat) (n : Int), n.natAbs ≤ N → -9223372036854775808 ≤ n → n ≤ 9223372036854775807 → DigSpec n := by
  intro N
  induction N using Nat.strongRecOn with
  | _ N ih =>
    intro n hN h0 h1
    by_cases hn : 0 ≤ n
    · obtain ⟨k, rfl⟩ : ∃ k : Nat, n = k := ⟨n.toNat, by omega⟩
      by_cases hk : k < 10
      · exact ref01_dig_s k hk
      · exact ref01_dig_b k (by omega) (by omega) (ih (k / 10) (by omega) _ (by omega) (by omega) (by omega))
    · obtain ⟨k, rfl⟩ : ∃ k : Nat, n = -(k : Int) := ⟨n.natAbs, by omega⟩
      by_cases hk : k < 10
      · exact ref01_dig_n k (by omega) hk
      · exact ref01_dig_m k (by omega) (by omega) (ih (k / 10) (by omega) _ (by omega) (by omega) (by omega))

theorem ref01_digits (n : Int) (h0 : -9223372036854775808 ≤ n) (h1 : n ≤ 9223372036854775807) : DigSpec n := ref01_dig _ n (Nat.le_refl _) h0 h1

end Go.Proofs.YtlkpnpbodbokkaaDoor
