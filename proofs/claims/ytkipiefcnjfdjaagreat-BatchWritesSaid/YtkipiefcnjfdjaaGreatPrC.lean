/- The reference's best match: contract. -/
import Derived.Test.YtkipiefcnjfdjaaGreatPrB
namespace Go.Proofs.YtkipiefcnjfdjaaGreat
open Go.RowKit Go.Bs
set_option linter.unusedVariables false
set_option linter.unusedSimpArgs false

theorem maxM_all (b : List UInt8) (p k : Nat) (h : b.length ≤ p) : maxM b p k = 0 := by
  have := maxM_le b p k; omega
/-- From offset o on: the first one of the longest match, if it is long enough. -/
def bestAt (b : List UInt8) (p m f o : Nat) : Nat × Nat := if 4 ≤ m then (if firstM b p m f o = 0 then (0, 0) else (firstM b p m f o, m)) else (0, 0)
theorem bestAt_zero (b : List UInt8) (p : Nat) : bestR b p = bestAt b p (maxM b p (reach p)) (reach p) 1 := by
  unfold bestAt
  rcases bestR_facts b p with h | ⟨o, m, h, h1, h2, h4, hm, hall, hlt⟩
  · rw [h]
    by_cases h4 : 4 ≤ maxM b p (reach p)
    · have := h
      unfold bestR at this
      rw [if_pos h4] at this
      simp only [Prod.mk.injEq] at this
      omega
    · rw [if_neg h4]
  · have e : maxM b p (reach p) = m := by
      have g1 := maxM_ge b p (reach p) o h1 h2
      rcases maxM_is b p (reach p) with h | ⟨o', g1, g2, g3⟩
      · omega
      · have := hall o' g1 g2; omega
    have e2 : firstM b p m (reach p) 1 = o := firstM_is b p m _ 1 o h1 (by omega) hm fun j j1 j2 => by have := hlt j j1 j2; omega
    rw [h, e, if_pos h4, e2, if_neg (by omega)]
theorem bestAt_yes {b : List UInt8} {p m f o : Nat} (h4 : 4 ≤ m) (ho : 1 ≤ o) (h : mlen b p o = m) : bestAt b p m (f + 1) o = (o, m) := by
  have e : firstM b p m (f + 1) o = o := by simp [firstM, h]
  unfold bestAt
  rw [if_pos h4, e, if_neg (by omega)]
theorem bestAt_no {b : List UInt8} {p m f o : Nat} (h : ¬ (4 ≤ m ∧ mlen b p o = m)) : bestAt b p m (f + 1) o = bestAt b p m f (o + 1) := by
  unfold bestAt
  by_cases h4 : 4 ≤ m
  · have e : firstM b p m (f + 1) o = firstM b p m f (o + 1) := by
      simp only [firstM]
      rw [if_neg (fun e => h ⟨h4, e⟩)]
    rw [e]
  · rw [if_neg h4, if_neg h4]
theorem bestAt_end (b : List UInt8) (p m o : Nat) : bestAt b p m 0 o = (0, 0) := by
  unfold bestAt
  split <;> simp [firstM]

set_option maxHeartbeats 3200000 in
theorem ref14_best1 (b : List UInt8) (p : Nat) (a : Option Addr) (n c : Nat) (w : World) (hl : rBytes.r (· < w.heap.size) w [.slice a n c] b) (hlen : b.length ≤ 1048576) :
    Calls Tryz.prog 252 #[.slice a n c, .int .i64 p] w fun r w' => r = .returned (.tuple #[.int .i64 (bestR b p).1, .int .i64 (bestR b p).2]) ∧ Below w.heap.size w w' := by
  obtain ⟨rfl, hm, _, _⟩ := sl_len hl
  have HL := hid hl; clear hl
  have d0 : decide ((p : Int) < 0) = false := by simp
  by_cases h1 : p < b.length
  · have d1 : decide ((b.length : Int) ≤ (p : Int)) = false := by simp; omega
    have d1' : decide (b.length ≤ p) = false := by simp; omega
    have hff := hid (bestAt_zero b p)
    go_enter Tryz.func252, Tryz.ntmps252
    go_wp2_with fail
    go_loopw [6, 7] (fun m i wr => ∃ k : Nat, k ≤ reach p ∧ i = .int .i64 (k + 1 : Nat) ∧ m = .int .i64 (maxM b p k) ∧ Below w.heap.size w wr) (fun _ i _ => p + 1 - (intOf i).toNat)
    case atStart => exact ⟨0, Nat.zero_le _, rfl, rfl, Below.refl _ _⟩
    case round =>
      obtain ⟨k, hk, rfl, rfl, hb⟩ := hrel
      have hrp : reach p ≤ p ∧ reach p ≤ 65536 := by unfold reach; omega
      by_cases hlt : k < reach p
      · have d2 : decide (((k + 1 : Nat) : Int) ≤ (p : Int)) = true := by simp; omega
        have d3 : decide (((k + 1 : Nat) : Int) ≤ 65536) = true := by simp; omega
        have d2' : decide ((k + 1 : Nat) ≤ p) = true := by simp; omega
        have d2'' : decide ((k : Int) + 1 ≤ (p : Int)) = true := by simp; omega
        have d3'' : decide ((k : Int) + 1 ≤ 65536) = true := by simp; omega
        have hM := ref14_match b (p : Int) ((k + 1 : Nat) : Int) (by omega) (by omega) a b.length c wr (lift HL.out hb) hlen (by omega) (by omega)
        rw [Int.toNat_natCast, Int.toNat_natCast] at hM
        have HM := hid hM; clear hM
        go_wp2_with fail
        refine HM.out.mono ?_
        rintro r w2 ⟨rfl, hb2⟩
        have e1 : max (maxM b p k : Int) (mlen b p (k + 1) : Int) = (maxM b p (k + 1) : Nat) := by simp only [maxM]; omega
        go_wp2
        go_roundw
        case rel => exact ⟨k + 1, by omega, by go_num, (by have : (if maxM b p k < mlen b p (k + 1) then (mlen b p (k + 1) : Int) else (maxM b p k : Int)) = ((maxM b p (k + 1) : Nat) : Int) := (by simp only [maxM]; split <;> omega); rw [this]), below_then hb2 hb⟩
        case measure => simp [intOf]; omega
      · obtain rfl : k = reach p := by omega
        have hbw := hb
        have hexit : (decide ((reach p : Int) + 1 ≤ (p : Int)) = false) ∨ (decide ((reach p : Int) + 1 ≤ (p : Int)) = true ∧ decide ((reach p : Int) + 1 ≤ 65536) = false) := by
          unfold reach
          by_cases h6 : p ≤ 65536
          · left; simp; omega
          · right; constructor <;> simp <;> omega
        generalize hM : maxM b p (reach p) = M at *
        generalize hR : reach p = R at *
        have HM := hid hM; have HR := hid hR; clear hM hR
        rcases hexit with d2 | ⟨d2, d3⟩
        all_goals
          go_wp2_with fail
          go_loopw [4, 5, 8] (fun _ _ i wr => ∃ k : Nat, k ≤ R ∧ i = .int .i64 (k + 1 : Nat) ∧ Hid (bestR b p = bestAt b p M (R - k) (k + 1)) ∧ Below w.heap.size w wr) (fun _ _ i _ => p + 1 - (intOf i).toNat)
          case atStart => exact ⟨0, Nat.zero_le _, rfl, hff, hbw⟩
          case round =>
            obtain ⟨j, hj, rfl, hf, hb⟩ := hrel
            clear hff hbw
            by_cases hlt : j < R
            · have d4 : decide ((j : Int) + 1 ≤ (p : Int)) = true := by simp; omega
              have d5 : decide ((j : Int) + 1 ≤ 65536) = true := by simp; omega
              obtain ⟨f, hfe⟩ : ∃ f, R - j = f + 1 := ⟨R - j - 1, by omega⟩
              by_cases h4 : 4 ≤ M
              · have d6 : decide ((4 : Int) ≤ (M : Int)) = true := by simp; omega
                have hMc := ref14_match b (p : Int) ((j + 1 : Nat) : Int) (by omega) (by omega) a b.length c wr (lift HL.out hb) hlen (by omega) (by omega)
                rw [Int.toNat_natCast, Int.toNat_natCast] at hMc
                by_cases he : mlen b p (j + 1) = M
                · have hend : Hid (bestR b p = (j + 1, M)) := hid (by rw [hf.out, hfe, bestAt_yes h4 (by omega) he])
                  rw [he] at hMc
                  have HMc := hid hMc; clear hMc he hfe
                  have e1 : ((M : Int) == (M : Int)) = true := by simp
                  go_wp2_with fail
                  refine HMc.out.mono ?_
                  rintro r w2 ⟨rfl, hb2⟩
                  go_wp2
                  go_ret2
                  exact ⟨by rw [hend.out]; rfl, below_then hb2 hb⟩
                · have hend : Hid (bestR b p = bestAt b p M (R - (j + 1)) (j + 1 + 1)) := hid (by rw [hf.out, hfe, bestAt_no (fun e => he e.2), show R - (j + 1) = f by omega])
                  generalize mlen b p (j + 1) = m at *
                  have HMc := hid hMc; clear hMc hfe
                  have e1 : ((m : Int) == (M : Int)) = false := by simp; omega
                  have e2 : (m == M) = false := by simp; omega
                  clear he
                  have e3 : decide (m = M) = false := by simp; simpa using e2
                  go_wp2_with fail
                  refine HMc.out.mono ?_
                  rintro r w2 ⟨rfl, hb2⟩
                  go_wp2
                  go_roundw
                  case rel => (repeat apply Exists.intro); refine ⟨?_, ?_⟩; rotate_left; rfl; exact ⟨j + 1, by omega, by go_num, hend, below_then hb2 hb⟩
                  case measure => simp [intOf]; omega
              · have d6 : decide ((4 : Int) ≤ (M : Int)) = false := by simp; omega
                have hend : Hid (bestR b p = bestAt b p M (R - (j + 1)) (j + 1 + 1)) := hid (by rw [hf.out, hfe, bestAt_no (fun e => h4 e.1), show R - (j + 1) = f by omega])
                clear hfe
                go_wp2
                go_roundw
                case rel => exact ⟨j + 1, by omega, by go_num, hend, hb⟩
                case measure => simp [intOf]; omega
            · obtain rfl : j = R := by omega
              have hend : Hid (bestR b p = (0, 0)) := hid (by rw [hf.out, Nat.sub_self, bestAt_end])
              go_wp2
              go_ret2
              exact ⟨by rw [hend.out]; rfl, hb⟩
  · have d1 : decide ((b.length : Int) ≤ (p : Int)) = true := by simp; omega
    have d1' : decide (b.length ≤ p) = true := by simp; omega
    have hff : Hid (bestR b p = (0, 0)) := hid (bestR_none fun j _ _ => by have := mlen_le b p j; omega)
    go_enter Tryz.func252, Tryz.ntmps252
    go_wp2
    go_ret2
    exact ⟨by rw [hff.out]; rfl, by (repeat (first | exact Below.refl _ _ | assumption | (refine below_alloc ?_ _) | (refine Below.setCell ?_ (by first | omega | (simp; done) | (simp; omega)) _) | (refine Below.drew ?_) | (refine below_drewN ?_ _) | (refine below_then (by assumption) ?_)))⟩
end Go.Proofs.YtkipiefcnjfdjaaGreat
