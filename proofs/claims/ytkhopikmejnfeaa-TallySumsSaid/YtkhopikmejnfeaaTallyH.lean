/- The reference's Times and Sum. -/
import Derived.Test.YtkhopikmejnfeaaTallyG
import Derived.Deep.RegionHeld3
import Derived.Deep.AppendLies
namespace Go.Proofs.Ytkhopikmejnfeaa
open Go.RowKit Fl Go.Bs
set_option linter.unusedVariables false
set_option linter.unusedSimpArgs false
attribute [local go_sem] unary_neg_float floatOfInt_fI

theorem timesOf_ref (a b n : Int) (h : rt a b = true) (ha : a ≠ 0) (hn : 1 ≤ n) : timesOf a b n = if 1125899906842624 / n < a ∨ 1125899906842624 / n < b then (0, 0) else (a * n, b * n) := by
  obtain ⟨a0, a1, b0, b1, _⟩ := rt_bound h
  have n0 : 0 < n := by omega
  have ka := Int.le_ediv_iff_mul_le (a := a) (b := 1125899906842624) n0
  have kb := Int.le_ediv_iff_mul_le (a := b) (b := 1125899906842624) n0
  have pa : 0 < a * n := Int.mul_pos (by omega) n0
  have pb : 0 ≤ b * n := Int.mul_nonneg b0 (by omega)
  have pa1 : n ≤ a * n := by
    have : 1 * n ≤ a * n := Int.mul_le_mul_of_nonneg_right (by omega) (by omega)
    omega
  unfold timesOf
  by_cases c : 1125899906842624 / n < a ∨ 1125899906842624 / n < b
  · rw [if_pos c, if_neg]
    rintro ⟨_, _, _, h4⟩
    obtain ⟨_, x1, _, x3, _⟩ := rt_bound h4
    have := ka.2 x1
    have := kb.2 x3
    omega
  · rw [if_neg c, if_pos]
    have y1 := ka.1 (by omega)
    have y2 := kb.1 (by omega)
    refine ⟨h, hn, by omega, ?_⟩
    simp only [rt, decide_eq_true_eq]; omega

theorem timesOf_zero (a b n : Int) (h : rt a b = false ∨ n < 1 ∨ a = 0) : timesOf a b n = (0, 0) := by
  unfold timesOf
  by_cases c : rt a b = true ∧ 1 ≤ n ∧ n ≤ 1125899906842624 ∧ rt (a * n) (b * n) = true
  · rw [if_pos c]
    obtain ⟨c1, c2, _, _⟩ := c
    rcases h with h | h | h
    · rw [h] at c1; cases c1
    · omega
    · obtain ⟨_, _, _, _, h5⟩ := rt_bound c1
      subst h
      rcases h5 with h5 | h5
      · omega
      · subst h5; simp
  · rw [if_neg c]

theorem timesOf_rt (a b n : Int) : rt (timesOf a b n).1 (timesOf a b n).2 = true := by
  unfold timesOf
  split
  · rename_i h; exact h.2.2.2
  · decide

def rT (x y : Int) (p : Bool) : Value := .agg #[.int .i64 x, .int .i64 y, .bool p]

set_option maxHeartbeats 800000 in
theorem rtimes_no (a b n : Int) (p : Bool) (h : p = true ∨ p = false ∧ (n < 1 ∨ ¬ n < 1 ∧ a = 0)) (w : World) :
    Calls Try.prog 25 #[.agg #[.int .i64 a, .int .i64 b, .bool p], .int .i64 n] w fun e w' => e = .returned (.agg #[.int .i64 0, .int .i64 0, .bool false]) ∧ Below w.heap.size w w' := by
  have fin : Below w.heap.size w ((w.alloc (.cells #[.int .i64 a, .int .i64 b, .bool p] 33)).alloc (.cells #[.int .i64 0, .int .i64 0, .bool false] 33)) := ((Below.refl _ _).alloc (Nat.le_refl _) _).alloc (by simp) _
  have F := hid fin; clear fin
  rcases h with rfl | ⟨rfl, h | ⟨h, rfl⟩⟩
  all_goals
    go_enter Try.func25, Try.ntmps25
    go_wp2
    exact bodyPost_ret (v := .agg #[.int .i64 0, .int .i64 0, .bool false]) (by simp [results, Try.results25, go_sem]) rfl ⟨rfl, F.out⟩

set_option maxHeartbeats 800000 in
theorem rtimes_at (a b n : Int) (ha0 : a ≠ 0) (hn : 1 ≤ n) (hn1 : n ≤ 9223372036854775807) (a0 : 0 ≤ a) (b0 : 0 ≤ b) (hq0 : 0 ≤ 1125899906842624 / n) (hq1 : 1125899906842624 / n ≤ 1125899906842624)
    (am : a ≤ 1125899906842624 / n → b ≤ 1125899906842624 / n → a * n ≤ 1125899906842624 ∧ b * n ≤ 1125899906842624 ∧ 0 ≤ a * n ∧ 0 ≤ b * n) (w : World) :
    Calls Try.prog 25 #[.agg #[.int .i64 a, .int .i64 b, .bool false], .int .i64 n] w fun e w' =>
      e = .returned (if 1125899906842624 / n < a ∨ 1125899906842624 / n < b then .agg #[.int .i64 0, .int .i64 0, .bool false] else .agg #[.int .i64 (a * n), .int .i64 (b * n), .bool false]) ∧ Below w.heap.size w w' := by
  have e1 : (a == 0) = false := by simp; omega
  have fin : Below w.heap.size w ((w.alloc (.cells #[.int .i64 a, .int .i64 b, .bool false] 33)).alloc (.cells #[.int .i64 0, .int .i64 0, .bool false] 33)) := ((Below.refl _ _).alloc (Nat.le_refl _) _).alloc (by simp) _
  have F := hid fin; clear fin
  clear ha0
  by_cases c1 : 1125899906842624 / n < a
  · rw [if_pos (.inl c1)]
    clear am
    have d1 : decide (1125899906842624 / n < a) = true := by simpa using c1
    go_enter Try.func25, Try.ntmps25
    go_wp2_with fail
    go_quiet (fail)
    go_wp2
    exact bodyPost_ret (v := .agg #[.int .i64 0, .int .i64 0, .bool false]) (by simp [results, Try.results25, go_sem]) rfl ⟨rfl, by (repeat (first | exact Below.refl _ _ | assumption | (refine below_alloc ?_ _) | (refine Below.setCell ?_ (by first | omega | (simp; done) | (simp; omega)) _) | (refine Below.drew ?_) | (refine below_drewN ?_ _) | (refine below_then (by assumption) ?_)))⟩
  · have d1 : decide (1125899906842624 / n < a) = false := by simpa using c1
    by_cases c2 : 1125899906842624 / n < b
    · rw [if_pos (.inr c2)]
      have d2 : decide (1125899906842624 / n < b) = true := by simpa using c2
      clear am
      go_enter Try.func25, Try.ntmps25
      go_wp2_with fail
      go_quiet (fail)
      go_wp2
      exact bodyPost_ret (v := .agg #[.int .i64 0, .int .i64 0, .bool false]) (by simp [results, Try.results25, go_sem]) rfl ⟨rfl, by (repeat (first | exact Below.refl _ _ | assumption | (refine below_alloc ?_ _) | (refine Below.setCell ?_ (by first | omega | (simp; done) | (simp; omega)) _) | (refine Below.drew ?_) | (refine below_drewN ?_ _) | (refine below_then (by assumption) ?_)))⟩
    · rw [if_neg (by omega)]
      have d2 : decide (1125899906842624 / n < b) = false := by simpa using c2
      obtain ⟨m1, m2, m3, m4⟩ := am (by omega) (by omega)
      have fin2 : Below w.heap.size w ((w.alloc (.cells #[.int .i64 a, .int .i64 b, .bool false] 33)).alloc (.cells #[.int .i64 (a * n), .int .i64 (b * n), .bool false] 33)) := ((Below.refl _ _).alloc (Nat.le_refl _) _).alloc (by simp) _
      have F2 := hid fin2; clear fin2
      clear am c1 c2
      go_enter Try.func25, Try.ntmps25
      go_wp2_with fail
      go_quiet (fail)
      go_wp2
      exact bodyPost_ret (v := .agg #[.int .i64 (a * n), .int .i64 (b * n), .bool false]) (by simp [results, Try.results25, go_sem]) rfl ⟨rfl, by (repeat (first | exact Below.refl _ _ | assumption | (refine below_alloc ?_ _) | (refine Below.setCell ?_ (by first | omega | (simp; done) | (simp; omega)) _) | (refine Below.drew ?_) | (refine below_drewN ?_ _) | (refine below_then (by assumption) ?_)))⟩

/-- The reference's Times of what it makes of two counts. -/
theorem rtimes_any (a b n : Int) (hn1 : n ≤ 9223372036854775807) (x y : Int) (p : Bool) (ht : tv a b = rT x y p) (w : World) :
    Calls Try.prog 25 #[rT x y p, .int .i64 n] w fun e w' => e = .returned (rT (timesOf a b n).1 (timesOf a b n).2 false) ∧ Below w.heap.size w w' := by
  unfold tv rT at ht
  cases h : rt a b
  · rw [h] at ht
    simp at ht
    obtain ⟨rfl, rfl, rfl⟩ := ht
    rw [timesOf_zero a b n (.inl h)]
    exact rtimes_no 0 0 n true (.inl rfl) w
  · rw [h] at ht
    simp at ht
    obtain ⟨rfl, rfl, rfl⟩ := ht
    by_cases hn : n < 1
    · rw [timesOf_zero a b n (.inr (.inl hn))]
      exact rtimes_no a b n false (.inr ⟨rfl, .inl hn⟩) w
    · by_cases ha : a = 0
      · rw [timesOf_zero a b n (.inr (.inr ha))]
        exact rtimes_no a b n false (.inr ⟨rfl, .inr ⟨hn, ha⟩⟩) w
      · obtain ⟨a0, a1, b0, b1, _⟩ := rt_bound h
        have n0 : 0 < n := by omega
        have hq1 : 1125899906842624 / n ≤ 1125899906842624 := by
          have : 1125899906842624 / n ≤ 1125899906842624 / 1 := by
            rw [Int.ediv_one]; exact Int.ediv_le_self _ (by omega)
          simpa using this
        have := rtimes_at a b n ha (by omega) hn1 a0 b0 (Int.ediv_nonneg (by omega) (by omega)) hq1 (fun h1 h2 =>
          ⟨(Int.le_ediv_iff_mul_le n0).1 h1, (Int.le_ediv_iff_mul_le n0).1 h2, Int.mul_nonneg a0 (by omega), Int.mul_nonneg b0 (by omega)⟩) w
        rw [timesOf_ref a b n h ha (by omega)]
        unfold rT
        split at this <;> rename_i hc
        · rw [if_pos hc]; exact this
        · rw [if_neg hc]; exact this
end Go.Proofs.Ytkhopikmejnfeaa
