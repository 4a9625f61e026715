/- tally.Without, Share, Times and the reference's Share, Times, Sum. -/
import Derived.Test.YtkhopikmejnfeaaTallyTells
namespace Go.Proofs.Ytkhopikmejnfeaa
open Go.RowKit Fl Go.Bs
set_option linter.unusedVariables false
set_option linter.unusedSimpArgs false
attribute [local go_sem] unary_neg_float floatOfInt_fI

theorem small_of {a : Int} (h : -1 ≤ a ∧ a ≤ 2251799813685248) : a.natAbs < 2 ^ 53 := by rw [p53]; omega

set_option maxHeartbeats 400000 in
theorem without_no1 (a b c d : Int) (ha : a.natAbs < 2 ^ 53) (hb : b.natAbs < 2 ^ 53) (h : rt a b = false) (w : World) :
    Calls Try.prog 20 #[.complex .f64 (fI a) (fI b), .complex .f64 (fI c) (fI d)] w fun e w' => e = .returned (.tuple #[.complex .f64 0 0, .int .i64 17]) ∧ w = w' := by
  have h1 := right_any a b ha hb
  rw [h] at h1
  have H1 := hid h1; clear h1 h
  go_enter Try.func20, Try.ntmps20
  go_wp2_with (go_at_call 13; refine (H1.out _).mono ?_; rintro e w' ⟨rfl, rfl⟩)
  go_ret2
  exact ⟨rfl, rfl⟩
set_option maxHeartbeats 400000 in
theorem without_no2 (a b c d : Int) (ha : a.natAbs < 2 ^ 53) (hb : b.natAbs < 2 ^ 53) (hc : c.natAbs < 2 ^ 53) (hd : d.natAbs < 2 ^ 53) (h : rt a b = true) (g : rt c d = false) (w : World) :
    Calls Try.prog 20 #[.complex .f64 (fI a) (fI b), .complex .f64 (fI c) (fI d)] w fun e w' => e = .returned (.tuple #[.complex .f64 0 0, .int .i64 17]) ∧ w = w' := by
  have h1 := right_any a b ha hb
  rw [h] at h1
  have h2 := right_any c d hc hd
  rw [g] at h2
  have H1 := hid h1; clear h1 h
  have H2 := hid h2; clear h2 g
  go_enter Try.func20, Try.ntmps20
  go_wp2_with fail
  refine (H1.out _).mono ?_; rintro e w' ⟨rfl, rfl⟩
  go_wp2_with fail
  refine (H2.out _).mono ?_; rintro e w' ⟨rfl, rfl⟩
  go_wp2
  go_ret2
  exact ⟨rfl, rfl⟩
set_option maxHeartbeats 400000 in
theorem without_at (a b c d : Int) (h : rt a b = true) (g : rt c d = true) (w : World) :
    Calls Try.prog 20 #[.complex .f64 (fI a) (fI b), .complex .f64 (fI c) (fI d)] w fun e w' =>
      e = .returned (if rt (a - c) (b - d) then .tuple #[.complex .f64 (fI (a - c)) (fI (b - d)), .int .i64 0] else .tuple #[.complex .f64 0 0, .int .i64 17]) ∧ w = w' := by
  have x1 := rt_bound h
  have x2 := rt_bound g
  have b1 : (a - c).natAbs < 2 ^ 53 := by rw [p53]; omega
  have b2 : (b - d).natAbs < 2 ^ 53 := by rw [p53]; omega
  have hs := sub_cz Try.prog 23 a b c d (rt_a h) (rt_b h) (rt_a g) (rt_b g) b1 b2
  have h1 := right_any a b (rt_a h) (rt_b h)
  have h2 := right_any c d (rt_a g) (rt_b g)
  have h3 := right_any (a - c) (b - d) b1 b2
  rw [h] at h1
  rw [g] at h2
  clear x1 x2 b1 b2 h g
  have H1 := hid h1; clear h1
  have H2 := hid h2; clear h2
  cases k : rt (a - c) (b - d)
  · rw [k] at h3
    have H3 := hid h3; clear h3 k
    go_enter Try.func20, Try.ntmps20
    go_wp2_with fail
    refine (H1.out _).mono ?_; rintro e w' ⟨rfl, rfl⟩
    go_wp2_with fail
    refine (H2.out _).mono ?_; rintro e w' ⟨rfl, rfl⟩
    go_wp2_with fail
    refine (H3.out _).mono ?_; rintro e w' ⟨rfl, rfl⟩
    go_wp2
    go_ret2
    exact ⟨rfl, rfl⟩
  · rw [k] at h3
    have H3 := hid h3; clear h3 k
    go_enter Try.func20, Try.ntmps20
    go_wp2_with fail
    refine (H1.out _).mono ?_; rintro e w' ⟨rfl, rfl⟩
    go_wp2_with fail
    refine (H2.out _).mono ?_; rintro e w' ⟨rfl, rfl⟩
    go_wp2_with fail
    refine (H3.out _).mono ?_; rintro e w' ⟨rfl, rfl⟩
    go_wp2
    go_ret2
    exact ⟨rfl, rfl⟩

/-- Of a thousand. -/
def shareOf (a b : Int × Int) : Int := if rt a.1 a.2 = true ∧ rt b.1 b.2 = true ∧ a.2 ≠ 0 ∧ b.2 ≤ a.2 then 1000 * b.2 / a.2 else 0

theorem share_eq (x y : Int) (hx : 0 < x) (h0 : 0 ≤ y) (hy : y ≤ x) : y / x * 1000 + y % x * 1000 / x = 1000 * y / x := by
  rcases Int.lt_or_eq_of_le hy with h | rfl
  · rw [Int.ediv_eq_zero_of_lt h0 h, Int.emod_eq_of_lt h0 h, Int.zero_mul, Int.zero_add, Int.mul_comm]
  · rw [Int.ediv_self (by omega), Int.emod_self, Int.zero_mul, Int.zero_ediv, Int.mul_ediv_cancel _ (by omega)]; rfl

set_option maxHeartbeats 400000 in
theorem share_core (a b c d x y : Int) (hx : ∀ w, Calls Try.prog 15 #[.complex .f64 (fI a) (fI b)] w fun e w' => e = .returned (.int .i64 x) ∧ w = w') (hy : ∀ w, Calls Try.prog 15 #[.complex .f64 (fI c) (fI d)] w fun e w' => e = .returned (.int .i64 y) ∧ w = w')
    (x0 : 0 ≤ x) (x1 : x ≤ 1125899906842624) (y0 : 0 ≤ y) (y1 : y ≤ 1125899906842624) (w : World) :
    Calls Try.prog 22 #[.complex .f64 (fI a) (fI b), .complex .f64 (fI c) (fI d)] w fun e w' => e = .returned (.int .i64 (if x = 0 ∨ x < y then 0 else y / x * 1000 + y % x * 1000 / x)) ∧ ∃ n, w' = w.drewN n := by
  have HX := hid hx; clear hx
  have HY := hid hy; clear hy
  by_cases h0 : x = 0
  · subst h0
    rw [if_pos (.inl rfl)]
    go_enter Try.func22, Try.ntmps22
    go_wp2_with fail
    refine (HX.out _).mono ?_; rintro e w' ⟨rfl, rfl⟩
    go_wp2_with fail
    refine (HY.out _).mono ?_; rintro e w' ⟨rfl, rfl⟩
    go_wp2
    go_ret
    exact ⟨rfl, 0, rfl⟩
  · have e1 : (x == 0) = false := by simp; omega
    by_cases h1 : x < y
    · rw [if_pos (.inr h1)]
      clear h0
      go_enter Try.func22, Try.ntmps22
      go_wp2_with fail
      refine (HX.out _).mono ?_; rintro e w' ⟨rfl, rfl⟩
      go_wp2_with fail
      refine (HY.out _).mono ?_; rintro e w' ⟨rfl, rfl⟩
      go_wp2
      go_ret
      exact ⟨rfl, 0, rfl⟩
    · rw [if_neg (by omega)]
      have hd : y / x ≤ 1 := by
        have : y / x ≤ x / x := Int.ediv_le_ediv (by omega) (by omega)
        rwa [Int.ediv_self h0] at this
      have hd0 : 0 ≤ y / x := Int.ediv_nonneg y0 x0
      have hm0 : 0 ≤ y % x := Int.emod_nonneg _ h0
      have hm1 : y % x < x := Int.emod_lt_of_pos _ (by omega)
      have hq0 : 0 ≤ y % x * 1000 / x := Int.ediv_nonneg (by omega) x0
      have hq1 : y % x * 1000 / x ≤ 1000 := by
        have : y % x * 1000 / x ≤ x * 1000 / x := Int.ediv_le_ediv (by omega) (by omega)
        rwa [Int.mul_ediv_cancel_left _ h0] at this
      have x1' : 1 ≤ x := by omega
      have hf := Int.not_lt.1 h1
      clear h0 h1
      go_enter Try.func22, Try.ntmps22
      go_wp2_with fail
      refine (HX.out _).mono ?_; rintro e w' ⟨rfl, rfl⟩
      go_wp2_with fail
      refine (HY.out _).mono ?_; rintro e w' ⟨rfl, rfl⟩
      go_wp2_with fail
      go_quiet (fail)
      go_wp2
      go_ret
      exact ⟨rfl, nq, rfl⟩
end Go.Proofs.Ytkhopikmejnfeaa
