/- tally.Share and Times whole; the reference's Share and Times. -/
import Derived.Test.YtkhopikmejnfeaaTallyF
namespace Go.Proofs.Ytkhopikmejnfeaa
open Go.RowKit Fl Go.Bs
set_option linter.unusedVariables false
set_option linter.unusedSimpArgs false
attribute [local go_sem] unary_neg_float floatOfInt_fI

theorem share_any (a b c d : Int) (ha : a.natAbs < 2 ^ 53) (hb : b.natAbs < 2 ^ 53) (hc : c.natAbs < 2 ^ 53) (hd : d.natAbs < 2 ^ 53) (w : World) :
    Calls Try.prog 22 #[.complex .f64 (fI a) (fI b), .complex .f64 (fI c) (fI d)] w fun e w' => e = .returned (.int .i64 (shareOf (a, b) (c, d))) ∧ ∃ n, w' = w.drewN n := by
  have hx := bytes_any a b ha hb
  have hy := bytes_any c d hc hd
  have key : shareOf (a, b) (c, d) = (if (if rt a b then b else 0) = 0 ∨ (if rt a b then b else 0) < (if rt c d then d else 0) then 0 else (if rt c d then d else 0) / (if rt a b then b else 0) * 1000 + (if rt c d then d else 0) % (if rt a b then b else 0) * 1000 / (if rt a b then b else 0)) := by
    unfold shareOf
    cases h1 : rt a b
    · simp
    · obtain ⟨_, _, b0, _, _⟩ := rt_bound h1
      cases h2 : rt c d
      · simp
      · obtain ⟨_, _, d0, _, _⟩ := rt_bound h2
        simp only [if_true, true_and]
        by_cases hb0 : b = 0
        · simp [hb0]
        · by_cases hd1 : b < d
          · rw [if_neg (by omega), if_pos (.inr hd1)]
          · rw [if_pos (by omega), if_neg (by omega), share_eq b d (by omega) d0 (by omega)]
  rw [key]
  refine share_core a b c d _ _ hx hy ?_ ?_ ?_ ?_ w
  · cases h1 : rt a b
    · simp
    · have := rt_bound h1; simp; omega
  · cases h1 : rt a b
    · simp
    · have := rt_bound h1; simp; omega
  · cases h1 : rt c d
    · simp
    · have := rt_bound h1; simp; omega
  · cases h1 : rt c d
    · simp
    · have := rt_bound h1; simp; omega

set_option maxHeartbeats 800000 in
theorem rshare_any (a b c d : Int) (p q : Bool) (hb : 0 ≤ b ∧ b ≤ 1125899906842624) (hd : 0 ≤ d ∧ d ≤ 1125899906842624) (w : World) :
    Calls Try.prog 23 #[.agg #[.int .i64 a, .int .i64 b, .bool p], .agg #[.int .i64 c, .int .i64 d, .bool q]] w fun e w' =>
      e = .returned (.int .i64 (if p = false ∧ q = false ∧ b ≠ 0 ∧ d ≤ b then 1000 * d / b else 0)) ∧ Below w.heap.size w w' := by
  obtain ⟨b0, b1⟩ := hb
  obtain ⟨d0, d1⟩ := hd
  have fin : Below w.heap.size w ((w.alloc (.cells #[.int .i64 a, .int .i64 b, .bool p] 33)).alloc (.cells #[.int .i64 c, .int .i64 d, .bool q] 33)) := ((Below.refl _ _).alloc (Nat.le_refl _) _).alloc (by simp) _
  have F := hid fin; clear fin
  cases p
  · cases q
    · by_cases hb0 : b = 0
      · subst hb0
        rw [if_neg (by omega)]
        go_enter Try.func23, Try.ntmps23
        go_wp2
        go_ret
        exact ⟨rfl, F.out⟩
      · have e1 : (b == 0) = false := by simp; omega
        by_cases h1 : b < d
        · rw [if_neg (by omega)]
          clear hb0
          go_enter Try.func23, Try.ntmps23
          go_wp2
          go_ret
          exact ⟨rfl, F.out⟩
        · rw [if_pos (by refine ⟨rfl, rfl, hb0, by omega⟩)]
          have h2 := Int.not_lt.1 h1
          have h3 : 1 ≤ b := by omega
          have hq0 : 0 ≤ 1000 * d / b := Int.ediv_nonneg (by omega) b0
          have hq1 : 1000 * d / b ≤ 1000 := by
            have : 1000 * d / b ≤ 1000 * b / b := Int.ediv_le_ediv (by omega) (by omega)
            rwa [Int.mul_ediv_cancel _ hb0] at this
          clear hb0 h1
          go_enter Try.func23, Try.ntmps23
          go_wp2
          go_ret
          exact ⟨rfl, F.out⟩
    · rw [if_neg (by simp)]
      go_enter Try.func23, Try.ntmps23
      go_wp2
      go_ret
      exact ⟨rfl, F.out⟩
  · rw [if_neg (by simp)]
    go_enter Try.func23, Try.ntmps23
    go_wp2
    go_ret
    exact ⟨rfl, F.out⟩

def timesOf (a b n : Int) : Int × Int := if rt a b = true ∧ 1 ≤ n ∧ n ≤ 1125899906842624 ∧ rt (a * n) (b * n) = true then (a * n, b * n) else (0, 0)

theorem mul_run (P : Program) (t : TypeId) (x y r : Nat) (h : Ieee.Format.mul Ieee.double x y = some r) (w : World) : (binOp .mul t (.float .f64 x) (.float .f64 y)).run P w = .ok (.float .f64 r) w :=
  run_float_arith w .mul t .f64 x y r h

set_option maxHeartbeats 400000 in
theorem times_core (a b n : Int) (r s : Nat) (g : Bool) (h : rt a b = true) (n0 : 1 ≤ n) (n1 : n ≤ 1125899906842624)
    (hr : Ieee.Format.mul Ieee.double (fI a) (fI n) = some r) (hs : Ieee.Format.mul Ieee.double (fI b) (fI n) = some s)
    (hg : ∀ w, Calls Try.prog 13 #[.complex .f64 r s] w fun e w' => e = .returned (.bool g) ∧ w = w') (w : World) :
    Calls Try.prog 24 #[.complex .f64 (fI a) (fI b), .int .i64 n] w fun e w' => e = .returned (if g then .complex .f64 r s else .complex .f64 0 0) ∧ w = w' := by
  have m1 := mul_run Try.prog 24 _ _ _ hr
  have m2 := mul_run Try.prog 24 _ _ _ hs
  have h1 := right_any a b (rt_a h) (rt_b h)
  rw [h] at h1
  have H1 := hid h1; clear h1 h hr hs
  have HG := hid hg; clear hg
  cases g
  all_goals
    go_enter Try.func24, Try.ntmps24
    go_wp2_with fail
    refine (H1.out _).mono ?_; rintro e w' ⟨rfl, rfl⟩
    go_wp2_with fail
    refine (HG.out _).mono ?_; rintro e w' ⟨rfl, rfl⟩
    go_wp2
    go_ret
    exact ⟨rfl, rfl⟩

set_option maxHeartbeats 400000 in
theorem times_no (a b n : Int) (ha : a.natAbs < 2 ^ 53) (hb : b.natAbs < 2 ^ 53) (h : rt a b = false ∨ rt a b = true ∧ (n < 1 ∨ 1125899906842624 < n)) (w : World) :
    Calls Try.prog 24 #[.complex .f64 (fI a) (fI b), .int .i64 n] w fun e w' => e = .returned (.complex .f64 0 0) ∧ w = w' := by
  have h1 := right_any a b ha hb
  rcases h with h | ⟨h, h2⟩
  · rw [h] at h1
    have H1 := hid h1; clear h1 h
    go_enter Try.func24, Try.ntmps24
    go_wp2_with (go_at_call 13; refine (H1.out _).mono ?_; rintro e w' ⟨rfl, rfl⟩)
    go_ret
    exact ⟨rfl, rfl⟩
  · rw [h] at h1
    have H1 := hid h1; clear h1 h
    by_cases h3 : n ≤ 0
    · go_enter Try.func24, Try.ntmps24
      go_wp2_with (go_at_call 13; refine (H1.out _).mono ?_; rintro e w' ⟨rfl, rfl⟩)
      go_ret
      exact ⟨rfl, rfl⟩
    · have h4 : 1125899906842624 < n := by omega
      clear h2
      go_enter Try.func24, Try.ntmps24
      go_wp2_with (go_at_call 13; refine (H1.out _).mono ?_; rintro e w' ⟨rfl, rfl⟩)
      go_ret
      exact ⟨rfl, rfl⟩

theorem times_any (a b n : Int) (ha : a.natAbs < 2 ^ 53) (hb : b.natAbs < 2 ^ 53) (w : World) :
    Calls Try.prog 24 #[.complex .f64 (fI a) (fI b), .int .i64 n] w fun e w' => e = .returned (.complex .f64 (fI (timesOf a b n).1) (fI (timesOf a b n).2)) ∧ w = w' := by
  unfold timesOf
  cases h : rt a b
  · rw [if_neg (by simp)]
    simp only [fI_zero]
    exact times_no a b n ha hb (.inl h) w
  · by_cases hn : 1 ≤ n ∧ n ≤ 1125899906842624
    · obtain ⟨n0, n1⟩ := hn
      obtain ⟨a0, a1, b0, b1, _⟩ := rt_bound h
      obtain ⟨a', rfl⟩ := Int.eq_ofNat_of_zero_le a0
      obtain ⟨b', rfl⟩ := Int.eq_ofNat_of_zero_le b0
      obtain ⟨n', rfl⟩ := Int.eq_ofNat_of_zero_le (show 0 ≤ n by omega)
      have k1 : a' < 2 ^ 53 := by rw [p53]; omega
      have k2 : b' < 2 ^ 53 := by rw [p53]; omega
      have k3 : n' < 2 ^ 53 := by rw [p53]; omega
      have big : ∀ x : Nat, 2 ^ 53 ≤ x * n' → (((x : Int) * (n' : Int) : Int) > 1125899906842624) := by
        intro x hx
        rw [← Int.natCast_mul]
        rw [p53] at hx
        omega
      by_cases c1 : a' * n' < 2 ^ 53
      · by_cases c2 : b' * n' < 2 ^ 53
        · have e1 := mul_small a' n' k1 k3 c1
          have e2 := mul_small b' n' k2 k3 c2
          have hg := right_any ((a' * n' : Nat) : Int) ((b' * n' : Nat) : Int) (by rw [Int.natAbs_natCast]; exact c1) (by rw [Int.natAbs_natCast]; exact c2)
          have := times_core _ _ _ _ _ _ h n0 n1 e1 e2 hg w
          rw [Int.natCast_mul, Int.natCast_mul] at this
          cases g : rt ((a' : Int) * n') ((b' : Int) * n')
          · rw [if_neg (by simp)]; rw [g] at this; simp only [fI_zero]; exact this
          · rw [if_pos ⟨rfl, n0, n1, rfl⟩]; rw [g] at this; exact this
        · have e1 := mul_small a' n' k1 k3 c1
          obtain ⟨s, e2, hs⟩ := mul_big b' n' k2 k3 (Nat.not_lt.1 c2)
          have hb' := big b' (Nat.not_lt.1 c2)
          have hf : rt ((a' : Int) * n') ((b' : Int) * n') = false := by simp only [rt, decide_eq_false_iff_not]; omega
          rw [if_neg (by simp [hf])]
          simp only [fI_zero]
          have s1 : FloatKind.f64.format.order s 0 = some .gt := by have := hs 0 (by decide); rw [show ((0 : Nat) : Int) = 0 from rfl, fI_zero] at this; exact this
          have s2 : FloatKind.f64.format.order s 4832362400168542208 = some .gt := by have := hs 1125899906842624 (by decide); rw [show ((1125899906842624 : Nat) : Int) = 1125899906842624 from rfl, most_fI] at this; exact this
          have hcg := count_gt s s1 s2
          have hany := count_any ((a' * n' : Nat) : Int) (by rw [Int.natAbs_natCast]; exact c1)
          cases g : cnt ((a' * n' : Nat) : Int)
          · rw [g] at hany
            exact times_core _ _ _ _ _ false h n0 n1 e1 e2 (right_no1 _ _ hany) w
          · rw [g] at hany
            exact times_core _ _ _ _ _ false h n0 n1 e1 e2 (right_no2 _ _ hany hcg) w
      · obtain ⟨r, e1, hr⟩ := mul_big a' n' k1 k3 (Nat.not_lt.1 c1)
        have ha' := big a' (Nat.not_lt.1 c1)
        have hf : rt ((a' : Int) * n') ((b' : Int) * n') = false := by simp only [rt, decide_eq_false_iff_not]; omega
        rw [if_neg (by simp [hf])]
        simp only [fI_zero]
        have s1 : FloatKind.f64.format.order r 0 = some .gt := by have := hr 0 (by decide); rw [show ((0 : Nat) : Int) = 0 from rfl, fI_zero] at this; exact this
        have s2 : FloatKind.f64.format.order r 4832362400168542208 = some .gt := by have := hr 1125899906842624 (by decide); rw [show ((1125899906842624 : Nat) : Int) = 1125899906842624 from rfl, most_fI] at this; exact this
        by_cases c2 : b' * n' < 2 ^ 53
        · exact times_core _ _ _ _ _ false h n0 n1 e1 (mul_small b' n' k2 k3 c2) (right_no1 _ _ (count_gt r s1 s2)) w
        · obtain ⟨s, e2, hs⟩ := mul_big b' n' k2 k3 (Nat.not_lt.1 c2)
          exact times_core _ _ _ _ _ false h n0 n1 e1 e2 (right_no1 _ _ (count_gt r s1 s2)) w
    · rw [if_neg (by omega)]
      simp only [fI_zero]
      exact times_no a b n ha hb (.inr ⟨h, by omega⟩) w
end Go.Proofs.Ytkhopikmejnfeaa
