/- Contracts of the functions of package tally and of its reference, over this seat's translation. -/
import Derived.Test.YtkhopikmejnfeaaRows
import Derived.Test.YtkhopikmejnfeaaFloat
import Derived.Test.YtkhopikmejnfeaaBase
import Derived.Laws.ComplexArith
namespace Go.Proofs.Ytkhopikmejnfeaa
open Go.RowKit Fl Go.Bs
set_option linter.unusedVariables false
set_option linter.unusedSimpArgs false

theorem add0 (P : Program) (w : World) (t : TypeId) (b : Int) (hb : b.natAbs < 2 ^ 53) : (binOp .add t (.float .f64 (fI b)) (.float .f64 0)).run P w = .ok (.float .f64 (fI b)) w := by
  refine run_float_arith w .add t .f64 _ _ _ ?_
  have := add_fI b 0 hb (by decide) (by simpa using hb)
  rw [fI_zero, Int.add_zero] at this
  exact this
theorem unary_neg_float (k : FloatKind) (b : Nat) : Op.unary .neg (.float k b) = pure (.float k (Op.negFloat k b)) := rfl
theorem floatOfInt_fI (n : Int) : floatOfInt .f64 n = fI n := rfl
attribute [local go_sem] unary_neg_float floatOfInt_fI

set_option maxHeartbeats 400000 in
theorem swap_c (a b : Int) (ha : a.natAbs < 2 ^ 53) (hb : b.natAbs < 2 ^ 53) (w : World) :
    Calls Try.prog 7 #[.complex .f64 (fI a) (fI b)] w fun e w' => e = .returned (.complex .f64 (fI b) (fI a)) ∧ w = w' := by
  have h1 := fun w => add0 Try.prog w 24 a ha
  have h2 := fun w => add0 Try.prog w 24 b hb
  have h3 := neg_neg_float (fI b)
  go_enter Try.func7, Try.ntmps7
  go_wp2
  go_ret
  exact ⟨rfl, rfl⟩

theorem ord_gt (a b : Int) (ha : a.natAbs < 2 ^ 53) (hb : b.natAbs < 2 ^ 53) (h : b < a) : FloatKind.f64.format.order (fI a) (fI b) = some .gt := by
  have := order_fI a b ha hb
  rw [show compare a b = Ordering.gt from by simp only [compare, compareOfLessAndEq]; rw [if_neg (by omega), if_neg (by omega)]] at this
  exact this
theorem ord_lt (a b : Int) (ha : a.natAbs < 2 ^ 53) (hb : b.natAbs < 2 ^ 53) (h : a < b) : FloatKind.f64.format.order (fI a) (fI b) = some .lt := by
  have := order_fI a b ha hb
  rw [show compare a b = Ordering.lt from by simp only [compare, compareOfLessAndEq]; rw [if_pos (by omega)]] at this
  exact this
theorem ord_eq (a : Int) (ha : a.natAbs < 2 ^ 53) : FloatKind.f64.format.order (fI a) (fI a) = some .eq := by
  have := order_fI a a ha ha
  rw [show compare a a = Ordering.eq from by simp only [compare, compareOfLessAndEq]; simp] at this
  exact this
theorem most_fI : fI 1125899906842624 = 4832362400168542208 := by decide +kernel
theorem p53 : (2 : Nat) ^ 53 = 9007199254740992 := by decide
theorem int_of (P : Program) (t u : TypeId) (hs : (P.underlying t).isSome = true) (hd : P.underlying u = some (.int .i64)) (a : Int) (ha : a.natAbs < 2 ^ 53) (w : World) : (convert t u (.float .f64 (fI a))).run P w = .ok (.int .i64 a) w :=
  run_convert_float_int w t u .f64 .i64 _ a hs hd (toIntVal_fI a ha)
theorem int_of' (a : Int) (ha : a.natAbs < 2 ^ 53) (w : World) : (convert 24 3 (.float .f64 (fI a))).run Try.prog w = .ok (.int .i64 a) w :=
  int_of Try.prog _ _ (by rw [Try.underlying24]; rfl) Try.underlying3 a ha w

set_option maxHeartbeats 400000 in
theorem count_yes (a : Int) (h0 : 0 ≤ a) (h1 : a ≤ 1125899906842624) (w : World) :
    Calls Try.prog 27 #[.float .f64 (fI a)] w fun e w' => e = .returned (.bool true) ∧ w = w' := by
  have hb : a.natAbs < 2 ^ 53 := by rw [p53]; omega
  have h2 := fun w => int_of' a hb w
  have h3 : (FloatKind.f64.format.order (fI a) (fI a) == some Ordering.eq) = true := by rw [ord_eq a hb]; rfl
  have h4 : (FloatKind.f64.format.order (fI a) 0 == some Ordering.gt || FloatKind.f64.format.order (fI a) 0 == some Ordering.eq) = true := by
    rw [← fI_zero]
    rcases Int.lt_or_eq_of_le h0 with h | h
    · rw [ord_gt a 0 hb (by decide) h]; rfl
    · subst h; rw [ord_eq 0 (by decide)]; rfl
  have h5 : (FloatKind.f64.format.order (fI a) 4832362400168542208 == some Ordering.lt || FloatKind.f64.format.order (fI a) 4832362400168542208 == some Ordering.eq) = true := by
    rw [← most_fI]
    rcases Int.lt_or_eq_of_le h1 with h | h
    · rw [ord_lt a _ hb (by decide) h]; rfl
    · subst h; rw [ord_eq _ (by decide)]; rfl
  go_enter Try.func27, Try.ntmps27
  go_wp2
  go_ret
  exact ⟨rfl, rfl⟩

set_option maxHeartbeats 400000 in
theorem count_lt (a : Nat) (h : FloatKind.f64.format.order a 0 = some .lt) (w : World) :
    Calls Try.prog 27 #[.float .f64 a] w fun e w' => e = .returned (.bool false) ∧ w = w' := by
  have h4 : (FloatKind.f64.format.order a 0 == some Ordering.gt || FloatKind.f64.format.order a 0 == some Ordering.eq) = false := by rw [h]; rfl
  clear h
  go_enter Try.func27, Try.ntmps27
  go_wp2
  go_ret
  exact ⟨rfl, rfl⟩

set_option maxHeartbeats 400000 in
theorem count_gt (a : Nat) (h0 : FloatKind.f64.format.order a 0 = some .gt) (h : FloatKind.f64.format.order a 4832362400168542208 = some .gt) (w : World) :
    Calls Try.prog 27 #[.float .f64 a] w fun e w' => e = .returned (.bool false) ∧ w = w' := by
  have h4 : (FloatKind.f64.format.order a 0 == some Ordering.gt || FloatKind.f64.format.order a 0 == some Ordering.eq) = true := by rw [h0]; rfl
  have h5 : (FloatKind.f64.format.order a 4832362400168542208 == some Ordering.lt || FloatKind.f64.format.order a 4832362400168542208 == some Ordering.eq) = false := by rw [h]; rfl
  clear h h0
  go_enter Try.func27, Try.ntmps27
  go_wp2
  go_ret
  exact ⟨rfl, rfl⟩

def cnt (a : Int) : Bool := decide (0 ≤ a ∧ a ≤ 1125899906842624)
theorem count_any (a : Int) (hb : a.natAbs < 2 ^ 53) (w : World) :
    Calls Try.prog 27 #[.float .f64 (fI a)] w fun e w' => e = .returned (.bool (cnt a)) ∧ w = w' := by
  by_cases h0 : 0 ≤ a
  · by_cases h1 : a ≤ 1125899906842624
    · have : cnt a = true := by simp [cnt, h0, h1]
      rw [this]; exact count_yes a h0 h1 w
    · have : cnt a = false := by simp [cnt, h1]
      rw [this]; exact count_gt _ (by rw [← fI_zero]; exact ord_gt a 0 hb (by decide) (by omega)) (by rw [← most_fI]; exact ord_gt a _ hb (by decide) (by omega)) w
  · have : cnt a = false := by simp [cnt, h0]
    rw [this]; exact count_lt _ (by rw [← fI_zero]; exact ord_lt a 0 hb (by decide) (by omega)) w

def rt (a b : Int) : Bool := decide (0 ≤ a ∧ a ≤ 1125899906842624 ∧ 0 ≤ b ∧ b ≤ 1125899906842624 ∧ (0 < a ∨ b = 0))

set_option maxHeartbeats 400000 in
theorem right_no1 (a b : Nat) (h : ∀ w, Calls Try.prog 27 #[.float .f64 a] w fun e w' => e = .returned (.bool false) ∧ w = w') (w : World) :
    Calls Try.prog 13 #[.complex .f64 a b] w fun e w' => e = .returned (.bool false) ∧ w = w' := by
  have H := hid h; clear h
  go_enter Try.func13, Try.ntmps13
  go_wp2_with (go_at_call 27; refine (H.out _).mono ?_; rintro e w' ⟨rfl, rfl⟩)
  go_ret
  exact ⟨rfl, rfl⟩

set_option maxHeartbeats 400000 in
theorem right_no2 (a b : Nat) (h1 : ∀ w, Calls Try.prog 27 #[.float .f64 a] w fun e w' => e = .returned (.bool true) ∧ w = w')
    (h : ∀ w, Calls Try.prog 27 #[.float .f64 b] w fun e w' => e = .returned (.bool false) ∧ w = w') (w : World) :
    Calls Try.prog 13 #[.complex .f64 a b] w fun e w' => e = .returned (.bool false) ∧ w = w' := by
  have H := hid h; clear h
  have H1 := hid h1; clear h1
  go_enter Try.func13, Try.ntmps13
  go_wp2_with fail
  refine (H1.out _).mono ?_; rintro e w' ⟨rfl, rfl⟩
  go_wp2_with fail
  refine (H.out _).mono ?_; rintro e w' ⟨rfl, rfl⟩
  go_wp2
  go_ret
  exact ⟨rfl, rfl⟩

set_option maxHeartbeats 400000 in
theorem right_any (a b : Int) (ha : a.natAbs < 2 ^ 53) (hb : b.natAbs < 2 ^ 53) (w : World) :
    Calls Try.prog 13 #[.complex .f64 (fI a) (fI b)] w fun e w' => e = .returned (.bool (rt a b)) ∧ w = w' := by
  by_cases c1 : cnt a = true
  · by_cases c2 : cnt b = true
    · have d1 : 0 ≤ a ∧ a ≤ 1125899906842624 := by simpa [cnt] using c1
      have d2 : 0 ≤ b ∧ b ≤ 1125899906842624 := by simpa [cnt] using c2
      by_cases h : 0 < a
      · have hr : rt a b = true := by simp [rt, d1, d2, h]
        rw [hr]
        have h3 : (FloatKind.f64.format.order (fI a) 0 == some Ordering.gt) = true := by rw [← fI_zero, ord_gt a 0 ha (by decide) h]; rfl
        clear hr c1 c2
        go_enter Try.func13, Try.ntmps13
        go_wp2_with fail
        refine (count_yes a d1.1 d1.2 _).mono ?_; rintro e w' ⟨rfl, rfl⟩
        go_wp2_with fail
        refine (count_yes b d2.1 d2.2 _).mono ?_; rintro e w' ⟨rfl, rfl⟩
        go_wp2
        go_ret
        exact ⟨rfl, rfl⟩
      · obtain rfl : a = 0 := by omega
        by_cases hz : b = 0
        · subst hz
          have h3 : (FloatKind.f64.format.order (fI 0) 0 == some Ordering.gt) = false := by rw [← fI_zero, ord_eq 0 (by decide)]; rfl
          have h5 : (FloatKind.f64.format.order (fI 0) 0 == some Ordering.eq) = true := by rw [← fI_zero, ord_eq 0 (by decide)]; rfl
          have hr : rt 0 0 = true := by decide
          rw [hr]
          clear hr c1 c2 h ha hb
          go_enter Try.func13, Try.ntmps13
          go_wp2_with fail
          refine (count_yes 0 d1.1 d1.2 _).mono ?_; rintro e w' ⟨rfl, rfl⟩
          go_wp2_with fail
          refine (count_yes 0 d1.1 d1.2 _).mono ?_; rintro e w' ⟨rfl, rfl⟩
          go_wp2
          go_ret
          exact ⟨rfl, rfl⟩
        · have h3 : (FloatKind.f64.format.order (fI 0) 0 == some Ordering.gt) = false := by rw [← fI_zero, ord_eq 0 (by decide)]; rfl
          have h5 : (FloatKind.f64.format.order (fI b) 0 == some Ordering.eq) = false := by rw [← fI_zero, ord_gt b 0 hb (by decide) (by omega)]; rfl
          have hr : rt 0 b = false := by simp [rt, hz]
          rw [hr]
          clear hr c1 c2 h ha hb hz
          go_enter Try.func13, Try.ntmps13
          go_wp2_with fail
          refine (count_yes 0 d1.1 d1.2 _).mono ?_; rintro e w' ⟨rfl, rfl⟩
          go_wp2_with fail
          refine (count_yes b d2.1 d2.2 _).mono ?_; rintro e w' ⟨rfl, rfl⟩
          go_wp2
          go_ret
          exact ⟨rfl, rfl⟩
    · have c2' : cnt b = false := by simpa using c2
      have hr : rt a b = false := by
        have : ¬ (0 ≤ b ∧ b ≤ 1125899906842624) := by simpa [cnt] using c2
        simp only [rt, decide_eq_false_iff_not]; omega
      rw [hr]
      exact right_no2 _ _ (fun w => by have := count_any a ha w; rwa [c1] at this) (fun w => by have := count_any b hb w; rwa [c2'] at this) w
  · have c1' : cnt a = false := by simpa using c1
    have hr : rt a b = false := by
      have : ¬ (0 ≤ a ∧ a ≤ 1125899906842624) := by simpa [cnt] using c1
      simp only [rt, decide_eq_false_iff_not]; omega
    rw [hr]
    exact right_no1 _ _ (fun w => by have := count_any a ha w; rwa [c1'] at this) w

end Go.Proofs.Ytkhopikmejnfeaa
