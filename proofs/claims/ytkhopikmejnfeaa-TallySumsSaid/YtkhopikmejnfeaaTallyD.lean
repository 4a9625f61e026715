/- Contracts of the functions of package tally, of its reference and of the law's helpers. -/
import Derived.Test.YtkhopikmejnfeaaTallyC
namespace Go.Proofs.Ytkhopikmejnfeaa
open Go.RowKit Fl Go.Bs
set_option linter.unusedVariables false
set_option linter.unusedSimpArgs false
attribute [local go_sem] unary_neg_float floatOfInt_fI

theorem rt_bound {a b : Int} (h : rt a b = true) : 0 ≤ a ∧ a ≤ 1125899906842624 ∧ 0 ≤ b ∧ b ≤ 1125899906842624 ∧ (0 < a ∨ b = 0) := by simpa [rt] using h
theorem rt_a {a b : Int} (h : rt a b = true) : a.natAbs < 2 ^ 53 := by have := rt_bound h; rw [p53]; omega
theorem rt_b {a b : Int} (h : rt a b = true) : b.natAbs < 2 ^ 53 := by have := rt_bound h; rw [p53]; omega

set_option maxHeartbeats 400000 in
theorem things_any (a b : Int) (ha : a.natAbs < 2 ^ 53) (hb : b.natAbs < 2 ^ 53) (w : World) :
    Calls Try.prog 14 #[.complex .f64 (fI a) (fI b)] w fun e w' => e = .returned (.int .i64 (if rt a b then a else 0)) ∧ w = w' := by
  have hr := right_any a b ha hb
  have h2 := fun w => int_of' a ha w
  cases h : rt a b
  all_goals
    rw [h] at hr
    have H := hid hr; clear hr h
    go_enter Try.func14, Try.ntmps14
    go_wp2_with (go_at_call 13; refine (H.out _).mono ?_; rintro e w' ⟨rfl, rfl⟩)
    go_ret
    exact ⟨rfl, rfl⟩

set_option maxHeartbeats 400000 in
theorem bytes_any (a b : Int) (ha : a.natAbs < 2 ^ 53) (hb : b.natAbs < 2 ^ 53) (w : World) :
    Calls Try.prog 15 #[.complex .f64 (fI a) (fI b)] w fun e w' => e = .returned (.int .i64 (if rt a b then b else 0)) ∧ w = w' := by
  have hr := right_any a b ha hb
  have h2 := fun w => int_of' b hb w
  cases h : rt a b
  all_goals
    rw [h] at hr
    have H := hid hr; clear hr h
    go_enter Try.func15, Try.ntmps15
    go_wp2_with (go_at_call 13; refine (H.out _).mono ?_; rintro e w' ⟨rfl, rfl⟩)
    go_ret
    exact ⟨rfl, rfl⟩

set_option maxHeartbeats 400000 in
theorem made_yes (a b : Int) (h : rt a b = true) (w : World) :
    Calls Try.prog 26 #[.int .i64 a, .int .i64 b] w fun e w' => e = .returned (.tuple #[.complex .f64 (fI a) (fI b), .bool true]) ∧ w = w' := by
  obtain ⟨h0, h1, h2, h3, h4⟩ := rt_bound h
  clear h
  rcases h4 with h4 | h4
  · have e1 : decide (a < 0) = false := by simp; omega
    have e2 : decide (1125899906842624 < a) = false := by simp; omega
    have e3 : decide (b < 0) = false := by simp; omega
    have e4 : decide (1125899906842624 < b) = false := by simp; omega
    have e5 : (a == 0) = false := by simp; omega
    go_enter Try.func26, Try.ntmps26
    go_wp2
    go_ret2
    exact ⟨rfl, rfl⟩
  · subst h4
    have e1 : decide (a < 0) = false := by simp; omega
    have e2 : decide (1125899906842624 < a) = false := by simp; omega
    by_cases e5 : (a == 0) = true
    · go_enter Try.func26, Try.ntmps26
      go_wp2
      go_ret2
      exact ⟨rfl, rfl⟩
    · have e6 : (a == 0) = false := by simpa using e5
      clear e5
      go_enter Try.func26, Try.ntmps26
      go_wp2
      go_ret2
      exact ⟨rfl, rfl⟩

theorem rt_no {a b : Int} (h : rt a b = false) : a < 0 ∨ (0 ≤ a ∧ 1125899906842624 < a) ∨ (0 ≤ a ∧ a ≤ 1125899906842624 ∧ b < 0) ∨ (0 ≤ a ∧ a ≤ 1125899906842624 ∧ 0 ≤ b ∧ 1125899906842624 < b) ∨ (a = 0 ∧ 0 < b ∧ b ≤ 1125899906842624) := by
  have : ¬ (0 ≤ a ∧ a ≤ 1125899906842624 ∧ 0 ≤ b ∧ b ≤ 1125899906842624 ∧ (0 < a ∨ b = 0)) := by simpa [rt] using h
  omega

set_option maxHeartbeats 400000 in
theorem made_no (a b : Int) (h : rt a b = false) (w : World) :
    Calls Try.prog 26 #[.int .i64 a, .int .i64 b] w fun e w' => e = .returned (.tuple #[.complex .f64 0 0, .bool false]) ∧ w = w' := by
  rcases rt_no h with h | ⟨h, h1⟩ | ⟨h, h1, h2⟩ | ⟨h, h1, h2, h3⟩ | ⟨rfl, h1, h2⟩
  · have e1 : decide (a < 0) = true := by simp; omega
    go_enter Try.func26, Try.ntmps26
    go_wp2
    go_ret2
    exact ⟨rfl, rfl⟩
  · have e1 : decide (a < 0) = false := by simp; omega
    have e2 : decide (1125899906842624 < a) = true := by simp; omega
    go_enter Try.func26, Try.ntmps26
    go_wp2
    go_ret2
    exact ⟨rfl, rfl⟩
  · have e1 : decide (a < 0) = false := by simp; omega
    have e2 : decide (1125899906842624 < a) = false := by simp; omega
    have e3 : decide (b < 0) = true := by simp; omega
    go_enter Try.func26, Try.ntmps26
    go_wp2
    go_ret2
    exact ⟨rfl, rfl⟩
  · have e1 : decide (a < 0) = false := by simp; omega
    have e2 : decide (1125899906842624 < a) = false := by simp; omega
    have e3 : decide (b < 0) = false := by simp; omega
    have e4 : decide (1125899906842624 < b) = true := by simp; omega
    go_enter Try.func26, Try.ntmps26
    go_wp2
    go_ret2
    exact ⟨rfl, rfl⟩
  · have e3 : decide (b < 0) = false := by simp; omega
    have e4 : decide (1125899906842624 < b) = false := by simp; omega
    have e5 : decide (0 < b) = true := by simp; omega
    go_enter Try.func26, Try.ntmps26
    go_wp2
    go_ret2
    exact ⟨rfl, rfl⟩

set_option maxHeartbeats 400000 in
theorem of_yes (a b : Int) (h : rt a b = true) (w : World) :
    Calls Try.prog 9 #[.int .i64 a, .int .i64 b] w fun e w' => e = .returned (.tuple #[.complex .f64 (fI a) (fI b), .int .i64 0]) ∧ w = w' := by
  have H := hid h; clear h
  go_enter Try.func9, Try.ntmps9
  go_wp2_with (go_at_call 26; refine (made_yes a b H.out _).mono ?_; rintro e w' ⟨rfl, rfl⟩)
  go_ret2
  exact ⟨rfl, rfl⟩
set_option maxHeartbeats 400000 in
theorem of_no (a b : Int) (h : rt a b = false) (w : World) :
    Calls Try.prog 9 #[.int .i64 a, .int .i64 b] w fun e w' => e = .returned (.tuple #[.complex .f64 0 0, .int .i64 17]) ∧ w = w' := by
  have H := hid h; clear h
  go_enter Try.func9, Try.ntmps9
  go_wp2_with (go_at_call 26; refine (made_no a b H.out _).mono ?_; rintro e w' ⟨rfl, rfl⟩)
  go_ret2
  exact ⟨rfl, rfl⟩

set_option maxHeartbeats 400000 in
theorem one_yes (b : Int) (h : rt 1 b = true) (w : World) :
    Calls Try.prog 16 #[.int .i64 b] w fun e w' => e = .returned (.complex .f64 (fI 1) (fI b)) ∧ w = w' := by
  have H := hid h; clear h
  go_enter Try.func16, Try.ntmps16
  go_wp2_with (go_at_call 26; refine (made_yes 1 b H.out _).mono ?_; rintro e w' ⟨rfl, rfl⟩)
  go_ret
  exact ⟨rfl, rfl⟩
set_option maxHeartbeats 400000 in
theorem one_no (b : Int) (h : rt 1 b = false) (w : World) :
    Calls Try.prog 16 #[.int .i64 b] w fun e w' => e = .returned (.complex .f64 0 0) ∧ w = w' := by
  have H := hid h; clear h
  go_enter Try.func16, Try.ntmps16
  go_wp2_with (go_at_call 26; refine (made_no 1 b H.out _).mono ?_; rintro e w' ⟨rfl, rfl⟩)
  go_ret
  exact ⟨rfl, rfl⟩

set_option maxHeartbeats 400000 in
theorem rright_any (a b : Int) (w : World) :
    Calls Try.prog 21 #[.int .i64 a, .int .i64 b] w fun e w' => e = .returned (.bool (rt a b)) ∧ w = w' := by
  cases hr : rt a b
  · rcases rt_no hr with h | ⟨h, h1⟩ | ⟨h, h1, h2⟩ | ⟨h, h1, h2, h3⟩ | ⟨rfl, h1, h2⟩
    all_goals clear hr
    · have e1 : decide (0 ≤ a) = false := by simp; omega
      go_enter Try.func21, Try.ntmps21
      go_wp2
      go_ret
      exact ⟨rfl, rfl⟩
    · have e1 : decide (0 ≤ a) = true := by simp; omega
      have e2 : decide (a ≤ 1125899906842624) = false := by simp; omega
      go_enter Try.func21, Try.ntmps21
      go_wp2
      go_ret
      exact ⟨rfl, rfl⟩
    · have e1 : decide (0 ≤ a) = true := by simp; omega
      have e2 : decide (a ≤ 1125899906842624) = true := by simp; omega
      have e3 : decide (0 ≤ b) = false := by simp; omega
      go_enter Try.func21, Try.ntmps21
      go_wp2
      go_ret
      exact ⟨rfl, rfl⟩
    · have e1 : decide (0 ≤ a) = true := by simp; omega
      have e2 : decide (a ≤ 1125899906842624) = true := by simp; omega
      have e3 : decide (0 ≤ b) = true := by simp; omega
      have e4 : decide (b ≤ 1125899906842624) = false := by simp; omega
      go_enter Try.func21, Try.ntmps21
      go_wp2
      go_ret
      exact ⟨rfl, rfl⟩
    · have e3 : decide (0 ≤ b) = true := by simp; omega
      have e4 : decide (b ≤ 1125899906842624) = true := by simp; omega
      have e5 : (b == 0) = false := by simp; omega
      go_enter Try.func21, Try.ntmps21
      go_wp2
      go_ret
      exact ⟨rfl, rfl⟩
  · obtain ⟨h0, h1, h2, h3, h4⟩ := rt_bound hr
    clear hr
    have e1 : decide (0 ≤ a) = true := by simp; omega
    have e2 : decide (a ≤ 1125899906842624) = true := by simp; omega
    have e3 : decide (0 ≤ b) = true := by simp; omega
    have e4 : decide (b ≤ 1125899906842624) = true := by simp; omega
    by_cases hp : 0 < a
    · have e5 : decide (0 < a) = true := by simp; omega
      go_enter Try.func21, Try.ntmps21
      go_wp2
      go_ret
      exact ⟨rfl, rfl⟩
    · obtain rfl : b = 0 := by omega
      have e5 : decide (0 < a) = false := by simp; omega
      go_enter Try.func21, Try.ntmps21
      go_wp2
      go_ret
      exact ⟨rfl, rfl⟩

/-- What the reference makes of two counts, as a value. -/
def tv (a b : Int) : Value := if rt a b then .agg #[.int .i64 a, .int .i64 b, .bool false] else .agg #[.int .i64 0, .int .i64 0, .bool true]

set_option maxHeartbeats 400000 in
theorem rof_any (a b : Int) (w : World) :
    Calls Try.prog 10 #[.int .i64 a, .int .i64 b] w fun e w' => e = .returned (tv a b) ∧ Below w.heap.size w w' := by
  have hr := rright_any a b
  unfold tv
  cases h : rt a b
  · rw [h] at hr
    have H := hid hr; clear hr h
    go_enter Try.func10, Try.ntmps10
    go_wp2_with (go_at_call 21; refine (H.out _).mono ?_; rintro e w' ⟨rfl, rfl⟩)
    exact bodyPost_ret (v := .agg #[.int .i64 0, .int .i64 0, .bool true]) (by simp [results, Try.results10, go_sem]) rfl ⟨rfl, (Below.refl _ _).alloc (Nat.le_refl _) _⟩
  · rw [h] at hr
    have H := hid hr; clear hr h
    go_enter Try.func10, Try.ntmps10
    go_wp2_with (go_at_call 21; refine (H.out _).mono ?_; rintro e w' ⟨rfl, rfl⟩)
    exact bodyPost_ret (v := .agg #[.int .i64 a, .int .i64 b, .bool false]) (by simp [results, Try.results10, go_sem]) rfl ⟨rfl, (Below.refl _ _).alloc (Nat.le_refl _) _⟩

set_option maxHeartbeats 400000 in
theorem as_yes (n b : Int) (h : rt n b = true) (w : World) :
    Calls Try.prog 11 #[.complex .f64 (fI n) (fI b), .agg #[.int .i64 n, .int .i64 b, .bool false]] w fun e w' => e = .returned (.bool true) ∧ Below w.heap.size w w' := by
  have ha := rt_a h
  have hb := rt_b h
  have hr := right_any n b ha hb
  have ht := things_any n b ha hb
  have hy := bytes_any n b ha hb
  simp only [h, if_true] at hr ht hy
  have HR := hid hr; clear hr
  have HT := hid ht; clear ht
  have HY := hid hy; clear hy h ha hb
  have c0 : ∀ s : Later (w.alloc (.cells #[.int .i64 n, .int .i64 b, .bool false] 33)), s.at_.cell? ⟨w.heap.size, 0, none⟩ = some (.int .i64 n) := fun s => s.cell (by go_simp)
  have c1 : ∀ s : Later (w.alloc (.cells #[.int .i64 n, .int .i64 b, .bool false] 33)), s.at_.cell? ⟨w.heap.size, 1, none⟩ = some (.int .i64 b) := fun s => s.cell (by go_simp)
  have c2 : ∀ s : Later (w.alloc (.cells #[.int .i64 n, .int .i64 b, .bool false] 33)), s.at_.cell? ⟨w.heap.size, 2, none⟩ = some (.bool false) := fun s => s.cell (by go_simp)
  go_enter Try.func11, Try.ntmps11
  go_wp2_with fail
  refine wp_region_later (by kernel_rfl) (by kernel_rfl) ?_
  repeat (go_big_quiet_step ((first | (go_at_call 13; exact later_same (HR.out _)) | (go_at_call 14; exact later_same (HT.out _)) | (go_at_call 15; exact later_same (HY.out _)))))
  refine wpQuiet_nil ?_
  intro w' hw'
  obtain ⟨s, rfl⟩ := hw'
  go_wp2
  go_ret
  exact ⟨rfl, (((Below.refl _ _).alloc (Nat.le_refl _) _).trans (s.below.mono (by simp)))⟩

end Go.Proofs.Ytkhopikmejnfeaa
