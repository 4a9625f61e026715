/- Whether a thing is a token (written by gen_toa.py). -/
import Derived.Test.YtgcdbnbdbjaijaaPeB
namespace Go.Proofs.Ytgcdbnbdbjaijaa
open Go.RowKit Go.Bs Go.Maps
set_option linter.unusedVariables false
set_option linter.unusedSimpArgs false

def rightB (t : Tok) : Bool := runB t || copyB t

set_option maxRecDepth 100000 in
set_option maxHeartbeats 6400000 in
theorem token_right (x : Tok) (a : Option Addr) (c : Nat) (w : World) (hl : x.lit.length ≤ 9223372036854775807) (h1 : -9223372036854775808 ≤ x.off ∧ x.off ≤ 9223372036854775807) (h2 : -9223372036854775808 ≤ x.len ∧ x.len ≤ 9223372036854775807) :
    Calls Try.prog 130 #[.agg #[.slice a x.lit.length c, .int .i64 x.off, .int .i64 x.len]] w fun r w' => r = .returned (.bool (rightB x)) ∧ Below w.heap.size w w' := by
  obtain ⟨D, o, m⟩ := x
  dsimp only at *
  by_cases k0 : o = 0
  · skip
    have k0_0 : (o == 0) = true := beq_iff_eq.2 (by omega)
    by_cases k1 : m = 0
    · skip
      have k1_0 : (m == 0) = true := beq_iff_eq.2 (by omega)
      by_cases k2 : 1 ≤ D.length
      · skip
        have k2_0 : decide ((1 : Int) ≤ (D.length : Int)) = true := decide_eq_true (by omega)
        have k2_1 : decide (1 ≤ D.length) = true := decide_eq_true (by omega)
        by_cases k3 : D.length ≤ 1048576
        · skip
          have k3_0 : decide ((D.length : Int) ≤ 1048576) = true := decide_eq_true (by omega)
          have k3_1 : decide (D.length ≤ 1048576) = true := decide_eq_true (by omega)
          have hff : Hid (rightB ⟨D, o, m⟩ = true) := hid (by simp only [rightB, runB, copyB, Bool.or_eq_true, Bool.and_eq_true, decide_eq_true_eq]; first | omega | (simp; omega))
          clear hl h1 h2
          go_enter Try.func130, Try.ntmps130
          go_wp2
          go_ret
          exact ⟨by rw [hff.out]; rfl, by (repeat (first | exact Below.refl _ _ | assumption | (refine below_alloc ?_ _) | (refine Below.setCell ?_ (by first | omega | (simp; done) | (simp; omega)) _) | (refine Below.drew ?_) | (refine below_drewN ?_ _) | (refine below_then (by assumption) ?_)))⟩
        · skip
          have k3_0 : decide ((D.length : Int) ≤ 1048576) = false := decide_eq_false (by omega)
          have k3_1 : decide (D.length ≤ 1048576) = false := decide_eq_false (by omega)
          have hff : Hid (rightB ⟨D, o, m⟩ = false) := hid (by rw [← Bool.not_eq_true]; simp only [rightB, runB, copyB, Bool.or_eq_true, Bool.and_eq_true, decide_eq_true_eq]; first | omega | (simp; omega))
          clear hl h1 h2
          go_enter Try.func130, Try.ntmps130
          go_wp2
          go_ret
          exact ⟨by rw [hff.out]; rfl, by (repeat (first | exact Below.refl _ _ | assumption | (refine below_alloc ?_ _) | (refine Below.setCell ?_ (by first | omega | (simp; done) | (simp; omega)) _) | (refine Below.drew ?_) | (refine below_drewN ?_ _) | (refine below_then (by assumption) ?_)))⟩
      · skip
        have k2_0 : decide ((1 : Int) ≤ (D.length : Int)) = false := decide_eq_false (by omega)
        have k2_1 : decide (1 ≤ D.length) = false := decide_eq_false (by omega)
        have hff : Hid (rightB ⟨D, o, m⟩ = false) := hid (by rw [← Bool.not_eq_true]; simp only [rightB, runB, copyB, Bool.or_eq_true, Bool.and_eq_true, decide_eq_true_eq]; first | omega | (simp; omega))
        clear hl h1 h2
        go_enter Try.func130, Try.ntmps130
        go_wp2
        go_ret
        exact ⟨by rw [hff.out]; rfl, by (repeat (first | exact Below.refl _ _ | assumption | (refine below_alloc ?_ _) | (refine Below.setCell ?_ (by first | omega | (simp; done) | (simp; omega)) _) | (refine Below.drew ?_) | (refine below_drewN ?_ _) | (refine below_then (by assumption) ?_)))⟩
    · skip
      have k1_0 : (m == 0) = false := beq_eq_false_iff_ne.2 (by omega)
      have hff : Hid (rightB ⟨D, o, m⟩ = false) := hid (by rw [← Bool.not_eq_true]; simp only [rightB, runB, copyB, Bool.or_eq_true, Bool.and_eq_true, decide_eq_true_eq]; first | omega | (simp; omega))
      clear hl h1 h2
      go_enter Try.func130, Try.ntmps130
      go_wp2
      go_ret
      exact ⟨by rw [hff.out]; rfl, by (repeat (first | exact Below.refl _ _ | assumption | (refine below_alloc ?_ _) | (refine Below.setCell ?_ (by first | omega | (simp; done) | (simp; omega)) _) | (refine Below.drew ?_) | (refine below_drewN ?_ _) | (refine below_then (by assumption) ?_)))⟩
  · skip
    have k0_0 : (o == 0) = false := beq_eq_false_iff_ne.2 (by omega)
    by_cases k4 : 0 < D.length
    · skip
      have k4_0 : decide ((0 : Int) < (D.length : Int)) = true := decide_eq_true (by omega)
      have k4_1 : decide (0 < D.length) = true := decide_eq_true (by omega)
      have hff : Hid (rightB ⟨D, o, m⟩ = false) := hid (by rw [← Bool.not_eq_true]; simp only [rightB, runB, copyB, Bool.or_eq_true, Bool.and_eq_true, decide_eq_true_eq]; first | omega | (simp; omega))
      clear hl h1 h2
      go_enter Try.func130, Try.ntmps130
      go_wp2
      go_ret
      exact ⟨by rw [hff.out]; rfl, by (repeat (first | exact Below.refl _ _ | assumption | (refine below_alloc ?_ _) | (refine Below.setCell ?_ (by first | omega | (simp; done) | (simp; omega)) _) | (refine Below.drew ?_) | (refine below_drewN ?_ _) | (refine below_then (by assumption) ?_)))⟩
    · skip
      obtain rfl : D = [] := List.eq_nil_of_length_eq_zero (by omega)
      simp only [List.length_nil] at *
      by_cases k5 : o < 0
      · skip
        have k5_0 : decide (o < 0) = true := decide_eq_true (by omega)
        have hff : Hid (rightB ⟨[], o, m⟩ = false) := hid (by rw [← Bool.not_eq_true]; simp only [rightB, runB, copyB, Bool.or_eq_true, Bool.and_eq_true, decide_eq_true_eq, List.length_nil]; first | omega | (simp; omega))
        clear hl h1 h2
        go_enter Try.func130, Try.ntmps130
        go_wp2
        go_ret
        exact ⟨by rw [hff.out]; rfl, by (repeat (first | exact Below.refl _ _ | assumption | (refine below_alloc ?_ _) | (refine Below.setCell ?_ (by first | omega | (simp; done) | (simp; omega)) _) | (refine Below.drew ?_) | (refine below_drewN ?_ _) | (refine below_then (by assumption) ?_)))⟩
      · skip
        have k5_0 : decide (o < 0) = false := decide_eq_false (by omega)
        by_cases k6 : 65536 < o
        · skip
          have k6_0 : decide ((65536 : Int) < o) = true := decide_eq_true (by omega)
          have hff : Hid (rightB ⟨[], o, m⟩ = false) := hid (by rw [← Bool.not_eq_true]; simp only [rightB, runB, copyB, Bool.or_eq_true, Bool.and_eq_true, decide_eq_true_eq, List.length_nil]; first | omega | (simp; omega))
          clear hl h1 h2
          go_enter Try.func130, Try.ntmps130
          go_wp2
          go_ret
          exact ⟨by rw [hff.out]; rfl, by (repeat (first | exact Below.refl _ _ | assumption | (refine below_alloc ?_ _) | (refine Below.setCell ?_ (by first | omega | (simp; done) | (simp; omega)) _) | (refine Below.drew ?_) | (refine below_drewN ?_ _) | (refine below_then (by assumption) ?_)))⟩
        · skip
          have k6_0 : decide ((65536 : Int) < o) = false := decide_eq_false (by omega)
          by_cases k7 : 4 ≤ m
          · skip
            have k7_0 : decide ((4 : Int) ≤ m) = true := decide_eq_true (by omega)
            by_cases k8 : m ≤ 1048576
            · skip
              have k8_0 : decide (m ≤ 1048576) = true := decide_eq_true (by omega)
              have hff : Hid (rightB ⟨[], o, m⟩ = true) := hid (by simp only [rightB, runB, copyB, Bool.or_eq_true, Bool.and_eq_true, decide_eq_true_eq, List.length_nil]; first | omega | (simp; omega))
              clear hl h1 h2
              go_enter Try.func130, Try.ntmps130
              go_wp2
              go_ret
              exact ⟨by rw [hff.out]; rfl, by (repeat (first | exact Below.refl _ _ | assumption | (refine below_alloc ?_ _) | (refine Below.setCell ?_ (by first | omega | (simp; done) | (simp; omega)) _) | (refine Below.drew ?_) | (refine below_drewN ?_ _) | (refine below_then (by assumption) ?_)))⟩
            · skip
              have k8_0 : decide (m ≤ 1048576) = false := decide_eq_false (by omega)
              have hff : Hid (rightB ⟨[], o, m⟩ = false) := hid (by rw [← Bool.not_eq_true]; simp only [rightB, runB, copyB, Bool.or_eq_true, Bool.and_eq_true, decide_eq_true_eq, List.length_nil]; first | omega | (simp; omega))
              clear hl h1 h2
              go_enter Try.func130, Try.ntmps130
              go_wp2
              go_ret
              exact ⟨by rw [hff.out]; rfl, by (repeat (first | exact Below.refl _ _ | assumption | (refine below_alloc ?_ _) | (refine Below.setCell ?_ (by first | omega | (simp; done) | (simp; omega)) _) | (refine Below.drew ?_) | (refine below_drewN ?_ _) | (refine below_then (by assumption) ?_)))⟩
          · skip
            have k7_0 : decide ((4 : Int) ≤ m) = false := decide_eq_false (by omega)
            have hff : Hid (rightB ⟨[], o, m⟩ = false) := hid (by rw [← Bool.not_eq_true]; simp only [rightB, runB, copyB, Bool.or_eq_true, Bool.and_eq_true, decide_eq_true_eq, List.length_nil]; first | omega | (simp; omega))
            clear hl h1 h2
            go_enter Try.func130, Try.ntmps130
            go_wp2
            go_ret
            exact ⟨by rw [hff.out]; rfl, by (repeat (first | exact Below.refl _ _ | assumption | (refine below_alloc ?_ _) | (refine Below.setCell ?_ (by first | omega | (simp; done) | (simp; omega)) _) | (refine Below.drew ?_) | (refine below_drewN ?_ _) | (refine below_then (by assumption) ?_)))⟩
end Go.Proofs.Ytgcdbnbdbjaijaa
