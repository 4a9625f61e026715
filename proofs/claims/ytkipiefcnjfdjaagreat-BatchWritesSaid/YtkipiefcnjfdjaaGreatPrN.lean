/- What a token is, by the reference; texts compared (written by gen_prn.py). -/
import Derived.Test.YtkipiefcnjfdjaaGreatStB
import Derived.Test.YtkipiefcnjfdjaaGreatPrM
import Derived.Laws.IdiomStrings
import Derived.Laws.BytesArg
namespace Go.Bs
open Go.RowKit

end Go.Bs
namespace Go.Proofs.YtkipiefcnjfdjaaGreat
open Go.RowKit Go.Bs Go.Maps
set_option linter.unusedVariables false
set_option linter.unusedSimpArgs false

theorem tok_cells {S : Nat → Prop} {w : World} {cs : List Value} {x : Tok} (h : rTok.r S w cs x) : ∃ a c, cs = [.slice a x.lit.length c, .int .i64 x.off, .int .i64 x.len] ∧ (-9223372036854775808 ≤ x.off ∧ x.off ≤ 9223372036854775807) ∧ (-9223372036854775808 ≤ x.len ∧ x.len ≤ 9223372036854775807) ∧ rBytes.r S w [.slice a x.lit.length c] x.lit := by
  obtain ⟨c1, c2, rfl, h1, c3, c4, rfl, ⟨rfl, h2⟩, rfl, h3⟩ := h
  obtain ⟨a, c, rfl, h4, _⟩ := sl_form h1
  exact ⟨a, c, rfl, bounds_i64 h2, bounds_i64 h3, h4⟩
theorem tok_at {S : Nat → Prop} {w : World} {xs : List Tok} {a : Option Addr} {n c : Nat} (h : rToks.r S w [.slice a n c] xs) {i : Nat} (hi : i < xs.length) : ∃ b off, a = some ⟨b, off, none⟩ ∧ S b ∧ ∃ a' c', w.cell? ⟨b, off + i * 3, none⟩ = some (.slice a' xs[i].lit.length c') ∧ w.cell? ⟨b, off + i * 3 + 1, none⟩ = some (.int .i64 xs[i].off) ∧ w.cell? ⟨b, off + i * 3 + 2, none⟩ = some (.int .i64 xs[i].len) ∧
    (-9223372036854775808 ≤ xs[i].off ∧ xs[i].off ≤ 9223372036854775807) ∧ (-9223372036854775808 ≤ xs[i].len ∧ xs[i].len ≤ 9223372036854775807) ∧ rBytes.r S w [.slice a' xs[i].lit.length c'] xs[i].lit := by
  obtain ⟨b, off, e, hS, cs, _, hc, hA⟩ := sl_at h hi
  obtain ⟨a', c', rfl, h1, h2, h3⟩ := tok_cells hA
  exact ⟨b, off, e, hS, a', c', hc 0 _ rfl, hc 1 _ rfl, hc 2 _ rfl, h1, h2, h3⟩

def runB (t : Tok) : Bool := decide (t.off = 0) && (decide (t.len = 0) && (decide (1 ≤ t.lit.length) && decide (t.lit.length ≤ 1048576)))
def copyB (t : Tok) : Bool := decide (t.lit.length = 0) && (decide (1 ≤ t.off) && (decide (t.off ≤ 65536) && (decide (4 ≤ t.len) && decide (t.len ≤ 1048576))))

set_option maxHeartbeats 1600000 in
theorem ref11_run (x : Tok) (a : Option Addr) (c : Nat) (w : World) (hl : x.lit.length ≤ 9223372036854775807) (h1 : -9223372036854775808 ≤ x.off ∧ x.off ≤ 9223372036854775807) (h2 : -9223372036854775808 ≤ x.len ∧ x.len ≤ 9223372036854775807) :
    Calls Tryz.prog 251 #[.agg #[.slice a x.lit.length c, .int .i64 x.off, .int .i64 x.len]] w fun r w' => r = .returned (.bool (runB x)) ∧ Below w.heap.size w w' := by
  obtain ⟨D, o, m⟩ := x
  dsimp only at *
  by_cases h0 : o = 0
  · skip
    have d0 : (o == 0) = true := beq_iff_eq.2 (by omega)
    by_cases h1 : m = 0
    · skip
      have d1 : (m == 0) = true := beq_iff_eq.2 (by omega)
      by_cases h2 : 1 ≤ D.length
      · skip
        have d2 : decide (1 ≤ (D.length : Int)) = true := decide_eq_true (by omega)
        have d2' : decide (1 ≤ D.length) = true := decide_eq_true (by omega)
        by_cases h3 : D.length ≤ 1048576
        · skip
          have d3 : decide ((D.length : Int) ≤ 1048576) = true := decide_eq_true (by omega)
          have d3' : decide (D.length ≤ 1048576) = true := decide_eq_true (by omega)
          have hff : Hid (runB ⟨D, o, m⟩ = true) := hid (by simp only [runB, Bool.and_eq_true, decide_eq_true_eq]; omega)
          clear h1
          go_enter Tryz.func251, Tryz.ntmps251
          go_wp2
          go_ret
          exact ⟨by rw [hff.out]; rfl, by (repeat (first | exact Below.refl _ _ | assumption | (refine below_alloc ?_ _) | (refine Below.setCell ?_ (by first | omega | (simp; done) | (simp; omega)) _) | (refine Below.drew ?_) | (refine below_drewN ?_ _) | (refine below_then (by assumption) ?_)))⟩
        · skip
          have d3 : decide ((D.length : Int) ≤ 1048576) = false := decide_eq_false (by omega)
          have d3' : decide (D.length ≤ 1048576) = false := decide_eq_false (by omega)
          have hff : Hid (runB ⟨D, o, m⟩ = false) := hid (by rw [← Bool.not_eq_true]; simp only [runB, Bool.and_eq_true, decide_eq_true_eq]; omega)
          clear h1
          go_enter Tryz.func251, Tryz.ntmps251
          go_wp2
          go_ret
          exact ⟨by rw [hff.out]; rfl, by (repeat (first | exact Below.refl _ _ | assumption | (refine below_alloc ?_ _) | (refine Below.setCell ?_ (by first | omega | (simp; done) | (simp; omega)) _) | (refine Below.drew ?_) | (refine below_drewN ?_ _) | (refine below_then (by assumption) ?_)))⟩
      · skip
        have d2 : decide (1 ≤ (D.length : Int)) = false := decide_eq_false (by omega)
        have d2' : decide (1 ≤ D.length) = false := decide_eq_false (by omega)
        have hff : Hid (runB ⟨D, o, m⟩ = false) := hid (by rw [← Bool.not_eq_true]; simp only [runB, Bool.and_eq_true, decide_eq_true_eq]; omega)
        clear h1
        go_enter Tryz.func251, Tryz.ntmps251
        go_wp2
        go_ret
        exact ⟨by rw [hff.out]; rfl, by (repeat (first | exact Below.refl _ _ | assumption | (refine below_alloc ?_ _) | (refine Below.setCell ?_ (by first | omega | (simp; done) | (simp; omega)) _) | (refine Below.drew ?_) | (refine below_drewN ?_ _) | (refine below_then (by assumption) ?_)))⟩
    · skip
      have d1 : (m == 0) = false := beq_eq_false_iff_ne.2 (by omega)
      have hff : Hid (runB ⟨D, o, m⟩ = false) := hid (by rw [← Bool.not_eq_true]; simp only [runB, Bool.and_eq_true, decide_eq_true_eq]; omega)
      clear h1
      go_enter Tryz.func251, Tryz.ntmps251
      go_wp2
      go_ret
      exact ⟨by rw [hff.out]; rfl, by (repeat (first | exact Below.refl _ _ | assumption | (refine below_alloc ?_ _) | (refine Below.setCell ?_ (by first | omega | (simp; done) | (simp; omega)) _) | (refine Below.drew ?_) | (refine below_drewN ?_ _) | (refine below_then (by assumption) ?_)))⟩
  · skip
    have d0 : (o == 0) = false := beq_eq_false_iff_ne.2 (by omega)
    have hff : Hid (runB ⟨D, o, m⟩ = false) := hid (by rw [← Bool.not_eq_true]; simp only [runB, Bool.and_eq_true, decide_eq_true_eq]; omega)
    clear h1
    go_enter Tryz.func251, Tryz.ntmps251
    go_wp2
    go_ret
    exact ⟨by rw [hff.out]; rfl, by (repeat (first | exact Below.refl _ _ | assumption | (refine below_alloc ?_ _) | (refine Below.setCell ?_ (by first | omega | (simp; done) | (simp; omega)) _) | (refine Below.drew ?_) | (refine below_drewN ?_ _) | (refine below_then (by assumption) ?_)))⟩

end Go.Proofs.YtkipiefcnjfdjaaGreat
