/- The reference's matches: contracts. -/
import Derived.Test.YtkipiefcnjfdjaaGreatLz
import Derived.Test.YtkipiefcnjfdjaaGreatElem
import Derived.Test.YtkipiefcnjfdjaaGreatRows
import Derived.Deep.AppendLies
namespace Go.Proofs.YtkipiefcnjfdjaaGreat
open Go.RowKit Go.Bs
set_option linter.unusedVariables false
set_option linter.unusedSimpArgs false

/-- One byte is as another one. -/
def same1 (b : List UInt8) (p q : Nat) : Bool := decide (p < b.length) && decide (b[p]? = b[q]?)
theorem same1_at {b : List UInt8} {p q : Nat} (hp : p < b.length) (hq : q < b.length) : same1 b p q = ((b[p].toNat : Int) == (b[q].toNat : Int)) := by
  unfold same1
  rw [decide_eq_true hp, Bool.true_and, List.getElem?_eq_getElem hp, List.getElem?_eq_getElem hq, Bool.eq_iff_iff]
  simp only [decide_eq_true_eq, Option.some.injEq, beq_iff_eq]
  constructor
  · intro h; rw [h]
  · intro h; exact UInt8.toNat_inj.1 (by omega)

set_option maxHeartbeats 800000 in
theorem ref14_same1 (b : List UInt8) (p q : Nat) (hq : q ≤ p) (a : Option Addr) (n c : Nat) (w : World) (hl : rBytes.r (· < w.heap.size) w [.slice a n c] b) (hp : p ≤ 4611686018427387904) :
    Calls Tryz.prog 293 #[.slice a n c, .int .i64 p, .int .i64 q, .int .i64 1] w fun r w' => r = .returned (.bool (same1 b p q)) ∧ Below w.heap.size w w' := by
  obtain ⟨rfl, hm, _, _⟩ := sl_len hl
  by_cases hlt : p < b.length
  · have hqt : q < b.length := by omega
    obtain ⟨g, o, hA, hg, hc⟩ := byte_at hl hlt
    obtain ⟨g', o', hA', hg', hc'⟩ := byte_at hl hqt
    rw [hA] at hA'
    simp only [Option.some.injEq, Addr.mk.injEq, and_true] at hA'
    obtain ⟨rfl, rfl⟩ := hA'
    subst hA
    have hff := hid (same1_at hlt hqt)
    generalize b[p] = x at *
    generalize b[q] = y at *
    have HL := hid hl; clear hl
    have d1 : decide ((b.length : Int) < (p : Int) + 1) = false := by simp; omega
    have d2 : decide ((b.length : Int) < (q : Int) + 1) = false := by simp; omega
    go_enter Tryz.func293, Tryz.ntmps293
    go_wp2_with fail
    refine wp_loop_rounds 2 ?_
    rw [rounds_succ]
    have C1 := fun s : Later w => s.cell hc
    have C2 := fun s : Later w => s.cell hc'
    cases he : ((x.toNat : Int) == (y.toNat : Int))
    · have e1 : ((x.toNat : Int) != (y.toNat : Int)) = true := by simp only [bne, he, Bool.not_false]
      rw [he] at hff
      clear he
      go_wp2_with fail
      refine wp_region_later (by kernel_rfl) (by kernel_rfl) ?_
      repeat (go_big_quiet_step (fail))
      refine wpQuiet_nil ?_
      rintro W5 ⟨⟨W5', hb5⟩, rfl⟩
      go_wp2
      go_ret
      exact ⟨by rw [hff.out]; rfl, hb5⟩
    · have e1 : ((x.toNat : Int) != (y.toNat : Int)) = false := by simp only [bne, he, Bool.not_true]
      rw [he] at hff
      clear he
      go_wp2_with fail
      refine wp_region_later (by kernel_rfl) (by kernel_rfl) ?_
      repeat (go_big_quiet_step (fail))
      refine wpQuiet_nil ?_
      rintro W5 ⟨⟨W5', hb5⟩, rfl⟩
      go_wp2_with fail
      rw [rounds_succ]
      go_wp2
      go_ret
      exact ⟨by rw [hff.out]; rfl, hb5⟩
  · have hff : Hid (same1 b p q = false) := hid (by simp [same1, hlt])
    clear hl
    go_enter Tryz.func293, Tryz.ntmps293
    go_wp2
    go_ret
    exact ⟨by rw [hff.out]; rfl, by (repeat (first | exact Below.refl _ _ | assumption | (refine below_alloc ?_ _) | (refine Below.setCell ?_ (by first | omega | (simp; done) | (simp; omega)) _) | (refine Below.drew ?_) | (refine below_drewN ?_ _) | (refine below_then (by assumption) ?_)))⟩
end Go.Proofs.YtkipiefcnjfdjaaGreat
