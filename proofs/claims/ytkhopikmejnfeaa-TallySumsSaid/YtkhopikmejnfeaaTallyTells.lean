/- The walk of the law TallyTells. -/
import Derived.Test.YtkhopikmejnfeaaTallyE
import Derived.Test.YtkhopikmejnfeaaRep
namespace Go.Proofs.Ytkhopikmejnfeaa
open Go.RowKit Fl Go.Bs
set_option linter.unusedVariables false
set_option linter.unusedSimpArgs false
attribute [local go_sem] unary_neg_float floatOfInt_fI

def clampP (n : Int) : Int := if 2251799813685248 < (if n < -1 then -1 else n) then 2251799813685248 else (if n < -1 then -1 else n)
theorem clampP_bd (n : Int) : -1 ≤ clampP n ∧ clampP n ≤ 2251799813685248 := by unfold clampP; omega

theorem rof_yes (a b : Int) (h : rt a b = true) (w : World) :
    Calls Try.prog 10 #[.int .i64 a, .int .i64 b] w fun e w' => e = .returned (.agg #[.int .i64 a, .int .i64 b, .bool false]) ∧ Below w.heap.size w w' := by
  have := rof_any a b w
  unfold tv at this
  rwa [if_pos h] at this
theorem rof_no (a b : Int) (h : rt a b = false) (w : World) :
    Calls Try.prog 10 #[.int .i64 a, .int .i64 b] w fun e w' => e = .returned (.agg #[.int .i64 0, .int .i64 0, .bool true]) ∧ Below w.heap.size w w' := by
  have := rof_any a b w
  unfold tv at this
  rwa [if_neg (by simp [h])] at this

set_option maxHeartbeats 800000 in
theorem lmade_core (a b m n x y : Int) (g0 g1 : Int) (g2 : Bool) (hm : (if a < -1 then -1 else a) = m) (hn : (if b < -1 then -1 else b) = n) (hx : (if 2251799813685248 < m then 2251799813685248 else m) = x) (hy : (if 2251799813685248 < n then 2251799813685248 else n) = y)
    (hr : ∀ w, Calls Try.prog 10 #[.int .i64 x, .int .i64 y] w fun e w' => e = .returned (.agg #[.int .i64 g0, .int .i64 g1, .bool g2]) ∧ Below w.heap.size w w') (w : World) :
    Calls Try.prog 12 #[.agg #[.int .i64 a, .int .i64 b]] w fun e w' => e = .returned (.tuple #[.complex .f64 (fI x) (fI y), .agg #[.int .i64 g0, .int .i64 g1, .bool g2]]) ∧ Below w.heap.size w w' := by
  have HM := hid hm; clear hm
  have HN := hid hn; clear hn
  have HX := hid hx; clear hx
  have HY := hid hy; clear hy
  have HR := hid hr; clear hr
  go_enter Try.func12, Try.ntmps12
  go_wp2_with fail
  go_region
  rw [HM.out, HN.out, HX.out, HY.out]
  go_wp2_with fail
  refine (HR.out _).mono ?_; rintro e w1 ⟨rfl, hb⟩
  obtain ⟨hc, hf⟩ := bcell hb
  have hz : w.heap.size + 1 < w1.heap.size := by have := hb.size; simp at this; omega
  go_wp2
  refine bodyPost_ret (v := .tuple #[.complex .f64 (fI x) (fI y), .agg #[.int .i64 g0, .int .i64 g1, .bool g2]]) (by simp [results, Try.results12, go_sem, hc, hf, hz]) rfl ⟨rfl, ?_⟩
  have hb' := hb.mono (B' := w.heap.size) (by simp; omega)
  exact ((((((Below.refl w.heap.size w).alloc (Nat.le_refl _) _).alloc (by simp) _).drew.trans hb').setCell (by simp) _).setCell (by simp) _).setCell (by simp) _

theorem lmade_any (a b : Int) (w : World) :
    Calls Try.prog 12 #[.agg #[.int .i64 a, .int .i64 b]] w fun e w' => e = .returned (.tuple #[.complex .f64 (fI (clampP a)) (fI (clampP b)), tv (clampP a) (clampP b)]) ∧ Below w.heap.size w w' := by
  unfold tv
  cases h : rt (clampP a) (clampP b)
  · exact lmade_core a b _ _ _ _ 0 0 true rfl rfl rfl rfl (rof_no _ _ h) w
  · exact lmade_core a b _ _ _ _ _ _ false rfl rfl rfl rfl (rof_yes _ _ h) w

theorem zz : (FloatKind.f64.format.order 0 0 == some Ordering.eq) = true := by rw [← fI_zero, ord_eq 0 (by decide)]; rfl

end Go.Proofs.Ytkhopikmejnfeaa
