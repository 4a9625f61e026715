/- Needed by batchOnce_walk, part 4: texts put together by shake.py; no condition. -/
import Derived.Test.YtkipiefcnjfdjaaGreatP3
import Derived.Test.YtkipiefcnjfdjaaGreatP2
import Derived.Deep.RegionHeld3
import Derived.IntWalk
import Derived.ScopeJumps
import Derived.WalkMore
import Derived.Test.YtkipiefcnjfdjaaGreatP1
import Derived.Deep.Cut
namespace Go.Proofs.YtkipiefcnjfdjaaGreat
open Go.RowKit Go.Bs Go.Maps
set_option linter.unusedVariables false
set_option linter.unusedSimpArgs false

def rightB (t : Tok) : Bool := runB t || copyB t

set_option maxRecDepth 100000 in
set_option maxHeartbeats 6400000 in
theorem token_right (x : Tok) (a : Option Addr) (c : Nat) (w : World) (hl : x.lit.length ≤ 9223372036854775807) (h1 : -9223372036854775808 ≤ x.off ∧ x.off ≤ 9223372036854775807) (h2 : -9223372036854775808 ≤ x.len ∧ x.len ≤ 9223372036854775807) :
    Calls Tryz.prog 292 #[.agg #[.slice a x.lit.length c, .int .i64 x.off, .int .i64 x.len]] w fun r w' => r = .returned (.bool (rightB x)) ∧ Below w.heap.size w w' := by
  obtain ⟨D, o, m⟩ := x
  dsimp only at *
  by_cases k0 : o = 0
  · skip
    have k0_0 : (o == 0) = true := beq_iff_eq.2 (by omega)
    by_cases k1 : m = 0
    · skip
      have k1_0 : (m == 0) = true := beq_iff_eq.2 (by omega)
      by_cases k2 : 1 ≤ D.length
      · skip
        have k2_0 : decide ((1 : Int) ≤ (D.length : Int)) = true := decide_eq_true (by omega)
        have k2_1 : decide (1 ≤ D.length) = true := decide_eq_true (by omega)
        by_cases k3 : D.length ≤ 1048576
        · skip
          have k3_0 : decide ((D.length : Int) ≤ 1048576) = true := decide_eq_true (by omega)
          have k3_1 : decide (D.length ≤ 1048576) = true := decide_eq_true (by omega)
          have hff : Hid (rightB ⟨D, o, m⟩ = true) := hid (by simp only [rightB, runB, copyB, Bool.or_eq_true, Bool.and_eq_true, decide_eq_true_eq]; first | omega | (simp; omega))
          clear hl h1 h2
          go_enter Tryz.func292, Tryz.ntmps292
          go_wp2
          go_ret
          exact ⟨by rw [hff.out]; rfl, by (repeat (first | exact Below.refl _ _ | assumption | (refine below_alloc ?_ _) | (refine Below.setCell ?_ (by first | omega | (simp; done) | (simp; omega)) _) | (refine Below.drew ?_) | (refine below_drewN ?_ _) | (refine below_then (by assumption) ?_)))⟩
        · skip
          have k3_0 : decide ((D.length : Int) ≤ 1048576) = false := decide_eq_false (by omega)
          have k3_1 : decide (D.length ≤ 1048576) = false := decide_eq_false (by omega)
          have hff : Hid (rightB ⟨D, o, m⟩ = false) := hid (by rw [← Bool.not_eq_true]; simp only [rightB, runB, copyB, Bool.or_eq_true, Bool.and_eq_true, decide_eq_true_eq]; first | omega | (simp; omega))
          clear hl h1 h2
          go_enter Tryz.func292, Tryz.ntmps292
          go_wp2
          go_ret
          exact ⟨by rw [hff.out]; rfl, by (repeat (first | exact Below.refl _ _ | assumption | (refine below_alloc ?_ _) | (refine Below.setCell ?_ (by first | omega | (simp; done) | (simp; omega)) _) | (refine Below.drew ?_) | (refine below_drewN ?_ _) | (refine below_then (by assumption) ?_)))⟩
      · skip
        have k2_0 : decide ((1 : Int) ≤ (D.length : Int)) = false := decide_eq_false (by omega)
        have k2_1 : decide (1 ≤ D.length) = false := decide_eq_false (by omega)
        have hff : Hid (rightB ⟨D, o, m⟩ = false) := hid (by rw [← Bool.not_eq_true]; simp only [rightB, runB, copyB, Bool.or_eq_true, Bool.and_eq_true, decide_eq_true_eq]; first | omega | (simp; omega))
        clear hl h1 h2
        go_enter Tryz.func292, Tryz.ntmps292
        go_wp2
        go_ret
        exact ⟨by rw [hff.out]; rfl, by (repeat (first | exact Below.refl _ _ | assumption | (refine below_alloc ?_ _) | (refine Below.setCell ?_ (by first | omega | (simp; done) | (simp; omega)) _) | (refine Below.drew ?_) | (refine below_drewN ?_ _) | (refine below_then (by assumption) ?_)))⟩
    · skip
      have k1_0 : (m == 0) = false := beq_eq_false_iff_ne.2 (by omega)
      have hff : Hid (rightB ⟨D, o, m⟩ = false) := hid (by rw [← Bool.not_eq_true]; simp only [rightB, runB, copyB, Bool.or_eq_true, Bool.and_eq_true, decide_eq_true_eq]; first | omega | (simp; omega))
      clear hl h1 h2
      go_enter Tryz.func292, Tryz.ntmps292
      go_wp2
      go_ret
      exact ⟨by rw [hff.out]; rfl, by (repeat (first | exact Below.refl _ _ | assumption | (refine below_alloc ?_ _) | (refine Below.setCell ?_ (by first | omega | (simp; done) | (simp; omega)) _) | (refine Below.drew ?_) | (refine below_drewN ?_ _) | (refine below_then (by assumption) ?_)))⟩
  · skip
    have k0_0 : (o == 0) = false := beq_eq_false_iff_ne.2 (by omega)
    by_cases k4 : 0 < D.length
    · skip
      have k4_0 : decide ((0 : Int) < (D.length : Int)) = true := decide_eq_true (by omega)
      have k4_1 : decide (0 < D.length) = true := decide_eq_true (by omega)
      have hff : Hid (rightB ⟨D, o, m⟩ = false) := hid (by rw [← Bool.not_eq_true]; simp only [rightB, runB, copyB, Bool.or_eq_true, Bool.and_eq_true, decide_eq_true_eq]; first | omega | (simp; omega))
      clear hl h1 h2
      go_enter Tryz.func292, Tryz.ntmps292
      go_wp2
      go_ret
      exact ⟨by rw [hff.out]; rfl, by (repeat (first | exact Below.refl _ _ | assumption | (refine below_alloc ?_ _) | (refine Below.setCell ?_ (by first | omega | (simp; done) | (simp; omega)) _) | (refine Below.drew ?_) | (refine below_drewN ?_ _) | (refine below_then (by assumption) ?_)))⟩
    · skip
      obtain rfl : D = [] := List.eq_nil_of_length_eq_zero (by omega)
      simp only [List.length_nil] at *
      by_cases k5 : o < 0
      · skip
        have k5_0 : decide (o < 0) = true := decide_eq_true (by omega)
        have hff : Hid (rightB ⟨[], o, m⟩ = false) := hid (by rw [← Bool.not_eq_true]; simp only [rightB, runB, copyB, Bool.or_eq_true, Bool.and_eq_true, decide_eq_true_eq, List.length_nil]; first | omega | (simp; omega))
        clear hl h1 h2
        go_enter Tryz.func292, Tryz.ntmps292
        go_wp2
        go_ret
        exact ⟨by rw [hff.out]; rfl, by (repeat (first | exact Below.refl _ _ | assumption | (refine below_alloc ?_ _) | (refine Below.setCell ?_ (by first | omega | (simp; done) | (simp; omega)) _) | (refine Below.drew ?_) | (refine below_drewN ?_ _) | (refine below_then (by assumption) ?_)))⟩
      · skip
        have k5_0 : decide (o < 0) = false := decide_eq_false (by omega)
        by_cases k6 : 65536 < o
        · skip
          have k6_0 : decide ((65536 : Int) < o) = true := decide_eq_true (by omega)
          have hff : Hid (rightB ⟨[], o, m⟩ = false) := hid (by rw [← Bool.not_eq_true]; simp only [rightB, runB, copyB, Bool.or_eq_true, Bool.and_eq_true, decide_eq_true_eq, List.length_nil]; first | omega | (simp; omega))
          clear hl h1 h2
          go_enter Tryz.func292, Tryz.ntmps292
          go_wp2
          go_ret
          exact ⟨by rw [hff.out]; rfl, by (repeat (first | exact Below.refl _ _ | assumption | (refine below_alloc ?_ _) | (refine Below.setCell ?_ (by first | omega | (simp; done) | (simp; omega)) _) | (refine Below.drew ?_) | (refine below_drewN ?_ _) | (refine below_then (by assumption) ?_)))⟩
        · skip
          have k6_0 : decide ((65536 : Int) < o) = false := decide_eq_false (by omega)
          by_cases k7 : 4 ≤ m
          · skip
            have k7_0 : decide ((4 : Int) ≤ m) = true := decide_eq_true (by omega)
            by_cases k8 : m ≤ 1048576
            · skip
              have k8_0 : decide (m ≤ 1048576) = true := decide_eq_true (by omega)
              have hff : Hid (rightB ⟨[], o, m⟩ = true) := hid (by simp only [rightB, runB, copyB, Bool.or_eq_true, Bool.and_eq_true, decide_eq_true_eq, List.length_nil]; first | omega | (simp; omega))
              clear hl h1 h2
              go_enter Tryz.func292, Tryz.ntmps292
              go_wp2
              go_ret
              exact ⟨by rw [hff.out]; rfl, by (repeat (first | exact Below.refl _ _ | assumption | (refine below_alloc ?_ _) | (refine Below.setCell ?_ (by first | omega | (simp; done) | (simp; omega)) _) | (refine Below.drew ?_) | (refine below_drewN ?_ _) | (refine below_then (by assumption) ?_)))⟩
            · skip
              have k8_0 : decide (m ≤ 1048576) = false := decide_eq_false (by omega)
              have hff : Hid (rightB ⟨[], o, m⟩ = false) := hid (by rw [← Bool.not_eq_true]; simp only [rightB, runB, copyB, Bool.or_eq_true, Bool.and_eq_true, decide_eq_true_eq, List.length_nil]; first | omega | (simp; omega))
              clear hl h1 h2
              go_enter Tryz.func292, Tryz.ntmps292
              go_wp2
              go_ret
              exact ⟨by rw [hff.out]; rfl, by (repeat (first | exact Below.refl _ _ | assumption | (refine below_alloc ?_ _) | (refine Below.setCell ?_ (by first | omega | (simp; done) | (simp; omega)) _) | (refine Below.drew ?_) | (refine below_drewN ?_ _) | (refine below_then (by assumption) ?_)))⟩
          · skip
            have k7_0 : decide ((4 : Int) ≤ m) = false := decide_eq_false (by omega)
            have hff : Hid (rightB ⟨[], o, m⟩ = false) := hid (by rw [← Bool.not_eq_true]; simp only [rightB, runB, copyB, Bool.or_eq_true, Bool.and_eq_true, decide_eq_true_eq, List.length_nil]; first | omega | (simp; omega))
            clear hl h1 h2
            go_enter Tryz.func292, Tryz.ntmps292
            go_wp2
            go_ret
            exact ⟨by rw [hff.out]; rfl, by (repeat (first | exact Below.refl _ _ | assumption | (refine below_alloc ?_ _) | (refine Below.setCell ?_ (by first | omega | (simp; done) | (simp; omega)) _) | (refine Below.drew ?_) | (refine below_drewN ?_ _) | (refine below_then (by assumption) ?_)))⟩
end Go.Proofs.YtkipiefcnjfdjaaGreat
namespace Go.Proofs.YtkipiefcnjfdjaaGreat
open Go.RowKit Go.Bs Go.Maps
set_option linter.unusedVariables false
set_option linter.unusedSimpArgs false

set_option maxRecDepth 100000 in
theorem varint_put (w : World) {g base most : Nat} {J : List UInt8} {a : Option Addr} {c : Nat} (h : PenAt w g base most J a c) (x : Nat) (hx : x < 18446744073709551616) (hfit : J.length + (varB x).length ≤ most) (hlen : J.length + (varB x).length ≤ 100000000000000) :
    Calls Tryz.prog 73 #[.pointer (some ⟨g, 0, none⟩), .int .u64 x] w fun r w' => r = .returned (.tuple #[]) ∧ PenStep w g base most (J ++ varB x) a w' := by
  have HV := hid (varint_bytes x hx w)
  have HP := hid h
  clear h
  go_enter Tryz.func73, Tryz.ntmps73
  go_wp2_with fail
  refine HV.out.mono ?_
  rintro r w1 ⟨v, rfl, hr, hb1⟩
  obtain ⟨a1, c1, hv, hr2, _⟩ := sl_form hr
  simp only [List.cons.injEq, and_true] at hv
  subst hv
  have HQ := hid (pen_put w1 (HP.out.later hb1) (varB x) a1 _ c1 (rBytes.mono hr2 fun q hq => hq.2) hfit hlen)
  clear hr hr2
  go_wp2_with fail
  refine HQ.out.mono ?_
  rintro r w2 ⟨rfl, hst⟩
  have HST := hid (PenStep.later hb1 hst)
  clear hst
  go_wp2
  first | go_end0 | refine bodyPost_ret (results_none rfl _ _ _) rfl ?_
  exact ⟨rfl, HST.out⟩

/-- A token's bytes. -/
def tokB (t : Tok) : List UInt8 := if runB t then varB (2 * t.lit.length - 2) ++ t.lit else varB (2 * t.len.toNat - 7) ++ varB (t.off.toNat - 1)
theorem tokB_run (D : List UInt8) (h1 : 1 ≤ D.length) (h2 : D.length ≤ 1048576) : tokB ⟨D, 0, 0⟩ = varB (2 * D.length - 2) ++ D := by
  unfold tokB
  rw [if_pos]
  simp [runB]; omega
theorem tokB_copy (o m : Nat) (h1 : 1 ≤ o) : tokB ⟨[], (o : Int), (m : Int)⟩ = varB (2 * m - 7) ++ varB (o - 1) := by
  unfold tokB
  rw [if_neg]
  · simp
  · simp [runB]

theorem PenAt.own_lt {w : World} {g base most : Nat} {J : List UInt8} {a : Option Addr} {c : Nat} (h : PenAt w g base most J a c) {q : Nat} (hq : PenF g a q) : base ≤ q ∧ q < w.heap.size := by
  rcases hq with rfl | ⟨p, hp, rfl⟩
  · exact ⟨h.lo, h.blk.lt⟩
  · subst hp
    exact h.own.lt _ rfl

set_option maxRecDepth 100000 in
set_option maxHeartbeats 1600000 in
theorem token_put_run (w : World) {g base most : Nat} {J : List UInt8} {a : Option Addr} {c : Nat} (h : PenAt w g base most J a c) (D : List UInt8) (h1 : 1 ≤ D.length) (h2 : D.length ≤ 1048576) (ad : Option Addr) (cd : Nat)
    (hD : rBytes.r (fun q => q < w.heap.size ∧ ¬ PenF g a q) w [.slice ad D.length cd] D) (hfit : J.length + (tokB ⟨D, 0, 0⟩).length ≤ most) (hlen : J.length + (tokB ⟨D, 0, 0⟩).length ≤ 100000000000000) :
    Calls Tryz.prog 277 #[.pointer (some ⟨g, 0, none⟩), .agg #[.slice ad D.length cd, .int .i64 0, .int .i64 0]] w fun r w' => r = .returned (.tuple #[]) ∧ PenStep w g base most (J ++ tokB ⟨D, 0, 0⟩) a w' := by
  have HR := hid (fun (W : World) => token_right ⟨D, 0, 0⟩ ad cd W (by dsimp only; omega) ⟨by simp, by simp⟩ ⟨by simp, by simp⟩)
  have hr : rightB ⟨D, 0, 0⟩ = true := by simp [rightB, runB]; omega
  rw [hr] at HR
  have hT := tokB_run D h1 h2
  rw [hT] at hfit hlen ⊢
  rw [List.length_append] at hfit hlen
  have HV := hid (fun (W : World) (hW : Below w.heap.size w W) => varint_put W (h.later hW) (2 * D.length - 2) (by omega) (by omega) (by omega))
  have hno := fun q (hq : PenF g a q) => (h.own_lt hq).2
  have HNO := hid hno
  have HD := hid hD
  have hfit' := hid hfit; have hlen' := hid hlen
  have e0 : (((2 * D.length - 2 : Nat)) : Int) = ((D.length : Int) - 1) * 2 := by omega
  rw [e0] at HV
  clear hr hT h hD hno hfit hlen
  go_enter Tryz.func277, Tryz.ntmps277
  go_wp2_with fail
  refine (HR.out _).mono ?_
  rintro r w1 ⟨rfl, hb1⟩
  have B1 : Blk w1 w.heap.size 253 #[.slice ad D.length cd, .int .i64 0, .int .i64 0] := (Blk.new w _ _).later hb1
  have x0 : w1.cell? ⟨w.heap.size, 0, none⟩ = some (.slice ad D.length cd) := B1.cell 0
  have x1 : w1.cell? ⟨w.heap.size, 1, none⟩ = some (.int .i64 0) := B1.cell 1
  have hbw1 : Below w.heap.size w w1 := by (repeat (first | exact Below.refl _ _ | assumption | (refine below_alloc ?_ _) | (refine Below.setCell ?_ (by first | omega | (simp; done) | (simp; omega)) _) | (refine Below.drew ?_) | (refine below_drewN ?_ _) | (refine below_then (by assumption) ?_)))
  go_wp2_with fail
  refine (HV.out _ hbw1).mono ?_
  rintro r w2 ⟨rfl, a2, c2, hp2, ht2, ha2⟩
  have B2 := B1.tch ht2 (fun hf => by have := HNO.out _ hf; omega)
  have y0 : w2.cell? ⟨w.heap.size, 0, none⟩ = some (.slice ad D.length cd) := B2.cell 0
  have hs1 := hbw1.size
  have hD2 : rBytes.r (· < w2.heap.size) w2 [.slice ad D.length cd] D := rBytes.mono (rBytes.keep HD.out fun q hq => (ht2.block q (by omega) hq.2).trans (hbw1.block q hq.1)) fun q hq => Nat.lt_of_lt_of_le hq.1 (by have := ht2.size; omega)
  have HQ := hid (pen_put w2 hp2 D ad _ cd hD2 (by rw [List.length_append]; have := hfit'.out; omega) (by rw [List.length_append]; have := hlen'.out; omega))
  clear x0 x1 hD2
  go_wp2_with fail
  refine HQ.out.mono ?_
  rintro r w3 ⟨rfl, hst⟩
  have hst2 := PenStep.later hbw1 (PenStep.trans (J := J) ht2 ha2 hst)
  rw [List.append_assoc] at hst2
  have HST := hid hst2
  clear hst hst2
  go_wp2
  first | go_end0 | refine bodyPost_ret (results_none rfl _ _ _) rfl ?_
  exact ⟨rfl, HST.out⟩

set_option maxRecDepth 100000 in
set_option maxHeartbeats 1600000 in
theorem token_put_copy (w : World) {g base most : Nat} {J : List UInt8} {a : Option Addr} {c : Nat} (h : PenAt w g base most J a c) (o m : Nat) (h1 : 1 ≤ o) (h2 : o ≤ 65536) (h3 : 4 ≤ m) (h4 : m ≤ 1048576) (ad : Option Addr) (cd : Nat)
    (hfit : J.length + (tokB ⟨[], (o : Int), (m : Int)⟩).length ≤ most) (hlen : J.length + (tokB ⟨[], (o : Int), (m : Int)⟩).length ≤ 100000000000000) :
    Calls Tryz.prog 277 #[.pointer (some ⟨g, 0, none⟩), .agg #[.slice ad 0 cd, .int .i64 o, .int .i64 m]] w fun r w' => r = .returned (.tuple #[]) ∧ PenStep w g base most (J ++ tokB ⟨[], (o : Int), (m : Int)⟩) a w' := by
  have HR := hid (fun (W : World) => token_right ⟨[], (o : Int), (m : Int)⟩ ad cd W (by simp) (by dsimp only; omega) (by dsimp only; omega))
  have hr : rightB ⟨[], (o : Int), (m : Int)⟩ = true := by simp [rightB, copyB]; omega
  rw [hr] at HR
  have hT := tokB_copy o m h1
  rw [hT] at hfit hlen ⊢
  rw [List.length_append] at hfit hlen
  have HV := hid (fun (W : World) (hW : Below w.heap.size w W) => varint_put W (h.later hW) (2 * m - 7) (by omega) (by omega) (by omega))
  have hno := fun q (hq : PenF g a q) => (h.own_lt hq).2
  have HNO := hid hno
  have hfit' := hid hfit; have hlen' := hid hlen
  have e0 : (((2 * m - 7 : Nat)) : Int) = ((m : Int) - 4) * 2 + 1 := by omega
  rw [e0] at HV
  have d1 : ((o : Int) == 0) = false := by simp; omega
  have d2 : (o == 0) = false := by simp; omega
  simp only [List.length_nil] at HR
  clear hr hT h hno hfit hlen
  go_enter Tryz.func277, Tryz.ntmps277
  go_wp2_with fail
  refine (HR.out _).mono ?_
  rintro r w1 ⟨rfl, hb1⟩
  have B1 : Blk w1 w.heap.size 253 #[.slice ad 0 cd, .int .i64 o, .int .i64 m] := (Blk.new w _ _).later hb1
  have x1 : w1.cell? ⟨w.heap.size, 1, none⟩ = some (.int .i64 o) := B1.cell 1
  have x2 : w1.cell? ⟨w.heap.size, 2, none⟩ = some (.int .i64 m) := B1.cell 2
  have hbw1 : Below w.heap.size w w1 := by (repeat (first | exact Below.refl _ _ | assumption | (refine below_alloc ?_ _) | (refine Below.setCell ?_ (by first | omega | (simp; done) | (simp; omega)) _) | (refine Below.drew ?_) | (refine below_drewN ?_ _) | (refine below_then (by assumption) ?_)))
  go_wp2_with fail
  refine (HV.out _ hbw1).mono ?_
  rintro r w2 ⟨rfl, a2, c2, hp2, ht2, ha2⟩
  have B2 := B1.tch ht2 (fun hf => by have := HNO.out _ hf; omega)
  have y1 : w2.cell? ⟨w.heap.size, 1, none⟩ = some (.int .i64 o) := B2.cell 1
  have HQ := hid (varint_put w2 hp2 (o - 1) (by omega) (by rw [List.length_append]; have := hfit'.out; omega) (by rw [List.length_append]; have := hlen'.out; omega))
  rw [show ((o - 1 : Nat) : Int) = (o : Int) - 1 by omega] at HQ
  clear x1 x2
  go_wp2_with fail
  refine HQ.out.mono ?_
  rintro r w3 ⟨rfl, hst⟩
  have hst2 := PenStep.later hbw1 (PenStep.trans (J := J) ht2 ha2 hst)
  rw [List.append_assoc] at hst2
  have HST := hid hst2
  clear hst hst2
  go_wp2
  first | go_end0 | refine bodyPost_ret (results_none rfl _ _ _) rfl ?_
  exact ⟨rfl, HST.out⟩
end Go.Proofs.YtkipiefcnjfdjaaGreat
namespace Go.Proofs.YtkipiefcnjfdjaaGreat
open Go.RowKit Go.Bs Go.Maps
set_option linter.unusedVariables false
set_option linter.unusedSimpArgs false

def roomT (xs : List Tok) : Nat := (xs.map fun t => t.lit.length + 20).sum
def tokensB (xs : List Tok) : List UInt8 := (xs.map tokB).flatten
theorem roomT_step (xs : List Tok) (k : Nat) (h : k < xs.length) : roomT (xs.take (k + 1)) = roomT (xs.take k) + (xs[k].lit.length + 20) := by
  unfold roomT
  rw [List.take_succ_eq_append_getElem h, List.map_append, List.sum_append]; simp
theorem tokensB_step (xs : List Tok) (k : Nat) (h : k < xs.length) : tokensB (xs.take (k + 1)) = tokensB (xs.take k) ++ tokB xs[k] := by
  unfold tokensB
  rw [List.take_succ_eq_append_getElem h, List.map_append, List.flatten_append]; simp
theorem roomT_le (xs : List Tok) (hL : ∀ t ∈ xs, t.lit.length ≤ 1048576) (k : Nat) (hk : k ≤ xs.length) : roomT (xs.take k) ≤ k * 1048596 := by
  induction k with
  | zero => simp [roomT]
  | succ k ih =>
    rw [roomT_step xs k (by omega)]
    have := ih (by omega)
    have := hL _ (List.getElem_mem (show k < xs.length by omega))
    omega
theorem roomT_mono (xs : List Tok) (k : Nat) : roomT (xs.take k) ≤ roomT xs := by
  have : roomT xs = roomT (xs.take k) + roomT (xs.drop k) := by
    unfold roomT
    conv => lhs; rw [← List.take_append_drop k xs]
    rw [List.map_append, List.sum_append]
  omega
theorem tokB_len (t : Tok) : (tokB t).length ≤ t.lit.length + 20 := by
  unfold tokB
  split
  · rw [List.length_append]; have := varB_len (2 * t.lit.length - 2); omega
  · rw [List.length_append]; have := varB_len (2 * t.len.toNat - 7); have := varB_len (t.off.toNat - 1); omega
theorem tokensB_len (xs : List Tok) : (tokensB xs).length ≤ roomT xs := by
  unfold tokensB roomT
  induction xs with
  | nil => simp
  | cons t xs ih => simp only [List.map_cons, List.flatten_cons, List.length_append, List.sum_cons]; have := tokB_len t; omega
theorem varB_most : (varB 18446744073709551615).length = 10 := by decide +kernel
theorem right_forms {t : Tok} (h : rightB t = true) : (∃ D, t = ⟨D, 0, 0⟩ ∧ 1 ≤ D.length ∧ D.length ≤ 1048576) ∨ ∃ o m : Nat, t = ⟨[], (o : Int), (m : Int)⟩ ∧ 1 ≤ o ∧ o ≤ 65536 ∧ 4 ≤ m ∧ m ≤ 1048576 := by
  obtain ⟨D, o, m⟩ := t
  simp only [rightB, runB, copyB, Bool.or_eq_true, Bool.and_eq_true, decide_eq_true_eq] at h
  rcases h with ⟨rfl, rfl, h1, h2⟩ | ⟨h0, h1, h2, h3, h4⟩
  · exact .inl ⟨D, rfl, h1, h2⟩
  · refine .inr ⟨o.toNat, m.toNat, ?_, by omega, by omega, by omega, by omega⟩
    rw [List.eq_nil_of_length_eq_zero h0, Int.toNat_of_nonneg (by omega), Int.toNat_of_nonneg (by omega)]

set_option maxRecDepth 100000 in
set_option maxHeartbeats 3200000 in
theorem token_room (xs : List Tok) (a : Option Addr) (n c : Nat) (w : World) (hl : rToks.r (· < w.heap.size) w [.slice a n c] xs) (hx : xs.length ≤ 10000000) (hL : ∀ t ∈ xs, t.lit.length ≤ 1048576) :
    Calls Tryz.prog 276 #[.slice a n c] w fun r w' => r = .returned (.int .i64 (roomT xs)) ∧ Below w.heap.size w w' := by
  obtain ⟨rfl, hm, _, _⟩ := sl_len hl
  have HL := hid hl; clear hl
  go_enter Tryz.func276, Tryz.ntmps276
  go_wp2_with fail
  go_loopw [3, 8] (fun s i wr => ∃ k : Nat, k ≤ xs.length ∧ i = .int .i64 k ∧ (∃ t : Nat, s = .int .i64 t ∧ Hid (t = roomT (xs.take k))) ∧ Below w.heap.size w wr) (fun _ i _ => xs.length - (intOf i).toNat)
  case atStart => exact ⟨0, Nat.zero_le _, rfl, ⟨0, rfl, hid (by simp [roomT])⟩, Below.refl _ _⟩
  case round =>
    obtain ⟨k, hk, rfl, ⟨t, rfl, ht⟩, hb⟩ := hrel
    rcases Nat.lt_or_ge k xs.length with hlt | hge
    · obtain ⟨b, o, hA, hbb, a2, c2, x0, x1, x2, _, _, _⟩ := tok_at HL.out hlt
      subst hA
      have X0 := (hb.cell (p := ⟨b, o + k * 3, none⟩) hbb).trans x0
      have X1 := (hb.cell (p := ⟨b, o + k * 3 + 1, none⟩) hbb).trans x1
      have X2 := (hb.cell (p := ⟨b, o + k * 3 + 2, none⟩) hbb).trans x2
      have hn := hid (roomT_step xs k hlt)
      have hle := roomT_le xs hL k (by omega)
      have hD := hL _ (List.getElem_mem hlt)
      rw [← ht.out] at hle
      clear x0 x1 x2
      generalize xs[k] = y at *
      obtain ⟨D, yo, ym⟩ := y
      dsimp only at *
      have hbs := hb.size
      have i1 : (k : Int) < (xs.length : Int) := by omega
      go_wp2_with fail
      refine wp_world (fun W => Below wr.heap.size wr W ∧ wr.heap.size < W.heap.size ∧ W.cell? ⟨wr.heap.size, 0, none⟩ = some (.slice a2 D.length c2)) ⟨by (repeat (first | exact Below.refl _ _ | assumption | (refine below_alloc ?_ _) | (refine Below.setCell ?_ (by first | omega | (simp; done) | (simp; omega)) _) | (refine Below.drew ?_) | (refine below_drewN ?_ _) | (refine below_then (by assumption) ?_))), by simp, by go_simp⟩ ?_
      intro W ⟨hbW, hzW, u0⟩
      have U0 := fun s : Later W => s.cell u0
      have HS := hid (fun s : Later W => varint_size 18446744073709551615 (by omega) s.at_)
      rw [varB_most] at HS
      have hbw := below_then hbW hb
      clear X0 X1 X2 u0
      refine wp_region_later (by kernel_rfl) (by kernel_rfl) ?_
      repeat (go_big_quiet_step (((go_at_call 191; exact later_of (HS.out _)))))
      refine wpQuiet_nil ?_
      rintro W5 ⟨⟨W5', hb5⟩, rfl⟩
      go_wp2
      go_roundw
      case rel => exact ⟨k + 1, by omega, by go_num, ⟨t + (D.length + 20), by go_num, hid (by rw [hn.out, ht.out])⟩, below_then hb5 hbw⟩
      case measure => simp [intOf]; omega
    · obtain rfl : k = xs.length := by omega
      rw [List.take_length] at ht
      go_wp2
      go_ret
      exact ⟨by rw [← ht.out]; rfl, hb⟩
end Go.Proofs.YtkipiefcnjfdjaaGreat
namespace Go.Proofs.YtkipiefcnjfdjaaGreat
open Go.RowKit Go.Bs Go.Maps
set_option linter.unusedVariables false
set_option linter.unusedSimpArgs false

theorem PenAt.below {w w' : World} {g base most : Nat} {J J' : List UInt8} {a : Option Addr} {c B : Nat} (h : PenAt w g base most J a c) (hB : B ≤ base) (hB2 : B ≤ w.heap.size) (k : PenStep w g base most J' a w') : Below B w w' := by
  obtain ⟨a', c', k1, k2, k3⟩ := k
  exact k2.to_below hB2 fun b _ hb => Nat.le_trans hB (h.own_lt hb).1

set_option maxRecDepth 100000 in
set_option maxHeartbeats 3200000 in
theorem token_bytes (xs : List Tok) (a : Option Addr) (n c : Nat) (w : World) (hl : rToks.r (· < w.heap.size) w [.slice a n c] xs) (hx : xs.length ≤ 10000000) (hR : ∀ t ∈ xs, rightB t = true) :
    Calls Tryz.prog 246 #[.slice a n c] w fun r w' => ∃ v, r = .returned (.tuple #[v, .int .i64 0]) ∧ rBytes.r (fun q => w.heap.size ≤ q ∧ q < w'.heap.size) w' [v] (tokensB xs) ∧ Below w.heap.size w w' := by
  obtain ⟨rfl, hm, _, _⟩ := sl_len hl
  have hL : ∀ t ∈ xs, t.lit.length ≤ 1048576 := fun t ht => by
    rcases right_forms (hR t ht) with ⟨D, rfl, h1, h2⟩ | ⟨o, m, rfl, _⟩
    · exact h2
    · simp
  have HRM := hid (token_room xs a _ c w hl hx hL)
  have hrl := roomT_le xs hL xs.length (Nat.le_refl _)
  rw [List.take_length] at hrl
  have HMO := hid (fun k => roomT_mono xs k)
  have HL := hid hl; have HR := hid hR
  clear hl hR hL
  generalize hM : roomT xs = M at *
  have hMM := hid hM; clear hM
  go_enter Tryz.func246, Tryz.ntmps246
  go_wp2_with fail
  refine HRM.out.mono ?_
  rintro r w1 ⟨rfl, hb1⟩
  have HN := hid (pen_new w1 M (by omega))
  go_wp2_with fail
  refine HN.out.mono ?_
  rintro r w2 ⟨rfl, hp2, hb2⟩
  have hs1 := hb1.size
  have hs2 := hb2.size
  have HP2 := hid hp2
  have hbw2 := below_then hb2 hb1
  clear hp2
  generalize hg : w1.heap.size = g at *
  go_wp2_with fail
  go_loopw [12] (fun i wr => ∃ k : Nat, k ≤ xs.length ∧ i = .int .i64 k ∧ Hid (∃ ap cp, PenAt wr g g M (tokensB (xs.take k)) ap cp) ∧ Below g w2 wr) (fun i _ => xs.length - (intOf i).toNat)
  case atStart => exact ⟨0, Nat.zero_le _, rfl, hid ⟨_, _, by simpa [tokensB] using HP2.out⟩, Below.refl _ _⟩
  case round =>
    obtain ⟨k, hk, rfl, hpen, hb⟩ := hrel
    obtain ⟨ap, cp, hP⟩ := hpen.out
    have hbw : Below w.heap.size w wr := ⟨hb.os.trans hbw2.os, hb.tape.trans hbw2.tape, hb.output.trans hbw2.output, by have := hb.size; omega, fun q hq => (hb.block q (by omega)).trans (hbw2.block q hq)⟩
    have hgl := hP.blk.lt
    rcases Nat.lt_or_ge k xs.length with hlt | hge
    · obtain ⟨b, o, hA, hbb, a2, c2, x0, x1, x2, _, _, xl⟩ := tok_at HL.out hlt
      subst hA
      have X0 := (hbw.cell (p := ⟨b, o + k * 3, none⟩) hbb).trans x0
      have X1 := (hbw.cell (p := ⟨b, o + k * 3 + 1, none⟩) hbb).trans x1
      have X2 := (hbw.cell (p := ⟨b, o + k * 3 + 2, none⟩) hbb).trans x2
      have hst := tokensB_step xs k hlt
      have hfit : (tokensB (xs.take k)).length + (tokB xs[k]).length ≤ M := by
        have h1 := tokensB_len (xs.take (k + 1))
        rw [hst, List.length_append] at h1
        have h2 := HMO.out (k + 1)
        omega
      have hr := HR.out _ (List.getElem_mem hlt)
      have HST := hid hst
      have HXL := hid xl
      have HFIT := hid hfit
      clear x0 x1 x2 xl hst hfit
      generalize xs[k] = y at *
      generalize tokensB (xs.take k) = J at *
      have hbs := hb.size
      have i1 : (k : Int) < (xs.length : Int) := by omega
      have HP := hid hP
      clear hP hpen
      rcases right_forms hr with ⟨D, rfl, k1, k2⟩ | ⟨yo, ym, rfl, k1, k2, k3, k4⟩
      · dsimp only at X0 X1 X2 HXL
        clear hr
        go_wp2_with fail
        have hbW : Below wr.heap.size wr (wr.alloc (.cells #[.slice a2 D.length c2, .int .i64 0, .int .i64 0] 253)) := by (repeat (first | exact Below.refl _ _ | assumption | (refine below_alloc ?_ _) | (refine Below.setCell ?_ (by first | omega | (simp; done) | (simp; omega)) _) | (refine Below.drew ?_) | (refine below_drewN ?_ _) | (refine below_then (by assumption) ?_)))
        generalize wr.alloc (.cells #[.slice a2 D.length c2, .int .i64 0, .int .i64 0] 253) = W at *
        have hzW := hbW.size
        have hPW := HP.out.later hbW
        have HQ := hid (token_put_run W hPW D k1 k2 a2 c2 (rBytes.mono (rBytes.keep HXL.out fun q hq => (below_then hbW hbw).block q hq) fun q hq => ⟨Nat.lt_of_lt_of_le hq (by have := hbw.size; omega), fun hf => by have := (hPW.own_lt hf).1; have hq' : q < w.heap.size := hq; omega⟩) HFIT.out (by have := HFIT.out; omega))
        have HPW := hid hPW
        clear X0 X1 X2 hPW
        refine HQ.out.mono ?_
        rintro r w5 ⟨rfl, hps⟩
        have hb5 : Below g w2 w5 := by
          have e1 : Below g W w5 := HPW.out.below (Nat.le_refl _) (by omega) hps
          exact (hb.trans (hbW.mono (by omega))).trans e1
        obtain ⟨a5, c5, hP5, _, _⟩ := hps
        have HP5 := hid (⟨a5, c5, by rw [HST.out]; exact hP5⟩ : ∃ ap cp, PenAt w5 g g M (tokensB (xs.take (k + 1))) ap cp)
        clear hP5
        go_wp2
        go_roundw
        case rel => exact ⟨k + 1, by omega, by go_num, HP5, hb5⟩
        case measure => simp [intOf]; omega
      · dsimp only [List.length_nil] at X0 X1 X2 HXL
        clear hr
        go_wp2_with fail
        have hbW : Below wr.heap.size wr (wr.alloc (.cells #[.slice a2 0 c2, .int .i64 yo, .int .i64 ym] 253)) := by (repeat (first | exact Below.refl _ _ | assumption | (refine below_alloc ?_ _) | (refine Below.setCell ?_ (by first | omega | (simp; done) | (simp; omega)) _) | (refine Below.drew ?_) | (refine below_drewN ?_ _) | (refine below_then (by assumption) ?_)))
        generalize wr.alloc (.cells #[.slice a2 0 c2, .int .i64 yo, .int .i64 ym] 253) = W at *
        have hzW := hbW.size
        have hPW := HP.out.later hbW
        have HQ := hid (token_put_copy W hPW yo ym k1 k2 k3 k4 a2 c2 HFIT.out (by have := HFIT.out; omega))
        have HPW := hid hPW
        clear X0 X1 X2 hPW
        refine HQ.out.mono ?_
        rintro r w5 ⟨rfl, hps⟩
        have hb5 : Below g w2 w5 := by
          have e1 : Below g W w5 := HPW.out.below (Nat.le_refl _) (by omega) hps
          exact (hb.trans (hbW.mono (by omega))).trans e1
        obtain ⟨a5, c5, hP5, _, _⟩ := hps
        have HP5 := hid (⟨a5, c5, by rw [HST.out]; exact hP5⟩ : ∃ ap cp, PenAt w5 g g M (tokensB (xs.take (k + 1))) ap cp)
        clear hP5
        go_wp2
        go_roundw
        case rel => exact ⟨k + 1, by omega, by go_num, HP5, hb5⟩
        case measure => simp [intOf]; omega
    · obtain rfl : k = xs.length := by omega
      rw [List.take_length] at hP
      have HB := hid (pen_bytes wr hP)
      clear hP hpen
      go_wp2_with fail
      refine HB.out.mono ?_
      rintro r w5 ⟨v, rfl, hv, hb5⟩
      have hbe := below_then hb5 hbw
      have HV := hid (rBytes.mono (S' := fun q => w.heap.size ≤ q ∧ q < w5.heap.size) hv fun q hq => ⟨by have := hq.1; have := hbw.size; omega, hq.2⟩)
      clear hv
      go_wp2
      go_ret2
      exact ⟨_, rfl, HV.out, hbe⟩
end Go.Proofs.YtkipiefcnjfdjaaGreat
namespace Go.Bs
open Go.RowKit
end Go.Bs
namespace Go.Proofs.YtkipiefcnjfdjaaGreat
open Go.RowKit Go.Bs Go.Maps
set_option linter.unusedVariables false
set_option linter.unusedSimpArgs false

/-- A token, or a run whose bytes are still being read. -/
def rTV : Rp (Tok ⊕ Value) :=
  ⟨fun S w cs x => match x with | .inl t => rTok.r S w cs t | .inr v => cs = [v, .int .i64 0, .int .i64 0],
   fun {S w w' cs x} h hk => by cases x with | inl b => exact rTok.keep h hk | inr y => exact h,
   fun {S S' w cs x} h hk => by cases x with | inl b => exact rTok.mono h hk | inr y => exact h⟩

structure TBld (lo : Nat) (w : World) (g c : Nat) (cells : List (List Value)) (ts : List Tok) (D : List UInt8) (vl : Value) : Prop where
  own : OwnElsF (fun x => lo ≤ x ∧ x < w.heap.size ∧ vl.ownBlock ≠ some x) rTV lo 253 3 w (.slice (some ⟨g, 0, none⟩) (ts.length + 1) c) (ts.map .inl ++ [.inr vl]) (cells ++ [[vl, .int .i64 0, .int .i64 0]])
  len : cells.length = ts.length
  last : w.ownsRow lo 5 1 vl D.length (byteCells D)
  ne : vl.ownBlock ≠ some g

theorem TBld.g_lt {lo : Nat} {w : World} {g c : Nat} {cells : List (List Value)} {ts : List Tok} {D : List UInt8} {vl : Value} (h : TBld lo w g c cells ts D vl) : lo ≤ g ∧ g < w.heap.size := h.own.1.lt g rfl

theorem TBld.later {lo : Nat} {w w' : World} {g c : Nat} {cells : List (List Value)} {ts : List Tok} {D : List UInt8} {vl : Value} (h : TBld lo w g c cells ts D vl) (hb : Below w.heap.size w w') : TBld lo w' g c cells ts D vl := by
  have hgl := h.g_lt
  obtain ⟨ho, h1, h4, h5⟩ := h
  refine ⟨(ho.keep (w' := w') (fun b h => hb.block b h.2.1) (fun g' hg' => hb.block g' (ho.1.lt g' hg').2)).mono fun b hb' => ⟨hb'.1, by have := hb.size; omega, hb'.2.2⟩, h1, own_below h4 hb, h5⟩

theorem TBld.place {lo : Nat} {w : World} {g c : Nat} {cells : List (List Value)} {ts : List Tok} {D : List UInt8} {vl : Value} (h : TBld lo w g c cells ts D vl) :
    w.cell? ⟨g, ts.length * 3, none⟩ = some vl ∧ w.cell? ⟨g, ts.length * 3 + 1, none⟩ = some (.int .i64 0) ∧ w.frozen? ⟨g, ts.length * 3, none⟩ = false := by
  obtain ⟨⟨ho, hlen, hsz, hA⟩, h1, _⟩ := h
  rcases ho.2 with ⟨h0, _⟩ | ⟨g', cap, cur, hv, hbg, hg, hn, hc, hcur, hx⟩
  · cases h0
  · simp at hv
    obtain ⟨rfl, rfl⟩ := hv
    have hf : ∀ j u, [vl, Value.int .i64 0, .int .i64 0][j]? = some u → cur[ts.length * 3 + j]? = some u := fun j u hu => by
      have hf := flatten_at 3 (cells ++ [[vl, .int .i64 0, .int .i64 0]]) hsz ts.length j [vl, .int .i64 0, .int .i64 0] u (by rw [List.getElem?_append_right (by omega), h1]; simp) hu
      rw [← hx, List.getElem?_take] at hf
      split at hf
      · simpa using hf
      · cases hf
    refine ⟨?_, ?_, Blk.free hg _⟩
    · rw [Blk.cell hg]; exact hf 0 vl rfl
    · rw [Blk.cell hg]; exact hf 1 _ rfl
end Go.Proofs.YtkipiefcnjfdjaaGreat
namespace Go.Proofs.YtkipiefcnjfdjaaGreat
open Go.RowKit Go.Bs Go.Maps
set_option linter.unusedVariables false
set_option linter.unusedSimpArgs false

/-- What is still to come. -/
def Rest (b : List UInt8) (p i : Nat) (O : List Tok) : Prop := ∃ f, b.length ≤ p + f ∧ toksR b = O ++ toksF b f p i
theorem Rest.copy {b : List UInt8} {p i o m : Nat} {O : List Tok} (h : Rest b p i O) (hp : p < b.length) (hb : bestR b p = (o, m)) (hm : m ≠ 0) : Rest b (p + m) (p + m) (O ++ litT b i p ++ [⟨[], (o : Int), (m : Int)⟩]) := by
  obtain ⟨f, hf, h⟩ := h
  obtain ⟨f, rfl⟩ : ∃ f', f = f' + 1 := ⟨f - 1, by omega⟩
  refine ⟨f, by omega, ?_⟩
  rw [h]
  simp only [toksF, if_pos hp, hb, if_neg hm]
  simp
theorem Rest.none {b : List UInt8} {p i o : Nat} {O : List Tok} (h : Rest b p i O) (hp : p < b.length) (hb : bestR b p = (o, 0)) : Rest b (p + 1) i O := by
  obtain ⟨f, hf, h⟩ := h
  obtain ⟨f, rfl⟩ : ∃ f', f = f' + 1 := ⟨f - 1, by omega⟩
  refine ⟨f, by omega, ?_⟩
  rw [h]
  simp only [toksF, if_pos hp, hb, if_true]
theorem Rest.fin {b : List UInt8} {i : Nat} {O : List Tok} (h : Rest b b.length i O) : toksR b = O ++ litT b i b.length := by
  obtain ⟨f, hf, h⟩ := h
  rw [h]
  cases f with
  | zero => rfl
  | succ f => simp only [toksF, if_neg (Nat.lt_irrefl _)]

end Go.Proofs.YtkipiefcnjfdjaaGreat
namespace Go.Proofs.YtkipiefcnjfdjaaGreat
open Go.RowKit Go.Bs Go.Maps
set_option linter.unusedVariables false
set_option linter.unusedSimpArgs false

theorem good_right {b : List UInt8} (hb : b.length ≤ 1048576) : ∀ {f : Bool} {p : Nat} {ts : List Tok}, Good b f p ts → ∀ t ∈ ts, rightB t = true
  | _, _, _, .nil, t, ht => by simp at ht
  | _, _, _, .copy (p := p) (o := o) (m := m) hp hbe hm hg, t, ht => by
    rcases List.mem_cons.1 ht with rfl | ht
    · have h1 := bestR_facts b p
      have h2 := (bestR_room b p).1
      rw [hbe] at h1 h2
      simp only at h2
      rcases h1 with h1 | ⟨o', m', h1, g1, g2, g3, _⟩
      · simp only [Prod.mk.injEq] at h1; omega
      · simp only [Prod.mk.injEq] at h1
        unfold reach at g2
        simp [rightB, copyB]
        omega
    · exact good_right hb hg t ht
  | _, _, _, .run (p := p) (q := q) h1 h2 h3 hg, t, ht => by
    rcases List.mem_cons.1 ht with rfl | ht
    · simp [rightB, runB]
      omega
    · exact good_right hb hg t ht
theorem toks_right {b : List UInt8} (hb : b.length ≤ 1048576) : ∀ t ∈ toksR b, rightB t = true := good_right hb (good_toksR b)
theorem toks_len2 {b : List UInt8} (hb : b.length ≤ 1048576) : (toksR b).length ≤ 10000000 := by
  have := toks_len b b.length 0 0
  unfold toksR
  omega

set_option maxRecDepth 100000 in
theorem press_bytes (w : World) (b : List UInt8) (a : Option Addr) (n c : Nat) (hl : rBytes.r (· < w.heap.size) w [.slice a n c] b) (hlen : b.length ≤ 1048576) :
    Calls Tryz.prog 196 #[.slice a n c] w fun r w' => ∃ v, r = .returned (.tuple #[v, .int .i64 0]) ∧ rBytes.r (fun q => w.heap.size ≤ q ∧ q < w'.heap.size) w' [v] (tokensB (toksR b)) ∧ Below w.heap.size w w' := by
  obtain ⟨rfl, hm, _, _⟩ := sl_len hl
  have HT := hid (press_tokens w b a _ c hl hlen)
  have hri := toks_right hlen
  have hl2 := toks_len2 hlen
  clear hl
  generalize toksR b = T at *
  go_enter Tryz.func196, Tryz.ntmps196
  go_wp2_with fail
  refine HT.out.mono ?_
  rintro r w1 ⟨v, rfl, hr, hb1⟩
  obtain ⟨a1, c1, hv, hr2, _⟩ := sl_form hr
  simp only [List.cons.injEq, and_true] at hv
  subst hv
  have HB := hid (token_bytes T a1 _ c1 w1 (rToks.mono hr2 fun q hq => hq.2) hl2 hri)
  have hs1 := hb1.size
  clear hr hr2
  go_wp2_with fail
  refine HB.out.mono ?_
  rintro r w2 ⟨v2, rfl, hv2, hb2⟩
  have hbe := below_then hb2 hb1
  have HV := hid (rBytes.mono (S' := fun q => w.heap.size ≤ q ∧ q < w2.heap.size) hv2 fun q hq => ⟨by have := hq.1; omega, hq.2⟩)
  clear hv2
  go_wp2
  go_ret2
  exact ⟨_, rfl, HV.out, hbe⟩

end Go.Proofs.YtkipiefcnjfdjaaGreat
namespace Go.Proofs.YtkipiefcnjfdjaaGreat
open Go.RowKit Go.Bs Go.Maps
set_option linter.unusedVariables false
set_option linter.unusedSimpArgs false

def blobB (D : List UInt8) : List UInt8 := varB D.length ++ D
theorem blobB_len (D : List UInt8) : (blobB D).length = (varB D.length).length + D.length := by simp [blobB]

set_option maxRecDepth 100000 in
theorem blob_size (n : Nat) (hn : n ≤ 100000000000000) (w : World) :
    Calls Tryz.prog 129 #[.int .i64 n] w fun r w' => r = .returned (.int .i64 ((varB n).length + n : Nat)) ∧ Below w.heap.size w w' := by
  have HS := hid (fun (W : World) => varint_size n (by omega) W)
  have hl := varB_len n
  generalize (varB n).length = k at *
  go_enter Tryz.func129, Tryz.ntmps129
  go_wp2_with fail
  refine (HS.out _).mono ?_
  rintro r w1 ⟨rfl, hb1⟩
  go_wp2
  go_ret
  exact ⟨by first | rfl | simp, hb1⟩

set_option maxRecDepth 100000 in
theorem blob_put (w : World) {g base most : Nat} {J : List UInt8} {a : Option Addr} {c : Nat} (h : PenAt w g base most J a c) (D : List UInt8) (ad : Option Addr) (nd cd : Nat)
    (hD : rBytes.r (fun q => q < w.heap.size ∧ ¬ PenF g a q) w [.slice ad nd cd] D) (hfit : J.length + (blobB D).length ≤ most) (hlen : J.length + (blobB D).length ≤ 100000000000000) :
    Calls Tryz.prog 137 #[.pointer (some ⟨g, 0, none⟩), .slice ad nd cd] w fun r w' => r = .returned (.tuple #[]) ∧ PenStep w g base most (J ++ blobB D) a w' := by
  obtain ⟨rfl, hm, _, _⟩ := sl_len hD
  rw [blobB_len] at hfit hlen
  have HV := hid (varint_put w h D.length (by omega) (by omega) (by omega))
  have HD := hid hD
  have hfit' := hid hfit; have hlen' := hid hlen
  clear h hD hfit hlen
  go_enter Tryz.func137, Tryz.ntmps137
  go_wp2_with fail
  refine HV.out.mono ?_
  rintro r w2 ⟨rfl, a2, c2, hp2, ht2, ha2⟩
  have hs2 := ht2.size
  have HQ := hid (pen_put w2 hp2 D ad _ cd (rBytes.mono (rBytes.keep HD.out fun q hq => ht2.block q hq.1 hq.2) fun q hq => Nat.lt_of_lt_of_le hq.1 hs2) (by rw [List.length_append]; have := hfit'.out; omega) (by rw [List.length_append]; have := hlen'.out; omega))
  go_wp2_with fail
  refine HQ.out.mono ?_
  rintro r w3 ⟨rfl, hst⟩
  have hst2 := PenStep.trans (J := J) ht2 ha2 hst
  rw [List.append_assoc] at hst2
  have HST := hid hst2
  clear hst hst2
  go_wp2
  first | go_end0 | refine bodyPost_ret (results_none rfl _ _ _) rfl ?_
  exact ⟨rfl, HST.out⟩

end Go.Proofs.YtkipiefcnjfdjaaGreat
namespace Go.Proofs.YtkipiefcnjfdjaaGreat
open Go.RowKit Go.Bs Go.Maps
set_option linter.unusedVariables false
set_option linter.unusedSimpArgs false

/-- A text, pressed. -/
def pressB (p : List UInt8) : List UInt8 := tokensB (toksR p)
def packR (p : List UInt8) : Bool := decide ((blobB (pressB p)).length < p.length)
def blockB (p : List UInt8) : List UInt8 := varB p.length ++ (if packR p then 1 :: blobB (pressB p) else 0 :: p)
theorem pressB_small {b : List UInt8} (hb : b.length ≤ 1048576) : (pressB b).length ≤ 10000000000000 := by
  have hL : ∀ t ∈ toksR b, t.lit.length ≤ 1048576 := fun t ht => by
    rcases right_forms (toks_right hb t ht) with ⟨D, rfl, h1, h2⟩ | ⟨o, m, rfl, _⟩
    · exact h2
    · simp
  have h1 := tokensB_len (toksR b)
  have h2 := roomT_le (toksR b) hL (toksR b).length (Nat.le_refl _)
  rw [List.take_length] at h2
  have h3 := toks_len b b.length 0 0
  unfold pressB
  unfold toksR at *
  omega

set_option maxRecDepth 100000 in
theorem block_packed (w : World) (p : List UInt8) (a : Option Addr) (n c : Nat) (hl : rBytes.r (· < w.heap.size) w [.slice a n c] p) (hlen : p.length ≤ 1048576) :
    Calls Tryz.prog 136 #[.slice a n c] w fun r w' => ∃ v, r = .returned (.tuple #[v, .bool (packR p)]) ∧ (packR p = true → rBytes.r (fun q => w.heap.size ≤ q ∧ q < w'.heap.size) w' [v] (pressB p)) ∧ (packR p = false → v = .slice none 0 0) ∧ Below w.heap.size w w' := by
  obtain ⟨rfl, hm, _, _⟩ := sl_len hl
  have HT := hid (press_bytes w p a _ c hl hlen)
  have hsm := pressB_small hlen
  have hbl := blobB_len (pressB p)
  have hpk : Hid (packR p = decide ((blobB (pressB p)).length < p.length)) := hid rfl
  clear hl
  rw [show tokensB (toksR p) = pressB p from rfl] at HT
  generalize pressB p = E at *
  rw [hbl] at hpk
  generalize packR p = R at *
  have HS := hid (fun (W : World) => blob_size E.length (by omega) W)
  have hvl := varB_len E.length
  clear hbl
  generalize (varB E.length).length = k at *
  go_enter Tryz.func136, Tryz.ntmps136
  go_wp2_with fail
  refine HT.out.mono ?_
  rintro r w1 ⟨v, rfl, hr, hb1⟩
  obtain ⟨a1, c1, hv, hr2, _⟩ := sl_form hr
  simp only [List.cons.injEq, and_true] at hv
  subst hv
  have HR := hid hr2
  have hs1 := hb1.size
  clear hr hr2
  go_wp2_with fail
  refine (HS.out _).mono ?_
  rintro r w2 ⟨rfl, hb2⟩
  have hbe := below_then hb2 hb1
  have hs2 := hb2.size
  have HR2 := hid (rBytes.mono (S' := fun q => w.heap.size ≤ q ∧ q < w2.heap.size) (rBytes.keep HR.out fun q hq => hb2.block q hq.2) fun q hq => ⟨hq.1, by omega⟩)
  have hpk' := hpk.out
  clear hpk
  cases R
  · have hle : ¬ k + E.length < p.length := of_decide_eq_false hpk'.symm
    have d1 : decide ((p.length : Int) ≤ (k : Int) + (E.length : Int)) = true := decide_eq_true (by omega)
    have d1' : decide ((p.length : Int) ≤ ((k + E.length : Nat) : Int)) = true := decide_eq_true (by omega)
    have d1'' : decide (p.length ≤ k + E.length) = true := decide_eq_true (by omega)
    clear hpk' hle
    go_wp2
    go_ret2
    exact ⟨_, rfl, rfl, hbe⟩
  · have hle : k + E.length < p.length := of_decide_eq_true hpk'.symm
    have d1 : decide ((p.length : Int) ≤ (k : Int) + (E.length : Int)) = false := decide_eq_false (by omega)
    have d1' : decide ((p.length : Int) ≤ ((k + E.length : Nat) : Int)) = false := decide_eq_false (by omega)
    have d1'' : decide (p.length ≤ k + E.length) = false := decide_eq_false (by omega)
    clear hpk' hle
    go_wp2
    go_ret2
    exact ⟨_, rfl, HR2.out, hbe⟩

end Go.Proofs.YtkipiefcnjfdjaaGreat
namespace Go.Proofs.YtkipiefcnjfdjaaGreat
open Go.RowKit Go.Bs Go.Maps
set_option linter.unusedVariables false
set_option linter.unusedSimpArgs false

theorem penF_old {w : World} {g : Nat} {a a1 : Option Addr} (h : a1.map Addr.block = a.map Addr.block ∨ ∃ q, a1.map Addr.block = some q ∧ w.heap.size ≤ q) {q : Nat} (hq : q < w.heap.size) (hn : ¬ PenF g a q) : ¬ PenF g a1 q := by
  rw [penF_is] at hn ⊢
  intro e
  rcases e with e | e
  · exact hn (.inl e)
  · rcases h with h | ⟨q', h, h2⟩
    · exact hn (.inr (h ▸ e))
    · rw [h] at e; have := Option.some.inj e; omega
theorem lit_one (w : World) (y : UInt8) : rBytes.r (· < (w.alloc (.cells #[.int .u8 (y.toNat : Int)] 5)).heap.size) (w.alloc (.cells #[.int .u8 (y.toNat : Int)] 5)) [.slice (some ⟨w.heap.size, 0, none⟩) 1 1] [y] :=
  own_bytes (l := [y]) rfl (own_new1 (base := 0) (Nat.zero_le _) (World.alloc_heap_new w _))

set_option maxRecDepth 100000 in
set_option maxHeartbeats 1600000 in
theorem block_put (w : World) {g base most : Nat} {J : List UInt8} {a : Option Addr} {c : Nat} (h : PenAt w g base most J a c) (p : List UInt8) (ad : Option Addr) (nd cd : Nat)
    (hD : rBytes.r (fun q => q < w.heap.size ∧ ¬ PenF g a q) w [.slice ad nd cd] p) (hp : p.length ≤ 1048576) (hfit : J.length + (blockB p).length ≤ most) (hlen : J.length + (blockB p).length ≤ 100000000000000) :
    Calls Tryz.prog 75 #[.pointer (some ⟨g, 0, none⟩), .slice ad nd cd] w fun r w' => r = .returned (.tuple #[]) ∧ PenStep w g base most (J ++ blockB p) a w' := by
  obtain ⟨rfl, hm, _, _⟩ := sl_len hD
  have d1 : decide ((1048576 : Int) < (p.length : Int)) = false := decide_eq_false (by omega)
  have hbk : Hid (blockB p = varB p.length ++ (if packR p then 1 :: blobB (pressB p) else 0 :: p)) := hid rfl
  have hvl : (varB p.length).length ≤ (blockB p).length := by rw [hbk.out]; simp
  have HV := hid (varint_put w h p.length (by omega) (by omega) (by omega))
  have HPK := hid (fun (W : World) (hl : rBytes.r (· < W.heap.size) W [.slice ad p.length cd] p) => block_packed W p ad _ cd hl hp)
  have HD := hid hD
  have HFIT := hid hfit; have HLEN := hid hlen
  clear h hD hfit hlen hvl
  generalize packR p = R at *
  generalize pressB p = E at *
  generalize varB p.length = V at *
  generalize blockB p = K at *
  cases R
  · have HK : Hid (K = V ++ (0 :: p)) := hid hbk.out
    clear hbk
    go_enter Tryz.func75, Tryz.ntmps75
    go_wp2_with fail
    refine HV.out.mono ?_
    rintro r w1 ⟨rfl, a1, c1, hp1, ht1, ha1⟩
    have hs1 := ht1.size
    have hD1 : rBytes.r (fun q => q < w1.heap.size ∧ ¬ PenF g a1 q) w1 [.slice ad p.length cd] p := rBytes.mono (rBytes.keep HD.out fun q hq => ht1.block q hq.1 hq.2) fun q hq => ⟨by omega, penF_old ha1 hq.1 hq.2⟩
    have HD1 := hid hD1
    clear hD1
    go_wp2_with fail
    refine (HPK.out _ (rBytes.mono HD1.out fun q hq => hq.1)).mono ?_
    rintro r w2 ⟨v2, rfl, _, hv2, hb2⟩
    obtain rfl := hv2 trivial
    have hs2 := hb2.size
    have hp2 := hp1.later hb2
    go_wp2_with fail
    have hbW : Below w2.heap.size w2 (w2.alloc (.cells #[.int .u8 0] 5)) := by (repeat (first | exact Below.refl _ _ | assumption | (refine below_alloc ?_ _) | (refine Below.setCell ?_ (by first | omega | (simp; done) | (simp; omega)) _) | (refine Below.drew ?_) | (refine below_drewN ?_ _) | (refine below_then (by assumption) ?_)))
    have hlit : rBytes.r (· < (w2.alloc (.cells #[.int .u8 0] 5)).heap.size) (w2.alloc (.cells #[.int .u8 0] 5)) [.slice (some ⟨w2.heap.size, 0, none⟩) 1 1] [0] := lit_one w2 0
    generalize w2.alloc (.cells #[.int .u8 0] 5) = W at *
    have hsW := hbW.size
    refine (pen_put W (hp2.later hbW) [0] (some ⟨w2.heap.size, 0, none⟩) 1 1 hlit (by have := HFIT.out; rw [HK.out] at this; simp at this ⊢; omega) (by have := HLEN.out; rw [HK.out] at this; simp at this ⊢; omega)).mono ?_
    rintro r w3 ⟨rfl, a3, c3, hp3, ht3, ha3⟩
    have hs3 := ht3.size
    have hD3 : rBytes.r (· < w3.heap.size) w3 [.slice ad p.length cd] p := rBytes.mono (rBytes.keep HD1.out fun q hq => (ht3.block q (by omega) hq.2).trans ((hbW.block q (by omega)).trans (hb2.block q hq.1))) fun q hq => by omega
    have HQ := hid (pen_put w3 hp3 p ad _ cd hD3 (by have := HFIT.out; rw [HK.out] at this; simp at this ⊢; omega) (by have := HLEN.out; rw [HK.out] at this; simp at this ⊢; omega))
    clear hD3 hlit
    go_wp2_with fail
    refine HQ.out.mono ?_
    rintro r w4 ⟨rfl, hst⟩
    have hst2 := PenStep.trans (J := J) ht1 ha1 (PenStep.later hb2 (PenStep.later hbW (PenStep.trans (J := J) ht3 ha3 hst)))
    have HST : Hid (PenStep w g base most (J ++ K) a w4) := hid (by rw [HK.out]; simpa using hst2)
    clear hst hst2
    go_wp2
    first | go_end0 | refine bodyPost_ret (results_none rfl _ _ _) rfl ?_
    exact ⟨rfl, HST.out⟩
  · have HK : Hid (K = V ++ (1 :: blobB E)) := hid hbk.out
    clear hbk
    go_enter Tryz.func75, Tryz.ntmps75
    go_wp2_with fail
    refine HV.out.mono ?_
    rintro r w1 ⟨rfl, a1, c1, hp1, ht1, ha1⟩
    have hs1 := ht1.size
    have hD1 : rBytes.r (fun q => q < w1.heap.size ∧ ¬ PenF g a1 q) w1 [.slice ad p.length cd] p := rBytes.mono (rBytes.keep HD.out fun q hq => ht1.block q hq.1 hq.2) fun q hq => ⟨by omega, penF_old ha1 hq.1 hq.2⟩
    have HD1 := hid hD1
    clear hD1
    go_wp2_with fail
    refine (HPK.out _ (rBytes.mono HD1.out fun q hq => hq.1)).mono ?_
    rintro r w2 ⟨v2, rfl, hv2, _, hb2⟩
    obtain ⟨a2, c2, hve, hr2, _⟩ := sl_form (hv2 trivial)
    simp only [List.cons.injEq, and_true] at hve
    subst hve
    have HE := hid hr2
    clear hv2 hr2
    have hs2 := hb2.size
    have hp2 := hp1.later hb2
    go_wp2_with fail
    have hbW : Below w2.heap.size w2 (w2.alloc (.cells #[.int .u8 1] 5)) := by (repeat (first | exact Below.refl _ _ | assumption | (refine below_alloc ?_ _) | (refine Below.setCell ?_ (by first | omega | (simp; done) | (simp; omega)) _) | (refine Below.drew ?_) | (refine below_drewN ?_ _) | (refine below_then (by assumption) ?_)))
    have hlit : rBytes.r (· < (w2.alloc (.cells #[.int .u8 1] 5)).heap.size) (w2.alloc (.cells #[.int .u8 1] 5)) [.slice (some ⟨w2.heap.size, 0, none⟩) 1 1] [1] := lit_one w2 1
    generalize w2.alloc (.cells #[.int .u8 1] 5) = W at *
    have hsW := hbW.size
    refine (pen_put W (hp2.later hbW) [1] (some ⟨w2.heap.size, 0, none⟩) 1 1 hlit (by have := HFIT.out; rw [HK.out] at this; simp at this ⊢; omega) (by have := HLEN.out; rw [HK.out] at this; simp at this ⊢; omega)).mono ?_
    rintro r w3 ⟨rfl, a3, c3, hp3, ht3, ha3⟩
    have hs3 := ht3.size
    have hno : ∀ q, w1.heap.size ≤ q → ¬ PenF g a1 q := fun q hq hf => by have := (hp1.own_lt hf).2; omega
    have hE3 : rBytes.r (fun q => q < w3.heap.size ∧ ¬ PenF g a3 q) w3 [.slice a2 E.length c2] E := rBytes.mono (rBytes.keep HE.out fun q hq => (ht3.block q (by omega) (hno q hq.1)).trans (hbW.block q (by omega))) fun q hq => ⟨by omega, penF_old ha3 (by omega) (hno q hq.1)⟩
    have HQ := hid (blob_put w3 hp3 E a2 _ c2 hE3 (by have := HFIT.out; rw [HK.out] at this; simp at this ⊢; omega) (by have := HLEN.out; rw [HK.out] at this; simp at this ⊢; omega))
    clear hE3 hlit hno
    go_wp2_with fail
    refine HQ.out.mono ?_
    rintro r w4 ⟨rfl, hst⟩
    have hst2 := PenStep.trans (J := J) ht1 ha1 (PenStep.later hb2 (PenStep.later hbW (PenStep.trans (J := J) ht3 ha3 hst)))
    have HST : Hid (PenStep w g base most (J ++ K) a w4) := hid (by rw [HK.out]; simpa using hst2)
    clear hst hst2
    go_wp2
    first | go_end0 | refine bodyPost_ret (results_none rfl _ _ _) rfl ?_
    exact ⟨rfl, HST.out⟩
end Go.Proofs.YtkipiefcnjfdjaaGreat
namespace Go.Proofs.YtkipiefcnjfdjaaGreat
open Go.RowKit Go.Bs Go.Maps
set_option linter.unusedVariables false
set_option linter.unusedSimpArgs false

theorem toNat_cast {x : Int} (h : 0 ≤ x) : ((x.toNat : Nat) : Int) = x := Int.toNat_of_nonneg h
/-- Numbers' bytes, one behind the other. -/
def numsB (l : List Int) : List UInt8 := (l.map fun x => varB x.toNat).flatten
def deltaB (pos : Int) (l : List Int) : List UInt8 := varB l.length ++ numsB (stepsL pos l)
/-- By how much each stream is above the one ahead. -/
def upsL : Option Int → List Link → List Int
  | _, [] => []
  | p, x :: l => (match p with | none => x.stream | some q => x.stream - q - 1) :: upsL (some x.stream) l
def lnkF (pos : Int) : Option Int → List Link → List UInt8
  | _, [] => []
  | p, x :: l => varB (match p with | none => x.stream | some q => x.stream - q - 1).toNat ++ deltaB pos x.backs ++ lnkF pos (some x.stream) l
def linksB (pos : Int) (l : List Link) : List UInt8 := varB l.length ++ lnkF pos none l
def headB (pos : Int) (e : Entry) : List UInt8 := linksB pos e.links ++ varB e.data.length
def headsB : Int → List Entry → List UInt8
  | _, [] => []
  | p, e :: l => headB p e ++ headsB (p + 1) l
def aheadB (b : Batch) : List UInt8 := varB b.epoch.toNat ++ varB b.base.toNat ++ varB b.entries.length ++ headsB b.base b.entries
def batchB (b : Batch) : List UInt8 := aheadB b ++ blockB (joined b.entries)

/-- The numbers of links are some. -/
def linkN (x : Link) : Prop := (0 ≤ x.stream ∧ x.stream ≤ 18446744073709551615) ∧ ∀ y ∈ x.backs, 0 ≤ y
def entryN (e : Entry) : Prop := ∀ x ∈ e.links, linkN x
def batchN (b : Batch) : Prop := (0 ≤ b.epoch ∧ b.epoch ≤ 18446744073709551615) ∧ (0 ≤ b.base ∧ b.base ≤ 18446744073709551615) ∧ ∀ e ∈ b.entries, entryN e
theorem numsB_nil : numsB [] = [] := rfl
theorem numsB_cons (x : Int) (l : List Int) : numsB (x :: l) = varB x.toNat ++ numsB l := by simp [numsB]
theorem numsB_app (l l' : List Int) : numsB (l ++ l') = numsB l ++ numsB l' := by simp [numsB]
theorem numsB_step (l : List Int) (k : Nat) (h : k < l.length) : numsB (l.take (k + 1)) = numsB (l.take k) ++ varB l[k].toNat := by
  rw [List.take_succ_eq_append_getElem h, numsB_app, numsB_cons, numsB_nil, List.append_nil]
theorem numsB_len (l : List Int) : (numsB l).length ≤ 10 * l.length := by
  induction l with
  | nil => simp [numsB]
  | cons x l ih =>
    rw [numsB_cons, List.length_append, List.length_cons]
    have := (varB_len x.toNat).1
    omega
theorem numsB_take_le (l : List Int) (k : Nat) : (numsB (l.take k)).length ≤ (numsB l).length := by
  have : numsB l = numsB (l.take k) ++ numsB (l.drop k) := by rw [← numsB_app, List.take_append_drop]
  rw [this, List.length_append]; omega
theorem stepsL_len : ∀ (p : Int) (l : List Int), (stepsL p l).length = l.length
  | _, [] => rfl
  | p, x :: l => by simp only [stepsL, List.length_cons, stepsL_len x l]
theorem upsL_len : ∀ (p : Option Int) (l : List Link), (upsL p l).length = l.length
  | _, [] => rfl
  | p, x :: l => by simp only [upsL, List.length_cons, upsL_len _ l]
theorem varB_len_small {x : Nat} (h : x < 128) : (varB x).length = 1 := by rw [varB_small h]; rfl
theorem deltaB_len (pos : Int) (l : List Int) (h : l.length < 128) : (deltaB pos l).length ≤ 1 + 10 * l.length := by
  have := numsB_len (stepsL pos l)
  rw [stepsL_len] at this
  unfold deltaB
  rw [List.length_append, varB_len_small h]
  omega
/-- What was there, and no part of the pen, is there yet. -/
theorem pen_data {α : Type} {A : Rp α} {w w1 : World} {g : Nat} {a a1 : Option Addr} {cs : List Value} {x : α} (ht : Tch (PenF g a) w w1) (ha : a1.map Addr.block = a.map Addr.block ∨ ∃ q, a1.map Addr.block = some q ∧ w.heap.size ≤ q)
    (h : A.r (fun q => q < w.heap.size ∧ ¬ PenF g a q) w cs x) : A.r (fun q => q < w1.heap.size ∧ ¬ PenF g a1 q) w1 cs x :=
  A.mono (A.keep h fun q hq => ht.block q hq.1 hq.2) fun q hq => ⟨Nat.lt_of_lt_of_le hq.1 ht.size, penF_old ha hq.1 hq.2⟩
theorem pen_later {α : Type} {A : Rp α} {w w1 : World} {g : Nat} {a : Option Addr} {cs : List Value} {x : α} (hb : Below w.heap.size w w1)
    (h : A.r (fun q => q < w.heap.size ∧ ¬ PenF g a q) w cs x) : A.r (fun q => q < w1.heap.size ∧ ¬ PenF g a q) w1 cs x :=
  A.mono (A.keep h fun q hq => hb.block q hq.1) fun q hq => ⟨Nat.lt_of_lt_of_le hq.1 hb.size, hq.2⟩
theorem pen_low {α : Type} {A : Rp α} {w : World} {g : Nat} {a : Option Addr} {cs : List Value} {x : α} (h : A.r (fun q => q < w.heap.size ∧ ¬ PenF g a q) w cs x) : A.r (· < w.heap.size) w cs x := A.mono h fun q hq => hq.1
/-- What came behind a pen is no part of it. -/
theorem pen_new_data {α : Type} {A : Rp α} {w w1 : World} {g base most : Nat} {J : List UInt8} {a : Option Addr} {c : Nat} {cs : List Value} {x : α} (hp : PenAt w g base most J a c) (h : A.r (fun q => w.heap.size ≤ q ∧ q < w1.heap.size) w1 cs x) : A.r (fun q => q < w1.heap.size ∧ ¬ PenF g a q) w1 cs x :=
  A.mono h fun q hq => ⟨hq.2, fun hf => by have := (hp.own_lt hf).2; omega⟩
end Go.Proofs.YtkipiefcnjfdjaaGreat
namespace Go.Proofs.YtkipiefcnjfdjaaGreat
open Go.RowKit Go.Bs Go.Maps
set_option linter.unusedVariables false
set_option linter.unusedSimpArgs false

/-- A place, a code, and the fault's place. -/
structure Rs where
  p : Nat
  k : Int
  f : Int
def Rs.fail (s : Rs) (c at_ : Int) : Rs := if s.k = 0 then ⟨s.p, c, at_⟩ else s
def Rs.skip (L : Nat) (s : Rs) (n : Int) : Bool × Rs :=
  if s.k = 0 then (if n < 0 then (false, ⟨s.p, 17, s.p⟩) else if (L : Int) - s.p < n then (false, ⟨s.p, 1, L⟩) else (true, ⟨s.p + n.toNat, 0, 0⟩)) else (false, s)
def Rs.take (B : List UInt8) (s : Rs) (n : Int) : Rs × List UInt8 := ((s.skip B.length n).2, if (s.skip B.length n).1 then (B.drop s.p).take n.toNat else [])
def Rs.byte (B : List UInt8) (s : Rs) : Rs × UInt8 := ((s.skip B.length 1).2, if (s.skip B.length 1).1 then B.getD s.p 0 else 0)
/-- A sound one. -/
structure Rs.ok (s : Rs) (L : Nat) : Prop where
  le : s.p ≤ L
  zero : s.k = 0 → s.f = 0
theorem Rs.fail_ok {s : Rs} {L : Nat} (h : s.ok L) {c at_ : Int} (hc : c ≠ 0) : (s.fail c at_).ok L := by
  unfold Rs.fail; split
  · exact ⟨h.le, fun e => absurd e hc⟩
  · exact h
theorem Rs.skip_ok {s : Rs} {L : Nat} (h : s.ok L) (n : Int) : (s.skip L n).2.ok L := by
  have := h.le
  unfold Rs.skip; split
  · split
    · exact ⟨h.le, fun e => by simp at e⟩
    · split
      · exact ⟨h.le, fun e => by simp at e⟩
      · exact ⟨by dsimp only; omega, fun _ => rfl⟩
  · exact h
theorem Rs.skip_p {s : Rs} {L : Nat} (h : s.ok L) (n : Int) : s.p ≤ (s.skip L n).2.p := by
  unfold Rs.skip; split
  · split
    · exact Nat.le_refl _
    · split
      · exact Nat.le_refl _
      · dsimp only; omega
  · exact Nat.le_refl _
theorem Rs.take_ok {s : Rs} {B : List UInt8} (h : s.ok B.length) (n : Int) : (s.take B n).1.ok B.length := s.skip_ok h n
theorem Rs.byte_ok {s : Rs} {B : List UInt8} (h : s.ok B.length) : (s.byte B).1.ok B.length := s.skip_ok h 1

/-- Block g is a reader of B's bytes, at s. -/
structure RdAt (w : World) (g : Nat) (B : List UInt8) (a : Option Addr) (s : Rs) : Prop where
  blk : Blk w g 124 #[.slice a B.length B.length, .int .i64 (s.p : Int), .int .i64 s.k, .int .i64 s.f]
  dat : rBytes.r (fun q => q < w.heap.size ∧ q ≠ g) w [.slice a B.length B.length] B
  ok : s.ok B.length
def RdStep (w : World) (g : Nat) (B : List UInt8) (a : Option Addr) (s' : Rs) (w' : World) : Prop := RdAt w' g B a s' ∧ Tch (· = g) w w'
section
variable {w w1 w2 : World} {g : Nat} {B : List UInt8} {a : Option Addr} {s s' : Rs}
theorem RdAt.later (h : RdAt w g B a s) (hb : Below w.heap.size w w1) : RdAt w1 g B a s :=
  ⟨h.blk.later hb, rBytes.mono (rBytes.keep h.dat fun q hq => hb.block q hq.1) fun q hq => ⟨Nat.lt_of_lt_of_le hq.1 hb.size, hq.2⟩, h.ok⟩
theorem RdAt.len (h : RdAt w g B a s) : B.length ≤ 9223372036854775807 := (sl_len h.dat).2.1
theorem RdStep.later (h : RdAt w g B a s) (hb : Below w.heap.size w w1) : RdStep w g B a s w1 := ⟨h.later hb, Tch.of_later hb⟩
theorem RdStep.refl (h : RdAt w g B a s) : RdStep w g B a s w := ⟨h, Tch.refl _ _⟩
theorem RdStep.trans (h : Tch (· = g) w w1) (k : RdStep w1 g B a s' w2) : RdStep w g B a s' w2 := ⟨k.1, h.trans k.2 fun _ _ h => h⟩
theorem RdStep.then (h : RdStep w g B a s w1) (hb : Below w1.heap.size w1 w2) : RdStep w g B a s w2 := ⟨h.1.later hb, h.2.trans (Tch.of_later (F := (· = g)) hb) fun _ _ h => h⟩
theorem RdStep.size (h : RdStep w g B a s w1) : w.heap.size ≤ w1.heap.size := h.2.size
theorem RdStep.below {b : Nat} (h : RdStep w g B a s w1) (hb : b ≤ w.heap.size) (hg : b ≤ g) : Below b w w1 := h.2.to_below hb fun q _ e => e ▸ hg
end

theorem empty_bytes {S : Nat → Prop} {w : World} {a : Option Addr} {m c : Nat} {l : List UInt8} (hl : l = []) (hm : m = 0) (hc : c ≤ 9223372036854775807) : rBytes.r S w [.slice a m c] l := by
  subst hl hm
  exact rSl_mk (xs := []) rfl (Nat.zero_le _) hc (.inl rfl)
/-- A part of a row of bytes. -/
theorem cut_bytes {S : Nat → Prop} {w : World} {a : Option Addr} {B : List UInt8} {c : Nat} (h : rBytes.r S w [.slice a B.length c] B) {lo hi : Nat} (h1 : lo ≤ hi) (h2 : hi ≤ B.length) :
    ∃ A' c', (∀ w' : World, (Instr.slice 28 (.slice a B.length c) (some (.int .i64 (lo : Int))) (some (.int .i64 (hi : Int))) none).run Tryz.prog w' = .ok (.slice A' (hi - lo) c') w') ∧ rBytes.r S w [.slice A' (hi - lo) c'] ((B.drop lo).take (hi - lo)) := by
  obtain ⟨_, hm, hc, hcm⟩ := sl_len h
  have g1 : (0 : Int) ≤ (lo : Int) := by omega
  have g2 : (lo : Int) ≤ (hi : Int) := by omega
  have g3 : (hi : Int) ≤ (c : Int) := by omega
  rcases Nat.lt_or_ge lo hi with hlt | hge
  · obtain ⟨ga, oa, hA, hga, _⟩ := byte_at h (i := lo) (by omega)
    subst hA
    have hd := sl_drop h (k := lo) (by omega)
    rw [Nat.mul_one] at hd
    have hsub := sl_take hd (k := hi - lo) (by simp; omega)
    refine ⟨some ⟨ga, oa + lo, none⟩, c - lo, fun w' => ?_, hsub⟩
    have g4 : ¬ c = lo := by omega
    clear h hd hsub
    go_simp
  · obtain rfl : lo = hi := by omega
    by_cases g4 : c = lo
    · refine ⟨a, c - lo, fun w' => ?_, empty_bytes (by simp) (by omega) (by omega)⟩
      clear h
      subst g4
      go_simp
    · refine ⟨a.map (·.add (lo * 1)), c - lo, fun w' => ?_, empty_bytes (by simp) (by omega) (by omega)⟩
      clear h
      go_simp
theorem cut_to {S : Nat → Prop} {w : World} {a : Option Addr} {B : List UInt8} {c : Nat} (h : rBytes.r S w [.slice a B.length c] B) {lo : Nat} (h1 : lo ≤ B.length) :
    ∃ A' c', (∀ w' : World, (Instr.slice 28 (.slice a B.length c) (some (.int .i64 (lo : Int))) none none).run Tryz.prog w' = .ok (.slice A' (B.length - lo) c') w') ∧ rBytes.r S w [.slice A' (B.length - lo) c'] (B.drop lo) := by
  obtain ⟨_, hm, hc, hcm⟩ := sl_len h
  have g1 : (0 : Int) ≤ (lo : Int) := by omega
  have g2 : (lo : Int) ≤ (B.length : Int) := by omega
  rcases Nat.lt_or_ge lo B.length with hlt | hge
  · obtain ⟨ga, oa, hA, hga, _⟩ := byte_at h (i := lo) (by omega)
    subst hA
    have hd := sl_drop h (k := lo) (by omega)
    rw [Nat.mul_one] at hd
    refine ⟨some ⟨ga, oa + lo, none⟩, c - lo, fun w' => ?_, hd⟩
    have g4 : ¬ c = lo := by omega
    clear h hd
    go_simp
  · obtain rfl : lo = B.length := by omega
    by_cases g4 : c = B.length
    · refine ⟨a, c - B.length, fun w' => ?_, empty_bytes (by simp) (by omega) (by omega)⟩
      clear h
      subst g4
      go_simp
    · refine ⟨a.map (·.add (B.length * 1)), c - B.length, fun w' => ?_, empty_bytes (by simp) (by omega) (by omega)⟩
      clear h
      go_simp
end Go.Proofs.YtkipiefcnjfdjaaGreat
namespace Go.Proofs.YtkipiefcnjfdjaaGreat
open Go.RowKit Go.Bs Go.Maps
set_option linter.unusedVariables false
set_option linter.unusedSimpArgs false

theorem fault_good (w : World) (k f : Int) : Calls Tryz.prog 105 #[.agg #[.int .i64 k, .int .i64 f]] w fun r w' => r = .returned (.bool (decide (k = 0))) ∧ Below w.heap.size w w' := by
  go_enter Tryz.func105, Tryz.ntmps105
  go_wp2
  go_ret
  exact ⟨by first | rfl | simp, by (repeat (first | exact Below.refl _ _ | assumption | (refine below_alloc ?_ _) | (refine Below.setCell ?_ (by first | omega | (simp; done) | (simp; omega)) _) | (refine Below.drew ?_) | (refine below_drewN ?_ _) | (refine below_then (by assumption) ?_)))⟩
theorem fault_at (w : World) (k f : Int) (hk : k ≠ 0) : Calls Tryz.prog 103 #[.int .i64 k, .int .i64 f] w fun r w' => r = .returned (.agg #[.int .i64 k, .int .i64 f]) ∧ Below w.heap.size w w' := by
  have d1 : (k == (0 : Int)) = false := by simp [hk]
  go_enter Tryz.func103, Tryz.ntmps103
  go_wp2
  refine bodyPost_ret (v := .agg #[.int .i64 k, .int .i64 f]) (by simp [results, Tryz.results103, go_sem]) rfl ⟨rfl, by (repeat (first | exact Below.refl _ _ | assumption | (refine below_alloc ?_ _) | (refine Below.setCell ?_ (by first | omega | (simp; done) | (simp; omega)) _) | (refine Below.drew ?_) | (refine below_drewN ?_ _) | (refine below_then (by assumption) ?_)))⟩
set_option maxRecDepth 100000 in
theorem rd_new (w : World) (B : List UInt8) (a : Option Addr) (n c : Nat) (hl : rBytes.r (· < w.heap.size) w [.slice a n c] B) :
    Calls Tryz.prog 30 #[.slice a n c] w fun r w' => r = .returned (.pointer (some ⟨w.heap.size, 0, none⟩)) ∧ RdAt w' w.heap.size B a ⟨0, 0, 0⟩ ∧ Below w.heap.size w w' := by
  obtain ⟨rfl, hm, hc, hcm⟩ := sl_len hl
  have hD : rBytes.r (fun q => q < w.heap.size) w [.slice a B.length B.length] B := by
    obtain ⟨a', c', e, h1, h2, h3⟩ := hl
    simp at e
    obtain ⟨rfl, rfl⟩ := e
    exact rSl_mk rfl (Nat.le_refl _) (by simp [maxLen]; omega) h3
  have HD := hid hD
  have g1 : (B.length : Int) ≤ (c : Int) := by omega
  clear hl hD
  go_enter Tryz.func30, Tryz.ntmps30
  go_wp2
  go_ret
  refine ⟨rfl, ⟨by (repeat (first | assumption | exact Blk.newAt _ _ _ (by first | (simp; done) | (simp; omega)) | refine Blk.alloc ?_ _ | refine Blk.drew ?_ | refine Blk.drewN ?_ _ | refine Blk.far ?_ (by first | (simp; done) | (simp; omega)) _)), ?_, ⟨Nat.zero_le _, fun _ => rfl⟩⟩, by (repeat (first | exact Below.refl _ _ | assumption | (refine below_alloc ?_ _) | (refine Below.setCell ?_ (by first | omega | (simp; done) | (simp; omega)) _) | (refine Below.drew ?_) | (refine below_drewN ?_ _) | (refine below_then (by assumption) ?_)))⟩
  exact rBytes.mono (rBytes.keep HD.out fun q hq => Below.heap_alloc _ _ q hq) fun q hq => ⟨by simp; omega, by omega⟩
set_option maxRecDepth 100000 in
theorem rd_good (w : World) {g : Nat} {B : List UInt8} {a : Option Addr} {s : Rs} (h : RdAt w g B a s) : Calls Tryz.prog 96 #[.pointer (some ⟨g, 0, none⟩)] w fun r w' => r = .returned (.bool (decide (s.k = 0))) ∧ Below w.heap.size w w' := by
  have c2 : w.cell? ⟨g, 2, none⟩ = some (.int .i64 s.k) := h.blk.cell 2
  have c3 : w.cell? ⟨g, 3, none⟩ = some (.int .i64 s.f) := h.blk.cell 3
  clear h
  go_enter Tryz.func96, Tryz.ntmps96
  go_wp2_with fail
  refine (fault_good w s.k s.f).mono ?_
  rintro r w1 ⟨rfl, hb⟩
  go_wp2
  go_ret
  exact ⟨rfl, hb⟩
set_option maxRecDepth 100000 in
theorem rd_fail (w : World) {g : Nat} {B : List UInt8} {a : Option Addr} {s : Rs} (h : RdAt w g B a s) (k f : Int) (hk : k ≠ 0) : Calls Tryz.prog 153 #[.pointer (some ⟨g, 0, none⟩), .int .i64 k, .int .i64 f] w fun r w' => r = .returned (.tuple #[]) ∧ RdStep w g B a (s.fail k f) w' := by
  have HG := hid (rd_good w h)
  have HH := hid h
  by_cases h0 : s.k = 0
  · have e : s.fail k f = ⟨s.p, k, f⟩ := by unfold Rs.fail; rw [if_pos h0]
    have hr : decide (s.k = 0) = true := decide_eq_true h0
    rw [hr] at HG
    rw [e]
    clear h h0 hr e
    go_enter Tryz.func153, Tryz.ntmps153
    go_wp2_with fail
    refine HG.out.mono ?_
    rintro r w1 ⟨rfl, hb⟩
    go_wp2_with fail
    refine (fault_at w1 k f hk).mono ?_
    rintro r w2 ⟨rfl, hb2⟩
    have hb12 := below_then hb2 hb
    have h2 := HH.out.later hb12
    have f2 := h2.blk.free 2
    have f3 := h2.blk.free 3
    have c2 := h2.blk.cell 2
    have c3 := h2.blk.cell 3
    have lt := h2.blk.lt
    simp at c2 c3
    have H2 := hid h2
    have hst : RdStep w2 g B a ⟨s.p, k, f⟩ ((w2.setCell ⟨g, 2, none⟩ (.int .i64 k)).setCell ⟨g, 3, none⟩ (.int .i64 f)) := by
      refine ⟨⟨(h2.blk.set 2 _).set 3 _, ?_, h2.ok.le, fun e => absurd e hk⟩, Tch.setCell (F := (· = g)) (Tch.setCell (F := (· = g)) (Tch.refl _ _) (fun _ => rfl) _) (fun _ => rfl) _⟩
      refine rBytes.mono (rBytes.keep h2.dat fun q hq => ?_) fun q hq => ⟨by simp [World.setCell]; exact hq.1, hq.2⟩
      rw [Below.heap_setCell _ _ _ _ (fun e => hq.2 e), Below.heap_setCell _ _ _ _ (fun e => hq.2 e)]
    have HST := hid (RdStep.trans (Tch.of_later (F := (· = g)) hb12) hst)
    clear h2 hst
    go_wp2
    go_end0
    exact ⟨rfl, HST.out⟩
  · have e : s.fail k f = s := by unfold Rs.fail; rw [if_neg h0]
    have hr : decide (s.k = 0) = false := decide_eq_false h0
    rw [hr] at HG
    rw [e]
    clear h h0 hr e
    go_enter Tryz.func153, Tryz.ntmps153
    go_wp2_with fail
    refine HG.out.mono ?_
    rintro r w1 ⟨rfl, hb⟩
    go_wp2
    go_end0
    exact ⟨rfl, RdStep.later HH.out hb⟩
set_option maxRecDepth 100000 in
theorem rd_fault (w : World) {g : Nat} {B : List UInt8} {a : Option Addr} {s : Rs} (h : RdAt w g B a s) : Calls Tryz.prog 34 #[.pointer (some ⟨g, 0, none⟩)] w fun r w' => r = .returned (.agg #[.int .i64 s.k, .int .i64 s.f]) ∧ Below w.heap.size w w' := by
  have c2 : w.cell? ⟨g, 2, none⟩ = some (.int .i64 s.k) := h.blk.cell 2
  have c3 : w.cell? ⟨g, 3, none⟩ = some (.int .i64 s.f) := h.blk.cell 3
  have lt := h.blk.lt
  clear h
  go_enter Tryz.func34, Tryz.ntmps34
  go_wp2
  refine bodyPost_ret (v := .agg #[.int .i64 s.k, .int .i64 s.f]) (by simp [results, Tryz.results34, go_sem]) rfl ⟨rfl, by (repeat (first | exact Below.refl _ _ | assumption | (refine below_alloc ?_ _) | (refine Below.setCell ?_ (by first | omega | (simp; done) | (simp; omega)) _) | (refine Below.drew ?_) | (refine below_drewN ?_ _) | (refine below_then (by assumption) ?_)))⟩
theorem rd_at (w : World) {g : Nat} {B : List UInt8} {a : Option Addr} {s : Rs} (h : RdAt w g B a s) : Calls Tryz.prog 151 #[.pointer (some ⟨g, 0, none⟩)] w fun r w' => r = .returned (.int .i64 (s.p : Int)) ∧ w = w' := by
  have c1 : w.cell? ⟨g, 1, none⟩ = some (.int .i64 (s.p : Int)) := h.blk.cell 1
  clear h
  go_enter Tryz.func151, Tryz.ntmps151
  go_wp2
  go_ret
  exact ⟨rfl, rfl⟩
theorem rd_left (w : World) {g : Nat} {B : List UInt8} {a : Option Addr} {s : Rs} (h : RdAt w g B a s) : Calls Tryz.prog 169 #[.pointer (some ⟨g, 0, none⟩)] w fun r w' => r = .returned (.int .i64 ((B.length : Int) - (s.p : Int))) ∧ Below w.heap.size w w' := by
  have C0 := fun s : Later w => s.cell (h.blk.cell 0)
  have C1 := fun s : Later w => s.cell (h.blk.cell 1)
  simp at C0 C1
  have hle := h.ok.le
  have hle2 := h.len
  clear h
  go_enter Tryz.func169, Tryz.ntmps169
  go_wp2_with fail
  refine wp_region_later (by kernel_rfl) (by kernel_rfl) ?_
  repeat (go_big_quiet_step (fail))
  refine wpQuiet_nil ?_
  rintro W5 ⟨⟨W5', hb5⟩, rfl⟩
  go_wp2
  go_ret
  exact ⟨by first | rfl | simp, hb5⟩

set_option maxRecDepth 100000 in
theorem rd_skip (w : World) {g : Nat} {B : List UInt8} {a : Option Addr} {s : Rs} (h : RdAt w g B a s) (n : Int) (hn : n ≤ 9223372036854775807) : Calls Tryz.prog 212 #[.pointer (some ⟨g, 0, none⟩), .int .i64 n] w fun r w' => r = .returned (.bool (s.skip B.length n).1) ∧ RdStep w g B a (s.skip B.length n).2 w' := by
  have HG := hid (rd_good w h)
  have HH := hid h
  have hle := h.ok.le
  have hle2 := h.len
  by_cases h0 : s.k = 0
  · have hr : decide (s.k = 0) = true := decide_eq_true h0
    rw [hr] at HG
    by_cases h1 : n < 0
    · have e : s.skip B.length n = (false, ⟨s.p, 17, s.p⟩) := by unfold Rs.skip; rw [if_pos h0, if_pos h1]
      have ef : s.fail 17 s.p = ⟨s.p, 17, s.p⟩ := by unfold Rs.fail; rw [if_pos h0]
      have d1 : decide (n < (0 : Int)) = true := decide_eq_true h1
      rw [e]
      dsimp only
      rw [← ef]
      clear h h0 hr e ef
      go_enter Tryz.func212, Tryz.ntmps212
      go_wp2_with fail
      refine HG.out.mono ?_
      rintro r w1 ⟨rfl, hb⟩
      have hh1 := HH.out.later hb
      have c1 := hh1.blk.cell 1
      simp at c1
      have HF := hid (rd_fail w1 hh1 17 s.p (by omega))
      clear hh1
      go_wp2_with fail
      refine HF.out.mono ?_
      rintro r w2 ⟨rfl, hst⟩
      have HST := hid (RdStep.trans (Tch.of_later (F := (· = g)) hb) hst)
      clear hst
      go_wp2
      go_ret
      exact ⟨rfl, HST.out⟩
    · have d1 : decide (n < (0 : Int)) = false := decide_eq_false h1
      by_cases h2 : (B.length : Int) - s.p < n
      · have e : s.skip B.length n = (false, ⟨s.p, 1, B.length⟩) := by unfold Rs.skip; rw [if_pos h0, if_neg h1, if_pos h2]
        have ef : s.fail 1 B.length = ⟨s.p, 1, B.length⟩ := by unfold Rs.fail; rw [if_pos h0]
        have d2 : decide ((B.length : Int) - (s.p : Int) < n) = true := decide_eq_true h2
        rw [e]
        dsimp only
        rw [← ef]
        clear h h0 hr e ef
        go_enter Tryz.func212, Tryz.ntmps212
        go_wp2_with fail
        refine HG.out.mono ?_
        rintro r w1 ⟨rfl, hb⟩
        have hh1 := HH.out.later hb
        have HL := hid (rd_left w1 hh1)
        go_wp2_with fail
        refine HL.out.mono ?_
        rintro r w2 ⟨rfl, hb2⟩
        have hb12 := below_then hb2 hb
        have hh2 := HH.out.later hb12
        have c0 := hh2.blk.cell 0
        simp at c0
        have HF := hid (rd_fail w2 hh2 1 B.length (by omega))
        clear hh1 hh2
        go_wp2_with fail
        refine HF.out.mono ?_
        rintro r w3 ⟨rfl, hst⟩
        have HST := hid (RdStep.trans (Tch.of_later (F := (· = g)) hb12) hst)
        clear hst
        go_wp2
        go_ret
        exact ⟨rfl, HST.out⟩
      · have e : s.skip B.length n = (true, ⟨s.p + n.toNat, 0, 0⟩) := by unfold Rs.skip; rw [if_pos h0, if_neg h1, if_neg h2]
        have d2 : decide ((B.length : Int) - (s.p : Int) < n) = false := decide_eq_false h2
        have hz := h.ok.zero h0
        rw [e]
        obtain ⟨m, rfl⟩ : ∃ m : Nat, n = m := ⟨n.toNat, by omega⟩
        have e1 : ((m : Int)).toNat = m := by omega
        rw [e1]
        have hle3 : s.p + m ≤ B.length := by omega
        have HZ := hid hz; have H0 := hid h0
        clear h h0 hr e e1 hz
        go_enter Tryz.func212, Tryz.ntmps212
        go_wp2_with fail
        refine HG.out.mono ?_
        rintro r w1 ⟨rfl, hb⟩
        have hh1 := HH.out.later hb
        have HL := hid (rd_left w1 hh1)
        go_wp2_with fail
        refine HL.out.mono ?_
        rintro r w2 ⟨rfl, hb2⟩
        have hb12 := below_then hb2 hb
        have hh2 := HH.out.later hb12
        have c1 := hh2.blk.cell 1
        have f1 := hh2.blk.free 1
        have lt := hh2.blk.lt
        simp at c1
        have hst : RdStep w2 g B a ⟨s.p + m, 0, 0⟩ (w2.setCell ⟨g, 1, none⟩ (.int .i64 ((s.p : Int) + (m : Int)))) := by
          refine ⟨⟨?_, ?_, hle3, fun _ => rfl⟩, Tch.setCell (F := (· = g)) (Tch.refl _ _) (fun _ => rfl) _⟩
          · have := hh2.blk.set 1 (.int .i64 ((s.p : Int) + (m : Int)))
            rw [H0.out, HZ.out] at this
            simpa using this
          · refine rBytes.mono (rBytes.keep hh2.dat fun q hq => ?_) fun q hq => ⟨by simp [World.setCell]; exact hq.1, hq.2⟩
            rw [Below.heap_setCell _ _ _ _ (fun e => hq.2 e)]
        have HST := hid (RdStep.trans (Tch.of_later (F := (· = g)) hb12) hst)
        clear hh1 hh2 hst
        go_wp2
        go_ret
        exact ⟨rfl, HST.out⟩
  · have e : s.skip B.length n = (false, s) := by unfold Rs.skip; rw [if_neg h0]
    have hr : decide (s.k = 0) = false := decide_eq_false h0
    rw [hr] at HG
    rw [e]
    clear h h0 hr e
    go_enter Tryz.func212, Tryz.ntmps212
    go_wp2_with fail
    refine HG.out.mono ?_
    rintro r w1 ⟨rfl, hb⟩
    go_wp2
    go_ret
    exact ⟨rfl, RdStep.later HH.out hb⟩
end Go.Proofs.YtkipiefcnjfdjaaGreat
namespace Go.Proofs.YtkipiefcnjfdjaaGreat
open Go.RowKit Go.Bs Go.Maps
set_option linter.unusedVariables false
set_option linter.unusedSimpArgs false

theorem Rs.skip_true {s : Rs} {L : Nat} {n : Int} (h : (s.skip L n).1 = true) : s.k = 0 ∧ 0 ≤ n ∧ n ≤ (L : Int) - s.p ∧ (s.skip L n).2 = ⟨s.p + n.toNat, 0, 0⟩ := by
  unfold Rs.skip at *
  split at h
  · rename_i h0
    split at h
    · simp at h
    · split at h
      · simp at h
      · rename_i h1 h2
        exact ⟨h0, by omega, by omega, by rw [if_pos h0, if_neg h1, if_neg h2]⟩
  · simp at h
theorem Rs.skip_false {s : Rs} {L : Nat} {n : Int} (h : (s.skip L n).1 = false) : (s.skip L n).2.k ≠ 0 ∧ (s.skip L n).2.p = s.p := by
  unfold Rs.skip at *
  split at h
  · rename_i h0
    split at h
    · rename_i h1
      rw [if_pos h0, if_pos h1]; simp
    · rename_i h1
      split at h
      · rename_i h2
        rw [if_pos h0, if_neg h1, if_pos h2]; simp
      · simp at h
  · rename_i h0
    rw [if_neg h0]; exact ⟨h0, rfl⟩

set_option maxRecDepth 100000 in
theorem rd_byte (w : World) {g : Nat} {B : List UInt8} {a : Option Addr} {s : Rs} (h : RdAt w g B a s) : Calls Tryz.prog 157 #[.pointer (some ⟨g, 0, none⟩)] w fun r w' => r = .returned (.int .u8 ((s.byte B).2.toNat : Int)) ∧ RdStep w g B a (s.byte B).1 w' := by
  have HS := hid (rd_skip w h 1 (by omega))
  have hle2 := h.len
  unfold Rs.byte
  cases hk : (s.skip B.length 1).1
  · rw [hk] at HS
    generalize (s.skip B.length 1).2 = s1 at *
    clear h hk
    go_enter Tryz.func157, Tryz.ntmps157
    go_wp2_with fail
    refine HS.out.mono ?_
    rintro r w1 ⟨rfl, hst⟩
    have HST := hid hst
    clear hst
    go_wp2
    go_ret
    exact ⟨rfl, HST.out⟩
  · obtain ⟨h0, _, h2, h3⟩ := Rs.skip_true hk
    rw [hk, h3] at HS
    rw [h3]
    have hp : s.p < B.length := by omega
    have hbd : B.getD s.p 0 = B[s.p] := by simp [hp]
    simp only [if_true]
    rw [hbd]
    generalize hx : B[s.p] = x
    have HX := hid hx
    rw [show s.p + (1 : Int).toNat = s.p + 1 by omega] at *
    clear h hk h0 h2 h3 hbd hx
    go_enter Tryz.func157, Tryz.ntmps157
    go_wp2_with fail
    refine HS.out.mono ?_
    rintro r w1 ⟨rfl, hst⟩
    obtain ⟨ga, oa, hA, hga, hc⟩ := byte_at hst.1.dat hp
    rw [HX.out] at hc
    subst hA
    have c1 := hst.1.blk.cell 1
    simp at c1
    have C0 := fun s : Later w1 => s.cell (hst.1.blk.cell 0)
    have C1 := fun s : Later w1 => s.cell c1
    have CB := fun s : Later w1 => s.cell hc
    simp at C0
    have HST := hid hst
    clear hst hc c1
    have i1 : (s.p : Int) < (B.length : Int) := by omega
    have i2 : (0 : Int) ≤ (s.p : Int) := by omega
    have hb1 : (s.p : Int) ≤ 9223372036854775807 := by omega
    go_wp2_with fail
    have i3 : wrap64 (s.p : Int) = s.p := by simp only [wrap64]; omega
    refine wp_region_later (by kernel_rfl) (by kernel_rfl) ?_
    repeat (go_big_quiet_step (fail))
    refine wpQuiet_nil ?_
    clear i3
    rintro W5 ⟨⟨W5', hb5⟩, rfl⟩
    go_wp2
    go_ret
    exact ⟨rfl, HST.out.then hb5⟩

set_option maxRecDepth 100000 in
set_option maxHeartbeats 1600000 in
theorem rd_take (w : World) {g : Nat} {B : List UInt8} {a : Option Addr} {s : Rs} (h : RdAt w g B a s) (n : Int) (hn : n ≤ 9223372036854775807) (hB : B.length ≤ 1000000000000) : Calls Tryz.prog 158 #[.pointer (some ⟨g, 0, none⟩), .int .i64 n] w fun r w' => ∃ v, r = .returned v ∧ rBytes.r (fun q => w.heap.size ≤ q ∧ q < w'.heap.size) w' [v] (s.take B n).2 ∧ RdStep w g B a (s.take B n).1 w' := by
  have HS := hid (rd_skip w h n hn)
  unfold Rs.take
  cases hk : (s.skip B.length n).1
  · rw [hk] at HS
    generalize (s.skip B.length n).2 = s1 at *
    clear h hk
    go_enter Tryz.func158, Tryz.ntmps158
    go_wp2_with fail
    refine HS.out.mono ?_
    rintro r w1 ⟨rfl, hst⟩
    have HST := hid hst
    clear hst
    go_wp2
    go_ret
    exact ⟨_, rfl, empty_bytes rfl rfl (by omega), HST.out⟩
  · obtain ⟨h0, h1, h2, h3⟩ := Rs.skip_true hk
    rw [hk, h3] at HS
    rw [h3]
    obtain ⟨m, rfl⟩ : ∃ m : Nat, n = m := ⟨n.toNat, by omega⟩
    rw [show ((m : Int)).toNat = m by omega] at *
    obtain ⟨i0, hi, hz0, hz1, hz2⟩ := info_parts info8
    have hp : s.p + m ≤ B.length := by have := h.ok.le; omega
    simp only [if_true]
    clear h hk h0 h1 h2 h3
    go_enter Tryz.func158, Tryz.ntmps158
    go_wp2_with fail
    refine HS.out.mono ?_
    rintro r w1 ⟨rfl, hst⟩
    obtain ⟨aD, cD, hsl, hsub⟩ := cut_bytes hst.1.dat (lo := s.p) (hi := s.p + m) (by omega) hp
    have hlD : ((B.drop s.p).take (s.p + m - s.p)).length = m := by simp; omega
    rw [show s.p + m - s.p = m by omega] at hsl hsub hlD
    generalize hDe : (B.drop s.p).take m = D at *
    have HDE := hid hDe
    clear hDe
    have hDm : m = D.length := hlD.symm
    obtain ⟨P1, hP1⟩ : ∃ P1 : Nat, P1 = s.p + m := ⟨_, rfl⟩
    rw [← hP1, show (s.p : Int) = (P1 : Int) - (m : Int) by omega] at hsl
    have HSB := hid (fun (W : World) (hW : Below w1.heap.size w1 W) => src_bytes (l := D) (lift (w := w1) (A := rBytes) (cs := [.slice aD D.length cD]) (by rw [← hDm]; exact rBytes.mono hsub fun q hq => hq.1) hW))
    have HONE := hid (byteCells_one D)
    have c1 := hst.1.blk.cell 1
    have c0 := hst.1.blk.cell 0
    simp at c0
    rw [← hP1] at c1 hst hp
    simp at c1
    have lt := hst.1.blk.lt
    have HST := hid hst
    have HDM := hid hDm
    have hs1 := hst.size
    have HP1 := hid hP1
    have hPm : m ≤ P1 := by omega
    clear hst hsub hlD hDm hP1
    have hb1 : (P1 : Int) ≤ 9223372036854775807 := by omega
    go_wp2_with fail
    have j1 : IntKind.i64.wrap ((P1 : Int) - (m : Int)) = (P1 : Int) - (m : Int) := IntWalk.i64_in _ (by omega)
    go_region_held3 (fun w' => w'.cell? ⟨g, 0, none⟩ = some (.slice a B.length B.length) ∧ w'.cell? ⟨g, 1, none⟩ = some (.int .i64 (P1 : Int))) (((try dsimp only); refine ⟨?_, ?_⟩ <;> (first | assumption | (go_keep; done))))
      ((go_loud (refine step_append_src (by rfl) _ _ _ (by rfl) w1.heap.size 5 i0 (.int .u8 0) 1 1 Tryz.underlying28 hi hz0 hz1 hz2 rfl (by decide) _ 0 [] (by rfl) (own_empty _ (by simp) (by rfl)) aD m cD (byteCells D) (by rfl) (by rw [HDM.out]; exact HSB.out _ (by (repeat (first | exact Below.refl _ _ | assumption | (refine below_alloc ?_ _) | (refine Below.setCell ?_ (by first | omega | (simp; done) | (simp; omega)) _) | (refine Below.drew ?_) | (refine below_drewN ?_ _) | (refine below_then (by assumption) ?_))))) HONE.out (by clear j1; simp only [maxLen]; omega) (by clear j1; omega) (by simp) ?_; intro a5 c5 w5 hown5 hgrow5 hat5; rw [Nat.zero_add] at hown5; have k5 : Below w1.heap.size w1 w5 := Below.grown (by (repeat (first | exact Below.refl _ _ | assumption | (refine below_alloc ?_ _) | (refine Below.setCell ?_ (by first | omega | (simp; done) | (simp; omega)) _) | (refine Below.drew ?_) | (refine below_drewN ?_ _) | (refine below_then (by assumption) ?_)))) hgrow5 (by simp) (fun g e => by { have e' : some w1.heap.size = some g := e; injection e' with e'; clear j1; omega }); have e0 := (k5.cell (p := ⟨g, 0, none⟩) lt).trans c0; have e1 := (k5.cell (p := ⟨g, 1, none⟩) lt).trans c1; have HK5 := hid k5; have HO5 := hid hown5; clear hown5 hgrow5 hat5 k5)))
    all_goals
      clear j1
      have ho := HO5.out
      rw [List.nil_append] at ho
      have hA := own_bytes2 HDM.out ho
      have HA := hid hA
      clear ho hA
      go_wp2
      go_ret
      refine ⟨_, rfl, ?_, ?_⟩
      · rw [HDE.out]
        exact rBytes.mono HA.out fun q hq => ⟨by omega, hq.2⟩
      · rw [← HP1.out]
        exact HST.out.then HK5.out

set_option maxRecDepth 100000 in
set_option maxHeartbeats 1600000 in
theorem rd_since (w : World) {g : Nat} {B : List UInt8} {a : Option Addr} {s : Rs} (h : RdAt w g B a s) (at_ : Nat) (hat : at_ ≤ s.p) (hB : B.length ≤ 1000000000000) : Calls Tryz.prog 162 #[.pointer (some ⟨g, 0, none⟩), .int .i64 (at_ : Int)] w fun r w' => ∃ v, r = .returned v ∧ rBytes.r (fun q => w.heap.size ≤ q ∧ q < w'.heap.size) w' [v] ((B.drop at_).take (s.p - at_)) ∧ Below w.heap.size w w' := by
  obtain ⟨i0, hi, hz0, hz1, hz2⟩ := info_parts info8
  have hp : s.p ≤ B.length := h.ok.le
  obtain ⟨aD, cD, hsl, hsub⟩ := cut_bytes h.dat (lo := at_) (hi := s.p) hat hp
  have hlD : ((B.drop at_).take (s.p - at_)).length = s.p - at_ := by simp; omega
  obtain ⟨m, hm⟩ : ∃ m : Nat, m = s.p - at_ := ⟨_, rfl⟩
  rw [← hm] at hsl hsub hlD ⊢
  generalize (B.drop at_).take m = D at *
  have hDm : m = D.length := hlD.symm
  have HSB := hid (fun (W : World) (hW : Below w.heap.size w W) => src_bytes (l := D) (lift (w := w) (A := rBytes) (cs := [.slice aD D.length cD]) (by rw [← hDm]; exact rBytes.mono hsub fun q hq => hq.1) hW))
  have HONE := hid (byteCells_one D)
  have c1 := h.blk.cell 1
  have c0 := h.blk.cell 0
  simp at c0 c1
  have lt := h.blk.lt
  have HDM := hid hDm
  generalize s.p = P1 at *
  have d1 : decide ((at_ : Int) < 0) = false := decide_eq_false (by omega)
  have d2 : decide ((P1 : Int) < (at_ : Int)) = false := decide_eq_false (by omega)
  have d3 : decide (P1 < at_) = false := decide_eq_false (by omega)
  have hmB : m ≤ B.length := by omega
  clear h hsub hlD hDm hm
  go_enter Tryz.func162, Tryz.ntmps162
  go_wp2_with fail
  go_region_held3 (fun w' => w'.cell? ⟨g, 0, none⟩ = some (.slice a B.length B.length) ∧ w'.cell? ⟨g, 1, none⟩ = some (.int .i64 (P1 : Int))) (((try dsimp only); refine ⟨?_, ?_⟩ <;> (first | assumption | (go_keep; done))))
    ((go_loud (refine step_append_src (by rfl) _ _ _ (by rfl) w.heap.size 5 i0 (.int .u8 0) 1 1 Tryz.underlying28 hi hz0 hz1 hz2 rfl (by decide) _ 0 [] (by rfl) (own_empty _ (by simp) (by rfl)) aD m cD (byteCells D) (by rfl) (by rw [HDM.out]; exact HSB.out _ (by (repeat (first | exact Below.refl _ _ | assumption | (refine below_alloc ?_ _) | (refine Below.setCell ?_ (by first | omega | (simp; done) | (simp; omega)) _) | (refine Below.drew ?_) | (refine below_drewN ?_ _) | (refine below_then (by assumption) ?_))))) HONE.out (by simp only [maxLen]; omega) (by omega) (by simp) ?_; intro a5 c5 w5 hown5 hgrow5 hat5; rw [Nat.zero_add] at hown5; have k5 : Below w.heap.size w w5 := Below.grown (by (repeat (first | exact Below.refl _ _ | assumption | (refine below_alloc ?_ _) | (refine Below.setCell ?_ (by first | omega | (simp; done) | (simp; omega)) _) | (refine Below.drew ?_) | (refine below_drewN ?_ _) | (refine below_then (by assumption) ?_)))) hgrow5 (by simp) (fun g e => by { have e' : some w.heap.size = some g := e; injection e' with e'; omega }); have e0 := (k5.cell (p := ⟨g, 0, none⟩) lt).trans c0; have e1 := (k5.cell (p := ⟨g, 1, none⟩) lt).trans c1; have HK5 := hid k5; have HO5 := hid hown5; clear hown5 hgrow5 hat5 k5)))
  all_goals
    have ho := HO5.out
    rw [List.nil_append] at ho
    have hA := own_bytes2 HDM.out ho
    have HA := hid hA
    clear ho hA
    go_wp2
    go_ret
    exact ⟨_, rfl, HA.out, HK5.out⟩
end Go.Proofs.YtkipiefcnjfdjaaGreat
namespace Go.Proofs.YtkipiefcnjfdjaaGreat
open Go.RowKit Go.Bs Go.Maps
set_option linter.unusedVariables false
set_option linter.unusedSimpArgs false

theorem f_blk {w : World} {g : Nat} {t : TypeId} {v0 v1 : Value} (h : Blk w g t #[v0, v1]) : w.cell? ⟨g, 0, none⟩ = some v0 ∧ w.cell? ⟨g, 1, none⟩ = some v1 ∧ w.frozen? ⟨g, 0, none⟩ = false ∧ w.frozen? ⟨g, 1, none⟩ = false ∧ g < w.heap.size :=
  ⟨h.cell 0, h.cell 1, h.free 0, h.free 1, h.lt⟩
end Go.Proofs.YtkipiefcnjfdjaaGreat
namespace Go.Proofs.YtkipiefcnjfdjaaGreat
open Go.RowKit Go.Bs Go.Maps
set_option linter.unusedVariables false
set_option linter.unusedSimpArgs false

/-- The number that bytes begin with, how many were looked at, the code. -/
def vget : Nat → Nat → List UInt8 → Nat × Nat × Int
  | i, x, [] => (0, i, 1)
  | i, x, c :: l =>
    if i = 9 ∧ 1 < c.toNat then (0, i + 1, 5)
    else if 0 < i ∧ c.toNat = 0 then (0, i + 1, 4)
    else if c.toNat < 128 then (x + c.toNat * 128 ^ i, i + 1, 0)
    else vget (i + 1) (x + c.toNat % 128 * 128 ^ i) l
def Rs.num (B : List UInt8) (s : Rs) : Rs × Nat :=
  if s.k = 0 then
    let r := vget 0 0 (B.drop s.p)
    (⟨s.p + r.2.1, r.2.2, if r.2.2 = 0 then 0 else if r.2.2 = 1 then B.length else s.p + r.2.1 - 1⟩, r.1)
  else (s, 0)
theorem vget_used : ∀ (l : List UInt8) (i x : Nat), (vget i x l).2.1 ≤ i + l.length ∧ i ≤ (vget i x l).2.1 ∧ ((vget i x l).2.2 = 0 ∨ (vget i x l).2.2 = 1 ∨ (vget i x l).2.2 = 4 ∨ (vget i x l).2.2 = 5) ∧ ((vget i x l).2.2 = 1 → (vget i x l).2.1 = i + l.length) ∧ ((vget i x l).2.2 ≠ 1 → i < (vget i x l).2.1)
  | [], i, x => by simp [vget]
  | c :: l, i, x => by
    unfold vget
    split
    · simp
    · split
      · simp
      · split
        · simp
        · have := vget_used l (i + 1) (x + c.toNat % 128 * 128 ^ i)
          refine ⟨by simp; omega, by omega, this.2.2.1, fun h => by have := this.2.2.2.1 h; simp; omega, fun h => by have := this.2.2.2.2 h; omega⟩
theorem Rs.num_ok {B : List UInt8} {s : Rs} (h : s.ok B.length) : (s.num B).1.ok B.length := by
  unfold Rs.num
  split
  · have := vget_used (B.drop s.p) 0 0
    have hl : (B.drop s.p).length = B.length - s.p := by simp
    refine ⟨by dsimp only; have := h.le; omega, fun e => by dsimp only at e ⊢; rw [if_pos e]⟩
  · exact h
theorem Rs.num_p {B : List UInt8} {s : Rs} : s.p ≤ (s.num B).1.p := by
  unfold Rs.num
  split
  · dsimp only; omega
  · exact Nat.le_refl _
theorem Rs.num_bad {B : List UInt8} {s : Rs} (h : (s.num B).1.k ≠ 0) : (s.num B).2 = 0 := by
  have key : ∀ (l : List UInt8) (i x : Nat), (vget i x l).2.2 ≠ 0 → (vget i x l).1 = 0 := by
    intro l
    induction l with
    | nil => intro i x h; rfl
    | cons c l ih =>
      intro i x h
      unfold vget at h ⊢
      split
      · rfl
      · rename_i h1
        rw [if_neg h1] at h
        split
        · rfl
        · rename_i h2
          rw [if_neg h2] at h
          split
          · rename_i h3
            rw [if_pos h3] at h; simp at h
          · rename_i h3
            rw [if_neg h3] at h
            exact ih _ _ h
  unfold Rs.num at *
  split
  · rename_i h0
    rw [if_pos h0] at h
    exact key _ _ _ h
  · rfl
theorem vget_small : ∀ (l : List UInt8) (i x : Nat), i ≤ 9 → x < 128 ^ i → (vget i x l).1 < 18446744073709551616
  | [], i, x, _, _ => by simp [vget]
  | c :: l, i, x, hi, hx => by
    unfold vget
    have hc := c.toNat_lt
    split
    · simp
    · rename_i h9
      split
      · simp
      · split
        · rename_i h3
          dsimp only
          by_cases h : i = 9
          · subst h
            have : c.toNat ≤ 1 := by omega
            have h1 : c.toNat * 128 ^ 9 ≤ 1 * 128 ^ 9 := Nat.mul_le_mul_right _ this
            have h2 : (128 : Nat) ^ 9 = 9223372036854775808 := by decide
            rw [h2] at *
            omega
          · have h1 : c.toNat * 128 ^ i ≤ 127 * 128 ^ i := Nat.mul_le_mul_right _ (by omega)
            have h2 : (128 : Nat) ^ i ≤ 128 ^ 8 := Nat.pow_le_pow_right (by omega) (by omega)
            have h3 : (128 : Nat) ^ 8 = 72057594037927936 := by decide
            rw [h3] at h2
            omega
        · rename_i h3
          have h9' : i ≠ 9 := fun e => h9 ⟨e, by omega⟩
          refine vget_small l (i + 1) _ (by omega) ?_
          have h1 : c.toNat % 128 * 128 ^ i ≤ 127 * 128 ^ i := Nat.mul_le_mul_right _ (by omega)
          rw [Nat.pow_succ]
          omega
theorem Rs.num_small {B : List UInt8} {s : Rs} : (s.num B).2 < 18446744073709551616 := by
  unfold Rs.num
  split
  · exact vget_small _ 0 0 (by omega) (by simp)
  · simp
end Go.Proofs.YtkipiefcnjfdjaaGreat
namespace Go.Bs
open Go.RowKit
set_option linter.unusedVariables false

/-- As Q; by a goto to any label l: J l. -/
def manyX (J : Nat → Act → World → Prop) (Q : Exit → Act → World → Prop) : Exit → Act → World → Prop
  | .goto l, a, w => J l a w
  | e, a, w => Q e a w
section
variable {P : Program} {a : Act} {w : World} {Q : Exit → Act → World → Prop}
theorem wp_scope_many {c : Code} (J : Nat → Act → World → Prop) (μ : Nat → Act → World → Nat)
    (pass : ∀ l a w, J l a w → ∃ rest, findLabel c l = some rest ∧ rest.wp P (manyX (fun l' a' w' => J l' a' w' ∧ μ l' a' w' < μ l a w) Q) a w)
    (first : c.wp P (manyX J Q) a w) : (Code.scope c).wp P Q a w := by
  intro b k cs
  have hg : ∀ {l rest}, findLabel c l = some rest → gotoIn l (.inScope c :: k) = some (.code rest :: .inScope c :: k) := fun hf => by simp [gotoIn, hf]
  have key : ∀ n l a w rest, findLabel c l = some rest → μ l a w = n → J l a w → ∃ e a' w', Q e a' w' ∧ Arrives P (lone (b.at a (.code rest :: .inScope c :: k)) cs w) b k cs e a' w' := by
    intro n
    induction n using Nat.strongRecOn with
    | _ n ih =>
      intro l a w rest hf hn hJ
      obtain ⟨rest', hf', hp⟩ := pass l a w hJ
      obtain rfl : rest' = rest := Option.some.inj (hf'.symm.trans hf)
      obtain ⟨e, a₁, w₁, hq, harr⟩ := hp b (.inScope c :: k) cs
      cases e with
      | normal => exact ⟨.normal, a₁, w₁, hq, Steps.trans harr (.one step_inScope)⟩
      | exit id => exact ⟨.exit id, a₁, w₁, hq, fun k' hk => harr k' (by simp [exitTo, hk])⟩
      | goto l' =>
        obtain ⟨hJ', hlt⟩ := hq
        obtain ⟨rest2, hf2, _⟩ := pass l' a₁ w₁ hJ'
        obtain ⟨e₂, a₂, w₂, hq₂, harr₂⟩ := ih _ (by omega) l' a₁ w₁ rest2 hf2 rfl hJ'
        exact ⟨e₂, a₂, w₂, hq₂, .of_steps (harr _ (hg hf2)) harr₂⟩
      | ret => exact ⟨_, a₁, w₁, hq, harr⟩
      | panic ch => exact ⟨_, a₁, w₁, hq, harr⟩
      | outgrown => exact ⟨_, a₁, w₁, hq, harr⟩
  obtain ⟨e, a₁, w₁, hq, harr⟩ := first b (.inScope c :: k) cs
  cases e with
  | normal => exact ⟨.normal, a₁, w₁, hq, .head step_scope (Steps.trans harr (.one step_inScope))⟩
  | exit id => exact ⟨.exit id, a₁, w₁, hq, fun k' hk => .head step_scope (harr k' (by simp [exitTo, hk]))⟩
  | goto l' =>
    obtain ⟨rest2, hf2, _⟩ := pass l' a₁ w₁ hq
    obtain ⟨e₂, a₂, w₂, hq₂, harr₂⟩ := key _ l' a₁ w₁ rest2 hf2 rfl hq
    exact ⟨e₂, a₂, w₂, hq₂, .of_steps (.head step_scope (harr _ (hg hf2))) harr₂⟩
  | ret => exact ⟨_, a₁, w₁, hq, .of_steps (.one step_scope) harr⟩
  | panic ch => exact ⟨_, a₁, w₁, hq, .of_steps (.one step_scope) harr⟩
  | outgrown => exact ⟨_, a₁, w₁, hq, .of_steps (.one step_scope) harr⟩

theorem wp_skip_seq {c : Code} (h : c.wp P Q a w) : (Code.skip.seq c).wp P Q a w := wp_seq (wp_skip h)
/-- One label at which a scope's passes begin. 'first' walks up to the label alone. -/
theorem wp_scope_entry {c rest : Code} (l : Nat) (J : Act → World → Prop) (μ : Act → World → Nat) (hf : findLabel c l = some (Code.skip.seq rest))
    (pass : ∀ a w, J a w → rest.wp P (Exit.jump l (fun a' w' => J a' w' ∧ μ a' w' < μ a w) Q) a w)
    (first : ∀ K : Exit → Act → World → Prop, (∀ a w, J a w → rest.wp P K a w) → c.wp P K a w) : (Code.scope c).wp P Q a w :=
  wp_scope_jumps l J μ hf (first _ fun a w h => wp_mono (pass a w h) fun e a' w' hq => by
    cases e <;> first | exact hq | exact ⟨hq.1, hq.2.1⟩) fun a w h => wp_skip_seq (pass a w h)
/-- Two labels: the passes begin at l; label m is jumped to from there, and its code jumps no more. -/
theorem wp_scope_two {c rest rest2 : Code} (l m : Nat) (hlm : l ≠ m) (J J2 : Act → World → Prop) (μ : Act → World → Nat) (hf : findLabel c l = some (Code.skip.seq rest)) (hf2 : findLabel c m = some (Code.skip.seq rest2))
    (pass : ∀ a w, J a w → rest.wp P (manyX (fun l' a' w' => (l' = l ∧ J a' w' ∧ μ a' w' < μ a w) ∨ (l' = m ∧ J2 a' w')) Q) a w)
    (last : ∀ a w, J2 a w → rest2.wp P (manyX (fun _ _ _ => False) Q) a w)
    (first : ∀ K : Exit → Act → World → Prop, (∀ a w, J a w → rest.wp P K a w) → c.wp P K a w) : (Code.scope c).wp P Q a w := by
  refine wp_scope_many (fun l' a w => (l' = l ∧ J a w) ∨ (l' = m ∧ J2 a w)) (fun l' a w => if l' = l then μ a w + 1 else 0) ?_ ?_
  · rintro l' a w (⟨rfl, h⟩ | ⟨rfl, h⟩)
    · refine ⟨_, hf, wp_skip_seq (wp_mono (pass a w h) fun e a' w' hq => ?_)⟩
      cases e <;> first | exact hq | skip
      rcases hq with ⟨rfl, h1, h2⟩ | ⟨rfl, h1⟩
      · exact ⟨.inl ⟨rfl, h1⟩, by simp; omega⟩
      · exact ⟨.inr ⟨rfl, h1⟩, by simp [Ne.symm hlm]⟩
    · refine ⟨_, hf2, wp_skip_seq (wp_mono (last a w h) fun e a' w' hq => ?_)⟩
      cases e <;> first | exact hq | exact hq.elim
  · refine first _ fun a w h => wp_mono (pass a w h) fun e a' w' hq => ?_
    cases e <;> first | exact hq | skip
    rcases hq with ⟨rfl, h1, _⟩ | ⟨rfl, h1⟩
    · exact .inl ⟨rfl, h1⟩
    · exact .inr ⟨rfl, h1⟩
end
end Go.Bs
namespace Go.Proofs.YtkipiefcnjfdjaaGreat
open Go.RowKit Go.Bs Go.Maps
set_option linter.unusedVariables false
set_option linter.unusedSimpArgs false

def vfin (L p i : Nat) (r : Nat × Nat × Int) : Rs × Nat := (⟨p + r.2.1 - i, r.2.2, if r.2.2 = 0 then 0 else if r.2.2 = 1 then L else ((p + r.2.1 - i : Nat) : Int) - 1⟩, r.1)
def vgo (B : List UInt8) (i X : Nat) (s : Rs) : Rs × Nat := if s.k = 0 then vfin B.length s.p i (vget i X (B.drop s.p)) else (s, 0)
theorem vgo_num (B : List UInt8) (s : Rs) : vgo B 0 0 s = s.num B := by
  unfold vgo Rs.num vfin
  simp
theorem vget_cons (i x : Nat) (c : UInt8) (l : List UInt8) : vget i x (c :: l) = if i = 9 ∧ 1 < c.toNat then (0, i + 1, 5) else if 0 < i ∧ c.toNat = 0 then (0, i + 1, 4) else if c.toNat < 128 then (x + c.toNat * 128 ^ i, i + 1, 0) else vget (i + 1) (x + c.toNat % 128 * 128 ^ i) l := by rw [vget]
theorem vgo_step {B : List UInt8} {s : Rs} (hs : s.ok B.length) (i X : Nat) : vgo B i X s =
    if (s.byte B).1.k = 0 then
      (if i = 9 ∧ 1 < (s.byte B).2.toNat then ((s.byte B).1.fail 5 ((s.byte B).1.p - 1), 0)
      else if 0 < i ∧ (s.byte B).2.toNat = 0 then ((s.byte B).1.fail 4 ((s.byte B).1.p - 1), 0)
      else if (s.byte B).2.toNat < 128 then ((s.byte B).1, X + (s.byte B).2.toNat * 128 ^ i)
      else vgo B (i + 1) (X + (s.byte B).2.toNat % 128 * 128 ^ i) (s.byte B).1)
    else ((s.byte B).1, 0) := by
  have hle := hs.le
  unfold Rs.byte
  by_cases h0 : s.k = 0
  · by_cases h1 : s.p < B.length
    · have e : s.skip B.length 1 = (true, ⟨s.p + 1, 0, 0⟩) := by
        unfold Rs.skip; rw [if_pos h0, if_neg (by omega), if_neg (by omega)]; simp
      rw [e]
      have hd : B.drop s.p = B.getD s.p 0 :: B.drop (s.p + 1) := by
        rw [List.drop_eq_getElem_cons h1]; simp [h1]
      simp only [if_true]
      unfold vgo
      rw [if_pos h0, hd, vget_cons]
      have hu := (vget_used (B.drop (s.p + 1)) (i + 1) (X + (B.getD s.p 0).toNat % 128 * 128 ^ i)).2.1
      have e1 : s.p + (i + 1) - i = s.p + 1 := by omega
      split
      · simp [vfin, Rs.fail, e1]
      · split
        · simp [vfin, Rs.fail, e1]
        · split
          · simp [vfin, e1]
          · generalize vget (i + 1) (X + (B.getD s.p 0).toNat % 128 * 128 ^ i) (B.drop (s.p + 1)) = r at *
            simp only [if_true, vfin]
            rw [show s.p + r.2.1 - i = s.p + 1 + r.2.1 - (i + 1) by omega]
    · have e : s.skip B.length 1 = (false, ⟨s.p, 1, B.length⟩) := by
        unfold Rs.skip; rw [if_pos h0, if_neg (by omega), if_pos (by omega)]
      rw [e]
      have hd : B.drop s.p = [] := List.drop_eq_nil_of_le (by omega)
      unfold vgo
      rw [if_pos h0, hd]
      simp [vget, vfin]
  · have e : s.skip B.length 1 = (false, s) := by unfold Rs.skip; rw [if_neg h0]
    rw [e]
    unfold vgo
    rw [if_neg h0]
    simp [h0]

theorem or_digit {i X m : Nat} (hX : X < 128 ^ i) (hx : X < 18446744073709551616) (hm : m * 128 ^ i < 18446744073709551616) : bits .or .u64 (X : Int) ((m * 128 ^ i : Nat) : Int) = ((X + m * 128 ^ i : Nat) : Int) := by
  rw [bits_or_u64_nat _ _ hx hm]
  have h1 : (128 : Nat) ^ i = 2 ^ (7 * i) := by rw [Nat.pow_mul]
  rw [h1] at hX ⊢
  rw [Nat.or_comm, ← Nat.shiftLeft_eq, ← Nat.shiftLeft_add_eq_or_of_lt hX, Nat.add_comm]
theorem or_digit2 {i X c : Nat} (hX : X < 128 ^ i) (hx : X < 18446744073709551616) (hm : c % 128 * 128 ^ i < 18446744073709551616) : bits .or .u64 (X : Int) (IntKind.u64.wrap ((c : Int) % 128 * 2 ^ (7 * i))) = ((X + c % 128 * 128 ^ i : Nat) : Int) := by
  have e : (c : Int) % 128 * 2 ^ (7 * i) = ((c % 128 * 128 ^ i : Nat) : Int) := by
    rw [show (128 : Nat) ^ i = 2 ^ (7 * i) by rw [Nat.pow_mul]]
    simp
  rw [e, IntKind.wrap_u64, Int.emod_eq_of_lt (by omega) (by omega)]
  exact or_digit hX hx hm
theorem digit_next {i X c : Nat} (hX : X < 128 ^ i) : X + c % 128 * 128 ^ i < 128 ^ (i + 1) := by
  have h1 : c % 128 * 128 ^ i ≤ 127 * 128 ^ i := Nat.mul_le_mul_right _ (by omega)
  rw [Nat.pow_succ]
  omega
theorem digit_fits {i X c : Nat} (hi : i ≤ 9) (hX : X < 128 ^ i) (h : i = 9 → c ≤ 1) : c % 128 * 128 ^ i < 18446744073709551616 ∧ X < 18446744073709551616 := by
  by_cases h9 : i = 9
  · subst h9
    have h1 : (128 : Nat) ^ 9 = 9223372036854775808 := by decide
    rw [h1] at *
    have := h rfl
    have h2 : c % 128 * 9223372036854775808 ≤ 1 * 9223372036854775808 := Nat.mul_le_mul_right _ (by omega)
    omega
  · have h1 : (128 : Nat) ^ i ≤ 128 ^ 8 := Nat.pow_le_pow_right (by omega) (by omega)
    have h3 : (128 : Nat) ^ 8 = 72057594037927936 := by decide
    have h2 : c % 128 * 128 ^ i ≤ 127 * 128 ^ i := Nat.mul_le_mul_right _ (by omega)
    omega
theorem byte_p {B : List UInt8} {s : Rs} {q : Nat} (hp : s.p = q) (h : (s.byte B).1.k = 0) : (s.byte B).1.p = q + 1 := by
  have h' : (s.skip B.length 1).2.k = 0 := h
  cases hk : (s.skip B.length 1).1
  · exact absurd h' (Rs.skip_false hk).1
  · have := (Rs.skip_true hk).2.2.2
    show (s.skip B.length 1).2.p = _
    rw [this, hp]; rfl
set_option maxRecDepth 100000 in
set_option maxHeartbeats 3200000 in
theorem varint_read (w : World) {g : Nat} {B : List UInt8} {a : Option Addr} {s : Rs} (h : RdAt w g B a s) (hB : B.length ≤ 1000000000000) : Calls Tryz.prog 210 #[.pointer (some ⟨g, 0, none⟩)] w fun r w' => r = .returned (.int .u64 ((s.num B).2 : Int)) ∧ RdStep w g B a (s.num B).1 w' := by
  have HH := hid h
  have HA := hid (rd_at w h)
  have hpL := h.ok.le
  clear h
  go_enter Tryz.func210, Tryz.ntmps210
  go_wp2
  refine wp_scope_entry 0 (fun a' W => ∃ (i X : Nat) (s' : Rs) (rest : Hid (vgo B i X s' = s.num B)) (u1 u4 u7 u8 u9 u10 u11 u12 u13 u14 u15 u16 u17 u18 u19 u20 u21 u22 u23 u24 u25 u26 u27 u28 u29 u30 u31 u32 u33 u34 u35 u36 u37 u38 u39 u40 u41 u42 u43 u44 u45 u46 u47 u48 u49 u50 u51 u52 u53 : Value), RdStep w g B a s' W ∧ s'.p = s.p + i ∧ i ≤ 9 ∧ X < 128 ^ i ∧ a' = { tmps := #[.pointer (some ⟨g, 0, none⟩), u1, .int .u64 0, .int .u64 (X : Int), u4, .int .i64 (7 * (i : Int)), .int .i64 (s.p : Int), u7, u8, u9, u10, u11, u12, u13, u14, u15, u16, u17, u18, u19, u20, u21, u22, u23, u24, u25, u26, u27, u28, u29, u30, u31, u32, u33, u34, u35, u36, u37, u38, u39, u40, u41, u42, u43, u44, u45, u46, u47, u48, u49, u50, u51, u52, u53], defers := [] }) (fun a' _ => 70 - (intOf (a'.tmps.getD 5 undef)).toNat) rfl ?_ ?_
  · rintro a' W ⟨i, X, s', hrest, u1, u4, u7, u8, u9, u10, u11, u12, u13, u14, u15, u16, u17, u18, u19, u20, u21, u22, u23, u24, u25, u26, u27, u28, u29, u30, u31, u32, u33, u34, u35, u36, u37, u38, u39, u40, u41, u42, u43, u44, u45, u46, u47, u48, u49, u50, u51, u52, u53, hst, hp, hi, hX, rfl⟩
    have hk := hst.1
    have hB1 := hid (rd_byte W hk)
    have hvs := hid (vgo_step hk.ok i X)
    have hbok := Rs.byte_ok hk.ok
    have HBP : Hid ((s'.byte B).1.k = 0 → (s'.byte B).1.p = s.p + i + 1) := hid (byte_p hp)
    rw [hrest.out] at hvs
    clear hrest
    generalize s'.byte B = b at *
    obtain ⟨b1, c⟩ := b
    dsimp only at hB1 hvs hbok
    go_wp2_with fail
    refine hB1.out.mono ?_
    rintro r w1 ⟨rfl, hst1⟩
    have hstW := hst
    by_cases hbk : b1.k = 0
    · have hG := rd_good w1 hst1.1
      rw [decide_eq_true hbk] at hG
      have HG := hid hG
      have HK := hid hbk
      have hc := c.toNat_lt
      have hbge : 1 ≤ b1.p := by have := HBP.out hbk; omega
      have hpl := hbok.le
      clear hG hbk
      go_wp2_with fail
      refine HG.out.mono ?_
      rintro r w2 ⟨rfl, hb2⟩
      by_cases h9 : i = 9
      · have d1 : ((7 * (i : Int)) == 63) = true := by rw [h9]; rfl
        by_cases hc1 : 1 < c.toNat
        · have d2 : decide ((1 : Int) < (c.toNat : Int)) = true := decide_eq_true (by omega)
          have HF := hid (rd_fail w2 (hst1.1.later hb2) 5 ((b1.p : Int) - 1) (by omega))
          have HAT := hid (rd_at w2 (hst1.1.later hb2))
          replace hvs := hvs.out
          rw [if_pos HK.out, if_pos ⟨h9, hc1⟩] at hvs
          have HN := hid hvs
          clear hvs
          (try clear h9); (try clear hc0); (try clear hc1); (try clear hi0); (try clear hc7)
          have HST1 := hid hst1
          clear hst1 hst hk hbok
          go_wp2_with fail
          refine HAT.out.mono ?_
          rintro r w2' ⟨rfl, rfl⟩
          go_wp2_with fail
          refine HF.out.mono ?_
          rintro r w3 ⟨rfl, hst3⟩
          have HST3 := hid (RdStep.trans HST1.out.2 (RdStep.trans (Tch.of_later (F := (· = g)) hb2) hst3))
          have HSTW := hid hstW
          clear hst3 hstW
          go_wp2
          simp only [Exit.jump]
          go_ret
          rw [HN.out]; exact ⟨rfl, RdStep.trans HSTW.out.2 HST3.out⟩
        · have d2 : decide ((1 : Int) < (c.toNat : Int)) = false := decide_eq_false (by omega)
          have d5 : decide ((128 : Int) ≤ (c.toNat : Int)) = false := decide_eq_false (by omega)
          by_cases hc0 : c.toNat = 0
          · have d3 : ((c.toNat : Int) == 0) = true := by rw [hc0]; rfl
            have d4 : decide ((s.p : Int) < (b1.p : Int) - 1) = true := decide_eq_true (by have := HBP.out HK.out; omega)
            have HF := hid (rd_fail w2 (hst1.1.later hb2) 4 ((b1.p : Int) - 1) (by omega))
            have HAT := hid (rd_at w2 (hst1.1.later hb2))
            replace hvs := hvs.out
            rw [if_pos HK.out, if_neg (fun e => hc1 e.2), if_pos ⟨by omega, hc0⟩] at hvs
            have HN := hid hvs
            clear hvs
            (try clear h9); (try clear hc0); (try clear hc1); (try clear hi0); (try clear hc7)
            have HST1 := hid hst1
            clear hst1 hst hk hbok
            go_wp2_with fail
            refine HAT.out.mono ?_
            rintro r w2' ⟨rfl, rfl⟩
            go_wp2_with fail
            refine HAT.out.mono ?_
            rintro r w2' ⟨rfl, rfl⟩
            go_wp2_with fail
            refine HF.out.mono ?_
            rintro r w3 ⟨rfl, hst3⟩
            have HST3 := hid (RdStep.trans HST1.out.2 (RdStep.trans (Tch.of_later (F := (· = g)) hb2) hst3))
            have HSTW := hid hstW
            clear hst3 hstW
            go_wp2
            simp only [Exit.jump]
            go_ret
            rw [HN.out]; exact ⟨rfl, RdStep.trans HSTW.out.2 HST3.out⟩
          · have d3 : ((c.toNat : Int) == 0) = false := by simp [hc0]
            have HAT := hid (rd_at w2 (hst1.1.later hb2))
            replace hvs := hvs.out
            rw [if_pos HK.out, if_neg (fun e => hc1 e.2), if_neg (fun e => hc0 e.2), if_pos (by omega)] at hvs
            have HN := hid hvs
            clear hvs
            have HC7 : Hid (c.toNat % 128 = c.toNat) := hid (Nat.mod_eq_of_lt (by omega))
            have HSTW := hid hstW
            have hmul : c.toNat % 128 * 128 ^ i < 18446744073709551616 ∧ X < 18446744073709551616 := digit_fits hi hX (by omega)
            have E1 := hid (or_digit2 (c := c.toNat) hX hmul.2 hmul.1)
            clear hmul
            clear hstW; (try clear h9); (try clear hc0); (try clear hc1); (try clear hi0); (try clear hc7)
            have HST1 := hid hst1
            clear hst1 hst hk hbok
            go_wp2_with fail
            go_wp2
            simp only [Exit.jump]
            go_ret
            rw [HN.out]
            refine ⟨?_, RdStep.trans HSTW.out.2 (HST1.out.then hb2)⟩
            show Ending.returned (Value.int .u64 _) = _
            rw [E1.out, HC7.out]
      · have d1 : ((7 * (i : Int)) == 63) = false := by rw [beq_eq_false_iff_ne]; omega
        by_cases hc0 : c.toNat = 0
        · have d3 : ((c.toNat : Int) == 0) = true := by rw [hc0]; rfl
          by_cases hi0 : 0 < i
          · have d4 : decide ((s.p : Int) < (b1.p : Int) - 1) = true := decide_eq_true (by have := HBP.out HK.out; omega)
            have HF := hid (rd_fail w2 (hst1.1.later hb2) 4 ((b1.p : Int) - 1) (by omega))
            have HAT := hid (rd_at w2 (hst1.1.later hb2))
            replace hvs := hvs.out
            rw [if_pos HK.out, if_neg (fun e => h9 e.1), if_pos ⟨hi0, hc0⟩] at hvs
            have HN := hid hvs
            clear hvs
            (try clear h9); (try clear hc0); (try clear hc1); (try clear hi0); (try clear hc7)
            have HST1 := hid hst1
            clear hst1 hst hk hbok
            go_wp2_with fail
            refine HAT.out.mono ?_
            rintro r w2' ⟨rfl, rfl⟩
            go_wp2_with fail
            refine HAT.out.mono ?_
            rintro r w2' ⟨rfl, rfl⟩
            go_wp2_with fail
            refine HF.out.mono ?_
            rintro r w3 ⟨rfl, hst3⟩
            have HST3 := hid (RdStep.trans HST1.out.2 (RdStep.trans (Tch.of_later (F := (· = g)) hb2) hst3))
            have HSTW := hid hstW
            clear hst3 hstW
            go_wp2
            simp only [Exit.jump]
            go_ret
            rw [HN.out]; exact ⟨rfl, RdStep.trans HSTW.out.2 HST3.out⟩
          · have d4 : decide ((s.p : Int) < (b1.p : Int) - 1) = false := decide_eq_false (by have := HBP.out HK.out; omega)
            have d5 : decide ((128 : Int) ≤ (c.toNat : Int)) = false := decide_eq_false (by omega)
            have HAT := hid (rd_at w2 (hst1.1.later hb2))
            replace hvs := hvs.out
            rw [if_pos HK.out, if_neg (fun e => h9 e.1), if_neg (fun e => hi0 e.1), if_pos (by omega)] at hvs
            have HN := hid hvs
            clear hvs
            have HC7 : Hid (c.toNat % 128 = c.toNat) := hid (Nat.mod_eq_of_lt (by omega))
            have HSTW := hid hstW
            have hmul : c.toNat % 128 * 128 ^ i < 18446744073709551616 ∧ X < 18446744073709551616 := digit_fits hi hX (by omega)
            have E1 := hid (or_digit2 (c := c.toNat) hX hmul.2 hmul.1)
            clear hmul
            clear hstW; (try clear h9); (try clear hc0); (try clear hc1); (try clear hi0); (try clear hc7)
            have HST1 := hid hst1
            clear hst1 hst hk hbok
            go_wp2_with fail
            refine HAT.out.mono ?_
            rintro r w2' ⟨rfl, rfl⟩
            go_wp2_with fail
            go_wp2
            simp only [Exit.jump]
            go_ret
            rw [HN.out]
            refine ⟨?_, RdStep.trans HSTW.out.2 (HST1.out.then hb2)⟩
            show Ending.returned (Value.int .u64 _) = _
            rw [E1.out, HC7.out]
        · have d3 : ((c.toNat : Int) == 0) = false := by simp [hc0]
          by_cases hc7 : c.toNat < 128
          · have d5 : decide ((128 : Int) ≤ (c.toNat : Int)) = false := decide_eq_false (by omega)
            have HAT := hid (rd_at w2 (hst1.1.later hb2))
            replace hvs := hvs.out
            rw [if_pos HK.out, if_neg (fun e => h9 e.1), if_neg (fun e => hc0 e.2), if_pos hc7] at hvs
            have HN := hid hvs
            clear hvs
            have HC7 : Hid (c.toNat % 128 = c.toNat) := hid (Nat.mod_eq_of_lt (by omega))
            have HSTW := hid hstW
            have hmul : c.toNat % 128 * 128 ^ i < 18446744073709551616 ∧ X < 18446744073709551616 := digit_fits hi hX (by omega)
            have E1 := hid (or_digit2 (c := c.toNat) hX hmul.2 hmul.1)
            clear hmul
            clear hstW; (try clear h9); (try clear hc0); (try clear hc1); (try clear hi0); (try clear hc7)
            have HST1 := hid hst1
            clear hst1 hst hk hbok
            go_wp2_with fail
            go_wp2
            simp only [Exit.jump]
            go_ret
            rw [HN.out]
            refine ⟨?_, RdStep.trans HSTW.out.2 (HST1.out.then hb2)⟩
            show Ending.returned (Value.int .u64 _) = _
            rw [E1.out, HC7.out]
          · have d5 : decide ((128 : Int) ≤ (c.toNat : Int)) = true := decide_eq_true (by omega)
            have HAT := hid (rd_at w2 (hst1.1.later hb2))
            replace hvs := hvs.out
            rw [if_pos HK.out, if_neg (fun e => h9 e.1), if_neg (fun e => hc0 e.2), if_neg hc7] at hvs
            have HN := hid hvs
            clear hvs
            have hi8 : i + 1 ≤ 9 := by omega
            have HX8 := hid (digit_next (c := c.toNat) hX)
            have HSTW := hid hstW
            have hmul : c.toNat % 128 * 128 ^ i < 18446744073709551616 ∧ X < 18446744073709551616 := digit_fits hi hX (fun e => absurd e h9)
            have E1 := hid (or_digit2 (c := c.toNat) hX hmul.2 hmul.1)
            clear hmul
            clear hstW; (try clear h9); (try clear hc0); (try clear hc1); (try clear hi0); (try clear hc7)
            have HST1 := hid hst1
            clear hst1 hst hk hbok
            go_wp2_with fail
            go_step3
            rw [E1.out, show 7 * (i : Int) + 7 = 7 * ((i + 1 : Nat) : Int) by omega]
            refine ⟨rfl, ⟨i + 1, _, b1, hid HN.out.symm, _, _, _, _, _, _, _, _, _, _, _, _, _, _, _, _, _, _, _, _, _, _, _, _, _, _, _, _, _, _, _, _, _, _, _, _, _, _, _, _, _, _, _, _, _, _, _, _, _, RdStep.trans HSTW.out.2 (HST1.out.then hb2), HBP.out HK.out, hi8, HX8.out, rfl⟩, ?_⟩
            simp [intOf]
            omega
    · have hG := rd_good w1 hst1.1
      rw [decide_eq_false hbk] at hG
      have HG := hid hG
      replace hvs := hvs.out
      rw [if_neg hbk] at hvs
      have HN := hid hvs
      clear hvs
      have HST1 := hid hst1
      have HSTW := hid hstW
      clear hG hbk hst1 hst hk hbok hstW
      go_wp2_with fail
      refine HG.out.mono ?_
      rintro r w2 ⟨rfl, hb2⟩
      go_wp2
      simp only [Exit.jump]
      go_ret
      rw [HN.out]; exact ⟨rfl, RdStep.trans HSTW.out.2 (HST1.out.then hb2)⟩
  · intro K hK
    go_wp2_with fail
    refine HA.out.mono ?_
    rintro r w1 ⟨rfl, rfl⟩
    go_wp2
    go_step3
    rename_i hkk
    exact hkk _ _ (hK _ _ ⟨0, 0, s, hid (vgo_num B s), _, _, _, _, _, _, _, _, _, _, _, _, _, _, _, _, _, _, _, _, _, _, _, _, _, _, _, _, _, _, _, _, _, _, _, _, _, _, _, _, _, _, _, _, _, _, _, _, _, RdStep.refl HH.out, by omega, by omega, by simp, rfl⟩)
end Go.Proofs.YtkipiefcnjfdjaaGreat
namespace Go.Proofs.YtkipiefcnjfdjaaGreat
open Go.RowKit Go.Bs Go.Maps
set_option linter.unusedVariables false
set_option linter.unusedSimpArgs false

def Rs.most (B : List UInt8) (s : Rs) (m : Nat) : Rs × Nat := if m < (s.num B).2 then ((s.num B).1.fail 2 s.p, 0) else s.num B
def Rs.int (B : List UInt8) (s : Rs) (m : Int) : Rs × Nat := if 0 ≤ m then s.most B m.toNat else ((s.num B).1.fail 2 s.p, 0)
def Rs.head (B : List UInt8) (s : Rs) : Rs × Bool × Nat :=
  if (s.num B).1.k = 0 then
    (if (s.num B).2 % 2 = 1 then (if 1048572 < (s.num B).2 / 2 then ((s.num B).1.fail 2 s.p, false, 0) else ((s.num B).1, true, (s.num B).2 / 2 + 4))
    else (if 1048575 < (s.num B).2 / 2 then ((s.num B).1.fail 2 s.p, false, 0) else ((s.num B).1, false, (s.num B).2 / 2 + 1)))
  else ((s.num B).1, false, 0)
def Rs.offset (B : List UInt8) (s : Rs) : Rs × Nat :=
  let t := if 65536 ≤ (s.num B).2 then (s.num B).1.fail 10 s.p else (s.num B).1
  (t, if t.k = 0 then (s.num B).2 + 1 else 0)
theorem Rs.most_ok {B : List UInt8} {s : Rs} (h : s.ok B.length) {m : Nat} : (s.most B m).1.ok B.length := by
  unfold Rs.most; split
  · exact Rs.fail_ok (Rs.num_ok h) (by omega)
  · exact Rs.num_ok h
theorem Rs.int_ok {B : List UInt8} {s : Rs} (h : s.ok B.length) {m : Int} : (s.int B m).1.ok B.length := by
  unfold Rs.int; split
  · exact Rs.most_ok h
  · exact Rs.fail_ok (Rs.num_ok h) (by omega)
theorem Rs.head_ok {B : List UInt8} {s : Rs} (h : s.ok B.length) : (s.head B).1.ok B.length := by
  unfold Rs.head; split
  · split
    · split
      · exact Rs.fail_ok (Rs.num_ok h) (by omega)
      · exact Rs.num_ok h
    · split
      · exact Rs.fail_ok (Rs.num_ok h) (by omega)
      · exact Rs.num_ok h
  · exact Rs.num_ok h
theorem Rs.offset_ok {B : List UInt8} {s : Rs} (h : s.ok B.length) : (s.offset B).1.ok B.length := by
  unfold Rs.offset; dsimp only; split
  · exact Rs.fail_ok (Rs.num_ok h) (by omega)
  · exact Rs.num_ok h
theorem Rs.int_le {B : List UInt8} {s : Rs} {m : Int} : (s.int B m).2 ≤ m.toNat := by
  unfold Rs.int Rs.most; split
  · split
    · simp
    · omega
  · simp

set_option maxRecDepth 100000 in
theorem varint_most (w : World) {g : Nat} {B : List UInt8} {a : Option Addr} {s : Rs} (h : RdAt w g B a s) (hB : B.length ≤ 1000000000000) (m : Nat) : Calls Tryz.prog 209 #[.pointer (some ⟨g, 0, none⟩), .int .u64 (m : Int)] w fun r w' => r = .returned (.int .u64 ((s.most B m).2 : Int)) ∧ RdStep w g B a (s.most B m).1 w' := by
  have HA := hid (rd_at w h)
  have HN := hid (varint_read w h hB)
  unfold Rs.most
  generalize s.num B = N at *
  obtain ⟨s1, x⟩ := N
  dsimp only at *
  clear h
  by_cases hm : m < x
  · have d1 : decide (m < x) = true := decide_eq_true hm
    have d1' : decide ((m : Int) < (x : Int)) = true := decide_eq_true (by omega)
    rw [if_pos hm]
    clear hm
    go_enter Tryz.func209, Tryz.ntmps209
    go_wp2_with fail
    refine HA.out.mono ?_
    rintro r w' ⟨rfl, rfl⟩
    go_wp2_with fail
    refine HN.out.mono ?_
    rintro r w1 ⟨rfl, hst⟩
    have HF := hid (rd_fail w1 hst.1 2 s.p (by omega))
    have HST := hid hst
    clear hst
    go_wp2_with fail
    refine HF.out.mono ?_
    rintro r w2 ⟨rfl, hst2⟩
    have HST2 := hid hst2
    clear hst2
    go_wp2
    go_ret
    exact ⟨rfl, RdStep.trans HST.out.2 HST2.out⟩
  · have d1 : decide (m < x) = false := decide_eq_false hm
    have d1' : decide ((m : Int) < (x : Int)) = false := decide_eq_false (by omega)
    rw [if_neg hm]
    clear hm
    go_enter Tryz.func209, Tryz.ntmps209
    go_wp2_with fail
    refine HA.out.mono ?_
    rintro r w' ⟨rfl, rfl⟩
    go_wp2_with fail
    refine HN.out.mono ?_
    rintro r w1 ⟨rfl, hst⟩
    have HST := hid hst
    clear hst
    go_wp2
    go_ret
    exact ⟨rfl, HST.out⟩
set_option maxRecDepth 100000 in
theorem varint_int (w : World) {g : Nat} {B : List UInt8} {a : Option Addr} {s : Rs} (h : RdAt w g B a s) (hB : B.length ≤ 1000000000000) (m : Int) (hm : -9223372036854775808 ≤ m ∧ m ≤ 9223372036854775807) : Calls Tryz.prog 152 #[.pointer (some ⟨g, 0, none⟩), .int .i64 m] w fun r w' => r = .returned (.int .i64 ((s.int B m).2 : Int)) ∧ RdStep w g B a (s.int B m).1 w' := by
  by_cases h0 : 0 ≤ m
  · obtain ⟨n, rfl⟩ : ∃ n : Nat, m = n := ⟨m.toNat, by omega⟩
    have HM := hid (varint_most w h hB n)
    have hle : (s.int B n).2 ≤ 9223372036854775807 := by have := Rs.int_le (B := B) (s := s) (m := (n : Int)); omega
    have e : s.int B n = s.most B n := by unfold Rs.int; rw [if_pos h0]; rfl
    rw [e] at hle ⊢
    have d1 : decide ((0 : Int) ≤ (n : Int)) = true := decide_eq_true h0
    generalize s.most B n = N at *
    obtain ⟨s1, x⟩ := N
    dsimp only at *
    clear h e
    go_enter Tryz.func152, Tryz.ntmps152
    go_wp2_with fail
    refine HM.out.mono ?_
    rintro r w1 ⟨rfl, hst⟩
    have HST := hid hst
    clear hst
    go_wp2
    go_ret
    exact ⟨rfl, HST.out⟩
  · have HA := hid (rd_at w h)
    have HN := hid (varint_read w h hB)
    have e : s.int B m = ((s.num B).1.fail 2 s.p, 0) := by unfold Rs.int; rw [if_neg h0]
    rw [e]
    have d1 : decide ((0 : Int) ≤ m) = false := decide_eq_false h0
    generalize s.num B = N at *
    obtain ⟨s1, x⟩ := N
    dsimp only at *
    clear h e h0
    go_enter Tryz.func152, Tryz.ntmps152
    go_wp2_with fail
    refine HA.out.mono ?_
    rintro r w' ⟨rfl, rfl⟩
    go_wp2_with fail
    refine HN.out.mono ?_
    rintro r w1 ⟨rfl, hst⟩
    have HF := hid (rd_fail w1 hst.1 2 s.p (by omega))
    have HST := hid hst
    clear hst
    go_wp2_with fail
    refine HF.out.mono ?_
    rintro r w2 ⟨rfl, hst2⟩
    have HST2 := hid hst2
    clear hst2
    go_wp2
    go_ret
    exact ⟨rfl, RdStep.trans HST.out.2 HST2.out⟩
set_option maxRecDepth 100000 in
set_option maxHeartbeats 1600000 in
theorem token_head (w : World) {g : Nat} {B : List UInt8} {a : Option Addr} {s : Rs} (h : RdAt w g B a s) (hB : B.length ≤ 1000000000000) : Calls Tryz.prog 254 #[.pointer (some ⟨g, 0, none⟩)] w fun r w' => r = .returned (.tuple #[.bool (s.head B).2.1, .int .i64 ((s.head B).2.2 : Int)]) ∧ RdStep w g B a (s.head B).1 w' := by
  have HA := hid (rd_at w h)
  have HN := hid (varint_read w h hB)
  have hsm := Rs.num_small (B := B) (s := s)
  unfold Rs.head
  generalize s.num B = N at *
  obtain ⟨s1, x⟩ := N
  dsimp only at *
  clear h
  by_cases hk : s1.k = 0
  · rw [if_pos hk]
    by_cases h2 : x % 2 = 1
    · have d2 : (((x : Int) % 2) == 1) = true := by rw [beq_iff_eq]; omega
      rw [if_pos h2]
      by_cases hl : 1048572 < x / 2
      · have d3 : decide ((1048572 : Int) < (x : Int) / 2) = true := decide_eq_true (by omega)
        rw [if_pos hl]
        have dk : decide (s1.k = 0) = true := decide_eq_true hk
        clear hk h2 hl
        go_enter Tryz.func254, Tryz.ntmps254
        go_wp2_with fail
        refine HA.out.mono ?_
        rintro r w' ⟨rfl, rfl⟩
        go_wp2_with fail
        refine HN.out.mono ?_
        rintro r w1 ⟨rfl, hst⟩
        have HG := hid (rd_good w1 hst.1)
        rw [dk] at HG
        have HST := hid hst
        clear hst dk
        go_wp2_with fail
        refine HG.out.mono ?_
        rintro r w2 ⟨rfl, hb2⟩
        have HF := hid (rd_fail w2 (HST.out.1.later hb2) 2 s.p (by omega))
        go_wp2_with fail
        refine HF.out.mono ?_
        rintro r w3 ⟨rfl, hst3⟩
        have HST3 := hid hst3
        clear hst3
        go_wp2
        go_ret2
        exact ⟨rfl, RdStep.trans (HST.out.then hb2).2 HST3.out⟩
      · have d3 : decide ((1048572 : Int) < (x : Int) / 2) = false := decide_eq_false (by omega)
        rw [if_neg hl]
        have dk : decide (s1.k = 0) = true := decide_eq_true hk
        clear hk h2
        go_enter Tryz.func254, Tryz.ntmps254
        go_wp2_with fail
        refine HA.out.mono ?_
        rintro r w' ⟨rfl, rfl⟩
        go_wp2_with fail
        refine HN.out.mono ?_
        rintro r w1 ⟨rfl, hst⟩
        have HG := hid (rd_good w1 hst.1)
        rw [dk] at HG
        have HST := hid hst
        clear hst dk
        go_wp2_with fail
        refine HG.out.mono ?_
        rintro r w2 ⟨rfl, hb2⟩
        go_wp2
        go_ret2
        exact ⟨by simp, HST.out.then hb2⟩
    · have d2 : (((x : Int) % 2) == 1) = false := by rw [beq_eq_false_iff_ne]; omega
      rw [if_neg h2]
      by_cases hl : 1048575 < x / 2
      · have d3 : decide ((1048575 : Int) < (x : Int) / 2) = true := decide_eq_true (by omega)
        rw [if_pos hl]
        have dk : decide (s1.k = 0) = true := decide_eq_true hk
        clear hk h2 hl
        go_enter Tryz.func254, Tryz.ntmps254
        go_wp2_with fail
        refine HA.out.mono ?_
        rintro r w' ⟨rfl, rfl⟩
        go_wp2_with fail
        refine HN.out.mono ?_
        rintro r w1 ⟨rfl, hst⟩
        have HG := hid (rd_good w1 hst.1)
        rw [dk] at HG
        have HST := hid hst
        clear hst dk
        go_wp2_with fail
        refine HG.out.mono ?_
        rintro r w2 ⟨rfl, hb2⟩
        have HF := hid (rd_fail w2 (HST.out.1.later hb2) 2 s.p (by omega))
        go_wp2_with fail
        refine HF.out.mono ?_
        rintro r w3 ⟨rfl, hst3⟩
        have HST3 := hid hst3
        clear hst3
        go_wp2
        go_ret2
        exact ⟨rfl, RdStep.trans (HST.out.then hb2).2 HST3.out⟩
      · have d3 : decide ((1048575 : Int) < (x : Int) / 2) = false := decide_eq_false (by omega)
        rw [if_neg hl]
        have dk : decide (s1.k = 0) = true := decide_eq_true hk
        clear hk h2
        go_enter Tryz.func254, Tryz.ntmps254
        go_wp2_with fail
        refine HA.out.mono ?_
        rintro r w' ⟨rfl, rfl⟩
        go_wp2_with fail
        refine HN.out.mono ?_
        rintro r w1 ⟨rfl, hst⟩
        have HG := hid (rd_good w1 hst.1)
        rw [dk] at HG
        have HST := hid hst
        clear hst dk
        go_wp2_with fail
        refine HG.out.mono ?_
        rintro r w2 ⟨rfl, hb2⟩
        go_wp2
        go_ret2
        exact ⟨by simp, HST.out.then hb2⟩
  · rw [if_neg hk]
    have dk : decide (s1.k = 0) = false := decide_eq_false hk
    clear hk
    go_enter Tryz.func254, Tryz.ntmps254
    go_wp2_with fail
    refine HA.out.mono ?_
    rintro r w' ⟨rfl, rfl⟩
    go_wp2_with fail
    refine HN.out.mono ?_
    rintro r w1 ⟨rfl, hst⟩
    have HG := hid (rd_good w1 hst.1)
    rw [dk] at HG
    have HST := hid hst
    clear hst dk
    go_wp2_with fail
    refine HG.out.mono ?_
    rintro r w2 ⟨rfl, hb2⟩
    go_wp2
    go_ret2
    exact ⟨rfl, HST.out.then hb2⟩
set_option maxRecDepth 100000 in
set_option maxHeartbeats 1600000 in
theorem token_offset (w : World) {g : Nat} {B : List UInt8} {a : Option Addr} {s : Rs} (h : RdAt w g B a s) (hB : B.length ≤ 1000000000000) : Calls Tryz.prog 255 #[.pointer (some ⟨g, 0, none⟩)] w fun r w' => r = .returned (.int .i64 ((s.offset B).2 : Int)) ∧ RdStep w g B a (s.offset B).1 w' := by
  have HA := hid (rd_at w h)
  have HN := hid (varint_read w h hB)
  have hsm := Rs.num_small (B := B) (s := s)
  unfold Rs.offset
  dsimp only
  generalize s.num B = N at *
  obtain ⟨s1, x⟩ := N
  dsimp only at *
  clear h
  by_cases hl : 65536 ≤ x
  · have d1 : decide ((65536 : Int) ≤ (x : Int)) = true := decide_eq_true (by omega)
    have hnk : (s1.fail 10 s.p).k ≠ 0 := by unfold Rs.fail; split <;> simp_all
    rw [if_pos hl, if_neg hnk]
    have dk : decide ((s1.fail 10 s.p).k = 0) = false := decide_eq_false hnk
    have HFF := hid (fun (W : World) (h : RdAt W g B a s1) => rd_fail W h 10 s.p (by omega))
    generalize s1.fail 10 s.p = s2 at *
    clear hl hnk
    go_enter Tryz.func255, Tryz.ntmps255
    go_wp2_with fail
    refine HA.out.mono ?_
    rintro r w' ⟨rfl, rfl⟩
    go_wp2_with fail
    refine HN.out.mono ?_
    rintro r w1 ⟨rfl, hst⟩
    have HF := hid (HFF.out w1 hst.1)
    have HST := hid hst
    clear hst
    go_wp2_with fail
    refine HF.out.mono ?_
    rintro r w2 ⟨rfl, hst2⟩
    have HG := hid (rd_good w2 hst2.1)
    rw [dk] at HG
    have HST2 := hid hst2
    clear hst2 dk
    go_wp2_with fail
    refine HG.out.mono ?_
    rintro r w3 ⟨rfl, hb3⟩
    go_wp2
    go_ret
    exact ⟨rfl, RdStep.trans HST.out.2 (HST2.out.then hb3)⟩
  · have d1 : decide ((65536 : Int) ≤ (x : Int)) = false := decide_eq_false (by omega)
    rw [if_neg hl]
    by_cases hk : s1.k = 0
    all_goals
      first | rw [if_pos hk] | rw [if_neg hk]
      first | have dk : decide (s1.k = 0) = true := decide_eq_true hk | have dk : decide (s1.k = 0) = false := decide_eq_false hk
      clear hk
      go_enter Tryz.func255, Tryz.ntmps255
      go_wp2_with fail
      refine HA.out.mono ?_
      rintro r w' ⟨rfl, rfl⟩
      go_wp2_with fail
      refine HN.out.mono ?_
      rintro r w1 ⟨rfl, hst⟩
      have HG := hid (rd_good w1 hst.1)
      rw [dk] at HG
      have HST := hid hst
      clear hst dk
      go_wp2_with fail
      refine HG.out.mono ?_
      rintro r w3 ⟨rfl, hb3⟩
      go_wp2
      go_ret
      exact ⟨by first | rfl | simp, HST.out.then hb3⟩
end Go.Proofs.YtkipiefcnjfdjaaGreat
namespace Go.Proofs.YtkipiefcnjfdjaaGreat
open Go.RowKit Go.Bs Go.Maps
set_option linter.unusedVariables false
set_option linter.unusedSimpArgs false

/-- A row of bytes, with how many there are ahead of it. -/
def Rs.blob (B : List UInt8) (s : Rs) (m : Int) : Rs × List UInt8 := (s.int B m).1.take B ((s.int B m).2 : Int)
set_option maxRecDepth 100000 in
theorem blob_read (w : World) {g : Nat} {B : List UInt8} {a : Option Addr} {s : Rs} (h : RdAt w g B a s) (hB : B.length ≤ 1000000000000) (m : Int) (hm : -9223372036854775808 ≤ m ∧ m ≤ 9223372036854775807) : Calls Tryz.prog 213 #[.pointer (some ⟨g, 0, none⟩), .int .i64 m] w fun r w' => ∃ v, r = .returned v ∧ rBytes.r (fun q => w.heap.size ≤ q ∧ q < w'.heap.size) w' [v] (s.blob B m).2 ∧ RdStep w g B a (s.blob B m).1 w' := by
  have HI := hid (varint_int w h hB m hm)
  have hle : ((s.int B m).2 : Int) ≤ 9223372036854775807 := by have := Rs.int_le (B := B) (s := s) (m := m); omega
  have hT := hid (fun (W : World) (h : RdAt W g B a (s.int B m).1) => rd_take W h ((s.int B m).2 : Int) hle hB)
  unfold Rs.blob
  generalize (s.int B m).1.take B ((s.int B m).2 : Int) = T at *
  generalize s.int B m = N at *
  obtain ⟨s1, x⟩ := N
  obtain ⟨s2, D⟩ := T
  dsimp only at *
  clear h
  go_enter Tryz.func213, Tryz.ntmps213
  go_wp2_with fail
  refine HI.out.mono ?_
  rintro r w1 ⟨rfl, hst⟩
  have HST := hid hst
  have hs1 := hst.size
  have HT := hid (hT.out w1 hst.1)
  clear hst
  go_wp2_with fail
  refine HT.out.mono ?_
  rintro r w2 ⟨v, rfl, hr, hst2⟩
  obtain ⟨a1, c1, hv1, hr2, _⟩ := sl_form hr
  simp only [List.cons.injEq, and_true] at hv1
  subst hv1
  have HR := hid hr2
  have HST2 := hid hst2
  clear hr hr2 hst2
  go_wp2
  go_ret
  exact ⟨_, rfl, rBytes.mono HR.out fun q hq => ⟨by omega, hq.2⟩, RdStep.trans HST.out.2 HST2.out⟩
end Go.Proofs.YtkipiefcnjfdjaaGreat
