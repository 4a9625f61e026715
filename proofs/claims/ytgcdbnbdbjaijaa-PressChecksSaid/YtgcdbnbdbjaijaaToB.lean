/- A number, a token, written by a pen. -/
import Derived.Test.YtgcdbnbdbjaijaaToA
namespace Go.Proofs.Ytgcdbnbdbjaijaa
open Go.RowKit Go.Bs Go.Maps
set_option linter.unusedVariables false
set_option linter.unusedSimpArgs false

set_option maxRecDepth 100000 in
theorem varint_put (w : World) {g base most : Nat} {J : List UInt8} {a : Option Addr} {c : Nat} (h : PenAt w g base most J a c) (x : Nat) (hx : x < 18446744073709551616) (hfit : J.length + (varB x).length ≤ most) (hlen : J.length + (varB x).length ≤ 100000000000000) :
    Calls Try.prog 65 #[.pointer (some ⟨g, 0, none⟩), .int .u64 x] w fun r w' => r = .returned (.tuple #[]) ∧ PenStep w g base most (J ++ varB x) a w' := by
  have HV := hid (varint_bytes x hx w)
  have HP := hid h
  clear h
  go_enter Try.func65, Try.ntmps65
  go_wp2_with fail
  refine HV.out.mono ?_
  rintro r w1 ⟨v, rfl, hr, hb1⟩
  obtain ⟨a1, c1, hv, hr2, _⟩ := sl_form hr
  simp only [List.cons.injEq, and_true] at hv
  subst hv
  have HQ := hid (pen_put w1 (HP.out.later hb1) (varB x) a1 _ c1 (rBytes.mono hr2 fun q hq => hq.2) hfit hlen)
  clear hr hr2
  go_wp2_with fail
  refine HQ.out.mono ?_
  rintro r w2 ⟨rfl, hst⟩
  have HST := hid (PenStep.later hb1 hst)
  clear hst
  go_wp2
  first | go_end0 | refine bodyPost_ret (results_none rfl _ _ _) rfl ?_
  exact ⟨rfl, HST.out⟩

/-- A token's bytes. -/
def tokB (t : Tok) : List UInt8 := if runB t then varB (2 * t.lit.length - 2) ++ t.lit else varB (2 * t.len.toNat - 7) ++ varB (t.off.toNat - 1)
theorem tokB_run (D : List UInt8) (h1 : 1 ≤ D.length) (h2 : D.length ≤ 1048576) : tokB ⟨D, 0, 0⟩ = varB (2 * D.length - 2) ++ D := by
  unfold tokB
  rw [if_pos]
  simp [runB]; omega
theorem tokB_copy (o m : Nat) (h1 : 1 ≤ o) : tokB ⟨[], (o : Int), (m : Int)⟩ = varB (2 * m - 7) ++ varB (o - 1) := by
  unfold tokB
  rw [if_neg]
  · simp
  · simp [runB]

theorem PenAt.own_lt {w : World} {g base most : Nat} {J : List UInt8} {a : Option Addr} {c : Nat} (h : PenAt w g base most J a c) {q : Nat} (hq : PenF g a q) : base ≤ q ∧ q < w.heap.size := by
  rcases hq with rfl | ⟨p, hp, rfl⟩
  · exact ⟨h.lo, h.blk.lt⟩
  · subst hp
    exact h.own.lt _ rfl

set_option maxRecDepth 100000 in
set_option maxHeartbeats 1600000 in
theorem token_put_run (w : World) {g base most : Nat} {J : List UInt8} {a : Option Addr} {c : Nat} (h : PenAt w g base most J a c) (D : List UInt8) (h1 : 1 ≤ D.length) (h2 : D.length ≤ 1048576) (ad : Option Addr) (cd : Nat)
    (hD : rBytes.r (fun q => q < w.heap.size ∧ ¬ PenF g a q) w [.slice ad D.length cd] D) (hfit : J.length + (tokB ⟨D, 0, 0⟩).length ≤ most) (hlen : J.length + (tokB ⟨D, 0, 0⟩).length ≤ 100000000000000) :
    Calls Try.prog 103 #[.pointer (some ⟨g, 0, none⟩), .agg #[.slice ad D.length cd, .int .i64 0, .int .i64 0]] w fun r w' => r = .returned (.tuple #[]) ∧ PenStep w g base most (J ++ tokB ⟨D, 0, 0⟩) a w' := by
  have HR := hid (fun (W : World) => token_right ⟨D, 0, 0⟩ ad cd W (by dsimp only; omega) ⟨by simp, by simp⟩ ⟨by simp, by simp⟩)
  have hr : rightB ⟨D, 0, 0⟩ = true := by simp [rightB, runB]; omega
  rw [hr] at HR
  have hT := tokB_run D h1 h2
  rw [hT] at hfit hlen ⊢
  rw [List.length_append] at hfit hlen
  have HV := hid (fun (W : World) (hW : Below w.heap.size w W) => varint_put W (h.later hW) (2 * D.length - 2) (by omega) (by omega) (by omega))
  have hno := fun q (hq : PenF g a q) => (h.own_lt hq).2
  have HNO := hid hno
  have HD := hid hD
  have hfit' := hid hfit; have hlen' := hid hlen
  have e0 : (((2 * D.length - 2 : Nat)) : Int) = ((D.length : Int) - 1) * 2 := by omega
  rw [e0] at HV
  clear hr hT h hD hno hfit hlen
  go_enter Try.func103, Try.ntmps103
  go_wp2_with fail
  refine (HR.out _).mono ?_
  rintro r w1 ⟨rfl, hb1⟩
  have B1 : Blk w1 w.heap.size 30 #[.slice ad D.length cd, .int .i64 0, .int .i64 0] := (Blk.new w _ _).later hb1
  have x0 : w1.cell? ⟨w.heap.size, 0, none⟩ = some (.slice ad D.length cd) := B1.cell 0
  have x1 : w1.cell? ⟨w.heap.size, 1, none⟩ = some (.int .i64 0) := B1.cell 1
  have hbw1 : Below w.heap.size w w1 := by (repeat (first | exact Below.refl _ _ | assumption | (refine below_alloc ?_ _) | (refine Below.setCell ?_ (by first | omega | (simp; done) | (simp; omega)) _) | (refine Below.drew ?_) | (refine below_drewN ?_ _) | (refine below_then (by assumption) ?_)))
  go_wp2_with fail
  refine (HV.out _ hbw1).mono ?_
  rintro r w2 ⟨rfl, a2, c2, hp2, ht2, ha2⟩
  have B2 := B1.tch ht2 (fun hf => by have := HNO.out _ hf; omega)
  have y0 : w2.cell? ⟨w.heap.size, 0, none⟩ = some (.slice ad D.length cd) := B2.cell 0
  have hs1 := hbw1.size
  have hD2 : rBytes.r (· < w2.heap.size) w2 [.slice ad D.length cd] D := rBytes.mono (rBytes.keep HD.out fun q hq => (ht2.block q (by omega) hq.2).trans (hbw1.block q hq.1)) fun q hq => Nat.lt_of_lt_of_le hq.1 (by have := ht2.size; omega)
  have HQ := hid (pen_put w2 hp2 D ad _ cd hD2 (by rw [List.length_append]; have := hfit'.out; omega) (by rw [List.length_append]; have := hlen'.out; omega))
  clear x0 x1 hD2
  go_wp2_with fail
  refine HQ.out.mono ?_
  rintro r w3 ⟨rfl, hst⟩
  have hst2 := PenStep.later hbw1 (PenStep.trans (J := J) ht2 ha2 hst)
  rw [List.append_assoc] at hst2
  have HST := hid hst2
  clear hst hst2
  go_wp2
  first | go_end0 | refine bodyPost_ret (results_none rfl _ _ _) rfl ?_
  exact ⟨rfl, HST.out⟩

set_option maxRecDepth 100000 in
set_option maxHeartbeats 1600000 in
theorem token_put_copy (w : World) {g base most : Nat} {J : List UInt8} {a : Option Addr} {c : Nat} (h : PenAt w g base most J a c) (o m : Nat) (h1 : 1 ≤ o) (h2 : o ≤ 65536) (h3 : 4 ≤ m) (h4 : m ≤ 1048576) (ad : Option Addr) (cd : Nat)
    (hfit : J.length + (tokB ⟨[], (o : Int), (m : Int)⟩).length ≤ most) (hlen : J.length + (tokB ⟨[], (o : Int), (m : Int)⟩).length ≤ 100000000000000) :
    Calls Try.prog 103 #[.pointer (some ⟨g, 0, none⟩), .agg #[.slice ad 0 cd, .int .i64 o, .int .i64 m]] w fun r w' => r = .returned (.tuple #[]) ∧ PenStep w g base most (J ++ tokB ⟨[], (o : Int), (m : Int)⟩) a w' := by
  have HR := hid (fun (W : World) => token_right ⟨[], (o : Int), (m : Int)⟩ ad cd W (by simp) (by dsimp only; omega) (by dsimp only; omega))
  have hr : rightB ⟨[], (o : Int), (m : Int)⟩ = true := by simp [rightB, copyB]; omega
  rw [hr] at HR
  have hT := tokB_copy o m h1
  rw [hT] at hfit hlen ⊢
  rw [List.length_append] at hfit hlen
  have HV := hid (fun (W : World) (hW : Below w.heap.size w W) => varint_put W (h.later hW) (2 * m - 7) (by omega) (by omega) (by omega))
  have hno := fun q (hq : PenF g a q) => (h.own_lt hq).2
  have HNO := hid hno
  have hfit' := hid hfit; have hlen' := hid hlen
  have e0 : (((2 * m - 7 : Nat)) : Int) = ((m : Int) - 4) * 2 + 1 := by omega
  rw [e0] at HV
  have d1 : ((o : Int) == 0) = false := by simp; omega
  have d2 : (o == 0) = false := by simp; omega
  simp only [List.length_nil] at HR
  clear hr hT h hno hfit hlen
  go_enter Try.func103, Try.ntmps103
  go_wp2_with fail
  refine (HR.out _).mono ?_
  rintro r w1 ⟨rfl, hb1⟩
  have B1 : Blk w1 w.heap.size 30 #[.slice ad 0 cd, .int .i64 o, .int .i64 m] := (Blk.new w _ _).later hb1
  have x1 : w1.cell? ⟨w.heap.size, 1, none⟩ = some (.int .i64 o) := B1.cell 1
  have x2 : w1.cell? ⟨w.heap.size, 2, none⟩ = some (.int .i64 m) := B1.cell 2
  have hbw1 : Below w.heap.size w w1 := by (repeat (first | exact Below.refl _ _ | assumption | (refine below_alloc ?_ _) | (refine Below.setCell ?_ (by first | omega | (simp; done) | (simp; omega)) _) | (refine Below.drew ?_) | (refine below_drewN ?_ _) | (refine below_then (by assumption) ?_)))
  go_wp2_with fail
  refine (HV.out _ hbw1).mono ?_
  rintro r w2 ⟨rfl, a2, c2, hp2, ht2, ha2⟩
  have B2 := B1.tch ht2 (fun hf => by have := HNO.out _ hf; omega)
  have y1 : w2.cell? ⟨w.heap.size, 1, none⟩ = some (.int .i64 o) := B2.cell 1
  have HQ := hid (varint_put w2 hp2 (o - 1) (by omega) (by rw [List.length_append]; have := hfit'.out; omega) (by rw [List.length_append]; have := hlen'.out; omega))
  rw [show ((o - 1 : Nat) : Int) = (o : Int) - 1 by omega] at HQ
  clear x1 x2
  go_wp2_with fail
  refine HQ.out.mono ?_
  rintro r w3 ⟨rfl, hst⟩
  have hst2 := PenStep.later hbw1 (PenStep.trans (J := J) ht2 ha2 hst)
  rw [List.append_assoc] at hst2
  have HST := hid hst2
  clear hst hst2
  go_wp2
  first | go_end0 | refine bodyPost_ret (results_none rfl _ _ _) rfl ?_
  exact ⟨rfl, HST.out⟩
end Go.Proofs.Ytgcdbnbdbjaijaa
