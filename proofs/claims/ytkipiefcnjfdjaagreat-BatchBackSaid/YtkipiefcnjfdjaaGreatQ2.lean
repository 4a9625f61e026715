/- Needed by batchBack_walk, part 2: texts put together by shake.py; no condition. -/
import Derived.Test.YtkipiefcnjfdjaaGreatP9
import Derived.Test.YtkipiefcnjfdjaaGreatQ1
namespace Go.Proofs.YtkipiefcnjfdjaaGreat
open Go.RowKit Go.Bs Go.Maps
set_option linter.unusedVariables false
set_option linter.unusedSimpArgs false

theorem varB_pos0 (x : Nat) : 0 < (varB x).length := by
  unfold varB varF
  split <;> simp
theorem batchB_pos (b : Batch) : 0 < (batchB b).length := by
  have := varB_pos0 b.epoch.toNat
  unfold batchB aheadB
  simp only [List.length_append]
  omega
theorem batchB_small {b : Batch} (hR : batchR b = true) : (batchB b).length ≤ 10000000 := by
  have h1 := (batchB_len hR).2
  have h2 := varB_len (total b.entries)
  simp only [batchR, Bool.and_eq_true, decide_eq_true_eq] at hR
  obtain ⟨_, hf, htt, he⟩ := hR
  simp only [fitsR, decide_eq_true_eq] at hf
  have h3 := headsB_len b.entries b.base he
  omega
set_option maxRecDepth 100000 in
set_option maxHeartbeats 12800000 in
theorem batchBack_c (eb bb : Int) (lb : List Entry) (R : List UInt8) (cut : Int) (a ar : Option Addr) (n c nr cr : Nat) (w : World) (hb : rBatch.r (· < w.heap.size) w [.int .u64 eb, .int .u64 bb, .slice a n c] ⟨eb, bb, lb⟩) (hr : rBytes.r (· < w.heap.size) w [.slice ar nr cr] R) (hcut : -9223372036854775808 ≤ cut ∧ cut ≤ 9223372036854775807) :
    Calls Tryz.prog 5 #[.agg #[.int .u64 eb, .int .u64 bb, .slice a n c], .slice ar nr cr, .int .i64 cut] w fun r w' => r = .returned (.bool true) ∧ Below w.heap.size w w' := by
  obtain ⟨i0, hi, hz0, hz1, hz2⟩ := info_parts info8
  obtain ⟨rfl, hmr, _, _⟩ := sl_len hr
  have hbN : batchN ⟨eb, bb, lb⟩ := ⟨(batch_cells hb).choose_spec.choose_spec.2.1, (batch_cells hb).choose_spec.choose_spec.2.2.1, entries_bounds (batch_cells hb).choose_spec.choose_spec.2.2.2⟩
  obtain ⟨a', c', hcs, he0, hb0, hl⟩ := batch_cells hb
  simp only [List.cons.injEq, Value.slice.injEq, and_true, true_and] at hcs
  obtain ⟨rfl, rfl, rfl⟩ := hcs
  dsimp only at he0 hb0 hl
  have HL := hid hl
  have HR := hid hr
  have HLG := hid (fun (W : World) (hW : Below w.heap.size w W) => law25_long eb bb lb a _ c W (lift HL.out hW))
  clear hb hl hr
  cases hlg : long25 lb
  · rw [hlg] at HLG
    have ht : TameE lb := (long25_tame hlg).1
    have HBY := hid (fun (W : World) (hW : Below w.heap.size w W) => batch_bytes W ⟨eb, bb, lb⟩ a _ c hbN (lift HL.out hW) ht)
    unfold batchBytes at HBY
    by_cases h100 : R.length ≤ 100
    · have dR : decide ((100 : Int) < (R.length : Int)) = false := decide_eq_false (by omega)
      by_cases hRt : batchR ⟨eb, bb, lb⟩ = true
      · simp only [if_pos hRt] at HBY
        have hput := dec_put (b := ⟨eb, bb, lb⟩) (blk := blkS) [] hRt hbN (blkS_put hRt)
        have hputL := dec_put (b := ⟨eb, bb, lb⟩) (blk := blkL) [] hRt hbN (blkL_put hRt)
        have hputR := dec_put (b := ⟨eb, bb, lb⟩) (blk := blkS) R hRt hbN (blkS_put hRt)
        have hshort := fun (k : Nat) (hk : k < (batchB ⟨eb, bb, lb⟩).length) => dec_short (b := ⟨eb, bb, lb⟩) (cut := k) hRt hbN hk
        rw [List.append_nil, if_pos rfl] at hput hputL
        have hSz := batchB_small hRt
        have hpos := batchB_pos ⟨eb, bb, lb⟩
        generalize hS : batchB ⟨eb, bb, lb⟩ = SB at *
        have HD := hid (fun (W : World) (x : Option Addr) (k : Nat) (h : rBytes.r (· < W.heap.size) W [.slice x SB.length k] SB) => (by have := batch_decode W SB x _ k h (by omega); rw [hput] at this; exact this : Calls Tryz.prog 35 #[.slice x SB.length k] W fun r w' => ∃ v, r = .returned (.tuple #[.agg #[.int .u64 eb, .int .u64 bb, v], .agg #[.int .i64 0, .int .i64 0]]) ∧ rEntriesW.r (Fresh W w') w' [v] lb ∧ Below W.heap.size W w'))
        have HDL := hid (fun (W : World) (x : Option Addr) (k : Nat) (h : rBytes.r (· < W.heap.size) W [.slice x SB.length k] SB) => (by have := batch_decodeloose W SB x _ k h (by omega); rw [hputL] at this; exact this : Calls Tryz.prog 36 #[.slice x SB.length k] W fun r w' => ∃ v, r = .returned (.tuple #[.agg #[.int .u64 eb, .int .u64 bb, v], .bool true, .agg #[.int .i64 0, .int .i64 0]]) ∧ rEntriesW.r (Fresh W w') w' [v] lb ∧ Below W.heap.size W w'))
        have HDC := hid (fun (W : World) (x : Option Addr) (k m : Nat) (z : Int) (hm : m < SB.length) (hz : (m : Int) = z) (h : rBytes.r (· < W.heap.size) W [.slice x m k] (SB.take m)) => (by subst hz; have := batch_decode W (SB.take m) x _ k h (by simp; omega); obtain ⟨e1, e2, e3⟩ := hshort m hm; rw [e1, e2, e3] at this; exact this : Calls Tryz.prog 35 #[.slice x m k] W fun r w' => ∃ v, r = .returned (.tuple #[.agg #[.int .u64 0, .int .u64 0, v], .agg #[.int .i64 1, .int .i64 z]]) ∧ rEntriesW.r (Fresh W w') w' [v] [] ∧ Below W.heap.size W w'))
        have HSM := hid (fun (W : World) (x : Option Addr) (k : Nat) (a2 : Option Addr) (k2 : Nat) (h1 : rEntries.r (· < W.heap.size) W [.slice x lb.length k] lb) (h2 : rEntries.r (· < W.heap.size) W [.slice a2 lb.length k2] lb) => (by have := ref25_same ⟨eb, bb, lb⟩ ⟨eb, bb, lb⟩ x a2 _ k _ k2 W h1 h2; simp only [decide_true] at this; exact this : Calls Tryz.prog 26 #[.agg #[.int .u64 eb, .int .u64 bb, .slice x lb.length k], .agg #[.int .u64 eb, .int .u64 bb, .slice a2 lb.length k2]] W fun r w' => r = .returned (.bool true) ∧ Below W.heap.size W w'))
        clear hput hputL hshort hRt
        by_cases hR0 : R = []
        · subst hR0
          have dR0 : decide ((0 : Int) < (([] : List UInt8).length : Int)) = false := by simp
          clear hputR
          by_cases g1 : 0 ≤ cut
          · have d1 : decide (0 ≤ cut) = true := decide_eq_true g1
            by_cases g2 : (SB.length : Int) - 1 < cut
            · have d2 : decide ((SB.length : Int) - 1 < cut) = true := decide_eq_true g2
              go_enter Tryz.func5, Tryz.ntmps5
              go_wp2_with fail
              refine (HLG.out _ (by (repeat (first | with_reducible exact Below.refl _ _ | with_reducible assumption | (with_reducible refine below_alloc ?_ _) | (with_reducible refine Below.setCell ?_ (by first | omega | (simp; done) | (simp; omega)) _) | (with_reducible refine Below.drew ?_) | (with_reducible refine below_drewN ?_ _) | (refine below_then (by with_reducible assumption) ?_))))).mono ?_
              rintro r w1 ⟨rfl, hb1⟩
              have B1 : Blk w1 w.heap.size 25 #[.int .u64 eb, .int .u64 bb, .slice a lb.length c] := Blk.later (by (repeat (first | assumption | exact Blk.newAt _ _ _ (by first | (simp; done) | (simp; omega)) | refine Blk.alloc ?_ _ | refine Blk.drew ?_ | refine Blk.drewN ?_ _ | refine Blk.far ?_ (by first | (simp; done) | (simp; omega)) _))) hb1
              have hbw1 : Below w.heap.size w w1 := by (repeat (first | with_reducible exact Below.refl _ _ | with_reducible assumption | (with_reducible refine below_alloc ?_ _) | (with_reducible refine Below.setCell ?_ (by first | omega | (simp; done) | (simp; omega)) _) | (with_reducible refine Below.drew ?_) | (with_reducible refine below_drewN ?_ _) | (refine below_then (by with_reducible assumption) ?_)))
              obtain ⟨x0, x1, x2, _, _, _, l0⟩ := b_blk B1
              clear hb1

              go_wp2_with fail
              refine (HBY.out _ hbw1).mono ?_
              rintro r w2 ⟨v2, rfl, hv2, hb2⟩
              obtain ⟨a2, c2, hfv, hv2', _⟩ := sl_form hv2
              simp only [List.cons.injEq, and_true] at hfv
              subst hfv
              obtain ⟨_, qm1, qm2, qm3⟩ := sl_len hv2'
              have HV2 := hid (rBytes.mono hv2' (S' := (· < w2.heap.size)) fun q hq => hq.2)
              have B2 := B1.later hb2
              have hbw2 := below_then hb2 hbw1
              clear hv2 hv2' hb2 B1 x0 x1 x2 l0
              obtain ⟨x0, x1, x2, _, _, _, l0⟩ := b_blk B2

              go_wp2_with fail
              refine (HD.out _ a2 c2 HV2.out).mono ?_
              rintro r w3 ⟨v3, rfl, hv3, hb3⟩
              obtain ⟨a3, c3, hfv, hv3', _⟩ := sl_form (entriesW_entries hv3)
              simp only [List.cons.injEq, and_true] at hfv
              subst hfv
              have HX3 := hid (rEntries.mono hv3' (S' := (· < w3.heap.size)) fun q hq => hq.2)
              clear hv3 hv3'
              go_wp2_with fail
              have hbA : Below w2.heap.size w2 ((w3.alloc (.cells #[.int .u64 eb, .int .u64 bb, .slice a3 lb.length c3] 25)).alloc (.cells #[.int .i64 0, .int .i64 0] 48)) := by (repeat (first | with_reducible exact Below.refl _ _ | with_reducible assumption | (with_reducible refine below_alloc ?_ _) | (with_reducible refine Below.setCell ?_ (by first | omega | (simp; done) | (simp; omega)) _) | (with_reducible refine Below.drew ?_) | (with_reducible refine below_drewN ?_ _) | (refine below_then (by with_reducible assumption) ?_)))
              have hz3 : (((w3.alloc (.cells #[.int .u64 eb, .int .u64 bb, .slice a3 lb.length c3] 25)).alloc (.cells #[.int .i64 0, .int .i64 0] 48))).heap.size = w3.heap.size + 2 := by simp
              have D3 : Blk ((w3.alloc (.cells #[.int .u64 eb, .int .u64 bb, .slice a3 lb.length c3] 25)).alloc (.cells #[.int .i64 0, .int .i64 0] 48)) w3.heap.size 25 #[.int .u64 eb, .int .u64 bb, .slice a3 lb.length c3] := by (repeat (first | assumption | exact Blk.newAt _ _ _ (by first | (simp; done) | (simp; omega)) | refine Blk.alloc ?_ _ | refine Blk.drew ?_ | refine Blk.drewN ?_ _ | refine Blk.far ?_ (by first | (simp; done) | (simp; omega)) _))
              have F3 : Blk ((w3.alloc (.cells #[.int .u64 eb, .int .u64 bb, .slice a3 lb.length c3] 25)).alloc (.cells #[.int .i64 0, .int .i64 0] 48)) (w3.heap.size + 1) 48 #[.int .i64 0, .int .i64 0] := by (repeat (first | assumption | exact Blk.newAt _ _ _ (by first | (simp; done) | (simp; omega)) | refine Blk.alloc ?_ _ | refine Blk.drew ?_ | refine Blk.drewN ?_ _ | refine Blk.far ?_ (by first | (simp; done) | (simp; omega)) _))
              have HX3' := hid (lift HX3.out (show Below w3.heap.size w3 ((w3.alloc (.cells #[.int .u64 eb, .int .u64 bb, .slice a3 lb.length c3] 25)).alloc (.cells #[.int .i64 0, .int .i64 0] 48)) from by (repeat (first | with_reducible exact Below.refl _ _ | with_reducible assumption | (with_reducible refine below_alloc ?_ _) | (with_reducible refine Below.setCell ?_ (by first | omega | (simp; done) | (simp; omega)) _) | (with_reducible refine Below.drew ?_) | (with_reducible refine below_drewN ?_ _) | (refine below_then (by with_reducible assumption) ?_)))))
              have HV3 := hid (lift HV2.out hbA)
              have B3 := B2.later hbA
              have hbw3 := below_then hbA hbw2
              clear hb3 hbA B2 x0 x1 x2 l0
              generalize ((w3.alloc (.cells #[.int .u64 eb, .int .u64 bb, .slice a3 lb.length c3] 25)).alloc (.cells #[.int .i64 0, .int .i64 0] 48)) = v3 at *
              refine (HDL.out _ a2 c2 HV3.out).mono ?_
              rintro r w4 ⟨v4, rfl, hv4, hb4⟩
              obtain ⟨a4, c4, hfv, hv4', _⟩ := sl_form (entriesW_entries hv4)
              simp only [List.cons.injEq, and_true] at hfv
              subst hfv
              have HX4 := hid (rEntries.mono hv4' (S' := (· < w4.heap.size)) fun q hq => hq.2)
              have D4 := D3.later hb4; have F4 := F3.later hb4; have B4 := B3.later hb4
              have HX34 := hid (lift HX3'.out hb4)
              have HV4 := hid (lift HV3.out hb4)
              have hbw4 := below_then hb4 hbw3
              have hs4 := hb4.size
              clear hv4 hv4' hb4 D3 F3 B3
              obtain ⟨x0, x1, x2, _, _, _, l0⟩ := b_blk B4
              obtain ⟨y0, y1, y2, _, _, _, l1⟩ := b_blk D4
              obtain ⟨z0, z1, _, _, l2⟩ := f_blk F4
              go_wp2_with fail
              have hbA : Below w4.heap.size w4 ((w4.alloc (.cells #[.int .u64 eb, .int .u64 bb, .slice a4 lb.length c4] 25)).alloc (.cells #[.int .i64 0, .int .i64 0] 48)) := by (repeat (first | with_reducible exact Below.refl _ _ | with_reducible assumption | (with_reducible refine below_alloc ?_ _) | (with_reducible refine Below.setCell ?_ (by first | omega | (simp; done) | (simp; omega)) _) | (with_reducible refine Below.drew ?_) | (with_reducible refine below_drewN ?_ _) | (refine below_then (by with_reducible assumption) ?_)))
              have HX5 := hid (lift HX34.out hbA)
              have HY5 := hid (lift HX4.out hbA)
              have HV5 := hid (lift HV4.out hbA)
              have HL5 := hid (lift HL.out (below_then hbA hbw4))
              have B5 := B4.later hbA; have D5 := D4.later hbA
              have L5 : Blk ((w4.alloc (.cells #[.int .u64 eb, .int .u64 bb, .slice a4 lb.length c4] 25)).alloc (.cells #[.int .i64 0, .int .i64 0] 48)) w4.heap.size 25 #[.int .u64 eb, .int .u64 bb, .slice a4 lb.length c4] := by (repeat (first | assumption | exact Blk.newAt _ _ _ (by first | (simp; done) | (simp; omega)) | refine Blk.alloc ?_ _ | refine Blk.drew ?_ | refine Blk.drewN ?_ _ | refine Blk.far ?_ (by first | (simp; done) | (simp; omega)) _))
              have hbw5 := below_then hbA hbw4
              clear hbA B4 D4 F4 x0 x1 x2 l0 y0 y1 y2 l1 z0 z1 l2
              generalize ((w4.alloc (.cells #[.int .u64 eb, .int .u64 bb, .slice a4 lb.length c4] 25)).alloc (.cells #[.int .i64 0, .int .i64 0] 48)) = v5 at *
              refine (HSM.out _ a3 c3 a c HX5.out HL5.out).mono ?_
              rintro r w6 ⟨rfl, hb6⟩
              have B6 := B5.later hb6; have L6 := L5.later hb6
              have HY6 := hid (lift HY5.out hb6)
              have HV6 := hid (lift HV5.out hb6)
              have HL6 := hid (lift HL5.out hb6)
              have hbw6 := below_then hb6 hbw5
              clear hb6 B5 D5 L5
              obtain ⟨x0, x1, x2, _, _, _, l0⟩ := b_blk B6
              obtain ⟨y0, y1, y2, _, _, _, l1⟩ := b_blk L6
              go_wp2_with fail
              refine (HSM.out _ a4 c4 a c HY6.out HL6.out).mono ?_
              rintro r w7 ⟨rfl, hb7⟩
              have HV7 := hid (lift HV6.out hb7)
              have hbw7 := below_then hb7 hbw6
              clear hb7 B6 L6 x0 x1 x2 l0 y0 y1 y2 l1
              have g9 : 1 ≤ (SB.length : Int) := by omega
              have g10 : (SB.length : Int) - 1 ≤ (c2 : Int) := by omega
              have g11 : (SB.length : Int) ≤ (c2 : Int) := by omega
              have g12 : ¬ (SB.length : Int) - 1 < 0 := by omega
              go_wp2_with fail

              refine (HDC.out _ a2 c2 (SB.length - 1) ((SB.length : Int) - 1) (by omega) (by omega) (sl_take HV7.out (by omega))).mono ?_
              rintro r w8 ⟨v8, rfl, hv8, hb8⟩
              obtain ⟨a8, c8, hfv, _, _⟩ := sl_form (entriesW_entries hv8)
              simp only [List.cons.injEq, and_true] at hfv
              subst hfv
              simp only [List.length_nil] at *
              have hbw8 := below_then hb8 hbw7
              have hbw9 : Below w.heap.size w ((w8.alloc (.cells #[.int .u64 0, .int .u64 0, .slice a8 0 c8] 25)).alloc (.cells #[.int .i64 1, .int .i64 ((SB.length : Int) - 1)] 48)) := by (repeat (first | with_reducible exact Below.refl _ _ | with_reducible assumption | (with_reducible refine below_alloc ?_ _) | (with_reducible refine Below.setCell ?_ (by first | omega | (simp; done) | (simp; omega)) _) | (with_reducible refine Below.drew ?_) | (with_reducible refine below_drewN ?_ _) | (refine below_then (by with_reducible assumption) ?_)))
              clear hb8 hv8
              go_wp2_with fail
              refine (live25 _).mono ?_
              rintro r w99 ⟨rfl, hb99⟩
              have hbe := below_then hb99 hbw9
              go_wp2
              go_ret
              exact ⟨rfl, hbe⟩
            · obtain ⟨m, rfl⟩ : ∃ m : Nat, cut = (m : Int) := ⟨cut.toNat, by omega⟩
              have d2 : decide ((SB.length : Int) - 1 < (m : Int)) = false := decide_eq_false g2
              go_enter Tryz.func5, Tryz.ntmps5
              go_wp2_with fail
              refine (HLG.out _ (by (repeat (first | with_reducible exact Below.refl _ _ | with_reducible assumption | (with_reducible refine below_alloc ?_ _) | (with_reducible refine Below.setCell ?_ (by first | omega | (simp; done) | (simp; omega)) _) | (with_reducible refine Below.drew ?_) | (with_reducible refine below_drewN ?_ _) | (refine below_then (by with_reducible assumption) ?_))))).mono ?_
              rintro r w1 ⟨rfl, hb1⟩
              have B1 : Blk w1 w.heap.size 25 #[.int .u64 eb, .int .u64 bb, .slice a lb.length c] := Blk.later (by (repeat (first | assumption | exact Blk.newAt _ _ _ (by first | (simp; done) | (simp; omega)) | refine Blk.alloc ?_ _ | refine Blk.drew ?_ | refine Blk.drewN ?_ _ | refine Blk.far ?_ (by first | (simp; done) | (simp; omega)) _))) hb1
              have hbw1 : Below w.heap.size w w1 := by (repeat (first | with_reducible exact Below.refl _ _ | with_reducible assumption | (with_reducible refine below_alloc ?_ _) | (with_reducible refine Below.setCell ?_ (by first | omega | (simp; done) | (simp; omega)) _) | (with_reducible refine Below.drew ?_) | (with_reducible refine below_drewN ?_ _) | (refine below_then (by with_reducible assumption) ?_)))
              obtain ⟨x0, x1, x2, _, _, _, l0⟩ := b_blk B1
              clear hb1

              go_wp2_with fail
              refine (HBY.out _ hbw1).mono ?_
              rintro r w2 ⟨v2, rfl, hv2, hb2⟩
              obtain ⟨a2, c2, hfv, hv2', _⟩ := sl_form hv2
              simp only [List.cons.injEq, and_true] at hfv
              subst hfv
              obtain ⟨_, qm1, qm2, qm3⟩ := sl_len hv2'
              have HV2 := hid (rBytes.mono hv2' (S' := (· < w2.heap.size)) fun q hq => hq.2)
              have B2 := B1.later hb2
              have hbw2 := below_then hb2 hbw1
              clear hv2 hv2' hb2 B1 x0 x1 x2 l0
              obtain ⟨x0, x1, x2, _, _, _, l0⟩ := b_blk B2

              go_wp2_with fail
              refine (HD.out _ a2 c2 HV2.out).mono ?_
              rintro r w3 ⟨v3, rfl, hv3, hb3⟩
              obtain ⟨a3, c3, hfv, hv3', _⟩ := sl_form (entriesW_entries hv3)
              simp only [List.cons.injEq, and_true] at hfv
              subst hfv
              have HX3 := hid (rEntries.mono hv3' (S' := (· < w3.heap.size)) fun q hq => hq.2)
              clear hv3 hv3'
              go_wp2_with fail
              have hbA : Below w2.heap.size w2 ((w3.alloc (.cells #[.int .u64 eb, .int .u64 bb, .slice a3 lb.length c3] 25)).alloc (.cells #[.int .i64 0, .int .i64 0] 48)) := by (repeat (first | with_reducible exact Below.refl _ _ | with_reducible assumption | (with_reducible refine below_alloc ?_ _) | (with_reducible refine Below.setCell ?_ (by first | omega | (simp; done) | (simp; omega)) _) | (with_reducible refine Below.drew ?_) | (with_reducible refine below_drewN ?_ _) | (refine below_then (by with_reducible assumption) ?_)))
              have hz3 : (((w3.alloc (.cells #[.int .u64 eb, .int .u64 bb, .slice a3 lb.length c3] 25)).alloc (.cells #[.int .i64 0, .int .i64 0] 48))).heap.size = w3.heap.size + 2 := by simp
              have D3 : Blk ((w3.alloc (.cells #[.int .u64 eb, .int .u64 bb, .slice a3 lb.length c3] 25)).alloc (.cells #[.int .i64 0, .int .i64 0] 48)) w3.heap.size 25 #[.int .u64 eb, .int .u64 bb, .slice a3 lb.length c3] := by (repeat (first | assumption | exact Blk.newAt _ _ _ (by first | (simp; done) | (simp; omega)) | refine Blk.alloc ?_ _ | refine Blk.drew ?_ | refine Blk.drewN ?_ _ | refine Blk.far ?_ (by first | (simp; done) | (simp; omega)) _))
              have F3 : Blk ((w3.alloc (.cells #[.int .u64 eb, .int .u64 bb, .slice a3 lb.length c3] 25)).alloc (.cells #[.int .i64 0, .int .i64 0] 48)) (w3.heap.size + 1) 48 #[.int .i64 0, .int .i64 0] := by (repeat (first | assumption | exact Blk.newAt _ _ _ (by first | (simp; done) | (simp; omega)) | refine Blk.alloc ?_ _ | refine Blk.drew ?_ | refine Blk.drewN ?_ _ | refine Blk.far ?_ (by first | (simp; done) | (simp; omega)) _))
              have HX3' := hid (lift HX3.out (show Below w3.heap.size w3 ((w3.alloc (.cells #[.int .u64 eb, .int .u64 bb, .slice a3 lb.length c3] 25)).alloc (.cells #[.int .i64 0, .int .i64 0] 48)) from by (repeat (first | with_reducible exact Below.refl _ _ | with_reducible assumption | (with_reducible refine below_alloc ?_ _) | (with_reducible refine Below.setCell ?_ (by first | omega | (simp; done) | (simp; omega)) _) | (with_reducible refine Below.drew ?_) | (with_reducible refine below_drewN ?_ _) | (refine below_then (by with_reducible assumption) ?_)))))
              have HV3 := hid (lift HV2.out hbA)
              have B3 := B2.later hbA
              have hbw3 := below_then hbA hbw2
              clear hb3 hbA B2 x0 x1 x2 l0
              generalize ((w3.alloc (.cells #[.int .u64 eb, .int .u64 bb, .slice a3 lb.length c3] 25)).alloc (.cells #[.int .i64 0, .int .i64 0] 48)) = v3 at *
              refine (HDL.out _ a2 c2 HV3.out).mono ?_
              rintro r w4 ⟨v4, rfl, hv4, hb4⟩
              obtain ⟨a4, c4, hfv, hv4', _⟩ := sl_form (entriesW_entries hv4)
              simp only [List.cons.injEq, and_true] at hfv
              subst hfv
              have HX4 := hid (rEntries.mono hv4' (S' := (· < w4.heap.size)) fun q hq => hq.2)
              have D4 := D3.later hb4; have F4 := F3.later hb4; have B4 := B3.later hb4
              have HX34 := hid (lift HX3'.out hb4)
              have HV4 := hid (lift HV3.out hb4)
              have hbw4 := below_then hb4 hbw3
              have hs4 := hb4.size
              clear hv4 hv4' hb4 D3 F3 B3
              obtain ⟨x0, x1, x2, _, _, _, l0⟩ := b_blk B4
              obtain ⟨y0, y1, y2, _, _, _, l1⟩ := b_blk D4
              obtain ⟨z0, z1, _, _, l2⟩ := f_blk F4
              go_wp2_with fail
              have hbA : Below w4.heap.size w4 ((w4.alloc (.cells #[.int .u64 eb, .int .u64 bb, .slice a4 lb.length c4] 25)).alloc (.cells #[.int .i64 0, .int .i64 0] 48)) := by (repeat (first | with_reducible exact Below.refl _ _ | with_reducible assumption | (with_reducible refine below_alloc ?_ _) | (with_reducible refine Below.setCell ?_ (by first | omega | (simp; done) | (simp; omega)) _) | (with_reducible refine Below.drew ?_) | (with_reducible refine below_drewN ?_ _) | (refine below_then (by with_reducible assumption) ?_)))
              have HX5 := hid (lift HX34.out hbA)
              have HY5 := hid (lift HX4.out hbA)
              have HV5 := hid (lift HV4.out hbA)
              have HL5 := hid (lift HL.out (below_then hbA hbw4))
              have B5 := B4.later hbA; have D5 := D4.later hbA
              have L5 : Blk ((w4.alloc (.cells #[.int .u64 eb, .int .u64 bb, .slice a4 lb.length c4] 25)).alloc (.cells #[.int .i64 0, .int .i64 0] 48)) w4.heap.size 25 #[.int .u64 eb, .int .u64 bb, .slice a4 lb.length c4] := by (repeat (first | assumption | exact Blk.newAt _ _ _ (by first | (simp; done) | (simp; omega)) | refine Blk.alloc ?_ _ | refine Blk.drew ?_ | refine Blk.drewN ?_ _ | refine Blk.far ?_ (by first | (simp; done) | (simp; omega)) _))
              have hbw5 := below_then hbA hbw4
              clear hbA B4 D4 F4 x0 x1 x2 l0 y0 y1 y2 l1 z0 z1 l2
              generalize ((w4.alloc (.cells #[.int .u64 eb, .int .u64 bb, .slice a4 lb.length c4] 25)).alloc (.cells #[.int .i64 0, .int .i64 0] 48)) = v5 at *
              refine (HSM.out _ a3 c3 a c HX5.out HL5.out).mono ?_
              rintro r w6 ⟨rfl, hb6⟩
              have B6 := B5.later hb6; have L6 := L5.later hb6
              have HY6 := hid (lift HY5.out hb6)
              have HV6 := hid (lift HV5.out hb6)
              have HL6 := hid (lift HL5.out hb6)
              have hbw6 := below_then hb6 hbw5
              clear hb6 B5 D5 L5
              obtain ⟨x0, x1, x2, _, _, _, l0⟩ := b_blk B6
              obtain ⟨y0, y1, y2, _, _, _, l1⟩ := b_blk L6
              go_wp2_with fail
              refine (HSM.out _ a4 c4 a c HY6.out HL6.out).mono ?_
              rintro r w7 ⟨rfl, hb7⟩
              have HV7 := hid (lift HV6.out hb7)
              have hbw7 := below_then hb7 hbw6
              clear hb7 B6 L6 x0 x1 x2 l0 y0 y1 y2 l1
              have g9 : 1 ≤ (SB.length : Int) := by omega
              have g10 : (SB.length : Int) - 1 ≤ (c2 : Int) := by omega
              have g11 : (SB.length : Int) ≤ (c2 : Int) := by omega
              have g12 : ¬ (SB.length : Int) - 1 < 0 := by omega
              go_wp2_with fail

              refine (HDC.out _ a2 c2 (m) ((m : Int)) (by omega) (by omega) (sl_take HV7.out (by omega))).mono ?_
              rintro r w8 ⟨v8, rfl, hv8, hb8⟩
              obtain ⟨a8, c8, hfv, _, _⟩ := sl_form (entriesW_entries hv8)
              simp only [List.cons.injEq, and_true] at hfv
              subst hfv
              simp only [List.length_nil] at *
              have hbw8 := below_then hb8 hbw7
              have hbw9 : Below w.heap.size w ((w8.alloc (.cells #[.int .u64 0, .int .u64 0, .slice a8 0 c8] 25)).alloc (.cells #[.int .i64 1, .int .i64 ((m : Int))] 48)) := by (repeat (first | with_reducible exact Below.refl _ _ | with_reducible assumption | (with_reducible refine below_alloc ?_ _) | (with_reducible refine Below.setCell ?_ (by first | omega | (simp; done) | (simp; omega)) _) | (with_reducible refine Below.drew ?_) | (with_reducible refine below_drewN ?_ _) | (refine below_then (by with_reducible assumption) ?_)))
              clear hb8 hv8
              go_wp2_with fail
              refine (live25 _).mono ?_
              rintro r w99 ⟨rfl, hb99⟩
              have hbe := below_then hb99 hbw9
              go_wp2
              go_ret
              exact ⟨rfl, hbe⟩
          · have d1 : decide (0 ≤ cut) = false := decide_eq_false g1
            go_enter Tryz.func5, Tryz.ntmps5
            go_wp2_with fail
            refine (HLG.out _ (by (repeat (first | with_reducible exact Below.refl _ _ | with_reducible assumption | (with_reducible refine below_alloc ?_ _) | (with_reducible refine Below.setCell ?_ (by first | omega | (simp; done) | (simp; omega)) _) | (with_reducible refine Below.drew ?_) | (with_reducible refine below_drewN ?_ _) | (refine below_then (by with_reducible assumption) ?_))))).mono ?_
            rintro r w1 ⟨rfl, hb1⟩
            have B1 : Blk w1 w.heap.size 25 #[.int .u64 eb, .int .u64 bb, .slice a lb.length c] := Blk.later (by (repeat (first | assumption | exact Blk.newAt _ _ _ (by first | (simp; done) | (simp; omega)) | refine Blk.alloc ?_ _ | refine Blk.drew ?_ | refine Blk.drewN ?_ _ | refine Blk.far ?_ (by first | (simp; done) | (simp; omega)) _))) hb1
            have hbw1 : Below w.heap.size w w1 := by (repeat (first | with_reducible exact Below.refl _ _ | with_reducible assumption | (with_reducible refine below_alloc ?_ _) | (with_reducible refine Below.setCell ?_ (by first | omega | (simp; done) | (simp; omega)) _) | (with_reducible refine Below.drew ?_) | (with_reducible refine below_drewN ?_ _) | (refine below_then (by with_reducible assumption) ?_)))
            obtain ⟨x0, x1, x2, _, _, _, l0⟩ := b_blk B1
            clear hb1

            go_wp2_with fail
            refine (HBY.out _ hbw1).mono ?_
            rintro r w2 ⟨v2, rfl, hv2, hb2⟩
            obtain ⟨a2, c2, hfv, hv2', _⟩ := sl_form hv2
            simp only [List.cons.injEq, and_true] at hfv
            subst hfv
            obtain ⟨_, qm1, qm2, qm3⟩ := sl_len hv2'
            have HV2 := hid (rBytes.mono hv2' (S' := (· < w2.heap.size)) fun q hq => hq.2)
            have B2 := B1.later hb2
            have hbw2 := below_then hb2 hbw1
            clear hv2 hv2' hb2 B1 x0 x1 x2 l0
            obtain ⟨x0, x1, x2, _, _, _, l0⟩ := b_blk B2

            go_wp2_with fail
            refine (HD.out _ a2 c2 HV2.out).mono ?_
            rintro r w3 ⟨v3, rfl, hv3, hb3⟩
            obtain ⟨a3, c3, hfv, hv3', _⟩ := sl_form (entriesW_entries hv3)
            simp only [List.cons.injEq, and_true] at hfv
            subst hfv
            have HX3 := hid (rEntries.mono hv3' (S' := (· < w3.heap.size)) fun q hq => hq.2)
            clear hv3 hv3'
            go_wp2_with fail
            have hbA : Below w2.heap.size w2 ((w3.alloc (.cells #[.int .u64 eb, .int .u64 bb, .slice a3 lb.length c3] 25)).alloc (.cells #[.int .i64 0, .int .i64 0] 48)) := by (repeat (first | with_reducible exact Below.refl _ _ | with_reducible assumption | (with_reducible refine below_alloc ?_ _) | (with_reducible refine Below.setCell ?_ (by first | omega | (simp; done) | (simp; omega)) _) | (with_reducible refine Below.drew ?_) | (with_reducible refine below_drewN ?_ _) | (refine below_then (by with_reducible assumption) ?_)))
            have hz3 : (((w3.alloc (.cells #[.int .u64 eb, .int .u64 bb, .slice a3 lb.length c3] 25)).alloc (.cells #[.int .i64 0, .int .i64 0] 48))).heap.size = w3.heap.size + 2 := by simp
            have D3 : Blk ((w3.alloc (.cells #[.int .u64 eb, .int .u64 bb, .slice a3 lb.length c3] 25)).alloc (.cells #[.int .i64 0, .int .i64 0] 48)) w3.heap.size 25 #[.int .u64 eb, .int .u64 bb, .slice a3 lb.length c3] := by (repeat (first | assumption | exact Blk.newAt _ _ _ (by first | (simp; done) | (simp; omega)) | refine Blk.alloc ?_ _ | refine Blk.drew ?_ | refine Blk.drewN ?_ _ | refine Blk.far ?_ (by first | (simp; done) | (simp; omega)) _))
            have F3 : Blk ((w3.alloc (.cells #[.int .u64 eb, .int .u64 bb, .slice a3 lb.length c3] 25)).alloc (.cells #[.int .i64 0, .int .i64 0] 48)) (w3.heap.size + 1) 48 #[.int .i64 0, .int .i64 0] := by (repeat (first | assumption | exact Blk.newAt _ _ _ (by first | (simp; done) | (simp; omega)) | refine Blk.alloc ?_ _ | refine Blk.drew ?_ | refine Blk.drewN ?_ _ | refine Blk.far ?_ (by first | (simp; done) | (simp; omega)) _))
            have HX3' := hid (lift HX3.out (show Below w3.heap.size w3 ((w3.alloc (.cells #[.int .u64 eb, .int .u64 bb, .slice a3 lb.length c3] 25)).alloc (.cells #[.int .i64 0, .int .i64 0] 48)) from by (repeat (first | with_reducible exact Below.refl _ _ | with_reducible assumption | (with_reducible refine below_alloc ?_ _) | (with_reducible refine Below.setCell ?_ (by first | omega | (simp; done) | (simp; omega)) _) | (with_reducible refine Below.drew ?_) | (with_reducible refine below_drewN ?_ _) | (refine below_then (by with_reducible assumption) ?_)))))
            have HV3 := hid (lift HV2.out hbA)
            have B3 := B2.later hbA
            have hbw3 := below_then hbA hbw2
            clear hb3 hbA B2 x0 x1 x2 l0
            generalize ((w3.alloc (.cells #[.int .u64 eb, .int .u64 bb, .slice a3 lb.length c3] 25)).alloc (.cells #[.int .i64 0, .int .i64 0] 48)) = v3 at *
            refine (HDL.out _ a2 c2 HV3.out).mono ?_
            rintro r w4 ⟨v4, rfl, hv4, hb4⟩
            obtain ⟨a4, c4, hfv, hv4', _⟩ := sl_form (entriesW_entries hv4)
            simp only [List.cons.injEq, and_true] at hfv
            subst hfv
            have HX4 := hid (rEntries.mono hv4' (S' := (· < w4.heap.size)) fun q hq => hq.2)
            have D4 := D3.later hb4; have F4 := F3.later hb4; have B4 := B3.later hb4
            have HX34 := hid (lift HX3'.out hb4)
            have HV4 := hid (lift HV3.out hb4)
            have hbw4 := below_then hb4 hbw3
            have hs4 := hb4.size
            clear hv4 hv4' hb4 D3 F3 B3
            obtain ⟨x0, x1, x2, _, _, _, l0⟩ := b_blk B4
            obtain ⟨y0, y1, y2, _, _, _, l1⟩ := b_blk D4
            obtain ⟨z0, z1, _, _, l2⟩ := f_blk F4
            go_wp2_with fail
            have hbA : Below w4.heap.size w4 ((w4.alloc (.cells #[.int .u64 eb, .int .u64 bb, .slice a4 lb.length c4] 25)).alloc (.cells #[.int .i64 0, .int .i64 0] 48)) := by (repeat (first | with_reducible exact Below.refl _ _ | with_reducible assumption | (with_reducible refine below_alloc ?_ _) | (with_reducible refine Below.setCell ?_ (by first | omega | (simp; done) | (simp; omega)) _) | (with_reducible refine Below.drew ?_) | (with_reducible refine below_drewN ?_ _) | (refine below_then (by with_reducible assumption) ?_)))
            have HX5 := hid (lift HX34.out hbA)
            have HY5 := hid (lift HX4.out hbA)
            have HV5 := hid (lift HV4.out hbA)
            have HL5 := hid (lift HL.out (below_then hbA hbw4))
            have B5 := B4.later hbA; have D5 := D4.later hbA
            have L5 : Blk ((w4.alloc (.cells #[.int .u64 eb, .int .u64 bb, .slice a4 lb.length c4] 25)).alloc (.cells #[.int .i64 0, .int .i64 0] 48)) w4.heap.size 25 #[.int .u64 eb, .int .u64 bb, .slice a4 lb.length c4] := by (repeat (first | assumption | exact Blk.newAt _ _ _ (by first | (simp; done) | (simp; omega)) | refine Blk.alloc ?_ _ | refine Blk.drew ?_ | refine Blk.drewN ?_ _ | refine Blk.far ?_ (by first | (simp; done) | (simp; omega)) _))
            have hbw5 := below_then hbA hbw4
            clear hbA B4 D4 F4 x0 x1 x2 l0 y0 y1 y2 l1 z0 z1 l2
            generalize ((w4.alloc (.cells #[.int .u64 eb, .int .u64 bb, .slice a4 lb.length c4] 25)).alloc (.cells #[.int .i64 0, .int .i64 0] 48)) = v5 at *
            refine (HSM.out _ a3 c3 a c HX5.out HL5.out).mono ?_
            rintro r w6 ⟨rfl, hb6⟩
            have B6 := B5.later hb6; have L6 := L5.later hb6
            have HY6 := hid (lift HY5.out hb6)
            have HV6 := hid (lift HV5.out hb6)
            have HL6 := hid (lift HL5.out hb6)
            have hbw6 := below_then hb6 hbw5
            clear hb6 B5 D5 L5
            obtain ⟨x0, x1, x2, _, _, _, l0⟩ := b_blk B6
            obtain ⟨y0, y1, y2, _, _, _, l1⟩ := b_blk L6
            go_wp2_with fail
            refine (HSM.out _ a4 c4 a c HY6.out HL6.out).mono ?_
            rintro r w7 ⟨rfl, hb7⟩
            have HV7 := hid (lift HV6.out hb7)
            have hbw7 := below_then hb7 hbw6
            clear hb7 B6 L6 x0 x1 x2 l0 y0 y1 y2 l1
            have g9 : 1 ≤ (SB.length : Int) := by omega
            have g10 : (SB.length : Int) - 1 ≤ (c2 : Int) := by omega
            have g11 : (SB.length : Int) ≤ (c2 : Int) := by omega
            have g12 : ¬ (SB.length : Int) - 1 < 0 := by omega
            go_wp2_with fail

            refine (HDC.out _ a2 c2 (0) (0) (by omega) (by omega) (sl_take HV7.out (by omega))).mono ?_
            rintro r w8 ⟨v8, rfl, hv8, hb8⟩
            obtain ⟨a8, c8, hfv, _, _⟩ := sl_form (entriesW_entries hv8)
            simp only [List.cons.injEq, and_true] at hfv
            subst hfv
            simp only [List.length_nil] at *
            have hbw8 := below_then hb8 hbw7
            have hbw9 : Below w.heap.size w ((w8.alloc (.cells #[.int .u64 0, .int .u64 0, .slice a8 0 c8] 25)).alloc (.cells #[.int .i64 1, .int .i64 (0)] 48)) := by (repeat (first | with_reducible exact Below.refl _ _ | with_reducible assumption | (with_reducible refine below_alloc ?_ _) | (with_reducible refine Below.setCell ?_ (by first | omega | (simp; done) | (simp; omega)) _) | (with_reducible refine Below.drew ?_) | (with_reducible refine below_drewN ?_ _) | (refine below_then (by with_reducible assumption) ?_)))
            clear hb8 hv8
            go_wp2_with fail
            refine (live25 _).mono ?_
            rintro r w99 ⟨rfl, hb99⟩
            have hbe := below_then hb99 hbw9
            go_wp2
            go_ret
            exact ⟨rfl, hbe⟩
        · rw [if_neg hR0] at hputR
          have hRl : 0 < R.length := List.length_pos_iff.2 hR0
          have dR0 : decide ((0 : Int) < (R.length : Int)) = true := decide_eq_true (by omega)
          have HDR := hid (fun (W : World) (x : Option Addr) (k : Nat) (h : rBytes.r (· < W.heap.size) W [.slice x (SB.length + R.length) k] (SB ++ R)) => (by have := batch_decode W (SB ++ R) x _ k h (by simp; omega); rw [hputR] at this; exact this : Calls Tryz.prog 35 #[.slice x (SB.length + R.length) k] W fun r w' => ∃ v, r = .returned (.tuple #[.agg #[.int .u64 0, .int .u64 0, v], .agg #[.int .i64 9, .int .i64 (SB.length : Int)]]) ∧ rEntriesW.r (Fresh W w') w' [v] [] ∧ Below W.heap.size W w'))
          clear hputR hR0
          by_cases g1 : 0 ≤ cut
          · have d1 : decide (0 ≤ cut) = true := decide_eq_true g1
            by_cases g2 : (SB.length : Int) - 1 < cut
            · have d2 : decide ((SB.length : Int) - 1 < cut) = true := decide_eq_true g2
              go_enter Tryz.func5, Tryz.ntmps5
              go_wp2_with fail
              refine (HLG.out _ (by (repeat (first | with_reducible exact Below.refl _ _ | with_reducible assumption | (with_reducible refine below_alloc ?_ _) | (with_reducible refine Below.setCell ?_ (by first | omega | (simp; done) | (simp; omega)) _) | (with_reducible refine Below.drew ?_) | (with_reducible refine below_drewN ?_ _) | (refine below_then (by with_reducible assumption) ?_))))).mono ?_
              rintro r w1 ⟨rfl, hb1⟩
              have B1 : Blk w1 w.heap.size 25 #[.int .u64 eb, .int .u64 bb, .slice a lb.length c] := Blk.later (by (repeat (first | assumption | exact Blk.newAt _ _ _ (by first | (simp; done) | (simp; omega)) | refine Blk.alloc ?_ _ | refine Blk.drew ?_ | refine Blk.drewN ?_ _ | refine Blk.far ?_ (by first | (simp; done) | (simp; omega)) _))) hb1
              have hbw1 : Below w.heap.size w w1 := by (repeat (first | with_reducible exact Below.refl _ _ | with_reducible assumption | (with_reducible refine below_alloc ?_ _) | (with_reducible refine Below.setCell ?_ (by first | omega | (simp; done) | (simp; omega)) _) | (with_reducible refine Below.drew ?_) | (with_reducible refine below_drewN ?_ _) | (refine below_then (by with_reducible assumption) ?_)))
              obtain ⟨x0, x1, x2, _, _, _, l0⟩ := b_blk B1
              clear hb1

              go_wp2_with fail
              refine (HBY.out _ hbw1).mono ?_
              rintro r w2 ⟨v2, rfl, hv2, hb2⟩
              obtain ⟨a2, c2, hfv, hv2', _⟩ := sl_form hv2
              simp only [List.cons.injEq, and_true] at hfv
              subst hfv
              obtain ⟨_, qm1, qm2, qm3⟩ := sl_len hv2'
              have HV2 := hid (rBytes.mono hv2' (S' := (· < w2.heap.size)) fun q hq => hq.2)
              have B2 := B1.later hb2
              have hbw2 := below_then hb2 hbw1
              clear hv2 hv2' hb2 B1 x0 x1 x2 l0
              obtain ⟨x0, x1, x2, _, _, _, l0⟩ := b_blk B2

              go_wp2_with fail
              refine (HD.out _ a2 c2 HV2.out).mono ?_
              rintro r w3 ⟨v3, rfl, hv3, hb3⟩
              obtain ⟨a3, c3, hfv, hv3', _⟩ := sl_form (entriesW_entries hv3)
              simp only [List.cons.injEq, and_true] at hfv
              subst hfv
              have HX3 := hid (rEntries.mono hv3' (S' := (· < w3.heap.size)) fun q hq => hq.2)
              clear hv3 hv3'
              go_wp2_with fail
              have hbA : Below w2.heap.size w2 ((w3.alloc (.cells #[.int .u64 eb, .int .u64 bb, .slice a3 lb.length c3] 25)).alloc (.cells #[.int .i64 0, .int .i64 0] 48)) := by (repeat (first | with_reducible exact Below.refl _ _ | with_reducible assumption | (with_reducible refine below_alloc ?_ _) | (with_reducible refine Below.setCell ?_ (by first | omega | (simp; done) | (simp; omega)) _) | (with_reducible refine Below.drew ?_) | (with_reducible refine below_drewN ?_ _) | (refine below_then (by with_reducible assumption) ?_)))
              have hz3 : (((w3.alloc (.cells #[.int .u64 eb, .int .u64 bb, .slice a3 lb.length c3] 25)).alloc (.cells #[.int .i64 0, .int .i64 0] 48))).heap.size = w3.heap.size + 2 := by simp
              have D3 : Blk ((w3.alloc (.cells #[.int .u64 eb, .int .u64 bb, .slice a3 lb.length c3] 25)).alloc (.cells #[.int .i64 0, .int .i64 0] 48)) w3.heap.size 25 #[.int .u64 eb, .int .u64 bb, .slice a3 lb.length c3] := by (repeat (first | assumption | exact Blk.newAt _ _ _ (by first | (simp; done) | (simp; omega)) | refine Blk.alloc ?_ _ | refine Blk.drew ?_ | refine Blk.drewN ?_ _ | refine Blk.far ?_ (by first | (simp; done) | (simp; omega)) _))
              have F3 : Blk ((w3.alloc (.cells #[.int .u64 eb, .int .u64 bb, .slice a3 lb.length c3] 25)).alloc (.cells #[.int .i64 0, .int .i64 0] 48)) (w3.heap.size + 1) 48 #[.int .i64 0, .int .i64 0] := by (repeat (first | assumption | exact Blk.newAt _ _ _ (by first | (simp; done) | (simp; omega)) | refine Blk.alloc ?_ _ | refine Blk.drew ?_ | refine Blk.drewN ?_ _ | refine Blk.far ?_ (by first | (simp; done) | (simp; omega)) _))
              have HX3' := hid (lift HX3.out (show Below w3.heap.size w3 ((w3.alloc (.cells #[.int .u64 eb, .int .u64 bb, .slice a3 lb.length c3] 25)).alloc (.cells #[.int .i64 0, .int .i64 0] 48)) from by (repeat (first | with_reducible exact Below.refl _ _ | with_reducible assumption | (with_reducible refine below_alloc ?_ _) | (with_reducible refine Below.setCell ?_ (by first | omega | (simp; done) | (simp; omega)) _) | (with_reducible refine Below.drew ?_) | (with_reducible refine below_drewN ?_ _) | (refine below_then (by with_reducible assumption) ?_)))))
              have HV3 := hid (lift HV2.out hbA)
              have B3 := B2.later hbA
              have hbw3 := below_then hbA hbw2
              clear hb3 hbA B2 x0 x1 x2 l0
              generalize ((w3.alloc (.cells #[.int .u64 eb, .int .u64 bb, .slice a3 lb.length c3] 25)).alloc (.cells #[.int .i64 0, .int .i64 0] 48)) = v3 at *
              refine (HDL.out _ a2 c2 HV3.out).mono ?_
              rintro r w4 ⟨v4, rfl, hv4, hb4⟩
              obtain ⟨a4, c4, hfv, hv4', _⟩ := sl_form (entriesW_entries hv4)
              simp only [List.cons.injEq, and_true] at hfv
              subst hfv
              have HX4 := hid (rEntries.mono hv4' (S' := (· < w4.heap.size)) fun q hq => hq.2)
              have D4 := D3.later hb4; have F4 := F3.later hb4; have B4 := B3.later hb4
              have HX34 := hid (lift HX3'.out hb4)
              have HV4 := hid (lift HV3.out hb4)
              have hbw4 := below_then hb4 hbw3
              have hs4 := hb4.size
              clear hv4 hv4' hb4 D3 F3 B3
              obtain ⟨x0, x1, x2, _, _, _, l0⟩ := b_blk B4
              obtain ⟨y0, y1, y2, _, _, _, l1⟩ := b_blk D4
              obtain ⟨z0, z1, _, _, l2⟩ := f_blk F4
              go_wp2_with fail
              have hbA : Below w4.heap.size w4 ((w4.alloc (.cells #[.int .u64 eb, .int .u64 bb, .slice a4 lb.length c4] 25)).alloc (.cells #[.int .i64 0, .int .i64 0] 48)) := by (repeat (first | with_reducible exact Below.refl _ _ | with_reducible assumption | (with_reducible refine below_alloc ?_ _) | (with_reducible refine Below.setCell ?_ (by first | omega | (simp; done) | (simp; omega)) _) | (with_reducible refine Below.drew ?_) | (with_reducible refine below_drewN ?_ _) | (refine below_then (by with_reducible assumption) ?_)))
              have HX5 := hid (lift HX34.out hbA)
              have HY5 := hid (lift HX4.out hbA)
              have HV5 := hid (lift HV4.out hbA)
              have HL5 := hid (lift HL.out (below_then hbA hbw4))
              have B5 := B4.later hbA; have D5 := D4.later hbA
              have L5 : Blk ((w4.alloc (.cells #[.int .u64 eb, .int .u64 bb, .slice a4 lb.length c4] 25)).alloc (.cells #[.int .i64 0, .int .i64 0] 48)) w4.heap.size 25 #[.int .u64 eb, .int .u64 bb, .slice a4 lb.length c4] := by (repeat (first | assumption | exact Blk.newAt _ _ _ (by first | (simp; done) | (simp; omega)) | refine Blk.alloc ?_ _ | refine Blk.drew ?_ | refine Blk.drewN ?_ _ | refine Blk.far ?_ (by first | (simp; done) | (simp; omega)) _))
              have hbw5 := below_then hbA hbw4
              clear hbA B4 D4 F4 x0 x1 x2 l0 y0 y1 y2 l1 z0 z1 l2
              generalize ((w4.alloc (.cells #[.int .u64 eb, .int .u64 bb, .slice a4 lb.length c4] 25)).alloc (.cells #[.int .i64 0, .int .i64 0] 48)) = v5 at *
              refine (HSM.out _ a3 c3 a c HX5.out HL5.out).mono ?_
              rintro r w6 ⟨rfl, hb6⟩
              have B6 := B5.later hb6; have L6 := L5.later hb6
              have HY6 := hid (lift HY5.out hb6)
              have HV6 := hid (lift HV5.out hb6)
              have HL6 := hid (lift HL5.out hb6)
              have hbw6 := below_then hb6 hbw5
              clear hb6 B5 D5 L5
              obtain ⟨x0, x1, x2, _, _, _, l0⟩ := b_blk B6
              obtain ⟨y0, y1, y2, _, _, _, l1⟩ := b_blk L6
              go_wp2_with fail
              refine (HSM.out _ a4 c4 a c HY6.out HL6.out).mono ?_
              rintro r w7 ⟨rfl, hb7⟩
              have HV7 := hid (lift HV6.out hb7)
              have hbw7 := below_then hb7 hbw6
              clear hb7 B6 L6 x0 x1 x2 l0 y0 y1 y2 l1

              have g9 : 1 ≤ (SB.length : Int) := by omega
              have g10 : (SB.length : Int) - 1 ≤ (c2 : Int) := by omega
              have g11 : (SB.length : Int) ≤ (c2 : Int) := by omega
              have g12 : ¬ (SB.length : Int) - 1 < 0 := by omega
              have HONES := hid (byteCells_one SB)
              have HONER := hid (byteCells_one R)
              have HSS := hid (fun (W : World) (hW : Below w7.heap.size w7 W) => src_bytes (lift HV7.out hW))
              have HSR := hid (fun (W : World) (hW : Below w.heap.size w W) => src_bytes (lift HR.out hW))
              have HBR := hid (fun (W : World) (v : Value) (h : W.ownsRow w7.heap.size 5 1 v (SB.length + R.length) (byteCells SB ++ byteCells R)) => (by
                have e : byteCells SB ++ byteCells R = byteCells (SB ++ R) := by simp [byteCells]
                rw [e] at h
                exact rBytes.mono (own_bytes2 (l := SB ++ R) (by simp) h) fun b hb => hb.2 : rBytes.r (· < W.heap.size) W [v] (SB ++ R)))
              have hzw := hbw7.size
              go_wp2_with (first | (at_builtin; go_loud (refine wpList_append_src rfl _ _ _ rfl w7.heap.size 5 i0 (.int .u8 0) 1 1 Tryz.underlying28 hi hz0 hz1 hz2 rfl (by decide) (.slice (some ⟨w7.heap.size, 0, none⟩) 0 0) 0 [] rfl (own_empty _ (by simp) rfl) a2 SB.length c2 (byteCells SB) rfl (HSS.out _ (by (repeat (first | with_reducible exact Below.refl _ _ | with_reducible assumption | (with_reducible refine below_alloc ?_ _) | (with_reducible refine Below.setCell ?_ (by first | omega | (simp; done) | (simp; omega)) _) | (with_reducible refine Below.drew ?_) | (with_reducible refine below_drewN ?_ _) | (refine below_then (by with_reducible assumption) ?_))))) HONES.out (by simp only [maxLen]; omega) (by omega) (by simp) ?_; intro v8 w8 hown8 hgrow8 hat8; rw [Nat.zero_add, List.nil_append] at hown8; obtain ⟨a8', c8', rfl⟩ := own_form hown8; have hb78 : Below w7.heap.size w7 w8 := (Below.grown (by (repeat (first | with_reducible exact Below.refl _ _ | with_reducible assumption | (with_reducible refine below_alloc ?_ _) | (with_reducible refine Below.setCell ?_ (by first | omega | (simp; done) | (simp; omega)) _) | (with_reducible refine Below.drew ?_) | (with_reducible refine below_drewN ?_ _) | (refine below_then (by with_reducible assumption) ?_)))) hgrow8 (by simp) (fun g e => by { have e' : some w7.heap.size = some g := e; injection e' with e'; omega })); have hs8 := hb78.size; have HO8 := hid hown8; have HB8 := hid hb78; clear hown8 hgrow8 hat8)) | (at_builtin; go_loud (refine wpList_append_src rfl _ _ _ rfl w7.heap.size 5 i0 (.int .u8 0) 1 1 Tryz.underlying28 hi hz0 hz1 hz2 rfl (by decide) (.slice a8' SB.length c8') SB.length (byteCells SB) rfl HO8.out ar R.length cr (byteCells R) rfl (HSR.out _ (below_then HB8.out hbw7)) HONER.out (by simp only [maxLen]; omega) (by omega) hs8 ?_; intro v9 w9 hown9 hgrow9 hat9; have HB9v := hid (HBR.out w9 v9 hown9); obtain ⟨a9, c9, rfl⟩ := own_form hown9; have hb79 : Below w7.heap.size w7 w9 := (Below.grown HB8.out hgrow9 hs8 (fun g e => (HO8.out.lt g e).1)); have HB9 := hid hb79; clear hown9 hgrow9 hat9)))
              refine (HDR.out w9 a9 c9 HB9v.out).mono ?_
              rintro r w10 ⟨v10, rfl, hv10, hb10⟩
              obtain ⟨a10, c10, hfv, _, _⟩ := sl_form (entriesW_entries hv10)
              simp only [List.cons.injEq, and_true] at hfv
              subst hfv
              simp only [List.length_nil] at *
              have hb710 := below_then hb10 HB9.out
              clear hb10 hv10 HB9v HBR
              have HV7o := HV7
              have hbw7o := hbw7
              have hbA : Below w7.heap.size w7 ((w10.alloc (.cells #[.int .u64 0, .int .u64 0, .slice a10 0 c10] 25)).alloc (.cells #[.int .i64 9, .int .i64 (SB.length : Int)] 48)) := by (repeat (first | with_reducible exact Below.refl _ _ | with_reducible assumption | (with_reducible refine below_alloc ?_ _) | (with_reducible refine Below.setCell ?_ (by first | omega | (simp; done) | (simp; omega)) _) | (with_reducible refine Below.drew ?_) | (with_reducible refine below_drewN ?_ _) | (refine below_then (by with_reducible assumption) ?_)))
              have HV7 := hid (lift HV7o.out hbA)
              have hbw7 := below_then hbA hbw7o
              clear hbA HV7o hbw7o
              go_wp2_with fail
              generalize ((w10.alloc (.cells #[.int .u64 0, .int .u64 0, .slice a10 0 c10] 25)).alloc (.cells #[.int .i64 9, .int .i64 (SB.length : Int)] 48)) = w11 at *

              refine (HDC.out _ a2 c2 (SB.length - 1) ((SB.length : Int) - 1) (by omega) (by omega) (sl_take HV7.out (by omega))).mono ?_
              rintro r w8 ⟨v8, rfl, hv8, hb8⟩
              obtain ⟨a8, c8, hfv, _, _⟩ := sl_form (entriesW_entries hv8)
              simp only [List.cons.injEq, and_true] at hfv
              subst hfv
              simp only [List.length_nil] at *
              have hbw8 := below_then hb8 hbw7
              have hbw9 : Below w.heap.size w ((w8.alloc (.cells #[.int .u64 0, .int .u64 0, .slice a8 0 c8] 25)).alloc (.cells #[.int .i64 1, .int .i64 ((SB.length : Int) - 1)] 48)) := by (repeat (first | with_reducible exact Below.refl _ _ | with_reducible assumption | (with_reducible refine below_alloc ?_ _) | (with_reducible refine Below.setCell ?_ (by first | omega | (simp; done) | (simp; omega)) _) | (with_reducible refine Below.drew ?_) | (with_reducible refine below_drewN ?_ _) | (refine below_then (by with_reducible assumption) ?_)))
              clear hb8 hv8
              go_wp2_with fail
              refine (live25 _).mono ?_
              rintro r w99 ⟨rfl, hb99⟩
              have hbe := below_then hb99 hbw9
              go_wp2
              go_ret
              exact ⟨rfl, hbe⟩
            · obtain ⟨m, rfl⟩ : ∃ m : Nat, cut = (m : Int) := ⟨cut.toNat, by omega⟩
              have d2 : decide ((SB.length : Int) - 1 < (m : Int)) = false := decide_eq_false g2
              go_enter Tryz.func5, Tryz.ntmps5
              go_wp2_with fail
              refine (HLG.out _ (by (repeat (first | with_reducible exact Below.refl _ _ | with_reducible assumption | (with_reducible refine below_alloc ?_ _) | (with_reducible refine Below.setCell ?_ (by first | omega | (simp; done) | (simp; omega)) _) | (with_reducible refine Below.drew ?_) | (with_reducible refine below_drewN ?_ _) | (refine below_then (by with_reducible assumption) ?_))))).mono ?_
              rintro r w1 ⟨rfl, hb1⟩
              have B1 : Blk w1 w.heap.size 25 #[.int .u64 eb, .int .u64 bb, .slice a lb.length c] := Blk.later (by (repeat (first | assumption | exact Blk.newAt _ _ _ (by first | (simp; done) | (simp; omega)) | refine Blk.alloc ?_ _ | refine Blk.drew ?_ | refine Blk.drewN ?_ _ | refine Blk.far ?_ (by first | (simp; done) | (simp; omega)) _))) hb1
              have hbw1 : Below w.heap.size w w1 := by (repeat (first | with_reducible exact Below.refl _ _ | with_reducible assumption | (with_reducible refine below_alloc ?_ _) | (with_reducible refine Below.setCell ?_ (by first | omega | (simp; done) | (simp; omega)) _) | (with_reducible refine Below.drew ?_) | (with_reducible refine below_drewN ?_ _) | (refine below_then (by with_reducible assumption) ?_)))
              obtain ⟨x0, x1, x2, _, _, _, l0⟩ := b_blk B1
              clear hb1

              go_wp2_with fail
              refine (HBY.out _ hbw1).mono ?_
              rintro r w2 ⟨v2, rfl, hv2, hb2⟩
              obtain ⟨a2, c2, hfv, hv2', _⟩ := sl_form hv2
              simp only [List.cons.injEq, and_true] at hfv
              subst hfv
              obtain ⟨_, qm1, qm2, qm3⟩ := sl_len hv2'
              have HV2 := hid (rBytes.mono hv2' (S' := (· < w2.heap.size)) fun q hq => hq.2)
              have B2 := B1.later hb2
              have hbw2 := below_then hb2 hbw1
              clear hv2 hv2' hb2 B1 x0 x1 x2 l0
              obtain ⟨x0, x1, x2, _, _, _, l0⟩ := b_blk B2

              go_wp2_with fail
              refine (HD.out _ a2 c2 HV2.out).mono ?_
              rintro r w3 ⟨v3, rfl, hv3, hb3⟩
              obtain ⟨a3, c3, hfv, hv3', _⟩ := sl_form (entriesW_entries hv3)
              simp only [List.cons.injEq, and_true] at hfv
              subst hfv
              have HX3 := hid (rEntries.mono hv3' (S' := (· < w3.heap.size)) fun q hq => hq.2)
              clear hv3 hv3'
              go_wp2_with fail
              have hbA : Below w2.heap.size w2 ((w3.alloc (.cells #[.int .u64 eb, .int .u64 bb, .slice a3 lb.length c3] 25)).alloc (.cells #[.int .i64 0, .int .i64 0] 48)) := by (repeat (first | with_reducible exact Below.refl _ _ | with_reducible assumption | (with_reducible refine below_alloc ?_ _) | (with_reducible refine Below.setCell ?_ (by first | omega | (simp; done) | (simp; omega)) _) | (with_reducible refine Below.drew ?_) | (with_reducible refine below_drewN ?_ _) | (refine below_then (by with_reducible assumption) ?_)))
              have hz3 : (((w3.alloc (.cells #[.int .u64 eb, .int .u64 bb, .slice a3 lb.length c3] 25)).alloc (.cells #[.int .i64 0, .int .i64 0] 48))).heap.size = w3.heap.size + 2 := by simp
              have D3 : Blk ((w3.alloc (.cells #[.int .u64 eb, .int .u64 bb, .slice a3 lb.length c3] 25)).alloc (.cells #[.int .i64 0, .int .i64 0] 48)) w3.heap.size 25 #[.int .u64 eb, .int .u64 bb, .slice a3 lb.length c3] := by (repeat (first | assumption | exact Blk.newAt _ _ _ (by first | (simp; done) | (simp; omega)) | refine Blk.alloc ?_ _ | refine Blk.drew ?_ | refine Blk.drewN ?_ _ | refine Blk.far ?_ (by first | (simp; done) | (simp; omega)) _))
              have F3 : Blk ((w3.alloc (.cells #[.int .u64 eb, .int .u64 bb, .slice a3 lb.length c3] 25)).alloc (.cells #[.int .i64 0, .int .i64 0] 48)) (w3.heap.size + 1) 48 #[.int .i64 0, .int .i64 0] := by (repeat (first | assumption | exact Blk.newAt _ _ _ (by first | (simp; done) | (simp; omega)) | refine Blk.alloc ?_ _ | refine Blk.drew ?_ | refine Blk.drewN ?_ _ | refine Blk.far ?_ (by first | (simp; done) | (simp; omega)) _))
              have HX3' := hid (lift HX3.out (show Below w3.heap.size w3 ((w3.alloc (.cells #[.int .u64 eb, .int .u64 bb, .slice a3 lb.length c3] 25)).alloc (.cells #[.int .i64 0, .int .i64 0] 48)) from by (repeat (first | with_reducible exact Below.refl _ _ | with_reducible assumption | (with_reducible refine below_alloc ?_ _) | (with_reducible refine Below.setCell ?_ (by first | omega | (simp; done) | (simp; omega)) _) | (with_reducible refine Below.drew ?_) | (with_reducible refine below_drewN ?_ _) | (refine below_then (by with_reducible assumption) ?_)))))
              have HV3 := hid (lift HV2.out hbA)
              have B3 := B2.later hbA
              have hbw3 := below_then hbA hbw2
              clear hb3 hbA B2 x0 x1 x2 l0
              generalize ((w3.alloc (.cells #[.int .u64 eb, .int .u64 bb, .slice a3 lb.length c3] 25)).alloc (.cells #[.int .i64 0, .int .i64 0] 48)) = v3 at *
              refine (HDL.out _ a2 c2 HV3.out).mono ?_
              rintro r w4 ⟨v4, rfl, hv4, hb4⟩
              obtain ⟨a4, c4, hfv, hv4', _⟩ := sl_form (entriesW_entries hv4)
              simp only [List.cons.injEq, and_true] at hfv
              subst hfv
              have HX4 := hid (rEntries.mono hv4' (S' := (· < w4.heap.size)) fun q hq => hq.2)
              have D4 := D3.later hb4; have F4 := F3.later hb4; have B4 := B3.later hb4
              have HX34 := hid (lift HX3'.out hb4)
              have HV4 := hid (lift HV3.out hb4)
              have hbw4 := below_then hb4 hbw3
              have hs4 := hb4.size
              clear hv4 hv4' hb4 D3 F3 B3
              obtain ⟨x0, x1, x2, _, _, _, l0⟩ := b_blk B4
              obtain ⟨y0, y1, y2, _, _, _, l1⟩ := b_blk D4
              obtain ⟨z0, z1, _, _, l2⟩ := f_blk F4
              go_wp2_with fail
              have hbA : Below w4.heap.size w4 ((w4.alloc (.cells #[.int .u64 eb, .int .u64 bb, .slice a4 lb.length c4] 25)).alloc (.cells #[.int .i64 0, .int .i64 0] 48)) := by (repeat (first | with_reducible exact Below.refl _ _ | with_reducible assumption | (with_reducible refine below_alloc ?_ _) | (with_reducible refine Below.setCell ?_ (by first | omega | (simp; done) | (simp; omega)) _) | (with_reducible refine Below.drew ?_) | (with_reducible refine below_drewN ?_ _) | (refine below_then (by with_reducible assumption) ?_)))
              have HX5 := hid (lift HX34.out hbA)
              have HY5 := hid (lift HX4.out hbA)
              have HV5 := hid (lift HV4.out hbA)
              have HL5 := hid (lift HL.out (below_then hbA hbw4))
              have B5 := B4.later hbA; have D5 := D4.later hbA
              have L5 : Blk ((w4.alloc (.cells #[.int .u64 eb, .int .u64 bb, .slice a4 lb.length c4] 25)).alloc (.cells #[.int .i64 0, .int .i64 0] 48)) w4.heap.size 25 #[.int .u64 eb, .int .u64 bb, .slice a4 lb.length c4] := by (repeat (first | assumption | exact Blk.newAt _ _ _ (by first | (simp; done) | (simp; omega)) | refine Blk.alloc ?_ _ | refine Blk.drew ?_ | refine Blk.drewN ?_ _ | refine Blk.far ?_ (by first | (simp; done) | (simp; omega)) _))
              have hbw5 := below_then hbA hbw4
              clear hbA B4 D4 F4 x0 x1 x2 l0 y0 y1 y2 l1 z0 z1 l2
              generalize ((w4.alloc (.cells #[.int .u64 eb, .int .u64 bb, .slice a4 lb.length c4] 25)).alloc (.cells #[.int .i64 0, .int .i64 0] 48)) = v5 at *
              refine (HSM.out _ a3 c3 a c HX5.out HL5.out).mono ?_
              rintro r w6 ⟨rfl, hb6⟩
              have B6 := B5.later hb6; have L6 := L5.later hb6
              have HY6 := hid (lift HY5.out hb6)
              have HV6 := hid (lift HV5.out hb6)
              have HL6 := hid (lift HL5.out hb6)
              have hbw6 := below_then hb6 hbw5
              clear hb6 B5 D5 L5
              obtain ⟨x0, x1, x2, _, _, _, l0⟩ := b_blk B6
              obtain ⟨y0, y1, y2, _, _, _, l1⟩ := b_blk L6
              go_wp2_with fail
              refine (HSM.out _ a4 c4 a c HY6.out HL6.out).mono ?_
              rintro r w7 ⟨rfl, hb7⟩
              have HV7 := hid (lift HV6.out hb7)
              have hbw7 := below_then hb7 hbw6
              clear hb7 B6 L6 x0 x1 x2 l0 y0 y1 y2 l1

              have g9 : 1 ≤ (SB.length : Int) := by omega
              have g10 : (SB.length : Int) - 1 ≤ (c2 : Int) := by omega
              have g11 : (SB.length : Int) ≤ (c2 : Int) := by omega
              have g12 : ¬ (SB.length : Int) - 1 < 0 := by omega
              have HONES := hid (byteCells_one SB)
              have HONER := hid (byteCells_one R)
              have HSS := hid (fun (W : World) (hW : Below w7.heap.size w7 W) => src_bytes (lift HV7.out hW))
              have HSR := hid (fun (W : World) (hW : Below w.heap.size w W) => src_bytes (lift HR.out hW))
              have HBR := hid (fun (W : World) (v : Value) (h : W.ownsRow w7.heap.size 5 1 v (SB.length + R.length) (byteCells SB ++ byteCells R)) => (by
                have e : byteCells SB ++ byteCells R = byteCells (SB ++ R) := by simp [byteCells]
                rw [e] at h
                exact rBytes.mono (own_bytes2 (l := SB ++ R) (by simp) h) fun b hb => hb.2 : rBytes.r (· < W.heap.size) W [v] (SB ++ R)))
              have hzw := hbw7.size
              go_wp2_with (first | (at_builtin; go_loud (refine wpList_append_src rfl _ _ _ rfl w7.heap.size 5 i0 (.int .u8 0) 1 1 Tryz.underlying28 hi hz0 hz1 hz2 rfl (by decide) (.slice (some ⟨w7.heap.size, 0, none⟩) 0 0) 0 [] rfl (own_empty _ (by simp) rfl) a2 SB.length c2 (byteCells SB) rfl (HSS.out _ (by (repeat (first | with_reducible exact Below.refl _ _ | with_reducible assumption | (with_reducible refine below_alloc ?_ _) | (with_reducible refine Below.setCell ?_ (by first | omega | (simp; done) | (simp; omega)) _) | (with_reducible refine Below.drew ?_) | (with_reducible refine below_drewN ?_ _) | (refine below_then (by with_reducible assumption) ?_))))) HONES.out (by simp only [maxLen]; omega) (by omega) (by simp) ?_; intro v8 w8 hown8 hgrow8 hat8; rw [Nat.zero_add, List.nil_append] at hown8; obtain ⟨a8', c8', rfl⟩ := own_form hown8; have hb78 : Below w7.heap.size w7 w8 := (Below.grown (by (repeat (first | with_reducible exact Below.refl _ _ | with_reducible assumption | (with_reducible refine below_alloc ?_ _) | (with_reducible refine Below.setCell ?_ (by first | omega | (simp; done) | (simp; omega)) _) | (with_reducible refine Below.drew ?_) | (with_reducible refine below_drewN ?_ _) | (refine below_then (by with_reducible assumption) ?_)))) hgrow8 (by simp) (fun g e => by { have e' : some w7.heap.size = some g := e; injection e' with e'; omega })); have hs8 := hb78.size; have HO8 := hid hown8; have HB8 := hid hb78; clear hown8 hgrow8 hat8)) | (at_builtin; go_loud (refine wpList_append_src rfl _ _ _ rfl w7.heap.size 5 i0 (.int .u8 0) 1 1 Tryz.underlying28 hi hz0 hz1 hz2 rfl (by decide) (.slice a8' SB.length c8') SB.length (byteCells SB) rfl HO8.out ar R.length cr (byteCells R) rfl (HSR.out _ (below_then HB8.out hbw7)) HONER.out (by simp only [maxLen]; omega) (by omega) hs8 ?_; intro v9 w9 hown9 hgrow9 hat9; have HB9v := hid (HBR.out w9 v9 hown9); obtain ⟨a9, c9, rfl⟩ := own_form hown9; have hb79 : Below w7.heap.size w7 w9 := (Below.grown HB8.out hgrow9 hs8 (fun g e => (HO8.out.lt g e).1)); have HB9 := hid hb79; clear hown9 hgrow9 hat9)))
              refine (HDR.out w9 a9 c9 HB9v.out).mono ?_
              rintro r w10 ⟨v10, rfl, hv10, hb10⟩
              obtain ⟨a10, c10, hfv, _, _⟩ := sl_form (entriesW_entries hv10)
              simp only [List.cons.injEq, and_true] at hfv
              subst hfv
              simp only [List.length_nil] at *
              have hb710 := below_then hb10 HB9.out
              clear hb10 hv10 HB9v HBR
              have HV7o := HV7
              have hbw7o := hbw7
              have hbA : Below w7.heap.size w7 ((w10.alloc (.cells #[.int .u64 0, .int .u64 0, .slice a10 0 c10] 25)).alloc (.cells #[.int .i64 9, .int .i64 (SB.length : Int)] 48)) := by (repeat (first | with_reducible exact Below.refl _ _ | with_reducible assumption | (with_reducible refine below_alloc ?_ _) | (with_reducible refine Below.setCell ?_ (by first | omega | (simp; done) | (simp; omega)) _) | (with_reducible refine Below.drew ?_) | (with_reducible refine below_drewN ?_ _) | (refine below_then (by with_reducible assumption) ?_)))
              have HV7 := hid (lift HV7o.out hbA)
              have hbw7 := below_then hbA hbw7o
              clear hbA HV7o hbw7o
              go_wp2_with fail
              generalize ((w10.alloc (.cells #[.int .u64 0, .int .u64 0, .slice a10 0 c10] 25)).alloc (.cells #[.int .i64 9, .int .i64 (SB.length : Int)] 48)) = w11 at *

              refine (HDC.out _ a2 c2 (m) ((m : Int)) (by omega) (by omega) (sl_take HV7.out (by omega))).mono ?_
              rintro r w8 ⟨v8, rfl, hv8, hb8⟩
              obtain ⟨a8, c8, hfv, _, _⟩ := sl_form (entriesW_entries hv8)
              simp only [List.cons.injEq, and_true] at hfv
              subst hfv
              simp only [List.length_nil] at *
              have hbw8 := below_then hb8 hbw7
              have hbw9 : Below w.heap.size w ((w8.alloc (.cells #[.int .u64 0, .int .u64 0, .slice a8 0 c8] 25)).alloc (.cells #[.int .i64 1, .int .i64 ((m : Int))] 48)) := by (repeat (first | with_reducible exact Below.refl _ _ | with_reducible assumption | (with_reducible refine below_alloc ?_ _) | (with_reducible refine Below.setCell ?_ (by first | omega | (simp; done) | (simp; omega)) _) | (with_reducible refine Below.drew ?_) | (with_reducible refine below_drewN ?_ _) | (refine below_then (by with_reducible assumption) ?_)))
              clear hb8 hv8
              go_wp2_with fail
              refine (live25 _).mono ?_
              rintro r w99 ⟨rfl, hb99⟩
              have hbe := below_then hb99 hbw9
              go_wp2
              go_ret
              exact ⟨rfl, hbe⟩
          · have d1 : decide (0 ≤ cut) = false := decide_eq_false g1
            go_enter Tryz.func5, Tryz.ntmps5
            go_wp2_with fail
            refine (HLG.out _ (by (repeat (first | with_reducible exact Below.refl _ _ | with_reducible assumption | (with_reducible refine below_alloc ?_ _) | (with_reducible refine Below.setCell ?_ (by first | omega | (simp; done) | (simp; omega)) _) | (with_reducible refine Below.drew ?_) | (with_reducible refine below_drewN ?_ _) | (refine below_then (by with_reducible assumption) ?_))))).mono ?_
            rintro r w1 ⟨rfl, hb1⟩
            have B1 : Blk w1 w.heap.size 25 #[.int .u64 eb, .int .u64 bb, .slice a lb.length c] := Blk.later (by (repeat (first | assumption | exact Blk.newAt _ _ _ (by first | (simp; done) | (simp; omega)) | refine Blk.alloc ?_ _ | refine Blk.drew ?_ | refine Blk.drewN ?_ _ | refine Blk.far ?_ (by first | (simp; done) | (simp; omega)) _))) hb1
            have hbw1 : Below w.heap.size w w1 := by (repeat (first | with_reducible exact Below.refl _ _ | with_reducible assumption | (with_reducible refine below_alloc ?_ _) | (with_reducible refine Below.setCell ?_ (by first | omega | (simp; done) | (simp; omega)) _) | (with_reducible refine Below.drew ?_) | (with_reducible refine below_drewN ?_ _) | (refine below_then (by with_reducible assumption) ?_)))
            obtain ⟨x0, x1, x2, _, _, _, l0⟩ := b_blk B1
            clear hb1

            go_wp2_with fail
            refine (HBY.out _ hbw1).mono ?_
            rintro r w2 ⟨v2, rfl, hv2, hb2⟩
            obtain ⟨a2, c2, hfv, hv2', _⟩ := sl_form hv2
            simp only [List.cons.injEq, and_true] at hfv
            subst hfv
            obtain ⟨_, qm1, qm2, qm3⟩ := sl_len hv2'
            have HV2 := hid (rBytes.mono hv2' (S' := (· < w2.heap.size)) fun q hq => hq.2)
            have B2 := B1.later hb2
            have hbw2 := below_then hb2 hbw1
            clear hv2 hv2' hb2 B1 x0 x1 x2 l0
            obtain ⟨x0, x1, x2, _, _, _, l0⟩ := b_blk B2

            go_wp2_with fail
            refine (HD.out _ a2 c2 HV2.out).mono ?_
            rintro r w3 ⟨v3, rfl, hv3, hb3⟩
            obtain ⟨a3, c3, hfv, hv3', _⟩ := sl_form (entriesW_entries hv3)
            simp only [List.cons.injEq, and_true] at hfv
            subst hfv
            have HX3 := hid (rEntries.mono hv3' (S' := (· < w3.heap.size)) fun q hq => hq.2)
            clear hv3 hv3'
            go_wp2_with fail
            have hbA : Below w2.heap.size w2 ((w3.alloc (.cells #[.int .u64 eb, .int .u64 bb, .slice a3 lb.length c3] 25)).alloc (.cells #[.int .i64 0, .int .i64 0] 48)) := by (repeat (first | with_reducible exact Below.refl _ _ | with_reducible assumption | (with_reducible refine below_alloc ?_ _) | (with_reducible refine Below.setCell ?_ (by first | omega | (simp; done) | (simp; omega)) _) | (with_reducible refine Below.drew ?_) | (with_reducible refine below_drewN ?_ _) | (refine below_then (by with_reducible assumption) ?_)))
            have hz3 : (((w3.alloc (.cells #[.int .u64 eb, .int .u64 bb, .slice a3 lb.length c3] 25)).alloc (.cells #[.int .i64 0, .int .i64 0] 48))).heap.size = w3.heap.size + 2 := by simp
            have D3 : Blk ((w3.alloc (.cells #[.int .u64 eb, .int .u64 bb, .slice a3 lb.length c3] 25)).alloc (.cells #[.int .i64 0, .int .i64 0] 48)) w3.heap.size 25 #[.int .u64 eb, .int .u64 bb, .slice a3 lb.length c3] := by (repeat (first | assumption | exact Blk.newAt _ _ _ (by first | (simp; done) | (simp; omega)) | refine Blk.alloc ?_ _ | refine Blk.drew ?_ | refine Blk.drewN ?_ _ | refine Blk.far ?_ (by first | (simp; done) | (simp; omega)) _))
            have F3 : Blk ((w3.alloc (.cells #[.int .u64 eb, .int .u64 bb, .slice a3 lb.length c3] 25)).alloc (.cells #[.int .i64 0, .int .i64 0] 48)) (w3.heap.size + 1) 48 #[.int .i64 0, .int .i64 0] := by (repeat (first | assumption | exact Blk.newAt _ _ _ (by first | (simp; done) | (simp; omega)) | refine Blk.alloc ?_ _ | refine Blk.drew ?_ | refine Blk.drewN ?_ _ | refine Blk.far ?_ (by first | (simp; done) | (simp; omega)) _))
            have HX3' := hid (lift HX3.out (show Below w3.heap.size w3 ((w3.alloc (.cells #[.int .u64 eb, .int .u64 bb, .slice a3 lb.length c3] 25)).alloc (.cells #[.int .i64 0, .int .i64 0] 48)) from by (repeat (first | with_reducible exact Below.refl _ _ | with_reducible assumption | (with_reducible refine below_alloc ?_ _) | (with_reducible refine Below.setCell ?_ (by first | omega | (simp; done) | (simp; omega)) _) | (with_reducible refine Below.drew ?_) | (with_reducible refine below_drewN ?_ _) | (refine below_then (by with_reducible assumption) ?_)))))
            have HV3 := hid (lift HV2.out hbA)
            have B3 := B2.later hbA
            have hbw3 := below_then hbA hbw2
            clear hb3 hbA B2 x0 x1 x2 l0
            generalize ((w3.alloc (.cells #[.int .u64 eb, .int .u64 bb, .slice a3 lb.length c3] 25)).alloc (.cells #[.int .i64 0, .int .i64 0] 48)) = v3 at *
            refine (HDL.out _ a2 c2 HV3.out).mono ?_
            rintro r w4 ⟨v4, rfl, hv4, hb4⟩
            obtain ⟨a4, c4, hfv, hv4', _⟩ := sl_form (entriesW_entries hv4)
            simp only [List.cons.injEq, and_true] at hfv
            subst hfv
            have HX4 := hid (rEntries.mono hv4' (S' := (· < w4.heap.size)) fun q hq => hq.2)
            have D4 := D3.later hb4; have F4 := F3.later hb4; have B4 := B3.later hb4
            have HX34 := hid (lift HX3'.out hb4)
            have HV4 := hid (lift HV3.out hb4)
            have hbw4 := below_then hb4 hbw3
            have hs4 := hb4.size
            clear hv4 hv4' hb4 D3 F3 B3
            obtain ⟨x0, x1, x2, _, _, _, l0⟩ := b_blk B4
            obtain ⟨y0, y1, y2, _, _, _, l1⟩ := b_blk D4
            obtain ⟨z0, z1, _, _, l2⟩ := f_blk F4
            go_wp2_with fail
            have hbA : Below w4.heap.size w4 ((w4.alloc (.cells #[.int .u64 eb, .int .u64 bb, .slice a4 lb.length c4] 25)).alloc (.cells #[.int .i64 0, .int .i64 0] 48)) := by (repeat (first | with_reducible exact Below.refl _ _ | with_reducible assumption | (with_reducible refine below_alloc ?_ _) | (with_reducible refine Below.setCell ?_ (by first | omega | (simp; done) | (simp; omega)) _) | (with_reducible refine Below.drew ?_) | (with_reducible refine below_drewN ?_ _) | (refine below_then (by with_reducible assumption) ?_)))
            have HX5 := hid (lift HX34.out hbA)
            have HY5 := hid (lift HX4.out hbA)
            have HV5 := hid (lift HV4.out hbA)
            have HL5 := hid (lift HL.out (below_then hbA hbw4))
            have B5 := B4.later hbA; have D5 := D4.later hbA
            have L5 : Blk ((w4.alloc (.cells #[.int .u64 eb, .int .u64 bb, .slice a4 lb.length c4] 25)).alloc (.cells #[.int .i64 0, .int .i64 0] 48)) w4.heap.size 25 #[.int .u64 eb, .int .u64 bb, .slice a4 lb.length c4] := by (repeat (first | assumption | exact Blk.newAt _ _ _ (by first | (simp; done) | (simp; omega)) | refine Blk.alloc ?_ _ | refine Blk.drew ?_ | refine Blk.drewN ?_ _ | refine Blk.far ?_ (by first | (simp; done) | (simp; omega)) _))
            have hbw5 := below_then hbA hbw4
            clear hbA B4 D4 F4 x0 x1 x2 l0 y0 y1 y2 l1 z0 z1 l2
            generalize ((w4.alloc (.cells #[.int .u64 eb, .int .u64 bb, .slice a4 lb.length c4] 25)).alloc (.cells #[.int .i64 0, .int .i64 0] 48)) = v5 at *
            refine (HSM.out _ a3 c3 a c HX5.out HL5.out).mono ?_
            rintro r w6 ⟨rfl, hb6⟩
            have B6 := B5.later hb6; have L6 := L5.later hb6
            have HY6 := hid (lift HY5.out hb6)
            have HV6 := hid (lift HV5.out hb6)
            have HL6 := hid (lift HL5.out hb6)
            have hbw6 := below_then hb6 hbw5
            clear hb6 B5 D5 L5
            obtain ⟨x0, x1, x2, _, _, _, l0⟩ := b_blk B6
            obtain ⟨y0, y1, y2, _, _, _, l1⟩ := b_blk L6
            go_wp2_with fail
            refine (HSM.out _ a4 c4 a c HY6.out HL6.out).mono ?_
            rintro r w7 ⟨rfl, hb7⟩
            have HV7 := hid (lift HV6.out hb7)
            have hbw7 := below_then hb7 hbw6
            clear hb7 B6 L6 x0 x1 x2 l0 y0 y1 y2 l1

            have g9 : 1 ≤ (SB.length : Int) := by omega
            have g10 : (SB.length : Int) - 1 ≤ (c2 : Int) := by omega
            have g11 : (SB.length : Int) ≤ (c2 : Int) := by omega
            have g12 : ¬ (SB.length : Int) - 1 < 0 := by omega
            have HONES := hid (byteCells_one SB)
            have HONER := hid (byteCells_one R)
            have HSS := hid (fun (W : World) (hW : Below w7.heap.size w7 W) => src_bytes (lift HV7.out hW))
            have HSR := hid (fun (W : World) (hW : Below w.heap.size w W) => src_bytes (lift HR.out hW))
            have HBR := hid (fun (W : World) (v : Value) (h : W.ownsRow w7.heap.size 5 1 v (SB.length + R.length) (byteCells SB ++ byteCells R)) => (by
              have e : byteCells SB ++ byteCells R = byteCells (SB ++ R) := by simp [byteCells]
              rw [e] at h
              exact rBytes.mono (own_bytes2 (l := SB ++ R) (by simp) h) fun b hb => hb.2 : rBytes.r (· < W.heap.size) W [v] (SB ++ R)))
            have hzw := hbw7.size
            go_wp2_with (first | (at_builtin; go_loud (refine wpList_append_src rfl _ _ _ rfl w7.heap.size 5 i0 (.int .u8 0) 1 1 Tryz.underlying28 hi hz0 hz1 hz2 rfl (by decide) (.slice (some ⟨w7.heap.size, 0, none⟩) 0 0) 0 [] rfl (own_empty _ (by simp) rfl) a2 SB.length c2 (byteCells SB) rfl (HSS.out _ (by (repeat (first | with_reducible exact Below.refl _ _ | with_reducible assumption | (with_reducible refine below_alloc ?_ _) | (with_reducible refine Below.setCell ?_ (by first | omega | (simp; done) | (simp; omega)) _) | (with_reducible refine Below.drew ?_) | (with_reducible refine below_drewN ?_ _) | (refine below_then (by with_reducible assumption) ?_))))) HONES.out (by simp only [maxLen]; omega) (by omega) (by simp) ?_; intro v8 w8 hown8 hgrow8 hat8; rw [Nat.zero_add, List.nil_append] at hown8; obtain ⟨a8', c8', rfl⟩ := own_form hown8; have hb78 : Below w7.heap.size w7 w8 := (Below.grown (by (repeat (first | with_reducible exact Below.refl _ _ | with_reducible assumption | (with_reducible refine below_alloc ?_ _) | (with_reducible refine Below.setCell ?_ (by first | omega | (simp; done) | (simp; omega)) _) | (with_reducible refine Below.drew ?_) | (with_reducible refine below_drewN ?_ _) | (refine below_then (by with_reducible assumption) ?_)))) hgrow8 (by simp) (fun g e => by { have e' : some w7.heap.size = some g := e; injection e' with e'; omega })); have hs8 := hb78.size; have HO8 := hid hown8; have HB8 := hid hb78; clear hown8 hgrow8 hat8)) | (at_builtin; go_loud (refine wpList_append_src rfl _ _ _ rfl w7.heap.size 5 i0 (.int .u8 0) 1 1 Tryz.underlying28 hi hz0 hz1 hz2 rfl (by decide) (.slice a8' SB.length c8') SB.length (byteCells SB) rfl HO8.out ar R.length cr (byteCells R) rfl (HSR.out _ (below_then HB8.out hbw7)) HONER.out (by simp only [maxLen]; omega) (by omega) hs8 ?_; intro v9 w9 hown9 hgrow9 hat9; have HB9v := hid (HBR.out w9 v9 hown9); obtain ⟨a9, c9, rfl⟩ := own_form hown9; have hb79 : Below w7.heap.size w7 w9 := (Below.grown HB8.out hgrow9 hs8 (fun g e => (HO8.out.lt g e).1)); have HB9 := hid hb79; clear hown9 hgrow9 hat9)))
            refine (HDR.out w9 a9 c9 HB9v.out).mono ?_
            rintro r w10 ⟨v10, rfl, hv10, hb10⟩
            obtain ⟨a10, c10, hfv, _, _⟩ := sl_form (entriesW_entries hv10)
            simp only [List.cons.injEq, and_true] at hfv
            subst hfv
            simp only [List.length_nil] at *
            have hb710 := below_then hb10 HB9.out
            clear hb10 hv10 HB9v HBR
            have HV7o := HV7
            have hbw7o := hbw7
            have hbA : Below w7.heap.size w7 ((w10.alloc (.cells #[.int .u64 0, .int .u64 0, .slice a10 0 c10] 25)).alloc (.cells #[.int .i64 9, .int .i64 (SB.length : Int)] 48)) := by (repeat (first | with_reducible exact Below.refl _ _ | with_reducible assumption | (with_reducible refine below_alloc ?_ _) | (with_reducible refine Below.setCell ?_ (by first | omega | (simp; done) | (simp; omega)) _) | (with_reducible refine Below.drew ?_) | (with_reducible refine below_drewN ?_ _) | (refine below_then (by with_reducible assumption) ?_)))
            have HV7 := hid (lift HV7o.out hbA)
            have hbw7 := below_then hbA hbw7o
            clear hbA HV7o hbw7o
            go_wp2_with fail
            generalize ((w10.alloc (.cells #[.int .u64 0, .int .u64 0, .slice a10 0 c10] 25)).alloc (.cells #[.int .i64 9, .int .i64 (SB.length : Int)] 48)) = w11 at *

            refine (HDC.out _ a2 c2 (0) (0) (by omega) (by omega) (sl_take HV7.out (by omega))).mono ?_
            rintro r w8 ⟨v8, rfl, hv8, hb8⟩
            obtain ⟨a8, c8, hfv, _, _⟩ := sl_form (entriesW_entries hv8)
            simp only [List.cons.injEq, and_true] at hfv
            subst hfv
            simp only [List.length_nil] at *
            have hbw8 := below_then hb8 hbw7
            have hbw9 : Below w.heap.size w ((w8.alloc (.cells #[.int .u64 0, .int .u64 0, .slice a8 0 c8] 25)).alloc (.cells #[.int .i64 1, .int .i64 (0)] 48)) := by (repeat (first | with_reducible exact Below.refl _ _ | with_reducible assumption | (with_reducible refine below_alloc ?_ _) | (with_reducible refine Below.setCell ?_ (by first | omega | (simp; done) | (simp; omega)) _) | (with_reducible refine Below.drew ?_) | (with_reducible refine below_drewN ?_ _) | (refine below_then (by with_reducible assumption) ?_)))
            clear hb8 hv8
            go_wp2_with fail
            refine (live25 _).mono ?_
            rintro r w99 ⟨rfl, hb99⟩
            have hbe := below_then hb99 hbw9
            go_wp2
            go_ret
            exact ⟨rfl, hbe⟩
      · simp only [if_neg hRt] at HBY
        clear hRt
        go_enter Tryz.func5, Tryz.ntmps5
        go_wp2_with fail
        refine (HLG.out _ (by (repeat (first | with_reducible exact Below.refl _ _ | with_reducible assumption | (with_reducible refine below_alloc ?_ _) | (with_reducible refine Below.setCell ?_ (by first | omega | (simp; done) | (simp; omega)) _) | (with_reducible refine Below.drew ?_) | (with_reducible refine below_drewN ?_ _) | (refine below_then (by with_reducible assumption) ?_))))).mono ?_
        rintro r w1 ⟨rfl, hb1⟩
        have B1 : Blk w1 w.heap.size 25 #[.int .u64 eb, .int .u64 bb, .slice a lb.length c] := Blk.later (by (repeat (first | assumption | exact Blk.newAt _ _ _ (by first | (simp; done) | (simp; omega)) | refine Blk.alloc ?_ _ | refine Blk.drew ?_ | refine Blk.drewN ?_ _ | refine Blk.far ?_ (by first | (simp; done) | (simp; omega)) _))) hb1
        have hbw1 : Below w.heap.size w w1 := by (repeat (first | with_reducible exact Below.refl _ _ | with_reducible assumption | (with_reducible refine below_alloc ?_ _) | (with_reducible refine Below.setCell ?_ (by first | omega | (simp; done) | (simp; omega)) _) | (with_reducible refine Below.drew ?_) | (with_reducible refine below_drewN ?_ _) | (refine below_then (by with_reducible assumption) ?_)))
        obtain ⟨x0, x1, x2, _, _, _, l0⟩ := b_blk B1
        clear hb1

        go_wp2_with fail
        refine (HBY.out _ hbw1).mono ?_
        rintro r w2 ⟨v2, rfl, hv2, hb2⟩
        obtain ⟨a2, c2, hfv, hv2', _⟩ := sl_form hv2
        simp only [List.cons.injEq, and_true] at hfv
        subst hfv
        obtain ⟨_, qm1, qm2, qm3⟩ := sl_len hv2'
        have HV2 := hid (rBytes.mono hv2' (S' := (· < w2.heap.size)) fun q hq => hq.2)
        have B2 := B1.later hb2
        have hbw2 := below_then hb2 hbw1
        clear hv2 hv2' hb2 B1 x0 x1 x2 l0
        obtain ⟨x0, x1, x2, _, _, _, l0⟩ := b_blk B2

        go_wp2_with fail
        refine (live25 _).mono ?_
        rintro r w99 ⟨rfl, hb99⟩
        have hbe := below_then hb99 hbw2
        go_wp2
        go_ret
        exact ⟨rfl, hbe⟩
    · have dR : decide ((100 : Int) < (R.length : Int)) = true := decide_eq_true (by omega)
      clear HBY
      go_enter Tryz.func5, Tryz.ntmps5
      go_wp2_with fail
      refine (HLG.out _ (by (repeat (first | with_reducible exact Below.refl _ _ | with_reducible assumption | (with_reducible refine below_alloc ?_ _) | (with_reducible refine Below.setCell ?_ (by first | omega | (simp; done) | (simp; omega)) _) | (with_reducible refine Below.drew ?_) | (with_reducible refine below_drewN ?_ _) | (refine below_then (by with_reducible assumption) ?_))))).mono ?_
      rintro r w1 ⟨rfl, hb1⟩
      have B1 : Blk w1 w.heap.size 25 #[.int .u64 eb, .int .u64 bb, .slice a lb.length c] := Blk.later (by (repeat (first | assumption | exact Blk.newAt _ _ _ (by first | (simp; done) | (simp; omega)) | refine Blk.alloc ?_ _ | refine Blk.drew ?_ | refine Blk.drewN ?_ _ | refine Blk.far ?_ (by first | (simp; done) | (simp; omega)) _))) hb1
      have hbw1 : Below w.heap.size w w1 := by (repeat (first | with_reducible exact Below.refl _ _ | with_reducible assumption | (with_reducible refine below_alloc ?_ _) | (with_reducible refine Below.setCell ?_ (by first | omega | (simp; done) | (simp; omega)) _) | (with_reducible refine Below.drew ?_) | (with_reducible refine below_drewN ?_ _) | (refine below_then (by with_reducible assumption) ?_)))
      obtain ⟨x0, x1, x2, _, _, _, l0⟩ := b_blk B1
      clear hb1

      go_wp2_with fail
      refine (live25 _).mono ?_
      rintro r w99 ⟨rfl, hb99⟩
      have hbe := below_then hb99 hbw1
      go_wp2
      go_ret
      exact ⟨rfl, hbe⟩
  · rw [hlg] at HLG
    go_enter Tryz.func5, Tryz.ntmps5
    go_wp2_with fail
    refine (HLG.out _ (by (repeat (first | with_reducible exact Below.refl _ _ | with_reducible assumption | (with_reducible refine below_alloc ?_ _) | (with_reducible refine Below.setCell ?_ (by first | omega | (simp; done) | (simp; omega)) _) | (with_reducible refine Below.drew ?_) | (with_reducible refine below_drewN ?_ _) | (refine below_then (by with_reducible assumption) ?_))))).mono ?_
    rintro r w1 ⟨rfl, hb1⟩
    have B1 : Blk w1 w.heap.size 25 #[.int .u64 eb, .int .u64 bb, .slice a lb.length c] := Blk.later (by (repeat (first | assumption | exact Blk.newAt _ _ _ (by first | (simp; done) | (simp; omega)) | refine Blk.alloc ?_ _ | refine Blk.drew ?_ | refine Blk.drewN ?_ _ | refine Blk.far ?_ (by first | (simp; done) | (simp; omega)) _))) hb1
    have hbw1 : Below w.heap.size w w1 := by (repeat (first | with_reducible exact Below.refl _ _ | with_reducible assumption | (with_reducible refine below_alloc ?_ _) | (with_reducible refine Below.setCell ?_ (by first | omega | (simp; done) | (simp; omega)) _) | (with_reducible refine Below.drew ?_) | (with_reducible refine below_drewN ?_ _) | (refine below_then (by with_reducible assumption) ?_)))
    obtain ⟨x0, x1, x2, _, _, _, l0⟩ := b_blk B1
    clear hb1

    go_wp2_with fail
    refine (live25 _).mono ?_
    rintro r w99 ⟨rfl, hb99⟩
    have hbe := below_then hb99 hbw1
    go_wp2
    go_ret
    exact ⟨rfl, hbe⟩

theorem o_int25 : Opens Tryz.prog 3 (rInt .i64) := opens_int Tryz.underlying3
set_option maxRecDepth 100000 in
theorem batchBack_walk {H : Type} (enc : TypeId × Value → H) (W : World) (base : Nat) (v0 v1 v2 : Value) (d0 d1 d2 : DataW H) (p0 p1 p2 : List MemPlace)
    (k0 : DataW.Trod enc Tryz.prog W 0 (fun _ => true) true 25 v0 d0 p0) (k1 : DataW.Trod enc Tryz.prog W 0 (fun _ => true) true 28 v1 d1 p1) (k2 : DataW.Trod enc Tryz.prog W 0 (fun _ => true) true 3 v2 d2 p2)
    (o0 : Value.okWide Tryz.prog W .any base 25 v0) (o1 : Value.okWide Tryz.prog W .any base 28 v1) (o2 : Value.okWide Tryz.prog W .any base 3 v2) :
    Calls Tryz.prog 5 #[v0, v1, v2] W fun e w' => e = .returned (.bool true) ∧ Below W.heap.size W w' := by
  obtain ⟨b, a, n, c, rfl, hb⟩ := batch_arg enc W base v0 d0 p0 k0 o0
  obtain ⟨fuel1, hf1⟩ := k1
  obtain ⟨fuel2, hf2⟩ := k2
  obtain ⟨ar, nr, cr, rfl⟩ := Go.WideShapes.okWide_slice Tryz.underlying28 o1
  obtain ⟨m, rfl⟩ := Go.WideShapes.okWide_int Tryz.underlying3 o2
  obtain ⟨R, hR⟩ := o_bytes enc W fuel1 _ _ hf1
  obtain ⟨m', hm', hw⟩ := o_int25 enc W fuel2 _ _ hf2
  simp [Value.cells] at hm'
  subst hm'
  obtain ⟨eb, bb, lb⟩ := b
  exact batchBack_c eb bb lb R m a ar n c nr cr W hb hR (i64_bounds hw)
end Go.Proofs.YtkipiefcnjfdjaaGreat
