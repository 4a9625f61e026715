/- Copies of segments (turned from StQ). -/
import Derived.Test.YtkipiefcnjfdjaaGreatStQ
namespace Go.Proofs.YtkipiefcnjfdjaaGreat
open Go.RowKit Go.Bs
set_option linter.unusedVariables false
set_option linter.unusedSimpArgs false
theorem infoBatch : (Tryz.prog.info? 25).map (fun i => (i.zero, i.size, i.bytes)) = some (some (.agg #[.int .u64 0, .int .u64 0, .slice none 0 0]), 3, 40) := by kernel_rfl
def MildB (x : Batch) : Prop := x.entries.length ≤ 1000000000000 ∧ ∀ z ∈ x.entries, Mild z

set_option maxHeartbeats 1600000 in
theorem segment_copy (ep : Int) (l : List Batch) (a : Option Addr) (n c : Nat) (w : World) (hl : rBatches.r (· < w.heap.size) w [.slice a n c] l) (hlen : l.length ≤ 1000000000000) (hb : ∀ z ∈ l, MildB z) :
    Calls Tryz.prog 60 #[.agg #[.int .u64 ep, .slice a n c]] w fun r w' => ∃ v, r = .returned (.agg #[.int .u64 ep, v]) ∧ rBatches.r (Fresh w w') w' [v] l ∧ Below w.heap.size w w' := by
  obtain ⟨rfl, hm, _, _⟩ := sl_len hl
  obtain ⟨i0, hi, hz0, hz1, hz2⟩ := info_parts infoBatch
  have HL := hid hl; clear hl
  have HB := hid hb; clear hb
  go_enter Tryz.func60, Tryz.ntmps60
  go_wp2_with fail
  refine wp_world (fun W => Below w.heap.size w W ∧ W.heap.size = w.heap.size + 2 ∧ Blk W w.heap.size 62 #[.int .u64 ep, .slice a l.length c] ∧ Blk W (w.heap.size + 1) 62 #[.int .u64 0, .slice none 0 0]) ⟨by (repeat (first | exact Below.refl _ _ | assumption | (refine below_alloc ?_ _) | (refine Below.setCell ?_ (by first | omega | (simp; done) | (simp; omega)) _) | (refine Below.drew ?_) | (refine below_drewN ?_ _) | (refine below_then (by assumption) ?_))), by simp, (Blk.new w _ _).alloc _, Blk.new1 w _ _ _⟩ ?_
  intro W ⟨hbW, hzW, q0, q1⟩
  have LT0 : w.heap.size < W.heap.size := by omega
  have LT1 : w.heap.size + 1 < W.heap.size := by omega
  have Q0 := hid q0; have Q1 := hid q1; clear q0 q1
  have HW := hid hzW; clear hzW
  go_loopw [3, 9] (fun v i wr => ∃ k : Nat, k ≤ l.length ∧ i = .int .i64 k ∧ OwnEls W.heap.size rBatch W.heap.size 25 3 wr v (l.take k) ∧ Below W.heap.size W wr) (fun _ i _ => l.length - (intOf i).toNat)
  case atStart => exact ⟨0, Nat.zero_le _, rfl, OwnEls.nil, Below.refl _ _⟩
  case round =>
    obtain ⟨k, hk, rfl, hown, hb⟩ := hrel
    have hbw := below_then hb hbW
    by_cases hlt : k < l.length
    · obtain ⟨b, o, hA, hbb, a1, c1, hc0, hc1, hc2, g0, g1, hd1⟩ := batch_at HL.out hlt
      subst hA
      have X0 := (hbw.cell (p := ⟨b, o + k * 3, none⟩) hbb).trans hc0
      have X1 := (hbw.cell (p := ⟨b, o + k * 3 + 1, none⟩) hbb).trans hc1
      have X2 := (hbw.cell (p := ⟨b, o + k * 3 + 2, none⟩) hbb).trans hc2
      clear hc0 hc1 hc2
      have htk := hid (List.take_succ_eq_append_getElem hlt)
      obtain ⟨m1, m3⟩ := HB.out _ (List.getElem_mem hlt)
      have R1 := hid (lift hd1 hbw)
      clear hd1
      generalize l[k] = z at *
      have M3 := hid m3; clear m3
      have htl : (l.take k).length = k := by simp; omega
      generalize hT : l.take k = T at *
      clear hT
      subst htl
      have OW := hid hown; clear hown
      have i1 : (T.length : Int) < (l.length : Int) := by omega
      go_wp2_with fail
      refine (batch_copy z _ _ _ _ (lift R1.out (by (repeat (first | exact Below.refl _ _ | assumption | (refine below_alloc ?_ _) | (refine Below.setCell ?_ (by first | omega | (simp; done) | (simp; omega)) _) | (refine Below.drew ?_) | (refine below_drewN ?_ _) | (refine below_then (by assumption) ?_))))) m1 M3.out).mono ?_
      rintro e w4 ⟨v1, rfl, hr4, hb4⟩
      have hbw4 : Below wr.heap.size wr w4 := by (repeat (first | exact Below.refl _ _ | assumption | (refine below_alloc ?_ _) | (refine Below.setCell ?_ (by first | omega | (simp; done) | (simp; omega)) _) | (refine Below.drew ?_) | (refine below_drewN ?_ _) | (refine below_then (by assumption) ?_)))
      have hz4 : wr.heap.size + 1 ≤ w4.heap.size := by have := hb4.size; simpa using this
      obtain ⟨a4, c4, hv4, _, _⟩ := sl_form hr4
      simp only [List.cons.injEq, and_true] at hv4
      subst hv4
      have O4 := OW.out.below hbw4
      have HR4 := hid (rEntries.mono hr4 (S' := fun b => wr.heap.size + 1 ≤ b ∧ b < w4.heap.size) fun b h => by simpa [Fresh] using h)
      clear hr4
      obtain ⟨cells0, OA0⟩ := OW.out
      have hlt0 : ∀ g, u3.ownBlock = some g → g < wr.heap.size := fun g e => (OA0.1.lt g e).2
      have O5 := O4.below (show Below w4.heap.size w4 (w4.alloc (.cells #[.int .u64 z.epoch, .int .u64 z.base, .slice a4 z.entries.length c4] 25)) from by (repeat (first | exact Below.refl _ _ | assumption | (refine below_alloc ?_ _) | (refine Below.setCell ?_ (by first | omega | (simp; done) | (simp; omega)) _) | (refine Below.drew ?_) | (refine below_drewN ?_ _) | (refine below_then (by assumption) ?_))))
      obtain ⟨cells, OA⟩ := O5
      have hx : rBatch.r (fun b => W.heap.size ≤ b ∧ b < ((w4.alloc (.cells #[.int .u64 z.epoch, .int .u64 z.base, .slice a4 z.entries.length c4] 25))).heap.size ∧ u3.ownBlock ≠ some b) (w4.alloc (.cells #[.int .u64 z.epoch, .int .u64 z.base, .slice a4 z.entries.length c4] 25)) [.int .u64 z.epoch, .int .u64 z.base, .slice a4 z.entries.length c4] z := by
        have hbs := hb.size
        refine batch_mk g0 g1 (rEntries.mono (rEntries.keep HR4.out fun b hb => Below.heap_alloc w4 _ b hb.2) fun b hb' => ⟨?_, ?_, fun e => ?_⟩)
        · omega
        · simp; omega
        · have := hlt0 b e; omega
      have hb9 : Below W.heap.size W (w4.alloc (.cells #[.int .u64 z.epoch, .int .u64 z.base, .slice a4 z.entries.length c4] 25)) := below_alloc (below_then hbw4 hb) _
      have HX := hid hx; clear hx
      have HS9 := hid hb9.size
      have HA := hid OA; clear OA OA0 O4 hlt0
      have HB9 := hid hb9; clear hb9
      go_wp2_with (at_builtin; go_loud (refine wpList_append_src rfl _ _ _ rfl W.heap.size 25 i0 (.agg #[.int .u64 0, .int .u64 0, .slice none 0 0]) 3 40 Tryz.underlying60 hi hz0 hz1 hz2 rfl (by decide) u3 T.length _ rfl HA.out.1 (some ⟨w4.heap.size, 0, none⟩) 1 1 [.int .u64 z.epoch, .int .u64 z.base, .slice a4 z.entries.length c4] rfl (src_new1 w4 25 _ rfl rfl rfl) (by intro u hu; simp at hu; rcases hu with rfl | rfl | rfl <;> rfl) (by simp only [maxLen]; omega) (by omega) HS9.out ?_; intro v1 w5 hown1 hgrow1 hat1; have OP := hid (OwnEls.push HA.out rfl HX.out hown1 hgrow1 hat1 hgrow1.size); have B5 := hid (HB9.out.grown hgrow1 HS9.out (fun g e => (HA.out.1.lt g e).1)); clear hown1 hgrow1 hat1))
      go_roundw
      case rel => exact ⟨T.length + 1, by omega, by go_num, by rw [htk.out]; exact OP.out, B5.out⟩
      case measure => simp [intOf]; omega
    · obtain rfl : k = l.length := by omega
      rw [List.take_length] at hown
      have hv := OwnEls.slice (Nat.le_refl _) hown
      obtain ⟨av, cv, hv1, _, _⟩ := sl_form hv
      simp only [List.cons.injEq, and_true] at hv1
      subst hv1
      have HV := hid hv; clear hv hown
      have P0 := Q0.out.below hb LT0
      have P1 := Q1.out.below hb LT1
      have y0 : wr.cell? ⟨w.heap.size, 0, none⟩ = some (.int .u64 ep) := P0.cell 0
      have y2 : wr.cell? ⟨w.heap.size, 1, none⟩ = some (.slice a l.length c) := P0.cell 1
      have y3 := P0.free 1
      have z0 : wr.cell? ⟨w.heap.size + 1, 0, none⟩ = some (.int .u64 0) := P1.cell 0
      have z2 : wr.cell? ⟨w.heap.size + 1, 1, none⟩ = some (.slice none 0 0) := P1.cell 1
      have f0 := P1.free 0
      have f1 := P1.free 1
      clear P0 P1
      go_wp2
      refine bodyPost_ret (v := .agg #[.int .u64 ep, .slice av l.length cv]) (by simp [results, Tryz.results60, go_sem, y0, y2, z0, z2]) rfl ⟨_, rfl, ?_, by (repeat (first | exact Below.refl _ _ | assumption | (refine below_alloc ?_ _) | (refine Below.setCell ?_ (by first | omega | (simp; done) | (simp; omega)) _) | (refine Below.drew ?_) | (refine below_drewN ?_ _) | (refine below_then (by assumption) ?_)))⟩
      have hw2 := HW.out
      refine rBatches.mono (rBatches.keep HV.out fun b hb => ?_) fun b hb => ⟨by omega, by simp; omega⟩
      repeat rw [Below.heap_setCell _ _ _ _ (by dsimp only; omega)]
end Go.Proofs.YtkipiefcnjfdjaaGreat
