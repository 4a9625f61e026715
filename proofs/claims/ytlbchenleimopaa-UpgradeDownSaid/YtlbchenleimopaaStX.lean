/- What a segment of the version 1 becomes, by the reference. -/
-- KEEP ((try dsimp only); refine ⟨?_, ?_, ?_, ?_, ?_⟩ <;> (first | assumption | (go_keep; done)))
import Derived.Test.YtlbchenleimopaaStW
import Derived.Deep.CutRange
import Derived.Test.YtlbchenleimopaaLast
namespace Go.Proofs.Ytlbchenleimopaa
open Go.RowKit Go.Bs
set_option linter.unusedVariables false
set_option linter.unusedSimpArgs false

/-- What a segment of the version 1 becomes, and the code. -/
def up1R (u : Seg1) : Seg × Int := if seg1R u then (if u.entries.length ≤ 256 then (⟨u.epoch, upL u.epoch u.base u.entries⟩, 0) else (⟨0, []⟩, 15)) else (⟨0, []⟩, 3)
/-- What Up1 and its like hand back. -/
def UpRet (x : Seg × Int) (w : World) (r : Ending) (w' : World) : Prop := ∃ v, r = .returned (.tuple #[.agg #[.int .u64 x.1.epoch, v], .int .i64 x.2]) ∧ rBatches.r (· < w'.heap.size) w' [v] x.1.batches ∧ Below w.heap.size w w'
theorem nil_batches {S : Nat → Prop} {w : World} : rBatches.r S w [.slice none 0 0] [] := rSl_mk rfl (Nat.le_refl _) (Nat.zero_le _) (.inl rfl)

set_option maxRecDepth 100000 in
set_option maxHeartbeats 3200000 in
theorem ref36_up1 (u : Seg1) (a : Option Addr) (n c : Nat) (w : World) (h0 : 0 ≤ u.epoch ∧ u.epoch ≤ 18446744073709551615) (h1 : 0 ≤ u.base ∧ u.base ≤ 18446744073709551615) (hl : rOlds.r (· < w.heap.size) w [.slice a n c] u.entries) (ht : totalO u.entries ≤ 1000000000000) (hlen : u.entries.length ≤ 1000000000000) :
    Calls Try.prog 9 #[.agg #[.int .u64 u.epoch, .int .u64 u.base, .slice a n c]] w (UpRet (up1R u) w) := by
  obtain ⟨rfl, hm, _, _⟩ := sl_len hl
  have HR := hid (fun (W : World) (hW : Below w.heap.size w W) => ref35_right1 u a _ c W h0 h1 (lift hl hW) ht hlen)
  have hgood : seg1R u = true → u.base + u.entries.length ≤ 4611686018427387904 := fun h => by
    simp [seg1R, numR] at h; exact h.2.2.1.2
  have HG := hid hgood; clear hgood
  have HUR := hid (show up1R u = if seg1R u then (if u.entries.length ≤ 256 then (⟨u.epoch, upL u.epoch u.base u.entries⟩, 0) else (⟨0, []⟩, 15)) else (⟨0, []⟩, 3) from rfl)
  obtain ⟨i0, hi, iz0, iz1, iz2⟩ := info_parts infoBatch
  obtain ⟨j0, hj, hy0, hy1, hy2⟩ := info_parts infoEntry
  obtain ⟨k0, hk0, hx0, hx1, hx2⟩ := info_parts info64
  have HL := hid hl; clear hl
  cases hs : seg1R u
  · rw [hs] at HR
    have HF : Hid (up1R u = (⟨0, []⟩, 3)) := hid (by rw [HUR.out, hs]; rfl)
    clear hs
    go_enter Try.func9, Try.ntmps9
    go_wp2_with fail
    refine (HR.out _ (by (repeat (first | exact Below.refl _ _ | assumption | (refine below_alloc ?_ _) | (refine Below.setCell ?_ (by first | omega | (simp; done) | (simp; omega)) _) | (refine Below.drew ?_) | (refine below_drewN ?_ _) | (refine below_then (by assumption) ?_))))).mono ?_
    rintro e' w1 ⟨rfl, hb1⟩
    have hz : w.heap.size + 1 < w1.heap.size := by have := hb1.size; simp at this; omega
    have c0 : w1.cell? ⟨w.heap.size + 1, 0, none⟩ = some (.int .u64 0) := (Later.mk w1 hb1).cell (by go_simp)
    have c1 : w1.cell? ⟨w.heap.size + 1, 1, none⟩ = some (.slice none 0 0) := (Later.mk w1 hb1).cell (by go_simp)
    have f0 : w1.frozen? ⟨w.heap.size + 1, 0, none⟩ = false := (hb1.frozen (p := ⟨w.heap.size + 1, 0, none⟩) (by simp)).trans (by go_simp)
    have f1 : w1.frozen? ⟨w.heap.size + 1, 1, none⟩ = false := (hb1.frozen (p := ⟨w.heap.size + 1, 1, none⟩) (by simp)).trans (by go_simp)
    go_wp2
    refine bodyPost_ret (v := .tuple #[.agg #[.int .u64 0, .slice none 0 0], .int .i64 3]) (by simp [results, Try.results9, go_sem, c0, c1]) rfl ?_
    unfold UpRet
    rw [HF.out]
    exact ⟨_, rfl, nil_batches, by (repeat (first | exact Below.refl _ _ | assumption | (refine below_alloc ?_ _) | (refine Below.setCell ?_ (by first | omega | (simp; done) | (simp; omega)) _) | (refine Below.drew ?_) | (refine below_drewN ?_ _) | (refine below_then (by assumption) ?_)))⟩
  · rw [hs] at HR
    have h2 := HG.out hs
    obtain ⟨ep, bs, l⟩ := u
    dsimp only at *
    by_cases h256 : l.length ≤ 256
    · have d1 : decide ((256 : Int) < (l.length : Int)) = false := by simp; omega
      have HF : Hid (up1R ⟨ep, bs, l⟩ = (⟨ep, upL ep bs l⟩, 0)) := hid (by rw [HUR.out, hs, if_pos rfl, if_pos h256])
      clear hs
      go_enter Try.func9, Try.ntmps9
      go_wp2_with fail
      refine (HR.out _ (by (repeat (first | exact Below.refl _ _ | assumption | (refine below_alloc ?_ _) | (refine Below.setCell ?_ (by first | omega | (simp; done) | (simp; omega)) _) | (refine Below.drew ?_) | (refine below_drewN ?_ _) | (refine below_then (by assumption) ?_))))).mono ?_
      rintro e' w1 ⟨rfl, hb1⟩
      have hz : w.heap.size + 1 < w1.heap.size := by have := hb1.size; simp at this; omega
      have hz0 : w.heap.size < w1.heap.size := by omega
      have c0 : w1.cell? ⟨w.heap.size, 0, none⟩ = some (.int .u64 ep) := (Later.mk w1 hb1).cell (by go_simp)
      have c1 : w1.cell? ⟨w.heap.size, 1, none⟩ = some (.int .u64 bs) := (Later.mk w1 hb1).cell (by go_simp)
      have c2 : w1.cell? ⟨w.heap.size, 2, none⟩ = some (.slice a l.length c) := (Later.mk w1 hb1).cell (by go_simp)
      have r0 : Blk w1 (w.heap.size + 1) 30 #[.int .u64 0, .slice none 0 0] := Blk.later (by (repeat (first | assumption | exact Blk.newAt _ _ _ (by first | (simp; done) | (simp; omega)) | refine Blk.alloc ?_ _ | refine Blk.drew ?_ | refine Blk.drewN ?_ _ | refine Blk.far ?_ (by first | (simp; done) | (simp; omega)) _))) hb1
      have RB := hid r0; clear r0
      go_wp2_with fail
      refine wp_world (fun W => ∃ gg : Nat, gg = w1.heap.size ∧ Below w.heap.size w W ∧ W.heap.size = gg + 1 ∧ Blk W (w.heap.size + 1) 30 #[.int .u64 0, .slice none 0 0] ∧ Blk W gg 30 #[.int .u64 ep, .slice none 0 0] ∧ W.cell? ⟨w.heap.size, 0, none⟩ = some (.int .u64 ep) ∧ W.cell? ⟨w.heap.size, 1, none⟩ = some (.int .u64 bs) ∧ W.cell? ⟨w.heap.size, 2, none⟩ = some (.slice a l.length c)) ⟨_, rfl, by (repeat (first | exact Below.refl _ _ | assumption | (refine below_alloc ?_ _) | (refine Below.setCell ?_ (by first | omega | (simp; done) | (simp; omega)) _) | (refine Below.drew ?_) | (refine below_drewN ?_ _) | (refine below_then (by assumption) ?_))), by simp, ?_, by (repeat (first | assumption | exact Blk.newAt _ _ _ (by first | (simp; done) | (simp; omega)) | refine Blk.alloc ?_ _ | refine Blk.drew ?_ | refine Blk.drewN ?_ _ | refine Blk.far ?_ (by first | (simp; done) | (simp; omega)) _)), by go_simp, by go_simp, by go_simp⟩ ?_
      · have := RB.out
        (repeat (first | assumption | exact Blk.newAt _ _ _ (by first | (simp; done) | (simp; omega)) | refine Blk.alloc ?_ _ | refine Blk.drew ?_ | refine Blk.drewN ?_ _ | refine Blk.far ?_ (by first | (simp; done) | (simp; omega)) _))
      intro W ⟨gg, hgg, hbW, hzW, q3, q4, q0, q1, q2⟩
      subst hgg
      have HQ3 := hid q3; have HQ4 := hid q4
      have q5 : W.cell? ⟨w1.heap.size, 1, none⟩ = some (.slice none 0 0) := q4.cell 1
      have q6 : W.cell? ⟨w1.heap.size, 0, none⟩ = some (.int .u64 ep) := q4.cell 0
      have q7 := q4.free 1
      clear q3 q4
      have lt2 : w.heap.size + 1 < W.heap.size := by omega
      have lt3 : w1.heap.size < W.heap.size := by omega
      generalize hgg : w1.heap.size = gg at *
      have HGG := hid hgg; clear hgg
      have ltgg : w.heap.size + 1 < gg := by omega
      go_loopw [5] (fun i wr => ∃ (m f : Nat) (a9 : Option Addr) (c9 : Nat) (cells : List (List Value)), i = .int .i64 f ∧ Hid (f = 16 * m) ∧ f < l.length + 16 ∧ m ≤ 16 ∧ wr.cell? ⟨gg, 1, none⟩ = some (.slice a9 m c9) ∧ wr.cell? ⟨gg, 0, none⟩ = some (.int .u64 ep) ∧ wr.frozen? ⟨gg, 1, none⟩ = false ∧
        Hid (OwnElsF (fun b => b < wr.heap.size ∧ b ≠ gg ∧ b ≠ w.heap.size + 1) rBatch (gg + 1) 58 3 wr (.slice a9 m c9) ((List.range m).map (upB ep bs l)) cells) ∧ Below gg W wr) (fun i _ => l.length + 16 - (intOf i).toNat)
      case atStart => exact ⟨0, 0, none, 0, [], rfl, hid rfl, by omega, by omega, q5, q6, q7, hid OwnElsF.nil, Below.refl _ _⟩
      case round =>
        obtain ⟨m, f, a9, c9, cells, rfl, hf, hfl, hm16, r1, r0, rf, hO, hb⟩ := hrel
        obtain ⟨wo, hwo⟩ : ∃ wo : World, wo = wr := ⟨_, rfl⟩
        subst hwo
        have hbw : Below w.heap.size w wo := hbW.trans (hb.mono (by omega))
        have t0 : wo.cell? ⟨w.heap.size, 0, none⟩ = some (.int .u64 ep) := (hb.cell (p := ⟨w.heap.size, 0, none⟩) (by show w.heap.size < gg; omega)).trans q0
        have t1 : wo.cell? ⟨w.heap.size, 1, none⟩ = some (.int .u64 bs) := (hb.cell (p := ⟨w.heap.size, 1, none⟩) (by show w.heap.size < gg; omega)).trans q1
        have t2 : wo.cell? ⟨w.heap.size, 2, none⟩ = some (.slice a l.length c) := (hb.cell (p := ⟨w.heap.size, 2, none⟩) (by show w.heap.size < gg; omega)).trans q2
        have hz3 : gg < wo.heap.size := by have := hb.size; omega
        have hz4 : w.heap.size < wo.heap.size := by omega
        by_cases hlt : f < l.length
        · go_wp2_with fail
          refine wp_world (fun W1 => Below wo.heap.size wo W1 ∧ W1.heap.size = wo.heap.size + 1 ∧ Blk W1 wo.heap.size 58 #[.int .u64 ep, .int .u64 (bs + f), .slice none 0 0]) ⟨by (repeat (first | exact Below.refl _ _ | assumption | (refine below_alloc ?_ _) | (refine Below.setCell ?_ (by first | omega | (simp; done) | (simp; omega)) _) | (refine Below.drew ?_) | (refine below_drewN ?_ _) | (refine below_then (by assumption) ?_))), by simp, by (repeat (first | assumption | exact Blk.newAt _ _ _ (by first | (simp; done) | (simp; omega)) | refine Blk.alloc ?_ _ | refine Blk.drew ?_ | refine Blk.drewN ?_ _ | refine Blk.far ?_ (by first | (simp; done) | (simp; omega)) _))⟩ ?_
          intro W1 ⟨hbW1, hzW1, qb⟩
          have z2 : W1.cell? ⟨wo.heap.size, 2, none⟩ = some (.slice none 0 0) := qb.cell 2
          have z1 : W1.cell? ⟨wo.heap.size, 1, none⟩ = some (.int .u64 (bs + f)) := qb.cell 1
          have z0 : W1.cell? ⟨wo.heap.size, 0, none⟩ = some (.int .u64 ep) := qb.cell 0
          have zf := qb.free 2
          clear qb
          generalize hbb : wo.heap.size = bb at *
          have HBB := hid hbb
          clear hbb
          go_loopw [7] (fun i w2 => ∃ (i' : Nat) (a4 : Option Addr) (n4 c4 : Nat) (cl : List (List Value)), i = .int .i64 i' ∧ f ≤ i' ∧ i' ≤ l.length ∧ i' ≤ f + 16 ∧ w2.cell? ⟨bb, 2, none⟩ = some (.slice a4 n4 c4) ∧ w2.cell? ⟨bb, 1, none⟩ = some (.int .u64 (bs + f)) ∧ w2.cell? ⟨bb, 0, none⟩ = some (.int .u64 ep) ∧ w2.frozen? ⟨bb, 2, none⟩ = false ∧
            Hid (OwnElsF (fun b => b < w.heap.size ∨ (bb < b ∧ b < w2.heap.size)) rEntry (bb + 1) 41 2 w2 (.slice a4 n4 c4) (upT l m i') cl) ∧ Below bb W1 w2) (fun i _ => l.length - (intOf i).toNat)
          case atStart => exact ⟨f, none, 0, 0, [], rfl, Nat.le_refl _, by omega, by omega, z2, z1, z0, zf, hid (by rw [hf.out, upT_nil]; exact OwnElsF.nil), Below.refl _ _⟩
          case round =>
            obtain ⟨i', a4, n4, c4, cl, rfl, hfi, hil, hif, p2, p1, p0, pf, OE, hb2⟩ := hrel
            have hbg : Below bb wo wr := hbW1.trans hb2
            have hb2w : Below w.heap.size w wr := hbw.trans (hbg.mono (by omega))
            have hz5 : bb < wr.heap.size := by have := hb2.size; omega
            have s0 : wr.cell? ⟨w.heap.size, 0, none⟩ = some (.int .u64 ep) := (hbg.cell (p := ⟨w.heap.size, 0, none⟩) hz4).trans t0
            have s2 : wr.cell? ⟨w.heap.size, 2, none⟩ = some (.slice a l.length c) := (hbg.cell (p := ⟨w.heap.size, 2, none⟩) hz4).trans t2
            have hz6 : w.heap.size < wr.heap.size := by omega
            by_cases hin : i' < l.length ∧ i' < f + 16
            · obtain ⟨hin1, hin2⟩ := hin
              obtain ⟨b, o, hA, hbb, a1, c1, xx0, xx1, xx2, xx3, s0', s1', sD⟩ := old_at HL.out hin1
              subst hA
              have x0 := (hb2w.cell (p := ⟨b, o + i' * 4, none⟩) hbb).trans xx0
              have x1 := (hb2w.cell (p := ⟨b, o + i' * 4 + 1, none⟩) hbb).trans xx1
              have x2 := (hb2w.cell (p := ⟨b, o + i' * 4 + 2, none⟩) hbb).trans xx2
              have x3 := (hb2w.cell (p := ⟨b, o + i' * 4 + 3, none⟩) hbb).trans xx3
              clear xx0 xx1 xx2 xx3
              have HSD := hid sD; clear sD
              have hst := hid (upT_step l m i' (by rw [← hf.out]; exact hfi) hin1)
              have hn4 : (upT l m i').length = n4 := by
                obtain ⟨a0', c0', e0⟩ := own_form OE.out.1
                simp at e0; exact e0.2.1.symm
              have hn5 : n4 ≤ 16 := by rw [← hn4, upT_length l m i' hil, ← hf.out]; omega
              generalize l[i'] = x at *
              have HN4 := hid hn4; clear hn4
              have hbb2 : b < wr.heap.size := by omega
              have db : decide ((i' : Int) < (f : Int) + 16) = true := by simp; omega
              go_upto_if 62 with fail
              go_cut [] from 57 to 73 (fun W3 => ∃ a5 n5 c5, W3.cell? ⟨wr.heap.size, 0, none⟩ = some (.int .u64 x.stream) ∧ W3.cell? ⟨wr.heap.size, 1, none⟩ = some (.slice a5 n5 c5) ∧ rU64s.r (fun b' => wr.heap.size < b' ∧ b' < W3.heap.size) W3 [.slice a5 n5 c5] (backsO x) ∧ wr.heap.size < W3.heap.size ∧ Below wr.heap.size wr W3)
              case first =>
                cases hh : x.has
                · rw [hh] at x2
                  have HBK : Hid (backsO x = []) := hid (by simp [backsO, hh])
                  clear hh
                  go_wp2_with fail
                  go_meet
                  exact ⟨none, 0, 0, by go_simp, by go_simp, by rw [HBK.out]; exact rSl_mk rfl (Nat.le_refl _) (Nat.zero_le _) (.inl rfl), by simp, by (repeat (first | exact Below.refl _ _ | assumption | (refine below_alloc ?_ _) | (refine Below.setCell ?_ (by first | omega | (simp; done) | (simp; omega)) _) | (refine Below.drew ?_) | (refine below_drewN ?_ _) | (refine below_then (by assumption) ?_)))⟩
                · rw [hh] at x2
                  have HBK : Hid (backsO x = [x.back]) := hid (by simp [backsO, hh])
                  clear hh
                  go_wp2_with fail
                  go_region_law (first
                    | (refine step_append_src (by rfl) _ _ _ (by rfl) (wr.heap.size + 1) 22 k0 (.int .u64 0) 1 8 Try.underlying47 hk0 hx0 hx1 hx2 rfl (by decide) (.slice none 0 0) 0 [] (by rfl) ⟨by simp, .inl ⟨rfl, rfl⟩⟩ (some ⟨wr.heap.size + 1, 0, none⟩) 1 1 [.int .u64 x.back] (by rfl) (src_new1 (wr.alloc (.cells #[.int .u64 x.stream, .slice none 0 0] 49)).drew 22 _ (by rfl) (by simp) rfl) (by intro u hu; simp at hu; rcases hu with rfl; rfl) (by simp only [maxLen]; omega) (by omega) (by simp) ?_; intro a6 c6 w6 hown6 hgrow6 hat6; rw [List.nil_append] at hown6; have k6 : Below (wr.heap.size + 1) (wr.alloc (.cells #[.int .u64 x.stream, .slice none 0 0] 49)) w6 := Below.grown (((Below.refl _ _).alloc (by simp) _).drew) hgrow6 (by simp) (fun g e => by cases e); have y0 : w6.cell? ⟨wr.heap.size, 0, none⟩ = some (.int .u64 x.stream) := (k6.cell (p := ⟨wr.heap.size, 0, none⟩) (by simp)).trans (by go_simp); have y1 : w6.cell? ⟨wr.heap.size, 1, none⟩ = some (.slice none 0 0) := (k6.cell (p := ⟨wr.heap.size, 1, none⟩) (by simp)).trans (by go_simp); have y2 : w6.frozen? ⟨wr.heap.size, 1, none⟩ = false := (k6.frozen (p := ⟨wr.heap.size, 1, none⟩) (by simp)).trans (by go_simp); have y3 : wr.heap.size < w6.heap.size := (by (have := k6.size; simp at this; omega)); have HO6 := hid hown6; have HK6 := hid k6; clear k6 hown6 hgrow6 hat6))
                  all_goals
                    go_wp2_with fail
                    go_meet
                    have hr6 := own_ints64 (l := [x.back]) (by intro y hy; simp at hy; subst hy; exact s1') rfl HO6.out
                    refine ⟨a6, 1, c6, by go_simp, by go_simp, ?_, by simp; omega, ?_⟩
                    · rw [HBK.out]
                      refine rU64s.mono (rU64s.keep hr6 fun b' hb' => Below.heap_setCell _ _ _ _ (by dsimp only; omega)) fun b' hb' => ⟨by omega, by simp; omega⟩
                    · exact Below.setCell (((Below.refl _ wr).alloc (Nat.le_refl _) _).trans (HK6.out.mono (by omega))) (Nat.le_refl _) _
              case rest =>
                obtain ⟨a5, n5, c5, y0, y1, y2, y3, y4⟩ := hcut
                obtain ⟨W3, hW3⟩ : ∃ W3 : World, W3 = wc := ⟨_, rfl⟩
                subst hW3
                go_wp2_with fail
                have ly : wr.heap.size < W3.heap.size := y3
                have HY2 := hid y2; clear y2
                have yb : Below wr.heap.size wr W3 := y4
                have l0 : W3.cell? ⟨wr.heap.size, 0, none⟩ = some (.int .u64 x.stream) := y0
                have l1 : W3.cell? ⟨wr.heap.size, 1, none⟩ = some (.slice a5 n5 c5) := y1
                have b0 : W3.cell? ⟨bb, 2, none⟩ = some (.slice a4 n4 c4) := (yb.cell (p := ⟨bb, 2, none⟩) hz5).trans p2
                have b1 : W3.frozen? ⟨bb, 2, none⟩ = false := (yb.frozen (p := ⟨bb, 2, none⟩) hz5).trans pf
                have X3 : W3.cell? ⟨b, o + i' * 4 + 3, none⟩ = some (.slice a1 x.data.length c1) := (yb.cell (p := ⟨b, o + i' * 4 + 3, none⟩) (by show b < _; omega)).trans x3
                have t2 : W3.cell? ⟨w.heap.size, 2, none⟩ = some (.slice (some ⟨b, o, none⟩) l.length c) := (yb.cell (p := ⟨w.heap.size, 2, none⟩) (by show w.heap.size < _; omega)).trans s2
                have hz7 : bb < W3.heap.size := by omega
                have hz8 : b < W3.heap.size := by omega
                have hz9 : w.heap.size < W3.heap.size := by omega
                have hF3 := OE.out.keep (w' := W3) (fun b' hb' => yb.block b' (by omega)) (fun g hg => yb.block g (OE.out.1.lt g hg).2)
                have hownE := OE.out.1.lt
                have HOE := hid hownE; clear hownE
                have OF3 := hid hF3; clear hF3
                have hn4' : (upT l m i').length = n4 := HN4.out
                have HRW := fun (W4 : World) (h : Below W3.heap.size W3 W4) => own_below OF3.out.1 h
                have HRW := hid HRW
                refine wp_region_last_held (fun w' => w'.cell? ⟨bb, 2, none⟩ = some (.slice a4 n4 c4) ∧ w'.cell? ⟨wr.heap.size, 0, none⟩ = some (.int .u64 x.stream) ∧ w'.cell? ⟨wr.heap.size, 1, none⟩ = some (.slice a5 n5 c5) ∧ w'.cell? ⟨w.heap.size, 2, none⟩ = some (.slice (some ⟨b, o, none⟩) l.length c) ∧ w'.cell? ⟨b, o + i' * 4 + 3, none⟩ = some (.slice a1 x.data.length c1)) _ (by kernel_rfl) rfl (by kernel_rfl) ⟨b0, l0, l1, t2, X3⟩ (fun hHeld => ?_)
                simp only [noopLast, noopOf]
                refine wpAnyH_take (i := 0) (oi := _) (v := ?_) rfl (by decide +kernel) (by decide +kernel) (by decide +kernel) (fun _ _ _ h => h) (Or.inl ⟨by rfl, ?_⟩) (by assumption) ?_
                rotate_left
                · (intro w hSw; (try dsimp only at hSw); go_simp <;> with_reducible rfl)
                (try simp only [Act.put, List.setIfInBounds_toArray, List.set_cons_zero, List.set_cons_succ])
                refine wpAnyH_take (i := 1) (oi := _) (v := ?_) rfl (by decide +kernel) (by decide +kernel) (by decide +kernel) (fun _ _ _ h => h) (Or.inl ⟨by rfl, ?_⟩) (by assumption) ?_
                rotate_left
                · (intro w hSw; (try dsimp only at hSw); go_simp <;> with_reducible rfl)
                (try simp only [Act.put, List.setIfInBounds_toArray, List.set_cons_zero, List.set_cons_succ])
                refine wpAnyH_take (i := 2) (oi := _) (v := ?_) rfl (by decide +kernel) (by decide +kernel) (by decide +kernel) (fun _ _ _ h => h) (Or.inl ⟨by rfl, ?_⟩) (by assumption) ?_
                rotate_left
                · (intro w hSw; (try dsimp only at hSw); go_simp <;> with_reducible rfl)
                (try simp only [Act.put, List.setIfInBounds_toArray, List.set_cons_zero, List.set_cons_succ])
                refine wpAnyH_take (i := 4) (oi := _) (v := ?_) rfl (by decide +kernel) (by decide +kernel) (by decide +kernel) (fun _ _ _ h => h) (Or.inl ⟨by rfl, ?_⟩) (by assumption) ?_
                rotate_left
                · (intro w hSw; (try dsimp only at hSw); go_simp <;> with_reducible rfl)
                (try simp only [Act.put, List.setIfInBounds_toArray, List.set_cons_zero, List.set_cons_succ])
                refine wpAnyH_take (i := 5) (oi := _) (v := ?_) rfl (by decide +kernel) (by decide +kernel) (by decide +kernel) (fun _ _ _ h => h) (Or.inl ⟨by rfl, ?_⟩) (by assumption) ?_
                rotate_left
                · (intro w hSw; (try dsimp only at hSw); go_simp <;> with_reducible rfl)
                (try simp only [Act.put, List.setIfInBounds_toArray, List.set_cons_zero, List.set_cons_succ])
                refine wpAnyH_take (i := 6) (oi := _) (v := ?_) rfl (by decide +kernel) (by decide +kernel) (by decide +kernel) (fun _ _ _ h => h) (Or.inl ⟨by rfl, ?_⟩) (by assumption) ?_
                rotate_left
                · (intro w hSw; (try dsimp only at hSw); go_simp <;> with_reducible rfl)
                (try simp only [Act.put, List.setIfInBounds_toArray, List.set_cons_zero, List.set_cons_succ])
                refine wpAnyH_take (i := 7) (oi := _) (v := ?_) rfl (by decide +kernel) (by decide +kernel) (by decide +kernel) (fun _ _ _ h => h) (Or.inl ⟨by rfl, ?_⟩) (by assumption) ?_
                rotate_left
                · (intro w hSw; (try dsimp only at hSw); go_simp <;> with_reducible rfl)
                (try simp only [Act.put, List.setIfInBounds_toArray, List.set_cons_zero, List.set_cons_succ])
                refine wpAnyH_take (i := 8) (oi := _) (v := ?_) rfl (by decide +kernel) (by decide +kernel) (by decide +kernel) (fun _ _ _ h => h) (Or.inl ⟨by rfl, ?_⟩) (by assumption) ?_
                rotate_left
                · (intro w hSw; (try dsimp only at hSw); go_simp <;> with_reducible rfl)
                (try simp only [Act.put, List.setIfInBounds_toArray, List.set_cons_zero, List.set_cons_succ])
                refine wpAnyH_take (i := 9) (oi := _) (v := ?_) rfl (by decide +kernel) (by decide +kernel) (by decide +kernel) (fun _ _ _ h => h) (Or.inl ⟨by rfl, ?_⟩) (by assumption) ?_
                rotate_left
                · (intro w hSw; (try dsimp only at hSw); go_simp <;> with_reducible rfl)
                (try simp only [Act.put, List.setIfInBounds_toArray, List.set_cons_zero, List.set_cons_succ])
                refine wpAnyH_ready (rs := [3]) (by decide +kernel) (by simp) ?_
                refine AllReadyH.cons (o := _) rfl (fun K hK => ?_) AllReadyH.nil
                go_simp
                refine hK.out _ _ ?_ (fun hHeld => ?_)
                · ((try dsimp only); refine ⟨?_, ?_, ?_, ?_, ?_⟩ <;> (first | assumption | (go_keep; done)))
                clear hK K
                (try simp only [Act.put, List.setIfInBounds_toArray, List.set_cons_zero, List.set_cons_succ])
                refine wpAnyH_take (i := 10) (oi := _) (v := ?_) rfl (by decide +kernel) (by decide +kernel) (by decide +kernel) (fun _ _ _ h => h) (Or.inl ⟨by rfl, ?_⟩) (by assumption) ?_
                rotate_left
                · (intro w hSw; (try dsimp only at hSw); go_simp <;> with_reducible rfl)
                (try simp only [Act.put, List.setIfInBounds_toArray, List.set_cons_zero, List.set_cons_succ])
                refine wpAnyH_ready (rs := [11]) (by decide +kernel) (by simp) ?_
                refine AllReadyH.cons (o := _) rfl (fun K hK => ?_) AllReadyH.nil
                go_simp
                refine hK.out _ _ ?_ (fun hHeld => ?_)
                · ((try dsimp only); refine ⟨?_, ?_, ?_, ?_, ?_⟩ <;> (first | assumption | (go_keep; done)))
                clear hK K
                (try simp only [Act.put, List.setIfInBounds_toArray, List.set_cons_zero, List.set_cons_succ])
                refine wpAnyH_ready (rs := [12]) (by decide +kernel) (by simp) ?_
                refine AllReadyH.cons (o := _) rfl (fun K hK => ?_) AllReadyH.nil
                (refine step_append_src (by rfl) _ _ _ (by rfl) (bb + 1) 41 j0 (.agg #[.slice none 0 0, .slice none 0 0]) 2 48 Try.underlying56 hj hy0 hy1 hy2 rfl (by decide) (.slice a4 n4 c4) (upT l m i').length cl.flatten (by rfl) (HRW.out _ (by (repeat (first | exact Below.refl _ _ | assumption | (refine below_alloc ?_ _) | (refine Below.setCell ?_ (by first | omega | (simp; done) | (simp; omega)) _) | (refine Below.drew ?_) | (refine below_drewN ?_ _) | (refine below_then (by assumption) ?_))))) (some ⟨W3.heap.size + 1, 0, none⟩) 1 1 [.slice (some ⟨W3.heap.size, 0, none⟩) 1 1, .slice a1 x.data.length c1] (by rfl) (src_new1 (W3.drew.alloc (.cells #[.int .u64 x.stream, .slice a5 n5 c5] 49)) 41 _ (by rfl) (by simp) rfl) (by intro u hu; simp at hu; rcases hu with rfl | rfl <;> rfl) (by rw [hn4']; simp only [maxLen]; omega) (by omega) (by simp; omega) ?_; intro a8 c8 w8 hown8 hgrow8 hat8; have G := fun b' (hb : b' < W3.heap.size) (hne : (Value.slice a4 n4 c4).ownBlock ≠ some b') => (hgrow8.block b' (by simp; omega) (fun e => hne e.symm)).trans ((Below.heap_alloc _ _ b' (by simp; omega)).trans (Below.heap_alloc W3.drew _ b' (by exact hb))); have neb : (Value.slice a4 n4 c4).ownBlock ≠ some bb := fun e => by { have := (HOE.out bb e).1; omega }; have m1 := (World.cell?_of_block (a := ⟨bb, 2, none⟩) (G bb hz7 neb)).trans b0; have m2 := (World.frozen?_of_block (a := ⟨bb, 2, none⟩) (G bb hz7 neb)).trans b1; have nel : (Value.slice a4 n4 c4).ownBlock ≠ some wr.heap.size := fun e => by { have := (HOE.out _ e).2; omega }; have new : (Value.slice a4 n4 c4).ownBlock ≠ some w.heap.size := fun e => by { have := (HOE.out _ e).1; omega }; have neo : (Value.slice a4 n4 c4).ownBlock ≠ some b := fun e => by { have := (HOE.out _ e).1; omega }; have n0 := (World.cell?_of_block (a := ⟨wr.heap.size, 0, none⟩) (G _ ly nel)).trans l0; have n1 := (World.cell?_of_block (a := ⟨wr.heap.size, 1, none⟩) (G _ ly nel)).trans l1; have n2 := (World.cell?_of_block (a := ⟨w.heap.size, 2, none⟩) (G _ hz9 new)).trans t2; have n3 := (World.cell?_of_block (a := ⟨b, o + i' * 4 + 3, none⟩) (G b hz8 neo)).trans X3; have hz8s := hgrow8.size; have m3 : bb < w8.heap.size := Nat.lt_of_lt_of_le hz7 (Nat.le_trans (by simp; omega) hz8s); have HG8 := hid hgrow8; have HO8 := hid hown8; have HA8 := hid hat8; have HGG := hid G; clear hgrow8 hown8 hat8 G hz8s)
                refine hK.out _ _ ?_ (fun hHeld => ?_)
                · ((try dsimp only); refine ⟨?_, ?_, ?_, ?_, ?_⟩ <;> (first | assumption | (go_keep; done)))
                clear hK K
                (try simp only [Act.put, List.setIfInBounds_toArray, List.set_cons_zero, List.set_cons_succ])
                refine wpAnyH_take (i := 13) (oi := _) (v := ?_) rfl (by decide +kernel) (by decide +kernel) (by decide +kernel) (fun _ _ _ h => h) (Or.inl ⟨by rfl, ?_⟩) (by assumption) ?_
                rotate_left
                · (intro w hSw; (try dsimp only at hSw); go_simp <;> with_reducible rfl)
                (try simp only [Act.put, List.setIfInBounds_toArray, List.set_cons_zero, List.set_cons_succ])
                refine wpAnyH_take (i := 14) (oi := _) (v := ?_) rfl (by decide +kernel) (by decide +kernel) (by decide +kernel) (fun _ _ _ h => h) (Or.inl ⟨by rfl, ?_⟩) (by assumption) ?_
                rotate_left
                · (intro w hSw; (try dsimp only at hSw); go_simp <;> with_reducible rfl)
                (try simp only [Act.put, List.setIfInBounds_toArray, List.set_cons_zero, List.set_cons_succ])
                refine wpAnyH_done (by kernel_rfl) ?_ _
                show wpList _ _ _ _ _ _
                have hWs : ((W3.alloc (.cells #[.int .u64 x.stream, .slice a5 n5 c5] 49)).alloc (.cells #[.slice (some ⟨W3.heap.size, 0, none⟩) 1 1, .slice a1 x.data.length c1] 41)).drew.heap.size = W3.heap.size + 2 := by simp
                have keepA : ∀ b', b' < W3.heap.size → ((W3.alloc (.cells #[.int .u64 x.stream, .slice a5 n5 c5] 49)).alloc (.cells #[.slice (some ⟨W3.heap.size, 0, none⟩) 1 1, .slice a1 x.data.length c1] 41)).drew.heap[b']? = W3.heap[b']? := fun b' hb' => by
                  show ((W3.alloc (.cells #[.int .u64 x.stream, .slice a5 n5 c5] 49)).alloc (.cells #[.slice (some ⟨W3.heap.size, 0, none⟩) 1 1, .slice a1 x.data.length c1] 41)).heap[b']? = _
                  rw [Below.heap_alloc _ _ _ (by simp; omega), Below.heap_alloc _ _ _ hb']
                have hx8 : rEntry.r (fun b' => (b' < w.heap.size ∨ (bb < b' ∧ b' < ((W3.alloc (.cells #[.int .u64 x.stream, .slice a5 n5 c5] 49)).alloc (.cells #[.slice (some ⟨W3.heap.size, 0, none⟩) 1 1, .slice a1 x.data.length c1] 41)).drew.heap.size)) ∧ (Value.slice a4 n4 c4).ownBlock ≠ some b') ((W3.alloc (.cells #[.int .u64 x.stream, .slice a5 n5 c5] 49)).alloc (.cells #[.slice (some ⟨W3.heap.size, 0, none⟩) 1 1, .slice a1 x.data.length c1] 41)).drew [.slice (some ⟨W3.heap.size, 0, none⟩) 1 1, .slice a1 x.data.length c1] (upE x) := by
                  have hbk : Blk ((W3.alloc (.cells #[.int .u64 x.stream, .slice a5 n5 c5] 49)).alloc (.cells #[.slice (some ⟨W3.heap.size, 0, none⟩) 1 1, .slice a1 x.data.length c1] 41)).drew W3.heap.size 49 #[.int .u64 x.stream, .slice a5 n5 c5] := by (repeat (first | assumption | exact Blk.newAt _ _ _ (by first | (simp; done) | (simp; omega)) | refine Blk.alloc ?_ _ | refine Blk.drew ?_ | refine Blk.drewN ?_ _ | refine Blk.far ?_ (by first | (simp; done) | (simp; omega)) _))
                  refine entry_mk (rLinks_one (t := 49) hbk s0' ⟨.inr ⟨by omega, by simp; omega⟩, fun e => by have := (HOE.out _ e).2; have := yb.size; omega⟩ ?_) ?_
                  · refine rU64s.mono (rU64s.keep HY2.out fun b' hb' => ?_) fun b' hb' => ⟨.inr ⟨by omega, by simp; omega⟩, fun e => by have := (HOE.out _ e).2; omega⟩
                    exact keepA b' hb'.2
                  · refine rBytes.mono (rBytes.keep HSD.out fun b' hb' => ?_) fun b' hb' => ⟨.inl hb', fun e => by have := (HOE.out _ e).1; omega⟩
                    exact (keepA b' (by omega)).trans ((yb.block b' (by omega)).trans (hb2w.block b' hb'))
                have OFA := (OF3.out.mono (F' := fun b' => b' < w.heap.size ∨ (bb < b' ∧ b' < W3.heap.size)) (fun b' hb' => by have := yb.size; omega)).keep (w' := ((W3.alloc (.cells #[.int .u64 x.stream, .slice a5 n5 c5] 49)).alloc (.cells #[.slice (some ⟨W3.heap.size, 0, none⟩) 1 1, .slice a1 x.data.length c1] 41)).drew) (fun b' hb' => keepA b' (by omega)) (fun g hg => keepA g (by have := (HOE.out g hg).2; omega))
                have OFB := OFA.mono (F' := fun b' => b' < w.heap.size ∨ (bb < b' ∧ b' < ((W3.alloc (.cells #[.int .u64 x.stream, .slice a5 n5 c5] 49)).alloc (.cells #[.slice (some ⟨W3.heap.size, 0, none⟩) 1 1, .slice a1 x.data.length c1] 41)).drew.heap.size)) (fun b' hb' => by rw [hWs]; omega)
                have OPU := OwnElsF.push OFB (fun b' hb' => by rw [hWs] at hb' ⊢; omega) rfl hx8 HO8.out HG8.out HA8.out
                rw [← hst.out] at OPU
                have hs8 := HG8.out.size
                rw [hWs] at hs8
                have keep9 : ∀ b', b' ≠ bb → (w8.setCell ⟨bb, 2, none⟩ (.slice a8 ((upT l m i').length + 1) c8)).heap[b']? = w8.heap[b']? := fun b' hb' => Below.heap_setCell _ _ _ _ hb'
                have hs9 : (w8.setCell ⟨bb, 2, none⟩ (.slice a8 ((upT l m i').length + 1) c8)).heap.size = w8.heap.size := by simp [World.setCell]
                have OP9 := (OPU.mono (F' := fun b' => b' < w.heap.size ∨ (bb < b' ∧ b' < w8.heap.size)) (fun b' hb' => by rw [hWs] at hb'; omega)).keep (w' := w8.setCell ⟨bb, 2, none⟩ (.slice a8 ((upT l m i').length + 1) c8)) (fun b' hb' => keep9 b' (by omega)) (fun g hg => keep9 g (by have := (OPU.1.lt g hg).1; omega))
                rw [← hs9] at OP9
                rw [hn4'] at OP9
                have HOP := hid OP9
                have m4 : w8.cell? ⟨bb, 1, none⟩ = some (.int .u64 (bs + f)) := (World.cell?_of_block (a := ⟨bb, 1, none⟩) (HGG.out bb hz7 neb)).trans ((yb.cell (p := ⟨bb, 1, none⟩) hz5).trans p1)
                have m5 : w8.cell? ⟨bb, 0, none⟩ = some (.int .u64 ep) := (World.cell?_of_block (a := ⟨bb, 0, none⟩) (HGG.out bb hz7 neb)).trans ((yb.cell (p := ⟨bb, 0, none⟩) hz5).trans p0)
                have hB9 : Below bb W1 w8 := (hb2.trans (yb.mono (by omega))).trans ⟨HG8.out.os, HG8.out.tape, HG8.out.output, by omega, fun b' hb' => (HG8.out.block b' (by rw [hWs]; omega) (fun e => by have := (HOE.out b' e.symm).1; omega)).trans (keepA b' (by omega))⟩
                clear hx8 keepA OFA OFB OPU keep9 OP9
                go_wp2_with fail
                go_roundw
                case rel => exact ⟨i' + 1, a8, n4 + 1, c8, _, by go_num, by omega, by omega, by omega, by go_simp, by go_simp, by go_simp, by go_simp, HOP, hB9.setCell (Nat.le_refl _) _⟩
                case measure => simp [intOf]; omega
            · have hex : (⟨ep, bs + ((16 * m : Nat) : Int), upT l m i'⟩ : Batch) = upB ep bs l m := upT_end ep bs l m i' (by rw [← hf.out]; omega) hil (by rw [← hf.out]; omega)
              have hn4 : (upT l m i').length = n4 := by
                obtain ⟨a0', c0', e0⟩ := own_form OE.out.1
                simp at e0; exact e0.2.1.symm
              have hE := OE.out.slice
              rw [hn4] at *
              have hOo : ∀ g, (Value.slice a9 m c9).ownBlock = some g → gg + 1 ≤ g ∧ g < bb := fun g e => by rw [← HBB.out]; exact hO.out.1.lt g e
              have hOEo : ∀ g, (Value.slice a4 n4 c4).ownBlock = some g → bb + 1 ≤ g ∧ g < wr.heap.size := fun g e => OE.out.1.lt g e
              have v1 : wr.cell? ⟨gg, 1, none⟩ = some (.slice a9 m c9) := (hbg.cell (p := ⟨gg, 1, none⟩) hz3).trans r1
              have v0 : wr.cell? ⟨gg, 0, none⟩ = some (.int .u64 ep) := (hbg.cell (p := ⟨gg, 0, none⟩) hz3).trans r0
              have vf : wr.frozen? ⟨gg, 1, none⟩ = false := (hbg.frozen (p := ⟨gg, 1, none⟩) hz3).trans rf
              have hz6' : gg < wr.heap.size := by omega
              have hHO := hid hOo; clear hOo
              have hHE := hid hOEo; clear hOEo
              have HE := hid hE; clear hE
              have HEX := hid hex; clear hex
              have hn4x := hid hn4; clear hn4
              have hOw := hO.out
              have OW := (hOw.keep (w' := wr) (fun b' hb' => hbg.block b' hb'.1) (fun g hg => hbg.block g (hHO.out g hg).2))
              have keepB : ∀ b', b' < wr.heap.size → (wr.alloc (.cells #[.int .u64 ep, .int .u64 (bs + f), .slice a4 n4 c4] 58)).heap[b']? = wr.heap[b']? := fun b' hb' => Below.heap_alloc wr _ b' hb'
              have OB := (OW.keep (w' := (wr.alloc (.cells #[.int .u64 ep, .int .u64 (bs + f), .slice a4 n4 c4] 58))) (fun b' hb' => keepB b' (by have := hb'.1; omega)) (fun g hg => keepB g (by have := (hHO.out g hg).2; omega))).mono (F' := fun b' => b' < (wr.alloc (.cells #[.int .u64 ep, .int .u64 (bs + f), .slice a4 n4 c4] 58)).heap.size ∧ b' ≠ gg ∧ b' ≠ w.heap.size + 1) (fun b' hb' => ⟨by have := hb'.1; simp; omega, hb'.2⟩)
              have hlm : ((List.range m).map (upB ep bs l)).length = m := by simp
              have OBm := OB.1
              rw [hlm] at OBm
              have hf2 := hf.out
              have hxB : rBatch.r (fun b' => (b' < (wr.alloc (.cells #[.int .u64 ep, .int .u64 (bs + f), .slice a4 n4 c4] 58)).heap.size ∧ b' ≠ gg ∧ b' ≠ w.heap.size + 1) ∧ (Value.slice a9 m c9).ownBlock ≠ some b') (wr.alloc (.cells #[.int .u64 ep, .int .u64 (bs + f), .slice a4 n4 c4] 58)) [.int .u64 ep, .int .u64 (bs + f), .slice a4 n4 c4] (upB ep bs l m) := by
                have hex' := HEX.out
                rw [← hf2] at hex'
                rw [← hex']
                refine batch_mk (x := ⟨ep, bs + f, upT l m i'⟩) h0 (show 0 ≤ bs + (f : Int) ∧ bs + (f : Int) ≤ 18446744073709551615 from ⟨by omega, by omega⟩) (rEntries.mono (rEntries.keep HE.out fun b' hb' => keepB b' ?_) fun b' hb' => ⟨⟨?_, ?_⟩, fun e => ?_⟩)
                · rcases hb' with hb' | hb'
                  · omega
                  · exact (hHE.out b' hb').2
                · rcases hb' with hb' | hb'
                  · simp; omega
                  · have := (hHE.out b' hb').2; simp; omega
                · rcases hb' with hb' | hb'
                  · omega
                  · have := (hHE.out b' hb').1; omega
                · have h1 := hHO.out b' e
                  rcases hb' with hb' | hb'
                  · omega
                  · have := (hHE.out b' hb').1; omega
              have HOB := hid OB; have HOBm := hid OBm; have HXB := hid hxB; have HLM := hid hlm
              have hb9 : Below gg W wr := hb.trans (hbg.mono (by omega))
              have HKB := hid keepB
              have HWz : gg + 1 ≤ (wr.alloc (.cells #[.int .u64 ep, .int .u64 (bs + f), .slice a4 n4 c4] 58)).heap.size := by simp; omega
              have HBZ := hid HWz
              clear hOw OW OB OBm hxB hlm hf2 keepB HWz
              have hm17 : m < 16 := by rw [hf.out] at hlt; omega
              by_cases hlt2 : i' < l.length
              all_goals
                go_wp2_with (at_builtin; go_loud (refine wpList_append_src rfl _ _ _ rfl (gg + 1) 58 i0 (.agg #[.int .u64 0, .int .u64 0, .slice none 0 0]) 3 40 Try.underlying28 hi iz0 iz1 iz2 rfl (by decide) (.slice a9 m c9) m _ rfl HOBm.out (some ⟨wr.heap.size, 0, none⟩) 1 1 [.int .u64 ep, .int .u64 (bs + f), .slice a4 n4 c4] rfl (src_new1 wr 58 _ rfl rfl rfl) (by intro u hu; simp at hu; rcases hu with rfl | rfl | rfl <;> rfl) (by simp only [maxLen]; omega) (by omega) HBZ.out ?_; intro v1 w5 hown1 hgrow1 hat1; obtain ⟨a5, c5, hv1⟩ := own_form hown1; subst hv1; have G := fun b' (hb : b' < wr.heap.size) (hne : (Value.slice a9 m c9).ownBlock ≠ some b') => (hgrow1.block b' (by simp; omega) (fun e => hne e.symm)).trans (HKB.out b' hb); have neg : (Value.slice a9 m c9).ownBlock ≠ some gg := fun e => by { have := (hHO.out _ e).1; omega }; have e1 := (World.cell?_of_block (a := ⟨gg, 1, none⟩) (G gg hz6' neg)).trans v1; have e0 := (World.cell?_of_block (a := ⟨gg, 0, none⟩) (G gg hz6' neg)).trans v0; have ef := (World.frozen?_of_block (a := ⟨gg, 1, none⟩) (G gg hz6' neg)).trans vf; have hs5 : gg < w5.heap.size := Nat.lt_of_lt_of_le hz6' (Nat.le_trans (by simp) hgrow1.size); have HG1 := hid hgrow1; have HO1 := hid hown1; have HA1 := hid hat1; have HGG1 := hid G; clear hgrow1 hown1 hat1 G))
                have OPU := OwnElsF.push HOB.out (fun b' hb' => hb'.1) rfl HXB.out (by rw [HLM.out]; exact HO1.out) HG1.out HA1.out
                have hr1 : (List.range m).map (upB ep bs l) ++ [upB ep bs l m] = (List.range (m + 1)).map (upB ep bs l) := by rw [List.range_succ, List.map_append]; rfl
                rw [hr1] at OPU
                have hs9 : (w5.setCell ⟨gg, 1, none⟩ (.slice a5 (m + 1) c5)).heap.size = w5.heap.size := by simp [World.setCell]
                have hs8 := HG1.out.size
                have keep9 : ∀ b', b' ≠ gg → (w5.setCell ⟨gg, 1, none⟩ (.slice a5 (m + 1) c5)).heap[b']? = w5.heap[b']? := fun b' hb' => Below.heap_setCell _ _ _ _ hb'
                have OP9 := (OPU.mono (F' := fun b' => b' < w5.heap.size ∧ b' ≠ gg ∧ b' ≠ w.heap.size + 1) (fun b' hb' => ⟨by omega, hb'.2⟩)).keep (w' := w5.setCell ⟨gg, 1, none⟩ (.slice a5 (m + 1) c5)) (fun b' hb' => keep9 b' hb'.2.1) (fun g hg => keep9 g (by have := (OPU.1.lt g hg).1; omega))
                rw [← hs9] at OP9
                have HOP := hid OP9
                have hB5 : Below gg W w5 := hb9.trans ⟨HG1.out.os, HG1.out.tape, HG1.out.output, by simp at hs8; omega, fun b' hb' => (HGG1.out b' (by omega) (fun e => by have := (hHO.out b' e).1; omega))⟩
                clear OPU keep9 OP9 hr1
                go_roundw
                case rel => exact ⟨m + 1, f + 16, a5, c5, _, by go_num, hid (by rw [hf.out]; omega), by omega, by omega, by go_simp, by go_simp, by go_simp, HOP, hB5.setCell (Nat.le_refl _) _⟩
                case measure => simp [intOf]; omega
        · have hul : (List.range m).map (upB ep bs l) = upL ep bs l := upL_range ep bs l m (by rw [← hf.out]; omega) (by rw [← hf.out]; omega)
          have hv := hO.out.slice
          rw [hul] at hv
          have hlt9 := hO.out.1.lt
          have HV := hid (rBatches.mono hv (S' := fun b' => b' < wo.heap.size ∧ b' ≠ w.heap.size + 1) fun b' hb' => by
            rcases hb' with hb' | hb'
            · exact ⟨hb'.1, hb'.2.2⟩
            · have := hlt9 b' hb'; omega)
          clear hv hlt9 hul
          have P1 := HQ3.out.below hb (by omega)
          have y2 : wo.cell? ⟨w.heap.size + 1, 0, none⟩ = some (.int .u64 0) := P1.cell 0
          have y3 : wo.cell? ⟨w.heap.size + 1, 1, none⟩ = some (.slice none 0 0) := P1.cell 1
          have f0 := P1.free 0
          have f1 := P1.free 1
          clear P1
          have hz5 : w.heap.size + 1 < wo.heap.size := by omega
          go_wp2
          refine bodyPost_ret (v := .tuple #[.agg #[.int .u64 ep, .slice a9 m c9], .int .i64 0]) (by simp [results, Try.results9, go_sem, y2, y3]) rfl ?_
          unfold UpRet
          rw [HF.out]
          refine ⟨_, rfl, ?_, by (repeat (first | exact Below.refl _ _ | assumption | (refine below_alloc ?_ _) | (refine Below.setCell ?_ (by first | omega | (simp; done) | (simp; omega)) _) | (refine Below.drew ?_) | (refine below_drewN ?_ _) | (refine below_then (by assumption) ?_)))⟩
          refine rBatches.mono (rBatches.keep HV.out fun b hb => ?_) fun b hb => by simp; omega
          repeat rw [Below.heap_setCell _ _ _ _ (by dsimp only; omega)]
    · have d1 : decide ((256 : Int) < (l.length : Int)) = true := by simp; omega
      have HF : Hid (up1R ⟨ep, bs, l⟩ = (⟨0, []⟩, 15)) := hid (by rw [HUR.out, hs, if_pos rfl, if_neg h256])
      clear hs
      go_enter Try.func9, Try.ntmps9
      go_wp2_with fail
      refine (HR.out _ (by (repeat (first | exact Below.refl _ _ | assumption | (refine below_alloc ?_ _) | (refine Below.setCell ?_ (by first | omega | (simp; done) | (simp; omega)) _) | (refine Below.drew ?_) | (refine below_drewN ?_ _) | (refine below_then (by assumption) ?_))))).mono ?_
      rintro e' w1 ⟨rfl, hb1⟩
      have hz : w.heap.size + 1 < w1.heap.size := by have := hb1.size; simp at this; omega
      have hz0 : w.heap.size < w1.heap.size := by omega
      have c2 : w1.cell? ⟨w.heap.size, 2, none⟩ = some (.slice a l.length c) := (Later.mk w1 hb1).cell (by go_simp)
      have c0 : w1.cell? ⟨w.heap.size + 1, 0, none⟩ = some (.int .u64 0) := (Later.mk w1 hb1).cell (by go_simp)
      have c1 : w1.cell? ⟨w.heap.size + 1, 1, none⟩ = some (.slice none 0 0) := (Later.mk w1 hb1).cell (by go_simp)
      have f0 : w1.frozen? ⟨w.heap.size + 1, 0, none⟩ = false := (hb1.frozen (p := ⟨w.heap.size + 1, 0, none⟩) (by simp)).trans (by go_simp)
      have f1 : w1.frozen? ⟨w.heap.size + 1, 1, none⟩ = false := (hb1.frozen (p := ⟨w.heap.size + 1, 1, none⟩) (by simp)).trans (by go_simp)
      go_wp2
      refine bodyPost_ret (v := .tuple #[.agg #[.int .u64 0, .slice none 0 0], .int .i64 15]) (by simp [results, Try.results9, go_sem, c0, c1]) rfl ?_
      unfold UpRet
      rw [HF.out]
      exact ⟨_, rfl, nil_batches, by (repeat (first | exact Below.refl _ _ | assumption | (refine below_alloc ?_ _) | (refine Below.setCell ?_ (by first | omega | (simp; done) | (simp; omega)) _) | (refine Below.drew ?_) | (refine below_drewN ?_ _) | (refine below_then (by assumption) ?_)))⟩
end Go.Proofs.Ytlbchenleimopaa
