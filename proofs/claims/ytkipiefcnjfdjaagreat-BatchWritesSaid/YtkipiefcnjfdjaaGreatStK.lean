/- Segments well-formed (written by gen_stj.py). -/
import Derived.Test.YtkipiefcnjfdjaaGreatStJ
namespace Go.Proofs.YtkipiefcnjfdjaaGreat
open Go.RowKit Go.Bs
set_option linter.unusedVariables false
set_option linter.unusedSimpArgs false

set_option maxHeartbeats 3200000 in
theorem segment_right (e : Int) (l : List Batch) (a : Option Addr) (n c : Nat) (w : World) (h0 : 0 ≤ e ∧ e ≤ 18446744073709551615) (hl : rBatches.r (· < w.heap.size) w [.slice a n c] l) (hfair : ∀ x ∈ l, Fair x.entries) :
    Calls Tryz.prog 44 #[.agg #[.int .u64 e, .slice a n c]] w fun r w' => r = .returned (.bool (segR ⟨e, l⟩)) ∧ Below w.heap.size w w' := by
  obtain ⟨rfl, hm, hm2, hm3⟩ := sl_len hl
  have HL := hid hl; clear hl
  have HF := hid hfair; clear hfair
  go_enter Tryz.func44, Tryz.ntmps44
  go_wp2_with fail
  refine (epoch_right e _).mono ?_
  rintro e' w' ⟨rfl, rfl⟩
  cases he : epR e
  · have hff : Hid (segR ⟨e, l⟩ = false) := hid (by simp [segR, he])
    clear he
    go_wp2
    go_ret
    exact ⟨by rw [hff.out]; rfl, by (repeat (first | exact Below.refl _ _ | assumption | (refine below_alloc ?_ _) | (refine Below.setCell ?_ (by first | omega | (simp; done) | (simp; omega)) _) | (refine Below.drew ?_) | (refine below_drewN ?_ _) | (refine below_then (by assumption) ?_)))⟩
  · by_cases hn : l.length ≤ 16
    · have d1 : decide ((16 : Int) < (l.length : Int)) = false := by simp; omega
      have hff : Hid (segR ⟨e, l⟩ = chainR e (prevB l 0) (l.drop 0)) := hid (by simp [segR, he, hn, prevB])
      clear he
      go_wp2_with fail
      refine wp_world (fun W => Below w.heap.size w W ∧ w.heap.size < W.heap.size ∧ W.cell? ⟨w.heap.size, 0, none⟩ = some (.int .u64 e) ∧ W.cell? ⟨w.heap.size, 1, none⟩ = some (.slice a l.length c)) ⟨by (repeat (first | exact Below.refl _ _ | assumption | (refine below_alloc ?_ _) | (refine Below.setCell ?_ (by first | omega | (simp; done) | (simp; omega)) _) | (refine Below.drew ?_) | (refine below_drewN ?_ _) | (refine below_then (by assumption) ?_))), by simp, by go_simp, by go_simp⟩ ?_
      intro w1 ⟨hb2, hzb, s0, s1⟩
      go_loopw [18] (fun i wr => ∃ k : Nat, k ≤ l.length ∧ i = .int .i64 k ∧ Hid (segR ⟨e, l⟩ = chainR e (prevB l k) (l.drop k)) ∧ Hid (∀ i, (h : i < l.length) → i < k → batchR l[i] = true) ∧ Below w1.heap.size w1 wr) (fun i _ => l.length - (intOf i).toNat)
      case atStart => exact ⟨0, Nat.zero_le _, rfl, hff, hid (fun i _ h => absurd h (Nat.not_lt_zero i)), Below.refl _ _⟩
      case round =>
        obtain ⟨k, hk, rfl, hf, hP, hb⟩ := hrel
        have hb3 := below_then hb hb2
        have t0 : wr.cell? ⟨w.heap.size, 0, none⟩ = some (.int .u64 e) := (Later.mk wr hb).cell s0
        have t1 : wr.cell? ⟨w.heap.size, 1, none⟩ = some (.slice a l.length c) := (Later.mk wr hb).cell s1
        have hz3 : w.heap.size < wr.heap.size := by have := hb.size; omega
        by_cases hlt : k < l.length
        · obtain ⟨b, o, hA, hbb, a1, c1, hd0, hd1, hd2, r0, r1, hd⟩ := batch_at HL.out hlt
          subst hA
          have X0 := (hb3.cell (p := ⟨b, o + k * 3, none⟩) hbb).trans hd0
          have X1 := (hb3.cell (p := ⟨b, o + k * 3 + 1, none⟩) hbb).trans hd1
          have X2 := (hb3.cell (p := ⟨b, o + k * 3 + 2, none⟩) hbb).trans hd2
          clear hd0 hd1 hd2
          have RL := hid (sl_take (lift HL.out hb3) hk)
          have hst := hid (chainR_step e l k hlt)
          have HZ := hid (HF.out _ (List.getElem_mem hlt))
          obtain ⟨_, hm4, _, _⟩ := sl_len hd
          have R := hid (lift hd hb3)
          clear hd
          generalize hz : l[k] = z at *
          have HZZ := hid hz; clear hz
          have i1 : (k : Int) < (l.length : Int) := by omega
          have i2 : (k : Int) ≤ (c : Int) := by omega
          go_wp2_with fail
          refine wp_world (fun W => Below wr.heap.size wr W ∧ wr.heap.size < W.heap.size ∧ W.cell? ⟨wr.heap.size, 0, none⟩ = some (.int .u64 z.epoch) ∧ W.cell? ⟨wr.heap.size, 1, none⟩ = some (.int .u64 z.base) ∧ W.cell? ⟨wr.heap.size, 2, none⟩ = some (.slice a1 z.entries.length c1)) ⟨by (repeat (first | exact Below.refl _ _ | assumption | (refine below_alloc ?_ _) | (refine Below.setCell ?_ (by first | omega | (simp; done) | (simp; omega)) _) | (refine Below.drew ?_) | (refine below_drewN ?_ _) | (refine below_then (by assumption) ?_))), by simp, by go_simp, by go_simp, by go_simp⟩ ?_
          intro W ⟨hbW, hzW, d0, d1, d2⟩
          have hb6 := below_then hbW hb3
          have hb7 := below_then hbW hb
          have T0 := fun s : Later W => s.cell ((hbW.cell (p := ⟨w.heap.size, 0, none⟩) hz3).trans t0)
          have T1 := fun s : Later W => s.cell ((hbW.cell (p := ⟨w.heap.size, 1, none⟩) hz3).trans t1)
          have Y0 := fun s : Later W => s.cell d0
          have Y1 := fun s : Later W => s.cell d1
          have Y2 := fun s : Later W => s.cell d2
          have hB := fun s : Later W => batch_right z a1 _ c1 s.at_ r0 r1 (lift R.out (below_then s.below hbW)) HZ.out
          cases hr : batchR z
          · have hf3 : Hid (segR ⟨e, l⟩ = false) := hid (by rw [hf.out, hst.out, hr]; rfl)
            rw [hr] at hB
            have HB := hid hB; clear hB hr
            refine wp_region_later (by kernel_rfl) (by kernel_rfl) ?_
            repeat (go_big_quiet_step (((go_at_call 22; exact later_of (HB.out _)))))
            refine wpQuiet_nil ?_
            rintro W5 ⟨⟨W5', hb5⟩, rfl⟩
            go_wp2
            go_ret
            exact ⟨by rw [hf3.out]; rfl, below_then hb5 hb6⟩
          · have HR := hid hr
            rw [hr] at hB
            have HB := hid hB; clear hB
            have hS := fun s : Later W => seg_follows e (l.take k) z (some ⟨b, o, none⟩) a1 k c z.entries.length c1 s.at_ (lift RL.out (below_then s.below hbW)) (right_take hP.out)
            rw [prevB_take l hk] at hS
            cases hv : mayR e (prevB l k) z
            · have hf3 : Hid (segR ⟨e, l⟩ = false) := hid (by rw [hf.out, hst.out, hr, hv]; rfl)
              rw [hv] at hS
              have HS := hid hS; clear hS hr hv
              refine wp_region_later (by kernel_rfl) (by kernel_rfl) ?_
              repeat (go_big_quiet_step (((first | (go_at_call 22; exact later_of (HB.out _)) | (go_at_call 106; exact later_of (HS.out _))))))
              refine wpQuiet_nil ?_
              rintro W5 ⟨⟨W5', hb5⟩, rfl⟩
              go_wp2
              go_ret
              exact ⟨by rw [hf3.out]; rfl, below_then hb5 hb6⟩
            · have hf3 : Hid (segR ⟨e, l⟩ = chainR e (prevB l (k + 1)) (l.drop (k + 1))) := hid (by rw [hf.out, hst.out, hr, hv]; rfl)
              rw [hv] at hS
              have HS := hid hS; clear hS hr hv
              refine wp_region_later (by kernel_rfl) (by kernel_rfl) ?_
              repeat (go_big_quiet_step (((first | (go_at_call 22; exact later_of (HB.out _)) | (go_at_call 106; exact later_of (HS.out _))))))
              refine wpQuiet_nil ?_
              rintro W5 ⟨⟨W5', hb5⟩, rfl⟩
              go_wp2
              go_roundw
              case rel => exact ⟨k + 1, by omega, by go_num, hf3, hid (right_more hlt HZZ.out HR.out hP.out), below_then hb5 hb7⟩
              case measure => simp [intOf]; omega
        · obtain rfl : k = l.length := by omega
          have hf3 : Hid (segR ⟨e, l⟩ = true) := hid (by rw [hf.out, List.drop_length]; rfl)
          go_wp2
          go_ret
          exact ⟨by rw [hf3.out]; rfl, hb3⟩
    · have d1 : decide ((16 : Int) < (l.length : Int)) = true := by simp; omega
      have hff : Hid (segR ⟨e, l⟩ = false) := hid (by simp [segR, hn])
      go_wp2
      go_ret
      exact ⟨by rw [hff.out]; rfl, by (repeat (first | exact Below.refl _ _ | assumption | (refine below_alloc ?_ _) | (refine Below.setCell ?_ (by first | omega | (simp; done) | (simp; omega)) _) | (refine Below.drew ?_) | (refine below_drewN ?_ _) | (refine below_then (by assumption) ?_)))⟩
end Go.Proofs.YtkipiefcnjfdjaaGreat
