/- Batches and segments the same, by the reference. -/
import Derived.Test.YtkipiefcnjfdjaaGreatStL
namespace Go.Proofs.YtkipiefcnjfdjaaGreat
open Go.RowKit Go.Bs
set_option linter.unusedVariables false
set_option linter.unusedSimpArgs false

set_option maxHeartbeats 1600000 in
theorem ref25_same (x y : Batch) (a a' : Option Addr) (n c n' c' : Nat) (w : World) (hx : rEntries.r (· < w.heap.size) w [.slice a n c] x.entries) (hy : rEntries.r (· < w.heap.size) w [.slice a' n' c'] y.entries) :
    Calls Tryz.prog 26 #[.agg #[.int .u64 x.epoch, .int .u64 x.base, .slice a n c], .agg #[.int .u64 y.epoch, .int .u64 y.base, .slice a' n' c']] w fun r w' => r = .returned (.bool (decide (x = y))) ∧ Below w.heap.size w w' := by
  obtain ⟨xe, xb, xl⟩ := x
  obtain ⟨ye, yb, yl⟩ := y
  dsimp only at *
  have HX := hid hx; clear hx
  have HY := hid hy; clear hy
  by_cases h1 : xe = ye
  · by_cases h2 : xb = yb
    · have hff : Hid (decide ((⟨xe, xb, xl⟩ : Batch) = ⟨ye, yb, yl⟩) = decide (xl = yl)) := hid (by simp [h1, h2])
      have d1 : (xe == ye) = true := by simp [h1]
      have d2 : (xb == yb) = true := by simp [h2]
      clear h1 h2
      go_enter Tryz.func26, Tryz.ntmps26
      go_wp2_with fail
      refine (ref24_all xl yl _ _ _ _ _ _ _ (lift HX.out (by (repeat (first | exact Below.refl _ _ | assumption | (refine below_alloc ?_ _) | (refine Below.setCell ?_ (by first | omega | (simp; done) | (simp; omega)) _) | (refine Below.drew ?_) | (refine below_drewN ?_ _) | (refine below_then (by assumption) ?_))))) (lift HY.out (by (repeat (first | exact Below.refl _ _ | assumption | (refine below_alloc ?_ _) | (refine Below.setCell ?_ (by first | omega | (simp; done) | (simp; omega)) _) | (refine Below.drew ?_) | (refine below_drewN ?_ _) | (refine below_then (by assumption) ?_)))))).mono ?_
      rintro e w1 ⟨rfl, hb1⟩
      have hb2 : Below w.heap.size w w1 := by (repeat (first | exact Below.refl _ _ | assumption | (refine below_alloc ?_ _) | (refine Below.setCell ?_ (by first | omega | (simp; done) | (simp; omega)) _) | (refine Below.drew ?_) | (refine below_drewN ?_ _) | (refine below_then (by assumption) ?_)))
      go_wp2
      go_ret
      exact ⟨by rw [hff.out]; rfl, hb2⟩
    · have hff : Hid (decide ((⟨xe, xb, xl⟩ : Batch) = ⟨ye, yb, yl⟩) = false) := hid (by simp [h1, h2])
      have d1 : (xe == ye) = true := by simp [h1]
      have d2 : (xb == yb) = false := by simp [h2]
      clear h1 h2
      go_enter Tryz.func26, Tryz.ntmps26
      go_wp2
      go_ret
      exact ⟨by rw [hff.out]; rfl, by (repeat (first | exact Below.refl _ _ | assumption | (refine below_alloc ?_ _) | (refine Below.setCell ?_ (by first | omega | (simp; done) | (simp; omega)) _) | (refine Below.drew ?_) | (refine below_drewN ?_ _) | (refine below_then (by assumption) ?_)))⟩
  · have hff : Hid (decide ((⟨xe, xb, xl⟩ : Batch) = ⟨ye, yb, yl⟩) = false) := hid (by simp [h1])
    have d1 : (xe == ye) = false := by simp [h1]
    clear h1
    go_enter Tryz.func26, Tryz.ntmps26
    go_wp2
    go_ret
    exact ⟨by rw [hff.out]; rfl, by (repeat (first | exact Below.refl _ _ | assumption | (refine below_alloc ?_ _) | (refine Below.setCell ?_ (by first | omega | (simp; done) | (simp; omega)) _) | (refine Below.drew ?_) | (refine below_drewN ?_ _) | (refine below_then (by assumption) ?_)))⟩

set_option maxHeartbeats 1600000 in
theorem ref34_same (ex ey : Int) (x y : List Batch) (a a' : Option Addr) (n c n' c' : Nat) (w : World) (hx : rBatches.r (· < w.heap.size) w [.slice a n c] x) (hy : rBatches.r (· < w.heap.size) w [.slice a' n' c'] y) :
    Calls Tryz.prog 43 #[.agg #[.int .u64 ex, .slice a n c], .agg #[.int .u64 ey, .slice a' n' c']] w fun r w' => r = .returned (.bool (decide ((⟨ex, x⟩ : Seg) = ⟨ey, y⟩))) ∧ Below w.heap.size w w' := by
  obtain ⟨rfl, hm, _, _⟩ := sl_len hx
  obtain ⟨rfl, hm', _, _⟩ := sl_len hy
  by_cases he : ex = ey
  · have d0 : (ex != ey) = false := by simp [he]
    by_cases hl : x.length = y.length
    · have HX := hid hx; clear hx
      have HY := hid hy; clear hy
      have HL := hid hl
      have e1 : ((x.length : Int) != (y.length : Int)) = false := by simp [hl]
      have h0 : Hid (decide ((⟨ex, x⟩ : Seg) = ⟨ey, y⟩) = decide (x.drop 0 = y.drop 0)) := hid (by simp [he])
      clear hl he
      go_enter Tryz.func43, Tryz.ntmps43
      go_wp2_with fail
      refine wp_world (fun W => Below w.heap.size w W ∧ w.heap.size + 1 < W.heap.size ∧ W.cell? ⟨w.heap.size, 1, none⟩ = some (.slice a x.length c) ∧ W.cell? ⟨w.heap.size + 1, 1, none⟩ = some (.slice a' y.length c')) ⟨by (repeat (first | exact Below.refl _ _ | assumption | (refine below_alloc ?_ _) | (refine Below.setCell ?_ (by first | omega | (simp; done) | (simp; omega)) _) | (refine Below.drew ?_) | (refine below_drewN ?_ _) | (refine below_then (by assumption) ?_))), by simp, by go_simp, by go_simp⟩ ?_
      intro w1 ⟨hb2, hzb, s0, s1⟩
      go_loopw [5] (fun i wr => ∃ k : Nat, k ≤ x.length ∧ i = .int .i64 k ∧ Hid (decide ((⟨ex, x⟩ : Seg) = ⟨ey, y⟩) = decide (x.drop k = y.drop k)) ∧ Below w1.heap.size w1 wr) (fun i _ => x.length - (intOf i).toNat)
      case atStart => exact ⟨0, Nat.zero_le _, rfl, h0, Below.refl _ _⟩
      case round =>
        obtain ⟨k, hk, rfl, hf, hb7⟩ := hrel
        have hb := below_then hb7 hb2
        have t0 : wr.cell? ⟨w.heap.size, 1, none⟩ = some (.slice a x.length c) := (Later.mk wr hb7).cell s0
        have t1 : wr.cell? ⟨w.heap.size + 1, 1, none⟩ = some (.slice a' y.length c') := (Later.mk wr hb7).cell s1
        have hz3 : w.heap.size + 1 < wr.heap.size := by have := hb7.size; omega
        by_cases hlt : k < x.length
        · have hlt' : k < y.length := by rw [← HL.out]; exact hlt
          obtain ⟨b, o, hA, hbb, a1, c1, hc0, hc1, hc2, _, _, hr1⟩ := batch_at HX.out hlt
          obtain ⟨b', o', hA', hbb', a2, c2, hd0, hd1, hd2, _, _, hr2⟩ := batch_at HY.out hlt'
          have hst := hid (drop_eq_step x y k hlt hlt')
          subst hA hA'
          have T0 := fun s : Later wr => s.cell t0
          have T1 := fun s : Later wr => s.cell t1
          have X0 := fun s : Later wr => s.cell ((hb.cell (p := ⟨b, o + k * 3, none⟩) hbb).trans hc0)
          have X1 := fun s : Later wr => s.cell ((hb.cell (p := ⟨b, o + k * 3 + 1, none⟩) hbb).trans hc1)
          have X2 := fun s : Later wr => s.cell ((hb.cell (p := ⟨b, o + k * 3 + 2, none⟩) hbb).trans hc2)
          have Y0 := fun s : Later wr => s.cell ((hb.cell (p := ⟨b', o' + k * 3, none⟩) hbb').trans hd0)
          have Y1 := fun s : Later wr => s.cell ((hb.cell (p := ⟨b', o' + k * 3 + 1, none⟩) hbb').trans hd1)
          have Y2 := fun s : Later wr => s.cell ((hb.cell (p := ⟨b', o' + k * 3 + 2, none⟩) hbb').trans hd2)
          clear hc0 hc1 hc2 hd0 hd1 hd2
          generalize hlk : x[k] = u at *
          generalize hlm : y[k] = v at *
          clear hlk hlm
          have hs1 := hid (lift hr1 hb)
          have hs2 := hid (lift hr2 hb)
          clear hr1 hr2
          have hO := fun s : Later wr => ref25_same u v a1 a2 _ c1 _ c2 s.at_ (lift hs1.out s.below) (lift hs2.out s.below)
          have i0 : (0 : Int) ≤ (k : Int) := by omega
          have i1 : (k : Int) < (x.length : Int) := by omega
          have i2 : (k : Int) < (y.length : Int) := by omega
          by_cases huv : u = v
          · rw [decide_eq_true huv] at hO
            have HO := hid hO; clear hO
            have hst' : Hid (decide (x.drop k = y.drop k) = decide (x.drop (k + 1) = y.drop (k + 1))) := hid (by rw [hst.out]; simp [huv])
            clear huv
            go_wp2_with fail
            refine wp_region_later (by kernel_rfl) (by kernel_rfl) ?_
            repeat (go_big_quiet_step (((go_at_call 26; exact later_of (HO.out _)))))
            refine wpQuiet_nil ?_
            rintro W5 ⟨⟨W5', hb5⟩, rfl⟩
            go_wp2
            go_roundw
            case rel => exact ⟨k + 1, by omega, by go_num, hid (by rw [hf.out, hst'.out]), below_then hb5 hb7⟩
            case measure => simp [intOf]; omega
          · rw [decide_eq_false huv] at hO
            have HO := hid hO; clear hO
            have hff : Hid (decide ((⟨ex, x⟩ : Seg) = ⟨ey, y⟩) = false) := hid (by rw [hf.out, hst.out]; simp [huv])
            clear huv
            go_wp2_with fail
            refine wp_region_later (by kernel_rfl) (by kernel_rfl) ?_
            repeat (go_big_quiet_step (((go_at_call 26; exact later_of (HO.out _)))))
            refine wpQuiet_nil ?_
            rintro W5 ⟨⟨W5', hb5⟩, rfl⟩
            go_wp2
            go_ret
            exact ⟨by rw [hff.out]; rfl, below_then hb5 hb⟩
        · obtain rfl : k = x.length := by omega
          have hff : Hid (decide ((⟨ex, x⟩ : Seg) = ⟨ey, y⟩) = true) := hid (by rw [hf.out, List.drop_length, List.drop_of_length_le (by rw [HL.out]; exact Nat.le_refl _)]; rfl)
          go_wp2
          go_ret
          exact ⟨by rw [hff.out]; rfl, hb⟩
    · have hff : Hid (decide ((⟨ex, x⟩ : Seg) = ⟨ey, y⟩) = false) := hid (by simp; rintro _ rfl; exact hl rfl)
      have e1 : ((x.length : Int) != (y.length : Int)) = true := by simp; omega
      clear hl hx hy he
      go_enter Tryz.func43, Tryz.ntmps43
      go_wp2
      go_ret
      exact ⟨by rw [hff.out]; rfl, by (repeat (first | exact Below.refl _ _ | assumption | (refine below_alloc ?_ _) | (refine Below.setCell ?_ (by first | omega | (simp; done) | (simp; omega)) _) | (refine Below.drew ?_) | (refine below_drewN ?_ _) | (refine below_then (by assumption) ?_)))⟩
  · have hff : Hid (decide ((⟨ex, x⟩ : Seg) = ⟨ey, y⟩) = false) := hid (by simp [he])
    have d0 : (ex != ey) = true := by simp [he]
    clear he hx hy
    go_enter Tryz.func43, Tryz.ntmps43
    go_wp2
    go_ret
    exact ⟨by rw [hff.out]; rfl, by (repeat (first | exact Below.refl _ _ | assumption | (refine below_alloc ?_ _) | (refine Below.setCell ?_ (by first | omega | (simp; done) | (simp; omega)) _) | (refine Below.drew ?_) | (refine below_drewN ?_ _) | (refine below_then (by assumption) ?_)))⟩
end Go.Proofs.YtkipiefcnjfdjaaGreat
