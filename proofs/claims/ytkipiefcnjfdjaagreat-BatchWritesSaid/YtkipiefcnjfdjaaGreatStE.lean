/- The reference's Right of links; links compared (written by gen_ste.py). -/
import Derived.Test.YtkipiefcnjfdjaaGreatStD
namespace Go.Proofs.YtkipiefcnjfdjaaGreat
open Go.RowKit Go.Bs
set_option linter.unusedVariables false
set_option linter.unusedSimpArgs false

set_option maxHeartbeats 3200000 in
theorem ref23_right (pos : Int) (l : List Link) (a : Option Addr) (n c : Nat) (w : World) (hl : rLinks.r (· < w.heap.size) w [.slice a n c] l) :
    Calls Tryz.prog 140 #[.int .u64 pos, .slice a n c] w fun r w' => r = .returned (.bool (linksR pos l)) ∧ Below w.heap.size w w' := by
  obtain ⟨rfl, hm, _, _⟩ := sl_len hl
  have HL := hid hl; clear hl
  by_cases h16 : 16 < l.length
  · have hff : Hid (linksR pos l = false) := hid (by simp [linksR]; omega)
    go_enter Tryz.func140, Tryz.ntmps140
    go_wp2
    go_ret
    exact ⟨by rw [hff.out]; rfl, by (repeat (first | exact Below.refl _ _ | assumption | (refine below_alloc ?_ _) | (refine Below.setCell ?_ (by first | omega | (simp; done) | (simp; omega)) _) | (refine Below.drew ?_) | (refine below_drewN ?_ _) | (refine below_then (by assumption) ?_)))⟩
  · have hff : Hid (linksR pos l = (risesB (l.map Link.stream) && l.all (linkR pos))) := hid (by simp only [linksR]; rw [decide_eq_true (by omega)]; rfl)
    go_enter Tryz.func140, Tryz.ntmps140
    go_wp2_with fail
    go_loopw [5] (fun i wr => ∃ k : Nat, k ≤ l.length ∧ i = .int .i64 k ∧ Hid (linksR pos l = (risesAt (l.map Link.stream) k && (l.drop k).all (linkR pos))) ∧ Below w.heap.size w wr) (fun i _ => l.length - (intOf i).toNat)
    case atStart => exact ⟨0, Nat.zero_le _, rfl, hid (by rw [hff.out]; rfl), Below.refl _ _⟩
    case round =>
      obtain ⟨k, hk, rfl, hf, hb⟩ := hrel
      clear hff
      by_cases hlt : k < l.length
      · obtain ⟨b, o, hA, hbb, a1, c1, hc0, hc1, _, hbs⟩ := link_at HL.out hlt
        have hlt' : (k : Int) < (l.length : Int) := by omega
        have hlR : linkR pos l[k] = (decide (l[k].backs.length ≤ 4) && fallsB pos l[k].backs) := rfl
        have hdr := hid (show (l.drop k).all (linkR pos) = (linkR pos l[k] && (l.drop (k + 1)).all (linkR pos)) by rw [List.drop_eq_getElem_cons hlt]; rfl)
        obtain ⟨z, hz⟩ : ∃ z, l[k] = z := ⟨_, rfl⟩
        rw [hz] at hc0 hc1 hbs hlR hdr
        have HZ := hid hz; clear hz
        have HBS := hid (lift hbs hb)
        have HFA := fun (s : Later wr) => ref22_falls pos z.backs a1 _ c1 s.at_ (lift HBS.out s.below)
        have HF := hid HFA; clear HFA hbs
        rcases k with _ | m
        · have h1 := hid (risesAt_one (l.map Link.stream))
          have X1 := fun s : Later wr => s.cell ((hb.cell (p := ⟨b, o + 0 * 2 + 1, none⟩) hbb).trans hc1)
          subst hA
          simp only [Nat.zero_mul, Nat.add_zero] at X1
          clear hc0 hc1
          by_cases h4 : 4 < z.backs.length
          · have hff : Hid (linksR pos l = false) := hid (by rw [hf.out, hdr.out, hlR, decide_eq_false (by omega)]; simp)
            have d4 : decide (4 < (z.backs.length : Int)) = true := by simp; omega
            clear hlR
            go_wp2_with fail
            refine wp_region_later (by kernel_rfl) (by kernel_rfl) ?_
            repeat (go_big_quiet_step (fail))
            refine wpQuiet_nil ?_
            rintro W5 ⟨⟨W5', hb5⟩, rfl⟩
            go_wp2
            go_ret
            exact ⟨by rw [hff.out]; rfl, below_then hb5 hb⟩
          · have d4 : decide (4 < (z.backs.length : Int)) = false := by simp; omega
            cases hfa : fallsB pos z.backs
            · have hff : Hid (linksR pos l = false) := hid (by rw [hf.out, hdr.out, hlR, hfa]; simp)
              rw [hfa] at HF
              clear hlR hfa
              go_wp2_with fail
              refine wp_region_later (by kernel_rfl) (by kernel_rfl) ?_
              repeat (go_big_quiet_step (((go_at_call 202; exact later_of (HF.out _)))))
              refine wpQuiet_nil ?_
              rintro W5 ⟨⟨W5', hb5⟩, rfl⟩
              go_wp2
              go_ret
              exact ⟨by rw [hff.out]; rfl, below_then hb5 hb⟩
            · have hff : Hid (linksR pos l = (risesAt (l.map Link.stream) (1) && (l.drop (1)).all (linkR pos))) := hid (by rw [hf.out, hdr.out, hlR, hfa, ← h1.out, decide_eq_true (by omega)]; simp)
              rw [hfa] at HF
              clear hlR hfa
              go_wp2_with fail
              refine wp_region_later (by kernel_rfl) (by kernel_rfl) ?_
              repeat (go_big_quiet_step (((go_at_call 202; exact later_of (HF.out _)))))
              refine wpQuiet_nil ?_
              rintro W5 ⟨⟨W5', hb5⟩, rfl⟩
              go_wp2
              go_roundw
              case rel => exact ⟨1, by omega, rfl, hff, below_then hb5 hb⟩
              case measure => simp [intOf]; omega
        · obtain ⟨b', o', hA', hbb', a2, c2, hd0, hd1, _, _⟩ := link_at HL.out (show m < l.length by omega)
          have hst := hid (risesAt_step (l.map Link.stream) m (by simpa using hlt))
          subst hA
          obtain ⟨rfl, rfl⟩ : b' = b ∧ o' = o := by simp at hA'; exact ⟨hA'.1.symm, hA'.2.symm⟩
          clear hA'
          have X0 := fun s : Later wr => s.cell ((hb.cell (p := ⟨b', o' + (m + 1) * 2, none⟩) hbb).trans hc0)
          have X1 := fun s : Later wr => s.cell ((hb.cell (p := ⟨b', o' + (m + 1) * 2 + 1, none⟩) hbb).trans hc1)
          have Y0 := fun s : Later wr => s.cell ((hb.cell (p := ⟨b', o' + m * 2, none⟩) hbb).trans hd0)
          clear hc0 hc1 hd0 hd1
          simp only [List.getElem_map] at hst
          rw [HZ.out] at hst
          generalize hy : l[m].stream = y at *
          clear hy
          generalize hx : z.stream = x at *
          clear hx
          rw [show ((m + 1 : Nat) : Int) = (m : Int) + 1 from by omega]
          have k1 : (0 : Int) < (m : Int) + 1 := by omega
          have k2 : (0 : Int) ≤ (m : Int) + 1 - 1 := by omega
          have k3 : (m : Int) + 1 < (l.length : Int) := by omega
          have k4 : (m : Int) < (l.length : Int) := by omega
          by_cases hge : x ≤ y
          · have d1 : decide (x ≤ y) = true := by simpa using hge
            have hff : Hid (linksR pos l = false) := hid (by rw [hf.out, hst.out, decide_eq_false (by omega)]; rfl)
            clear hge hlR
            go_wp2_with fail
            refine wp_region_later (by kernel_rfl) (by kernel_rfl) ?_
            repeat (go_big_quiet_step (fail))
            refine wpQuiet_nil ?_
            rintro W5 ⟨⟨W5', hb5⟩, rfl⟩
            go_wp2
            go_ret
            exact ⟨by rw [hff.out]; rfl, below_then hb5 hb⟩
          · have d1 : decide (x ≤ y) = false := by simpa using hge
            have hst' : Hid (risesAt (l.map Link.stream) (m + 1) = risesAt (l.map Link.stream) (m + 2)) := hid (by rw [hst.out, decide_eq_true (by omega)]; rfl)
            clear hge
            by_cases h4 : 4 < z.backs.length
            · have hff : Hid (linksR pos l = false) := hid (by rw [hf.out, hdr.out, hlR, decide_eq_false (by omega)]; simp)
              have d4 : decide (4 < (z.backs.length : Int)) = true := by simp; omega
              clear hlR
              go_wp2_with fail
              refine wp_region_later (by kernel_rfl) (by kernel_rfl) ?_
              repeat (go_big_quiet_step (fail))
              refine wpQuiet_nil ?_
              rintro W5 ⟨⟨W5', hb5⟩, rfl⟩
              go_wp2
              go_ret
              exact ⟨by rw [hff.out]; rfl, below_then hb5 hb⟩
            · have d4 : decide (4 < (z.backs.length : Int)) = false := by simp; omega
              cases hfa : fallsB pos z.backs
              · have hff : Hid (linksR pos l = false) := hid (by rw [hf.out, hdr.out, hlR, hfa]; simp)
                rw [hfa] at HF
                clear hlR hfa
                go_wp2_with fail
                refine wp_region_later (by kernel_rfl) (by kernel_rfl) ?_
                repeat (go_big_quiet_step (((go_at_call 202; exact later_of (HF.out _)))))
                refine wpQuiet_nil ?_
                rintro W5 ⟨⟨W5', hb5⟩, rfl⟩
                go_wp2
                go_ret
                exact ⟨by rw [hff.out]; rfl, below_then hb5 hb⟩
              · have hff : Hid (linksR pos l = (risesAt (l.map Link.stream) (m + 2) && (l.drop (m + 2)).all (linkR pos))) := hid (by rw [hf.out, hdr.out, hlR, hfa, hst'.out, decide_eq_true (by omega)]; simp)
                rw [hfa] at HF
                clear hlR hfa
                go_wp2_with fail
                refine wp_region_later (by kernel_rfl) (by kernel_rfl) ?_
                repeat (go_big_quiet_step (((go_at_call 202; exact later_of (HF.out _)))))
                refine wpQuiet_nil ?_
                rintro W5 ⟨⟨W5', hb5⟩, rfl⟩
                go_wp2
                go_roundw
                case rel => exact ⟨m + 2, by omega, by go_num, hff, below_then hb5 hb⟩
                case measure => simp [intOf]; omega
      · obtain rfl : k = l.length := by omega
        have hff : Hid (linksR pos l = true) := hid (by
          have := risesAt_end (l.map Link.stream)
          rw [List.length_map] at this
          rw [hf.out, this, List.drop_length]; rfl)
        go_wp2
        go_ret
        exact ⟨by rw [hff.out]; rfl, hb⟩

set_option maxHeartbeats 800000 in
theorem ref23_one (x y : Link) (a a' : Option Addr) (n c n' c' : Nat) (w : World) (hx : rU64s.r (· < w.heap.size) w [.slice a n c] x.backs) (hy : rU64s.r (· < w.heap.size) w [.slice a' n' c'] y.backs) :
    Calls Tryz.prog 173 #[.agg #[.int .u64 x.stream, .slice a n c], .agg #[.int .u64 y.stream, .slice a' n' c']] w fun r w' => r = .returned (.bool (decide (x = y))) ∧ Below w.heap.size w w' := by
  have he : decide (x = y) = (decide (x.stream = y.stream) && decide (x.backs = y.backs)) := by
    rw [Bool.eq_iff_iff]; cases x; cases y; simp
  have HE := hid he; clear he
  have HX := hid hx; clear hx
  have HY := hid hy; clear hy
  by_cases h : x.stream = y.stream
  · have e1 : (x.stream == y.stream) = true := by simp [h]
    have hff : Hid (decide (x = y) = decide (x.backs = y.backs)) := hid (by rw [HE.out]; simp [h])
    clear h
    go_enter Tryz.func173, Tryz.ntmps173
    go_wp2_with fail
    refine (same_u64s x.backs y.backs _ _ _ _ _ _ _ (lift HX.out (by (repeat (first | exact Below.refl _ _ | assumption | (refine below_alloc ?_ _) | (refine Below.setCell ?_ (by first | omega | (simp; done) | (simp; omega)) _) | (refine Below.drew ?_) | (refine below_drewN ?_ _) | (refine below_then (by assumption) ?_))))) (lift HY.out (by (repeat (first | exact Below.refl _ _ | assumption | (refine below_alloc ?_ _) | (refine Below.setCell ?_ (by first | omega | (simp; done) | (simp; omega)) _) | (refine Below.drew ?_) | (refine below_drewN ?_ _) | (refine below_then (by assumption) ?_)))))).mono ?_
    rintro e w1 ⟨rfl, hb1⟩
    go_wp2
    go_ret
    exact ⟨by rw [hff.out]; rfl, by (repeat (first | exact Below.refl _ _ | assumption | (refine below_alloc ?_ _) | (refine Below.setCell ?_ (by first | omega | (simp; done) | (simp; omega)) _) | (refine Below.drew ?_) | (refine below_drewN ?_ _) | (refine below_then (by assumption) ?_)))⟩
  · have e1 : (x.stream == y.stream) = false := by simp [h]
    have hff : Hid (decide (x = y) = false) := hid (by rw [HE.out]; simp [h])
    clear h
    go_enter Tryz.func173, Tryz.ntmps173
    go_wp2
    go_ret
    exact ⟨by rw [hff.out]; rfl, by (repeat (first | exact Below.refl _ _ | assumption | (refine below_alloc ?_ _) | (refine Below.setCell ?_ (by first | omega | (simp; done) | (simp; omega)) _) | (refine Below.drew ?_) | (refine below_drewN ?_ _) | (refine below_then (by assumption) ?_)))⟩
end Go.Proofs.YtkipiefcnjfdjaaGreat
