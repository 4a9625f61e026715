/- Lists of links, of entries, batches compared; entries well-formed (written by gen_stf.py). -/
import Derived.Test.YtkipiefcnjfdjaaGreatStE
namespace Go.Proofs.YtkipiefcnjfdjaaGreat
open Go.RowKit Go.Bs
set_option linter.unusedVariables false
set_option linter.unusedSimpArgs false

set_option maxHeartbeats 1600000 in
theorem ref23_same (x y : List Link) (a a' : Option Addr) (n c n' c' : Nat) (w : World) (hx : rLinks.r (· < w.heap.size) w [.slice a n c] x) (hy : rLinks.r (· < w.heap.size) w [.slice a' n' c'] y) :
    Calls Tryz.prog 112 #[.slice a n c, .slice a' n' c'] w fun r w' => r = .returned (.bool (decide (x = y))) ∧ Below w.heap.size w w' := by
  obtain ⟨rfl, hm, _, _⟩ := sl_len hx
  obtain ⟨rfl, hm', _, _⟩ := sl_len hy
  by_cases hl : x.length = y.length
  · have HX := hid hx; clear hx
    have HY := hid hy; clear hy
    have HL := hid hl
    have e1 : ((x.length : Int) != (y.length : Int)) = false := by simp [hl]
    clear hl
    go_enter Tryz.func112, Tryz.ntmps112
    go_wp2
    go_loopw [5] (fun i wr => ∃ k : Nat, k ≤ x.length ∧ i = .int .i64 k ∧ Hid (decide (x = y) = decide (x.drop k = y.drop k)) ∧ Below w.heap.size w wr) (fun i _ => x.length - (intOf i).toNat)
    case atStart => exact ⟨0, Nat.zero_le _, rfl, hid rfl, Below.refl _ _⟩
    case round =>
      obtain ⟨k, hk, rfl, hf, hb⟩ := hrel
      by_cases hlt : k < x.length
      · have hlt' : k < y.length := by rw [← HL.out]; exact hlt
        obtain ⟨b, o, hA, hbb, a1, c1, hc0, hc1, _, hr1⟩ := link_at HX.out hlt
        obtain ⟨b', o', hA', hbb', a2, c2, hd0, hd1, _, hr2⟩ := link_at HY.out hlt'
        have hst := hid (drop_eq_step x y k hlt hlt')
        subst hA hA'
        have X0 := fun s : Later wr => s.cell ((hb.cell (p := ⟨b, o + k * 2, none⟩) hbb).trans hc0)
        have X1 := fun s : Later wr => s.cell ((hb.cell (p := ⟨b, o + k * 2 + 1, none⟩) hbb).trans hc1)
        have Y0 := fun s : Later wr => s.cell ((hb.cell (p := ⟨b', o' + k * 2, none⟩) hbb').trans hd0)
        have Y1 := fun s : Later wr => s.cell ((hb.cell (p := ⟨b', o' + k * 2 + 1, none⟩) hbb').trans hd1)
        clear hc0 hc1 hd0 hd1
        generalize hlk : x[k] = u at *
        generalize hlm : y[k] = v at *
        clear hlk hlm
        have hs1 := hid (lift hr1 hb)
        have hs2 := hid (lift hr2 hb)
        clear hr1 hr2
        have hO := fun s : Later wr => ref23_one u v a1 a2 _ c1 _ c2 s.at_ (lift hs1.out s.below) (lift hs2.out s.below)
        have i0 : (0 : Int) ≤ (k : Int) := by omega
        have i1 : (k : Int) < (x.length : Int) := by omega
        have i2 : (k : Int) < (y.length : Int) := by omega
        by_cases huv : u = v
        · rw [decide_eq_true huv] at hO
          have HO := hid hO; clear hO
          have hst' : Hid (decide (x.drop k = y.drop k) = decide (x.drop (k + 1) = y.drop (k + 1))) := hid (by rw [hst.out]; simp [huv])
          clear huv
          go_wp2_with fail
          refine wp_region_later (by kernel_rfl) (by kernel_rfl) ?_
          repeat (go_big_quiet_step (((go_at_call 173; exact later_of (HO.out _)))))
          refine wpQuiet_nil ?_
          rintro W5 ⟨⟨W5', hb5⟩, rfl⟩
          go_wp2
          go_roundw
          case rel => exact ⟨k + 1, by omega, by go_num, hid (by rw [hf.out, hst'.out]), below_then hb5 hb⟩
          case measure => simp [intOf]; omega
        · rw [decide_eq_false huv] at hO
          have HO := hid hO; clear hO
          have hff : Hid (decide (x = y) = false) := hid (by rw [hf.out, hst.out]; simp [huv])
          clear huv
          go_wp2_with fail
          refine wp_region_later (by kernel_rfl) (by kernel_rfl) ?_
          repeat (go_big_quiet_step (((go_at_call 173; exact later_of (HO.out _)))))
          refine wpQuiet_nil ?_
          rintro W5 ⟨⟨W5', hb5⟩, rfl⟩
          go_wp2
          go_ret
          exact ⟨by rw [hff.out]; rfl, below_then hb5 hb⟩
      · obtain rfl : k = x.length := by omega
        have hff : Hid (decide (x = y) = true) := hid (by rw [hf.out, List.drop_length, List.drop_of_length_le (by rw [HL.out]; exact Nat.le_refl _)]; rfl)
        go_wp2
        go_ret
        exact ⟨by rw [hff.out]; rfl, hb⟩
  · have hff : Hid (decide (x = y) = false) := hid (by simp; rintro rfl; exact hl rfl)
    have e1 : ((x.length : Int) != (y.length : Int)) = true := by simp; omega
    clear hl hx hy
    go_enter Tryz.func112, Tryz.ntmps112
    go_wp2
    go_ret
    exact ⟨by rw [hff.out]; rfl, Below.refl _ _⟩

set_option maxHeartbeats 800000 in
theorem ref24_same (x y : Entry) (a1 a2 a3 a4 : Option Addr) (n1 c1 n2 c2 n3 c3 n4 c4 : Nat) (w : World) (hx : rLinks.r (· < w.heap.size) w [.slice a1 n1 c1] x.links) (hx' : rBytes.r (· < w.heap.size) w [.slice a3 n3 c3] x.data)
    (hy : rLinks.r (· < w.heap.size) w [.slice a2 n2 c2] y.links) (hy' : rBytes.r (· < w.heap.size) w [.slice a4 n4 c4] y.data) :
    Calls Tryz.prog 54 #[.agg #[.slice a1 n1 c1, .slice a3 n3 c3], .agg #[.slice a2 n2 c2, .slice a4 n4 c4]] w fun r w' => r = .returned (.bool (decide (x = y))) ∧ Below w.heap.size w w' := by
  have he : decide (x = y) = (decide (x.links = y.links) && decide (x.data = y.data)) := by
    rw [Bool.eq_iff_iff]; cases x; cases y; simp
  have HE := hid he; clear he
  have HX := hid hx; clear hx
  have HY := hid hy; clear hy
  have HX' := hid hx'; clear hx'
  have HY' := hid hy'; clear hy'
  go_enter Tryz.func54, Tryz.ntmps54
  go_wp2_with fail
  refine (ref23_same x.links y.links _ _ _ _ _ _ _ (lift HX.out (by (repeat (first | exact Below.refl _ _ | assumption | (refine below_alloc ?_ _) | (refine Below.setCell ?_ (by first | omega | (simp; done) | (simp; omega)) _) | (refine Below.drew ?_) | (refine below_drewN ?_ _) | (refine below_then (by assumption) ?_))))) (lift HY.out (by (repeat (first | exact Below.refl _ _ | assumption | (refine below_alloc ?_ _) | (refine Below.setCell ?_ (by first | omega | (simp; done) | (simp; omega)) _) | (refine Below.drew ?_) | (refine below_drewN ?_ _) | (refine below_then (by assumption) ?_)))))).mono ?_
  rintro e w1 ⟨rfl, hb1⟩
  have hb2 : Below w.heap.size w w1 := by (repeat (first | exact Below.refl _ _ | assumption | (refine below_alloc ?_ _) | (refine Below.setCell ?_ (by first | omega | (simp; done) | (simp; omega)) _) | (refine Below.drew ?_) | (refine below_drewN ?_ _) | (refine below_then (by assumption) ?_)))
  obtain ⟨hc1, hf1⟩ := bcell hb1
  by_cases h : x.links = y.links
  · have hff : Hid (decide (x = y) = decide (x.data = y.data)) := hid (by rw [HE.out, decide_eq_true h]; rfl)
    rw [decide_eq_true h]
    clear h
    go_wp2_with fail
    refine (same_bytes x.data y.data _ _ _ _ _ _ _ (lift HX'.out hb2) (lift HY'.out hb2)).mono ?_
    rintro e w' ⟨rfl, rfl⟩
    go_wp2
    go_ret
    exact ⟨by rw [hff.out]; rfl, hb2⟩
  · have hff : Hid (decide (x = y) = false) := hid (by rw [HE.out, decide_eq_false h]; rfl)
    rw [decide_eq_false h]
    clear h
    go_wp2
    go_ret
    exact ⟨by rw [hff.out]; rfl, hb2⟩

set_option maxHeartbeats 1600000 in
theorem ref24_all (x y : List Entry) (a a' : Option Addr) (n c n' c' : Nat) (w : World) (hx : rEntries.r (· < w.heap.size) w [.slice a n c] x) (hy : rEntries.r (· < w.heap.size) w [.slice a' n' c'] y) :
    Calls Tryz.prog 87 #[.slice a n c, .slice a' n' c'] w fun r w' => r = .returned (.bool (decide (x = y))) ∧ Below w.heap.size w w' := by
  obtain ⟨rfl, hm, _, _⟩ := sl_len hx
  obtain ⟨rfl, hm', _, _⟩ := sl_len hy
  by_cases hl : x.length = y.length
  · have HX := hid hx; clear hx
    have HY := hid hy; clear hy
    have HL := hid hl
    have e1 : ((x.length : Int) != (y.length : Int)) = false := by simp [hl]
    clear hl
    go_enter Tryz.func87, Tryz.ntmps87
    go_wp2
    go_loopw [5] (fun i wr => ∃ k : Nat, k ≤ x.length ∧ i = .int .i64 k ∧ Hid (decide (x = y) = decide (x.drop k = y.drop k)) ∧ Below w.heap.size w wr) (fun i _ => x.length - (intOf i).toNat)
    case atStart => exact ⟨0, Nat.zero_le _, rfl, hid rfl, Below.refl _ _⟩
    case round =>
      obtain ⟨k, hk, rfl, hf, hb⟩ := hrel
      by_cases hlt : k < x.length
      · have hlt' : k < y.length := by rw [← HL.out]; exact hlt
        obtain ⟨b, o, hA, hbb, a1, c1, a3, c3, hc0, hc1, hr1, hr3⟩ := entry_at HX.out hlt
        obtain ⟨b', o', hA', hbb', a2, c2, a4, c4, hd0, hd1, hr2, hr4⟩ := entry_at HY.out hlt'
        have hst := hid (drop_eq_step x y k hlt hlt')
        subst hA hA'
        have X0 := fun s : Later wr => s.cell ((hb.cell (p := ⟨b, o + k * 2, none⟩) hbb).trans hc0)
        have X1 := fun s : Later wr => s.cell ((hb.cell (p := ⟨b, o + k * 2 + 1, none⟩) hbb).trans hc1)
        have Y0 := fun s : Later wr => s.cell ((hb.cell (p := ⟨b', o' + k * 2, none⟩) hbb').trans hd0)
        have Y1 := fun s : Later wr => s.cell ((hb.cell (p := ⟨b', o' + k * 2 + 1, none⟩) hbb').trans hd1)
        clear hc0 hc1 hd0 hd1
        generalize hlk : x[k] = u at *
        generalize hlm : y[k] = v at *
        clear hlk hlm
        have hs1 := hid (lift hr1 hb)
        have hs2 := hid (lift hr2 hb)
        have hs3 := hid (lift hr3 hb)
        have hs4 := hid (lift hr4 hb)
        clear hr1 hr2 hr3 hr4
        have hO := fun s : Later wr => ref24_same u v a1 a2 a3 a4 _ c1 _ c2 _ c3 _ c4 s.at_ (lift hs1.out s.below) (lift hs3.out s.below) (lift hs2.out s.below) (lift hs4.out s.below)
        have i0 : (0 : Int) ≤ (k : Int) := by omega
        have i1 : (k : Int) < (x.length : Int) := by omega
        have i2 : (k : Int) < (y.length : Int) := by omega
        by_cases huv : u = v
        · rw [decide_eq_true huv] at hO
          have HO := hid hO; clear hO
          have hst' : Hid (decide (x.drop k = y.drop k) = decide (x.drop (k + 1) = y.drop (k + 1))) := hid (by rw [hst.out]; simp [huv])
          clear huv
          go_wp2_with fail
          refine wp_region_later (by kernel_rfl) (by kernel_rfl) ?_
          repeat (go_big_quiet_step (((go_at_call 54; exact later_of (HO.out _)))))
          refine wpQuiet_nil ?_
          rintro W5 ⟨⟨W5', hb5⟩, rfl⟩
          go_wp2
          go_roundw
          case rel => exact ⟨k + 1, by omega, by go_num, hid (by rw [hf.out, hst'.out]), below_then hb5 hb⟩
          case measure => simp [intOf]; omega
        · rw [decide_eq_false huv] at hO
          have HO := hid hO; clear hO
          have hff : Hid (decide (x = y) = false) := hid (by rw [hf.out, hst.out]; simp [huv])
          clear huv
          go_wp2_with fail
          refine wp_region_later (by kernel_rfl) (by kernel_rfl) ?_
          repeat (go_big_quiet_step (((go_at_call 54; exact later_of (HO.out _)))))
          refine wpQuiet_nil ?_
          rintro W5 ⟨⟨W5', hb5⟩, rfl⟩
          go_wp2
          go_ret
          exact ⟨by rw [hff.out]; rfl, below_then hb5 hb⟩
      · obtain rfl : k = x.length := by omega
        have hff : Hid (decide (x = y) = true) := hid (by rw [hf.out, List.drop_length, List.drop_of_length_le (by rw [HL.out]; exact Nat.le_refl _)]; rfl)
        go_wp2
        go_ret
        exact ⟨by rw [hff.out]; rfl, hb⟩
  · have hff : Hid (decide (x = y) = false) := hid (by simp; rintro rfl; exact hl rfl)
    have e1 : ((x.length : Int) != (y.length : Int)) = true := by simp; omega
    clear hl hx hy
    go_enter Tryz.func87, Tryz.ntmps87
    go_wp2
    go_ret
    exact ⟨by rw [hff.out]; rfl, Below.refl _ _⟩

set_option maxHeartbeats 800000 in
theorem entry_right (pos : Int) (x : Entry) (a1 a3 : Option Addr) (n1 c1 n3 c3 : Nat) (w : World) (hpos : 0 ≤ pos ∧ pos ≤ 18446744073709551615) (hbk : ∀ l ∈ x.links, l.backs.length ≤ 1000000000000) (hx : rLinks.r (· < w.heap.size) w [.slice a1 n1 c1] x.links) (hx' : rBytes.r (· < w.heap.size) w [.slice a3 n3 c3] x.data) :
    Calls Tryz.prog 81 #[.int .u64 pos, .agg #[.slice a1 n1 c1, .slice a3 n3 c3]] w fun r w' => r = .returned (.bool (entryR pos x)) ∧ Below w.heap.size w w' := by
  obtain ⟨rfl, hm, _, _⟩ := sl_len hx'
  have HX := hid hx; clear hx hx'
  go_enter Tryz.func81, Tryz.ntmps81
  go_wp2_with fail
  refine (link_right pos x.links _ _ _ _ hpos (lift HX.out (by (repeat (first | exact Below.refl _ _ | assumption | (refine below_alloc ?_ _) | (refine Below.setCell ?_ (by first | omega | (simp; done) | (simp; omega)) _) | (refine Below.drew ?_) | (refine below_drewN ?_ _) | (refine below_then (by assumption) ?_))))) hbk).mono ?_
  rintro e w1 ⟨rfl, hb1⟩
  have hb2 : Below w.heap.size w w1 := by (repeat (first | exact Below.refl _ _ | assumption | (refine below_alloc ?_ _) | (refine Below.setCell ?_ (by first | omega | (simp; done) | (simp; omega)) _) | (refine Below.drew ?_) | (refine below_drewN ?_ _) | (refine below_then (by assumption) ?_)))
  obtain ⟨hc1, hf1⟩ := bcell hb1
  cases h : linksR pos x.links
  · have hff : Hid (entryR pos x = false) := hid (by simp [entryR, h])
    clear h
    go_wp2
    go_ret
    exact ⟨by rw [hff.out]; rfl, hb2⟩
  · have hff : Hid (entryR pos x = decide (x.data.length ≤ 1048576)) := hid (by simp [entryR, h])
    clear h
    go_wp2
    go_ret
    refine ⟨?_, hb2⟩
    rw [hff.out]
    by_cases h : x.data.length ≤ 1048576
    · rw [decide_eq_true h]; simp; omega
    · rw [decide_eq_false h]; simp; omega

set_option maxHeartbeats 800000 in
theorem ref24_right (pos : Int) (x : Entry) (a1 a3 : Option Addr) (n1 c1 n3 c3 : Nat) (w : World) (hx : rLinks.r (· < w.heap.size) w [.slice a1 n1 c1] x.links) (hx' : rBytes.r (· < w.heap.size) w [.slice a3 n3 c3] x.data) :
    Calls Tryz.prog 85 #[.int .u64 pos, .agg #[.slice a1 n1 c1, .slice a3 n3 c3]] w fun r w' => r = .returned (.bool (entryR pos x)) ∧ Below w.heap.size w w' := by
  obtain ⟨rfl, hm, _, _⟩ := sl_len hx'
  have HX := hid hx; clear hx hx'
  go_enter Tryz.func85, Tryz.ntmps85
  go_wp2_with fail
  refine (ref23_right pos x.links _ _ _ _ (lift HX.out (by (repeat (first | exact Below.refl _ _ | assumption | (refine below_alloc ?_ _) | (refine Below.setCell ?_ (by first | omega | (simp; done) | (simp; omega)) _) | (refine Below.drew ?_) | (refine below_drewN ?_ _) | (refine below_then (by assumption) ?_)))))).mono ?_
  rintro e w1 ⟨rfl, hb1⟩
  have hb2 : Below w.heap.size w w1 := by (repeat (first | exact Below.refl _ _ | assumption | (refine below_alloc ?_ _) | (refine Below.setCell ?_ (by first | omega | (simp; done) | (simp; omega)) _) | (refine Below.drew ?_) | (refine below_drewN ?_ _) | (refine below_then (by assumption) ?_)))
  obtain ⟨hc1, hf1⟩ := bcell hb1
  cases h : linksR pos x.links
  · have hff : Hid (entryR pos x = false) := hid (by simp [entryR, h])
    clear h
    go_wp2
    go_ret
    exact ⟨by rw [hff.out]; rfl, hb2⟩
  · have hff : Hid (entryR pos x = decide (x.data.length ≤ 1048576)) := hid (by simp [entryR, h])
    clear h
    go_wp2
    go_ret
    refine ⟨?_, hb2⟩
    rw [hff.out]
    by_cases h : x.data.length ≤ 1048576
    · rw [decide_eq_true h]; simp; omega
    · rw [decide_eq_false h]; simp; omega
end Go.Proofs.YtkipiefcnjfdjaaGreat
