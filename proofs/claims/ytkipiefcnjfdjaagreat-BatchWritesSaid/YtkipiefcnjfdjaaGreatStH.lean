/- Batches well-formed, by the program and by the reference (written by gen_sth.py). -/
import Derived.Test.YtkipiefcnjfdjaaGreatStG
namespace Go.Proofs.YtkipiefcnjfdjaaGreat
open Go.RowKit Go.Bs
set_option linter.unusedVariables false
set_option linter.unusedSimpArgs false

set_option maxHeartbeats 800000 in
theorem batch_fits (base : Int) (n : Nat) (w : World) (h0 : 0 ≤ base ∧ base ≤ 18446744073709551615) (hn : n ≤ 1000000000000) :
    Calls Tryz.prog 79 #[.int .u64 base, .int .i64 n] w fun r w' => r = .returned (.bool (fitsR base n)) ∧ w = w' := by
  by_cases c1 : 1 ≤ n
  · have d1 : decide ((1 : Int) ≤ (n : Int)) = true := by simp; omega
    by_cases c2 : n ≤ 16
    · have d2 : decide ((n : Int) ≤ 16) = true := by simp; omega
      by_cases c3 : base < 4611686018427387904
      · have hp : poR base = true := by simp [poR, c3]
        have hc := epoch_pos base
        rw [hp] at hc
        have HC := hid hc; clear hc hp
        by_cases c4 : base + n ≤ 4611686018427387904
        · have hff : Hid (fitsR base n = true) := hid (by simp [fitsR]; omega)
          have d4 : decide (base + (n : Int) ≤ 4611686018427387904) = true := by simp; omega
          clear c1 c2
          go_enter Tryz.func79, Tryz.ntmps79
          go_wp2_with (go_at_call 132; refine (HC.out _).mono ?_; rintro e w' ⟨rfl, rfl⟩)
          go_ret
          exact ⟨by rw [hff.out]; rfl, rfl⟩
        · have hff : Hid (fitsR base n = false) := hid (by simp [fitsR]; omega)
          have d4 : decide (base + (n : Int) ≤ 4611686018427387904) = false := by simp; omega
          go_enter Tryz.func79, Tryz.ntmps79
          go_wp2_with (go_at_call 132; refine (HC.out _).mono ?_; rintro e w' ⟨rfl, rfl⟩)
          go_ret
          exact ⟨by rw [hff.out]; rfl, rfl⟩
      · have hff : Hid (fitsR base n = false) := hid (by simp [fitsR]; omega)
        have hp : poR base = false := by simp [poR]; omega
        have hc := epoch_pos base
        rw [hp] at hc
        have HC := hid hc; clear hc hp
        go_enter Tryz.func79, Tryz.ntmps79
        go_wp2_with (go_at_call 132; refine (HC.out _).mono ?_; rintro e w' ⟨rfl, rfl⟩)
        go_ret
        exact ⟨by rw [hff.out]; rfl, rfl⟩
    · have hff : Hid (fitsR base n = false) := hid (by simp [fitsR]; omega)
      have d2 : decide ((n : Int) ≤ 16) = false := by simp; omega
      go_enter Tryz.func79, Tryz.ntmps79
      go_wp2
      go_ret
      exact ⟨by rw [hff.out]; rfl, rfl⟩
  · have hff : Hid (fitsR base n = false) := hid (by simp [fitsR]; omega)
    have d1 : decide ((1 : Int) ≤ (n : Int)) = false := by simp; omega
    go_enter Tryz.func79, Tryz.ntmps79
    go_wp2
    go_ret
    exact ⟨by rw [hff.out]; rfl, rfl⟩

set_option maxHeartbeats 800000 in
theorem ref25_fits (base : Int) (n : Nat) (w : World) (h0 : 0 ≤ base ∧ base ≤ 18446744073709551615) (hn : n ≤ 1000000000000) :
    Calls Tryz.prog 83 #[.int .u64 base, .int .i64 n] w fun r w' => r = .returned (.bool (fitsR base n)) ∧ w = w' := by
  by_cases c1 : 1 ≤ n
  · have d1 : decide ((1 : Int) ≤ (n : Int)) = true := by simp; omega
    by_cases c2 : n ≤ 16
    · have d2 : decide ((n : Int) ≤ 16) = true := by simp; omega
      by_cases c3 : base < 4611686018427387904
      · have hp : poR base = true := by simp [poR, c3]
        have hc := ref17_pos base
        rw [hp] at hc
        have HC := hid hc; clear hc hp
        by_cases c4 : base + n ≤ 4611686018427387904
        · have hff : Hid (fitsR base n = true) := hid (by simp [fitsR]; omega)
          have d4 : decide ((n : Int) ≤ 4611686018427387904 - base) = true := by simp; omega
          clear c1 c2
          go_enter Tryz.func83, Tryz.ntmps83
          go_wp2_with (go_at_call 139; refine (HC.out _).mono ?_; rintro e w' ⟨rfl, rfl⟩)
          go_ret
          exact ⟨by rw [hff.out]; rfl, rfl⟩
        · have hff : Hid (fitsR base n = false) := hid (by simp [fitsR]; omega)
          have d4 : decide ((n : Int) ≤ 4611686018427387904 - base) = false := by simp; omega
          go_enter Tryz.func83, Tryz.ntmps83
          go_wp2_with (go_at_call 139; refine (HC.out _).mono ?_; rintro e w' ⟨rfl, rfl⟩)
          go_ret
          exact ⟨by rw [hff.out]; rfl, rfl⟩
      · have hff : Hid (fitsR base n = false) := hid (by simp [fitsR]; omega)
        have hp : poR base = false := by simp [poR]; omega
        have hc := ref17_pos base
        rw [hp] at hc
        have HC := hid hc; clear hc hp
        go_enter Tryz.func83, Tryz.ntmps83
        go_wp2_with (go_at_call 139; refine (HC.out _).mono ?_; rintro e w' ⟨rfl, rfl⟩)
        go_ret
        exact ⟨by rw [hff.out]; rfl, rfl⟩
    · have hff : Hid (fitsR base n = false) := hid (by simp [fitsR]; omega)
      have d2 : decide ((n : Int) ≤ 16) = false := by simp; omega
      go_enter Tryz.func83, Tryz.ntmps83
      go_wp2
      go_ret
      exact ⟨by rw [hff.out]; rfl, rfl⟩
  · have hff : Hid (fitsR base n = false) := hid (by simp [fitsR]; omega)
    have d1 : decide ((1 : Int) ≤ (n : Int)) = false := by simp; omega
    go_enter Tryz.func83, Tryz.ntmps83
    go_wp2
    go_ret
    exact ⟨by rw [hff.out]; rfl, rfl⟩

theorem entriesR_step (base : Int) (l : List Entry) (k : Nat) (h : k < l.length) : entriesR (base + k) (l.drop k) = (entryR (base + k) l[k] && entriesR (base + (k + 1 : Nat)) (l.drop (k + 1))) := by
  rw [List.drop_eq_getElem_cons h]
  show (_ && _) = _
  rw [show base + (k : Int) + 1 = base + ((k + 1 : Nat) : Int) from by omega]

/-- Lists that no length of which is out of all measure. -/
def Fair (l : List Entry) : Prop := total l ≤ 1000000000000 ∧ l.length ≤ 1000000000000 ∧ ∀ e ∈ l, ∀ x ∈ e.links, x.backs.length ≤ 1000000000000

set_option maxHeartbeats 3200000 in
theorem batch_right (x : Batch) (a : Option Addr) (n c : Nat) (w : World) (h0 : 0 ≤ x.epoch ∧ x.epoch ≤ 18446744073709551615) (h1 : 0 ≤ x.base ∧ x.base ≤ 18446744073709551615) (hl : rEntries.r (· < w.heap.size) w [.slice a n c] x.entries) (hfair : Fair x.entries) :
    Calls Tryz.prog 22 #[.agg #[.int .u64 x.epoch, .int .u64 x.base, .slice a n c]] w fun r w' => r = .returned (.bool (batchR x)) ∧ Below w.heap.size w w' := by
  obtain ⟨rfl, hm, _, _⟩ := sl_len hl
  obtain ⟨ft, fl, fb⟩ := hfair
  have FB := hid fb; clear fb
  have HL := hid hl; clear hl
  go_enter Tryz.func22, Tryz.ntmps22
  go_wp2_with fail
  refine (epoch_right x.epoch _).mono ?_
  rintro e w' ⟨rfl, rfl⟩
  cases he : epR x.epoch
  · have hff : Hid (batchR x = false) := hid (by simp [batchR, he])
    clear he
    go_wp2
    go_ret
    exact ⟨by rw [hff.out]; rfl, by (repeat (first | exact Below.refl _ _ | assumption | (refine below_alloc ?_ _) | (refine Below.setCell ?_ (by first | omega | (simp; done) | (simp; omega)) _) | (refine Below.drew ?_) | (refine below_drewN ?_ _) | (refine below_then (by assumption) ?_)))⟩
  · go_wp2_with fail
    refine (batch_fits x.base x.entries.length _ h1 fl).mono ?_
    rintro e w' ⟨rfl, rfl⟩
    cases hf : fitsR x.base x.entries.length
    · have hff : Hid (batchR x = false) := hid (by simp [batchR, hf])
      clear hf he
      go_wp2
      go_ret
      exact ⟨by rw [hff.out]; rfl, by (repeat (first | exact Below.refl _ _ | assumption | (refine below_alloc ?_ _) | (refine Below.setCell ?_ (by first | omega | (simp; done) | (simp; omega)) _) | (refine Below.drew ?_) | (refine below_drewN ?_ _) | (refine below_then (by assumption) ?_)))⟩
    · have hfit : 1 ≤ x.entries.length ∧ x.entries.length ≤ 16 ∧ x.base < 4611686018427387904 ∧ x.base + x.entries.length ≤ 4611686018427387904 := by simpa [fitsR] using hf
      obtain ⟨q1, q2, q3, q4⟩ := hfit
      have hff : Hid (batchR x = (decide (total x.entries ≤ 1048576) && entriesR x.base x.entries)) := hid (by simp [batchR, hf, he])
      clear hf he
      go_wp2_with fail
      refine (entry_total x.entries _ _ _ _ (lift HL.out (by (repeat (first | exact Below.refl _ _ | assumption | (refine below_alloc ?_ _) | (refine Below.setCell ?_ (by first | omega | (simp; done) | (simp; omega)) _) | (refine Below.drew ?_) | (refine below_drewN ?_ _) | (refine below_then (by assumption) ?_))))) ft).mono ?_
      rintro e w1 ⟨rfl, hb1⟩
      have hb2 : Below w.heap.size w w1 := by (repeat (first | exact Below.refl _ _ | assumption | (refine below_alloc ?_ _) | (refine Below.setCell ?_ (by first | omega | (simp; done) | (simp; omega)) _) | (refine Below.drew ?_) | (refine below_drewN ?_ _) | (refine below_then (by assumption) ?_)))
      obtain ⟨hc1, hf1⟩ := bcell hb1
      by_cases ht : total x.entries ≤ 1048576
      · have hf2 : Hid (batchR x = entriesR (x.base + (0 : Nat)) (x.entries.drop 0)) := hid (by rw [hff.out, decide_eq_true ht]; simp)
        have d5 : decide (1048576 < (total x.entries : Int)) = false := by simp; omega
        have s0 : w1.cell? ⟨w.heap.size, 0, none⟩ = some (.int .u64 x.epoch) := (hc1 w.heap.size 0 (by simp)).trans (by go_simp)
        have s1 : w1.cell? ⟨w.heap.size, 1, none⟩ = some (.int .u64 x.base) := (hc1 w.heap.size 1 (by simp)).trans (by go_simp)
        have s2 : w1.cell? ⟨w.heap.size, 2, none⟩ = some (.slice a x.entries.length c) := (hc1 w.heap.size 2 (by simp)).trans (by go_simp)
        clear hc1 hf1
        have hzb : w.heap.size < w1.heap.size := by have := hb1.size; simp at this; omega
        go_wp2_with fail
        go_loopw [27] (fun i wr => ∃ k : Nat, k ≤ x.entries.length ∧ i = .int .i64 k ∧ Hid (batchR x = entriesR (x.base + k) (x.entries.drop k)) ∧ Below w1.heap.size w1 wr) (fun i _ => x.entries.length - (intOf i).toNat)
        case atStart => exact ⟨0, Nat.zero_le _, rfl, hf2, Below.refl _ _⟩
        case round =>
          obtain ⟨k, hk, rfl, hf, hb⟩ := hrel
          have hb3 := below_then hb hb2
          have t0 : wr.cell? ⟨w.heap.size, 0, none⟩ = some (.int .u64 x.epoch) := (Later.mk wr hb).cell s0
          have t1 : wr.cell? ⟨w.heap.size, 1, none⟩ = some (.int .u64 x.base) := (Later.mk wr hb).cell s1
          have t2 : wr.cell? ⟨w.heap.size, 2, none⟩ = some (.slice a x.entries.length c) := (Later.mk wr hb).cell s2
          have hz3 : w.heap.size < wr.heap.size := by have := hb.size; omega
          by_cases hlt : k < x.entries.length
          · obtain ⟨b, o, hA, hbb, a1, c1, a2, c2, hd0, hd1, hr1, hr2⟩ := entry_at HL.out hlt
            subst hA
            have hst := hid (entriesR_step x.base x.entries k hlt)
            have hbk := FB.out _ (List.getElem_mem hlt)
            have X0 := (hb3.cell (p := ⟨b, o + k * 2, none⟩) hbb).trans hd0
            have X1 := (hb3.cell (p := ⟨b, o + k * 2 + 1, none⟩) hbb).trans hd1
            clear hd0 hd1
            have R1 := hid (lift hr1 hb3)
            have R2 := hid (lift hr2 hb3)
            clear hr1 hr2
            generalize hz : x.entries[k] = z at *
            clear hz
            have HBK := hid hbk; clear hbk
            have i1 : (k : Int) < (x.entries.length : Int) := by omega
            have p0 : 0 ≤ x.base + (k : Int) := by omega
            have p1 : x.base + (k : Int) ≤ 18446744073709551615 := by omega
            go_wp2_with fail
            refine (entry_right (x.base + (k : Int)) z _ _ _ _ _ _ _ ⟨p0, p1⟩ HBK.out (lift R1.out (by (repeat (first | exact Below.refl _ _ | assumption | (refine below_alloc ?_ _) | (refine Below.setCell ?_ (by first | omega | (simp; done) | (simp; omega)) _) | (refine Below.drew ?_) | (refine below_drewN ?_ _) | (refine below_then (by assumption) ?_))))) (lift R2.out (by (repeat (first | exact Below.refl _ _ | assumption | (refine below_alloc ?_ _) | (refine Below.setCell ?_ (by first | omega | (simp; done) | (simp; omega)) _) | (refine Below.drew ?_) | (refine below_drewN ?_ _) | (refine below_then (by assumption) ?_)))))).mono ?_
            rintro e w4 ⟨rfl, hb4⟩
            have hb5 : Below w1.heap.size w1 w4 := by (repeat (first | exact Below.refl _ _ | assumption | (refine below_alloc ?_ _) | (refine Below.setCell ?_ (by first | omega | (simp; done) | (simp; omega)) _) | (refine Below.drew ?_) | (refine below_drewN ?_ _) | (refine below_then (by assumption) ?_)))
            cases hr : entryR (x.base + (k : Int)) z
            · have hf3 : Hid (batchR x = false) := hid (by rw [hf.out, hst.out, hr]; rfl)
              clear hr
              go_wp2
              go_ret
              exact ⟨by rw [hf3.out]; rfl, below_then hb5 hb2⟩
            · have hf3 : Hid (batchR x = entriesR (x.base + (k + 1 : Nat)) (x.entries.drop (k + 1))) := hid (by rw [hf.out, hst.out, hr]; rfl)
              clear hr
              go_wp2
              go_roundw
              case rel => exact ⟨k + 1, by omega, by go_num, hf3, hb5⟩
              case measure => simp [intOf]; omega
          · obtain rfl : k = x.entries.length := by omega
            have hf3 : Hid (batchR x = true) := hid (by rw [hf.out, List.drop_length]; rfl)
            go_wp2
            go_ret
            exact ⟨by rw [hf3.out]; rfl, hb3⟩
      · have hf2 : Hid (batchR x = false) := hid (by rw [hff.out, decide_eq_false ht]; rfl)
        have d5 : decide (1048576 < (total x.entries : Int)) = true := by simp; omega
        go_wp2
        go_ret
        exact ⟨by rw [hf2.out]; rfl, hb2⟩

set_option maxHeartbeats 3200000 in
theorem ref25_right (x : Batch) (a : Option Addr) (n c : Nat) (w : World) (h0 : 0 ≤ x.epoch ∧ x.epoch ≤ 18446744073709551615) (h1 : 0 ≤ x.base ∧ x.base ≤ 18446744073709551615) (hl : rEntries.r (· < w.heap.size) w [.slice a n c] x.entries) (hfair : Fair x.entries) :
    Calls Tryz.prog 23 #[.agg #[.int .u64 x.epoch, .int .u64 x.base, .slice a n c]] w fun r w' => r = .returned (.bool (batchR x)) ∧ Below w.heap.size w w' := by
  obtain ⟨rfl, hm, _, _⟩ := sl_len hl
  obtain ⟨ft, fl, fb⟩ := hfair
  have FB := hid fb; clear fb
  have HL := hid hl; clear hl
  go_enter Tryz.func23, Tryz.ntmps23
  go_wp2_with fail
  refine (ref17_right x.epoch h0.1 _).mono ?_
  rintro e w' ⟨rfl, rfl⟩
  cases he : epR x.epoch
  · have hff : Hid (batchR x = false) := hid (by simp [batchR, he])
    clear he
    go_wp2
    go_ret
    exact ⟨by rw [hff.out]; rfl, by (repeat (first | exact Below.refl _ _ | assumption | (refine below_alloc ?_ _) | (refine Below.setCell ?_ (by first | omega | (simp; done) | (simp; omega)) _) | (refine Below.drew ?_) | (refine below_drewN ?_ _) | (refine below_then (by assumption) ?_)))⟩
  · go_wp2_with fail
    refine (ref25_fits x.base x.entries.length _ h1 fl).mono ?_
    rintro e w' ⟨rfl, rfl⟩
    cases hf : fitsR x.base x.entries.length
    · have hff : Hid (batchR x = false) := hid (by simp [batchR, hf])
      clear hf he
      go_wp2
      go_ret
      exact ⟨by rw [hff.out]; rfl, by (repeat (first | exact Below.refl _ _ | assumption | (refine below_alloc ?_ _) | (refine Below.setCell ?_ (by first | omega | (simp; done) | (simp; omega)) _) | (refine Below.drew ?_) | (refine below_drewN ?_ _) | (refine below_then (by assumption) ?_)))⟩
    · have hfit : 1 ≤ x.entries.length ∧ x.entries.length ≤ 16 ∧ x.base < 4611686018427387904 ∧ x.base + x.entries.length ≤ 4611686018427387904 := by simpa [fitsR] using hf
      obtain ⟨q1, q2, q3, q4⟩ := hfit
      have hff : Hid (batchR x = (decide (total x.entries ≤ 1048576) && entriesR x.base x.entries)) := hid (by simp [batchR, hf, he])
      clear hf he
      go_wp2_with fail
      refine (ref24_join x.entries _ _ _ _ (lift HL.out (by (repeat (first | exact Below.refl _ _ | assumption | (refine below_alloc ?_ _) | (refine Below.setCell ?_ (by first | omega | (simp; done) | (simp; omega)) _) | (refine Below.drew ?_) | (refine below_drewN ?_ _) | (refine below_then (by assumption) ?_))))) ft).mono ?_
      rintro e w1 ⟨v, rfl, hvr, hb1⟩
      obtain ⟨av, cv, hv, _, _⟩ := sl_form hvr
      simp only [List.cons.injEq, and_true] at hv
      subst hv
      rw [joined_length]
      clear hvr
      have hb2 : Below w.heap.size w w1 := by (repeat (first | exact Below.refl _ _ | assumption | (refine below_alloc ?_ _) | (refine Below.setCell ?_ (by first | omega | (simp; done) | (simp; omega)) _) | (refine Below.drew ?_) | (refine below_drewN ?_ _) | (refine below_then (by assumption) ?_)))
      obtain ⟨hc1, hf1⟩ := bcell hb1
      by_cases ht : total x.entries ≤ 1048576
      · have hf2 : Hid (batchR x = entriesR (x.base + (0 : Nat)) (x.entries.drop 0)) := hid (by rw [hff.out, decide_eq_true ht]; simp)
        have d5 : decide (1048576 < (total x.entries : Int)) = false := by simp; omega
        have s0 : w1.cell? ⟨w.heap.size, 0, none⟩ = some (.int .u64 x.epoch) := (hc1 w.heap.size 0 (by simp)).trans (by go_simp)
        have s1 : w1.cell? ⟨w.heap.size, 1, none⟩ = some (.int .u64 x.base) := (hc1 w.heap.size 1 (by simp)).trans (by go_simp)
        have s2 : w1.cell? ⟨w.heap.size, 2, none⟩ = some (.slice a x.entries.length c) := (hc1 w.heap.size 2 (by simp)).trans (by go_simp)
        clear hc1 hf1
        have hzb : w.heap.size < w1.heap.size := by have := hb1.size; simp at this; omega
        go_wp2_with fail
        go_loopw [3] (fun i wr => ∃ k : Nat, k ≤ x.entries.length ∧ i = .int .i64 k ∧ Hid (batchR x = entriesR (x.base + k) (x.entries.drop k)) ∧ Below w1.heap.size w1 wr) (fun i _ => x.entries.length - (intOf i).toNat)
        case atStart => exact ⟨0, Nat.zero_le _, rfl, hf2, Below.refl _ _⟩
        case round =>
          obtain ⟨k, hk, rfl, hf, hb⟩ := hrel
          have hb3 := below_then hb hb2
          have t0 : wr.cell? ⟨w.heap.size, 0, none⟩ = some (.int .u64 x.epoch) := (Later.mk wr hb).cell s0
          have t1 : wr.cell? ⟨w.heap.size, 1, none⟩ = some (.int .u64 x.base) := (Later.mk wr hb).cell s1
          have t2 : wr.cell? ⟨w.heap.size, 2, none⟩ = some (.slice a x.entries.length c) := (Later.mk wr hb).cell s2
          have hz3 : w.heap.size < wr.heap.size := by have := hb.size; omega
          by_cases hlt : k < x.entries.length
          · obtain ⟨b, o, hA, hbb, a1, c1, a2, c2, hd0, hd1, hr1, hr2⟩ := entry_at HL.out hlt
            subst hA
            have hst := hid (entriesR_step x.base x.entries k hlt)
            have hbk := FB.out _ (List.getElem_mem hlt)
            have X0 := (hb3.cell (p := ⟨b, o + k * 2, none⟩) hbb).trans hd0
            have X1 := (hb3.cell (p := ⟨b, o + k * 2 + 1, none⟩) hbb).trans hd1
            clear hd0 hd1
            have R1 := hid (lift hr1 hb3)
            have R2 := hid (lift hr2 hb3)
            clear hr1 hr2
            generalize hz : x.entries[k] = z at *
            clear hz
            have HBK := hid hbk; clear hbk
            have i1 : (k : Int) < (x.entries.length : Int) := by omega
            have p0 : 0 ≤ x.base + (k : Int) := by omega
            have p1 : x.base + (k : Int) ≤ 18446744073709551615 := by omega
            have T1 := fun s : Later wr => s.cell t1
            have T2 := fun s : Later wr => s.cell t2
            have Y0 := fun s : Later wr => s.cell X0
            have Y1 := fun s : Later wr => s.cell X1
            have hE := fun s : Later wr => ref24_right (x.base + (k : Int)) z a1 a2 _ c1 _ c2 s.at_ (lift R1.out s.below) (lift R2.out s.below)
            cases hr : entryR (x.base + (k : Int)) z
            · have hf3 : Hid (batchR x = false) := hid (by rw [hf.out, hst.out, hr]; rfl)
              rw [hr] at hE
              have HE := hid hE; clear hE hr
              go_wp2_with fail
              refine wp_region_later (by kernel_rfl) (by kernel_rfl) ?_
              repeat (go_big_quiet_step (((go_at_call 85; exact later_of (HE.out _)))))
              refine wpQuiet_nil ?_
              rintro W5 ⟨⟨W5', hb5⟩, rfl⟩
              go_wp2
              go_ret
              exact ⟨by rw [hf3.out]; rfl, below_then hb5 hb3⟩
            · have hf3 : Hid (batchR x = entriesR (x.base + (k + 1 : Nat)) (x.entries.drop (k + 1))) := hid (by rw [hf.out, hst.out, hr]; rfl)
              rw [hr] at hE
              have HE := hid hE; clear hE hr
              go_wp2_with fail
              refine wp_region_later (by kernel_rfl) (by kernel_rfl) ?_
              repeat (go_big_quiet_step (((go_at_call 85; exact later_of (HE.out _)))))
              refine wpQuiet_nil ?_
              rintro W5 ⟨⟨W5', hb5⟩, rfl⟩
              go_wp2
              go_roundw
              case rel => exact ⟨k + 1, by omega, by go_num, hf3, below_then hb5 hb⟩
              case measure => simp [intOf]; omega
          · obtain rfl : k = x.entries.length := by omega
            have hf3 : Hid (batchR x = true) := hid (by rw [hf.out, List.drop_length]; rfl)
            go_wp2
            go_ret
            exact ⟨by rw [hf3.out]; rfl, hb3⟩
      · have hf2 : Hid (batchR x = false) := hid (by rw [hff.out, decide_eq_false ht]; rfl)
        have d5 : decide (1048576 < (total x.entries : Int)) = true := by simp; omega
        go_wp2
        go_ret
        exact ⟨by rw [hf2.out]; rfl, hb2⟩
end Go.Proofs.YtkipiefcnjfdjaaGreat
