/- Segments of the version 2 well-formed, by the program. -/
import Derived.Test.YtlbchenleimopaaSuF
namespace Go.Proofs.Ytlbchenleimopaa
open Go.RowKit Go.Bs
set_option linter.unusedVariables false
set_option linter.unusedSimpArgs false

theorem prevB_take2 (l : List Batch) (k : Nat) (hk : k ≤ l.length) : prevB (l.take k) (l.take k).length = prevB l k := by
  have h : (l.take k).length = k := by simp; omega
  rw [h]
  unfold prevB
  split
  · rfl
  · rw [List.getElem?_take, if_pos (by omega)]

/-- What a batch has to hold at place k. -/
def p2 (e : Int) (l : List Batch) (k : Nat) (x : Batch) : Bool := bareB x.entries && (batchR x && mayR e (prevB l k) x)

set_option maxHeartbeats 1600000 in
theorem right2_one (e : Int) (l : List Batch) (k : Nat) (x : Batch) (a a' : Option Addr) (c n' c' : Nat) (blk : Nat) (w : World) (hl : rBatches.r (· < w.heap.size) w [.slice a l.length c] l) (hk : k ≤ l.length)
    (h0 : 0 ≤ x.epoch ∧ x.epoch ≤ 18446744073709551615) (h1 : 0 ≤ x.base ∧ x.base ≤ 18446744073709551615) (hx : rEntries.r (· < w.heap.size) w [.slice a' n' c'] x.entries) (hfair : Fair x.entries)
    (hp : ∀ p ∈ l.take k, p.base + p.entries.length ≤ 18446744073709551615) (hc0 : w.cell? ⟨blk, 0, none⟩ = some (.int .u64 e)) (hc1 : w.cell? ⟨blk, 1, none⟩ = some (.slice a l.length c)) :
    Calls Try.prog 58 #[.int .i64 k, .agg #[.int .u64 x.epoch, .int .u64 x.base, .slice a' n' c'], .pointer (some ⟨blk, 0, none⟩)] w fun r w' => r = .returned (.bool (p2 e l k x)) ∧ Below w.heap.size w w' := by
  obtain ⟨rfl, hm, _, _⟩ := sl_len hx
  obtain ⟨_, hm1, hm2, hm3⟩ := sl_len hl
  have HL := hid hl; have HX := hid hx; clear hl hx
  have hpt := prevB_take2 l k hk
  have hlt := World.block_lt_of_cell? w _ hc0
  have HPP := hid (show p2 e l k x = (bareB x.entries && (batchR x && mayR e (prevB l k) x)) from rfl)
  go_enter Try.func58, Try.ntmps58
  go_wp2_with fail
  refine (all_entry x.entries _ _ _ _ (lift HX.out (by (repeat (first | exact Below.refl _ _ | assumption | (refine below_alloc ?_ _) | (refine Below.setCell ?_ (by first | omega | (simp; done) | (simp; omega)) _) | (refine Below.drew ?_) | (refine below_drewN ?_ _) | (refine below_then (by assumption) ?_)))))).mono ?_
  rintro r w1 ⟨rfl, hb1⟩
  have hbw : Below w.heap.size w w1 := by (repeat (first | exact Below.refl _ _ | assumption | (refine below_alloc ?_ _) | (refine Below.setCell ?_ (by first | omega | (simp; done) | (simp; omega)) _) | (refine Below.drew ?_) | (refine below_drewN ?_ _) | (refine below_then (by assumption) ?_)))
  have X0 := fun s : Later w1 => s.cell (v := .int .u64 x.epoch) (b := w.heap.size) (o := 0) ((Later.mk w1 hb1).cell (by go_simp))
  have X1 := fun s : Later w1 => s.cell (v := .int .u64 x.base) (b := w.heap.size) (o := 1) ((Later.mk w1 hb1).cell (by go_simp))
  have X2 := fun s : Later w1 => s.cell (v := .slice a' x.entries.length c') (b := w.heap.size) (o := 2) ((Later.mk w1 hb1).cell (by go_simp))
  have Y0 := fun s : Later w1 => s.cell ((hbw.cell (p := ⟨blk, 0, none⟩) hlt).trans hc0)
  have Y1 := fun s : Later w1 => s.cell ((hbw.cell (p := ⟨blk, 1, none⟩) hlt).trans hc1)
  have hB := fun s : Later w1 => batch_right x a' _ c' s.at_ h0 h1 (lift (lift HX.out hbw) s.below) hfair
  have hF := fun s : Later w1 => legacy_follows e (l.take k) x a a' k c x.entries.length c' s.at_ (sl_take (lift (lift HL.out hbw) s.below) hk) hp
  rw [hpt] at hF
  clear hpt hc0 hc1 hp hfair
  have i0 : (0 : Int) ≤ (k : Int) := by omega
  have i1 : (k : Int) ≤ (c : Int) := by omega
  cases hb : bareB x.entries
  · have hff : Hid (p2 e l k x = false) := hid (by rw [HPP.out, hb]; rfl)
    clear hb hB hF
    go_wp2_with fail
    refine wp_region_later (by kernel_rfl) (by kernel_rfl) ?_
    repeat (go_big_quiet_step (fail))
    refine wpQuiet_nil ?_
    rintro W5 ⟨⟨W5', hb5⟩, rfl⟩
    go_wp2
    go_ret
    exact ⟨by rw [hff.out]; rfl, below_then hb5 hbw⟩
  · cases hr : batchR x
    · have hff : Hid (p2 e l k x = false) := hid (by rw [HPP.out, hb, hr]; rfl)
      rw [hr] at hB
      have HB := hid hB; clear hB hF hb hr
      go_wp2_with fail
      refine wp_region_later (by kernel_rfl) (by kernel_rfl) ?_
      repeat (go_big_quiet_step (((go_at_call 33; exact later_of (HB.out _)))))
      refine wpQuiet_nil ?_
      rintro W5 ⟨⟨W5', hb5⟩, rfl⟩
      go_wp2
      go_ret
      exact ⟨by rw [hff.out]; rfl, below_then hb5 hbw⟩
    · have hff : Hid (p2 e l k x = mayR e (prevB l k) x) := hid (by rw [HPP.out, hb, hr]; rfl)
      rw [hr] at hB
      have HB := hid hB; have HF := hid hF; clear hB hF hb hr
      go_wp2_with fail
      refine wp_region_later (by kernel_rfl) (by kernel_rfl) ?_
      repeat (go_big_quiet_step (((first | (go_at_call 33; exact later_of (HB.out _)) | (go_at_call 62; exact later_of (HF.out _))))))
      refine wpQuiet_nil ?_
      rintro W5 ⟨⟨W5', hb5⟩, rfl⟩
      go_wp2
      go_ret
      exact ⟨by rw [hff.out]; rfl, below_then hb5 hbw⟩

set_option maxHeartbeats 1600000 in
theorem all_batch (e : Int) (l : List Batch) (a : Option Addr) (n c : Nat) (blk : Nat) (w : World) (hl : rBatches.r (· < w.heap.size) w [.slice a n c] l) (hfair : ∀ x ∈ l, Fair x.entries)
    (hc0 : w.cell? ⟨blk, 0, none⟩ = some (.int .u64 e)) (hc1 : w.cell? ⟨blk, 1, none⟩ = some (.slice a n c)) :
    Calls Try.prog 57 #[.slice a n c, .func (.func 58) #[] #[.pointer (some ⟨blk, 0, none⟩)]] w fun r w' => r = .returned (.bool (allI (p2 e l) 0 l)) ∧ Below w.heap.size w w' := by
  obtain ⟨rfl, hm, _, _⟩ := sl_len hl
  have HL := hid hl; clear hl
  have HF := hid hfair; clear hfair
  have HC0 := hid hc0; have HC1 := hid hc1
  clear hc0 hc1
  go_enter Try.func57, Try.ntmps57
  go_wp2
  go_loopw [9] (fun i wr => ∃ k : Nat, k ≤ l.length ∧ i = .int .i64 k ∧ Hid (allI (p2 e l) 0 l = allI (p2 e l) k (l.drop k)) ∧ Hid (∀ p ∈ l.take k, p.base + p.entries.length ≤ 18446744073709551615) ∧ Below w.heap.size w wr) (fun i _ => l.length - (intOf i).toNat)
  case atStart => exact ⟨0, Nat.zero_le _, rfl, hid rfl, hid (fun p hp => by simp at hp), Below.refl _ _⟩
  case round =>
    obtain ⟨k, hk, rfl, hf, hP, hb⟩ := hrel
    by_cases hlt : k < l.length
    · obtain ⟨b, o, hA, hbb, a1, c1, X0, X1, X2, y0, y1, hd⟩ := batch_at (lift HL.out hb) hlt
      subst hA
      have hst := hid (allI_step (p2 e l) l k hlt)
      have hmem := hid (HF.out _ (List.getElem_mem hlt))
      have htk := hid (List.take_succ_eq_append_getElem hlt)
      have HD := hid hd; clear hd
      generalize l[k] = x at *
      go_wp2_with fail
      refine (right2_one e l k x (some ⟨b, o, none⟩) _ c _ _ blk _ (lift HL.out (by (repeat (first | exact Below.refl _ _ | assumption | (refine below_alloc ?_ _) | (refine Below.setCell ?_ (by first | omega | (simp; done) | (simp; omega)) _) | (refine Below.drew ?_) | (refine below_drewN ?_ _) | (refine below_then (by assumption) ?_))))) hk y0 y1 (lift HD.out (by (repeat (first | exact Below.refl _ _ | assumption | (refine below_alloc ?_ _) | (refine Below.setCell ?_ (by first | omega | (simp; done) | (simp; omega)) _) | (refine Below.drew ?_) | (refine below_drewN ?_ _) | (refine below_then (by assumption) ?_))))) hmem.out hP.out ((Later.mk _ (show Below w.heap.size w _ by (repeat (first | exact Below.refl _ _ | assumption | (refine below_alloc ?_ _) | (refine Below.setCell ?_ (by first | omega | (simp; done) | (simp; omega)) _) | (refine Below.drew ?_) | (refine below_drewN ?_ _) | (refine below_then (by assumption) ?_))))).cell HC0.out) ((Later.mk _ (show Below w.heap.size w _ by (repeat (first | exact Below.refl _ _ | assumption | (refine below_alloc ?_ _) | (refine Below.setCell ?_ (by first | omega | (simp; done) | (simp; omega)) _) | (refine Below.drew ?_) | (refine below_drewN ?_ _) | (refine below_then (by assumption) ?_))))).cell HC1.out)).mono ?_
      rintro r w1 ⟨rfl, hb1⟩
      have hb2 : Below w.heap.size w w1 := by (repeat (first | exact Below.refl _ _ | assumption | (refine below_alloc ?_ _) | (refine Below.setCell ?_ (by first | omega | (simp; done) | (simp; omega)) _) | (refine Below.drew ?_) | (refine below_drewN ?_ _) | (refine below_then (by assumption) ?_)))
      cases hr : p2 e l k x
      · have hff : Hid (allI (p2 e l) 0 l = false) := hid (by rw [hf.out, hst.out, hr]; rfl)
        clear hr
        go_wp2
        go_ret
        exact ⟨by rw [hff.out]; rfl, hb2⟩
      · have hff : Hid (allI (p2 e l) 0 l = allI (p2 e l) (k + 1) (l.drop (k + 1))) := hid (by rw [hf.out, hst.out, hr]; rfl)
        have hbr : batchR x = true := by
          simp only [p2, Bool.and_eq_true] at hr
          exact hr.2.1
        have hP2 : Hid (∀ p ∈ l.take (k + 1), p.base + p.entries.length ≤ 18446744073709551615) := hid (by
          rw [htk.out]
          intro p hp
          rcases List.mem_append.1 hp with h | h
          · exact hP.out p h
          · simp at h
            subst h
            have : p.base + p.entries.length ≤ 4611686018427387904 := by
              simp only [batchR, fitsR, Bool.and_eq_true, decide_eq_true_eq] at hbr
              exact hbr.2.1.2.2.2
            omega)
        clear hr hbr
        go_wp2
        go_roundw
        case rel => exact ⟨k + 1, by omega, by go_num, hff, hP2, hb2⟩
        case measure => simp [intOf]; omega
    · obtain rfl : k = l.length := by omega
      have hff : Hid (allI (p2 e l) 0 l = true) := hid (by rw [hf.out, List.drop_length]; rfl)
      go_wp2
      go_ret
      exact ⟨by rw [hff.out]; rfl, hb⟩

def seg2R (g : Seg) : Bool := epR g.epoch && (decide (g.batches.length ≤ 32) && allI (p2 g.epoch g.batches) 0 g.batches)

set_option maxHeartbeats 1600000 in
theorem legacy_right2 (e : Int) (l : List Batch) (a : Option Addr) (n c : Nat) (w : World) (hl : rBatches.r (· < w.heap.size) w [.slice a n c] l) (hfair : ∀ x ∈ l, Fair x.entries) :
    Calls Try.prog 36 #[.agg #[.int .u64 e, .slice a n c]] w fun r w' => r = .returned (.bool (seg2R ⟨e, l⟩)) ∧ Below w.heap.size w w' := by
  obtain ⟨rfl, hm, _, _⟩ := sl_len hl
  have HL := hid hl; clear hl
  have HF := hid hfair; clear hfair
  go_enter Try.func36, Try.ntmps36
  go_wp2_with fail
  refine (epoch_right e _).mono ?_
  rintro e' w' ⟨rfl, rfl⟩
  cases he : epR e
  · have hff : Hid (seg2R ⟨e, l⟩ = false) := hid (by simp [seg2R, he])
    clear he
    go_wp2
    go_ret
    exact ⟨by rw [hff.out]; rfl, by (repeat (first | exact Below.refl _ _ | assumption | (refine below_alloc ?_ _) | (refine Below.setCell ?_ (by first | omega | (simp; done) | (simp; omega)) _) | (refine Below.drew ?_) | (refine below_drewN ?_ _) | (refine below_then (by assumption) ?_)))⟩
  · by_cases hn : l.length ≤ 32
    · have d1 : decide ((32 : Int) < (l.length : Int)) = false := by simp; omega
      have hff : Hid (seg2R ⟨e, l⟩ = allI (p2 e l) 0 l) := hid (by simp [seg2R, he, hn])
      clear he
      go_wp2_with fail
      refine (all_batch e l _ _ _ w.heap.size _ (lift HL.out (by (repeat (first | exact Below.refl _ _ | assumption | (refine below_alloc ?_ _) | (refine Below.setCell ?_ (by first | omega | (simp; done) | (simp; omega)) _) | (refine Below.drew ?_) | (refine below_drewN ?_ _) | (refine below_then (by assumption) ?_))))) HF.out (by go_simp) (by go_simp)).mono ?_
      rintro r w1 ⟨rfl, hb1⟩
      go_wp2
      go_ret
      exact ⟨by rw [hff.out]; rfl, by (repeat (first | exact Below.refl _ _ | assumption | (refine below_alloc ?_ _) | (refine Below.setCell ?_ (by first | omega | (simp; done) | (simp; omega)) _) | (refine Below.drew ?_) | (refine below_drewN ?_ _) | (refine below_then (by assumption) ?_)))⟩
    · have d1 : decide ((32 : Int) < (l.length : Int)) = true := by simp; omega
      have hff : Hid (seg2R ⟨e, l⟩ = false) := hid (by simp [seg2R, hn])
      clear he
      go_wp2
      go_ret
      exact ⟨by rw [hff.out]; rfl, by (repeat (first | exact Below.refl _ _ | assumption | (refine below_alloc ?_ _) | (refine Below.setCell ?_ (by first | omega | (simp; done) | (simp; omega)) _) | (refine Below.drew ?_) | (refine below_drewN ?_ _) | (refine below_then (by assumption) ?_)))⟩
end Go.Proofs.Ytlbchenleimopaa
