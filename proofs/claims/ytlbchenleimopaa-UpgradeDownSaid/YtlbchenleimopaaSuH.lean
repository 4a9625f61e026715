/- Segments of the version 2 well-formed, by the reference; what they become. -/
import Derived.Test.YtlbchenleimopaaSuG
import Derived.Test.YtlbchenleimopaaSuC
namespace Go.Proofs.Ytlbchenleimopaa
open Go.RowKit Go.Bs
set_option linter.unusedVariables false
set_option linter.unusedSimpArgs false

theorem all_step {α : Type} (p : α → Bool) (l : List α) (k : Nat) (h : k < l.length) : (l.drop k).all p = (p l[k] && (l.drop (k + 1)).all p) := by
  rw [List.drop_eq_getElem_cons h, List.all_cons]

set_option maxHeartbeats 800000 in
theorem ref35_single (l : List Link) (a : Option Addr) (n c : Nat) (w : World) (hl : rLinks.r (· < w.heap.size) w [.slice a n c] l) :
    Calls Try.prog 63 #[.slice a n c] w fun r w' => r = .returned (.bool (singleL l)) ∧ w = w' := by
  obtain ⟨rfl, hm, _, _⟩ := sl_len hl
  have HL := hid hl; clear hl
  go_enter Try.func63, Try.ntmps63
  go_wp2_with fail
  go_loop [3] (fun i => ∃ k : Nat, k ≤ l.length ∧ i = .int .i64 k ∧ Hid (singleL l = (l.drop k).all fun x => decide (x.backs.length ≤ 1))) (fun i => l.length - (intOf i).toNat)
  case atStart => exact ⟨0, Nat.zero_le _, rfl, hid rfl⟩
  case round =>
    obtain ⟨k, hk, rfl, hf⟩ := hrel
    by_cases hlt : k < l.length
    · obtain ⟨b, o, hA, hbb, a1, c1, X0, X1, _, _⟩ := link_at HL.out hlt
      subst hA
      have hst := hid (all_step (fun x : Link => decide (x.backs.length ≤ 1)) l k hlt)
      generalize l[k] = x at *
      generalize x.stream = xs at *
      generalize x.backs.length = n1 at *
      by_cases h3 : n1 ≤ 1
      · have hff : Hid (singleL l = (l.drop (k + 1)).all fun x => decide (x.backs.length ≤ 1)) := hid (by rw [hf.out, hst.out]; simp [h3])
        have d3 : decide ((1 : Int) < (n1 : Int)) = false := by simp; omega
        clear h3
        go_wp2
        go_round
        case rel => exact ⟨k + 1, by omega, by go_num, hff⟩
        case measure => simp [intOf]; omega
      · have hff : Hid (singleL l = false) := hid (by rw [hf.out, hst.out]; simp [h3])
        have d3 : decide ((1 : Int) < (n1 : Int)) = true := by simp; omega
        clear h3
        go_wp2
        go_ret
        exact ⟨by rw [hff.out]; rfl, rfl⟩
    · obtain rfl : k = l.length := by omega
      have hff : Hid (singleL l = true) := hid (by rw [hf.out, List.drop_length]; rfl)
      go_wp2
      go_ret
      exact ⟨by rw [hff.out]; rfl, rfl⟩

set_option maxRecDepth 100000 in
set_option maxHeartbeats 3200000 in
theorem ref35_right2 (e : Int) (l : List Batch) (a : Option Addr) (n c : Nat) (w : World) (h0 : 0 ≤ e) (hl : rBatches.r (· < w.heap.size) w [.slice a n c] l) (hfair : ∀ x ∈ l, Fair x.entries) :
    Calls Try.prog 38 #[.agg #[.int .u64 e, .slice a n c]] w fun r w' => r = .returned (.bool (seg2R ⟨e, l⟩)) ∧ Below w.heap.size w w' := by
  obtain ⟨rfl, hm, _, _⟩ := sl_len hl
  have HL := hid hl; clear hl
  have HF := hid hfair; clear hfair
  go_enter Try.func38, Try.ntmps38
  go_wp2_with fail
  refine (ref17_right e h0 _).mono ?_
  rintro e' w' ⟨rfl, rfl⟩
  cases he : epR e
  · have hff : Hid (seg2R ⟨e, l⟩ = false) := hid (by simp [seg2R, he])
    clear he
    go_wp2
    go_ret
    exact ⟨by rw [hff.out]; rfl, by (repeat (first | exact Below.refl _ _ | assumption | (refine below_alloc ?_ _) | (refine Below.setCell ?_ (by first | omega | (simp; done) | (simp; omega)) _) | (refine Below.drew ?_) | (refine below_drewN ?_ _) | (refine below_then (by assumption) ?_)))⟩
  · by_cases hn : l.length ≤ 32
    · have d1 : decide ((32 : Int) < (l.length : Int)) = false := by simp; omega
      have hff : Hid (seg2R ⟨e, l⟩ = allI (p2 e l) 0 (l.drop 0)) := hid (by simp [seg2R, he, hn])
      clear he
      go_wp2_with fail
      refine wp_world (fun W => Below w.heap.size w W ∧ w.heap.size < W.heap.size ∧ W.cell? ⟨w.heap.size, 0, none⟩ = some (.int .u64 e) ∧ W.cell? ⟨w.heap.size, 1, none⟩ = some (.slice a l.length c)) ⟨by (repeat (first | exact Below.refl _ _ | assumption | (refine below_alloc ?_ _) | (refine Below.setCell ?_ (by first | omega | (simp; done) | (simp; omega)) _) | (refine Below.drew ?_) | (refine below_drewN ?_ _) | (refine below_then (by assumption) ?_))), by simp, by go_simp, by go_simp⟩ ?_
      intro w1 ⟨hb2, hzb, s0, s1⟩
      go_loopw [3] (fun i wr => ∃ k : Nat, k ≤ l.length ∧ i = .int .i64 k ∧ Hid (seg2R ⟨e, l⟩ = allI (p2 e l) k (l.drop k)) ∧ Hid (∀ i, (h : i < l.length) → i < k → batchR l[i] = true) ∧ Below w1.heap.size w1 wr) (fun i _ => l.length - (intOf i).toNat)
      case atStart => exact ⟨0, Nat.zero_le _, rfl, hff, hid (fun i _ h => absurd h (Nat.not_lt_zero i)), Below.refl _ _⟩
      case round =>
        obtain ⟨k, hk, rfl, hf, hP, hb⟩ := hrel
        have hb3 := below_then hb hb2
        have t0 : wr.cell? ⟨w.heap.size, 0, none⟩ = some (.int .u64 e) := (Later.mk wr hb).cell s0
        have t1 : wr.cell? ⟨w.heap.size, 1, none⟩ = some (.slice a l.length c) := (Later.mk wr hb).cell s1
        have hz3 : w.heap.size < wr.heap.size := by have := hb.size; omega
        by_cases hlt : k < l.length
        · obtain ⟨b, o, hA, hbb, a1, c1, X0, X1, X2, r0, r1, hd⟩ := batch_at (lift HL.out hb3) hlt
          subst hA
          have hst := hid (allI_step (p2 e l) l k hlt)
          have HZ := hid (HF.out _ (List.getElem_mem hlt))
          obtain ⟨_, hm4, _, _⟩ := sl_len hd
          have R := hid hd
          clear hd
          generalize hz : l[k] = z at *
          have HZZ := hid hz; clear hz
          have HPP := hid (show p2 e l k z = (bareB z.entries && (batchR z && mayR e (prevB l k) z)) from rfl)
          go_wp2_with fail
          refine (ref25_right z a1 _ c1 _ r0 r1 (lift R.out (by (repeat (first | exact Below.refl _ _ | assumption | (refine below_alloc ?_ _) | (refine Below.setCell ?_ (by first | omega | (simp; done) | (simp; omega)) _) | (refine Below.drew ?_) | (refine below_drewN ?_ _) | (refine below_then (by assumption) ?_))))) HZ.out).mono ?_
          rintro r w5 ⟨rfl, hb5⟩
          have hb5' : Below wr.heap.size wr w5 := by (repeat (first | exact Below.refl _ _ | assumption | (refine below_alloc ?_ _) | (refine Below.setCell ?_ (by first | omega | (simp; done) | (simp; omega)) _) | (refine Below.drew ?_) | (refine below_drewN ?_ _) | (refine below_then (by assumption) ?_)))
          have hz5 : wr.heap.size < w5.heap.size := by have := hb5.size; simp at this; omega
          have hz5' : w.heap.size < w5.heap.size := by omega
          have x0 : w5.cell? ⟨wr.heap.size, 0, none⟩ = some (.int .u64 z.epoch) := (Later.mk w5 hb5).cell (by go_simp)
          have x1 : w5.cell? ⟨wr.heap.size, 1, none⟩ = some (.int .u64 z.base) := (Later.mk w5 hb5).cell (by go_simp)
          have x2 : w5.cell? ⟨wr.heap.size, 2, none⟩ = some (.slice a1 z.entries.length c1) := (Later.mk w5 hb5).cell (by go_simp)
          have v0 : w5.cell? ⟨w.heap.size, 0, none⟩ = some (.int .u64 e) := (Later.mk w5 hb5').cell t0
          have v1 : w5.cell? ⟨w.heap.size, 1, none⟩ = some (.slice (some ⟨b, o, none⟩) l.length c) := (Later.mk w5 hb5').cell t1
          have hbw5 := below_then hb5' hb3
          cases hr : batchR z
          · have hf3 : Hid (seg2R ⟨e, l⟩ = false) := hid (by rw [hf.out, hst.out, HPP.out, hr]; simp)
            clear hr
            go_wp2
            go_ret
            exact ⟨by rw [hf3.out]; rfl, hbw5⟩
          · have HR := hid hr
            clear hr
            go_wp2_with fail
            refine (ref34_may e l z k (some ⟨b, o, none⟩) a1 l.length c z.entries.length c1 _ (lift HL.out (by (repeat (first | exact Below.refl _ _ | assumption | (refine below_alloc ?_ _) | (refine Below.setCell ?_ (by first | omega | (simp; done) | (simp; omega)) _) | (refine Below.drew ?_) | (refine below_drewN ?_ _) | (refine below_then (by assumption) ?_))))) hk hP.out).mono ?_
            rintro r w6 ⟨rfl, hb6⟩
            have hb6' : Below w5.heap.size w5 w6 := by (repeat (first | exact Below.refl _ _ | assumption | (refine below_alloc ?_ _) | (refine Below.setCell ?_ (by first | omega | (simp; done) | (simp; omega)) _) | (refine Below.drew ?_) | (refine below_drewN ?_ _) | (refine below_then (by assumption) ?_)))
            have hz6 : wr.heap.size < w6.heap.size := by have := hb6'.size; omega
            have y2 : w6.cell? ⟨wr.heap.size, 2, none⟩ = some (.slice a1 z.entries.length c1) := (Later.mk w6 hb6').cell x2
            have hbw6 := below_then hb6' hbw5
            have hb16 : Below w1.heap.size w1 w6 := below_then hb6' (below_then hb5' hb)
            cases hv : mayR e (prevB l k) z
            · have hf3 : Hid (seg2R ⟨e, l⟩ = false) := hid (by rw [hf.out, hst.out, HPP.out, HR.out, hv]; simp)
              clear hv
              go_wp2
              go_ret
              exact ⟨by rw [hf3.out]; rfl, hbw6⟩
            · have HV := hid hv
              clear hv
              have R6 := hid (lift R.out (below_then hb6' hb5'))
              obtain ⟨wo, hwo⟩ : ∃ wo : World, wo = wr := ⟨_, rfl⟩
              subst hwo
              go_wp2_with fail
              go_loop [5] (fun i => ∃ j : Nat, j ≤ z.entries.length ∧ i = .int .i64 j ∧ Hid (bareB z.entries = (z.entries.drop j).all fun x => singleL x.links)) (fun i => z.entries.length - (intOf i).toNat)
              case atStart => exact ⟨0, Nat.zero_le _, rfl, hid rfl⟩
              case round =>
                obtain ⟨j, hj, rfl, hg⟩ := hrel
                by_cases hjl : j < z.entries.length
                · obtain ⟨b', o', hA', hbb', a3, c3, a4, c4, Z0, Z1, hd3, _⟩ := entry_at R6.out hjl
                  subst hA'
                  have hst2 := hid (all_step (fun x : Entry => singleL x.links) z.entries j hjl)
                  have HD3 := hid hd3; clear hd3
                  generalize z.entries[j] = q at *
                  go_wp2_with fail
                  refine (ref35_single q.links _ _ _ _ HD3.out).mono ?_
                  rintro r w7 ⟨rfl, rfl⟩
                  cases hs : singleL q.links
                  · have hf3 : Hid (seg2R ⟨e, l⟩ = false) := hid (by rw [hf.out, hst.out, HPP.out, hg.out, hst2.out, hs]; simp)
                    clear hs
                    go_wp2
                    go_ret
                    exact ⟨by rw [hf3.out]; rfl, hbw6⟩
                  · have hg2 : Hid (bareB z.entries = (z.entries.drop (j + 1)).all fun x => singleL x.links) := hid (by rw [hg.out, hst2.out, hs]; rfl)
                    clear hs
                    go_wp2
                    go_round
                    case rel => exact ⟨j + 1, by omega, by go_num, hg2⟩
                    case measure => simp [intOf]; omega
                · obtain rfl : j = z.entries.length := by omega
                  have hf3 : Hid (seg2R ⟨e, l⟩ = allI (p2 e l) (k + 1) (l.drop (k + 1))) := hid (by rw [hf.out, hst.out, HPP.out, hg.out, List.drop_length, HR.out, HV.out]; rfl)
                  go_wp2
                  go_roundw
                  case rel => exact ⟨k + 1, by omega, by go_num, hf3, hid (right_more hlt HZZ.out HR.out hP.out), hb16⟩
                  case measure => simp [intOf]; omega
        · obtain rfl : k = l.length := by omega
          have hf3 : Hid (seg2R ⟨e, l⟩ = true) := hid (by rw [hf.out, List.drop_length]; rfl)
          go_wp2
          go_ret
          exact ⟨by rw [hf3.out]; rfl, hb3⟩
    · have d1 : decide ((32 : Int) < (l.length : Int)) = true := by simp; omega
      have hff : Hid (seg2R ⟨e, l⟩ = false) := hid (by simp [seg2R, hn])
      clear he
      go_wp2
      go_ret
      exact ⟨by rw [hff.out]; rfl, by (repeat (first | exact Below.refl _ _ | assumption | (refine below_alloc ?_ _) | (refine Below.setCell ?_ (by first | omega | (simp; done) | (simp; omega)) _) | (refine Below.drew ?_) | (refine below_drewN ?_ _) | (refine below_then (by assumption) ?_)))⟩
end Go.Proofs.Ytlbchenleimopaa
