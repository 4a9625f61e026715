/- Segments well-formed, by the program and by the reference (written by gen_stj.py). -/
import Derived.Test.YtkipiefcnjfdjaaGreatStI
namespace Go.Proofs.YtkipiefcnjfdjaaGreat
open Go.RowKit Go.Bs
set_option linter.unusedVariables false
set_option linter.unusedSimpArgs false

theorem wrap64_nat {m : Nat} (h : m ≤ 9223372036854775807) : wrap64 (m : Int) = m := by simp only [wrap64]; omega
theorem prevB_take (l : List Batch) {k : Nat} (h : k ≤ l.length) : prevB (l.take k) (l.take k).length = prevB l k := by
  have : (l.take k).length = k := by simp; omega
  rw [this]
  unfold prevB
  by_cases h0 : k = 0
  · rw [if_pos h0, if_pos h0]
  · rw [if_neg h0, if_neg h0, List.getElem?_take]; rw [if_pos (by omega)]
theorem batchR_fits {x : Batch} (h : batchR x = true) : x.base + x.entries.length ≤ 4611686018427387904 := by
  unfold batchR fitsR at h
  simp at h
  omega
theorem right_take {l : List Batch} {k : Nat} (h : ∀ i, (h : i < l.length) → i < k → batchR l[i] = true) : ∀ p ∈ l.take k, p.base + p.entries.length ≤ 18446744073709551615 := by
  intro p hp
  obtain ⟨i, hi, rfl⟩ := List.getElem_of_mem hp
  have hi' : i < k ∧ i < l.length := by simp at hi; omega
  rw [List.getElem_take]
  have := batchR_fits (h i hi'.2 hi'.1)
  omega
theorem right_more {l : List Batch} {k : Nat} (hk : k < l.length) {z : Batch} (hz : l[k] = z) (hr : batchR z = true) (h : ∀ i, (h : i < l.length) → i < k → batchR l[i] = true) : ∀ i, (h : i < l.length) → i < k + 1 → batchR l[i] = true := by
  intro i hi hik
  by_cases e : i = k
  · subst e; rw [hz]; exact hr
  · exact h i hi (by omega)

set_option maxHeartbeats 1600000 in
theorem ref34_may (e : Int) (l : List Batch) (x : Batch) (k : Nat) (a a' : Option Addr) (n c n' c' : Nat) (w : World) (hl : rBatches.r (· < w.heap.size) w [.slice a n c] l) (hk : k ≤ l.length) (hp : ∀ i, (h : i < l.length) → i < k → batchR l[i] = true) :
    Calls Tryz.prog 42 #[.agg #[.int .u64 e, .slice a n c], .int .i64 k, .agg #[.int .u64 x.epoch, .int .u64 x.base, .slice a' n' c']] w fun r w' => r = .returned (.bool (mayR e (prevB l k) x)) ∧ Below w.heap.size w w' := by
  obtain ⟨rfl, hm, _, _⟩ := sl_len hl
  have HL := hid hl; clear hl
  have HP := hid hp; clear hp
  by_cases h1 : e < x.epoch
  · have hff : Hid (mayR e (prevB l k) x = false) := hid (by simp only [mayR]; rw [decide_eq_false (by omega)]; rfl)
    go_enter Tryz.func42, Tryz.ntmps42
    go_wp2
    go_ret
    exact ⟨by rw [hff.out]; rfl, by (repeat (first | exact Below.refl _ _ | assumption | (refine below_alloc ?_ _) | (refine Below.setCell ?_ (by first | omega | (simp; done) | (simp; omega)) _) | (refine Below.drew ?_) | (refine below_drewN ?_ _) | (refine below_then (by assumption) ?_)))⟩
  · by_cases h2 : k = 0
    · have hff : Hid (mayR e (prevB l k) x = true) := hid (by simp only [mayR]; rw [decide_eq_true (by omega), h2]; rfl)
      have e2 : ((k : Int) == 0) = true := by simp [h2]
      clear h2
      go_enter Tryz.func42, Tryz.ntmps42
      go_wp2
      go_ret
      exact ⟨by rw [hff.out]; rfl, by (repeat (first | exact Below.refl _ _ | assumption | (refine below_alloc ?_ _) | (refine Below.setCell ?_ (by first | omega | (simp; done) | (simp; omega)) _) | (refine Below.drew ?_) | (refine below_drewN ?_ _) | (refine below_then (by assumption) ?_)))⟩
    · obtain ⟨m, rfl⟩ : ∃ m, k = m + 1 := ⟨k - 1, by omega⟩
      have hmb : m ≤ 9223372036854775807 := by omega
      obtain ⟨b, o, hA, hbb, a1, c1, hd0, hd1, hd2, r0, r1, hd⟩ := batch_at HL.out (show m < l.length by omega)
      have hpm : l[m].base + l[m].entries.length ≤ 18446744073709551615 := by have := batchR_fits (HP.out m (by omega) (by omega)); clear r0 r1; omega
      obtain ⟨_, hm2, _, _⟩ := sl_len hd
      have hprev : prevB l (m + 1) = some l[m] := by unfold prevB; rw [if_neg (by omega)]; simp [show m < l.length by omega]
      generalize hz : l[m] = z at *
      clear hz hd
      have hff : Hid (mayR e (prevB l (m + 1)) x = (decide (z.epoch ≤ x.epoch) && decide (z.base + z.entries.length ≤ x.base))) := hid (by simp only [mayR]; rw [decide_eq_true (by omega), hprev]; rfl)
      subst hA
      clear h2 hprev
      rw [show ((m + 1 : Nat) : Int) = (m : Int) + 1 from rfl]
      have e2 : ((m : Int) + 1 == 0) = false := by simp; omega
      have i2 : (0 : Int) ≤ (m : Int) := by omega
      have i3 : (m : Int) < (l.length : Int) := by omega
      by_cases g1 : z.epoch ≤ x.epoch
      · have hf2 : Hid (mayR e (prevB l (m + 1)) x = decide (z.base + z.entries.length ≤ x.base)) := hid (by rw [hff.out, decide_eq_true g1]; rfl)
        go_enter Tryz.func42, Tryz.ntmps42
        go_wp2
        go_ret
        refine ⟨?_, by (repeat (first | exact Below.refl _ _ | assumption | (refine below_alloc ?_ _) | (refine Below.setCell ?_ (by first | omega | (simp; done) | (simp; omega)) _) | (refine Below.drew ?_) | (refine below_drewN ?_ _) | (refine below_then (by assumption) ?_)))⟩
        rw [hf2.out]; rfl
      · have hf2 : Hid (mayR e (prevB l (m + 1)) x = false) := hid (by rw [hff.out, decide_eq_false g1]; rfl)
        go_enter Tryz.func42, Tryz.ntmps42
        go_wp2
        go_ret
        refine ⟨?_, by (repeat (first | exact Below.refl _ _ | assumption | (refine below_alloc ?_ _) | (refine Below.setCell ?_ (by first | omega | (simp; done) | (simp; omega)) _) | (refine Below.drew ?_) | (refine below_drewN ?_ _) | (refine below_then (by assumption) ?_)))⟩
        rw [hf2.out]; rfl
end Go.Proofs.YtkipiefcnjfdjaaGreat
