/- Segments: which batch may follow which. -/
import Derived.Test.YtkipiefcnjfdjaaGreatStH
namespace Go.Proofs.YtkipiefcnjfdjaaGreat
open Go.RowKit Go.Bs
set_option linter.unusedVariables false
set_option linter.unusedSimpArgs false

/-- May a batch stand behind another one, if there is one, in a segment of an epoch? -/
def mayR (e : Int) (prev : Option Batch) (b : Batch) : Bool := decide (b.epoch ≤ e) && (match prev with | none => true | some p => decide (p.epoch ≤ b.epoch) && decide (p.base + p.entries.length ≤ b.base))
def chainR (e : Int) : Option Batch → List Batch → Bool
  | _, [] => true
  | p, b :: l => batchR b && (mayR e p b && chainR e (some b) l)
def segR (g : Seg) : Bool := epR g.epoch && (decide (g.batches.length ≤ 16) && chainR g.epoch none g.batches)
/-- The batch ahead of place k. -/
def prevB (l : List Batch) (k : Nat) : Option Batch := if k = 0 then none else l[k - 1]?
theorem chainR_step (e : Int) (l : List Batch) (k : Nat) (h : k < l.length) : chainR e (prevB l k) (l.drop k) = (batchR l[k] && (mayR e (prevB l k) l[k] && chainR e (prevB l (k + 1)) (l.drop (k + 1)))) := by
  rw [List.drop_eq_getElem_cons h]
  have : prevB l (k + 1) = some l[k] := by unfold prevB; rw [if_neg (by omega)]; simp [h]
  rw [this]; rfl

theorem sl_take {α : Type} {sz : Nat} {A : Rp α} {S : Nat → Prop} {w : World} {xs : List α} {a : Option Addr} {n c k : Nat} (h : (rSl sz A).r S w [.slice a n c] xs) (hk : k ≤ xs.length) : (rSl sz A).r S w [.slice a k c] (xs.take k) := by
  obtain ⟨a', c', e, h1, h2, h3⟩ := h
  simp at e
  obtain ⟨rfl, rfl, rfl⟩ := e
  have hl : (xs.take k).length = k := by simp; omega
  refine rSl_mk (by rw [hl]) (by omega) h2 ?_
  rcases h3 with rfl | ⟨b, off, rfl, hS, hr⟩
  · exact .inl (by simp)
  · refine .inr ⟨b, off, rfl, hS, fun i x hi => hr i x ?_⟩
    rw [List.getElem?_take] at hi
    split at hi
    · exact hi
    · cases hi

set_option maxHeartbeats 400000 in
theorem batch_end (e b : Int) (a : Option Addr) (n c : Nat) (w : World) (h0 : 0 ≤ b) (h : b + n ≤ 18446744073709551615) (hn : n ≤ 9223372036854775807) :
    Calls Tryz.prog 24 #[.agg #[.int .u64 e, .int .u64 b, .slice a n c]] w fun r w' => r = .returned (.int .u64 (b + n)) ∧ Below w.heap.size w w' := by
  go_enter Tryz.func24, Tryz.ntmps24
  go_wp2
  go_ret
  exact ⟨rfl, by (repeat (first | exact Below.refl _ _ | assumption | (refine below_alloc ?_ _) | (refine Below.setCell ?_ (by first | omega | (simp; done) | (simp; omega)) _) | (refine Below.drew ?_) | (refine below_drewN ?_ _) | (refine below_then (by assumption) ?_)))⟩

set_option maxHeartbeats 1600000 in
theorem seg_follows (e : Int) (l : List Batch) (x : Batch) (a a' : Option Addr) (n c n' c' : Nat) (w : World) (hl : rBatches.r (· < w.heap.size) w [.slice a n c] l) (hp : ∀ p ∈ l, p.base + p.entries.length ≤ 18446744073709551615) :
    Calls Tryz.prog 106 #[.agg #[.int .u64 e, .slice a n c], .agg #[.int .u64 x.epoch, .int .u64 x.base, .slice a' n' c']] w fun r w' => r = .returned (.bool (mayR e (prevB l l.length) x)) ∧ Below w.heap.size w w' := by
  obtain ⟨rfl, hm, _, _⟩ := sl_len hl
  have HL := hid hl; clear hl
  have HP := hid hp; clear hp
  by_cases h1 : e < x.epoch
  · have hff : Hid (mayR e (prevB l l.length) x = false) := hid (by simp only [mayR]; rw [decide_eq_false (by omega)]; rfl)
    go_enter Tryz.func106, Tryz.ntmps106
    go_wp2
    go_ret
    exact ⟨by rw [hff.out]; rfl, by (repeat (first | exact Below.refl _ _ | assumption | (refine below_alloc ?_ _) | (refine Below.setCell ?_ (by first | omega | (simp; done) | (simp; omega)) _) | (refine Below.drew ?_) | (refine below_drewN ?_ _) | (refine below_then (by assumption) ?_)))⟩
  · by_cases h2 : l.length = 0
    · have hff : Hid (mayR e (prevB l l.length) x = true) := hid (by simp only [mayR]; rw [decide_eq_true (by omega), h2]; rfl)
      have e2 : ((l.length : Int) == 0) = true := by simp [h2]
      clear h2
      go_enter Tryz.func106, Tryz.ntmps106
      go_wp2_with fail
      go_quiet (fail)
      go_wp2
      go_ret
      exact ⟨by rw [hff.out]; rfl, by (repeat (first | exact Below.refl _ _ | assumption | (refine below_alloc ?_ _) | (refine Below.setCell ?_ (by first | omega | (simp; done) | (simp; omega)) _) | (refine Below.drew ?_) | (refine below_drewN ?_ _) | (refine below_then (by assumption) ?_)))⟩
    · obtain ⟨m, hmm⟩ : ∃ m, l.length = m + 1 := ⟨l.length - 1, by omega⟩
      obtain ⟨b, o, hA, hbb, a1, c1, hd0, hd1, hd2, r0, r1, hd⟩ := batch_at HL.out (show m < l.length by omega)
      have hpm := HP.out _ (List.getElem_mem (show m < l.length by omega))
      obtain ⟨_, hm2, _, _⟩ := sl_len hd
      have hprev : prevB l (m + 1) = some l[m] := by unfold prevB; rw [if_neg (by omega)]; simp [show m < l.length by omega]
      generalize hz : l[m] = z at *
      clear hz hd
      have hff : Hid (mayR e (prevB l l.length) x = (decide (z.epoch ≤ x.epoch) && decide (z.base + z.entries.length ≤ x.base))) := hid (by simp only [mayR]; rw [decide_eq_true (by omega), hmm, hprev]; rfl)
      subst hA
      have i4 : wrap64 (m : Int) = m := by simp only [wrap64]; omega
      have HMM := hid hmm
      rw [hmm]
      clear h2 hprev hmm
      have e2 : ((m : Int) + 1 == 0) = false := by simp; omega
      have i2 : (0 : Int) ≤ (m : Int) := by omega
      have i3 : (m : Int) < (m : Int) + 1 := by omega
      have F : Below w.heap.size w ((w.alloc (.cells #[.int .u64 e, .slice (some ⟨b, o, none⟩) (m + 1) c] 62)).alloc (.cells #[.int .u64 x.epoch, .int .u64 x.base, .slice a' n' c'] 25)) := by (repeat (first | exact Below.refl _ _ | assumption | (refine below_alloc ?_ _) | (refine Below.setCell ?_ (by first | omega | (simp; done) | (simp; omega)) _) | (refine Below.drew ?_) | (refine below_drewN ?_ _) | (refine below_then (by assumption) ?_)))
      have X0 := fun s : Later ((w.alloc (.cells #[.int .u64 e, .slice (some ⟨b, o, none⟩) (m + 1) c] 62)).alloc (.cells #[.int .u64 x.epoch, .int .u64 x.base, .slice a' n' c'] 25)) => s.cell ((F.cell (p := ⟨b, o + m * 3, none⟩) hbb).trans hd0)
      have X1 := fun s : Later ((w.alloc (.cells #[.int .u64 e, .slice (some ⟨b, o, none⟩) (m + 1) c] 62)).alloc (.cells #[.int .u64 x.epoch, .int .u64 x.base, .slice a' n' c'] 25)) => s.cell ((F.cell (p := ⟨b, o + m * 3 + 1, none⟩) hbb).trans hd1)
      have X2 := fun s : Later ((w.alloc (.cells #[.int .u64 e, .slice (some ⟨b, o, none⟩) (m + 1) c] 62)).alloc (.cells #[.int .u64 x.epoch, .int .u64 x.base, .slice a' n' c'] 25)) => s.cell ((F.cell (p := ⟨b, o + m * 3 + 2, none⟩) hbb).trans hd2)
      have Y0 := fun s : Later ((w.alloc (.cells #[.int .u64 e, .slice (some ⟨b, o, none⟩) (m + 1) c] 62)).alloc (.cells #[.int .u64 x.epoch, .int .u64 x.base, .slice a' n' c'] 25)) => s.cell (v := .slice (some ⟨b, o, none⟩) (m + 1) c) (b := w.heap.size) (o := 1) (by go_simp)
      have Y1 := fun s : Later ((w.alloc (.cells #[.int .u64 e, .slice (some ⟨b, o, none⟩) (m + 1) c] 62)).alloc (.cells #[.int .u64 x.epoch, .int .u64 x.base, .slice a' n' c'] 25)) => s.cell (v := .int .u64 x.epoch) (b := w.heap.size + 1) (o := 0) (by go_simp)
      have Y2 := fun s : Later ((w.alloc (.cells #[.int .u64 e, .slice (some ⟨b, o, none⟩) (m + 1) c] 62)).alloc (.cells #[.int .u64 x.epoch, .int .u64 x.base, .slice a' n' c'] 25)) => s.cell (v := .int .u64 x.base) (b := w.heap.size + 1) (o := 1) (by go_simp)
      clear hd0 hd1 hd2
      have FF := hid F; clear F
      have hE := fun s : Later ((w.alloc (.cells #[.int .u64 e, .slice (some ⟨b, o, none⟩) (m + 1) c] 62)).alloc (.cells #[.int .u64 x.epoch, .int .u64 x.base, .slice a' n' c'] 25)) => batch_end z.epoch z.base a1 z.entries.length c1 s.at_ r1.1 hpm hm2
      have HE := hid hE; clear hE
      by_cases g1 : z.epoch ≤ x.epoch
      · have d1 : decide (z.epoch ≤ x.epoch) = true := by simpa using g1
        have hf2 : Hid (mayR e (prevB l l.length) x = decide (z.base + z.entries.length ≤ x.base)) := hid (by rw [hff.out, d1]; rfl)
        go_enter Tryz.func106, Tryz.ntmps106
        go_wp2_with fail
        refine wp_region_later (by kernel_rfl) (by kernel_rfl) ?_
        repeat (go_big_quiet_step (((go_at_call 24; exact later_of (HE.out _)))))
        refine wpQuiet_nil ?_
        rintro W5 ⟨⟨W5', hb5⟩, rfl⟩
        go_wp2
        go_ret
        have FO := FF.out
        refine ⟨?_, by (repeat (first | exact Below.refl _ _ | assumption | (refine below_alloc ?_ _) | (refine Below.setCell ?_ (by first | omega | (simp; done) | (simp; omega)) _) | (refine Below.drew ?_) | (refine below_drewN ?_ _) | (refine below_then (by assumption) ?_)))⟩
        rw [← HMM.out, hf2.out]; rfl
      · have d1 : decide (z.epoch ≤ x.epoch) = false := by simpa using g1
        have hf2 : Hid (mayR e (prevB l l.length) x = false) := hid (by rw [hff.out, d1]; rfl)
        clear g1
        go_enter Tryz.func106, Tryz.ntmps106
        go_wp2_with fail
        refine wp_region_later (by kernel_rfl) (by kernel_rfl) ?_
        repeat (go_big_quiet_step (fail))
        refine wpQuiet_nil ?_
        rintro W5 ⟨⟨W5', hb5⟩, rfl⟩
        go_wp2
        go_ret
        have FO := FF.out
        refine ⟨?_, by (repeat (first | exact Below.refl _ _ | assumption | (refine below_alloc ?_ _) | (refine Below.setCell ?_ (by first | omega | (simp; done) | (simp; omega)) _) | (refine Below.drew ?_) | (refine below_drewN ?_ _) | (refine below_then (by assumption) ?_)))⟩
        rw [← HMM.out, hf2.out]; rfl
end Go.Proofs.YtkipiefcnjfdjaaGreat
