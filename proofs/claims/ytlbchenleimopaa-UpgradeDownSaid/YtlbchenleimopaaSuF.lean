/- Segments of the version 2 well-formed, by the program: the parts. -/
import Derived.Test.YtlbchenleimopaaSuE
import Derived.Test.YtlbchenleimopaaDatb
import Derived.Test.YtlbchenleimopaaStI
namespace Go.Proofs.Ytlbchenleimopaa
open Go.RowKit Go.Bs
set_option linter.unusedVariables false
set_option linter.unusedSimpArgs false

def singleL (l : List Link) : Bool := l.all fun x => decide (x.backs.length ≤ 1)
def bareB (l : List Entry) : Bool := l.all fun x => singleL x.links

set_option maxHeartbeats 400000 in
theorem single_one (i : Int) (x : Link) (a : Option Addr) (n c : Nat) (w : World) (hn : n = x.backs.length) (hm : n ≤ 9223372036854775807) :
    Calls Try.prog 72 #[.int .i64 i, .agg #[.int .u64 x.stream, .slice a n c]] w fun r w' => r = .returned (.bool (decide (x.backs.length ≤ 1))) ∧ Below w.heap.size w w' := by
  have hff : decide (x.backs.length ≤ 1) = decide ((n : Int) ≤ 1) := by simp only [decide_eq_decide]; omega
  rw [hff]
  clear hff hn
  go_enter Try.func72, Try.ntmps72
  go_wp2
  go_ret
  exact ⟨rfl, by (repeat (first | exact Below.refl _ _ | assumption | (refine below_alloc ?_ _) | (refine Below.setCell ?_ (by first | omega | (simp; done) | (simp; omega)) _) | (refine Below.drew ?_) | (refine below_drewN ?_ _) | (refine below_then (by assumption) ?_)))⟩

set_option maxHeartbeats 800000 in
theorem all_link (l : List Link) (a : Option Addr) (n c : Nat) (w : World) (hl : rLinks.r (· < w.heap.size) w [.slice a n c] l) :
    Calls Try.prog 71 #[.slice a n c, .func (.func 72) #[] #[]] w fun r w' => r = .returned (.bool (singleL l)) ∧ Below w.heap.size w w' := by
  obtain ⟨rfl, hm, _, _⟩ := sl_len hl
  have HL := hid hl; clear hl
  have h0 : Hid (singleL l = allI (fun _ (x : Link) => decide (x.backs.length ≤ 1)) 0 l) := hid (allI_all 0 l).symm
  go_enter Try.func71, Try.ntmps71
  go_wp2
  go_loopw [9] (fun i wr => ∃ k : Nat, k ≤ l.length ∧ i = .int .i64 k ∧ Hid (singleL l = allI (fun _ (x : Link) => decide (x.backs.length ≤ 1)) k (l.drop k)) ∧ Below w.heap.size w wr) (fun i _ => l.length - (intOf i).toNat)
  case atStart => exact ⟨0, Nat.zero_le _, rfl, h0, Below.refl _ _⟩
  case round =>
    obtain ⟨k, hk, rfl, hf, hb⟩ := hrel
    by_cases hlt : k < l.length
    · obtain ⟨b, o, hA, hbb, a1, c1, X0, X1, _, hb1⟩ := link_at (lift HL.out hb) hlt
      subst hA
      have hst := hid (allI_step (fun _ (x : Link) => decide (x.backs.length ≤ 1)) l k hlt)
      have hml := (sl_len hb1).2.1
      clear hb1
      generalize l[k] = x at *
      go_wp2_with fail
      refine (single_one k x _ _ _ _ rfl hml).mono ?_
      rintro e w1 ⟨rfl, hb1⟩
      have hb2 : Below w.heap.size w w1 := by (repeat (first | exact Below.refl _ _ | assumption | (refine below_alloc ?_ _) | (refine Below.setCell ?_ (by first | omega | (simp; done) | (simp; omega)) _) | (refine Below.drew ?_) | (refine below_drewN ?_ _) | (refine below_then (by assumption) ?_)))
      cases hr : decide (x.backs.length ≤ 1)
      · have hff : Hid (singleL l = false) := hid (by rw [hf.out, hst.out, hr]; rfl)
        clear hr
        go_wp2
        go_ret
        exact ⟨by rw [hff.out]; rfl, hb2⟩
      · have hff : Hid (singleL l = allI (fun _ (x : Link) => decide (x.backs.length ≤ 1)) (k + 1) (l.drop (k + 1))) := hid (by rw [hf.out, hst.out, hr]; rfl)
        clear hr
        go_wp2
        go_roundw
        case rel => exact ⟨k + 1, by omega, by go_num, hff, hb2⟩
        case measure => simp [intOf]; omega
    · obtain rfl : k = l.length := by omega
      have hff : Hid (singleL l = true) := hid (by rw [hf.out, List.drop_length]; rfl)
      go_wp2
      go_ret
      exact ⟨by rw [hff.out]; rfl, hb⟩

set_option maxHeartbeats 400000 in
theorem legacy_single (l : List Link) (a : Option Addr) (n c : Nat) (w : World) (hl : rLinks.r (· < w.heap.size) w [.slice a n c] l) :
    Calls Try.prog 61 #[.slice a n c] w fun r w' => r = .returned (.bool (singleL l)) ∧ Below w.heap.size w w' := by
  have hc := all_link l a n c w hl
  have HC := hid hc; clear hc hl
  go_enter Try.func61, Try.ntmps61
  go_wp2_with fail
  refine HC.out.mono ?_
  rintro e w1 ⟨rfl, hb1⟩
  go_wp2
  go_ret
  exact ⟨rfl, hb1⟩

set_option maxHeartbeats 400000 in
theorem right2_entry (i : Int) (x : Entry) (a : Option Addr) (n c : Nat) (v : Value) (hv : v.oneCell' = true) (w : World) (hl : rLinks.r (· < w.heap.size) w [.slice a n c] x.links) :
    Calls Try.prog 60 #[.int .i64 i, .agg #[.slice a n c, v]] w fun r w' => r = .returned (.bool (singleL x.links)) ∧ Below w.heap.size w w' := by
  have HL := hid hl; clear hl
  go_enter Try.func60, Try.ntmps60
  go_wp2_with fail
  refine (legacy_single x.links _ _ _ _ (lift HL.out (by (repeat (first | exact Below.refl _ _ | assumption | (refine below_alloc ?_ _) | (refine Below.setCell ?_ (by first | omega | (simp; done) | (simp; omega)) _) | (refine Below.drew ?_) | (refine below_drewN ?_ _) | (refine below_then (by assumption) ?_)))))).mono ?_
  rintro e w1 ⟨rfl, hb1⟩
  go_wp2
  go_ret
  exact ⟨rfl, by (repeat (first | exact Below.refl _ _ | assumption | (refine below_alloc ?_ _) | (refine Below.setCell ?_ (by first | omega | (simp; done) | (simp; omega)) _) | (refine Below.drew ?_) | (refine below_drewN ?_ _) | (refine below_then (by assumption) ?_)))⟩

set_option maxHeartbeats 800000 in
theorem all_entry (l : List Entry) (a : Option Addr) (n c : Nat) (w : World) (hl : rEntries.r (· < w.heap.size) w [.slice a n c] l) :
    Calls Try.prog 59 #[.slice a n c, .func (.func 60) #[] #[]] w fun r w' => r = .returned (.bool (bareB l)) ∧ Below w.heap.size w w' := by
  obtain ⟨rfl, hm, _, _⟩ := sl_len hl
  have HL := hid hl; clear hl
  have h0 : Hid (bareB l = allI (fun _ (x : Entry) => singleL x.links) 0 l) := hid (allI_all 0 l).symm
  go_enter Try.func59, Try.ntmps59
  go_wp2
  go_loopw [9] (fun i wr => ∃ k : Nat, k ≤ l.length ∧ i = .int .i64 k ∧ Hid (bareB l = allI (fun _ (x : Entry) => singleL x.links) k (l.drop k)) ∧ Below w.heap.size w wr) (fun i _ => l.length - (intOf i).toNat)
  case atStart => exact ⟨0, Nat.zero_le _, rfl, h0, Below.refl _ _⟩
  case round =>
    obtain ⟨k, hk, rfl, hf, hb⟩ := hrel
    by_cases hlt : k < l.length
    · obtain ⟨b, o, hA, hbb, a1, c1, a2, c2, X0, X1, hd1, _⟩ := entry_at (lift HL.out hb) hlt
      subst hA
      have hst := hid (allI_step (fun _ (x : Entry) => singleL x.links) l k hlt)
      have HD := hid hd1; clear hd1
      generalize l[k] = x at *
      go_wp2_with fail
      refine (right2_entry k x _ _ _ _ rfl _ (lift HD.out (by (repeat (first | exact Below.refl _ _ | assumption | (refine below_alloc ?_ _) | (refine Below.setCell ?_ (by first | omega | (simp; done) | (simp; omega)) _) | (refine Below.drew ?_) | (refine below_drewN ?_ _) | (refine below_then (by assumption) ?_)))))).mono ?_
      rintro e w1 ⟨rfl, hb1⟩
      have hb2 : Below w.heap.size w w1 := by (repeat (first | exact Below.refl _ _ | assumption | (refine below_alloc ?_ _) | (refine Below.setCell ?_ (by first | omega | (simp; done) | (simp; omega)) _) | (refine Below.drew ?_) | (refine below_drewN ?_ _) | (refine below_then (by assumption) ?_)))
      cases hr : singleL x.links
      · have hff : Hid (bareB l = false) := hid (by rw [hf.out, hst.out, hr]; rfl)
        clear hr
        go_wp2
        go_ret
        exact ⟨by rw [hff.out]; rfl, hb2⟩
      · have hff : Hid (bareB l = allI (fun _ (x : Entry) => singleL x.links) (k + 1) (l.drop (k + 1))) := hid (by rw [hf.out, hst.out, hr]; rfl)
        clear hr
        go_wp2
        go_roundw
        case rel => exact ⟨k + 1, by omega, by go_num, hff, hb2⟩
        case measure => simp [intOf]; omega
    · obtain rfl : k = l.length := by omega
      have hff : Hid (bareB l = true) := hid (by rw [hf.out, List.drop_length]; rfl)
      go_wp2
      go_ret
      exact ⟨by rw [hff.out]; rfl, hb⟩

set_option maxHeartbeats 1600000 in
theorem legacy_follows (e : Int) (l : List Batch) (x : Batch) (a a' : Option Addr) (n c n' c' : Nat) (w : World) (hl : rBatches.r (· < w.heap.size) w [.slice a n c] l) (hp : ∀ p ∈ l, p.base + p.entries.length ≤ 18446744073709551615) :
    Calls Try.prog 62 #[.int .u64 e, .slice a n c, .agg #[.int .u64 x.epoch, .int .u64 x.base, .slice a' n' c']] w fun r w' => r = .returned (.bool (mayR e (prevB l l.length) x)) ∧ Below w.heap.size w w' := by
  obtain ⟨rfl, hm, _, _⟩ := sl_len hl
  have HL := hid hl; clear hl
  have HP := hid hp; clear hp
  have Y0 := fun s : Later (w.alloc (.cells #[.int .u64 x.epoch, .int .u64 x.base, .slice a' n' c'] 58)) => s.cell (v := .int .u64 x.epoch) (b := w.heap.size) (o := 0) (by go_simp)
  have Y1 := fun s : Later (w.alloc (.cells #[.int .u64 x.epoch, .int .u64 x.base, .slice a' n' c'] 58)) => s.cell (v := .int .u64 x.base) (b := w.heap.size) (o := 1) (by go_simp)
  have F : Below w.heap.size w (w.alloc (.cells #[.int .u64 x.epoch, .int .u64 x.base, .slice a' n' c'] 58)) := by (repeat (first | exact Below.refl _ _ | assumption | (refine below_alloc ?_ _) | (refine Below.setCell ?_ (by first | omega | (simp; done) | (simp; omega)) _) | (refine Below.drew ?_) | (refine below_drewN ?_ _) | (refine below_then (by assumption) ?_)))
  have FF := hid F
  by_cases h1 : x.epoch ≤ e
  · have d0 : decide (x.epoch ≤ e) = true := by simpa using h1
    by_cases h2 : l.length = 0
    · have hff : Hid (mayR e (prevB l l.length) x = true) := hid (by simp only [mayR]; rw [decide_eq_true h1, h2]; rfl)
      have e2 : ((l.length : Int) == 0) = true := by simp [h2]
      clear h2 h1 F
      go_enter Try.func62, Try.ntmps62
      go_wp2_with fail
      refine wp_region_later (by kernel_rfl) (by kernel_rfl) ?_
      repeat (go_big_quiet_step (fail))
      refine wpQuiet_nil ?_
      rintro W5 ⟨⟨W5', hb5⟩, rfl⟩
      go_wp2
      go_ret
      have FO := FF.out
      exact ⟨by rw [hff.out]; rfl, by (repeat (first | exact Below.refl _ _ | assumption | (refine below_alloc ?_ _) | (refine Below.setCell ?_ (by first | omega | (simp; done) | (simp; omega)) _) | (refine Below.drew ?_) | (refine below_drewN ?_ _) | (refine below_then (by assumption) ?_)))⟩
    · obtain ⟨m, hmm⟩ : ∃ m, l.length = m + 1 := ⟨l.length - 1, by omega⟩
      obtain ⟨b, o, hA, hbb, a1, c1, hd0, hd1, hd2, r0, r1, hd⟩ := batch_at HL.out (show m < l.length by omega)
      have hpm := HP.out _ (List.getElem_mem (show m < l.length by omega))
      obtain ⟨_, hm2, _, _⟩ := sl_len hd
      have hprev : prevB l (m + 1) = some l[m] := by unfold prevB; rw [if_neg (by omega)]; simp [show m < l.length by omega]
      generalize hz : l[m] = z at *
      clear hz hd
      have hff : Hid (mayR e (prevB l l.length) x = (decide (z.epoch ≤ x.epoch) && decide (z.base + z.entries.length ≤ x.base))) := hid (by simp only [mayR]; rw [decide_eq_true h1, hmm, hprev]; rfl)
      subst hA
      have i4 : wrap64 (m : Int) = m := by simp only [wrap64]; omega
      have HMM := hid hmm
      rw [hmm]
      clear h2 hprev hmm
      have e2 : ((m : Int) + 1 == 0) = false := by simp; omega
      have i2 : (0 : Int) ≤ (m : Int) := by omega
      have i3 : (m : Int) < (m : Int) + 1 := by omega
      have X0 := fun s : Later (w.alloc (.cells #[.int .u64 x.epoch, .int .u64 x.base, .slice a' n' c'] 58)) => s.cell ((F.cell (p := ⟨b, o + m * 3, none⟩) hbb).trans hd0)
      have X1 := fun s : Later (w.alloc (.cells #[.int .u64 x.epoch, .int .u64 x.base, .slice a' n' c'] 58)) => s.cell ((F.cell (p := ⟨b, o + m * 3 + 1, none⟩) hbb).trans hd1)
      have X2 := fun s : Later (w.alloc (.cells #[.int .u64 x.epoch, .int .u64 x.base, .slice a' n' c'] 58)) => s.cell ((F.cell (p := ⟨b, o + m * 3 + 2, none⟩) hbb).trans hd2)
      clear hd0 hd1 hd2 F h1
      have hE := fun s : Later (w.alloc (.cells #[.int .u64 x.epoch, .int .u64 x.base, .slice a' n' c'] 58)) => batch_end z.epoch z.base a1 z.entries.length c1 s.at_ r1.1 hpm hm2
      have HE := hid hE; clear hE
      by_cases g1 : z.epoch ≤ x.epoch
      · have d1 : decide (z.epoch ≤ x.epoch) = true := by simpa using g1
        have hf2 : Hid (mayR e (prevB l l.length) x = decide (z.base + z.entries.length ≤ x.base)) := hid (by rw [hff.out, d1]; rfl)
        go_enter Try.func62, Try.ntmps62
        go_wp2_with fail
        refine wp_region_later (by kernel_rfl) (by kernel_rfl) ?_
        repeat (go_big_quiet_step (((go_at_call 54; exact later_of (HE.out _)))))
        refine wpQuiet_nil ?_
        rintro W5 ⟨⟨W5', hb5⟩, rfl⟩
        go_wp2
        go_ret
        have FO := FF.out
        refine ⟨?_, by (repeat (first | exact Below.refl _ _ | assumption | (refine below_alloc ?_ _) | (refine Below.setCell ?_ (by first | omega | (simp; done) | (simp; omega)) _) | (refine Below.drew ?_) | (refine below_drewN ?_ _) | (refine below_then (by assumption) ?_)))⟩
        rw [← HMM.out, hf2.out]; rfl
      · have d1 : decide (z.epoch ≤ x.epoch) = false := by simpa using g1
        have hf2 : Hid (mayR e (prevB l l.length) x = false) := hid (by rw [hff.out, d1]; rfl)
        clear g1
        go_enter Try.func62, Try.ntmps62
        go_wp2_with fail
        refine wp_region_later (by kernel_rfl) (by kernel_rfl) ?_
        repeat (go_big_quiet_step (fail))
        refine wpQuiet_nil ?_
        rintro W5 ⟨⟨W5', hb5⟩, rfl⟩
        go_wp2
        go_ret
        have FO := FF.out
        refine ⟨?_, by (repeat (first | exact Below.refl _ _ | assumption | (refine below_alloc ?_ _) | (refine Below.setCell ?_ (by first | omega | (simp; done) | (simp; omega)) _) | (refine Below.drew ?_) | (refine below_drewN ?_ _) | (refine below_then (by assumption) ?_)))⟩
        rw [← HMM.out, hf2.out]; rfl
  · have hff : Hid (mayR e (prevB l l.length) x = false) := hid (by simp only [mayR]; rw [decide_eq_false h1]; rfl)
    have d0 : decide (x.epoch ≤ e) = false := by simpa using h1
    clear h1 F
    go_enter Try.func62, Try.ntmps62
    go_wp2_with fail
    refine wp_region_later (by kernel_rfl) (by kernel_rfl) ?_
    repeat (go_big_quiet_step (fail))
    refine wpQuiet_nil ?_
    rintro W5 ⟨⟨W5', hb5⟩, rfl⟩
    go_wp2
    go_ret
    have FO := FF.out
    exact ⟨by rw [hff.out]; rfl, by (repeat (first | exact Below.refl _ _ | assumption | (refine below_alloc ?_ _) | (refine Below.setCell ?_ (by first | omega | (simp; done) | (simp; omega)) _) | (refine Below.drew ?_) | (refine below_drewN ?_ _) | (refine below_then (by assumption) ?_)))⟩
end Go.Proofs.Ytlbchenleimopaa
