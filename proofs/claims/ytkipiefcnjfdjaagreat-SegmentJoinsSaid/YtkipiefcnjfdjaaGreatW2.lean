/- Needed by segNeeds, part 2: texts put together by shake.py; no condition. -/
import Derived.Test.YtkipiefcnjfdjaaGreatW1
import Derived.Deep.AppendLies
import Derived.Deep.RegionLaw
import Derived.Test.YtkipiefcnjfdjaaGreatRows
import Derived.Maps.OwnOps
import Derived.Maps.Views
import Derived.Sort.QuietThIn
import Derived.Sort.BigQuietIn
import Derived.Sort.QuietTacIn
import Derived.RangeFuncNested
import Derived.RangeFuncBound
import Derived.RangeFuncCalls
import Derived.RangeFuncLeaves
import Derived.Shelf.Abstract
import Derived.Shelf.RegionOpen
import Derived.OwnWalkIn
import Derived.TacticsInMore
import Derived.LoopNIn
import Derived.LoopIn
import Derived.Maps.OwnIn
import Derived.StillTailTactics
import Derived.StillTail
import Derived.RegionTactic
import Derived.OrdersHeld
import Derived.Deep.RegionHeld
namespace Go.Proofs.YtkipiefcnjfdjaaGreat
open Go.RowKit Go.Bs
set_option linter.unusedVariables false
set_option linter.unusedSimpArgs false
theorem prevB_take (l : List Batch) {k : Nat} (h : k ≤ l.length) : prevB (l.take k) (l.take k).length = prevB l k := by
 have : (l.take k).length = k := by simp; omega
 rw [this]
 unfold prevB
 by_cases h0 : k = 0
 ·rw [if_pos h0, if_pos h0]
 ·rw [if_neg h0, if_neg h0, List.getElem?_take]; rw [if_pos (by omega)]
theorem batchR_fits {x : Batch} (h : batchR x = true) : x.base + x.entries.length ≤ 4611686018427387904 := by
 unfold batchR fitsR at h
 simp at h
 omega
theorem right_take {l : List Batch} {k : Nat} (h : ∀ i, (h : i < l.length) → i < k → batchR l[i] = true) : ∀ p ∈ l.take k, p.base + p.entries.length ≤ 18446744073709551615 := by
 intro p hp
 obtain ⟨i, hi, rfl⟩ := List.getElem_of_mem hp
 have hi' : i < k ∧ i < l.length := by simp at hi; omega
 rw [List.getElem_take]
 have := batchR_fits (h i hi'.2 hi'.1)
 omega
theorem right_more {l : List Batch} {k : Nat} (hk : k < l.length) {z : Batch} (hz : l[k] = z) (hr : batchR z = true) (h : ∀ i, (h : i < l.length) → i < k → batchR l[i] = true) : ∀ i, (h : i < l.length) → i < k + 1 → batchR l[i] = true := by
 intro i hi hik
 by_cases e : i = k
 ·subst e; rw [hz]; exact hr
 ·exact h i hi (by omega)
set_option maxHeartbeats 1600000 in
theorem ref34_may (e : Int) (l : List Batch) (x : Batch) (k : Nat) (a a' : Option Addr) (n c n' c' : Nat) (w : World) (hl : rBatches.r (· < w.heap.size) w [.slice a n c] l) (hk : k ≤ l.length) (hp : ∀ i, (h : i < l.length) → i < k → batchR l[i] = true) :
  Calls Tryz.prog 42 #[.agg #[.int .u64 e, .slice a n c], .int .i64 k, .agg #[.int .u64 x.epoch, .int .u64 x.base, .slice a' n' c']] w fun r w' => r = .returned (.bool (mayR e (prevB l k) x)) ∧ Below w.heap.size w w' := by
 obtain ⟨rfl, hm, _, _⟩ := sl_len hl
 have HL := hid hl; clear hl
 have HP := hid hp; clear hp
 by_cases h1 : e < x.epoch
 ·have hff : Hid (mayR e (prevB l k) x = false) := hid (by simp only [mayR]; rw [decide_eq_false (by omega)]; rfl)
  go_enter Tryz.func42, Tryz.ntmps42
  go_wp2
  go_ret
  exact ⟨by rw [hff.out]; rfl, by (repeat first | exact zR | assumption | apply zA | apply zS | apply zD | apply zN | refine zT (by assumption) ?_ | omega | simp <;> omega)⟩
 ·by_cases h2 : k = 0
  ·have hff : Hid (mayR e (prevB l k) x = true) := hid (by simp only [mayR]; rw [decide_eq_true (by omega), h2]; rfl)
   have e2 : ((k : Int) == 0) = true := by simp [h2]
   clear h2
   go_enter Tryz.func42, Tryz.ntmps42
   go_wp2
   go_ret
   exact ⟨by rw [hff.out]; rfl, by (repeat first | exact zR | assumption | apply zA | apply zS | apply zD | apply zN | refine zT (by assumption) ?_ | omega | simp <;> omega)⟩
  ·obtain ⟨m, rfl⟩ : ∃ m, k = m + 1 := ⟨k - 1, by omega⟩
   have hmb : m ≤ 9223372036854775807 := by omega
   obtain ⟨b, o, hA, hbb, a1, c1, hd0, hd1, hd2, r0, r1, hd⟩ := batch_at HL.out (show m < l.length by omega)
   have hpm : l[m].base + l[m].entries.length ≤ 18446744073709551615 := by have := batchR_fits (HP.out m (by omega) (by omega)); clear r0 r1; omega
   obtain ⟨_, hm2, _, _⟩ := sl_len hd
   have hprev : prevB l (m + 1) = some l[m] := by unfold prevB; rw [if_neg (by omega)]; simp [show m < l.length by omega]
   generalize hz : l[m] = z at *
   clear hz hd
   have hff : Hid (mayR e (prevB l (m + 1)) x = (decide (z.epoch ≤ x.epoch) && decide (z.base + z.entries.length ≤ x.base))) := hid (by simp only [mayR]; rw [decide_eq_true (by omega), hprev]; rfl)
   subst hA
   clear h2 hprev
   rw [show ((m + 1 : Nat) : Int) = (m : Int) + 1 from rfl]
   have e2 : ((m : Int) + 1 == 0) = false := by simp; omega
   have i2 : (0 : Int) ≤ (m : Int) := by omega
   have i3 : (m : Int) < (l.length : Int) := by omega
   by_cases g1 : z.epoch ≤ x.epoch
   ·have hf2 : Hid (mayR e (prevB l (m + 1)) x = decide (z.base + z.entries.length ≤ x.base)) := hid (by rw [hff.out, decide_eq_true g1]; rfl)
    go_enter Tryz.func42, Tryz.ntmps42
    go_wp2
    go_ret
    refine ⟨?_, by (repeat first | exact zR | assumption | apply zA | apply zS | apply zD | apply zN | refine zT (by assumption) ?_ | omega | simp <;> omega)⟩
    rw [hf2.out]; rfl
   ·have hf2 : Hid (mayR e (prevB l (m + 1)) x = false) := hid (by rw [hff.out, decide_eq_false g1]; rfl)
    go_enter Tryz.func42, Tryz.ntmps42
    go_wp2
    go_ret
    refine ⟨?_, by (repeat first | exact zR | assumption | apply zA | apply zS | apply zD | apply zN | refine zT (by assumption) ?_ | omega | simp <;> omega)⟩
    rw [hf2.out]; rfl
end Go.Proofs.YtkipiefcnjfdjaaGreat
namespace Go.Proofs.YtkipiefcnjfdjaaGreat
open Go.RowKit Go.Bs
set_option linter.unusedVariables false
set_option linter.unusedSimpArgs false
set_option maxHeartbeats 3200000 in
theorem segment_right (e : Int) (l : List Batch) (a : Option Addr) (n c : Nat) (w : World) (h0 : 0 ≤ e ∧ e ≤ 18446744073709551615) (hl : rBatches.r (· < w.heap.size) w [.slice a n c] l) (hfair : ∀ x ∈ l, Fair x.entries) :
  Calls Tryz.prog 44 #[.agg #[.int .u64 e, .slice a n c]] w fun r w' => r = .returned (.bool (segR ⟨e, l⟩)) ∧ Below w.heap.size w w' := by
 obtain ⟨rfl, hm, hm2, hm3⟩ := sl_len hl
 have HL := hid hl; clear hl
 have HF := hid hfair; clear hfair
 go_enter Tryz.func44, Tryz.ntmps44
 go_wp2_with fail
 refine (epoch_right e _).mono ?_
 rintro e' w' ⟨rfl, rfl⟩
 cases he : epR e
 ·have hff : Hid (segR ⟨e, l⟩ = false) := hid (by simp [segR, he])
  clear he
  go_wp2
  go_ret
  exact ⟨by rw [hff.out]; rfl, by (repeat first | exact zR | assumption | apply zA | apply zS | apply zD | apply zN | refine zT (by assumption) ?_ | omega | simp <;> omega)⟩
 ·by_cases hn : l.length ≤ 16
  ·have d1 : decide ((16 : Int) < (l.length : Int)) = false := by simp; omega
   have hff : Hid (segR ⟨e, l⟩ = chainR e (prevB l 0) (l.drop 0)) := hid (by simp [segR, he, hn, prevB])
   clear he
   go_wp2_with fail
   refine wp_world (fun W => Below w.heap.size w W ∧ w.heap.size < W.heap.size ∧ W.cell? ⟨w.heap.size, 0, none⟩ = some (.int .u64 e) ∧ W.cell? ⟨w.heap.size, 1, none⟩ = some (.slice a l.length c)) ⟨by (repeat first | exact zR | assumption | apply zA | apply zS | apply zD | apply zN | refine zT (by assumption) ?_ | omega | simp <;> omega), by simp, by go_simp, by go_simp⟩ ?_
   intro w1 ⟨hb2, hzb, s0, s1⟩
   go_loopw [18] (fun i wr => ∃ k : Nat, k ≤ l.length ∧ i = .int .i64 k ∧ Hid (segR ⟨e, l⟩ = chainR e (prevB l k) (l.drop k)) ∧ Hid (∀ i, (h : i < l.length) → i < k → batchR l[i] = true) ∧ Below w1.heap.size w1 wr) (fun i _ => l.length - (intOf i).toNat)
   case atStart => exact ⟨0, Nat.zero_le _, rfl, hff, hid (fun i _ h => absurd h (Nat.not_lt_zero i)), Below.refl _ _⟩
   case round =>
    obtain ⟨k, hk, rfl, hf, hP, hb⟩ := hrel
    have hb3 := below_then hb hb2
    have t0 : wr.cell? ⟨w.heap.size, 0, none⟩ = some (.int .u64 e) := (Later.mk wr hb).cell s0
    have t1 : wr.cell? ⟨w.heap.size, 1, none⟩ = some (.slice a l.length c) := (Later.mk wr hb).cell s1
    have hz3 : w.heap.size < wr.heap.size := by have := hb.size; omega
    by_cases hlt : k < l.length
    ·obtain ⟨b, o, hA, hbb, a1, c1, hd0, hd1, hd2, r0, r1, hd⟩ := batch_at HL.out hlt
     subst hA
     have X0 := (hb3.cell (p := ⟨b, o + k * 3, none⟩) hbb).trans hd0
     have X1 := (hb3.cell (p := ⟨b, o + k * 3 + 1, none⟩) hbb).trans hd1
     have X2 := (hb3.cell (p := ⟨b, o + k * 3 + 2, none⟩) hbb).trans hd2
     clear hd0 hd1 hd2
     have RL := hid (sl_take (lift HL.out hb3) hk)
     have hst := hid (chainR_step e l k hlt)
     have HZ := hid (HF.out _ (List.getElem_mem hlt))
     obtain ⟨_, hm4, _, _⟩ := sl_len hd
     have R := hid (lift hd hb3)
     clear hd
     generalize hz : l[k] = z at *
     have HZZ := hid hz; clear hz
     have i1 : (k : Int) < (l.length : Int) := by omega
     have i2 : (k : Int) ≤ (c : Int) := by omega
     go_wp2_with fail
     refine wp_world (fun W => Below wr.heap.size wr W ∧ wr.heap.size < W.heap.size ∧ W.cell? ⟨wr.heap.size, 0, none⟩ = some (.int .u64 z.epoch) ∧ W.cell? ⟨wr.heap.size, 1, none⟩ = some (.int .u64 z.base) ∧ W.cell? ⟨wr.heap.size, 2, none⟩ = some (.slice a1 z.entries.length c1)) ⟨by (repeat first | exact zR | assumption | apply zA | apply zS | apply zD | apply zN | refine zT (by assumption) ?_ | omega | simp <;> omega), by simp, by go_simp, by go_simp, by go_simp⟩ ?_
     intro W ⟨hbW, hzW, d0, d1, d2⟩
     have hb6 := below_then hbW hb3
     have hb7 := below_then hbW hb
     have T0 := fun s : Later W => s.cell ((hbW.cell (p := ⟨w.heap.size, 0, none⟩) hz3).trans t0)
     have T1 := fun s : Later W => s.cell ((hbW.cell (p := ⟨w.heap.size, 1, none⟩) hz3).trans t1)
     have Y0 := fun s : Later W => s.cell d0
     have Y1 := fun s : Later W => s.cell d1
     have Y2 := fun s : Later W => s.cell d2
     have hB := fun s : Later W => batch_right z a1 _ c1 s.at_ r0 r1 (lift R.out (below_then s.below hbW)) HZ.out
     cases hr : batchR z
     ·have hf3 : Hid (segR ⟨e, l⟩ = false) := hid (by rw [hf.out, hst.out, hr]; rfl)
      rw [hr] at hB
      have HB := hid hB; clear hB hr
      refine wp_region_later (by kernel_rfl) (by kernel_rfl) ?_
      repeat (go_big_quiet_step (((go_at_call 22; exact later_of (HB.out _)))))
      refine wpQuiet_nil ?_
      rintro W5 ⟨⟨W5', hb5⟩, rfl⟩
      go_wp2
      go_ret
      exact ⟨by rw [hf3.out]; rfl, below_then hb5 hb6⟩
     ·have HR := hid hr
      rw [hr] at hB
      have HB := hid hB; clear hB
      have hS := fun s : Later W => seg_follows e (l.take k) z (some ⟨b, o, none⟩) a1 k c z.entries.length c1 s.at_ (lift RL.out (below_then s.below hbW)) (right_take hP.out)
      rw [prevB_take l hk] at hS
      cases hv : mayR e (prevB l k) z
      ·have hf3 : Hid (segR ⟨e, l⟩ = false) := hid (by rw [hf.out, hst.out, hr, hv]; rfl)
       rw [hv] at hS
       have HS := hid hS; clear hS hr hv
       refine wp_region_later (by kernel_rfl) (by kernel_rfl) ?_
       repeat (go_big_quiet_step (((first | (go_at_call 22; exact later_of (HB.out _)) | (go_at_call 106; exact later_of (HS.out _))))))
       refine wpQuiet_nil ?_
       rintro W5 ⟨⟨W5', hb5⟩, rfl⟩
       go_wp2
       go_ret
       exact ⟨by rw [hf3.out]; rfl, below_then hb5 hb6⟩
      ·have hf3 : Hid (segR ⟨e, l⟩ = chainR e (prevB l (k + 1)) (l.drop (k + 1))) := hid (by rw [hf.out, hst.out, hr, hv]; rfl)
       rw [hv] at hS
       have HS := hid hS; clear hS hr hv
       refine wp_region_later (by kernel_rfl) (by kernel_rfl) ?_
       repeat (go_big_quiet_step (((first | (go_at_call 22; exact later_of (HB.out _)) | (go_at_call 106; exact later_of (HS.out _))))))
       refine wpQuiet_nil ?_
       rintro W5 ⟨⟨W5', hb5⟩, rfl⟩
       go_wp2
       go_roundw
       case rel => exact ⟨k + 1, by omega, by go_num, hf3, hid (right_more hlt HZZ.out HR.out hP.out), below_then hb5 hb7⟩
       case measure => simp [intOf]; omega
    ·obtain rfl : k = l.length := by omega
     have hf3 : Hid (segR ⟨e, l⟩ = true) := hid (by rw [hf.out, List.drop_length]; rfl)
     go_wp2
     go_ret
     exact ⟨by rw [hf3.out]; rfl, hb3⟩
  ·have d1 : decide ((16 : Int) < (l.length : Int)) = true := by simp; omega
   have hff : Hid (segR ⟨e, l⟩ = false) := hid (by simp [segR, hn])
   go_wp2
   go_ret
   exact ⟨by rw [hff.out]; rfl, by (repeat first | exact zR | assumption | apply zA | apply zS | apply zD | apply zN | refine zT (by assumption) ?_ | omega | simp <;> omega)⟩
end Go.Proofs.YtkipiefcnjfdjaaGreat
namespace Go.Proofs.YtkipiefcnjfdjaaGreat
open Go.RowKit Go.Bs
set_option linter.unusedVariables false
set_option linter.unusedSimpArgs false
set_option maxHeartbeats 3200000 in
theorem ref34_right (e : Int) (l : List Batch) (a : Option Addr) (n c : Nat) (w : World) (h0 : 0 ≤ e ∧ e ≤ 18446744073709551615) (hl : rBatches.r (· < w.heap.size) w [.slice a n c] l) (hfair : ∀ x ∈ l, Fair x.entries) :
  Calls Tryz.prog 41 #[.agg #[.int .u64 e, .slice a n c]] w fun r w' => r = .returned (.bool (segR ⟨e, l⟩)) ∧ Below w.heap.size w w' := by
 obtain ⟨rfl, hm, hm2, hm3⟩ := sl_len hl
 have HL := hid hl; clear hl
 have HF := hid hfair; clear hfair
 go_enter Tryz.func41, Tryz.ntmps41
 go_wp2_with fail
 refine (ref17_right e h0.1 _).mono ?_
 rintro e' w' ⟨rfl, rfl⟩
 cases he : epR e
 ·have hff : Hid (segR ⟨e, l⟩ = false) := hid (by simp [segR, he])
  clear he
  go_wp2
  go_ret
  exact ⟨by rw [hff.out]; rfl, by (repeat first | exact zR | assumption | apply zA | apply zS | apply zD | apply zN | refine zT (by assumption) ?_ | omega | simp <;> omega)⟩
 ·by_cases hn : l.length ≤ 16
  ·have d1 : decide ((16 : Int) < (l.length : Int)) = false := by simp; omega
   have hff : Hid (segR ⟨e, l⟩ = chainR e (prevB l 0) (l.drop 0)) := hid (by simp [segR, he, hn, prevB])
   clear he
   go_wp2_with fail
   refine wp_world (fun W => Below w.heap.size w W ∧ w.heap.size < W.heap.size ∧ W.cell? ⟨w.heap.size, 0, none⟩ = some (.int .u64 e) ∧ W.cell? ⟨w.heap.size, 1, none⟩ = some (.slice a l.length c)) ⟨by (repeat first | exact zR | assumption | apply zA | apply zS | apply zD | apply zN | refine zT (by assumption) ?_ | omega | simp <;> omega), by simp, by go_simp, by go_simp⟩ ?_
   intro w1 ⟨hb2, hzb, s0, s1⟩
   go_loopw [3] (fun i wr => ∃ k : Nat, k ≤ l.length ∧ i = .int .i64 k ∧ Hid (segR ⟨e, l⟩ = chainR e (prevB l k) (l.drop k)) ∧ Hid (∀ i, (h : i < l.length) → i < k → batchR l[i] = true) ∧ Below w1.heap.size w1 wr) (fun i _ => l.length - (intOf i).toNat)
   case atStart => exact ⟨0, Nat.zero_le _, rfl, hff, hid (fun i _ h => absurd h (Nat.not_lt_zero i)), Below.refl _ _⟩
   case round =>
    obtain ⟨k, hk, rfl, hf, hP, hb⟩ := hrel
    have hb3 := below_then hb hb2
    have t0 : wr.cell? ⟨w.heap.size, 0, none⟩ = some (.int .u64 e) := (Later.mk wr hb).cell s0
    have t1 : wr.cell? ⟨w.heap.size, 1, none⟩ = some (.slice a l.length c) := (Later.mk wr hb).cell s1
    have hz3 : w.heap.size < wr.heap.size := by have := hb.size; omega
    by_cases hlt : k < l.length
    ·obtain ⟨b, o, hA, hbb, a1, c1, hd0, hd1, hd2, r0, r1, hd⟩ := batch_at HL.out hlt
     subst hA
     have X0 := (hb3.cell (p := ⟨b, o + k * 3, none⟩) hbb).trans hd0
     have X1 := (hb3.cell (p := ⟨b, o + k * 3 + 1, none⟩) hbb).trans hd1
     have X2 := (hb3.cell (p := ⟨b, o + k * 3 + 2, none⟩) hbb).trans hd2
     clear hd0 hd1 hd2
     have RL := hid (lift HL.out hb3)
     have hst := hid (chainR_step e l k hlt)
     have HZ := hid (HF.out _ (List.getElem_mem hlt))
     obtain ⟨_, hm4, _, _⟩ := sl_len hd
     have R := hid (lift hd hb3)
     clear hd
     generalize hz : l[k] = z at *
     have HZZ := hid hz; clear hz
     have i1 : (k : Int) < (l.length : Int) := by omega
     have i2 : (k : Int) ≤ (c : Int) := by omega
     have T0 := fun s : Later wr => s.cell t0
     have T1 := fun s : Later wr => s.cell t1
     have Y0 := fun s : Later wr => s.cell X0
     have Y1 := fun s : Later wr => s.cell X1
     have Y2 := fun s : Later wr => s.cell X2
     have hB := fun s : Later wr => ref25_right z a1 _ c1 s.at_ r0 r1 (lift R.out s.below) HZ.out
     cases hr : batchR z
     ·have hf3 : Hid (segR ⟨e, l⟩ = false) := hid (by rw [hf.out, hst.out, hr]; rfl)
      rw [hr] at hB
      have HB := hid hB; clear hB hr
      go_wp2_with fail
      refine wp_region_later (by kernel_rfl) (by kernel_rfl) ?_
      repeat (go_big_quiet_step (((go_at_call 23; exact later_of (HB.out _)))))
      refine wpQuiet_nil ?_
      rintro W5 ⟨⟨W5', hb5⟩, rfl⟩
      go_wp2
      go_ret
      exact ⟨by rw [hf3.out]; rfl, below_then hb5 hb3⟩
     ·have HR := hid hr
      rw [hr] at hB
      have HB := hid hB; clear hB
      have hS := fun s : Later wr => ref34_may e l z k (some ⟨b, o, none⟩) a1 l.length c z.entries.length c1 s.at_ (lift RL.out s.below) hk hP.out
      skip
      cases hv : mayR e (prevB l k) z
      ·have hf3 : Hid (segR ⟨e, l⟩ = false) := hid (by rw [hf.out, hst.out, hr, hv]; rfl)
       rw [hv] at hS
       have HS := hid hS; clear hS hr hv
       go_wp2_with fail
       refine wp_region_later (by kernel_rfl) (by kernel_rfl) ?_
       repeat (go_big_quiet_step (((first | (go_at_call 23; exact later_of (HB.out _)) | (go_at_call 42; exact later_of (HS.out _))))))
       refine wpQuiet_nil ?_
       rintro W5 ⟨⟨W5', hb5⟩, rfl⟩
       go_wp2
       go_ret
       exact ⟨by rw [hf3.out]; rfl, below_then hb5 hb3⟩
      ·have hf3 : Hid (segR ⟨e, l⟩ = chainR e (prevB l (k + 1)) (l.drop (k + 1))) := hid (by rw [hf.out, hst.out, hr, hv]; rfl)
       rw [hv] at hS
       have HS := hid hS; clear hS hr hv
       go_wp2_with fail
       refine wp_region_later (by kernel_rfl) (by kernel_rfl) ?_
       repeat (go_big_quiet_step (((first | (go_at_call 23; exact later_of (HB.out _)) | (go_at_call 42; exact later_of (HS.out _))))))
       refine wpQuiet_nil ?_
       rintro W5 ⟨⟨W5', hb5⟩, rfl⟩
       go_wp2
       go_roundw
       case rel => exact ⟨k + 1, by omega, by go_num, hf3, hid (right_more hlt HZZ.out HR.out hP.out), below_then hb5 hb⟩
       case measure => simp [intOf]; omega
    ·obtain rfl : k = l.length := by omega
     have hf3 : Hid (segR ⟨e, l⟩ = true) := hid (by rw [hf.out, List.drop_length]; rfl)
     go_wp2
     go_ret
     exact ⟨by rw [hf3.out]; rfl, hb3⟩
  ·have d1 : decide ((16 : Int) < (l.length : Int)) = true := by simp; omega
   have hff : Hid (segR ⟨e, l⟩ = false) := hid (by simp [segR, hn])
   go_wp2
   go_ret
   exact ⟨by rw [hff.out]; rfl, by (repeat first | exact zR | assumption | apply zA | apply zS | apply zD | apply zN | refine zT (by assumption) ?_ | omega | simp <;> omega)⟩
end Go.Proofs.YtkipiefcnjfdjaaGreat
namespace Go.Proofs.YtkipiefcnjfdjaaGreat
open Go.RowKit Go.Bs
set_option linter.unusedVariables false
set_option linter.unusedSimpArgs false
set_option maxHeartbeats 1600000 in
theorem ref25_same (x y : Batch) (a a' : Option Addr) (n c n' c' : Nat) (w : World) (hx : rEntries.r (· < w.heap.size) w [.slice a n c] x.entries) (hy : rEntries.r (· < w.heap.size) w [.slice a' n' c'] y.entries) :
  Calls Tryz.prog 26 #[.agg #[.int .u64 x.epoch, .int .u64 x.base, .slice a n c], .agg #[.int .u64 y.epoch, .int .u64 y.base, .slice a' n' c']] w fun r w' => r = .returned (.bool (decide (x = y))) ∧ Below w.heap.size w w' := by
 obtain ⟨xe, xb, xl⟩ := x
 obtain ⟨ye, yb, yl⟩ := y
 dsimp only at *
 have HX := hid hx; clear hx
 have HY := hid hy; clear hy
 by_cases h1 : xe = ye
 ·by_cases h2 : xb = yb
  ·have hff : Hid (decide ((⟨xe, xb, xl⟩ : Batch) = ⟨ye, yb, yl⟩) = decide (xl = yl)) := hid (by simp [h1, h2])
   have d1 : (xe == ye) = true := by simp [h1]
   have d2 : (xb == yb) = true := by simp [h2]
   clear h1 h2
   go_enter Tryz.func26, Tryz.ntmps26
   go_wp2_with fail
   refine (ref24_all xl yl _ _ _ _ _ _ _ (lift HX.out (by (repeat first | exact zR | assumption | apply zA | apply zS | apply zD | apply zN | refine zT (by assumption) ?_ | omega | simp <;> omega))) (lift HY.out (by (repeat first | exact zR | assumption | apply zA | apply zS | apply zD | apply zN | refine zT (by assumption) ?_ | omega | simp <;> omega)))).mono ?_
   rintro e w1 ⟨rfl, hb1⟩
   have hb2 : Below w.heap.size w w1 := by (repeat first | exact zR | assumption | apply zA | apply zS | apply zD | apply zN | refine zT (by assumption) ?_ | omega | simp <;> omega)
   go_wp2
   go_ret
   exact ⟨by rw [hff.out]; rfl, hb2⟩
  ·have hff : Hid (decide ((⟨xe, xb, xl⟩ : Batch) = ⟨ye, yb, yl⟩) = false) := hid (by simp [h1, h2])
   have d1 : (xe == ye) = true := by simp [h1]
   have d2 : (xb == yb) = false := by simp [h2]
   clear h1 h2
   go_enter Tryz.func26, Tryz.ntmps26
   go_wp2
   go_ret
   exact ⟨by rw [hff.out]; rfl, by (repeat first | exact zR | assumption | apply zA | apply zS | apply zD | apply zN | refine zT (by assumption) ?_ | omega | simp <;> omega)⟩
 ·have hff : Hid (decide ((⟨xe, xb, xl⟩ : Batch) = ⟨ye, yb, yl⟩) = false) := hid (by simp [h1])
  have d1 : (xe == ye) = false := by simp [h1]
  clear h1
  go_enter Tryz.func26, Tryz.ntmps26
  go_wp2
  go_ret
  exact ⟨by rw [hff.out]; rfl, by (repeat first | exact zR | assumption | apply zA | apply zS | apply zD | apply zN | refine zT (by assumption) ?_ | omega | simp <;> omega)⟩
set_option maxHeartbeats 1600000 in
theorem ref34_same (ex ey : Int) (x y : List Batch) (a a' : Option Addr) (n c n' c' : Nat) (w : World) (hx : rBatches.r (· < w.heap.size) w [.slice a n c] x) (hy : rBatches.r (· < w.heap.size) w [.slice a' n' c'] y) :
  Calls Tryz.prog 43 #[.agg #[.int .u64 ex, .slice a n c], .agg #[.int .u64 ey, .slice a' n' c']] w fun r w' => r = .returned (.bool (decide ((⟨ex, x⟩ : Seg) = ⟨ey, y⟩))) ∧ Below w.heap.size w w' := by
 obtain ⟨rfl, hm, _, _⟩ := sl_len hx
 obtain ⟨rfl, hm', _, _⟩ := sl_len hy
 by_cases he : ex = ey
 ·have d0 : (ex != ey) = false := by simp [he]
  by_cases hl : x.length = y.length
  ·have HX := hid hx; clear hx
   have HY := hid hy; clear hy
   have HL := hid hl
   have e1 : ((x.length : Int) != (y.length : Int)) = false := by simp [hl]
   have h0 : Hid (decide ((⟨ex, x⟩ : Seg) = ⟨ey, y⟩) = decide (x.drop 0 = y.drop 0)) := hid (by simp [he])
   clear hl he
   go_enter Tryz.func43, Tryz.ntmps43
   go_wp2_with fail
   refine wp_world (fun W => Below w.heap.size w W ∧ w.heap.size + 1 < W.heap.size ∧ W.cell? ⟨w.heap.size, 1, none⟩ = some (.slice a x.length c) ∧ W.cell? ⟨w.heap.size + 1, 1, none⟩ = some (.slice a' y.length c')) ⟨by (repeat first | exact zR | assumption | apply zA | apply zS | apply zD | apply zN | refine zT (by assumption) ?_ | omega | simp <;> omega), by simp, by go_simp, by go_simp⟩ ?_
   intro w1 ⟨hb2, hzb, s0, s1⟩
   go_loopw [5] (fun i wr => ∃ k : Nat, k ≤ x.length ∧ i = .int .i64 k ∧ Hid (decide ((⟨ex, x⟩ : Seg) = ⟨ey, y⟩) = decide (x.drop k = y.drop k)) ∧ Below w1.heap.size w1 wr) (fun i _ => x.length - (intOf i).toNat)
   case atStart => exact ⟨0, Nat.zero_le _, rfl, h0, Below.refl _ _⟩
   case round =>
    obtain ⟨k, hk, rfl, hf, hb7⟩ := hrel
    have hb := below_then hb7 hb2
    have t0 : wr.cell? ⟨w.heap.size, 1, none⟩ = some (.slice a x.length c) := (Later.mk wr hb7).cell s0
    have t1 : wr.cell? ⟨w.heap.size + 1, 1, none⟩ = some (.slice a' y.length c') := (Later.mk wr hb7).cell s1
    have hz3 : w.heap.size + 1 < wr.heap.size := by have := hb7.size; omega
    by_cases hlt : k < x.length
    ·have hlt' : k < y.length := by rw [← HL.out]; exact hlt
     obtain ⟨b, o, hA, hbb, a1, c1, hc0, hc1, hc2, _, _, hr1⟩ := batch_at HX.out hlt
     obtain ⟨b', o', hA', hbb', a2, c2, hd0, hd1, hd2, _, _, hr2⟩ := batch_at HY.out hlt'
     have hst := hid (drop_eq_step x y k hlt hlt')
     subst hA hA'
     have T0 := fun s : Later wr => s.cell t0
     have T1 := fun s : Later wr => s.cell t1
     have X0 := fun s : Later wr => s.cell ((hb.cell (p := ⟨b, o + k * 3, none⟩) hbb).trans hc0)
     have X1 := fun s : Later wr => s.cell ((hb.cell (p := ⟨b, o + k * 3 + 1, none⟩) hbb).trans hc1)
     have X2 := fun s : Later wr => s.cell ((hb.cell (p := ⟨b, o + k * 3 + 2, none⟩) hbb).trans hc2)
     have Y0 := fun s : Later wr => s.cell ((hb.cell (p := ⟨b', o' + k * 3, none⟩) hbb').trans hd0)
     have Y1 := fun s : Later wr => s.cell ((hb.cell (p := ⟨b', o' + k * 3 + 1, none⟩) hbb').trans hd1)
     have Y2 := fun s : Later wr => s.cell ((hb.cell (p := ⟨b', o' + k * 3 + 2, none⟩) hbb').trans hd2)
     clear hc0 hc1 hc2 hd0 hd1 hd2
     generalize hlk : x[k] = u at *
     generalize hlm : y[k] = v at *
     clear hlk hlm
     have hs1 := hid (lift hr1 hb)
     have hs2 := hid (lift hr2 hb)
     clear hr1 hr2
     have hO := fun s : Later wr => ref25_same u v a1 a2 _ c1 _ c2 s.at_ (lift hs1.out s.below) (lift hs2.out s.below)
     have i0 : (0 : Int) ≤ (k : Int) := by omega
     have i1 : (k : Int) < (x.length : Int) := by omega
     have i2 : (k : Int) < (y.length : Int) := by omega
     by_cases huv : u = v
     ·rw [decide_eq_true huv] at hO
      have HO := hid hO; clear hO
      have hst' : Hid (decide (x.drop k = y.drop k) = decide (x.drop (k + 1) = y.drop (k + 1))) := hid (by rw [hst.out]; simp [huv])
      clear huv
      go_wp2_with fail
      refine wp_region_later (by kernel_rfl) (by kernel_rfl) ?_
      repeat (go_big_quiet_step (((go_at_call 26; exact later_of (HO.out _)))))
      refine wpQuiet_nil ?_
      rintro W5 ⟨⟨W5', hb5⟩, rfl⟩
      go_wp2
      go_roundw
      case rel => exact ⟨k + 1, by omega, by go_num, hid (by rw [hf.out, hst'.out]), below_then hb5 hb7⟩
      case measure => simp [intOf]; omega
     ·rw [decide_eq_false huv] at hO
      have HO := hid hO; clear hO
      have hff : Hid (decide ((⟨ex, x⟩ : Seg) = ⟨ey, y⟩) = false) := hid (by rw [hf.out, hst.out]; simp [huv])
      clear huv
      go_wp2_with fail
      refine wp_region_later (by kernel_rfl) (by kernel_rfl) ?_
      repeat (go_big_quiet_step (((go_at_call 26; exact later_of (HO.out _)))))
      refine wpQuiet_nil ?_
      rintro W5 ⟨⟨W5', hb5⟩, rfl⟩
      go_wp2
      go_ret
      exact ⟨by rw [hff.out]; rfl, below_then hb5 hb⟩
    ·obtain rfl : k = x.length := by omega
     have hff : Hid (decide ((⟨ex, x⟩ : Seg) = ⟨ey, y⟩) = true) := hid (by rw [hf.out, List.drop_length, List.drop_of_length_le (by rw [HL.out]; exact Nat.le_refl _)]; rfl)
     go_wp2
     go_ret
     exact ⟨by rw [hff.out]; rfl, hb⟩
  ·have hff : Hid (decide ((⟨ex, x⟩ : Seg) = ⟨ey, y⟩) = false) := hid (by simp; rintro _ rfl; exact hl rfl)
   have e1 : ((x.length : Int) != (y.length : Int)) = true := by simp; omega
   clear hl hx hy he
   go_enter Tryz.func43, Tryz.ntmps43
   go_wp2
   go_ret
   exact ⟨by rw [hff.out]; rfl, by (repeat first | exact zR | assumption | apply zA | apply zS | apply zD | apply zN | refine zT (by assumption) ?_ | omega | simp <;> omega)⟩
 ·have hff : Hid (decide ((⟨ex, x⟩ : Seg) = ⟨ey, y⟩) = false) := hid (by simp [he])
  have d0 : (ex != ey) = true := by simp [he]
  clear he hx hy
  go_enter Tryz.func43, Tryz.ntmps43
  go_wp2
  go_ret
  exact ⟨by rw [hff.out]; rfl, by (repeat first | exact zR | assumption | apply zA | apply zS | apply zD | apply zN | refine zT (by assumption) ?_ | omega | simp <;> omega)⟩
end Go.Proofs.YtkipiefcnjfdjaaGreat
namespace Go.Bs
open Go.RowKit
set_option linter.unusedVariables false
set_option linter.unusedSimpArgs false
section
variable {w w' : World} {α : Type}
def OwnElsAt (lo : Nat) (A : Rp α) (base : Nat) (e : TypeId) (sz : Nat) (w : World) (v : Value) (xs : List α) (cells : List (List Value)) : Prop :=
 w.ownsRow base e sz v xs.length cells.flatten ∧ cells.length = xs.length ∧ (∀ c ∈ cells, c.length = sz) ∧
  ∀ (i : Nat) cs x, cells[i]? = some cs → xs[i]? = some x → A.r (fun b => lo ≤ b ∧ b < w.heap.size ∧ v.ownBlock ≠ some b) w cs x
def OwnEls (lo : Nat) (A : Rp α) (base : Nat) (e : TypeId) (sz : Nat) (w : World) (v : Value) (xs : List α) : Prop := ∃ cells, OwnElsAt lo A base e sz w v xs cells
theorem flatten_at (sz : Nat) : ∀ (l : List (List Value)), (∀ c ∈ l, c.length = sz) → ∀ (i j : Nat) cs v, l[i]? = some cs → cs[j]? = some v → l.flatten[i * sz + j]? = some v
 | [], _, i, j, cs, v, h, _ => by simp at h
 | c :: l, hl, i, j, cs, v, h, hj => by
  have hc := hl c (List.mem_cons_self ..)
  rw [List.flatten_cons]
  cases i with
  | zero =>
   simp at h
   subst h
   have := (List.getElem?_eq_some_iff.1 hj).1
   rw [Nat.zero_mul, Nat.zero_add, List.getElem?_append_left (by omega)]
   exact hj
  | succ i =>
   simp at h
   rw [List.getElem?_append_right (by rw [hc, Nat.succ_mul]; omega), hc, show (i + 1) * sz + j - sz = i * sz + j by rw [Nat.succ_mul]; omega]
   exact flatten_at sz l (fun c h => hl c (List.mem_cons_of_mem _ h)) i j cs v h hj
theorem OwnEls.nil {lo : Nat} {A : Rp α} {base : Nat} {e : TypeId} {sz : Nat} : OwnEls lo A base e sz w (.slice none 0 0) [] :=
 ⟨[], ⟨by simp, .inl ⟨rfl, rfl⟩⟩, rfl, (by simp), fun i cs x h => by simp at h⟩
theorem OwnEls.slice {lo : Nat} {A : Rp α} {base : Nat} {e : TypeId} {sz : Nat} {v : Value} {xs : List α} (hlo : lo ≤ base) (h : OwnEls lo A base e sz w v xs) : (rSl sz A).r (fun b => lo ≤ b ∧ b < w.heap.size) w [v] xs := by
 obtain ⟨cells, hown, hlen, hsz, hA⟩ := h
 rcases hown.2 with ⟨rfl, h0⟩ | ⟨g, cap, cur, rfl, hbg, hg, hn, hc, hcur, hx⟩
 ·have : xs = [] := List.eq_nil_of_length_eq_zero h0
  subst this
  exact rSl_mk rfl (Nat.le_refl _) (Nat.zero_le _) (.inl rfl)
 ·refine rSl_mk rfl hn hc (.inr ⟨g, 0, rfl, ⟨Nat.le_trans hlo hbg, (Array.getElem?_eq_some_iff.1 hg).1⟩, fun i x hi => ?_⟩)
  have hi' : i < xs.length := (List.getElem?_eq_some_iff.1 hi).1
  have hic : i < cells.length := by omega
  have hcs : cells[i]? = some cells[i] := List.getElem?_eq_getElem hic
  refine ⟨cells[i], hsz _ (List.getElem_mem hic), fun j v hj => ?_, A.mono (hA i _ x hcs hi) fun b h => ⟨h.1, h.2.1⟩⟩
  have hj' : j < sz := by have := (List.getElem?_eq_some_iff.1 hj).1; rw [hsz _ (List.getElem_mem hic)] at this; exact this
  have hf := flatten_at sz cells hsz i j _ v hcs hj
  rw [Nat.zero_add, show (⟨g, i * sz + j, none⟩ : Addr) = ⟨g, i * sz + j, none⟩ from rfl, Blk.cell hg (i * sz + j)]
  have hb : i * sz + j < xs.length * sz := by
   have := Nat.mul_le_mul_right sz (show i + 1 ≤ xs.length from hi')
   rw [Nat.succ_mul] at this
   omega
  have e1 : cur[i * sz + j]? = (cur.toList.take (xs.length * sz))[i * sz + j]? := by
   rw [List.getElem?_take, if_pos hb]; simp
  rw [e1, hx]; exact hf
def rSlW {α : Type} (sz : Nat) (A : Rp α) : Rp (List α) :=
  ⟨fun S w cs xs => ∃ a c, cs = [.slice a xs.length c] ∧ xs.length ≤ c ∧ c ≤ maxLen ∧ (xs = [] ∨ ∃ b off, a = some ⟨b, off, none⟩ ∧ S b ∧ ∀ (i : Nat) x, xs[i]? = some x → ∃ cs : List Value, cs.length = sz ∧
      (∀ (j : Nat) v, cs[j]? = some v → w.cell? ⟨b, off + i * sz + j, none⟩ = some v ∧ w.frozen? ⟨b, off + i * sz + j, none⟩ = false) ∧ A.r (fun q => S q ∧ q ≠ b) w cs x),
   fun ⟨a, c, h, h1, h2, h3⟩ hk => ⟨a, c, h, h1, h2, h3.imp id fun ⟨b, off, e, hb, hr⟩ => ⟨b, off, e, hb, fun i x hi =>
     let ⟨cs, hl, hc, hA⟩ := hr i x hi
     ⟨cs, hl, fun j v hj => ⟨(World.cell?_of_block (a := ⟨b, off + i * sz + j, none⟩) (hk b hb)).trans (hc j v hj).1, (World.frozen?_of_block (a := ⟨b, off + i * sz + j, none⟩) (hk b hb)).trans (hc j v hj).2⟩, A.keep hA fun q hq => hk q hq.1⟩⟩⟩,
   fun ⟨a, c, h, h1, h2, h3⟩ hk => ⟨a, c, h, h1, h2, h3.imp id fun ⟨b, off, e, hb, hr⟩ => ⟨b, off, e, hk b hb, fun i x hi =>
     let ⟨cs, hl, hc, hA⟩ := hr i x hi
     ⟨cs, hl, hc, A.mono hA fun q hq => ⟨hk q hq.1, hq.2⟩⟩⟩⟩⟩
theorem slW_sl {sz : Nat} {A : Rp α} {S : Nat → Prop} {cs : List Value} {xs : List α} (h : (rSlW sz A).r S w cs xs) : (rSl sz A).r S w cs xs := by
 obtain ⟨a, c, h1, h2, h3, h4⟩ := h
 refine ⟨a, c, h1, h2, h3, h4.imp id fun ⟨b, off, e, hb, hr⟩ => ⟨b, off, e, hb, fun i x hi => ?_⟩⟩
 obtain ⟨cs, h5, h6, h7⟩ := hr i x hi
 exact ⟨cs, h5, fun j v hj => (h6 j v hj).1, A.mono h7 fun q hq => hq.1⟩
theorem rSl_imp {sz : Nat} {A A' : Rp α} {S : Nat → Prop} {cs : List Value} {xs : List α} (hA : ∀ S cs x, A.r S w cs x → A'.r S w cs x) (h : (rSl sz A).r S w cs xs) : (rSl sz A').r S w cs xs := by
 obtain ⟨a, c, h1, h2, h3, h4⟩ := h
 refine ⟨a, c, h1, h2, h3, h4.imp id fun ⟨b, off, e, hb, hr⟩ => ⟨b, off, e, hb, fun i x hi => ?_⟩⟩
 obtain ⟨cs, h5, h6, h7⟩ := hr i x hi
 exact ⟨cs, h5, h6, hA _ _ _ h7⟩
def rLinksW : Rp (List Link) := rSlW 2 rLink
def rEntryW : Rp Entry := rBy (fun e => (e.links, e.data)) (rPair rLinksW rBytes)
def rEntriesW : Rp (List Entry) := rSlW 2 rEntryW
theorem linksW_links {S : Nat → Prop} {cs : List Value} {x : List Link} (h : rLinksW.r S w cs x) : rLinks.r S w cs x := slW_sl h
theorem entryW_entry {S : Nat → Prop} {cs : List Value} {x : Entry} (h : rEntryW.r S w cs x) : rEntry.r S w cs x :=
 let ⟨c, d, e, h1, h2⟩ := h
 ⟨c, d, e, linksW_links h1, h2⟩
theorem entriesW_entries {S : Nat → Prop} {cs : List Value} {x : List Entry} (h : rEntriesW.r S w cs x) : rEntries.r S w cs x := rSl_imp (fun _ _ _ => entryW_entry) (slW_sl h)
theorem entryW_mk {S : Nat → Prop} {x : Entry} {v v' : Value} (h1 : rLinksW.r S w [v] x.links) (h2 : rBytes.r S w [v'] x.data) : rEntryW.r S w [v, v'] x := ⟨[_], [_], rfl, h1, h2⟩
theorem OwnEls.sliceW {lo : Nat} {A : Rp α} {base : Nat} {e : TypeId} {sz : Nat} {v : Value} {xs : List α} (hlo : lo ≤ base) (h : OwnEls lo A base e sz w v xs) : (rSlW sz A).r (fun b => lo ≤ b ∧ b < w.heap.size) w [v] xs := by
 obtain ⟨cells, hown, hlen, hsz, hA⟩ := h
 rcases hown.2 with ⟨rfl, h0⟩ | ⟨g, cap, cur, rfl, hbg, hg, hn, hc, hcur, hx⟩
 ·have : xs = [] := List.eq_nil_of_length_eq_zero h0
  subst this
  exact ⟨none, 0, rfl, Nat.le_refl _, Nat.zero_le _, .inl rfl⟩
 ·refine ⟨_, cap, rfl, hn, hc, .inr ⟨g, 0, rfl, ⟨Nat.le_trans hlo hbg, (Array.getElem?_eq_some_iff.1 hg).1⟩, fun i x hi => ?_⟩⟩
  have hi' : i < xs.length := (List.getElem?_eq_some_iff.1 hi).1
  have hic : i < cells.length := by omega
  have hcs : cells[i]? = some cells[i] := List.getElem?_eq_getElem hic
  refine ⟨cells[i], hsz _ (List.getElem_mem hic), fun j v hj => ⟨?_, Blk.free hg _⟩, A.mono (hA i _ x hcs hi) fun b h => ⟨⟨h.1, h.2.1⟩, fun e => h.2.2 (by rw [e]; rfl)⟩⟩
  have hj' : j < sz := by have := (List.getElem?_eq_some_iff.1 hj).1; rw [hsz _ (List.getElem_mem hic)] at this; exact this
  have hf := flatten_at sz cells hsz i j _ v hcs hj
  rw [Nat.zero_add, show (⟨g, i * sz + j, none⟩ : Addr) = ⟨g, i * sz + j, none⟩ from rfl, Blk.cell hg (i * sz + j)]
  have hb : i * sz + j < xs.length * sz := by
   have := Nat.mul_le_mul_right sz (show i + 1 ≤ xs.length from hi')
   rw [Nat.succ_mul] at this
   omega
  have e1 : cur[i * sz + j]? = (cur.toList.take (xs.length * sz))[i * sz + j]? := by
   rw [List.getElem?_take, if_pos hb]; simp
  rw [e1, hx]; exact hf
theorem OwnElsAt.push {lo : Nat} {A : Rp α} {base : Nat} {e : TypeId} {sz : Nat} {v v' : Value} {xs : List α} {news : List Value} {x : α} {cells : List (List Value)} (h : OwnElsAt lo A base e sz w v xs cells)
  (hn : news.length = sz) (hx : A.r (fun b => lo ≤ b ∧ b < w.heap.size ∧ v.ownBlock ≠ some b) w news x)
  (hown : w'.ownsRow base e sz v' (xs.length + 1) (cells.flatten ++ news)) (hg : w.grownBy w' v.ownBlock) (hat : v'.ownBlock = v.ownBlock ∨ v'.ownBlock = some w.heap.size) (hsz' : w.heap.size ≤ w'.heap.size) : OwnElsAt lo A base e sz w' v' (xs ++ [x]) (cells ++ [news]) := by
 obtain ⟨ho, hlen, hsz, hA⟩ := h
 have lift : ∀ cs y, A.r (fun b => lo ≤ b ∧ b < w.heap.size ∧ v.ownBlock ≠ some b) w cs y → A.r (fun b => lo ≤ b ∧ b < w'.heap.size ∧ v'.ownBlock ≠ some b) w' cs y := fun cs y hr =>
  A.mono (A.keep hr fun b hb => hg.block b hb.2.1 (fun e => hb.2.2 e.symm)) fun b hb => ⟨hb.1, Nat.lt_of_lt_of_le hb.2.1 hsz', fun e => by
   rcases hat with h | h
   ·exact hb.2.2 (h ▸ e)
   ·rw [h] at e; have := Option.some.inj e; have := hb.2.1; omega⟩
 refine ⟨?_, by simp [hlen], ?_, ?_⟩
 ·rw [List.flatten_append, List.length_append]
  simpa using hown
 ·intro c hc
  rcases List.mem_append.1 hc with h | h
  ·exact hsz c h
  ·simp at h; subst h; exact hn
 ·intro i cs y hi hy
  by_cases hlt : i < xs.length
  ·rw [List.getElem?_append_left (by omega)] at hi
   rw [List.getElem?_append_left hlt] at hy
   exact lift _ _ (hA i cs y hi hy)
  ·have hii : i = xs.length := by
    have := (List.getElem?_eq_some_iff.1 hy).1
    simp at this
    omega
   subst hii
   rw [List.getElem?_append_right (by omega)] at hi
   rw [List.getElem?_append_right (Nat.le_refl _)] at hy
   simp [hlen] at hi
   simp at hy
   subst hi hy
   exact lift _ _ hx
theorem OwnEls.push {lo : Nat} {A : Rp α} {base : Nat} {e : TypeId} {sz : Nat} {v v' : Value} {xs : List α} {news : List Value} {x : α} {cells : List (List Value)} (h : OwnElsAt lo A base e sz w v xs cells)
  (hn : news.length = sz) (hx : A.r (fun b => lo ≤ b ∧ b < w.heap.size ∧ v.ownBlock ≠ some b) w news x)
  (hown : w'.ownsRow base e sz v' (xs.length + 1) (cells.flatten ++ news)) (hg : w.grownBy w' v.ownBlock) (hat : v'.ownBlock = v.ownBlock ∨ v'.ownBlock = some w.heap.size) (hsz' : w.heap.size ≤ w'.heap.size) : OwnEls lo A base e sz w' v' (xs ++ [x]) :=
 ⟨_, OwnElsAt.push h hn hx hown hg hat hsz'⟩
theorem OwnEls.below {lo : Nat} {A : Rp α} {base : Nat} {e : TypeId} {sz : Nat} {v : Value} {xs : List α} (h : OwnEls lo A base e sz w v xs) (hb : Below w.heap.size w w') : OwnEls lo A base e sz w' v xs := by
 obtain ⟨cells, ho, hlen, hsz, hA⟩ := h
 refine ⟨cells, ⟨ho.1, ?_⟩, hlen, hsz, fun i cs x hi hx => A.mono (A.keep (hA i cs x hi hx) fun b h => hb.block b h.2.1) fun b h => ⟨h.1, Nat.lt_of_lt_of_le h.2.1 hb.size, h.2.2⟩⟩
 rcases ho.2 with h0 | ⟨g, cap, cur, h1, h2, h3, h4⟩
 ·exact .inl h0
 ·exact .inr ⟨g, cap, cur, h1, h2, by rw [hb.block g (Array.getElem?_eq_some_iff.1 h3).1]; exact h3, h4⟩
theorem OwnElsAt.below {lo : Nat} {A : Rp α} {base : Nat} {e : TypeId} {sz : Nat} {v : Value} {xs : List α} {cells : List (List Value)} (h : OwnElsAt lo A base e sz w v xs cells) (hb : Below w.heap.size w w') : OwnElsAt lo A base e sz w' v xs cells := by
 obtain ⟨ho, hlen, hsz, hA⟩ := h
 refine ⟨⟨ho.1, ?_⟩, hlen, hsz, fun i cs x hi hx => A.mono (A.keep (hA i cs x hi hx) fun b h => hb.block b h.2.1) fun b h => ⟨h.1, Nat.lt_of_lt_of_le h.2.1 hb.size, h.2.2⟩⟩
 rcases ho.2 with h0 | ⟨g, cap, cur, h1, h2, h3, h4⟩
 ·exact .inl h0
 ·exact .inr ⟨g, cap, cur, h1, h2, by rw [hb.block g (Array.getElem?_eq_some_iff.1 h3).1]; exact h3, h4⟩
theorem own_empty {base : Nat} {e : TypeId} {size : Nat} (W : World) (hb : base ≤ W.heap.size) {g : Nat} (hg : g = W.heap.size) : (W.alloc (.cells #[] e)).ownsRow base e size (.slice (some ⟨g, 0, none⟩) 0 0) 0 [] := by
 subst hg
 exact ⟨by simp, .inr ⟨_, 0, #[], rfl, hb, (MapKept.heap_alloc W _).1, Nat.le_refl _, Nat.zero_le _, by simp, by simp⟩⟩
theorem own_form {base : Nat} {e : TypeId} {size : Nat} {v : Value} {n : Nat} {xs : List Value} (h : w.ownsRow base e size v n xs) : ∃ a c, v = .slice a n c := by
 rcases h.2 with ⟨rfl, rfl⟩ | ⟨g, cap, cur, rfl, _⟩
 ·exact ⟨_, _, rfl⟩
 ·exact ⟨_, _, rfl⟩
theorem own_one {base : Nat} {e : TypeId} {v : Value} {A : Rp α} (f : α → Value) {l : List α} {n : Nat} (hf : ∀ (S : Nat → Prop) x, x ∈ l → A.r S w [f x] x) (hn : n = l.length) (h : w.ownsRow base e 1 v n (l.map f)) : (rSl 1 A).r (fun b => base ≤ b ∧ b < w.heap.size) w [v] l := by
 subst hn
 rcases h.2 with ⟨rfl, h0⟩ | ⟨g, cap, cur, rfl, hbg, hg, hn, hc, hcur, hx⟩
 ·have : l = [] := List.eq_nil_of_length_eq_zero h0
  subst this
  exact rSl_mk rfl (Nat.le_refl _) (Nat.zero_le _) (.inl rfl)
 ·refine rSl_mk rfl hn hc (.inr ⟨g, 0, rfl, ⟨hbg, Blk.lt hg⟩, fun i x hi => ⟨[f x], rfl, fun j v hj => ?_, hf _ x (List.mem_of_getElem? hi)⟩⟩)
  have hj0 : j = 0 := by
   rcases j with _ | j
   ·rfl
   ·simp at hj
  subst hj0
  simp at hj
  subst hj
  have hi' : i < l.length := (List.getElem?_eq_some_iff.1 hi).1
  rw [Nat.zero_add, Nat.mul_one, Nat.add_zero, Blk.cell hg i]
  have e1 : cur[i]? = (cur.toList.take (l.length * 1))[i]? := by
   rw [List.getElem?_take, if_pos (by omega)]; simp
  rw [e1, hx, List.getElem?_map, hi]; rfl
theorem src_one {S : Nat → Prop} {a : Option Addr} {n c : Nat} {A : Rp α} (f : α → Value) {l : List α} (hf : ∀ (S : Nat → Prop) cs x, A.r S w cs x → cs = [f x]) (h : (rSl 1 A).r S w [.slice a n c] l) : Src w a l.length 1 (l.map f) := by
 refine ⟨by simp, ?_⟩
 rcases Nat.eq_zero_or_pos l.length with h0 | h0
 ·exact .inl h0
 ·right
  obtain ⟨b, o, e, _⟩ := sl_at h (i := 0) h0
  refine ⟨b, o, e, fun j u hu => ?_⟩
  have hj : j < l.length := by
   have := (List.getElem?_eq_some_iff.1 hu).1
   simpa using this
  obtain ⟨b', o', e', _, cs, _, hc, hA⟩ := sl_at h hj
  rw [e] at e'
  simp at e'
  obtain ⟨rfl, rfl⟩ := e'
  have hcs := hf _ _ _ hA
  subst hcs
  have := hc 0 _ rfl
  rw [Nat.mul_one, Nat.add_zero] at this
  simp only [List.getElem?_map, List.getElem?_eq_getElem hj, Option.map_some, Option.some.injEq] at hu
  rw [← hu]; exact this
def u64Cells (l : List Int) : List Value := l.map fun n => .int .u64 n
theorem u64Cells_one (l : List Int) : ∀ u ∈ u64Cells l, u.oneCell' = true := by
 intro u hu
 obtain ⟨b, _, rfl⟩ := List.mem_map.1 hu
 rfl
theorem src_u64s {S : Nat → Prop} {a : Option Addr} {n c : Nat} {l : List Int} (h : rU64s.r S w [.slice a n c] l) : Src w a l.length 1 (u64Cells l) := src_one (A := rInt .u64) (fun n => .int .u64 n) (fun _ _ _ h => h.1) h
theorem own_ints64 {base : Nat} {e : TypeId} {v : Value} {l : List Int} {n : Nat} (hw : ∀ x ∈ l, 0 ≤ x ∧ x ≤ 18446744073709551615) (hn : n = l.length) (h : w.ownsRow base e 1 v n (u64Cells l)) : rU64s.r (fun b => base ≤ b ∧ b < w.heap.size) w [v] l :=
 own_one _ (fun _ x hx => ⟨rfl, u64_wf (hw x hx)⟩) hn h
theorem own_bytes2 {base : Nat} {e : TypeId} {v : Value} {l : List UInt8} {n : Nat} (hn : n = l.length) (h : w.ownsRow base e 1 v n (byteCells l)) : rBytes.r (fun b => base ≤ b ∧ b < w.heap.size) w [v] l :=
 own_one _ (fun _ x _ => rfl) hn h
theorem own_below {base : Nat} {e : TypeId} {size : Nat} {v : Value} {n : Nat} {xs : List Value} (h : w.ownsRow base e size v n xs) (hb : Below w.heap.size w w') : w'.ownsRow base e size v n xs := by
 refine ⟨h.1, ?_⟩
 rcases h.2 with h0 | ⟨g, cap, cur, h1, h2, h3, h4⟩
 ·exact .inl h0
 ·exact .inr ⟨g, cap, cur, h1, h2, by rw [hb.block g (Array.getElem?_eq_some_iff.1 h3).1]; exact h3, h4⟩
theorem step_append_src {P : Program} {ops : Array Oper} {o : Oper} {a : Act} {K : Act → World → Prop} {Q : Exit → Act → World → Prop} {E : Prop} (hgd : o.guard = none) (s x : Operand) (t : TypeId)
  (ho : o.op = .call { callee := .builtin .append, args := #[s, x], argTypes := #[t, t] })
  (base : Nat) (e : TypeId) (i : TypeInfo) (z : Value) (size bytes : Nat) (ht : P.underlying t = some (.slice e)) (hi : P.info? e = some i) (hz : i.zero = some z)
  (hsize : i.size = size) (hby : i.bytes = bytes) (hzs : z.cells.size = size) (hsz : 0 < size)
  (v : Value) (n : Nat) (xs : List Value) (hs : a.eval s = v) (hown : w.ownsRow base e size v n xs)
  (A : Option Addr) (m c : Nat) (news : List Value) (hx : a.eval x = .slice A m c) (hsrc : Src w A m size news) (h1 : ∀ u ∈ news, u.oneCell' = true)
  (h63 : n + m ≤ maxLen) (hbytes : (n + m) * bytes ≤ 140737488355328) (hbase : base ≤ w.heap.size)
  (h : ∀ a' c' w', w'.ownsRow base e size (.slice a' (n + m) c') (n + m) (xs ++ news) → w.grownBy w' v.ownBlock → ((Value.slice a' (n + m) c').ownBlock = v.ownBlock ∨ (Value.slice a' (n + m) c').ownBlock = some w.heap.size) → K (a.put o.dst (.slice a' (n + m) c')) w') :
  if Region.wanted o (yielded ops a.tmps) = true then Oper.wp P o a w K Q else E := by
 have hw : Region.wanted o (yielded ops a.tmps) = true := by simp [Region.wanted, hgd]
 rw [if_pos hw]
 obtain ⟨v', w', hrun, h2, h3, h4⟩ := run_append_src (P := P) base t o.type e i z size bytes ht hi hz hsize hby hzs hsz v n xs hown A m c news hsrc h1 h63 hbytes hbase
 obtain ⟨a', c', rfl⟩ := own_form h2
 unfold Oper.wp execOp
 simp only [ho, resolve, invoke, builtin, Sem.run_bind, Sem.run_pure, Result.andThen_ok, List.map_toArray, List.map_cons, List.map_nil, hs, hx, hrun]
 exact h a' c' w' h2 h3 h4
end
end Go.Bs
namespace Go.Proofs.YtkipiefcnjfdjaaGreat
open Go.RowKit Go.Bs
set_option linter.unusedVariables false
set_option linter.unusedSimpArgs false
theorem info64 : (Tryz.prog.info? 22).map (fun i => (i.zero, i.size, i.bytes)) = some (some (.int .u64 0), 1, 8) := by kernel_rfl
def Fresh (w w' : World) (b : Nat) : Prop := w.heap.size ≤ b ∧ b < w'.heap.size
theorem u64s_bounds {S : Nat → Prop} {w : World} {a : Option Addr} {n c : Nat} {l : List Int} (h : rU64s.r S w [.slice a n c] l) : ∀ x ∈ l, 0 ≤ x ∧ x ≤ 18446744073709551615 := by
 intro x hx
 obtain ⟨i, hi, rfl⟩ := List.getElem_of_mem hx
 obtain ⟨b, o, _, _, _, h2⟩ := u64_at h hi
 exact h2
set_option maxHeartbeats 800000 in
theorem link_copied (x : Link) (a : Option Addr) (n c : Nat) (w : World) (hl : rU64s.r (· < w.heap.size) w [.slice a n c] x.backs) (hlen : x.backs.length ≤ 1000000000000) :
  Calls Tryz.prog 204 #[.agg #[.int .u64 x.stream, .slice a n c]] w fun r w' => ∃ v, r = .returned (.agg #[.int .u64 x.stream, v]) ∧ rU64s.r (Fresh w w') w' [v] x.backs ∧ Below w.heap.size w w' := by
 obtain ⟨rfl, hm, _, _⟩ := sl_len hl
 obtain ⟨i0, hi, hz0, hz1, hz2⟩ := info_parts info64
 have hw := hid (u64s_bounds hl)
 have HL := hid hl; clear hl
 have hone := u64Cells_one x.backs
 have HONE := hid hone; clear hone
 go_enter Tryz.func204, Tryz.ntmps204
 have hfree : ∀ (W : World), W.heap.size = w.heap.size + 1 + 1 → (W.alloc (.cells #[] 22)).ownsRow (w.heap.size + 1 + 1) 22 1 (.slice (some ⟨w.heap.size + 1 + 1, 0, none⟩) 0 0) 0 [] := fun W h => own_empty W (by omega) h.symm
 have HF := hid hfree; clear hfree
 have hbel : ∀ W : World, Below w.heap.size w W → Src W a x.backs.length 1 (u64Cells x.backs) := fun W h => src_u64s (lift HL.out h)
 have HB := hid hbel; clear hbel
 go_wp2_with (at_builtin; go_loud (refine wpList_append_src rfl _ _ _ rfl (w.heap.size + 1 + 1) 22 i0 (.int .u64 0) 1 8 Tryz.underlying207 hi hz0 hz1 hz2 rfl (by decide) (.slice (some ⟨w.heap.size + 1 + 1, 0, none⟩) 0 0) 0 [] rfl (HF.out _ (by simp)) a x.backs.length c (u64Cells x.backs) rfl (HB.out _ (by (repeat first | exact zR | assumption | apply zA | apply zS | apply zD | apply zN | refine zT (by assumption) ?_ | omega | simp <;> omega))) HONE.out (by simp only [maxLen]; omega) (by omega) (by first | (simp; done) | (simp; omega)) ?_; intro v1 w1 hown1 hgrow1 hat1; rw [Nat.zero_add, List.nil_append] at hown1; obtain ⟨av, cv, hv1⟩ := own_form hown1; subst hv1; have HG := hid hgrow1; have HO := hid hown1; have HA := hid hat1; clear hown1 hgrow1 hat1; have q0 : Blk w1 w.heap.size 209 #[.int .u64 x.stream, .slice a x.backs.length c] := (((Blk.new w _ _).alloc _).alloc _).grown HG.out (by simp only [Value.ownBlock, ne_eq, Option.some.injEq]; omega); have q1 : Blk w1 (w.heap.size + 1) 209 #[.int .u64 0, .slice none 0 0] := ((Blk.new1 w _ _ _).alloc _).grown HG.out (by simp only [Value.ownBlock, ne_eq, Option.some.injEq]; omega); have c00 : w1.cell? ⟨w.heap.size, 0, none⟩ = some (.int .u64 x.stream) := q0.cell 0; have c01 : w1.cell? ⟨w.heap.size, 1, none⟩ = some (.slice a x.backs.length c) := q0.cell 1; have c10 : w1.cell? ⟨w.heap.size + 1, 0, none⟩ = some (.int .u64 0) := q1.cell 0; have c11 : w1.cell? ⟨w.heap.size + 1, 1, none⟩ = some (.slice none 0 0) := q1.cell 1; have f00 := q0.free 0; have f01 := q0.free 1; have f10 := q1.free 0; have f11 := q1.free 1; have Q0 := hid q0; have Q1 := hid q1; clear q0 q1))
 have hb1 : Below w.heap.size w w1 := Below.grown (by (repeat first | exact zR | assumption | apply zA | apply zS | apply zD | apply zN | refine zT (by assumption) ?_ | omega | simp <;> omega)) HG.out (by first | (simp; done) | (simp; omega)) (fun g e => by simp only [Value.ownBlock, Option.some.injEq] at e; omega)
 have hr1 := own_ints64 hw.out rfl HO.out
 have hz1 : w.heap.size + 1 + 1 < w1.heap.size := by have := HG.out.size; simp at this; omega
 clear HG HO HA
 refine bodyPost_ret (v := .agg #[.int .u64 x.stream, .slice av x.backs.length cv]) (by simp [results, Tryz.results204, go_sem, c00, c01, c10, c11]) rfl ⟨.slice av x.backs.length cv, rfl, ?_, by (repeat first | exact zR | assumption | apply zA | apply zS | apply zD | apply zN | refine zT (by assumption) ?_ | omega | simp <;> omega)⟩
 refine rU64s.mono (rU64s.keep hr1 fun b hb => ?_) fun b hb => ⟨by omega, by simp; omega⟩
 repeat rw [Below.heap_setCell _ _ _ _ (by dsimp only; omega)]
end Go.Proofs.YtkipiefcnjfdjaaGreat
namespace Go.Proofs.YtkipiefcnjfdjaaGreat
open Go.RowKit Go.Bs
set_option linter.unusedVariables false
set_option linter.unusedSimpArgs false
theorem infoLink : (Tryz.prog.info? 209).map (fun i => (i.zero, i.size, i.bytes)) = some (some (.agg #[.int .u64 0, .slice none 0 0]), 2, 32) := by kernel_rfl
theorem src_new1 {w : World} (W : World) (e : TypeId) (cs : List Value) (hB : w = W.alloc (.cells cs.toArray e)) {g : Nat} (hg : g = W.heap.size) {sz : Nat} (hs : cs.length = sz) : Src w (some ⟨g, 0, none⟩) 1 sz cs := by
 subst hB hg
 refine ⟨by omega, .inr ⟨_, 0, rfl, fun j u hu => ?_⟩⟩
 rw [Nat.zero_add, Blk.cell (Blk.new W e cs.toArray)]
 simpa using hu
set_option maxHeartbeats 800000 in
theorem link_copyW (l : List Link) (a : Option Addr) (n c : Nat) (w : World) (hl : rLinks.r (· < w.heap.size) w [.slice a n c] l) (hlen : l.length ≤ 1000000000000) (hb : ∀ x ∈ l, x.backs.length ≤ 1000000000000) :
  Calls Tryz.prog 143 #[.slice a n c] w fun r w' => ∃ v, r = .returned v ∧ rLinksW.r (Fresh w w') w' [v] l ∧ Below w.heap.size w w' := by
 obtain ⟨rfl, hm, _, _⟩ := sl_len hl
 obtain ⟨i0, hi, hz0, hz1, hz2⟩ := info_parts infoLink
 have HL := hid hl; clear hl
 have HB := hid hb; clear hb
 go_enter Tryz.func143, Tryz.ntmps143
 go_wp2
 go_loopw [3, 8] (fun v i wr => ∃ k : Nat, k ≤ l.length ∧ i = .int .i64 k ∧ OwnEls w.heap.size rLink w.heap.size 209 2 wr v (l.take k) ∧ Below w.heap.size w wr) (fun _ i _ => l.length - (intOf i).toNat)
 case atStart => exact ⟨0, Nat.zero_le _, rfl, OwnEls.nil, Below.refl _ _⟩
 case round =>
  obtain ⟨k, hk, rfl, hown, hb⟩ := hrel
  by_cases hlt : k < l.length
  ·obtain ⟨b, o, hA, hbb, a1, c1, hc0, hc1, hst, hd⟩ := link_at HL.out hlt
   subst hA
   have X0 := (hb.cell (p := ⟨b, o + k * 2, none⟩) hbb).trans hc0
   have X1 := (hb.cell (p := ⟨b, o + k * 2 + 1, none⟩) hbb).trans hc1
   clear hc0 hc1
   have htk := hid (List.take_succ_eq_append_getElem hlt)
   have hbk := HB.out _ (List.getElem_mem hlt)
   have R := hid (lift hd hb)
   clear hd
   generalize l[k] = z at *
   have htl : (l.take k).length = k := by simp; omega
   generalize hT : l.take k = T at *
   clear hT
   subst htl
   have OW := hid hown; clear hown
   have i1 : (T.length : Int) < (l.length : Int) := by omega
   go_wp2_with fail
   refine (link_copied z _ _ _ _ (lift R.out (by (repeat first | exact zR | assumption | apply zA | apply zS | apply zD | apply zN | refine zT (by assumption) ?_ | omega | simp <;> omega))) hbk).mono ?_
   rintro e w4 ⟨v4, rfl, hr4, hb4⟩
   obtain ⟨a4, c4, hv4, _, _⟩ := sl_form hr4
   simp only [List.cons.injEq, and_true] at hv4
   subst hv4
   have hbw4 : Below wr.heap.size wr w4 := by (repeat first | exact zR | assumption | apply zA | apply zS | apply zD | apply zN | refine zT (by assumption) ?_ | omega | simp <;> omega)
   have hz4 : wr.heap.size + 1 ≤ w4.heap.size := by have := hb4.size; simpa using this
   have O4 := OW.out.below hbw4
   have HR4 := hid (rU64s.mono hr4 (S' := fun b => wr.heap.size + 1 ≤ b ∧ b < w4.heap.size) fun b h => by simpa [Fresh] using h)
   clear hr4
   obtain ⟨cells0, OA0⟩ := OW.out
   have hlt0 : ∀ g, u3.ownBlock = some g → g < wr.heap.size := fun g e => (OA0.1.lt g e).2
   have O5 := O4.below (show Below w4.heap.size w4 (w4.alloc (.cells #[.int .u64 z.stream, .slice a4 z.backs.length c4] 209)) from by (repeat first | exact zR | assumption | apply zA | apply zS | apply zD | apply zN | refine zT (by assumption) ?_ | omega | simp <;> omega))
   obtain ⟨cells, OA⟩ := O5
   have hx : rLink.r (fun b => w.heap.size ≤ b ∧ b < (w4.alloc (.cells #[.int .u64 z.stream, .slice a4 z.backs.length c4] 209)).heap.size ∧ u3.ownBlock ≠ some b) (w4.alloc (.cells #[.int .u64 z.stream, .slice a4 z.backs.length c4] 209)) [.int .u64 z.stream, .slice a4 z.backs.length c4] z := by
    refine link_mk hst (rU64s.mono (rU64s.keep HR4.out fun b hb => Below.heap_alloc w4 _ b hb.2) fun b hb' => ⟨?_, ?_, fun e => ?_⟩)
    ·have := hb.size; omega
    ·simp; omega
    ·have := hlt0 b e; omega
   have hbs := hb.size
   have hb9 : Below w.heap.size w (w4.alloc (.cells #[.int .u64 z.stream, .slice a4 z.backs.length c4] 209)) := below_alloc (below_then hbw4 hb) _
   have hs9 : w.heap.size ≤ (w4.alloc (.cells #[.int .u64 z.stream, .slice a4 z.backs.length c4] 209)).heap.size := hb9.size
   have HX := hid hx; clear hx
   have HA := hid OA; clear OA OA0 O4 hlt0
   have HB9 := hid hb9; clear hb9
   have HS9 := hid hs9; clear hs9
   go_wp2_with (at_builtin; go_loud (refine wpList_append_src rfl _ _ _ rfl w.heap.size 209 i0 (.agg #[.int .u64 0, .slice none 0 0]) 2 32 Tryz.underlying73 hi hz0 hz1 hz2 rfl (by decide) u3 T.length _ rfl HA.out.1 (some ⟨w4.heap.size, 0, none⟩) 1 1 [.int .u64 z.stream, .slice a4 z.backs.length c4] rfl (src_new1 w4 209 _ rfl rfl rfl) (by intro u hu; simp at hu; rcases hu with rfl | rfl <;> rfl) (by simp only [maxLen]; omega) (by omega) HS9.out ?_; intro v1 w5 hown1 hgrow1 hat1; have OP := hid (OwnEls.push HA.out rfl HX.out hown1 hgrow1 hat1 hgrow1.size); have B5 := hid (HB9.out.grown hgrow1 HS9.out (fun g e => (HA.out.1.lt g e).1)); clear hown1 hgrow1 hat1))
   go_roundw
   case rel => exact ⟨T.length + 1, by omega, by go_num, by rw [htk.out]; exact OP.out, B5.out⟩
   case measure => simp [intOf]; omega
  ·obtain rfl : k = l.length := by omega
   rw [List.take_length] at hown
   have hv := OwnEls.sliceW (Nat.le_refl _) hown
   have HV := hid hv; clear hv
   go_wp2
   go_ret
   exact ⟨_, rfl, HV.out, hb⟩
end Go.Proofs.YtkipiefcnjfdjaaGreat
namespace Go.Proofs.YtkipiefcnjfdjaaGreat
open Go.RowKit Go.Bs
set_option linter.unusedVariables false
set_option linter.unusedSimpArgs false
set_option maxHeartbeats 1600000 in
theorem entry_copyW (x : Entry) (a1 a2 : Option Addr) (n1 c1 n2 c2 : Nat) (w : World) (hl : rLinks.r (· < w.heap.size) w [.slice a1 n1 c1] x.links) (hd : rBytes.r (· < w.heap.size) w [.slice a2 n2 c2] x.data)
    (hlen : x.links.length ≤ 1000000000000) (hdl : x.data.length ≤ 1000000000000) (hb : ∀ z ∈ x.links, z.backs.length ≤ 1000000000000) :
    Calls Tryz.prog 88 #[.agg #[.slice a1 n1 c1, .slice a2 n2 c2]] w fun r w' => ∃ v1 v2, r = .returned (.agg #[v1, v2]) ∧ rLinksW.r (Fresh w w') w' [v1] x.links ∧ rBytes.r (Fresh w w') w' [v2] x.data ∧ Below w.heap.size w w' := by
  obtain ⟨rfl, hm, _, _⟩ := sl_len hl
  obtain ⟨rfl, hm', _, _⟩ := sl_len hd
  obtain ⟨i0, hi, hz0, hz1, hz2⟩ := info_parts info8
  have HB := hid hb; clear hb
  have hC : ∀ W : World, Below w.heap.size w W → Calls Tryz.prog 143 #[.slice a1 x.links.length c1] W fun r w' => ∃ a c, r = .returned (.slice a x.links.length c) ∧ rLinksW.r (Fresh W w') w' [.slice a x.links.length c] x.links ∧ Below W.heap.size W w' := fun W hW =>
    (link_copyW x.links a1 _ c1 W (lift hl hW) hlen HB.out).mono fun r w' ⟨v, h1, h2, h3⟩ => by
      obtain ⟨a, c, hv, _, _⟩ := sl_form (linksW_links h2)
      simp only [List.cons.injEq, and_true] at hv
      subst hv
      exact ⟨a, c, h1, h2, h3⟩
  have HC := hid hC; clear hC
  have hS : ∀ W : World, Below w.heap.size w W → Src W a2 x.data.length 1 (byteCells x.data) := fun W hW => src_bytes (lift hd hW)
  have HS := hid hS; clear hS hl hd
  have HONE := hid (byteCells_one x.data)
  go_enter Tryz.func88, Tryz.ntmps88
  go_wp2_with fail
  refine wp_world (fun W => Below w.heap.size w W ∧ W.heap.size = w.heap.size + 2 ∧ Blk W w.heap.size 75 #[.slice a1 x.links.length c1, .slice a2 x.data.length c2] ∧ Blk W (w.heap.size + 1) 75 #[.slice none 0 0, .slice none 0 0]) ⟨by (repeat first | exact zR | assumption | apply zA | apply zS | apply zD | apply zN | refine zT (by assumption) ?_ | omega | simp <;> omega), by simp, (Blk.new w _ _).alloc _, Blk.new1 w _ _ _⟩ ?_
  intro W ⟨hbW, hzW, q0, q1⟩
  have c00 : W.cell? ⟨w.heap.size, 0, none⟩ = some (.slice a1 x.links.length c1) := q0.cell 0
  have c01 : W.cell? ⟨w.heap.size, 1, none⟩ = some (.slice a2 x.data.length c2) := q0.cell 1
  have Q0 := hid q0; have Q1 := hid q1
  clear q0 q1
  have HW := hid hzW
  have LT0 : w.heap.size < W.heap.size := by omega
  have LT1 : w.heap.size + 1 < W.heap.size := by omega
  clear hzW
  go_region_law (first
    | (go_simp; go_at_call 143; refine (HC.out _ (by (repeat first | exact zR | assumption | apply zA | apply zS | apply zD | apply zN | refine zT (by assumption) ?_ | omega | simp <;> omega))).mono ?_; rintro e w4 ⟨a4, c4, rfl, hr4, hb4⟩; have k4 : Below W.heap.size W w4 := (by (repeat first | exact zR | assumption | apply zA | apply zS | apply zD | apply zN | refine zT (by assumption) ?_ | omega | simp <;> omega)); have d0 := (k4.cell (p := ⟨w.heap.size, 0, none⟩) LT0).trans c00; have d1 := (k4.cell (p := ⟨w.heap.size, 1, none⟩) LT0).trans c01; have lt4 : w.heap.size < w4.heap.size := Nat.lt_of_lt_of_le LT0 k4.size; have lt41 : w.heap.size + 1 < w4.heap.size := Nat.lt_of_lt_of_le LT1 k4.size; have x0 := (Q1.out.below k4 LT1).free 0; have x1 := (Q1.out.below k4 LT1).free 1; have x2 := (Q1.out.below k4 LT1).cell 0; have x3 := (Q1.out.below k4 LT1).cell 1; have HR4 := hid hr4; clear hr4)
    | (go_loud (refine step_append_src (by rfl) _ _ _ (by rfl) (w.heap.size + 2) 5 i0 (.int .u8 0) 1 1 Tryz.underlying28 hi hz0 hz1 hz2 rfl (by decide) _ 0 [] (by rfl) (by first | exact own_empty _ (by first | exact LT1 | exact lt41 | (simp; omega)) (by rfl) | exact own_below (World.ownsRow.drew (own_empty _ (by first | exact LT1 | exact lt41 | (simp; omega)) (by rfl))) (by assumption)) a2 x.data.length c2 (byteCells x.data) (by rfl) (HS.out _ (by (repeat first | exact zR | assumption | apply zA | apply zS | apply zD | apply zN | refine zT (by assumption) ?_ | omega | simp <;> omega))) HONE.out (by simp only [maxLen]; omega) (by omega) (by first | exact LT1 | exact lt41 | (simp; omega)) ?_; intro a5 c5 w5 hown5 hgrow5 hat5; rw [Nat.zero_add, List.nil_append] at hown5; have k5 : Below W.heap.size W w5 := (Below.grown (by (repeat first | exact zR | assumption | apply zA | apply zS | apply zD | apply zN | refine zT (by assumption) ?_ | omega | simp <;> omega)) hgrow5 (by first | exact k4.size | exact Nat.le_succ_of_le k4.size | exact Nat.le_refl _ | exact Nat.le_succ _ | (have q4 := k4.size; simp; omega) | (simp; done)) (fun g e => by first | (have e' : some w4.heap.size = some g := e; injection e' with e'; subst e'; exact k4.size) | (have e' : some W.heap.size = some g := e; injection e' with e'; exact Nat.le_of_eq e')));  have z0 := (k5.cell (p := ⟨w.heap.size, 0, none⟩) LT0).trans c00; have y0 := (Q1.out.below k5 LT1).cell 0; have y1 := (Q1.out.below k5 LT1).cell 1; have y2 := (Q1.out.below k5 LT1).free 0; have y3 := (Q1.out.below k5 LT1).free 1; have lt5 : w.heap.size < w5.heap.size := Nat.lt_of_lt_of_le LT0 k5.size; have lt51 : w.heap.size + 1 < w5.heap.size := Nat.lt_of_lt_of_le LT1 k5.size; have HG5 := hid hgrow5; have HO5 := hid hown5; have HAT5 := hid hat5; clear hgrow5 hown5 hat5)))
  all_goals
    have hw2 := HW.out
    have hr5 := own_bytes2 rfl HO5.out
    have hr6 : rLinksW.r (fun b => w.heap.size + 2 ≤ b ∧ b < w5.heap.size) w5 [.slice a4 x.links.length c4] x.links := by
      first
        | (refine rLinksW.mono (rLinksW.keep HR4.out fun b hb => ?_) fun b hb => ?_
           · obtain ⟨p1, p2⟩ := hb
             exact HG5.out.block b p2 (fun e => by have e' : some b = some W.heap.size := e; injection e' with e'; simp at p1; omega)
           · obtain ⟨p1, p2⟩ := hb
             have := HG5.out.size
             simp at p1
             exact ⟨by omega, by omega⟩)
        | (refine rLinksW.mono (rLinksW.keep HR4.out fun b hb => ?_) fun b hb => ?_
           · obtain ⟨p1, p2⟩ := hb
             exact (HG5.out.block b (by simp; omega) (fun e => by have e' : some b = some w4.heap.size := e; injection e' with e'; omega)).trans (Below.heap_alloc w4 _ b p2)
           · obtain ⟨p1, p2⟩ := hb
             have := HG5.out.size
             simp at p1 this
             exact ⟨by omega, by omega⟩)
    clear HR4 HG5 HO5 HAT5
    have hb5 : Below w.heap.size w w5 := below_then k5 hbW
    have Y0 : w5.cell? ⟨w.heap.size + 1, 0, none⟩ = some (.slice none 0 0) := y0
    have Y1 : w5.cell? ⟨w.heap.size + 1, 1, none⟩ = some (.slice none 0 0) := y1
    go_wp2
    refine bodyPost_ret (v := .agg #[.slice a4 x.links.length c4, .slice a5 x.data.length c5]) (by simp [results, Tryz.results88, go_sem, Y0, Y1]) rfl ⟨_, _, rfl, ?_, ?_, by (repeat first | exact zR | assumption | apply zA | apply zS | apply zD | apply zN | refine zT (by assumption) ?_ | omega | simp <;> omega)⟩
    · refine rLinksW.mono (rLinksW.keep hr6 fun b hb => ?_) fun b hb => ⟨by omega, by simp; omega⟩
      repeat rw [Below.heap_setCell _ _ _ _ (by dsimp only; omega)]
    · refine rBytes.mono (rBytes.keep hr5 fun b hb => ?_) fun b hb => ⟨by omega, by simp; omega⟩
      repeat rw [Below.heap_setCell _ _ _ _ (by dsimp only; omega)]
end Go.Proofs.YtkipiefcnjfdjaaGreat
namespace Go.Proofs.YtkipiefcnjfdjaaGreat
open Go.RowKit Go.Bs
set_option linter.unusedVariables false
set_option linter.unusedSimpArgs false
theorem infoEntry : (Tryz.prog.info? 75).map (fun i => (i.zero, i.size, i.bytes)) = some (some (.agg #[.slice none 0 0, .slice none 0 0]), 2, 48) := by kernel_rfl
def Mild (x : Entry) : Prop := x.links.length ≤ 1000000000000 ∧ x.data.length ≤ 1000000000000 ∧ ∀ z ∈ x.links, z.backs.length ≤ 1000000000000
set_option maxHeartbeats 1600000 in
theorem batch_copyW (x : Batch) (a : Option Addr) (n c : Nat) (w : World) (hl : rEntries.r (· < w.heap.size) w [.slice a n c] x.entries) (hlen : x.entries.length ≤ 1000000000000) (hb : ∀ z ∈ x.entries, Mild z) :
  Calls Tryz.prog 27 #[.agg #[.int .u64 x.epoch, .int .u64 x.base, .slice a n c]] w fun r w' => ∃ v, r = .returned (.agg #[.int .u64 x.epoch, .int .u64 x.base, v]) ∧ rEntriesW.r (Fresh w w') w' [v] x.entries ∧ Below w.heap.size w w' := by
 obtain ⟨ep, ba, l⟩ := x
 dsimp only at *
 obtain ⟨rfl, hm, _, _⟩ := sl_len hl
 obtain ⟨i0, hi, hz0, hz1, hz2⟩ := info_parts infoEntry
 have HL := hid hl; clear hl
 have HB := hid hb; clear hb
 go_enter Tryz.func27, Tryz.ntmps27
 go_wp2_with fail
 refine wp_world (fun W => Below w.heap.size w W ∧ W.heap.size = w.heap.size + 2 ∧ Blk W w.heap.size 25 #[.int .u64 ep, .int .u64 ba, .slice a l.length c] ∧ Blk W (w.heap.size + 1) 25 #[.int .u64 0, .int .u64 0, .slice none 0 0]) ⟨by (repeat first | exact zR | assumption | apply zA | apply zS | apply zD | apply zN | refine zT (by assumption) ?_ | omega | simp <;> omega), by simp, (Blk.new w _ _).alloc _, Blk.new1 w _ _ _⟩ ?_
 intro W ⟨hbW, hzW, q0, q1⟩
 have LT0 : w.heap.size < W.heap.size := by omega
 have LT1 : w.heap.size + 1 < W.heap.size := by omega
 have Q0 := hid q0; have Q1 := hid q1; clear q0 q1
 have HW := hid hzW; clear hzW
 go_loopw [3, 9] (fun v i wr => ∃ k : Nat, k ≤ l.length ∧ i = .int .i64 k ∧ OwnEls W.heap.size rEntryW W.heap.size 75 2 wr v (l.take k) ∧ Below W.heap.size W wr) (fun _ i _ => l.length - (intOf i).toNat)
 case atStart => exact ⟨0, Nat.zero_le _, rfl, OwnEls.nil, Below.refl _ _⟩
 case round =>
  obtain ⟨k, hk, rfl, hown, hb⟩ := hrel
  have hbw := below_then hb hbW
  by_cases hlt : k < l.length
  ·obtain ⟨b, o, hA, hbb, a1, c1, a2, c2, hc0, hc1, hd1, hd2⟩ := entry_at HL.out hlt
   subst hA
   have X0 := (hbw.cell (p := ⟨b, o + k * 2, none⟩) hbb).trans hc0
   have X1 := (hbw.cell (p := ⟨b, o + k * 2 + 1, none⟩) hbb).trans hc1
   clear hc0 hc1
   have htk := hid (List.take_succ_eq_append_getElem hlt)
   obtain ⟨m1, m2, m3⟩ := HB.out _ (List.getElem_mem hlt)
   have R1 := hid (lift hd1 hbw)
   have R2 := hid (lift hd2 hbw)
   clear hd1 hd2
   generalize l[k] = z at *
   have M3 := hid m3; clear m3
   have htl : (l.take k).length = k := by simp; omega
   generalize hT : l.take k = T at *
   clear hT
   subst htl
   have OW := hid hown; clear hown
   have i1 : (T.length : Int) < (l.length : Int) := by omega
   go_wp2_with fail
   refine (entry_copyW z _ _ _ _ _ _ _ (lift R1.out (by (repeat first | exact zR | assumption | apply zA | apply zS | apply zD | apply zN | refine zT (by assumption) ?_ | omega | simp <;> omega))) (lift R2.out (by (repeat first | exact zR | assumption | apply zA | apply zS | apply zD | apply zN | refine zT (by assumption) ?_ | omega | simp <;> omega))) m1 m2 M3.out).mono ?_
   rintro e w4 ⟨v1, v2, rfl, hr4, hr5, hb4⟩
   have hbw4 : Below wr.heap.size wr w4 := by (repeat first | exact zR | assumption | apply zA | apply zS | apply zD | apply zN | refine zT (by assumption) ?_ | omega | simp <;> omega)
   have hz4 : wr.heap.size + 1 ≤ w4.heap.size := by have := hb4.size; simpa using this
   obtain ⟨a4, c4, hv4, _, _⟩ := sl_form (linksW_links hr4)
   obtain ⟨a5, c5, hv5, _, _⟩ := sl_form hr5
   simp only [List.cons.injEq, and_true] at hv4 hv5
   subst hv4 hv5
   have O4 := OW.out.below hbw4
   have HR4 := hid (rLinksW.mono hr4 (S' := fun b => wr.heap.size + 1 ≤ b ∧ b < w4.heap.size) fun b h => by simpa [Fresh] using h)
   have HR5 := hid (rBytes.mono hr5 (S' := fun b => wr.heap.size + 1 ≤ b ∧ b < w4.heap.size) fun b h => by simpa [Fresh] using h)
   clear hr4 hr5
   obtain ⟨cells0, OA0⟩ := OW.out
   have hlt0 : ∀ g, u3.ownBlock = some g → g < wr.heap.size := fun g e => (OA0.1.lt g e).2
   have O5 := O4.below (show Below w4.heap.size w4 (w4.alloc (.cells #[.slice a4 z.links.length c4, .slice a5 z.data.length c5] 75)) from by (repeat first | exact zR | assumption | apply zA | apply zS | apply zD | apply zN | refine zT (by assumption) ?_ | omega | simp <;> omega))
   obtain ⟨cells, OA⟩ := O5
   have hx : rEntryW.r (fun b => W.heap.size ≤ b ∧ b < ((w4.alloc (.cells #[.slice a4 z.links.length c4, .slice a5 z.data.length c5] 75))).heap.size ∧ u3.ownBlock ≠ some b) (w4.alloc (.cells #[.slice a4 z.links.length c4, .slice a5 z.data.length c5] 75)) [.slice a4 z.links.length c4, .slice a5 z.data.length c5] z := by
    have hbs := hb.size
    refine entryW_mk (rLinksW.mono (rLinksW.keep HR4.out fun b hb => Below.heap_alloc w4 _ b hb.2) fun b hb' => ⟨?_, ?_, fun e => ?_⟩) (rBytes.mono (rBytes.keep HR5.out fun b hb => Below.heap_alloc w4 _ b hb.2) fun b hb' => ⟨?_, ?_, fun e => ?_⟩)
    ·omega
    ·simp; omega
    ·have := hlt0 b e; omega
    ·omega
    ·simp; omega
    ·have := hlt0 b e; omega
   have hb9 : Below W.heap.size W (w4.alloc (.cells #[.slice a4 z.links.length c4, .slice a5 z.data.length c5] 75)) := below_alloc (below_then hbw4 hb) _
   have HX := hid hx; clear hx
   have HS9 := hid hb9.size
   have HA := hid OA; clear OA OA0 O4 hlt0
   have HB9 := hid hb9; clear hb9
   go_wp2_with (at_builtin; go_loud (refine wpList_append_src rfl _ _ _ rfl W.heap.size 75 i0 (.agg #[.slice none 0 0, .slice none 0 0]) 2 48 Tryz.underlying23 hi hz0 hz1 hz2 rfl (by decide) u3 T.length _ rfl HA.out.1 (some ⟨w4.heap.size, 0, none⟩) 1 1 [.slice a4 z.links.length c4, .slice a5 z.data.length c5] rfl (src_new1 w4 75 _ rfl rfl rfl) (by intro u hu; simp at hu; rcases hu with rfl | rfl <;> rfl) (by simp only [maxLen]; omega) (by omega) HS9.out ?_; intro v1 w5 hown1 hgrow1 hat1; have OP := hid (OwnEls.push HA.out rfl HX.out hown1 hgrow1 hat1 hgrow1.size); have B5 := hid (HB9.out.grown hgrow1 HS9.out (fun g e => (HA.out.1.lt g e).1)); clear hown1 hgrow1 hat1))
   go_roundw
   case rel => exact ⟨T.length + 1, by omega, by go_num, by rw [htk.out]; exact OP.out, B5.out⟩
   case measure => simp [intOf]; omega
  ·obtain rfl : k = l.length := by omega
   rw [List.take_length] at hown
   have hv := OwnEls.sliceW (Nat.le_refl _) hown
   obtain ⟨av, cv, hv1, _, _⟩ := sl_form (slW_sl hv)
   simp only [List.cons.injEq, and_true] at hv1
   subst hv1
   have HV := hid hv; clear hv hown
   have P0 := Q0.out.below hb LT0
   have P1 := Q1.out.below hb LT1
   have y0 : wr.cell? ⟨w.heap.size, 0, none⟩ = some (.int .u64 ep) := P0.cell 0
   have y1 : wr.cell? ⟨w.heap.size, 1, none⟩ = some (.int .u64 ba) := P0.cell 1
   have y2 : wr.cell? ⟨w.heap.size, 2, none⟩ = some (.slice a l.length c) := P0.cell 2
   have y3 := P0.free 2
   have z0 : wr.cell? ⟨w.heap.size + 1, 0, none⟩ = some (.int .u64 0) := P1.cell 0
   have z1 : wr.cell? ⟨w.heap.size + 1, 1, none⟩ = some (.int .u64 0) := P1.cell 1
   have z2 : wr.cell? ⟨w.heap.size + 1, 2, none⟩ = some (.slice none 0 0) := P1.cell 2
   have f0 := P1.free 0
   have f1 := P1.free 1
   have f2 := P1.free 2
   clear P0 P1
   go_wp2
   refine bodyPost_ret (v := .agg #[.int .u64 ep, .int .u64 ba, .slice av l.length cv]) (by simp [results, Tryz.results27, go_sem, y0, y1, y2, z0, z1, z2]) rfl ⟨_, rfl, ?_, by (repeat first | exact zR | assumption | apply zA | apply zS | apply zD | apply zN | refine zT (by assumption) ?_ | omega | simp <;> omega)⟩
   have hw2 := HW.out
   refine rEntriesW.mono (rEntriesW.keep HV.out fun b hb => ?_) fun b hb => ⟨by omega, by simp; omega⟩
   repeat rw [Below.heap_setCell _ _ _ _ (by dsimp only; omega)]
theorem batch_copy (x : Batch) (a : Option Addr) (n c : Nat) (w : World) (hl : rEntries.r (· < w.heap.size) w [.slice a n c] x.entries) (hlen : x.entries.length ≤ 1000000000000) (hb : ∀ z ∈ x.entries, Mild z) :
  Calls Tryz.prog 27 #[.agg #[.int .u64 x.epoch, .int .u64 x.base, .slice a n c]] w fun r w' => ∃ v, r = .returned (.agg #[.int .u64 x.epoch, .int .u64 x.base, v]) ∧ rEntries.r (Fresh w w') w' [v] x.entries ∧ Below w.heap.size w w' :=
 (batch_copyW x a n c w hl hlen hb).mono fun r w' ⟨v, h1, h2, h3⟩ => ⟨v, h1, entriesW_entries h2, h3⟩
end Go.Proofs.YtkipiefcnjfdjaaGreat
namespace Go.Proofs.YtkipiefcnjfdjaaGreat
open Go.RowKit Go.Bs
set_option linter.unusedVariables false
set_option linter.unusedSimpArgs false
theorem infoBatch : (Tryz.prog.info? 25).map (fun i => (i.zero, i.size, i.bytes)) = some (some (.agg #[.int .u64 0, .int .u64 0, .slice none 0 0]), 3, 40) := by kernel_rfl
def MildB (x : Batch) : Prop := x.entries.length ≤ 1000000000000 ∧ ∀ z ∈ x.entries, Mild z
end Go.Proofs.YtkipiefcnjfdjaaGreat
namespace Go.Bs
open Go.RowKit
set_option linter.unusedVariables false
set_option linter.unusedSimpArgs false
section
variable {w w' : World} {α : Type}
theorem flatten_len (sz : Nat) : ∀ (l : List (List Value)), (∀ c ∈ l, c.length = sz) → l.flatten.length = l.length * sz
 | [], _ => by simp
 | a :: l, h => by
  rw [List.flatten_cons, List.length_append, h a (by simp), flatten_len sz l fun c hc => h c (by simp [hc]), List.length_cons, Nat.succ_mul]
  omega
def OwnElsF (F : Nat → Prop) (A : Rp α) (base : Nat) (e : TypeId) (sz : Nat) (w : World) (v : Value) (xs : List α) (cells : List (List Value)) : Prop :=
 w.ownsRow base e sz v xs.length cells.flatten ∧ cells.length = xs.length ∧ (∀ c ∈ cells, c.length = sz) ∧
  ∀ (i : Nat) cs x, cells[i]? = some cs → xs[i]? = some x → A.r (fun b => F b ∧ v.ownBlock ≠ some b) w cs x
theorem OwnElsF.of {lo : Nat} {A : Rp α} {base : Nat} {e : TypeId} {sz : Nat} {v : Value} {xs : List α} {cells : List (List Value)} (h : OwnElsAt lo A base e sz w v xs cells) : OwnElsF (fun b => lo ≤ b ∧ b < w.heap.size) A base e sz w v xs cells :=
 ⟨h.1, h.2.1, h.2.2.1, fun i cs x hi hx => A.mono (h.2.2.2 i cs x hi hx) fun b hb => ⟨⟨hb.1, hb.2.1⟩, hb.2.2⟩⟩
theorem OwnElsF.to {F : Nat → Prop} {lo : Nat} {A : Rp α} {base : Nat} {e : TypeId} {sz : Nat} {v : Value} {xs : List α} {cells : List (List Value)} (h : OwnElsF F A base e sz w v xs cells) (hF : ∀ b, F b → lo ≤ b ∧ b < w.heap.size) : OwnElsAt lo A base e sz w v xs cells :=
 ⟨h.1, h.2.1, h.2.2.1, fun i cs x hi hx => A.mono (h.2.2.2 i cs x hi hx) fun b hb => ⟨(hF b hb.1).1, (hF b hb.1).2, hb.2⟩⟩
theorem OwnElsF.keep {F : Nat → Prop} {A : Rp α} {base : Nat} {e : TypeId} {sz : Nat} {v : Value} {xs : List α} {cells : List (List Value)} (h : OwnElsF F A base e sz w v xs cells) (hF : ∀ b, F b → w'.heap[b]? = w.heap[b]?) (hv : ∀ g, v.ownBlock = some g → w'.heap[g]? = w.heap[g]?) : OwnElsF F A base e sz w' v xs cells := by
 obtain ⟨ho, hlen, hsz, hA⟩ := h
 refine ⟨⟨ho.1, ?_⟩, hlen, hsz, fun i cs x hi hx => A.keep (hA i cs x hi hx) fun b hb => hF b hb.1⟩
 rcases ho.2 with h0 | ⟨g, cap, cur, h1, h2, h3, h4⟩
 ·exact .inl h0
 ·exact .inr ⟨g, cap, cur, h1, h2, by rw [hv g (by rw [h1]; rfl)]; exact h3, h4⟩
theorem OwnElsF.mono {F F' : Nat → Prop} {A : Rp α} {base : Nat} {e : TypeId} {sz : Nat} {v : Value} {xs : List α} {cells : List (List Value)} (h : OwnElsF F A base e sz w v xs cells) (hF : ∀ b, F b → F' b) : OwnElsF F' A base e sz w v xs cells :=
 ⟨h.1, h.2.1, h.2.2.1, fun i cs x hi hx => A.mono (h.2.2.2 i cs x hi hx) fun b hb => ⟨hF b hb.1, hb.2⟩⟩
theorem OwnElsF.nil {F : Nat → Prop} {A : Rp α} {base : Nat} {e : TypeId} {sz : Nat} : OwnElsF F A base e sz w (.slice none 0 0) [] [] :=
 ⟨⟨by simp, .inl ⟨rfl, rfl⟩⟩, rfl, (by simp), fun i cs x h => by simp at h⟩
theorem OwnElsF.push {F : Nat → Prop} {A : Rp α} {base : Nat} {e : TypeId} {sz : Nat} {v v' : Value} {xs : List α} {news : List Value} {x : α} {cells : List (List Value)} (h : OwnElsF F A base e sz w v xs cells) (hF : ∀ b, F b → b < w.heap.size)
  (hn : news.length = sz) (hx : A.r (fun b => F b ∧ v.ownBlock ≠ some b) w news x)
  (hown : w'.ownsRow base e sz v' (xs.length + 1) (cells.flatten ++ news)) (hg : w.grownBy w' v.ownBlock) (hat : v'.ownBlock = v.ownBlock ∨ v'.ownBlock = some w.heap.size) : OwnElsF F A base e sz w' v' (xs ++ [x]) (cells ++ [news]) := by
 obtain ⟨ho, hlen, hsz, hA⟩ := h
 have lift : ∀ cs y, A.r (fun b => F b ∧ v.ownBlock ≠ some b) w cs y → A.r (fun b => F b ∧ v'.ownBlock ≠ some b) w' cs y := fun cs y hr =>
  A.mono (A.keep hr fun b hb => hg.block b (hF b hb.1) (fun e => hb.2 e.symm)) fun b hb => ⟨hb.1, fun e => by
   rcases hat with h | h
   ·exact hb.2 (h ▸ e)
   ·rw [h] at e; have := Option.some.inj e; have := hF b hb.1; omega⟩
 refine ⟨?_, by simp [hlen], ?_, ?_⟩
 ·rw [List.flatten_append, List.length_append]
  simpa using hown
 ·intro c hc
  rcases List.mem_append.1 hc with h | h
  ·exact hsz c h
  ·simp at h; subst h; exact hn
 ·intro i cs y hi hy
  by_cases hlt : i < xs.length
  ·rw [List.getElem?_append_left (by omega)] at hi
   rw [List.getElem?_append_left hlt] at hy
   exact lift _ _ (hA i cs y hi hy)
  ·have hii : i = xs.length := by
    have := (List.getElem?_eq_some_iff.1 hy).1
    simp at this
    omega
   subst hii
   rw [List.getElem?_append_right (by omega)] at hi
   rw [List.getElem?_append_right (Nat.le_refl _)] at hy
   simp [hlen] at hi
   simp at hy
   subst hi hy
   exact lift _ _ hx
theorem OwnElsF.slice {F : Nat → Prop} {A : Rp α} {base : Nat} {e : TypeId} {sz : Nat} {v : Value} {xs : List α} {cells : List (List Value)} (h : OwnElsF F A base e sz w v xs cells) : (rSl sz A).r (fun b => F b ∨ v.ownBlock = some b) w [v] xs := by
 obtain ⟨hown, hlen, hsz, hA⟩ := h
 rcases hown.2 with ⟨rfl, h0⟩ | ⟨g, cap, cur, rfl, hbg, hg, hn, hc, hcur, hx⟩
 ·have : xs = [] := List.eq_nil_of_length_eq_zero h0
  subst this
  exact rSl_mk rfl (Nat.le_refl _) (Nat.zero_le _) (.inl rfl)
 ·refine rSl_mk rfl hn hc (.inr ⟨g, 0, rfl, .inr rfl, fun i x hi => ?_⟩)
  have hi' : i < xs.length := (List.getElem?_eq_some_iff.1 hi).1
  have hic : i < cells.length := by omega
  have hcs : cells[i]? = some cells[i] := List.getElem?_eq_getElem hic
  refine ⟨cells[i], hsz _ (List.getElem_mem hic), fun j v hj => ?_, A.mono (hA i _ x hcs hi) fun b h => .inl h.1⟩
  have hj' : j < sz := by have := (List.getElem?_eq_some_iff.1 hj).1; rw [hsz _ (List.getElem_mem hic)] at this; exact this
  have hf := flatten_at sz cells hsz i j _ v hcs hj
  rw [Nat.zero_add, Blk.cell hg (i * sz + j)]
  have hb : i * sz + j < xs.length * sz := by
   have := Nat.mul_le_mul_right sz (show i + 1 ≤ xs.length from hi')
   rw [Nat.succ_mul] at this
   omega
  have e1 : cur[i * sz + j]? = (cur.toList.take (xs.length * sz))[i * sz + j]? := by
   rw [List.getElem?_take, if_pos hb]; simp
  rw [e1, hx]; exact hf
theorem OwnElsF.setLast {F : Nat → Prop} {A : Rp α} {base : Nat} {e : TypeId} {sz : Nat} {g n c : Nat} {xs : List α} {x x' : α} {cells : List (List Value)} {cs : List Value} {j : Nat} {u : Value}
  (h : OwnElsF F A base e sz w (.slice (some ⟨g, 0, none⟩) n c) (xs ++ [x]) (cells ++ [cs])) (hl : cells.length = xs.length) (hj : j < sz)
  (hx : A.r (fun b => F b ∧ g ≠ b) w (cs.set j u) x') :
  OwnElsF F A base e sz (w.setCell ⟨g, xs.length * sz + j, none⟩ u) (.slice (some ⟨g, 0, none⟩) n c) (xs ++ [x']) (cells ++ [cs.set j u]) := by
 obtain ⟨ho, hlen, hsz, hA⟩ := h
 have hcs : cs.length = sz := hsz cs (by simp)
 have hsz2 : ∀ c' ∈ cells ++ [cs.set j u], c'.length = sz := by
  intro c' hc'
  rcases List.mem_append.1 hc' with h | h
  ·exact hsz c' (by simp [h])
  ·simp at h; subst h; simpa using hcs
 refine ⟨⟨by rw [flatten_len sz _ hsz2]; simp [hl], ?_⟩, by simp [hl], hsz2, ?_⟩
 ·rcases ho.2 with ⟨h0, _⟩ | ⟨g', cap, cur, h1, h2, h3, h4, h5, h6, h7⟩
  ·cases h0
  ·simp at h1
   obtain ⟨rfl, rfl, rfl⟩ := h1
   refine .inr ⟨g, c, cur.setIfInBounds (xs.length * sz + j) u, by simp, h2, ?_, by simpa using h4, h5, by simpa using h6, ?_⟩
   ·exact Blk.set h3 _ _
   ·have hfl : cells.flatten.length = xs.length * sz := by rw [flatten_len sz cells fun c hc => hsz c (by simp [hc]), hl]
    have e2 : (cells ++ [cs.set j u]).flatten = (cells ++ [cs]).flatten.set (xs.length * sz + j) u := by
     simp only [List.flatten_append, List.flatten_cons, List.flatten_nil, List.append_nil]
     rw [List.set_append, if_neg (by omega), hfl]
     congr 2
     omega
    have e3 : (xs ++ [x']).length = (xs ++ [x]).length := by simp
    rw [e2, ← h7, e3]
    simp only [Array.toList_setIfInBounds]
    rw [List.take_set]
 ·intro i cs' y hi hy
  have keep : ∀ b, b ≠ g → (w.setCell ⟨g, xs.length * sz + j, none⟩ u).heap[b]? = w.heap[b]? := fun b hb => Below.heap_setCell _ _ _ _ hb
  have hsame : (w.setCell ⟨g, xs.length * sz + j, none⟩ u).heap.size = w.heap.size := by simp [World.setCell]
  by_cases hlt : i < xs.length
  ·rw [List.getElem?_append_left (by omega)] at hi
   rw [List.getElem?_append_left hlt] at hy
   have := hA i cs' y (by rw [List.getElem?_append_left (by omega)]; exact hi) (by rw [List.getElem?_append_left hlt]; exact hy)
   exact A.keep this fun b hb => keep b fun e => hb.2 (by rw [e]; rfl)
  ·have hii : i = xs.length := by
    have := (List.getElem?_eq_some_iff.1 hy).1
    simp at this
    omega
   subst hii
   rw [List.getElem?_append_right (by omega)] at hi
   rw [List.getElem?_append_right (Nat.le_refl _)] at hy
   simp [hl] at hi
   simp at hy
   subst hi hy
   exact A.mono (A.keep hx fun b hb => keep b fun e => hb.2 e.symm) fun b hb => ⟨hb.1, fun e => hb.2 (by simpa [Value.ownBlock] using e)⟩
def rBV : Rp (Batch ⊕ (Int × Int × Value)) :=
  ⟨fun S w cs x => match x with | .inl b => rBatch.r S w cs b | .inr y => cs = [.int .u64 y.1, .int .u64 y.2.1, y.2.2],
   fun {S w w' cs x} h hk => by cases x with | inl b => exact rBatch.keep h hk | inr y => exact h,
   fun {S S' w cs x} h hk => by cases x with | inl b => exact rBatch.mono h hk | inr y => exact h⟩
structure Bld2 (lo : Nat) (TB TE : TypeId) (w : World) (g c : Nat) (cells : List (List Value)) (s : Nat) (bs0 : List Batch) (e b : Int) (es : List Entry) (vl : Value) : Prop where
 own : OwnElsF (fun x => lo ≤ x ∧ x < s) rBV lo TB 3 w (.slice (some ⟨g, 0, none⟩) (bs0.length + 1) c) (bs0.map .inl ++ [.inr (e, b, vl)]) (cells ++ [[.int .u64 e, .int .u64 b, vl]])
 len : cells.length = bs0.length
 lt : g < s
 le : s ≤ w.heap.size
 last : OwnEls s rEntry s TE 2 w vl es
 he : 0 ≤ e ∧ e ≤ 18446744073709551615
 hb : 0 ≤ b ∧ b ≤ 18446744073709551615
theorem OwnElsF.inl {F : Nat → Prop} {base : Nat} {e : TypeId} {sz : Nat} {v : Value} {xs : List Batch} {cells : List (List Value)} (h : OwnElsF F rBatch base e sz w v xs cells) : OwnElsF F rBV base e sz w v (xs.map .inl) cells := by
 obtain ⟨ho, hlen, hsz, hA⟩ := h
 refine ⟨by simpa using ho, by simpa using hlen, hsz, fun i cs x hi hx => ?_⟩
 rw [List.getElem?_map] at hx
 cases hxi : xs[i]? with
 | none => rw [hxi] at hx; cases hx
 | some y => rw [hxi] at hx; cases hx; exact hA i cs y hi hxi
theorem Bld2.grow {lo : Nat} {TB TE : TypeId} {g c : Nat} {cells : List (List Value)} {s : Nat} {bs0 : List Batch} {e b : Int} {es es' : List Entry} {vl vl' : Value} (h : Bld2 lo TB TE w g c cells s bs0 e b es vl)
  (hk : ∀ b, b < s → w'.heap[b]? = w.heap[b]?) (hs : w.heap.size ≤ w'.heap.size) (hl : OwnEls s rEntry s TE 2 w' vl' es') :
  Bld2 lo TB TE (w'.setCell ⟨g, bs0.length * 3 + 2, none⟩ vl') g c cells s bs0 e b es' vl' := by
 obtain ⟨ho, h1, h2, h3, h4, h5, h6⟩ := h
 have hsame : (w'.setCell ⟨g, bs0.length * 3 + 2, none⟩ vl').heap.size = w'.heap.size := by simp [World.setCell]
 have ho' := ho.keep (w' := w') (fun b hb => hk b hb.2) (fun g' hg' => hk g' (by simp [Value.ownBlock] at hg'; omega))
 have h7 := OwnElsF.setLast (x' := (.inr (e, b, vl') : Batch ⊕ (Int × Int × Value))) (j := 2) (u := vl') ho' (by simpa using h1) (by omega) (show _ = _ from rfl)
 refine ⟨by simpa using h7, h1, h2, by rw [hsame]; omega, ?_, h5, h6⟩
 obtain ⟨cs, hc⟩ := hl
 have h8 := (OwnElsF.of hc).keep (w' := w'.setCell ⟨g, bs0.length * 3 + 2, none⟩ vl') (fun b hb => Below.heap_setCell _ _ _ _ (by dsimp only; omega)) (fun g' hg' => Below.heap_setCell _ _ _ _ (by
  have := (hc.1.lt g' hg').1
  dsimp only; omega))
 exact ⟨cs, h8.to fun b hb => by rw [hsame]; exact hb⟩
theorem Bld2.keep {lo : Nat} {TB TE : TypeId} {g c : Nat} {cells : List (List Value)} {s : Nat} {bs0 : List Batch} {e b : Int} {es : List Entry} {vl : Value} (h : Bld2 lo TB TE w g c cells s bs0 e b es vl) (p : Nat) (hp : p < lo)
  (hk : ∀ b, b < w.heap.size → b ≠ p → w'.heap[b]? = w.heap[b]?) (hs : w.heap.size ≤ w'.heap.size) : Bld2 lo TB TE w' g c cells s bs0 e b es vl := by
 obtain ⟨ho, h1, h2, h3, h4, h5, h6⟩ := h
 have hlo : lo ≤ g := by
  rcases ho.1.2 with ⟨h0, _⟩ | ⟨g', cap, cur, hv, hb, _⟩
  ·cases h0
  ·simp at hv
   omega
 refine ⟨ho.keep (fun b hb => hk b (by omega) (by omega)) (fun g' hg' => hk g' (by simp [Value.ownBlock] at hg'; omega) (by simp [Value.ownBlock] at hg'; omega)), h1, h2, by omega, ?_, h5, h6⟩
 obtain ⟨cs, hc⟩ := h4
 have h8 := (OwnElsF.of hc).keep (w' := w') (fun b hb => hk b hb.2 (by omega)) (fun g' hg' => hk g' (hc.1.lt g' hg').2 (by have := (hc.1.lt g' hg').1; omega))
 exact ⟨cs, h8.to fun b hb => ⟨hb.1, by omega⟩⟩
theorem Bld2.place {lo : Nat} {TB TE : TypeId} {g c : Nat} {cells : List (List Value)} {s : Nat} {bs0 : List Batch} {e b : Int} {es : List Entry} {vl : Value} (h : Bld2 lo TB TE w g c cells s bs0 e b es vl) :
  w.cell? ⟨g, bs0.length * 3 + 2, none⟩ = some vl ∧ w.frozen? ⟨g, bs0.length * 3 + 2, none⟩ = false := by
 obtain ⟨⟨ho, hlen, hsz, hA⟩, h1, _⟩ := h
 rcases ho.2 with ⟨h0, _⟩ | ⟨g', cap, cur, hv, hbg, hg, hn, hc, hcur, hx⟩
 ·cases h0
 ·simp at hv
  obtain ⟨rfl, rfl⟩ := hv
  refine ⟨?_, Blk.free hg _⟩
  rw [Blk.cell hg]
  have hf := flatten_at 3 (cells ++ [[.int .u64 e, .int .u64 b, vl]]) hsz bs0.length 2 [.int .u64 e, .int .u64 b, vl] vl (by rw [List.getElem?_append_right (by omega), h1]; simp) rfl
  rw [← hx, List.getElem?_take] at hf
  split at hf
  ·simpa using hf
  ·cases hf
end
end Go.Bs
namespace Go.Proofs.YtkipiefcnjfdjaaGreat
open Go.RowKit Go.Bs
set_option linter.unusedVariables false
set_option linter.unusedSimpArgs false
theorem c_u64 : Tryz.prog.cellsOf 22 = 1 := by kernel_rfl
theorem c_bytes : Tryz.prog.cellsOf 28 = 1 := by kernel_rfl
theorem c_u64s : Tryz.prog.cellsOf 207 = 1 := by kernel_rfl
theorem c_links : Tryz.prog.cellsOf 73 = 1 := by kernel_rfl
theorem c_entries : Tryz.prog.cellsOf 23 = 1 := by kernel_rfl
theorem c_batches : Tryz.prog.cellsOf 60 = 1 := by kernel_rfl
theorem o_u64 : Opens Tryz.prog 22 (rInt .u64) := opens_int Tryz.underlying22
theorem o_bytes : Opens Tryz.prog 28 rBytes := opens_slice (sz := 1) Tryz.underlying28 (by kernel_rfl) (by decide) (opens_byte Tryz.underlying5)
theorem o_u64s : Opens Tryz.prog 207 rU64s := opens_slice (sz := 1) Tryz.underlying207 (by kernel_rfl) (by decide) o_u64
theorem field_at {H : Type} {enc : TypeId × Value → H} {P : Program} {w : World} {cs : List Value} {n : Nat} {fs : Array Field} (h : ∀ (i : Nat) (f : Field), fs[i]? = some f → ∃ y, DataW.trod enc P w 0 (fun _ => true) true n f.type ((cs.drop f.offset).take (P.cellsOf f.type)) = some y)
  {α : Type} {A : Rp α} {t : TypeId} (hA : Opens P t A) (i : Nat) (f : Field) (o : Nat) (hf : fs[i]? = some f) (ht : f.type = t) (ho : f.offset = o) (hs : P.cellsOf t = 1) : ∃ x, A.r (· < w.heap.size) w ((cs.drop o).take 1) x := by
 obtain ⟨y, hy⟩ := h i f hf
 rw [ht, ho, hs] at hy
 exact hA enc w n _ _ hy
theorem o_link : Opens Tryz.prog 209 rLink := fun enc w fuel cs x h => by
 obtain ⟨hl, n, hf⟩ := trod_fields Tryz.underlying209 h
 have hl2 : cs.length = 2 := hl.trans (by kernel_rfl)
 obtain ⟨x0, r0⟩ := field_at hf o_u64 0 _ 0 rfl rfl rfl c_u64
 obtain ⟨x1, r1⟩ := field_at hf o_u64s 1 _ 1 rfl rfl rfl c_u64s
 exact ⟨⟨x0, x1⟩, by have h := pair_step (o := 0) (s := 1) (o' := 1) rfl r0 (last_step (s := 1) hl2 r1); rw [List.drop_zero] at h; exact h⟩
theorem o_links : Opens Tryz.prog 73 rLinks := opens_slice (sz := 2) Tryz.underlying73 (by kernel_rfl) (by decide) o_link
theorem o_entry : Opens Tryz.prog 75 rEntry := fun enc w fuel cs x h => by
 obtain ⟨hl, n, hf⟩ := trod_fields Tryz.underlying75 h
 have hl2 : cs.length = 2 := hl.trans (by kernel_rfl)
 obtain ⟨x0, r0⟩ := field_at hf o_links 0 _ 0 rfl rfl rfl c_links
 obtain ⟨x1, r1⟩ := field_at hf o_bytes 1 _ 1 rfl rfl rfl c_bytes
 exact ⟨⟨x0, x1⟩, by have h := pair_step (o := 0) (s := 1) (o' := 1) rfl r0 (last_step (s := 1) hl2 r1); rw [List.drop_zero] at h; exact h⟩
theorem o_entries : Opens Tryz.prog 23 rEntries := opens_slice (sz := 2) Tryz.underlying23 (by kernel_rfl) (by decide) o_entry
theorem o_batch : Opens Tryz.prog 25 rBatch := fun enc w fuel cs x h => by
 obtain ⟨hl, n, hf⟩ := trod_fields Tryz.underlying25 h
 have hl2 : cs.length = 3 := hl.trans (by kernel_rfl)
 obtain ⟨x0, r0⟩ := field_at hf o_u64 0 _ 0 rfl rfl rfl c_u64
 obtain ⟨x1, r1⟩ := field_at hf o_u64 1 _ 1 rfl rfl rfl c_u64
 obtain ⟨x2, r2⟩ := field_at hf o_entries 2 _ 2 rfl rfl rfl c_entries
 exact ⟨⟨x0, x1, x2⟩, by have h := pair_step (o := 0) (s := 1) (o' := 1) rfl r0 (pair_step (o := 1) (s := 1) (o' := 2) rfl r1 (last_step (s := 1) hl2 r2)); rw [List.drop_zero] at h; exact h⟩
theorem o_batches : Opens Tryz.prog 60 rBatches := opens_slice (sz := 3) Tryz.underlying60 (by kernel_rfl) (by decide) o_batch
theorem o_seg : Opens Tryz.prog 62 rSeg := fun enc w fuel cs x h => by
 obtain ⟨hl, n, hf⟩ := trod_fields Tryz.underlying62 h
 have hl2 : cs.length = 2 := hl.trans (by kernel_rfl)
 obtain ⟨x0, r0⟩ := field_at hf o_u64 0 _ 0 rfl rfl rfl c_u64
 obtain ⟨x1, r1⟩ := field_at hf o_batches 1 _ 1 rfl rfl rfl c_batches
 exact ⟨⟨x0, x1⟩, by have h := pair_step (o := 0) (s := 1) (o' := 1) rfl r0 (last_step (s := 1) hl2 r1); rw [List.drop_zero] at h; exact h⟩
end Go.Proofs.YtkipiefcnjfdjaaGreat
namespace Go.Bs
set_option linter.unusedVariables false
set_option linter.unusedSimpArgs false
def runLen (b : List UInt8) (off : Nat) : Nat → Nat → Nat
 | 0, _ => 0
 | f + 1, p => if p < b.length ∧ b[p]? = b[p - off]? then runLen b off f (p + 1) + 1 else 0
def mlen (b : List UInt8) (p off : Nat) : Nat := if p < b.length ∧ 1 ≤ off ∧ off ≤ p then runLen b off (b.length - p) p else 0
def maxM (b : List UInt8) (p : Nat) : Nat → Nat
 | 0 => 0
 | k + 1 => max (maxM b p k) (mlen b p (k + 1))
def firstM (b : List UInt8) (p m : Nat) : Nat → Nat → Nat
 | 0, _ => 0
 | f + 1, o => if mlen b p o = m then o else firstM b p m f (o + 1)
def reach (p : Nat) : Nat := min p 65536
def bestR (b : List UInt8) (p : Nat) : Nat × Nat :=
 if 4 ≤ maxM b p (reach p) then (firstM b p (maxM b p (reach p)) (reach p) 1, maxM b p (reach p)) else (0, 0)
structure Tok where
 lit : List UInt8
 off : Int
 len : Int
 deriving DecidableEq
def litT (b : List UInt8) (i j : Nat) : List Tok := if i < j then [⟨(b.drop i).take (j - i), 0, 0⟩] else []
def toksF (b : List UInt8) : Nat → Nat → Nat → List Tok
  | 0, _, i => litT b i b.length
  | f + 1, p, i => if p < b.length then
      (if (bestR b p).2 = 0 then toksF b f (p + 1) i
       else litT b i p ++ ⟨[], (bestR b p).1, (bestR b p).2⟩ :: toksF b f (p + (bestR b p).2) (p + (bestR b p).2))
      else litT b i b.length
def toksR (b : List UInt8) : List Tok := toksF b b.length 0 0
def toksA (b : List UInt8) (p i : Nat) : List Tok := toksF b (b.length - p) p i
def keyAt (b : List UInt8) (p : Nat) : Option Nat :=
 match b[p]?, b[p + 1]?, b[p + 2]?, b[p + 3]? with
 | some a, some c, some d, some e => some (a.toNat + 256 * c.toNat + 65536 * d.toNat + 16777216 * e.toNat)
 | _, _, _, _ => none
def lastP (b : List UInt8) (k : Nat) : Nat → Nat
 | 0 => 0
 | j + 1 => if keyAt b j = some k then j + 1 else lastP b k j
end Go.Bs
namespace Go.Bs
open Go.RowKit
set_option linter.unusedVariables false
structure Tch (F : Nat → Prop) (w w' : World) : Prop where
 os : w'.os = w.os
 tape : w'.tape = w.tape
 output : w'.output = w.output
 size : w.heap.size ≤ w'.heap.size
 block : ∀ b, b < w.heap.size → ¬ F b → w'.heap[b]? = w.heap[b]?
section
variable {F G : Nat → Prop} {w w' w'' : World}
theorem Tch.refl (F : Nat → Prop) (w : World) : Tch F w w := ⟨rfl, rfl, rfl, Nat.le_refl _, fun _ _ _ => rfl⟩
theorem Tch.trans (h : Tch F w w') (k : Tch G w' w'') (hG : ∀ b, b < w.heap.size → G b → F b) : Tch F w w'' :=
 ⟨k.os.trans h.os, k.tape.trans h.tape, k.output.trans h.output, Nat.le_trans h.size k.size, fun b hb hF => (k.block b (Nat.lt_of_lt_of_le hb h.size) (fun hg => hF (hG b hb hg))).trans (h.block b hb hF)⟩
theorem Tch.mono (h : Tch F w w') (hF : ∀ b, b < w.heap.size → F b → G b) : Tch G w w' := ⟨h.os, h.tape, h.output, h.size, fun b hb hg => h.block b hb (fun hf => hg (hF b hb hf))⟩
theorem Tch.of_below {B : Nat} (h : Below B w w') : Tch (fun b => B ≤ b) w w' := ⟨h.os, h.tape, h.output, h.size, fun b hb hf => h.block b (by omega)⟩
theorem Tch.of_later (h : Below w.heap.size w w') : Tch F w w' := ⟨h.os, h.tape, h.output, h.size, fun b hb _ => h.block b hb⟩
theorem Tch.alloc (h : Tch F w w') (o : Obj) : Tch F w (w'.alloc o) := h.trans (Tch.of_later (F := F) ((Below.refl _ _).alloc (Nat.le_refl _) o)) fun _ _ h => h
theorem Tch.drew (h : Tch F w w') : Tch F w w'.drew := ⟨h.os, h.tape, h.output, h.size, h.block⟩
theorem Tch.drewN (h : Tch F w w') (n : Nat) : Tch F w (w'.drewN n) := ⟨h.os, h.tape, h.output, h.size, h.block⟩
theorem Tch.setCell (h : Tch F w w') {p : Addr} (hp : p.block < w.heap.size → F p.block) (u : Value) : Tch F w (w'.setCell p u) :=
 ⟨h.os, h.tape, h.output, by simpa [World.setCell] using h.size, fun b hb hf => (Below.heap_setCell w' p u b (fun e => hf (e ▸ hp (e ▸ hb)))).trans (h.block b hb hf)⟩
theorem Tch.below {B : Nat} (h : Tch F w w') (hF : ∀ b, b < w.heap.size → F b → B ≤ b) : Below B w w' ∨ w.heap.size < B := by
 by_cases hB : B ≤ w.heap.size
 ·exact .inl ⟨h.os, h.tape, h.output, h.size, fun b hb => h.block b (by omega) (fun hf => by have := hF b (by omega) hf; omega)⟩
 ·exact .inr (by omega)
theorem Tch.to_below {B : Nat} (h : Tch F w w') (hB : B ≤ w.heap.size) (hF : ∀ b, b < w.heap.size → F b → B ≤ b) : Below B w w' := (h.below hF).resolve_right (by omega)
theorem Tch.cell (h : Tch F w w') {p : Addr} (hb : p.block < w.heap.size) (hf : ¬ F p.block) : w'.cell? p = w.cell? p := World.cell?_of_block (h.block _ hb hf)
theorem Tch.frozen (h : Tch F w w') {p : Addr} (hb : p.block < w.heap.size) (hf : ¬ F p.block) : w'.frozen? p = w.frozen? p := World.frozen?_of_block (h.block _ hb hf)
theorem Blk.tch {g : Nat} {t : TypeId} {cs : Array Value} (h : Blk w g t cs) (k : Tch F w w') (hf : ¬ F g) : Blk w' g t cs := (k.block g h.lt hf).trans h
theorem src_new1 {w : World} (W : World) (e : TypeId) (cs : List Value) (hB : w = W.alloc (.cells cs.toArray e)) {g : Nat} (hg : g = W.heap.size) {sz : Nat} (hs : cs.length = sz) : Src w (some ⟨g, 0, none⟩) 1 sz cs := by
 subst hB hg
 refine ⟨by omega, .inr ⟨_, 0, rfl, fun j u hu => ?_⟩⟩
 rw [Nat.zero_add, Blk.cell (Blk.new W e cs.toArray)]
 simpa using hu
end
end Go.Bs
namespace Go.Proofs.YtkipiefcnjfdjaaGreat
open Go.RowKit Go.Bs Go.Maps
set_option linter.unusedVariables false
set_option linter.unusedSimpArgs false
def prevN (b : List UInt8) (j : Nat) : Nat := match keyAt b j with | some k => lastP b k j | none => 0
def prevs (b : List UInt8) (n : Nat) : List Value := (List.range n).map fun j => .int .i64 (prevN b j : Int)
def LastsAt (D : DataW Unit) (b : List UInt8) (n : Nat) : Prop := ∀ k : Nat, k < 4294967296 → D.atKey (.int .u32 (k : Int)) (.lit (.int .i64 0)) = .lit (.int .i64 (lastP b k n : Int))
theorem LastsAt.none {D : DataW Unit} {b : List UInt8} {n : Nat} (h : LastsAt D b n) (hk : keyAt b n = none) : LastsAt D b (n + 1) := fun k hlt => by
 rw [h k hlt]
 simp only [lastP]
 rw [hk, if_neg (by simp)]
theorem LastsAt.some {D : DataW Unit} {b : List UInt8} {n k : Nat} (h : LastsAt D b n) (hD : IsMap D) (hk : keyAt b n = some k) : LastsAt (D.put (.int .u32 (k : Int)) (.lit (.int .i64 ((n : Int) + 1)))) b (n + 1) := fun k' hlt => by
 by_cases e : k' = k
 ·subst e
  rw [atKey_put_same hD (by trivial)]
  simp only [lastP]
  rw [if_pos hk]; simp
 ·rw [atKey_put_other (by simp; omega), h k' hlt]
  simp only [lastP]
  rw [if_neg (by rw [hk]; simp; omega)]
structure ChAt (w : World) (g mb base : Nat) (b : List UInt8) (n : Nat) (ab : Option Addr) (cb : Nat) (ap : Option Addr) (cp : Nat) : Prop where
 blk : Blk w g 324 #[.slice ab b.length cb, .map (some mb), .slice ap n cp]
 bytes : rBytes.r (fun q => q < w.heap.size ∧ q ≠ g ∧ q ≠ mb ∧ (Value.slice ap n cp).ownBlock ≠ some q) w [.slice ab b.length cb] b
 map : ∃ D : DataW Unit, w.ownsMap Tryz.prog 216 (plainElem Tryz.prog 3) mb n D ∧ LastsAt D b n
 prev : w.ownsRow base 3 1 (.slice ap n cp) n (prevs b n)
 ne1 : g ≠ mb
 ne2 : (Value.slice ap n cp).ownBlock ≠ some g
 ne3 : (Value.slice ap n cp).ownBlock ≠ some mb
 lo : base ≤ g
 le : n ≤ b.length
 len : b.length ≤ 1048576
def ChStep (w : World) (g mb base : Nat) (b : List UInt8) (n n' : Nat) (ab : Option Addr) (cb : Nat) (ap : Option Addr) (cp : Nat) (w' : World) : Prop :=
 ∃ ap' cp', ChAt w' g mb base b n' ab cb ap' cp' ∧ Tch (fun q => q = g ∨ q = mb ∨ (Value.slice ap n cp).ownBlock = some q) w w' ∧ ((Value.slice ap' n' cp').ownBlock = (Value.slice ap n cp).ownBlock ∨ ∃ q, (Value.slice ap' n' cp').ownBlock = some q ∧ w.heap.size ≤ q)
theorem map_keep {w w' : World} {K : TypeId} {R : Value → Option (DataW Unit × List MemPlace)} {m n : Nat} {D : DataW Unit} (h : w.ownsMap Tryz.prog K R m n D) (e : w'.heap[m]? = w.heap[m]?) : w'.ownsMap Tryz.prog K R m n D := by
 obtain ⟨es, clock, hb, F, hs, hD⟩ := h
 exact ⟨es, clock, e.trans hb, F, hs, hD⟩
theorem own_keep {w w' : World} {base : Nat} {e : TypeId} {size : Nat} {v : Value} {n : Nat} {xs : List Value} (h : w.ownsRow base e size v n xs) (hv : ∀ g, v.ownBlock = some g → w'.heap[g]? = w.heap[g]?) : w'.ownsRow base e size v n xs := by
 refine ⟨h.1, ?_⟩
 rcases h.2 with h0 | ⟨g, cap, cur, h1, h2, h3, h4⟩
 ·exact .inl h0
 ·exact .inr ⟨g, cap, cur, h1, h2, by rw [hv g (by rw [h1]; rfl)]; exact h3, h4⟩
end Go.Proofs.YtkipiefcnjfdjaaGreat
namespace Go.Proofs.YtkipiefcnjfdjaaGreat
open Go.RowKit Go.Bs Go.Maps
set_option linter.unusedVariables false
set_option linter.unusedSimpArgs false
theorem ChStep.trans {w w1 w2 : World} {g mb base : Nat} {b : List UInt8} {n m k : Nat} {ab : Option Addr} {cb : Nat} {ap a1 : Option Addr} {cp c1 : Nat} (h : Tch (fun q => q = g ∨ q = mb ∨ (Value.slice ap n cp).ownBlock = some q) w w1)
  (ho : (Value.slice a1 m c1).ownBlock = (Value.slice ap n cp).ownBlock ∨ ∃ q, (Value.slice a1 m c1).ownBlock = some q ∧ w.heap.size ≤ q) (k' : ChStep w1 g mb base b m k ab cb a1 c1 w2) : ChStep w g mb base b n k ab cb ap cp w2 := by
 obtain ⟨a2, c2, h1, h2, h3⟩ := k'
 refine ⟨a2, c2, h1, h.trans h2 fun q hq e => ?_, ?_⟩
 ·rcases e with e | e | e
  ·exact .inl e
  ·exact .inr (.inl e)
  ·rcases ho with ho | ⟨q', hq', hlt⟩
   ·exact .inr (.inr (ho ▸ e))
   ·rw [hq'] at e; have := Option.some.inj e; omega
 ·rcases h3 with h3 | ⟨q', hq', hlt⟩
  ·rcases ho with ho | ⟨q', hq', hlt⟩
   ·exact .inl (h3.trans ho)
   ·exact .inr ⟨q', h3.trans hq', hlt⟩
  ·exact .inr ⟨q', hq', Nat.le_trans h.size hlt⟩
theorem ChStep.refl {w : World} {g mb base : Nat} {b : List UInt8} {n : Nat} {ab : Option Addr} {cb : Nat} {ap : Option Addr} {cp : Nat} (h : ChAt w g mb base b n ab cb ap cp) : ChStep w g mb base b n n ab cb ap cp w := ⟨ap, cp, h, Tch.refl _ _, .inl rfl⟩
end Go.Proofs.YtkipiefcnjfdjaaGreat
namespace Go.Proofs.YtkipiefcnjfdjaaGreat
open Go.RowKit Go.Bs Go.Maps Go.Shelf
set_option linter.unusedVariables false
set_option linter.unusedSimpArgs false
def KpC (Q : Nat → Prop) (w w' : World) : Prop := ∀ q, Q q → w'.heap[q]? = w.heap[q]?
theorem KpC.trans {Q : Nat → Prop} {w w' w'' : World} (h : KpC Q w w') (k : KpC Q w' w'') : KpC Q w w'' := fun q hq => (k q hq).trans (h q hq)
end Go.Proofs.YtkipiefcnjfdjaaGreat
namespace Go.Proofs.YtkipiefcnjfdjaaGreat
open Go.RowKit Go.Bs Go.Maps Go.Shelf
set_option linter.unusedVariables false
set_option linter.unusedSimpArgs false
attribute [local go_sem] Oper.semAt_some
structure SkAt (w : World) (gs g mb base lo hi : Nat) (b : List UInt8) (n : Nat) (sa : Option Addr) (sc : Nat) (ab : Option Addr) (cb : Nat) (ap : Option Addr) (cp : Nat) : Prop where
 blk : ∃ t : Int, Blk w gs 316 #[.slice sa b.length sc, .pointer (some ⟨g, 0, none⟩), .int .i64 t]
 bytes : rBytes.r (fun q => (lo ≤ q ∧ q < hi) ∧ q ≠ gs ∧ q ≠ g ∧ q ≠ mb ∧ (Value.slice ap n cp).ownBlock ≠ some q) w [.slice sa b.length sc] b
 ch : ChAt w g mb base b n ab cb ap cp
 bytes2 : rBytes.r (fun q => (lo ≤ q ∧ q < hi) ∧ q ≠ gs ∧ q ≠ g ∧ q ≠ mb ∧ (Value.slice ap n cp).ownBlock ≠ some q) w [.slice ab b.length cb] b
 ne1 : gs ≠ g
 ne2 : gs ≠ mb
 ne3 : (Value.slice ap n cp).ownBlock ≠ some gs
 top : hi ≤ w.heap.size
def SkStep (w : World) (gs g mb base lo hi : Nat) (b : List UInt8) (n n' : Nat) (sa : Option Addr) (sc : Nat) (ab : Option Addr) (cb : Nat) (ap : Option Addr) (cp : Nat) (w' : World) : Prop :=
 ∃ ap' cp', SkAt w' gs g mb base lo hi b n' sa sc ab cb ap' cp' ∧ Tch (fun q => q = gs ∨ q = g ∨ q = mb ∨ (Value.slice ap n cp).ownBlock = some q) w w' ∧ ((Value.slice ap' n' cp').ownBlock = (Value.slice ap n cp).ownBlock ∨ ∃ q, (Value.slice ap' n' cp').ownBlock = some q ∧ w.heap.size ≤ q)
theorem ChAt.later {w w' : World} {g mb base : Nat} {b : List UInt8} {n : Nat} {ab : Option Addr} {cb : Nat} {ap : Option Addr} {cp : Nat} (h : ChAt w g mb base b n ab cb ap cp) (hb : Below w.heap.size w w') : ChAt w' g mb base b n ab cb ap cp := by
 have hs := hb.size
 obtain ⟨D, hD, hL⟩ := h.map
 exact ⟨h.blk.later hb, rBytes.mono (rBytes.keep h.bytes fun q hq => hb.block q hq.1) fun q hq => ⟨by omega, hq.2⟩, ⟨D, map_keep hD (hb.block _ hD.lt), hL⟩, own_keep h.prev fun q hq => hb.block q (h.prev.lt q hq).2, h.ne1, h.ne2, h.ne3, h.lo, h.le, h.len⟩
theorem SkAt.later {w w' : World} {gs g mb base lo hi : Nat} {b : List UInt8} {n : Nat} {sa : Option Addr} {sc : Nat} {ab : Option Addr} {cb : Nat} {ap : Option Addr} {cp : Nat} (h : SkAt w gs g mb base lo hi b n sa sc ab cb ap cp) (hb : Below w.heap.size w w') : SkAt w' gs g mb base lo hi b n sa sc ab cb ap cp := by
 have hs := hb.size
 obtain ⟨t, ht⟩ := h.blk
 exact ⟨⟨t, ht.later hb⟩, rBytes.keep h.bytes fun q hq => hb.block q (Nat.lt_of_lt_of_le hq.1.2 h.top), h.ch.later hb, rBytes.keep h.bytes2 fun q hq => hb.block q (Nat.lt_of_lt_of_le hq.1.2 h.top), h.ne1, h.ne2, h.ne3, Nat.le_trans h.top hs⟩
theorem SkAt.tch {F : Nat → Prop} {w w' : World} {gs g mb base lo hi : Nat} {b : List UInt8} {n : Nat} {sa : Option Addr} {sc : Nat} {ab : Option Addr} {cb : Nat} {ap : Option Addr} {cp : Nat} (h : SkAt w gs g mb base lo hi b n sa sc ab cb ap cp) (hT : Tch F w w') (h1 : ¬ F g) (h2 : ¬ F mb) (h3 : ∀ q, (Value.slice ap n cp).ownBlock = some q → ¬ F q) (h4 : ∀ q, lo ≤ q → q < hi → q ≠ gs → ¬ F q)
  (hb : ∃ t : Int, Blk w' gs 316 #[.slice sa b.length sc, .pointer (some ⟨g, 0, none⟩), .int .i64 t]) : SkAt w' gs g mb base lo hi b n sa sc ab cb ap cp := by
 have hs := hT.size
 have ht := h.top
 obtain ⟨D, hD, hL⟩ := h.ch.map
 exact ⟨hb, rBytes.keep h.bytes fun q hq => hT.block q (by omega) (h4 q hq.1.1 hq.1.2 hq.2.1), ⟨h.ch.blk.tch hT h1, rBytes.mono (rBytes.keep h.bytes2 fun q hq => hT.block q (by omega) (h4 q hq.1.1 hq.1.2 hq.2.1)) fun q hq => ⟨by omega, hq.2.2⟩, ⟨D, map_keep hD (hT.block _ hD.lt h2), hL⟩,
  own_keep h.ch.prev fun q hq => hT.block q (h.ch.prev.lt q hq).2 (h3 q hq), h.ch.ne1, h.ch.ne2, h.ch.ne3, h.ch.lo, h.ch.le, h.ch.len⟩, rBytes.keep h.bytes2 fun q hq => hT.block q (by omega) (h4 q hq.1.1 hq.1.2 hq.2.1), h.ne1, h.ne2, h.ne3, by omega⟩
theorem SkAt.turned {w w' : World} {gs g mb base lo hi : Nat} {b : List UInt8} {n : Nat} {sa : Option Addr} {sc : Nat} {ab : Option Addr} {cb : Nat} {ap : Option Addr} {cp : Nat} (h : SkAt w gs g mb base lo hi b n sa sc ab cb ap cp) (hT : Tch (fun q => q = gs) w w')
  (hb : ∃ t : Int, Blk w' gs 316 #[.slice sa b.length sc, .pointer (some ⟨g, 0, none⟩), .int .i64 t]) : SkAt w' gs g mb base lo hi b n sa sc ab cb ap cp :=
 h.tch hT (Ne.symm h.ne1) (Ne.symm h.ne2) (fun q hq e => h.ne3 (e ▸ hq)) (fun q _ _ h e => h e) hb
end Go.Proofs.YtkipiefcnjfdjaaGreat
namespace Go.Bs
open Go.RowKit
set_option linter.unusedVariables false
def noopOf (o : Oper) : Oper := { o with op := .move (.const (.bool true)), guard := none }
def noopLast : List Oper → List Oper
 | [] => []
 | [o] => [noopOf o]
 | o :: p :: l => o :: noopLast (p :: l)
theorem noopLast_length : ∀ l, (noopLast l).length = l.length
 | [] => rfl
 | [_] => rfl
 | _ :: p :: l => by simp [noopLast, noopLast_length (p :: l)]
theorem noopLast_get : ∀ (l : List Oper) (i : Nat), (noopLast l)[i]? = if i + 1 = l.length then (l[i]?).map noopOf else l[i]?
 | [], i => by simp [noopLast]
 | [o], i => by
  cases i with
  | zero => simp [noopLast]
  | succ i => simp [noopLast]
 | o :: p :: l, i => by
  cases i with
  | zero => simp [noopLast]
  | succ i =>
   have := noopLast_get (p :: l) i
   simp only [noopLast, List.getElem?_cons_succ, List.length_cons] at *
   rw [this]
   by_cases h : i + 1 = l.length + 1
   ·rw [if_pos h, if_pos (by omega)]
   ·rw [if_neg h, if_neg (by omega)]
def lastB (md : Region.Mode) (l : List Oper) : Bool :=
 (match l.getLast? with | none => false | some o => o.dst.isNone && o.guard.isNone) && (Region.sinkB md l.toArray (l.length - 1) && Region.chainB md l.toArray (l.length - 1)) &&
  (List.range l.length).all fun i => match l[i]? with | none => true | some o => o.after.all fun e => decide (e.on < i)
section
variable {P : Program} {md : Region.Mode}
theorem ready_noop (l : List Oper) (listed : Array Bool) : Region.ready md (noopLast l).toArray listed = Region.ready md l.toArray listed := by
 unfold Region.ready
 simp only [List.size_toArray, noopLast_length]
 refine List.filter_congr fun i _ => ?_
 simp only [List.getElem?_toArray, noopLast_get]
 by_cases h : i + 1 = l.length
 ·rw [if_pos h]
  cases l[i]? <;> rfl
 ·rw [if_neg h]
theorem yielded_noop (l : List Oper) (t : Array Value) : yielded (noopLast l).toArray t = yielded l.toArray t := by
 funext j
 unfold yielded
 simp only [List.getElem?_toArray, noopLast_get]
 by_cases h : j + 1 = l.length
 ·rw [if_pos h]
  cases l[j]? <;> rfl
 ·rw [if_neg h]
theorem wpOp_exits {ops : Array Oper} {Q Q' : Exit → Act → World → Prop} {i : Nat} {K : Act → World → Prop} {a : Act} {w : World} (hQ : ∀ e a w, e ≠ .normal → Q' e a w → Q e a w) (h : wpOp P ops Q' i K a w) : wpOp P ops Q i K a w := by
 unfold wpOp at *
 split
 ·rename_i ho
  simp only [ho] at h
  exact h
 ·rename_i o ho
  simp only [ho] at h
  split
  ·rename_i hw
   simp only [hw, if_true] at h
   have hl : LetsOut Q' → LetsOut Q := fun ⟨a, w, h⟩ => ⟨a, w, hQ _ _ _ (by simp) h⟩
   rcases h with h | ⟨h1, h2⟩
   ·left
    unfold Oper.wp at *
    generalize (execOp a.eval o).run P w = r at *
    cases r with
    | ok n w' =>
     cases n <;> simp only [Oper.upon] at h ⊢
     case value u => exact h
     case skip => exact h
     case defer d => exact h
     case enter f args =>
      refine Calls.mono h fun e w'' he => ?_
      cases e with
      | returned u => exact he
      | panicked c => exact hQ _ _ _ (by simp) he
      | outgrown => exact hl he
     case row row args => exact h
    | halt x w' =>
     cases x <;> simp only [Oper.upon] at h ⊢
     case panic u => exact hQ _ _ _ (by simp) h
   ·exact .inr ⟨h1, hl h2⟩
  ·rename_i hw
   simp only [hw] at h
   exact h
theorem wpOp_noop {l : List Oper} {Q : Exit → Act → World → Prop} {i : Nat} {K : Act → World → Prop} {a : Act} {w : World} (hi : i + 1 ≠ l.length) (h : wpOp P (noopLast l).toArray Q i K a w) : wpOp P l.toArray Q i K a w := by
 unfold wpOp at *
 rw [yielded_noop] at h
 simp only [List.getElem?_toArray, noopLast_get, if_neg hi] at h ⊢
 exact h
def lastQ (P : Program) (l : List Oper) (o : Oper) (Q : Exit → Act → World → Prop) : Exit → Act → World → Prop
 | .normal, a, w => wpList P l.toArray Q [o] a w
 | e, a, w => Q e a w
theorem lastQ_other {l : List Oper} {o : Oper} {Q : Exit → Act → World → Prop} {e : Exit} {a : Act} {w : World} (he : e ≠ .normal) (h : lastQ P l o Q e a w) : Q e a w := by
 cases e <;> first | exact h | exact absurd rfl he
theorem ready_some {ops : Array Oper} {listed : Array Bool} (hd : ∀ (i : Nat) (o : Oper), ops[i]? = some o → ∀ e ∈ o.after, e.on < i) (hs : listed.size = ops.size) : ∀ (n j : Nat), j < n → j < ops.size → listed.getD j true = false → Region.ready md ops listed ≠ []
 | 0, j, h, _, _ => by omega
 | n + 1, j, h, hj, hl => by
  intro h0
  have hr : j ∉ Region.ready md ops listed := by rw [h0]; simp
  apply hr
  rw [mem_ready]
  have ho : ops[j]? = some ops[j] := Array.getElem?_eq_getElem hj
  refine ⟨hl, ops[j], ho, fun e he hb => ?_⟩
  have hlt := hd j _ ho e he
  cases hg : listed.getD e.on false with
  | true => rfl
  | false => exact absurd h0 (ready_some hd hs n e.on (by omega) (by omega) (getD_in (by omega) hg))
theorem wpAny_last {l : List Oper} {o : Oper} {Q : Exit → Act → World → Prop} (hlast : l[l.length - 1]? = some o) (hpos : 0 < l.length) (hdst : o.dst = none) (hgd : o.guard = none)
  (hs1 : Region.sinkB md l.toArray (l.length - 1) = true) (hc1 : Region.chainB md l.toArray (l.length - 1) = true) (hd : ∀ (i : Nat) (o : Oper), l.toArray[i]? = some o → ∀ e ∈ o.after, e.on < i) :
  ∀ (fuel : Nat) (listed : Array Bool) (a : Act) (w : World), HeadInv md l.toArray (l.length - 1) listed →
   wpAny P md (noopLast l).toArray (lastQ P l o Q) fuel listed a w → wpAny P md l.toArray Q fuel listed a w
 | 0, listed, a, w, inv, h => by
  have hs : listed.size = l.length := by simpa using inv.size
  have hl := inv.tail (l.length - 1) (Nat.le_refl _) (by simp; omega)
  exact absurd (by rw [← ready_noop]; exact h.1) (ready_some (md := md) hd (by simpa using hs) _ _ (Nat.lt_succ_self _) (by simp; omega) hl)
 | fuel + 1, listed, a, w, inv, h => by
  have hs : listed.size = l.length := by simpa using inv.size
  have hl := inv.tail (l.length - 1) (Nat.le_refl _) (by simp; omega)
  have hne := ready_some (md := md) hd (by simpa using hs) _ _ (Nat.lt_succ_self _) (by simp; omega) hl
  refine ⟨fun h0 => absurd h0 hne, fun i hi => ?_⟩
  have h2 := h.2 i (by rw [ready_noop]; exact hi)
  by_cases hin : i + 1 = l.length
  ·
   obtain rfl : i = l.length - 1 := by omega
   have hr := mem_ready.1 hi
   have hall : ∀ j, j < l.length → (listed.setIfInBounds (l.length - 1) true).getD j true = true := by
    intro j hj
    by_cases hjl : j = l.length - 1
    ·subst hjl; simp [hs]
    ·rw [getD_set_ne true (by omega)]
     cases hg : listed.getD j true with
     | true => rfl
     | false => exact absurd hi (tail_waits hs1 hc1 (by simp; omega) inv _ j rfl (by omega) hg _ (Nat.le_refl _))
   have hrd : Region.ready md l.toArray (listed.setIfInBounds (l.length - 1) true) = [] := by
    rw [List.eq_nil_iff_forall_not_mem]
    intro j hj
    obtain ⟨h1, o', ho', _⟩ := mem_ready.1 hj
    have hjl : j < l.length := by
     have := (Array.getElem?_eq_some_iff.1 ho').1
     simpa using this
    rw [hall j hjl] at h1
    cases h1
   have hQ : wpList P l.toArray Q [o] a w := by
    unfold wpOp at h2
    simp only [List.getElem?_toArray, noopLast_get, if_pos (show l.length - 1 + 1 = l.length by omega), hlast, Option.map_some] at h2
    have hwant : Region.wanted (noopOf o) (yielded (noopLast l).toArray a.tmps) = true := rfl
    rw [if_pos hwant] at h2
    rcases h2 with h2 | ⟨h2, _⟩
    ·have h3 : wpAny P md (noopLast l).toArray (lastQ P l o Q) fuel (listed.setIfInBounds (l.length - 1) true) (a.put (noopOf o).dst (.bool true)) w := h2
     have h4 : (noopOf o).dst = none := hdst
     rw [h4] at h3
     cases fuel with
     | zero => exact h3.2
     | succ f => exact h3.1 (by rw [ready_noop]; exact hrd)
    ·exfalso
     simp only [Oper.asks, noopOf, execOp] at h2
     have h5 := h2.1
     have h6 : noRoomEvent ∈ (#[] : Array Event) := h5
     simp at h6
   unfold wpOp
   simp only [List.getElem?_toArray, hlast]
   have hwant : Region.wanted o (yielded l.toArray a.tmps) = true := by simp [Region.wanted, hgd]
   rw [if_pos hwant]
   unfold wpList at hQ
   rw [if_pos hwant] at hQ
   refine hQ.imp (fun h => Oper.wp_mono (fun a' w' h' => ?_) h) id
   cases fuel with
   | zero => exact ⟨hrd, h'⟩
   | succ f => exact ⟨fun _ => h', by rw [hrd]; simp⟩
  ·refine wpOp_exits (fun e a w he h => lastQ_other he h) (wpOp_noop hin (wpOp_mono (fun a' w' h' => ?_) h2))
   exact wpAny_last hlast hpos hdst hgd hs1 hc1 hd fuel _ a' w' (inv.set hi (by
    have := (mem_ready.1 hi).2
    obtain ⟨o', ho', _⟩ := this
    have := (Array.getElem?_eq_some_iff.1 ho').1
    simp at this
    omega)) h'
theorem wp_region_last {id : Nat} {Q : Exit → Act → World → Prop} {a : Act} {w : World} {l : List Oper} (o : Oper) (hm : P.follows .mixedOrders = true) (ho : l[l.length - 1]? = some o) (hB : lastB .any l = true)
  (h : wpAny P .any (noopLast l).toArray (lastQ P l o Q) (noopLast l).toArray.size (Array.replicate (noopLast l).toArray.size false) a { w with drawn := w.drawn + 1 }) : (Code.region id l.toArray true).wp P Q a w := by
 have hpos : 0 < l.length := by
  rcases Nat.eq_zero_or_pos l.length with h | h
  ·rw [List.eq_nil_of_length_eq_zero h] at ho; simp at ho
  ·exact h
 simp only [lastB, Bool.and_eq_true] at hB
 obtain ⟨⟨h1, h2, h2'⟩, h3⟩ := hB
 rw [List.getLast?_eq_getElem?, ho] at h1
 simp only [Bool.and_eq_true, Option.isNone_iff_eq_none] at h1
 have inv0 : HeadInv .any l.toArray (l.length - 1) (Array.replicate l.toArray.size false) :=
  ⟨by simp, fun j oj _ hl => (by rw [getD_replicate_false] at hl; cases hl), fun t _ ht => getD_in (by simpa using ht) (getD_replicate_false _ _)⟩
 refine wp_region_any hm (wpAny_last ho hpos h1.1 h1.2 h2 h2' ?_ _ _ a _ inv0 (by simpa [noopLast_length] using h))
 intro i o' ho' e he
 have hi : i < l.length := by
  have := (Array.getElem?_eq_some_iff.1 ho').1
  simpa using this
 have := List.all_eq_true.1 h3 i (List.mem_range.2 hi)
 simp only [List.getElem?_toArray] at ho'
 rw [ho'] at this
 have h4 := Array.all_eq_true'.1 this e he
 simpa using h4
theorem wp_region_last_held {id : Nat} {Q : Exit → Act → World → Prop} {a : Act} {w : World} {l : List Oper} (S : World → Prop) (o : Oper) (hm : P.follows .mixedOrders = true) (ho : l[l.length - 1]? = some o) (hB : lastB .any l = true)
  (hS : S w.drew) (h : S w.drew → wpAnyH P .any (noopLast l).toArray (lastQ P l o Q) S l.length (Array.replicate l.length false) a w.drew) : (Code.region id l.toArray true).wp P Q a w :=
 wp_region_last o hm ho hB (wpAny_of_held _ _ _ _ (by simpa [noopLast_length] using h hS))
end
end Go.Bs
namespace Go.Proofs.YtkipiefcnjfdjaaGreat
open Go.RowKit Go.Bs Go.Maps
set_option linter.unusedVariables false
set_option linter.unusedSimpArgs false
def rTok : Rp Tok := rBy (fun t => (t.lit, t.off, t.len)) (rPair rBytes (rPair (rInt .i64) (rInt .i64)))
theorem i64_wf {n : Int} (h : -9223372036854775808 ≤ n ∧ n ≤ 9223372036854775807) : (Lit.int .i64 n).wf = true := by
 simp [Lit.wf, IntKind.min, IntKind.max, IntKind.signed, IntKind.bits]; omega
theorem sl_drop {α : Type} {sz : Nat} {A : Rp α} {S : Nat → Prop} {w : World} {xs : List α} {b off : Nat} {n c k : Nat} (h : (rSl sz A).r S w [.slice (some ⟨b, off, none⟩) n c] xs) (hk : k ≤ xs.length) : (rSl sz A).r S w [.slice (some ⟨b, off + k * sz, none⟩) (n - k) (c - k)] (xs.drop k) := by
 obtain ⟨a', c', e, h1, h2, h3⟩ := h
 simp at e
 obtain ⟨rfl, rfl, rfl⟩ := e
 refine rSl_mk (a := some ⟨b, off + k * sz, none⟩) (c := c - k) (by simp) (by simp; omega) (by omega) ?_
 rcases h3 with rfl | ⟨b', off', e', hS, hr⟩
 ·exact .inl (by simp)
 ·simp at e'
  obtain ⟨rfl, rfl⟩ := e'
  refine .inr ⟨b, off + k * sz, rfl, hS, fun i x hi => ?_⟩
  rw [List.getElem?_drop] at hi
  obtain ⟨cs, h4, h5, h6⟩ := hr (k + i) x hi
  refine ⟨cs, h4, fun j v hj => ?_, h6⟩
  have := h5 j v hj
  rw [show off + k * sz + i * sz + j = off + (k + i) * sz + j by rw [Nat.add_mul]; omega]
  exact this
end Go.Proofs.YtkipiefcnjfdjaaGreat
