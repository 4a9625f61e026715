/- Needed by segmentFinds_walk, part 3: texts put together by shake.py; no condition. -/
import Derived.Test.YtkipiefcnjfdjaaGreatF2
import Derived.Test.YtkipiefcnjfdjaaGreatF1
import Derived.Deep.AppendLies
import Derived.Deep.RegionLaw
import Derived.Laws.MakeOwn
import Derived.Lib.ConvBytes
import Derived.Laws.AppendOwn
namespace Go.Proofs.YtkipiefcnjfdjaaGreat
open Go.RowKit Go.Bs
set_option linter.unusedVariables false
set_option linter.unusedSimpArgs false
set_option maxHeartbeats 3200000 in
theorem segment_right (e : Int) (l : List Batch) (a : Option Addr) (n c : Nat) (w : World) (h0 : 0 ≤ e ∧ e ≤ 18446744073709551615) (hl : rBatches.r (· < w.heap.size) w [.slice a n c] l) (hfair : ∀ x ∈ l, Fair x.entries) :
  Calls Tryz.prog 44 #[.agg #[.int .u64 e, .slice a n c]] w fun r w' => r = .returned (.bool (segR ⟨e, l⟩)) ∧ Below w.heap.size w w' := by
 obtain ⟨rfl, hm, hm2, hm3⟩ := sl_len hl
 have HL := hid hl; clear hl
 have HF := hid hfair; clear hfair
 go_enter Tryz.func44, Tryz.ntmps44
 go_wp2_with fail
 refine (epoch_right e _).mono ?_
 rintro e' w' ⟨rfl, rfl⟩
 cases he : epR e
 ·have hff : Hid (segR ⟨e, l⟩ = false) := hid (by simp [segR, he])
  clear he
  go_wp2
  go_ret
  exact ⟨by rw [hff.out]; rfl, by (repeat first | exact zR | assumption | apply zA | apply zS | apply zD | apply zN | refine zT (by assumption) ?_ | omega | simp <;> omega)⟩
 ·by_cases hn : l.length ≤ 16
  ·have d1 : decide ((16 : Int) < (l.length : Int)) = false := by simp; omega
   have hff : Hid (segR ⟨e, l⟩ = chainR e (prevB l 0) (l.drop 0)) := hid (by simp [segR, he, hn, prevB])
   clear he
   go_wp2_with fail
   refine wp_world (fun W => Below w.heap.size w W ∧ w.heap.size < W.heap.size ∧ W.cell? ⟨w.heap.size, 0, none⟩ = some (.int .u64 e) ∧ W.cell? ⟨w.heap.size, 1, none⟩ = some (.slice a l.length c)) ⟨by (repeat first | exact zR | assumption | apply zA | apply zS | apply zD | apply zN | refine zT (by assumption) ?_ | omega | simp <;> omega), by simp, by go_simp, by go_simp⟩ ?_
   intro w1 ⟨hb2, hzb, s0, s1⟩
   go_loopw [18] (fun i wr => ∃ k : Nat, k ≤ l.length ∧ i = .int .i64 k ∧ Hid (segR ⟨e, l⟩ = chainR e (prevB l k) (l.drop k)) ∧ Hid (∀ i, (h : i < l.length) → i < k → batchR l[i] = true) ∧ Below w1.heap.size w1 wr) (fun i _ => l.length - (intOf i).toNat)
   case atStart => exact ⟨0, Nat.zero_le _, rfl, hff, hid (fun i _ h => absurd h (Nat.not_lt_zero i)), Below.refl _ _⟩
   case round =>
    obtain ⟨k, hk, rfl, hf, hP, hb⟩ := hrel
    have hb3 := below_then hb hb2
    have t0 : wr.cell? ⟨w.heap.size, 0, none⟩ = some (.int .u64 e) := (Later.mk wr hb).cell s0
    have t1 : wr.cell? ⟨w.heap.size, 1, none⟩ = some (.slice a l.length c) := (Later.mk wr hb).cell s1
    have hz3 : w.heap.size < wr.heap.size := by have := hb.size; omega
    by_cases hlt : k < l.length
    ·obtain ⟨b, o, hA, hbb, a1, c1, hd0, hd1, hd2, r0, r1, hd⟩ := batch_at HL.out hlt
     subst hA
     have X0 := (hb3.cell (p := ⟨b, o + k * 3, none⟩) hbb).trans hd0
     have X1 := (hb3.cell (p := ⟨b, o + k * 3 + 1, none⟩) hbb).trans hd1
     have X2 := (hb3.cell (p := ⟨b, o + k * 3 + 2, none⟩) hbb).trans hd2
     clear hd0 hd1 hd2
     have RL := hid (sl_take (lift HL.out hb3) hk)
     have hst := hid (chainR_step e l k hlt)
     have HZ := hid (HF.out _ (List.getElem_mem hlt))
     obtain ⟨_, hm4, _, _⟩ := sl_len hd
     have R := hid (lift hd hb3)
     clear hd
     generalize hz : l[k] = z at *
     have HZZ := hid hz; clear hz
     have i1 : (k : Int) < (l.length : Int) := by omega
     have i2 : (k : Int) ≤ (c : Int) := by omega
     go_wp2_with fail
     refine wp_world (fun W => Below wr.heap.size wr W ∧ wr.heap.size < W.heap.size ∧ W.cell? ⟨wr.heap.size, 0, none⟩ = some (.int .u64 z.epoch) ∧ W.cell? ⟨wr.heap.size, 1, none⟩ = some (.int .u64 z.base) ∧ W.cell? ⟨wr.heap.size, 2, none⟩ = some (.slice a1 z.entries.length c1)) ⟨by (repeat first | exact zR | assumption | apply zA | apply zS | apply zD | apply zN | refine zT (by assumption) ?_ | omega | simp <;> omega), by simp, by go_simp, by go_simp, by go_simp⟩ ?_
     intro W ⟨hbW, hzW, d0, d1, d2⟩
     have hb6 := below_then hbW hb3
     have hb7 := below_then hbW hb
     have T0 := fun s : Later W => s.cell ((hbW.cell (p := ⟨w.heap.size, 0, none⟩) hz3).trans t0)
     have T1 := fun s : Later W => s.cell ((hbW.cell (p := ⟨w.heap.size, 1, none⟩) hz3).trans t1)
     have Y0 := fun s : Later W => s.cell d0
     have Y1 := fun s : Later W => s.cell d1
     have Y2 := fun s : Later W => s.cell d2
     have hB := fun s : Later W => batch_right z a1 _ c1 s.at_ r0 r1 (lift R.out (below_then s.below hbW)) HZ.out
     cases hr : batchR z
     ·have hf3 : Hid (segR ⟨e, l⟩ = false) := hid (by rw [hf.out, hst.out, hr]; rfl)
      rw [hr] at hB
      have HB := hid hB; clear hB hr
      refine wp_region_later (by kernel_rfl) (by kernel_rfl) ?_
      repeat (go_big_quiet_step (((go_at_call 22; exact later_of (HB.out _)))))
      refine wpQuiet_nil ?_
      rintro W5 ⟨⟨W5', hb5⟩, rfl⟩
      go_wp2
      go_ret
      exact ⟨by rw [hf3.out]; rfl, below_then hb5 hb6⟩
     ·have HR := hid hr
      rw [hr] at hB
      have HB := hid hB; clear hB
      have hS := fun s : Later W => seg_follows e (l.take k) z (some ⟨b, o, none⟩) a1 k c z.entries.length c1 s.at_ (lift RL.out (below_then s.below hbW)) (right_take hP.out)
      rw [prevB_take l hk] at hS
      cases hv : mayR e (prevB l k) z
      ·have hf3 : Hid (segR ⟨e, l⟩ = false) := hid (by rw [hf.out, hst.out, hr, hv]; rfl)
       rw [hv] at hS
       have HS := hid hS; clear hS hr hv
       refine wp_region_later (by kernel_rfl) (by kernel_rfl) ?_
       repeat (go_big_quiet_step (((first | (go_at_call 22; exact later_of (HB.out _)) | (go_at_call 106; exact later_of (HS.out _))))))
       refine wpQuiet_nil ?_
       rintro W5 ⟨⟨W5', hb5⟩, rfl⟩
       go_wp2
       go_ret
       exact ⟨by rw [hf3.out]; rfl, below_then hb5 hb6⟩
      ·have hf3 : Hid (segR ⟨e, l⟩ = chainR e (prevB l (k + 1)) (l.drop (k + 1))) := hid (by rw [hf.out, hst.out, hr, hv]; rfl)
       rw [hv] at hS
       have HS := hid hS; clear hS hr hv
       refine wp_region_later (by kernel_rfl) (by kernel_rfl) ?_
       repeat (go_big_quiet_step (((first | (go_at_call 22; exact later_of (HB.out _)) | (go_at_call 106; exact later_of (HS.out _))))))
       refine wpQuiet_nil ?_
       rintro W5 ⟨⟨W5', hb5⟩, rfl⟩
       go_wp2
       go_roundw
       case rel => exact ⟨k + 1, by omega, by go_num, hf3, hid (right_more hlt HZZ.out HR.out hP.out), below_then hb5 hb7⟩
       case measure => simp [intOf]; omega
    ·obtain rfl : k = l.length := by omega
     have hf3 : Hid (segR ⟨e, l⟩ = true) := hid (by rw [hf.out, List.drop_length]; rfl)
     go_wp2
     go_ret
     exact ⟨by rw [hf3.out]; rfl, hb3⟩
  ·have d1 : decide ((16 : Int) < (l.length : Int)) = true := by simp; omega
   have hff : Hid (segR ⟨e, l⟩ = false) := hid (by simp [segR, hn])
   go_wp2
   go_ret
   exact ⟨by rw [hff.out]; rfl, by (repeat first | exact zR | assumption | apply zA | apply zS | apply zD | apply zN | refine zT (by assumption) ?_ | omega | simp <;> omega)⟩
end Go.Proofs.YtkipiefcnjfdjaaGreat
namespace Go.Proofs.YtkipiefcnjfdjaaGreat
open Go.RowKit Go.Bs
set_option linter.unusedVariables false
set_option linter.unusedSimpArgs false
set_option maxHeartbeats 3200000 in
theorem ref34_right (e : Int) (l : List Batch) (a : Option Addr) (n c : Nat) (w : World) (h0 : 0 ≤ e ∧ e ≤ 18446744073709551615) (hl : rBatches.r (· < w.heap.size) w [.slice a n c] l) (hfair : ∀ x ∈ l, Fair x.entries) :
  Calls Tryz.prog 41 #[.agg #[.int .u64 e, .slice a n c]] w fun r w' => r = .returned (.bool (segR ⟨e, l⟩)) ∧ Below w.heap.size w w' := by
 obtain ⟨rfl, hm, hm2, hm3⟩ := sl_len hl
 have HL := hid hl; clear hl
 have HF := hid hfair; clear hfair
 go_enter Tryz.func41, Tryz.ntmps41
 go_wp2_with fail
 refine (ref17_right e h0.1 _).mono ?_
 rintro e' w' ⟨rfl, rfl⟩
 cases he : epR e
 ·have hff : Hid (segR ⟨e, l⟩ = false) := hid (by simp [segR, he])
  clear he
  go_wp2
  go_ret
  exact ⟨by rw [hff.out]; rfl, by (repeat first | exact zR | assumption | apply zA | apply zS | apply zD | apply zN | refine zT (by assumption) ?_ | omega | simp <;> omega)⟩
 ·by_cases hn : l.length ≤ 16
  ·have d1 : decide ((16 : Int) < (l.length : Int)) = false := by simp; omega
   have hff : Hid (segR ⟨e, l⟩ = chainR e (prevB l 0) (l.drop 0)) := hid (by simp [segR, he, hn, prevB])
   clear he
   go_wp2_with fail
   refine wp_world (fun W => Below w.heap.size w W ∧ w.heap.size < W.heap.size ∧ W.cell? ⟨w.heap.size, 0, none⟩ = some (.int .u64 e) ∧ W.cell? ⟨w.heap.size, 1, none⟩ = some (.slice a l.length c)) ⟨by (repeat first | exact zR | assumption | apply zA | apply zS | apply zD | apply zN | refine zT (by assumption) ?_ | omega | simp <;> omega), by simp, by go_simp, by go_simp⟩ ?_
   intro w1 ⟨hb2, hzb, s0, s1⟩
   go_loopw [3] (fun i wr => ∃ k : Nat, k ≤ l.length ∧ i = .int .i64 k ∧ Hid (segR ⟨e, l⟩ = chainR e (prevB l k) (l.drop k)) ∧ Hid (∀ i, (h : i < l.length) → i < k → batchR l[i] = true) ∧ Below w1.heap.size w1 wr) (fun i _ => l.length - (intOf i).toNat)
   case atStart => exact ⟨0, Nat.zero_le _, rfl, hff, hid (fun i _ h => absurd h (Nat.not_lt_zero i)), Below.refl _ _⟩
   case round =>
    obtain ⟨k, hk, rfl, hf, hP, hb⟩ := hrel
    have hb3 := below_then hb hb2
    have t0 : wr.cell? ⟨w.heap.size, 0, none⟩ = some (.int .u64 e) := (Later.mk wr hb).cell s0
    have t1 : wr.cell? ⟨w.heap.size, 1, none⟩ = some (.slice a l.length c) := (Later.mk wr hb).cell s1
    have hz3 : w.heap.size < wr.heap.size := by have := hb.size; omega
    by_cases hlt : k < l.length
    ·obtain ⟨b, o, hA, hbb, a1, c1, hd0, hd1, hd2, r0, r1, hd⟩ := batch_at HL.out hlt
     subst hA
     have X0 := (hb3.cell (p := ⟨b, o + k * 3, none⟩) hbb).trans hd0
     have X1 := (hb3.cell (p := ⟨b, o + k * 3 + 1, none⟩) hbb).trans hd1
     have X2 := (hb3.cell (p := ⟨b, o + k * 3 + 2, none⟩) hbb).trans hd2
     clear hd0 hd1 hd2
     have RL := hid (lift HL.out hb3)
     have hst := hid (chainR_step e l k hlt)
     have HZ := hid (HF.out _ (List.getElem_mem hlt))
     obtain ⟨_, hm4, _, _⟩ := sl_len hd
     have R := hid (lift hd hb3)
     clear hd
     generalize hz : l[k] = z at *
     have HZZ := hid hz; clear hz
     have i1 : (k : Int) < (l.length : Int) := by omega
     have i2 : (k : Int) ≤ (c : Int) := by omega
     have T0 := fun s : Later wr => s.cell t0
     have T1 := fun s : Later wr => s.cell t1
     have Y0 := fun s : Later wr => s.cell X0
     have Y1 := fun s : Later wr => s.cell X1
     have Y2 := fun s : Later wr => s.cell X2
     have hB := fun s : Later wr => ref25_right z a1 _ c1 s.at_ r0 r1 (lift R.out s.below) HZ.out
     cases hr : batchR z
     ·have hf3 : Hid (segR ⟨e, l⟩ = false) := hid (by rw [hf.out, hst.out, hr]; rfl)
      rw [hr] at hB
      have HB := hid hB; clear hB hr
      go_wp2_with fail
      refine wp_region_later (by kernel_rfl) (by kernel_rfl) ?_
      repeat (go_big_quiet_step (((go_at_call 23; exact later_of (HB.out _)))))
      refine wpQuiet_nil ?_
      rintro W5 ⟨⟨W5', hb5⟩, rfl⟩
      go_wp2
      go_ret
      exact ⟨by rw [hf3.out]; rfl, below_then hb5 hb3⟩
     ·have HR := hid hr
      rw [hr] at hB
      have HB := hid hB; clear hB
      have hS := fun s : Later wr => ref34_may e l z k (some ⟨b, o, none⟩) a1 l.length c z.entries.length c1 s.at_ (lift RL.out s.below) hk hP.out
      skip
      cases hv : mayR e (prevB l k) z
      ·have hf3 : Hid (segR ⟨e, l⟩ = false) := hid (by rw [hf.out, hst.out, hr, hv]; rfl)
       rw [hv] at hS
       have HS := hid hS; clear hS hr hv
       go_wp2_with fail
       refine wp_region_later (by kernel_rfl) (by kernel_rfl) ?_
       repeat (go_big_quiet_step (((first | (go_at_call 23; exact later_of (HB.out _)) | (go_at_call 42; exact later_of (HS.out _))))))
       refine wpQuiet_nil ?_
       rintro W5 ⟨⟨W5', hb5⟩, rfl⟩
       go_wp2
       go_ret
       exact ⟨by rw [hf3.out]; rfl, below_then hb5 hb3⟩
      ·have hf3 : Hid (segR ⟨e, l⟩ = chainR e (prevB l (k + 1)) (l.drop (k + 1))) := hid (by rw [hf.out, hst.out, hr, hv]; rfl)
       rw [hv] at hS
       have HS := hid hS; clear hS hr hv
       go_wp2_with fail
       refine wp_region_later (by kernel_rfl) (by kernel_rfl) ?_
       repeat (go_big_quiet_step (((first | (go_at_call 23; exact later_of (HB.out _)) | (go_at_call 42; exact later_of (HS.out _))))))
       refine wpQuiet_nil ?_
       rintro W5 ⟨⟨W5', hb5⟩, rfl⟩
       go_wp2
       go_roundw
       case rel => exact ⟨k + 1, by omega, by go_num, hf3, hid (right_more hlt HZZ.out HR.out hP.out), below_then hb5 hb⟩
       case measure => simp [intOf]; omega
    ·obtain rfl : k = l.length := by omega
     have hf3 : Hid (segR ⟨e, l⟩ = true) := hid (by rw [hf.out, List.drop_length]; rfl)
     go_wp2
     go_ret
     exact ⟨by rw [hf3.out]; rfl, hb3⟩
  ·have d1 : decide ((16 : Int) < (l.length : Int)) = true := by simp; omega
   have hff : Hid (segR ⟨e, l⟩ = false) := hid (by simp [segR, hn])
   go_wp2
   go_ret
   exact ⟨by rw [hff.out]; rfl, by (repeat first | exact zR | assumption | apply zA | apply zS | apply zD | apply zN | refine zT (by assumption) ?_ | omega | simp <;> omega)⟩
end Go.Proofs.YtkipiefcnjfdjaaGreat
namespace Go.Proofs.YtkipiefcnjfdjaaGreat
open Go.RowKit Go.Bs
set_option linter.unusedVariables false
set_option linter.unusedSimpArgs false
theorem info64 : (Tryz.prog.info? 22).map (fun i => (i.zero, i.size, i.bytes)) = some (some (.int .u64 0), 1, 8) := by kernel_rfl
def Fresh (w w' : World) (b : Nat) : Prop := w.heap.size ≤ b ∧ b < w'.heap.size
theorem u64s_bounds {S : Nat → Prop} {w : World} {a : Option Addr} {n c : Nat} {l : List Int} (h : rU64s.r S w [.slice a n c] l) : ∀ x ∈ l, 0 ≤ x ∧ x ≤ 18446744073709551615 := by
 intro x hx
 obtain ⟨i, hi, rfl⟩ := List.getElem_of_mem hx
 obtain ⟨b, o, _, _, _, h2⟩ := u64_at h hi
 exact h2
set_option maxHeartbeats 800000 in
theorem link_copied (x : Link) (a : Option Addr) (n c : Nat) (w : World) (hl : rU64s.r (· < w.heap.size) w [.slice a n c] x.backs) (hlen : x.backs.length ≤ 1000000000000) :
  Calls Tryz.prog 204 #[.agg #[.int .u64 x.stream, .slice a n c]] w fun r w' => ∃ v, r = .returned (.agg #[.int .u64 x.stream, v]) ∧ rU64s.r (Fresh w w') w' [v] x.backs ∧ Below w.heap.size w w' := by
 obtain ⟨rfl, hm, _, _⟩ := sl_len hl
 obtain ⟨i0, hi, hz0, hz1, hz2⟩ := info_parts info64
 have hw := hid (u64s_bounds hl)
 have HL := hid hl; clear hl
 have hone := u64Cells_one x.backs
 have HONE := hid hone; clear hone
 go_enter Tryz.func204, Tryz.ntmps204
 have hfree : ∀ (W : World), W.heap.size = w.heap.size + 1 + 1 → (W.alloc (.cells #[] 22)).ownsRow (w.heap.size + 1 + 1) 22 1 (.slice (some ⟨w.heap.size + 1 + 1, 0, none⟩) 0 0) 0 [] := fun W h => own_empty W (by omega) h.symm
 have HF := hid hfree; clear hfree
 have hbel : ∀ W : World, Below w.heap.size w W → Src W a x.backs.length 1 (u64Cells x.backs) := fun W h => src_u64s (lift HL.out h)
 have HB := hid hbel; clear hbel
 go_wp2_with (at_builtin; go_loud (refine wpList_append_src rfl _ _ _ rfl (w.heap.size + 1 + 1) 22 i0 (.int .u64 0) 1 8 Tryz.underlying207 hi hz0 hz1 hz2 rfl (by decide) (.slice (some ⟨w.heap.size + 1 + 1, 0, none⟩) 0 0) 0 [] rfl (HF.out _ (by simp)) a x.backs.length c (u64Cells x.backs) rfl (HB.out _ (by (repeat first | exact zR | assumption | apply zA | apply zS | apply zD | apply zN | refine zT (by assumption) ?_ | omega | simp <;> omega))) HONE.out (by simp only [maxLen]; omega) (by omega) (by first | (simp; done) | (simp; omega)) ?_; intro v1 w1 hown1 hgrow1 hat1; rw [Nat.zero_add, List.nil_append] at hown1; obtain ⟨av, cv, hv1⟩ := own_form hown1; subst hv1; have HG := hid hgrow1; have HO := hid hown1; have HA := hid hat1; clear hown1 hgrow1 hat1; have q0 : Blk w1 w.heap.size 209 #[.int .u64 x.stream, .slice a x.backs.length c] := (((Blk.new w _ _).alloc _).alloc _).grown HG.out (by simp only [Value.ownBlock, ne_eq, Option.some.injEq]; omega); have q1 : Blk w1 (w.heap.size + 1) 209 #[.int .u64 0, .slice none 0 0] := ((Blk.new1 w _ _ _).alloc _).grown HG.out (by simp only [Value.ownBlock, ne_eq, Option.some.injEq]; omega); have c00 : w1.cell? ⟨w.heap.size, 0, none⟩ = some (.int .u64 x.stream) := q0.cell 0; have c01 : w1.cell? ⟨w.heap.size, 1, none⟩ = some (.slice a x.backs.length c) := q0.cell 1; have c10 : w1.cell? ⟨w.heap.size + 1, 0, none⟩ = some (.int .u64 0) := q1.cell 0; have c11 : w1.cell? ⟨w.heap.size + 1, 1, none⟩ = some (.slice none 0 0) := q1.cell 1; have f00 := q0.free 0; have f01 := q0.free 1; have f10 := q1.free 0; have f11 := q1.free 1; have Q0 := hid q0; have Q1 := hid q1; clear q0 q1))
 have hb1 : Below w.heap.size w w1 := Below.grown (by (repeat first | exact zR | assumption | apply zA | apply zS | apply zD | apply zN | refine zT (by assumption) ?_ | omega | simp <;> omega)) HG.out (by first | (simp; done) | (simp; omega)) (fun g e => by simp only [Value.ownBlock, Option.some.injEq] at e; omega)
 have hr1 := own_ints64 hw.out rfl HO.out
 have hz1 : w.heap.size + 1 + 1 < w1.heap.size := by have := HG.out.size; simp at this; omega
 clear HG HO HA
 refine bodyPost_ret (v := .agg #[.int .u64 x.stream, .slice av x.backs.length cv]) (by simp [results, Tryz.results204, go_sem, c00, c01, c10, c11]) rfl ⟨.slice av x.backs.length cv, rfl, ?_, by (repeat first | exact zR | assumption | apply zA | apply zS | apply zD | apply zN | refine zT (by assumption) ?_ | omega | simp <;> omega)⟩
 refine rU64s.mono (rU64s.keep hr1 fun b hb => ?_) fun b hb => ⟨by omega, by simp; omega⟩
 repeat rw [Below.heap_setCell _ _ _ _ (by dsimp only; omega)]
end Go.Proofs.YtkipiefcnjfdjaaGreat
namespace Go.Proofs.YtkipiefcnjfdjaaGreat
open Go.RowKit Go.Bs
set_option linter.unusedVariables false
set_option linter.unusedSimpArgs false
theorem infoLink : (Tryz.prog.info? 209).map (fun i => (i.zero, i.size, i.bytes)) = some (some (.agg #[.int .u64 0, .slice none 0 0]), 2, 32) := by kernel_rfl
theorem src_new1 {w : World} (W : World) (e : TypeId) (cs : List Value) (hB : w = W.alloc (.cells cs.toArray e)) {g : Nat} (hg : g = W.heap.size) {sz : Nat} (hs : cs.length = sz) : Src w (some ⟨g, 0, none⟩) 1 sz cs := by
 subst hB hg
 refine ⟨by omega, .inr ⟨_, 0, rfl, fun j u hu => ?_⟩⟩
 rw [Nat.zero_add, Blk.cell (Blk.new W e cs.toArray)]
 simpa using hu
set_option maxHeartbeats 800000 in
theorem link_copyW (l : List Link) (a : Option Addr) (n c : Nat) (w : World) (hl : rLinks.r (· < w.heap.size) w [.slice a n c] l) (hlen : l.length ≤ 1000000000000) (hb : ∀ x ∈ l, x.backs.length ≤ 1000000000000) :
  Calls Tryz.prog 143 #[.slice a n c] w fun r w' => ∃ v, r = .returned v ∧ rLinksW.r (Fresh w w') w' [v] l ∧ Below w.heap.size w w' := by
 obtain ⟨rfl, hm, _, _⟩ := sl_len hl
 obtain ⟨i0, hi, hz0, hz1, hz2⟩ := info_parts infoLink
 have HL := hid hl; clear hl
 have HB := hid hb; clear hb
 go_enter Tryz.func143, Tryz.ntmps143
 go_wp2
 go_loopw [3, 8] (fun v i wr => ∃ k : Nat, k ≤ l.length ∧ i = .int .i64 k ∧ OwnEls w.heap.size rLink w.heap.size 209 2 wr v (l.take k) ∧ Below w.heap.size w wr) (fun _ i _ => l.length - (intOf i).toNat)
 case atStart => exact ⟨0, Nat.zero_le _, rfl, OwnEls.nil, Below.refl _ _⟩
 case round =>
  obtain ⟨k, hk, rfl, hown, hb⟩ := hrel
  by_cases hlt : k < l.length
  ·obtain ⟨b, o, hA, hbb, a1, c1, hc0, hc1, hst, hd⟩ := link_at HL.out hlt
   subst hA
   have X0 := (hb.cell (p := ⟨b, o + k * 2, none⟩) hbb).trans hc0
   have X1 := (hb.cell (p := ⟨b, o + k * 2 + 1, none⟩) hbb).trans hc1
   clear hc0 hc1
   have htk := hid (List.take_succ_eq_append_getElem hlt)
   have hbk := HB.out _ (List.getElem_mem hlt)
   have R := hid (lift hd hb)
   clear hd
   generalize l[k] = z at *
   have htl : (l.take k).length = k := by simp; omega
   generalize hT : l.take k = T at *
   clear hT
   subst htl
   have OW := hid hown; clear hown
   have i1 : (T.length : Int) < (l.length : Int) := by omega
   go_wp2_with fail
   refine (link_copied z _ _ _ _ (lift R.out (by (repeat first | exact zR | assumption | apply zA | apply zS | apply zD | apply zN | refine zT (by assumption) ?_ | omega | simp <;> omega))) hbk).mono ?_
   rintro e w4 ⟨v4, rfl, hr4, hb4⟩
   obtain ⟨a4, c4, hv4, _, _⟩ := sl_form hr4
   simp only [List.cons.injEq, and_true] at hv4
   subst hv4
   have hbw4 : Below wr.heap.size wr w4 := by (repeat first | exact zR | assumption | apply zA | apply zS | apply zD | apply zN | refine zT (by assumption) ?_ | omega | simp <;> omega)
   have hz4 : wr.heap.size + 1 ≤ w4.heap.size := by have := hb4.size; simpa using this
   have O4 := OW.out.below hbw4
   have HR4 := hid (rU64s.mono hr4 (S' := fun b => wr.heap.size + 1 ≤ b ∧ b < w4.heap.size) fun b h => by simpa [Fresh] using h)
   clear hr4
   obtain ⟨cells0, OA0⟩ := OW.out
   have hlt0 : ∀ g, u3.ownBlock = some g → g < wr.heap.size := fun g e => (OA0.1.lt g e).2
   have O5 := O4.below (show Below w4.heap.size w4 (w4.alloc (.cells #[.int .u64 z.stream, .slice a4 z.backs.length c4] 209)) from by (repeat first | exact zR | assumption | apply zA | apply zS | apply zD | apply zN | refine zT (by assumption) ?_ | omega | simp <;> omega))
   obtain ⟨cells, OA⟩ := O5
   have hx : rLink.r (fun b => w.heap.size ≤ b ∧ b < (w4.alloc (.cells #[.int .u64 z.stream, .slice a4 z.backs.length c4] 209)).heap.size ∧ u3.ownBlock ≠ some b) (w4.alloc (.cells #[.int .u64 z.stream, .slice a4 z.backs.length c4] 209)) [.int .u64 z.stream, .slice a4 z.backs.length c4] z := by
    refine link_mk hst (rU64s.mono (rU64s.keep HR4.out fun b hb => Below.heap_alloc w4 _ b hb.2) fun b hb' => ⟨?_, ?_, fun e => ?_⟩)
    ·have := hb.size; omega
    ·simp; omega
    ·have := hlt0 b e; omega
   have hbs := hb.size
   have hb9 : Below w.heap.size w (w4.alloc (.cells #[.int .u64 z.stream, .slice a4 z.backs.length c4] 209)) := below_alloc (below_then hbw4 hb) _
   have hs9 : w.heap.size ≤ (w4.alloc (.cells #[.int .u64 z.stream, .slice a4 z.backs.length c4] 209)).heap.size := hb9.size
   have HX := hid hx; clear hx
   have HA := hid OA; clear OA OA0 O4 hlt0
   have HB9 := hid hb9; clear hb9
   have HS9 := hid hs9; clear hs9
   go_wp2_with (at_builtin; go_loud (refine wpList_append_src rfl _ _ _ rfl w.heap.size 209 i0 (.agg #[.int .u64 0, .slice none 0 0]) 2 32 Tryz.underlying73 hi hz0 hz1 hz2 rfl (by decide) u3 T.length _ rfl HA.out.1 (some ⟨w4.heap.size, 0, none⟩) 1 1 [.int .u64 z.stream, .slice a4 z.backs.length c4] rfl (src_new1 w4 209 _ rfl rfl rfl) (by intro u hu; simp at hu; rcases hu with rfl | rfl <;> rfl) (by simp only [maxLen]; omega) (by omega) HS9.out ?_; intro v1 w5 hown1 hgrow1 hat1; have OP := hid (OwnEls.push HA.out rfl HX.out hown1 hgrow1 hat1 hgrow1.size); have B5 := hid (HB9.out.grown hgrow1 HS9.out (fun g e => (HA.out.1.lt g e).1)); clear hown1 hgrow1 hat1))
   go_roundw
   case rel => exact ⟨T.length + 1, by omega, by go_num, by rw [htk.out]; exact OP.out, B5.out⟩
   case measure => simp [intOf]; omega
  ·obtain rfl : k = l.length := by omega
   rw [List.take_length] at hown
   have hv := OwnEls.sliceW (Nat.le_refl _) hown
   have HV := hid hv; clear hv
   go_wp2
   go_ret
   exact ⟨_, rfl, HV.out, hb⟩
end Go.Proofs.YtkipiefcnjfdjaaGreat
namespace Go.Proofs.YtkipiefcnjfdjaaGreat
open Go.RowKit Go.Bs
set_option linter.unusedVariables false
set_option linter.unusedSimpArgs false
set_option maxHeartbeats 1600000 in
theorem entry_copyW (x : Entry) (a1 a2 : Option Addr) (n1 c1 n2 c2 : Nat) (w : World) (hl : rLinks.r (· < w.heap.size) w [.slice a1 n1 c1] x.links) (hd : rBytes.r (· < w.heap.size) w [.slice a2 n2 c2] x.data)
    (hlen : x.links.length ≤ 1000000000000) (hdl : x.data.length ≤ 1000000000000) (hb : ∀ z ∈ x.links, z.backs.length ≤ 1000000000000) :
    Calls Tryz.prog 88 #[.agg #[.slice a1 n1 c1, .slice a2 n2 c2]] w fun r w' => ∃ v1 v2, r = .returned (.agg #[v1, v2]) ∧ rLinksW.r (Fresh w w') w' [v1] x.links ∧ rBytes.r (Fresh w w') w' [v2] x.data ∧ Below w.heap.size w w' := by
  obtain ⟨rfl, hm, _, _⟩ := sl_len hl
  obtain ⟨rfl, hm', _, _⟩ := sl_len hd
  obtain ⟨i0, hi, hz0, hz1, hz2⟩ := info_parts info8
  have HB := hid hb; clear hb
  have hC : ∀ W : World, Below w.heap.size w W → Calls Tryz.prog 143 #[.slice a1 x.links.length c1] W fun r w' => ∃ a c, r = .returned (.slice a x.links.length c) ∧ rLinksW.r (Fresh W w') w' [.slice a x.links.length c] x.links ∧ Below W.heap.size W w' := fun W hW =>
    (link_copyW x.links a1 _ c1 W (lift hl hW) hlen HB.out).mono fun r w' ⟨v, h1, h2, h3⟩ => by
      obtain ⟨a, c, hv, _, _⟩ := sl_form (linksW_links h2)
      simp only [List.cons.injEq, and_true] at hv
      subst hv
      exact ⟨a, c, h1, h2, h3⟩
  have HC := hid hC; clear hC
  have hS : ∀ W : World, Below w.heap.size w W → Src W a2 x.data.length 1 (byteCells x.data) := fun W hW => src_bytes (lift hd hW)
  have HS := hid hS; clear hS hl hd
  have HONE := hid (byteCells_one x.data)
  go_enter Tryz.func88, Tryz.ntmps88
  go_wp2_with fail
  refine wp_world (fun W => Below w.heap.size w W ∧ W.heap.size = w.heap.size + 2 ∧ Blk W w.heap.size 75 #[.slice a1 x.links.length c1, .slice a2 x.data.length c2] ∧ Blk W (w.heap.size + 1) 75 #[.slice none 0 0, .slice none 0 0]) ⟨by (repeat first | exact zR | assumption | apply zA | apply zS | apply zD | apply zN | refine zT (by assumption) ?_ | omega | simp <;> omega), by simp, (Blk.new w _ _).alloc _, Blk.new1 w _ _ _⟩ ?_
  intro W ⟨hbW, hzW, q0, q1⟩
  have c00 : W.cell? ⟨w.heap.size, 0, none⟩ = some (.slice a1 x.links.length c1) := q0.cell 0
  have c01 : W.cell? ⟨w.heap.size, 1, none⟩ = some (.slice a2 x.data.length c2) := q0.cell 1
  have Q0 := hid q0; have Q1 := hid q1
  clear q0 q1
  have HW := hid hzW
  have LT0 : w.heap.size < W.heap.size := by omega
  have LT1 : w.heap.size + 1 < W.heap.size := by omega
  clear hzW
  go_region_law (first
    | (go_simp; go_at_call 143; refine (HC.out _ (by (repeat first | exact zR | assumption | apply zA | apply zS | apply zD | apply zN | refine zT (by assumption) ?_ | omega | simp <;> omega))).mono ?_; rintro e w4 ⟨a4, c4, rfl, hr4, hb4⟩; have k4 : Below W.heap.size W w4 := (by (repeat first | exact zR | assumption | apply zA | apply zS | apply zD | apply zN | refine zT (by assumption) ?_ | omega | simp <;> omega)); have d0 := (k4.cell (p := ⟨w.heap.size, 0, none⟩) LT0).trans c00; have d1 := (k4.cell (p := ⟨w.heap.size, 1, none⟩) LT0).trans c01; have lt4 : w.heap.size < w4.heap.size := Nat.lt_of_lt_of_le LT0 k4.size; have lt41 : w.heap.size + 1 < w4.heap.size := Nat.lt_of_lt_of_le LT1 k4.size; have x0 := (Q1.out.below k4 LT1).free 0; have x1 := (Q1.out.below k4 LT1).free 1; have x2 := (Q1.out.below k4 LT1).cell 0; have x3 := (Q1.out.below k4 LT1).cell 1; have HR4 := hid hr4; clear hr4)
    | (go_loud (refine step_append_src (by rfl) _ _ _ (by rfl) (w.heap.size + 2) 5 i0 (.int .u8 0) 1 1 Tryz.underlying28 hi hz0 hz1 hz2 rfl (by decide) _ 0 [] (by rfl) (by first | exact own_empty _ (by first | exact LT1 | exact lt41 | (simp; omega)) (by rfl) | exact own_below (World.ownsRow.drew (own_empty _ (by first | exact LT1 | exact lt41 | (simp; omega)) (by rfl))) (by assumption)) a2 x.data.length c2 (byteCells x.data) (by rfl) (HS.out _ (by (repeat first | exact zR | assumption | apply zA | apply zS | apply zD | apply zN | refine zT (by assumption) ?_ | omega | simp <;> omega))) HONE.out (by simp only [maxLen]; omega) (by omega) (by first | exact LT1 | exact lt41 | (simp; omega)) ?_; intro a5 c5 w5 hown5 hgrow5 hat5; rw [Nat.zero_add, List.nil_append] at hown5; have k5 : Below W.heap.size W w5 := (Below.grown (by (repeat first | exact zR | assumption | apply zA | apply zS | apply zD | apply zN | refine zT (by assumption) ?_ | omega | simp <;> omega)) hgrow5 (by first | exact k4.size | exact Nat.le_succ_of_le k4.size | exact Nat.le_refl _ | exact Nat.le_succ _ | (have q4 := k4.size; simp; omega) | (simp; done)) (fun g e => by first | (have e' : some w4.heap.size = some g := e; injection e' with e'; subst e'; exact k4.size) | (have e' : some W.heap.size = some g := e; injection e' with e'; exact Nat.le_of_eq e')));  have z0 := (k5.cell (p := ⟨w.heap.size, 0, none⟩) LT0).trans c00; have y0 := (Q1.out.below k5 LT1).cell 0; have y1 := (Q1.out.below k5 LT1).cell 1; have y2 := (Q1.out.below k5 LT1).free 0; have y3 := (Q1.out.below k5 LT1).free 1; have lt5 : w.heap.size < w5.heap.size := Nat.lt_of_lt_of_le LT0 k5.size; have lt51 : w.heap.size + 1 < w5.heap.size := Nat.lt_of_lt_of_le LT1 k5.size; have HG5 := hid hgrow5; have HO5 := hid hown5; have HAT5 := hid hat5; clear hgrow5 hown5 hat5)))
  all_goals
    have hw2 := HW.out
    have hr5 := own_bytes2 rfl HO5.out
    have hr6 : rLinksW.r (fun b => w.heap.size + 2 ≤ b ∧ b < w5.heap.size) w5 [.slice a4 x.links.length c4] x.links := by
      first
        | (refine rLinksW.mono (rLinksW.keep HR4.out fun b hb => ?_) fun b hb => ?_
           · obtain ⟨p1, p2⟩ := hb
             exact HG5.out.block b p2 (fun e => by have e' : some b = some W.heap.size := e; injection e' with e'; simp at p1; omega)
           · obtain ⟨p1, p2⟩ := hb
             have := HG5.out.size
             simp at p1
             exact ⟨by omega, by omega⟩)
        | (refine rLinksW.mono (rLinksW.keep HR4.out fun b hb => ?_) fun b hb => ?_
           · obtain ⟨p1, p2⟩ := hb
             exact (HG5.out.block b (by simp; omega) (fun e => by have e' : some b = some w4.heap.size := e; injection e' with e'; omega)).trans (Below.heap_alloc w4 _ b p2)
           · obtain ⟨p1, p2⟩ := hb
             have := HG5.out.size
             simp at p1 this
             exact ⟨by omega, by omega⟩)
    clear HR4 HG5 HO5 HAT5
    have hb5 : Below w.heap.size w w5 := below_then k5 hbW
    have Y0 : w5.cell? ⟨w.heap.size + 1, 0, none⟩ = some (.slice none 0 0) := y0
    have Y1 : w5.cell? ⟨w.heap.size + 1, 1, none⟩ = some (.slice none 0 0) := y1
    go_wp2
    refine bodyPost_ret (v := .agg #[.slice a4 x.links.length c4, .slice a5 x.data.length c5]) (by simp [results, Tryz.results88, go_sem, Y0, Y1]) rfl ⟨_, _, rfl, ?_, ?_, by (repeat first | exact zR | assumption | apply zA | apply zS | apply zD | apply zN | refine zT (by assumption) ?_ | omega | simp <;> omega)⟩
    · refine rLinksW.mono (rLinksW.keep hr6 fun b hb => ?_) fun b hb => ⟨by omega, by simp; omega⟩
      repeat rw [Below.heap_setCell _ _ _ _ (by dsimp only; omega)]
    · refine rBytes.mono (rBytes.keep hr5 fun b hb => ?_) fun b hb => ⟨by omega, by simp; omega⟩
      repeat rw [Below.heap_setCell _ _ _ _ (by dsimp only; omega)]
theorem entry_copy (x : Entry) (a1 a2 : Option Addr) (n1 c1 n2 c2 : Nat) (w : World) (hl : rLinks.r (· < w.heap.size) w [.slice a1 n1 c1] x.links) (hd : rBytes.r (· < w.heap.size) w [.slice a2 n2 c2] x.data)
  (hlen : x.links.length ≤ 1000000000000) (hdl : x.data.length ≤ 1000000000000) (hb : ∀ z ∈ x.links, z.backs.length ≤ 1000000000000) :
  Calls Tryz.prog 88 #[.agg #[.slice a1 n1 c1, .slice a2 n2 c2]] w fun r w' => ∃ v1 v2, r = .returned (.agg #[v1, v2]) ∧ rLinks.r (Fresh w w') w' [v1] x.links ∧ rBytes.r (Fresh w w') w' [v2] x.data ∧ Below w.heap.size w w' :=
 (entry_copyW x a1 a2 n1 c1 n2 c2 w hl hd hlen hdl hb).mono fun r w' ⟨v1, v2, h1, h2, h3, h4⟩ => ⟨v1, v2, h1, linksW_links h2, h3, h4⟩
end Go.Proofs.YtkipiefcnjfdjaaGreat
namespace Go.Proofs.YtkipiefcnjfdjaaGreat
open Go.RowKit Go.Bs
set_option linter.unusedVariables false
set_option linter.unusedSimpArgs false
def Mild (x : Entry) : Prop := x.links.length ≤ 1000000000000 ∧ x.data.length ≤ 1000000000000 ∧ ∀ z ∈ x.links, z.backs.length ≤ 1000000000000
end Go.Proofs.YtkipiefcnjfdjaaGreat
namespace Go.Proofs.YtkipiefcnjfdjaaGreat
open Go.RowKit Go.Bs
set_option linter.unusedVariables false
set_option linter.unusedSimpArgs false
def MildB (x : Batch) : Prop := x.entries.length ≤ 1000000000000 ∧ ∀ z ∈ x.entries, Mild z
end Go.Proofs.YtkipiefcnjfdjaaGreat
namespace Go.Proofs.YtkipiefcnjfdjaaGreat
open Go.RowKit Go.Bs Go.Maps
set_option linter.unusedVariables false
set_option linter.unusedSimpArgs false
theorem linkZ_len_le (pos : Int) (l : List Link) (hR : linksR pos l = true) : (lnkF pos none l).length ≤ 51 * l.length := by
 have key : ∀ (l : List Link) (p : Option Int), (∀ x ∈ l, linkR pos x = true) → (lnkF pos p l).length ≤ 51 * l.length := by
  intro l
  induction l with
  | nil => intro p _; simp [lnkF]
  | cons x l ih =>
   intro p hx
   have h1 := hx x (by simp)
   simp only [linkR, Bool.and_eq_true, decide_eq_true_eq] at h1
   have h2 := ih (some x.stream) (fun y hy => hx y (by simp [hy]))
   have h3 := deltaB_len pos x.backs (by omega)
   cases p with
   | none =>
    have h4 := (varB_len x.stream.toNat).1
    simp only [lnkF, List.length_append, List.length_cons]
    omega
   | some q =>
    have h4 := (varB_len (x.stream - q - 1).toNat).1
    simp only [lnkF, List.length_append, List.length_cons]
    omega
 simp only [linksR, Bool.and_eq_true, decide_eq_true_eq, List.all_eq_true] at hR
 exact key l none hR.2.2
end Go.Proofs.YtkipiefcnjfdjaaGreat
namespace Go.Proofs.YtkipiefcnjfdjaaGreat
open Go.RowKit Go.Bs Go.Maps
set_option linter.unusedVariables false
set_option linter.unusedSimpArgs false
def headN (pos : Int) (e : Entry) : Nat := if entryR pos e = true then (headB pos e).length else 0
theorem headN_le (pos : Int) (e : Entry) : headN pos e ≤ 1000 := by
 unfold headN
 split
 ·rename_i h
  simp only [entryR, Bool.and_eq_true] at h
  have h1 := linkZ_len_le pos e.links h.1
  have h2 := h.1
  simp only [linksR, Bool.and_eq_true, decide_eq_true_eq] at h2
  have h3 := (varB_len e.links.length).1
  have h4 := (varB_len e.data.length).1
  simp only [headB, linksB, List.length_append]
  omega
 ·omega
theorem epoch_put0 (w : World) {g base most : Nat} {J : List UInt8} {a : Option Addr} {c : Nat} (h : PenAt w g base most J a c) (x : Nat) (hx : x < 18446744073709551616) (hfit : J.length + (varB x).length ≤ most) (hlen : J.length + (varB x).length ≤ 100000000000000) :
  Calls Tryz.prog 131 #[.pointer (some ⟨g, 0, none⟩), .int .u64 x, .bool true] w fun r w' => r = .returned (.tuple #[]) ∧ PenStep w g base most (J ++ varB x) a w' := by
 have HV := hid (varint_put w h x hx hfit hlen)
 clear h
 go_enter Tryz.func131, Tryz.ntmps131
 go_wp2_with fail
 refine HV.out.mono ?_
 rintro r w1 ⟨rfl, hst⟩
 have HST := hid hst
 clear hst
 go_wp2
 first | go_end0 | refine bodyPost_ret (results_none rfl _ _ _) rfl ?_
 exact ⟨rfl, HST.out⟩
theorem epoch_put (w : World) {g base most : Nat} {J : List UInt8} {a : Option Addr} {c : Nat} (h : PenAt w g base most J a c) (x : Nat) (hx : epR (x : Int) = true) (hfit : J.length + (varB x).length ≤ most) (hlen : J.length + (varB x).length ≤ 100000000000000) :
  Calls Tryz.prog 71 #[.pointer (some ⟨g, 0, none⟩), .int .u64 x] w fun r w' => r = .returned (.tuple #[]) ∧ PenStep w g base most (J ++ varB x) a w' := by
 have hx' := hx
 simp only [epR, decide_eq_true_eq] at hx'
 have HR := hid (epoch_right (x : Int) w)
 rw [hx] at HR
 have HV := hid (epoch_put0 w h x (by omega) hfit hlen)
 clear h hx hx'
 go_enter Tryz.func71, Tryz.ntmps71
 go_wp2_with fail
 refine HR.out.mono ?_
 rintro r w1 ⟨rfl, rfl⟩
 go_wp2_with fail
 refine HV.out.mono ?_
 rintro r w1 ⟨rfl, hst⟩
 have HST := hid hst
 clear hst
 go_wp2
 first | go_end0 | refine bodyPost_ret (results_none rfl _ _ _) rfl ?_
 exact ⟨rfl, HST.out⟩
theorem epoch_putpos (w : World) {g base most : Nat} {J : List UInt8} {a : Option Addr} {c : Nat} (h : PenAt w g base most J a c) (x : Nat) (hx : poR (x : Int) = true) (hfit : J.length + (varB x).length ≤ most) (hlen : J.length + (varB x).length ≤ 100000000000000) :
  Calls Tryz.prog 72 #[.pointer (some ⟨g, 0, none⟩), .int .u64 x] w fun r w' => r = .returned (.tuple #[]) ∧ PenStep w g base most (J ++ varB x) a w' := by
 have hx' := hx
 simp only [poR, decide_eq_true_eq] at hx'
 have HR := hid (epoch_pos (x : Int) w)
 rw [hx] at HR
 have HV := hid (epoch_put0 w h x (by omega) hfit hlen)
 clear h hx hx'
 go_enter Tryz.func72, Tryz.ntmps72
 go_wp2_with fail
 refine HR.out.mono ?_
 rintro r w1 ⟨rfl, rfl⟩
 go_wp2_with fail
 refine HV.out.mono ?_
 rintro r w1 ⟨rfl, hst⟩
 have HST := hid hst
 clear hst
 go_wp2
 first | go_end0 | refine bodyPost_ret (results_none rfl _ _ _) rfl ?_
 exact ⟨rfl, HST.out⟩
end Go.Proofs.YtkipiefcnjfdjaaGreat
namespace Go.Proofs.YtkipiefcnjfdjaaGreat
open Go.RowKit Go.Bs Go.Maps
set_option linter.unusedVariables false
set_option linter.unusedSimpArgs false
def OwnB (w : World) (base : Nat) (v : Value) (L : List UInt8) : Prop := w.ownsRow base 5 1 v L.length (byteCells L)
theorem byteCells_app3 (l l' : List UInt8) : byteCells l ++ byteCells l' = byteCells (l ++ l') := by simp [byteCells]
theorem OwnB.app {w : World} {base : Nat} {v : Value} {L D : List UInt8} (h : w.ownsRow base 5 1 v (L.length + D.length) (byteCells L ++ byteCells D)) : OwnB w base v (L ++ D) := by
 unfold OwnB
 rw [List.length_append, ← byteCells_app3]
 exact h
end Go.Proofs.YtkipiefcnjfdjaaGreat
namespace Go.Proofs.YtkipiefcnjfdjaaGreat
open Go.RowKit Go.Bs Go.Maps
set_option linter.unusedVariables false
set_option linter.unusedSimpArgs false
theorem OwnB.low {w : World} {b b' : Nat} {v : Value} {L : List UInt8} (h : OwnB w b v L) (hb : b' ≤ b) : OwnB w b' v L := by
 obtain ⟨h1, h2⟩ := h
 refine ⟨h1, ?_⟩
 rcases h2 with h2 | ⟨g, cap, cur, e1, e2, e3⟩
 ·exact .inl h2
 ·exact .inr ⟨g, cap, cur, e1, by omega, e3⟩
theorem OwnB.read {w : World} {b : Nat} {v : Value} {L : List UInt8} (h : OwnB w b v L) : rBytes.r (fun q => b ≤ q ∧ q < w.heap.size) w [v] L := own_bytes2 rfl h
theorem OwnB.form {w : World} {b : Nat} {v : Value} {L : List UInt8} (h : OwnB w b v L) : ∃ a c, v = .slice a L.length c := own_form h
set_option maxRecDepth 100000 in
set_option maxHeartbeats 1600000 in
theorem pen_bytes_own (w : World) {g base most : Nat} {J : List UInt8} {a : Option Addr} {c : Nat} (h : PenAt w g base most J a c) :
  Calls Tryz.prog 20 #[.pointer (some ⟨g, 0, none⟩)] w fun r w' => ∃ v, r = .returned (.tuple #[v, .int .i64 0]) ∧ OwnB w' w.heap.size v J ∧ Below w.heap.size w w' := by
 obtain ⟨i0, hi, hz0, hz1, hz2⟩ := info_parts info8
 have HC := hid (pen_code w h)
 have hB := own_bytes2 rfl h.own
 obtain ⟨_, hm, _, _⟩ := sl_len hB
 have HD := hid (rBytes.mono hB (S' := (· < w.heap.size)) fun q hq => hq.2)
 have HONE := hid (byteCells_one J)
 have c1 : w.cell? ⟨g, 1, none⟩ = some (.slice a J.length c) := h.blk.cell 1
 have hg1 := h.blk.lt
 have hle := h.le; have hmo := h.most; have hle14 := h.len
 clear h hB
 go_enter Tryz.func20, Tryz.ntmps20
 go_wp2_with fail
 refine HC.out.mono ?_
 rintro r w0 ⟨rfl, rfl⟩
 go_wp2_with (at_builtin; go_loud (refine wpList_append_src rfl _ _ _ rfl w.heap.size 5 i0 (.int .u8 0) 1 1 Tryz.underlying28 hi hz0 hz1 hz2 rfl (by decide) _ 0 [] rfl (own_empty _ (Nat.le_refl _) rfl) a J.length c (byteCells J) rfl (src_bytes (lift HD.out (by (repeat first | exact zR | assumption | apply zA | apply zS | apply zD | apply zN | refine zT (by assumption) ?_ | omega | simp <;> omega)))) HONE.out (by simp only [maxLen]; omega) (by omega) (by simp) ?_; intro v' w1 hown1 hgrow1 hat1; rw [Nat.zero_add, List.nil_append] at hown1; obtain ⟨a', c', rfl⟩ := own_form hown1; have HG := hid hgrow1; have HO := hid hown1; clear hgrow1 hown1 hat1))
 have hb1 : Below w.heap.size w w1 := Below.grown (by (repeat first | exact zR | assumption | apply zA | apply zS | apply zD | apply zN | refine zT (by assumption) ?_ | omega | simp <;> omega)) HG.out (by simp) (fun g e => by
  have e' : some w.heap.size = some g := e
  injection e' with e'
  omega)
 go_ret2
 exact ⟨_, rfl, HO.out, hb1⟩
theorem bytesWorld_below (w : World) (e : TypeId) (s : ByteArray) : Below w.heap.size w (Lib.bytesWorld w e s) := by
 refine ⟨?_, ?_, ?_, ?_, fun j hj => Lib.bytesWorld_at_old w e s j hj⟩
 ·simp [Lib.bytesWorld, World.freeze, World.alloc, World.drew, -World.alloc_eq, -World.drew_eq]
 ·simp [Lib.bytesWorld, World.freeze, World.alloc, World.drew, -World.alloc_eq, -World.drew_eq]
 ·simp [Lib.bytesWorld, World.freeze, World.alloc, World.drew, -World.alloc_eq, -World.drew_eq]
 ·rw [Lib.bytesWorld_size]; omega
theorem bytesWorld_row (w : World) (e : TypeId) (s : ByteArray) (hs : s.size ≤ 1000000) :
  rBytes.r (fun q => w.heap.size ≤ q ∧ q < (Lib.bytesWorld w e s).heap.size) (Lib.bytesWorld w e s) [.slice (some ⟨w.heap.size, 0, none⟩) s.size (grownCap w s.size 0 e)] s.data.toList := by
 have hn : s.size = s.data.toList.length := by simp
 refine rSl_mk (xs := s.data.toList) (c := grownCap w s.size 0 e) (by rw [← hn]) (hn ▸ grownCap_ge w s.size 0 e) (grownCap_le_maxLen _ _ _ _ (by simp only [maxLen]; omega)) (.inr ⟨w.heap.size, 0, rfl, ⟨Nat.le_refl _, by rw [Lib.bytesWorld_size]; omega⟩, fun i x hi => ⟨[.int .u8 (x.toNat : Int)], rfl, fun j v hj => ?_, rfl⟩⟩)
 have hj0 : j = 0 := by
  rcases j with _ | j
  ·rfl
  ·simp at hj
 subst hj0
 simp at hj
 subst hj
 have hil : i < s.data.toList.length := (List.getElem?_eq_some_iff.1 hi).1
 rw [Nat.zero_add, Nat.mul_one, Nat.add_zero, Lib.bytesWorld_cell w e s i (by omega), List.getD_eq_getElem?_getD, hi]
 rfl
set_option maxRecDepth 100000 in
theorem pen_text (w : World) {g base most : Nat} {J : List UInt8} {a : Option Addr} {c : Nat} (h : PenAt w g base most J a c) (s : ByteArray) (hs : s.size ≤ 1000000) (D : List UInt8) (hD : s.data.toList = D) (hfit : J.length + D.length ≤ most) (hlen : J.length + D.length ≤ 100000000000000) :
  Calls Tryz.prog 265 #[.pointer (some ⟨g, 0, none⟩), .string s] w fun r w' => r = .returned (.tuple #[]) ∧ PenStep w g base most (J ++ D) a w' := by
 have kc := fun (W : World) => Lib.run_convert_string_bytes (P := Tryz.prog) W 9 28 5 s Tryz.underlying9 Tryz.underlying28 Tryz.underlying5
 have hb := bytesWorld_below w 5 s
 have hr := bytesWorld_row w 5 s hs
 rw [hD] at hr
 have HQ := hid (pen_put (Lib.bytesWorld w 5 s) (h.later hb) D _ _ _ (rBytes.mono hr fun q hq => hq.2) hfit hlen)
 have HB := hid hb
 clear hb hr h hD
 go_enter Tryz.func265, Tryz.ntmps265
 go_wp2_with fail
 refine HQ.out.mono ?_
 rintro r w2 ⟨rfl, hst⟩
 have HST := hid (PenStep.later HB.out hst)
 clear hst
 go_wp2
 first | go_end0 | refine bodyPost_ret (results_none rfl _ _ _) rfl ?_
 exact ⟨rfl, HST.out⟩
end Go.Proofs.YtkipiefcnjfdjaaGreat
namespace Go.Bs
open Go.RowKit
theorem varB_len_pow : ∀ (k x : Nat), x < 128 ^ (k + 1) → x < 18446744073709551616 → (varB x).length ≤ k + 1
 | 0, x, h, _ => by rw [varB_small (by simpa using h)]; simp
 | k + 1, x, h, h2 => by
  by_cases hx : x < 128
  ·rw [varB_small hx]; simp
  ·rw [varB_step hx h2, List.length_cons]
   have := varB_len_pow k (x / 128) (by rw [Nat.div_lt_iff_lt_mul (by decide)]; rw [Nat.pow_succ] at h; exact h) (by omega)
   omega
theorem varB_len9 {x : Nat} (h : x < 9223372036854775808) : (varB x).length ≤ 9 := varB_len_pow 8 x (by simpa using h) (by omega)
def headP (v ep bs : Nat) : List UInt8 := [84, 72, 79, 76, UInt8.ofNat v] ++ (varB ep ++ (if v = 1 then varB bs else []))
def headHB (v ep bs : Nat) : List UInt8 := headP v ep bs ++ fixedB 4 (crcSum (headP v ep bs))
end Go.Bs
namespace Go.Proofs.YtkipiefcnjfdjaaGreat
open Go.RowKit Go.Bs Go.Maps
set_option linter.unusedVariables false
set_option linter.unusedSimpArgs false
def PenOk (w1 : World) (g most : Nat) (J : List UInt8) (w : World) : Prop := PenStep w1 g g most J none w
theorem PenOk.new {w : World} {g most : Nat} (h : PenAt w g g most [] none 0) : PenOk w g most [] w := PenStep.refl h
theorem PenOk.at {w1 w : World} {g most : Nat} {J : List UInt8} (h : PenOk w1 g most J w) : ∃ a c, PenAt w g g most J a c ∧ (∀ {J' : List UInt8} {w' : World}, PenStep w g g most J' a w' → PenOk w1 g most J' w') ∧ (∀ q, q < w1.heap.size → q ≠ g → ¬ PenF g a q) := by
 obtain ⟨a, c, h1, h2, h3⟩ := h
 refine ⟨a, c, h1, fun k => PenStep.trans (J := J) h2 h3 k, fun q hq hn e => ?_⟩
 rw [penF_is] at e
 rcases e with e | e
 ·exact hn e
 ·rcases h3 with h3 | ⟨q', h3, h4⟩
  ·rw [h3] at e; cases e
  ·rw [h3] at e; have := Option.some.inj e; omega
theorem PenOk.later {w1 w w' : World} {g most : Nat} {J : List UInt8} (h : PenOk w1 g most J w) (hb : Below w.heap.size w w') : PenOk w1 g most J w' := by
 obtain ⟨a, c, h1, k, _⟩ := h.at
 exact k ⟨a, c, h1.later hb, Tch.of_later hb, .inl rfl⟩
theorem PenOk.tch {w1 w : World} {g most : Nat} {J : List UInt8} (h : PenOk w1 g most J w) : Tch (· = g) w1 w := by
 obtain ⟨a, c, h1, h2, h3⟩ := h
 refine h2.mono fun q _ e => ?_
 rw [penF_is] at e
 rcases e with e | e
 ·exact e
 ·cases e
theorem PenOk.blk {w1 w : World} {g most : Nat} {J : List UInt8} (h : PenOk w1 g most J w) {b : Nat} {t : TypeId} {cs : Array Value} (hB : Blk w1 b t cs) (hn : b ≠ g) : Blk w b t cs := hB.tch h.tch hn
theorem PenOk.below {w0 w1 w : World} {g most : Nat} {J : List UInt8} (h : PenOk w1 g most J w) (h0 : Below w0.heap.size w0 w1) (hg : w0.heap.size ≤ g) : Below w0.heap.size w0 w :=
 h0.trans (h.tch.to_below h0.size fun b _ e => by omega)
theorem lit_byte (w : World) (v : Nat) (hv : v < 256) : rBytes.r (· < (w.alloc (.cells #[.int .u8 (v : Int)] 5)).heap.size) (w.alloc (.cells #[.int .u8 (v : Int)] 5)) [.slice (some ⟨w.heap.size, 0, none⟩) 1 1] [UInt8.ofNat v] := by
 have h := lit_one w (UInt8.ofNat v)
 rw [← byte_small hv] at h
 exact h
theorem varB_pos9 : (varB 4611686018427387903).length = 9 := by decide +kernel
theorem header_most (w : World) : Calls Tryz.prog 222 #[] w fun r w' => r = .returned (.int .i64 27) ∧ Below w.heap.size w w' := by
 have HS := hid (varint_size 4611686018427387903 (by decide) w)
 rw [varB_pos9] at HS
 go_enter Tryz.func222, Tryz.ntmps222
 go_wp2_with fail
 refine HS.out.mono ?_
 rintro r w1 ⟨rfl, hb1⟩
 go_wp2
 go_ret
 exact ⟨rfl, hb1⟩
theorem header_based (v : Int) (w : World) : Calls Tryz.prog 232 #[.int .i64 v] w fun r w' => r = .returned (.bool (decide (v = 1))) ∧ w = w' := by
 by_cases h : v = 1
 ·have d1 : (v == 1) = true := by simp [h]
  have hff : Hid (decide (v = 1) = true) := hid (decide_eq_true h)
  clear h
  go_enter Tryz.func232, Tryz.ntmps232
  go_wp2
  go_ret
  exact ⟨by rw [hff.out]; first | rfl | simp [d1], rfl⟩
 ·have d1 : (v == 1) = false := by simp [h]
  have hff : Hid (decide (v = 1) = false) := hid (decide_eq_false h)
  clear h
  go_enter Tryz.func232, Tryz.ntmps232
  go_wp2
  go_ret
  exact ⟨by rw [hff.out]; first | rfl | simp [d1], rfl⟩
set_option maxRecDepth 100000 in
set_option maxHeartbeats 1600000 in
theorem header_plain (v : Nat) (hv : 1 ≤ v ∧ v ≤ 3) (ep bs : Nat) (hep : epR (ep : Int) = true) (hbs : poR (bs : Int) = true) (w : World) :
  Calls Tryz.prog 235 #[.agg #[.int .i64 v, .int .u64 ep, .int .u64 bs]] w fun r w' => ∃ x, r = .returned x ∧ rBytes.r (fun q => w.heap.size ≤ q ∧ q < w'.heap.size) w' [x] (headP v ep bs) ∧ Below w.heap.size w w' := by
 have hep' := hep
 simp only [epR, decide_eq_true_eq] at hep'
 have hbs' := hbs
 simp only [poR, decide_eq_true_eq] at hbs'
 have l1 := varB_len9 (x := ep) (by omega)
 have l2 := varB_len9 (x := bs) (by omega)
 have HB := hid (header_based (v : Int))
 have HN := hid (fun W : World => pen_new W 27 (by omega))
 have HT := hid (fun (W : World) (g : Nat) (h : PenAt W g g 27 [] none 0) => pen_text W h ⟨#[84, 72, 79, 76]⟩ (by decide) [84, 72, 79, 76] rfl (by decide) (by decide))
 go_enter Tryz.func235, Tryz.ntmps235
 go_wp2_with fail
 refine (header_most _).mono ?_
 rintro r w1 ⟨rfl, hb1⟩
 go_wp2_with fail
 refine (HN.out w1).mono ?_
 rintro r w2 ⟨rfl, hp2, hb2⟩
 have k2 := PenOk.new hp2
 go_wp2_with fail
 refine (HT.out w2 _ hp2).mono ?_
 rintro r w3 ⟨rfl, hs3⟩
 have k3 : PenOk w2 w1.heap.size 27 [84, 72, 79, 76] w3 := hs3
 have hz : w.heap.size < w1.heap.size := by have := hb1.size; simp at this; omega
 have hz2 := hb2.size
 have hbw2 : Below w.heap.size w w2 := below_then hb2 (by (repeat first | with_reducible (first | exact zR | assumption | apply zA | apply zS | apply zD | apply zN) | refine zT (by with_reducible assumption) ?_ | omega | simp <;> omega))
 have hbox : Blk w2 w.heap.size 211 #[.int .i64 v, .int .u64 ep, .int .u64 bs] := ((Blk.new w _ _).later hb1).later hb2
 have HBX := hid hbox
 have HBW := hid hbw2
 have K3 := hid k3
 clear hs3 hb1 hb2 hbox hbw2 hp2 k2 k3
 have q3 := K3.out.blk HBX.out (by omega)
 have c0 : w3.cell? ⟨w.heap.size, 0, none⟩ = some (.int .i64 v) := q3.cell 0
 have c1 : w3.cell? ⟨w.heap.size, 1, none⟩ = some (.int .u64 ep) := q3.cell 1
 clear q3
 go_wp2_with fail
 obtain ⟨a3, b3, p3, k3, _⟩ := K3.out.at
 have hW : Below w3.heap.size w3 (w3.alloc (.cells #[.int .u8 (v : Int)] 5)) := by (repeat first | exact zR | assumption | apply zA | apply zS | apply zD | apply zN | refine zT (by assumption) ?_ | omega | simp <;> omega)
 have hlit := lit_byte w3 v (by omega)
 generalize w3.alloc (.cells #[.int .u8 (v : Int)] 5) = W3 at *
 refine (pen_put W3 (p3.later hW) [UInt8.ofNat v] _ 1 1 hlit (by simp) (by simp)).mono ?_
 rintro r w4 ⟨rfl, hs4⟩
 have k4 := k3 (PenStep.later hW hs4)
 have K4 := hid k4
 clear k3 hs4 hW hlit k4 p3
 have q4 := K4.out.blk HBX.out (by omega)
 have c0' : w4.cell? ⟨w.heap.size, 0, none⟩ = some (.int .i64 v) := q4.cell 0
 have c1' : w4.cell? ⟨w.heap.size, 1, none⟩ = some (.int .u64 ep) := q4.cell 1
 have c2' : w4.cell? ⟨w.heap.size, 2, none⟩ = some (.int .u64 bs) := q4.cell 2
 clear q4
 go_wp2_with fail
 obtain ⟨a4, b4, p4, k4, _⟩ := K4.out.at
 refine (epoch_put w4 p4 ep hep (by simp; omega) (by simp; omega)).mono ?_
 rintro r w5 ⟨rfl, hs5⟩
 have K5 := hid (k4 hs5)
 clear k4 hs5 p4
 have q5 := K5.out.blk HBX.out (by omega)
 have x0 : w5.cell? ⟨w.heap.size, 0, none⟩ = some (.int .i64 v) := q5.cell 0
 have x2 : w5.cell? ⟨w.heap.size, 2, none⟩ = some (.int .u64 bs) := q5.cell 2
 clear q5 c0 c1 c0' c1' c2'
 by_cases hv1 : v = 1
 ·have hdd : decide ((v : Int) = 1) = true := by simp; omega
  rw [hdd] at HB
  have hff : Hid (headP v ep bs = [84, 72, 79, 76] ++ [UInt8.ofNat v] ++ varB ep ++ varB bs) := hid (by unfold headP; rw [if_pos hv1]; simp)
  clear hdd hv1
  go_wp2_with fail
  refine (HB.out _).mono ?_
  rintro r w6 ⟨rfl, rfl⟩
  go_wp2_with fail
  obtain ⟨a5, b5, p5, k5, _⟩ := K5.out.at
  refine (epoch_putpos w5 p5 bs hbs (by simp; omega) (by simp; omega)).mono ?_
  rintro r w7 ⟨rfl, hs7⟩
  have K7 := hid (k5 hs7)
  clear k5 hs7 p5
  go_wp2_with fail
  obtain ⟨a7, b7, p7, k7, _⟩ := K7.out.at
  refine (pen_bytes w7 p7).mono ?_
  rintro r w8 ⟨x, rfl, hr, hb8⟩
  have hbw := K7.out.below HBW.out (by omega)
  have HR := hid hr
  clear hr k7 p7
  go_wp2
  go_ret
  refine ⟨_, rfl, ?_, below_then hb8 hbw⟩
  rw [hff.out]
  exact rBytes.mono HR.out fun q hq => ⟨by have := hbw.size; omega, hq.2⟩
 ·have hdd : decide ((v : Int) = 1) = false := by simp; omega
  rw [hdd] at HB
  have hff : Hid (headP v ep bs = [84, 72, 79, 76] ++ [UInt8.ofNat v] ++ varB ep) := hid (by unfold headP; rw [if_neg hv1]; simp)
  clear hdd hv1
  go_wp2_with fail
  refine (HB.out _).mono ?_
  rintro r w6 ⟨rfl, rfl⟩
  go_wp2_with fail
  obtain ⟨a7, b7, p7, k7, _⟩ := K5.out.at
  refine (pen_bytes w5 p7).mono ?_
  rintro r w8 ⟨x, rfl, hr, hb8⟩
  have hbw := K5.out.below HBW.out (by omega)
  have HR := hid hr
  clear hr k7 p7
  go_wp2
  go_ret
  refine ⟨_, rfl, ?_, below_then hb8 hbw⟩
  rw [hff.out]
  exact rBytes.mono HR.out fun q hq => ⟨by have := hbw.size; omega, hq.2⟩
def hdrR (v : Int) (ep bs : Int) : Bool := decide (1 ≤ v ∧ v ≤ 3) && (epR ep && (poR bs && (decide (v = 1) || decide (bs = 0))))
set_option maxRecDepth 100000 in
theorem header_right (v ep bs : Int) (h : hdrR v ep bs = true) (w : World) :
  Calls Tryz.prog 257 #[.agg #[.int .i64 v, .int .u64 ep, .int .u64 bs]] w fun r w' => r = .returned (.bool true) ∧ Below w.heap.size w w' := by
 simp only [hdrR, Bool.and_eq_true, Bool.or_eq_true, decide_eq_true_eq] at h
 obtain ⟨hv, he, hp, hb⟩ := h
 have HE := hid (epoch_right ep); rw [he] at HE
 have HP := hid (epoch_pos bs); rw [hp] at HP
 have HB := hid (header_based v)
 have d1 : decide (1 ≤ v) = true := decide_eq_true hv.1
 have d2 : decide (v ≤ 3) = true := decide_eq_true hv.2
 by_cases hv1 : v = 1
 ·rw [decide_eq_true hv1] at HB
  clear he hp hb hv hv1
  go_enter Tryz.func257, Tryz.ntmps257
  go_wp2_with fail
  refine (HE.out _).mono ?_
  rintro r w1 ⟨rfl, rfl⟩
  go_wp2_with fail
  refine (HP.out _).mono ?_
  rintro r w1 ⟨rfl, rfl⟩
  go_wp2_with fail
  refine (HB.out _).mono ?_
  rintro r w1 ⟨rfl, rfl⟩
  go_wp2
  go_ret
  exact ⟨rfl, by (repeat first | exact zR | assumption | apply zA | apply zS | apply zD | apply zN | refine zT (by assumption) ?_ | omega | simp <;> omega)⟩
 ·rw [decide_eq_false hv1] at HB
  obtain rfl : bs = 0 := by omega
  clear he hp hb hv hv1
  go_enter Tryz.func257, Tryz.ntmps257
  go_wp2_with fail
  refine (HE.out _).mono ?_
  rintro r w1 ⟨rfl, rfl⟩
  go_wp2_with fail
  refine (HP.out _).mono ?_
  rintro r w1 ⟨rfl, rfl⟩
  go_wp2_with fail
  refine (HB.out _).mono ?_
  rintro r w1 ⟨rfl, rfl⟩
  go_wp2
  go_ret
  exact ⟨rfl, by (repeat first | exact zR | assumption | apply zA | apply zS | apply zD | apply zN | refine zT (by assumption) ?_ | omega | simp <;> omega)⟩
end Go.Proofs.YtkipiefcnjfdjaaGreat
namespace Go.Bs
open Go.RowKit
theorem headP_len {v ep bs : Nat} (h1 : (varB ep).length ≤ 9) (h2 : (varB bs).length ≤ 9) : (headP v ep bs).length ≤ 23 := by
 unfold headP
 simp only [List.length_append, List.length_cons, List.length_nil]
 split <;> (try simp only [List.length_nil]) <;> omega
end Go.Bs
namespace Go.Proofs.YtkipiefcnjfdjaaGreat
open Go.RowKit Go.Bs Go.Maps
set_option linter.unusedVariables false
set_option linter.unusedSimpArgs false
def frameB (p : List UInt8) : List UInt8 := blobB p ++ fixedB 4 (crcSum p)
theorem frameB_len (p : List UInt8) : (frameB p).length = (blobB p).length + 4 := by simp [frameB, fixedB_len]
set_option maxRecDepth 100000 in
set_option maxHeartbeats 1600000 in
theorem header_put (w : World) {g base most : Nat} {J : List UInt8} {a : Option Addr} {c : Nat} (h : PenAt w g base most J a c) (v ep bs : Nat) (hR : hdrR (v : Int) ep bs = true) (hfit : J.length + (headHB v ep bs).length ≤ most) (hlen : J.length + (headHB v ep bs).length ≤ 100000000000000) :
  Calls Tryz.prog 223 #[.pointer (some ⟨g, 0, none⟩), .agg #[.int .i64 v, .int .u64 ep, .int .u64 bs]] w fun r w' => r = .returned (.tuple #[]) ∧ PenStep w g base most (J ++ headHB v ep bs) a w' := by
 have HR := hid (header_right v ep bs hR)
 have hR' := hR
 simp only [hdrR, Bool.and_eq_true, Bool.or_eq_true, decide_eq_true_eq] at hR'
 obtain ⟨hv, he, hp, _⟩ := hR'
 have HP := hid (header_plain v (by omega) ep bs he hp)
 have hb : Hid (headHB v ep bs = headP v ep bs ++ fixedB 4 (crcSum (headP v ep bs))) := hid rfl
 have HPN := hid h
 have hl : (headHB v ep bs).length = (headP v ep bs).length + 4 := by rw [hb.out]; simp [fixedB_len]
 rw [hl] at hfit hlen
 have HL := crcSum_lt (headP v ep bs)
 have HC := hid (fun (W : World) (a : Option Addr) (n c : Nat) h => crc_sum (headP v ep bs) a n c W h)
 generalize headHB v ep bs = K at *
 generalize crcSum (headP v ep bs) = s at *
 generalize headP v ep bs = D at *
 clear h hR he hp hv hl
 go_enter Tryz.func223, Tryz.ntmps223
 go_wp2_with fail
 refine (HR.out _).mono ?_
 rintro r w1 ⟨rfl, hb1⟩
 have hbx : Blk w1 w.heap.size 211 #[.int .i64 v, .int .u64 ep, .int .u64 bs] := (Blk.new w _ _).later hb1
 have hbw1 : Below w.heap.size w w1 := by (repeat first | exact zR | assumption | apply zA | apply zS | apply zD | apply zN | refine zT (by assumption) ?_ | omega | simp <;> omega)
 have c0 : w1.cell? ⟨w.heap.size, 0, none⟩ = some (.int .i64 v) := hbx.cell 0
 have c1 : w1.cell? ⟨w.heap.size, 1, none⟩ = some (.int .u64 ep) := hbx.cell 1
 have c2 : w1.cell? ⟨w.heap.size, 2, none⟩ = some (.int .u64 bs) := hbx.cell 2
 clear hbx
 go_wp2_with fail
 refine (HP.out _).mono ?_
 rintro r w2 ⟨x, rfl, hr, hb2⟩
 obtain ⟨a2, c2, hv2, hr2, _⟩ := sl_form hr
 simp only [List.cons.injEq, and_true] at hv2
 subst hv2
 have hbw2 := below_then hb2 hbw1
 have hP2 := HPN.out.later hbw2
 have HD := hid hr2
 have hz2 := hbw1.size
 clear hr hr2
 go_wp2_with fail
 refine (pen_put w2 hP2 D a2 _ c2 (rBytes.mono HD.out fun q hq => hq.2) (by omega) (by omega)).mono ?_
 rintro r w3 ⟨rfl, a3, c3, p3, t3, h3⟩
 have hs3 := t3.size
 have hno : ∀ q, w.heap.size ≤ q → ¬ PenF g a q := fun q hq hf => by have := (HPN.out.own_lt hf).2; omega
 have HD3 := hid (rBytes.keep HD.out fun q hq => t3.block q hq.2 (hno q (by omega)))
 have HST := hid (fun (J' : List UInt8) (W : World) (k : PenStep w3 g base most J' a3 W) => PenStep.later (J' := J') hbw2 (PenStep.trans (J := J ++ D) t3 h3 k))
 have P3 := hid p3
 clear p3 t3 h3 hno hP2
 go_wp2_with fail
 refine (HC.out w3 a2 _ c2 (rBytes.mono HD3.out fun q hq => by have := hq.2; omega)).mono ?_
 rintro r w4 ⟨rfl, hb4⟩
 have e1 : (s : Int) % 18446744073709551616 = s := by omega
 go_wp2_with fail
 refine (pen_wfixed w4 (P3.out.later hb4) s (by omega) 4 (by omega) (by simp; omega) (by simp; omega)).mono ?_
 rintro r w5 ⟨rfl, hs5⟩
 have hst := HST.out _ _ (PenStep.later hb4 hs5)
 rw [List.append_assoc, ← hb.out] at hst
 have HST2 := hid hst
 clear hst hs5
 go_wp2
 first | go_end0 | refine bodyPost_ret (results_none rfl _ _ _) rfl ?_
 exact ⟨rfl, HST2.out⟩
set_option maxRecDepth 100000 in
set_option maxHeartbeats 1600000 in
theorem header_bytes (w : World) (v ep bs : Nat) (hR : hdrR (v : Int) ep bs = true) :
  Calls Tryz.prog 174 #[.agg #[.int .i64 v, .int .u64 ep, .int .u64 bs]] w fun r w' => ∃ x, r = .returned (.tuple #[x, .int .i64 0]) ∧ OwnB w' w.heap.size x (headHB v ep bs) ∧ Below w.heap.size w w' := by
 have hR' := hR
 simp only [hdrR, epR, poR, Bool.and_eq_true, Bool.or_eq_true, decide_eq_true_eq] at hR'
 obtain ⟨hv, he, hp, _⟩ := hR'
 have hl : (headHB v ep bs).length ≤ 27 := by
  have := headP_len (v := v) (varB_len9 (x := ep) (by omega)) (varB_len9 (x := bs) (by omega))
  simp only [headHB, List.length_append, fixedB_len]
  omega
 have HN := hid (fun W : World => pen_new W 27 (by omega))
 have HP := hid (fun (W : World) (g : Nat) (h : PenAt W g g 27 [] none 0) => header_put W h v ep bs hR (by simpa using hl) (by simp; omega))
 generalize headHB v ep bs = K at *
 clear hR hv he hp
 go_enter Tryz.func174, Tryz.ntmps174
 go_wp2_with fail
 refine (header_most _).mono ?_
 rintro r w1 ⟨rfl, hb1⟩
 go_wp2_with fail
 refine (HN.out w1).mono ?_
 rintro r w2 ⟨rfl, hp2, hb2⟩
 have hbox := ((Blk.new w 211 #[.int .i64 v, .int .u64 ep, .int .u64 bs]).later hb1).later hb2
 have c0 : w2.cell? ⟨w.heap.size, 0, none⟩ = some (.int .i64 v) := hbox.cell 0
 have c1 : w2.cell? ⟨w.heap.size, 1, none⟩ = some (.int .u64 ep) := hbox.cell 1
 have c2 : w2.cell? ⟨w.heap.size, 2, none⟩ = some (.int .u64 bs) := hbox.cell 2
 have hbw2 : Below w.heap.size w w2 := below_then hb2 (by (repeat first | with_reducible (first | exact zR | assumption | apply zA | apply zS | apply zD | apply zN) | refine zT (by with_reducible assumption) ?_ | omega | simp <;> omega))
 have hz1 : w.heap.size < w1.heap.size := by have := hb1.size; simp at this; omega
 have HQ := hid (HP.out w2 _ hp2)
 clear hbox hp2
 go_wp2_with fail
 refine HQ.out.mono ?_
 rintro r w3 ⟨rfl, hs3⟩
 have K3 : Hid (PenOk w2 w1.heap.size 27 K w3) := hid hs3
 clear hs3 HQ
 go_wp2_with fail
 obtain ⟨a7, b7, p7, k7, _⟩ := K3.out.at
 refine (pen_bytes_own w3 p7).mono ?_
 rintro r w8 ⟨x, rfl, hr, hb8⟩
 have hbw := K3.out.below hbw2 (by omega)
 have HR := hid hr
 clear hr k7 p7
 go_wp2
 go_ret2
 exact ⟨_, rfl, HR.out.low hbw.size, below_then hb8 hbw⟩
theorem frame_size (n : Nat) (hn : n ≤ 100000000000000) (w : World) :
  Calls Tryz.prog 259 #[.int .i64 n] w fun r w' => r = .returned (.int .i64 ((varB n).length + n + 4 : Nat)) ∧ Below w.heap.size w w' := by
 have HS := hid (blob_size n hn w)
 have hl := varB_len n
 generalize (varB n).length = k at *
 go_enter Tryz.func259, Tryz.ntmps259
 go_wp2_with fail
 refine HS.out.mono ?_
 rintro r w1 ⟨rfl, hb1⟩
 go_wp2
 go_ret
 exact ⟨by first | rfl | simp, hb1⟩
set_option maxRecDepth 100000 in
set_option maxHeartbeats 1600000 in
theorem frame_put (w : World) {g base most : Nat} {J : List UInt8} {a : Option Addr} {c : Nat} (h : PenAt w g base most J a c) (D : List UInt8) (ad : Option Addr) (nd cd : Nat)
  (hD : rBytes.r (fun q => q < w.heap.size ∧ ¬ PenF g a q) w [.slice ad nd cd] D) (hm : D.length ≤ 2097152) (hfit : J.length + (frameB D).length ≤ most) (hlen : J.length + (frameB D).length ≤ 100000000000000) :
  Calls Tryz.prog 260 #[.pointer (some ⟨g, 0, none⟩), .slice ad nd cd] w fun r w' => r = .returned (.tuple #[]) ∧ PenStep w g base most (J ++ frameB D) a w' := by
 obtain ⟨rfl, _, _, _⟩ := sl_len hD
 rw [frameB_len] at hfit hlen
 have d1 : decide ((2097152 : Int) < (D.length : Int)) = false := decide_eq_false (by omega)
 have HB := hid (blob_put w h D ad _ cd hD (by omega) (by omega))
 have HC := hid (fun (W : World) h => crc_sum D ad D.length cd W h)
 have HL := crcSum_lt D
 have hb : Hid (frameB D = blobB D ++ fixedB 4 (crcSum D)) := hid rfl
 have HD := hid hD
 generalize frameB D = K at *
 generalize crcSum D = s at *
 generalize blobB D = E at *
 clear h hD
 go_enter Tryz.func260, Tryz.ntmps260
 go_wp2_with fail
 refine HB.out.mono ?_
 rintro r w3 ⟨rfl, a3, c3, p3, t3, h3⟩
 have hs3 := t3.size
 have HD3 := hid (rBytes.keep HD.out fun q hq => t3.block q hq.1 hq.2)
 have HST := hid (fun (J' : List UInt8) (W : World) (k : PenStep w3 g base most J' a3 W) => PenStep.trans (J := J ++ E) t3 h3 k)
 have P3 := hid p3
 clear p3 t3 h3
 go_wp2_with fail
 refine (HC.out w3 (rBytes.mono HD3.out fun q hq => by have := hq.1; omega)).mono ?_
 rintro r w4 ⟨rfl, hb4⟩
 have e1 : (s : Int) % 18446744073709551616 = s := by omega
 go_wp2_with fail
 refine (pen_wfixed w4 (P3.out.later hb4) s (by omega) 4 (by omega) (by simp; omega) (by simp; omega)).mono ?_
 rintro r w5 ⟨rfl, hs5⟩
 have hst := HST.out _ _ (PenStep.later hb4 hs5)
 rw [List.append_assoc, ← hb.out] at hst
 have HST2 := hid hst
 clear hst hs5
 go_wp2
 first | go_end0 | refine bodyPost_ret (results_none rfl _ _ _) rfl ?_
 exact ⟨rfl, HST2.out⟩
set_option maxRecDepth 100000 in
set_option maxHeartbeats 1600000 in
theorem frame_bytes (w : World) (D : List UInt8) (ad : Option Addr) (nd cd : Nat) (hD : rBytes.r (· < w.heap.size) w [.slice ad nd cd] D) (hm : D.length ≤ 2097152) :
  Calls Tryz.prog 224 #[.slice ad nd cd] w fun r w' => ∃ x, r = .returned (.tuple #[x, .int .i64 0]) ∧ OwnB w' w.heap.size x (frameB D) ∧ Below w.heap.size w w' := by
 obtain ⟨rfl, _, _, _⟩ := sl_len hD
 have HS := hid (frame_size D.length (by omega) w)
 have hvl := varB_len D.length
 have hl : (frameB D).length = (varB D.length).length + D.length + 4 := by rw [frameB_len, blobB_len]
 have HN := hid (fun W : World => pen_new W ((varB D.length).length + D.length + 4) (by omega))
 have HP := hid (fun (W : World) (g : Nat) (h : PenAt W g g ((varB D.length).length + D.length + 4) [] none 0) (h1 : rBytes.r (fun q => q < W.heap.size ∧ ¬ PenF g none q) W [.slice ad D.length cd] D) => frame_put W h D ad _ cd h1 hm (by simp; omega) (by simp; omega))
 have HD := hid hD
 generalize frameB D = K at *
 generalize (varB D.length).length + D.length + 4 = M at *
 clear hD
 go_enter Tryz.func224, Tryz.ntmps224
 go_wp2_with fail
 refine HS.out.mono ?_
 rintro r w1 ⟨rfl, hb1⟩
 go_wp2_with fail
 refine (HN.out w1).mono ?_
 rintro r w2 ⟨rfl, hp2, hb2⟩
 have hbw2 : Below w.heap.size w w2 := below_then hb2 hb1
 have hz1 := hb1.size
 have hz2 := hb2.size
 have HQ := hid (HP.out w2 _ hp2 (rBytes.mono (rBytes.keep HD.out fun q hq => hbw2.block q hq) fun q hq => ⟨by omega, by rw [penF_is]; rintro (e | e); omega; cases e⟩))
 clear hp2
 go_wp2_with fail
 refine HQ.out.mono ?_
 rintro r w3 ⟨rfl, hs3⟩
 have K3 : Hid (PenOk w2 w1.heap.size M K w3) := hid hs3
 clear hs3 HQ
 go_wp2_with fail
 obtain ⟨a7, b7, p7, k7, _⟩ := K3.out.at
 refine (pen_bytes_own w3 p7).mono ?_
 rintro r w8 ⟨x, rfl, hr, hb8⟩
 have hbw := K3.out.below hbw2 (by omega)
 have HR := hid hr
 clear hr k7 p7
 go_wp2
 go_ret2
 exact ⟨_, rfl, HR.out.low hbw.size, below_then hb8 hbw⟩
end Go.Proofs.YtkipiefcnjfdjaaGreat
namespace Go.Bs
open Go.RowKit
set_option linter.unusedVariables false
structure MarkD where
 pos : Int
 count : Int
 at_ : Int
def rMark : Rp MarkD := rBy (fun m => (m.pos, m.count, m.at_)) (rPair (rInt .u64) (rPair (rInt .i64) (rInt .i64)))
def rMarks : Rp (List MarkD) := rSl 3 rMark
structure MarkN (m : MarkD) : Prop where
 p : 0 ≤ m.pos ∧ m.pos ≤ 18446744073709551615
 c : -9223372036854775808 ≤ m.count ∧ m.count ≤ 9223372036854775807
 a : -9223372036854775808 ≤ m.at_ ∧ m.at_ ≤ 9223372036854775807
theorem i64_wf {n : Int} (h : -9223372036854775808 ≤ n ∧ n ≤ 9223372036854775807) : (Lit.int .i64 n).wf = true := by
 simp [Lit.wf, IntKind.min, IntKind.max, IntKind.signed, IntKind.bits]; omega
theorem mark_cells {S : Nat → Prop} {w : World} {cs : List Value} {x : MarkD} (h : rMark.r S w cs x) : cs = [.int .u64 x.pos, .int .i64 x.count, .int .i64 x.at_] ∧ MarkN x := by
 obtain ⟨c1, c2, rfl, ⟨rfl, hw⟩, d1, d2, rfl, ⟨rfl, hw2⟩, ⟨rfl, hw3⟩⟩ := h
 exact ⟨rfl, bounds_u64 hw, bounds_i64 hw2, bounds_i64 hw3⟩
theorem mark_mk {S : Nat → Prop} {w : World} {x : MarkD} (h : MarkN x) : rMark.r S w [.int .u64 x.pos, .int .i64 x.count, .int .i64 x.at_] x :=
 ⟨[_], [_, _], rfl, ⟨rfl, u64_wf h.p⟩, [_], [_], rfl, ⟨rfl, i64_wf h.c⟩, ⟨rfl, i64_wf h.a⟩⟩
theorem mark_at {S : Nat → Prop} {w : World} {xs : List MarkD} {a : Option Addr} {n c : Nat} (h : rMarks.r S w [.slice a n c] xs) {i : Nat} (hi : i < xs.length) : ∃ b off, a = some ⟨b, off, none⟩ ∧ S b ∧ w.cell? ⟨b, off + i * 3, none⟩ = some (.int .u64 xs[i].pos) ∧ w.cell? ⟨b, off + i * 3 + 1, none⟩ = some (.int .i64 xs[i].count) ∧ w.cell? ⟨b, off + i * 3 + 2, none⟩ = some (.int .i64 xs[i].at_) ∧ MarkN xs[i] := by
 obtain ⟨b, off, e, hS, cs, _, hc, hA⟩ := sl_at h hi
 obtain ⟨rfl, hn⟩ := mark_cells hA
 exact ⟨b, off, e, hS, hc 0 _ rfl, hc 1 _ rfl, hc 2 _ rfl, hn⟩
def fitsM (m : MarkD) (pos at_ : Int) : Bool := decide (1 ≤ m.count) && (decide (m.count ≤ 16) && (decide (pos ≤ m.pos) && (decide (m.pos < 4611686018427387904) && (decide (m.pos + m.count ≤ 4611686018427387904) && (decide (at_ < m.at_) && decide (m.at_ ≤ 1099511627775))))))
def riseM : Int → Int → List MarkD → Bool
 | _, _, [] => true
 | p, a, m :: l => fitsM m p a && riseM (m.pos + m.count) m.at_ l
def marksR (l : List MarkD) : Bool := riseM 0 0 l && decide (l.length ≤ 16)
theorem fitsM_facts {m : MarkD} {p a : Int} (h : fitsM m p a = true) : 1 ≤ m.count ∧ m.count ≤ 16 ∧ p ≤ m.pos ∧ m.pos < 4611686018427387904 ∧ m.pos + m.count ≤ 4611686018427387904 ∧ a < m.at_ ∧ m.at_ ≤ 1099511627775 := by
 simpa only [fitsM, Bool.and_eq_true, decide_eq_true_eq] using h
end Go.Bs
namespace Go.Proofs.YtkipiefcnjfdjaaGreat
open Go.RowKit Go.Bs Go.Maps
set_option linter.unusedVariables false
set_option linter.unusedSimpArgs false
theorem index_end (m : MarkD) (hp : 0 ≤ m.pos) (hc : 0 ≤ m.count ∧ m.count ≤ 9223372036854775807) (hs : m.pos + m.count ≤ 18446744073709551615) (w : World) :
  Calls Tryz.prog 262 #[.agg #[.int .u64 m.pos, .int .i64 m.count, .int .i64 m.at_]] w fun r w' => r = .returned (.int .u64 (m.pos + m.count)) ∧ Below w.heap.size w w' := by
 obtain ⟨p, c, a⟩ := m
 dsimp only at *
 have e1 : c % 18446744073709551616 = c := by omega
 go_enter Tryz.func262, Tryz.ntmps262
 go_wp2
 go_ret
 exact ⟨rfl, by (repeat first | exact zR | assumption | apply zA | apply zS | apply zD | apply zN | refine zT (by assumption) ?_ | omega | simp <;> omega)⟩
set_option maxRecDepth 100000 in
set_option maxHeartbeats 1600000 in
theorem index_fits (m : MarkD) (hN : MarkN m) (pos a : Int) (w : World) :
  Calls Tryz.prog 281 #[.agg #[.int .u64 m.pos, .int .i64 m.count, .int .i64 m.at_], .int .u64 pos, .int .i64 a] w fun r w' => r = .returned (.bool (fitsM m pos a)) ∧ Below w.heap.size w w' := by
 by_cases h0 : 1 ≤ m.count
 ·by_cases h1 : m.count ≤ 16
  ·by_cases h2 : pos ≤ m.pos
   ·by_cases h3 : m.pos < 4611686018427387904
    ·by_cases h4 : m.pos + m.count ≤ 4611686018427387904
     ·by_cases h5 : a < m.at_
      ·by_cases h6 : m.at_ ≤ 1099511627775
       ·have d0 : decide (1 ≤ m.count) = true := decide_eq_true h0
        have d1 : decide (m.count ≤ 16) = true := decide_eq_true h1
        have d2 : decide (pos ≤ m.pos) = true := decide_eq_true h2
        have d3 : decide (m.pos < 4611686018427387904) = true := decide_eq_true h3
        have d4 : decide (m.pos + m.count ≤ 4611686018427387904) = true := decide_eq_true h4
        have d5 : decide (a < m.at_) = true := decide_eq_true h5
        have d6 : decide (m.at_ ≤ 1099511627775) = true := decide_eq_true h6
        have hff : Hid (fitsM m pos a = true) := hid (by simp only [fitsM, d0, d1, d2, d3, d4, d5, d6, Bool.true_and, Bool.false_and])
        have HE := hid (fun W : World => index_end m hN.p.1 ⟨by omega, by omega⟩ (by omega) W)
        clear h0 h1 h2 h3 h4 h5 h6 hN
        obtain ⟨mp, mc, ma⟩ := m
        dsimp only at *
        go_enter Tryz.func281, Tryz.ntmps281
        go_wp2_with fail
        refine (HE.out _).mono ?_
        rintro r w1 ⟨rfl, hb1⟩
        have hbox := (Blk.new w 160 #[.int .u64 mp, .int .i64 mc, .int .i64 ma]).later hb1
        have c2 : w1.cell? ⟨w.heap.size, 2, none⟩ = some (.int .i64 ma) := hbox.cell 2
        clear hbox
        go_wp2
        go_ret
        exact ⟨by rw [hff.out]; rfl, by (repeat first | exact zR | assumption | apply zA | apply zS | apply zD | apply zN | refine zT (by assumption) ?_ | omega | simp <;> omega)⟩
       ·have d0 : decide (1 ≤ m.count) = true := decide_eq_true h0
        have d1 : decide (m.count ≤ 16) = true := decide_eq_true h1
        have d2 : decide (pos ≤ m.pos) = true := decide_eq_true h2
        have d3 : decide (m.pos < 4611686018427387904) = true := decide_eq_true h3
        have d4 : decide (m.pos + m.count ≤ 4611686018427387904) = true := decide_eq_true h4
        have d5 : decide (a < m.at_) = true := decide_eq_true h5
        have d6 : decide (m.at_ ≤ 1099511627775) = false := decide_eq_false h6
        have hff : Hid (fitsM m pos a = false) := hid (by simp only [fitsM, d0, d1, d2, d3, d4, d5, d6, Bool.true_and, Bool.false_and])
        have HE := hid (fun W : World => index_end m hN.p.1 ⟨by omega, by omega⟩ (by omega) W)
        clear h0 h1 h2 h3 h4 h5 h6 hN
        obtain ⟨mp, mc, ma⟩ := m
        dsimp only at *
        go_enter Tryz.func281, Tryz.ntmps281
        go_wp2_with fail
        refine (HE.out _).mono ?_
        rintro r w1 ⟨rfl, hb1⟩
        have hbox := (Blk.new w 160 #[.int .u64 mp, .int .i64 mc, .int .i64 ma]).later hb1
        have c2 : w1.cell? ⟨w.heap.size, 2, none⟩ = some (.int .i64 ma) := hbox.cell 2
        clear hbox
        go_wp2
        go_ret
        exact ⟨by rw [hff.out]; rfl, by (repeat first | exact zR | assumption | apply zA | apply zS | apply zD | apply zN | refine zT (by assumption) ?_ | omega | simp <;> omega)⟩
      ·have d0 : decide (1 ≤ m.count) = true := decide_eq_true h0
       have d1 : decide (m.count ≤ 16) = true := decide_eq_true h1
       have d2 : decide (pos ≤ m.pos) = true := decide_eq_true h2
       have d3 : decide (m.pos < 4611686018427387904) = true := decide_eq_true h3
       have d4 : decide (m.pos + m.count ≤ 4611686018427387904) = true := decide_eq_true h4
       have d5 : decide (a < m.at_) = false := decide_eq_false h5
       have hff : Hid (fitsM m pos a = false) := hid (by simp only [fitsM, d0, d1, d2, d3, d4, d5, Bool.true_and, Bool.false_and])
       have HE := hid (fun W : World => index_end m hN.p.1 ⟨by omega, by omega⟩ (by omega) W)
       clear h0 h1 h2 h3 h4 h5 hN
       obtain ⟨mp, mc, ma⟩ := m
       dsimp only at *
       go_enter Tryz.func281, Tryz.ntmps281
       go_wp2_with fail
       refine (HE.out _).mono ?_
       rintro r w1 ⟨rfl, hb1⟩
       have hbox := (Blk.new w 160 #[.int .u64 mp, .int .i64 mc, .int .i64 ma]).later hb1
       have c2 : w1.cell? ⟨w.heap.size, 2, none⟩ = some (.int .i64 ma) := hbox.cell 2
       clear hbox
       go_wp2
       go_ret
       exact ⟨by rw [hff.out]; rfl, by (repeat first | exact zR | assumption | apply zA | apply zS | apply zD | apply zN | refine zT (by assumption) ?_ | omega | simp <;> omega)⟩
     ·have d0 : decide (1 ≤ m.count) = true := decide_eq_true h0
      have d1 : decide (m.count ≤ 16) = true := decide_eq_true h1
      have d2 : decide (pos ≤ m.pos) = true := decide_eq_true h2
      have d3 : decide (m.pos < 4611686018427387904) = true := decide_eq_true h3
      have d4 : decide (m.pos + m.count ≤ 4611686018427387904) = false := decide_eq_false h4
      have hff : Hid (fitsM m pos a = false) := hid (by simp only [fitsM, d0, d1, d2, d3, d4, Bool.true_and, Bool.false_and])
      have HE := hid (fun W : World => index_end m hN.p.1 ⟨by omega, by omega⟩ (by omega) W)
      clear h0 h1 h2 h3 h4 hN
      obtain ⟨mp, mc, ma⟩ := m
      dsimp only at *
      go_enter Tryz.func281, Tryz.ntmps281
      go_wp2_with fail
      refine (HE.out _).mono ?_
      rintro r w1 ⟨rfl, hb1⟩
      have hbox := (Blk.new w 160 #[.int .u64 mp, .int .i64 mc, .int .i64 ma]).later hb1
      have c2 : w1.cell? ⟨w.heap.size, 2, none⟩ = some (.int .i64 ma) := hbox.cell 2
      clear hbox
      go_wp2
      go_ret
      exact ⟨by rw [hff.out]; rfl, by (repeat first | exact zR | assumption | apply zA | apply zS | apply zD | apply zN | refine zT (by assumption) ?_ | omega | simp <;> omega)⟩
    ·have d0 : decide (1 ≤ m.count) = true := decide_eq_true h0
     have d1 : decide (m.count ≤ 16) = true := decide_eq_true h1
     have d2 : decide (pos ≤ m.pos) = true := decide_eq_true h2
     have d3 : decide (m.pos < 4611686018427387904) = false := decide_eq_false h3
     have hff : Hid (fitsM m pos a = false) := hid (by simp only [fitsM, d0, d1, d2, d3, Bool.true_and, Bool.false_and])
     clear h0 h1 h2 h3 hN
     obtain ⟨mp, mc, ma⟩ := m
     dsimp only at *
     go_enter Tryz.func281, Tryz.ntmps281
     go_wp2
     go_ret
     exact ⟨by rw [hff.out]; rfl, by (repeat first | exact zR | assumption | apply zA | apply zS | apply zD | apply zN | refine zT (by assumption) ?_ | omega | simp <;> omega)⟩
   ·have d0 : decide (1 ≤ m.count) = true := decide_eq_true h0
    have d1 : decide (m.count ≤ 16) = true := decide_eq_true h1
    have d2 : decide (pos ≤ m.pos) = false := decide_eq_false h2
    have hff : Hid (fitsM m pos a = false) := hid (by simp only [fitsM, d0, d1, d2, Bool.true_and, Bool.false_and])
    clear h0 h1 h2 hN
    obtain ⟨mp, mc, ma⟩ := m
    dsimp only at *
    go_enter Tryz.func281, Tryz.ntmps281
    go_wp2
    go_ret
    exact ⟨by rw [hff.out]; rfl, by (repeat first | exact zR | assumption | apply zA | apply zS | apply zD | apply zN | refine zT (by assumption) ?_ | omega | simp <;> omega)⟩
  ·have d0 : decide (1 ≤ m.count) = true := decide_eq_true h0
   have d1 : decide (m.count ≤ 16) = false := decide_eq_false h1
   have hff : Hid (fitsM m pos a = false) := hid (by simp only [fitsM, d0, d1, Bool.true_and, Bool.false_and])
   clear h0 h1 hN
   obtain ⟨mp, mc, ma⟩ := m
   dsimp only at *
   go_enter Tryz.func281, Tryz.ntmps281
   go_wp2
   go_ret
   exact ⟨by rw [hff.out]; rfl, by (repeat first | exact zR | assumption | apply zA | apply zS | apply zD | apply zN | refine zT (by assumption) ?_ | omega | simp <;> omega)⟩
 ·have d0 : decide (1 ≤ m.count) = false := decide_eq_false h0
  have hff : Hid (fitsM m pos a = false) := hid (by simp only [fitsM, d0, Bool.true_and, Bool.false_and])
  clear h0 hN
  obtain ⟨mp, mc, ma⟩ := m
  dsimp only at *
  go_enter Tryz.func281, Tryz.ntmps281
  go_wp2
  go_ret
  exact ⟨by rw [hff.out]; rfl, by (repeat first | exact zR | assumption | apply zA | apply zS | apply zD | apply zN | refine zT (by assumption) ?_ | omega | simp <;> omega)⟩
theorem riseM_step (p a : Int) (l : List MarkD) (k : Nat) (h : k < l.length) : riseM p a (l.drop k) = (fitsM l[k] p a && riseM (l[k].pos + l[k].count) l[k].at_ (l.drop (k + 1))) := by
 rw [List.drop_eq_getElem_cons h]; rfl
set_option maxRecDepth 100000 in
set_option maxHeartbeats 3200000 in
theorem index_right (l : List MarkD) (al : Option Addr) (nl cl : Nat) (w : World) (hl : rMarks.r (· < w.heap.size) w [.slice al nl cl] l) :
  Calls Tryz.prog 261 #[.slice al nl cl] w fun r w' => r = .returned (.bool (marksR l)) ∧ Below w.heap.size w w' := by
 obtain ⟨rfl, hm, _, _⟩ := sl_len hl
 have HL := hid hl; clear hl
 go_enter Tryz.func261, Tryz.ntmps261
 go_wp2_with fail
 go_loopw [3, 4, 9] (fun p a i wr => ∃ (k : Nat) (pp aa : Int), k ≤ l.length ∧ i = .int .i64 k ∧ p = .int .u64 pp ∧ a = .int .i64 aa ∧ Hid (riseM 0 0 l = riseM pp aa (l.drop k)) ∧ Below w.heap.size w wr) (fun _ _ i _ => l.length - (intOf i).toNat)
 case atStart => exact ⟨0, 0, 0, Nat.zero_le _, rfl, rfl, rfl, hid rfl, Below.refl _ _⟩
 case round =>
  obtain ⟨k, pp, aa, hk, rfl, rfl, rfl, hf, hb⟩ := hrel
  by_cases hlt : k < l.length
  ·obtain ⟨b, o, hA, hbb, x0, x1, x2, hN⟩ := mark_at (lift HL.out hb) hlt
   subst hA
   have hst := hid (riseM_step pp aa l k hlt)
   have i1 : (k : Int) < (l.length : Int) := by omega
   generalize l[k] = m at *
   have HF := hid (fun W : World => index_fits m hN pp aa W)
   go_wp2_with fail
   refine (HF.out _).mono ?_
   rintro r w1 ⟨rfl, hb1⟩
   have hbox := (Blk.new wr 160 #[.int .u64 m.pos, .int .i64 m.count, .int .i64 m.at_]).later hb1
   have hb2 : Below w.heap.size w w1 := below_then (below_then hb1 (by (repeat first | exact zR | assumption | apply zA | apply zS | apply zD | apply zN | refine zT (by assumption) ?_ | omega | simp <;> omega))) hb
   cases hfm : fitsM m pp aa
   ·have hff : Hid (marksR l = false) := hid (by unfold marksR; rw [hf.out, hst.out, hfm]; rfl)
    clear hfm hbox
    go_wp2
    go_ret
    exact ⟨by rw [hff.out]; rfl, hb2⟩
   ·obtain ⟨g1, g2, g3, g4, g5, g6, g7⟩ := fitsM_facts hfm
    have hff : Hid (riseM 0 0 l = riseM (m.pos + m.count) m.at_ (l.drop (k + 1))) := hid (by rw [hf.out, hst.out, hfm]; rfl)
    have HE := hid (fun s : Later w1 => index_end m hN.p.1 ⟨by omega, by omega⟩ (by omega) s.at_)
    have Y0 := fun s : Later w1 => s.cell (hbox.cell 0)
    have Y1 := fun s : Later w1 => s.cell (hbox.cell 1)
    have Y2 := fun s : Later w1 => s.cell (hbox.cell 2)
    simp at Y0 Y1 Y2
    clear hfm hbox g1 g2 g3 g4 g5 g6 g7 hN
    go_wp2_with fail
    refine wp_region_later (by kernel_rfl) (by kernel_rfl) ?_
    repeat (go_big_quiet_step ((go_at_call 262; exact later_of (HE.out _))))
    refine wpQuiet_nil ?_
    rintro W5 ⟨⟨W5', hb5⟩, rfl⟩
    go_wp2
    go_roundw
    case rel => exact ⟨k + 1, _, _, by omega, by go_num, rfl, rfl, hff, below_then hb5 hb2⟩
    case measure => simp [intOf]; omega
  ·obtain rfl : k = l.length := by omega
   have hff : Hid (marksR l = decide ((l.length : Int) ≤ 16)) := hid (by unfold marksR; rw [hf.out, List.drop_length]; simp only [riseM, Bool.true_and, decide_eq_decide]; omega)
   go_wp2
   go_ret
   exact ⟨by rw [hff.out]; rfl, hb⟩
end Go.Proofs.YtkipiefcnjfdjaaGreat
namespace Go.Bs
open Go.RowKit
set_option linter.unusedVariables false
def marksB : Int → Int → List MarkD → List UInt8
 | _, _, [] => []
 | p, a, m :: l => varB (m.pos - p).toNat ++ (varB m.count.toNat ++ (varB (m.at_ - a - 1).toNat ++ marksB (m.pos + m.count) m.at_ l))
def indexB (l : List MarkD) : List UInt8 := varB l.length ++ marksB 0 0 l
theorem marksB_len : ∀ (l : List MarkD) (p a : Int), (marksB p a l).length ≤ 30 * l.length
 | [], _, _ => by simp [marksB]
 | m :: l, p, a => by
  have h1 := (varB_len (m.pos - p).toNat).1
  have h2 := (varB_len m.count.toNat).1
  have h3 := (varB_len (m.at_ - a - 1).toNat).1
  have h4 := marksB_len l (m.pos + m.count) m.at_
  simp only [marksB, List.length_append, List.length_cons]
  omega
theorem marksB_step (p a : Int) (l : List MarkD) (k : Nat) (h : k < l.length) : marksB p a (l.drop k) = varB (l[k].pos - p).toNat ++ (varB l[k].count.toNat ++ (varB (l[k].at_ - a - 1).toNat ++ marksB (l[k].pos + l[k].count) l[k].at_ (l.drop (k + 1)))) := by
 rw [List.drop_eq_getElem_cons h]; rfl
def countM (l : List MarkD) : Int := (l.map MarkD.count).sum
theorem countM_step (l : List MarkD) (k : Nat) (h : k < l.length) : countM (l.take (k + 1)) = countM (l.take k) + l[k].count := by
 rw [List.take_succ_eq_append_getElem h]; simp only [countM, List.map_append, List.sum_append, List.map_cons, List.map_nil, List.sum_cons, List.sum_nil]; omega
theorem riseM_mem : ∀ (l : List MarkD) (p a : Int), riseM p a l = true → ∀ m ∈ l, 1 ≤ m.count ∧ m.count ≤ 16 ∧ m.pos + m.count ≤ 4611686018427387904
 | [], _, _, _, m, hm => by cases hm
 | x :: l, p, a, h, m, hm => by
  simp only [riseM, Bool.and_eq_true] at h
  rcases List.mem_cons.1 hm with rfl | hm
  ·obtain ⟨h1, h2, _, _, h5, _⟩ := fitsM_facts h.1
   exact ⟨h1, h2, h5⟩
  ·exact riseM_mem l _ _ h.2 m hm
theorem countM_le (l : List MarkD) (h : ∀ m ∈ l, 1 ≤ m.count ∧ m.count ≤ 16) : (l.length : Int) ≤ countM l ∧ countM l ≤ 16 * l.length := by
 induction l with
 | nil => simp [countM]
 | cons m l ih =>
  have h1 := h m (List.mem_cons_self ..)
  have h2 := ih fun x hx => h x (List.mem_cons_of_mem _ hx)
  simp only [countM, List.map_cons, List.sum_cons, List.length_cons] at h2 ⊢
  omega
end Go.Bs
namespace Go.Proofs.YtkipiefcnjfdjaaGreat
open Go.RowKit Go.Bs Go.Maps
set_option linter.unusedVariables false
set_option linter.unusedSimpArgs false
theorem varint_putI (w : World) {g base most : Nat} {J : List UInt8} {a : Option Addr} {c : Nat} (h : PenAt w g base most J a c) (x : Int) (hx : 0 ≤ x ∧ x ≤ 18446744073709551615) (hfit : J.length + (varB x.toNat).length ≤ most) (hlen : J.length + (varB x.toNat).length ≤ 100000000000000) :
  Calls Tryz.prog 73 #[.pointer (some ⟨g, 0, none⟩), .int .u64 x] w fun r w' => r = .returned (.tuple #[]) ∧ PenStep w g base most (J ++ varB x.toNat) a w' := by
 have := varint_put w h x.toNat (by omega) hfit hlen
 rw [Int.toNat_of_nonneg hx.1] at this
 exact this
theorem PenStep.at {w1 w : World} {g base most : Nat} {J : List UInt8} {a : Option Addr} (h : PenStep w1 g base most J a w) : ∃ a' c', PenAt w g base most J a' c' ∧ (∀ (J' : List UInt8) (w' : World), PenStep w g base most J' a' w' → PenStep w1 g base most J' a w') := by
 obtain ⟨a', c', h1, h2, h3⟩ := h
 exact ⟨a', c', h1, fun J' w' k => PenStep.trans (J := J) h2 h3 k⟩
theorem PenStep.blk {w1 w : World} {g base most : Nat} {J : List UInt8} {a : Option Addr} (h : PenStep w1 g base most J a w) {b : Nat} {t : TypeId} {cs : Array Value} (hB : Blk w1 b t cs) (hn : ¬ PenF g a b) : Blk w b t cs := by
 obtain ⟨a', c', h1, h2, h3⟩ := h
 exact hB.tch h2 hn
theorem PenStep.tch {w1 w : World} {g base most : Nat} {J : List UInt8} {a : Option Addr} (h : PenStep w1 g base most J a w) : Tch (PenF g a) w1 w := by
 obtain ⟨a', c', h1, h2, h3⟩ := h
 exact h2
set_option maxRecDepth 100000 in
set_option maxHeartbeats 3200000 in
theorem index_put (w : World) {g base most : Nat} {J : List UInt8} {a : Option Addr} {c : Nat} (h : PenAt w g base most J a c) (l : List MarkD) (al : Option Addr) (nl cl : Nat)
  (hl : rMarks.r (fun q => q < w.heap.size ∧ ¬ PenF g a q) w [.slice al nl cl] l) (hR : marksR l = true) (hfit : J.length + (indexB l).length ≤ most) (hlen : J.length + (indexB l).length ≤ 100000000000000) :
  Calls Tryz.prog 225 #[.pointer (some ⟨g, 0, none⟩), .slice al nl cl] w fun r w' => r = .returned (.tuple #[]) ∧ PenStep w g base most (J ++ indexB l) a w' := by
 obtain ⟨rfl, hm, _, _⟩ := sl_len hl
 have HR := hid (index_right l al _ cl w (rMarks.mono hl fun q hq => hq.1))
 rw [hR] at HR
 simp only [marksR, Bool.and_eq_true, decide_eq_true_eq] at hR
 have hix : Hid (indexB l = varB l.length ++ marksB 0 0 l) := hid rfl
 have HLN : Hid (∀ D E : List UInt8, indexB l = D ++ E → J.length + D.length + E.length ≤ most ∧ J.length + D.length + E.length ≤ 100000000000000) := hid fun D E e => by rw [e, List.length_append] at hfit hlen; omega
 have HV := hid (fun (W : World) (hW : Below w.heap.size w W) => by
  have h0 := HLN.out _ _ hix.out
  exact varint_put W (h.later hW) l.length (by omega) (by omega) (by omega))
 have HL := hid hl
 have HRI := hid hR.1
 have HP := hid h
 have hl16 := hR.2
 clear h hl hR hfit hlen
 go_enter Tryz.func225, Tryz.ntmps225
 go_wp2_with fail
 refine HR.out.mono ?_
 rintro r w1 ⟨rfl, hb1⟩
 go_wp2_with fail
 refine (HV.out _ hb1).mono ?_
 rintro r w2 ⟨rfl, hs2⟩
 have HS2 := hid (PenStep.later hb1 hs2)
 clear hs2
 go_wp2_with fail
 go_loopw [4, 5, 20] (fun p at_ i wr => ∃ (k : Nat) (pp aa : Int) (D : List UInt8), k ≤ l.length ∧ i = .int .i64 k ∧ p = .int .u64 pp ∧ at_ = .int .i64 aa ∧ 0 ≤ pp ∧ 0 ≤ aa ∧ Hid (riseM pp aa (l.drop k) = true) ∧ Hid (indexB l = D ++ marksB pp aa (l.drop k)) ∧ Hid (PenStep w g base most (J ++ D) a wr)) (fun _ _ i _ => l.length - (intOf i).toNat)
 case atStart => exact ⟨0, 0, 0, _, Nat.zero_le _, rfl, rfl, rfl, by omega, by omega, HRI, hix, HS2⟩
 case round =>
  obtain ⟨k, pp, aa, D, hk, rfl, rfl, rfl, hp0, ha0, hri, hD, HST⟩ := hrel
  by_cases hlt : k < l.length
  ·have hrT := HST.out.tch
   have hsz := hrT.size
   obtain ⟨b, o, hA, hbb, x0, x1, x2, hN⟩ := mark_at (rMarks.keep HL.out fun q hq => hrT.block q hq.1 hq.2) hlt
   subst hA
   have hst := riseM_step pp aa l k hlt
   have hms := hid (marksB_step pp aa l k hlt)
   rw [hri.out] at hst
   generalize l[k] = m at *
   simp only [eq_comm (a := true), Bool.and_eq_true] at hst
   obtain ⟨g1, g2, g3, g4, g5, g6, g7⟩ := fitsM_facts hst.1
   have HRI2 := hid hst.2
   clear hst
   have i1 : (k : Int) < (l.length : Int) := by omega
   have i2 := hbb.1
   have hN1 := hN.p
   obtain ⟨a3, c3, p3, k3⟩ := HST.out.at
   have K3 := hid k3
   have hno : ¬ PenF g a3 wr.heap.size := fun hf => by
    rw [penF_is] at hf
    rcases hf with e | e
    ·have := p3.blk.lt; omega
    ·have := (p3.own_lt (penF_is.2 (.inr e))).2; omega
   have P3 := hid p3
   have HNO := hid hno
   have hlen := HLN.out _ _ (hD.out.trans (congrArg (D ++ ·) hms.out))
   simp only [List.length_append] at hlen
   clear k3 p3 hno hrT
   go_wp2_with fail
   have hW : Below wr.heap.size wr (wr.alloc (.cells #[.int .u64 m.pos, .int .i64 m.count, .int .i64 m.at_] 160)) := by (repeat first | exact zR | assumption | apply zA | apply zS | apply zD | apply zN | refine zT (by assumption) ?_ | omega | simp <;> omega)
   have hBX := Blk.new wr 160 #[.int .u64 m.pos, .int .i64 m.count, .int .i64 m.at_]
   generalize wr.alloc (.cells #[.int .u64 m.pos, .int .i64 m.count, .int .i64 m.at_] 160) = W1 at *
   have HBX := hid hBX
   refine (varint_putI W1 (P3.out.later hW) (m.pos - pp) (by omega) (by simp only [List.length_append]; omega) (by simp only [List.length_append]; omega)).mono ?_
   rintro r w4 ⟨rfl, hs4⟩
   have HW := hid hW
   have B4 := hs4.blk HBX.out HNO.out
   have HS4 := hid hs4
   have y1 : w4.cell? ⟨wr.heap.size, 1, none⟩ = some (.int .i64 m.count) := B4.cell 1
   have e1 : m.count % 18446744073709551616 = m.count := by omega
   clear hs4 B4 hW hBX
   go_wp2_with fail
   obtain ⟨a4, c4, p4, k4⟩ := HS4.out.at
   refine (varint_putI w4 p4 m.count (by omega) (by simp only [List.length_append]; omega) (by simp only [List.length_append]; omega)).mono ?_
   rintro r w5 ⟨rfl, hs5⟩
   have hs5 := k4 _ _ hs5
   have B5 := hs5.blk HBX.out HNO.out
   have HS5 := hid hs5
   have y2 : w5.cell? ⟨wr.heap.size, 2, none⟩ = some (.int .i64 m.at_) := B5.cell 2
   have e2 : (m.at_ - aa - 1) % 18446744073709551616 = m.at_ - aa - 1 := by omega
   clear hs5 B5 p4 k4 y1
   go_wp2_with fail
   obtain ⟨a5, c5, p5, k5⟩ := HS5.out.at
   refine (varint_putI w5 p5 (m.at_ - aa - 1) (by omega) (by simp only [List.length_append]; omega) (by simp only [List.length_append]; omega)).mono ?_
   rintro r w6 ⟨rfl, hs6⟩
   have hs6 := k5 _ _ hs6
   have hbox := hs6.blk HBX.out HNO.out
   have HS6 := hid (K3.out _ _ (PenStep.later HW.out hs6))
   have HE := hid (fun s : Later w6 => index_end m hN.p.1 ⟨by omega, by omega⟩ (by omega) s.at_)
   have Y0 := fun s : Later w6 => s.cell (hbox.cell 0)
   have Y1 := fun s : Later w6 => s.cell (hbox.cell 1)
   have Y2 := fun s : Later w6 => s.cell (hbox.cell 2)
   simp at Y0 Y1 Y2
   have hx0 : 0 ≤ m.pos + m.count := by omega
   have hx1 : 0 ≤ m.at_ := by omega
   clear hs6 hbox p5 k5 y2 e2 e1 hlen hN
   go_wp2_with fail
   refine wp_region_later (by kernel_rfl) (by kernel_rfl) ?_
   repeat (go_big_quiet_step ((go_at_call 262; exact later_of (HE.out _))))
   refine wpQuiet_nil ?_
   rintro W5 ⟨⟨W5', hb5⟩, rfl⟩
   go_wp2
   have hst7 := HS6.out.at
   obtain ⟨a7, c7, p7, k7⟩ := hst7
   have HS7 := hid (k7 _ _ (PenStep.refl (p7.later hb5) |> fun h => PenStep.later hb5 h))
   go_roundw
   case rel => exact ⟨k + 1, _, _, D ++ (varB (m.pos - pp).toNat ++ (varB m.count.toNat ++ varB (m.at_ - aa - 1).toNat)), by omega, by go_num, rfl, rfl, hx0, hx1, HRI2, hid (by rw [hD.out, hms.out]; simp), by simpa using HS7⟩
   case measure => simp [intOf]; omega
  ·obtain rfl : k = l.length := by omega
   have hff : Hid (indexB l = D) := hid (by rw [hD.out, List.drop_length]; simp [marksB])
   go_wp2
   first | go_end0 | refine bodyPost_ret (results_none rfl _ _ _) rfl ?_
   exact ⟨rfl, by rw [hff.out]; exact HST.out⟩
end Go.Proofs.YtkipiefcnjfdjaaGreat
namespace Go.Bs
open Go.RowKit
def endsM (l : List MarkD) : Int × Int := match l.head?, l.getLast? with
 | some a, some b => (a.pos, b.pos + b.count)
 | _, _ => (0, 0)
theorem endsM_some {l : List MarkD} (h : 0 < l.length) : endsM l = (l[0].pos, (l[l.length - 1]'(by omega)).pos + (l[l.length - 1]'(by omega)).count) := by
 unfold endsM
 rw [List.head?_eq_getElem?, List.getLast?_eq_getElem?, List.getElem?_eq_getElem h, List.getElem?_eq_getElem (by omega)]
end Go.Bs
namespace Go.Proofs.YtkipiefcnjfdjaaGreat
open Go.RowKit Go.Bs Go.Maps
set_option linter.unusedVariables false
set_option linter.unusedSimpArgs false
set_option maxRecDepth 100000 in
set_option maxHeartbeats 1600000 in
theorem index_bytes (w : World) (l : List MarkD) (al : Option Addr) (nl cl : Nat) (hl : rMarks.r (· < w.heap.size) w [.slice al nl cl] l) (hR : marksR l = true) :
  Calls Tryz.prog 176 #[.slice al nl cl] w fun r w' => ∃ x, r = .returned (.tuple #[x, .int .i64 0]) ∧ rBytes.r (fun q => w.heap.size ≤ q ∧ q < w'.heap.size) w' [x] (indexB l) ∧ Below w.heap.size w w' := by
 obtain ⟨rfl, _, _, _⟩ := sl_len hl
 have hlb : (indexB l).length ≤ 1024 := by
  have h1 := (varB_len l.length).1
  have h2 := marksB_len l 0 0
  have h3 := hR
  simp only [marksR, Bool.and_eq_true, decide_eq_true_eq] at h3
  simp only [indexB, List.length_append]
  omega
 have HN := hid (fun W : World => pen_new W 1024 (by omega))
 have HP := hid (fun (W : World) (g : Nat) (h : PenAt W g g 1024 [] none 0) (h1 : rMarks.r (fun q => q < W.heap.size ∧ ¬ PenF g none q) W [.slice al l.length cl] l) => index_put W h l al _ cl h1 hR (by simpa using hlb) (by simp; omega))
 have HD := hid hl
 generalize indexB l = K at *
 clear hl hR
 go_enter Tryz.func176, Tryz.ntmps176
 go_wp2_with fail
 refine (HN.out w).mono ?_
 rintro r w2 ⟨rfl, hp2, hb2⟩
 have hz2 := hb2.size
 have HQ := hid (HP.out w2 _ hp2 (rMarks.mono (rMarks.keep HD.out fun q hq => hb2.block q hq) fun q hq => ⟨by omega, by rw [penF_is]; rintro (e | e); omega; cases e⟩))
 clear hp2
 go_wp2_with fail
 refine HQ.out.mono ?_
 rintro r w3 ⟨rfl, hs3⟩
 have K3 : Hid (PenOk w2 w.heap.size 1024 K w3) := hid hs3
 clear hs3 HQ
 go_wp2_with fail
 obtain ⟨a7, b7, p7, k7, _⟩ := K3.out.at
 refine (pen_bytes w3 p7).mono ?_
 rintro r w8 ⟨x, rfl, hr, hb8⟩
 have hbw := K3.out.below hb2 (by omega)
 have HR := hid hr
 clear hr k7 p7
 go_wp2
 go_ret2
 exact ⟨_, rfl, rBytes.mono HR.out fun q hq => ⟨by have := hbw.size; omega, hq.2⟩, below_then hb8 hbw⟩
set_option maxRecDepth 100000 in
set_option maxHeartbeats 1600000 in
theorem index_entries (w : World) (l : List MarkD) (al : Option Addr) (nl cl : Nat) (hl : rMarks.r (· < w.heap.size) w [.slice al nl cl] l) (hR : marksR l = true) :
  Calls Tryz.prog 226 #[.slice al nl cl] w fun r w' => r = .returned (.int .i64 (countM l)) ∧ Below w.heap.size w w' := by
 obtain ⟨rfl, hm, _, _⟩ := sl_len hl
 have HR := hid (index_right l al _ cl w hl)
 rw [hR] at HR
 simp only [marksR, Bool.and_eq_true, decide_eq_true_eq] at hR
 have HM := hid (fun m hm => riseM_mem l 0 0 hR.1 m hm)
 have HL := hid hl
 have h16 := hR.2
 clear hl hR
 go_enter Tryz.func226, Tryz.ntmps226
 go_wp2_with fail
 refine HR.out.mono ?_
 rintro r w1 ⟨rfl, hb1⟩
 go_wp2_with fail
 go_loopw [3, 11] (fun n i wr => ∃ (k : Nat) (s : Int), k ≤ l.length ∧ i = .int .i64 k ∧ n = .int .i64 s ∧ Hid (countM (l.take k) = s) ∧ 0 ≤ s ∧ s ≤ 16 * k ∧ Below w.heap.size w wr) (fun _ i _ => l.length - (intOf i).toNat)
 case atStart => exact ⟨0, 0, Nat.zero_le _, rfl, rfl, hid rfl, by omega, by omega, hb1⟩
 case round =>
  obtain ⟨k, s, hk, rfl, rfl, hf, hs0, hs1, hb⟩ := hrel
  by_cases hlt : k < l.length
  ·obtain ⟨b, o, hA, hbb, x0, x1, x2, hN⟩ := mark_at (lift HL.out hb) hlt
   subst hA
   have hst := hid (countM_step l k hlt)
   obtain ⟨g1, g2, _⟩ := HM.out _ (List.getElem_mem hlt)
   generalize l[k] = m at *
   have i1 : (k : Int) < (l.length : Int) := by omega
   go_wp2
   go_roundw
   case rel => exact ⟨k + 1, _, by omega, by go_num, rfl, hid (by rw [hst.out, hf.out]), by omega, by omega, by (repeat first | exact zR | assumption | apply zA | apply zS | apply zD | apply zN | refine zT (by assumption) ?_ | omega | simp <;> omega)⟩
   case measure => simp [intOf]; omega
  ·obtain rfl : k = l.length := by omega
   have hff : Hid (countM l = s) := hid (by rw [← hf.out, List.take_length])
   go_wp2
   go_ret
   exact ⟨by rw [hff.out]; rfl, hb⟩
set_option maxRecDepth 100000 in
set_option maxHeartbeats 1600000 in
theorem index_ends (w : World) (l : List MarkD) (al : Option Addr) (nl cl : Nat) (hl : rMarks.r (· < w.heap.size) w [.slice al nl cl] l) (hR : marksR l = true) :
  Calls Tryz.prog 227 #[.slice al nl cl] w fun r w' => r = .returned (.tuple #[.int .u64 (endsM l).1, .int .u64 (endsM l).2]) ∧ Below w.heap.size w w' := by
 obtain ⟨rfl, hm, _, _⟩ := sl_len hl
 rcases Nat.eq_zero_or_pos l.length with h0 | h0
 ·obtain rfl := List.eq_nil_of_length_eq_zero h0
  clear hl h0
  go_enter Tryz.func227, Tryz.ntmps227
  go_wp2
  go_ret2
  exact ⟨rfl, by (repeat first | exact zR | assumption | apply zA | apply zS | apply zD | apply zN | refine zT (by assumption) ?_ | omega | simp <;> omega)⟩
 ·have HR := hid (index_right l al _ cl w hl)
  rw [hR] at HR
  simp only [marksR, Bool.and_eq_true, decide_eq_true_eq] at hR
  have HL := hid hl
  have hen := hid (endsM_some h0)
  obtain ⟨b, o, hA, hbb, x0, _, _, hN⟩ := mark_at hl h0
  obtain ⟨b2, o2, hA2, hbb2, z0, z1, z2, hN2⟩ := mark_at (i := l.length - 1) hl (by omega)
  subst hA
  simp only [Option.some.injEq, Addr.mk.injEq, and_true] at hA2
  obtain ⟨rfl, rfl⟩ := hA2
  obtain ⟨g1, g2, g3⟩ := riseM_mem l 0 0 hR.1 _ (List.getElem_mem (show l.length - 1 < l.length by omega))
  generalize l[0] = m0 at *
  generalize l[l.length - 1] = m1 at *
  simp only [Nat.zero_mul, Nat.add_zero] at x0
  obtain ⟨n, hn⟩ : ∃ n, l.length = n + 1 := ⟨l.length - 1, by omega⟩
  generalize endsM l = E at *
  clear hl hR hbb2 HL
  generalize l.length = L at *
  subst hn
  simp only [Nat.add_sub_cancel] at z0 z1 z2
  have hE := hen.out
  subst hE
  dsimp only
  have d0 : (((n + 1 : Nat) : Int) == 0) = false := beq_eq_false_iff_ne.2 (by omega)
  have d1 : ((n + 1 : Nat) : Int) = (n : Int) + 1 := by omega
  rw [d1] at d0
  have hw : wrap64 (n : Int) = n := by
   unfold wrap64; omega
  have i1 : (n : Int) < (n : Int) + 1 := by omega
  have i0 : (0 : Int) < (n : Int) + 1 := by omega
  clear hen
  go_enter Tryz.func227, Tryz.ntmps227
  go_wp2_with fail
  refine HR.out.mono ?_
  rintro r w1 ⟨rfl, hb1⟩
  have HE := hid (fun s : Later w1 => index_end m1 hN2.p.1 ⟨by omega, by omega⟩ (by omega) s.at_)
  have Y0 := fun s : Later w1 => s.cell ((hb1.cell (p := ⟨b, o, none⟩) hbb).trans x0)
  have Y1 := fun s : Later w1 => s.cell ((hb1.cell (p := ⟨b, o + n * 3, none⟩) hbb).trans z0)
  have Y2 := fun s : Later w1 => s.cell ((hb1.cell (p := ⟨b, o + n * 3 + 1, none⟩) hbb).trans z1)
  have Y3 := fun s : Later w1 => s.cell ((hb1.cell (p := ⟨b, o + n * 3 + 2, none⟩) hbb).trans z2)
  go_wp2_with fail
  refine wp_region_later (by kernel_rfl) (by kernel_rfl) ?_
  repeat (go_big_quiet_step ((go_at_call 262; exact later_of (HE.out _))))
  refine wpQuiet_nil ?_
  rintro W5 ⟨⟨W5', hb5⟩, rfl⟩
  go_wp2
  go_ret2
  exact ⟨rfl, below_then hb5 hb1⟩
end Go.Proofs.YtkipiefcnjfdjaaGreat
namespace Go.Bs
open Go.RowKit
set_option linter.unusedVariables false
structure FootD where
 ep : Int
 n : Int
 en : Int
 first : Int
 fin : Int
 at_ : Int
 size : Int
def FootD.val (f : FootD) : Array Value := #[.int .u64 f.ep, .int .i64 f.n, .int .i64 f.en, .int .u64 f.first, .int .u64 f.fin, .int .i64 f.at_, .int .i64 f.size]
structure FootR (f : FootD) : Prop where
 ep : epR f.ep = true
 n0 : 0 ≤ f.n
 n1 : f.n ≤ 16
 en0 : f.n ≤ f.en
 en1 : f.en ≤ f.n * 16
 at0 : 1 ≤ f.at_
 at1 : f.at_ ≤ 1099511627775
 sz0 : 1 ≤ f.size
 sz1 : f.size ≤ 2097152
 sp : if f.n = 0 then f.first = 0 ∧ f.fin = 0 else 0 ≤ f.first ∧ f.first < f.fin ∧ f.fin ≤ 4611686018427387904 ∧ f.en ≤ f.fin - f.first
def FootD.nums (f : FootD) : List Int := [f.n, f.en, f.first, f.fin, f.at_, f.size]
theorem FootR.nums {f : FootD} (h : FootR f) : ∀ x ∈ f.nums, 0 ≤ x ∧ x ≤ 18446744073709551615 := by
 obtain ⟨_, h1, h2, h3, h4, h5, h6, h7, h8, h9⟩ := h
 intro x hx
 simp only [FootD.nums, List.mem_cons, List.not_mem_nil, or_false] at hx
 split at h9 <;> rcases hx with rfl | rfl | rfl | rfl | rfl | rfl <;> omega
end Go.Bs
namespace Go.Proofs.YtkipiefcnjfdjaaGreat
open Go.RowKit Go.Bs Go.Maps
set_option linter.unusedVariables false
set_option linter.unusedSimpArgs false
def footP (f : FootD) : List UInt8 := [3] ++ varB f.ep.toNat ++ numsB f.nums
theorem footP_len (f : FootD) : (footP f).length ≤ 71 := by
 have h1 := (varB_len f.ep.toNat).1
 have h2 := numsB_len f.nums
 simp only [footP, List.length_append, List.length_cons, List.length_nil, FootD.nums] at h2 ⊢
 omega
theorem footer_spans (f : FootD) (hR : FootR f) (w : World) :
  Calls Tryz.prog 282 #[.agg f.val] w fun r w' => r = .returned (.bool true) ∧ Below w.heap.size w w' := by
 obtain ⟨_, h1, h2, h3, h4, h5, h6, h7, h8, h9⟩ := hR
 obtain ⟨ep, n, en, fi, fe, a, s⟩ := f
 dsimp only [FootD.val] at *
 by_cases h0 : n = 0
 ·subst h0
  rw [if_pos rfl] at h9
  obtain ⟨rfl, rfl⟩ := h9
  clear h1 h2 h3 h4 h5 h6 h7 h8
  go_enter Tryz.func282, Tryz.ntmps282
  go_wp2
  go_ret
  exact ⟨rfl, by (repeat first | exact zR | assumption | apply zA | apply zS | apply zD | apply zN | refine zT (by assumption) ?_ | omega | simp <;> omega)⟩
 ·rw [if_neg h0] at h9
  have d0 : (n == 0) = false := beq_eq_false_iff_ne.2 h0
  have d1 : decide (fi < fe) = true := decide_eq_true (by omega)
  have d2 : decide (fe ≤ 4611686018427387904) = true := decide_eq_true (by omega)
  have d3 : decide (en ≤ fe - fi) = true := decide_eq_true (by omega)
  have e1 : en % 18446744073709551616 = en := by omega
  have e2 : 0 ≤ fe - fi ∧ fe - fi ≤ 18446744073709551615 := by omega
  go_enter Tryz.func282, Tryz.ntmps282
  go_wp2
  go_ret
  exact ⟨rfl, by (repeat first | exact zR | assumption | apply zA | apply zS | apply zD | apply zN | refine zT (by assumption) ?_ | omega | simp <;> omega)⟩
set_option maxRecDepth 100000 in
set_option maxHeartbeats 1600000 in
theorem footer_right (f : FootD) (hR : FootR f) (w : World) :
  Calls Tryz.prog 263 #[.agg f.val] w fun r w' => r = .returned (.bool true) ∧ Below w.heap.size w w' := by
 have HS := hid (fun W : World => footer_spans f hR W)
 obtain ⟨h0, h1, h2, h3, h4, h5, h6, h7, h8, _⟩ := hR
 obtain ⟨ep, n, en, fi, fe, a, s⟩ := f
 dsimp only [FootD.val] at *
 have HE := hid (epoch_right ep)
 rw [h0] at HE
 have d1 : decide (0 ≤ n) = true := decide_eq_true h1
 have d2 : decide (n ≤ 16) = true := decide_eq_true h2
 have d3 : decide (n ≤ en) = true := decide_eq_true h3
 have d4 : decide (en ≤ n * 16) = true := decide_eq_true h4
 have d5 : decide (1 ≤ a) = true := decide_eq_true h5
 have d6 : decide (a ≤ 1099511627775) = true := decide_eq_true h6
 have d7 : decide (1 ≤ s) = true := decide_eq_true h7
 have d8 : decide (s ≤ 2097152) = true := decide_eq_true h8
 clear h0
 go_enter Tryz.func263, Tryz.ntmps263
 go_wp2_with fail
 refine (HE.out _).mono ?_
 rintro r w1 ⟨rfl, rfl⟩
 go_wp2_with fail
 refine (HS.out _).mono ?_
 rintro r w1 ⟨rfl, hb1⟩
 go_wp2
 go_ret
 exact ⟨rfl, by (repeat first | exact zR | assumption | apply zA | apply zS | apply zD | apply zN | refine zT (by assumption) ?_ | omega | simp <;> omega)⟩
set_option maxRecDepth 100000 in
set_option maxHeartbeats 3200000 in
theorem footer_payload (f : FootD) (hR : FootR f) (w : World) :
  Calls Tryz.prog 228 #[.agg f.val] w fun r w' => ∃ x, r = .returned (.tuple #[x, .int .i64 0]) ∧ rBytes.r (fun q => w.heap.size ≤ q ∧ q < w'.heap.size) w' [x] (footP f) ∧ Below w.heap.size w w' := by
 have HRT := hid (fun W : World => footer_right f hR W)
 have HNB := hid hR.nums
 have hpl := footP_len f
 have hpe : Hid (footP f = [3] ++ varB f.ep.toNat ++ numsB f.nums) := hid rfl
 have hep := hR.ep
 have hep' := hep
 simp only [epR, decide_eq_true_eq] at hep'
 obtain ⟨_, h1, h2, h3, h4, h5, h6, h7, h8, _⟩ := hR
 have hvl := (varB_len f.ep.toNat).1
 have hnl : Hid (f.nums.length = 6) := hid rfl
 have hcs : Hid ((u64Cells f.nums).toArray = #[.int .u64 f.n, .int .u64 f.en, .int .u64 f.first, .int .u64 f.fin, .int .u64 f.at_, .int .u64 f.size]) := hid rfl
 have hst := hid (fun k h => numsB_step f.nums k h)
 have hle : Hid (∀ k (h : k < f.nums.length), (numsB (f.nums.take k)).length + (varB (f.nums[k]'h).toNat).length ≤ 60) := hid fun k h => by
  have e := congrArg List.length (numsB_step f.nums k h)
  have e2 := numsB_len (f.nums.take (k + 1))
  rw [List.length_append] at e
  have e3 : (f.nums.take (k + 1)).length ≤ 6 := by rw [List.length_take]; simp [FootD.nums]; omega
  omega
 generalize footP f = K at *
 generalize f.nums = xs at *
 obtain ⟨ep, n, en, fi, fe, at_, s⟩ := f
 dsimp only [FootD.val] at *
 have e1 : n % 18446744073709551616 = n := by omega
 have e2 : en % 18446744073709551616 = en := by omega
 have e3 : at_ % 18446744073709551616 = at_ := by omega
 have e4 : s % 18446744073709551616 = s := by omega
 have HN := hid (fun W : World => pen_new W 80 (by omega))
 go_enter Tryz.func228, Tryz.ntmps228
 go_wp2_with fail
 refine (HN.out _).mono ?_
 rintro r w2 ⟨rfl, hp2, hb2⟩
 have hbox := (Blk.new w 91 #[.int .u64 ep, .int .i64 n, .int .i64 en, .int .u64 fi, .int .u64 fe, .int .i64 at_, .int .i64 s]).later hb2
 have hbw2 : Below w.heap.size w w2 := by (repeat first | exact zR | assumption | apply zA | apply zS | apply zD | apply zN | refine zT (by assumption) ?_ | omega | simp <;> omega)
 have c0 : w2.cell? ⟨w.heap.size, 0, none⟩ = some (.int .u64 ep) := hbox.cell 0
 have c1 : w2.cell? ⟨w.heap.size, 1, none⟩ = some (.int .i64 n) := hbox.cell 1
 have c2 : w2.cell? ⟨w.heap.size, 2, none⟩ = some (.int .i64 en) := hbox.cell 2
 have c3 : w2.cell? ⟨w.heap.size, 3, none⟩ = some (.int .u64 fi) := hbox.cell 3
 have c4 : w2.cell? ⟨w.heap.size, 4, none⟩ = some (.int .u64 fe) := hbox.cell 4
 have c5 : w2.cell? ⟨w.heap.size, 5, none⟩ = some (.int .i64 at_) := hbox.cell 5
 have c6 : w2.cell? ⟨w.heap.size, 6, none⟩ = some (.int .i64 s) := hbox.cell 6
 have HBX := hid hbox
 have HBW2 := hid hbw2
 have K2 := hid (PenOk.new hp2)
 generalize hg : (w.alloc (.cells #[.int .u64 ep, .int .i64 n, .int .i64 en, .int .u64 fi, .int .u64 fe, .int .i64 at_, .int .i64 s] 91)).heap.size = g at *
 have hgw : w.heap.size < g := by rw [← hg]; simp
 have hg2 : g ≤ w2.heap.size := by rw [← hg]; exact hb2.size
 clear hbox hbw2 hp2 hb2 hg
 go_wp2_with fail
 refine (HRT.out _).mono ?_
 rintro r w3 ⟨rfl, hb3⟩
 have K3 := hid (K2.out.later hb3)
 clear c0 c1 c2 c3 c4 c5 c6
 go_wp2_with fail
 obtain ⟨a3, b3, p3, k3, _⟩ := K3.out.at
 have hW : Below w3.heap.size w3 (w3.alloc (.cells #[.int .u8 3] 5)) := by (repeat first | exact zR | assumption | apply zA | apply zS | apply zD | apply zN | refine zT (by assumption) ?_ | omega | simp <;> omega)
 have hlit := lit_byte w3 3 (by omega)
 simp only [Int.cast_ofNat_Int] at hlit
 generalize w3.alloc (.cells #[.int .u8 3] 5) = W3 at *
 refine (pen_put W3 (p3.later hW) [3] _ 1 1 hlit (by simp) (by simp)).mono ?_
 rintro r w4 ⟨rfl, hs4⟩
 have K4 := hid (k3 (PenStep.later hW hs4))
 have q4 := K4.out.blk HBX.out (by omega)
 have c0 : w4.cell? ⟨w.heap.size, 0, none⟩ = some (.int .u64 ep) := q4.cell 0
 clear k3 hs4 hW hlit p3 q4
 go_wp2_with fail
 obtain ⟨a4, b4, p4, k4, _⟩ := K4.out.at
 have HEP : Hid (ep = (ep.toNat : Int)) := hid (by omega)
 refine ((by have := epoch_put w4 p4 ep.toNat (by rw [← HEP.out]; exact hep) (by simp; omega) (by simp; omega); rw [← HEP.out] at this; exact this : Calls Tryz.prog 71 #[.pointer (some ⟨g, 0, none⟩), .int .u64 ep] w4 fun r w' => r = .returned (.tuple #[]) ∧ PenStep w4 g g 80 (([] ++ [3]) ++ varB ep.toNat) a4 w')).mono ?_
 rintro r w5 ⟨rfl, hs5⟩
 have K5 := hid (k4 hs5)
 have q5 := K5.out.blk HBX.out (by omega)
 have c1 : w5.cell? ⟨w.heap.size, 1, none⟩ = some (.int .i64 n) := q5.cell 1
 have c2 : w5.cell? ⟨w.heap.size, 2, none⟩ = some (.int .i64 en) := q5.cell 2
 have c3 : w5.cell? ⟨w.heap.size, 3, none⟩ = some (.int .u64 fi) := q5.cell 3
 have c4 : w5.cell? ⟨w.heap.size, 4, none⟩ = some (.int .u64 fe) := q5.cell 4
 have c5 : w5.cell? ⟨w.heap.size, 5, none⟩ = some (.int .i64 at_) := q5.cell 5
 have c6 : w5.cell? ⟨w.heap.size, 6, none⟩ = some (.int .i64 s) := q5.cell 6
 clear k4 hs5 p4 q5 c0
 go_wp2_with fail
 refine wp_world (fun W => Below w5.heap.size w5 W ∧ Blk W w5.heap.size 22 (u64Cells xs).toArray) ⟨by (repeat first | exact zR | assumption | apply zA | apply zS | apply zD | apply zN | refine zT (by assumption) ?_ | omega | simp <;> omega), by rw [hcs.out]; exact Blk.new _ _ _⟩ ?_
 rintro W ⟨hW, hB⟩
 obtain ⟨a5, b5, p5, k5, _⟩ := K5.out.at
 have HW := hid hW
 have HB := hid hB
 have HNO : Hid (¬ PenF g a5 w5.heap.size) := hid fun hf => by have := (p5.own_lt hf).2; omega
 have HK5 := hid (fun (J' : List UInt8) (w' : World) (h : PenStep W g g 80 J' a5 w') => k5 (PenStep.later hW h))
 have HP5 := hid (p5.later hW)
 clear c1 c2 c3 c4 c5 c6 k5 hW hB p5
 go_loopw [38] (fun i wr => ∃ k : Nat, k ≤ 6 ∧ i = .int .i64 k ∧ Hid (PenStep W g g 80 (([] ++ [3]) ++ varB ep.toNat ++ numsB (xs.take k)) a5 wr)) (fun i _ => 6 - (intOf i).toNat)
 case atStart => exact ⟨0, Nat.zero_le _, rfl, hid (by simpa [numsB] using PenStep.refl HP5.out)⟩
 case round =>
  obtain ⟨k, hk, rfl, HST⟩ := hrel
  by_cases hlt : k < 6
  ·have hkx : k < xs.length := by rw [hnl.out]; exact hlt
   have x0 : wr.cell? ⟨w5.heap.size, k, none⟩ = some (.int .u64 xs[k]) := by
    refine ((HST.out.blk HB.out HNO.out).cell k).trans ?_
    simp [u64Cells, hkx]
   have HS := hid (hst.out k hkx)
   have hl := hle.out k hkx
   have hb := HNB.out _ (List.getElem_mem hkx)
   generalize xs[k] = x at *
   have i1 : (k : Int) < 6 := by omega
   obtain ⟨a7, b7, p7, k7⟩ := HST.out.at
   have HV := hid (varint_putI wr p7 x hb (by simp; omega) (by simp; omega))
   have HK7 := hid k7
   clear p7 k7
   go_wp2_with fail
   refine HV.out.mono ?_
   rintro r w7 ⟨rfl, hs7⟩
   have HS7 := hid (HK7.out _ _ hs7)
   clear hs7
   go_wp2
   go_roundw
   case rel => exact ⟨k + 1, by omega, by go_num, hid (by rw [HS.out]; have := HS7.out; rw [List.append_assoc] at this; exact this)⟩
   case measure => simp [intOf]; omega
  ·obtain rfl : k = 6 := by omega
   have K6 : Hid (PenOk w2 g 80 K wr) := hid (by
    have h := HK5.out _ _ HST.out
    rw [List.take_of_length_le (by rw [hnl.out]; omega), List.nil_append, ← hpe.out] at h
    exact h)
   go_wp2_with fail
   obtain ⟨a7, b7, p7, k7, _⟩ := K6.out.at
   refine (pen_bytes wr p7).mono ?_
   rintro r w8 ⟨x, rfl, hr, hb8⟩
   have hbw := K6.out.below HBW2.out (by omega)
   have HR := hid hr
   clear hr k7 p7
   go_wp2
   go_ret2
   exact ⟨_, rfl, rBytes.mono HR.out fun q hq => ⟨by have := hbw.size; omega, hq.2⟩, below_then hb8 hbw⟩
end Go.Proofs.YtkipiefcnjfdjaaGreat
namespace Go.Proofs.YtkipiefcnjfdjaaGreat
open Go.RowKit Go.Bs Go.Maps
set_option linter.unusedVariables false
set_option linter.unusedSimpArgs false
def trailB (n : Nat) : List UInt8 := fixedB 4 n ++ (fixedB 4 (crcSum (fixedB 4 n)) ++ [76, 79, 72, 84])
theorem trailB_len (n : Nat) : (trailB n).length = 12 := by simp [trailB, fixedB_len]
def footB (f : FootD) : List UInt8 := frameB (footP f) ++ trailB (frameB (footP f)).length
theorem footer_size (w : World) : Calls Tryz.prog 241 #[] w fun r w' => r = .returned (.int .i64 12) ∧ w = w' := by
 go_enter Tryz.func241, Tryz.ntmps241
 go_wp2
 go_ret
 exact ⟨rfl, rfl⟩
set_option maxRecDepth 100000 in
set_option maxHeartbeats 1600000 in
theorem footer_trailer (n : Nat) (hn : n < 18446744073709551616) (w : World) :
  Calls Tryz.prog 229 #[.int .i64 n] w fun r w' => ∃ x, r = .returned x ∧ rBytes.r (fun q => w.heap.size ≤ q ∧ q < w'.heap.size) w' [x] (trailB n) ∧ Below w.heap.size w w' := by
 have hff : Hid (trailB n = ([] ++ fixedB 4 n) ++ fixedB 4 (crcSum (fixedB 4 n)) ++ [76, 79, 72, 84]) := hid (by simp [trailB])
 have HF := hid (fun W : World => pen_fixed n hn 4 (by omega) W)
 have hfl := fixedB_len 4 n
 have HC := hid (fun (W : World) (a : Option Addr) (n' c : Nat) h => crc_sum (fixedB 4 n) a n' c W h)
 have HL := crcSum_lt (fixedB 4 n)
 have HN := hid (fun W : World => pen_new W 12 (by omega))
 have e1 : (n : Int) % 18446744073709551616 = n := by omega
 generalize trailB n = K at *
 generalize crcSum (fixedB 4 n) = s at *
 generalize fixedB 4 n = D at *
 go_enter Tryz.func229, Tryz.ntmps229
 go_wp2_with fail
 refine (footer_size _).mono ?_
 rintro r w1 ⟨rfl, rfl⟩
 go_wp2_with fail
 refine (HN.out w).mono ?_
 rintro r w2 ⟨rfl, hp2, hb2⟩
 have HP2 := hid hp2
 have hz2 := hp2.blk.lt
 clear hp2
 go_wp2_with fail
 refine (HF.out _).mono ?_
 rintro r w3 ⟨v, rfl, ho, hb3⟩
 obtain ⟨a, c, rfl⟩ := own_form ho
 have hr := own_bytes2 (l := D) hfl.symm ho
 have HR := hid hr
 have hbw3 := hid (below_then hb3 hb2)
 have HP3 := hid (HP2.out.later hb3)
 clear ho hr
 go_wp2_with fail
 refine (pen_put w3 HP3.out D a _ c (rBytes.mono (S' := (· < w3.heap.size)) HR.out fun q hq => hq.2) (by simp; omega) (by simp; omega)).mono ?_
 rintro r w4 ⟨rfl, hs4⟩
 have K4 : Hid (PenOk w3 w.heap.size 12 ([] ++ D) w4) := hid hs4
 have ht4 := K4.out.tch
 have hs4' := ht4.size
 have HR4 := hid (rBytes.mono (S' := (· < w4.heap.size)) (rBytes.keep HR.out fun q hq => ht4.block q hq.2 (by omega)) fun q hq => by omega)
 clear hs4 ht4
 go_wp2_with fail
 refine (HC.out w4 a _ c HR4.out).mono ?_
 rintro r w5 ⟨rfl, hb5⟩
 have K5 := hid (K4.out.later hb5)
 have e2 : (s : Int) % 18446744073709551616 = s := by omega
 go_wp2_with fail
 obtain ⟨a5, b5, p5, k5, _⟩ := K5.out.at
 refine (pen_wfixed w5 p5 s (by omega) 4 (by omega) (by simp; omega) (by simp; omega)).mono ?_
 rintro r w6 ⟨rfl, hs6⟩
 have K6 := hid (k5 hs6)
 have hl6 := fixedB_len 4 s
 clear hs6 k5 p5
 go_wp2_with fail
 obtain ⟨a6, b6, p6, k6, _⟩ := K6.out.at
 refine (pen_text w6 p6 ⟨#[76, 79, 72, 84]⟩ (by decide) [76, 79, 72, 84] rfl (by simp; omega) (by simp; omega)).mono ?_
 rintro r w7 ⟨rfl, hs7⟩
 have k7 := k6 hs7
 rw [← hff.out] at k7
 have K7 := hid k7
 clear hs7 k6 p6 k7
 go_wp2_with fail
 obtain ⟨a7, b7, p7, k7, _⟩ := K7.out.at
 refine (pen_bytes w7 p7).mono ?_
 rintro r w8 ⟨x, rfl, hr, hb8⟩
 have hbw := K7.out.below hbw3.out (Nat.le_refl _)
 have HRR := hid hr
 clear hr k7 p7
 go_wp2
 go_ret
 exact ⟨_, rfl, rBytes.mono HRR.out fun q hq => ⟨by have := hbw.size; omega, hq.2⟩, below_then hb8 hbw⟩
set_option maxRecDepth 100000 in
set_option maxHeartbeats 1600000 in
theorem footer_bytes (f : FootD) (hR : FootR f) (w : World) :
  Calls Tryz.prog 178 #[.agg f.val] w fun r w' => ∃ x, r = .returned (.tuple #[x, .int .i64 0]) ∧ OwnB w' w.heap.size x (footB f) ∧ Below w.heap.size w w' := by
 obtain ⟨i0, hi, hz0, hz1, hz2⟩ := info_parts info8
 have HP := hid (fun W : World => footer_payload f hR W)
 have hpl := footP_len f
 have hfb : Hid (footB f = frameB (footP f) ++ trailB (frameB (footP f)).length) := hid rfl
 have hfl : (frameB (footP f)).length ≤ 100 := by
  rw [frameB_len, blobB_len]
  have := (varB_len (footP f).length).1
  omega
 have HF := hid (fun (W : World) (a : Option Addr) (n c : Nat) h => frame_bytes W (footP f) a n c h (by omega))
 have HT := hid (fun W : World => footer_trailer (frameB (footP f)).length (by omega) W)
 have htl : (trailB (frameB (footP f)).length).length ≤ 12 := by rw [trailB_len]; omega
 generalize footB f = K at *
 generalize trailB (frameB (footP f)).length = T at *
 generalize frameB (footP f) = D at *
 generalize footP f = P at *
 have hfv : f.val = #[.int .u64 f.ep, .int .i64 f.n, .int .i64 f.en, .int .u64 f.first, .int .u64 f.fin, .int .i64 f.at_, .int .i64 f.size] := rfl
 rw [hfv]
 rw [hfv] at HP
 clear hfv hR
 go_enter Tryz.func178, Tryz.ntmps178
 go_wp2_with fail
 refine (HP.out _).mono ?_
 rintro r w1 ⟨v, rfl, hr, hb1⟩
 obtain ⟨a1, c1, hv1, hr1, _⟩ := sl_form hr
 simp only [List.cons.injEq, and_true] at hv1
 subst hv1
 have HR := hid (rBytes.mono (S' := (· < w1.heap.size)) hr1 fun q hq => hq.2)
 have hbw1 : Below w.heap.size w w1 := by (repeat first | exact zR | assumption | apply zA | apply zS | apply zD | apply zN | refine zT (by assumption) ?_ | omega | simp <;> omega)
 clear hr hr1
 go_wp2_with fail
 refine (HF.out w1 a1 _ c1 HR.out).mono ?_
 rintro r w2 ⟨v, rfl, ho2, hb2⟩
 obtain ⟨a2, c2, rfl⟩ := ho2.form
 have hbw2 := below_then hb2 hbw1
 have HO2 := hid ho2
 clear ho2
 go_wp2_with fail
 refine (HT.out w2).mono ?_
 rintro r w3 ⟨v, rfl, hr3, hb3⟩
 obtain ⟨a3, c3, hv3, hr3', _⟩ := sl_form hr3
 simp only [List.cons.injEq, and_true] at hv3
 subst hv3
 have HS := hid (src_bytes (rBytes.mono (S' := (· < w3.heap.size)) hr3' fun q hq => hq.2))
 have HO3 : Hid (w3.ownsRow w.heap.size 5 1 (.slice a2 D.length c2) D.length (byteCells D)) := hid (own_below (HO2.out.low hbw1.size) hb3)
 have HONE := hid (byteCells_one T)
 have hbw3 := below_then hb3 hbw2
 have hz3 := hbw3.size
 clear hr3 hr3'
 go_wp2_with (at_builtin; go_loud (refine wpList_append_src rfl _ _ _ rfl w.heap.size 5 i0 (.int .u8 0) 1 1 Tryz.underlying28 hi hz0 hz1 hz2 rfl (by decide) (.slice a2 D.length c2) D.length (byteCells D) rfl HO3.out a3 T.length c3 (byteCells T) rfl HS.out HONE.out (by simp only [maxLen]; omega) (by omega) (by omega) ?_; intro v' w4 hown4 hgrow4 hat4; have HG := hid hgrow4; have HO4 := hid hown4; clear hgrow4 hown4 hat4))
 have hB : Below w.heap.size w w4 := Below.grown hbw3 HG.out (by omega) (fun g e => (HO3.out.lt g e).1)
 have hO := OwnB.app HO4.out
 rw [← hfb.out] at hO
 have HO := hid hO
 clear hO
 go_wp2
 go_ret2
 exact ⟨_, rfl, HO.out, hB⟩
def recB (k : UInt8) (D : List UInt8) : List UInt8 := frameB (k :: D)
set_option maxRecDepth 100000 in
set_option maxHeartbeats 1600000 in
theorem seg_record (k : Nat) (hk : k < 256) (D : List UInt8) (a : Option Addr) (n c : Nat) (w : World) (hl : rBytes.r (· < w.heap.size) w [.slice a n c] D) (hm : D.length + 1 ≤ 2097152) :
  Calls Tryz.prog 175 #[.int .u8 k, .slice a n c] w fun r w' => ∃ x, r = .returned x ∧ OwnB w' w.heap.size x (recB (UInt8.ofNat k) D) ∧ Below w.heap.size w w' := by
 obtain ⟨rfl, hlm, _, _⟩ := sl_len hl
 obtain ⟨i0, hi, hz0, hz1, hz2⟩ := info_parts info8
 have HF := hid (fun (W : World) (a : Option Addr) (n c : Nat) h => frame_bytes W (UInt8.ofNat k :: D) a n c h (by simp; omega))
 have hrb : Hid (recB (UInt8.ofNat k) D = frameB (UInt8.ofNat k :: D)) := hid rfl
 have hcl : Hid ([Value.int .u8 (k : Int)] ++ byteCells D = byteCells (UInt8.ofNat k :: D)) := hid (by
  rw [show (k : Int) = ((UInt8.ofNat k).toNat : Int) from byte_small hk]; rfl)
 have HS := hid (fun (W : World) (hW : Below w.heap.size w W) => src_bytes (lift hl hW))
 have HONE := hid (byteCells_one D)
 have HO := hid (own_new1 (w := w.alloc (.cells #[.int .u8 (k : Int)] 5)) (base := w.heap.size) (e := 5) (Nat.le_refl _) (World.alloc_heap_new w _))
 clear hl
 go_enter Tryz.func175, Tryz.ntmps175
 go_wp2_with (at_builtin; go_loud (refine wpList_append_src rfl _ _ _ rfl w.heap.size 5 i0 (.int .u8 0) 1 1 Tryz.underlying28 hi hz0 hz1 hz2 rfl (by decide) (.slice (some ⟨w.heap.size, 0, none⟩) 1 1) 1 _ rfl HO.out a D.length c (byteCells D) rfl (HS.out _ (by (repeat first | exact zR | assumption | apply zA | apply zS | apply zD | apply zN | refine zT (by assumption) ?_ | omega | simp <;> omega))) HONE.out (by simp only [maxLen]; omega) (by omega) (by simp) ?_; intro v' w1 hown1 hgrow1 hat1; obtain ⟨a', c', rfl⟩ := own_form hown1; have HG := hid hgrow1; have HO1 := hid hown1; clear hgrow1 hown1 hat1))
 have ho := HO1.out
 rw [hcl.out] at ho
 have hB : Below w.heap.size w w1 := Below.grown (by (repeat first | exact zR | assumption | apply zA | apply zS | apply zD | apply zN | refine zT (by assumption) ?_ | omega | simp <;> omega)) HG.out (by simp) (fun g e => (HO.out.lt g e).1)
 have HR1 := hid (own_bytes (l := UInt8.ofNat k :: D) (by simp; omega) ho)
 clear ho
 refine (HF.out w1 a' _ c' HR1.out).mono ?_
 rintro r w2 ⟨v, rfl, ho2, hb2⟩
 rw [← hrb.out] at ho2
 have HO2 := hid (ho2.low hB.size)
 clear ho2
 go_wp2
 go_ret
 exact ⟨_, rfl, HO2.out, below_then hb2 hB⟩
end Go.Proofs.YtkipiefcnjfdjaaGreat
