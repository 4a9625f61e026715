/- Needed by segmentFinds_walk, part 2: texts put together by shake.py; no condition. -/
import Derived.Test.YtkipiefcnjfdjaaGreatF1
import Derived.Maps.OwnOps
import Derived.Maps.Views
import Derived.Test.YtkipiefcnjfdjaaGreatRows
import Derived.Deep.AppendLies
import Derived.Sort.QuietThIn
import Derived.Sort.BigQuietIn
import Derived.Sort.QuietTacIn
import Derived.RangeFuncNested
import Derived.RangeFuncBound
import Derived.RangeFuncCalls
import Derived.RangeFuncLeaves
import Derived.Shelf.Abstract
import Derived.Shelf.RegionOpen
import Derived.OwnWalkIn
import Derived.TacticsInMore
import Derived.LoopNIn
import Derived.LoopIn
import Derived.Maps.OwnIn
import Derived.StillTailTactics
import Derived.StillTail
import Derived.RegionTactic
import Derived.OrdersHeld
import Derived.Deep.RegionHeld
import Derived.Laws.IdiomStrings
import Derived.Laws.BytesArg
import Derived.Lib.SlBytesConst
namespace Go.Proofs.YtkipiefcnjfdjaaGreat
open Go.RowKit Go.Bs
set_option linter.unusedVariables false
set_option linter.unusedSimpArgs false
set_option maxHeartbeats 3200000 in
theorem ref23_right (pos : Int) (l : List Link) (a : Option Addr) (n c : Nat) (w : World) (hl : rLinks.r (· < w.heap.size) w [.slice a n c] l) :
  Calls Tryz.prog 140 #[.int .u64 pos, .slice a n c] w fun r w' => r = .returned (.bool (linksR pos l)) ∧ Below w.heap.size w w' := by
 obtain ⟨rfl, hm, _, _⟩ := sl_len hl
 have HL := hid hl; clear hl
 by_cases h16 : 16 < l.length
 ·have hff : Hid (linksR pos l = false) := hid (by simp [linksR]; omega)
  go_enter Tryz.func140, Tryz.ntmps140
  go_wp2
  go_ret
  exact ⟨by rw [hff.out]; rfl, by (repeat first | exact zR | assumption | apply zA | apply zS | apply zD | apply zN | refine zT (by assumption) ?_ | omega | simp <;> omega)⟩
 ·have hff : Hid (linksR pos l = (risesB (l.map Link.stream) && l.all (linkR pos))) := hid (by simp only [linksR]; rw [decide_eq_true (by omega)]; rfl)
  go_enter Tryz.func140, Tryz.ntmps140
  go_wp2_with fail
  go_loopw [5] (fun i wr => ∃ k : Nat, k ≤ l.length ∧ i = .int .i64 k ∧ Hid (linksR pos l = (risesAt (l.map Link.stream) k && (l.drop k).all (linkR pos))) ∧ Below w.heap.size w wr) (fun i _ => l.length - (intOf i).toNat)
  case atStart => exact ⟨0, Nat.zero_le _, rfl, hid (by rw [hff.out]; rfl), Below.refl _ _⟩
  case round =>
   obtain ⟨k, hk, rfl, hf, hb⟩ := hrel
   clear hff
   by_cases hlt : k < l.length
   ·obtain ⟨b, o, hA, hbb, a1, c1, hc0, hc1, _, hbs⟩ := link_at HL.out hlt
    have hlt' : (k : Int) < (l.length : Int) := by omega
    have hlR : linkR pos l[k] = (decide (l[k].backs.length ≤ 4) && fallsB pos l[k].backs) := rfl
    have hdr := hid (show (l.drop k).all (linkR pos) = (linkR pos l[k] && (l.drop (k + 1)).all (linkR pos)) by rw [List.drop_eq_getElem_cons hlt]; rfl)
    obtain ⟨z, hz⟩ : ∃ z, l[k] = z := ⟨_, rfl⟩
    rw [hz] at hc0 hc1 hbs hlR hdr
    have HZ := hid hz; clear hz
    have HBS := hid (lift hbs hb)
    have HFA := fun (s : Later wr) => ref22_falls pos z.backs a1 _ c1 s.at_ (lift HBS.out s.below)
    have HF := hid HFA; clear HFA hbs
    rcases k with _ | m
    ·have h1 := hid (risesAt_one (l.map Link.stream))
     have X1 := fun s : Later wr => s.cell ((hb.cell (p := ⟨b, o + 0 * 2 + 1, none⟩) hbb).trans hc1)
     subst hA
     simp only [Nat.zero_mul, Nat.add_zero] at X1
     clear hc0 hc1
     by_cases h4 : 4 < z.backs.length
     ·have hff : Hid (linksR pos l = false) := hid (by rw [hf.out, hdr.out, hlR, decide_eq_false (by omega)]; simp)
      have d4 : decide (4 < (z.backs.length : Int)) = true := by simp; omega
      clear hlR
      go_wp2_with fail
      refine wp_region_later (by kernel_rfl) (by kernel_rfl) ?_
      repeat (go_big_quiet_step (fail))
      refine wpQuiet_nil ?_
      rintro W5 ⟨⟨W5', hb5⟩, rfl⟩
      go_wp2
      go_ret
      exact ⟨by rw [hff.out]; rfl, below_then hb5 hb⟩
     ·have d4 : decide (4 < (z.backs.length : Int)) = false := by simp; omega
      cases hfa : fallsB pos z.backs
      ·have hff : Hid (linksR pos l = false) := hid (by rw [hf.out, hdr.out, hlR, hfa]; simp)
       rw [hfa] at HF
       clear hlR hfa
       go_wp2_with fail
       refine wp_region_later (by kernel_rfl) (by kernel_rfl) ?_
       repeat (go_big_quiet_step (((go_at_call 202; exact later_of (HF.out _)))))
       refine wpQuiet_nil ?_
       rintro W5 ⟨⟨W5', hb5⟩, rfl⟩
       go_wp2
       go_ret
       exact ⟨by rw [hff.out]; rfl, below_then hb5 hb⟩
      ·have hff : Hid (linksR pos l = (risesAt (l.map Link.stream) (1) && (l.drop (1)).all (linkR pos))) := hid (by rw [hf.out, hdr.out, hlR, hfa, ← h1.out, decide_eq_true (by omega)]; simp)
       rw [hfa] at HF
       clear hlR hfa
       go_wp2_with fail
       refine wp_region_later (by kernel_rfl) (by kernel_rfl) ?_
       repeat (go_big_quiet_step (((go_at_call 202; exact later_of (HF.out _)))))
       refine wpQuiet_nil ?_
       rintro W5 ⟨⟨W5', hb5⟩, rfl⟩
       go_wp2
       go_roundw
       case rel => exact ⟨1, by omega, rfl, hff, below_then hb5 hb⟩
       case measure => simp [intOf]; omega
    ·obtain ⟨b', o', hA', hbb', a2, c2, hd0, hd1, _, _⟩ := link_at HL.out (show m < l.length by omega)
     have hst := hid (risesAt_step (l.map Link.stream) m (by simpa using hlt))
     subst hA
     obtain ⟨rfl, rfl⟩ : b' = b ∧ o' = o := by simp at hA'; exact ⟨hA'.1.symm, hA'.2.symm⟩
     clear hA'
     have X0 := fun s : Later wr => s.cell ((hb.cell (p := ⟨b', o' + (m + 1) * 2, none⟩) hbb).trans hc0)
     have X1 := fun s : Later wr => s.cell ((hb.cell (p := ⟨b', o' + (m + 1) * 2 + 1, none⟩) hbb).trans hc1)
     have Y0 := fun s : Later wr => s.cell ((hb.cell (p := ⟨b', o' + m * 2, none⟩) hbb).trans hd0)
     clear hc0 hc1 hd0 hd1
     simp only [List.getElem_map] at hst
     rw [HZ.out] at hst
     generalize hy : l[m].stream = y at *
     clear hy
     generalize hx : z.stream = x at *
     clear hx
     rw [show ((m + 1 : Nat) : Int) = (m : Int) + 1 from by omega]
     have k1 : (0 : Int) < (m : Int) + 1 := by omega
     have k2 : (0 : Int) ≤ (m : Int) + 1 - 1 := by omega
     have k3 : (m : Int) + 1 < (l.length : Int) := by omega
     have k4 : (m : Int) < (l.length : Int) := by omega
     by_cases hge : x ≤ y
     ·have d1 : decide (x ≤ y) = true := by simpa using hge
      have hff : Hid (linksR pos l = false) := hid (by rw [hf.out, hst.out, decide_eq_false (by omega)]; rfl)
      clear hge hlR
      go_wp2_with fail
      refine wp_region_later (by kernel_rfl) (by kernel_rfl) ?_
      repeat (go_big_quiet_step (fail))
      refine wpQuiet_nil ?_
      rintro W5 ⟨⟨W5', hb5⟩, rfl⟩
      go_wp2
      go_ret
      exact ⟨by rw [hff.out]; rfl, below_then hb5 hb⟩
     ·have d1 : decide (x ≤ y) = false := by simpa using hge
      have hst' : Hid (risesAt (l.map Link.stream) (m + 1) = risesAt (l.map Link.stream) (m + 2)) := hid (by rw [hst.out, decide_eq_true (by omega)]; rfl)
      clear hge
      by_cases h4 : 4 < z.backs.length
      ·have hff : Hid (linksR pos l = false) := hid (by rw [hf.out, hdr.out, hlR, decide_eq_false (by omega)]; simp)
       have d4 : decide (4 < (z.backs.length : Int)) = true := by simp; omega
       clear hlR
       go_wp2_with fail
       refine wp_region_later (by kernel_rfl) (by kernel_rfl) ?_
       repeat (go_big_quiet_step (fail))
       refine wpQuiet_nil ?_
       rintro W5 ⟨⟨W5', hb5⟩, rfl⟩
       go_wp2
       go_ret
       exact ⟨by rw [hff.out]; rfl, below_then hb5 hb⟩
      ·have d4 : decide (4 < (z.backs.length : Int)) = false := by simp; omega
       cases hfa : fallsB pos z.backs
       ·have hff : Hid (linksR pos l = false) := hid (by rw [hf.out, hdr.out, hlR, hfa]; simp)
        rw [hfa] at HF
        clear hlR hfa
        go_wp2_with fail
        refine wp_region_later (by kernel_rfl) (by kernel_rfl) ?_
        repeat (go_big_quiet_step (((go_at_call 202; exact later_of (HF.out _)))))
        refine wpQuiet_nil ?_
        rintro W5 ⟨⟨W5', hb5⟩, rfl⟩
        go_wp2
        go_ret
        exact ⟨by rw [hff.out]; rfl, below_then hb5 hb⟩
       ·have hff : Hid (linksR pos l = (risesAt (l.map Link.stream) (m + 2) && (l.drop (m + 2)).all (linkR pos))) := hid (by rw [hf.out, hdr.out, hlR, hfa, hst'.out, decide_eq_true (by omega)]; simp)
        rw [hfa] at HF
        clear hlR hfa
        go_wp2_with fail
        refine wp_region_later (by kernel_rfl) (by kernel_rfl) ?_
        repeat (go_big_quiet_step (((go_at_call 202; exact later_of (HF.out _)))))
        refine wpQuiet_nil ?_
        rintro W5 ⟨⟨W5', hb5⟩, rfl⟩
        go_wp2
        go_roundw
        case rel => exact ⟨m + 2, by omega, by go_num, hff, below_then hb5 hb⟩
        case measure => simp [intOf]; omega
   ·obtain rfl : k = l.length := by omega
    have hff : Hid (linksR pos l = true) := hid (by
     have := risesAt_end (l.map Link.stream)
     rw [List.length_map] at this
     rw [hf.out, this, List.drop_length]; rfl)
    go_wp2
    go_ret
    exact ⟨by rw [hff.out]; rfl, hb⟩
set_option maxHeartbeats 800000 in
theorem ref23_one (x y : Link) (a a' : Option Addr) (n c n' c' : Nat) (w : World) (hx : rU64s.r (· < w.heap.size) w [.slice a n c] x.backs) (hy : rU64s.r (· < w.heap.size) w [.slice a' n' c'] y.backs) :
  Calls Tryz.prog 173 #[.agg #[.int .u64 x.stream, .slice a n c], .agg #[.int .u64 y.stream, .slice a' n' c']] w fun r w' => r = .returned (.bool (decide (x = y))) ∧ Below w.heap.size w w' := by
 have he : decide (x = y) = (decide (x.stream = y.stream) && decide (x.backs = y.backs)) := by
  rw [Bool.eq_iff_iff]; cases x; cases y; simp
 have HE := hid he; clear he
 have HX := hid hx; clear hx
 have HY := hid hy; clear hy
 by_cases h : x.stream = y.stream
 ·have e1 : (x.stream == y.stream) = true := by simp [h]
  have hff : Hid (decide (x = y) = decide (x.backs = y.backs)) := hid (by rw [HE.out]; simp [h])
  clear h
  go_enter Tryz.func173, Tryz.ntmps173
  go_wp2_with fail
  refine (same_u64s x.backs y.backs _ _ _ _ _ _ _ (lift HX.out (by (repeat first | exact zR | assumption | apply zA | apply zS | apply zD | apply zN | refine zT (by assumption) ?_ | omega | simp <;> omega))) (lift HY.out (by (repeat first | exact zR | assumption | apply zA | apply zS | apply zD | apply zN | refine zT (by assumption) ?_ | omega | simp <;> omega)))).mono ?_
  rintro e w1 ⟨rfl, hb1⟩
  go_wp2
  go_ret
  exact ⟨by rw [hff.out]; rfl, by (repeat first | exact zR | assumption | apply zA | apply zS | apply zD | apply zN | refine zT (by assumption) ?_ | omega | simp <;> omega)⟩
 ·have e1 : (x.stream == y.stream) = false := by simp [h]
  have hff : Hid (decide (x = y) = false) := hid (by rw [HE.out]; simp [h])
  clear h
  go_enter Tryz.func173, Tryz.ntmps173
  go_wp2
  go_ret
  exact ⟨by rw [hff.out]; rfl, by (repeat first | exact zR | assumption | apply zA | apply zS | apply zD | apply zN | refine zT (by assumption) ?_ | omega | simp <;> omega)⟩
end Go.Proofs.YtkipiefcnjfdjaaGreat
namespace Go.Proofs.YtkipiefcnjfdjaaGreat
open Go.RowKit Go.Bs
set_option linter.unusedVariables false
set_option linter.unusedSimpArgs false
set_option maxHeartbeats 1600000 in
theorem ref23_same (x y : List Link) (a a' : Option Addr) (n c n' c' : Nat) (w : World) (hx : rLinks.r (· < w.heap.size) w [.slice a n c] x) (hy : rLinks.r (· < w.heap.size) w [.slice a' n' c'] y) :
  Calls Tryz.prog 112 #[.slice a n c, .slice a' n' c'] w fun r w' => r = .returned (.bool (decide (x = y))) ∧ Below w.heap.size w w' := by
 obtain ⟨rfl, hm, _, _⟩ := sl_len hx
 obtain ⟨rfl, hm', _, _⟩ := sl_len hy
 by_cases hl : x.length = y.length
 ·have HX := hid hx; clear hx
  have HY := hid hy; clear hy
  have HL := hid hl
  have e1 : ((x.length : Int) != (y.length : Int)) = false := by simp [hl]
  clear hl
  go_enter Tryz.func112, Tryz.ntmps112
  go_wp2
  go_loopw [5] (fun i wr => ∃ k : Nat, k ≤ x.length ∧ i = .int .i64 k ∧ Hid (decide (x = y) = decide (x.drop k = y.drop k)) ∧ Below w.heap.size w wr) (fun i _ => x.length - (intOf i).toNat)
  case atStart => exact ⟨0, Nat.zero_le _, rfl, hid rfl, Below.refl _ _⟩
  case round =>
   obtain ⟨k, hk, rfl, hf, hb⟩ := hrel
   by_cases hlt : k < x.length
   ·have hlt' : k < y.length := by rw [← HL.out]; exact hlt
    obtain ⟨b, o, hA, hbb, a1, c1, hc0, hc1, _, hr1⟩ := link_at HX.out hlt
    obtain ⟨b', o', hA', hbb', a2, c2, hd0, hd1, _, hr2⟩ := link_at HY.out hlt'
    have hst := hid (drop_eq_step x y k hlt hlt')
    subst hA hA'
    have X0 := fun s : Later wr => s.cell ((hb.cell (p := ⟨b, o + k * 2, none⟩) hbb).trans hc0)
    have X1 := fun s : Later wr => s.cell ((hb.cell (p := ⟨b, o + k * 2 + 1, none⟩) hbb).trans hc1)
    have Y0 := fun s : Later wr => s.cell ((hb.cell (p := ⟨b', o' + k * 2, none⟩) hbb').trans hd0)
    have Y1 := fun s : Later wr => s.cell ((hb.cell (p := ⟨b', o' + k * 2 + 1, none⟩) hbb').trans hd1)
    clear hc0 hc1 hd0 hd1
    generalize hlk : x[k] = u at *
    generalize hlm : y[k] = v at *
    clear hlk hlm
    have hs1 := hid (lift hr1 hb)
    have hs2 := hid (lift hr2 hb)
    clear hr1 hr2
    have hO := fun s : Later wr => ref23_one u v a1 a2 _ c1 _ c2 s.at_ (lift hs1.out s.below) (lift hs2.out s.below)
    have i0 : (0 : Int) ≤ (k : Int) := by omega
    have i1 : (k : Int) < (x.length : Int) := by omega
    have i2 : (k : Int) < (y.length : Int) := by omega
    by_cases huv : u = v
    ·rw [decide_eq_true huv] at hO
     have HO := hid hO; clear hO
     have hst' : Hid (decide (x.drop k = y.drop k) = decide (x.drop (k + 1) = y.drop (k + 1))) := hid (by rw [hst.out]; simp [huv])
     clear huv
     go_wp2_with fail
     refine wp_region_later (by kernel_rfl) (by kernel_rfl) ?_
     repeat (go_big_quiet_step (((go_at_call 173; exact later_of (HO.out _)))))
     refine wpQuiet_nil ?_
     rintro W5 ⟨⟨W5', hb5⟩, rfl⟩
     go_wp2
     go_roundw
     case rel => exact ⟨k + 1, by omega, by go_num, hid (by rw [hf.out, hst'.out]), below_then hb5 hb⟩
     case measure => simp [intOf]; omega
    ·rw [decide_eq_false huv] at hO
     have HO := hid hO; clear hO
     have hff : Hid (decide (x = y) = false) := hid (by rw [hf.out, hst.out]; simp [huv])
     clear huv
     go_wp2_with fail
     refine wp_region_later (by kernel_rfl) (by kernel_rfl) ?_
     repeat (go_big_quiet_step (((go_at_call 173; exact later_of (HO.out _)))))
     refine wpQuiet_nil ?_
     rintro W5 ⟨⟨W5', hb5⟩, rfl⟩
     go_wp2
     go_ret
     exact ⟨by rw [hff.out]; rfl, below_then hb5 hb⟩
   ·obtain rfl : k = x.length := by omega
    have hff : Hid (decide (x = y) = true) := hid (by rw [hf.out, List.drop_length, List.drop_of_length_le (by rw [HL.out]; exact Nat.le_refl _)]; rfl)
    go_wp2
    go_ret
    exact ⟨by rw [hff.out]; rfl, hb⟩
 ·have hff : Hid (decide (x = y) = false) := hid (by simp; rintro rfl; exact hl rfl)
  have e1 : ((x.length : Int) != (y.length : Int)) = true := by simp; omega
  clear hl hx hy
  go_enter Tryz.func112, Tryz.ntmps112
  go_wp2
  go_ret
  exact ⟨by rw [hff.out]; rfl, Below.refl _ _⟩
set_option maxHeartbeats 800000 in
theorem ref24_same (x y : Entry) (a1 a2 a3 a4 : Option Addr) (n1 c1 n2 c2 n3 c3 n4 c4 : Nat) (w : World) (hx : rLinks.r (· < w.heap.size) w [.slice a1 n1 c1] x.links) (hx' : rBytes.r (· < w.heap.size) w [.slice a3 n3 c3] x.data)
  (hy : rLinks.r (· < w.heap.size) w [.slice a2 n2 c2] y.links) (hy' : rBytes.r (· < w.heap.size) w [.slice a4 n4 c4] y.data) :
  Calls Tryz.prog 54 #[.agg #[.slice a1 n1 c1, .slice a3 n3 c3], .agg #[.slice a2 n2 c2, .slice a4 n4 c4]] w fun r w' => r = .returned (.bool (decide (x = y))) ∧ Below w.heap.size w w' := by
 have he : decide (x = y) = (decide (x.links = y.links) && decide (x.data = y.data)) := by
  rw [Bool.eq_iff_iff]; cases x; cases y; simp
 have HE := hid he; clear he
 have HX := hid hx; clear hx
 have HY := hid hy; clear hy
 have HX' := hid hx'; clear hx'
 have HY' := hid hy'; clear hy'
 go_enter Tryz.func54, Tryz.ntmps54
 go_wp2_with fail
 refine (ref23_same x.links y.links _ _ _ _ _ _ _ (lift HX.out (by (repeat first | exact zR | assumption | apply zA | apply zS | apply zD | apply zN | refine zT (by assumption) ?_ | omega | simp <;> omega))) (lift HY.out (by (repeat first | exact zR | assumption | apply zA | apply zS | apply zD | apply zN | refine zT (by assumption) ?_ | omega | simp <;> omega)))).mono ?_
 rintro e w1 ⟨rfl, hb1⟩
 have hb2 : Below w.heap.size w w1 := by (repeat first | exact zR | assumption | apply zA | apply zS | apply zD | apply zN | refine zT (by assumption) ?_ | omega | simp <;> omega)
 obtain ⟨hc1, hf1⟩ := bcell hb1
 by_cases h : x.links = y.links
 ·have hff : Hid (decide (x = y) = decide (x.data = y.data)) := hid (by rw [HE.out, decide_eq_true h]; rfl)
  rw [decide_eq_true h]
  clear h
  go_wp2_with fail
  refine (same_bytes x.data y.data _ _ _ _ _ _ _ (lift HX'.out hb2) (lift HY'.out hb2)).mono ?_
  rintro e w' ⟨rfl, rfl⟩
  go_wp2
  go_ret
  exact ⟨by rw [hff.out]; rfl, hb2⟩
 ·have hff : Hid (decide (x = y) = false) := hid (by rw [HE.out, decide_eq_false h]; rfl)
  rw [decide_eq_false h]
  clear h
  go_wp2
  go_ret
  exact ⟨by rw [hff.out]; rfl, hb2⟩
set_option maxHeartbeats 800000 in
theorem entry_right (pos : Int) (x : Entry) (a1 a3 : Option Addr) (n1 c1 n3 c3 : Nat) (w : World) (hpos : 0 ≤ pos ∧ pos ≤ 18446744073709551615) (hbk : ∀ l ∈ x.links, l.backs.length ≤ 1000000000000) (hx : rLinks.r (· < w.heap.size) w [.slice a1 n1 c1] x.links) (hx' : rBytes.r (· < w.heap.size) w [.slice a3 n3 c3] x.data) :
  Calls Tryz.prog 81 #[.int .u64 pos, .agg #[.slice a1 n1 c1, .slice a3 n3 c3]] w fun r w' => r = .returned (.bool (entryR pos x)) ∧ Below w.heap.size w w' := by
 obtain ⟨rfl, hm, _, _⟩ := sl_len hx'
 have HX := hid hx; clear hx hx'
 go_enter Tryz.func81, Tryz.ntmps81
 go_wp2_with fail
 refine (link_right pos x.links _ _ _ _ hpos (lift HX.out (by (repeat first | exact zR | assumption | apply zA | apply zS | apply zD | apply zN | refine zT (by assumption) ?_ | omega | simp <;> omega))) hbk).mono ?_
 rintro e w1 ⟨rfl, hb1⟩
 have hb2 : Below w.heap.size w w1 := by (repeat first | exact zR | assumption | apply zA | apply zS | apply zD | apply zN | refine zT (by assumption) ?_ | omega | simp <;> omega)
 obtain ⟨hc1, hf1⟩ := bcell hb1
 cases h : linksR pos x.links
 ·have hff : Hid (entryR pos x = false) := hid (by simp [entryR, h])
  clear h
  go_wp2
  go_ret
  exact ⟨by rw [hff.out]; rfl, hb2⟩
 ·have hff : Hid (entryR pos x = decide (x.data.length ≤ 1048576)) := hid (by simp [entryR, h])
  clear h
  go_wp2
  go_ret
  refine ⟨?_, hb2⟩
  rw [hff.out]
  by_cases h : x.data.length ≤ 1048576
  ·rw [decide_eq_true h]; simp; omega
  ·rw [decide_eq_false h]; simp; omega
set_option maxHeartbeats 800000 in
theorem ref24_right (pos : Int) (x : Entry) (a1 a3 : Option Addr) (n1 c1 n3 c3 : Nat) (w : World) (hx : rLinks.r (· < w.heap.size) w [.slice a1 n1 c1] x.links) (hx' : rBytes.r (· < w.heap.size) w [.slice a3 n3 c3] x.data) :
  Calls Tryz.prog 85 #[.int .u64 pos, .agg #[.slice a1 n1 c1, .slice a3 n3 c3]] w fun r w' => r = .returned (.bool (entryR pos x)) ∧ Below w.heap.size w w' := by
 obtain ⟨rfl, hm, _, _⟩ := sl_len hx'
 have HX := hid hx; clear hx hx'
 go_enter Tryz.func85, Tryz.ntmps85
 go_wp2_with fail
 refine (ref23_right pos x.links _ _ _ _ (lift HX.out (by (repeat first | exact zR | assumption | apply zA | apply zS | apply zD | apply zN | refine zT (by assumption) ?_ | omega | simp <;> omega)))).mono ?_
 rintro e w1 ⟨rfl, hb1⟩
 have hb2 : Below w.heap.size w w1 := by (repeat first | exact zR | assumption | apply zA | apply zS | apply zD | apply zN | refine zT (by assumption) ?_ | omega | simp <;> omega)
 obtain ⟨hc1, hf1⟩ := bcell hb1
 cases h : linksR pos x.links
 ·have hff : Hid (entryR pos x = false) := hid (by simp [entryR, h])
  clear h
  go_wp2
  go_ret
  exact ⟨by rw [hff.out]; rfl, hb2⟩
 ·have hff : Hid (entryR pos x = decide (x.data.length ≤ 1048576)) := hid (by simp [entryR, h])
  clear h
  go_wp2
  go_ret
  refine ⟨?_, hb2⟩
  rw [hff.out]
  by_cases h : x.data.length ≤ 1048576
  ·rw [decide_eq_true h]; simp; omega
  ·rw [decide_eq_false h]; simp; omega
end Go.Proofs.YtkipiefcnjfdjaaGreat
namespace Go.Proofs.YtkipiefcnjfdjaaGreat
open Go.RowKit Go.Bs
set_option linter.unusedVariables false
set_option linter.unusedSimpArgs false
theorem info8 : (Tryz.prog.info? 5).map (fun i => (i.zero, i.size, i.bytes)) = some (some (.int .u8 0), 1, 1) := by kernel_rfl
theorem total_step (l : List Entry) (k : Nat) (h : k < l.length) : total (l.take (k + 1)) = total (l.take k) + l[k].data.length := by
 unfold total
 rw [List.take_succ_eq_append_getElem h, List.map_append, List.sum_append]
 simp
theorem total_take_le (l : List Entry) (k : Nat) : total (l.take k) ≤ total l := by
 have : total l = total (l.take k) + total (l.drop k) := by
  unfold total
  rw [← List.sum_append, ← List.map_append, List.take_append_drop]
 omega
set_option maxHeartbeats 800000 in
theorem entry_total (l : List Entry) (a : Option Addr) (n c : Nat) (w : World) (hl : rEntries.r (· < w.heap.size) w [.slice a n c] l) (ht : total l ≤ 1000000000000) :
  Calls Tryz.prog 80 #[.slice a n c] w fun r w' => r = .returned (.int .i64 (total l : Nat)) ∧ Below w.heap.size w w' := by
 obtain ⟨rfl, hm, _, _⟩ := sl_len hl
 have HL := hid hl; clear hl
 go_enter Tryz.func80, Tryz.ntmps80
 go_wp2
 go_loopw [3, 8] (fun s i wr => ∃ k : Nat, k ≤ l.length ∧ i = .int .i64 k ∧ s = .int .i64 (total (l.take k) : Nat) ∧ Below w.heap.size w wr) (fun _ i _ => l.length - (intOf i).toNat)
 case atStart => exact ⟨0, Nat.zero_le _, rfl, rfl, Below.refl _ _⟩
 case round =>
  obtain ⟨k, hk, rfl, rfl, hb⟩ := hrel
  by_cases hlt : k < l.length
  ·obtain ⟨b, o, hA, hbb, a1, c1, a2, c2, hc0, hc1, _, _⟩ := entry_at HL.out hlt
   subst hA
   have X0 := (hb.cell (p := ⟨b, o + k * 2, none⟩) hbb).trans hc0
   have X1 := (hb.cell (p := ⟨b, o + k * 2 + 1, none⟩) hbb).trans hc1
   clear hc0 hc1
   have hs := hid (total_step l k hlt)
   have h1 := total_take_le l (k + 1)
   rw [hs.out] at h1
   generalize l[k].links.length = n1 at *
   generalize l[k].data.length = n2 at *
   generalize total (l.take k) = t at *
   go_wp2
   go_roundw
   case rel => exact ⟨k + 1, by omega, by go_num, by rw [hs.out]; simp only [Int.natCast_add], hb.alloc hb.size _⟩
   case measure => simp [intOf]; omega
  ·obtain rfl : k = l.length := by omega
   rw [List.take_length]
   go_wp2
   go_ret
   exact ⟨rfl, hb⟩
def joined (l : List Entry) : List UInt8 := l.flatMap Entry.data
theorem joined_length (l : List Entry) : (joined l).length = total l := by
 unfold joined total
 rw [List.length_flatMap]
theorem joined_step (l : List Entry) (k : Nat) (h : k < l.length) : joined (l.take (k + 1)) = joined (l.take k) ++ l[k].data := by
 unfold joined
 rw [List.take_succ_eq_append_getElem h, List.flatMap_append]
 simp
def BytesRet (l : List UInt8) (w : World) (e : Ending) (w' : World) : Prop := ∃ v, e = .returned v ∧ rBytes.r (· < w'.heap.size) w' [v] l ∧ Below w.heap.size w w'
set_option maxHeartbeats 800000 in
theorem ref24_join (l : List Entry) (a : Option Addr) (n c : Nat) (w : World) (hl : rEntries.r (· < w.heap.size) w [.slice a n c] l) (ht : total l ≤ 1000000000000) :
  Calls Tryz.prog 84 #[.slice a n c] w (BytesRet (joined l) w) := by
 obtain ⟨rfl, hm, _, _⟩ := sl_len hl
 obtain ⟨i0, hi, hz0, hz1, hz2⟩ := info_parts info8
 have HL := hid hl; clear hl
 go_enter Tryz.func84, Tryz.ntmps84
 go_wp2
 go_loopw [3, 4] (fun v i wr => ∃ k : Nat, k ≤ l.length ∧ i = .int .i64 k ∧ wr.ownsRow w.heap.size 5 1 v (total (l.take k)) (byteCells (joined (l.take k))) ∧ Below w.heap.size w wr) (fun _ i _ => l.length - (intOf i).toNat)
 case atStart => exact ⟨0, Nat.zero_le _, rfl, ⟨rfl, .inl ⟨rfl, rfl⟩⟩, Below.refl _ _⟩
 case round =>
  obtain ⟨k, hk, rfl, hown, hb⟩ := hrel
  by_cases hlt : k < l.length
  ·obtain ⟨b, o, hA, hbb, a1, c1, a2, c2, hc0, hc1, _, hd⟩ := entry_at HL.out hlt
   subst hA
   have X1 := (hb.cell (p := ⟨b, o + k * 2 + 1, none⟩) hbb).trans hc1
   clear hc0 hc1
   have hs := hid (total_step l k hlt)
   have hj := hid (joined_step l k hlt)
   have h1 := total_take_le l (k + 1)
   rw [hs.out] at h1
   have hsrc := src_bytes (lift hd hb)
   have hone := byteCells_one l[k].data
   generalize l[k].data = D at *
   generalize joined (l.take k) = J at *
   generalize total (l.take k) = t at *
   have HSRC := hid hsrc; clear hsrc hd
   have HONE := hid hone; clear hone
   have hbs := hb.size
   have i1 : (k : Int) < (l.length : Int) := by omega
   go_wp2_with (at_builtin; refine wpList_append_src rfl _ _ _ rfl w.heap.size 5 i0 (.int .u8 0) 1 1 Tryz.underlying28 hi hz0 hz1 hz2 rfl (by decide) _ t _ rfl hown a2 D.length c2 (byteCells D) rfl HSRC.out HONE.out (by simp only [maxLen]; omega) (by omega) hbs ?_; intro v1 w1 hown1 hgrow1 hat1)
   go_roundw
   case rel =>
    refine ⟨k + 1, by omega, by go_num, ?_, ?_⟩
    ·rw [hs.out, hj.out, byteCells, List.map_append]; exact hown1
    ·exact hb.grown hgrow1 hbs (fun g e => (hown.lt g e).1)
   case measure => simp [intOf]; omega
  ·obtain rfl : k = l.length := by omega
   rw [List.take_length] at hown
   have hv := own_bytes (joined_length l).symm hown
   have HV := hid hv; clear hv
   go_wp2
   go_ret
   exact ⟨_, rfl, HV.out, hb⟩
end Go.Proofs.YtkipiefcnjfdjaaGreat
namespace Go.Proofs.YtkipiefcnjfdjaaGreat
open Go.RowKit Go.Bs
set_option linter.unusedVariables false
set_option linter.unusedSimpArgs false
set_option maxHeartbeats 800000 in
theorem batch_fits (base : Int) (n : Nat) (w : World) (h0 : 0 ≤ base ∧ base ≤ 18446744073709551615) (hn : n ≤ 1000000000000) :
  Calls Tryz.prog 79 #[.int .u64 base, .int .i64 n] w fun r w' => r = .returned (.bool (fitsR base n)) ∧ w = w' := by
 by_cases c1 : 1 ≤ n
 ·have d1 : decide ((1 : Int) ≤ (n : Int)) = true := by simp; omega
  by_cases c2 : n ≤ 16
  ·have d2 : decide ((n : Int) ≤ 16) = true := by simp; omega
   by_cases c3 : base < 4611686018427387904
   ·have hp : poR base = true := by simp [poR, c3]
    have hc := epoch_pos base
    rw [hp] at hc
    have HC := hid hc; clear hc hp
    by_cases c4 : base + n ≤ 4611686018427387904
    ·have hff : Hid (fitsR base n = true) := hid (by simp [fitsR]; omega)
     have d4 : decide (base + (n : Int) ≤ 4611686018427387904) = true := by simp; omega
     clear c1 c2
     go_enter Tryz.func79, Tryz.ntmps79
     go_wp2_with (go_at_call 132; refine (HC.out _).mono ?_; rintro e w' ⟨rfl, rfl⟩)
     go_ret
     exact ⟨by rw [hff.out]; rfl, rfl⟩
    ·have hff : Hid (fitsR base n = false) := hid (by simp [fitsR]; omega)
     have d4 : decide (base + (n : Int) ≤ 4611686018427387904) = false := by simp; omega
     go_enter Tryz.func79, Tryz.ntmps79
     go_wp2_with (go_at_call 132; refine (HC.out _).mono ?_; rintro e w' ⟨rfl, rfl⟩)
     go_ret
     exact ⟨by rw [hff.out]; rfl, rfl⟩
   ·have hff : Hid (fitsR base n = false) := hid (by simp [fitsR]; omega)
    have hp : poR base = false := by simp [poR]; omega
    have hc := epoch_pos base
    rw [hp] at hc
    have HC := hid hc; clear hc hp
    go_enter Tryz.func79, Tryz.ntmps79
    go_wp2_with (go_at_call 132; refine (HC.out _).mono ?_; rintro e w' ⟨rfl, rfl⟩)
    go_ret
    exact ⟨by rw [hff.out]; rfl, rfl⟩
  ·have hff : Hid (fitsR base n = false) := hid (by simp [fitsR]; omega)
   have d2 : decide ((n : Int) ≤ 16) = false := by simp; omega
   go_enter Tryz.func79, Tryz.ntmps79
   go_wp2
   go_ret
   exact ⟨by rw [hff.out]; rfl, rfl⟩
 ·have hff : Hid (fitsR base n = false) := hid (by simp [fitsR]; omega)
  have d1 : decide ((1 : Int) ≤ (n : Int)) = false := by simp; omega
  go_enter Tryz.func79, Tryz.ntmps79
  go_wp2
  go_ret
  exact ⟨by rw [hff.out]; rfl, rfl⟩
set_option maxHeartbeats 800000 in
theorem ref25_fits (base : Int) (n : Nat) (w : World) (h0 : 0 ≤ base ∧ base ≤ 18446744073709551615) (hn : n ≤ 1000000000000) :
  Calls Tryz.prog 83 #[.int .u64 base, .int .i64 n] w fun r w' => r = .returned (.bool (fitsR base n)) ∧ w = w' := by
 by_cases c1 : 1 ≤ n
 ·have d1 : decide ((1 : Int) ≤ (n : Int)) = true := by simp; omega
  by_cases c2 : n ≤ 16
  ·have d2 : decide ((n : Int) ≤ 16) = true := by simp; omega
   by_cases c3 : base < 4611686018427387904
   ·have hp : poR base = true := by simp [poR, c3]
    have hc := ref17_pos base
    rw [hp] at hc
    have HC := hid hc; clear hc hp
    by_cases c4 : base + n ≤ 4611686018427387904
    ·have hff : Hid (fitsR base n = true) := hid (by simp [fitsR]; omega)
     have d4 : decide ((n : Int) ≤ 4611686018427387904 - base) = true := by simp; omega
     clear c1 c2
     go_enter Tryz.func83, Tryz.ntmps83
     go_wp2_with (go_at_call 139; refine (HC.out _).mono ?_; rintro e w' ⟨rfl, rfl⟩)
     go_ret
     exact ⟨by rw [hff.out]; rfl, rfl⟩
    ·have hff : Hid (fitsR base n = false) := hid (by simp [fitsR]; omega)
     have d4 : decide ((n : Int) ≤ 4611686018427387904 - base) = false := by simp; omega
     go_enter Tryz.func83, Tryz.ntmps83
     go_wp2_with (go_at_call 139; refine (HC.out _).mono ?_; rintro e w' ⟨rfl, rfl⟩)
     go_ret
     exact ⟨by rw [hff.out]; rfl, rfl⟩
   ·have hff : Hid (fitsR base n = false) := hid (by simp [fitsR]; omega)
    have hp : poR base = false := by simp [poR]; omega
    have hc := ref17_pos base
    rw [hp] at hc
    have HC := hid hc; clear hc hp
    go_enter Tryz.func83, Tryz.ntmps83
    go_wp2_with (go_at_call 139; refine (HC.out _).mono ?_; rintro e w' ⟨rfl, rfl⟩)
    go_ret
    exact ⟨by rw [hff.out]; rfl, rfl⟩
  ·have hff : Hid (fitsR base n = false) := hid (by simp [fitsR]; omega)
   have d2 : decide ((n : Int) ≤ 16) = false := by simp; omega
   go_enter Tryz.func83, Tryz.ntmps83
   go_wp2
   go_ret
   exact ⟨by rw [hff.out]; rfl, rfl⟩
 ·have hff : Hid (fitsR base n = false) := hid (by simp [fitsR]; omega)
  have d1 : decide ((1 : Int) ≤ (n : Int)) = false := by simp; omega
  go_enter Tryz.func83, Tryz.ntmps83
  go_wp2
  go_ret
  exact ⟨by rw [hff.out]; rfl, rfl⟩
theorem entriesR_step (base : Int) (l : List Entry) (k : Nat) (h : k < l.length) : entriesR (base + k) (l.drop k) = (entryR (base + k) l[k] && entriesR (base + (k + 1 : Nat)) (l.drop (k + 1))) := by
 rw [List.drop_eq_getElem_cons h]
 show (_ && _) = _
 rw [show base + (k : Int) + 1 = base + ((k + 1 : Nat) : Int) from by omega]
def Fair (l : List Entry) : Prop := total l ≤ 1000000000000 ∧ l.length ≤ 1000000000000 ∧ ∀ e ∈ l, ∀ x ∈ e.links, x.backs.length ≤ 1000000000000
set_option maxHeartbeats 3200000 in
theorem batch_right (x : Batch) (a : Option Addr) (n c : Nat) (w : World) (h0 : 0 ≤ x.epoch ∧ x.epoch ≤ 18446744073709551615) (h1 : 0 ≤ x.base ∧ x.base ≤ 18446744073709551615) (hl : rEntries.r (· < w.heap.size) w [.slice a n c] x.entries) (hfair : Fair x.entries) :
  Calls Tryz.prog 22 #[.agg #[.int .u64 x.epoch, .int .u64 x.base, .slice a n c]] w fun r w' => r = .returned (.bool (batchR x)) ∧ Below w.heap.size w w' := by
 obtain ⟨rfl, hm, _, _⟩ := sl_len hl
 obtain ⟨ft, fl, fb⟩ := hfair
 have FB := hid fb; clear fb
 have HL := hid hl; clear hl
 go_enter Tryz.func22, Tryz.ntmps22
 go_wp2_with fail
 refine (epoch_right x.epoch _).mono ?_
 rintro e w' ⟨rfl, rfl⟩
 cases he : epR x.epoch
 ·have hff : Hid (batchR x = false) := hid (by simp [batchR, he])
  clear he
  go_wp2
  go_ret
  exact ⟨by rw [hff.out]; rfl, by (repeat first | exact zR | assumption | apply zA | apply zS | apply zD | apply zN | refine zT (by assumption) ?_ | omega | simp <;> omega)⟩
 ·go_wp2_with fail
  refine (batch_fits x.base x.entries.length _ h1 fl).mono ?_
  rintro e w' ⟨rfl, rfl⟩
  cases hf : fitsR x.base x.entries.length
  ·have hff : Hid (batchR x = false) := hid (by simp [batchR, hf])
   clear hf he
   go_wp2
   go_ret
   exact ⟨by rw [hff.out]; rfl, by (repeat first | exact zR | assumption | apply zA | apply zS | apply zD | apply zN | refine zT (by assumption) ?_ | omega | simp <;> omega)⟩
  ·have hfit : 1 ≤ x.entries.length ∧ x.entries.length ≤ 16 ∧ x.base < 4611686018427387904 ∧ x.base + x.entries.length ≤ 4611686018427387904 := by simpa [fitsR] using hf
   obtain ⟨q1, q2, q3, q4⟩ := hfit
   have hff : Hid (batchR x = (decide (total x.entries ≤ 1048576) && entriesR x.base x.entries)) := hid (by simp [batchR, hf, he])
   clear hf he
   go_wp2_with fail
   refine (entry_total x.entries _ _ _ _ (lift HL.out (by (repeat first | exact zR | assumption | apply zA | apply zS | apply zD | apply zN | refine zT (by assumption) ?_ | omega | simp <;> omega))) ft).mono ?_
   rintro e w1 ⟨rfl, hb1⟩
   have hb2 : Below w.heap.size w w1 := by (repeat first | exact zR | assumption | apply zA | apply zS | apply zD | apply zN | refine zT (by assumption) ?_ | omega | simp <;> omega)
   obtain ⟨hc1, hf1⟩ := bcell hb1
   by_cases ht : total x.entries ≤ 1048576
   ·have hf2 : Hid (batchR x = entriesR (x.base + (0 : Nat)) (x.entries.drop 0)) := hid (by rw [hff.out, decide_eq_true ht]; simp)
    have d5 : decide (1048576 < (total x.entries : Int)) = false := by simp; omega
    have s0 : w1.cell? ⟨w.heap.size, 0, none⟩ = some (.int .u64 x.epoch) := (hc1 w.heap.size 0 (by simp)).trans (by go_simp)
    have s1 : w1.cell? ⟨w.heap.size, 1, none⟩ = some (.int .u64 x.base) := (hc1 w.heap.size 1 (by simp)).trans (by go_simp)
    have s2 : w1.cell? ⟨w.heap.size, 2, none⟩ = some (.slice a x.entries.length c) := (hc1 w.heap.size 2 (by simp)).trans (by go_simp)
    clear hc1 hf1
    have hzb : w.heap.size < w1.heap.size := by have := hb1.size; simp at this; omega
    go_wp2_with fail
    go_loopw [27] (fun i wr => ∃ k : Nat, k ≤ x.entries.length ∧ i = .int .i64 k ∧ Hid (batchR x = entriesR (x.base + k) (x.entries.drop k)) ∧ Below w1.heap.size w1 wr) (fun i _ => x.entries.length - (intOf i).toNat)
    case atStart => exact ⟨0, Nat.zero_le _, rfl, hf2, Below.refl _ _⟩
    case round =>
     obtain ⟨k, hk, rfl, hf, hb⟩ := hrel
     have hb3 := below_then hb hb2
     have t0 : wr.cell? ⟨w.heap.size, 0, none⟩ = some (.int .u64 x.epoch) := (Later.mk wr hb).cell s0
     have t1 : wr.cell? ⟨w.heap.size, 1, none⟩ = some (.int .u64 x.base) := (Later.mk wr hb).cell s1
     have t2 : wr.cell? ⟨w.heap.size, 2, none⟩ = some (.slice a x.entries.length c) := (Later.mk wr hb).cell s2
     have hz3 : w.heap.size < wr.heap.size := by have := hb.size; omega
     by_cases hlt : k < x.entries.length
     ·obtain ⟨b, o, hA, hbb, a1, c1, a2, c2, hd0, hd1, hr1, hr2⟩ := entry_at HL.out hlt
      subst hA
      have hst := hid (entriesR_step x.base x.entries k hlt)
      have hbk := FB.out _ (List.getElem_mem hlt)
      have X0 := (hb3.cell (p := ⟨b, o + k * 2, none⟩) hbb).trans hd0
      have X1 := (hb3.cell (p := ⟨b, o + k * 2 + 1, none⟩) hbb).trans hd1
      clear hd0 hd1
      have R1 := hid (lift hr1 hb3)
      have R2 := hid (lift hr2 hb3)
      clear hr1 hr2
      generalize hz : x.entries[k] = z at *
      clear hz
      have HBK := hid hbk; clear hbk
      have i1 : (k : Int) < (x.entries.length : Int) := by omega
      have p0 : 0 ≤ x.base + (k : Int) := by omega
      have p1 : x.base + (k : Int) ≤ 18446744073709551615 := by omega
      go_wp2_with fail
      refine (entry_right (x.base + (k : Int)) z _ _ _ _ _ _ _ ⟨p0, p1⟩ HBK.out (lift R1.out (by (repeat first | exact zR | assumption | apply zA | apply zS | apply zD | apply zN | refine zT (by assumption) ?_ | omega | simp <;> omega))) (lift R2.out (by (repeat first | exact zR | assumption | apply zA | apply zS | apply zD | apply zN | refine zT (by assumption) ?_ | omega | simp <;> omega)))).mono ?_
      rintro e w4 ⟨rfl, hb4⟩
      have hb5 : Below w1.heap.size w1 w4 := by (repeat first | exact zR | assumption | apply zA | apply zS | apply zD | apply zN | refine zT (by assumption) ?_ | omega | simp <;> omega)
      cases hr : entryR (x.base + (k : Int)) z
      ·have hf3 : Hid (batchR x = false) := hid (by rw [hf.out, hst.out, hr]; rfl)
       clear hr
       go_wp2
       go_ret
       exact ⟨by rw [hf3.out]; rfl, below_then hb5 hb2⟩
      ·have hf3 : Hid (batchR x = entriesR (x.base + (k + 1 : Nat)) (x.entries.drop (k + 1))) := hid (by rw [hf.out, hst.out, hr]; rfl)
       clear hr
       go_wp2
       go_roundw
       case rel => exact ⟨k + 1, by omega, by go_num, hf3, hb5⟩
       case measure => simp [intOf]; omega
     ·obtain rfl : k = x.entries.length := by omega
      have hf3 : Hid (batchR x = true) := hid (by rw [hf.out, List.drop_length]; rfl)
      go_wp2
      go_ret
      exact ⟨by rw [hf3.out]; rfl, hb3⟩
   ·have hf2 : Hid (batchR x = false) := hid (by rw [hff.out, decide_eq_false ht]; rfl)
    have d5 : decide (1048576 < (total x.entries : Int)) = true := by simp; omega
    go_wp2
    go_ret
    exact ⟨by rw [hf2.out]; rfl, hb2⟩
set_option maxHeartbeats 3200000 in
theorem ref25_right (x : Batch) (a : Option Addr) (n c : Nat) (w : World) (h0 : 0 ≤ x.epoch ∧ x.epoch ≤ 18446744073709551615) (h1 : 0 ≤ x.base ∧ x.base ≤ 18446744073709551615) (hl : rEntries.r (· < w.heap.size) w [.slice a n c] x.entries) (hfair : Fair x.entries) :
  Calls Tryz.prog 23 #[.agg #[.int .u64 x.epoch, .int .u64 x.base, .slice a n c]] w fun r w' => r = .returned (.bool (batchR x)) ∧ Below w.heap.size w w' := by
 obtain ⟨rfl, hm, _, _⟩ := sl_len hl
 obtain ⟨ft, fl, fb⟩ := hfair
 have FB := hid fb; clear fb
 have HL := hid hl; clear hl
 go_enter Tryz.func23, Tryz.ntmps23
 go_wp2_with fail
 refine (ref17_right x.epoch h0.1 _).mono ?_
 rintro e w' ⟨rfl, rfl⟩
 cases he : epR x.epoch
 ·have hff : Hid (batchR x = false) := hid (by simp [batchR, he])
  clear he
  go_wp2
  go_ret
  exact ⟨by rw [hff.out]; rfl, by (repeat first | exact zR | assumption | apply zA | apply zS | apply zD | apply zN | refine zT (by assumption) ?_ | omega | simp <;> omega)⟩
 ·go_wp2_with fail
  refine (ref25_fits x.base x.entries.length _ h1 fl).mono ?_
  rintro e w' ⟨rfl, rfl⟩
  cases hf : fitsR x.base x.entries.length
  ·have hff : Hid (batchR x = false) := hid (by simp [batchR, hf])
   clear hf he
   go_wp2
   go_ret
   exact ⟨by rw [hff.out]; rfl, by (repeat first | exact zR | assumption | apply zA | apply zS | apply zD | apply zN | refine zT (by assumption) ?_ | omega | simp <;> omega)⟩
  ·have hfit : 1 ≤ x.entries.length ∧ x.entries.length ≤ 16 ∧ x.base < 4611686018427387904 ∧ x.base + x.entries.length ≤ 4611686018427387904 := by simpa [fitsR] using hf
   obtain ⟨q1, q2, q3, q4⟩ := hfit
   have hff : Hid (batchR x = (decide (total x.entries ≤ 1048576) && entriesR x.base x.entries)) := hid (by simp [batchR, hf, he])
   clear hf he
   go_wp2_with fail
   refine (ref24_join x.entries _ _ _ _ (lift HL.out (by (repeat first | exact zR | assumption | apply zA | apply zS | apply zD | apply zN | refine zT (by assumption) ?_ | omega | simp <;> omega))) ft).mono ?_
   rintro e w1 ⟨v, rfl, hvr, hb1⟩
   obtain ⟨av, cv, hv, _, _⟩ := sl_form hvr
   simp only [List.cons.injEq, and_true] at hv
   subst hv
   rw [joined_length]
   clear hvr
   have hb2 : Below w.heap.size w w1 := by (repeat first | exact zR | assumption | apply zA | apply zS | apply zD | apply zN | refine zT (by assumption) ?_ | omega | simp <;> omega)
   obtain ⟨hc1, hf1⟩ := bcell hb1
   by_cases ht : total x.entries ≤ 1048576
   ·have hf2 : Hid (batchR x = entriesR (x.base + (0 : Nat)) (x.entries.drop 0)) := hid (by rw [hff.out, decide_eq_true ht]; simp)
    have d5 : decide (1048576 < (total x.entries : Int)) = false := by simp; omega
    have s0 : w1.cell? ⟨w.heap.size, 0, none⟩ = some (.int .u64 x.epoch) := (hc1 w.heap.size 0 (by simp)).trans (by go_simp)
    have s1 : w1.cell? ⟨w.heap.size, 1, none⟩ = some (.int .u64 x.base) := (hc1 w.heap.size 1 (by simp)).trans (by go_simp)
    have s2 : w1.cell? ⟨w.heap.size, 2, none⟩ = some (.slice a x.entries.length c) := (hc1 w.heap.size 2 (by simp)).trans (by go_simp)
    clear hc1 hf1
    have hzb : w.heap.size < w1.heap.size := by have := hb1.size; simp at this; omega
    go_wp2_with fail
    go_loopw [3] (fun i wr => ∃ k : Nat, k ≤ x.entries.length ∧ i = .int .i64 k ∧ Hid (batchR x = entriesR (x.base + k) (x.entries.drop k)) ∧ Below w1.heap.size w1 wr) (fun i _ => x.entries.length - (intOf i).toNat)
    case atStart => exact ⟨0, Nat.zero_le _, rfl, hf2, Below.refl _ _⟩
    case round =>
     obtain ⟨k, hk, rfl, hf, hb⟩ := hrel
     have hb3 := below_then hb hb2
     have t0 : wr.cell? ⟨w.heap.size, 0, none⟩ = some (.int .u64 x.epoch) := (Later.mk wr hb).cell s0
     have t1 : wr.cell? ⟨w.heap.size, 1, none⟩ = some (.int .u64 x.base) := (Later.mk wr hb).cell s1
     have t2 : wr.cell? ⟨w.heap.size, 2, none⟩ = some (.slice a x.entries.length c) := (Later.mk wr hb).cell s2
     have hz3 : w.heap.size < wr.heap.size := by have := hb.size; omega
     by_cases hlt : k < x.entries.length
     ·obtain ⟨b, o, hA, hbb, a1, c1, a2, c2, hd0, hd1, hr1, hr2⟩ := entry_at HL.out hlt
      subst hA
      have hst := hid (entriesR_step x.base x.entries k hlt)
      have hbk := FB.out _ (List.getElem_mem hlt)
      have X0 := (hb3.cell (p := ⟨b, o + k * 2, none⟩) hbb).trans hd0
      have X1 := (hb3.cell (p := ⟨b, o + k * 2 + 1, none⟩) hbb).trans hd1
      clear hd0 hd1
      have R1 := hid (lift hr1 hb3)
      have R2 := hid (lift hr2 hb3)
      clear hr1 hr2
      generalize hz : x.entries[k] = z at *
      clear hz
      have HBK := hid hbk; clear hbk
      have i1 : (k : Int) < (x.entries.length : Int) := by omega
      have p0 : 0 ≤ x.base + (k : Int) := by omega
      have p1 : x.base + (k : Int) ≤ 18446744073709551615 := by omega
      have T1 := fun s : Later wr => s.cell t1
      have T2 := fun s : Later wr => s.cell t2
      have Y0 := fun s : Later wr => s.cell X0
      have Y1 := fun s : Later wr => s.cell X1
      have hE := fun s : Later wr => ref24_right (x.base + (k : Int)) z a1 a2 _ c1 _ c2 s.at_ (lift R1.out s.below) (lift R2.out s.below)
      cases hr : entryR (x.base + (k : Int)) z
      ·have hf3 : Hid (batchR x = false) := hid (by rw [hf.out, hst.out, hr]; rfl)
       rw [hr] at hE
       have HE := hid hE; clear hE hr
       go_wp2_with fail
       refine wp_region_later (by kernel_rfl) (by kernel_rfl) ?_
       repeat (go_big_quiet_step (((go_at_call 85; exact later_of (HE.out _)))))
       refine wpQuiet_nil ?_
       rintro W5 ⟨⟨W5', hb5⟩, rfl⟩
       go_wp2
       go_ret
       exact ⟨by rw [hf3.out]; rfl, below_then hb5 hb3⟩
      ·have hf3 : Hid (batchR x = entriesR (x.base + (k + 1 : Nat)) (x.entries.drop (k + 1))) := hid (by rw [hf.out, hst.out, hr]; rfl)
       rw [hr] at hE
       have HE := hid hE; clear hE hr
       go_wp2_with fail
       refine wp_region_later (by kernel_rfl) (by kernel_rfl) ?_
       repeat (go_big_quiet_step (((go_at_call 85; exact later_of (HE.out _)))))
       refine wpQuiet_nil ?_
       rintro W5 ⟨⟨W5', hb5⟩, rfl⟩
       go_wp2
       go_roundw
       case rel => exact ⟨k + 1, by omega, by go_num, hf3, below_then hb5 hb⟩
       case measure => simp [intOf]; omega
     ·obtain rfl : k = x.entries.length := by omega
      have hf3 : Hid (batchR x = true) := hid (by rw [hf.out, List.drop_length]; rfl)
      go_wp2
      go_ret
      exact ⟨by rw [hf3.out]; rfl, hb3⟩
   ·have hf2 : Hid (batchR x = false) := hid (by rw [hff.out, decide_eq_false ht]; rfl)
    have d5 : decide (1048576 < (total x.entries : Int)) = true := by simp; omega
    go_wp2
    go_ret
    exact ⟨by rw [hf2.out]; rfl, hb2⟩
end Go.Proofs.YtkipiefcnjfdjaaGreat
namespace Go.Proofs.YtkipiefcnjfdjaaGreat
open Go.RowKit Go.Bs
set_option linter.unusedVariables false
set_option linter.unusedSimpArgs false
def mayR (e : Int) (prev : Option Batch) (b : Batch) : Bool := decide (b.epoch ≤ e) && (match prev with | none => true | some p => decide (p.epoch ≤ b.epoch) && decide (p.base + p.entries.length ≤ b.base))
def chainR (e : Int) : Option Batch → List Batch → Bool
 | _, [] => true
 | p, b :: l => batchR b && (mayR e p b && chainR e (some b) l)
def segR (g : Seg) : Bool := epR g.epoch && (decide (g.batches.length ≤ 16) && chainR g.epoch none g.batches)
def prevB (l : List Batch) (k : Nat) : Option Batch := if k = 0 then none else l[k - 1]?
theorem chainR_step (e : Int) (l : List Batch) (k : Nat) (h : k < l.length) : chainR e (prevB l k) (l.drop k) = (batchR l[k] && (mayR e (prevB l k) l[k] && chainR e (prevB l (k + 1)) (l.drop (k + 1)))) := by
 rw [List.drop_eq_getElem_cons h]
 have : prevB l (k + 1) = some l[k] := by unfold prevB; rw [if_neg (by omega)]; simp [h]
 rw [this]; rfl
theorem sl_take {α : Type} {sz : Nat} {A : Rp α} {S : Nat → Prop} {w : World} {xs : List α} {a : Option Addr} {n c k : Nat} (h : (rSl sz A).r S w [.slice a n c] xs) (hk : k ≤ xs.length) : (rSl sz A).r S w [.slice a k c] (xs.take k) := by
 obtain ⟨a', c', e, h1, h2, h3⟩ := h
 simp at e
 obtain ⟨rfl, rfl, rfl⟩ := e
 have hl : (xs.take k).length = k := by simp; omega
 refine rSl_mk (by rw [hl]) (by omega) h2 ?_
 rcases h3 with rfl | ⟨b, off, rfl, hS, hr⟩
 ·exact .inl (by simp)
 ·refine .inr ⟨b, off, rfl, hS, fun i x hi => hr i x ?_⟩
  rw [List.getElem?_take] at hi
  split at hi
  ·exact hi
  ·cases hi
set_option maxHeartbeats 400000 in
theorem batch_end (e b : Int) (a : Option Addr) (n c : Nat) (w : World) (h0 : 0 ≤ b) (h : b + n ≤ 18446744073709551615) (hn : n ≤ 9223372036854775807) :
  Calls Tryz.prog 24 #[.agg #[.int .u64 e, .int .u64 b, .slice a n c]] w fun r w' => r = .returned (.int .u64 (b + n)) ∧ Below w.heap.size w w' := by
 go_enter Tryz.func24, Tryz.ntmps24
 go_wp2
 go_ret
 exact ⟨rfl, by (repeat first | exact zR | assumption | apply zA | apply zS | apply zD | apply zN | refine zT (by assumption) ?_ | omega | simp <;> omega)⟩
set_option maxHeartbeats 1600000 in
theorem seg_follows (e : Int) (l : List Batch) (x : Batch) (a a' : Option Addr) (n c n' c' : Nat) (w : World) (hl : rBatches.r (· < w.heap.size) w [.slice a n c] l) (hp : ∀ p ∈ l, p.base + p.entries.length ≤ 18446744073709551615) :
  Calls Tryz.prog 106 #[.agg #[.int .u64 e, .slice a n c], .agg #[.int .u64 x.epoch, .int .u64 x.base, .slice a' n' c']] w fun r w' => r = .returned (.bool (mayR e (prevB l l.length) x)) ∧ Below w.heap.size w w' := by
 obtain ⟨rfl, hm, _, _⟩ := sl_len hl
 have HL := hid hl; clear hl
 have HP := hid hp; clear hp
 by_cases h1 : e < x.epoch
 ·have hff : Hid (mayR e (prevB l l.length) x = false) := hid (by simp only [mayR]; rw [decide_eq_false (by omega)]; rfl)
  go_enter Tryz.func106, Tryz.ntmps106
  go_wp2
  go_ret
  exact ⟨by rw [hff.out]; rfl, by (repeat first | exact zR | assumption | apply zA | apply zS | apply zD | apply zN | refine zT (by assumption) ?_ | omega | simp <;> omega)⟩
 ·by_cases h2 : l.length = 0
  ·have hff : Hid (mayR e (prevB l l.length) x = true) := hid (by simp only [mayR]; rw [decide_eq_true (by omega), h2]; rfl)
   have e2 : ((l.length : Int) == 0) = true := by simp [h2]
   clear h2
   go_enter Tryz.func106, Tryz.ntmps106
   go_wp2_with fail
   go_quiet (fail)
   go_wp2
   go_ret
   exact ⟨by rw [hff.out]; rfl, by (repeat first | exact zR | assumption | apply zA | apply zS | apply zD | apply zN | refine zT (by assumption) ?_ | omega | simp <;> omega)⟩
  ·obtain ⟨m, hmm⟩ : ∃ m, l.length = m + 1 := ⟨l.length - 1, by omega⟩
   obtain ⟨b, o, hA, hbb, a1, c1, hd0, hd1, hd2, r0, r1, hd⟩ := batch_at HL.out (show m < l.length by omega)
   have hpm := HP.out _ (List.getElem_mem (show m < l.length by omega))
   obtain ⟨_, hm2, _, _⟩ := sl_len hd
   have hprev : prevB l (m + 1) = some l[m] := by unfold prevB; rw [if_neg (by omega)]; simp [show m < l.length by omega]
   generalize hz : l[m] = z at *
   clear hz hd
   have hff : Hid (mayR e (prevB l l.length) x = (decide (z.epoch ≤ x.epoch) && decide (z.base + z.entries.length ≤ x.base))) := hid (by simp only [mayR]; rw [decide_eq_true (by omega), hmm, hprev]; rfl)
   subst hA
   have i4 : wrap64 (m : Int) = m := by simp only [wrap64]; omega
   have HMM := hid hmm
   rw [hmm]
   clear h2 hprev hmm
   have e2 : ((m : Int) + 1 == 0) = false := by simp; omega
   have i2 : (0 : Int) ≤ (m : Int) := by omega
   have i3 : (m : Int) < (m : Int) + 1 := by omega
   have F : Below w.heap.size w ((w.alloc (.cells #[.int .u64 e, .slice (some ⟨b, o, none⟩) (m + 1) c] 62)).alloc (.cells #[.int .u64 x.epoch, .int .u64 x.base, .slice a' n' c'] 25)) := by (repeat first | exact zR | assumption | apply zA | apply zS | apply zD | apply zN | refine zT (by assumption) ?_ | omega | simp <;> omega)
   have X0 := fun s : Later ((w.alloc (.cells #[.int .u64 e, .slice (some ⟨b, o, none⟩) (m + 1) c] 62)).alloc (.cells #[.int .u64 x.epoch, .int .u64 x.base, .slice a' n' c'] 25)) => s.cell ((F.cell (p := ⟨b, o + m * 3, none⟩) hbb).trans hd0)
   have X1 := fun s : Later ((w.alloc (.cells #[.int .u64 e, .slice (some ⟨b, o, none⟩) (m + 1) c] 62)).alloc (.cells #[.int .u64 x.epoch, .int .u64 x.base, .slice a' n' c'] 25)) => s.cell ((F.cell (p := ⟨b, o + m * 3 + 1, none⟩) hbb).trans hd1)
   have X2 := fun s : Later ((w.alloc (.cells #[.int .u64 e, .slice (some ⟨b, o, none⟩) (m + 1) c] 62)).alloc (.cells #[.int .u64 x.epoch, .int .u64 x.base, .slice a' n' c'] 25)) => s.cell ((F.cell (p := ⟨b, o + m * 3 + 2, none⟩) hbb).trans hd2)
   have Y0 := fun s : Later ((w.alloc (.cells #[.int .u64 e, .slice (some ⟨b, o, none⟩) (m + 1) c] 62)).alloc (.cells #[.int .u64 x.epoch, .int .u64 x.base, .slice a' n' c'] 25)) => s.cell (v := .slice (some ⟨b, o, none⟩) (m + 1) c) (b := w.heap.size) (o := 1) (by go_simp)
   have Y1 := fun s : Later ((w.alloc (.cells #[.int .u64 e, .slice (some ⟨b, o, none⟩) (m + 1) c] 62)).alloc (.cells #[.int .u64 x.epoch, .int .u64 x.base, .slice a' n' c'] 25)) => s.cell (v := .int .u64 x.epoch) (b := w.heap.size + 1) (o := 0) (by go_simp)
   have Y2 := fun s : Later ((w.alloc (.cells #[.int .u64 e, .slice (some ⟨b, o, none⟩) (m + 1) c] 62)).alloc (.cells #[.int .u64 x.epoch, .int .u64 x.base, .slice a' n' c'] 25)) => s.cell (v := .int .u64 x.base) (b := w.heap.size + 1) (o := 1) (by go_simp)
   clear hd0 hd1 hd2
   have FF := hid F; clear F
   have hE := fun s : Later ((w.alloc (.cells #[.int .u64 e, .slice (some ⟨b, o, none⟩) (m + 1) c] 62)).alloc (.cells #[.int .u64 x.epoch, .int .u64 x.base, .slice a' n' c'] 25)) => batch_end z.epoch z.base a1 z.entries.length c1 s.at_ r1.1 hpm hm2
   have HE := hid hE; clear hE
   by_cases g1 : z.epoch ≤ x.epoch
   ·have d1 : decide (z.epoch ≤ x.epoch) = true := by simpa using g1
    have hf2 : Hid (mayR e (prevB l l.length) x = decide (z.base + z.entries.length ≤ x.base)) := hid (by rw [hff.out, d1]; rfl)
    go_enter Tryz.func106, Tryz.ntmps106
    go_wp2_with fail
    refine wp_region_later (by kernel_rfl) (by kernel_rfl) ?_
    repeat (go_big_quiet_step (((go_at_call 24; exact later_of (HE.out _)))))
    refine wpQuiet_nil ?_
    rintro W5 ⟨⟨W5', hb5⟩, rfl⟩
    go_wp2
    go_ret
    have FO := FF.out
    refine ⟨?_, by (repeat first | exact zR | assumption | apply zA | apply zS | apply zD | apply zN | refine zT (by assumption) ?_ | omega | simp <;> omega)⟩
    rw [← HMM.out, hf2.out]; rfl
   ·have d1 : decide (z.epoch ≤ x.epoch) = false := by simpa using g1
    have hf2 : Hid (mayR e (prevB l l.length) x = false) := hid (by rw [hff.out, d1]; rfl)
    clear g1
    go_enter Tryz.func106, Tryz.ntmps106
    go_wp2_with fail
    refine wp_region_later (by kernel_rfl) (by kernel_rfl) ?_
    repeat (go_big_quiet_step (fail))
    refine wpQuiet_nil ?_
    rintro W5 ⟨⟨W5', hb5⟩, rfl⟩
    go_wp2
    go_ret
    have FO := FF.out
    refine ⟨?_, by (repeat first | exact zR | assumption | apply zA | apply zS | apply zD | apply zN | refine zT (by assumption) ?_ | omega | simp <;> omega)⟩
    rw [← HMM.out, hf2.out]; rfl
end Go.Proofs.YtkipiefcnjfdjaaGreat
namespace Go.Bs
set_option linter.unusedVariables false
set_option linter.unusedSimpArgs false
def runLen (b : List UInt8) (off : Nat) : Nat → Nat → Nat
 | 0, _ => 0
 | f + 1, p => if p < b.length ∧ b[p]? = b[p - off]? then runLen b off f (p + 1) + 1 else 0
def mlen (b : List UInt8) (p off : Nat) : Nat := if p < b.length ∧ 1 ≤ off ∧ off ≤ p then runLen b off (b.length - p) p else 0
def maxM (b : List UInt8) (p : Nat) : Nat → Nat
 | 0 => 0
 | k + 1 => max (maxM b p k) (mlen b p (k + 1))
def firstM (b : List UInt8) (p m : Nat) : Nat → Nat → Nat
 | 0, _ => 0
 | f + 1, o => if mlen b p o = m then o else firstM b p m f (o + 1)
def reach (p : Nat) : Nat := min p 65536
def bestR (b : List UInt8) (p : Nat) : Nat × Nat :=
 if 4 ≤ maxM b p (reach p) then (firstM b p (maxM b p (reach p)) (reach p) 1, maxM b p (reach p)) else (0, 0)
structure Tok where
 lit : List UInt8
 off : Int
 len : Int
 deriving DecidableEq
def litT (b : List UInt8) (i j : Nat) : List Tok := if i < j then [⟨(b.drop i).take (j - i), 0, 0⟩] else []
def toksF (b : List UInt8) : Nat → Nat → Nat → List Tok
  | 0, _, i => litT b i b.length
  | f + 1, p, i => if p < b.length then
      (if (bestR b p).2 = 0 then toksF b f (p + 1) i
       else litT b i p ++ ⟨[], (bestR b p).1, (bestR b p).2⟩ :: toksF b f (p + (bestR b p).2) (p + (bestR b p).2))
      else litT b i b.length
def toksR (b : List UInt8) : List Tok := toksF b b.length 0 0
def toksA (b : List UInt8) (p i : Nat) : List Tok := toksF b (b.length - p) p i
def keyAt (b : List UInt8) (p : Nat) : Option Nat :=
 match b[p]?, b[p + 1]?, b[p + 2]?, b[p + 3]? with
 | some a, some c, some d, some e => some (a.toNat + 256 * c.toNat + 65536 * d.toNat + 16777216 * e.toNat)
 | _, _, _, _ => none
def lastP (b : List UInt8) (k : Nat) : Nat → Nat
 | 0 => 0
 | j + 1 => if keyAt b j = some k then j + 1 else lastP b k j
end Go.Bs
namespace Go.Proofs.YtkipiefcnjfdjaaGreat
open Go.RowKit Go.Bs Go.Maps
set_option linter.unusedVariables false
set_option linter.unusedSimpArgs false
def prevN (b : List UInt8) (j : Nat) : Nat := match keyAt b j with | some k => lastP b k j | none => 0
def prevs (b : List UInt8) (n : Nat) : List Value := (List.range n).map fun j => .int .i64 (prevN b j : Int)
def LastsAt (D : DataW Unit) (b : List UInt8) (n : Nat) : Prop := ∀ k : Nat, k < 4294967296 → D.atKey (.int .u32 (k : Int)) (.lit (.int .i64 0)) = .lit (.int .i64 (lastP b k n : Int))
theorem LastsAt.none {D : DataW Unit} {b : List UInt8} {n : Nat} (h : LastsAt D b n) (hk : keyAt b n = none) : LastsAt D b (n + 1) := fun k hlt => by
 rw [h k hlt]
 simp only [lastP]
 rw [hk, if_neg (by simp)]
theorem LastsAt.some {D : DataW Unit} {b : List UInt8} {n k : Nat} (h : LastsAt D b n) (hD : IsMap D) (hk : keyAt b n = some k) : LastsAt (D.put (.int .u32 (k : Int)) (.lit (.int .i64 ((n : Int) + 1)))) b (n + 1) := fun k' hlt => by
 by_cases e : k' = k
 ·subst e
  rw [atKey_put_same hD (by trivial)]
  simp only [lastP]
  rw [if_pos hk]; simp
 ·rw [atKey_put_other (by simp; omega), h k' hlt]
  simp only [lastP]
  rw [if_neg (by rw [hk]; simp; omega)]
structure ChAt (w : World) (g mb base : Nat) (b : List UInt8) (n : Nat) (ab : Option Addr) (cb : Nat) (ap : Option Addr) (cp : Nat) : Prop where
 blk : Blk w g 324 #[.slice ab b.length cb, .map (some mb), .slice ap n cp]
 bytes : rBytes.r (fun q => q < w.heap.size ∧ q ≠ g ∧ q ≠ mb ∧ (Value.slice ap n cp).ownBlock ≠ some q) w [.slice ab b.length cb] b
 map : ∃ D : DataW Unit, w.ownsMap Tryz.prog 216 (plainElem Tryz.prog 3) mb n D ∧ LastsAt D b n
 prev : w.ownsRow base 3 1 (.slice ap n cp) n (prevs b n)
 ne1 : g ≠ mb
 ne2 : (Value.slice ap n cp).ownBlock ≠ some g
 ne3 : (Value.slice ap n cp).ownBlock ≠ some mb
 lo : base ≤ g
 le : n ≤ b.length
 len : b.length ≤ 1048576
def ChStep (w : World) (g mb base : Nat) (b : List UInt8) (n n' : Nat) (ab : Option Addr) (cb : Nat) (ap : Option Addr) (cp : Nat) (w' : World) : Prop :=
 ∃ ap' cp', ChAt w' g mb base b n' ab cb ap' cp' ∧ Tch (fun q => q = g ∨ q = mb ∨ (Value.slice ap n cp).ownBlock = some q) w w' ∧ ((Value.slice ap' n' cp').ownBlock = (Value.slice ap n cp).ownBlock ∨ ∃ q, (Value.slice ap' n' cp').ownBlock = some q ∧ w.heap.size ≤ q)
theorem map_keep {w w' : World} {K : TypeId} {R : Value → Option (DataW Unit × List MemPlace)} {m n : Nat} {D : DataW Unit} (h : w.ownsMap Tryz.prog K R m n D) (e : w'.heap[m]? = w.heap[m]?) : w'.ownsMap Tryz.prog K R m n D := by
 obtain ⟨es, clock, hb, F, hs, hD⟩ := h
 exact ⟨es, clock, e.trans hb, F, hs, hD⟩
theorem own_keep {w w' : World} {base : Nat} {e : TypeId} {size : Nat} {v : Value} {n : Nat} {xs : List Value} (h : w.ownsRow base e size v n xs) (hv : ∀ g, v.ownBlock = some g → w'.heap[g]? = w.heap[g]?) : w'.ownsRow base e size v n xs := by
 refine ⟨h.1, ?_⟩
 rcases h.2 with h0 | ⟨g, cap, cur, h1, h2, h3, h4⟩
 ·exact .inl h0
 ·exact .inr ⟨g, cap, cur, h1, h2, by rw [hv g (by rw [h1]; rfl)]; exact h3, h4⟩
end Go.Proofs.YtkipiefcnjfdjaaGreat
namespace Go.Proofs.YtkipiefcnjfdjaaGreat
open Go.RowKit Go.Bs Go.Maps
set_option linter.unusedVariables false
set_option linter.unusedSimpArgs false
theorem ChStep.trans {w w1 w2 : World} {g mb base : Nat} {b : List UInt8} {n m k : Nat} {ab : Option Addr} {cb : Nat} {ap a1 : Option Addr} {cp c1 : Nat} (h : Tch (fun q => q = g ∨ q = mb ∨ (Value.slice ap n cp).ownBlock = some q) w w1)
  (ho : (Value.slice a1 m c1).ownBlock = (Value.slice ap n cp).ownBlock ∨ ∃ q, (Value.slice a1 m c1).ownBlock = some q ∧ w.heap.size ≤ q) (k' : ChStep w1 g mb base b m k ab cb a1 c1 w2) : ChStep w g mb base b n k ab cb ap cp w2 := by
 obtain ⟨a2, c2, h1, h2, h3⟩ := k'
 refine ⟨a2, c2, h1, h.trans h2 fun q hq e => ?_, ?_⟩
 ·rcases e with e | e | e
  ·exact .inl e
  ·exact .inr (.inl e)
  ·rcases ho with ho | ⟨q', hq', hlt⟩
   ·exact .inr (.inr (ho ▸ e))
   ·rw [hq'] at e; have := Option.some.inj e; omega
 ·rcases h3 with h3 | ⟨q', hq', hlt⟩
  ·rcases ho with ho | ⟨q', hq', hlt⟩
   ·exact .inl (h3.trans ho)
   ·exact .inr ⟨q', h3.trans hq', hlt⟩
  ·exact .inr ⟨q', hq', Nat.le_trans h.size hlt⟩
theorem ChStep.refl {w : World} {g mb base : Nat} {b : List UInt8} {n : Nat} {ab : Option Addr} {cb : Nat} {ap : Option Addr} {cp : Nat} (h : ChAt w g mb base b n ab cb ap cp) : ChStep w g mb base b n n ab cb ap cp w := ⟨ap, cp, h, Tch.refl _ _, .inl rfl⟩
end Go.Proofs.YtkipiefcnjfdjaaGreat
namespace Go.Proofs.YtkipiefcnjfdjaaGreat
open Go.RowKit Go.Bs Go.Maps Go.Shelf
set_option linter.unusedVariables false
set_option linter.unusedSimpArgs false
def KpC (Q : Nat → Prop) (w w' : World) : Prop := ∀ q, Q q → w'.heap[q]? = w.heap[q]?
theorem KpC.trans {Q : Nat → Prop} {w w' w'' : World} (h : KpC Q w w') (k : KpC Q w' w'') : KpC Q w w'' := fun q hq => (k q hq).trans (h q hq)
end Go.Proofs.YtkipiefcnjfdjaaGreat
namespace Go.Proofs.YtkipiefcnjfdjaaGreat
open Go.RowKit Go.Bs Go.Maps Go.Shelf
set_option linter.unusedVariables false
set_option linter.unusedSimpArgs false
attribute [local go_sem] Oper.semAt_some
structure SkAt (w : World) (gs g mb base lo hi : Nat) (b : List UInt8) (n : Nat) (sa : Option Addr) (sc : Nat) (ab : Option Addr) (cb : Nat) (ap : Option Addr) (cp : Nat) : Prop where
 blk : ∃ t : Int, Blk w gs 316 #[.slice sa b.length sc, .pointer (some ⟨g, 0, none⟩), .int .i64 t]
 bytes : rBytes.r (fun q => (lo ≤ q ∧ q < hi) ∧ q ≠ gs ∧ q ≠ g ∧ q ≠ mb ∧ (Value.slice ap n cp).ownBlock ≠ some q) w [.slice sa b.length sc] b
 ch : ChAt w g mb base b n ab cb ap cp
 bytes2 : rBytes.r (fun q => (lo ≤ q ∧ q < hi) ∧ q ≠ gs ∧ q ≠ g ∧ q ≠ mb ∧ (Value.slice ap n cp).ownBlock ≠ some q) w [.slice ab b.length cb] b
 ne1 : gs ≠ g
 ne2 : gs ≠ mb
 ne3 : (Value.slice ap n cp).ownBlock ≠ some gs
 top : hi ≤ w.heap.size
def SkStep (w : World) (gs g mb base lo hi : Nat) (b : List UInt8) (n n' : Nat) (sa : Option Addr) (sc : Nat) (ab : Option Addr) (cb : Nat) (ap : Option Addr) (cp : Nat) (w' : World) : Prop :=
 ∃ ap' cp', SkAt w' gs g mb base lo hi b n' sa sc ab cb ap' cp' ∧ Tch (fun q => q = gs ∨ q = g ∨ q = mb ∨ (Value.slice ap n cp).ownBlock = some q) w w' ∧ ((Value.slice ap' n' cp').ownBlock = (Value.slice ap n cp).ownBlock ∨ ∃ q, (Value.slice ap' n' cp').ownBlock = some q ∧ w.heap.size ≤ q)
theorem ChAt.later {w w' : World} {g mb base : Nat} {b : List UInt8} {n : Nat} {ab : Option Addr} {cb : Nat} {ap : Option Addr} {cp : Nat} (h : ChAt w g mb base b n ab cb ap cp) (hb : Below w.heap.size w w') : ChAt w' g mb base b n ab cb ap cp := by
 have hs := hb.size
 obtain ⟨D, hD, hL⟩ := h.map
 exact ⟨h.blk.later hb, rBytes.mono (rBytes.keep h.bytes fun q hq => hb.block q hq.1) fun q hq => ⟨by omega, hq.2⟩, ⟨D, map_keep hD (hb.block _ hD.lt), hL⟩, own_keep h.prev fun q hq => hb.block q (h.prev.lt q hq).2, h.ne1, h.ne2, h.ne3, h.lo, h.le, h.len⟩
theorem SkAt.later {w w' : World} {gs g mb base lo hi : Nat} {b : List UInt8} {n : Nat} {sa : Option Addr} {sc : Nat} {ab : Option Addr} {cb : Nat} {ap : Option Addr} {cp : Nat} (h : SkAt w gs g mb base lo hi b n sa sc ab cb ap cp) (hb : Below w.heap.size w w') : SkAt w' gs g mb base lo hi b n sa sc ab cb ap cp := by
 have hs := hb.size
 obtain ⟨t, ht⟩ := h.blk
 exact ⟨⟨t, ht.later hb⟩, rBytes.keep h.bytes fun q hq => hb.block q (Nat.lt_of_lt_of_le hq.1.2 h.top), h.ch.later hb, rBytes.keep h.bytes2 fun q hq => hb.block q (Nat.lt_of_lt_of_le hq.1.2 h.top), h.ne1, h.ne2, h.ne3, Nat.le_trans h.top hs⟩
theorem SkAt.tch {F : Nat → Prop} {w w' : World} {gs g mb base lo hi : Nat} {b : List UInt8} {n : Nat} {sa : Option Addr} {sc : Nat} {ab : Option Addr} {cb : Nat} {ap : Option Addr} {cp : Nat} (h : SkAt w gs g mb base lo hi b n sa sc ab cb ap cp) (hT : Tch F w w') (h1 : ¬ F g) (h2 : ¬ F mb) (h3 : ∀ q, (Value.slice ap n cp).ownBlock = some q → ¬ F q) (h4 : ∀ q, lo ≤ q → q < hi → q ≠ gs → ¬ F q)
  (hb : ∃ t : Int, Blk w' gs 316 #[.slice sa b.length sc, .pointer (some ⟨g, 0, none⟩), .int .i64 t]) : SkAt w' gs g mb base lo hi b n sa sc ab cb ap cp := by
 have hs := hT.size
 have ht := h.top
 obtain ⟨D, hD, hL⟩ := h.ch.map
 exact ⟨hb, rBytes.keep h.bytes fun q hq => hT.block q (by omega) (h4 q hq.1.1 hq.1.2 hq.2.1), ⟨h.ch.blk.tch hT h1, rBytes.mono (rBytes.keep h.bytes2 fun q hq => hT.block q (by omega) (h4 q hq.1.1 hq.1.2 hq.2.1)) fun q hq => ⟨by omega, hq.2.2⟩, ⟨D, map_keep hD (hT.block _ hD.lt h2), hL⟩,
  own_keep h.ch.prev fun q hq => hT.block q (h.ch.prev.lt q hq).2 (h3 q hq), h.ch.ne1, h.ch.ne2, h.ch.ne3, h.ch.lo, h.ch.le, h.ch.len⟩, rBytes.keep h.bytes2 fun q hq => hT.block q (by omega) (h4 q hq.1.1 hq.1.2 hq.2.1), h.ne1, h.ne2, h.ne3, by omega⟩
theorem SkAt.turned {w w' : World} {gs g mb base lo hi : Nat} {b : List UInt8} {n : Nat} {sa : Option Addr} {sc : Nat} {ab : Option Addr} {cb : Nat} {ap : Option Addr} {cp : Nat} (h : SkAt w gs g mb base lo hi b n sa sc ab cb ap cp) (hT : Tch (fun q => q = gs) w w')
  (hb : ∃ t : Int, Blk w' gs 316 #[.slice sa b.length sc, .pointer (some ⟨g, 0, none⟩), .int .i64 t]) : SkAt w' gs g mb base lo hi b n sa sc ab cb ap cp :=
 h.tch hT (Ne.symm h.ne1) (Ne.symm h.ne2) (fun q hq e => h.ne3 (e ▸ hq)) (fun q _ _ h e => h e) hb
end Go.Proofs.YtkipiefcnjfdjaaGreat
namespace Go.Proofs.YtkipiefcnjfdjaaGreat
open Go.RowKit Go.Bs Go.Maps
set_option linter.unusedVariables false
set_option linter.unusedSimpArgs false
def rTok : Rp Tok := rBy (fun t => (t.lit, t.off, t.len)) (rPair rBytes (rPair (rInt .i64) (rInt .i64)))
theorem i64_wf {n : Int} (h : -9223372036854775808 ≤ n ∧ n ≤ 9223372036854775807) : (Lit.int .i64 n).wf = true := by
 simp [Lit.wf, IntKind.min, IntKind.max, IntKind.signed, IntKind.bits]; omega
theorem sl_drop {α : Type} {sz : Nat} {A : Rp α} {S : Nat → Prop} {w : World} {xs : List α} {b off : Nat} {n c k : Nat} (h : (rSl sz A).r S w [.slice (some ⟨b, off, none⟩) n c] xs) (hk : k ≤ xs.length) : (rSl sz A).r S w [.slice (some ⟨b, off + k * sz, none⟩) (n - k) (c - k)] (xs.drop k) := by
 obtain ⟨a', c', e, h1, h2, h3⟩ := h
 simp at e
 obtain ⟨rfl, rfl, rfl⟩ := e
 refine rSl_mk (a := some ⟨b, off + k * sz, none⟩) (c := c - k) (by simp) (by simp; omega) (by omega) ?_
 rcases h3 with rfl | ⟨b', off', e', hS, hr⟩
 ·exact .inl (by simp)
 ·simp at e'
  obtain ⟨rfl, rfl⟩ := e'
  refine .inr ⟨b, off + k * sz, rfl, hS, fun i x hi => ?_⟩
  rw [List.getElem?_drop] at hi
  obtain ⟨cs, h4, h5, h6⟩ := hr (k + i) x hi
  refine ⟨cs, h4, fun j v hj => ?_, h6⟩
  have := h5 j v hj
  rw [show off + k * sz + i * sz + j = off + (k + i) * sz + j by rw [Nat.add_mul]; omega]
  exact this
end Go.Proofs.YtkipiefcnjfdjaaGreat
namespace Go.Proofs.YtkipiefcnjfdjaaGreat
open Go.RowKit Go.Bs Go.Maps
set_option linter.unusedVariables false
set_option linter.unusedSimpArgs false
structure TokAt (w wr : World) (N0 N1 gs g mb base : Nat) (b : List UInt8) (sa : Option Addr) (sc : Nat) (ab : Option Addr) (cb : Nat) (a : Option Addr) (c : Nat) (p i nn : Nat) (av : Option Addr) (cv : Nat) (ap : Option Addr) (cp : Nat) (L : List Tok) (cells : List (List Value)) : Prop where
 pb : p ≤ b.length
 ip : i ≤ p
 np : nn ≤ p
 bb : Blk wr w.heap.size 28 #[.slice a b.length c]
 bo : Blk wr (w.heap.size + 1) 240 #[.slice av L.length cv]
 bf : Blk wr (w.heap.size + 2) 3 #[.int .i64 (i : Int)]
 own : OwnElsF (fun q => N1 ≤ q ∧ q < wr.heap.size ∧ (Value.slice ap nn cp).ownBlock ≠ some q) rTok N1 253 3 wr (.slice av L.length cv) L cells
 sk : SkAt wr gs g mb base N0 N1 b nn sa sc ab cb ap cp
 apart : ∀ q, (Value.slice av L.length cv).ownBlock = some q → (Value.slice ap nn cp).ownBlock ≠ some q
 len : L.length ≤ p
 toks : L ++ toksA b p i = toksR b
 below : Below w.heap.size w wr
 n0 : N0 = w.heap.size + 3
 n1 : N0 ≤ gs ∧ gs < N1 ∧ N0 ≤ g ∧ g < N1 ∧ N0 ≤ mb ∧ mb < N1 ∧ N0 ≤ base
theorem TokAt.top {w wr : World} {N0 N1 gs g mb base : Nat} {b : List UInt8} {sa : Option Addr} {sc : Nat} {ab : Option Addr} {cb : Nat} {a : Option Addr} {c : Nat} {p i nn : Nat} {av : Option Addr} {cv : Nat} {ap : Option Addr} {cp : Nat} {L : List Tok} {cells : List (List Value)}
  (h : TokAt w wr N0 N1 gs g mb base b sa sc ab cb a c p i nn av cv ap cp L cells) : N1 ≤ wr.heap.size := h.sk.top
theorem TokAt.best {w wr w1 : World} {N0 N1 gs g mb base : Nat} {b : List UInt8} {sa : Option Addr} {sc : Nat} {ab : Option Addr} {cb : Nat} {a : Option Addr} {c : Nat} {p i nn m : Nat} {av : Option Addr} {cv : Nat} {ap : Option Addr} {cp : Nat} {L : List Tok} {cells : List (List Value)}
  (h : TokAt w wr N0 N1 gs g mb base b sa sc ab cb a c p i nn av cv ap cp L cells) (hs : SkStep wr gs g mb base N0 N1 b nn m sa sc ab cb ap cp w1) (hm : m ≤ p) :
  ∃ ap' cp', TokAt w w1 N0 N1 gs g mb base b sa sc ab cb a c p i m av cv ap' cp' L cells := by
 obtain ⟨ap', cp', h1, h2, h3⟩ := hs
 have htop := h.top
 have hn0 := h.n0
 obtain ⟨k1, k2, k3, k4, k5, k6, k7⟩ := h.n1
 have hsz := h2.size
 have hapb : ∀ q, (Value.slice ap nn cp).ownBlock = some q → N0 ≤ q ∧ q < wr.heap.size := fun q hq => by
  have := h.sk.ch.prev.lt q hq
  exact ⟨by omega, this.2⟩
 have hlow : ∀ q, q < N0 → ¬ (q = gs ∨ q = g ∨ q = mb ∨ (Value.slice ap nn cp).ownBlock = some q) := fun q hq e => by
  rcases e with e | e | e | e
  ·omega
  ·omega
  ·omega
  ·have := (hapb q e).1; omega
 have hav := fun q (hq : (Value.slice av L.length cv).ownBlock = some q) => h.own.1.lt q hq
 have hnew : ∀ q, q < wr.heap.size → (Value.slice ap nn cp).ownBlock ≠ some q → (Value.slice ap' m cp').ownBlock ≠ some q := fun q hq hne e => by
  rcases h3 with h3 | ⟨q', hq', hlt⟩
  ·rw [h3] at e; exact hne e
  ·rw [hq'] at e; have := Option.some.inj e; omega
 refine ⟨ap', cp', ⟨h.pb, h.ip, hm, h.bb.tch h2 (hlow _ (by omega)), h.bo.tch h2 (hlow _ (by omega)), h.bf.tch h2 (hlow _ (by omega)), ?_, h1, fun q hq => hnew q (hav q hq).2 (h.apart q hq), h.len, h.toks, h.below.trans (h2.to_below (by omega) fun q hq e => ?_), h.n0, h.n1⟩⟩
 ·refine (h.own.keep (w' := w1) (fun q hq => h2.block q hq.2.1 (fun e => ?_)) (fun q hq => h2.block q (hav q hq).2 (fun e => ?_))).mono fun q hq => ⟨hq.1, by omega, hnew q hq.2.1 hq.2.2⟩
  ·rcases e with e | e | e | e
   ·omega
   ·omega
   ·omega
   ·exact hq.2.2 e
  ·have := (hav q hq).1
   rcases e with e | e | e | e
   ·omega
   ·omega
   ·omega
   ·exact h.apart q hq e
 ·by_cases hq0 : q < N0
  ·exact absurd e (hlow q hq0)
  ·omega
theorem TokAt.out {w wr w1 : World} {N0 N1 gs g mb base : Nat} {b : List UInt8} {sa : Option Addr} {sc : Nat} {ab : Option Addr} {cb : Nat} {a : Option Addr} {c : Nat} {p i nn : Nat} {av : Option Addr} {cv : Nat} {ap : Option Addr} {cp : Nat} {L : List Tok} {cells : List (List Value)}
  (h : TokAt w wr N0 N1 gs g mb base b sa sc ab cb a c p i nn av cv ap cp L cells) {p' i' : Nat} {av' : Option Addr} {cv' : Nat} {L' : List Tok} {cells' : List (List Value)} (hp : p' ≤ b.length) (hi : i' ≤ p') (hn : nn ≤ p')
  (hf : Blk w1 (w.heap.size + 2) 3 #[.int .i64 (i' : Int)]) (ho : Blk w1 (w.heap.size + 1) 240 #[.slice av' L'.length cv'])
  (hown : OwnElsF (fun q => (N1 ≤ q ∧ q < wr.heap.size ∧ (Value.slice ap nn cp).ownBlock ≠ some q) ∨ (wr.heap.size ≤ q ∧ q < w1.heap.size)) rTok N1 253 3 w1 (.slice av' L'.length cv') L' cells')
  (ht : Tch (fun q => q = w.heap.size + 1 ∨ q = w.heap.size + 2 ∨ (Value.slice av L.length cv).ownBlock = some q) wr w1) (hat : (Value.slice av' L'.length cv').ownBlock = (Value.slice av L.length cv).ownBlock ∨ ∃ q, (Value.slice av' L'.length cv').ownBlock = some q ∧ wr.heap.size ≤ q)
  (hlen : L'.length ≤ p') (htok : L' ++ toksA b p' i' = toksR b) : TokAt w w1 N0 N1 gs g mb base b sa sc ab cb a c p' i' nn av' cv' ap cp L' cells' := by
 have htop := h.top
 have hn0 := h.n0
 obtain ⟨k1, k2, k3, k4, k5, k6, k7⟩ := h.n1
 have hsz := ht.size
 have hapb : ∀ q, (Value.slice ap nn cp).ownBlock = some q → N0 ≤ q ∧ q < wr.heap.size := fun q hq => by
  have := h.sk.ch.prev.lt q hq
  exact ⟨by omega, this.2⟩
 have hav := fun q (hq : (Value.slice av L.length cv).ownBlock = some q) => h.own.1.lt q hq
 have hmid : ∀ q, N0 ≤ q → q < N1 → ¬ (q = w.heap.size + 1 ∨ q = w.heap.size + 2 ∨ (Value.slice av L.length cv).ownBlock = some q) := fun q h1 h2 e => by
  rcases e with e | e | e
  ·omega
  ·omega
  ·have := (hav q e).1; omega
 obtain ⟨t, hgs⟩ := h.sk.blk
 refine ⟨hp, hi, hn, h.bb.tch ht (fun e => ?_), ho, hf, hown.mono fun q hq => ?_, h.sk.tch ht (hmid g k3 k4) (hmid mb k5 k6) (fun q hq e => ?_) (fun q h1 h2 _ => hmid q h1 h2) ⟨t, hgs.tch ht (hmid gs k1 k2)⟩, fun q hq e => ?_, hlen, htok, h.below.trans (ht.to_below h.below.size fun q hq e => ?_), h.n0, h.n1⟩
 ·rcases e with e | e | e
  ·omega
  ·omega
  ·have := (hav _ e).1; omega
 ·rcases hq with hq | hq
  ·exact ⟨hq.1, by omega, hq.2.2⟩
  ·exact ⟨by omega, hq.2, fun e => by have := (hapb q e).2; omega⟩
 ·rcases e with e | e | e
  ·have := (hapb q hq).1; omega
  ·have := (hapb q hq).1; omega
  ·exact h.apart q e hq
 ·rcases hat with hat | ⟨q', hq', hlt⟩
  ·rw [hat] at hq; exact h.apart q hq e
  ·rw [hq'] at hq; have := Option.some.inj hq; have := (hapb q e).2; omega
 ·rcases e with e | e | e
  ·omega
  ·omega
  ·have := (hav q e).1; omega
end Go.Proofs.YtkipiefcnjfdjaaGreat
namespace Go.Bs
open Go.RowKit
end Go.Bs
namespace Go.Proofs.YtkipiefcnjfdjaaGreat
open Go.RowKit Go.Bs Go.Maps
set_option linter.unusedVariables false
set_option linter.unusedSimpArgs false
def runB (t : Tok) : Bool := decide (t.off = 0) && (decide (t.len = 0) && (decide (1 ≤ t.lit.length) && decide (t.lit.length ≤ 1048576)))
end Go.Proofs.YtkipiefcnjfdjaaGreat
namespace Go.Proofs.YtkipiefcnjfdjaaGreat
open Go.RowKit Go.Bs Go.Maps
set_option linter.unusedVariables false
set_option linter.unusedSimpArgs false
theorem lit_bytes {w : World} {g : Nat} {t : TypeId} {fr : Nat × Nat} {l : List UInt8} {cs : Array Value} (hcs : cs = (byteCells l).toArray) (hl : l.length ≤ 1000000) (hb : w.heap[g]? = some (.cells cs t fr)) : rBytes.r (· < w.heap.size) w [.slice (some ⟨g, 0, none⟩) l.length l.length] l := by
 subst hcs
 refine rSl_mk (xs := l) rfl (Nat.le_refl _) (by simp [maxLen]; omega) (.inr ⟨g, 0, rfl, (Array.getElem?_eq_some_iff.1 hb).1, fun i x hi => ⟨[.int .u8 (x.toNat : Int)], rfl, fun j v hj => ?_, rfl⟩⟩)
 have hj0 : j = 0 := by
  rcases j with _ | j
  ·rfl
  ·simp at hj
 subst hj0
 simp at hj
 subst hj
 rw [Nat.zero_add, Nat.mul_one, Nat.add_zero]
 simp [World.cell?, hb, byteCells, hi]
end Go.Proofs.YtkipiefcnjfdjaaGreat
namespace Go.Bs
def varF : Nat → Nat → List UInt8
 | 0, x => [UInt8.ofNat x]
 | f + 1, x => if x < 128 then [UInt8.ofNat x] else UInt8.ofNat (128 + x % 128) :: varF f (x / 128)
def varB (x : Nat) : List UInt8 := varF 9 x
theorem varF_more : ∀ (f g x : Nat), x < 128 ^ (f + 1) → f ≤ g → varF f x = varF g x
 | 0, 0, _, _, _ => rfl
 | 0, g + 1, x, h, _ => by
  have : x < 128 := by simpa using h
  simp [varF, this]
 | f + 1, 0, _, _, h => by omega
 | f + 1, g + 1, x, h, hg => by
  simp only [varF]
  split
  ·rfl
  ·rw [varF_more f g (x / 128) (by rw [Nat.pow_succ] at h; omega) (by omega)]
theorem varB_small {x : Nat} (h : x < 128) : varB x = [UInt8.ofNat x] := by simp [varB, varF, h]
theorem varB_step {x : Nat} (h : ¬ x < 128) (hx : x < 2 ^ 64) : varB x = UInt8.ofNat (128 + x % 128) :: varB (x / 128) := by
 have e : varF 8 (x / 128) = varF 9 (x / 128) := varF_more 8 9 _ (by omega) (by omega)
 unfold varB
 rw [← e]
 simp [varF, h]
theorem varB_len (x : Nat) : (varB x).length ≤ 10 ∧ 1 ≤ (varB x).length := by
 have : ∀ f x, (varF f x).length ≤ f + 1 ∧ 1 ≤ (varF f x).length := by
  intro f
  induction f with
  | zero => intro x; simp [varF]
  | succ f ih => intro x; simp only [varF]; split <;> simp; exact (ih _).1
 exact this 9 x
end Go.Bs
namespace Go.Proofs.YtkipiefcnjfdjaaGreat
open Go.RowKit Go.Bs Go.Maps
set_option linter.unusedVariables false
set_option linter.unusedSimpArgs false
set_option maxHeartbeats 1600000 in
theorem varint_size (x : Nat) (hx : x < 18446744073709551616) (w : World) :
  Calls Tryz.prog 191 #[.int .u64 x] w fun r w' => r = .returned (.int .i64 (varB x).length) ∧ Below w.heap.size w w' := by
 go_enter Tryz.func191, Tryz.ntmps191
 go_wp2_with fail
 go_loopw [0, 3] (fun y n wr => ∃ v k : Nat, y = .int .u64 v ∧ n = .int .i64 k ∧ v < 18446744073709551616 ∧ k ≤ 10 ∧ 1 ≤ k ∧ Hid ((varB x).length + 1 = k + (varB v).length) ∧ Below w.heap.size w wr) (fun y _ _ => (intOf y).toNat)
 case atStart => exact ⟨x, 1, rfl, rfl, hx, by omega, by omega, hid (by omega), Below.refl _ _⟩
 case round =>
  obtain ⟨v, k, rfl, rfl, hv, hk, hk1, hs, hb⟩ := hrel
  by_cases h : v < 128
  ·have d1 : decide ((128 : Int) ≤ (v : Int)) = false := by simp; omega
   have hf : Hid ((varB x).length = k) := hid (by have := hs.out; rw [varB_small h] at this; simpa using this)
   go_wp2
   go_ret
   exact ⟨by rw [hf.out]; rfl, hb⟩
  ·have d1 : decide ((128 : Int) ≤ (v : Int)) = true := by simp; omega
   have hn : Hid ((varB x).length + 1 = k + 1 + (varB (v / 128)).length) := hid (by have := hs.out; rw [varB_step h (by omega)] at this; simp at this; omega)
   have hk10 : k + 1 ≤ 10 := by have := hn.out; have := varB_len x; have := varB_len (v / 128); omega
   go_wp2_with fail
   go_outline
   go_roundw
   case rel => exact ⟨v / 128, k + 1, by go_num, by go_num, by omega, by omega, by omega, hn, hb⟩
   case measure => simp [intOf]; omega
end Go.Proofs.YtkipiefcnjfdjaaGreat
namespace Go.Bs
open Go.RowKit
theorem own_new1 {w : World} {base g : Nat} {e : TypeId} {v : Value} (hb : base ≤ g) (h : w.heap[g]? = some (.cells #[v] e (0, 0))) : w.ownsRow base e 1 (.slice (some ⟨g, 0, none⟩) 1 1) 1 [v] :=
 ⟨rfl, .inr ⟨g, 1, #[v], rfl, hb, h, Nat.le_refl _, by decide, rfl, rfl⟩⟩
theorem byteCells_snoc (J : List UInt8) (b : UInt8) : byteCells J ++ [.int .u8 (b.toNat : Int)] = byteCells (J ++ [b]) := by simp [byteCells]
theorem byte_small {x : Nat} (h : x < 256) : (x : Int) = ((UInt8.ofNat x).toNat : Int) := by
 simp; omega
theorem or128 : ∀ n : Nat, n < 256 → bits .or .u8 (n : Int) 128 = 128 + (n : Int) % 128 := by decide +kernel
theorem or128b (v : Nat) : bits .or .u8 ((v : Int) % 256) 128 = ((UInt8.ofNat (128 + v % 128)).toNat : Int) := by
 have h := or128 (v % 256) (by omega)
 rw [show (((v % 256 : Nat)) : Int) = (v : Int) % 256 by omega] at h
 rw [h, ← byte_small (by omega)]
 omega
end Go.Bs
namespace Go.Proofs.YtkipiefcnjfdjaaGreat
open Go.RowKit Go.Bs Go.Maps
set_option linter.unusedVariables false
set_option linter.unusedSimpArgs false
set_option maxRecDepth 100000 in
set_option maxHeartbeats 1600000 in
theorem varint_bytes (x : Nat) (hx : x < 18446744073709551616) (w : World) :
  Calls Tryz.prog 134 #[.int .u64 x] w fun r w' => ∃ v, r = .returned v ∧ rBytes.r (fun b => w.heap.size ≤ b ∧ b < w'.heap.size) w' [v] (varB x) ∧ Below w.heap.size w w' := by
 obtain ⟨i0, hi, hz0, hz1, hz2⟩ := info_parts info8
 go_enter Tryz.func134, Tryz.ntmps134
 go_wp2_with fail
 go_loopw [0, 3] (fun y o wr => ∃ (v : Nat) (J : List UInt8), y = .int .u64 v ∧ v < 18446744073709551616 ∧ wr.ownsRow w.heap.size 5 1 o J.length (byteCells J) ∧ Hid (varB x = J ++ varB v) ∧ Below w.heap.size w wr) (fun y _ _ => (intOf y).toNat)
 case atStart => exact ⟨x, [], rfl, hx, ⟨rfl, .inl ⟨rfl, rfl⟩⟩, hid rfl, Below.refl _ _⟩
 case round =>
  obtain ⟨v, J, rfl, hv, hown, hs, hb⟩ := hrel
  have hbs := hb.size
  have hJ : J.length ≤ 10 := by have h1 := varB_len x; rw [hs.out] at h1; simp at h1; omega
  obtain ⟨aJ, cJ, rfl⟩ := own_form hown
  have HO := hid hown
  clear hown
  by_cases h : v < 128
  ·have d1 : decide ((128 : Int) ≤ (v : Int)) = false := by simp; omega
   have hfin : Hid (varB x = J ++ [UInt8.ofNat v]) := hid (by rw [hs.out, varB_small h])
   have hby : Hid ((v : Int) = ((UInt8.ofNat v).toNat : Int)) := hid (byte_small (by omega))
   go_wp2_with (at_builtin; go_loud (refine wpList_append_src rfl _ _ _ rfl w.heap.size 5 i0 (.int .u8 0) 1 1 Tryz.underlying28 hi hz0 hz1 hz2 rfl (by decide) (.slice aJ J.length cJ) J.length (byteCells J) rfl (own_below HO.out (by (repeat first | exact zR | assumption | apply zA | apply zS | apply zD | apply zN | refine zT (by assumption) ?_ | omega | simp <;> omega))) (some ⟨wr.heap.size, 0, none⟩) 1 1 [.int .u8 (v : Int)] rfl (src_new1 wr 5 _ rfl rfl rfl) (by intro u hu; simp at hu; subst hu; rfl) (by simp only [maxLen]; omega) (by omega) (by simp; omega) ?_; intro v' w1 hown1 hgrow1 hat1; have HG := hid hgrow1; have HO1 := hid hown1; clear hgrow1 hown1 hat1))
   have ho := HO1.out
   rw [hby.out, byteCells_snoc, ← hfin.out] at ho
   have hlen : J.length + 1 = (varB x).length := by rw [hfin.out]; simp
   have hV := own_bytes2 hlen ho
   have hB : Below w.heap.size w w1 := Below.grown (by (repeat first | exact zR | assumption | apply zA | apply zS | apply zD | apply zN | refine zT (by assumption) ?_ | omega | simp <;> omega)) HG.out (by simp; omega) (fun g e => (HO.out.lt g e).1)
   have HV := hid hV
   clear ho hlen hV
   go_wp2
   go_ret
   exact ⟨_, rfl, HV.out, hB⟩
  ·have d1 : decide ((128 : Int) ≤ (v : Int)) = true := by simp; omega
   have hfin : Hid (varB x = (J ++ [UInt8.ofNat (128 + v % 128)]) ++ varB (v / 128)) := hid (by rw [hs.out, varB_step h (by omega)]; simp)
   have hor := or128b v
   generalize UInt8.ofNat (128 + v % 128) = bb at *
   go_wp2_with (at_builtin; go_loud (refine wpList_append_src rfl _ _ _ rfl w.heap.size 5 i0 (.int .u8 0) 1 1 Tryz.underlying28 hi hz0 hz1 hz2 rfl (by decide) (.slice aJ J.length cJ) J.length (byteCells J) rfl (own_below HO.out (by (repeat first | exact zR | assumption | apply zA | apply zS | apply zD | apply zN | refine zT (by assumption) ?_ | omega | simp <;> omega))) (some ⟨wr.heap.size, 0, none⟩) 1 1 [.int .u8 (bb.toNat : Int)] rfl (src_new1 wr 5 _ rfl rfl rfl) (by intro u hu; simp at hu; subst hu; rfl) (by simp only [maxLen]; omega) (by omega) (by simp; omega) ?_; intro v' w1 hown1 hgrow1 hat1; have HG := hid hgrow1; have HO1 := hid hown1; clear hgrow1 hown1 hat1))
   have ho := HO1.out
   rw [byteCells_snoc] at ho
   have hB : Below w.heap.size w w1 := Below.grown (by (repeat first | exact zR | assumption | apply zA | apply zS | apply zD | apply zN | refine zT (by assumption) ?_ | omega | simp <;> omega)) HG.out (by simp; omega) (fun g e => (HO.out.lt g e).1)
   have HO2 := hid ho
   clear ho HO1
   go_wp2_with fail
   go_roundw
   case rel => exact ⟨v / 128, J ++ [bb], by go_num, by omega, (by rw [List.length_append]; exact HO2.out), hfin, hB⟩
   case measure => simp [intOf]; omega
end Go.Proofs.YtkipiefcnjfdjaaGreat
namespace Go.Proofs.YtkipiefcnjfdjaaGreat
open Go.RowKit Go.Bs Go.Maps
set_option linter.unusedVariables false
set_option linter.unusedSimpArgs false
structure PenAt (w : World) (g base most : Nat) (J : List UInt8) (a : Option Addr) (c : Nat) : Prop where
 blk : Blk w g 109 #[.int .i64 most, .slice a J.length c, .int .i64 0]
 own : w.ownsRow base 5 1 (.slice a J.length c) J.length (byteCells J)
 ne : (Value.slice a J.length c).ownBlock ≠ some g
 lo : base ≤ g
 le : J.length ≤ most
 most : most ≤ 4611686018427387904
 len : J.length ≤ 100000000000000
def PenF (g : Nat) (a : Option Addr) (q : Nat) : Prop := q = g ∨ ∃ p, a = some p ∧ p.block = q
theorem own_slice {a : Option Addr} {n c : Nat} : (Value.slice a n c).ownBlock = a.map Addr.block := by cases a <;> rfl
def PenStep (w : World) (g base most : Nat) (J' : List UInt8) (a : Option Addr) (w' : World) : Prop :=
 ∃ a' c', PenAt w' g base most J' a' c' ∧ Tch (PenF g a) w w' ∧ (a'.map Addr.block = a.map Addr.block ∨ ∃ q, a'.map Addr.block = some q ∧ w.heap.size ≤ q)
theorem PenStep.refl {w : World} {g base most : Nat} {J : List UInt8} {a : Option Addr} {c : Nat} (h : PenAt w g base most J a c) : PenStep w g base most J a w := ⟨a, c, h, Tch.refl _ _, .inl rfl⟩
theorem penF_is {g : Nat} {a : Option Addr} {q : Nat} : PenF g a q ↔ q = g ∨ a.map Addr.block = some q := by unfold PenF; simp
theorem PenStep.trans {w w1 w2 : World} {g base most : Nat} {J J' : List UInt8} {a a1 : Option Addr} (h1 : Tch (PenF g a) w w1) (h2 : a1.map Addr.block = a.map Addr.block ∨ ∃ q, a1.map Addr.block = some q ∧ w.heap.size ≤ q) (k : PenStep w1 g base most J' a1 w2) : PenStep w g base most J' a w2 := by
 obtain ⟨a2, c2, k1, k2, k3⟩ := k
 have hs := h1.size
 refine ⟨a2, c2, k1, h1.trans k2 fun q hq e => ?_, ?_⟩
 ·rw [penF_is] at e ⊢
  rcases e with e | e
  ·exact .inl e
  ·rcases h2 with h2 | ⟨q', h2, h3⟩
   ·exact .inr (h2 ▸ e)
   ·rw [h2] at e; simp at e; omega
 ·rcases k3 with k3 | ⟨q, k3, k4⟩
  ·rcases h2 with h2 | ⟨q', h2, h3⟩
   ·exact .inl (k3.trans h2)
   ·exact .inr ⟨q', k3.trans h2, h3⟩
  ·exact .inr ⟨q, k3, by omega⟩
theorem PenStep.later {w w1 w2 : World} {g base most : Nat} {J' : List UInt8} {a : Option Addr} (h : Below w.heap.size w w1) (k : PenStep w1 g base most J' a w2) : PenStep w g base most J' a w2 := PenStep.trans (J := J') (Tch.of_later h) (.inl rfl) k
theorem PenAt.later {w w1 : World} {g base most : Nat} {J : List UInt8} {a : Option Addr} {c : Nat} (h : PenAt w g base most J a c) (hb : Below w.heap.size w w1) : PenAt w1 g base most J a c :=
 ⟨h.blk.later hb, own_below h.own hb, h.ne, h.lo, h.le, h.most, h.len⟩
theorem PenAt.new (w : World) (most : Nat) (hm : most ≤ 4611686018427387904) : PenAt (w.alloc (.cells #[.int .i64 most, .slice none 0 0, .int .i64 0] 109)) w.heap.size w.heap.size most [] none 0 :=
 ⟨Blk.new w _ _, ⟨rfl, .inl ⟨rfl, rfl⟩⟩, by simp [Value.ownBlock], Nat.le_refl _, Nat.zero_le _, hm, Nat.zero_le _⟩
theorem pen_code (w : World) {g base most : Nat} {J : List UInt8} {a : Option Addr} {c : Nat} (h : PenAt w g base most J a c) :
  Calls Tryz.prog 77 #[.pointer (some ⟨g, 0, none⟩)] w fun r w' => r = .returned (.int .i64 0) ∧ w = w' := by
 have c2 : w.cell? ⟨g, 2, none⟩ = some (.int .i64 0) := h.blk.cell 2
 clear h
 go_enter Tryz.func77, Tryz.ntmps77
 go_wp2
 go_ret
 exact ⟨rfl, rfl⟩
theorem pen_room (w : World) {g base most : Nat} {J : List UInt8} {a : Option Addr} {c : Nat} (h : PenAt w g base most J a c) :
  Calls Tryz.prog 193 #[.pointer (some ⟨g, 0, none⟩)] w fun r w' => r = .returned (.int .i64 ((most : Int) - J.length)) ∧ Below w.heap.size w w' := by
 have C0 := fun s : Later w => s.cell (h.blk.cell 0)
 have C1 := fun s : Later w => s.cell (h.blk.cell 1)
 simp at C0 C1
 have hle := h.le; have hmo := h.most
 clear h
 go_enter Tryz.func193, Tryz.ntmps193
 go_wp2_with fail
 refine wp_region_later (by kernel_rfl) (by kernel_rfl) ?_
 repeat (go_big_quiet_step (fail))
 refine wpQuiet_nil ?_
 rintro W5 ⟨⟨W5', hb5⟩, rfl⟩
 go_wp2
 go_ret
 exact ⟨by first | rfl | simp, hb5⟩
theorem pen_new (w : World) (most : Nat) (hm : most ≤ 4611686018427387904) :
  Calls Tryz.prog 18 #[.int .i64 most] w fun r w' => r = .returned (.pointer (some ⟨w.heap.size, 0, none⟩)) ∧ PenAt w' w.heap.size w.heap.size most [] none 0 ∧ Below w.heap.size w w' := by
 have hN := hid (PenAt.new w most hm)
 have d1 : max (most : Int) 0 = most := by omega
 have d2 : (if (most : Int) < 0 then (0 : Int) else most) = most := by rw [if_neg (by omega)]
 go_enter Tryz.func18, Tryz.ntmps18
 go_wp2
 go_ret
 exact ⟨rfl, hN.out, by (repeat first | exact zR | assumption | apply zA | apply zS | apply zD | apply zN | refine zT (by assumption) ?_ | omega | simp <;> omega)⟩
end Go.Proofs.YtkipiefcnjfdjaaGreat
namespace Go.Proofs.YtkipiefcnjfdjaaGreat
open Go.RowKit Go.Bs Go.Maps
set_option linter.unusedVariables false
set_option linter.unusedSimpArgs false
theorem pen_next {w1 w2 : World} {g base most : Nat} {J D : List UInt8} {a : Option Addr} {c : Nat} {a' : Option Addr} {c' : Nat} (h : PenAt w1 g base most J a c) (hfit : J.length + D.length ≤ most) (hlen : J.length + D.length ≤ 100000000000000)
  (hown : w2.ownsRow base 5 1 (.slice a' (J.length + D.length) c') (J.length + D.length) (byteCells J ++ byteCells D)) (hgrow : w1.grownBy w2 (Value.slice a J.length c).ownBlock)
  (hat : (Value.slice a' (J.length + D.length) c').ownBlock = (Value.slice a J.length c).ownBlock ∨ (Value.slice a' (J.length + D.length) c').ownBlock = some w1.heap.size) :
  PenStep w1 g base most (J ++ D) a (w2.setCell ⟨g, 1, none⟩ (.slice a' (J.length + D.length) c')) := by
 have hg := h.blk.lt
 have hs := hgrow.size
 have hn2 : (Value.slice a' (J.length + D.length) c').ownBlock ≠ some g := fun e => by
  rcases hat with h1 | h1
  ·rw [h1] at e; exact h.ne e
  ·rw [h1] at e; simp at e; omega
 have hsz : (w2.setCell ⟨g, 1, none⟩ (.slice a' (J.length + D.length) c')).heap.size = w2.heap.size := by simp [World.setCell]
 have hll : (J ++ D).length = J.length + D.length := List.length_append
 have hbb : byteCells (J ++ D) = byteCells J ++ byteCells D := by simp [byteCells]
 refine ⟨a', c', ⟨?_, ?_, ?_, h.lo, by omega, h.most, by omega⟩, ?_, ?_⟩
 ·rw [hll]
  exact (h.blk.grown hgrow (fun e => h.ne e.symm)).set 1 _
 ·rw [hll, hbb]
  exact own_keep hown fun q hq => Below.heap_setCell w2 _ _ q (fun e => hn2 (by rw [hq, e]))
 ·rw [hll]; exact hn2
 ·refine ⟨hgrow.os, hgrow.tape, hgrow.output, by rw [hsz]; exact hs, fun q hq hf => ?_⟩
  rw [penF_is] at hf
  exact (Below.heap_setCell w2 _ _ q (fun e => hf (.inl e))).trans (hgrow.block q hq (fun e => hf (.inr (by rw [own_slice] at e; exact e.symm))))
 ·rw [own_slice, own_slice] at hat
  rcases hat with h1 | h1
  ·exact .inl h1
  ·exact .inr ⟨_, h1, Nat.le_refl _⟩
set_option maxRecDepth 100000 in
set_option maxHeartbeats 1600000 in
theorem pen_put (w : World) {g base most : Nat} {J : List UInt8} {a : Option Addr} {c : Nat} (h : PenAt w g base most J a c) (D : List UInt8) (ad : Option Addr) (nd cd : Nat) (hD : rBytes.r (· < w.heap.size) w [.slice ad nd cd] D) (hfit : J.length + D.length ≤ most) (hlen : J.length + D.length ≤ 100000000000000) :
  Calls Tryz.prog 133 #[.pointer (some ⟨g, 0, none⟩), .slice ad nd cd] w fun r w' => r = .returned (.tuple #[]) ∧ PenStep w g base most (J ++ D) a w' := by
 obtain ⟨rfl, hm, _, _⟩ := sl_len hD
 obtain ⟨i0, hi, hz0, hz1, hz2⟩ := info_parts info8
 have HC := hid (pen_code w h)
 have HR := hid (pen_room w h)
 have HP := hid h
 have HD := hid hD
 have HONE := hid (byteCells_one D)
 have hmo := h.most
 have d1 : decide ((most : Int) - (J.length : Int) < (D.length : Int)) = false := by simp; omega
 clear h hD
 go_enter Tryz.func133, Tryz.ntmps133
 go_wp2_with fail
 refine HC.out.mono ?_
 rintro r w0 ⟨rfl, rfl⟩
 go_wp2_with fail
 refine HR.out.mono ?_
 rintro r w1 ⟨rfl, hb1⟩
 have hP1 := HP.out.later hb1
 have c1 : w1.cell? ⟨g, 1, none⟩ = some (.slice a J.length c) := hP1.blk.cell 1
 have hg1 := hP1.blk.lt
 have f1 := hP1.blk.free 1
 have hne := hP1.ne
 have hlo := hP1.lo
 have HP1 := hid hP1
 have HS := hid (src_bytes (lift HD.out hb1))
 clear hP1
 go_wp2_with (at_builtin; go_loud (refine wpList_append_src rfl _ _ _ rfl base 5 i0 (.int .u8 0) 1 1 Tryz.underlying28 hi hz0 hz1 hz2 rfl (by decide) (.slice a J.length c) J.length (byteCells J) rfl HP1.out.own ad D.length cd (byteCells D) rfl HS.out HONE.out (by simp only [maxLen]; omega) (by omega) (by omega) ?_; intro v' w2 hown2 hgrow2 hat2; obtain ⟨a', c', rfl⟩ := own_form hown2; have f2 := (World.frozen?_of_block (a := ⟨g, 1, none⟩) (hgrow2.block g hg1 (fun e => hne e.symm))).trans f1; have e2 := (World.cell?_of_block (a := ⟨g, 1, none⟩) (hgrow2.block g hg1 (fun e => hne e.symm))).trans c1; have hz2' : g < w2.heap.size := Nat.lt_of_lt_of_le hg1 hgrow2.size; have HG := hid hgrow2; have HO := hid hown2; have HAT := hid hat2; clear hgrow2 hown2 hat2))
 have hst := PenStep.later hb1 (pen_next HP1.out hfit hlen HO.out HG.out HAT.out)
 have HST := hid hst
 clear hst
 go_wp2
 go_end0
 exact ⟨rfl, HST.out⟩
set_option maxRecDepth 100000 in
set_option maxHeartbeats 1600000 in
theorem pen_bytes (w : World) {g base most : Nat} {J : List UInt8} {a : Option Addr} {c : Nat} (h : PenAt w g base most J a c) :
  Calls Tryz.prog 20 #[.pointer (some ⟨g, 0, none⟩)] w fun r w' => ∃ v, r = .returned (.tuple #[v, .int .i64 0]) ∧ rBytes.r (fun q => w.heap.size ≤ q ∧ q < w'.heap.size) w' [v] J ∧ Below w.heap.size w w' := by
 obtain ⟨i0, hi, hz0, hz1, hz2⟩ := info_parts info8
 have HC := hid (pen_code w h)
 have hB := own_bytes2 rfl h.own
 obtain ⟨_, hm, _, _⟩ := sl_len hB
 have HD := hid (rBytes.mono hB (S' := (· < w.heap.size)) fun q hq => hq.2)
 have HONE := hid (byteCells_one J)
 have c1 : w.cell? ⟨g, 1, none⟩ = some (.slice a J.length c) := h.blk.cell 1
 have hg1 := h.blk.lt
 have hle := h.le; have hmo := h.most; have hle14 := h.len
 clear h hB
 go_enter Tryz.func20, Tryz.ntmps20
 go_wp2_with fail
 refine HC.out.mono ?_
 rintro r w0 ⟨rfl, rfl⟩
 go_wp2_with (at_builtin; go_loud (refine wpList_append_src rfl _ _ _ rfl w.heap.size 5 i0 (.int .u8 0) 1 1 Tryz.underlying28 hi hz0 hz1 hz2 rfl (by decide) _ 0 [] rfl (own_empty _ (Nat.le_refl _) rfl) a J.length c (byteCells J) rfl (src_bytes (lift HD.out (by (repeat first | exact zR | assumption | apply zA | apply zS | apply zD | apply zN | refine zT (by assumption) ?_ | omega | simp <;> omega)))) HONE.out (by simp only [maxLen]; omega) (by omega) (by simp) ?_; intro v' w1 hown1 hgrow1 hat1; rw [Nat.zero_add, List.nil_append] at hown1; obtain ⟨a', c', rfl⟩ := own_form hown1; have HG := hid hgrow1; have HO := hid hown1; clear hgrow1 hown1 hat1))
 have hA := own_bytes2 rfl HO.out
 have hb1 : Below w.heap.size w w1 := Below.grown (by (repeat first | exact zR | assumption | apply zA | apply zS | apply zD | apply zN | refine zT (by assumption) ?_ | omega | simp <;> omega)) HG.out (by simp) (fun g e => by
  have e' : some w.heap.size = some g := e
  injection e' with e'
  omega)
 have HA := hid hA
 clear hA
 go_ret2
 exact ⟨_, rfl, HA.out, hb1⟩
end Go.Proofs.YtkipiefcnjfdjaaGreat
namespace Go.Proofs.YtkipiefcnjfdjaaGreat
open Go.RowKit Go.Bs Go.Maps
set_option linter.unusedVariables false
set_option linter.unusedSimpArgs false
set_option maxRecDepth 100000 in
theorem varint_put (w : World) {g base most : Nat} {J : List UInt8} {a : Option Addr} {c : Nat} (h : PenAt w g base most J a c) (x : Nat) (hx : x < 18446744073709551616) (hfit : J.length + (varB x).length ≤ most) (hlen : J.length + (varB x).length ≤ 100000000000000) :
  Calls Tryz.prog 73 #[.pointer (some ⟨g, 0, none⟩), .int .u64 x] w fun r w' => r = .returned (.tuple #[]) ∧ PenStep w g base most (J ++ varB x) a w' := by
 have HV := hid (varint_bytes x hx w)
 have HP := hid h
 clear h
 go_enter Tryz.func73, Tryz.ntmps73
 go_wp2_with fail
 refine HV.out.mono ?_
 rintro r w1 ⟨v, rfl, hr, hb1⟩
 obtain ⟨a1, c1, hv, hr2, _⟩ := sl_form hr
 simp only [List.cons.injEq, and_true] at hv
 subst hv
 have HQ := hid (pen_put w1 (HP.out.later hb1) (varB x) a1 _ c1 (rBytes.mono hr2 fun q hq => hq.2) hfit hlen)
 clear hr hr2
 go_wp2_with fail
 refine HQ.out.mono ?_
 rintro r w2 ⟨rfl, hst⟩
 have HST := hid (PenStep.later hb1 hst)
 clear hst
 go_wp2
 first | go_end0 | refine bodyPost_ret (results_none rfl _ _ _) rfl ?_
 exact ⟨rfl, HST.out⟩
def tokB (t : Tok) : List UInt8 := if runB t then varB (2 * t.lit.length - 2) ++ t.lit else varB (2 * t.len.toNat - 7) ++ varB (t.off.toNat - 1)
theorem PenAt.own_lt {w : World} {g base most : Nat} {J : List UInt8} {a : Option Addr} {c : Nat} (h : PenAt w g base most J a c) {q : Nat} (hq : PenF g a q) : base ≤ q ∧ q < w.heap.size := by
 rcases hq with rfl | ⟨p, hp, rfl⟩
 ·exact ⟨h.lo, h.blk.lt⟩
 ·subst hp
  exact h.own.lt _ rfl
end Go.Proofs.YtkipiefcnjfdjaaGreat
namespace Go.Proofs.YtkipiefcnjfdjaaGreat
open Go.RowKit Go.Bs Go.Maps
set_option linter.unusedVariables false
set_option linter.unusedSimpArgs false
def tokensB (xs : List Tok) : List UInt8 := (xs.map tokB).flatten
end Go.Proofs.YtkipiefcnjfdjaaGreat
namespace Go.Proofs.YtkipiefcnjfdjaaGreat
open Go.RowKit Go.Bs Go.Maps
set_option linter.unusedVariables false
set_option linter.unusedSimpArgs false
theorem PenAt.below {w w' : World} {g base most : Nat} {J J' : List UInt8} {a : Option Addr} {c B : Nat} (h : PenAt w g base most J a c) (hB : B ≤ base) (hB2 : B ≤ w.heap.size) (k : PenStep w g base most J' a w') : Below B w w' := by
 obtain ⟨a', c', k1, k2, k3⟩ := k
 exact k2.to_below hB2 fun b _ hb => Nat.le_trans hB (h.own_lt hb).1
end Go.Proofs.YtkipiefcnjfdjaaGreat
namespace Go.Proofs.YtkipiefcnjfdjaaGreat
open Go.RowKit Go.Bs Go.Maps
set_option linter.unusedVariables false
set_option linter.unusedSimpArgs false
theorem byteCells_app (J D : List UInt8) : byteCells J ++ byteCells D = byteCells (J ++ D) := by simp [byteCells]
end Go.Proofs.YtkipiefcnjfdjaaGreat
namespace Go.Bs
open Go.RowKit
end Go.Bs
namespace Go.Proofs.YtkipiefcnjfdjaaGreat
open Go.RowKit Go.Bs Go.Maps
set_option linter.unusedVariables false
set_option linter.unusedSimpArgs false
def rTV : Rp (Tok ⊕ Value) :=
  ⟨fun S w cs x => match x with | .inl t => rTok.r S w cs t | .inr v => cs = [v, .int .i64 0, .int .i64 0],
   fun {S w w' cs x} h hk => by cases x with | inl b => exact rTok.keep h hk | inr y => exact h,
   fun {S S' w cs x} h hk => by cases x with | inl b => exact rTok.mono h hk | inr y => exact h⟩
structure TBld (lo : Nat) (w : World) (g c : Nat) (cells : List (List Value)) (ts : List Tok) (D : List UInt8) (vl : Value) : Prop where
 own : OwnElsF (fun x => lo ≤ x ∧ x < w.heap.size ∧ vl.ownBlock ≠ some x) rTV lo 253 3 w (.slice (some ⟨g, 0, none⟩) (ts.length + 1) c) (ts.map .inl ++ [.inr vl]) (cells ++ [[vl, .int .i64 0, .int .i64 0]])
 len : cells.length = ts.length
 last : w.ownsRow lo 5 1 vl D.length (byteCells D)
 ne : vl.ownBlock ≠ some g
theorem TBld.g_lt {lo : Nat} {w : World} {g c : Nat} {cells : List (List Value)} {ts : List Tok} {D : List UInt8} {vl : Value} (h : TBld lo w g c cells ts D vl) : lo ≤ g ∧ g < w.heap.size := h.own.1.lt g rfl
theorem TBld.grow {lo : Nat} {w w' : World} {g c : Nat} {cells : List (List Value)} {ts : List Tok} {D D' : List UInt8} {vl vl' : Value} (h : TBld lo w g c cells ts D vl)
  (hk : ∀ b, b < w.heap.size → vl.ownBlock ≠ some b → w'.heap[b]? = w.heap[b]?) (hs : w.heap.size ≤ w'.heap.size) (hl : w'.ownsRow lo 5 1 vl' D'.length (byteCells D'))
  (hat : vl'.ownBlock = vl.ownBlock ∨ ∃ q, vl'.ownBlock = some q ∧ w.heap.size ≤ q) :
  TBld lo (w'.setCell ⟨g, ts.length * 3, none⟩ vl') g c cells ts D' vl' := by
 have hgl := h.g_lt
 obtain ⟨ho, h1, h4, h5⟩ := h
 have hsame : (w'.setCell ⟨g, ts.length * 3, none⟩ vl').heap.size = w'.heap.size := by simp [World.setCell]
 have hne' : vl'.ownBlock ≠ some g := fun e => by
  rcases hat with h | ⟨q, h, hq⟩
  ·exact h5 (h ▸ e)
  ·rw [h] at e; have := Option.some.inj e; omega
 have ho' := ho.keep (w' := w') (fun b hb => hk b hb.2.1 hb.2.2) (fun g' hg' => by
  have e : g = g' := by simpa [Value.ownBlock] using hg'
  subst e
  exact hk g hgl.2 h5)
 have h7 := OwnElsF.setLast (x' := (.inr vl' : Tok ⊕ Value)) (j := 0) (u := vl') ho' (by simpa using h1) (by omega) (show _ = _ from rfl)
 rw [Nat.add_zero, List.length_map] at h7
 have h8 : OwnElsF (fun x => lo ≤ x ∧ x < w.heap.size ∧ vl.ownBlock ≠ some x) rTV lo 253 3 (w'.setCell ⟨g, ts.length * 3, none⟩ vl') (.slice (some ⟨g, 0, none⟩) (ts.length + 1) c) (ts.map .inl ++ [.inr vl']) (cells ++ [[vl', .int .i64 0, .int .i64 0]]) := h7
 refine ⟨OwnElsF.mono h8 fun b hb => ⟨hb.1, by rw [hsame]; omega, fun e => ?_⟩, h1, own_keep hl fun q hq => Below.heap_setCell _ _ _ _ (fun e => hne' (by rw [hq]; exact congrArg some e)), hne'⟩
 rcases hat with h | ⟨q, h, hq⟩
 ·exact hb.2.2 (h ▸ e)
 ·rw [h] at e; have := Option.some.inj e; omega
theorem TBld.later {lo : Nat} {w w' : World} {g c : Nat} {cells : List (List Value)} {ts : List Tok} {D : List UInt8} {vl : Value} (h : TBld lo w g c cells ts D vl) (hb : Below w.heap.size w w') : TBld lo w' g c cells ts D vl := by
 have hgl := h.g_lt
 obtain ⟨ho, h1, h4, h5⟩ := h
 refine ⟨(ho.keep (w' := w') (fun b h => hb.block b h.2.1) (fun g' hg' => hb.block g' (ho.1.lt g' hg').2)).mono fun b hb' => ⟨hb'.1, by have := hb.size; omega, hb'.2.2⟩, h1, own_below h4 hb, h5⟩
theorem TBld.place {lo : Nat} {w : World} {g c : Nat} {cells : List (List Value)} {ts : List Tok} {D : List UInt8} {vl : Value} (h : TBld lo w g c cells ts D vl) :
  w.cell? ⟨g, ts.length * 3, none⟩ = some vl ∧ w.cell? ⟨g, ts.length * 3 + 1, none⟩ = some (.int .i64 0) ∧ w.frozen? ⟨g, ts.length * 3, none⟩ = false := by
 obtain ⟨⟨ho, hlen, hsz, hA⟩, h1, _⟩ := h
 rcases ho.2 with ⟨h0, _⟩ | ⟨g', cap, cur, hv, hbg, hg, hn, hc, hcur, hx⟩
 ·cases h0
 ·simp at hv
  obtain ⟨rfl, rfl⟩ := hv
  have hf : ∀ j u, [vl, Value.int .i64 0, .int .i64 0][j]? = some u → cur[ts.length * 3 + j]? = some u := fun j u hu => by
   have hf := flatten_at 3 (cells ++ [[vl, .int .i64 0, .int .i64 0]]) hsz ts.length j [vl, .int .i64 0, .int .i64 0] u (by rw [List.getElem?_append_right (by omega), h1]; simp) hu
   rw [← hx, List.getElem?_take] at hf
   split at hf
   ·simpa using hf
   ·cases hf
  refine ⟨?_, ?_, Blk.free hg _⟩
  ·rw [Blk.cell hg]; exact hf 0 vl rfl
  ·rw [Blk.cell hg]; exact hf 1 _ rfl
end Go.Proofs.YtkipiefcnjfdjaaGreat
namespace Go.Proofs.YtkipiefcnjfdjaaGreat
open Go.RowKit Go.Bs Go.Maps
set_option linter.unusedVariables false
set_option linter.unusedSimpArgs false
def Rest (b : List UInt8) (p i : Nat) (O : List Tok) : Prop := ∃ f, b.length ≤ p + f ∧ toksR b = O ++ toksF b f p i
theorem Rest.none {b : List UInt8} {p i o : Nat} {O : List Tok} (h : Rest b p i O) (hp : p < b.length) (hb : bestR b p = (o, 0)) : Rest b (p + 1) i O := by
 obtain ⟨f, hf, h⟩ := h
 obtain ⟨f, rfl⟩ : ∃ f', f = f' + 1 := ⟨f - 1, by omega⟩
 refine ⟨f, by omega, ?_⟩
 rw [h]
 simp only [toksF, if_pos hp, hb, if_true]
theorem Rest.fin {b : List UInt8} {i : Nat} {O : List Tok} (h : Rest b b.length i O) : toksR b = O ++ litT b i b.length := by
 obtain ⟨f, hf, h⟩ := h
 rw [h]
 cases f with
 | zero => rfl
 | succ f => simp only [toksF, if_neg (Nat.lt_irrefl _)]
end Go.Proofs.YtkipiefcnjfdjaaGreat
namespace Go.Proofs.YtkipiefcnjfdjaaGreat
open Go.RowKit Go.Bs Go.Maps
set_option linter.unusedVariables false
set_option linter.unusedSimpArgs false
def blobB (D : List UInt8) : List UInt8 := varB D.length ++ D
theorem blobB_len (D : List UInt8) : (blobB D).length = (varB D.length).length + D.length := by simp [blobB]
set_option maxRecDepth 100000 in
theorem blob_size (n : Nat) (hn : n ≤ 100000000000000) (w : World) :
  Calls Tryz.prog 129 #[.int .i64 n] w fun r w' => r = .returned (.int .i64 ((varB n).length + n : Nat)) ∧ Below w.heap.size w w' := by
 have HS := hid (fun (W : World) => varint_size n (by omega) W)
 have hl := varB_len n
 generalize (varB n).length = k at *
 go_enter Tryz.func129, Tryz.ntmps129
 go_wp2_with fail
 refine (HS.out _).mono ?_
 rintro r w1 ⟨rfl, hb1⟩
 go_wp2
 go_ret
 exact ⟨by first | rfl | simp, hb1⟩
set_option maxRecDepth 100000 in
theorem blob_put (w : World) {g base most : Nat} {J : List UInt8} {a : Option Addr} {c : Nat} (h : PenAt w g base most J a c) (D : List UInt8) (ad : Option Addr) (nd cd : Nat)
  (hD : rBytes.r (fun q => q < w.heap.size ∧ ¬ PenF g a q) w [.slice ad nd cd] D) (hfit : J.length + (blobB D).length ≤ most) (hlen : J.length + (blobB D).length ≤ 100000000000000) :
  Calls Tryz.prog 137 #[.pointer (some ⟨g, 0, none⟩), .slice ad nd cd] w fun r w' => r = .returned (.tuple #[]) ∧ PenStep w g base most (J ++ blobB D) a w' := by
 obtain ⟨rfl, hm, _, _⟩ := sl_len hD
 rw [blobB_len] at hfit hlen
 have HV := hid (varint_put w h D.length (by omega) (by omega) (by omega))
 have HD := hid hD
 have hfit' := hid hfit; have hlen' := hid hlen
 clear h hD hfit hlen
 go_enter Tryz.func137, Tryz.ntmps137
 go_wp2_with fail
 refine HV.out.mono ?_
 rintro r w2 ⟨rfl, a2, c2, hp2, ht2, ha2⟩
 have hs2 := ht2.size
 have HQ := hid (pen_put w2 hp2 D ad _ cd (rBytes.mono (rBytes.keep HD.out fun q hq => ht2.block q hq.1 hq.2) fun q hq => Nat.lt_of_lt_of_le hq.1 hs2) (by rw [List.length_append]; have := hfit'.out; omega) (by rw [List.length_append]; have := hlen'.out; omega))
 go_wp2_with fail
 refine HQ.out.mono ?_
 rintro r w3 ⟨rfl, hst⟩
 have hst2 := PenStep.trans (J := J) ht2 ha2 hst
 rw [List.append_assoc] at hst2
 have HST := hid hst2
 clear hst hst2
 go_wp2
 first | go_end0 | refine bodyPost_ret (results_none rfl _ _ _) rfl ?_
 exact ⟨rfl, HST.out⟩
end Go.Proofs.YtkipiefcnjfdjaaGreat
namespace Go.Proofs.YtkipiefcnjfdjaaGreat
open Go.RowKit Go.Bs Go.Maps
set_option linter.unusedVariables false
set_option linter.unusedSimpArgs false
def pressB (p : List UInt8) : List UInt8 := tokensB (toksR p)
def packR (p : List UInt8) : Bool := decide ((blobB (pressB p)).length < p.length)
def blockB (p : List UInt8) : List UInt8 := varB p.length ++ (if packR p then 1 :: blobB (pressB p) else 0 :: p)
end Go.Proofs.YtkipiefcnjfdjaaGreat
namespace Go.Proofs.YtkipiefcnjfdjaaGreat
open Go.RowKit Go.Bs Go.Maps
set_option linter.unusedVariables false
set_option linter.unusedSimpArgs false
theorem lit_one (w : World) (y : UInt8) : rBytes.r (· < (w.alloc (.cells #[.int .u8 (y.toNat : Int)] 5)).heap.size) (w.alloc (.cells #[.int .u8 (y.toNat : Int)] 5)) [.slice (some ⟨w.heap.size, 0, none⟩) 1 1] [y] :=
 own_bytes (l := [y]) rfl (own_new1 (base := 0) (Nat.zero_le _) (World.alloc_heap_new w _))
end Go.Proofs.YtkipiefcnjfdjaaGreat
namespace Go.Bs
open Go.RowKit
def fixedB : Nat → Nat → List UInt8
 | 0, _ => []
 | n + 1, x => UInt8.ofNat (x % 256) :: fixedB n (x / 256)
theorem fixedB_len : ∀ (n x : Nat), (fixedB n x).length = n
 | 0, _ => rfl
 | n + 1, x => by simp [fixedB, fixedB_len n]
theorem fixedB_snoc : ∀ (n x : Nat), fixedB (n + 1) x = fixedB n x ++ [UInt8.ofNat (x / 256 ^ n % 256)]
 | 0, x => by simp [fixedB]
 | n + 1, x => by
  rw [fixedB, fixedB_snoc n (x / 256), fixedB, List.cons_append, Nat.div_div_eq_div_mul, Nat.pow_succ, Nat.mul_comm 256]
end Go.Bs
namespace Go.Proofs.YtkipiefcnjfdjaaGreat
open Go.RowKit Go.Bs Go.Maps
set_option linter.unusedVariables false
set_option linter.unusedSimpArgs false
set_option maxRecDepth 100000 in
set_option maxHeartbeats 1600000 in
theorem pen_fixed (x : Nat) (hx : x < 18446744073709551616) (n : Nat) (hn : n ≤ 8) (w : World) :
  Calls Tryz.prog 264 #[.int .u64 x, .int .i64 n] w fun r w' => ∃ v, r = .returned v ∧ w'.ownsRow w.heap.size 5 1 v n (byteCells (fixedB n x)) ∧ Below w.heap.size w w' := by
 obtain ⟨i0, hi, hz0, hz1, hz2⟩ := info_parts info8
 have d1 : max (n : Int) 0 = n := by omega
 have d2 : min (n : Int) 8 = n := by omega
 have d3 : (if (n : Int) < 0 then (0 : Int) else n) = n := by rw [if_neg (by omega)]
 have d4 : (if (8 : Int) < n then (8 : Int) else n) = n := by rw [if_neg (by omega)]
 go_enter Tryz.func264, Tryz.ntmps264
 go_wp2_with fail
 go_loopw [0, 5, 9] (fun y o i wr => ∃ k : Nat, k ≤ n ∧ i = .int .i64 k ∧ y = .int .u64 (x / 256 ^ k : Nat) ∧ wr.ownsRow w.heap.size 5 1 o k (byteCells (fixedB k x)) ∧ Below w.heap.size w wr) (fun _ _ i _ => n - (intOf i).toNat)
 case atStart => exact ⟨0, Nat.zero_le _, rfl, by simp, ⟨rfl, .inl ⟨rfl, rfl⟩⟩, Below.refl _ _⟩
 case round =>
  obtain ⟨k, hk, rfl, rfl, hown, hb⟩ := hrel
  have hbs := hb.size
  obtain ⟨aJ, cJ, rfl⟩ := own_form hown
  have HO := hid hown
  clear hown
  by_cases hlt : k < n
  ·have i1 : (k : Int) < (n : Int) := by omega
   have hy : x / 256 ^ k < 18446744073709551616 := Nat.lt_of_le_of_lt (Nat.div_le_self _ _) hx
   have hfin := hid (fixedB_snoc k x)
   have hdv : Hid (x / 256 ^ (k + 1) = x / 256 ^ k / 256) := hid (by rw [Nat.pow_succ, Nat.div_div_eq_div_mul])
   generalize x / 256 ^ k = y at *
   have hby : Hid ((y : Int) % 256 = ((UInt8.ofNat (y % 256)).toNat : Int)) := hid (by rw [← byte_small (by omega)]; omega)
   have e0 : (y : Int) % 256 % 256 = (y : Int) % 256 := by omega
   go_wp2_with (at_builtin; go_loud (refine wpList_append_src rfl _ _ _ rfl w.heap.size 5 i0 (.int .u8 0) 1 1 Tryz.underlying28 hi hz0 hz1 hz2 rfl (by decide) (.slice aJ k cJ) k (byteCells (fixedB k x)) rfl (own_below HO.out (by (repeat first | with_reducible (first | exact zR | assumption | apply zA | apply zS | apply zD | apply zN) | refine zT (by with_reducible assumption) ?_ | omega | simp <;> omega))) (some ⟨wr.heap.size, 0, none⟩) 1 1 [.int .u8 ((y : Int) % 256)] rfl (src_new1 wr 5 _ rfl rfl rfl) (by intro u hu; simp at hu; subst hu; rfl) (by simp only [maxLen]; omega) (by omega) (by simp; omega) ?_; intro v' w1 hown1 hgrow1 hat1; have HG := hid hgrow1; have HO1 := hid hown1; clear hgrow1 hown1 hat1))
   have ho := HO1.out
   rw [hby.out, byteCells_snoc, ← hfin.out] at ho
   have hB : Below w.heap.size w w1 := Below.grown (by (repeat first | with_reducible (first | exact zR | assumption | apply zA | apply zS | apply zD | apply zN) | refine zT (by with_reducible assumption) ?_ | omega | simp <;> omega)) HG.out (by simp; omega) (fun g e => (HO.out.lt g e).1)
   have HO2 := hid ho
   clear ho
   go_wp2_with fail
   go_roundw
   case rel => exact ⟨k + 1, by omega, by go_num, by rw [hdv.out]; go_num, HO2.out, hB⟩
   case measure => simp [intOf]; omega
  ·obtain rfl : k = n := by omega
   go_wp2
   go_ret
   exact ⟨_, rfl, HO.out, hb⟩
set_option maxRecDepth 100000 in
theorem pen_wfixed (w : World) {g base most : Nat} {J : List UInt8} {a : Option Addr} {c : Nat} (h : PenAt w g base most J a c) (x : Nat) (hx : x < 18446744073709551616) (n : Nat) (hn : n ≤ 8) (hfit : J.length + n ≤ most) (hlen : J.length + n ≤ 100000000000000) :
  Calls Tryz.prog 258 #[.pointer (some ⟨g, 0, none⟩), .int .u64 x, .int .i64 n] w fun r w' => r = .returned (.tuple #[]) ∧ PenStep w g base most (J ++ fixedB n x) a w' := by
 have hl := fixedB_len n x
 have HF := hid (pen_fixed x hx n hn w)
 have HP := hid h
 clear h
 generalize fixedB n x = D at *
 go_enter Tryz.func258, Tryz.ntmps258
 go_wp2_with fail
 refine HF.out.mono ?_
 rintro r w1 ⟨v, rfl, ho, hb1⟩
 obtain ⟨a1, c1, rfl⟩ := own_form ho
 have HQ := hid (pen_put w1 (HP.out.later hb1) D a1 n c1 (own_bytes hl.symm ho) (by omega) (by omega))
 clear ho
 go_wp2_with fail
 refine HQ.out.mono ?_
 rintro r w2 ⟨rfl, hst⟩
 have HST := hid (PenStep.later hb1 hst)
 clear hst
 go_wp2
 first | go_end0 | refine bodyPost_ret (results_none rfl _ _ _) rfl ?_
 exact ⟨rfl, HST.out⟩
end Go.Proofs.YtkipiefcnjfdjaaGreat
namespace Go.Proofs.YtkipiefcnjfdjaaGreat
open Go.RowKit Go.Bs Go.Maps
set_option linter.unusedVariables false
set_option linter.unusedSimpArgs false
def numsB (l : List Int) : List UInt8 := (l.map fun x => varB x.toNat).flatten
def deltaB (pos : Int) (l : List Int) : List UInt8 := varB l.length ++ numsB (stepsL pos l)
def lnkF (pos : Int) : Option Int → List Link → List UInt8
 | _, [] => []
 | p, x :: l => varB (match p with | none => x.stream | some q => x.stream - q - 1).toNat ++ deltaB pos x.backs ++ lnkF pos (some x.stream) l
def linksB (pos : Int) (l : List Link) : List UInt8 := varB l.length ++ lnkF pos none l
def headB (pos : Int) (e : Entry) : List UInt8 := linksB pos e.links ++ varB e.data.length
def headsB : Int → List Entry → List UInt8
 | _, [] => []
 | p, e :: l => headB p e ++ headsB (p + 1) l
def aheadB (b : Batch) : List UInt8 := varB b.epoch.toNat ++ varB b.base.toNat ++ varB b.entries.length ++ headsB b.base b.entries
def batchB (b : Batch) : List UInt8 := aheadB b ++ blockB (joined b.entries)
def linkN (x : Link) : Prop := (0 ≤ x.stream ∧ x.stream ≤ 18446744073709551615) ∧ ∀ y ∈ x.backs, 0 ≤ y
def entryN (e : Entry) : Prop := ∀ x ∈ e.links, linkN x
def batchN (b : Batch) : Prop := (0 ≤ b.epoch ∧ b.epoch ≤ 18446744073709551615) ∧ (0 ≤ b.base ∧ b.base ≤ 18446744073709551615) ∧ ∀ e ∈ b.entries, entryN e
theorem numsB_nil : numsB [] = [] := rfl
theorem numsB_cons (x : Int) (l : List Int) : numsB (x :: l) = varB x.toNat ++ numsB l := by simp [numsB]
theorem numsB_app (l l' : List Int) : numsB (l ++ l') = numsB l ++ numsB l' := by simp [numsB]
theorem numsB_step (l : List Int) (k : Nat) (h : k < l.length) : numsB (l.take (k + 1)) = numsB (l.take k) ++ varB l[k].toNat := by
 rw [List.take_succ_eq_append_getElem h, numsB_app, numsB_cons, numsB_nil, List.append_nil]
theorem numsB_len (l : List Int) : (numsB l).length ≤ 10 * l.length := by
 induction l with
 | nil => simp [numsB]
 | cons x l ih =>
  rw [numsB_cons, List.length_append, List.length_cons]
  have := (varB_len x.toNat).1
  omega
theorem stepsL_len : ∀ (p : Int) (l : List Int), (stepsL p l).length = l.length
 | _, [] => rfl
 | p, x :: l => by simp only [stepsL, List.length_cons, stepsL_len x l]
theorem varB_len_small {x : Nat} (h : x < 128) : (varB x).length = 1 := by rw [varB_small h]; rfl
theorem deltaB_len (pos : Int) (l : List Int) (h : l.length < 128) : (deltaB pos l).length ≤ 1 + 10 * l.length := by
 have := numsB_len (stepsL pos l)
 rw [stepsL_len] at this
 unfold deltaB
 rw [List.length_append, varB_len_small h]
 omega
end Go.Proofs.YtkipiefcnjfdjaaGreat
namespace Go.Proofs.YtkipiefcnjfdjaaGreat
open Go.RowKit Go.Bs
set_option linter.unusedVariables false
set_option linter.unusedSimpArgs false
theorem prevB_take (l : List Batch) {k : Nat} (h : k ≤ l.length) : prevB (l.take k) (l.take k).length = prevB l k := by
 have : (l.take k).length = k := by simp; omega
 rw [this]
 unfold prevB
 by_cases h0 : k = 0
 ·rw [if_pos h0, if_pos h0]
 ·rw [if_neg h0, if_neg h0, List.getElem?_take]; rw [if_pos (by omega)]
theorem batchR_fits {x : Batch} (h : batchR x = true) : x.base + x.entries.length ≤ 4611686018427387904 := by
 unfold batchR fitsR at h
 simp at h
 omega
theorem right_take {l : List Batch} {k : Nat} (h : ∀ i, (h : i < l.length) → i < k → batchR l[i] = true) : ∀ p ∈ l.take k, p.base + p.entries.length ≤ 18446744073709551615 := by
 intro p hp
 obtain ⟨i, hi, rfl⟩ := List.getElem_of_mem hp
 have hi' : i < k ∧ i < l.length := by simp at hi; omega
 rw [List.getElem_take]
 have := batchR_fits (h i hi'.2 hi'.1)
 omega
theorem right_more {l : List Batch} {k : Nat} (hk : k < l.length) {z : Batch} (hz : l[k] = z) (hr : batchR z = true) (h : ∀ i, (h : i < l.length) → i < k → batchR l[i] = true) : ∀ i, (h : i < l.length) → i < k + 1 → batchR l[i] = true := by
 intro i hi hik
 by_cases e : i = k
 ·subst e; rw [hz]; exact hr
 ·exact h i hi (by omega)
set_option maxHeartbeats 1600000 in
theorem ref34_may (e : Int) (l : List Batch) (x : Batch) (k : Nat) (a a' : Option Addr) (n c n' c' : Nat) (w : World) (hl : rBatches.r (· < w.heap.size) w [.slice a n c] l) (hk : k ≤ l.length) (hp : ∀ i, (h : i < l.length) → i < k → batchR l[i] = true) :
  Calls Tryz.prog 42 #[.agg #[.int .u64 e, .slice a n c], .int .i64 k, .agg #[.int .u64 x.epoch, .int .u64 x.base, .slice a' n' c']] w fun r w' => r = .returned (.bool (mayR e (prevB l k) x)) ∧ Below w.heap.size w w' := by
 obtain ⟨rfl, hm, _, _⟩ := sl_len hl
 have HL := hid hl; clear hl
 have HP := hid hp; clear hp
 by_cases h1 : e < x.epoch
 ·have hff : Hid (mayR e (prevB l k) x = false) := hid (by simp only [mayR]; rw [decide_eq_false (by omega)]; rfl)
  go_enter Tryz.func42, Tryz.ntmps42
  go_wp2
  go_ret
  exact ⟨by rw [hff.out]; rfl, by (repeat first | exact zR | assumption | apply zA | apply zS | apply zD | apply zN | refine zT (by assumption) ?_ | omega | simp <;> omega)⟩
 ·by_cases h2 : k = 0
  ·have hff : Hid (mayR e (prevB l k) x = true) := hid (by simp only [mayR]; rw [decide_eq_true (by omega), h2]; rfl)
   have e2 : ((k : Int) == 0) = true := by simp [h2]
   clear h2
   go_enter Tryz.func42, Tryz.ntmps42
   go_wp2
   go_ret
   exact ⟨by rw [hff.out]; rfl, by (repeat first | exact zR | assumption | apply zA | apply zS | apply zD | apply zN | refine zT (by assumption) ?_ | omega | simp <;> omega)⟩
  ·obtain ⟨m, rfl⟩ : ∃ m, k = m + 1 := ⟨k - 1, by omega⟩
   have hmb : m ≤ 9223372036854775807 := by omega
   obtain ⟨b, o, hA, hbb, a1, c1, hd0, hd1, hd2, r0, r1, hd⟩ := batch_at HL.out (show m < l.length by omega)
   have hpm : l[m].base + l[m].entries.length ≤ 18446744073709551615 := by have := batchR_fits (HP.out m (by omega) (by omega)); clear r0 r1; omega
   obtain ⟨_, hm2, _, _⟩ := sl_len hd
   have hprev : prevB l (m + 1) = some l[m] := by unfold prevB; rw [if_neg (by omega)]; simp [show m < l.length by omega]
   generalize hz : l[m] = z at *
   clear hz hd
   have hff : Hid (mayR e (prevB l (m + 1)) x = (decide (z.epoch ≤ x.epoch) && decide (z.base + z.entries.length ≤ x.base))) := hid (by simp only [mayR]; rw [decide_eq_true (by omega), hprev]; rfl)
   subst hA
   clear h2 hprev
   rw [show ((m + 1 : Nat) : Int) = (m : Int) + 1 from rfl]
   have e2 : ((m : Int) + 1 == 0) = false := by simp; omega
   have i2 : (0 : Int) ≤ (m : Int) := by omega
   have i3 : (m : Int) < (l.length : Int) := by omega
   by_cases g1 : z.epoch ≤ x.epoch
   ·have hf2 : Hid (mayR e (prevB l (m + 1)) x = decide (z.base + z.entries.length ≤ x.base)) := hid (by rw [hff.out, decide_eq_true g1]; rfl)
    go_enter Tryz.func42, Tryz.ntmps42
    go_wp2
    go_ret
    refine ⟨?_, by (repeat first | exact zR | assumption | apply zA | apply zS | apply zD | apply zN | refine zT (by assumption) ?_ | omega | simp <;> omega)⟩
    rw [hf2.out]; rfl
   ·have hf2 : Hid (mayR e (prevB l (m + 1)) x = false) := hid (by rw [hff.out, decide_eq_false g1]; rfl)
    go_enter Tryz.func42, Tryz.ntmps42
    go_wp2
    go_ret
    refine ⟨?_, by (repeat first | exact zR | assumption | apply zA | apply zS | apply zD | apply zN | refine zT (by assumption) ?_ | omega | simp <;> omega)⟩
    rw [hf2.out]; rfl
end Go.Proofs.YtkipiefcnjfdjaaGreat
