/- Needed by segmentJoins_walk, part 1: texts put together by shake.py; no condition. -/
import Derived.Test.YtkipiefcnjfdjaaGreatX1
import Derived.Deep.AppendLies
import Derived.Deep.RegionLaw
import Derived.Laws.IdiomStrings
import Derived.Laws.BytesArg
import Derived.Test.YtkipiefcnjfdjaaGreatRows
import Derived.ProofKit
import Derived.OpenShut
import Derived.Deep.Slices
import Derived.Lib.SmallJoins
import Derived.WalkKit
import Derived.WalkLawsBesides
import Derived.WalkSpells
import Derived.Outline
import Derived.BigQuiet
import Derived.Deep.QuietTactic
import Derived.Maps.AppendAt
import Derived.Laws.Bits64
import Derived.Lib.SlBytesConst
import Derived.StillTailTactics
import Derived.Maps.OwnOps
import Derived.Maps.Views
import Derived.Sort.QuietThIn
import Derived.Sort.BigQuietIn
import Derived.Sort.QuietTacIn
import Derived.RangeFuncNested
import Derived.RangeFuncBound
import Derived.RangeFuncCalls
import Derived.RangeFuncLeaves
import Derived.Shelf.Abstract
import Derived.Shelf.RegionOpen
import Derived.OwnWalkIn
import Derived.TacticsInMore
import Derived.LoopNIn
import Derived.LoopIn
import Derived.Maps.OwnIn
import Derived.StillTail
import Derived.RegionTactic
import Derived.OrdersHeld
import Derived.Deep.RegionHeld
import Derived.BigRegion
import Derived.Deep.Cut
import Derived.Deep.RegionHeld3
import Derived.IntWalk
import Derived.ScopeJumps
import Derived.WalkMore
import Derived.Laws.MakeOwn
import Derived.Lib.ConvBytes
import Derived.Laws.AppendOwn
import Derived.Laws.BitsAllLaws
namespace Go.Proofs.YtkipiefcnjfdjaaGreat
open Go.RowKit Go.Bs
set_option linter.unusedVariables false
set_option linter.unusedSimpArgs false
set_option maxHeartbeats 1600000 in
theorem segment_copy (ep : Int) (l : List Batch) (a : Option Addr) (n c : Nat) (w : World) (hl : rBatches.r (· < w.heap.size) w [.slice a n c] l) (hlen : l.length ≤ 1000000000000) (hb : ∀ z ∈ l, MildB z) :
    Calls Tryz.prog 60 #[.agg #[.int .u64 ep, .slice a n c]] w fun r w' => ∃ v, r = .returned (.agg #[.int .u64 ep, v]) ∧ rBatches.r (Fresh w w') w' [v] l ∧ Below w.heap.size w w' := by
  obtain ⟨rfl, hm, _, _⟩ := sl_len hl
  obtain ⟨i0, hi, hz0, hz1, hz2⟩ := info_parts infoBatch
  have HL := hid hl; clear hl
  have HB := hid hb; clear hb
  go_enter Tryz.func60, Tryz.ntmps60
  go_wp2_with fail
  refine wp_world (fun W => Below w.heap.size w W ∧ W.heap.size = w.heap.size + 2 ∧ Blk W w.heap.size 62 #[.int .u64 ep, .slice a l.length c] ∧ Blk W (w.heap.size + 1) 62 #[.int .u64 0, .slice none 0 0]) ⟨by (repeat (first | exact Below.refl _ _ | assumption | (refine below_alloc ?_ _) | (refine Below.setCell ?_ (by first | omega | (simp; done) | (simp; omega)) _) | (refine Below.drew ?_) | (refine below_drewN ?_ _) | (refine below_then (by assumption) ?_))), by simp, (Blk.new w _ _).alloc _, Blk.new1 w _ _ _⟩ ?_
  intro W ⟨hbW, hzW, q0, q1⟩
  have LT0 : w.heap.size < W.heap.size := by omega
  have LT1 : w.heap.size + 1 < W.heap.size := by omega
  have Q0 := hid q0; have Q1 := hid q1; clear q0 q1
  have HW := hid hzW; clear hzW
  go_loopw [3, 9] (fun v i wr => ∃ k : Nat, k ≤ l.length ∧ i = .int .i64 k ∧ OwnEls W.heap.size rBatch W.heap.size 25 3 wr v (l.take k) ∧ Below W.heap.size W wr) (fun _ i _ => l.length - (intOf i).toNat)
  case atStart => exact ⟨0, Nat.zero_le _, rfl, OwnEls.nil, Below.refl _ _⟩
  case round =>
    obtain ⟨k, hk, rfl, hown, hb⟩ := hrel
    have hbw := below_then hb hbW
    by_cases hlt : k < l.length
    · obtain ⟨b, o, hA, hbb, a1, c1, hc0, hc1, hc2, g0, g1, hd1⟩ := batch_at HL.out hlt
      subst hA
      have X0 := (hbw.cell (p := ⟨b, o + k * 3, none⟩) hbb).trans hc0
      have X1 := (hbw.cell (p := ⟨b, o + k * 3 + 1, none⟩) hbb).trans hc1
      have X2 := (hbw.cell (p := ⟨b, o + k * 3 + 2, none⟩) hbb).trans hc2
      clear hc0 hc1 hc2
      have htk := hid (List.take_succ_eq_append_getElem hlt)
      obtain ⟨m1, m3⟩ := HB.out _ (List.getElem_mem hlt)
      have R1 := hid (lift hd1 hbw)
      clear hd1
      generalize l[k] = z at *
      have M3 := hid m3; clear m3
      have htl : (l.take k).length = k := by simp; omega
      generalize hT : l.take k = T at *
      clear hT
      subst htl
      have OW := hid hown; clear hown
      have i1 : (T.length : Int) < (l.length : Int) := by omega
      go_wp2_with fail
      refine (batch_copy z _ _ _ _ (lift R1.out (by (repeat (first | exact Below.refl _ _ | assumption | (refine below_alloc ?_ _) | (refine Below.setCell ?_ (by first | omega | (simp; done) | (simp; omega)) _) | (refine Below.drew ?_) | (refine below_drewN ?_ _) | (refine below_then (by assumption) ?_))))) m1 M3.out).mono ?_
      rintro e w4 ⟨v1, rfl, hr4, hb4⟩
      have hbw4 : Below wr.heap.size wr w4 := by (repeat (first | exact Below.refl _ _ | assumption | (refine below_alloc ?_ _) | (refine Below.setCell ?_ (by first | omega | (simp; done) | (simp; omega)) _) | (refine Below.drew ?_) | (refine below_drewN ?_ _) | (refine below_then (by assumption) ?_)))
      have hz4 : wr.heap.size + 1 ≤ w4.heap.size := by have := hb4.size; simpa using this
      obtain ⟨a4, c4, hv4, _, _⟩ := sl_form hr4
      simp only [List.cons.injEq, and_true] at hv4
      subst hv4
      have O4 := OW.out.below hbw4
      have HR4 := hid (rEntries.mono hr4 (S' := fun b => wr.heap.size + 1 ≤ b ∧ b < w4.heap.size) fun b h => by simpa [Fresh] using h)
      clear hr4
      obtain ⟨cells0, OA0⟩ := OW.out
      have hlt0 : ∀ g, u3.ownBlock = some g → g < wr.heap.size := fun g e => (OA0.1.lt g e).2
      have O5 := O4.below (show Below w4.heap.size w4 (w4.alloc (.cells #[.int .u64 z.epoch, .int .u64 z.base, .slice a4 z.entries.length c4] 25)) from by (repeat (first | exact Below.refl _ _ | assumption | (refine below_alloc ?_ _) | (refine Below.setCell ?_ (by first | omega | (simp; done) | (simp; omega)) _) | (refine Below.drew ?_) | (refine below_drewN ?_ _) | (refine below_then (by assumption) ?_))))
      obtain ⟨cells, OA⟩ := O5
      have hx : rBatch.r (fun b => W.heap.size ≤ b ∧ b < ((w4.alloc (.cells #[.int .u64 z.epoch, .int .u64 z.base, .slice a4 z.entries.length c4] 25))).heap.size ∧ u3.ownBlock ≠ some b) (w4.alloc (.cells #[.int .u64 z.epoch, .int .u64 z.base, .slice a4 z.entries.length c4] 25)) [.int .u64 z.epoch, .int .u64 z.base, .slice a4 z.entries.length c4] z := by
        have hbs := hb.size
        refine batch_mk g0 g1 (rEntries.mono (rEntries.keep HR4.out fun b hb => Below.heap_alloc w4 _ b hb.2) fun b hb' => ⟨?_, ?_, fun e => ?_⟩)
        · omega
        · simp; omega
        · have := hlt0 b e; omega
      have hb9 : Below W.heap.size W (w4.alloc (.cells #[.int .u64 z.epoch, .int .u64 z.base, .slice a4 z.entries.length c4] 25)) := below_alloc (below_then hbw4 hb) _
      have HX := hid hx; clear hx
      have HS9 := hid hb9.size
      have HA := hid OA; clear OA OA0 O4 hlt0
      have HB9 := hid hb9; clear hb9
      go_wp2_with (at_builtin; go_loud (refine wpList_append_src rfl _ _ _ rfl W.heap.size 25 i0 (.agg #[.int .u64 0, .int .u64 0, .slice none 0 0]) 3 40 Tryz.underlying60 hi hz0 hz1 hz2 rfl (by decide) u3 T.length _ rfl HA.out.1 (some ⟨w4.heap.size, 0, none⟩) 1 1 [.int .u64 z.epoch, .int .u64 z.base, .slice a4 z.entries.length c4] rfl (src_new1 w4 25 _ rfl rfl rfl) (by intro u hu; simp at hu; rcases hu with rfl | rfl | rfl <;> rfl) (by simp only [maxLen]; omega) (by omega) HS9.out ?_; intro v1 w5 hown1 hgrow1 hat1; have OP := hid (OwnEls.push HA.out rfl HX.out hown1 hgrow1 hat1 hgrow1.size); have B5 := hid (HB9.out.grown hgrow1 HS9.out (fun g e => (HA.out.1.lt g e).1)); clear hown1 hgrow1 hat1))
      go_roundw
      case rel => exact ⟨T.length + 1, by omega, by go_num, by rw [htk.out]; exact OP.out, B5.out⟩
      case measure => simp [intOf]; omega
    · obtain rfl : k = l.length := by omega
      rw [List.take_length] at hown
      have hv := OwnEls.slice (Nat.le_refl _) hown
      obtain ⟨av, cv, hv1, _, _⟩ := sl_form hv
      simp only [List.cons.injEq, and_true] at hv1
      subst hv1
      have HV := hid hv; clear hv hown
      have P0 := Q0.out.below hb LT0
      have P1 := Q1.out.below hb LT1
      have y0 : wr.cell? ⟨w.heap.size, 0, none⟩ = some (.int .u64 ep) := P0.cell 0
      have y2 : wr.cell? ⟨w.heap.size, 1, none⟩ = some (.slice a l.length c) := P0.cell 1
      have y3 := P0.free 1
      have z0 : wr.cell? ⟨w.heap.size + 1, 0, none⟩ = some (.int .u64 0) := P1.cell 0
      have z2 : wr.cell? ⟨w.heap.size + 1, 1, none⟩ = some (.slice none 0 0) := P1.cell 1
      have f0 := P1.free 0
      have f1 := P1.free 1
      clear P0 P1
      go_wp2
      refine bodyPost_ret (v := .agg #[.int .u64 ep, .slice av l.length cv]) (by simp [results, Tryz.results60, go_sem, y0, y2, z0, z2]) rfl ⟨_, rfl, ?_, by (repeat (first | exact Below.refl _ _ | assumption | (refine below_alloc ?_ _) | (refine Below.setCell ?_ (by first | omega | (simp; done) | (simp; omega)) _) | (refine Below.drew ?_) | (refine below_drewN ?_ _) | (refine below_then (by assumption) ?_)))⟩
      have hw2 := HW.out
      refine rBatches.mono (rBatches.keep HV.out fun b hb => ?_) fun b hb => ⟨by omega, by simp; omega⟩
      repeat rw [Below.heap_setCell _ _ _ _ (by dsimp only; omega)]
end Go.Proofs.YtkipiefcnjfdjaaGreat
namespace Go.Proofs.YtkipiefcnjfdjaaGreat
open Go.RowKit Go.Bs
set_option linter.unusedVariables false
set_option linter.unusedSimpArgs false
def joinC (ea : Int) (la : List Batch) (eb : Int) (lb : List Batch) : Int := if segR ⟨ea, la⟩ = false ∨ segR ⟨eb, lb⟩ = false then 3 else if eb < ea ∨ (∃ h : 0 < lb.length, mayR eb (prevB la la.length) (lb[0]'h) = false) then 13 else if 16 < la.length + lb.length then 2 else 0
structure JoiI (w W : World) (ea : Int) (a : Option Addr) (n c : Nat) (eb : Int) (a' : Option Addr) (n' c' : Nat) : Prop where
  below : Below w.heap.size w W
  g : Blk W w.heap.size 62 #[.int .u64 ea, .slice a n c]
  x : Blk W (w.heap.size + 1) 62 #[.int .u64 eb, .slice a' n' c']
  r : Blk W (w.heap.size + 1 + 1) 62 #[.int .u64 0, .slice none 0 0]
section
variable {w W W' : World} {ea : Int} {a : Option Addr} {n c : Nat} {eb : Int} {a' : Option Addr} {n' c' : Nat}
theorem JoiI.later (h : JoiI w W ea a n c eb a' n' c') (hb : Below W.heap.size W W') : JoiI w W' ea a n c eb a' n' c' :=
  ⟨below_then hb h.below, h.g.later hb, h.x.later hb, h.r.later hb⟩
theorem JoiI.grown {v : Value} (h : JoiI w W ea a n c eb a' n' c') (hg : W.grownBy W' v.ownBlock) (hv : ∀ g, v.ownBlock = some g → w.heap.size + 3 ≤ g) : JoiI w W' ea a n c eb a' n' c' :=
  ⟨h.below.grown hg h.below.size (fun g e => by have := hv g e; omega), h.g.grown hg (fun e => by have := hv _ e.symm; omega), h.x.grown hg (fun e => by have := hv _ e.symm; omega), h.r.grown hg (fun e => by have := hv _ e.symm; omega)⟩
end
theorem seg_f1 (W : World) (x y : Value) : (Instr.field 62 (.agg #[x, y]) 1).run Tryz.prog W = .ok y W := by kernel_rfl
set_option maxRecDepth 100000 in
set_option maxHeartbeats 6400000 in
theorem segment_join (ea eb : Int) (la lb : List Batch) (a : Option Addr) (n c : Nat) (a' : Option Addr) (n' c' : Nat) (w : World) (h0a : 0 ≤ ea ∧ ea ≤ 18446744073709551615) (hla : rBatches.r (· < w.heap.size) w [.slice a n c] la) (h0b : 0 ≤ eb ∧ eb ≤ 18446744073709551615) (hlb : rBatches.r (· < w.heap.size) w [.slice a' n' c'] lb)
    (hfa : ∀ x ∈ la, Fair x.entries) (hfb : ∀ x ∈ lb, Fair x.entries) (hma : ∀ z ∈ la, MildB z) (hmb : ∀ z ∈ lb, MildB z) :
    Calls Tryz.prog 45 #[.agg #[.int .u64 ea, .slice a n c], .agg #[.int .u64 eb, .slice a' n' c']] w fun r w' => ∃ v e', r = .returned (.tuple #[.agg #[.int .u64 e', v], .int .i64 (joinC ea la eb lb)]) ∧ (e' = if joinC ea la eb lb = 0 then eb else 0) ∧ rBatches.r (Fresh w w') w' [v] (if joinC ea la eb lb = 0 then la ++ lb else []) ∧ Below w.heap.size w w' := by
  obtain ⟨rfl, hm, _, _⟩ := sl_len hla
  obtain ⟨rfl, hm2, _, _⟩ := sl_len hlb
  obtain ⟨i0, hi, hz0, hz1, hz2⟩ := info_parts infoBatch
  have kf := seg_f1
  have HR1 := hid (fun (W : World) (hW : Below w.heap.size w W) => segment_right ea la a _ c W h0a (lift hla hW) hfa)
  have HR2 := hid (fun (W : World) (hW : Below w.heap.size w W) => segment_right eb lb a' _ c' W h0b (lift hlb hW) hfb)
  have HL := hid hla
  have HE := hid hlb
  have HI0 : Hid (JoiI w (((w.alloc (.cells #[.int .u64 ea, .slice a la.length c] 62)).alloc (.cells #[.int .u64 eb, .slice a' lb.length c'] 62)).alloc (.cells #[.int .u64 0, .slice none 0 0] 62)) ea a la.length c eb a' lb.length c') := hid
    ⟨below_alloc (below_alloc (below_alloc (Below.refl _ _) _) _) _, ((Blk.new w _ _).alloc _).alloc _, (Blk.new1 w _ _ _).alloc _, Blk.newAt _ _ _ (by simp)⟩
  clear hla hlb
  cases hs1 : segR ⟨ea, la⟩
  · rw [hs1] at HR1
    have hC : Hid (joinC ea la eb lb = 3) := hid (by unfold joinC; rw [if_pos (.inl hs1)])
    simp only [hC.out, show ((3 : Int) = 0) = False from by decide, if_false]
    clear hs1
    go_enter Tryz.func45, Tryz.ntmps45
    go_wp2_with fail
    refine (HR1.out _ HI0.out.below).mono ?_
    rintro r w1 ⟨rfl, hb1'⟩
    have HI1 := hid (HI0.out.later hb1')
    clear hb1'
    have g0 : w1.cell? ⟨w.heap.size, 0, none⟩ = some (.int .u64 ea) := HI1.out.g.cell 0
    have g1 : w1.cell? ⟨w.heap.size, 1, none⟩ = some (.slice a la.length c) := HI1.out.g.cell 1
    have x0 : w1.cell? ⟨w.heap.size + 1, 0, none⟩ = some (.int .u64 eb) := HI1.out.x.cell 0
    have x1 : w1.cell? ⟨w.heap.size + 1, 1, none⟩ = some (.slice a' lb.length c') := HI1.out.x.cell 1
    have r0 : w1.cell? ⟨w.heap.size + 1 + 1, 0, none⟩ = some (.int .u64 0) := HI1.out.r.cell 0
    have r1 : w1.cell? ⟨w.heap.size + 1 + 1, 1, none⟩ = some (.slice none 0 0) := HI1.out.r.cell 1
    have f0 : w1.frozen? ⟨w.heap.size + 1 + 1, 0, none⟩ = false := HI1.out.r.free 0
    have f1 : w1.frozen? ⟨w.heap.size + 1 + 1, 1, none⟩ = false := HI1.out.r.free 1
    go_wp2
    refine bodyPost_ret (v := .tuple #[.agg #[.int .u64 0, .slice none 0 0], .int .i64 3]) (by simp [results, Tryz.results45, go_sem, World.cell?_setCell_far, r0, r1]) rfl ⟨_, _, rfl, rfl, rSl_mk (xs := []) rfl (Nat.le_refl _) (Nat.zero_le _) (.inl rfl), ?_⟩
    have hb9 := HI1.out.below
    exact (hb9.setCell (by dsimp only; omega) _).setCell (by dsimp only; omega) _
  · rw [hs1] at HR1
    cases hs2 : segR ⟨eb, lb⟩
    · rw [hs2] at HR2
      have hC : Hid (joinC ea la eb lb = 3) := hid (by unfold joinC; rw [if_pos (.inr hs2)])
      simp only [hC.out, show ((3 : Int) = 0) = False from by decide, if_false]
      clear hs1 hs2
      go_enter Tryz.func45, Tryz.ntmps45
      go_wp2_with fail
      refine (HR1.out _ HI0.out.below).mono ?_
      rintro r w1 ⟨rfl, hb1'⟩
      have HI1 := hid (HI0.out.later hb1')
      clear hb1'
      have g0 : w1.cell? ⟨w.heap.size, 0, none⟩ = some (.int .u64 ea) := HI1.out.g.cell 0
      have g1 : w1.cell? ⟨w.heap.size, 1, none⟩ = some (.slice a la.length c) := HI1.out.g.cell 1
      have x0 : w1.cell? ⟨w.heap.size + 1, 0, none⟩ = some (.int .u64 eb) := HI1.out.x.cell 0
      have x1 : w1.cell? ⟨w.heap.size + 1, 1, none⟩ = some (.slice a' lb.length c') := HI1.out.x.cell 1
      have r0 : w1.cell? ⟨w.heap.size + 1 + 1, 0, none⟩ = some (.int .u64 0) := HI1.out.r.cell 0
      have r1 : w1.cell? ⟨w.heap.size + 1 + 1, 1, none⟩ = some (.slice none 0 0) := HI1.out.r.cell 1
      have f0 : w1.frozen? ⟨w.heap.size + 1 + 1, 0, none⟩ = false := HI1.out.r.free 0
      have f1 : w1.frozen? ⟨w.heap.size + 1 + 1, 1, none⟩ = false := HI1.out.r.free 1
      go_wp2_with fail
      refine (HR2.out _ HI1.out.below).mono ?_
      rintro r w2 ⟨rfl, hb2'⟩
      clear g0 g1 x0 x1 r0 r1 f0 f1
      have HI2 := hid (HI1.out.later hb2')
      clear hb2'
      have g0 : w2.cell? ⟨w.heap.size, 0, none⟩ = some (.int .u64 ea) := HI2.out.g.cell 0
      have g1 : w2.cell? ⟨w.heap.size, 1, none⟩ = some (.slice a la.length c) := HI2.out.g.cell 1
      have x0 : w2.cell? ⟨w.heap.size + 1, 0, none⟩ = some (.int .u64 eb) := HI2.out.x.cell 0
      have x1 : w2.cell? ⟨w.heap.size + 1, 1, none⟩ = some (.slice a' lb.length c') := HI2.out.x.cell 1
      have r0 : w2.cell? ⟨w.heap.size + 1 + 1, 0, none⟩ = some (.int .u64 0) := HI2.out.r.cell 0
      have r1 : w2.cell? ⟨w.heap.size + 1 + 1, 1, none⟩ = some (.slice none 0 0) := HI2.out.r.cell 1
      have f0 : w2.frozen? ⟨w.heap.size + 1 + 1, 0, none⟩ = false := HI2.out.r.free 0
      have f1 : w2.frozen? ⟨w.heap.size + 1 + 1, 1, none⟩ = false := HI2.out.r.free 1
      go_wp2
      refine bodyPost_ret (v := .tuple #[.agg #[.int .u64 0, .slice none 0 0], .int .i64 3]) (by simp [results, Tryz.results45, go_sem, World.cell?_setCell_far, r0, r1]) rfl ⟨_, _, rfl, rfl, rSl_mk (xs := []) rfl (Nat.le_refl _) (Nat.zero_le _) (.inl rfl), ?_⟩
      have hb9 := HI2.out.below
      exact (hb9.setCell (by dsimp only; omega) _).setCell (by dsimp only; omega) _
    · rw [hs2] at HR2
      have hla16 : la.length ≤ 16 := (segR_facts hs1).2.1
      have hlb16 : lb.length ≤ 16 := (segR_facts hs2).2.1
      have halla := (segR_facts hs1).2.2
      have HCP := hid (fun (W : World) (hW : Below w.heap.size w W) => segment_copyO ea la a _ c W (lift HL.out hW) (by omega) hma)
      have HCB := hid (fun (W : World) (hW : Below w.heap.size w W) => segment_copy eb lb a' _ c' W (lift HE.out hW) (by omega) hmb)
      have hnot : ¬ (segR ⟨ea, la⟩ = false ∨ segR ⟨eb, lb⟩ = false) := by simp [hs1, hs2]
      clear hs1 hs2
      by_cases hlt : eb < ea
      · have hC : Hid (joinC ea la eb lb = 13) := hid (by unfold joinC; rw [if_neg hnot, if_pos (.inl hlt)])
        simp only [hC.out, show ((13 : Int) = 0) = False from by decide, if_false]
        have d1 : decide (eb < ea) = true := decide_eq_true hlt
        clear hnot halla hlt
        go_enter Tryz.func45, Tryz.ntmps45
        go_wp2_with fail
        refine (HR1.out _ HI0.out.below).mono ?_
        rintro r w1 ⟨rfl, hb1'⟩
        have HI1 := hid (HI0.out.later hb1')
        clear hb1'
        have g0 : w1.cell? ⟨w.heap.size, 0, none⟩ = some (.int .u64 ea) := HI1.out.g.cell 0
        have g1 : w1.cell? ⟨w.heap.size, 1, none⟩ = some (.slice a la.length c) := HI1.out.g.cell 1
        have x0 : w1.cell? ⟨w.heap.size + 1, 0, none⟩ = some (.int .u64 eb) := HI1.out.x.cell 0
        have x1 : w1.cell? ⟨w.heap.size + 1, 1, none⟩ = some (.slice a' lb.length c') := HI1.out.x.cell 1
        have r0 : w1.cell? ⟨w.heap.size + 1 + 1, 0, none⟩ = some (.int .u64 0) := HI1.out.r.cell 0
        have r1 : w1.cell? ⟨w.heap.size + 1 + 1, 1, none⟩ = some (.slice none 0 0) := HI1.out.r.cell 1
        have f0 : w1.frozen? ⟨w.heap.size + 1 + 1, 0, none⟩ = false := HI1.out.r.free 0
        have f1 : w1.frozen? ⟨w.heap.size + 1 + 1, 1, none⟩ = false := HI1.out.r.free 1
        go_wp2_with fail
        refine (HR2.out _ HI1.out.below).mono ?_
        rintro r w2 ⟨rfl, hb2'⟩
        clear g0 g1 x0 x1 r0 r1 f0 f1
        have HI2 := hid (HI1.out.later hb2')
        clear hb2'
        have g0 : w2.cell? ⟨w.heap.size, 0, none⟩ = some (.int .u64 ea) := HI2.out.g.cell 0
        have g1 : w2.cell? ⟨w.heap.size, 1, none⟩ = some (.slice a la.length c) := HI2.out.g.cell 1
        have x0 : w2.cell? ⟨w.heap.size + 1, 0, none⟩ = some (.int .u64 eb) := HI2.out.x.cell 0
        have x1 : w2.cell? ⟨w.heap.size + 1, 1, none⟩ = some (.slice a' lb.length c') := HI2.out.x.cell 1
        have r0 : w2.cell? ⟨w.heap.size + 1 + 1, 0, none⟩ = some (.int .u64 0) := HI2.out.r.cell 0
        have r1 : w2.cell? ⟨w.heap.size + 1 + 1, 1, none⟩ = some (.slice none 0 0) := HI2.out.r.cell 1
        have f0 : w2.frozen? ⟨w.heap.size + 1 + 1, 0, none⟩ = false := HI2.out.r.free 0
        have f1 : w2.frozen? ⟨w.heap.size + 1 + 1, 1, none⟩ = false := HI2.out.r.free 1
        go_wp2_with fail
        refine (HCP.out _ HI2.out.below).mono ?_
        rintro r w3 ⟨v3, rfl, ho3, hb3'⟩
        clear g0 g1 x0 x1 r0 r1 f0 f1
        have HI3 := hid (HI2.out.later hb3')
        obtain ⟨a3, c3, rfl⟩ := OwnEls.form ho3
        have HO3 := hid ho3
        have hzw2 : w.heap.size + 1 + 1 < w2.heap.size := HI2.out.r.lt
        have hzw4 : w.heap.size < w3.heap.size := HI3.out.g.lt
        have hzw5 : w.heap.size + 1 < w3.heap.size := HI3.out.x.lt
        have hzw6 : w.heap.size + 1 + 1 < w3.heap.size := HI3.out.r.lt
        have hzw3 : w2.heap.size ≤ w3.heap.size := hb3'.size
        clear ho3 hb3'
        have g0 : w3.cell? ⟨w.heap.size, 0, none⟩ = some (.int .u64 ea) := HI3.out.g.cell 0
        have g1 : w3.cell? ⟨w.heap.size, 1, none⟩ = some (.slice a la.length c) := HI3.out.g.cell 1
        have x0 : w3.cell? ⟨w.heap.size + 1, 0, none⟩ = some (.int .u64 eb) := HI3.out.x.cell 0
        have x1 : w3.cell? ⟨w.heap.size + 1, 1, none⟩ = some (.slice a' lb.length c') := HI3.out.x.cell 1
        have r0 : w3.cell? ⟨w.heap.size + 1 + 1, 0, none⟩ = some (.int .u64 0) := HI3.out.r.cell 0
        have r1 : w3.cell? ⟨w.heap.size + 1 + 1, 1, none⟩ = some (.slice none 0 0) := HI3.out.r.cell 1
        have f0 : w3.frozen? ⟨w.heap.size + 1 + 1, 0, none⟩ = false := HI3.out.r.free 0
        have f1 : w3.frozen? ⟨w.heap.size + 1 + 1, 1, none⟩ = false := HI3.out.r.free 1
        go_wp2_with fail
        clear g0 g1 x0 x1 r0 r1 f0 f1
        have hb35 : Below w3.heap.size w3 (w3.alloc (.cells #[.int .u64 eb, .slice a3 la.length c3] 62)) := by (repeat (first | with_reducible exact Below.refl _ _ | with_reducible assumption | (with_reducible refine below_alloc ?_ _) | (with_reducible refine Below.setCell ?_ (by first | omega | (simp; done) | (simp; omega)) _) | (with_reducible refine Below.drew ?_) | (with_reducible refine below_drewN ?_ _) | (refine below_then (by with_reducible assumption) ?_)))
        have hT5 := Blk.new w3 62 #[.int .u64 eb, .slice a3 la.length c3]
        generalize w3.alloc (.cells #[.int .u64 eb, .slice a3 la.length c3] 62) = W5 at *
        have HI5 := hid (HI3.out.later hb35)
        have HT5 := hid hT5
        have HB35 := hid hb35
        have hz5 : w3.heap.size < W5.heap.size := hT5.lt
        have HNT : Hid (∀ g, (Value.slice a3 la.length c3).ownBlock = some g → w2.heap.size ≤ g ∧ g < w3.heap.size) := hid (by obtain ⟨cells, OA⟩ := HO3.out; exact own_lt OA.1)
        have g0 : W5.cell? ⟨w.heap.size, 0, none⟩ = some (.int .u64 ea) := HI5.out.g.cell 0
        have x0 : W5.cell? ⟨w.heap.size + 1, 0, none⟩ = some (.int .u64 eb) := HI5.out.x.cell 0
        have x1 : W5.cell? ⟨w.heap.size + 1, 1, none⟩ = some (.slice a' lb.length c') := HI5.out.x.cell 1
        have t0 : W5.cell? ⟨w3.heap.size, 0, none⟩ = some (.int .u64 eb) := hT5.cell 0
        have t1 : W5.cell? ⟨w3.heap.size, 1, none⟩ = some (.slice a3 la.length c3) := hT5.cell 1
        have G0 := fun s : Later W5 => s.cell g0
        have X0 := fun s : Later W5 => s.cell x0
        have X1 := fun s : Later W5 => s.cell x1
        have T0 := fun s : Later W5 => s.cell t0
        have T1 := fun s : Later W5 => s.cell t1
        clear hT5 hb35 g0 x0 x1 t0 t1
        refine wp_region_later (by kernel_rfl) (by kernel_rfl) ?_
        repeat (go_big_quiet_step (fail))
        refine wpQuiet_nil ?_
        rintro W6 ⟨⟨W6', hb6⟩, rfl⟩
        have HI6 := hid (HI5.out.later hb6)
        have r0 : W6.cell? ⟨w.heap.size + 1 + 1, 0, none⟩ = some (.int .u64 0) := HI6.out.r.cell 0
        have r1 : W6.cell? ⟨w.heap.size + 1 + 1, 1, none⟩ = some (.slice none 0 0) := HI6.out.r.cell 1
        have f0 : W6.frozen? ⟨w.heap.size + 1 + 1, 0, none⟩ = false := HI6.out.r.free 0
        have f1 : W6.frozen? ⟨w.heap.size + 1 + 1, 1, none⟩ = false := HI6.out.r.free 1
        go_wp2
        refine bodyPost_ret (v := .tuple #[.agg #[.int .u64 0, .slice none 0 0], .int .i64 13]) (by simp [results, Tryz.results45, go_sem, World.cell?_setCell_far, r0, r1]) rfl ⟨_, _, rfl, rfl, rSl_mk (xs := []) rfl (Nat.le_refl _) (Nat.zero_le _) (.inl rfl), ?_⟩
        have hb9 := HI6.out.below
        exact (hb9.setCell (by dsimp only; omega) _).setCell (by dsimp only; omega) _
      · have d1 : decide (eb < ea) = false := decide_eq_false hlt
        rcases Nat.eq_zero_or_pos lb.length with hz | hz
        · have hno : ¬ (eb < ea ∨ (∃ h : 0 < lb.length, mayR eb (prevB la la.length) (lb[0]'h) = false)) := by
            rintro (h | ⟨h, _⟩)
            · exact hlt h
            · omega
          have hC : Hid (joinC ea la eb lb = 0) := hid (by unfold joinC; rw [if_neg hnot, if_neg hno, if_neg (by omega)])
          simp only [hC.out, eq_self, if_true]
          have d16 : decide ((16 : Int) < (la.length : Int)) = false := decide_eq_false (by omega)
          have d17 : decide (16 < la.length) = false := decide_eq_false (by omega)
          obtain rfl := List.eq_nil_of_length_eq_zero hz
          clear hnot halla hlt hno hz
          go_enter Tryz.func45, Tryz.ntmps45
          go_wp2_with fail
          refine (HR1.out _ HI0.out.below).mono ?_
          rintro r w1 ⟨rfl, hb1'⟩
          have HI1 := hid (HI0.out.later hb1')
          clear hb1'
          have g0 : w1.cell? ⟨w.heap.size, 0, none⟩ = some (.int .u64 ea) := HI1.out.g.cell 0
          have g1 : w1.cell? ⟨w.heap.size, 1, none⟩ = some (.slice a la.length c) := HI1.out.g.cell 1
          have x0 : w1.cell? ⟨w.heap.size + 1, 0, none⟩ = some (.int .u64 eb) := HI1.out.x.cell 0
          have x1 : w1.cell? ⟨w.heap.size + 1, 1, none⟩ = some (.slice a' 0 c') := HI1.out.x.cell 1
          have r0 : w1.cell? ⟨w.heap.size + 1 + 1, 0, none⟩ = some (.int .u64 0) := HI1.out.r.cell 0
          have r1 : w1.cell? ⟨w.heap.size + 1 + 1, 1, none⟩ = some (.slice none 0 0) := HI1.out.r.cell 1
          have f0 : w1.frozen? ⟨w.heap.size + 1 + 1, 0, none⟩ = false := HI1.out.r.free 0
          have f1 : w1.frozen? ⟨w.heap.size + 1 + 1, 1, none⟩ = false := HI1.out.r.free 1
          go_wp2_with fail
          refine (HR2.out _ HI1.out.below).mono ?_
          rintro r w2 ⟨rfl, hb2'⟩
          clear g0 g1 x0 x1 r0 r1 f0 f1
          have HI2 := hid (HI1.out.later hb2')
          clear hb2'
          have g0 : w2.cell? ⟨w.heap.size, 0, none⟩ = some (.int .u64 ea) := HI2.out.g.cell 0
          have g1 : w2.cell? ⟨w.heap.size, 1, none⟩ = some (.slice a la.length c) := HI2.out.g.cell 1
          have x0 : w2.cell? ⟨w.heap.size + 1, 0, none⟩ = some (.int .u64 eb) := HI2.out.x.cell 0
          have x1 : w2.cell? ⟨w.heap.size + 1, 1, none⟩ = some (.slice a' 0 c') := HI2.out.x.cell 1
          have r0 : w2.cell? ⟨w.heap.size + 1 + 1, 0, none⟩ = some (.int .u64 0) := HI2.out.r.cell 0
          have r1 : w2.cell? ⟨w.heap.size + 1 + 1, 1, none⟩ = some (.slice none 0 0) := HI2.out.r.cell 1
          have f0 : w2.frozen? ⟨w.heap.size + 1 + 1, 0, none⟩ = false := HI2.out.r.free 0
          have f1 : w2.frozen? ⟨w.heap.size + 1 + 1, 1, none⟩ = false := HI2.out.r.free 1
          go_wp2_with fail
          refine (HCP.out _ HI2.out.below).mono ?_
          rintro r w3 ⟨v3, rfl, ho3, hb3'⟩
          clear g0 g1 x0 x1 r0 r1 f0 f1
          have HI3 := hid (HI2.out.later hb3')
          obtain ⟨a3, c3, rfl⟩ := OwnEls.form ho3
          have HO3 := hid ho3
          have hzw2 : w.heap.size + 1 + 1 < w2.heap.size := HI2.out.r.lt
          have hzw4 : w.heap.size < w3.heap.size := HI3.out.g.lt
          have hzw5 : w.heap.size + 1 < w3.heap.size := HI3.out.x.lt
          have hzw6 : w.heap.size + 1 + 1 < w3.heap.size := HI3.out.r.lt
          have hzw3 : w2.heap.size ≤ w3.heap.size := hb3'.size
          clear ho3 hb3'
          have g0 : w3.cell? ⟨w.heap.size, 0, none⟩ = some (.int .u64 ea) := HI3.out.g.cell 0
          have g1 : w3.cell? ⟨w.heap.size, 1, none⟩ = some (.slice a la.length c) := HI3.out.g.cell 1
          have x0 : w3.cell? ⟨w.heap.size + 1, 0, none⟩ = some (.int .u64 eb) := HI3.out.x.cell 0
          have x1 : w3.cell? ⟨w.heap.size + 1, 1, none⟩ = some (.slice a' 0 c') := HI3.out.x.cell 1
          have r0 : w3.cell? ⟨w.heap.size + 1 + 1, 0, none⟩ = some (.int .u64 0) := HI3.out.r.cell 0
          have r1 : w3.cell? ⟨w.heap.size + 1 + 1, 1, none⟩ = some (.slice none 0 0) := HI3.out.r.cell 1
          have f0 : w3.frozen? ⟨w.heap.size + 1 + 1, 0, none⟩ = false := HI3.out.r.free 0
          have f1 : w3.frozen? ⟨w.heap.size + 1 + 1, 1, none⟩ = false := HI3.out.r.free 1
          go_wp2_with fail
          clear g0 g1 x0 x1 r0 r1 f0 f1
          have hb35 : Below w3.heap.size w3 (w3.alloc (.cells #[.int .u64 eb, .slice a3 la.length c3] 62)) := by (repeat (first | with_reducible exact Below.refl _ _ | with_reducible assumption | (with_reducible refine below_alloc ?_ _) | (with_reducible refine Below.setCell ?_ (by first | omega | (simp; done) | (simp; omega)) _) | (with_reducible refine Below.drew ?_) | (with_reducible refine below_drewN ?_ _) | (refine below_then (by with_reducible assumption) ?_)))
          have hT5 := Blk.new w3 62 #[.int .u64 eb, .slice a3 la.length c3]
          generalize w3.alloc (.cells #[.int .u64 eb, .slice a3 la.length c3] 62) = W5 at *
          have HI5 := hid (HI3.out.later hb35)
          have HT5 := hid hT5
          have HB35 := hid hb35
          have hz5 : w3.heap.size < W5.heap.size := hT5.lt
          have HNT : Hid (∀ g, (Value.slice a3 la.length c3).ownBlock = some g → w2.heap.size ≤ g ∧ g < w3.heap.size) := hid (by obtain ⟨cells, OA⟩ := HO3.out; exact own_lt OA.1)
          have g0 : W5.cell? ⟨w.heap.size, 0, none⟩ = some (.int .u64 ea) := HI5.out.g.cell 0
          have x0 : W5.cell? ⟨w.heap.size + 1, 0, none⟩ = some (.int .u64 eb) := HI5.out.x.cell 0
          have x1 : W5.cell? ⟨w.heap.size + 1, 1, none⟩ = some (.slice a' 0 c') := HI5.out.x.cell 1
          have t0 : W5.cell? ⟨w3.heap.size, 0, none⟩ = some (.int .u64 eb) := hT5.cell 0
          have t1 : W5.cell? ⟨w3.heap.size, 1, none⟩ = some (.slice a3 la.length c3) := hT5.cell 1
          have G0 := fun s : Later W5 => s.cell g0
          have X0 := fun s : Later W5 => s.cell x0
          have X1 := fun s : Later W5 => s.cell x1
          have T0 := fun s : Later W5 => s.cell t0
          have T1 := fun s : Later W5 => s.cell t1
          clear hT5 hb35 g0 x0 x1 t0 t1
          refine wp_region_later (by kernel_rfl) (by kernel_rfl) ?_
          repeat (go_big_quiet_step (fail))
          refine wpQuiet_nil ?_
          rintro W6 ⟨⟨W6', hb6⟩, rfl⟩
          have HI6 := hid (HI5.out.later hb6)
          have HT6 := hid (HT5.out.later hb6)
          have HB36 := hid (below_then hb6 HB35.out)
          have hz6 : W5.heap.size ≤ W6.heap.size := hb6.size
          clear G0 X0 X1 T0 T1 hb6
          have x0 : W6.cell? ⟨w.heap.size + 1, 0, none⟩ = some (.int .u64 eb) := HI6.out.x.cell 0
          have x1 : W6.cell? ⟨w.heap.size + 1, 1, none⟩ = some (.slice a' 0 c') := HI6.out.x.cell 1
          have t1 : W6.cell? ⟨w3.heap.size, 1, none⟩ = some (.slice a3 la.length c3) := HT6.out.cell 1
          go_wp2_with fail
          refine wp_region_last_held (fun w' => w'.cell? ⟨w3.heap.size, 1, none⟩ = some (.slice a3 la.length c3) ∧ w'.cell? ⟨w.heap.size + 1, 0, none⟩ = some (.int .u64 eb) ∧ w'.cell? ⟨w.heap.size + 1, 1, none⟩ = some (.slice a' 0 c')) _ (by kernel_rfl) rfl (by kernel_rfl) ⟨t1, x0, x1⟩ (fun hHeld => ?_)
          simp only [noopLast, noopOf]
          refine wpAnyH_take (i := 0) (oi := _) (v := ?_) rfl (by decide +kernel) (by decide +kernel) (by decide +kernel) (fun _ _ _ h => h) (Or.inl ⟨by rfl, ?_⟩) (by assumption) ?_
          rotate_left
          · (intro w hSw; (try dsimp only at hSw); go_simp <;> with_reducible rfl)
          (try simp only [Act.put, List.setIfInBounds_toArray, List.set_cons_zero, List.set_cons_succ])
          refine wpAnyH_take (i := 1) (oi := _) (v := ?_) rfl (by decide +kernel) (by decide +kernel) (by decide +kernel) (fun _ _ _ h => h) (Or.inl ⟨by rfl, ?_⟩) (by assumption) ?_
          rotate_left
          · (intro w hSw; (try dsimp only at hSw); go_simp <;> with_reducible rfl)
          (try simp only [Act.put, List.setIfInBounds_toArray, List.set_cons_zero, List.set_cons_succ])
          refine wpAnyH_take (i := 2) (oi := _) (v := ?_) rfl (by decide +kernel) (by decide +kernel) (by decide +kernel) (fun _ _ _ h => h) (Or.inl ⟨by rfl, ?_⟩) (by assumption) ?_
          rotate_left
          · (intro w hSw; (try dsimp only at hSw); go_simp <;> with_reducible rfl)
          (try simp only [Act.put, List.setIfInBounds_toArray, List.set_cons_zero, List.set_cons_succ])
          refine wpAnyH_ready (rs := [3]) (by decide +kernel) (by simp) ?_
          refine AllReadyH.cons (o := _) rfl (fun K hK => ?_) AllReadyH.nil
          (go_simp; go_at_call 60; refine (HCB.out _ HI6.out.below.drew).mono ?_; rintro e1 w7 ⟨v7, rfl, hv7, hb7⟩; obtain ⟨a7, c7, hfv, hr7, _⟩ := sl_form hv7; simp only [List.cons.injEq, and_true] at hfv; subst hfv; have hb67 : Below W6.heap.size W6 w7 := below_then hb7 (Below.refl _ _).drew; have HI7 := hid (HI6.out.later hb67); have HT7 := hid (HT6.out.later hb67); have HB37 := hid (below_then hb67 HB36.out); have p1 : w7.cell? ⟨w3.heap.size, 1, none⟩ = some (.slice a3 la.length c3) := HT7.out.cell 1; have q0 : w7.cell? ⟨w.heap.size + 1, 0, none⟩ = some (.int .u64 eb) := HI7.out.x.cell 0; have q1 : w7.cell? ⟨w.heap.size + 1, 1, none⟩ = some (.slice a' 0 c') := HI7.out.x.cell 1; have HR7 := hid (rBatches.mono (S' := fun q => W6.heap.size ≤ q ∧ q < w7.heap.size) hr7 fun q hq => by simpa [Fresh] using hq); have hz7 := hb67.size; clear hv7 hr7 hb7 hb67; (try dsimp only))
          refine hK.out _ _ ?_ (fun hHeld => ?_)
          · ((try dsimp only); refine ⟨?_, ?_, ?_⟩ <;> (first | assumption | (go_keep; done)))
          clear hK K
          (try simp only [Act.put, List.setIfInBounds_toArray, List.set_cons_zero, List.set_cons_succ])
          refine wpAnyH_take (i := 4) (oi := _) (v := ?_) rfl (by decide +kernel) (by decide +kernel) (by decide +kernel) (fun _ _ _ h => h) (Or.inl ⟨by rfl, ?_⟩) (by assumption) ?_
          rotate_left
          · (intro w hSw; (try dsimp only at hSw); go_simp <;> with_reducible rfl)
          (try simp only [Act.put, List.setIfInBounds_toArray, List.set_cons_zero, List.set_cons_succ])
          refine wpAnyH_ready (rs := [5]) (by decide +kernel) (by simp) ?_
          refine AllReadyH.cons (o := _) rfl (fun K hK => ?_) AllReadyH.nil
          (obtain ⟨cells2, hcl, hcs, hcr, hsr, hone⟩ := sl_cells HR7.out batch_one; obtain ⟨cells, OA3⟩ := HO3.out; have OF7 := ((OwnElsF.of OA3).keep (w' := w7) (fun q hq => HB37.out.block q hq.2) (fun g hg => HB37.out.block g (HNT.out g hg).2)).mono (F' := (fun q => (w2.heap.size ≤ q ∧ q < w3.heap.size) ∨ (W6.heap.size ≤ q ∧ q < w7.heap.size))) (fun q hq => .inl hq); have HOF := hid OF7; clear OF7 OA3; refine step_append_src (by rfl) _ _ _ (by rfl) w2.heap.size 25 i0 (.agg #[.int .u64 0, .int .u64 0, .slice none 0 0]) 3 40 Tryz.underlying60 hi hz0 hz1 hz2 rfl (by decide) (.slice a3 la.length c3) la.length cells.flatten (by rfl) HOF.out.1 a7 0 c7 cells2.flatten (by rfl) (hsr _ fun _ _ => rfl) hone (by simp only [maxLen]; omega) (by omega) (by omega) ?_; intro a8 c8 w8 hown8 hgrow8 hat8; have HP8 := hid (OwnElsF.app HOF.out (fun q hq => by rcases hq with hq | hq <;> omega) hcl hcs (fun i cs y hi hy => rBatch.mono (hcr i cs y hi hy) fun q hq => ⟨.inr hq, fun e => by have := (HNT.out q e).2; have := hq.1; omega⟩) hown8 hgrow8 hat8); have HA8 := hid hat8; have HI8 := hid (HI7.out.grown hgrow8 (fun g e => by have := (HNT.out g e).1; omega)); have HT8 := hid (HT7.out.grown hgrow8 (fun e => by have := (HNT.out _ e.symm).2; omega)); have m1 : w8.cell? ⟨w3.heap.size, 1, none⟩ = some (.slice a3 la.length c3) := HT8.out.cell 1; have m2 : w8.frozen? ⟨w3.heap.size, 1, none⟩ = false := HT8.out.free 1; have m3 : w8.cell? ⟨w3.heap.size, 0, none⟩ = some (.int .u64 eb) := HT8.out.cell 0; have m4 : w3.heap.size < w8.heap.size := HT8.out.lt; have n0 : w8.cell? ⟨w.heap.size + 1, 0, none⟩ = some (.int .u64 eb) := HI8.out.x.cell 0; have n1 : w8.cell? ⟨w.heap.size + 1, 1, none⟩ = some (.slice a' 0 c') := HI8.out.x.cell 1; have hz8 : w7.heap.size ≤ w8.heap.size := hgrow8.size; clear hown8 hgrow8 hat8 hcl hcs hcr hsr hone)
          refine hK.out _ _ ?_ (fun hHeld => ?_)
          · ((try dsimp only); refine ⟨?_, ?_, ?_⟩ <;> (first | assumption | (go_keep; done)))
          clear hK K
          (try simp only [Act.put, List.setIfInBounds_toArray, List.set_cons_zero, List.set_cons_succ])
          refine wpAnyH_take (i := 6) (oi := _) (v := ?_) rfl (by decide +kernel) (by decide +kernel) (by decide +kernel) (fun _ _ _ h => h) (Or.inl ⟨by rfl, ?_⟩) (by assumption) ?_
          rotate_left
          · (intro w hSw; (try dsimp only at hSw); go_simp <;> with_reducible rfl)
          (try simp only [Act.put, List.setIfInBounds_toArray, List.set_cons_zero, List.set_cons_succ])
          refine wpAnyH_take (i := 7) (oi := _) (v := ?_) rfl (by decide +kernel) (by decide +kernel) (by decide +kernel) (fun _ _ _ h => h) (Or.inl ⟨by rfl, ?_⟩) (by assumption) ?_
          rotate_left
          · (intro w hSw; (try dsimp only at hSw); go_simp <;> with_reducible rfl)
          (try simp only [Act.put, List.setIfInBounds_toArray, List.set_cons_zero, List.set_cons_succ])
          refine wpAnyH_done (by kernel_rfl) ?_ _
          show wpList _ _ _ _ _ _
          have r0 : w8.cell? ⟨w.heap.size + 1 + 1, 0, none⟩ = some (.int .u64 0) := HI8.out.r.cell 0
          have r1 : w8.cell? ⟨w.heap.size + 1 + 1, 1, none⟩ = some (.slice none 0 0) := HI8.out.r.cell 1
          have f0 : w8.frozen? ⟨w.heap.size + 1 + 1, 0, none⟩ = false := HI8.out.r.free 0
          have f1 : w8.frozen? ⟨w.heap.size + 1 + 1, 1, none⟩ = false := HI8.out.r.free 1
          have hrz : w.heap.size + 1 + 1 < w8.heap.size := HI8.out.r.lt
          have hne : w.heap.size + 1 + 1 ≠ w3.heap.size := by omega
          have HPL := hid (OwnElsF.slice HP8.out)
          skip
          go_wp2
          refine bodyPost_ret (v := .tuple #[.agg #[.int .u64 eb, .slice a8 (la.length) c8], .int .i64 0]) (by simp [results, Tryz.results45, go_sem, World.cell?_setCell_far, r0, r1, hne]) rfl ⟨_, _, rfl, rfl, ?_, ?_⟩
          · have hw : ∀ q, (((w2.heap.size ≤ q ∧ q < w3.heap.size) ∨ (W6.heap.size ≤ q ∧ q < w7.heap.size)) ∨ (Value.slice a8 (la.length) c8).ownBlock = some q) → w2.heap.size ≤ q ∧ q ≠ w3.heap.size ∧ q < w8.heap.size := fun q hq => by
              rcases hq with (hq | hq) | hq
              · omega
              · omega
              · have h1 := own_lt HP8.out.1 q hq
                refine ⟨h1.1, ?_, h1.2⟩
                rcases HA8.out with e | e
                · have := HNT.out q (e.symm.trans hq); omega
                · have := Option.some.inj (hq.symm.trans e); omega
            refine rBatches.mono (rBatches.keep HPL.out fun q hq => ?_) fun q hq => ?_
            · have := hw q hq
              rw [Below.heap_setCell _ _ _ _ (by dsimp only; omega), Below.heap_setCell _ _ _ _ (by dsimp only; omega), Below.heap_setCell _ _ _ _ (by dsimp only; omega)]
            · have := hw q hq
              exact ⟨by omega, by simp; omega⟩
          · have hb9 := HI8.out.below
            exact ((hb9.setCell (by dsimp only; omega) _).setCell (by dsimp only; omega) _).setCell (by dsimp only; omega) _
        · cases hmy : mayR eb (prevB la la.length) (lb[0]'hz)
          · have hyes : eb < ea ∨ (∃ h : 0 < lb.length, mayR eb (prevB la la.length) (lb[0]'h) = false) := .inr ⟨hz, hmy⟩
            have hC : Hid (joinC ea la eb lb = 13) := hid (by unfold joinC; rw [if_neg hnot, if_pos hyes])
            simp only [hC.out, show ((13 : Int) = 0) = False from by decide, if_false]
            have d2 : decide ((0 : Int) < (lb.length : Int)) = true := decide_eq_true (by omega)
            have d3 : decide (0 < lb.length) = true := decide_eq_true hz
            have hi1 : 0 < lb.length := hz
            have hi0 : (0 : Int) < (lb.length : Int) := by omega
            obtain ⟨bb, o, hAA, hbb, a0, c0, k0, k1, k2, _, _, _⟩ := batch_at HE.out hz
            simp only [Nat.zero_mul, Nat.add_zero] at k0 k1 k2
            have hAA' := hAA
            generalize lb[0] = b0 at *
            have HFW := hid (fun (W : World) (a3 : Option Addr) (c3 : Nat) (h : rBatches.r (· < W.heap.size) W [.slice a3 la.length c3] la) => seg_follows eb la b0 a3 a0 _ c3 b0.entries.length c0 W h (fun p hp => by have := (batchR_facts (halla p hp)).2.2.2.2.1; omega))
            rw [hmy] at HFW
            subst hAA
            have hbbw : bb < w.heap.size := hbb
            clear hnot halla hlt hz hAA' hmy hyes
            go_enter Tryz.func45, Tryz.ntmps45
            go_wp2_with fail
            refine (HR1.out _ HI0.out.below).mono ?_
            rintro r w1 ⟨rfl, hb1'⟩
            have HI1 := hid (HI0.out.later hb1')
            clear hb1'
            have g0 : w1.cell? ⟨w.heap.size, 0, none⟩ = some (.int .u64 ea) := HI1.out.g.cell 0
            have g1 : w1.cell? ⟨w.heap.size, 1, none⟩ = some (.slice a la.length c) := HI1.out.g.cell 1
            have x0 : w1.cell? ⟨w.heap.size + 1, 0, none⟩ = some (.int .u64 eb) := HI1.out.x.cell 0
            have x1 : w1.cell? ⟨w.heap.size + 1, 1, none⟩ = some (.slice (some ⟨bb, o, none⟩) lb.length c') := HI1.out.x.cell 1
            have r0 : w1.cell? ⟨w.heap.size + 1 + 1, 0, none⟩ = some (.int .u64 0) := HI1.out.r.cell 0
            have r1 : w1.cell? ⟨w.heap.size + 1 + 1, 1, none⟩ = some (.slice none 0 0) := HI1.out.r.cell 1
            have f0 : w1.frozen? ⟨w.heap.size + 1 + 1, 0, none⟩ = false := HI1.out.r.free 0
            have f1 : w1.frozen? ⟨w.heap.size + 1 + 1, 1, none⟩ = false := HI1.out.r.free 1
            go_wp2_with fail
            refine (HR2.out _ HI1.out.below).mono ?_
            rintro r w2 ⟨rfl, hb2'⟩
            clear g0 g1 x0 x1 r0 r1 f0 f1
            have HI2 := hid (HI1.out.later hb2')
            clear hb2'
            have g0 : w2.cell? ⟨w.heap.size, 0, none⟩ = some (.int .u64 ea) := HI2.out.g.cell 0
            have g1 : w2.cell? ⟨w.heap.size, 1, none⟩ = some (.slice a la.length c) := HI2.out.g.cell 1
            have x0 : w2.cell? ⟨w.heap.size + 1, 0, none⟩ = some (.int .u64 eb) := HI2.out.x.cell 0
            have x1 : w2.cell? ⟨w.heap.size + 1, 1, none⟩ = some (.slice (some ⟨bb, o, none⟩) lb.length c') := HI2.out.x.cell 1
            have r0 : w2.cell? ⟨w.heap.size + 1 + 1, 0, none⟩ = some (.int .u64 0) := HI2.out.r.cell 0
            have r1 : w2.cell? ⟨w.heap.size + 1 + 1, 1, none⟩ = some (.slice none 0 0) := HI2.out.r.cell 1
            have f0 : w2.frozen? ⟨w.heap.size + 1 + 1, 0, none⟩ = false := HI2.out.r.free 0
            have f1 : w2.frozen? ⟨w.heap.size + 1 + 1, 1, none⟩ = false := HI2.out.r.free 1
            go_wp2_with fail
            refine (HCP.out _ HI2.out.below).mono ?_
            rintro r w3 ⟨v3, rfl, ho3, hb3'⟩
            clear g0 g1 x0 x1 r0 r1 f0 f1
            have HI3 := hid (HI2.out.later hb3')
            obtain ⟨a3, c3, rfl⟩ := OwnEls.form ho3
            have HO3 := hid ho3
            have hzw2 : w.heap.size + 1 + 1 < w2.heap.size := HI2.out.r.lt
            have hzw4 : w.heap.size < w3.heap.size := HI3.out.g.lt
            have hzw5 : w.heap.size + 1 < w3.heap.size := HI3.out.x.lt
            have hzw6 : w.heap.size + 1 + 1 < w3.heap.size := HI3.out.r.lt
            have hzw3 : w2.heap.size ≤ w3.heap.size := hb3'.size
            clear ho3 hb3'
            have g0 : w3.cell? ⟨w.heap.size, 0, none⟩ = some (.int .u64 ea) := HI3.out.g.cell 0
            have g1 : w3.cell? ⟨w.heap.size, 1, none⟩ = some (.slice a la.length c) := HI3.out.g.cell 1
            have x0 : w3.cell? ⟨w.heap.size + 1, 0, none⟩ = some (.int .u64 eb) := HI3.out.x.cell 0
            have x1 : w3.cell? ⟨w.heap.size + 1, 1, none⟩ = some (.slice (some ⟨bb, o, none⟩) lb.length c') := HI3.out.x.cell 1
            have r0 : w3.cell? ⟨w.heap.size + 1 + 1, 0, none⟩ = some (.int .u64 0) := HI3.out.r.cell 0
            have r1 : w3.cell? ⟨w.heap.size + 1 + 1, 1, none⟩ = some (.slice none 0 0) := HI3.out.r.cell 1
            have f0 : w3.frozen? ⟨w.heap.size + 1 + 1, 0, none⟩ = false := HI3.out.r.free 0
            have f1 : w3.frozen? ⟨w.heap.size + 1 + 1, 1, none⟩ = false := HI3.out.r.free 1
            go_wp2_with fail
            clear g0 g1 x0 x1 r0 r1 f0 f1
            have hb35 : Below w3.heap.size w3 (w3.alloc (.cells #[.int .u64 eb, .slice a3 la.length c3] 62)) := by (repeat (first | with_reducible exact Below.refl _ _ | with_reducible assumption | (with_reducible refine below_alloc ?_ _) | (with_reducible refine Below.setCell ?_ (by first | omega | (simp; done) | (simp; omega)) _) | (with_reducible refine Below.drew ?_) | (with_reducible refine below_drewN ?_ _) | (refine below_then (by with_reducible assumption) ?_)))
            have hT5 := Blk.new w3 62 #[.int .u64 eb, .slice a3 la.length c3]
            generalize w3.alloc (.cells #[.int .u64 eb, .slice a3 la.length c3] 62) = W5 at *
            have HI5 := hid (HI3.out.later hb35)
            have HT5 := hid hT5
            have HB35 := hid hb35
            have hz5 : w3.heap.size < W5.heap.size := hT5.lt
            have HNT : Hid (∀ g, (Value.slice a3 la.length c3).ownBlock = some g → w2.heap.size ≤ g ∧ g < w3.heap.size) := hid (by obtain ⟨cells, OA⟩ := HO3.out; exact own_lt OA.1)
            have g0 : W5.cell? ⟨w.heap.size, 0, none⟩ = some (.int .u64 ea) := HI5.out.g.cell 0
            have x0 : W5.cell? ⟨w.heap.size + 1, 0, none⟩ = some (.int .u64 eb) := HI5.out.x.cell 0
            have x1 : W5.cell? ⟨w.heap.size + 1, 1, none⟩ = some (.slice (some ⟨bb, o, none⟩) lb.length c') := HI5.out.x.cell 1
            have t0 : W5.cell? ⟨w3.heap.size, 0, none⟩ = some (.int .u64 eb) := hT5.cell 0
            have t1 : W5.cell? ⟨w3.heap.size, 1, none⟩ = some (.slice a3 la.length c3) := hT5.cell 1
            have G0 := fun s : Later W5 => s.cell g0
            have X0 := fun s : Later W5 => s.cell x0
            have X1 := fun s : Later W5 => s.cell x1
            have T0 := fun s : Later W5 => s.cell t0
            have T1 := fun s : Later W5 => s.cell t1
            clear hT5 hb35 g0 x0 x1 t0 t1
            have K0 := fun s : Later W5 => s.cell ((HI5.out.below.cell (p := ⟨bb, o, none⟩) hbbw).trans k0)
            have K1 := fun s : Later W5 => s.cell ((HI5.out.below.cell (p := ⟨bb, o + 1, none⟩) hbbw).trans k1)
            have K2 := fun s : Later W5 => s.cell ((HI5.out.below.cell (p := ⟨bb, o + 2, none⟩) hbbw).trans k2)
            have HV5 := hid (lift (rBatches.mono (S' := (· < w3.heap.size)) (OwnEls.slice (Nat.le_refl _) HO3.out) fun q hq => hq.2) HB35.out)
            have HF := hid (fun s : Later W5 => HFW.out s.at_ a3 c3 (lift HV5.out s.below))
            clear k0 k1 k2
            refine wp_region_later (by kernel_rfl) (by kernel_rfl) ?_
            repeat (go_big_quiet_step ((go_at_call 106; exact later_of (HF.out _))))
            refine wpQuiet_nil ?_
            rintro W6 ⟨⟨W6', hb6⟩, rfl⟩
            have HI6 := hid (HI5.out.later hb6)
            have r0 : W6.cell? ⟨w.heap.size + 1 + 1, 0, none⟩ = some (.int .u64 0) := HI6.out.r.cell 0
            have r1 : W6.cell? ⟨w.heap.size + 1 + 1, 1, none⟩ = some (.slice none 0 0) := HI6.out.r.cell 1
            have f0 : W6.frozen? ⟨w.heap.size + 1 + 1, 0, none⟩ = false := HI6.out.r.free 0
            have f1 : W6.frozen? ⟨w.heap.size + 1 + 1, 1, none⟩ = false := HI6.out.r.free 1
            go_wp2
            refine bodyPost_ret (v := .tuple #[.agg #[.int .u64 0, .slice none 0 0], .int .i64 13]) (by simp [results, Tryz.results45, go_sem, World.cell?_setCell_far, r0, r1]) rfl ⟨_, _, rfl, rfl, rSl_mk (xs := []) rfl (Nat.le_refl _) (Nat.zero_le _) (.inl rfl), ?_⟩
            have hb9 := HI6.out.below
            exact (hb9.setCell (by dsimp only; omega) _).setCell (by dsimp only; omega) _
          · have hno : ¬ (eb < ea ∨ (∃ h : 0 < lb.length, mayR eb (prevB la la.length) (lb[0]'h) = false)) := by
              rintro (h | ⟨h, h2⟩)
              · exact hlt h
              · rw [hmy] at h2; cases h2
            by_cases h16 : 16 < la.length + lb.length
            · have hC : Hid (joinC ea la eb lb = 2) := hid (by unfold joinC; rw [if_neg hnot, if_neg hno, if_pos h16])
              simp only [hC.out, show ((2 : Int) = 0) = False from by decide, if_false]
              have d16 : decide ((16 : Int) < (la.length : Int) + (lb.length : Int)) = true := decide_eq_true (by omega)
              have d2 : decide ((0 : Int) < (lb.length : Int)) = true := decide_eq_true (by omega)
              have d3 : decide (0 < lb.length) = true := decide_eq_true hz
              have hi1 : 0 < lb.length := hz
              have hi0 : (0 : Int) < (lb.length : Int) := by omega
              obtain ⟨bb, o, hAA, hbb, a0, c0, k0, k1, k2, _, _, _⟩ := batch_at HE.out hz
              simp only [Nat.zero_mul, Nat.add_zero] at k0 k1 k2
              have hAA' := hAA
              generalize lb[0] = b0 at *
              have HFW := hid (fun (W : World) (a3 : Option Addr) (c3 : Nat) (h : rBatches.r (· < W.heap.size) W [.slice a3 la.length c3] la) => seg_follows eb la b0 a3 a0 _ c3 b0.entries.length c0 W h (fun p hp => by have := (batchR_facts (halla p hp)).2.2.2.2.1; omega))
              rw [hmy] at HFW
              subst hAA
              have hbbw : bb < w.heap.size := hbb
              clear hnot halla hlt hz hAA' hmy hno h16
              go_enter Tryz.func45, Tryz.ntmps45
              go_wp2_with fail
              refine (HR1.out _ HI0.out.below).mono ?_
              rintro r w1 ⟨rfl, hb1'⟩
              have HI1 := hid (HI0.out.later hb1')
              clear hb1'
              have g0 : w1.cell? ⟨w.heap.size, 0, none⟩ = some (.int .u64 ea) := HI1.out.g.cell 0
              have g1 : w1.cell? ⟨w.heap.size, 1, none⟩ = some (.slice a la.length c) := HI1.out.g.cell 1
              have x0 : w1.cell? ⟨w.heap.size + 1, 0, none⟩ = some (.int .u64 eb) := HI1.out.x.cell 0
              have x1 : w1.cell? ⟨w.heap.size + 1, 1, none⟩ = some (.slice (some ⟨bb, o, none⟩) lb.length c') := HI1.out.x.cell 1
              have r0 : w1.cell? ⟨w.heap.size + 1 + 1, 0, none⟩ = some (.int .u64 0) := HI1.out.r.cell 0
              have r1 : w1.cell? ⟨w.heap.size + 1 + 1, 1, none⟩ = some (.slice none 0 0) := HI1.out.r.cell 1
              have f0 : w1.frozen? ⟨w.heap.size + 1 + 1, 0, none⟩ = false := HI1.out.r.free 0
              have f1 : w1.frozen? ⟨w.heap.size + 1 + 1, 1, none⟩ = false := HI1.out.r.free 1
              go_wp2_with fail
              refine (HR2.out _ HI1.out.below).mono ?_
              rintro r w2 ⟨rfl, hb2'⟩
              clear g0 g1 x0 x1 r0 r1 f0 f1
              have HI2 := hid (HI1.out.later hb2')
              clear hb2'
              have g0 : w2.cell? ⟨w.heap.size, 0, none⟩ = some (.int .u64 ea) := HI2.out.g.cell 0
              have g1 : w2.cell? ⟨w.heap.size, 1, none⟩ = some (.slice a la.length c) := HI2.out.g.cell 1
              have x0 : w2.cell? ⟨w.heap.size + 1, 0, none⟩ = some (.int .u64 eb) := HI2.out.x.cell 0
              have x1 : w2.cell? ⟨w.heap.size + 1, 1, none⟩ = some (.slice (some ⟨bb, o, none⟩) lb.length c') := HI2.out.x.cell 1
              have r0 : w2.cell? ⟨w.heap.size + 1 + 1, 0, none⟩ = some (.int .u64 0) := HI2.out.r.cell 0
              have r1 : w2.cell? ⟨w.heap.size + 1 + 1, 1, none⟩ = some (.slice none 0 0) := HI2.out.r.cell 1
              have f0 : w2.frozen? ⟨w.heap.size + 1 + 1, 0, none⟩ = false := HI2.out.r.free 0
              have f1 : w2.frozen? ⟨w.heap.size + 1 + 1, 1, none⟩ = false := HI2.out.r.free 1
              go_wp2_with fail
              refine (HCP.out _ HI2.out.below).mono ?_
              rintro r w3 ⟨v3, rfl, ho3, hb3'⟩
              clear g0 g1 x0 x1 r0 r1 f0 f1
              have HI3 := hid (HI2.out.later hb3')
              obtain ⟨a3, c3, rfl⟩ := OwnEls.form ho3
              have HO3 := hid ho3
              have hzw2 : w.heap.size + 1 + 1 < w2.heap.size := HI2.out.r.lt
              have hzw4 : w.heap.size < w3.heap.size := HI3.out.g.lt
              have hzw5 : w.heap.size + 1 < w3.heap.size := HI3.out.x.lt
              have hzw6 : w.heap.size + 1 + 1 < w3.heap.size := HI3.out.r.lt
              have hzw3 : w2.heap.size ≤ w3.heap.size := hb3'.size
              clear ho3 hb3'
              have g0 : w3.cell? ⟨w.heap.size, 0, none⟩ = some (.int .u64 ea) := HI3.out.g.cell 0
              have g1 : w3.cell? ⟨w.heap.size, 1, none⟩ = some (.slice a la.length c) := HI3.out.g.cell 1
              have x0 : w3.cell? ⟨w.heap.size + 1, 0, none⟩ = some (.int .u64 eb) := HI3.out.x.cell 0
              have x1 : w3.cell? ⟨w.heap.size + 1, 1, none⟩ = some (.slice (some ⟨bb, o, none⟩) lb.length c') := HI3.out.x.cell 1
              have r0 : w3.cell? ⟨w.heap.size + 1 + 1, 0, none⟩ = some (.int .u64 0) := HI3.out.r.cell 0
              have r1 : w3.cell? ⟨w.heap.size + 1 + 1, 1, none⟩ = some (.slice none 0 0) := HI3.out.r.cell 1
              have f0 : w3.frozen? ⟨w.heap.size + 1 + 1, 0, none⟩ = false := HI3.out.r.free 0
              have f1 : w3.frozen? ⟨w.heap.size + 1 + 1, 1, none⟩ = false := HI3.out.r.free 1
              go_wp2_with fail
              clear g0 g1 x0 x1 r0 r1 f0 f1
              have hb35 : Below w3.heap.size w3 (w3.alloc (.cells #[.int .u64 eb, .slice a3 la.length c3] 62)) := by (repeat (first | with_reducible exact Below.refl _ _ | with_reducible assumption | (with_reducible refine below_alloc ?_ _) | (with_reducible refine Below.setCell ?_ (by first | omega | (simp; done) | (simp; omega)) _) | (with_reducible refine Below.drew ?_) | (with_reducible refine below_drewN ?_ _) | (refine below_then (by with_reducible assumption) ?_)))
              have hT5 := Blk.new w3 62 #[.int .u64 eb, .slice a3 la.length c3]
              generalize w3.alloc (.cells #[.int .u64 eb, .slice a3 la.length c3] 62) = W5 at *
              have HI5 := hid (HI3.out.later hb35)
              have HT5 := hid hT5
              have HB35 := hid hb35
              have hz5 : w3.heap.size < W5.heap.size := hT5.lt
              have HNT : Hid (∀ g, (Value.slice a3 la.length c3).ownBlock = some g → w2.heap.size ≤ g ∧ g < w3.heap.size) := hid (by obtain ⟨cells, OA⟩ := HO3.out; exact own_lt OA.1)
              have g0 : W5.cell? ⟨w.heap.size, 0, none⟩ = some (.int .u64 ea) := HI5.out.g.cell 0
              have x0 : W5.cell? ⟨w.heap.size + 1, 0, none⟩ = some (.int .u64 eb) := HI5.out.x.cell 0
              have x1 : W5.cell? ⟨w.heap.size + 1, 1, none⟩ = some (.slice (some ⟨bb, o, none⟩) lb.length c') := HI5.out.x.cell 1
              have t0 : W5.cell? ⟨w3.heap.size, 0, none⟩ = some (.int .u64 eb) := hT5.cell 0
              have t1 : W5.cell? ⟨w3.heap.size, 1, none⟩ = some (.slice a3 la.length c3) := hT5.cell 1
              have G0 := fun s : Later W5 => s.cell g0
              have X0 := fun s : Later W5 => s.cell x0
              have X1 := fun s : Later W5 => s.cell x1
              have T0 := fun s : Later W5 => s.cell t0
              have T1 := fun s : Later W5 => s.cell t1
              clear hT5 hb35 g0 x0 x1 t0 t1
              have K0 := fun s : Later W5 => s.cell ((HI5.out.below.cell (p := ⟨bb, o, none⟩) hbbw).trans k0)
              have K1 := fun s : Later W5 => s.cell ((HI5.out.below.cell (p := ⟨bb, o + 1, none⟩) hbbw).trans k1)
              have K2 := fun s : Later W5 => s.cell ((HI5.out.below.cell (p := ⟨bb, o + 2, none⟩) hbbw).trans k2)
              have HV5 := hid (lift (rBatches.mono (S' := (· < w3.heap.size)) (OwnEls.slice (Nat.le_refl _) HO3.out) fun q hq => hq.2) HB35.out)
              have HF := hid (fun s : Later W5 => HFW.out s.at_ a3 c3 (lift HV5.out s.below))
              clear k0 k1 k2
              refine wp_region_later (by kernel_rfl) (by kernel_rfl) ?_
              repeat (go_big_quiet_step ((go_at_call 106; exact later_of (HF.out _))))
              refine wpQuiet_nil ?_
              rintro W6 ⟨⟨W6', hb6⟩, rfl⟩
              have HI6 := hid (HI5.out.later hb6)
              have HT6 := hid (HT5.out.later hb6)
              have HB36 := hid (below_then hb6 HB35.out)
              have hz6 : W5.heap.size ≤ W6.heap.size := hb6.size
              clear G0 X0 X1 T0 T1 hb6
              have x0 : W6.cell? ⟨w.heap.size + 1, 0, none⟩ = some (.int .u64 eb) := HI6.out.x.cell 0
              have x1 : W6.cell? ⟨w.heap.size + 1, 1, none⟩ = some (.slice (some ⟨bb, o, none⟩) lb.length c') := HI6.out.x.cell 1
              have t1 : W6.cell? ⟨w3.heap.size, 1, none⟩ = some (.slice a3 la.length c3) := HT6.out.cell 1
              go_wp2_with fail
              refine wp_region_last_held (fun w' => w'.cell? ⟨w3.heap.size, 1, none⟩ = some (.slice a3 la.length c3) ∧ w'.cell? ⟨w.heap.size + 1, 0, none⟩ = some (.int .u64 eb) ∧ w'.cell? ⟨w.heap.size + 1, 1, none⟩ = some (.slice (some ⟨bb, o, none⟩) lb.length c')) _ (by kernel_rfl) rfl (by kernel_rfl) ⟨t1, x0, x1⟩ (fun hHeld => ?_)
              simp only [noopLast, noopOf]
              refine wpAnyH_take (i := 0) (oi := _) (v := ?_) rfl (by decide +kernel) (by decide +kernel) (by decide +kernel) (fun _ _ _ h => h) (Or.inl ⟨by rfl, ?_⟩) (by assumption) ?_
              rotate_left
              · (intro w hSw; (try dsimp only at hSw); go_simp <;> with_reducible rfl)
              (try simp only [Act.put, List.setIfInBounds_toArray, List.set_cons_zero, List.set_cons_succ])
              refine wpAnyH_take (i := 1) (oi := _) (v := ?_) rfl (by decide +kernel) (by decide +kernel) (by decide +kernel) (fun _ _ _ h => h) (Or.inl ⟨by rfl, ?_⟩) (by assumption) ?_
              rotate_left
              · (intro w hSw; (try dsimp only at hSw); go_simp <;> with_reducible rfl)
              (try simp only [Act.put, List.setIfInBounds_toArray, List.set_cons_zero, List.set_cons_succ])
              refine wpAnyH_take (i := 2) (oi := _) (v := ?_) rfl (by decide +kernel) (by decide +kernel) (by decide +kernel) (fun _ _ _ h => h) (Or.inl ⟨by rfl, ?_⟩) (by assumption) ?_
              rotate_left
              · (intro w hSw; (try dsimp only at hSw); go_simp <;> with_reducible rfl)
              (try simp only [Act.put, List.setIfInBounds_toArray, List.set_cons_zero, List.set_cons_succ])
              refine wpAnyH_ready (rs := [3]) (by decide +kernel) (by simp) ?_
              refine AllReadyH.cons (o := _) rfl (fun K hK => ?_) AllReadyH.nil
              (go_simp; go_at_call 60; refine (HCB.out _ HI6.out.below.drew).mono ?_; rintro e1 w7 ⟨v7, rfl, hv7, hb7⟩; obtain ⟨a7, c7, hfv, hr7, _⟩ := sl_form hv7; simp only [List.cons.injEq, and_true] at hfv; subst hfv; have hb67 : Below W6.heap.size W6 w7 := below_then hb7 (Below.refl _ _).drew; have HI7 := hid (HI6.out.later hb67); have HT7 := hid (HT6.out.later hb67); have HB37 := hid (below_then hb67 HB36.out); have p1 : w7.cell? ⟨w3.heap.size, 1, none⟩ = some (.slice a3 la.length c3) := HT7.out.cell 1; have q0 : w7.cell? ⟨w.heap.size + 1, 0, none⟩ = some (.int .u64 eb) := HI7.out.x.cell 0; have q1 : w7.cell? ⟨w.heap.size + 1, 1, none⟩ = some (.slice (some ⟨bb, o, none⟩) lb.length c') := HI7.out.x.cell 1; have HR7 := hid (rBatches.mono (S' := fun q => W6.heap.size ≤ q ∧ q < w7.heap.size) hr7 fun q hq => by simpa [Fresh] using hq); have hz7 := hb67.size; clear hv7 hr7 hb7 hb67; (try dsimp only))
              refine hK.out _ _ ?_ (fun hHeld => ?_)
              · ((try dsimp only); refine ⟨?_, ?_, ?_⟩ <;> (first | assumption | (go_keep; done)))
              clear hK K
              (try simp only [Act.put, List.setIfInBounds_toArray, List.set_cons_zero, List.set_cons_succ])
              refine wpAnyH_take (i := 4) (oi := _) (v := ?_) rfl (by decide +kernel) (by decide +kernel) (by decide +kernel) (fun _ _ _ h => h) (Or.inl ⟨by rfl, ?_⟩) (by assumption) ?_
              rotate_left
              · (intro w hSw; (try dsimp only at hSw); go_simp <;> with_reducible rfl)
              (try simp only [Act.put, List.setIfInBounds_toArray, List.set_cons_zero, List.set_cons_succ])
              refine wpAnyH_ready (rs := [5]) (by decide +kernel) (by simp) ?_
              refine AllReadyH.cons (o := _) rfl (fun K hK => ?_) AllReadyH.nil
              (obtain ⟨cells2, hcl, hcs, hcr, hsr, hone⟩ := sl_cells HR7.out batch_one; obtain ⟨cells, OA3⟩ := HO3.out; have OF7 := ((OwnElsF.of OA3).keep (w' := w7) (fun q hq => HB37.out.block q hq.2) (fun g hg => HB37.out.block g (HNT.out g hg).2)).mono (F' := (fun q => (w2.heap.size ≤ q ∧ q < w3.heap.size) ∨ (W6.heap.size ≤ q ∧ q < w7.heap.size))) (fun q hq => .inl hq); have HOF := hid OF7; clear OF7 OA3; refine step_append_src (by rfl) _ _ _ (by rfl) w2.heap.size 25 i0 (.agg #[.int .u64 0, .int .u64 0, .slice none 0 0]) 3 40 Tryz.underlying60 hi hz0 hz1 hz2 rfl (by decide) (.slice a3 la.length c3) la.length cells.flatten (by rfl) HOF.out.1 a7 lb.length c7 cells2.flatten (by rfl) (hsr _ fun _ _ => rfl) hone (by simp only [maxLen]; omega) (by omega) (by omega) ?_; intro a8 c8 w8 hown8 hgrow8 hat8; have HP8 := hid (OwnElsF.app HOF.out (fun q hq => by rcases hq with hq | hq <;> omega) hcl hcs (fun i cs y hi hy => rBatch.mono (hcr i cs y hi hy) fun q hq => ⟨.inr hq, fun e => by have := (HNT.out q e).2; have := hq.1; omega⟩) hown8 hgrow8 hat8); have HA8 := hid hat8; have HI8 := hid (HI7.out.grown hgrow8 (fun g e => by have := (HNT.out g e).1; omega)); have HT8 := hid (HT7.out.grown hgrow8 (fun e => by have := (HNT.out _ e.symm).2; omega)); have m1 : w8.cell? ⟨w3.heap.size, 1, none⟩ = some (.slice a3 la.length c3) := HT8.out.cell 1; have m2 : w8.frozen? ⟨w3.heap.size, 1, none⟩ = false := HT8.out.free 1; have m3 : w8.cell? ⟨w3.heap.size, 0, none⟩ = some (.int .u64 eb) := HT8.out.cell 0; have m4 : w3.heap.size < w8.heap.size := HT8.out.lt; have n0 : w8.cell? ⟨w.heap.size + 1, 0, none⟩ = some (.int .u64 eb) := HI8.out.x.cell 0; have n1 : w8.cell? ⟨w.heap.size + 1, 1, none⟩ = some (.slice (some ⟨bb, o, none⟩) lb.length c') := HI8.out.x.cell 1; have hz8 : w7.heap.size ≤ w8.heap.size := hgrow8.size; clear hown8 hgrow8 hat8 hcl hcs hcr hsr hone)
              refine hK.out _ _ ?_ (fun hHeld => ?_)
              · ((try dsimp only); refine ⟨?_, ?_, ?_⟩ <;> (first | assumption | (go_keep; done)))
              clear hK K
              (try simp only [Act.put, List.setIfInBounds_toArray, List.set_cons_zero, List.set_cons_succ])
              refine wpAnyH_take (i := 6) (oi := _) (v := ?_) rfl (by decide +kernel) (by decide +kernel) (by decide +kernel) (fun _ _ _ h => h) (Or.inl ⟨by rfl, ?_⟩) (by assumption) ?_
              rotate_left
              · (intro w hSw; (try dsimp only at hSw); go_simp <;> with_reducible rfl)
              (try simp only [Act.put, List.setIfInBounds_toArray, List.set_cons_zero, List.set_cons_succ])
              refine wpAnyH_take (i := 7) (oi := _) (v := ?_) rfl (by decide +kernel) (by decide +kernel) (by decide +kernel) (fun _ _ _ h => h) (Or.inl ⟨by rfl, ?_⟩) (by assumption) ?_
              rotate_left
              · (intro w hSw; (try dsimp only at hSw); go_simp <;> with_reducible rfl)
              (try simp only [Act.put, List.setIfInBounds_toArray, List.set_cons_zero, List.set_cons_succ])
              refine wpAnyH_done (by kernel_rfl) ?_ _
              show wpList _ _ _ _ _ _
              have r0 : w8.cell? ⟨w.heap.size + 1 + 1, 0, none⟩ = some (.int .u64 0) := HI8.out.r.cell 0
              have r1 : w8.cell? ⟨w.heap.size + 1 + 1, 1, none⟩ = some (.slice none 0 0) := HI8.out.r.cell 1
              have f0 : w8.frozen? ⟨w.heap.size + 1 + 1, 0, none⟩ = false := HI8.out.r.free 0
              have f1 : w8.frozen? ⟨w.heap.size + 1 + 1, 1, none⟩ = false := HI8.out.r.free 1
              have hrz : w.heap.size + 1 + 1 < w8.heap.size := HI8.out.r.lt
              have hne : w.heap.size + 1 + 1 ≠ w3.heap.size := by omega
              go_wp2
              refine bodyPost_ret (v := .tuple #[.agg #[.int .u64 0, .slice none 0 0], .int .i64 2]) (by simp [results, Tryz.results45, go_sem, World.cell?_setCell_far, r0, r1, hne]) rfl ⟨_, _, rfl, rfl, rSl_mk (xs := []) rfl (Nat.le_refl _) (Nat.zero_le _) (.inl rfl), ?_⟩
              have hb9 := HI8.out.below
              exact ((hb9.setCell (by dsimp only; omega) _).setCell (by dsimp only; omega) _).setCell (by dsimp only; omega) _
            · have hC : Hid (joinC ea la eb lb = 0) := hid (by unfold joinC; rw [if_neg hnot, if_neg hno, if_neg h16])
              simp only [hC.out, eq_self, if_true]
              have d16 : decide ((16 : Int) < (la.length : Int) + (lb.length : Int)) = false := decide_eq_false (by omega)
              have d2 : decide ((0 : Int) < (lb.length : Int)) = true := decide_eq_true (by omega)
              have d3 : decide (0 < lb.length) = true := decide_eq_true hz
              have hi1 : 0 < lb.length := hz
              have hi0 : (0 : Int) < (lb.length : Int) := by omega
              obtain ⟨bb, o, hAA, hbb, a0, c0, k0, k1, k2, _, _, _⟩ := batch_at HE.out hz
              simp only [Nat.zero_mul, Nat.add_zero] at k0 k1 k2
              have hAA' := hAA
              generalize lb[0] = b0 at *
              have HFW := hid (fun (W : World) (a3 : Option Addr) (c3 : Nat) (h : rBatches.r (· < W.heap.size) W [.slice a3 la.length c3] la) => seg_follows eb la b0 a3 a0 _ c3 b0.entries.length c0 W h (fun p hp => by have := (batchR_facts (halla p hp)).2.2.2.2.1; omega))
              rw [hmy] at HFW
              subst hAA
              have hbbw : bb < w.heap.size := hbb
              clear hnot halla hlt hz hAA' hmy hno h16
              go_enter Tryz.func45, Tryz.ntmps45
              go_wp2_with fail
              refine (HR1.out _ HI0.out.below).mono ?_
              rintro r w1 ⟨rfl, hb1'⟩
              have HI1 := hid (HI0.out.later hb1')
              clear hb1'
              have g0 : w1.cell? ⟨w.heap.size, 0, none⟩ = some (.int .u64 ea) := HI1.out.g.cell 0
              have g1 : w1.cell? ⟨w.heap.size, 1, none⟩ = some (.slice a la.length c) := HI1.out.g.cell 1
              have x0 : w1.cell? ⟨w.heap.size + 1, 0, none⟩ = some (.int .u64 eb) := HI1.out.x.cell 0
              have x1 : w1.cell? ⟨w.heap.size + 1, 1, none⟩ = some (.slice (some ⟨bb, o, none⟩) lb.length c') := HI1.out.x.cell 1
              have r0 : w1.cell? ⟨w.heap.size + 1 + 1, 0, none⟩ = some (.int .u64 0) := HI1.out.r.cell 0
              have r1 : w1.cell? ⟨w.heap.size + 1 + 1, 1, none⟩ = some (.slice none 0 0) := HI1.out.r.cell 1
              have f0 : w1.frozen? ⟨w.heap.size + 1 + 1, 0, none⟩ = false := HI1.out.r.free 0
              have f1 : w1.frozen? ⟨w.heap.size + 1 + 1, 1, none⟩ = false := HI1.out.r.free 1
              go_wp2_with fail
              refine (HR2.out _ HI1.out.below).mono ?_
              rintro r w2 ⟨rfl, hb2'⟩
              clear g0 g1 x0 x1 r0 r1 f0 f1
              have HI2 := hid (HI1.out.later hb2')
              clear hb2'
              have g0 : w2.cell? ⟨w.heap.size, 0, none⟩ = some (.int .u64 ea) := HI2.out.g.cell 0
              have g1 : w2.cell? ⟨w.heap.size, 1, none⟩ = some (.slice a la.length c) := HI2.out.g.cell 1
              have x0 : w2.cell? ⟨w.heap.size + 1, 0, none⟩ = some (.int .u64 eb) := HI2.out.x.cell 0
              have x1 : w2.cell? ⟨w.heap.size + 1, 1, none⟩ = some (.slice (some ⟨bb, o, none⟩) lb.length c') := HI2.out.x.cell 1
              have r0 : w2.cell? ⟨w.heap.size + 1 + 1, 0, none⟩ = some (.int .u64 0) := HI2.out.r.cell 0
              have r1 : w2.cell? ⟨w.heap.size + 1 + 1, 1, none⟩ = some (.slice none 0 0) := HI2.out.r.cell 1
              have f0 : w2.frozen? ⟨w.heap.size + 1 + 1, 0, none⟩ = false := HI2.out.r.free 0
              have f1 : w2.frozen? ⟨w.heap.size + 1 + 1, 1, none⟩ = false := HI2.out.r.free 1
              go_wp2_with fail
              refine (HCP.out _ HI2.out.below).mono ?_
              rintro r w3 ⟨v3, rfl, ho3, hb3'⟩
              clear g0 g1 x0 x1 r0 r1 f0 f1
              have HI3 := hid (HI2.out.later hb3')
              obtain ⟨a3, c3, rfl⟩ := OwnEls.form ho3
              have HO3 := hid ho3
              have hzw2 : w.heap.size + 1 + 1 < w2.heap.size := HI2.out.r.lt
              have hzw4 : w.heap.size < w3.heap.size := HI3.out.g.lt
              have hzw5 : w.heap.size + 1 < w3.heap.size := HI3.out.x.lt
              have hzw6 : w.heap.size + 1 + 1 < w3.heap.size := HI3.out.r.lt
              have hzw3 : w2.heap.size ≤ w3.heap.size := hb3'.size
              clear ho3 hb3'
              have g0 : w3.cell? ⟨w.heap.size, 0, none⟩ = some (.int .u64 ea) := HI3.out.g.cell 0
              have g1 : w3.cell? ⟨w.heap.size, 1, none⟩ = some (.slice a la.length c) := HI3.out.g.cell 1
              have x0 : w3.cell? ⟨w.heap.size + 1, 0, none⟩ = some (.int .u64 eb) := HI3.out.x.cell 0
              have x1 : w3.cell? ⟨w.heap.size + 1, 1, none⟩ = some (.slice (some ⟨bb, o, none⟩) lb.length c') := HI3.out.x.cell 1
              have r0 : w3.cell? ⟨w.heap.size + 1 + 1, 0, none⟩ = some (.int .u64 0) := HI3.out.r.cell 0
              have r1 : w3.cell? ⟨w.heap.size + 1 + 1, 1, none⟩ = some (.slice none 0 0) := HI3.out.r.cell 1
              have f0 : w3.frozen? ⟨w.heap.size + 1 + 1, 0, none⟩ = false := HI3.out.r.free 0
              have f1 : w3.frozen? ⟨w.heap.size + 1 + 1, 1, none⟩ = false := HI3.out.r.free 1
              go_wp2_with fail
              clear g0 g1 x0 x1 r0 r1 f0 f1
              have hb35 : Below w3.heap.size w3 (w3.alloc (.cells #[.int .u64 eb, .slice a3 la.length c3] 62)) := by (repeat (first | with_reducible exact Below.refl _ _ | with_reducible assumption | (with_reducible refine below_alloc ?_ _) | (with_reducible refine Below.setCell ?_ (by first | omega | (simp; done) | (simp; omega)) _) | (with_reducible refine Below.drew ?_) | (with_reducible refine below_drewN ?_ _) | (refine below_then (by with_reducible assumption) ?_)))
              have hT5 := Blk.new w3 62 #[.int .u64 eb, .slice a3 la.length c3]
              generalize w3.alloc (.cells #[.int .u64 eb, .slice a3 la.length c3] 62) = W5 at *
              have HI5 := hid (HI3.out.later hb35)
              have HT5 := hid hT5
              have HB35 := hid hb35
              have hz5 : w3.heap.size < W5.heap.size := hT5.lt
              have HNT : Hid (∀ g, (Value.slice a3 la.length c3).ownBlock = some g → w2.heap.size ≤ g ∧ g < w3.heap.size) := hid (by obtain ⟨cells, OA⟩ := HO3.out; exact own_lt OA.1)
              have g0 : W5.cell? ⟨w.heap.size, 0, none⟩ = some (.int .u64 ea) := HI5.out.g.cell 0
              have x0 : W5.cell? ⟨w.heap.size + 1, 0, none⟩ = some (.int .u64 eb) := HI5.out.x.cell 0
              have x1 : W5.cell? ⟨w.heap.size + 1, 1, none⟩ = some (.slice (some ⟨bb, o, none⟩) lb.length c') := HI5.out.x.cell 1
              have t0 : W5.cell? ⟨w3.heap.size, 0, none⟩ = some (.int .u64 eb) := hT5.cell 0
              have t1 : W5.cell? ⟨w3.heap.size, 1, none⟩ = some (.slice a3 la.length c3) := hT5.cell 1
              have G0 := fun s : Later W5 => s.cell g0
              have X0 := fun s : Later W5 => s.cell x0
              have X1 := fun s : Later W5 => s.cell x1
              have T0 := fun s : Later W5 => s.cell t0
              have T1 := fun s : Later W5 => s.cell t1
              clear hT5 hb35 g0 x0 x1 t0 t1
              have K0 := fun s : Later W5 => s.cell ((HI5.out.below.cell (p := ⟨bb, o, none⟩) hbbw).trans k0)
              have K1 := fun s : Later W5 => s.cell ((HI5.out.below.cell (p := ⟨bb, o + 1, none⟩) hbbw).trans k1)
              have K2 := fun s : Later W5 => s.cell ((HI5.out.below.cell (p := ⟨bb, o + 2, none⟩) hbbw).trans k2)
              have HV5 := hid (lift (rBatches.mono (S' := (· < w3.heap.size)) (OwnEls.slice (Nat.le_refl _) HO3.out) fun q hq => hq.2) HB35.out)
              have HF := hid (fun s : Later W5 => HFW.out s.at_ a3 c3 (lift HV5.out s.below))
              clear k0 k1 k2
              refine wp_region_later (by kernel_rfl) (by kernel_rfl) ?_
              repeat (go_big_quiet_step ((go_at_call 106; exact later_of (HF.out _))))
              refine wpQuiet_nil ?_
              rintro W6 ⟨⟨W6', hb6⟩, rfl⟩
              have HI6 := hid (HI5.out.later hb6)
              have HT6 := hid (HT5.out.later hb6)
              have HB36 := hid (below_then hb6 HB35.out)
              have hz6 : W5.heap.size ≤ W6.heap.size := hb6.size
              clear G0 X0 X1 T0 T1 hb6
              have x0 : W6.cell? ⟨w.heap.size + 1, 0, none⟩ = some (.int .u64 eb) := HI6.out.x.cell 0
              have x1 : W6.cell? ⟨w.heap.size + 1, 1, none⟩ = some (.slice (some ⟨bb, o, none⟩) lb.length c') := HI6.out.x.cell 1
              have t1 : W6.cell? ⟨w3.heap.size, 1, none⟩ = some (.slice a3 la.length c3) := HT6.out.cell 1
              go_wp2_with fail
              refine wp_region_last_held (fun w' => w'.cell? ⟨w3.heap.size, 1, none⟩ = some (.slice a3 la.length c3) ∧ w'.cell? ⟨w.heap.size + 1, 0, none⟩ = some (.int .u64 eb) ∧ w'.cell? ⟨w.heap.size + 1, 1, none⟩ = some (.slice (some ⟨bb, o, none⟩) lb.length c')) _ (by kernel_rfl) rfl (by kernel_rfl) ⟨t1, x0, x1⟩ (fun hHeld => ?_)
              simp only [noopLast, noopOf]
              refine wpAnyH_take (i := 0) (oi := _) (v := ?_) rfl (by decide +kernel) (by decide +kernel) (by decide +kernel) (fun _ _ _ h => h) (Or.inl ⟨by rfl, ?_⟩) (by assumption) ?_
              rotate_left
              · (intro w hSw; (try dsimp only at hSw); go_simp <;> with_reducible rfl)
              (try simp only [Act.put, List.setIfInBounds_toArray, List.set_cons_zero, List.set_cons_succ])
              refine wpAnyH_take (i := 1) (oi := _) (v := ?_) rfl (by decide +kernel) (by decide +kernel) (by decide +kernel) (fun _ _ _ h => h) (Or.inl ⟨by rfl, ?_⟩) (by assumption) ?_
              rotate_left
              · (intro w hSw; (try dsimp only at hSw); go_simp <;> with_reducible rfl)
              (try simp only [Act.put, List.setIfInBounds_toArray, List.set_cons_zero, List.set_cons_succ])
              refine wpAnyH_take (i := 2) (oi := _) (v := ?_) rfl (by decide +kernel) (by decide +kernel) (by decide +kernel) (fun _ _ _ h => h) (Or.inl ⟨by rfl, ?_⟩) (by assumption) ?_
              rotate_left
              · (intro w hSw; (try dsimp only at hSw); go_simp <;> with_reducible rfl)
              (try simp only [Act.put, List.setIfInBounds_toArray, List.set_cons_zero, List.set_cons_succ])
              refine wpAnyH_ready (rs := [3]) (by decide +kernel) (by simp) ?_
              refine AllReadyH.cons (o := _) rfl (fun K hK => ?_) AllReadyH.nil
              (go_simp; go_at_call 60; refine (HCB.out _ HI6.out.below.drew).mono ?_; rintro e1 w7 ⟨v7, rfl, hv7, hb7⟩; obtain ⟨a7, c7, hfv, hr7, _⟩ := sl_form hv7; simp only [List.cons.injEq, and_true] at hfv; subst hfv; have hb67 : Below W6.heap.size W6 w7 := below_then hb7 (Below.refl _ _).drew; have HI7 := hid (HI6.out.later hb67); have HT7 := hid (HT6.out.later hb67); have HB37 := hid (below_then hb67 HB36.out); have p1 : w7.cell? ⟨w3.heap.size, 1, none⟩ = some (.slice a3 la.length c3) := HT7.out.cell 1; have q0 : w7.cell? ⟨w.heap.size + 1, 0, none⟩ = some (.int .u64 eb) := HI7.out.x.cell 0; have q1 : w7.cell? ⟨w.heap.size + 1, 1, none⟩ = some (.slice (some ⟨bb, o, none⟩) lb.length c') := HI7.out.x.cell 1; have HR7 := hid (rBatches.mono (S' := fun q => W6.heap.size ≤ q ∧ q < w7.heap.size) hr7 fun q hq => by simpa [Fresh] using hq); have hz7 := hb67.size; clear hv7 hr7 hb7 hb67; (try dsimp only))
              refine hK.out _ _ ?_ (fun hHeld => ?_)
              · ((try dsimp only); refine ⟨?_, ?_, ?_⟩ <;> (first | assumption | (go_keep; done)))
              clear hK K
              (try simp only [Act.put, List.setIfInBounds_toArray, List.set_cons_zero, List.set_cons_succ])
              refine wpAnyH_take (i := 4) (oi := _) (v := ?_) rfl (by decide +kernel) (by decide +kernel) (by decide +kernel) (fun _ _ _ h => h) (Or.inl ⟨by rfl, ?_⟩) (by assumption) ?_
              rotate_left
              · (intro w hSw; (try dsimp only at hSw); go_simp <;> with_reducible rfl)
              (try simp only [Act.put, List.setIfInBounds_toArray, List.set_cons_zero, List.set_cons_succ])
              refine wpAnyH_ready (rs := [5]) (by decide +kernel) (by simp) ?_
              refine AllReadyH.cons (o := _) rfl (fun K hK => ?_) AllReadyH.nil
              (obtain ⟨cells2, hcl, hcs, hcr, hsr, hone⟩ := sl_cells HR7.out batch_one; obtain ⟨cells, OA3⟩ := HO3.out; have OF7 := ((OwnElsF.of OA3).keep (w' := w7) (fun q hq => HB37.out.block q hq.2) (fun g hg => HB37.out.block g (HNT.out g hg).2)).mono (F' := (fun q => (w2.heap.size ≤ q ∧ q < w3.heap.size) ∨ (W6.heap.size ≤ q ∧ q < w7.heap.size))) (fun q hq => .inl hq); have HOF := hid OF7; clear OF7 OA3; refine step_append_src (by rfl) _ _ _ (by rfl) w2.heap.size 25 i0 (.agg #[.int .u64 0, .int .u64 0, .slice none 0 0]) 3 40 Tryz.underlying60 hi hz0 hz1 hz2 rfl (by decide) (.slice a3 la.length c3) la.length cells.flatten (by rfl) HOF.out.1 a7 lb.length c7 cells2.flatten (by rfl) (hsr _ fun _ _ => rfl) hone (by simp only [maxLen]; omega) (by omega) (by omega) ?_; intro a8 c8 w8 hown8 hgrow8 hat8; have HP8 := hid (OwnElsF.app HOF.out (fun q hq => by rcases hq with hq | hq <;> omega) hcl hcs (fun i cs y hi hy => rBatch.mono (hcr i cs y hi hy) fun q hq => ⟨.inr hq, fun e => by have := (HNT.out q e).2; have := hq.1; omega⟩) hown8 hgrow8 hat8); have HA8 := hid hat8; have HI8 := hid (HI7.out.grown hgrow8 (fun g e => by have := (HNT.out g e).1; omega)); have HT8 := hid (HT7.out.grown hgrow8 (fun e => by have := (HNT.out _ e.symm).2; omega)); have m1 : w8.cell? ⟨w3.heap.size, 1, none⟩ = some (.slice a3 la.length c3) := HT8.out.cell 1; have m2 : w8.frozen? ⟨w3.heap.size, 1, none⟩ = false := HT8.out.free 1; have m3 : w8.cell? ⟨w3.heap.size, 0, none⟩ = some (.int .u64 eb) := HT8.out.cell 0; have m4 : w3.heap.size < w8.heap.size := HT8.out.lt; have n0 : w8.cell? ⟨w.heap.size + 1, 0, none⟩ = some (.int .u64 eb) := HI8.out.x.cell 0; have n1 : w8.cell? ⟨w.heap.size + 1, 1, none⟩ = some (.slice (some ⟨bb, o, none⟩) lb.length c') := HI8.out.x.cell 1; have hz8 : w7.heap.size ≤ w8.heap.size := hgrow8.size; clear hown8 hgrow8 hat8 hcl hcs hcr hsr hone)
              refine hK.out _ _ ?_ (fun hHeld => ?_)
              · ((try dsimp only); refine ⟨?_, ?_, ?_⟩ <;> (first | assumption | (go_keep; done)))
              clear hK K
              (try simp only [Act.put, List.setIfInBounds_toArray, List.set_cons_zero, List.set_cons_succ])
              refine wpAnyH_take (i := 6) (oi := _) (v := ?_) rfl (by decide +kernel) (by decide +kernel) (by decide +kernel) (fun _ _ _ h => h) (Or.inl ⟨by rfl, ?_⟩) (by assumption) ?_
              rotate_left
              · (intro w hSw; (try dsimp only at hSw); go_simp <;> with_reducible rfl)
              (try simp only [Act.put, List.setIfInBounds_toArray, List.set_cons_zero, List.set_cons_succ])
              refine wpAnyH_take (i := 7) (oi := _) (v := ?_) rfl (by decide +kernel) (by decide +kernel) (by decide +kernel) (fun _ _ _ h => h) (Or.inl ⟨by rfl, ?_⟩) (by assumption) ?_
              rotate_left
              · (intro w hSw; (try dsimp only at hSw); go_simp <;> with_reducible rfl)
              (try simp only [Act.put, List.setIfInBounds_toArray, List.set_cons_zero, List.set_cons_succ])
              refine wpAnyH_done (by kernel_rfl) ?_ _
              show wpList _ _ _ _ _ _
              have r0 : w8.cell? ⟨w.heap.size + 1 + 1, 0, none⟩ = some (.int .u64 0) := HI8.out.r.cell 0
              have r1 : w8.cell? ⟨w.heap.size + 1 + 1, 1, none⟩ = some (.slice none 0 0) := HI8.out.r.cell 1
              have f0 : w8.frozen? ⟨w.heap.size + 1 + 1, 0, none⟩ = false := HI8.out.r.free 0
              have f1 : w8.frozen? ⟨w.heap.size + 1 + 1, 1, none⟩ = false := HI8.out.r.free 1
              have hrz : w.heap.size + 1 + 1 < w8.heap.size := HI8.out.r.lt
              have hne : w.heap.size + 1 + 1 ≠ w3.heap.size := by omega
              have HPL := hid (OwnElsF.slice HP8.out)
              have HLN : Hid ((la ++ lb).length = la.length + lb.length) := hid List.length_append
              go_wp2
              refine bodyPost_ret (v := .tuple #[.agg #[.int .u64 eb, .slice a8 (la.length + lb.length) c8], .int .i64 0]) (by simp [results, Tryz.results45, go_sem, World.cell?_setCell_far, r0, r1, hne]) rfl ⟨_, _, rfl, rfl, ?_, ?_⟩
              · have hw : ∀ q, (((w2.heap.size ≤ q ∧ q < w3.heap.size) ∨ (W6.heap.size ≤ q ∧ q < w7.heap.size)) ∨ (Value.slice a8 (la.length + lb.length) c8).ownBlock = some q) → w2.heap.size ≤ q ∧ q ≠ w3.heap.size ∧ q < w8.heap.size := fun q hq => by
                  rcases hq with (hq | hq) | hq
                  · omega
                  · omega
                  · have h1 := own_lt HP8.out.1 q hq
                    refine ⟨h1.1, ?_, h1.2⟩
                    rcases HA8.out with e | e
                    · have := HNT.out q (e.symm.trans hq); omega
                    · have := Option.some.inj (hq.symm.trans e); omega
                refine rBatches.mono (rBatches.keep HPL.out fun q hq => ?_) fun q hq => ?_
                · have := hw q hq
                  rw [Below.heap_setCell _ _ _ _ (by dsimp only; omega), Below.heap_setCell _ _ _ _ (by dsimp only; omega), Below.heap_setCell _ _ _ _ (by dsimp only; omega)]
                · have := hw q hq
                  exact ⟨by omega, by simp; omega⟩
              · have hb9 := HI8.out.below
                exact ((hb9.setCell (by dsimp only; omega) _).setCell (by dsimp only; omega) _).setCell (by dsimp only; omega) _
end Go.Proofs.YtkipiefcnjfdjaaGreat
