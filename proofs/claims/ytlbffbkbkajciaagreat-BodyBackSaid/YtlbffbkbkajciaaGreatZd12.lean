/- Needed by bodyOnce_walk, part 12: texts put together by shake.py; no condition. -/
import Derived.Deep.Cut
import Derived.Deep.CutRange
import Derived.Deep.RegionHeld3
import Derived.Test.YtlbffbkbkajciaaGreatZd11
import Derived.Test.YtlbffbkbkajciaaGreatZd9
import Derived.Test.YtlbffbkbkajciaaGreatZd5
import Derived.Test.YtlbffbkbkajciaaGreatZd3
import Derived.Test.YtlbffbkbkajciaaGreatZd2
import Derived.Test.YtlbffbkbkajciaaGreatZd4
import Derived.Test.YtlbffbkbkajciaaGreatZd1
namespace Go.Proofs.YtlbffbkbkajciaaGreat
open Go.RowKit Go.Bs Go.Maps
set_option linter.unusedVariables false
set_option linter.unusedSimpArgs false

theorem cut_head {S : Nat → Prop} {w : World} {a : Option Addr} {B : List UInt8} {c : Nat} (h : rBytes.r S w [.slice a B.length c] B) {n : Nat} (h1 : n ≤ B.length) :
    (∀ w' : World, (Instr.slice 25 (.slice a B.length c) none (some (.int .i64 (n : Int))) none).run Tryz.prog w' = .ok (.slice a n c) w') ∧ rBytes.r S w [.slice a n c] (B.take n) := by
  obtain ⟨_, hm, hc, hcm⟩ := sl_len h
  have g1 : (0 : Int) ≤ (n : Int) := by omega
  have g3 : (n : Int) ≤ (c : Int) := by omega
  refine ⟨fun w' => ?_, ?_⟩
  · clear h
    cases a with
    | none => go_simp
    | some p => go_simp
  · obtain ⟨a', c', e, h2, h3, h4⟩ := sl_take h h1
    have hl : (B.take n).length = n := by simp; omega
    simp at e
    obtain ⟨rfl, _, rfl⟩ := e
    exact rSl_mk (a := a) (c := c) (by rw [hl]) (by omega) (by omega) h4
theorem fault_f0 {x y : Value} : ∀ W : World, (Instr.field 58 (.agg #[x, y]) 0).run Tryz.prog W = .ok x W := fun W => by kernel_rfl
theorem msg_mild {m : Msg} (h : msgR m = true) : (∀ x ∈ m.links, x.backs.length ≤ 1000000) ∧ m.data.length ≤ 1048576 := by
  refine ⟨?_, (msgR_parts h).data⟩
  unfold msgR at h
  simp only [Bool.and_eq_true] at h
  have h5 := h.2.2.2.2.2.1
  cases hh : hasK m.kind 16
  · rw [hh] at h5
    have := List.length_eq_zero_iff.1 (of_decide_eq_true h5)
    rw [this]
    simp
  · rw [hh] at h5
    have h6 : linksR m.pos m.links = true := h5
    simp only [linksR, Bool.and_eq_true, List.all_eq_true] at h6
    intro x hx
    have := h6.2.2 x hx
    simp only [linkR, Bool.and_eq_true, decide_eq_true_eq] at this
    omega
theorem MsgIn.bare {S : Nat → Prop} {w : World} : MsgIn S w noMsg none 0 none 0 none 0 none 0 := MsgB.none.to (rSl_mk (xs := []) rfl (Nat.le_refl _) (Nat.zero_le _) (.inl rfl)) (rSl_mk (xs := []) rfl (Nat.le_refl _) (Nat.zero_le _) (.inl rfl)) (rSl_mk (xs := []) rfl (Nat.le_refl _) (Nat.zero_le _) (.inl rfl)) (rSl_mk (xs := []) rfl (Nat.le_refl _) (Nat.zero_le _) (.inl rfl))
set_option maxRecDepth 100000 in
set_option maxHeartbeats 6400000 in
theorem bodyOnce_c (B : List UInt8) (ad : Option Addr) (n c : Nat) (k : Int) (hki : inI k) (w : World) (hl : rBytes.r (· < w.heap.size) w [.slice ad n c] B) :
    Calls Tryz.prog 7 #[.slice ad n c, .int .i64 k] w fun r w' => r = .returned (.bool true) ∧ Below w.heap.size w w' := by
  obtain ⟨rfl, hm, _, _⟩ := sl_len hl
  have HL := hid hl
  have HKI := hid hki
  by_cases h400 : B.length ≤ 400
  · have d0 : decide ((400 : Int) < (B.length : Int)) = false := decide_eq_false (by omega)
    have ok0 : (⟨0, 0, 0⟩ : Rs).ok B.length := ⟨Nat.zero_le _, fun _ => rfl⟩
    have hcap : rBytes.r (· < w.heap.size) w [.slice ad B.length B.length] B := by
      have := (cut_full hl (n := B.length) (Nat.le_refl _)).2
      rwa [List.take_length] at this
    have HCAP := hid hcap
    have HGR := hid (law25_great w B ad B.length c HL.out (by omega))
    have HBK := hid (ref28_block k 1 w)
    generalize hS : (⟨0, 0, 0⟩ : Rs).body B (blkS B) k = S at *
    generalize hL : (⟨0, 0, 0⟩ : Rs).body B (blkL B) k = L at *
    obtain ⟨s1, m1, f1⟩ := S
    obtain ⟨s2, m2, f2⟩ := L
    have HS := hid (fun (W : World) (g : Nat) (h : RdAt W g B ad ⟨0, 0, 0⟩) => bodyS W h (by omega) k HKI.out hS)
    have HLo := hid (fun (W : World) (g : Nat) (h : RdAt W g B ad ⟨0, 0, 0⟩) => bodyL W h (by omega) k HKI.out hL)
    obtain ⟨hA, hB1, hB2, hC⟩ := body_once hS hL
    have HA := hid hA; have HB1 := hid hB1; have HB2 := hid hB2; have HCC := hid hC
    clear hA hB1 hB2 hC
    clear hl hcap hS hL hki
    go_enter Tryz.func7, Tryz.ntmps7
    go_upto_region 1 with (fail)
    go_cut [22] from 12 to 21 (fun v V => ∃ q, v = .bool q ∧ Hid (V = w))
    case first =>
      go_wp2_with fail
      refine HBK.out.mono ?_
      rintro r w0 ⟨rfl, rfl⟩
      cases hbk : blockK k 1
      · go_wp2_with fail
        go_meet
        case rel => exact ⟨false, rfl, hid rfl⟩
      · go_wp2_with fail
        refine HGR.out.mono ?_
        rintro r w0 ⟨q0, rfl, rfl⟩
        go_wp2_with fail
        go_meet
        case rel => exact ⟨q0, rfl, hid rfl⟩
    case rest =>
      obtain ⟨q0, rfl, hV⟩ := hcut
      have hV' := hV.out.symm
      subst hV'
      cases q0
      rotate_left
      · skip
        go_wp2_with fail
        refine (live28 _).mono ?_
        rintro r w99 ⟨rfl, hb99⟩
        have hbe := hb99
        go_wp2
        go_ret
        exact ⟨rfl, hbe⟩
      · skip
        go_wp2_with fail
        refine (rd_new w B ad _ c HL.out).mono ?_
        rintro r w1 ⟨rfl, hrd1, hb1⟩
        go_wp2_with fail
        refine (rd_new w1 B ad _ c (lift HL.out hb1)).mono ?_
        rintro r w2 ⟨rfl, hrd2, hb2⟩
        have hbw2 := below_then hb2 hb1
        have hrd1' := hrd1.later hb2
        have l1 := hrd1.blk.lt
        have l2 := hrd2.blk.lt
        have hz12 := hb2.size
        clear hrd1
        go_wp2_with fail
        refine (HS.out w2 _ hrd1').mono ?_
        rintro r w3 ⟨x1, x1', x2, x2', x3, x3', x4, x4', rfl, hm3, hst3⟩
        have hbw3 : Below w.heap.size w w3 := hbw2.trans (hst3.below hbw2.size (Nat.le_refl _))
        have hs3 := hst3.size
        have HX3 := hid (MsgIn.keepS hm3 (fun q hq => rfl) (fun q hq => (⟨by have := hq.1; omega, hq.2⟩ : w1.heap.size < q ∧ q < w3.heap.size)))
        have R1a := hst3.1.blk
        have ok1 := hst3.1.ok
        have R2a := hrd2.blk.tch hst3.2 (by omega)
        clear hrd1' hrd2 hm3 hst3 hb1 hb2 hbw2
        go_wp2_with fail
        have hbA : Below w3.heap.size w3 (w3.alloc (.cells #[.int .i64 m1.kind, .int .u64 m1.epoch, .int .u64 m1.seq, .int .u64 m1.pos, .int .i64 m1.count, .int .i64 m1.state, .slice x1 m1.streams.length x1', .slice x2 m1.links.length x2', .slice x3 m1.data.length x3', .int .u64 m1.sea.epoch, .int .u64 m1.sea.node, .int .u64 m1.sea.tail, .int .u64 m1.proj.epoch, .slice x4 m1.proj.stripes.length x4'] 32)) := by (repeat (first | with_reducible exact Below.refl _ _ | with_reducible assumption | (with_reducible refine below_alloc ?_ _) | (with_reducible refine Below.setCell ?_ (by first | omega | (simp; done) | (simp; omega)) _) | (with_reducible refine Below.drew ?_) | (with_reducible refine below_drewN ?_ _) | (refine below_then (by with_reducible assumption) ?_)))
        have T7b : Blk (w3.alloc (.cells #[.int .i64 m1.kind, .int .u64 m1.epoch, .int .u64 m1.seq, .int .u64 m1.pos, .int .i64 m1.count, .int .i64 m1.state, .slice x1 m1.streams.length x1', .slice x2 m1.links.length x2', .slice x3 m1.data.length x3', .int .u64 m1.sea.epoch, .int .u64 m1.sea.node, .int .u64 m1.sea.tail, .int .u64 m1.proj.epoch, .slice x4 m1.proj.stripes.length x4'] 32)) w3.heap.size 32 #[.int .i64 m1.kind, .int .u64 m1.epoch, .int .u64 m1.seq, .int .u64 m1.pos, .int .i64 m1.count, .int .i64 m1.state, .slice x1 m1.streams.length x1', .slice x2 m1.links.length x2', .slice x3 m1.data.length x3', .int .u64 m1.sea.epoch, .int .u64 m1.sea.node, .int .u64 m1.sea.tail, .int .u64 m1.proj.epoch, .slice x4 m1.proj.stripes.length x4'] := Blk.newAt _ _ _ rfl
        have HX3b := hid (MsgIn.keepS HX3.out (fun q hq => hbA.block q hq.2) (fun q hq => (⟨hq.1, Nat.lt_of_lt_of_le hq.2 hbA.size⟩ : w1.heap.size < q ∧ q < ((w3.alloc (.cells #[.int .i64 m1.kind, .int .u64 m1.epoch, .int .u64 m1.seq, .int .u64 m1.pos, .int .i64 m1.count, .int .i64 m1.state, .slice x1 m1.streams.length x1', .slice x2 m1.links.length x2', .slice x3 m1.data.length x3', .int .u64 m1.sea.epoch, .int .u64 m1.sea.node, .int .u64 m1.sea.tail, .int .u64 m1.proj.epoch, .slice x4 m1.proj.stripes.length x4'] 32))).heap.size)))
        have R1b := R1a.later hbA
        have R2b := R2a.later hbA
        have hbw3b := below_then hbA hbw3
        have hz3 : w3.heap.size < ((w3.alloc (.cells #[.int .i64 m1.kind, .int .u64 m1.epoch, .int .u64 m1.seq, .int .u64 m1.pos, .int .i64 m1.count, .int .i64 m1.state, .slice x1 m1.streams.length x1', .slice x2 m1.links.length x2', .slice x3 m1.data.length x3', .int .u64 m1.sea.epoch, .int .u64 m1.sea.node, .int .u64 m1.sea.tail, .int .u64 m1.proj.epoch, .slice x4 m1.proj.stripes.length x4'] 32))).heap.size := by simp
        clear hbA R1a R2a HX3 hbw3
        generalize (w3.alloc (.cells #[.int .i64 m1.kind, .int .u64 m1.epoch, .int .u64 m1.seq, .int .u64 m1.pos, .int .i64 m1.count, .int .i64 m1.state, .slice x1 m1.streams.length x1', .slice x2 m1.links.length x2', .slice x3 m1.data.length x3', .int .u64 m1.sea.epoch, .int .u64 m1.sea.node, .int .u64 m1.sea.tail, .int .u64 m1.proj.epoch, .slice x4 m1.proj.stripes.length x4'] 32)) = v3 at *
        refine (HLo.out v3 w1.heap.size (rd_anew2 R2b (Rp.below rBytes HCAP.out hbw3b) (by omega) ok0)).mono ?_
        rintro r w4 ⟨y1, y1', y2, y2', y3, y3', y4, y4', rfl, hm4, hst4⟩
        have hbw4 : Below w.heap.size w w4 := hbw3b.trans (hst4.below hbw3b.size (by omega))
        have hs4 := hst4.size
        have X3c := hid (MsgIn.keepS HX3b.out (fun q hq => hst4.2.block q hq.2 (by have := hq.1; omega)) (fun q hq => (by have := hq.2; omega : q < w4.heap.size)))
        have X4c := hid (MsgIn.keepS hm4 (fun q hq => rfl) (fun q hq => (hq.2 : q < w4.heap.size)))
        have R1c := R1b.tch hst4.2 (by omega)
        have R2c := hst4.1.blk
        have ok2 := hst4.1.ok
        have T7c := T7b.tch hst4.2 (by omega)
        clear hm4 hst4 R1b R2b T7b HX3b hbw3b
        go_wp2_with fail
        have hbA : Below w4.heap.size w4 (w4.alloc (.cells #[.int .i64 m2.kind, .int .u64 m2.epoch, .int .u64 m2.seq, .int .u64 m2.pos, .int .i64 m2.count, .int .i64 m2.state, .slice y1 m2.streams.length y1', .slice y2 m2.links.length y2', .slice y3 m2.data.length y3', .int .u64 m2.sea.epoch, .int .u64 m2.sea.node, .int .u64 m2.sea.tail, .int .u64 m2.proj.epoch, .slice y4 m2.proj.stripes.length y4'] 32)) := by (repeat (first | with_reducible exact Below.refl _ _ | with_reducible assumption | (with_reducible refine below_alloc ?_ _) | (with_reducible refine Below.setCell ?_ (by first | omega | (simp; done) | (simp; omega)) _) | (with_reducible refine Below.drew ?_) | (with_reducible refine below_drewN ?_ _) | (refine below_then (by with_reducible assumption) ?_)))
        have T8d : Blk (w4.alloc (.cells #[.int .i64 m2.kind, .int .u64 m2.epoch, .int .u64 m2.seq, .int .u64 m2.pos, .int .i64 m2.count, .int .i64 m2.state, .slice y1 m2.streams.length y1', .slice y2 m2.links.length y2', .slice y3 m2.data.length y3', .int .u64 m2.sea.epoch, .int .u64 m2.sea.node, .int .u64 m2.sea.tail, .int .u64 m2.proj.epoch, .slice y4 m2.proj.stripes.length y4'] 32)) w4.heap.size 32 #[.int .i64 m2.kind, .int .u64 m2.epoch, .int .u64 m2.seq, .int .u64 m2.pos, .int .i64 m2.count, .int .i64 m2.state, .slice y1 m2.streams.length y1', .slice y2 m2.links.length y2', .slice y3 m2.data.length y3', .int .u64 m2.sea.epoch, .int .u64 m2.sea.node, .int .u64 m2.sea.tail, .int .u64 m2.proj.epoch, .slice y4 m2.proj.stripes.length y4'] := Blk.newAt _ _ _ rfl
        have R1d := R1c.later hbA
        have R2d := R2c.later hbA
        have T7d := T7c.later hbA
        have X3d := hid (MsgIn.lift X3c.out hbA)
        have X4d := hid (MsgIn.lift X4c.out hbA)
        clear R1c R2c T7c X3c X4c
        have hbw4d := below_then hbA hbw4
        have hz4 : w4.heap.size < ((w4.alloc (.cells #[.int .i64 m2.kind, .int .u64 m2.epoch, .int .u64 m2.seq, .int .u64 m2.pos, .int .i64 m2.count, .int .i64 m2.state, .slice y1 m2.streams.length y1', .slice y2 m2.links.length y2', .slice y3 m2.data.length y3', .int .u64 m2.sea.epoch, .int .u64 m2.sea.node, .int .u64 m2.sea.tail, .int .u64 m2.proj.epoch, .slice y4 m2.proj.stripes.length y4'] 32))).heap.size := by simp
        clear hbA hbw4
        generalize (w4.alloc (.cells #[.int .i64 m2.kind, .int .u64 m2.epoch, .int .u64 m2.seq, .int .u64 m2.pos, .int .i64 m2.count, .int .i64 m2.state, .slice y1 m2.streams.length y1', .slice y2 m2.links.length y2', .slice y3 m2.data.length y3', .int .u64 m2.sea.epoch, .int .u64 m2.sea.node, .int .u64 m2.sea.tail, .int .u64 m2.proj.epoch, .slice y4 m2.proj.stripes.length y4'] 32)) = v4 at *
        have hbwd := hbw4d
        clear hbw4d
        by_cases hk1 : s1.k = 0
        · obtain ⟨rfl, rfl, rfl, hr1, hn1, hms, hp1⟩ := HA.out hk1
          have HGx := hid (fun (V : World) (g : Nat) (hV : RdAt V g B ad s2) => (by have := rd_good V hV; rw [decide_eq_true hk1] at this; exact this : Calls Tryz.prog 44 #[.pointer (some ⟨g, 0, none⟩)] V fun r w' => r = .returned (.bool true) ∧ Below V.heap.size V w'))
          clear hk1
          refine (HGx.out v4 _ (rd_anew2 R1d (Rp.below rBytes HCAP.out hbwd) (by omega) ok1)).mono ?_
          rintro r w5 ⟨rfl, hb5⟩
          have R1e := R1d.later hb5
          have R2e := R2d.later hb5
          have T7e := T7d.later hb5
          have T8e := T8d.later hb5
          have X3e := hid (MsgIn.lift X3d.out hb5)
          have X4e := hid (MsgIn.lift X4d.out hb5)
          clear R1d R2d T7d T8d X3d X4d
          have hbwe := below_then hb5 hbwd
          clear hbwd
          have hmd := msg_mild hr1
          have hBy := body_bytes w5 m2 x1 x1' x2 x2' x3 x3' x4 x4' X3e.out hmd.1 (by omega)
          have hmb : msgBytes m2 = (msgB m2, 0) := by unfold msgBytes; rw [if_pos hr1]
          rw [hmb, hms] at hBy
          have HBy := hid hBy
          have HRt := hid (fun (V : World) (hV : MsgIn (· < V.heap.size) V m2 x1 x1' x2 x2' x3 x3' x4 x4') => (by have := ref28_right m2 x1 x1' x2 x2' x3 x3' x4 x4' V hV; rw [hr1] at this; exact this : Calls Tryz.prog 20 #[.agg #[.int .i64 m2.kind, .int .u64 m2.epoch, .int .u64 m2.seq, .int .u64 m2.pos, .int .i64 m2.count, .int .i64 m2.state, .slice x1 m2.streams.length x1', .slice x2 m2.links.length x2', .slice x3 m2.data.length x3', .int .u64 m2.sea.epoch, .int .u64 m2.sea.node, .int .u64 m2.sea.tail, .int .u64 m2.proj.epoch, .slice x4 m2.proj.stripes.length x4']] V fun r w' => r = .returned (.bool true) ∧ Below V.heap.size V w'))
          have HSl := hid (fun (V : World) (hV : Below w.heap.size w V) => cut_head (lift HL.out hV) hp1)
          clear hBy hmb hmd hr1 hn1 hms
          obtain ⟨ma0, ma1, ma2, ma3, ma4, ma5, ma6, ma7, ma8, ma9, ma10, ma11, ma12, ma13, _⟩ := mm_blk T7e
          go_wp2_with fail
          refine HBy.out.mono ?_
          rintro r w6 ⟨v6, rfl, hv6, hb6⟩
          obtain ⟨a6, c6, hfv, _, _⟩ := sl_form hv6
          simp only [List.cons.injEq, and_true] at hfv
          subst hfv
          have O6e := hid (rBytes.mono hv6 (S' := (· < w6.heap.size)) fun q hq => hq.2)
          clear ma0 ma1 ma2 ma3 ma4 ma5 ma6 ma7 ma8 ma9 ma10 ma11 ma12 ma13
          have R1f := R1e.later hb6
          have R2f := R2e.later hb6
          have T7f := T7e.later hb6
          have T8f := T8e.later hb6
          have X3f := hid (MsgIn.lift X3e.out hb6)
          have X4f := hid (MsgIn.lift X4e.out hb6)
          clear R1e R2e T7e T8e X3e X4e
          have hbwf := below_then hb6 hbwe
          clear hbwe
          clear hb6 hv6
          obtain ⟨ma0, ma1, ma2, ma3, ma4, ma5, ma6, ma7, ma8, ma9, ma10, ma11, ma12, ma13, _⟩ := mm_blk T7f
          go_wp2_with fail
          refine (HRt.out _ X3f.out).mono ?_
          rintro r w7 ⟨rfl, hb7⟩
          have O7 := hid (lift O6e.out hb7)
          clear ma0 ma1 ma2 ma3 ma4 ma5 ma6 ma7 ma8 ma9 ma10 ma11 ma12 ma13
          have R1g := R1f.later hb7
          have R2g := R2f.later hb7
          have T7g := T7f.later hb7
          have T8g := T8f.later hb7
          have X3g := hid (MsgIn.lift X3f.out hb7)
          have X4g := hid (MsgIn.lift X4f.out hb7)
          clear R1f R2f T7f T8f X3f X4f
          have hbwg := below_then hb7 hbwf
          clear hbwf
          clear hb7 O6e
          have HAt := hid (rd_at w7 (rd_anew2 R1g (Rp.below rBytes HCAP.out hbwg) (by omega) ok1))
          obtain ⟨hsl, hrow⟩ := HSl.out w7 hbwg
          have HRW := hid hrow
          clear hrow
          go_wp2_with fail
          refine HAt.out.mono ?_
          rintro r w7' ⟨rfl, rfl⟩
          go_wp2_with fail
          have O7' := O7.out
          rw [List.length_take, Nat.min_eq_left hp1] at O7'
          have HSM := same_bytes (B.take s2.p) (B.take s2.p) a6 ad s2.p c6 s2.p c w7 O7' HRW.out
          simp only [decide_true] at HSM
          refine HSM.mono ?_
          rintro r w7' ⟨rfl, rfl⟩
          clear HSM O7 O7' HRW hsl HAt
          go_wp2_with fail
          refine (HGx.out w7 _ (rd_anew2 R2g (Rp.below rBytes HCAP.out hbwg) (by omega) ok2)).mono ?_
          rintro r w8 ⟨rfl, hb8⟩
          have R1h := R1g.later hb8
          have R2h := R2g.later hb8
          have T7h := T7g.later hb8
          have T8h := T8g.later hb8
          have X3h := hid (MsgIn.lift X3g.out hb8)
          have X4h := hid (MsgIn.lift X4g.out hb8)
          clear R1g R2g T7g T8g X3g X4g
          have hbwh := below_then hb8 hbwg
          clear hbwg
          clear hb8
          obtain ⟨ma0, ma1, ma2, ma3, ma4, ma5, ma6, ma7, ma8, ma9, ma10, ma11, ma12, ma13, _⟩ := mm_blk T7h
          obtain ⟨mb0, mb1, mb2, mb3, mb4, mb5, mb6, mb7, mb8, mb9, mb10, mb11, mb12, mb13, _⟩ := mm_blk T8h
          go_wp2_with fail
          refine (msg_same m2 w8 x1 x2 x3 x4 y1 y2 y3 y4 x1' x2' x3' x4' y1' y2' y3' y4' X3h.out X4h.out).mono ?_
          rintro r w9 ⟨rfl, hb9⟩
          have hbwX := below_then hb9 hbwh
          go_wp2_with fail
          refine (live28 _).mono ?_
          rintro r w99 ⟨rfl, hb99⟩
          have hbe := below_then hb99 hbwX
          go_wp2
          go_ret
          exact ⟨rfl, hbe⟩
        · have hx1 := HB1.out hk1
          subst hx1
          have HG1 := hid (fun (V : World) (g : Nat) (hV : RdAt V g B ad s1) => (by have := rd_good V hV; rw [decide_eq_false hk1] at this; exact this : Calls Tryz.prog 44 #[.pointer (some ⟨g, 0, none⟩)] V fun r w' => r = .returned (.bool false) ∧ Below V.heap.size V w'))
          refine (HG1.out v4 _ (rd_anew2 R1d (Rp.below rBytes HCAP.out hbwd) (by omega) ok1)).mono ?_
          rintro r w5 ⟨rfl, hb5⟩
          have R1e := R1d.later hb5
          have R2e := R2d.later hb5
          have T7e := T7d.later hb5
          have T8e := T8d.later hb5
          have X3e := hid (MsgIn.lift X3d.out hb5)
          have X4e := hid (MsgIn.lift X4d.out hb5)
          clear R1d R2d T7d T8d X3d X4d
          have hbwe := below_then hb5 hbwd
          clear hbwd
          by_cases hk2 : s2.k = 0
          · obtain ⟨hf2, h12, hr2, hn2⟩ := HCC.out hk1 hk2
            subst hf2
            have HG2 := hid (fun (V : World) (g : Nat) (hV : RdAt V g B ad s2) => (by have := rd_good V hV; rw [decide_eq_true hk2] at this; exact this : Calls Tryz.prog 44 #[.pointer (some ⟨g, 0, none⟩)] V fun r w' => r = .returned (.bool true) ∧ Below V.heap.size V w'))
            have d12 : (s1.k == (12 : Int)) = true := by simp [h12]
            have HRt := hid (fun (V : World) (hV : MsgIn (· < V.heap.size) V m2 y1 y1' y2 y2' y3 y3' y4 y4') => (by have := ref28_right m2 y1 y1' y2 y2' y3 y3' y4 y4' V hV; rw [hr2] at this; exact this : Calls Tryz.prog 20 #[.agg #[.int .i64 m2.kind, .int .u64 m2.epoch, .int .u64 m2.seq, .int .u64 m2.pos, .int .i64 m2.count, .int .i64 m2.state, .slice y1 m2.streams.length y1', .slice y2 m2.links.length y2', .slice y3 m2.data.length y3', .int .u64 m2.sea.epoch, .int .u64 m2.sea.node, .int .u64 m2.sea.tail, .int .u64 m2.proj.epoch, .slice y4 m2.proj.stripes.length y4']] V fun r w' => r = .returned (.bool true) ∧ Below V.heap.size V w'))
            have HFt := hid (fun (V : World) (g : Nat) (hV : RdAt V g B ad s1) => rd_fault V hV)
            have kf := fault_f0 (x := .int .i64 s1.k) (y := .int .i64 s1.f)
            clear hk1 hk2 h12 hr2 hn2
            go_wp2_with fail
            refine (HG2.out w5 _ (rd_anew2 R2e (Rp.below rBytes HCAP.out hbwe) (by omega) ok2)).mono ?_
            rintro r w6 ⟨rfl, hb6⟩
            have R1f := R1e.later hb6
            have R2f := R2e.later hb6
            have T7f := T7e.later hb6
            have T8f := T8e.later hb6
            have X3f := hid (MsgIn.lift X3e.out hb6)
            have X4f := hid (MsgIn.lift X4e.out hb6)
            clear R1e R2e T7e T8e X3e X4e
            have hbwf := below_then hb6 hbwe
            clear hbwe
            obtain ⟨mb0, mb1, mb2, mb3, mb4, mb5, mb6, mb7, mb8, mb9, mb10, mb11, mb12, mb13, _⟩ := mm_blk T8f
            go_wp2_with fail
            refine (HRt.out _ X4f.out).mono ?_
            rintro r w7 ⟨rfl, hb7⟩
            clear mb0 mb1 mb2 mb3 mb4 mb5 mb6 mb7 mb8 mb9 mb10 mb11 mb12 mb13
            have R1g := R1f.later hb7
            have R2g := R2f.later hb7
            have T7g := T7f.later hb7
            have T8g := T8f.later hb7
            have X3g := hid (MsgIn.lift X3f.out hb7)
            have X4g := hid (MsgIn.lift X4f.out hb7)
            clear R1f R2f T7f T8f X3f X4f
            have hbwg := below_then hb7 hbwf
            clear hbwf
            go_wp2_with fail
            refine (HFt.out w7 _ (rd_anew2 R1g (Rp.below rBytes HCAP.out hbwg) (by omega) ok1)).mono ?_
            rintro r w8 ⟨rfl, hb8⟩
            have hbwX := below_then hb8 hbwg
            go_wp2_with fail
            refine (live28 _).mono ?_
            rintro r w99 ⟨rfl, hb99⟩
            have hbe := below_then hb99 hbwX
            go_wp2
            go_ret
            exact ⟨rfl, hbe⟩
          · have hx2 := HB2.out hk2
            subst hx2
            have HG2 := hid (fun (V : World) (g : Nat) (hV : RdAt V g B ad s2) => (by have := rd_good V hV; rw [decide_eq_false hk2] at this; exact this : Calls Tryz.prog 44 #[.pointer (some ⟨g, 0, none⟩)] V fun r w' => r = .returned (.bool false) ∧ Below V.heap.size V w'))
            clear hk1 hk2
            go_wp2_with fail
            refine (HG2.out w5 _ (rd_anew2 R2e (Rp.below rBytes HCAP.out hbwe) (by omega) ok2)).mono ?_
            rintro r w6 ⟨rfl, hb6⟩
            have R1f := R1e.later hb6
            have R2f := R2e.later hb6
            have T7f := T7e.later hb6
            have T8f := T8e.later hb6
            have X3f := hid (MsgIn.lift X3e.out hb6)
            have X4f := hid (MsgIn.lift X4e.out hb6)
            clear R1e R2e T7e T8e X3e X4e
            have hbwf := below_then hb6 hbwe
            clear hbwe
            have t7 : Blk w6 w3.heap.size 32 #[.int .i64 0, .int .u64 0, .int .u64 0, .int .u64 0, .int .i64 0, .int .i64 0, .slice x1 0 x1', .slice x2 0 x2', .slice x3 0 x3', .int .u64 0, .int .u64 0, .int .u64 0, .int .u64 0, .slice x4 0 x4'] := T7f
            obtain ⟨ma0, ma1, ma2, ma3, ma4, ma5, ma6, ma7, ma8, ma9, ma10, ma11, ma12, ma13, _⟩ := mm_blk t7
            go_wp2_with fail
            refine (msg_same noMsg w6 x1 x2 x3 x4 none none none none x1' x2' x3' x4' 0 0 0 0 X3f.out MsgIn.bare).mono ?_
            rintro r w7 ⟨rfl, hb7⟩
            clear ma0 ma1 ma2 ma3 ma4 ma5 ma6 ma7 ma8 ma9 ma10 ma11 ma12 ma13
            have R1g := R1f.later hb7
            have R2g := R2f.later hb7
            have T7g := T7f.later hb7
            have T8g := T8f.later hb7
            have X3g := hid (MsgIn.lift X3f.out hb7)
            have X4g := hid (MsgIn.lift X4f.out hb7)
            clear R1f R2f T7f T8f X3f X4f
            have hbwg := below_then hb7 hbwf
            clear hbwf
            have t8 : Blk w7 w4.heap.size 32 #[.int .i64 0, .int .u64 0, .int .u64 0, .int .u64 0, .int .i64 0, .int .i64 0, .slice y1 0 y1', .slice y2 0 y2', .slice y3 0 y3', .int .u64 0, .int .u64 0, .int .u64 0, .int .u64 0, .slice y4 0 y4'] := T8g
            obtain ⟨mb0, mb1, mb2, mb3, mb4, mb5, mb6, mb7, mb8, mb9, mb10, mb11, mb12, mb13, _⟩ := mm_blk t8
            go_wp2_with fail
            refine (msg_same noMsg w7 y1 y2 y3 y4 none none none none y1' y2' y3' y4' 0 0 0 0 X4g.out MsgIn.bare).mono ?_
            rintro r w8 ⟨rfl, hb8⟩
            have hbwX := below_then hb8 hbwg
            go_wp2_with fail
            refine (live28 _).mono ?_
            rintro r w99 ⟨rfl, hb99⟩
            have hbe := below_then hb99 hbwX
            go_wp2
            go_ret
            exact ⟨rfl, hbe⟩
  · have d0 : decide ((400 : Int) < (B.length : Int)) = true := decide_eq_true (by omega)
    clear h400 hl
    go_enter Tryz.func7, Tryz.ntmps7
    go_wp2_with fail
    refine (live28 _).mono ?_
    rintro r w99 ⟨rfl, hb99⟩
    have hbe := hb99
    go_wp2
    go_ret
    exact ⟨rfl, hbe⟩
set_option maxRecDepth 100000 in
theorem bodyOnce_walk {H : Type} (enc : TypeId × Value → H) (W : World) (base : Nat) (v0 v1 : Value) (d0 d1 : DataW H) (p0 p1 : List MemPlace)
    (k0 : DataW.Trod enc Tryz.prog W 0 (fun _ => true) true 25 v0 d0 p0) (k1 : DataW.Trod enc Tryz.prog W 0 (fun _ => true) true 3 v1 d1 p1)
    (o0 : Value.okWide Tryz.prog W .any base 25 v0) (o1 : Value.okWide Tryz.prog W .any base 3 v1) :
    Calls Tryz.prog 7 #[v0, v1] W fun e w' => e = .returned (.bool true) ∧ Below W.heap.size W w' := by
  obtain ⟨fuel, hf⟩ := k0
  obtain ⟨a, len, cap, rfl⟩ := Go.WideShapes.okWide_slice Tryz.underlying25 o0
  obtain ⟨b, hb⟩ := o_bytes enc W fuel _ _ hf
  obtain ⟨fuel1, hf1⟩ := k1
  obtain ⟨k, rfl⟩ := Go.WideShapes.okWide_int Tryz.underlying3 o1
  obtain ⟨k', hk', hw⟩ := opens_int Tryz.underlying3 enc W fuel1 _ _ hf1
  simp [Value.cells] at hk'
  subst hk'
  exact bodyOnce_c b a len cap k (bounds_i64 hw) W hb
end Go.Proofs.YtlbffbkbkajciaaGreat
