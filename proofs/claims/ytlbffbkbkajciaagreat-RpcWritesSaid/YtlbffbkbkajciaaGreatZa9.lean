/- Needed by bodyWrites_walk, part 9: texts put together by shake.py; no condition. -/
import Derived.Test.YtlbffbkbkajciaaGreatZa7
import Derived.Deep.CutRange
import Derived.Test.YtlbffbkbkajciaaGreatZa8
import Derived.Test.YtlbffbkbkajciaaGreatZa5
import Derived.Deep.AppendLies
import Derived.Deep.RegionLaw
import Derived.Test.YtlbffbkbkajciaaGreatZa1
namespace Go.Proofs.YtlbffbkbkajciaaGreat
open Go.RowKit Go.Bs Go.Maps
set_option linter.unusedVariables false
set_option linter.unusedSimpArgs false

theorem msgR_eq (m : Msg) : msgR m = (decide (1 ≤ m.kind ∧ m.kind ≤ 14) && (withinR (hasK m.kind 1) (poR m.pos) (m.pos == 0) && (withinR (hasK m.kind 2) (decide (1 ≤ m.count) && decide (m.count ≤ 65536)) (m.count == 0) &&
      (withinR (hasK m.kind 4) (decide (1 ≤ m.state) && decide (m.state ≤ mostK m.kind)) (m.state == 0) && (withinR (hasK m.kind 8) (decide (m.streams.length ≤ 16) && risesB m.streams) ((m.streams.length : Int) == 0) &&
      (withinR (hasK m.kind 16) (linksR m.pos m.links) ((m.links.length : Int) == 0) && (withinR (hasK m.kind 64) (sealR m.sea) (m.sea.epoch == 0 && (m.sea.node == 0 && m.sea.tail == 0)) &&
      (withinR (hasK m.kind 128) (projR m.proj) (m.proj.epoch == 0 && (m.proj.stripes.length : Int) == 0) && (((m.data.length : Int) == 0) || (blockK m.kind m.state && decide (m.data.length ≤ 1048576))))))))))) := by
  unfold msgR
  rw [len_zero, len_zero, len_zero, len_zero, seal_zero, Bool.decide_and, Bool.decide_and, Bool.decide_and]
  rfl

set_option maxRecDepth 100000 in
set_option maxHeartbeats 6400000 in
theorem ref28_right (m : Msg) (a1 : Option Addr) (c1 : Nat) (a2 : Option Addr) (c2 : Nat) (a3 : Option Addr) (c3 : Nat) (a4 : Option Addr) (c4 : Nat) (w : World) (h : MsgIn (· < w.heap.size) w m a1 c1 a2 c2 a3 c3 a4 c4) :
    Calls Tryz.prog 20 #[.agg #[.int .i64 m.kind, .int .u64 m.epoch, .int .u64 m.seq, .int .u64 m.pos, .int .i64 m.count, .int .i64 m.state, .slice a1 m.streams.length c1, .slice a2 m.links.length c2, .slice a3 m.data.length c3, .int .u64 m.sea.epoch, .int .u64 m.sea.node, .int .u64 m.sea.tail, .int .u64 m.proj.epoch, .slice a4 m.proj.stripes.length c4]] w fun r w' => r = .returned (.bool (msgR m)) ∧ Below w.heap.size w w' := by
  have hM := msgR_eq m
  have HPO := hid (fun W : World => ref17_pos m.pos W)
  have HMO := hid (fun W : World => ref28_most m.kind W)
  have HST := hid (fun (W : World) (hW : Below w.heap.size w W) => ref05_rises m.streams a1 _ c1 W (lift h.streams hW))
  have HLK := hid (fun (W : World) (hW : Below w.heap.size w W) => ref23_right m.pos m.links a2 _ c2 W (lift h.links hW))
  have HSE := hid (fun (W : World) => ref18_right m.sea h.sealE W)
  have HPR := hid (fun (W : World) (hW : Below w.heap.size w W) => ref20_right m.proj.epoch h.projE.1 m.proj.stripes a4 _ c4 W (lift h.stripes hW))
  have HBL := hid (fun (W : World) => ref28_block m.kind m.state W)
  have HH1 := hid (fun W : World => ref28_has m.kind 1 (by unfold isPart; decide) W)
  have HH2 := hid (fun W : World => ref28_has m.kind 2 (by unfold isPart; decide) W)
  have HH4 := hid (fun W : World => ref28_has m.kind 4 (by unfold isPart; decide) W)
  have HH8 := hid (fun W : World => ref28_has m.kind 8 (by unfold isPart; decide) W)
  have HH16 := hid (fun W : World => ref28_has m.kind 16 (by unfold isPart; decide) W)
  have HH64 := hid (fun W : World => ref28_has m.kind 64 (by unfold isPart; decide) W)
  have HH128 := hid (fun W : World => ref28_has m.kind 128 (by unfold isPart; decide) W)
  obtain ⟨kk, ep, sq, po, cn, st, SS, LS, DD, ⟨se, sn, tl⟩, ⟨pe, PL⟩⟩ := m
  dsimp only at *
  generalize hasK kk 1 = H1 at *
  generalize hasK kk 2 = H2 at *
  generalize hasK kk 4 = H4 at *
  generalize hasK kk 8 = H8 at *
  generalize hasK kk 16 = H16 at *
  generalize hasK kk 64 = H64 at *
  generalize hasK kk 128 = H128 at *
  obtain ⟨B1, hB1⟩ : ∃ B, B = withinR H1 (poR po) (po == 0) := ⟨_, rfl⟩
  rw [← hB1] at hM
  have HQ1 := hid hB1
  clear hB1
  obtain ⟨B2, hB2⟩ : ∃ B, B = withinR H2 (decide (1 ≤ cn) && decide (cn ≤ 65536)) (cn == 0) := ⟨_, rfl⟩
  rw [← hB2] at hM
  have HQ2 := hid hB2
  clear hB2
  obtain ⟨B4, hB4⟩ : ∃ B, B = withinR H4 (decide (1 ≤ st) && decide (st ≤ mostK kk)) (st == 0) := ⟨_, rfl⟩
  rw [← hB4] at hM
  have HQ4 := hid hB4
  clear hB4
  obtain ⟨B8, hB8⟩ : ∃ B, B = withinR H8 (decide (SS.length ≤ 16) && risesB SS) ((SS.length : Int) == 0) := ⟨_, rfl⟩
  rw [← hB8] at hM
  have HQ8 := hid hB8
  clear hB8
  obtain ⟨B16, hB16⟩ : ∃ B, B = withinR H16 (linksR po LS) ((LS.length : Int) == 0) := ⟨_, rfl⟩
  rw [← hB16] at hM
  have HQ16 := hid hB16
  clear hB16
  obtain ⟨B64, hB64⟩ : ∃ B, B = withinR H64 (sealR ⟨se, sn, tl⟩) (se == 0 && (sn == 0 && tl == 0)) := ⟨_, rfl⟩
  rw [← hB64] at hM
  have HQ64 := hid hB64
  clear hB64
  obtain ⟨B128, hB128⟩ : ∃ B, B = withinR H128 (projR ⟨pe, PL⟩) (pe == 0 && (PL.length : Int) == 0) := ⟨_, rfl⟩
  rw [← hB128] at hM
  have HQ128 := hid hB128
  clear hB128
  generalize poR po = R1 at *
  generalize linksR po LS = R16 at *
  generalize sealR ⟨se, sn, tl⟩ = R64 at *
  generalize projR ⟨pe, PL⟩ = R128 at *
  generalize risesB SS = RS at *
  generalize mostK kk = MK at *
  generalize blockK kk st = BL at *
  obtain ⟨DB, hDB⟩ : ∃ B, B = (((DD.length : Int) == 0) || (BL && decide (DD.length ≤ 1048576))) := ⟨_, rfl⟩
  rw [← hDB] at hM
  have HDB := hid hDB
  generalize hK : decide (1 ≤ kk ∧ kk ≤ 14) = K at *
  have HM := hid hM
  generalize msgR ⟨kk, ep, sq, po, cn, st, SS, LS, DD, ⟨se, sn, tl⟩, ⟨pe, PL⟩⟩ = MM at *
  have hb0 : Below w.heap.size w (w.alloc (.cells #[.int .i64 kk, .int .u64 ep, .int .u64 sq, .int .u64 po, .int .i64 cn, .int .i64 st, .slice a1 SS.length c1, .slice a2 LS.length c2, .slice a3 DD.length c3, .int .u64 se, .int .u64 sn, .int .u64 tl, .int .u64 pe, .slice a4 PL.length c4] 32)) := by (repeat (first | exact Below.refl _ _ | assumption | (refine below_alloc ?_ _) | (refine Below.setCell ?_ (by first | omega | (simp; done) | (simp; omega)) _) | (refine Below.drew ?_) | (refine below_drewN ?_ _) | (refine below_then (by assumption) ?_)))
  have HBX : Hid (Blk (w.alloc (.cells #[.int .i64 kk, .int .u64 ep, .int .u64 sq, .int .u64 po, .int .i64 cn, .int .i64 st, .slice a1 SS.length c1, .slice a2 LS.length c2, .slice a3 DD.length c3, .int .u64 se, .int .u64 sn, .int .u64 tl, .int .u64 pe, .slice a4 PL.length c4] 32)) w.heap.size 32 #[.int .i64 kk, .int .u64 ep, .int .u64 sq, .int .u64 po, .int .i64 cn, .int .i64 st, .slice a1 SS.length c1, .slice a2 LS.length c2, .slice a3 DD.length c3, .int .u64 se, .int .u64 sn, .int .u64 tl, .int .u64 pe, .slice a4 PL.length c4]) := hid (Blk.new w _ _)
  clear hM h hDB
  cases K
  · have hK' : ¬ (1 ≤ kk ∧ kk ≤ 14) := of_decide_eq_false hK
    have hff : Hid (MM = false) := hid (by rw [HM.out]; rfl)
    clear hK
    by_cases g1 : kk < 1
    · have d1 : decide (kk < 1) = true := decide_eq_true g1
      go_enter Tryz.func20, Tryz.ntmps20
      go_wp2_with fail
      go_ret
      exact ⟨by rw [hff.out]; rfl, hb0⟩
    · have d1 : decide (kk < 1) = false := decide_eq_false g1
      have d2 : decide (14 < kk) = true := decide_eq_true (by omega)
      go_enter Tryz.func20, Tryz.ntmps20
      go_wp2_with fail
      go_ret
      exact ⟨by rw [hff.out]; rfl, hb0⟩
  · have hK' : 1 ≤ kk ∧ kk ≤ 14 := of_decide_eq_true hK
    have d1 : decide (kk < 1) = false := decide_eq_false (by omega)
    have d2 : decide (14 < kk) = false := decide_eq_false (by omega)
    clear hK hK'
    go_enter Tryz.func20, Tryz.ntmps20
    go_upto_region 4 with (fail)
    generalize (w.alloc (.cells #[.int .i64 kk, .int .u64 ep, .int .u64 sq, .int .u64 po, .int .i64 cn, .int .i64 st, .slice a1 SS.length c1, .slice a2 LS.length c2, .slice a3 DD.length c3, .int .u64 se, .int .u64 sn, .int .u64 tl, .int .u64 pe, .slice a4 PL.length c4] 32)) = w0 at *
    have HB0 := hid hb0
    clear hb0
    have HB1 : Hid (Below w0.heap.size w0 w0) := hid (Below.refl _ _)
    go_cut [29] from 12 to 28 (fun v V => v = .bool (!B1) ∧ Below w0.heap.size w0 V)
    case first =>
      cases H1
      · go_wp2_with fail
        refine (HH1.out _).mono ?_
        rintro r v101 ⟨rfl, hb101⟩
        have HC101 := hid (below_then hb101 HB1.out)
        clear hb101
        go_wp2_with fail
        refine (HH1.out _).mono ?_
        rintro r v102 ⟨rfl, hb102⟩
        have HC102 := hid (below_then hb102 HC101.out)
        clear hb102
        have HX102 := hid (HBX.out.later HC102.out)
        have y102_3 : v102.cell? ⟨w.heap.size, 3, none⟩ = some (.int .u64 po) := HX102.out.cell 3
        clear HX102
        have hv1 : Hid (B1 = (po == 0)) := hid (by rw [HQ1.out]; rfl)
        go_wp2_with fail
        go_meet
        case rel => exact ⟨by rw [hv1.out]; first | rfl | simp, HC102.out⟩
      · go_wp2_with fail
        refine (HH1.out _).mono ?_
        rintro r v103 ⟨rfl, hb103⟩
        have HC103 := hid (below_then hb103 HB1.out)
        clear hb103
        have HX103 := hid (HBX.out.later HC103.out)
        have y103_3 : v103.cell? ⟨w.heap.size, 3, none⟩ = some (.int .u64 po) := HX103.out.cell 3
        clear HX103
        cases R1
        · go_wp2_with fail
          refine (HPO.out _).mono ?_
          rintro r v104 ⟨rfl, rfl⟩
          have hv1 : Hid (B1 = false) := hid (by rw [HQ1.out]; rfl)
          go_wp2_with fail
          go_meet
          case rel => exact ⟨by rw [hv1.out]; first | rfl | simp, HC103.out⟩
        · go_wp2_with fail
          refine (HPO.out _).mono ?_
          rintro r v104 ⟨rfl, rfl⟩
          go_wp2_with fail
          refine (HH1.out _).mono ?_
          rintro r v105 ⟨rfl, hb105⟩
          have HC105 := hid (below_then hb105 HC103.out)
          clear hb105
          have hv1 : Hid (B1 = true) := hid (by rw [HQ1.out]; rfl)
          go_wp2_with fail
          go_meet
          case rel => exact ⟨by rw [hv1.out]; first | rfl | simp, HC105.out⟩
    case rest =>
      obtain ⟨rfl, hbc⟩ := hcut
      have HB2 := hid hbc
      clear hbc
      obtain ⟨w1, hwn⟩ : ∃ W : World, W = wc := ⟨_, rfl⟩
      subst hwn
      cases B1
      · have hff : Hid (MM = false) := hid (by rw [HM.out]; simp)
        go_wp2_with fail
        go_ret
        exact ⟨by rw [hff.out]; rfl, HB0.out.trans (HB2.out.mono HB0.out.size)⟩
      · go_upto_region 6 with (fail)
        go_cut [51] from 30 to 50 (fun v V => v = .bool (!B2) ∧ Below w0.heap.size w0 V)
        case first =>
          cases H2
          · go_wp2_with fail
            refine (HH2.out _).mono ?_
            rintro r v106 ⟨rfl, hb106⟩
            have HC106 := hid (below_then hb106 HB2.out)
            clear hb106
            go_wp2_with fail
            refine (HH2.out _).mono ?_
            rintro r v107 ⟨rfl, hb107⟩
            have HC107 := hid (below_then hb107 HC106.out)
            clear hb107
            have HX107 := hid (HBX.out.later HC107.out)
            have y107_4 : v107.cell? ⟨w.heap.size, 4, none⟩ = some (.int .i64 cn) := HX107.out.cell 4
            clear HX107
            have hv2 : Hid (B2 = (cn == 0)) := hid (by rw [HQ2.out]; rfl)
            go_wp2_with fail
            go_meet
            case rel => exact ⟨by rw [hv2.out]; first | rfl | simp, HC107.out⟩
          · go_wp2_with fail
            refine (HH2.out _).mono ?_
            rintro r v108 ⟨rfl, hb108⟩
            have HC108 := hid (below_then hb108 HB2.out)
            clear hb108
            have HX108 := hid (HBX.out.later HC108.out)
            have y108_4 : v108.cell? ⟨w.heap.size, 4, none⟩ = some (.int .i64 cn) := HX108.out.cell 4
            clear HX108
            by_cases g1 : cn < 1
            · have d1 : decide (cn < 1) = true := decide_eq_true g1
              have hv2 : Hid (B2 = false) := hid (by rw [HQ2.out]; show (decide (1 ≤ cn) && _) = false; rw [decide_eq_false (by omega)]; rfl)
              go_wp2_with fail
              go_meet
              case rel => exact ⟨by rw [hv2.out]; first | rfl | simp, HC108.out⟩
            · have d1 : decide (cn < 1) = false := decide_eq_false g1
              by_cases g2 : 65536 < cn
              · have d2 : decide (65536 < cn) = true := decide_eq_true g2
                have hv2 : Hid (B2 = false) := hid (by rw [HQ2.out]; show (decide (1 ≤ cn) && decide (cn ≤ 65536)) = false; rw [decide_eq_false (by omega : ¬ cn ≤ 65536), Bool.and_false])
                go_wp2_with fail
                go_meet
                case rel => exact ⟨by rw [hv2.out]; first | rfl | simp, HC108.out⟩
              · have d2 : decide (65536 < cn) = false := decide_eq_false g2
                have hv2 : Hid (B2 = true) := hid (by rw [HQ2.out]; show (decide (1 ≤ cn) && decide (cn ≤ 65536)) = true; rw [decide_eq_true (by omega : cn ≤ 65536), decide_eq_true (by omega : 1 ≤ cn)]; rfl)
                go_wp2_with fail
                refine (HH2.out _).mono ?_
                rintro r v109 ⟨rfl, hb109⟩
                have HC109 := hid (below_then hb109 HC108.out)
                clear hb109
                go_wp2_with fail
                go_meet
                case rel => exact ⟨by rw [hv2.out]; first | rfl | simp, HC109.out⟩
        case rest =>
          obtain ⟨rfl, hbc⟩ := hcut
          have HB3 := hid hbc
          clear hbc
          obtain ⟨w2, hwn⟩ : ∃ W : World, W = wc := ⟨_, rfl⟩
          subst hwn
          cases B2
          · have hff : Hid (MM = false) := hid (by rw [HM.out]; simp)
            go_wp2_with fail
            go_ret
            exact ⟨by rw [hff.out]; rfl, HB0.out.trans (HB3.out.mono HB0.out.size)⟩
          · go_upto_region 8 with (fail)
            go_cut [75] from 52 to 74 (fun v V => v = .bool (!B4) ∧ Below w0.heap.size w0 V)
            case first =>
              have HX4 := hid (HBX.out.later HB3.out)
              have Y5 := fun s : Later w2 => s.cell (HX4.out.cell 5 : w2.cell? ⟨w.heap.size, 5, none⟩ = some (.int .i64 st))
              cases H4
              · have hv4 : Hid (B4 = (st == 0)) := hid (by rw [HQ4.out]; rfl)
                refine wp_region_later (by kernel_rfl) (by kernel_rfl) ?_
                repeat (go_big_quiet_step ((first | (go_at_call 88; with_reducible exact later_of (HH4.out _)) | (go_at_call 90; with_reducible exact later_same (HMO.out _)))))
                refine wpQuiet_nil ?_
                rintro W5 ⟨⟨W5', hb5⟩, rfl⟩
                go_wp2_with fail
                go_meet
                case rel => exact ⟨by rw [hv4.out]; first | rfl | simp, below_then hb5 HB3.out⟩
              · by_cases g1 : st < 1
                · have d1 : decide (st < 1) = true := decide_eq_true g1
                  have hv4 : Hid (B4 = false) := hid (by rw [HQ4.out]; show (decide (1 ≤ st) && _) = false; rw [decide_eq_false (by omega)]; rfl)
                  refine wp_region_later (by kernel_rfl) (by kernel_rfl) ?_
                  repeat (go_big_quiet_step ((first | (go_at_call 88; with_reducible exact later_of (HH4.out _)) | (go_at_call 90; with_reducible exact later_same (HMO.out _)))))
                  refine wpQuiet_nil ?_
                  rintro W5 ⟨⟨W5', hb5⟩, rfl⟩
                  go_wp2_with fail
                  go_meet
                  case rel => exact ⟨by rw [hv4.out]; first | rfl | simp, below_then hb5 HB3.out⟩
                · have d1 : decide (st < 1) = false := decide_eq_false g1
                  by_cases g2 : MK < st
                  · have d2 : decide (MK < st) = true := decide_eq_true g2
                    have hv4 : Hid (B4 = false) := hid (by rw [HQ4.out]; show (decide (1 ≤ st) && decide (st ≤ MK)) = false; rw [decide_eq_false (by omega : ¬ st ≤ MK), Bool.and_false])
                    refine wp_region_later (by kernel_rfl) (by kernel_rfl) ?_
                    repeat (go_big_quiet_step ((first | (go_at_call 88; with_reducible exact later_of (HH4.out _)) | (go_at_call 90; with_reducible exact later_same (HMO.out _)))))
                    refine wpQuiet_nil ?_
                    rintro W5 ⟨⟨W5', hb5⟩, rfl⟩
                    go_wp2_with fail
                    go_meet
                    case rel => exact ⟨by rw [hv4.out]; first | rfl | simp, below_then hb5 HB3.out⟩
                  · have d2 : decide (MK < st) = false := decide_eq_false g2
                    have hv4 : Hid (B4 = true) := hid (by rw [HQ4.out]; show (decide (1 ≤ st) && decide (st ≤ MK)) = true; rw [decide_eq_true (by omega : st ≤ MK), decide_eq_true (by omega : 1 ≤ st)]; rfl)
                    refine wp_region_later (by kernel_rfl) (by kernel_rfl) ?_
                    repeat (go_big_quiet_step ((first | (go_at_call 88; with_reducible exact later_of (HH4.out _)) | (go_at_call 90; with_reducible exact later_same (HMO.out _)))))
                    refine wpQuiet_nil ?_
                    rintro W5 ⟨⟨W5', hb5⟩, rfl⟩
                    go_wp2_with fail
                    go_meet
                    case rel => exact ⟨by rw [hv4.out]; first | rfl | simp, below_then hb5 HB3.out⟩
            case rest =>
              obtain ⟨rfl, hbc⟩ := hcut
              have HB4 := hid hbc
              clear hbc
              obtain ⟨w3, hwn⟩ : ∃ W : World, W = wc := ⟨_, rfl⟩
              subst hwn
              cases B4
              · have hff : Hid (MM = false) := hid (by rw [HM.out]; simp)
                go_wp2_with fail
                go_ret
                exact ⟨by rw [hff.out]; rfl, HB0.out.trans (HB4.out.mono HB0.out.size)⟩
              · go_upto_region 10 with (fail)
                go_cut [100] from 76 to 99 (fun v V => v = .bool (!B8) ∧ Below w0.heap.size w0 V)
                case first =>
                  cases H8
                  · go_wp2_with fail
                    refine (HH8.out _).mono ?_
                    rintro r v110 ⟨rfl, hb110⟩
                    have HC110 := hid (below_then hb110 HB4.out)
                    clear hb110
                    go_wp2_with fail
                    refine (HH8.out _).mono ?_
                    rintro r v111 ⟨rfl, hb111⟩
                    have HC111 := hid (below_then hb111 HC110.out)
                    clear hb111
                    have HX111 := hid (HBX.out.later HC111.out)
                    have y111_6 : v111.cell? ⟨w.heap.size, 6, none⟩ = some (.slice a1 SS.length c1) := HX111.out.cell 6
                    clear HX111
                    by_cases hz : SS.length = 0
                    · have hz1 : ((SS.length : Int) == 0) = true := by rw [len_zero]; exact decide_eq_true hz
                      have g1 : decide (0 < (SS.length : Int)) = false := decide_eq_false (by omega)
                      have g2 : decide (0 < SS.length) = false := decide_eq_false (by omega)
                      clear hz
                      have hv8 : Hid (B8 = true) := hid (by rw [HQ8.out]; exact hz1)
                      clear hz1
                      go_wp2_with fail
                      go_meet
                      case rel => exact ⟨by rw [hv8.out]; first | rfl | simp, HC111.out⟩
                    · have hz1 : ((SS.length : Int) == 0) = false := by rw [len_zero]; exact decide_eq_false hz
                      have g1 : decide (0 < (SS.length : Int)) = true := decide_eq_true (by omega)
                      have g2 : decide (0 < SS.length) = true := decide_eq_true (by omega)
                      clear hz
                      have hv8 : Hid (B8 = false) := hid (by rw [HQ8.out]; exact hz1)
                      clear hz1
                      go_wp2_with fail
                      go_meet
                      case rel => exact ⟨by rw [hv8.out]; first | rfl | simp, HC111.out⟩
                  · go_wp2_with fail
                    refine (HH8.out _).mono ?_
                    rintro r v112 ⟨rfl, hb112⟩
                    have HC112 := hid (below_then hb112 HB4.out)
                    clear hb112
                    have HX112 := hid (HBX.out.later HC112.out)
                    have y112_6 : v112.cell? ⟨w.heap.size, 6, none⟩ = some (.slice a1 SS.length c1) := HX112.out.cell 6
                    clear HX112
                    by_cases g1 : 16 < SS.length
                    · have d1 : decide ((16 : Int) < (SS.length : Int)) = true := decide_eq_true (by omega)
                      have hv8 : Hid (B8 = false) := hid (by rw [HQ8.out]; show (decide (SS.length ≤ 16) && _) = false; rw [decide_eq_false (by omega)]; rfl)
                      go_wp2_with fail
                      go_meet
                      case rel => exact ⟨by rw [hv8.out]; first | rfl | simp, HC112.out⟩
                    · have d1 : decide ((16 : Int) < (SS.length : Int)) = false := decide_eq_false (by omega)
                      cases RS
                      · have hv8 : Hid (B8 = false) := hid (by rw [HQ8.out]; show (_ && false) = false; rw [Bool.and_false])
                        go_wp2_with fail
                        refine (HST.out _ (HB0.out.trans (HC112.out.mono HB0.out.size))).mono ?_
                        rintro r v113 ⟨rfl, hb113⟩
                        have HC113 := hid (below_then hb113 HC112.out)
                        clear hb113
                        go_wp2_with fail
                        go_meet
                        case rel => exact ⟨by rw [hv8.out]; first | rfl | simp, HC113.out⟩
                      · have hv8 : Hid (B8 = true) := hid (by rw [HQ8.out]; show (decide (SS.length ≤ 16) && true) = true; rw [decide_eq_true (by omega)]; rfl)
                        go_wp2_with fail
                        refine (HST.out _ (HB0.out.trans (HC112.out.mono HB0.out.size))).mono ?_
                        rintro r v113 ⟨rfl, hb113⟩
                        have HC113 := hid (below_then hb113 HC112.out)
                        clear hb113
                        go_wp2_with fail
                        refine (HH8.out _).mono ?_
                        rintro r v114 ⟨rfl, hb114⟩
                        have HC114 := hid (below_then hb114 HC113.out)
                        clear hb114
                        go_wp2_with fail
                        go_meet
                        case rel => exact ⟨by rw [hv8.out]; first | rfl | simp, HC114.out⟩
                case rest =>
                  obtain ⟨rfl, hbc⟩ := hcut
                  have HB5 := hid hbc
                  clear hbc
                  obtain ⟨w4, hwn⟩ : ∃ W : World, W = wc := ⟨_, rfl⟩
                  subst hwn
                  cases B8
                  · have hff : Hid (MM = false) := hid (by rw [HM.out]; simp)
                    go_wp2_with fail
                    go_ret
                    exact ⟨by rw [hff.out]; rfl, HB0.out.trans (HB5.out.mono HB0.out.size)⟩
                  · go_upto_region 12 with (fail)
                    go_cut [121] from 101 to 120 (fun v V => v = .bool (!B16) ∧ Below w0.heap.size w0 V)
                    case first =>
                      cases H16
                      · go_wp2_with fail
                        refine (HH16.out _).mono ?_
                        rintro r v115 ⟨rfl, hb115⟩
                        have HC115 := hid (below_then hb115 HB5.out)
                        clear hb115
                        go_wp2_with fail
                        refine (HH16.out _).mono ?_
                        rintro r v116 ⟨rfl, hb116⟩
                        have HC116 := hid (below_then hb116 HC115.out)
                        clear hb116
                        have HX116 := hid (HBX.out.later HC116.out)
                        have y116_3 : v116.cell? ⟨w.heap.size, 3, none⟩ = some (.int .u64 po) := HX116.out.cell 3
                        have y116_7 : v116.cell? ⟨w.heap.size, 7, none⟩ = some (.slice a2 LS.length c2) := HX116.out.cell 7
                        clear HX116
                        by_cases hz : LS.length = 0
                        · have hz1 : ((LS.length : Int) == 0) = true := by rw [len_zero]; exact decide_eq_true hz
                          have g1 : decide (0 < (LS.length : Int)) = false := decide_eq_false (by omega)
                          have g2 : decide (0 < LS.length) = false := decide_eq_false (by omega)
                          clear hz
                          have hv16 : Hid (B16 = true) := hid (by rw [HQ16.out]; exact hz1)
                          clear hz1
                          go_wp2_with fail
                          go_meet
                          case rel => exact ⟨by rw [hv16.out]; first | rfl | simp, HC116.out⟩
                        · have hz1 : ((LS.length : Int) == 0) = false := by rw [len_zero]; exact decide_eq_false hz
                          have g1 : decide (0 < (LS.length : Int)) = true := decide_eq_true (by omega)
                          have g2 : decide (0 < LS.length) = true := decide_eq_true (by omega)
                          clear hz
                          have hv16 : Hid (B16 = false) := hid (by rw [HQ16.out]; exact hz1)
                          clear hz1
                          go_wp2_with fail
                          go_meet
                          case rel => exact ⟨by rw [hv16.out]; first | rfl | simp, HC116.out⟩
                      · go_wp2_with fail
                        refine (HH16.out _).mono ?_
                        rintro r v117 ⟨rfl, hb117⟩
                        have HC117 := hid (below_then hb117 HB5.out)
                        clear hb117
                        have HX117 := hid (HBX.out.later HC117.out)
                        have y117_3 : v117.cell? ⟨w.heap.size, 3, none⟩ = some (.int .u64 po) := HX117.out.cell 3
                        have y117_7 : v117.cell? ⟨w.heap.size, 7, none⟩ = some (.slice a2 LS.length c2) := HX117.out.cell 7
                        clear HX117
                        cases R16
                        · go_wp2_with fail
                          refine (HLK.out _ (HB0.out.trans (HC117.out.mono HB0.out.size))).mono ?_
                          rintro r v118 ⟨rfl, hb118⟩
                          have HC118 := hid (below_then hb118 HC117.out)
                          clear hb118
                          have hv16 : Hid (B16 = false) := hid (by rw [HQ16.out]; rfl)
                          go_wp2_with fail
                          go_meet
                          case rel => exact ⟨by rw [hv16.out]; first | rfl | simp, HC118.out⟩
                        · go_wp2_with fail
                          refine (HLK.out _ (HB0.out.trans (HC117.out.mono HB0.out.size))).mono ?_
                          rintro r v118 ⟨rfl, hb118⟩
                          have HC118 := hid (below_then hb118 HC117.out)
                          clear hb118
                          go_wp2_with fail
                          refine (HH16.out _).mono ?_
                          rintro r v119 ⟨rfl, hb119⟩
                          have HC119 := hid (below_then hb119 HC118.out)
                          clear hb119
                          have hv16 : Hid (B16 = true) := hid (by rw [HQ16.out]; rfl)
                          go_wp2_with fail
                          go_meet
                          case rel => exact ⟨by rw [hv16.out]; first | rfl | simp, HC119.out⟩
                    case rest =>
                      obtain ⟨rfl, hbc⟩ := hcut
                      have HB6 := hid hbc
                      clear hbc
                      obtain ⟨w5, hwn⟩ : ∃ W : World, W = wc := ⟨_, rfl⟩
                      subst hwn
                      cases B16
                      · have hff : Hid (MM = false) := hid (by rw [HM.out]; simp)
                        go_wp2_with fail
                        go_ret
                        exact ⟨by rw [hff.out]; rfl, HB0.out.trans (HB6.out.mono HB0.out.size)⟩
                      · go_upto_region 14 with (fail)
                        go_cut [138] from 122 to 137 (fun v V => v = .bool (!DB) ∧ Below w0.heap.size w0 V)
                        case first =>
                          have HX5 := hid (HBX.out.later HB6.out)
                          have y5_5 : w5.cell? ⟨w.heap.size, 5, none⟩ = some (.int .i64 st) := HX5.out.cell 5
                          have y5_8 : w5.cell? ⟨w.heap.size, 8, none⟩ = some (.slice a3 DD.length c3) := HX5.out.cell 8
                          clear HX5
                          by_cases g0 : DD.length = 0
                          · have d0 : decide ((0 : Int) < (DD.length : Int)) = false := decide_eq_false (by omega)
                            have d0n : decide (0 < DD.length) = false := decide_eq_false (by omega)
                            have d1 : decide ((1048576 : Int) < (DD.length : Int)) = false := decide_eq_false (by omega)
                            have hvD : Hid (DB = true) := hid (by rw [HDB.out]; rw [len_zero, decide_eq_true g0]; rfl)
                            clear g0
                            go_wp2_with fail
                            go_meet
                            case rel => exact ⟨by rw [hvD.out]; first | rfl | simp, HB6.out⟩
                          · have d0 : decide ((0 : Int) < (DD.length : Int)) = true := decide_eq_true (by omega)
                            have d0n : decide (0 < DD.length) = true := decide_eq_true (by omega)
                            cases BL
                            · have hvD : Hid (DB = false) := hid (by rw [HDB.out]; rw [len_zero, decide_eq_false g0]; rfl)
                              clear g0
                              go_wp2_with fail
                              refine (HBL.out _).mono ?_
                              rintro r v120 ⟨rfl, rfl⟩
                              go_wp2_with fail
                              go_meet
                              case rel => exact ⟨by rw [hvD.out]; first | rfl | simp, HB6.out⟩
                            · by_cases g1 : 1048576 < DD.length
                              · have d1 : decide ((1048576 : Int) < (DD.length : Int)) = true := decide_eq_true (by omega)
                                have hvD : Hid (DB = false) := hid (by rw [HDB.out]; rw [len_zero, decide_eq_false g0, decide_eq_false (by omega)]; rfl)
                                clear g0
                                go_wp2_with fail
                                refine (HBL.out _).mono ?_
                                rintro r v120 ⟨rfl, rfl⟩
                                go_wp2_with fail
                                go_meet
                                case rel => exact ⟨by rw [hvD.out]; first | rfl | simp, HB6.out⟩
                              · have d1 : decide ((1048576 : Int) < (DD.length : Int)) = false := decide_eq_false (by omega)
                                have hvD : Hid (DB = true) := hid (by rw [HDB.out]; rw [len_zero, decide_eq_false g0, decide_eq_true (by omega)]; rfl)
                                clear g0
                                go_wp2_with fail
                                refine (HBL.out _).mono ?_
                                rintro r v120 ⟨rfl, rfl⟩
                                go_wp2_with fail
                                go_meet
                                case rel => exact ⟨by rw [hvD.out]; first | rfl | simp, HB6.out⟩
                        case rest =>
                          obtain ⟨rfl, hbc⟩ := hcut
                          have HB7 := hid hbc
                          clear hbc
                          obtain ⟨w6, hwn⟩ : ∃ W : World, W = wc := ⟨_, rfl⟩
                          subst hwn
                          cases DB
                          · have hff : Hid (MM = false) := hid (by rw [HM.out]; simp)
                            go_wp2_with fail
                            go_ret
                            exact ⟨by rw [hff.out]; rfl, HB0.out.trans (HB7.out.mono HB0.out.size)⟩
                          · go_upto_region 16 with (fail)
                            go_cut [157] from 139 to 156 (fun v V => v = .bool (!B64) ∧ Below w0.heap.size w0 V)
                            case first =>
                              cases H64
                              · go_wp2_with fail
                                refine (HH64.out _).mono ?_
                                rintro r v121 ⟨rfl, hb121⟩
                                have HC121 := hid (below_then hb121 HB7.out)
                                clear hb121
                                go_wp2_with fail
                                refine (HH64.out _).mono ?_
                                rintro r v122 ⟨rfl, hb122⟩
                                have HC122 := hid (below_then hb122 HC121.out)
                                clear hb122
                                have HX122 := hid (HBX.out.later HC122.out)
                                have y122_9 : v122.cell? ⟨w.heap.size, 9, none⟩ = some (.int .u64 se) := HX122.out.cell 9
                                have y122_10 : v122.cell? ⟨w.heap.size, 10, none⟩ = some (.int .u64 sn) := HX122.out.cell 10
                                have y122_11 : v122.cell? ⟨w.heap.size, 11, none⟩ = some (.int .u64 tl) := HX122.out.cell 11
                                clear HX122
                                cases hc : (se == 0)
                                · have hc' : (se != 0) = true := by rw [bne, hc]; rfl
                                  have hv64 : Hid (B64 = false) := hid (by rw [HQ64.out]; simp [withinR, hc])
                                  go_wp2_with fail
                                  go_meet
                                  case rel => exact ⟨by rw [hv64.out]; first | rfl | simp, HC122.out⟩
                                · cases hd : (sn == 0)
                                  · have hv64 : Hid (B64 = false) := hid (by rw [HQ64.out]; simp [withinR, hc, hd])
                                    go_wp2_with fail
                                    go_meet
                                    case rel => exact ⟨by rw [hv64.out]; first | rfl | simp, HC122.out⟩
                                  · cases he : (tl == 0)
                                    · have hv64 : Hid (B64 = false) := hid (by rw [HQ64.out]; simp [withinR, hc, hd, he])
                                      go_wp2_with fail
                                      go_meet
                                      case rel => exact ⟨by rw [hv64.out]; first | rfl | simp, HC122.out⟩
                                    · have hv64 : Hid (B64 = true) := hid (by rw [HQ64.out]; simp [withinR, hc, hd, he])
                                      go_wp2_with fail
                                      go_meet
                                      case rel => exact ⟨by rw [hv64.out]; first | rfl | simp, HC122.out⟩
                              · go_wp2_with fail
                                refine (HH64.out _).mono ?_
                                rintro r v123 ⟨rfl, hb123⟩
                                have HC123 := hid (below_then hb123 HB7.out)
                                clear hb123
                                have HX123 := hid (HBX.out.later HC123.out)
                                have y123_9 : v123.cell? ⟨w.heap.size, 9, none⟩ = some (.int .u64 se) := HX123.out.cell 9
                                have y123_10 : v123.cell? ⟨w.heap.size, 10, none⟩ = some (.int .u64 sn) := HX123.out.cell 10
                                have y123_11 : v123.cell? ⟨w.heap.size, 11, none⟩ = some (.int .u64 tl) := HX123.out.cell 11
                                clear HX123
                                cases R64
                                · go_wp2_with fail
                                  refine (HSE.out _).mono ?_
                                  rintro r v124 ⟨rfl, hb124⟩
                                  have HC124 := hid (below_then hb124 HC123.out)
                                  clear hb124
                                  have hv64 : Hid (B64 = false) := hid (by rw [HQ64.out]; rfl)
                                  go_wp2_with fail
                                  go_meet
                                  case rel => exact ⟨by rw [hv64.out]; first | rfl | simp, HC124.out⟩
                                · go_wp2_with fail
                                  refine (HSE.out _).mono ?_
                                  rintro r v124 ⟨rfl, hb124⟩
                                  have HC124 := hid (below_then hb124 HC123.out)
                                  clear hb124
                                  go_wp2_with fail
                                  refine (HH64.out _).mono ?_
                                  rintro r v125 ⟨rfl, hb125⟩
                                  have HC125 := hid (below_then hb125 HC124.out)
                                  clear hb125
                                  have hv64 : Hid (B64 = true) := hid (by rw [HQ64.out]; rfl)
                                  go_wp2_with fail
                                  go_meet
                                  case rel => exact ⟨by rw [hv64.out]; first | rfl | simp, HC125.out⟩
                            case rest =>
                              obtain ⟨rfl, hbc⟩ := hcut
                              have HB8 := hid hbc
                              clear hbc
                              obtain ⟨w7, hwn⟩ : ∃ W : World, W = wc := ⟨_, rfl⟩
                              subst hwn
                              cases B64
                              · have hff : Hid (MM = false) := hid (by rw [HM.out]; simp)
                                go_wp2_with fail
                                go_ret
                                exact ⟨by rw [hff.out]; rfl, HB0.out.trans (HB8.out.mono HB0.out.size)⟩
                              · cases H128
                                · go_wp2_with fail
                                  refine (HH128.out _).mono ?_
                                  rintro r v126 ⟨rfl, hb126⟩
                                  have HC126 := hid (below_then hb126 HB8.out)
                                  clear hb126
                                  go_wp2_with fail
                                  refine (HH128.out _).mono ?_
                                  rintro r v127 ⟨rfl, hb127⟩
                                  have HC127 := hid (below_then hb127 HC126.out)
                                  clear hb127
                                  have HX127 := hid (HBX.out.later HC127.out)
                                  have y127_12 : v127.cell? ⟨w.heap.size, 12, none⟩ = some (.int .u64 pe) := HX127.out.cell 12
                                  have y127_13 : v127.cell? ⟨w.heap.size, 13, none⟩ = some (.slice a4 PL.length c4) := HX127.out.cell 13
                                  clear HX127
                                  cases hc : (pe == 0)
                                  · have hff : Hid (MM = false) := hid (by rw [HM.out, HQ128.out]; simp [withinR, hc])
                                    go_wp2_with fail
                                    go_ret
                                    exact ⟨by rw [hff.out]; first | rfl | simp, (HB0.out.trans (HC127.out.mono HB0.out.size))⟩
                                  · have hff : Hid (MM = ((PL.length : Int) == 0)) := hid (by rw [HM.out, HQ128.out]; simp [withinR, hc])
                                    go_wp2_with fail
                                    go_ret
                                    exact ⟨by rw [hff.out]; first | rfl | simp, (HB0.out.trans (HC127.out.mono HB0.out.size))⟩
                                · go_wp2_with fail
                                  refine (HH128.out _).mono ?_
                                  rintro r v128 ⟨rfl, hb128⟩
                                  have HC128 := hid (below_then hb128 HB8.out)
                                  clear hb128
                                  have HX128 := hid (HBX.out.later HC128.out)
                                  have y128_12 : v128.cell? ⟨w.heap.size, 12, none⟩ = some (.int .u64 pe) := HX128.out.cell 12
                                  have y128_13 : v128.cell? ⟨w.heap.size, 13, none⟩ = some (.slice a4 PL.length c4) := HX128.out.cell 13
                                  clear HX128
                                  cases R128
                                  · have hff : Hid (MM = false) := hid (by rw [HM.out, HQ128.out]; simp [withinR])
                                    go_wp2_with fail
                                    refine (HPR.out _ (HB0.out.trans (HC128.out.mono HB0.out.size))).mono ?_
                                    rintro r v129 ⟨rfl, hb129⟩
                                    have HC129 := hid (below_then hb129 HC128.out)
                                    clear hb129
                                    go_wp2_with fail
                                    refine (HH128.out _).mono ?_
                                    rintro r v130 ⟨rfl, hb130⟩
                                    have HC130 := hid (below_then hb130 HC129.out)
                                    clear hb130
                                    go_wp2_with fail
                                    go_ret
                                    exact ⟨by rw [hff.out]; first | rfl | simp, (HB0.out.trans (HC130.out.mono HB0.out.size))⟩
                                  · have hff : Hid (MM = true) := hid (by rw [HM.out, HQ128.out]; simp [withinR])
                                    go_wp2_with fail
                                    refine (HPR.out _ (HB0.out.trans (HC128.out.mono HB0.out.size))).mono ?_
                                    rintro r v129 ⟨rfl, hb129⟩
                                    have HC129 := hid (below_then hb129 HC128.out)
                                    clear hb129
                                    go_wp2_with fail
                                    go_ret
                                    exact ⟨by rw [hff.out]; first | rfl | simp, (HB0.out.trans (HC129.out.mono HB0.out.size))⟩
end Go.Proofs.YtlbffbkbkajciaaGreat
namespace Go.Proofs.YtlbffbkbkajciaaGreat
open Go.RowKit Go.Bs Go.Maps
set_option linter.unusedVariables false
set_option linter.unusedSimpArgs false

theorem OwnB.app1 {w : World} {base : Nat} {v : Value} {L : List UInt8} {n : Nat} (hn : n < 128) (h : w.ownsRow base 5 1 v (L.length + 1) (byteCells L ++ [.int .u8 (n : Int)])) : OwnB w base v (L ++ varB n) := by
  unfold OwnB
  rw [List.length_append, varB_len_small hn, ← byteCells_app3, varB_cells hn]
  exact h
theorem own_lt2 {W : World} {lo : Nat} {e : TypeId} {sz n : Nat} {v : Value} {xs : List Value} (h : W.ownsRow lo e sz v n xs) : ∀ b, v.ownBlock = some b → lo ≤ b ∧ b < W.heap.size := fun b hv => h.lt b hv
theorem src_blk2 {w : World} {g : Nat} {t : TypeId} {cs : List Value} (h : Blk w g t cs.toArray) {sz : Nat} (hs : cs.length = sz) : Src w (some ⟨g, 0, none⟩) 1 sz cs := by
  refine ⟨by omega, .inr ⟨_, 0, rfl, fun j u hu => ?_⟩⟩
  rw [Nat.zero_add, h.cell]
  simpa using hu
theorem ref04_ownM (x : Int) (hx : 0 ≤ x ∧ x ≤ 18446744073709551615) (W : World) : Calls Tryz.prog 104 #[.int .u64 x] W fun r w' => ∃ v, r = .returned v ∧ OwnB w' W.heap.size v (varB x.toNat) ∧ Below W.heap.size W w' := by
  have := ref04_own x.toNat (by omega) W
  rw [toNat_cast hx.1] at this
  exact this

set_option maxRecDepth 100000 in
set_option maxHeartbeats 6400000 in
theorem ref19_bytes (w : World) (s : Stripe) (al : Option Addr) (nl cl : Nat) (h0 : inU s.lo) (h1 : inU s.hi) (hl : rSets.r (· < w.heap.size) w [.slice al nl cl] s.sets) (hR : stripeR s = true) :
    Calls Tryz.prog 176 #[.agg #[.int .u64 s.lo, .int .u64 s.hi, .slice al nl cl]] w fun r w' => ∃ v, r = .returned v ∧ OwnB w' w.heap.size v (stripeB s) ∧ Below w.heap.size w w' := by
  obtain ⟨rfl, hm, _, _⟩ := sl_len hl
  obtain ⟨i0, hi, hz0, hz1, hz2⟩ := info_parts info8
  have hlen := stripe_len hR
  have hR' := hR
  simp only [stripeR, Bool.and_eq_true, decide_eq_true_eq] at hR'
  obtain ⟨⟨g1, g2, g3, g4⟩, g5⟩ := hR'
  have HNO := hid (fun (k : Nat) (hk : k < s.sets.length) => (by
    have := set_nodes g5 k hk
    simp only [nodesR, Bool.and_eq_true, decide_eq_true_eq] at this
    exact ⟨this.1.2, this.2.1⟩ : s.sets[k].length ≤ 8 ∧ risesB s.sets[k] = true))
  have HNS := hid (fun (k : Nat) (hk : k < s.sets.length) => setsB_step s.sets k hk)
  have HMO := hid (fun k => setsB_take_le s.sets k)
  have hbb : stripeB s = varB (s.hi - s.lo - 1).toNat ++ varB s.sets.length ++ setsB s.sets := rfl
  rw [hbb] at hlen ⊢
  simp only [List.length_append] at hlen
  have hlo := h0.1
  have hhi := h1.2
  have HV := hid (ref04_ownM (s.hi - s.lo - 1) (by omega))
  obtain ⟨lo, hip, l⟩ := s
  dsimp only at *
  have v1 : 0 ≤ hip - lo := by omega
  have v2 : 0 ≤ hip - lo - 1 := by omega
  have v3 : hip - lo ≤ 18446744073709551615 := by omega
  have HL := hid hl
  have HOV := hid (byteCells_one (varB (hip - lo - 1).toNat))
  generalize varB (hip - lo - 1).toNat = VA at *
  have hvl := varB_len_small (x := l.length) (by omega)
  rw [hvl] at hlen
  have hVA : VA.length ≤ 740 := by omega
  have x2 : (w.alloc (.cells #[.int .u64 lo, .int .u64 hip, .slice al l.length cl] 155)).cell? ⟨w.heap.size, 2, none⟩ = some (.slice al l.length cl) := by simp
  have hb0 : Below w.heap.size w (w.alloc (.cells #[.int .u64 lo, .int .u64 hip, .slice al l.length cl] 155)) := by (repeat (first | exact Below.refl _ _ | assumption | (refine below_alloc ?_ _) | (refine Below.setCell ?_ (by first | omega | (simp; done) | (simp; omega)) _) | (refine Below.drew ?_) | (refine below_drewN ?_ _) | (refine below_then (by assumption) ?_)))
  have hs0 : w.heap.size < (w.alloc (.cells #[.int .u64 lo, .int .u64 hip, .slice al l.length cl] 155)).heap.size := by simp
  clear hl hR hbb g5
  go_enter Tryz.func176, Tryz.ntmps176
  go_wp2_with fail
  generalize w.alloc (.cells #[.int .u64 lo, .int .u64 hip, .slice al l.length cl] 155) = w0 at *
  have HB0 := hid hb0
  clear hb0
  refine (HV.out _).mono ?_
  rintro r w1 ⟨v1', rfl, hv1, hb1⟩
  obtain ⟨a1, c1, rfl⟩ := own_form hv1
  have HO1 := hid hv1
  have X2 := (hb1.cell (p := ⟨w.heap.size, 2, none⟩) hs0).trans x2
  have hz1s := hb1.size
  have HB1 := hid hb1
  clear hv1 hb1
  go_wp2_with (at_builtin; go_loud (refine wpList_append_src rfl _ _ _ rfl w0.heap.size 5 i0 (.int .u8 0) 1 1 Tryz.underlying25 hi hz0 hz1 hz2 rfl (by decide) (.slice a1 VA.length c1) VA.length (byteCells VA) rfl (own_below HO1.out (by (repeat (first | with_reducible exact Below.refl _ _ | with_reducible assumption | (with_reducible refine below_alloc ?_ _) | (with_reducible refine Below.setCell ?_ (by first | omega | (simp; done) | (simp; omega)) _) | (with_reducible refine Below.drew ?_) | (with_reducible refine below_drewN ?_ _) | (refine below_then (by with_reducible assumption) ?_))))) (some ⟨w1.heap.size, 0, none⟩) (1) (1) [.int .u8 (l.length : Int)] rfl (src_new1 w1 _ _ rfl rfl rfl) (by intro u hu; simp at hu; subst hu; rfl) (by simp only [maxLen]; omega) (by omega) (by simp; omega) ?_; intro v' w3 hown3 hgrow3 hat3; obtain ⟨a3, c3, rfl⟩ := own_form hown3; have HO3 := hid (OwnB.app1 (by omega) hown3); have hbg3 : Below w0.heap.size (w1.alloc (.cells #[.int .u8 (l.length : Int)] 5)) w3 := (Below.grown (Below.refl _ _) hgrow3 (by simp; omega) (fun g e => (own_lt2 (own_below HO1.out (by (repeat (first | with_reducible exact Below.refl _ _ | with_reducible assumption | (with_reducible refine below_alloc ?_ _) | (with_reducible refine Below.setCell ?_ (by first | omega | (simp; done) | (simp; omega)) _) | (with_reducible refine Below.drew ?_) | (with_reducible refine below_drewN ?_ _) | (refine below_then (by with_reducible assumption) ?_))))) g e).1)); clear hown3 hgrow3 hat3))
  have hb13 : Below w0.heap.size w0 w3 := HB1.out.trans (((Below.refl _ _).alloc hz1s _).trans hbg3)
  have HB3 := hid hb13
  have X3 := (hb13.cell (p := ⟨w.heap.size, 2, none⟩) hs0).trans x2
  have hl3 : (VA ++ varB l.length).length = VA.length + 1 := by rw [List.length_append, hvl]
  clear X2 hbg3 hb13
  go_loopw [3, 4] (fun v i wr => ∃ (k : Nat) (J : List UInt8), k ≤ l.length ∧ i = .int .i64 k ∧ OwnB wr w0.heap.size v J ∧ Hid (J = VA ++ varB l.length ++ setsB (l.take k)) ∧ (∃ aJ cJ, v = .slice aJ J.length cJ) ∧ Below w0.heap.size w0 wr) (fun _ i _ => l.length - (intOf i).toNat)
  case atStart => exact ⟨0, VA ++ varB l.length, Nat.zero_le _, rfl, HO3.out, hid (by simp [setsB]), ⟨_, _, by rw [hl3]⟩, HB3.out⟩
  case round =>
    obtain ⟨k, J, hk, rfl, hown, hJ, ⟨aJ, cJ, rfl⟩, hb⟩ := hrel
    have HBW := hid (HB0.out.trans (hb.mono HB0.out.size))
    have HO := hid hown
    have hz := hb.size
    have Z2 := (hb.cell (p := ⟨w.heap.size, 2, none⟩) hs0).trans x2
    rcases Nat.lt_or_ge k l.length with hlt | hge
    · obtain ⟨b, o, hA, hbb, ak, ck, u0, xl⟩ := set_at HL.out hlt
      subst hA
      have hst := HNS.out k hlt
      have hmo := HMO.out (k + 1)
      rw [hst, List.length_append] at hmo
      have hno := HNO.out k hlt
      have hsb : setB l[k] = varB l[k].length ++ upsB l[k] := rfl
      have hsl : (setB l[k]).length = (varB l[k].length).length + (upsB l[k]).length := by rw [hsb, List.length_append]
      have hJ1 : J ++ varB l[k].length ++ upsB l[k] = VA ++ varB l.length ++ setsB (l.take (k + 1)) := by rw [hst, hsb, hJ.out]; simp only [List.append_assoc]
      have hJl : J.length + (upsB l[k]).length ≤ 20000000 := by have := congrArg List.length hJ.out; simp only [List.length_append] at this; omega
      have HJ1 := hid hJ1
      have HXL := hid xl
      have i1 : (k : Int) < (l.length : Int) := by omega
      have d1 : decide ((k : Int) < (l.length : Int)) = true := decide_eq_true i1
      have U0 := (HBW.out.cell (p := ⟨b, o + k, none⟩) hbb).trans u0
      have hb2 : b < w0.heap.size := Nat.lt_of_lt_of_le hbb HB0.out.size
      generalize l[k] = X at *
      have hx8 := hno.1
      have HRI := hid hno.2
      have HBY := hid (fun (W : World) (hW : Below w.heap.size w W) => ref05_bytes W X ak _ ck (lift HXL.out hW) HRI.out (by omega))
      have HOU := hid (byteCells_one (upsB X))
      have hvx := varB_len_small (x := X.length) (by omega)
      generalize upsB X = UX at *
      clear hown hJ hmo hsb hsl hJ1 xl hno hst hbb u0
      go_wp2_with (at_builtin; go_loud (refine wpList_append_src rfl _ _ _ rfl w0.heap.size 5 i0 (.int .u8 0) 1 1 Tryz.underlying25 hi hz0 hz1 hz2 rfl (by decide) (.slice aJ J.length cJ) J.length (byteCells J) rfl (own_below HO.out (by (repeat (first | with_reducible exact Below.refl _ _ | with_reducible assumption | (with_reducible refine below_alloc ?_ _) | (with_reducible refine Below.setCell ?_ (by first | omega | (simp; done) | (simp; omega)) _) | (with_reducible refine Below.drew ?_) | (with_reducible refine below_drewN ?_ _) | (refine below_then (by with_reducible assumption) ?_))))) (some ⟨wr.heap.size, 0, none⟩) (1) (1) [.int .u8 (X.length : Int)] rfl (src_new1 wr _ _ rfl rfl rfl) (by intro u hu; simp at hu; subst hu; rfl) (by simp only [maxLen]; omega) (by omega) (by simp; omega) ?_; intro v' w5 hown5 hgrow5 hat5; obtain ⟨a5, c5, rfl⟩ := own_form hown5; have HO5 := hid (OwnB.app1 (by omega) hown5); have hbg5 : Below w0.heap.size (wr.alloc (.cells #[.int .u8 (X.length : Int)] 5)) w5 := (Below.grown (Below.refl _ _) hgrow5 (by simp; omega) (fun g e => (own_lt2 (own_below HO.out (by (repeat (first | with_reducible exact Below.refl _ _ | with_reducible assumption | (with_reducible refine below_alloc ?_ _) | (with_reducible refine Below.setCell ?_ (by first | omega | (simp; done) | (simp; omega)) _) | (with_reducible refine Below.drew ?_) | (with_reducible refine below_drewN ?_ _) | (refine below_then (by with_reducible assumption) ?_))))) g e).1)); have hb5 : Below w0.heap.size wr w5 := (((Below.refl _ _).alloc hz _).trans hbg5); have Z5 := (hb5.cell (p := ⟨w.heap.size, 2, none⟩) hs0).trans Z2; have U5 := (hb5.cell (p := ⟨b, o + k, none⟩) hb2).trans U0; clear hown5 hgrow5 hat5))
      have hz5 := hb5.size
      have hln : (J ++ varB X.length).length = J.length + 1 := by rw [List.length_append, hvx]
      generalize J ++ varB X.length = J5 at *
      have HP5 := hid (HO5.out)
      rw [← hln] at HP5 ⊢
      have hJ5 : J5.length + UX.length ≤ 20000001 := by omega
      have hbw5 := hb.trans hb5
      have HBW5 := hid (HB0.out.trans (hbw5.mono HB0.out.size))
      have HBX := hid (HBY.out w5 HBW5.out)
      clear hln hb5 hbg5
      refine HBX.out.mono ?_
      rintro r w6 ⟨v6, rfl, hv6, hb6⟩
      obtain ⟨a6, c6, rfl⟩ := own_form hv6
      have HS6 := hid (src_bytes (own_bytes rfl hv6))
      have HO6 := hid (own_below HP5.out hb6)
      have hz6 := hb6.size
      clear hv6 Z5 U5
      go_wp2_with (at_builtin; go_loud (refine wpList_append_src rfl _ _ _ rfl w0.heap.size 5 i0 (.int .u8 0) 1 1 Tryz.underlying25 hi hz0 hz1 hz2 rfl (by decide) (.slice a5 J5.length c5) J5.length (byteCells J5) rfl (HO6.out) (a6) (UX.length) (c6) (byteCells UX) rfl (HS6.out) HOU.out (by simp only [maxLen]; omega) (by omega) (by omega) ?_; intro v' w7 hown7 hgrow7 hat7; obtain ⟨a7, c7, rfl⟩ := own_form hown7; have HO7 := hid (OwnB.app hown7); have hbg7 : Below w0.heap.size w6 w7 := (Below.grown (Below.refl _ _) hgrow7 (by omega) (fun g e => (own_lt2 (HO6.out) g e).1)); clear hown7 hgrow7 hat7))
      have hbe : Below w0.heap.size w0 w7 := hbw5.trans ((hb6.mono (by omega)).trans hbg7)
      go_roundw
      case rel => exact ⟨k + 1, J5 ++ UX, by omega, by go_num, HO7.out, HJ1, ⟨_, _, by rw [List.length_append]⟩, hbe⟩
      case measure => (simp [intOf]; try omega)
    · obtain rfl : k = l.length := by omega
      have d1 : decide ((l.length : Int) < (l.length : Int)) = false := decide_eq_false (by omega)
      have hfin : Hid (J = VA ++ varB l.length ++ setsB l) := hid (by have := hJ.out; rwa [List.take_length] at this)
      have HOL := hid (ownB_low HO.out (Nat.le_of_lt hs0))
      clear hown hJ
      go_wp2_with fail
      go_ret
      rw [← hfin.out]
      exact ⟨_, rfl, HOL.out, HBW.out⟩
set_option maxRecDepth 100000 in
set_option maxHeartbeats 6400000 in
theorem ref20_bytes (w : World) (p : Projn) (al : Option Addr) (nl cl : Nat) (h0 : inU p.epoch) (hl : rStripes.r (· < w.heap.size) w [.slice al nl cl] p.stripes) (hR : projR p = true) :
    Calls Tryz.prog 109 #[.agg #[.int .u64 p.epoch, .slice al nl cl]] w fun r w' => ∃ v, r = .returned v ∧ OwnB w' w.heap.size v (projB p) ∧ Below w.heap.size w w' := by
  obtain ⟨rfl, hm, _, _⟩ := sl_len hl
  obtain ⟨i0, hi, hz0, hz1, hz2⟩ := info_parts info8
  have hlen := proj_len hR
  have hR' := hR
  simp only [projR, Bool.and_eq_true, decide_eq_true_eq] at hR'
  obtain ⟨g1, ⟨g2, g3⟩, g4⟩ := hR'
  have HNO := hid (fun (k : Nat) (hk : k < p.stripes.length) => chain_all _ _ g4 p.stripes[k] (List.getElem_mem hk))
  have HNS := hid (fun (k : Nat) (hk : k < p.stripes.length) => stripesB_step p.stripes k hk)
  have HMO := hid (fun k => stripesB_take_le p.stripes k)
  have hbb : projB p = varB p.epoch.toNat ++ varB p.stripes.length ++ stripesB p.stripes := rfl
  rw [hbb] at hlen ⊢
  simp only [List.length_append] at hlen
  have HV := hid (ref04_ownM p.epoch h0)
  obtain ⟨ep, l⟩ := p
  dsimp only at *
  have HL := hid hl
  have HOV := hid (byteCells_one (varB ep.toNat))
  generalize varB ep.toNat = VA at *
  have hvl := varB_len_small (x := l.length) (by omega)
  rw [hvl] at hlen
  have hVA : VA.length ≤ 47380 := by omega
  have HWL : Hid (IntKind.u8.wrap (l.length : Int) = (l.length : Int)) := hid (by rw [IntKind.wrap_u8]; omega)
  have x0 : (w.alloc (.cells #[.int .u64 ep, .slice al l.length cl] 30)).cell? ⟨w.heap.size, 0, none⟩ = some (.int .u64 ep) := by simp
  have x1 : (w.alloc (.cells #[.int .u64 ep, .slice al l.length cl] 30)).cell? ⟨w.heap.size, 1, none⟩ = some (.slice al l.length cl) := by simp
  have hb0 : Below w.heap.size w (w.alloc (.cells #[.int .u64 ep, .slice al l.length cl] 30)) := by (repeat (first | exact Below.refl _ _ | assumption | (refine below_alloc ?_ _) | (refine Below.setCell ?_ (by first | omega | (simp; done) | (simp; omega)) _) | (refine Below.drew ?_) | (refine below_drewN ?_ _) | (refine below_then (by assumption) ?_)))
  have hs0 : w.heap.size < (w.alloc (.cells #[.int .u64 ep, .slice al l.length cl] 30)).heap.size := by simp
  clear hl hR hbb g1 g4
  go_enter Tryz.func109, Tryz.ntmps109
  go_upto_region 1 with (fail)
  generalize w.alloc (.cells #[.int .u64 ep, .slice al l.length cl] 30) = w0 at *
  have HB0 := hid hb0
  clear hb0
  go_cut [3] from 5 to 13 (fun v V => ∃ a3 c3, v = .slice a3 (VA.length + 1) c3 ∧ OwnB V w0.heap.size v (VA ++ varB l.length) ∧ Below w0.heap.size w0 V)
  case first =>
    refine wp_region_held_drew (S := fun w' => w'.cell? ⟨w.heap.size, 0, none⟩ = some (.int .u64 ep) ∧ w'.cell? ⟨w.heap.size, 1, none⟩ = some (.slice al l.length cl)) (by kernel_rfl) ⟨x0, x1⟩ (fun hHeld => ?_)
    refine wpAnyH_take (i := 0) (oi := _) (v := ?_) rfl (by decide +kernel) (by decide +kernel) (by decide +kernel) (fun _ _ _ h => h) (Or.inl ⟨by rfl, ?_⟩) (by assumption) ?_
    rotate_left
    · (intro w hSw; (try dsimp only at hSw); go_simp <;> with_reducible rfl)
    (try simp only [Act.put, List.setIfInBounds_toArray, List.set_cons_zero, List.set_cons_succ])
    refine wpAnyH_take (i := 1) (oi := _) (v := ?_) rfl (by decide +kernel) (by decide +kernel) (by decide +kernel) (fun _ _ _ h => h) (Or.inl ⟨by rfl, ?_⟩) (by assumption) ?_
    rotate_left
    · (intro w hSw; (try dsimp only at hSw); go_simp <;> with_reducible rfl)
    (try simp only [Act.put, List.setIfInBounds_toArray, List.set_cons_zero, List.set_cons_succ])
    refine wpAnyH_take (i := 3) (oi := _) (v := ?_) rfl (by decide +kernel) (by decide +kernel) (by decide +kernel) (fun _ _ _ h => h) (Or.inl ⟨by rfl, ?_⟩) (by assumption) ?_
    rotate_left
    · (intro w hSw; (try dsimp only at hSw); go_simp <;> with_reducible rfl)
    (try simp only [Act.put, List.setIfInBounds_toArray, List.set_cons_zero, List.set_cons_succ])
    refine wpAnyH_take (i := 4) (oi := _) (v := ?_) rfl (by decide +kernel) (by decide +kernel) (by decide +kernel) (fun _ _ _ h => h) (Or.inl ⟨by rfl, ?_⟩) (by assumption) ?_
    rotate_left
    · (intro w hSw; (try dsimp only at hSw); go_simp <;> with_reducible rfl)
    (try simp only [Act.put, List.setIfInBounds_toArray, List.set_cons_zero, List.set_cons_succ])
    refine wpAnyH_take (i := 5) (oi := _) (v := ?_) rfl (by decide +kernel) (by decide +kernel) (by decide +kernel) (fun _ _ _ h => h) (Or.inl ⟨by rfl, ?_⟩) (by assumption) ?_
    rotate_left
    · (intro w hSw; (try dsimp only at hSw); go_simp <;> with_reducible rfl)
    (try simp only [Act.put, List.setIfInBounds_toArray, List.set_cons_zero, List.set_cons_succ])
    refine wpAnyH_take (i := 6) (oi := _) (v := ?_) rfl (by decide +kernel) (by decide +kernel) (by decide +kernel) (fun _ _ _ h => h) (Or.inl ⟨by rfl, ?_⟩) (by assumption) ?_
    rotate_left
    · (intro w hSw; (try dsimp only at hSw); go_simp <;> with_reducible rfl)
    (try simp only [Act.put, List.setIfInBounds_toArray, List.set_cons_zero, List.set_cons_succ])
    rw [HWL.out]
    refine wpAnyH_ready (rs := [2, 7]) (by decide +kernel) (by simp) ?_
    refine AllReadyH.cons (o := _) rfl (fun K hK => ?_) (AllReadyH.cons (o := _) rfl (fun K hK => ?_) AllReadyH.nil)
    · go_simp
      go_at_call 104
      refine (HV.out _).mono ?_
      rintro e1 w1 ⟨v1, rfl, hv1, hb1⟩
      obtain ⟨a1, c1, rfl⟩ := own_form hv1
      have HO1 := hid hv1
      have hb01 : Below w0.heap.size w0 w1 := below_then hb1 (Below.refl _ _).drew
      have X0 := (hb01.cell (p := ⟨w.heap.size, 0, none⟩) hs0).trans x0
      have X1 := (hb01.cell (p := ⟨w.heap.size, 1, none⟩) hs0).trans x1
      have hz1s := hb01.size
      clear hv1 hb1
      refine hK.out _ _ ?_ (fun hHeld => ?_)
      · ((try dsimp only); first | assumption | (refine ⟨?_, ?_⟩ <;> (first | assumption | (go_keep; done))))
      clear hK K
      (try simp only [Act.put, List.setIfInBounds_toArray, List.set_cons_zero, List.set_cons_succ])
      refine wpAnyH_ready (rs := [7]) (by decide +kernel) (by simp) ?_
      refine AllReadyH.cons (o := _) rfl (fun K hK => ?_) AllReadyH.nil
      go_simp
      refine hK.out _ _ ?_ (fun hHeld => ?_)
      · ((try dsimp only); first | assumption | (refine ⟨?_, ?_⟩ <;> (first | assumption | (go_keep; done))))
      clear hK K
      (try simp only [Act.put, List.setIfInBounds_toArray, List.set_cons_zero, List.set_cons_succ])
      refine wpAnyH_ready (rs := [8]) (by decide +kernel) (by simp) ?_
      refine AllReadyH.cons (o := _) rfl (fun K hK => ?_) AllReadyH.nil
      (refine step_append_src (by rfl) _ _ _ (by rfl) w0.heap.size 5 i0 (.int .u8 0) 1 1 Tryz.underlying25 hi hz0 hz1 hz2 rfl (by decide) (.slice a1 VA.length c1) VA.length (byteCells VA) (by rfl) (own_below HO1.out (by (repeat (first | with_reducible exact Below.refl _ _ | with_reducible assumption | (with_reducible refine below_alloc ?_ _) | (with_reducible refine Below.setCell ?_ (by first | omega | (simp; done) | (simp; omega)) _) | (with_reducible refine Below.drew ?_) | (with_reducible refine below_drewN ?_ _) | (refine below_then (by with_reducible assumption) ?_))))) (some ⟨w1.heap.size, 0, none⟩) (1) (1) [.int .u8 (l.length : Int)] (by rfl) (src_new1 w1 _ _ rfl rfl rfl) (by intro u hu; simp at hu; subst hu; rfl) (by simp only [maxLen]; omega) (by omega) (by simp; omega) ?_; intro a3 c3 w3 hown3 hgrow3 hat3; have HO3 := hid (OwnB.app1 (by omega) hown3); have hbg3 : Below w0.heap.size (w1.alloc (.cells #[.int .u8 (l.length : Int)] 5)) w3 := (Below.grown (Below.refl _ _) hgrow3 (by simp; omega) (fun g e => (own_lt2 (own_below HO1.out (by (repeat (first | with_reducible exact Below.refl _ _ | with_reducible assumption | (with_reducible refine below_alloc ?_ _) | (with_reducible refine Below.setCell ?_ (by first | omega | (simp; done) | (simp; omega)) _) | (with_reducible refine Below.drew ?_) | (with_reducible refine below_drewN ?_ _) | (refine below_then (by with_reducible assumption) ?_))))) g e).1)); clear hown3 hgrow3 hat3; have hb3 : Below w0.heap.size w0 w3 := hb01.trans (((Below.refl _ _).alloc hz1s _).trans hbg3); have Y0 := (hb3.cell (p := ⟨w.heap.size, 0, none⟩) hs0).trans x0; have Y1 := (hb3.cell (p := ⟨w.heap.size, 1, none⟩) hs0).trans x1)
      refine hK.out _ _ ?_ (fun hHeld => ?_)
      · ((try dsimp only); first | assumption | (refine ⟨?_, ?_⟩ <;> (first | assumption | (go_keep; done))))
      clear hK K
      (try simp only [Act.put, List.setIfInBounds_toArray, List.set_cons_zero, List.set_cons_succ])
      refine wpAnyH_take (i := 9) (oi := _) (v := ?_) rfl (by decide +kernel) (by decide +kernel) (by decide +kernel) (fun _ _ _ h => h) (Or.inl ⟨by rfl, ?_⟩) (by assumption) ?_
      rotate_left
      · (intro w hSw; (try dsimp only at hSw); go_simp <;> with_reducible rfl)
      (try simp only [Act.put, List.setIfInBounds_toArray, List.set_cons_zero, List.set_cons_succ])
      simp only [List.getElem_toArray, List.getElem_cons_zero, List.getElem_cons_succ, Act.put, List.setIfInBounds_toArray, List.set_cons_zero, List.set_cons_succ]
      refine wpAnyH_done (by kernel_rfl) ?_ _
      go_wp2_with fail
      go_meet
      case rel => exact ⟨a3, c3, rfl, by have h := HO3.out; exact h, hb3⟩
    · go_simp
      refine hK.out _ _ ?_ (fun hHeld => ?_)
      · ((try dsimp only); first | assumption | (refine ⟨?_, ?_⟩ <;> (first | assumption | (go_keep; done))))
      clear hK K
      (try simp only [Act.put, List.setIfInBounds_toArray, List.set_cons_zero, List.set_cons_succ])
      refine wpAnyH_ready (rs := [2]) (by decide +kernel) (by simp) ?_
      refine AllReadyH.cons (o := _) rfl (fun K hK => ?_) AllReadyH.nil
      (go_simp; go_at_call 104; refine (HV.out _).mono ?_; rintro e1 w1 ⟨v1, rfl, hv1, hb1⟩; obtain ⟨a1, c1, rfl⟩ := own_form hv1; have hb01 : Below w0.heap.size w0 w1 := below_then hb1 (by (repeat (first | with_reducible exact Below.refl _ _ | with_reducible assumption | (with_reducible refine below_alloc ?_ _) | (with_reducible refine Below.setCell ?_ (by first | omega | (simp; done) | (simp; omega)) _) | (with_reducible refine Below.drew ?_) | (with_reducible refine below_drewN ?_ _) | (refine below_then (by with_reducible assumption) ?_)))); have HO1 := hid (ownB_low hv1 (by simp) : OwnB w1 w0.heap.size _ VA); have HBX := hid ((Blk.newAt (w0.drew) 5 #[.int .u8 (l.length : Int)] (g := w0.heap.size) rfl).later hb1); have X0 := (hb01.cell (p := ⟨w.heap.size, 0, none⟩) hs0).trans x0; have X1 := (hb01.cell (p := ⟨w.heap.size, 1, none⟩) hs0).trans x1; have hz1s := hb01.size; clear hv1 hb1)
      refine hK.out _ _ ?_ (fun hHeld => ?_)
      · ((try dsimp only); first | assumption | (refine ⟨?_, ?_⟩ <;> (first | assumption | (go_keep; done))))
      clear hK K
      (try simp only [Act.put, List.setIfInBounds_toArray, List.set_cons_zero, List.set_cons_succ])
      refine wpAnyH_ready (rs := [8]) (by decide +kernel) (by simp) ?_
      refine AllReadyH.cons (o := _) rfl (fun K hK => ?_) AllReadyH.nil
      (refine step_append_src (by rfl) _ _ _ (by rfl) w0.heap.size 5 i0 (.int .u8 0) 1 1 Tryz.underlying25 hi hz0 hz1 hz2 rfl (by decide) (.slice a1 VA.length c1) VA.length (byteCells VA) (by rfl) (HO1.out) (some ⟨w0.heap.size, 0, none⟩) (1) (1) [.int .u8 (l.length : Int)] (by rfl) (src_blk2 HBX.out rfl) (by intro u hu; simp at hu; subst hu; rfl) (by simp only [maxLen]; omega) (by omega) (by omega) ?_; intro a3 c3 w3 hown3 hgrow3 hat3; have HO3 := hid (OwnB.app1 (by omega) hown3); have hbg3 : Below w0.heap.size w1 w3 := (Below.grown (Below.refl _ _) hgrow3 (by omega) (fun g e => (own_lt2 (HO1.out) g e).1)); clear hown3 hgrow3 hat3; have hb3 : Below w0.heap.size w0 w3 := hb01.trans hbg3; have Y0 := (hb3.cell (p := ⟨w.heap.size, 0, none⟩) hs0).trans x0; have Y1 := (hb3.cell (p := ⟨w.heap.size, 1, none⟩) hs0).trans x1)
      refine hK.out _ _ ?_ (fun hHeld => ?_)
      · ((try dsimp only); first | assumption | (refine ⟨?_, ?_⟩ <;> (first | assumption | (go_keep; done))))
      clear hK K
      (try simp only [Act.put, List.setIfInBounds_toArray, List.set_cons_zero, List.set_cons_succ])
      refine wpAnyH_take (i := 9) (oi := _) (v := ?_) rfl (by decide +kernel) (by decide +kernel) (by decide +kernel) (fun _ _ _ h => h) (Or.inl ⟨by rfl, ?_⟩) (by assumption) ?_
      rotate_left
      · (intro w hSw; (try dsimp only at hSw); go_simp <;> with_reducible rfl)
      (try simp only [Act.put, List.setIfInBounds_toArray, List.set_cons_zero, List.set_cons_succ])
      simp only [List.getElem_toArray, List.getElem_cons_zero, List.getElem_cons_succ, Act.put, List.setIfInBounds_toArray, List.set_cons_zero, List.set_cons_succ]
      refine wpAnyH_done (by kernel_rfl) ?_ _
      go_wp2_with fail
      go_meet
      case rel => exact ⟨a3, c3, rfl, by have h := HO3.out; exact h, hb3⟩
  case rest =>
    obtain ⟨a3, c3, rfl, hown3, hb3⟩ := hcut
    have HO3 := hid hown3
    have HB3 := hid hb3
    have hl3 : (VA ++ varB l.length).length = VA.length + 1 := by rw [List.length_append, hvl]
    clear hown3 hb3
    go_wp2_with fail
    go_loopw [3, 4] (fun v i wr => ∃ (k : Nat) (J : List UInt8), k ≤ l.length ∧ i = .int .i64 k ∧ OwnB wr w0.heap.size v J ∧ Hid (J = VA ++ varB l.length ++ stripesB (l.take k)) ∧ (∃ aJ cJ, v = .slice aJ J.length cJ) ∧ Below w0.heap.size w0 wr) (fun _ i _ => l.length - (intOf i).toNat)
    case atStart => exact ⟨0, VA ++ varB l.length, Nat.zero_le _, rfl, HO3.out, hid (by simp [stripesB]), ⟨_, _, by rw [hl3]⟩, HB3.out⟩
    case round =>
      obtain ⟨k, J, hk, rfl, hown, hJ, ⟨aJ, cJ, rfl⟩, hb⟩ := hrel
      have HBW := hid (HB0.out.trans (hb.mono HB0.out.size))
      have HO := hid hown
      have hz := hb.size
      have Z1 := (hb.cell (p := ⟨w.heap.size, 1, none⟩) hs0).trans x1
      rcases Nat.lt_or_ge k l.length with hlt | hge
      · obtain ⟨b, o, hA, hbb, ak, ck, u0, u1, u2, ub0, ub1, xl⟩ := stripe_at HL.out hlt
        subst hA
        have hst := HNS.out k hlt
        have hmo := HMO.out (k + 1)
        rw [hst, List.length_append] at hmo
        have HRI := hid (HNO.out k hlt)
        have hJ1 : J ++ stripeB l[k] = VA ++ varB l.length ++ stripesB (l.take (k + 1)) := by rw [hst, hJ.out]; simp only [List.append_assoc]
        have hJl : J.length + (stripeB l[k]).length ≤ 20000000 := by have := congrArg List.length hJ.out; simp only [List.length_append] at this; omega
        have HJ1 := hid hJ1
        have HXL := hid xl
        have i1 : (k : Int) < (l.length : Int) := by omega
        have d1 : decide ((k : Int) < (l.length : Int)) = true := decide_eq_true i1
        have U0 := (HBW.out.cell (p := ⟨b, o + k * 3, none⟩) hbb).trans u0
        have U1 := (HBW.out.cell (p := ⟨b, o + k * 3 + 1, none⟩) hbb).trans u1
        have U2 := (HBW.out.cell (p := ⟨b, o + k * 3 + 2, none⟩) hbb).trans u2
        generalize l[k] = X at *
        have HU := hid (And.intro ub0 ub1)
        have HBY := hid (fun (W : World) (hW : Below w.heap.size w W) => ref19_bytes W X ak _ ck HU.out.1 HU.out.2 (lift HXL.out hW) HRI.out)
        have HOU := hid (byteCells_one (stripeB X))
        generalize stripeB X = UX at *
        have HBX := hid (HBY.out wr HBW.out)
        clear hown hJ hmo hJ1 xl hst hbb u0 u1 u2 ub0 ub1 HBY
        go_wp2_with fail
        refine HBX.out.mono ?_
        rintro r w6 ⟨v6, rfl, hv6, hb6⟩
        obtain ⟨a6, c6, rfl⟩ := own_form hv6
        have HS6 := hid (src_bytes (own_bytes rfl hv6))
        have HO6 := hid (own_below HO.out hb6)
        have hz6 := hb6.size
        clear hv6 Z1 U0 U1 U2
        go_wp2_with (at_builtin; go_loud (refine wpList_append_src rfl _ _ _ rfl w0.heap.size 5 i0 (.int .u8 0) 1 1 Tryz.underlying25 hi hz0 hz1 hz2 rfl (by decide) (.slice aJ J.length cJ) J.length (byteCells J) rfl (HO6.out) (a6) (UX.length) (c6) (byteCells UX) rfl (HS6.out) HOU.out (by simp only [maxLen]; omega) (by omega) (by omega) ?_; intro v' w7 hown7 hgrow7 hat7; obtain ⟨a7, c7, rfl⟩ := own_form hown7; have HO7 := hid (OwnB.app hown7); have hbg7 : Below w0.heap.size w6 w7 := (Below.grown (Below.refl _ _) hgrow7 (by omega) (fun g e => (own_lt2 (HO6.out) g e).1)); clear hown7 hgrow7 hat7))
        have hbe : Below w0.heap.size w0 w7 := hb.trans ((hb6.mono (by omega)).trans hbg7)
        go_roundw
        case rel => exact ⟨k + 1, J ++ UX, by omega, by go_num, HO7.out, HJ1, ⟨_, _, by rw [List.length_append]⟩, hbe⟩
        case measure => (simp [intOf]; try omega)
      · obtain rfl : k = l.length := by omega
        have d1 : decide ((l.length : Int) < (l.length : Int)) = false := decide_eq_false (by omega)
        have hfin : Hid (J = VA ++ varB l.length ++ stripesB l) := hid (by have := hJ.out; rwa [List.take_length] at this)
        have HOL := hid (ownB_low HO.out (Nat.le_of_lt hs0))
        clear hown hJ
        go_wp2_with fail
        go_ret
        rw [← hfin.out]
        exact ⟨_, rfl, HOL.out, HBW.out⟩
end Go.Proofs.YtlbffbkbkajciaaGreat
namespace Go.Proofs.YtlbffbkbkajciaaGreat
open Go.RowKit Go.Bs Go.Maps
set_option linter.unusedVariables false
set_option linter.unusedSimpArgs false

theorem OwnB.app0 {w : World} {base : Nat} {v : Value} {D : List UInt8} (h : w.ownsRow base 5 1 v (0 + D.length) ([] ++ byteCells D)) : OwnB w base v D := by
  rw [Nat.zero_add, List.nil_append] at h
  exact h
theorem OwnB.appS {w : World} {base : Nat} {v : Value} {L : List UInt8} {x : Int} (h0 : 0 ≤ x) (h1 : x < 256) (h : w.ownsRow base 5 1 v (L.length + 1) (byteCells L ++ [.int .u8 x])) : OwnB w base v (L ++ [UInt8.ofNat x.toNat]) := by
  unfold OwnB
  rw [List.length_append, ← byteCells_app3]
  have := byte_small (x := x.toNat) (by omega)
  rw [toNat_cast h0] at this
  rw [show byteCells [UInt8.ofNat x.toNat] = [.int .u8 x] by simp only [byteCells, List.map_cons, List.map_nil]; rw [← this]]
  exact h

set_option maxRecDepth 100000 in
set_option maxHeartbeats 6400000 in
theorem ref28_bytes (w : World) (m : Msg) (a1 : Option Addr) (c1 : Nat) (a2 : Option Addr) (c2 : Nat) (a3 : Option Addr) (c3 : Nat) (a4 : Option Addr) (c4 : Nat) (hd : MsgIn (· < w.heap.size) w m a1 c1 a2 c2 a3 c3 a4 c4) (hbk : ∀ x ∈ m.links, x.backs.length ≤ 1000000) (hR : msgR m = true) :
    Calls Tryz.prog 24 #[.agg #[.int .i64 m.kind, .int .u64 m.epoch, .int .u64 m.seq, .int .u64 m.pos, .int .i64 m.count, .int .i64 m.state, .slice a1 m.streams.length c1, .slice a2 m.links.length c2, .slice a3 m.data.length c3, .int .u64 m.sea.epoch, .int .u64 m.sea.node, .int .u64 m.sea.tail, .int .u64 m.proj.epoch, .slice a4 m.proj.stripes.length c4]] w fun r w' => ∃ v, r = .returned v ∧ OwnB w' w.heap.size v (msgB m) ∧ Below w.heap.size w w' := by
  obtain ⟨i0, hi, hz0, hz1, hz2⟩ := info_parts info8
  have HM := msgR_parts hR
  have hx1 : (hasK m.kind 1) = true → (varB m.pos.toNat).length ≤ 10 := fun _ => (varB_len _).1
  have hx2 : (hasK m.kind 2) = true → (varB m.count.toNat).length ≤ 10 := fun _ => (varB_len _).1
  have hx4 : (hasK m.kind 4) = true → ([UInt8.ofNat m.state.toNat]).length ≤ 1 := fun _ => by simp
  have hx8 : (hasK m.kind 8) = true → (setB m.streams).length ≤ 170 := fun e => by have := setB_len m.streams; have := (HM.streams e).1; omega
  have hx16 : (hasK m.kind 16) = true → (linksB m.pos m.links).length ≤ 830 := fun e => linksB_len' _ _ (HM.links e)
  have hxD : (blockK m.kind m.state) = true → (blockB m.data).length ≤ 1048587 := fun e => by have := blockB_len m.data; have := (varB_len m.data.length).1; have := HM.data; omega
  have hx64 : (hasK m.kind 64) = true → (sealB m.sea).length ≤ 30 := fun e => seal_len _
  have hx128 : (hasK m.kind 128) = true → (projB m.proj).length ≤ 47380 := fun e => proj_len (HM.proj e)
  have hc2 := HM.count
  have hc4 : hasK m.kind 4 = true → 1 ≤ m.state ∧ m.state ≤ 20 := fun e => by have := HM.state e; have := mostK_le m.kind; omega
  have hc8 := HM.streams
  have hdl := HM.data
  have C1 := hid (ref04_ownM m.pos hd.pos)
  have C2 := hid (fun (h : hasK m.kind 2 = true) (W : World) => ref04_ownM m.count (by have := hc2 h; omega) W)
  have C8 := hid (fun (h : hasK m.kind 8 = true) (W : World) (hW : Below w.heap.size w W) => ref05_bytes W m.streams a1 _ c1 (lift hd.streams hW) (hc8 h).2 (by have := (hc8 h).1; omega))
  have C16 := hid (fun (h : hasK m.kind 16 = true) (W : World) (hW : Below w.heap.size w W) => ref23_bytes W m.pos hd.pos m.links a2 _ c2 (lift hd.links hW) (HM.links h) hbk)
  have CD := hid (fun (W : World) (hW : Below w.heap.size w W) => ref16_bytes W m.data a3 _ c3 (lift hd.data hW) hdl)
  have C64 := hid (fun (W : World) => ref18_bytes W m.sea hd.sealE hd.sealN hd.sealT)
  have C128 := hid (fun (h : hasK m.kind 128 = true) (W : World) (hW : Below w.heap.size w W) => ref20_bytes W m.proj a4 _ c4 hd.projE (lift hd.stripes hW) (HM.proj h))
  have HH1 := hid (fun W : World => ref28_has m.kind 1 (by unfold isPart; decide) W)
  have HH2 := hid (fun W : World => ref28_has m.kind 2 (by unfold isPart; decide) W)
  have HH4 := hid (fun W : World => ref28_has m.kind 4 (by unfold isPart; decide) W)
  have HH8 := hid (fun W : World => ref28_has m.kind 8 (by unfold isPart; decide) W)
  have HH16 := hid (fun W : World => ref28_has m.kind 16 (by unfold isPart; decide) W)
  have HHD := hid (fun W : World => ref28_block m.kind m.state W)
  have HH64 := hid (fun W : World => ref28_has m.kind 64 (by unfold isPart; decide) W)
  have HH128 := hid (fun W : World => ref28_has m.kind 128 (by unfold isPart; decide) W)
  have hmb : msgB m = partB (hasK m.kind 1) (varB m.pos.toNat) ++ partB (hasK m.kind 2) (varB m.count.toNat) ++ partB (hasK m.kind 4) ([UInt8.ofNat m.state.toNat]) ++ partB (hasK m.kind 8) (setB m.streams) ++ partB (hasK m.kind 16) (linksB m.pos m.links) ++ partB (blockK m.kind m.state) (blockB m.data) ++ partB (hasK m.kind 64) (sealB m.sea) ++ partB (hasK m.kind 128) (projB m.proj) := rfl
  rw [hmb]
  have hsb : setB m.streams = varB m.streams.length ++ upsB m.streams := rfl
  have HSB := hid hsb
  clear hd hbk hR HM hmb hsb
  generalize (hasK m.kind 1) = H1 at *
  generalize (hasK m.kind 2) = H2 at *
  generalize (hasK m.kind 4) = H4 at *
  generalize (hasK m.kind 8) = H8 at *
  generalize (hasK m.kind 16) = H16 at *
  generalize (blockK m.kind m.state) = HD at *
  generalize (hasK m.kind 64) = H64 at *
  generalize (hasK m.kind 128) = H128 at *
  have HBX : Hid (Blk (w.alloc (.cells #[.int .i64 m.kind, .int .u64 m.epoch, .int .u64 m.seq, .int .u64 m.pos, .int .i64 m.count, .int .i64 m.state, .slice a1 m.streams.length c1, .slice a2 m.links.length c2, .slice a3 m.data.length c3, .int .u64 m.sea.epoch, .int .u64 m.sea.node, .int .u64 m.sea.tail, .int .u64 m.proj.epoch, .slice a4 m.proj.stripes.length c4] 32)) w.heap.size 32 #[.int .i64 m.kind, .int .u64 m.epoch, .int .u64 m.seq, .int .u64 m.pos, .int .i64 m.count, .int .i64 m.state, .slice a1 m.streams.length c1, .slice a2 m.links.length c2, .slice a3 m.data.length c3, .int .u64 m.sea.epoch, .int .u64 m.sea.node, .int .u64 m.sea.tail, .int .u64 m.proj.epoch, .slice a4 m.proj.stripes.length c4]) := hid (Blk.new w _ _)
  have hb0 : Below w.heap.size w (w.alloc (.cells #[.int .i64 m.kind, .int .u64 m.epoch, .int .u64 m.seq, .int .u64 m.pos, .int .i64 m.count, .int .i64 m.state, .slice a1 m.streams.length c1, .slice a2 m.links.length c2, .slice a3 m.data.length c3, .int .u64 m.sea.epoch, .int .u64 m.sea.node, .int .u64 m.sea.tail, .int .u64 m.proj.epoch, .slice a4 m.proj.stripes.length c4] 32)) := by (repeat (first | exact Below.refl _ _ | assumption | (refine below_alloc ?_ _) | (refine Below.setCell ?_ (by first | omega | (simp; done) | (simp; omega)) _) | (refine Below.drew ?_) | (refine below_drewN ?_ _) | (refine below_then (by assumption) ?_)))
  have hs0 : w.heap.size < (w.alloc (.cells #[.int .i64 m.kind, .int .u64 m.epoch, .int .u64 m.seq, .int .u64 m.pos, .int .i64 m.count, .int .i64 m.state, .slice a1 m.streams.length c1, .slice a2 m.links.length c2, .slice a3 m.data.length c3, .int .u64 m.sea.epoch, .int .u64 m.sea.node, .int .u64 m.sea.tail, .int .u64 m.proj.epoch, .slice a4 m.proj.stripes.length c4] 32)).heap.size := by simp
  have hy0 := HBX.out.cell 0
  (try simp at hy0)
  go_enter Tryz.func24, Tryz.ntmps24
  go_wp2_with fail
  generalize w.alloc (.cells #[.int .i64 m.kind, .int .u64 m.epoch, .int .u64 m.seq, .int .u64 m.pos, .int .i64 m.count, .int .i64 m.state, .slice a1 m.streams.length c1, .slice a2 m.links.length c2, .slice a3 m.data.length c3, .int .u64 m.sea.epoch, .int .u64 m.sea.node, .int .u64 m.sea.tail, .int .u64 m.proj.epoch, .slice a4 m.proj.stripes.length c4] 32) = w0 at *
  have HB0 := hid hb0
  clear hb0 hy0
  have HB1 : Hid (Below w0.heap.size w0 w0) := hid (Below.refl _ _)
  refine (HH1.out _).mono ?_
  rintro r v1 ⟨rfl, hb1⟩
  have HC1 := hid (below_then hb1 HB1.out)
  clear hb1
  go_upto_if 8 with (fail)
  go_cut [3] from 9 to 13 (fun v V => ∃ (J : List UInt8) (aJ : Option Addr) (cJ : Nat), v = .slice aJ J.length cJ ∧ OwnB V w0.heap.size v J ∧ Hid (J = partB H1 (varB m.pos.toNat)) ∧ J.length ≤ 10 ∧ Below w0.heap.size w0 V)
  case first =>
    have HBV := hid (HB0.out.trans (HC1.out.mono HB0.out.size))
    have hzz := HC1.out.size
    cases H1
    · go_wp2_with fail
      go_meet
      case rel => exact ⟨[], none, 0, rfl, ⟨rfl, .inl ⟨rfl, rfl⟩⟩, hid rfl, Nat.zero_le _, HC1.out⟩
    · have hxl := hx1 rfl
      have HX := hid (HBX.out.later HC1.out)
      have y3 : v1.cell? ⟨w.heap.size, 3, none⟩ = some (.int .u64 m.pos) := HX.out.cell 3
      have HPN : Hid (OwnB v1 w0.heap.size (.slice none 0 0) ([] : List UInt8)) := hid ⟨rfl, .inl ⟨rfl, rfl⟩⟩
      have HONE := hid (byteCells_one (varB m.pos.toNat))
      generalize varB m.pos.toNat = X at *
      go_wp2_with fail
      refine (C1.out _).mono ?_
      rintro r x1 ⟨v1, rfl, hv1, hb1⟩
      obtain ⟨aX, cX, rfl⟩ := own_form hv1
      have HS1 := hid (src_bytes (own_bytes rfl hv1))
      clear hv1
      have HQ1 := hid (own_below HPN.out hb1)
      have hz1s := hb1.size
      clear y3
      go_wp2_with (at_builtin; go_loud (refine wpList_append_src rfl _ _ _ rfl w0.heap.size 5 i0 (.int .u8 0) 1 1 Tryz.underlying25 hi hz0 hz1 hz2 rfl (by decide) (.slice none 0 0) 0 [] rfl (HQ1.out) (aX) (X.length) (cX) (byteCells X) rfl (HS1.out) HONE.out (by simp only [maxLen]; omega) (by omega) (by omega) ?_; intro v' w2x hown2x hgrow2x hat2x; obtain ⟨a2x, c2x, rfl⟩ := own_form hown2x; have HO2x := hid (OwnB.app0 hown2x); have hbg2x : Below w0.heap.size x1 w2x := (Below.grown (Below.refl _ _) hgrow2x (by omega) (fun g e => (own_lt2 (HQ1.out) g e).1)); clear hown2x hgrow2x hat2x))
      have hbe : Below w0.heap.size w0 w2x := HC1.out.trans ((hb1.mono (by omega)).trans hbg2x)
      go_meet
      case rel => exact ⟨X, a2x, c2x, rfl, by have := HO2x.out; rwa [Nat.zero_add] at this, hid (by simp [partB]), by omega, hbe⟩
  case rest =>
  obtain ⟨J1, a1', c1', rfl, ho, he, hl1, hbc⟩ := hcut
  have HO1 := hid ho
  have HE1 := hid he
  have HD1 := hid hbc
  clear ho he hbc
  obtain ⟨w1, hwn⟩ : ∃ W : World, W = wc := ⟨_, rfl⟩
  subst hwn
  go_wp2_with fail
  refine (HH2.out _).mono ?_
  rintro r v2 ⟨rfl, hb2⟩
  have HC2 := hid (below_then hb2 HD1.out)
  have HP2 := hid (own_below HO1.out hb2)
  clear hb2
  go_upto_if 15 with (fail)
  go_cut [3] from 16 to 21 (fun v V => ∃ (J : List UInt8) (aJ : Option Addr) (cJ : Nat), v = .slice aJ J.length cJ ∧ OwnB V w0.heap.size v J ∧ Hid (J = partB H1 (varB m.pos.toNat) ++ partB H2 (varB m.count.toNat)) ∧ J.length ≤ 20 ∧ Below w0.heap.size w0 V)
  case first =>
    have HBV := hid (HB0.out.trans (HC2.out.mono HB0.out.size))
    have hzz := HC2.out.size
    cases H2
    · go_wp2_with fail
      go_meet
      case rel => exact ⟨J1, a1', c1', rfl, HP2.out, hid (by rw [HE1.out]; simp [partB]), by omega, HC2.out⟩
    · have hxl := hx2 rfl
      have hcc := hc2 rfl
      have hcz : 0 ≤ m.count := by omega
      have hcy : m.count ≤ 65536 := hcc.2
      have HX := hid (HBX.out.later HC2.out)
      have y4 : v2.cell? ⟨w.heap.size, 4, none⟩ = some (.int .i64 m.count) := HX.out.cell 4
      have HONE := hid (byteCells_one (varB m.count.toNat))
      generalize varB m.count.toNat = X at *
      go_wp2_with fail
      refine (C2.out (by trivial) _).mono ?_
      rintro r x1 ⟨v1, rfl, hv1, hb1⟩
      obtain ⟨aX, cX, rfl⟩ := own_form hv1
      have HS1 := hid (src_bytes (own_bytes rfl hv1))
      clear hv1
      have HQ1 := hid (own_below HP2.out hb1)
      have hz1s := hb1.size
      clear y4
      go_wp2_with (at_builtin; go_loud (refine wpList_append_src rfl _ _ _ rfl w0.heap.size 5 i0 (.int .u8 0) 1 1 Tryz.underlying25 hi hz0 hz1 hz2 rfl (by decide) (.slice a1' J1.length c1') J1.length (byteCells J1) rfl (HQ1.out) (aX) (X.length) (cX) (byteCells X) rfl (HS1.out) HONE.out (by simp only [maxLen]; omega) (by omega) (by omega) ?_; intro v' w2x hown2x hgrow2x hat2x; obtain ⟨a2x, c2x, rfl⟩ := own_form hown2x; have HO2x := hid (OwnB.app hown2x); have hbg2x : Below w0.heap.size x1 w2x := (Below.grown (Below.refl _ _) hgrow2x (by omega) (fun g e => (own_lt2 (HQ1.out) g e).1)); clear hown2x hgrow2x hat2x))
      have hbe : Below w0.heap.size w0 w2x := HC2.out.trans ((hb1.mono (by omega)).trans hbg2x)
      go_meet
      case rel => exact ⟨J1 ++ X, _, _, by rw [List.length_append], HO2x.out, hid (by rw [HE1.out]; rfl), by rw [List.length_append]; omega, hbe⟩
  case rest =>
  obtain ⟨J2, a2', c2', rfl, ho, he, hl2, hbc⟩ := hcut
  have HO2 := hid ho
  have HE2 := hid he
  have HD2 := hid hbc
  clear ho he hbc
  obtain ⟨w2, hwn⟩ : ∃ W : World, W = wc := ⟨_, rfl⟩
  subst hwn
  go_wp2_with fail
  refine (HH4.out _).mono ?_
  rintro r v3 ⟨rfl, hb3⟩
  have HC3 := hid (below_then hb3 HD2.out)
  have HP3 := hid (own_below HO2.out hb3)
  clear hb3
  go_upto_if 23 with (fail)
  go_cut [3] from 24 to 29 (fun v V => ∃ (J : List UInt8) (aJ : Option Addr) (cJ : Nat), v = .slice aJ J.length cJ ∧ OwnB V w0.heap.size v J ∧ Hid (J = partB H1 (varB m.pos.toNat) ++ partB H2 (varB m.count.toNat) ++ partB H4 ([UInt8.ofNat m.state.toNat])) ∧ J.length ≤ 21 ∧ Below w0.heap.size w0 V)
  case first =>
    have HBV := hid (HB0.out.trans (HC3.out.mono HB0.out.size))
    have hzz := HC3.out.size
    cases H4
    · go_wp2_with fail
      go_meet
      case rel => exact ⟨J2, a2', c2', rfl, HP3.out, hid (by rw [HE2.out]; simp [partB]), by omega, HC3.out⟩
    · have hxl := hx4 rfl
      have hcc := hc4 rfl
      have hcz : 0 ≤ m.state := by omega
      have hcy : m.state ≤ 20 := hcc.2
      have HX := hid (HBX.out.later HC3.out)
      have y5 : v3.cell? ⟨w.heap.size, 5, none⟩ = some (.int .i64 m.state) := HX.out.cell 5
      go_wp2_with (at_builtin; go_loud (refine wpList_append_src rfl _ _ _ rfl w0.heap.size 5 i0 (.int .u8 0) 1 1 Tryz.underlying25 hi hz0 hz1 hz2 rfl (by decide) (.slice a2' J2.length c2') J2.length (byteCells J2) rfl (own_below HP3.out (by (repeat (first | with_reducible exact Below.refl _ _ | with_reducible assumption | (with_reducible refine below_alloc ?_ _) | (with_reducible refine Below.setCell ?_ (by first | omega | (simp; done) | (simp; omega)) _) | (with_reducible refine Below.drew ?_) | (with_reducible refine below_drewN ?_ _) | (refine below_then (by with_reducible assumption) ?_))))) (some ⟨v3.heap.size, 0, none⟩) (1) (1) [.int .u8 m.state] rfl (src_new1 v3 _ _ rfl rfl rfl) (by intro u hu; simp at hu; subst hu; rfl) (by simp only [maxLen]; omega) (by omega) (by simp; omega) ?_; intro v' w2x hown2x hgrow2x hat2x; obtain ⟨a2x, c2x, rfl⟩ := own_form hown2x; have HO2x := hid (OwnB.appS (by omega) (by omega) hown2x); have hbg2x : Below w0.heap.size (v3.alloc (.cells #[.int .u8 m.state] 5)) w2x := (Below.grown (Below.refl _ _) hgrow2x (by simp; omega) (fun g e => (own_lt2 (own_below HP3.out (by (repeat (first | with_reducible exact Below.refl _ _ | with_reducible assumption | (with_reducible refine below_alloc ?_ _) | (with_reducible refine Below.setCell ?_ (by first | omega | (simp; done) | (simp; omega)) _) | (with_reducible refine Below.drew ?_) | (with_reducible refine below_drewN ?_ _) | (refine below_then (by with_reducible assumption) ?_))))) g e).1)); clear hown2x hgrow2x hat2x))
      have hbe : Below w0.heap.size w0 w2x := HC3.out.trans (((Below.refl _ _).alloc (by omega) _).trans hbg2x)
      go_meet
      case rel => exact ⟨J2 ++ [UInt8.ofNat m.state.toNat], _, _, by rw [List.length_append]; rfl, HO2x.out, hid (by rw [HE2.out]; rfl), by rw [List.length_append]; simp; omega, hbe⟩
  case rest =>
  obtain ⟨J3, a3', c3', rfl, ho, he, hl3, hbc⟩ := hcut
  have HO3 := hid ho
  have HE3 := hid he
  have HD3 := hid hbc
  clear ho he hbc
  obtain ⟨w3, hwn⟩ : ∃ W : World, W = wc := ⟨_, rfl⟩
  subst hwn
  go_wp2_with fail
  refine (HH8.out _).mono ?_
  rintro r v4 ⟨rfl, hb4⟩
  have HC4 := hid (below_then hb4 HD3.out)
  have HP4 := hid (own_below HO3.out hb4)
  clear hb4
  go_upto_if 31 with (fail)
  go_cut [3] from 32 to 43 (fun v V => ∃ (J : List UInt8) (aJ : Option Addr) (cJ : Nat), v = .slice aJ J.length cJ ∧ OwnB V w0.heap.size v J ∧ Hid (J = partB H1 (varB m.pos.toNat) ++ partB H2 (varB m.count.toNat) ++ partB H4 ([UInt8.ofNat m.state.toNat]) ++ partB H8 (setB m.streams)) ∧ J.length ≤ 191 ∧ Below w0.heap.size w0 V)
  case first =>
    have HBV := hid (HB0.out.trans (HC4.out.mono HB0.out.size))
    have hzz := HC4.out.size
    cases H8
    · go_wp2_with fail
      go_meet
      case rel => exact ⟨J3, a3', c3', rfl, HP4.out, hid (by rw [HE3.out]; simp [partB]), by omega, HC4.out⟩
    · have hxl := hx8 rfl
      have hcc := (hc8 rfl).1
      rw [HSB.out, List.length_append] at hxl
      have HX := hid (HBX.out.later HC4.out)
      have y6 : v4.cell? ⟨w.heap.size, 6, none⟩ = some (.slice a1 m.streams.length c1) := HX.out.cell 6
      have hvx := varB_len_small (x := m.streams.length) (by omega)
      have HONE := hid (byteCells_one (upsB m.streams))
      have HSS := HSB
      generalize upsB m.streams = UX at *
      go_wp2_with (at_builtin; go_loud (refine wpList_append_src rfl _ _ _ rfl w0.heap.size 5 i0 (.int .u8 0) 1 1 Tryz.underlying25 hi hz0 hz1 hz2 rfl (by decide) (.slice a3' J3.length c3') J3.length (byteCells J3) rfl (own_below HP4.out (by (repeat (first | with_reducible exact Below.refl _ _ | with_reducible assumption | (with_reducible refine below_alloc ?_ _) | (with_reducible refine Below.setCell ?_ (by first | omega | (simp; done) | (simp; omega)) _) | (with_reducible refine Below.drew ?_) | (with_reducible refine below_drewN ?_ _) | (refine below_then (by with_reducible assumption) ?_))))) (some ⟨v4.heap.size, 0, none⟩) (1) (1) [.int .u8 (m.streams.length : Int)] rfl (src_new1 v4 _ _ rfl rfl rfl) (by intro u hu; simp at hu; subst hu; rfl) (by simp only [maxLen]; omega) (by omega) (by simp; omega) ?_; intro v' w2x hown2x hgrow2x hat2x; obtain ⟨a2x, c2x, rfl⟩ := own_form hown2x; have HO2x := hid (OwnB.app1 (by omega) hown2x); have hbg2x : Below w0.heap.size (v4.alloc (.cells #[.int .u8 (m.streams.length : Int)] 5)) w2x := (Below.grown (Below.refl _ _) hgrow2x (by simp; omega) (fun g e => (own_lt2 (own_below HP4.out (by (repeat (first | with_reducible exact Below.refl _ _ | with_reducible assumption | (with_reducible refine below_alloc ?_ _) | (with_reducible refine Below.setCell ?_ (by first | omega | (simp; done) | (simp; omega)) _) | (with_reducible refine Below.drew ?_) | (with_reducible refine below_drewN ?_ _) | (refine below_then (by with_reducible assumption) ?_))))) g e).1)); have hb2 : Below w0.heap.size v4 w2x := (((Below.refl _ _).alloc (by omega) _).trans hbg2x); have HX2 := hid (HBX.out.below (HC4.out.trans hb2) hs0); have z6 : w2x.cell? ⟨w.heap.size, 6, none⟩ = some (.slice a1 m.streams.length c1) := HX2.out.cell 6; clear hown2x hgrow2x hat2x))
      have hbf := HC4.out.trans hb2
      have HBF := hid hbf
      have hln : (J3 ++ varB m.streams.length).length = J3.length + 1 := by rw [List.length_append, hvx]
      generalize hJJ : J3 ++ varB m.streams.length = JJ at *
      have HJJ := hid hJJ
      have HP2 := hid HO2x.out
      rw [← hln] at HP2 ⊢
      have hzf := hbf.size
      have HCC := hid (C8.out (by trivial) w2x (HB0.out.trans (hbf.mono HB0.out.size)))
      have hJJl : JJ.length + UX.length ≤ 2000000 := by omega
      have hJJm : JJ.length + UX.length ≤ 191 := by omega
      clear hJJ hln hb2 hbg2x hbf
      refine HCC.out.mono ?_
      rintro r x3 ⟨v3, rfl, hv3, hb3⟩
      obtain ⟨aY, cY, rfl⟩ := own_form hv3
      have HS3 := hid (src_bytes (own_bytes rfl hv3))
      have HQ3 := hid (own_below HP2.out hb3)
      have hz3s := hb3.size
      clear hv3 y6 z6
      go_wp2_with (at_builtin; go_loud (refine wpList_append_src rfl _ _ _ rfl w0.heap.size 5 i0 (.int .u8 0) 1 1 Tryz.underlying25 hi hz0 hz1 hz2 rfl (by decide) (.slice a2x JJ.length c2x) JJ.length (byteCells JJ) rfl (HQ3.out) (aY) (UX.length) (cY) (byteCells UX) rfl (HS3.out) HONE.out (by simp only [maxLen]; omega) (by omega) (by omega) ?_; intro v' w4x hown4x hgrow4x hat4x; obtain ⟨a4x, c4x, rfl⟩ := own_form hown4x; have HO4x := hid (OwnB.app hown4x); have hbg4x : Below w0.heap.size x3 w4x := (Below.grown (Below.refl _ _) hgrow4x (by omega) (fun g e => (own_lt2 (HQ3.out) g e).1)); clear hown4x hgrow4x hat4x))
      have hbe : Below w0.heap.size w0 w4x := HBF.out.trans ((hb3.mono (by omega)).trans hbg4x)
      go_meet
      case rel => exact ⟨JJ ++ UX, _, _, by rw [List.length_append], HO4x.out, hid (by rw [← HJJ.out, HE3.out, List.append_assoc, ← HSS.out]; rfl), by rw [List.length_append]; omega, hbe⟩
  case rest =>
  obtain ⟨J4, a4', c4', rfl, ho, he, hl4, hbc⟩ := hcut
  have HO4 := hid ho
  have HE4 := hid he
  have HD4 := hid hbc
  clear ho he hbc
  obtain ⟨w4, hwn⟩ : ∃ W : World, W = wc := ⟨_, rfl⟩
  subst hwn
  go_wp2_with fail
  refine (HH16.out _).mono ?_
  rintro r v5 ⟨rfl, hb5⟩
  have HC5 := hid (below_then hb5 HD4.out)
  have HP5 := hid (own_below HO4.out hb5)
  clear hb5
  go_upto_if 45 with (fail)
  go_cut [3] from 46 to 52 (fun v V => ∃ (J : List UInt8) (aJ : Option Addr) (cJ : Nat), v = .slice aJ J.length cJ ∧ OwnB V w0.heap.size v J ∧ Hid (J = partB H1 (varB m.pos.toNat) ++ partB H2 (varB m.count.toNat) ++ partB H4 ([UInt8.ofNat m.state.toNat]) ++ partB H8 (setB m.streams) ++ partB H16 (linksB m.pos m.links)) ∧ J.length ≤ 1021 ∧ Below w0.heap.size w0 V)
  case first =>
    have HBV := hid (HB0.out.trans (HC5.out.mono HB0.out.size))
    have hzz := HC5.out.size
    cases H16
    · go_wp2_with fail
      go_meet
      case rel => exact ⟨J4, a4', c4', rfl, HP5.out, hid (by rw [HE4.out]; simp [partB]), by omega, HC5.out⟩
    · have hxl := hx16 rfl
      have HX := hid (HBX.out.later HC5.out)
      have y3 : v5.cell? ⟨w.heap.size, 3, none⟩ = some (.int .u64 m.pos) := HX.out.cell 3
      have y7 : v5.cell? ⟨w.heap.size, 7, none⟩ = some (.slice a2 m.links.length c2) := HX.out.cell 7
      have HONE := hid (byteCells_one (linksB m.pos m.links))
      generalize linksB m.pos m.links = X at *
      go_wp2_with fail
      refine (C16.out (by trivial) _ HBV.out).mono ?_
      rintro r x1 ⟨v1, rfl, hv1, hb1⟩
      obtain ⟨aX, cX, rfl⟩ := own_form hv1
      have HS1 := hid (src_bytes (own_bytes rfl hv1))
      clear hv1
      have HQ1 := hid (own_below HP5.out hb1)
      have hz1s := hb1.size
      clear y3 y7
      go_wp2_with (at_builtin; go_loud (refine wpList_append_src rfl _ _ _ rfl w0.heap.size 5 i0 (.int .u8 0) 1 1 Tryz.underlying25 hi hz0 hz1 hz2 rfl (by decide) (.slice a4' J4.length c4') J4.length (byteCells J4) rfl (HQ1.out) (aX) (X.length) (cX) (byteCells X) rfl (HS1.out) HONE.out (by simp only [maxLen]; omega) (by omega) (by omega) ?_; intro v' w2x hown2x hgrow2x hat2x; obtain ⟨a2x, c2x, rfl⟩ := own_form hown2x; have HO2x := hid (OwnB.app hown2x); have hbg2x : Below w0.heap.size x1 w2x := (Below.grown (Below.refl _ _) hgrow2x (by omega) (fun g e => (own_lt2 (HQ1.out) g e).1)); clear hown2x hgrow2x hat2x))
      have hbe : Below w0.heap.size w0 w2x := HC5.out.trans ((hb1.mono (by omega)).trans hbg2x)
      go_meet
      case rel => exact ⟨J4 ++ X, _, _, by rw [List.length_append], HO2x.out, hid (by rw [HE4.out]; rfl), by rw [List.length_append]; omega, hbe⟩
  case rest =>
  obtain ⟨J5, a5', c5', rfl, ho, he, hl5, hbc⟩ := hcut
  have HO5 := hid ho
  have HE5 := hid he
  have HD5 := hid hbc
  clear ho he hbc
  obtain ⟨w5, hwn⟩ : ∃ W : World, W = wc := ⟨_, rfl⟩
  subst hwn
  have q5 : w5.cell? ⟨w.heap.size, 5, none⟩ = some (.int .i64 m.state) := (HBX.out.later HD5.out).cell 5
  go_wp2_with fail
  refine (HHD.out _).mono ?_
  rintro r v6 ⟨rfl, rfl⟩
  clear q5
  have HP6 := hid (HO5.out)
  go_upto_if 56 with (fail)
  go_cut [3] from 57 to 61 (fun v V => ∃ (J : List UInt8) (aJ : Option Addr) (cJ : Nat), v = .slice aJ J.length cJ ∧ OwnB V w0.heap.size v J ∧ Hid (J = partB H1 (varB m.pos.toNat) ++ partB H2 (varB m.count.toNat) ++ partB H4 ([UInt8.ofNat m.state.toNat]) ++ partB H8 (setB m.streams) ++ partB H16 (linksB m.pos m.links) ++ partB HD (blockB m.data)) ∧ J.length ≤ 1049608 ∧ Below w0.heap.size w0 V)
  case first =>
    have HBV := hid (HB0.out.trans (HD5.out.mono HB0.out.size))
    have hzz := HD5.out.size
    cases HD
    · go_wp2_with fail
      go_meet
      case rel => exact ⟨J5, a5', c5', rfl, HP6.out, hid (by rw [HE5.out]; simp [partB]), by omega, HD5.out⟩
    · have hxl := hxD rfl
      have HX := hid (HBX.out.later HD5.out)
      have y8 : w5.cell? ⟨w.heap.size, 8, none⟩ = some (.slice a3 m.data.length c3) := HX.out.cell 8
      have HONE := hid (byteCells_one (blockB m.data))
      generalize blockB m.data = X at *
      go_wp2_with fail
      refine (CD.out _ HBV.out).mono ?_
      rintro r x1 ⟨v1, rfl, hv1, hb1⟩
      obtain ⟨aX, cX, hve, hv1', _⟩ := sl_form hv1
      simp only [List.cons.injEq, and_true] at hve
      subst hve
      have HS1 := hid (src_bytes hv1')
      clear hv1 hv1'
      have HQ1 := hid (own_below HP6.out hb1)
      have hz1s := hb1.size
      clear y8
      go_wp2_with (at_builtin; go_loud (refine wpList_append_src rfl _ _ _ rfl w0.heap.size 5 i0 (.int .u8 0) 1 1 Tryz.underlying25 hi hz0 hz1 hz2 rfl (by decide) (.slice a5' J5.length c5') J5.length (byteCells J5) rfl (HQ1.out) (aX) (X.length) (cX) (byteCells X) rfl (HS1.out) HONE.out (by simp only [maxLen]; omega) (by omega) (by omega) ?_; intro v' w2x hown2x hgrow2x hat2x; obtain ⟨a2x, c2x, rfl⟩ := own_form hown2x; have HO2x := hid (OwnB.app hown2x); have hbg2x : Below w0.heap.size x1 w2x := (Below.grown (Below.refl _ _) hgrow2x (by omega) (fun g e => (own_lt2 (HQ1.out) g e).1)); clear hown2x hgrow2x hat2x))
      have hbe : Below w0.heap.size w0 w2x := HD5.out.trans ((hb1.mono (by omega)).trans hbg2x)
      go_meet
      case rel => exact ⟨J5 ++ X, _, _, by rw [List.length_append], HO2x.out, hid (by rw [HE5.out]; rfl), by rw [List.length_append]; omega, hbe⟩
  case rest =>
  obtain ⟨J6, a6', c6', rfl, ho, he, hl6, hbc⟩ := hcut
  have HO6 := hid ho
  have HE6 := hid he
  have HD6 := hid hbc
  clear ho he hbc
  obtain ⟨w6, hwn⟩ : ∃ W : World, W = wc := ⟨_, rfl⟩
  subst hwn
  go_wp2_with fail
  refine (HH64.out _).mono ?_
  rintro r v7 ⟨rfl, hb7⟩
  have HC7 := hid (below_then hb7 HD6.out)
  have HP7 := hid (own_below HO6.out hb7)
  clear hb7
  go_upto_if 63 with (fail)
  go_cut [3] from 64 to 68 (fun v V => ∃ (J : List UInt8) (aJ : Option Addr) (cJ : Nat), v = .slice aJ J.length cJ ∧ OwnB V w0.heap.size v J ∧ Hid (J = partB H1 (varB m.pos.toNat) ++ partB H2 (varB m.count.toNat) ++ partB H4 ([UInt8.ofNat m.state.toNat]) ++ partB H8 (setB m.streams) ++ partB H16 (linksB m.pos m.links) ++ partB HD (blockB m.data) ++ partB H64 (sealB m.sea)) ∧ J.length ≤ 1049638 ∧ Below w0.heap.size w0 V)
  case first =>
    have HBV := hid (HB0.out.trans (HC7.out.mono HB0.out.size))
    have hzz := HC7.out.size
    cases H64
    · go_wp2_with fail
      go_meet
      case rel => exact ⟨J6, a6', c6', rfl, HP7.out, hid (by rw [HE6.out]; simp [partB]), by omega, HC7.out⟩
    · have hxl := hx64 rfl
      have HX := hid (HBX.out.later HC7.out)
      have y9 : v7.cell? ⟨w.heap.size, 9, none⟩ = some (.int .u64 m.sea.epoch) := HX.out.cell 9
      have y10 : v7.cell? ⟨w.heap.size, 10, none⟩ = some (.int .u64 m.sea.node) := HX.out.cell 10
      have y11 : v7.cell? ⟨w.heap.size, 11, none⟩ = some (.int .u64 m.sea.tail) := HX.out.cell 11
      have HONE := hid (byteCells_one (sealB m.sea))
      generalize sealB m.sea = X at *
      go_wp2_with fail
      refine (C64.out _).mono ?_
      rintro r x1 ⟨v1, rfl, hv1, hb1⟩
      obtain ⟨aX, cX, rfl⟩ := own_form hv1
      have HS1 := hid (src_bytes (own_bytes rfl hv1))
      clear hv1
      have HQ1 := hid (own_below HP7.out hb1)
      have hz1s := hb1.size
      clear y9 y10 y11
      go_wp2_with (at_builtin; go_loud (refine wpList_append_src rfl _ _ _ rfl w0.heap.size 5 i0 (.int .u8 0) 1 1 Tryz.underlying25 hi hz0 hz1 hz2 rfl (by decide) (.slice a6' J6.length c6') J6.length (byteCells J6) rfl (HQ1.out) (aX) (X.length) (cX) (byteCells X) rfl (HS1.out) HONE.out (by simp only [maxLen]; omega) (by omega) (by omega) ?_; intro v' w2x hown2x hgrow2x hat2x; obtain ⟨a2x, c2x, rfl⟩ := own_form hown2x; have HO2x := hid (OwnB.app hown2x); have hbg2x : Below w0.heap.size x1 w2x := (Below.grown (Below.refl _ _) hgrow2x (by omega) (fun g e => (own_lt2 (HQ1.out) g e).1)); clear hown2x hgrow2x hat2x))
      have hbe : Below w0.heap.size w0 w2x := HC7.out.trans ((hb1.mono (by omega)).trans hbg2x)
      go_meet
      case rel => exact ⟨J6 ++ X, _, _, by rw [List.length_append], HO2x.out, hid (by rw [HE6.out]; rfl), by rw [List.length_append]; omega, hbe⟩
  case rest =>
  obtain ⟨J7, a7', c7', rfl, ho, he, hl7, hbc⟩ := hcut
  have HO7 := hid ho
  have HE7 := hid he
  have HD7 := hid hbc
  clear ho he hbc
  obtain ⟨w7, hwn⟩ : ∃ W : World, W = wc := ⟨_, rfl⟩
  subst hwn
  go_wp2_with fail
  refine (HH128.out _).mono ?_
  rintro r v8 ⟨rfl, hb8⟩
  have HC8 := hid (below_then hb8 HD7.out)
  have HP8 := hid (own_below HO7.out hb8)
  clear hb8
  go_upto_if 70 with (fail)
  go_cut [3] from 71 to 75 (fun v V => ∃ (J : List UInt8) (aJ : Option Addr) (cJ : Nat), v = .slice aJ J.length cJ ∧ OwnB V w0.heap.size v J ∧ Hid (J = partB H1 (varB m.pos.toNat) ++ partB H2 (varB m.count.toNat) ++ partB H4 ([UInt8.ofNat m.state.toNat]) ++ partB H8 (setB m.streams) ++ partB H16 (linksB m.pos m.links) ++ partB HD (blockB m.data) ++ partB H64 (sealB m.sea) ++ partB H128 (projB m.proj)) ∧ J.length ≤ 1097018 ∧ Below w0.heap.size w0 V)
  case first =>
    have HBV := hid (HB0.out.trans (HC8.out.mono HB0.out.size))
    have hzz := HC8.out.size
    cases H128
    · go_wp2_with fail
      go_meet
      case rel => exact ⟨J7, a7', c7', rfl, HP8.out, hid (by rw [HE7.out]; simp [partB]), by omega, HC8.out⟩
    · have hxl := hx128 rfl
      have HX := hid (HBX.out.later HC8.out)
      have y12 : v8.cell? ⟨w.heap.size, 12, none⟩ = some (.int .u64 m.proj.epoch) := HX.out.cell 12
      have y13 : v8.cell? ⟨w.heap.size, 13, none⟩ = some (.slice a4 m.proj.stripes.length c4) := HX.out.cell 13
      have HONE := hid (byteCells_one (projB m.proj))
      generalize projB m.proj = X at *
      go_wp2_with fail
      refine (C128.out (by trivial) _ HBV.out).mono ?_
      rintro r x1 ⟨v1, rfl, hv1, hb1⟩
      obtain ⟨aX, cX, rfl⟩ := own_form hv1
      have HS1 := hid (src_bytes (own_bytes rfl hv1))
      clear hv1
      have HQ1 := hid (own_below HP8.out hb1)
      have hz1s := hb1.size
      clear y12 y13
      go_wp2_with (at_builtin; go_loud (refine wpList_append_src rfl _ _ _ rfl w0.heap.size 5 i0 (.int .u8 0) 1 1 Tryz.underlying25 hi hz0 hz1 hz2 rfl (by decide) (.slice a7' J7.length c7') J7.length (byteCells J7) rfl (HQ1.out) (aX) (X.length) (cX) (byteCells X) rfl (HS1.out) HONE.out (by simp only [maxLen]; omega) (by omega) (by omega) ?_; intro v' w2x hown2x hgrow2x hat2x; obtain ⟨a2x, c2x, rfl⟩ := own_form hown2x; have HO2x := hid (OwnB.app hown2x); have hbg2x : Below w0.heap.size x1 w2x := (Below.grown (Below.refl _ _) hgrow2x (by omega) (fun g e => (own_lt2 (HQ1.out) g e).1)); clear hown2x hgrow2x hat2x))
      have hbe : Below w0.heap.size w0 w2x := HC8.out.trans ((hb1.mono (by omega)).trans hbg2x)
      go_meet
      case rel => exact ⟨J7 ++ X, _, _, by rw [List.length_append], HO2x.out, hid (by rw [HE7.out]; rfl), by rw [List.length_append]; omega, hbe⟩
  case rest =>
  obtain ⟨J8, a8', c8', rfl, ho, he, hl8, hbc⟩ := hcut
  have HO8 := hid ho
  have HE8 := hid he
  have HD8 := hid hbc
  clear ho he hbc
  obtain ⟨w8, hwn⟩ : ∃ W : World, W = wc := ⟨_, rfl⟩
  subst hwn
  have HOL := hid (ownB_low HO8.out (Nat.le_of_lt hs0))
  have HBE := hid (HB0.out.trans (HD8.out.mono HB0.out.size))
  go_wp2_with fail
  go_ret
  rw [← HE8.out]
  exact ⟨_, rfl, HOL.out, HBE.out⟩
end Go.Proofs.YtlbffbkbkajciaaGreat
namespace Go.Proofs.YtlbffbkbkajciaaGreat
open Go.RowKit Go.Bs
set_option linter.unusedVariables false
set_option linter.unusedSimpArgs false
theorem infoU64s : (Tryz.prog.info? 23).map (fun i => (i.zero, i.size, i.bytes)) = some (some (.slice none 0 0), 1, 24) := by kernel_rfl
theorem infoStripe : (Tryz.prog.info? 155).map (fun i => (i.zero, i.size, i.bytes)) = some (some (.agg #[.int .u64 0, .int .u64 0, .slice none 0 0]), 3, 40) := by kernel_rfl

set_option maxRecDepth 100000 in
set_option maxHeartbeats 3200000 in
theorem stripe_copy (s : Stripe) (a : Option Addr) (n c : Nat) (w : World) (hl : rSets.r (· < w.heap.size) w [.slice a n c] s.sets) (hlen : s.sets.length ≤ 1000000000000) (hb : ∀ x ∈ s.sets, x.length ≤ 1000000000000) :
    Calls Tryz.prog 172 #[.agg #[.int .u64 s.lo, .int .u64 s.hi, .slice a n c]] w fun r w' => ∃ v, r = .returned (.agg #[.int .u64 s.lo, .int .u64 s.hi, v]) ∧ rSets.r (Fresh w w') w' [v] s.sets ∧ Below w.heap.size w w' := by
  obtain ⟨lo, hp, l⟩ := s
  dsimp only at *
  obtain ⟨rfl, hm, _, _⟩ := sl_len hl
  obtain ⟨i0, hi, hz0, hz1, hz2⟩ := info_parts info64
  obtain ⟨j0, ji, jz0, jz1, jz2⟩ := info_parts infoU64s
  have HL := hid hl; clear hl
  have HB := hid hb; clear hb
  go_enter Tryz.func172, Tryz.ntmps172
  go_wp2_with fail
  refine wp_world (fun W => Below w.heap.size w W ∧ W.heap.size = w.heap.size + 2 ∧ Blk W w.heap.size 155 #[.int .u64 lo, .int .u64 hp, .slice a l.length c] ∧ Blk W (w.heap.size + 1) 155 #[.int .u64 0, .int .u64 0, .slice none 0 0]) ⟨by (repeat (first | exact Below.refl _ _ | assumption | (refine below_alloc ?_ _) | (refine Below.setCell ?_ (by first | omega | (simp; done) | (simp; omega)) _) | (refine Below.drew ?_) | (refine below_drewN ?_ _) | (refine below_then (by assumption) ?_))), by simp, (Blk.new w _ _).alloc _, Blk.new1 w _ _ _⟩ ?_
  intro W ⟨hbW, hzW, q0, q1⟩
  have LT0 : w.heap.size < W.heap.size := by omega
  have LT1 : w.heap.size + 1 < W.heap.size := by omega
  have Q0 := hid q0; have Q1 := hid q1; clear q0 q1
  have HW := hid hzW; clear hzW
  go_loopw [3, 9] (fun v i wr => ∃ k : Nat, k ≤ l.length ∧ i = .int .i64 k ∧ OwnEls W.heap.size rU64s W.heap.size 23 1 wr v (l.take k) ∧ Below W.heap.size W wr) (fun _ i _ => l.length - (intOf i).toNat)
  case atStart => exact ⟨0, Nat.zero_le _, rfl, OwnEls.nil, Below.refl _ _⟩
  case round =>
    obtain ⟨k, hk, rfl, hown, hb⟩ := hrel
    have hbw := below_then hb hbW
    by_cases hlt : k < l.length
    · obtain ⟨b, o, hA, hbb, ak, ck, hc0, hd1⟩ := set_at HL.out hlt
      subst hA
      have X0 := (hbw.cell (p := ⟨b, o + k, none⟩) hbb).trans hc0
      clear hc0
      have htk := hid (List.take_succ_eq_append_getElem hlt)
      have m1 := HB.out _ (List.getElem_mem hlt)
      have R1 := hid (lift hd1 hbw)
      clear hd1
      generalize l[k] = z at *
      have hw := hid (u64s_bounds R1.out)
      have HONE := hid (u64Cells_one z)
      have HBS := hid (fun (W' : World) (h : Below wr.heap.size wr W') => src_u64s (lift R1.out h))
      have htl : (l.take k).length = k := by simp; omega
      generalize hT : l.take k = T at *
      clear hT
      subst htl
      have OW := hid hown; clear hown
      have i1 : (T.length : Int) < (l.length : Int) := by omega
      have HBB := hid hb
      have hbz := hb.size
      clear hb hbw
      go_wp2_with (first
        | (at_builtin; (refine wpList_append_src rfl _ _ _ rfl wr.heap.size 22 i0 (.int .u64 0) 1 8 Tryz.underlying23 hi hz0 hz1 hz2 rfl (by decide) (.slice (some ⟨wr.heap.size, 0, none⟩) 0 0) 0 [] rfl (own_empty wr (Nat.le_refl _) rfl) ak z.length ck (u64Cells z) rfl (HBS.out _ (by (repeat (first | with_reducible exact Below.refl _ _ | with_reducible assumption | (with_reducible refine below_alloc ?_ _) | (with_reducible refine Below.setCell ?_ (by first | omega | (simp; done) | (simp; omega)) _) | (with_reducible refine Below.drew ?_) | (with_reducible refine below_drewN ?_ _) | (refine below_then (by with_reducible assumption) ?_))))) HONE.out (by simp only [maxLen]; omega) (by omega) (by first | (simp; done) | (simp; omega)) ?_; intro v1 w4 hown1 hgrow1 hat1; rw [Nat.zero_add, List.nil_append] at hown1; obtain ⟨av, cv, hv1⟩ := own_form hown1; subst hv1; have hbw4 : Below wr.heap.size wr w4 := Below.grown (by (repeat (first | with_reducible exact Below.refl _ _ | with_reducible assumption | (with_reducible refine below_alloc ?_ _) | (with_reducible refine Below.setCell ?_ (by first | omega | (simp; done) | (simp; omega)) _) | (with_reducible refine Below.drew ?_) | (with_reducible refine below_drewN ?_ _) | (refine below_then (by with_reducible assumption) ?_)))) hgrow1 (by first | (simp; done) | (simp; omega)) (fun g e => by simp only [Value.ownBlock, Option.some.injEq] at e; omega); have hz4 := hbw4.size; have HBW4 := hid hbw4; have HR4 := hid (own_ints64 hw.out rfl hown1); clear hown1 hgrow1 hat1 hbw4; obtain ⟨cells0, OA0⟩ := OW.out; have hlt0 : ∀ g, u3.ownBlock = some g → g < wr.heap.size := (fun g e => (OA0.1.lt g e).2); have O4 := OW.out.below HBW4.out; have O5 := O4.below (show Below w4.heap.size w4 (w4.alloc (.cells #[.slice av z.length cv] 23)) from (by (repeat (first | with_reducible exact Below.refl _ _ | with_reducible assumption | (with_reducible refine below_alloc ?_ _) | (with_reducible refine Below.setCell ?_ (by first | omega | (simp; done) | (simp; omega)) _) | (with_reducible refine Below.drew ?_) | (with_reducible refine below_drewN ?_ _) | (refine below_then (by with_reducible assumption) ?_))))); obtain ⟨cells, OA⟩ := O5; have hx : rU64s.r (fun b => W.heap.size ≤ b ∧ b < (w4.alloc (.cells #[.slice av z.length cv] 23)).heap.size ∧ u3.ownBlock ≠ some b) (w4.alloc (.cells #[.slice av z.length cv] 23)) [.slice av z.length cv] z := (rU64s.mono (rU64s.keep HR4.out fun b hb => Below.heap_alloc w4 _ b hb.2) fun b hb' => ⟨(by omega), (by simp; omega), fun e => (by have := hlt0 b e; omega)⟩); have HB9 := hid (below_alloc (below_then HBW4.out HBB.out) (.cells #[.slice av z.length cv] 23)); have HS9 := hid HB9.out.size; have HX := hid hx; have HA := hid OA; clear hx OA OA0 O4 hlt0))
        | (at_builtin; go_loud (refine wpList_append_src rfl _ _ _ rfl W.heap.size 23 j0 (.slice none 0 0) 1 24 Tryz.underlying153 ji jz0 jz1 jz2 rfl (by decide) u3 T.length _ rfl HA.out.1 (some ⟨w4.heap.size, 0, none⟩) 1 1 [.slice av z.length cv] rfl (src_new1 w4 23 _ rfl rfl rfl) (by intro u hu; simp at hu; subst hu; rfl) (by simp only [maxLen]; omega) (by omega) HS9.out ?_; intro v1 w5 hown1 hgrow1 hat1; have OP := hid (OwnEls.push HA.out rfl HX.out hown1 hgrow1 hat1 hgrow1.size); have B5 := hid (HB9.out.grown hgrow1 HS9.out (fun g e => (HA.out.1.lt g e).1)); clear hown1 hgrow1 hat1)))
      go_roundw
      case rel => exact ⟨T.length + 1, by omega, by go_num, by rw [htk.out]; exact OP.out, B5.out⟩
      case measure => (simp [intOf]; try omega)
    · obtain rfl : k = l.length := by omega
      rw [List.take_length] at hown
      have hv := OwnEls.slice (Nat.le_refl _) hown
      obtain ⟨av, cv, hv1, _, _⟩ := sl_form hv
      simp only [List.cons.injEq, and_true] at hv1
      subst hv1
      have HV := hid hv; clear hv hown
      have P0 := Q0.out.below hb LT0
      have P1 := Q1.out.below hb LT1
      have y0 : wr.cell? ⟨w.heap.size, 0, none⟩ = some (.int .u64 lo) := P0.cell 0
      have y1 : wr.cell? ⟨w.heap.size, 1, none⟩ = some (.int .u64 hp) := P0.cell 1
      have y2 : wr.cell? ⟨w.heap.size, 2, none⟩ = some (.slice a l.length c) := P0.cell 2
      have y3 := P0.free 2
      have z0 : wr.cell? ⟨w.heap.size + 1, 0, none⟩ = some (.int .u64 0) := P1.cell 0
      have z1 : wr.cell? ⟨w.heap.size + 1, 1, none⟩ = some (.int .u64 0) := P1.cell 1
      have z2 : wr.cell? ⟨w.heap.size + 1, 2, none⟩ = some (.slice none 0 0) := P1.cell 2
      have f0 := P1.free 0
      have f1 := P1.free 1
      have f2 := P1.free 2
      clear P0 P1
      go_wp2
      refine bodyPost_ret (v := .agg #[.int .u64 lo, .int .u64 hp, .slice av l.length cv]) (by simp [results, Tryz.results172, go_sem, y0, y1, y2, z0, z1, z2]) rfl ⟨_, rfl, ?_, by (repeat (first | exact Below.refl _ _ | assumption | (refine below_alloc ?_ _) | (refine Below.setCell ?_ (by first | omega | (simp; done) | (simp; omega)) _) | (refine Below.drew ?_) | (refine below_drewN ?_ _) | (refine below_then (by assumption) ?_)))⟩
      have hw2 := HW.out
      refine rSets.mono (rSets.keep HV.out fun b hb => ?_) fun b hb => ⟨by omega, by simp; omega⟩
      repeat rw [Below.heap_setCell _ _ _ _ (by dsimp only; omega)]

/-- Sets of no length out of all measure. -/
def MildS (x : Stripe) : Prop := x.sets.length ≤ 1000000000000 ∧ ∀ z ∈ x.sets, z.length ≤ 1000000000000

set_option maxRecDepth 100000 in
set_option maxHeartbeats 3200000 in
theorem proj_copy (x : Projn) (a : Option Addr) (n c : Nat) (w : World) (hl : rStripes.r (· < w.heap.size) w [.slice a n c] x.stripes) (hlen : x.stripes.length ≤ 1000000000000) (hb : ∀ z ∈ x.stripes, MildS z) :
    Calls Tryz.prog 103 #[.agg #[.int .u64 x.epoch, .slice a n c]] w fun r w' => ∃ v, r = .returned (.agg #[.int .u64 x.epoch, v]) ∧ rStripes.r (Fresh w w') w' [v] x.stripes ∧ Below w.heap.size w w' := by
  obtain ⟨ep, l⟩ := x
  dsimp only at *
  obtain ⟨rfl, hm, _, _⟩ := sl_len hl
  obtain ⟨i0, hi, hz0, hz1, hz2⟩ := info_parts infoStripe
  have HL := hid hl; clear hl
  have HB := hid hb; clear hb
  go_enter Tryz.func103, Tryz.ntmps103
  go_wp2_with fail
  refine wp_world (fun W => Below w.heap.size w W ∧ W.heap.size = w.heap.size + 2 ∧ Blk W w.heap.size 30 #[.int .u64 ep, .slice a l.length c] ∧ Blk W (w.heap.size + 1) 30 #[.int .u64 0, .slice none 0 0]) ⟨by (repeat (first | exact Below.refl _ _ | assumption | (refine below_alloc ?_ _) | (refine Below.setCell ?_ (by first | omega | (simp; done) | (simp; omega)) _) | (refine Below.drew ?_) | (refine below_drewN ?_ _) | (refine below_then (by assumption) ?_))), by simp, (Blk.new w _ _).alloc _, Blk.new1 w _ _ _⟩ ?_
  intro W ⟨hbW, hzW, q0, q1⟩
  have LT0 : w.heap.size < W.heap.size := by omega
  have LT1 : w.heap.size + 1 < W.heap.size := by omega
  have Q0 := hid q0; have Q1 := hid q1; clear q0 q1
  have HW := hid hzW; clear hzW
  go_loopw [3, 9] (fun v i wr => ∃ k : Nat, k ≤ l.length ∧ i = .int .i64 k ∧ OwnEls W.heap.size rStripe W.heap.size 155 3 wr v (l.take k) ∧ Below W.heap.size W wr) (fun _ i _ => l.length - (intOf i).toNat)
  case atStart => exact ⟨0, Nat.zero_le _, rfl, OwnEls.nil, Below.refl _ _⟩
  case round =>
    obtain ⟨k, hk, rfl, hown, hb⟩ := hrel
    have hbw := below_then hb hbW
    by_cases hlt : k < l.length
    · obtain ⟨b, o, hA, hbb, a1, c1, hc0, hc1, hc2, ub0, ub1, hd1⟩ := stripe_at HL.out hlt
      subst hA
      have X0 := (hbw.cell (p := ⟨b, o + k * 3, none⟩) hbb).trans hc0
      have X1 := (hbw.cell (p := ⟨b, o + k * 3 + 1, none⟩) hbb).trans hc1
      have X2 := (hbw.cell (p := ⟨b, o + k * 3 + 2, none⟩) hbb).trans hc2
      clear hc0 hc1 hc2
      have htk := hid (List.take_succ_eq_append_getElem hlt)
      obtain ⟨m1, m3⟩ := HB.out _ (List.getElem_mem hlt)
      have R1 := hid (lift hd1 hbw)
      clear hd1
      generalize l[k] = z at *
      have M3 := hid m3; clear m3
      have HU := hid (And.intro ub0 ub1); clear ub0 ub1
      have htl : (l.take k).length = k := by simp; omega
      generalize hT : l.take k = T at *
      clear hT
      subst htl
      have OW := hid hown; clear hown
      have i1 : (T.length : Int) < (l.length : Int) := by omega
      go_wp2_with fail
      refine (stripe_copy z _ _ _ _ (lift R1.out (by (repeat (first | exact Below.refl _ _ | assumption | (refine below_alloc ?_ _) | (refine Below.setCell ?_ (by first | omega | (simp; done) | (simp; omega)) _) | (refine Below.drew ?_) | (refine below_drewN ?_ _) | (refine below_then (by assumption) ?_))))) m1 M3.out).mono ?_
      rintro e w4 ⟨v1, rfl, hr4, hb4⟩
      have hbw4 : Below wr.heap.size wr w4 := by (repeat (first | exact Below.refl _ _ | assumption | (refine below_alloc ?_ _) | (refine Below.setCell ?_ (by first | omega | (simp; done) | (simp; omega)) _) | (refine Below.drew ?_) | (refine below_drewN ?_ _) | (refine below_then (by assumption) ?_)))
      have hz4 : wr.heap.size + 1 ≤ w4.heap.size := by have := hb4.size; simpa using this
      obtain ⟨a4, c4, hv4, _, _⟩ := sl_form hr4
      simp only [List.cons.injEq, and_true] at hv4
      subst hv4
      have O4 := OW.out.below hbw4
      have HR4 := hid (rSets.mono hr4 (S' := fun b => wr.heap.size + 1 ≤ b ∧ b < w4.heap.size) fun b h => by simpa [Fresh] using h)
      clear hr4
      obtain ⟨cells0, OA0⟩ := OW.out
      have hlt0 : ∀ g, u3.ownBlock = some g → g < wr.heap.size := fun g e => (OA0.1.lt g e).2
      have O5 := O4.below (show Below w4.heap.size w4 (w4.alloc (.cells #[.int .u64 z.lo, .int .u64 z.hi, .slice a4 z.sets.length c4] 155)) from by (repeat (first | exact Below.refl _ _ | assumption | (refine below_alloc ?_ _) | (refine Below.setCell ?_ (by first | omega | (simp; done) | (simp; omega)) _) | (refine Below.drew ?_) | (refine below_drewN ?_ _) | (refine below_then (by assumption) ?_))))
      obtain ⟨cells, OA⟩ := O5
      have hx : rStripe.r (fun b => W.heap.size ≤ b ∧ b < ((w4.alloc (.cells #[.int .u64 z.lo, .int .u64 z.hi, .slice a4 z.sets.length c4] 155))).heap.size ∧ u3.ownBlock ≠ some b) (w4.alloc (.cells #[.int .u64 z.lo, .int .u64 z.hi, .slice a4 z.sets.length c4] 155)) [.int .u64 z.lo, .int .u64 z.hi, .slice a4 z.sets.length c4] z := by
        have hbs := hb.size
        refine stripe_mk HU.out.1 HU.out.2 (rSets.mono (rSets.keep HR4.out fun b hb => Below.heap_alloc w4 _ b hb.2) fun b hb' => ⟨?_, ?_, fun e => ?_⟩)
        · omega
        · simp; omega
        · have := hlt0 b e; omega
      have hb9 : Below W.heap.size W (w4.alloc (.cells #[.int .u64 z.lo, .int .u64 z.hi, .slice a4 z.sets.length c4] 155)) := below_alloc (below_then hbw4 hb) _
      have HX := hid hx; clear hx
      have HS9 := hid hb9.size
      have HA := hid OA; clear OA OA0 O4 hlt0
      have HB9 := hid hb9; clear hb9
      go_wp2_with (at_builtin; go_loud (refine wpList_append_src rfl _ _ _ rfl W.heap.size 155 i0 (.agg #[.int .u64 0, .int .u64 0, .slice none 0 0]) 3 40 Tryz.underlying28 hi hz0 hz1 hz2 rfl (by decide) u3 T.length _ rfl HA.out.1 (some ⟨w4.heap.size, 0, none⟩) 1 1 [.int .u64 z.lo, .int .u64 z.hi, .slice a4 z.sets.length c4] rfl (src_new1 w4 155 _ rfl rfl rfl) (by intro u hu; simp at hu; rcases hu with rfl | rfl | rfl <;> rfl) (by simp only [maxLen]; omega) (by omega) HS9.out ?_; intro v1 w5 hown1 hgrow1 hat1; have OP := hid (OwnEls.push HA.out rfl HX.out hown1 hgrow1 hat1 hgrow1.size); have B5 := hid (HB9.out.grown hgrow1 HS9.out (fun g e => (HA.out.1.lt g e).1)); clear hown1 hgrow1 hat1))
      go_roundw
      case rel => exact ⟨T.length + 1, by omega, by go_num, by rw [htk.out]; exact OP.out, B5.out⟩
      case measure => (simp [intOf]; try omega)
    · obtain rfl : k = l.length := by omega
      rw [List.take_length] at hown
      have hv := OwnEls.slice (Nat.le_refl _) hown
      obtain ⟨av, cv, hv1, _, _⟩ := sl_form hv
      simp only [List.cons.injEq, and_true] at hv1
      subst hv1
      have HV := hid hv; clear hv hown
      have P0 := Q0.out.below hb LT0
      have P1 := Q1.out.below hb LT1
      have y0 : wr.cell? ⟨w.heap.size, 0, none⟩ = some (.int .u64 ep) := P0.cell 0
      have y2 : wr.cell? ⟨w.heap.size, 1, none⟩ = some (.slice a l.length c) := P0.cell 1
      have y3 := P0.free 1
      have z0 : wr.cell? ⟨w.heap.size + 1, 0, none⟩ = some (.int .u64 0) := P1.cell 0
      have z2 : wr.cell? ⟨w.heap.size + 1, 1, none⟩ = some (.slice none 0 0) := P1.cell 1
      have f0 := P1.free 0
      have f1 := P1.free 1
      clear P0 P1
      go_wp2
      refine bodyPost_ret (v := .agg #[.int .u64 ep, .slice av l.length cv]) (by simp [results, Tryz.results103, go_sem, y0, y2, z0, z2]) rfl ⟨_, rfl, ?_, by (repeat (first | exact Below.refl _ _ | assumption | (refine below_alloc ?_ _) | (refine Below.setCell ?_ (by first | omega | (simp; done) | (simp; omega)) _) | (refine Below.drew ?_) | (refine below_drewN ?_ _) | (refine below_then (by assumption) ?_)))⟩
      have hw2 := HW.out
      refine rStripes.mono (rStripes.keep HV.out fun b hb => ?_) fun b hb => ⟨by omega, by simp; omega⟩
      repeat rw [Below.heap_setCell _ _ _ _ (by dsimp only; omega)]
end Go.Proofs.YtlbffbkbkajciaaGreat
