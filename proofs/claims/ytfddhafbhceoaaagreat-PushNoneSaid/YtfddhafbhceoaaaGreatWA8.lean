/- Needed by pushNone_walk, part 8: texts put together by shake.py; no condition. -/
import Derived.Deep.CutRange
import Derived.Test.YtfddhafbhceoaaaGreatWA7
import Derived.Test.YtfddhafbhceoaaaGreatWA6
import Derived.Deep.RegionHeld3
import Derived.Test.YtfddhafbhceoaaaGreatWA5
import Derived.Test.YtfddhafbhceoaaaGreatWA4
import Derived.Test.YtfddhafbhceoaaaGreatWA2
import Derived.Test.YtfddhafbhceoaaaGreatWA1
namespace Go.Proofs.YtfddhafbhceoaaaGreat
open Go.RowKit Go.Bs Go.Maps
set_option linter.unusedVariables false
set_option linter.unusedSimpArgs false

theorem MsgIn.lift {w w' : World} {m : Msg} {a1 c1 a2 c2 a3 c3 a4 c4} (h : MsgIn (· < w.heap.size) w m a1 c1 a2 c2 a3 c3 a4 c4) (hb : Below w.heap.size w w') : MsgIn (· < w'.heap.size) w' m a1 c1 a2 c2 a3 c3 a4 c4 :=
  ⟨h.kind, h.epoch, h.seq, h.pos, h.count, h.state, h.sealE, h.sealN, h.sealT, h.projE, Go.Bs.lift h.streams hb, Go.Bs.lift h.links hb, Go.Bs.lift h.data hb, Go.Bs.lift h.stripes hb⟩

set_option maxRecDepth 100000 in
set_option maxHeartbeats 6400000 in
theorem body_hasdata (m : Msg) (a1 : Option Addr) (c1 : Nat) (a2 : Option Addr) (c2 : Nat) (a3 : Option Addr) (c3 : Nat) (a4 : Option Addr) (c4 : Nat) (w : World) :
    Calls Tryz.prog 291 #[.agg #[.int .i64 m.kind, .int .u64 m.epoch, .int .u64 m.seq, .int .u64 m.pos, .int .i64 m.count, .int .i64 m.state, .slice a1 m.streams.length c1, .slice a2 m.links.length c2, .slice a3 m.data.length c3, .int .u64 m.sea.epoch, .int .u64 m.sea.node, .int .u64 m.sea.tail, .int .u64 m.proj.epoch, .slice a4 m.proj.stripes.length c4]] w fun r w' => r = .returned (.bool (blockK m.kind m.state)) ∧ Below w.heap.size w w' := by
  have hd : blockK m.kind m.state = (hasK m.kind 32 && ((m.kind != 9) || (m.state == 1))) := by
    rw [hasK_data]; unfold blockK
    by_cases h2 : m.kind = 2
    · simp [h2]
    · by_cases h9 : m.kind = 9
      · rw [h9]; simp; rfl
      · simp [h2, h9]
  have HH := hid (fun W : World => kind_has m.kind 32 (by unfold isPart; decide) W)
  obtain ⟨kk, ep, sq, po, cn, st, SS, LS, DD, ⟨se, sn, tl⟩, ⟨pe, PL⟩⟩ := m
  dsimp only at *
  generalize hasK kk 32 = H at *
  generalize blockK kk st = R at *
  have HD := hid hd
  clear hd
  cases H
  · have hff : Hid (R = false) := hid (by rw [HD.out]; rfl)
    go_enter Tryz.func291, Tryz.ntmps291
    go_wp2_with fail
    refine (HH.out _).mono ?_
    rintro r w1 ⟨rfl, hb1⟩
    go_wp2_with fail
    go_ret
    exact ⟨by rw [hff.out]; rfl, by (repeat (first | with_reducible exact Below.refl _ _ | with_reducible assumption | (with_reducible refine below_alloc ?_ _) | (with_reducible refine Below.setCell ?_ (by first | omega | (simp; done) | (simp; omega)) _) | (with_reducible refine Below.drew ?_) | (with_reducible refine below_drewN ?_ _) | (refine below_then (by with_reducible assumption) ?_)))⟩
  · by_cases h9 : kk = 9
    · have e1 : (kk != 9) = false := by simp [h9]
      have hff : Hid (R = (st == 1)) := hid (by rw [HD.out, e1]; rfl)
      clear h9
      go_enter Tryz.func291, Tryz.ntmps291
      go_wp2_with fail
      refine (HH.out _).mono ?_
      rintro r w1 ⟨rfl, hb1⟩
      have y0 := hb1.cell (p := ⟨w.heap.size, 0, none⟩) (by simp)
      have y5 := hb1.cell (p := ⟨w.heap.size, 5, none⟩) (by simp)
      simp at y0 y5
      go_wp2_with fail
      go_ret
      exact ⟨by rw [hff.out]; rfl, by (repeat (first | with_reducible exact Below.refl _ _ | with_reducible assumption | (with_reducible refine below_alloc ?_ _) | (with_reducible refine Below.setCell ?_ (by first | omega | (simp; done) | (simp; omega)) _) | (with_reducible refine Below.drew ?_) | (with_reducible refine below_drewN ?_ _) | (refine below_then (by with_reducible assumption) ?_)))⟩
    · have e1 : (kk != 9) = true := by simpa using h9
      have hff : Hid (R = true) := hid (by rw [HD.out, e1]; rfl)
      clear h9
      go_enter Tryz.func291, Tryz.ntmps291
      go_wp2_with fail
      refine (HH.out _).mono ?_
      rintro r w1 ⟨rfl, hb1⟩
      have y0 := hb1.cell (p := ⟨w.heap.size, 0, none⟩) (by simp)
      simp at y0
      go_wp2_with fail
      go_ret
      exact ⟨by rw [hff.out]; rfl, by (repeat (first | with_reducible exact Below.refl _ _ | with_reducible assumption | (with_reducible refine below_alloc ?_ _) | (with_reducible refine Below.setCell ?_ (by first | omega | (simp; done) | (simp; omega)) _) | (with_reducible refine Below.drew ?_) | (with_reducible refine below_drewN ?_ _) | (refine below_then (by with_reducible assumption) ?_)))⟩

set_option maxRecDepth 100000 in
set_option maxHeartbeats 6400000 in
theorem body_streams (l : List Int) (a : Option Addr) (n c : Nat) (w : World) (hl : rU64s.r (· < w.heap.size) w [.slice a n c] l) :
    Calls Tryz.prog 288 #[.slice a n c] w fun r w' => r = .returned (.bool (decide (l.length ≤ 16) && risesB l)) ∧ Below w.heap.size w w' := by
  obtain ⟨rfl, hm, _, _⟩ := sl_len hl
  have HZ := hid (zig_rises l a _ c w hl)
  generalize risesB l = R at *
  clear hl
  by_cases h : l.length ≤ 16
  · have d1 : decide ((l.length : Int) ≤ 16) = true := decide_eq_true (by omega)
    rw [decide_eq_true h, Bool.true_and]
    clear h
    go_enter Tryz.func288, Tryz.ntmps288
    go_wp2_with fail
    refine HZ.out.mono ?_
    rintro r w1 ⟨rfl, hb1⟩
    go_wp2_with fail
    go_ret
    exact ⟨rfl, hb1⟩
  · have d1 : decide ((l.length : Int) ≤ 16) = false := decide_eq_false (by omega)
    rw [decide_eq_false h, Bool.false_and]
    clear h
    go_enter Tryz.func288, Tryz.ntmps288
    go_wp2_with fail
    go_ret
    exact ⟨rfl, Below.refl _ _⟩

theorem len_zero {α : Type} (l : List α) : ((l.length : Int) == 0) = decide (l.length = 0) := by
  rw [Bool.eq_iff_iff]; simp
theorem seal_zero (se sn tl : Int) : (se == 0 && (sn == 0 && tl == 0)) = decide ((⟨se, sn, tl⟩ : Seal) = noSeal) := by
  rw [Bool.eq_iff_iff]; simp [noSeal]

set_option maxRecDepth 100000 in
set_option maxHeartbeats 6400000 in
theorem body_right (m : Msg) (a1 : Option Addr) (c1 : Nat) (a2 : Option Addr) (c2 : Nat) (a3 : Option Addr) (c3 : Nat) (a4 : Option Addr) (c4 : Nat) (w : World) (h : MsgIn (· < w.heap.size) w m a1 c1 a2 c2 a3 c3 a4 c4) (hbk : ∀ x ∈ m.links, x.backs.length ≤ 1000000000000) :
    Calls Tryz.prog 233 #[.agg #[.int .i64 m.kind, .int .u64 m.epoch, .int .u64 m.seq, .int .u64 m.pos, .int .i64 m.count, .int .i64 m.state, .slice a1 m.streams.length c1, .slice a2 m.links.length c2, .slice a3 m.data.length c3, .int .u64 m.sea.epoch, .int .u64 m.sea.node, .int .u64 m.sea.tail, .int .u64 m.proj.epoch, .slice a4 m.proj.stripes.length c4]] w fun r w' => r = .returned (.bool (msgR m)) ∧ Below w.heap.size w w' := by
  have hM : msgR m = (decide (1 ≤ m.kind ∧ m.kind ≤ 14) && (withinR (hasK m.kind 1) (poR m.pos) (m.pos == 0) && (withinR (hasK m.kind 2) (decide (1 ≤ m.count) && decide (m.count ≤ 65536)) (m.count == 0) &&
      (withinR (hasK m.kind 4) (decide (1 ≤ m.state) && decide (m.state ≤ mostK m.kind)) (m.state == 0) && (withinR (hasK m.kind 8) (decide (m.streams.length ≤ 16) && risesB m.streams) ((m.streams.length : Int) == 0) &&
      (withinR (hasK m.kind 16) (linksR m.pos m.links) ((m.links.length : Int) == 0) && (withinR (hasK m.kind 64) (sealR m.sea) (m.sea.epoch == 0 && (m.sea.node == 0 && m.sea.tail == 0)) &&
      (withinR (hasK m.kind 128) (projR m.proj) (m.proj.epoch == 0 && (m.proj.stripes.length : Int) == 0) && (((m.data.length : Int) == 0) || (blockK m.kind m.state && decide (m.data.length ≤ 1048576))))))))))) := by
    unfold msgR
    rw [len_zero, len_zero, len_zero, len_zero, seal_zero, Bool.decide_and, Bool.decide_and, Bool.decide_and]
    rfl
  have HPO := hid (fun W : World => epoch_pos m.pos W)
  have HMO := hid (fun W : World => body_most m.kind W)
  have HST := hid (fun (W : World) (hW : Below w.heap.size w W) => body_streams m.streams a1 _ c1 W (lift h.streams hW))
  have HLK := hid (fun (W : World) (hW : Below w.heap.size w W) => link_right m.pos m.links a2 _ c2 W h.pos (lift h.links hW) hbk)
  have HSE := hid (fun (W : World) => seal_right m.sea h.sealE W)
  have HPR := hid (fun (W : World) (hW : Below w.heap.size w W) => proj_right m.proj.epoch m.proj.stripes a4 _ c4 W (lift h.stripes hW))
  have HHD := hid (fun (W : World) => body_hasdata m a1 c1 a2 c2 a3 c3 a4 c4 W)
  obtain ⟨kk, ep, sq, po, cn, st, SS, LS, DD, ⟨se, sn, tl⟩, ⟨pe, PL⟩⟩ := m
  dsimp only at *
  have HW1 : Hid (∀ W : World, Calls Tryz.prog 286 #[.int .i64 kk, .int .i64 1, .bool (poR po), .bool (po == 0)] W fun e w' => e = .returned (.bool (withinR (hasK kk 1) (poR po) (po == 0))) ∧ Below W.heap.size W w') := hid (fun W => body_within kk 1 (by unfold isPart; decide) (poR po) (po == 0) W)
  have HW2 : Hid (∀ W : World, Calls Tryz.prog 286 #[.int .i64 kk, .int .i64 2, .bool (decide (1 ≤ cn) && decide (cn ≤ 65536)), .bool (cn == 0)] W fun e w' => e = .returned (.bool (withinR (hasK kk 2) (decide (1 ≤ cn) && decide (cn ≤ 65536)) (cn == 0))) ∧ Below W.heap.size W w') := hid (fun W => body_within kk 2 (by unfold isPart; decide) (decide (1 ≤ cn) && decide (cn ≤ 65536)) (cn == 0) W)
  have HW4 : Hid (∀ W : World, Calls Tryz.prog 286 #[.int .i64 kk, .int .i64 4, .bool (decide (1 ≤ st) && decide (st ≤ mostK kk)), .bool (st == 0)] W fun e w' => e = .returned (.bool (withinR (hasK kk 4) (decide (1 ≤ st) && decide (st ≤ mostK kk)) (st == 0))) ∧ Below W.heap.size W w') := hid (fun W => body_within kk 4 (by unfold isPart; decide) (decide (1 ≤ st) && decide (st ≤ mostK kk)) (st == 0) W)
  have HW8 : Hid (∀ W : World, Calls Tryz.prog 286 #[.int .i64 kk, .int .i64 8, .bool (decide (SS.length ≤ 16) && risesB SS), .bool ((SS.length : Int) == 0)] W fun e w' => e = .returned (.bool (withinR (hasK kk 8) (decide (SS.length ≤ 16) && risesB SS) ((SS.length : Int) == 0))) ∧ Below W.heap.size W w') := hid (fun W => body_within kk 8 (by unfold isPart; decide) (decide (SS.length ≤ 16) && risesB SS) ((SS.length : Int) == 0) W)
  have HW16 : Hid (∀ W : World, Calls Tryz.prog 286 #[.int .i64 kk, .int .i64 16, .bool (linksR po LS), .bool ((LS.length : Int) == 0)] W fun e w' => e = .returned (.bool (withinR (hasK kk 16) (linksR po LS) ((LS.length : Int) == 0))) ∧ Below W.heap.size W w') := hid (fun W => body_within kk 16 (by unfold isPart; decide) (linksR po LS) ((LS.length : Int) == 0) W)
  have HW64 : Hid (∀ W : World, Calls Tryz.prog 286 #[.int .i64 kk, .int .i64 64, .bool (sealR ⟨se, sn, tl⟩), .bool (se == 0 && (sn == 0 && tl == 0))] W fun e w' => e = .returned (.bool (withinR (hasK kk 64) (sealR ⟨se, sn, tl⟩) (se == 0 && (sn == 0 && tl == 0)))) ∧ Below W.heap.size W w') := hid (fun W => body_within kk 64 (by unfold isPart; decide) (sealR ⟨se, sn, tl⟩) (se == 0 && (sn == 0 && tl == 0)) W)
  have HW128 : Hid (∀ W : World, Calls Tryz.prog 286 #[.int .i64 kk, .int .i64 128, .bool (projR ⟨pe, PL⟩), .bool (pe == 0 && (PL.length : Int) == 0)] W fun e w' => e = .returned (.bool (withinR (hasK kk 128) (projR ⟨pe, PL⟩) (pe == 0 && (PL.length : Int) == 0))) ∧ Below W.heap.size W w') := hid (fun W => body_within kk 128 (by unfold isPart; decide) (projR ⟨pe, PL⟩) (pe == 0 && (PL.length : Int) == 0) W)
  generalize withinR (hasK kk 1) (poR po) (po == 0) = B1 at *
  generalize withinR (hasK kk 2) (decide (1 ≤ cn) && decide (cn ≤ 65536)) (cn == 0) = B2 at *
  generalize withinR (hasK kk 4) (decide (1 ≤ st) && decide (st ≤ mostK kk)) (st == 0) = B4 at *
  generalize withinR (hasK kk 8) (decide (SS.length ≤ 16) && risesB SS) ((SS.length : Int) == 0) = B8 at *
  generalize withinR (hasK kk 16) (linksR po LS) ((LS.length : Int) == 0) = B16 at *
  generalize withinR (hasK kk 64) (sealR ⟨se, sn, tl⟩) (se == 0 && (sn == 0 && tl == 0)) = B64 at *
  generalize withinR (hasK kk 128) (projR ⟨pe, PL⟩) (pe == 0 && (PL.length : Int) == 0) = B128 at *
  generalize poR po = R1 at *
  generalize linksR po LS = R16 at *
  generalize sealR ⟨se, sn, tl⟩ = R64 at *
  generalize projR ⟨pe, PL⟩ = R128 at *
  generalize (decide (SS.length ≤ 16) && risesB SS) = R8 at *
  generalize mostK kk = MK at *
  generalize hK : decide (1 ≤ kk ∧ kk ≤ 14) = K at *
  have HKR := hid (fun W : World => kind_right kk W)
  rw [hK] at HKR
  have HM := hid hM
  generalize msgR ⟨kk, ep, sq, po, cn, st, SS, LS, DD, ⟨se, sn, tl⟩, ⟨pe, PL⟩⟩ = MM at *
  have hb0 : Below w.heap.size w (w.alloc (.cells #[.int .i64 kk, .int .u64 ep, .int .u64 sq, .int .u64 po, .int .i64 cn, .int .i64 st, .slice a1 SS.length c1, .slice a2 LS.length c2, .slice a3 DD.length c3, .int .u64 se, .int .u64 sn, .int .u64 tl, .int .u64 pe, .slice a4 PL.length c4] 45)) := by (repeat (first | exact Below.refl _ _ | assumption | (refine below_alloc ?_ _) | (refine Below.setCell ?_ (by first | omega | (simp; done) | (simp; omega)) _) | (refine Below.drew ?_) | (refine below_drewN ?_ _) | (refine below_then (by assumption) ?_)))
  have HBX : Hid (Blk (w.alloc (.cells #[.int .i64 kk, .int .u64 ep, .int .u64 sq, .int .u64 po, .int .i64 cn, .int .i64 st, .slice a1 SS.length c1, .slice a2 LS.length c2, .slice a3 DD.length c3, .int .u64 se, .int .u64 sn, .int .u64 tl, .int .u64 pe, .slice a4 PL.length c4] 45)) w.heap.size 45 #[.int .i64 kk, .int .u64 ep, .int .u64 sq, .int .u64 po, .int .i64 cn, .int .i64 st, .slice a1 SS.length c1, .slice a2 LS.length c2, .slice a3 DD.length c3, .int .u64 se, .int .u64 sn, .int .u64 tl, .int .u64 pe, .slice a4 PL.length c4]) := hid (Blk.new w _ _)
  clear hM hK h hbk
  go_enter Tryz.func233, Tryz.ntmps233
  go_wp2_with fail
  generalize (w.alloc (.cells #[.int .i64 kk, .int .u64 ep, .int .u64 sq, .int .u64 po, .int .i64 cn, .int .i64 st, .slice a1 SS.length c1, .slice a2 LS.length c2, .slice a3 DD.length c3, .int .u64 se, .int .u64 sn, .int .u64 tl, .int .u64 pe, .slice a4 PL.length c4] 45)) = w0 at *
  have HB0 := hid hb0
  clear hb0
  refine (HKR.out _).mono ?_
  rintro r w0' ⟨rfl, rfl⟩
  have HB1 : Hid (Below w0.heap.size w0 w0) := hid (Below.refl _ _)
  cases K
  · have hff : Hid (MM = false) := hid (by rw [HM.out]; rfl)
    go_wp2_with fail
    go_ret
    exact ⟨by rw [hff.out]; rfl, HB0.out.trans (HB1.out.mono HB0.out.size)⟩
  · go_upto_region 4 with (fail)
    go_cut [24] from 25 to 33 (fun v V => v = .bool (!B1) ∧ Below w0.heap.size w0 V)
    case first =>
      have HX := hid (HBX.out.later HB1.out)
      have Y3 := fun s : Later w0 => s.cell (HX.out.cell 3 : w0.cell? ⟨w.heap.size, 3, none⟩ = some (.int .u64 po))
      refine wp_region_later (by kernel_rfl) (by kernel_rfl) ?_
      repeat (go_big_quiet_step ((first | (go_at_call 256; with_reducible exact later_same (HPO.out _)) | (go_at_call 286; with_reducible exact later_of (HW1.out _)))))
      refine wpQuiet_nil ?_
      rintro W5 ⟨⟨W5', hb5⟩, rfl⟩
      go_wp2_with fail
      go_meet
      case rel => exact ⟨rfl, below_then hb5 HB1.out⟩
    case rest =>
      obtain ⟨rfl, hbc⟩ := hcut
      have HB2 := hid hbc
      clear hbc
      obtain ⟨w1, hwn⟩ : ∃ W : World, W = wc := ⟨_, rfl⟩
      subst hwn
      cases B1
      · have hff : Hid (MM = false) := hid (by rw [HM.out]; simp)
        go_wp2_with fail
        go_ret
        exact ⟨by rw [hff.out]; rfl, HB0.out.trans (HB2.out.mono HB0.out.size)⟩
      · go_upto_region 5 with (fail)
        go_cut [34] from 35 to 48 (fun v V => v = .bool (!B2) ∧ Below w0.heap.size w0 V)
        case first =>
          have HX := hid (HBX.out.later HB2.out)
          have y4 : w1.cell? ⟨w.heap.size, 4, none⟩ = some (.int .i64 cn) := HX.out.cell 4
          have HBW := hid (HB0.out.trans (HB2.out.mono HB0.out.size))
          cases hc : decide (1 ≤ cn)
          · have HWc := HW2.out
            rw [hc, Bool.false_and] at HWc
            have HWd := hid HWc
            clear HWc
            go_wp2_with fail
            refine (HWd.out _).mono ?_
            rintro r w5 ⟨rfl, hb5⟩
            go_wp2_with fail
            go_meet
            case rel => exact ⟨rfl, below_then hb5 HB2.out⟩
          · have HWc := HW2.out
            rw [hc, Bool.true_and] at HWc
            have HWd := hid HWc
            clear HWc
            go_wp2_with fail
            refine (HWd.out _).mono ?_
            rintro r w5 ⟨rfl, hb5⟩
            go_wp2_with fail
            go_meet
            case rel => exact ⟨rfl, below_then hb5 HB2.out⟩
        case rest =>
          obtain ⟨rfl, hbc⟩ := hcut
          have HB3 := hid hbc
          clear hbc
          obtain ⟨w2, hwn⟩ : ∃ W : World, W = wc := ⟨_, rfl⟩
          subst hwn
          cases B2
          · have hff : Hid (MM = false) := hid (by rw [HM.out]; simp)
            go_wp2_with fail
            go_ret
            exact ⟨by rw [hff.out]; rfl, HB0.out.trans (HB3.out.mono HB0.out.size)⟩
          · go_upto_region 6 with (fail)
            go_cut [49] from 50 to 65 (fun v V => v = .bool (!B4) ∧ Below w0.heap.size w0 V)
            case first =>
              have HX := hid (HBX.out.later HB3.out)
              have Y5 := fun s : Later w2 => s.cell (HX.out.cell 5 : w2.cell? ⟨w.heap.size, 5, none⟩ = some (.int .i64 st))
              cases hc : decide (1 ≤ st)
              · have HWc := HW4.out
                rw [hc, Bool.false_and] at HWc
                have HWd := hid HWc
                clear HWc
                refine wp_region_later (by kernel_rfl) (by kernel_rfl) ?_
                repeat (go_big_quiet_step ((first | (go_at_call 286; with_reducible exact later_of (HWd.out _)))))
                refine wpQuiet_nil ?_
                rintro W5 ⟨⟨W5', hb5⟩, rfl⟩
                go_wp2_with fail
                go_meet
                case rel => exact ⟨rfl, below_then hb5 HB3.out⟩
              · have HWc := HW4.out
                rw [hc, Bool.true_and] at HWc
                have HWd := hid HWc
                clear HWc
                refine wp_region_later (by kernel_rfl) (by kernel_rfl) ?_
                repeat (go_big_quiet_step ((first | (go_at_call 287; with_reducible exact later_same (HMO.out _)) | (go_at_call 286; with_reducible exact later_of (HWd.out _)))))
                refine wpQuiet_nil ?_
                rintro W5 ⟨⟨W5', hb5⟩, rfl⟩
                go_wp2_with fail
                go_meet
                case rel => exact ⟨rfl, below_then hb5 HB3.out⟩
            case rest =>
              obtain ⟨rfl, hbc⟩ := hcut
              have HB4 := hid hbc
              clear hbc
              obtain ⟨w3, hwn⟩ : ∃ W : World, W = wc := ⟨_, rfl⟩
              subst hwn
              cases B4
              · have hff : Hid (MM = false) := hid (by rw [HM.out]; simp)
                go_wp2_with fail
                go_ret
                exact ⟨by rw [hff.out]; rfl, HB0.out.trans (HB4.out.mono HB0.out.size)⟩
              · go_upto_region 7 with (fail)
                go_cut [66] from 67 to 76 (fun v V => v = .bool (!B8) ∧ Below w0.heap.size w0 V)
                case first =>
                  have HX := hid (HBX.out.later HB4.out)
                  have Y6 := fun s : Later w3 => s.cell (HX.out.cell 6 : w3.cell? ⟨w.heap.size, 6, none⟩ = some (.slice a1 SS.length c1))
                  have HS := hid (fun s : Later w3 => HST.out s.at_ (below_then s.below (HB0.out.trans (HB4.out.mono HB0.out.size))))
                  refine wp_region_later (by kernel_rfl) (by kernel_rfl) ?_
                  repeat (go_big_quiet_step ((first | (go_at_call 288; with_reducible exact later_of (HS.out _)) | (go_at_call 286; with_reducible exact later_of (HW8.out _)))))
                  refine wpQuiet_nil ?_
                  rintro W5 ⟨⟨W5', hb5⟩, rfl⟩
                  go_wp2_with fail
                  go_meet
                  case rel => exact ⟨rfl, below_then hb5 HB4.out⟩
                case rest =>
                  obtain ⟨rfl, hbc⟩ := hcut
                  have HB5 := hid hbc
                  clear hbc
                  obtain ⟨w4, hwn⟩ : ∃ W : World, W = wc := ⟨_, rfl⟩
                  subst hwn
                  cases B8
                  · have hff : Hid (MM = false) := hid (by rw [HM.out]; simp)
                    go_wp2_with fail
                    go_ret
                    exact ⟨by rw [hff.out]; rfl, HB0.out.trans (HB5.out.mono HB0.out.size)⟩
                  · go_upto_region 8 with (fail)
                    go_cut [77] from 78 to 89 (fun v V => v = .bool (!B16) ∧ Below w0.heap.size w0 V)
                    case first =>
                      have HX := hid (HBX.out.later HB5.out)
                      have Y3 := fun s : Later w4 => s.cell (HX.out.cell 3 : w4.cell? ⟨w.heap.size, 3, none⟩ = some (.int .u64 po))
                      have Y7 := fun s : Later w4 => s.cell (HX.out.cell 7 : w4.cell? ⟨w.heap.size, 7, none⟩ = some (.slice a2 LS.length c2))
                      have HS := hid (fun s : Later w4 => HLK.out s.at_ (below_then s.below (HB0.out.trans (HB5.out.mono HB0.out.size))))
                      refine wp_region_later (by kernel_rfl) (by kernel_rfl) ?_
                      repeat (go_big_quiet_step ((first | (go_at_call 277; with_reducible exact later_of (HS.out _)) | (go_at_call 286; with_reducible exact later_of (HW16.out _)))))
                      refine wpQuiet_nil ?_
                      rintro W5 ⟨⟨W5', hb5⟩, rfl⟩
                      go_wp2_with fail
                      go_meet
                      case rel => exact ⟨rfl, below_then hb5 HB5.out⟩
                    case rest =>
                      obtain ⟨rfl, hbc⟩ := hcut
                      have HB6 := hid hbc
                      clear hbc
                      obtain ⟨w5, hwn⟩ : ∃ W : World, W = wc := ⟨_, rfl⟩
                      subst hwn
                      cases B16
                      · have hff : Hid (MM = false) := hid (by rw [HM.out]; simp)
                        go_wp2_with fail
                        go_ret
                        exact ⟨by rw [hff.out]; rfl, HB0.out.trans (HB6.out.mono HB0.out.size)⟩
                      · go_upto_region 9 with (fail)
                        go_cut [90] from 91 to 100 (fun v V => v = .bool (!B64) ∧ Below w0.heap.size w0 V)
                        case first =>
                          have HX := hid (HBX.out.later HB6.out)
                          have Y9 := fun s : Later w5 => s.cell (HX.out.cell 9 : w5.cell? ⟨w.heap.size, 9, none⟩ = some (.int .u64 se))
                          have Y10 := fun s : Later w5 => s.cell (HX.out.cell 10 : w5.cell? ⟨w.heap.size, 10, none⟩ = some (.int .u64 sn))
                          have Y11 := fun s : Later w5 => s.cell (HX.out.cell 11 : w5.cell? ⟨w.heap.size, 11, none⟩ = some (.int .u64 tl))
                          cases hc : (se == 0)
                          · have HWc := HW64.out
                            rw [hc, Bool.false_and] at HWc
                            have HWd := hid HWc
                            clear HWc
                            refine wp_region_later (by kernel_rfl) (by kernel_rfl) ?_
                            repeat (go_big_quiet_step ((first | (go_at_call 289; with_reducible exact later_of (HSE.out _)) | (go_at_call 286; with_reducible exact later_of (HWd.out _)))))
                            refine wpQuiet_nil ?_
                            rintro W5 ⟨⟨W5', hb5⟩, rfl⟩
                            go_wp2_with fail
                            go_meet
                            case rel => exact ⟨rfl, below_then hb5 HB6.out⟩
                          · cases hd : (sn == 0)
                            · have HWc := HW64.out
                              rw [hc, hd, Bool.true_and, Bool.false_and] at HWc
                              have HWd := hid HWc
                              clear HWc
                              refine wp_region_later (by kernel_rfl) (by kernel_rfl) ?_
                              repeat (go_big_quiet_step ((first | (go_at_call 289; with_reducible exact later_of (HSE.out _)) | (go_at_call 286; with_reducible exact later_of (HWd.out _)))))
                              refine wpQuiet_nil ?_
                              rintro W5 ⟨⟨W5', hb5⟩, rfl⟩
                              go_wp2_with fail
                              go_meet
                              case rel => exact ⟨rfl, below_then hb5 HB6.out⟩
                            · cases he : (tl == 0)
                              · have HWc := HW64.out
                                rw [hc, hd, he, Bool.true_and, Bool.true_and] at HWc
                                have HWd := hid HWc
                                clear HWc
                                refine wp_region_later (by kernel_rfl) (by kernel_rfl) ?_
                                repeat (go_big_quiet_step ((first | (go_at_call 289; with_reducible exact later_of (HSE.out _)) | (go_at_call 286; with_reducible exact later_of (HWd.out _)))))
                                refine wpQuiet_nil ?_
                                rintro W5 ⟨⟨W5', hb5⟩, rfl⟩
                                go_wp2_with fail
                                go_meet
                                case rel => exact ⟨rfl, below_then hb5 HB6.out⟩
                              · have HWc := HW64.out
                                rw [hc, hd, he, Bool.true_and, Bool.true_and] at HWc
                                have HWd := hid HWc
                                clear HWc
                                refine wp_region_later (by kernel_rfl) (by kernel_rfl) ?_
                                repeat (go_big_quiet_step ((first | (go_at_call 289; with_reducible exact later_of (HSE.out _)) | (go_at_call 286; with_reducible exact later_of (HWd.out _)))))
                                refine wpQuiet_nil ?_
                                rintro W5 ⟨⟨W5', hb5⟩, rfl⟩
                                go_wp2_with fail
                                go_meet
                                case rel => exact ⟨rfl, below_then hb5 HB6.out⟩
                        case rest =>
                          obtain ⟨rfl, hbc⟩ := hcut
                          have HB7 := hid hbc
                          clear hbc
                          obtain ⟨w6, hwn⟩ : ∃ W : World, W = wc := ⟨_, rfl⟩
                          subst hwn
                          cases B64
                          · have hff : Hid (MM = false) := hid (by rw [HM.out]; simp)
                            go_wp2_with fail
                            go_ret
                            exact ⟨by rw [hff.out]; rfl, HB0.out.trans (HB7.out.mono HB0.out.size)⟩
                          · go_upto_region 10 with (fail)
                            go_cut [101] from 102 to 118 (fun v V => v = .bool (!B128) ∧ Below w0.heap.size w0 V)
                            case first =>
                              have HX := hid (HBX.out.later HB7.out)
                              have Y12 := fun s : Later w6 => s.cell (HX.out.cell 12 : w6.cell? ⟨w.heap.size, 12, none⟩ = some (.int .u64 pe))
                              have Y13 := fun s : Later w6 => s.cell (HX.out.cell 13 : w6.cell? ⟨w.heap.size, 13, none⟩ = some (.slice a4 PL.length c4))
                              have HS := hid (fun s : Later w6 => HPR.out s.at_ (below_then s.below (HB0.out.trans (HB7.out.mono HB0.out.size))))
                              cases hc : (pe == 0)
                              · have HWc := HW128.out
                                rw [hc, Bool.false_and] at HWc
                                have HWd := hid HWc
                                clear HWc
                                refine wp_region_later (by kernel_rfl) (by kernel_rfl) ?_
                                repeat (go_big_quiet_step ((first | (go_at_call 290; with_reducible exact later_of (HS.out _)) | (go_at_call 286; with_reducible exact later_of (HWd.out _)))))
                                refine wpQuiet_nil ?_
                                rintro W5 ⟨⟨W5', hb5⟩, rfl⟩
                                go_wp2_with fail
                                go_meet
                                case rel => exact ⟨rfl, below_then hb5 HB7.out⟩
                              · have HWc := HW128.out
                                rw [hc, Bool.true_and] at HWc
                                have HWd := hid HWc
                                clear HWc
                                refine wp_region_later (by kernel_rfl) (by kernel_rfl) ?_
                                repeat (go_big_quiet_step ((first | (go_at_call 290; with_reducible exact later_of (HS.out _)) | (go_at_call 286; with_reducible exact later_of (HWd.out _)))))
                                refine wpQuiet_nil ?_
                                rintro W5 ⟨⟨W5', hb5⟩, rfl⟩
                                go_wp2_with fail
                                go_meet
                                case rel => exact ⟨rfl, below_then hb5 HB7.out⟩
                            case rest =>
                              obtain ⟨rfl, hbc⟩ := hcut
                              have HB8 := hid hbc
                              clear hbc
                              obtain ⟨w7, hwn⟩ : ∃ W : World, W = wc := ⟨_, rfl⟩
                              subst hwn
                              cases B128
                              · have hff : Hid (MM = false) := hid (by rw [HM.out]; simp)
                                go_wp2_with fail
                                go_ret
                                exact ⟨by rw [hff.out]; rfl, HB0.out.trans (HB8.out.mono HB0.out.size)⟩
                              · go_upto_region 2 with (fail)
                                have HX := hid (HBX.out.later HB8.out)
                                have y0 : w7.cell? ⟨w.heap.size, 0, none⟩ = some (.int .i64 kk) := HX.out.cell 0
                                have y1 : w7.cell? ⟨w.heap.size, 1, none⟩ = some (.int .u64 ep) := HX.out.cell 1
                                have y2 : w7.cell? ⟨w.heap.size, 2, none⟩ = some (.int .u64 sq) := HX.out.cell 2
                                have y3 : w7.cell? ⟨w.heap.size, 3, none⟩ = some (.int .u64 po) := HX.out.cell 3
                                have y4 : w7.cell? ⟨w.heap.size, 4, none⟩ = some (.int .i64 cn) := HX.out.cell 4
                                have y5 : w7.cell? ⟨w.heap.size, 5, none⟩ = some (.int .i64 st) := HX.out.cell 5
                                have y6 : w7.cell? ⟨w.heap.size, 6, none⟩ = some (.slice a1 SS.length c1) := HX.out.cell 6
                                have y7 : w7.cell? ⟨w.heap.size, 7, none⟩ = some (.slice a2 LS.length c2) := HX.out.cell 7
                                have y8 : w7.cell? ⟨w.heap.size, 8, none⟩ = some (.slice a3 DD.length c3) := HX.out.cell 8
                                have y9 : w7.cell? ⟨w.heap.size, 9, none⟩ = some (.int .u64 se) := HX.out.cell 9
                                have y10 : w7.cell? ⟨w.heap.size, 10, none⟩ = some (.int .u64 sn) := HX.out.cell 10
                                have y11 : w7.cell? ⟨w.heap.size, 11, none⟩ = some (.int .u64 tl) := HX.out.cell 11
                                have y12 : w7.cell? ⟨w.heap.size, 12, none⟩ = some (.int .u64 pe) := HX.out.cell 12
                                have y13 : w7.cell? ⟨w.heap.size, 13, none⟩ = some (.slice a4 PL.length c4) := HX.out.cell 13
                                have HBW := hid (HB0.out.trans (HB8.out.mono HB0.out.size))
                                have hfm : MM = (((DD.length : Int) == 0) || (blockK kk st && decide (DD.length ≤ 1048576))) := by rw [HM.out]; simp only [Bool.true_and]
                                clear HX
                                generalize blockK kk st = BL at *
                                cases hc : ((DD.length : Int) == 0)
                                · cases BL
                                  · have hff : Hid (MM = false) := hid (by rw [hfm, hc]; rfl)
                                    clear hfm
                                    go_wp2_with fail
                                    refine (HHD.out _).mono ?_
                                    rintro r w5 ⟨rfl, hb5⟩
                                    have hbe := below_then hb5 HBW.out
                                    go_wp2_with fail
                                    go_ret
                                    exact ⟨by rw [hff.out]; rfl, hbe⟩
                                  · have hff : Hid (MM = decide (DD.length ≤ 1048576)) := hid (by rw [hfm, hc]; rfl)
                                    have hdd : decide ((DD.length : Int) ≤ 1048576) = decide (DD.length ≤ 1048576) := by
                                      rw [Bool.eq_iff_iff]; simp; omega
                                    generalize decide (DD.length ≤ 1048576) = DM at *
                                    clear hfm
                                    go_wp2_with fail
                                    refine (HHD.out _).mono ?_
                                    rintro r w5 ⟨rfl, hb5⟩
                                    have hbe := below_then hb5 HBW.out
                                    have z8 := (hb5.cell (p := ⟨w.heap.size, 8, none⟩) (World.block_lt_of_cell? _ _ y8)).trans y8
                                    go_wp2_with fail
                                    go_ret
                                    exact ⟨by rw [hff.out]; first | rfl | (rw [← hdd]; rfl), hbe⟩
                                · have hff : Hid (MM = true) := hid (by rw [hfm, hc]; rfl)
                                  clear hfm
                                  go_wp2_with fail
                                  go_ret
                                  exact ⟨by rw [hff.out]; rfl, HBW.out⟩

theorem MsgIn.tr {S S' : Nat → Prop} {w w' : World} {m : Msg} {a1 c1 a2 c2 a3 c3 a4 c4} (f : ∀ {α : Type} (A : Rp α) (cs : List Value) (x : α), A.r S w cs x → A.r S' w' cs x) (h : MsgIn S w m a1 c1 a2 c2 a3 c3 a4 c4) : MsgIn S' w' m a1 c1 a2 c2 a3 c3 a4 c4 :=
  ⟨h.kind, h.epoch, h.seq, h.pos, h.count, h.state, h.sealE, h.sealN, h.sealT, h.projE, f _ _ _ h.streams, f _ _ _ h.links, f _ _ _ h.data, f _ _ _ h.stripes⟩
/-- A pen, a cell that points to it, a message in a block apart. -/
structure PutI (w : World) (g base most : Nat) (J : List UInt8) (a : Option Addr) (c A B : Nat) (m : Msg) (a1 : Option Addr) (c1 : Nat) (a2 : Option Addr) (c2 : Nat) (a3 : Option Addr) (c3 : Nat) (a4 : Option Addr) (c4 : Nat) : Prop where
  pen : PenAt w g base most J a c
  pa : Blk w A 202 #[.pointer (some ⟨g, 0, none⟩)]
  pb : Blk w B 45 #[.int .i64 m.kind, .int .u64 m.epoch, .int .u64 m.seq, .int .u64 m.pos, .int .i64 m.count, .int .i64 m.state, .slice a1 m.streams.length c1, .slice a2 m.links.length c2, .slice a3 m.data.length c3, .int .u64 m.sea.epoch, .int .u64 m.sea.node, .int .u64 m.sea.tail, .int .u64 m.proj.epoch, .slice a4 m.proj.stripes.length c4]
  na : ¬ PenF g a A
  nb : ¬ PenF g a B
  data : MsgIn (fun q => q < w.heap.size ∧ ¬ PenF g a q) w m a1 c1 a2 c2 a3 c3 a4 c4
theorem PutI.later {w : World} {g base most : Nat} {J : List UInt8} {a : Option Addr} {c A B : Nat} {m : Msg} {a1 : Option Addr} {c1 : Nat} {a2 : Option Addr} {c2 : Nat} {a3 : Option Addr} {c3 : Nat} {a4 : Option Addr} {c4 : Nat} (h : PutI w g base most J a c A B m a1 c1 a2 c2 a3 c3 a4 c4) {w' : World} (hb : Below w.heap.size w w') : PutI w' g base most J a c A B m a1 c1 a2 c2 a3 c3 a4 c4 :=
  ⟨h.pen.later hb, h.pa.later hb, h.pb.later hb, h.na, h.nb, MsgIn.tr (fun A cs x hx => pen_later hb hx) h.data⟩
theorem PutI.step {w : World} {g base most : Nat} {J : List UInt8} {a : Option Addr} {c A B : Nat} {m : Msg} {a1 : Option Addr} {c1 : Nat} {a2 : Option Addr} {c2 : Nat} {a3 : Option Addr} {c3 : Nat} {a4 : Option Addr} {c4 : Nat} (h : PutI w g base most J a c A B m a1 c1 a2 c2 a3 c3 a4 c4) {w' : World} {J' : List UInt8} (k : PenStep w g base most J' a w') : ∃ a' c', PutI w' g base most J' a' c' A B m a1 c1 a2 c2 a3 c3 a4 c4 ∧ Tch (PenF g a) w w' ∧ (a'.map Addr.block = a.map Addr.block ∨ ∃ q, a'.map Addr.block = some q ∧ w.heap.size ≤ q) := by
  obtain ⟨a', c', k1, k2, k3⟩ := k
  exact ⟨a', c', ⟨k1, h.pa.tch k2 h.na, h.pb.tch k2 h.nb, penF_old k3 h.pa.lt h.na, penF_old k3 h.pb.lt h.nb, MsgIn.tr (fun A cs x hx => pen_data k2 k3 hx) h.data⟩, k2, k3⟩
theorem MsgIn.low {g : Nat} {a : Option Addr} {w : World} {m : Msg} {a1 c1 a2 c2 a3 c3 a4 c4} (h : MsgIn (fun q => q < w.heap.size ∧ ¬ PenF g a q) w m a1 c1 a2 c2 a3 c3 a4 c4) : MsgIn (· < w.heap.size) w m a1 c1 a2 c2 a3 c3 a4 c4 := MsgIn.tr (fun A cs x hx => pen_low hx) h
set_option maxRecDepth 100000 in
set_option maxHeartbeats 6400000 in
theorem put_pos {w : World} {g base most : Nat} {J : List UInt8} {a : Option Addr} {c A B : Nat} {m : Msg} {a1 : Option Addr} {c1 : Nat} {a2 : Option Addr} {c2 : Nat} {a3 : Option Addr} {c3 : Nat} {a4 : Option Addr} {c4 : Nat} (h : PutI w g base most J a c A B m a1 c1 a2 c2 a3 c3 a4 c4) (hR : poR m.pos = true) (hfit : J.length + (varB m.pos.toNat).length ≤ most) (hln : J.length + (varB m.pos.toNat).length ≤ 100000000000000) :
    Calls Tryz.prog 294 #[.pointer (some ⟨A, 0, none⟩), .pointer (some ⟨B, 0, none⟩)] w fun r w' => r = .returned (.tuple #[]) ∧ PenStep w g base most (J ++ (varB m.pos.toNat)) a w' := by
  have hp := h.data.pos
  have HV := hid (by have := epoch_putpos w h.pen m.pos.toNat (by rw [toNat_cast hp.1]; exact hR) hfit hln; rw [toNat_cast hp.1] at this; exact this : Calls Tryz.prog 261 #[.pointer (some ⟨g, 0, none⟩), .int .u64 m.pos] w fun r w' => r = .returned (.tuple #[]) ∧ PenStep w g base most (J ++ varB m.pos.toNat) a w')
  have p0 : w.cell? ⟨A, 0, none⟩ = some (.pointer (some ⟨g, 0, none⟩)) := h.pa.cell 0
  have y3 : w.cell? ⟨B, 3, none⟩ = some (.int .u64 m.pos) := h.pb.cell 3
  clear h
  go_enter Tryz.func294, Tryz.ntmps294
  go_wp2_with fail
  refine HV.out.mono ?_
  rintro r w1 ⟨rfl, hst⟩
  have HST := hid hst
  clear hst
  go_wp2_with fail
  first | go_end0 | refine bodyPost_ret (results_none rfl _ _ _) rfl ?_
  exact ⟨rfl, HST.out⟩

set_option maxRecDepth 100000 in
set_option maxHeartbeats 6400000 in
theorem put_count {w : World} {g base most : Nat} {J : List UInt8} {a : Option Addr} {c A B : Nat} {m : Msg} {a1 : Option Addr} {c1 : Nat} {a2 : Option Addr} {c2 : Nat} {a3 : Option Addr} {c3 : Nat} {a4 : Option Addr} {c4 : Nat} (h : PutI w g base most J a c A B m a1 c1 a2 c2 a3 c3 a4 c4) (hR : 1 ≤ m.count ∧ m.count ≤ 65536) (hfit : J.length + (varB m.count.toNat).length ≤ most) (hln : J.length + (varB m.count.toNat).length ≤ 100000000000000) :
    Calls Tryz.prog 295 #[.pointer (some ⟨A, 0, none⟩), .pointer (some ⟨B, 0, none⟩)] w fun r w' => r = .returned (.tuple #[]) ∧ PenStep w g base most (J ++ (varB m.count.toNat)) a w' := by
  have hc0 : 0 ≤ m.count := by omega
  have hc1 : m.count ≤ 65536 := hR.2
  have HV := hid (by have := varint_put w h.pen m.count.toNat (by omega) hfit hln; rw [toNat_cast hc0] at this; exact this : Calls Tryz.prog 163 #[.pointer (some ⟨g, 0, none⟩), .int .u64 m.count] w fun r w' => r = .returned (.tuple #[]) ∧ PenStep w g base most (J ++ varB m.count.toNat) a w')
  have p0 : w.cell? ⟨A, 0, none⟩ = some (.pointer (some ⟨g, 0, none⟩)) := h.pa.cell 0
  have y4 : w.cell? ⟨B, 4, none⟩ = some (.int .i64 m.count) := h.pb.cell 4
  clear h
  go_enter Tryz.func295, Tryz.ntmps295
  go_wp2_with fail
  refine HV.out.mono ?_
  rintro r w1 ⟨rfl, hst⟩
  have HST := hid hst
  clear hst
  go_wp2_with fail
  first | go_end0 | refine bodyPost_ret (results_none rfl _ _ _) rfl ?_
  exact ⟨rfl, HST.out⟩

set_option maxRecDepth 100000 in
set_option maxHeartbeats 6400000 in
theorem put_state {w : World} {g base most : Nat} {J : List UInt8} {a : Option Addr} {c A B : Nat} {m : Msg} {a1 : Option Addr} {c1 : Nat} {a2 : Option Addr} {c2 : Nat} {a3 : Option Addr} {c3 : Nat} {a4 : Option Addr} {c4 : Nat} (h : PutI w g base most J a c A B m a1 c1 a2 c2 a3 c3 a4 c4) (hR : 1 ≤ m.state ∧ m.state ≤ 20) (hfit : J.length + ([UInt8.ofNat m.state.toNat]).length ≤ most) (hln : J.length + ([UInt8.ofNat m.state.toNat]).length ≤ 100000000000000) :
    Calls Tryz.prog 296 #[.pointer (some ⟨A, 0, none⟩), .pointer (some ⟨B, 0, none⟩)] w fun r w' => r = .returned (.tuple #[]) ∧ PenStep w g base most (J ++ ([UInt8.ofNat m.state.toNat])) a w' := by
  have hc0 : 0 ≤ m.state := by omega
  have hc1 : m.state ≤ 20 := hR.2
  have he : m.state = ((UInt8.ofNat m.state.toNat).toNat : Int) := by
    have := byte_small (x := m.state.toNat) (by omega)
    rw [toNat_cast hc0] at this
    exact this
  have HV := hid (fun (W : World) (hW : Below w.heap.size w W) (ad : Option Addr) (hD : rBytes.r (· < W.heap.size) W [.slice ad 1 1] [UInt8.ofNat m.state.toNat]) => pen_put W (h.pen.later hW) [UInt8.ofNat m.state.toNat] ad 1 1 hD hfit hln)
  have HL := hid (fun W : World => (by have := lit_one W (UInt8.ofNat m.state.toNat); rw [← he] at this; exact this : rBytes.r (· < (W.alloc (.cells #[.int .u8 m.state] 5)).heap.size) (W.alloc (.cells #[.int .u8 m.state] 5)) [.slice (some ⟨W.heap.size, 0, none⟩) 1 1] [UInt8.ofNat m.state.toNat]))
  have p0 : w.cell? ⟨A, 0, none⟩ = some (.pointer (some ⟨g, 0, none⟩)) := h.pa.cell 0
  have y5 : w.cell? ⟨B, 5, none⟩ = some (.int .i64 m.state) := h.pb.cell 5
  clear h he
  go_enter Tryz.func296, Tryz.ntmps296
  go_wp2_with fail
  refine (HV.out _ (by (repeat (first | with_reducible exact Below.refl _ _ | with_reducible assumption | (with_reducible refine below_alloc ?_ _) | (with_reducible refine Below.setCell ?_ (by first | omega | (simp; done) | (simp; omega)) _) | (with_reducible refine Below.drew ?_) | (with_reducible refine below_drewN ?_ _) | (refine below_then (by with_reducible assumption) ?_)))) _ (HL.out w)).mono ?_
  rintro r w1 ⟨rfl, hst⟩
  have HST := hid (PenStep.later (w := w) (by (repeat (first | with_reducible exact Below.refl _ _ | with_reducible assumption | (with_reducible refine below_alloc ?_ _) | (with_reducible refine Below.setCell ?_ (by first | omega | (simp; done) | (simp; omega)) _) | (with_reducible refine Below.drew ?_) | (with_reducible refine below_drewN ?_ _) | (refine below_then (by with_reducible assumption) ?_)))) hst)
  clear hst
  go_wp2_with fail
  first | go_end0 | refine bodyPost_ret (results_none rfl _ _ _) rfl ?_
  exact ⟨rfl, HST.out⟩

set_option maxRecDepth 100000 in
set_option maxHeartbeats 6400000 in
theorem put_has1 {w : World} {g base most : Nat} {J : List UInt8} {a : Option Addr} {c A B : Nat} {m : Msg} {a1 : Option Addr} {c1 : Nat} {a2 : Option Addr} {c2 : Nat} {a3 : Option Addr} {c3 : Nat} {a4 : Option Addr} {c4 : Nat} (h : PutI w g base most J a c A B m a1 c1 a2 c2 a3 c3 a4 c4) (X : List UInt8) (HC : hasK m.kind 1 = true → ∀ W : World, Below w.heap.size w W → Calls Tryz.prog 294 #[.pointer (some ⟨A, 0, none⟩), .pointer (some ⟨B, 0, none⟩)] W fun r w' => r = .returned (.tuple #[]) ∧ PenStep W g base most (J ++ X) a w') :
    Calls Tryz.prog 292 #[.int .i64 1, .func (Fn.func 294) #[] #[.pointer (some ⟨A, 0, none⟩), .pointer (some ⟨B, 0, none⟩)], .pointer (some ⟨B, 0, none⟩)] w fun r w' => r = .returned (.tuple #[]) ∧ PenStep w g base most (J ++ partB (hasK m.kind 1) X) a w' := by
  have HH := hid (kind_has m.kind 1 (by unfold isPart; decide) w)
  have HCC := hid HC
  have HP := hid h.pen
  have y0 : w.cell? ⟨B, 0, none⟩ = some (.int .i64 m.kind) := h.pb.cell 0
  clear h HC
  generalize hasK m.kind 1 = H at *
  go_enter Tryz.func292, Tryz.ntmps292
  go_wp2_with fail
  refine HH.out.mono ?_
  rintro r w1 ⟨rfl, hb1⟩
  have HB := hid hb1
  clear hb1
  cases H
  · go_wp2_with fail
    first | go_end0 | refine bodyPost_ret (results_none rfl _ _ _) rfl ?_
    refine ⟨rfl, ?_⟩
    have := PenStep.later HB.out (PenStep.refl (HP.out.later HB.out))
    simpa [partB] using this
  · have HD := hid (HCC.out rfl w1 HB.out)
    go_wp2_with fail
    refine HD.out.mono ?_
    rintro r w2 ⟨rfl, hst⟩
    have HST := hid (PenStep.later HB.out hst)
    clear hst
    go_wp2_with fail
    first | go_end0 | refine bodyPost_ret (results_none rfl _ _ _) rfl ?_
    exact ⟨rfl, HST.out⟩

set_option maxRecDepth 100000 in
set_option maxHeartbeats 6400000 in
theorem put_has2 {w : World} {g base most : Nat} {J : List UInt8} {a : Option Addr} {c A B : Nat} {m : Msg} {a1 : Option Addr} {c1 : Nat} {a2 : Option Addr} {c2 : Nat} {a3 : Option Addr} {c3 : Nat} {a4 : Option Addr} {c4 : Nat} (h : PutI w g base most J a c A B m a1 c1 a2 c2 a3 c3 a4 c4) (X : List UInt8) (HC : hasK m.kind 2 = true → ∀ W : World, Below w.heap.size w W → Calls Tryz.prog 295 #[.pointer (some ⟨A, 0, none⟩), .pointer (some ⟨B, 0, none⟩)] W fun r w' => r = .returned (.tuple #[]) ∧ PenStep W g base most (J ++ X) a w') :
    Calls Tryz.prog 292 #[.int .i64 2, .func (Fn.func 295) #[] #[.pointer (some ⟨A, 0, none⟩), .pointer (some ⟨B, 0, none⟩)], .pointer (some ⟨B, 0, none⟩)] w fun r w' => r = .returned (.tuple #[]) ∧ PenStep w g base most (J ++ partB (hasK m.kind 2) X) a w' := by
  have HH := hid (kind_has m.kind 2 (by unfold isPart; decide) w)
  have HCC := hid HC
  have HP := hid h.pen
  have y0 : w.cell? ⟨B, 0, none⟩ = some (.int .i64 m.kind) := h.pb.cell 0
  clear h HC
  generalize hasK m.kind 2 = H at *
  go_enter Tryz.func292, Tryz.ntmps292
  go_wp2_with fail
  refine HH.out.mono ?_
  rintro r w1 ⟨rfl, hb1⟩
  have HB := hid hb1
  clear hb1
  cases H
  · go_wp2_with fail
    first | go_end0 | refine bodyPost_ret (results_none rfl _ _ _) rfl ?_
    refine ⟨rfl, ?_⟩
    have := PenStep.later HB.out (PenStep.refl (HP.out.later HB.out))
    simpa [partB] using this
  · have HD := hid (HCC.out rfl w1 HB.out)
    go_wp2_with fail
    refine HD.out.mono ?_
    rintro r w2 ⟨rfl, hst⟩
    have HST := hid (PenStep.later HB.out hst)
    clear hst
    go_wp2_with fail
    first | go_end0 | refine bodyPost_ret (results_none rfl _ _ _) rfl ?_
    exact ⟨rfl, HST.out⟩

set_option maxRecDepth 100000 in
set_option maxHeartbeats 6400000 in
theorem put_has4 {w : World} {g base most : Nat} {J : List UInt8} {a : Option Addr} {c A B : Nat} {m : Msg} {a1 : Option Addr} {c1 : Nat} {a2 : Option Addr} {c2 : Nat} {a3 : Option Addr} {c3 : Nat} {a4 : Option Addr} {c4 : Nat} (h : PutI w g base most J a c A B m a1 c1 a2 c2 a3 c3 a4 c4) (X : List UInt8) (HC : hasK m.kind 4 = true → ∀ W : World, Below w.heap.size w W → Calls Tryz.prog 296 #[.pointer (some ⟨A, 0, none⟩), .pointer (some ⟨B, 0, none⟩)] W fun r w' => r = .returned (.tuple #[]) ∧ PenStep W g base most (J ++ X) a w') :
    Calls Tryz.prog 292 #[.int .i64 4, .func (Fn.func 296) #[] #[.pointer (some ⟨A, 0, none⟩), .pointer (some ⟨B, 0, none⟩)], .pointer (some ⟨B, 0, none⟩)] w fun r w' => r = .returned (.tuple #[]) ∧ PenStep w g base most (J ++ partB (hasK m.kind 4) X) a w' := by
  have HH := hid (kind_has m.kind 4 (by unfold isPart; decide) w)
  have HCC := hid HC
  have HP := hid h.pen
  have y0 : w.cell? ⟨B, 0, none⟩ = some (.int .i64 m.kind) := h.pb.cell 0
  clear h HC
  generalize hasK m.kind 4 = H at *
  go_enter Tryz.func292, Tryz.ntmps292
  go_wp2_with fail
  refine HH.out.mono ?_
  rintro r w1 ⟨rfl, hb1⟩
  have HB := hid hb1
  clear hb1
  cases H
  · go_wp2_with fail
    first | go_end0 | refine bodyPost_ret (results_none rfl _ _ _) rfl ?_
    refine ⟨rfl, ?_⟩
    have := PenStep.later HB.out (PenStep.refl (HP.out.later HB.out))
    simpa [partB] using this
  · have HD := hid (HCC.out rfl w1 HB.out)
    go_wp2_with fail
    refine HD.out.mono ?_
    rintro r w2 ⟨rfl, hst⟩
    have HST := hid (PenStep.later HB.out hst)
    clear hst
    go_wp2_with fail
    first | go_end0 | refine bodyPost_ret (results_none rfl _ _ _) rfl ?_
    exact ⟨rfl, HST.out⟩

set_option maxRecDepth 100000 in
set_option maxHeartbeats 6400000 in
theorem put_has8 {w : World} {g base most : Nat} {J : List UInt8} {a : Option Addr} {c A B : Nat} {m : Msg} {a1 : Option Addr} {c1 : Nat} {a2 : Option Addr} {c2 : Nat} {a3 : Option Addr} {c3 : Nat} {a4 : Option Addr} {c4 : Nat} (h : PutI w g base most J a c A B m a1 c1 a2 c2 a3 c3 a4 c4) (X : List UInt8) (HC : hasK m.kind 8 = true → ∀ W : World, Below w.heap.size w W → Calls Tryz.prog 297 #[.pointer (some ⟨A, 0, none⟩), .pointer (some ⟨B, 0, none⟩)] W fun r w' => r = .returned (.tuple #[]) ∧ PenStep W g base most (J ++ X) a w') :
    Calls Tryz.prog 292 #[.int .i64 8, .func (Fn.func 297) #[] #[.pointer (some ⟨A, 0, none⟩), .pointer (some ⟨B, 0, none⟩)], .pointer (some ⟨B, 0, none⟩)] w fun r w' => r = .returned (.tuple #[]) ∧ PenStep w g base most (J ++ partB (hasK m.kind 8) X) a w' := by
  have HH := hid (kind_has m.kind 8 (by unfold isPart; decide) w)
  have HCC := hid HC
  have HP := hid h.pen
  have y0 : w.cell? ⟨B, 0, none⟩ = some (.int .i64 m.kind) := h.pb.cell 0
  clear h HC
  generalize hasK m.kind 8 = H at *
  go_enter Tryz.func292, Tryz.ntmps292
  go_wp2_with fail
  refine HH.out.mono ?_
  rintro r w1 ⟨rfl, hb1⟩
  have HB := hid hb1
  clear hb1
  cases H
  · go_wp2_with fail
    first | go_end0 | refine bodyPost_ret (results_none rfl _ _ _) rfl ?_
    refine ⟨rfl, ?_⟩
    have := PenStep.later HB.out (PenStep.refl (HP.out.later HB.out))
    simpa [partB] using this
  · have HD := hid (HCC.out rfl w1 HB.out)
    go_wp2_with fail
    refine HD.out.mono ?_
    rintro r w2 ⟨rfl, hst⟩
    have HST := hid (PenStep.later HB.out hst)
    clear hst
    go_wp2_with fail
    first | go_end0 | refine bodyPost_ret (results_none rfl _ _ _) rfl ?_
    exact ⟨rfl, HST.out⟩

set_option maxRecDepth 100000 in
set_option maxHeartbeats 6400000 in
theorem put_has16 {w : World} {g base most : Nat} {J : List UInt8} {a : Option Addr} {c A B : Nat} {m : Msg} {a1 : Option Addr} {c1 : Nat} {a2 : Option Addr} {c2 : Nat} {a3 : Option Addr} {c3 : Nat} {a4 : Option Addr} {c4 : Nat} (h : PutI w g base most J a c A B m a1 c1 a2 c2 a3 c3 a4 c4) (X : List UInt8) (HC : hasK m.kind 16 = true → ∀ W : World, Below w.heap.size w W → Calls Tryz.prog 299 #[.pointer (some ⟨A, 0, none⟩), .pointer (some ⟨B, 0, none⟩)] W fun r w' => r = .returned (.tuple #[]) ∧ PenStep W g base most (J ++ X) a w') :
    Calls Tryz.prog 292 #[.int .i64 16, .func (Fn.func 299) #[] #[.pointer (some ⟨A, 0, none⟩), .pointer (some ⟨B, 0, none⟩)], .pointer (some ⟨B, 0, none⟩)] w fun r w' => r = .returned (.tuple #[]) ∧ PenStep w g base most (J ++ partB (hasK m.kind 16) X) a w' := by
  have HH := hid (kind_has m.kind 16 (by unfold isPart; decide) w)
  have HCC := hid HC
  have HP := hid h.pen
  have y0 : w.cell? ⟨B, 0, none⟩ = some (.int .i64 m.kind) := h.pb.cell 0
  clear h HC
  generalize hasK m.kind 16 = H at *
  go_enter Tryz.func292, Tryz.ntmps292
  go_wp2_with fail
  refine HH.out.mono ?_
  rintro r w1 ⟨rfl, hb1⟩
  have HB := hid hb1
  clear hb1
  cases H
  · go_wp2_with fail
    first | go_end0 | refine bodyPost_ret (results_none rfl _ _ _) rfl ?_
    refine ⟨rfl, ?_⟩
    have := PenStep.later HB.out (PenStep.refl (HP.out.later HB.out))
    simpa [partB] using this
  · have HD := hid (HCC.out rfl w1 HB.out)
    go_wp2_with fail
    refine HD.out.mono ?_
    rintro r w2 ⟨rfl, hst⟩
    have HST := hid (PenStep.later HB.out hst)
    clear hst
    go_wp2_with fail
    first | go_end0 | refine bodyPost_ret (results_none rfl _ _ _) rfl ?_
    exact ⟨rfl, HST.out⟩

set_option maxRecDepth 100000 in
set_option maxHeartbeats 6400000 in
theorem put_has64 {w : World} {g base most : Nat} {J : List UInt8} {a : Option Addr} {c A B : Nat} {m : Msg} {a1 : Option Addr} {c1 : Nat} {a2 : Option Addr} {c2 : Nat} {a3 : Option Addr} {c3 : Nat} {a4 : Option Addr} {c4 : Nat} (h : PutI w g base most J a c A B m a1 c1 a2 c2 a3 c3 a4 c4) (X : List UInt8) (HC : hasK m.kind 64 = true → ∀ W : World, Below w.heap.size w W → Calls Tryz.prog 301 #[.pointer (some ⟨A, 0, none⟩), .pointer (some ⟨B, 0, none⟩)] W fun r w' => r = .returned (.tuple #[]) ∧ PenStep W g base most (J ++ X) a w') :
    Calls Tryz.prog 292 #[.int .i64 64, .func (Fn.func 301) #[] #[.pointer (some ⟨A, 0, none⟩), .pointer (some ⟨B, 0, none⟩)], .pointer (some ⟨B, 0, none⟩)] w fun r w' => r = .returned (.tuple #[]) ∧ PenStep w g base most (J ++ partB (hasK m.kind 64) X) a w' := by
  have HH := hid (kind_has m.kind 64 (by unfold isPart; decide) w)
  have HCC := hid HC
  have HP := hid h.pen
  have y0 : w.cell? ⟨B, 0, none⟩ = some (.int .i64 m.kind) := h.pb.cell 0
  clear h HC
  generalize hasK m.kind 64 = H at *
  go_enter Tryz.func292, Tryz.ntmps292
  go_wp2_with fail
  refine HH.out.mono ?_
  rintro r w1 ⟨rfl, hb1⟩
  have HB := hid hb1
  clear hb1
  cases H
  · go_wp2_with fail
    first | go_end0 | refine bodyPost_ret (results_none rfl _ _ _) rfl ?_
    refine ⟨rfl, ?_⟩
    have := PenStep.later HB.out (PenStep.refl (HP.out.later HB.out))
    simpa [partB] using this
  · have HD := hid (HCC.out rfl w1 HB.out)
    go_wp2_with fail
    refine HD.out.mono ?_
    rintro r w2 ⟨rfl, hst⟩
    have HST := hid (PenStep.later HB.out hst)
    clear hst
    go_wp2_with fail
    first | go_end0 | refine bodyPost_ret (results_none rfl _ _ _) rfl ?_
    exact ⟨rfl, HST.out⟩

set_option maxRecDepth 100000 in
set_option maxHeartbeats 6400000 in
theorem put_has128 {w : World} {g base most : Nat} {J : List UInt8} {a : Option Addr} {c A B : Nat} {m : Msg} {a1 : Option Addr} {c1 : Nat} {a2 : Option Addr} {c2 : Nat} {a3 : Option Addr} {c3 : Nat} {a4 : Option Addr} {c4 : Nat} (h : PutI w g base most J a c A B m a1 c1 a2 c2 a3 c3 a4 c4) (X : List UInt8) (HC : hasK m.kind 128 = true → ∀ W : World, Below w.heap.size w W → Calls Tryz.prog 303 #[.pointer (some ⟨A, 0, none⟩), .pointer (some ⟨B, 0, none⟩)] W fun r w' => r = .returned (.tuple #[]) ∧ PenStep W g base most (J ++ X) a w') :
    Calls Tryz.prog 292 #[.int .i64 128, .func (Fn.func 303) #[] #[.pointer (some ⟨A, 0, none⟩), .pointer (some ⟨B, 0, none⟩)], .pointer (some ⟨B, 0, none⟩)] w fun r w' => r = .returned (.tuple #[]) ∧ PenStep w g base most (J ++ partB (hasK m.kind 128) X) a w' := by
  have HH := hid (kind_has m.kind 128 (by unfold isPart; decide) w)
  have HCC := hid HC
  have HP := hid h.pen
  have y0 : w.cell? ⟨B, 0, none⟩ = some (.int .i64 m.kind) := h.pb.cell 0
  clear h HC
  generalize hasK m.kind 128 = H at *
  go_enter Tryz.func292, Tryz.ntmps292
  go_wp2_with fail
  refine HH.out.mono ?_
  rintro r w1 ⟨rfl, hb1⟩
  have HB := hid hb1
  clear hb1
  cases H
  · go_wp2_with fail
    first | go_end0 | refine bodyPost_ret (results_none rfl _ _ _) rfl ?_
    refine ⟨rfl, ?_⟩
    have := PenStep.later HB.out (PenStep.refl (HP.out.later HB.out))
    simpa [partB] using this
  · have HD := hid (HCC.out rfl w1 HB.out)
    go_wp2_with fail
    refine HD.out.mono ?_
    rintro r w2 ⟨rfl, hst⟩
    have HST := hid (PenStep.later HB.out hst)
    clear hst
    go_wp2_with fail
    first | go_end0 | refine bodyPost_ret (results_none rfl _ _ _) rfl ?_
    exact ⟨rfl, HST.out⟩

theorem mostK_le (k : Int) : mostK k ≤ 20 := by unfold mostK; split <;> omega
theorem partB_true {h : Bool} {X : List UInt8} (hh : h = true) : (partB h X).length = X.length := by rw [hh]; rfl


/-- What body.Bytes gives. -/
def msgBytes (m : Msg) : List UInt8 × Int := if msgR m = true then (msgB m, 0) else ([], 3)

def noMsg : Msg := ⟨0, 0, 0, 0, 0, 0, [], [], [], ⟨0, 0, 0⟩, ⟨0, []⟩⟩
theorem msgIn_bare {S : Nat → Prop} {w : World} {m : Msg} (hk : inI m.kind) (he : inU m.epoch) (hs : inU m.seq) (hp : inU m.pos) (hc : inI m.count) (ht : inI m.state) (h1 : m.streams = []) (h2 : m.links = []) (h3 : m.data = []) (h4 : inU m.sea.epoch ∧ inU m.sea.node ∧ inU m.sea.tail) (h5 : inU m.proj.epoch) (h6 : m.proj.stripes = []) : MsgIn S w m none 0 none 0 none 0 none 0 := by
  refine ⟨hk, he, hs, hp, hc, ht, h4.1, h4.2.1, h4.2.2, h5, ?_, ?_, ?_, ?_⟩
  · rw [h1]; exact rSl_mk (xs := []) rfl (Nat.zero_le _) (Nat.zero_le _) (.inl rfl)
  · rw [h2]; exact rSl_mk (xs := []) rfl (Nat.zero_le _) (Nat.zero_le _) (.inl rfl)
  · rw [h3]; exact rSl_mk (xs := []) rfl (Nat.zero_le _) (Nat.zero_le _) (.inl rfl)
  · rw [h6]; exact rSl_mk (xs := []) rfl (Nat.zero_le _) (Nat.zero_le _) (.inl rfl)

theorem Rs.rise_put {B rest : List UInt8} : ∀ (l : List Int) (prev : Option Int) (p : Nat) (out : List Int), (prev = none ∧ out = [] ∨ ∃ q, prev = some q ∧ 0 ≤ q ∧ out ≠ [] ∧ out.getLastD 0 = q ∧ ∀ x ∈ l.head?, q < x) → risesB l = true → (∀ x ∈ l, 0 ≤ x ∧ x ≤ 18446744073709551615) → B.drop p = numsB (upsN prev l) ++ rest → p ≤ B.length →
    Rs.rise B l.length ⟨p, 0, 0⟩ out = (⟨p + (numsB (upsN prev l)).length, 0, 0⟩, out ++ l)
  | [], prev, p, out, _, _, _, _, _ => by simp [Rs.rise, upsN, numsB]
  | x :: l, prev, p, out, hp, hr, hx, h, hl => by
    have h0 := hx x (by simp)
    have hr2 : risesB l = true := by
      cases l with
      | nil => rfl
      | cons y l => simp only [risesB, Bool.and_eq_true] at hr; exact hr.2
    have hnx : ∀ y ∈ l.head?, x < y := by
      cases l with
      | nil => simp
      | cons y l => simp only [risesB, Bool.and_eq_true, decide_eq_true_eq] at hr; intro z hz; simp at hz; subst hz; exact hr.1
    simp only [upsN] at h ⊢
    rw [numsB_cons, List.append_assoc] at h
    have hd := drop_more h
    have hro := drop_room h hl
    have hrec := Rs.rise_put l (some x) _ (out ++ [x]) (.inr ⟨x, rfl, h0.1, by simp, by simp, hnx⟩) hr2 (fun y hy => hx y (by simp [hy])) hd (by omega)
    simp only [List.length_cons, Rs.rise]
    rcases hp with ⟨rfl, rfl⟩ | ⟨q, rfl, hq0, hne, hq, hlt⟩
    · dsimp only at h hrec ⊢
      have hN := Rs.num_varB (x := x.toNat) (by omega) h
      rw [hN]
      dsimp only
      rw [if_pos rfl, if_neg (fun h => h.1 rfl), if_pos rfl, toNat_cast h0.1, hrec, numsB_cons, List.length_append]
      simp [Nat.add_assoc]
    · have hqx : q < x := hlt x (by simp)
      dsimp only at h hrec ⊢
      have hN := Rs.num_varB (x := (x - q - 1).toNat) (by omega) h
      rw [hN]
      dsimp only
      rw [if_pos rfl, hq, toNat_cast (by omega), if_neg (by omega), if_neg hne, show x - q - 1 + (q + 1) = x by omega, hrec, numsB_cons, List.length_append]
      simp [Nat.add_assoc]
theorem Rs.set_put {B rest : List UInt8} {l : List Int} {O : List (List Int)} {p : Nat} (hn : nodesR l = true) (ha : apartR l O = true) (hx : ∀ x ∈ l, 0 ≤ x ∧ x ≤ 18446744073709551615) (h : B.drop p = setB l ++ rest) (hp : p ≤ B.length) :
    (⟨p, 0, 0⟩ : Rs).set_ B O = (⟨p + (setB l).length, 0, 0⟩, l) := by
  unfold nodesR at hn
  simp only [Bool.and_eq_true, decide_eq_true_eq] at hn
  obtain ⟨⟨h1, h8⟩, hr, hla⟩ := hn
  unfold setB upsB at h ⊢
  rw [List.append_assoc] at h
  have hi := Rs.int_pre (m := 8) (by omega) h (by omega)
  have hd := drop_more h
  have hro := drop_room h hp
  have hR := Rs.rise_put l none _ [] (.inl ⟨rfl, rfl⟩) hr hx hd (by omega)
  unfold Rs.set_ Rs.many
  rw [hi]
  dsimp only
  rw [if_neg (show ¬ l.length = 0 by omega), hR]
  dsimp only
  rw [List.nil_append, if_pos rfl, if_neg (show ¬ 4294967295 < l.getLastD 0 by omega), if_pos ha, List.length_append, Nat.add_assoc]
theorem setsR_each {L : List (List Int)} : ∀ n, setsR L n = true → ∀ i, i < n → setR L i = true
  | 0, _, i, hi => absurd hi (by omega)
  | n + 1, h, i, hi => by
    unfold setsR at h
    rw [Bool.and_eq_true] at h
    by_cases e : i = n
    · subst e; exact h.2
    · exact setsR_each n h.1 i (by omega)
theorem Rs.sets_put {B rest : List UInt8} : ∀ (l out : List (List Int)) (p : Nat), (∀ i, out.length ≤ i → i < (out ++ l).length → setR (out ++ l) i = true) → (∀ x ∈ l, ∀ y ∈ x, 0 ≤ y ∧ y ≤ 18446744073709551615) → B.drop p = setsB l ++ rest → p ≤ B.length →
    Rs.sets_ B l.length ⟨p, 0, 0⟩ out = (⟨p + (setsB l).length, 0, 0⟩, out ++ l)
  | [], out, p, _, _, _, _ => by simp [Rs.sets_, setsB]
  | x :: l, out, p, hs, hx, h, hp => by
    have h1 := hs out.length (Nat.le_refl _) (by simp)
    unfold setR at h1
    rw [show (out ++ x :: l).getD out.length [] = x by simp [List.getD_eq_getElem?_getD], List.take_left, Bool.and_eq_true] at h1
    have e : setsB (x :: l) = setB x ++ setsB l := by simp [setsB]
    rw [e, List.append_assoc] at h
    have hS := Rs.set_put h1.1 h1.2 (hx x (by simp)) h hp
    have hd := drop_more h
    have hro := drop_room h hp
    have e2 : out ++ x :: l = (out ++ [x]) ++ l := by simp
    have hrec := Rs.sets_put l (out ++ [x]) _ (fun i h1 h2 => by rw [← e2]; rw [← e2] at h2; exact hs i (by rw [List.length_append] at h1; omega) h2) (fun z hz => hx z (by simp [hz])) hd (by omega)
    simp only [List.length_cons, Rs.sets_]
    rw [hS]
    dsimp only
    rw [if_pos rfl, hrec, e, e2, List.length_append, Nat.add_assoc]
theorem Rs.stripe_put {B rest : List UInt8} {s : Stripe} {p : Nat} (hr : stripeR s = true) (h0 : 0 ≤ s.lo) (hx : ∀ x ∈ s.sets, ∀ y ∈ x, 0 ≤ y ∧ y ≤ 18446744073709551615) (h : B.drop p = stripeB s ++ rest) (hp : p ≤ B.length) :
    (⟨p, 0, 0⟩ : Rs).stripe_ B s.lo = (⟨p + (stripeB s).length, 0, 0⟩, s) := by
  obtain ⟨lo, hi, sets⟩ := s
  unfold stripeR at hr
  simp only [Bool.and_eq_true, decide_eq_true_eq] at hr
  obtain ⟨⟨a1, a2, a3, a4⟩, a5⟩ := hr
  dsimp only at *
  unfold stripeB at h ⊢
  dsimp only at h ⊢
  rw [List.append_assoc, List.append_assoc] at h
  have hN := Rs.num_varB (x := (hi - lo - 1).toNat) (by omega) h
  have hd := drop_more h
  have hro := drop_room h hp
  have hI := Rs.int_pre (m := 8) (x := sets.length) (by omega) hd (by omega)
  have hd2 := drop_more hd
  have hro2 := drop_room hd (by omega)
  have hS := Rs.sets_put sets [] _ (fun i _ hi => by rw [List.nil_append] at hi ⊢; exact setsR_each _ a5 i hi) hx hd2 (by omega)
  unfold Rs.stripe_ Rs.span Rs.many
  dsimp only
  rw [if_neg (show ¬ 4611686018427387904 < lo by omega), hN]
  dsimp only
  rw [toNat_cast (by omega), if_neg (show ¬ 4611686018427387904 - min lo 4611686018427387904 ≤ hi - lo - 1 by omega), hI]
  dsimp only
  rw [if_neg (show ¬ sets.length = 0 by omega), hS]
  dsimp only
  rw [if_pos rfl, show lo + (hi - lo - 1) + 1 = hi by omega, List.nil_append, List.length_append, List.length_append, Nat.add_assoc, Nat.add_assoc, Nat.add_assoc]

theorem Rs.ep_putm {B rest : List UInt8} {p : Nat} {e : Int} (h1 : epR e = true) (h : B.drop p = varB e.toNat ++ rest) : (⟨p, 0, 0⟩ : Rs).ep B = (⟨p + (varB e.toNat).length, 0, 0⟩, e.toNat) := by
  have h2 := h1
  simp only [epR, decide_eq_true_eq] at h2
  unfold Rs.ep
  rw [Rs.num_varB (by omega) h]
  dsimp only
  rw [if_pos rfl, toNat_cast (by omega), if_pos h1]
theorem Rs.tl_put {B rest : List UInt8} {p : Nat} {e : Int} (h0 : 0 ≤ e) (h1 : e ≤ 4611686018427387904) (h : B.drop p = varB e.toNat ++ rest) : (⟨p, 0, 0⟩ : Rs).tl B = (⟨p + (varB e.toNat).length, 0, 0⟩, e.toNat) := by
  unfold Rs.tl
  rw [Rs.num_varB (by omega) h]
  dsimp only
  rw [if_pos rfl, toNat_cast h0, if_pos (show tlR e = true from decide_eq_true h1)]
theorem Rs.most_put {B rest : List UInt8} {p m : Nat} {e : Int} (h0 : 0 ≤ e) (h1 : e ≤ m) (hm : m < 18446744073709551616) (h : B.drop p = varB e.toNat ++ rest) : (⟨p, 0, 0⟩ : Rs).most B m = (⟨p + (varB e.toNat).length, 0, 0⟩, e.toNat) := by
  unfold Rs.most
  rw [Rs.num_varB (by omega) h]
  dsimp only
  rw [if_neg (show ¬ m < e.toNat by omega)]
theorem Rs.seal_put {B rest : List UInt8} {s : Seal} {p : Nat} (hr : sealR s = true) (h0 : 0 ≤ s.node) (h1 : 0 ≤ s.tail) (h : B.drop p = sealB s ++ rest) (hp : p ≤ B.length) :
    (⟨p, 0, 0⟩ : Rs).seal_ B = (⟨p + (sealB s).length, 0, 0⟩, s) := by
  obtain ⟨e, n, t⟩ := s
  unfold sealR at hr
  simp only [Bool.and_eq_true, decide_eq_true_eq] at hr
  obtain ⟨a1, a2, a3⟩ := hr
  dsimp only at *
  have a4 := a1
  simp only [epR, decide_eq_true_eq] at a4
  unfold sealB at h ⊢
  dsimp only at h ⊢
  rw [List.append_assoc, List.append_assoc] at h
  have hd := drop_more h
  have hd2 := drop_more hd
  unfold Rs.seal_
  rw [Rs.ep_putm a1 h]
  dsimp only
  rw [Rs.most_put (m := 4294967295) h0 (by omega) (by omega) hd]
  dsimp only
  rw [Rs.tl_put h1 a3 hd2]
  dsimp only
  rw [if_pos rfl, toNat_cast (by omega), toNat_cast h0, toNat_cast h1, List.length_append, List.length_append, Nat.add_assoc, Nat.add_assoc, Nat.add_assoc]
theorem Rs.stripes_put {B rest : List UInt8} : ∀ (l : List Stripe) (lo : Int) (out : List Stripe) (p : Nat), 0 ≤ lo → chainP lo l = true → (∀ s ∈ l, ∀ x ∈ s.sets, ∀ y ∈ x, 0 ≤ y ∧ y ≤ 18446744073709551615) → B.drop p = stripesB l ++ rest → p ≤ B.length →
    Rs.stripes_ B l.length ⟨p, 0, 0⟩ lo out = (⟨p + (stripesB l).length, 0, 0⟩, 4611686018427387904, out ++ l)
  | [], lo, out, p, _, hc, _, _, _ => by
    simp only [chainP, decide_eq_true_eq] at hc
    subst hc
    simp [Rs.stripes_, stripesB]
  | s :: l, lo, out, p, h0, hc, hx, h, hp => by
    simp only [chainP, Bool.and_eq_true, decide_eq_true_eq] at hc
    obtain ⟨rfl, hr, hc⟩ := hc
    have e : stripesB (s :: l) = stripeB s ++ stripesB l := by simp [stripesB]
    rw [e, List.append_assoc] at h
    have hS := Rs.stripe_put hr h0 (hx s (by simp)) h hp
    have hd := drop_more h
    have hro := drop_room h hp
    have h3 : s.lo < s.hi := by
      unfold stripeR at hr
      simp only [Bool.and_eq_true, decide_eq_true_eq] at hr
      exact hr.1.1
    have hrec := Rs.stripes_put l s.hi (out ++ [s]) _ (by omega) hc (fun z hz => hx z (by simp [hz])) hd (by omega)
    simp only [List.length_cons, Rs.stripes_]
    rw [hS]
    dsimp only
    rw [if_pos rfl, hrec, e, List.length_append, Nat.add_assoc, List.append_assoc]
    rfl
theorem Rs.proj_put {B rest : List UInt8} {s : Projn} {p : Nat} (hr : projR s = true) (hx : ∀ z ∈ s.stripes, ∀ x ∈ z.sets, ∀ y ∈ x, 0 ≤ y ∧ y ≤ 18446744073709551615) (h : B.drop p = projB s ++ rest) (hp : p ≤ B.length) :
    (⟨p, 0, 0⟩ : Rs).proj_ B = (⟨p + (projB s).length, 0, 0⟩, s) := by
  obtain ⟨e, l⟩ := s
  unfold projR at hr
  simp only [Bool.and_eq_true, decide_eq_true_eq] at hr
  obtain ⟨a1, ⟨a2, a3⟩, a4⟩ := hr
  dsimp only at *
  have a5 := a1
  simp only [epR, decide_eq_true_eq] at a5
  unfold projB at h ⊢
  dsimp only at h ⊢
  rw [List.append_assoc, List.append_assoc] at h
  have hd := drop_more h
  have hro := drop_room h hp
  have hI := Rs.int_pre (m := 64) (x := l.length) (by omega) hd (by omega)
  have hd2 := drop_more hd
  have hro2 := drop_room hd (by omega)
  have hS := Rs.stripes_put l 0 [] _ (by omega) a4 hx hd2 (by omega)
  unfold Rs.proj_ Rs.many
  rw [Rs.ep_putm a1 h]
  dsimp only
  rw [hI]
  dsimp only
  rw [if_neg (show ¬ l.length = 0 by omega), hS]
  dsimp only
  rw [if_pos rfl, if_pos rfl, List.nil_append, toNat_cast (by omega), List.length_append, List.length_append, Nat.add_assoc, Nat.add_assoc, Nat.add_assoc]

/-- A part that a kind has, or has not. -/
def Rs.part {α : Type} (h : Bool) (s : Rs) (f : Rs → Rs × α) (z : α) : Rs × α := if h = true then f s else (s, z)
def Rs.pos_ (B : List UInt8) (s : Rs) : Rs × Int := ((s.po B).1, ((s.po B).2 : Int))
def Rs.cnt (B : List UInt8) (s : Rs) : Rs × Int := ((s.many B 65536).1, ((s.many B 65536).2 : Int))
def Rs.stt (B : List UInt8) (k : Int) (s : Rs) : Rs × Int :=
  let x : Int := ((s.byte B).2.toNat : Int)
  (if 1 ≤ x ∧ x ≤ mostK k then (s.byte B).1 else (s.byte B).1.fail 3 s.p, x)
def Rs.strm (B : List UInt8) (s : Rs) : Rs × List Int := Rs.rise B (s.int B 16).2 (s.int B 16).1 []
/-- A body's parts ahead of its block. -/
structure Ahead where
  pos : Int
  count : Int
  state : Int
  streams : List Int
  links : List Link
def Rs.ahead (B : List UInt8) (k : Int) (s : Rs) : Rs × Ahead :=
  let a := Rs.part (hasK k 1) s (Rs.pos_ B) 0
  let b := Rs.part (hasK k 2) a.1 (Rs.cnt B) 0
  let c := Rs.part (hasK k 4) b.1 (Rs.stt B k) 0
  let d := Rs.part (hasK k 8) c.1 (Rs.strm B) []
  let e := Rs.part (hasK k 16) d.1 (fun t => t.links B a.2) []
  (e.1, ⟨a.2, b.2, c.2, d.2, e.2⟩)
def Rs.body (B : List UInt8) (blk : Rs → Rs × List UInt8 × Bool) (k : Int) (s : Rs) : Rs × Msg × Bool :=
  if 1 ≤ k ∧ k ≤ 14 then
    let e := s.ahead B k
    let f := Rs.part (blockK k e.2.state) e.1 blk ([], true)
    let g := Rs.part (hasK k 64) f.1 (Rs.seal_ B) noSealS
    let h := Rs.part (hasK k 128) g.1 (Rs.proj_ B) noProj
    if h.1.k = 0 then (h.1, ⟨k, 0, 0, e.2.pos, e.2.count, e.2.state, e.2.streams, e.2.links, f.2.1, g.2, h.2⟩, f.2.2) else (h.1, noMsg, false)
  else (s.fail 7 s.p, noMsg, false)

section
variable {α : Type} {B : List UInt8} {s : Rs}
theorem Rs.po_of_badm (h : s.k ≠ 0) : s.po B = (s, 0) := by
  unfold Rs.po
  rw [Rs.num_of_bad h, if_neg h]
theorem Rs.pos_of_bad (h : s.k ≠ 0) : s.pos_ B = (s, 0) := by
  unfold Rs.pos_
  rw [Rs.po_of_badm h]
  rfl
theorem Rs.cnt_of_bad (h : s.k ≠ 0) : s.cnt B = (s, 0) := by
  unfold Rs.cnt
  rw [Rs.many_of_bad h]
  rfl
theorem Rs.strm_of_bad (h : s.k ≠ 0) : s.strm B = (s, []) := by
  unfold Rs.strm
  rw [Rs.int_of_badm h]
  rfl
theorem Rs.stt_of_bad {k : Int} (h : s.k ≠ 0) : s.stt B k = (s, 0) := by
  unfold Rs.stt Rs.byte
  rw [Rs.skip_of_bad h]
  dsimp only
  rw [Rs.fail_of_bad h]
  simp
end

theorem Rs.part_put {α : Type} {B rest b : List UInt8} {h : Bool} {f : Rs → Rs × α} {z x : α} {p : Nat} (hb : B.drop p = partB h b ++ rest) (yes : h = true → B.drop p = b ++ rest → f ⟨p, 0, 0⟩ = (⟨p + b.length, 0, 0⟩, x)) (no : h = false → x = z) :
    Rs.part h ⟨p, 0, 0⟩ f z = (⟨p + (partB h b).length, 0, 0⟩, x) := by
  cases h with
  | false => rw [no rfl]; rfl
  | true => exact yes rfl hb
theorem Rs.pos_put {B rest : List UInt8} {p : Nat} {x : Int} (h0 : 0 ≤ x) (h1 : poR x = true) (h : B.drop p = varB x.toNat ++ rest) : (⟨p, 0, 0⟩ : Rs).pos_ B = (⟨p + (varB x.toNat).length, 0, 0⟩, x) := by
  have h2 := h1
  simp only [poR, decide_eq_true_eq] at h2
  unfold Rs.pos_ Rs.po
  rw [Rs.num_varB (by omega) h]
  dsimp only
  rw [if_pos rfl, toNat_cast h0, if_pos h1]
  dsimp only
  rw [toNat_cast h0]
theorem Rs.cnt_put {B rest : List UInt8} {p : Nat} {x : Int} (h0 : 1 ≤ x) (h1 : x ≤ 65536) (h : B.drop p = varB x.toNat ++ rest) : (⟨p, 0, 0⟩ : Rs).cnt B = (⟨p + (varB x.toNat).length, 0, 0⟩, x) := by
  unfold Rs.cnt Rs.many
  rw [Rs.int_pre (x := x.toNat) (m := 65536) (by omega) h (by omega)]
  dsimp only
  rw [if_neg (show ¬ x.toNat = 0 by omega), toNat_cast (by omega)]
theorem Rs.strm_put {B rest : List UInt8} {p : Nat} {l : List Int} (hl : l.length ≤ 16) (hr : risesB l = true) (hx : ∀ x ∈ l, 0 ≤ x ∧ x ≤ 18446744073709551615) (h : B.drop p = setB l ++ rest) (hp : p ≤ B.length) : (⟨p, 0, 0⟩ : Rs).strm B = (⟨p + (setB l).length, 0, 0⟩, l) := by
  unfold setB upsB at h ⊢
  rw [List.append_assoc] at h
  have hd := drop_more h
  have hro := drop_room h hp
  unfold Rs.strm
  rw [Rs.int_pre (x := l.length) (m := 16) (by omega) h (by omega)]
  dsimp only
  rw [Rs.rise_put l none _ [] (.inl ⟨rfl, rfl⟩) hr hx hd (by omega), List.nil_append, List.length_append, Nat.add_assoc]

theorem Rs.stt_put {B rest : List UInt8} {p : Nat} {k x : Int} (h0 : 1 ≤ x ∧ x ≤ mostK k) (h : B.drop p = [UInt8.ofNat x.toNat] ++ rest) (hp : p ≤ B.length) : (⟨p, 0, 0⟩ : Rs).stt B k = (⟨p + 1, 0, 0⟩, x) := by
  have hm : mostK k ≤ 20 := by unfold mostK; split <;> omega
  have e : (((UInt8.ofNat x.toNat).toNat : Nat) : Int) = x := by
    rw [UInt8.toNat_ofNat']
    omega
  unfold Rs.stt
  rw [Rs.byte_pre (x := UInt8.ofNat x.toNat) h hp]
  dsimp only
  rw [e, if_pos h0]
/-- What stands ahead of the block. -/
def aheadM (m : Msg) : List UInt8 :=
  partB (hasK m.kind 1) (varB m.pos.toNat) ++ (partB (hasK m.kind 2) (varB m.count.toNat) ++ (partB (hasK m.kind 4) [UInt8.ofNat m.state.toNat] ++
  (partB (hasK m.kind 8) (setB m.streams) ++ partB (hasK m.kind 16) (linksB m.pos m.links))))
/-- The bounds of a message's numbers. -/
structure MsgN (m : Msg) : Prop where
  pos : inU m.pos
  streams : ∀ x ∈ m.streams, 0 ≤ x ∧ x ≤ 18446744073709551615
  links : ∀ x ∈ m.links, (0 ≤ x.stream ∧ x.stream ≤ 18446744073709551615) ∧ ∀ y ∈ x.backs, 0 ≤ y
  node : 0 ≤ m.sea.node
  tail : 0 ≤ m.sea.tail
  proj : ∀ z ∈ m.proj.stripes, ∀ x ∈ z.sets, ∀ y ∈ x, 0 ≤ y ∧ y ≤ 18446744073709551615
theorem Rs.ahead_put {B rest : List UInt8} {m : Msg} {p : Nat} (hN : MsgN m)
    (r1 : withinR (hasK m.kind 1) (poR m.pos) (decide (m.pos = 0)) = true) (r2 : withinR (hasK m.kind 2) (decide (1 ≤ m.count ∧ m.count ≤ 65536)) (decide (m.count = 0)) = true)
    (r3 : withinR (hasK m.kind 4) (decide (1 ≤ m.state ∧ m.state ≤ mostK m.kind)) (decide (m.state = 0)) = true) (r4 : withinR (hasK m.kind 8) (decide (m.streams.length ≤ 16) && risesB m.streams) (decide (m.streams.length = 0)) = true)
    (r5 : withinR (hasK m.kind 16) (linksR m.pos m.links) (decide (m.links.length = 0)) = true) (h : B.drop p = aheadM m ++ rest) (hp : p ≤ B.length) :
    (⟨p, 0, 0⟩ : Rs).ahead B m.kind = (⟨p + (aheadM m).length, 0, 0⟩, ⟨m.pos, m.count, m.state, m.streams, m.links⟩) := by
  obtain ⟨n1, n2, n3, _, _, _⟩ := hN
  unfold aheadM at h ⊢
  simp only [List.append_assoc] at h
  have hd1 := drop_more h
  have o1 := drop_room h hp
  have hd2 := drop_more hd1
  have o2 := drop_room hd1 (by omega)
  have hd3 := drop_more hd2
  have o3 := drop_room hd2 (by omega)
  have hd4 := drop_more hd3
  have o4 := drop_room hd3 (by omega)
  have P1 := Rs.part_put (h := hasK m.kind 1) (f := Rs.pos_ B) (z := 0) (x := m.pos) h (fun e hb => Rs.pos_put n1.1 (by rw [e] at r1; exact r1) hb) (fun e => by rw [e] at r1; exact of_decide_eq_true r1)
  have P2 := Rs.part_put (h := hasK m.kind 2) (f := Rs.cnt B) (z := 0) (x := m.count) hd1 (fun e hb => by rw [e] at r2; have := of_decide_eq_true r2; exact Rs.cnt_put this.1 this.2 hb) (fun e => by rw [e] at r2; exact of_decide_eq_true r2)
  have P3 := Rs.part_put (h := hasK m.kind 4) (f := Rs.stt B m.kind) (z := 0) (x := m.state) hd2 (fun e hb => by rw [e] at r3; exact Rs.stt_put (of_decide_eq_true r3) hb (by omega)) (fun e => by rw [e] at r3; exact of_decide_eq_true r3)
  have P4 := Rs.part_put (h := hasK m.kind 8) (f := Rs.strm B) (z := []) (x := m.streams) hd3 (fun e hb => by rw [e] at r4; have := (Bool.and_eq_true _ _).mp r4; exact Rs.strm_put (of_decide_eq_true this.1) this.2 n2 hb (by omega)) (fun e => by rw [e] at r4; exact List.length_eq_zero_iff.1 (of_decide_eq_true r4))
  have P5 := Rs.part_put (h := hasK m.kind 16) (f := fun t => t.links B m.pos) (z := []) (x := m.links) hd4 (fun e hb => by rw [e] at r5; exact Rs.links_put n1.2 r5 n3 hb (by omega)) (fun e => by rw [e] at r5; exact List.length_eq_zero_iff.1 (of_decide_eq_true r5))
  unfold Rs.ahead
  rw [P1]
  dsimp only
  rw [P2]
  dsimp only
  rw [P3]
  dsimp only
  rw [P4]
  dsimp only
  rw [P5]
  simp only [List.length_append, Nat.add_assoc]

theorem Rs.body_put {B rest : List UInt8} {m : Msg} {p : Nat} {blk : Rs → Rs × List UInt8 × Bool} (hN : MsgN m) (hr : msgR m = true) (he : m.epoch = 0) (hs : m.seq = 0) (h : B.drop p = msgB m ++ rest) (hp : p ≤ B.length)
    (hblk : ∀ q rest', q ≤ B.length → B.drop q = blockB m.data ++ rest' → blk ⟨q, 0, 0⟩ = (⟨q + (blockB m.data).length, 0, 0⟩, m.data, true)) :
    Rs.body B blk m.kind ⟨p, 0, 0⟩ = (⟨p + (msgB m).length, 0, 0⟩, m, true) := by
  unfold msgR at hr
  simp only [Bool.and_eq_true] at hr
  obtain ⟨rk, r1, r2, r3, r4, r5, r6, r7, r8⟩ := hr
  have rk := of_decide_eq_true rk
  have e : msgB m = aheadM m ++ (partB (blockK m.kind m.state) (blockB m.data) ++ (partB (hasK m.kind 64) (sealB m.sea) ++ partB (hasK m.kind 128) (projB m.proj))) := by simp [msgB, aheadM]
  rw [e] at h ⊢
  simp only [List.append_assoc] at h
  have hd1 := drop_more h
  have o1 := drop_room h hp
  have hd2 := drop_more hd1
  have o2 := drop_room hd1 (by omega)
  have hd3 := drop_more hd2
  have o3 := drop_room hd2 (by omega)
  have hA := Rs.ahead_put hN r1 r2 r3 (by simpa using r4) r5 h hp
  have P1 := Rs.part_put (h := blockK m.kind m.state) (f := blk) (z := ([], true)) (x := (m.data, true)) hd1 (fun _ hb => hblk _ _ (by omega) hb) (fun e => by
    rw [e] at r8
    have : m.data.length = 0 := by simpa using r8
    rw [List.length_eq_zero_iff.1 this])
  have P2 := Rs.part_put (h := hasK m.kind 64) (f := Rs.seal_ B) (z := noSealS) (x := m.sea) hd2 (fun e hb => by rw [e] at r6; exact Rs.seal_put r6 hN.node hN.tail hb (by omega)) (fun e => by rw [e] at r6; exact of_decide_eq_true r6)
  have P3 := Rs.part_put (h := hasK m.kind 128) (f := Rs.proj_ B) (z := noProj) (x := m.proj) hd3 (fun e hb => by rw [e] at r7; exact Rs.proj_put r7 hN.proj hb (by omega)) (fun e => by
    rw [e] at r7
    have h7 := (Bool.and_eq_true _ _).mp r7
    have h8 := of_decide_eq_true h7.1
    have h9 := List.length_eq_zero_iff.1 (of_decide_eq_true h7.2)
    cases hq : m.proj with
    | mk a b => rw [hq] at h8 h9; dsimp only at h8 h9; rw [h8, h9]; rfl)
  unfold Rs.body
  rw [if_pos rk, hA]
  dsimp only
  rw [P1]
  dsimp only
  rw [P2]
  dsimp only
  rw [P3]
  dsimp only
  rw [if_pos rfl]
  simp only [List.length_append, Nat.add_assoc]
  obtain ⟨a, b, c, d, e, f, g, h, i, j, k⟩ := m
  dsimp only at he hs
  subst he hs
  rfl

theorem Rs.part_k {α : Type} {h : Bool} {s : Rs} {f : Rs → Rs × α} {z : α} (hk : (Rs.part h s f z).1.k = 0) (hf : (f s).1.k = 0 → s.k = 0) : s.k = 0 := by
  cases h
  · exact hk
  · exact hf hk

theorem post_world {P : Program} {f : Func} {Q : Ending → World → Prop} {e : Exit} {a : Act} {w : World} (F : World → Prop) (hF : F w) (h : ∀ W, F W → bodyPost P f Q e a W) : bodyPost P f Q e a w := h w hF
theorem size_set (w : World) (p : Addr) (u : Value) : (w.setCell p u).heap.size = w.heap.size := by simp [World.setCell]


/-- What a function does that reads a block: memory of one's own, and blocks of K; what it leaves besides. -/
structure UnblockB (w : World) (g : Nat) (B : List UInt8) (a : Option Addr) (fn : Nat) (caps : Array Value) (blk : Rs → Rs × List UInt8 × Bool) (K : Nat → Prop) (X : World → Bool → Prop) : Prop where
  lt : ∀ b, K b → b < w.heap.size
  own : K g
  st : ∀ W W' q, X W q → w.heap.size ≤ W.heap.size → Tch (fun b => b = g ∨ w.heap.size ≤ b) W W' → X W' q
  call : ∀ W t q0, RdAt W g B a t → X W q0 → w.heap.size ≤ W.heap.size → Tch K w W → Calls Tryz.prog fn caps W fun r W' => ∃ v, r = .returned v ∧ rBytes.r (Fresh W W') W' [v] (blk t).2.1 ∧ RdAt W' g B a (blk t).1 ∧ Tch K W W' ∧ X W' (blk t).2.2
  size : ∀ t, (blk t).2.1.length ≤ 1048576
  dat : rBytes.r (fun q => q < w.heap.size ∧ ¬ K q) w [.slice a B.length B.length] B
  bad : ∀ t : Rs, t.k ≠ 0 → (blk t).1 = t ∧ (blk t).2.1 = []
  ent : ∀ (xs : Array Value) (W : World), (callFunc fn xs).run Tryz.prog W = .ok (.enter fn xs) W

/-- A message's cells. -/
abbrev bodCells (m : Msg) (v1 v2 v3 v4 : Value) : Array Value := #[.int .i64 m.kind, .int .u64 m.epoch, .int .u64 m.seq, .int .u64 m.pos, .int .i64 m.count, .int .i64 m.state, v1, v2, v3, .int .u64 m.sea.epoch, .int .u64 m.sea.node, .int .u64 m.sea.tail, .int .u64 m.proj.epoch, v4]
abbrev zeroCells : Array Value := #[.int .i64 0, .int .u64 0, .int .u64 0, .int .u64 0, .int .i64 0, .int .i64 0, .slice none 0 0, .slice none 0 0, .slice none 0 0, .int .u64 0, .int .u64 0, .int .u64 0, .int .u64 0, .slice none 0 0]
/-- A body as far as it is read. -/
structure BodI (w : World) (g : Nat) (B : List UInt8) (a : Option Addr) (K : Nat → Prop) (X : World → Bool → Prop) (q : Bool) (M lo : Nat) (k : Int) (m : Msg) (v1 v2 v3 v4 : Value) (s : Rs) (W : World) : Prop where
  rd : RdAt W g B a s
  dat : rBytes.r (fun b => b < w.heap.size ∧ ¬ K b) W [.slice a B.length B.length] B
  pa : Blk W w.heap.size 112 #[.pointer (some ⟨g, 0, none⟩)]
  pk : Blk W (w.heap.size + 1) 3 #[.int .i64 k]
  pr : Blk W (w.heap.size + 1 + 1) 45 zeroCells
  pm : Blk W M 45 (bodCells m v1 v2 v3 v4)
  lm : w.heap.size + 1 + 1 < M ∧ M < lo
  low : lo ≤ W.heap.size
  st : rU64s.r (fun b => lo ≤ b ∧ b < W.heap.size) W [v1] m.streams
  ln : rLinks.r (fun b => lo ≤ b ∧ b < W.heap.size) W [v2] m.links
  da : rBytes.r (fun b => lo ≤ b ∧ b < W.heap.size) W [v3] m.data
  sp : rStripes.r (fun b => lo ≤ b ∧ b < W.heap.size) W [v4] m.proj.stripes
  tch : Tch K w W
  x : X W q
section
variable {w : World} {g : Nat} {B : List UInt8} {a : Option Addr} {K : Nat → Prop} {X : World → Bool → Prop} {q : Bool} {M lo : Nat} {k : Int} {m : Msg} {v1 v2 v3 v4 : Value} {s : Rs} {W : World} {fn : Nat} {caps : Array Value} {blk : Rs → Rs × List UInt8 × Bool}
theorem BodI.stepK {q' : Bool} {s' : Rs} {W' : World} (hU : UnblockB w g B a fn caps blk K X) (h : BodI w g B a K X q M lo k m v1 v2 v3 v4 s W) (kt : Tch K W W') (kr : RdAt W' g B a s') (kx : X W' q') : BodI w g B a K X q' M lo k m v1 v2 v3 v4 s' W' := by
  have hw := h.tch.size
  have hlm := h.lm
  have hK : ∀ b, w.heap.size ≤ b → ¬ K b := fun b hb e => absurd (hU.lt b e) (by omega)
  have hk : ∀ b, lo ≤ b ∧ b < W.heap.size → W'.heap[b]? = W.heap[b]? := fun b hb => kt.block b hb.2 (hK b (by omega))
  have hm : ∀ b, lo ≤ b ∧ b < W.heap.size → lo ≤ b ∧ b < W'.heap.size := fun b hb => ⟨hb.1, Nat.lt_of_lt_of_le hb.2 kt.size⟩
  exact ⟨kr, rBytes.keep h.dat fun b hb => kt.block b (Nat.lt_of_lt_of_le hb.1 hw) hb.2, h.pa.tch kt (hK _ (Nat.le_refl _)), h.pk.tch kt (hK _ (by omega)), h.pr.tch kt (hK _ (by omega)), h.pm.tch kt (hK _ (by omega)), hlm, Nat.le_trans h.low kt.size,
    rU64s.mono (rU64s.keep h.st hk) hm, rLinks.mono (rLinks.keep h.ln hk) hm, rBytes.mono (rBytes.keep h.da hk) hm, rStripes.mono (rStripes.keep h.sp hk) hm, h.tch.trans kt fun b _ e => e, kx⟩
theorem BodI.step {s' : Rs} {W' : World} (hU : UnblockB w g B a fn caps blk K X) (h : BodI w g B a K X q M lo k m v1 v2 v3 v4 s W) (kk : RdStep W g B a s' W') : BodI w g B a K X q M lo k m v1 v2 v3 v4 s' W' :=
  h.stepK hU (kk.2.mono fun b _ e => e ▸ hU.own) kk.1 (hU.st W W' q h.x h.tch.size (kk.2.mono fun b _ e => .inl e))
theorem BodI.later {W' : World} (hU : UnblockB w g B a fn caps blk K X) (h : BodI w g B a K X q M lo k m v1 v2 v3 v4 s W) (hb : Below W.heap.size W W') : BodI w g B a K X q M lo k m v1 v2 v3 v4 s W' := h.step hU (RdStep.later h.rd hb)
/-- A cell of the message's, stored. -/
theorem BodI.setM (hU : UnblockB w g B a fn caps blk K X) (h : BodI w g B a K X q M lo k m v1 v2 v3 v4 s W) (i : Nat) (u : Value) {m' : Msg} {v1' v2' v3' v4' : Value} (hc : (bodCells m v1 v2 v3 v4).setIfInBounds i u = bodCells m' v1' v2' v3' v4')
    (h1 : rU64s.r (fun b => lo ≤ b ∧ b < W.heap.size) W [v1'] m'.streams) (h2 : rLinks.r (fun b => lo ≤ b ∧ b < W.heap.size) W [v2'] m'.links) (h3 : rBytes.r (fun b => lo ≤ b ∧ b < W.heap.size) W [v3'] m'.data) (h4 : rStripes.r (fun b => lo ≤ b ∧ b < W.heap.size) W [v4'] m'.proj.stripes) : BodI w g B a K X q M lo k m' v1' v2' v3' v4' s (W.setCell ⟨M, i, none⟩ u) := by
  have hw := h.tch.size
  have hlm := h.lm
  have hlow := h.low
  have hgw : g < w.heap.size := hU.lt g hU.own
  have hz : (W.setCell ⟨M, i, none⟩ u).heap.size = W.heap.size := size_set _ _ _
  have hT : Tch (fun b => b = g ∨ w.heap.size ≤ b) W (W.setCell ⟨M, i, none⟩ u) := (Tch.refl _ _).setCell (fun _ => .inr (by dsimp only; omega)) _
  have hk : ∀ b, lo ≤ b ∧ b < W.heap.size → (W.setCell ⟨M, i, none⟩ u).heap[b]? = W.heap[b]? := fun b hb => Below.heap_setCell _ _ _ _ (by have := hb.1; dsimp only; omega)
  have hm : ∀ b, lo ≤ b ∧ b < W.heap.size → lo ≤ b ∧ b < (W.setCell ⟨M, i, none⟩ u).heap.size := fun b hb => ⟨hb.1, by omega⟩
  have hd : rBytes.r (fun b => b < w.heap.size ∧ ¬ K b) (W.setCell ⟨M, i, none⟩ u) [.slice a B.length B.length] B := rBytes.keep h.dat fun b hb => Below.heap_setCell _ _ _ _ (by have := hb.1; dsimp only; omega)
  refine ⟨⟨Blk.far h.rd.blk (by dsimp only; omega) _, rBytes.mono hd fun b hb => ⟨by have := hb.1; omega, fun e => hb.2 (e ▸ hU.own)⟩, h.rd.ok⟩, hd, Blk.far h.pa (by dsimp only; omega) _, Blk.far h.pk (by dsimp only; omega) _, Blk.far h.pr (by dsimp only; omega) _, ?_, hlm, by omega,
    rU64s.mono (rU64s.keep h1 hk) hm, rLinks.mono (rLinks.keep h2 hk) hm, rBytes.mono (rBytes.keep h3 hk) hm, rStripes.mono (rStripes.keep h4 hk) hm, h.tch.setCell (fun e => absurd e (by dsimp only; omega)) _, hU.st W _ q h.x hw hT⟩
  rw [← hc]
  exact h.pm.set i u
end
theorem mm_blk {w : World} {g : Nat} {t : TypeId} {v0 v1 v2 v3 v4 v5 v6 v7 v8 v9 v10 v11 v12 v13 : Value} (h : Blk w g t #[v0, v1, v2, v3, v4, v5, v6, v7, v8, v9, v10, v11, v12, v13]) :
    w.cell? ⟨g, 0, none⟩ = some v0 ∧ w.cell? ⟨g, 1, none⟩ = some v1 ∧ w.cell? ⟨g, 2, none⟩ = some v2 ∧ w.cell? ⟨g, 3, none⟩ = some v3 ∧ w.cell? ⟨g, 4, none⟩ = some v4 ∧ w.cell? ⟨g, 5, none⟩ = some v5 ∧ w.cell? ⟨g, 6, none⟩ = some v6 ∧ w.cell? ⟨g, 7, none⟩ = some v7 ∧ w.cell? ⟨g, 8, none⟩ = some v8 ∧ w.cell? ⟨g, 9, none⟩ = some v9 ∧ w.cell? ⟨g, 10, none⟩ = some v10 ∧ w.cell? ⟨g, 11, none⟩ = some v11 ∧ w.cell? ⟨g, 12, none⟩ = some v12 ∧ w.cell? ⟨g, 13, none⟩ = some v13 ∧ g < w.heap.size :=
  ⟨h.cell 0, h.cell 1, h.cell 2, h.cell 3, h.cell 4, h.cell 5, h.cell 6, h.cell 7, h.cell 8, h.cell 9, h.cell 10, h.cell 11, h.cell 12, h.cell 13, h.lt⟩
theorem fr_blk {w : World} {g : Nat} {t : TypeId} {cs : Array Value} (h : Blk w g t cs) (i : Nat) : w.frozen? ⟨g, i, none⟩ = false := h.free i

set_option maxRecDepth 100000 in
set_option maxHeartbeats 1600000 in
theorem body_checked {w : World} {g : Nat} {B : List UInt8} {a : Option Addr} {s : Rs} (h : RdAt w g B a s) (p : Int) (R : Bool) :
    Calls Tryz.prog 310 #[.pointer (some ⟨g, 0, none⟩), .int .i64 p, .bool R] w fun r w' => r = .returned (.tuple #[]) ∧ RdStep w g B a (if R = true then s else s.fail 3 p) w' := by
  have HF := hid (rd_fail w h 3 p (by omega))
  have HR := hid (RdStep.refl h)
  clear h
  cases R
  · go_enter Tryz.func310, Tryz.ntmps310
    go_wp2_with fail
    refine HF.out.mono ?_
    rintro r w1 ⟨rfl, hst⟩
    have HST := hid hst
    clear hst
    go_wp2_with fail
    first | go_end0 | refine bodyPost_ret (results_none rfl _ _ _) rfl ?_
    exact ⟨rfl, HST.out⟩
  · go_enter Tryz.func310, Tryz.ntmps310
    go_wp2_with fail
    first | go_end0 | refine bodyPost_ret (results_none rfl _ _ _) rfl ?_
    exact ⟨rfl, HR.out⟩

set_option maxRecDepth 100000 in
set_option maxHeartbeats 1600000 in
theorem bread_pos {w : World} {g : Nat} {B : List UInt8} {a : Option Addr} {K : Nat → Prop} {X : World → Bool → Prop} {q : Bool} {M lo : Nat} {k : Int} {m : Msg} {v1 v2 v3 v4 : Value} {s : Rs} {W : World} {fn : Nat} {caps : Array Value} {blk : Rs → Rs × List UInt8 × Bool} (hU : UnblockB w g B a fn caps blk K X) (hB : B.length ≤ 1000000000) (h : BodI w g B a K X q M lo k m v1 v2 v3 v4 s W) (p : Int) :
    Calls Tryz.prog 308 #[.int .i64 p, .pointer (some ⟨w.heap.size, 0, none⟩), .pointer (some ⟨M, 0, none⟩)] W fun r W' => r = .returned (.tuple #[]) ∧ BodI w g B a K X q M lo k { m with pos := (s.pos_ B).2 } v1 v2 v3 v4 (s.pos_ B).1 W' := by
  have p0 : W.cell? ⟨w.heap.size, 0, none⟩ = some (.pointer (some ⟨g, 0, none⟩)) := h.pa.cell 0
  have HI := hid h
  have HUU := hid hU
  have HR := hid (epoch_readpos W h.rd hB)
  clear h hU
  go_enter Tryz.func308, Tryz.ntmps308
  go_wp2_with fail
  refine HR.out.mono ?_
  rintro r w1 ⟨rfl, hst⟩
  have HI1 := hid (HI.out.step HUU.out hst)
  have f3 := fr_blk HI1.out.pm 3
  obtain ⟨y0, y1, y2, y3, y4, y5, y6, y7, y8, y9, y10, y11, y12, y13, lm3⟩ := mm_blk HI1.out.pm
  clear hst
  go_wp2_with fail
  first | go_end0 | refine bodyPost_ret (results_none rfl _ _ _) rfl ?_
  exact ⟨rfl, HI1.out.setM HUU.out 3 _ (by first | (simp only [bodCells, List.setIfInBounds_toArray, List.set_cons_zero, List.set_cons_succ]; done) | (simp only [bodCells, List.setIfInBounds_toArray, List.set_cons_zero, List.set_cons_succ]; rfl)) HI1.out.st HI1.out.ln HI1.out.da HI1.out.sp⟩

set_option maxRecDepth 100000 in
set_option maxHeartbeats 1600000 in
theorem bread_count {w : World} {g : Nat} {B : List UInt8} {a : Option Addr} {K : Nat → Prop} {X : World → Bool → Prop} {q : Bool} {M lo : Nat} {k : Int} {m : Msg} {v1 v2 v3 v4 : Value} {s : Rs} {W : World} {fn : Nat} {caps : Array Value} {blk : Rs → Rs × List UInt8 × Bool} (hU : UnblockB w g B a fn caps blk K X) (hB : B.length ≤ 1000000000) (h : BodI w g B a K X q M lo k m v1 v2 v3 v4 s W) (p : Int) :
    Calls Tryz.prog 309 #[.int .i64 p, .pointer (some ⟨w.heap.size, 0, none⟩), .pointer (some ⟨M, 0, none⟩)] W fun r W' => r = .returned (.tuple #[]) ∧ (p = s.p → BodI w g B a K X q M lo k { m with count := (s.cnt B).2 } v1 v2 v3 v4 (s.cnt B).1 W') := by
  have p0 : W.cell? ⟨w.heap.size, 0, none⟩ = some (.pointer (some ⟨g, 0, none⟩)) := h.pa.cell 0
  have HI := hid h
  have HUU := hid hU
  have HR := hid (varint_int W h.rd (by omega) 65536 (by omega))
  unfold Rs.cnt Rs.many
  generalize s.int B 65536 = I at *
  obtain ⟨s1, n⟩ := I
  dsimp only at *
  generalize hFF : (if n = 0 then s1.fail 3 (s.p : Int) else s1) = sF
  have HFF := hid hFF
  clear hFF
  clear h hU
  go_enter Tryz.func309, Tryz.ntmps309
  go_wp2_with fail
  refine HR.out.mono ?_
  rintro r w1 ⟨rfl, hst⟩
  have HI1 := hid (HI.out.step HUU.out hst)
  have f4 := fr_blk HI1.out.pm 4
  obtain ⟨y0, y1, y2, y3, y4, y5, y6, y7, y8, y9, y10, y11, y12, y13, lm4⟩ := mm_blk HI1.out.pm
  have HI2 := hid (HI1.out.setM HUU.out 4 (.int .i64 (n : Int)) (m' := { m with count := (n : Int) }) (v1' := v1) (v2' := v2) (v3' := v3) (v4' := v4) (by simp only [bodCells, List.setIfInBounds_toArray, List.set_cons_zero, List.set_cons_succ]) HI1.out.st HI1.out.ln HI1.out.da HI1.out.sp)
  have p1 : w1.cell? ⟨w.heap.size, 0, none⟩ = some (.pointer (some ⟨g, 0, none⟩)) := HI1.out.pa.cell 0
  have p2 : (w1.setCell ⟨M, 4, none⟩ (.int .i64 (n : Int))).cell? ⟨w.heap.size, 0, none⟩ = some (.pointer (some ⟨g, 0, none⟩)) := HI2.out.pa.cell 0
  have HC := hid (fun R => body_checked HI2.out.rd p R)
  by_cases hn : n = 0
  · have d1 : decide ((0 : Int) < (n : Int)) = false := decide_eq_false (by omega)
    have HN := hid hn
    clear hst hn
    go_wp2_with fail
    refine (HC.out _).mono ?_
    rintro r w3 ⟨rfl, hst⟩
    have HI3 := hid (HI2.out.step HUU.out hst)
    clear hst
    go_wp2_with fail
    first | go_end0 | refine bodyPost_ret (results_none rfl _ _ _) rfl ?_
    refine ⟨rfl, fun e => ?_⟩
    subst e
    have h3 := HI3.out
    rw [decide_eq_false (show ¬ 0 < n by have := HN.out; omega)] at h3
    rw [← HFF.out, if_pos HN.out]
    exact h3
  · have d1 : decide ((0 : Int) < (n : Int)) = true := decide_eq_true (by omega)
    have HN := hid hn
    clear hst hn
    go_wp2_with fail
    refine (HC.out _).mono ?_
    rintro r w3 ⟨rfl, hst⟩
    have HI3 := hid (HI2.out.step HUU.out hst)
    clear hst
    go_wp2_with fail
    first | go_end0 | refine bodyPost_ret (results_none rfl _ _ _) rfl ?_
    refine ⟨rfl, fun e => ?_⟩
    have h3 := HI3.out
    rw [decide_eq_true (show 0 < n by have := HN.out; omega)] at h3
    rw [← HFF.out, if_neg HN.out]
    exact h3

theorem RdStep.later' {w w' : World} {g : Nat} {B : List UInt8} {a : Option Addr} {s s' : Rs} (h : RdAt w g B a s) (k : RdStep w.drew g B a s' w') : RdStep w g B a s' w' := ⟨k.1, (Tch.refl (· = g) w).drew.trans k.2 fun _ _ e => e⟩

set_option maxRecDepth 100000 in
set_option maxHeartbeats 1600000 in
theorem bread_state {w : World} {g : Nat} {B : List UInt8} {a : Option Addr} {K : Nat → Prop} {X : World → Bool → Prop} {q : Bool} {M lo : Nat} {k : Int} {m : Msg} {v1 v2 v3 v4 : Value} {s : Rs} {W : World} {fn : Nat} {caps : Array Value} {blk : Rs → Rs × List UInt8 × Bool} (hU : UnblockB w g B a fn caps blk K X) (hB : B.length ≤ 1000000000) (h : BodI w g B a K X q M lo k m v1 v2 v3 v4 s W) (p : Int) :
    Calls Tryz.prog 311 #[.int .i64 p, .pointer (some ⟨w.heap.size, 0, none⟩), .pointer (some ⟨M, 0, none⟩), .pointer (some ⟨w.heap.size + 1, 0, none⟩)] W fun r W' => r = .returned (.tuple #[]) ∧ (p = s.p → BodI w g B a K X q M lo k { m with state := (s.stt B k).2 } v1 v2 v3 v4 (s.stt B k).1 W') := by
  have p0 : W.cell? ⟨w.heap.size, 0, none⟩ = some (.pointer (some ⟨g, 0, none⟩)) := h.pa.cell 0
  have HI := hid h
  have HUU := hid hU
  have HR := hid (rd_byte W h.rd)
  have k0 : W.cell? ⟨w.heap.size + 1, 0, none⟩ = some (.int .i64 k) := h.pk.cell 0
  have hb8 : (s.byte B).2.toNat < 256 := (s.byte B).2.toNat_lt
  unfold Rs.stt
  generalize s.byte B = I at *
  obtain ⟨s1, c⟩ := I
  dsimp only at *
  generalize c.toNat = n at *
  generalize hFF : (if 1 ≤ (n : Int) ∧ (n : Int) ≤ mostK k then s1 else s1.fail 3 (s.p : Int)) = sF
  have HFF := hid hFF
  clear hFF
  have hI64 : (-9223372036854775808 : Int) ≤ (n : Int) := by omega
  have hI65 : (n : Int) ≤ 9223372036854775807 := by omega
  clear h hU
  go_enter Tryz.func311, Tryz.ntmps311
  go_wp2_with fail
  refine HR.out.mono ?_
  rintro r w1 ⟨rfl, hst⟩
  have HI1 := hid (HI.out.step HUU.out hst)
  have f5 := fr_blk HI1.out.pm 5
  obtain ⟨y0, y1, y2, y3, y4, y5, y6, y7, y8, y9, y10, y11, y12, y13, lm5⟩ := mm_blk HI1.out.pm
  have HI2 := hid (HI1.out.setM HUU.out 5 (.int .i64 (n : Int)) (m' := { m with state := (n : Int) }) (v1' := v1) (v2' := v2) (v3' := v3) (v4' := v4) (by simp only [bodCells, List.setIfInBounds_toArray, List.set_cons_zero, List.set_cons_succ]) HI1.out.st HI1.out.ln HI1.out.da HI1.out.sp)
  clear hst
  go_wp2_with fail
  generalize w1.setCell ⟨M, 5, none⟩ (.int .i64 (n : Int)) = w2 at *
  have p2 : w2.cell? ⟨w.heap.size, 0, none⟩ = some (.pointer (some ⟨g, 0, none⟩)) := HI2.out.pa.cell 0
  have k2 : w2.cell? ⟨w.heap.size + 1, 0, none⟩ = some (.int .i64 k) := HI2.out.pk.cell 0
  have m2 : w2.cell? ⟨M, 5, none⟩ = some (.int .i64 (n : Int)) := HI2.out.pm.cell 5
  have l1 := HI2.out.pa.lt
  have l2 := HI2.out.pk.lt
  have l3 := HI2.out.pm.lt
  have HRD := hid (HI2.out.rd.later (show Below w2.heap.size w2 w2.drew from (Below.refl _ _).drew))
  have HC := hid (fun R => body_checked HRD.out p R)
  have HMO := hid (fun (V : World) => body_most k V)
  by_cases h1 : 1 ≤ (n : Int)
  · have d1 : decide (1 ≤ (n : Int)) = true := decide_eq_true h1
    obtain ⟨R, hR⟩ : ∃ R, R = decide ((n : Int) ≤ mostK k) := ⟨_, rfl⟩
    have HRR := hid hR
    clear hR
    generalize hmk : mostK k = mk at *
    have HMK := hid hmk
    clear hmk
    refine wp_region_held_drew (S := fun w' => w'.cell? ⟨w.heap.size, 0, none⟩ = some (.pointer (some ⟨g, 0, none⟩)) ∧ w'.cell? ⟨M, 5, none⟩ = some (.int .i64 (n : Int)) ∧ w'.cell? ⟨w.heap.size + 1, 0, none⟩ = some (.int .i64 k)) (by kernel_rfl) ⟨p2, m2, k2⟩ (fun hHeld => ?_)
    refine wpAnyH_take (i := 0) (oi := _) (v := ?_) rfl (by decide +kernel) (by decide +kernel) (by decide +kernel) (fun _ _ _ h => h) (Or.inl ⟨by rfl, ?_⟩) (by assumption) ?_
    rotate_left
    · (intro w hSw; (try dsimp only at hSw); go_simp <;> with_reducible rfl)
    (try simp only [Act.put, List.setIfInBounds_toArray, List.set_cons_zero, List.set_cons_succ])
    refine wpAnyH_take (i := 1) (oi := _) (v := ?_) rfl (by decide +kernel) (by decide +kernel) (by decide +kernel) (fun _ _ _ h => h) (Or.inl ⟨by rfl, ?_⟩) (by assumption) ?_
    rotate_left
    · (intro w hSw; (try dsimp only at hSw); go_simp <;> with_reducible rfl)
    (try simp only [Act.put, List.setIfInBounds_toArray, List.set_cons_zero, List.set_cons_succ])
    refine wpAnyH_take (i := 2) (oi := _) (v := ?_) rfl (by decide +kernel) (by decide +kernel) (by decide +kernel) (fun _ _ _ h => h) (Or.inl ⟨by rfl, ?_⟩) (by assumption) ?_
    rotate_left
    · (intro w hSw; (try dsimp only at hSw); go_simp <;> with_reducible rfl)
    (try simp only [Act.put, List.setIfInBounds_toArray, List.set_cons_zero, List.set_cons_succ])
    refine wpAnyH_take (i := 3) (oi := _) (v := ?_) rfl (by decide +kernel) (by decide +kernel) (by decide +kernel) (fun _ _ _ h => h) (Or.inl ⟨by rfl, ?_⟩) (by assumption) ?_
    rotate_left
    · (intro w hSw; (try dsimp only at hSw); go_simp <;> with_reducible rfl)
    (try simp only [Act.put, List.setIfInBounds_toArray, List.set_cons_zero, List.set_cons_succ])
    refine wpAnyH_take (i := 4) (oi := _) (v := ?_) rfl (by decide +kernel) (by decide +kernel) (by decide +kernel) (fun _ _ _ h => h) (Or.inl ⟨by rfl, ?_⟩) (by assumption) ?_
    rotate_left
    · (intro w hSw; (try dsimp only at hSw); go_simp <;> with_reducible rfl)
    (try simp only [Act.put, List.setIfInBounds_toArray, List.set_cons_zero, List.set_cons_succ])
    refine wpAnyH_take (i := 5) (oi := _) (v := ?_) rfl (by decide +kernel) (by decide +kernel) (by decide +kernel) (fun _ _ _ h => h) (Or.inl ⟨by rfl, ?_⟩) (by assumption) ?_
    rotate_left
    · (intro w hSw; (try dsimp only at hSw); go_simp <;> with_reducible rfl)
    (try simp only [Act.put, List.setIfInBounds_toArray, List.set_cons_zero, List.set_cons_succ])
    refine wpAnyH_take (i := 6) (oi := _) (v := ?_) rfl (by decide +kernel) (by decide +kernel) (by decide +kernel) (fun _ _ _ h => h) (Or.inl ⟨by kernel_rfl, ?_⟩) (by assumption) ?_
    rotate_left
    · (intro w hSw; (try dsimp only at hSw); go_simp <;> with_reducible rfl)
    (try simp only [Act.put, List.setIfInBounds_toArray, List.set_cons_zero, List.set_cons_succ])
    refine wpAnyH_take (i := 7) (oi := _) (v := ?_) rfl (by decide +kernel) (by decide +kernel) (by decide +kernel) (fun _ _ _ h => h) (Or.inl ⟨by kernel_rfl, ?_⟩) (by assumption) ?_
    rotate_left
    · (intro w hSw; (try dsimp only at hSw); go_simp <;> with_reducible rfl)
    (try simp only [Act.put, List.setIfInBounds_toArray, List.set_cons_zero, List.set_cons_succ])
    refine wpAnyH_take (i := 8) (oi := _) (v := ?_) rfl (by decide +kernel) (by decide +kernel) (by decide +kernel) (fun _ _ _ h => h) (Or.inl ⟨by kernel_rfl, ?_⟩) (by assumption) ?_
    rotate_left
    · (intro w hSw; (try dsimp only at hSw); go_simp <;> with_reducible rfl)
    (try simp only [Act.put, List.setIfInBounds_toArray, List.set_cons_zero, List.set_cons_succ])
    (try simp only [List.getElem_toArray, List.getElem_cons_zero, List.getElem_cons_succ, Act.put, List.setIfInBounds_toArray, List.set_cons_zero, List.set_cons_succ])
    refine wpAnyH_ready (rs := [9]) (by decide +kernel) (by simp) ?_
    refine AllReadyH.cons (o := _) rfl (fun K hK => ?_) AllReadyH.nil
    (go_simp; go_at_call 287; refine (HMO.out _).mono ?_; rintro e1 w7 ⟨rfl, rfl⟩; (try dsimp only))
    refine hK.out _ _ ?_ (fun hHeld => ?_)
    · ((try dsimp only); first | (refine ⟨?_, ?_, ?_⟩ <;> (first | assumption | (go_keep; done))) | (refine ⟨?_, ?_⟩ <;> (first | assumption | (go_keep; done))) | assumption | (go_keep; done))
    clear hK K
    (try simp only [Act.put, List.setIfInBounds_toArray, List.set_cons_zero, List.set_cons_succ])
    refine wpAnyH_take (i := 10) (oi := _) (v := ?_) rfl (by decide +kernel) (by decide +kernel) (by decide +kernel) (fun _ _ _ h => h) (Or.inl ⟨by kernel_rfl, ?_⟩) (by assumption) ?_
    rotate_left
    · (intro w hSw; (try dsimp only at hSw); go_simp <;> with_reducible rfl)
    (try simp only [Act.put, List.setIfInBounds_toArray, List.set_cons_zero, List.set_cons_succ])
    refine wpAnyH_take (i := 11) (oi := _) (v := ?_) rfl (by decide +kernel) (by decide +kernel) (by decide +kernel) (fun _ _ _ h => h) (Or.inl ⟨by rfl, ?_⟩) (by assumption) ?_
    rotate_left
    · (intro w hSw; (try dsimp only at hSw); go_simp <;> with_reducible rfl)
    (try simp only [Act.put, List.setIfInBounds_toArray, List.set_cons_zero, List.set_cons_succ])
    (try simp only [List.getElem_toArray, List.getElem_cons_zero, List.getElem_cons_succ, Act.put, List.setIfInBounds_toArray, List.set_cons_zero, List.set_cons_succ])
    rw [← HRR.out]
    refine wpAnyH_ready (rs := [12]) (by decide +kernel) (by simp) ?_
    refine AllReadyH.cons (o := _) rfl (fun K hK => ?_) AllReadyH.nil
    (go_simp; go_at_call 310; refine (HC.out _).mono ?_; rintro e1 w8 ⟨rfl, hst8⟩; have HS8 := hid hst8; have n1 := (hst8.2.cell (p := ⟨w.heap.size, 0, none⟩) (by exact l1) (by have := HUU.out.lt g HUU.out.own; dsimp only; omega)).trans p2; have n2 := (hst8.2.cell (p := ⟨M, 5, none⟩) (by exact l3) (by have := HUU.out.lt g HUU.out.own; have := HI2.out.lm; dsimp only; omega)).trans m2; have n3 := (hst8.2.cell (p := ⟨w.heap.size + 1, 0, none⟩) (by exact l2) (by have := HUU.out.lt g HUU.out.own; dsimp only; omega)).trans k2; clear hst8; (try dsimp only))
    refine hK.out _ _ ?_ (fun hHeld => ?_)
    · ((try dsimp only); first | (refine ⟨?_, ?_, ?_⟩ <;> (first | assumption | (go_keep; done))) | (refine ⟨?_, ?_⟩ <;> (first | assumption | (go_keep; done))) | assumption | (go_keep; done))
    clear hK K
    (try simp only [Act.put, List.setIfInBounds_toArray, List.set_cons_zero, List.set_cons_succ])
    (try simp only [List.getElem_toArray, List.getElem_cons_zero, List.getElem_cons_succ, Act.put, List.setIfInBounds_toArray, List.set_cons_zero, List.set_cons_succ])
    refine wpAnyH_done (by kernel_rfl) ?_ _
    go_wp2_with fail
    first | go_end0 | refine bodyPost_ret (results_none rfl _ _ _) rfl ?_
    refine ⟨rfl, fun e => ?_⟩
    subst e
    have hI3 := HI2.out.step HUU.out (RdStep.later' HI2.out.rd HS8.out)
    have hEQ : (if R = true then s1 else s1.fail 3 (s.p : Int)) = sF := by
      rw [← HFF.out, HRR.out]
      by_cases hx : (n : Int) ≤ mk
      · rw [if_pos (decide_eq_true hx), if_pos ⟨by omega, hx⟩]
      · rw [if_neg (fun e => hx (of_decide_eq_true e)), if_neg (fun e => hx e.2)]
    rw [hEQ] at hI3
    exact hI3
  · have d1 : decide (1 ≤ (n : Int)) = false := decide_eq_false h1
    refine wp_region_held_drew (S := fun w' => w'.cell? ⟨w.heap.size, 0, none⟩ = some (.pointer (some ⟨g, 0, none⟩)) ∧ w'.cell? ⟨M, 5, none⟩ = some (.int .i64 (n : Int)) ∧ w'.cell? ⟨w.heap.size + 1, 0, none⟩ = some (.int .i64 k)) (by kernel_rfl) ⟨p2, m2, k2⟩ (fun hHeld => ?_)
    refine wpAnyH_take (i := 0) (oi := _) (v := ?_) rfl (by decide +kernel) (by decide +kernel) (by decide +kernel) (fun _ _ _ h => h) (Or.inl ⟨by rfl, ?_⟩) (by assumption) ?_
    rotate_left
    · (intro w hSw; (try dsimp only at hSw); go_simp <;> with_reducible rfl)
    (try simp only [Act.put, List.setIfInBounds_toArray, List.set_cons_zero, List.set_cons_succ])
    refine wpAnyH_take (i := 1) (oi := _) (v := ?_) rfl (by decide +kernel) (by decide +kernel) (by decide +kernel) (fun _ _ _ h => h) (Or.inl ⟨by rfl, ?_⟩) (by assumption) ?_
    rotate_left
    · (intro w hSw; (try dsimp only at hSw); go_simp <;> with_reducible rfl)
    (try simp only [Act.put, List.setIfInBounds_toArray, List.set_cons_zero, List.set_cons_succ])
    refine wpAnyH_take (i := 2) (oi := _) (v := ?_) rfl (by decide +kernel) (by decide +kernel) (by decide +kernel) (fun _ _ _ h => h) (Or.inl ⟨by rfl, ?_⟩) (by assumption) ?_
    rotate_left
    · (intro w hSw; (try dsimp only at hSw); go_simp <;> with_reducible rfl)
    (try simp only [Act.put, List.setIfInBounds_toArray, List.set_cons_zero, List.set_cons_succ])
    refine wpAnyH_take (i := 3) (oi := _) (v := ?_) rfl (by decide +kernel) (by decide +kernel) (by decide +kernel) (fun _ _ _ h => h) (Or.inl ⟨by rfl, ?_⟩) (by assumption) ?_
    rotate_left
    · (intro w hSw; (try dsimp only at hSw); go_simp <;> with_reducible rfl)
    (try simp only [Act.put, List.setIfInBounds_toArray, List.set_cons_zero, List.set_cons_succ])
    refine wpAnyH_take (i := 4) (oi := _) (v := ?_) rfl (by decide +kernel) (by decide +kernel) (by decide +kernel) (fun _ _ _ h => h) (Or.inl ⟨by rfl, ?_⟩) (by assumption) ?_
    rotate_left
    · (intro w hSw; (try dsimp only at hSw); go_simp <;> with_reducible rfl)
    (try simp only [Act.put, List.setIfInBounds_toArray, List.set_cons_zero, List.set_cons_succ])
    refine wpAnyH_take (i := 5) (oi := _) (v := ?_) rfl (by decide +kernel) (by decide +kernel) (by decide +kernel) (fun _ _ _ h => h) (Or.inl ⟨by rfl, ?_⟩) (by assumption) ?_
    rotate_left
    · (intro w hSw; (try dsimp only at hSw); go_simp <;> with_reducible rfl)
    (try simp only [Act.put, List.setIfInBounds_toArray, List.set_cons_zero, List.set_cons_succ])
    refine wpAnyH_take (i := 6) (oi := _) (v := undef) rfl (by decide +kernel) (by decide +kernel) (by decide +kernel) (fun _ _ _ h => h) (Or.inr ⟨by kernel_rfl, rfl⟩) (by assumption) ?_
    (try simp only [Act.put, List.setIfInBounds_toArray, List.set_cons_zero, List.set_cons_succ])
    refine wpAnyH_take (i := 7) (oi := _) (v := undef) rfl (by decide +kernel) (by decide +kernel) (by decide +kernel) (fun _ _ _ h => h) (Or.inr ⟨by kernel_rfl, rfl⟩) (by assumption) ?_
    (try simp only [Act.put, List.setIfInBounds_toArray, List.set_cons_zero, List.set_cons_succ])
    refine wpAnyH_take (i := 8) (oi := _) (v := undef) rfl (by decide +kernel) (by decide +kernel) (by decide +kernel) (fun _ _ _ h => h) (Or.inr ⟨by kernel_rfl, rfl⟩) (by assumption) ?_
    (try simp only [Act.put, List.setIfInBounds_toArray, List.set_cons_zero, List.set_cons_succ])
    refine wpAnyH_take (i := 9) (oi := _) (v := undef) rfl (by decide +kernel) (by decide +kernel) (by decide +kernel) (fun _ _ _ h => h) (Or.inr ⟨by kernel_rfl, rfl⟩) (by assumption) ?_
    (try simp only [Act.put, List.setIfInBounds_toArray, List.set_cons_zero, List.set_cons_succ])
    refine wpAnyH_take (i := 10) (oi := _) (v := undef) rfl (by decide +kernel) (by decide +kernel) (by decide +kernel) (fun _ _ _ h => h) (Or.inr ⟨by kernel_rfl, rfl⟩) (by assumption) ?_
    (try simp only [Act.put, List.setIfInBounds_toArray, List.set_cons_zero, List.set_cons_succ])
    refine wpAnyH_take (i := 11) (oi := _) (v := ?_) rfl (by decide +kernel) (by decide +kernel) (by decide +kernel) (fun _ _ _ h => h) (Or.inl ⟨by rfl, ?_⟩) (by assumption) ?_
    rotate_left
    · (intro w hSw; (try dsimp only at hSw); go_simp <;> with_reducible rfl)
    (try simp only [Act.put, List.setIfInBounds_toArray, List.set_cons_zero, List.set_cons_succ])
    (try simp only [List.getElem_toArray, List.getElem_cons_zero, List.getElem_cons_succ, Act.put, List.setIfInBounds_toArray, List.set_cons_zero, List.set_cons_succ])
    refine wpAnyH_ready (rs := [12]) (by decide +kernel) (by simp) ?_
    refine AllReadyH.cons (o := _) rfl (fun K hK => ?_) AllReadyH.nil
    (go_simp; go_at_call 310; refine (HC.out _).mono ?_; rintro e1 w8 ⟨rfl, hst8⟩; have HS8 := hid hst8; have n1 := (hst8.2.cell (p := ⟨w.heap.size, 0, none⟩) (by exact l1) (by have := HUU.out.lt g HUU.out.own; dsimp only; omega)).trans p2; have n2 := (hst8.2.cell (p := ⟨M, 5, none⟩) (by exact l3) (by have := HUU.out.lt g HUU.out.own; have := HI2.out.lm; dsimp only; omega)).trans m2; have n3 := (hst8.2.cell (p := ⟨w.heap.size + 1, 0, none⟩) (by exact l2) (by have := HUU.out.lt g HUU.out.own; dsimp only; omega)).trans k2; clear hst8; (try dsimp only))
    refine hK.out _ _ ?_ (fun hHeld => ?_)
    · ((try dsimp only); first | (refine ⟨?_, ?_, ?_⟩ <;> (first | assumption | (go_keep; done))) | (refine ⟨?_, ?_⟩ <;> (first | assumption | (go_keep; done))) | assumption | (go_keep; done))
    clear hK K
    (try simp only [Act.put, List.setIfInBounds_toArray, List.set_cons_zero, List.set_cons_succ])
    (try simp only [List.getElem_toArray, List.getElem_cons_zero, List.getElem_cons_succ, Act.put, List.setIfInBounds_toArray, List.set_cons_zero, List.set_cons_succ])
    refine wpAnyH_done (by kernel_rfl) ?_ _
    go_wp2_with fail
    first | go_end0 | refine bodyPost_ret (results_none rfl _ _ _) rfl ?_
    refine ⟨rfl, fun e => ?_⟩
    subst e
    have hI3 := HI2.out.step HUU.out (RdStep.later' HI2.out.rd HS8.out)
    rw [← HFF.out, if_neg (fun e => by have := e.1; omega)]
    exact hI3

set_option maxRecDepth 100000 in
set_option maxHeartbeats 1600000 in
theorem bread_streams {w : World} {g : Nat} {B : List UInt8} {a : Option Addr} {K : Nat → Prop} {X : World → Bool → Prop} {q : Bool} {M lo : Nat} {k : Int} {m : Msg} {v1 v2 v3 v4 : Value} {s : Rs} {W : World} {fn : Nat} {caps : Array Value} {blk : Rs → Rs × List UInt8 × Bool} (hU : UnblockB w g B a fn caps blk K X) (hB : B.length ≤ 1000000000) (h : BodI w g B a K X q M lo k m v1 v2 v3 v4 s W) (p : Int) :
    Calls Tryz.prog 312 #[.int .i64 p, .pointer (some ⟨w.heap.size, 0, none⟩), .pointer (some ⟨M, 0, none⟩)] W fun r W' => r = .returned (.tuple #[]) ∧ ∃ v1', BodI w g B a K X q M lo k { m with streams := (s.strm B).2 } v1' v2 v3 v4 (s.strm B).1 W' := by
  have p0 : W.cell? ⟨w.heap.size, 0, none⟩ = some (.pointer (some ⟨g, 0, none⟩)) := h.pa.cell 0
  have HI := hid h
  have HUU := hid hU
  have hwz := h.low
  have hrd2 := h.rd.later (show Below W.heap.size W W.drew from (Below.refl _ _).drew)
  have HR := hid (varint_int W.drew hrd2 (by omega) 16 (by omega))
  have hnm := Rs.int_le (B := B) (s := s) (m := 16)
  unfold Rs.strm
  generalize s.int B 16 = I at *
  obtain ⟨s1, n⟩ := I
  dsimp only at *
  have HZ := hid (fun (V : World) (hV : RdAt V g B a s1) => zig_read V hV hB n (by omega))
  generalize Rs.rise B n s1 [] = R at *
  obtain ⟨s2, L⟩ := R
  dsimp only at *
  have l1 := h.pa.lt
  clear h hU hrd2
  go_enter Tryz.func312, Tryz.ntmps312
  go_wp2_with fail
  refine wp_region_last_held (fun w' => w'.cell? ⟨w.heap.size, 0, none⟩ = some (.pointer (some ⟨g, 0, none⟩))) _ (by kernel_rfl) rfl (by kernel_rfl) p0 (fun hHeld => ?_)
  simp only [noopLast, noopOf]
  refine wpAnyH_take (i := 0) (oi := _) (v := ?_) rfl (by decide +kernel) (by decide +kernel) (by decide +kernel) (fun _ _ _ h => h) (Or.inl ⟨by rfl, ?_⟩) (by assumption) ?_
  rotate_left
  · (intro w hSw; (try dsimp only at hSw); go_simp <;> with_reducible rfl)
  (try simp only [Act.put, List.setIfInBounds_toArray, List.set_cons_zero, List.set_cons_succ])
  refine wpAnyH_take (i := 1) (oi := _) (v := ?_) rfl (by decide +kernel) (by decide +kernel) (by decide +kernel) (fun _ _ _ h => h) (Or.inl ⟨by rfl, ?_⟩) (by assumption) ?_
  rotate_left
  · (intro w hSw; (try dsimp only at hSw); go_simp <;> with_reducible rfl)
  (try simp only [Act.put, List.setIfInBounds_toArray, List.set_cons_zero, List.set_cons_succ])
  refine wpAnyH_ready (rs := [2]) (by decide +kernel) (by simp) ?_
  refine AllReadyH.cons (o := _) rfl (fun K hK => ?_) AllReadyH.nil
  (go_simp; go_at_call 110; refine HR.out.mono ?_; rintro e1 w7 ⟨rfl, hst7⟩; have HS7 := hid (RdStep.later' HI.out.rd hst7); have n1 := (HS7.out.2.cell (p := ⟨w.heap.size, 0, none⟩) (by exact l1) (by have := HUU.out.lt g HUU.out.own; dsimp only; omega)).trans p0; clear hst7; (try dsimp only))
  refine hK.out _ _ ?_ (fun hHeld => ?_)
  · ((try dsimp only); first | (refine ⟨?_, ?_, ?_⟩ <;> (first | assumption | (go_keep; done))) | (refine ⟨?_, ?_⟩ <;> (first | assumption | (go_keep; done))) | assumption | (go_keep; done))
  clear hK K
  (try simp only [Act.put, List.setIfInBounds_toArray, List.set_cons_zero, List.set_cons_succ])
  refine wpAnyH_ready (rs := [3]) (by decide +kernel) (by simp) ?_
  refine AllReadyH.cons (o := _) rfl (fun K hK => ?_) AllReadyH.nil
  (go_simp; go_at_call 313; refine (HZ.out w7 HS7.out.1).mono ?_; rintro e1 w8 ⟨v8, rfl, hv8, hst8⟩; obtain ⟨a8, c8, hfv, _, _⟩ := sl_form hv8; simp only [List.cons.injEq, and_true] at hfv; subst hfv; have HI8 := hid ((HI.out.step HUU.out HS7.out).step HUU.out hst8); have HV8 := hid (rU64s.mono hv8 fun b hb => (⟨by have := HS7.out.2.size; have := hb.1; omega, hb.2⟩ : lo ≤ b ∧ b < w8.heap.size)); have n2 : w8.cell? ⟨w.heap.size, 0, none⟩ = some (.pointer (some ⟨g, 0, none⟩)) := HI8.out.pa.cell 0; have f6 := fr_blk HI8.out.pm 6; obtain ⟨y0, y1, y2, y3, y4, y5, y6, y7, y8, y9, y10, y11, y12, y13, l8⟩ := mm_blk HI8.out.pm; clear hst8 hv8; (try dsimp only))
  refine hK.out _ _ ?_ (fun hHeld => ?_)
  · ((try dsimp only); first | (refine ⟨?_, ?_, ?_⟩ <;> (first | assumption | (go_keep; done))) | (refine ⟨?_, ?_⟩ <;> (first | assumption | (go_keep; done))) | assumption | (go_keep; done))
  clear hK K
  (try simp only [Act.put, List.setIfInBounds_toArray, List.set_cons_zero, List.set_cons_succ])
  refine wpAnyH_take (i := 4) (oi := _) (v := ?_) rfl (by decide +kernel) (by decide +kernel) (by decide +kernel) (fun _ _ _ h => h) (Or.inl ⟨by rfl, ?_⟩) (by assumption) ?_
  rotate_left
  · (intro w hSw; (try dsimp only at hSw); go_simp <;> with_reducible rfl)
  (try simp only [Act.put, List.setIfInBounds_toArray, List.set_cons_zero, List.set_cons_succ])
  refine wpAnyH_take (i := 5) (oi := _) (v := ?_) rfl (by decide +kernel) (by decide +kernel) (by decide +kernel) (fun _ _ _ h => h) (Or.inl ⟨by rfl, ?_⟩) (by assumption) ?_
  rotate_left
  · (intro w hSw; (try dsimp only at hSw); go_simp <;> with_reducible rfl)
  (try simp only [Act.put, List.setIfInBounds_toArray, List.set_cons_zero, List.set_cons_succ])
  refine wpAnyH_done (by kernel_rfl) ?_ _
  show wpList _ _ _ _ _ _
  go_wp2_with fail
  first | go_end0 | refine bodyPost_ret (results_none rfl _ _ _) rfl ?_
  exact ⟨rfl, _, HI8.out.setM HUU.out 6 _ (by first | (simp only [bodCells, List.setIfInBounds_toArray, List.set_cons_zero, List.set_cons_succ]; done) | (simp only [bodCells, List.setIfInBounds_toArray, List.set_cons_zero, List.set_cons_succ]; rfl)) HV8.out HI8.out.ln HI8.out.da HI8.out.sp⟩

set_option maxRecDepth 100000 in
set_option maxHeartbeats 1600000 in
theorem bread_links {w : World} {g : Nat} {B : List UInt8} {a : Option Addr} {K : Nat → Prop} {X : World → Bool → Prop} {q : Bool} {M lo : Nat} {k : Int} {m : Msg} {v1 v2 v3 v4 : Value} {s : Rs} {W : World} {fn : Nat} {caps : Array Value} {blk : Rs → Rs × List UInt8 × Bool} (hU : UnblockB w g B a fn caps blk K X) (hB : B.length ≤ 1000000000) (h : BodI w g B a K X q M lo k m v1 v2 v3 v4 s W) (p : Int) (hpos : 0 ≤ m.pos ∧ m.pos ≤ 18446744073709551615) :
    Calls Tryz.prog 314 #[.int .i64 p, .pointer (some ⟨w.heap.size, 0, none⟩), .pointer (some ⟨M, 0, none⟩)] W fun r W' => r = .returned (.tuple #[]) ∧ ∃ v2', BodI w g B a K X q M lo k { m with links := (s.links B m.pos).2 } v1 v2' v3 v4 (s.links B m.pos).1 W' := by
  have p0 : W.cell? ⟨w.heap.size, 0, none⟩ = some (.pointer (some ⟨g, 0, none⟩)) := h.pa.cell 0
  have HI := hid h
  have HUU := hid hU
  have hwz := h.low
  have HR := hid (link_read W h.rd hB m.pos hpos)
  have m3 : W.cell? ⟨M, 3, none⟩ = some (.int .u64 m.pos) := h.pm.cell 3
  generalize s.links B m.pos = I at *
  obtain ⟨s1, L⟩ := I
  dsimp only at *
  clear h hU
  go_enter Tryz.func314, Tryz.ntmps314
  go_wp2_with fail
  refine HR.out.mono ?_
  rintro r w1 ⟨v, rfl, hv, hst⟩
  have hv' := linksW_links hv
  obtain ⟨a8, c8, hfv, _, _⟩ := sl_form hv'
  simp only [List.cons.injEq, and_true] at hfv
  subst hfv
  have HI1 := hid (HI.out.step HUU.out hst)
  have HV := hid (rLinks.mono hv' fun b hb => (⟨by have := hb.1; omega, hb.2⟩ : lo ≤ b ∧ b < w1.heap.size))
  have f7 := fr_blk HI1.out.pm 7
  obtain ⟨y0, y1, y2, y3, y4, y5, y6, y7, y8, y9, y10, y11, y12, y13, lm7⟩ := mm_blk HI1.out.pm
  clear hst hv hv'
  go_wp2_with fail
  first | go_end0 | refine bodyPost_ret (results_none rfl _ _ _) rfl ?_
  exact ⟨rfl, _, HI1.out.setM HUU.out 7 _ (by first | (simp only [bodCells, List.setIfInBounds_toArray, List.set_cons_zero, List.set_cons_succ]; done) | (simp only [bodCells, List.setIfInBounds_toArray, List.set_cons_zero, List.set_cons_succ]; rfl)) HI1.out.st HV.out HI1.out.da HI1.out.sp⟩

set_option maxRecDepth 100000 in
set_option maxHeartbeats 1600000 in
theorem bread_seal {w : World} {g : Nat} {B : List UInt8} {a : Option Addr} {K : Nat → Prop} {X : World → Bool → Prop} {q : Bool} {M lo : Nat} {k : Int} {m : Msg} {v1 v2 v3 v4 : Value} {s : Rs} {W : World} {fn : Nat} {caps : Array Value} {blk : Rs → Rs × List UInt8 × Bool} (hU : UnblockB w g B a fn caps blk K X) (hB : B.length ≤ 1000000000) (h : BodI w g B a K X q M lo k m v1 v2 v3 v4 s W) (p : Int) :
    Calls Tryz.prog 316 #[.int .i64 p, .pointer (some ⟨w.heap.size, 0, none⟩), .pointer (some ⟨M, 0, none⟩)] W fun r W' => r = .returned (.tuple #[]) ∧ BodI w g B a K X q M lo k { m with sea := (s.seal_ B).2 } v1 v2 v3 v4 (s.seal_ B).1 W' := by
  have p0 : W.cell? ⟨w.heap.size, 0, none⟩ = some (.pointer (some ⟨g, 0, none⟩)) := h.pa.cell 0
  have HI := hid h
  have HUU := hid hU
  have HR := hid (seal_read W h.rd hB)
  generalize s.seal_ B = I at *
  obtain ⟨s1, e0, e1, e2⟩ := I
  dsimp only at *
  unfold sealV at HR
  clear h hU
  go_enter Tryz.func316, Tryz.ntmps316
  go_wp2_with fail
  refine HR.out.mono ?_
  rintro r w1 ⟨rfl, hst⟩
  have HI1 := hid (HI.out.step HUU.out hst)
  have f9 := fr_blk HI1.out.pm 9
  have f10 := fr_blk HI1.out.pm 10
  have f11 := fr_blk HI1.out.pm 11
  obtain ⟨y0, y1, y2, y3, y4, y5, y6, y7, y8, y9, y10, y11, y12, y13, l1⟩ := mm_blk HI1.out.pm
  have HI2 := hid (HI1.out.setM HUU.out 9 (.int .u64 e0) (m' := { m with sea := ⟨e0, m.sea.node, m.sea.tail⟩ }) (v1' := v1) (v2' := v2) (v3' := v3) (v4' := v4) (by simp only [bodCells, List.setIfInBounds_toArray, List.set_cons_zero, List.set_cons_succ]) HI1.out.st HI1.out.ln HI1.out.da HI1.out.sp)
  have HI3 := hid (HI2.out.setM HUU.out 10 (.int .u64 e1) (m' := { m with sea := ⟨e0, e1, m.sea.tail⟩ }) (v1' := v1) (v2' := v2) (v3' := v3) (v4' := v4) (by simp only [bodCells, List.setIfInBounds_toArray, List.set_cons_zero, List.set_cons_succ]) HI2.out.st HI2.out.ln HI2.out.da HI2.out.sp)
  have HI4 := hid (HI3.out.setM HUU.out 11 (.int .u64 e2) (m' := { m with sea := ⟨e0, e1, e2⟩ }) (v1' := v1) (v2' := v2) (v3' := v3) (v4' := v4) (by simp only [bodCells, List.setIfInBounds_toArray, List.set_cons_zero, List.set_cons_succ]) HI3.out.st HI3.out.ln HI3.out.da HI3.out.sp)
  clear hst
  go_wp2_with fail
  first | go_end0 | refine bodyPost_ret (results_none rfl _ _ _) rfl ?_
  exact ⟨rfl, HI4.out⟩

set_option maxRecDepth 100000 in
set_option maxHeartbeats 1600000 in
theorem bread_proj {w : World} {g : Nat} {B : List UInt8} {a : Option Addr} {K : Nat → Prop} {X : World → Bool → Prop} {q : Bool} {M lo : Nat} {k : Int} {m : Msg} {v1 v2 v3 v4 : Value} {s : Rs} {W : World} {fn : Nat} {caps : Array Value} {blk : Rs → Rs × List UInt8 × Bool} (hU : UnblockB w g B a fn caps blk K X) (hB : B.length ≤ 1000000000) (h : BodI w g B a K X q M lo k m v1 v2 v3 v4 s W) (p : Int) :
    Calls Tryz.prog 318 #[.int .i64 p, .pointer (some ⟨w.heap.size, 0, none⟩), .pointer (some ⟨M, 0, none⟩)] W fun r W' => r = .returned (.tuple #[]) ∧ ∃ v4', BodI w g B a K X q M lo k { m with proj := (s.proj_ B).2 } v1 v2 v3 v4' (s.proj_ B).1 W' := by
  have p0 : W.cell? ⟨w.heap.size, 0, none⟩ = some (.pointer (some ⟨g, 0, none⟩)) := h.pa.cell 0
  have HI := hid h
  have HUU := hid hU
  have hwz := h.low
  have HR := hid (proj_read W h.rd hB)
  generalize s.proj_ B = I at *
  obtain ⟨s1, e0, L⟩ := I
  dsimp only at *
  clear h hU
  go_enter Tryz.func318, Tryz.ntmps318
  go_wp2_with fail
  refine HR.out.mono ?_
  rintro r w1 ⟨v, rfl, hv, hst⟩
  obtain ⟨a8, c8, hfv, _, _⟩ := sl_form hv
  simp only [List.cons.injEq, and_true] at hfv
  subst hfv
  have HI1 := hid (HI.out.step HUU.out hst)
  have HV := hid (rStripes.mono hv fun b hb => (⟨by have := hb.1; omega, hb.2⟩ : lo ≤ b ∧ b < w1.heap.size))
  have f12 := fr_blk HI1.out.pm 12
  have f13 := fr_blk HI1.out.pm 13
  obtain ⟨y0, y1, y2, y3, y4, y5, y6, y7, y8, y9, y10, y11, y12, y13, l1⟩ := mm_blk HI1.out.pm
  have HI2 := hid (HI1.out.setM HUU.out 12 (.int .u64 e0) (m' := { m with proj := ⟨e0, m.proj.stripes⟩ }) (v1' := v1) (v2' := v2) (v3' := v3) (v4' := v4) (by simp only [bodCells, List.setIfInBounds_toArray, List.set_cons_zero, List.set_cons_succ]) HI1.out.st HI1.out.ln HI1.out.da HI1.out.sp)
  have HV2 := hid (show rStripes.r (fun b => lo ≤ b ∧ b < (w1.setCell ⟨M, 12, none⟩ (.int .u64 e0)).heap.size) (w1.setCell ⟨M, 12, none⟩ (.int .u64 e0)) [.slice a8 L.length c8] L from rStripes.mono (rStripes.keep HV.out fun b hb => Below.heap_setCell _ _ _ _ (by have := hb.1; have := HI1.out.lm; dsimp only; omega)) fun b hb => ⟨hb.1, by rw [size_set]; exact hb.2⟩)
  clear hst hv
  go_wp2_with fail
  first | go_end0 | refine bodyPost_ret (results_none rfl _ _ _) rfl ?_
  exact ⟨rfl, _, HI2.out.setM HUU.out 13 _ (by first | (simp only [bodCells, List.setIfInBounds_toArray, List.set_cons_zero, List.set_cons_succ]; done) | (simp only [bodCells, List.setIfInBounds_toArray, List.set_cons_zero, List.set_cons_succ]; rfl)) HI2.out.st HI2.out.ln HI2.out.da HV2.out⟩


theorem Rs.links_of_badm {B : List UInt8} {s : Rs} {pos : Int} (h : s.k ≠ 0) : s.links B pos = (s, []) := by
  unfold Rs.links
  rw [Rs.int_of_badm h]
  rfl
theorem Rs.seal_k {B : List UInt8} {s : Rs} (h : (s.seal_ B).1.k = 0) : s.k = 0 :=
  Decidable.byContradiction fun hh => hh (by rw [Rs.seal_of_bad hh] at h; exact h)
theorem Rs.proj_k {B : List UInt8} {s : Rs} (h : (s.proj_ B).1.k = 0) : s.k = 0 :=
  Decidable.byContradiction fun hh => hh (by rw [Rs.proj_of_bad hh] at h; exact h)
end Go.Proofs.YtfddhafbhceoaaaGreat
