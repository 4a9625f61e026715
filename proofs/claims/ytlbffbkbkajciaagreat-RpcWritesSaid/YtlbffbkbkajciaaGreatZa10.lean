/- Needed by bodyWrites_walk, part 10: texts put together by shake.py; no condition. -/
import Derived.Test.YtlbffbkbkajciaaGreatZa7
import Derived.Test.YtlbffbkbkajciaaGreatZa9
import Derived.Test.YtlbffbkbkajciaaGreatZa1
import Derived.Test.YtlbffbkbkajciaaGreatZa8
import Derived.Test.YtlbffbkbkajciaaGreatZa3
namespace Go.Proofs.YtlbffbkbkajciaaGreat
open Go.RowKit Go.Bs Go.Maps
set_option linter.unusedVariables false
set_option linter.unusedSimpArgs false

set_option maxRecDepth 100000 in
set_option maxHeartbeats 12800000 in
theorem body_same (m o : Msg) (a1 : Option Addr) (c1 : Nat) (a2 : Option Addr) (c2 : Nat) (a3 : Option Addr) (c3 : Nat) (a4 : Option Addr) (c4 : Nat) (b1 : Option Addr) (d1 : Nat) (b2 : Option Addr) (d2 : Nat) (b3 : Option Addr) (d3 : Nat) (b4 : Option Addr) (d4 : Nat) (w : World) (hm : MsgIn (· < w.heap.size) w m a1 c1 a2 c2 a3 c3 a4 c4) (ho : MsgIn (· < w.heap.size) w o b1 d1 b2 d2 b3 d3 b4 d4) :
    Calls Tryz.prog 21 #[.agg #[.int .i64 m.kind, .int .u64 m.epoch, .int .u64 m.seq, .int .u64 m.pos, .int .i64 m.count, .int .i64 m.state, .slice a1 m.streams.length c1, .slice a2 m.links.length c2, .slice a3 m.data.length c3, .int .u64 m.sea.epoch, .int .u64 m.sea.node, .int .u64 m.sea.tail, .int .u64 m.proj.epoch, .slice a4 m.proj.stripes.length c4], .agg #[.int .i64 o.kind, .int .u64 o.epoch, .int .u64 o.seq, .int .u64 o.pos, .int .i64 o.count, .int .i64 o.state, .slice b1 o.streams.length d1, .slice b2 o.links.length d2, .slice b3 o.data.length d3, .int .u64 o.sea.epoch, .int .u64 o.sea.node, .int .u64 o.sea.tail, .int .u64 o.proj.epoch, .slice b4 o.proj.stripes.length d4]] w fun r w' => r = .returned (.bool (decide (m = o))) ∧ Below w.heap.size w w' := by
  have E1 := hid (fun (W : World) (hW : Below w.heap.size w W) => equal_u64s m.streams o.streams a1 b1 _ c1 _ d1 W (lift hm.streams hW) (lift ho.streams hW))
  have E2 := hid (fun (W : World) (hW : Below w.heap.size w W) => link_same m.links o.links a2 b2 _ c2 _ d2 W (lift hm.links hW) (lift ho.links hW))
  have E3 := hid (fun (W : World) (hW : Below w.heap.size w W) => bytes_equal2 m.data o.data a3 b3 _ c3 _ d3 W (lift hm.data hW) (lift ho.data hW))
  have E4 := hid (fun (W : World) (hW : Below w.heap.size w W) => proj_same m.proj o.proj a4 b4 _ c4 _ d4 W (lift hm.stripes hW) (lift ho.stripes hW))
  obtain ⟨kk, ep, sq, po, cn, st, SS, LS, DD, ⟨se, sn, tl⟩, ⟨pe, PL⟩⟩ := m
  obtain ⟨kko, epo, sqo, poo, cno, sto, SSo, LSo, DDo, ⟨seo, sno, tlo⟩, ⟨peo, PLo⟩⟩ := o
  dsimp only at *
  clear hm ho
  have hb0 : Below w.heap.size w ((w.alloc (.cells #[.int .i64 kk, .int .u64 ep, .int .u64 sq, .int .u64 po, .int .i64 cn, .int .i64 st, .slice a1 SS.length c1, .slice a2 LS.length c2, .slice a3 DD.length c3, .int .u64 se, .int .u64 sn, .int .u64 tl, .int .u64 pe, .slice a4 PL.length c4] 32)).alloc (.cells #[.int .i64 kko, .int .u64 epo, .int .u64 sqo, .int .u64 poo, .int .i64 cno, .int .i64 sto, .slice b1 SSo.length d1, .slice b2 LSo.length d2, .slice b3 DDo.length d3, .int .u64 seo, .int .u64 sno, .int .u64 tlo, .int .u64 peo, .slice b4 PLo.length d4] 32)) := by (repeat (first | exact Below.refl _ _ | assumption | (refine below_alloc ?_ _) | (refine Below.setCell ?_ (by first | omega | (simp; done) | (simp; omega)) _) | (refine Below.drew ?_) | (refine below_drewN ?_ _) | (refine below_then (by assumption) ?_)))
  have HBX : Hid (Blk ((w.alloc (.cells #[.int .i64 kk, .int .u64 ep, .int .u64 sq, .int .u64 po, .int .i64 cn, .int .i64 st, .slice a1 SS.length c1, .slice a2 LS.length c2, .slice a3 DD.length c3, .int .u64 se, .int .u64 sn, .int .u64 tl, .int .u64 pe, .slice a4 PL.length c4] 32)).alloc (.cells #[.int .i64 kko, .int .u64 epo, .int .u64 sqo, .int .u64 poo, .int .i64 cno, .int .i64 sto, .slice b1 SSo.length d1, .slice b2 LSo.length d2, .slice b3 DDo.length d3, .int .u64 seo, .int .u64 sno, .int .u64 tlo, .int .u64 peo, .slice b4 PLo.length d4] 32)) w.heap.size 32 #[.int .i64 kk, .int .u64 ep, .int .u64 sq, .int .u64 po, .int .i64 cn, .int .i64 st, .slice a1 SS.length c1, .slice a2 LS.length c2, .slice a3 DD.length c3, .int .u64 se, .int .u64 sn, .int .u64 tl, .int .u64 pe, .slice a4 PL.length c4]) := hid ((Blk.new w _ _).alloc _)
  have HBY : Hid (Blk ((w.alloc (.cells #[.int .i64 kk, .int .u64 ep, .int .u64 sq, .int .u64 po, .int .i64 cn, .int .i64 st, .slice a1 SS.length c1, .slice a2 LS.length c2, .slice a3 DD.length c3, .int .u64 se, .int .u64 sn, .int .u64 tl, .int .u64 pe, .slice a4 PL.length c4] 32)).alloc (.cells #[.int .i64 kko, .int .u64 epo, .int .u64 sqo, .int .u64 poo, .int .i64 cno, .int .i64 sto, .slice b1 SSo.length d1, .slice b2 LSo.length d2, .slice b3 DDo.length d3, .int .u64 seo, .int .u64 sno, .int .u64 tlo, .int .u64 peo, .slice b4 PLo.length d4] 32)) (w.heap.size + 1) 32 #[.int .i64 kko, .int .u64 epo, .int .u64 sqo, .int .u64 poo, .int .i64 cno, .int .i64 sto, .slice b1 SSo.length d1, .slice b2 LSo.length d2, .slice b3 DDo.length d3, .int .u64 seo, .int .u64 sno, .int .u64 tlo, .int .u64 peo, .slice b4 PLo.length d4]) := hid (Blk.new1 w _ _ _)
  by_cases h0 : kk = kko
  · have e0 : (kk == kko) = true := by simp [h0]
    by_cases h1 : ep = epo
    · have e1 : (ep == epo) = true := by simp [h1]
      by_cases h2 : sq = sqo
      · have e2 : (sq == sqo) = true := by simp [h2]
        by_cases h3 : po = poo
        · have e3 : (po == poo) = true := by simp [h3]
          by_cases h4 : cn = cno
          · have e4 : (cn == cno) = true := by simp [h4]
            by_cases h5 : st = sto
            · have e5 : (st == sto) = true := by simp [h5]
              by_cases h6 : se = seo
              · have e6 : (se == seo) = true := by simp [h6]
                by_cases h7 : sn = sno
                · have e7 : (sn == sno) = true := by simp [h7]
                  by_cases h8 : tl = tlo
                  · have e8 : (tl == tlo) = true := by simp [h8]
                    have hfull : Hid (decide ((⟨kk, ep, sq, po, cn, st, SS, LS, DD, ⟨se, sn, tl⟩, ⟨pe, PL⟩⟩ : Msg) = ⟨kko, epo, sqo, poo, cno, sto, SSo, LSo, DDo, ⟨seo, sno, tlo⟩, ⟨peo, PLo⟩⟩) = (decide (SS = SSo) && (decide (LS = LSo) && (decide (DD = DDo) && decide ((⟨pe, PL⟩ : Projn) = ⟨peo, PLo⟩))))) := hid (by rw [Bool.eq_iff_iff]; simp [h0, h1, h2, h3, h4, h5, h6, h7, h8])
                    clear h0 h1 h2 h3 h4 h5 h6 h7 h8
                    generalize decide ((⟨kk, ep, sq, po, cn, st, SS, LS, DD, ⟨se, sn, tl⟩, ⟨pe, PL⟩⟩ : Msg) = ⟨kko, epo, sqo, poo, cno, sto, SSo, LSo, DDo, ⟨seo, sno, tlo⟩, ⟨peo, PLo⟩⟩) = RR at *
                    generalize decide (SS = SSo) = Q1 at *
                    generalize decide (LS = LSo) = Q2 at *
                    generalize decide (DD = DDo) = Q3 at *
                    generalize decide ((⟨pe, PL⟩ : Projn) = ⟨peo, PLo⟩) = Q4 at *
                    go_enter Tryz.func21, Tryz.ntmps21
                    go_wp2_with fail
                    generalize ((w.alloc (.cells #[.int .i64 kk, .int .u64 ep, .int .u64 sq, .int .u64 po, .int .i64 cn, .int .i64 st, .slice a1 SS.length c1, .slice a2 LS.length c2, .slice a3 DD.length c3, .int .u64 se, .int .u64 sn, .int .u64 tl, .int .u64 pe, .slice a4 PL.length c4] 32)).alloc (.cells #[.int .i64 kko, .int .u64 epo, .int .u64 sqo, .int .u64 poo, .int .i64 cno, .int .i64 sto, .slice b1 SSo.length d1, .slice b2 LSo.length d2, .slice b3 DDo.length d3, .int .u64 seo, .int .u64 sno, .int .u64 tlo, .int .u64 peo, .slice b4 PLo.length d4] 32)) = w0 at *
                    refine (E1.out _ hb0).mono ?_
                    rintro r w1 ⟨rfl, hb1⟩
                    have hb01 := below_then hb1 hb0
                    have X1 := HBX.out.later hb1
                    have Y1 := HBY.out.later hb1
                    cases Q1
                    · have hfin : Hid (RR = false) := hid (by rw [hfull.out]; rfl)
                      go_wp2_with fail
                      go_ret
                      exact ⟨by rw [hfin.out]; rfl, hb01⟩
                    · have px7 : w1.cell? ⟨w.heap.size, 7, none⟩ = some (.slice a2 LS.length c2) := X1.cell 7
                      have py7 : w1.cell? ⟨w.heap.size + 1, 7, none⟩ = some (.slice b2 LSo.length d2) := Y1.cell 7
                      go_wp2_with fail
                      refine (E2.out _ hb01).mono ?_
                      rintro r w2 ⟨rfl, hb2⟩
                      have hb02 := below_then hb2 hb01
                      have X2 := X1.later hb2
                      have Y2 := Y1.later hb2
                      clear px7 py7
                      cases Q2
                      · have hfin : Hid (RR = false) := hid (by rw [hfull.out]; rfl)
                        go_wp2_with fail
                        go_ret
                        exact ⟨by rw [hfin.out]; rfl, hb02⟩
                      · have qx8 : w2.cell? ⟨w.heap.size, 8, none⟩ = some (.slice a3 DD.length c3) := X2.cell 8
                        have qy8 : w2.cell? ⟨w.heap.size + 1, 8, none⟩ = some (.slice b3 DDo.length d3) := Y2.cell 8
                        go_wp2_with fail
                        refine (E3.out _ hb02).mono ?_
                        rintro r w3 ⟨rfl, rfl⟩
                        cases Q3
                        · have hfin : Hid (RR = false) := hid (by rw [hfull.out]; rfl)
                          go_wp2_with fail
                          go_ret
                          exact ⟨by rw [hfin.out]; rfl, hb02⟩
                        · have hfin : Hid (RR = Q4) := hid (by rw [hfull.out]; rfl)
                          have rx12 : w2.cell? ⟨w.heap.size, 12, none⟩ = some (.int .u64 pe) := X2.cell 12
                          have ry12 : w2.cell? ⟨w.heap.size + 1, 12, none⟩ = some (.int .u64 peo) := Y2.cell 12
                          have rx13 : w2.cell? ⟨w.heap.size, 13, none⟩ = some (.slice a4 PL.length c4) := X2.cell 13
                          have ry13 : w2.cell? ⟨w.heap.size + 1, 13, none⟩ = some (.slice b4 PLo.length d4) := Y2.cell 13
                          go_wp2_with fail
                          refine (E4.out _ hb02).mono ?_
                          rintro r w4 ⟨rfl, hb4⟩
                          have hb04 := below_then hb4 hb02
                          go_wp2_with fail
                          go_ret
                          exact ⟨by rw [hfin.out]; rfl, hb04⟩
                  · have e8 : (tl == tlo) = false := by simpa using h8
                    have hfin : Hid (decide ((⟨kk, ep, sq, po, cn, st, SS, LS, DD, ⟨se, sn, tl⟩, ⟨pe, PL⟩⟩ : Msg) = ⟨kko, epo, sqo, poo, cno, sto, SSo, LSo, DDo, ⟨seo, sno, tlo⟩, ⟨peo, PLo⟩⟩) = false) := hid (by simp [h0, h1, h2, h3, h4, h5, h6, h7, h8])
                    clear h0 h1 h2 h3 h4 h5 h6 h7 h8
                    go_enter Tryz.func21, Tryz.ntmps21
                    go_wp2_with fail
                    go_ret
                    exact ⟨by rw [hfin.out]; rfl, hb0⟩
                · have e7 : (sn == sno) = false := by simpa using h7
                  have hfin : Hid (decide ((⟨kk, ep, sq, po, cn, st, SS, LS, DD, ⟨se, sn, tl⟩, ⟨pe, PL⟩⟩ : Msg) = ⟨kko, epo, sqo, poo, cno, sto, SSo, LSo, DDo, ⟨seo, sno, tlo⟩, ⟨peo, PLo⟩⟩) = false) := hid (by simp [h0, h1, h2, h3, h4, h5, h6, h7])
                  clear h0 h1 h2 h3 h4 h5 h6 h7
                  go_enter Tryz.func21, Tryz.ntmps21
                  go_wp2_with fail
                  go_ret
                  exact ⟨by rw [hfin.out]; rfl, hb0⟩
              · have e6 : (se == seo) = false := by simpa using h6
                have hfin : Hid (decide ((⟨kk, ep, sq, po, cn, st, SS, LS, DD, ⟨se, sn, tl⟩, ⟨pe, PL⟩⟩ : Msg) = ⟨kko, epo, sqo, poo, cno, sto, SSo, LSo, DDo, ⟨seo, sno, tlo⟩, ⟨peo, PLo⟩⟩) = false) := hid (by simp [h0, h1, h2, h3, h4, h5, h6])
                clear h0 h1 h2 h3 h4 h5 h6
                go_enter Tryz.func21, Tryz.ntmps21
                go_wp2_with fail
                go_ret
                exact ⟨by rw [hfin.out]; rfl, hb0⟩
            · have e5 : (st == sto) = false := by simpa using h5
              have hfin : Hid (decide ((⟨kk, ep, sq, po, cn, st, SS, LS, DD, ⟨se, sn, tl⟩, ⟨pe, PL⟩⟩ : Msg) = ⟨kko, epo, sqo, poo, cno, sto, SSo, LSo, DDo, ⟨seo, sno, tlo⟩, ⟨peo, PLo⟩⟩) = false) := hid (by simp [h0, h1, h2, h3, h4, h5])
              clear h0 h1 h2 h3 h4 h5
              go_enter Tryz.func21, Tryz.ntmps21
              go_wp2_with fail
              go_ret
              exact ⟨by rw [hfin.out]; rfl, hb0⟩
          · have e4 : (cn == cno) = false := by simpa using h4
            have hfin : Hid (decide ((⟨kk, ep, sq, po, cn, st, SS, LS, DD, ⟨se, sn, tl⟩, ⟨pe, PL⟩⟩ : Msg) = ⟨kko, epo, sqo, poo, cno, sto, SSo, LSo, DDo, ⟨seo, sno, tlo⟩, ⟨peo, PLo⟩⟩) = false) := hid (by simp [h0, h1, h2, h3, h4])
            clear h0 h1 h2 h3 h4
            go_enter Tryz.func21, Tryz.ntmps21
            go_wp2_with fail
            go_ret
            exact ⟨by rw [hfin.out]; rfl, hb0⟩
        · have e3 : (po == poo) = false := by simpa using h3
          have hfin : Hid (decide ((⟨kk, ep, sq, po, cn, st, SS, LS, DD, ⟨se, sn, tl⟩, ⟨pe, PL⟩⟩ : Msg) = ⟨kko, epo, sqo, poo, cno, sto, SSo, LSo, DDo, ⟨seo, sno, tlo⟩, ⟨peo, PLo⟩⟩) = false) := hid (by simp [h0, h1, h2, h3])
          clear h0 h1 h2 h3
          go_enter Tryz.func21, Tryz.ntmps21
          go_wp2_with fail
          go_ret
          exact ⟨by rw [hfin.out]; rfl, hb0⟩
      · have e2 : (sq == sqo) = false := by simpa using h2
        have hfin : Hid (decide ((⟨kk, ep, sq, po, cn, st, SS, LS, DD, ⟨se, sn, tl⟩, ⟨pe, PL⟩⟩ : Msg) = ⟨kko, epo, sqo, poo, cno, sto, SSo, LSo, DDo, ⟨seo, sno, tlo⟩, ⟨peo, PLo⟩⟩) = false) := hid (by simp [h0, h1, h2])
        clear h0 h1 h2
        go_enter Tryz.func21, Tryz.ntmps21
        go_wp2_with fail
        go_ret
        exact ⟨by rw [hfin.out]; rfl, hb0⟩
    · have e1 : (ep == epo) = false := by simpa using h1
      have hfin : Hid (decide ((⟨kk, ep, sq, po, cn, st, SS, LS, DD, ⟨se, sn, tl⟩, ⟨pe, PL⟩⟩ : Msg) = ⟨kko, epo, sqo, poo, cno, sto, SSo, LSo, DDo, ⟨seo, sno, tlo⟩, ⟨peo, PLo⟩⟩) = false) := hid (by simp [h0, h1])
      clear h0 h1
      go_enter Tryz.func21, Tryz.ntmps21
      go_wp2_with fail
      go_ret
      exact ⟨by rw [hfin.out]; rfl, hb0⟩
  · have e0 : (kk == kko) = false := by simpa using h0
    have hfin : Hid (decide ((⟨kk, ep, sq, po, cn, st, SS, LS, DD, ⟨se, sn, tl⟩, ⟨pe, PL⟩⟩ : Msg) = ⟨kko, epo, sqo, poo, cno, sto, SSo, LSo, DDo, ⟨seo, sno, tlo⟩, ⟨peo, PLo⟩⟩) = false) := hid (by simp [h0])
    clear h0
    go_enter Tryz.func21, Tryz.ntmps21
    go_wp2_with fail
    go_ret
    exact ⟨by rw [hfin.out]; rfl, hb0⟩

set_option maxRecDepth 100000 in
set_option maxHeartbeats 12800000 in
theorem ref28_same (m o : Msg) (a1 : Option Addr) (c1 : Nat) (a2 : Option Addr) (c2 : Nat) (a3 : Option Addr) (c3 : Nat) (a4 : Option Addr) (c4 : Nat) (b1 : Option Addr) (d1 : Nat) (b2 : Option Addr) (d2 : Nat) (b3 : Option Addr) (d3 : Nat) (b4 : Option Addr) (d4 : Nat) (w : World) (hm : MsgIn (· < w.heap.size) w m a1 c1 a2 c2 a3 c3 a4 c4) (ho : MsgIn (· < w.heap.size) w o b1 d1 b2 d2 b3 d3 b4 d4) :
    Calls Tryz.prog 22 #[.agg #[.int .i64 m.kind, .int .u64 m.epoch, .int .u64 m.seq, .int .u64 m.pos, .int .i64 m.count, .int .i64 m.state, .slice a1 m.streams.length c1, .slice a2 m.links.length c2, .slice a3 m.data.length c3, .int .u64 m.sea.epoch, .int .u64 m.sea.node, .int .u64 m.sea.tail, .int .u64 m.proj.epoch, .slice a4 m.proj.stripes.length c4], .agg #[.int .i64 o.kind, .int .u64 o.epoch, .int .u64 o.seq, .int .u64 o.pos, .int .i64 o.count, .int .i64 o.state, .slice b1 o.streams.length d1, .slice b2 o.links.length d2, .slice b3 o.data.length d3, .int .u64 o.sea.epoch, .int .u64 o.sea.node, .int .u64 o.sea.tail, .int .u64 o.proj.epoch, .slice b4 o.proj.stripes.length d4]] w fun r w' => r = .returned (.bool (decide (m = o))) ∧ Below w.heap.size w w' := by
  have E1 := hid (fun (W : World) (hW : Below w.heap.size w W) => same_u64s m.streams o.streams a1 b1 _ c1 _ d1 W (lift hm.streams hW) (lift ho.streams hW))
  have E2 := hid (fun (W : World) (hW : Below w.heap.size w W) => ref23_same m.links o.links a2 b2 _ c2 _ d2 W (lift hm.links hW) (lift ho.links hW))
  have E3 := hid (fun (W : World) (hW : Below w.heap.size w W) => same_bytes m.data o.data a3 b3 _ _ _ _ W (lift hm.data hW) (lift ho.data hW))
  have E4 := hid (fun (W : World) (hW : Below w.heap.size w W) => ref20_same m.proj o.proj a4 b4 _ c4 _ d4 W (lift hm.stripes hW) (lift ho.stripes hW))
  obtain ⟨kk, ep, sq, po, cn, st, SS, LS, DD, ⟨se, sn, tl⟩, ⟨pe, PL⟩⟩ := m
  obtain ⟨kko, epo, sqo, poo, cno, sto, SSo, LSo, DDo, ⟨seo, sno, tlo⟩, ⟨peo, PLo⟩⟩ := o
  dsimp only at *
  clear hm ho
  have hb0 : Below w.heap.size w ((w.alloc (.cells #[.int .i64 kk, .int .u64 ep, .int .u64 sq, .int .u64 po, .int .i64 cn, .int .i64 st, .slice a1 SS.length c1, .slice a2 LS.length c2, .slice a3 DD.length c3, .int .u64 se, .int .u64 sn, .int .u64 tl, .int .u64 pe, .slice a4 PL.length c4] 32)).alloc (.cells #[.int .i64 kko, .int .u64 epo, .int .u64 sqo, .int .u64 poo, .int .i64 cno, .int .i64 sto, .slice b1 SSo.length d1, .slice b2 LSo.length d2, .slice b3 DDo.length d3, .int .u64 seo, .int .u64 sno, .int .u64 tlo, .int .u64 peo, .slice b4 PLo.length d4] 32)) := by (repeat (first | exact Below.refl _ _ | assumption | (refine below_alloc ?_ _) | (refine Below.setCell ?_ (by first | omega | (simp; done) | (simp; omega)) _) | (refine Below.drew ?_) | (refine below_drewN ?_ _) | (refine below_then (by assumption) ?_)))
  have HBX : Hid (Blk ((w.alloc (.cells #[.int .i64 kk, .int .u64 ep, .int .u64 sq, .int .u64 po, .int .i64 cn, .int .i64 st, .slice a1 SS.length c1, .slice a2 LS.length c2, .slice a3 DD.length c3, .int .u64 se, .int .u64 sn, .int .u64 tl, .int .u64 pe, .slice a4 PL.length c4] 32)).alloc (.cells #[.int .i64 kko, .int .u64 epo, .int .u64 sqo, .int .u64 poo, .int .i64 cno, .int .i64 sto, .slice b1 SSo.length d1, .slice b2 LSo.length d2, .slice b3 DDo.length d3, .int .u64 seo, .int .u64 sno, .int .u64 tlo, .int .u64 peo, .slice b4 PLo.length d4] 32)) w.heap.size 32 #[.int .i64 kk, .int .u64 ep, .int .u64 sq, .int .u64 po, .int .i64 cn, .int .i64 st, .slice a1 SS.length c1, .slice a2 LS.length c2, .slice a3 DD.length c3, .int .u64 se, .int .u64 sn, .int .u64 tl, .int .u64 pe, .slice a4 PL.length c4]) := hid ((Blk.new w _ _).alloc _)
  have HBY : Hid (Blk ((w.alloc (.cells #[.int .i64 kk, .int .u64 ep, .int .u64 sq, .int .u64 po, .int .i64 cn, .int .i64 st, .slice a1 SS.length c1, .slice a2 LS.length c2, .slice a3 DD.length c3, .int .u64 se, .int .u64 sn, .int .u64 tl, .int .u64 pe, .slice a4 PL.length c4] 32)).alloc (.cells #[.int .i64 kko, .int .u64 epo, .int .u64 sqo, .int .u64 poo, .int .i64 cno, .int .i64 sto, .slice b1 SSo.length d1, .slice b2 LSo.length d2, .slice b3 DDo.length d3, .int .u64 seo, .int .u64 sno, .int .u64 tlo, .int .u64 peo, .slice b4 PLo.length d4] 32)) (w.heap.size + 1) 32 #[.int .i64 kko, .int .u64 epo, .int .u64 sqo, .int .u64 poo, .int .i64 cno, .int .i64 sto, .slice b1 SSo.length d1, .slice b2 LSo.length d2, .slice b3 DDo.length d3, .int .u64 seo, .int .u64 sno, .int .u64 tlo, .int .u64 peo, .slice b4 PLo.length d4]) := hid (Blk.new1 w _ _ _)
  by_cases h0 : kk = kko
  · have e0 : (kk != kko) = false := by simp [h0]
    by_cases h1 : ep = epo
    · have e1 : (ep != epo) = false := by simp [h1]
      by_cases h2 : sq = sqo
      · have e2 : (sq != sqo) = false := by simp [h2]
        by_cases h3 : po = poo
        · have e3 : (po != poo) = false := by simp [h3]
          by_cases h4 : cn = cno
          · have e4 : (cn != cno) = false := by simp [h4]
            by_cases h5 : st = sto
            · have e5 : (st != sto) = false := by simp [h5]
              by_cases h6 : se = seo
              · have e6 : (se == seo) = true := by simp [h6]
                by_cases h7 : sn = sno
                · have e7 : (sn == sno) = true := by simp [h7]
                  by_cases h8 : tl = tlo
                  · have e8 : (tl == tlo) = true := by simp [h8]
                    have hfull : Hid (decide ((⟨kk, ep, sq, po, cn, st, SS, LS, DD, ⟨se, sn, tl⟩, ⟨pe, PL⟩⟩ : Msg) = ⟨kko, epo, sqo, poo, cno, sto, SSo, LSo, DDo, ⟨seo, sno, tlo⟩, ⟨peo, PLo⟩⟩) = (decide (SS = SSo) && (decide (LS = LSo) && (decide (DD = DDo) && decide ((⟨pe, PL⟩ : Projn) = ⟨peo, PLo⟩))))) := hid (by rw [Bool.eq_iff_iff]; simp [h0, h1, h2, h3, h4, h5, h6, h7, h8])
                    clear h0 h1 h2 h3 h4 h5 h6 h7 h8
                    generalize decide ((⟨kk, ep, sq, po, cn, st, SS, LS, DD, ⟨se, sn, tl⟩, ⟨pe, PL⟩⟩ : Msg) = ⟨kko, epo, sqo, poo, cno, sto, SSo, LSo, DDo, ⟨seo, sno, tlo⟩, ⟨peo, PLo⟩⟩) = RR at *
                    generalize decide (SS = SSo) = Q1 at *
                    generalize decide (LS = LSo) = Q2 at *
                    generalize decide (DD = DDo) = Q3 at *
                    generalize decide ((⟨pe, PL⟩ : Projn) = ⟨peo, PLo⟩) = Q4 at *
                    go_enter Tryz.func22, Tryz.ntmps22
                    go_wp2_with fail
                    generalize ((w.alloc (.cells #[.int .i64 kk, .int .u64 ep, .int .u64 sq, .int .u64 po, .int .i64 cn, .int .i64 st, .slice a1 SS.length c1, .slice a2 LS.length c2, .slice a3 DD.length c3, .int .u64 se, .int .u64 sn, .int .u64 tl, .int .u64 pe, .slice a4 PL.length c4] 32)).alloc (.cells #[.int .i64 kko, .int .u64 epo, .int .u64 sqo, .int .u64 poo, .int .i64 cno, .int .i64 sto, .slice b1 SSo.length d1, .slice b2 LSo.length d2, .slice b3 DDo.length d3, .int .u64 seo, .int .u64 sno, .int .u64 tlo, .int .u64 peo, .slice b4 PLo.length d4] 32)) = w0 at *
                    refine (E1.out _ hb0).mono ?_
                    rintro r w1 ⟨rfl, hb1⟩
                    have hb01 := below_then hb1 hb0
                    have X1 := HBX.out.later hb1
                    have Y1 := HBY.out.later hb1
                    cases Q1
                    · have hfin : Hid (RR = false) := hid (by rw [hfull.out]; rfl)
                      go_wp2_with fail
                      go_ret
                      exact ⟨by rw [hfin.out]; rfl, hb01⟩
                    · have px7 : w1.cell? ⟨w.heap.size, 7, none⟩ = some (.slice a2 LS.length c2) := X1.cell 7
                      have py7 : w1.cell? ⟨w.heap.size + 1, 7, none⟩ = some (.slice b2 LSo.length d2) := Y1.cell 7
                      go_wp2_with fail
                      refine (E2.out _ hb01).mono ?_
                      rintro r w2 ⟨rfl, hb2⟩
                      have hb02 := below_then hb2 hb01
                      have X2 := X1.later hb2
                      have Y2 := Y1.later hb2
                      clear px7 py7
                      cases Q2
                      · have hfin : Hid (RR = false) := hid (by rw [hfull.out]; rfl)
                        go_wp2_with fail
                        go_ret
                        exact ⟨by rw [hfin.out]; rfl, hb02⟩
                      · have qx8 : w2.cell? ⟨w.heap.size, 8, none⟩ = some (.slice a3 DD.length c3) := X2.cell 8
                        have qy8 : w2.cell? ⟨w.heap.size + 1, 8, none⟩ = some (.slice b3 DDo.length d3) := Y2.cell 8
                        go_wp2_with fail
                        refine (E3.out _ hb02).mono ?_
                        rintro r w3 ⟨rfl, rfl⟩
                        cases Q3
                        · have hfin : Hid (RR = false) := hid (by rw [hfull.out]; rfl)
                          go_wp2_with fail
                          go_ret
                          exact ⟨by rw [hfin.out]; rfl, hb02⟩
                        · have hfin : Hid (RR = Q4) := hid (by rw [hfull.out]; rfl)
                          have rx12 : w2.cell? ⟨w.heap.size, 12, none⟩ = some (.int .u64 pe) := X2.cell 12
                          have ry12 : w2.cell? ⟨w.heap.size + 1, 12, none⟩ = some (.int .u64 peo) := Y2.cell 12
                          have rx13 : w2.cell? ⟨w.heap.size, 13, none⟩ = some (.slice a4 PL.length c4) := X2.cell 13
                          have ry13 : w2.cell? ⟨w.heap.size + 1, 13, none⟩ = some (.slice b4 PLo.length d4) := Y2.cell 13
                          go_wp2_with fail
                          refine (E4.out _ hb02).mono ?_
                          rintro r w4 ⟨rfl, hb4⟩
                          have hb04 := below_then hb4 hb02
                          go_wp2_with fail
                          go_ret
                          exact ⟨by rw [hfin.out]; rfl, hb04⟩
                  · have e8 : (tl == tlo) = false := by simpa using h8
                    have hfin : Hid (decide ((⟨kk, ep, sq, po, cn, st, SS, LS, DD, ⟨se, sn, tl⟩, ⟨pe, PL⟩⟩ : Msg) = ⟨kko, epo, sqo, poo, cno, sto, SSo, LSo, DDo, ⟨seo, sno, tlo⟩, ⟨peo, PLo⟩⟩) = false) := hid (by simp [h0, h1, h2, h3, h4, h5, h6, h7, h8])
                    clear h0 h1 h2 h3 h4 h5 h6 h7 h8
                    go_enter Tryz.func22, Tryz.ntmps22
                    go_wp2_with fail
                    go_ret
                    exact ⟨by rw [hfin.out]; rfl, hb0⟩
                · have e7 : (sn == sno) = false := by simpa using h7
                  have hfin : Hid (decide ((⟨kk, ep, sq, po, cn, st, SS, LS, DD, ⟨se, sn, tl⟩, ⟨pe, PL⟩⟩ : Msg) = ⟨kko, epo, sqo, poo, cno, sto, SSo, LSo, DDo, ⟨seo, sno, tlo⟩, ⟨peo, PLo⟩⟩) = false) := hid (by simp [h0, h1, h2, h3, h4, h5, h6, h7])
                  clear h0 h1 h2 h3 h4 h5 h6 h7
                  go_enter Tryz.func22, Tryz.ntmps22
                  go_wp2_with fail
                  go_ret
                  exact ⟨by rw [hfin.out]; rfl, hb0⟩
              · have e6 : (se == seo) = false := by simpa using h6
                have hfin : Hid (decide ((⟨kk, ep, sq, po, cn, st, SS, LS, DD, ⟨se, sn, tl⟩, ⟨pe, PL⟩⟩ : Msg) = ⟨kko, epo, sqo, poo, cno, sto, SSo, LSo, DDo, ⟨seo, sno, tlo⟩, ⟨peo, PLo⟩⟩) = false) := hid (by simp [h0, h1, h2, h3, h4, h5, h6])
                clear h0 h1 h2 h3 h4 h5 h6
                go_enter Tryz.func22, Tryz.ntmps22
                go_wp2_with fail
                go_ret
                exact ⟨by rw [hfin.out]; rfl, hb0⟩
            · have e5 : (st != sto) = true := by simpa using h5
              have hfin : Hid (decide ((⟨kk, ep, sq, po, cn, st, SS, LS, DD, ⟨se, sn, tl⟩, ⟨pe, PL⟩⟩ : Msg) = ⟨kko, epo, sqo, poo, cno, sto, SSo, LSo, DDo, ⟨seo, sno, tlo⟩, ⟨peo, PLo⟩⟩) = false) := hid (by simp [h0, h1, h2, h3, h4, h5])
              clear h0 h1 h2 h3 h4 h5
              go_enter Tryz.func22, Tryz.ntmps22
              go_wp2_with fail
              go_ret
              exact ⟨by rw [hfin.out]; rfl, hb0⟩
          · have e4 : (cn != cno) = true := by simpa using h4
            have hfin : Hid (decide ((⟨kk, ep, sq, po, cn, st, SS, LS, DD, ⟨se, sn, tl⟩, ⟨pe, PL⟩⟩ : Msg) = ⟨kko, epo, sqo, poo, cno, sto, SSo, LSo, DDo, ⟨seo, sno, tlo⟩, ⟨peo, PLo⟩⟩) = false) := hid (by simp [h0, h1, h2, h3, h4])
            clear h0 h1 h2 h3 h4
            go_enter Tryz.func22, Tryz.ntmps22
            go_wp2_with fail
            go_ret
            exact ⟨by rw [hfin.out]; rfl, hb0⟩
        · have e3 : (po != poo) = true := by simpa using h3
          have hfin : Hid (decide ((⟨kk, ep, sq, po, cn, st, SS, LS, DD, ⟨se, sn, tl⟩, ⟨pe, PL⟩⟩ : Msg) = ⟨kko, epo, sqo, poo, cno, sto, SSo, LSo, DDo, ⟨seo, sno, tlo⟩, ⟨peo, PLo⟩⟩) = false) := hid (by simp [h0, h1, h2, h3])
          clear h0 h1 h2 h3
          go_enter Tryz.func22, Tryz.ntmps22
          go_wp2_with fail
          go_ret
          exact ⟨by rw [hfin.out]; rfl, hb0⟩
      · have e2 : (sq != sqo) = true := by simpa using h2
        have hfin : Hid (decide ((⟨kk, ep, sq, po, cn, st, SS, LS, DD, ⟨se, sn, tl⟩, ⟨pe, PL⟩⟩ : Msg) = ⟨kko, epo, sqo, poo, cno, sto, SSo, LSo, DDo, ⟨seo, sno, tlo⟩, ⟨peo, PLo⟩⟩) = false) := hid (by simp [h0, h1, h2])
        clear h0 h1 h2
        go_enter Tryz.func22, Tryz.ntmps22
        go_wp2_with fail
        go_ret
        exact ⟨by rw [hfin.out]; rfl, hb0⟩
    · have e1 : (ep != epo) = true := by simpa using h1
      have hfin : Hid (decide ((⟨kk, ep, sq, po, cn, st, SS, LS, DD, ⟨se, sn, tl⟩, ⟨pe, PL⟩⟩ : Msg) = ⟨kko, epo, sqo, poo, cno, sto, SSo, LSo, DDo, ⟨seo, sno, tlo⟩, ⟨peo, PLo⟩⟩) = false) := hid (by simp [h0, h1])
      clear h0 h1
      go_enter Tryz.func22, Tryz.ntmps22
      go_wp2_with fail
      go_ret
      exact ⟨by rw [hfin.out]; rfl, hb0⟩
  · have e0 : (kk != kko) = true := by simpa using h0
    have hfin : Hid (decide ((⟨kk, ep, sq, po, cn, st, SS, LS, DD, ⟨se, sn, tl⟩, ⟨pe, PL⟩⟩ : Msg) = ⟨kko, epo, sqo, poo, cno, sto, SSo, LSo, DDo, ⟨seo, sno, tlo⟩, ⟨peo, PLo⟩⟩) = false) := hid (by simp [h0])
    clear h0
    go_enter Tryz.func22, Tryz.ntmps22
    go_wp2_with fail
    go_ret
    exact ⟨by rw [hfin.out]; rfl, hb0⟩

end Go.Proofs.YtlbffbkbkajciaaGreat
namespace Go.Proofs.YtlbffbkbkajciaaGreat
open Go.RowKit Go.Bs Go.Maps
set_option linter.unusedVariables false
set_option linter.unusedSimpArgs false

theorem rp_set {α : Type} (A : Rp α) {lo : Nat} {w : World} {p : Addr} {u : Value} {cs : List Value} {x : α} (h : A.r (fun q => lo ≤ q ∧ q < w.heap.size) w cs x) (hp : p.block < lo) : A.r (fun q => lo ≤ q ∧ q < (w.setCell p u).heap.size) (w.setCell p u) cs x :=
  A.mono (A.keep h fun q hq => Below.heap_setCell _ _ _ q (by omega)) fun q hq => ⟨hq.1, by simpa [World.setCell] using hq.2⟩
theorem rp_later {α : Type} (A : Rp α) {lo : Nat} {w w' : World} {cs : List Value} {x : α} (h : A.r (fun q => lo ≤ q ∧ q < w.heap.size) w cs x) (hb : Below w.heap.size w w') : A.r (fun q => lo ≤ q ∧ q < w'.heap.size) w' cs x :=
  A.mono (A.keep h fun q hq => hb.block q hq.2) fun q hq => ⟨hq.1, Nat.lt_of_lt_of_le hq.2 hb.size⟩
theorem post_world {P : Program} {f : Func} {Q : Ending → World → Prop} {e : Exit} {a : Act} {w : World} (F : World → Prop) (hF : F w) (h : ∀ W, F W → bodyPost P f Q e a W) : bodyPost P f Q e a w := h w hF
theorem size_set (w : World) (p : Addr) (u : Value) : (w.setCell p u).heap.size = w.heap.size := by simp [World.setCell]

set_option maxRecDepth 100000 in
set_option maxHeartbeats 12800000 in
theorem body_copy (m : Msg) (a1 : Option Addr) (c1 : Nat) (a2 : Option Addr) (c2 : Nat) (a3 : Option Addr) (c3 : Nat) (a4 : Option Addr) (c4 : Nat) (w : World) (hm : MsgIn (· < w.heap.size) w m a1 c1 a2 c2 a3 c3 a4 c4) (hs : m.streams.length ≤ 1000000000000) (hk : m.links.length ≤ 1000000000000) (hbk : ∀ x ∈ m.links, x.backs.length ≤ 1000000000000) (hd : m.data.length ≤ 1000000000000) (hp : m.proj.stripes.length ≤ 1000000000000) (hps : ∀ x ∈ m.proj.stripes, MildS x) :
    Calls Tryz.prog 23 #[.agg #[.int .i64 m.kind, .int .u64 m.epoch, .int .u64 m.seq, .int .u64 m.pos, .int .i64 m.count, .int .i64 m.state, .slice a1 m.streams.length c1, .slice a2 m.links.length c2, .slice a3 m.data.length c3, .int .u64 m.sea.epoch, .int .u64 m.sea.node, .int .u64 m.sea.tail, .int .u64 m.proj.epoch, .slice a4 m.proj.stripes.length c4]] w fun r w' => ∃ b1 d1 b2 d2 b3 d3 b4 d4, r = .returned (.agg #[.int .i64 m.kind, .int .u64 m.epoch, .int .u64 m.seq, .int .u64 m.pos, .int .i64 m.count, .int .i64 m.state, .slice b1 m.streams.length d1, .slice b2 m.links.length d2, .slice b3 m.data.length d3, .int .u64 m.sea.epoch, .int .u64 m.sea.node, .int .u64 m.sea.tail, .int .u64 m.proj.epoch, .slice b4 m.proj.stripes.length d4]) ∧ MsgIn (· < w'.heap.size) w' m b1 d1 b2 d2 b3 d3 b4 d4 ∧ Below w.heap.size w w' := by
  obtain ⟨i0, hi, hz0, hz1, hz2⟩ := info_parts info64
  obtain ⟨j0, ji, jz0, jz1, jz2⟩ := info_parts info8
  have HM := hid hm
  have HS1 := hid (fun (W : World) (hW : Below w.heap.size w W) => src_u64s (lift hm.streams hW))
  have HS3 := hid (fun (W : World) (hW : Below w.heap.size w W) => src_bytes (lift hm.data hW))
  have HW1 := hid (u64s_bounds hm.streams)
  have HON := hid (u64Cells_one m.streams)
  have HOB := hid (byteCells_one m.data)
  have HLC := hid (fun (W : World) (hW : Below w.heap.size w W) => link_copy m.links a2 _ c2 W (lift hm.links hW) hk hbk)
  have HPC := hid (fun (W : World) (hW : Below w.heap.size w W) => proj_copy m.proj a4 _ c4 W (lift hm.stripes hW) hp hps)
  clear hm hbk hps
  go_enter Tryz.func23, Tryz.ntmps23
  go_upto_region 1 with (fail)
  refine wp_world (fun W => Below w.heap.size w W ∧ w.heap.size + 2 ≤ W.heap.size ∧ Blk W w.heap.size 32 #[.int .i64 m.kind, .int .u64 m.epoch, .int .u64 m.seq, .int .u64 m.pos, .int .i64 m.count, .int .i64 m.state, .slice a1 m.streams.length c1, .slice a2 m.links.length c2, .slice a3 m.data.length c3, .int .u64 m.sea.epoch, .int .u64 m.sea.node, .int .u64 m.sea.tail, .int .u64 m.proj.epoch, .slice a4 m.proj.stripes.length c4] ∧ Blk W (w.heap.size + 1) 32 #[.int .i64 0, .int .u64 0, .int .u64 0, .int .u64 0, .int .i64 0, .int .i64 0, .slice none 0 0, .slice none 0 0, .slice none 0 0, .int .u64 0, .int .u64 0, .int .u64 0, .int .u64 0, .slice none 0 0]) ⟨by (repeat (first | exact Below.refl _ _ | assumption | (refine below_alloc ?_ _) | (refine Below.setCell ?_ (by first | omega | (simp; done) | (simp; omega)) _) | (refine Below.drew ?_) | (refine below_drewN ?_ _) | (refine below_then (by assumption) ?_))), by simp, (Blk.new w _ _).alloc _, Blk.new1 w _ _ _⟩ ?_
  rintro W0 ⟨hb0, hz0', q0, q1⟩
  have y6 : W0.cell? ⟨w.heap.size, 6, none⟩ = some (.slice a1 m.streams.length c1) := q0.cell 6
  have f6 := q0.free 6
  have l6 := q0.lt
  have Q0 := hid q0
  have Q1 := hid q1
  have HB0 := hid hb0
  clear q0 q1
  go_upto_region 2 with (at_builtin; go_loud (refine wpList_append_src rfl _ _ _ rfl W0.heap.size 22 i0 (.int .u64 0) 1 8 Tryz.underlying23 hi hz0 hz1 hz2 rfl (by decide) (.slice (some ⟨W0.heap.size, 0, none⟩) 0 0) 0 [] rfl (own_empty W0 (Nat.le_refl _) rfl) a1 m.streams.length c1 (u64Cells m.streams) rfl (HS1.out _ (by (repeat (first | with_reducible exact Below.refl _ _ | with_reducible assumption | (with_reducible refine below_alloc ?_ _) | (with_reducible refine Below.setCell ?_ (by first | omega | (simp; done) | (simp; omega)) _) | (with_reducible refine Below.drew ?_) | (with_reducible refine below_drewN ?_ _) | (refine below_then (by with_reducible assumption) ?_))))) HON.out (by simp only [maxLen]; omega) (by omega) (by first | (simp; done) | (simp; omega)) ?_; intro v1 w1 hown1 hgrow1 hat1; rw [Nat.zero_add, List.nil_append] at hown1; obtain ⟨b1, d1, hv1⟩ := own_form hown1; subst hv1; have hbw1 : Below W0.heap.size W0 w1 := Below.grown (by (repeat (first | with_reducible exact Below.refl _ _ | with_reducible assumption | (with_reducible refine below_alloc ?_ _) | (with_reducible refine Below.setCell ?_ (by first | omega | (simp; done) | (simp; omega)) _) | (with_reducible refine Below.drew ?_) | (with_reducible refine below_drewN ?_ _) | (refine below_then (by with_reducible assumption) ?_)))) hgrow1 (by first | (simp; done) | (simp; omega)) (fun g e => by simp only [Value.ownBlock, Option.some.injEq] at e; omega); have HR1 := hid (own_ints64 HW1.out rfl hown1); have P0 := hid (Q0.out.later hbw1); have P1 := hid (Q1.out.later hbw1); have x6 : w1.cell? ⟨w.heap.size, 6, none⟩ = some (.slice a1 m.streams.length c1) := P0.out.cell 6; have g6 := P0.out.free 6; have k6 := P0.out.lt; have HBW1 := hid hbw1; clear hown1 hgrow1 hat1 hbw1))
  have hz1' := HBW1.out.size
  refine wp_world (fun W => Below w.heap.size w W ∧ w.heap.size + 2 ≤ W.heap.size ∧ Blk W w.heap.size 32 #[.int .i64 m.kind, .int .u64 m.epoch, .int .u64 m.seq, .int .u64 m.pos, .int .i64 m.count, .int .i64 m.state, .slice b1 m.streams.length d1, .slice a2 m.links.length c2, .slice a3 m.data.length c3, .int .u64 m.sea.epoch, .int .u64 m.sea.node, .int .u64 m.sea.tail, .int .u64 m.proj.epoch, .slice a4 m.proj.stripes.length c4] ∧ Blk W (w.heap.size + 1) 32 #[.int .i64 0, .int .u64 0, .int .u64 0, .int .u64 0, .int .i64 0, .int .i64 0, .slice none 0 0, .slice none 0 0, .slice none 0 0, .int .u64 0, .int .u64 0, .int .u64 0, .int .u64 0, .slice none 0 0] ∧ rU64s.r (fun q => w.heap.size + 2 ≤ q ∧ q < W.heap.size) W [.slice b1 m.streams.length d1] m.streams) ⟨by have := below_then HBW1.out HB0.out; (repeat (first | exact Below.refl _ _ | assumption | (refine below_alloc ?_ _) | (refine Below.setCell ?_ (by first | omega | (simp; done) | (simp; omega)) _) | (refine Below.drew ?_) | (refine below_drewN ?_ _) | (refine below_then (by assumption) ?_))), by rw [size_set]; omega, (by have := P0.out.set 6 (.slice b1 m.streams.length d1); simp only [List.setIfInBounds_toArray, List.set_cons_zero, List.set_cons_succ] at this; exact this), P1.out.far (by simp) _, rp_set rU64s (rU64s.mono HR1.out fun q hq => ⟨by omega, hq.2⟩) (by dsimp only; omega)⟩ ?_
  rintro W1 ⟨hb1, hz1'', q0, q1, r1⟩
  have y7 : W1.cell? ⟨w.heap.size, 7, none⟩ = some (.slice a2 m.links.length c2) := q0.cell 7
  have R1 := hid r1
  have Q0 := hid q0
  have Q1 := hid q1
  have HB1 := hid hb1
  clear q0 q1 r1 HR1 P0 P1 x6 g6 k6 y6 f6 l6 HBW1 hb0
  go_wp2_with fail
  refine (HLC.out _ HB1.out).mono ?_
  rintro e w2 ⟨v2, rfl, hr2, hb2⟩
  obtain ⟨b2, d2, hv2, _, _⟩ := sl_form hr2
  simp only [List.cons.injEq, and_true] at hv2
  subst hv2
  have HR2 := hid (rLinks.mono (S' := fun q => w.heap.size + 2 ≤ q ∧ q < w2.heap.size) hr2 fun q hq => ⟨by have := hq.1; omega, hq.2⟩)
  have P0 := hid (Q0.out.later hb2)
  have P1 := hid (Q1.out.later hb2)
  have R1b := hid (rp_later rU64s R1.out hb2)
  have HBW2 := hid (below_then hb2 HB1.out)
  have hz2' := hb2.size
  have x7 : w2.cell? ⟨w.heap.size, 7, none⟩ = some (.slice a2 m.links.length c2) := P0.out.cell 7
  have g7 := P0.out.free 7
  have k7 := P0.out.lt
  clear hr2 hb2 y7
  go_upto_region 3 with (fail)
  refine wp_world (fun W => Below w.heap.size w W ∧ w.heap.size + 2 ≤ W.heap.size ∧ Blk W w.heap.size 32 #[.int .i64 m.kind, .int .u64 m.epoch, .int .u64 m.seq, .int .u64 m.pos, .int .i64 m.count, .int .i64 m.state, .slice b1 m.streams.length d1, .slice b2 m.links.length d2, .slice a3 m.data.length c3, .int .u64 m.sea.epoch, .int .u64 m.sea.node, .int .u64 m.sea.tail, .int .u64 m.proj.epoch, .slice a4 m.proj.stripes.length c4] ∧ Blk W (w.heap.size + 1) 32 #[.int .i64 0, .int .u64 0, .int .u64 0, .int .u64 0, .int .i64 0, .int .i64 0, .slice none 0 0, .slice none 0 0, .slice none 0 0, .int .u64 0, .int .u64 0, .int .u64 0, .int .u64 0, .slice none 0 0] ∧ rU64s.r (fun q => w.heap.size + 2 ≤ q ∧ q < W.heap.size) W [.slice b1 m.streams.length d1] m.streams ∧ rLinks.r (fun q => w.heap.size + 2 ≤ q ∧ q < W.heap.size) W [.slice b2 m.links.length d2] m.links) ⟨by have := HBW2.out; (repeat (first | exact Below.refl _ _ | assumption | (refine below_alloc ?_ _) | (refine Below.setCell ?_ (by first | omega | (simp; done) | (simp; omega)) _) | (refine Below.drew ?_) | (refine below_drewN ?_ _) | (refine below_then (by assumption) ?_))), by rw [size_set]; omega, (by have := P0.out.set 7 (.slice b2 m.links.length d2); simp only [List.setIfInBounds_toArray, List.set_cons_zero, List.set_cons_succ] at this; exact this), P1.out.far (by simp) _, rp_set rU64s R1b.out (by dsimp only; omega), rp_set rLinks HR2.out (by dsimp only; omega)⟩ ?_
  rintro W2 ⟨hb2, hz2'', q0, q1, r1, r2⟩
  have y8 : W2.cell? ⟨w.heap.size, 8, none⟩ = some (.slice a3 m.data.length c3) := q0.cell 8
  have l8 := q0.lt
  have R1 := hid r1
  have R2 := hid r2
  have Q0 := hid q0
  have Q1 := hid q1
  have HB2 := hid hb2
  clear q0 q1 r1 r2 P0 P1 x7 g7 k7 R1b HR2 HBW2
  go_upto_region 4 with (at_builtin; go_loud (refine wpList_append_src rfl _ _ _ rfl W2.heap.size 5 j0 (.int .u8 0) 1 1 Tryz.underlying25 ji jz0 jz1 jz2 rfl (by decide) (.slice (some ⟨W2.heap.size, 0, none⟩) 0 0) 0 [] rfl (own_empty W2 (Nat.le_refl _) rfl) a3 m.data.length c3 (byteCells m.data) rfl (HS3.out _ (by (repeat (first | with_reducible exact Below.refl _ _ | with_reducible assumption | (with_reducible refine below_alloc ?_ _) | (with_reducible refine Below.setCell ?_ (by first | omega | (simp; done) | (simp; omega)) _) | (with_reducible refine Below.drew ?_) | (with_reducible refine below_drewN ?_ _) | (refine below_then (by with_reducible assumption) ?_))))) HOB.out (by simp only [maxLen]; omega) (by omega) (by first | (simp; done) | (simp; omega)) ?_; intro v3 w3 hown3 hgrow3 hat3; rw [Nat.zero_add, List.nil_append] at hown3; obtain ⟨b3, d3, hv3⟩ := own_form hown3; subst hv3; have hbw3 : Below W2.heap.size W2 w3 := Below.grown (by (repeat (first | with_reducible exact Below.refl _ _ | with_reducible assumption | (with_reducible refine below_alloc ?_ _) | (with_reducible refine Below.setCell ?_ (by first | omega | (simp; done) | (simp; omega)) _) | (with_reducible refine Below.drew ?_) | (with_reducible refine below_drewN ?_ _) | (refine below_then (by with_reducible assumption) ?_)))) hgrow3 (by first | (simp; done) | (simp; omega)) (fun g e => by simp only [Value.ownBlock, Option.some.injEq] at e; omega); have HR3 := hid (own_bytes2 rfl hown3); have P0 := hid (Q0.out.later hbw3); have P1 := hid (Q1.out.later hbw3); have x8 : w3.cell? ⟨w.heap.size, 8, none⟩ = some (.slice a3 m.data.length c3) := P0.out.cell 8; have g8 := P0.out.free 8; have k8 := P0.out.lt; have HBW3 := hid hbw3; clear hown3 hgrow3 hat3 hbw3))
  have hz3' := HBW3.out.size
  refine wp_world (fun W => Below w.heap.size w W ∧ w.heap.size + 2 ≤ W.heap.size ∧ Blk W w.heap.size 32 #[.int .i64 m.kind, .int .u64 m.epoch, .int .u64 m.seq, .int .u64 m.pos, .int .i64 m.count, .int .i64 m.state, .slice b1 m.streams.length d1, .slice b2 m.links.length d2, .slice b3 m.data.length d3, .int .u64 m.sea.epoch, .int .u64 m.sea.node, .int .u64 m.sea.tail, .int .u64 m.proj.epoch, .slice a4 m.proj.stripes.length c4] ∧ Blk W (w.heap.size + 1) 32 #[.int .i64 0, .int .u64 0, .int .u64 0, .int .u64 0, .int .i64 0, .int .i64 0, .slice none 0 0, .slice none 0 0, .slice none 0 0, .int .u64 0, .int .u64 0, .int .u64 0, .int .u64 0, .slice none 0 0] ∧ rU64s.r (fun q => w.heap.size + 2 ≤ q ∧ q < W.heap.size) W [.slice b1 m.streams.length d1] m.streams ∧ rLinks.r (fun q => w.heap.size + 2 ≤ q ∧ q < W.heap.size) W [.slice b2 m.links.length d2] m.links ∧ rBytes.r (fun q => w.heap.size + 2 ≤ q ∧ q < W.heap.size) W [.slice b3 m.data.length d3] m.data) ⟨by have := below_then HBW3.out HB2.out; (repeat (first | exact Below.refl _ _ | assumption | (refine below_alloc ?_ _) | (refine Below.setCell ?_ (by first | omega | (simp; done) | (simp; omega)) _) | (refine Below.drew ?_) | (refine below_drewN ?_ _) | (refine below_then (by assumption) ?_))), by rw [size_set]; omega, (by have := P0.out.set 8 (.slice b3 m.data.length d3); simp only [List.setIfInBounds_toArray, List.set_cons_zero, List.set_cons_succ] at this; exact this), P1.out.far (by simp) _, rp_set rU64s (rp_later rU64s R1.out HBW3.out) (by dsimp only; omega), rp_set rLinks (rp_later rLinks R2.out HBW3.out) (by dsimp only; omega), rp_set rBytes (rBytes.mono HR3.out fun q hq => ⟨by omega, hq.2⟩) (by dsimp only; omega)⟩ ?_
  rintro W3 ⟨hb3, hz3'', q0, q1, r1, r2, r3⟩
  have y12 : W3.cell? ⟨w.heap.size, 12, none⟩ = some (.int .u64 m.proj.epoch) := q0.cell 12
  have y13 : W3.cell? ⟨w.heap.size, 13, none⟩ = some (.slice a4 m.proj.stripes.length c4) := q0.cell 13
  have R1 := hid r1
  have R2 := hid r2
  have R3 := hid r3
  have Q0 := hid q0
  have Q1 := hid q1
  have HB3 := hid hb3
  clear q0 q1 r1 r2 r3 P0 P1 x8 g8 k8 HR3 HBW3 hb2 hb1 y8
  go_wp2_with fail
  refine (HPC.out _ HB3.out).mono ?_
  rintro e w4 ⟨v4, rfl, hr4, hb4⟩
  obtain ⟨b4, d4, hv4, _, _⟩ := sl_form hr4
  simp only [List.cons.injEq, and_true] at hv4
  subst hv4
  have HR4 := hid (rStripes.mono (S' := fun q => w.heap.size + 2 ≤ q ∧ q < w4.heap.size) hr4 fun q hq => ⟨by have := hq.1; omega, hq.2⟩)
  have P0 := hid (Q0.out.later hb4)
  have P1 := hid (Q1.out.later hb4)
  have R1b := hid (rp_later rU64s R1.out hb4)
  have R2b := hid (rp_later rLinks R2.out hb4)
  have R3b := hid (rp_later rBytes R3.out hb4)
  have HBW4 := hid (below_then hb4 HB3.out)
  have hz4' := hb4.size
  have x12 : w4.cell? ⟨w.heap.size, 12, none⟩ = some (.int .u64 m.proj.epoch) := P0.out.cell 12
  have x13 : w4.cell? ⟨w.heap.size, 13, none⟩ = some (.slice a4 m.proj.stripes.length c4) := P0.out.cell 13
  have g12 := P0.out.free 12
  have g13 := P0.out.free 13
  have k12 := P0.out.lt
  clear hr4 hb4 y12 y13
  go_upto_region 5 with (fail)
  refine wp_world (fun W => Below w.heap.size w W ∧ w.heap.size + 2 ≤ W.heap.size ∧ Blk W w.heap.size 32 #[.int .i64 m.kind, .int .u64 m.epoch, .int .u64 m.seq, .int .u64 m.pos, .int .i64 m.count, .int .i64 m.state, .slice b1 m.streams.length d1, .slice b2 m.links.length d2, .slice b3 m.data.length d3, .int .u64 m.sea.epoch, .int .u64 m.sea.node, .int .u64 m.sea.tail, .int .u64 m.proj.epoch, .slice b4 m.proj.stripes.length d4] ∧ Blk W (w.heap.size + 1) 32 #[.int .i64 0, .int .u64 0, .int .u64 0, .int .u64 0, .int .i64 0, .int .i64 0, .slice none 0 0, .slice none 0 0, .slice none 0 0, .int .u64 0, .int .u64 0, .int .u64 0, .int .u64 0, .slice none 0 0] ∧ rU64s.r (fun q => w.heap.size + 2 ≤ q ∧ q < W.heap.size) W [.slice b1 m.streams.length d1] m.streams ∧ rLinks.r (fun q => w.heap.size + 2 ≤ q ∧ q < W.heap.size) W [.slice b2 m.links.length d2] m.links ∧ rBytes.r (fun q => w.heap.size + 2 ≤ q ∧ q < W.heap.size) W [.slice b3 m.data.length d3] m.data ∧ rStripes.r (fun q => w.heap.size + 2 ≤ q ∧ q < W.heap.size) W [.slice b4 m.proj.stripes.length d4] m.proj.stripes) ⟨by have := HBW4.out; (repeat (first | exact Below.refl _ _ | assumption | (refine below_alloc ?_ _) | (refine Below.setCell ?_ (by first | omega | (simp; done) | (simp; omega)) _) | (refine Below.drew ?_) | (refine below_drewN ?_ _) | (refine below_then (by assumption) ?_))), by rw [size_set, size_set]; omega, (by have := (P0.out.set 12 (.int .u64 m.proj.epoch)).set 13 (.slice b4 m.proj.stripes.length d4); simp only [List.setIfInBounds_toArray, List.set_cons_zero, List.set_cons_succ] at this; exact this), (P1.out.far (by simp) _).far (by simp) _, rp_set rU64s (rp_set rU64s R1b.out (by dsimp only; omega)) (by dsimp only; omega), rp_set rLinks (rp_set rLinks R2b.out (by dsimp only; omega)) (by dsimp only; omega), rp_set rBytes (rp_set rBytes R3b.out (by dsimp only; omega)) (by dsimp only; omega), rp_set rStripes (rp_set rStripes HR4.out (by dsimp only; omega)) (by dsimp only; omega)⟩ ?_
  rintro W4 ⟨hb4, hz4'', q0, q1, r1, r2, r3, r4⟩
  have y0 : W4.cell? ⟨w.heap.size, 0, none⟩ = some (.int .i64 m.kind) := q0.cell 0
  have y1 : W4.cell? ⟨w.heap.size, 1, none⟩ = some (.int .u64 m.epoch) := q0.cell 1
  have y2 : W4.cell? ⟨w.heap.size, 2, none⟩ = some (.int .u64 m.seq) := q0.cell 2
  have y3 : W4.cell? ⟨w.heap.size, 3, none⟩ = some (.int .u64 m.pos) := q0.cell 3
  have y4 : W4.cell? ⟨w.heap.size, 4, none⟩ = some (.int .i64 m.count) := q0.cell 4
  have y5 : W4.cell? ⟨w.heap.size, 5, none⟩ = some (.int .i64 m.state) := q0.cell 5
  have y6 : W4.cell? ⟨w.heap.size, 6, none⟩ = some (.slice b1 m.streams.length d1) := q0.cell 6
  have y7 : W4.cell? ⟨w.heap.size, 7, none⟩ = some (.slice b2 m.links.length d2) := q0.cell 7
  have y8 : W4.cell? ⟨w.heap.size, 8, none⟩ = some (.slice b3 m.data.length d3) := q0.cell 8
  have y9 : W4.cell? ⟨w.heap.size, 9, none⟩ = some (.int .u64 m.sea.epoch) := q0.cell 9
  have y10 : W4.cell? ⟨w.heap.size, 10, none⟩ = some (.int .u64 m.sea.node) := q0.cell 10
  have y11 : W4.cell? ⟨w.heap.size, 11, none⟩ = some (.int .u64 m.sea.tail) := q0.cell 11
  have y12 : W4.cell? ⟨w.heap.size, 12, none⟩ = some (.int .u64 m.proj.epoch) := q0.cell 12
  have y13 : W4.cell? ⟨w.heap.size, 13, none⟩ = some (.slice b4 m.proj.stripes.length d4) := q0.cell 13
  have z0 : W4.cell? ⟨w.heap.size + 1, 0, none⟩ = some (.int .i64 0) := q1.cell 0
  have f0 := q1.free 0
  have z1 : W4.cell? ⟨w.heap.size + 1, 1, none⟩ = some (.int .u64 0) := q1.cell 1
  have f1 := q1.free 1
  have z2 : W4.cell? ⟨w.heap.size + 1, 2, none⟩ = some (.int .u64 0) := q1.cell 2
  have f2 := q1.free 2
  have z3 : W4.cell? ⟨w.heap.size + 1, 3, none⟩ = some (.int .u64 0) := q1.cell 3
  have f3 := q1.free 3
  have z4 : W4.cell? ⟨w.heap.size + 1, 4, none⟩ = some (.int .i64 0) := q1.cell 4
  have f4 := q1.free 4
  have z5 : W4.cell? ⟨w.heap.size + 1, 5, none⟩ = some (.int .i64 0) := q1.cell 5
  have f5 := q1.free 5
  have z6 : W4.cell? ⟨w.heap.size + 1, 6, none⟩ = some (.slice none 0 0) := q1.cell 6
  have f6 := q1.free 6
  have z7 : W4.cell? ⟨w.heap.size + 1, 7, none⟩ = some (.slice none 0 0) := q1.cell 7
  have f7 := q1.free 7
  have z8 : W4.cell? ⟨w.heap.size + 1, 8, none⟩ = some (.slice none 0 0) := q1.cell 8
  have f8 := q1.free 8
  have z9 : W4.cell? ⟨w.heap.size + 1, 9, none⟩ = some (.int .u64 0) := q1.cell 9
  have f9 := q1.free 9
  have z10 : W4.cell? ⟨w.heap.size + 1, 10, none⟩ = some (.int .u64 0) := q1.cell 10
  have f10 := q1.free 10
  have z11 : W4.cell? ⟨w.heap.size + 1, 11, none⟩ = some (.int .u64 0) := q1.cell 11
  have f11 := q1.free 11
  have z12 : W4.cell? ⟨w.heap.size + 1, 12, none⟩ = some (.int .u64 0) := q1.cell 12
  have f12 := q1.free 12
  have z13 : W4.cell? ⟨w.heap.size + 1, 13, none⟩ = some (.slice none 0 0) := q1.cell 13
  have f13 := q1.free 13
  have lz := q1.lt
  have Q1 := hid q1
  have R1 := hid r1
  have R2 := hid r2
  have R3 := hid r3
  have R4 := hid r4
  have HB4 := hid hb4
  have H8 := hid HM.out
  clear q0 q1 r1 r2 r3 r4 P0 P1 x12 x13 g12 g13 k12 R1b R2b R3b HR4 HBW4 hb3 hb4
  go_wp2
  refine post_world (fun W => Below w.heap.size w W ∧ Blk W (w.heap.size + 1) 32 #[.int .i64 m.kind, .int .u64 m.epoch, .int .u64 m.seq, .int .u64 m.pos, .int .i64 m.count, .int .i64 m.state, .slice b1 m.streams.length d1, .slice b2 m.links.length d2, .slice b3 m.data.length d3, .int .u64 m.sea.epoch, .int .u64 m.sea.node, .int .u64 m.sea.tail, .int .u64 m.proj.epoch, .slice b4 m.proj.stripes.length d4] ∧ (∀ q, w.heap.size + 2 ≤ q → W.heap[q]? = W4.heap[q]?) ∧ W.heap.size = W4.heap.size) ⟨by have := HB4.out; (repeat (first | with_reducible exact Below.refl _ _ | with_reducible assumption | (with_reducible refine below_alloc ?_ _) | (with_reducible refine Below.setCell ?_ (by first | omega | (simp; done) | (simp; omega)) _) | (with_reducible refine Below.drew ?_) | (with_reducible refine below_drewN ?_ _) | (refine below_then (by with_reducible assumption) ?_))), by have := ((((((((((((((Q1.out.set 0 (.int .i64 m.kind)).set 1 (.int .u64 m.epoch)).set 2 (.int .u64 m.seq)).set 3 (.int .u64 m.pos)).set 4 (.int .i64 m.count)).set 5 (.int .i64 m.state)).set 6 (.slice b1 m.streams.length d1)).set 7 (.slice b2 m.links.length d2)).set 8 (.slice b3 m.data.length d3)).set 9 (.int .u64 m.sea.epoch)).set 10 (.int .u64 m.sea.node)).set 11 (.int .u64 m.sea.tail)).set 12 (.int .u64 m.proj.epoch)).set 13 (.slice b4 m.proj.stripes.length d4)); simp only [List.setIfInBounds_toArray, List.set_cons_zero, List.set_cons_succ] at this; exact this, fun q hq => by (repeat rw [Below.heap_setCell _ _ _ _ (by dsimp only; omega)]), by (repeat rw [size_set])⟩ ?_
  rintro W5 ⟨hb5, q5, hk5, hz5⟩
  have x0 : W5.cell? ⟨w.heap.size + 1, 0, none⟩ = some (.int .i64 m.kind) := q5.cell 0
  have x1 : W5.cell? ⟨w.heap.size + 1, 1, none⟩ = some (.int .u64 m.epoch) := q5.cell 1
  have x2 : W5.cell? ⟨w.heap.size + 1, 2, none⟩ = some (.int .u64 m.seq) := q5.cell 2
  have x3 : W5.cell? ⟨w.heap.size + 1, 3, none⟩ = some (.int .u64 m.pos) := q5.cell 3
  have x4 : W5.cell? ⟨w.heap.size + 1, 4, none⟩ = some (.int .i64 m.count) := q5.cell 4
  have x5 : W5.cell? ⟨w.heap.size + 1, 5, none⟩ = some (.int .i64 m.state) := q5.cell 5
  have x6 : W5.cell? ⟨w.heap.size + 1, 6, none⟩ = some (.slice b1 m.streams.length d1) := q5.cell 6
  have x7 : W5.cell? ⟨w.heap.size + 1, 7, none⟩ = some (.slice b2 m.links.length d2) := q5.cell 7
  have x8 : W5.cell? ⟨w.heap.size + 1, 8, none⟩ = some (.slice b3 m.data.length d3) := q5.cell 8
  have x9 : W5.cell? ⟨w.heap.size + 1, 9, none⟩ = some (.int .u64 m.sea.epoch) := q5.cell 9
  have x10 : W5.cell? ⟨w.heap.size + 1, 10, none⟩ = some (.int .u64 m.sea.node) := q5.cell 10
  have x11 : W5.cell? ⟨w.heap.size + 1, 11, none⟩ = some (.int .u64 m.sea.tail) := q5.cell 11
  have x12 : W5.cell? ⟨w.heap.size + 1, 12, none⟩ = some (.int .u64 m.proj.epoch) := q5.cell 12
  have x13 : W5.cell? ⟨w.heap.size + 1, 13, none⟩ = some (.slice b4 m.proj.stripes.length d4) := q5.cell 13
  have HB5 := hid hb5
  have HK5 := hid hk5
  have HZ5 := hid hz5
  clear hb5 q5 hk5 hz5 HB4 y0 z0 f0 y1 z1 f1 y2 z2 f2 y3 z3 f3 y4 z4 f4 y5 z5 f5 y6 z6 f6 y7 z7 f7 y8 z8 f8 y9 z9 f9 y10 z10 f10 y11 z11 f11 y12 z12 f12 y13 z13 f13
  refine bodyPost_ret (v := .agg #[.int .i64 m.kind, .int .u64 m.epoch, .int .u64 m.seq, .int .u64 m.pos, .int .i64 m.count, .int .i64 m.state, .slice b1 m.streams.length d1, .slice b2 m.links.length d2, .slice b3 m.data.length d3, .int .u64 m.sea.epoch, .int .u64 m.sea.node, .int .u64 m.sea.tail, .int .u64 m.proj.epoch, .slice b4 m.proj.stripes.length d4]) (by simp [results, Tryz.results23, go_sem, x0, x1, x2, x3, x4, x5, x6, x7, x8, x9, x10, x11, x12, x13]) rfl ⟨b1, d1, b2, d2, b3, d3, b4, d4, rfl, ?_, HB5.out⟩
  have hset : ∀ {α : Type} (A : Rp α) (cs : List Value) (x : α), A.r (fun q => w.heap.size + 2 ≤ q ∧ q < W4.heap.size) W4 cs x → A.r (· < W5.heap.size) W5 cs x := fun A cs x h => A.mono (A.keep h fun q hq => HK5.out q hq.1) fun q hq => by rw [HZ5.out]; exact hq.2
  exact ⟨H8.out.kind, H8.out.epoch, H8.out.seq, H8.out.pos, H8.out.count, H8.out.state, H8.out.sealE, H8.out.sealN, H8.out.sealT, H8.out.projE, hset _ _ _ R1.out, hset _ _ _ R2.out, hset _ _ _ R3.out, hset _ _ _ R4.out⟩
end Go.Proofs.YtlbffbkbkajciaaGreat
namespace Go.Proofs.YtlbffbkbkajciaaGreat
open Go.RowKit Go.Bs Go.Maps
set_option linter.unusedVariables false
set_option linter.unusedSimpArgs false

theorem m_blk {w : World} {g : Nat} {t : TypeId} {v0 v1 v2 v3 v4 v5 v6 v7 v8 v9 v10 v11 v12 v13 : Value} (h : Blk w g t #[v0, v1, v2, v3, v4, v5, v6, v7, v8, v9, v10, v11, v12, v13]) :
    w.cell? ⟨g, 0, none⟩ = some v0 ∧ w.cell? ⟨g, 1, none⟩ = some v1 ∧ w.cell? ⟨g, 2, none⟩ = some v2 ∧ w.cell? ⟨g, 3, none⟩ = some v3 ∧ w.cell? ⟨g, 4, none⟩ = some v4 ∧ w.cell? ⟨g, 5, none⟩ = some v5 ∧ w.cell? ⟨g, 6, none⟩ = some v6 ∧ w.cell? ⟨g, 7, none⟩ = some v7 ∧ w.cell? ⟨g, 8, none⟩ = some v8 ∧ w.cell? ⟨g, 9, none⟩ = some v9 ∧ w.cell? ⟨g, 10, none⟩ = some v10 ∧ w.cell? ⟨g, 11, none⟩ = some v11 ∧ w.cell? ⟨g, 12, none⟩ = some v12 ∧ w.cell? ⟨g, 13, none⟩ = some v13 ∧ g < w.heap.size :=
  ⟨h.cell 0, h.cell 1, h.cell 2, h.cell 3, h.cell 4, h.cell 5, h.cell 6, h.cell 7, h.cell 8, h.cell 9, h.cell 10, h.cell 11, h.cell 12, h.cell 13, h.lt⟩

set_option maxRecDepth 100000 in
set_option maxHeartbeats 12800000 in
theorem bodyWrites_c (m o : Msg) (a1 : Option Addr) (c1 : Nat) (a2 : Option Addr) (c2 : Nat) (a3 : Option Addr) (c3 : Nat) (a4 : Option Addr) (c4 : Nat) (b1 : Option Addr) (d1 : Nat) (b2 : Option Addr) (d2 : Nat) (b3 : Option Addr) (d3 : Nat) (b4 : Option Addr) (d4 : Nat) (w : World) (hm : MsgIn (· < w.heap.size) w m a1 c1 a2 c2 a3 c3 a4 c4) (ho : MsgIn (· < w.heap.size) w o b1 d1 b2 d2 b3 d3 b4 d4) :
    Calls Tryz.prog 3 #[.agg #[.int .i64 m.kind, .int .u64 m.epoch, .int .u64 m.seq, .int .u64 m.pos, .int .i64 m.count, .int .i64 m.state, .slice a1 m.streams.length c1, .slice a2 m.links.length c2, .slice a3 m.data.length c3, .int .u64 m.sea.epoch, .int .u64 m.sea.node, .int .u64 m.sea.tail, .int .u64 m.proj.epoch, .slice a4 m.proj.stripes.length c4], .agg #[.int .i64 o.kind, .int .u64 o.epoch, .int .u64 o.seq, .int .u64 o.pos, .int .i64 o.count, .int .i64 o.state, .slice b1 o.streams.length d1, .slice b2 o.links.length d2, .slice b3 o.data.length d3, .int .u64 o.sea.epoch, .int .u64 o.sea.node, .int .u64 o.sea.tail, .int .u64 o.proj.epoch, .slice b4 o.proj.stripes.length d4]] w fun r w' => r = .returned (.bool true) ∧ Below w.heap.size w w' := by
  have HM := hid hm
  have HLM := hid (fun (W : World) (hW : Below w.heap.size w W) => law28_long m a1 c1 a2 c2 a3 c3 a4 c4 W (MsgIn.lift hm hW))
  have HLO := hid (fun (W : World) (hW : Below w.heap.size w W) => law28_long o b1 d1 b2 d2 b3 d3 b4 d4 W (MsgIn.lift ho hW))
  have hb0 : Below w.heap.size w ((w.alloc (.cells #[.int .i64 m.kind, .int .u64 m.epoch, .int .u64 m.seq, .int .u64 m.pos, .int .i64 m.count, .int .i64 m.state, .slice a1 m.streams.length c1, .slice a2 m.links.length c2, .slice a3 m.data.length c3, .int .u64 m.sea.epoch, .int .u64 m.sea.node, .int .u64 m.sea.tail, .int .u64 m.proj.epoch, .slice a4 m.proj.stripes.length c4] 32)).alloc (.cells #[.int .i64 o.kind, .int .u64 o.epoch, .int .u64 o.seq, .int .u64 o.pos, .int .i64 o.count, .int .i64 o.state, .slice b1 o.streams.length d1, .slice b2 o.links.length d2, .slice b3 o.data.length d3, .int .u64 o.sea.epoch, .int .u64 o.sea.node, .int .u64 o.sea.tail, .int .u64 o.proj.epoch, .slice b4 o.proj.stripes.length d4] 32)) := by (repeat (first | exact Below.refl _ _ | assumption | (refine below_alloc ?_ _) | (refine Below.setCell ?_ (by first | omega | (simp; done) | (simp; omega)) _) | (refine Below.drew ?_) | (refine below_drewN ?_ _) | (refine below_then (by assumption) ?_)))
  have HBM : Hid (Blk ((w.alloc (.cells #[.int .i64 m.kind, .int .u64 m.epoch, .int .u64 m.seq, .int .u64 m.pos, .int .i64 m.count, .int .i64 m.state, .slice a1 m.streams.length c1, .slice a2 m.links.length c2, .slice a3 m.data.length c3, .int .u64 m.sea.epoch, .int .u64 m.sea.node, .int .u64 m.sea.tail, .int .u64 m.proj.epoch, .slice a4 m.proj.stripes.length c4] 32)).alloc (.cells #[.int .i64 o.kind, .int .u64 o.epoch, .int .u64 o.seq, .int .u64 o.pos, .int .i64 o.count, .int .i64 o.state, .slice b1 o.streams.length d1, .slice b2 o.links.length d2, .slice b3 o.data.length d3, .int .u64 o.sea.epoch, .int .u64 o.sea.node, .int .u64 o.sea.tail, .int .u64 o.proj.epoch, .slice b4 o.proj.stripes.length d4] 32)) w.heap.size 32 #[.int .i64 m.kind, .int .u64 m.epoch, .int .u64 m.seq, .int .u64 m.pos, .int .i64 m.count, .int .i64 m.state, .slice a1 m.streams.length c1, .slice a2 m.links.length c2, .slice a3 m.data.length c3, .int .u64 m.sea.epoch, .int .u64 m.sea.node, .int .u64 m.sea.tail, .int .u64 m.proj.epoch, .slice a4 m.proj.stripes.length c4]) := hid ((Blk.new w _ _).alloc _)
  have HBO : Hid (Blk ((w.alloc (.cells #[.int .i64 m.kind, .int .u64 m.epoch, .int .u64 m.seq, .int .u64 m.pos, .int .i64 m.count, .int .i64 m.state, .slice a1 m.streams.length c1, .slice a2 m.links.length c2, .slice a3 m.data.length c3, .int .u64 m.sea.epoch, .int .u64 m.sea.node, .int .u64 m.sea.tail, .int .u64 m.proj.epoch, .slice a4 m.proj.stripes.length c4] 32)).alloc (.cells #[.int .i64 o.kind, .int .u64 o.epoch, .int .u64 o.seq, .int .u64 o.pos, .int .i64 o.count, .int .i64 o.state, .slice b1 o.streams.length d1, .slice b2 o.links.length d2, .slice b3 o.data.length d3, .int .u64 o.sea.epoch, .int .u64 o.sea.node, .int .u64 o.sea.tail, .int .u64 o.proj.epoch, .slice b4 o.proj.stripes.length d4] 32)) (w.heap.size + 1) 32 #[.int .i64 o.kind, .int .u64 o.epoch, .int .u64 o.seq, .int .u64 o.pos, .int .i64 o.count, .int .i64 o.state, .slice b1 o.streams.length d1, .slice b2 o.links.length d2, .slice b3 o.data.length d3, .int .u64 o.sea.epoch, .int .u64 o.sea.node, .int .u64 o.sea.tail, .int .u64 o.proj.epoch, .slice b4 o.proj.stripes.length d4]) := hid (Blk.new1 w _ _ _)
  cases hlm : long28 m
  · rw [hlm] at HLM
    cases hlo : long28 o
    · rw [hlo] at HLO
      have hsm := long28_no hlm
      have hbk : ∀ x ∈ m.links, x.backs.length ≤ 1000000 := fun x hx => by have := hsm.backs x hx; omega
      have HBY := hid (fun (W : World) (hW : Below w.heap.size w W) => body_bytes W m a1 c1 a2 c2 a3 c3 a4 c4 (MsgIn.lift hm hW) hbk (by have := hsm.data; omega))
      have HRT := hid (fun (W : World) (hW : Below w.heap.size w W) => body_right m a1 c1 a2 c2 a3 c3 a4 c4 W (MsgIn.lift hm hW) (fun x hx => by have := hbk x hx; omega))
      have HRR := hid (fun (W : World) (hW : Below w.heap.size w W) => ref28_right m a1 c1 a2 c2 a3 c3 a4 c4 W (MsgIn.lift hm hW))
      have HSM := hid (fun (W : World) (hW : Below w.heap.size w W) => body_same m o a1 c1 a2 c2 a3 c3 a4 c4 b1 d1 b2 d2 b3 d3 b4 d4 W (MsgIn.lift hm hW) (MsgIn.lift ho hW))
      have HSR := hid (fun (W : World) (hW : Below w.heap.size w W) => ref28_same m o a1 c1 a2 c2 a3 c3 a4 c4 b1 d1 b2 d2 b3 d3 b4 d4 W (MsgIn.lift hm hW) (MsgIn.lift ho hW))
      have HCP := hid (fun (W : World) (hW : Below w.heap.size w W) => body_copy m a1 c1 a2 c2 a3 c3 a4 c4 W (MsgIn.lift hm hW) (by have := hsm.streams; omega) (by have := hsm.links; omega) (fun x hx => by have := hsm.backs x hx; omega) (by have := hsm.data; omega) (by have := hsm.stripes; omega) (fun s hs => ⟨by have := (hsm.sets s hs).1; omega, fun x hx => by have := (hsm.sets s hs).2 x hx; omega⟩))
      have HSC := hid (fun (W : World) (hW : Below w.heap.size w W) (g1 : Option Addr) (h1' : Nat) (g2 : Option Addr) (h2' : Nat) (g3 : Option Addr) (h3' : Nat) (g4 : Option Addr) (h4' : Nat) (hC : MsgIn (· < W.heap.size) W m g1 h1' g2 h2' g3 h3' g4 h4') => (by have := ref28_same m m g1 h1' g2 h2' g3 h3' g4 h4' a1 c1 a2 c2 a3 c3 a4 c4 W hC (MsgIn.lift hm hW); rw [decide_eq_true (rfl : m = m)] at this; exact this : Calls Tryz.prog 22 #[.agg #[.int .i64 m.kind, .int .u64 m.epoch, .int .u64 m.seq, .int .u64 m.pos, .int .i64 m.count, .int .i64 m.state, .slice g1 m.streams.length h1', .slice g2 m.links.length h2', .slice g3 m.data.length h3', .int .u64 m.sea.epoch, .int .u64 m.sea.node, .int .u64 m.sea.tail, .int .u64 m.proj.epoch, .slice g4 m.proj.stripes.length h4'], .agg #[.int .i64 m.kind, .int .u64 m.epoch, .int .u64 m.seq, .int .u64 m.pos, .int .i64 m.count, .int .i64 m.state, .slice a1 m.streams.length c1, .slice a2 m.links.length c2, .slice a3 m.data.length c3, .int .u64 m.sea.epoch, .int .u64 m.sea.node, .int .u64 m.sea.tail, .int .u64 m.proj.epoch, .slice a4 m.proj.stripes.length c4]] W fun r w' => r = .returned (.bool true) ∧ Below W.heap.size W w'))
      unfold msgBytes at HBY
      have hdl := hsm.data
      generalize decide (m = o) = Q at *
      cases hR : msgR m
      · rw [hR] at HRT HRR HBY
        simp only [Bool.false_eq_true, if_false] at HBY
        have HPUT := hid (fun (W : World) {g base : Nat} {a : Option Addr} {c : Nat} (h : PenAt W g base 131072 [] a c) (hW : Below w.heap.size w W) => body_put_bad W h m a1 c1 a2 c2 a3 c3 a4 c4 (MsgIn.lift hm hW) hbk hR)
        clear hm ho hlm hlo hsm hbk hR
        as_aux_lemma =>
          go_enter Tryz.func3, Tryz.ntmps3
          go_wp2_with fail
          generalize (w.alloc (.cells #[.int .i64 m.kind, .int .u64 m.epoch, .int .u64 m.seq, .int .u64 m.pos, .int .i64 m.count, .int .i64 m.state, .slice a1 m.streams.length c1, .slice a2 m.links.length c2, .slice a3 m.data.length c3, .int .u64 m.sea.epoch, .int .u64 m.sea.node, .int .u64 m.sea.tail, .int .u64 m.proj.epoch, .slice a4 m.proj.stripes.length c4] 32)).alloc (.cells #[.int .i64 o.kind, .int .u64 o.epoch, .int .u64 o.seq, .int .u64 o.pos, .int .i64 o.count, .int .i64 o.state, .slice b1 o.streams.length d1, .slice b2 o.links.length d2, .slice b3 o.data.length d3, .int .u64 o.sea.epoch, .int .u64 o.sea.node, .int .u64 o.sea.tail, .int .u64 o.proj.epoch, .slice b4 o.proj.stripes.length d4] 32) = w0 at *
          refine (HLM.out _ hb0).mono ?_
          rintro r w1 ⟨rfl, hb1⟩
          have hbw1 := below_then hb1 hb0
          have B1 := HBM.out.later hb1
          have O1 := HBO.out.later hb1
          clear hb1
          have z0 : w1.cell? ⟨(w.heap.size + 1), 0, none⟩ = some (.int .i64 o.kind) := O1.cell 0
          have z1 : w1.cell? ⟨(w.heap.size + 1), 1, none⟩ = some (.int .u64 o.epoch) := O1.cell 1
          have z2 : w1.cell? ⟨(w.heap.size + 1), 2, none⟩ = some (.int .u64 o.seq) := O1.cell 2
          have z3 : w1.cell? ⟨(w.heap.size + 1), 3, none⟩ = some (.int .u64 o.pos) := O1.cell 3
          have z4 : w1.cell? ⟨(w.heap.size + 1), 4, none⟩ = some (.int .i64 o.count) := O1.cell 4
          have z5 : w1.cell? ⟨(w.heap.size + 1), 5, none⟩ = some (.int .i64 o.state) := O1.cell 5
          have z6 : w1.cell? ⟨(w.heap.size + 1), 6, none⟩ = some (.slice b1 o.streams.length d1) := O1.cell 6
          have z7 : w1.cell? ⟨(w.heap.size + 1), 7, none⟩ = some (.slice b2 o.links.length d2) := O1.cell 7
          have z8 : w1.cell? ⟨(w.heap.size + 1), 8, none⟩ = some (.slice b3 o.data.length d3) := O1.cell 8
          have z9 : w1.cell? ⟨(w.heap.size + 1), 9, none⟩ = some (.int .u64 o.sea.epoch) := O1.cell 9
          have z10 : w1.cell? ⟨(w.heap.size + 1), 10, none⟩ = some (.int .u64 o.sea.node) := O1.cell 10
          have z11 : w1.cell? ⟨(w.heap.size + 1), 11, none⟩ = some (.int .u64 o.sea.tail) := O1.cell 11
          have z12 : w1.cell? ⟨(w.heap.size + 1), 12, none⟩ = some (.int .u64 o.proj.epoch) := O1.cell 12
          have z13 : w1.cell? ⟨(w.heap.size + 1), 13, none⟩ = some (.slice b4 o.proj.stripes.length d4) := O1.cell 13
          have lz := O1.lt
          go_wp2_with fail
          refine (HLO.out _ hbw1).mono ?_
          rintro r w2 ⟨rfl, hb2⟩
          have B2 := B1.later hb2
          have O2 := O1.later hb2
          have hbw2 := below_then hb2 hbw1
          clear B1 O1 hb2 z0 z1 z2 z3 z4 z5 z6 z7 z8 z9 z10 z11 z12 z13 lz
          have y0 : w2.cell? ⟨w.heap.size, 0, none⟩ = some (.int .i64 m.kind) := B2.cell 0
          have y1 : w2.cell? ⟨w.heap.size, 1, none⟩ = some (.int .u64 m.epoch) := B2.cell 1
          have y2 : w2.cell? ⟨w.heap.size, 2, none⟩ = some (.int .u64 m.seq) := B2.cell 2
          have y3 : w2.cell? ⟨w.heap.size, 3, none⟩ = some (.int .u64 m.pos) := B2.cell 3
          have y4 : w2.cell? ⟨w.heap.size, 4, none⟩ = some (.int .i64 m.count) := B2.cell 4
          have y5 : w2.cell? ⟨w.heap.size, 5, none⟩ = some (.int .i64 m.state) := B2.cell 5
          have y6 : w2.cell? ⟨w.heap.size, 6, none⟩ = some (.slice a1 m.streams.length c1) := B2.cell 6
          have y7 : w2.cell? ⟨w.heap.size, 7, none⟩ = some (.slice a2 m.links.length c2) := B2.cell 7
          have y8 : w2.cell? ⟨w.heap.size, 8, none⟩ = some (.slice a3 m.data.length c3) := B2.cell 8
          have y9 : w2.cell? ⟨w.heap.size, 9, none⟩ = some (.int .u64 m.sea.epoch) := B2.cell 9
          have y10 : w2.cell? ⟨w.heap.size, 10, none⟩ = some (.int .u64 m.sea.node) := B2.cell 10
          have y11 : w2.cell? ⟨w.heap.size, 11, none⟩ = some (.int .u64 m.sea.tail) := B2.cell 11
          have y12 : w2.cell? ⟨w.heap.size, 12, none⟩ = some (.int .u64 m.proj.epoch) := B2.cell 12
          have y13 : w2.cell? ⟨w.heap.size, 13, none⟩ = some (.slice a4 m.proj.stripes.length c4) := B2.cell 13
          have ly := B2.lt
          go_wp2_with fail
          refine (HBY.out _ hbw2).mono ?_
          rintro r w3 ⟨v3, rfl, hr3, hb3⟩
          obtain ⟨e3, k3, hv3, hr3', _⟩ := sl_form hr3
          simp only [List.cons.injEq, and_true] at hv3
          subst hv3
          have HS3 := hid (rBytes.mono hr3' (S' := (· < w3.heap.size)) fun q hq => hq.2)
          have hbw3 := below_then hb3 hbw2
          have B3 := B2.later hb3
          have O3 := O2.later hb3
          have HN := hid (pen_new w3 131072 (by omega))
          clear hr3 hr3' B2 O2 y0 y1 y2 y3 y4 y5 y6 y7 y8 y9 y10 y11 y12 y13 ly
          go_wp2_with fail
          refine HN.out.mono ?_
          rintro r w4 ⟨rfl, hp4, hb4⟩
          have B4 := B3.later hb4
          have O4 := O3.later hb4
          have hbw4 := below_then hb4 hbw3
          have hs4 := hb4.size
          have hlm3 := B3.lt
          have hlo3 := O3.lt
          have y0 : w4.cell? ⟨w.heap.size, 0, none⟩ = some (.int .i64 m.kind) := B4.cell 0
          have y1 : w4.cell? ⟨w.heap.size, 1, none⟩ = some (.int .u64 m.epoch) := B4.cell 1
          have y2 : w4.cell? ⟨w.heap.size, 2, none⟩ = some (.int .u64 m.seq) := B4.cell 2
          have y3 : w4.cell? ⟨w.heap.size, 3, none⟩ = some (.int .u64 m.pos) := B4.cell 3
          have y4 : w4.cell? ⟨w.heap.size, 4, none⟩ = some (.int .i64 m.count) := B4.cell 4
          have y5 : w4.cell? ⟨w.heap.size, 5, none⟩ = some (.int .i64 m.state) := B4.cell 5
          have y6 : w4.cell? ⟨w.heap.size, 6, none⟩ = some (.slice a1 m.streams.length c1) := B4.cell 6
          have y7 : w4.cell? ⟨w.heap.size, 7, none⟩ = some (.slice a2 m.links.length c2) := B4.cell 7
          have y8 : w4.cell? ⟨w.heap.size, 8, none⟩ = some (.slice a3 m.data.length c3) := B4.cell 8
          have y9 : w4.cell? ⟨w.heap.size, 9, none⟩ = some (.int .u64 m.sea.epoch) := B4.cell 9
          have y10 : w4.cell? ⟨w.heap.size, 10, none⟩ = some (.int .u64 m.sea.node) := B4.cell 10
          have y11 : w4.cell? ⟨w.heap.size, 11, none⟩ = some (.int .u64 m.sea.tail) := B4.cell 11
          have y12 : w4.cell? ⟨w.heap.size, 12, none⟩ = some (.int .u64 m.proj.epoch) := B4.cell 12
          have y13 : w4.cell? ⟨w.heap.size, 13, none⟩ = some (.slice a4 m.proj.stripes.length c4) := B4.cell 13
          have ly := B4.lt
          have HPT := hid (HPUT.out w4 hp4 hbw4)
          clear hp4
          go_wp2_with fail
          refine HPT.out.mono ?_
          rintro r w6 ⟨rfl, hB6p, hT6⟩
          have hb35 : Below w3.heap.size w3 w6 := hb4.trans (hT6.to_below hs4 (fun q _ e => by omega))
          have hbw5 := below_then hb35 hbw3
          have B5 := B3.later hb35
          have O5 := O3.later hb35
          have hb56 : Below w6.heap.size w6 w6 := Below.refl _ _
          have HB5 := hid (pen_bytes_bad w6 (k := 3) (by omega) hB6p)
          clear hB6p hT6 y0 y1 y2 y3 y4 y5 y6 y7 y8 y9 y10 y11 y12 y13 ly B3 O3 B4 O4
          go_wp2_with fail
          refine HB5.out.mono ?_
          rintro r w6' ⟨rfl, rfl⟩
          have HS6 : Hid (rBytes.r (· < w6.heap.size) w6 [.slice none 0 0] []) := hid (empty_bytes2 rfl rfl (by omega))
          have B6 := B5.later hb56
          have O6 := O5.later hb56
          have hbw6 := below_then hb56 hbw5
          have hb36 : Below w3.heap.size w3 w6 := hb35.trans (hb56.mono hb35.size)
          have hsame := same_bytes [] [] none e3 _ 0 _ k3 w6 HS6.out (lift HS3.out hb36)
          simp only [decide_true, List.length_nil] at hsame
          have HSAME := hid hsame
          clear hsame
          go_wp2_with fail
          refine HSAME.out.mono ?_
          rintro r w6' ⟨rfl, rfl⟩
          clear HSAME
          go_wp2_with fail
          as_aux_lemma =>
            refine wp_region_held_drew (S := fun w' => Blk w' w.heap.size 32 #[.int .i64 m.kind, .int .u64 m.epoch, .int .u64 m.seq, .int .u64 m.pos, .int .i64 m.count, .int .i64 m.state, .slice a1 m.streams.length c1, .slice a2 m.links.length c2, .slice a3 m.data.length c3, .int .u64 m.sea.epoch, .int .u64 m.sea.node, .int .u64 m.sea.tail, .int .u64 m.proj.epoch, .slice a4 m.proj.stripes.length c4] ∧ Blk w' (w.heap.size + 1) 32 #[.int .i64 o.kind, .int .u64 o.epoch, .int .u64 o.seq, .int .u64 o.pos, .int .i64 o.count, .int .i64 o.state, .slice b1 o.streams.length d1, .slice b2 o.links.length d2, .slice b3 o.data.length d3, .int .u64 o.sea.epoch, .int .u64 o.sea.node, .int .u64 o.sea.tail, .int .u64 o.proj.epoch, .slice b4 o.proj.stripes.length d4]) (by kernel_rfl) ⟨B6, O6⟩ (fun hHeld => ?_)
            (try simp only [List.getElem_toArray, List.getElem_cons_zero, List.getElem_cons_succ, Act.put, List.setIfInBounds_toArray, List.set_cons_zero, List.set_cons_succ])
            refine wpAnyH_take (i := 0) (oi := _) (v := ?_) rfl (by decide +kernel) (by decide +kernel) (by decide +kernel) (fun _ _ _ h => h) (Or.inl ⟨by kernel_rfl, ?_⟩) (by assumption) ?_
            rotate_left
            · (intro w hSw; (try dsimp only at hSw); (have q := m_blk hSw.1; obtain ⟨q0, q1, q2, q3, q4, q5, q6, q7, q8, q9, q10, q11, q12, q13, ql⟩ := q); go_simp <;> with_reducible rfl)
            (try simp only [Act.put, List.setIfInBounds_toArray, List.set_cons_zero, List.set_cons_succ])
            refine wpAnyH_take (i := 2) (oi := _) (v := ?_) rfl (by decide +kernel) (by decide +kernel) (by decide +kernel) (fun _ _ _ h => h) (Or.inl ⟨by kernel_rfl, ?_⟩) (by assumption) ?_
            rotate_left
            · (intro w hSw; (try dsimp only at hSw); (have q := m_blk hSw.1; obtain ⟨q0, q1, q2, q3, q4, q5, q6, q7, q8, q9, q10, q11, q12, q13, ql⟩ := q); go_simp <;> with_reducible rfl)
            (try simp only [Act.put, List.setIfInBounds_toArray, List.set_cons_zero, List.set_cons_succ])
            (try simp only [List.getElem_toArray, List.getElem_cons_zero, List.getElem_cons_succ, Act.put, List.setIfInBounds_toArray, List.set_cons_zero, List.set_cons_succ])
            refine wpAnyH_ready (rs := [1]) (by decide +kernel) (by simp) ?_
            refine AllReadyH.cons (o := _) rfl (fun K hK => ?_) AllReadyH.nil
            (go_simp; go_at_call 19; refine (HRT.out w6.drew (below_then (Below.refl _ _).drew hbw6)).mono ?_; rintro e1 w7 ⟨rfl, hb7⟩; have hb67 : Below w6.heap.size w6 w7 := below_then hb7 (Below.refl _ _).drew; have B7 := B6.later hb67; have O7 := O6.later hb67; have hbw7 := below_then hb67 hbw6; clear B6 O6 hb7; (try dsimp only))
            refine hK.out _ _ ?_ (fun hHeld => ?_)
            · ((try dsimp only); first | exact ⟨by assumption, by assumption⟩ | exact ⟨Blk.drew (by assumption), Blk.drew (by assumption)⟩)
            clear hK K
            (try simp only [Act.put, List.setIfInBounds_toArray, List.set_cons_zero, List.set_cons_succ])
            refine wpAnyH_ready (rs := [3]) (by decide +kernel) (by simp) ?_
            refine AllReadyH.cons (o := _) rfl (fun K hK => ?_) AllReadyH.nil
            (go_simp; go_at_call 20; refine (HRR.out w7 hbw7).mono ?_; rintro e1 w8 ⟨rfl, hb8⟩; have B8 := B7.later hb8; have O8 := O7.later hb8; have hbw8 := below_then hb8 hbw7; have hb68 := below_then hb8 hb67; clear B7 O7 hb8; (try dsimp only))
            refine hK.out _ _ ?_ (fun hHeld => ?_)
            · ((try dsimp only); first | exact ⟨by assumption, by assumption⟩ | exact ⟨Blk.drew (by assumption), Blk.drew (by assumption)⟩)
            clear hK K
            (try simp only [Act.put, List.setIfInBounds_toArray, List.set_cons_zero, List.set_cons_succ])
            (try simp only [List.getElem_toArray, List.getElem_cons_zero, List.getElem_cons_succ, Act.put, List.setIfInBounds_toArray, List.set_cons_zero, List.set_cons_succ])
            refine wpAnyH_take (i := 4) (oi := _) (v := ?_) rfl (by decide +kernel) (by decide +kernel) (by decide +kernel) (fun _ _ _ h => h) (Or.inl ⟨by rfl, ?_⟩) (by assumption) ?_
            rotate_left
            · (intro w hSw; (try dsimp only at hSw); go_simp <;> with_reducible rfl)
            (try simp only [Act.put, List.setIfInBounds_toArray, List.set_cons_zero, List.set_cons_succ])
            refine wpAnyH_take (i := 5) (oi := _) (v := ?_) rfl (by decide +kernel) (by decide +kernel) (by decide +kernel) (fun _ _ _ h => h) (Or.inl ⟨by rfl, ?_⟩) (by assumption) ?_
            rotate_left
            · (intro w hSw; (try dsimp only at hSw); go_simp <;> with_reducible rfl)
            (try simp only [Act.put, List.setIfInBounds_toArray, List.set_cons_zero, List.set_cons_succ])
            (try simp only [List.getElem_toArray, List.getElem_cons_zero, List.getElem_cons_succ, Act.put, List.setIfInBounds_toArray, List.set_cons_zero, List.set_cons_succ])
            refine wpAnyH_take (i := 6) (oi := _) (v := ?_) rfl (by decide +kernel) (by decide +kernel) (by decide +kernel) (fun _ _ _ h => h) (Or.inl ⟨by kernel_rfl, ?_⟩) (by assumption) ?_
            rotate_left
            · (intro w hSw; (try dsimp only at hSw); (have q := m_blk hSw.1; obtain ⟨q0, q1, q2, q3, q4, q5, q6, q7, q8, q9, q10, q11, q12, q13, ql⟩ := q); go_simp <;> with_reducible rfl)
            (try simp only [Act.put, List.setIfInBounds_toArray, List.set_cons_zero, List.set_cons_succ])
            (try simp only [List.getElem_toArray, List.getElem_cons_zero, List.getElem_cons_succ, Act.put, List.setIfInBounds_toArray, List.set_cons_zero, List.set_cons_succ])
            refine wpAnyH_take (i := 7) (oi := _) (v := ?_) rfl (by decide +kernel) (by decide +kernel) (by decide +kernel) (fun _ _ _ h => h) (Or.inl ⟨by kernel_rfl, ?_⟩) (by assumption) ?_
            rotate_left
            · (intro w hSw; (try dsimp only at hSw); (have q := m_blk hSw.2; obtain ⟨q0, q1, q2, q3, q4, q5, q6, q7, q8, q9, q10, q11, q12, q13, ql⟩ := q); go_simp <;> with_reducible rfl)
            (try simp only [Act.put, List.setIfInBounds_toArray, List.set_cons_zero, List.set_cons_succ])
            (try simp only [List.getElem_toArray, List.getElem_cons_zero, List.getElem_cons_succ, Act.put, List.setIfInBounds_toArray, List.set_cons_zero, List.set_cons_succ])
            refine wpAnyH_take (i := 9) (oi := _) (v := ?_) rfl (by decide +kernel) (by decide +kernel) (by decide +kernel) (fun _ _ _ h => h) (Or.inl ⟨by kernel_rfl, ?_⟩) (by assumption) ?_
            rotate_left
            · (intro w hSw; (try dsimp only at hSw); (have q := m_blk hSw.1; obtain ⟨q0, q1, q2, q3, q4, q5, q6, q7, q8, q9, q10, q11, q12, q13, ql⟩ := q); go_simp <;> with_reducible rfl)
            (try simp only [Act.put, List.setIfInBounds_toArray, List.set_cons_zero, List.set_cons_succ])
            (try simp only [List.getElem_toArray, List.getElem_cons_zero, List.getElem_cons_succ, Act.put, List.setIfInBounds_toArray, List.set_cons_zero, List.set_cons_succ])
            refine wpAnyH_take (i := 10) (oi := _) (v := ?_) rfl (by decide +kernel) (by decide +kernel) (by decide +kernel) (fun _ _ _ h => h) (Or.inl ⟨by kernel_rfl, ?_⟩) (by assumption) ?_
            rotate_left
            · (intro w hSw; (try dsimp only at hSw); (have q := m_blk hSw.2; obtain ⟨q0, q1, q2, q3, q4, q5, q6, q7, q8, q9, q10, q11, q12, q13, ql⟩ := q); go_simp <;> with_reducible rfl)
            (try simp only [Act.put, List.setIfInBounds_toArray, List.set_cons_zero, List.set_cons_succ])
            (try simp only [List.getElem_toArray, List.getElem_cons_zero, List.getElem_cons_succ, Act.put, List.setIfInBounds_toArray, List.set_cons_zero, List.set_cons_succ])
            as_aux_lemma =>
              refine wpAnyH_ready (rs := [8]) (by decide +kernel) (by simp) ?_
              refine AllReadyH.cons (o := _) rfl (fun K hK => ?_) AllReadyH.nil
              (go_simp; go_at_call 21; refine (HSM.out w8 hbw8).mono ?_; rintro e1 w9 ⟨rfl, hb9⟩; have B9 := B8.later hb9; have O9 := O8.later hb9; have hbw9 := below_then hb9 hbw8; have hb69 := below_then hb9 hb68; clear B8 O8 hb9; (try dsimp only))
              refine hK.out _ _ ?_ (fun hHeld => ?_)
              · ((try dsimp only); first | exact ⟨by assumption, by assumption⟩ | exact ⟨Blk.drew (by assumption), Blk.drew (by assumption)⟩)
              clear hK K
              (try simp only [Act.put, List.setIfInBounds_toArray, List.set_cons_zero, List.set_cons_succ])
              (try simp only [List.getElem_toArray, List.getElem_cons_zero, List.getElem_cons_succ, Act.put, List.setIfInBounds_toArray, List.set_cons_zero, List.set_cons_succ])
              refine wpAnyH_ready (rs := [11]) (by decide +kernel) (by simp) ?_
              refine AllReadyH.cons (o := _) rfl (fun K hK => ?_) AllReadyH.nil
              (go_simp; go_at_call 22; refine (HSR.out w9 hbw9).mono ?_; rintro e1 w10 ⟨rfl, hb10⟩; have B10 := B9.later hb10; have O10 := O9.later hb10; have hbw10 := below_then hb10 hbw9; have hb610 := below_then hb10 hb69; clear B9 O9 hb10; (try dsimp only))
              refine hK.out _ _ ?_ (fun hHeld => ?_)
              · ((try dsimp only); first | exact ⟨by assumption, by assumption⟩ | exact ⟨Blk.drew (by assumption), Blk.drew (by assumption)⟩)
              clear hK K
              (try simp only [Act.put, List.setIfInBounds_toArray, List.set_cons_zero, List.set_cons_succ])
              (try simp only [List.getElem_toArray, List.getElem_cons_zero, List.getElem_cons_succ, Act.put, List.setIfInBounds_toArray, List.set_cons_zero, List.set_cons_succ])
              refine wpAnyH_take (i := 12) (oi := _) (v := ?_) rfl (by decide +kernel) (by decide +kernel) (by decide +kernel) (fun _ _ _ h => h) (Or.inl ⟨by kernel_rfl, ?_⟩) (by assumption) ?_
              rotate_left
              · (intro w hSw; (try dsimp only at hSw); go_simp <;> with_reducible rfl)
              (try simp only [Act.put, List.setIfInBounds_toArray, List.set_cons_zero, List.set_cons_succ])
              refine wpAnyH_take (i := 13) (oi := _) (v := ?_) rfl (by decide +kernel) (by decide +kernel) (by decide +kernel) (fun _ _ _ h => h) (Or.inl ⟨by kernel_rfl, ?_⟩) (by assumption) ?_
              rotate_left
              · (intro w hSw; (try dsimp only at hSw); go_simp <;> with_reducible rfl)
              (try simp only [Act.put, List.setIfInBounds_toArray, List.set_cons_zero, List.set_cons_succ])
              refine wpAnyH_take (i := 14) (oi := _) (v := ?_) rfl (by decide +kernel) (by decide +kernel) (by decide +kernel) (fun _ _ _ h => h) (Or.inl ⟨by kernel_rfl, ?_⟩) (by assumption) ?_
              rotate_left
              · (intro w hSw; (try dsimp only at hSw); go_simp <;> with_reducible rfl)
              (try simp only [Act.put, List.setIfInBounds_toArray, List.set_cons_zero, List.set_cons_succ])
              (try simp only [List.getElem_toArray, List.getElem_cons_zero, List.getElem_cons_succ, Act.put, List.setIfInBounds_toArray, List.set_cons_zero, List.set_cons_succ])
              refine wpAnyH_take (i := 15) (oi := _) (v := ?_) rfl (by decide +kernel) (by decide +kernel) (by decide +kernel) (fun _ _ _ h => h) (Or.inl ⟨by kernel_rfl, ?_⟩) (by assumption) ?_
              rotate_left
              · (intro w hSw; (try dsimp only at hSw); (have q := m_blk hSw.1; obtain ⟨q0, q1, q2, q3, q4, q5, q6, q7, q8, q9, q10, q11, q12, q13, ql⟩ := q); go_simp <;> with_reducible rfl)
              (try simp only [Act.put, List.setIfInBounds_toArray, List.set_cons_zero, List.set_cons_succ])
              (try simp only [List.getElem_toArray, List.getElem_cons_zero, List.getElem_cons_succ, Act.put, List.setIfInBounds_toArray, List.set_cons_zero, List.set_cons_succ])
              refine wpAnyH_take (i := 17) (oi := _) (v := ?_) rfl (by decide +kernel) (by decide +kernel) (by decide +kernel) (fun _ _ _ h => h) (Or.inl ⟨by kernel_rfl, ?_⟩) (by assumption) ?_
              rotate_left
              · (intro w hSw; (try dsimp only at hSw); (have q := m_blk hSw.1; obtain ⟨q0, q1, q2, q3, q4, q5, q6, q7, q8, q9, q10, q11, q12, q13, ql⟩ := q); go_simp <;> with_reducible rfl)
              (try simp only [Act.put, List.setIfInBounds_toArray, List.set_cons_zero, List.set_cons_succ])
              (try simp only [List.getElem_toArray, List.getElem_cons_zero, List.getElem_cons_succ, Act.put, List.setIfInBounds_toArray, List.set_cons_zero, List.set_cons_succ])
              as_aux_lemma =>
                refine wpAnyH_ready (rs := [16]) (by decide +kernel) (by simp) ?_
                refine AllReadyH.cons (o := _) rfl (fun K hK => ?_) AllReadyH.nil
                (go_simp; go_at_call 23; refine (HCP.out w10 hbw10).mono ?_; rintro e1 w11 ⟨g1, h1', g2, h2', g3, h3', g4, h4', rfl, hr11, hb11⟩; have HC11 := hid hr11; have B11 := B10.later hb11; have O11 := O10.later hb11; have hbw11 := below_then hb11 hbw10; have hb611 := below_then hb11 hb610; clear B10 O10 hb11 hr11; (try dsimp only))
                refine hK.out _ _ ?_ (fun hHeld => ?_)
                · ((try dsimp only); first | exact ⟨by assumption, by assumption⟩ | exact ⟨Blk.drew (by assumption), Blk.drew (by assumption)⟩)
                clear hK K
                (try simp only [Act.put, List.setIfInBounds_toArray, List.set_cons_zero, List.set_cons_succ])
                (try simp only [List.getElem_toArray, List.getElem_cons_zero, List.getElem_cons_succ, Act.put, List.setIfInBounds_toArray, List.set_cons_zero, List.set_cons_succ])
                refine wpAnyH_ready (rs := [18]) (by decide +kernel) (by simp) ?_
                refine AllReadyH.cons (o := _) rfl (fun K hK => ?_) AllReadyH.nil
                (go_simp; go_at_call 22; refine (HSC.out w11 hbw11 g1 h1' g2 h2' g3 h3' g4 h4' HC11.out).mono ?_; rintro e1 w13 ⟨rfl, hb13⟩; have B13 := B11.later hb13; have O13 := O11.later hb13; have hbw13 := below_then hb13 hbw11; have hb613 := below_then hb13 hb611; clear B11 O11 hb13; (try dsimp only))
                refine hK.out _ _ ?_ (fun hHeld => ?_)
                · ((try dsimp only); first | exact ⟨by assumption, by assumption⟩ | exact ⟨Blk.drew (by assumption), Blk.drew (by assumption)⟩)
                clear hK K
                (try simp only [Act.put, List.setIfInBounds_toArray, List.set_cons_zero, List.set_cons_succ])
                (try simp only [List.getElem_toArray, List.getElem_cons_zero, List.getElem_cons_succ, Act.put, List.setIfInBounds_toArray, List.set_cons_zero, List.set_cons_succ])
                refine wpAnyH_take (i := 19) (oi := _) (v := ?_) rfl (by decide +kernel) (by decide +kernel) (by decide +kernel) (fun _ _ _ h => h) (Or.inl ⟨by kernel_rfl, ?_⟩) (by assumption) ?_
                rotate_left
                · (intro w hSw; (try dsimp only at hSw); go_simp <;> with_reducible rfl)
                (try simp only [Act.put, List.setIfInBounds_toArray, List.set_cons_zero, List.set_cons_succ])
                refine wpAnyH_take (i := 20) (oi := _) (v := ?_) rfl (by decide +kernel) (by decide +kernel) (by decide +kernel) (fun _ _ _ h => h) (Or.inl ⟨by kernel_rfl, ?_⟩) (by assumption) ?_
                rotate_left
                · (intro w hSw; (try dsimp only at hSw); go_simp <;> with_reducible rfl)
                (try simp only [Act.put, List.setIfInBounds_toArray, List.set_cons_zero, List.set_cons_succ])
                (try simp only [List.getElem_toArray, List.getElem_cons_zero, List.getElem_cons_succ, Act.put, List.setIfInBounds_toArray, List.set_cons_zero, List.set_cons_succ])
                refine wpAnyH_done (by kernel_rfl) ?_ _
                as_aux_lemma =>
                  have y0 : w13.cell? ⟨w.heap.size, 0, none⟩ = some (.int .i64 m.kind) := B13.cell 0
                  have y1 : w13.cell? ⟨w.heap.size, 1, none⟩ = some (.int .u64 m.epoch) := B13.cell 1
                  have y2 : w13.cell? ⟨w.heap.size, 2, none⟩ = some (.int .u64 m.seq) := B13.cell 2
                  have y3 : w13.cell? ⟨w.heap.size, 3, none⟩ = some (.int .u64 m.pos) := B13.cell 3
                  have y4 : w13.cell? ⟨w.heap.size, 4, none⟩ = some (.int .i64 m.count) := B13.cell 4
                  have y5 : w13.cell? ⟨w.heap.size, 5, none⟩ = some (.int .i64 m.state) := B13.cell 5
                  have y6 : w13.cell? ⟨w.heap.size, 6, none⟩ = some (.slice a1 m.streams.length c1) := B13.cell 6
                  have y7 : w13.cell? ⟨w.heap.size, 7, none⟩ = some (.slice a2 m.links.length c2) := B13.cell 7
                  have y8 : w13.cell? ⟨w.heap.size, 8, none⟩ = some (.slice a3 m.data.length c3) := B13.cell 8
                  have y9 : w13.cell? ⟨w.heap.size, 9, none⟩ = some (.int .u64 m.sea.epoch) := B13.cell 9
                  have y10 : w13.cell? ⟨w.heap.size, 10, none⟩ = some (.int .u64 m.sea.node) := B13.cell 10
                  have y11 : w13.cell? ⟨w.heap.size, 11, none⟩ = some (.int .u64 m.sea.tail) := B13.cell 11
                  have y12 : w13.cell? ⟨w.heap.size, 12, none⟩ = some (.int .u64 m.proj.epoch) := B13.cell 12
                  have y13 : w13.cell? ⟨w.heap.size, 13, none⟩ = some (.slice a4 m.proj.stripes.length c4) := B13.cell 13
                  have ly := B13.lt
                  have hb313 := below_then hb613 hb36
                  go_wp2_with fail
                  refine (HRR.out w13 hbw13).mono ?_
                  rintro r w14 ⟨rfl, hb14⟩
                  have B14 := B13.later hb14
                  have hbw14 := below_then hb14 hbw13
                  have hb314 := below_then hb14 hb313
                  clear y0 y1 y2 y3 y4 y5 y6 y7 y8 y9 y10 y11 y12 y13 ly B13 O13 hb14
                  go_wp2_with fail
                  refine (live28 _).mono ?_
                  rintro r w99 ⟨rfl, hb99⟩
                  have hbe := below_then hb99 hbw14
                  go_wp2_with fail
                  go_ret
                  exact ⟨rfl, hbe⟩
      · rw [hR] at HRT HRR HBY
        simp only [if_true] at HBY
        have hbl := msgB_len hR
        have HRB := hid (fun (W : World) (hW : Below w.heap.size w W) => ref28_bytes W m a1 c1 a2 c2 a3 c3 a4 c4 (MsgIn.lift hm hW) hbk hR)
        have HPUT := hid (fun (W : World) {g base : Nat} {a : Option Addr} {c : Nat} (h : PenAt W g base 131072 [] a c) (hW : MsgIn (fun q => q < W.heap.size ∧ ¬ PenF g a q) W m a1 c1 a2 c2 a3 c3 a4 c4) => body_put W h m a1 c1 a2 c2 a3 c3 a4 c4 hW hbk hR (by simp; omega) (by simp; omega))
        generalize msgB m = K at *
        clear hm ho hlm hlo hsm hbk hR hbl
        as_aux_lemma =>
          go_enter Tryz.func3, Tryz.ntmps3
          go_wp2_with fail
          generalize (w.alloc (.cells #[.int .i64 m.kind, .int .u64 m.epoch, .int .u64 m.seq, .int .u64 m.pos, .int .i64 m.count, .int .i64 m.state, .slice a1 m.streams.length c1, .slice a2 m.links.length c2, .slice a3 m.data.length c3, .int .u64 m.sea.epoch, .int .u64 m.sea.node, .int .u64 m.sea.tail, .int .u64 m.proj.epoch, .slice a4 m.proj.stripes.length c4] 32)).alloc (.cells #[.int .i64 o.kind, .int .u64 o.epoch, .int .u64 o.seq, .int .u64 o.pos, .int .i64 o.count, .int .i64 o.state, .slice b1 o.streams.length d1, .slice b2 o.links.length d2, .slice b3 o.data.length d3, .int .u64 o.sea.epoch, .int .u64 o.sea.node, .int .u64 o.sea.tail, .int .u64 o.proj.epoch, .slice b4 o.proj.stripes.length d4] 32) = w0 at *
          refine (HLM.out _ hb0).mono ?_
          rintro r w1 ⟨rfl, hb1⟩
          have hbw1 := below_then hb1 hb0
          have B1 := HBM.out.later hb1
          have O1 := HBO.out.later hb1
          clear hb1
          have z0 : w1.cell? ⟨(w.heap.size + 1), 0, none⟩ = some (.int .i64 o.kind) := O1.cell 0
          have z1 : w1.cell? ⟨(w.heap.size + 1), 1, none⟩ = some (.int .u64 o.epoch) := O1.cell 1
          have z2 : w1.cell? ⟨(w.heap.size + 1), 2, none⟩ = some (.int .u64 o.seq) := O1.cell 2
          have z3 : w1.cell? ⟨(w.heap.size + 1), 3, none⟩ = some (.int .u64 o.pos) := O1.cell 3
          have z4 : w1.cell? ⟨(w.heap.size + 1), 4, none⟩ = some (.int .i64 o.count) := O1.cell 4
          have z5 : w1.cell? ⟨(w.heap.size + 1), 5, none⟩ = some (.int .i64 o.state) := O1.cell 5
          have z6 : w1.cell? ⟨(w.heap.size + 1), 6, none⟩ = some (.slice b1 o.streams.length d1) := O1.cell 6
          have z7 : w1.cell? ⟨(w.heap.size + 1), 7, none⟩ = some (.slice b2 o.links.length d2) := O1.cell 7
          have z8 : w1.cell? ⟨(w.heap.size + 1), 8, none⟩ = some (.slice b3 o.data.length d3) := O1.cell 8
          have z9 : w1.cell? ⟨(w.heap.size + 1), 9, none⟩ = some (.int .u64 o.sea.epoch) := O1.cell 9
          have z10 : w1.cell? ⟨(w.heap.size + 1), 10, none⟩ = some (.int .u64 o.sea.node) := O1.cell 10
          have z11 : w1.cell? ⟨(w.heap.size + 1), 11, none⟩ = some (.int .u64 o.sea.tail) := O1.cell 11
          have z12 : w1.cell? ⟨(w.heap.size + 1), 12, none⟩ = some (.int .u64 o.proj.epoch) := O1.cell 12
          have z13 : w1.cell? ⟨(w.heap.size + 1), 13, none⟩ = some (.slice b4 o.proj.stripes.length d4) := O1.cell 13
          have lz := O1.lt
          go_wp2_with fail
          refine (HLO.out _ hbw1).mono ?_
          rintro r w2 ⟨rfl, hb2⟩
          have B2 := B1.later hb2
          have O2 := O1.later hb2
          have hbw2 := below_then hb2 hbw1
          clear B1 O1 hb2 z0 z1 z2 z3 z4 z5 z6 z7 z8 z9 z10 z11 z12 z13 lz
          have y0 : w2.cell? ⟨w.heap.size, 0, none⟩ = some (.int .i64 m.kind) := B2.cell 0
          have y1 : w2.cell? ⟨w.heap.size, 1, none⟩ = some (.int .u64 m.epoch) := B2.cell 1
          have y2 : w2.cell? ⟨w.heap.size, 2, none⟩ = some (.int .u64 m.seq) := B2.cell 2
          have y3 : w2.cell? ⟨w.heap.size, 3, none⟩ = some (.int .u64 m.pos) := B2.cell 3
          have y4 : w2.cell? ⟨w.heap.size, 4, none⟩ = some (.int .i64 m.count) := B2.cell 4
          have y5 : w2.cell? ⟨w.heap.size, 5, none⟩ = some (.int .i64 m.state) := B2.cell 5
          have y6 : w2.cell? ⟨w.heap.size, 6, none⟩ = some (.slice a1 m.streams.length c1) := B2.cell 6
          have y7 : w2.cell? ⟨w.heap.size, 7, none⟩ = some (.slice a2 m.links.length c2) := B2.cell 7
          have y8 : w2.cell? ⟨w.heap.size, 8, none⟩ = some (.slice a3 m.data.length c3) := B2.cell 8
          have y9 : w2.cell? ⟨w.heap.size, 9, none⟩ = some (.int .u64 m.sea.epoch) := B2.cell 9
          have y10 : w2.cell? ⟨w.heap.size, 10, none⟩ = some (.int .u64 m.sea.node) := B2.cell 10
          have y11 : w2.cell? ⟨w.heap.size, 11, none⟩ = some (.int .u64 m.sea.tail) := B2.cell 11
          have y12 : w2.cell? ⟨w.heap.size, 12, none⟩ = some (.int .u64 m.proj.epoch) := B2.cell 12
          have y13 : w2.cell? ⟨w.heap.size, 13, none⟩ = some (.slice a4 m.proj.stripes.length c4) := B2.cell 13
          have ly := B2.lt
          go_wp2_with fail
          refine (HBY.out _ hbw2).mono ?_
          rintro r w3 ⟨v3, rfl, hr3, hb3⟩
          obtain ⟨e3, k3, hv3, hr3', _⟩ := sl_form hr3
          simp only [List.cons.injEq, and_true] at hv3
          subst hv3
          have HS3 := hid (rBytes.mono hr3' (S' := (· < w3.heap.size)) fun q hq => hq.2)
          have hbw3 := below_then hb3 hbw2
          have B3 := B2.later hb3
          have O3 := O2.later hb3
          have HN := hid (pen_new w3 131072 (by omega))
          clear hr3 hr3' B2 O2 y0 y1 y2 y3 y4 y5 y6 y7 y8 y9 y10 y11 y12 y13 ly
          go_wp2_with fail
          refine HN.out.mono ?_
          rintro r w4 ⟨rfl, hp4, hb4⟩
          have B4 := B3.later hb4
          have O4 := O3.later hb4
          have hbw4 := below_then hb4 hbw3
          have hs4 := hb4.size
          have hlm3 := B3.lt
          have hlo3 := O3.lt
          have y0 : w4.cell? ⟨w.heap.size, 0, none⟩ = some (.int .i64 m.kind) := B4.cell 0
          have y1 : w4.cell? ⟨w.heap.size, 1, none⟩ = some (.int .u64 m.epoch) := B4.cell 1
          have y2 : w4.cell? ⟨w.heap.size, 2, none⟩ = some (.int .u64 m.seq) := B4.cell 2
          have y3 : w4.cell? ⟨w.heap.size, 3, none⟩ = some (.int .u64 m.pos) := B4.cell 3
          have y4 : w4.cell? ⟨w.heap.size, 4, none⟩ = some (.int .i64 m.count) := B4.cell 4
          have y5 : w4.cell? ⟨w.heap.size, 5, none⟩ = some (.int .i64 m.state) := B4.cell 5
          have y6 : w4.cell? ⟨w.heap.size, 6, none⟩ = some (.slice a1 m.streams.length c1) := B4.cell 6
          have y7 : w4.cell? ⟨w.heap.size, 7, none⟩ = some (.slice a2 m.links.length c2) := B4.cell 7
          have y8 : w4.cell? ⟨w.heap.size, 8, none⟩ = some (.slice a3 m.data.length c3) := B4.cell 8
          have y9 : w4.cell? ⟨w.heap.size, 9, none⟩ = some (.int .u64 m.sea.epoch) := B4.cell 9
          have y10 : w4.cell? ⟨w.heap.size, 10, none⟩ = some (.int .u64 m.sea.node) := B4.cell 10
          have y11 : w4.cell? ⟨w.heap.size, 11, none⟩ = some (.int .u64 m.sea.tail) := B4.cell 11
          have y12 : w4.cell? ⟨w.heap.size, 12, none⟩ = some (.int .u64 m.proj.epoch) := B4.cell 12
          have y13 : w4.cell? ⟨w.heap.size, 13, none⟩ = some (.slice a4 m.proj.stripes.length c4) := B4.cell 13
          have ly := B4.lt
          have HPT := hid (HPUT.out w4 hp4 (MsgIn.tr (fun A cs x hx => A.mono (A.keep hx fun q hq => hbw4.block q hq) fun q hq => ⟨by have := hbw4.size; omega, fun hf => by have := (hp4.own_lt hf).1; have := hbw3.size; omega⟩) HM.out))
          have HP4 := hid hp4
          clear hp4
          go_wp2_with fail
          refine HPT.out.mono ?_
          rintro r w5 ⟨rfl, hst⟩
          rw [List.nil_append] at hst
          have hb35 : Below w3.heap.size w3 w5 := hb4.trans (HP4.out.below (Nat.le_refl _) hs4 hst)
          have hbw5 := below_then hb35 hbw3
          have B5 := B3.later hb35
          have O5 := O3.later hb35
          obtain ⟨a5, k5, hp5, _, _⟩ := hst
          have HB5 := hid (pen_bytes w5 hp5)
          clear hp5 y0 y1 y2 y3 y4 y5 y6 y7 y8 y9 y10 y11 y12 y13 ly B3 O3 B4 O4
          go_wp2_with fail
          refine HB5.out.mono ?_
          rintro r w6 ⟨v6, rfl, hr6, hb56⟩
          obtain ⟨e6, k6, hv6, hr6', _⟩ := sl_form hr6
          simp only [List.cons.injEq, and_true] at hv6
          subst hv6
          have HS6 := hid (rBytes.mono hr6' (S' := (· < w6.heap.size)) fun q hq => hq.2)
          clear hr6 hr6'
          have B6 := B5.later hb56
          have O6 := O5.later hb56
          have hbw6 := below_then hb56 hbw5
          have hb36 : Below w3.heap.size w3 w6 := hb35.trans (hb56.mono hb35.size)
          have hsame := same_bytes K K e6 e3 _ k6 _ k3 w6 HS6.out (lift HS3.out hb36)
          simp only [decide_true] at hsame
          have HSAME := hid hsame
          clear hsame
          go_wp2_with fail
          refine HSAME.out.mono ?_
          rintro r w6' ⟨rfl, rfl⟩
          clear HSAME
          go_wp2_with fail
          as_aux_lemma =>
            refine wp_region_held_drew (S := fun w' => Blk w' w.heap.size 32 #[.int .i64 m.kind, .int .u64 m.epoch, .int .u64 m.seq, .int .u64 m.pos, .int .i64 m.count, .int .i64 m.state, .slice a1 m.streams.length c1, .slice a2 m.links.length c2, .slice a3 m.data.length c3, .int .u64 m.sea.epoch, .int .u64 m.sea.node, .int .u64 m.sea.tail, .int .u64 m.proj.epoch, .slice a4 m.proj.stripes.length c4] ∧ Blk w' (w.heap.size + 1) 32 #[.int .i64 o.kind, .int .u64 o.epoch, .int .u64 o.seq, .int .u64 o.pos, .int .i64 o.count, .int .i64 o.state, .slice b1 o.streams.length d1, .slice b2 o.links.length d2, .slice b3 o.data.length d3, .int .u64 o.sea.epoch, .int .u64 o.sea.node, .int .u64 o.sea.tail, .int .u64 o.proj.epoch, .slice b4 o.proj.stripes.length d4]) (by kernel_rfl) ⟨B6, O6⟩ (fun hHeld => ?_)
            (try simp only [List.getElem_toArray, List.getElem_cons_zero, List.getElem_cons_succ, Act.put, List.setIfInBounds_toArray, List.set_cons_zero, List.set_cons_succ])
            refine wpAnyH_take (i := 0) (oi := _) (v := ?_) rfl (by decide +kernel) (by decide +kernel) (by decide +kernel) (fun _ _ _ h => h) (Or.inl ⟨by kernel_rfl, ?_⟩) (by assumption) ?_
            rotate_left
            · (intro w hSw; (try dsimp only at hSw); (have q := m_blk hSw.1; obtain ⟨q0, q1, q2, q3, q4, q5, q6, q7, q8, q9, q10, q11, q12, q13, ql⟩ := q); go_simp <;> with_reducible rfl)
            (try simp only [Act.put, List.setIfInBounds_toArray, List.set_cons_zero, List.set_cons_succ])
            refine wpAnyH_take (i := 2) (oi := _) (v := ?_) rfl (by decide +kernel) (by decide +kernel) (by decide +kernel) (fun _ _ _ h => h) (Or.inl ⟨by kernel_rfl, ?_⟩) (by assumption) ?_
            rotate_left
            · (intro w hSw; (try dsimp only at hSw); (have q := m_blk hSw.1; obtain ⟨q0, q1, q2, q3, q4, q5, q6, q7, q8, q9, q10, q11, q12, q13, ql⟩ := q); go_simp <;> with_reducible rfl)
            (try simp only [Act.put, List.setIfInBounds_toArray, List.set_cons_zero, List.set_cons_succ])
            (try simp only [List.getElem_toArray, List.getElem_cons_zero, List.getElem_cons_succ, Act.put, List.setIfInBounds_toArray, List.set_cons_zero, List.set_cons_succ])
            refine wpAnyH_ready (rs := [1]) (by decide +kernel) (by simp) ?_
            refine AllReadyH.cons (o := _) rfl (fun K hK => ?_) AllReadyH.nil
            (go_simp; go_at_call 19; refine (HRT.out w6.drew (below_then (Below.refl _ _).drew hbw6)).mono ?_; rintro e1 w7 ⟨rfl, hb7⟩; have hb67 : Below w6.heap.size w6 w7 := below_then hb7 (Below.refl _ _).drew; have B7 := B6.later hb67; have O7 := O6.later hb67; have hbw7 := below_then hb67 hbw6; clear B6 O6 hb7; (try dsimp only))
            refine hK.out _ _ ?_ (fun hHeld => ?_)
            · ((try dsimp only); first | exact ⟨by assumption, by assumption⟩ | exact ⟨Blk.drew (by assumption), Blk.drew (by assumption)⟩)
            clear hK K
            (try simp only [Act.put, List.setIfInBounds_toArray, List.set_cons_zero, List.set_cons_succ])
            refine wpAnyH_ready (rs := [3]) (by decide +kernel) (by simp) ?_
            refine AllReadyH.cons (o := _) rfl (fun K hK => ?_) AllReadyH.nil
            (go_simp; go_at_call 20; refine (HRR.out w7 hbw7).mono ?_; rintro e1 w8 ⟨rfl, hb8⟩; have B8 := B7.later hb8; have O8 := O7.later hb8; have hbw8 := below_then hb8 hbw7; have hb68 := below_then hb8 hb67; clear B7 O7 hb8; (try dsimp only))
            refine hK.out _ _ ?_ (fun hHeld => ?_)
            · ((try dsimp only); first | exact ⟨by assumption, by assumption⟩ | exact ⟨Blk.drew (by assumption), Blk.drew (by assumption)⟩)
            clear hK K
            (try simp only [Act.put, List.setIfInBounds_toArray, List.set_cons_zero, List.set_cons_succ])
            (try simp only [List.getElem_toArray, List.getElem_cons_zero, List.getElem_cons_succ, Act.put, List.setIfInBounds_toArray, List.set_cons_zero, List.set_cons_succ])
            refine wpAnyH_take (i := 4) (oi := _) (v := ?_) rfl (by decide +kernel) (by decide +kernel) (by decide +kernel) (fun _ _ _ h => h) (Or.inl ⟨by rfl, ?_⟩) (by assumption) ?_
            rotate_left
            · (intro w hSw; (try dsimp only at hSw); go_simp <;> with_reducible rfl)
            (try simp only [Act.put, List.setIfInBounds_toArray, List.set_cons_zero, List.set_cons_succ])
            refine wpAnyH_take (i := 5) (oi := _) (v := ?_) rfl (by decide +kernel) (by decide +kernel) (by decide +kernel) (fun _ _ _ h => h) (Or.inl ⟨by rfl, ?_⟩) (by assumption) ?_
            rotate_left
            · (intro w hSw; (try dsimp only at hSw); go_simp <;> with_reducible rfl)
            (try simp only [Act.put, List.setIfInBounds_toArray, List.set_cons_zero, List.set_cons_succ])
            (try simp only [List.getElem_toArray, List.getElem_cons_zero, List.getElem_cons_succ, Act.put, List.setIfInBounds_toArray, List.set_cons_zero, List.set_cons_succ])
            refine wpAnyH_take (i := 6) (oi := _) (v := ?_) rfl (by decide +kernel) (by decide +kernel) (by decide +kernel) (fun _ _ _ h => h) (Or.inl ⟨by kernel_rfl, ?_⟩) (by assumption) ?_
            rotate_left
            · (intro w hSw; (try dsimp only at hSw); (have q := m_blk hSw.1; obtain ⟨q0, q1, q2, q3, q4, q5, q6, q7, q8, q9, q10, q11, q12, q13, ql⟩ := q); go_simp <;> with_reducible rfl)
            (try simp only [Act.put, List.setIfInBounds_toArray, List.set_cons_zero, List.set_cons_succ])
            (try simp only [List.getElem_toArray, List.getElem_cons_zero, List.getElem_cons_succ, Act.put, List.setIfInBounds_toArray, List.set_cons_zero, List.set_cons_succ])
            refine wpAnyH_take (i := 7) (oi := _) (v := ?_) rfl (by decide +kernel) (by decide +kernel) (by decide +kernel) (fun _ _ _ h => h) (Or.inl ⟨by kernel_rfl, ?_⟩) (by assumption) ?_
            rotate_left
            · (intro w hSw; (try dsimp only at hSw); (have q := m_blk hSw.2; obtain ⟨q0, q1, q2, q3, q4, q5, q6, q7, q8, q9, q10, q11, q12, q13, ql⟩ := q); go_simp <;> with_reducible rfl)
            (try simp only [Act.put, List.setIfInBounds_toArray, List.set_cons_zero, List.set_cons_succ])
            (try simp only [List.getElem_toArray, List.getElem_cons_zero, List.getElem_cons_succ, Act.put, List.setIfInBounds_toArray, List.set_cons_zero, List.set_cons_succ])
            refine wpAnyH_take (i := 9) (oi := _) (v := ?_) rfl (by decide +kernel) (by decide +kernel) (by decide +kernel) (fun _ _ _ h => h) (Or.inl ⟨by kernel_rfl, ?_⟩) (by assumption) ?_
            rotate_left
            · (intro w hSw; (try dsimp only at hSw); (have q := m_blk hSw.1; obtain ⟨q0, q1, q2, q3, q4, q5, q6, q7, q8, q9, q10, q11, q12, q13, ql⟩ := q); go_simp <;> with_reducible rfl)
            (try simp only [Act.put, List.setIfInBounds_toArray, List.set_cons_zero, List.set_cons_succ])
            (try simp only [List.getElem_toArray, List.getElem_cons_zero, List.getElem_cons_succ, Act.put, List.setIfInBounds_toArray, List.set_cons_zero, List.set_cons_succ])
            refine wpAnyH_take (i := 10) (oi := _) (v := ?_) rfl (by decide +kernel) (by decide +kernel) (by decide +kernel) (fun _ _ _ h => h) (Or.inl ⟨by kernel_rfl, ?_⟩) (by assumption) ?_
            rotate_left
            · (intro w hSw; (try dsimp only at hSw); (have q := m_blk hSw.2; obtain ⟨q0, q1, q2, q3, q4, q5, q6, q7, q8, q9, q10, q11, q12, q13, ql⟩ := q); go_simp <;> with_reducible rfl)
            (try simp only [Act.put, List.setIfInBounds_toArray, List.set_cons_zero, List.set_cons_succ])
            (try simp only [List.getElem_toArray, List.getElem_cons_zero, List.getElem_cons_succ, Act.put, List.setIfInBounds_toArray, List.set_cons_zero, List.set_cons_succ])
            as_aux_lemma =>
              refine wpAnyH_ready (rs := [8]) (by decide +kernel) (by simp) ?_
              refine AllReadyH.cons (o := _) rfl (fun K hK => ?_) AllReadyH.nil
              (go_simp; go_at_call 21; refine (HSM.out w8 hbw8).mono ?_; rintro e1 w9 ⟨rfl, hb9⟩; have B9 := B8.later hb9; have O9 := O8.later hb9; have hbw9 := below_then hb9 hbw8; have hb69 := below_then hb9 hb68; clear B8 O8 hb9; (try dsimp only))
              refine hK.out _ _ ?_ (fun hHeld => ?_)
              · ((try dsimp only); first | exact ⟨by assumption, by assumption⟩ | exact ⟨Blk.drew (by assumption), Blk.drew (by assumption)⟩)
              clear hK K
              (try simp only [Act.put, List.setIfInBounds_toArray, List.set_cons_zero, List.set_cons_succ])
              (try simp only [List.getElem_toArray, List.getElem_cons_zero, List.getElem_cons_succ, Act.put, List.setIfInBounds_toArray, List.set_cons_zero, List.set_cons_succ])
              refine wpAnyH_ready (rs := [11]) (by decide +kernel) (by simp) ?_
              refine AllReadyH.cons (o := _) rfl (fun K hK => ?_) AllReadyH.nil
              (go_simp; go_at_call 22; refine (HSR.out w9 hbw9).mono ?_; rintro e1 w10 ⟨rfl, hb10⟩; have B10 := B9.later hb10; have O10 := O9.later hb10; have hbw10 := below_then hb10 hbw9; have hb610 := below_then hb10 hb69; clear B9 O9 hb10; (try dsimp only))
              refine hK.out _ _ ?_ (fun hHeld => ?_)
              · ((try dsimp only); first | exact ⟨by assumption, by assumption⟩ | exact ⟨Blk.drew (by assumption), Blk.drew (by assumption)⟩)
              clear hK K
              (try simp only [Act.put, List.setIfInBounds_toArray, List.set_cons_zero, List.set_cons_succ])
              (try simp only [List.getElem_toArray, List.getElem_cons_zero, List.getElem_cons_succ, Act.put, List.setIfInBounds_toArray, List.set_cons_zero, List.set_cons_succ])
              refine wpAnyH_take (i := 12) (oi := _) (v := ?_) rfl (by decide +kernel) (by decide +kernel) (by decide +kernel) (fun _ _ _ h => h) (Or.inl ⟨by kernel_rfl, ?_⟩) (by assumption) ?_
              rotate_left
              · (intro w hSw; (try dsimp only at hSw); go_simp <;> with_reducible rfl)
              (try simp only [Act.put, List.setIfInBounds_toArray, List.set_cons_zero, List.set_cons_succ])
              refine wpAnyH_take (i := 13) (oi := _) (v := ?_) rfl (by decide +kernel) (by decide +kernel) (by decide +kernel) (fun _ _ _ h => h) (Or.inl ⟨by kernel_rfl, ?_⟩) (by assumption) ?_
              rotate_left
              · (intro w hSw; (try dsimp only at hSw); go_simp <;> with_reducible rfl)
              (try simp only [Act.put, List.setIfInBounds_toArray, List.set_cons_zero, List.set_cons_succ])
              refine wpAnyH_take (i := 14) (oi := _) (v := ?_) rfl (by decide +kernel) (by decide +kernel) (by decide +kernel) (fun _ _ _ h => h) (Or.inl ⟨by kernel_rfl, ?_⟩) (by assumption) ?_
              rotate_left
              · (intro w hSw; (try dsimp only at hSw); go_simp <;> with_reducible rfl)
              (try simp only [Act.put, List.setIfInBounds_toArray, List.set_cons_zero, List.set_cons_succ])
              (try simp only [List.getElem_toArray, List.getElem_cons_zero, List.getElem_cons_succ, Act.put, List.setIfInBounds_toArray, List.set_cons_zero, List.set_cons_succ])
              refine wpAnyH_take (i := 15) (oi := _) (v := ?_) rfl (by decide +kernel) (by decide +kernel) (by decide +kernel) (fun _ _ _ h => h) (Or.inl ⟨by kernel_rfl, ?_⟩) (by assumption) ?_
              rotate_left
              · (intro w hSw; (try dsimp only at hSw); (have q := m_blk hSw.1; obtain ⟨q0, q1, q2, q3, q4, q5, q6, q7, q8, q9, q10, q11, q12, q13, ql⟩ := q); go_simp <;> with_reducible rfl)
              (try simp only [Act.put, List.setIfInBounds_toArray, List.set_cons_zero, List.set_cons_succ])
              (try simp only [List.getElem_toArray, List.getElem_cons_zero, List.getElem_cons_succ, Act.put, List.setIfInBounds_toArray, List.set_cons_zero, List.set_cons_succ])
              refine wpAnyH_take (i := 17) (oi := _) (v := ?_) rfl (by decide +kernel) (by decide +kernel) (by decide +kernel) (fun _ _ _ h => h) (Or.inl ⟨by kernel_rfl, ?_⟩) (by assumption) ?_
              rotate_left
              · (intro w hSw; (try dsimp only at hSw); (have q := m_blk hSw.1; obtain ⟨q0, q1, q2, q3, q4, q5, q6, q7, q8, q9, q10, q11, q12, q13, ql⟩ := q); go_simp <;> with_reducible rfl)
              (try simp only [Act.put, List.setIfInBounds_toArray, List.set_cons_zero, List.set_cons_succ])
              (try simp only [List.getElem_toArray, List.getElem_cons_zero, List.getElem_cons_succ, Act.put, List.setIfInBounds_toArray, List.set_cons_zero, List.set_cons_succ])
              as_aux_lemma =>
                refine wpAnyH_ready (rs := [16]) (by decide +kernel) (by simp) ?_
                refine AllReadyH.cons (o := _) rfl (fun K hK => ?_) AllReadyH.nil
                (go_simp; go_at_call 23; refine (HCP.out w10 hbw10).mono ?_; rintro e1 w11 ⟨g1, h1', g2, h2', g3, h3', g4, h4', rfl, hr11, hb11⟩; have HC11 := hid hr11; have B11 := B10.later hb11; have O11 := O10.later hb11; have hbw11 := below_then hb11 hbw10; have hb611 := below_then hb11 hb610; clear B10 O10 hb11 hr11; (try dsimp only))
                refine hK.out _ _ ?_ (fun hHeld => ?_)
                · ((try dsimp only); first | exact ⟨by assumption, by assumption⟩ | exact ⟨Blk.drew (by assumption), Blk.drew (by assumption)⟩)
                clear hK K
                (try simp only [Act.put, List.setIfInBounds_toArray, List.set_cons_zero, List.set_cons_succ])
                (try simp only [List.getElem_toArray, List.getElem_cons_zero, List.getElem_cons_succ, Act.put, List.setIfInBounds_toArray, List.set_cons_zero, List.set_cons_succ])
                refine wpAnyH_ready (rs := [18]) (by decide +kernel) (by simp) ?_
                refine AllReadyH.cons (o := _) rfl (fun K hK => ?_) AllReadyH.nil
                (go_simp; go_at_call 22; refine (HSC.out w11 hbw11 g1 h1' g2 h2' g3 h3' g4 h4' HC11.out).mono ?_; rintro e1 w13 ⟨rfl, hb13⟩; have B13 := B11.later hb13; have O13 := O11.later hb13; have hbw13 := below_then hb13 hbw11; have hb613 := below_then hb13 hb611; clear B11 O11 hb13; (try dsimp only))
                refine hK.out _ _ ?_ (fun hHeld => ?_)
                · ((try dsimp only); first | exact ⟨by assumption, by assumption⟩ | exact ⟨Blk.drew (by assumption), Blk.drew (by assumption)⟩)
                clear hK K
                (try simp only [Act.put, List.setIfInBounds_toArray, List.set_cons_zero, List.set_cons_succ])
                (try simp only [List.getElem_toArray, List.getElem_cons_zero, List.getElem_cons_succ, Act.put, List.setIfInBounds_toArray, List.set_cons_zero, List.set_cons_succ])
                refine wpAnyH_take (i := 19) (oi := _) (v := ?_) rfl (by decide +kernel) (by decide +kernel) (by decide +kernel) (fun _ _ _ h => h) (Or.inl ⟨by kernel_rfl, ?_⟩) (by assumption) ?_
                rotate_left
                · (intro w hSw; (try dsimp only at hSw); go_simp <;> with_reducible rfl)
                (try simp only [Act.put, List.setIfInBounds_toArray, List.set_cons_zero, List.set_cons_succ])
                refine wpAnyH_take (i := 20) (oi := _) (v := ?_) rfl (by decide +kernel) (by decide +kernel) (by decide +kernel) (fun _ _ _ h => h) (Or.inl ⟨by kernel_rfl, ?_⟩) (by assumption) ?_
                rotate_left
                · (intro w hSw; (try dsimp only at hSw); go_simp <;> with_reducible rfl)
                (try simp only [Act.put, List.setIfInBounds_toArray, List.set_cons_zero, List.set_cons_succ])
                (try simp only [List.getElem_toArray, List.getElem_cons_zero, List.getElem_cons_succ, Act.put, List.setIfInBounds_toArray, List.set_cons_zero, List.set_cons_succ])
                refine wpAnyH_done (by kernel_rfl) ?_ _
                as_aux_lemma =>
                  have y0 : w13.cell? ⟨w.heap.size, 0, none⟩ = some (.int .i64 m.kind) := B13.cell 0
                  have y1 : w13.cell? ⟨w.heap.size, 1, none⟩ = some (.int .u64 m.epoch) := B13.cell 1
                  have y2 : w13.cell? ⟨w.heap.size, 2, none⟩ = some (.int .u64 m.seq) := B13.cell 2
                  have y3 : w13.cell? ⟨w.heap.size, 3, none⟩ = some (.int .u64 m.pos) := B13.cell 3
                  have y4 : w13.cell? ⟨w.heap.size, 4, none⟩ = some (.int .i64 m.count) := B13.cell 4
                  have y5 : w13.cell? ⟨w.heap.size, 5, none⟩ = some (.int .i64 m.state) := B13.cell 5
                  have y6 : w13.cell? ⟨w.heap.size, 6, none⟩ = some (.slice a1 m.streams.length c1) := B13.cell 6
                  have y7 : w13.cell? ⟨w.heap.size, 7, none⟩ = some (.slice a2 m.links.length c2) := B13.cell 7
                  have y8 : w13.cell? ⟨w.heap.size, 8, none⟩ = some (.slice a3 m.data.length c3) := B13.cell 8
                  have y9 : w13.cell? ⟨w.heap.size, 9, none⟩ = some (.int .u64 m.sea.epoch) := B13.cell 9
                  have y10 : w13.cell? ⟨w.heap.size, 10, none⟩ = some (.int .u64 m.sea.node) := B13.cell 10
                  have y11 : w13.cell? ⟨w.heap.size, 11, none⟩ = some (.int .u64 m.sea.tail) := B13.cell 11
                  have y12 : w13.cell? ⟨w.heap.size, 12, none⟩ = some (.int .u64 m.proj.epoch) := B13.cell 12
                  have y13 : w13.cell? ⟨w.heap.size, 13, none⟩ = some (.slice a4 m.proj.stripes.length c4) := B13.cell 13
                  have ly := B13.lt
                  have hb313 := below_then hb613 hb36
                  go_wp2_with fail
                  refine (HRR.out w13 hbw13).mono ?_
                  rintro r w14 ⟨rfl, hb14⟩
                  have B14 := B13.later hb14
                  have hbw14 := below_then hb14 hbw13
                  have hb314 := below_then hb14 hb313
                  clear y0 y1 y2 y3 y4 y5 y6 y7 y8 y9 y10 y11 y12 y13 ly B13 O13 hb14
                  have y0 : w14.cell? ⟨w.heap.size, 0, none⟩ = some (.int .i64 m.kind) := B14.cell 0
                  have y1 : w14.cell? ⟨w.heap.size, 1, none⟩ = some (.int .u64 m.epoch) := B14.cell 1
                  have y2 : w14.cell? ⟨w.heap.size, 2, none⟩ = some (.int .u64 m.seq) := B14.cell 2
                  have y3 : w14.cell? ⟨w.heap.size, 3, none⟩ = some (.int .u64 m.pos) := B14.cell 3
                  have y4 : w14.cell? ⟨w.heap.size, 4, none⟩ = some (.int .i64 m.count) := B14.cell 4
                  have y5 : w14.cell? ⟨w.heap.size, 5, none⟩ = some (.int .i64 m.state) := B14.cell 5
                  have y6 : w14.cell? ⟨w.heap.size, 6, none⟩ = some (.slice a1 m.streams.length c1) := B14.cell 6
                  have y7 : w14.cell? ⟨w.heap.size, 7, none⟩ = some (.slice a2 m.links.length c2) := B14.cell 7
                  have y8 : w14.cell? ⟨w.heap.size, 8, none⟩ = some (.slice a3 m.data.length c3) := B14.cell 8
                  have y9 : w14.cell? ⟨w.heap.size, 9, none⟩ = some (.int .u64 m.sea.epoch) := B14.cell 9
                  have y10 : w14.cell? ⟨w.heap.size, 10, none⟩ = some (.int .u64 m.sea.node) := B14.cell 10
                  have y11 : w14.cell? ⟨w.heap.size, 11, none⟩ = some (.int .u64 m.sea.tail) := B14.cell 11
                  have y12 : w14.cell? ⟨w.heap.size, 12, none⟩ = some (.int .u64 m.proj.epoch) := B14.cell 12
                  have y13 : w14.cell? ⟨w.heap.size, 13, none⟩ = some (.slice a4 m.proj.stripes.length c4) := B14.cell 13
                  have ly := B14.lt
                  go_wp2_with fail
                  refine (HRB.out w14 hbw14).mono ?_
                  rintro r w15 ⟨v15, rfl, hv15, hb15⟩
                  obtain ⟨e15, k15, rfl⟩ := own_form hv15
                  have hbw15 := below_then hb15 hbw14
                  have hs15 := same_bytes K K e3 e15 _ k3 _ k15 w15 (lift HS3.out (below_then hb15 hb314)) (own_bytes rfl hv15)
                  simp only [decide_true] at hs15
                  have HS15 := hid hs15
                  clear hs15 hv15 y0 y1 y2 y3 y4 y5 y6 y7 y8 y9 y10 y11 y12 y13 ly B14 hb15
                  go_wp2_with fail
                  refine HS15.out.mono ?_
                  rintro r w15' ⟨rfl, rfl⟩
                  go_wp2_with fail
                  refine (live28 _).mono ?_
                  rintro r w99 ⟨rfl, hb99⟩
                  have hbe := below_then hb99 hbw15
                  go_wp2_with fail
                  go_ret
                  exact ⟨rfl, hbe⟩
    · rw [hlo] at HLO
      clear hm ho hlm hlo
      go_enter Tryz.func3, Tryz.ntmps3
      go_wp2_with fail
      generalize (w.alloc (.cells #[.int .i64 m.kind, .int .u64 m.epoch, .int .u64 m.seq, .int .u64 m.pos, .int .i64 m.count, .int .i64 m.state, .slice a1 m.streams.length c1, .slice a2 m.links.length c2, .slice a3 m.data.length c3, .int .u64 m.sea.epoch, .int .u64 m.sea.node, .int .u64 m.sea.tail, .int .u64 m.proj.epoch, .slice a4 m.proj.stripes.length c4] 32)).alloc (.cells #[.int .i64 o.kind, .int .u64 o.epoch, .int .u64 o.seq, .int .u64 o.pos, .int .i64 o.count, .int .i64 o.state, .slice b1 o.streams.length d1, .slice b2 o.links.length d2, .slice b3 o.data.length d3, .int .u64 o.sea.epoch, .int .u64 o.sea.node, .int .u64 o.sea.tail, .int .u64 o.proj.epoch, .slice b4 o.proj.stripes.length d4] 32) = w0 at *
      refine (HLM.out _ hb0).mono ?_
      rintro r w1 ⟨rfl, hb1⟩
      have hbw1 := below_then hb1 hb0
      have B1 := HBM.out.later hb1
      have O1 := HBO.out.later hb1
      clear hb1
      have z0 : w1.cell? ⟨(w.heap.size + 1), 0, none⟩ = some (.int .i64 o.kind) := O1.cell 0
      have z1 : w1.cell? ⟨(w.heap.size + 1), 1, none⟩ = some (.int .u64 o.epoch) := O1.cell 1
      have z2 : w1.cell? ⟨(w.heap.size + 1), 2, none⟩ = some (.int .u64 o.seq) := O1.cell 2
      have z3 : w1.cell? ⟨(w.heap.size + 1), 3, none⟩ = some (.int .u64 o.pos) := O1.cell 3
      have z4 : w1.cell? ⟨(w.heap.size + 1), 4, none⟩ = some (.int .i64 o.count) := O1.cell 4
      have z5 : w1.cell? ⟨(w.heap.size + 1), 5, none⟩ = some (.int .i64 o.state) := O1.cell 5
      have z6 : w1.cell? ⟨(w.heap.size + 1), 6, none⟩ = some (.slice b1 o.streams.length d1) := O1.cell 6
      have z7 : w1.cell? ⟨(w.heap.size + 1), 7, none⟩ = some (.slice b2 o.links.length d2) := O1.cell 7
      have z8 : w1.cell? ⟨(w.heap.size + 1), 8, none⟩ = some (.slice b3 o.data.length d3) := O1.cell 8
      have z9 : w1.cell? ⟨(w.heap.size + 1), 9, none⟩ = some (.int .u64 o.sea.epoch) := O1.cell 9
      have z10 : w1.cell? ⟨(w.heap.size + 1), 10, none⟩ = some (.int .u64 o.sea.node) := O1.cell 10
      have z11 : w1.cell? ⟨(w.heap.size + 1), 11, none⟩ = some (.int .u64 o.sea.tail) := O1.cell 11
      have z12 : w1.cell? ⟨(w.heap.size + 1), 12, none⟩ = some (.int .u64 o.proj.epoch) := O1.cell 12
      have z13 : w1.cell? ⟨(w.heap.size + 1), 13, none⟩ = some (.slice b4 o.proj.stripes.length d4) := O1.cell 13
      have lz := O1.lt
      go_wp2_with fail
      refine (HLO.out _ hbw1).mono ?_
      rintro r w2 ⟨rfl, hb2⟩
      have B2 := B1.later hb2
      have O2 := O1.later hb2
      have hbw2 := below_then hb2 hbw1
      clear B1 O1 hb2 z0 z1 z2 z3 z4 z5 z6 z7 z8 z9 z10 z11 z12 z13 lz
      go_wp2_with fail
      refine (live28 _).mono ?_
      rintro r w99 ⟨rfl, hb99⟩
      have hbe := below_then hb99 hbw2
      go_wp2_with fail
      go_ret
      exact ⟨rfl, hbe⟩
  · rw [hlm] at HLM
    clear hm ho hlm
    go_enter Tryz.func3, Tryz.ntmps3
    go_wp2_with fail
    generalize (w.alloc (.cells #[.int .i64 m.kind, .int .u64 m.epoch, .int .u64 m.seq, .int .u64 m.pos, .int .i64 m.count, .int .i64 m.state, .slice a1 m.streams.length c1, .slice a2 m.links.length c2, .slice a3 m.data.length c3, .int .u64 m.sea.epoch, .int .u64 m.sea.node, .int .u64 m.sea.tail, .int .u64 m.proj.epoch, .slice a4 m.proj.stripes.length c4] 32)).alloc (.cells #[.int .i64 o.kind, .int .u64 o.epoch, .int .u64 o.seq, .int .u64 o.pos, .int .i64 o.count, .int .i64 o.state, .slice b1 o.streams.length d1, .slice b2 o.links.length d2, .slice b3 o.data.length d3, .int .u64 o.sea.epoch, .int .u64 o.sea.node, .int .u64 o.sea.tail, .int .u64 o.proj.epoch, .slice b4 o.proj.stripes.length d4] 32) = w0 at *
    refine (HLM.out _ hb0).mono ?_
    rintro r w1 ⟨rfl, hb1⟩
    have hbw1 := below_then hb1 hb0
    have B1 := HBM.out.later hb1
    have O1 := HBO.out.later hb1
    clear hb1
    go_wp2_with fail
    refine (live28 _).mono ?_
    rintro r w99 ⟨rfl, hb99⟩
    have hbe := below_then hb99 hbw1
    go_wp2_with fail
    go_ret
    exact ⟨rfl, hbe⟩

end Go.Proofs.YtlbffbkbkajciaaGreat
namespace Go.Proofs.YtlbffbkbkajciaaGreat
open Go.RowKit Go.Bs Go.Maps
set_option linter.unusedVariables false
set_option linter.unusedSimpArgs false

theorem c_int : Tryz.prog.cellsOf 3 = 1 := by kernel_rfl
theorem c_seal : Tryz.prog.cellsOf 27 = 3 := by kernel_rfl
theorem c_sets : Tryz.prog.cellsOf 153 = 1 := by kernel_rfl
theorem c_stripes : Tryz.prog.cellsOf 28 = 1 := by kernel_rfl
theorem c_projn : Tryz.prog.cellsOf 30 = 2 := by kernel_rfl
theorem o_int : Opens Tryz.prog 3 (rInt .i64) := opens_int Tryz.underlying3
theorem o_sets : Opens Tryz.prog 153 rSets := opens_slice (sz := 1) Tryz.underlying153 (by kernel_rfl) (by decide) o_u64s
theorem field_atN {H : Type} {enc : TypeId × Value → H} {P : Program} {w : World} {cs : List Value} {n : Nat} {fs : Array Field} (h : ∀ (i : Nat) (f : Field), fs[i]? = some f → ∃ y, DataW.trod enc P w 0 (fun _ => true) true n f.type ((cs.drop f.offset).take (P.cellsOf f.type)) = some y)
    {α : Type} {A : Rp α} {t : TypeId} (hA : Opens P t A) (i : Nat) (f : Field) (o s : Nat) (hf : fs[i]? = some f) (ht : f.type = t) (ho : f.offset = o) (hs : P.cellsOf t = s) : ∃ x, A.r (· < w.heap.size) w ((cs.drop o).take s) x := by
  obtain ⟨y, hy⟩ := h i f hf
  rw [ht, ho, hs] at hy
  exact hA enc w n _ _ hy
theorem o_seal : Opens Tryz.prog 27 rSeal := fun enc w fuel cs x h => by
  obtain ⟨hl, n, hf⟩ := trod_fields Tryz.underlying27 h
  have hl2 : cs.length = 3 := hl.trans (by kernel_rfl)
  obtain ⟨x0, r0⟩ := field_at hf o_u64 0 _ 0 rfl rfl rfl c_u64
  obtain ⟨x1, r1⟩ := field_at hf o_u64 1 _ 1 rfl rfl rfl c_u64
  obtain ⟨x2, r2⟩ := field_at hf o_u64 2 _ 2 rfl rfl rfl c_u64
  exact ⟨⟨x0, x1, x2⟩, by have h := pair_step (o := 0) (s := 1) (o' := 1) rfl r0 (pair_step (o := 1) (s := 1) (o' := 2) rfl r1 (last_step (s := 1) hl2 r2)); rw [List.drop_zero] at h; exact h⟩
theorem o_stripe : Opens Tryz.prog 155 rStripe := fun enc w fuel cs x h => by
  obtain ⟨hl, n, hf⟩ := trod_fields Tryz.underlying155 h
  have hl2 : cs.length = 3 := hl.trans (by kernel_rfl)
  obtain ⟨x0, r0⟩ := field_at hf o_u64 0 _ 0 rfl rfl rfl c_u64
  obtain ⟨x1, r1⟩ := field_at hf o_u64 1 _ 1 rfl rfl rfl c_u64
  obtain ⟨x2, r2⟩ := field_at hf o_sets 2 _ 2 rfl rfl rfl c_sets
  exact ⟨⟨x0, x1, x2⟩, by have h := pair_step (o := 0) (s := 1) (o' := 1) rfl r0 (pair_step (o := 1) (s := 1) (o' := 2) rfl r1 (last_step (s := 1) hl2 r2)); rw [List.drop_zero] at h; exact h⟩
theorem o_stripes : Opens Tryz.prog 28 rStripes := opens_slice (sz := 3) Tryz.underlying28 (by kernel_rfl) (by decide) o_stripe
theorem o_projn : Opens Tryz.prog 30 rProjn := fun enc w fuel cs x h => by
  obtain ⟨hl, n, hf⟩ := trod_fields Tryz.underlying30 h
  have hl2 : cs.length = 2 := hl.trans (by kernel_rfl)
  obtain ⟨x0, r0⟩ := field_at hf o_u64 0 _ 0 rfl rfl rfl c_u64
  obtain ⟨x1, r1⟩ := field_at hf o_stripes 1 _ 1 rfl rfl rfl c_stripes
  exact ⟨⟨x0, x1⟩, by have h := pair_step (o := 0) (s := 1) (o' := 1) rfl r0 (last_step (s := 1) hl2 r1); rw [List.drop_zero] at h; exact h⟩
set_option maxRecDepth 100000 in
theorem o_msg : Opens Tryz.prog 32 rMsg := fun enc w fuel cs x h => by
  obtain ⟨hl, n, hf⟩ := trod_fields Tryz.underlying32 h
  have hl2 : cs.length = 14 := hl.trans (by kernel_rfl)
  obtain ⟨x0, r0⟩ := field_atN hf o_int 0 _ 0 1 rfl rfl rfl c_int
  obtain ⟨x1, r1⟩ := field_atN hf o_u64 1 _ 1 1 rfl rfl rfl c_u64
  obtain ⟨x2, r2⟩ := field_atN hf o_u64 2 _ 2 1 rfl rfl rfl c_u64
  obtain ⟨x3, r3⟩ := field_atN hf o_u64 3 _ 3 1 rfl rfl rfl c_u64
  obtain ⟨x4, r4⟩ := field_atN hf o_int 4 _ 4 1 rfl rfl rfl c_int
  obtain ⟨x5, r5⟩ := field_atN hf o_int 5 _ 5 1 rfl rfl rfl c_int
  obtain ⟨x6, r6⟩ := field_atN hf o_u64s 6 _ 6 1 rfl rfl rfl c_u64s
  obtain ⟨x7, r7⟩ := field_atN hf o_links 7 _ 7 1 rfl rfl rfl c_links
  obtain ⟨x8, r8⟩ := field_atN hf o_bytes 8 _ 8 1 rfl rfl rfl c_bytes
  obtain ⟨x9, r9⟩ := field_atN hf o_seal 9 _ 9 3 rfl rfl rfl c_seal
  obtain ⟨x10, r10⟩ := field_atN hf o_projn 10 _ 12 2 rfl rfl rfl c_projn
  exact ⟨⟨x0, x1, x2, x3, x4, x5, x6, x7, x8, x9, x10⟩, by have h := (pair_step (o := 0) (s := 1) (o' := 1) rfl r0 (pair_step (o := 1) (s := 1) (o' := 2) rfl r1 (pair_step (o := 2) (s := 1) (o' := 3) rfl r2 (pair_step (o := 3) (s := 1) (o' := 4) rfl r3 (pair_step (o := 4) (s := 1) (o' := 5) rfl r4 (pair_step (o := 5) (s := 1) (o' := 6) rfl r5 (pair_step (o := 6) (s := 1) (o' := 7) rfl r6 (pair_step (o := 7) (s := 1) (o' := 8) rfl r7 (pair_step (o := 8) (s := 1) (o' := 9) rfl r8 (pair_step (o := 9) (s := 3) (o' := 12) rfl r9 (last_step (o := 12) (s := 2) hl2 r10))))))))))); rw [List.drop_zero] at h; exact h⟩

set_option maxRecDepth 100000 in
theorem msg_arg {H : Type} (enc : TypeId × Value → H) (W : World) (base : Nat) (v0 : Value) (d0 : DataW H) (p0 : List MemPlace)
    (k0 : DataW.Trod enc Tryz.prog W 0 (fun _ => true) true 32 v0 d0 p0) (o0 : Value.okWide Tryz.prog W .any base 32 v0) :
    ∃ (m : Msg) (a1 : Option Addr) (c1 : Nat) (a2 : Option Addr) (c2 : Nat) (a3 : Option Addr) (c3 : Nat) (a4 : Option Addr) (c4 : Nat), v0 = .agg #[.int .i64 m.kind, .int .u64 m.epoch, .int .u64 m.seq, .int .u64 m.pos, .int .i64 m.count, .int .i64 m.state, .slice a1 m.streams.length c1, .slice a2 m.links.length c2, .slice a3 m.data.length c3, .int .u64 m.sea.epoch, .int .u64 m.sea.node, .int .u64 m.sea.tail, .int .u64 m.proj.epoch, .slice a4 m.proj.stripes.length c4] ∧ MsgIn (· < W.heap.size) W m a1 c1 a2 c2 a3 c3 a4 c4 := by
  obtain ⟨fuel, hf⟩ := k0
  obtain ⟨cs, rfl, hsz⟩ := Go.WideShapes.okWide_struct Tryz.underlying32 o0
  obtain ⟨u, hu⟩ := o_msg enc W fuel _ _ hf
  obtain ⟨a1, c1, a2, c2, a3, c3, a4, c4, hcs, hin⟩ := msg_cells hu
  have e : cs = (msgCells u a1 c1 a2 c2 a3 c3 a4 c4).toArray := by
    have := hcs
    simp only [Value.cells] at this
    exact Array.ext' this
  exact ⟨u, a1, c1, a2, c2, a3, c3, a4, c4, by rw [e]; rfl, hin⟩
set_option maxRecDepth 100000 in
theorem bodyWrites_walk {H : Type} (enc : TypeId × Value → H) (W : World) (base : Nat) (v0 v1 : Value) (d0 d1 : DataW H) (p0 p1 : List MemPlace)
    (k0 : DataW.Trod enc Tryz.prog W 0 (fun _ => true) true 32 v0 d0 p0) (k1 : DataW.Trod enc Tryz.prog W 0 (fun _ => true) true 32 v1 d1 p1)
    (o0 : Value.okWide Tryz.prog W .any base 32 v0) (o1 : Value.okWide Tryz.prog W .any base 32 v1) :
    Calls Tryz.prog 3 #[v0, v1] W fun e w' => e = .returned (.bool true) ∧ Below W.heap.size W w' := by
  obtain ⟨m, a1, c1, a2, c2, a3, c3, a4, c4, rfl, hm⟩ := msg_arg enc W base v0 d0 p0 k0 o0
  obtain ⟨o, b1, d1', b2, d2, b3, d3, b4, d4, rfl, ho⟩ := msg_arg enc W base v1 d1 p1 k1 o1
  exact bodyWrites_c m o a1 c1 a2 c2 a3 c3 a4 c4 b1 d1' b2 d2 b3 d3 b4 d4 W hm ho
end Go.Proofs.YtlbffbkbkajciaaGreat
