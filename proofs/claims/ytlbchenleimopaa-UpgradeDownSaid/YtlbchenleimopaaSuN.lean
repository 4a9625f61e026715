/- UpgradeDown: for every input the law returns true. -/
import Derived.Test.YtlbchenleimopaaSuM
import Derived.BigRegion
namespace Go.Proofs.Ytlbchenleimopaa
open Go.RowKit Go.Bs
set_option linter.unusedVariables false
set_option linter.unusedSimpArgs false

theorem then_world {K : Act → World → Prop} {Q : Exit → Act → World → Prop} {a : Act} {w : World} (F : World → Prop) (hF : F w) (h : ∀ W, F W → Exit.then K Q Exit.normal a W) : Exit.then K Q Exit.normal a w := h w hF

set_option maxRecDepth 100000 in
set_option maxHeartbeats 6400000 in
theorem upgradeDown_c (e : Int) (l : List Batch) (a : Option Addr) (n c : Nat) (w : World) (h0 : 0 ≤ e ∧ e ≤ 18446744073709551615) (hl : rBatches.r (· < w.heap.size) w [.slice a n c] l) :
    Calls Try.prog 5 #[.agg #[.int .u64 e, .slice a n c]] w fun r w' => r = .returned (.bool true) ∧ Below w.heap.size w w' := by
  obtain ⟨rfl, hm, _, _⟩ := sl_len hl
  have HL1 := hid (fun (W : World) (hW : Below w.heap.size w W) => law34_long e l a _ c W (lift hl hW))
  have HL := hid hl; clear hl
  cases hlong : long34 l
  · rw [hlong] at HL1
    obtain ⟨g1, g2⟩ := long34_no hlong
    clear hlong
    have hfair := fair_of g2
    have hmild := mild_of g2
    have HD := hid (fun (W : World) (hW : Below w.heap.size w W) => upgrade_down e l a _ c W h0 (lift HL.out hW) hfair hmild)
    have HR := hid (fun (W : World) (hW : Below w.heap.size w W) => ref34_right e l a _ c W h0 (lift HL.out hW) hfair)
    have hdu : Hid (segR ⟨e, l⟩ = true → up2R ⟨e, l.map cutB⟩ = (⟨e, l.map cutB⟩, 0)) := hid down_up
    have hcf : ∀ x ∈ l.map cutB, Fair x.entries := fun x hx => by
      obtain ⟨y, hy, rfl⟩ := List.mem_map.1 hx
      obtain ⟨f1, f2, f3⟩ := hfair y hy
      refine ⟨by simp only [cutB, total_cut]; exact f1, by simpa [cutB] using f2, fun e he z hz => ?_⟩
      obtain ⟨e', he', rfl⟩ := List.mem_map.1 he
      obtain ⟨z', hz', rfl⟩ := List.mem_map.1 hz
      have := f3 e' he' z' hz'
      simp [cutL]; omega
    have hcm : ∀ z ∈ l.map cutB, MildB z := fun x hx => by
      obtain ⟨y, hy, rfl⟩ := List.mem_map.1 hx
      obtain ⟨f1, f2⟩ := hmild y hy
      refine ⟨by simpa [cutB] using f1, fun e he => ?_⟩
      obtain ⟨e', he', rfl⟩ := List.mem_map.1 he
      obtain ⟨f3, f4, f5⟩ := f2 e' he'
      refine ⟨by simpa [cutE] using f3, f4, fun z hz => ?_⟩
      obtain ⟨z', hz', rfl⟩ := List.mem_map.1 hz
      have := f5 z' hz'
      simp [cutL]; omega
    have HCF := hid hcf; have HCM := hid hcm
    have hlinks : ∀ b ∈ l, ∀ x ∈ b.entries, x.links.length ≤ 1000000 := fun b hb x hx => by
      have := ((g2 b hb).2.2 x hx).2.1; omega
    have HLI := hid hlinks
    clear hcf hcm hlinks hfair hmild g2
    cases hs : segR ⟨e, l⟩
    · rw [hs] at HR
      have hdn : downR ⟨e, l⟩ = (⟨0, []⟩, 3) := by simp only [downR, hs]; rfl
      rw [hdn] at HD
      clear hdn hs hdu
      go_enter Try.func5, Try.ntmps5
      go_wp2_with fail
      refine (HL1.out _ (by (repeat (first | exact Below.refl _ _ | assumption | (refine below_alloc ?_ _) | (refine Below.setCell ?_ (by first | omega | (simp; done) | (simp; omega)) _) | (refine Below.drew ?_) | (refine below_drewN ?_ _) | (refine below_then (by assumption) ?_))))).mono ?_
      rintro r w1 ⟨rfl, hb1⟩
      have hbw1 : Below w.heap.size w w1 := by (repeat (first | exact Below.refl _ _ | assumption | (refine below_alloc ?_ _) | (refine Below.setCell ?_ (by first | omega | (simp; done) | (simp; omega)) _) | (refine Below.drew ?_) | (refine below_drewN ?_ _) | (refine below_then (by assumption) ?_)))
      have hz1 : w.heap.size < w1.heap.size := by have := hb1.size; simp at this; omega
      have p0 : w1.cell? ⟨w.heap.size, 0, none⟩ = some (.int .u64 e) := (Later.mk w1 hb1).cell (by go_simp)
      have p1 : w1.cell? ⟨w.heap.size, 1, none⟩ = some (.slice a l.length c) := (Later.mk w1 hb1).cell (by go_simp)
      go_wp2_with fail
      refine (HD.out _ hbw1).mono ?_
      rintro r w2 ⟨v2, hr, hrep2, hb2⟩
      simp only at hr hrep2
      subst hr
      obtain ⟨a2, c2, hv2, _, _⟩ := sl_form hrep2
      simp only [List.cons.injEq, and_true] at hv2
      subst hv2
      have HR2 := hid hrep2; clear hrep2
      have hb12 : Below w1.heap.size w1 w2 := by (repeat (first | exact Below.refl _ _ | assumption | (refine below_alloc ?_ _) | (refine Below.setCell ?_ (by first | omega | (simp; done) | (simp; omega)) _) | (refine Below.drew ?_) | (refine below_drewN ?_ _) | (refine below_then (by assumption) ?_)))
      have hbw2 : Below w.heap.size w w2 := below_then hb12 hbw1
      have hz2 : w.heap.size < w2.heap.size := by have := hb12.size; omega
      have q0 : w2.cell? ⟨w.heap.size, 0, none⟩ = some (.int .u64 e) := (Later.mk w2 hb12).cell p0
      have q1 : w2.cell? ⟨w.heap.size, 1, none⟩ = some (.slice a l.length c) := (Later.mk w2 hb12).cell p1
      go_wp2_with fail
      refine (HR.out _ (by (repeat (first | exact Below.refl _ _ | assumption | (refine below_alloc ?_ _) | (refine Below.setCell ?_ (by first | omega | (simp; done) | (simp; omega)) _) | (refine Below.drew ?_) | (refine below_drewN ?_ _) | (refine below_then (by assumption) ?_))))).mono ?_
      rintro r w3 ⟨rfl, hb3⟩
      have hb23 : Below w2.heap.size w2 w3 := by (repeat (first | exact Below.refl _ _ | assumption | (refine below_alloc ?_ _) | (refine Below.setCell ?_ (by first | omega | (simp; done) | (simp; omega)) _) | (refine Below.drew ?_) | (refine below_drewN ?_ _) | (refine below_then (by assumption) ?_)))
      have hbw3 : Below w.heap.size w w3 := below_then hb23 hbw2
      have hz3 : w2.heap.size < w3.heap.size := by have := hb3.size; simp at this; omega
      have s3 : w3.cell? ⟨w2.heap.size, 0, none⟩ = some (.int .u64 0) := (Later.mk w3 hb3).cell (by go_simp)
      have s4 : w3.cell? ⟨w2.heap.size, 1, none⟩ = some (.slice a2 0 c2) := (Later.mk w3 hb3).cell (by go_simp)
      go_wp2_with fail
      refine (ref35_same2 0 0 [] [] _ _ _ _ _ _ _ (lift HR2.out hb23) nil_batches).mono ?_
      rintro r w4 ⟨hr, hb4⟩
      rw [decide_eq_true rfl] at hr
      subst hr
      go_wp2_with fail
      refine (live36 _).mono ?_
      rintro r w9 ⟨rfl, hb9⟩
      go_wp2
      go_ret
      exact ⟨rfl, by (repeat (first | exact Below.refl _ _ | assumption | (refine below_alloc ?_ _) | (refine Below.setCell ?_ (by first | omega | (simp; done) | (simp; omega)) _) | (refine Below.drew ?_) | (refine below_drewN ?_ _) | (refine below_then (by assumption) ?_)))⟩
    · rw [hs] at HR
      have hdn : downR ⟨e, l⟩ = (⟨e, l.map cutB⟩, 0) := by simp only [downR, hs]; rfl
      rw [hdn] at HD
      have hup := hdu.out hs
      have hel := hid (segR_facts hs)
      clear hdn hs hdu
      obtain ⟨L, hL⟩ : ∃ L, l.map cutB = L := ⟨_, rfl⟩
      rw [hL] at HD hup HCF HCM
      have hLl : L.length = l.length := by rw [← hL]; simp
      have HLE := hid hL; clear hL
      have HUP := hid hup; clear hup
      have HLL := hid hLl; clear hLl
      go_enter Try.func5, Try.ntmps5
      go_wp2_with fail
      refine (HL1.out _ (by (repeat (first | exact Below.refl _ _ | assumption | (refine below_alloc ?_ _) | (refine Below.setCell ?_ (by first | omega | (simp; done) | (simp; omega)) _) | (refine Below.drew ?_) | (refine below_drewN ?_ _) | (refine below_then (by assumption) ?_))))).mono ?_
      rintro r w1 ⟨rfl, hb1⟩
      have hbw1 : Below w.heap.size w w1 := by (repeat (first | exact Below.refl _ _ | assumption | (refine below_alloc ?_ _) | (refine Below.setCell ?_ (by first | omega | (simp; done) | (simp; omega)) _) | (refine Below.drew ?_) | (refine below_drewN ?_ _) | (refine below_then (by assumption) ?_)))
      have hz1 : w.heap.size < w1.heap.size := by have := hb1.size; simp at this; omega
      have p0 : w1.cell? ⟨w.heap.size, 0, none⟩ = some (.int .u64 e) := (Later.mk w1 hb1).cell (by go_simp)
      have p1 : w1.cell? ⟨w.heap.size, 1, none⟩ = some (.slice a l.length c) := (Later.mk w1 hb1).cell (by go_simp)
      go_wp2_with fail
      refine (HD.out _ hbw1).mono ?_
      rintro r w2 ⟨v2, hr, hrep2, hb2⟩
      simp only at hr hrep2
      subst hr
      obtain ⟨a2, c2, hv2, _, _⟩ := sl_form hrep2
      simp only [List.cons.injEq, and_true] at hv2
      subst hv2
      have HR2 := hid hrep2; clear hrep2
      have hb12 : Below w1.heap.size w1 w2 := by (repeat (first | exact Below.refl _ _ | assumption | (refine below_alloc ?_ _) | (refine Below.setCell ?_ (by first | omega | (simp; done) | (simp; omega)) _) | (refine Below.drew ?_) | (refine below_drewN ?_ _) | (refine below_then (by assumption) ?_)))
      have hbw2 : Below w.heap.size w w2 := below_then hb12 hbw1
      have hz2 : w.heap.size < w2.heap.size := by have := hb12.size; omega
      have q0 : w2.cell? ⟨w.heap.size, 0, none⟩ = some (.int .u64 e) := (Later.mk w2 hb12).cell p0
      have q1 : w2.cell? ⟨w.heap.size, 1, none⟩ = some (.slice a l.length c) := (Later.mk w2 hb12).cell p1
      go_wp2_with fail
      refine (HR.out _ (by (repeat (first | exact Below.refl _ _ | assumption | (refine below_alloc ?_ _) | (refine Below.setCell ?_ (by first | omega | (simp; done) | (simp; omega)) _) | (refine Below.drew ?_) | (refine below_drewN ?_ _) | (refine below_then (by assumption) ?_))))).mono ?_
      rintro r w3 ⟨rfl, hb3⟩
      have hb23 : Below w2.heap.size w2 w3 := by (repeat (first | exact Below.refl _ _ | assumption | (refine below_alloc ?_ _) | (refine Below.setCell ?_ (by first | omega | (simp; done) | (simp; omega)) _) | (refine Below.drew ?_) | (refine below_drewN ?_ _) | (refine below_then (by assumption) ?_)))
      have hbw3 : Below w.heap.size w w3 := below_then hb23 hbw2
      have hz3 : w2.heap.size < w3.heap.size := by have := hb3.size; simp at this; omega
      have hz3' : w.heap.size < w3.heap.size := by omega
      have s0 : w3.cell? ⟨w.heap.size, 0, none⟩ = some (.int .u64 e) := (Later.mk w3 hb23).cell q0
      have s1 : w3.cell? ⟨w.heap.size, 1, none⟩ = some (.slice a l.length c) := (Later.mk w3 hb23).cell q1
      have s3 : w3.cell? ⟨w2.heap.size, 0, none⟩ = some (.int .u64 e) := (Later.mk w3 hb3).cell (by go_simp)
      have s4 : w3.cell? ⟨w2.heap.size, 1, none⟩ = some (.slice a2 L.length c2) := (Later.mk w3 hb3).cell (by go_simp)
      clear p0 p1 q0 q1
      have hU := upgrade_Up2 e L a2 L.length c2 w3 (lift HR2.out hb23) HCF.out (by rw [HLL.out]; omega) HCM.out
      rw [HUP.out] at hU
      have HU := hid hU; clear hU
      go_wp2_with fail
      refine HU.out.mono ?_
      rintro r w4 ⟨v4, hr, hrep4, hb4⟩
      simp only at hr hrep4
      subst hr
      obtain ⟨a4, c4, hv4, _, _⟩ := sl_form hrep4
      simp only [List.cons.injEq, and_true] at hv4
      rw [HLL.out] at hv4
      subst hv4
      have HR4 := hid hrep4; clear hrep4
      have hbw4 : Below w.heap.size w w4 := below_then hb4 hbw3
      have hz4 : w.heap.size < w4.heap.size := by have := hb4.size; omega
      have t0 : w4.cell? ⟨w.heap.size, 0, none⟩ = some (.int .u64 e) := (Later.mk w4 hb4).cell s0
      have t1 : w4.cell? ⟨w.heap.size, 1, none⟩ = some (.slice a l.length c) := (Later.mk w4 hb4).cell s1
      clear s0 s1 s3 s4
      have e1 : ((l.length : Int) != (l.length : Int)) = false := by simp
      have e2 : (e != e) = false := by simp
      go_wp2_with fail
      refine wp_world (fun W => Below w4.heap.size w4 W ∧ w4.heap.size < W.heap.size ∧ Blk W w4.heap.size 30 #[.int .u64 e, .slice a4 l.length c4]) ⟨by (repeat (first | exact Below.refl _ _ | assumption | (refine below_alloc ?_ _) | (refine Below.setCell ?_ (by first | omega | (simp; done) | (simp; omega)) _) | (refine Below.drew ?_) | (refine below_drewN ?_ _) | (refine below_then (by assumption) ?_))), by simp, by (repeat (first | assumption | exact Blk.newAt _ _ _ (by first | (simp; done) | (simp; omega)) | refine Blk.alloc ?_ _ | refine Blk.drew ?_ | refine Blk.drewN ?_ _ | refine Blk.far ?_ (by first | (simp; done) | (simp; omega)) _))⟩ ?_
      intro W ⟨hb5, hz5, q4⟩
      have t4 : W.cell? ⟨w4.heap.size, 0, none⟩ = some (.int .u64 e) := q4.cell 0
      have t5 : W.cell? ⟨w4.heap.size, 1, none⟩ = some (.slice a4 l.length c4) := q4.cell 1
      have t0' : W.cell? ⟨w.heap.size, 0, none⟩ = some (.int .u64 e) := (Later.mk W hb5).cell t0
      have t1' : W.cell? ⟨w.heap.size, 1, none⟩ = some (.slice a l.length c) := (Later.mk W hb5).cell t1
      have hbW : Below w.heap.size w W := below_then hb5 hbw4
      have hz6 : w.heap.size < W.heap.size := by omega
      clear t0 t1 q4
      have HRB := HR4
      clear e1 e2
      go_loopw [7] (fun i wr => ∃ k : Nat, k ≤ l.length ∧ i = .int .i64 k ∧ Below W.heap.size W wr) (fun i _ => l.length - (intOf i).toNat)
      case atStart => exact ⟨0, Nat.zero_le _, rfl, Below.refl _ _⟩
      case round =>
        obtain ⟨k, hk, rfl, hb⟩ := hrel
        have hbw := below_then hb hbW
        have hbw4' := below_then hb hb5
        have hws := hb.size
        have T1 := (hb.cell (p := ⟨w.heap.size, 1, none⟩) hz6).trans t1'
        have T5 := (hb.cell (p := ⟨w4.heap.size, 1, none⟩) hz5).trans t5
        rcases Nat.lt_or_ge k l.length with hlt | hge
        · obtain ⟨b, o, hA, hbb, a6, c6, x0, x1, x2, r0, r1, xl⟩ := batch_at HL.out hlt
          have hltL : k < L.length := by rw [HLL.out]; exact hlt
          obtain ⟨b', o', hA', hbb', a7, c7, y0, y1, y2, _, _, yl⟩ := batch_at HRB.out hltL
          have hLk : L[k] = cutB l[k] := by have h := HLE.out; subst h; simp
          rw [hLk] at y0 y1 y2 yl
          clear hLk
          have HLZ : Hid (∀ x ∈ l[k].entries, x.links.length ≤ 1000000) := hid (HLI.out _ (List.getElem_mem hlt))
          generalize l[k] = z at *
          subst hA
          subst hA'
          have y0 : w4.cell? ⟨b', o' + k * 3, none⟩ = some (.int .u64 z.epoch) := y0
          have y1 : w4.cell? ⟨b', o' + k * 3 + 1, none⟩ = some (.int .u64 z.base) := y1
          have y2 : w4.cell? ⟨b', o' + k * 3 + 2, none⟩ = some (.slice a7 (z.entries.map cutE).length c7) := y2
          have yl : rEntries.r (· < w4.heap.size) w4 [.slice a7 (z.entries.map cutE).length c7] (z.entries.map cutE) := yl
          rw [List.length_map] at y2 yl
          have X0 := (hbw.cell (p := ⟨b, o + k * 3, none⟩) hbb).trans x0
          have X1 := (hbw.cell (p := ⟨b, o + k * 3 + 1, none⟩) hbb).trans x1
          have X2 := (hbw.cell (p := ⟨b, o + k * 3 + 2, none⟩) hbb).trans x2
          have Y0 := (hbw4'.cell (p := ⟨b', o' + k * 3, none⟩) hbb').trans y0
          have Y1 := (hbw4'.cell (p := ⟨b', o' + k * 3 + 1, none⟩) hbb').trans y1
          have Y2 := (hbw4'.cell (p := ⟨b', o' + k * 3 + 2, none⟩) hbb').trans y2
          clear x0 x1 x2 y0 y1 y2
          have g0 : w.heap.size < wr.heap.size := by omega
          have g1 : w4.heap.size < wr.heap.size := by omega
          have g2 : b < wr.heap.size := Nat.lt_of_lt_of_le hbb (by omega)
          have g3 : b' < wr.heap.size := Nat.lt_of_lt_of_le hbb' (by omega)
          have i1 : (k : Int) < (l.length : Int) := by omega
          obtain ⟨_, zm1, zm2, zm3⟩ := sl_len xl
          have zle : z.entries.length ≤ 9223372036854775807 := by omega
          clear zm1 zm2 zm3
          have XL := hid xl; have YL := hid yl
          clear xl yl
          go_wp2_with fail
          go_big_region
          · have e1 : (z.epoch != z.epoch) = false := by simp
            have e2 : (z.base != z.base) = false := by simp
            have e3 : ((z.entries.length : Int) != (z.entries.length : Int)) = false := by simp
            refine then_world (fun V => Below wr.heap.size wr V ∧ wr.heap.size + 1 < V.heap.size ∧ (V.cell? ⟨wr.heap.size, 0, none⟩ = some (.int .u64 z.epoch) ∧ V.cell? ⟨wr.heap.size, 1, none⟩ = some (.int .u64 z.base) ∧ V.cell? ⟨wr.heap.size, 2, none⟩ = some (.slice a6 z.entries.length c6)) ∧ (V.cell? ⟨wr.heap.size + 1, 0, none⟩ = some (.int .u64 z.epoch) ∧ V.cell? ⟨wr.heap.size + 1, 1, none⟩ = some (.int .u64 z.base) ∧ V.cell? ⟨wr.heap.size + 1, 2, none⟩ = some (.slice a7 z.entries.length c7))) ⟨by (repeat (first | exact Below.refl _ _ | assumption | (refine below_alloc ?_ _) | (refine Below.setCell ?_ (by first | omega | (simp; done) | (simp; omega)) _) | (refine Below.drew ?_) | (refine below_drewN ?_ _) | (refine below_then (by assumption) ?_))), by simp, ⟨by go_simp, by go_simp, by go_simp⟩, ⟨by go_simp, by go_simp, by go_simp⟩⟩ ?_
            intro V ⟨hbV, hzV, ⟨uu0, uu1, uu2⟩, ⟨vv0, vv1, vv2⟩⟩
            clear T1 T5 X0 X1 X2 Y0 Y1 Y2
            have hVw := below_then hbV hbw
            have hVW := below_then hbV hb
            have hVw4 := below_then hbV hbw4'
            have hz8 : wr.heap.size < V.heap.size := by omega
            have hz9 : wr.heap.size + 1 < V.heap.size := by omega
            clear hbV hzV hws g0 g1 g2 g3
            generalize wr.heap.size = N at *
            have hxl : ∀ x ∈ z.entries, x.links.length ≤ 1000000 := HLZ.out
            have HXL := hid hxl
            clear hxl
            go_wp2_with fail
            clear e1 e2 e3 uu0 uu1 vv0 vv1
            go_loopw [10] (fun i wq => ∃ j : Nat, j ≤ z.entries.length ∧ i = .int .i64 j ∧ Below V.heap.size V wq) (fun i _ => z.entries.length - (intOf i).toNat)
            case atStart => exact ⟨0, Nat.zero_le _, rfl, Below.refl _ _⟩
            case round =>
              obtain ⟨j, hj, rfl, hq⟩ := hrel
              have P2 := (hq.cell (p := ⟨N, 2, none⟩) hz8).trans uu2
              have Q2 := (hq.cell (p := ⟨N + 1, 2, none⟩) hz9).trans vv2
              rcases Nat.lt_or_ge j z.entries.length with jlt | jge
              · obtain ⟨b3, o3, hA3, hbb3, a8, c8, a9, c9, m0, m1, ml, md⟩ := entry_at XL.out jlt
                obtain ⟨b4, o4, hA4, hbb4, a10, c10, a11, c11, n0, n1, nl, nd⟩ := entry_at YL.out (i := j) (by simpa using jlt)
                simp only [List.getElem_map] at n0 n1 nl nd
                have hxl := HXL.out _ (List.getElem_mem jlt)
                have hqw := below_then hq hVw
                have hqw4 := below_then hq hVw4
                have hqV := below_then hq hVW
                generalize z.entries[j] = x at *
                have hK := fun s : Later wr => law36_kept x (cutE x) a8 a9 a10 a11 _ c8 _ c9 _ c10 _ c11 s.at_ (lift ml (below_then s.below hqw)) (lift md (below_then s.below hqw)) (lift nl (below_then s.below hqw4)) (lift nd (below_then s.below hqw4)) hxl
                simp only [decide_true] at hK
                generalize cutE x = y at *
                have HK := hid hK
                clear hK ml md nl nd hxl
                subst hA3
                subst hA4
                have F0 := fun s : Later wr => s.cell P2
                have F1 := fun s : Later wr => s.cell Q2
                have F2 := fun s : Later wr => s.cell ((hqw.cell (p := ⟨b3, o3 + j * 2, none⟩) hbb3).trans m0)
                have F3 := fun s : Later wr => s.cell ((hqw.cell (p := ⟨b3, o3 + j * 2 + 1, none⟩) hbb3).trans m1)
                have F4 := fun s : Later wr => s.cell ((hqw4.cell (p := ⟨b4, o4 + j * 2, none⟩) hbb4).trans n0)
                have F5 := fun s : Later wr => s.cell ((hqw4.cell (p := ⟨b4, o4 + j * 2 + 1, none⟩) hbb4).trans n1)
                have d7 : decide ((j : Int) < (z.entries.length : Int)) = true := by simp; omega
                have d7' : decide (j < z.entries.length) = true := by simp; omega
                have i2 : (j : Int) < (z.entries.length : Int) := by omega
                clear m0 m1 n0 n1
                go_wp2_with fail
                refine wp_region_later (by kernel_rfl) (by kernel_rfl) ?_
                repeat (go_big_quiet_step (((go_at_call 22; exact later_of (HK.out _)))))
                refine wpQuiet_nil ?_
                rintro W5 ⟨⟨W5', hb5'⟩, rfl⟩
                clear F0 F1 F2 F3 F4 F5 P2 Q2
                go_wp2
                go_roundw
                case rel => exact ⟨j + 1, by omega, by go_num, below_then hb5' hq⟩
                case measure => simp [intOf]; omega
              · have d7 : decide ((j : Int) < (z.entries.length : Int)) = false := by simp; omega
                have d7' : decide (j < z.entries.length) = false := by simp; omega
                clear Q2
                have hqV := below_then hq hVW
                go_wp2
                go_roundw
                case rel => exact ⟨k + 1, by omega, by go_num, hqV⟩
                case measure => simp [intOf]; omega
          · have e1 : (z.epoch != z.epoch) = false := by simp
            have e2 : (z.base != z.base) = false := by simp
            have e3 : ((z.entries.length : Int) != (z.entries.length : Int)) = false := by simp
            refine then_world (fun V => Below wr.heap.size wr V ∧ wr.heap.size + 1 < V.heap.size ∧ (V.cell? ⟨wr.heap.size + 1, 0, none⟩ = some (.int .u64 z.epoch) ∧ V.cell? ⟨wr.heap.size + 1, 1, none⟩ = some (.int .u64 z.base) ∧ V.cell? ⟨wr.heap.size + 1, 2, none⟩ = some (.slice a6 z.entries.length c6)) ∧ (V.cell? ⟨wr.heap.size, 0, none⟩ = some (.int .u64 z.epoch) ∧ V.cell? ⟨wr.heap.size, 1, none⟩ = some (.int .u64 z.base) ∧ V.cell? ⟨wr.heap.size, 2, none⟩ = some (.slice a7 z.entries.length c7))) ⟨by (repeat (first | exact Below.refl _ _ | assumption | (refine below_alloc ?_ _) | (refine Below.setCell ?_ (by first | omega | (simp; done) | (simp; omega)) _) | (refine Below.drew ?_) | (refine below_drewN ?_ _) | (refine below_then (by assumption) ?_))), by simp, ⟨by go_simp, by go_simp, by go_simp⟩, ⟨by go_simp, by go_simp, by go_simp⟩⟩ ?_
            intro V ⟨hbV, hzV, ⟨uu0, uu1, uu2⟩, ⟨vv0, vv1, vv2⟩⟩
            clear T1 T5 X0 X1 X2 Y0 Y1 Y2
            have hVw := below_then hbV hbw
            have hVW := below_then hbV hb
            have hVw4 := below_then hbV hbw4'
            have hz8 : wr.heap.size + 1 < V.heap.size := by omega
            have hz9 : wr.heap.size < V.heap.size := by omega
            clear hbV hzV hws g0 g1 g2 g3
            generalize wr.heap.size = N at *
            have hxl : ∀ x ∈ z.entries, x.links.length ≤ 1000000 := HLZ.out
            have HXL := hid hxl
            clear hxl
            go_wp2_with fail
            clear e1 e2 e3 uu0 uu1 vv0 vv1
            go_loopw [10] (fun i wq => ∃ j : Nat, j ≤ z.entries.length ∧ i = .int .i64 j ∧ Below V.heap.size V wq) (fun i _ => z.entries.length - (intOf i).toNat)
            case atStart => exact ⟨0, Nat.zero_le _, rfl, Below.refl _ _⟩
            case round =>
              obtain ⟨j, hj, rfl, hq⟩ := hrel
              have P2 := (hq.cell (p := ⟨N + 1, 2, none⟩) hz8).trans uu2
              have Q2 := (hq.cell (p := ⟨N, 2, none⟩) hz9).trans vv2
              rcases Nat.lt_or_ge j z.entries.length with jlt | jge
              · obtain ⟨b3, o3, hA3, hbb3, a8, c8, a9, c9, m0, m1, ml, md⟩ := entry_at XL.out jlt
                obtain ⟨b4, o4, hA4, hbb4, a10, c10, a11, c11, n0, n1, nl, nd⟩ := entry_at YL.out (i := j) (by simpa using jlt)
                simp only [List.getElem_map] at n0 n1 nl nd
                have hxl := HXL.out _ (List.getElem_mem jlt)
                have hqw := below_then hq hVw
                have hqw4 := below_then hq hVw4
                have hqV := below_then hq hVW
                generalize z.entries[j] = x at *
                have hK := fun s : Later wr => law36_kept x (cutE x) a8 a9 a10 a11 _ c8 _ c9 _ c10 _ c11 s.at_ (lift ml (below_then s.below hqw)) (lift md (below_then s.below hqw)) (lift nl (below_then s.below hqw4)) (lift nd (below_then s.below hqw4)) hxl
                simp only [decide_true] at hK
                generalize cutE x = y at *
                have HK := hid hK
                clear hK ml md nl nd hxl
                subst hA3
                subst hA4
                have F0 := fun s : Later wr => s.cell P2
                have F1 := fun s : Later wr => s.cell Q2
                have F2 := fun s : Later wr => s.cell ((hqw.cell (p := ⟨b3, o3 + j * 2, none⟩) hbb3).trans m0)
                have F3 := fun s : Later wr => s.cell ((hqw.cell (p := ⟨b3, o3 + j * 2 + 1, none⟩) hbb3).trans m1)
                have F4 := fun s : Later wr => s.cell ((hqw4.cell (p := ⟨b4, o4 + j * 2, none⟩) hbb4).trans n0)
                have F5 := fun s : Later wr => s.cell ((hqw4.cell (p := ⟨b4, o4 + j * 2 + 1, none⟩) hbb4).trans n1)
                have d7 : decide ((j : Int) < (z.entries.length : Int)) = true := by simp; omega
                have d7' : decide (j < z.entries.length) = true := by simp; omega
                have i2 : (j : Int) < (z.entries.length : Int) := by omega
                clear m0 m1 n0 n1
                go_wp2_with fail
                refine wp_region_later (by kernel_rfl) (by kernel_rfl) ?_
                repeat (go_big_quiet_step (((go_at_call 22; exact later_of (HK.out _)))))
                refine wpQuiet_nil ?_
                rintro W5 ⟨⟨W5', hb5'⟩, rfl⟩
                clear F0 F1 F2 F3 F4 F5 P2 Q2
                go_wp2
                go_roundw
                case rel => exact ⟨j + 1, by omega, by go_num, below_then hb5' hq⟩
                case measure => simp [intOf]; omega
              · have d7 : decide ((j : Int) < (z.entries.length : Int)) = false := by simp; omega
                have d7' : decide (j < z.entries.length) = false := by simp; omega
                clear Q2
                have hqV := below_then hq hVW
                go_wp2
                go_roundw
                case rel => exact ⟨k + 1, by omega, by go_num, hqV⟩
                case measure => simp [intOf]; omega
        · have d7 : decide ((k : Int) < (l.length : Int)) = false := by simp; omega
          have d7' : decide (k < l.length) = false := by simp; omega
          clear T5
          go_wp2_with fail
          refine (live36 _).mono ?_
          rintro r w9 ⟨rfl, hb9⟩
          have hbe := below_then hb9 hbw
          go_wp2
          go_ret
          exact ⟨rfl, hbe⟩
  · rw [hlong] at HL1
    clear hlong
    go_enter Try.func5, Try.ntmps5
    go_wp2_with fail
    refine (HL1.out _ (by (repeat (first | exact Below.refl _ _ | assumption | (refine below_alloc ?_ _) | (refine Below.setCell ?_ (by first | omega | (simp; done) | (simp; omega)) _) | (refine Below.drew ?_) | (refine below_drewN ?_ _) | (refine below_then (by assumption) ?_))))).mono ?_
    rintro r w1 ⟨rfl, hb1⟩
    go_wp2_with fail
    refine (live36 _).mono ?_
    rintro r w9 ⟨rfl, hb9⟩
    go_wp2
    go_ret
    exact ⟨rfl, by (repeat (first | exact Below.refl _ _ | assumption | (refine below_alloc ?_ _) | (refine Below.setCell ?_ (by first | omega | (simp; done) | (simp; omega)) _) | (refine Below.drew ?_) | (refine below_drewN ?_ _) | (refine below_then (by assumption) ?_)))⟩
end Go.Proofs.Ytlbchenleimopaa
