/- PressLongest: the walk. -/
import Derived.Test.YtgcdbnbdbjaijaaPrO
namespace Go.Proofs.Ytgcdbnbdbjaijaa
open Go.RowKit Go.Bs Go.Maps
set_option linter.unusedVariables false
set_option linter.unusedSimpArgs false

theorem toks_len (b : List UInt8) : ∀ (f p i : Nat), (toksF b f p i).length ≤ 2 * f + 1
  | 0, p, i => by
    simp only [toksF, litT]
    split <;> simp
  | f + 1, p, i => by
    simp only [toksF]
    split
    · split
      · have := toks_len b f (p + 1) i; omega
      · have := toks_len b f (p + (bestR b p).2) (p + (bestR b p).2)
        simp only [List.length_append, List.length_cons, litT]
        split <;> simp <;> omega
    · simp only [litT]
      split <;> simp

set_option maxRecDepth 100000 in
set_option maxHeartbeats 6400000 in
theorem pressLongest_c (b : List UInt8) (a : Option Addr) (n c : Nat) (w : World) (hl : rBytes.r (· < w.heap.size) w [.slice a n c] b) :
    Calls Try.prog 3 #[.slice a n c] w fun r w' => r = .returned (.bool true) ∧ Below w.heap.size w w' := by
  obtain ⟨rfl, hm, _, _⟩ := sl_len hl
  by_cases h200 : b.length ≤ 200
  · have d1 : decide ((200 : Int) < (b.length : Int)) = false := by simp; omega
    have HT := hid (press_tokens w b a _ c hl (by omega))
    have hg := good_toksR b
    have htl : (toksR b).length ≤ 500 := by have := toks_len b b.length 0 0; unfold toksR; omega
    generalize hT : toksR b = T at *
    have HTT := hid hT; clear hT
    have HL := hid hl; clear hl
    have HG := hid hg; clear hg
    go_enter Try.func3, Try.ntmps3
    go_wp2_with fail
    refine HT.out.mono ?_
    rintro r w1 ⟨v, rfl, hr, hb1⟩
    obtain ⟨a1, c1, hv, hr2, _⟩ := sl_form hr
    simp only [List.cons.injEq, and_true] at hv
    subst hv
    have HR := hid (rToks.mono hr2 (S' := (· < w1.heap.size)) fun q hq => hq.2)
    clear hr hr2
    go_wp2_with fail
    go_loopw [5, 6] (fun p i wr => ∃ (p0 k : Nat) (f : Bool), p = .int .i64 p0 ∧ i = .int .i64 k ∧ k ≤ T.length ∧ Hid (Good b f p0 (T.drop k)) ∧ Hid (f = false → k = 0 ∨ ∃ t, T[k - 1]? = some t ∧ runB t = false) ∧ Below w1.heap.size w1 wr) (fun _ i _ => T.length - (intOf i).toNat)
    case atStart => exact ⟨0, 0, false, rfl, rfl, Nat.zero_le _, HG, hid (fun _ => .inl rfl), Below.refl _ _⟩
    case round =>
      obtain ⟨p, k, f, rfl, rfl, hk, hgd, hpv, hb⟩ := hrel
      have hbw : Below w.heap.size w wr := below_then hb hb1
      have hgd' := hgd.out
      rcases Nat.lt_or_ge k T.length with hlt | hge
      · obtain ⟨tb, to, hA, htb, a2, c2, x0, x1, x2, y1, y2, yl⟩ := tok_at HR.out hlt
        subst hA
        have X0 := (hb.cell (p := ⟨tb, to + k * 3, none⟩) htb).trans x0
        have X1 := (hb.cell (p := ⟨tb, to + k * 3 + 1, none⟩) htb).trans x1
        have X2 := (hb.cell (p := ⟨tb, to + k * 3 + 2, none⟩) htb).trans x2
        have hdr := List.drop_eq_getElem_cons hlt
        rw [hdr] at hgd'
        have HX := hid (And.intro x0 (And.intro x1 x2)); have HYL := hid yl
        clear x0 x1 x2 yl
        generalize hTk : T[k] = t at *
        have hTk2 : Hid (T[k]? = some t) := hid (by rw [List.getElem?_eq_getElem hlt, hTk])
        clear hTk
        generalize hrest : T.drop (k + 1) = rest at *
        have HRE := hid hrest
        clear hrest hdr
        have hltI : (k : Int) < (T.length : Int) := by omega
        cases hgd' with
        | @copy _ _ o m _ hp hbe hm0 hgr =>
          have hcf : copyB ⟨[], (o : Int), (m : Int)⟩ = true := by
            have h1 := bestR_facts b p
            rw [hbe] at h1
            have h2 := (bestR_room b p).1
            rw [hbe] at h2
            simp only at h2
            have k1 : 1 ≤ o ∧ o ≤ 65536 ∧ 4 ≤ m ∧ m ≤ 200 := by
              clear y1 y2
              rcases h1 with h1 | ⟨o', m', h1, g1, g2, g3, _⟩
              · simp only [Prod.mk.injEq] at h1; omega
              · simp only [Prod.mk.injEq] at h1
                unfold reach at g2
                omega
            show (decide (([] : List UInt8).length = 0) && (decide ((1 : Int) ≤ (o : Int)) && (decide ((o : Int) ≤ 65536) && (decide ((4 : Int) ≤ (m : Int)) && decide ((m : Int) ≤ 1048576))))) = true
            clear y1 y2
            simp
            omega
          have hrf : runB ⟨[], (o : Int), (m : Int)⟩ = false := by
            simp [runB]
          have HC := hid (fun (W : World) => ref11_copy ⟨[], (o : Int), (m : Int)⟩ a2 c2 W (by simp) y1 y2)
          have HB := hid (fun (W : World) (hW : Below w.heap.size w W) => ref14_best1 b p a _ c W (lift HL.out hW) (by omega))
          have hroom := bestR_room b p
          rw [hbe] at HB hroom
          have HCF := hid hcf; have HRF := hid hrf; have HGR := hid hgr
          have em : ((m : Int) != (m : Int)) = false := by simp
          have eo : ((o : Int) != (o : Int)) = false := by simp
          have hpm : p + m ≤ b.length := by simp only at hroom; omega
          clear hbe hcf hrf hgr hroom
          simp only [List.length_nil] at *
          go_wp2_with fail
          refine (HC.out _).mono ?_
          rintro r w2 ⟨hr, hb2⟩
          rw [HCF.out] at hr
          subst hr
          have hb12 := below_then hb2 hb
          have Y1 := (hb2.cell (p := ⟨tb, to + k * 3 + 1, none⟩) (by have := hb.size; show tb < _; have htb' : tb < w1.heap.size := htb; omega)).trans X1
          have Y2 := (hb2.cell (p := ⟨tb, to + k * 3 + 2, none⟩) (by have := hb.size; show tb < _; have htb' : tb < w1.heap.size := htb; omega)).trans X2
          go_wp2_with fail
          refine (HB.out _ (below_then hb2 hbw)).mono ?_
          rintro r w3 ⟨rfl, hb3⟩
          have hb13 := below_then hb3 hb12
          have Z1 := (hb3.cell (p := ⟨tb, to + k * 3 + 1, none⟩) (by have := hb12.size; show tb < _; have htb' : tb < w1.heap.size := htb; omega)).trans Y1
          have Z2 := (hb3.cell (p := ⟨tb, to + k * 3 + 2, none⟩) (by have := hb12.size; show tb < _; have htb' : tb < w1.heap.size := htb; omega)).trans Y2
          clear X0 X1 X2 Y1 Y2
          go_wp2_with fail
          go_roundw
          case rel => first | exact ⟨p + m, k + 1, false, by go_num, by go_num, by omega, hid (by rw [HRE.out]; exact HGR.out), hid (fun _ => .inr ⟨_, hTk2.out, HRF.out⟩), hb13⟩ | ((repeat apply Exists.intro); refine ⟨?_, ?_⟩; rotate_left; rfl; exact ⟨p + m, k + 1, false, by go_num, by go_num, by omega, hid (by rw [HRE.out]; exact HGR.out), hid (fun _ => .inr ⟨_, hTk2.out, HRF.out⟩), hb13⟩)
          case measure => simp [intOf]; omega
        | @run _ q _ hpq hqb hno hgr =>
          have hDl : ((b.drop p).take (q - p)).length = q - p := by simp; omega
          have hrf : runB ⟨(b.drop p).take (q - p), 0, 0⟩ = true := by
            clear y1 y2
            show (decide ((0 : Int) = 0) && (decide ((0 : Int) = 0) && (decide (1 ≤ ((b.drop p).take (q - p)).length) && decide (((b.drop p).take (q - p)).length ≤ 1048576)))) = true
            rw [hDl]
            simp
            omega
          have hcf : copyB ⟨(b.drop p).take (q - p), 0, 0⟩ = false := by simp [copyB]
          have HD : Hid (∀ r (h : r < ((b.drop p).take (q - p)).length) (h2 : p + r < b.length), ((b.drop p).take (q - p))[r] = b[p + r]) := hid (fun r h h2 => by simp)
          have HDL := hid hDl
          dsimp only at HX HYL X0 X1 X2 y1 y2
          clear hDl
          generalize hDD : (b.drop p).take (q - p) = D at *
          clear hDD
          have hD200 : D.length ≤ 200 := by have := HDL.out; omega
          have HC := hid (fun (W : World) => ref11_copy ⟨D, 0, 0⟩ a2 c2 W (by dsimp only; omega) y1 y2)
          have HRU := hid (fun (W : World) => ref11_run ⟨D, 0, 0⟩ a2 c2 W (by dsimp only; omega) y1 y2)
          rw [hcf] at HC
          rw [hrf] at HRU
          have HNO := hid hno; have HGR := hid hgr; have HRF := hid hrf
          have hpv' := hpv.out rfl
          clear hcf hrf hno hgr y1 y2
          rcases Nat.eq_zero_or_pos k with hk0 | hk0
          · subst hk0
            have d0 : decide ((0 : Int) < 0) = false := by decide
            simp only [Nat.zero_mul, Nat.add_zero, Nat.zero_add] at X0 X1 X2
            clear hpv'
            go_wp2_with fail
            refine (HC.out _).mono ?_
            rintro r w2 ⟨rfl, hb2⟩
            have hbA := below_then hb2 hb
            have Y0 := (hbA.cell (p := ⟨tb, to, none⟩) htb).trans HX.out.1
            have Y1 := (hbA.cell (p := ⟨tb, to + 1, none⟩) htb).trans HX.out.2.1
            have Y2 := (hbA.cell (p := ⟨tb, to + 2, none⟩) htb).trans HX.out.2.2
            clear X0 X1 X2
            go_wp2_with fail
            refine (HRU.out _).mono ?_
            rintro r w3 ⟨rfl, hb3⟩
            have hbS := below_then hb3 hbA
            clear Y0 Y1 Y2 hb2 hb3
            go_wp2_with fail
            go_loopw [5, 9] (fun at_ kk ws => ∃ x r : Nat, at_ = .int .i64 x ∧ kk = .int .i64 r ∧ r ≤ D.length ∧ Hid (x = p + r) ∧ Below w1.heap.size w1 ws) (fun _ kk _ => D.length - (intOf kk).toNat)
            case atStart => exact ⟨p, 0, rfl, rfl, Nat.zero_le _, hid rfl, hbS⟩
            case round =>
              obtain ⟨x, r, rfl, rfl, hr, hxr, hbI⟩ := hrel
              have X0 := (hbI.cell (p := ⟨tb, to, none⟩) htb).trans HX.out.1
              rcases Nat.lt_or_ge r D.length with hrl | hrg
              · have d2 : decide ((r : Int) < (D.length : Int)) = true := by simp; omega
                have hxl : x < b.length := by have := hxr.out; have := HDL.out; omega
                have d3 : decide ((b.length : Int) ≤ (x : Int)) = false := by simp; omega
                have d3' : decide (b.length ≤ x) = false := by simp; omega
                have hbIw : Below w.heap.size w wr := below_then hbI hb1
                have HB := hid (ref14_best1 b x a _ c wr (lift HL.out hbIw) (by omega))
                have hz : (bestR b x).2 = 0 := by rw [hxr.out]; exact HNO.out _ (by omega) (by have := HDL.out; omega)
                rw [hz] at HB
                clear hz
                generalize (bestR b x).1 = oo at *
                obtain ⟨lb, lo, hA2, hlb, hlc⟩ := byte_at HYL.out hrl
                obtain ⟨bb, bo, hA3, hbb, hbc⟩ := byte_at HL.out hxl
                have hDr : D[r] = b[x] := by rw [HD.out r hrl (by rw [← hxr.out]; exact hxl)]; congr 1; exact hxr.out.symm
                rw [hDr] at hlc
                generalize b[x] = y at *
                have hlcI := hid hlc; have hbcI := hid hbc
                clear hlc hbc hDr
                subst hA2
                subst hA3
                go_wp2_with fail
                refine HB.out.mono ?_
                rintro rr w5 ⟨rfl, hb5⟩
                have hbJ := below_then hb5 hbI
                have X0' := fun s : Later w5 => s.cell ((hbJ.cell (p := ⟨tb, to, none⟩) htb).trans HX.out.1)
                have L1 := fun s : Later w5 => s.cell ((hbJ.cell (p := ⟨lb, lo + r, none⟩) hlb).trans hlcI.out)
                have L2 := fun s : Later w5 => s.cell (((below_then hbJ hb1).cell (p := ⟨bb, bo + x, none⟩) hbb).trans hbcI.out)
                have e1 : ((y.toNat : Int) != (y.toNat : Int)) = false := by simp
                have i1 : (r : Int) < (D.length : Int) := by omega
                have i2 : (x : Int) < (b.length : Int) := by omega
                clear X0
                go_wp2_with fail
                refine wp_region_later (by kernel_rfl) (by kernel_rfl) ?_
                repeat (go_big_quiet_step (fail))
                refine wpQuiet_nil ?_
                rintro W5 ⟨⟨W5', hb6⟩, rfl⟩
                go_wp2
                go_roundw
                case rel => first | exact ⟨x + 1, r + 1, by go_num, by go_num, by omega, hid (by rw [hxr.out]; omega), below_then hb6 hbJ⟩ | ((repeat apply Exists.intro); refine ⟨?_, ?_⟩; rotate_left; rfl; exact ⟨x + 1, r + 1, by go_num, by go_num, by omega, hid (by rw [hxr.out]; omega), below_then hb6 hbJ⟩)
                case measure => simp [intOf]; omega
              · have d2 : decide ((r : Int) < (D.length : Int)) = false := by simp; omega
                have hxq : Hid (x = q) := hid (by have := hxr.out; have := HDL.out; omega)
                go_wp2
                go_roundw
                case rel => first | exact ⟨x, 0 + 1, true, (by first | rfl | go_num), (by first | rfl | go_num), by omega, hid (by rw [HRE.out, hxq.out]; exact HGR.out), hid (fun e => by cases e), hbI⟩ | ((repeat apply Exists.intro); refine ⟨?_, ?_⟩; rotate_left; rfl; exact ⟨x, 0 + 1, true, (by first | rfl | go_num), (by first | rfl | go_num), by omega, hid (by rw [HRE.out, hxq.out]; exact HGR.out), hid (fun e => by cases e), hbI⟩)
                case measure => simp [intOf]; omega
          · obtain ⟨t', ht1, ht2⟩ := hpv'.resolve_left (by omega)
            clear hpv'
            obtain ⟨j, rfl⟩ : ∃ j, k = j + 1 := ⟨k - 1, by omega⟩
            have d0 : decide ((0 : Int) < (j : Int) + 1) = true := decide_eq_true (by omega)
            obtain ⟨tb2, to2, hA2, htb2, a4, c4, q0, q1, q2, v1, v2, vl⟩ := tok_at HR.out (i := j) (by omega)
            simp only [Option.some.injEq, Addr.mk.injEq, and_true] at hA2
            obtain ⟨rfl, rfl⟩ := hA2
            have htj : T[j] = t' := by
              rw [Nat.add_sub_cancel, List.getElem?_eq_getElem (by omega)] at ht1
              exact Option.some.inj ht1
            rw [htj] at q0 q1 q2 v1 v2 vl
            have HP2 := hid (fun (W : World) => ref11_run t' a4 c4 W (by have := (sl_len vl).2.1; omega) v1 v2)
            rw [ht2] at HP2
            clear ht1 ht2 htj v1 v2 vl
            go_wp2_with fail
            refine (HC.out _).mono ?_
            rintro r w2 ⟨rfl, hb2⟩
            have hbA := below_then hb2 hb
            have Y0 := (hbA.cell (p := ⟨tb, to + (j + 1) * 3, none⟩) htb).trans HX.out.1
            have Y1 := (hbA.cell (p := ⟨tb, to + (j + 1) * 3 + 1, none⟩) htb).trans HX.out.2.1
            have Y2 := (hbA.cell (p := ⟨tb, to + (j + 1) * 3 + 2, none⟩) htb).trans HX.out.2.2
            clear X0 X1 X2
            go_wp2_with fail
            refine (HRU.out _).mono ?_
            rintro r w3 ⟨rfl, hb3⟩
            have hbS := below_then hb3 hbA
            clear Y0 Y1 Y2 hb2 hb3
            have Z0 := (hbS.cell (p := ⟨tb, to + j * 3, none⟩) htb).trans q0
            have Z1 := (hbS.cell (p := ⟨tb, to + j * 3 + 1, none⟩) htb).trans q1
            have Z2 := (hbS.cell (p := ⟨tb, to + j * 3 + 2, none⟩) htb).trans q2
            have kk1 : (j : Int) + 1 - 1 = (j : Int) := by omega
            have kk2 : (j : Int) < (T.length : Int) := by omega
            go_wp2_with fail
            refine (HP2.out _).mono ?_
            rintro r w4 ⟨rfl, hb4⟩
            have hbS := below_then hb4 hbS
            clear Z0 Z1 Z2 hb4 hbA kk1 kk2
            go_wp2_with fail
            go_loopw [5, 9] (fun at_ kk ws => ∃ x r : Nat, at_ = .int .i64 x ∧ kk = .int .i64 r ∧ r ≤ D.length ∧ Hid (x = p + r) ∧ Below w1.heap.size w1 ws) (fun _ kk _ => D.length - (intOf kk).toNat)
            case atStart => exact ⟨p, 0, rfl, rfl, Nat.zero_le _, hid rfl, hbS⟩
            case round =>
              obtain ⟨x, r, rfl, rfl, hr, hxr, hbI⟩ := hrel
              have X0 := (hbI.cell (p := ⟨tb, to + (j + 1) * 3, none⟩) htb).trans HX.out.1
              rcases Nat.lt_or_ge r D.length with hrl | hrg
              · have d2 : decide ((r : Int) < (D.length : Int)) = true := by simp; omega
                have hxl : x < b.length := by have := hxr.out; have := HDL.out; omega
                have d3 : decide ((b.length : Int) ≤ (x : Int)) = false := by simp; omega
                have d3' : decide (b.length ≤ x) = false := by simp; omega
                have hbIw : Below w.heap.size w wr := below_then hbI hb1
                have HB := hid (ref14_best1 b x a _ c wr (lift HL.out hbIw) (by omega))
                have hz : (bestR b x).2 = 0 := by rw [hxr.out]; exact HNO.out _ (by omega) (by have := HDL.out; omega)
                rw [hz] at HB
                clear hz
                generalize (bestR b x).1 = oo at *
                obtain ⟨lb, lo, hA2, hlb, hlc⟩ := byte_at HYL.out hrl
                obtain ⟨bb, bo, hA3, hbb, hbc⟩ := byte_at HL.out hxl
                have hDr : D[r] = b[x] := by rw [HD.out r hrl (by rw [← hxr.out]; exact hxl)]; congr 1; exact hxr.out.symm
                rw [hDr] at hlc
                generalize b[x] = y at *
                have hlcI := hid hlc; have hbcI := hid hbc
                clear hlc hbc hDr
                subst hA2
                subst hA3
                go_wp2_with fail
                refine HB.out.mono ?_
                rintro rr w5 ⟨rfl, hb5⟩
                have hbJ := below_then hb5 hbI
                have X0' := fun s : Later w5 => s.cell ((hbJ.cell (p := ⟨tb, to + (j + 1) * 3, none⟩) htb).trans HX.out.1)
                have L1 := fun s : Later w5 => s.cell ((hbJ.cell (p := ⟨lb, lo + r, none⟩) hlb).trans hlcI.out)
                have L2 := fun s : Later w5 => s.cell (((below_then hbJ hb1).cell (p := ⟨bb, bo + x, none⟩) hbb).trans hbcI.out)
                have e1 : ((y.toNat : Int) != (y.toNat : Int)) = false := by simp
                have i1 : (r : Int) < (D.length : Int) := by omega
                have i2 : (x : Int) < (b.length : Int) := by omega
                clear X0
                go_wp2_with fail
                refine wp_region_later (by kernel_rfl) (by kernel_rfl) ?_
                repeat (go_big_quiet_step (fail))
                refine wpQuiet_nil ?_
                rintro W5 ⟨⟨W5', hb6⟩, rfl⟩
                go_wp2
                go_roundw
                case rel => first | exact ⟨x + 1, r + 1, by go_num, by go_num, by omega, hid (by rw [hxr.out]; omega), below_then hb6 hbJ⟩ | ((repeat apply Exists.intro); refine ⟨?_, ?_⟩; rotate_left; rfl; exact ⟨x + 1, r + 1, by go_num, by go_num, by omega, hid (by rw [hxr.out]; omega), below_then hb6 hbJ⟩)
                case measure => simp [intOf]; omega
              · have d2 : decide ((r : Int) < (D.length : Int)) = false := by simp; omega
                have hxq : Hid (x = q) := hid (by have := hxr.out; have := HDL.out; omega)
                go_wp2
                go_roundw
                case rel => first | exact ⟨x, j + 1 + 1, true, (by first | rfl | go_num), (by first | rfl | go_num), by omega, hid (by rw [HRE.out, hxq.out]; exact HGR.out), hid (fun e => by cases e), hbI⟩ | ((repeat apply Exists.intro); refine ⟨?_, ?_⟩; rotate_left; rfl; exact ⟨x, j + 1 + 1, true, (by first | rfl | go_num), (by first | rfl | go_num), by omega, hid (by rw [HRE.out, hxq.out]; exact HGR.out), hid (fun e => by cases e), hbI⟩)
                case measure => simp [intOf]; omega
      · have hd : T.drop k = [] := List.drop_eq_nil_of_le hge
        rw [hd] at hgd'
        have hpe : p = b.length := by cases hgd'; rfl
        subst hpe
        have dk : decide ((k : Int) < (T.length : Int)) = false := by simp; omega
        have dk' : decide (k < T.length) = false := by simp; omega
        have de : ((b.length : Int) == (b.length : Int)) = true := by simp
        clear hd hgd' hpv hgd HT
        go_wp2_with fail
        refine (live15 _).mono ?_
        rintro r w9 ⟨rfl, hb9⟩
        have hb10 : Below w.heap.size w w9 := below_then hb9 hbw
        go_wp2
        go_ret
        exact ⟨rfl, hb10⟩
  · have d1 : decide ((200 : Int) < (b.length : Int)) = true := by simp; omega
    go_enter Try.func3, Try.ntmps3
    go_wp2_with fail
    refine (live15 _).mono ?_
    rintro r w9 ⟨rfl, hb9⟩
    go_wp2
    go_ret
    exact ⟨rfl, hb9⟩
end Go.Proofs.Ytgcdbnbdbjaijaa
