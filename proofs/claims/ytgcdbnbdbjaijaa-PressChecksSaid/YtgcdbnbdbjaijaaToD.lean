/- Tokens, written: token.Bytes. -/
import Derived.Test.YtgcdbnbdbjaijaaToC
namespace Go.Proofs.Ytgcdbnbdbjaijaa
open Go.RowKit Go.Bs Go.Maps
set_option linter.unusedVariables false
set_option linter.unusedSimpArgs false

theorem PenAt.below {w w' : World} {g base most : Nat} {J J' : List UInt8} {a : Option Addr} {c B : Nat} (h : PenAt w g base most J a c) (hB : B ≤ base) (hB2 : B ≤ w.heap.size) (k : PenStep w g base most J' a w') : Below B w w' := by
  obtain ⟨a', c', k1, k2, k3⟩ := k
  exact k2.to_below hB2 fun b _ hb => Nat.le_trans hB (h.own_lt hb).1

set_option maxRecDepth 100000 in
set_option maxHeartbeats 3200000 in
theorem token_bytes (xs : List Tok) (a : Option Addr) (n c : Nat) (w : World) (hl : rToks.r (· < w.heap.size) w [.slice a n c] xs) (hx : xs.length ≤ 10000000) (hR : ∀ t ∈ xs, rightB t = true) :
    Calls Try.prog 59 #[.slice a n c] w fun r w' => ∃ v, r = .returned (.tuple #[v, .int .i64 0]) ∧ rBytes.r (fun q => w.heap.size ≤ q ∧ q < w'.heap.size) w' [v] (tokensB xs) ∧ Below w.heap.size w w' := by
  obtain ⟨rfl, hm, _, _⟩ := sl_len hl
  have hL : ∀ t ∈ xs, t.lit.length ≤ 1048576 := fun t ht => by
    rcases right_forms (hR t ht) with ⟨D, rfl, h1, h2⟩ | ⟨o, m, rfl, _⟩
    · exact h2
    · simp
  have HRM := hid (token_room xs a _ c w hl hx hL)
  have hrl := roomT_le xs hL xs.length (Nat.le_refl _)
  rw [List.take_length] at hrl
  have HMO := hid (fun k => roomT_mono xs k)
  have HL := hid hl; have HR := hid hR
  clear hl hR hL
  generalize hM : roomT xs = M at *
  have hMM := hid hM; clear hM
  go_enter Try.func59, Try.ntmps59
  go_wp2_with fail
  refine HRM.out.mono ?_
  rintro r w1 ⟨rfl, hb1⟩
  have HN := hid (pen_new w1 M (by omega))
  go_wp2_with fail
  refine HN.out.mono ?_
  rintro r w2 ⟨rfl, hp2, hb2⟩
  have hs1 := hb1.size
  have hs2 := hb2.size
  have HP2 := hid hp2
  have hbw2 := below_then hb2 hb1
  clear hp2
  generalize hg : w1.heap.size = g at *
  go_wp2_with fail
  go_loopw [12] (fun i wr => ∃ k : Nat, k ≤ xs.length ∧ i = .int .i64 k ∧ Hid (∃ ap cp, PenAt wr g g M (tokensB (xs.take k)) ap cp) ∧ Below g w2 wr) (fun i _ => xs.length - (intOf i).toNat)
  case atStart => exact ⟨0, Nat.zero_le _, rfl, hid ⟨_, _, by simpa [tokensB] using HP2.out⟩, Below.refl _ _⟩
  case round =>
    obtain ⟨k, hk, rfl, hpen, hb⟩ := hrel
    obtain ⟨ap, cp, hP⟩ := hpen.out
    have hbw : Below w.heap.size w wr := ⟨hb.os.trans hbw2.os, hb.tape.trans hbw2.tape, hb.output.trans hbw2.output, by have := hb.size; omega, fun q hq => (hb.block q (by omega)).trans (hbw2.block q hq)⟩
    have hgl := hP.blk.lt
    rcases Nat.lt_or_ge k xs.length with hlt | hge
    · obtain ⟨b, o, hA, hbb, a2, c2, x0, x1, x2, _, _, xl⟩ := tok_at HL.out hlt
      subst hA
      have X0 := (hbw.cell (p := ⟨b, o + k * 3, none⟩) hbb).trans x0
      have X1 := (hbw.cell (p := ⟨b, o + k * 3 + 1, none⟩) hbb).trans x1
      have X2 := (hbw.cell (p := ⟨b, o + k * 3 + 2, none⟩) hbb).trans x2
      have hst := tokensB_step xs k hlt
      have hfit : (tokensB (xs.take k)).length + (tokB xs[k]).length ≤ M := by
        have h1 := tokensB_len (xs.take (k + 1))
        rw [hst, List.length_append] at h1
        have h2 := HMO.out (k + 1)
        omega
      have hr := HR.out _ (List.getElem_mem hlt)
      have HST := hid hst
      have HXL := hid xl
      have HFIT := hid hfit
      clear x0 x1 x2 xl hst hfit
      generalize xs[k] = y at *
      generalize tokensB (xs.take k) = J at *
      have hbs := hb.size
      have i1 : (k : Int) < (xs.length : Int) := by omega
      have HP := hid hP
      clear hP hpen
      rcases right_forms hr with ⟨D, rfl, k1, k2⟩ | ⟨yo, ym, rfl, k1, k2, k3, k4⟩
      · dsimp only at X0 X1 X2 HXL
        clear hr
        go_wp2_with fail
        have hbW : Below wr.heap.size wr (wr.alloc (.cells #[.slice a2 D.length c2, .int .i64 0, .int .i64 0] 30)) := by (repeat (first | exact Below.refl _ _ | assumption | (refine below_alloc ?_ _) | (refine Below.setCell ?_ (by first | omega | (simp; done) | (simp; omega)) _) | (refine Below.drew ?_) | (refine below_drewN ?_ _) | (refine below_then (by assumption) ?_)))
        generalize wr.alloc (.cells #[.slice a2 D.length c2, .int .i64 0, .int .i64 0] 30) = W at *
        have hzW := hbW.size
        have hPW := HP.out.later hbW
        have HQ := hid (token_put_run W hPW D k1 k2 a2 c2 (rBytes.mono (rBytes.keep HXL.out fun q hq => (below_then hbW hbw).block q hq) fun q hq => ⟨Nat.lt_of_lt_of_le hq (by have := hbw.size; omega), fun hf => by have := (hPW.own_lt hf).1; have hq' : q < w.heap.size := hq; omega⟩) HFIT.out (by have := HFIT.out; omega))
        have HPW := hid hPW
        clear X0 X1 X2 hPW
        refine HQ.out.mono ?_
        rintro r w5 ⟨rfl, hps⟩
        have hb5 : Below g w2 w5 := by
          have e1 : Below g W w5 := HPW.out.below (Nat.le_refl _) (by omega) hps
          exact (hb.trans (hbW.mono (by omega))).trans e1
        obtain ⟨a5, c5, hP5, _, _⟩ := hps
        have HP5 := hid (⟨a5, c5, by rw [HST.out]; exact hP5⟩ : ∃ ap cp, PenAt w5 g g M (tokensB (xs.take (k + 1))) ap cp)
        clear hP5
        go_wp2
        go_roundw
        case rel => exact ⟨k + 1, by omega, by go_num, HP5, hb5⟩
        case measure => simp [intOf]; omega
      · dsimp only [List.length_nil] at X0 X1 X2 HXL
        clear hr
        go_wp2_with fail
        have hbW : Below wr.heap.size wr (wr.alloc (.cells #[.slice a2 0 c2, .int .i64 yo, .int .i64 ym] 30)) := by (repeat (first | exact Below.refl _ _ | assumption | (refine below_alloc ?_ _) | (refine Below.setCell ?_ (by first | omega | (simp; done) | (simp; omega)) _) | (refine Below.drew ?_) | (refine below_drewN ?_ _) | (refine below_then (by assumption) ?_)))
        generalize wr.alloc (.cells #[.slice a2 0 c2, .int .i64 yo, .int .i64 ym] 30) = W at *
        have hzW := hbW.size
        have hPW := HP.out.later hbW
        have HQ := hid (token_put_copy W hPW yo ym k1 k2 k3 k4 a2 c2 HFIT.out (by have := HFIT.out; omega))
        have HPW := hid hPW
        clear X0 X1 X2 hPW
        refine HQ.out.mono ?_
        rintro r w5 ⟨rfl, hps⟩
        have hb5 : Below g w2 w5 := by
          have e1 : Below g W w5 := HPW.out.below (Nat.le_refl _) (by omega) hps
          exact (hb.trans (hbW.mono (by omega))).trans e1
        obtain ⟨a5, c5, hP5, _, _⟩ := hps
        have HP5 := hid (⟨a5, c5, by rw [HST.out]; exact hP5⟩ : ∃ ap cp, PenAt w5 g g M (tokensB (xs.take (k + 1))) ap cp)
        clear hP5
        go_wp2
        go_roundw
        case rel => exact ⟨k + 1, by omega, by go_num, HP5, hb5⟩
        case measure => simp [intOf]; omega
    · obtain rfl : k = xs.length := by omega
      rw [List.take_length] at hP
      have HB := hid (pen_bytes wr hP)
      clear hP hpen
      go_wp2_with fail
      refine HB.out.mono ?_
      rintro r w5 ⟨v, rfl, hv, hb5⟩
      have hbe := below_then hb5 hbw
      have HV := hid (rBytes.mono (S' := fun q => w.heap.size ≤ q ∧ q < w5.heap.size) hv fun q hq => ⟨by have := hq.1; have := hbw.size; omega, hq.2⟩)
      clear hv
      go_wp2
      go_ret2
      exact ⟨_, rfl, HV.out, hbe⟩
end Go.Proofs.Ytgcdbnbdbjaijaa
