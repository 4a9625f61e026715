/- The document's bytes of tokens. -/
import Derived.Test.YtgcdbnbdbjaijaaToD
namespace Go.Proofs.Ytgcdbnbdbjaijaa
open Go.RowKit Go.Bs Go.Maps
set_option linter.unusedVariables false
set_option linter.unusedSimpArgs false

theorem byteCells_app (J D : List UInt8) : byteCells J ++ byteCells D = byteCells (J ++ D) := by simp [byteCells]

set_option maxRecDepth 100000 in
set_option maxHeartbeats 3200000 in
theorem ref11_bytes (xs : List Tok) (a : Option Addr) (n c : Nat) (w : World) (hl : rToks.r (· < w.heap.size) w [.slice a n c] xs) (hx : xs.length ≤ 10000000) (hR : ∀ t ∈ xs, rightB t = true) :
    Calls Try.prog 22 #[.slice a n c] w fun r w' => ∃ v, r = .returned v ∧ rBytes.r (fun q => w.heap.size ≤ q ∧ q < w'.heap.size) w' [v] (tokensB xs) ∧ Below w.heap.size w w' := by
  obtain ⟨rfl, hm, _, _⟩ := sl_len hl
  obtain ⟨i0, hi, hz0, hz1, hz2⟩ := info_parts info8
  have hL : ∀ t ∈ xs, t.lit.length ≤ 1048576 := fun t ht => by
    rcases right_forms (hR t ht) with ⟨D, rfl, h1, h2⟩ | ⟨o, m, rfl, _⟩
    · exact h2
    · simp
  have HRL := hid (fun k (hk : k ≤ xs.length) => Nat.le_trans (tokensB_len (xs.take k)) (roomT_le xs hL k hk))
  have HL := hid hl; have HR := hid hR
  clear hl hR hL
  go_enter Try.func22, Try.ntmps22
  go_wp2_with fail
  go_loopw [3, 4] (fun v i wr => ∃ k : Nat, k ≤ xs.length ∧ i = .int .i64 k ∧ wr.ownsRow w.heap.size 5 1 v (tokensB (xs.take k)).length (byteCells (tokensB (xs.take k))) ∧ Below w.heap.size w wr) (fun _ i _ => xs.length - (intOf i).toNat)
  case atStart => exact ⟨0, Nat.zero_le _, rfl, ⟨rfl, .inl ⟨rfl, rfl⟩⟩, Below.refl _ _⟩
  case round =>
    obtain ⟨k, hk, rfl, hown, hb⟩ := hrel
    have hbs := hb.size
    rcases Nat.lt_or_ge k xs.length with hlt | hge
    · obtain ⟨b, o, hA, hbb, a2, c2, x0, x1, x2, _, _, xl⟩ := tok_at HL.out hlt
      subst hA
      have X0 := (hb.cell (p := ⟨b, o + k * 3, none⟩) hbb).trans x0
      have X1 := (hb.cell (p := ⟨b, o + k * 3 + 1, none⟩) hbb).trans x1
      have X2 := (hb.cell (p := ⟨b, o + k * 3 + 2, none⟩) hbb).trans x2
      have hst := hid (tokensB_step xs k hlt)
      have hle := HRL.out (k + 1) hlt
      rw [hst.out, List.length_append] at hle
      have hr := HR.out _ (List.getElem_mem hlt)
      have HXL := hid xl
      have HX := hid (And.intro x0 (And.intro x1 x2))
      clear x0 x1 x2 xl
      obtain ⟨aJ, cJ, rfl⟩ := own_form hown
      generalize xs[k] = y at *
      generalize tokensB (xs.take k) = J at *
      have i1 : (k : Int) < (xs.length : Int) := by omega
      have HO := hid hown
      clear hown
      rcases right_forms hr with ⟨D, rfl, k1, k2⟩ | ⟨yo, ym, rfl, k1, k2, k3, k4⟩
      · have hrun : runB ⟨D, 0, 0⟩ = true := by simp [runB]; omega
        have HRUN := hid (ref11_run ⟨D, 0, 0⟩ a2 c2 wr (by dsimp only; omega) ⟨by simp, by simp⟩ ⟨by simp, by simp⟩)
        rw [hrun] at HRUN
        have hT := tokB_run D k1 k2
        rw [hT] at hle hst
        rw [List.length_append] at hle
        have HV := hid (fun (W : World) => ref04_bytes (2 * D.length - 2) (by omega) W)
        rw [show (((2 * D.length - 2 : Nat)) : Int) = 2 * (D.length : Int) - 2 by omega] at HV
        dsimp only at X0 X1 X2 HXL HX
        clear hr hrun hT
        go_wp2_with fail
        refine HRUN.out.mono ?_
        rintro r w1 ⟨rfl, hb1⟩
        have hbw1 := below_then hb1 hb
        have Y0 := (hbw1.cell (p := ⟨b, o + k * 3, none⟩) hbb).trans HX.out.1
        have hs1 := hb1.size
        clear X0 X1 X2
        go_wp2_with fail
        refine (HV.out _).mono ?_
        rintro r w2 ⟨v2, rfl, hv2, hb2⟩
        obtain ⟨a3, c3, hv3, hr3, _⟩ := sl_form hv2
        simp only [List.cons.injEq, and_true] at hv3
        subst hv3
        have hs2 := hb2.size
        have hb12 := below_then hb2 hb1
        have hbw2 := below_then hb2 hbw1
        have HO2 := hid (own_below (own_below HO.out hb1) hb2)
        have HS := hid (src_bytes (rBytes.mono (S' := (· < w2.heap.size)) hr3 fun q hq => hq.2))
        generalize varB (2 * D.length - 2) = E at *
        have HONE := hid (byteCells_one E)
        clear hv2 hr3 Y0
        go_wp2_with (first
          | (at_builtin; go_loud (refine wpList_append_src rfl _ _ _ rfl w.heap.size 5 i0 (.int .u8 0) 1 1 Try.underlying22 hi hz0 hz1 hz2 rfl (by decide) (.slice aJ J.length cJ) J.length (byteCells J) rfl HO2.out a3 E.length c3 (byteCells E) rfl HS.out HONE.out (by simp only [maxLen]; omega) (by omega) (by omega) ?_; intro v' w3 hown3 hgrow3 hat3; obtain ⟨a4, c4, rfl⟩ := own_form hown3; have HG3 := hid hgrow3; have HO3 := hid hown3; have hbw3 : Below w.heap.size w w3 := (Below.grown hbw2 hgrow3 (by omega) (fun g e => (HO.out.lt g e).1)); have Z0 := (hbw3.cell (p := ⟨b, o + k * 3, none⟩) hbb).trans HX.out.1; have hs3 := hgrow3.size; have HS3 := hid (src_bytes (lift HXL.out hbw3)); have HONE3 := hid (byteCells_one D); clear hgrow3 hown3 hat3))
          | (at_builtin; go_loud (refine wpList_append_src rfl _ _ _ rfl w.heap.size 5 i0 (.int .u8 0) 1 1 Try.underlying22 hi hz0 hz1 hz2 rfl (by decide) (.slice a4 (J.length + E.length) c4) (J.length + E.length) (byteCells J ++ byteCells E) rfl HO3.out a2 D.length c2 (byteCells D) rfl HS3.out HONE3.out (by simp only [maxLen]; omega) (by omega) (by omega) ?_; intro v' w5 hown5 hgrow5 hat5; have HG5 := hid hgrow5; have HO5 := hid hown5; clear hgrow5 hown5 hat5)))
        have ho := HO5.out
        rw [byteCells_app, byteCells_app, List.append_assoc, ← hst.out] at ho
        have hln : J.length + E.length + D.length = (tokensB (xs.take (k + 1))).length := by rw [hst.out]; simp only [List.length_append]; omega
        rw [hln] at ho
        have HOF := hid ho
        have hbF : Below w.heap.size w w5 := Below.grown hbw3 HG5.out (by omega) (fun g e => (HO3.out.lt g e).1)
        clear ho hln Z0
        go_wp2
        go_roundw
        case rel => exact ⟨k + 1, by omega, by go_num, HOF.out, hbF⟩
        case measure => simp [intOf]; omega
      · have hrun : runB ⟨[], (yo : Int), (ym : Int)⟩ = false := by simp [runB]
        have HRUN := hid (ref11_run ⟨[], (yo : Int), (ym : Int)⟩ a2 c2 wr (by simp) (by dsimp only; omega) (by dsimp only; omega))
        rw [hrun] at HRUN
        have hT := tokB_copy yo ym k1
        rw [hT] at hle hst
        rw [List.length_append] at hle
        have HV := hid (fun (W : World) => ref04_bytes (2 * ym - 7) (by omega) W)
        have HV2 := hid (fun (W : World) => ref04_bytes (yo - 1) (by omega) W)
        rw [show (((2 * ym - 7 : Nat)) : Int) = 2 * (ym : Int) - 7 by omega] at HV
        rw [show (((yo - 1 : Nat)) : Int) = (yo : Int) - 1 by omega] at HV2
        dsimp only [List.length_nil] at X0 X1 X2 HXL HX HRUN
        clear hr hrun hT
        go_wp2_with fail
        refine HRUN.out.mono ?_
        rintro r w1 ⟨rfl, hb1⟩
        have hbw1 := below_then hb1 hb
        have Y2 := (hbw1.cell (p := ⟨b, o + k * 3 + 2, none⟩) hbb).trans HX.out.2.2
        have hs1 := hb1.size
        clear X0 X1 X2
        go_wp2_with fail
        refine (HV.out _).mono ?_
        rintro r w2 ⟨v2, rfl, hv2, hb2⟩
        obtain ⟨a3, c3, hv3, hr3, _⟩ := sl_form hv2
        simp only [List.cons.injEq, and_true] at hv3
        subst hv3
        have hs2 := hb2.size
        have hb12 := below_then hb2 hb1
        have hbw2 := below_then hb2 hbw1
        have HO2 := hid (own_below (own_below HO.out hb1) hb2)
        have HS := hid (src_bytes (rBytes.mono (S' := (· < w2.heap.size)) hr3 fun q hq => hq.2))
        generalize varB (2 * ym - 7) = E at *
        have HONE := hid (byteCells_one E)
        clear hv2 hr3 Y2
        go_wp2_with (at_builtin; go_loud (refine wpList_append_src rfl _ _ _ rfl w.heap.size 5 i0 (.int .u8 0) 1 1 Try.underlying22 hi hz0 hz1 hz2 rfl (by decide) (.slice aJ J.length cJ) J.length (byteCells J) rfl HO2.out a3 E.length c3 (byteCells E) rfl HS.out HONE.out (by simp only [maxLen]; omega) (by omega) (by omega) ?_; intro v' w3 hown3 hgrow3 hat3; obtain ⟨a4, c4, rfl⟩ := own_form hown3; have HG3 := hid hgrow3; have HO3 := hid hown3; have hbw3 : Below w.heap.size w w3 := (Below.grown hbw2 hgrow3 (by omega) (fun g e => (HO.out.lt g e).1)); have Z1 := (hbw3.cell (p := ⟨b, o + k * 3 + 1, none⟩) hbb).trans HX.out.2.1; have hs3 := hgrow3.size; clear hgrow3 hown3 hat3))
        refine (HV2.out _).mono ?_
        rintro r w4 ⟨v4, rfl, hv4, hb4⟩
        obtain ⟨a5, c5, hv5, hr5, _⟩ := sl_form hv4
        simp only [List.cons.injEq, and_true] at hv5
        subst hv5
        have hs4 := hb4.size
        have hbw4 := below_then hb4 hbw3
        have HO4 := hid (own_below HO3.out hb4)
        have HS4 := hid (src_bytes (rBytes.mono (S' := (· < w4.heap.size)) hr5 fun q hq => hq.2))
        generalize varB (yo - 1) = E2 at *
        have HONE4 := hid (byteCells_one E2)
        clear hv4 hr5
        go_wp2_with (at_builtin; go_loud (refine wpList_append_src rfl _ _ _ rfl w.heap.size 5 i0 (.int .u8 0) 1 1 Try.underlying22 hi hz0 hz1 hz2 rfl (by decide) (.slice a4 (J.length + E.length) c4) (J.length + E.length) (byteCells J ++ byteCells E) rfl HO4.out a5 E2.length c5 (byteCells E2) rfl HS4.out HONE4.out (by simp only [maxLen]; omega) (by omega) (by omega) ?_; intro v' w5 hown5 hgrow5 hat5; have HG5 := hid hgrow5; have HO5 := hid hown5; clear hgrow5 hown5 hat5))
        have ho := HO5.out
        rw [byteCells_app, byteCells_app, List.append_assoc, ← hst.out] at ho
        have hln : J.length + E.length + E2.length = (tokensB (xs.take (k + 1))).length := by rw [hst.out]; simp only [List.length_append]; omega
        rw [hln] at ho
        have HOF := hid ho
        have hbF : Below w.heap.size w w5 := Below.grown hbw4 HG5.out (by omega) (fun g e => (HO4.out.lt g e).1)
        clear ho hln Z1
        go_wp2
        go_roundw
        case rel => exact ⟨k + 1, by omega, by go_num, HOF.out, hbF⟩
        case measure => simp [intOf]; omega
    · obtain rfl : k = xs.length := by omega
      rw [List.take_length] at hown
      have hV := own_bytes2 rfl hown
      have HV := hid hV
      clear hV hown
      go_wp2
      go_ret
      exact ⟨_, rfl, HV.out, hb⟩
end Go.Proofs.Ytgcdbnbdbjaijaa
