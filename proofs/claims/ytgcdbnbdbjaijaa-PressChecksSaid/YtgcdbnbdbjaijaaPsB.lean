/- PressTokens: for every input the law returns true. -/
import Derived.Test.YtgcdbnbdbjaijaaPsA
namespace Go.Proofs.Ytgcdbnbdbjaijaa
open Go.RowKit Go.Bs Go.Maps
set_option linter.unusedVariables false
set_option linter.unusedSimpArgs false

set_option maxRecDepth 100000 in
set_option maxHeartbeats 6400000 in
theorem pressTokens_c (b : List UInt8) (a : Option Addr) (n c : Nat) (w : World) (hl : rBytes.r (· < w.heap.size) w [.slice a n c] b) :
    Calls Try.prog 4 #[.slice a n c] w fun r w' => r = .returned (.bool true) ∧ Below w.heap.size w w' := by
  obtain ⟨rfl, hm, _, _⟩ := sl_len hl
  by_cases h150 : b.length ≤ 150
  · have d1 : decide ((150 : Int) < (b.length : Int)) = false := decide_eq_false (by omega)
    have hlen : b.length ≤ 1048576 := by omega
    have HL := hid hl
    have HT := hid (press_tokens w b a _ c hl hlen)
    have HPB := hid (fun (W : World) (hW : Below w.heap.size w W) => press_bytes W b a _ c (lift HL.out hW) hlen)
    have HPR := hid (fun (W : World) (hW : Below w.heap.size w W) => press_runs W b a _ c (lift HL.out hW) hlen)
    have HWT := hid (fun (W : World) (hW : Below w.heap.size w W) => ref15_tokens b a _ c W (lift HL.out hW) hlen)
    have HSV := hid (fun (W : World) (hW : Below w.heap.size w W) => press_saves W b a _ c (lift HL.out hW) hlen)
    have hri := toks_right hlen
    have hl2 := toks_len2 hlen
    have hsm := toksB_small hlen
    generalize toksR b = T at *
    have HRI := hid hri
    have HRB := hid (fun (W : World) (av : Option Addr) (cv : Nat) (h : rToks.r (· < W.heap.size) W [.slice av T.length cv] T) => ref11_bytes T av _ cv W h hl2 HRI.out)
    generalize tokensB T = E at *
    clear hl hri
    go_enter Try.func4, Try.ntmps4
    go_wp2_with fail
    refine HT.out.mono ?_
    rintro r w1 ⟨v1, rfl, hr1, hb1⟩
    obtain ⟨a1, c1, hv1, hr1', _⟩ := sl_form hr1
    simp only [List.cons.injEq, and_true] at hv1
    subst hv1
    have HT1 := hid (rToks.mono hr1' (S' := (· < w1.heap.size)) fun q hq => hq.2)
    clear hr1 hr1'
    go_wp2_with fail
    refine (HPB.out _ hb1).mono ?_
    rintro r w2 ⟨v2, rfl, hr2, hb2⟩
    obtain ⟨a2, c2, hv2, hr2', _⟩ := sl_form hr2
    simp only [List.cons.injEq, and_true] at hv2
    subst hv2
    have HE2 := hid (rBytes.mono hr2' (S' := (· < w2.heap.size)) fun q hq => hq.2)
    have hbw2 := below_then hb2 hb1
    clear hr2 hr2'
    go_wp2_with fail
    refine (HPR.out _ hbw2).mono ?_
    rintro r w3 ⟨v3, rfl, hr3, hb3⟩
    have hbw3 := below_then hb3 hbw2
    have hb13 := below_then hb3 hb2
    obtain ⟨a3, c3, hv3, hr3', _⟩ := sl_form hr3
    simp only [List.cons.injEq, and_true] at hv3
    subst hv3
    have HR3 := hid (rToks.mono hr3' (S' := (· < w3.heap.size)) fun q hq => hq.2)
    clear hr3 hr3'
    by_cases h0 : b.length = 0
    · have hrr : runsR b = [] := by unfold runsR; rw [if_pos h0]
      rw [hrr] at HR3
      have e0 : ((b.length : Int) == 0) = true := beq_iff_eq.2 (by omega)
      rw [hrr]
      simp only [List.length_nil]
      have H0 := hid h0
      clear h0 hrr
      go_wp2_with fail
      refine (HWT.out _ hbw3).mono ?_
      rintro r w4 ⟨v4, rfl, hr4, hb4⟩
      have hbw4 := below_then hb4 hbw3
      have hb14 := below_then hb4 hb13
      have hb24 := below_then hb4 hb3
      obtain ⟨a4, c4, hv4, hr4', _⟩ := sl_form hr4
      simp only [List.cons.injEq, and_true] at hv4
      subst hv4
      have HW4 := hid (rToks.mono hr4' (S' := (· < w4.heap.size)) fun q hq => hq.2)
      clear hr4 hr4'
      have hs5 := ref11_same T T a1 a4 _ c1 _ c4 w4 (lift HT1.out hb14) (lift HW4.out (Below.refl _ _))
      simp only [decide_true] at hs5
      have HS5 := hid hs5
      clear hs5
      go_wp2_with fail
      refine HS5.out.mono ?_
      rintro r w6 ⟨rfl, hb6⟩
      have hbw6 := below_then hb6 hbw4
      have hb46 := hb6
      have hb26 := below_then hb6 hb24
      go_wp2_with fail
      refine (HRB.out _ a4 c4 (lift HW4.out hb46)).mono ?_
      rintro r w7 ⟨v7, rfl, hr7, hb7⟩
      have hbw7 := below_then hb7 hbw6
      have hb47 := below_then hb7 hb46
      have hb27 := below_then hb7 hb26
      obtain ⟨a7, c7, hv7, hr7', _⟩ := sl_form hr7
      simp only [List.cons.injEq, and_true] at hv7
      subst hv7
      have hs7 := same_bytes E E a2 a7 _ c2 _ c7 w7 (lift HE2.out hb27) (rBytes.mono hr7' (S' := (· < w7.heap.size)) fun q hq => hq.2)
      simp only [decide_true] at hs7
      have HS7 := hid hs7
      clear hr7 hr7' hs7
      go_wp2_with fail
      refine HS7.out.mono ?_
      rintro r w7' ⟨rfl, rfl⟩
      go_wp2_with fail
      refine (HSV.out _ hbw7).mono ?_
      rintro r w8 ⟨rfl, hb8⟩
      have hbw8 := below_then hb8 hbw7
      have hb48 := below_then hb8 hb47
      go_wp2_with fail
      refine (HRB.out _ a4 c4 (lift HW4.out hb48)).mono ?_
      rintro r w9 ⟨v9, rfl, hr9, hb9⟩
      have hbw9 := below_then hb9 hbw8
      obtain ⟨a9, c9, hv9, _, _⟩ := sl_form hr9
      simp only [List.cons.injEq, and_true] at hv9
      subst hv9
      clear hr9
      have e9 : ((b.length : Int) - (E.length : Int) == (b.length : Int) - (E.length : Int)) = true := by simp
      go_wp2_with fail
      refine (live15 _).mono ?_
      rintro r w10 ⟨rfl, hb10⟩
      have hbe := below_then hb10 hbw9
      go_wp2
      go_ret
      exact ⟨rfl, hbe⟩
    · have hrr : runsR b = [⟨b, 0, 0⟩] := by unfold runsR; rw [if_neg h0]
      rw [hrr] at HR3
      rw [hrr]
      simp only [List.length_cons, List.length_nil, Nat.zero_add]
      obtain ⟨g, o, hA, hg, at_, ct, x0, x1, x2, z1, z2, zl⟩ := tok_at HR3.out (i := 0) (by simp)
      simp only [List.getElem_cons_zero, Nat.zero_mul, Nat.add_zero] at x0 x1 x2 zl
      subst hA
      have HZ := hid zl
      have hrun : runB ⟨b, 0, 0⟩ = true := by simp [runB]; omega
      clear h0 hrr z1 z2 zl
      go_wp2_with fail
      refine (HWT.out _ hbw3).mono ?_
      rintro r w4 ⟨v4, rfl, hr4, hb4⟩
      have hbw4 := below_then hb4 hbw3
      have hb14 := below_then hb4 hb13
      have hb24 := below_then hb4 hb3
      obtain ⟨a4, c4, hv4, hr4', _⟩ := sl_form hr4
      simp only [List.cons.injEq, and_true] at hv4
      subst hv4
      have HW4 := hid (rToks.mono hr4' (S' := (· < w4.heap.size)) fun q hq => hq.2)
      clear hr4 hr4'
      have X0 := (hb4.cell (p := ⟨g, o, none⟩) hg).trans x0
      have X1 := (hb4.cell (p := ⟨g, o + 1, none⟩) hg).trans x1
      have X2 := (hb4.cell (p := ⟨g, o + 2, none⟩) hg).trans x2
      have hru := ref11_run ⟨b, 0, 0⟩ at_ ct w4 (by dsimp only; omega) ⟨by simp, by simp⟩ ⟨by simp, by simp⟩
      rw [hrun] at hru
      have HRU := hid hru
      have HX0 := hid x0
      clear hru hrun x0 x1 x2
      go_wp2_with fail
      refine HRU.out.mono ?_
      rintro r w5 ⟨rfl, hb5⟩
      have hbw5 := below_then hb5 hbw4
      have hb35 := below_then hb5 hb4
      have hb15 := below_then hb5 hb14
      have hb25 := below_then hb5 hb24
      have Y0 := (hb35.cell (p := ⟨g, o, none⟩) hg).trans HX0.out
      have hss := same_bytes b b at_ a _ ct _ c w5 (lift HZ.out hb35) (lift HL.out hbw5)
      simp only [decide_true] at hss
      have HSS := hid hss
      clear X0 X1 X2 hss
      go_wp2_with fail
      refine HSS.out.mono ?_
      rintro r w5' ⟨rfl, rfl⟩
      clear Y0
      have hs5 := ref11_same T T a1 a4 _ c1 _ c4 w5 (lift HT1.out hb15) (lift HW4.out hb5)
      simp only [decide_true] at hs5
      have HS5 := hid hs5
      clear hs5
      go_wp2_with fail
      refine HS5.out.mono ?_
      rintro r w6 ⟨rfl, hb6⟩
      have hbw6 := below_then hb6 hbw5
      have hb46 := below_then hb6 hb5
      have hb26 := below_then hb6 hb25
      go_wp2_with fail
      refine (HRB.out _ a4 c4 (lift HW4.out hb46)).mono ?_
      rintro r w7 ⟨v7, rfl, hr7, hb7⟩
      have hbw7 := below_then hb7 hbw6
      have hb47 := below_then hb7 hb46
      have hb27 := below_then hb7 hb26
      obtain ⟨a7, c7, hv7, hr7', _⟩ := sl_form hr7
      simp only [List.cons.injEq, and_true] at hv7
      subst hv7
      have hs7 := same_bytes E E a2 a7 _ c2 _ c7 w7 (lift HE2.out hb27) (rBytes.mono hr7' (S' := (· < w7.heap.size)) fun q hq => hq.2)
      simp only [decide_true] at hs7
      have HS7 := hid hs7
      clear hr7 hr7' hs7
      go_wp2_with fail
      refine HS7.out.mono ?_
      rintro r w7' ⟨rfl, rfl⟩
      go_wp2_with fail
      refine (HSV.out _ hbw7).mono ?_
      rintro r w8 ⟨rfl, hb8⟩
      have hbw8 := below_then hb8 hbw7
      have hb48 := below_then hb8 hb47
      go_wp2_with fail
      refine (HRB.out _ a4 c4 (lift HW4.out hb48)).mono ?_
      rintro r w9 ⟨v9, rfl, hr9, hb9⟩
      have hbw9 := below_then hb9 hbw8
      obtain ⟨a9, c9, hv9, _, _⟩ := sl_form hr9
      simp only [List.cons.injEq, and_true] at hv9
      subst hv9
      clear hr9
      have e9 : ((b.length : Int) - (E.length : Int) == (b.length : Int) - (E.length : Int)) = true := by simp
      go_wp2_with fail
      refine (live15 _).mono ?_
      rintro r w10 ⟨rfl, hb10⟩
      have hbe := below_then hb10 hbw9
      go_wp2
      go_ret
      exact ⟨rfl, hbe⟩
  · have d1 : decide ((150 : Int) < (b.length : Int)) = true := decide_eq_true (by omega)
    go_enter Try.func4, Try.ntmps4
    go_wp2_with fail
    refine (live15 _).mono ?_
    rintro r w9 ⟨rfl, hb9⟩
    go_wp2
    go_ret
    exact ⟨rfl, hb9⟩

set_option maxRecDepth 100000 in
theorem pressTokens_walk {H : Type} (enc : TypeId × Value → H) (W : World) (base : Nat) (v0 : Value) (d0 : DataW H) (p0 : List MemPlace)
    (k0 : DataW.Trod enc Try.prog W 0 (fun _ => true) true 22 v0 d0 p0) (o0 : Value.okWide Try.prog W .any base 22 v0) :
    Calls Try.prog 4 #[v0] W fun e w' => e = .returned (.bool true) ∧ Below W.heap.size W w' := by
  obtain ⟨fuel, hf⟩ := k0
  obtain ⟨a, len, cap, rfl⟩ := Go.WideShapes.okWide_slice Try.underlying22 o0
  obtain ⟨b, hb⟩ := o_bytes enc W fuel _ _ hf
  exact pressTokens_c b a len cap W hb
end Go.Proofs.Ytgcdbnbdbjaijaa
