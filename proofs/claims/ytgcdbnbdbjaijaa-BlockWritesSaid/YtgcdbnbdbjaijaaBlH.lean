/- BlockWrites: for every input the law returns true. -/
import Derived.Test.YtgcdbnbdbjaijaaBlG
import Derived.Test.YtgcdbnbdbjaijaaGrd
namespace Go.Proofs.Ytgcdbnbdbjaijaa
open Go.RowKit Go.Bs Go.Maps
set_option linter.unusedVariables false
set_option linter.unusedSimpArgs false

set_option maxRecDepth 100000 in
set_option maxHeartbeats 6400000 in
theorem blockWrites_c (p ah : List UInt8) (a a' : Option Addr) (n c n' c' : Nat) (w : World) (hl : rBytes.r (· < w.heap.size) w [.slice a n c] p) (hl' : rBytes.r (· < w.heap.size) w [.slice a' n' c'] ah) :
    Calls Try.prog 5 #[.slice a n c, .slice a' n' c'] w fun r w' => r = .returned (.bool true) ∧ Below w.heap.size w w' := by
  obtain ⟨rfl, hm, _, _⟩ := sl_len hl
  obtain ⟨rfl, hm', _, _⟩ := sl_len hl'
  by_cases h150 : p.length ≤ 150
  · by_cases h300 : ah.length ≤ 300
    · have d1 : decide ((150 : Int) < (p.length : Int)) = false := decide_eq_false (by omega)
      have d2 : decide ((300 : Int) < (ah.length : Int)) = false := decide_eq_false (by omega)
      obtain ⟨i0, hi, hz0, hz1, hz2⟩ := info_parts info8
      have HL := hid hl
      have HL' := hid hl'
      have hlen : p.length ≤ 1048576 := by omega
      have hbl := blockB_len p
      have hvl := varB_len p.length
      have hK : (blockB p).length ≤ 161 := by omega
      clear hbl hvl
      have HPUT := hid (fun (W : World) {g base : Nat} {J : List UInt8} {a2 : Option Addr} {c2 : Nat} (h : PenAt W g base 2000 J a2 c2) (hD : rBytes.r (fun q => q < W.heap.size ∧ ¬ PenF g a2 q) W [.slice a p.length c] p) (hfit : J.length + (blockB p).length ≤ 2000) => block_put W h p a _ c hD hlen hfit (by have := h.len; have := h.le; have := hfit; omega))
      have HB := hid (block_bytes w p a _ c hl hlen)
      have HR := hid (fun (W : World) (hW : Below w.heap.size w W) => ref16_bytes W p a _ c (lift HL.out hW) hlen)
      have HPK := hid (fun (W : World) (hW : Below w.heap.size w W) => ref16_packed W p a _ c (lift HL.out hW) hlen)
      have HSZ := hid (fun (W : World) (hW : Below w.heap.size w W) => block_size W p a _ c (lift HL.out hW) hlen)
      have HWY := hid (fun (W : World) (hW : Below w.heap.size w W) => block_way W p a _ c (lift HL.out hW) hlen)
      have HONEA := hid (byteCells_one ah)
      generalize blockB p = K at *
      generalize packR p = R at *
      have HONEK := hid (byteCells_one K)
      clear hl hl'
      go_enter Try.func5, Try.ntmps5
      go_wp2_with fail
      refine HB.out.mono ?_
      rintro r w1 ⟨v1, rfl, hr1, hb1⟩
      obtain ⟨a1, c1, hv1, hr1', _⟩ := sl_form hr1
      simp only [List.cons.injEq, and_true] at hv1
      subst hv1
      have HB1 := hid (rBytes.mono hr1' (S' := (· < w1.heap.size)) fun q hq => hq.2)
      clear hr1 hr1'
      have hs1 := hb1.size
      have HN := hid (pen_new w1 2000 (by omega))
      go_wp2_with fail
      refine HN.out.mono ?_
      rintro r w2 ⟨rfl, hp2, hb2⟩
      have hs2 := hb2.size
      have hbw2 := below_then hb2 hb1
      have HP2 := hid hp2
      have HQ := hid (pen_put w2 hp2 ah a' _ c' (lift HL'.out hbw2) (by simp; omega) (by simp; omega))
      clear hp2
      go_wp2_with fail
      refine HQ.out.mono ?_
      rintro r w3 ⟨rfl, hst⟩
      have hb3 : Below w1.heap.size w2 w3 := HP2.out.below (Nat.le_refl _) (by omega) hst
      have hs3 := hb3.size
      have hb13 : Below w1.heap.size w1 w3 := hb2.trans hb3
      have hbw3 : Below w.heap.size w w3 := below_then hb13 hb1
      obtain ⟨a3, c3, hp3, _, _⟩ := hst
      rw [List.nil_append] at hp3
      have HP3 := hid hp3
      have HQ3 := hid (HPUT.out w3 hp3 (rBytes.mono (rBytes.keep HL.out fun q hq => hbw3.block q hq) fun q hq => ⟨by omega, fun hf => by have := (hp3.own_lt hf).1; omega⟩) (by omega))
      clear hp3
      go_wp2_with fail
      refine HQ3.out.mono ?_
      rintro r w4 ⟨rfl, hst⟩
      have hb4 : Below w1.heap.size w3 w4 := HP3.out.below (Nat.le_refl _) (by omega) hst
      have hs4 := hb4.size
      have hb14 : Below w1.heap.size w1 w4 := hb13.trans hb4
      have hbw4 : Below w.heap.size w w4 := below_then hb14 hb1
      obtain ⟨a4, c4, hp4, _, _⟩ := hst
      have HB4 := hid (pen_bytes w4 hp4)
      clear hp4
      go_wp2_with fail
      refine HB4.out.mono ?_
      rintro r w5 ⟨v5, rfl, hr5, hb5⟩
      obtain ⟨a5, c5, hv5, hr5', _⟩ := sl_form hr5
      simp only [List.cons.injEq, and_true] at hv5
      subst hv5
      have HA5 := hid (rBytes.mono hr5' (S' := (· < w5.heap.size)) fun q hq => hq.2)
      clear hr5 hr5'
      have hb15 := below_then hb5 hb14
      have hbw5 := below_then hb5 hbw4
      have hs5 := hb5.size
      go_wp2_with fail
      refine (HR.out _ hbw5).mono ?_
      rintro r w6 ⟨v6, rfl, hr6, hb6⟩
      obtain ⟨a6, c6, hv6, hr6', _⟩ := sl_form hr6
      simp only [List.cons.injEq, and_true] at hv6
      subst hv6
      have HW6 := hid (rBytes.mono hr6' (S' := (· < w6.heap.size)) fun q hq => hq.2)
      clear hr6 hr6'
      have hb16 := below_then hb6 hb15
      have hbw6 := below_then hb6 hbw5
      have hs6 := hb6.size
      go_wp2_with fail
      refine (HPK.out _ hbw6).mono ?_
      rintro r w7 ⟨rfl, hb7⟩
      have hb17 := below_then hb7 hb16
      have hb57 := below_then hb7 hb6
      have hbw7 := below_then hb7 hbw6
      have hs7 := hb7.size
      have hsm := same_bytes K K a1 a6 _ c1 _ c6 w7 (lift HB1.out hb17) (lift HW6.out hb7)
      simp only [decide_true] at hsm
      have HSM := hid hsm
      clear hsm
      cases R
      all_goals
        (try simp only [Bool.false_eq_true, if_false, if_true] at HWY)
        go_wp2_with fail
        refine HSM.out.mono ?_
        rintro r w7' ⟨rfl, rfl⟩
        have HSA := hid (src_bytes (lift HL'.out (below_then (below_alloc (Below.refl w7.heap.size w7) (.cells #[] 5)) hbw7)))
        have HW7 := hid (lift HW6.out hb7)
        go_wp2_with (first
          | (at_builtin; go_loud (refine wpList_append_srcg (by first | rfl | (go_simp; done)) _ _ _ rfl w7.heap.size 5 i0 (.int .u8 0) 1 1 Try.underlying22 hi hz0 hz1 hz2 rfl (by decide) _ 0 [] rfl (own_empty _ (Nat.le_refl _) rfl) a' ah.length c' (byteCells ah) rfl HSA.out HONEA.out (by simp only [maxLen]; omega) (by omega) (by simp) ?_; intro v' w8 hown8 hgrow8 hat8; rw [Nat.zero_add, List.nil_append] at hown8; obtain ⟨a8, c8, rfl⟩ := own_form hown8; have HO8 := hid hown8; have hb8 : Below w7.heap.size w7 w8 := (Below.grown (by (repeat (first | exact Below.refl _ _ | assumption | (refine below_alloc ?_ _) | (refine Below.setCell ?_ (by first | omega | (simp; done) | (simp; omega)) _) | (refine Below.drew ?_) | (refine below_drewN ?_ _) | (refine below_then (by assumption) ?_)))) hgrow8 (by simp) (fun g e => by have e' : some w7.heap.size = some g := e; injection e' with e'; omega)); have hs8 := hb8.size; have HS8 := hid (src_bytes (lift HW7.out hb8)); clear hgrow8 hown8 hat8))
          | (at_builtin; go_loud (refine wpList_append_srcg (by first | rfl | (go_simp; done)) _ _ _ rfl w7.heap.size 5 i0 (.int .u8 0) 1 1 Try.underlying22 hi hz0 hz1 hz2 rfl (by decide) (.slice a8 ah.length c8) ah.length (byteCells ah) rfl HO8.out a6 K.length c6 (byteCells K) rfl HS8.out HONEK.out (by simp only [maxLen]; omega) (by omega) (by omega) ?_; intro v' w9 hown9 hgrow9 hat9; obtain ⟨a9, c9, rfl⟩ := own_form hown9; have HG9 := hid hgrow9; have HO9 := hid hown9; clear hgrow9 hown9 hat9)))
        have hb9 : Below w7.heap.size w7 w9 := Below.grown hb8 HG9.out (by omega) (fun g e => (HO8.out.lt g e).1)
        have ho := HO9.out
        rw [byteCells_app] at ho
        have hbw9 := below_then hb9 hbw7
        have hb59 := below_then hb9 hb57
        have hs2 := same_bytes (ah ++ K) (ah ++ K) a5 a9 _ c5 _ c9 w9 (lift HA5.out hb59) (own_bytes (by simp) ho)
        simp only [decide_true, List.length_append] at hs2
        have HS2 := hid hs2
        clear ho hs2
        refine HS2.out.mono ?_
        rintro r w9' ⟨rfl, rfl⟩
        go_wp2_with fail
        refine (HSZ.out _ hbw9).mono ?_
        rintro r w10 ⟨rfl, hb10⟩
        have hbw10 := below_then hb10 hbw9
        go_wp2_with fail
        refine (HWY.out _ hbw10).mono ?_
        rintro r w11 ⟨rfl, hb11⟩
        have hbw11 := below_then hb11 hbw10
        go_wp2_with fail
        refine (live16 _).mono ?_
        rintro r w12 ⟨rfl, hb12⟩
        have hbe := below_then hb12 hbw11
        go_wp2
        go_ret
        exact ⟨rfl, hbe⟩
    · have d1 : decide ((150 : Int) < (p.length : Int)) = false := decide_eq_false (by omega)
      have d2 : decide ((300 : Int) < (ah.length : Int)) = true := decide_eq_true (by omega)
      go_enter Try.func5, Try.ntmps5
      go_wp2_with fail
      refine (live16 _).mono ?_
      rintro r w9 ⟨rfl, hb9⟩
      go_wp2
      go_ret
      exact ⟨rfl, hb9⟩
  · have d1 : decide ((150 : Int) < (p.length : Int)) = true := decide_eq_true (by omega)
    go_enter Try.func5, Try.ntmps5
    go_wp2_with fail
    refine (live16 _).mono ?_
    rintro r w9 ⟨rfl, hb9⟩
    go_wp2
    go_ret
    exact ⟨rfl, hb9⟩

set_option maxRecDepth 100000 in
theorem blockWrites_walk {H : Type} (enc : TypeId × Value → H) (W : World) (base : Nat) (v0 v1 : Value) (d0 d1 : DataW H) (p0 p1 : List MemPlace)
    (k0 : DataW.Trod enc Try.prog W 0 (fun _ => true) true 22 v0 d0 p0) (k1 : DataW.Trod enc Try.prog W 0 (fun _ => true) true 22 v1 d1 p1)
    (o0 : Value.okWide Try.prog W .any base 22 v0) (o1 : Value.okWide Try.prog W .any base 22 v1) :
    Calls Try.prog 5 #[v0, v1] W fun e w' => e = .returned (.bool true) ∧ Below W.heap.size W w' := by
  obtain ⟨fuel, hf⟩ := k0
  obtain ⟨fuel', hf'⟩ := k1
  obtain ⟨a, len, cap, rfl⟩ := Go.WideShapes.okWide_slice Try.underlying22 o0
  obtain ⟨a', len', cap', rfl⟩ := Go.WideShapes.okWide_slice Try.underlying22 o1
  obtain ⟨b, hb⟩ := o_bytes enc W fuel _ _ hf
  obtain ⟨b', hb'⟩ := o_bytes enc W fuel' _ _ hf'
  exact blockWrites_c b b' a a' len cap len' cap' W hb hb'
end Go.Proofs.Ytgcdbnbdbjaijaa
