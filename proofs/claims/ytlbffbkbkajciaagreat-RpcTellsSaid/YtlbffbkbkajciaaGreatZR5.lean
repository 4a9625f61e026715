/- Mini: Needed by rpcTells_walk, part 5: texts put together by shake.py; no condition. -/
import Derived.Test.YtlbffbkbkajciaaGreatZR3
import Derived.Test.YtlbffbkbkajciaaGreatZR2
import Derived.Test.YtlbffbkbkajciaaGreatZR1
import Derived.Test.YtlbffbkbkajciaaGreatZR4
import Derived.Lib.SlBytesConst
set_option linter.unusedVariables false
set_option linter.unusedSimpArgs false
set_option maxRecDepth 100000
set_option maxHeartbeats 6400000
namespace Go.Bs
theorem zCc{p:Prop}(h:p:=by rw [hst.out]; simp only [Ag]; omega):p:=h
theorem ZO{p:Prop}(h:p:=by have := HFIT.out; rw [HK.out] at this; simp at this ⊢; omega):p:=h
theorem ZN{p:Prop}(h:p:=by have := HLEN.out; rw [HK.out] at this; simp at this ⊢; omega):p:=h
theorem A9:type_of% @of_decide_eq_true:=@of_decide_eq_true
end Go.Bs
namespace Go.Proofs.YtlbffbkbkajciaaGreat
open Go.RowKit Go.Bs Go.Maps
theorem BR.below {w w' : World} {g base most : Nat} {J J' : List UInt8} {a : Option Addr} {c B : Nat} (h : BR w g base most J a c) (hB : B ≤ base) (hB2 : B ≤ w.heap.size) (k : At w g base most J' a w') : Below B w w' := by
 obtain ⟨a', c', k1, k2, k3⟩ := k
 exact k2.Cj hB2 fun b _ hb => A4 hB (h.Eo hb).1
theorem Oc (xs : List Tok) (a : Option Addr) (n c : Nat) (w : World) (hl : KH.r (· < w.heap.size) w [.slice a n c] xs) (hx : xs.length ≤ 10000000) (hR : ∀ t ∈ xs, Cs t = true) :
  Calls Tryz.prog 248 #[.slice a n c] w fun r w' => ∃ v, r = .returned (.tuple #[v, .int .i64 0]) ∧ Ah.r (fun q => w.heap.size ≤ q ∧ q < w'.heap.size) w' [v] (BX xs) ∧ Below w.heap.size w w' := by
 obtain ⟨rfl, hm, _, _⟩ := AS hl
 have hL : ∀ t ∈ xs, t.lit.length ≤ 1048576 := fun t ht => by
  rcases Fx (hR t ht) with ⟨D, rfl, h1, h2⟩ | ⟨o, m, rfl, _⟩
  ·exact h2
  ·simp
 have HRM := hid (PK xs a _ c w hl hx hL)
 have hrl := Jh xs hL xs.length (Ak _)
 rw [Es] at hrl
 have HMO := hid (fun k => PY xs k)
 have HL := hid hl; have HR := hid hR
 clear hl hR hL;generalize hM : Fw xs = M at *
 have hMM := hid hM; clear hM
 go_enter Tryz.func248, Tryz.ntmps248
 go_wp2_with fail;refine HRM.out.mono ?_
 rintro r w1 ⟨rfl, hb1⟩;have HN := hid (Jk w1 M zC)
 go_wp2_with fail;refine HN.out.mono ?_
 rintro r w2 ⟨rfl, hp2, hb2⟩;have hs1 := hb1.size
 have hs2 := hb2.size
 have HP2 := hid hp2
 have hbw2 := Af hb2 hb1
 clear hp2;generalize hg : w1.heap.size = g at *
 go_wp2_with fail;go_loopw [12] (fun i wr => ∃ k : Nat, k ≤ xs.length ∧ i = .int .i64 k ∧ Hid (∃ ap cp, BR wr g g M (BX (xs.take k)) ap cp) ∧ Below g w2 wr) (fun i _ => xs.length - (intOf i).toNat)
 case atStart => exact ⟨0, Aj _, rfl, hid ⟨_, _, by simpa [BX] using HP2.out⟩, Below.refl _ _⟩
 case round =>
  obtain ⟨k, hk, rfl, hpen, hb⟩ := hrel
  obtain ⟨ap, cp, hP⟩ := hpen.out
  have hbw : Below w.heap.size w wr := ⟨hb.os.trans hbw2.os, hb.tape.trans hbw2.tape, hb.output.trans hbw2.output, by have := hb.size; omega, fun q hq => (hb.block q zC).trans (hbw2.block q hq)⟩
  have hgl := hP.blk.lt
  rcases Bd k xs.length with hlt | hge
  ·obtain ⟨b, o, hA, hbb, a2, c2, x0, x1, x2, _, _, xl⟩ := Nr HL.out hlt
   subst hA;have X0 := (hbw.cell (p := ⟨b, o + k * 3, none⟩) hbb).trans x0
   have X1 := (hbw.cell (p := ⟨b, o + k * 3 + 1, none⟩) hbb).trans x1
   have X2 := (hbw.cell (p := ⟨b, o + k * 3 + 2, none⟩) hbb).trans x2
   have hst := Jc xs k hlt
   have hfit : (BX (xs.take k)).length + (IT xs[k]).length ≤ M := by
    have h1 := H6 (xs.take (k + 1))
    rw [hst, Ag] at h1
    have h2 := HMO.out (k + 1)
    omega
   have hr := HR.out _ (Bl hlt)
   have HST := hid hst
   have HXL := hid xl
   have HFIT := hid hfit
   clear x0 x1 x2 xl hst hfit;generalize xs[k] = y at *
   generalize BX (xs.take k) = J at *
   have hbs := hb.size
   have i1 : (k : Int) < (xs.length : Int) := zC
   have HP := hid hP
   clear hP hpen;rcases Fx hr with ⟨D, rfl, k1, k2⟩ | ⟨yo, ym, rfl, k1, k2, k3, k4⟩
   ·dsimp only at X0 X1 X2 HXL
    clear hr;go_wp2_with fail;have hbW : Below wr.heap.size wr (wr.alloc (.cells #[.slice a2 D.length c2, .int .i64 0, .int .i64 0] 225)) := zB
    generalize wr.alloc (.cells #[.slice a2 D.length c2, .int .i64 0, .int .i64 0] 225) = W at *
    have hzW := hbW.size
    have hPW := HP.out.later hbW
    have HQ := hid (Ml W hPW D k1 k2 a2 c2 (Ah.mono (Ah.keep HXL.out fun q hq => (Af hbW hbw).block q hq) fun q hq => ⟨Ai hq (by have := hbw.size; omega), fun hf => by have := (hPW.Eo hf).1; have hq' : q < w.heap.size := hq; omega⟩) HFIT.out (by have := HFIT.out; omega))
    have HPW := hid hPW
    clear X0 X1 X2 hPW;refine HQ.out.mono ?_
    rintro r w5 ⟨rfl, hps⟩;have hb5 : Below g w2 w5 := by
     have e1 : Below g W w5 := HPW.out.below (Ak _) zC hps
     exact (hb.trans (hbW.mono zC)).trans e1
    obtain ⟨a5, c5, hP5, _, _⟩ := hps
    have HP5 := hid (⟨a5, c5, by rw [HST.out]; exact hP5⟩ : ∃ ap cp, BR w5 g g M (BX (xs.take (k + 1))) ap cp)
    clear hP5;go_wp2;go_roundw
    case rel => exact ⟨k + 1, zC, zV, HP5, hb5⟩
    case measure => simp [intOf]; omega
   ·dsimp only [Bu] at X0 X1 X2 HXL
    clear hr;go_wp2_with fail;have hbW : Below wr.heap.size wr (wr.alloc (.cells #[.slice a2 0 c2, .int .i64 yo, .int .i64 ym] 225)) := zB
    generalize wr.alloc (.cells #[.slice a2 0 c2, .int .i64 yo, .int .i64 ym] 225) = W at *
    have hzW := hbW.size
    have hPW := HP.out.later hbW
    have HQ := hid (Lk W hPW yo ym k1 k2 k3 k4 a2 c2 HFIT.out (by have := HFIT.out; omega))
    have HPW := hid hPW
    clear X0 X1 X2 hPW;refine HQ.out.mono ?_
    rintro r w5 ⟨rfl, hps⟩;have hb5 : Below g w2 w5 := by
     have e1 : Below g W w5 := HPW.out.below (Ak _) zC hps
     exact (hb.trans (hbW.mono zC)).trans e1
    obtain ⟨a5, c5, hP5, _, _⟩ := hps
    have HP5 := hid (⟨a5, c5, by rw [HST.out]; exact hP5⟩ : ∃ ap cp, BR w5 g g M (BX (xs.take (k + 1))) ap cp)
    clear hP5;go_wp2;go_roundw
    case rel => exact ⟨k + 1, zC, zV, HP5, hb5⟩
    case measure => simp [intOf]; omega
  ·obtain rfl : k = xs.length := by omega
   rw [Es] at hP
   have HB := hid (Iw wr hP)
   clear hP hpen;go_wp2_with fail;refine HB.out.mono ?_
   rintro r w5 ⟨v, rfl, hv, hb5⟩;have hbe := Af hb5 hbw
   have HV := hid (Ah.mono (S' := fun q => w.heap.size ≤ q ∧ q < w5.heap.size) hv fun q hq => ⟨by have := hq.1; have := hbw.size; omega, hq.2⟩)
   clear hv;go_wp2;go_ret2
   exact ⟨_, rfl, HV.out, hbe⟩
theorem CX (J D : List UInt8) : byteCells J ++ byteCells D = byteCells (J ++ D) := zAp
theorem OJ (xs : List Tok) (a : Option Addr) (n c : Nat) (w : World) (hl : KH.r (· < w.heap.size) w [.slice a n c] xs) (hx : xs.length ≤ 10000000) (hR : ∀ t ∈ xs, Cs t = true) :
  Calls Tryz.prog 225 #[.slice a n c] w fun r w' => ∃ v, r = .returned v ∧ Ah.r (fun q => w.heap.size ≤ q ∧ q < w'.heap.size) w' [v] (BX xs) ∧ Below w.heap.size w w' := by
 obtain ⟨rfl, hm, _, _⟩ := AS hl
 obtain ⟨i0, hi, hz0, hz1, hz2⟩ := A8 Dz
 have hL : ∀ t ∈ xs, t.lit.length ≤ 1048576 := fun t ht => by
  rcases Fx (hR t ht) with ⟨D, rfl, h1, h2⟩ | ⟨o, m, rfl, _⟩
  ·exact h2
  ·simp
 have HRL := hid (fun k (hk : k ≤ xs.length) => A4 (H6 (xs.take k)) (Jh xs hL k hk))
 have HL := hid hl; have HR := hid hR
 clear hl hR hL;go_enter Tryz.func225, Tryz.ntmps225
 go_wp2_with fail;go_loopw [3, 4] (fun v i wr => ∃ k : Nat, k ≤ xs.length ∧ i = .int .i64 k ∧ wr.ownsRow w.heap.size 5 1 v (BX (xs.take k)).length (byteCells (BX (xs.take k))) ∧ Below w.heap.size w wr) (fun _ i _ => xs.length - (intOf i).toNat)
 case atStart => exact ⟨0, Aj _, rfl, ⟨rfl, .inl ⟨rfl, rfl⟩⟩, Below.refl _ _⟩
 case round =>
  obtain ⟨k, hk, rfl, hown, hb⟩ := hrel
  have hbs := hb.size
  rcases Bd k xs.length with hlt | hge
  ·obtain ⟨b, o, hA, hbb, a2, c2, x0, x1, x2, _, _, xl⟩ := Nr HL.out hlt
   subst hA;have X0 := (hb.cell (p := ⟨b, o + k * 3, none⟩) hbb).trans x0
   have X1 := (hb.cell (p := ⟨b, o + k * 3 + 1, none⟩) hbb).trans x1
   have X2 := (hb.cell (p := ⟨b, o + k * 3 + 2, none⟩) hbb).trans x2
   have hst := hid (Jc xs k hlt)
   have hle := HRL.out (k + 1) hlt
   rw [hst.out, Ag] at hle
   have hr := HR.out _ (Bl hlt)
   have HXL := hid xl
   have HX := hid (And.intro x0 (And.intro x1 x2))
   clear x0 x1 x2 xl;obtain ⟨aJ, cJ, rfl⟩ := AA hown
   generalize xs[k] = y at *
   generalize BX (xs.take k) = J at *
   have i1 : (k : Int) < (xs.length : Int) := zC
   have HO := hid hown
   clear hown;rcases Fx hr with ⟨D, rfl, k1, k2⟩ | ⟨yo, ym, rfl, k1, k2, k3, k4⟩
   ·have hrun : EY ⟨D, 0, 0⟩ = true := by simp [EY]; omega
    have HRUN := hid (ML ⟨D, 0, 0⟩ a2 c2 wr zN ⟨zO, zO⟩ ⟨zO, zO⟩)
    rw [hrun] at HRUN
    have hT := Ll D k1 k2
    rw [hT] at hle hst
    rw [Ag] at hle
    have HV := hid (fun (W : World) => Ie (2 * D.length - 2) zC W)
    rw [show (((2 * D.length - 2 : Nat)) : Int) = 2 * (D.length : Int) - 2 by omega] at HV
    dsimp only at X0 X1 X2 HXL HX;clear hr hrun hT;go_wp2_with fail;refine HRUN.out.mono ?_
    rintro r w1 ⟨rfl, hb1⟩;have hbw1 := Af hb1 hb
    have Y0 := (hbw1.cell (p := ⟨b, o + k * 3, none⟩) hbb).trans HX.out.1
    have hs1 := hb1.size
    clear X0 X1 X2;go_wp2_with fail;refine (HV.out _).mono ?_
    rintro r w2 ⟨v2, rfl, hv2, hb2⟩;obtain ⟨a3, c3, hv3, hr3, _⟩ := AN hv2
    simp only [Au, AO] at hv3
    subst hv3;have hs2 := hb2.size
    have hb12 := Af hb2 hb1
    have hbw2 := Af hb2 hbw1
    have HO2 := hid (AD (AD HO.out hb1) hb2)
    have HS := hid (A5 (Ah.mono (S' := (· < w2.heap.size)) hr3 fun q hq => hq.2))
    generalize Ay (2 * D.length - 2) = E at *
    have HONE := hid (AI E)
    clear hv2 hr3 Y0;go_wp2_with (first
     | (at_builtin; go_loud (refine Aq rfl _ _ _ rfl w.heap.size 5 i0 (.int .u8 0) 1 1 As hi hz0 hz1 hz2 rfl zP (.slice aJ J.length cJ) J.length (byteCells J) rfl HO2.out a3 E.length c3 (byteCells E) rfl HS.out HONE.out zK zC zC ?_; intro v' w3 hown3 hgrow3 hat3; obtain ⟨a4, c4, rfl⟩ := AA hown3; have HG3 := hid hgrow3; have HO3 := hid hown3; have hbw3 : Below w.heap.size w w3 := (Below.grown hbw2 hgrow3 zC (fun g e => (HO.out.lt g e).1)); have Z0 := (hbw3.cell (p := ⟨b, o + k * 3, none⟩) hbb).trans HX.out.1; have hs3 := hgrow3.size; have HS3 := hid (A5 (lift HXL.out hbw3)); have HONE3 := hid (AI D); clear hgrow3 hown3 hat3))
     | (at_builtin; go_loud (refine Aq rfl _ _ _ rfl w.heap.size 5 i0 (.int .u8 0) 1 1 As hi hz0 hz1 hz2 rfl zP (.slice a4 (J.length + E.length) c4) (J.length + E.length) (byteCells J ++ byteCells E) rfl HO3.out a2 D.length c2 (byteCells D) rfl HS3.out HONE3.out zK zC zC ?_; intro v' w5 hown5 hgrow5 hat5; have HG5 := hid hgrow5; have HO5 := hid hown5; clear hgrow5 hown5 hat5)))
    have ho := HO5.out
    rw [CX, CX, Av, ← hst.out] at ho
    have hln : J.length + E.length + D.length = (BX (xs.take (k + 1))).length := zCc
    rw [hln] at ho
    have HOF := hid ho
    have hbF : Below w.heap.size w w5 := Below.grown hbw3 HG5.out zC (fun g e => (HO3.out.lt g e).1)
    clear ho hln Z0;go_wp2;go_roundw
    case rel => exact ⟨k + 1, zC, zV, HOF.out, hbF⟩
    case measure => simp [intOf]; omega
   ·have hrun : EY ⟨[], (yo : Int), (ym : Int)⟩ = false := by simp [EY]
    have HRUN := hid (ML ⟨[], (yo : Int), (ym : Int)⟩ a2 c2 wr zO zN zN)
    rw [hrun] at HRUN
    have hT := JR yo ym k1
    rw [hT] at hle hst
    rw [Ag] at hle
    have HV := hid (fun (W : World) => Ie (2 * ym - 7) zC W)
    have HV2 := hid (fun (W : World) => Ie (yo - 1) zC W)
    rw [show (((2 * ym - 7 : Nat)) : Int) = 2 * (ym : Int) - 7 by omega] at HV
    rw [show (((yo - 1 : Nat)) : Int) = (yo : Int) - 1 by omega] at HV2
    dsimp only [Bu] at X0 X1 X2 HXL HX HRUN;clear hr hrun hT;go_wp2_with fail;refine HRUN.out.mono ?_
    rintro r w1 ⟨rfl, hb1⟩;have hbw1 := Af hb1 hb
    have Y2 := (hbw1.cell (p := ⟨b, o + k * 3 + 2, none⟩) hbb).trans HX.out.2.2
    have hs1 := hb1.size
    clear X0 X1 X2;go_wp2_with fail;refine (HV.out _).mono ?_
    rintro r w2 ⟨v2, rfl, hv2, hb2⟩;obtain ⟨a3, c3, hv3, hr3, _⟩ := AN hv2
    simp only [Au, AO] at hv3
    subst hv3;have hs2 := hb2.size
    have hb12 := Af hb2 hb1
    have hbw2 := Af hb2 hbw1
    have HO2 := hid (AD (AD HO.out hb1) hb2)
    have HS := hid (A5 (Ah.mono (S' := (· < w2.heap.size)) hr3 fun q hq => hq.2))
    generalize Ay (2 * ym - 7) = E at *
    have HONE := hid (AI E)
    clear hv2 hr3 Y2;go_wp2_with (at_builtin; go_loud (refine Aq rfl _ _ _ rfl w.heap.size 5 i0 (.int .u8 0) 1 1 As hi hz0 hz1 hz2 rfl zP (.slice aJ J.length cJ) J.length (byteCells J) rfl HO2.out a3 E.length c3 (byteCells E) rfl HS.out HONE.out zK zC zC ?_; intro v' w3 hown3 hgrow3 hat3; obtain ⟨a4, c4, rfl⟩ := AA hown3; have HG3 := hid hgrow3; have HO3 := hid hown3; have hbw3 : Below w.heap.size w w3 := (Below.grown hbw2 hgrow3 zC (fun g e => (HO.out.lt g e).1)); have Z1 := (hbw3.cell (p := ⟨b, o + k * 3 + 1, none⟩) hbb).trans HX.out.2.1; have hs3 := hgrow3.size; clear hgrow3 hown3 hat3))
    refine (HV2.out _).mono ?_
    rintro r w4 ⟨v4, rfl, hv4, hb4⟩;obtain ⟨a5, c5, hv5, hr5, _⟩ := AN hv4
    simp only [Au, AO] at hv5
    subst hv5;have hs4 := hb4.size
    have hbw4 := Af hb4 hbw3
    have HO4 := hid (AD HO3.out hb4)
    have HS4 := hid (A5 (Ah.mono (S' := (· < w4.heap.size)) hr5 fun q hq => hq.2))
    generalize Ay (yo - 1) = E2 at *
    have HONE4 := hid (AI E2)
    clear hv4 hr5;go_wp2_with (at_builtin; go_loud (refine Aq rfl _ _ _ rfl w.heap.size 5 i0 (.int .u8 0) 1 1 As hi hz0 hz1 hz2 rfl zP (.slice a4 (J.length + E.length) c4) (J.length + E.length) (byteCells J ++ byteCells E) rfl HO4.out a5 E2.length c5 (byteCells E2) rfl HS4.out HONE4.out zK zC zC ?_; intro v' w5 hown5 hgrow5 hat5; have HG5 := hid hgrow5; have HO5 := hid hown5; clear hgrow5 hown5 hat5))
    have ho := HO5.out
    rw [CX, CX, Av, ← hst.out] at ho
    have hln : J.length + E.length + E2.length = (BX (xs.take (k + 1))).length := zCc
    rw [hln] at ho
    have HOF := hid ho
    have hbF : Below w.heap.size w w5 := Below.grown hbw4 HG5.out zC (fun g e => (HO4.out.lt g e).1)
    clear ho hln Z1;go_wp2;go_roundw
    case rel => exact ⟨k + 1, zC, zV, HOF.out, hbF⟩
    case measure => simp [intOf]; omega
  ·obtain rfl : k = xs.length := by omega
   rw [Es] at hown
   have hV := B9 rfl hown
   have HV := hid hV
   clear hV hown;go_wp2;go_ret;exact ⟨_, rfl, HV.out, hb⟩
end Go.Proofs.YtlbffbkbkajciaaGreat
namespace Go.Bs
open Go.RowKit
theorem Qq {w : World} {base : Nat} {e : TypeId} {v : Value} {l : List UInt8} {n : Nat} (hn : n = l.length) (h : w.ownsRow base e 1 v n (byteCells l)) : Ah.r (fun b => v.ownBlock = some b) w [v] l := by
 subst hn;rcases h.2 with ⟨rfl, h0⟩ | ⟨g, cap, cur, rfl, hbg, hg, hn, hc, hcur, hx⟩
 ·have : l = [] := AT h0
  subst this;exact Bh rfl (Ak _) (Aj _) (.inl rfl)
 ·refine Bh rfl hn hc (.inr ⟨g, 0, rfl, rfl, fun i x hi => ⟨[.int .u8 (x.toNat : Int)], rfl, fun j v hj => ?_, rfl⟩⟩)
  have hj0 : j = 0 := by
   rcases j with _ | j
   ·rfl
   ·simp at hj
  subst hj0;simp at hj
  subst hj;have hi' : i < l.length := (List.getElem?_eq_some_iff.1 hi).1
  rw [A3, DA, BE, Blk.cell hg i]
  have e1 : cur[i]? = (cur.toList.take (l.length * 1))[i]? := by
   rw [CR, Am zC]; simp
  rw [e1, hx]
  simp [byteCells, hi]
end Go.Bs
namespace Go.Proofs.YtlbffbkbkajciaaGreat
open Go.RowKit Go.Bs Go.Maps
def rTV : Rp (Tok ⊕ Value) :=
  ⟨fun S w cs x => match x with | .inl t => GW.r S w cs t | .inr v => cs = [v, .int .i64 0, .int .i64 0],
   fun {S w w' cs x} h hk => by cases x with | inl b => exact GW.keep h hk | inr y => exact h,
   fun {S S' w cs x} h hk => by cases x with | inl b => exact GW.mono h hk | inr y => exact h⟩
structure Hv (lo : Nat) (w : World) (g c : Nat) (cells : List (List Value)) (ts : List Tok) (D : List UInt8) (vl : Value) : Prop where
 own : Bn (fun x => lo ≤ x ∧ x < w.heap.size ∧ vl.ownBlock ≠ some x) rTV lo 225 3 w (.slice (some ⟨g, 0, none⟩) (ts.length + 1) c) (ts.map .inl ++ [.inr vl]) (cells ++ [[vl, .int .i64 0, .int .i64 0]])
 len : cells.length = ts.length
 last : w.ownsRow lo 5 1 vl D.length (byteCells D)
 ne : vl.ownBlock ≠ some g
theorem Ux {w : World} {F : Nat → Prop} {base : Nat} {e : TypeId} {sz : Nat} {v : Value} {xs : List Tok} {cells : List (List Value)} (h : Bn F GW base e sz w v xs cells) : Bn F rTV base e sz w v (xs.map .inl) cells := by
 obtain ⟨ho, hlen, hsz, hA⟩ := h
 refine ⟨by simpa using ho, zCe, hsz, fun i cs x hi hx => ?_⟩
 rw [JL] at hx
 cases hxi : xs[i]? with
 | none => rw [hxi] at hx; cases hx
 | some y => rw [hxi] at hx; cases hx; exact hA i cs y hi hxi
theorem Hv.VH {lo : Nat} {w : World} {g c : Nat} {cells : List (List Value)} {ts : List Tok} {D : List UInt8} {vl : Value} (h : Hv lo w g c cells ts D vl) : lo ≤ g ∧ g < w.heap.size := h.own.1.lt g rfl
theorem Hv.close {lo : Nat} {w : World} {g c : Nat} {cells : List (List Value)} {ts : List Tok} {D : List UInt8} {vl : Value} (h : Hv lo w g c cells ts D vl) :
  CP lo GW lo 225 3 w (.slice (some ⟨g, 0, none⟩) (ts.length + 1) c) (ts ++ [⟨D, 0, 0⟩]) (cells ++ [[vl, .int .i64 0, .int .i64 0]]) := by
 obtain ⟨⟨ho, hlen, hsz, hA⟩, h1, h4, h5⟩ := h
 refine ⟨by simpa using ho, zCe, hsz, fun i cs x hi hx => ?_⟩
 by_cases hlt : i < ts.length
 ·rw [Bq hlt] at hx
  have := hA i cs (.inl x) hi zBg
  exact GW.mono this fun b hb => ⟨hb.1.1, hb.1.2.1, hb.2⟩
 ·have hii : i = ts.length := by
   have := (List.getElem?_eq_some_iff.1 hx).1
   simp at this
   omega
  subst hii;rw [By zC] at hi
  rw [By (Ak _)] at hx
  simp [h1] at hi
  simp at hx
  subst hi hx;exact Nq (x := ⟨D, 0, 0⟩) (Ah.mono (Qq rfl h4) fun b hb => ⟨(h4.lt b hb).1, (h4.lt b hb).2, fun e => h5 (by rw [hb]; exact e.symm)⟩) zO zO
theorem Hv.start {lo : Nat} {w w' : World} {g c : Nat} {v : Value} {ts : List Tok} {y : UInt8} {cells : List (List Value)} (hlo : lo ≤ w.heap.size) (h : CP lo GW lo 225 3 w v ts cells)
  (hown : w'.ownsRow lo 225 3 (.slice (some ⟨g, 0, none⟩) (ts.length + 1) c) (ts.length + 1) (cells.flatten ++ [.slice (some ⟨w.heap.size, 0, none⟩) 1 1, .int .i64 0, .int .i64 0]))
  (hg : ((w.alloc (.cells #[.int .u8 (y.toNat : Int)] 5)).alloc (.cells #[.slice (some ⟨w.heap.size, 0, none⟩) 1 1, .int .i64 0, .int .i64 0] 225)).grownBy w' v.ownBlock)
  (hat : (Value.slice (some ⟨g, 0, none⟩) (ts.length + 1) c).ownBlock = v.ownBlock ∨ (Value.slice (some ⟨g, 0, none⟩) (ts.length + 1) c).ownBlock = some ((w.alloc (.cells #[.int .u8 (y.toNat : Int)] 5)).alloc (.cells #[.slice (some ⟨w.heap.size, 0, none⟩) 1 1, .int .i64 0, .int .i64 0] 225)).heap.size) :
  Hv lo w' g c cells ts [y] (.slice (some ⟨w.heap.size, 0, none⟩) 1 1) := by
 have hv := fun q (hq : v.ownBlock = some q) => (h.1.lt q hq).2
 generalize hW : (w.alloc (.cells #[.int .u8 (y.toNat : Int)] 5)).alloc (.cells #[.slice (some ⟨w.heap.size, 0, none⟩) 1 1, .int .i64 0, .int .i64 0] 225) = W at *
 have keep : ∀ b, b < w.heap.size → W.heap[b]? = w.heap[b]? := fun b hb => by
  rw [← hW, Br _ _ _ zJ, Br _ _ _ hb]
 have hs : W.heap.size = w.heap.size + 2 := by rw [← hW]; simp
 have hnew : W.heap[w.heap.size]? = some (.cells #[.int .u8 (y.toNat : Int)] 5 (0, 0)) := by
  rw [← hW, Br _ _ _ zO]
  exact D9 w _
 have hgw : g ≠ w.heap.size := fun e => by
  rcases hat with h1 | h1
  ·have := hv g (by rw [← h1]; rfl); omega
  ·have := BH h1; simp at this; omega
 have hs' := hg.size
 have h1 := Ux (((Bn.of h).keep (w' := W) (fun b hb => keep b hb.2) (fun q hq => keep q (hv q hq))).mono (F' := fun x => lo ≤ x ∧ x < W.heap.size ∧ x ≠ w.heap.size) fun b hb => ⟨hb.1, zC, zC⟩)
 have h2 := Bn.push (v' := .slice (some ⟨g, 0, none⟩) (ts.length + 1) c) (x := (.inr (.slice (some ⟨w.heap.size, 0, none⟩) 1 1) : Tok ⊕ Value)) h1 (fun b hb => hb.2.1) (news := [.slice (some ⟨w.heap.size, 0, none⟩) 1 1, .int .i64 0, .int .i64 0]) rfl rfl (by simpa using hown) hg hat
 refine ⟨h2.mono fun b hb => ⟨hb.1, zC, fun e => hb.2.2 (BH e).symm⟩, h.2.1, ?_, fun e => hgw (BH e).symm⟩
 refine FC hlo ((hg.block w.heap.size zC (fun e => ?_)).trans hnew)
 have := hv w.heap.size e.symm
 omega
theorem Hv.grow {lo : Nat} {w w' : World} {g c : Nat} {cells : List (List Value)} {ts : List Tok} {D D' : List UInt8} {vl vl' : Value} (h : Hv lo w g c cells ts D vl)
  (hk : ∀ b, b < w.heap.size → vl.ownBlock ≠ some b → w'.heap[b]? = w.heap[b]?) (hs : w.heap.size ≤ w'.heap.size) (hl : w'.ownsRow lo 5 1 vl' D'.length (byteCells D'))
  (hat : vl'.ownBlock = vl.ownBlock ∨ ∃ q, vl'.ownBlock = some q ∧ w.heap.size ≤ q) :
  Hv lo (w'.setCell ⟨g, ts.length * 3, none⟩ vl') g c cells ts D' vl' := by
 have hgl := h.VH
 obtain ⟨ho, h1, h4, h5⟩ := h
 have hsame : (w'.setCell ⟨g, ts.length * 3, none⟩ vl').heap.size = w'.heap.size := ZT
 have hne' : vl'.ownBlock ≠ some g := fun e => by
  rcases hat with h | ⟨q, h, hq⟩
  ·exact h5 (h ▸ e)
  ·rw [h] at e; have := BH e; omega
 have ho' := ho.keep (w' := w') (fun b hb => hk b hb.2.1 hb.2.2) (fun g' hg' => by
  have e : g = g' := by simpa [Value.ownBlock] using hg'
  subst e;exact hk g hgl.2 h5)
 have h7 := Bn.Ry (x' := (.inr vl' : Tok ⊕ Value)) (j := 0) (u := vl') ho' zAe zC (show _ = _ from rfl)
 rw [BE, List.length_map] at h7
 have h8 : Bn (fun x => lo ≤ x ∧ x < w.heap.size ∧ vl.ownBlock ≠ some x) rTV lo 225 3 (w'.setCell ⟨g, ts.length * 3, none⟩ vl') (.slice (some ⟨g, 0, none⟩) (ts.length + 1) c) (ts.map .inl ++ [.inr vl']) (cells ++ [[vl', .int .i64 0, .int .i64 0]]) := h7
 refine ⟨Bn.mono h8 fun b hb => ⟨hb.1, by rw [hsame]; omega, fun e => ?_⟩, h1, Gm hl fun q hq => AM _ _ _ _ (fun e => hne' (by rw [hq]; exact D8 some e)), hne'⟩
 rcases hat with h | ⟨q, h, hq⟩
 ·exact hb.2.2 (h ▸ e)
 ·rw [h] at e; have := BH e; omega
theorem Hv.later {lo : Nat} {w w' : World} {g c : Nat} {cells : List (List Value)} {ts : List Tok} {D : List UInt8} {vl : Value} (h : Hv lo w g c cells ts D vl) (hb : Below w.heap.size w w') : Hv lo w' g c cells ts D vl := by
 have hgl := h.VH
 obtain ⟨ho, h1, h4, h5⟩ := h
 refine ⟨(ho.keep (w' := w') (fun b h => hb.block b h.2.1) (fun g' hg' => hb.block g' (ho.1.lt g' hg').2)).mono fun b hb' => ⟨hb'.1, by have := hb.size; omega, hb'.2.2⟩, h1, AD h4 hb, h5⟩
theorem Hv.place {lo : Nat} {w : World} {g c : Nat} {cells : List (List Value)} {ts : List Tok} {D : List UInt8} {vl : Value} (h : Hv lo w g c cells ts D vl) :
  w.cell? ⟨g, ts.length * 3, none⟩ = some vl ∧ w.cell? ⟨g, ts.length * 3 + 1, none⟩ = some (.int .i64 0) ∧ w.frozen? ⟨g, ts.length * 3, none⟩ = false := by
 obtain ⟨⟨ho, hlen, hsz, hA⟩, h1, _⟩ := h
 rcases ho.2 with ⟨h0, _⟩ | ⟨g', cap, cur, hv, hbg, hg, hn, hc, hcur, hx⟩
 ·cases h0
 ·simp at hv
  obtain ⟨rfl, rfl⟩ := hv
  have hf : ∀ j u, [vl, Value.int .i64 0, .int .i64 0][j]? = some u → cur[ts.length * 3 + j]? = some u := fun j u hu => by
   have hf := Fj 3 (cells ++ [[vl, .int .i64 0, .int .i64 0]]) hsz ts.length j [vl, .int .i64 0, .int .i64 0] u zB8 hu
   rw [← hx, CR] at hf
   split at hf
   ·simpa using hf
   ·cases hf
  refine ⟨?_, ?_, Blk.free hg _⟩
  ·rw [Blk.cell hg]; exact hf 0 vl rfl
  ·rw [Blk.cell hg]; exact hf 1 _ rfl
def Rest (b : List UInt8) (p i : Nat) (O : List Tok) : Prop := ∃ f, b.length ≤ p + f ∧ DV b = O ++ Eu b f p i
theorem Rest.copy {b : List UInt8} {p i o m : Nat} {O : List Tok} (h : Rest b p i O) (hp : p < b.length) (hb : BV b p = (o, m)) (hm : m ≠ 0) : Rest b (p + m) (p + m) (O ++ Ei b i p ++ [⟨[], (o : Int), (m : Int)⟩]) := by
 obtain ⟨f, hf, h⟩ := h
 obtain ⟨f, rfl⟩ : ∃ f', f = f' + 1 := ⟨f - 1, zC⟩
 refine ⟨f, zC, ?_⟩
 rw [h]
 simp only [Eu, Am hp, hb, An hm]
 simp
theorem Rest.none {b : List UInt8} {p i o : Nat} {O : List Tok} (h : Rest b p i O) (hp : p < b.length) (hb : BV b p = (o, 0)) : Rest b (p + 1) i O := by
 obtain ⟨f, hf, h⟩ := h
 obtain ⟨f, rfl⟩ : ∃ f', f = f' + 1 := ⟨f - 1, zC⟩
 refine ⟨f, zC, ?_⟩
 rw [h]
 simp only [Eu, Am hp, hb, JG]
theorem Rest.fin {b : List UInt8} {i : Nat} {O : List Tok} (h : Rest b b.length i O) : DV b = O ++ Ei b i b.length := by
 obtain ⟨f, hf, h⟩ := h
 rw [h]
 cases f with
 | zero => rfl
 | succ f => simp only [Eu, An (Nat.lt_irrefl _)]
def JF (O : List Tok) : Prop := ∀ n, O.length = n + 1 → ∀ t, O[n]? = some t → t.off ≠ 0
theorem JF.snoc (O : List Tok) {o m : Nat} (ho : o ≠ 0) : JF (O ++ [⟨[], (o : Int), (m : Int)⟩]) := fun n hn t ht => by
 have e : n = O.length := by simp at hn; omega
 subst e;simp at ht
 subst ht;simpa using ho
def Rq (lo : Nat) (b : List UInt8) (w : World) (v : Value) (O : List Tok) (i p : Nat) : Prop :=
 (i = p ∧ ∃ cells, CP lo GW lo 225 3 w v O cells) ∨ (i < p ∧ ∃ g c cells vl, v = .slice (some ⟨g, 0, none⟩) (O.length + 1) c ∧ Hv lo w g c cells O ((b.drop i).take (p - i)) vl)
theorem Rq.close {lo : Nat} {b : List UInt8} {w : World} {v : Value} {O : List Tok} {i p : Nat} (h : Rq lo b w v O i p) : ∃ cells, CP lo GW lo 225 3 w v (O ++ Ei b i p) cells := by
 rcases h with ⟨rfl, cells, h⟩ | ⟨h0, g, c, cells, vl, rfl, h⟩
 ·exact ⟨cells, by simpa [Ei] using h⟩
 ·exact ⟨_, by have := h.close; simpa [Ei, h0] using this⟩
theorem OY {b : List UInt8} {i p : Nat} (hi : i ≤ p) (hp : p < b.length) : (b.drop i).take (p + 1 - i) = (b.drop i).take (p - i) ++ [b[p]] := by
 rw [show p + 1 - i = (p - i) + 1 by omega, AU zJ]
 congr 2
 simp
 congr 1
 omega
theorem NA (b : List UInt8) (a : Option Addr) (n c : Nat) (w : World) (hl : Ah.r (· < w.heap.size) w [.slice a n c] b) (hlen : b.length ≤ 1048576) :
  Calls Tryz.prog 226 #[.slice a n c] w fun r w' => ∃ v, r = .returned v ∧ KH.r (fun q => w.heap.size ≤ q ∧ q < w'.heap.size) w' [v] (DV b) ∧ Below w.heap.size w w' := by
 obtain ⟨rfl, hm, _, _⟩ := AS hl
 obtain ⟨i0, hi, hz0, hz1, hz2⟩ := A8 Dz
 obtain ⟨j0, hj0, hy0, hy1, hy2⟩ := A8 NN
 have HL := hid hl
 clear hl;go_enter Tryz.func226, Tryz.ntmps226
 go_wp2_with fail;go_loopw [3, 4] (fun v pv wr => ∃ (p i : Nat) (O : List Tok), pv = .int .i64 p ∧ p ≤ b.length ∧ i ≤ p ∧ O.length ≤ i ∧ Hid (Rest b p i O) ∧ Hid (JF O) ∧ Hid (Rq w.heap.size b wr v O i p) ∧ Below w.heap.size w wr) (fun _ pv _ => b.length - (intOf pv).toNat)
 case atStart => exact ⟨0, 0, [], rfl, Aj _, Ak _, Ak _, hid ⟨b.length, zC, rfl⟩, hid (fun n hn => by simp at hn), hid (.inl ⟨rfl, A6.nil⟩), Below.refl _ _⟩
 case round =>
  obtain ⟨p, i, O, rfl, hp, hip, hOi, hrest, hlc, hout, hb⟩ := hrel
  have hbs := hb.size
  obtain ⟨cells3, hcl⟩ := hout.out.close
  obtain ⟨av, cv, rfl⟩ := AA hcl.1
  have hLL : (O ++ Ei b i p).length ≤ p := by
   unfold Ei;split <;> simp <;> omega
  rcases Bd p b.length with hlt | hge
  ·have HB := hid (OI b p a _ c wr (lift HL.out hb) hlen)
   have hfc := hid (EJ b p)
   have hroom := Hn b p
   generalize hom : BV b p = om at *
   obtain ⟨o, m⟩ := om
   dsimp only at hroom;have HOM := hid hom; have HCL := hid hcl
   clear hom hcl;by_cases hm0 : m = 0
   ·subst hm0
    have hrn := hid (hrest.out.none hlt HOM.out)
    have hyb := CO HL.out hlt
    obtain ⟨ab, ob, hA, hab, hcb⟩ := hyb
    subst hA;have hab' : ab < w.heap.size := hab
    rcases hout.out with ⟨hipe, cells, hcl0⟩ | ⟨h0, g, cg, cells, vl, hv, htb⟩
    ·subst hipe
     have hlit : Ei b i i = [] := by simp [Ei]
     have HLS := hid (OY (Ak i) hlt)
     simp only [JK, List.take_zero, Bj] at HLS
     simp only [hlit, Gy] at hcl0 hLL hrn ⊢
     generalize b[i] = y at *
     clear hlit hout HCL;have HCB := hid hcb
     clear hcb;rcases Cz O.length with hO0 | hO0
     ·obtain rfl : O = [] := AT hO0
      clear hO0;simp only [Bu] at *
      go_wp2_with fail;refine HB.out.mono ?_
      rintro r w2 ⟨rfl, hb2⟩;have hs2 := hb2.size
      have hbw2 := Af hb2 hb
      have HC2 := hid (hcl0.below hb2)
      have Yb := (hbw2.cell (p := ⟨ab, ob + i, none⟩) hab).trans HCB.out
      have i4 : (i : Int) < (b.length : Int) := zC
      go_wp2_with (at_builtin; go_loud (refine Aq rfl _ _ _ rfl w.heap.size 225 j0 (.agg #[.slice none 0 0, .int .i64 0, .int .i64 0]) 3 40 Tryz.underlying214 hj0 hy0 hy1 hy2 rfl zP (.slice av 0 cv) 0 cells.flatten rfl (AD HC2.out.1 zB) (some ⟨w2.heap.size + 1, 0, none⟩) 1 1 [.slice (some ⟨w2.heap.size, 0, none⟩) 1 1, .int .i64 0, .int .i64 0] rfl (Bx (w2.alloc (.cells #[.int .u8 (y.toNat : Int)] 5)) 225 _ rfl zO rfl) (by intro u hu; simp at hu; rcases hu with rfl | rfl | rfl <;> rfl) zK zC zJ ?_; intro v8 w8 hown8 hgrow8 hat8; obtain ⟨g8, c8, rfl⟩ := TM hown8; have HG8 := hid hgrow8; have HO8 := hid hown8; have HA8 := hid hat8; clear hgrow8 hown8 hat8))
      have hst := Hv.start zC HC2.out HO8.out HG8.out HA8.out
      have hb8 : Below w.heap.size w w8 := Below.grown zB HG8.out zJ (fun g e => (HC2.out.1.lt g e).1)
      have hto : Rq w.heap.size b w8 (.slice (some ⟨g8, 0, none⟩) (0 + 1) c8) [] i (i + 1) := .inr ⟨zC, g8, c8, cells, _, rfl, by rw [HLS.out]; exact hst⟩
      have HTO := hid hto
      clear hto hst;go_wp2_with fail;go_roundw
      case rel => exact ⟨i + 1, i, [] , zV, zC, zC, zC, hrn, hlc, HTO, hb8⟩
      case measure => simp [intOf]; omega
     ·obtain ⟨k, hk⟩ : ∃ k, O.length = k + 1 := ⟨O.length - 1, zC⟩
      obtain ⟨gt, ot, hA2, hgt, at2, ct2, q0, q1, q2, zz1, zz2, zz3⟩ := Nr (xs := O) (A6.slice (Ak _) ⟨_, hcl0⟩) (i := k) zC
      have hoff := hlc.out k hk O[k] (AR zC)
      have eo : (O[k].off == 0) = false := by simpa using hoff
      have HQ1 := hid q1
      have t1 : ((O.length : Int) - 1).toNat = k := zC
      have t2 : (0 : Int) ≤ (O.length : Int) - 1 := zC
      have t3 : (O.length : Int) - 1 < (O.length : Int) := zC
      have d5 : decide ((0 : Int) ≤ (O.length : Int) - 1) = true := Ae t2
      generalize O[k].off = of at *
      have HHK := hid hk
      clear zz1 zz2 zz3 q0 q1 q2 hoff;clear hk hO0;have hgt' := hgt
      subst hA2;go_wp2_with fail;refine HB.out.mono ?_
      rintro r w2 ⟨rfl, hb2⟩;have hs2 := hb2.size
      have hbw2 := Af hb2 hb
      have HC2 := hid (hcl0.below hb2)
      have Q1 := (hb2.cell (p := ⟨gt, ot + k * 3 + 1, none⟩) hgt.2).trans HQ1.out
      have Yb := (hbw2.cell (p := ⟨ab, ob + i, none⟩) hab).trans HCB.out
      have i4 : (i : Int) < (b.length : Int) := zC
      go_wp2_with (at_builtin; go_loud (refine Aq rfl _ _ _ rfl w.heap.size 225 j0 (.agg #[.slice none 0 0, .int .i64 0, .int .i64 0]) 3 40 Tryz.underlying214 hj0 hy0 hy1 hy2 rfl zP (.slice (some ⟨gt, ot, none⟩) O.length cv) O.length cells.flatten rfl (AD HC2.out.1 zB) (some ⟨w2.heap.size + 1, 0, none⟩) 1 1 [.slice (some ⟨w2.heap.size, 0, none⟩) 1 1, .int .i64 0, .int .i64 0] rfl (Bx (w2.alloc (.cells #[.int .u8 (y.toNat : Int)] 5)) 225 _ rfl zO rfl) (by intro u hu; simp at hu; rcases hu with rfl | rfl | rfl <;> rfl) zK zC zJ ?_; intro v8 w8 hown8 hgrow8 hat8; obtain ⟨g8, c8, rfl⟩ := TM hown8; have HG8 := hid hgrow8; have HO8 := hid hown8; have HA8 := hid hat8; clear hgrow8 hown8 hat8))
      have hst := Hv.start zC HC2.out HO8.out HG8.out HA8.out
      have hb8 : Below w.heap.size w w8 := Below.grown zB HG8.out zJ (fun g e => (HC2.out.1.lt g e).1)
      have hto : Rq w.heap.size b w8 (.slice (some ⟨g8, 0, none⟩) (O.length + 1) c8) O i (i + 1) := .inr ⟨zC, g8, c8, cells, _, rfl, by rw [HLS.out]; exact hst⟩
      have HTO := hid hto
      clear hto hst;go_wp2_with fail;go_roundw
      case rel => exact ⟨i + 1, i, O , zV, zC, zC, zC, hrn, hlc, HTO, hb8⟩
      case measure => simp [intOf]; omega
    ·have hlt1 : (O ++ Ei b i p).length = O.length + 1 := by simp [Ei, h0]
     rw [hlt1] at *
     have HLS := hid (OY hip hlt)
     simp only [Value.slice.injEq] at hv
     obtain ⟨rfl, _, rfl⟩ := hv
     generalize hDD : (b.drop i).take (p - i) = D at *
     have hDl : D.length ≤ 1048576 := by rw [← hDD]; simp; omega
     generalize b[p] = y at *
     clear hDD hlt1 hout HCL;obtain ⟨al, cl, rfl⟩ := AA htb.last
     have HCB := hid hcb; have HTB := hid htb
     clear hcb htb;have d5 : decide ((0 : Int) ≤ (O.length : Int)) = true := Ae zC
     have kk : (O.length : Int) + 1 - 1 = (O.length : Int) := zC
     have i3 : (O.length : Int) < (O.length : Int) + 1 := zC
     have i4 : (p : Int) < (b.length : Int) := zC
     have i5 : (0 : Int) ≤ (O.length : Int) := zC
     go_wp2_with fail;refine HB.out.mono ?_
     rintro r w2 ⟨rfl, hb2⟩;have hs2 := hb2.size
     have hbw2 := Af hb2 hb
     have HT2 := hid (HTB.out.later hb2)
     obtain ⟨pl0, pl1, pl2⟩ := HT2.out.place
     obtain ⟨hg1, hg2⟩ := HT2.out.VH
     have hne := HT2.out.ne
     have hol := fun q (hq : (Value.slice al D.length cl).ownBlock = some q) => HT2.out.last.lt q hq
     have HOL := hid hol; clear hol
     have Yb := (hbw2.cell (p := ⟨ab, ob + p, none⟩) hab).trans HCB.out
     have hab2 : ab < w2.heap.size := zC
     go_wp2_with fail;refine DC (fun w' => w'.cell? ⟨g, O.length * 3, none⟩ = some (.slice al D.length cl) ∧ w'.cell? ⟨ab, ob + p, none⟩ = some (.int .u8 (y.toNat : Int))) _ zG rfl zG ⟨pl0, Yb⟩ (fun hHeld => ?_)
     simp only [Cm, GO]
     refine Ap (i := 0) (oi := _) (v := ?_) rfl zE zE zE (fun _ _ _ h => h) (Or.inl ⟨zT, ?_⟩) zM ?_
     rotate_left
     ·(intro w hSw; (try dsimp only at hSw); go_simp <;> with_reducible rfl)
     (try simp only [Act.put, Aa, Ab, Ac])
     refine Ap (i := 1) (oi := _) (v := ?_) rfl zE zE zE (fun _ _ _ h => h) (Or.inl ⟨zT, ?_⟩) zM ?_
     rotate_left
     ·(intro w hSw; (try dsimp only at hSw); go_simp <;> with_reducible rfl)
     (try simp only [Act.put, Aa, Ab, Ac])
     refine Ap (i := 2) (oi := _) (v := ?_) rfl zE zE zE (fun _ _ _ h => h) (Or.inl ⟨zT, ?_⟩) zM ?_
     rotate_left
     ·(intro w hSw; (try dsimp only at hSw); go_simp <;> with_reducible rfl)
     (try simp only [Act.put, Aa, Ab, Ac])
     refine Ap (i := 3) (oi := _) (v := ?_) rfl zE zE zE (fun _ _ _ h => h) (Or.inl ⟨zT, ?_⟩) zM ?_
     rotate_left
     ·(intro w hSw; (try dsimp only at hSw); go_simp <;> with_reducible rfl)
     (try simp only [Act.put, Aa, Ab, Ac])
     refine Ap (i := 4) (oi := _) (v := ?_) rfl zE zE zE (fun _ _ _ h => h) (Or.inl ⟨zT, ?_⟩) zM ?_
     rotate_left
     ·(intro w hSw; (try dsimp only at hSw); go_simp <;> with_reducible rfl)
     (try simp only [Act.put, Aa, Ab, Ac])
     refine Ap (i := 5) (oi := _) (v := ?_) rfl zE zE zE (fun _ _ _ h => h) (Or.inl ⟨zT, ?_⟩) zM ?_
     rotate_left
     ·(intro w hSw; (try dsimp only at hSw); go_simp <;> with_reducible rfl)
     (try simp only [Act.put, Aa, Ab, Ac])
     refine Ap (i := 6) (oi := _) (v := ?_) rfl zE zE zE (fun _ _ _ h => h) (Or.inl ⟨zT, ?_⟩) zM ?_
     rotate_left
     ·(intro w hSw; (try dsimp only at hSw); go_simp <;> with_reducible rfl)
     (try simp only [Act.put, Aa, Ab, Ac])
     refine Ap (i := 7) (oi := _) (v := ?_) rfl zE zE zE (fun _ _ _ h => h) (Or.inl ⟨zT, ?_⟩) zM ?_
     rotate_left
     ·(intro w hSw; (try dsimp only at hSw); go_simp <;> with_reducible rfl)
     (try simp only [Act.put, Aa, Ab, Ac])
     refine Ap (i := 8) (oi := _) (v := ?_) rfl zE zE zE (fun _ _ _ h => h) (Or.inl ⟨zT, ?_⟩) zM ?_
     rotate_left
     ·(intro w hSw; (try dsimp only at hSw); go_simp <;> with_reducible rfl)
     (try simp only [Act.put, Aa, Ab, Ac])
     refine Ap (i := 9) (oi := _) (v := ?_) rfl zE zE zE (fun _ _ _ h => h) (Or.inl ⟨zT, ?_⟩) zM ?_
     rotate_left
     ·(intro w hSw; (try dsimp only at hSw); go_simp <;> with_reducible rfl)
     (try simp only [Act.put, Aa, Ab, Ac])
     refine Ap (i := 10) (oi := _) (v := ?_) rfl zE zE zE (fun _ _ _ h => h) (Or.inl ⟨zT, ?_⟩) zM ?_
     rotate_left
     ·(intro w hSw; (try dsimp only at hSw); go_simp <;> with_reducible rfl)
     (try simp only [Act.put, Aa, Ab, Ac])
     refine AP (rs := [11]) zE zO ?_
     refine AG (o := _) rfl (fun K hK => ?_) AllReadyH.nil
     go_simp
     refine hK.out _ _ ?_ (fun hHeld => ?_)
     ·((try dsimp only); refine ⟨?_, ?_⟩ <;> (first | assumption | (go_keep; done)))
     clear hK K
     (try simp only [Act.put, Aa, Ab, Ac])
     refine AP (rs := [12]) zE zO ?_
     refine AG (o := _) rfl (fun K hK => ?_) AllReadyH.nil
     (refine BI zT _ _ _ zT w.heap.size 5 i0 (.int .u8 0) 1 1 As hi hz0 hz1 hz2 rfl zP (.slice al D.length cl) D.length (byteCells D) zT (AD HT2.out.last zB) (some ⟨w2.heap.size, 0, none⟩) 1 1 [.int .u8 (y.toNat : Int)] zT (Bx w2.drew 5 _ zT zT rfl) zW zK zC zJ ?_; intro a8 c8 w8 hown8 hgrow8 hat8; have G := fun b' (hb : b' < w2.heap.size) (hne : (Value.slice al D.length cl).ownBlock ≠ some b') => (hgrow8.block b' zJ (fun e => hne e.symm)).trans (Br w2.drew _ b' (by exact hb)); have m1 := (Bz (a := ⟨g, O.length * 3, none⟩) (G g hg2 hne)).trans pl0; have m2 := (Cy (a := ⟨g, O.length * 3, none⟩) (G g hg2 hne)).trans pl2; have neb : (Value.slice al D.length cl).ownBlock ≠ some ab := fun e => by { have := (HOL.out _ e).1; omega }; have m3 := (Bz (a := ⟨ab, ob + p, none⟩) (G ab hab2 neb)).trans Yb; have m4 : g < w8.heap.size := Ai hg2 (A4 zO hgrow8.size); have HG8 := hid hgrow8; have HO8 := hid hown8; have HA8 := hid hat8; have HGG := hid G; clear hgrow8 hown8 hat8 G neb)
     refine hK.out _ _ ?_ (fun hHeld => ?_)
     ·((try dsimp only); refine ⟨?_, ?_⟩ <;> (first | assumption | (go_keep; done)))
     clear hK K
     (try simp only [Act.put, Aa, Ab, Ac])
     refine Ap (i := 13) (oi := _) (v := ?_) rfl zE zE zE (fun _ _ _ h => h) (Or.inl ⟨zT, ?_⟩) zM ?_
     rotate_left
     ·(intro w hSw; (try dsimp only at hSw); go_simp <;> with_reducible rfl)
     (try simp only [Act.put, Aa, Ab, Ac])
     refine Ap (i := 14) (oi := _) (v := ?_) rfl zE zE zE (fun _ _ _ h => h) (Or.inl ⟨zT, ?_⟩) zM ?_
     rotate_left
     ·(intro w hSw; (try dsimp only at hSw); go_simp <;> with_reducible rfl)
     (try simp only [Act.put, Aa, Ab, Ac])
     refine Ap (i := 15) (oi := _) (v := ?_) rfl zE zE zE (fun _ _ _ h => h) (Or.inl ⟨zT, ?_⟩) zM ?_
     rotate_left
     ·(intro w hSw; (try dsimp only at hSw); go_simp <;> with_reducible rfl)
     (try simp only [Act.put, Aa, Ab, Ac])
     refine CG zG ?_ _
     show wpList _ _ _ _ _ _
     have hs8 : w2.heap.size + 1 ≤ w8.heap.size := by have := HG8.out.size; simpa using this
     have hgr := Hv.grow (w' := w8) (D' := D ++ [y]) (vl' := .slice a8 (D.length + 1) c8) HT2.out (fun q hq hn => HGG.out q hq hn) zC (by rw [Ag, ← Dq]; exact HO8.out) (by
      rcases HA8.out with h | h
      ·exact .inl h
      ·exact .inr ⟨_, h, zO⟩)
     have hb8 : Below w.heap.size w w8 := Below.grown zB HG8.out zJ (fun g e => (HOL.out g e).1)
     have hb9 : Below w.heap.size w (w8.setCell ⟨g, O.length * 3, none⟩ (.slice a8 (D.length + 1) c8)) := hb8.setCell hg1 _
     have hto : Rq w.heap.size b (w8.setCell ⟨g, O.length * 3, none⟩ (.slice a8 (D.length + 1) c8)) (.slice (some ⟨g, 0, none⟩) (O.length + 1) cv) O i (p + 1) := .inr ⟨zC, g, cv, cells, _, rfl, by rw [HLS.out]; exact hgr⟩
     have HTO := hid hto
     clear hto hgr;go_wp2_with fail;go_roundw
     case rel => exact ⟨p + 1, i, O, zV, zC, zC, zC, hrn, hlc, HTO, hb9⟩
     case measure => simp [intOf]; omega
   ·have hm4 : 1 ≤ o ∧ 4 ≤ m := by
     rcases hfc.out with h | ⟨o', m', h, h1, h2, h3, _⟩
     ·simp only [Ci] at h; omega
     ·simp only [Ci] at h; omega
    have hrn := hid (hrest.out.copy hlt HOM.out hm0)
    have hls := hid (JF.snoc (O ++ Ei b i p) (o := o) (m := m) zC)
    have d1 : decide ((0 : Int) < (m : Int)) = true := zJ
    have d1' : decide (0 < m) = true := zJ
    generalize hL3 : O ++ Ei b i p = L3 at *
    clear hL3 hm0;go_wp2_with fail;refine HB.out.mono ?_
    rintro r w2 ⟨rfl, hb2⟩;have hs2 := hb2.size
    have hbw2 := Af hb2 hb
    have HC2 := hid (HCL.out.below hb2)
    go_wp2_with (at_builtin; go_loud (refine Aq rfl _ _ _ rfl w.heap.size 225 j0 (.agg #[.slice none 0 0, .int .i64 0, .int .i64 0]) 3 40 Tryz.underlying214 hj0 hy0 hy1 hy2 rfl zP (.slice av L3.length cv) L3.length cells3.flatten rfl (AD HC2.out.1 zB) (some ⟨w2.heap.size, 0, none⟩) 1 1 [.slice none 0 0, .int .i64 (o : Int), .int .i64 (m : Int)] rfl (Bx w2 225 _ rfl rfl rfl) (by intro u hu; simp at hu; rcases hu with rfl | rfl | rfl <;> rfl) zK zC zJ ?_; intro v8 w8 hown8 hgrow8 hat8; obtain ⟨a8, c8, rfl⟩ := AA hown8; have HG8 := hid hgrow8; have HO8 := hid hown8; have HA8 := hid hat8; clear hgrow8 hown8 hat8))
    have hx : GW.r (fun q => w.heap.size ≤ q ∧ q < (w2.alloc (.cells #[.slice none 0 0, .int .i64 (o : Int), .int .i64 (m : Int)] 225)).heap.size ∧ (Value.slice av L3.length cv).ownBlock ≠ some q) (w2.alloc (.cells #[.slice none 0 0, .int .i64 (o : Int), .int .i64 (m : Int)] 225)) [.slice none 0 0, .int .i64 (o : Int), .int .i64 (m : Int)] ⟨[], o, m⟩ :=
     Nq (x := ⟨[], o, m⟩) (Bh rfl (Ak _) (Aj _) (.inl rfl)) zJ zJ
    have hpu := A6.push (HC2.out.below zB) rfl hx HO8.out HG8.out HA8.out HG8.out.size
    have hb8 : Below w.heap.size w w8 := Below.grown zB HG8.out zJ (fun g e => (HC2.out.1.lt g e).1)
    have hto : Rq w.heap.size b w8 (.slice a8 (L3.length + 1) c8) (L3 ++ [⟨[], (o : Int), (m : Int)⟩]) (p + m) (p + m) := .inl ⟨rfl, hpu⟩
    have HTO := hid hto
    clear hto hpu hx;go_wp2_with fail;go_roundw
    case rel => exact ⟨p + m, p + m, L3 ++ [⟨[], (o : Int), (m : Int)⟩], zV, zC, Ak _, zJ, hrn, hls, HTO, hb8⟩
    case measure => simp [intOf]; omega
  ·obtain rfl : p = b.length := by omega
   have hf := hrest.out.fin
   rw [← hf] at hcl
   have hV := A6.slice (Ak _) ⟨_, hcl⟩
   rw [← hf] at *
   have HV := hid hV
   clear hV hcl hf;go_wp2;go_ret;exact ⟨_, rfl, HV.out, hb⟩
theorem I0 {b : List UInt8} (hb : b.length ≤ 1048576) : ∀ {f : Bool} {p : Nat} {ts : List Tok}, Good b f p ts → ∀ t ∈ ts, Cs t = true
 | _, _, _, .nil, t, ht => by simp at ht
 | _, _, _, .copy (p := p) (o := o) (m := m) hp hbe hm hg, t, ht => by
  rcases List.mem_cons.1 ht with rfl | ht
  ·have h1 := EJ b p
   have h2 := (Hn b p).1
   rw [hbe] at h1 h2
   simp only at h2
   rcases h1 with h1 | ⟨o', m', h1, g1, g2, g3, _⟩
   ·simp only [Ci] at h1; omega
   ·simp only [Ci] at h1
    unfold reach at g2;simp [Cs, GL]
    omega
  ·exact I0 hb hg t ht
 | _, _, _, .run (p := p) (q := q) h1 h2 h3 hg, t, ht => by
  rcases List.mem_cons.1 ht with rfl | ht
  ·simp [Cs, EY]
   omega
  ·exact I0 hb hg t ht
theorem IS {b : List UInt8} (hb : b.length ≤ 1048576) : ∀ t ∈ DV b, Cs t = true := I0 hb (LW b)
theorem MB {b : List UInt8} (hb : b.length ≤ 1048576) : (DV b).length ≤ 10000000 := by
 have := Jb b b.length 0 0
 unfold DV;omega
theorem OM (w : World) (b : List UInt8) (a : Option Addr) (n c : Nat) (hl : Ah.r (· < w.heap.size) w [.slice a n c] b) (hlen : b.length ≤ 1048576) :
  Calls Tryz.prog 216 #[.slice a n c] w fun r w' => ∃ v, r = .returned (.tuple #[v, .int .i64 0]) ∧ Ah.r (fun q => w.heap.size ≤ q ∧ q < w'.heap.size) w' [v] (BX (DV b)) ∧ Below w.heap.size w w' := by
 obtain ⟨rfl, hm, _, _⟩ := AS hl
 have HT := hid (ND w b a _ c hl hlen)
 have hri := IS hlen
 have hl2 := MB hlen
 clear hl;generalize DV b = T at *
 go_enter Tryz.func216, Tryz.ntmps216
 go_wp2_with fail;refine HT.out.mono ?_
 rintro r w1 ⟨v, rfl, hr, hb1⟩;obtain ⟨a1, c1, hv, hr2, _⟩ := AN hr
 simp only [Au, AO] at hv
 subst hv;have HB := hid (Oc T a1 _ c1 w1 (KH.mono hr2 fun q hq => hq.2) hl2 hri)
 have hs1 := hb1.size
 clear hr hr2;go_wp2_with fail;refine HB.out.mono ?_
 rintro r w2 ⟨v2, rfl, hv2, hb2⟩;have hbe := Af hb2 hb1
 have HV := hid (Ah.mono (S' := fun q => w.heap.size ≤ q ∧ q < w2.heap.size) hv2 fun q hq => ⟨zY, hq.2⟩)
 clear hv2;go_wp2;go_ret2
 exact ⟨_, rfl, HV.out, hbe⟩
theorem EH (x : Nat) : ∀ (hx : x < 18446744073709551616) (w : World),
  Calls Tryz.prog 104 #[.int .u64 x] w fun r w' => ∃ v, r = .returned v ∧ w'.ownsRow w.heap.size 5 1 v (Ay x).length (byteCells (Ay x)) ∧ Below w.heap.size w w' := by
 induction x using Nat.strongRecOn with
 | ind x ih =>
 intro hx w;obtain ⟨i0, hi, hz0, hz1, hz2⟩ := A8 Dz
 by_cases h : x < 128
 ·have d1 : decide ((x : Int) < 128) = true := by simp; omega
  have hfin : Hid (Ay x = [UInt8.ofNat x]) := hid (Fc h)
  have hby : Hid ((x : Int) = ((UInt8.ofNat x).toNat : Int)) := hid (D6 zC)
  have HIH := hid ih; clear ih
  go_enter Tryz.func104, Tryz.ntmps104
  go_wp2_with fail;have e0 : [Value.int .u8 (x : Int)] = byteCells (Ay x) := by rw [hfin.out, hby.out]; rfl
  have ho : (w.alloc (.cells #[.int .u8 (x : Int)] 5)).ownsRow w.heap.size 5 1 (.slice (some ⟨w.heap.size, 0, none⟩) 1 1) 1 (byteCells (Ay x)) := e0 ▸ FC (w := w.alloc (.cells #[.int .u8 (x : Int)] 5)) (base := w.heap.size) (e := 5) (Ak _) (D9 w _)
  have HL1 : Hid ((Ay x).length = 1) := hid zZ
  have HV := hid ho
  clear ho e0;go_ret;exact ⟨_, rfl, by rw [HL1.out]; exact HV.out, zB⟩
 ·have d1 : decide ((x : Int) < 128) = false := by simp; omega
  have HIH := hid (fun (W : World) => ih (x / 128) zC zC W)
  clear ih;rw [show ((x / 128 : Nat) : Int) = (x : Int) / 128 by omega] at HIH
  have hfin : Hid (Ay x = [UInt8.ofNat (128 + x % 128)] ++ Ay (x / 128)) := hid (by rw [Iu h (by omega)]; rfl)
  have hby : Hid (128 + (x : Int) % 128 = ((UInt8.ofNat (128 + x % 128)).toNat : Int)) := hid zBh
  have hlb := AX (x / 128)
  go_enter Tryz.func104, Tryz.ntmps104
  go_wp2_with fail;refine (HIH.out _).mono ?_
  rintro r w1 ⟨v1, rfl, hr1, hb1⟩;have ho := FC (w := w.alloc (.cells #[.int .u8 (128 + (x : Int) % 128)] 5)) (base := w.heap.size) (e := 5) (Ak _) (D9 w _)
  have ho1 := AD ho hb1
  obtain ⟨a1, c1, rfl⟩ := AA hr1
  have hr3 := A5 (Ah.mono (B9 rfl hr1) (S' := (· < w1.heap.size)) fun b hb => hb.2)
  have HS := hid hr3; have HO := hid ho1; have HONE := hid (AI (Ay (x / 128)))
  have hz1w : w.heap.size + 1 ≤ w1.heap.size := zBr
  have hbw1 : Below w.heap.size w w1 := zB
  clear hr1 hr3 ho ho1;go_wp2_with (at_builtin; go_loud (refine Aq rfl _ _ _ rfl w.heap.size 5 i0 (.int .u8 0) 1 1 As hi hz0 hz1 hz2 rfl zP (.slice (some ⟨w.heap.size, 0, none⟩) 1 1) 1 _ rfl HO.out a1 (Ay (x / 128)).length c1 (byteCells (Ay (x / 128))) rfl HS.out HONE.out zK zC zC ?_; intro v' w2 hown2 hgrow2 hat2; have HG := hid hgrow2; have HO2 := hid hown2; clear hgrow2 hown2 hat2))
  have ho := HO2.out
  rw [hby.out, show [Value.int .u8 ((UInt8.ofNat (128 + x % 128)).toNat : Int)] = byteCells [UInt8.ofNat (128 + x % 128)] from rfl, byteCells, byteCells, ← CS, ← hfin.out] at ho
  rw [show 1 + (Ay (x / 128)).length = (Ay x).length by rw [hfin.out]; simp; omega] at ho
  have hB : Below w.heap.size w w2 := Below.grown hbw1 HG.out zC (fun g e => (HO.out.lt g e).1)
  have HV := hid ho
  clear ho;go_ret;exact ⟨_, rfl, HV.out, hB⟩
def Cg (D : List UInt8) : List UInt8 := Ay D.length ++ D
theorem Em (D : List UInt8) : (Cg D).length = (Ay D.length).length + D.length := by simp [Cg]
theorem Kl (n : Nat) (hn : n ≤ 100000000000000) (w : World) :
  Calls Tryz.prog 217 #[.int .i64 n] w fun r w' => r = .returned (.int .i64 ((Ay n).length + n : Nat)) ∧ Below w.heap.size w w' := by
 have HS := hid (fun (W : World) => Kp n zC W)
 have hl := AX n
 generalize (Ay n).length = k at *
 go_enter Tryz.func217, Tryz.ntmps217
 go_wp2_with fail;refine (HS.out _).mono ?_
 rintro r w1 ⟨rfl, hb1⟩;go_wp2;go_ret;exact ⟨zAz, hb1⟩
theorem Px (w : World) {g base most : Nat} {J : List UInt8} {a : Option Addr} {c : Nat} (h : BR w g base most J a c) (D : List UInt8) (ad : Option Addr) (nd cd : Nat)
  (hD : Ah.r (fun q => q < w.heap.size ∧ ¬ Dr g a q) w [.slice ad nd cd] D) (hfit : J.length + (Cg D).length ≤ most) (hlen : J.length + (Cg D).length ≤ 100000000000000) :
  Calls Tryz.prog 154 #[.pointer (some ⟨g, 0, none⟩), .slice ad nd cd] w fun r w' => r = .returned (.tuple #[]) ∧ At w g base most (J ++ Cg D) a w' := by
 obtain ⟨rfl, hm, _, _⟩ := AS hD
 rw [Em] at hfit hlen
 have HV := hid (B6 w h D.length zC zC zC)
 have HD := hid hD
 have hfit' := hid hfit; have hlen' := hid hlen
 clear h hD hfit hlen;go_enter Tryz.func154, Tryz.ntmps154
 go_wp2_with fail;refine HV.out.mono ?_
 rintro r w2 ⟨rfl, a2, c2, hp2, ht2, ha2⟩;have hs2 := ht2.size
 have HQ := hid (Fl w2 hp2 D ad _ cd (Ah.mono (Ah.keep HD.out fun q hq => ht2.block q hq.1 hq.2) fun q hq => Ai hq.1 hs2) zAu zAt)
 go_wp2_with fail;refine HQ.out.mono ?_
 rintro r w3 ⟨rfl, hst⟩;have hst2 := At.trans (J := J) ht2 ha2 hst
 rw [Av] at hst2
 have HST := hid hst2
 clear hst hst2;go_wp2;first | go_end0 | refine Al (Aw rfl _ _ _) rfl ?_
 exact ⟨rfl, HST.out⟩
theorem MN (w : World) (D : List UInt8) (a : Option Addr) (n c : Nat) (hl : Ah.r (· < w.heap.size) w [.slice a n c] D) (hlen : D.length ≤ 10000000000000) :
  Calls Tryz.prog 134 #[.slice a n c] w fun r w' => ∃ v, r = .returned v ∧ w'.ownsRow w.heap.size 5 1 v (Cg D).length (byteCells (Cg D)) ∧ Below w.heap.size w w' := by
 obtain ⟨rfl, hm, _, _⟩ := AS hl
 obtain ⟨i0, hi, hz0, hz1, hz2⟩ := A8 Dz
 have HL := hid hl
 have HV := hid (EH D.length zC w)
 have HONE := hid (AI D)
 have hvl := AX D.length
 have hbl := hid (Em D)
 have hbd : Hid (Cg D = Ay D.length ++ D) := hid rfl
 clear hl;generalize Ay D.length = E at *
 go_enter Tryz.func134, Tryz.ntmps134
 go_wp2_with fail;refine HV.out.mono ?_
 rintro r w1 ⟨v, rfl, ho, hb1⟩;obtain ⟨a1, c1, rfl⟩ := AA ho
 have hs1 := hb1.size
 have HO := hid ho
 have HS := hid (A5 (lift HL.out hb1))
 clear ho;go_wp2_with (at_builtin; go_loud (refine Aq rfl _ _ _ rfl w.heap.size 5 i0 (.int .u8 0) 1 1 As hi hz0 hz1 hz2 rfl zP (.slice a1 E.length c1) E.length (byteCells E) rfl HO.out a D.length c (byteCells D) rfl HS.out HONE.out zK zC zC ?_; intro v' w2 hown2 hgrow2 hat2; have HG := hid hgrow2; have HO2 := hid hown2; clear hgrow2 hown2 hat2))
 have ho := HO2.out
 rw [CX, ← hbd.out, show E.length + D.length = (Cg D).length from hbl.out.symm] at ho
 have hB : Below w.heap.size w w2 := Below.grown hb1 HG.out zC (fun g e => (HO.out.lt g e).1)
 have HV2 := hid ho
 clear ho;go_ret;exact ⟨_, rfl, HV2.out, hB⟩
theorem KC (w : World) (b : List UInt8) (a : Option Addr) (n c : Nat) (hl : Ah.r (· < w.heap.size) w [.slice a n c] b) (hlen : b.length ≤ 1048576) :
  Calls Tryz.prog 175 #[.slice a n c] w fun r w' => ∃ v, r = .returned v ∧ Ah.r (fun q => w.heap.size ≤ q ∧ q < w'.heap.size) w' [v] (BX (DV b)) ∧ Below w.heap.size w w' := by
 obtain ⟨rfl, hm, _, _⟩ := AS hl
 have HT := hid (NA b a _ c w hl hlen)
 have hri := IS hlen
 have hl2 := MB hlen
 clear hl;generalize DV b = T at *
 go_enter Tryz.func175, Tryz.ntmps175
 go_wp2_with fail;refine HT.out.mono ?_
 rintro r w1 ⟨v, rfl, hr, hb1⟩;obtain ⟨a1, c1, hv, hr2, _⟩ := AN hr
 simp only [Au, AO] at hv
 subst hv;have HB := hid (OJ T a1 _ c1 w1 (KH.mono hr2 fun q hq => hq.2) hl2 hri)
 have hs1 := hb1.size
 clear hr hr2;go_wp2_with fail;refine HB.out.mono ?_
 rintro r w2 ⟨v2, rfl, hv2, hb2⟩;have hbe := Af hb2 hb1
 have HV := hid (Ah.mono (S' := fun q => w.heap.size ≤ q ∧ q < w2.heap.size) hv2 fun q hq => ⟨zY, hq.2⟩)
 clear hv2;go_wp2;go_ret;exact ⟨_, rfl, HV.out, hbe⟩
def CZ (p : List UInt8) : List UInt8 := BX (DV p)
def FA (p : List UInt8) : Bool := decide ((Cg (CZ p)).length < p.length)
def Bp (p : List UInt8) : List UInt8 := Ay p.length ++ (if FA p then 1 :: Cg (CZ p) else 0 :: p)
theorem Ha {b : List UInt8} (hb : b.length ≤ 1048576) : (CZ b).length ≤ 10000000000000 := by
 have hL : ∀ t ∈ DV b, t.lit.length ≤ 1048576 := fun t ht => by
  rcases Fx (IS hb t ht) with ⟨D, rfl, h1, h2⟩ | ⟨o, m, rfl, _⟩
  ·exact h2
  ·simp
 have h1 := H6 (DV b)
 have h2 := Jh (DV b) hL (DV b).length (Ak _)
 rw [Es] at h2
 have h3 := Jb b b.length 0 0
 unfold CZ;unfold DV at *;omega
theorem Nz (w : World) (p : List UInt8) (a : Option Addr) (n c : Nat) (hl : Ah.r (· < w.heap.size) w [.slice a n c] p) (hlen : p.length ≤ 1048576) :
  Calls Tryz.prog 174 #[.slice a n c] w fun r w' => r = .returned (.bool (FA p)) ∧ Below w.heap.size w w' := by
 obtain ⟨rfl, hm, _, _⟩ := AS hl
 have HT := hid (KC w p a _ c hl hlen)
 have hsm := Ha hlen
 have hpk : Hid (FA p = decide ((Cg (CZ p)).length < p.length)) := hid rfl
 have hpI : Hid (decide (((Cg (CZ p)).length : Int) < (p.length : Int)) = FA p) := hid (by rw [hpk.out]; by_cases h : (Cg (CZ p)).length < p.length <;> simp [h])
 clear hl;rw [show BX (DV p) = CZ p from rfl] at HT
 generalize CZ p = E at *
 generalize FA p = R at *
 have HB := hid (fun (W : World) (a1 : Option Addr) (c1 : Nat) (h : Ah.r (· < W.heap.size) W [.slice a1 E.length c1] E) => MN W E a1 _ c1 h hsm)
 generalize Cg E = G at *
 clear hpk;go_enter Tryz.func174, Tryz.ntmps174
 go_wp2_with fail;refine HT.out.mono ?_
 rintro r w1 ⟨v, rfl, hr, hb1⟩;obtain ⟨a1, c1, hv, hr2, _⟩ := AN hr
 simp only [Au, AO] at hv
 subst hv;have HR := hid (Ah.mono hr2 (S' := (· < w1.heap.size)) fun q hq => hq.2)
 clear hr hr2;go_wp2_with fail;refine (HB.out _ a1 c1 HR.out).mono ?_
 rintro r w2 ⟨v2, rfl, ho, hb2⟩;obtain ⟨a2, c2, rfl⟩ := AA ho
 have hbe := Af hb2 hb1
 clear ho;have hpI' := hpI.out
 clear hpI;cases R
 ·have d1 : decide ((G.length : Int) < (p.length : Int)) = false := hpI'
  have d1' : decide (G.length < p.length) = false := by simp at d1; simp; omega
  clear hpI';go_wp2;go_ret;exact ⟨rfl, hbe⟩
 ·have d1 : decide ((G.length : Int) < (p.length : Int)) = true := hpI'
  have d1' : decide (G.length < p.length) = true := by simp at d1; simp; omega
  clear hpI';go_wp2;go_ret;exact ⟨rfl, hbe⟩
theorem N3 (w : World) (p : List UInt8) (a : Option Addr) (n c : Nat) (hl : Ah.r (· < w.heap.size) w [.slice a n c] p) (hlen : p.length ≤ 1048576) :
  Calls Tryz.prog 153 #[.slice a n c] w fun r w' => ∃ v, r = .returned (.tuple #[v, .bool (FA p)]) ∧ (FA p = true → Ah.r (fun q => w.heap.size ≤ q ∧ q < w'.heap.size) w' [v] (CZ p)) ∧ (FA p = false → v = .slice none 0 0) ∧ Below w.heap.size w w' := by
 obtain ⟨rfl, hm, _, _⟩ := AS hl
 have HT := hid (OM w p a _ c hl hlen)
 have hsm := Ha hlen
 have hbl := Em (CZ p)
 have hpk : Hid (FA p = decide ((Cg (CZ p)).length < p.length)) := hid rfl
 clear hl;rw [show BX (DV p) = CZ p from rfl] at HT
 generalize CZ p = E at *
 rw [hbl] at hpk
 generalize FA p = R at *
 have HS := hid (fun (W : World) => Kl E.length zC W)
 have hvl := AX E.length
 clear hbl;generalize (Ay E.length).length = k at *
 go_enter Tryz.func153, Tryz.ntmps153
 go_wp2_with fail;refine HT.out.mono ?_
 rintro r w1 ⟨v, rfl, hr, hb1⟩;obtain ⟨a1, c1, hv, hr2, _⟩ := AN hr
 simp only [Au, AO] at hv
 subst hv;have HR := hid hr2
 have hs1 := hb1.size
 clear hr hr2;go_wp2_with fail;refine (HS.out _).mono ?_
 rintro r w2 ⟨rfl, hb2⟩;have hbe := Af hb2 hb1
 have hs2 := hb2.size
 have HR2 := hid (Ah.mono (S' := fun q => w.heap.size ≤ q ∧ q < w2.heap.size) (Ah.keep HR.out fun q hq => hb2.block q hq.2) fun q hq => ⟨hq.1, zC⟩)
 have hpk' := hpk.out
 clear hpk;cases R
 ·have hle : ¬ k + E.length < p.length := of_decide_eq_false hpk'.symm
  have d1 : decide ((p.length : Int) ≤ (k : Int) + (E.length : Int)) = true := Ae zC
  have d1' : decide ((p.length : Int) ≤ ((k + E.length : Nat) : Int)) = true := Ae zC
  have d1'' : decide (p.length ≤ k + E.length) = true := Ae zC
  clear hpk' hle;go_wp2;go_ret2
  exact ⟨_, rfl, rfl, hbe⟩
 ·have hle : k + E.length < p.length := A9 hpk'.symm
  have d1 : decide ((p.length : Int) ≤ (k : Int) + (E.length : Int)) = false := Ad zC
  have d1' : decide ((p.length : Int) ≤ ((k + E.length : Nat) : Int)) = false := Ad zC
  have d1'' : decide (p.length ≤ k + E.length) = false := Ad zC
  clear hpk' hle;go_wp2;go_ret2
  exact ⟨_, rfl, HR2.out, hbe⟩
theorem OG (w : World) (p : List UInt8) (a : Option Addr) (n c : Nat) (hl : Ah.r (· < w.heap.size) w [.slice a n c] p) (hlen : p.length ≤ 1048576) :
  Calls Tryz.prog 107 #[.slice a n c] w fun r w' => ∃ v, r = .returned v ∧ Ah.r (fun q => w.heap.size ≤ q ∧ q < w'.heap.size) w' [v] (Bp p) ∧ Below w.heap.size w w' := by
 obtain ⟨rfl, hm, _, _⟩ := AS hl
 obtain ⟨i0, hi, hz0, hz1, hz2⟩ := A8 Dz
 have HL := hid hl
 have HV := hid (EH p.length zC w)
 have HPK := hid (fun (W : World) (hW : Below w.heap.size w W) => Nz W p a _ c (lift HL.out hW) hlen)
 have HPB := hid (fun (W : World) (hW : Below w.heap.size w W) => KC W p a _ c (lift HL.out hW) hlen)
 have hsm := Ha hlen
 have hbk : Hid (Bp p = Ay p.length ++ (if FA p then 1 :: Cg (CZ p) else 0 :: p)) := hid rfl
 have hvl := AX p.length
 have HONE := hid (AI p)
 clear hl;rw [show BX (DV p) = CZ p from rfl] at HPB
 generalize CZ p = E at *
 have HB := hid (fun (W : World) (av : Option Addr) (cv : Nat) (h : Ah.r (· < W.heap.size) W [.slice av E.length cv] E) => MN W E av _ cv h hsm)
 have hgl := Em E
 have hvE := AX E.length
 have hG : (Cg E).length ≤ 20000000000000 := zC
 clear hgl hvE;generalize Cg E = G at *
 generalize Ay p.length = V at *
 generalize FA p = R at *
 generalize Bp p = K at *
 cases R
 ·have hK : K = V ++ (0 :: p) := hbk.out
  have HK := hid hK
  clear hK hbk;go_enter Tryz.func107, Tryz.ntmps107
  go_wp2_with fail;refine HV.out.mono ?_
  rintro r w1 ⟨v, rfl, ho1, hb1⟩;obtain ⟨a1, c1, rfl⟩ := AA ho1
  have HO1 := hid ho1
  clear ho1;go_wp2_with fail;refine (HPK.out _ hb1).mono ?_
  rintro r w2 ⟨rfl, hb2⟩;have hs1 := hb1.size
  have hs2 := hb2.size
  have hbw2 := Af hb2 hb1
  have HO2 := hid (AD HO1.out hb2)
  go_wp2_with (first
   | (at_builtin; go_loud (refine Aq rfl _ _ _ rfl w.heap.size 5 i0 (.int .u8 0) 1 1 As hi hz0 hz1 hz2 rfl zP (.slice a1 V.length c1) V.length (byteCells V) rfl (AD HO2.out zB) (some ⟨w2.heap.size, 0, none⟩) 1 1 [.int .u8 0] rfl (Bx w2 5 _ rfl rfl rfl) zW zK zC zJ ?_; intro v' w3 hown3 hgrow3 hat3; obtain ⟨a3, c3, rfl⟩ := AA hown3; have HO3 := hid hown3; have hbw3 : Below w.heap.size w w3 := (Below.grown zB hgrow3 zJ (fun g e => (HO2.out.lt g e).1)); have hs3 : w2.heap.size ≤ w3.heap.size := (A4 zO hgrow3.size); have HS3 := hid (A5 (lift HL.out hbw3)); clear hgrow3 hown3 hat3))
   | (at_builtin; go_loud (refine Aq rfl _ _ _ rfl w.heap.size 5 i0 (.int .u8 0) 1 1 As hi hz0 hz1 hz2 rfl zP (.slice a3 (V.length + 1) c3) (V.length + 1) (byteCells V ++ [.int .u8 0]) rfl HO3.out a p.length c (byteCells p) rfl HS3.out HONE.out zK zC zC ?_; intro v' w5 hown5 hgrow5 hat5; have HG5 := hid hgrow5; have HO5 := hid hown5; clear hgrow5 hown5 hat5)))
  have ho := HO5.out
  rw [show [Value.int .u8 0] = byteCells [0] from rfl, CX, CX, Av, show [(0 : UInt8)] ++ p = 0 :: p from rfl, ← HK.out] at ho
  have hln : V.length + 1 + p.length = K.length := by rw [HK.out]; simp; omega
  have hV5 := B9 hln ho
  have hbF : Below w.heap.size w w5 := Below.grown hbw3 HG5.out zC (fun g e => (HO3.out.lt g e).1)
  have HV5 := hid hV5
  clear ho hln hV5;go_ret;exact ⟨_, rfl, HV5.out, hbF⟩
 ·have hK : K = V ++ (1 :: G) := hbk.out
  have HK := hid hK
  clear hK hbk;go_enter Tryz.func107, Tryz.ntmps107
  go_wp2_with fail;refine HV.out.mono ?_
  rintro r w1 ⟨v, rfl, ho1, hb1⟩;obtain ⟨a1, c1, rfl⟩ := AA ho1
  have HO1 := hid ho1
  clear ho1;go_wp2_with fail;refine (HPK.out _ hb1).mono ?_
  rintro r w2 ⟨rfl, hb2⟩;have hs1 := hb1.size
  have hs2 := hb2.size
  have hbw2 := Af hb2 hb1
  have HO2 := hid (AD HO1.out hb2)
  go_wp2_with (at_builtin; go_loud (refine Aq rfl _ _ _ rfl w.heap.size 5 i0 (.int .u8 0) 1 1 As hi hz0 hz1 hz2 rfl zP (.slice a1 V.length c1) V.length (byteCells V) rfl (AD HO2.out zB) (some ⟨w2.heap.size, 0, none⟩) 1 1 [.int .u8 1] rfl (Bx w2 5 _ rfl rfl rfl) zW zK zC zJ ?_; intro v' w3 hown3 hgrow3 hat3; obtain ⟨a3, c3, rfl⟩ := AA hown3; have HO3 := hid hown3; have hbw3 : Below w.heap.size w w3 := (Below.grown zB hgrow3 zJ (fun g e => (HO2.out.lt g e).1)); have hs3 : w2.heap.size ≤ w3.heap.size := (A4 zO hgrow3.size); have HS3 := hid (A5 (lift HL.out hbw3)); clear hgrow3 hown3 hat3))
  refine (HPB.out _ hbw3).mono ?_
  rintro r w4 ⟨v4, rfl, hr4, hb4⟩;obtain ⟨a4, c4, hv4, hr4', _⟩ := AN hr4
  simp only [Au, AO] at hv4
  subst hv4;have HR4 := hid (Ah.mono hr4' (S' := (· < w4.heap.size)) fun q hq => hq.2)
  clear hr4 hr4';go_wp2_with fail;refine (HB.out _ a4 c4 HR4.out).mono ?_
  rintro r w5 ⟨v5, rfl, ho5, hb5⟩;obtain ⟨a5, c5, rfl⟩ := AA ho5
  have hs4 := hb4.size
  have hs5 := hb5.size
  have hb35 := Af hb5 hb4
  have hbw5 := Af hb35 hbw3
  have HS5 := hid (A5 (BJ rfl ho5))
  have HO5 := hid (AD HO3.out hb35)
  have HONE5 := hid (AI G)
  clear ho5;go_wp2_with (at_builtin; go_loud (refine Aq rfl _ _ _ rfl w.heap.size 5 i0 (.int .u8 0) 1 1 As hi hz0 hz1 hz2 rfl zP (.slice a3 (V.length + 1) c3) (V.length + 1) (byteCells V ++ [.int .u8 1]) rfl HO5.out a5 G.length c5 (byteCells G) rfl HS5.out HONE5.out zK zC zC ?_; intro v' w6 hown6 hgrow6 hat6; have HG6 := hid hgrow6; have HO6 := hid hown6; clear hgrow6 hown6 hat6))
  have ho := HO6.out
  rw [show [Value.int .u8 1] = byteCells [1] from rfl, CX, CX, Av, show [(1 : UInt8)] ++ G = 1 :: G from rfl, ← HK.out] at ho
  have hln : V.length + 1 + G.length = K.length := by rw [HK.out]; simp; omega
  have hV6 := B9 hln ho
  have hbF : Below w.heap.size w w6 := Below.grown hbw5 HG6.out zC (fun g e => (HO5.out.lt g e).1)
  have HV6 := hid hV6
  clear ho hln hV6;go_ret;exact ⟨_, rfl, HV6.out, hbF⟩
theorem Ex {w : World} {g : Nat} {a a1 : Option Addr} (h : a1.map Addr.block = a.map Addr.block ∨ ∃ q, a1.map Addr.block = some q ∧ w.heap.size ≤ q) {q : Nat} (hq : q < w.heap.size) (hn : ¬ Dr g a q) : ¬ Dr g a1 q := by
 rw [FW] at hn ⊢
 intro e;rcases e with e | e
 ·exact hn (.inl e)
 ·rcases h with h | ⟨q', h, h2⟩
  ·exact hn (.inr (h ▸ e))
  ·rw [h] at e; have := BH e; omega
theorem K9 (w : World) (y : UInt8) : Ah.r (· < (w.alloc (.cells #[.int .u8 (y.toNat : Int)] 5)).heap.size) (w.alloc (.cells #[.int .u8 (y.toNat : Int)] 5)) [.slice (some ⟨w.heap.size, 0, none⟩) 1 1] [y] :=
 BJ (l := [y]) rfl (FC (base := 0) (Aj _) (D9 w _))
theorem Nh (w : World) {g base most : Nat} {J : List UInt8} {a : Option Addr} {c : Nat} (h : BR w g base most J a c) (p : List UInt8) (ad : Option Addr) (nd cd : Nat)
  (hD : Ah.r (fun q => q < w.heap.size ∧ ¬ Dr g a q) w [.slice ad nd cd] p) (hp : p.length ≤ 1048576) (hfit : J.length + (Bp p).length ≤ most) (hlen : J.length + (Bp p).length ≤ 100000000000000) :
  Calls Tryz.prog 74 #[.pointer (some ⟨g, 0, none⟩), .slice ad nd cd] w fun r w' => r = .returned (.tuple #[]) ∧ At w g base most (J ++ Bp p) a w' := by
 obtain ⟨rfl, hm, _, _⟩ := AS hD
 have d1 : decide ((1048576 : Int) < (p.length : Int)) = false := Ad zC
 have hbk : Hid (Bp p = Ay p.length ++ (if FA p then 1 :: Cg (CZ p) else 0 :: p)) := hid rfl
 have hvl : (Ay p.length).length ≤ (Bp p).length := by rw [hbk.out]; simp
 have HV := hid (B6 w h p.length zC zC zC)
 have HPK := hid (fun (W : World) (hl : Ah.r (· < W.heap.size) W [.slice ad p.length cd] p) => N3 W p ad _ cd hl hp)
 have HD := hid hD
 have HFIT := hid hfit; have HLEN := hid hlen
 clear h hD hfit hlen hvl;generalize FA p = R at *
 generalize CZ p = E at *
 generalize Ay p.length = V at *
 generalize Bp p = K at *
 cases R
 ·have HK : Hid (K = V ++ (0 :: p)) := hid hbk.out
  clear hbk;go_enter Tryz.func74, Tryz.ntmps74
  go_wp2_with fail;refine HV.out.mono ?_
  rintro r w1 ⟨rfl, a1, c1, hp1, ht1, ha1⟩;have hs1 := ht1.size
  have hD1 : Ah.r (fun q => q < w1.heap.size ∧ ¬ Dr g a1 q) w1 [.slice ad p.length cd] p := Ah.mono (Ah.keep HD.out fun q hq => ht1.block q hq.1 hq.2) fun q hq => ⟨zC, Ex ha1 hq.1 hq.2⟩
  have HD1 := hid hD1
  clear hD1;go_wp2_with fail;refine (HPK.out _ (Ah.mono HD1.out fun q hq => hq.1)).mono ?_
  rintro r w2 ⟨v2, rfl, _, hv2, hb2⟩;obtain rfl := hv2 trivial
  have hs2 := hb2.size
  have hp2 := hp1.later hb2
  go_wp2_with fail;have hbW : Below w2.heap.size w2 (w2.alloc (.cells #[.int .u8 0] 5)) := zB
  have hlit : Ah.r (· < (w2.alloc (.cells #[.int .u8 0] 5)).heap.size) (w2.alloc (.cells #[.int .u8 0] 5)) [.slice (some ⟨w2.heap.size, 0, none⟩) 1 1] [0] := K9 w2 0
  generalize w2.alloc (.cells #[.int .u8 0] 5) = W at *
  have hsW := hbW.size
  refine (Fl W (hp2.later hbW) [0] (some ⟨w2.heap.size, 0, none⟩) 1 1 hlit ZO ZN).mono ?_
  rintro r w3 ⟨rfl, a3, c3, hp3, ht3, ha3⟩;have hs3 := ht3.size
  have hD3 : Ah.r (· < w3.heap.size) w3 [.slice ad p.length cd] p := Ah.mono (Ah.keep HD1.out fun q hq => (ht3.block q zC hq.2).trans ((hbW.block q zC).trans (hb2.block q hq.1))) fun q hq => by omega
  have HQ := hid (Fl w3 hp3 p ad _ cd hD3 ZO ZN)
  clear hD3 hlit;go_wp2_with fail;refine HQ.out.mono ?_
  rintro r w4 ⟨rfl, hst⟩;have hst2 := At.trans (J := J) ht1 ha1 (At.later hb2 (At.later hbW (At.trans (J := J) ht3 ha3 hst)))
  have HST : Hid (At w g base most (J ++ K) a w4) := hid (by rw [HK.out]; simpa using hst2)
  clear hst hst2;go_wp2;first | go_end0 | refine Al (Aw rfl _ _ _) rfl ?_
  exact ⟨rfl, HST.out⟩
 ·have HK : Hid (K = V ++ (1 :: Cg E)) := hid hbk.out
  clear hbk;go_enter Tryz.func74, Tryz.ntmps74
  go_wp2_with fail;refine HV.out.mono ?_
  rintro r w1 ⟨rfl, a1, c1, hp1, ht1, ha1⟩;have hs1 := ht1.size
  have hD1 : Ah.r (fun q => q < w1.heap.size ∧ ¬ Dr g a1 q) w1 [.slice ad p.length cd] p := Ah.mono (Ah.keep HD.out fun q hq => ht1.block q hq.1 hq.2) fun q hq => ⟨zC, Ex ha1 hq.1 hq.2⟩
  have HD1 := hid hD1
  clear hD1;go_wp2_with fail;refine (HPK.out _ (Ah.mono HD1.out fun q hq => hq.1)).mono ?_
  rintro r w2 ⟨v2, rfl, hv2, _, hb2⟩;obtain ⟨a2, c2, hve, hr2, _⟩ := AN (hv2 trivial)
  simp only [Au, AO] at hve
  subst hve;have HE := hid hr2
  clear hv2 hr2;have hs2 := hb2.size
  have hp2 := hp1.later hb2
  go_wp2_with fail;have hbW : Below w2.heap.size w2 (w2.alloc (.cells #[.int .u8 1] 5)) := zB
  have hlit : Ah.r (· < (w2.alloc (.cells #[.int .u8 1] 5)).heap.size) (w2.alloc (.cells #[.int .u8 1] 5)) [.slice (some ⟨w2.heap.size, 0, none⟩) 1 1] [1] := K9 w2 1
  generalize w2.alloc (.cells #[.int .u8 1] 5) = W at *
  have hsW := hbW.size
  refine (Fl W (hp2.later hbW) [1] (some ⟨w2.heap.size, 0, none⟩) 1 1 hlit ZO ZN).mono ?_
  rintro r w3 ⟨rfl, a3, c3, hp3, ht3, ha3⟩;have hs3 := ht3.size
  have hno : ∀ q, w1.heap.size ≤ q → ¬ Dr g a1 q := fun q hq hf => by have := (hp1.Eo hf).2; omega
  have hE3 : Ah.r (fun q => q < w3.heap.size ∧ ¬ Dr g a3 q) w3 [.slice a2 E.length c2] E := Ah.mono (Ah.keep HE.out fun q hq => (ht3.block q zC (hno q hq.1)).trans (hbW.block q zC)) fun q hq => ⟨zC, Ex ha3 zC (hno q hq.1)⟩
  have HQ := hid (Px w3 hp3 E a2 _ c2 hE3 ZO ZN)
  clear hE3 hlit hno;go_wp2_with fail;refine HQ.out.mono ?_
  rintro r w4 ⟨rfl, hst⟩;have hst2 := At.trans (J := J) ht1 ha1 (At.later hb2 (At.later hbW (At.trans (J := J) ht3 ha3 hst)))
  have HST : Hid (At w g base most (J ++ K) a w4) := hid (by rw [HK.out]; simpa using hst2)
  clear hst hst2;go_wp2;first | go_end0 | refine Al (Aw rfl _ _ _) rfl ?_
  exact ⟨rfl, HST.out⟩
theorem I6 (p : List UInt8) : (Bp p).length ≤ (Ay p.length).length + p.length + 1 := by
 unfold Bp;by_cases h : FA p = true
 ·have h2 := h
  unfold FA at h2;have h3 := A9 h2
  rw [Am h]
  simp; omega
 ·rw [An h]
  simp; omega
theorem KU (w : World) (p : List UInt8) (a : Option Addr) (n c : Nat) (hl : Ah.r (· < w.heap.size) w [.slice a n c] p) (hp : p.length ≤ 1048576) :
  Calls Tryz.prog 200 #[.slice a n c] w fun r w' => ∃ v, r = .returned (.tuple #[v, .int .i64 0]) ∧ Ah.r (fun q => w.heap.size ≤ q ∧ q < w'.heap.size) w' [v] (Bp p) ∧ Below w.heap.size w w' := by
 obtain ⟨rfl, hm, _, _⟩ := AS hl
 have HS := hid (Kl p.length zC w)
 have hbl := I6 p
 have hvl := AX p.length
 have HL := hid hl
 clear hl;generalize (Ay p.length).length = k at *
 have hbK := hid hbl
 clear hbl;go_enter Tryz.func200, Tryz.ntmps200
 go_wp2_with fail;refine HS.out.mono ?_
 rintro r w1 ⟨rfl, hb1⟩;have HN := hid (Jk w1 (k + p.length + 1) zC)
 rw [show ((k + p.length + 1 : Nat) : Int) = (k : Int) + (p.length : Int) + 1 by omega] at HN
 have hs1 := hb1.size
 go_wp2_with fail;refine HN.out.mono ?_
 rintro r w2 ⟨rfl, hp2, hb2⟩;have hs2 := hb2.size
 have hbw2 := Af hb2 hb1
 have HQ := hid (Nh w2 hp2 p a _ c (Ah.mono (Ah.keep HL.out fun q hq => hbw2.block q hq) fun q hq => ⟨zC, fun hf => by have := (hp2.Eo hf).1; omega⟩) hp (by have := hbK.out; simp; omega) (by have := hbK.out; simp; omega))
 have HP2 := hid hp2
 clear hp2;go_wp2_with fail;refine HQ.out.mono ?_
 rintro r w3 ⟨rfl, hst⟩;have hb3 : Below w1.heap.size w2 w3 := HP2.out.below (Ak _) zC hst
 obtain ⟨a3, c3, hp3, _, _⟩ := hst
 rw [Bj] at hp3
 have hs3 := hb3.size
 have hbw3 : Below w.heap.size w w3 := hbw2.trans (hb3.mono zC)
 have HB := hid (Iw w3 hp3)
 clear hp3;go_wp2_with fail;refine HB.out.mono ?_
 rintro r w4 ⟨v, rfl, hv, hb4⟩;have hbe := Af hb4 hbw3
 have HV := hid (Ah.mono (S' := fun q => w.heap.size ≤ q ∧ q < w4.heap.size) hv fun q hq => ⟨zY, hq.2⟩)
 clear hv;go_wp2;go_ret2
 exact ⟨_, rfl, HV.out, hbe⟩
def Rs.inn (s : Rs) (L : Nat) : Prop := 0 ≤ s.f ∧ s.f ≤ L
theorem Rs.JB {s : Rs} {L : Nat} (h : s.inn L) {c at_ : Int} (h1 : 0 ≤ at_) (h2 : at_ ≤ L) : (s.fail c at_).inn L := by
 unfold Rs.fail; split
 ·exact ⟨h1, h2⟩
 ·exact h
theorem Rs.UA {s : Rs} {L : Nat} (h : s.ok L) (hi : s.inn L) (n : Int) : (s.skip L n).2.inn L := by
 have := h.le
 unfold Rs.skip Rs.inn at *;split
 ·split
  ·dsimp only; omega
  ·split
   ·dsimp only; omega
   ·dsimp only; omega
 ·exact hi
theorem Rs.TS {B : List UInt8} {s : Rs} (h : s.ok B.length) (hi : s.inn B.length) : (s.num B).1.inn B.length := by
 have hu := GR (B.drop s.p) 0 0
 have hl : (B.drop s.p).length = B.length - s.p := zO
 have := h.le
 unfold Rs.num Rs.inn at *;split
 ·dsimp only
  split
  ·omega
  ·split
   ·omega
   ·rename_i h1 h2
    have := hu.2.2.2.2 h2
    omega
 ·exact hi
theorem Rs.UZ {B : List UInt8} {s : Rs} (h : s.ok B.length) (hi : s.inn B.length) : (s.head B).1.inn B.length := by
 have hle := h.le
 have hn := Rs.TS h hi
 unfold Rs.head; split
 ·split
  ·split
   ·exact Rs.JB hn zC zC
   ·exact hn
  ·split
   ·exact Rs.JB hn zC zC
   ·exact hn
 ·exact hn
theorem Rs.J0 {B : List UInt8} {s : Rs} (h : s.ok B.length) (hi : s.inn B.length) : (s.offset B).1.inn B.length := by
 have hle := h.le
 have hn := Rs.TS h hi
 unfold Rs.offset; dsimp only; split
 ·exact Rs.JB hn zC zC
 ·exact hn
theorem SF {B : List UInt8} {bound : Int} {s : Rs} {out : List UInt8} (h : s.ok B.length) (hi : s.inn B.length) : (CJ B bound s out).1.inn B.length := by
 have hle := h.le
 have hh := Rs.UZ h hi
 have ho := Rs.Hi h
 have hle2 := ho.le
 unfold CJ; split
 ·exact Rs.JB hh zC zC
 ·split
  ·exact Rs.UA ho hh _
  ·split
   ·exact Rs.JB (Rs.J0 ho hh) zC zC
   ·split
    ·exact Rs.J0 ho hh
    ·exact Rs.J0 ho hh
theorem Uc {B : List UInt8} {bound : Int} : ∀ (f : Nat) (s : Rs) (out : List UInt8), s.ok B.length → s.inn B.length → (exF B bound f s out).1.inn B.length
 | 0, s, out, _, h => h
 | f + 1, s, out, h1, h2 => by
  simp only [exF]; split
  ·exact Uc f _ _ (Kh h1) (SF h1 h2)
  ·exact h2
theorem Pb {B : List UInt8} {bound : Int} : ∀ (f : Nat) (s : Rs) (out : List UInt8), QV bound out → QV bound (exF B bound f s out).2
 | 0, s, out, h => h
 | f + 1, s, out, h => by
  simp only [exF]; split
  ·exact Pb f _ _ (M7 h)
  ·exact h
theorem M8 (B : List UInt8) (bound : Int) : (exB B bound).1.length ≤ bound.toNat ∧ 0 ≤ (exB B bound).2.2 ∧ (exB B bound).2.2 ≤ B.length ∧ ((exB B bound).2.1 ≠ 0 → (exB B bound).1 = []) := by
 have h1 := Uc (B := B) (bound := bound) B.length ⟨0, 0, 0⟩ [] ⟨Aj _, fun _ => rfl⟩ ⟨zO, zO⟩
 have h2 := Pb (B := B) (bound := bound) B.length ⟨0, 0, 0⟩ [] (.inl rfl)
 unfold exB;split
 ·refine ⟨?_, zO, zO, zO⟩
  rcases h2 with h | h
  ·rw [h]; simp
  ·dsimp only; omega
 ·exact ⟨zO, h1.1, h1.2, zO⟩
theorem Rs.Vi {B : List UInt8} {s : Rs} {m : Int} : s.p ≤ (s.int B m).1.p := by
 unfold Rs.int Rs.most;split
 ·split
  ·rw [Rs.NP]; exact Rs.TR
  ·exact Rs.TR
 ·rw [Rs.NP]; exact Rs.TR
theorem Rs.NW {B : List UInt8} {s : Rs} (h : s.ok B.length) : s.p ≤ (s.byte B).1.p := Rs.Ti h 1
theorem Rs.Tb {B : List UInt8} {s : Rs} (h : s.ok B.length) (n : Int) : s.p ≤ (s.take B n).1.p := Rs.Ti h n
theorem Rs.VN {B : List UInt8} {s : Rs} (h : s.ok B.length) (m : Int) : s.p ≤ (s.Er B m).1.p := A4 (Rs.Vi (m := m)) (Rs.Tb (Rs.NM h) _)
theorem Rs.RL {B : List UInt8} {s : Rs} (h : s.ok B.length) (m : Int) : (s.Er B m).1.ok B.length := Rs.Nt (Rs.NM h) _
def Rs.unp (B : List UInt8) (s : Rs) (n : Nat) : Rs × List UInt8 :=
 if (s.Er B 1048576).1.k = 0 then
  (if (exB (s.Er B 1048576).2 n).2.1 = 0 then
   (if (exB (s.Er B 1048576).2 n).1.length < n then ((s.Er B 1048576).1.fail 3 (s.Er B 1048576).1.p, (exB (s.Er B 1048576).2 n).1) else ((s.Er B 1048576).1, (exB (s.Er B 1048576).2 n).1))
  else ((s.Er B 1048576).1.fail (exB (s.Er B 1048576).2 n).2.1 ((exB (s.Er B 1048576).2 n).2.2 + (((s.Er B 1048576).1.p : Int) - ((s.Er B 1048576).2.length : Int))), []))
 else ((s.Er B 1048576).1, [])
theorem Rs.VQ {B : List UInt8} {s : Rs} (h : s.ok B.length) (n : Nat) : s.p ≤ (s.unp B n).1.p := by
 have := Rs.VN h 1048576
 unfold Rs.unp;split
 ·split
  ·split
   ·rw [Rs.NP]; exact this
   ·exact this
  ·rw [Rs.NP]; exact this
 ·exact this
theorem Rs.Ru {B : List UInt8} {s : Rs} (n : Nat) : (s.unp B n).2.length ≤ n := by
 have := (M8 (s.Er B 1048576).2 n).1
 unfold Rs.unp;split
 ·split
  ·split
   ·dsimp only; omega
   ·dsimp only; omega
  ·simp
 ·simp
def Rs.loose (B : List UInt8) (s : Rs) (most : Int) : Rs × List UInt8 × Bool :=
 if ((s.int B (min most 1048576)).1.byte B).1.k = 0 then
  (if ((s.int B (min most 1048576)).1.byte B).2.toNat = 0 then
   (if (((s.int B (min most 1048576)).1.byte B).1.take B ((s.int B (min most 1048576)).2 : Int)).1.k = 0 then ((((s.int B (min most 1048576)).1.byte B).1.take B ((s.int B (min most 1048576)).2 : Int)).1, (((s.int B (min most 1048576)).1.byte B).1.take B ((s.int B (min most 1048576)).2 : Int)).2, decide (Bp (((s.int B (min most 1048576)).1.byte B).1.take B ((s.int B (min most 1048576)).2 : Int)).2 = (B.drop s.p).take ((((s.int B (min most 1048576)).1.byte B).1.take B ((s.int B (min most 1048576)).2 : Int)).1.p - s.p)))
   else ((((s.int B (min most 1048576)).1.byte B).1.take B ((s.int B (min most 1048576)).2 : Int)).1, [], false))
  else if ((s.int B (min most 1048576)).1.byte B).2.toNat = 1 then
   (if (((s.int B (min most 1048576)).1.byte B).1.unp B (s.int B (min most 1048576)).2).1.k = 0 then ((((s.int B (min most 1048576)).1.byte B).1.unp B (s.int B (min most 1048576)).2).1, (((s.int B (min most 1048576)).1.byte B).1.unp B (s.int B (min most 1048576)).2).2, decide (Bp (((s.int B (min most 1048576)).1.byte B).1.unp B (s.int B (min most 1048576)).2).2 = (B.drop s.p).take ((((s.int B (min most 1048576)).1.byte B).1.unp B (s.int B (min most 1048576)).2).1.p - s.p)))
   else ((((s.int B (min most 1048576)).1.byte B).1.unp B (s.int B (min most 1048576)).2).1, [], false))
  else (((s.int B (min most 1048576)).1.byte B).1.fail 7 ((((s.int B (min most 1048576)).1.byte B).1.p : Int) - 1), [], false))
 else (((s.int B (min most 1048576)).1.byte B).1, [], false)
theorem KT (x y : List UInt8) (a a' : Option Addr) (n c n' c' : Nat) (w : World) (hx : Ah.r (· < w.heap.size) w [.slice a n c] x) (hy : Ah.r (· < w.heap.size) w [.slice a' n' c'] y) :
  Calls Tryz.prog 97 #[.slice a n c, .slice a' n' c'] w fun r w' => r = .returned (.bool (decide (x = y))) ∧ w = w' := by
 obtain ⟨rfl, _, _, _⟩ := AS hx
 obtain ⟨rfl, _, _, _⟩ := AS hy
 have h1 := IC (P := Tryz.prog) 25 9 5 As Tryz.underlying5 Tryz.underlying9 hx
 have h2 := IC (P := Tryz.prog) 25 9 5 As Tryz.underlying5 Tryz.underlying9 hy
 have he : (x == y) = decide (x = y) := by
  by_cases h : x = y
  ·simp [h]
  ·simp [h]
 have HE := hid he; clear he hx hy
 go_enter Tryz.func97, Tryz.ntmps97
 go_wp2;go_ret;refine ⟨?_, rfl⟩
 rw [← HE.out]
 simp [go_sem]
theorem O8 (w : World) (k f b : Int) (hk : k ≠ 0) (hf : -1000000000000 ≤ f ∧ f ≤ 1000000000000) (hb : -1000000000000 ≤ b ∧ b ≤ 1000000000000) : Calls Tryz.prog 143 #[.agg #[.int .i64 k, .int .i64 f], .int .i64 b] w fun r w' => r = .returned (.agg #[.int .i64 k, .int .i64 (f + b)]) ∧ Below w.heap.size w w' := by
 go_enter Tryz.func143, Tryz.ntmps143
 go_wp2_with fail;refine (JA _ k (f + b) hk).mono ?_
 rintro r w1 ⟨rfl, hb1⟩;have B1 : Blk w1 (w.heap.size + 1) 58 #[.int .i64 0, .int .i64 0] := Blk.later zD hb1
 obtain ⟨y0, y1, g0, g1, l1⟩ := Cn B1
 have hbw : Below w.heap.size w w1 := zA
 clear B1 hb1;go_wp2;refine Al (v := .agg #[.int .i64 k, .int .i64 (f + b)]) (by simp [results, Tryz.results143, go_sem, y0, y1, l1]) rfl ⟨rfl, zA⟩
theorem Md (w : World) {g : Nat} {B : List UInt8} {a : Option Addr} {s : Rs} (h : AZ w g B a s) (hB : B.length ≤ 1000000000) (n : Nat) (hn : n ≤ 1048576) : Calls Tryz.prog 199 #[.pointer (some ⟨g, 0, none⟩), .int .i64 (n : Int)] w fun r w' => ∃ v, r = .returned v ∧ Ah.r (fun q => w.heap.size ≤ q ∧ q < w'.heap.size) w' [v] (s.unp B n).2 ∧ AE w g B a (s.unp B n).1 w' := by
 have HB := hid (Ni w h zC 1048576 zC)
 have hbok := Rs.RL h.ok 1048576
 have hlen : (s.Er B 1048576).2.length ≤ B.length := by
  unfold Rs.Er Rs.take;dsimp only;split
  ·simp; omega
  ·simp
 have hxf := M8 (s.Er B 1048576).2 n
 have hX := hid (fun (W : World) (aD : Option Addr) (nD cD : Nat) (hl : Ah.r (· < W.heap.size) W [.slice aD nD cD] (s.Er B 1048576).2) => NQ W (s.Er B 1048576).2 aD nD cD hl zC n zC)
 have hpl := hbok.le
 unfold Rs.unp;generalize s.Er B 1048576 = T at *
 generalize exB T.2 n = X at *
 obtain ⟨s1, D⟩ := T
 obtain ⟨out, k, f⟩ := X
 dsimp only at *;have hgl := h.blk.lt
 have HDAT := hid h.dat
 clear h;by_cases h1 : s1.k = 0
 ·have dk : decide (s1.k = 0) = true := Ae h1
  rw [Am h1]
  have H1 := hid h1
  clear h1;by_cases h2 : k = 0
  ·have d2 : decide (k = 0) = true := Ae h2
   rw [Am h2]
   clear h2;by_cases h3 : out.length < n
   ·have d3 : decide ((out.length : Int) < (n : Int)) = true := Ae zC
    have d3' : decide (out.length < n) = true := Ae h3
    rw [Am h3]
    clear h3;dsimp only;go_enter Tryz.func199, Tryz.ntmps199
    go_wp2_with fail;refine HB.out.mono ?_
    rintro r w1 ⟨v, rfl, hr, hst⟩;obtain ⟨aD, cD, hv, hr2, _⟩ := AN hr
    simp only [Au, AO] at hv
    subst hv;have HD1 := hid hr2
    have HST := hid hst
    have hs1 := hst.size
    have hG := AH w1 hst.1
    rw [dk] at hG
    have HG := hid hG
    clear hr hr2 hst hG dk;go_wp2_with fail;refine HG.out.mono ?_
    rintro r w2 ⟨rfl, hb2⟩;have hs2 := hb2.size
    have HAT := hid (Cc w2 (HST.out.1.later hb2))
    go_wp2_with fail;refine HAT.out.mono ?_
    rintro r w2' ⟨rfl, rfl⟩;go_wp2_with fail;refine (hX.out w2 aD _ cD (Ah.mono (Ah.keep HD1.out fun q hq => hb2.block q hq.2) fun q hq => zC)).mono ?_
    rintro r w3 ⟨v3, rfl, hr, hb3⟩;obtain ⟨a3, c3, hv, hr2, _⟩ := AN hr
    simp only [Au, AO] at hv
    subst hv;have HR3 := hid hr2
    have hs3 := hb3.size
    clear hr hr2;have hG := C7 (w3.alloc (.cells #[.int .i64 k, .int .i64 f] 58)) k f
    rw [d2] at hG
    have HG3 := hid hG
    clear hG d2;go_wp2_with fail;refine HG3.out.mono ?_
    rintro r w4 ⟨rfl, hb4⟩;have hb34 : Below w3.heap.size w3 w4 := zA
    have hb14 : Below w1.heap.size w1 w4 := Af hb34 (Af hb3 hb2)
    have HST4 := hid (HST.out.then hb14)
    have hs4 := hb34.size
    have HKP := hid (Ah.mono (S' := fun q => w2.heap.size ≤ q ∧ q < w4.heap.size) (Ah.keep HR3.out fun q hq => hb34.block q hq.2) fun q hq => ⟨hq.1, zC⟩)
    have HAT2 := hid (Cc _ HST4.out.1)
    go_wp2_with fail;refine HAT2.out.mono ?_
    rintro r w4' ⟨rfl, rfl⟩;have HF := hid (BB _ HST4.out.1 3 s1.p zC)
    go_wp2_with fail;refine HF.out.mono ?_
    rintro r w5 ⟨rfl, hst5⟩;have hs5 := hst5.size
    have HR5 := hid (Ah.mono (S' := fun q => w.heap.size ≤ q ∧ q < w5.heap.size) (Ah.keep HKP.out fun q hq => hst5.2.block q hq.2 zC) fun q hq => ⟨zC, zC⟩)
    have HST5 := hid (AE.trans HST4.out.2 hst5)
    clear hst5;go_wp2;go_ret;exact ⟨_, rfl, HR5.out, HST5.out⟩
   ·have d3 : decide ((out.length : Int) < (n : Int)) = false := Ad zC
    have d3' : decide (out.length < n) = false := Ad h3
    rw [An h3]
    clear h3;dsimp only;go_enter Tryz.func199, Tryz.ntmps199
    go_wp2_with fail;refine HB.out.mono ?_
    rintro r w1 ⟨v, rfl, hr, hst⟩;obtain ⟨aD, cD, hv, hr2, _⟩ := AN hr
    simp only [Au, AO] at hv
    subst hv;have HD1 := hid hr2
    have HST := hid hst
    have hs1 := hst.size
    have hG := AH w1 hst.1
    rw [dk] at hG
    have HG := hid hG
    clear hr hr2 hst hG dk;go_wp2_with fail;refine HG.out.mono ?_
    rintro r w2 ⟨rfl, hb2⟩;have hs2 := hb2.size
    have HAT := hid (Cc w2 (HST.out.1.later hb2))
    go_wp2_with fail;refine HAT.out.mono ?_
    rintro r w2' ⟨rfl, rfl⟩;go_wp2_with fail;refine (hX.out w2 aD _ cD (Ah.mono (Ah.keep HD1.out fun q hq => hb2.block q hq.2) fun q hq => zC)).mono ?_
    rintro r w3 ⟨v3, rfl, hr, hb3⟩;obtain ⟨a3, c3, hv, hr2, _⟩ := AN hr
    simp only [Au, AO] at hv
    subst hv;have HR3 := hid hr2
    have hs3 := hb3.size
    clear hr hr2;have hG := C7 (w3.alloc (.cells #[.int .i64 k, .int .i64 f] 58)) k f
    rw [d2] at hG
    have HG3 := hid hG
    clear hG d2;go_wp2_with fail;refine HG3.out.mono ?_
    rintro r w4 ⟨rfl, hb4⟩;have hb34 : Below w3.heap.size w3 w4 := zA
    have hb14 : Below w1.heap.size w1 w4 := Af hb34 (Af hb3 hb2)
    have HST4 := hid (HST.out.then hb14)
    have hs4 := hb34.size
    have HKP := hid (Ah.mono (S' := fun q => w2.heap.size ≤ q ∧ q < w4.heap.size) (Ah.keep HR3.out fun q hq => hb34.block q hq.2) fun q hq => ⟨hq.1, zC⟩)
    have HR5 := hid (Ah.mono (S' := fun q => w.heap.size ≤ q ∧ q < w4.heap.size) HKP.out fun q hq => ⟨zC, zC⟩)
    go_wp2;go_ret;exact ⟨_, rfl, HR5.out, HST4.out⟩
  ·have d2 : decide (k = 0) = false := Ad h2
   rw [An h2]
   have ho := hxf.2.2.2 h2
   subst ho;have HK2 := hid h2
   clear h2;dsimp only;go_enter Tryz.func199, Tryz.ntmps199
   go_wp2_with fail;refine HB.out.mono ?_
   rintro r w1 ⟨v, rfl, hr, hst⟩;obtain ⟨aD, cD, hv, hr2, _⟩ := AN hr
   simp only [Au, AO] at hv
   subst hv;have HD1 := hid hr2
   have HST := hid hst
   have hs1 := hst.size
   have hG := AH w1 hst.1
   rw [dk] at hG
   have HG := hid hG
   clear hr hr2 hst hG dk;go_wp2_with fail;refine HG.out.mono ?_
   rintro r w2 ⟨rfl, hb2⟩;have hs2 := hb2.size
   have HAT := hid (Cc w2 (HST.out.1.later hb2))
   go_wp2_with fail;refine HAT.out.mono ?_
   rintro r w2' ⟨rfl, rfl⟩;go_wp2_with fail;refine (hX.out w2 aD _ cD (Ah.mono (Ah.keep HD1.out fun q hq => hb2.block q hq.2) fun q hq => zC)).mono ?_
   rintro r w3 ⟨v3, rfl, hr, hb3⟩;obtain ⟨a3, c3, hv, hr2, _⟩ := AN hr
   simp only [Au, AO] at hv
   subst hv;have HR3 := hid hr2
   have hs3 := hb3.size
   clear hr hr2;have hG := C7 (w3.alloc (.cells #[.int .i64 k, .int .i64 f] 58)) k f
   rw [d2] at hG
   have HG3 := hid hG
   clear hG d2;go_wp2_with fail;refine HG3.out.mono ?_
   rintro r w4 ⟨rfl, hb4⟩;have hb34 : Below w3.heap.size w3 w4 := zA
   have hb14 : Below w1.heap.size w1 w4 := Af hb34 (Af hb3 hb2)
   have HST4 := hid (HST.out.then hb14)
   have hs4 := hb34.size
   have HKP := hid (Ah.mono (S' := fun q => w2.heap.size ≤ q ∧ q < w4.heap.size) (Ah.keep HR3.out fun q hq => hb34.block q hq.2) fun q hq => ⟨hq.1, zC⟩)
   have B4 : Blk w4 w3.heap.size 58 #[.int .i64 k, .int .i64 f] := Blk.later (Blk.newAt _ _ _ rfl) hb4
   obtain ⟨y0, y1, g0, g1, l1⟩ := Cn B4
   have HSH := hid (O8 w4 k f ((s1.p : Int) - (D.length : Int)) HK2.out zC zC)
   go_wp2_with fail;refine HSH.out.mono ?_
   rintro r w5 ⟨rfl, hb5⟩;have B5 := B4.later hb5
   clear y0 y1 g0 g1 l1 B4;obtain ⟨y0, y1, g0, g1, l1⟩ := Cn B5
   clear B5;have hk5 : AE w g B a s1 ((w5.setCell ⟨w3.heap.size, 0, none⟩ (.int .i64 k)).setCell ⟨w3.heap.size, 1, none⟩ (.int .i64 (f + ((s1.p : Int) - (D.length : Int))))) := by
    have h5 := HST4.out.then hb5
    refine ⟨⟨Blk.far (Blk.far h5.1.blk zN _) zN _, ?_, h5.1.ok⟩, Tch.setCell (Tch.setCell h5.2 (fun e => by dsimp only at e; omega) _) (fun e => by dsimp only at e; omega) _⟩
    refine Ah.mono (Ah.keep (S := fun q => q < w.heap.size ∧ q ≠ g) (Ah.keep HDAT.out fun q hq => h5.2.block q hq.1 hq.2) fun q hq => ?_) fun q hq => ⟨by have := h5.size; simp [World.setCell]; omega, hq.2⟩
    have := hq.1
    rw [AM _ _ _ _ zN, AM _ _ _ _ zN]
   have HK5 := hid hk5
   clear hk5;have hsz5 : w.heap.size ≤ ((w5.setCell ⟨w3.heap.size, 0, none⟩ (.int .i64 k)).setCell ⟨w3.heap.size, 1, none⟩ (.int .i64 (f + ((s1.p : Int) - (D.length : Int))))).heap.size := HK5.out.size
   have HF := hid (BB _ HK5.out.1 k (f + ((s1.p : Int) - (D.length : Int))) HK2.out)
   go_wp2_with fail;refine HF.out.mono ?_
   rintro r w6 ⟨rfl, hst6⟩;have HST6 := hid (AE.trans HK5.out.2 hst6)
   clear hst6 hsz5;go_wp2;go_ret;exact ⟨_, rfl, Co rfl rfl (AS HR3.out).2.2.2, HST6.out⟩
 ·have dk : decide (s1.k = 0) = false := Ad h1
  rw [An h1]
  clear h1;dsimp only;go_enter Tryz.func199, Tryz.ntmps199
  go_wp2_with fail;refine HB.out.mono ?_
  rintro r w1 ⟨v, rfl, hr, hst⟩;obtain ⟨aD, cD, hv, hr2, _⟩ := AN hr
  simp only [Au, AO] at hv
  subst hv;have HD1 := hid hr2
  have HST := hid hst
  have hs1 := hst.size
  have hG := AH w1 hst.1
  rw [dk] at hG
  have HG := hid hG
  clear hr hr2 hst hG dk;go_wp2_with fail;refine HG.out.mono ?_
  rintro r w2 ⟨rfl, hb2⟩;have hs2 := hb2.size
  have HST2 := hid (HST.out.then hb2)
  go_wp2;go_ret;exact ⟨_, rfl, Co rfl rfl zC, HST2.out⟩
theorem Pw (w : World) {g : Nat} {B : List UInt8} {a : Option Addr} {s : Rs} (h : AZ w g B a s) (hB : B.length ≤ 1000000000) (most : Int) (hm : -9223372036854775808 ≤ most ∧ most ≤ 9223372036854775807) :
  Calls Tryz.prog 119 #[.pointer (some ⟨g, 0, none⟩), .int .i64 most] w fun r w' => ∃ v, r = .returned (.tuple #[v, .bool (s.loose B most).2.2]) ∧ Ah.r (fun q => w.heap.size ≤ q ∧ q < w'.heap.size) w' [v] (s.loose B most).2.1 ∧ AE w g B a (s.loose B most).1 w' := by
 have hgl := h.blk.lt
 have HA := hid (Cc w h)
 have HI := hid (Ef w h zC (min most 1048576) zC)
 have hiok := Rs.NM h.ok (m := min most 1048576)
 have hip := Rs.Vi (B := B) (s := s) (m := min most 1048576)
 have hile : (s.int B (min most 1048576)).2 ≤ 1048576 := by have := Rs.GP (B := B) (s := s) (m := min most 1048576); omega
 have hbok := Rs.RK hiok
 have hbp := Rs.NW hiok
 have hBY := hid (fun (W : World) (h : AZ W g B a (s.int B (min most 1048576)).1) => K7 W h)
 have hTK := hid (fun (W : World) (h : AZ W g B a ((s.int B (min most 1048576)).1.byte B).1) => K5 W h ((s.int B (min most 1048576)).2 : Int) zC zC)
 have htp := Rs.Tb hbok ((s.int B (min most 1048576)).2 : Int)
 have htl : (((s.int B (min most 1048576)).1.byte B).1.take B ((s.int B (min most 1048576)).2 : Int)).2.length ≤ 1048576 := by
  by_cases h0 : (((s.int B (min most 1048576)).1.byte B).1.take B ((s.int B (min most 1048576)).2 : Int)).1.k = 0
  ·rw [(Rs.JS h0).2.2]; omega
  ·rw [Rs.Lm h0]; simp
 have hUN := hid (fun (W : World) (h : AZ W g B a ((s.int B (min most 1048576)).1.byte B).1) => Md W h hB (s.int B (min most 1048576)).2 hile)
 have hup := Rs.VQ hbok (s.int B (min most 1048576)).2
 have hul : (((s.int B (min most 1048576)).1.byte B).1.unp B (s.int B (min most 1048576)).2).2.length ≤ 1048576 := A4 (Rs.Ru _) hile
 have hFL := hid (fun (W : World) (h : AZ W g B a ((s.int B (min most 1048576)).1.byte B).1) => BB W h 7 ((((s.int B (min most 1048576)).1.byte B).1.p : Int) - 1) zC)
 have hfk := Rs.CU (s := ((s.int B (min most 1048576)).1.byte B).1) (c := 7) (at_ := ((((s.int B (min most 1048576)).1.byte B).1.p : Int) - 1)) zC
 have hSN := hid (fun (W : World) (t : Rs) (h : AZ W g B a t) (hp : s.p ≤ t.p) => Tq W h s.p hp zC)
 have hbyp : ((s.int B (min most 1048576)).1.byte B).1.p ≤ B.length := hbok.le
 have hb1 : ((s.int B (min most 1048576)).1.byte B).1.k = 0 → 1 ≤ ((s.int B (min most 1048576)).1.byte B).1.p := fun hk => by rw [NW rfl hk]; omega
 unfold Rs.loose;generalize ((s.int B (min most 1048576)).1.byte B).1.fail 7 ((((s.int B (min most 1048576)).1.byte B).1.p : Int) - 1) = F1 at *
 generalize ((s.int B (min most 1048576)).1.byte B).1.take B ((s.int B (min most 1048576)).2 : Int) = T at *
 generalize ((s.int B (min most 1048576)).1.byte B).1.unp B (s.int B (min most 1048576)).2 = U at *
 generalize (s.int B (min most 1048576)).1.byte B = Y at *
 generalize s.int B (min most 1048576) = N at *
 obtain ⟨sd, n⟩ := N
 obtain ⟨se, y⟩ := Y
 obtain ⟨st, DT⟩ := T
 obtain ⟨su, DU⟩ := U
 dsimp only at *;have hSNt := hid (fun (W : World) (h : AZ W g B a st) => hSN.out W st h zC)
 have hSNu := hid (fun (W : World) (h : AZ W g B a su) => hSN.out W su h zC)
 generalize (B.drop s.p).take (st.p - s.p) = S1 at *
 generalize (B.drop s.p).take (su.p - s.p) = S2 at *
 clear hSN;have hM : (if most ≤ 1048576 then most else 1048576) = min most 1048576 := by split <;> omega
 have hM2 : (if (1048576 : Int) < most then (1048576 : Int) else most) = min most 1048576 := by split <;> omega
 generalize min most 1048576 = M at *
 have hy := y.toNat_lt
 clear h;by_cases hk : se.k = 0
 ·have dk : decide (se.k = 0) = true := Ae hk
  have hp1 := hb1 hk
  rw [Am hk]
  clear hk hb1;by_cases h0 : y.toNat = 0
  ·have d0 : ((y.toNat : Int) == 0) = true := by rw [h0]; rfl
   rw [Am h0]
   clear h0;by_cases ht : st.k = 0
   ·have dt : decide (st.k = 0) = true := Ae ht
    rw [Am ht]
    clear ht;dsimp only;go_enter Tryz.func119, Tryz.ntmps119
    go_wp2_with fail;refine HA.out.mono ?_
    rintro r w0 ⟨rfl, rfl⟩;go_wp2_with fail;refine HI.out.mono ?_
    rintro r w1 ⟨rfl, hst1⟩;have HST1 := hid hst1
    have HBY := hid (hBY.out w1 hst1.1)
    clear hst1;go_wp2_with fail;refine HBY.out.mono ?_
    rintro r w2 ⟨rfl, hst2⟩;have HST2 := hid (AE.trans HST1.out.2 hst2)
    have hG := AH w2 hst2.1
    rw [dk] at hG
    have HG := hid hG
    clear hst2 hG dk;go_wp2_with fail;refine HG.out.mono ?_
    rintro r w3 ⟨rfl, hb3⟩;have HST3 := hid (HST2.out.then hb3)
    have hs3 := HST3.out.size
    have HC := hid (hTK.out w3 HST3.out.1)
    go_wp2_with fail;refine HC.out.mono ?_
    rintro r w4 ⟨v, rfl, hr, hst4⟩;obtain ⟨aD, cD, hv, hr2, _⟩ := AN hr
    simp only [Au, AO] at hv
    subst hv;have HR4 := hid hr2
    have hs4 := hst4.size
    have HST4 := hid (AE.trans HST3.out.2 hst4)
    have hG4 := AH w4 hst4.1
    rw [dt] at hG4
    have HG4 := hid hG4
    clear hr hr2 hst4 hG4 dt;go_wp2_with fail;refine HG4.out.mono ?_
    rintro r w5 ⟨rfl, hb5⟩;have HST5 := hid (HST4.out.then hb5)
    have hs5 := hb5.size
    have HR5 := hid (Ah.mono (S' := fun q => w3.heap.size ≤ q ∧ q < w5.heap.size) (Ah.keep HR4.out fun q hq => hb5.block q hq.2) fun q hq => ⟨hq.1, zC⟩)
    have HBB := hid (KU w5 DT aD _ cD (Ah.mono HR5.out fun q hq => hq.2) htl)
    go_wp2_with fail;refine HBB.out.mono ?_
    rintro r w6 ⟨v6, rfl, hr, hb6⟩;obtain ⟨a6, c6, hv, hr2, _⟩ := AN hr
    simp only [Au, AO] at hv
    subst hv;have HR6 := hid hr2
    have hs6 := hb6.size
    have HST6 := hid (HST5.out.then hb6)
    have HSN := hid (hSNt.out w6 HST6.out.1)
    clear hr hr2;go_wp2_with fail;refine HSN.out.mono ?_
    rintro r w7 ⟨v7, rfl, hr, hb7⟩;obtain ⟨a7, c7, hv, hr2, _⟩ := AN hr
    simp only [Au, AO] at hv
    subst hv;have HR7 := hid hr2
    have hs7 := hb7.size
    have HST7 := hid (HST6.out.then hb7)
    have HEQ := hid (KT (Bp DT) S1 a6 a7 _ c6 _ c7 w7 (Ah.mono (Ah.keep HR6.out fun q hq => hb7.block q hq.2) fun q hq => zC) (Ah.mono HR7.out fun q hq => hq.2))
    generalize hq : decide (Bp DT = S1) = q at *
    have HQ := hid hq
    clear hq;clear hr hr2;go_wp2_with fail;refine HEQ.out.mono ?_
    rintro r w8 ⟨rfl, rfl⟩;have HRF := hid (Ah.mono (S' := fun q => w.heap.size ≤ q ∧ q < w7.heap.size) (Ah.keep HR5.out fun q hq => (hb7.block q zC).trans (hb6.block q hq.2)) fun q hq => ⟨zC, zC⟩)
    go_wp2;go_ret2
    rw [HQ.out]
    exact ⟨_, rfl, HRF.out, HST7.out⟩
   ·have dt : decide (st.k = 0) = false := Ad ht
    rw [An ht]
    clear ht;dsimp only;go_enter Tryz.func119, Tryz.ntmps119
    go_wp2_with fail;refine HA.out.mono ?_
    rintro r w0 ⟨rfl, rfl⟩;go_wp2_with fail;refine HI.out.mono ?_
    rintro r w1 ⟨rfl, hst1⟩;have HST1 := hid hst1
    have HBY := hid (hBY.out w1 hst1.1)
    clear hst1;go_wp2_with fail;refine HBY.out.mono ?_
    rintro r w2 ⟨rfl, hst2⟩;have HST2 := hid (AE.trans HST1.out.2 hst2)
    have hG := AH w2 hst2.1
    rw [dk] at hG
    have HG := hid hG
    clear hst2 hG dk;go_wp2_with fail;refine HG.out.mono ?_
    rintro r w3 ⟨rfl, hb3⟩;have HST3 := hid (HST2.out.then hb3)
    have hs3 := HST3.out.size
    have HC := hid (hTK.out w3 HST3.out.1)
    go_wp2_with fail;refine HC.out.mono ?_
    rintro r w4 ⟨v, rfl, hr, hst4⟩;obtain ⟨aD, cD, hv, hr2, _⟩ := AN hr
    simp only [Au, AO] at hv
    subst hv;have HR4 := hid hr2
    have hs4 := hst4.size
    have HST4 := hid (AE.trans HST3.out.2 hst4)
    have hG4 := AH w4 hst4.1
    rw [dt] at hG4
    have HG4 := hid hG4
    clear hr hr2 hst4 hG4 dt;go_wp2_with fail;refine HG4.out.mono ?_
    rintro r w5 ⟨rfl, hb5⟩;have HST5 := hid (HST4.out.then hb5)
    have hs5 := hb5.size
    go_wp2;go_ret2
    exact ⟨_, rfl, Co rfl rfl zC, HST5.out⟩
  ·have d0 : ((y.toNat : Int) == 0) = false := by rw [beq_eq_false_iff_ne]; omega
   rw [An h0]
   by_cases h1 : y.toNat = 1
   ·have d1 : ((y.toNat : Int) == 1) = true := by rw [h1]; rfl
    rw [Am h1]
    clear h0 h1;by_cases ht : su.k = 0
    ·have dt : decide (su.k = 0) = true := Ae ht
     rw [Am ht]
     clear ht;dsimp only;go_enter Tryz.func119, Tryz.ntmps119
     go_wp2_with fail;refine HA.out.mono ?_
     rintro r w0 ⟨rfl, rfl⟩;go_wp2_with fail;refine HI.out.mono ?_
     rintro r w1 ⟨rfl, hst1⟩;have HST1 := hid hst1
     have HBY := hid (hBY.out w1 hst1.1)
     clear hst1;go_wp2_with fail;refine HBY.out.mono ?_
     rintro r w2 ⟨rfl, hst2⟩;have HST2 := hid (AE.trans HST1.out.2 hst2)
     have hG := AH w2 hst2.1
     rw [dk] at hG
     have HG := hid hG
     clear hst2 hG dk;go_wp2_with fail;refine HG.out.mono ?_
     rintro r w3 ⟨rfl, hb3⟩;have HST3 := hid (HST2.out.then hb3)
     have hs3 := HST3.out.size
     have HC := hid (hUN.out w3 HST3.out.1)
     go_wp2_with fail;refine HC.out.mono ?_
     rintro r w4 ⟨v, rfl, hr, hst4⟩;obtain ⟨aD, cD, hv, hr2, _⟩ := AN hr
     simp only [Au, AO] at hv
     subst hv;have HR4 := hid hr2
     have hs4 := hst4.size
     have HST4 := hid (AE.trans HST3.out.2 hst4)
     have hG4 := AH w4 hst4.1
     rw [dt] at hG4
     have HG4 := hid hG4
     clear hr hr2 hst4 hG4 dt;go_wp2_with fail;refine HG4.out.mono ?_
     rintro r w5 ⟨rfl, hb5⟩;have HST5 := hid (HST4.out.then hb5)
     have hs5 := hb5.size
     have HR5 := hid (Ah.mono (S' := fun q => w3.heap.size ≤ q ∧ q < w5.heap.size) (Ah.keep HR4.out fun q hq => hb5.block q hq.2) fun q hq => ⟨hq.1, zC⟩)
     have HBB := hid (KU w5 DU aD _ cD (Ah.mono HR5.out fun q hq => hq.2) hul)
     go_wp2_with fail;refine HBB.out.mono ?_
     rintro r w6 ⟨v6, rfl, hr, hb6⟩;obtain ⟨a6, c6, hv, hr2, _⟩ := AN hr
     simp only [Au, AO] at hv
     subst hv;have HR6 := hid hr2
     have hs6 := hb6.size
     have HST6 := hid (HST5.out.then hb6)
     have HSN := hid (hSNu.out w6 HST6.out.1)
     clear hr hr2;go_wp2_with fail;refine HSN.out.mono ?_
     rintro r w7 ⟨v7, rfl, hr, hb7⟩;obtain ⟨a7, c7, hv, hr2, _⟩ := AN hr
     simp only [Au, AO] at hv
     subst hv;have HR7 := hid hr2
     have hs7 := hb7.size
     have HST7 := hid (HST6.out.then hb7)
     have HEQ := hid (KT (Bp DU) S2 a6 a7 _ c6 _ c7 w7 (Ah.mono (Ah.keep HR6.out fun q hq => hb7.block q hq.2) fun q hq => zC) (Ah.mono HR7.out fun q hq => hq.2))
     generalize hq : decide (Bp DU = S2) = q at *
     have HQ := hid hq
     clear hq;clear hr hr2;go_wp2_with fail;refine HEQ.out.mono ?_
     rintro r w8 ⟨rfl, rfl⟩;have HRF := hid (Ah.mono (S' := fun q => w.heap.size ≤ q ∧ q < w7.heap.size) (Ah.keep HR5.out fun q hq => (hb7.block q zC).trans (hb6.block q hq.2)) fun q hq => ⟨zC, zC⟩)
     go_wp2;go_ret2
     rw [HQ.out]
     exact ⟨_, rfl, HRF.out, HST7.out⟩
    ·have dt : decide (su.k = 0) = false := Ad ht
     rw [An ht]
     clear ht;dsimp only;go_enter Tryz.func119, Tryz.ntmps119
     go_wp2_with fail;refine HA.out.mono ?_
     rintro r w0 ⟨rfl, rfl⟩;go_wp2_with fail;refine HI.out.mono ?_
     rintro r w1 ⟨rfl, hst1⟩;have HST1 := hid hst1
     have HBY := hid (hBY.out w1 hst1.1)
     clear hst1;go_wp2_with fail;refine HBY.out.mono ?_
     rintro r w2 ⟨rfl, hst2⟩;have HST2 := hid (AE.trans HST1.out.2 hst2)
     have hG := AH w2 hst2.1
     rw [dk] at hG
     have HG := hid hG
     clear hst2 hG dk;go_wp2_with fail;refine HG.out.mono ?_
     rintro r w3 ⟨rfl, hb3⟩;have HST3 := hid (HST2.out.then hb3)
     have hs3 := HST3.out.size
     have HC := hid (hUN.out w3 HST3.out.1)
     go_wp2_with fail;refine HC.out.mono ?_
     rintro r w4 ⟨v, rfl, hr, hst4⟩;obtain ⟨aD, cD, hv, hr2, _⟩ := AN hr
     simp only [Au, AO] at hv
     subst hv;have HR4 := hid hr2
     have hs4 := hst4.size
     have HST4 := hid (AE.trans HST3.out.2 hst4)
     have hG4 := AH w4 hst4.1
     rw [dt] at hG4
     have HG4 := hid hG4
     clear hr hr2 hst4 hG4 dt;go_wp2_with fail;refine HG4.out.mono ?_
     rintro r w5 ⟨rfl, hb5⟩;have HST5 := hid (HST4.out.then hb5)
     have hs5 := hb5.size
     go_wp2;go_ret2
     exact ⟨_, rfl, Co rfl rfl zC, HST5.out⟩
   ·have d1 : ((y.toNat : Int) == 1) = false := by rw [beq_eq_false_iff_ne]; omega
    rw [An h1]
    clear h0 h1;have dt : decide (F1.k = 0) = false := Ad hfk
    dsimp only;go_enter Tryz.func119, Tryz.ntmps119
    go_wp2_with fail;refine HA.out.mono ?_
    rintro r w0 ⟨rfl, rfl⟩;go_wp2_with fail;refine HI.out.mono ?_
    rintro r w1 ⟨rfl, hst1⟩;have HST1 := hid hst1
    have HBY := hid (hBY.out w1 hst1.1)
    clear hst1;go_wp2_with fail;refine HBY.out.mono ?_
    rintro r w2 ⟨rfl, hst2⟩;have HST2 := hid (AE.trans HST1.out.2 hst2)
    have hG := AH w2 hst2.1
    rw [dk] at hG
    have HG := hid hG
    clear hst2 hG dk;go_wp2_with fail;refine HG.out.mono ?_
    rintro r w3 ⟨rfl, hb3⟩;have HST3 := hid (HST2.out.then hb3)
    have hs3 := HST3.out.size
    have HAT3 := hid (Cc w3 HST3.out.1)
    go_wp2_with fail;refine HAT3.out.mono ?_
    rintro r w3' ⟨rfl, rfl⟩;have HC := hid (hFL.out w3 HST3.out.1)
    go_wp2_with fail;refine HC.out.mono ?_
    rintro r w4 ⟨rfl, hst4⟩;have HST4 := hid (AE.trans HST3.out.2 hst4)
    have hG4 := AH w4 hst4.1
    rw [dt] at hG4
    have HG4 := hid hG4
    clear hst4 hG4 dt;go_wp2_with fail;refine HG4.out.mono ?_
    rintro r w5 ⟨rfl, hb5⟩;have HST5 := hid (HST4.out.then hb5)
    go_wp2;go_ret2
    exact ⟨_, rfl, Co rfl rfl zC, HST5.out⟩
 ·have dk : decide (se.k = 0) = false := Ad hk
  rw [An hk]
  clear hk hb1;dsimp only;go_enter Tryz.func119, Tryz.ntmps119
  go_wp2_with fail;refine HA.out.mono ?_
  rintro r w0 ⟨rfl, rfl⟩;go_wp2_with fail;refine HI.out.mono ?_
  rintro r w1 ⟨rfl, hst1⟩;have HST1 := hid hst1
  have HBY := hid (hBY.out w1 hst1.1)
  clear hst1;go_wp2_with fail;refine HBY.out.mono ?_
  rintro r w2 ⟨rfl, hst2⟩;have HST2 := hid (AE.trans HST1.out.2 hst2)
  have hG := AH w2 hst2.1
  rw [dk] at hG
  have HG := hid hG
  clear hst2 hG dk;go_wp2_with fail;refine HG.out.mono ?_
  rintro r w3 ⟨rfl, hb3⟩;have HST3 := hid (HST2.out.then hb3)
  have hs3 := HST3.out.size
  go_wp2;go_ret2
  exact ⟨_, rfl, Co rfl rfl zC, HST3.out⟩
end Go.Proofs.YtlbffbkbkajciaaGreat
