/- Mini: Needed by rpcOnce_walk, part 7: texts put together by shake.py; no condition. -/
import Derived.Deep.RegionHeld3
import Derived.Test.YtlbffbkbkajciaaGreatZO6
import Derived.Test.YtlbffbkbkajciaaGreatZO1
import Derived.Test.YtlbffbkbkajciaaGreatZO5
import Derived.Test.YtlbffbkbkajciaaGreatZO4
import Derived.Test.YtlbffbkbkajciaaGreatZO2
import Derived.Test.YtlbffbkbkajciaaGreatZO3
import Derived.Deep.AppendLies
import Derived.Deep.RegionLaw
set_option linter.unusedVariables false
set_option linter.unusedSimpArgs false
set_option maxRecDepth 100000
set_option maxHeartbeats 6400000
namespace Go.Bs
theorem zBq{p:Prop}(h:p:=by rw [hf.out, hst.out, hg.out, Gy]; rfl):p:=h
theorem zA8{p:Prop}(h:p:=by simp [results, Tryz.results194, go_sem, x0, x1, x2, f0, f1, f2, l0]):p:=h
theorem zA7{p:Prop}(h:p:=by rw [hg.out, hsj.out]; simp only [hc', Bool.not_false, BJ]):p:=h
theorem zAx{p:Prop}(h:p:=by rw [hf.out, hst.out, hg.out, hsj.out]; simp only [hc, Bool.not_true, IH]):p:=h
theorem AS:type_of% @Decidable.byContradiction:=@Decidable.byContradiction
theorem GD:type_of% @eq_false_of_ne_true:=@eq_false_of_ne_true
theorem IH:type_of% @Bool.false_and:=@Bool.false_and
end Go.Bs
namespace Go.Proofs.YtlbffbkbkajciaaGreat
open Go.RowKit Go.Bs Go.Maps
theorem II (l : List Int) (a : Option Addr) (n c : Nat) (w : World) (hl : AQ.r (· < w.heap.size) w [.slice a n c] l) :
  Calls Tryz.prog 149 #[.slice a n c] w fun r w' => r = .returned (.bool (A1 l)) ∧ Below w.heap.size w w' := by
 obtain ⟨rfl, hm, _, _⟩ := AP hl
 have HL := hid hl; clear hl
 go_enter Tryz.func149, Tryz.ntmps149
 go_wp2;go_loopw [3] (fun i wr => ∃ m : Nat, (m ≤ l.length ∧ (m = 0 ∨ m < l.length)) ∧ i = .int .i64 ((m : Int) + 1) ∧ Hid (A1 l = Cs l (m + 1)) ∧ Below w.heap.size w wr) (fun i _ => l.length + 1 - (intOf i).toNat)
 case atStart => exact ⟨0, ⟨Aj _, .inl rfl⟩, rfl, hid (Fv l).symm, Below.refl _ _⟩
 case round =>
  obtain ⟨m, hk, rfl, hf, hb⟩ := hrel
  by_cases hlt : m + 1 < l.length
  ·obtain ⟨b, o, hA, hbb, x0, hx0, hx1⟩ := Cn (lift HL.out hb) hlt
   obtain ⟨b', o', hA', hbb', y0, hy0, hy1⟩ := Cn (lift HL.out hb) (show m < l.length by omega)
   subst hA;simp only [Bc, DE] at hA'
   obtain ⟨rfl, rfl, _⟩ := hA'
   have hst := hid (EH l m hlt)
   have k1 : (0 : Int) ≤ (m : Int) + 1 - 1 := zD
   have k2 : (m : Int) + 1 < (l.length : Int) := zD
   have k3 : (m : Int) < (l.length : Int) := zD
   have X0 := fun s : AN wr => s.cell x0
   have Y0 := fun s : AN wr => s.cell y0
   clear x0 y0;generalize l[m + 1] = x at *
   generalize l[m] = y at *
   by_cases hge : x ≤ y
   ·have d1 : decide (x ≤ y) = true := Ac hge
    have hff : Hid (A1 l = false) := hid zAa
    clear hge;go_wp2_with fail;refine Ar zH zH ?_
    repeat (go_big_quiet_step (fail))
    refine AA ?_
    rintro W5 ⟨⟨W5', hb5⟩, rfl⟩;go_wp2;go_ret;exact ⟨zI, Af hb5 hb⟩
   ·have d1 : decide (x ≤ y) = false := Ab hge
    have hst' : Hid (Cs l (m + 1) = Cs l (m + 2)) := hid ZV
    clear hge;go_wp2_with fail;refine Ar zH zH ?_
    repeat (go_big_quiet_step (fail))
    refine AA ?_
    rintro W5 ⟨⟨W5', hb5⟩, rfl⟩;go_wp2;go_roundw
    case rel => exact ⟨m + 1, ⟨zD, zD⟩, zW, hid ZY, Af hb5 hb⟩
    case measure => (simp [intOf]; try omega)
  ·have k2 : ¬ ((m : Int) + 1 < (l.length : Int)) := by omega
   have d2 : decide ((m : Int) + 1 < (l.length : Int)) = false := Ab k2
   have hff : Hid (A1 l = true) := hid (by
    rcases DN l.length with h0 | h0
    ·rw [AO h0]; rfl
    ·rw [hf.out, show m + 1 = l.length by omega]; exact Fw l)
   go_wp2;go_ret;exact ⟨zI, hb⟩
theorem Jr (l : List Int) (a : Option Addr) (n c : Nat) (w : World) (hl : AQ.r (· < w.heap.size) w [.slice a n c] l) :
  Calls Tryz.prog 91 #[.slice a n c] w fun r w' => r = .returned (.bool (A1 l)) ∧ Below w.heap.size w w' := by
 obtain ⟨rfl, hm, _, _⟩ := AP hl
 have HL := hid hl; clear hl
 go_enter Tryz.func91, Tryz.ntmps91
 go_wp2;go_loopw [3] (fun i wr => ∃ m : Nat, (m ≤ l.length ∧ (m = 0 ∨ m < l.length)) ∧ i = .int .i64 ((m : Int)) ∧ Hid (A1 l = Cs l (m + 1)) ∧ Below w.heap.size w wr) (fun i _ => l.length + 1 - (intOf i).toNat)
 case atStart => exact ⟨0, ⟨Aj _, .inl rfl⟩, rfl, hid (Fv l).symm, Below.refl _ _⟩
 case round =>
  obtain ⟨m, hk, rfl, hf, hb⟩ := hrel
  by_cases hlt : m + 1 < l.length
  ·obtain ⟨b, o, hA, hbb, x0, hx0, hx1⟩ := Cn (lift HL.out hb) hlt
   obtain ⟨b', o', hA', hbb', y0, hy0, hy1⟩ := Cn (lift HL.out hb) (show m < l.length by omega)
   subst hA;simp only [Bc, DE] at hA'
   obtain ⟨rfl, rfl, _⟩ := hA'
   have hst := hid (EH l m hlt)
   have k1 : (0 : Int) ≤ (m : Int) + 1 - 1 := zD
   have k2 : (m : Int) + 1 < (l.length : Int) := zD
   have k3 : (m : Int) < (l.length : Int) := zD
   have X0 := fun s : AN wr => s.cell x0
   have Y0 := fun s : AN wr => s.cell y0
   clear x0 y0;generalize l[m + 1] = x at *
   generalize l[m] = y at *
   by_cases hge : x ≤ y
   ·have d1 : decide (x ≤ y) = true := Ac hge
    have hff : Hid (A1 l = false) := hid zAa
    clear hge;go_wp2_with fail;refine Ar zH zH ?_
    repeat (go_big_quiet_step (fail))
    refine AA ?_
    rintro W5 ⟨⟨W5', hb5⟩, rfl⟩;go_wp2;go_ret;exact ⟨zI, Af hb5 hb⟩
   ·have d1 : decide (x ≤ y) = false := Ab hge
    have hst' : Hid (Cs l (m + 1) = Cs l (m + 2)) := hid ZV
    clear hge;go_wp2_with fail;refine Ar zH zH ?_
    repeat (go_big_quiet_step (fail))
    refine AA ?_
    rintro W5 ⟨⟨W5', hb5⟩, rfl⟩;go_wp2;go_roundw
    case rel => exact ⟨m + 1, ⟨zD, zD⟩, zW, hid ZY, Af hb5 hb⟩
    case measure => (simp [intOf]; try omega)
  ·have k2 : ¬ ((m : Int) + 1 < (l.length : Int)) := by omega
   have d2 : decide ((m : Int) + 1 < (l.length : Int)) = false := Ab k2
   have hff : Hid (A1 l = true) := hid (by
    rcases DN l.length with h0 | h0
    ·rw [AO h0]; rfl
    ·rw [hf.out, show m + 1 = l.length by omega]; exact Fw l)
   go_wp2;go_ret;exact ⟨zI, hb⟩
theorem Qi (w : World) (l : List Int) (al : Option Addr) (nl cl : Nat) (hl : AQ.r (· < w.heap.size) w [.slice al nl cl] l) (hri : A1 l = true) (hlen : l.length ≤ 1000000) :
  Calls Tryz.prog 150 #[.slice al nl cl] w fun r w' => ∃ v, r = .returned v ∧ AQ.r (fun q => w.heap.size ≤ q ∧ q < w'.heap.size) w' [v] (EB none l) ∧ Below w.heap.size w w' := by
 obtain ⟨rfl, hm, _, _⟩ := AP hl
 obtain ⟨i0, hi, hz0, hz1, hz2⟩ := Bq LF
 have HL := hid hl
 have hul := GH none l
 have HU := hid (fun (k : Nat) (h : k < l.length) => MP l none k h)
 have HRI := hid (fun (k : Nat) (h : k + 1 < l.length) => Ir l k h hri)
 clear hl hri;go_enter Tryz.func150, Tryz.ntmps150
 go_wp2_with fail;go_loopw [3, 8] (fun v i wr => ∃ k : Nat, k ≤ l.length ∧ i = .int .i64 k ∧ wr.ownsRow w.heap.size 22 1 v k (Bx ((EB none l).take k)) ∧ Hid (∀ x ∈ (EB none l).take k, 0 ≤ x ∧ x ≤ 18446744073709551615) ∧ Below w.heap.size w wr) (fun _ i _ => l.length - (intOf i).toNat)
 case atStart => exact ⟨0, Aj _, rfl, ⟨rfl, .inl ⟨rfl, rfl⟩⟩, hid zO, Below.refl _ _⟩
 case round =>
  obtain ⟨k, hk, rfl, hown, hbd, hb⟩ := hrel
  obtain ⟨av, cv, rfl⟩ := Bh hown
  rcases Bo k l.length with hlt | hge
  ·obtain ⟨b, o, hA, hbb, x0, hx⟩ := Cn (lift HL.out hb) hlt
   subst hA;have hu := HU.out k hlt
   have i1 : (k : Int) < (l.length : Int) := zD
   have d1 : decide ((k : Int) < (l.length : Int)) = true := Ac i1
   have hbl : b < wr.heap.size := Ck _ _ x0
   have htk : Bx ((EB none l).take (k + 1)) = Bx ((EB none l).take k) ++ [.int .u64 ((EB none l)[k]'zD)] := by
    rw [A6 zD]; unfold Bx; rw [C7]; rfl
   have hnb : ∀ y : Int, (EB none l)[k]'zD = y → (0 ≤ y ∧ y ≤ 18446744073709551615) → ∀ x ∈ (EB none l).take (k + 1), 0 ≤ x ∧ x ≤ 18446744073709551615 := fun y e hy x hx => by
    rw [A6 zD, DY, Dd] at hx
    rcases hx with hx | rfl
    ·exact hbd.out x hx
    ·rw [e]; exact hy
   have HTK := hid htk
   have HNB := hid hnb
   have HO := hid hown
   have hz := hb.size
   rcases DN k with rfl | hk0
   ·rw [dif_pos rfl] at hu
    (try dsimp only at hu)
    rw [hu] at HTK
    have HBD := hid (HNB.out _ hu hx)
    simp only [Nat.zero_mul, BR, Bn] at x0
    have d2 : decide ((0 : Int) < ((0 : Nat) : Int)) = false := zP
    generalize l[0] = y at *
    clear hu htk hnb hbd hown hx;go_wp2_with (at_builtin; go_loud (refine AB rfl _ _ _ rfl w.heap.size 22 i0 (.int .u64 0) 1 8 Dr hi hz0 hz1 hz2 rfl zP (.slice av 0 cv) 0 _ rfl (By HO.out zA) (some ⟨wr.heap.size, 0, none⟩) 1 1 [.int .u64 y] rfl (B9 _ 22 _ rfl zO rfl) ZL zQ zD zL ?_; intro v' w3 hown3 hgrow3 hat3; obtain ⟨a3, c3, rfl⟩ := Bh hown3; have HO3 := hid hown3; have hb3 : Below w.heap.size wr w3 := (Below.grown ((by (repeat (first | with_reducible exact Below.refl _ _ | with_reducible assumption | (with_reducible refine Az ?_ _) | (with_reducible refine Below.setCell ?_ zE _) | (with_reducible refine Below.drew ?_) | (with_reducible refine below_drewN ?_ _) | (refine Af zJ ?_))) : Below wr.heap.size wr _).mono hz) hgrow3 zL (fun g e => (HO.out.lt g e).1)); clear hown3 hgrow3 hat3))
    have ho3 := HO3.out
    rw [← HTK.out] at ho3
    have HO4 := hid ho3
    clear ho3 x0;go_roundw
    case rel => exact ⟨1, zD, zW, by simpa using HO4.out, HBD, hb.trans hb3⟩
    case measure => (simp [intOf]; try omega)
   ·obtain ⟨m, rfl⟩ : ∃ m, k = m + 1 := ⟨k - 1, zD⟩
    obtain ⟨b', o', hA', hbb', y0, hy⟩ := Cn (lift HL.out hb) (show m < l.length by omega)
    simp only [Bc, DE] at hA'
    obtain ⟨rfl, rfl, _⟩ := hA'
    have hri := HRI.out m hlt
    rw [dif_neg zD] at hu
    simp only [ET] at hu
    rw [hu] at HTK
    have HBD := hid (HNB.out _ hu zD)
    have i1' : (m : Int) + 1 < (l.length : Int) := zD
    have i2 : (m : Int) < (l.length : Int) := zD
    have d2 : decide ((m : Int) + 1 < (l.length : Int)) = true := Ac i1'
    have d3 : decide (m + 1 < l.length) = true := Ac hlt
    have d4 : decide ((0 : Int) < (m : Int) + 1) = true := Ac zD
    generalize l[m + 1] = y at *
    generalize l[m]'zD = z at *
    have w1 : 0 ≤ y - (z + 1) := zD
    have w2 : z + 1 ≤ 18446744073709551615 := zD
    rw [show y - z - 1 = y - (z + 1) by omega] at HTK
    clear hu htk hnb hbd hown;go_wp2_with (at_builtin; go_loud (refine AB rfl _ _ _ rfl w.heap.size 22 i0 (.int .u64 0) 1 8 Dr hi hz0 hz1 hz2 rfl zP (.slice av (m + 1) cv) (m + 1) _ rfl (By HO.out zA) (some ⟨wr.heap.size, 0, none⟩) 1 1 [.int .u64 (y - (z + 1))] rfl (B9 _ 22 _ rfl zO rfl) ZL zQ zD zL ?_; intro v' w3 hown3 hgrow3 hat3; obtain ⟨a3, c3, rfl⟩ := Bh hown3; have HO3 := hid hown3; have hb3 : Below w.heap.size wr w3 := (Below.grown ((by (repeat (first | with_reducible exact Below.refl _ _ | with_reducible assumption | (with_reducible refine Az ?_ _) | (with_reducible refine Below.setCell ?_ zE _) | (with_reducible refine Below.drew ?_) | (with_reducible refine below_drewN ?_ _) | (refine Af zJ ?_))) : Below wr.heap.size wr _).mono hz) hgrow3 zL (fun g e => (HO.out.lt g e).1)); clear hown3 hgrow3 hat3))
    have ho3 := HO3.out
    rw [← HTK.out] at ho3
    have HO4 := hid ho3
    clear ho3 x0 y0;go_roundw
    case rel => exact ⟨m + 1 + 1, zD, zW, HO4.out, HBD, hb.trans hb3⟩
    case measure => (simp [intOf]; try omega)
  ·obtain rfl : k = l.length := by omega
   have d1 : decide ((l.length : Int) < (l.length : Int)) = false := Ab zD
   have hv := hown
   rw [EU zD] at hv hbd
   have HV := hid (El hbd.out zD hv)
   clear hv hown;go_wp2;go_ret;exact ⟨_, rfl, HV.out, hb⟩
theorem He (w : World) {g base most : Nat} {J : List UInt8} {a : Option Addr} {c : Nat} (h : Bv w g base most J a c) (l : List Int) (al : Option Addr) (nl cl : Nat)
  (hl : AQ.r (· < w.heap.size) w [.slice al nl cl] l) (hri : A1 l = true) (hlen : l.length ≤ 1000000) (hfit : J.length + (JG l).length ≤ most) (hln2 : J.length + (JG l).length ≤ 100000000000000) :
  Calls Tryz.prog 70 #[.pointer (some ⟨g, 0, none⟩), .slice al nl cl] w fun r w' => r = .returned (.tuple #[]) ∧ Ao w g base most (J ++ JG l) a w' := by
 obtain ⟨rfl, hm, _, _⟩ := AP hl
 have HRI := II l al _ cl w hl
 rw [hri] at HRI
 have HRI := hid HRI
 have HS := hid (fun (W : World) (hW : Below w.heap.size w W) => Qi W l al _ cl (lift hl hW) hri hlen)
 have hlt := h.len
 have hsl := GH none l
 have hnb := G7 (EB none l)
 have hxs := GI hl
 unfold JG at *;have HP := hid h
 have HMO := hid (fun k => FJ (EB none l) k)
 have HNS := hid (fun (k : Nat) (h : k < (EB none l).length) => Hz (EB none l) k h)
 generalize EB none l = T at *
 generalize hL : l.length = L at *
 have hLL := hid hL
 clear h hl hri hxs hL;go_enter Tryz.func70, Tryz.ntmps70
 go_wp2_with fail;refine HRI.out.mono ?_
 rintro r w0 ⟨rfl, hb0⟩;go_wp2_with fail;refine (HS.out _ hb0).mono ?_
 rintro r w1 ⟨v, rfl, hr, hb1'⟩;obtain ⟨a1, c1, hv, hr2, _⟩ := AE hr
 simp only [Ap, AD] at hv
 subst hv;have hb1 := Af hb1' hb0
 have hz0 := hb0.size
 rw [hsl] at hr2 ⊢
 have HR := hid (Gd HP.out (AQ.mono hr2 fun q hq => ⟨zD, hq.2⟩))
 have HP1 := hid (HP.out.later hb1)
 clear hr hr2;have hz1 := hb1.size
 go_wp2_with fail;go_loopw [14] (fun i wr => ∃ k : Nat, k ≤ L ∧ i = .int .i64 k ∧ Hid (Ao w1 g base most (J ++ CJ (T.take k)) a wr)) (fun i _ => L - (intOf i).toNat)
 case atStart => exact ⟨0, Aj _, rfl, hid (by simpa [CJ] using Ao.refl HP1.out)⟩
 case round =>
  obtain ⟨k, hk, rfl, hp⟩ := hrel
  obtain ⟨a3, c3, hp3, ht3, ha3⟩ := hp.out
  rcases Bo k L with hlt | hge
  ·have hd3 := CQ ht3 ha3 HR.out
   have hkT : k < T.length := zD
   obtain ⟨b, o, hA, hbb, hc, hx0, hx1⟩ := Cn hd3 hkT
   subst hA;have hst := HNS.out k hkT
   have hfk := HMO.out (k + 1)
   rw [hst, Am] at hfk
   have HSK := hid hst
   have hvk := (A2 T[k].toNat).1
   have hJ3 := hp3.len
   simp only [Am] at hJ3
   have hV := BG wr hp3 T[k].toNat zD zS zS
   rw [toNat_cast hx0, Au J, ← hst] at hV
   have HV3 := hid hV
   have HT3 := hid (And.intro ht3 ha3)
   have i1 : (k : Int) < (L : Int) := zD
   have d1 : decide ((k : Int) < (L : Int)) = true := Ac i1
   clear hV hd3 hst hp3 ht3 ha3 hp hfk hvk hJ3;generalize T[k] = y at *
   go_wp2_with fail;refine HV3.out.mono ?_
   rintro r w5 ⟨rfl, hst5⟩;have HN := hid (Ao.trans (J := J) HT3.out.1 HT3.out.2 hst5)
   clear hst5;go_wp2;go_roundw
   case rel => exact ⟨k + 1, zD, zW, HN⟩
   case measure => simp [intOf]; omega
  ·obtain rfl : k = L := by omega
   have d1 : decide ((k : Int) < (k : Int)) = false := Ab zD
   rw [EU zD] at hp
   have HN := hid (Ao.later hb1 hp.out)
   clear hp hp3 ht3 ha3;go_wp2;first | go_end0 | refine Ai (Aq rfl _ _ _) rfl ?_
   exact ⟨rfl, HN.out⟩
theorem Kj (s : Hd) (h0 : inU s.epoch) (w : World) : Calls Tryz.prog 86 #[.agg #[.int .u64 s.epoch, .int .u64 s.node, .int .u64 s.tail]] w fun r w' => r = .returned (.bool (Dv s)) ∧ Below w.heap.size w w' := by
 have HE := hid (fun (W : World) => Ey s.epoch W)
 have hsr : Dv s = (epR s.epoch && (decide (s.node ≤ 4294967295) && decide (s.tail ≤ 4611686018427387904))) := rfl
 obtain ⟨e, n, t⟩ := s
 dsimp only at *;generalize epR e = E at *
 have HS := hid hsr
 generalize Dv ⟨e, n, t⟩ = ss at *
 clear hsr h0;cases E
 ·have hf : Hid (ss = false) := hid (by rw [HS.out]; rfl)
  go_enter Tryz.func86, Tryz.ntmps86
  go_wp2_with fail;refine (HE.out _).mono ?_
  rintro r w1 ⟨rfl, rfl⟩;go_wp2_with fail;go_ret;exact ⟨Z5, zB⟩
 ·by_cases hn : n ≤ 4294967295
  ·have hf : Hid (ss = decide (t ≤ 4611686018427387904)) := hid (by rw [HS.out, Ac hn]; rfl)
   have d1 : decide (n ≤ 4294967295) = true := Ac hn
   clear hn;go_enter Tryz.func86, Tryz.ntmps86
   go_wp2_with fail;refine (HE.out _).mono ?_
   rintro r w1 ⟨rfl, rfl⟩;go_wp2_with fail;go_ret;exact ⟨Z5, zB⟩
  ·have hf : Hid (ss = false) := hid (by rw [HS.out, Ab hn]; rfl)
   have d1 : decide (n ≤ 4294967295) = false := Ab hn
   clear hn;go_enter Tryz.func86, Tryz.ntmps86
   go_wp2_with fail;refine (HE.out _).mono ?_
   rintro r w1 ⟨rfl, rfl⟩;go_wp2_with fail;go_ret;exact ⟨Z5, zB⟩
theorem Na (s : Hd) (h0 : inU s.epoch) (w : World) : Calls Tryz.prog 93 #[.agg #[.int .u64 s.epoch, .int .u64 s.node, .int .u64 s.tail]] w fun r w' => r = .returned (.bool (Dv s)) ∧ Below w.heap.size w w' := by
 have HE := hid (fun (W : World) => GO s.epoch h0.1 W)
 have hsr : Dv s = (epR s.epoch && (decide (s.node ≤ 4294967295) && decide (s.tail ≤ 4611686018427387904))) := rfl
 obtain ⟨e, n, t⟩ := s
 dsimp only at *;generalize epR e = E at *
 have HS := hid hsr
 generalize Dv ⟨e, n, t⟩ = ss at *
 clear hsr h0;cases E
 ·have hf : Hid (ss = false) := hid (by rw [HS.out]; rfl)
  go_enter Tryz.func93, Tryz.ntmps93
  go_wp2_with fail;refine (HE.out _).mono ?_
  rintro r w1 ⟨rfl, rfl⟩;go_wp2_with fail;go_ret;exact ⟨Z5, zB⟩
 ·by_cases hn : n ≤ 4294967295
  ·have hf : Hid (ss = decide (t ≤ 4611686018427387904)) := hid (by rw [HS.out, Ac hn]; rfl)
   have d1 : decide (n ≤ 4294967295) = true := Ac hn
   clear hn;go_enter Tryz.func93, Tryz.ntmps93
   go_wp2_with fail;refine (HE.out _).mono ?_
   rintro r w1 ⟨rfl, rfl⟩;go_wp2_with fail;go_ret;exact ⟨Z5, zB⟩
  ·have hf : Hid (ss = false) := hid (by rw [HS.out, Ab hn]; rfl)
   have d1 : decide (n ≤ 4294967295) = false := Ab hn
   clear hn;go_enter Tryz.func93, Tryz.ntmps93
   go_wp2_with fail;refine (HE.out _).mono ?_
   rintro r w1 ⟨rfl, rfl⟩;go_wp2_with fail;go_ret;exact ⟨Z5, zB⟩
theorem Sx {S : Nat → Prop} {w : World} {g : Nat} {t : TypeId} {l : List Int} {cs : Array Value} (hcs : cs = (Bx l).toArray) (hS : S g) (hl : l.length ≤ 1000000) (hx : ∀ x ∈ l, inU x) (hb : Blk w g t cs) : AQ.r S w [.slice (some ⟨g, 0, none⟩) l.length l.length] l := by
 subst hcs;refine A3 (xs := l) rfl (Al _) zBa (.inr ⟨g, 0, rfl, hS, fun i x hi => ⟨[.int .u64 x], rfl, fun j v hj => ?_, rfl, IL (hx x (List.mem_of_getElem? hi))⟩⟩)
 have hj0 : j = 0 := by
  rcases j with _ | j
  ·rfl
  ·simp at hj
 subst hj0;simp at hj
 subst hj;rw [Bn, Eb, BR]
 rw [hb.cell i]
 simp [Bx, hi]
theorem Ou (s : Hd) : Ef s = CJ [s.epoch, s.node, s.tail] := by simp [Ef, CJ]
theorem RO (w : World) {g base most : Nat} {J : List UInt8} {a : Option Addr} {c : Nat} (h : Bv w g base most J a c) (s : Hd) (h0 : inU s.epoch) (h1 : inU s.node) (h2 : inU s.tail) (hR : Dv s = true)
  (hfit : J.length + (Ef s).length ≤ most) (hln2 : J.length + (Ef s).length ≤ 100000000000000) :
  Calls Tryz.prog 76 #[.pointer (some ⟨g, 0, none⟩), .agg #[.int .u64 s.epoch, .int .u64 s.node, .int .u64 s.tail]] w fun r w' => r = .returned (.tuple #[]) ∧ Ao w g base most (J ++ Ef s) a w' := by
 have HSR := hid (fun (W : World) => Kj s h0 W)
 rw [hR] at HSR
 rw [Ou] at hfit hln2 ⊢
 have hlt := h.len
 have HP := hid h
 have hLI : ∀ (W : World) (b : Nat) (hb : Blk W b 22 #[.int .u64 s.epoch, .int .u64 s.node, .int .u64 s.tail]) (S : Nat → Prop) (hS : S b), AQ.r S W [.slice (some ⟨b, 0, none⟩) 3 3] [s.epoch, s.node, s.tail] := fun W b hb S hS =>
  Sx (l := [s.epoch, s.node, s.tail]) rfl hS zO (by simp [h0, h1, h2]) hb
 have HLI := hid hLI
 have hT3 : [s.epoch, s.node, s.tail].length = 3 := rfl
 generalize hTT : [s.epoch, s.node, s.tail] = T at *
 have HMO := hid (fun k => FJ T k)
 have HNS := hid (fun (k : Nat) (h : k < T.length) => Hz T k h)
 obtain ⟨e, n, t⟩ := s
 dsimp only at *;clear h hR hLI hTT h0 h1 h2;go_enter Tryz.func76, Tryz.ntmps76
 go_wp2_with fail;refine (HSR.out _).mono ?_
 rintro r w1 ⟨rfl, hb1⟩;have x0 := hb1.cell (p := ⟨w.heap.size, 0, none⟩) zO
 have x1 := hb1.cell (p := ⟨w.heap.size, 1, none⟩) zO
 have x2 := hb1.cell (p := ⟨w.heap.size, 2, none⟩) zO
 simp at x0 x1 x2
 have hbw1 : Hid (Below w.heap.size w w1) := hid (Af hb1 zB)
 clear hb1;go_wp2_with fail;have HB2 := hid (hbw1.out.alloc hbw1.out.size (.cells #[.int .u64 e, .int .u64 n, .int .u64 t] 22))
 have HBL : Hid (Blk (w1.alloc (.cells #[.int .u64 e, .int .u64 n, .int .u64 t] 22)) w1.heap.size 22 #[.int .u64 e, .int .u64 n, .int .u64 t]) := hid (Blk.new _ _ _)
 have hs2 : w1.heap.size < (w1.alloc (.cells #[.int .u64 e, .int .u64 n, .int .u64 t] 22)).heap.size := zO
 generalize w1.alloc (.cells #[.int .u64 e, .int .u64 n, .int .u64 t] 22) = w2 at *
 have hsw := hbw1.out.size
 have HR := hid (HLI.out w2 w1.heap.size HBL.out (fun q => q < w2.heap.size ∧ ¬ CT g a q) ⟨hs2, fun hf => by have := (HP.out.DG hf).2; omega⟩)
 have HP1 := hid (HP.out.later HB2.out)
 have HLW := hid HB2.out
 clear x0 x1 x2;go_loopw [19] (fun i wr => ∃ k : Nat, k ≤ 3 ∧ i = .int .i64 k ∧ Hid (Ao w2 g base most (J ++ CJ (T.take k)) a wr)) (fun i _ => 3 - (intOf i).toNat)
 case atStart => exact ⟨0, Aj _, rfl, hid (by simpa [CJ] using Ao.refl HP1.out)⟩
 case round =>
  obtain ⟨k, hk, rfl, hp⟩ := hrel
  obtain ⟨a3, c3, hp3, ht3, ha3⟩ := hp.out
  rcases Bo k 3 with hlt | hge
  ·have hd3 := CQ ht3 ha3 HR.out
   have hkT : k < T.length := zD
   rw [show (3 : Nat) = T.length from hT3.symm] at hd3
   obtain ⟨b, o, hA, hbb, hc, hx0, hx1⟩ := Cn hd3 hkT
   simp only [Bc, DE, AD] at hA
   obtain ⟨hA1, hA2⟩ := hA
   subst hA1 hA2;have hst := HNS.out k hkT
   have hfk := HMO.out (k + 1)
   rw [hst, Am] at hfk
   have HSK := hid hst
   have hvk := (A2 T[k].toNat).1
   have hJ3 := hp3.len
   simp only [Am] at hJ3
   have hV := BG wr hp3 T[k].toNat zD zS zS
   rw [toNat_cast hx0, Au J, ← hst] at hV
   have HV3 := hid hV
   have HT3 := hid (And.intro ht3 ha3)
   have i1 : (k : Int) < 3 := zD
   have d1 : decide ((k : Int) < 3) = true := Ac i1
   clear hV hd3 hst hp3 ht3 ha3 hp hfk hvk hJ3;generalize T[k] = y at *
   simp only [Bn] at hc
   go_wp2_with fail;refine HV3.out.mono ?_
   rintro r w5 ⟨rfl, hst5⟩;have HN := hid (Ao.trans (J := J) HT3.out.1 HT3.out.2 hst5)
   clear hst5;go_wp2;go_roundw
   case rel => exact ⟨k + 1, zD, zW, HN⟩
   case measure => (simp [intOf]; try omega)
  ·obtain rfl : k = 3 := by omega
   rw [EU zD] at hp
   have HN := hid (Ao.later HLW.out hp.out)
   clear hp hp3 ht3 ha3;go_wp2;first | go_end0 | refine Ai (Aq rfl _ _ _) rfl ?_
   exact ⟨rfl, HN.out⟩
theorem LG (l : List Int) (x : Int) (k : Nat) (h : k < l.length) : (l.drop k).contains x = (decide (l[k] = x) || (l.drop (k + 1)).contains x) := by
 rw [AI h, List.contains_cons]
 congr 1
 rw [Fp, beq_iff_eq, decide_eq_true_iff]
 exact eq_comm
theorem QF (l : List Int) (x : Int) (a : Option Addr) (n c : Nat) (w : World) (hl : AQ.r (· < w.heap.size) w [.slice a n c] l) :
  Calls Tryz.prog 251 #[.slice a n c, .int .u64 x] w fun r w' => r = .returned (.bool (l.contains x)) ∧ Below w.heap.size w w' := by
 obtain ⟨rfl, hm, _, _⟩ := AP hl
 have HL := hid hl; clear hl
 go_enter Tryz.func251, Tryz.ntmps251
 go_wp2;go_loopw [5] (fun i wr => ∃ k : Nat, k ≤ l.length ∧ i = .int .i64 k ∧ Hid (l.contains x = (l.drop k).contains x) ∧ Below w.heap.size w wr) (fun i _ => l.length - (intOf i).toNat)
 case atStart => exact ⟨0, Aj _, rfl, hid rfl, Below.refl _ _⟩
 case round =>
  obtain ⟨k, hk, rfl, hf, hb⟩ := hrel
  by_cases hlt : k < l.length
  ·obtain ⟨b, o, hA, hbb, x0, hx0, hx1⟩ := Cn (lift HL.out hb) hlt
   subst hA;have hst := hid (LG l x k hlt)
   have i1 : (k : Int) < (l.length : Int) := zD
   have d1 : decide ((k : Int) < (l.length : Int)) = true := Ac i1
   generalize l[k] = y at *
   by_cases he : y = x
   ·have d2 : (y == x) = true := beq_iff_eq.2 he
    have hff : Hid (l.contains x = true) := hid (by rw [hf.out, hst.out, Ac he]; rfl)
    clear he;go_wp2_with fail;go_ret;exact ⟨zI, hb⟩
   ·have d2 : (y == x) = false := beq_eq_false_iff_ne.2 he
    have hff : Hid (l.contains x = (l.drop (k + 1)).contains x) := hid (by rw [hf.out, hst.out, Ab he]; rfl)
    clear he;go_wp2_with fail;go_roundw
    case rel => exact ⟨k + 1, zD, zW, hff, hb⟩
    case measure => (simp [intOf]; try omega)
  ·obtain rfl : k = l.length := by omega
   have d1 : decide ((l.length : Int) < (l.length : Int)) = false := Ab zD
   have hff : Hid (l.contains x = false) := hid ZM
   go_wp2_with fail;go_ret;exact ⟨zI, hb⟩
theorem Me (l : List Int) (x : Int) (a : Option Addr) (n c : Nat) (w : World) (hl : AQ.r (· < w.heap.size) w [.slice a n c] l) :
  Calls Tryz.prog 269 #[.slice a n c, .int .u64 x] w fun r w' => (∃ j : Int, r = .returned (.int .i64 j) ∧ decide (0 ≤ j) = l.contains x) ∧ Below w.heap.size w w' := by
 obtain ⟨rfl, hm, _, _⟩ := AP hl
 have HL := hid hl; clear hl
 go_enter Tryz.func269, Tryz.ntmps269
 go_wp2;go_loopw [8] (fun i wr => ∃ k : Nat, k ≤ l.length ∧ i = .int .i64 k ∧ Hid (l.contains x = (l.drop k).contains x) ∧ Below w.heap.size w wr) (fun i _ => l.length - (intOf i).toNat)
 case atStart => exact ⟨0, Aj _, rfl, hid rfl, Below.refl _ _⟩
 case round =>
  obtain ⟨k, hk, rfl, hf, hb⟩ := hrel
  by_cases hlt : k < l.length
  ·obtain ⟨b, o, hA, hbb, x0, hx0, hx1⟩ := Cn (lift HL.out hb) hlt
   subst hA;have hst := hid (LG l x k hlt)
   have i1 : (k : Int) < (l.length : Int) := zD
   have d1 : decide ((k : Int) < (l.length : Int)) = true := Ac i1
   generalize l[k] = y at *
   by_cases he : y = x
   ·have d2 : (x == y) = true := beq_iff_eq.2 he.symm
    have hff : Hid (l.contains x = true) := hid (by rw [hf.out, hst.out, Ac he]; rfl)
    clear he;go_wp2_with fail;go_ret;exact ⟨⟨(k : Int), rfl, by rw [hff.out]; exact Ac (by omega)⟩, hb⟩
   ·have d2 : (x == y) = false := beq_eq_false_iff_ne.2 (fun e => he e.symm)
    have hff : Hid (l.contains x = (l.drop (k + 1)).contains x) := hid (by rw [hf.out, hst.out, Ab he]; rfl)
    clear he;go_wp2_with fail;go_roundw
    case rel => exact ⟨k + 1, zD, zW, hff, hb⟩
    case measure => (simp [intOf]; try omega)
  ·obtain rfl : k = l.length := by omega
   have d1 : decide ((l.length : Int) < (l.length : Int)) = false := Ab zD
   have hff : Hid (l.contains x = false) := hid ZM
   go_wp2_with fail;go_ret;exact ⟨⟨-1, rfl, zI⟩, hb⟩
theorem JH (l : List Int) (x : Int) (a : Option Addr) (n c : Nat) (w : World) (hl : AQ.r (· < w.heap.size) w [.slice a n c] l) :
  Calls Tryz.prog 250 #[.slice a n c, .int .u64 x] w fun r w' => r = .returned (.bool (l.contains x)) ∧ Below w.heap.size w w' := by
 have HI := hid (Me l x a n c w hl)
 obtain ⟨rfl, hm, _, _⟩ := AP hl
 generalize l.contains x = hh at *
 clear hl;go_enter Tryz.func250, Tryz.ntmps250
 go_wp2_with fail;refine HI.out.mono ?_
 rintro r w1 ⟨⟨j, rfl, hj⟩, hb1⟩;have HJ := hid hj
 go_wp2_with fail;go_ret;exact ⟨by rw [← HJ.out]; rfl, hb1⟩
theorem NZ (l : List Int) (f : Int → Bool) (k : Nat) (h : k < l.length) : (l.drop k).all f = (f l[k] && (l.drop (k + 1)).all f) := by
 rw [AI h, List.all_cons]
theorem KV (l : List Int) (o : List (List Int)) (k : Nat) (h : k < o.length) : BW l (o.drop k) = ((l.all fun n => !o[k].contains n) && BW l (o.drop (k + 1))) := by
 unfold BW; rw [AI h, List.all_cons]
theorem Dg (l : List Int) (O : List (List Int)) (a : Option Addr) (n c : Nat) (a' : Option Addr) (n' c' : Nat) (w : World) (hl : AQ.r (· < w.heap.size) w [.slice a n c] l) (ho : Dw.r (· < w.heap.size) w [.slice a' n' c'] O) :
  Calls Tryz.prog 219 #[.slice a n c, .slice a' n' c'] w fun r w' => r = .returned (.bool (BW l O)) ∧ Below w.heap.size w w' := by
 obtain ⟨rfl, hm, _, _⟩ := AP hl
 obtain ⟨rfl, hm', _, _⟩ := AP ho
 have HL := hid hl
 have HO := hid ho
 clear hl ho;go_enter Tryz.func219, Tryz.ntmps219
 go_wp2_with fail;go_loopw [11] (fun i wr => ∃ k : Nat, k ≤ O.length ∧ i = .int .i64 k ∧ Hid (BW l O = BW l (O.drop k)) ∧ Below w.heap.size w wr) (fun i _ => O.length - (intOf i).toNat)
 case atStart => exact ⟨0, Aj _, rfl, hid rfl, Below.refl _ _⟩
 case round =>
  obtain ⟨k, hk, rfl, hf, hb⟩ := hrel
  by_cases hlt : k < O.length
  ·obtain ⟨b, o, hA, hbb, ak, ck, x0, xl⟩ := EZ (lift HO.out hb) hlt
   subst hA;have hst := hid (KV l O k hlt)
   have HX := hid xl
   have HB := hid hb
   have i1 : (k : Int) < (O.length : Int) := zD
   have d1 : decide ((k : Int) < (O.length : Int)) = true := Ac i1
   generalize O[k] = X at *
   clear xl hb;obtain ⟨wo, hwo⟩ : ∃ wo : World, wo = wr := ⟨_, rfl⟩
   subst hwo;go_wp2_with fail;go_loopw [17] (fun i wr => ∃ j : Nat, j ≤ l.length ∧ i = .int .i64 j ∧ Hid ((l.all fun n => !X.contains n) = (l.drop j).all fun n => !X.contains n) ∧ Below wo.heap.size wo wr) (fun i _ => l.length - (intOf i).toNat)
   case atStart => exact ⟨0, Aj _, rfl, hid rfl, Below.refl _ _⟩
   case round =>
    obtain ⟨j, hj, rfl, hg, hbj⟩ := hrel
    have hbw := HB.out.trans (hbj.mono HB.out.size)
    have HBW := hid hbw
    by_cases hjl : j < l.length
    ·obtain ⟨b2, o2, hA2, hbb2, y0, hy0, hy1⟩ := Cn (lift HL.out hbw) hjl
     subst hA2;have hsj := hid (NZ l (fun n => !X.contains n) j hjl)
     have HCT := hid (fun y => JH X y ak _ ck wr (lift HX.out hbj))
     have j1 : (j : Int) < (l.length : Int) := zD
     have e1 : decide ((j : Int) < (l.length : Int)) = true := Ac j1
     generalize l[j] = y at *
     have hct := HCT.out y
     by_cases hc : X.contains y = true
     ·rw [hc] at hct
      have HC := hid hct
      have hff : Hid (BW l O = false) := hid zAx
      clear hc hct hbw hbj HCT;go_wp2_with fail;refine HC.out.mono ?_
      rintro r w3 ⟨rfl, hb3⟩;have hbe := Af hb3 HBW.out
      go_wp2_with fail;go_ret;exact ⟨zI, hbe⟩
     ·have hc' := GD hc
      rw [hc'] at hct
      have HC := hid hct
      have hgg : Hid ((l.all fun n => !X.contains n) = (l.drop (j + 1)).all fun n => !X.contains n) := hid zA7
      have HBJ := hid hbj
      clear hc hc' hct hbw hbj HCT;go_wp2_with fail;refine HC.out.mono ?_
      rintro r w3 ⟨rfl, hb3⟩;have hbe := Af hb3 HBJ.out
      go_wp2_with fail;go_roundw
      case rel => exact ⟨j + 1, zD, zW, hgg, hbe⟩
      case measure => (simp [intOf]; try omega)
    ·obtain rfl : j = l.length := by omega
     have e1 : decide ((l.length : Int) < (l.length : Int)) = false := Ab zD
     have hff : Hid (BW l O = BW l (O.drop (k + 1))) := hid zBq
     clear hbj hbw;go_wp2_with fail;go_roundw
     case rel => exact ⟨k + 1, zD, zW, hff, HBW.out⟩
     case measure => (simp [intOf]; try omega)
  ·obtain rfl : k = O.length := by omega
   have d1 : decide ((O.length : Int) < (O.length : Int)) = false := Ab zD
   have hff : Hid (BW l O = true) := hid ZM
   go_wp2_with fail;go_ret;exact ⟨zI, hb⟩
theorem IA (l : List Int) (h : 1 ≤ l.length) : l.getLastD 0 = l[l.length - 1] := by
 rw [List.getLastD_eq_getLast?, List.getLast?_eq_getElem?, AJ zD]; rfl
theorem DZ (l : List Int) (a : Option Addr) (n c : Nat) (w : World) (hl : AQ.r (· < w.heap.size) w [.slice a n c] l) :
  Calls Tryz.prog 218 #[.slice a n c] w fun r w' => r = .returned (.bool (CH l)) ∧ Below w.heap.size w w' := by
 obtain ⟨rfl, hm, _, _⟩ := AP hl
 have HR := II l a _ c w hl
 have hnr : CH l = (decide (1 ≤ l.length ∧ l.length ≤ 8) && (A1 l && decide (l.getLastD 0 ≤ 4294967295))) := rfl
 by_cases h1 : 1 ≤ l.length
 ·have d1 : decide ((1 : Int) ≤ (l.length : Int)) = true := Ac zD
  by_cases h2 : l.length ≤ 8
  ·have d2 : decide ((l.length : Int) ≤ 8) = true := Ac zD
   rw [Ac (⟨h1, h2⟩ : 1 ≤ l.length ∧ l.length ≤ 8), BJ, IA l h1] at hnr
   obtain ⟨b, o, hA, hbb, x0, hx0, hx1⟩ := Cn hl (i := l.length - 1) zD
   subst hA;obtain ⟨m, hm⟩ : ∃ m, l.length = m + 1 := ⟨l.length - 1, zD⟩
   simp only [hm, ET] at hnr x0 hx0 hx1 HR d1 d2 ⊢
   have HNR := hid hnr
   generalize l[m]'zD = y at *
   generalize A1 l = R at *
   generalize CH l = NR at *
   have q1 : (0 : Int) ≤ (m : Int) + 1 - 1 := zD
   have HRR := hid HR
   have hmm : m ≤ 7 := zD
   clear hl HR hnr h1 h2 hm;cases R
   ·have hff : Hid (NR = false) := hid (by rw [HNR.out]; rfl)
    go_enter Tryz.func218, Tryz.ntmps218
    go_wp2_with fail;refine HRR.out.mono ?_
    rintro r w1 ⟨rfl, hb1⟩;go_wp2_with fail;go_ret;exact ⟨zI, hb1⟩
   ·have hff : Hid (NR = decide (y ≤ 4294967295)) := hid (by rw [HNR.out]; rfl)
    go_enter Tryz.func218, Tryz.ntmps218
    go_wp2_with fail;refine HRR.out.mono ?_
    rintro r w1 ⟨rfl, hb1⟩;have X0 := (hb1.cell (p := ⟨b, o + m, none⟩) hbb).trans x0
    clear x0;go_wp2_with fail;go_ret;exact ⟨zI, hb1⟩
  ·have d2 : decide ((l.length : Int) ≤ 8) = false := Ab zD
   have hff : Hid (CH l = false) := hid (by rw [hnr, Ab (fun h => h2 h.2 : ¬ (1 ≤ l.length ∧ l.length ≤ 8))]; rfl)
   clear hl HR hnr h1 h2;go_enter Tryz.func218, Tryz.ntmps218
   go_wp2_with fail;go_ret;exact ⟨zI, Below.refl _ _⟩
 ·have d1 : decide ((1 : Int) ≤ (l.length : Int)) = false := Ab zD
  have hff : Hid (CH l = false) := hid (by rw [hnr, Ab (fun h => h1 h.1 : ¬ (1 ≤ l.length ∧ l.length ≤ 8))]; rfl)
  clear hl HR hnr h1;go_enter Tryz.func218, Tryz.ntmps218
  go_wp2_with fail;go_ret;exact ⟨zI, Below.refl _ _⟩
theorem M8 (O : List (List Int)) (q : Nat) (l : List Int) (a : Option Addr) (n c : Nat) (a' : Option Addr) (n' c' : Nat) (w : World) (ho : Dw.r (· < w.heap.size) w [.slice a n c] O) (hl : AQ.r (· < w.heap.size) w [.slice a' n' c'] l) (hq : q ≤ O.length) :
  Calls Tryz.prog 221 #[.slice a n c, .int .i64 (q : Int), .slice a' n' c'] w fun r w' => r = .returned (.bool (!BW l (O.take q))) ∧ Below w.heap.size w w' := by
 obtain ⟨rfl, hm, _, _⟩ := AP ho
 obtain ⟨rfl, hm', _, _⟩ := AP hl
 have HL := hid hl
 have HO := hid ho
 have hqt : (O.take q).length = q := by rw [List.length_take]; omega
 have HG := hid (fun (k : Nat) (h : k < q) => (by rw [List.getElem_take] : (O.take q)[k]'zD = O[k]'zD))
 obtain ⟨Y, hY⟩ : ∃ Y, O.take q = Y := ⟨_, rfl⟩
 simp only [hY] at HG hqt ⊢
 clear hl ho;go_enter Tryz.func221, Tryz.ntmps221
 go_wp2_with fail;go_loopw [7] (fun i wr => ∃ k : Nat, k ≤ q ∧ i = .int .i64 k ∧ Hid (BW l Y = BW l (Y.drop k)) ∧ Below w.heap.size w wr) (fun i _ => q - (intOf i).toNat)
 case atStart => exact ⟨0, Aj _, rfl, hid rfl, Below.refl _ _⟩
 case round =>
  obtain ⟨k, hk, rfl, hf, hb⟩ := hrel
  by_cases hlt : k < q
  ·obtain ⟨b, o, hA, hbb, ak, ck, x0, xl⟩ := EZ (lift HO.out hb) (show k < O.length by omega)
   subst hA;have hst := KV l Y k zD
   rw [HG.out k hlt] at hst
   have hst := hid hst
   have HX := hid xl
   have HB := hid hb
   have hbl : b < wr.heap.size := Ck _ _ x0
   have i1 : (k : Int) < (q : Int) := zD
   have i2 : (k : Int) < (O.length : Int) := zD
   have d1 : decide ((k : Int) < (q : Int)) = true := Ac i1
   generalize O[k]'zD = X at *
   clear xl hb;obtain ⟨wo, hwo⟩ : ∃ wo : World, wo = wr := ⟨_, rfl⟩
   subst hwo;go_wp2_with fail;go_loopw [8] (fun i wr => ∃ j : Nat, j ≤ l.length ∧ i = .int .i64 j ∧ Hid ((l.all fun n => !X.contains n) = (l.drop j).all fun n => !X.contains n) ∧ Below wo.heap.size wo wr) (fun i _ => l.length - (intOf i).toNat)
   case atStart => exact ⟨0, Aj _, rfl, hid rfl, Below.refl _ _⟩
   case round =>
    obtain ⟨j, hj, rfl, hg, hbj⟩ := hrel
    have hbw := HB.out.trans (hbj.mono HB.out.size)
    have HBW := hid hbw
    by_cases hjl : j < l.length
    ·obtain ⟨b2, o2, hA2, hbb2, y0, hy0, hy1⟩ := Cn (lift HL.out hbw) hjl
     subst hA2;have hsj := hid (NZ l (fun n => !X.contains n) j hjl)
     have HCT := hid (fun y (W : World) (hW : Below wr.heap.size wr W) => QF X y ak _ ck W (lift (lift HX.out hbj) hW))
     have j1 : (j : Int) < (l.length : Int) := zD
     have e1 : decide ((j : Int) < (l.length : Int)) = true := Ac j1
     have X0 := fun s : AN wr => s.cell ((hbj.cell (p := ⟨b, o + k, none⟩) hbl).trans x0)
     have Y0 := fun s : AN wr => s.cell y0
     clear y0;generalize l[j] = y at *
     have hct := HCT.out y
     by_cases hc : X.contains y = true
     ·simp only [hc] at hct
      have HC := hid hct
      have hff : Hid (BW l Y = false) := hid zAx
      clear hc hct hbw hbj HCT;go_wp2_with fail;refine Ar zH zH ?_
      repeat (go_big_quiet_step ((go_at_call 251; exact AW (HC.out _ (AN.below _)))))
      refine AA ?_
      rintro W5 ⟨⟨W5', hb5⟩, rfl⟩;have hbe := Af hb5 HBW.out
      go_wp2_with fail;go_ret;exact ⟨zI, hbe⟩
     ·have hc' := GD hc
      simp only [hc'] at hct
      have HC := hid hct
      have hgg : Hid ((l.all fun n => !X.contains n) = (l.drop (j + 1)).all fun n => !X.contains n) := hid zA7
      have HBJ := hid hbj
      clear hc hc' hct hbw hbj HCT;go_wp2_with fail;refine Ar zH zH ?_
      repeat (go_big_quiet_step ((go_at_call 251; exact AW (HC.out _ (AN.below _)))))
      refine AA ?_
      rintro W5 ⟨⟨W5', hb5⟩, rfl⟩;have hbe := Af hb5 HBJ.out
      go_wp2_with fail;go_roundw
      case rel => exact ⟨j + 1, zD, zW, hgg, hbe⟩
      case measure => (simp [intOf]; try omega)
    ·obtain rfl : j = l.length := by omega
     have e1 : decide ((l.length : Int) < (l.length : Int)) = false := Ab zD
     have hff : Hid (BW l Y = BW l (Y.drop (k + 1))) := hid zBq
     clear hbj hbw;go_wp2_with fail;go_roundw
     case rel => exact ⟨k + 1, zD, zW, hff, HBW.out⟩
     case measure => (simp [intOf]; try omega)
  ·obtain rfl : k = q := by omega
   have d1 : decide ((k : Int) < (k : Int)) = false := Ab zD
   have hff : Hid (BW l Y = true) := hid (by rw [hf.out, show k = Y.length by omega, Gy]; rfl)
   go_wp2_with fail;go_ret;exact ⟨zI, hb⟩
theorem Qo {W : World} {base : Nat} {av : Option Addr} {cv m : Nat} {J : List Int} (h : W.ownsRow base 22 1 (.slice av J.length cv) J.length (Bx J)) (hx : ∀ x ∈ J, 0 ≤ x ∧ x ≤ 18446744073709551615) (hm : J.length = m + 1) : ∃ b o, av = some ⟨b, o, none⟩ ∧ W.cell? ⟨b, o + m, none⟩ = some (.int .u64 (J.getLastD 0)) := by
 obtain ⟨b, o, e, _, hc, _⟩ := Cn (El hx rfl h) (i := m) zD
 refine ⟨b, o, e, ?_⟩
 rw [hc, IA J zD]
 simp only [hm, ET]
theorem O1 {J : List Int} (hx : ∀ x ∈ J, 0 ≤ x ∧ x ≤ 18446744073709551615) (h : J ≠ []) : 0 ≤ J.getLastD 0 ∧ J.getLastD 0 ≤ 18446744073709551615 := by
 have hl : 1 ≤ J.length := by cases J <;> simp_all
 rw [IA J hl]
 exact hx _ (BZ _)
theorem MO (w : World) {g : Nat} {B : List UInt8} {a : Option Addr} {s : Rs} (h : AK w g B a s) (hB : B.length ≤ 1000000000) (N : Nat) (hN : N ≤ 1000) :
  Calls Tryz.prog 190 #[.pointer (some ⟨g, 0, none⟩), .int .i64 (N : Int)] w fun r w' => ∃ v, r = .returned v ∧ AQ.r (fun q => w.heap.size ≤ q ∧ q < w'.heap.size) w' [v] (Rs.DC B N s []).2 ∧ Av w g B a (Rs.DC B N s []).1 w' := by
 obtain ⟨i0, hi, hz0, hz1, hz2⟩ := Bq LF
 have hlt := h.blk.lt
 have HIN := hid (Cy.refl h)
 have hmx : max (N : Int) 0 = (N : Int) := zD
 have hmx2 : (if (N : Int) < 0 then (0 : Int) else (N : Int)) = (N : Int) := ZO
 clear h;go_enter Tryz.func190, Tryz.ntmps190
 go_wp2_with fail;go_loopw [5, 12] (fun v i wr => ∃ (J : List Int) (st : Rs), J.length ≤ N ∧ i = .int .i64 (J.length : Int) ∧ wr.ownsRow w.heap.size 22 1 v J.length (Bx J) ∧ Hid (∀ x ∈ J, 0 ≤ x ∧ x ≤ 18446744073709551615) ∧ Hid (Cy w wr g B a st) ∧ Hid (Rs.DC B N s [] = Rs.DC B (N - J.length) st J)) (fun _ i _ => N - (intOf i).toNat)
 case atStart => exact ⟨[], s, Aj _, rfl, ⟨rfl, .inl ⟨rfl, rfl⟩⟩, hid zO, HIN, hid rfl⟩
 case round =>
  obtain ⟨J, st, hk, rfl, hown, hJb, hin, hsp⟩ := hrel
  obtain ⟨av, cv, rfl⟩ := Bh hown
  have hJ9 : J.length ≤ 1000 := zD
  have HJB := hid hJb.out
  rcases Bo J.length N with hlt2 | hge
  ·have HAT := hid (BI wr hin.out.rd)
   have HVR := hid (Cj wr hin.out.rd zD)
   have hx := Rs.CL (B := B) (s := st)
   have hxb := Rs.Iw (B := B) (s := st)
   have hstep : Rs.DC B (N - J.length) st J = (if (st.num B).1.k = 0 then (if J ≠ [] ∧ 18446744073709551615 - J.getLastD 0 ≤ ((st.num B).2 : Int) then ((st.num B).1.fail 13 st.p, []) else Rs.DC B (N - (J.length + 1)) (st.num B).1 (J ++ [if J = [] then ((st.num B).2 : Int) else ((st.num B).2 : Int) + (J.getLastD 0 + 1)])) else ((st.num B).1, [])) := by
    rw [show N - J.length = (N - (J.length + 1)) + 1 by omega]; rfl
   have HO := hid hown
   have i1 : (J.length : Int) < (N : Int) := zD
   have d1 : decide ((J.length : Int) < (N : Int)) = true := Ac i1
   have d1' : decide (J.length < N) = true := Ac hlt2
   generalize st.num B = R at *
   obtain ⟨st1, x⟩ := R
   dsimp only at *;have HBAD := hid hxb
   have hx0' : (0 : Int) ≤ (x : Int) := zD
   have hx1' : (x : Int) ≤ 18446744073709551615 := zD
   clear hown hxb;by_cases hnil : J = []
   ·have dz : decide ((0 : Int) < (J.length : Int)) = false := by rw [hnil]; rfl
    have dz2 : decide (0 < J.length) = false := by rw [hnil]; rfl
    by_cases hk1 : st1.k = 0
    ·rw [Ak hk1] at hstep
     have hk1' : decide (st1.k = 0) = true := Ac hk1
     have HSP : Hid (Rs.DC B N s [] = Rs.DC B (N - (J.length + 1)) st1 (J ++ [(x : Int)])) := hid (hsp.out.trans (by rw [hstep, An (fun h => h.1 hnil), Ak hnil]))
     clear hstep hsp hk1 hnil;go_wp2_with fail;refine HAT.out.mono ?_
     rintro r w2 ⟨rfl, rfl⟩;go_wp2_with fail;refine HVR.out.mono ?_
     rintro r w3 ⟨rfl, hst3⟩;have HIN3 := hid (hin.out.step hst3)
     have HO3 := hid (Ev HO.out hlt hst3.2)
     have hg := Ax w3 HIN3.out.rd
     rw [hk1'] at hg
     have HG := hid hg
     clear hst3 hg;go_wp2_with fail;refine HG.out.mono ?_
     rintro r w4 ⟨rfl, hb4⟩;have HIN4 := hid (HIN3.out.step (Av.later HIN3.out.rd hb4))
     have HO4 := hid (By HO3.out hb4)
     have hsz4 := HIN4.out.tch.size
     clear hb4;go_wp2_with (at_builtin; go_loud (refine AB rfl _ _ _ rfl w.heap.size 22 i0 (.int .u64 0) 1 8 Dr hi hz0 hz1 hz2 rfl zP (.slice av J.length cv) J.length _ rfl (By HO4.out zA) (some ⟨w4.heap.size, 0, none⟩) 1 1 [.int .u64 ((x : Int))] rfl (B9 _ 22 _ rfl zO rfl) ZL zQ zD zL ?_; intro v' w5 hown5 hgrow5 hat5; obtain ⟨a5, c5, rfl⟩ := Bh hown5; have HO5 := hid hown5; have hb5 : Below w.heap.size w4 w5 := (Below.grown ((by (repeat (first | with_reducible exact Below.refl _ _ | with_reducible assumption | (with_reducible refine Az ?_ _) | (with_reducible refine Below.setCell ?_ zE _) | (with_reducible refine Below.drew ?_) | (with_reducible refine below_drewN ?_ _) | (refine Af zJ ?_))) : Below w4.heap.size w4 _).mono hsz4) hgrow5 zL (fun g e => (HO4.out.lt g e).1)); clear hown5 hgrow5 hat5))
     have HIN5 := hid (HIN4.out.row hb5)
     have ho5 : w5.ownsRow w.heap.size 22 1 (.slice a5 (J.length + 1) c5) (J ++ [(x : Int)]).length (Bx (J ++ [(x : Int)])) := by
      have e : Bx (J ++ [(x : Int)]) = Bx J ++ [.int .u64 ((x : Int))] := by simp [Bx]
      rw [e, Am]
      exact HO5.out
     have HO6 := hid ho5
     have HB6 : Hid (∀ y ∈ J ++ [(x : Int)], 0 ≤ y ∧ y ≤ 18446744073709551615) := hid (fun y hy => by
      rw [DY, Dd] at hy
      rcases hy with hy | rfl
      ·exact HJB.out y hy
      ·omega)
     clear ho5;go_roundw
     case rel => exact ⟨J ++ [(x : Int)], st1, by rw [Am]; simp; omega, by rw [Am]; go_num, HO6.out, HB6, HIN5, hid (by rw [Am]; exact HSP.out)⟩
     case measure => (simp [intOf]; try omega)
    ·rw [An hk1] at hstep
     have hk1' : decide (st1.k = 0) = false := Ab hk1
     have HSP := hid (hsp.out.trans hstep)
     clear hstep hsp;clear hk1 hnil;go_wp2_with fail;refine HAT.out.mono ?_
     rintro r w2 ⟨rfl, rfl⟩;go_wp2_with fail;refine HVR.out.mono ?_
     rintro r w3 ⟨rfl, hst3⟩;have HIN3 := hid (hin.out.step hst3)
     have HO3 := hid (Ev HO.out hlt hst3.2)
     have hg := Ax w3 HIN3.out.rd
     rw [hk1'] at hg
     have HG := hid hg
     clear hst3 hg;go_wp2_with fail;refine HG.out.mono ?_
     rintro r w5 ⟨rfl, hb5⟩;have HE := hid (HIN3.out.to.then hb5)
     go_wp2_with fail;go_ret;rw [HSP.out]
     exact ⟨_, rfl, A3 (xs := []) rfl (Al _) (Aj _) (.inl rfl), HE.out⟩
   ·obtain ⟨hq0, hq1⟩ := O1 HJB.out hnil
    obtain ⟨m, hm⟩ : ∃ m, J.length = m + 1 := ⟨J.length - 1, by have : J.length ≠ 0 := fun e => hnil (List.length_eq_zero_iff.1 e); omega⟩
    have HM := hid hm
    have dz : decide ((0 : Int) < (J.length : Int)) = true := Ac zD
    have dz2 : decide (0 < J.length) = true := Ac zD
    have j1 : (J.length : Int) - 1 = (m : Int) := zD
    have j2 : (0 : Int) ≤ (J.length : Int) - 1 := zD
    have j3 : (m : Int) < (J.length : Int) := zD
    have HUL := hid (fun (W : World) (h : W.ownsRow w.heap.size 22 1 (.slice av J.length cv) J.length (Bx J)) => Qo h HJB.out hm)
    generalize J.getLastD 0 = q at *
    by_cases hk1 : st1.k = 0
    ·rw [Ak hk1] at hstep
     have hk1' : decide (st1.k = 0) = true := Ac hk1
     by_cases hov : 18446744073709551615 - q ≤ (x : Int)
     ·rw [Ak ⟨hnil, hov⟩] at hstep
      have hfk : (st1.fail 13 st.p).k ≠ 0 := Rs.Be zD
      have HSP := hid (hsp.out.trans hstep)
      clear hstep hsp;clear hk1 hk1' hnil hm;by_cases hqm : q = 18446744073709551615
      ·subst hqm
       go_wp2_with fail;refine HAT.out.mono ?_
       rintro r w2 ⟨rfl, rfl⟩;go_wp2_with fail;refine HVR.out.mono ?_
       rintro r w3 ⟨rfl, hst3⟩;have HIN3 := hid (hin.out.step hst3)
       have HO3 := hid (Ev HO.out hlt hst3.2)
       obtain ⟨b, o, rfl, hc3⟩ := HUL.out _ HO3.out
       clear HUL hst3;go_wp2_with fail;refine (Bf w3 HIN3.out.rd 13 (st.p : Int) zD).mono ?_
       rintro r w4 ⟨rfl, hst4⟩;have HIN4 := hid (HIN3.out.step hst4)
       have hg := Ax w4 HIN4.out.rd
       rw [Ab hfk] at hg
       have HG := hid hg
       clear hst4 hg;go_wp2_with fail;refine HG.out.mono ?_
       rintro r w5 ⟨rfl, hb5⟩;have HE := hid (HIN4.out.to.then hb5)
       go_wp2_with fail;go_ret;rw [HSP.out]
       exact ⟨_, rfl, A3 (xs := []) rfl (Al _) (Aj _) (.inl rfl), HE.out⟩
      ·have w1' : q + 1 ≤ 18446744073709551615 := by omega
       have w0' : 0 ≤ q + 1 := zD
       have e0 : (q + 1 == 0) = false := beq_eq_false_iff_ne.2 zD
       obtain ⟨Y, hY⟩ : ∃ Y, ((x : Int) + (q + 1)) % 18446744073709551616 = Y := ⟨_, rfl⟩
       have hY2 : IntKind.u64.wrap ((x : Int) + (q + 1)) = Y := by rw [IntKind.wrap_u64]; exact hY
       have dY : decide (Y < (x : Int)) = true := Ac zD
       go_wp2_with fail;refine HAT.out.mono ?_
       rintro r w2 ⟨rfl, rfl⟩;go_wp2_with fail;refine HVR.out.mono ?_
       rintro r w3 ⟨rfl, hst3⟩;have HIN3 := hid (hin.out.step hst3)
       have HO3 := hid (Ev HO.out hlt hst3.2)
       obtain ⟨b, o, rfl, hc3⟩ := HUL.out _ HO3.out
       clear HUL hst3;go_wp2_with fail;refine (Bf w3 HIN3.out.rd 13 (st.p : Int) zD).mono ?_
       rintro r w4 ⟨rfl, hst4⟩;have HIN4 := hid (HIN3.out.step hst4)
       have hg := Ax w4 HIN4.out.rd
       rw [Ab hfk] at hg
       have HG := hid hg
       clear hst4 hg;go_wp2_with fail;refine HG.out.mono ?_
       rintro r w5 ⟨rfl, hb5⟩;have HE := hid (HIN4.out.to.then hb5)
       go_wp2_with fail;go_ret;rw [HSP.out]
       exact ⟨_, rfl, A3 (xs := []) rfl (Al _) (Aj _) (.inl rfl), HE.out⟩
     ·rw [An (fun h => hov h.2), An hnil] at hstep
      have w1' : q + 1 ≤ 18446744073709551615 := zD
      have w0' : 0 ≤ q + 1 := zD
      have w2' : (x : Int) + (q + 1) ≤ 18446744073709551615 := zD
      have w3' : 0 ≤ (x : Int) + (q + 1) := zD
      have e0 : (q + 1 == 0) = false := beq_eq_false_iff_ne.2 zD
      have dY : decide ((x : Int) + (q + 1) < (x : Int)) = false := Ab zD
      have HSP := hid (hsp.out.trans hstep)
      clear hstep hsp;clear hk1 hnil hm;go_wp2_with fail;refine HAT.out.mono ?_
      rintro r w2 ⟨rfl, rfl⟩;go_wp2_with fail;refine HVR.out.mono ?_
      rintro r w3 ⟨rfl, hst3⟩;have HIN3 := hid (hin.out.step hst3)
      have HO3 := hid (Ev HO.out hlt hst3.2)
      obtain ⟨b, o, rfl, hc3⟩ := HUL.out _ HO3.out
      have hg := Ax w3 HIN3.out.rd
      rw [hk1'] at hg
      have HG := hid hg
      clear hst3 hg;go_wp2_with fail;clear hc3 HUL;refine HG.out.mono ?_
      rintro r w4 ⟨rfl, hb4⟩;have HIN4 := hid (HIN3.out.step (Av.later HIN3.out.rd hb4))
      have HO4 := hid (By HO3.out hb4)
      have hsz4 := HIN4.out.tch.size
      clear hb4;go_wp2_with (at_builtin; go_loud (refine AB rfl _ _ _ rfl w.heap.size 22 i0 (.int .u64 0) 1 8 Dr hi hz0 hz1 hz2 rfl zP (.slice (some ⟨b, o, none⟩) J.length cv) J.length _ rfl (By HO4.out zA) (some ⟨w4.heap.size, 0, none⟩) 1 1 [.int .u64 ((x : Int) + (q + 1))] rfl (B9 _ 22 _ rfl zO rfl) ZL zQ zD zL ?_; intro v' w5 hown5 hgrow5 hat5; obtain ⟨a5, c5, rfl⟩ := Bh hown5; have HO5 := hid hown5; have hb5 : Below w.heap.size w4 w5 := (Below.grown ((by (repeat (first | with_reducible exact Below.refl _ _ | with_reducible assumption | (with_reducible refine Az ?_ _) | (with_reducible refine Below.setCell ?_ zE _) | (with_reducible refine Below.drew ?_) | (with_reducible refine below_drewN ?_ _) | (refine Af zJ ?_))) : Below w4.heap.size w4 _).mono hsz4) hgrow5 zL (fun g e => (HO4.out.lt g e).1)); clear hown5 hgrow5 hat5))
      have HIN5 := hid (HIN4.out.row hb5)
      have ho5 : w5.ownsRow w.heap.size 22 1 (.slice a5 (J.length + 1) c5) (J ++ [(x : Int) + (q + 1)]).length (Bx (J ++ [(x : Int) + (q + 1)])) := by
       have e : Bx (J ++ [(x : Int) + (q + 1)]) = Bx J ++ [.int .u64 ((x : Int) + (q + 1))] := by simp [Bx]
       rw [e, Am]
       exact HO5.out
      have HO6 := hid ho5
      have HB6 : Hid (∀ y ∈ J ++ [(x : Int) + (q + 1)], 0 ≤ y ∧ y ≤ 18446744073709551615) := hid (fun y hy => by
       rw [DY, Dd] at hy
       rcases hy with hy | rfl
       ·exact HJB.out y hy
       ·omega)
      clear ho5;go_roundw
      case rel => exact ⟨J ++ [(x : Int) + (q + 1)], st1, by rw [Am]; simp; omega, by rw [Am]; go_num, HO6.out, HB6, HIN5, hid (by rw [Am]; exact HSP.out)⟩
      case measure => (simp [intOf]; try omega)
    ·rw [An hk1] at hstep
     have hk1' : decide (st1.k = 0) = false := Ab hk1
     have hx0 := HBAD.out hk1
     subst hx0;have hfid : st1.fail 13 st.p = st1 := Rs.Bw hk1
     have HSP := hid (hsp.out.trans hstep)
     clear hstep hsp;clear hk1 hnil hm;by_cases hqm : q = 18446744073709551615
     ·subst hqm
      go_wp2_with fail;refine HAT.out.mono ?_
      rintro r w2 ⟨rfl, rfl⟩;go_wp2_with fail;refine HVR.out.mono ?_
      rintro r w3 ⟨rfl, hst3⟩;have HIN3 := hid (hin.out.step hst3)
      have HO3 := hid (Ev HO.out hlt hst3.2)
      obtain ⟨b, o, rfl, hc3⟩ := HUL.out _ HO3.out
      clear HUL hst3;go_wp2_with fail;refine (Bf w3 HIN3.out.rd 13 (st.p : Int) zD).mono ?_
      rintro r w4 ⟨rfl, hst4⟩;rw [hfid] at hst4
      have HIN4 := hid (HIN3.out.step hst4)
      have hg := Ax w4 HIN4.out.rd
      rw [hk1'] at hg
      have HG := hid hg
      clear hst4 hg;go_wp2_with fail;refine HG.out.mono ?_
      rintro r w5 ⟨rfl, hb5⟩;have HE := hid (HIN4.out.to.then hb5)
      go_wp2_with fail;go_ret;rw [HSP.out]
      exact ⟨_, rfl, A3 (xs := []) rfl (Al _) (Aj _) (.inl rfl), HE.out⟩
     ·have w1' : q + 1 ≤ 18446744073709551615 := by omega
      have w0' : 0 ≤ q + 1 := zD
      have e0 : (q + 1 == 0) = false := beq_eq_false_iff_ne.2 zD
      have dY : decide (q + 1 < 0) = false := Ab zD
      have dY2 : decide (((0 : Nat) : Int) + (q + 1) < ((0 : Nat) : Int)) = false := Ab zD
      have dY3 : decide ((0 : Int) + (q + 1) < 0) = false := Ab zD
      go_wp2_with fail;refine HAT.out.mono ?_
      rintro r w2 ⟨rfl, rfl⟩;go_wp2_with fail;refine HVR.out.mono ?_
      rintro r w3 ⟨rfl, hst3⟩;have HIN3 := hid (hin.out.step hst3)
      have HO3 := hid (Ev HO.out hlt hst3.2)
      obtain ⟨b, o, rfl, hc3⟩ := HUL.out _ HO3.out
      clear HUL;have hg := Ax w3 HIN3.out.rd
      rw [hk1'] at hg
      have HG := hid hg
      clear hst3 hg;go_wp2_with fail;refine HG.out.mono ?_
      rintro r w5 ⟨rfl, hb5⟩;have HE := hid (HIN3.out.to.then hb5)
      go_wp2_with fail;go_ret;rw [HSP.out]
      exact ⟨_, rfl, A3 (xs := []) rfl (Al _) (Aj _) (.inl rfl), HE.out⟩
  ·have hJN : J.length = N := by omega
   have d1 : decide ((J.length : Int) < (N : Int)) = false := Ab zD
   have d1' : decide (J.length < N) = false := Ab zD
   have HSP : Hid (Rs.DC B N s [] = (st, J)) := hid (by rw [hsp.out, hJN, Nat.sub_self]; rfl)
   have HV := hid (El hJb.out rfl hown)
   have HE := hid hin.out.to
   clear hown hsp hJN hk hge;go_wp2_with fail;go_ret;rw [HSP.out]
   exact ⟨_, rfl, HV.out, HE.out⟩
theorem Rs.I8 {B : List UInt8} {s : Rs} (h : s.ok B.length) : (s.ep B).1.ok B.length := by
 have h2 := Rs.Cz (B := B) h
 unfold Rs.ep;split
 ·split
  ·exact h2
  ·exact Rs.BS h2 zD
 ·exact h2
theorem Rs.T8 {B : List UInt8} {s : Rs} (h : s.ok B.length) : (s.tl B).1.ok B.length := by
 have h2 := Rs.Cz (B := B) h
 unfold Rs.tl;split
 ·split
  ·exact h2
  ·exact Rs.BS h2 zD
 ·exact h2
theorem Rs.PN {B : List UInt8} {s : Rs} (h : s.ok B.length) : (s.seal_ B).1.ok B.length := by
 unfold Rs.seal_;dsimp only;split <;> exact Rs.T8 (Rs.Mr (Rs.I8 h))
abbrev RT (s : Hd) : Value := .agg #[.int .u64 s.epoch, .int .u64 s.node, .int .u64 s.tail]
theorem Qz (w : World) {g : Nat} {B : List UInt8} {a : Option Addr} {s : Rs} (h : AK w g B a s) (hB : B.length ≤ 1000000000) :
  Calls Tryz.prog 194 #[.pointer (some ⟨g, 0, none⟩)] w fun r w' => r = .returned (RT (s.seal_ B).2) ∧ Av w g B a (s.seal_ B).1 w' := by
 have hlt := h.blk.lt
 have HIN := hid (Cy.refl h)
 have HEP := hid (fun (W : World) (t : Rs) (hW : AK W g B a t) => H9 W hW hB)
 have HMO := hid (fun (W : World) (t : Rs) (hW : AK W g B a t) => Jg W hW zD 4294967295)
 have HTL := hid (fun (W : World) (t : Rs) (hW : AK W g B a t) => KE W hW hB)
 have HGD := hid (fun (W : World) (t : Rs) (hW : AK W g B a t) => Ax W hW)
 clear h;unfold Rs.seal_ RT;dsimp only;have HEP := hid (fun (W : World) (hW : AK W g B a s) => HEP.out W s hW)
 generalize s.ep B = R at *
 obtain ⟨s1, e⟩ := R
 dsimp only at *;have HMO := hid (fun (W : World) (hW : AK W g B a s1) => HMO.out W s1 hW)
 generalize s1.most B 4294967295 = R at *
 obtain ⟨s2, n⟩ := R
 dsimp only at *;have HTL := hid (fun (W : World) (hW : AK W g B a s2) => HTL.out W s2 hW)
 generalize s2.tl B = R at *
 obtain ⟨s3, t⟩ := R
 dsimp only at *;have HGD := hid (fun (W : World) (hW : AK W g B a s3) => HGD.out W s3 hW)
 by_cases hk : s3.k = 0
 ·rw [Ak hk]
  rw [Ac hk] at HGD
  clear hk;go_enter Tryz.func194, Tryz.ntmps194
  go_wp2_with fail;have hb0 := hid (by (repeat (first | with_reducible exact Below.refl _ _ | with_reducible assumption | (with_reducible refine Az ?_ _) | (with_reducible refine Below.setCell ?_ zE _) | (with_reducible refine Below.drew ?_) | (with_reducible refine below_drewN ?_ _) | (refine Af zJ ?_))) : Below w.heap.size w ((w.alloc (.cells #[.int .u64 0, .int .u64 0, .int .u64 0] 27)).alloc (.cells #[.int .u64 0, .int .u64 0, .int .u64 0] 27)))
  have HIN0 := hid (HIN.out.row hb0.out)
  have R0 : Blk ((w.alloc (.cells #[.int .u64 0, .int .u64 0, .int .u64 0] 27)).alloc (.cells #[.int .u64 0, .int .u64 0, .int .u64 0] 27)) w.heap.size 27 #[.int .u64 0, .int .u64 0, .int .u64 0] := zC
  have M0 : Blk ((w.alloc (.cells #[.int .u64 0, .int .u64 0, .int .u64 0] 27)).alloc (.cells #[.int .u64 0, .int .u64 0, .int .u64 0] 27)) (w.heap.size + 1) 27 #[.int .u64 0, .int .u64 0, .int .u64 0] := zC
  refine (HEP.out _ HIN0.out.rd).mono ?_
  rintro r w1 ⟨rfl, hst⟩;have HIN1 := hid (HIN0.out.step hst)
  have R1 := R0.tch hst.2 zD
  have M1 := M0.tch hst.2 zD
  obtain ⟨x0, x1, x2, f0, f1, f2, l0⟩ := D9 R1
  obtain ⟨y0, y1, y2, g0, g1, g2, l1⟩ := D9 M1
  have HR := hid R1
  have HM := hid M1
  clear hst R0 M0 R1 M1;go_wp2_with fail;have HIN1 := hid (HIN1.out.row ((Below.refl w.heap.size w1).setCell (p := ⟨w.heap.size + 1, 0, none⟩) zM (.int .u64 (e : Int))))
  have R1 := (HR.out).far (p := ⟨w.heap.size + 1, 0, none⟩) zM (.int .u64 (e : Int))
  have M1 := (HM.out).set 0 (.int .u64 (e : Int))
  have HR := hid R1
  have HM := hid M1
  clear x0 x1 x2 f0 f1 f2 l0 y0 y1 y2 g0 g1 g2 l1 R1 M1;refine (HMO.out _ HIN1.out.rd).mono ?_
  rintro r w2 ⟨rfl, hst⟩;have HIN1 := hid (HIN1.out.step hst)
  have R1 := HR.out.tch hst.2 zD
  have M1 := HM.out.tch hst.2 zD
  simp only [Aa, Ad, Ae] at M1
  obtain ⟨x0, x1, x2, f0, f1, f2, l0⟩ := D9 R1
  obtain ⟨y0, y1, y2, g0, g1, g2, l1⟩ := D9 M1
  have HR := hid R1
  have HM := hid M1
  clear hst R1 M1;go_wp2_with fail;have HIN1 := hid (HIN1.out.row ((Below.refl w.heap.size w2).setCell (p := ⟨w.heap.size + 1, 1, none⟩) zM (.int .u64 (n : Int))))
  have R1 := (HR.out).far (p := ⟨w.heap.size + 1, 1, none⟩) zM (.int .u64 (n : Int))
  have M1 := (HM.out).set 1 (.int .u64 (n : Int))
  have HR := hid R1
  have HM := hid M1
  clear x0 x1 x2 f0 f1 f2 l0 y0 y1 y2 g0 g1 g2 l1 R1 M1;refine (HTL.out _ HIN1.out.rd).mono ?_
  rintro r w3 ⟨rfl, hst⟩;have HIN1 := hid (HIN1.out.step hst)
  have R1 := HR.out.tch hst.2 zD
  have M1 := HM.out.tch hst.2 zD
  simp only [Aa, Ad, Ae] at M1
  obtain ⟨x0, x1, x2, f0, f1, f2, l0⟩ := D9 R1
  obtain ⟨y0, y1, y2, g0, g1, g2, l1⟩ := D9 M1
  have HR := hid R1
  have HM := hid M1
  clear hst R1 M1;go_wp2_with fail;have HIN1 := hid (HIN1.out.row ((Below.refl w.heap.size w3).setCell (p := ⟨w.heap.size + 1, 2, none⟩) zM (.int .u64 (t : Int))))
  have R1 := (HR.out).far (p := ⟨w.heap.size + 1, 2, none⟩) zM (.int .u64 (t : Int))
  have M1 := (HM.out).set 2 (.int .u64 (t : Int))
  have HR := hid R1
  have HM := hid M1
  clear x0 x1 x2 f0 f1 f2 l0 y0 y1 y2 g0 g1 g2 l1 R1 M1;refine (HGD.out _ HIN1.out.rd).mono ?_
  rintro r w4 ⟨rfl, hb4⟩;have HIN2 := hid (HIN1.out.row (hb4.mono HIN1.out.tch.size))
  have R1 := HR.out.later hb4
  have M1 := HM.out.later hb4
  simp only [Aa, Ad, Ae] at M1
  obtain ⟨x0, x1, x2, f0, f1, f2, l0⟩ := D9 R1
  obtain ⟨y0, y1, y2, g0, g1, g2, l1⟩ := D9 M1
  clear hb4 R1 M1;go_wp2;exact Ai (v := .agg #[.int .u64 (e : Int), .int .u64 (n : Int), .int .u64 (t : Int)]) zA8 rfl ⟨rfl, (HIN2.out.row ((((Below.refl w.heap.size w4).setCell (p := ⟨w.heap.size, 0, none⟩) zM (.int .u64 (e : Int))).setCell (p := ⟨w.heap.size, 1, none⟩) zM (.int .u64 (n : Int))).setCell (p := ⟨w.heap.size, 2, none⟩) zM (.int .u64 (t : Int)))).to⟩
 ·rw [An hk]
  rw [Ab hk] at HGD
  clear hk;go_enter Tryz.func194, Tryz.ntmps194
  go_wp2_with fail;have hb0 := hid (by (repeat (first | with_reducible exact Below.refl _ _ | with_reducible assumption | (with_reducible refine Az ?_ _) | (with_reducible refine Below.setCell ?_ zE _) | (with_reducible refine Below.drew ?_) | (with_reducible refine below_drewN ?_ _) | (refine Af zJ ?_))) : Below w.heap.size w ((w.alloc (.cells #[.int .u64 0, .int .u64 0, .int .u64 0] 27)).alloc (.cells #[.int .u64 0, .int .u64 0, .int .u64 0] 27)))
  have HIN0 := hid (HIN.out.row hb0.out)
  have R0 : Blk ((w.alloc (.cells #[.int .u64 0, .int .u64 0, .int .u64 0] 27)).alloc (.cells #[.int .u64 0, .int .u64 0, .int .u64 0] 27)) w.heap.size 27 #[.int .u64 0, .int .u64 0, .int .u64 0] := zC
  have M0 : Blk ((w.alloc (.cells #[.int .u64 0, .int .u64 0, .int .u64 0] 27)).alloc (.cells #[.int .u64 0, .int .u64 0, .int .u64 0] 27)) (w.heap.size + 1) 27 #[.int .u64 0, .int .u64 0, .int .u64 0] := zC
  refine (HEP.out _ HIN0.out.rd).mono ?_
  rintro r w1 ⟨rfl, hst⟩;have HIN1 := hid (HIN0.out.step hst)
  have R1 := R0.tch hst.2 zD
  have M1 := M0.tch hst.2 zD
  obtain ⟨x0, x1, x2, f0, f1, f2, l0⟩ := D9 R1
  obtain ⟨y0, y1, y2, g0, g1, g2, l1⟩ := D9 M1
  have HR := hid R1
  have HM := hid M1
  clear hst R0 M0 R1 M1;go_wp2_with fail;have HIN1 := hid (HIN1.out.row ((Below.refl w.heap.size w1).setCell (p := ⟨w.heap.size + 1, 0, none⟩) zM (.int .u64 (e : Int))))
  have R1 := (HR.out).far (p := ⟨w.heap.size + 1, 0, none⟩) zM (.int .u64 (e : Int))
  have M1 := (HM.out).set 0 (.int .u64 (e : Int))
  have HR := hid R1
  have HM := hid M1
  clear x0 x1 x2 f0 f1 f2 l0 y0 y1 y2 g0 g1 g2 l1 R1 M1;refine (HMO.out _ HIN1.out.rd).mono ?_
  rintro r w2 ⟨rfl, hst⟩;have HIN1 := hid (HIN1.out.step hst)
  have R1 := HR.out.tch hst.2 zD
  have M1 := HM.out.tch hst.2 zD
  simp only [Aa, Ad, Ae] at M1
  obtain ⟨x0, x1, x2, f0, f1, f2, l0⟩ := D9 R1
  obtain ⟨y0, y1, y2, g0, g1, g2, l1⟩ := D9 M1
  have HR := hid R1
  have HM := hid M1
  clear hst R1 M1;go_wp2_with fail;have HIN1 := hid (HIN1.out.row ((Below.refl w.heap.size w2).setCell (p := ⟨w.heap.size + 1, 1, none⟩) zM (.int .u64 (n : Int))))
  have R1 := (HR.out).far (p := ⟨w.heap.size + 1, 1, none⟩) zM (.int .u64 (n : Int))
  have M1 := (HM.out).set 1 (.int .u64 (n : Int))
  have HR := hid R1
  have HM := hid M1
  clear x0 x1 x2 f0 f1 f2 l0 y0 y1 y2 g0 g1 g2 l1 R1 M1;refine (HTL.out _ HIN1.out.rd).mono ?_
  rintro r w3 ⟨rfl, hst⟩;have HIN1 := hid (HIN1.out.step hst)
  have R1 := HR.out.tch hst.2 zD
  have M1 := HM.out.tch hst.2 zD
  simp only [Aa, Ad, Ae] at M1
  obtain ⟨x0, x1, x2, f0, f1, f2, l0⟩ := D9 R1
  obtain ⟨y0, y1, y2, g0, g1, g2, l1⟩ := D9 M1
  have HR := hid R1
  have HM := hid M1
  clear hst R1 M1;go_wp2_with fail;have HIN1 := hid (HIN1.out.row ((Below.refl w.heap.size w3).setCell (p := ⟨w.heap.size + 1, 2, none⟩) zM (.int .u64 (t : Int))))
  have R1 := (HR.out).far (p := ⟨w.heap.size + 1, 2, none⟩) zM (.int .u64 (t : Int))
  have M1 := (HM.out).set 2 (.int .u64 (t : Int))
  have HR := hid R1
  have HM := hid M1
  clear x0 x1 x2 f0 f1 f2 l0 y0 y1 y2 g0 g1 g2 l1 R1 M1;refine (HGD.out _ HIN1.out.rd).mono ?_
  rintro r w4 ⟨rfl, hb4⟩;have HIN2 := hid (HIN1.out.row (hb4.mono HIN1.out.tch.size))
  have R1 := HR.out.later hb4
  have M1 := HM.out.later hb4
  simp only [Aa, Ad, Ae] at M1
  obtain ⟨x0, x1, x2, f0, f1, f2, l0⟩ := D9 R1
  obtain ⟨y0, y1, y2, g0, g1, g2, l1⟩ := D9 M1
  clear hb4 R1 M1;go_wp2;exact Ai (v := .agg #[.int .u64 0, .int .u64 0, .int .u64 0]) zA8 rfl ⟨rfl, (HIN2.out.row ((((Below.refl w.heap.size w4).setCell (p := ⟨w.heap.size, 0, none⟩) zM (.int .u64 0)).setCell (p := ⟨w.heap.size, 1, none⟩) zM (.int .u64 0)).setCell (p := ⟨w.heap.size, 2, none⟩) zM (.int .u64 0))).to⟩
theorem Rs.Gi {B : List UInt8} {s : Rs} {m : Int} (h : s.ok B.length) : (s.many B m).1.ok B.length := by
 have h2 := Rs.EE (B := B) h (m := m)
 unfold Rs.many;dsimp only;split
 ·exact Rs.BS h2 zD
 ·exact h2
theorem Rs.Gj {B : List UInt8} {s : Rs} {m : Int} : (s.many B m).2 ≤ m.toNat := Rs.FK
theorem Jl (w : World) {g : Nat} {B : List UInt8} {a : Option Addr} {s : Rs} (h : AK w g B a s) (hB : B.length ≤ 1000000000) (m : Int) (hm : -9223372036854775808 ≤ m ∧ m ≤ 9223372036854775807) :
  Calls Tryz.prog 256 #[.pointer (some ⟨g, 0, none⟩), .int .i64 m] w fun r w' => r = .returned (.int .i64 ((s.many B m).2 : Int)) ∧ Av w g B a (s.many B m).1 w' := by
 have HAT := hid (BI w h)
 have HVI := hid (Dt w h zD m hm)
 have HIN := hid (Cy.refl h)
 clear h;unfold Rs.many;generalize s.int B m = R at *
 obtain ⟨s1, n⟩ := R
 dsimp only at *;by_cases hn : n = 0
 ·rw [Ak hn]
  subst hn;go_enter Tryz.func256, Tryz.ntmps256
  go_wp2_with fail;refine HAT.out.mono ?_
  rintro r w1 ⟨rfl, rfl⟩;go_wp2_with fail;refine HVI.out.mono ?_
  rintro r w2 ⟨rfl, hst⟩;have HIN2 := hid (HIN.out.step hst)
  clear hst;go_wp2_with fail;refine (Bf w2 HIN2.out.rd 3 (s.p : Int) zD).mono ?_
  rintro r w3 ⟨rfl, hst⟩;have HE := hid (HIN2.out.step hst).to
  clear hst;go_wp2;go_ret;exact ⟨rfl, HE.out⟩
 ·rw [An hn]
  have d0 : ((n : Int) == 0) = false := beq_eq_false_iff_ne.2 zD
  go_enter Tryz.func256, Tryz.ntmps256
  go_wp2_with fail;refine HAT.out.mono ?_
  rintro r w1 ⟨rfl, rfl⟩;go_wp2_with fail;refine HVI.out.mono ?_
  rintro r w2 ⟨rfl, hst⟩;have HIN2 := hid (HIN.out.step hst)
  clear hst;have HE := hid HIN2.out.to
  go_wp2;go_ret;exact ⟨rfl, HE.out⟩
theorem Rs.GV {B : List UInt8} {s : Rs} {m : Int} (h : (s.many B m).1.k = 0) : 1 ≤ (s.many B m).2 := by
 unfold Rs.many at *;dsimp only at *;split at h
 ·exact absurd h (Rs.Be zD)
 ·omega
theorem Rs.Fx {B : List UInt8} {s : Rs} {out : List Int} (h : s.k ≠ 0) : ∀ n, (Rs.DC B n s out).1.k ≠ 0
 | 0 => h
 | n + 1 => by
  unfold Rs.DC;rw [Rs.C5 h, An h]
  exact h
theorem Rs.Is {B : List UInt8} : ∀ (n : Nat) (s : Rs) (out : List Int), (Rs.DC B n s out).1.k = 0 → (Rs.DC B n s out).2.length = n + out.length
 | 0, s, out, _ => by simp [Rs.DC]
 | n + 1, s, out, h => by
  unfold Rs.DC at h ⊢;split at h
  ·rename_i h1
   rw [Ak h1]
   split at h
   ·exact absurd h (Rs.Be zD)
   ·rename_i h2
    rw [An h2]
    rw [Rs.Is n _ _ h]
    simp
    omega
  ·rename_i h1
   exact absurd h h1
theorem Kd (w : World) {g : Nat} {B : List UInt8} {a : Option Addr} {s : Rs} (h : AK w g B a s) (hB : B.length ≤ 1000000000) (O : List (List Int)) (ao : Option Addr) (no co : Nat) (ho : Dw.r (fun q => q < w.heap.size ∧ q ≠ g) w [.slice ao no co] O) :
  Calls Tryz.prog 257 #[.pointer (some ⟨g, 0, none⟩), .slice ao no co] w fun r w' => ∃ v, r = .returned v ∧ AQ.r (fun q => w.heap.size ≤ q ∧ q < w'.heap.size) w' [v] (s.DX B O).2 ∧ Av w g B a (s.DX B O).1 w' := by
 have hlt := h.blk.lt
 have HIN := hid (Cy.refl h)
 have HMN := hid (Jl w h hB 8 zD)
 have hnl := Rs.Gj (B := B) (s := s) (m := 8)
 have hnp := Rs.GV (B := B) (s := s) (m := 8)
 have HO := hid ho
 clear h ho;unfold Rs.DX;dsimp only;generalize s.many B 8 = R at *
 obtain ⟨s1, n⟩ := R
 dsimp only at *;have HZR := hid (fun (W : World) (hW : AK W g B a s1) => MO W hW hB n zD)
 have hbd := fun hk => Rs.Fx (B := B) (s := s1) (out := []) hk n
 have hrl := Rs.Is (B := B) n s1 []
 generalize Rs.DC B n s1 [] = R at *
 obtain ⟨s2, L⟩ := R
 dsimp only at *;by_cases hk : s2.k = 0
 ·rw [Ak hk]
  have HK : decide (s2.k = 0) = true := Ac hk
  have hk1 : s1.k = 0 := AS fun hh => hbd hh hk
  have hL := hrl hk
  simp only [Br, BR] at hL
  have hL1 : 1 ≤ L.length := by have := hnp hk1; omega
  obtain ⟨m, hm⟩ : ∃ m, L.length = m + 1 := ⟨L.length - 1, zD⟩
  have hla := IA L hL1
  have HLAST : Hid (∀ hh : m < L.length, L[m] = L.getLastD 0) := hid (fun hh => by rw [hla]; congr 1; omega)
  have j1 : (L.length : Int) - 1 = (m : Int) := zD
  have j2 : (0 : Int) ≤ (L.length : Int) - 1 := zD
  have j3 : (m : Int) < (L.length : Int) := zD
  generalize L.getLastD 0 = q at *
  have HM := hid hm
  clear hbd hrl hnp hk hk1 hla hL hm;by_cases hq : 4294967295 < q
  ·rw [Ak hq]
   have d1 : decide (4294967295 < q) = true := Ac hq
   go_enter Tryz.func257, Tryz.ntmps257
   go_wp2_with fail;refine HMN.out.mono ?_
   rintro r w1 ⟨rfl, hst⟩;have HIN1 := hid (HIN.out.step hst)
   clear hst;go_wp2_with fail;refine (BI w1 HIN1.out.rd).mono ?_
   rintro r w2 ⟨rfl, rfl⟩;go_wp2_with fail;refine (HZR.out _ HIN1.out.rd).mono ?_
   rintro r w3 ⟨v, rfl, hv, hst⟩;obtain ⟨av, cv, e, hv2, hlen⟩ := AE hv
   cases e;have HIN3 := hid (HIN1.out.step hst)
   have HV := hid (AQ.mono hv fun q hq => (⟨A5 HIN1.out.tch.size hq.1, hq.2⟩ : w.heap.size ≤ q ∧ q < w3.heap.size))
   have hg := Ax w3 HIN3.out.rd
   rw [HK] at hg
   have HG := hid hg
   clear hst hv hv2 hg;go_wp2_with fail;refine HG.out.mono ?_
   rintro r w4 ⟨rfl, hb4⟩;have HIN4 := hid (HIN3.out.step (Av.later HIN3.out.rd hb4))
   have HV4 := hid (AQ.mono (AQ.keep HV.out fun q hq => hb4.block q hq.2) fun q hq => (⟨hq.1, Ah hq.2 hb4.size⟩ : w.heap.size ≤ q ∧ q < w4.heap.size))
   clear hb4;obtain ⟨b, o, rfl, _, hc, _⟩ := Cn HV4.out (i := m) (by have := HM.out; omega)
   rw [HLAST.out] at hc
   go_wp2_with fail;refine (Bf w4 HIN4.out.rd 3 (s1.p : Int) zD).mono ?_
   rintro r w5 ⟨rfl, hst⟩;have HV5 := hid (AQ.mono (AQ.keep HV4.out fun q hq => hst.2.block q hq.2 zU) fun q hq => (⟨hq.1, Ah hq.2 hst.2.size⟩ : w.heap.size ≤ q ∧ q < w5.heap.size))
   have HIN5 := hid (HIN4.out.step hst)
   clear hst;go_wp2;go_ret;exact ⟨_, rfl, HV5.out, HIN5.out.to⟩
  ·rw [An hq]
   have d1 : decide (4294967295 < q) = false := Ab hq
   by_cases hap : BW L O = true
   ·rw [Ak hap]
    have HAP := hap
    clear hap;go_enter Tryz.func257, Tryz.ntmps257
    go_wp2_with fail;refine HMN.out.mono ?_
    rintro r w1 ⟨rfl, hst⟩;have HIN1 := hid (HIN.out.step hst)
    clear hst;go_wp2_with fail;refine (BI w1 HIN1.out.rd).mono ?_
    rintro r w2 ⟨rfl, rfl⟩;go_wp2_with fail;refine (HZR.out _ HIN1.out.rd).mono ?_
    rintro r w3 ⟨v, rfl, hv, hst⟩;obtain ⟨av, cv, e, hv2, hlen⟩ := AE hv
    cases e;have HIN3 := hid (HIN1.out.step hst)
    have HV := hid (AQ.mono hv fun q hq => (⟨A5 HIN1.out.tch.size hq.1, hq.2⟩ : w.heap.size ≤ q ∧ q < w3.heap.size))
    have hg := Ax w3 HIN3.out.rd
    rw [HK] at hg
    have HG := hid hg
    clear hst hv hv2 hg;go_wp2_with fail;refine HG.out.mono ?_
    rintro r w4 ⟨rfl, hb4⟩;have HIN4 := hid (HIN3.out.step (Av.later HIN3.out.rd hb4))
    have HV4 := hid (AQ.mono (AQ.keep HV.out fun q hq => hb4.block q hq.2) fun q hq => (⟨hq.1, Ah hq.2 hb4.size⟩ : w.heap.size ≤ q ∧ q < w4.heap.size))
    clear hb4;obtain ⟨b, o, rfl, _, hc, _⟩ := Cn HV4.out (i := m) (by have := HM.out; omega)
    rw [HLAST.out] at hc
    go_wp2_with fail;refine (Dg L O (some ⟨b, o, none⟩) L.length cv ao no co w4 (AQ.mono HV4.out fun q hq => hq.2) (Dw.mono (Dw.keep HO.out fun q hq => HIN4.out.tch.block q hq.1 hq.2) fun q hq => Ah hq.1 HIN4.out.tch.size)).mono ?_
    rw [HAP]
    rintro r w5 ⟨rfl, hb5⟩;have hst := Av.later HIN4.out.rd hb5
    have HV5 := hid (AQ.mono (AQ.keep HV4.out fun q hq => hst.2.block q hq.2 zU) fun q hq => (⟨hq.1, Ah hq.2 hst.2.size⟩ : w.heap.size ≤ q ∧ q < w5.heap.size))
    have HIN5 := hid (HIN4.out.step hst)
    clear hst;go_wp2;go_ret;exact ⟨_, rfl, HV5.out, HIN5.out.to⟩
   ·rw [An hap]
    have HAP := Bool.eq_false_iff.2 hap
    clear hap;go_enter Tryz.func257, Tryz.ntmps257
    go_wp2_with fail;refine HMN.out.mono ?_
    rintro r w1 ⟨rfl, hst⟩;have HIN1 := hid (HIN.out.step hst)
    clear hst;go_wp2_with fail;refine (BI w1 HIN1.out.rd).mono ?_
    rintro r w2 ⟨rfl, rfl⟩;go_wp2_with fail;refine (HZR.out _ HIN1.out.rd).mono ?_
    rintro r w3 ⟨v, rfl, hv, hst⟩;obtain ⟨av, cv, e, hv2, hlen⟩ := AE hv
    cases e;have HIN3 := hid (HIN1.out.step hst)
    have HV := hid (AQ.mono hv fun q hq => (⟨A5 HIN1.out.tch.size hq.1, hq.2⟩ : w.heap.size ≤ q ∧ q < w3.heap.size))
    have hg := Ax w3 HIN3.out.rd
    rw [HK] at hg
    have HG := hid hg
    clear hst hv hv2 hg;go_wp2_with fail;refine HG.out.mono ?_
    rintro r w4 ⟨rfl, hb4⟩;have HIN4 := hid (HIN3.out.step (Av.later HIN3.out.rd hb4))
    have HV4 := hid (AQ.mono (AQ.keep HV.out fun q hq => hb4.block q hq.2) fun q hq => (⟨hq.1, Ah hq.2 hb4.size⟩ : w.heap.size ≤ q ∧ q < w4.heap.size))
    clear hb4;obtain ⟨b, o, rfl, _, hc, _⟩ := Cn HV4.out (i := m) (by have := HM.out; omega)
    rw [HLAST.out] at hc
    go_wp2_with fail;refine (Dg L O (some ⟨b, o, none⟩) L.length cv ao no co w4 (AQ.mono HV4.out fun q hq => hq.2) (Dw.mono (Dw.keep HO.out fun q hq => HIN4.out.tch.block q hq.1 hq.2) fun q hq => Ah hq.1 HIN4.out.tch.size)).mono ?_
    rw [HAP]
    rintro r w5 ⟨rfl, hb5⟩;have hst := Av.later HIN4.out.rd hb5
    have HV5 := hid (AQ.mono (AQ.keep HV4.out fun q hq => hst.2.block q hq.2 zU) fun q hq => (⟨hq.1, Ah hq.2 hst.2.size⟩ : w.heap.size ≤ q ∧ q < w5.heap.size))
    have HIN5 := hid (HIN4.out.step hst)
    clear hst;go_wp2_with fail;refine (Bf w5 HIN5.out.rd 13 (s1.p : Int) zD).mono ?_
    rintro r w6 ⟨rfl, hst⟩;have HV6 := hid (AQ.mono (AQ.keep HV5.out fun q hq => hst.2.block q hq.2 zU) fun q hq => (⟨hq.1, Ah hq.2 hst.2.size⟩ : w.heap.size ≤ q ∧ q < w6.heap.size))
    have HIN6 := hid (HIN5.out.step hst)
    clear hst;go_wp2;go_ret;exact ⟨_, rfl, HV6.out, HIN6.out.to⟩
 ·rw [An hk]
  have HK : decide (s2.k = 0) = false := Ab hk
  clear hbd hrl hnp hk;go_enter Tryz.func257, Tryz.ntmps257
  go_wp2_with fail;refine HMN.out.mono ?_
  rintro r w1 ⟨rfl, hst⟩;have HIN1 := hid (HIN.out.step hst)
  clear hst;go_wp2_with fail;refine (BI w1 HIN1.out.rd).mono ?_
  rintro r w2 ⟨rfl, rfl⟩;go_wp2_with fail;refine (HZR.out _ HIN1.out.rd).mono ?_
  rintro r w3 ⟨v, rfl, hv, hst⟩;obtain ⟨av, cv, e, hv2, hlen⟩ := AE hv
  cases e;have HIN3 := hid (HIN1.out.step hst)
  have HV := hid (AQ.mono hv fun q hq => (⟨A5 HIN1.out.tch.size hq.1, hq.2⟩ : w.heap.size ≤ q ∧ q < w3.heap.size))
  have hg := Ax w3 HIN3.out.rd
  rw [HK] at hg
  have HG := hid hg
  clear hst hv hv2 hg;go_wp2_with fail;refine HG.out.mono ?_
  rintro r w4 ⟨rfl, hb4⟩;have HIN4 := hid (HIN3.out.step (Av.later HIN3.out.rd hb4))
  have HV4 := hid (AQ.mono (AQ.keep HV.out fun q hq => hb4.block q hq.2) fun q hq => (⟨hq.1, Ah hq.2 hb4.size⟩ : w.heap.size ≤ q ∧ q < w4.heap.size))
  clear hb4;go_wp2;go_ret;exact ⟨_, rfl, A3 (xs := []) rfl (Al _) (Aj _) (.inl rfl), HIN4.out.to⟩
theorem Rs.Mh {B : List UInt8} : ∀ (n : Nat) (s : Rs) (out : List Int), s.ok B.length → (Rs.DC B n s out).1.ok B.length
 | 0, s, out, h => h
 | n + 1, s, out, h => by
  have h2 := Rs.Cz (B := B) h
  unfold Rs.DC;split
  ·split
   ·exact Rs.BS h2 zD
   ·exact Rs.Mh n _ _ h2
  ·exact h2
theorem Rs.RL {B : List UInt8} {s : Rs} {O : List (List Int)} (h : s.ok B.length) : (s.DX B O).1.ok B.length := by
 have h2 := Rs.Mh (B := B) (s.many B 8).2 (s.many B 8).1 [] (Rs.Gi h)
 unfold Rs.DX;dsimp only;split
 ·split
  ·exact Rs.BS h2 zD
  ·split
   ·exact h2
   ·exact Rs.BS h2 zD
 ·exact h2
theorem Rs.PM {B : List UInt8} : ∀ (n : Nat) (s : Rs) (out : List (List Int)), s.ok B.length → (Rs.Du B n s out).1.ok B.length
 | 0, s, out, h => h
 | n + 1, s, out, h => by
  have h2 := Rs.RL (B := B) (O := out) h
  unfold Rs.Du;split
  ·exact Rs.PM n _ _ h2
  ·exact h2
theorem Rs.Md {B : List UInt8} {s : Rs} {lo : Int} (h : s.ok B.length) : (s.span B lo).1.ok B.length := by
 unfold Rs.span;dsimp only;have h0 : (if 4611686018427387904 < lo then s.fail 3 s.p else s).ok B.length := by
  split
  ·exact Rs.BS h zD
  ·exact h
 generalize (if 4611686018427387904 < lo then s.fail 3 s.p else s) = s0 at *
 split
 ·exact Rs.BS (Rs.Cz h0) zD
 ·exact Rs.Cz h0
theorem Rs.Lh {B : List UInt8} {s : Rs} {lo : Int} (h : s.ok B.length) : (s.Bi B lo).1.ok B.length := by
 have h2 := Rs.PM (B := B) ((s.span B lo).1.many B 8).2 _ [] (Rs.Gi (m := 8) (Rs.Md (lo := lo) h))
 unfold Rs.Bi;dsimp only;split <;> exact h2
theorem Rs.Ka {B : List UInt8} : ∀ (n : Nat) (s : Rs) (lo : Int) (out : List Bk), s.ok B.length → (Rs.Bt B n s lo out).1.ok B.length
 | 0, s, lo, out, h => h
 | n + 1, s, lo, out, h => by
  have h2 := Rs.Lh (B := B) (lo := lo) h
  unfold Rs.Bt;split
  ·exact Rs.Ka n _ _ _ h2
  ·exact h2
theorem Rs.Td {B : List UInt8} {s : Rs} (h : s.ok B.length) : (s.C3 B).1.ok B.length := by
 have h2 := Rs.Ka (B := B) ((s.ep B).1.many B 64).2 _ 0 [] (Rs.Gi (m := 64) (Rs.I8 h))
 unfold Rs.C3;dsimp only;split
 ·split
  ·exact h2
  ·exact h2
 ·split
  ·exact Rs.BS h2 zD
  ·exact Rs.BS h2 zD
theorem Rs.Lf {B : List UInt8} {s : Rs} (h : s.k ≠ 0) : s.tl B = (s, 0) := by
 unfold Rs.tl;rw [Rs.C5 h, An h]
theorem Rs.KH {B : List UInt8} {s : Rs} (h : s.k ≠ 0) : s.ep B = (s, 0) := by
 unfold Rs.ep;rw [Rs.C5 h, An h]
theorem Rs.Gh {B : List UInt8} {s : Rs} {m : Nat} (h : s.k ≠ 0) : s.most B m = (s, 0) := by
 unfold Rs.most;rw [Rs.C5 h]
 dsimp only;rw [Rs.Bw h]
 split <;> (try split) <;> rfl
theorem Rs.FA {B : List UInt8} {s : Rs} {m : Int} (h : s.k ≠ 0) : s.int B m = (s, 0) := by
 unfold Rs.int;split
 ·rw [Rs.Gh h]
 ·rw [Rs.C5 h]
  dsimp only;first | rfl | (rw [Rs.Bw h])
theorem Rs.Jn {B : List UInt8} {s : Rs} (h : s.k ≠ 0) : s.seal_ B = (s, CI) := by
 unfold Rs.seal_;rw [Rs.KH h]
 dsimp only;rw [Rs.Gh h]
 dsimp only;rw [Rs.Lf h]
 dsimp only;rw [An h]
theorem Rs.Ew {B : List UInt8} {s : Rs} {m : Int} (h : s.k ≠ 0) : s.many B m = (s, 0) := by
 unfold Rs.many;rw [Rs.FA h]
 dsimp only;rw [Ak rfl, Rs.Bw h]
theorem Rs.Oo {B : List UInt8} {s : Rs} {O : List (List Int)} (h : s.k ≠ 0) : s.DX B O = (s, []) := by
 unfold Rs.DX;rw [Rs.Ew h]
 exact An h
theorem Rs.MX {B : List UInt8} {s : Rs} {lo : Int} (h : s.k ≠ 0) : s.span B lo = (s, 0) := by
 unfold Rs.span;dsimp only;rw [show (if 4611686018427387904 < lo then s.fail 3 s.p else s) = s by rw [Rs.Bw h]; split <;> rfl, Rs.C5 h]
 dsimp only;rw [Rs.Bw h]
 split <;> rfl
theorem Rs.FI {B : List UInt8} {s : Rs} {lo : Int} (h : s.k ≠ 0) : s.Bi B lo = (s, FX) := by
 unfold Rs.Bi;rw [Rs.MX h]
 dsimp only;rw [Rs.Ew h]
 exact An h
theorem Rs.Jt {B : List UInt8} {s : Rs} (h : s.k ≠ 0) : s.C3 B = (s, CX) := by
 unfold Rs.C3;rw [Rs.KH h]
 dsimp only;rw [Rs.Ew h]
 have e : (if (Rs.Bt B 0 s 0 []).2.1 = 4611686018427387904 then (Rs.Bt B 0 s 0 []).1 else (Rs.Bt B 0 s 0 []).1.fail 3 (Rs.Bt B 0 s 0 []).1.p) = s := (An (show ¬ ((0 : Int) = 4611686018427387904) by omega)).trans (Rs.Bw h)
 rw [e]
 exact An h
theorem Rs.Uc {B : List UInt8} {s : Rs} {O : List (List Int)} (h : (s.DX B O).1.k = 0) : s.k = 0 :=
 AS fun hh => by rw [Rs.Oo hh] at h; exact hh h
theorem Rs.Ku {B : List UInt8} {s : Rs} {m : Int} (h : (s.many B m).1.k = 0) : s.k = 0 :=
 AS fun hh => by rw [Rs.Ew hh] at h; exact hh h
theorem Rs.MV {B : List UInt8} {s : Rs} {lo : Int} (h : (s.Bi B lo).1.k = 0) : s.k = 0 :=
 AS fun hh => by rw [Rs.FI hh] at h; exact hh h
theorem Rs.Ta {B : List UInt8} {s : Rs} {O : List (List Int)} (h : (s.DX B O).1.k = 0) : (s.DX B O).2.length ≤ 8 := by
 unfold Rs.DX at h ⊢;dsimp only at h ⊢;have hl := Rs.Is (B := B) (s.many B 8).2 (s.many B 8).1 []
 have hm : (s.many B 8).2 ≤ 8 := Rs.Gj (m := 8)
 simp only [Br, BR] at hl
 generalize Rs.DC B (s.many B 8).2 (s.many B 8).1 [] = f at *
 split at h
 ·rename_i h1
  have := hl h1
  rw [Ak h1]
  split
  ·dsimp only; omega
  ·split
   ·omega
   ·dsimp only; omega
 ·rename_i h1
  exact absurd h h1
theorem Lr : ∀ (l : List Int) (x : Int), A1 l = true → (l ≠ [] → l.getLastD 0 < x) → A1 (l ++ [x]) = true
 | [], x, _, _ => rfl
 | [y], x, _, h => by
  have := h zO
  simp [A1] at this ⊢
  exact this
 | y :: z :: l, x, h, hx => by
  simp only [A1, As, Aw] at h
  have hx2 := hx zO
  have := Lr (z :: l) x h.2 (fun _ => by simpa using hx2)
  simp only [Ez, A1, As, Aw] at this ⊢
  exact ⟨h.1, this⟩
theorem Rs.Hu {B : List UInt8} : ∀ (n : Nat) (s : Rs) (out : List Int), A1 out = true → (Rs.DC B n s out).1.k = 0 → A1 (Rs.DC B n s out).2 = true
 | 0, s, out, h, _ => h
 | n + 1, s, out, h, hk => by
  unfold Rs.DC at hk ⊢;split at hk
  ·rename_i h1
   rw [Ak h1]
   split at hk
   ·exact absurd hk (Rs.Be zD)
   ·rename_i h2
    rw [An h2]
    refine Rs.Hu n _ _ (Lr _ _ h fun hne => ?_) hk
    rw [An hne]
    omega
  ·rename_i h1
   exact absurd hk h1
theorem Rs.TM {B : List UInt8} {s : Rs} {O : List (List Int)} (h : (s.DX B O).1.k = 0) : CH (s.DX B O).2 = true ∧ BW (s.DX B O).2 O = true := by
 have hle := Rs.Ta h
 unfold Rs.DX at h hle ⊢;dsimp only at h hle ⊢;have hl := Rs.Is (B := B) (s.many B 8).2 (s.many B 8).1 []
 have hr := Rs.Hu (B := B) (s.many B 8).2 (s.many B 8).1 [] rfl
 have hb := fun hk => Rs.Fx (B := B) (s := (s.many B 8).1) (out := []) hk (s.many B 8).2
 have hp := Rs.GV (B := B) (s := s) (m := 8)
 simp only [Br, BR] at hl
 generalize Rs.DC B (s.many B 8).2 (s.many B 8).1 [] = f at *
 split at h
 ·rename_i h1
  rw [Ak h1] at hle ⊢
  have hk1 : (s.many B 8).1.k = 0 := AS fun hh => hb hh h1
  have := hl h1
  have := hp hk1
  split at h
  ·exact absurd h (Rs.Be zD)
  ·rename_i h2
   rw [An h2] at hle ⊢
   split at h
   ·rename_i h3
    rw [Ak h3] at hle ⊢
    refine ⟨?_, h3⟩
    unfold CH;rw [hr h1, Ac (show 1 ≤ f.2.length ∧ f.2.length ≤ 8 from ⟨zD, hle⟩), Ac zD]
    rfl
   ·exact absurd h (Rs.Be zD)
 ·rename_i h1
  exact absurd h h1
theorem RM {L : List (List Int)} {x : List Int} {i : Nat} (h : i < L.length) : E0 (L ++ [x]) i = E0 L i := by
 unfold E0;rw [show (L ++ [x]).getD i [] = L.getD i [] by simp [List.getD_eq_getElem?_getD, C8 h], List.take_append_of_le_length zD]
theorem Lk {L : List (List Int)} {x : List Int} : ∀ n, n ≤ L.length → Bd (L ++ [x]) n = Bd L n
 | 0, _ => rfl
 | n + 1, h => by
  unfold Bd;rw [Lk n zD, RM zD]
theorem Om {L : List (List Int)} {x : List Int} (h : Bd L L.length = true) (hn : CH x = true) (ha : BW x L = true) : Bd (L ++ [x]) (L ++ [x]).length = true := by
 rw [Am]
 show (Bd (L ++ [x]) L.length && E0 (L ++ [x]) L.length) = true
 have e : (L ++ [x]).getD L.length [] = x := by simp [List.getD_eq_getElem?_getD]
 rw [Lk _ (Al _), h]
 unfold E0;rw [e, List.take_left, hn, ha]
 rfl
theorem Rs.Mg {B : List UInt8} : ∀ (n : Nat) (s : Rs) (out : List (List Int)), Bd out out.length = true → (Rs.Du B n s out).1.k = 0 → Bd (Rs.Du B n s out).2 (Rs.Du B n s out).2.length = true ∧ (Rs.Du B n s out).2.length = n + out.length
 | 0, s, out, h, _ => ⟨h, by simp [Rs.Du]⟩
 | n + 1, s, out, h, hk => by
  unfold Rs.Du at hk ⊢;split at hk
  ·rename_i h1
   rw [Ak h1]
   obtain ⟨h2, h3⟩ := Rs.TM h1
   obtain ⟨h4, h5⟩ := Rs.Mg n _ _ (Om h h2 h3) hk
   refine ⟨h4, ?_⟩
   rw [h5, Am]
   simp
   omega
  ·rename_i h1
   exact absurd hk h1
theorem Rs.Ol {B : List UInt8} {s : Rs} (n : Nat) {out : List (List Int)} (h : (Rs.Du B n s out).1.k = 0) : s.k = 0 := by
 cases n with
 | zero => exact h
 | succ n =>
  unfold Rs.Du at h;split at h
  ·rename_i h1
   exact Rs.Uc h1
  ·rename_i h1
   exact absurd h h1
theorem Rs.PI {B : List UInt8} {s : Rs} {lo : Int} (h : (s.span B lo).1.k = 0) : lo ≤ 4611686018427387904 ∧ lo + (s.span B lo).2 + 1 ≤ 4611686018427387904 := by
 unfold Rs.span at h ⊢;dsimp only at h ⊢;by_cases hlo : 4611686018427387904 < lo
 ·rw [Ak hlo] at h
  have hb : (s.fail 3 s.p).k ≠ 0 := Rs.Be zD
  rw [Rs.C5 hb] at h
  dsimp only at h;rw [Rs.Bw hb] at h
  split at h <;> exact absurd h hb
 ·rw [An hlo] at h ⊢
  split at h
  ·exact absurd h (Rs.Be zD)
  ·rename_i h2
   constructor
   ·omega
   ·omega
theorem Rs.Li {B : List UInt8} {s : Rs} {lo : Int} (h : (s.Bi B lo).1.k = 0) : Bb (s.Bi B lo).2 = true ∧ (s.Bi B lo).2.lo = lo := by
 unfold Rs.Bi at h ⊢;dsimp only at h ⊢;have h1 := Rs.Mg (B := B) ((s.span B lo).1.many B 8).2 ((s.span B lo).1.many B 8).1 [] rfl
 have h2 := Rs.Ol (B := B) (s := ((s.span B lo).1.many B 8).1) ((s.span B lo).1.many B 8).2 (out := [])
 have h3 := Rs.Ku (B := B) (s := (s.span B lo).1) (m := 8)
 have h4 := Rs.GV (B := B) (s := (s.span B lo).1) (m := 8)
 have h5 : ((s.span B lo).1.many B 8).2 ≤ 8 := Rs.Gj (m := 8)
 have h6 := Rs.PI (B := B) (s := s) (lo := lo)
 generalize Rs.Du B ((s.span B lo).1.many B 8).2 ((s.span B lo).1.many B 8).1 [] = u at *
 split at h
 ·rename_i hk
  rw [Ak hk]
  obtain ⟨a1, a2⟩ := h1 hk
  have hk2 := h2 hk
  obtain ⟨a3, a4⟩ := h6 (h3 hk2)
  have a5 := h4 hk2
  simp only [Br, BR] at a2
  refine ⟨?_, rfl⟩
  unfold Bb;dsimp only;rw [a1, Ac zD]
  rfl
 ·rename_i hk
  exact absurd h hk
theorem Rs.Kc {B : List UInt8} : ∀ (n : Nat) (s : Rs) (lo : Int) (out : List Bk), (Rs.Bt B n s lo out).1.k = 0 → ∃ t, (Rs.Bt B n s lo out).2.2 = out ++ t ∧ t.length = n ∧ ((Rs.Bt B n s lo out).2.1 = 4611686018427387904 → CY lo t = true)
 | 0, s, lo, out, _ => ⟨[], by simp [Rs.Bt], rfl, fun h => Ac h⟩
 | n + 1, s, lo, out, hk => by
  unfold Rs.Bt at hk ⊢;split at hk
  ·rename_i h1
   rw [Ak h1]
   obtain ⟨h2, h3⟩ := Rs.Li h1
   obtain ⟨t, h4, h5, h6⟩ := Rs.Kc n _ _ _ hk
   refine ⟨_ :: t, by rw [h4, Au]; rfl, by rw [A7, h5], fun he => ?_⟩
   unfold CY;rw [h6 he, h2, Ac h3]
   rfl
  ·rename_i h1
   exact absurd hk h1
theorem Rs.Lg {B : List UInt8} {s : Rs} (n : Nat) {lo : Int} {out : List Bk} (h : (Rs.Bt B n s lo out).1.k = 0) : s.k = 0 := by
 cases n with
 | zero => exact h
 | succ n =>
  unfold Rs.Bt at h;split at h
  ·rename_i h1
   exact Rs.MV h1
  ·rename_i h1
   exact absurd h h1
theorem Rs.Uh {B : List UInt8} {s : Rs} (h : (s.ep B).1.k = 0) : epR ((s.ep B).2 : Int) = true := by
 unfold Rs.ep at h ⊢;split at h
 ·rename_i h1
  rw [Ak h1]
  split at h
  ·rename_i h2
   rw [Ak h2]
   exact h2
  ·exact absurd h (Rs.Be zD)
 ·rename_i h1
  exact absurd h h1
theorem Rs.T9 {B : List UInt8} {s : Rs} (h : (s.tl B).1.k = 0) : ((s.tl B).2 : Int) ≤ 4611686018427387904 := by
 unfold Rs.tl at h ⊢;split at h
 ·rename_i h1
  rw [Ak h1]
  split at h
  ·rename_i h2
   rw [Ak h2]
   exact B6 h2
  ·exact absurd h (Rs.Be zD)
 ·rename_i h1
  exact absurd h h1
theorem Rs.Up {B : List UInt8} {s : Rs} (h : (s.tl B).1.k = 0) : s.k = 0 :=
 AS fun hh => by rw [Rs.Lf hh] at h; exact hh h
theorem Rs.TW {B : List UInt8} {s : Rs} {m : Nat} (h : (s.most B m).1.k = 0) : s.k = 0 :=
 AS fun hh => by rw [Rs.Gh hh] at h; exact hh h
theorem Rs.Te {B : List UInt8} {s : Rs} (h : (s.C3 B).1.k = 0) : Cc (s.C3 B).2 = true := by
 unfold Rs.C3 at h ⊢;dsimp only at h ⊢;have h1 := Rs.Kc (B := B) ((s.ep B).1.many B 64).2 ((s.ep B).1.many B 64).1 0 []
 have h2 := Rs.Lg (B := B) (s := ((s.ep B).1.many B 64).1) ((s.ep B).1.many B 64).2 (lo := 0) (out := [])
 have h3 := Rs.Ku (B := B) (s := (s.ep B).1) (m := 64)
 have h4 := Rs.GV (B := B) (s := (s.ep B).1) (m := 64)
 have h5 : ((s.ep B).1.many B 64).2 ≤ 64 := Rs.Gj (m := 64)
 have h6 := Rs.Uh (B := B) (s := s)
 generalize Rs.Bt B ((s.ep B).1.many B 64).2 ((s.ep B).1.many B 64).1 0 [] = u at *
 by_cases hm : u.2.1 = 4611686018427387904
 ·rw [Ak hm] at h ⊢
  split at h
  ·rename_i hk
   rw [Ak hk]
   obtain ⟨t, a1, a2, a3⟩ := h1 hk
   have hk2 := h2 hk
   have a5 := h4 hk2
   unfold Cc;dsimp only;rw [h6 (h3 hk2), a1, A8, a3 hm, Ac zD]
   rfl
  ·rename_i hk
   exact absurd h hk
 ·rw [An hm] at h ⊢
  split at h
  ·exact absurd h (Rs.Be zD)
  ·exact absurd h (Rs.Be zD)
open Go.RowKit Go.Bs
theorem SE : (Tryz.prog.info? 23).map (fun i => (i.zero, i.size, i.bytes)) = some (some (.slice none 0 0), 1, 24) := zH
theorem Pa : (Tryz.prog.info? 155).map (fun i => (i.zero, i.size, i.bytes)) = some (some (.agg #[.int .u64 0, .int .u64 0, .slice none 0 0]), 3, 40) := zH
end Go.Proofs.YtlbffbkbkajciaaGreat
