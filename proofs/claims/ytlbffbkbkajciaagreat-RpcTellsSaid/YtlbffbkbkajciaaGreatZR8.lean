/- Mini: Needed by rpcTells_walk, part 8: texts put together by shake.py; no condition. -/
import Derived.Test.YtlbffbkbkajciaaGreatZR4
import Derived.Test.YtlbffbkbkajciaaGreatZR2
import Derived.Test.YtlbffbkbkajciaaGreatZR7
import Derived.Test.YtlbffbkbkajciaaGreatZR6
import Derived.Test.YtlbffbkbkajciaaGreatZR5
import Derived.Deep.RegionHeld3
import Derived.Test.YtlbffbkbkajciaaGreatZR3
import Derived.Test.YtlbffbkbkajciaaGreatZR1
set_option linter.unusedVariables false
set_option linter.unusedSimpArgs false
set_option maxRecDepth 100000
set_option maxHeartbeats 6400000
namespace Go.Bs
theorem zCj{p:Prop}(h:p:=by rw [hst, hJ.out]; simp only [Av]):p:=h
theorem zCd{p:Prop}(h:p:=by rw [hf.out, hst.out, hg.out, K4]; rfl):p:=h
theorem zBv{p:Prop}(h:p:=by have := hJ.out; rwa [CY (by omega)] at this):p:=h
theorem zBt{p:Prop}(h:p:=by simp [results, Tryz.results194, go_sem, x0, x1, x2, f0, f1, f2, l0]):p:=h
theorem zBs{p:Prop}(h:p:=by rw [hg.out, hsj.out]; simp only [hc', Bool.not_false, Ce]):p:=h
theorem zBn{p:Prop}(h:p:=by rw [Ag]; simp; omega):p:=h
theorem zBa{p:Prop}(h:p:=by rw [hf.out, hst.out, hg.out, hsj.out]; simp only [hc, Bool.not_true, JM]):p:=h
theorem AB:type_of% @List.getElem_cons_zero:=@List.getElem_cons_zero
theorem AJ:type_of% @List.getElem_toArray:=@List.getElem_toArray
theorem Cd:type_of% @wp_region_held_drew:=@wp_region_held_drew
theorem Hw:type_of% @eq_false_of_ne_true:=@eq_false_of_ne_true
theorem JM:type_of% @Bool.false_and:=@Bool.false_and
end Go.Bs
namespace Go.Proofs.YtlbffbkbkajciaaGreat
open Go.RowKit Go.Bs Go.Maps
def DP : Option Int → List Int → List Int
 | _, [] => []
 | p, x :: l => (match p with | none => x | some q => x - q - 1) :: DP (some x) l
def Gg (l : List Int) : List UInt8 := Cu (DP none l)
def D4 (l : List Int) : List UInt8 := Ay l.length ++ Gg l
def Eg (l : List (List Int)) : List UInt8 := (l.map D4).flatten
def CN (s : BD) : List UInt8 := Ay (s.hi - s.lo - 1).toNat ++ Ay s.sets.length ++ Eg s.sets
def Ck (l : List BD) : List UInt8 := (l.map CN).flatten
def DI (p : El) : List UInt8 := Ay p.epoch.toNat ++ Ay p.stripes.length ++ Ck p.stripes
def DH (s : G1) : List UInt8 := Ay s.epoch.toNat ++ Ay s.node.toNat ++ Ay s.tail.toNat
def AV (h : Bool) (b : List UInt8) : List UInt8 := if h then b else []
def EL (m : Msg) : List UInt8 :=
 AV (AK m.kind 1) (Ay m.pos.toNat) ++ AV (AK m.kind 2) (Ay m.count.toNat) ++ AV (AK m.kind 4) [UInt8.ofNat m.state.toNat] ++
 AV (AK m.kind 8) (D4 m.streams) ++ AV (AK m.kind 16) (Cx m.pos m.links) ++ AV (Ca m.kind m.state) (Bp m.data) ++
 AV (AK m.kind 64) (DH m.sea) ++ AV (AK m.kind 128) (DI m.proj)
theorem Fq : ∀ (p : Option Int) (l : List Int), (DP p l).length = l.length
 | _, [] => rfl
 | p, x :: l => by simp only [DP, AQ, Fq _ l]
theorem I9 : ∀ (l : List Int) (p : Option Int) (k : Nat) (h : k < l.length), (DP p l)[k]'(by rw [Fq]; exact h) = if hk : k = 0 then (match p with | none => l[k] | some q => l[k] - q - 1) else l[k] - l[k - 1] - 1
 | [], p, k, h => by simp at h
 | x :: l, p, 0, h => by cases p <;> simp [DP]
 | x :: l, p, k + 1, h => by
  have hk : k < l.length := by simp at h; omega
  have := I9 l (some x) k hk
  rw [dif_neg zC]
  simp only [DP, Az, DR]
  rw [this]
  by_cases h0 : k = 0
  ·subst h0; simp
  ·rw [dif_neg h0]
   obtain ⟨j, rfl⟩ : ∃ j, k = j + 1 := ⟨k - 1, zC⟩
   simp
theorem S6 (l : List Int) : (Gg l).length ≤ 10 * l.length := by
 have := Gb (DP none l)
 rw [Fq] at this
 exact this
theorem Lx (l : List Int) : (D4 l).length ≤ 10 + 10 * l.length := by
 unfold D4;have := S6 l
 have := (AX l.length).1
 rw [Ag]; omega
theorem Lw (l : List (List Int)) (k : Nat) (h : k < l.length) : Eg (l.take (k + 1)) = Eg (l.take k) ++ D4 l[k] := by
 unfold Eg;rw [AU h, CS, Dy]; simp only [D7, List.map_nil, Dx, List.flatten_nil, Gy]
theorem IG (l : List BD) (k : Nat) (h : k < l.length) : Ck (l.take (k + 1)) = Ck (l.take k) ++ CN l[k] := by
 unfold Ck;rw [AU h, CS, Dy]; simp only [D7, List.map_nil, Dx, List.flatten_nil, Gy]
theorem IM {α : Type} (f : α → List UInt8) (l : List α) (k : Nat) : ((l.take k).map f).flatten.length ≤ (l.map f).flatten.length := by
 have : (l.map f).flatten = ((l.take k).map f).flatten ++ ((l.drop k).map f).flatten := by rw [← Dy, ← CS, EC]
 rw [this, Ag]; omega
theorem MZ {α : Type} (f : α → List UInt8) (l : List α) (b : Nat) (h : ∀ x ∈ l, (f x).length ≤ b) : (l.map f).flatten.length ≤ b * l.length := by
 induction l with
 | nil => simp
 | cons x l ih =>
  have h1 := h x zO
  have h2 := ih fun y hy => h y (by simp [hy])
  simp only [D7, Dx, Ag, AQ, Nat.mul_add, DA]
  omega
theorem Lv (L : List (List Int)) : ∀ n i, Bv L n = true → i < n → Fu L i = true
 | 0, i, _, h => by omega
 | n + 1, i, h, hi => by
  simp only [Bv, Ao] at h
  by_cases hn : i = n
  ·rw [hn]; exact h.2
  ·exact Lv L n i h.1 zC
theorem Hj {α : Type} (l : List α) (i : Nat) (d : α) (h : i < l.length) : l.getD i d = l[i] := by
 rw [G5, AR h]; rfl
theorem JT {L : List (List Int)} (h : Bv L L.length = true) (i : Nat) (hi : i < L.length) : CT L[i] = true := by
 have := Lv L _ i h hi
 simp only [Fu, Ao, Hj L i [] hi] at this
 exact this.1
theorem Lq {s : BD} (h : Bm s = true) : (CN s).length ≤ 740 := by
 simp only [Bm, Ao, Ar] at h
 have h1 := (AX (s.hi - s.lo - 1).toNat).1
 have h2 := (AX s.sets.length).1
 have h3 := MZ D4 s.sets 90 fun x hx => by
  obtain ⟨i, hi, rfl⟩ := Hx hx
  have := JT h.2 i hi
  simp only [CT, Ao, Ar] at this
  have := Lx s.sets[i]
  omega
 unfold CN Eg;simp only [Ag]
 omega
theorem IB : ∀ (l : List BD) (p : Int), Dp p l = true → ∀ s ∈ l, Bm s = true
 | [], p, _, s, hs => by simp at hs
 | x :: l, p, h, s, hs => by
  simp only [Dp, Ao] at h
  rcases List.mem_cons.1 hs with rfl | hs
  ·exact h.2.1
  ·exact IB l _ h.2.2 s hs
theorem LJ {p : El} (h : CA p = true) : (DI p).length ≤ 47380 := by
 simp only [CA, Ao, Ar] at h
 have h1 := (AX p.epoch.toNat).1
 have h2 := (AX p.stripes.length).1
 have h3 := MZ CN p.stripes 740 fun x hx => Lq (IB _ _ h.2.2 x hx)
 unfold DI Ck;simp only [Ag]
 omega
theorem Ok (s : G1) : (DH s).length ≤ 30 := by
 have h1 := (AX s.epoch.toNat).1
 have h2 := (AX s.node.toNat).1
 have h3 := (AX s.tail.toNat).1
 unfold DH;simp only [Ag]
 omega
theorem Fz (h : Bool) (b : List UInt8) (n : Nat) (hb : h = true → b.length ≤ n) : (AV h b).length ≤ n := by
 cases h
 ·exact Aj _
 ·exact hb rfl
theorem KM (pos : Int) (l : List BM) (hR : BK pos l = true) : (Cx pos l).length ≤ 830 := by
 have h1 := Jv pos l hR
 simp only [BK, Ao, Ar] at hR
 have h2 := (AX l.length).1
 unfold Cx;rw [Ag]; omega
theorem Ee {h r z : Bool} (hw : A7 h r z = true) (hh : h = true) : r = true := by subst hh; exact hw
structure Wg (m : Msg) : Prop where
 kind : 1 ≤ m.kind ∧ m.kind ≤ 14
 pos : AK m.kind 1 = true → poR m.pos = true
 count : AK m.kind 2 = true → 1 ≤ m.count ∧ m.count ≤ 65536
 state : AK m.kind 4 = true → 1 ≤ m.state ∧ m.state ≤ Dn m.kind
 streams : AK m.kind 8 = true → m.streams.length ≤ 16 ∧ Ba m.streams = true
 links : AK m.kind 16 = true → BK m.pos m.links = true
 seal_ : AK m.kind 64 = true → Ev m.sea = true
 proj : AK m.kind 128 = true → CA m.proj = true
 data : m.data.length ≤ 1048576
theorem EF {m : Msg} (h : FE m = true) : Wg m := by
 simp only [FE, Ao, Ar] at h
 obtain ⟨h1, h2, h3, h4, h5, h6, h7, h8, h9⟩ := h
 refine ⟨h1, fun e => Ee h2 e, fun e => A9 (Ee h3 e), fun e => A9 (Ee h4 e), fun e => ?_, fun e => Ee h6 e, fun e => Ee h7 e, fun e => Ee h8 e, ?_⟩
 ·have := Ee h5 e
  simp only [Ao, Ar] at this
  exact this
 ·simp only [Df, Ao, Ar] at h9
  omega
theorem Jp {m : Msg} (h : FE m = true) : (EL m).length ≤ 49000 + m.data.length := by
 have H := EF h
 have h1 := Fz (AK m.kind 1) (Ay m.pos.toNat) 10 fun _ => (AX _).1
 have h2 := Fz (AK m.kind 2) (Ay m.count.toNat) 10 fun _ => (AX _).1
 have h3 := Fz (AK m.kind 4) [UInt8.ofNat m.state.toNat] 1 fun _ => by simp
 have h4 := Fz (AK m.kind 8) (D4 m.streams) 170 fun e => by have := Lx m.streams; have := (H.streams e).1; omega
 have h5 := Fz (AK m.kind 16) (Cx m.pos m.links) 830 fun e => KM _ _ (H.links e)
 have h6 := Fz (Ca m.kind m.state) (Bp m.data) (11 + m.data.length) fun e => by have := I6 m.data; have := (AX m.data.length).1; omega
 have h7 := Fz (AK m.kind 64) (DH m.sea) 30 fun e => Ok _
 have h8 := Fz (AK m.kind 128) (DI m.proj) 47380 fun e => LJ (H.proj e)
 unfold EL;simp only [Ag]
 omega
theorem Li {n : Nat} (h : n < 128) : byteCells (Ay n) = [.int .u8 (n : Int)] := by
 rw [Fc h]
 simp [byteCells]
 omega
theorem Qz (pos : Int) (l : List BM) : ∃ Z : List (List UInt8), Hu pos none l = Z.flatten ∧ Z.length = l.length ∧ (∀ k, (Z.take k).flatten.length ≤ Z.flatten.length) ∧ ∀ (k : Nat) (h : k < l.length), (Z.take (k + 1)).flatten = (Z.take k).flatten ++ (Ay ((ED none l)[k]'zAj).toNat ++ C4 pos l[k].backs) := by
 refine ⟨GJ pos none l, Hg pos l none, Iz pos none l, fun k => Jz _ k, fun k h => ?_⟩
 have := M3 (GJ pos none l) k (by rw [Iz]; exact h)
 rw [MU pos l k h] at this
 exact this
theorem Ot (w : World) (pos : Int) (hpos : 0 ≤ pos ∧ pos ≤ 18446744073709551615) (l : List BM) (al : Option Addr) (nl cl : Nat) (hl : BU.r (· < w.heap.size) w [.slice al nl cl] l) (hR : BK pos l = true) (hbk : ∀ x ∈ l, x.backs.length ≤ 1000000) :
  Calls Tryz.prog 106 #[.int .u64 pos, .slice al nl cl] w fun r w' => ∃ v, r = .returned v ∧ BS w' w.heap.size v (Cx pos l) ∧ Below w.heap.size w w' := by
 obtain ⟨rfl, hm, _, _⟩ := AS hl
 obtain ⟨i0, hi, hz0, hz1, hz2⟩ := A8 Dz
 have hN := Ju hl
 have hR' := hR
 simp only [BK, Ao, Ar, List.all_eq_true] at hR'
 have hlk : ∀ x ∈ l, BW pos x.backs = true := fun x hx => by have := hR'.2.2 x hx; simp only [C3, Ao] at this; exact this.2
 have HLK := hid hlk
 have HBK := hid hbk
 have hup := hid (Kr l hR'.2.1 (fun x hx => (hN x hx).1))
 have hul := H3 none l
 have hle := Jv pos l hR
 have HL := hid hl
 have hvl := Di (x := l.length) zC
 have HVC := hid (Li (n := l.length) zC)
 have HU := hid (fun (k : Nat) (h : k < l.length) => Ja l none k h)
 have HRI := hid (fun (k : Nat) (h : k + 1 < l.length) => (by have := Gj (l.map BM.stream) k ZS hR'.2.1; simpa using this : l[k].stream < l[k + 1].stream))
 obtain ⟨Z, hZ, hzl, hmo0, hns0⟩ := Qz pos l
 have HMO := hid hmo0
 have HNS := hid hns0
 rw [hZ] at hle
 unfold Cx;rw [hZ]
 have hll : l.length ≤ 16 := hR'.1
 generalize Ay l.length = VL at *
 clear hl hR hR' hlk hbk hN hZ hmo0 hns0;go_enter Tryz.func106, Tryz.ntmps106
 go_wp2_with fail;have HOS : Hid ((w.alloc (.cells #[.int .u8 (l.length : Int)] 5)).ownsRow w.heap.size 5 1 (.slice (some ⟨w.heap.size, 0, none⟩) VL.length 1) VL.length (byteCells VL)) := hid (by rw [HVC.out, hvl]; exact FC (Ak _) (D9 w _))
 have hb0 : Below w.heap.size w (w.alloc (.cells #[.int .u8 (l.length : Int)] 5)) := zA
 go_loopw [5, 6] (fun v i wr => ∃ (k : Nat) (J : List UInt8), k ≤ l.length ∧ i = .int .i64 k ∧ BS wr w.heap.size v J ∧ Hid (J = VL ++ (Z.take k).flatten) ∧ (∃ aJ cJ, v = .slice aJ J.length cJ) ∧ Below w.heap.size w wr) (fun _ i _ => l.length - (intOf i).toNat)
 case atStart => exact ⟨0, VL, Aj _, rfl, by rw [hvl] at HOS; exact (by unfold BS; rw [hvl]; exact HOS.out), hid zO, ⟨_, _, by rw [hvl]⟩, hb0⟩
 case round =>
  obtain ⟨k, J, hk, rfl, hown, hJ, ⟨aJ, cJ, rfl⟩, hb⟩ := hrel
  rcases Bd k l.length with hlt | hge
  ·obtain ⟨b, o, hA, hbb, a2, c2, u0, u1, hx, xl⟩ := DE HL.out hlt
   subst hA;have hst := HNS.out k hlt
   have hmo := HMO.out (k + 1)
   have hub := hup.out k hlt
   have hu := HU.out k hlt
   rw [hst, Ag, Ag] at hmo
   have hJl : J.length + (Ay ((ED none l)[k]'zC).toNat).length + (C4 pos l[k].backs).length ≤ 20000000 := zBi
   have hN0 : ∀ W : World, Calls Tryz.prog 104 #[.int .u64 ((ED none l)[k]'zC)] W fun r w' => ∃ v, r = .returned v ∧ w'.ownsRow W.heap.size 5 1 v (Ay ((ED none l)[k]'zC).toNat).length (byteCells (Ay ((ED none l)[k]'zC).toNat)) ∧ Below W.heap.size W w' := fun W => by
    have := EH ((ED none l)[k]'zC).toNat zC W
    rw [toNat_cast hub.1] at this
    exact this
   have hJ1 : (J ++ Ay ((ED none l)[k]'zC).toNat) ++ C4 pos l[k].backs = VL ++ (Z.take (k + 1)).flatten := zCj
   have HBY := hid (fun (W : World) (hW : Below w.heap.size w W) => Ow W pos hpos l[k].backs a2 _ c2 (lift xl hW) (HLK.out l[k] (Bl hlt)) (HBK.out l[k] (Bl hlt)))
   have HO := hid hown
   have i1 : (k : Int) < (l.length : Int) := zC
   have d1 : decide ((k : Int) < (l.length : Int)) = true := Ae i1
   have X0 := (hb.cell (p := ⟨b, o + k * 2, none⟩) hbb).trans u0
   have X1 := (hb.cell (p := ⟨b, o + k * 2 + 1, none⟩) hbb).trans u1
   rcases Cz k with rfl | hk0
   ·rw [dif_pos rfl] at hu
    (try dsimp only at hu)
    rw [hu] at hJl hJ1
    have hN1 := fun W => hu ▸ hN0 W
    simp only [Hp, BE, A3] at X0 X1 u1
    have HN := hid hN1
    have HJ1 := hid hJ1
    generalize Ay l[0].stream.toNat = VK at *
    generalize C4 pos l[0].backs = DK at *
    have HONE := hid (AI VK)
    have HOND := hid (AI DK)
    generalize l[0] = y at *
    clear hst hmo hub hu hJ1 hN0 hN1 hown hJ u0 xl;go_wp2_with fail;refine (HN.out _).mono ?_
    rintro r w3 ⟨v3, rfl, hv3, hb3⟩;obtain ⟨a3, c3, rfl⟩ := AA hv3
    have HS3 := hid (A5 (BJ rfl hv3))
    have HO3 := hid (AD HO.out hb3)
    have hz := hb.size
    have hz3 := hb3.size
    clear hv3;go_wp2_with (at_builtin; go_loud (refine Aq rfl _ _ _ rfl w.heap.size 5 i0 (.int .u8 0) 1 1 As hi hz0 hz1 hz2 rfl zP (.slice aJ J.length cJ) J.length (byteCells J) rfl HO3.out a3 VK.length c3 (byteCells VK) rfl HS3.out HONE.out zK zC zC ?_; intro v' w4 hown4 hgrow4 hat4; obtain ⟨a4, c4, rfl⟩ := AA hown4; have HO4 := hid (BS.app hown4); have hbg4 : Below w.heap.size w3 w4 := (Below.grown (Below.refl _ _) hgrow4 zC (fun g e => (HO3.out.lt g e).1)); have hb4 : Below w.heap.size w w4 := hb.trans ((hb3.mono hb.size).trans hbg4); have Y1 : w4.cell? ⟨b, o + 1, none⟩ = some (.slice a2 y.backs.length c2) := (hb4.cell (p := ⟨b, o + 1, none⟩) hbb).trans u1; clear hown4 hgrow4 hat4))
    have hz4 := hbg4.size
    have HB4 := hid (HBY.out w4 hb4)
    have hlJ : (J ++ VK).length = J.length + VK.length := Ag
    generalize J ++ VK = J4 at *
    have HOB4 := hid HO4.out
    rw [← hlJ] at HOB4 ⊢
    have hJ4l : J4.length + DK.length ≤ 20000000 := zC
    clear hlJ;clear X0 X1;refine HB4.out.mono ?_
    rintro r w5 ⟨v5, rfl, hv5, hb5⟩;obtain ⟨a5, c5, rfl⟩ := AA hv5
    have HS5 := hid (A5 (BJ rfl hv5))
    have HO5 := hid (AD HOB4.out hb5)
    have hz5 := hb5.size
    clear hv5 Y1;go_wp2_with (at_builtin; go_loud (refine Aq rfl _ _ _ rfl w.heap.size 5 i0 (.int .u8 0) 1 1 As hi hz0 hz1 hz2 rfl zP (.slice a4 J4.length c4) J4.length (byteCells J4) rfl HO5.out a5 DK.length c5 (byteCells DK) rfl HS5.out HOND.out zK zC zC ?_; intro v' w6 hown6 hgrow6 hat6; obtain ⟨a6, c6, rfl⟩ := AA hown6; have HO6 := hid (BS.app hown6); have hbg6 : Below w.heap.size w5 w6 := (Below.grown (Below.refl _ _) hgrow6 zC (fun g e => (HO5.out.lt g e).1)); clear hown6 hgrow6 hat6))
    have hbe : Below w.heap.size w w6 := hb4.trans ((hb5.mono hb4.size).trans hbg6)
    go_roundw
    case rel => exact ⟨1, J4 ++ DK, zC, zV, HO6.out, HJ1, ⟨_, _, ZA⟩, hbe⟩
    case measure => simp [intOf]; omega
   ·obtain ⟨m, rfl⟩ : ∃ m, k = m + 1 := ⟨k - 1, zC⟩
    obtain ⟨b', o', hA', hbb', a3', c3', t0, t1, hty, tl⟩ := DE HL.out (show m < l.length by omega)
    simp only [Bk, Dd] at hA'
    obtain ⟨rfl, rfl, _⟩ := hA'
    have T0 := (hb.cell (p := ⟨b, o + m * 2, none⟩) hbb).trans t0
    have hri := HRI.out m hlt
    rw [dif_neg zC] at hu
    simp only [DR] at hu
    rw [hu] at hJl hJ1
    have hN1 := fun W => hu ▸ hN0 W
    have HN := hid hN1
    have HJ1 := hid hJ1
    have i1' : (m : Int) + 1 < (l.length : Int) := zC
    have i2 : (m : Int) < (l.length : Int) := zC
    have d2 : decide ((m : Int) + 1 < (l.length : Int)) = true := Ae i1'
    have d3 : decide (m + 1 < l.length) = true := Ae hlt
    generalize Ay (l[m + 1].stream - (l[m]'zC).stream - 1).toNat = VK at *
    generalize C4 pos l[m + 1].backs = DK at *
    have HONE := hid (AI VK)
    have HOND := hid (AI DK)
    generalize l[m + 1] = y at *
    generalize l[m]'zC = z at *
    have w1 : 0 ≤ y.stream - z.stream := zC
    have w2 : 0 ≤ y.stream - z.stream - 1 := zC
    clear hst hmo hub hu hJ1 hN0 hN1 hown hJ u0 xl t0 t1 tl;go_wp2_with fail;refine (HN.out _).mono ?_
    rintro r w3 ⟨v3, rfl, hv3, hb3⟩;obtain ⟨a3, c3, rfl⟩ := AA hv3
    have HS3 := hid (A5 (BJ rfl hv3))
    have HO3 := hid (AD HO.out hb3)
    have hz := hb.size
    have hz3 := hb3.size
    clear hv3;go_wp2_with (at_builtin; go_loud (refine Aq rfl _ _ _ rfl w.heap.size 5 i0 (.int .u8 0) 1 1 As hi hz0 hz1 hz2 rfl zP (.slice aJ J.length cJ) J.length (byteCells J) rfl HO3.out a3 VK.length c3 (byteCells VK) rfl HS3.out HONE.out zK zC zC ?_; intro v' w4 hown4 hgrow4 hat4; obtain ⟨a4, c4, rfl⟩ := AA hown4; have HO4 := hid (BS.app hown4); have hbg4 : Below w.heap.size w3 w4 := (Below.grown (Below.refl _ _) hgrow4 zC (fun g e => (HO3.out.lt g e).1)); have hb4 : Below w.heap.size w w4 := hb.trans ((hb3.mono hb.size).trans hbg4); have Y1 : w4.cell? ⟨b, o + (m + 1) * 2 + 1, none⟩ = some (.slice a2 y.backs.length c2) := (hb4.cell (p := ⟨b, o + (m + 1) * 2 + 1, none⟩) hbb).trans u1; clear hown4 hgrow4 hat4))
    have hz4 := hbg4.size
    have HB4 := hid (HBY.out w4 hb4)
    have hlJ : (J ++ VK).length = J.length + VK.length := Ag
    generalize J ++ VK = J4 at *
    have HOB4 := hid HO4.out
    rw [← hlJ] at HOB4 ⊢
    have hJ4l : J4.length + DK.length ≤ 20000000 := zC
    clear hlJ;clear X0 X1 T0;refine HB4.out.mono ?_
    rintro r w5 ⟨v5, rfl, hv5, hb5⟩;obtain ⟨a5, c5, rfl⟩ := AA hv5
    have HS5 := hid (A5 (BJ rfl hv5))
    have HO5 := hid (AD HOB4.out hb5)
    have hz5 := hb5.size
    clear hv5 Y1;go_wp2_with (at_builtin; go_loud (refine Aq rfl _ _ _ rfl w.heap.size 5 i0 (.int .u8 0) 1 1 As hi hz0 hz1 hz2 rfl zP (.slice a4 J4.length c4) J4.length (byteCells J4) rfl HO5.out a5 DK.length c5 (byteCells DK) rfl HS5.out HOND.out zK zC zC ?_; intro v' w6 hown6 hgrow6 hat6; obtain ⟨a6, c6, rfl⟩ := AA hown6; have HO6 := hid (BS.app hown6); have hbg6 : Below w.heap.size w5 w6 := (Below.grown (Below.refl _ _) hgrow6 zC (fun g e => (HO5.out.lt g e).1)); clear hown6 hgrow6 hat6))
    have hbe : Below w.heap.size w w6 := hb4.trans ((hb5.mono hb4.size).trans hbg6)
    go_roundw
    case rel => exact ⟨m + 1 + 1, J4 ++ DK, zC, zV, HO6.out, HJ1, ⟨_, _, ZA⟩, hbe⟩
    case measure => simp [intOf]; omega
  ·obtain rfl : k = l.length := by omega
   have d1 : decide ((l.length : Int) < (l.length : Int)) = false := Ad zC
   have hfin : Hid (J = VL ++ Z.flatten) := hid zBv
   have HO := hid hown
   clear hown hJ;go_wp2;go_ret;rw [← hfin.out]
   exact ⟨_, rfl, HO.out, hb⟩
theorem JN (l : List Int) (a : Option Addr) (n c : Nat) (w : World) (hl : AY.r (· < w.heap.size) w [.slice a n c] l) :
  Calls Tryz.prog 149 #[.slice a n c] w fun r w' => r = .returned (.bool (Ba l)) ∧ Below w.heap.size w w' := by
 obtain ⟨rfl, hm, _, _⟩ := AS hl
 have HL := hid hl; clear hl
 go_enter Tryz.func149, Tryz.ntmps149
 go_wp2;go_loopw [3] (fun i wr => ∃ m : Nat, (m ≤ l.length ∧ (m = 0 ∨ m < l.length)) ∧ i = .int .i64 ((m : Int) + 1) ∧ Hid (Ba l = CW l (m + 1)) ∧ Below w.heap.size w wr) (fun i _ => l.length + 1 - (intOf i).toNat)
 case atStart => exact ⟨0, ⟨Aj _, .inl rfl⟩, rfl, hid (GF l).symm, Below.refl _ _⟩
 case round =>
  obtain ⟨m, hk, rfl, hf, hb⟩ := hrel
  by_cases hlt : m + 1 < l.length
  ·obtain ⟨b, o, hA, hbb, x0, hx0, hx1⟩ := Cw (lift HL.out hb) hlt
   obtain ⟨b', o', hA', hbb', y0, hy0, hy1⟩ := Cw (lift HL.out hb) (show m < l.length by omega)
   subst hA;simp only [Bk, Dd] at hA'
   obtain ⟨rfl, rfl, _⟩ := hA'
   have hst := hid (FU l m hlt)
   have k1 : (0 : Int) ≤ (m : Int) + 1 - 1 := zC
   have k2 : (m : Int) + 1 < (l.length : Int) := zC
   have k3 : (m : Int) < (l.length : Int) := zC
   have X0 := fun s : A1 wr => s.cell x0
   have Y0 := fun s : A1 wr => s.cell y0
   clear x0 y0;generalize l[m + 1] = x at *
   generalize l[m] = y at *
   by_cases hge : x ≤ y
   ·have d1 : decide (x ≤ y) = true := Ae hge
    have hff : Hid (Ba l = false) := hid zAn
    clear hge;go_wp2_with fail;refine Ax zG zG ?_
    repeat (go_big_quiet_step (fail))
    refine AL ?_
    rintro W5 ⟨⟨W5', hb5⟩, rfl⟩;go_wp2;go_ret;exact ⟨zH, Af hb5 hb⟩
   ·have d1 : decide (x ≤ y) = false := Ad hge
    have hst' : Hid (CW l (m + 1) = CW l (m + 2)) := hid Z7
    clear hge;go_wp2_with fail;refine Ax zG zG ?_
    repeat (go_big_quiet_step (fail))
    refine AL ?_
    rintro W5 ⟨⟨W5', hb5⟩, rfl⟩;go_wp2;go_roundw
    case rel => exact ⟨m + 1, ⟨zC, zC⟩, zV, hid zAa, Af hb5 hb⟩
    case measure => (simp [intOf]; try omega)
  ·have k2 : ¬ ((m : Int) + 1 < (l.length : Int)) := by omega
   have d2 : decide ((m : Int) + 1 < (l.length : Int)) = false := Ad k2
   have hff : Hid (Ba l = true) := hid (by
    rcases Cz l.length with h0 | h0
    ·rw [AT h0]; rfl
    ·rw [hf.out, show m + 1 = l.length by omega]; exact GG l)
   go_wp2;go_ret;exact ⟨zH, hb⟩
theorem KE (l : List Int) (a : Option Addr) (n c : Nat) (w : World) (hl : AY.r (· < w.heap.size) w [.slice a n c] l) :
  Calls Tryz.prog 91 #[.slice a n c] w fun r w' => r = .returned (.bool (Ba l)) ∧ Below w.heap.size w w' := by
 obtain ⟨rfl, hm, _, _⟩ := AS hl
 have HL := hid hl; clear hl
 go_enter Tryz.func91, Tryz.ntmps91
 go_wp2;go_loopw [3] (fun i wr => ∃ m : Nat, (m ≤ l.length ∧ (m = 0 ∨ m < l.length)) ∧ i = .int .i64 ((m : Int)) ∧ Hid (Ba l = CW l (m + 1)) ∧ Below w.heap.size w wr) (fun i _ => l.length + 1 - (intOf i).toNat)
 case atStart => exact ⟨0, ⟨Aj _, .inl rfl⟩, rfl, hid (GF l).symm, Below.refl _ _⟩
 case round =>
  obtain ⟨m, hk, rfl, hf, hb⟩ := hrel
  by_cases hlt : m + 1 < l.length
  ·obtain ⟨b, o, hA, hbb, x0, hx0, hx1⟩ := Cw (lift HL.out hb) hlt
   obtain ⟨b', o', hA', hbb', y0, hy0, hy1⟩ := Cw (lift HL.out hb) (show m < l.length by omega)
   subst hA;simp only [Bk, Dd] at hA'
   obtain ⟨rfl, rfl, _⟩ := hA'
   have hst := hid (FU l m hlt)
   have k1 : (0 : Int) ≤ (m : Int) + 1 - 1 := zC
   have k2 : (m : Int) + 1 < (l.length : Int) := zC
   have k3 : (m : Int) < (l.length : Int) := zC
   have X0 := fun s : A1 wr => s.cell x0
   have Y0 := fun s : A1 wr => s.cell y0
   clear x0 y0;generalize l[m + 1] = x at *
   generalize l[m] = y at *
   by_cases hge : x ≤ y
   ·have d1 : decide (x ≤ y) = true := Ae hge
    have hff : Hid (Ba l = false) := hid zAn
    clear hge;go_wp2_with fail;refine Ax zG zG ?_
    repeat (go_big_quiet_step (fail))
    refine AL ?_
    rintro W5 ⟨⟨W5', hb5⟩, rfl⟩;go_wp2;go_ret;exact ⟨zH, Af hb5 hb⟩
   ·have d1 : decide (x ≤ y) = false := Ad hge
    have hst' : Hid (CW l (m + 1) = CW l (m + 2)) := hid Z7
    clear hge;go_wp2_with fail;refine Ax zG zG ?_
    repeat (go_big_quiet_step (fail))
    refine AL ?_
    rintro W5 ⟨⟨W5', hb5⟩, rfl⟩;go_wp2;go_roundw
    case rel => exact ⟨m + 1, ⟨zC, zC⟩, zV, hid zAa, Af hb5 hb⟩
    case measure => (simp [intOf]; try omega)
  ·have k2 : ¬ ((m : Int) + 1 < (l.length : Int)) := by omega
   have d2 : decide ((m : Int) + 1 < (l.length : Int)) = false := Ad k2
   have hff : Hid (Ba l = true) := hid (by
    rcases Cz l.length with h0 | h0
    ·rw [AT h0]; rfl
    ·rw [hf.out, show m + 1 = l.length by omega]; exact GG l)
   go_wp2;go_ret;exact ⟨zH, hb⟩
theorem RP (w : World) (l : List Int) (al : Option Addr) (nl cl : Nat) (hl : AY.r (· < w.heap.size) w [.slice al nl cl] l) (hri : Ba l = true) (hlen : l.length ≤ 1000000) :
  Calls Tryz.prog 150 #[.slice al nl cl] w fun r w' => ∃ v, r = .returned v ∧ AY.r (fun q => w.heap.size ≤ q ∧ q < w'.heap.size) w' [v] (DP none l) ∧ Below w.heap.size w w' := by
 obtain ⟨rfl, hm, _, _⟩ := AS hl
 obtain ⟨i0, hi, hz0, hz1, hz2⟩ := A8 LV
 have HL := hid hl
 have hul := Fq none l
 have HU := hid (fun (k : Nat) (h : k < l.length) => I9 l none k h)
 have HRI := hid (fun (k : Nat) (h : k + 1 < l.length) => Gj l k h hri)
 clear hl hri;go_enter Tryz.func150, Tryz.ntmps150
 go_wp2_with fail;go_loopw [3, 8] (fun v i wr => ∃ k : Nat, k ≤ l.length ∧ i = .int .i64 k ∧ wr.ownsRow w.heap.size 22 1 v k (BF ((DP none l).take k)) ∧ Hid (∀ x ∈ (DP none l).take k, 0 ≤ x ∧ x ≤ 18446744073709551615) ∧ Below w.heap.size w wr) (fun _ i _ => l.length - (intOf i).toNat)
 case atStart => exact ⟨0, Aj _, rfl, ⟨rfl, .inl ⟨rfl, rfl⟩⟩, hid zO, Below.refl _ _⟩
 case round =>
  obtain ⟨k, hk, rfl, hown, hbd, hb⟩ := hrel
  obtain ⟨av, cv, rfl⟩ := AA hown
  rcases Bd k l.length with hlt | hge
  ·obtain ⟨b, o, hA, hbb, x0, hx⟩ := Cw (lift HL.out hb) hlt
   subst hA;have hu := HU.out k hlt
   have i1 : (k : Int) < (l.length : Int) := zC
   have d1 : decide ((k : Int) < (l.length : Int)) = true := Ae i1
   have hbl : b < wr.heap.size := Cr _ _ x0
   have htk : BF ((DP none l).take (k + 1)) = BF ((DP none l).take k) ++ [.int .u64 ((DP none l)[k]'zC)] := by
    rw [AU zC]; unfold BF; rw [CS]; rfl
   have hnb : ∀ y : Int, (DP none l)[k]'zC = y → (0 ≤ y ∧ y ≤ 18446744073709551615) → ∀ x ∈ (DP none l).take (k + 1), 0 ≤ x ∧ x ≤ 18446744073709551615 := fun y e hy x hx => by
    rw [AU zC, Ed, Dg] at hx
    rcases hx with hx | rfl
    ·exact hbd.out x hx
    ·rw [e]; exact hy
   have HTK := hid htk
   have HNB := hid hnb
   have HO := hid hown
   have hz := hb.size
   rcases Cz k with rfl | hk0
   ·rw [dif_pos rfl] at hu
    (try dsimp only at hu)
    rw [hu] at HTK
    have HBD := hid (HNB.out _ hu hx)
    simp only [Hp, BE, A3] at x0
    have d2 : decide ((0 : Int) < ((0 : Nat) : Int)) = false := zP
    generalize l[0] = y at *
    clear hu htk hnb hbd hown hx;go_wp2_with (at_builtin; go_loud (refine Aq rfl _ _ _ rfl w.heap.size 22 i0 (.int .u64 0) 1 8 CK hi hz0 hz1 hz2 rfl zP (.slice av 0 cv) 0 _ rfl (AD HO.out zA) (some ⟨wr.heap.size, 0, none⟩) 1 1 [.int .u64 y] rfl (Bx _ 22 _ rfl zO rfl) ZG zK zC zJ ?_; intro v' w3 hown3 hgrow3 hat3; obtain ⟨a3, c3, rfl⟩ := AA hown3; have HO3 := hid hown3; have hb3 : Below w.heap.size wr w3 := (Below.grown ((by (repeat (first | with_reducible exact Below.refl _ _ | with_reducible assumption | (with_reducible refine AF ?_ _) | (with_reducible refine Below.setCell ?_ zF _) | (with_reducible refine Below.drew ?_) | (with_reducible refine below_drewN ?_ _) | (refine Af zL ?_))) : Below wr.heap.size wr _).mono hz) hgrow3 zJ (fun g e => (HO.out.lt g e).1)); clear hown3 hgrow3 hat3))
    have ho3 := HO3.out
    rw [← HTK.out] at ho3
    have HO4 := hid ho3
    clear ho3 x0;go_roundw
    case rel => exact ⟨1, zC, zV, by simpa using HO4.out, HBD, hb.trans hb3⟩
    case measure => (simp [intOf]; try omega)
   ·obtain ⟨m, rfl⟩ : ∃ m, k = m + 1 := ⟨k - 1, zC⟩
    obtain ⟨b', o', hA', hbb', y0, hy⟩ := Cw (lift HL.out hb) (show m < l.length by omega)
    simp only [Bk, Dd] at hA'
    obtain ⟨rfl, rfl, _⟩ := hA'
    have hri := HRI.out m hlt
    rw [dif_neg zC] at hu
    simp only [DR] at hu
    rw [hu] at HTK
    have HBD := hid (HNB.out _ hu zC)
    have i1' : (m : Int) + 1 < (l.length : Int) := zC
    have i2 : (m : Int) < (l.length : Int) := zC
    have d2 : decide ((m : Int) + 1 < (l.length : Int)) = true := Ae i1'
    have d3 : decide (m + 1 < l.length) = true := Ae hlt
    have d4 : decide ((0 : Int) < (m : Int) + 1) = true := Ae zC
    generalize l[m + 1] = y at *
    generalize l[m]'zC = z at *
    have w1 : 0 ≤ y - (z + 1) := zC
    have w2 : z + 1 ≤ 18446744073709551615 := zC
    rw [show y - z - 1 = y - (z + 1) by omega] at HTK
    clear hu htk hnb hbd hown;go_wp2_with (at_builtin; go_loud (refine Aq rfl _ _ _ rfl w.heap.size 22 i0 (.int .u64 0) 1 8 CK hi hz0 hz1 hz2 rfl zP (.slice av (m + 1) cv) (m + 1) _ rfl (AD HO.out zA) (some ⟨wr.heap.size, 0, none⟩) 1 1 [.int .u64 (y - (z + 1))] rfl (Bx _ 22 _ rfl zO rfl) ZG zK zC zJ ?_; intro v' w3 hown3 hgrow3 hat3; obtain ⟨a3, c3, rfl⟩ := AA hown3; have HO3 := hid hown3; have hb3 : Below w.heap.size wr w3 := (Below.grown ((by (repeat (first | with_reducible exact Below.refl _ _ | with_reducible assumption | (with_reducible refine AF ?_ _) | (with_reducible refine Below.setCell ?_ zF _) | (with_reducible refine Below.drew ?_) | (with_reducible refine below_drewN ?_ _) | (refine Af zL ?_))) : Below wr.heap.size wr _).mono hz) hgrow3 zJ (fun g e => (HO.out.lt g e).1)); clear hown3 hgrow3 hat3))
    have ho3 := HO3.out
    rw [← HTK.out] at ho3
    have HO4 := hid ho3
    clear ho3 x0 y0;go_roundw
    case rel => exact ⟨m + 1 + 1, zC, zV, HO4.out, HBD, hb.trans hb3⟩
    case measure => (simp [intOf]; try omega)
  ·obtain rfl : k = l.length := by omega
   have d1 : decide ((l.length : Int) < (l.length : Int)) = false := Ad zC
   have hv := hown
   rw [CY zC] at hv hbd
   have HV := hid (EE hbd.out zC hv)
   clear hv hown;go_wp2;go_ret;exact ⟨_, rfl, HV.out, hb⟩
theorem Ob (l : List Int) (hri : Ba l = true) (hx : ∀ x ∈ l, 0 ≤ x ∧ x ≤ 18446744073709551615) : ∀ k, (h : k < l.length) → 0 ≤ (DP none l)[k]'(by rw [Fq]; exact h) ∧ (DP none l)[k]'(by rw [Fq]; exact h) ≤ 18446744073709551615 := by
 intro k h;rw [I9 l none k h]
 have hk := hx l[k] (Bl h)
 split
 ·exact hk
 ·rename_i h0
  have h1 := hx (l[k - 1]'zC) (Bl _)
  have h2 := Gj l (k - 1) zC hri
  simp only [Nat.sub_add_cancel (show 1 ≤ k by omega)] at h2
  omega
theorem IE (w : World) {g base most : Nat} {J : List UInt8} {a : Option Addr} {c : Nat} (h : BR w g base most J a c) (l : List Int) (al : Option Addr) (nl cl : Nat)
  (hl : AY.r (· < w.heap.size) w [.slice al nl cl] l) (hri : Ba l = true) (hlen : l.length ≤ 1000000) (hfit : J.length + (Gg l).length ≤ most) (hln2 : J.length + (Gg l).length ≤ 100000000000000) :
  Calls Tryz.prog 70 #[.pointer (some ⟨g, 0, none⟩), .slice al nl cl] w fun r w' => r = .returned (.tuple #[]) ∧ At w g base most (J ++ Gg l) a w' := by
 obtain ⟨rfl, hm, _, _⟩ := AS hl
 have HRI := JN l al _ cl w hl
 rw [hri] at HRI
 have HRI := hid HRI
 have HS := hid (fun (W : World) (hW : Below w.heap.size w W) => RP W l al _ cl (lift hl hW) hri hlen)
 have hlt := h.len
 have hsl := Fq none l
 have hnb := Gb (DP none l)
 have hxs := DS hl
 unfold Gg at *;have HP := hid h
 have HMO := hid (fun k => Ey (DP none l) k)
 have HNS := hid (fun (k : Nat) (h : k < (DP none l).length) => Gp (DP none l) k h)
 generalize DP none l = T at *
 generalize hL : l.length = L at *
 have hLL := hid hL
 clear h hl hri hxs hL;go_enter Tryz.func70, Tryz.ntmps70
 go_wp2_with fail;refine HRI.out.mono ?_
 rintro r w0 ⟨rfl, hb0⟩;go_wp2_with fail;refine (HS.out _ hb0).mono ?_
 rintro r w1 ⟨v, rfl, hr, hb1'⟩;obtain ⟨a1, c1, hv, hr2, _⟩ := AN hr
 simp only [Au, AO] at hv
 subst hv;have hb1 := Af hb1' hb0
 have hz0 := hb0.size
 rw [hsl] at hr2 ⊢
 have HR := hid (Hb HP.out (AY.mono hr2 fun q hq => ⟨zC, hq.2⟩))
 have HP1 := hid (HP.out.later hb1)
 clear hr hr2;have hz1 := hb1.size
 go_wp2_with fail;go_loopw [14] (fun i wr => ∃ k : Nat, k ≤ L ∧ i = .int .i64 k ∧ Hid (At w1 g base most (J ++ Cu (T.take k)) a wr)) (fun i _ => L - (intOf i).toNat)
 case atStart => exact ⟨0, Aj _, rfl, hid (by simpa [Cu] using At.refl HP1.out)⟩
 case round =>
  obtain ⟨k, hk, rfl, hp⟩ := hrel
  obtain ⟨a3, c3, hp3, ht3, ha3⟩ := hp.out
  rcases Bd k L with hlt | hge
  ·have hd3 := Dk ht3 ha3 HR.out
   have hkT : k < T.length := zC
   obtain ⟨b, o, hA, hbb, hc, hx0, hx1⟩ := Cw hd3 hkT
   subst hA;have hst := HNS.out k hkT
   have hfk := HMO.out (k + 1)
   rw [hst, Ag] at hfk
   have HSK := hid hst
   have hvk := (AX T[k].toNat).1
   have hJ3 := hp3.len
   simp only [Ag] at hJ3
   have hV := B6 wr hp3 T[k].toNat zC zU zU
   rw [toNat_cast hx0, Av J, ← hst] at hV
   have HV3 := hid hV
   have HT3 := hid (And.intro ht3 ha3)
   have i1 : (k : Int) < (L : Int) := zC
   have d1 : decide ((k : Int) < (L : Int)) = true := Ae i1
   clear hV hd3 hst hp3 ht3 ha3 hp hfk hvk hJ3;generalize T[k] = y at *
   go_wp2_with fail;refine HV3.out.mono ?_
   rintro r w5 ⟨rfl, hst5⟩;have HN := hid (At.trans (J := J) HT3.out.1 HT3.out.2 hst5)
   clear hst5;go_wp2;go_roundw
   case rel => exact ⟨k + 1, zC, zV, HN⟩
   case measure => simp [intOf]; omega
  ·obtain rfl : k = L := by omega
   have d1 : decide ((k : Int) < (k : Int)) = false := Ad zC
   rw [CY zC] at hp
   have HN := hid (At.later hb1 hp.out)
   clear hp hp3 ht3 ha3;go_wp2;first | go_end0 | refine Al (Aw rfl _ _ _) rfl ?_
   exact ⟨rfl, HN.out⟩
theorem Lz (s : G1) (h0 : inU s.epoch) (w : World) : Calls Tryz.prog 86 #[.agg #[.int .u64 s.epoch, .int .u64 s.node, .int .u64 s.tail]] w fun r w' => r = .returned (.bool (Ev s)) ∧ Below w.heap.size w w' := by
 have HE := hid (fun (W : World) => FH s.epoch W)
 have hsr : Ev s = (epR s.epoch && (decide (s.node ≤ 4294967295) && decide (s.tail ≤ 4611686018427387904))) := rfl
 obtain ⟨e, n, t⟩ := s
 dsimp only at *;generalize epR e = E at *
 have HS := hid hsr
 generalize Ev ⟨e, n, t⟩ = ss at *
 clear hsr h0;cases E
 ·have hf : Hid (ss = false) := hid (by rw [HS.out]; rfl)
  go_enter Tryz.func86, Tryz.ntmps86
  go_wp2_with fail;refine (HE.out _).mono ?_
  rintro r w1 ⟨rfl, rfl⟩;go_wp2_with fail;go_ret;exact ⟨zAh, zB⟩
 ·by_cases hn : n ≤ 4294967295
  ·have hf : Hid (ss = decide (t ≤ 4611686018427387904)) := hid (by rw [HS.out, Ae hn]; rfl)
   have d1 : decide (n ≤ 4294967295) = true := Ae hn
   clear hn;go_enter Tryz.func86, Tryz.ntmps86
   go_wp2_with fail;refine (HE.out _).mono ?_
   rintro r w1 ⟨rfl, rfl⟩;go_wp2_with fail;go_ret;exact ⟨zAh, zB⟩
  ·have hf : Hid (ss = false) := hid (by rw [HS.out, Ad hn]; rfl)
   have d1 : decide (n ≤ 4294967295) = false := Ad hn
   clear hn;go_enter Tryz.func86, Tryz.ntmps86
   go_wp2_with fail;refine (HE.out _).mono ?_
   rintro r w1 ⟨rfl, rfl⟩;go_wp2_with fail;go_ret;exact ⟨zAh, zB⟩
theorem OD (s : G1) (h0 : inU s.epoch) (w : World) : Calls Tryz.prog 93 #[.agg #[.int .u64 s.epoch, .int .u64 s.node, .int .u64 s.tail]] w fun r w' => r = .returned (.bool (Ev s)) ∧ Below w.heap.size w w' := by
 have HE := hid (fun (W : World) => Ic s.epoch h0.1 W)
 have hsr : Ev s = (epR s.epoch && (decide (s.node ≤ 4294967295) && decide (s.tail ≤ 4611686018427387904))) := rfl
 obtain ⟨e, n, t⟩ := s
 dsimp only at *;generalize epR e = E at *
 have HS := hid hsr
 generalize Ev ⟨e, n, t⟩ = ss at *
 clear hsr h0;cases E
 ·have hf : Hid (ss = false) := hid (by rw [HS.out]; rfl)
  go_enter Tryz.func93, Tryz.ntmps93
  go_wp2_with fail;refine (HE.out _).mono ?_
  rintro r w1 ⟨rfl, rfl⟩;go_wp2_with fail;go_ret;exact ⟨zAh, zB⟩
 ·by_cases hn : n ≤ 4294967295
  ·have hf : Hid (ss = decide (t ≤ 4611686018427387904)) := hid (by rw [HS.out, Ae hn]; rfl)
   have d1 : decide (n ≤ 4294967295) = true := Ae hn
   clear hn;go_enter Tryz.func93, Tryz.ntmps93
   go_wp2_with fail;refine (HE.out _).mono ?_
   rintro r w1 ⟨rfl, rfl⟩;go_wp2_with fail;go_ret;exact ⟨zAh, zB⟩
  ·have hf : Hid (ss = false) := hid (by rw [HS.out, Ad hn]; rfl)
   have d1 : decide (n ≤ 4294967295) = false := Ad hn
   clear hn;go_enter Tryz.func93, Tryz.ntmps93
   go_wp2_with fail;refine (HE.out _).mono ?_
   rintro r w1 ⟨rfl, rfl⟩;go_wp2_with fail;go_ret;exact ⟨zAh, zB⟩
theorem TW {S : Nat → Prop} {w : World} {g : Nat} {t : TypeId} {l : List Int} {cs : Array Value} (hcs : cs = (BF l).toArray) (hS : S g) (hl : l.length ≤ 1000000) (hx : ∀ x ∈ l, inU x) (hb : Blk w g t cs) : AY.r S w [.slice (some ⟨g, 0, none⟩) l.length l.length] l := by
 subst hcs;refine Bh (xs := l) rfl (Ak _) zBw (.inr ⟨g, 0, rfl, hS, fun i x hi => ⟨[.int .u64 x], rfl, fun j v hj => ?_, rfl, H5 (hx x (List.mem_of_getElem? hi))⟩⟩)
 have hj0 : j = 0 := by
  rcases j with _ | j
  ·rfl
  ·simp at hj
 subst hj0;simp at hj
 subst hj;rw [A3, DA, BE]
 rw [hb.cell i]
 simp [BF, hi]
theorem PV (s : G1) : DH s = Cu [s.epoch, s.node, s.tail] := by simp [DH, Cu]
theorem LA (w : World) {g base most : Nat} {J : List UInt8} {a : Option Addr} {c : Nat} (h : BR w g base most J a c) (s : G1) (h0 : inU s.epoch) (h1 : inU s.node) (h2 : inU s.tail) (hR : Ev s = true)
  (hfit : J.length + (DH s).length ≤ most) (hln2 : J.length + (DH s).length ≤ 100000000000000) :
  Calls Tryz.prog 76 #[.pointer (some ⟨g, 0, none⟩), .agg #[.int .u64 s.epoch, .int .u64 s.node, .int .u64 s.tail]] w fun r w' => r = .returned (.tuple #[]) ∧ At w g base most (J ++ DH s) a w' := by
 have HSR := hid (fun (W : World) => Lz s h0 W)
 rw [hR] at HSR
 rw [PV] at hfit hln2 ⊢
 have hlt := h.len
 have HP := hid h
 have hLI : ∀ (W : World) (b : Nat) (hb : Blk W b 22 #[.int .u64 s.epoch, .int .u64 s.node, .int .u64 s.tail]) (S : Nat → Prop) (hS : S b), AY.r S W [.slice (some ⟨b, 0, none⟩) 3 3] [s.epoch, s.node, s.tail] := fun W b hb S hS =>
  TW (l := [s.epoch, s.node, s.tail]) rfl hS zO (by simp [h0, h1, h2]) hb
 have HLI := hid hLI
 have hT3 : [s.epoch, s.node, s.tail].length = 3 := rfl
 generalize hTT : [s.epoch, s.node, s.tail] = T at *
 have HMO := hid (fun k => Ey T k)
 have HNS := hid (fun (k : Nat) (h : k < T.length) => Gp T k h)
 obtain ⟨e, n, t⟩ := s
 dsimp only at *;clear h hR hLI hTT h0 h1 h2;go_enter Tryz.func76, Tryz.ntmps76
 go_wp2_with fail;refine (HSR.out _).mono ?_
 rintro r w1 ⟨rfl, hb1⟩;have x0 := hb1.cell (p := ⟨w.heap.size, 0, none⟩) zO
 have x1 := hb1.cell (p := ⟨w.heap.size, 1, none⟩) zO
 have x2 := hb1.cell (p := ⟨w.heap.size, 2, none⟩) zO
 simp at x0 x1 x2
 have hbw1 : Hid (Below w.heap.size w w1) := hid (Af hb1 zB)
 clear hb1;go_wp2_with fail;have HB2 := hid (hbw1.out.alloc hbw1.out.size (.cells #[.int .u64 e, .int .u64 n, .int .u64 t] 22))
 have HBL : Hid (Blk (w1.alloc (.cells #[.int .u64 e, .int .u64 n, .int .u64 t] 22)) w1.heap.size 22 #[.int .u64 e, .int .u64 n, .int .u64 t]) := hid (Blk.new _ _ _)
 have hs2 : w1.heap.size < (w1.alloc (.cells #[.int .u64 e, .int .u64 n, .int .u64 t] 22)).heap.size := zO
 generalize w1.alloc (.cells #[.int .u64 e, .int .u64 n, .int .u64 t] 22) = w2 at *
 have hsw := hbw1.out.size
 have HR := hid (HLI.out w2 w1.heap.size HBL.out (fun q => q < w2.heap.size ∧ ¬ Dr g a q) ⟨hs2, fun hf => by have := (HP.out.Eo hf).2; omega⟩)
 have HP1 := hid (HP.out.later HB2.out)
 have HLW := hid HB2.out
 clear x0 x1 x2;go_loopw [19] (fun i wr => ∃ k : Nat, k ≤ 3 ∧ i = .int .i64 k ∧ Hid (At w2 g base most (J ++ Cu (T.take k)) a wr)) (fun i _ => 3 - (intOf i).toNat)
 case atStart => exact ⟨0, Aj _, rfl, hid (by simpa [Cu] using At.refl HP1.out)⟩
 case round =>
  obtain ⟨k, hk, rfl, hp⟩ := hrel
  obtain ⟨a3, c3, hp3, ht3, ha3⟩ := hp.out
  rcases Bd k 3 with hlt | hge
  ·have hd3 := Dk ht3 ha3 HR.out
   have hkT : k < T.length := zC
   rw [show (3 : Nat) = T.length from hT3.symm] at hd3
   obtain ⟨b, o, hA, hbb, hc, hx0, hx1⟩ := Cw hd3 hkT
   simp only [Bk, Dd, AO] at hA
   obtain ⟨hA1, hA2⟩ := hA
   subst hA1 hA2;have hst := HNS.out k hkT
   have hfk := HMO.out (k + 1)
   rw [hst, Ag] at hfk
   have HSK := hid hst
   have hvk := (AX T[k].toNat).1
   have hJ3 := hp3.len
   simp only [Ag] at hJ3
   have hV := B6 wr hp3 T[k].toNat zC zU zU
   rw [toNat_cast hx0, Av J, ← hst] at hV
   have HV3 := hid hV
   have HT3 := hid (And.intro ht3 ha3)
   have i1 : (k : Int) < 3 := zC
   have d1 : decide ((k : Int) < 3) = true := Ae i1
   clear hV hd3 hst hp3 ht3 ha3 hp hfk hvk hJ3;generalize T[k] = y at *
   simp only [A3] at hc
   go_wp2_with fail;refine HV3.out.mono ?_
   rintro r w5 ⟨rfl, hst5⟩;have HN := hid (At.trans (J := J) HT3.out.1 HT3.out.2 hst5)
   clear hst5;go_wp2;go_roundw
   case rel => exact ⟨k + 1, zC, zV, HN⟩
   case measure => (simp [intOf]; try omega)
  ·obtain rfl : k = 3 := by omega
   rw [CY zC] at hp
   have HN := hid (At.later HLW.out hp.out)
   clear hp hp3 ht3 ha3;go_wp2;first | go_end0 | refine Al (Aw rfl _ _ _) rfl ?_
   exact ⟨rfl, HN.out⟩
theorem Gn {w : World} {b b' : Nat} {v : Value} {L : List UInt8} (h : BS w b v L) (hb : b' ≤ b) : BS w b' v L := by
 obtain ⟨h1, h2⟩ := h
 refine ⟨h1, ?_⟩
 rcases h2 with h2 | ⟨g, cap, cur, e1, e2, e3⟩
 ·exact .inl h2
 ·exact .inr ⟨g, cap, cur, e1, A4 hb e2, e3⟩
theorem OE (w : World) (s : G1) (h0 : inU s.epoch) (h1 : inU s.node) (h2 : inU s.tail) :
  Calls Tryz.prog 108 #[.agg #[.int .u64 s.epoch, .int .u64 s.node, .int .u64 s.tail]] w fun r w' => ∃ v, r = .returned v ∧ BS w' w.heap.size v (DH s) ∧ Below w.heap.size w w' := by
 obtain ⟨i0, hi, hz0, hz1, hz2⟩ := A8 Dz
 have HV : ∀ x : Int, inU x → ∀ W : World, Calls Tryz.prog 104 #[.int .u64 x] W fun r w' => ∃ v, r = .returned v ∧ w'.ownsRow W.heap.size 5 1 v (Ay x.toNat).length (byteCells (Ay x.toNat)) ∧ Below W.heap.size W w' := fun x hx W => by
  have := EH x.toNat (by have := hx.2; omega) W; rw [toNat_cast hx.1] at this; exact this
 have HE := hid (HV s.epoch h0)
 have HN := hid (HV s.node h1)
 have HT := hid (HV s.tail h2)
 have le := (AX s.epoch.toNat).1
 have ln := (AX s.node.toNat).1
 have lt := (AX s.tail.toNat).1
 unfold DH;generalize Ay s.epoch.toNat = E at *
 generalize Ay s.node.toNat = N at *
 generalize Ay s.tail.toNat = T at *
 have HOE := hid (AI E)
 have HON := hid (AI N)
 have HOT := hid (AI T)
 obtain ⟨e, n, t⟩ := s
 dsimp only at *;clear HV h0 h1 h2;go_enter Tryz.func108, Tryz.ntmps108
 go_wp2_with fail;refine (HE.out _).mono ?_
 rintro r w1 ⟨v1, rfl, hv1, hb1⟩;obtain ⟨a1, c1, rfl⟩ := AA hv1
 have x1 := hb1.cell (p := ⟨w.heap.size, 1, none⟩) zO
 have x2 := hb1.cell (p := ⟨w.heap.size, 2, none⟩) zO
 simp at x1 x2
 have hz1' : w.heap.size < w1.heap.size := by have := hb1.size; simp at this; omega
 have hO1 : BS w1 w.heap.size (.slice a1 E.length c1) E := Gn hv1 zO
 have hO1b := hv1
 have HO1 := hid hv1
 have hbw1 : Hid (Below w.heap.size w w1) := hid (Af hb1 zB)
 clear hv1 hO1 hO1b hb1;go_wp2_with fail;refine (HN.out _).mono ?_
 rintro r w2 ⟨v2, rfl, hv2, hb2⟩;obtain ⟨a2, c2, rfl⟩ := AA hv2
 have HS2 := hid (A5 (BJ rfl hv2))
 have HO2 := hid (AD HO1.out hb2)
 have y2 := (hb2.cell (p := ⟨w.heap.size, 2, none⟩) hz1').trans x2
 have hz2' := hb2.size
 have hbw2 := hid (Af hb2 hbw1.out)
 clear hv2 hb2 x1 x2;go_wp2_with (at_builtin; go_loud (refine Aq rfl _ _ _ rfl (w.heap.size + 1) 5 i0 (.int .u8 0) 1 1 As hi hz0 hz1 hz2 rfl zP (.slice a1 E.length c1) E.length (byteCells E) rfl (by simpa using HO2.out) a2 N.length c2 (byteCells N) rfl HS2.out HON.out zK zC zC ?_; intro v' w3 hown3 hgrow3 hat3; obtain ⟨a3, c3, rfl⟩ := AA hown3; have HO3 := hid hown3; have HGR3 := hid hgrow3; have HA3 := hid hat3; have hb23 : Below (w.heap.size + 1) w2 w3 := Below.grown (Below.refl _ _) HGR3.out zC (fun g e => (by have := (HO2.out.lt g e).1; simpa using this)); have z2 := (hb23.cell (p := ⟨w.heap.size, 2, none⟩) zO).trans y2; clear hown3 hgrow3 hat3))
 have o3 := BS.app HO3.out
 have HP3 := hid o3
 have hz3' := hb23.size
 have hbw3 := hid (hbw2.out.trans (hb23.mono zC))
 clear o3 hb23 y2;go_wp2_with fail;refine (HT.out _).mono ?_
 rintro r w4 ⟨v4, rfl, hv4, hb4⟩;obtain ⟨a4, c4, rfl⟩ := AA hv4
 have HS4 := hid (A5 (BJ rfl hv4))
 have HO4 := hid (AD HP3.out hb4)
 have hbw4 := hid (Af hb4 hbw3.out)
 have hz4' := hb4.size
 clear hv4 hb4 z2;have hl3 : (E ++ N).length = E.length + N.length := ZA
 have HO4' : Hid (w4.ownsRow (w.heap.size + 1) 5 1 (.slice a3 (E.length + N.length) c3) (E.length + N.length) (byteCells (E ++ N))) := hid (by have h := HO4.out; unfold BS at h; rw [hl3] at h; exact h)
 clear HO4;go_wp2_with (at_builtin; go_loud (refine Aq rfl _ _ _ rfl (w.heap.size + 1) 5 i0 (.int .u8 0) 1 1 As hi hz0 hz1 hz2 rfl zP (.slice a3 (E.length + N.length) c3) (E.length + N.length) (byteCells (E ++ N)) rfl HO4'.out a4 T.length c4 (byteCells T) rfl HS4.out HOT.out zK zC zC ?_; intro v' w5 hown5 hgrow5 hat5; obtain ⟨a5, c5, rfl⟩ := AA hown5; have HO5 := hid hown5; have HGR5 := hid hgrow5; have HA5 := hid hat5; clear hown5 hgrow5 hat5))
 have o5 : BS w5 (w.heap.size + 1) (.slice a5 (E.length + N.length + T.length) c5) (E ++ N ++ T) := by
  unfold BS;have h := HO5.out
  rw [Ej] at h
  rw [Ag, Ag]
  exact h
 have hb45 : Below (w.heap.size + 1) w4 w5 := Below.grown (Below.refl _ _) HGR5.out zC (fun g e => (HO4'.out.lt g e).1)
 have HF := hid (Gn o5 (show w.heap.size ≤ w.heap.size + 1 by omega))
 have HB := hid (hbw4.out.trans (hb45.mono zC))
 clear o5 hb45;go_wp2_with fail;go_ret;exact ⟨_, rfl, HF.out, HB.out⟩
theorem KF (w : World) (l : List Int) (al : Option Addr) (nl cl : Nat) (hl : AY.r (· < w.heap.size) w [.slice al nl cl] l) (hri : Ba l = true) (hlen : l.length ≤ 1000000) :
  Calls Tryz.prog 105 #[.slice al nl cl] w fun r w' => ∃ v, r = .returned v ∧ BS w' w.heap.size v (Gg l) ∧ Below w.heap.size w w' := by
 obtain ⟨rfl, hm, _, _⟩ := AS hl
 obtain ⟨i0, hi, hz0, hz1, hz2⟩ := A8 Dz
 have hul := Fq none l
 have hnb := Gb (DP none l)
 have hup := hid (fun (k : Nat) (h : k < l.length) => Ob l hri (DS hl) k h)
 have HL := hid hl
 have HU := hid (fun (k : Nat) (h : k < l.length) => I9 l none k h)
 have HRI := hid (fun (k : Nat) (h : k + 1 < l.length) => Gj l k h hri)
 have HMO := hid (fun k => Ey (DP none l) k)
 have HNS := hid (fun (k : Nat) (h : k < (DP none l).length) => Gp (DP none l) k h)
 unfold Gg;clear hl hri;go_enter Tryz.func105, Tryz.ntmps105
 go_wp2_with fail;go_loopw [3, 4] (fun v i wr => ∃ (k : Nat) (J : List UInt8), k ≤ l.length ∧ i = .int .i64 k ∧ BS wr w.heap.size v J ∧ Hid (J = Cu ((DP none l).take k)) ∧ (∃ aJ cJ, v = .slice aJ J.length cJ) ∧ Below w.heap.size w wr) (fun _ i _ => l.length - (intOf i).toNat)
 case atStart => exact ⟨0, [], Aj _, rfl, ⟨rfl, .inl ⟨rfl, rfl⟩⟩, hid (by simp [Cu]), ⟨_, _, rfl⟩, Below.refl _ _⟩
 case round =>
  obtain ⟨k, J, hk, rfl, hown, hJ, ⟨aJ, cJ, rfl⟩, hb⟩ := hrel
  rcases Bd k l.length with hlt | hge
  ·obtain ⟨b, o, hA, hbb, u0, hx⟩ := Cw HL.out hlt
   subst hA;have hst := HNS.out k zC
   have hmo := HMO.out (k + 1)
   have hub := hup.out k hlt
   have hu := HU.out k hlt
   rw [hst, Ag] at hmo
   have hJl : J.length + (Ay ((DP none l)[k]'zC).toNat).length ≤ 20000000 := by have := D8 List.length hJ.out; omega
   have hN0 : ∀ W : World, Calls Tryz.prog 104 #[.int .u64 ((DP none l)[k]'zC)] W fun r w' => ∃ v, r = .returned v ∧ w'.ownsRow W.heap.size 5 1 v (Ay ((DP none l)[k]'zC).toNat).length (byteCells (Ay ((DP none l)[k]'zC).toNat)) ∧ Below W.heap.size W w' := fun W => by
    have := EH ((DP none l)[k]'zC).toNat zC W
    rw [toNat_cast hub.1] at this
    exact this
   have hJ1 : J ++ Ay ((DP none l)[k]'zC).toNat = Cu ((DP none l).take (k + 1)) := by rw [hst, hJ.out]
   have HO := hid hown
   have i1 : (k : Int) < (l.length : Int) := zC
   have d1 : decide ((k : Int) < (l.length : Int)) = true := Ae i1
   have X0 := (hb.cell (p := ⟨b, o + k, none⟩) hbb).trans u0
   rcases Cz k with rfl | hk0
   ·rw [dif_pos rfl] at hu
    (try dsimp only at hu)
    rw [hu] at hJl hJ1
    have hN1 := fun W => hu ▸ hN0 W
    simp only [Hp, BE, A3] at X0
    have HN := hid hN1
    have HJ1 := hid hJ1
    generalize Ay l[0].toNat = VK at *
    have HONE := hid (AI VK)
    generalize l[0] = y at *
    clear hst hmo hub hu hJ1 hN0 hN1 hown hJ u0;go_wp2_with fail;refine (HN.out _).mono ?_
    rintro r w3 ⟨v3, rfl, hv3, hb3⟩;obtain ⟨a3, c3, rfl⟩ := AA hv3
    have HS3 := hid (A5 (BJ rfl hv3))
    have HO3 := hid (AD HO.out hb3)
    have hz := hb.size
    have hz3 := hb3.size
    clear hv3;go_wp2_with (at_builtin; go_loud (refine Aq rfl _ _ _ rfl w.heap.size 5 i0 (.int .u8 0) 1 1 As hi hz0 hz1 hz2 rfl zP (.slice aJ J.length cJ) J.length (byteCells J) rfl HO3.out a3 VK.length c3 (byteCells VK) rfl HS3.out HONE.out zK zC zC ?_; intro v' w4 hown4 hgrow4 hat4; obtain ⟨a4, c4, rfl⟩ := AA hown4; have HO4 := hid (BS.app hown4); have hbg4 : Below w.heap.size w3 w4 := (Below.grown (Below.refl _ _) hgrow4 zC (fun g e => (HO3.out.lt g e).1)); have hb4 : Below w.heap.size w w4 := hb.trans ((hb3.mono hb.size).trans hbg4); clear hown4 hgrow4 hat4))
    go_roundw
    case rel => exact ⟨1, J ++ VK, zC, zV, HO4.out, HJ1, ⟨_, _, ZA⟩, hb4⟩
    case measure => (simp [intOf]; try omega)
   ·obtain ⟨m, rfl⟩ : ∃ m, k = m + 1 := ⟨k - 1, zC⟩
    obtain ⟨b', o', hA', hbb', t0, hty⟩ := Cw HL.out (show m < l.length by omega)
    simp only [Bk, Dd] at hA'
    obtain ⟨rfl, rfl, _⟩ := hA'
    have T0 := (hb.cell (p := ⟨b, o + m, none⟩) hbb).trans t0
    have hri := HRI.out m hlt
    rw [dif_neg zC] at hu
    simp only [DR] at hu
    rw [hu] at hJl hJ1
    have hN1 := fun W => hu ▸ hN0 W
    have HN := hid hN1
    have HJ1 := hid hJ1
    have i1' : (m : Int) + 1 < (l.length : Int) := zC
    have i2 : (m : Int) < (l.length : Int) := zC
    have d2 : decide ((m : Int) + 1 < (l.length : Int)) = true := Ae i1'
    have d3 : decide (m + 1 < l.length) = true := Ae hlt
    have d4 : ((m : Int) + 1 == 0) = false := beq_eq_false_iff_ne.2 zC
    generalize Ay (l[m + 1] - (l[m]'zC) - 1).toNat = VK at *
    have HONE := hid (AI VK)
    generalize l[m + 1] = y at *
    generalize l[m]'zC = z at *
    have w1 : 0 ≤ y - z := zC
    have q0 : (0 : Int) ≤ (m : Int) + 1 := zC
    have q1 : (0 : Int) ≤ (m : Int) + 1 - 1 := zC
    have w2 : 0 ≤ y - z - 1 := zC
    have hD : wr.drew.cell? ⟨b, o + (m + 1), none⟩ = some (.int .u64 y) ∧ wr.drew.cell? ⟨b, o + m, none⟩ = some (.int .u64 z) := ⟨X0, T0⟩
    have hdz : wr.heap.size ≤ wr.drew.heap.size := Ak _
    have hbw : b < wr.heap.size := Cr _ _ X0
    have HWS : Hid (IntKind.u64.wrap (y - z) = y - z) := hid (by rw [Hq]; omega)
    have HWM : Hid (IntKind.i64.wrap (m : Int) = (m : Int)) := hid (by rw [IntKind.wrap_i64]; omega)
    have HWT : Hid (IntKind.u64.wrap (y - z - 1) = y - z - 1) := hid (by rw [Hq]; omega)
    have hz := hb.size
    clear hst hmo hub hu hJ1 hN0 hN1 hown hJ u0 t0;go_wp2_with fail;refine Cd (S := fun w' => w'.cell? ⟨b, o + (m + 1), none⟩ = some (.int .u64 y) ∧ w'.cell? ⟨b, o + m, none⟩ = some (.int .u64 z)) zG hD (fun hHeld => ?_)
    refine Ap (i := 0) (oi := _) (v := ?_) rfl zE zE zE (fun _ _ _ h => h) (Or.inl ⟨zT, ?_⟩) zM ?_
    rotate_left
    ·(intro w hSw; (try dsimp only at hSw); go_simp <;> with_reducible rfl)
    (try simp only [Act.put, Aa, Ab, Ac])
    (try simp only [AJ, AB, Az, Act.put, Aa, Ab, Ac])
    refine Ap (i := 1) (oi := _) (v := ?_) rfl zE zE zE (fun _ _ _ h => h) (Or.inl ⟨zT, ?_⟩) zM ?_
    rotate_left
    ·(intro w hSw; (try dsimp only at hSw); go_simp <;> with_reducible rfl)
    (try simp only [Act.put, Aa, Ab, Ac])
    (try simp only [AJ, AB, Az, Act.put, Aa, Ab, Ac])
    refine Ap (i := 2) (oi := _) (v := ?_) rfl zE zE zE (fun _ _ _ h => h) (Or.inl ⟨zT, ?_⟩) zM ?_
    rotate_left
    ·(intro w hSw; (try dsimp only at hSw); go_simp <;> with_reducible rfl)
    (try simp only [Act.put, Aa, Ab, Ac])
    (try simp only [AJ, AB, Az, Act.put, Aa, Ab, Ac])
    refine Ap (i := 3) (oi := _) (v := ?_) rfl zE zE zE (fun _ _ _ h => h) (Or.inl ⟨zT, ?_⟩) zM ?_
    rotate_left
    ·(intro w hSw; (try dsimp only at hSw); go_simp <;> with_reducible rfl)
    (try simp only [Act.put, Aa, Ab, Ac])
    (try simp only [AJ, AB, Az, Act.put, Aa, Ab, Ac])
    refine Ap (i := 4) (oi := _) (v := ?_) rfl zE zE zE (fun _ _ _ h => h) (Or.inl ⟨zT, ?_⟩) zM ?_
    rotate_left
    ·(intro w hSw; (try dsimp only at hSw); go_simp <;> with_reducible rfl)
    (try simp only [Act.put, Aa, Ab, Ac])
    (try simp only [AJ, AB, Az, Act.put, Aa, Ab, Ac])
    refine Ap (i := 5) (oi := _) (v := ?_) rfl zE zE zE (fun _ _ _ h => h) (Or.inl ⟨zT, ?_⟩) zM ?_
    rotate_left
    ·(intro w hSw; (try dsimp only at hSw); go_simp <;> with_reducible rfl)
    (try simp only [Act.put, Aa, Ab, Ac])
    (try simp only [AJ, AB, Az, Act.put, Aa, Ab, Ac])
    refine Ap (i := 6) (oi := _) (v := ?_) rfl zE zE zE (fun _ _ _ h => h) (Or.inl ⟨zT, ?_⟩) zM ?_
    rotate_left
    ·(intro w hSw; (try dsimp only at hSw); go_simp <;> with_reducible rfl)
    (try simp only [Act.put, Aa, Ab, Ac])
    (try simp only [AJ, AB, Az, Act.put, Aa, Ab, Ac])
    refine Ap (i := 7) (oi := _) (v := ?_) rfl zE zE zE (fun _ _ _ h => h) (Or.inl ⟨zT, ?_⟩) zM ?_
    rotate_left
    ·(intro w hSw; (try dsimp only at hSw); go_simp <;> with_reducible rfl)
    (try simp only [Act.put, Aa, Ab, Ac])
    (try simp only [AJ, AB, Az, Act.put, Aa, Ab, Ac])
    (try rw [HWM.out])
    refine Ap (i := 8) (oi := _) (v := ?_) rfl zE zE zE (fun _ _ _ h => h) (Or.inl ⟨zT, ?_⟩) zM ?_
    rotate_left
    ·(intro w hSw; (try dsimp only at hSw); go_simp <;> with_reducible rfl)
    (try simp only [Act.put, Aa, Ab, Ac])
    (try simp only [AJ, AB, Az, Act.put, Aa, Ab, Ac])
    refine Ap (i := 9) (oi := _) (v := ?_) rfl zE zE zE (fun _ _ _ h => h) (Or.inl ⟨zT, ?_⟩) zM ?_
    rotate_left
    ·(intro w hSw; (try dsimp only at hSw); go_simp <;> with_reducible rfl)
    (try simp only [Act.put, Aa, Ab, Ac])
    (try simp only [AJ, AB, Az, Act.put, Aa, Ab, Ac])
    refine Ap (i := 10) (oi := _) (v := ?_) rfl zE zE zE (fun _ _ _ h => h) (Or.inl ⟨zT, ?_⟩) zM ?_
    rotate_left
    ·(intro w hSw; (try dsimp only at hSw); go_simp <;> with_reducible rfl)
    (try simp only [Act.put, Aa, Ab, Ac])
    (try simp only [AJ, AB, Az, Act.put, Aa, Ab, Ac])
    (try rw [HWS.out])
    refine Ap (i := 11) (oi := _) (v := ?_) rfl zE zE zE (fun _ _ _ h => h) (Or.inl ⟨zT, ?_⟩) zM ?_
    rotate_left
    ·(intro w hSw; (try dsimp only at hSw); go_simp <;> with_reducible rfl)
    (try simp only [Act.put, Aa, Ab, Ac])
    (try simp only [AJ, AB, Az, Act.put, Aa, Ab, Ac])
    (try rw [HWT.out])
    refine AP (rs := [12]) zE zO ?_
    refine AG (o := _) rfl (fun K hK => ?_) AllReadyH.nil
    (go_simp; (try rw [HWS.out]); (try rw [HWT.out]); go_at_call 104; refine (HN.out _).mono ?_; rintro r w3 ⟨v3, rfl, hv3, hb3⟩; obtain ⟨a3, c3, rfl⟩ := AA hv3; have HS3 := hid (A5 (BJ rfl hv3)); have HO3 := hid (AD HO.out (Af hb3 (Below.refl _ _).drew)); have f1 := (hb3.cell (p := ⟨b, o + (m + 1), none⟩) hbw).trans hD.1; have f2 := (hb3.cell (p := ⟨b, o + m, none⟩) hbw).trans hD.2; have hz3 := hb3.size; clear hv3)
    refine hK.out _ _ ?_ (fun hHeld => ?_)
    ·((try dsimp only); refine ⟨?_, ?_⟩ <;> (first | assumption | (go_keep; done)))
    clear hK K
    (try simp only [Act.put, Aa, Ab, Ac])
    refine AP (rs := [13]) zE zO ?_
    refine AG (o := _) rfl (fun K hK => ?_) AllReadyH.nil
    (refine BI zT _ _ _ zT w.heap.size 5 i0 (.int .u8 0) 1 1 As hi hz0 hz1 hz2 rfl zP (.slice aJ J.length cJ) J.length (byteCells J) zT HO3.out a3 VK.length c3 (byteCells VK) zT HS3.out HONE.out zK zC zC ?_; intro a4 c4 w4 hown4 hgrow4 hat4; have HO4 := hid (BS.app hown4); have hbg4 : Below w.heap.size w3 w4 := (Below.grown (Below.refl _ _) hgrow4 zC (fun g e => (HO3.out.lt g e).1)); have hb4 : Below w.heap.size w w4 := hb.trans ((Below.refl _ _).drew.trans ((hb3.mono hb.size).trans hbg4)); have g1 := (hbg4.cell (p := ⟨b, o + (m + 1), none⟩) hbb).trans f1; have g2 := (hbg4.cell (p := ⟨b, o + m, none⟩) hbb).trans f2; clear hown4 hgrow4 hat4)
    refine hK.out _ _ ?_ (fun hHeld => ?_)
    ·((try dsimp only); refine ⟨?_, ?_⟩ <;> (first | assumption | (go_keep; done)))
    clear hK K
    (try simp only [Act.put, Aa, Ab, Ac])
    refine Ap (i := 14) (oi := _) (v := ?_) rfl zE zE zE (fun _ _ _ h => h) (Or.inl ⟨zT, ?_⟩) zM ?_
    rotate_left
    ·(intro w hSw; (try dsimp only at hSw); go_simp <;> with_reducible rfl)
    (try simp only [Act.put, Aa, Ab, Ac])
    (try simp only [AJ, AB, Az, Act.put, Aa, Ab, Ac])
    refine CG zG ?_ _
    go_wp2_with fail;go_roundw
    case rel => exact ⟨m + 1 + 1, J ++ VK, zC, zV, HO4.out, HJ1, ⟨_, _, ZA⟩, hb4⟩
    case measure => (simp [intOf]; try omega)
  ·obtain rfl : k = l.length := by omega
   have d1 : decide ((l.length : Int) < (l.length : Int)) = false := Ad zC
   have hfin : Hid (J = Cu (DP none l)) := hid zBv
   have HO := hid hown
   clear hown hJ;go_wp2;go_ret;rw [← hfin.out]
   exact ⟨_, rfl, HO.out, hb⟩
theorem MW (l : List Int) (x : Int) (k : Nat) (h : k < l.length) : (l.drop k).contains x = (decide (l[k] = x) || (l.drop (k + 1)).contains x) := by
 rw [AW h, List.contains_cons]
 congr 1
 rw [EM, beq_iff_eq, decide_eq_true_iff]
 exact eq_comm
theorem Si (l : List Int) (x : Int) (a : Option Addr) (n c : Nat) (w : World) (hl : AY.r (· < w.heap.size) w [.slice a n c] l) :
  Calls Tryz.prog 251 #[.slice a n c, .int .u64 x] w fun r w' => r = .returned (.bool (l.contains x)) ∧ Below w.heap.size w w' := by
 obtain ⟨rfl, hm, _, _⟩ := AS hl
 have HL := hid hl; clear hl
 go_enter Tryz.func251, Tryz.ntmps251
 go_wp2;go_loopw [5] (fun i wr => ∃ k : Nat, k ≤ l.length ∧ i = .int .i64 k ∧ Hid (l.contains x = (l.drop k).contains x) ∧ Below w.heap.size w wr) (fun i _ => l.length - (intOf i).toNat)
 case atStart => exact ⟨0, Aj _, rfl, hid rfl, Below.refl _ _⟩
 case round =>
  obtain ⟨k, hk, rfl, hf, hb⟩ := hrel
  by_cases hlt : k < l.length
  ·obtain ⟨b, o, hA, hbb, x0, hx0, hx1⟩ := Cw (lift HL.out hb) hlt
   subst hA;have hst := hid (MW l x k hlt)
   have i1 : (k : Int) < (l.length : Int) := zC
   have d1 : decide ((k : Int) < (l.length : Int)) = true := Ae i1
   generalize l[k] = y at *
   by_cases he : y = x
   ·have d2 : (y == x) = true := beq_iff_eq.2 he
    have hff : Hid (l.contains x = true) := hid (by rw [hf.out, hst.out, Ae he]; rfl)
    clear he;go_wp2_with fail;go_ret;exact ⟨zH, hb⟩
   ·have d2 : (y == x) = false := beq_eq_false_iff_ne.2 he
    have hff : Hid (l.contains x = (l.drop (k + 1)).contains x) := hid (by rw [hf.out, hst.out, Ad he]; rfl)
    clear he;go_wp2_with fail;go_roundw
    case rel => exact ⟨k + 1, zC, zV, hff, hb⟩
    case measure => (simp [intOf]; try omega)
  ·obtain rfl : k = l.length := by omega
   have d1 : decide ((l.length : Int) < (l.length : Int)) = false := Ad zC
   have hff : Hid (l.contains x = false) := hid ZZ
   go_wp2_with fail;go_ret;exact ⟨zH, hb⟩
theorem Nv (l : List Int) (x : Int) (a : Option Addr) (n c : Nat) (w : World) (hl : AY.r (· < w.heap.size) w [.slice a n c] l) :
  Calls Tryz.prog 269 #[.slice a n c, .int .u64 x] w fun r w' => (∃ j : Int, r = .returned (.int .i64 j) ∧ decide (0 ≤ j) = l.contains x) ∧ Below w.heap.size w w' := by
 obtain ⟨rfl, hm, _, _⟩ := AS hl
 have HL := hid hl; clear hl
 go_enter Tryz.func269, Tryz.ntmps269
 go_wp2;go_loopw [8] (fun i wr => ∃ k : Nat, k ≤ l.length ∧ i = .int .i64 k ∧ Hid (l.contains x = (l.drop k).contains x) ∧ Below w.heap.size w wr) (fun i _ => l.length - (intOf i).toNat)
 case atStart => exact ⟨0, Aj _, rfl, hid rfl, Below.refl _ _⟩
 case round =>
  obtain ⟨k, hk, rfl, hf, hb⟩ := hrel
  by_cases hlt : k < l.length
  ·obtain ⟨b, o, hA, hbb, x0, hx0, hx1⟩ := Cw (lift HL.out hb) hlt
   subst hA;have hst := hid (MW l x k hlt)
   have i1 : (k : Int) < (l.length : Int) := zC
   have d1 : decide ((k : Int) < (l.length : Int)) = true := Ae i1
   generalize l[k] = y at *
   by_cases he : y = x
   ·have d2 : (x == y) = true := beq_iff_eq.2 he.symm
    have hff : Hid (l.contains x = true) := hid (by rw [hf.out, hst.out, Ae he]; rfl)
    clear he;go_wp2_with fail;go_ret;exact ⟨⟨(k : Int), rfl, by rw [hff.out]; exact Ae (by omega)⟩, hb⟩
   ·have d2 : (x == y) = false := beq_eq_false_iff_ne.2 (fun e => he e.symm)
    have hff : Hid (l.contains x = (l.drop (k + 1)).contains x) := hid (by rw [hf.out, hst.out, Ad he]; rfl)
    clear he;go_wp2_with fail;go_roundw
    case rel => exact ⟨k + 1, zC, zV, hff, hb⟩
    case measure => (simp [intOf]; try omega)
  ·obtain rfl : k = l.length := by omega
   have d1 : decide ((l.length : Int) < (l.length : Int)) = false := Ad zC
   have hff : Hid (l.contains x = false) := hid ZZ
   go_wp2_with fail;go_ret;exact ⟨⟨-1, rfl, zH⟩, hb⟩
theorem KX (l : List Int) (x : Int) (a : Option Addr) (n c : Nat) (w : World) (hl : AY.r (· < w.heap.size) w [.slice a n c] l) :
  Calls Tryz.prog 250 #[.slice a n c, .int .u64 x] w fun r w' => r = .returned (.bool (l.contains x)) ∧ Below w.heap.size w w' := by
 have HI := hid (Nv l x a n c w hl)
 obtain ⟨rfl, hm, _, _⟩ := AS hl
 generalize l.contains x = hh at *
 clear hl;go_enter Tryz.func250, Tryz.ntmps250
 go_wp2_with fail;refine HI.out.mono ?_
 rintro r w1 ⟨⟨j, rfl, hj⟩, hb1⟩;have HJ := hid hj
 go_wp2_with fail;go_ret;exact ⟨by rw [← HJ.out]; rfl, hb1⟩
theorem PA (l : List Int) (f : Int → Bool) (k : Nat) (h : k < l.length) : (l.drop k).all f = (f l[k] && (l.drop (k + 1)).all f) := by
 rw [AW h, List.all_cons]
theorem Mi (l : List Int) (o : List (List Int)) (k : Nat) (h : k < o.length) : Cp l (o.drop k) = ((l.all fun n => !o[k].contains n) && Cp l (o.drop (k + 1))) := by
 unfold Cp; rw [AW h, List.all_cons]
theorem DZ (l : List Int) (O : List (List Int)) (a : Option Addr) (n c : Nat) (a' : Option Addr) (n' c' : Nat) (w : World) (hl : AY.r (· < w.heap.size) w [.slice a n c] l) (ho : DW.r (· < w.heap.size) w [.slice a' n' c'] O) :
  Calls Tryz.prog 219 #[.slice a n c, .slice a' n' c'] w fun r w' => r = .returned (.bool (Cp l O)) ∧ Below w.heap.size w w' := by
 obtain ⟨rfl, hm, _, _⟩ := AS hl
 obtain ⟨rfl, hm', _, _⟩ := AS ho
 have HL := hid hl
 have HO := hid ho
 clear hl ho;go_enter Tryz.func219, Tryz.ntmps219
 go_wp2_with fail;go_loopw [11] (fun i wr => ∃ k : Nat, k ≤ O.length ∧ i = .int .i64 k ∧ Hid (Cp l O = Cp l (O.drop k)) ∧ Below w.heap.size w wr) (fun i _ => O.length - (intOf i).toNat)
 case atStart => exact ⟨0, Aj _, rfl, hid rfl, Below.refl _ _⟩
 case round =>
  obtain ⟨k, hk, rfl, hf, hb⟩ := hrel
  by_cases hlt : k < O.length
  ·obtain ⟨b, o, hA, hbb, ak, ck, x0, xl⟩ := EO (lift HO.out hb) hlt
   subst hA;have hst := hid (Mi l O k hlt)
   have HX := hid xl
   have HB := hid hb
   have i1 : (k : Int) < (O.length : Int) := zC
   have d1 : decide ((k : Int) < (O.length : Int)) = true := Ae i1
   generalize O[k] = X at *
   clear xl hb;obtain ⟨wo, hwo⟩ : ∃ wo : World, wo = wr := ⟨_, rfl⟩
   subst hwo;go_wp2_with fail;go_loopw [17] (fun i wr => ∃ j : Nat, j ≤ l.length ∧ i = .int .i64 j ∧ Hid ((l.all fun n => !X.contains n) = (l.drop j).all fun n => !X.contains n) ∧ Below wo.heap.size wo wr) (fun i _ => l.length - (intOf i).toNat)
   case atStart => exact ⟨0, Aj _, rfl, hid rfl, Below.refl _ _⟩
   case round =>
    obtain ⟨j, hj, rfl, hg, hbj⟩ := hrel
    have hbw := HB.out.trans (hbj.mono HB.out.size)
    have HBW := hid hbw
    by_cases hjl : j < l.length
    ·obtain ⟨b2, o2, hA2, hbb2, y0, hy0, hy1⟩ := Cw (lift HL.out hbw) hjl
     subst hA2;have hsj := hid (PA l (fun n => !X.contains n) j hjl)
     have HCT := hid (fun y => KX X y ak _ ck wr (lift HX.out hbj))
     have j1 : (j : Int) < (l.length : Int) := zC
     have e1 : decide ((j : Int) < (l.length : Int)) = true := Ae j1
     generalize l[j] = y at *
     have hct := HCT.out y
     by_cases hc : X.contains y = true
     ·rw [hc] at hct
      have HC := hid hct
      have hff : Hid (Cp l O = false) := hid zBa
      clear hc hct hbw hbj HCT;go_wp2_with fail;refine HC.out.mono ?_
      rintro r w3 ⟨rfl, hb3⟩;have hbe := Af hb3 HBW.out
      go_wp2_with fail;go_ret;exact ⟨zH, hbe⟩
     ·have hc' := Hw hc
      rw [hc'] at hct
      have HC := hid hct
      have hgg : Hid ((l.all fun n => !X.contains n) = (l.drop (j + 1)).all fun n => !X.contains n) := hid zBs
      have HBJ := hid hbj
      clear hc hc' hct hbw hbj HCT;go_wp2_with fail;refine HC.out.mono ?_
      rintro r w3 ⟨rfl, hb3⟩;have hbe := Af hb3 HBJ.out
      go_wp2_with fail;go_roundw
      case rel => exact ⟨j + 1, zC, zV, hgg, hbe⟩
      case measure => (simp [intOf]; try omega)
    ·obtain rfl : j = l.length := by omega
     have e1 : decide ((l.length : Int) < (l.length : Int)) = false := Ad zC
     have hff : Hid (Cp l O = Cp l (O.drop (k + 1))) := hid zCd
     clear hbj hbw;go_wp2_with fail;go_roundw
     case rel => exact ⟨k + 1, zC, zV, hff, HBW.out⟩
     case measure => (simp [intOf]; try omega)
  ·obtain rfl : k = O.length := by omega
   have d1 : decide ((O.length : Int) < (O.length : Int)) = false := Ad zC
   have hff : Hid (Cp l O = true) := hid ZZ
   go_wp2_with fail;go_ret;exact ⟨zH, hb⟩
theorem Jw (l : List Int) (h : 1 ≤ l.length) : l.getLastD 0 = l[l.length - 1] := by
 rw [List.getLastD_eq_getLast?, List.getLast?_eq_getElem?, AR zC]; rfl
theorem EN (l : List Int) (a : Option Addr) (n c : Nat) (w : World) (hl : AY.r (· < w.heap.size) w [.slice a n c] l) :
  Calls Tryz.prog 218 #[.slice a n c] w fun r w' => r = .returned (.bool (CT l)) ∧ Below w.heap.size w w' := by
 obtain ⟨rfl, hm, _, _⟩ := AS hl
 have HR := JN l a _ c w hl
 have hnr : CT l = (decide (1 ≤ l.length ∧ l.length ≤ 8) && (Ba l && decide (l.getLastD 0 ≤ 4294967295))) := rfl
 by_cases h1 : 1 ≤ l.length
 ·have d1 : decide ((1 : Int) ≤ (l.length : Int)) = true := Ae zC
  by_cases h2 : l.length ≤ 8
  ·have d2 : decide ((l.length : Int) ≤ 8) = true := Ae zC
   rw [Ae (⟨h1, h2⟩ : 1 ≤ l.length ∧ l.length ≤ 8), Ce, Jw l h1] at hnr
   obtain ⟨b, o, hA, hbb, x0, hx0, hx1⟩ := Cw hl (i := l.length - 1) zC
   subst hA;obtain ⟨m, hm⟩ : ∃ m, l.length = m + 1 := ⟨l.length - 1, zC⟩
   simp only [hm, DR] at hnr x0 hx0 hx1 HR d1 d2 ⊢
   have HNR := hid hnr
   generalize l[m]'zC = y at *
   generalize Ba l = R at *
   generalize CT l = NR at *
   have q1 : (0 : Int) ≤ (m : Int) + 1 - 1 := zC
   have HRR := hid HR
   have hmm : m ≤ 7 := zC
   clear hl HR hnr h1 h2 hm;cases R
   ·have hff : Hid (NR = false) := hid (by rw [HNR.out]; rfl)
    go_enter Tryz.func218, Tryz.ntmps218
    go_wp2_with fail;refine HRR.out.mono ?_
    rintro r w1 ⟨rfl, hb1⟩;go_wp2_with fail;go_ret;exact ⟨zH, hb1⟩
   ·have hff : Hid (NR = decide (y ≤ 4294967295)) := hid (by rw [HNR.out]; rfl)
    go_enter Tryz.func218, Tryz.ntmps218
    go_wp2_with fail;refine HRR.out.mono ?_
    rintro r w1 ⟨rfl, hb1⟩;have X0 := (hb1.cell (p := ⟨b, o + m, none⟩) hbb).trans x0
    clear x0;go_wp2_with fail;go_ret;exact ⟨zH, hb1⟩
  ·have d2 : decide ((l.length : Int) ≤ 8) = false := Ad zC
   have hff : Hid (CT l = false) := hid (by rw [hnr, Ad (fun h => h2 h.2 : ¬ (1 ≤ l.length ∧ l.length ≤ 8))]; rfl)
   clear hl HR hnr h1 h2;go_enter Tryz.func218, Tryz.ntmps218
   go_wp2_with fail;go_ret;exact ⟨zH, Below.refl _ _⟩
 ·have d1 : decide ((1 : Int) ≤ (l.length : Int)) = false := Ad zC
  have hff : Hid (CT l = false) := hid (by rw [hnr, Ad (fun h => h1 h.1 : ¬ (1 ≤ l.length ∧ l.length ≤ 8))]; rfl)
  clear hl HR hnr h1;go_enter Tryz.func218, Tryz.ntmps218
  go_wp2_with fail;go_ret;exact ⟨zH, Below.refl _ _⟩
theorem Oz (O : List (List Int)) (q : Nat) (l : List Int) (a : Option Addr) (n c : Nat) (a' : Option Addr) (n' c' : Nat) (w : World) (ho : DW.r (· < w.heap.size) w [.slice a n c] O) (hl : AY.r (· < w.heap.size) w [.slice a' n' c'] l) (hq : q ≤ O.length) :
  Calls Tryz.prog 221 #[.slice a n c, .int .i64 (q : Int), .slice a' n' c'] w fun r w' => r = .returned (.bool (!Cp l (O.take q))) ∧ Below w.heap.size w w' := by
 obtain ⟨rfl, hm, _, _⟩ := AS ho
 obtain ⟨rfl, hm', _, _⟩ := AS hl
 have HL := hid hl
 have HO := hid ho
 have hqt : (O.take q).length = q := by rw [K2]; omega
 have HG := hid (fun (k : Nat) (h : k < q) => (by rw [List.getElem_take] : (O.take q)[k]'zC = O[k]'zC))
 obtain ⟨Y, hY⟩ : ∃ Y, O.take q = Y := ⟨_, rfl⟩
 simp only [hY] at HG hqt ⊢
 clear hl ho;go_enter Tryz.func221, Tryz.ntmps221
 go_wp2_with fail;go_loopw [7] (fun i wr => ∃ k : Nat, k ≤ q ∧ i = .int .i64 k ∧ Hid (Cp l Y = Cp l (Y.drop k)) ∧ Below w.heap.size w wr) (fun i _ => q - (intOf i).toNat)
 case atStart => exact ⟨0, Aj _, rfl, hid rfl, Below.refl _ _⟩
 case round =>
  obtain ⟨k, hk, rfl, hf, hb⟩ := hrel
  by_cases hlt : k < q
  ·obtain ⟨b, o, hA, hbb, ak, ck, x0, xl⟩ := EO (lift HO.out hb) (show k < O.length by omega)
   subst hA;have hst := Mi l Y k zC
   rw [HG.out k hlt] at hst
   have hst := hid hst
   have HX := hid xl
   have HB := hid hb
   have hbl : b < wr.heap.size := Cr _ _ x0
   have i1 : (k : Int) < (q : Int) := zC
   have i2 : (k : Int) < (O.length : Int) := zC
   have d1 : decide ((k : Int) < (q : Int)) = true := Ae i1
   generalize O[k]'zC = X at *
   clear xl hb;obtain ⟨wo, hwo⟩ : ∃ wo : World, wo = wr := ⟨_, rfl⟩
   subst hwo;go_wp2_with fail;go_loopw [8] (fun i wr => ∃ j : Nat, j ≤ l.length ∧ i = .int .i64 j ∧ Hid ((l.all fun n => !X.contains n) = (l.drop j).all fun n => !X.contains n) ∧ Below wo.heap.size wo wr) (fun i _ => l.length - (intOf i).toNat)
   case atStart => exact ⟨0, Aj _, rfl, hid rfl, Below.refl _ _⟩
   case round =>
    obtain ⟨j, hj, rfl, hg, hbj⟩ := hrel
    have hbw := HB.out.trans (hbj.mono HB.out.size)
    have HBW := hid hbw
    by_cases hjl : j < l.length
    ·obtain ⟨b2, o2, hA2, hbb2, y0, hy0, hy1⟩ := Cw (lift HL.out hbw) hjl
     subst hA2;have hsj := hid (PA l (fun n => !X.contains n) j hjl)
     have HCT := hid (fun y (W : World) (hW : Below wr.heap.size wr W) => Si X y ak _ ck W (lift (lift HX.out hbj) hW))
     have j1 : (j : Int) < (l.length : Int) := zC
     have e1 : decide ((j : Int) < (l.length : Int)) = true := Ae j1
     have X0 := fun s : A1 wr => s.cell ((hbj.cell (p := ⟨b, o + k, none⟩) hbl).trans x0)
     have Y0 := fun s : A1 wr => s.cell y0
     clear y0;generalize l[j] = y at *
     have hct := HCT.out y
     by_cases hc : X.contains y = true
     ·simp only [hc] at hct
      have HC := hid hct
      have hff : Hid (Cp l Y = false) := hid zBa
      clear hc hct hbw hbj HCT;go_wp2_with fail;refine Ax zG zG ?_
      repeat (go_big_quiet_step ((go_at_call 251; exact Be (HC.out _ (A1.below _)))))
      refine AL ?_
      rintro W5 ⟨⟨W5', hb5⟩, rfl⟩;have hbe := Af hb5 HBW.out
      go_wp2_with fail;go_ret;exact ⟨zH, hbe⟩
     ·have hc' := Hw hc
      simp only [hc'] at hct
      have HC := hid hct
      have hgg : Hid ((l.all fun n => !X.contains n) = (l.drop (j + 1)).all fun n => !X.contains n) := hid zBs
      have HBJ := hid hbj
      clear hc hc' hct hbw hbj HCT;go_wp2_with fail;refine Ax zG zG ?_
      repeat (go_big_quiet_step ((go_at_call 251; exact Be (HC.out _ (A1.below _)))))
      refine AL ?_
      rintro W5 ⟨⟨W5', hb5⟩, rfl⟩;have hbe := Af hb5 HBJ.out
      go_wp2_with fail;go_roundw
      case rel => exact ⟨j + 1, zC, zV, hgg, hbe⟩
      case measure => (simp [intOf]; try omega)
    ·obtain rfl : j = l.length := by omega
     have e1 : decide ((l.length : Int) < (l.length : Int)) = false := Ad zC
     have hff : Hid (Cp l Y = Cp l (Y.drop (k + 1))) := hid zCd
     clear hbj hbw;go_wp2_with fail;go_roundw
     case rel => exact ⟨k + 1, zC, zV, hff, HBW.out⟩
     case measure => (simp [intOf]; try omega)
  ·obtain rfl : k = q := by omega
   have d1 : decide ((k : Int) < (k : Int)) = false := Ad zC
   have hff : Hid (Cp l Y = true) := hid (by rw [hf.out, show k = Y.length by omega, K4]; rfl)
   go_wp2_with fail;go_ret;exact ⟨zH, hb⟩
theorem RX {W : World} {base : Nat} {av : Option Addr} {cv m : Nat} {J : List Int} (h : W.ownsRow base 22 1 (.slice av J.length cv) J.length (BF J)) (hx : ∀ x ∈ J, 0 ≤ x ∧ x ≤ 18446744073709551615) (hm : J.length = m + 1) : ∃ b o, av = some ⟨b, o, none⟩ ∧ W.cell? ⟨b, o + m, none⟩ = some (.int .u64 (J.getLastD 0)) := by
 obtain ⟨b, o, e, _, hc, _⟩ := Cw (EE hx rfl h) (i := m) zC
 refine ⟨b, o, e, ?_⟩
 rw [hc, Jw J zC]
 simp only [hm, DR]
theorem QI {J : List Int} (hx : ∀ x ∈ J, 0 ≤ x ∧ x ≤ 18446744073709551615) (h : J ≠ []) : 0 ≤ J.getLastD 0 ∧ J.getLastD 0 ≤ 18446744073709551615 := by
 have hl : 1 ≤ J.length := by cases J <;> simp_all
 rw [Jw J hl]
 exact hx _ (Bl _)
theorem Oa (w : World) {g : Nat} {B : List UInt8} {a : Option Addr} {s : Rs} (h : AZ w g B a s) (hB : B.length ≤ 1000000000) (N : Nat) (hN : N ≤ 1000) :
  Calls Tryz.prog 190 #[.pointer (some ⟨g, 0, none⟩), .int .i64 (N : Int)] w fun r w' => ∃ v, r = .returned v ∧ AY.r (fun q => w.heap.size ≤ q ∧ q < w'.heap.size) w' [v] (Rs.EZ B N s []).2 ∧ AE w g B a (Rs.EZ B N s []).1 w' := by
 obtain ⟨i0, hi, hz0, hz1, hz2⟩ := A8 LV
 have hlt := h.blk.lt
 have HIN := hid (Dc.refl h)
 have hmx : max (N : Int) 0 = (N : Int) := zC
 have hmx2 : (if (N : Int) < 0 then (0 : Int) else (N : Int)) = (N : Int) := ZV
 clear h;go_enter Tryz.func190, Tryz.ntmps190
 go_wp2_with fail;go_loopw [5, 12] (fun v i wr => ∃ (J : List Int) (st : Rs), J.length ≤ N ∧ i = .int .i64 (J.length : Int) ∧ wr.ownsRow w.heap.size 22 1 v J.length (BF J) ∧ Hid (∀ x ∈ J, 0 ≤ x ∧ x ≤ 18446744073709551615) ∧ Hid (Dc w wr g B a st) ∧ Hid (Rs.EZ B N s [] = Rs.EZ B (N - J.length) st J)) (fun _ i _ => N - (intOf i).toNat)
 case atStart => exact ⟨[], s, Aj _, rfl, ⟨rfl, .inl ⟨rfl, rfl⟩⟩, hid zO, HIN, hid rfl⟩
 case round =>
  obtain ⟨J, st, hk, rfl, hown, hJb, hin, hsp⟩ := hrel
  obtain ⟨av, cv, rfl⟩ := AA hown
  have hJ9 : J.length ≤ 1000 := zC
  have HJB := hid hJb.out
  rcases Bd J.length N with hlt2 | hge
  ·have HAT := hid (Cc wr hin.out.rd)
   have HVR := hid (CM wr hin.out.rd zC)
   have hx := Rs.DJ (B := B) (s := st)
   have hxb := Rs.Jm (B := B) (s := st)
   have hstep : Rs.EZ B (N - J.length) st J = (if (st.num B).1.k = 0 then (if J ≠ [] ∧ 18446744073709551615 - J.getLastD 0 ≤ ((st.num B).2 : Int) then ((st.num B).1.fail 13 st.p, []) else Rs.EZ B (N - (J.length + 1)) (st.num B).1 (J ++ [if J = [] then ((st.num B).2 : Int) else ((st.num B).2 : Int) + (J.getLastD 0 + 1)])) else ((st.num B).1, [])) := by
    rw [show N - J.length = (N - (J.length + 1)) + 1 by omega]; rfl
   have HO := hid hown
   have i1 : (J.length : Int) < (N : Int) := zC
   have d1 : decide ((J.length : Int) < (N : Int)) = true := Ae i1
   have d1' : decide (J.length < N) = true := Ae hlt2
   generalize st.num B = R at *
   obtain ⟨st1, x⟩ := R
   dsimp only at *;have HBAD := hid hxb
   have hx0' : (0 : Int) ≤ (x : Int) := zC
   have hx1' : (x : Int) ≤ 18446744073709551615 := zC
   clear hown hxb;by_cases hnil : J = []
   ·have dz : decide ((0 : Int) < (J.length : Int)) = false := by rw [hnil]; rfl
    have dz2 : decide (0 < J.length) = false := by rw [hnil]; rfl
    by_cases hk1 : st1.k = 0
    ·rw [Am hk1] at hstep
     have hk1' : decide (st1.k = 0) = true := Ae hk1
     have HSP : Hid (Rs.EZ B N s [] = Rs.EZ B (N - (J.length + 1)) st1 (J ++ [(x : Int)])) := hid (hsp.out.trans (by rw [hstep, An (fun h => h.1 hnil), Am hnil]))
     clear hstep hsp hk1 hnil;go_wp2_with fail;refine HAT.out.mono ?_
     rintro r w2 ⟨rfl, rfl⟩;go_wp2_with fail;refine HVR.out.mono ?_
     rintro r w3 ⟨rfl, hst3⟩;have HIN3 := hid (hin.out.step hst3)
     have HO3 := hid (FB HO.out hlt hst3.2)
     have hg := AH w3 HIN3.out.rd
     rw [hk1'] at hg
     have HG := hid hg
     clear hst3 hg;go_wp2_with fail;refine HG.out.mono ?_
     rintro r w4 ⟨rfl, hb4⟩;have HIN4 := hid (HIN3.out.step (AE.later HIN3.out.rd hb4))
     have HO4 := hid (AD HO3.out hb4)
     have hsz4 := HIN4.out.tch.size
     clear hb4;go_wp2_with (at_builtin; go_loud (refine Aq rfl _ _ _ rfl w.heap.size 22 i0 (.int .u64 0) 1 8 CK hi hz0 hz1 hz2 rfl zP (.slice av J.length cv) J.length _ rfl (AD HO4.out zA) (some ⟨w4.heap.size, 0, none⟩) 1 1 [.int .u64 ((x : Int))] rfl (Bx _ 22 _ rfl zO rfl) ZG zK zC zJ ?_; intro v' w5 hown5 hgrow5 hat5; obtain ⟨a5, c5, rfl⟩ := AA hown5; have HO5 := hid hown5; have hb5 : Below w.heap.size w4 w5 := (Below.grown ((by (repeat (first | with_reducible exact Below.refl _ _ | with_reducible assumption | (with_reducible refine AF ?_ _) | (with_reducible refine Below.setCell ?_ zF _) | (with_reducible refine Below.drew ?_) | (with_reducible refine below_drewN ?_ _) | (refine Af zL ?_))) : Below w4.heap.size w4 _).mono hsz4) hgrow5 zJ (fun g e => (HO4.out.lt g e).1)); clear hown5 hgrow5 hat5))
     have HIN5 := hid (HIN4.out.row hb5)
     have ho5 : w5.ownsRow w.heap.size 22 1 (.slice a5 (J.length + 1) c5) (J ++ [(x : Int)]).length (BF (J ++ [(x : Int)])) := by
      have e : BF (J ++ [(x : Int)]) = BF J ++ [.int .u64 ((x : Int))] := by simp [BF]
      rw [e, Ag]
      exact HO5.out
     have HO6 := hid ho5
     have HB6 : Hid (∀ y ∈ J ++ [(x : Int)], 0 ≤ y ∧ y ≤ 18446744073709551615) := hid (fun y hy => by
      rw [Ed, Dg] at hy
      rcases hy with hy | rfl
      ·exact HJB.out y hy
      ·omega)
     clear ho5;go_roundw
     case rel => exact ⟨J ++ [(x : Int)], st1, zBn, by rw [Ag]; go_num, HO6.out, HB6, HIN5, hid (by rw [Ag]; exact HSP.out)⟩
     case measure => (simp [intOf]; try omega)
    ·rw [An hk1] at hstep
     have hk1' : decide (st1.k = 0) = false := Ad hk1
     have HSP := hid (hsp.out.trans hstep)
     clear hstep hsp;clear hk1 hnil;go_wp2_with fail;refine HAT.out.mono ?_
     rintro r w2 ⟨rfl, rfl⟩;go_wp2_with fail;refine HVR.out.mono ?_
     rintro r w3 ⟨rfl, hst3⟩;have HIN3 := hid (hin.out.step hst3)
     have HO3 := hid (FB HO.out hlt hst3.2)
     have hg := AH w3 HIN3.out.rd
     rw [hk1'] at hg
     have HG := hid hg
     clear hst3 hg;go_wp2_with fail;refine HG.out.mono ?_
     rintro r w5 ⟨rfl, hb5⟩;have HE := hid (HIN3.out.to.then hb5)
     go_wp2_with fail;go_ret;rw [HSP.out]
     exact ⟨_, rfl, Bh (xs := []) rfl (Ak _) (Aj _) (.inl rfl), HE.out⟩
   ·obtain ⟨hq0, hq1⟩ := QI HJB.out hnil
    obtain ⟨m, hm⟩ : ∃ m, J.length = m + 1 := ⟨J.length - 1, by have : J.length ≠ 0 := fun e => hnil (List.length_eq_zero_iff.1 e); omega⟩
    have HM := hid hm
    have dz : decide ((0 : Int) < (J.length : Int)) = true := Ae zC
    have dz2 : decide (0 < J.length) = true := Ae zC
    have j1 : (J.length : Int) - 1 = (m : Int) := zC
    have j2 : (0 : Int) ≤ (J.length : Int) - 1 := zC
    have j3 : (m : Int) < (J.length : Int) := zC
    have HUL := hid (fun (W : World) (h : W.ownsRow w.heap.size 22 1 (.slice av J.length cv) J.length (BF J)) => RX h HJB.out hm)
    generalize J.getLastD 0 = q at *
    by_cases hk1 : st1.k = 0
    ·rw [Am hk1] at hstep
     have hk1' : decide (st1.k = 0) = true := Ae hk1
     by_cases hov : 18446744073709551615 - q ≤ (x : Int)
     ·rw [Am ⟨hnil, hov⟩] at hstep
      have hfk : (st1.fail 13 st.p).k ≠ 0 := Rs.CU zC
      have HSP := hid (hsp.out.trans hstep)
      clear hstep hsp;clear hk1 hk1' hnil hm;by_cases hqm : q = 18446744073709551615
      ·subst hqm
       go_wp2_with fail;refine HAT.out.mono ?_
       rintro r w2 ⟨rfl, rfl⟩;go_wp2_with fail;refine HVR.out.mono ?_
       rintro r w3 ⟨rfl, hst3⟩;have HIN3 := hid (hin.out.step hst3)
       have HO3 := hid (FB HO.out hlt hst3.2)
       obtain ⟨b, o, rfl, hc3⟩ := HUL.out _ HO3.out
       clear HUL hst3;go_wp2_with fail;refine (BB w3 HIN3.out.rd 13 (st.p : Int) zC).mono ?_
       rintro r w4 ⟨rfl, hst4⟩;have HIN4 := hid (HIN3.out.step hst4)
       have hg := AH w4 HIN4.out.rd
       rw [Ad hfk] at hg
       have HG := hid hg
       clear hst4 hg;go_wp2_with fail;refine HG.out.mono ?_
       rintro r w5 ⟨rfl, hb5⟩;have HE := hid (HIN4.out.to.then hb5)
       go_wp2_with fail;go_ret;rw [HSP.out]
       exact ⟨_, rfl, Bh (xs := []) rfl (Ak _) (Aj _) (.inl rfl), HE.out⟩
      ·have w1' : q + 1 ≤ 18446744073709551615 := by omega
       have w0' : 0 ≤ q + 1 := zC
       have e0 : (q + 1 == 0) = false := beq_eq_false_iff_ne.2 zC
       obtain ⟨Y, hY⟩ : ∃ Y, ((x : Int) + (q + 1)) % 18446744073709551616 = Y := ⟨_, rfl⟩
       have hY2 : IntKind.u64.wrap ((x : Int) + (q + 1)) = Y := by rw [Hq]; exact hY
       have dY : decide (Y < (x : Int)) = true := Ae zC
       go_wp2_with fail;refine HAT.out.mono ?_
       rintro r w2 ⟨rfl, rfl⟩;go_wp2_with fail;refine HVR.out.mono ?_
       rintro r w3 ⟨rfl, hst3⟩;have HIN3 := hid (hin.out.step hst3)
       have HO3 := hid (FB HO.out hlt hst3.2)
       obtain ⟨b, o, rfl, hc3⟩ := HUL.out _ HO3.out
       clear HUL hst3;go_wp2_with fail;refine (BB w3 HIN3.out.rd 13 (st.p : Int) zC).mono ?_
       rintro r w4 ⟨rfl, hst4⟩;have HIN4 := hid (HIN3.out.step hst4)
       have hg := AH w4 HIN4.out.rd
       rw [Ad hfk] at hg
       have HG := hid hg
       clear hst4 hg;go_wp2_with fail;refine HG.out.mono ?_
       rintro r w5 ⟨rfl, hb5⟩;have HE := hid (HIN4.out.to.then hb5)
       go_wp2_with fail;go_ret;rw [HSP.out]
       exact ⟨_, rfl, Bh (xs := []) rfl (Ak _) (Aj _) (.inl rfl), HE.out⟩
     ·rw [An (fun h => hov h.2), An hnil] at hstep
      have w1' : q + 1 ≤ 18446744073709551615 := zC
      have w0' : 0 ≤ q + 1 := zC
      have w2' : (x : Int) + (q + 1) ≤ 18446744073709551615 := zC
      have w3' : 0 ≤ (x : Int) + (q + 1) := zC
      have e0 : (q + 1 == 0) = false := beq_eq_false_iff_ne.2 zC
      have dY : decide ((x : Int) + (q + 1) < (x : Int)) = false := Ad zC
      have HSP := hid (hsp.out.trans hstep)
      clear hstep hsp;clear hk1 hnil hm;go_wp2_with fail;refine HAT.out.mono ?_
      rintro r w2 ⟨rfl, rfl⟩;go_wp2_with fail;refine HVR.out.mono ?_
      rintro r w3 ⟨rfl, hst3⟩;have HIN3 := hid (hin.out.step hst3)
      have HO3 := hid (FB HO.out hlt hst3.2)
      obtain ⟨b, o, rfl, hc3⟩ := HUL.out _ HO3.out
      have hg := AH w3 HIN3.out.rd
      rw [hk1'] at hg
      have HG := hid hg
      clear hst3 hg;go_wp2_with fail;clear hc3 HUL;refine HG.out.mono ?_
      rintro r w4 ⟨rfl, hb4⟩;have HIN4 := hid (HIN3.out.step (AE.later HIN3.out.rd hb4))
      have HO4 := hid (AD HO3.out hb4)
      have hsz4 := HIN4.out.tch.size
      clear hb4;go_wp2_with (at_builtin; go_loud (refine Aq rfl _ _ _ rfl w.heap.size 22 i0 (.int .u64 0) 1 8 CK hi hz0 hz1 hz2 rfl zP (.slice (some ⟨b, o, none⟩) J.length cv) J.length _ rfl (AD HO4.out zA) (some ⟨w4.heap.size, 0, none⟩) 1 1 [.int .u64 ((x : Int) + (q + 1))] rfl (Bx _ 22 _ rfl zO rfl) ZG zK zC zJ ?_; intro v' w5 hown5 hgrow5 hat5; obtain ⟨a5, c5, rfl⟩ := AA hown5; have HO5 := hid hown5; have hb5 : Below w.heap.size w4 w5 := (Below.grown ((by (repeat (first | with_reducible exact Below.refl _ _ | with_reducible assumption | (with_reducible refine AF ?_ _) | (with_reducible refine Below.setCell ?_ zF _) | (with_reducible refine Below.drew ?_) | (with_reducible refine below_drewN ?_ _) | (refine Af zL ?_))) : Below w4.heap.size w4 _).mono hsz4) hgrow5 zJ (fun g e => (HO4.out.lt g e).1)); clear hown5 hgrow5 hat5))
      have HIN5 := hid (HIN4.out.row hb5)
      have ho5 : w5.ownsRow w.heap.size 22 1 (.slice a5 (J.length + 1) c5) (J ++ [(x : Int) + (q + 1)]).length (BF (J ++ [(x : Int) + (q + 1)])) := by
       have e : BF (J ++ [(x : Int) + (q + 1)]) = BF J ++ [.int .u64 ((x : Int) + (q + 1))] := by simp [BF]
       rw [e, Ag]
       exact HO5.out
      have HO6 := hid ho5
      have HB6 : Hid (∀ y ∈ J ++ [(x : Int) + (q + 1)], 0 ≤ y ∧ y ≤ 18446744073709551615) := hid (fun y hy => by
       rw [Ed, Dg] at hy
       rcases hy with hy | rfl
       ·exact HJB.out y hy
       ·omega)
      clear ho5;go_roundw
      case rel => exact ⟨J ++ [(x : Int) + (q + 1)], st1, zBn, by rw [Ag]; go_num, HO6.out, HB6, HIN5, hid (by rw [Ag]; exact HSP.out)⟩
      case measure => (simp [intOf]; try omega)
    ·rw [An hk1] at hstep
     have hk1' : decide (st1.k = 0) = false := Ad hk1
     have hx0 := HBAD.out hk1
     subst hx0;have hfid : st1.fail 13 st.p = st1 := Rs.Ch hk1
     have HSP := hid (hsp.out.trans hstep)
     clear hstep hsp;clear hk1 hnil hm;by_cases hqm : q = 18446744073709551615
     ·subst hqm
      go_wp2_with fail;refine HAT.out.mono ?_
      rintro r w2 ⟨rfl, rfl⟩;go_wp2_with fail;refine HVR.out.mono ?_
      rintro r w3 ⟨rfl, hst3⟩;have HIN3 := hid (hin.out.step hst3)
      have HO3 := hid (FB HO.out hlt hst3.2)
      obtain ⟨b, o, rfl, hc3⟩ := HUL.out _ HO3.out
      clear HUL hst3;go_wp2_with fail;refine (BB w3 HIN3.out.rd 13 (st.p : Int) zC).mono ?_
      rintro r w4 ⟨rfl, hst4⟩;rw [hfid] at hst4
      have HIN4 := hid (HIN3.out.step hst4)
      have hg := AH w4 HIN4.out.rd
      rw [hk1'] at hg
      have HG := hid hg
      clear hst4 hg;go_wp2_with fail;refine HG.out.mono ?_
      rintro r w5 ⟨rfl, hb5⟩;have HE := hid (HIN4.out.to.then hb5)
      go_wp2_with fail;go_ret;rw [HSP.out]
      exact ⟨_, rfl, Bh (xs := []) rfl (Ak _) (Aj _) (.inl rfl), HE.out⟩
     ·have w1' : q + 1 ≤ 18446744073709551615 := by omega
      have w0' : 0 ≤ q + 1 := zC
      have e0 : (q + 1 == 0) = false := beq_eq_false_iff_ne.2 zC
      have dY : decide (q + 1 < 0) = false := Ad zC
      have dY2 : decide (((0 : Nat) : Int) + (q + 1) < ((0 : Nat) : Int)) = false := Ad zC
      have dY3 : decide ((0 : Int) + (q + 1) < 0) = false := Ad zC
      go_wp2_with fail;refine HAT.out.mono ?_
      rintro r w2 ⟨rfl, rfl⟩;go_wp2_with fail;refine HVR.out.mono ?_
      rintro r w3 ⟨rfl, hst3⟩;have HIN3 := hid (hin.out.step hst3)
      have HO3 := hid (FB HO.out hlt hst3.2)
      obtain ⟨b, o, rfl, hc3⟩ := HUL.out _ HO3.out
      clear HUL;have hg := AH w3 HIN3.out.rd
      rw [hk1'] at hg
      have HG := hid hg
      clear hst3 hg;go_wp2_with fail;refine HG.out.mono ?_
      rintro r w5 ⟨rfl, hb5⟩;have HE := hid (HIN3.out.to.then hb5)
      go_wp2_with fail;go_ret;rw [HSP.out]
      exact ⟨_, rfl, Bh (xs := []) rfl (Ak _) (Aj _) (.inl rfl), HE.out⟩
  ·have hJN : J.length = N := by omega
   have d1 : decide ((J.length : Int) < (N : Int)) = false := Ad zC
   have d1' : decide (J.length < N) = false := Ad zC
   have HSP : Hid (Rs.EZ B N s [] = (st, J)) := hid (by rw [hsp.out, hJN, JK]; rfl)
   have HV := hid (EE hJb.out rfl hown)
   have HE := hid hin.out.to
   clear hown hsp hJN hk hge;go_wp2_with fail;go_ret;rw [HSP.out]
   exact ⟨_, rfl, HV.out, HE.out⟩
abbrev Tm (s : G1) : Value := .agg #[.int .u64 s.epoch, .int .u64 s.node, .int .u64 s.tail]
theorem Sc (w : World) {g : Nat} {B : List UInt8} {a : Option Addr} {s : Rs} (h : AZ w g B a s) (hB : B.length ≤ 1000000000) :
  Calls Tryz.prog 194 #[.pointer (some ⟨g, 0, none⟩)] w fun r w' => r = .returned (Tm (s.seal_ B).2) ∧ AE w g B a (s.seal_ B).1 w' := by
 have hlt := h.blk.lt
 have HIN := hid (Dc.refl h)
 have HEP := hid (fun (W : World) (t : Rs) (hW : AZ W g B a t) => I3 W hW hB)
 have HMO := hid (fun (W : World) (t : Rs) (hW : AZ W g B a t) => Kq W hW zC 4294967295)
 have HTL := hid (fun (W : World) (t : Rs) (hW : AZ W g B a t) => LY W hW hB)
 have HGD := hid (fun (W : World) (t : Rs) (hW : AZ W g B a t) => AH W hW)
 clear h;unfold Rs.seal_ Tm;dsimp only;have HEP := hid (fun (W : World) (hW : AZ W g B a s) => HEP.out W s hW)
 generalize s.ep B = R at *
 obtain ⟨s1, e⟩ := R
 dsimp only at *;have HMO := hid (fun (W : World) (hW : AZ W g B a s1) => HMO.out W s1 hW)
 generalize s1.most B 4294967295 = R at *
 obtain ⟨s2, n⟩ := R
 dsimp only at *;have HTL := hid (fun (W : World) (hW : AZ W g B a s2) => HTL.out W s2 hW)
 generalize s2.tl B = R at *
 obtain ⟨s3, t⟩ := R
 dsimp only at *;have HGD := hid (fun (W : World) (hW : AZ W g B a s3) => HGD.out W s3 hW)
 by_cases hk : s3.k = 0
 ·rw [Am hk]
  rw [Ae hk] at HGD
  clear hk;go_enter Tryz.func194, Tryz.ntmps194
  go_wp2_with fail;have hb0 := hid (by (repeat (first | with_reducible exact Below.refl _ _ | with_reducible assumption | (with_reducible refine AF ?_ _) | (with_reducible refine Below.setCell ?_ zF _) | (with_reducible refine Below.drew ?_) | (with_reducible refine below_drewN ?_ _) | (refine Af zL ?_))) : Below w.heap.size w ((w.alloc (.cells #[.int .u64 0, .int .u64 0, .int .u64 0] 27)).alloc (.cells #[.int .u64 0, .int .u64 0, .int .u64 0] 27)))
  have HIN0 := hid (HIN.out.row hb0.out)
  have R0 : Blk ((w.alloc (.cells #[.int .u64 0, .int .u64 0, .int .u64 0] 27)).alloc (.cells #[.int .u64 0, .int .u64 0, .int .u64 0] 27)) w.heap.size 27 #[.int .u64 0, .int .u64 0, .int .u64 0] := zD
  have M0 : Blk ((w.alloc (.cells #[.int .u64 0, .int .u64 0, .int .u64 0] 27)).alloc (.cells #[.int .u64 0, .int .u64 0, .int .u64 0] 27)) (w.heap.size + 1) 27 #[.int .u64 0, .int .u64 0, .int .u64 0] := zD
  refine (HEP.out _ HIN0.out.rd).mono ?_
  rintro r w1 ⟨rfl, hst⟩;have HIN1 := hid (HIN0.out.step hst)
  have R1 := R0.tch hst.2 zC
  have M1 := M0.tch hst.2 zC
  obtain ⟨x0, x1, x2, f0, f1, f2, l0⟩ := EV R1
  obtain ⟨y0, y1, y2, g0, g1, g2, l1⟩ := EV M1
  have HR := hid R1
  have HM := hid M1
  clear hst R0 M0 R1 M1;go_wp2_with fail;have HIN1 := hid (HIN1.out.row ((Below.refl w.heap.size w1).setCell (p := ⟨w.heap.size + 1, 0, none⟩) zN (.int .u64 (e : Int))))
  have R1 := (HR.out).far (p := ⟨w.heap.size + 1, 0, none⟩) zN (.int .u64 (e : Int))
  have M1 := (HM.out).set 0 (.int .u64 (e : Int))
  have HR := hid R1
  have HM := hid M1
  clear x0 x1 x2 f0 f1 f2 l0 y0 y1 y2 g0 g1 g2 l1 R1 M1;refine (HMO.out _ HIN1.out.rd).mono ?_
  rintro r w2 ⟨rfl, hst⟩;have HIN1 := hid (HIN1.out.step hst)
  have R1 := HR.out.tch hst.2 zC
  have M1 := HM.out.tch hst.2 zC
  simp only [Aa, Ab, Ac] at M1
  obtain ⟨x0, x1, x2, f0, f1, f2, l0⟩ := EV R1
  obtain ⟨y0, y1, y2, g0, g1, g2, l1⟩ := EV M1
  have HR := hid R1
  have HM := hid M1
  clear hst R1 M1;go_wp2_with fail;have HIN1 := hid (HIN1.out.row ((Below.refl w.heap.size w2).setCell (p := ⟨w.heap.size + 1, 1, none⟩) zN (.int .u64 (n : Int))))
  have R1 := (HR.out).far (p := ⟨w.heap.size + 1, 1, none⟩) zN (.int .u64 (n : Int))
  have M1 := (HM.out).set 1 (.int .u64 (n : Int))
  have HR := hid R1
  have HM := hid M1
  clear x0 x1 x2 f0 f1 f2 l0 y0 y1 y2 g0 g1 g2 l1 R1 M1;refine (HTL.out _ HIN1.out.rd).mono ?_
  rintro r w3 ⟨rfl, hst⟩;have HIN1 := hid (HIN1.out.step hst)
  have R1 := HR.out.tch hst.2 zC
  have M1 := HM.out.tch hst.2 zC
  simp only [Aa, Ab, Ac] at M1
  obtain ⟨x0, x1, x2, f0, f1, f2, l0⟩ := EV R1
  obtain ⟨y0, y1, y2, g0, g1, g2, l1⟩ := EV M1
  have HR := hid R1
  have HM := hid M1
  clear hst R1 M1;go_wp2_with fail;have HIN1 := hid (HIN1.out.row ((Below.refl w.heap.size w3).setCell (p := ⟨w.heap.size + 1, 2, none⟩) zN (.int .u64 (t : Int))))
  have R1 := (HR.out).far (p := ⟨w.heap.size + 1, 2, none⟩) zN (.int .u64 (t : Int))
  have M1 := (HM.out).set 2 (.int .u64 (t : Int))
  have HR := hid R1
  have HM := hid M1
  clear x0 x1 x2 f0 f1 f2 l0 y0 y1 y2 g0 g1 g2 l1 R1 M1;refine (HGD.out _ HIN1.out.rd).mono ?_
  rintro r w4 ⟨rfl, hb4⟩;have HIN2 := hid (HIN1.out.row (hb4.mono HIN1.out.tch.size))
  have R1 := HR.out.later hb4
  have M1 := HM.out.later hb4
  simp only [Aa, Ab, Ac] at M1
  obtain ⟨x0, x1, x2, f0, f1, f2, l0⟩ := EV R1
  obtain ⟨y0, y1, y2, g0, g1, g2, l1⟩ := EV M1
  clear hb4 R1 M1;go_wp2;exact Al (v := .agg #[.int .u64 (e : Int), .int .u64 (n : Int), .int .u64 (t : Int)]) zBt rfl ⟨rfl, (HIN2.out.row ((((Below.refl w.heap.size w4).setCell (p := ⟨w.heap.size, 0, none⟩) zN (.int .u64 (e : Int))).setCell (p := ⟨w.heap.size, 1, none⟩) zN (.int .u64 (n : Int))).setCell (p := ⟨w.heap.size, 2, none⟩) zN (.int .u64 (t : Int)))).to⟩
 ·rw [An hk]
  rw [Ad hk] at HGD
  clear hk;go_enter Tryz.func194, Tryz.ntmps194
  go_wp2_with fail;have hb0 := hid (by (repeat (first | with_reducible exact Below.refl _ _ | with_reducible assumption | (with_reducible refine AF ?_ _) | (with_reducible refine Below.setCell ?_ zF _) | (with_reducible refine Below.drew ?_) | (with_reducible refine below_drewN ?_ _) | (refine Af zL ?_))) : Below w.heap.size w ((w.alloc (.cells #[.int .u64 0, .int .u64 0, .int .u64 0] 27)).alloc (.cells #[.int .u64 0, .int .u64 0, .int .u64 0] 27)))
  have HIN0 := hid (HIN.out.row hb0.out)
  have R0 : Blk ((w.alloc (.cells #[.int .u64 0, .int .u64 0, .int .u64 0] 27)).alloc (.cells #[.int .u64 0, .int .u64 0, .int .u64 0] 27)) w.heap.size 27 #[.int .u64 0, .int .u64 0, .int .u64 0] := zD
  have M0 : Blk ((w.alloc (.cells #[.int .u64 0, .int .u64 0, .int .u64 0] 27)).alloc (.cells #[.int .u64 0, .int .u64 0, .int .u64 0] 27)) (w.heap.size + 1) 27 #[.int .u64 0, .int .u64 0, .int .u64 0] := zD
  refine (HEP.out _ HIN0.out.rd).mono ?_
  rintro r w1 ⟨rfl, hst⟩;have HIN1 := hid (HIN0.out.step hst)
  have R1 := R0.tch hst.2 zC
  have M1 := M0.tch hst.2 zC
  obtain ⟨x0, x1, x2, f0, f1, f2, l0⟩ := EV R1
  obtain ⟨y0, y1, y2, g0, g1, g2, l1⟩ := EV M1
  have HR := hid R1
  have HM := hid M1
  clear hst R0 M0 R1 M1;go_wp2_with fail;have HIN1 := hid (HIN1.out.row ((Below.refl w.heap.size w1).setCell (p := ⟨w.heap.size + 1, 0, none⟩) zN (.int .u64 (e : Int))))
  have R1 := (HR.out).far (p := ⟨w.heap.size + 1, 0, none⟩) zN (.int .u64 (e : Int))
  have M1 := (HM.out).set 0 (.int .u64 (e : Int))
  have HR := hid R1
  have HM := hid M1
  clear x0 x1 x2 f0 f1 f2 l0 y0 y1 y2 g0 g1 g2 l1 R1 M1;refine (HMO.out _ HIN1.out.rd).mono ?_
  rintro r w2 ⟨rfl, hst⟩;have HIN1 := hid (HIN1.out.step hst)
  have R1 := HR.out.tch hst.2 zC
  have M1 := HM.out.tch hst.2 zC
  simp only [Aa, Ab, Ac] at M1
  obtain ⟨x0, x1, x2, f0, f1, f2, l0⟩ := EV R1
  obtain ⟨y0, y1, y2, g0, g1, g2, l1⟩ := EV M1
  have HR := hid R1
  have HM := hid M1
  clear hst R1 M1;go_wp2_with fail;have HIN1 := hid (HIN1.out.row ((Below.refl w.heap.size w2).setCell (p := ⟨w.heap.size + 1, 1, none⟩) zN (.int .u64 (n : Int))))
  have R1 := (HR.out).far (p := ⟨w.heap.size + 1, 1, none⟩) zN (.int .u64 (n : Int))
  have M1 := (HM.out).set 1 (.int .u64 (n : Int))
  have HR := hid R1
  have HM := hid M1
  clear x0 x1 x2 f0 f1 f2 l0 y0 y1 y2 g0 g1 g2 l1 R1 M1;refine (HTL.out _ HIN1.out.rd).mono ?_
  rintro r w3 ⟨rfl, hst⟩;have HIN1 := hid (HIN1.out.step hst)
  have R1 := HR.out.tch hst.2 zC
  have M1 := HM.out.tch hst.2 zC
  simp only [Aa, Ab, Ac] at M1
  obtain ⟨x0, x1, x2, f0, f1, f2, l0⟩ := EV R1
  obtain ⟨y0, y1, y2, g0, g1, g2, l1⟩ := EV M1
  have HR := hid R1
  have HM := hid M1
  clear hst R1 M1;go_wp2_with fail;have HIN1 := hid (HIN1.out.row ((Below.refl w.heap.size w3).setCell (p := ⟨w.heap.size + 1, 2, none⟩) zN (.int .u64 (t : Int))))
  have R1 := (HR.out).far (p := ⟨w.heap.size + 1, 2, none⟩) zN (.int .u64 (t : Int))
  have M1 := (HM.out).set 2 (.int .u64 (t : Int))
  have HR := hid R1
  have HM := hid M1
  clear x0 x1 x2 f0 f1 f2 l0 y0 y1 y2 g0 g1 g2 l1 R1 M1;refine (HGD.out _ HIN1.out.rd).mono ?_
  rintro r w4 ⟨rfl, hb4⟩;have HIN2 := hid (HIN1.out.row (hb4.mono HIN1.out.tch.size))
  have R1 := HR.out.later hb4
  have M1 := HM.out.later hb4
  simp only [Aa, Ab, Ac] at M1
  obtain ⟨x0, x1, x2, f0, f1, f2, l0⟩ := EV R1
  obtain ⟨y0, y1, y2, g0, g1, g2, l1⟩ := EV M1
  clear hb4 R1 M1;go_wp2;exact Al (v := .agg #[.int .u64 0, .int .u64 0, .int .u64 0]) zBt rfl ⟨rfl, (HIN2.out.row ((((Below.refl w.heap.size w4).setCell (p := ⟨w.heap.size, 0, none⟩) zN (.int .u64 0)).setCell (p := ⟨w.heap.size, 1, none⟩) zN (.int .u64 0)).setCell (p := ⟨w.heap.size, 2, none⟩) zN (.int .u64 0))).to⟩
theorem Rs.Jt {B : List UInt8} {s : Rs} {m : Int} : (s.many B m).2 ≤ m.toNat := Rs.GP
theorem Ku (w : World) {g : Nat} {B : List UInt8} {a : Option Addr} {s : Rs} (h : AZ w g B a s) (hB : B.length ≤ 1000000000) (m : Int) (hm : -9223372036854775808 ≤ m ∧ m ≤ 9223372036854775807) :
  Calls Tryz.prog 256 #[.pointer (some ⟨g, 0, none⟩), .int .i64 m] w fun r w' => r = .returned (.int .i64 ((s.many B m).2 : Int)) ∧ AE w g B a (s.many B m).1 w' := by
 have HAT := hid (Cc w h)
 have HVI := hid (Ef w h zC m hm)
 have HIN := hid (Dc.refl h)
 clear h;unfold Rs.many;generalize s.int B m = R at *
 obtain ⟨s1, n⟩ := R
 dsimp only at *;by_cases hn : n = 0
 ·rw [Am hn]
  subst hn;go_enter Tryz.func256, Tryz.ntmps256
  go_wp2_with fail;refine HAT.out.mono ?_
  rintro r w1 ⟨rfl, rfl⟩;go_wp2_with fail;refine HVI.out.mono ?_
  rintro r w2 ⟨rfl, hst⟩;have HIN2 := hid (HIN.out.step hst)
  clear hst;go_wp2_with fail;refine (BB w2 HIN2.out.rd 3 (s.p : Int) zC).mono ?_
  rintro r w3 ⟨rfl, hst⟩;have HE := hid (HIN2.out.step hst).to
  clear hst;go_wp2;go_ret;exact ⟨rfl, HE.out⟩
 ·rw [An hn]
  have d0 : ((n : Int) == 0) = false := beq_eq_false_iff_ne.2 zC
  go_enter Tryz.func256, Tryz.ntmps256
  go_wp2_with fail;refine HAT.out.mono ?_
  rintro r w1 ⟨rfl, rfl⟩;go_wp2_with fail;refine HVI.out.mono ?_
  rintro r w2 ⟨rfl, hst⟩;have HIN2 := hid (HIN.out.step hst)
  clear hst;have HE := hid HIN2.out.to
  go_wp2;go_ret;exact ⟨rfl, HE.out⟩
end Go.Proofs.YtlbffbkbkajciaaGreat
