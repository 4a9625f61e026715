/- Mini: Needed by rpcTells_walk, part 15: texts put together by shake.py; no condition. -/
import Derived.Test.YtlbffbkbkajciaaGreatZR10
import Derived.Test.YtlbffbkbkajciaaGreatZR2
import Derived.Test.YtlbffbkbkajciaaGreatZR11
import Derived.Test.YtlbffbkbkajciaaGreatZR14
import Derived.Test.YtlbffbkbkajciaaGreatZR8
import Derived.Test.YtlbffbkbkajciaaGreatZR6
import Derived.Test.YtlbffbkbkajciaaGreatZR5
import Derived.Test.YtlbffbkbkajciaaGreatZR1
import Derived.Test.YtlbffbkbkajciaaGreatZR13
import Derived.Test.YtlbffbkbkajciaaGreatZR3
import Derived.Test.YtlbffbkbkajciaaGreatZR4
import Derived.Deep.Cut
import Derived.Deep.CutRange
import Derived.Lib.SlBytesConst
import Derived.Deep.AppendLies
import Derived.Deep.RegionLaw
import Derived.Test.YtlbffbkbkajciaaGreatZR12
import Derived.Test.YtlbffbkbkajciaaGreatZR7
set_option linter.unusedVariables false
set_option linter.unusedSimpArgs false
set_option maxRecDepth 100000
set_option maxHeartbeats 6400000
namespace Go.Bs
theorem ZX{p:Prop}(h:p:=by simp; simp only [epR, Ar] at hep; have := Wc hep; omega):p:=h
theorem ZU{p:Prop}(h:p:=by have h := Ea (o := 0) (s := 1) (o' := 1) rfl r0 (Ea (o := 1) (s := 1) (o' := 2) rfl r1 (SA (s := 1) hl2 r2)); rw [List.drop_zero] at h; exact h):p:=h
end Go.Bs
namespace Go.Proofs.YtlbffbkbkajciaaGreat
open Go.RowKit Go.Bs Go.Maps
theorem BS.V7 {w : World} {base : Nat} {v : Value} {D : List UInt8} (h : w.ownsRow base 5 1 v (0 + D.length) ([] ++ byteCells D)) : BS w base v D := by
 rw [A3, Bj] at h
 exact h
theorem BS.Wf {w : World} {base : Nat} {v : Value} {L : List UInt8} {x : Int} (h0 : 0 ≤ x) (h1 : x < 256) (h : w.ownsRow base 5 1 v (L.length + 1) (byteCells L ++ [.int .u8 x])) : BS w base v (L ++ [UInt8.ofNat x.toNat]) := by
 unfold BS;rw [Ag, ← Ej]
 have := D6 (x := x.toNat) zC
 rw [toNat_cast h0] at this
 rw [show byteCells [UInt8.ofNat x.toNat] = [.int .u8 x] by simp only [byteCells, D7, List.map_nil]; rw [← this]]
 exact h
theorem Oo (w : World) (m : Msg) (a1 : Option Addr) (c1 : Nat) (a2 : Option Addr) (c2 : Nat) (a3 : Option Addr) (c3 : Nat) (a4 : Option Addr) (c4 : Nat) (hd : A2 (· < w.heap.size) w m a1 c1 a2 c2 a3 c3 a4 c4) (hbk : ∀ x ∈ m.links, x.backs.length ≤ 1000000) (hR : FE m = true) :
  Calls Tryz.prog 24 #[.agg #[.int .i64 m.kind, .int .u64 m.epoch, .int .u64 m.seq, .int .u64 m.pos, .int .i64 m.count, .int .i64 m.state, .slice a1 m.streams.length c1, .slice a2 m.links.length c2, .slice a3 m.data.length c3, .int .u64 m.sea.epoch, .int .u64 m.sea.node, .int .u64 m.sea.tail, .int .u64 m.proj.epoch, .slice a4 m.proj.stripes.length c4]] w fun r w' => ∃ v, r = .returned v ∧ BS w' w.heap.size v (EL m) ∧ Below w.heap.size w w' := by
 obtain ⟨i0, hi, hz0, hz1, hz2⟩ := A8 Dz
 have HM := EF hR
 have hx1 : (AK m.kind 1) = true → (Ay m.pos.toNat).length ≤ 10 := fun _ => (AX _).1
 have hx2 : (AK m.kind 2) = true → (Ay m.count.toNat).length ≤ 10 := fun _ => (AX _).1
 have hx4 : (AK m.kind 4) = true → ([UInt8.ofNat m.state.toNat]).length ≤ 1 := fun _ => by simp
 have hx8 : (AK m.kind 8) = true → (D4 m.streams).length ≤ 170 := fun e => by have := Lx m.streams; have := (HM.streams e).1; omega
 have hx16 : (AK m.kind 16) = true → (Cx m.pos m.links).length ≤ 830 := fun e => KM _ _ (HM.links e)
 have hxD : (Ca m.kind m.state) = true → (Bp m.data).length ≤ 1048587 := fun e => by have := I6 m.data; have := (AX m.data.length).1; have := HM.data; omega
 have hx64 : (AK m.kind 64) = true → (DH m.sea).length ≤ 30 := fun e => Ok _
 have hx128 : (AK m.kind 128) = true → (DI m.proj).length ≤ 47380 := fun e => LJ (HM.proj e)
 have hc2 := HM.count
 have hc4 : AK m.kind 4 = true → 1 ≤ m.state ∧ m.state ≤ 20 := fun e => by have := HM.state e; have := OT m.kind; omega
 have hc8 := HM.streams
 have hdl := HM.data
 have C1 := hid (Ff m.pos hd.pos)
 have C2 := hid (fun (h : AK m.kind 2 = true) (W : World) => Ff m.count (by have := hc2 h; omega) W)
 have C8 := hid (fun (h : AK m.kind 8 = true) (W : World) (hW : Below w.heap.size w W) => KF W m.streams a1 _ c1 (lift hd.streams hW) (hc8 h).2 (by have := (hc8 h).1; omega))
 have C16 := hid (fun (h : AK m.kind 16 = true) (W : World) (hW : Below w.heap.size w W) => Ot W m.pos hd.pos m.links a2 _ c2 (lift hd.links hW) (HM.links h) hbk)
 have CD := hid (fun (W : World) (hW : Below w.heap.size w W) => OG W m.data a3 _ c3 (lift hd.data hW) hdl)
 have C64 := hid (fun (W : World) => OE W m.sea hd.sealE hd.sealN hd.sealT)
 have C128 := hid (fun (h : AK m.kind 128 = true) (W : World) (hW : Below w.heap.size w W) => Oy W m.proj a4 _ c4 hd.projE (lift hd.stripes hW) (HM.proj h))
 have HH1 := hid (fun W : World => C5 m.kind 1 zS W)
 have HH2 := hid (fun W : World => C5 m.kind 2 zS W)
 have HH4 := hid (fun W : World => C5 m.kind 4 zS W)
 have HH8 := hid (fun W : World => C5 m.kind 8 zS W)
 have HH16 := hid (fun W : World => C5 m.kind 16 zS W)
 have HHD := hid (fun W : World => KA m.kind m.state W)
 have HH64 := hid (fun W : World => C5 m.kind 64 zS W)
 have HH128 := hid (fun W : World => C5 m.kind 128 zS W)
 have hmb : EL m = AV (AK m.kind 1) (Ay m.pos.toNat) ++ AV (AK m.kind 2) (Ay m.count.toNat) ++ AV (AK m.kind 4) ([UInt8.ofNat m.state.toNat]) ++ AV (AK m.kind 8) (D4 m.streams) ++ AV (AK m.kind 16) (Cx m.pos m.links) ++ AV (Ca m.kind m.state) (Bp m.data) ++ AV (AK m.kind 64) (DH m.sea) ++ AV (AK m.kind 128) (DI m.proj) := rfl
 rw [hmb]
 have hsb : D4 m.streams = Ay m.streams.length ++ Gg m.streams := rfl
 have HSB := hid hsb
 clear hd hbk hR HM hmb hsb;generalize (AK m.kind 1) = H1 at *
 generalize (AK m.kind 2) = H2 at *
 generalize (AK m.kind 4) = H4 at *
 generalize (AK m.kind 8) = H8 at *
 generalize (AK m.kind 16) = H16 at *
 generalize (Ca m.kind m.state) = HD at *
 generalize (AK m.kind 64) = H64 at *
 generalize (AK m.kind 128) = H128 at *
 have HBX : Hid (Blk (w.alloc (.cells #[.int .i64 m.kind, .int .u64 m.epoch, .int .u64 m.seq, .int .u64 m.pos, .int .i64 m.count, .int .i64 m.state, .slice a1 m.streams.length c1, .slice a2 m.links.length c2, .slice a3 m.data.length c3, .int .u64 m.sea.epoch, .int .u64 m.sea.node, .int .u64 m.sea.tail, .int .u64 m.proj.epoch, .slice a4 m.proj.stripes.length c4] 32)) w.heap.size 32 #[.int .i64 m.kind, .int .u64 m.epoch, .int .u64 m.seq, .int .u64 m.pos, .int .i64 m.count, .int .i64 m.state, .slice a1 m.streams.length c1, .slice a2 m.links.length c2, .slice a3 m.data.length c3, .int .u64 m.sea.epoch, .int .u64 m.sea.node, .int .u64 m.sea.tail, .int .u64 m.proj.epoch, .slice a4 m.proj.stripes.length c4]) := hid (Blk.new w _ _)
 have hb0 : Below w.heap.size w (w.alloc (.cells #[.int .i64 m.kind, .int .u64 m.epoch, .int .u64 m.seq, .int .u64 m.pos, .int .i64 m.count, .int .i64 m.state, .slice a1 m.streams.length c1, .slice a2 m.links.length c2, .slice a3 m.data.length c3, .int .u64 m.sea.epoch, .int .u64 m.sea.node, .int .u64 m.sea.tail, .int .u64 m.proj.epoch, .slice a4 m.proj.stripes.length c4] 32)) := zB
 have hs0 : w.heap.size < (w.alloc (.cells #[.int .i64 m.kind, .int .u64 m.epoch, .int .u64 m.seq, .int .u64 m.pos, .int .i64 m.count, .int .i64 m.state, .slice a1 m.streams.length c1, .slice a2 m.links.length c2, .slice a3 m.data.length c3, .int .u64 m.sea.epoch, .int .u64 m.sea.node, .int .u64 m.sea.tail, .int .u64 m.proj.epoch, .slice a4 m.proj.stripes.length c4] 32)).heap.size := zO
 have hy0 := HBX.out.cell 0
 (try simp at hy0)
 go_enter Tryz.func24, Tryz.ntmps24
 go_wp2_with fail;generalize w.alloc (.cells #[.int .i64 m.kind, .int .u64 m.epoch, .int .u64 m.seq, .int .u64 m.pos, .int .i64 m.count, .int .i64 m.state, .slice a1 m.streams.length c1, .slice a2 m.links.length c2, .slice a3 m.data.length c3, .int .u64 m.sea.epoch, .int .u64 m.sea.node, .int .u64 m.sea.tail, .int .u64 m.proj.epoch, .slice a4 m.proj.stripes.length c4] 32) = w0 at *
 have HB0 := hid hb0
 clear hb0 hy0;have HB1 : Hid (Below w0.heap.size w0 w0) := hid (Below.refl _ _)
 refine (HH1.out _).mono ?_
 rintro r v1 ⟨rfl, hb1⟩;have HC1 := hid (Af hb1 HB1.out)
 clear hb1;go_upto_if 8 with (fail)
 go_cut [3] from 9 to 13 (fun v V => ∃ (J : List UInt8) (aJ : Option Addr) (cJ : Nat), v = .slice aJ J.length cJ ∧ BS V w0.heap.size v J ∧ Hid (J = AV H1 (Ay m.pos.toNat)) ∧ J.length ≤ 10 ∧ Below w0.heap.size w0 V)
 case first =>
  have HBV := hid (HB0.out.trans (HC1.out.mono HB0.out.size))
  have hzz := HC1.out.size
  cases H1
  ·go_wp2_with fail
   go_meet
   case rel => exact ⟨[], none, 0, rfl, ⟨rfl, .inl ⟨rfl, rfl⟩⟩, hid rfl, Aj _, HC1.out⟩
  ·have hxl := hx1 rfl
   have HX := hid (HBX.out.later HC1.out)
   have y3 : v1.cell? ⟨w.heap.size, 3, none⟩ = some (.int .u64 m.pos) := HX.out.cell 3
   have HPN : Hid (BS v1 w0.heap.size (.slice none 0 0) ([] : List UInt8)) := hid ⟨rfl, .inl ⟨rfl, rfl⟩⟩
   have HONE := hid (AI (Ay m.pos.toNat))
   generalize Ay m.pos.toNat = X at *
   go_wp2_with fail;refine (C1.out _).mono ?_
   rintro r x1 ⟨v1, rfl, hv1, hb1⟩;obtain ⟨aX, cX, rfl⟩ := AA hv1
   have HS1 := hid (A5 (BJ rfl hv1))
   clear hv1;have HQ1 := hid (AD HPN.out hb1)
   have hz1s := hb1.size
   clear y3;go_wp2_with (at_builtin; go_loud (refine Aq rfl _ _ _ rfl w0.heap.size 5 i0 (.int .u8 0) 1 1 As hi hz0 hz1 hz2 rfl zP (.slice none 0 0) 0 [] rfl (HQ1.out) (aX) (X.length) (cX) (byteCells X) rfl (HS1.out) HONE.out zK zC zC ?_; intro v' w2x hown2x hgrow2x hat2x; obtain ⟨a2x, c2x, rfl⟩ := AA hown2x; have HO2x := hid (BS.V7 hown2x); have hbg2x : Below w0.heap.size x1 w2x := (Below.grown (Below.refl _ _) hgrow2x zC (fun g e => (C6 (HQ1.out) g e).1)); clear hown2x hgrow2x hat2x))
   have hbe : Below w0.heap.size w0 w2x := HC1.out.trans ((hb1.mono zC).trans hbg2x)
   go_meet
   case rel => exact ⟨X, a2x, c2x, rfl, by have := HO2x.out; rwa [A3] at this, hid (by simp [AV]), zC, hbe⟩
 case rest =>
 obtain ⟨J1, a1', c1', rfl, ho, he, hl1, hbc⟩ := hcut
 have HO1 := hid ho
 have HE1 := hid he
 have HD1 := hid hbc
 clear ho he hbc;obtain ⟨w1, hwn⟩ : ∃ W : World, W = wc := ⟨_, rfl⟩
 subst hwn;go_wp2_with fail;refine (HH2.out _).mono ?_
 rintro r v2 ⟨rfl, hb2⟩;have HC2 := hid (Af hb2 HD1.out)
 have HP2 := hid (AD HO1.out hb2)
 clear hb2;go_upto_if 15 with (fail)
 go_cut [3] from 16 to 21 (fun v V => ∃ (J : List UInt8) (aJ : Option Addr) (cJ : Nat), v = .slice aJ J.length cJ ∧ BS V w0.heap.size v J ∧ Hid (J = AV H1 (Ay m.pos.toNat) ++ AV H2 (Ay m.count.toNat)) ∧ J.length ≤ 20 ∧ Below w0.heap.size w0 V)
 case first =>
  have HBV := hid (HB0.out.trans (HC2.out.mono HB0.out.size))
  have hzz := HC2.out.size
  cases H2
  ·go_wp2_with fail
   go_meet
   case rel => exact ⟨J1, a1', c1', rfl, HP2.out, hid (by rw [HE1.out]; simp [AV]), zC, HC2.out⟩
  ·have hxl := hx2 rfl
   have hcc := hc2 rfl
   have hcz : 0 ≤ m.count := zC
   have hcy : m.count ≤ 65536 := hcc.2
   have HX := hid (HBX.out.later HC2.out)
   have y4 : v2.cell? ⟨w.heap.size, 4, none⟩ = some (.int .i64 m.count) := HX.out.cell 4
   have HONE := hid (AI (Ay m.count.toNat))
   generalize Ay m.count.toNat = X at *
   go_wp2_with fail;refine (C2.out (by trivial) _).mono ?_
   rintro r x1 ⟨v1, rfl, hv1, hb1⟩;obtain ⟨aX, cX, rfl⟩ := AA hv1
   have HS1 := hid (A5 (BJ rfl hv1))
   clear hv1;have HQ1 := hid (AD HP2.out hb1)
   have hz1s := hb1.size
   clear y4;go_wp2_with (at_builtin; go_loud (refine Aq rfl _ _ _ rfl w0.heap.size 5 i0 (.int .u8 0) 1 1 As hi hz0 hz1 hz2 rfl zP (.slice a1' J1.length c1') J1.length (byteCells J1) rfl (HQ1.out) (aX) (X.length) (cX) (byteCells X) rfl (HS1.out) HONE.out zK zC zC ?_; intro v' w2x hown2x hgrow2x hat2x; obtain ⟨a2x, c2x, rfl⟩ := AA hown2x; have HO2x := hid (BS.app hown2x); have hbg2x : Below w0.heap.size x1 w2x := (Below.grown (Below.refl _ _) hgrow2x zC (fun g e => (C6 (HQ1.out) g e).1)); clear hown2x hgrow2x hat2x))
   have hbe : Below w0.heap.size w0 w2x := HC2.out.trans ((hb1.mono zC).trans hbg2x)
   go_meet
   case rel => exact ⟨J1 ++ X, _, _, ZA, HO2x.out, hid (by rw [HE1.out]; rfl), ZH, hbe⟩
 case rest =>
 obtain ⟨J2, a2', c2', rfl, ho, he, hl2, hbc⟩ := hcut
 have HO2 := hid ho
 have HE2 := hid he
 have HD2 := hid hbc
 clear ho he hbc;obtain ⟨w2, hwn⟩ : ∃ W : World, W = wc := ⟨_, rfl⟩
 subst hwn;go_wp2_with fail;refine (HH4.out _).mono ?_
 rintro r v3 ⟨rfl, hb3⟩;have HC3 := hid (Af hb3 HD2.out)
 have HP3 := hid (AD HO2.out hb3)
 clear hb3;go_upto_if 23 with (fail)
 go_cut [3] from 24 to 29 (fun v V => ∃ (J : List UInt8) (aJ : Option Addr) (cJ : Nat), v = .slice aJ J.length cJ ∧ BS V w0.heap.size v J ∧ Hid (J = AV H1 (Ay m.pos.toNat) ++ AV H2 (Ay m.count.toNat) ++ AV H4 ([UInt8.ofNat m.state.toNat])) ∧ J.length ≤ 21 ∧ Below w0.heap.size w0 V)
 case first =>
  have HBV := hid (HB0.out.trans (HC3.out.mono HB0.out.size))
  have hzz := HC3.out.size
  cases H4
  ·go_wp2_with fail
   go_meet
   case rel => exact ⟨J2, a2', c2', rfl, HP3.out, hid (by rw [HE2.out]; simp [AV]), zC, HC3.out⟩
  ·have hxl := hx4 rfl
   have hcc := hc4 rfl
   have hcz : 0 ≤ m.state := zC
   have hcy : m.state ≤ 20 := hcc.2
   have HX := hid (HBX.out.later HC3.out)
   have y5 : v3.cell? ⟨w.heap.size, 5, none⟩ = some (.int .i64 m.state) := HX.out.cell 5
   go_wp2_with (at_builtin; go_loud (refine Aq rfl _ _ _ rfl w0.heap.size 5 i0 (.int .u8 0) 1 1 As hi hz0 hz1 hz2 rfl zP (.slice a2' J2.length c2') J2.length (byteCells J2) rfl (AD HP3.out zA) (some ⟨v3.heap.size, 0, none⟩) (1) (1) [.int .u8 m.state] rfl (Bx v3 _ _ rfl rfl rfl) zW zK zC zJ ?_; intro v' w2x hown2x hgrow2x hat2x; obtain ⟨a2x, c2x, rfl⟩ := AA hown2x; have HO2x := hid (BS.Wf zC zC hown2x); have hbg2x : Below w0.heap.size (v3.alloc (.cells #[.int .u8 m.state] 5)) w2x := (Below.grown (Below.refl _ _) hgrow2x zJ (fun g e => (C6 (AD HP3.out zA) g e).1)); clear hown2x hgrow2x hat2x))
   have hbe : Below w0.heap.size w0 w2x := HC3.out.trans (((Below.refl _ _).alloc zC _).trans hbg2x)
   go_meet
   case rel => exact ⟨J2 ++ [UInt8.ofNat m.state.toNat], _, _, by rw [Ag]; rfl, HO2x.out, hid (by rw [HE2.out]; rfl), zBn, hbe⟩
 case rest =>
 obtain ⟨J3, a3', c3', rfl, ho, he, hl3, hbc⟩ := hcut
 have HO3 := hid ho
 have HE3 := hid he
 have HD3 := hid hbc
 clear ho he hbc;obtain ⟨w3, hwn⟩ : ∃ W : World, W = wc := ⟨_, rfl⟩
 subst hwn;go_wp2_with fail;refine (HH8.out _).mono ?_
 rintro r v4 ⟨rfl, hb4⟩;have HC4 := hid (Af hb4 HD3.out)
 have HP4 := hid (AD HO3.out hb4)
 clear hb4;go_upto_if 31 with (fail)
 go_cut [3] from 32 to 43 (fun v V => ∃ (J : List UInt8) (aJ : Option Addr) (cJ : Nat), v = .slice aJ J.length cJ ∧ BS V w0.heap.size v J ∧ Hid (J = AV H1 (Ay m.pos.toNat) ++ AV H2 (Ay m.count.toNat) ++ AV H4 ([UInt8.ofNat m.state.toNat]) ++ AV H8 (D4 m.streams)) ∧ J.length ≤ 191 ∧ Below w0.heap.size w0 V)
 case first =>
  have HBV := hid (HB0.out.trans (HC4.out.mono HB0.out.size))
  have hzz := HC4.out.size
  cases H8
  ·go_wp2_with fail
   go_meet
   case rel => exact ⟨J3, a3', c3', rfl, HP4.out, hid (by rw [HE3.out]; simp [AV]), zC, HC4.out⟩
  ·have hxl := hx8 rfl
   have hcc := (hc8 rfl).1
   rw [HSB.out, Ag] at hxl
   have HX := hid (HBX.out.later HC4.out)
   have y6 : v4.cell? ⟨w.heap.size, 6, none⟩ = some (.slice a1 m.streams.length c1) := HX.out.cell 6
   have hvx := Di (x := m.streams.length) zC
   have HONE := hid (AI (Gg m.streams))
   have HSS := HSB
   generalize Gg m.streams = UX at *
   go_wp2_with (at_builtin; go_loud (refine Aq rfl _ _ _ rfl w0.heap.size 5 i0 (.int .u8 0) 1 1 As hi hz0 hz1 hz2 rfl zP (.slice a3' J3.length c3') J3.length (byteCells J3) rfl (AD HP4.out zA) (some ⟨v4.heap.size, 0, none⟩) (1) (1) [.int .u8 (m.streams.length : Int)] rfl (Bx v4 _ _ rfl rfl rfl) zW zK zC zJ ?_; intro v' w2x hown2x hgrow2x hat2x; obtain ⟨a2x, c2x, rfl⟩ := AA hown2x; have HO2x := hid (BS.Ur zC hown2x); have hbg2x : Below w0.heap.size (v4.alloc (.cells #[.int .u8 (m.streams.length : Int)] 5)) w2x := (Below.grown (Below.refl _ _) hgrow2x zJ (fun g e => (C6 (AD HP4.out zA) g e).1)); have hb2 : Below w0.heap.size v4 w2x := (((Below.refl _ _).alloc zC _).trans hbg2x); have HX2 := hid (HBX.out.below (HC4.out.trans hb2) hs0); have z6 : w2x.cell? ⟨w.heap.size, 6, none⟩ = some (.slice a1 m.streams.length c1) := HX2.out.cell 6; clear hown2x hgrow2x hat2x))
   have hbf := HC4.out.trans hb2
   have HBF := hid hbf
   have hln : (J3 ++ Ay m.streams.length).length = J3.length + 1 := by rw [Ag, hvx]
   generalize hJJ : J3 ++ Ay m.streams.length = JJ at *
   have HJJ := hid hJJ
   have HP2 := hid HO2x.out
   rw [← hln] at HP2 ⊢
   have hzf := hbf.size
   have HCC := hid (C8.out (by trivial) w2x (HB0.out.trans (hbf.mono HB0.out.size)))
   have hJJl : JJ.length + UX.length ≤ 2000000 := zC
   have hJJm : JJ.length + UX.length ≤ 191 := zC
   clear hJJ hln hb2 hbg2x hbf;refine HCC.out.mono ?_
   rintro r x3 ⟨v3, rfl, hv3, hb3⟩;obtain ⟨aY, cY, rfl⟩ := AA hv3
   have HS3 := hid (A5 (BJ rfl hv3))
   have HQ3 := hid (AD HP2.out hb3)
   have hz3s := hb3.size
   clear hv3 y6 z6;go_wp2_with (at_builtin; go_loud (refine Aq rfl _ _ _ rfl w0.heap.size 5 i0 (.int .u8 0) 1 1 As hi hz0 hz1 hz2 rfl zP (.slice a2x JJ.length c2x) JJ.length (byteCells JJ) rfl (HQ3.out) (aY) (UX.length) (cY) (byteCells UX) rfl (HS3.out) HONE.out zK zC zC ?_; intro v' w4x hown4x hgrow4x hat4x; obtain ⟨a4x, c4x, rfl⟩ := AA hown4x; have HO4x := hid (BS.app hown4x); have hbg4x : Below w0.heap.size x3 w4x := (Below.grown (Below.refl _ _) hgrow4x zC (fun g e => (C6 (HQ3.out) g e).1)); clear hown4x hgrow4x hat4x))
   have hbe : Below w0.heap.size w0 w4x := HBF.out.trans ((hb3.mono zC).trans hbg4x)
   go_meet
   case rel => exact ⟨JJ ++ UX, _, _, ZA, HO4x.out, hid (by rw [← HJJ.out, HE3.out, Av, ← HSS.out]; rfl), ZH, hbe⟩
 case rest =>
 obtain ⟨J4, a4', c4', rfl, ho, he, hl4, hbc⟩ := hcut
 have HO4 := hid ho
 have HE4 := hid he
 have HD4 := hid hbc
 clear ho he hbc;obtain ⟨w4, hwn⟩ : ∃ W : World, W = wc := ⟨_, rfl⟩
 subst hwn;go_wp2_with fail;refine (HH16.out _).mono ?_
 rintro r v5 ⟨rfl, hb5⟩;have HC5 := hid (Af hb5 HD4.out)
 have HP5 := hid (AD HO4.out hb5)
 clear hb5;go_upto_if 45 with (fail)
 go_cut [3] from 46 to 52 (fun v V => ∃ (J : List UInt8) (aJ : Option Addr) (cJ : Nat), v = .slice aJ J.length cJ ∧ BS V w0.heap.size v J ∧ Hid (J = AV H1 (Ay m.pos.toNat) ++ AV H2 (Ay m.count.toNat) ++ AV H4 ([UInt8.ofNat m.state.toNat]) ++ AV H8 (D4 m.streams) ++ AV H16 (Cx m.pos m.links)) ∧ J.length ≤ 1021 ∧ Below w0.heap.size w0 V)
 case first =>
  have HBV := hid (HB0.out.trans (HC5.out.mono HB0.out.size))
  have hzz := HC5.out.size
  cases H16
  ·go_wp2_with fail
   go_meet
   case rel => exact ⟨J4, a4', c4', rfl, HP5.out, hid (by rw [HE4.out]; simp [AV]), zC, HC5.out⟩
  ·have hxl := hx16 rfl
   have HX := hid (HBX.out.later HC5.out)
   have y3 : v5.cell? ⟨w.heap.size, 3, none⟩ = some (.int .u64 m.pos) := HX.out.cell 3
   have y7 : v5.cell? ⟨w.heap.size, 7, none⟩ = some (.slice a2 m.links.length c2) := HX.out.cell 7
   have HONE := hid (AI (Cx m.pos m.links))
   generalize Cx m.pos m.links = X at *
   go_wp2_with fail;refine (C16.out (by trivial) _ HBV.out).mono ?_
   rintro r x1 ⟨v1, rfl, hv1, hb1⟩;obtain ⟨aX, cX, rfl⟩ := AA hv1
   have HS1 := hid (A5 (BJ rfl hv1))
   clear hv1;have HQ1 := hid (AD HP5.out hb1)
   have hz1s := hb1.size
   clear y3 y7;go_wp2_with (at_builtin; go_loud (refine Aq rfl _ _ _ rfl w0.heap.size 5 i0 (.int .u8 0) 1 1 As hi hz0 hz1 hz2 rfl zP (.slice a4' J4.length c4') J4.length (byteCells J4) rfl (HQ1.out) (aX) (X.length) (cX) (byteCells X) rfl (HS1.out) HONE.out zK zC zC ?_; intro v' w2x hown2x hgrow2x hat2x; obtain ⟨a2x, c2x, rfl⟩ := AA hown2x; have HO2x := hid (BS.app hown2x); have hbg2x : Below w0.heap.size x1 w2x := (Below.grown (Below.refl _ _) hgrow2x zC (fun g e => (C6 (HQ1.out) g e).1)); clear hown2x hgrow2x hat2x))
   have hbe : Below w0.heap.size w0 w2x := HC5.out.trans ((hb1.mono zC).trans hbg2x)
   go_meet
   case rel => exact ⟨J4 ++ X, _, _, ZA, HO2x.out, hid (by rw [HE4.out]; rfl), ZH, hbe⟩
 case rest =>
 obtain ⟨J5, a5', c5', rfl, ho, he, hl5, hbc⟩ := hcut
 have HO5 := hid ho
 have HE5 := hid he
 have HD5 := hid hbc
 clear ho he hbc;obtain ⟨w5, hwn⟩ : ∃ W : World, W = wc := ⟨_, rfl⟩
 subst hwn;have q5 : w5.cell? ⟨w.heap.size, 5, none⟩ = some (.int .i64 m.state) := (HBX.out.later HD5.out).cell 5
 go_wp2_with fail;refine (HHD.out _).mono ?_
 rintro r v6 ⟨rfl, rfl⟩;clear q5;have HP6 := hid (HO5.out)
 go_upto_if 56 with (fail)
 go_cut [3] from 57 to 61 (fun v V => ∃ (J : List UInt8) (aJ : Option Addr) (cJ : Nat), v = .slice aJ J.length cJ ∧ BS V w0.heap.size v J ∧ Hid (J = AV H1 (Ay m.pos.toNat) ++ AV H2 (Ay m.count.toNat) ++ AV H4 ([UInt8.ofNat m.state.toNat]) ++ AV H8 (D4 m.streams) ++ AV H16 (Cx m.pos m.links) ++ AV HD (Bp m.data)) ∧ J.length ≤ 1049608 ∧ Below w0.heap.size w0 V)
 case first =>
  have HBV := hid (HB0.out.trans (HD5.out.mono HB0.out.size))
  have hzz := HD5.out.size
  cases HD
  ·go_wp2_with fail
   go_meet
   case rel => exact ⟨J5, a5', c5', rfl, HP6.out, hid (by rw [HE5.out]; simp [AV]), zC, HD5.out⟩
  ·have hxl := hxD rfl
   have HX := hid (HBX.out.later HD5.out)
   have y8 : w5.cell? ⟨w.heap.size, 8, none⟩ = some (.slice a3 m.data.length c3) := HX.out.cell 8
   have HONE := hid (AI (Bp m.data))
   generalize Bp m.data = X at *
   go_wp2_with fail;refine (CD.out _ HBV.out).mono ?_
   rintro r x1 ⟨v1, rfl, hv1, hb1⟩;obtain ⟨aX, cX, hve, hv1', _⟩ := AN hv1
   simp only [Au, AO] at hve
   subst hve;have HS1 := hid (A5 hv1')
   clear hv1 hv1';have HQ1 := hid (AD HP6.out hb1)
   have hz1s := hb1.size
   clear y8;go_wp2_with (at_builtin; go_loud (refine Aq rfl _ _ _ rfl w0.heap.size 5 i0 (.int .u8 0) 1 1 As hi hz0 hz1 hz2 rfl zP (.slice a5' J5.length c5') J5.length (byteCells J5) rfl (HQ1.out) (aX) (X.length) (cX) (byteCells X) rfl (HS1.out) HONE.out zK zC zC ?_; intro v' w2x hown2x hgrow2x hat2x; obtain ⟨a2x, c2x, rfl⟩ := AA hown2x; have HO2x := hid (BS.app hown2x); have hbg2x : Below w0.heap.size x1 w2x := (Below.grown (Below.refl _ _) hgrow2x zC (fun g e => (C6 (HQ1.out) g e).1)); clear hown2x hgrow2x hat2x))
   have hbe : Below w0.heap.size w0 w2x := HD5.out.trans ((hb1.mono zC).trans hbg2x)
   go_meet
   case rel => exact ⟨J5 ++ X, _, _, ZA, HO2x.out, hid (by rw [HE5.out]; rfl), ZH, hbe⟩
 case rest =>
 obtain ⟨J6, a6', c6', rfl, ho, he, hl6, hbc⟩ := hcut
 have HO6 := hid ho
 have HE6 := hid he
 have HD6 := hid hbc
 clear ho he hbc;obtain ⟨w6, hwn⟩ : ∃ W : World, W = wc := ⟨_, rfl⟩
 subst hwn;go_wp2_with fail;refine (HH64.out _).mono ?_
 rintro r v7 ⟨rfl, hb7⟩;have HC7 := hid (Af hb7 HD6.out)
 have HP7 := hid (AD HO6.out hb7)
 clear hb7;go_upto_if 63 with (fail)
 go_cut [3] from 64 to 68 (fun v V => ∃ (J : List UInt8) (aJ : Option Addr) (cJ : Nat), v = .slice aJ J.length cJ ∧ BS V w0.heap.size v J ∧ Hid (J = AV H1 (Ay m.pos.toNat) ++ AV H2 (Ay m.count.toNat) ++ AV H4 ([UInt8.ofNat m.state.toNat]) ++ AV H8 (D4 m.streams) ++ AV H16 (Cx m.pos m.links) ++ AV HD (Bp m.data) ++ AV H64 (DH m.sea)) ∧ J.length ≤ 1049638 ∧ Below w0.heap.size w0 V)
 case first =>
  have HBV := hid (HB0.out.trans (HC7.out.mono HB0.out.size))
  have hzz := HC7.out.size
  cases H64
  ·go_wp2_with fail
   go_meet
   case rel => exact ⟨J6, a6', c6', rfl, HP7.out, hid (by rw [HE6.out]; simp [AV]), zC, HC7.out⟩
  ·have hxl := hx64 rfl
   have HX := hid (HBX.out.later HC7.out)
   have y9 : v7.cell? ⟨w.heap.size, 9, none⟩ = some (.int .u64 m.sea.epoch) := HX.out.cell 9
   have y10 : v7.cell? ⟨w.heap.size, 10, none⟩ = some (.int .u64 m.sea.node) := HX.out.cell 10
   have y11 : v7.cell? ⟨w.heap.size, 11, none⟩ = some (.int .u64 m.sea.tail) := HX.out.cell 11
   have HONE := hid (AI (DH m.sea))
   generalize DH m.sea = X at *
   go_wp2_with fail;refine (C64.out _).mono ?_
   rintro r x1 ⟨v1, rfl, hv1, hb1⟩;obtain ⟨aX, cX, rfl⟩ := AA hv1
   have HS1 := hid (A5 (BJ rfl hv1))
   clear hv1;have HQ1 := hid (AD HP7.out hb1)
   have hz1s := hb1.size
   clear y9 y10 y11;go_wp2_with (at_builtin; go_loud (refine Aq rfl _ _ _ rfl w0.heap.size 5 i0 (.int .u8 0) 1 1 As hi hz0 hz1 hz2 rfl zP (.slice a6' J6.length c6') J6.length (byteCells J6) rfl (HQ1.out) (aX) (X.length) (cX) (byteCells X) rfl (HS1.out) HONE.out zK zC zC ?_; intro v' w2x hown2x hgrow2x hat2x; obtain ⟨a2x, c2x, rfl⟩ := AA hown2x; have HO2x := hid (BS.app hown2x); have hbg2x : Below w0.heap.size x1 w2x := (Below.grown (Below.refl _ _) hgrow2x zC (fun g e => (C6 (HQ1.out) g e).1)); clear hown2x hgrow2x hat2x))
   have hbe : Below w0.heap.size w0 w2x := HC7.out.trans ((hb1.mono zC).trans hbg2x)
   go_meet
   case rel => exact ⟨J6 ++ X, _, _, ZA, HO2x.out, hid (by rw [HE6.out]; rfl), ZH, hbe⟩
 case rest =>
 obtain ⟨J7, a7', c7', rfl, ho, he, hl7, hbc⟩ := hcut
 have HO7 := hid ho
 have HE7 := hid he
 have HD7 := hid hbc
 clear ho he hbc;obtain ⟨w7, hwn⟩ : ∃ W : World, W = wc := ⟨_, rfl⟩
 subst hwn;go_wp2_with fail;refine (HH128.out _).mono ?_
 rintro r v8 ⟨rfl, hb8⟩;have HC8 := hid (Af hb8 HD7.out)
 have HP8 := hid (AD HO7.out hb8)
 clear hb8;go_upto_if 70 with (fail)
 go_cut [3] from 71 to 75 (fun v V => ∃ (J : List UInt8) (aJ : Option Addr) (cJ : Nat), v = .slice aJ J.length cJ ∧ BS V w0.heap.size v J ∧ Hid (J = AV H1 (Ay m.pos.toNat) ++ AV H2 (Ay m.count.toNat) ++ AV H4 ([UInt8.ofNat m.state.toNat]) ++ AV H8 (D4 m.streams) ++ AV H16 (Cx m.pos m.links) ++ AV HD (Bp m.data) ++ AV H64 (DH m.sea) ++ AV H128 (DI m.proj)) ∧ J.length ≤ 1097018 ∧ Below w0.heap.size w0 V)
 case first =>
  have HBV := hid (HB0.out.trans (HC8.out.mono HB0.out.size))
  have hzz := HC8.out.size
  cases H128
  ·go_wp2_with fail
   go_meet
   case rel => exact ⟨J7, a7', c7', rfl, HP8.out, hid (by rw [HE7.out]; simp [AV]), zC, HC8.out⟩
  ·have hxl := hx128 rfl
   have HX := hid (HBX.out.later HC8.out)
   have y12 : v8.cell? ⟨w.heap.size, 12, none⟩ = some (.int .u64 m.proj.epoch) := HX.out.cell 12
   have y13 : v8.cell? ⟨w.heap.size, 13, none⟩ = some (.slice a4 m.proj.stripes.length c4) := HX.out.cell 13
   have HONE := hid (AI (DI m.proj))
   generalize DI m.proj = X at *
   go_wp2_with fail;refine (C128.out (by trivial) _ HBV.out).mono ?_
   rintro r x1 ⟨v1, rfl, hv1, hb1⟩;obtain ⟨aX, cX, rfl⟩ := AA hv1
   have HS1 := hid (A5 (BJ rfl hv1))
   clear hv1;have HQ1 := hid (AD HP8.out hb1)
   have hz1s := hb1.size
   clear y12 y13;go_wp2_with (at_builtin; go_loud (refine Aq rfl _ _ _ rfl w0.heap.size 5 i0 (.int .u8 0) 1 1 As hi hz0 hz1 hz2 rfl zP (.slice a7' J7.length c7') J7.length (byteCells J7) rfl (HQ1.out) (aX) (X.length) (cX) (byteCells X) rfl (HS1.out) HONE.out zK zC zC ?_; intro v' w2x hown2x hgrow2x hat2x; obtain ⟨a2x, c2x, rfl⟩ := AA hown2x; have HO2x := hid (BS.app hown2x); have hbg2x : Below w0.heap.size x1 w2x := (Below.grown (Below.refl _ _) hgrow2x zC (fun g e => (C6 (HQ1.out) g e).1)); clear hown2x hgrow2x hat2x))
   have hbe : Below w0.heap.size w0 w2x := HC8.out.trans ((hb1.mono zC).trans hbg2x)
   go_meet
   case rel => exact ⟨J7 ++ X, _, _, ZA, HO2x.out, hid (by rw [HE7.out]; rfl), ZH, hbe⟩
 case rest =>
 obtain ⟨J8, a8', c8', rfl, ho, he, hl8, hbc⟩ := hcut
 have HO8 := hid ho
 have HE8 := hid he
 have HD8 := hid hbc
 clear ho he hbc;obtain ⟨w8, hwn⟩ : ∃ W : World, W = wc := ⟨_, rfl⟩
 subst hwn;have HOL := hid (Gn HO8.out (Nat.le_of_lt hs0))
 have HBE := hid (HB0.out.trans (HD8.out.mono HB0.out.size))
 go_wp2_with fail;go_ret;rw [← HE8.out]
 exact ⟨_, rfl, HOL.out, HBE.out⟩
theorem Uj : Tryz.prog.cellsOf 3 = 1 := zG
theorem VM : Tryz.prog.cellsOf 27 = 3 := zG
theorem VJ : Tryz.prog.cellsOf 153 = 1 := zG
theorem SN : Tryz.prog.cellsOf 28 = 1 := zG
theorem U9 : Tryz.prog.cellsOf 30 = 2 := zG
theorem RD : EW Tryz.prog 3 (GA .i64) := JY Tryz.underlying3
theorem VB : EW Tryz.prog 153 DW := FD (sz := 1) Tryz.underlying153 zG zP Qs
theorem DN {H : Type} {enc : TypeId × Value → H} {P : Program} {w : World} {cs : List Value} {n : Nat} {fs : Array Field} (h : ∀ (i : Nat) (f : Field), fs[i]? = some f → ∃ y, DataW.trod enc P w 0 (fun _ => true) true n f.type ((cs.drop f.offset).take (P.cellsOf f.type)) = some y)
  {α : Type} {A : Rp α} {t : TypeId} (hA : EW P t A) (i : Nat) (f : Field) (o s : Nat) (hf : fs[i]? = some f) (ht : f.type = t) (ho : f.offset = o) (hs : P.cellsOf t = s) : ∃ x, A.r (· < w.heap.size) w ((cs.drop o).take s) x := by
 obtain ⟨y, hy⟩ := h i f hf
 rw [ht, ho, hs] at hy
 exact hA enc w n _ _ hy
theorem VC : EW Tryz.prog 27 Tr := fun enc w fuel cs x h => by
 obtain ⟨hl, n, hf⟩ := Fs Tryz.underlying27 h
 have hl2 : cs.length = 3 := hl.trans zG
 obtain ⟨x0, r0⟩ := Ez hf Ik 0 _ 0 rfl rfl rfl IN
 obtain ⟨x1, r1⟩ := Ez hf Ik 1 _ 1 rfl rfl rfl IN
 obtain ⟨x2, r2⟩ := Ez hf Ik 2 _ 2 rfl rfl rfl IN
 exact ⟨⟨x0, x1, x2⟩, ZU⟩
theorem TQ : EW Tryz.prog 155 G8 := fun enc w fuel cs x h => by
 obtain ⟨hl, n, hf⟩ := Fs Tryz.underlying155 h
 have hl2 : cs.length = 3 := hl.trans zG
 obtain ⟨x0, r0⟩ := Ez hf Ik 0 _ 0 rfl rfl rfl IN
 obtain ⟨x1, r1⟩ := Ez hf Ik 1 _ 1 rfl rfl rfl IN
 obtain ⟨x2, r2⟩ := Ez hf VB 2 _ 2 rfl rfl rfl VJ
 exact ⟨⟨x0, x1, x2⟩, ZU⟩
theorem Ss : EW Tryz.prog 28 Bg := FD (sz := 3) Tryz.underlying28 zG zP TQ
theorem UI : EW Tryz.prog 30 Qh := fun enc w fuel cs x h => by
 obtain ⟨hl, n, hf⟩ := Fs Tryz.underlying30 h
 have hl2 : cs.length = 2 := hl.trans zG
 obtain ⟨x0, r0⟩ := Ez hf Ik 0 _ 0 rfl rfl rfl IN
 obtain ⟨x1, r1⟩ := Ez hf Ss 1 _ 1 rfl rfl rfl SN
 exact ⟨⟨x0, x1⟩, zAi⟩
theorem VY : EW Tryz.prog 32 VV := fun enc w fuel cs x h => by
 obtain ⟨hl, n, hf⟩ := Fs Tryz.underlying32 h
 have hl2 : cs.length = 14 := hl.trans zG
 obtain ⟨x0, r0⟩ := DN hf RD 0 _ 0 1 rfl rfl rfl Uj
 obtain ⟨x1, r1⟩ := DN hf Ik 1 _ 1 1 rfl rfl rfl IN
 obtain ⟨x2, r2⟩ := DN hf Ik 2 _ 2 1 rfl rfl rfl IN
 obtain ⟨x3, r3⟩ := DN hf Ik 3 _ 3 1 rfl rfl rfl IN
 obtain ⟨x4, r4⟩ := DN hf RD 4 _ 4 1 rfl rfl rfl Uj
 obtain ⟨x5, r5⟩ := DN hf RD 5 _ 5 1 rfl rfl rfl Uj
 obtain ⟨x6, r6⟩ := DN hf Qs 6 _ 6 1 rfl rfl rfl Ui
 obtain ⟨x7, r7⟩ := DN hf UJ 7 _ 7 1 rfl rfl rfl Va
 obtain ⟨x8, r8⟩ := DN hf UK 8 _ 8 1 rfl rfl rfl Vb
 obtain ⟨x9, r9⟩ := DN hf VC 9 _ 9 3 rfl rfl rfl VM
 obtain ⟨x10, r10⟩ := DN hf UI 10 _ 12 2 rfl rfl rfl U9
 exact ⟨⟨x0, x1, x2, x3, x4, x5, x6, x7, x8, x9, x10⟩, by have h := (Ea (o := 0) (s := 1) (o' := 1) rfl r0 (Ea (o := 1) (s := 1) (o' := 2) rfl r1 (Ea (o := 2) (s := 1) (o' := 3) rfl r2 (Ea (o := 3) (s := 1) (o' := 4) rfl r3 (Ea (o := 4) (s := 1) (o' := 5) rfl r4 (Ea (o := 5) (s := 1) (o' := 6) rfl r5 (Ea (o := 6) (s := 1) (o' := 7) rfl r6 (Ea (o := 7) (s := 1) (o' := 8) rfl r7 (Ea (o := 8) (s := 1) (o' := 9) rfl r8 (Ea (o := 9) (s := 3) (o' := 12) rfl r9 (SA (o := 12) (s := 2) hl2 r10))))))))))); rw [List.drop_zero] at h; exact h⟩
theorem UP {H : Type} (enc : TypeId × Value → H) (W : World) (base : Nat) (v0 : Value) (d0 : DataW H) (p0 : List MemPlace)
  (k0 : DataW.Trod enc Tryz.prog W 0 (fun _ => true) true 32 v0 d0 p0) (o0 : Value.okWide Tryz.prog W .any base 32 v0) :
  ∃ (m : Msg) (a1 : Option Addr) (c1 : Nat) (a2 : Option Addr) (c2 : Nat) (a3 : Option Addr) (c3 : Nat) (a4 : Option Addr) (c4 : Nat), v0 = .agg #[.int .i64 m.kind, .int .u64 m.epoch, .int .u64 m.seq, .int .u64 m.pos, .int .i64 m.count, .int .i64 m.state, .slice a1 m.streams.length c1, .slice a2 m.links.length c2, .slice a3 m.data.length c3, .int .u64 m.sea.epoch, .int .u64 m.sea.node, .int .u64 m.sea.tail, .int .u64 m.proj.epoch, .slice a4 m.proj.stripes.length c4] ∧ A2 (· < W.heap.size) W m a1 c1 a2 c2 a3 c3 a4 c4 := by
 obtain ⟨fuel, hf⟩ := k0
 obtain ⟨cs, rfl, hsz⟩ := Go.WideShapes.okWide_struct Tryz.underlying32 o0
 obtain ⟨u, hu⟩ := VY enc W fuel _ _ hf
 obtain ⟨a1, c1, a2, c2, a3, c3, a4, c4, hcs, hin⟩ := Su hu
 have e : cs = (OS u a1 c1 a2 c2 a3 c3 a4 c4).toArray := by
  have := hcs
  simp only [Value.cells] at this
  exact Array.ext' this
 exact ⟨u, a1, c1, a2, c2, a3, c3, a4, c4, by rw [e]; rfl, hin⟩
theorem Uf {S : Nat → Prop} {w : World} {a : Option Addr} {B : List UInt8} {c : Nat} (h : Ah.r S w [.slice a B.length c] B) {n : Nat} (h1 : n ≤ B.length) :
  (∀ w' : World, (Instr.slice 25 (.slice a B.length c) none (some (.int .i64 (n : Int))) none).run Tryz.prog w' = .ok (.slice a n c) w') ∧ Ah.r S w [.slice a n c] (B.take n) := by
 obtain ⟨_, hm, hc, hcm⟩ := AS h
 have g1 : (0 : Int) ≤ (n : Int) := zC
 have g3 : (n : Int) ≤ (c : Int) := zC
 refine ⟨fun w' => ?_, ?_⟩
 ·clear h
  cases a with
  | none => go_simp
  | some p => go_simp
 ·obtain ⟨a', c', e, h2, h3, h4⟩ := GD h h1
  have hl : (B.take n).length = n := zJ
  simp at e
  obtain ⟨rfl, _, rfl⟩ := e
  exact Bh (a := a) (c := c) (by rw [hl]) zC zC h4
theorem OR {m : Msg} (h : FE m = true) : (∀ x ∈ m.links, x.backs.length ≤ 1000000) ∧ m.data.length ≤ 1048576 := by
 refine ⟨?_, (EF h).data⟩
 unfold FE at h;simp only [Ao] at h
 have h5 := h.2.2.2.2.2.1
 cases hh : AK m.kind 16
 ·rw [hh] at h5
  have := List.length_eq_zero_iff.1 (A9 h5)
  rw [this]
  simp
 ·rw [hh] at h5
  have h6 : BK m.pos m.links = true := h5
  simp only [BK, Ao, List.all_eq_true] at h6
  intro x hx;have := h6.2.2 x hx
  simp only [C3, Ao, Ar] at this
  omega
theorem A2.bare {S : Nat → Prop} {w : World} : A2 S w Bc none 0 none 0 none 0 none 0 := PD.none.to (Bh (xs := []) rfl (Ak _) (Aj _) (.inl rfl)) (Bh (xs := []) rfl (Ak _) (Aj _) (.inl rfl)) (Bh (xs := []) rfl (Ak _) (Aj _) (.inl rfl)) (Bh (xs := []) rfl (Ak _) (Aj _) (.inl rfl))
theorem TT {S : Nat → Prop} {w : World} {m : Msg} {a1 : Option Addr} {c1 : Nat} {a2 : Option Addr} {c2 : Nat} {a3 : Option Addr} {c3 : Nat} {a4 : Option Addr} {c4 : Nat} (h : A2 S w m a1 c1 a2 c2 a3 c3 a4 c4) : PC m := by
 refine ⟨h.pos, DS h.streams, fun x hx => ?_, h.sealN.1, h.sealT.1, fun z hz x hx => ?_⟩
 ·obtain ⟨i, hi, rfl⟩ := Hx hx
  obtain ⟨b, o, hA, hbb, p1, q1, hc0, hc1, hst, hd⟩ := DE h.links hi
  exact ⟨hst, fun y hy => (DS hd y hy).1⟩
 ·obtain ⟨i, hi, rfl⟩ := Hx hz
  obtain ⟨b, o, hA, hbb, p1, q1, hc0, hc1, hc2, ub0, ub1, hd1⟩ := DG h.stripes hi
  obtain ⟨j, hj, rfl⟩ := Hx hx
  obtain ⟨b', o', hA', hbb', p2, q2, hc3, hd2⟩ := EO hd1 hj
  exact DS hd2
end Go.Proofs.YtlbffbkbkajciaaGreat
namespace Go.Bs
def Fv (m : Msg) : Bool := FE m && epR m.epoch
end Go.Bs
namespace Go.Proofs.YtlbffbkbkajciaaGreat
open Go.RowKit Go.Bs Go.Maps
def Dl (m : Msg) : List UInt8 := [UInt8.ofNat m.kind.toNat] ++ Ay m.epoch.toNat ++ Ay m.seq.toNat ++ EL m
def Ii (m : Msg) : List UInt8 × Int := if Fv m = true then (Dl m, 0) else ([], 3)
theorem LK {m : Msg} (h : Fv m = true) : (Dl m).length ≤ 49021 + m.data.length := by
 simp only [Fv, Ao] at h
 have h1 := Jp h.1
 have h2 := (AX m.epoch.toNat).1
 have h3 := (AX m.seq.toNat).1
 unfold Dl;simp only [Ag, AQ, Bu]
 omega
theorem Se (m : Msg) (a1 : Option Addr) (c1 : Nat) (a2 : Option Addr) (c2 : Nat) (a3 : Option Addr) (c3 : Nat) (a4 : Option Addr) (c4 : Nat) (w : World) (hm : A2 (· < w.heap.size) w m a1 c1 a2 c2 a3 c3 a4 c4) (hbk : ∀ x ∈ m.links, x.backs.length ≤ 1000000) :
  Calls Tryz.prog 30 #[.agg #[.int .i64 m.kind, .int .u64 m.epoch, .int .u64 m.seq, .int .u64 m.pos, .int .i64 m.count, .int .i64 m.state, .slice a1 m.streams.length c1, .slice a2 m.links.length c2, .slice a3 m.data.length c3, .int .u64 m.sea.epoch, .int .u64 m.sea.node, .int .u64 m.sea.tail, .int .u64 m.proj.epoch, .slice a4 m.proj.stripes.length c4]] w fun r w' => r = .returned (.bool (Fv m)) ∧ Below w.heap.size w w' := by
 have HB := hid (fun (W : World) (hW : Below w.heap.size w W) => I5 m a1 c1 a2 c2 a3 c3 a4 c4 W (A2.lift hm hW) (fun x hx => zBp))
 have HE := hid (fun W : World => FH m.epoch W)
 have hr : Fv m = (FE m && epR m.epoch) := rfl
 have HBX : Hid (Blk (w.alloc (.cells #[.int .i64 m.kind, .int .u64 m.epoch, .int .u64 m.seq, .int .u64 m.pos, .int .i64 m.count, .int .i64 m.state, .slice a1 m.streams.length c1, .slice a2 m.links.length c2, .slice a3 m.data.length c3, .int .u64 m.sea.epoch, .int .u64 m.sea.node, .int .u64 m.sea.tail, .int .u64 m.proj.epoch, .slice a4 m.proj.stripes.length c4] 32)) w.heap.size 32 #[.int .i64 m.kind, .int .u64 m.epoch, .int .u64 m.seq, .int .u64 m.pos, .int .i64 m.count, .int .i64 m.state, .slice a1 m.streams.length c1, .slice a2 m.links.length c2, .slice a3 m.data.length c3, .int .u64 m.sea.epoch, .int .u64 m.sea.node, .int .u64 m.sea.tail, .int .u64 m.proj.epoch, .slice a4 m.proj.stripes.length c4]) := hid (Blk.new w _ _)
 have hb0 : Below w.heap.size w (w.alloc (.cells #[.int .i64 m.kind, .int .u64 m.epoch, .int .u64 m.seq, .int .u64 m.pos, .int .i64 m.count, .int .i64 m.state, .slice a1 m.streams.length c1, .slice a2 m.links.length c2, .slice a3 m.data.length c3, .int .u64 m.sea.epoch, .int .u64 m.sea.node, .int .u64 m.sea.tail, .int .u64 m.proj.epoch, .slice a4 m.proj.stripes.length c4] 32)) := zB
 generalize Fv m = R at *
 generalize FE m = M at *
 generalize epR m.epoch = E at *
 clear hm;go_enter Tryz.func30, Tryz.ntmps30
 go_wp2_with fail;generalize (w.alloc (.cells #[.int .i64 m.kind, .int .u64 m.epoch, .int .u64 m.seq, .int .u64 m.pos, .int .i64 m.count, .int .i64 m.state, .slice a1 m.streams.length c1, .slice a2 m.links.length c2, .slice a3 m.data.length c3, .int .u64 m.sea.epoch, .int .u64 m.sea.node, .int .u64 m.sea.tail, .int .u64 m.proj.epoch, .slice a4 m.proj.stripes.length c4] 32)) = w0 at *
 refine (HB.out _ hb0).mono ?_
 rintro r w1 ⟨rfl, hb1⟩;have hb01 := Af hb1 hb0
 have y1 : w1.cell? ⟨w.heap.size, 1, none⟩ = some (.int .u64 m.epoch) := (HBX.out.later hb1).cell 1
 cases M
 ·have hff : Hid (R = false) := hid (by rw [hr]; rfl)
  clear hr;go_wp2_with fail;go_ret;exact ⟨zH, hb01⟩
 ·have hff : Hid (R = E) := hid (by rw [hr]; rfl)
  clear hr;go_wp2_with fail;refine (HE.out _).mono ?_
  rintro r w2 ⟨rfl, rfl⟩;go_wp2_with fail;go_ret;exact ⟨zH, hb01⟩
theorem Om (m : Msg) (a1 : Option Addr) (c1 : Nat) (a2 : Option Addr) (c2 : Nat) (a3 : Option Addr) (c3 : Nat) (a4 : Option Addr) (c4 : Nat) (w : World) (hm : A2 (· < w.heap.size) w m a1 c1 a2 c2 a3 c3 a4 c4) :
  Calls Tryz.prog 31 #[.agg #[.int .i64 m.kind, .int .u64 m.epoch, .int .u64 m.seq, .int .u64 m.pos, .int .i64 m.count, .int .i64 m.state, .slice a1 m.streams.length c1, .slice a2 m.links.length c2, .slice a3 m.data.length c3, .int .u64 m.sea.epoch, .int .u64 m.sea.node, .int .u64 m.sea.tail, .int .u64 m.proj.epoch, .slice a4 m.proj.stripes.length c4]] w fun r w' => r = .returned (.bool (Fv m)) ∧ Below w.heap.size w w' := by
 have HB := hid (fun (W : World) (hW : Below w.heap.size w W) => On m a1 c1 a2 c2 a3 c3 a4 c4 W (A2.lift hm hW))
 have HE := hid (fun W : World => Ic m.epoch hm.epoch.1 W)
 have hr : Fv m = (FE m && epR m.epoch) := rfl
 have HBX : Hid (Blk (w.alloc (.cells #[.int .i64 m.kind, .int .u64 m.epoch, .int .u64 m.seq, .int .u64 m.pos, .int .i64 m.count, .int .i64 m.state, .slice a1 m.streams.length c1, .slice a2 m.links.length c2, .slice a3 m.data.length c3, .int .u64 m.sea.epoch, .int .u64 m.sea.node, .int .u64 m.sea.tail, .int .u64 m.proj.epoch, .slice a4 m.proj.stripes.length c4] 32)) w.heap.size 32 #[.int .i64 m.kind, .int .u64 m.epoch, .int .u64 m.seq, .int .u64 m.pos, .int .i64 m.count, .int .i64 m.state, .slice a1 m.streams.length c1, .slice a2 m.links.length c2, .slice a3 m.data.length c3, .int .u64 m.sea.epoch, .int .u64 m.sea.node, .int .u64 m.sea.tail, .int .u64 m.proj.epoch, .slice a4 m.proj.stripes.length c4]) := hid (Blk.new w _ _)
 have hb0 : Below w.heap.size w (w.alloc (.cells #[.int .i64 m.kind, .int .u64 m.epoch, .int .u64 m.seq, .int .u64 m.pos, .int .i64 m.count, .int .i64 m.state, .slice a1 m.streams.length c1, .slice a2 m.links.length c2, .slice a3 m.data.length c3, .int .u64 m.sea.epoch, .int .u64 m.sea.node, .int .u64 m.sea.tail, .int .u64 m.proj.epoch, .slice a4 m.proj.stripes.length c4] 32)) := zB
 generalize Fv m = R at *
 generalize FE m = M at *
 generalize epR m.epoch = E at *
 clear hm;go_enter Tryz.func31, Tryz.ntmps31
 go_wp2_with fail;generalize (w.alloc (.cells #[.int .i64 m.kind, .int .u64 m.epoch, .int .u64 m.seq, .int .u64 m.pos, .int .i64 m.count, .int .i64 m.state, .slice a1 m.streams.length c1, .slice a2 m.links.length c2, .slice a3 m.data.length c3, .int .u64 m.sea.epoch, .int .u64 m.sea.node, .int .u64 m.sea.tail, .int .u64 m.proj.epoch, .slice a4 m.proj.stripes.length c4] 32)) = w0 at *
 refine (HB.out _ hb0).mono ?_
 rintro r w1 ⟨rfl, hb1⟩;have hb01 := Af hb1 hb0
 have y1 : w1.cell? ⟨w.heap.size, 1, none⟩ = some (.int .u64 m.epoch) := (HBX.out.later hb1).cell 1
 cases M
 ·have hff : Hid (R = false) := hid (by rw [hr]; rfl)
  clear hr;go_wp2_with fail;go_ret;exact ⟨zH, hb01⟩
 ·have hff : Hid (R = E) := hid (by rw [hr]; rfl)
  clear hr;go_wp2_with fail;refine (HE.out _).mono ?_
  rintro r w2 ⟨rfl, rfl⟩;go_wp2_with fail;go_ret;exact ⟨zH, hb01⟩
theorem Sf {α : Type} (A : Rp α) {lo : Nat} {w w' : World} {cs : List Value} {x : α} (h : A.r (fun q => lo ≤ q ∧ q < w.heap.size) w cs x) (hb : Below w.heap.size w w') : A.r (fun q => lo ≤ q ∧ q < w.heap.size) w' cs x :=
 A.keep h fun q hq => hb.block q hq.2
theorem Wc {e : Int} (h : 1 ≤ e ∧ e < 4611686018427387904) : (Ay e.toNat).length ≤ 9 := by
 have key : ∀ f x, (Fb f x).length ≤ f + 1 := by
  intro f;induction f with
  | zero => intro x; simp [Fb]
  | succ f ih => intro x; simp only [Fb]; split <;> simp; exact ih _
 have he : Fb 8 e.toNat = Fb 9 e.toNat := JP 8 9 _ (by have : (128 : Nat) ^ 9 = 9223372036854775808 := zP; omega) zC
 unfold Ay;rw [← he]
 exact key 8 _
theorem Sr (w : World) {g base most : Nat} {J : List UInt8} {a : Option Addr} {c : Nat} (h : BR w g base most J a c) :
  Calls Tryz.prog 60 #[.pointer (some ⟨g, 0, none⟩), .int .i64 0] w fun r w' => r = .returned (.tuple #[]) ∧ At w g base most J a w' :=
 (ON w h 0).mono fun r w' ⟨h1, h2, h3⟩ => ⟨h1, a, c, ⟨h2, Gm h.own fun q hq => h3.block q (h.own.lt q hq).2 (fun e => h.ne (by rw [hq, e])), h.ne, h.lo, h.le, h.most, h.len⟩, h3.mono fun b _ e => .inl e, .inl rfl⟩
theorem Ky (w : World) (m : Msg) (a1 : Option Addr) (c1 : Nat) (a2 : Option Addr) (c2 : Nat) (a3 : Option Addr) (c3 : Nat) (a4 : Option Addr) (c4 : Nat) (hd : A2 (· < w.heap.size) w m a1 c1 a2 c2 a3 c3 a4 c4) (hbk : ∀ x ∈ m.links, x.backs.length ≤ 1000000) (hln : m.data.length ≤ 10000000000) :
  Calls Tryz.prog 28 #[.agg #[.int .i64 m.kind, .int .u64 m.epoch, .int .u64 m.seq, .int .u64 m.pos, .int .i64 m.count, .int .i64 m.state, .slice a1 m.streams.length c1, .slice a2 m.links.length c2, .slice a3 m.data.length c3, .int .u64 m.sea.epoch, .int .u64 m.sea.node, .int .u64 m.sea.tail, .int .u64 m.proj.epoch, .slice a4 m.proj.stripes.length c4]] w fun r w' => ∃ v, r = .returned (.tuple #[v, .int .i64 (Ii m).2]) ∧ Ah.r (fun q => w.heap.size ≤ q ∧ q < w'.heap.size) w' [v] (Ii m).1 ∧ Below w.heap.size w w' := by
 have HRT := hid (fun (W : World) (hW : Below w.heap.size w W) => Se m a1 c1 a2 c2 a3 c3 a4 c4 W (A2.lift hd hW) hbk)
 have HBX : Hid (Blk (w.alloc (.cells #[.int .i64 m.kind, .int .u64 m.epoch, .int .u64 m.seq, .int .u64 m.pos, .int .i64 m.count, .int .i64 m.state, .slice a1 m.streams.length c1, .slice a2 m.links.length c2, .slice a3 m.data.length c3, .int .u64 m.sea.epoch, .int .u64 m.sea.node, .int .u64 m.sea.tail, .int .u64 m.proj.epoch, .slice a4 m.proj.stripes.length c4] 32)) w.heap.size 32 #[.int .i64 m.kind, .int .u64 m.epoch, .int .u64 m.seq, .int .u64 m.pos, .int .i64 m.count, .int .i64 m.state, .slice a1 m.streams.length c1, .slice a2 m.links.length c2, .slice a3 m.data.length c3, .int .u64 m.sea.epoch, .int .u64 m.sea.node, .int .u64 m.sea.tail, .int .u64 m.proj.epoch, .slice a4 m.proj.stripes.length c4]) := hid (Blk.new w _ _)
 have hb0 : Below w.heap.size w (w.alloc (.cells #[.int .i64 m.kind, .int .u64 m.epoch, .int .u64 m.seq, .int .u64 m.pos, .int .i64 m.count, .int .i64 m.state, .slice a1 m.streams.length c1, .slice a2 m.links.length c2, .slice a3 m.data.length c3, .int .u64 m.sea.epoch, .int .u64 m.sea.node, .int .u64 m.sea.tail, .int .u64 m.proj.epoch, .slice a4 m.proj.stripes.length c4] 32)) := zB
 unfold Ii;cases hR : Fv m
 ·rw [An zO]
  rw [hR] at HRT
  clear hd hbk hln hR;go_enter Tryz.func28, Tryz.ntmps28
  go_wp2_with fail;generalize (w.alloc (.cells #[.int .i64 m.kind, .int .u64 m.epoch, .int .u64 m.seq, .int .u64 m.pos, .int .i64 m.count, .int .i64 m.state, .slice a1 m.streams.length c1, .slice a2 m.links.length c2, .slice a3 m.data.length c3, .int .u64 m.sea.epoch, .int .u64 m.sea.node, .int .u64 m.sea.tail, .int .u64 m.proj.epoch, .slice a4 m.proj.stripes.length c4] 32)) = w0 at *
  refine (HRT.out _ hb0).mono ?_
  rintro r w1 ⟨rfl, hb1⟩;have hbe := Af hb1 hb0
  go_wp2_with fail;go_ret2
  exact ⟨_, rfl, Hk rfl rfl zC, hbe⟩
 ·rw [Am rfl]
  rw [hR] at HRT
  have hR' := hR
  simp only [Fv, Ao] at hR'
  obtain ⟨hm, hep⟩ := hR'
  have hk : 1 ≤ m.kind ∧ m.kind ≤ 14 := (EF hm).kind
  have HBY := hid (fun (W : World) (hW : Below w.heap.size w W) => Rk W m a1 c1 a2 c2 a3 c3 a4 c4 (A2.lift hd hW) hbk hln)
  unfold Jo at HBY;rw [hm] at HBY
  simp only [JG] at HBY
  have hml := Jp hm
  have hvl := (AX m.epoch.toNat).1
  have hsl := (AX m.seq.toNat).1
  have he0 := hd.epoch
  have hs0 := hd.seq
  have hpb : Dl m = [UInt8.ofNat m.kind.toNat] ++ Ay m.epoch.toNat ++ Ay m.seq.toNat ++ EL m := rfl
  rw [hpb]
  generalize EL m = K at *
  have hmo : (20 : Int) + (K.length : Int) = ((20 + K.length : Nat) : Int) := zC
  have HN := hid (fun W : World => (by have := Jk W (20 + K.length) zC; rw [← hmo] at this; exact this : Calls Tryz.prog 15 #[.int .i64 ((20 : Int) + (K.length : Int))] W fun r w' => r = .returned (.pointer (some ⟨W.heap.size, 0, none⟩)) ∧ BR w' W.heap.size W.heap.size (20 + K.length) [] none 0 ∧ Below W.heap.size W w'))
  have hKl : K.length ≤ 20000000000 := zC
  have hkz : 0 ≤ m.kind := zC
  have hky : m.kind ≤ 14 := hk.2
  have hkk : m.kind = ((UInt8.ofNat m.kind.toNat).toNat : Int) := by
   have := D6 (x := m.kind.toNat) zC
   rw [toNat_cast hkz] at this
   exact this
  have HLT := hid (fun W : World => (by have := K9 W (UInt8.ofNat m.kind.toNat); rw [← hkk] at this; exact this : Ah.r (· < (W.alloc (.cells #[.int .u8 m.kind] 5)).heap.size) (W.alloc (.cells #[.int .u8 m.kind] 5)) [.slice (some ⟨W.heap.size, 0, none⟩) 1 1] [UInt8.ofNat m.kind.toNat]))
  have HP1 := hid (fun (W : World) (g base : Nat) (h : BR W g base (20 + K.length) [] none 0) (ad : Option Addr) (hD : Ah.r (· < W.heap.size) W [.slice ad 1 1] [UInt8.ofNat m.kind.toNat]) => Fl W h [UInt8.ofNat m.kind.toNat] ad 1 1 hD zJ zO)
  have HP2 := hid (fun (W : World) (g base : Nat) (a : Option Addr) (c : Nat) (h : BR W g base (20 + K.length) [UInt8.ofNat m.kind.toNat] a c) => (by have := M9 W h m.epoch.toNat (by rw [toNat_cast he0.1]; exact hep) ZX zJ; rw [toNat_cast he0.1] at this; exact this : Calls Tryz.prog 111 #[.pointer (some ⟨g, 0, none⟩), .int .u64 m.epoch] W fun r w' => r = .returned (.tuple #[]) ∧ At W g base (20 + K.length) ([UInt8.ofNat m.kind.toNat] ++ Ay m.epoch.toNat) a w'))
  have HP3 := hid (fun (W : World) (g base : Nat) (a : Option Addr) (c : Nat) (h : BR W g base (20 + K.length) ([UInt8.ofNat m.kind.toNat] ++ Ay m.epoch.toNat) a c) => (by have := B6 W h m.seq.toNat (by have := hs0.2; omega) ZX zJ; rw [toNat_cast hs0.1] at this; exact this : Calls Tryz.prog 66 #[.pointer (some ⟨g, 0, none⟩), .int .u64 m.seq] W fun r w' => r = .returned (.tuple #[]) ∧ At W g base (20 + K.length) ([UInt8.ofNat m.kind.toNat] ++ Ay m.epoch.toNat ++ Ay m.seq.toNat) a w'))
  have HP4 := hid (fun (W : World) (g base : Nat) (a : Option Addr) (c : Nat) (h : BR W g base (20 + K.length) ([UInt8.ofNat m.kind.toNat] ++ Ay m.epoch.toNat ++ Ay m.seq.toNat) a c) (ad : Option Addr) (cd : Nat) (hD : Ah.r (· < W.heap.size) W [.slice ad K.length cd] K) => Fl W h K ad _ cd hD ZX zJ)
  generalize [UInt8.ofNat m.kind.toNat] = KB at *
  generalize Ay m.epoch.toNat = VE at *
  generalize Ay m.seq.toNat = VS at *
  clear hd hbk hln hR hm hep hk hml hvl hsl hpb hmo he0 hs0 hkk;go_enter Tryz.func28, Tryz.ntmps28
  go_wp2_with fail;generalize (w.alloc (.cells #[.int .i64 m.kind, .int .u64 m.epoch, .int .u64 m.seq, .int .u64 m.pos, .int .i64 m.count, .int .i64 m.state, .slice a1 m.streams.length c1, .slice a2 m.links.length c2, .slice a3 m.data.length c3, .int .u64 m.sea.epoch, .int .u64 m.sea.node, .int .u64 m.sea.tail, .int .u64 m.proj.epoch, .slice a4 m.proj.stripes.length c4] 32)) = w0 at *
  refine (HRT.out _ hb0).mono ?_
  rintro r w1 ⟨rfl, hb1⟩;have hbw1 := Af hb1 hb0
  have B1 := HBX.out.later hb1
  have y0 : w1.cell? ⟨w.heap.size, 0, none⟩ = some (.int .i64 m.kind) := B1.cell 0
  have y1 : w1.cell? ⟨w.heap.size, 1, none⟩ = some (.int .u64 m.epoch) := B1.cell 1
  have y2 : w1.cell? ⟨w.heap.size, 2, none⟩ = some (.int .u64 m.seq) := B1.cell 2
  have y3 : w1.cell? ⟨w.heap.size, 3, none⟩ = some (.int .u64 m.pos) := B1.cell 3
  have y4 : w1.cell? ⟨w.heap.size, 4, none⟩ = some (.int .i64 m.count) := B1.cell 4
  have y5 : w1.cell? ⟨w.heap.size, 5, none⟩ = some (.int .i64 m.state) := B1.cell 5
  have y6 : w1.cell? ⟨w.heap.size, 6, none⟩ = some (.slice a1 m.streams.length c1) := B1.cell 6
  have y7 : w1.cell? ⟨w.heap.size, 7, none⟩ = some (.slice a2 m.links.length c2) := B1.cell 7
  have y8 : w1.cell? ⟨w.heap.size, 8, none⟩ = some (.slice a3 m.data.length c3) := B1.cell 8
  have y9 : w1.cell? ⟨w.heap.size, 9, none⟩ = some (.int .u64 m.sea.epoch) := B1.cell 9
  have y10 : w1.cell? ⟨w.heap.size, 10, none⟩ = some (.int .u64 m.sea.node) := B1.cell 10
  have y11 : w1.cell? ⟨w.heap.size, 11, none⟩ = some (.int .u64 m.sea.tail) := B1.cell 11
  have y12 : w1.cell? ⟨w.heap.size, 12, none⟩ = some (.int .u64 m.proj.epoch) := B1.cell 12
  have y13 : w1.cell? ⟨w.heap.size, 13, none⟩ = some (.slice a4 m.proj.stripes.length c4) := B1.cell 13
  go_wp2_with fail;refine (HBY.out _ hbw1).mono ?_
  rintro r w2 ⟨v2, rfl, hr2, hb2⟩;obtain ⟨e2, k2, hv2, hr2', _⟩ := AN hr2
  simp only [Au, AO] at hv2
  subst hv2;have HR2 := hid hr2'
  have hbw2 := Af hb2 hbw1
  have B2 := B1.later hb2
  have hs1 := hbw1.size
  clear hr2 hr2' y0 y1 y2 y3 y4 y5 y6 y7 y8 y9 y10 y11 y12 y13 B1;go_wp2_with fail;refine (HN.out w2).mono ?_
  rintro r w3 ⟨rfl, hp3, hb3⟩;have B3 := B2.later hb3
  have y0 : w3.cell? ⟨w.heap.size, 0, none⟩ = some (.int .i64 m.kind) := B3.cell 0
  have hbw3 := Af hb3 hbw2
  have hlb := B2.lt
  have HB3 := hid B3
  have HP := hid hp3
  have HD3 := hid (Sf Ah HR2.out hb3)
  have hs2 := hbw2.size
  have hs3 := hb3.size
  have HAL := hid (AF (Below.refl w3.heap.size w3) (.cells #[.int .u8 m.kind] 5))
  have HQ1 := hid (HP1.out _ _ _ (HP.out.later HAL.out) _ (HLT.out w3))
  clear hp3 B2 B3;go_wp2_with fail;refine HQ1.out.mono ?_
  rintro r w4 ⟨rfl, hst4⟩;have hst4' := At.later HAL.out hst4
  rw [Bj] at hst4'
  obtain ⟨e4, k4, hp4, ht4, ha4⟩ := hst4'
  have B4 := HB3.out.tch ht4 (fun hf => by rcases FW.1 hf with e | e <;> first | omega | (simp at e))
  have y1 : w4.cell? ⟨w.heap.size, 1, none⟩ = some (.int .u64 m.epoch) := B4.cell 1
  have HD4 := hid (Ah.keep HD3.out fun q hq => ht4.block q zAf (fun hf => by have := hq.2; rcases FW.1 hf with e | e <;> first | omega | (simp at e)))
  have HN4 := hid (fun (q : Nat) (h1 : q < w2.heap.size) (hf : Dr w2.heap.size e4 q) => Ex ha4 (show q < w3.heap.size by omega) (fun hf => by rcases FW.1 hf with e | e <;> first | omega | (simp at e)) hf)
  have HB4 := hid B4
  have HQ2 := hid (HP2.out _ _ _ _ _ hp4)
  have hs4 := ht4.size
  have HT4 := hid (And.intro ht4 ha4)
  clear hst4 hp4 ht4 ha4 B4 y0;go_wp2_with fail;refine HQ2.out.mono ?_
  rintro r w5 ⟨rfl, e5, k5, hp5, ht5, ha5⟩;have B5 := HB4.out.tch ht5 (fun hf => HN4.out _ hlb hf)
  have y2 : w5.cell? ⟨w.heap.size, 2, none⟩ = some (.int .u64 m.seq) := B5.cell 2
  have HD5 := hid (Ah.keep HD4.out fun q hq => ht5.block q zAf (fun hf => HN4.out q hq.2 hf))
  have HN5 := hid (fun (q : Nat) (h1 : q < w2.heap.size) (hf : Dr w2.heap.size e5 q) => Ex ha5 (show q < w4.heap.size by omega) (fun hf => HN4.out q h1 hf) hf)
  have HQ3 := hid (HP3.out _ _ _ _ _ hp5)
  have hs5 := ht5.size
  have HT5 := hid (And.intro ht5 ha5)
  clear hp5 ht5 ha5 B5 y1;go_wp2_with fail;refine HQ3.out.mono ?_
  rintro r w6 ⟨rfl, e6, k6, hp6, ht6, ha6⟩;have HD6 := hid (Ah.keep HD5.out fun q hq => ht6.block q zAf (fun hf => HN5.out q hq.2 hf))
  have hs6 := ht6.size
  have HQ4 := hid (HP4.out _ _ _ _ _ hp6 e2 k2 (Ah.mono HD6.out fun q hq => zAf))
  have HT6 := hid (And.intro ht6 ha6)
  clear hp6 ht6 ha6 y2;go_wp2_with fail;refine HQ4.out.mono ?_
  rintro r w7 ⟨rfl, e7, k7, hp7, ht7, ha7⟩;have HF := hid (Sr w7 hp7)
  have HT7 := hid (And.intro ht7 ha7)
  clear hp7 ht7 ha7;go_wp2_with fail;refine HF.out.mono ?_
  rintro r w8 ⟨rfl, hst8⟩;have hst := At.trans (J := KB) HT4.out.1 HT4.out.2 (At.trans (J := KB) HT5.out.1 HT5.out.2 (At.trans (J := KB) HT6.out.1 HT6.out.2 (At.trans (J := KB) HT7.out.1 HT7.out.2 hst8)))
  have hbw8 : Below w.heap.size w w8 := hbw3.trans (HP.out.below zC hbw3.size hst)
  obtain ⟨e8, k8, hp8, _, _⟩ := hst
  have HBB := hid (Iw w8 hp8)
  have hs8 := hbw8.size
  clear hp8 hst8;go_wp2_with fail;refine HBB.out.mono ?_
  rintro r w9 ⟨v, rfl, hv, hb9⟩;have hbe := Af hb9 hbw8
  have HV := hid (Ah.mono (S' := fun q => w.heap.size ≤ q ∧ q < w9.heap.size) hv fun q hq => ⟨zY, hq.2⟩)
  clear hv;go_wp2_with fail;go_ret2
  exact ⟨_, rfl, HV.out, hbe⟩
theorem Rs.Kf {B P rest : List UInt8} {p : Nat} (h : B.drop p = CE P ++ rest) (hp : p ≤ B.length) (hP : P.length ≤ 2097152) : (⟨p, 0, 0⟩ : Rs).frame B 2097152 = (⟨p + (CE P).length, 0, 0⟩, P) := by
 unfold CE at h;rw [Av] at h
 have h1 := Rs.Mf (m := min 2097152 2097152) zC h hp zC
 have h2 := Bi h
 have hr := Bf h hp
 have h3 := Rs.H7 h2 zC
 rw [EG] at h3
 have h4 : (⟨p + (Cg P).length, 0, 0⟩ : Rs).take B 4 = (⟨p + (Cg P).length + 4, 0, 0⟩, Cf 4 (Ct P)) := h3
 have h5 : Ct P = FG (Cf 4 (Ct P)) := by
  rw [KP]
  have := Kk P
  omega
 unfold Rs.frame;rw [h1]
 dsimp only;rw [h4]
 dsimp only;rw [Am h5, Am rfl, Gr, Bw]
theorem SD {P rest : List UInt8} {blk : List UInt8 → Rs → Rs × List UInt8 × Bool} {fl : Rs → Bool → Bool} (hP : P.length ≤ 2097152) : I2 (CE P ++ rest) blk fl = (if (GH P (blk P) fl).2.2.1 = 0 then ((GH P (blk P) fl).1, (GH P (blk P) fl).2.1, (CE P).length, 0, 0) else (Bc, false, 0, (GH P (blk P) fl).2.2.1, wrap64 ((GH P (blk P) fl).2.2.2 + (((CE P).length : Int) - 4 - (P.length : Int))))) := by
 have h := Rs.Kf (B := CE P ++ rest) (P := P) (rest := rest) (p := 0) (by rw [List.drop_zero]) (Aj _) hP
 unfold I2;rw [h]
 unfold KZ;dsimp only;rw [Am rfl]
 dsimp only;rw [Am rfl, A3]
theorem Ko {P : List UInt8} {blk : List UInt8 → Rs → Rs × List UInt8 × Bool} {fl : Rs → Bool → Bool} {m : Msg} {q : Bool} {k f : Int} (hP : P.length ≤ 2097152) (h : GH P (blk P) fl = (m, q, k, f)) : Gf (CE P) blk fl = (if k = 0 then (m, q, 0, 0) else (Bc, false, k, wrap64 (f + (((CE P).length : Int) - 4 - (P.length : Int))))) := by
 have hg := SD (P := P) (rest := []) (blk := blk) (fl := fl) hP
 rw [Gy, h] at hg
 dsimp only at hg;unfold Gf;rw [hg]
 by_cases hk : k = 0
 ·rw [Am hk, Am hk]
  dsimp only;rw [Am rfl, An zC]
 ·rw [An hk, An hk]
  dsimp only;rw [An hk]
theorem Nj {D : List UInt8} (hD : D.length ≤ 1048576) (B : List UInt8) (q : Nat) (rest : List UInt8) (h1 : q ≤ B.length) (h2 : B.drop q = Bp D ++ rest) : SW B ⟨q, 0, 0⟩ = (⟨q + (Bp D).length, 0, 0⟩, D, true) :=
 Rs.OU h2 h1 hD zC
theorem SU {D : List UInt8} (hD : D.length ≤ 1048576) (B : List UInt8) (q : Nat) (rest : List UInt8) (h1 : q ≤ B.length) (h2 : B.drop q = Bp D ++ rest) : FJ B ⟨q, 0, 0⟩ = (⟨q + (Bp D).length, 0, 0⟩, D, true) := by
 have := Nj hD B q rest h1 h2
 unfold SW at this;unfold FJ;rw [this]
 rfl
theorem OO {m : Msg} {blk : List UInt8 → Rs → Rs × List UInt8 × Bool} {fl : Rs → Bool → Bool} (hN : PC m) (hr : Fv m = true) (hs : inU m.seq)
  (hblk : ∀ (B : List UInt8) (q : Nat) (rest : List UInt8), q ≤ B.length → B.drop q = Bp m.data ++ rest → blk B ⟨q, 0, 0⟩ = (⟨q + (Bp m.data).length, 0, 0⟩, m.data, true)) (hfl : ∀ p, fl ⟨p, 0, 0⟩ true = true) :
  GH (Dl m) (blk (Dl m)) fl = (m, true, 0, 0) := by
 simp only [Fv, Ao] at hr
 obtain ⟨hr, he⟩ := hr
 obtain ⟨hs0, hs1⟩ := hs
 have hkd : 1 ≤ m.kind ∧ m.kind ≤ 14 := by
  have := hr
  unfold FE at this;simp only [Ao, Ar] at this
  exact this.1
 have he2 : 1 ≤ m.epoch ∧ m.epoch < 4611686018427387904 := by simpa [epR] using he
 have hB : Dl m = UInt8.ofNat m.kind.toNat :: (Ay m.epoch.toNat ++ (Ay m.seq.toNat ++ (EL m ++ []))) := by
  unfold Dl;simp
 generalize Dl m = B at *
 have h1 := Rs.JD (B := B) (p := 0) (by rw [List.drop_zero]; exact hB) (Aj _)
 rw [A3] at h1
 have d1 : B.drop 1 = Ay m.epoch.toNat ++ (Ay m.seq.toNat ++ (EL m ++ [])) := by rw [hB]; rfl
 have hy : ((UInt8.ofNat m.kind.toNat).toNat : Int) = m.kind := by
  rw [F6]
  omega
 have h2 := Rs.NU he d1
 have d2 := Bi d1
 have h3 := Rs.Dm (x := m.seq.toNat) zC d2
 have d3 := Bi d2
 have hle1 : 1 ≤ B.length := by rw [hB]; simp
 have r1 := Bf d1 hle1
 have r2 := Bf d2 (by simp at r1; omega)
 have hp3 : 1 + (Ay m.epoch.toNat).length + (Ay m.seq.toNat).length ≤ B.length := zC
 have h4 := Rs.Mc (B := B) (rest := []) (m := ({ m with epoch := 0, seq := 0 } : Msg)) (blk := blk B) ⟨hN.pos, hN.streams, hN.links, hN.node, hN.tail, hN.proj⟩ hr rfl rfl (by exact d3) hp3 (fun q rest h1 h2 => hblk _ q rest h1 h2)
 have r3 := Bf d3 hp3
 have hml : (EL ({ m with epoch := 0, seq := 0 } : Msg)).length = (EL m).length := rfl
 have h5 : ((⟨1 + (Ay m.epoch.toNat).length + (Ay m.seq.toNat).length + (EL m).length, 0, 0⟩ : Rs).fin B.length) = ⟨1 + (Ay m.epoch.toNat).length + (Ay m.seq.toNat).length + (EL m).length, 0, 0⟩ := by
  unfold Rs.fin;rw [An]
  simp at r3
  dsimp only;omega
 have hkk : ((⟨1, 0, 0⟩ : Rs).kd m.kind) = ⟨1, 0, 0⟩ := Am hkd
 rw [hml] at h4
 dsimp only at h4;unfold GH;rw [h1]
 dsimp only;rw [hy, hkk, h2]
 dsimp only;rw [h3]
 dsimp only;rw [Am rfl, h4]
 dsimp only;rw [h5]
 dsimp only;rw [Am rfl, hfl, toNat_cast zC, toNat_cast hs0]
theorem TD {m : Msg} (hN : PC m) (hr : Fv m = true) (hs : inU m.seq) (hd : m.data.length ≤ 1048576) : GH (Dl m) (FJ (Dl m)) flS = (m, true, 0, 0) :=
 OO (blk := fun P => FJ P) hN hr hs (fun B q rest h1 h2 => SU hd B q rest h1 h2) (fun p => rfl)
theorem TF {m : Msg} (hN : PC m) (hr : Fv m = true) (hs : inU m.seq) (hd : m.data.length ≤ 1048576) : GH (Dl m) (SW (Dl m)) flL = (m, true, 0, 0) :=
 OO (blk := fun P => SW P) hN hr hs (fun B q rest h1 h2 => Nj hd B q rest h1 h2) (fun p => rfl)
theorem BS.V6 {w : World} {base : Nat} {v : Value} {L D : List UInt8} (hL : L.length = 1) (h : w.ownsRow base 5 1 v (1 + D.length) (byteCells L ++ byteCells D)) : BS w base v (L ++ D) := by
 unfold BS;rw [Ag, hL, ← Ej]
 exact h
def Gi (m : Msg) : List UInt8 × Int := if Fv m = true then (CE (Dl m), 0) else ([], 3)
theorem Ny {m : Msg} (h : Fv m = true) : (CE (Dl m)).length ≤ 49035 + m.data.length := by
 have h1 := LK h
 have h2 := (AX (Dl m).length).1
 rw [Gr, Em]
 omega
theorem MI (w : World) (m : Msg) (a1 : Option Addr) (c1 : Nat) (a2 : Option Addr) (c2 : Nat) (a3 : Option Addr) (c3 : Nat) (a4 : Option Addr) (c4 : Nat) (hd : A2 (· < w.heap.size) w m a1 c1 a2 c2 a3 c3 a4 c4) (hbk : ∀ x ∈ m.links, x.backs.length ≤ 1000000) (hln : m.data.length ≤ 2000000) :
  Calls Tryz.prog 27 #[.agg #[.int .i64 m.kind, .int .u64 m.epoch, .int .u64 m.seq, .int .u64 m.pos, .int .i64 m.count, .int .i64 m.state, .slice a1 m.streams.length c1, .slice a2 m.links.length c2, .slice a3 m.data.length c3, .int .u64 m.sea.epoch, .int .u64 m.sea.node, .int .u64 m.sea.tail, .int .u64 m.proj.epoch, .slice a4 m.proj.stripes.length c4]] w fun r w' => ∃ v, r = .returned (.tuple #[v, .int .i64 (Gi m).2]) ∧ Ah.r (fun q => w.heap.size ≤ q ∧ q < w'.heap.size) w' [v] (Gi m).1 ∧ Below w.heap.size w w' := by
 have HPY := hid (fun (W : World) (hW : Below w.heap.size w W) => Ky W m a1 c1 a2 c2 a3 c3 a4 c4 (A2.lift hd hW) hbk zC)
 have hb0 : Below w.heap.size w (w.alloc (.cells #[.int .i64 m.kind, .int .u64 m.epoch, .int .u64 m.seq, .int .u64 m.pos, .int .i64 m.count, .int .i64 m.state, .slice a1 m.streams.length c1, .slice a2 m.links.length c2, .slice a3 m.data.length c3, .int .u64 m.sea.epoch, .int .u64 m.sea.node, .int .u64 m.sea.tail, .int .u64 m.proj.epoch, .slice a4 m.proj.stripes.length c4] 32)) := zB
 unfold Gi;unfold Ii at HPY;cases hR : Fv m
 ·rw [hR] at HPY
  simp only [Bool.false_eq_true, if_false] at HPY
  rw [An zO]
  clear hd hbk hR;go_enter Tryz.func27, Tryz.ntmps27
  go_wp2_with fail;generalize (w.alloc (.cells #[.int .i64 m.kind, .int .u64 m.epoch, .int .u64 m.seq, .int .u64 m.pos, .int .i64 m.count, .int .i64 m.state, .slice a1 m.streams.length c1, .slice a2 m.links.length c2, .slice a3 m.data.length c3, .int .u64 m.sea.epoch, .int .u64 m.sea.node, .int .u64 m.sea.tail, .int .u64 m.proj.epoch, .slice a4 m.proj.stripes.length c4] 32)) = w0 at *
  refine (HPY.out _ hb0).mono ?_
  rintro r w1 ⟨v1, rfl, hr1, hb1⟩;obtain ⟨e1, k1, hv1, hr1', _⟩ := AN hr1
  simp only [Au, AO] at hv1
  subst hv1;have hbw1 := Af hb1 hb0
  clear hr1 hr1' hb1;go_wp2_with fail;go_ret2
  exact ⟨_, rfl, Hk rfl rfl zC, hbw1⟩
 ·rw [hR] at HPY
  simp only [JG] at HPY
  rw [Am rfl]
  have hpl := LK hR
  have HFB := hid (fun (W : World) (ad : Option Addr) (cd : Nat) (hD : Ah.r (· < W.heap.size) W [.slice ad (Dl m).length cd] (Dl m)) => O5 W (Dl m) ad _ cd hD zC)
  generalize Dl m = P at *
  clear hd hbk hR hpl;go_enter Tryz.func27, Tryz.ntmps27
  go_wp2_with fail;generalize (w.alloc (.cells #[.int .i64 m.kind, .int .u64 m.epoch, .int .u64 m.seq, .int .u64 m.pos, .int .i64 m.count, .int .i64 m.state, .slice a1 m.streams.length c1, .slice a2 m.links.length c2, .slice a3 m.data.length c3, .int .u64 m.sea.epoch, .int .u64 m.sea.node, .int .u64 m.sea.tail, .int .u64 m.proj.epoch, .slice a4 m.proj.stripes.length c4] 32)) = w0 at *
  refine (HPY.out _ hb0).mono ?_
  rintro r w1 ⟨v1, rfl, hr1, hb1⟩;obtain ⟨e1, k1, hv1, hr1', _⟩ := AN hr1
  simp only [Au, AO] at hv1
  subst hv1;have hbw1 := Af hb1 hb0
  have HFF := hid (HFB.out w1 e1 k1 (Ah.mono hr1' fun q hq => hq.2))
  have hs1 := hbw1.size
  clear hr1 hr1' hb1;go_wp2_with fail;refine HFF.out.mono ?_
  rintro r w2 ⟨x, rfl, ho, hb2⟩;have hbe := Af hb2 hbw1
  have HV := hid (Ah.mono (S' := fun q => w.heap.size ≤ q ∧ q < w2.heap.size) (B9 rfl ho) fun q hq => ⟨zY, hq.2⟩)
  clear ho;go_wp2_with fail;go_ret2
  exact ⟨_, rfl, HV.out, hbe⟩
theorem Mn (w : World) (m : Msg) (a1 : Option Addr) (c1 : Nat) (a2 : Option Addr) (c2 : Nat) (a3 : Option Addr) (c3 : Nat) (a4 : Option Addr) (c4 : Nat) (hd : A2 (· < w.heap.size) w m a1 c1 a2 c2 a3 c3 a4 c4) (hbk : ∀ x ∈ m.links, x.backs.length ≤ 1000000) (hR : Fv m = true) :
  Calls Tryz.prog 32 #[.agg #[.int .i64 m.kind, .int .u64 m.epoch, .int .u64 m.seq, .int .u64 m.pos, .int .i64 m.count, .int .i64 m.state, .slice a1 m.streams.length c1, .slice a2 m.links.length c2, .slice a3 m.data.length c3, .int .u64 m.sea.epoch, .int .u64 m.sea.node, .int .u64 m.sea.tail, .int .u64 m.proj.epoch, .slice a4 m.proj.stripes.length c4]] w fun r w' => ∃ v, r = .returned v ∧ BS w' w.heap.size v (Dl m) ∧ Below w.heap.size w w' := by
 obtain ⟨i0, hi, hz0, hz1, hz2⟩ := A8 Dz
 have hR' := hR
 simp only [Fv, Ao] at hR'
 obtain ⟨hm, hep⟩ := hR'
 have hk : 1 ≤ m.kind ∧ m.kind ≤ 14 := (EF hm).kind
 have hdl := (EF hm).data
 have hml := Jp hm
 have hvl := (AX m.epoch.toNat).1
 have hsl := (AX m.seq.toNat).1
 have HE := hid (Ff m.epoch hd.epoch)
 have HS := hid (Ff m.seq hd.seq)
 have HB := hid (fun (W : World) (hW : Below w.heap.size w W) => Oo W m a1 c1 a2 c2 a3 c3 a4 c4 (A2.lift hd hW) hbk hm)
 have hpb : Dl m = [UInt8.ofNat m.kind.toNat] ++ Ay m.epoch.toNat ++ Ay m.seq.toNat ++ EL m := rfl
 rw [hpb]
 have HOE := hid (AI (Ay m.epoch.toNat))
 have HOS := hid (AI (Ay m.seq.toNat))
 have HOK := hid (AI (EL m))
 have hkz : 0 ≤ m.kind := zC
 have hky : m.kind ≤ 14 := hk.2
 have hkk : m.kind = ((UInt8.ofNat m.kind.toNat).toNat : Int) := by
  have := D6 (x := m.kind.toNat) zC
  rw [toNat_cast hkz] at this
  exact this
 have hcell : byteCells [UInt8.ofNat m.kind.toNat] = [.int .u8 m.kind] := by simp only [byteCells, D7, List.map_nil]; rw [← hkk]
 have hkl : [UInt8.ofNat m.kind.toNat].length = 1 := rfl
 generalize [UInt8.ofNat m.kind.toNat] = KB at *
 generalize Ay m.epoch.toNat = VE at *
 generalize Ay m.seq.toNat = VS at *
 generalize EL m = K at *
 have HOWN := hid (fun (W : World) (b g : Nat) (hb : b ≤ g) (hB : Blk W g 5 #[.int .u8 m.kind]) => (by rw [hcell]; exact FC hb hB : W.ownsRow b 5 1 (.slice (some ⟨g, 0, none⟩) 1 1) 1 (byteCells KB)))
 have HWL : Hid (IntKind.u8.wrap m.kind = m.kind) := hid (by rw [IntKind.wrap_u8]; omega)
 have HBX : Hid (Blk (w.alloc (.cells #[.int .i64 m.kind, .int .u64 m.epoch, .int .u64 m.seq, .int .u64 m.pos, .int .i64 m.count, .int .i64 m.state, .slice a1 m.streams.length c1, .slice a2 m.links.length c2, .slice a3 m.data.length c3, .int .u64 m.sea.epoch, .int .u64 m.sea.node, .int .u64 m.sea.tail, .int .u64 m.proj.epoch, .slice a4 m.proj.stripes.length c4] 32)) w.heap.size 32 #[.int .i64 m.kind, .int .u64 m.epoch, .int .u64 m.seq, .int .u64 m.pos, .int .i64 m.count, .int .i64 m.state, .slice a1 m.streams.length c1, .slice a2 m.links.length c2, .slice a3 m.data.length c3, .int .u64 m.sea.epoch, .int .u64 m.sea.node, .int .u64 m.sea.tail, .int .u64 m.proj.epoch, .slice a4 m.proj.stripes.length c4]) := hid (Blk.new w _ _)
 have hb0 : Below w.heap.size w (w.alloc (.cells #[.int .i64 m.kind, .int .u64 m.epoch, .int .u64 m.seq, .int .u64 m.pos, .int .i64 m.count, .int .i64 m.state, .slice a1 m.streams.length c1, .slice a2 m.links.length c2, .slice a3 m.data.length c3, .int .u64 m.sea.epoch, .int .u64 m.sea.node, .int .u64 m.sea.tail, .int .u64 m.proj.epoch, .slice a4 m.proj.stripes.length c4] 32)) := zB
 have hs0 : w.heap.size < (w.alloc (.cells #[.int .i64 m.kind, .int .u64 m.epoch, .int .u64 m.seq, .int .u64 m.pos, .int .i64 m.count, .int .i64 m.state, .slice a1 m.streams.length c1, .slice a2 m.links.length c2, .slice a3 m.data.length c3, .int .u64 m.sea.epoch, .int .u64 m.sea.node, .int .u64 m.sea.tail, .int .u64 m.proj.epoch, .slice a4 m.proj.stripes.length c4] 32)).heap.size := zO
 have HKL := hid hkl
 clear hd hbk hR hm hep hk hpb hcell hkk;go_enter Tryz.func32, Tryz.ntmps32
 go_upto_region 1 with (fail)
 generalize (w.alloc (.cells #[.int .i64 m.kind, .int .u64 m.epoch, .int .u64 m.seq, .int .u64 m.pos, .int .i64 m.count, .int .i64 m.state, .slice a1 m.streams.length c1, .slice a2 m.links.length c2, .slice a3 m.data.length c3, .int .u64 m.sea.epoch, .int .u64 m.sea.node, .int .u64 m.sea.tail, .int .u64 m.proj.epoch, .slice a4 m.proj.stripes.length c4] 32)) = w0 at *
 have x0 : w0.cell? ⟨w.heap.size, 0, none⟩ = some (.int .i64 m.kind) := HBX.out.cell 0
 have x1 : w0.cell? ⟨w.heap.size, 1, none⟩ = some (.int .u64 m.epoch) := HBX.out.cell 1
 have HB0 := hid hb0
 clear hb0;go_cut [3] from 4 to 11 (fun v V => ∃ a3 c3, v = .slice a3 (1 + VE.length) c3 ∧ BS V w0.heap.size v (KB ++ VE) ∧ Below w0.heap.size w0 V)
 case first =>
  refine Cd (S := fun w' => w'.cell? ⟨w.heap.size, 0, none⟩ = some (.int .i64 m.kind) ∧ w'.cell? ⟨w.heap.size, 1, none⟩ = some (.int .u64 m.epoch)) zG ⟨x0, x1⟩ (fun hHeld => ?_)
  refine Ap (i := 0) (oi := _) (v := ?_) rfl zE zE zE (fun _ _ _ h => h) (Or.inl ⟨zT, ?_⟩) zM ?_
  rotate_left
  ·(intro w hSw; (try dsimp only at hSw); go_simp <;> with_reducible rfl)
  (try simp only [Act.put, Aa, Ab, Ac])
  refine Ap (i := 1) (oi := _) (v := ?_) rfl zE zE zE (fun _ _ _ h => h) (Or.inl ⟨zT, ?_⟩) zM ?_
  rotate_left
  ·(intro w hSw; (try dsimp only at hSw); go_simp <;> with_reducible rfl)
  (try simp only [Act.put, Aa, Ab, Ac])
  refine Ap (i := 2) (oi := _) (v := ?_) rfl zE zE zE (fun _ _ _ h => h) (Or.inl ⟨zT, ?_⟩) zM ?_
  rotate_left
  ·(intro w hSw; (try dsimp only at hSw); go_simp <;> with_reducible rfl)
  (try simp only [Act.put, Aa, Ab, Ac])
  rw [HWL.out]
  refine Ap (i := 4) (oi := _) (v := ?_) rfl zE zE zE (fun _ _ _ h => h) (Or.inl ⟨zT, ?_⟩) zM ?_
  rotate_left
  ·(intro w hSw; (try dsimp only at hSw); go_simp <;> with_reducible rfl)
  (try simp only [Act.put, Aa, Ab, Ac])
  refine Ap (i := 5) (oi := _) (v := ?_) rfl zE zE zE (fun _ _ _ h => h) (Or.inl ⟨zT, ?_⟩) zM ?_
  rotate_left
  ·(intro w hSw; (try dsimp only at hSw); go_simp <;> with_reducible rfl)
  (try simp only [Act.put, Aa, Ab, Ac])
  refine AP (rs := [3, 6]) zE zO ?_
  refine AG (o := _) rfl (fun K hK => ?_) (AG (o := _) rfl (fun K hK => ?_) AllReadyH.nil)
  ·go_simp
   refine hK.out _ _ ?_ (fun hHeld => ?_)
   ·((try dsimp only); first | exact ⟨zM, zM⟩ | (refine ⟨?_, ?_⟩ <;> (first | assumption | (go_keep; done))))
   clear hK K
   (try simp only [Act.put, Aa, Ab, Ac])
   refine AP (rs := [6]) zE zO ?_
   refine AG (o := _) rfl (fun K hK => ?_) AllReadyH.nil
   (go_simp; go_at_call 104; refine (HE.out _).mono ?_; rintro e1 w1 ⟨v1, rfl, hv1, hb1⟩; obtain ⟨a1x, c1x, rfl⟩ := AA hv1; have hb01 : Below w0.heap.size w0 w1 := Af hb1 zA; have HS1 := hid (A5 (BJ rfl hv1)); have HBX2 := (Blk.newAt (w0.drew) 5 #[.int .u8 m.kind] (g := w0.heap.size) rfl).later hb1; have HO1 := hid (HOWN.out _ w0.heap.size _ (Ak _) HBX2); have X0 := (hb01.cell (p := ⟨w.heap.size, 0, none⟩) hs0).trans x0; have X1 := (hb01.cell (p := ⟨w.heap.size, 1, none⟩) hs0).trans x1; have hz1s := hb01.size; clear hv1 hb1 HBX2)
   refine hK.out _ _ ?_ (fun hHeld => ?_)
   ·((try dsimp only); first | exact ⟨zM, zM⟩ | (refine ⟨?_, ?_⟩ <;> (first | assumption | (go_keep; done))))
   clear hK K
   (try simp only [Act.put, Aa, Ab, Ac])
   refine AP (rs := [7]) zE zO ?_
   refine AG (o := _) rfl (fun K hK => ?_) AllReadyH.nil
   (refine BI zT _ _ _ zT w0.heap.size 5 i0 (.int .u8 0) 1 1 As hi hz0 hz1 hz2 rfl zP (.slice (some ⟨w0.heap.size, 0, none⟩) 1 1) 1 (byteCells KB) zT (HO1.out) (a1x) (VE.length) (c1x) (byteCells VE) zT (HS1.out) HOE.out zK zC zC ?_; intro a3 c3 w3 hown3 hgrow3 hat3; have HO3 := hid (BS.V6 HKL.out hown3); have hbg3 : Below w0.heap.size w1 w3 := (Below.grown (Below.refl _ _) hgrow3 zC (fun g e => (C6 (HO1.out) g e).1)); clear hown3 hgrow3 hat3; have hb3 : Below w0.heap.size w0 w3 := hb01.trans hbg3; have Y0 := (hb3.cell (p := ⟨w.heap.size, 0, none⟩) hs0).trans x0; have Y1 := (hb3.cell (p := ⟨w.heap.size, 1, none⟩) hs0).trans x1)
   refine hK.out _ _ ?_ (fun hHeld => ?_)
   ·((try dsimp only); first | exact ⟨zM, zM⟩ | (refine ⟨?_, ?_⟩ <;> (first | assumption | (go_keep; done))))
   clear hK K
   (try simp only [Act.put, Aa, Ab, Ac])
   refine Ap (i := 8) (oi := _) (v := ?_) rfl zE zE zE (fun _ _ _ h => h) (Or.inl ⟨zT, ?_⟩) zM ?_
   rotate_left
   ·(intro w hSw; (try dsimp only at hSw); go_simp <;> with_reducible rfl)
   (try simp only [Act.put, Aa, Ab, Ac])
   (try simp only [AJ, AB, Az, Act.put, Aa, Ab, Ac])
   refine CG zG ?_ _
   go_wp2_with fail;go_meet
   case rel => exact ⟨a3, c3, rfl, zBe, hb3⟩
  ·go_simp
   go_at_call 104
   refine (HE.out _).mono ?_
   rintro e1 w1 ⟨v1, rfl, hv1, hb1⟩;obtain ⟨a1x, c1x, rfl⟩ := AA hv1
   have hb01 : Below w0.heap.size w0 w1 := Af hb1 (Below.refl _ _).drew
   have HS1r := hid (BJ rfl hv1)
   have X0 := (hb01.cell (p := ⟨w.heap.size, 0, none⟩) hs0).trans x0
   have X1 := (hb01.cell (p := ⟨w.heap.size, 1, none⟩) hs0).trans x1
   have hz1s := hb01.size
   clear hv1 hb1;refine hK.out _ _ ?_ (fun hHeld => ?_)
   ·((try dsimp only); first | exact ⟨zM, zM⟩ | (refine ⟨?_, ?_⟩ <;> (first | assumption | (go_keep; done))))
   clear hK K
   (try simp only [Act.put, Aa, Ab, Ac])
   refine AP (rs := [3]) zE zO ?_
   refine AG (o := _) rfl (fun K hK => ?_) AllReadyH.nil
   go_simp
   refine hK.out _ _ ?_ (fun hHeld => ?_)
   ·((try dsimp only); first | exact ⟨zM, zM⟩ | (refine ⟨?_, ?_⟩ <;> (first | assumption | (go_keep; done))))
   clear hK K
   (try simp only [Act.put, Aa, Ab, Ac])
   have HO1 := hid (HOWN.out _ w0.heap.size _ hz1s (Blk.new w1 5 #[.int .u8 m.kind]))
   have HS1 := hid (A5 (lift HS1r.out (AF (Below.refl w1.heap.size w1) (.cells #[.int .u8 m.kind] 5))))
   refine AP (rs := [7]) zE zO ?_
   refine AG (o := _) rfl (fun K hK => ?_) AllReadyH.nil
   (refine BI zT _ _ _ zT w0.heap.size 5 i0 (.int .u8 0) 1 1 As hi hz0 hz1 hz2 rfl zP (.slice (some ⟨w1.heap.size, 0, none⟩) 1 1) 1 (byteCells KB) zT (HO1.out) (a1x) (VE.length) (c1x) (byteCells VE) zT (HS1.out) HOE.out zK zC zJ ?_; intro a3 c3 w3 hown3 hgrow3 hat3; have HO3 := hid (BS.V6 HKL.out hown3); have hbg3 : Below w0.heap.size (w1.alloc (.cells #[.int .u8 m.kind] 5)) w3 := (Below.grown (Below.refl _ _) hgrow3 zJ (fun g e => (C6 (HO1.out) g e).1)); clear hown3 hgrow3 hat3; have hb3 : Below w0.heap.size w0 w3 := hb01.trans (((Below.refl _ _).alloc hz1s _).trans hbg3); have Y0 := (hb3.cell (p := ⟨w.heap.size, 0, none⟩) hs0).trans x0; have Y1 := (hb3.cell (p := ⟨w.heap.size, 1, none⟩) hs0).trans x1)
   refine hK.out _ _ ?_ (fun hHeld => ?_)
   ·((try dsimp only); first | exact ⟨zM, zM⟩ | (refine ⟨?_, ?_⟩ <;> (first | assumption | (go_keep; done))))
   clear hK K
   (try simp only [Act.put, Aa, Ab, Ac])
   refine Ap (i := 8) (oi := _) (v := ?_) rfl zE zE zE (fun _ _ _ h => h) (Or.inl ⟨zT, ?_⟩) zM ?_
   rotate_left
   ·(intro w hSw; (try dsimp only at hSw); go_simp <;> with_reducible rfl)
   (try simp only [Act.put, Aa, Ab, Ac])
   (try simp only [AJ, AB, Az, Act.put, Aa, Ab, Ac])
   refine CG zG ?_ _
   go_wp2_with fail;go_meet
   case rel => exact ⟨a3, c3, rfl, zBe, hb3⟩
 case rest =>
  obtain ⟨aQ, cQ, rfl, hown3, hb3⟩ := hcut
  have hl3 : (KB ++ VE).length = 1 + VE.length := by rw [Ag, HKL.out]
  rw [← hl3] at hown3 ⊢
  have hj3 : (KB ++ VE).length ≤ 11 := by rw [hl3]; omega
  generalize hJ3 : KB ++ VE = J3 at *
  have HJ3 := hid hJ3
  have HO3 := hid hown3
  have HX3 := HBX.out.below hb3 hs0
  have z2 : wc.cell? ⟨w.heap.size, 2, none⟩ = some (.int .u64 m.seq) := HX3.cell 2
  have HB3 := hid hb3
  have hz3 := hb3.size
  clear hown3 hJ3 hl3;go_wp2_with fail;refine (HS.out _).mono ?_
  rintro r w4 ⟨v4, rfl, hv4, hb4⟩;obtain ⟨a4x, c4x, rfl⟩ := AA hv4
  have HS4 := hid (A5 (BJ rfl hv4))
  have HQ4 := hid (AD HO3.out hb4)
  have hz4 := hb4.size
  have hb04 : Below w0.heap.size w0 w4 := HB3.out.trans (hb4.mono hz3)
  clear hv4 z2;go_wp2_with (at_builtin; go_loud (refine Aq rfl _ _ _ rfl w0.heap.size 5 i0 (.int .u8 0) 1 1 As hi hz0 hz1 hz2 rfl zP (.slice aQ J3.length cQ) J3.length (byteCells J3) rfl (HQ4.out) (a4x) (VS.length) (c4x) (byteCells VS) rfl (HS4.out) HOS.out zK zC zC ?_; intro v' w5x hown5x hgrow5x hat5x; obtain ⟨a5x, c5x, rfl⟩ := AA hown5x; have HO5x := hid (BS.app hown5x); have hbg5x : Below w0.heap.size w4 w5x := (Below.grown (Below.refl _ _) hgrow5x zC (fun g e => (C6 (HQ4.out) g e).1)); clear hown5x hgrow5x hat5x; have hb5 : Below w0.heap.size w0 w5x := hb04.trans hbg5x; have HX5 := hid (HBX.out.below hb5 hs0); have y0 : w5x.cell? ⟨w.heap.size, 0, none⟩ = some (.int .i64 m.kind) := HX5.out.cell 0; have y1 : w5x.cell? ⟨w.heap.size, 1, none⟩ = some (.int .u64 m.epoch) := HX5.out.cell 1; have y2 : w5x.cell? ⟨w.heap.size, 2, none⟩ = some (.int .u64 m.seq) := HX5.out.cell 2; have y3 : w5x.cell? ⟨w.heap.size, 3, none⟩ = some (.int .u64 m.pos) := HX5.out.cell 3; have y4 : w5x.cell? ⟨w.heap.size, 4, none⟩ = some (.int .i64 m.count) := HX5.out.cell 4; have y5 : w5x.cell? ⟨w.heap.size, 5, none⟩ = some (.int .i64 m.state) := HX5.out.cell 5; have y6 : w5x.cell? ⟨w.heap.size, 6, none⟩ = some (.slice a1 m.streams.length c1) := HX5.out.cell 6; have y7 : w5x.cell? ⟨w.heap.size, 7, none⟩ = some (.slice a2 m.links.length c2) := HX5.out.cell 7; have y8 : w5x.cell? ⟨w.heap.size, 8, none⟩ = some (.slice a3 m.data.length c3) := HX5.out.cell 8; have y9 : w5x.cell? ⟨w.heap.size, 9, none⟩ = some (.int .u64 m.sea.epoch) := HX5.out.cell 9; have y10 : w5x.cell? ⟨w.heap.size, 10, none⟩ = some (.int .u64 m.sea.node) := HX5.out.cell 10; have y11 : w5x.cell? ⟨w.heap.size, 11, none⟩ = some (.int .u64 m.sea.tail) := HX5.out.cell 11; have y12 : w5x.cell? ⟨w.heap.size, 12, none⟩ = some (.int .u64 m.proj.epoch) := HX5.out.cell 12; have y13 : w5x.cell? ⟨w.heap.size, 13, none⟩ = some (.slice a4 m.proj.stripes.length c4) := HX5.out.cell 13))
  have hl5 : (J3 ++ VS).length = J3.length + VS.length := Ag
  have hj5 : (J3 ++ VS).length ≤ 21 := by rw [hl5]; omega
  generalize hJ5 : J3 ++ VS = J5 at *
  have HJ5 := hid hJ5
  have HP5 := hid HO5x.out
  rw [← hl5] at HP5 ⊢
  have hz5 := hb5.size
  have HBB := hid (HB.out w5x (HB0.out.trans (hb5.mono HB0.out.size)))
  have HB5 := hid hb5
  clear hJ5 hl5 hb5 hbg5x;refine HBB.out.mono ?_
  rintro r w6 ⟨v6, rfl, hv6, hb6⟩;obtain ⟨a6x, c6x, rfl⟩ := AA hv6
  have HS6 := hid (A5 (BJ rfl hv6))
  have HQ6 := hid (AD HP5.out hb6)
  have hz6 := hb6.size
  clear hv6 y0 y1 y2 y3 y4 y5 y6 y7 y8 y9 y10 y11 y12 y13;go_wp2_with (at_builtin; go_loud (refine Aq rfl _ _ _ rfl w0.heap.size 5 i0 (.int .u8 0) 1 1 As hi hz0 hz1 hz2 rfl zP (.slice a5x J5.length c5x) J5.length (byteCells J5) rfl (HQ6.out) (a6x) (K.length) (c6x) (byteCells K) rfl (HS6.out) HOK.out zK zC zC ?_; intro v' w7x hown7x hgrow7x hat7x; obtain ⟨a7x, c7x, rfl⟩ := AA hown7x; have HO7x := hid (BS.app hown7x); have hbg7x : Below w0.heap.size w6 w7x := (Below.grown (Below.refl _ _) hgrow7x zC (fun g e => (C6 (HQ6.out) g e).1)); clear hown7x hgrow7x hat7x))
  have hbe : Below w.heap.size w w7x := HB0.out.trans ((HB5.out.trans ((hb6.mono hz5).trans hbg7x)).mono HB0.out.size)
  have HOL := hid (Gn HO7x.out (Nat.le_of_lt hs0))
  go_ret;have hfin := HOL.out
  rw [← HJ5.out, ← HJ3.out] at hfin
  refine ⟨_, rfl, ?_, hbe⟩
  rw [← HJ5.out, ← HJ3.out]
  exact hfin
theorem JW {m : Msg} (h : Fv m = true) : (Dl m).length ≤ 2097152 := by
 have h1 := Ny h
 have h2 : m.data.length ≤ 1048576 := (OR (by simp only [Fv, Ao] at h; exact h.1)).2
 rw [Gr, Em] at h1
 omega
theorem Ue {m : Msg} (hN : PC m) (hr : Fv m = true) (hs : inU m.seq) : Pf (CE (Dl m)) = (m, true, 0, 0) ∧ Vj (CE (Dl m)) = (m, true, 0, 0) := by
 have hd : m.data.length ≤ 1048576 := (OR (by simp only [Fv, Ao] at hr; exact hr.1)).2
 unfold Pf Vj;rw [Ko (blk := fun P => FJ P) (JW hr) (TD hN hr hs hd), Ko (blk := fun P => SW P) (JW hr) (TF hN hr hs hd)]
 exact ⟨rfl, rfl⟩
def GI : Msg := ⟨7, 3, 5, 0, 0, 0, [], [], [], ⟨0, 0, 0⟩, ⟨0, []⟩⟩
theorem OX : Ii GI = ([7, 3, 5], 0) := zE
theorem Mq : ∃ l : List UInt8, Gi GI = (3 :: l, 0) ∧ l.length = 7 := ⟨(Gi GI).1.tail, zE, zE⟩
theorem Po {w : World} {x : UInt8} {l : List UInt8} {a : Option Addr} {n c : Nat} (h : Ah.r (· < w.heap.size) w [.slice a n c] (x :: l)) : ∃ b o, a = some ⟨b, o, none⟩ ∧ b < w.heap.size ∧ w.cell? ⟨b, o, none⟩ = some (.int .u8 (x.toNat : Int)) := by
 obtain ⟨b, off, e, hS, cs, _, hc, hA⟩ := Ls h (i := 0) zO
 have hcs : cs = [.int .u8 (x.toNat : Int)] := hA
 subst hcs;have := hc 0 _ rfl
 exact ⟨b, off, e, hS, by simpa using this⟩
set_option maxHeartbeats 12800000 in
theorem NK (w : World) : Calls Tryz.prog 26 #[] w fun r w' => r = .returned (.bool true) ∧ Below w.heap.size w w' := by
 have hin : ∀ W : World, A2 (· < W.heap.size) W GI none 0 none 0 none 0 none 0 := fun W => Qu ⟨zP, zP⟩ ⟨zP, zP⟩ ⟨zP, zP⟩ ⟨zP, zP⟩ ⟨zP, zP⟩ ⟨zP, zP⟩ rfl rfl rfl ⟨⟨zP, zP⟩, ⟨zP, zP⟩, ⟨zP, zP⟩⟩ ⟨zP, zP⟩ rfl
 obtain ⟨FL, hFL, hll⟩ := Mq
 have HA := hid (fun W : World => (by
  have := MI W GI none 0 none 0 none 0 none 0 (hin W) (fun x hx => by simp [GI] at hx) zP
  rw [hFL] at this
  exact this : Calls Tryz.prog 27 #[.agg #[.int .i64 7, .int .u64 3, .int .u64 5, .int .u64 0, .int .i64 0, .int .i64 0, .slice none 0 0, .slice none 0 0, .slice none 0 0, .int .u64 0, .int .u64 0, .int .u64 0, .int .u64 0, .slice none 0 0]] W fun r w' => ∃ v, r = .returned (.tuple #[v, .int .i64 0]) ∧ Ah.r (fun q => W.heap.size ≤ q ∧ q < w'.heap.size) w' [v] (3 :: FL) ∧ Below W.heap.size W w'))
 have HP := hid (fun W : World => (by
  have := Ky W GI none 0 none 0 none 0 none 0 (hin W) (fun x hx => by simp [GI] at hx) zP
  rw [OX] at this
  exact this : Calls Tryz.prog 28 #[.agg #[.int .i64 7, .int .u64 3, .int .u64 5, .int .u64 0, .int .i64 0, .int .i64 0, .slice none 0 0, .slice none 0 0, .slice none 0 0, .int .u64 0, .int .u64 0, .int .u64 0, .int .u64 0, .slice none 0 0]] W fun r w' => ∃ v, r = .returned (.tuple #[v, .int .i64 0]) ∧ Ah.r (fun q => W.heap.size ≤ q ∧ q < w'.heap.size) w' [v] [7, 3, 5] ∧ Below W.heap.size W w'))
 have hlen : (3 :: FL).length = 8 := by simp [hll]
 have HLEN := hid hlen
 have HBX : Hid (Blk (w.alloc (.cells #[.int .i64 7, .int .u64 3, .int .u64 5, .int .u64 0, .int .i64 0, .int .i64 0, .slice none 0 0, .slice none 0 0, .slice none 0 0, .int .u64 0, .int .u64 0, .int .u64 0, .int .u64 0, .slice none 0 0] 32)) w.heap.size 32 #[.int .i64 7, .int .u64 3, .int .u64 5, .int .u64 0, .int .i64 0, .int .i64 0, .slice none 0 0, .slice none 0 0, .slice none 0 0, .int .u64 0, .int .u64 0, .int .u64 0, .int .u64 0, .slice none 0 0]) := hid (Blk.new w _ _)
 have hb0 : Below w.heap.size w (w.alloc (.cells #[.int .i64 7, .int .u64 3, .int .u64 5, .int .u64 0, .int .i64 0, .int .i64 0, .slice none 0 0, .slice none 0 0, .slice none 0 0, .int .u64 0, .int .u64 0, .int .u64 0, .int .u64 0, .slice none 0 0] 32)) := zB
 clear hin hFL hll hlen;go_enter Tryz.func26, Tryz.ntmps26
 go_wp2_with fail;generalize w.alloc (.cells #[.int .i64 7, .int .u64 3, .int .u64 5, .int .u64 0, .int .i64 0, .int .i64 0, .slice none 0 0, .slice none 0 0, .slice none 0 0, .int .u64 0, .int .u64 0, .int .u64 0, .int .u64 0, .slice none 0 0] 32) = w0 at *
 refine (HA.out _).mono ?_
 rintro r w1 ⟨v1, rfl, hr1, hb1⟩;obtain ⟨e1, d1, hv1, hs1, _⟩ := AN hr1
 simp only [Au, AO] at hv1
 subst hv1;have HS1 := hid (Ah.mono hs1 (S' := (· < w1.heap.size)) fun q hq => hq.2)
 have hbw1 := Af hb1 hb0
 have B1 := HBX.out.later hb1
 have y0 : w1.cell? ⟨w.heap.size, 0, none⟩ = some (.int .i64 7) := B1.cell 0
 have y1 : w1.cell? ⟨w.heap.size, 1, none⟩ = some (.int .u64 3) := B1.cell 1
 have y2 : w1.cell? ⟨w.heap.size, 2, none⟩ = some (.int .u64 5) := B1.cell 2
 have y3 : w1.cell? ⟨w.heap.size, 3, none⟩ = some (.int .u64 0) := B1.cell 3
 have y4 : w1.cell? ⟨w.heap.size, 4, none⟩ = some (.int .i64 0) := B1.cell 4
 have y5 : w1.cell? ⟨w.heap.size, 5, none⟩ = some (.int .i64 0) := B1.cell 5
 have y6 : w1.cell? ⟨w.heap.size, 6, none⟩ = some (.slice none 0 0) := B1.cell 6
 have y7 : w1.cell? ⟨w.heap.size, 7, none⟩ = some (.slice none 0 0) := B1.cell 7
 have y8 : w1.cell? ⟨w.heap.size, 8, none⟩ = some (.slice none 0 0) := B1.cell 8
 have y9 : w1.cell? ⟨w.heap.size, 9, none⟩ = some (.int .u64 0) := B1.cell 9
 have y10 : w1.cell? ⟨w.heap.size, 10, none⟩ = some (.int .u64 0) := B1.cell 10
 have y11 : w1.cell? ⟨w.heap.size, 11, none⟩ = some (.int .u64 0) := B1.cell 11
 have y12 : w1.cell? ⟨w.heap.size, 12, none⟩ = some (.int .u64 0) := B1.cell 12
 have y13 : w1.cell? ⟨w.heap.size, 13, none⟩ = some (.slice none 0 0) := B1.cell 13
 rw [HLEN.out] at *
 clear hr1 hs1;go_wp2_with fail;refine (HP.out _).mono ?_
 rintro r w2 ⟨v2, rfl, hr2, hb2⟩;obtain ⟨e2, d2, hv2, hs2, _⟩ := AN hr2
 simp only [Au, AO] at hv2
 subst hv2;have HS2 := hid (Ah.mono hs2 (S' := (· < w2.heap.size)) fun q hq => hq.2)
 have hs1b := lift HS1.out hb2
 obtain ⟨b, o, hA, hbb, hx⟩ := Po hs1b
 subst hA;have hbw2 := Af hb2 hbw1
 clear hr2 hs2 hb2 hbw1 y0 y1 y2 y3 y4 y5 y6 y7 y8 y9 y10 y11 y12 y13 hb1 B1;go_wp2_with fail;have hsb := G7 [7, 3, 5] [7, 3, 5] e2 (some ⟨w2.heap.size, 0, none⟩) _ d2 3 3 (w2.alloc (.cells #[.int .u8 7, .int .u8 3, .int .u8 5] 5)) (lift HS2.out (by clear hbw2; (repeat (first | exact Below.refl _ _ | assumption | (refine AF ?_ _) | (refine Below.setCell ?_ (by first | omega | (simp; done) | (simp; omega)) _) | (refine Below.drew ?_) | (refine below_drewN ?_ _) | (refine Af (by assumption) ?_))))) (Sx (l := [7, 3, 5]) (cs := #[.int .u8 7, .int .u8 3, .int .u8 5]) rfl zP (D9 w2 _))
 simp only [decide_true] at hsb
 refine hsb.mono ?_
 rintro r w4 ⟨rfl, rfl⟩;have hbw4 : Below w.heap.size w (w2.alloc (.cells #[.int .u8 7, .int .u8 3, .int .u8 5] 5)) := AF hbw2 _
 clear hsb;generalize w2.alloc (.cells #[.int .u8 7, .int .u8 3, .int .u8 5] 5) = w4 at *
 go_wp2_with fail;go_ret;exact ⟨rfl, hbw4⟩
end Go.Proofs.YtlbffbkbkajciaaGreat
