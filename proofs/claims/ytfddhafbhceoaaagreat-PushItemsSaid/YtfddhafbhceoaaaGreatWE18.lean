/- Mini: Needed by pushItems_walk, part 18: texts put together by shake.py; no condition. -/
import Derived.Test.YtfddhafbhceoaaaGreatWE13
import Derived.Test.YtfddhafbhceoaaaGreatWE10
import Derived.Test.YtfddhafbhceoaaaGreatWE8
import Derived.Test.YtfddhafbhceoaaaGreatWE7
import Derived.Test.YtfddhafbhceoaaaGreatWE6
import Derived.Test.YtfddhafbhceoaaaGreatWE5
import Derived.Test.YtfddhafbhceoaaaGreatWE3
import Derived.Test.YtfddhafbhceoaaaGreatWE2
import Derived.Test.YtfddhafbhceoaaaGreatWE1
import Derived.Test.YtfddhafbhceoaaaGreatWE17
import Derived.Test.YtfddhafbhceoaaaGreatWE14
import Derived.Deep.Cut
import Derived.Deep.CutRange
import Derived.Test.YtfddhafbhceoaaaGreatWE15
import Derived.Test.YtfddhafbhceoaaaGreatWE16
import Derived.Test.YtfddhafbhceoaaaGreatWE4
set_option linter.unusedVariables false
set_option linter.unusedSimpArgs false
set_option maxRecDepth 100000
set_option maxHeartbeats 6400000
namespace Go.Bs
theorem zB0{p:Prop}(h:p:=by rw [hel]; omega):p:=h
theorem zBw{p:Prop}(h:p:=by rw [hel2]; omega):p:=h
abbrev Acz(h:Array Value:=by exact #[.int .i64 mk.kind,.int .u64 mk.epoch,.int .u64 mk.seq,.int .u64 mk.pos,.int .i64 mk.count,.int .i64 mk.state,.slice a1 mk.streams.length c1,.slice a2 mk.links.length c2,.slice a3 mk.data.length c3,.int .u64 mk.sea.epoch,.int .u64 mk.sea.node,.int .u64 mk.sea.tail,.int .u64 mk.proj.epoch,.slice a4 mk.proj.stripes.length c4]):=h
end Go.Bs
namespace Go.Proofs.YtfddhafbhceoaaaGreat
open Go.RowKit Go.Bs Go.Maps
variable{c c1 c2 c3 c4 n o:Nat}{S:Nat → Prop}{a a1 a2 a3 a4:Option Addr}{W w:World}
theorem QA(w:World)(m:Msg)(a1:Option Addr)(c1:Nat)(a2:Option Addr)(c2:Nat)(a3:Option Addr)(c3:Nat)(a4:Option Addr)(c4:Nat)(hd:A9 (·<w.heap.size) w m a1 c1 a2 c2 a3 c3 a4 c4)(hbk:∀x∈m.links,x.backs.length≤1000000)(hln:m.data.length≤10000000000)(hR:DJ m=true)(hno:Aa0 m):
  Calls Tryz.prog 99 #[.agg Acq] w fun r w'=>∃v,r=.returned (.tuple #[v,.int .i64 (Gy m).2])∧Ah.r (fun q=>w.heap.size≤q∧q<w'.heap.size) w' [v] (Gy m).1∧Below w.heap.size w w':=by
 have HRT:=hid (fun (W:World) (hW:Below w.heap.size w W)=>Pm m a1 c1 a2 c2 a3 c3 a4 c4 W (A9.lift hd hW) hbk);have HBX:Hid (Blk (w.alloc (.cells Acq 45)) w.heap.size 45 Acq):=hid (Blk.new w _ _);have hb0:Below w.heap.size w (w.alloc (.cells Acq 45)):=zB;unfold Gy;rw[Ai hR];rw[hR] at HRT;have hR':=hR;simp only[DJ,Aq] at hR';obtain⟨hm,hep⟩:=hR';have hk:1≤m.kind∧m.kind≤14:=(EB hm).kind;have HBY:=hid (fun (W:World) (hW:Below w.heap.size w W)=>SL W m a1 c1 a2 c2 a3 c3 a4 c4 (A9.lift hd hW) hbk hln hm hno);unfold GH at HBY;rw[hm] at HBY;simp only[Fx] at HBY;have hml:=IF hm;have hvl:=(AZ m.epoch.toNat).1;have hsl:=(AZ m.seq.toNat).1;have he0:=hd.epoch;have hs0:=hd.seq;have hpb:CA m=[UInt8.ofNat m.kind.toNat]++Az m.epoch.toNat++Az m.seq.toNat++D4 m:=rfl;rw[hpb];generalize D4 m=K at*;have hmo:(20:Int)+(K.length:Int)=((20+K.length:Nat):Int):=zD;have HN:=hid (fun W:World=>(by have:=I2 W (20+K.length) zD;rw[←hmo] at this;exact this:Calls Tryz.prog 160 #[.int .i64 ((20:Int)+(K.length:Int))] W fun r w'=>r=.returned (.pointer (some ⟨W.heap.size,0,none⟩))∧BQ w' W.heap.size W.heap.size (20+K.length) [] none 0∧Below W.heap.size W w'));have hKl:K.length≤20000000000:=zD;have hkz:0≤m.kind:=zD;have hky:m.kind≤14:=hk.2;have hkk:m.kind=((UInt8.ofNat m.kind.toNat).toNat:Int):=by
  have:=Ej (x:=m.kind.toNat) zD;rw[toNat_cast hkz] at this;exact this
 have HLT:=hid (fun W:World=>(by have:=Lg W (UInt8.ofNat m.kind.toNat);rw[←hkk] at this;exact this:Ah.r (·<(W.alloc (.cells #[.int .u8 m.kind] 5)).heap.size) (W.alloc (.cells #[.int .u8 m.kind] 5)) [.slice (some ⟨W.heap.size,0,none⟩) 1 1] [UInt8.ofNat m.kind.toNat]));have HP1:=hid (fun (W:World) (g base:Nat) (h:BQ W g base (20+K.length) [] none 0) (ad:Option Addr) (hD:Ah.r (·<W.heap.size) W [.slice ad 1 1] [UInt8.ofNat m.kind.toNat])=>Fu W h [UInt8.ofNat m.kind.toNat] ad 1 1 hD zH zN);have HP2:=hid (fun (W:World) (g base:Nat) (a:Option Addr) (c:Nat) (h:BQ W g base (20+K.length) [UInt8.ofNat m.kind.toNat] a c)=>(by have:=Md W h m.epoch.toNat (by rw[toNat_cast he0.1];exact hep) ZA zH;rw[toNat_cast he0.1] at this;exact this:Calls Tryz.prog 162 #[.pointer (some ⟨g,0,none⟩),.int .u64 m.epoch] W fun r w'=>r=.returned (.tuple #[])∧At W g base (20+K.length) ([UInt8.ofNat m.kind.toNat]++Az m.epoch.toNat) a w'));have HP3:=hid (fun (W:World) (g base:Nat) (a:Option Addr) (c:Nat) (h:BQ W g base (20+K.length) ([UInt8.ofNat m.kind.toNat]++Az m.epoch.toNat) a c)=>(by have:=Cl W h m.seq.toNat (by have:=hs0.2;omega) ZA zH;rw[toNat_cast hs0.1] at this;exact this:Calls Tryz.prog 163 #[.pointer (some ⟨g,0,none⟩),.int .u64 m.seq] W fun r w'=>r=.returned (.tuple #[])∧At W g base (20+K.length) ([UInt8.ofNat m.kind.toNat]++Az m.epoch.toNat++Az m.seq.toNat) a w'));have HP4:=hid (fun (W:World) (g base:Nat) (a:Option Addr) (c:Nat) (h:BQ W g base (20+K.length) ([UInt8.ofNat m.kind.toNat]++Az m.epoch.toNat++Az m.seq.toNat) a c) (ad:Option Addr) (cd:Nat) (hD:Ah.r (·<W.heap.size) W [.slice ad K.length cd] K)=>Fu W h K ad _ cd hD ZA zH);generalize [UInt8.ofNat m.kind.toNat]=KB at*;generalize Az m.epoch.toNat=VE at*;generalize Az m.seq.toNat=VS at*;clear hno hd hbk hln hR hm hep hk hml hvl hsl hpb hmo he0 hs0 hkk;go_enter Tryz.func99,Tryz.ntmps99;go_wp2_with fail;generalize (w.alloc (.cells Acq 45))=w0 at*;refine (HRT.out _ hb0).mono ?_;rintro r w1 ⟨rfl,hb1⟩;have hbw1:=Af hb1 hb0;have B1:=HBX.out.later hb1;have y0:w1.cell? ⟨w.heap.size,0,none⟩=some (.int .i64 m.kind):=B1.cell 0;have y1:w1.cell? ⟨w.heap.size,1,none⟩=some (.int .u64 m.epoch):=B1.cell 1;have y2:w1.cell? ⟨w.heap.size,2,none⟩=some (.int .u64 m.seq):=B1.cell 2;have y3:w1.cell? ⟨w.heap.size,3,none⟩=some (.int .u64 m.pos):=B1.cell 3;have y4:w1.cell? ⟨w.heap.size,4,none⟩=some (.int .i64 m.count):=B1.cell 4;have y5:w1.cell? ⟨w.heap.size,5,none⟩=some (.int .i64 m.state):=B1.cell 5;have y6:w1.cell? ⟨w.heap.size,6,none⟩=some (.slice a1 m.streams.length c1):=B1.cell 6;have y7:w1.cell? ⟨w.heap.size,7,none⟩=some (.slice a2 m.links.length c2):=B1.cell 7;have y8:w1.cell? ⟨w.heap.size,8,none⟩=some (.slice a3 m.data.length c3):=B1.cell 8;have y9:w1.cell? ⟨w.heap.size,9,none⟩=some (.int .u64 m.sea.epoch):=B1.cell 9;have y10:w1.cell? ⟨w.heap.size,10,none⟩=some (.int .u64 m.sea.node):=B1.cell 10;have y11:w1.cell? ⟨w.heap.size,11,none⟩=some (.int .u64 m.sea.tail):=B1.cell 11;have y12:w1.cell? ⟨w.heap.size,12,none⟩=some (.int .u64 m.proj.epoch):=B1.cell 12;have y13:w1.cell? ⟨w.heap.size,13,none⟩=some (.slice a4 m.proj.stripes.length c4):=B1.cell 13;go_wp2_with fail;refine (HBY.out _ hbw1).mono ?_;rintro r w2 ⟨v2,rfl,hr2,hb2⟩;obtain⟨e2,k2,hv2,hr2',_⟩:=AN hr2;simp only[As,AM] at hv2;subst hv2;have HR2:=hid hr2';have hbw2:=Af hb2 hbw1;have B2:=B1.later hb2;have hs1:=hbw1.size;clear hr2 hr2' y0 y1 y2 y3 y4 y5 y6 y7 y8 y9 y10 y11 y12 y13 B1;go_wp2_with fail;refine (HN.out w2).mono ?_;rintro r w3 ⟨rfl,hp3,hb3⟩;have B3:=B2.later hb3;have y0:w3.cell? ⟨w.heap.size,0,none⟩=some (.int .i64 m.kind):=B3.cell 0;have hbw3:=Af hb3 hbw2;have hlb:=B2.lt;have HB3:=hid B3;have HP:=hid hp3;have HD3:=hid (Pn Ah HR2.out hb3);have hs2:=hbw2.size;have hs3:=hb3.size;have HAL:=hid (AH (Below.refl w3.heap.size w3) (.cells #[.int .u8 m.kind] 5));have HQ1:=hid (HP1.out _ _ _ (HP.out.later HAL.out) _ (HLT.out w3));clear hp3 B2 B3;go_wp2_with fail;refine HQ1.out.mono ?_;rintro r w4 ⟨rfl,hst4⟩;have hst4':=At.later HAL.out hst4;rw[AV] at hst4';obtain⟨e4,k4,hp4,ht4,ha4⟩:=hst4';have B4:=HB3.out.tch ht4 (fun hf=>by rcases Fv.1 hf with e | e<;>first | omega | (simp at e));have y1:w4.cell? ⟨w.heap.size,1,none⟩=some (.int .u64 m.epoch):=B4.cell 1;have HD4:=hid (Ah.keep HD3.out fun q hq=>ht4.block q ZP (fun hf=>by have:=hq.2;rcases Fv.1 hf with e | e<;>first | omega | (simp at e)));have HN4:=hid (fun (q:Nat) (h1:q<w2.heap.size) (hf:Dr w2.heap.size e4 q)=>EC ha4 (show q<w3.heap.size by omega) (fun hf=>by rcases Fv.1 hf with e | e<;>first | omega | (simp at e)) hf);have HB4:=hid B4;have HQ2:=hid (HP2.out _ _ _ _ _ hp4);have hs4:=ht4.size;have HT4:=hid (And.intro ht4 ha4);clear hst4 hp4 ht4 ha4 B4 y0;go_wp2_with fail;refine HQ2.out.mono ?_;rintro r w5 ⟨rfl,e5,k5,hp5,ht5,ha5⟩;have B5:=HB4.out.tch ht5 (fun hf=>HN4.out _ hlb hf);have y2:w5.cell? ⟨w.heap.size,2,none⟩=some (.int .u64 m.seq):=B5.cell 2;have HD5:=hid (Ah.keep HD4.out fun q hq=>ht5.block q ZP (fun hf=>HN4.out q hq.2 hf));have HN5:=hid (fun (q:Nat) (h1:q<w2.heap.size) (hf:Dr w2.heap.size e5 q)=>EC ha5 (show q<w4.heap.size by omega) (fun hf=>HN4.out q h1 hf) hf);have HQ3:=hid (HP3.out _ _ _ _ _ hp5);have hs5:=ht5.size;have HT5:=hid (And.intro ht5 ha5);clear hp5 ht5 ha5 B5 y1;go_wp2_with fail;refine HQ3.out.mono ?_;rintro r w6 ⟨rfl,e6,k6,hp6,ht6,ha6⟩;have HD6:=hid (Ah.keep HD5.out fun q hq=>ht6.block q ZP (fun hf=>HN5.out q hq.2 hf));have hs6:=ht6.size;have HQ4:=hid (HP4.out _ _ _ _ _ hp6 e2 k2 (Ah.mono HD6.out fun q hq=>ZP));have HT6:=hid (And.intro ht6 ha6);clear hp6 ht6 ha6 y2;go_wp2_with fail;refine HQ4.out.mono ?_;rintro r w7 ⟨rfl,e7,k7,hp7,ht7,ha7⟩;have HF:=hid (PA w7 hp7);have HT7:=hid (And.intro ht7 ha7);clear hp7 ht7 ha7;go_wp2_with fail;refine HF.out.mono ?_;rintro r w8 ⟨rfl,hst8⟩;have hst:=At.trans (J:=KB) HT4.out.1 HT4.out.2 (At.trans (J:=KB) HT5.out.1 HT5.out.2 (At.trans (J:=KB) HT6.out.1 HT6.out.2 (At.trans (J:=KB) HT7.out.1 HT7.out.2 hst8)));have hbw8:Below w.heap.size w w8:=hbw3.trans (HP.out.below zD hbw3.size hst);obtain⟨e8,k8,hp8,_,_⟩:=hst;have HBB:=hid (Hb w8 hp8);have hs8:=hbw8.size;clear hp8 hst8;go_wp2_with fail;refine HBB.out.mono ?_;rintro r w9 ⟨v,rfl,hv,hb9⟩;have hbe:=Af hb9 hbw8;have HV:=hid (Ah.mono (S':=fun q=>w.heap.size≤q∧q<w9.heap.size) hv fun q hq=>⟨zY,hq.2⟩);clear hv;go_wp2_with fail;go_ret2
 exact⟨_,rfl,HV.out,hbe⟩
theorem Tv(w:World)(m:Msg)(a1:Option Addr)(c1:Nat)(a2:Option Addr)(c2:Nat)(a3:Option Addr)(c3:Nat)(a4:Option Addr)(c4:Nat)(hd:A9 (·<w.heap.size) w m a1 c1 a2 c2 a3 c3 a4 c4)(hbk:∀x∈m.links,x.backs.length≤1000000)(hln:m.data.length≤2000000)(hR:DJ m=true)(hno:Aa0 m):
  Calls Tryz.prog 56 #[.agg Acq] w fun r w'=>∃v,r=.returned (.tuple #[v,.int .i64 (Fm m).2])∧Ah.r (fun q=>w.heap.size≤q∧q<w'.heap.size) w' [v] (Fm m).1∧Below w.heap.size w w':=by
 have HPY:=hid (fun (W:World) (hW:Below w.heap.size w W)=>QA W m a1 c1 a2 c2 a3 c3 a4 c4 (A9.lift hd hW) hbk zD hR hno);have hb0:Below w.heap.size w (w.alloc (.cells Acq 45)):=zB;unfold Fm;unfold Gy at HPY;rw[Ai hR];rw[hR] at HPY;simp only[Fx] at HPY;have hpl:=K8 hR;have HFB:=hid (fun (W:World) (ad:Option Addr) (cd:Nat) (hD:Ah.r (·<W.heap.size) W [.slice ad (CA m).length cd] (CA m))=>MN W (CA m) ad _ cd hD zD);generalize CA m=P at*;clear hno hd hbk hR hpl;go_enter Tryz.func56,Tryz.ntmps56;go_wp2_with fail;generalize (w.alloc (.cells Acq 45))=w0 at*;refine (HPY.out _ hb0).mono ?_;rintro r w1 ⟨v1,rfl,hr1,hb1⟩;obtain⟨e1,k1,hv1,hr1',_⟩:=AN hr1;simp only[As,AM] at hv1;subst hv1;have hbw1:=Af hb1 hb0;have HFF:=hid (HFB.out w1 e1 k1 (Ah.mono hr1' fun q hq=>hq.2));have hs1:=hbw1.size;clear hr1 hr1' hb1;go_wp2_with fail;refine HFF.out.mono ?_;rintro r w2 ⟨x,rfl,ho,hb2⟩;have hbe:=Af hb2 hbw1;have HV:=hid (Ah.mono (S':=fun q=>w.heap.size≤q∧q<w2.heap.size) (Cg rfl ho) fun q hq=>⟨zY,hq.2⟩);clear ho;go_wp2_with fail;go_ret2
 exact⟨_,rfl,HV.out,hbe⟩
set_option maxHeartbeats 12800000 in
theorem AbB(w:World):Calls Tryz.prog 15 #[] w fun r w'=>r=.returned (.bool true)∧Below w.heap.size w w':=by
 obtain⟨i0,hi,hz0,hz1,hz2⟩:=A3 DH;have hin:∀W:World,A9 (·<W.heap.size) W Ig none 0 none 0 none 0 none 0:=fun W=>T5 ⟨zO,zO⟩ ⟨zO,zO⟩ ⟨zO,zO⟩ ⟨zO,zO⟩ ⟨zO,zO⟩ ⟨zO,zO⟩ rfl rfl rfl ⟨⟨zO,zO⟩,⟨zO,zO⟩,⟨zO,zO⟩⟩ ⟨zO,zO⟩ rfl;obtain⟨FL,hFL,hll⟩:=OW;have hRp:DJ Ig=true:=zO;have HA:=hid (fun W:World=>(by
  have:=Tv W Ig none 0 none 0 none 0 none 0 (hin W) (fun x hx=>by simp[Ig] at hx) zO zO ⟨zO,zO,zO,zO,zO⟩;rw[hFL] at this;exact this:Calls Tryz.prog 56 #[.agg #[.int .i64 7,.int .u64 3,.int .u64 5,.int .u64 0,.int .i64 0,.int .i64 0,.slice none 0 0,.slice none 0 0,.slice none 0 0,.int .u64 0,.int .u64 0,.int .u64 0,.int .u64 0,.slice none 0 0]] W fun r w'=>∃v,r=.returned (.tuple #[v,.int .i64 0])∧Ah.r (fun q=>W.heap.size≤q∧q<w'.heap.size) w' [v] (3::FL)∧Below W.heap.size W w'))
 have hFR:Bf (CA Ig)=3::FL:=by
  unfold Fm at hFL;rw[Ai hRp] at hFL;exact (Prod.mk.inj hFL).1
 have hlv:=Wb (m:=Ig) (R9 (hin w)) hRp ⟨zO,zO⟩;have hlen:(3::FL).length=8:=by simp[hll]
 rw[hFR] at hlv;generalize (3::FL)=F at*;rw[hlen,show 8-1=7 from rfl] at hlv;have hTl:(F.take 7).length=7:=Z4;have hAl:=hid (fun (W:World) (v:Option Addr) (n c:Nat) (h:Ah.r (·<W.heap.size) W [.slice v n c] (F++F.take 7))=>LK W (F++F.take 7) v n c h (by rw[Ag,hTl,hlen];decide));rw[hlv] at hAl;have hL15:(F++F.take 7).length=15:=by rw[Ag,hTl,hlen]
 rw[hL15] at hAl;have HF8:=hid hlen;have HT7:=hid hTl;have HL15:=hid hL15;have HON1:=hid (AI F);have HON2:=hid (AI (F.take 7));clear hin hFL hll hRp hFR hlv hlen hTl hL15;go_enter Tryz.func15,Tryz.ntmps15;go_wp2_with fail;refine (HA.out _).mono ?_;rintro r w1 ⟨v1,rfl,hr1,hb1⟩;obtain⟨e1,d1,hv1,hs1,_⟩:=AN hr1;simp only[As,AM] at hv1;subst hv1;have hc8:=(AT hs1).2.2;have ht:=Ic hs1 (k:=7) (by rw[HF8.out];decide);have HS1:=hid (Ah.mono hs1 (S':=(·<w1.heap.size)) fun q hq=>hq.2);have HT1:=hid (Ah.mono ht (S':=(·<w1.heap.size)) fun q hq=>hq.2);have HB1:=hid hb1;obtain⟨eb,eo,hE,_,_⟩:=Cs (i:=0) hs1 (by rw[HF8.out];decide);subst hE;rw[HF8.out] at HS1 hc8 ⊢;clear hr1 hs1 hb1 ht;go_wp2_with fail;refine CJ (S:=fun _=>True) zI trivial (fun hHeld=> ?_)
 (try simp only[AA,Ay,Aw,Act.put,Aa,Ab,Ac])
 have hd7:(7:Int)≤(d1:Int):=zD;refine Ap (i:=1) (oi:=_) (v:=?_) rfl zE zE zE (fun _ _ _ h=>h) (Or.inl ⟨zS,?_⟩) zL ?_;rotate_left
 ·(intro w hSw;(try dsimp only at hSw);go_simp<;>with_reducible rfl)
 (try simp only[Act.put,Aa,Ab,Ac])
 refine Ap (i:=3) (oi:=_) (v:=?_) rfl zE zE zE (fun _ _ _ h=>h) (Or.inl ⟨zS,?_⟩) zL ?_;rotate_left
 ·(intro w hSw;(try dsimp only at hSw);go_simp<;>with_reducible rfl)
 (try simp only[Act.put,Aa,Ab,Ac])
 refine Ap (i:=4) (oi:=_) (v:=?_) rfl zE zE zE (fun _ _ _ h=>h) (Or.inl ⟨zS,?_⟩) zL ?_;rotate_left
 ·(intro w hSw;(try dsimp only at hSw);go_simp<;>with_reducible rfl)
 (try simp only[Act.put,Aa,Ab,Ac])
 refine Ap (i:=5) (oi:=_) (v:=?_) rfl zE zE zE (fun _ _ _ h=>h) (Or.inl ⟨zS,?_⟩) zL ?_;rotate_left
 ·(intro w hSw;(try dsimp only at hSw);go_simp<;>with_reducible rfl)
 (try simp only[Act.put,Aa,Ab,Ac])
 (try simp only[AA,Ay,Aw,Act.put,Aa,Ab,Ac])
 refine Ap (i:=6) (oi:=_) (v:=?_) rfl zE zE zE (fun _ _ _ h=>h) (Or.inl ⟨zS,?_⟩) zL ?_;rotate_left
 ·(intro w hSw;(try dsimp only at hSw);go_simp<;>with_reducible rfl)
 (try simp only[Act.put,Aa,Ab,Ac])
 (try simp only[AA,Ay,Aw,Act.put,Aa,Ab,Ac])
 simp only[show IntKind.i64.wrap 7=7 from zO];refine Ap (i:=7) (oi:=_) (v:=?_) rfl zE zE zE (fun _ _ _ h=>h) (Or.inl ⟨zS,?_⟩) zL ?_;rotate_left
 ·(intro w hSw;(try dsimp only at hSw);go_simp<;>with_reducible rfl)
 (try simp only[Act.put,Aa,Ab,Ac])
 (try simp only[AA,Ay,Aw,Act.put,Aa,Ab,Ac])
 refine Ap (i:=8) (oi:=_) (v:=?_) rfl zE zE zE (fun _ _ _ h=>h) (Or.inl ⟨zS,?_⟩) zL ?_;rotate_left
 ·(intro w hSw;(try dsimp only at hSw);go_simp<;>with_reducible rfl)
 (try simp only[Act.put,Aa,Ab,Ac])
 (try simp only[AA,Ay,Aw,Act.put,Aa,Ab,Ac])
 refine AU (rs:=[0]) zE zN ?_;refine AK (o:=_) rfl (fun K hK=> ?_) AllReadyH.nil;go_simp
 refine hK.out _ _ ?_ (fun hHeld=> ?_)
 ·trivial
 clear hK K
 (try simp only[Act.put,Aa,Ab,Ac])
 have B0:Blk ((w1.alloc (.cells #[] 5)).drew) w1.heap.size 5 #[]:=(Blk.new w1 _ _).drew;have hb0:Below w1.heap.size w1 ((w1.alloc (.cells #[] 5)).drew):=zA;have HS0:=hid (lift HS1.out hb0);have HT0:=hid (lift HT1.out hb0);have hz0':w1.heap.size≤((w1.alloc (.cells #[] 5)).drew).heap.size:=hb0.size;have hb0':=hb0;have HB0:=hid (Af hb0 HB1.out);have hsr0:=A8 HS0.out;rw[HF8.out] at hsr0;have HSR0:=hid hsr0;clear hsr0;refine AU (rs:=[2]) zE zN ?_;refine AK (o:=_) rfl (fun K hK=> ?_) AllReadyH.nil
 (refine BG zS _ _ _ zS w1.heap.size 5 i0 (.int .u8 0) 1 1 Au hi hz0 hz1 hz2 rfl zO (.slice (some ⟨w1.heap.size,0,none⟩) 0 0) 0 [] zS (OV B0 (An _)) (some ⟨eb,eo,none⟩) 8 d1 (byteCells F) zS HSR0.out HON1.out zO zO hz0' ?_;intro a2 c2 w2 hown2 hgrow2 hat2;have HO2:=hid (show w2.ownsRow w1.heap.size 5 1 (.slice a2 8 c2) 8 (byteCells F) from hown2);have hb2':=Below.grown (Below.refl w1.heap.size _) hgrow2 hz0' (fun g e=>by simp only[Value.ownBlock,Bd,reduceCtorEq] at e;first | omega | (simp at e;omega));have HB2:=hid (Below.grown hb0' hgrow2 hz0' (fun g e=>by simp only[Value.ownBlock,Bd,reduceCtorEq] at e;first | omega | (simp at e;omega)));clear hown2 hgrow2 hat2;(try dsimp only))
 refine hK.out _ _ ?_ (fun hHeld=> ?_)
 ·trivial
 clear hK K
 (try simp only[Act.put,Aa,Ab,Ac])
 (try simp only[AA,Ay,Aw,Act.put,Aa,Ab,Ac])
 have hzz:w1.heap.size≤w2.heap.size:=HB2.out.size;have HT2:=hid (Ah.mono (S':=(·<w2.heap.size)) (Ah.keep HT1.out fun q hq=>(hb2'.block q hq).trans (hb0'.block q hq)) fun q hq=>Aj hq hzz);have hsr2:=A8 HT2.out;rw[HT7.out] at hsr2;have HSR2:=hid hsr2;have hz2':w1.heap.size≤w2.heap.size:=HB2.out.size;clear hsr2 hb2';refine AU (rs:=[9]) zE zN ?_;refine AK (o:=_) rfl (fun K hK=> ?_) AllReadyH.nil
 (refine BG zS _ _ _ zS w1.heap.size 5 i0 (.int .u8 0) 1 1 Au hi hz0 hz1 hz2 rfl zO (.slice a2 8 c2) 8 (byteCells F) zS HO2.out (some ⟨eb,eo,none⟩) 7 d1 (byteCells (F.take 7)) zS HSR2.out HON2.out zO zO hz2' ?_;intro a3 c3 w3 hown3 hgrow3 hat3;have HO3:=hid hown3;have HB3:=hid (Below.grown HB2.out hgrow3 hz2' (fun g e=>(BI HO2.out g e).1));clear hgrow3 hat3 hown3;(try dsimp only))
 refine hK.out _ _ ?_ (fun hHeld=> ?_)
 ·trivial
 clear hK K
 (try simp only[Act.put,Aa,Ab,Ac])
 (try simp only[AA,Ay,Aw,Act.put,Aa,Ab,Ac])
 have hr3:=BM (l:=F++F.take 7) (n:=15) HL15.out.symm (show w3.ownsRow w1.heap.size 5 1 (.slice a3 15 c3) 15 (byteCells (F++F.take 7)) by have:=HO3.out;rw[←Es];exact this);have HR3:=hid hr3;clear hr3;refine AU (rs:=[10]) zE zN ?_;refine AK (o:=_) rfl (fun K hK=> ?_) AllReadyH.nil
 (go_simp;go_at_call 18;refine (hAl.out w3 a3 15 c3 HR3.out).mono ?_;rintro r w4 ⟨vo,rfl,hev,hb4⟩;have HEV:=hid hev;have HB4:=hid (Af hb4 HB3.out);clear hev hb4;(try dsimp only))
 refine hK.out _ _ ?_ (fun hHeld=> ?_)
 ·trivial
 clear hK K
 (try simp only[Act.put,Aa,Ab,Ac])
 (try simp only[AA,Ay,Aw,Act.put,Aa,Ab,Ac])
 refine Ap (i:=11) (oi:=_) (v:=?_) rfl zE zE zE (fun _ _ _ h=>h) (Or.inl ⟨zS,?_⟩) zL ?_;rotate_left
 ·(intro w hSw;(try dsimp only at hSw);go_simp<;>with_reducible rfl)
 (try simp only[Act.put,Aa,Ab,Ac])
 refine CS zI ?_ _;obtain⟨e4,d4,hv4,hs4,_⟩:=AN HEV.out;simp only[As,AM] at hv4;subst hv4;obtain⟨b4,o4,hE4,_,_,_,_,_,_,_,_,_,_,_,hc0,_⟩:=Vx hs4 (i:=0) (by show 0<2;decide);obtain⟨b5,o5,hE5,_,_,_,_,_,_,_,_,_,_,_,hc1,_⟩:=Vx hs4 (i:=1) (by show 1<2;decide);subst hE4;obtain⟨rfl,rfl⟩:b4=b5∧o4=o5:=by
  have:=A7 hE5;simp only[CZ,AM] at this;exact this
 have x0:w4.cell? ⟨b4,o4,none⟩=some (.int .i64 1):=hc0.1;have x5:w4.cell? ⟨b4,o4+5,none⟩=some (.int .u64 5):=hc0.2.2.2.2.2.1;have x20:w4.cell? ⟨b4,o4+20,none⟩=some (.int .i64 3):=hc1.1;clear hc0 hc1 hs4 hE5 HEV;go_wp2;go_ret;exact⟨rfl,Af HB4.out HB1.out⟩
theorem Abx:FY Tryz.prog 32 Jz:=FJ (sz:=14) Tryz.underlying32 zI zO Ab7
theorem Yi{H:Type}(enc:TypeId × Value→H)(W:World)(base:Nat)(v0:Value)(d0:DataW H)(p0:List MemPlace)
 (k0:DataW.Trod enc Tryz.prog W 0 (fun _=>true) true 32 v0 d0 p0) (o0:Value.okWide Tryz.prog W .any base 32 v0):
  ∃(l:List Msg) (a:Option Addr) (n c:Nat),v0=.slice a n c∧Jz.r (·<W.heap.size) W [.slice a n c] l:=by
 obtain⟨fuel,hf⟩:=k0;obtain⟨a,n,c,rfl⟩:=Go.WideShapes.okWide_slice Tryz.underlying32 o0;obtain⟨u,hu⟩:=Abx enc W fuel _ _ hf;exact⟨u,a,n,c,rfl,hu⟩
theorem WY{l:List Msg}(h:∀m∈l,DJ m=true∧m.data.length≤300):(B9 l).length≤l.length*49335:=by
 induction l with
 | nil=>simp [B9]
 | cons m l ih=>
  obtain⟨h1,h2⟩:=h m (List.mem_cons_self ..);have h3:=IV h1;have h4:=ih fun x hx=>h x (List.mem_cons_of_mem _ hx);have e:B9 (m::l)=Bf (CA m)++B9 l:=by simp[B9]
  rw[e,Ag,AO,Nat.succ_mul];omega
theorem Wj{l:List Msg}(h:Jz.r S w [.slice a n c] l):∀m∈l,M8 m∧inU m.seq:=fun m hm=>by
 obtain⟨i,hi,rfl⟩:=Fa hm;obtain⟨b,o,hA,hbb,a1,c1,a2,c2,a3,c3,a4,c4,uu,xl⟩:=N9 h hi;exact⟨R9 xl,xl.seq⟩
structure AbS(S:List UInt8)(lm:List Msg)(x:Ev):Prop where
 all:O5 S=Eg 0 lm++[x]
 right:∀m∈lm,DJ m=true
 bytes:S=B9 lm++S.drop (B9 lm).length
 len:(B9 lm).length≤S.length
 item:x.kind≠1
 at_:((B9 lm).length:Int)≤x.at_
 fin:x.kind=2→(B9 lm).length=S.length
 cut:x.kind=3→(B9 lm).length≠S.length∧x.at_=S.length
theorem Wp(S:List UInt8)(hS:S.length≤1000000000):∃lm x,AbS S lm x:=by
 obtain⟨l,b,h1,h2,h3,h4,h5,h6,h7⟩:=NY S hS (S.length+1) 0 (Am _) zD;rw[A1] at h4;rw[h4] at h3 h5;rw[CO] at h3;have hall:=Rc S;unfold YL at hall;rw[h1] at hall;by_cases h0:(DP S (S.length+1) 0).2.2=0
 ·rw[h6 h0,BK,Ai ⟨rfl,h0⟩,h4] at hall
  by_cases hp:(B9 l).length<S.length
  ·rw[Ai hp] at hall
   exact⟨l,_,hall,h2,h3,h5,fun e=>absurd (show (3:Int)=1 from e) zO,by dsimp only;omega,fun e=>absurd (show (3:Int)=2 from e) zO,fun _=>⟨zD,rfl⟩⟩
  ·rw[Ak hp] at hall
   exact⟨l,_,hall,h2,h3,h5,fun e=>absurd (show (2:Int)=1 from e) zO,by dsimp only;omega,fun _=>zD,fun e=>absurd (show (2:Int)=3 from e) zO⟩
 ·obtain⟨x,k,hb,hx⟩:=h7 h0
  rw[hb,Ak (fun e=>h0 e.2),BK] at hall;rw[h4] at hx;exact⟨l,_,hall,h2,h3,h5,fun e=>absurd (show (4:Int)=1 from e) zO,hx,fun e=>absurd (show (4:Int)=2 from e) zO,fun e=>absurd (show (4:Int)=3 from e) zO⟩
theorem Kz:∀(l:List Msg) (p:Nat),(Eg p l).length=l.length
 | [],p=>rfl
 | m::l,p=>by
  unfold Eg;rw[AO,Kz l,AO]
theorem KA:∀(l:List Msg) (p k:Nat) (hk:k<l.length),(Eg p l)[k]? =some (DV (p+(B9 (l.take k)).length) l[k])
 | [],p,k,hk=>absurd hk (Nat.not_lt_zero _)
 | m::l,p,0,hk=>by simp[Eg,B9]
 | m::l,p,k+1,hk=>by
  have h:=KA l (p+(Bf (CA m)).length) k (by simpa using hk);have e:B9 (m::l.take k)=Bf (CA m)++B9 (l.take k):=rfl;rw[Gr,e,Ag];unfold Eg;rw[List.getElem?_cons_succ,h,Bu];rfl
theorem Qk(l:List Msg)(k:Nat):B9 l=B9 (l.take k)++B9 (l.drop k):=by
 unfold B9;rw[←CK,←BX,Ce]
theorem Rd(l:List Msg)(k:Nat):(B9 (l.take k)).length≤(B9 l).length:=by
 rw[Qk l k,Ag];omega
theorem AbI{b:Nat}{x:EvX}{a5:Option Addr}{c5:Nat}(h:W.rangeAt b o (DF x a1 c1 a2 c2 a3 c3 a4 c4 a5 c5)):W.rangeAt b (o+3) (Ep x.msg a1 c1 a2 c2 a3 c3 a4 c4):=fun j v hj=>by
 have e:(DF x a1 c1 a2 c2 a3 c3 a4 c4 a5 c5).drop 3=Ep x.msg a1 c1 a2 c2 a3 c3 a4 c4++[.int .u64 x.batch.epoch,.int .u64 x.batch.base,.slice a5 x.batch.entries.length c5]:=rfl;have hl:j<(Ep x.msg a1 c1 a2 c2 a3 c3 a4 c4).length:=(List.getElem?_eq_some_iff.1 hj).1;rw[Bu];exact h (3+j) v (by rw[←List.getElem?_drop,e,A5 hl,hj])
set_option maxHeartbeats 12800000 in
theorem RX(B:List UInt8)(l:List Msg)(a am:Option Addr)(n c nm cm:Nat)(w:World)(hl:Ah.r (·<w.heap.size) w [.slice a n c] B)(hm:Jz.r (·<w.heap.size) w [.slice am nm cm] l):
  Calls Tryz.prog 4 #[.slice a n c,.slice am nm cm] w fun e w'=>e=.returned (.bool true)∧Below w.heap.size w w':=by
 obtain⟨rfl,hmx,_,_⟩:=AT hl;obtain⟨rfl,hmm,_,_⟩:=AT hm;obtain⟨i0,hi,hz0,hz1,hz2⟩:=A3 AaK;have HL:=hid hl;have HMS:=hid hm;have HLV:=hid AbB;by_cases h600:B.length≤600
 ·have d0:decide ((600:Int)<(B.length:Int))=false:=Ae zD
  have HHV:=hid (Sh w B a _ c hl zD);have HMN:=hid (fun (W:World) (hW:Below w.heap.size w W)=>Ue l am _ cm W (lift hm hW));cases hmn:KD l
  ·rw[hmn] at HMN
   obtain⟨hlen,hsh0⟩:=Lf hmn;have hsh:∀m∈l,Aag m:=fun m hm=>Wl (hsh0 m hm);have HRA:=hid (fun (W:World) (hW:Below w.heap.size w W)=>Aat l am _ cm W (lift HMS.out hW) hsh hlen);have hnum:=Wj hm;have HALL:=hid (fun (V:World) (h:Ah.r (·<V.heap.size) V [.slice a B.length c] B)=>LK V B a _ c h zD);obtain⟨lm,x,hit⟩:=Wp B zD;have hda:(O5 B).map Ev.x=(Eg 0 lm).map Ev.x++[Ev.x x]:=by rw[hit.all,BX];rfl
   rw[hda] at HALL;have hpl:((Eg 0 lm).map Ev.x).length=lm.length:=by rw[EP,Kz]
   have hget:∀(k:Nat) (hk:k<lm.length),((Eg 0 lm).map Ev.x)[k]? =some (Ev.x (DV (0+(B9 (lm.take k)).length) lm[k])):=fun k hk=>by
    rw[Ee,KA lm 0 k hk];rfl
   have HGET:=hid hget;have HIT:=hid hit;have hE5:5*lm.length≤(B9 lm).length:=S0;have hE6:=hit.len;have HB5:=hid (fun (V:World) (k:Nat) (hk:k<lm.length) (a1:Option Addr) (c1:Nat) (a2:Option Addr) (c2:Nat) (a3:Option Addr) (c3:Nat) (a4:Option Addr) (c4:Nat) (hd:A9 (·<V.heap.size) V lm[k] a1 c1 a2 c2 a3 c3 a4 c4)=>(by
    have hR:=hit.right lm[k] (Bi hk);have hmild:=N8 (by simp only[DJ,Aq] at hR;exact hR.1);exact RB V lm[k] a1 c1 a2 c2 a3 c3 a4 c4 hd (fun y hy=>by have:=hmild.1 y hy;omega) (by have:=hmild.2;omega) hR))
   clear hl hm hmn hsh0 hit hda hget;generalize hpe:(Eg 0 lm).map Ev.x=PE at*;clear hpe;go_enter Tryz.func4,Tryz.ntmps4;go_wp2_with fail;refine HHV.out.mono ?_;rintro r w0 ⟨q0,rfl,hb0⟩;have HB0:=hid hb0;clear hb0 HHV;cases q0
   ·go_wp2_with fail
    refine (HMN.out _ HB0.out).mono ?_;rintro r w1 ⟨rfl,hb1⟩;have HB1:=hid (Af hb1 HB0.out);clear hb1 HB0 HMN;go_wp2_with fail;refine (HALL.out _ (lift HL.out HB1.out)).mono ?_;rintro r w2 ⟨ve,rfl,he2,hb2⟩;obtain⟨aE,cE,hfv,he2',_⟩:=AN he2;simp only[As,AM] at hfv;subst hfv;have hel:(PE++[Ev.x x]).length=lm.length+1:=by rw[Ag,hpl];rfl
    rw[hel] at he2';have HE2:=hid (show Kx.r (·<w2.heap.size) w2 [.slice aE (lm.length+1) cE] (PE++[Ev.x x]) from Kx.mono he2' fun q e=>e.2);rw[hel];have HB2:=hid (Af hb2 HB1.out);clear he2 he2' hb2 HALL HB1;have dE:(((lm.length+1:Nat):Int)==(0:Int))=false:=by rw[BW];omega
    have dE':((lm.length:Int)+1==(0:Int))=false:=by rw[BW];omega
    go_wp2_with fail;go_loopw [6,7] (fun av iv wr=>∃k:Nat,k≤lm.length∧av=.int .i64 ((B9 (lm.take k)).length:Nat)∧iv=.int .i64 k∧Below w2.heap.size w2 wr) (fun _ iv _=>lm.length-(intOf iv).toNat)
    case atStart=>exact ⟨0,Am _,rfl,rfl,Below.refl _ _⟩
    case round=>
     obtain⟨k,hk,rfl,rfl,hb⟩:=hrel;have HB:=hid hb;by_cases hlt:k<lm.length
     ·as_aux_lemma=>
       have d1:decide ((k:Int)+1<(lm.length:Int)+1)=true:=Ad zD;obtain⟨be,oe,hA,hbe,a1,c1,a2,c2,a3,c3,a4,c4,a5,c5,hcs,xl⟩:=Vx (lift HE2.out hb) (i:=k) zB0;have hgk:(PE++[Ev.x x])[k]'zB0=Ev.x (DV (B9 (lm.take k)).length lm[k]):=by
        have h1:=HGET.out k hlt;have h2:(PE++[Ev.x x])[k]? =PE[k]? :=A5 (by rw[hpl];exact hlt);rw[AJ zB0,h1,A1] at h2;exact A7 h2
       rw[hgk] at hcs xl;obtain⟨u0,u1,u2,u3,u4,u5,u6,u7,u8,u9,u10,u11,u12,u13,u14,u15,u16,u17,u18,u19⟩:=hcs;have hMI:=hid (show A9 (·<wr.heap.size) wr lm[k] a1 c1 a2 c2 a3 c3 a4 c4 from xl.msg);have HBY:=hid (HB5.out wr k hlt a1 c1 a2 c2 a3 c3 a4 c4 hMI.out);have htk:(B9 (lm.take (k+1))).length=(B9 (lm.take k)).length+(Bf (CA lm[k])).length:=by rw[Qj lm k hlt,Ag]
       have htl:=Rd lm (k+1);have hcutB:(B.drop (B9 (lm.take k)).length).take (Bf (CA lm[k])).length=Bf (CA lm[k]):=by
        have h1:=HIT.out.bytes;rw[Qk lm k,AS hlt] at h1;have e:B9 (lm[k]::lm.drop (k+1))=Bf (CA lm[k])++B9 (lm.drop (k+1)):=rfl;rw[e] at h1;rw[h1,Ao,Ao,List.drop_left,List.take_left]
       obtain⟨A',c',hcut,hrd⟩:=JX (lift HL.out (Af hb HB2.out)) (lo:=(B9 (lm.take k)).length) (hi:=(B9 (lm.take (k+1))).length) zD zD;rw[htk,Nat.add_sub_cancel_left,hcutB] at hrd;rw[htk,Nat.add_sub_cancel_left,show (((B9 (lm.take k)).length+(Bf (CA lm[k])).length:Nat):Int)=((B9 (lm.take k)).length:Int)+((Bf (CA lm[k])).length:Int) from zD] at hcut;subst hA;have i0':(0:Int)≤(k:Int):=zD;have i1:(k:Int)<(lm.length:Int)+1:=zD;have HTK:=hid htk;have HRD:=hid hrd;have hsum:(B9 (lm.take k)).length+(Bf (CA lm[k])).length≤B.length:=zD;generalize Bf (CA lm[k])=FB at*;generalize (B9 (lm.take k)).length=p at*;generalize hmk:lm[k]=mk at*;dsimp only[Ev.x,DV] at u0 u1 u2 u3 u4 u5 u6 u7 u8 u9 u10 u11 u12 u13 u14 u15 u16 u17 u18 u19;have dp:decide ((B.length:Int)<(p:Int)+(FB.length:Int))=false:=Ae zD;have dq:((p:Int) !=(p:Int))=false:=zN;clear xl hgk hcutB hrd htk htl hb hbe;go_wp2_with fail;refine HBY.out.mono ?_;rintro r w5 ⟨vb,rfl,ho5,hb5⟩;obtain⟨ab,cb,rfl⟩:=ho5.form;have HBw:=hid (Af hb5 HB.out);have HJ5:=hid (show Ah.r (·<w5.heap.size) w5 [.slice ab FB.length cb] FB from Ah.mono (BD.read ho5) fun q e=>e.2);have HR5:=hid (lift HRD.out hb5);have HSB:=hid (by have:=NP FB FB ab A' _ cb _ c' w5 HJ5.out HR5.out;rw[Ad rfl] at this;exact this);have y0:w5.cell? ⟨be,oe+k*20,none⟩=some (.int .i64 1):=(AX.mk _ hb5).cell u0;have y1:w5.cell? ⟨be,oe+k*20+1,none⟩=some (.int .i64 (p:Int)):=(AX.mk _ hb5).cell u1;clear ho5 hb5 HBY u0 u1 u2 u3 u4 u5 u6 u7 u8 u9 u10 u11 u12 u13 u14 u15 u16 u17 u18 u19 hMI;go_wp2_with fail;refine HSB.out.mono ?_;rintro r w6 ⟨rfl,rfl⟩;go_wp2_with fail;go_roundw
       case rel=>exact ⟨k+1,zD,by rw[HTK.out];go_num,zV,HBw.out⟩
       case measure=>(simp[intOf];try omega)
     ·obtain rfl:k=lm.length:=by omega
      have d1:decide ((lm.length:Int)+1<(lm.length:Int)+1)=false:=Ae zD;rw[DX];obtain⟨be,oe,hA,hbe,cs0,_,hX,hE0⟩:=Kg (lift HE2.out hb) (i:=lm.length) zB0;have hgk:(PE++[Ev.x x])[lm.length]'zB0=Ev.x x:=by
       rw[List.getElem_append_right (by rw[hpl];exact An _)];simp
      rw[hgk] at hE0;obtain⟨a1,c1,a2,c2,a3,c3,a4,c4,a5,c5,rfl,xl⟩:=Lr hE0;subst hA;have hX':wr.rangeAt be (oe+lm.length*20) (DF (Ev.x x) a1 c1 a2 c2 a3 c3 a4 c4 a5 c5):=hX;have i0':(0:Int)≤(lm.length:Int):=zD;have i1:(lm.length:Int)<(lm.length:Int)+1:=zD;have HHY:=HIT.out;clear xl hX hE0;generalize hy:Ev.x x=y at*;have k1:y.kind≠1:=by rw[←hy];exact HHY.item
      have k2:((B9 lm).length:Int)≤y.at_:=by rw[←hy];exact HHY.at_
      have k3:y.kind=2→(B9 lm).length=B.length:=by rw[←hy];exact HHY.fin
      have k4:y.kind=3→(B9 lm).length≠B.length∧y.at_=B.length:=by rw[←hy];exact HHY.cut
      generalize (B9 lm).length=p at*;have HBw:=hid (Af hb HB2.out);have HK1:=hid k1;have HK2:=hid k2;have HK3:=hid k3;have HK4:=hid k4;have ONX:=hid (show (DF y a1 c1 a2 c2 a3 c3 a4 c4 a5 c5).toArray.all (·.oneCell')=true from Array.all_eq_true_iff_forall_mem.2 fun u hu=>Nj u (by simpa using hu));have hinf:(Tryz.prog.info? 50).map (·.size)=some 20:=zI;have HINF:=hid hinf;clear hgk hb hbe HE2 k1 k2 k3 k4 hy HHY hinf;go_upto_region 14 with (fail);go_cut [9] from 85 to 90 (fun s9 V=>∃g:Nat,s9=.pointer (some ⟨g,0,none⟩)∧V.cell? ⟨g,0,none⟩=some (.int .i64 y.kind)∧V.cell? ⟨g,1,none⟩=some (.int .i64 y.at_)∧Hid (Below w.heap.size w V))
      case first=>
       as_aux_lemma=>
        have hz:Blk (wr.alloc (.cells Acv 50)) wr.heap.size 50 Acv:=Blk.new _ _ _;have hbz:Below w.heap.size w (wr.alloc (.cells Acv 50)):=HBw.out.alloc HBw.out.size _;have hbr:=WW (ds:=(DF y a1 c1 a2 c2 a3 c3 a4 c4 a5 c5).toArray) hbz hbz.size HBw.out.size;have hB:Blk ((wr.alloc (.cells Acv 50)).setRow wr.heap.size (DF y a1 c1 a2 c2 a3 c3 a4 c4 a5 c5).toArray) wr.heap.size 50 (DF y a1 c1 a2 c2 a3 c3 a4 c4 a5 c5).toArray:=Blk.row _ hz;obtain⟨q0,q1⟩:World.cell? _ ⟨wr.heap.size,0,none⟩=some (.int .i64 y.kind)∧World.cell? _ ⟨wr.heap.size,1,none⟩=some (.int .i64 y.at_):=⟨hB.cell 0,hB.cell 1⟩;have HZ:=hid hz;have HBR:=hid hbr;have HQ0:=hid q0;have HQ1:=hid q1;clear hz hbz hbr hB q0 q1;go_wp2_with (first | (refine wpList_load_mid rfl 50 _ rfl be (oe+lm.length*20) rfl _ _ hX' Tryz.underlying50 rfl HINF.out ?_) | (refine wpList_store_row rfl 50 _ _ rfl wr.heap.size (DF y a1 c1 a2 c2 a3 c3 a4 c4 a5 c5).toArray rfl rfl 50 #[.int .i64 0,.int .i64 0,.int .i64 0,.int .i64 0,.int .u64 0,.int .u64 0,.int .u64 0,.int .i64 0,.int .i64 0,.slice none 0 0,.slice none 0 0,.slice none 0 0,.int .u64 0,.int .u64 0,.int .u64 0,.int .u64 0,.slice none 0 0,.int .u64 0,.int .u64 0,.slice none 0 0] HZ.out HINF.out rfl ONX.out ?_;generalize hW:(World.setRow (wr.alloc (.cells Acv 50)) wr.heap.size (DF y a1 c1 a2 c2 a3 c3 a4 c4 a5 c5).toArray)=w5 at*))
        go_meet
        case rel=>exact ⟨_,rfl,HQ0.out,HQ1.out,HBR⟩
      case rest=>
       obtain⟨g9,rfl,q0,q1,HBE⟩:=hcut;have a1':(y.kind==(1:Int))=false:=by rw[BW];exact HK1.out
       have a2':decide (y.at_<(p:Int))=false:=Ae (by have:=HK2.out;omega);clear HBw hX';generalize hWc:wc=w5 at*;go_upto_region 15 with (fail);go_cut [128] from 91 to 128 (fun s128 V=>s128=.bool false∧Hid (Below w.heap.size w V))
       case first=>
        as_aux_lemma=>
         by_cases e2:y.kind=2
         ·have b1:(y.kind==(2:Int))=true:=by rw[e2];rfl
          have b2:(y.kind==(3:Int))=false:=by rw[e2];rfl
          have b3:((p:Int) !=(B.length:Int))=false:=by rw[HK3.out e2];simp
          clear e2;go_wp2_with fail;go_meet
          case rel=>exact ⟨rfl,HBE⟩
         ·by_cases e3:y.kind=3
          ·have b1:(y.kind==(2:Int))=false:=by rw[e3];rfl
           have b2:(y.kind==(3:Int))=true:=by rw[e3];rfl
           have b3:((p:Int)==(B.length:Int))=false:=by rw[BW];have:=(HK4.out e3).1;omega
           have b4:(y.at_ !=(B.length:Int))=false:=by rw[(HK4.out e3).2];simp
           clear e2 e3;go_wp2_with fail;go_meet
           case rel=>exact ⟨rfl,HBE⟩
          ·have b1:(y.kind==(2:Int))=false:=by rw[BW];exact e2
           have b2:(y.kind==(3:Int))=false:=by rw[BW];exact e3
           clear e2 e3;go_wp2_with fail;go_meet
           case rel=>exact ⟨rfl,HBE⟩
       case rest=>
        ·
         obtain⟨rfl,HBc⟩:=hcut;clear HK1 HK2 HK3 HK4 HIT HGET HB5 q0 q1 a1' a2' HBE ONX HINF;generalize hWc:wc=wC at*;cases hR:UY l
         ·have hab:Fs l=([],3):=by unfold Fs;rw[hR];rfl
          rw[hab] at HRA;clear hR hab hnum hsh;go_wp2_with fail;refine (HRA.out _ HBc.out).mono ?_;rintro r w6 ⟨v6,rfl,hr6,hb6⟩;have HB6:=hid (Af hb6 HBc.out);go_wp2_with fail;refine (HLV.out _).mono ?_;rintro r w7 ⟨rfl,hb7⟩;have HBE:=hid (Af hb7 HB6.out);go_wp2_with fail;go_ret;exact⟨rfl,HBE.out⟩
         ·have hab:Fs l=(B9 l,0):=by unfold Fs;rw[hR];rfl
          rw[hab] at HRA;have hrp:∀m∈l,M8 m∧DJ m=true∧inU m.seq:=fun m hm=>⟨(hnum m hm).1,(List.all_eq_true.1 hR) m hm,(hnum m hm).2⟩;have hpa:=XM hrp;have hal:(B9 l).length≤l.length*49335:=WY fun m hm=>⟨(hrp m hm).2.1,(hsh m hm).data⟩;have hda:(O5 (B9 l)).map Ev.x=(Eg 0 l).map Ev.x++[Ev.x ⟨2,(B9 l).length,0,El⟩]:=by rw[hpa,BX];rfl
          have HPA:=hid (fun (V:World) (aJ:Option Addr) (nJ cJ:Nat) (h:Ah.r (·<V.heap.size) V [.slice aJ nJ cJ] (B9 l))=>LK V (B9 l) aJ nJ cJ h zD);rw[hda] at HPA;have hpl2:((Eg 0 l).map Ev.x).length=l.length:=by rw[EP,Kz]
          have hget2:∀(k:Nat) (hk:k<l.length),((Eg 0 l).map Ev.x)[k]? =some (Ev.x (DV (0+(B9 (l.take k)).length) l[k])):=fun k hk=>by
           rw[Ee,KA l 0 k hk];rfl
          have HG2:=hid hget2;obtain⟨y2,hy2⟩:∃y2,y2=Ev.x ⟨2,(B9 l).length,0,El⟩:=⟨_,rfl⟩;have hy2k:y2.kind=2:=by rw[hy2];rfl
          rw[←hy2] at HPA;generalize hpe:(Eg 0 l).map Ev.x=PF at*;clear hR hab hnum hrp hpa hal hda hget2 hpe hy2;dsimp only at HRA;generalize B9 l=BL at*;go_wp2_with fail;refine (HRA.out _ HBc.out).mono ?_;rintro r w6 ⟨v6,rfl,hr6,hb6⟩;obtain⟨a6,c6,hfv,hr6',_⟩:=AN hr6;simp only[As,AM] at hfv;subst hfv;have HB6:=hid (Af hb6 HBc.out);have HR6:=hid (show Ah.r (·<w6.heap.size) w6 [.slice a6 BL.length c6] BL from Ah.mono hr6' fun q e=>e.2);clear hr6 hr6' hb6 HRA HBc;go_wp2_with fail;refine (HPA.out _ _ _ _ HR6.out).mono ?_;rintro r w7 ⟨v7,rfl,hr7,hb7⟩;obtain⟨a7,c7,hfv,hr7',_⟩:=AN hr7;simp only[As,AM] at hfv;subst hfv;have hel2:(PF++[y2]).length=l.length+1:=by rw[Ag,hpl2];rfl
          rw[hel2] at hr7' ⊢;have HF7:=hid (show Kx.r (fun q=>w6.heap.size≤q∧q<w7.heap.size) w7 [.slice a7 (l.length+1) c7] (PF++[y2]) from hr7');have HB7:=hid (Af hb7 HB6.out);have hz67:=hb7.size;clear hr7 hr7' hb7 HPA HR6 HB6;obtain⟨bf,of,hA7,hbf,_,_,_,_,_,_,_,_,_,_,⟨uk,_⟩,_⟩:=Vx HF7.out (i:=l.length) zBw;have hgk2:(PF++[y2])[l.length]'zBw=y2:=by
           rw[List.getElem_append_right (by rw[hpl2];exact An _)];simp
          rw[hgk2,hy2k] at uk;subst hA7;have i0':(0:Int)≤(l.length:Int):=zD;have i1:(l.length:Int)<(l.length:Int)+1:=zD;have qn:((l.length:Int)+1 !=(l.length:Int)+1)=false:=zN;clear hgk2;go_wp2_with fail;clear uk;go_loopw [13,14] (fun lv iv wr=>∃k:Nat,k≤l.length∧iv=.int .i64 k∧Ba w6.heap.size QF w7.heap.size 45 14 wr lv (l.take k)∧Below w7.heap.size w7 wr) (fun _ iv _=>l.length-(intOf iv).toNat)
          case atStart=>exact ⟨0,Am _,rfl,Ba.nil,Below.refl _ _⟩
          case round=>
           obtain⟨k,hk,rfl,hown,hb⟩:=hrel;obtain⟨cells0,hca⟩:=hown;obtain⟨aJ,cJ,rfl⟩:=AD hca.1;have hlt0:∀g',(Value.slice aJ (l.take k).length cJ).ownBlock=some g'→w7.heap.size≤g'∧g'<wr.heap.size:=fun g' e=>BI hca.1 g' e;have HO:=hid (show Ba w6.heap.size QF w7.heap.size 45 14 wr (.slice aJ (l.take k).length cJ) (l.take k) from ⟨cells0,hca⟩);have htl:(l.take k).length=k:=Z4;have hwr:=hb.size;have HB:=hid hb;clear hca;rw[htl] at HO hlt0 ⊢;by_cases hlt:k<l.length
           ·have d1:decide ((k:Int)<(l.length:Int))=true:=Ad zD
            have hFw:Kx.r (fun q=>w6.heap.size≤q∧q<w7.heap.size) wr [.slice (some ⟨bf,of,none⟩) (l.length+1) c7] (PF++[y2]):=Kx.keep HF7.out fun q e=>hb.block q e.2;obtain⟨be2,oe2,hA2,hbe2,cs0,_,hX,hE0⟩:=Kg hFw (i:=k) zBw;have hgk:(PF++[y2])[k]'zBw=Ev.x (DV (B9 (l.take k)).length l[k]):=by
             have h1:=HG2.out k hlt;have h2:(PF++[y2])[k]? =PF[k]? :=A5 (by rw[hpl2];exact hlt);rw[AJ zBw,h1,A1] at h2;exact A7 h2
            rw[hgk] at hE0;obtain⟨a1,c1,a2,c2,a3,c3,a4,c4,a5,c5,rfl,xl⟩:=Lr hE0;have hMI:A9 (fun q=>w6.heap.size≤q∧q<w7.heap.size) wr l[k] a1 c1 a2 c2 a3 c3 a4 c4:=xl.msg;simp only[Bd,CZ,AM] at hA2;obtain⟨rfl,rfl⟩:=hA2;have hM3:World.rangeAt wr _ _ (Ep l[k] a1 c1 a2 c2 a3 c3 a4 c4):=AbI (x:=Ev.x (DV (B9 (l.take k)).length l[k])) hX;have HM3:=hid hM3;have H14:=hid (show (Tryz.prog.info? 45).map (·.size)=some 14 by kernel_rfl);clear hX hE0 hM3;have i0k:(0:Int)≤(k:Int):=zD;have i1k:(k:Int)<(l.length:Int)+1:=zD;have htk:l.take (k+1)=l.take k++[l[k]]:=(List.take_append_getElem hlt).symm;generalize hmk:l[k]=mk at*;have hb4:Below wr.heap.size wr (wr.alloc (.cells Acz 45)):=zA;obtain⟨cells3,hc3⟩:=HO.out.below hb4;have hx4:QF.r (fun q=>w6.heap.size≤q∧q<(wr.alloc (.cells #[.int .i64 mk.kind,.int .u64 mk.epoch,.int .u64 mk.seq,.int .u64 mk.pos,.int .i64 mk.count,.int .i64 mk.state,.slice a1 mk.streams.length c1,.slice a2 mk.links.length c2,.slice a3 mk.data.length c3,.int .u64 mk.sea.epoch,.int .u64 mk.sea.node,.int .u64 mk.sea.tail,.int .u64 mk.proj.epoch,.slice a4 mk.proj.stripes.length c4] 45)).heap.size∧(Value.slice aJ k cJ).ownBlock≠some q) (wr.alloc (.cells Acz 45)) (Ep mk a1 c1 a2 c2 a3 c3 a4 c4) mk:=
             QF.mono (Yl (A9.EM (S':=fun q=>w6.heap.size≤q∧q<w7.heap.size) hMI (fun q hq=>hb4.block q ZP) (fun q hq=>hq))) fun q hq=>⟨hq.1,by have:=hq.2;simp;omega,fun e=>by have:=(hlt0 q e).1;have:=hq.2;omega⟩
            have HX:=hid hx4;have HC3:=hid hc3;have HTK:=hid htk;have HLO:=hid hlt0;clear hx4 hc3 hlt0 hb4 xl hgk hFw hbe2 hMI htk hmk hb;unfold Ep at HX;have hc1:=HC3.out.1;rw[htl] at hc1;have HC1:=hid hc1;clear hc1;go_upto_region 26 with (first | (refine wpList_load_mid rfl 45 _ rfl _ _ rfl (Ep mk a1 c1 a2 c2 a3 c3 a4 c4) _ HM3.out Tryz.underlying45 rfl H14.out ?_;unfold Ep;(try simp only[Act.put,Aa,Ab,Ac])) | (at_builtin;go_loud (refine Ar rfl _ _ _ rfl w7.heap.size 45 i0 (.agg Acs) 14 176 Tryz.underlying32 hi hz0 hz1 hz2 rfl zO (.slice aJ k cJ) k cells3.flatten rfl HC1.out (some ⟨wr.heap.size,0,none⟩) 1 1 [.int .i64 mk.kind,.int .u64 mk.epoch,.int .u64 mk.seq,.int .u64 mk.pos,.int .i64 mk.count,.int .i64 mk.state,.slice a1 mk.streams.length c1,.slice a2 mk.links.length c2,.slice a3 mk.data.length c3,.int .u64 mk.sea.epoch,.int .u64 mk.sea.node,.int .u64 mk.sea.tail,.int .u64 mk.proj.epoch,.slice a4 mk.proj.stripes.length c4] rfl (By wr 45 _ rfl rfl rfl) Yk zK zD zH ?_;intro v5 w5 hown5 hgrow5 hat5;have HO5:=hid (Ba.push HC3.out rfl HX.out (by rw[htl];exact hown5) hgrow5 hat5 hgrow5.size);have HB5:=hid (Below.grown (HB.out.alloc HB.out.size (.cells Acz 45)) hgrow5 zH (fun g e=>(HLO.out g e).1));clear hown5 hgrow5 hat5)));go_wp2_with fail;go_roundw
            case rel=>exact ⟨k+1,zD,zV,by rw[HTK.out];exact HO5.out,HB5.out⟩
            case measure=>(simp[intOf];try omega)
           ·obtain rfl:k=l.length:=by omega
            have d1:decide ((l.length:Int)<(l.length:Int))=false:=Ae zD;rw[DX] at HO;have hrm:Jz.r (·<wr.heap.size) wr [.slice aJ l.length cJ] l:=Jz.mono (Ba.slice zD HO.out) fun q e=>e.2;have HSM:=hid (Tx l aJ am _ cJ _ cm wr hrm (lift HMS.out (Af hb HB7.out)));have HBB:=hid (Af hb HB7.out);clear hrm hlt0 HO hb;go_wp2_with fail;refine HSM.out.mono ?_;rintro r w8 ⟨rfl,hb8⟩;have HB8:=hid (Af hb8 HBB.out);clear hb8;go_wp2_with fail;refine (HLV.out _).mono ?_;rintro r w9 ⟨rfl,hb9⟩;have HBE:=hid (Af hb9 HB8.out);clear hb9;go_wp2_with fail;go_ret;exact⟨rfl,HBE.out⟩
   ·go_wp2_with fail
    refine (HLV.out _).mono ?_;rintro r w9 ⟨rfl,hb9⟩;have HBE:=hid (Af hb9 HB0.out);go_wp2_with fail;go_ret;exact⟨rfl,HBE.out⟩
  ·rw[hmn] at HMN
   clear hl hm hmn;go_enter Tryz.func4,Tryz.ntmps4;go_wp2_with fail;refine HHV.out.mono ?_;rintro r w0 ⟨q0,rfl,hb0⟩;have HB0:=hid hb0;clear hb0 HHV;cases q0
   ·go_wp2_with fail
    refine (HMN.out _ HB0.out).mono ?_;rintro r w1 ⟨rfl,hb1⟩;have HB1:=hid (Af hb1 HB0.out);go_wp2_with fail;refine (HLV.out _).mono ?_;rintro r w9 ⟨rfl,hb9⟩;have HBE:=hid (Af hb9 HB1.out);go_wp2_with fail;go_ret;exact⟨rfl,HBE.out⟩
   ·go_wp2_with fail
    refine (HLV.out _).mono ?_;rintro r w9 ⟨rfl,hb9⟩;have HBE:=hid (Af hb9 HB0.out);go_wp2_with fail;go_ret;exact⟨rfl,HBE.out⟩
 ·have d0:decide ((600:Int)<(B.length:Int))=true:=Ad zD
  clear h600 hl hm;go_enter Tryz.func4,Tryz.ntmps4;go_wp2_with fail;refine (HLV.out _).mono ?_;rintro r w1 ⟨rfl,hb1⟩;go_wp2_with fail;go_ret;exact⟨rfl,hb1⟩
theorem pushItems_walk{H:Type}(enc:TypeId × Value→H)(W:World)(base:Nat)(v0 v1:Value)(d0 d1:DataW H)(p0 p1:List MemPlace)
 (k0:DataW.Trod enc Tryz.prog W 0 (fun _=>true) true 22 v0 d0 p0) (k1:DataW.Trod enc Tryz.prog W 0 (fun _=>true) true 32 v1 d1 p1)
 (o0:Value.okWide Tryz.prog W .any base 22 v0) (o1:Value.okWide Tryz.prog W .any base 32 v1):
  Calls Tryz.prog 4 #[v0,v1] W fun e w'=>e=.returned (.bool true)∧Below W.heap.size W w':=by
 obtain⟨l,am,nm,cm,rfl,hm⟩:=Yi enc W base v1 d1 p1 k1 o1;obtain⟨f0,hf0⟩:=k0;obtain⟨a,len,cap,rfl⟩:=Go.WideShapes.okWide_slice Au o0;obtain⟨b,hb⟩:=Vk enc W f0 _ _ hf0;exact RX b l a am len cap nm cm W hb hm
end Go.Proofs.YtfddhafbhceoaaaGreat
