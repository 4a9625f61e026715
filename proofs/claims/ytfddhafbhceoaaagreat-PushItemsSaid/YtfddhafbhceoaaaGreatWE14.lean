/- Mini: Needed by pushItems_walk, part 14: texts put together by shake.py; no condition. -/
import Derived.Test.YtfddhafbhceoaaaGreatWE9
import Derived.Test.YtfddhafbhceoaaaGreatWE7
import Derived.Test.YtfddhafbhceoaaaGreatWE3
import Derived.Test.YtfddhafbhceoaaaGreatWE13
import Derived.Test.YtfddhafbhceoaaaGreatWE12
import Derived.Test.YtfddhafbhceoaaaGreatWE11
import Derived.Deep.CutRange
import Derived.Test.YtfddhafbhceoaaaGreatWE8
import Derived.Test.YtfddhafbhceoaaaGreatWE6
import Derived.Test.YtfddhafbhceoaaaGreatWE5
import Derived.Test.YtfddhafbhceoaaaGreatWE1
import Derived.Test.YtfddhafbhceoaaaGreatWE10
import Derived.Test.YtfddhafbhceoaaaGreatWE2
import Derived.Test.YtfddhafbhceoaaaGreatWE4
import Derived.Deep.Cut
set_option linter.unusedVariables false
set_option linter.unusedSimpArgs false
set_option maxRecDepth 100000
set_option maxHeartbeats 6400000
namespace Go.Bs
theorem zCc{p:Prop}(h:p:=by rw [Ag]; rfl):p:=h
theorem zBg{p:Prop}(h:p:=by have h := HO3.out; exact h):p:=h
theorem zBf{p:Prop}(h:p:=by have := GL List.length hJ.out; simp only [Ag] at this; omega):p:=h
theorem ZX{p:Prop}(h:p:=by have h := ED (o := 0) (s := 1) (o' := 1) rfl r0 (ED (o := 1) (s := 1) (o' := 2) rfl r1 (Wo (s := 1) hl2 r2)); rw [CO] at h; exact h):p:=h
theorem ZR{p:Prop}(h:p:=by simp [results, Tryz.results115, go_sem, n0, n1, n2, n3, n4, n5, n6, n7, n8, n9, n10, n11, n12, n13, p0, p1]):p:=h
end Go.Bs
namespace Go.Proofs.YtfddhafbhceoaaaGreat
open Go.RowKit Go.Bs Go.Maps
variable{k:Int}{B D:List UInt8}{cs xs:List Value}{m:Msg}{base c1 c2 c3 c4 g lo n sz:Nat}{S:Nat → Prop}{a1 a2 a3 a4:Option Addr}{e t:TypeId}{v v0 v1 v2 v3 v4:Value}{W w:World}
theorem On{m:Int}:(Lm ((⟨0,0,0⟩:Rs).frame B m)).2.1≤B.length∧(Lm ((⟨0,0,0⟩:Rs).frame B m)).1.length≤2097152:=by
 have h0:(⟨0,0,0⟩:Rs).ok B.length:=⟨Am _,fun _=>rfl⟩;have h1:=Rs.Ir h0 (min m 2097152);have h2:=Rs.IS h1 4;have h3:=Rs.JH (B:=B) (s:=⟨0,0,0⟩) (m:=min m 2097152);have h4:((⟨0,0,0⟩:Rs).D5 B (min m 2097152)).2.length≤2097152:=by
  unfold Rs.D5;have:=Rs.take_len (B:=B) (s:=((⟨0,0,0⟩:Rs).int B (min m 2097152)).1) (n:=(((⟨0,0,0⟩:Rs).int B (min m 2097152)).2:Int));omega
 have h5:((⟨0,0,0⟩:Rs).frame B m).1.ok B.length:=by
  unfold Rs.frame;dsimp only;split
  ·exact h2
  ·exact Rs.Co h2 zD
 have h6:((⟨0,0,0⟩:Rs).frame B m).2.length≤2097152:=by
  unfold Rs.frame;dsimp only;generalize (if CQ (Rs.D5 B ⟨0,0,0⟩ (min m 2097152)).2=_ then _ else _:Rs)=r;by_cases hr:r.k=0
  ·rw[Ai hr];exact h4
  ·rw[Ak hr];simp
 unfold Lm;split
 ·exact⟨h5.le,h6⟩
 ·exact⟨Am _,zN⟩
theorem Lp(w:World)(k f b:Int)(hk:k≠0):Calls Tryz.prog 117 #[.agg #[.int .i64 k,.int .i64 f],.int .i64 b] w fun r w'=>r=.returned (.agg #[.int .i64 k,.int .i64 (wrap64 (f+b))])∧Below w.heap.size w w':=by
 obtain⟨v,hv⟩:∃v,wrap64 (f+b)=v:=⟨_,rfl⟩;rw[hv];have HV:=hid hv;clear hv;go_enter Tryz.func117,Tryz.ntmps117;go_wp2_with fail;rw[HV.out];refine (Ot _ k v hk).mono ?_;rintro r w1 ⟨rfl,hb1⟩;have B1:Blk w1 (w.heap.size+1) 65 #[.int .i64 0,.int .i64 0]:=Blk.later zC hb1;obtain⟨y0,y1,g0,g1,l1⟩:=B6 B1;have hbw:Below w.heap.size w w1:=zA;clear B1 hb1;go_wp2;refine Al (v:=.agg #[.int .i64 k,.int .i64 v]) (by simp[results,Tryz.results117,go_sem,y0,y1,g0,g1,l1]) rfl ⟨rfl,zA⟩
def KH(B:List UInt8)(blk:List UInt8→Rs→Rs × List UInt8 × Bool)(fl:Rs→Bool→Bool):Msg × Bool × Nat × Int × Int:=
 let g:=Lm ((⟨0,0,0⟩:Rs).frame B 2097152)
 if g.2.2.1=0 then
  let t:=ET g.1 (blk g.1) fl
  if t.2.2.1=0 then (t.1,t.2.1,g.2.1,0,0) else (El,false,0,t.2.2.1,wrap64 (t.2.2.2+((g.2.1:Int)-4-(g.1.length:Int))))
 else (El,false,0,g.2.2.1,g.2.2.2)
structure S6(w W:World):Prop where
 mb:Blk W w.heap.size 45 zeroCells
 fb:Blk W (w.heap.size+1) 65 #[.int .i64 0,.int .i64 0]
 bl:Below w.heap.size w W
section
variable {w W W':World}
theorem S6.row(h:S6 w W)(hb:Below W.heap.size W W'):S6 w W':=
 ⟨h.mb.later hb,h.fb.later hb,h.bl.trans (hb.mono h.bl.size)⟩
theorem S6.tch(h:S6 w W)(hg:w.heap.size+1<g)(hb:Tch (·=g) W W'):S6 w W':=
 ⟨h.mb.tch hb zD,h.fb.tch hb zD,h.bl.trans (hb.Cw h.bl.size fun b hb e=>zD)⟩
end
theorem Aas(w:World)(B:List UInt8)(a:Option Addr)(c0 c:Nat)(hl:Ah.r (·<w.heap.size) w [.slice a c0 c] B)(hB:B.length≤1000000000)(fn:Nat)(blk:List UInt8→Rs→Rs × List UInt8 × Bool)(fl:Rs→Bool→Bool)(hR:∀P:List UInt8,P.length≤1000000000→AbR P fn (blk P) fl){x:Msg}{qx:Bool}{nx:Nat}{kx fx:Int}(hZ:KH B blk fl=(x,qx,nx,kx,fx)):
  Calls Tryz.prog 115 #[.slice a c0 c,.func (Fn.func fn) #[] #[]] w fun r w'=>∃a1 a1' a2 a2' a3 a3' a4 a4',r=.returned (.tuple #[.agg #[.int .i64 x.kind,.int .u64 x.epoch,.int .u64 x.seq,.int .u64 x.pos,.int .i64 x.count,.int .i64 x.state,.slice a1 x.streams.length a1',.slice a2 x.links.length a2',.slice a3 x.data.length a3',.int .u64 x.sea.epoch,.int .u64 x.sea.node,.int .u64 x.sea.tail,.int .u64 x.proj.epoch,.slice a4 x.proj.stripes.length a4'],.bool qx,.int .i64 (nx:Int),.agg #[.int .i64 kx,.int .i64 fx]])∧A9 (fun q=>w.heap.size≤q∧q<w'.heap.size) w' x a1 a1' a2 a2' a3 a3' a4 a4'∧Below w.heap.size w w':=by
 obtain⟨rfl,hmx,hcc,hcm⟩:=AT hl;have hFG:=Wy ((w.alloc (.cells Acs 45)).alloc (.cells #[.int .i64 0,.int .i64 0] 65)) B a _ c (lift hl zA) hB 2097152 ⟨zO,zO⟩;unfold KH at hZ;obtain⟨hG1,hG2⟩:=On (B:=B) (m:=2097152);generalize Lm ((⟨0,0,0⟩:Rs).frame B 2097152)=G at*;obtain⟨D,n,k1,f1⟩:=G;dsimp only at hFG hZ hG1 hG2;have HFG:=hid hFG;have HGD:=hid (fun (W:World)=>CX W k1 f1);have hz00:w.heap.size<(((w.alloc (.cells Acs 45)).alloc (.cells #[.int .i64 0,.int .i64 0] 65))).heap.size:=zH;clear hFG hl;go_enter Tryz.func115,Tryz.ntmps115;go_wp2_with fail;refine HFG.out.mono ?_;rintro r w1 ⟨v,rfl,hr,hb1⟩;obtain⟨aD,cD,hv,hr2,_⟩:=AN hr;simp only[As,AM] at hv;subst hv;have I1:S6 w w1:=⟨Blk.later zC hb1,Blk.later zC hb1,zA⟩;have hlow1:w.heap.size+1<w1.heap.size:=I1.fb.lt;have hr3:=Ah.mono hr2 (S':=(·<w1.heap.size)) (fun q hq=>hq.2);have F2:Blk (w1.alloc (.cells #[.int .i64 k1,.int .i64 f1] 65)) w1.heap.size 65 #[.int .i64 k1,.int .i64 f1]:=Blk.newAt _ _ _ rfl;have hb2:Below w1.heap.size w1 (w1.alloc (.cells #[.int .i64 k1,.int .i64 f1] 65)):=zA;have HI2:=hid (I1.row hb2);have HD2:=hid (lift hr3 hb2);have l2:w1.heap.size<((w1.alloc (.cells #[.int .i64 k1,.int .i64 f1] 65))).heap.size:=zN;have HF2:=hid F2;obtain⟨f0,f1',f2,f3,f4⟩:=B6 F2;clear hr hr2 hr3 hb1 hb2 I1 F2;go_wp2_with fail;generalize (w1.alloc (.cells #[.int .i64 k1,.int .i64 f1] 65))=w2 at*;by_cases hk1:k1=0
 ·rw[Ai hk1] at hZ
  rw[Ad hk1] at HGD;generalize hT:ET D (blk D) fl=T at*;obtain⟨m,q,k2,f2x⟩:=T;dsimp only at hZ;have HZ:=hid hZ;have HC:=hid (fun (W:World) (h:Ah.r (·<W.heap.size) W [.slice aD D.length cD] D)=>XB W D aD _ cD h zD fn (blk D) fl (hR D zD) hT);have HG2:=hid (fun (W:World)=>CX W k2 f2x);clear hk1 hZ hT hR;refine (HGD.out _).mono ?_;rintro r w3 ⟨rfl,hb3⟩;have HI3:=hid (HI2.out.row hb3);have HD3:=hid (lift HD2.out hb3);have HF3:=hid (HF2.out.later hb3);have l3:=Aj l2 hb3.size;clear hb3 HI2 HD2 HF2 f0 f1' f2 f3 f4;go_wp2_with fail;refine (HC.out _ HD3.out).mono ?_;rintro r w4 ⟨a1,a1',a2,a2',a3,a3',a4,a4',rfl,hm4,hb4⟩;have HI4:=hid (HI3.out.row hb4);have HF4:=hid (HF3.out.later hb4);have l4:=Aj l3 hb4.size;have X4:=hid (A9.EM hm4 (fun q hq=>rfl) (fun q hq=>(⟨zD,hq.2⟩:w1.heap.size<q∧q<w4.heap.size)));obtain⟨f0,f1',f2,f3,f4⟩:=B6 HF4.out;clear hm4 hb4 HI3 HF3 HD3;go_upto_region 5 with (fail);have hz5:w4.heap.size<((((w4.setCell ⟨w1.heap.size,0,none⟩ (.int .i64 k2)).setCell ⟨w1.heap.size,1,none⟩ (.int .i64 f2x)).alloc (.cells Acr 45))).heap.size:=zN;have F5:Blk (((w4.setCell ⟨w1.heap.size,0,none⟩ (.int .i64 k2)).setCell ⟨w1.heap.size,1,none⟩ (.int .i64 f2x)).alloc (.cells Acr 45)) w1.heap.size 65 #[.int .i64 k2,.int .i64 f2x]:=by
   have:=(HF4.out.set 0 (.int .i64 k2)).set 1 (.int .i64 f2x);simp only[Aa,Ab,Ac] at this;exact this.alloc _
  have ht4:Tch (·=w1.heap.size) w4 ((w4.setCell ⟨w1.heap.size,0,none⟩ (.int .i64 k2)).setCell ⟨w1.heap.size,1,none⟩ (.int .i64 f2x)):=by
   refine Tch.setCell (F:=(·=w1.heap.size)) (p:=⟨w1.heap.size,1,none⟩) ?_ (fun _=>rfl) _;refine Tch.setCell (F:=(·=w1.heap.size)) (p:=⟨w1.heap.size,0,none⟩) ?_ (fun _=>rfl) _;exact Tch.refl _ _
  have hszs:((w4.setCell ⟨w1.heap.size,0,none⟩ (.int .i64 k2)).setCell ⟨w1.heap.size,1,none⟩ (.int .i64 f2x)).heap.size=w4.heap.size:=zN;have E5:Blk (((w4.setCell ⟨w1.heap.size,0,none⟩ (.int .i64 k2)).setCell ⟨w1.heap.size,1,none⟩ (.int .i64 f2x)).alloc (.cells Acr 45)) w4.heap.size 45 Acr:=by
   have:=Blk.newAt ((w4.setCell ⟨w1.heap.size,0,none⟩ (.int .i64 k2)).setCell ⟨w1.heap.size,1,none⟩ (.int .i64 f2x)) 45 Acr rfl;rw[hszs] at this;exact this
  have hb5:Below ((w4.setCell ⟨w1.heap.size,0,none⟩ (.int .i64 k2)).setCell ⟨w1.heap.size,1,none⟩ (.int .i64 f2x)).heap.size ((w4.setCell ⟨w1.heap.size,0,none⟩ (.int .i64 k2)).setCell ⟨w1.heap.size,1,none⟩ (.int .i64 f2x)) (((w4.setCell ⟨w1.heap.size,0,none⟩ (.int .i64 k2)).setCell ⟨w1.heap.size,1,none⟩ (.int .i64 f2x)).alloc (.cells Acr 45)):=(Below.refl _ _).alloc (An _) _;have HI5:=hid ((HI4.out.tch hlow1 ht4).row hb5);have X5:=hid (A9.EM X4.out (fun q hq=>(hb5.block q (by rw[hszs];exact hq.2)).trans (ht4.block q hq.2 zD)) (fun q hq=>hq));clear HI4 X4 HF4 ht4 hb5 hszs f0 f1' f2 f3 f4;generalize (((w4.setCell ⟨w1.heap.size,0,none⟩ (.int .i64 k2)).setCell ⟨w1.heap.size,1,none⟩ (.int .i64 f2x)).alloc (.cells Acr 45))=w5 at*;obtain⟨f0,f1',f2,f3,f4⟩:=B6 F5;have HF5:=hid F5;have HE5:=hid E5;clear F5 E5;go_wp2_with fail;by_cases hk2:k2=0
  ·have hz:=HZ.out
   rw[Ai hk2] at hz;rw[Ad hk2] at HG2;simp only[CR] at hz;obtain⟨rfl,rfl,rfl,rfl,rfl⟩:=hz;clear hk2 HZ;refine (HG2.out _).mono ?_;rintro r w6 ⟨rfl,hb6⟩;have HI6:=hid (HI5.out.row hb6);have hE6:=HE5.out.later hb6;have l6:=Aj hz5 hb6.size;have X6:=hid (A9.EM X5.out (fun q hq=>hb6.block q zD) (fun q hq=>hq));have hM:=HI6.out.mb;have hF:=HI6.out.fb;have hbl:=HI6.out.bl;obtain⟨y0,y1,y2,y3,y4,y5,y6,y7,y8,y9,y10,y11,y12,y13,ly⟩:=Cz hE6;obtain⟨r0,r1,r2,r3,r4,r5,r6,r7,r8,r9,r10,r11,r12,r13,lr⟩:=Cz hM;obtain⟨g0,g1,g2,g3,g4,g5,g6,g7,g8,g9,g10,g11,g12,g13⟩:=Gm hM;clear f0 f1' f2 f3 f4;obtain⟨f0,f1',f2,f3,f4⟩:=B6 hF;clear hb6 HI5 X5 HE5 HF5;go_wp2_with fail;have hput:=I3 (k:=.int .i64 0) (f:=.int .i64 0) (v0:=.int .i64 m.kind) (v1:=.int .u64 m.epoch) (v2:=.int .u64 m.seq) (v3:=.int .u64 m.pos) (v4:=.int .i64 m.count) (v5:=.int .i64 m.state) (v6:=.slice a1 m.streams.length a1') (v7:=.slice a2 m.links.length a2') (v8:=.slice a3 m.data.length a3') (v9:=.int .u64 m.sea.epoch) (v10:=.int .u64 m.sea.node) (v11:=.int .u64 m.sea.tail) (v12:=.int .u64 m.proj.epoch) (v13:=.slice a4 m.proj.stripes.length a4') hM hF zD;refine Di (fun W=>Blk W w.heap.size 45 #[.int .i64 m.kind,.int .u64 m.epoch,.int .u64 m.seq,.int .u64 m.pos,.int .i64 m.count,.int .i64 m.state,.slice a1 m.streams.length a1',.slice a2 m.links.length a2',.slice a3 m.data.length a3',.int .u64 m.sea.epoch,.int .u64 m.sea.node,.int .u64 m.sea.tail,.int .u64 m.proj.epoch,.slice a4 m.proj.stripes.length a4']∧Blk W (w.heap.size+1) 65 #[.int .i64 0,.int .i64 0]∧Tch (fun b=>b=w.heap.size∨b=w.heap.size+1) w6 W) hput ?_;intro W5 ⟨q5,p5,ht5⟩;obtain⟨n0,n1,n2,n3,n4,n5,n6,n7,n8,n9,n10,n11,n12,n13,ln⟩:=Cz q5;obtain⟨p0,p1,p2,p3,p4⟩:=B6 p5;have hz5:=ht5.size;refine Al (v:=.tuple #[.agg Acr,.bool q,.int .i64 (n:Int),.agg #[.int .i64 0,.int .i64 0]]) ZR rfl ⟨a1,a1',a2,a2',a3,a3',a4,a4',rfl,A9.EM X6.out (fun q hq=>ht5.block q zD zD) (fun q hq=>⟨zD,zD⟩),hbl.trans (ht5.Cw hbl.size fun b hb e=>zD)⟩
  ·have hz:=HZ.out
   rw[Ak hk2] at hz;rw[Ae hk2] at HG2;simp only[CR] at hz;obtain⟨rfl,rfl,rfl,rfl,hfx⟩:=hz;have HS:=hid (fun (W:World)=>Lp W k2 f2x ((n:Int)-4-(D.length:Int)) hk2);rw[hfx] at HS;have n1:(n:Int)≤1000000000:=zD;have n2:(D.length:Int)≤2097152:=zD;clear hk2 HZ hfx;refine (HG2.out _).mono ?_;rintro r w6 ⟨rfl,hb6⟩;have HI6:=hid (HI5.out.row hb6);have hF6:=HF5.out.later hb6;clear f0 f1' f2 f3 f4;obtain⟨f0,f1',f2,f3,f4⟩:=B6 hF6;clear hb6 HI5 X5 HE5 HF5;go_wp2_with fail;refine (HS.out _).mono ?_;rintro r w7 ⟨rfl,hb7⟩;have HI7:=hid (HI6.out.row hb7);have hM:=HI7.out.mb;have hF:=HI7.out.fb;have hbl:=HI7.out.bl;obtain⟨r0,r1,r2,r3,r4,r5,r6,r7,r8,r9,r10,r11,r12,r13,lr⟩:=Cz hM;obtain⟨g0,g1,g2,g3,g4,g5,g6,g7,g8,g9,g10,g11,g12,g13⟩:=Gm hM;clear f0 f1' f2 f3 f4;obtain⟨f0,f1',f2,f3,f4⟩:=B6 hF;clear hb7 HI6;go_wp2_with fail;have hput:=I3 (k:=.int .i64 k2) (f:=.int .i64 fx) (v0:=.int .i64 0) (v1:=.int .u64 0) (v2:=.int .u64 0) (v3:=.int .u64 0) (v4:=.int .i64 0) (v5:=.int .i64 0) (v6:=.slice none 0 0) (v7:=.slice none 0 0) (v8:=.slice none 0 0) (v9:=.int .u64 0) (v10:=.int .u64 0) (v11:=.int .u64 0) (v12:=.int .u64 0) (v13:=.slice none 0 0) hM hF zD;refine Di (fun W=>Blk W w.heap.size 45 #[.int .i64 0,.int .u64 0,.int .u64 0,.int .u64 0,.int .i64 0,.int .i64 0,.slice none 0 0,.slice none 0 0,.slice none 0 0,.int .u64 0,.int .u64 0,.int .u64 0,.int .u64 0,.slice none 0 0]∧Blk W (w.heap.size+1) 65 #[.int .i64 k2,.int .i64 fx]∧Tch (fun b=>b=w.heap.size∨b=w.heap.size+1) w7 W) hput ?_;intro W5 ⟨q5,p5,ht5⟩;obtain⟨n0,n1,n2,n3,n4,n5,n6,n7,n8,n9,n10,n11,n12,n13,ln⟩:=Cz q5;obtain⟨p0,p1,p2,p3,p4⟩:=B6 p5;have hz5:=ht5.size;refine Al (v:=.tuple #[.agg Acs,.bool false,.int .i64 0,.agg #[.int .i64 k2,.int .i64 fx]]) ZR rfl ⟨none,0,none,0,none,0,none,0,rfl,JD,hbl.trans (ht5.Cw hbl.size fun b hb e=>zD)⟩
 ·rw[Ak hk1] at hZ
  rw[Ae hk1] at HGD;simp only[CR] at hZ;obtain⟨rfl,rfl,rfl,rfl,rfl⟩:=hZ;clear hk1 hR;refine (HGD.out _).mono ?_;rintro r w12 ⟨rfl,hb12⟩;have HI12:=hid (HI2.out.row hb12);have hF12:=HF2.out.later hb12;have hF12d:=hF12.drew;have l12:=Aj l2 hb12.size;have hM:=HI12.out.mb.drew;have hF:=HI12.out.fb.drew;have hbl:=HI12.out.bl.drew;have SK:=hid (fun (w':World) (h0:Blk w' w1.heap.size 65 #[.int .i64 k1,.int .i64 f1])=>(⟨h0.cell 0,h0.cell 1⟩:w'.cell? ⟨w1.heap.size,0,none⟩=some (.int .i64 k1)∧w'.cell? ⟨w1.heap.size,1,none⟩=some (.int .i64 f1)));have HS:=hid (SK.out w12 hF12);obtain⟨r0,r1,r2,r3,r4,r5,r6,r7,r8,r9,r10,r11,r12,r13,lr⟩:=Cz hM;obtain⟨g0,g1,g2,g3,g4,g5,g6,g7,g8,g9,g10,g11,g12,g13⟩:=Gm hM;obtain⟨z0,z1,z2,z3,z4⟩:=B6 hF;clear hb12 HI2 f0 f1' f2 f3 f4 HD2 HF2;go_wp2_with fail;refine CJ (S:=fun w'=>w'.cell? ⟨w1.heap.size,0,none⟩=some (.int .i64 k1)∧w'.cell? ⟨w1.heap.size,1,none⟩=some (.int .i64 f1)) zI HS.out (fun hHeld=> ?_);refine Ap (i:=0) (oi:=_) (v:=?_) rfl zE zE zE (fun _ _ _ h=>h) (Or.inl ⟨zS,?_⟩) zL ?_;rotate_left
  ·(intro w hSw;(try dsimp only at hSw);go_simp<;>with_reducible rfl)
  (try simp only[Act.put,Aa,Ab,Ac])
  refine Ap (i:=1) (oi:=_) (v:=?_) rfl zE zE zE (fun _ _ _ h=>h) (Or.inl ⟨zS,?_⟩) zL ?_;rotate_left
  ·(intro w hSw;(try dsimp only at hSw);go_simp<;>with_reducible rfl)
  (try simp only[Act.put,Aa,Ab,Ac])
  generalize w12.drew=wd at*;refine AU (rs:=[2]) zE zN ?_;refine AK (o:=_) rfl (fun K hK=> ?_) AllReadyH.nil;go_simp
  refine hK.out _ _ ?_ (fun hHeld=> ?_)
  ·exact SK.out _ zQ
  clear hK K
  (try simp only[Act.put,Aa,Ab,Ac])
  refine Ap (i:=3) (oi:=_) (v:=?_) rfl zE zE zE (fun _ _ _ h=>h) (Or.inl ⟨zS,?_⟩) zL ?_;rotate_left
  ·(intro w hSw;(try dsimp only at hSw);go_simp<;>with_reducible rfl)
  (try simp only[Act.put,Aa,Ab,Ac])
  refine Ap (i:=4) (oi:=_) (v:=?_) rfl zE zE zE (fun _ _ _ h=>h) (Or.inl ⟨zS,?_⟩) zL ?_;rotate_left
  ·(intro w hSw;(try dsimp only at hSw);go_simp<;>with_reducible rfl)
  (try simp only[Act.put,Aa,Ab,Ac])
  refine AU (rs:=[5]) zE zN ?_;refine AK (o:=_) rfl (fun K hK=> ?_) AllReadyH.nil;go_simp
  refine hK.out _ _ ?_ (fun hHeld=> ?_)
  ·exact SK.out _ zQ
  clear hK K
  (try simp only[Act.put,Aa,Ab,Ac])
  (try simp only[AA,Ay,Aw,Act.put,Aa,Ab,Ac])
  refine CS zI ?_ _;go_wp2_with fail;have hput:=I3 (k:=.int .i64 k1) (f:=.int .i64 f1) (v0:=.int .i64 0) (v1:=.int .u64 0) (v2:=.int .u64 0) (v3:=.int .u64 0) (v4:=.int .i64 0) (v5:=.int .i64 0) (v6:=.slice none 0 0) (v7:=.slice none 0 0) (v8:=.slice none 0 0) (v9:=.int .u64 0) (v10:=.int .u64 0) (v11:=.int .u64 0) (v12:=.int .u64 0) (v13:=.slice none 0 0) hM hF zD;refine Di (fun W=>Blk W w.heap.size 45 #[.int .i64 0,.int .u64 0,.int .u64 0,.int .u64 0,.int .i64 0,.int .i64 0,.slice none 0 0,.slice none 0 0,.slice none 0 0,.int .u64 0,.int .u64 0,.int .u64 0,.int .u64 0,.slice none 0 0]∧Blk W (w.heap.size+1) 65 #[.int .i64 k1,.int .i64 f1]∧Tch (fun b=>b=w.heap.size∨b=w.heap.size+1) wd W) hput ?_;intro W5 ⟨q5,p5,ht5⟩;obtain⟨n0,n1,n2,n3,n4,n5,n6,n7,n8,n9,n10,n11,n12,n13,ln⟩:=Cz q5;obtain⟨p0,p1,p2,p3,p4⟩:=B6 p5;have hz5:=ht5.size;refine Al (v:=.tuple #[.agg Acs,.bool false,.int .i64 0,.agg #[.int .i64 k1,.int .i64 f1]]) ZR rfl ⟨none,0,none,0,none,0,none,0,rfl,JD,hbl.trans (ht5.Cw hbl.size fun b hb e=>zD)⟩
abbrev flS:Rs→Bool→Bool:=fun s _=>decide (s.k=0)
abbrev flL:Rs→Bool→Bool:=fun _ q=>q
def CC(B:List UInt8):=KH B (fun P=>Db P) flS
theorem XC(w:World)(B:List UInt8)(a:Option Addr)(c0 c:Nat)(hl:Ah.r (·<w.heap.size) w [.slice a c0 c] B)(hB:B.length≤1000000000){m:Msg}{q:Bool}{f:Int}(hZ:CC B=(m,q,n,k,f)):
  Calls Tryz.prog 66 #[.slice a c0 c] w fun r w'=>∃a1 a1' a2 a2' a3 a3' a4 a4',r=.returned (.tuple #[.agg #[.int .i64 m.kind,.int .u64 m.epoch,.int .u64 m.seq,.int .u64 m.pos,.int .i64 m.count,.int .i64 m.state,.slice a1 m.streams.length a1',.slice a2 m.links.length a2',.slice a3 m.data.length a3',.int .u64 m.sea.epoch,.int .u64 m.sea.node,.int .u64 m.sea.tail,.int .u64 m.proj.epoch,.slice a4 m.proj.stripes.length a4'],.int .i64 (n:Int),.agg #[.int .i64 k,.int .i64 f]])∧A9 (fun q=>w.heap.size≤q∧q<w'.heap.size) w' m a1 a1' a2 a2' a3 a3' a4 a4'∧Below w.heap.size w w':=by
 obtain⟨rfl,hmx,hcc,hcm⟩:=AT hl;have HGT:=hid (Aas ((w.alloc (.cells Acs 45)).alloc (.cells #[.int .i64 0,.int .i64 0] 65)) B a _ c (lift hl zA) hB _ _ _ (fun P h=>TJ h) hZ);have hz00:w.heap.size+1<(((w.alloc (.cells Acs 45)).alloc (.cells #[.int .i64 0,.int .i64 0] 65))).heap.size:=zN;clear hl hZ;go_enter Tryz.func66,Tryz.ntmps66;go_wp2_with fail;refine HGT.out.mono ?_;rintro r w1 ⟨a1,a1',a2,a2',a3,a3',a4,a4',rfl,hm1,hb1⟩;have I1:S6 w w1:=⟨Blk.later zC hb1,Blk.later zC hb1,zA⟩;have hlow1:w.heap.size+1<w1.heap.size:=I1.fb.lt;have E2:Blk ((w1.alloc (.cells Acr 45)).alloc (.cells #[.int .i64 k,.int .i64 f] 65)) w1.heap.size 45 Acr:=zC;have F2:Blk ((w1.alloc (.cells Acr 45)).alloc (.cells #[.int .i64 k,.int .i64 f] 65)) (w1.heap.size+1) 65 #[.int .i64 k,.int .i64 f]:=zC;have hb2:Below w1.heap.size w1 ((w1.alloc (.cells Acr 45)).alloc (.cells #[.int .i64 k,.int .i64 f] 65)):=zA;have HI2:=hid (I1.row hb2);have X2:=hid (A9.EM (S':=fun q=>w.heap.size+1<q∧q<w1.heap.size) hm1 (fun q hq=>hb2.block q hq.2) (fun q hq=>⟨zD,hq.2⟩));have l2:w1.heap.size+1<(((w1.alloc (.cells Acr 45)).alloc (.cells #[.int .i64 k,.int .i64 f] 65))).heap.size:=zN;obtain⟨y0,y1,y2,y3,y4,y5,y6,y7,y8,y9,y10,y11,y12,y13,ly⟩:=Cz E2;obtain⟨f0,f1,f2,f3,f4⟩:=B6 F2;clear hm1 hb1 hb2 I1;go_wp2_with fail;generalize ((w1.alloc (.cells Acr 45)).alloc (.cells #[.int .i64 k,.int .i64 f] 65))=w2 at*;have hM:=HI2.out.mb.drew;have hF:=HI2.out.fb.drew;have hbl:=HI2.out.bl.drew;have hEd:=(E2).drew;have hFd:=(F2).drew;have XD:=hid (A9.EM (w':=w2.drew) X2.out (fun q hq=>rfl) (fun q hq=>hq));have ld:w1.heap.size+1<w2.drew.heap.size:=l2;have SK:=hid (fun (w':World) (h1:Blk w' w1.heap.size 45 #[.int .i64 m.kind,.int .u64 m.epoch,.int .u64 m.seq,.int .u64 m.pos,.int .i64 m.count,.int .i64 m.state,.slice a1 m.streams.length a1',.slice a2 m.links.length a2',.slice a3 m.data.length a3',.int .u64 m.sea.epoch,.int .u64 m.sea.node,.int .u64 m.sea.tail,.int .u64 m.proj.epoch,.slice a4 m.proj.stripes.length a4']) (h2:Blk w' (w1.heap.size+1) 65 #[.int .i64 k,.int .i64 f])=>(⟨h1.cell 0,h1.cell 1,h1.cell 2,h1.cell 3,h1.cell 4,h1.cell 5,h1.cell 6,h1.cell 7,h1.cell 8,h1.cell 9,h1.cell 10,h1.cell 11,h1.cell 12,h1.cell 13,h2.cell 0,h2.cell 1⟩:w'.cell? ⟨w1.heap.size,0,none⟩=some (.int .i64 m.kind)∧w'.cell? ⟨w1.heap.size,1,none⟩=some (.int .u64 m.epoch)∧w'.cell? ⟨w1.heap.size,2,none⟩=some (.int .u64 m.seq)∧w'.cell? ⟨w1.heap.size,3,none⟩=some (.int .u64 m.pos)∧w'.cell? ⟨w1.heap.size,4,none⟩=some (.int .i64 m.count)∧w'.cell? ⟨w1.heap.size,5,none⟩=some (.int .i64 m.state)∧w'.cell? ⟨w1.heap.size,6,none⟩=some (.slice a1 m.streams.length a1')∧w'.cell? ⟨w1.heap.size,7,none⟩=some (.slice a2 m.links.length a2')∧w'.cell? ⟨w1.heap.size,8,none⟩=some (.slice a3 m.data.length a3')∧w'.cell? ⟨w1.heap.size,9,none⟩=some (.int .u64 m.sea.epoch)∧w'.cell? ⟨w1.heap.size,10,none⟩=some (.int .u64 m.sea.node)∧w'.cell? ⟨w1.heap.size,11,none⟩=some (.int .u64 m.sea.tail)∧w'.cell? ⟨w1.heap.size,12,none⟩=some (.int .u64 m.proj.epoch)∧w'.cell? ⟨w1.heap.size,13,none⟩=some (.slice a4 m.proj.stripes.length a4')∧w'.cell? ⟨(w1.heap.size+1),0,none⟩=some (.int .i64 k)∧w'.cell? ⟨(w1.heap.size+1),1,none⟩=some (.int .i64 f)));have HS:=hid (SK.out w2 E2 F2);obtain⟨r0,r1,r2,r3,r4,r5,r6,r7,r8,r9,r10,r11,r12,r13,lr⟩:=Cz hM;obtain⟨g0,g1,g2,g3,g4,g5,g6,g7,g8,g9,g10,g11,g12,g13⟩:=Gm hM;obtain⟨z0,z1,z2,z3,z4⟩:=B6 hF
 (try clear y0 y1 y2 y3 y4 y5 y6 y7 y8 y9 y10 y11 y12 y13 ly)
 (try clear f0 f1 f2 f3 f4)
 go_wp2_with fail;refine CJ (S:=fun w'=>w'.cell? ⟨w1.heap.size,0,none⟩=some (.int .i64 m.kind)∧w'.cell? ⟨w1.heap.size,1,none⟩=some (.int .u64 m.epoch)∧w'.cell? ⟨w1.heap.size,2,none⟩=some (.int .u64 m.seq)∧w'.cell? ⟨w1.heap.size,3,none⟩=some (.int .u64 m.pos)∧w'.cell? ⟨w1.heap.size,4,none⟩=some (.int .i64 m.count)∧w'.cell? ⟨w1.heap.size,5,none⟩=some (.int .i64 m.state)∧w'.cell? ⟨w1.heap.size,6,none⟩=some (.slice a1 m.streams.length a1')∧w'.cell? ⟨w1.heap.size,7,none⟩=some (.slice a2 m.links.length a2')∧w'.cell? ⟨w1.heap.size,8,none⟩=some (.slice a3 m.data.length a3')∧w'.cell? ⟨w1.heap.size,9,none⟩=some (.int .u64 m.sea.epoch)∧w'.cell? ⟨w1.heap.size,10,none⟩=some (.int .u64 m.sea.node)∧w'.cell? ⟨w1.heap.size,11,none⟩=some (.int .u64 m.sea.tail)∧w'.cell? ⟨w1.heap.size,12,none⟩=some (.int .u64 m.proj.epoch)∧w'.cell? ⟨w1.heap.size,13,none⟩=some (.slice a4 m.proj.stripes.length a4')∧w'.cell? ⟨(w1.heap.size+1),0,none⟩=some (.int .i64 k)∧w'.cell? ⟨(w1.heap.size+1),1,none⟩=some (.int .i64 f)) zI HS.out (fun hHeld=> ?_);refine Ap (i:=0) (oi:=_) (v:=?_) rfl zE zE zE (fun _ _ _ h=>h) (Or.inl ⟨zS,?_⟩) zL ?_;rotate_left
 ·(intro w hSw;(try dsimp only at hSw);go_simp<;>with_reducible rfl)
 (try simp only[Act.put,Aa,Ab,Ac])
 refine Ap (i:=1) (oi:=_) (v:=?_) rfl zE zE zE (fun _ _ _ h=>h) (Or.inl ⟨zS,?_⟩) zL ?_;rotate_left
 ·(intro w hSw;(try dsimp only at hSw);go_simp<;>with_reducible rfl)
 (try simp only[Act.put,Aa,Ab,Ac])
 refine Ap (i:=2) (oi:=_) (v:=?_) rfl zE zE zE (fun _ _ _ h=>h) (Or.inl ⟨zS,?_⟩) zL ?_;rotate_left
 ·(intro w hSw;(try dsimp only at hSw);go_simp<;>with_reducible rfl)
 (try simp only[Act.put,Aa,Ab,Ac])
 generalize w2.drew=wd at*;refine AU (rs:=[3]) zE zN ?_;refine AK (o:=_) rfl (fun K hK=> ?_) AllReadyH.nil;go_simp
 refine hK.out _ _ ?_ (fun hHeld=> ?_)
 ·exact SK.out _ zQ zQ
 clear hK K
 (try simp only[Act.put,Aa,Ab,Ac])
 refine Ap (i:=4) (oi:=_) (v:=?_) rfl zE zE zE (fun _ _ _ h=>h) (Or.inl ⟨zS,?_⟩) zL ?_;rotate_left
 ·(intro w hSw;(try dsimp only at hSw);go_simp<;>with_reducible rfl)
 (try simp only[Act.put,Aa,Ab,Ac])
 refine AU (rs:=[5]) zE zN ?_;refine AK (o:=_) rfl (fun K hK=> ?_) AllReadyH.nil;go_simp
 refine hK.out _ _ ?_ (fun hHeld=> ?_)
 ·exact SK.out _ zQ zQ
 clear hK K
 (try simp only[Act.put,Aa,Ab,Ac])
 (try simp only[AA,Ay,Aw,Act.put,Aa,Ab,Ac])
 refine CS zI ?_ _;go_wp2_with fail;have hput:=I3 (k:=.int .i64 k) (f:=.int .i64 f) (v0:=.int .i64 m.kind) (v1:=.int .u64 m.epoch) (v2:=.int .u64 m.seq) (v3:=.int .u64 m.pos) (v4:=.int .i64 m.count) (v5:=.int .i64 m.state) (v6:=.slice a1 m.streams.length a1') (v7:=.slice a2 m.links.length a2') (v8:=.slice a3 m.data.length a3') (v9:=.int .u64 m.sea.epoch) (v10:=.int .u64 m.sea.node) (v11:=.int .u64 m.sea.tail) (v12:=.int .u64 m.proj.epoch) (v13:=.slice a4 m.proj.stripes.length a4') hM hF zD;refine Di (fun W=>Blk W w.heap.size 45 #[.int .i64 m.kind,.int .u64 m.epoch,.int .u64 m.seq,.int .u64 m.pos,.int .i64 m.count,.int .i64 m.state,.slice a1 m.streams.length a1',.slice a2 m.links.length a2',.slice a3 m.data.length a3',.int .u64 m.sea.epoch,.int .u64 m.sea.node,.int .u64 m.sea.tail,.int .u64 m.proj.epoch,.slice a4 m.proj.stripes.length a4']∧Blk W (w.heap.size+1) 65 #[.int .i64 k,.int .i64 f]∧Tch (fun b=>b=w.heap.size∨b=w.heap.size+1) wd W) hput ?_;intro W5 ⟨q5,p5,ht5⟩;obtain⟨n0,n1,n2,n3,n4,n5,n6,n7,n8,n9,n10,n11,n12,n13,ln⟩:=Cz q5;obtain⟨p0,p1,p2,p3,p4⟩:=B6 p5;have hz5:=ht5.size;refine Al (v:=.tuple #[.agg Acr,.int .i64 (n:Int),.agg #[.int .i64 k,.int .i64 f]]) (by simp[results,Tryz.results66,go_sem,n0,n1,n2,n3,n4,n5,n6,n7,n8,n9,n10,n11,n12,n13,p0,p1]) rfl ⟨a1,a1',a2,a2',a3,a3',a4,a4',rfl,A9.EM XD.out (fun q hq=>ht5.block q zD zD) (fun q hq=>⟨zD,zD⟩),hbl.trans (ht5.Cw hbl.size fun b hb e=>zD)⟩
theorem SN{st:Int}(h:Bw k st=true):AE k 64=false∧AE k 128=false:=by
 unfold Bw at h;simp only[Dh,Aq,Av] at h;rcases h with rfl | ⟨rfl,_⟩<;>decide
theorem YY(s:Rs)(k:Int):
  (s.body B (Db B) k=s.body B (F8 B) k∧((s.body B (F8 B) k).1.k=0→(s.body B (F8 B) k).2.2=true))∨((s.body B (Db B) k).1.k=12∧(s.body B (F8 B) k).1.k=0∧(s.body B (F8 B) k).2.2=false):=by
 unfold Rs.body;by_cases hk:1≤k∧k≤14
 ·rw[Ai hk,Ai hk]
  dsimp only;generalize s.ahead B k=e;cases hb:Bw k e.2.state
  ·left
   refine⟨rfl,fun h=> ?_⟩;split at h
   ·rename_i h1
    rw[Ai h1];rfl
   ·rename_i h1
    exact absurd h h1
  ·obtain⟨h64,h128⟩:=SN hb
   rw[h64,h128];have hr:=VD (B:=B) e.1;have hSt:(Db B e.1).2.2=true:=rfl;unfold Rs.part
   (try dsimp only)
   generalize Db B e.1=S at*;generalize F8 B e.1=L at*;obtain⟨u1,D1,q1⟩:=S;obtain⟨u2,D2,q2⟩:=L;dsimp only at*;subst hSt;rcases hr with ⟨rfl,rfl,h3⟩ | ⟨h1,h2,h3⟩
   ·left
    by_cases h0:u1.k=0
    ·rw[h3 h0]
     refine⟨rfl,fun h=> ?_⟩;simp[h0]
    ·refine⟨?_,fun h=> ?_⟩
     ·simp[h0]
     ·simp[h0] at h
   ·right
    subst h3;simp[h1,h2]
 ·rw[Ak hk,Ak hk]
  left;exact⟨rfl,fun h=>absurd h (Rs.BE zD)⟩
theorem Rs.Yp{t:Rs}(ht:t.ok B.length){m:Int}:t.p≤(t.loose B m).1.p:=by
 have h1:=Rs.Yw (B:=B) (s:=t) (m:=min m 1048576);have o1:=Rs.FU (B:=B) (m:=min m 1048576) ht;have h2:=Rs.OD (B:=B) o1;have o2:=Rs.Iq (B:=B) o1;have h3:=Rs.Tg (B:=B) o2 ((t.int B (min m 1048576)).2:Int);have h4:=Rs.Aa2 (B:=B) o2 (t.int B (min m 1048576)).2;unfold Rs.loose;split
 ·split
  ·split<;>(dsimp only;omega)
  ·split
   ·split<;>(dsimp only;omega)
   ·dsimp only
    rw[Rs.Ou];omega
 ·dsimp only
  omega
theorem SV(t:Rs)(ht:t.ok B.length)(h:(F8 B t).1.k=0)(hf:(F8 B t).2.2=true):B.drop t.p=Bk (F8 B t).2.1++B.drop (F8 B t).1.p:=by
 have h1:=Rs.Oc (B:=B) (s:=t) (m:=1048576) hf;have h2:=Rs.Yp (B:=B) ht (m:=1048576);unfold F8 at*;rw[h1];have:B.drop (t.loose B 1048576).1.p=(B.drop t.p).drop ((t.loose B 1048576).1.p-t.p):=by
  rw[LA];congr 1
  omega
 rw[this,Ce]
theorem Aab(t:Rs)(ht:t.ok B.length)(h:(Db B t).1.k=0)(hf:(Db B t).2.2=true):B.drop t.p=Bk (Db B t).2.1++B.drop (Db B t).1.p:=by
 rcases VD (B:=B) t with ⟨h1,h2,h3⟩ | ⟨h1,h2,h3⟩
 ·rw[h1] at h ⊢
  rw[h2];exact SV t ht h (h3 h)
 ·omega
theorem SR{t:Rs}(h:t.ok B.length):(Db B t).1.ok B.length:=by
 unfold Db Rs.strict;dsimp only;split
 ·split
  ·exact Rs.JG h 1048576
  ·exact Rs.Co (Rs.JG h 1048576) zD
 ·exact Rs.JG h 1048576
theorem WT(t:Rs):(F8 B t).2.1.length≤1048576:=Rs.PG
theorem BD.Aac{L:List UInt8}{n:Nat}(hn:n<128)(h:w.ownsRow base 5 1 v (L.length+1) (byteCells L++[.int .u8 (n:Int)])):BD w base v (L++Az n):=by
 unfold BD;rw[Ag,DO hn,←Es,Ns hn];exact h
theorem BI(h:W.ownsRow lo e sz v n xs):∀b,v.ownBlock=some b→lo≤b∧b<W.heap.size:=fun b hv=>h.lt b hv
theorem Xq(h:Blk w g t cs.toArray)(hs:cs.length=sz):Src w (some ⟨g,0,none⟩) 1 sz cs:=by
 refine⟨zD,.inr ⟨_,0,rfl,fun j u hu=> ?_⟩⟩;rw[A1,h.cell];simpa using hu
theorem Gi(x:Int)(hx:0≤x∧x≤18446744073709551615)(W:World):Calls Tryz.prog 101 #[.int .u64 x] W fun r w'=>∃v,r=.returned v∧BD w' W.heap.size v (Az x.toNat)∧Below W.heap.size W w':=by
 have:=FH x.toNat zD W;rw[toNat_cast hx.1] at this;exact this
theorem RI(w:World)(s:BV)(al:Option Addr)(nl cl:Nat)(h0:inU s.lo)(h1:inU s.hi)(hl:EH.r (·<w.heap.size) w [.slice al nl cl] s.sets)(hR:Dc s=true):
  Calls Tryz.prog 254 #[.agg #[.int .u64 s.lo,.int .u64 s.hi,.slice al nl cl]] w fun r w'=>∃v,r=.returned v∧BD w' w.heap.size v (CY s)∧Below w.heap.size w w':=by
 obtain⟨rfl,hm,_,_⟩:=AT hl;obtain⟨i0,hi,hz0,hz1,hz2⟩:=A3 DH;have hlen:=ND hR;have hR':=hR;simp only[Dc,Aq,Av] at hR';obtain⟨⟨g1,g2,g3,g4⟩,g5⟩:=hR';have HNO:=hid (fun (k:Nat) (hk:k<s.sets.length)=>(by
  have:=LH g5 k hk;simp only[Dx,Aq,Av] at this;exact⟨this.1.2,this.2.1⟩:s.sets[k].length≤8∧Bj s.sets[k]=true))
 have HNS:=hid (fun (k:Nat) (hk:k<s.sets.length)=>NJ s.sets k hk);have HMO:=hid (fun k=>Kh s.sets k);have hbb:CY s=Az (s.hi-s.lo-1).toNat++Az s.sets.length++Ey s.sets:=rfl;rw[hbb] at hlen ⊢;simp only[Ag] at hlen;have hlo:=h0.1;have hhi:=h1.2;have HV:=hid (Gi (s.hi-s.lo-1) zD);obtain⟨lo,hip,l⟩:=s;dsimp only at*;have v1:0≤hip-lo:=zD;have v2:0≤hip-lo-1:=zD;have v3:hip-lo≤18446744073709551615:=zD;have HL:=hid hl;have HOV:=hid (AI (Az (hip-lo-1).toNat));generalize Az (hip-lo-1).toNat=VA at*;have hvl:=DO (x:=l.length) zD;rw[hvl] at hlen;have hVA:VA.length≤740:=zD;have x2:(w.alloc (.cells #[.int .u64 lo,.int .u64 hip,.slice al l.length cl] 219)).cell? ⟨w.heap.size,2,none⟩=some (.slice al l.length cl):=zN;have hb0:Below w.heap.size w (w.alloc (.cells #[.int .u64 lo,.int .u64 hip,.slice al l.length cl] 219)):=zB;have hs0:w.heap.size<(w.alloc (.cells #[.int .u64 lo,.int .u64 hip,.slice al l.length cl] 219)).heap.size:=zN;clear hl hR hbb g5;go_enter Tryz.func254,Tryz.ntmps254;go_wp2_with fail;generalize w.alloc (.cells #[.int .u64 lo,.int .u64 hip,.slice al l.length cl] 219)=w0 at*;have HB0:=hid hb0;clear hb0;refine (HV.out _).mono ?_;rintro r w1 ⟨v1',rfl,hv1,hb1⟩;obtain⟨a1,c1,rfl⟩:=AD hv1;have HO1:=hid hv1;have X2:=(hb1.cell (p:=⟨w.heap.size,2,none⟩) hs0).trans x2;have hz1s:=hb1.size;have HB1:=hid hb1;clear hv1 hb1;go_wp2_with (at_builtin;go_loud (refine Ar rfl _ _ _ rfl w0.heap.size 5 i0 (.int .u8 0) 1 1 Au hi hz0 hz1 hz2 rfl zO (.slice a1 VA.length c1) VA.length (byteCells VA) rfl (AF HO1.out zA) (some ⟨w1.heap.size,0,none⟩) (1) (1) [.int .u8 (l.length:Int)] rfl (By w1 _ _ rfl rfl rfl) zW zK zD zH ?_;intro v' w3 hown3 hgrow3 hat3;obtain⟨a3,c3,rfl⟩:=AD hown3;have HO3:=hid (BD.Aac zD hown3);have hbg3:Below w0.heap.size (w1.alloc (.cells #[.int .u8 (l.length:Int)] 5)) w3:=(Below.grown (Below.refl _ _) hgrow3 zH (fun g e=>(BI (AF HO1.out zA) g e).1));clear hown3 hgrow3 hat3))
 have hb13:Below w0.heap.size w0 w3:=HB1.out.trans (((Below.refl _ _).alloc hz1s _).trans hbg3);have HB3:=hid hb13;have X3:=(hb13.cell (p:=⟨w.heap.size,2,none⟩) hs0).trans x2;have hl3:(VA++Az l.length).length=VA.length+1:=by rw[Ag,hvl]
 clear X2 hbg3 hb13;go_loopw [3,4] (fun v i wr=>∃(k:Nat) (J:List UInt8),k≤l.length∧i=.int .i64 k∧BD wr w0.heap.size v J∧Hid (J=VA++Az l.length++Ey (l.take k))∧(∃aJ cJ,v=.slice aJ J.length cJ)∧Below w0.heap.size w0 wr) (fun _ i _=>l.length-(intOf i).toNat)
 case atStart=>exact ⟨0,VA++Az l.length,Am _,rfl,HO3.out,hid (by simp[Ey]),⟨_,_,by rw[hl3]⟩,HB3.out⟩
 case round=>
  obtain⟨k,J,hk,rfl,hown,hJ,⟨aJ,cJ,rfl⟩,hb⟩:=hrel;have HBW:=hid (HB0.out.trans (hb.mono HB0.out.size));have HO:=hid hown;have hz:=hb.size;have Z2:=(hb.cell (p:=⟨w.heap.size,2,none⟩) hs0).trans x2;rcases Bh k l.length with hlt | hge
  ·obtain⟨b,o,hA,hbb,ak,ck,u0,xl⟩:=GQ HL.out hlt
   subst hA;have hst:=HNS.out k hlt;have hmo:=HMO.out (k+1);rw[hst,Ag] at hmo;have hno:=HNO.out k hlt;have hsb:Dw l[k]=Az l[k].length++GO l[k]:=rfl;have hsl:(Dw l[k]).length=(Az l[k].length).length+(GO l[k]).length:=by rw[hsb,Ag]
   have hJ1:J++Az l[k].length++GO l[k]=VA++Az l.length++Ey (l.take (k+1)):=by rw[hst,hsb,hJ.out];simp only[Ao]
   have hJl:J.length+(GO l[k]).length≤20000000:=zBf;have HJ1:=hid hJ1;have HXL:=hid xl;have i1:(k:Int)<(l.length:Int):=zD;have d1:decide ((k:Int)<(l.length:Int))=true:=Ad i1;have U0:=(HBW.out.cell (p:=⟨b,o+k,none⟩) hbb).trans u0;have hb2:b<w0.heap.size:=Aj hbb HB0.out.size;generalize l[k]=X at*;have hx8:=hno.1;have HRI:=hid hno.2;have HBY:=hid (fun (W:World) (hW:Below w.heap.size w W)=>MC W X ak _ ck (lift HXL.out hW) HRI.out zD);have HOU:=hid (AI (GO X));have hvx:=DO (x:=X.length) zD;generalize GO X=UX at*;clear hown hJ hmo hsb hsl hJ1 xl hno hst hbb u0;go_wp2_with (at_builtin;go_loud (refine Ar rfl _ _ _ rfl w0.heap.size 5 i0 (.int .u8 0) 1 1 Au hi hz0 hz1 hz2 rfl zO (.slice aJ J.length cJ) J.length (byteCells J) rfl (AF HO.out zA) (some ⟨wr.heap.size,0,none⟩) (1) (1) [.int .u8 (X.length:Int)] rfl (By wr _ _ rfl rfl rfl) zW zK zD zH ?_;intro v' w5 hown5 hgrow5 hat5;obtain⟨a5,c5,rfl⟩:=AD hown5;have HO5:=hid (BD.Aac zD hown5);have hbg5:Below w0.heap.size (wr.alloc (.cells #[.int .u8 (X.length:Int)] 5)) w5:=(Below.grown (Below.refl _ _) hgrow5 zH (fun g e=>(BI (AF HO.out zA) g e).1));have hb5:Below w0.heap.size wr w5:=(((Below.refl _ _).alloc hz _).trans hbg5);have Z5:=(hb5.cell (p:=⟨w.heap.size,2,none⟩) hs0).trans Z2;have U5:=(hb5.cell (p:=⟨b,o+k,none⟩) hb2).trans U0;clear hown5 hgrow5 hat5))
   have hz5:=hb5.size;have hln:(J++Az X.length).length=J.length+1:=by rw[Ag,hvx]
   generalize J++Az X.length=J5 at*;have HP5:=hid (HO5.out);rw[←hln] at HP5 ⊢;have hJ5:J5.length+UX.length≤20000001:=zD;have hbw5:=hb.trans hb5;have HBW5:=hid (HB0.out.trans (hbw5.mono HB0.out.size));have HBX:=hid (HBY.out w5 HBW5.out);clear hln hb5 hbg5;refine HBX.out.mono ?_;rintro r w6 ⟨v6,rfl,hv6,hb6⟩;obtain⟨a6,c6,rfl⟩:=AD hv6;have HS6:=hid (A8 (BM rfl hv6));have HO6:=hid (AF HP5.out hb6);have hz6:=hb6.size;clear hv6 Z5 U5;go_wp2_with (at_builtin;go_loud (refine Ar rfl _ _ _ rfl w0.heap.size 5 i0 (.int .u8 0) 1 1 Au hi hz0 hz1 hz2 rfl zO (.slice a5 J5.length c5) J5.length (byteCells J5) rfl (HO6.out) (a6) (UX.length) (c6) (byteCells UX) rfl (HS6.out) HOU.out zK zD zD ?_;intro v' w7 hown7 hgrow7 hat7;obtain⟨a7,c7,rfl⟩:=AD hown7;have HO7:=hid (BD.app hown7);have hbg7:Below w0.heap.size w6 w7:=(Below.grown (Below.refl _ _) hgrow7 zD (fun g e=>(BI (HO6.out) g e).1));clear hown7 hgrow7 hat7))
   have hbe:Below w0.heap.size w0 w7:=hbw5.trans ((hb6.mono zD).trans hbg7);go_roundw
   case rel=>exact ⟨k+1,J5++UX,zD,zV,HO7.out,HJ1,⟨_,_,ZB⟩,hbe⟩
   case measure=>(simp[intOf];try omega)
  ·obtain rfl:k=l.length:=by omega
   have d1:decide ((l.length:Int)<(l.length:Int))=false:=Ae zD;have hfin:Hid (J=VA++Az l.length++Ey l):=hid zA8;have HOL:=hid (GG HO.out (Nat.le_of_lt hs0));clear hown hJ;go_wp2_with fail;go_ret;rw[←hfin.out];exact⟨_,rfl,HOL.out,HBW.out⟩
theorem RH(w:World)(p:EZ)(al:Option Addr)(nl cl:Nat)(h0:inU p.epoch)(hl:Bq.r (·<w.heap.size) w [.slice al nl cl] p.stripes)(hR:DG p=true):
  Calls Tryz.prog 186 #[.agg #[.int .u64 p.epoch,.slice al nl cl]] w fun r w'=>∃v,r=.returned v∧BD w' w.heap.size v (Dz p)∧Below w.heap.size w w':=by
 obtain⟨rfl,hm,_,_⟩:=AT hl;obtain⟨i0,hi,hz0,hz1,hz2⟩:=A3 DH;have hlen:=N3 hR;have hR':=hR;simp only[DG,Aq,Av] at hR';obtain⟨g1,⟨g2,g3⟩,g4⟩:=hR';have HNO:=hid (fun (k:Nat) (hk:k<p.stripes.length)=>JY _ _ g4 p.stripes[k] (Bi hk));have HNS:=hid (fun (k:Nat) (hk:k<p.stripes.length)=>Ke p.stripes k hk);have HMO:=hid (fun k=>Iz p.stripes k);have hbb:Dz p=Az p.epoch.toNat++Az p.stripes.length++Cq p.stripes:=rfl;rw[hbb] at hlen ⊢;simp only[Ag] at hlen;have HV:=hid (Gi p.epoch h0);obtain⟨ep,l⟩:=p;dsimp only at*;have HL:=hid hl;have HOV:=hid (AI (Az ep.toNat));generalize Az ep.toNat=VA at*;have hvl:=DO (x:=l.length) zD;rw[hvl] at hlen;have hVA:VA.length≤47380:=zD;have HWL:Hid (IntKind.u8.wrap (l.length:Int)=(l.length:Int)):=hid (by rw[IntKind.wrap_u8];omega);have x0:(w.alloc (.cells #[.int .u64 ep,.slice al l.length cl] 43)).cell? ⟨w.heap.size,0,none⟩=some (.int .u64 ep):=zN;have x1:(w.alloc (.cells #[.int .u64 ep,.slice al l.length cl] 43)).cell? ⟨w.heap.size,1,none⟩=some (.slice al l.length cl):=zN;have hb0:Below w.heap.size w (w.alloc (.cells #[.int .u64 ep,.slice al l.length cl] 43)):=zB;have hs0:w.heap.size<(w.alloc (.cells #[.int .u64 ep,.slice al l.length cl] 43)).heap.size:=zN;clear hl hR hbb g1 g4;go_enter Tryz.func186,Tryz.ntmps186;go_upto_region 1 with (fail);generalize w.alloc (.cells #[.int .u64 ep,.slice al l.length cl] 43)=w0 at*;have HB0:=hid hb0;clear hb0;go_cut [3] from 5 to 13 (fun v V=>∃a3 c3,v=.slice a3 (VA.length+1) c3∧BD V w0.heap.size v (VA++Az l.length)∧Below w0.heap.size w0 V)
 case first=>
  refine CJ (S:=fun w'=>w'.cell? ⟨w.heap.size,0,none⟩=some (.int .u64 ep)∧w'.cell? ⟨w.heap.size,1,none⟩=some (.slice al l.length cl)) zI ⟨x0,x1⟩ (fun hHeld=> ?_);refine Ap (i:=0) (oi:=_) (v:=?_) rfl zE zE zE (fun _ _ _ h=>h) (Or.inl ⟨zS,?_⟩) zL ?_;rotate_left
  ·(intro w hSw;(try dsimp only at hSw);go_simp<;>with_reducible rfl)
  (try simp only[Act.put,Aa,Ab,Ac])
  refine Ap (i:=1) (oi:=_) (v:=?_) rfl zE zE zE (fun _ _ _ h=>h) (Or.inl ⟨zS,?_⟩) zL ?_;rotate_left
  ·(intro w hSw;(try dsimp only at hSw);go_simp<;>with_reducible rfl)
  (try simp only[Act.put,Aa,Ab,Ac])
  refine Ap (i:=3) (oi:=_) (v:=?_) rfl zE zE zE (fun _ _ _ h=>h) (Or.inl ⟨zS,?_⟩) zL ?_;rotate_left
  ·(intro w hSw;(try dsimp only at hSw);go_simp<;>with_reducible rfl)
  (try simp only[Act.put,Aa,Ab,Ac])
  refine Ap (i:=4) (oi:=_) (v:=?_) rfl zE zE zE (fun _ _ _ h=>h) (Or.inl ⟨zS,?_⟩) zL ?_;rotate_left
  ·(intro w hSw;(try dsimp only at hSw);go_simp<;>with_reducible rfl)
  (try simp only[Act.put,Aa,Ab,Ac])
  refine Ap (i:=5) (oi:=_) (v:=?_) rfl zE zE zE (fun _ _ _ h=>h) (Or.inl ⟨zS,?_⟩) zL ?_;rotate_left
  ·(intro w hSw;(try dsimp only at hSw);go_simp<;>with_reducible rfl)
  (try simp only[Act.put,Aa,Ab,Ac])
  refine Ap (i:=6) (oi:=_) (v:=?_) rfl zE zE zE (fun _ _ _ h=>h) (Or.inl ⟨zS,?_⟩) zL ?_;rotate_left
  ·(intro w hSw;(try dsimp only at hSw);go_simp<;>with_reducible rfl)
  (try simp only[Act.put,Aa,Ab,Ac])
  rw[HWL.out];refine AU (rs:=[2,7]) zE zN ?_;refine AK (o:=_) rfl (fun K hK=> ?_) (AK (o:=_) rfl (fun K hK=> ?_) AllReadyH.nil)
  ·go_simp
   go_at_call 101
   refine (HV.out _).mono ?_;rintro e1 w1 ⟨v1,rfl,hv1,hb1⟩;obtain⟨a1,c1,rfl⟩:=AD hv1;have HO1:=hid hv1;have hb01:Below w0.heap.size w0 w1:=Af hb1 (Below.refl _ _).drew;have X0:=(hb01.cell (p:=⟨w.heap.size,0,none⟩) hs0).trans x0;have X1:=(hb01.cell (p:=⟨w.heap.size,1,none⟩) hs0).trans x1;have hz1s:=hb01.size;clear hv1 hb1;refine hK.out _ _ ?_ (fun hHeld=> ?_)
   ·((try dsimp only);first | assumption | (refine⟨?_,?_⟩<;>(first | assumption | (go_keep;done))))
   clear hK K
   (try simp only[Act.put,Aa,Ab,Ac])
   refine AU (rs:=[7]) zE zN ?_;refine AK (o:=_) rfl (fun K hK=> ?_) AllReadyH.nil;go_simp
   refine hK.out _ _ ?_ (fun hHeld=> ?_)
   ·((try dsimp only);first | assumption | (refine⟨?_,?_⟩<;>(first | assumption | (go_keep;done))))
   clear hK K
   (try simp only[Act.put,Aa,Ab,Ac])
   refine AU (rs:=[8]) zE zN ?_;refine AK (o:=_) rfl (fun K hK=> ?_) AllReadyH.nil
   (refine BG zS _ _ _ zS w0.heap.size 5 i0 (.int .u8 0) 1 1 Au hi hz0 hz1 hz2 rfl zO (.slice a1 VA.length c1) VA.length (byteCells VA) zS (AF HO1.out zA) (some ⟨w1.heap.size,0,none⟩) (1) (1) [.int .u8 (l.length:Int)] zS (By w1 _ _ rfl rfl rfl) zW zK zD zH ?_;intro a3 c3 w3 hown3 hgrow3 hat3;have HO3:=hid (BD.Aac zD hown3);have hbg3:Below w0.heap.size (w1.alloc (.cells #[.int .u8 (l.length:Int)] 5)) w3:=(Below.grown (Below.refl _ _) hgrow3 zH (fun g e=>(BI (AF HO1.out zA) g e).1));clear hown3 hgrow3 hat3;have hb3:Below w0.heap.size w0 w3:=hb01.trans (((Below.refl _ _).alloc hz1s _).trans hbg3);have Y0:=(hb3.cell (p:=⟨w.heap.size,0,none⟩) hs0).trans x0;have Y1:=(hb3.cell (p:=⟨w.heap.size,1,none⟩) hs0).trans x1)
   refine hK.out _ _ ?_ (fun hHeld=> ?_)
   ·((try dsimp only);first | assumption | (refine⟨?_,?_⟩<;>(first | assumption | (go_keep;done))))
   clear hK K
   (try simp only[Act.put,Aa,Ab,Ac])
   refine Ap (i:=9) (oi:=_) (v:=?_) rfl zE zE zE (fun _ _ _ h=>h) (Or.inl ⟨zS,?_⟩) zL ?_;rotate_left
   ·(intro w hSw;(try dsimp only at hSw);go_simp<;>with_reducible rfl)
   (try simp only[Act.put,Aa,Ab,Ac])
   simp only[AA,Ay,Aw,Act.put,Aa,Ab,Ac];refine CS zI ?_ _;go_wp2_with fail;go_meet
   case rel=>exact ⟨a3,c3,rfl,zBg,hb3⟩
  ·go_simp
   refine hK.out _ _ ?_ (fun hHeld=> ?_)
   ·((try dsimp only);first | assumption | (refine⟨?_,?_⟩<;>(first | assumption | (go_keep;done))))
   clear hK K
   (try simp only[Act.put,Aa,Ab,Ac])
   refine AU (rs:=[2]) zE zN ?_;refine AK (o:=_) rfl (fun K hK=> ?_) AllReadyH.nil
   (go_simp;go_at_call 101;refine (HV.out _).mono ?_;rintro e1 w1 ⟨v1,rfl,hv1,hb1⟩;obtain⟨a1,c1,rfl⟩:=AD hv1;have hb01:Below w0.heap.size w0 w1:=Af hb1 zA;have HO1:=hid (GG hv1 zN:BD w1 w0.heap.size _ VA);have HBX:=hid ((Blk.newAt (w0.drew) 5 #[.int .u8 (l.length:Int)] (g:=w0.heap.size) rfl).later hb1);have X0:=(hb01.cell (p:=⟨w.heap.size,0,none⟩) hs0).trans x0;have X1:=(hb01.cell (p:=⟨w.heap.size,1,none⟩) hs0).trans x1;have hz1s:=hb01.size;clear hv1 hb1)
   refine hK.out _ _ ?_ (fun hHeld=> ?_)
   ·((try dsimp only);first | assumption | (refine⟨?_,?_⟩<;>(first | assumption | (go_keep;done))))
   clear hK K
   (try simp only[Act.put,Aa,Ab,Ac])
   refine AU (rs:=[8]) zE zN ?_;refine AK (o:=_) rfl (fun K hK=> ?_) AllReadyH.nil
   (refine BG zS _ _ _ zS w0.heap.size 5 i0 (.int .u8 0) 1 1 Au hi hz0 hz1 hz2 rfl zO (.slice a1 VA.length c1) VA.length (byteCells VA) zS (HO1.out) (some ⟨w0.heap.size,0,none⟩) (1) (1) [.int .u8 (l.length:Int)] zS (Xq HBX.out rfl) zW zK zD zD ?_;intro a3 c3 w3 hown3 hgrow3 hat3;have HO3:=hid (BD.Aac zD hown3);have hbg3:Below w0.heap.size w1 w3:=(Below.grown (Below.refl _ _) hgrow3 zD (fun g e=>(BI (HO1.out) g e).1));clear hown3 hgrow3 hat3;have hb3:Below w0.heap.size w0 w3:=hb01.trans hbg3;have Y0:=(hb3.cell (p:=⟨w.heap.size,0,none⟩) hs0).trans x0;have Y1:=(hb3.cell (p:=⟨w.heap.size,1,none⟩) hs0).trans x1)
   refine hK.out _ _ ?_ (fun hHeld=> ?_)
   ·((try dsimp only);first | assumption | (refine⟨?_,?_⟩<;>(first | assumption | (go_keep;done))))
   clear hK K
   (try simp only[Act.put,Aa,Ab,Ac])
   refine Ap (i:=9) (oi:=_) (v:=?_) rfl zE zE zE (fun _ _ _ h=>h) (Or.inl ⟨zS,?_⟩) zL ?_;rotate_left
   ·(intro w hSw;(try dsimp only at hSw);go_simp<;>with_reducible rfl)
   (try simp only[Act.put,Aa,Ab,Ac])
   simp only[AA,Ay,Aw,Act.put,Aa,Ab,Ac];refine CS zI ?_ _;go_wp2_with fail;go_meet
   case rel=>exact ⟨a3,c3,rfl,zBg,hb3⟩
 case rest=>
  obtain⟨a3,c3,rfl,hown3,hb3⟩:=hcut;have HO3:=hid hown3;have HB3:=hid hb3;have hl3:(VA++Az l.length).length=VA.length+1:=by rw[Ag,hvl]
  clear hown3 hb3;go_wp2_with fail;go_loopw [3,4] (fun v i wr=>∃(k:Nat) (J:List UInt8),k≤l.length∧i=.int .i64 k∧BD wr w0.heap.size v J∧Hid (J=VA++Az l.length++Cq (l.take k))∧(∃aJ cJ,v=.slice aJ J.length cJ)∧Below w0.heap.size w0 wr) (fun _ i _=>l.length-(intOf i).toNat)
  case atStart=>exact ⟨0,VA++Az l.length,Am _,rfl,HO3.out,hid (by simp[Cq]),⟨_,_,by rw[hl3]⟩,HB3.out⟩
  case round=>
   obtain⟨k,J,hk,rfl,hown,hJ,⟨aJ,cJ,rfl⟩,hb⟩:=hrel;have HBW:=hid (HB0.out.trans (hb.mono HB0.out.size));have HO:=hid hown;have hz:=hb.size;have Z1:=(hb.cell (p:=⟨w.heap.size,1,none⟩) hs0).trans x1;rcases Bh k l.length with hlt | hge
   ·obtain⟨b,o,hA,hbb,ak,ck,u0,u1,u2,ub0,ub1,xl⟩:=Ge HL.out hlt
    subst hA;have hst:=HNS.out k hlt;have hmo:=HMO.out (k+1);rw[hst,Ag] at hmo;have HRI:=hid (HNO.out k hlt);have hJ1:J++CY l[k]=VA++Az l.length++Cq (l.take (k+1)):=zCx;have hJl:J.length+(CY l[k]).length≤20000000:=zBf;have HJ1:=hid hJ1;have HXL:=hid xl;have i1:(k:Int)<(l.length:Int):=zD;have d1:decide ((k:Int)<(l.length:Int))=true:=Ad i1;have U0:=(HBW.out.cell (p:=⟨b,o+k*3,none⟩) hbb).trans u0;have U1:=(HBW.out.cell (p:=⟨b,o+k*3+1,none⟩) hbb).trans u1;have U2:=(HBW.out.cell (p:=⟨b,o+k*3+2,none⟩) hbb).trans u2;generalize l[k]=X at*;have HU:=hid (And.intro ub0 ub1);have HBY:=hid (fun (W:World) (hW:Below w.heap.size w W)=>RI W X ak _ ck HU.out.1 HU.out.2 (lift HXL.out hW) HRI.out);have HOU:=hid (AI (CY X));generalize CY X=UX at*;have HBX:=hid (HBY.out wr HBW.out);clear hown hJ hmo hJ1 xl hst hbb u0 u1 u2 ub0 ub1 HBY;go_wp2_with fail;refine HBX.out.mono ?_;rintro r w6 ⟨v6,rfl,hv6,hb6⟩;obtain⟨a6,c6,rfl⟩:=AD hv6;have HS6:=hid (A8 (BM rfl hv6));have HO6:=hid (AF HO.out hb6);have hz6:=hb6.size;clear hv6 Z1 U0 U1 U2;go_wp2_with (at_builtin;go_loud (refine Ar rfl _ _ _ rfl w0.heap.size 5 i0 (.int .u8 0) 1 1 Au hi hz0 hz1 hz2 rfl zO (.slice aJ J.length cJ) J.length (byteCells J) rfl (HO6.out) (a6) (UX.length) (c6) (byteCells UX) rfl (HS6.out) HOU.out zK zD zD ?_;intro v' w7 hown7 hgrow7 hat7;obtain⟨a7,c7,rfl⟩:=AD hown7;have HO7:=hid (BD.app hown7);have hbg7:Below w0.heap.size w6 w7:=(Below.grown (Below.refl _ _) hgrow7 zD (fun g e=>(BI (HO6.out) g e).1));clear hown7 hgrow7 hat7))
    have hbe:Below w0.heap.size w0 w7:=hb.trans ((hb6.mono zD).trans hbg7);go_roundw
    case rel=>exact ⟨k+1,J++UX,zD,zV,HO7.out,HJ1,⟨_,_,ZB⟩,hbe⟩
    case measure=>(simp[intOf];try omega)
   ·obtain rfl:k=l.length:=by omega
    have d1:decide ((l.length:Int)<(l.length:Int))=false:=Ae zD;have hfin:Hid (J=VA++Az l.length++Cq l):=hid zA8;have HOL:=hid (GG HO.out (Nat.le_of_lt hs0));clear hown hJ;go_wp2_with fail;go_ret;rw[←hfin.out];exact⟨_,rfl,HOL.out,HBW.out⟩
theorem BD.Aco(h:w.ownsRow base 5 1 v (0+D.length) ([]++byteCells D)):BD w base v D:=by
 rw[A1,AV] at h;exact h
theorem BD.Acn{L:List UInt8}{x:Int}(h0:0≤x)(h1:x<256)(h:w.ownsRow base 5 1 v (L.length+1) (byteCells L++[.int .u8 x])):BD w base v (L++[UInt8.ofNat x.toNat]):=by
 unfold BD;rw[Ag,←Es];have:=Ej (x:=x.toNat) zD;rw[toNat_cast h0] at this;rw[show byteCells [UInt8.ofNat x.toNat]=[.int .u8 x] by simp only[byteCells,Dg,Lz];rw[←this]];exact h
theorem RC(w:World)(m:Msg)(a1:Option Addr)(c1:Nat)(a2:Option Addr)(c2:Nat)(a3:Option Addr)(c3:Nat)(a4:Option Addr)(c4:Nat)(hd:A9 (·<w.heap.size) w m a1 c1 a2 c2 a3 c3 a4 c4)(hbk:∀x∈m.links,x.backs.length≤1000000)(hR:Gl m=true):
  Calls Tryz.prog 122 #[.agg Acq] w fun r w'=>∃v,r=.returned v∧BD w' w.heap.size v (D4 m)∧Below w.heap.size w w':=by
 obtain⟨i0,hi,hz0,hz1,hz2⟩:=A3 DH;have HM:=EB hR;have hx1:(AE m.kind 1)=true→(Az m.pos.toNat).length≤10:=fun _=>(AZ _).1;have hx2:(AE m.kind 2)=true→(Az m.count.toNat).length≤10:=fun _=>(AZ _).1;have hx4:(AE m.kind 4)=true→([UInt8.ofNat m.state.toNat]).length≤1:=fun _=>by simp
 have hx8:(AE m.kind 8)=true→(Dw m.streams).length≤170:=fun e=>by have:=NK m.streams;have:=(HM.streams e).1;omega
 have hx16:(AE m.kind 16)=true→(Ci m.pos m.links).length≤830:=fun e=>MI _ _ (HM.links e);have hxD:(Bw m.kind m.state)=true→(Bk m.data).length≤1048587:=fun e=>by have:=KM m.data;have:=(AZ m.data.length).1;have:=HM.data;omega
 have hx64:(AE m.kind 64)=true→(Dy m.sea).length≤30:=fun e=>Ry _;have hx128:(AE m.kind 128)=true→(Dz m.proj).length≤47380:=fun e=>N3 (HM.proj e);have hc2:=HM.count;have hc4:AE m.kind 4=true→1≤m.state∧m.state≤20:=fun e=>by have:=HM.state e;have:=Yn m.kind;omega
 have hc8:=HM.streams;have hdl:=HM.data;have C1:=hid (Gi m.pos hd.pos);have C2:=hid (fun (h:AE m.kind 2=true) (W:World)=>Gi m.count (by have:=hc2 h;omega) W);have C8:=hid (fun (h:AE m.kind 8=true) (W:World) (hW:Below w.heap.size w W)=>MC W m.streams a1 _ c1 (lift hd.streams hW) (hc8 h).2 (by have:=(hc8 h).1;omega));have C16:=hid (fun (h:AE m.kind 16=true) (W:World) (hW:Below w.heap.size w W)=>RE W m.pos hd.pos m.links a2 _ c2 (lift hd.links hW) (HM.links h) hbk);have CD:=hid (fun (W:World) (hW:Below w.heap.size w W)=>RK W m.data a3 _ c3 (lift hd.data hW) hdl);have C64:=hid (fun (W:World)=>RJ W m.sea hd.sealE hd.sealN hd.sealT);have C128:=hid (fun (h:AE m.kind 128=true) (W:World) (hW:Below w.heap.size w W)=>RH W m.proj a4 _ c4 hd.projE (lift hd.stripes hW) (HM.proj h));have HH1:=hid (fun W:World=>Gh m.kind 1 zU W);have HH2:=hid (fun W:World=>Gh m.kind 2 zU W);have HH4:=hid (fun W:World=>Gh m.kind 4 zU W);have HH8:=hid (fun W:World=>Gh m.kind 8 zU W);have HH16:=hid (fun W:World=>Gh m.kind 16 zU W);have HHD:=hid (fun W:World=>RD m.kind m.state W);have HH64:=hid (fun W:World=>Gh m.kind 64 zU W);have HH128:=hid (fun W:World=>Gh m.kind 128 zU W);have hmb:D4 m=AQ (AE m.kind 1) (Az m.pos.toNat)++AQ (AE m.kind 2) (Az m.count.toNat)++AQ (AE m.kind 4) ([UInt8.ofNat m.state.toNat])++AQ (AE m.kind 8) (Dw m.streams)++AQ (AE m.kind 16) (Ci m.pos m.links)++AQ (Bw m.kind m.state) (Bk m.data)++AQ (AE m.kind 64) (Dy m.sea)++AQ (AE m.kind 128) (Dz m.proj):=rfl;rw[hmb];have hsb:Dw m.streams=Az m.streams.length++GO m.streams:=rfl;have HSB:=hid hsb;clear hd hbk hR HM hmb hsb;generalize (AE m.kind 1)=H1 at*;generalize (AE m.kind 2)=H2 at*;generalize (AE m.kind 4)=H4 at*;generalize (AE m.kind 8)=H8 at*;generalize (AE m.kind 16)=H16 at*;generalize (Bw m.kind m.state)=HD at*;generalize (AE m.kind 64)=H64 at*;generalize (AE m.kind 128)=H128 at*;have HBX:Hid (Blk (w.alloc (.cells Acq 45)) w.heap.size 45 Acq):=hid (Blk.new w _ _);have hb0:Below w.heap.size w (w.alloc (.cells Acq 45)):=zB;have hs0:w.heap.size<(w.alloc (.cells Acq 45)).heap.size:=zN;have hy0:=HBX.out.cell 0
 (try simp at hy0)
 go_enter Tryz.func122,Tryz.ntmps122;go_wp2_with fail;generalize w.alloc (.cells Acq 45)=w0 at*;have HB0:=hid hb0;clear hb0 hy0;have HB1:Hid (Below w0.heap.size w0 w0):=hid (Below.refl _ _);refine (HH1.out _).mono ?_;rintro r v1 ⟨rfl,hb1⟩;have HC1:=hid (Af hb1 HB1.out);clear hb1;go_upto_if 8 with (fail);go_cut [3] from 9 to 13 (fun v V=>∃(J:List UInt8) (aJ:Option Addr) (cJ:Nat),v=.slice aJ J.length cJ∧BD V w0.heap.size v J∧Hid (J=AQ H1 (Az m.pos.toNat))∧J.length≤10∧Below w0.heap.size w0 V)
 case first=>
  have HBV:=hid (HB0.out.trans (HC1.out.mono HB0.out.size));have hzz:=HC1.out.size;cases H1
  ·go_wp2_with fail
   go_meet
   case rel=>exact ⟨[],none,0,rfl,⟨rfl,.inl ⟨rfl,rfl⟩⟩,hid rfl,Am _,HC1.out⟩
  ·have hxl:=hx1 rfl
   have HX:=hid (HBX.out.later HC1.out);have y3:v1.cell? ⟨w.heap.size,3,none⟩=some (.int .u64 m.pos):=HX.out.cell 3;have HPN:Hid (BD v1 w0.heap.size (.slice none 0 0) ([]:List UInt8)):=hid ⟨rfl,.inl ⟨rfl,rfl⟩⟩;have HONE:=hid (AI (Az m.pos.toNat));generalize Az m.pos.toNat=X at*;go_wp2_with fail;refine (C1.out _).mono ?_;rintro r x1 ⟨v1,rfl,hv1,hb1⟩;obtain⟨aX,cX,rfl⟩:=AD hv1;have HS1:=hid (A8 (BM rfl hv1));clear hv1;have HQ1:=hid (AF HPN.out hb1);have hz1s:=hb1.size;clear y3;go_wp2_with (at_builtin;go_loud (refine Ar rfl _ _ _ rfl w0.heap.size 5 i0 (.int .u8 0) 1 1 Au hi hz0 hz1 hz2 rfl zO (.slice none 0 0) 0 [] rfl (HQ1.out) (aX) (X.length) (cX) (byteCells X) rfl (HS1.out) HONE.out zK zD zD ?_;intro v' w2x hown2x hgrow2x hat2x;obtain⟨a2x,c2x,rfl⟩:=AD hown2x;have HO2x:=hid (BD.Aco hown2x);have hbg2x:Below w0.heap.size x1 w2x:=(Below.grown (Below.refl _ _) hgrow2x zD (fun g e=>(BI (HQ1.out) g e).1));clear hown2x hgrow2x hat2x))
   have hbe:Below w0.heap.size w0 w2x:=HC1.out.trans ((hb1.mono zD).trans hbg2x);go_meet
   case rel=>exact ⟨X,a2x,c2x,rfl,by have:=HO2x.out;rwa [A1] at this,hid (by simp[AQ]),zD,hbe⟩
 case rest=>
 obtain⟨J1,a1',c1',rfl,ho,he,hl1,hbc⟩:=hcut;have HO1:=hid ho;have HE1:=hid he;have HD1:=hid hbc;clear ho he hbc;obtain⟨w1,hwn⟩:∃W:World,W=wc:=⟨_,rfl⟩;subst hwn;go_wp2_with fail;refine (HH2.out _).mono ?_;rintro r v2 ⟨rfl,hb2⟩;have HC2:=hid (Af hb2 HD1.out);have HP2:=hid (AF HO1.out hb2);clear hb2;go_upto_if 15 with (fail);go_cut [3] from 16 to 21 (fun v V=>∃(J:List UInt8) (aJ:Option Addr) (cJ:Nat),v=.slice aJ J.length cJ∧BD V w0.heap.size v J∧Hid (J=AQ H1 (Az m.pos.toNat)++AQ H2 (Az m.count.toNat))∧J.length≤20∧Below w0.heap.size w0 V)
 case first=>
  have HBV:=hid (HB0.out.trans (HC2.out.mono HB0.out.size));have hzz:=HC2.out.size;cases H2
  ·go_wp2_with fail
   go_meet
   case rel=>exact ⟨J1,a1',c1',rfl,HP2.out,hid (by rw[HE1.out];simp[AQ]),zD,HC2.out⟩
  ·have hxl:=hx2 rfl
   have hcc:=hc2 rfl;have hcz:0≤m.count:=zD;have hcy:m.count≤65536:=hcc.2;have HX:=hid (HBX.out.later HC2.out);have y4:v2.cell? ⟨w.heap.size,4,none⟩=some (.int .i64 m.count):=HX.out.cell 4;have HONE:=hid (AI (Az m.count.toNat));generalize Az m.count.toNat=X at*;go_wp2_with fail;refine (C2.out zCd _).mono ?_;rintro r x1 ⟨v1,rfl,hv1,hb1⟩;obtain⟨aX,cX,rfl⟩:=AD hv1;have HS1:=hid (A8 (BM rfl hv1));clear hv1;have HQ1:=hid (AF HP2.out hb1);have hz1s:=hb1.size;clear y4;go_wp2_with (at_builtin;go_loud (refine Ar rfl _ _ _ rfl w0.heap.size 5 i0 (.int .u8 0) 1 1 Au hi hz0 hz1 hz2 rfl zO (.slice a1' J1.length c1') J1.length (byteCells J1) rfl (HQ1.out) (aX) (X.length) (cX) (byteCells X) rfl (HS1.out) HONE.out zK zD zD ?_;intro v' w2x hown2x hgrow2x hat2x;obtain⟨a2x,c2x,rfl⟩:=AD hown2x;have HO2x:=hid (BD.app hown2x);have hbg2x:Below w0.heap.size x1 w2x:=(Below.grown (Below.refl _ _) hgrow2x zD (fun g e=>(BI (HQ1.out) g e).1));clear hown2x hgrow2x hat2x))
   have hbe:Below w0.heap.size w0 w2x:=HC2.out.trans ((hb1.mono zD).trans hbg2x);go_meet
   case rel=>exact ⟨J1++X,_,_,ZB,HO2x.out,hid (by rw[HE1.out];rfl),ZI,hbe⟩
 case rest=>
 obtain⟨J2,a2',c2',rfl,ho,he,hl2,hbc⟩:=hcut;have HO2:=hid ho;have HE2:=hid he;have HD2:=hid hbc;clear ho he hbc;obtain⟨w2,hwn⟩:∃W:World,W=wc:=⟨_,rfl⟩;subst hwn;go_wp2_with fail;refine (HH4.out _).mono ?_;rintro r v3 ⟨rfl,hb3⟩;have HC3:=hid (Af hb3 HD2.out);have HP3:=hid (AF HO2.out hb3);clear hb3;go_upto_if 23 with (fail);go_cut [3] from 24 to 29 (fun v V=>∃(J:List UInt8) (aJ:Option Addr) (cJ:Nat),v=.slice aJ J.length cJ∧BD V w0.heap.size v J∧Hid (J=AQ H1 (Az m.pos.toNat)++AQ H2 (Az m.count.toNat)++AQ H4 ([UInt8.ofNat m.state.toNat]))∧J.length≤21∧Below w0.heap.size w0 V)
 case first=>
  have HBV:=hid (HB0.out.trans (HC3.out.mono HB0.out.size));have hzz:=HC3.out.size;cases H4
  ·go_wp2_with fail
   go_meet
   case rel=>exact ⟨J2,a2',c2',rfl,HP3.out,hid (by rw[HE2.out];simp[AQ]),zD,HC3.out⟩
  ·have hxl:=hx4 rfl
   have hcc:=hc4 rfl;have hcz:0≤m.state:=zD;have hcy:m.state≤20:=hcc.2;have HX:=hid (HBX.out.later HC3.out);have y5:v3.cell? ⟨w.heap.size,5,none⟩=some (.int .i64 m.state):=HX.out.cell 5;go_wp2_with (at_builtin;go_loud (refine Ar rfl _ _ _ rfl w0.heap.size 5 i0 (.int .u8 0) 1 1 Au hi hz0 hz1 hz2 rfl zO (.slice a2' J2.length c2') J2.length (byteCells J2) rfl (AF HP3.out zA) (some ⟨v3.heap.size,0,none⟩) (1) (1) [.int .u8 m.state] rfl (By v3 _ _ rfl rfl rfl) zW zK zD zH ?_;intro v' w2x hown2x hgrow2x hat2x;obtain⟨a2x,c2x,rfl⟩:=AD hown2x;have HO2x:=hid (BD.Acn zD zD hown2x);have hbg2x:Below w0.heap.size (v3.alloc (.cells #[.int .u8 m.state] 5)) w2x:=(Below.grown (Below.refl _ _) hgrow2x zH (fun g e=>(BI (AF HP3.out zA) g e).1));clear hown2x hgrow2x hat2x))
   have hbe:Below w0.heap.size w0 w2x:=HC3.out.trans (((Below.refl _ _).alloc zD _).trans hbg2x);go_meet
   case rel=>exact ⟨J2++[UInt8.ofNat m.state.toNat],_,_,zCc,HO2x.out,hid (by rw[HE2.out];rfl),zAt,hbe⟩
 case rest=>
 obtain⟨J3,a3',c3',rfl,ho,he,hl3,hbc⟩:=hcut;have HO3:=hid ho;have HE3:=hid he;have HD3:=hid hbc;clear ho he hbc;obtain⟨w3,hwn⟩:∃W:World,W=wc:=⟨_,rfl⟩;subst hwn;go_wp2_with fail;refine (HH8.out _).mono ?_;rintro r v4 ⟨rfl,hb4⟩;have HC4:=hid (Af hb4 HD3.out);have HP4:=hid (AF HO3.out hb4);clear hb4;go_upto_if 31 with (fail);go_cut [3] from 32 to 43 (fun v V=>∃(J:List UInt8) (aJ:Option Addr) (cJ:Nat),v=.slice aJ J.length cJ∧BD V w0.heap.size v J∧Hid (J=AQ H1 (Az m.pos.toNat)++AQ H2 (Az m.count.toNat)++AQ H4 ([UInt8.ofNat m.state.toNat])++AQ H8 (Dw m.streams))∧J.length≤191∧Below w0.heap.size w0 V)
 case first=>
  have HBV:=hid (HB0.out.trans (HC4.out.mono HB0.out.size));have hzz:=HC4.out.size;cases H8
  ·go_wp2_with fail
   go_meet
   case rel=>exact ⟨J3,a3',c3',rfl,HP4.out,hid (by rw[HE3.out];simp[AQ]),zD,HC4.out⟩
  ·have hxl:=hx8 rfl
   have hcc:=(hc8 rfl).1;rw[HSB.out,Ag] at hxl;have HX:=hid (HBX.out.later HC4.out);have y6:v4.cell? ⟨w.heap.size,6,none⟩=some (.slice a1 m.streams.length c1):=HX.out.cell 6;have hvx:=DO (x:=m.streams.length) zD;have HONE:=hid (AI (GO m.streams));have HSS:=HSB;generalize GO m.streams=UX at*;go_wp2_with (at_builtin;go_loud (refine Ar rfl _ _ _ rfl w0.heap.size 5 i0 (.int .u8 0) 1 1 Au hi hz0 hz1 hz2 rfl zO (.slice a3' J3.length c3') J3.length (byteCells J3) rfl (AF HP4.out zA) (some ⟨v4.heap.size,0,none⟩) (1) (1) [.int .u8 (m.streams.length:Int)] rfl (By v4 _ _ rfl rfl rfl) zW zK zD zH ?_;intro v' w2x hown2x hgrow2x hat2x;obtain⟨a2x,c2x,rfl⟩:=AD hown2x;have HO2x:=hid (BD.Aac zD hown2x);have hbg2x:Below w0.heap.size (v4.alloc (.cells #[.int .u8 (m.streams.length:Int)] 5)) w2x:=(Below.grown (Below.refl _ _) hgrow2x zH (fun g e=>(BI (AF HP4.out zA) g e).1));have hb2:Below w0.heap.size v4 w2x:=(((Below.refl _ _).alloc zD _).trans hbg2x);have HX2:=hid (HBX.out.below (HC4.out.trans hb2) hs0);have z6:w2x.cell? ⟨w.heap.size,6,none⟩=some (.slice a1 m.streams.length c1):=HX2.out.cell 6;clear hown2x hgrow2x hat2x))
   have hbf:=HC4.out.trans hb2;have HBF:=hid hbf;have hln:(J3++Az m.streams.length).length=J3.length+1:=by rw[Ag,hvx]
   generalize hJJ:J3++Az m.streams.length=JJ at*;have HJJ:=hid hJJ;have HP2:=hid HO2x.out;rw[←hln] at HP2 ⊢;have hzf:=hbf.size;have HCC:=hid (C8.out zCd w2x (HB0.out.trans (hbf.mono HB0.out.size)));have hJJl:JJ.length+UX.length≤2000000:=zD;have hJJm:JJ.length+UX.length≤191:=zD;clear hJJ hln hb2 hbg2x hbf;refine HCC.out.mono ?_;rintro r x3 ⟨v3,rfl,hv3,hb3⟩;obtain⟨aY,cY,rfl⟩:=AD hv3;have HS3:=hid (A8 (BM rfl hv3));have HQ3:=hid (AF HP2.out hb3);have hz3s:=hb3.size;clear hv3 y6 z6;go_wp2_with (at_builtin;go_loud (refine Ar rfl _ _ _ rfl w0.heap.size 5 i0 (.int .u8 0) 1 1 Au hi hz0 hz1 hz2 rfl zO (.slice a2x JJ.length c2x) JJ.length (byteCells JJ) rfl (HQ3.out) (aY) (UX.length) (cY) (byteCells UX) rfl (HS3.out) HONE.out zK zD zD ?_;intro v' w4x hown4x hgrow4x hat4x;obtain⟨a4x,c4x,rfl⟩:=AD hown4x;have HO4x:=hid (BD.app hown4x);have hbg4x:Below w0.heap.size x3 w4x:=(Below.grown (Below.refl _ _) hgrow4x zD (fun g e=>(BI (HQ3.out) g e).1));clear hown4x hgrow4x hat4x))
   have hbe:Below w0.heap.size w0 w4x:=HBF.out.trans ((hb3.mono zD).trans hbg4x);go_meet
   case rel=>exact ⟨JJ++UX,_,_,ZB,HO4x.out,hid (by rw[←HJJ.out,HE3.out,Ao,←HSS.out];rfl),ZI,hbe⟩
 case rest=>
 obtain⟨J4,a4',c4',rfl,ho,he,hl4,hbc⟩:=hcut;have HO4:=hid ho;have HE4:=hid he;have HD4:=hid hbc;clear ho he hbc;obtain⟨w4,hwn⟩:∃W:World,W=wc:=⟨_,rfl⟩;subst hwn;go_wp2_with fail;refine (HH16.out _).mono ?_;rintro r v5 ⟨rfl,hb5⟩;have HC5:=hid (Af hb5 HD4.out);have HP5:=hid (AF HO4.out hb5);clear hb5;go_upto_if 45 with (fail);go_cut [3] from 46 to 52 (fun v V=>∃(J:List UInt8) (aJ:Option Addr) (cJ:Nat),v=.slice aJ J.length cJ∧BD V w0.heap.size v J∧Hid (J=AQ H1 (Az m.pos.toNat)++AQ H2 (Az m.count.toNat)++AQ H4 ([UInt8.ofNat m.state.toNat])++AQ H8 (Dw m.streams)++AQ H16 (Ci m.pos m.links))∧J.length≤1021∧Below w0.heap.size w0 V)
 case first=>
  have HBV:=hid (HB0.out.trans (HC5.out.mono HB0.out.size));have hzz:=HC5.out.size;cases H16
  ·go_wp2_with fail
   go_meet
   case rel=>exact ⟨J4,a4',c4',rfl,HP5.out,hid (by rw[HE4.out];simp[AQ]),zD,HC5.out⟩
  ·have hxl:=hx16 rfl
   have HX:=hid (HBX.out.later HC5.out);have y3:v5.cell? ⟨w.heap.size,3,none⟩=some (.int .u64 m.pos):=HX.out.cell 3;have y7:v5.cell? ⟨w.heap.size,7,none⟩=some (.slice a2 m.links.length c2):=HX.out.cell 7;have HONE:=hid (AI (Ci m.pos m.links));generalize Ci m.pos m.links=X at*;go_wp2_with fail;refine (C16.out zCd _ HBV.out).mono ?_;rintro r x1 ⟨v1,rfl,hv1,hb1⟩;obtain⟨aX,cX,rfl⟩:=AD hv1;have HS1:=hid (A8 (BM rfl hv1));clear hv1;have HQ1:=hid (AF HP5.out hb1);have hz1s:=hb1.size;clear y3 y7;go_wp2_with (at_builtin;go_loud (refine Ar rfl _ _ _ rfl w0.heap.size 5 i0 (.int .u8 0) 1 1 Au hi hz0 hz1 hz2 rfl zO (.slice a4' J4.length c4') J4.length (byteCells J4) rfl (HQ1.out) (aX) (X.length) (cX) (byteCells X) rfl (HS1.out) HONE.out zK zD zD ?_;intro v' w2x hown2x hgrow2x hat2x;obtain⟨a2x,c2x,rfl⟩:=AD hown2x;have HO2x:=hid (BD.app hown2x);have hbg2x:Below w0.heap.size x1 w2x:=(Below.grown (Below.refl _ _) hgrow2x zD (fun g e=>(BI (HQ1.out) g e).1));clear hown2x hgrow2x hat2x))
   have hbe:Below w0.heap.size w0 w2x:=HC5.out.trans ((hb1.mono zD).trans hbg2x);go_meet
   case rel=>exact ⟨J4++X,_,_,ZB,HO2x.out,hid (by rw[HE4.out];rfl),ZI,hbe⟩
 case rest=>
 obtain⟨J5,a5',c5',rfl,ho,he,hl5,hbc⟩:=hcut;have HO5:=hid ho;have HE5:=hid he;have HD5:=hid hbc;clear ho he hbc;obtain⟨w5,hwn⟩:∃W:World,W=wc:=⟨_,rfl⟩;subst hwn;have q5:w5.cell? ⟨w.heap.size,5,none⟩=some (.int .i64 m.state):=(HBX.out.later HD5.out).cell 5;go_wp2_with fail;refine (HHD.out _).mono ?_;rintro r v6 ⟨rfl,rfl⟩;clear q5;have HP6:=hid (HO5.out);go_upto_if 56 with (fail);go_cut [3] from 57 to 61 (fun v V=>∃(J:List UInt8) (aJ:Option Addr) (cJ:Nat),v=.slice aJ J.length cJ∧BD V w0.heap.size v J∧Hid (J=AQ H1 (Az m.pos.toNat)++AQ H2 (Az m.count.toNat)++AQ H4 ([UInt8.ofNat m.state.toNat])++AQ H8 (Dw m.streams)++AQ H16 (Ci m.pos m.links)++AQ HD (Bk m.data))∧J.length≤1049608∧Below w0.heap.size w0 V)
 case first=>
  have HBV:=hid (HB0.out.trans (HD5.out.mono HB0.out.size));have hzz:=HD5.out.size;cases HD
  ·go_wp2_with fail
   go_meet
   case rel=>exact ⟨J5,a5',c5',rfl,HP6.out,hid (by rw[HE5.out];simp[AQ]),zD,HD5.out⟩
  ·have hxl:=hxD rfl
   have HX:=hid (HBX.out.later HD5.out);have y8:w5.cell? ⟨w.heap.size,8,none⟩=some (.slice a3 m.data.length c3):=HX.out.cell 8;have HONE:=hid (AI (Bk m.data));generalize Bk m.data=X at*;go_wp2_with fail;refine (CD.out _ HBV.out).mono ?_;rintro r x1 ⟨v1,rfl,hv1,hb1⟩;obtain⟨aX,cX,hve,hv1',_⟩:=AN hv1;simp only[As,AM] at hve;subst hve;have HS1:=hid (A8 hv1');clear hv1 hv1';have HQ1:=hid (AF HP6.out hb1);have hz1s:=hb1.size;clear y8;go_wp2_with (at_builtin;go_loud (refine Ar rfl _ _ _ rfl w0.heap.size 5 i0 (.int .u8 0) 1 1 Au hi hz0 hz1 hz2 rfl zO (.slice a5' J5.length c5') J5.length (byteCells J5) rfl (HQ1.out) (aX) (X.length) (cX) (byteCells X) rfl (HS1.out) HONE.out zK zD zD ?_;intro v' w2x hown2x hgrow2x hat2x;obtain⟨a2x,c2x,rfl⟩:=AD hown2x;have HO2x:=hid (BD.app hown2x);have hbg2x:Below w0.heap.size x1 w2x:=(Below.grown (Below.refl _ _) hgrow2x zD (fun g e=>(BI (HQ1.out) g e).1));clear hown2x hgrow2x hat2x))
   have hbe:Below w0.heap.size w0 w2x:=HD5.out.trans ((hb1.mono zD).trans hbg2x);go_meet
   case rel=>exact ⟨J5++X,_,_,ZB,HO2x.out,hid (by rw[HE5.out];rfl),ZI,hbe⟩
 case rest=>
 obtain⟨J6,a6',c6',rfl,ho,he,hl6,hbc⟩:=hcut;have HO6:=hid ho;have HE6:=hid he;have HD6:=hid hbc;clear ho he hbc;obtain⟨w6,hwn⟩:∃W:World,W=wc:=⟨_,rfl⟩;subst hwn;go_wp2_with fail;refine (HH64.out _).mono ?_;rintro r v7 ⟨rfl,hb7⟩;have HC7:=hid (Af hb7 HD6.out);have HP7:=hid (AF HO6.out hb7);clear hb7;go_upto_if 63 with (fail);go_cut [3] from 64 to 68 (fun v V=>∃(J:List UInt8) (aJ:Option Addr) (cJ:Nat),v=.slice aJ J.length cJ∧BD V w0.heap.size v J∧Hid (J=AQ H1 (Az m.pos.toNat)++AQ H2 (Az m.count.toNat)++AQ H4 ([UInt8.ofNat m.state.toNat])++AQ H8 (Dw m.streams)++AQ H16 (Ci m.pos m.links)++AQ HD (Bk m.data)++AQ H64 (Dy m.sea))∧J.length≤1049638∧Below w0.heap.size w0 V)
 case first=>
  have HBV:=hid (HB0.out.trans (HC7.out.mono HB0.out.size));have hzz:=HC7.out.size;cases H64
  ·go_wp2_with fail
   go_meet
   case rel=>exact ⟨J6,a6',c6',rfl,HP7.out,hid (by rw[HE6.out];simp[AQ]),zD,HC7.out⟩
  ·have hxl:=hx64 rfl
   have HX:=hid (HBX.out.later HC7.out);have y9:v7.cell? ⟨w.heap.size,9,none⟩=some (.int .u64 m.sea.epoch):=HX.out.cell 9;have y10:v7.cell? ⟨w.heap.size,10,none⟩=some (.int .u64 m.sea.node):=HX.out.cell 10;have y11:v7.cell? ⟨w.heap.size,11,none⟩=some (.int .u64 m.sea.tail):=HX.out.cell 11;have HONE:=hid (AI (Dy m.sea));generalize Dy m.sea=X at*;go_wp2_with fail;refine (C64.out _).mono ?_;rintro r x1 ⟨v1,rfl,hv1,hb1⟩;obtain⟨aX,cX,rfl⟩:=AD hv1;have HS1:=hid (A8 (BM rfl hv1));clear hv1;have HQ1:=hid (AF HP7.out hb1);have hz1s:=hb1.size;clear y9 y10 y11;go_wp2_with (at_builtin;go_loud (refine Ar rfl _ _ _ rfl w0.heap.size 5 i0 (.int .u8 0) 1 1 Au hi hz0 hz1 hz2 rfl zO (.slice a6' J6.length c6') J6.length (byteCells J6) rfl (HQ1.out) (aX) (X.length) (cX) (byteCells X) rfl (HS1.out) HONE.out zK zD zD ?_;intro v' w2x hown2x hgrow2x hat2x;obtain⟨a2x,c2x,rfl⟩:=AD hown2x;have HO2x:=hid (BD.app hown2x);have hbg2x:Below w0.heap.size x1 w2x:=(Below.grown (Below.refl _ _) hgrow2x zD (fun g e=>(BI (HQ1.out) g e).1));clear hown2x hgrow2x hat2x))
   have hbe:Below w0.heap.size w0 w2x:=HC7.out.trans ((hb1.mono zD).trans hbg2x);go_meet
   case rel=>exact ⟨J6++X,_,_,ZB,HO2x.out,hid (by rw[HE6.out];rfl),ZI,hbe⟩
 case rest=>
 obtain⟨J7,a7',c7',rfl,ho,he,hl7,hbc⟩:=hcut;have HO7:=hid ho;have HE7:=hid he;have HD7:=hid hbc;clear ho he hbc;obtain⟨w7,hwn⟩:∃W:World,W=wc:=⟨_,rfl⟩;subst hwn;go_wp2_with fail;refine (HH128.out _).mono ?_;rintro r v8 ⟨rfl,hb8⟩;have HC8:=hid (Af hb8 HD7.out);have HP8:=hid (AF HO7.out hb8);clear hb8;go_upto_if 70 with (fail);go_cut [3] from 71 to 75 (fun v V=>∃(J:List UInt8) (aJ:Option Addr) (cJ:Nat),v=.slice aJ J.length cJ∧BD V w0.heap.size v J∧Hid (J=AQ H1 (Az m.pos.toNat)++AQ H2 (Az m.count.toNat)++AQ H4 ([UInt8.ofNat m.state.toNat])++AQ H8 (Dw m.streams)++AQ H16 (Ci m.pos m.links)++AQ HD (Bk m.data)++AQ H64 (Dy m.sea)++AQ H128 (Dz m.proj))∧J.length≤1097018∧Below w0.heap.size w0 V)
 case first=>
  have HBV:=hid (HB0.out.trans (HC8.out.mono HB0.out.size));have hzz:=HC8.out.size;cases H128
  ·go_wp2_with fail
   go_meet
   case rel=>exact ⟨J7,a7',c7',rfl,HP8.out,hid (by rw[HE7.out];simp[AQ]),zD,HC8.out⟩
  ·have hxl:=hx128 rfl
   have HX:=hid (HBX.out.later HC8.out);have y12:v8.cell? ⟨w.heap.size,12,none⟩=some (.int .u64 m.proj.epoch):=HX.out.cell 12;have y13:v8.cell? ⟨w.heap.size,13,none⟩=some (.slice a4 m.proj.stripes.length c4):=HX.out.cell 13;have HONE:=hid (AI (Dz m.proj));generalize Dz m.proj=X at*;go_wp2_with fail;refine (C128.out zCd _ HBV.out).mono ?_;rintro r x1 ⟨v1,rfl,hv1,hb1⟩;obtain⟨aX,cX,rfl⟩:=AD hv1;have HS1:=hid (A8 (BM rfl hv1));clear hv1;have HQ1:=hid (AF HP8.out hb1);have hz1s:=hb1.size;clear y12 y13;go_wp2_with (at_builtin;go_loud (refine Ar rfl _ _ _ rfl w0.heap.size 5 i0 (.int .u8 0) 1 1 Au hi hz0 hz1 hz2 rfl zO (.slice a7' J7.length c7') J7.length (byteCells J7) rfl (HQ1.out) (aX) (X.length) (cX) (byteCells X) rfl (HS1.out) HONE.out zK zD zD ?_;intro v' w2x hown2x hgrow2x hat2x;obtain⟨a2x,c2x,rfl⟩:=AD hown2x;have HO2x:=hid (BD.app hown2x);have hbg2x:Below w0.heap.size x1 w2x:=(Below.grown (Below.refl _ _) hgrow2x zD (fun g e=>(BI (HQ1.out) g e).1));clear hown2x hgrow2x hat2x))
   have hbe:Below w0.heap.size w0 w2x:=HC8.out.trans ((hb1.mono zD).trans hbg2x);go_meet
   case rel=>exact ⟨J7++X,_,_,ZB,HO2x.out,hid (by rw[HE7.out];rfl),ZI,hbe⟩
 case rest=>
 obtain⟨J8,a8',c8',rfl,ho,he,hl8,hbc⟩:=hcut;have HO8:=hid ho;have HE8:=hid he;have HD8:=hid hbc;clear ho he hbc;obtain⟨w8,hwn⟩:∃W:World,W=wc:=⟨_,rfl⟩;subst hwn;have HOL:=hid (GG HO8.out (Nat.le_of_lt hs0));have HBE:=hid (HB0.out.trans (HD8.out.mono HB0.out.size));go_wp2_with fail;go_ret;rw[←HE8.out];exact⟨_,rfl,HOL.out,HBE.out⟩
theorem Ab9{v5 v6 v7 v8 v9 v10 v11 v12 v13:Value}(h:Blk w g t #[v0,v1,v2,v3,v4,v5,v6,v7,v8,v9,v10,v11,v12,v13]):
  w.cell? ⟨g,0,none⟩=some v0∧w.cell? ⟨g,1,none⟩=some v1∧w.cell? ⟨g,2,none⟩=some v2∧w.cell? ⟨g,3,none⟩=some v3∧w.cell? ⟨g,4,none⟩=some v4∧w.cell? ⟨g,5,none⟩=some v5∧w.cell? ⟨g,6,none⟩=some v6∧w.cell? ⟨g,7,none⟩=some v7∧w.cell? ⟨g,8,none⟩=some v8∧w.cell? ⟨g,9,none⟩=some v9∧w.cell? ⟨g,10,none⟩=some v10∧w.cell? ⟨g,11,none⟩=some v11∧w.cell? ⟨g,12,none⟩=some v12∧w.cell? ⟨g,13,none⟩=some v13∧g<w.heap.size:=
 ⟨h.cell 0,h.cell 1,h.cell 2,h.cell 3,h.cell 4,h.cell 5,h.cell 6,h.cell 7,h.cell 8,h.cell 9,h.cell 10,h.cell 11,h.cell 12,h.cell 13,h.lt⟩
theorem YT:Tryz.prog.cellsOf 3=1:=zI
theorem AbL:Tryz.prog.cellsOf 40=3:=zI
theorem AbK:Tryz.prog.cellsOf 217=1:=zI
theorem WI:Tryz.prog.cellsOf 41=1:=zI
theorem AaW:Tryz.prog.cellsOf 43=2:=zI
theorem Yg:FY Tryz.prog 3 (GZ .i64):=PB Tryz.underlying3
theorem Abv:FY Tryz.prog 217 EH:=FJ (sz:=1) Tryz.underlying217 zI zO T3
theorem Er{H:Type}{enc:TypeId × Value→H}{P:Program}{cs:List Value}{n:Nat}{fs:Array Field}(h:∀(i:Nat) (f:Field),fs[i]? =some f→∃y,DataW.trod enc P w 0 (fun _=>true) true n f.type ((cs.drop f.offset).take (P.cellsOf f.type))=some y)
 {α:Type} {A:Rp α} {t:TypeId} (hA:FY P t A) (i:Nat) (f:Field) (o s:Nat) (hf:fs[i]? =some f) (ht:f.type=t) (ho:f.offset=o) (hs:P.cellsOf t=s):∃x,A.r (·<w.heap.size) w ((cs.drop o).take s) x:=by
 obtain⟨y,hy⟩:=h i f hf;rw[ht,ho,hs] at hy;exact hA enc w n _ _ hy
theorem Abw:FY Tryz.prog 40 XH:=fun enc w fuel cs x h=>by
 obtain⟨hl,n,hf⟩:=Gv Tryz.underlying40 h;have hl2:cs.length=3:=hl.trans zI;obtain⟨x0,r0⟩:=Fq hf JC 0 _ 0 rfl rfl rfl Km;obtain⟨x1,r1⟩:=Fq hf JC 1 _ 1 rfl rfl rfl Km;obtain⟨x2,r2⟩:=Fq hf JC 2 _ 2 rfl rfl rfl Km;exact⟨⟨x0,x1,x2⟩,ZX⟩
theorem Yf:FY Tryz.prog 219 IY:=fun enc w fuel cs x h=>by
 obtain⟨hl,n,hf⟩:=Gv Tryz.underlying219 h;have hl2:cs.length=3:=hl.trans zI;obtain⟨x0,r0⟩:=Fq hf JC 0 _ 0 rfl rfl rfl Km;obtain⟨x1,r1⟩:=Fq hf JC 1 _ 1 rfl rfl rfl Km;obtain⟨x2,r2⟩:=Fq hf Abv 2 _ 2 rfl rfl rfl AbK;exact⟨⟨x0,x1,x2⟩,ZX⟩
theorem Wg:FY Tryz.prog 41 Bq:=FJ (sz:=3) Tryz.underlying41 zI zO Yf
theorem AaA:FY Tryz.prog 43 TL:=fun enc w fuel cs x h=>by
 obtain⟨hl,n,hf⟩:=Gv Tryz.underlying43 h;have hl2:cs.length=2:=hl.trans zI;obtain⟨x0,r0⟩:=Fq hf JC 0 _ 0 rfl rfl rfl Km;obtain⟨x1,r1⟩:=Fq hf Wg 1 _ 1 rfl rfl rfl WI;exact⟨⟨x0,x1⟩,zAo⟩
theorem Ab7:FY Tryz.prog 45 QF:=fun enc w fuel cs x h=>by
 obtain⟨hl,n,hf⟩:=Gv Tryz.underlying45 h;have hl2:cs.length=14:=hl.trans zI;obtain⟨x0,r0⟩:=Er hf Yg 0 _ 0 1 rfl rfl rfl YT;obtain⟨x1,r1⟩:=Er hf JC 1 _ 1 1 rfl rfl rfl Km;obtain⟨x2,r2⟩:=Er hf JC 2 _ 2 1 rfl rfl rfl Km;obtain⟨x3,r3⟩:=Er hf JC 3 _ 3 1 rfl rfl rfl Km;obtain⟨x4,r4⟩:=Er hf Yg 4 _ 4 1 rfl rfl rfl YT;obtain⟨x5,r5⟩:=Er hf Yg 5 _ 5 1 rfl rfl rfl YT;obtain⟨x6,r6⟩:=Er hf T3 6 _ 6 1 rfl rfl rfl YS;obtain⟨x7,r7⟩:=Er hf AaB 7 _ 7 1 rfl rfl rfl AaX;obtain⟨x8,r8⟩:=Er hf Vk 8 _ 8 1 rfl rfl rfl AaY;obtain⟨x9,r9⟩:=Er hf Abw 9 _ 9 3 rfl rfl rfl AbL;obtain⟨x10,r10⟩:=Er hf AaA 10 _ 12 2 rfl rfl rfl AaW;exact⟨⟨x0,x1,x2,x3,x4,x5,x6,x7,x8,x9,x10⟩,by have h:=(ED (o:=0) (s:=1) (o':=1) rfl r0 (ED (o:=1) (s:=1) (o':=2) rfl r1 (ED (o:=2) (s:=1) (o':=3) rfl r2 (ED (o:=3) (s:=1) (o':=4) rfl r3 (ED (o:=4) (s:=1) (o':=5) rfl r4 (ED (o:=5) (s:=1) (o':=6) rfl r5 (ED (o:=6) (s:=1) (o':=7) rfl r6 (ED (o:=7) (s:=1) (o':=8) rfl r7 (ED (o:=8) (s:=1) (o':=9) rfl r8 (ED (o:=9) (s:=3) (o':=12) rfl r9 (Wo (o:=12) (s:=2) hl2 r10)))))))))));rw[CO] at h;exact h⟩
theorem N8{m:Msg}(h:Gl m=true):(∀x∈m.links,x.backs.length≤1000000)∧m.data.length≤1048576:=by
 refine⟨?_,(EB h).data⟩;unfold Gl at h;simp only[Aq] at h;have h5:=h.2.2.2.2.2.1;cases hh:AE m.kind 16
 ·rw[hh] at h5
  have:=List.length_eq_zero_iff.1 (Bc h5);rw[this];simp
 ·rw[hh] at h5
  have h6:CH m.pos m.links=true:=h5;simp only[CH,Aq,Na] at h6;intro x hx;have:=h6.2.2 x hx;simp only[Ec,Aq,Av] at this;omega
theorem R9(h:A9 S w m a1 c1 a2 c2 a3 c3 a4 c4):M8 m:=by
 refine⟨h.pos,Ew h.streams,fun x hx=> ?_,h.sealN.1,h.sealT.1,fun z hz x hx=> ?_⟩
 ·obtain⟨i,hi,rfl⟩:=Fa hx
  obtain⟨b,o,hA,hbb,p1,q1,hc0,hc1,hst,hd⟩:=EK h.links hi;exact⟨hst,fun y hy=>(Ew hd y hy).1⟩
 ·obtain⟨i,hi,rfl⟩:=Fa hz
  obtain⟨b,o,hA,hbb,p1,q1,hc0,hc1,hc2,ub0,ub1,hd1⟩:=Ge h.stripes hi;obtain⟨j,hj,rfl⟩:=Fa hx;obtain⟨b',o',hA',hbb',p2,q2,hc3,hd2⟩:=GQ hd1 hj;exact Ew hd2
end Go.Proofs.YtfddhafbhceoaaaGreat
