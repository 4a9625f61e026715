/- Mini: Needed by segmentOnce_walk, part 13: texts put together by shake.py; no condition. -/
import Derived.Test.YtfddhafbhceoaaaGreatWC5
import Derived.Test.YtfddhafbhceoaaaGreatWC4
import Derived.Test.YtfddhafbhceoaaaGreatWC2
import Derived.Test.YtfddhafbhceoaaaGreatWC1
import Derived.Test.YtfddhafbhceoaaaGreatWC12
import Derived.Deep.Cut
import Derived.Test.YtfddhafbhceoaaaGreatWC11
import Derived.Test.YtfddhafbhceoaaaGreatWC7
import Derived.Test.YtfddhafbhceoaaaGreatWC6
import Derived.Test.YtfddhafbhceoaaaGreatWC8
import Derived.Test.YtfddhafbhceoaaaGreatWC10
import Derived.Test.YtfddhafbhceoaaaGreatWC3
import Derived.Deep.WholeRow
import Derived.Test.YtfddhafbhceoaaaGreatWC9
set_option linter.unusedVariables false
set_option linter.unusedSimpArgs false
set_option maxRecDepth 100000
set_option maxHeartbeats 6400000
namespace Go.Bs
theorem zAi{p:Prop}(h:p:=by simp [results, Tryz.results199, go_sem, m0, m1', m2', m3', m4', m5', m6', q0, q1, lm, lq]):p:=h
theorem Z5{p:Prop}(h:p:=by simp [results, Tryz.results123, go_sem, m0, m1, m2, lm]):p:=h
abbrev Vl(h:Array Value:=by exact #[.int .u64 ep,.int .i64 n,.int .i64 en,.int .u64 fi,.int .u64 fe,.int .i64 a,.int .i64 s]):=h
abbrev Vn(h:Array Value:=by exact #[.int .u64 (e:Int),.int .i64 0,.int .i64 0,.int .u64 0,.int .u64 0,.int .i64 0,.int .i64 0]):=h
abbrev Vk(h:Array Value:=by exact #[.int .u64 WF.ep,.int .i64 WF.n,.int .i64 WF.en,.int .u64 WF.first,.int .u64 WF.fin,.int .i64 WF.at_,.int .i64 WF.size]):=h
abbrev Vm(h:Array Value:=by exact #[.int .u64 (e:Int),.int .i64 (m1:Int),.int .i64 (m2:Int),.int .u64 (m3:Int),.int .u64 (m4:Int),.int .i64 (m5:Int),.int .i64 (m6:Int)]):=h
theorem GX:type_of% @Eq.symm:=@Eq.symm
end Go.Bs
namespace Go.Proofs.YtfddhafbhceoaaaGreat
open Go.RowKit Go.Bs Go.Maps
variable{q:Bool}{f:Int}{B:List UInt8}{g gc gr:Nat}{a:Option Addr}{s:Rs}{t:TypeId}{v0 v1 v2:Value}{W w:World}
set_option maxHeartbeats 12800000 in
theorem Oq(W:World){s0:Rs}{ep:Int}{fi0:Int}{T0:Nat}(h:Bi w gr gc B a s0 ep (.slice none 0 0) [] (.slice none 0 0) [] true fi0 T0 W)(hB:B.length≤1000000000)(hf0:s0.k=0→s0.fit B.length){fn:Nat}{blk:List UInt8→Rs→Rs × List UInt8 × Bool}(hR:TN fn blk){RES:Rs × Nat × List Batch × List AU × Bool}(hres:Kw B ep blk s0=RES):
  Calls Tryz.prog 125 #[.pointer (some ⟨gr,0,none⟩),.func (Fn.func fn) #[] #[]] W fun r W'=>r=.returned (.tuple #[])∧(∃vL l vM M q fi T,Bi w gr gc B a RES.1 ep vL l vM M q fi T W'∧(RES.1.k=0→fi=(RES.2.1:Int)∧l=RES.2.2.1∧M=RES.2.2.2.1∧q=RES.2.2.2.2))∧W.heap.size≤W'.heap.size:=by
 have HI:=hid h;have HRR:=hid hR;have HRI:=hid (H7.start (ep:=ep) (blk:=blk) hf0);rw[hres] at HRI;clear h hR hres hf0;go_enter Tryz.func125,Tryz.ntmps125;go_wp2_with fail;go_loopw [4] (fun _ wr=>∃(s:Rs) (vL:Value) (l:List Batch) (vM:Value) (M:List AU) (q:Bool) (fi:Int) (T:Nat),Bi w gr gc B a s ep vL l vM M q fi T wr∧H7 B ep blk RES s l M q∧W.heap.size≤wr.heap.size) (fun _ wr=>P8 gc B.length wr)
 case atStart=>exact ⟨s0,_,_,_,_,_,fi0,T0,HI.out,HRI.out,Ap _⟩
 case round=>
  obtain⟨s,vL,l,vM,M,q,fi,T,hi,hri,hzw⟩:=hrel;clear HI HRI;have HI:=hid hi;have HRI:=hid hri;have HGD:=hid (fun (V:World) (hV:AN V gc B a s)=>AK V hV);obtain⟨y0,y1,y2,y3,y4,y5,ly⟩:=CF hi.rb;have hmu:=Ii (L:=B.length) hi.inv.rd;have HMU:=hid hmu;clear hmu;by_cases hk:s.k=0
  ·rw[Ad hk] at HGD
   have HK:=hid hk;generalize hF:s.frame B 2097152=F at*;obtain⟨t,D⟩:=F;obtain⟨n,_,hn,hfit,h16,hM16,hlb⟩:=hri.go hk;have htf:=Rs.Gz hfit 2097152;rw[hF] at htf;dsimp only at htf;have hcan:=fun h0:t.k=0=>Rs.Ex hfit hF h0;have hsp:=hfit.ok.le;have HPA:=hid (fun (V:World) (hV:Bi w gr gc B a s ep vL l vM M q fi T V)=>Ko V hV hB hF);have HGT:=hid (fun (V:World) (hV:AN V gc B a t)=>AK V hV);have HF:=hid hF;have HLB:=hid hlb;have HTF:=hid htf;clear hk hF hlb hi hri htf hfit;go_wp2_with fail;refine (HGD.out _ HI.out.inv.rd).mono ?_;rintro r w1 ⟨rfl,hb1⟩;have HI1:=hid (HI.out.later hb1);have hz1:=hb1.size;clear hb1 HI y0 y1 y2 y3 y4 y5 ly HGD;go_wp2_with fail;refine (HPA.out _ HI1.out).mono ?_;rintro r w2 ⟨ap,cp,rfl,hD2,hi2,hz2,_⟩;have HI2:=hid hi2;have HD2:=hid hD2;obtain⟨y0,y1,y2,y3,y4,y5,ly⟩:=CF hi2.rb;clear hD2 hi2 HPA HI1;by_cases ht:t.k=0
   ·rw[Ad ht] at HGT
    obtain⟨c1,c2,c3,c4,c5⟩:=hcan ht;have hlow:=FU D;generalize hA:((t.p:Int)-4-(D.length:Int))=A at*;have hA1: -9000000≤A∧A≤1000000000:=zD;have HA:=hid hA;clear hA;have HT:=hid ht;clear hcan ht c1 c5;generalize (Ck D).length=fl at*;go_wp2_with fail;refine (HGT.out _ HI2.out.inv.rd).mono ?_;rintro r w3 ⟨rfl,hb3⟩;have HI3:=hid (HI2.out.later hb3);have HD3:=hid (show Ag.r (·<w3.heap.size) w3 [.slice ap D.length cp] D from Ag.mono (Ag.keep HD2.out (w':=w3) fun b e=>hb3.block b e.2) fun b e=>by have:=e.2;have:=hb3.size;omega);have hz3:=hb3.size;have hdl:=(AH HD3.out).2.1;clear hb3 HI2 HD2 HGT y0 y1 y2 y3 y4 y5 ly;have HNW:=hid (NF w3 D ap _ cp HD3.out);go_wp2_with fail;refine HNW.out.mono ?_;rintro r w4 ⟨rfl,hp4,hb4⟩;have HI4:=hid (HI3.out.later hb4);have HP4:=hid hp4;have hT4:=HI3.out.t2;have hz4:=hp4.blk.lt;clear hb4 hp4 HI3 HD3 HNW;obtain⟨gp,hgp⟩:∃gp,gp=w3.heap.size:=⟨_,rfl⟩;rw[←hgp] at hT4 HP4 hz4;generalize w3.heap.size=gq at*;subst hgp;have HBY:=hid (fun (V:World) (hV:AN V gp D ap ⟨0,0,0⟩)=>Jq V hV);by_cases hD:D=[]
    ·subst hD
     rw[Sx] at HBY;dsimp only at HBY;have hA0:(t.p:Int)-4-((0:Nat):Int)=A:=HA.out;have HRB:=hid (by have h0:=HRI.out.none HK.out HF.out HT.out;rw[hA0] at h0;exact h0);clear hA0;have HBADP:=hid (show ((⟨0,1,0⟩:Rs).fail 7 0)=⟨0,1,0⟩ from rfl);have HWI:=hid (fun (V:World) (hV:AN V gc B a t) (x0:V.cell? ⟨gr,0,none⟩=some (.pointer (some ⟨gc,0,none⟩)))=>(by have:=FI V hV x0 1 0 A;exact this));have hwt:t.within 1 0 A=t.fail 1 A:=by
      unfold Rs.within;rw[Ah zO];rw[show wrap64 (0+A)=A by simp only[wrap64];omega]
     rw[hwt] at HWI;clear hwt;have hne:(t.fail 1 A).k≠0:=Rs.A0 zO;generalize (t.fail 1 A)=z at*;have HPB:=hid (fun (V:World) (hV:AN V gp [] ap ⟨0,1,0⟩)=>Bd V hV 7 0 zO);rw[HBADP.out] at HPB;have HPF:=hid (fun (V:World) (hV:AN V gp [] ap ⟨0,1,0⟩)=>FK V hV);have HZ:=hid hne;clear hne HRI;go_wp2_with fail;refine (HBY.out _ HP4.out).mono ?_;rintro r w5 ⟨rfl,hst5⟩;have HP5:=hid hst5.1;have HI5:=hid (HI4.out.side hst5.2 (fun b e1 e2=>zD));have hz5:=hst5.2.size;clear hst5 HP4 HI4 HBY;go_wp2_with fail;refine (HPB.out _ HP5.out).mono ?_;rintro r w6 ⟨rfl,hst6⟩;have HP6:=hid hst6.1;have HI6:=hid (HI5.out.side hst6.2 (fun b e1 e2=>zD));have hz6:=hst6.2.size;clear hst6 HP5 HI5 HPB;go_wp2_with fail;refine (HPF.out _ HP6.out).mono ?_;rintro r w7 ⟨rfl,hb7⟩;have HI7:=hid (HI6.out.later hb7);have hz7:=hb7.size;clear hb7 HI6 HP6 HPF;obtain⟨y0,y1,y2,y3,y4,y5,ly⟩:=CF HI7.out.rb;go_wp2_with fail;refine (HWI.out _ HI7.out.inv.rd y0).mono ?_;rintro r w8 ⟨rfl,hst8⟩;have HI8:=hid (HI7.out.step hst8);have hz8:=hst8.2.size;clear hst8 HI7 HWI y0 y1 y2 y3 y4 y5 ly;go_wp2_with fail;go_roundw
     case rel=>exact ⟨z,vL,l,vM,M,q,_,T,HI8.out,HRB.out,zD⟩
     case measure=>
      rw[Ii HI8.out.inv.rd,HMU.out,Ai HK.out,Ah HZ.out];omega
    ·rw[QW hD] at HBY
     dsimp only at HBY;by_cases hd1:D.headD 0=1
     ·rw[hd1] at HBY
      obtain⟨tb,htb⟩:∃tb,tb=Rs.batch D (blk D) ⟨1,0,0⟩:=⟨_,rfl⟩;obtain⟨t1,x,bq⟩:=tb;obtain⟨u,hu⟩:∃u,t.within (t1.fin D.length).k (t1.fin D.length).f A=u:=⟨_,rfl⟩;have hu':t.within (t1.fin D.length).k (t1.fin D.length).f ((t.p:Int)-4-(D.length:Int))=u:=by rw[HA.out];exact hu
      have HBT:=hid (fun (V:World) (T':Nat) (hV:Bi w gr gc B a t ep vL l vM M q (s.p:Int) T' V) (hT':T'≤gp) (hp:AN V gp D ap ⟨1,0,0⟩)=>RK V hV hT' hp zD A HRR.out zD zD zD HLB.out htb.symm hu);have HRB:=hid (HRI.out.batch HRR.out.f HK.out HF.out HT.out hD hd1 htb.symm hu');have hut:(D9 u l ep x s.p).k=0→(D9 u l ep x s.p).p=t.p:=fun e=>by
       obtain⟨e1,e2⟩:=PC e;have e3:=ET (hu ▸ e2);rw[e1,←hu,e3,Rs.CS]
      generalize D9 u l ep x s.p=z at*;clear htb hu hu' HRI hD hd1;go_wp2_with fail;refine (HBY.out _ HP4.out).mono ?_;rintro r w5 ⟨rfl,hst5⟩;have HP5:=hid hst5.1;have HI5:=hid (HI4.out.side hst5.2 (fun b e1 e2=>zD));have hz5:=hst5.2.size;clear hst5 HP4 HI4 HBY;go_wp2_with fail;refine (HBT.out _ _ HI5.out hT4 HP5.out).mono ?_;rintro r w6 ⟨rfl,⟨vL6,vM6,l6,M6,q6,T6,hi6,he6⟩,hz6⟩;have HI6:=hid hi6;clear HI5 HP5 HBT hi6;go_wp2_with fail;go_roundw
      case rel=>
       refine⟨z,vL6,l6,vM6,M6,q6,_,T6,HI6.out,?_,zD⟩;by_cases hz:z.k=0
       ·obtain⟨e1,e2,e3⟩:=he6 hz
        have:=HRB.out;rw[Ai hz,Ai hz,Ai hz] at this;rw[e1,e2,e3];exact this
       ·exact⟨fun e=>absurd e hz,HRB.out.stop⟩
      case measure=>
       rw[Ii HI6.out.inv.rd,HMU.out,Ai HK.out];split
       ·rename_i hz
        have:=hut hz;omega
       ·omega
     ·by_cases hd2:D.headD 0=2
      ·rw[hd2] at HBY
       obtain⟨tb,htb⟩:∃tb,tb=(⟨1,0,0⟩:Rs).CK D:=⟨_,rfl⟩;obtain⟨t1,M1⟩:=tb;obtain⟨u,hu⟩:∃u,t.within (t1.fin D.length).k (t1.fin D.length).f A=u:=⟨_,rfl⟩;have hu':t.within (t1.fin D.length).k (t1.fin D.length).f ((t.p:Int)-4-(D.length:Int))=u:=by rw[HA.out];exact hu
       have HBT:=hid (fun (V:World) (T':Nat) (hV:Bi w gr gc B a t ep vL l vM M q (s.p:Int) T' V) (hT':T'≤gp) (hp:AN V gp D ap ⟨1,0,0⟩)=>RJ V hV hT' hp zD A zD htb.symm hu);have HRB:=hid (HRI.out.index HK.out HF.out HT.out hD hd2 htb.symm hu');generalize (if u.k=0∧M1≠M then u.fail 12 (s.p:Int) else u)=z at*;clear htb hu hu' HRI hD hd1 hd2;go_wp2_with fail;refine (HBY.out _ HP4.out).mono ?_;rintro r w5 ⟨rfl,hst5⟩;have HP5:=hid hst5.1;have HI5:=hid (HI4.out.side hst5.2 (fun b e1 e2=>zD));have hz5:=hst5.2.size;clear hst5 HP4 HI4 HBY;go_wp2_with fail;refine (HBT.out _ _ HI5.out hT4 HP5.out).mono ?_;rintro r w6 ⟨rfl,hi6,hz6⟩;have HI6:=hid hi6;clear HI5 HP5 HBT hi6;go_wp2_with fail;first | go_end0 | refine An (AO rfl _ _ _) rfl ?_
       rw[HRB.out];exact⟨rfl,⟨vL,l,vM,M,q,_,T,HI6.out,fun _=>⟨rfl,rfl,rfl,rfl⟩⟩,zD⟩
      ·have HRB:=hid (by have h0:=HRI.out.bad HK.out HF.out HT.out hD hd1 hd2;rw[HA.out] at h0;exact h0)
       have HBADP:=hid (show ((⟨1,0,0⟩:Rs).fail 7 0)=⟨1,7,0⟩ from rfl);have HWI:=hid (fun (V:World) (hV:AN V gc B a t) (x0:V.cell? ⟨gr,0,none⟩=some (.pointer (some ⟨gc,0,none⟩)))=>(by have:=FI V hV x0 7 0 A;exact this));have hwt:t.within 7 0 A=t.fail 7 A:=by
        unfold Rs.within;rw[Ah zO];rw[show wrap64 (0+A)=A by simp only[wrap64];omega]
       rw[hwt] at HWI;clear hwt;have hne:(t.fail 7 A).k≠0:=Rs.A0 zO;generalize (t.fail 7 A)=z at*;have HPB:=hid (fun (V:World) (hV:AN V gp D ap ⟨1,0,0⟩)=>Bd V hV 7 0 zO);rw[HBADP.out] at HPB;have HPF:=hid (fun (V:World) (hV:AN V gp D ap ⟨1,7,0⟩)=>FK V hV);have d1:(((D.headD 0).toNat:Int)==(1:Int))=false:=by
        rw[Br];intro e;apply hd1;have:(D.headD 0).toNat=1:=zD;exact UInt8.toNat_inj.1 this
       have d2:(((D.headD 0).toNat:Int)==(2:Int))=false:=by
        rw[Br];intro e;apply hd2;have:(D.headD 0).toNat=2:=zD;exact UInt8.toNat_inj.1 this
       generalize ((D.headD 0).toNat:Int)=dh at*;clear hd1 hd2 hD;have HZ:=hid hne;clear hne HRI;go_wp2_with fail;refine (HBY.out _ HP4.out).mono ?_;rintro r w5 ⟨rfl,hst5⟩;have HP5:=hid hst5.1;have HI5:=hid (HI4.out.side hst5.2 (fun b e1 e2=>zD));have hz5:=hst5.2.size;clear hst5 HP4 HI4 HBY;go_wp2_with fail;refine (HPB.out _ HP5.out).mono ?_;rintro r w6 ⟨rfl,hst6⟩;have HP6:=hid hst6.1;have HI6:=hid (HI5.out.side hst6.2 (fun b e1 e2=>zD));have hz6:=hst6.2.size;clear hst6 HP5 HI5 HPB;go_wp2_with fail;refine (HPF.out _ HP6.out).mono ?_;rintro r w7 ⟨rfl,hb7⟩;have HI7:=hid (HI6.out.later hb7);have hz7:=hb7.size;clear hb7 HI6 HP6 HPF;obtain⟨y0,y1,y2,y3,y4,y5,ly⟩:=CF HI7.out.rb;go_wp2_with fail;refine (HWI.out _ HI7.out.inv.rd y0).mono ?_;rintro r w8 ⟨rfl,hst8⟩;have HI8:=hid (HI7.out.step hst8);have hz8:=hst8.2.size;clear hst8 HI7 HWI y0 y1 y2 y3 y4 y5 ly;go_wp2_with fail;go_roundw
       case rel=>exact ⟨z,vL,l,vM,M,q,_,T,HI8.out,HRB.out,zD⟩
       case measure=>
        rw[Ii HI8.out.inv.rd,HMU.out,Ai HK.out,Ah HZ.out];omega
   ·have hst:=HRI.out.short HK.out HF.out ht
    rw[Ae ht] at HGT;have HST:=hid hst;clear hst hcan;have HT:=hid ht;clear ht;go_wp2_with fail;refine (HGT.out _ HI2.out.inv.rd).mono ?_;rintro r w3 ⟨rfl,hb3⟩;have HI3:=hid (HI2.out.later hb3);have hz3:=hb3.size;go_wp2_with fail;first | go_end0 | refine An (AO rfl _ _ _) rfl ?_
    rw[HST.out];exact⟨rfl,⟨vL,l,vM,M,q,_,T,HI3.out,fun e=>absurd e HT.out⟩,zD⟩
  ·rw[Ae hk] at HGD
   have HST:=hid (hri.stop hk);have HK:=hid hk;clear hi hri hk;go_wp2_with fail;refine (HGD.out _ HI.out.inv.rd).mono ?_;rintro r w1 ⟨rfl,hb1⟩;have HI1:=hid (HI.out.later hb1);have hz1:=hb1.size;go_wp2_with fail;first | go_end0 | refine An (AO rfl _ _ _) rfl ?_
   rw[HST.out];exact⟨rfl,⟨vL,l,vM,M,q,fi,T,HI1.out,fun e=>absurd e HK.out⟩,zD⟩
theorem NU(w:World){g:Nat}{B:List UInt8}{a:Option Addr}{s:Rs}(h:AN w g B a s)(hB:B.length≤1000000000):
  Calls Tryz.prog 187 #[.pointer (some ⟨g,0,none⟩)] w fun r w'=>r=.returned (.int .i64 ((s.CN B).2:Int))∧Ay w g B a (s.CN B).1 w':=by
 have hlt:=h.blk.lt;have hok:=h.ok;have HAT:=hid (BI w h);have HTK:=hid (Ih w h 4 zO zD);unfold Rs.CN;dsimp only;have hok1:=Rs.EU hok 4;generalize s.take B 4=T at*;obtain⟨s1,D⟩:=T;dsimp only at*;have HFM:=hid (fun (W:World) (hW:AN W g B a s1)=>Bd W hW 14 (s.p:Int) zO);obtain⟨M,hM⟩:∃M:Bool,M=decide (D=[84,72,79,76]):=⟨_,rfl⟩;have hs2:(if D=[84,72,79,76] then s1 else s1.fail 14 s.p)=if M=true then s1 else s1.fail 14 s.p:=by
  rw[hM];simp only[Ar]
 rw[hs2];have hok2:(if M=true then s1 else s1.fail 14 s.p).ok B.length:=by
  split
  ·exact hok1
  ·exact Rs.Ce hok1 zO
 generalize hS2:(if M=true then s1 else s1.fail 14 s.p)=s2 at*;have HB:=hid (fun (W:World) (hW:AN W g B a s2)=>Jq W hW);have hok3:=Rs.Fp hok2;generalize s2.byte B=U at*;obtain⟨s3,y⟩:=U;dsimp only at*;have hy:=y.toNat_lt;have HA3:=hid (fun (W:World) (hW:AN W g B a s3)=>BI W hW);have HFV:=hid (fun (W:World) (hW:AN W g B a s3)=>Bd W hW 8 ((s3.p:Int)-1) zO);have hp3:=hok3.le;generalize hs4:(if 1≤y.toNat∧y.toNat≤3 then s3 else s3.fail 8 ((s3.p:Int)-1))=s4 at*;generalize y.toNat=v at*;have HG:=hid (fun (W:World) (hW:AN W g B a s4)=>AK W hW);have HS2:=hid hS2;have HS4:=hid hs4;have HH:=hid h;obtain⟨RV,hRV⟩:∃RV:Nat,RV=if s4.k=0 then v else 0:=⟨_,rfl⟩;rw[←hRV];have HRV:=hid hRV;have hdm:(M=true→D=[84,72,79,76])∧(M=false→(D==[84,72,79,76])=false):=by
  refine⟨fun e=>Gq (hM.symm.trans e),fun e=> ?_⟩;rw[Br];exact of_decide_eq_false (hM.symm.trans e)
 have HDM:=hid hdm;clear h hok hok1 hok2 hok3 hS2 hs4 hs2 hRV hdm hM;go_enter Tryz.func187,Tryz.ntmps187;go_wp2_with fail;refine HAT.out.mono ?_;rintro r w0 ⟨rfl,rfl⟩;go_wp2_with fail;refine HTK.out.mono ?_;rintro r w1 ⟨vv,rfl,hr1,hst1⟩;obtain⟨a1,c1,hfv,hr1',_⟩:=AJ hr1;simp only[As,AF] at hfv;subst hfv;have kc:=fun (W:World) (hW:Ag.r (fun q=>w.heap.size≤q∧q<w1.heap.size) W [.slice a1 D.length c1] D)=>FC (P:=Tryz.prog) 22 9 5 AG E9 GV hW;have kd:=kc w1 hr1';have HST1:=hid hst1;clear hr1 hr1' hst1 kc;go_upto_if 10 with (fail);go_cut [] from 10 to 13 (fun V=>Hid (Ay w g B a s2 V))
 case first=>
  cases M
  ·have hne0:=HDM.out.2 rfl
   have hne:(!(D==[84,72,79,76]))=true:=by rw[hne0];rfl
   clear hne0;have hs2:=HS2.out;simp only[Bool.false_eq_true,if_false] at hs2;rw[hs2] at HFM;go_wp2_with fail
   case false=>exact absurd (hne.symm.trans zM) zO
   refine (HFM.out _ HST1.out.1).mono ?_;rintro r w2 ⟨rfl,hst2⟩;have HST2:=hid (Ay.trans HST1.out.2 hst2);go_wp2_with fail;go_meet
   case rel=>exact HST2
  ·have he:=HDM.out.1 rfl
   subst he;have hs2:=HS2.out;simp only[Fs] at hs2;go_wp2_with fail;go_meet
   case rel=>exact hid (by rw[←hs2];exact HST1.out)
 case rest=>
  have HST2:=hcut;go_wp2_with fail;refine (HB.out _ HST2.out.1).mono ?_;rintro r w3 ⟨rfl,hst3⟩;have HST3:=hid (Ay.trans HST2.out.2 hst3);clear hst3;by_cases hv:1≤v∧v≤3
  ·have d1:decide ((v:Int)<1)=false:=Ae zD
   have d2:decide ((3:Int)<(v:Int))=false:=Ae zD;have hs4:=HS4.out;rw[Ai hv] at hs4;replace HST3:Hid (Ay w g B a s4 w3):=hid (hs4 ▸ HST3.out);have hrv:=HRV.out;by_cases hk:s4.k=0
   ·rw[Ai hk] at hrv
    rw[Ad hk] at HG;subst hrv;clear hk;go_wp2_with fail;refine (HG.out _ HST3.out.1).mono ?_;rintro r w9 ⟨rfl,hb9⟩;have HE:=hid (HST3.out.then hb9);go_wp2_with fail;go_ret;exact⟨rfl,HE.out⟩
   ·rw[Ah hk] at hrv
    rw[Ae hk] at HG;subst hrv;clear hk;go_wp2_with fail;refine (HG.out _ HST3.out.1).mono ?_;rintro r w9 ⟨rfl,hb9⟩;have HE:=hid (HST3.out.then hb9);go_wp2_with fail;go_ret;exact⟨rfl,HE.out⟩
  ·have hs4:=HS4.out
   rw[Ah hv] at hs4;rw[hs4] at HFV;rcases Be v 1 with h0 | h0
   ·have d1:decide ((v:Int)<1)=true:=Ad zD
    clear hv hs4;go_wp2_with fail;refine (HA3.out _ HST3.out.1).mono ?_;rintro r w3' ⟨rfl,rfl⟩;go_wp2_with fail;refine (HFV.out _ HST3.out.1).mono ?_;rintro r w4 ⟨rfl,hst4⟩;replace HST3:=hid (Ay.trans HST3.out.2 hst4);clear hst4;have hrv:=HRV.out;by_cases hk:s4.k=0
    ·rw[Ai hk] at hrv
     rw[Ad hk] at HG;subst hrv;clear hk;go_wp2_with fail;refine (HG.out _ HST3.out.1).mono ?_;rintro r w9 ⟨rfl,hb9⟩;have HE:=hid (HST3.out.then hb9);go_wp2_with fail;go_ret;exact⟨rfl,HE.out⟩
    ·rw[Ah hk] at hrv
     rw[Ae hk] at HG;subst hrv;clear hk;go_wp2_with fail;refine (HG.out _ HST3.out.1).mono ?_;rintro r w9 ⟨rfl,hb9⟩;have HE:=hid (HST3.out.then hb9);go_wp2_with fail;go_ret;exact⟨rfl,HE.out⟩
   ·have d1:decide ((v:Int)<1)=false:=Ae zD
    have d2:decide ((3:Int)<(v:Int))=true:=Ad zD;clear hv hs4;go_wp2_with fail;refine (HA3.out _ HST3.out.1).mono ?_;rintro r w3' ⟨rfl,rfl⟩;go_wp2_with fail;refine (HFV.out _ HST3.out.1).mono ?_;rintro r w4 ⟨rfl,hst4⟩;replace HST3:=hid (Ay.trans HST3.out.2 hst4);clear hst4;have hrv:=HRV.out;by_cases hk:s4.k=0
    ·rw[Ai hk] at hrv
     rw[Ad hk] at HG;subst hrv;clear hk;go_wp2_with fail;refine (HG.out _ HST3.out.1).mono ?_;rintro r w9 ⟨rfl,hb9⟩;have HE:=hid (HST3.out.then hb9);go_wp2_with fail;go_ret;exact⟨rfl,HE.out⟩
    ·rw[Ah hk] at hrv
     rw[Ae hk] at HG;subst hrv;clear hk;go_wp2_with fail;refine (HG.out _ HST3.out.1).mono ?_;rintro r w9 ⟨rfl,hb9⟩;have HE:=hid (HST3.out.then hb9);go_wp2_with fail;go_ret;exact⟨rfl,HE.out⟩
theorem Rs.Sf{e1 b1:Rs}{v e b:Nat}(hs:s.ok B.length)(hE:(s.CN B).1.ep B=(e1,e))(hv:(s.CN B).2=v)(hb:(if v=1 then e1.po B else (e1,0))=(b1,b))(hk:(b1.take B 4).1.k=0):
  (1≤v∧v≤3)∧epR (e:Int)=true∧poR (b:Int)=true:=by
 have ok1:=Rs.Mp hs;have ok2:=Rs.QK (B:=B) ok1;have cB:=Rs.KP (B:=B) hs;have cE:=Rs.JN (B:=B) ok1;rw[hE] at cE ok2;rw[hv] at cB;dsimp only at*;have h0:=(Rs.DI hk).2.1;have hP:poR (b:Int)=true∧e1.k=0:=by
  by_cases h1:v=1
  ·rw[Ai h1] at hb
   have cp:=Rs.LI (B:=B) ok2;rw[hb] at cp;obtain⟨p1,p2,p3⟩:=cp h0;exact⟨p1,p3⟩
  ·rw[Ah h1] at hb
   obtain⟨rfl,rfl⟩:=Prod.mk.inj hb;exact⟨by simp[poR],h0⟩
 obtain⟨e2,e3,e4⟩:=cE hP.2;exact⟨(cB e4).1,e2,hP.1⟩
structure H8(w:World)(g:Nat)(B:List UInt8)(a:Option Addr)(s:Rs)(gh:Nat)(v e b:Nat)(W:World):Prop where
 inv:Cf w W g B a s
 mb:Blk W w.heap.size 167 #[.int .i64 0,.int .u64 0,.int .u64 0]
 hb:Blk W gh 167 #[.int .i64 (v:Int),.int .u64 (e:Int),.int .u64 (b:Int)]
 gm:w.heap.size<gh
section
variable {w W W':World} {g gh:Nat} {B:List UInt8} {a:Option Addr} {s s':Rs} {v e b:Nat}
theorem H8.step(h:H8 w g B a s gh v e b W)(k:Ay W g B a s' W'):H8 w g B a s' gh v e b W':=by
 have h1:=h.inv.lt;have h2:=h.gm;exact⟨h.inv.step k,h.mb.tch k.2 zD,h.hb.tch k.2 zD,h2⟩
theorem H8.later(h:H8 w g B a s gh v e b W)(hb:Below W.heap.size W W'):H8 w g B a s gh v e b W':=
 ⟨h.inv.row (hb.mono h.inv.tch.size),h.mb.later hb,h.hb.later hb,h.gm⟩
theorem H8.set(h:H8 w g B a s gh v e b W)(i:Nat)(u:Value){v' e' b':Nat}(hb:Blk (W.setCell ⟨gh,i,none⟩ u) gh 167 #[.int .i64 (v':Int),.int .u64 (e':Int),.int .u64 (b':Int)]):H8 w g B a s gh v' e' b' (W.setCell ⟨gh,i,none⟩ u):=by
 have h2:=h.gm;exact⟨h.inv.row (Below.setCell (Below.refl _ _) zH _),h.mb.far zH _,hb,h2⟩
theorem H8.U8(h:H8 w g B a s gh v e b W)(e':Nat):H8 w g B a s gh v e' b (W.setCell ⟨gh,1,none⟩ (.int .u64 (e':Int))):=h.set 1 _ (h.hb.set 1 _)
theorem H8.U7(h:H8 w g B a s gh v e b W)(b':Nat):H8 w g B a s gh v e b' (W.setCell ⟨gh,2,none⟩ (.int .u64 (b':Int))):=h.set 2 _ (h.hb.set 2 _)
theorem Hn(h:Blk w g t #[v0,v1,v2]):w.cell? ⟨g,0,none⟩=some v0∧w.cell? ⟨g,1,none⟩=some v1∧w.cell? ⟨g,2,none⟩=some v2∧w.frozen? ⟨g,0,none⟩=false∧w.frozen? ⟨g,1,none⟩=false∧w.frozen? ⟨g,2,none⟩=false∧g<w.heap.size:=
 ⟨h.cell 0,h.cell 1,h.cell 2,h.free 0,h.free 1,h.free 2,h.lt⟩
end
theorem O6(w:World){B:List UInt8}{s:Rs}(h:AN w g B a s)(hB:B.length≤1000000000):
  Calls Tryz.prog 123 #[.pointer (some ⟨g,0,none⟩)] w fun r w'=>r=.returned (.agg #[.int .i64 ((s.hdr B).2.1:Int),.int .u64 ((s.hdr B).2.2.1:Int),.int .u64 ((s.hdr B).2.2.2:Int)])∧Ay w g B a (s.hdr B).1 w':=by
 have hlt:=h.blk.lt;have hok:=h.ok;have HP0:=@Rs.Sf B s;have HIN:=hid (Cf.refl h);have HBG:=hid (fun (W:World) (hW:AN W g B a s)=>NU W hW hB);unfold Rs.hdr;dsimp only;generalize hbg:s.CN B=V at*;obtain⟨s1,v⟩:=V;dsimp only at*;have HEP:=hid (fun (W:World) (hW:AN W g B a s1)=>I5 W hW hB);have hvu:v≤255∧s1.ok B.length:=by
  have h1:=Rs.Mp hok;rw[hbg] at h1;refine⟨?_,h1⟩;unfold Rs.CN at hbg;dsimp only at hbg;generalize (if (s.take B 4).2=[84,72,79,76] then (s.take B 4).1 else (s.take B 4).1.fail 14 s.p).byte B=Q at hbg;have hq:=Q.2.toNat_lt;have h9:∀q:Rs,(if q.k=0 then Q.2.toNat else 0)≤255:=fun q=>by split<;>omega
  rw[←(Prod.mk.inj hbg).2];exact h9 _
 have heu:inU ((s1.ep B).2:Int):=Rs.UW;generalize hep:s1.ep B=E at*;obtain⟨s2,e⟩:=E;dsimp only at*;have HPO:=hid (fun (W:World) (hW:AN W g B a s2)=>ID W hW hB);generalize hbb:(if v=1 then s2.po B else (s2,0))=BB at*;obtain⟨s3,b⟩:=BB;dsimp only at*;have HBB:=hid hbb;have HAT:=hid (fun (W:World) (hW:AN W g B a s3)=>BI W hW);have HFX:=hid (fun (W:World) (hW:AN W g B a s3)=>(by have:=Hy W hW hB 4 zD;exact this:Calls Tryz.prog 191 #[.pointer (some ⟨g,0,none⟩),.int .i64 4] W fun r w'=>r=.returned (.int .u64 ((DC (s3.take B 4).2:Nat):Int))∧Ay W g B a (s3.take B 4).1 w'));have HPT:=fun hk=>HP0 hok rfl rfl hbb hk;have hx:DC (s3.take B 4).2<18446744073709551616:=by
  have h1:=Lb (s3.take B 4).2;have h2:=Rs.take_len (B:=B) (s:=s3) (n:=4);exact Ao h1 (A6 (DF zO (show _≤8 by omega)) zO)
 generalize s3.take B 4=T at*;obtain⟨s4,F⟩:=T;dsimp only at*;generalize DC F=x at*;have HGD:=hid (fun (W:World) (hW:AN W g B a s4)=>AK W hW);have HFL:=hid (fun (W:World) (hW:AN W g B a s4)=>Bd W hW 6 (s3.p:Int) zO);have HCR:=hid (fun (W:World) (ap:Option Addr) (cp:Nat) (hD:Ag.r (·<W.heap.size) W [.slice ap (Dw v e b).length cp] (Dw v e b))=>JO (Dw v e b) ap _ cp W hD);have hq:=FA (Dw v e b);generalize B8 (Dw v e b)=q at*;obtain⟨R,hR⟩:∃R:Rs × Nat × Nat × Nat,R=(if s4.k=0 then (if x=q then (s4,v,e,b) else (s4.fail 6 s3.p,0,0,0)) else (s4,0,0,0)):=⟨_,rfl⟩;rw[←hR];have HRR:=hid hR;clear h hbg hep hbb hok HP0 hR;go_enter Tryz.func123,Tryz.ntmps123;go_wp2_with fail;have hI0:Cf w (w.alloc (.cells #[.int .i64 0,.int .u64 0,.int .u64 0] 167)) g B a s:=HIN.out.row zA;have hM0:Blk (w.alloc (.cells #[.int .i64 0,.int .u64 0,.int .u64 0] 167)) w.heap.size 167 #[.int .i64 0,.int .u64 0,.int .u64 0]:=Blk.new _ _ _;refine (HBG.out _ hI0.rd).mono ?_;rintro r w1 ⟨rfl,hst1⟩;have hI2:=(hI0.step hst1).row (show Below w.heap.size w1 (w1.alloc (.cells #[.int .i64 (v:Int),.int .u64 0,.int .u64 0] 167)) from (Below.refl _ _).alloc (by have:=hst1.size;simp at this;omega) _);have hgm:w.heap.size<w1.heap.size:=by have:=hst1.size;simp at this;omega
 have HI2:Hid (H8 w g B a s1 w1.heap.size v 0 0 (w1.alloc (.cells #[.int .i64 (v:Int),.int .u64 0,.int .u64 0] 167))):=hid ⟨hI2,(hM0.tch hst1.2 zD).alloc _,Blk.new _ _ _,hgm⟩;clear hI0 hM0 hst1 hI2;go_upto_region 2 with (fail);generalize hgh:w1.heap.size=gh at*;generalize (w1.alloc (.cells #[.int .i64 (v:Int),.int .u64 0,.int .u64 0] 167))=w2 at*;go_wp2_with fail;refine (HEP.out _ HI2.out.inv.rd).mono ?_;rintro r w3 ⟨rfl,hst3⟩;have HI3:=hid (HI2.out.step hst3);obtain⟨y0,y1,y2,z0,z1,z2,ly⟩:=Hn HI3.out.hb;clear hst3 HI2 hgh;go_upto_region 3 with (fail);have HI4:=hid (HI3.out.U8 e);generalize w3.setCell ⟨gh,1,none⟩ (.int .u64 (e:Int))=w4 at*;clear y0 y1 y2 z0 z1 z2 ly HI3;obtain⟨y0,y1,y2,z0,z1,z2,ly⟩:=Hn HI4.out.hb;obtain⟨EB,hEB⟩:∃EB,EB=decide ((v:Int)=1):=⟨_,rfl⟩;have HBS:=hid (fun (W:World)=>GN (v:Int) W);rw[←hEB] at HBS;have HEB:=hid hEB;clear hEB;go_wp2_with fail;refine (HBS.out _).mono ?_;rintro r w5 ⟨rfl,rfl⟩;go_upto_if 14 with (fail);go_cut [] from 15 to 17 (fun V=>Hid (H8 w g B a s3 gh v e b V))
 case first=>
  cases EB
  ·have hv:¬v=1:=fun h=>by
    have:=of_decide_eq_false HEB.out.symm;omega
   have hbb:=HBB.out;rw[Ah hv] at hbb;obtain⟨rfl,rfl⟩:=Prod.mk.inj hbb;clear hv hbb;go_wp2_with fail;go_meet
   case rel=>exact HI4
  ·have hv:v=1:=by
    have:=Gq HEB.out.symm;omega
   have hbb:=HBB.out;rw[Ai hv] at hbb;rw[hbb] at HPO;clear hv hbb;go_wp2_with fail;refine (HPO.out _ HI4.out.inv.rd).mono ?_;rintro r w6 ⟨rfl,hst6⟩;have HI6:=hid (HI4.out.step hst6);clear y0 y1 y2 z0 z1 z2 ly;obtain⟨y0,y1,y2,z0,z1,z2,ly⟩:=Hn HI6.out.hb;have HI7:=hid (HI6.out.U7 b);go_wp2_with fail;go_meet
   case rel=>exact HI7
 case rest=>
  have HI5:=hcut;clear y0 y1 y2 z0 z1 z2 ly HI4;go_wp2_with fail;refine (HAT.out _ HI5.out.inv.rd).mono ?_;rintro r w6 ⟨rfl,rfl⟩;go_wp2_with fail;refine (HFX.out _ HI5.out.inv.rd).mono ?_;rintro r w7 ⟨rfl,hst7⟩;have HI7:=hid (HI5.out.step hst7);clear hst7 HI5;by_cases hk:s4.k=0
  ·obtain⟨p1,p2,p3⟩:=HPT hk
   have HPL:=hid (fun (W:World)=>JH v p1 e b p2 p3 W);have hr:=HRR.out;rw[Ai hk] at hr;rw[Ad hk] at HGD;clear hk HPT p2 p3;obtain⟨y0,y1,y2,z0,z1,z2,ly⟩:=Hn HI7.out.hb;go_wp2_with fail;refine (HGD.out _ HI7.out.inv.rd).mono ?_;rintro r w8 ⟨rfl,hb8⟩;have HI8:=hid (HI7.out.later hb8);clear y0 y1 y2 z0 z1 z2 ly hb8 HI7;obtain⟨y0,y1,y2,z0,z1,z2,ly⟩:=Hn HI8.out.hb;go_wp2_with fail;refine (HPL.out _).mono ?_;rintro r w9 ⟨vp,rfl,hrp,hb9⟩;obtain⟨ap,cp,hfv,hrp',_⟩:=AJ hrp;simp only[As,AF] at hfv;subst hfv;have HC:=hid (HCR.out w9 ap cp (Ag.mono hrp' fun q hq=>hq.2));have HI9:=hid (HI8.out.later hb9);clear hrp hrp' hb9 y0 y1 y2 z0 z1 z2 ly HI8 HPL;by_cases hqx:x=q
   ·rw[Ai hqx] at hr
    subst hr;subst hqx;have d1:((x:Int) !=(x:Int))=false:=zQ;go_wp2_with fail;refine HC.out.mono ?_;rintro r w10 ⟨rfl,hb10⟩;have HI10:=hid (HI9.out.later hb10);obtain⟨y0,y1,y2,z0,z1,z2,ly⟩:=Hn HI10.out.hb;obtain⟨m0,m1,m2,f0,f1,f2,lm⟩:=Hn HI10.out.mb;have hgm2:=HI10.out.gm;have hgl2:=HI10.out.inv.lt;have HE:=hid (HI10.out.inv.row (show Below w.heap.size w10 (((w10.setCell ⟨w.heap.size,0,none⟩ (.int .i64 (v:Int))).setCell ⟨w.heap.size,1,none⟩ (.int .u64 (e:Int))).setCell ⟨w.heap.size,2,none⟩ (.int .u64 (b:Int))) by (repeat (first | with_reducible exact Below.refl _ _ | with_reducible assumption | (with_reducible refine Au ?_ _) | (with_reducible refine Below.setCell ?_ zE _) | (with_reducible refine Below.drew ?_) | (with_reducible refine below_drewN ?_ _) | (refine Af zG ?_)))));go_wp2_with fail;refine An (v:=.agg #[.int .i64 (v:Int),.int .u64 (e:Int),.int .u64 (b:Int)]) Z5 rfl ⟨rfl,HE.out.to⟩
   ·rw[Ah hqx] at hr
    subst hr;have d1:((x:Int) !=(q:Int))=true:=zI;go_wp2_with fail;refine HC.out.mono ?_;rintro r w10 ⟨rfl,hb10⟩;have HI10:=hid (HI9.out.later hb10);go_wp2_with fail;refine (HFL.out _ HI10.out.inv.rd).mono ?_;rintro r w11 ⟨rfl,hst11⟩;have HI11:=hid (HI10.out.step hst11);obtain⟨m0,m1,m2,f0,f1,f2,lm⟩:=Hn HI11.out.mb;have hgl2:=HI11.out.inv.lt;have HE:=hid (HI11.out.inv.row (show Below w.heap.size w11 (((w11.setCell ⟨w.heap.size,0,none⟩ (.int .i64 0)).setCell ⟨w.heap.size,1,none⟩ (.int .u64 0)).setCell ⟨w.heap.size,2,none⟩ (.int .u64 0)) by (repeat (first | with_reducible exact Below.refl _ _ | with_reducible assumption | (with_reducible refine Au ?_ _) | (with_reducible refine Below.setCell ?_ zE _) | (with_reducible refine Below.drew ?_) | (with_reducible refine below_drewN ?_ _) | (refine Af zG ?_)))));go_wp2_with fail;refine An (v:=.agg #[.int .i64 0,.int .u64 0,.int .u64 0]) Z5 rfl ⟨rfl,HE.out.to⟩
  ·have hr:=HRR.out
   rw[Ah hk] at hr;subst hr;rw[Ae hk] at HGD;clear hk HPT;go_wp2_with fail;refine (HGD.out _ HI7.out.inv.rd).mono ?_;rintro r w8 ⟨rfl,hb8⟩;have HI8:=hid (HI7.out.later hb8);obtain⟨m0,m1,m2,f0,f1,f2,lm⟩:=Hn HI8.out.mb;have hgl2:=HI8.out.inv.lt;have HE:=hid (HI8.out.inv.row (show Below w.heap.size w8 (((w8.setCell ⟨w.heap.size,0,none⟩ (.int .i64 0)).setCell ⟨w.heap.size,1,none⟩ (.int .u64 0)).setCell ⟨w.heap.size,2,none⟩ (.int .u64 0)) by (repeat (first | with_reducible exact Below.refl _ _ | with_reducible assumption | (with_reducible refine Au ?_ _) | (with_reducible refine Below.setCell ?_ zE _) | (with_reducible refine Below.drew ?_) | (with_reducible refine below_drewN ?_ _) | (refine Af zG ?_)))));go_wp2_with fail;refine An (v:=.agg #[.int .i64 0,.int .u64 0,.int .u64 0]) Z5 rfl ⟨rfl,HE.out.to⟩
structure Rw(f:Cj):Prop where
 ep:inU f.ep
 n:0≤f.n∧f.n≤65536
 en:0≤f.en∧f.en≤65536
 fi:inU f.first
 fe:inU f.fin
 a:0≤f.at_∧f.at_≤1099511627776
 s:0≤f.size∧f.size≤1099511627776
def JW(f:Cj):Bool:=if f.n=0 then decide (f.first=0)&&decide (f.fin=0) else decide (f.first<f.fin)&&(decide (f.fin≤4611686018427387904)&&decide (f.en≤f.fin-f.first))
theorem NY{f:Cj}(h:Rw f):Hp f=(epR f.ep&&((decide (0≤f.n)&&(decide (f.n≤16)&&(decide (f.n≤f.en)&&decide (f.en≤f.n*16))))&&((decide (1≤f.at_)&&(decide (f.at_≤1099511627775)&&(decide (1≤f.size)&&decide (f.size≤2097152))))&&JW f))):=by
 have h0:=h.fi.1;rw[Bool.eq_iff_iff];unfold Hp JW;by_cases hn:f.n=0
 ·simp only[Ai hn,Aq,Ar]
  constructor
  ·rintro⟨e,h⟩
   exact⟨e,zD⟩
  ·rintro⟨e,h⟩
   exact⟨e,zD⟩
 ·simp only[Ah hn,Aq,Ar]
  constructor
  ·rintro⟨e,h⟩
   exact⟨e,zD⟩
  ·rintro⟨e,h⟩
   exact⟨e,zD⟩
theorem MD(f:Cj)(hN:Rw f)(w:World):
  Calls Tryz.prog 327 #[.agg f.val] w fun r w'=>r=.returned (.bool (JW f))∧Below w.heap.size w w':=by
 obtain⟨ep,n,en,fi,fe,a,s⟩:=f;obtain⟨⟨e0,e1⟩,⟨n0,n1⟩,⟨m0,m1⟩,⟨f0,f1⟩,⟨g0,g1⟩,_,_⟩:=hN;dsimp only[Cj.val] at*;have hb0:Below w.heap.size w (w.alloc (.cells Vl 81)):=zA;obtain⟨R,hR⟩:∃R,R=JW ⟨ep,n,en,fi,fe,a,s⟩:=⟨_,rfl⟩;rw[←hR];unfold JW at hR;dsimp only at hR;have hem:en%18446744073709551616=en:=zD;by_cases hn:n=0
 ·have dn:(n==(0:Int))=true:=by simp[hn]
  rw[Ai hn] at hR;have HR:=hid hR;clear hR hn;by_cases q1:fi=0
  ·have dq1:(fi==0)=true:=(by simp[q1]);have eq1:=hid (Ad q1);clear q1
   by_cases q2:fe=0
   ·have dq2:(fe==0)=true:=(by simp[q2]);have eq2:=hid (Ad q2);clear q2
    go_enter GW,F6;go_wp2_with fail;go_ret;exact⟨Bc (fun q=>Ending.returned (Value.bool q)) (GX (by rw[HR.out,eq1.out,eq2.out];rfl)),hb0⟩
   ·have dq2:(fe==0)=false:=(by simp[q2]);have eq2:=hid (Ae q2);clear q2
    go_enter GW,F6;go_wp2_with fail;go_ret;exact⟨Bc (fun q=>Ending.returned (Value.bool q)) (GX (by rw[HR.out,eq1.out,eq2.out];rfl)),hb0⟩
  ·have dq1:(fi==0)=false:=(by simp[q1]);have eq1:=hid (Ae q1);clear q1
   go_enter GW,F6;go_wp2_with fail;go_ret;exact⟨Bc (fun q=>Ending.returned (Value.bool q)) (GX (by rw[HR.out,eq1.out];rfl)),hb0⟩
 ·have dn:(n==(0:Int))=false:=by simp[hn]
  rw[Ah hn] at hR;have HR:=hid hR;clear hR hn;by_cases q1:fi<fe
  ·have dq1:decide (fi<fe)=true:=Ad q1
   by_cases q2:fe≤4611686018427387904
   ·have dq2:decide (fe≤4611686018427387904)=true:=Ad q2
    by_cases q3:en≤fe-fi
    ·have dq3:decide (en≤fe-fi)=true:=Ad q3
     go_enter GW,F6;go_wp2_with fail;go_ret;exact⟨Bc (fun q=>Ending.returned (Value.bool q)) (GX (by rw[HR.out,dq1,dq2,dq3];rfl)),hb0⟩
    ·have dq3:decide (en≤fe-fi)=false:=Ae q3
     go_enter GW,F6;go_wp2_with fail;go_ret;exact⟨Bc (fun q=>Ending.returned (Value.bool q)) (GX (by rw[HR.out,dq1,dq2,dq3];rfl)),hb0⟩
   ·have dq2:decide (fe≤4611686018427387904)=false:=Ae q2
    go_enter GW,F6;go_wp2_with fail;go_ret;exact⟨Bc (fun q=>Ending.returned (Value.bool q)) (GX (by rw[HR.out,dq1,dq2];rfl)),hb0⟩
  ·have dq1:decide (fi<fe)=false:=Ae q1
   go_enter GW,F6;go_wp2_with fail;go_ret;exact⟨Bc (fun q=>Ending.returned (Value.bool q)) (GX (by rw[HR.out,dq1];rfl)),hb0⟩
theorem ME(f:Cj)(hN:Rw f)(w:World):
  Calls Tryz.prog 265 #[.agg f.val] w fun r w'=>r=.returned (.bool (Hp f))∧Below w.heap.size w w':=by
 have HS:=hid (fun W:World=>MD f hN W);rw[NY hN];obtain⟨SP,hSP⟩:∃SP,SP=JW f:=⟨_,rfl⟩;rw[←hSP] at HS ⊢;obtain⟨ep,n,en,fi,fe,a,s⟩:=f;obtain⟨⟨e0,e1⟩,⟨n0,n1⟩,⟨m0,m1⟩,⟨f0,f1⟩,⟨g0,g1⟩,⟨a0,a1⟩,s0,s1⟩:=hN;dsimp only[Cj.val] at*;obtain⟨CT,hCT⟩:∃CT,CT=(decide (0≤n)&&(decide (n≤16)&&(decide (n≤en)&&decide (en≤n*16)))):=⟨_,rfl⟩;obtain⟨PLT,hPT⟩:∃PLT,PLT=(decide (1≤a)&&(decide (a≤1099511627775)&&(decide (1≤s)&&decide (s≤2097152)))):=⟨_,rfl⟩;rw[←hCT,←hPT];have HCT:=hid hCT;have HPT:=hid hPT;have HE:=hid (DW ep);generalize epR ep=EP at*;have hb0:Below w.heap.size w (w.alloc (.cells Vl 81)):=zA;have HX:Hid (Blk (w.alloc (.cells Vl 81)) w.heap.size 81 Vl):=hid (Blk.new _ _ _);clear hCT hPT hSP;go_enter Tryz.func265,Tryz.ntmps265;go_upto_region 1 with (fail);generalize (w.alloc (.cells Vl 81))=w0 at*;have x0:w0.cell? ⟨w.heap.size,0,none⟩=some (.int .u64 ep):=HX.out.cell 0;have x1:w0.cell? ⟨w.heap.size,1,none⟩=some (.int .i64 n):=HX.out.cell 1;have x2:w0.cell? ⟨w.heap.size,2,none⟩=some (.int .i64 en):=HX.out.cell 2;have x3:w0.cell? ⟨w.heap.size,3,none⟩=some (.int .u64 fi):=HX.out.cell 3;have x4:w0.cell? ⟨w.heap.size,4,none⟩=some (.int .u64 fe):=HX.out.cell 4;have x5:w0.cell? ⟨w.heap.size,5,none⟩=some (.int .i64 a):=HX.out.cell 5;have x6:w0.cell? ⟨w.heap.size,6,none⟩=some (.int .i64 s):=HX.out.cell 6;go_cut [3] from 5 to 27 (fun v V=>v=.bool CT∧w0=V)
 case first=>
  by_cases h1:0≤n
  ·have dh1:decide (0≤n)=true:=Ad h1
   by_cases h2:n≤16
   ·have dh2:decide (n≤16)=true:=Ad h2
    by_cases h3:n≤en
    ·have dh3:decide (n≤en)=true:=Ad h3
     by_cases h4:en≤n*16
     ·have dh4:decide (en≤n*16)=true:=Ad h4
      go_wp2_with fail;go_meet
      case rel=>exact ⟨Bc Value.bool (GX (by rw[HCT.out,dh1,dh2,dh3,dh4];rfl)),rfl⟩
     ·have dh4:decide (en≤n*16)=false:=Ae h4
      go_wp2_with fail;go_meet
      case rel=>exact ⟨Bc Value.bool (GX (by rw[HCT.out,dh1,dh2,dh3,dh4];rfl)),rfl⟩
    ·have dh3:decide (n≤en)=false:=Ae h3
     go_wp2_with fail;go_meet
     case rel=>exact ⟨Bc Value.bool (GX (by rw[HCT.out,dh1,dh2,dh3];rfl)),rfl⟩
   ·have dh2:decide (n≤16)=false:=Ae h2
    go_wp2_with fail;go_meet
    case rel=>exact ⟨Bc Value.bool (GX (by rw[HCT.out,dh1,dh2];rfl)),rfl⟩
  ·exact absurd n0 h1
 case rest=>
  obtain⟨rfl,rfl⟩:=hcut;go_upto_region 2 with (fail);go_cut [4] from 28 to 45 (fun v V=>v=.bool PLT∧w0=V)
  case first=>
   by_cases h5:1≤a
   ·have dh5:decide (1≤a)=true:=Ad h5
    by_cases h6:a≤1099511627775
    ·have dh6:decide (a≤1099511627775)=true:=Ad h6
     by_cases h7:1≤s
     ·have dh7:decide (1≤s)=true:=Ad h7
      by_cases h8:s≤2097152
      ·have dh8:decide (s≤2097152)=true:=Ad h8
       go_wp2_with fail;go_meet
       case rel=>exact ⟨Bc Value.bool (GX (by rw[HPT.out,dh5,dh6,dh7,dh8];rfl)),rfl⟩
      ·have dh8:decide (s≤2097152)=false:=Ae h8
       go_wp2_with fail;go_meet
       case rel=>exact ⟨Bc Value.bool (GX (by rw[HPT.out,dh5,dh6,dh7,dh8];rfl)),rfl⟩
     ·have dh7:decide (1≤s)=false:=Ae h7
      go_wp2_with fail;go_meet
      case rel=>exact ⟨Bc Value.bool (GX (by rw[HPT.out,dh5,dh6,dh7];rfl)),rfl⟩
    ·have dh6:decide (a≤1099511627775)=false:=Ae h6
     go_wp2_with fail;go_meet
     case rel=>exact ⟨Bc Value.bool (GX (by rw[HPT.out,dh5,dh6];rfl)),rfl⟩
   ·have dh5:decide (1≤a)=false:=Ae h5
    go_wp2_with fail;go_meet
    case rel=>exact ⟨Bc Value.bool (GX (by rw[HPT.out,dh5];rfl)),rfl⟩
  case rest=>
   obtain⟨rfl,rfl⟩:=hcut;clear HCT HPT;go_wp2_with fail;refine (HE.out _).mono ?_;rintro r w1 ⟨rfl,rfl⟩;cases EP
   ·go_wp2_with fail
    go_ret;exact⟨rfl,hb0⟩
   ·cases CT
    ·go_wp2_with fail
     go_ret;exact⟨rfl,hb0⟩
    ·cases PLT
     ·go_wp2_with fail
      go_ret;exact⟨rfl,hb0⟩
     ·go_wp2_with fail
      refine (HS.out _).mono ?_;rintro r w2 ⟨rfl,hb2⟩;have hb3:=Af hb2 hb0;go_wp2_with fail;go_ret;exact⟨zQ,hb3⟩
structure FtI(w w1:World)(g:Nat)(P:List UInt8)(a:Option Addr)(s:Rs)(W:World):Prop where
 inv:Cf w1 W g P a s
 mb:Blk W w.heap.size 81 Vg
 fb:Blk W (w.heap.size+1) 65 #[.int .i64 0,.int .i64 0]
 bl:Below w.heap.size w W
 lz:w.heap.size+1<g
section
variable {w w1 W W':World} {g:Nat} {P:List UInt8} {a:Option Addr} {s s':Rs}
theorem FtI.step(h:FtI w w1 g P a s W)(k:Ay W g P a s' W'):FtI w w1 g P a s' W':=by
 have h1:=h.lz;exact⟨h.inv.step k,h.mb.tch k.2 zD,h.fb.tch k.2 zD,h.bl.trans (k.2.Cq h.bl.size fun b hb e=>zD),h1⟩
theorem FtI.row(h:FtI w w1 g P a s W)(hb:Below w1.heap.size W W'):FtI w w1 g P a s W':=by
 have h1:=h.lz;have h2:=h.inv.lt;exact⟨h.inv.row hb,h.mb.below hb zD,h.fb.below hb zD,h.bl.trans (hb.mono zD),h1⟩
theorem FtI.later(h:FtI w w1 g P a s W)(hb:Below W.heap.size W W'):FtI w w1 g P a s W':=h.row (hb.mono h.inv.tch.size)
theorem GR{v3 v4 v5 v6:Value}(h:Blk W g t #[v0,v1,v2,v3,v4,v5,v6]):W.cell? ⟨g,0,none⟩=some v0∧W.cell? ⟨g,1,none⟩=some v1∧W.cell? ⟨g,2,none⟩=some v2∧W.cell? ⟨g,3,none⟩=some v3∧W.cell? ⟨g,4,none⟩=some v4∧W.cell? ⟨g,5,none⟩=some v5∧W.cell? ⟨g,6,none⟩=some v6∧g<W.heap.size:=
 ⟨h.cell 0,h.cell 1,h.cell 2,h.cell 3,h.cell 4,h.cell 5,h.cell 6,h.lt⟩
theorem JL{cs:Array Value}(h:Blk W g t cs):W.frozen? ⟨g,0,none⟩=false∧W.frozen? ⟨g,1,none⟩=false∧W.frozen? ⟨g,2,none⟩=false∧W.frozen? ⟨g,3,none⟩=false∧W.frozen? ⟨g,4,none⟩=false∧W.frozen? ⟨g,5,none⟩=false∧W.frozen? ⟨g,6,none⟩=false:=
 ⟨h.free 0,h.free 1,h.free 2,h.free 3,h.free 4,h.free 5,h.free 6⟩
end
set_option maxHeartbeats 12800000 in
theorem I4(w:World)(P:List UInt8)(a:Option Addr)(n c:Nat)(hl:Ag.r (·<w.heap.size) w [.slice a n c] P)(hP:P.length≤1000000000):
  Calls Tryz.prog 199 #[.slice a n c] w fun r w'=>r=.returned (.tuple #[.agg (FW P).1.val,.agg #[.int .i64 (FW P).2.1,.int .i64 (FW P).2.2]])∧Below w.heap.size w w':=by
 obtain⟨rfl,hmx,hcc,hcm⟩:=AH hl;have HN:=hid (fun (W:World) (hW:Below w.heap.size w W)=>NF W P a _ c (lift hl hW));have hFN:Rw (Gd P).2:=by
  unfold Gd;dsimp only;have hI:∀(s:Rs) (m:Nat),0≤((s.int P (m:Int)).2:Int)∧((s.int P (m:Int)).2:Int)≤(m:Int):=fun s m=>by
   have:=Rs.EJ (B:=P) (s:=s) (m:=(m:Int));omega
  have hU:∀s:Rs,inU ((s.num P).2:Int):=fun s=>by
   have:=Rs.D5 (B:=P) (s:=s);unfold inU;omega
  exact⟨Rs.UW,hI _ 65536,hI _ 65536,hU _,hU _,hI _ 1099511627776,hI _ 1099511627776⟩
 have HRT:=hid (fun (W:World)=>ME (Gd P).2 hFN W);clear hFN;unfold FW Na;obtain⟨FB,hFB⟩:∃FB,FB=Hp (Gd P).2:=⟨_,rfl⟩;rw[←hFB] at HRT ⊢;clear hFB;generalize hfs:Gd P=FS at*;unfold Gd at hfs;dsimp only at hfs;have HB:=hid (fun (W:World) (g:Nat) (hW:AN W g P a ⟨0,0,0⟩)=>Jq W hW);generalize (⟨0,0,0⟩:Rs).byte P=U at*;obtain⟨s1,y⟩:=U;dsimp only at*;have hy:=y.toNat_lt;have HF1:=hid (fun (W:World) (g:Nat) (hW:AN W g P a s1)=>Bd W hW 7 0 zO);have hy3:(y=3)=(y.toNat=3):=by
  apply propext;constructor
  ·rintro rfl
   rfl
  ·intro h
   exact UInt8.toNat_inj.1 h
 simp only[hy3] at hfs;clear hy3;generalize y.toNat=yn at*;generalize hs2:(if yn=3 then s1 else s1.fail 7 0)=s2 at*;have HS2:=hid hs2;clear hs2;have HE:=hid (fun (W:World) (g:Nat) (hW:AN W g P a s2)=>I5 W hW hP);generalize s2.ep P=X2 at*;obtain⟨s3,e⟩:=X2;dsimp only at*;have HM1:=hid (fun (W:World) (g:Nat) (hW:AN W g P a s3)=>Ct W hW zD 65536 zO);generalize s3.int P 65536=X3 at*;obtain⟨s4,m1⟩:=X3;dsimp only at*;have HM2:=hid (fun (W:World) (g:Nat) (hW:AN W g P a s4)=>Ct W hW zD 65536 zO);generalize s4.int P 65536=X4 at*;obtain⟨s5,m2⟩:=X4;dsimp only at*;have HM3:=hid (fun (W:World) (g:Nat) (hW:AN W g P a s5)=>Cz W hW zD);generalize s5.num P=X5 at*;obtain⟨s6,m3⟩:=X5;dsimp only at*;have HM4:=hid (fun (W:World) (g:Nat) (hW:AN W g P a s6)=>Cz W hW zD);generalize s6.num P=X6 at*;obtain⟨s7,m4⟩:=X6;dsimp only at*;have HM5:=hid (fun (W:World) (g:Nat) (hW:AN W g P a s7)=>Ct W hW zD 1099511627776 zO);generalize s7.int P 1099511627776=X7 at*;obtain⟨s8,m5⟩:=X7;dsimp only at*;have HM6:=hid (fun (W:World) (g:Nat) (hW:AN W g P a s8)=>Ct W hW zD 1099511627776 zO);generalize s8.int P 1099511627776=X8 at*;obtain⟨s9,m6⟩:=X8;dsimp only at*;subst hfs;dsimp only[Cj.val] at*;have HFL9:=hid (fun (W:World) (g:Nat) (hW:AN W g P a s9)=>Bd W hW 3 0 zO);obtain⟨s10,hs10⟩:∃s10,s10=if FB=true then s9 else s9.fail 3 0:=⟨_,rfl⟩;rw[←hs10];have HS10:=hid hs10;have HEND:=hid (fun (W:World) (g:Nat) (hW:AN W g P a s10)=>NG W hW);generalize s10.fin P.length=s11 at*;have HFT:=hid (fun (W:World) (g:Nat) (hW:AN W g P a s11)=>FK W hW);have HGD:=hid (fun (W:World)=>Di W s11.k s11.f);obtain⟨R,hR⟩:∃R:Cj × Int × Int,R=(if s11.k=0 then ((⟨e,m1,m2,m3,m4,m5,m6⟩:Cj),0,0) else (QG,s11.k,s11.f)):=⟨_,rfl⟩;rw[←hR];have HRS:=hid hR;clear hl hs10 hR;go_enter Tryz.func199,Tryz.ntmps199;go_upto_region 1 with (fail);have hM0:Blk ((w.alloc (.cells Vg 81)).alloc (.cells #[.int .i64 0,.int .i64 0] 65)) w.heap.size 81 Vg:=zC;have hF0:Blk ((w.alloc (.cells Vg 81)).alloc (.cells #[.int .i64 0,.int .i64 0] 65)) (w.heap.size+1) 65 #[.int .i64 0,.int .i64 0]:=zC;have hb0:Below w.heap.size w ((w.alloc (.cells Vg 81)).alloc (.cells #[.int .i64 0,.int .i64 0] 65)):=zA;have hz0:w.heap.size+1<((w.alloc (.cells Vg 81)).alloc (.cells #[.int .i64 0,.int .i64 0] 65)).heap.size:=zQ;generalize ((w.alloc (.cells Vg 81)).alloc (.cells #[.int .i64 0,.int .i64 0] 65))=w0 at*;go_wp2_with fail;refine (HN.out w0 hb0).mono ?_;rintro r w1 ⟨rfl,hrd,hb1⟩;have hI1:FtI w w1 w0.heap.size P a ⟨0,0,0⟩ w1:=⟨Cf.refl hrd,hM0.later hb1,hF0.later hb1,Af hb1 hb0,hz0⟩;have HI1:=hid hI1;generalize w0.heap.size=g at*;clear hI1 hM0 hF0 hb0 hz0 hrd hb1 HN;go_wp2_with fail;refine (HB.out _ _ HI1.out.inv.rd).mono ?_;rintro r w2 ⟨rfl,hst2⟩;have HI2:=hid (HI1.out.step hst2);clear hst2 HI1 HB;go_upto_if 11 with (fail);go_cut [] from 11 to 13 (fun V=>Hid (FtI w w1 g P a s2 V))
 case first=>
  by_cases hyn:yn=3
  ·have hs2:=HS2.out
   rw[Ai hyn] at hs2;have d1:((yn:Int) !=(3:Int))=false:=by simp[hyn]
   subst hs2;clear hyn;go_wp2_with fail;go_meet
   case rel=>exact HI2
  ·have hs2:=HS2.out
   rw[Ah hyn] at hs2;have d1:((yn:Int) !=(3:Int))=true:=zI;rw[hs2] at HF1;clear hyn;go_wp2_with fail;refine (HF1.out _ _ HI2.out.inv.rd).mono ?_;rintro r w3 ⟨rfl,hst3⟩;have HI3:=hid (HI2.out.step hst3);go_wp2_with fail;go_meet
   case rel=>exact HI3
 case rest=>
  have HI3:=hcut;clear HI2 HF1 HS2;go_wp2_with fail;refine (HE.out _ _ HI3.out.inv.rd).mono ?_;rintro r w4 ⟨rfl,hst4⟩;have HI4:=hid (HI3.out.step hst4);have HI5:=hid (HI4.out.later (show Below w4.heap.size w4 (w4.alloc (.cells Vn 81)) by (repeat (first | with_reducible exact Below.refl _ _ | with_reducible assumption | (with_reducible refine Au ?_ _) | (with_reducible refine Below.setCell ?_ zE _) | (with_reducible refine Below.drew ?_) | (with_reducible refine below_drewN ?_ _) | (refine Af zG ?_)))));have HG5:Hid (Blk (w4.alloc (.cells Vn 81)) w4.heap.size 81 Vn):=hid (Blk.new _ _ _);have hgf:w1.heap.size≤w4.heap.size:=HI4.out.inv.tch.size;have hgl:g<w1.heap.size:=HI4.out.inv.lt;have hlz:w.heap.size+1<g:=HI4.out.lz;go_upto_region 5 with (fail);generalize (w4.alloc (.cells Vn 81))=w5 at*;generalize w4.heap.size=gf at*;clear HI3 HI4 hst4;go_wp2_with fail;refine (HM1.out _ _ HI5.out.inv.rd).mono ?_;rintro r u1 ⟨rfl,hst⟩;have HJ:=hid (HI5.out.step hst);have HK:=hid (HG5.out.tch hst.2 zD);clear hst HI5 HG5;go_wp2_with fail;refine (HM2.out _ _ HJ.out.inv.rd).mono ?_;rintro r u2 ⟨rfl,hst⟩;have HJ2:=hid (HJ.out.step hst);have HK2:=hid (HK.out.tch hst.2 zD);obtain⟨y0,y1,y2,y3,y4,y5,y6,ly⟩:=GR HK2.out;obtain⟨z0,z1,z2,z3,z4,z5,z6⟩:=JL HK2.out;clear hst HJ HK;go_upto_region 6 with (fail);have HI6:=hid (HJ2.out.row (show Below w1.heap.size u2 ((u2.setCell ⟨gf,1,none⟩ (.int .i64 (m1:Int))).setCell ⟨gf,2,none⟩ (.int .i64 (m2:Int))) from (Below.refl _ _ |>.setCell zH _).setCell zH _));have HG6:Hid (Blk ((u2.setCell ⟨gf,1,none⟩ (.int .i64 (m1:Int))).setCell ⟨gf,2,none⟩ (.int .i64 (m2:Int))) gf 81 #[.int .u64 (e:Int),.int .i64 (m1:Int),.int .i64 (m2:Int),.int .u64 0,.int .u64 0,.int .i64 0,.int .i64 0]):=hid ((HK2.out.set 1 _).set 2 _);generalize ((u2.setCell ⟨gf,1,none⟩ (.int .i64 (m1:Int))).setCell ⟨gf,2,none⟩ (.int .i64 (m2:Int)))=w6 at*;clear y0 y1 y2 y3 y4 y5 y6 ly z0 z1 z2 z3 z4 z5 z6 HJ2 HK2;go_wp2_with fail;refine (HM3.out _ _ HI6.out.inv.rd).mono ?_;rintro r u1 ⟨rfl,hst⟩;have HJ:=hid (HI6.out.step hst);have HK:=hid (HG6.out.tch hst.2 zD);clear hst HI6 HG6;go_wp2_with fail;refine (HM4.out _ _ HJ.out.inv.rd).mono ?_;rintro r u2 ⟨rfl,hst⟩;have HJ2:=hid (HJ.out.step hst);have HK2:=hid (HK.out.tch hst.2 zD);obtain⟨y0,y1,y2,y3,y4,y5,y6,ly⟩:=GR HK2.out;obtain⟨z0,z1,z2,z3,z4,z5,z6⟩:=JL HK2.out;clear hst HJ HK;go_upto_region 7 with (fail);have HI7:=hid (HJ2.out.row (show Below w1.heap.size u2 ((u2.setCell ⟨gf,3,none⟩ (.int .u64 (m3:Int))).setCell ⟨gf,4,none⟩ (.int .u64 (m4:Int))) from (Below.refl _ _ |>.setCell zH _).setCell zH _));have HG7:Hid (Blk ((u2.setCell ⟨gf,3,none⟩ (.int .u64 (m3:Int))).setCell ⟨gf,4,none⟩ (.int .u64 (m4:Int))) gf 81 #[.int .u64 (e:Int),.int .i64 (m1:Int),.int .i64 (m2:Int),.int .u64 (m3:Int),.int .u64 (m4:Int),.int .i64 0,.int .i64 0]):=hid ((HK2.out.set 3 _).set 4 _);generalize ((u2.setCell ⟨gf,3,none⟩ (.int .u64 (m3:Int))).setCell ⟨gf,4,none⟩ (.int .u64 (m4:Int)))=w7 at*;clear y0 y1 y2 y3 y4 y5 y6 ly z0 z1 z2 z3 z4 z5 z6 HJ2 HK2;go_wp2_with fail;refine (HM5.out _ _ HI7.out.inv.rd).mono ?_;rintro r u1 ⟨rfl,hst⟩;have HJ:=hid (HI7.out.step hst);have HK:=hid (HG7.out.tch hst.2 zD);clear hst HI7 HG7;go_wp2_with fail;refine (HM6.out _ _ HJ.out.inv.rd).mono ?_;rintro r u2 ⟨rfl,hst⟩;have HJ2:=hid (HJ.out.step hst);have HK2:=hid (HK.out.tch hst.2 zD);obtain⟨y0,y1,y2,y3,y4,y5,y6,ly⟩:=GR HK2.out;obtain⟨z0,z1,z2,z3,z4,z5,z6⟩:=JL HK2.out;clear hst HJ HK;go_upto_region 8 with (fail);have HI8:=hid (HJ2.out.row (show Below w1.heap.size u2 ((u2.setCell ⟨gf,5,none⟩ (.int .i64 (m5:Int))).setCell ⟨gf,6,none⟩ (.int .i64 (m6:Int))) from (Below.refl _ _ |>.setCell zH _).setCell zH _));have HG8:Hid (Blk ((u2.setCell ⟨gf,5,none⟩ (.int .i64 (m5:Int))).setCell ⟨gf,6,none⟩ (.int .i64 (m6:Int))) gf 81 Vm):=hid ((HK2.out.set 5 _).set 6 _);generalize ((u2.setCell ⟨gf,5,none⟩ (.int .i64 (m5:Int))).setCell ⟨gf,6,none⟩ (.int .i64 (m6:Int)))=w8 at*;clear y0 y1 y2 y3 y4 y5 y6 ly z0 z1 z2 z3 z4 z5 z6 HJ2 HK2;obtain⟨y0,y1,y2,y3,y4,y5,y6,ly⟩:=GR HG8.out;go_wp2_with fail;refine (HRT.out _).mono ?_;rintro r w9 ⟨rfl,hb9⟩;have HI9:=hid (HI8.out.later hb9);have HG9:=hid (HG8.out.later hb9);clear y0 y1 y2 y3 y4 y5 y6 ly hb9 HI8 HG8 HRT;go_upto_if 37 with (fail);go_cut [] from 38 to 39 (fun V=>Hid (FtI w w1 g P a s10 V)∧Hid (Blk V gf 81 #[.int .u64 (e:Int),.int .i64 (m1:Int),.int .i64 (m2:Int),.int .u64 (m3:Int),.int .u64 (m4:Int),.int .i64 (m5:Int),.int .i64 (m6:Int)]))
  case first=>
   cases FB
   ·have hs10:=HS10.out
    simp only[Bool.false_eq_true,if_false] at hs10;rw[←hs10] at HFL9;go_wp2_with fail;refine (HFL9.out _ _ HI9.out.inv.rd).mono ?_;rintro r w10 ⟨rfl,hst10⟩;have HI10:=hid (HI9.out.step hst10);have HG10:=hid (HG9.out.tch hst10.2 zD);go_wp2_with fail;go_meet
    case rel=>exact ⟨HI10,HG10⟩
   ·have hs10:=HS10.out
    simp only[Fs] at hs10;subst hs10;go_wp2_with fail;go_meet
    case rel=>exact ⟨HI9,HG9⟩
  case rest=>
   obtain⟨HI10,HG10⟩:=hcut;clear HI9 HG9 HFL9 HS10;go_wp2_with fail;refine (HEND.out _ _ HI10.out.inv.rd).mono ?_;rintro r w11 ⟨rfl,hst11⟩;have HI11:=hid (HI10.out.step hst11);have HG11:=hid (HG10.out.tch hst11.2 zD);clear hst11 HI10 HG10;go_wp2_with fail;refine (HFT.out _ _ HI11.out.inv.rd).mono ?_;rintro r w12 ⟨rfl,hb12⟩;have hb13:Below w12.heap.size w12 (w12.alloc (.cells #[.int .i64 s11.k,.int .i64 s11.f] 65)):=zA;have HI13:=hid ((HI11.out.later hb12).later hb13);have HG13:=hid ((HG11.out.later hb12).later hb13);have HX13:Hid (Blk (w12.alloc (.cells #[.int .i64 s11.k,.int .i64 s11.f] 65)) w12.heap.size 65 #[.int .i64 s11.k,.int .i64 s11.f]):=hid (Blk.new _ _ _);have hx12:w1.heap.size≤w12.heap.size:=by have:=HI11.out.inv.tch.size;have:=hb12.size;omega
   clear HI11 HG11 hb12 hb13;go_upto_region 12 with (fail);generalize (w12.alloc (.cells #[.int .i64 s11.k,.int .i64 s11.f] 65))=w13 at*;generalize w12.heap.size=gx at*;obtain⟨x0,x1,x2,x3,lx⟩:=Bg HX13.out;by_cases hk:s11.k=0
   ·rw[Ad hk] at HGD
    have hr:=HRS.out;rw[Ai hk] at hr;subst hr
    (try dsimp only)
    clear hk;go_wp2_with fail;refine (HGD.out _).mono ?_;rintro r w14 ⟨rfl,hb14⟩;have HI14:=HI13.out.later hb14;have HG14:=HG13.out.later hb14;obtain⟨y0,y1,y2,y3,y4,y5,y6,ly⟩:=GR HG14;obtain⟨m0,m1',m2',m3',m4',m5',m6',lm⟩:=GR HI14.mb;obtain⟨z0,z1,z2,z3,z4,z5,z6⟩:=JL HI14.mb;obtain⟨q0,q1,q2,q3,lq⟩:=Bg HI14.fb;have hbl:=HI14.bl;clear hb14 x0 x1 x2 x3 lx HI14 HG14;go_wp2_with fail;refine An (v:=.tuple #[.agg Vm,.agg #[.int .i64 0,.int .i64 0]]) zAi rfl ⟨rfl,zA⟩
   ·rw[Ae hk] at HGD
    have hr:=HRS.out;rw[Ah hk] at hr;subst hr
    (try dsimp only[QG])
    clear hk;go_wp2_with fail;refine (HGD.out _).mono ?_;rintro r w14 ⟨rfl,hb14⟩;have HI14:=HI13.out.later hb14;have HX14:=HX13.out.later hb14;clear x0 x1 x2 x3 lx;obtain⟨x0,x1,x2,x3,lx⟩:=Bg HX14;obtain⟨m0,m1',m2',m3',m4',m5',m6',lm⟩:=GR HI14.mb;obtain⟨z0,z1,z2,z3,z4,z5,z6⟩:=JL HI14.mb;obtain⟨q0,q1,q2,q3,lq⟩:=Bg HI14.fb;have hbl:=HI14.bl;clear hb14 HI14 HX14;go_wp2_with fail;go_region
    all_goals
     go_wp2;refine An (v:=.tuple #[.agg Vg,.agg #[.int .i64 s11.k,.int .i64 s11.f]]) zAi rfl ⟨rfl,zA⟩
def Ev.x(e:Ev):EvX:=⟨e.kind,e.at_,e.code,e.msg,EG⟩
theorem Blk.row{E:Nat}{cs:Array Value}(ds:Array Value)(h:Blk W E t cs):Blk (W.setRow E ds) E t ds:=setRow_heap W E cs ds t (0,0) h
theorem Tch.row(W:World)(E:Nat)(ds:Array Value):Tch (·=E) W (W.setRow E ds):=⟨rfl,rfl,rfl,zQ,fun b _ hf=>setRow_other W E b ds hf⟩
theorem Rs.Jh{k a:Int}:(s.within k f a).p=s.p:=by
 unfold Rs.within;split
 ·rfl
 ·exact Rs.Hr
set_option maxHeartbeats 12800000 in
theorem TW(W:World){ep:Int}{vL vM:Value}{l:List Batch}{M:List AU}{fi:Nat}{T:Nat}(h:Bi w gr gc B a s ep vL l vM M q (fi:Int) T W)(hB:B.length≤1000000000)(hM:Cv M=true)(hfi:fi≤s.p)(hs:s.fit B.length):
    Calls Tryz.prog 126 #[.pointer (some ⟨gr,0,none⟩)] W fun r W'=>r=.returned (.tuple #[])∧(∃fi' T',Bi w gr gc B a (Fc B s fi ep M) ep vL l vM M q fi' T' W')∧W.heap.size≤W'.heap.size:=by
  have HI:=hid h;have hgc:gc<gr:=Ao h.inv.lt h.gl;have hp:=h.inv.rd.ok.le;obtain⟨cMs,hcM⟩:=h.ownM;obtain⟨aM,cM,rfl⟩:=AX hcM.1;have HMR:=hid (show Bk.r (·<W.heap.size) W [.slice aM M.length cM] M from Bk.mono (AZ.slice (Ap _) ⟨cMs,hcM⟩) fun b e=>e.2);have HAT:=hid (fun (V:World) (hV:AN V gc B a s)=>BI V hV);have HFO:=hid (fun (V:World) (hV:Below W.heap.size W V)=>IP ep M (fi:Int) ((s.p:Int)-(fi:Int)) aM _ cM V (lift HMR.out hV) hM);obtain⟨sE,hsE⟩:∃sE,sE=Fc B s fi ep M:=⟨_,rfl⟩;rw[←hsE];unfold Fc at hsE;dsimp only at hsE;generalize Ge ep M (fi:Int) ((s.p:Int)-(fi:Int))=WF at*;simp only[Cj.val] at HFO;generalize hF:s.frame B 2097152=F at*;obtain⟨t,D⟩:=F;have hcan:=fun h0:t.k=0=>Rs.Ex hs hF h0;have HPA:=hid (fun (V:World) (hV:Bi w gr gc B a s ep vL l (.slice aM M.length cM) M q (fi:Int) T V)=>Ko V hV hB hF);have HGT:=hid (fun (V:World) (hV:AN V gc B a t)=>AK V hV);dsimp only at hsE;generalize hg:FW D=FR at*;obtain⟨f,fk,ff⟩:=FR;dsimp only at hsE;have HSE:=hid hsE;have HFD:=hid hg;obtain⟨y0,y1,y2,y3,y4,y5,ly⟩:=CF h.rb;have SK:=hid (fun (w':World) (hb:Below W.heap.size W w')=>(⟨(AE.mk _ hb).cell y0,(AE.mk _ hb).cell y1,(AE.mk _ hb).cell y3,(AE.mk _ hb).cell y5⟩:w'.cell? ⟨gr,0,none⟩=some (.pointer (some ⟨gc,0,none⟩))∧w'.cell? ⟨gr,1,none⟩=some (.int .u64 ep)∧w'.cell? ⟨gr,3,none⟩=some (.slice aM M.length cM)∧w'.cell? ⟨gr,5,none⟩=some (.int .i64 (fi:Int))));have hb1000:s.p≤1000000000:=zD;have HINF:=hid (show (Tryz.prog.info? 81).map (·.size)=some 7 by kernel_rfl);have HONE:=hid (show (Vk:Array Value).all (·.oneCell')=true from Array.all_eq_true_iff_forall_mem.2 (fun u hu=>by simp at hu;rcases hu with rfl | rfl | rfl | rfl | rfl | rfl | rfl<;>rfl));have HWL:Hid (IntKind.i64.wrap ((s.p:Int)-(fi:Int))=(s.p:Int)-(fi:Int)):=hid (by rw[IntKind.wrap_i64];omega);clear hcM hM hF h hsE hg hs;go_enter Tryz.func126,Tryz.ntmps126;go_upto_region 0 with (fail);go_cut [2] from 8 to 31 (fun s2 V=>∃g2:Nat,s2=.pointer (some ⟨g2,0,none⟩)∧Hid (Blk V g2 81 #[.int .u64 WF.ep,.int .i64 WF.n,.int .i64 WF.en,.int .u64 WF.first,.int .u64 WF.fin,.int .i64 WF.at_,.int .i64 WF.size])∧W.heap.size≤g2∧Hid (Bi w gr gc B a s ep vL l (.slice aM M.length cM) M q (fi:Int) T V)∧W.heap.size≤V.heap.size)
  case first=>
    refine CO (fun w'=>w'.cell? ⟨gr,0,none⟩=some (.pointer (some ⟨gc,0,none⟩))∧w'.cell? ⟨gr,1,none⟩=some (.int .u64 ep)∧w'.cell? ⟨gr,3,none⟩=some (.slice aM M.length cM)∧w'.cell? ⟨gr,5,none⟩=some (.int .i64 (fi:Int))) _ zJ rfl zJ ⟨y0,y1,y3,y5⟩ (fun hHeld=> ?_);simp only[BD,FN];refine Av (i:=0) (oi:=_) (v:=?_) rfl zF zF zF (fun _ _ _ h=>h) (Or.inl ⟨zU,?_⟩) zM ?_;rotate_left
    · (intro w hSw;(try dsimp only at hSw);go_simp<;>with_reducible rfl)
    (try simp only[Act.put,Aa,Ab,Ac])
    (try simp only[Am,Ak,Aj,Act.put,Aa,Ab,Ac])
    refine Av (i:=1) (oi:=_) (v:=?_) rfl zF zF zF (fun _ _ _ h=>h) (Or.inl ⟨zU,?_⟩) zM ?_;rotate_left
    · (intro w hSw;(try dsimp only at hSw);go_simp<;>with_reducible rfl)
    (try simp only[Act.put,Aa,Ab,Ac])
    (try simp only[Am,Ak,Aj,Act.put,Aa,Ab,Ac])
    refine Av (i:=2) (oi:=_) (v:=?_) rfl zF zF zF (fun _ _ _ h=>h) (Or.inl ⟨zU,?_⟩) zM ?_;rotate_left
    · (intro w hSw;(try dsimp only at hSw);go_simp<;>with_reducible rfl)
    (try simp only[Act.put,Aa,Ab,Ac])
    (try simp only[Am,Ak,Aj,Act.put,Aa,Ab,Ac])
    refine Av (i:=3) (oi:=_) (v:=?_) rfl zF zF zF (fun _ _ _ h=>h) (Or.inl ⟨zU,?_⟩) zM ?_;rotate_left
    · (intro w hSw;(try dsimp only at hSw);go_simp<;>with_reducible rfl)
    (try simp only[Act.put,Aa,Ab,Ac])
    (try simp only[Am,Ak,Aj,Act.put,Aa,Ab,Ac])
    refine Av (i:=4) (oi:=_) (v:=?_) rfl zF zF zF (fun _ _ _ h=>h) (Or.inl ⟨zU,?_⟩) zM ?_;rotate_left
    · (intro w hSw;(try dsimp only at hSw);go_simp<;>with_reducible rfl)
    (try simp only[Act.put,Aa,Ab,Ac])
    (try simp only[Am,Ak,Aj,Act.put,Aa,Ab,Ac])
    refine Av (i:=5) (oi:=_) (v:=?_) rfl zF zF zF (fun _ _ _ h=>h) (Or.inl ⟨zU,?_⟩) zM ?_;rotate_left
    · (intro w hSw;(try dsimp only at hSw);go_simp<;>with_reducible rfl)
    (try simp only[Act.put,Aa,Ab,Ac])
    (try simp only[Am,Ak,Aj,Act.put,Aa,Ab,Ac])
    refine Av (i:=6) (oi:=_) (v:=?_) rfl zF zF zF (fun _ _ _ h=>h) (Or.inl ⟨zU,?_⟩) zM ?_;rotate_left
    · (intro w hSw;(try dsimp only at hSw);go_simp<;>with_reducible rfl)
    (try simp only[Act.put,Aa,Ab,Ac])
    (try simp only[Am,Ak,Aj,Act.put,Aa,Ab,Ac])
    refine Av (i:=7) (oi:=_) (v:=?_) rfl zF zF zF (fun _ _ _ h=>h) (Or.inl ⟨zU,?_⟩) zM ?_;rotate_left
    · (intro w hSw;(try dsimp only at hSw);go_simp<;>with_reducible rfl)
    (try simp only[Act.put,Aa,Ab,Ac])
    (try simp only[Am,Ak,Aj,Act.put,Aa,Ab,Ac])
    refine Av (i:=8) (oi:=_) (v:=?_) rfl zF zF zF (fun _ _ _ h=>h) (Or.inl ⟨zU,?_⟩) zM ?_;rotate_left
    · (intro w hSw;(try dsimp only at hSw);go_simp<;>with_reducible rfl)
    (try simp only[Act.put,Aa,Ab,Ac])
    (try simp only[Am,Ak,Aj,Act.put,Aa,Ab,Ac])
    refine Av (i:=9) (oi:=_) (v:=?_) rfl zF zF zF (fun _ _ _ h=>h) (Or.inl ⟨zU,?_⟩) zM ?_;rotate_left
    · (intro w hSw;(try dsimp only at hSw);go_simp<;>with_reducible rfl)
    (try simp only[Act.put,Aa,Ab,Ac])
    (try simp only[Am,Ak,Aj,Act.put,Aa,Ab,Ac])
    refine Av (i:=10) (oi:=_) (v:=?_) rfl zF zF zF (fun _ _ _ h=>h) (Or.inl ⟨zU,?_⟩) zM ?_;rotate_left
    · (intro w hSw;(try dsimp only at hSw);go_simp<;>with_reducible rfl)
    (try simp only[Act.put,Aa,Ab,Ac])
    (try simp only[Am,Ak,Aj,Act.put,Aa,Ab,Ac])
    refine Av (i:=11) (oi:=_) (v:=?_) rfl zF zF zF (fun _ _ _ h=>h) (Or.inl ⟨zU,?_⟩) zM ?_;rotate_left
    · (intro w hSw;(try dsimp only at hSw);go_simp<;>with_reducible rfl)
    (try simp only[Act.put,Aa,Ab,Ac])
    (try simp only[Am,Ak,Aj,Act.put,Aa,Ab,Ac])
    refine Av (i:=12) (oi:=_) (v:=?_) rfl zF zF zF (fun _ _ _ h=>h) (Or.inl ⟨zU,?_⟩) zM ?_;rotate_left
    · (intro w hSw;(try dsimp only at hSw);go_simp<;>with_reducible rfl)
    (try simp only[Act.put,Aa,Ab,Ac])
    (try simp only[Am,Ak,Aj,Act.put,Aa,Ab,Ac])
    refine Av (i:=13) (oi:=_) (v:=?_) rfl zF zF zF (fun _ _ _ h=>h) (Or.inl ⟨zU,?_⟩) zM ?_;rotate_left
    · (intro w hSw;(try dsimp only at hSw);go_simp<;>with_reducible rfl)
    (try simp only[Act.put,Aa,Ab,Ac])
    (try simp only[Am,Ak,Aj,Act.put,Aa,Ab,Ac])
    refine Av (i:=14) (oi:=_) (v:=?_) rfl zF zF zF (fun _ _ _ h=>h) (Or.inl ⟨zU,?_⟩) zM ?_;rotate_left
    · (intro w hSw;(try dsimp only at hSw);go_simp<;>with_reducible rfl)
    (try simp only[Act.put,Aa,Ab,Ac])
    (try simp only[Am,Ak,Aj,Act.put,Aa,Ab,Ac])
    refine Av (i:=15) (oi:=_) (v:=?_) rfl zF zF zF (fun _ _ _ h=>h) (Or.inl ⟨zU,?_⟩) zM ?_;rotate_left
    · (intro w hSw;(try dsimp only at hSw);go_simp<;>with_reducible rfl)
    (try simp only[Act.put,Aa,Ab,Ac])
    (try simp only[Am,Ak,Aj,Act.put,Aa,Ab,Ac])
    refine Av (i:=16) (oi:=_) (v:=?_) rfl zF zF zF (fun _ _ _ h=>h) (Or.inl ⟨zU,?_⟩) zM ?_;rotate_left
    · (intro w hSw;(try dsimp only at hSw);go_simp<;>with_reducible rfl)
    (try simp only[Act.put,Aa,Ab,Ac])
    (try simp only[Am,Ak,Aj,Act.put,Aa,Ab,Ac])
    refine Av (i:=18) (oi:=_) (v:=?_) rfl zF zF zF (fun _ _ _ h=>h) (Or.inl ⟨zU,?_⟩) zM ?_;rotate_left
    · (intro w hSw;(try dsimp only at hSw);go_simp<;>with_reducible rfl)
    (try simp only[Act.put,Aa,Ab,Ac])
    (try simp only[Am,Ak,Aj,Act.put,Aa,Ab,Ac])
    refine Av (i:=19) (oi:=_) (v:=?_) rfl zF zF zF (fun _ _ _ h=>h) (Or.inl ⟨zU,?_⟩) zM ?_;rotate_left
    · (intro w hSw;(try dsimp only at hSw);go_simp<;>with_reducible rfl)
    (try simp only[Act.put,Aa,Ab,Ac])
    (try simp only[Am,Ak,Aj,Act.put,Aa,Ab,Ac])
    refine Av (i:=20) (oi:=_) (v:=?_) rfl zF zF zF (fun _ _ _ h=>h) (Or.inl ⟨zU,?_⟩) zM ?_;rotate_left
    · (intro w hSw;(try dsimp only at hSw);go_simp<;>with_reducible rfl)
    (try simp only[Act.put,Aa,Ab,Ac])
    (try simp only[Am,Ak,Aj,Act.put,Aa,Ab,Ac])
    refine Av (i:=21) (oi:=_) (v:=?_) rfl zF zF zF (fun _ _ _ h=>h) (Or.inl ⟨zU,?_⟩) zM ?_;rotate_left
    · (intro w hSw;(try dsimp only at hSw);go_simp<;>with_reducible rfl)
    (try simp only[Act.put,Aa,Ab,Ac])
    (try simp only[Am,Ak,Aj,Act.put,Aa,Ab,Ac])
    refine Bq (rs:=[17,24]) zF zQ ?_;refine Bb (o:=_) rfl (fun K hK=> ?_) (Bb (o:=_) rfl (fun K hK=> ?_) AllReadyH.nil)
    · (go_simp;go_at_call 173;refine (HAT.out _ (HI.out.inv.rd.later zA)).mono ?_;rintro e1 w3 ⟨rfl,rfl⟩;(try dsimp only))
      refine hK.out _ _ ?_ (fun hHeld=> ?_)
      · ((try dsimp only);refine SK.out _ ?_;(repeat (first | with_reducible exact Below.refl _ _ | with_reducible assumption | (with_reducible refine Au ?_ _) | (with_reducible refine Below.setCell ?_ zE _) | (with_reducible refine Below.drew ?_) | (with_reducible refine below_drewN ?_ _) | (refine Af zG ?_))))
      clear hK K
      (try simp only[Act.put,Aa,Ab,Ac])
      refine Av (i:=22) (oi:=_) (v:=?_) rfl zF zF zF (fun _ _ _ h=>h) (Or.inl ⟨zU,?_⟩) zM ?_;rotate_left
      · (intro w hSw;(try dsimp only at hSw);go_simp<;>with_reducible rfl)
      (try simp only[Act.put,Aa,Ab,Ac])
      (try simp only[Am,Ak,Aj,Act.put,Aa,Ab,Ac])
      (try rw[HWL.out])
      refine Bq (rs:=[23,24]) zF zQ ?_;refine Bb (o:=_) rfl (fun K hK=> ?_) (Bb (o:=_) rfl (fun K hK=> ?_) AllReadyH.nil)
      · (go_simp;go_at_call 149;refine (HFO.out _ zA).mono ?_;rintro e1 w4 ⟨rfl,hb4⟩;have hbw4:Below W.heap.size W w4:=Af hb4 zA;(try dsimp only))
        refine hK.out _ _ ?_ (fun hHeld=> ?_)
        · ((try dsimp only);refine SK.out _ ?_;(repeat (first | with_reducible exact Below.refl _ _ | with_reducible assumption | (with_reducible refine Au ?_ _) | (with_reducible refine Below.setCell ?_ zE _) | (with_reducible refine Below.drew ?_) | (with_reducible refine below_drewN ?_ _) | (refine Af zG ?_))))
        clear hK K
        (try simp only[Act.put,Aa,Ab,Ac])
        refine Bq (rs:=[24]) zF zQ ?_;refine Bb (o:=_) rfl (fun K hK=> ?_) AllReadyH.nil;go_simp
        refine hK.out _ _ ?_ (fun hHeld=> ?_)
        · ((try dsimp only);refine SK.out _ ?_;(repeat (first | with_reducible exact Below.refl _ _ | with_reducible assumption | (with_reducible refine Au ?_ _) | (with_reducible refine Below.setCell ?_ zE _) | (with_reducible refine Below.drew ?_) | (with_reducible refine below_drewN ?_ _) | (refine Af zG ?_))))
        clear hK K
        (try simp only[Act.put,Aa,Ab,Ac])
        refine Av (i:=25) (oi:=_) (v:=?_) rfl zF zF zF (fun _ _ _ h=>h) (Or.inl ⟨zU,?_⟩) zM ?_;rotate_left
        · (intro w hSw;(try dsimp only at hSw);go_simp<;>with_reducible rfl)
        (try simp only[Act.put,Aa,Ab,Ac])
        (try simp only[Am,Ak,Aj,Act.put,Aa,Ab,Ac])
        refine GC zJ ?_ _;show wpList _ _ _ _ _ _
        go_wp2_with fail;go_meet
        case rel=>exact ⟨_,rfl,hid zC,hbw4.size,hid (HI.out.later zA),by have:=hbw4.size;first | omega | (simp;omega)⟩
      · go_simp
        refine hK.out _ _ ?_ (fun hHeld=> ?_)
        · ((try dsimp only);refine SK.out _ ?_;(repeat (first | with_reducible exact Below.refl _ _ | with_reducible assumption | (with_reducible refine Au ?_ _) | (with_reducible refine Below.setCell ?_ zE _) | (with_reducible refine Below.drew ?_) | (with_reducible refine below_drewN ?_ _) | (refine Af zG ?_))))
        clear hK K
        (try simp only[Act.put,Aa,Ab,Ac])
        refine Bq (rs:=[23]) zF zQ ?_;refine Bb (o:=_) rfl (fun K hK=> ?_) AllReadyH.nil
        (go_simp;go_at_call 149;refine (HFO.out _ zA).mono ?_;rintro e1 w4 ⟨rfl,hb4⟩;have hbw4:Below W.heap.size W w4:=Af hb4 zA;have hZ4:Blk w4 W.heap.size 81 Vg:=Blk.later zC hb4;(try dsimp only))
        refine hK.out _ _ ?_ (fun hHeld=> ?_)
        · ((try dsimp only);refine SK.out _ ?_;(repeat (first | with_reducible exact Below.refl _ _ | with_reducible assumption | (with_reducible refine Au ?_ _) | (with_reducible refine Below.setCell ?_ zE _) | (with_reducible refine Below.drew ?_) | (with_reducible refine below_drewN ?_ _) | (refine Af zG ?_))))
        clear hK K
        (try simp only[Act.put,Aa,Ab,Ac])
        refine Av (i:=25) (oi:=_) (v:=?_) rfl zF zF zF (fun _ _ _ h=>h) (Or.inl ⟨zU,?_⟩) zM ?_;rotate_left
        · (intro w hSw;(try dsimp only at hSw);go_simp<;>with_reducible rfl)
        (try simp only[Act.put,Aa,Ab,Ac])
        (try simp only[Am,Ak,Aj,Act.put,Aa,Ab,Ac])
        refine GC zJ ?_ _;refine wpList_store_row rfl 81 _ _ rfl W.heap.size #[.int .u64 WF.ep,.int .i64 WF.n,.int .i64 WF.en,.int .u64 WF.first,.int .u64 WF.fin,.int .i64 WF.at_,.int .i64 WF.size] rfl rfl 81 #[.int .u64 0,.int .i64 0,.int .i64 0,.int .u64 0,.int .u64 0,.int .i64 0,.int .i64 0] hZ4 HINF.out rfl HONE.out ?_;go_wp2_with fail;go_meet
        case rel=>exact ⟨_,rfl,hid (Blk.row _ hZ4),Ap _,hid ((HI.out.later hbw4).side (Tch.row _ _ _) (fun b e1 e2=>by have e2:b=W.heap.size:=e2;have:=HI.out.t2;omega)),A6 hbw4.size (Tch.row _ _ _).size⟩
    · go_simp
      refine hK.out _ _ ?_ (fun hHeld=> ?_)
      · ((try dsimp only);refine SK.out _ ?_;(repeat (first | with_reducible exact Below.refl _ _ | with_reducible assumption | (with_reducible refine Au ?_ _) | (with_reducible refine Below.setCell ?_ zE _) | (with_reducible refine Below.drew ?_) | (with_reducible refine below_drewN ?_ _) | (refine Af zG ?_))))
      clear hK K
      (try simp only[Act.put,Aa,Ab,Ac])
      refine Bq (rs:=[17]) zF zQ ?_;refine Bb (o:=_) rfl (fun K hK=> ?_) AllReadyH.nil
      (go_simp;go_at_call 173;refine (HAT.out _ (HI.out.inv.rd.later zA)).mono ?_;rintro e1 w3 ⟨rfl,rfl⟩;(try dsimp only))
      refine hK.out _ _ ?_ (fun hHeld=> ?_)
      · ((try dsimp only);refine SK.out _ ?_;(repeat (first | with_reducible exact Below.refl _ _ | with_reducible assumption | (with_reducible refine Au ?_ _) | (with_reducible refine Below.setCell ?_ zE _) | (with_reducible refine Below.drew ?_) | (with_reducible refine below_drewN ?_ _) | (refine Af zG ?_))))
      clear hK K
      (try simp only[Act.put,Aa,Ab,Ac])
      refine Av (i:=22) (oi:=_) (v:=?_) rfl zF zF zF (fun _ _ _ h=>h) (Or.inl ⟨zU,?_⟩) zM ?_;rotate_left
      · (intro w hSw;(try dsimp only at hSw);go_simp<;>with_reducible rfl)
      (try simp only[Act.put,Aa,Ab,Ac])
      (try simp only[Am,Ak,Aj,Act.put,Aa,Ab,Ac])
      (try rw[HWL.out])
      refine Bq (rs:=[23]) zF zQ ?_;refine Bb (o:=_) rfl (fun K hK=> ?_) AllReadyH.nil
      (go_simp;go_at_call 149;refine (HFO.out _ zA).mono ?_;rintro e1 w4 ⟨rfl,hb4⟩;have hbw4:Below W.heap.size W w4:=Af hb4 zA;have hZ4:Blk w4 W.heap.size 81 Vg:=Blk.later zC hb4;(try dsimp only))
      refine hK.out _ _ ?_ (fun hHeld=> ?_)
      · ((try dsimp only);refine SK.out _ ?_;(repeat (first | with_reducible exact Below.refl _ _ | with_reducible assumption | (with_reducible refine Au ?_ _) | (with_reducible refine Below.setCell ?_ zE _) | (with_reducible refine Below.drew ?_) | (with_reducible refine below_drewN ?_ _) | (refine Af zG ?_))))
      clear hK K
      (try simp only[Act.put,Aa,Ab,Ac])
      refine Av (i:=25) (oi:=_) (v:=?_) rfl zF zF zF (fun _ _ _ h=>h) (Or.inl ⟨zU,?_⟩) zM ?_;rotate_left
      · (intro w hSw;(try dsimp only at hSw);go_simp<;>with_reducible rfl)
      (try simp only[Act.put,Aa,Ab,Ac])
      (try simp only[Am,Ak,Aj,Act.put,Aa,Ab,Ac])
      refine GC zJ ?_ _;refine wpList_store_row rfl 81 _ _ rfl W.heap.size #[.int .u64 WF.ep,.int .i64 WF.n,.int .i64 WF.en,.int .u64 WF.first,.int .u64 WF.fin,.int .i64 WF.at_,.int .i64 WF.size] rfl rfl 81 #[.int .u64 0,.int .i64 0,.int .i64 0,.int .u64 0,.int .u64 0,.int .i64 0,.int .i64 0] hZ4 HINF.out rfl HONE.out ?_;go_wp2_with fail;go_meet
      case rel=>exact ⟨_,rfl,hid (Blk.row _ hZ4),Ap _,hid ((HI.out.later hbw4).side (Tch.row _ _ _) (fun b e1 e2=>by have e2:b=W.heap.size:=e2;have:=HI.out.t2;omega)),A6 hbw4.size (Tch.row _ _ _).size⟩
  case rest=>
    obtain⟨g2,rfl,HW2,hg2,HI2,hz2⟩:=hcut;clear HI HAT HFO HMR SK y0 y1 y2 y3 y4 y5;generalize hWc:wc=w2 at*;have hg2l:=HW2.out.lt;go_wp2_with fail;refine (HPA.out _ HI2.out).mono ?_;rintro r w3 ⟨ap,cp,rfl,hD3,hi3,hz3,ht3⟩;have HI3:=hid hi3;have HD3:=hid (show Ag.r (·<w3.heap.size) w3 [.slice ap D.length cp] D from Ag.mono hD3 fun q e=>e.2);have HW3:=hid (HW2.out.tch ht3 (fun e=>by rcases e with e | e<;>omega));clear hD3 hi3 ht3 HPA HI2 HW2;obtain⟨y0,y1,y2,y3,y4,y5,ly3⟩:=CF HI3.out.rb;generalize hA:((t.p:Int)-4-(D.length:Int))=A at*;by_cases ht:t.k=0
    · rw[Ad ht] at HGT
      obtain⟨c1,c2,c3,c4,c5⟩:=hcan ht;have hA1: -9000000≤A∧A≤1000000000:=zD;have hpt:s.p≤t.p:=zD;have hs:=HSE.out;rw[Ai ht] at hs;obtain⟨u,hu⟩:∃u,t.within fk ff A=u:=⟨_,rfl⟩;rw[hu] at hs;obtain⟨v,hv⟩:∃v,(if f=WF then u else u.fail 12 (s.p:Int))=v:=⟨_,rfl⟩;rw[hv] at hs;have hvp:v.p=t.p:=by
        rw[←hv,←hu];split
        · exact Rs.Jh
        · rw[Rs.Hr]
          exact Rs.Jh
      obtain⟨tk,htk⟩:∃tk,v.take B 12=tk:=⟨_,rfl⟩;rw[htk] at hs;obtain⟨z1,Z⟩:=tk;dsimp only at hs;obtain⟨nn,hnn⟩:∃nn:Nat,v.p-s.p=nn:=⟨_,rfl⟩;rw[hnn] at hs;have hnn2:(v.p:Int)-(s.p:Int)=(nn:Int):=zD;have hnn3:nn<18446744073709551616:=zD;obtain⟨z2,hz2'⟩:∃z2,(if Z=DR nn then z1 else z1.fail 12 (v.p:Int))=z2:=⟨_,rfl⟩;rw[hz2'] at hs;have hvB:v.p≤B.length:=zD;have HRP:=hid (fun (V:World) (h:Ag.r (·<V.heap.size) V [.slice ap D.length cp] D)=>(by have h0:=I4 V D ap _ cp h zD;rw[HFD.out] at h0;exact h0:Calls Tryz.prog 199 #[.slice ap D.length cp] V fun r w'=>r=.returned (.tuple #[.agg #[.int .u64 f.ep,.int .i64 f.n,.int .i64 f.en,.int .u64 f.first,.int .u64 f.fin,.int .i64 f.at_,.int .i64 f.size],.agg #[.int .i64 fk,.int .i64 ff]])∧Below V.heap.size V w'));have HWI:=hid (fun (V:World) (hV:AN V gc B a t) (x0:V.cell? ⟨gr,0,none⟩=some (.pointer (some ⟨gc,0,none⟩)))=>(by have h0:=FI V hV x0 fk ff A;rw[hu] at h0;exact h0:Calls Tryz.prog 198 #[.pointer (some ⟨gr,0,none⟩),.agg #[.int .i64 fk,.int .i64 ff],.int .i64 A] V fun r w'=>r=.returned (.tuple #[])∧Ay V gc B a u w'));obtain⟨nb,hnb⟩:∃nb:Bool,decide (f≠WF)=nb:=⟨_,rfl⟩;have HAV:=hid (fun (V:World) (hV:AN V gc B a v)=>BI V hV);have HTS:=hid KH;have HTK:=hid (fun (V:World) (hV:AN V gc B a v)=>(by have h0:=Ih V hV 12 zO zD;rw[htk] at h0;exact h0:Calls Tryz.prog 200 #[.pointer (some ⟨gc,0,none⟩),.int .i64 12] V fun r w'=>∃x,r=.returned x∧Ag.r (fun q=>V.heap.size≤q∧q<w'.heap.size) w' [x] Z∧Ay V gc B a z1 w'));have HTR:=hid (fun V:World=>Ho nn hnn3 V);have HEN:=hid (fun (V:World) (hV:AN V gc B a z2)=>NG V hV);rw[←hs] at HEN;have HV:=hid hv;have HNB:=hid hnb;have HZ2:=hid hz2';have HNN2:=hid hnn2;have HT:=hid ht;have HA:=hid hA;clear hcan ht c1 c2 c5 hs hu hv htk hz2' hnb hA HSE HFD hnn hnn2 hvp;go_wp2_with fail;refine (HGT.out _ HI3.out.inv.rd).mono ?_;rintro r w4 ⟨rfl,hb4⟩;have HI4:=hid (HI3.out.later hb4);have HW4:=hid (HW3.out.later hb4);have HD4:=hid (lift HD3.out hb4);have hz4:=hb4.size;clear hb4 HI3 HW3 HD3 HGT y0 y1 y2 y3 y4 y5 ly3;go_wp2_with fail;refine (HRP.out _ HD4.out).mono ?_;rintro r w5 ⟨rfl,hb5⟩;have hbT:Below w5.heap.size w5 ((w5.alloc (.cells Vi 81)).alloc (.cells #[.int .i64 fk,.int .i64 ff] 65)):=zA;have HF6:=hid (show Blk ((w5.alloc (.cells Vi 81)).alloc (.cells #[.int .i64 fk,.int .i64 ff] 65)) w5.heap.size 81 Vi by (repeat (first | assumption | exact Blk.newAt _ _ _ zL | refine Blk.alloc ?_ _ | refine Blk.drew ?_ | refine Blk.drewN ?_ _ | refine Blk.far ?_ zL _)));have HX6:=hid (show Blk ((w5.alloc (.cells Vi 81)).alloc (.cells #[.int .i64 fk,.int .i64 ff] 65)) (w5.heap.size+1) 65 #[.int .i64 fk,.int .i64 ff] by (repeat (first | assumption | exact Blk.newAt _ _ _ zL | refine Blk.alloc ?_ _ | refine Blk.drew ?_ | refine Blk.drewN ?_ _ | refine Blk.far ?_ zL _)));have HI6:=hid ((HI4.out.later hb5).later hbT);have HW6:=hid ((HW4.out.later hb5).later hbT);have hz5:=hb5.size;have hz6:=hbT.size;clear hb5 hbT HI4 HW4 HD4 HRP;go_upto_region 4 with (fail);generalize ((w5.alloc (.cells Vi 81)).alloc (.cells #[.int .i64 fk,.int .i64 ff] 65))=w6 at*;obtain⟨gf,hgf⟩:∃gf,gf=w5.heap.size:=⟨_,rfl⟩;rw[←hgf] at HF6 HX6;generalize w5.heap.size=zzgf at*;subst hgf;obtain⟨x0,x1,x2,x3,lx⟩:=Bg HX6.out;obtain⟨y0,y1,y2,y3,y4,y5,ly6⟩:=CF HI6.out.rb;go_wp2_with fail;refine (HWI.out _ HI6.out.inv.rd y0).mono ?_;rintro r w7 ⟨rfl,hst7⟩;have HI7:=hid (HI6.out.step hst7);have HW7:=hid (HW6.out.tch hst7.2 zD);have HF7:=hid (HF6.out.tch hst7.2 zD);have hz7:=hst7.2.size;clear hst7 HI6 HW6 HF6 HX6 HWI x0 x1 x2 x3 lx y0 y1 y2 y3 y4 y5 ly6;obtain⟨p0,p1,p2,p3,p4,p5,p6,lp⟩:=GR HF7.out;obtain⟨q0,q1,q2,q3,q4,q5,q6,lq⟩:=GR HW7.out;obtain⟨y0,y1,y2,y3,y4,y5,ly7⟩:=CF HI7.out.rb;go_upto_region 5 with (fail);go_cut [54] from 52 to 54 (fun s54 V=>s54=.bool nb∧w7=V)
      case first=>
        by_cases h0:f.ep=WF.ep
        · have d0:(f.ep==WF.ep)=true:=by simp[h0]
          by_cases h1:f.n=WF.n
          · have d1:(f.n==WF.n)=true:=by simp[h1]
            by_cases h2:f.en=WF.en
            · have d2:(f.en==WF.en)=true:=by simp[h2]
              by_cases h3:f.first=WF.first
              · have d3:(f.first==WF.first)=true:=by simp[h3]
                by_cases h4:f.fin=WF.fin
                · have d4:(f.fin==WF.fin)=true:=by simp[h4]
                  by_cases h5:f.at_=WF.at_
                  · have d5:(f.at_==WF.at_)=true:=by simp[h5]
                    by_cases h6:f.size=WF.size
                    · have d6:(f.size==WF.size)=true:=by simp[h6]
                      have hbF:nb=false:=by rw[←HNB.out];exact Ae (fun x=>x (by cases f;cases WF;simp_all))
                      go_wp2_with fail;go_meet
                      case rel=>exact ⟨Bc Value.bool hbF.symm,rfl⟩
                    · have d6:(f.size==WF.size)=false:=by simp[h6]
                      have hbT:nb=true:=by rw[←HNB.out];exact Ad (fun x:f=WF=>h6 (by rw[x]))
                      go_wp2_with fail;go_meet
                      case rel=>exact ⟨Bc Value.bool hbT.symm,rfl⟩
                  · have d5:(f.at_==WF.at_)=false:=by simp[h5]
                    have hbT:nb=true:=by rw[←HNB.out];exact Ad (fun x:f=WF=>h5 (by rw[x]))
                    go_wp2_with fail;go_meet
                    case rel=>exact ⟨Bc Value.bool hbT.symm,rfl⟩
                · have d4:(f.fin==WF.fin)=false:=by simp[h4]
                  have hbT:nb=true:=by rw[←HNB.out];exact Ad (fun x:f=WF=>h4 (by rw[x]))
                  go_wp2_with fail;go_meet
                  case rel=>exact ⟨Bc Value.bool hbT.symm,rfl⟩
              · have d3:(f.first==WF.first)=false:=by simp[h3]
                have hbT:nb=true:=by rw[←HNB.out];exact Ad (fun x:f=WF=>h3 (by rw[x]))
                go_wp2_with fail;go_meet
                case rel=>exact ⟨Bc Value.bool hbT.symm,rfl⟩
            · have d2:(f.en==WF.en)=false:=by simp[h2]
              have hbT:nb=true:=by rw[←HNB.out];exact Ad (fun x:f=WF=>h2 (by rw[x]))
              go_wp2_with fail;go_meet
              case rel=>exact ⟨Bc Value.bool hbT.symm,rfl⟩
          · have d1:(f.n==WF.n)=false:=by simp[h1]
            have hbT:nb=true:=by rw[←HNB.out];exact Ad (fun x:f=WF=>h1 (by rw[x]))
            go_wp2_with fail;go_meet
            case rel=>exact ⟨Bc Value.bool hbT.symm,rfl⟩
        · have d0:(f.ep==WF.ep)=false:=by simp[h0]
          have hbT:nb=true:=by rw[←HNB.out];exact Ad (fun x:f=WF=>h0 (by rw[x]))
          go_wp2_with fail;go_meet
          case rel=>exact ⟨Bc Value.bool hbT.symm,rfl⟩
      case rest=>
       obtain⟨rfl,rfl⟩:=hcut;go_upto_if 54 with (fail);go_cut [] from 55 to 63 (fun V=>Hid (Bi w gr gc B a v ep vL l (.slice aM M.length cM) M q (s.p:Int) T V)∧w7.heap.size≤V.heap.size)
       case first=>
         cases nb
         · have hv:=HV.out
           rw[Ai (by have h0:=HNB.out;simpa using h0)] at hv;subst hv;go_wp2_with fail;go_meet
           case rel=>exact ⟨HI7,Ap _⟩
         · have hv:=HV.out
           rw[Ah (by have h0:=HNB.out;simpa using h0)] at hv;have HFL:=hid (fun (V:World) (hV:AN V gc B a u)=>(by have h0:=Bd V hV 12 (s.p:Int) zO;rw[hv] at h0;exact h0:Calls Tryz.prog 124 #[.pointer (some ⟨gc,0,none⟩),.int .i64 12,.int .i64 (s.p:Int)] V fun r w'=>r=.returned (.tuple #[])∧Ay V gc B a v w'));clear hv;go_wp2_with fail;refine BK 8 zJ zJ ?_;simp only[BQ,Fa,De,DH];repeat still_step
           refine wpStill_nil ?_;go_wp2_with fail;refine (HFL.out _ (HI7.out.inv.rd.later zA)).mono ?_;rintro r w8 ⟨rfl,hst8⟩;have HI8:=hid ((HI7.out.later (show Below w7.heap.size w7 w7.drew by (repeat (first | with_reducible exact Below.refl _ _ | with_reducible assumption | (with_reducible refine Au ?_ _) | (with_reducible refine Below.setCell ?_ zE _) | (with_reducible refine Below.drew ?_) | (with_reducible refine below_drewN ?_ _) | (refine Af zG ?_))))).step hst8);have hz8:=hst8.2.size;go_wp2_with fail;go_meet
           case rel=>exact ⟨HI8,hz8⟩
       case rest=>
         obtain⟨HI8,hz8⟩:=hcut;clear HI7 HW7 HF7 p0 p1 p2 p3 p4 p5 p6 lp q0 q1 q2 q3 q4 q5 q6 lq y0 y1 y2 y3 y4 y5 ly7;generalize hWd:wc=w8 at*;obtain⟨y0,y1,y2,y3,y4,y5,ly8⟩:=CF HI8.out.rb;go_wp2_with fail;refine (HAV.out _ HI8.out.inv.rd).mono ?_;rintro r w9 ⟨rfl,rfl⟩;go_wp2_with fail;refine wp_region_held_drew (S:=fun w'=>w'.cell? ⟨gr,0,none⟩=some (.pointer (some ⟨gc,0,none⟩))) zJ y0 (fun hHeld=> ?_);refine Av (i:=0) (oi:=_) (v:=?_) rfl zF zF zF (fun _ _ _ h=>h) (Or.inl ⟨zU,?_⟩) zM ?_;rotate_left
         · (intro w hSw;(try dsimp only at hSw);go_simp<;>with_reducible rfl)
         (try simp only[Act.put,Aa,Ab,Ac])
         (try simp only[Am,Ak,Aj,Act.put,Aa,Ab,Ac])
         refine Av (i:=1) (oi:=_) (v:=?_) rfl zF zF zF (fun _ _ _ h=>h) (Or.inl ⟨zU,?_⟩) zM ?_;rotate_left
         · (intro w hSw;(try dsimp only at hSw);go_simp<;>with_reducible rfl)
         (try simp only[Act.put,Aa,Ab,Ac])
         (try simp only[Am,Ak,Aj,Act.put,Aa,Ab,Ac])
         refine Av (i:=2) (oi:=_) (v:=?_) rfl zF zF zF (fun _ _ _ h=>h) (Or.inl ⟨zU,?_⟩) zM ?_;rotate_left
         · (intro w hSw;(try dsimp only at hSw);go_simp<;>with_reducible rfl)
         (try simp only[Act.put,Aa,Ab,Ac])
         (try simp only[Am,Ak,Aj,Act.put,Aa,Ab,Ac])
         refine Av (i:=3) (oi:=_) (v:=?_) rfl zF zF zF (fun _ _ _ h=>h) (Or.inl ⟨zU,?_⟩) zM ?_;rotate_left
         · (intro w hSw;(try dsimp only at hSw);go_simp<;>with_reducible rfl)
         (try simp only[Act.put,Aa,Ab,Ac])
         (try simp only[Am,Ak,Aj,Act.put,Aa,Ab,Ac])
         refine Bq (rs:=[4]) zF zQ ?_;refine Bb (o:=_) rfl (fun K hK=> ?_) AllReadyH.nil
         (go_simp;go_at_call 156;refine (HTS.out _).mono ?_;rintro e1 w9 ⟨rfl,rfl⟩;(try dsimp only))
         refine hK.out _ _ ?_ (fun hHeld=> ?_)
         · ((try dsimp only);exact y0)
         clear hK K
         (try simp only[Act.put,Aa,Ab,Ac])
         refine Bq (rs:=[5]) zF zQ ?_;refine Bb (o:=_) rfl (fun K hK=> ?_) AllReadyH.nil
         (go_simp;go_at_call 200;refine (HTK.out _ (HI8.out.inv.rd.later zA)).mono ?_;rintro e1 w10 ⟨x10,rfl,hr10,hst10⟩;obtain⟨aZ,cZ,hfv,hr10',_⟩:=AJ hr10;simp only[As,AF] at hfv;subst hfv;have HI10:=hid ((HI8.out.later (show Below w8.heap.size w8 w8.drew by (repeat (first | with_reducible exact Below.refl _ _ | with_reducible assumption | (with_reducible refine Au ?_ _) | (with_reducible refine Below.setCell ?_ zE _) | (with_reducible refine Below.drew ?_) | (with_reducible refine below_drewN ?_ _) | (refine Af zG ?_))))).step hst10);have HZ10:=hid (show Ag.r (·<w10.heap.size) w10 [.slice aZ Z.length cZ] Z from Ag.mono hr10' fun q e=>e.2);have hz10':w8.heap.size≤w10.heap.size:=hst10.2.size;clear hr10 hr10' hst10;(try dsimp only))
         refine hK.out _ _ ?_ (fun hHeld=> ?_)
         · ((try dsimp only);exact (CF HI10.out.rb).1)
         clear hK K
         (try simp only[Act.put,Aa,Ab,Ac])
         refine Av (i:=6) (oi:=_) (v:=?_) rfl zF zF zF (fun _ _ _ h=>h) (Or.inl ⟨zU,?_⟩) zM ?_;rotate_left
         · (intro w hSw;(try dsimp only at hSw);go_simp<;>with_reducible rfl)
         (try simp only[Act.put,Aa,Ab,Ac])
         (try simp only[Am,Ak,Aj,Act.put,Aa,Ab,Ac])
         refine GC zJ ?_ _;clear HI8 HTK y0 y1 y2 y3 y4 y5 ly8;obtain⟨y0,y1,y2,y3,y4,y5,ly10⟩:=CF HI10.out.rb;go_wp2_with fail;rw[HNN2.out];refine (HTR.out _).mono ?_;rintro r w11 ⟨x11,rfl,hr11,hb11⟩;obtain⟨aT,cT,hfv,hr11',_⟩:=AJ hr11;simp only[As,AF] at hfv;subst hfv;have HI11:=hid (HI10.out.later hb11);have HZ11:=hid (lift HZ10.out hb11);have HT11:=hid (show Ag.r (·<w11.heap.size) w11 [.slice aT (DR nn).length cT] (DR nn) from Ag.mono hr11' fun q e=>e.2);have hz11:=hb11.size;clear hr11 hr11' hb11 HI10 HZ10 HTR y0 y1 y2 y3 y4 y5 ly10;have HEQ:=hid (Hw Z (DR nn) aZ aT _ cZ _ cT w11 HZ11.out HT11.out);obtain⟨y0,y1,y2,y3,y4,y5,ly11⟩:=CF HI11.out.rb;by_cases hZ:Z=DR nn
         · rw[Ad hZ] at HEQ
           have hz2':=HZ2.out;rw[Ai hZ] at hz2';subst hz2';clear hZ;go_wp2_with fail;refine HEQ.out.mono ?_;rintro r w12 ⟨rfl,rfl⟩;go_wp2_with fail;refine (HEN.out _ HI11.out.inv.rd).mono ?_;rintro r w13 ⟨rfl,hst13⟩;have HI13:=hid (HI11.out.step hst13);have hz13:=hst13.2.size;go_wp2_with fail;first | go_end0 | refine An (AO rfl _ _ _) rfl ?_
           exact⟨rfl,⟨_,_,HI13.out⟩,zD⟩
         · rw[Ae hZ] at HEQ
           have hz2':=HZ2.out;rw[Ah hZ] at hz2';have HFL:=hid (fun (V:World) (hV:AN V gc B a z1)=>(by have h0:=Bd V hV 12 (v.p:Int) zO;rw[hz2'] at h0;exact h0:Calls Tryz.prog 124 #[.pointer (some ⟨gc,0,none⟩),.int .i64 12,.int .i64 (v.p:Int)] V fun r w'=>r=.returned (.tuple #[])∧Ay V gc B a z2 w'));clear hZ hz2';go_wp2_with fail;refine HEQ.out.mono ?_;rintro r w12 ⟨rfl,rfl⟩;go_wp2_with fail;refine (HFL.out _ HI11.out.inv.rd).mono ?_;rintro r w12 ⟨rfl,hst12⟩;have HI12:=hid (HI11.out.step hst12);have hz12:=hst12.2.size;clear hst12 HI11 y0 y1 y2 y3 y4 y5 ly11;obtain⟨y0,y1,y2,y3,y4,y5,ly12⟩:=CF HI12.out.rb;go_wp2_with fail;refine (HEN.out _ HI12.out.inv.rd).mono ?_;rintro r w13 ⟨rfl,hst13⟩;have HI13:=hid (HI12.out.step hst13);have hz13:=hst13.2.size;go_wp2_with fail;first | go_end0 | refine An (AO rfl _ _ _) rfl ?_
           exact⟨rfl,⟨_,_,HI13.out⟩,zD⟩
    · rw[Ae ht] at HGT
      have hs:=HSE.out;rw[Ah ht] at hs;subst hs;clear ht hcan;go_wp2_with fail;refine (HGT.out _ HI3.out.inv.rd).mono ?_;rintro r w4 ⟨rfl,hb4⟩;have HI4:=hid (HI3.out.later hb4);have hz4:=hb4.size;go_wp2_with fail;first | go_end0 | refine An (AO rfl _ _ _) rfl ?_
      exact⟨rfl,⟨_,_,HI4.out⟩,zD⟩
end Go.Proofs.YtfddhafbhceoaaaGreat
