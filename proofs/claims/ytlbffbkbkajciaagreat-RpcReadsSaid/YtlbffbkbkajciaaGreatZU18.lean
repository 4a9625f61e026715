/- Mini: Needed by rpcReads_walk, part 18: texts put together by shake.py; no condition. -/
import Derived.Test.YtlbffbkbkajciaaGreatZU13
import Derived.Test.YtlbffbkbkajciaaGreatZU12
import Derived.Test.YtlbffbkbkajciaaGreatZU6
import Derived.Test.YtlbffbkbkajciaaGreatZU3
import Derived.Test.YtlbffbkbkajciaaGreatZU2
import Derived.Test.YtlbffbkbkajciaaGreatZU1
import Derived.Test.YtlbffbkbkajciaaGreatZU4
import Derived.Test.YtlbffbkbkajciaaGreatZU7
import Derived.Test.YtlbffbkbkajciaaGreatZU17
import Derived.Deep.Cut
import Derived.Test.YtlbffbkbkajciaaGreatZU16
import Derived.Test.YtlbffbkbkajciaaGreatZU8
set_option linter.unusedVariables false
set_option linter.unusedSimpArgs false
set_option maxRecDepth 100000
set_option maxHeartbeats 6400000
namespace Go.Bs
theorem zBt{p:Prop}(h:p:=by rw [HRR.out]; exact AZ (xs := []) rfl (Aj _) (Ao _) (.inl rfl)):p:=h
theorem zAz{p:Prop}(h:p:=by simp [results, Tryz.results137, go_sem, y0, y1, y2, y3, l1]):p:=h
theorem ZZ{p:Prop}(h:p:=by simp [results, Tryz.results51, go_sem, n0, n1, n2, n3, n4, n5, n6, n7, n8, n9, n10, n11, n12, n13, p0, p1]):p:=h
theorem ZY{p:Prop}(h:p:=by simp [results, Tryz.results53, go_sem, n0, n1, n2, n3, n4, n5, n6, n7, n8, n9, n10, n11, n12, n13, p0, p1]):p:=h
theorem ZX{p:Prop}(h:p:=by simp [results, Tryz.results54, go_sem, n0, n1, n2, n3, n4, n5, n6, n7, n8, n9, n10, n11, n12, n13, p0, p1]):p:=h
end Go.Bs
namespace Go.Proofs.YtlbffbkbkajciaaGreat
open Go.RowKit Go.Bs Go.Maps
variable{qx:Bool}{fx kx:Int}{B:List UInt8}
theorem Oc(w:World)(a:Option Addr)(c:Nat)(B:List UInt8)(hl:Ah.r (·<w.heap.size) w [.slice a B.length c] B)(s:Rs)(hs:s.ok B.length)(hB:B.length≤1000000000000)(n:Nat)(hn:n≤8):
  Calls Tryz.prog 208 #[CV a B.length c s,.int .i64 (n:Int)] w fun r w'=>r=.returned (.tuple #[CV a B.length c (s.take B n).1,.int .u64 ((EY (s.take B n).2:Nat):Int)])∧Below w.heap.size w w':=by
 have HT:=hid (fun (W:World) (hW:Below w.heap.size w W)=>Es W a c B (lift hl hW) s hs (n:Int) zD hB);have hlen:(s.take B n).2.length≤n:=by
  unfold Rs.take;split
  ·simp;omega
  ·simp
 generalize s.take B (n:Int)=T at*;obtain⟨s1,L⟩:=T;dsimp only at*;have n0:(0:Int)≤(n:Int):=zD;have n8:(n:Int)≤8:=zD;clear hl hs;unfold CV at*;go_enter Tryz.func208,Tryz.ntmps208;go_wp2_with fail;refine (HT.out _ zA).mono ?_;rintro r w1 ⟨v,rfl,hr,hb⟩;obtain⟨a1,c1,hv1,hr2,_⟩:=At hr;simp only[Ai,As] at hv1;subst hv1;have E2:Blk (w1.alloc (.cells #[.slice a B.length c,.int .i64 (s1.p:Int),.int .i64 s1.k,.int .i64 s1.f] 60)) w1.heap.size 60 #[.slice a B.length c,.int .i64 (s1.p:Int),.int .i64 s1.k,.int .i64 s1.f]:=zB;have hb2:Below w1.heap.size w1 (w1.alloc (.cells #[.slice a B.length c,.int .i64 (s1.p:Int),.int .i64 s1.k,.int .i64 s1.f] 60)):=zA;have B1:Blk w1 (w.heap.size+1) 60 #[.slice none 0 0,.int .i64 0,.int .i64 0,.int .i64 0]:=Blk.later zB hb;have HZ:=hid (B1.later hb2);have HV:=hid (lift (Ah.mono hr2 (S':=(·<w1.heap.size)) fun q hq=>hq.2) hb2);have hbw:Below w.heap.size w (w1.alloc (.cells #[.slice a B.length c,.int .i64 (s1.p:Int),.int .i64 s1.k,.int .i64 s1.f] 60)):=zA;have HE:=hid E2;clear hr hr2 hb hb2 B1 E2;go_wp2_with fail;generalize w1.alloc (.cells #[.slice a B.length c,.int .i64 (s1.p:Int),.int .i64 s1.k,.int .i64 s1.f] 60)=w2 at*;go_loopw [8,9] (fun x i wr=>∃j:Nat,j≤L.length∧i=.int .i64 ((j:Int)-1)∧x=.int .u64 ((EY (L.drop j):Nat):Int)∧w2=wr) (fun _ i _=>(intOf i+1).toNat)
 case atStart=>exact ⟨L.length,Aj _,rfl,by rw[KH];rfl,rfl⟩
 case round=>
  obtain⟨j,hj,rfl,rfl,rfl⟩:=hrel;by_cases h0:1≤j
  ·obtain⟨m,rfl⟩:∃m,j=m+1:=⟨j-1,zD⟩
   have hm1:((m+1:Nat):Int)-1=(m:Int):=zD;rw[hm1];clear hm1 h0;have d1:decide ((0:Int)≤(m:Int))=true:=Ae zD;have i1:(m:Int)<(L.length:Int):=zD;obtain⟨b,o,rfl,_,hc⟩:=Bt HV.out (i:=m) zD;have hy:=L[m].toNat_lt;have hff:((EY (L.drop m):Nat):Int)=256*((EY (L.drop (m+1)):Nat):Int)+(L[m].toNat:Int):=by
    rw[AO (by omega:m<L.length)];simp only[EY];omega
   have hX:EY (L.drop (m+1))<72057594037927936:=by
    refine Am (Ns _) (A4 (EN zS (show _≤7 by simp;omega)) zS)
   have HFF:=hid hff;clear hff;generalize L[m].toNat=y at*;generalize EY (L.drop (m+1))=X at*;go_wp2_with fail;go_roundw
   case rel=>exact ⟨m,zD,zZ,by rw[HFF.out],by trivial⟩
   case measure=>(simp[intOf];try omega)
  ·obtain rfl:j=0:=by omega
   have hm1:((0:Nat):Int)-1=(-1:Int):=rfl;rw[hm1,List.drop_zero];clear hm1 h0;have d1:decide ((0:Int)≤-1)=false:=rfl;obtain⟨x0,x1,x2,x3,e0,e1,e2,e3,l0⟩:=Aq HE.out;obtain⟨y0,y1,y2,y3,g0,g1,g2,g3,l1⟩:=Aq HZ.out;go_wp2_with fail;refine Af (v:=.tuple #[.agg #[.slice a B.length c,.int .i64 (s1.p:Int),.int .i64 s1.k,.int .i64 s1.f],.int .u64 ((EY L:Nat):Int)]) (by simp[results,Tryz.results208,go_sem,y0,y1,y2,y3,l1]) rfl ⟨rfl,zA⟩
theorem Ld(w:World)(a:Option Addr)(c:Nat)(B:List UInt8)(hl:Ah.r (·<w.heap.size) w [.slice a B.length c] B)(s:Rs)(hs:s.ok B.length)(hB:B.length≤1000000000000)(m:Int)(hm: -9223372036854775808≤m∧m≤2097152):
  Calls Tryz.prog 137 #[CV a B.length c s,.int .i64 m] w fun r w'=>∃v,r=.returned (.tuple #[CV a B.length c (s.frame B m).1,v])∧Ah.r (fun q=>w.heap.size≤q∧q<w'.heap.size) w' [v] (s.frame B m).2∧Below w.heap.size w w':=by
 have d0:decide ((2097152:Int)<m)=false:=Ad zD;have hmin:min m 2097152=m:=zD;unfold Rs.frame;rw[hmin];have HB:=hid (fun (W:World) (hW:Below w.heap.size w W)=>Le W a c B (lift hl hW) s hs hB m zD);have hok:=Rs.FB hs m;dsimp only;generalize s.Cd B m=T at*;obtain⟨s1,D⟩:=T;dsimp only at*;have HX:=hid (fun (W:World) (hW:Below w.heap.size w W)=>(by have:=Oc W a c B (lift hl hW) s1 hok hB 4 zD;exact this:Calls Tryz.prog 208 #[CV a B.length c s1,.int .i64 4] W fun r w'=>r=.returned (.tuple #[CV a B.length c (s1.take B 4).1,.int .u64 ((EY (s1.take B 4).2:Nat):Int)])∧Below W.heap.size W w'));have HFL:=hid (fun (W:World) (t:Rs)=>Bk W a B.length c t 6 s1.p zD);have hq:=JX D;generalize s1.take B 4=U at*;obtain⟨s2,F⟩:=U;dsimp only at*;generalize EY F=x at*;generalize hS3:(if Dj D=x then s2 else s2.fail 6 (s1.p:Int))=s3 at*;generalize hRES:(if s3.k=0 then D else [])=RES at*;have HS3:=hid hS3;have HRES:=hid hRES;clear hl hs hok hmin hS3 hRES;unfold CV at*;go_enter Tryz.func137,Tryz.ntmps137;go_wp2_with fail;refine (HB.out _ zA).mono ?_;rintro r w1 ⟨v,rfl,hr,hb⟩;obtain⟨a1,c1,hv1,hr2,_⟩:=At hr;simp only[Ai,As] at hv1;subst hv1;have hz1:=hb.size;simp at hz1;have E2:Blk (w1.alloc (.cells #[.slice a B.length c,.int .i64 (s1.p:Int),.int .i64 s1.k,.int .i64 s1.f] 60)) w1.heap.size 60 #[.slice a B.length c,.int .i64 (s1.p:Int),.int .i64 s1.k,.int .i64 s1.f]:=zB;have hb2:Below w1.heap.size w1 (w1.alloc (.cells #[.slice a B.length c,.int .i64 (s1.p:Int),.int .i64 s1.k,.int .i64 s1.f] 60)):=zA;have B1:Blk w1 (w.heap.size+1) 60 #[.slice none 0 0,.int .i64 0,.int .i64 0,.int .i64 0]:=Blk.later zB hb;have HZ2:=hid (B1.later hb2);have HV2:=hid (Ah.mono (Ah.keep hr2 fun q hq=>hb2.block q hq.2) (S':=fun q=>w.heap.size+1<q∧q<w1.heap.size) fun q hq=>⟨ZF,hq.2⟩);have hbw2:Below w.heap.size w (w1.alloc (.cells #[.slice a B.length c,.int .i64 (s1.p:Int),.int .i64 s1.k,.int .i64 s1.f] 60)):=zA;have hz2:w1.heap.size<(w1.alloc (.cells #[.slice a B.length c,.int .i64 (s1.p:Int),.int .i64 s1.k,.int .i64 s1.f] 60)).heap.size:=zP;have HE2:=hid E2;obtain⟨x0,x1,x2,x3,e0,e1,e2,e3,l0⟩:=Aq E2;clear hr hr2 hb hb2 B1 E2;go_wp2_with fail;generalize w1.alloc (.cells #[.slice a B.length c,.int .i64 (s1.p:Int),.int .i64 s1.k,.int .i64 s1.f] 60)=w2 at*;refine (HX.out _ hbw2).mono ?_;rintro r w3 ⟨rfl,hb3⟩;have HZ3:=hid (HZ2.out.later hb3);have HE3:=hid (HE2.out.later hb3);have HV3:=hid (Ah.keep HV2.out fun q hq=>hb3.block q zD);have hbw3:=Ag hb3 hbw2;have hz3:=Am hz2 hb3.size;have E4:Blk (w3.alloc (.cells #[.slice a B.length c,.int .i64 (s2.p:Int),.int .i64 s2.k,.int .i64 s2.f] 60)) w3.heap.size 60 #[.slice a B.length c,.int .i64 (s2.p:Int),.int .i64 s2.k,.int .i64 s2.f]:=zB;have hb4:Below w3.heap.size w3 (w3.alloc (.cells #[.slice a B.length c,.int .i64 (s2.p:Int),.int .i64 s2.k,.int .i64 s2.f] 60)):=zA;have HZ4:=hid (HZ3.out.later hb4);have HE4:=hid (HE3.out.later hb4);have HV4:=hid (Ah.mono (Ah.keep HV3.out fun q hq=>hb4.block q zD) (S':=fun q=>w.heap.size+1<q∧q<w3.heap.size) fun q hq=>⟨hq.1,zD⟩);have hbw4:=Ag hb4 hbw3;have hz4:w3.heap.size<(w3.alloc (.cells #[.slice a B.length c,.int .i64 (s2.p:Int),.int .i64 s2.k,.int .i64 s2.f] 60)).heap.size:=zP;clear HZ2 HE2 HV2 hbw2 hb3 HZ3 HE3 HV3 hbw3 hb4 x0 x1 x2 x3 e0 e1 e2 e3 l0;have HE5:=hid E4;obtain⟨x0,x1,x2,x3,e0,e1,e2,e3,l0⟩:=Aq E4;clear E4;go_upto_region 5 with (fail);generalize w3.alloc (.cells #[.slice a B.length c,.int .i64 (s2.p:Int),.int .i64 s2.k,.int .i64 s2.f] 60)=w4 at*;by_cases hk:s2.k=0
 ·have dk1:(s2.k==(0:Int))=true:=by simp[hk]
  have dk2:(s2.k !=(0:Int))=false:=zAs;have HS:=hid (RK D a1 _ c1 w4 (Ah.mono HV4.out fun q hq=>zD));by_cases hx:Dj D=x
  ·have e3:s3=s2:=by rw[←HS3.out,An hx]
   have HE3:=hid e3;have HRR:Hid (RES=D):=hid (by rw[←HRES.out,e3,An hk]);have dx:((x:Int) !=(Dj D:Int))=false:=by rw[hx];simp
   obtain⟨y0,y1,y2,y3,g0,g1,g2,g3,l1⟩:=Aq HZ4.out;clear e3 HS3 HRES;generalize Dj D=q at*;clear hk hx;go_wp2_with fail;refine HS.out.mono ?_;rintro r w5 ⟨rfl,rfl⟩;go_wp2_with fail;refine Af (v:=.tuple #[.agg #[.slice a B.length c,.int .i64 (s2.p:Int),.int .i64 s2.k,.int .i64 s2.f],.slice a1 D.length c1]) zAz rfl ⟨_,by rw[HE3.out],?_,zA⟩;rw[HRR.out];refine Ah.mono (Ah.keep HV4.out fun q hq=> ?_) fun q hq=>⟨zD,zU⟩;repeat (rw[Ap _ _ _ _ zH])
  ·have hf3:s2.fail 6 (s1.p:Int)=⟨s2.p,6,s1.p⟩:=by unfold Rs.fail;rw[An hk]
   have e3:s3=⟨s2.p,6,s1.p⟩:=by rw[←HS3.out,Ak hx,hf3]
   have HE3:=hid e3;have HRR:Hid (RES=[]):=hid (by rw[←HRES.out,e3,Ak (by dsimp only;decide)]);have HFF:=hid (fun (W:World)=>HFL.out W s2);rw[hf3] at HFF;have dx:((x:Int) !=(Dj D:Int))=true:=zM;obtain⟨y0,y1,y2,y3,g0,g1,g2,g3,l1⟩:=Aq HZ4.out;obtain⟨z0,z1,z2,z3,h0,h1,h2,h3,lz⟩:=Aq HE4.out;clear e3 HS3 HRES;generalize Dj D=q at*;clear hk hx hf3 HFL;go_wp2_with fail;refine HS.out.mono ?_;rintro r w5 ⟨rfl,rfl⟩;go_wp2_with fail;refine (HFF.out _).mono ?_;rintro r w6 ⟨rfl,hb6⟩;have Z6:=HZ4.out.later hb6;have E6:=HE5.out.later hb6;have hbw6:=Ag hb6 hbw4;have hz6:=hb6.size;clear x0 x1 x2 x3 e0 e1 e2 e3 l0 y0 y1 y2 y3 g0 g1 g2 g3 l1 z0 z1 z2 z3 h0 h1 h2 h3 lz hb6;obtain⟨x0,x1,x2,x3,e0,e1,e2,e3,l0⟩:=Aq E6;obtain⟨y0,y1,y2,y3,g0,g1,g2,g3,l1⟩:=Aq Z6;go_wp2_with fail;refine Af (v:=.tuple #[.agg #[.slice a B.length c,.int .i64 (s2.p:Int),.int .i64 6,.int .i64 (s1.p:Int)],.slice none 0 0]) zAz rfl ⟨_,by rw[HE3.out],zBt,zA⟩
 ·have hf3:(if Dj D=x then s2 else s2.fail 6 (s1.p:Int))=s2:=by
   split
   ·rfl
   ·exact Rs.Bl hk
  have e3:s3=s2:=by rw[←HS3.out,hf3]
  have HE3:=hid e3;have HRR:Hid (RES=[]):=hid (by rw[←HRES.out,e3,Ak hk]);have dk1:(s2.k==(0:Int))=false:=zAs;have dk2:(s2.k !=(0:Int))=true:=zAs;obtain⟨y0,y1,y2,y3,g0,g1,g2,g3,l1⟩:=Aq HZ4.out;clear hk hf3 HFL e3 HS3 HRES;go_wp2_with fail;refine Af (v:=.tuple #[.agg #[.slice a B.length c,.int .i64 (s2.p:Int),.int .i64 s2.k,.int .i64 s2.f],.slice none 0 0]) zAz rfl ⟨_,by rw[HE3.out],zBt,zA⟩
structure KE(w:World)(B:List UInt8)(a:Option Addr)(c g:Nat)(s:Rs)(W:World):Prop where
 cb:Blk W g 60 #[.slice a B.length c,.int .i64 (s.p:Int),.int .i64 s.k,.int .i64 s.f]
 mb:Blk W w.heap.size 32 zeroCells
 fb:Blk W (w.heap.size+1) 58 #[.int .i64 0,.int .i64 0]
 bl:Below w.heap.size w W
 ok:s.ok B.length
 lg:w.heap.size+1<g
section
variable {w W W':World} {B:List UInt8} {a:Option Addr} {c g:Nat} {s s':Rs}
theorem Gv:Tch (·=g) W ((((W.setCell ⟨g,0,none⟩ (.slice a B.length c)).setCell ⟨g,1,none⟩ (.int .i64 (s'.p:Int))).setCell ⟨g,2,none⟩ (.int .i64 s'.k)).setCell ⟨g,3,none⟩ (.int .i64 s'.f)):=
 Tch.setCell (F:=(·=g)) (p:=⟨g,3,none⟩) (Tch.setCell (F:=(·=g)) (p:=⟨g,2,none⟩) (Tch.setCell (F:=(·=g)) (p:=⟨g,1,none⟩) (Tch.setCell (F:=(·=g)) (p:=⟨g,0,none⟩) (Tch.refl _ _) (fun _=>rfl) _) (fun _=>rfl) _) (fun _=>rfl) _) (fun _=>rfl) _
theorem Mi:(((((W.setCell ⟨g,0,none⟩ (.slice a B.length c)).setCell ⟨g,1,none⟩ (.int .i64 (s'.p:Int))).setCell ⟨g,2,none⟩ (.int .i64 s'.k)).setCell ⟨g,3,none⟩ (.int .i64 s'.f))).heap.size=W.heap.size:=ZQ
theorem KE.row(h:KE w B a c g s W)(hb:Below W.heap.size W W'):KE w B a c g s W':=
 ⟨h.cb.later hb,h.mb.later hb,h.fb.later hb,Ag hb h.bl,h.ok,h.lg⟩
theorem KE.set(h:KE w B a c g s W)(ok:s'.ok B.length):KE w B a c g s' ((((W.setCell ⟨g,0,none⟩ (.slice a B.length c)).setCell ⟨g,1,none⟩ (.int .i64 (s'.p:Int))).setCell ⟨g,2,none⟩ (.int .i64 s'.k)).setCell ⟨g,3,none⟩ (.int .i64 s'.f)):=by
 have hl:=h.lg;exact⟨(((h.cb.set 0 _).set 1 _).set 2 _).set 3 _,h.mb.tch Gv zD,h.fb.tch Gv zD,h.bl.trans (Gv.Ba h.bl.size fun b hb e=>zD),ok,h.lg⟩
theorem Uz{strict:Bool}{t:Rs}(h:t.ok B.length):((if strict then CG B else DB B) t).1.ok B.length:=by
 cases strict
 ·exact Rs.Fk h 1048576
 ·exact TX h
end
set_option maxHeartbeats 12800000 in
theorem Lb(w:World)(B:List UInt8)(a:Option Addr)(c0 c:Nat)(hl:Ah.r (·<w.heap.size) w [.slice a c0 c] B)(hB:B.length≤1000000000)(strict:Bool){x:Msg}(hZ:Eb B (if strict then CG B else DB B) flL=(x,qx,kx,fx)):
  Calls Tryz.prog 51 #[.slice a c0 c,.bool strict] w fun r w'=>∃a1 a1' a2 a2' a3 a3' a4 a4',r=.returned (.tuple #[.agg #[.int .i64 x.kind,.int .u64 x.epoch,.int .u64 x.seq,.int .u64 x.pos,.int .i64 x.count,.int .i64 x.state,.slice a1 x.streams.length a1',.slice a2 x.links.length a2',.slice a3 x.data.length a3',.int .u64 x.sea.epoch,.int .u64 x.sea.node,.int .u64 x.sea.tail,.int .u64 x.proj.epoch,.slice a4 x.proj.stripes.length a4'],.bool qx,.agg #[.int .i64 kx,.int .i64 fx]])∧AH (fun q=>w.heap.size≤q∧q<w'.heap.size) w' x a1 a1' a2 a2' a3 a3' a4 a4'∧Below w.heap.size w w':=by
 obtain⟨rfl,hmx,hcc,hcm⟩:=AU hl;have HL:=hid hl;unfold Eb at hZ;have ok0:(⟨0,0,0⟩:Rs).ok B.length:=⟨Ao _,fun _=>rfl⟩;obtain⟨ht1,ht2⟩:=Rs.QU (B:=B) ok0;have oku:=Rs.Gl ok0;have HT:=hid (Es ((w.alloc (.cells Vz 32)).alloc (.cells #[.int .i64 0,.int .i64 0] 58)) a c B (lift hl zA) ⟨0,0,0⟩ ok0 1 zS zD);generalize (⟨0,0,0⟩:Rs).take B 1=T at*;obtain⟨u',D⟩:=T;generalize (⟨0,0,0⟩:Rs).byte B=U at*;obtain⟨u,yb⟩:=U;dsimp only at ht1 ht2 oku HT hZ;subst ht1;have hy:=yb.toNat_lt;have hk1:(decide (1≤(yb.toNat:Int)∧(yb.toNat:Int)≤14)=true→u'.kd (yb.toNat:Int)=u')∧(decide (1≤(yb.toNat:Int)∧(yb.toNat:Int)≤14)=false→u'.kd (yb.toNat:Int)=u'.fail 7 0):=
  ⟨fun e=>An (Cu e),fun e=>Ak (Em e)⟩
 have ok1:(u'.kd (yb.toNat:Int)).ok B.length:=by
  unfold Rs.kd;split
  ·exact oku
  ·exact Rs.BH oku zD
 have HK1:=hid hk1;generalize u'.kd (yb.toNat:Int)=s1 at*;have ok2:=Rs.JV (B:=B) ok1;have HE:=hid (fun (W:World) (hW:Below w.heap.size w W)=>Lc W a c B (lift hl hW) s1 ok1 zD);have hue:inU ((s1.ep B).2:Int):=Rs.TN;generalize s1.ep B=E at*;obtain⟨s2,e⟩:=E;dsimp only at HE hZ hue ok2;have ok3:=Rs.CC (B:=B) ok2;have HV:=hid (fun (W:World) (hW:Below w.heap.size w W)=>CM W a c B (lift hl hW) s2 ok2 zD);have hun:inU ((s2.num B).2:Int):=by
  have:=Rs.Cp (B:=B) (s:=s2);unfold inU;exact⟨zD,zD⟩
 generalize s2.num B=V0 at*;obtain⟨s3,n⟩:=V0;dsimp only at HV hZ hun ok3;unfold CV at HT HE HV;have HOKU:=hid oku;have HOK1:=hid ok1;have HOK2:=hid ok2;have HOK3:=hid ok3;have HUE:=hid hue;have HUN:=hid hun;have HZ:=hid hZ;have HT2:=hid ht2;clear oku ok1 ok2 ok3 hue hun hZ ht2 hk1 ok0 hl;go_enter Tryz.func51,Tryz.ntmps51;go_wp2_with fail;refine HT.out.mono ?_;rintro r w1 ⟨v,rfl,hr,hb⟩;obtain⟨aD,cD,hfv,hr2,_⟩:=At hr;simp only[Ai,As] at hfv;subst hfv;have hz1:=hb.size;simp at hz1;have IB:KE w B a c w1.heap.size u' (w1.alloc (.cells #[.slice a B.length c,.int .i64 (u'.p:Int),.int .i64 u'.k,.int .i64 u'.f] 60)):=⟨Blk.newAt _ _ _ rfl,(Blk.later zB hb).alloc _,(Blk.later zB hb).alloc _,zA,HOKU.out,zD⟩;have HI:=hid IB;have HD:=hid (lift (Ah.mono hr2 (S':=(·<w1.heap.size)) fun q hq=>hq.2) (by (repeat (first | with_reducible exact Below.refl _ _ | with_reducible assumption | (with_reducible refine Aw ?_ _) | (with_reducible refine Below.setCell ?_ zE _) | (with_reducible refine Below.drew ?_) | (with_reducible refine below_drewN ?_ _) | (refine Ag zI ?_))):Below w1.heap.size w1 (w1.alloc (.cells #[.slice a B.length c,.int .i64 (u'.p:Int),.int .i64 u'.k,.int .i64 u'.f] 60))));clear hr hr2 hb IB HT;go_upto_region 2 with (fail);generalize (w1.alloc (.cells #[.slice a B.length c,.int .i64 (u'.p:Int),.int .i64 u'.k,.int .i64 u'.f] 60))=w2 at*;generalize w1.heap.size=g at*;go_upto_region 3 with (fail);go_upto_if 22 with (fail);go_cut [9] from 23 to 26 (fun v V=>v=.int .i64 (yb.toNat:Int)∧Hid (V=w2))
 case first=>
  rcases HT2.out with h | ⟨h,h0⟩
  ·have hl1:0<D.length:=by rw[h];exact Nat.one_pos
   have d1:((D.length:Int)==1)=true:=by rw[h];rfl
   obtain⟨b,o,hA,_,hx⟩:=Bt HD.out hl1;subst hA;have hx2:D[0]=yb:=by simp[h]
   rw[hx2] at hx;rw[CE] at hx;have i1:(0:Int)<(D.length:Int):=zD;clear h hx2;go_wp2_with fail;go_meet
   case rel=>exact ⟨rfl,hid rfl⟩
  ·have d1:((D.length:Int)==1)=false:=by rw[h];rfl
   clear h;go_wp2_with fail;go_meet
   case rel=>exact ⟨by rw[h0];rfl,hid rfl⟩
 case rest=>
  obtain⟨rfl,hV⟩:=hcut;have hV':=hV.out.symm;subst hV';clear hV HT2 HD;generalize yb.toNat=y at*;have HFL:=hid (fun (W:World)=>Bk W a B.length c u' 7 0 zD);unfold CV at HFL;generalize hKK:decide (1≤(y:Int)∧(y:Int)≤14)=K at*;have HKK:=hid hKK;clear hKK;go_upto_region 5 with (fail);go_cut [32] from 27 to 31 (fun v V=>v=.bool (!K)∧Hid (V=w2))
  case first=>
   have hkk:=HKK.out;by_cases h1:(y:Int)<1
   ·have d1:decide ((y:Int)<1)=true:=Ae h1
    go_wp2_with fail;go_meet
    case rel=>exact ⟨by rw[←hkk,Ad (by omega)];rfl,hid rfl⟩
   ·have d1:decide ((y:Int)<1)=false:=Ad h1
    by_cases h2:14<(y:Int)
    ·have d2:decide (14<(y:Int))=true:=Ae h2
     go_wp2_with fail;go_meet
     case rel=>exact ⟨by rw[←hkk,Ad (by omega)];rfl,hid rfl⟩
    ·have d2:decide (14<(y:Int))=false:=Ad h2
     go_wp2_with fail;go_meet
     case rel=>exact ⟨by rw[←hkk,Ae (by omega)];rfl,hid rfl⟩
  case rest=>
   obtain⟨rfl,hV⟩:=hcut;have hV':=hV.out.symm;subst hV';clear hV HKK;go_upto_if 32 with (fail);go_cut [] from 33 to 34 (fun V=>Hid (KE w B a c g s1 V))
   case first=>
    have hk1:=HK1.out;cases K
    ·rw[←hk1.2 rfl] at HFL
     clear hk1;obtain⟨x0,x1,x2,x3,e0,e1,e2,e3,l0⟩:=Aq HI.out.cb;go_wp2_with fail;refine (HFL.out _).mono ?_;rintro r w3 ⟨rfl,hb⟩;have HIA:=hid (HI.out.row hb);clear hb x0 x1 x2 x3 e0 e1 e2 e3 l0;obtain⟨x0,x1,x2,x3,e0,e1,e2,e3,l0⟩:=Aq HIA.out.cb;go_wp2_with fail;go_meet
     case rel=>exact hid (HIA.out.set HOK1.out)
    ·have HI1:=HI.out
     rw[←hk1.1 rfl] at HI1;clear hk1;go_wp2_with fail;go_meet
     case rel=>exact hid HI1
   case rest=>
    have HI1:=hcut;obtain⟨wq,hwq⟩:∃W:World,W=wc:=⟨_,rfl⟩;subst hwq;clear hcut HI HK1 HFL;obtain⟨x0,x1,x2,x3,e0,e1,e2,e3,l0⟩:=Aq HI1.out.cb;go_wp2_with fail;refine (HE.out _ HI1.out.bl).mono ?_;rintro r w4' ⟨rfl,hb⟩;have IA:=HI1.out.row hb;have HIA:=hid IA;clear hb IA;clear x0 x1 x2 x3 e0 e1 e2 e3 l0;obtain⟨x0,x1,x2,x3,e0,e1,e2,e3,l0⟩:=Aq HIA.out.cb;go_upto_region 8 with (fail);refine Cm (fun W=>KE w B a c g s2 W) (HIA.out.set HOK2.out) ?_;intro w4 I;have HI2:=hid I;clear I HI1 HIA;clear x0 x1 x2 x3 e0 e1 e2 e3 l0;obtain⟨x0,x1,x2,x3,e0,e1,e2,e3,l0⟩:=Aq HI2.out.cb;go_wp2_with fail;refine (HV.out _ HI2.out.bl).mono ?_;rintro r w5' ⟨rfl,hb⟩;have IA:=HI2.out.row hb;have HIA:=hid IA;clear hb IA;clear x0 x1 x2 x3 e0 e1 e2 e3 l0;obtain⟨x0,x1,x2,x3,e0,e1,e2,e3,l0⟩:=Aq HIA.out.cb;go_upto_region 9 with (fail);refine Cm (fun W=>KE w B a c g s3 W) (HIA.out.set HOK3.out) ?_;intro w5 I;have HI3:=hid I;clear I HI2 HIA;clear x0 x1 x2 x3 e0 e1 e2 e3 l0;obtain⟨x0,x1,x2,x3,e0,e1,e2,e3,l0⟩:=Aq HI3.out.cb;by_cases hk:s3.k=0
    ·have dk1:(s3.k !=(0:Int))=false:=by simp[hk]
     have hz:=HZ.out;rw[An hk] at hz;generalize hbS:s3.body B (if strict then CG B else DB B) (y:Int)=bS at*;obtain⟨s4,m,q⟩:=bS;dsimp only at hz;have HRD:=hid (fun (W:World) (hW:Below w.heap.size w W)=>Vt W a c B (lift HL.out hW) s3 HOK3.out hB (y:Int) ⟨zD,zD⟩ strict hbS);have okb:s4.ok B.length:=by
      have:=Rs.Uy (B:=B) (k:=(y:Int)) (blk:=if strict then CG B else DB B) HOK3.out (fun t ht=>Uz ht);rwa [hbS] at this
     unfold CV at HRD;have HEN:=hid (fun (W:World)=>RM W a B.length c s4 zD);unfold CV at HEN;have ok5:=Rs.U6 okb;generalize s4.fin B.length=s5 at*;have HOK4:=hid okb;have HOK5:=hid ok5;have HZ2:=hid hz;clear hz hbS HZ okb ok5 hk;go_wp2_with fail;refine (HRD.out _ HI3.out.bl).mono ?_;rintro r w6 ⟨a1,a1',a2,a2',a3,a3',a4,a4',rfl,hm,hb⟩;have HIA:=hid (HI3.out.row hb);have lg:=HIA.out.lg;have hlt3:=HI3.out.cb.lt;have hlt6:=HIA.out.cb.lt;have X6:=hid (AH.BI (S':=fun q=>g<q∧q<w6.heap.size) hm (fun q hq=>rfl) (fun q hq=>⟨zD,hq.2⟩));clear hb hm x0 x1 x2 x3 e0 e1 e2 e3 l0;obtain⟨x0,x1,x2,x3,e0,e1,e2,e3,l0⟩:=Aq HIA.out.cb;go_upto_region 12 with (fail);refine Cm (fun W=>KE w B a c g s4 W∧Blk W w6.heap.size 32 #[.int .i64 m.kind,.int .u64 m.epoch,.int .u64 m.seq,.int .u64 m.pos,.int .i64 m.count,.int .i64 m.state,.slice a1 m.streams.length a1',.slice a2 m.links.length a2',.slice a3 m.data.length a3',.int .u64 m.sea.epoch,.int .u64 m.sea.node,.int .u64 m.sea.tail,.int .u64 m.proj.epoch,.slice a4 m.proj.stripes.length a4']∧AH (fun q=>g<q∧q<w6.heap.size) W m a1 a1' a2 a2' a3 a3' a4 a4'∧w6.heap.size<W.heap.size) ⟨(HIA.out.set HOK4.out).row zA,Blk.newAt _ _ _ zP,AH.BI X6.out (fun q hq=>(A2 _ _ q (by rw[Mi];exact hq.2)).trans (Gv.block q hq.2 zD)) (fun q hq=>hq),zP⟩ ?_;intro w7 ⟨I7,hE7,hX7,hz7⟩;have HI7:=hid I7;have E7:=hid hE7;have X7:=hid hX7;clear I7 hE7 hX7 HIA HI3 X6 x0 x1 x2 x3 e0 e1 e2 e3 l0;obtain⟨x0,x1,x2,x3,e0,e1,e2,e3,l0⟩:=Aq HI7.out.cb;go_wp2_with fail;refine (HEN.out _).mono ?_;rintro r w8 ⟨rfl,hb⟩;have HIA:=hid (HI7.out.row hb);have EA:=hid (E7.out.later hb);have XA:=hid (AH.BI X7.out (fun q hq=>hb.block q zD) (fun q hq=>hq));have hz8:=Am hz7 hb.size;clear hb x0 x1 x2 x3 e0 e1 e2 e3 l0 HI7 E7 X7;obtain⟨x0,x1,x2,x3,e0,e1,e2,e3,l0⟩:=Aq HIA.out.cb;go_upto_region 13 with (fail);refine Cm (fun W=>KE w B a c g s5 W∧Blk W w6.heap.size 32 #[.int .i64 m.kind,.int .u64 m.epoch,.int .u64 m.seq,.int .u64 m.pos,.int .i64 m.count,.int .i64 m.state,.slice a1 m.streams.length a1',.slice a2 m.links.length a2',.slice a3 m.data.length a3',.int .u64 m.sea.epoch,.int .u64 m.sea.node,.int .u64 m.sea.tail,.int .u64 m.proj.epoch,.slice a4 m.proj.stripes.length a4']∧AH (fun q=>g<q∧q<w6.heap.size) W m a1 a1' a2 a2' a3 a3' a4 a4'∧w6.heap.size<W.heap.size) ⟨HIA.out.set HOK5.out,EA.out.tch Gv zD,AH.BI XA.out (fun q hq=>Gv.block q zD zD) (fun q hq=>hq),by rw[Mi];exact hz8⟩ ?_;intro w9 ⟨I9,hE9,hX9,hz9⟩;have HI:=hid I9;have E9:=hid hE9;have X9:=hid hX9;clear I9 hE9 hX9 HIA EA XA x0 x1 x2 x3 e0 e1 e2 e3 l0;obtain⟨x0,x1,x2,x3,e0,e1,e2,e3,l0⟩:=Aq HI.out.cb;by_cases hk5:s5.k=0
     ·have dk2:(s5.k !=(0:Int))=false:=by simp[hk5]
      have hz:=HZ2.out;rw[An hk5] at hz;simp only[A7] at hz;obtain⟨rfl,rfl,rfl,rfl⟩:=hz;clear HZ2 hk5;obtain⟨y0,y1,y2,y3,y4,y5,y6,y7,y8,y9,y10,y11,y12,y13,ly⟩:=AJ E9.out;obtain⟨g0,g1,g2,g3,g4,g5,g6,g7,g8,g9,g10,g11,g12,g13⟩:=Be E9.out;go_upto_region 16 with (fail);refine Cm (fun W=>Blk W w6.heap.size 32 #[.int .i64 m.kind,.int .u64 (e:Int),.int .u64 (n:Int),.int .u64 m.pos,.int .i64 m.count,.int .i64 m.state,.slice a1 m.streams.length a1',.slice a2 m.links.length a2',.slice a3 m.data.length a3',.int .u64 m.sea.epoch,.int .u64 m.sea.node,.int .u64 m.sea.tail,.int .u64 m.proj.epoch,.slice a4 m.proj.stripes.length a4']∧Tch (·=w6.heap.size) w9 W) ⟨by have:=(E9.out.set 1 (.int .u64 (e:Int))).set 2 (.int .u64 (n:Int));simp only[Aa,Ab,Ac] at this;exact this,Tch.setCell (F:=(·=w6.heap.size)) (p:=⟨w6.heap.size,2,none⟩) (Tch.setCell (F:=(·=w6.heap.size)) (p:=⟨w6.heap.size,1,none⟩) (Tch.refl _ _) (fun _=>rfl) _) (fun _=>rfl) _⟩ ?_;intro wd ⟨hE,ht⟩;have hM:=HI.out.mb.tch ht zD;have hF:=HI.out.fb.tch ht zD;have hbl:=HI.out.bl.trans (ht.Ba HI.out.bl.size fun b hb e=>zD);have XD:=hid (AH.BI X9.out (fun q hq=>ht.block q zD zD) (fun q hq=>hq));have hzd:=Am hz9 ht.size;have E10:=hid hE;clear y0 y1 y2 y3 y4 y5 y6 y7 y8 y9 y10 y11 y12 y13 ly g0 g1 g2 g3 g4 g5 g6 g7 g8 g9 g10 g11 g12 g13 E9 HI X9 ht hE x0 x1 x2 x3 e0 e1 e2 e3 l0;obtain⟨y0,y1,y2,y3,y4,y5,y6,y7,y8,y9,y10,y11,y12,y13,ly⟩:=AJ E10.out;obtain⟨r0,r1,r2,r3,r4,r5,r6,r7,r8,r9,r10,r11,r12,r13,lr⟩:=AJ hM;obtain⟨g0,g1,g2,g3,g4,g5,g6,g7,g8,g9,g10,g11,g12,g13⟩:=Be hM;obtain⟨f0,f1,f2,f3,f4⟩:=A1 hF;go_wp2_with fail;have hput:=CI (k:=.int .i64 0) (f:=.int .i64 0) (v0:=.int .i64 m.kind) (v1:=.int .u64 (e:Int)) (v2:=.int .u64 (n:Int)) (v3:=.int .u64 m.pos) (v4:=.int .i64 m.count) (v5:=.int .i64 m.state) (v6:=.slice a1 m.streams.length a1') (v7:=.slice a2 m.links.length a2') (v8:=.slice a3 m.data.length a3') (v9:=.int .u64 m.sea.epoch) (v10:=.int .u64 m.sea.node) (v11:=.int .u64 m.sea.tail) (v12:=.int .u64 m.proj.epoch) (v13:=.slice a4 m.proj.stripes.length a4') hM hF zD;refine A9 (fun W=>Blk W w.heap.size 32 #[.int .i64 m.kind,.int .u64 (e:Int),.int .u64 (n:Int),.int .u64 m.pos,.int .i64 m.count,.int .i64 m.state,.slice a1 m.streams.length a1',.slice a2 m.links.length a2',.slice a3 m.data.length a3',.int .u64 m.sea.epoch,.int .u64 m.sea.node,.int .u64 m.sea.tail,.int .u64 m.proj.epoch,.slice a4 m.proj.stripes.length a4']∧Blk W (w.heap.size+1) 58 #[.int .i64 0,.int .i64 0]∧Tch (fun b=>b=w.heap.size∨b=w.heap.size+1) wd W) hput ?_;intro W5 ⟨q5,p5,ht5⟩;obtain⟨n0,n1,n2,n3,n4,n5,n6,n7,n8,n9,n10,n11,n12,n13,ln⟩:=AJ q5;obtain⟨p0,p1,p2,p3,p4⟩:=A1 p5;have hz5:=ht5.size;refine Af (v:=.tuple #[.agg VC,.bool q,.agg #[.int .i64 0,.int .i64 0]]) ZZ rfl ⟨a1,a1',a2,a2',a3,a3',a4,a4',rfl,AH.put (AH.BI XD.out (fun q hq=>ht5.block q zD zD) (fun q hq=>⟨zD,zD⟩)) HUE.out HUN.out,hbl.trans (ht5.Ba hbl.size fun b hb e=>zD)⟩
     ·have dk2:(s5.k !=(0:Int))=true:=by simp[hk5]
      have hz:=HZ2.out;rw[Ak hk5] at hz;simp only[A7] at hz;obtain⟨rfl,rfl,rfl,rfl⟩:=hz;clear HZ2 hk5 E9 X9;have hM:=HI.out.mb.drew;have hF:=HI.out.fb.drew;have hbl:=HI.out.bl.drew;have SK:=hid (fun (w':World) (h:Blk w' g 60 #[.slice a B.length c,.int .i64 (s5.p:Int),.int .i64 s5.k,.int .i64 s5.f])=>(⟨h.cell 2,h.cell 3⟩:w'.cell? ⟨g,2,none⟩=some (.int .i64 s5.k)∧w'.cell? ⟨g,3,none⟩=some (.int .i64 s5.f)));have HC:=HI.out.cb;have HS:=hid (SK.out _ HC);have hCd:=HC.drew;have lg:=HI.out.lg;obtain⟨r0,r1,r2,r3,r4,r5,r6,r7,r8,r9,r10,r11,r12,r13,lr⟩:=AJ hM;obtain⟨g0,g1,g2,g3,g4,g5,g6,g7,g8,g9,g10,g11,g12,g13⟩:=Be hM;obtain⟨z0,z1,z2,z3,z4⟩:=A1 hF;go_wp2_with fail;refine AW (S:=fun w'=>w'.cell? ⟨g,2,none⟩=some (.int .i64 s5.k)∧w'.cell? ⟨g,3,none⟩=some (.int .i64 s5.f)) zL HS.out (fun hHeld=> ?_);refine Al (i:=0) (oi:=_) (v:=?_) rfl zG zG zG (fun _ _ _ h=>h) (Or.inl ⟨zT,?_⟩) zN ?_;rotate_left
      ·(intro w hSw;(try dsimp only at hSw);go_simp<;>with_reducible rfl)
      (try simp only[Act.put,Aa,Ab,Ac])
      refine Al (i:=1) (oi:=_) (v:=?_) rfl zG zG zG (fun _ _ _ h=>h) (Or.inl ⟨zT,?_⟩) zN ?_;rotate_left
      ·(intro w hSw;(try dsimp only at hSw);go_simp<;>with_reducible rfl)
      (try simp only[Act.put,Aa,Ab,Ac])
      refine Al (i:=2) (oi:=_) (v:=?_) rfl zG zG zG (fun _ _ _ h=>h) (Or.inl ⟨zT,?_⟩) zN ?_;rotate_left
      ·(intro w hSw;(try dsimp only at hSw);go_simp<;>with_reducible rfl)
      (try simp only[Act.put,Aa,Ab,Ac])
      generalize w9.drew=wd at*;refine AF (rs:=[3]) zG zP ?_;refine Ax (o:=_) rfl (fun K hK=> ?_) AllReadyH.nil;go_simp
      refine hK.out _ _ ?_ (fun hHeld=> ?_)
      ·exact SK.out _ zF
      clear hK K
      (try simp only[Act.put,Aa,Ab,Ac])
      refine Al (i:=4) (oi:=_) (v:=?_) rfl zG zG zG (fun _ _ _ h=>h) (Or.inl ⟨zT,?_⟩) zN ?_;rotate_left
      ·(intro w hSw;(try dsimp only at hSw);go_simp<;>with_reducible rfl)
      (try simp only[Act.put,Aa,Ab,Ac])
      refine AF (rs:=[5]) zG zP ?_;refine Ax (o:=_) rfl (fun K hK=> ?_) AllReadyH.nil;go_simp
      refine hK.out _ _ ?_ (fun hHeld=> ?_)
      ·exact SK.out _ zF
      clear hK K
      (try simp only[Act.put,Aa,Ab,Ac])
      (try simp only[AE,Az,AA,Act.put,Aa,Ab,Ac])
      refine Bp zL ?_ _;go_wp2_with fail;have hput:=CI (k:=.int .i64 s5.k) (f:=.int .i64 s5.f) (v0:=.int .i64 0) (v1:=.int .u64 0) (v2:=.int .u64 0) (v3:=.int .u64 0) (v4:=.int .i64 0) (v5:=.int .i64 0) (v6:=.slice none 0 0) (v7:=.slice none 0 0) (v8:=.slice none 0 0) (v9:=.int .u64 0) (v10:=.int .u64 0) (v11:=.int .u64 0) (v12:=.int .u64 0) (v13:=.slice none 0 0) hM hF zD;refine A9 (fun W=>Blk W w.heap.size 32 #[.int .i64 0,.int .u64 0,.int .u64 0,.int .u64 0,.int .i64 0,.int .i64 0,.slice none 0 0,.slice none 0 0,.slice none 0 0,.int .u64 0,.int .u64 0,.int .u64 0,.int .u64 0,.slice none 0 0]∧Blk W (w.heap.size+1) 58 #[.int .i64 s5.k,.int .i64 s5.f]∧Tch (fun b=>b=w.heap.size∨b=w.heap.size+1) wd W) hput ?_;intro W5 ⟨q5,p5,ht5⟩;obtain⟨n0,n1,n2,n3,n4,n5,n6,n7,n8,n9,n10,n11,n12,n13,ln⟩:=AJ q5;obtain⟨p0,p1,p2,p3,p4⟩:=A1 p5;have hz5:=ht5.size;refine Af (v:=.tuple #[.agg Vz,.bool false,.agg #[.int .i64 s5.k,.int .i64 s5.f]]) ZZ rfl ⟨none,0,none,0,none,0,none,0,rfl,DV,hbl.trans (ht5.Ba hbl.size fun b hb e=>zD)⟩
    ·have dk1:(s3.k !=(0:Int))=true:=by simp[hk]
     have hz:=HZ.out;rw[Ak hk] at hz;simp only[A7] at hz;obtain⟨rfl,rfl,rfl,rfl⟩:=hz;have HI:=HI3;clear HZ hk HI3;have hM:=HI.out.mb.drew;have hF:=HI.out.fb.drew;have hbl:=HI.out.bl.drew;have SK:=hid (fun (w':World) (h:Blk w' g 60 #[.slice a B.length c,.int .i64 (s3.p:Int),.int .i64 s3.k,.int .i64 s3.f])=>(⟨h.cell 2,h.cell 3⟩:w'.cell? ⟨g,2,none⟩=some (.int .i64 s3.k)∧w'.cell? ⟨g,3,none⟩=some (.int .i64 s3.f)));have HC:=HI.out.cb;have HS:=hid (SK.out _ HC);have hCd:=HC.drew;have lg:=HI.out.lg;obtain⟨r0,r1,r2,r3,r4,r5,r6,r7,r8,r9,r10,r11,r12,r13,lr⟩:=AJ hM;obtain⟨g0,g1,g2,g3,g4,g5,g6,g7,g8,g9,g10,g11,g12,g13⟩:=Be hM;obtain⟨z0,z1,z2,z3,z4⟩:=A1 hF;go_wp2_with fail;refine AW (S:=fun w'=>w'.cell? ⟨g,2,none⟩=some (.int .i64 s3.k)∧w'.cell? ⟨g,3,none⟩=some (.int .i64 s3.f)) zL HS.out (fun hHeld=> ?_);refine Al (i:=0) (oi:=_) (v:=?_) rfl zG zG zG (fun _ _ _ h=>h) (Or.inl ⟨zT,?_⟩) zN ?_;rotate_left
     ·(intro w hSw;(try dsimp only at hSw);go_simp<;>with_reducible rfl)
     (try simp only[Act.put,Aa,Ab,Ac])
     refine Al (i:=1) (oi:=_) (v:=?_) rfl zG zG zG (fun _ _ _ h=>h) (Or.inl ⟨zT,?_⟩) zN ?_;rotate_left
     ·(intro w hSw;(try dsimp only at hSw);go_simp<;>with_reducible rfl)
     (try simp only[Act.put,Aa,Ab,Ac])
     refine Al (i:=2) (oi:=_) (v:=?_) rfl zG zG zG (fun _ _ _ h=>h) (Or.inl ⟨zT,?_⟩) zN ?_;rotate_left
     ·(intro w hSw;(try dsimp only at hSw);go_simp<;>with_reducible rfl)
     (try simp only[Act.put,Aa,Ab,Ac])
     generalize w5.drew=wd at*;refine AF (rs:=[3]) zG zP ?_;refine Ax (o:=_) rfl (fun K hK=> ?_) AllReadyH.nil;go_simp
     refine hK.out _ _ ?_ (fun hHeld=> ?_)
     ·exact SK.out _ zF
     clear hK K
     (try simp only[Act.put,Aa,Ab,Ac])
     refine Al (i:=4) (oi:=_) (v:=?_) rfl zG zG zG (fun _ _ _ h=>h) (Or.inl ⟨zT,?_⟩) zN ?_;rotate_left
     ·(intro w hSw;(try dsimp only at hSw);go_simp<;>with_reducible rfl)
     (try simp only[Act.put,Aa,Ab,Ac])
     refine AF (rs:=[5]) zG zP ?_;refine Ax (o:=_) rfl (fun K hK=> ?_) AllReadyH.nil;go_simp
     refine hK.out _ _ ?_ (fun hHeld=> ?_)
     ·exact SK.out _ zF
     clear hK K
     (try simp only[Act.put,Aa,Ab,Ac])
     (try simp only[AE,Az,AA,Act.put,Aa,Ab,Ac])
     refine Bp zL ?_ _;go_wp2_with fail;have hput:=CI (k:=.int .i64 s3.k) (f:=.int .i64 s3.f) (v0:=.int .i64 0) (v1:=.int .u64 0) (v2:=.int .u64 0) (v3:=.int .u64 0) (v4:=.int .i64 0) (v5:=.int .i64 0) (v6:=.slice none 0 0) (v7:=.slice none 0 0) (v8:=.slice none 0 0) (v9:=.int .u64 0) (v10:=.int .u64 0) (v11:=.int .u64 0) (v12:=.int .u64 0) (v13:=.slice none 0 0) hM hF zD;refine A9 (fun W=>Blk W w.heap.size 32 #[.int .i64 0,.int .u64 0,.int .u64 0,.int .u64 0,.int .i64 0,.int .i64 0,.slice none 0 0,.slice none 0 0,.slice none 0 0,.int .u64 0,.int .u64 0,.int .u64 0,.int .u64 0,.slice none 0 0]∧Blk W (w.heap.size+1) 58 #[.int .i64 s3.k,.int .i64 s3.f]∧Tch (fun b=>b=w.heap.size∨b=w.heap.size+1) wd W) hput ?_;intro W5 ⟨q5,p5,ht5⟩;obtain⟨n0,n1,n2,n3,n4,n5,n6,n7,n8,n9,n10,n11,n12,n13,ln⟩:=AJ q5;obtain⟨p0,p1,p2,p3,p4⟩:=A1 p5;have hz5:=ht5.size;refine Af (v:=.tuple #[.agg Vz,.bool false,.agg #[.int .i64 s3.k,.int .i64 s3.f]]) ZZ rfl ⟨none,0,none,0,none,0,none,0,rfl,DV,hbl.trans (ht5.Ba hbl.size fun b hb e=>zD)⟩
theorem Tg{blk:Rs→Rs × List UInt8 × Bool}{fl:Rs→Bool→Bool}(h:(Eb B blk fl).2.2.1=0):(Eb B blk fl).2.2.2=0:=by
 unfold Eb at h ⊢;dsimp only at h ⊢;split at h
 ·rename_i h1
  rw[An h1];split at h
  ·rename_i h2
   rw[An h2]
  ·rename_i h2
   exact absurd h h2
 ·rename_i h1
  exact absurd h h1
set_option maxHeartbeats 12800000 in
theorem JG(w:World)(B:List UInt8)(a:Option Addr)(c0 c:Nat)(hl:Ah.r (·<w.heap.size) w [.slice a c0 c] B)(hB:B.length≤1000000000)(strict:Bool){x:Msg}{nx:Nat}(hZ:DA B (fun P=>if strict then CG P else DB P) flL=(x,qx,nx,kx,fx)):
  Calls Tryz.prog 53 #[.slice a c0 c,.bool strict] w fun r w'=>∃a1 a1' a2 a2' a3 a3' a4 a4',r=.returned (.tuple #[.agg #[.int .i64 x.kind,.int .u64 x.epoch,.int .u64 x.seq,.int .u64 x.pos,.int .i64 x.count,.int .i64 x.state,.slice a1 x.streams.length a1',.slice a2 x.links.length a2',.slice a3 x.data.length a3',.int .u64 x.sea.epoch,.int .u64 x.sea.node,.int .u64 x.sea.tail,.int .u64 x.proj.epoch,.slice a4 x.proj.stripes.length a4'],.bool qx,.int .i64 (nx:Int),.agg #[.int .i64 kx,.int .i64 fx]])∧AH (fun q=>w.heap.size≤q∧q<w'.heap.size) w' x a1 a1' a2 a2' a3 a3' a4 a4'∧Below w.heap.size w w':=by
 obtain⟨rfl,hmx,hcc,hcm⟩:=AU hl;have ok0:(⟨0,0,0⟩:Rs).ok B.length:=⟨Ao _,fun _=>rfl⟩;have HF:=hid (Ld ((w.alloc (.cells Vz 32)).alloc (.cells #[.int .i64 0,.int .i64 0] 58)) a c B (lift hl zA) ⟨0,0,0⟩ ok0 zD 2097152 zS);obtain⟨hG1,hG2⟩:=GX (B:=B) (m:=2097152);unfold DA at hZ;unfold Jq at hZ hG1 hG2;generalize (⟨0,0,0⟩:Rs).frame B 2097152=T at*;obtain⟨s,D⟩:=T;dsimp only at HF hZ hG1 hG2;unfold CV at HF;have hz00:w.heap.size<(((w.alloc (.cells Vz 32)).alloc (.cells #[.int .i64 0,.int .i64 0] 58))).heap.size:=zM;clear hl ok0;go_enter Tryz.func53,Tryz.ntmps53;go_wp2_with fail;refine HF.out.mono ?_;rintro r w1 ⟨v,rfl,hr,hb⟩;obtain⟨aD,cD,hfv,hr2,_⟩:=At hr;simp only[Ai,As] at hfv;subst hfv;have I1:Jv w w1:=⟨Blk.later zB hb,Blk.later zB hb,zA⟩;have hlow1:w.heap.size+1<w1.heap.size:=I1.fb.lt;have hb2:Below w1.heap.size w1 (w1.alloc (.cells #[.slice a B.length c,.int .i64 (s.p:Int),.int .i64 s.k,.int .i64 s.f] 60)):=zA;have HI2:=hid (I1.row hb2);have HC2:Hid (Blk (w1.alloc (.cells #[.slice a B.length c,.int .i64 (s.p:Int),.int .i64 s.k,.int .i64 s.f] 60)) w1.heap.size 60 #[.slice a B.length c,.int .i64 (s.p:Int),.int .i64 s.k,.int .i64 s.f]):=hid (Blk.newAt _ _ _ rfl);have HD2:=hid (lift (Ah.mono hr2 (S':=(·<w1.heap.size)) fun q hq=>hq.2) hb2);have l2:w1.heap.size<((w1.alloc (.cells #[.slice a B.length c,.int .i64 (s.p:Int),.int .i64 s.k,.int .i64 s.f] 60))).heap.size:=zP;clear hr hr2 hb hb2 I1 HF;obtain⟨x0,x1,x2,x3,e0,e1,e2,e3,l0⟩:=Aq HC2.out;go_upto_region 2 with (fail);generalize (w1.alloc (.cells #[.slice a B.length c,.int .i64 (s.p:Int),.int .i64 s.k,.int .i64 s.f] 60))=w2 at*;by_cases hk:s.k=0
 ·have dk:(s.k !=(0:Int))=false:=by simp[hk]
  rw[An hk] at hZ hG1 hG2;dsimp only at hZ hG1 hG2;rw[An rfl] at hZ;generalize hT:Eb D (if strict then CG D else DB D) flL=T at*;obtain⟨m,q,k,f⟩:=T;dsimp only at hZ;have HR:=hid (fun (W:World) (h:Ah.r (·<W.heap.size) W [.slice aD D.length cD] D)=>Lb W D aD _ cD h zD strict hT);have HF0:Hid (k=0→f=0):=hid (fun h=>by have:=Tg (B:=D) (blk:=if strict then CG D else DB D) (fl:=flL) (by rw[hT];exact h);rw[hT] at this;exact this);have HZ:=hid hZ;clear hZ hT hk;go_wp2_with fail;refine (HR.out _ HD2.out).mono ?_;rintro r w3 ⟨a1,a1',a2,a2',a3,a3',a4,a4',rfl,hm,hb⟩;have hlow3:w1.heap.size<w3.heap.size:=Am l2 hb.size;have hb4:Below w3.heap.size w3 ((w3.alloc (.cells Vy 32)).alloc (.cells #[.int .i64 k,.int .i64 f] 58)):=zA;have HE4:Hid (Blk ((w3.alloc (.cells Vy 32)).alloc (.cells #[.int .i64 k,.int .i64 f] 58)) w3.heap.size 32 Vy):=hid zB;have HF4:Hid (Blk ((w3.alloc (.cells Vy 32)).alloc (.cells #[.int .i64 k,.int .i64 f] 58)) (w3.heap.size+1) 58 #[.int .i64 k,.int .i64 f]):=hid zB;have HC4:=hid ((HC2.out.later hb).later hb4);have HI4:=hid ((HI2.out.row hb).row hb4);have X4:=hid (AH.BI (S':=fun q=>w1.heap.size<q∧q<w3.heap.size) hm (fun q hq=>hb4.block q hq.2) (fun q hq=>⟨zD,hq.2⟩));have l4:w3.heap.size+1<(((w3.alloc (.cells Vy 32)).alloc (.cells #[.int .i64 k,.int .i64 f] 58))).heap.size:=zP;clear hm hb hb4 HI2 HC2 HD2 HR x0 x1 x2 x3 e0 e1 e2 e3 l0;obtain⟨f0,f1,f2,f3,f4⟩:=A1 HF4.out;go_upto_region 5 with (fail);generalize ((w3.alloc (.cells Vy 32)).alloc (.cells #[.int .i64 k,.int .i64 f] 58))=w4 at*;by_cases hk2:k=0
  ·have dk2:(k !=(0:Int))=false:=by simp[hk2]
   have hz:=HZ.out;rw[An hk2] at hz;simp only[A7] at hz;obtain⟨rfl,rfl,rfl,rfl,rfl⟩:=hz;subst hk2;have hf0:f=0:=HF0.out rfl;subst hf0;have hM:=HI4.out.mb.drew;have hF:=HI4.out.fb.drew;have hbl:=HI4.out.bl.drew;have SK:=hid (fun (w':World) (h1:Blk w' w3.heap.size 32 #[.int .i64 m.kind,.int .u64 m.epoch,.int .u64 m.seq,.int .u64 m.pos,.int .i64 m.count,.int .i64 m.state,.slice a1 m.streams.length a1',.slice a2 m.links.length a2',.slice a3 m.data.length a3',.int .u64 m.sea.epoch,.int .u64 m.sea.node,.int .u64 m.sea.tail,.int .u64 m.proj.epoch,.slice a4 m.proj.stripes.length a4']) (h0:Blk w' w1.heap.size 60 #[.slice a B.length c,.int .i64 (s.p:Int),.int .i64 s.k,.int .i64 s.f]) (h2:Blk w' (w3.heap.size+1) 58 #[.int .i64 0,.int .i64 0])=>(⟨h1.cell 0,h1.cell 1,h1.cell 2,h1.cell 3,h1.cell 4,h1.cell 5,h1.cell 6,h1.cell 7,h1.cell 8,h1.cell 9,h1.cell 10,h1.cell 11,h1.cell 12,h1.cell 13,h0.cell 1,h2.cell 0,h2.cell 1⟩:w'.cell? ⟨w3.heap.size,0,none⟩=some (.int .i64 m.kind)∧w'.cell? ⟨w3.heap.size,1,none⟩=some (.int .u64 m.epoch)∧w'.cell? ⟨w3.heap.size,2,none⟩=some (.int .u64 m.seq)∧w'.cell? ⟨w3.heap.size,3,none⟩=some (.int .u64 m.pos)∧w'.cell? ⟨w3.heap.size,4,none⟩=some (.int .i64 m.count)∧w'.cell? ⟨w3.heap.size,5,none⟩=some (.int .i64 m.state)∧w'.cell? ⟨w3.heap.size,6,none⟩=some (.slice a1 m.streams.length a1')∧w'.cell? ⟨w3.heap.size,7,none⟩=some (.slice a2 m.links.length a2')∧w'.cell? ⟨w3.heap.size,8,none⟩=some (.slice a3 m.data.length a3')∧w'.cell? ⟨w3.heap.size,9,none⟩=some (.int .u64 m.sea.epoch)∧w'.cell? ⟨w3.heap.size,10,none⟩=some (.int .u64 m.sea.node)∧w'.cell? ⟨w3.heap.size,11,none⟩=some (.int .u64 m.sea.tail)∧w'.cell? ⟨w3.heap.size,12,none⟩=some (.int .u64 m.proj.epoch)∧w'.cell? ⟨w3.heap.size,13,none⟩=some (.slice a4 m.proj.stripes.length a4')∧w'.cell? ⟨w1.heap.size,1,none⟩=some (.int .i64 (s.p:Int))∧w'.cell? ⟨(w3.heap.size+1),0,none⟩=some (.int .i64 0)∧w'.cell? ⟨(w3.heap.size+1),1,none⟩=some (.int .i64 0)));have HS:=hid (SK.out _ HE4.out HC4.out HF4.out);have hEd:=HE4.out.drew;have hCd:=HC4.out.drew;have hFd:=HF4.out.drew;have XD:=hid (AH.BI (w':=w4.drew) X4.out (fun q hq=>rfl) (fun q hq=>hq));have ld:w3.heap.size+1<w4.drew.heap.size:=l4;obtain⟨r0,r1,r2,r3,r4,r5,r6,r7,r8,r9,r10,r11,r12,r13,lr⟩:=AJ hM;obtain⟨g0,g1,g2,g3,g4,g5,g6,g7,g8,g9,g10,g11,g12,g13⟩:=Be hM;obtain⟨z0,z1,z2,z3,z4⟩:=A1 hF;go_wp2_with fail;refine AW (S:=fun w'=>w'.cell? ⟨w3.heap.size,0,none⟩=some (.int .i64 m.kind)∧w'.cell? ⟨w3.heap.size,1,none⟩=some (.int .u64 m.epoch)∧w'.cell? ⟨w3.heap.size,2,none⟩=some (.int .u64 m.seq)∧w'.cell? ⟨w3.heap.size,3,none⟩=some (.int .u64 m.pos)∧w'.cell? ⟨w3.heap.size,4,none⟩=some (.int .i64 m.count)∧w'.cell? ⟨w3.heap.size,5,none⟩=some (.int .i64 m.state)∧w'.cell? ⟨w3.heap.size,6,none⟩=some (.slice a1 m.streams.length a1')∧w'.cell? ⟨w3.heap.size,7,none⟩=some (.slice a2 m.links.length a2')∧w'.cell? ⟨w3.heap.size,8,none⟩=some (.slice a3 m.data.length a3')∧w'.cell? ⟨w3.heap.size,9,none⟩=some (.int .u64 m.sea.epoch)∧w'.cell? ⟨w3.heap.size,10,none⟩=some (.int .u64 m.sea.node)∧w'.cell? ⟨w3.heap.size,11,none⟩=some (.int .u64 m.sea.tail)∧w'.cell? ⟨w3.heap.size,12,none⟩=some (.int .u64 m.proj.epoch)∧w'.cell? ⟨w3.heap.size,13,none⟩=some (.slice a4 m.proj.stripes.length a4')∧w'.cell? ⟨w1.heap.size,1,none⟩=some (.int .i64 (s.p:Int))∧w'.cell? ⟨(w3.heap.size+1),0,none⟩=some (.int .i64 0)∧w'.cell? ⟨(w3.heap.size+1),1,none⟩=some (.int .i64 0)) zL HS.out (fun hHeld=> ?_);refine Al (i:=0) (oi:=_) (v:=?_) rfl zG zG zG (fun _ _ _ h=>h) (Or.inl ⟨zT,?_⟩) zN ?_;rotate_left
   ·(intro w hSw;(try dsimp only at hSw);go_simp<;>with_reducible rfl)
   (try simp only[Act.put,Aa,Ab,Ac])
   refine Al (i:=1) (oi:=_) (v:=?_) rfl zG zG zG (fun _ _ _ h=>h) (Or.inl ⟨zT,?_⟩) zN ?_;rotate_left
   ·(intro w hSw;(try dsimp only at hSw);go_simp<;>with_reducible rfl)
   (try simp only[Act.put,Aa,Ab,Ac])
   refine Al (i:=2) (oi:=_) (v:=?_) rfl zG zG zG (fun _ _ _ h=>h) (Or.inl ⟨zT,?_⟩) zN ?_;rotate_left
   ·(intro w hSw;(try dsimp only at hSw);go_simp<;>with_reducible rfl)
   (try simp only[Act.put,Aa,Ab,Ac])
   refine Al (i:=3) (oi:=_) (v:=?_) rfl zG zG zG (fun _ _ _ h=>h) (Or.inl ⟨zT,?_⟩) zN ?_;rotate_left
   ·(intro w hSw;(try dsimp only at hSw);go_simp<;>with_reducible rfl)
   (try simp only[Act.put,Aa,Ab,Ac])
   refine Al (i:=4) (oi:=_) (v:=?_) rfl zG zG zG (fun _ _ _ h=>h) (Or.inl ⟨zT,?_⟩) zN ?_;rotate_left
   ·(intro w hSw;(try dsimp only at hSw);go_simp<;>with_reducible rfl)
   (try simp only[Act.put,Aa,Ab,Ac])
   generalize w4.drew=wd at*;refine AF (rs:=[5]) zG zP ?_;refine Ax (o:=_) rfl (fun K hK=> ?_) AllReadyH.nil;go_simp
   refine hK.out _ _ ?_ (fun hHeld=> ?_)
   ·first | exact SK.out _ zF zF zF | exact SK.out _ zF
   clear hK K
   (try simp only[Act.put,Aa,Ab,Ac])
   refine Al (i:=6) (oi:=_) (v:=?_) rfl zG zG zG (fun _ _ _ h=>h) (Or.inl ⟨zT,?_⟩) zN ?_;rotate_left
   ·(intro w hSw;(try dsimp only at hSw);go_simp<;>with_reducible rfl)
   (try simp only[Act.put,Aa,Ab,Ac])
   refine Al (i:=7) (oi:=_) (v:=?_) rfl zG zG zG (fun _ _ _ h=>h) (Or.inl ⟨zT,?_⟩) zN ?_;rotate_left
   ·(intro w hSw;(try dsimp only at hSw);go_simp<;>with_reducible rfl)
   (try simp only[Act.put,Aa,Ab,Ac])
   refine AF (rs:=[8]) zG zP ?_;refine Ax (o:=_) rfl (fun K hK=> ?_) AllReadyH.nil;go_simp
   refine hK.out _ _ ?_ (fun hHeld=> ?_)
   ·first | exact SK.out _ zF zF zF | exact SK.out _ zF
   clear hK K
   (try simp only[Act.put,Aa,Ab,Ac])
   (try simp only[AE,Az,AA,Act.put,Aa,Ab,Ac])
   refine Bp zL ?_ _;go_wp2_with fail;have hput:=CI (k:=.int .i64 0) (f:=.int .i64 0) (v0:=.int .i64 m.kind) (v1:=.int .u64 m.epoch) (v2:=.int .u64 m.seq) (v3:=.int .u64 m.pos) (v4:=.int .i64 m.count) (v5:=.int .i64 m.state) (v6:=.slice a1 m.streams.length a1') (v7:=.slice a2 m.links.length a2') (v8:=.slice a3 m.data.length a3') (v9:=.int .u64 m.sea.epoch) (v10:=.int .u64 m.sea.node) (v11:=.int .u64 m.sea.tail) (v12:=.int .u64 m.proj.epoch) (v13:=.slice a4 m.proj.stripes.length a4') hM hF zD;refine A9 (fun W=>Blk W w.heap.size 32 #[.int .i64 m.kind,.int .u64 m.epoch,.int .u64 m.seq,.int .u64 m.pos,.int .i64 m.count,.int .i64 m.state,.slice a1 m.streams.length a1',.slice a2 m.links.length a2',.slice a3 m.data.length a3',.int .u64 m.sea.epoch,.int .u64 m.sea.node,.int .u64 m.sea.tail,.int .u64 m.proj.epoch,.slice a4 m.proj.stripes.length a4']∧Blk W (w.heap.size+1) 58 #[.int .i64 0,.int .i64 0]∧Tch (fun b=>b=w.heap.size∨b=w.heap.size+1) wd W) hput ?_;intro W5 ⟨q5,p5,ht5⟩;obtain⟨n0,n1,n2,n3,n4,n5,n6,n7,n8,n9,n10,n11,n12,n13,ln⟩:=AJ q5;obtain⟨p0,p1,p2,p3,p4⟩:=A1 p5;have hz5:=ht5.size;refine Af (v:=.tuple #[.agg Vy,.bool q,.int .i64 (s.p:Int),.agg #[.int .i64 0,.int .i64 0]]) ZY rfl ⟨a1,a1',a2,a2',a3,a3',a4,a4',rfl,AH.BI XD.out (fun q hq=>ht5.block q zD zD) (fun q hq=>⟨zD,zD⟩),hbl.trans (ht5.Ba hbl.size fun b hb e=>zD)⟩
  ·have dk2:(k !=(0:Int))=true:=by simp[hk2]
   have hz:=HZ.out;rw[Ak hk2] at hz;obtain⟨v1,hv1⟩:∃v1,wrap64 (f+(s.p:Int))=v1:=⟨_,rfl⟩;obtain⟨v2,hv2⟩:∃v2,wrap64 (v1-4)=v2:=⟨_,rfl⟩;obtain⟨v3,hv3⟩:∃v3,wrap64 (v2-(D.length:Int))=v3:=⟨_,rfl⟩;have hv:wrap64 (f+((s.p:Int)-4-(D.length:Int)))=v3:=by
    rw[←hv3,←hv2,←hv1];simp only[wrap64];omega
   rw[hv] at hz;simp only[A7] at hz;obtain⟨rfl,rfl,rfl,rfl,rfl⟩:=hz;have HV1:=hid hv1;have HV2:=hid hv2;have HV3:=hid hv3;have HAT:=hid (fun (W:World)=>DF W k v3 hk2);clear hv hv1 hv2 hv3 hk2 HZ;obtain⟨x0,x1,x2,x3,e0,e1,e2,e3,l0⟩:=Aq HC4.out;go_wp2_with fail
   (try rw[HV1.out])
   (try rw[HV2.out])
   (try rw[HV3.out])
   refine (HAT.out _).mono ?_;rintro r wd ⟨rfl,hb⟩;have HI5:=HI4.out.row hb;have hM:=HI5.mb;have hF:=HI5.fb;have hbl:=HI5.bl;clear hb x0 x1 x2 x3 e0 e1 e2 e3 l0 f0 f1 f2 f3 f4;obtain⟨r0,r1,r2,r3,r4,r5,r6,r7,r8,r9,r10,r11,r12,r13,lr⟩:=AJ hM;obtain⟨g0,g1,g2,g3,g4,g5,g6,g7,g8,g9,g10,g11,g12,g13⟩:=Be hM;obtain⟨z0,z1,z2,z3,z4⟩:=A1 hF;go_wp2_with fail;have hput:=CI (k:=.int .i64 k) (f:=.int .i64 v3) (v0:=.int .i64 0) (v1:=.int .u64 0) (v2:=.int .u64 0) (v3:=.int .u64 0) (v4:=.int .i64 0) (v5:=.int .i64 0) (v6:=.slice none 0 0) (v7:=.slice none 0 0) (v8:=.slice none 0 0) (v9:=.int .u64 0) (v10:=.int .u64 0) (v11:=.int .u64 0) (v12:=.int .u64 0) (v13:=.slice none 0 0) hM hF zD;refine A9 (fun W=>Blk W w.heap.size 32 #[.int .i64 0,.int .u64 0,.int .u64 0,.int .u64 0,.int .i64 0,.int .i64 0,.slice none 0 0,.slice none 0 0,.slice none 0 0,.int .u64 0,.int .u64 0,.int .u64 0,.int .u64 0,.slice none 0 0]∧Blk W (w.heap.size+1) 58 #[.int .i64 k,.int .i64 v3]∧Tch (fun b=>b=w.heap.size∨b=w.heap.size+1) wd W) hput ?_;intro W5 ⟨q5,p5,ht5⟩;obtain⟨n0,n1,n2,n3,n4,n5,n6,n7,n8,n9,n10,n11,n12,n13,ln⟩:=AJ q5;obtain⟨p0,p1,p2,p3,p4⟩:=A1 p5;have hz5:=ht5.size;refine Af (v:=.tuple #[.agg Vz,.bool false,.int .i64 0,.agg #[.int .i64 k,.int .i64 v3]]) ZY rfl ⟨none,0,none,0,none,0,none,0,rfl,DV,hbl.trans (ht5.Ba hbl.size fun b hb e=>zD)⟩
 ·have dk:(s.k !=(0:Int))=true:=by simp[hk]
  rw[Ak hk] at hZ;dsimp only at hZ;rw[Ak hk] at hZ;simp only[A7] at hZ;obtain⟨rfl,rfl,rfl,rfl,rfl⟩:=hZ;clear hk;have hM:=HI2.out.mb.drew;have hF:=HI2.out.fb.drew;have hbl:=HI2.out.bl.drew;have SK:=hid (fun (w':World) (h:Blk w' w1.heap.size 60 #[.slice a B.length c,.int .i64 (s.p:Int),.int .i64 s.k,.int .i64 s.f])=>(⟨h.cell 2,h.cell 3⟩:w'.cell? ⟨w1.heap.size,2,none⟩=some (.int .i64 s.k)∧w'.cell? ⟨w1.heap.size,3,none⟩=some (.int .i64 s.f)));have HS:=hid (SK.out _ HC2.out);have hCd:=HC2.out.drew;obtain⟨r0,r1,r2,r3,r4,r5,r6,r7,r8,r9,r10,r11,r12,r13,lr⟩:=AJ hM;obtain⟨g0,g1,g2,g3,g4,g5,g6,g7,g8,g9,g10,g11,g12,g13⟩:=Be hM;obtain⟨z0,z1,z2,z3,z4⟩:=A1 hF;go_wp2_with fail;refine AW (S:=fun w'=>w'.cell? ⟨w1.heap.size,2,none⟩=some (.int .i64 s.k)∧w'.cell? ⟨w1.heap.size,3,none⟩=some (.int .i64 s.f)) zL HS.out (fun hHeld=> ?_);refine Al (i:=0) (oi:=_) (v:=?_) rfl zG zG zG (fun _ _ _ h=>h) (Or.inl ⟨zT,?_⟩) zN ?_;rotate_left
  ·(intro w hSw;(try dsimp only at hSw);go_simp<;>with_reducible rfl)
  (try simp only[Act.put,Aa,Ab,Ac])
  refine Al (i:=1) (oi:=_) (v:=?_) rfl zG zG zG (fun _ _ _ h=>h) (Or.inl ⟨zT,?_⟩) zN ?_;rotate_left
  ·(intro w hSw;(try dsimp only at hSw);go_simp<;>with_reducible rfl)
  (try simp only[Act.put,Aa,Ab,Ac])
  refine Al (i:=2) (oi:=_) (v:=?_) rfl zG zG zG (fun _ _ _ h=>h) (Or.inl ⟨zT,?_⟩) zN ?_;rotate_left
  ·(intro w hSw;(try dsimp only at hSw);go_simp<;>with_reducible rfl)
  (try simp only[Act.put,Aa,Ab,Ac])
  generalize w2.drew=wd at*;refine AF (rs:=[3]) zG zP ?_;refine Ax (o:=_) rfl (fun K hK=> ?_) AllReadyH.nil;go_simp
  refine hK.out _ _ ?_ (fun hHeld=> ?_)
  ·first | exact SK.out _ zF zF zF | exact SK.out _ zF
  clear hK K
  (try simp only[Act.put,Aa,Ab,Ac])
  refine Al (i:=4) (oi:=_) (v:=?_) rfl zG zG zG (fun _ _ _ h=>h) (Or.inl ⟨zT,?_⟩) zN ?_;rotate_left
  ·(intro w hSw;(try dsimp only at hSw);go_simp<;>with_reducible rfl)
  (try simp only[Act.put,Aa,Ab,Ac])
  refine Al (i:=5) (oi:=_) (v:=?_) rfl zG zG zG (fun _ _ _ h=>h) (Or.inl ⟨zT,?_⟩) zN ?_;rotate_left
  ·(intro w hSw;(try dsimp only at hSw);go_simp<;>with_reducible rfl)
  (try simp only[Act.put,Aa,Ab,Ac])
  refine AF (rs:=[6]) zG zP ?_;refine Ax (o:=_) rfl (fun K hK=> ?_) AllReadyH.nil;go_simp
  refine hK.out _ _ ?_ (fun hHeld=> ?_)
  ·first | exact SK.out _ zF zF zF | exact SK.out _ zF
  clear hK K
  (try simp only[Act.put,Aa,Ab,Ac])
  (try simp only[AE,Az,AA,Act.put,Aa,Ab,Ac])
  refine Bp zL ?_ _;go_wp2_with fail;have hput:=CI (k:=.int .i64 s.k) (f:=.int .i64 s.f) (v0:=.int .i64 0) (v1:=.int .u64 0) (v2:=.int .u64 0) (v3:=.int .u64 0) (v4:=.int .i64 0) (v5:=.int .i64 0) (v6:=.slice none 0 0) (v7:=.slice none 0 0) (v8:=.slice none 0 0) (v9:=.int .u64 0) (v10:=.int .u64 0) (v11:=.int .u64 0) (v12:=.int .u64 0) (v13:=.slice none 0 0) hM hF zD;refine A9 (fun W=>Blk W w.heap.size 32 #[.int .i64 0,.int .u64 0,.int .u64 0,.int .u64 0,.int .i64 0,.int .i64 0,.slice none 0 0,.slice none 0 0,.slice none 0 0,.int .u64 0,.int .u64 0,.int .u64 0,.int .u64 0,.slice none 0 0]∧Blk W (w.heap.size+1) 58 #[.int .i64 s.k,.int .i64 s.f]∧Tch (fun b=>b=w.heap.size∨b=w.heap.size+1) wd W) hput ?_;intro W5 ⟨q5,p5,ht5⟩;obtain⟨n0,n1,n2,n3,n4,n5,n6,n7,n8,n9,n10,n11,n12,n13,ln⟩:=AJ q5;obtain⟨p0,p1,p2,p3,p4⟩:=A1 p5;have hz5:=ht5.size;refine Af (v:=.tuple #[.agg Vz,.bool false,.int .i64 0,.agg #[.int .i64 s.k,.int .i64 s.f]]) ZY rfl ⟨none,0,none,0,none,0,none,0,rfl,DV,hbl.trans (ht5.Ba hbl.size fun b hb e=>zD)⟩
theorem Qo{blk:List UInt8→Rs→Rs × List UInt8 × Bool}{fl:Rs→Bool→Bool}(h:(DA B blk fl).2.2.2.1≠0):(DA B blk fl).1=C7∧(DA B blk fl).2.1=false:=by
 unfold DA at h ⊢;dsimp only at h ⊢;split at h
 ·rename_i h1
  rw[An h1];split at h
  ·exact absurd rfl h
  ·rename_i h2
   rw[Ak h2];exact⟨rfl,rfl⟩
 ·rename_i h1
  rw[Ak h1];exact⟨rfl,rfl⟩
set_option maxHeartbeats 12800000 in
theorem Ja(w:World)(B:List UInt8)(a:Option Addr)(c0 c:Nat)(hl:Ah.r (·<w.heap.size) w [.slice a c0 c] B)(hB:B.length≤1000000000)(strict:Bool){x:Msg}(hZ:EE B (fun P=>if strict then CG P else DB P) flL=(x,qx,kx,fx)):
  Calls Tryz.prog 54 #[.slice a c0 c,.bool strict] w fun r w'=>∃a1 a1' a2 a2' a3 a3' a4 a4',r=.returned (.tuple #[.agg #[.int .i64 x.kind,.int .u64 x.epoch,.int .u64 x.seq,.int .u64 x.pos,.int .i64 x.count,.int .i64 x.state,.slice a1 x.streams.length a1',.slice a2 x.links.length a2',.slice a3 x.data.length a3',.int .u64 x.sea.epoch,.int .u64 x.sea.node,.int .u64 x.sea.tail,.int .u64 x.proj.epoch,.slice a4 x.proj.stripes.length a4'],.bool qx,.agg #[.int .i64 kx,.int .i64 fx]])∧AH (fun q=>w.heap.size≤q∧q<w'.heap.size) w' x a1 a1' a2 a2' a3 a3' a4 a4'∧Below w.heap.size w w':=by
 obtain⟨rfl,hmx,hcc,hcm⟩:=AU hl;unfold EE at hZ;generalize hG:DA B (fun P=>if strict then CG P else DB P) flL=T at*;obtain⟨m,q,n,k,f⟩:=T;dsimp only at hZ;have hbd:=Qo (B:=B) (blk:=fun P=>if strict then CG P else DB P) (fl:=flL);rw[hG] at hbd;have HBD:=hid hbd;clear hbd;have HG:=hid (JG ((w.alloc (.cells Vz 32)).alloc (.cells #[.int .i64 0,.int .i64 0] 58)) B a _ c (lift hl zA) hB strict hG);have hz00:w.heap.size+1<(((w.alloc (.cells Vz 32)).alloc (.cells #[.int .i64 0,.int .i64 0] 58))).heap.size:=zP;clear hl hG;go_enter Tryz.func54,Tryz.ntmps54;go_wp2_with fail;refine HG.out.mono ?_;rintro r w1 ⟨a1,a1',a2,a2',a3,a3',a4,a4',rfl,hm,hb⟩;have I1:Jv w w1:=⟨Blk.later zB hb,Blk.later zB hb,zA⟩;have hlow1:w.heap.size+1<w1.heap.size:=I1.fb.lt;have hb2:Below w1.heap.size w1 ((w1.alloc (.cells Vy 32)).alloc (.cells #[.int .i64 k,.int .i64 f] 58)):=zA;have HE2:Hid (Blk ((w1.alloc (.cells Vy 32)).alloc (.cells #[.int .i64 k,.int .i64 f] 58)) w1.heap.size 32 Vy):=hid zB;have HF2:Hid (Blk ((w1.alloc (.cells Vy 32)).alloc (.cells #[.int .i64 k,.int .i64 f] 58)) (w1.heap.size+1) 58 #[.int .i64 k,.int .i64 f]):=hid zB;have HI2:=hid (I1.row hb2);have X2:=hid (AH.BI (S':=fun q=>w.heap.size+1<q∧q<w1.heap.size) hm (fun q hq=>hb2.block q hq.2) (fun q hq=>⟨zD,hq.2⟩));have l2:w1.heap.size+1<(((w1.alloc (.cells Vy 32)).alloc (.cells #[.int .i64 k,.int .i64 f] 58))).heap.size:=zP;clear hm hb hb2 I1;obtain⟨f0,f1,f2,f3,f4⟩:=A1 HF2.out;go_upto_region 2 with (fail);generalize ((w1.alloc (.cells Vy 32)).alloc (.cells #[.int .i64 k,.int .i64 f] 58))=w2 at*;by_cases hk:k=0
 ·have dk:(k==(0:Int))=true:=by simp[hk]
  rw[An hk] at hZ;by_cases hn:n<B.length
  ·have d1:decide ((n:Int)<(B.length:Int))=true:=Ae zD
   have d2:decide (n<B.length)=true:=Ae hn;rw[An hn] at hZ;simp only[A7] at hZ;obtain⟨rfl,rfl,rfl,rfl⟩:=hZ;have HAT:=hid (fun (W:World)=>DF W 9 (n:Int) zS);clear hn hk;go_wp2_with fail;refine (HAT.out _).mono ?_;rintro r wd ⟨rfl,hb⟩;have HI5:=HI2.out.row hb;have hM:=HI5.mb;have hF:=HI5.fb;have hbl:=HI5.bl;clear hb f0 f1 f2 f3 f4;obtain⟨r0,r1,r2,r3,r4,r5,r6,r7,r8,r9,r10,r11,r12,r13,lr⟩:=AJ hM;obtain⟨g0,g1,g2,g3,g4,g5,g6,g7,g8,g9,g10,g11,g12,g13⟩:=Be hM;obtain⟨z0,z1,z2,z3,z4⟩:=A1 hF;go_wp2_with fail;have hput:=CI (k:=.int .i64 9) (f:=.int .i64 (n:Int)) (v0:=.int .i64 0) (v1:=.int .u64 0) (v2:=.int .u64 0) (v3:=.int .u64 0) (v4:=.int .i64 0) (v5:=.int .i64 0) (v6:=.slice none 0 0) (v7:=.slice none 0 0) (v8:=.slice none 0 0) (v9:=.int .u64 0) (v10:=.int .u64 0) (v11:=.int .u64 0) (v12:=.int .u64 0) (v13:=.slice none 0 0) hM hF zD;refine A9 (fun W=>Blk W w.heap.size 32 #[.int .i64 0,.int .u64 0,.int .u64 0,.int .u64 0,.int .i64 0,.int .i64 0,.slice none 0 0,.slice none 0 0,.slice none 0 0,.int .u64 0,.int .u64 0,.int .u64 0,.int .u64 0,.slice none 0 0]∧Blk W (w.heap.size+1) 58 #[.int .i64 9,.int .i64 (n:Int)]∧Tch (fun b=>b=w.heap.size∨b=w.heap.size+1) wd W) hput ?_;intro W5 ⟨q5,p5,ht5⟩;obtain⟨n0,n1,n2,n3,n4,n5,n6,n7,n8,n9,n10,n11,n12,n13,ln⟩:=AJ q5;obtain⟨p0,p1,p2,p3,p4⟩:=A1 p5;have hz5:=ht5.size;refine Af (v:=.tuple #[.agg Vz,.bool false,.agg #[.int .i64 9,.int .i64 (n:Int)]]) ZX rfl ⟨none,0,none,0,none,0,none,0,rfl,DV,hbl.trans (ht5.Ba hbl.size fun b hb e=>zD)⟩
  ·have d1:decide ((n:Int)<(B.length:Int))=false:=Ad zD
   have d2:decide (n<B.length)=false:=Ad hn;rw[Ak hn] at hZ;simp only[A7] at hZ;obtain⟨rfl,rfl,rfl,rfl⟩:=hZ;clear hn hk;have hM:=HI2.out.mb.drew;have hF:=HI2.out.fb.drew;have hbl:=HI2.out.bl.drew;have SK:=hid (fun (w':World) (h1:Blk w' w1.heap.size 32 #[.int .i64 m.kind,.int .u64 m.epoch,.int .u64 m.seq,.int .u64 m.pos,.int .i64 m.count,.int .i64 m.state,.slice a1 m.streams.length a1',.slice a2 m.links.length a2',.slice a3 m.data.length a3',.int .u64 m.sea.epoch,.int .u64 m.sea.node,.int .u64 m.sea.tail,.int .u64 m.proj.epoch,.slice a4 m.proj.stripes.length a4']) (h2:Blk w' (w1.heap.size+1) 58 #[.int .i64 k,.int .i64 f])=>(⟨h1.cell 0,h1.cell 1,h1.cell 2,h1.cell 3,h1.cell 4,h1.cell 5,h1.cell 6,h1.cell 7,h1.cell 8,h1.cell 9,h1.cell 10,h1.cell 11,h1.cell 12,h1.cell 13,h2.cell 0,h2.cell 1⟩:w'.cell? ⟨w1.heap.size,0,none⟩=some (.int .i64 m.kind)∧w'.cell? ⟨w1.heap.size,1,none⟩=some (.int .u64 m.epoch)∧w'.cell? ⟨w1.heap.size,2,none⟩=some (.int .u64 m.seq)∧w'.cell? ⟨w1.heap.size,3,none⟩=some (.int .u64 m.pos)∧w'.cell? ⟨w1.heap.size,4,none⟩=some (.int .i64 m.count)∧w'.cell? ⟨w1.heap.size,5,none⟩=some (.int .i64 m.state)∧w'.cell? ⟨w1.heap.size,6,none⟩=some (.slice a1 m.streams.length a1')∧w'.cell? ⟨w1.heap.size,7,none⟩=some (.slice a2 m.links.length a2')∧w'.cell? ⟨w1.heap.size,8,none⟩=some (.slice a3 m.data.length a3')∧w'.cell? ⟨w1.heap.size,9,none⟩=some (.int .u64 m.sea.epoch)∧w'.cell? ⟨w1.heap.size,10,none⟩=some (.int .u64 m.sea.node)∧w'.cell? ⟨w1.heap.size,11,none⟩=some (.int .u64 m.sea.tail)∧w'.cell? ⟨w1.heap.size,12,none⟩=some (.int .u64 m.proj.epoch)∧w'.cell? ⟨w1.heap.size,13,none⟩=some (.slice a4 m.proj.stripes.length a4')∧w'.cell? ⟨(w1.heap.size+1),0,none⟩=some (.int .i64 k)∧w'.cell? ⟨(w1.heap.size+1),1,none⟩=some (.int .i64 f)));have HS:=hid (SK.out _ HE2.out HF2.out);have hEd:=HE2.out.drew;have hFd:=HF2.out.drew;have XD:=hid (AH.BI (w':=w2.drew) X2.out (fun q hq=>rfl) (fun q hq=>hq));have ld:w1.heap.size+1<w2.drew.heap.size:=l2;go_upto_region 4 with (fail);clear f0 f1 f2 f3 f4;obtain⟨r0,r1,r2,r3,r4,r5,r6,r7,r8,r9,r10,r11,r12,r13,lr⟩:=AJ hM;obtain⟨g0,g1,g2,g3,g4,g5,g6,g7,g8,g9,g10,g11,g12,g13⟩:=Be hM;obtain⟨z0,z1,z2,z3,z4⟩:=A1 hF;go_wp2_with fail;refine AW (S:=fun w'=>w'.cell? ⟨w1.heap.size,0,none⟩=some (.int .i64 m.kind)∧w'.cell? ⟨w1.heap.size,1,none⟩=some (.int .u64 m.epoch)∧w'.cell? ⟨w1.heap.size,2,none⟩=some (.int .u64 m.seq)∧w'.cell? ⟨w1.heap.size,3,none⟩=some (.int .u64 m.pos)∧w'.cell? ⟨w1.heap.size,4,none⟩=some (.int .i64 m.count)∧w'.cell? ⟨w1.heap.size,5,none⟩=some (.int .i64 m.state)∧w'.cell? ⟨w1.heap.size,6,none⟩=some (.slice a1 m.streams.length a1')∧w'.cell? ⟨w1.heap.size,7,none⟩=some (.slice a2 m.links.length a2')∧w'.cell? ⟨w1.heap.size,8,none⟩=some (.slice a3 m.data.length a3')∧w'.cell? ⟨w1.heap.size,9,none⟩=some (.int .u64 m.sea.epoch)∧w'.cell? ⟨w1.heap.size,10,none⟩=some (.int .u64 m.sea.node)∧w'.cell? ⟨w1.heap.size,11,none⟩=some (.int .u64 m.sea.tail)∧w'.cell? ⟨w1.heap.size,12,none⟩=some (.int .u64 m.proj.epoch)∧w'.cell? ⟨w1.heap.size,13,none⟩=some (.slice a4 m.proj.stripes.length a4')∧w'.cell? ⟨(w1.heap.size+1),0,none⟩=some (.int .i64 k)∧w'.cell? ⟨(w1.heap.size+1),1,none⟩=some (.int .i64 f)) zL HS.out (fun hHeld=> ?_);refine Al (i:=0) (oi:=_) (v:=?_) rfl zG zG zG (fun _ _ _ h=>h) (Or.inl ⟨zT,?_⟩) zN ?_;rotate_left
   ·(intro w hSw;(try dsimp only at hSw);go_simp<;>with_reducible rfl)
   (try simp only[Act.put,Aa,Ab,Ac])
   refine Al (i:=1) (oi:=_) (v:=?_) rfl zG zG zG (fun _ _ _ h=>h) (Or.inl ⟨zT,?_⟩) zN ?_;rotate_left
   ·(intro w hSw;(try dsimp only at hSw);go_simp<;>with_reducible rfl)
   (try simp only[Act.put,Aa,Ab,Ac])
   refine Al (i:=2) (oi:=_) (v:=?_) rfl zG zG zG (fun _ _ _ h=>h) (Or.inl ⟨zT,?_⟩) zN ?_;rotate_left
   ·(intro w hSw;(try dsimp only at hSw);go_simp<;>with_reducible rfl)
   (try simp only[Act.put,Aa,Ab,Ac])
   generalize w2.drew=wd at*;refine AF (rs:=[3]) zG zP ?_;refine Ax (o:=_) rfl (fun K hK=> ?_) AllReadyH.nil;go_simp
   refine hK.out _ _ ?_ (fun hHeld=> ?_)
   ·exact SK.out _ zF zF
   clear hK K
   (try simp only[Act.put,Aa,Ab,Ac])
   refine Al (i:=4) (oi:=_) (v:=?_) rfl zG zG zG (fun _ _ _ h=>h) (Or.inl ⟨zT,?_⟩) zN ?_;rotate_left
   ·(intro w hSw;(try dsimp only at hSw);go_simp<;>with_reducible rfl)
   (try simp only[Act.put,Aa,Ab,Ac])
   refine AF (rs:=[5]) zG zP ?_;refine Ax (o:=_) rfl (fun K hK=> ?_) AllReadyH.nil;go_simp
   refine hK.out _ _ ?_ (fun hHeld=> ?_)
   ·exact SK.out _ zF zF
   clear hK K
   (try simp only[Act.put,Aa,Ab,Ac])
   (try simp only[AE,Az,AA,Act.put,Aa,Ab,Ac])
   refine Bp zL ?_ _;go_wp2_with fail;have hput:=CI (k:=.int .i64 k) (f:=.int .i64 f) (v0:=.int .i64 m.kind) (v1:=.int .u64 m.epoch) (v2:=.int .u64 m.seq) (v3:=.int .u64 m.pos) (v4:=.int .i64 m.count) (v5:=.int .i64 m.state) (v6:=.slice a1 m.streams.length a1') (v7:=.slice a2 m.links.length a2') (v8:=.slice a3 m.data.length a3') (v9:=.int .u64 m.sea.epoch) (v10:=.int .u64 m.sea.node) (v11:=.int .u64 m.sea.tail) (v12:=.int .u64 m.proj.epoch) (v13:=.slice a4 m.proj.stripes.length a4') hM hF zD;refine A9 (fun W=>Blk W w.heap.size 32 #[.int .i64 m.kind,.int .u64 m.epoch,.int .u64 m.seq,.int .u64 m.pos,.int .i64 m.count,.int .i64 m.state,.slice a1 m.streams.length a1',.slice a2 m.links.length a2',.slice a3 m.data.length a3',.int .u64 m.sea.epoch,.int .u64 m.sea.node,.int .u64 m.sea.tail,.int .u64 m.proj.epoch,.slice a4 m.proj.stripes.length a4']∧Blk W (w.heap.size+1) 58 #[.int .i64 k,.int .i64 f]∧Tch (fun b=>b=w.heap.size∨b=w.heap.size+1) wd W) hput ?_;intro W5 ⟨q5,p5,ht5⟩;obtain⟨n0,n1,n2,n3,n4,n5,n6,n7,n8,n9,n10,n11,n12,n13,ln⟩:=AJ q5;obtain⟨p0,p1,p2,p3,p4⟩:=A1 p5;have hz5:=ht5.size;refine Af (v:=.tuple #[.agg Vy,.bool q,.agg #[.int .i64 k,.int .i64 f]]) ZX rfl ⟨a1,a1',a2,a2',a3,a3',a4,a4',rfl,AH.BI XD.out (fun q hq=>ht5.block q zD zD) (fun q hq=>⟨zD,zD⟩),hbl.trans (ht5.Ba hbl.size fun b hb e=>zD)⟩
 ·have dk:(k==(0:Int))=false:=by simp[hk]
  rw[Ak hk,←(HBD.out hk).1,←(HBD.out hk).2] at hZ;simp only[A7] at hZ;obtain⟨rfl,rfl,rfl,rfl⟩:=hZ;clear hk HBD;have hM:=HI2.out.mb.drew;have hF:=HI2.out.fb.drew;have hbl:=HI2.out.bl.drew;have SK:=hid (fun (w':World) (h1:Blk w' w1.heap.size 32 #[.int .i64 m.kind,.int .u64 m.epoch,.int .u64 m.seq,.int .u64 m.pos,.int .i64 m.count,.int .i64 m.state,.slice a1 m.streams.length a1',.slice a2 m.links.length a2',.slice a3 m.data.length a3',.int .u64 m.sea.epoch,.int .u64 m.sea.node,.int .u64 m.sea.tail,.int .u64 m.proj.epoch,.slice a4 m.proj.stripes.length a4']) (h2:Blk w' (w1.heap.size+1) 58 #[.int .i64 k,.int .i64 f])=>(⟨h1.cell 0,h1.cell 1,h1.cell 2,h1.cell 3,h1.cell 4,h1.cell 5,h1.cell 6,h1.cell 7,h1.cell 8,h1.cell 9,h1.cell 10,h1.cell 11,h1.cell 12,h1.cell 13,h2.cell 0,h2.cell 1⟩:w'.cell? ⟨w1.heap.size,0,none⟩=some (.int .i64 m.kind)∧w'.cell? ⟨w1.heap.size,1,none⟩=some (.int .u64 m.epoch)∧w'.cell? ⟨w1.heap.size,2,none⟩=some (.int .u64 m.seq)∧w'.cell? ⟨w1.heap.size,3,none⟩=some (.int .u64 m.pos)∧w'.cell? ⟨w1.heap.size,4,none⟩=some (.int .i64 m.count)∧w'.cell? ⟨w1.heap.size,5,none⟩=some (.int .i64 m.state)∧w'.cell? ⟨w1.heap.size,6,none⟩=some (.slice a1 m.streams.length a1')∧w'.cell? ⟨w1.heap.size,7,none⟩=some (.slice a2 m.links.length a2')∧w'.cell? ⟨w1.heap.size,8,none⟩=some (.slice a3 m.data.length a3')∧w'.cell? ⟨w1.heap.size,9,none⟩=some (.int .u64 m.sea.epoch)∧w'.cell? ⟨w1.heap.size,10,none⟩=some (.int .u64 m.sea.node)∧w'.cell? ⟨w1.heap.size,11,none⟩=some (.int .u64 m.sea.tail)∧w'.cell? ⟨w1.heap.size,12,none⟩=some (.int .u64 m.proj.epoch)∧w'.cell? ⟨w1.heap.size,13,none⟩=some (.slice a4 m.proj.stripes.length a4')∧w'.cell? ⟨(w1.heap.size+1),0,none⟩=some (.int .i64 k)∧w'.cell? ⟨(w1.heap.size+1),1,none⟩=some (.int .i64 f)));have HS:=hid (SK.out _ HE2.out HF2.out);have hEd:=HE2.out.drew;have hFd:=HF2.out.drew;have XD:=hid (AH.BI (w':=w2.drew) X2.out (fun q hq=>rfl) (fun q hq=>hq));have ld:w1.heap.size+1<w2.drew.heap.size:=l2;go_upto_region 4 with (fail);clear f0 f1 f2 f3 f4;obtain⟨r0,r1,r2,r3,r4,r5,r6,r7,r8,r9,r10,r11,r12,r13,lr⟩:=AJ hM;obtain⟨g0,g1,g2,g3,g4,g5,g6,g7,g8,g9,g10,g11,g12,g13⟩:=Be hM;obtain⟨z0,z1,z2,z3,z4⟩:=A1 hF;go_wp2_with fail;refine AW (S:=fun w'=>w'.cell? ⟨w1.heap.size,0,none⟩=some (.int .i64 m.kind)∧w'.cell? ⟨w1.heap.size,1,none⟩=some (.int .u64 m.epoch)∧w'.cell? ⟨w1.heap.size,2,none⟩=some (.int .u64 m.seq)∧w'.cell? ⟨w1.heap.size,3,none⟩=some (.int .u64 m.pos)∧w'.cell? ⟨w1.heap.size,4,none⟩=some (.int .i64 m.count)∧w'.cell? ⟨w1.heap.size,5,none⟩=some (.int .i64 m.state)∧w'.cell? ⟨w1.heap.size,6,none⟩=some (.slice a1 m.streams.length a1')∧w'.cell? ⟨w1.heap.size,7,none⟩=some (.slice a2 m.links.length a2')∧w'.cell? ⟨w1.heap.size,8,none⟩=some (.slice a3 m.data.length a3')∧w'.cell? ⟨w1.heap.size,9,none⟩=some (.int .u64 m.sea.epoch)∧w'.cell? ⟨w1.heap.size,10,none⟩=some (.int .u64 m.sea.node)∧w'.cell? ⟨w1.heap.size,11,none⟩=some (.int .u64 m.sea.tail)∧w'.cell? ⟨w1.heap.size,12,none⟩=some (.int .u64 m.proj.epoch)∧w'.cell? ⟨w1.heap.size,13,none⟩=some (.slice a4 m.proj.stripes.length a4')∧w'.cell? ⟨(w1.heap.size+1),0,none⟩=some (.int .i64 k)∧w'.cell? ⟨(w1.heap.size+1),1,none⟩=some (.int .i64 f)) zL HS.out (fun hHeld=> ?_);refine Al (i:=0) (oi:=_) (v:=?_) rfl zG zG zG (fun _ _ _ h=>h) (Or.inl ⟨zT,?_⟩) zN ?_;rotate_left
  ·(intro w hSw;(try dsimp only at hSw);go_simp<;>with_reducible rfl)
  (try simp only[Act.put,Aa,Ab,Ac])
  refine Al (i:=1) (oi:=_) (v:=?_) rfl zG zG zG (fun _ _ _ h=>h) (Or.inl ⟨zT,?_⟩) zN ?_;rotate_left
  ·(intro w hSw;(try dsimp only at hSw);go_simp<;>with_reducible rfl)
  (try simp only[Act.put,Aa,Ab,Ac])
  refine Al (i:=2) (oi:=_) (v:=?_) rfl zG zG zG (fun _ _ _ h=>h) (Or.inl ⟨zT,?_⟩) zN ?_;rotate_left
  ·(intro w hSw;(try dsimp only at hSw);go_simp<;>with_reducible rfl)
  (try simp only[Act.put,Aa,Ab,Ac])
  generalize w2.drew=wd at*;refine AF (rs:=[3]) zG zP ?_;refine Ax (o:=_) rfl (fun K hK=> ?_) AllReadyH.nil;go_simp
  refine hK.out _ _ ?_ (fun hHeld=> ?_)
  ·exact SK.out _ zF zF
  clear hK K
  (try simp only[Act.put,Aa,Ab,Ac])
  refine Al (i:=4) (oi:=_) (v:=?_) rfl zG zG zG (fun _ _ _ h=>h) (Or.inl ⟨zT,?_⟩) zN ?_;rotate_left
  ·(intro w hSw;(try dsimp only at hSw);go_simp<;>with_reducible rfl)
  (try simp only[Act.put,Aa,Ab,Ac])
  refine AF (rs:=[5]) zG zP ?_;refine Ax (o:=_) rfl (fun K hK=> ?_) AllReadyH.nil;go_simp
  refine hK.out _ _ ?_ (fun hHeld=> ?_)
  ·exact SK.out _ zF zF
  clear hK K
  (try simp only[Act.put,Aa,Ab,Ac])
  (try simp only[AE,Az,AA,Act.put,Aa,Ab,Ac])
  refine Bp zL ?_ _;go_wp2_with fail;have hput:=CI (k:=.int .i64 k) (f:=.int .i64 f) (v0:=.int .i64 m.kind) (v1:=.int .u64 m.epoch) (v2:=.int .u64 m.seq) (v3:=.int .u64 m.pos) (v4:=.int .i64 m.count) (v5:=.int .i64 m.state) (v6:=.slice a1 m.streams.length a1') (v7:=.slice a2 m.links.length a2') (v8:=.slice a3 m.data.length a3') (v9:=.int .u64 m.sea.epoch) (v10:=.int .u64 m.sea.node) (v11:=.int .u64 m.sea.tail) (v12:=.int .u64 m.proj.epoch) (v13:=.slice a4 m.proj.stripes.length a4') hM hF zD;refine A9 (fun W=>Blk W w.heap.size 32 #[.int .i64 m.kind,.int .u64 m.epoch,.int .u64 m.seq,.int .u64 m.pos,.int .i64 m.count,.int .i64 m.state,.slice a1 m.streams.length a1',.slice a2 m.links.length a2',.slice a3 m.data.length a3',.int .u64 m.sea.epoch,.int .u64 m.sea.node,.int .u64 m.sea.tail,.int .u64 m.proj.epoch,.slice a4 m.proj.stripes.length a4']∧Blk W (w.heap.size+1) 58 #[.int .i64 k,.int .i64 f]∧Tch (fun b=>b=w.heap.size∨b=w.heap.size+1) wd W) hput ?_;intro W5 ⟨q5,p5,ht5⟩;obtain⟨n0,n1,n2,n3,n4,n5,n6,n7,n8,n9,n10,n11,n12,n13,ln⟩:=AJ q5;obtain⟨p0,p1,p2,p3,p4⟩:=A1 p5;have hz5:=ht5.size;refine Af (v:=.tuple #[.agg Vy,.bool q,.agg #[.int .i64 k,.int .i64 f]]) ZX rfl ⟨a1,a1',a2,a2',a3,a3',a4,a4',rfl,AH.BI XD.out (fun q hq=>ht5.block q zD zD) (fun q hq=>⟨zD,zD⟩),hbl.trans (ht5.Ba hbl.size fun b hb e=>zD)⟩
end Go.Proofs.YtlbffbkbkajciaaGreat
