/- Mini: Needed by rpcReads_walk, part 17: texts put together by shake.py; no condition. -/
import Derived.Test.YtlbffbkbkajciaaGreatZU8
import Derived.Test.YtlbffbkbkajciaaGreatZU5
import Derived.Test.YtlbffbkbkajciaaGreatZU3
import Derived.Test.YtlbffbkbkajciaaGreatZU16
import Derived.Test.YtlbffbkbkajciaaGreatZU12
import Derived.Test.YtlbffbkbkajciaaGreatZU7
import Derived.Deep.AppendLies
import Derived.Deep.RegionLaw
import Derived.Test.YtlbffbkbkajciaaGreatZU6
import Derived.Test.YtlbffbkbkajciaaGreatZU1
import Derived.Test.YtlbffbkbkajciaaGreatZU2
import Derived.Deep.CutRange
import Derived.Deep.RegionHeld3
import Derived.Test.YtlbffbkbkajciaaGreatZU15
import Derived.Test.YtlbffbkbkajciaaGreatZU13
import Derived.Deep.Cut
import Derived.Test.YtlbffbkbkajciaaGreatZU4
set_option linter.unusedVariables false
set_option linter.unusedSimpArgs false
set_option maxRecDepth 100000
set_option maxHeartbeats 6400000
namespace Go.Bs
variable{c i n:Nat}{S:Nat → Prop}{a:Option Addr}{w:World}
theorem zDb{p:Prop}(h:p:=by rw [hg]; exact h):p:=h
theorem zC9{p:Prop}(h:p:=by simp [results, Tryz.results55, go_sem, p0, p1, p4]):p:=h
theorem zCj{p:Prop}(h:p:=by rw [U8 (U7 B _ _) (UL B _ _)]; exact hZ):p:=h
theorem ZV{p:Prop}(h:p:=by simp [results, Tryz.results132, go_sem, n0, n1, n2, n3, n4, n5, n6, n7, n8, n9, n10, n11, n12, n13, p0, p1]):p:=h
end Go.Bs
namespace Go.Proofs.YtlbffbkbkajciaaGreat
open Go.RowKit Go.Bs Go.Maps
variable{qx:Bool}{f fx k kx:Int}{B J:List UInt8}{xs:List Value}{m:Msg}{base c c1 c2 c3 c4 g most n sz:Nat}{S:Nat → Prop}{a a1 a2 a3 a4:Option Addr}{e:TypeId}{v:Value}{w w1:World}
def EE(B:List UInt8)(blk:List UInt8→Rs→Rs × List UInt8 × Bool)(fl:Rs→Bool→Bool):Msg × Bool × Int × Int:=
 let g:=DA B blk fl
 if g.2.2.2.1=0 then (if g.2.2.1<B.length then (C7,false,9,(g.2.2.1:Int)) else (g.1,g.2.1,g.2.2.2.1,g.2.2.2.2)) else (C7,false,g.2.2.2.1,g.2.2.2.2)
abbrev flS:Rs→Bool→Bool:=fun s _=>decide (s.k=0)
abbrev flL:Rs→Bool→Bool:=fun _ q=>q
def Ri(B:List UInt8):=EE B (fun P=>CG P) flS
def UH(B:List UInt8):=EE B (fun P=>DB P) flL
def Ez(B:List UInt8):=DA B (fun P=>CG P) flS
theorem Mm(w:World)(B:List UInt8)(a:Option Addr)(c0 c:Nat)(hl:Ah.r (·<w.heap.size) w [.slice a c0 c] B)(hB:B.length≤1000000000)(fn:Nat)(blk:List UInt8→Rs→Rs × List UInt8 × Bool)(fl:Rs→Bool→Bool)(hR:∀P:List UInt8,P.length≤1000000000→T9 P fn (blk P) fl){x:Msg}(hZ:EE B blk fl=(x,qx,kx,fx)):
  Calls Tryz.prog 132 #[.slice a c0 c,.func (Fn.func fn) #[] #[]] w fun r w'=>∃a1 a1' a2 a2' a3 a3' a4 a4',r=.returned (.tuple #[.agg #[.int .i64 x.kind,.int .u64 x.epoch,.int .u64 x.seq,.int .u64 x.pos,.int .i64 x.count,.int .i64 x.state,.slice a1 x.streams.length a1',.slice a2 x.links.length a2',.slice a3 x.data.length a3',.int .u64 x.sea.epoch,.int .u64 x.sea.node,.int .u64 x.sea.tail,.int .u64 x.proj.epoch,.slice a4 x.proj.stripes.length a4'],.bool qx,.agg #[.int .i64 kx,.int .i64 fx]])∧AH (fun q=>w.heap.size≤q∧q<w'.heap.size) w' x a1 a1' a2 a2' a3 a3' a4 a4'∧Below w.heap.size w w':=by
 obtain⟨rfl,hmx,hcc,hcm⟩:=AU hl;unfold EE at hZ;generalize hG:DA B blk fl=G at*;obtain⟨m,q,n,k,f⟩:=G;dsimp only at hZ;have HGT:=hid (Q9 ((w.alloc (.cells Vz 32)).alloc (.cells #[.int .i64 0,.int .i64 0] 58)) B a _ c (lift hl zA) hB fn blk fl hR hG);have HGD:=hid (fun (W:World)=>CN W k f);have HAT:=hid (fun (W:World)=>Js W 9 (n:Int) zD);have hz00:w.heap.size+1<(((w.alloc (.cells Vz 32)).alloc (.cells #[.int .i64 0,.int .i64 0] 58))).heap.size:=zP;clear hl hR hG;go_enter Tryz.func132,Tryz.ntmps132;go_wp2_with fail;refine HGT.out.mono ?_;rintro r w1 ⟨a1,a1',a2,a2',a3,a3',a4,a4',rfl,hm1,hb1⟩;have I1:Jv w w1:=⟨Blk.later zB hb1,Blk.later zB hb1,zA⟩;have hlow1:w.heap.size+1<w1.heap.size:=I1.fb.lt;have E2:Blk ((w1.alloc (.cells Vy 32)).alloc (.cells #[.int .i64 k,.int .i64 f] 58)) w1.heap.size 32 Vy:=zB;have F2:Blk ((w1.alloc (.cells Vy 32)).alloc (.cells #[.int .i64 k,.int .i64 f] 58)) (w1.heap.size+1) 58 #[.int .i64 k,.int .i64 f]:=zB;have hb2:Below w1.heap.size w1 ((w1.alloc (.cells Vy 32)).alloc (.cells #[.int .i64 k,.int .i64 f] 58)):=zA;have HI2:=hid (I1.row hb2);have X2:=hid (AH.BI (S':=fun q=>w.heap.size+1<q∧q<w1.heap.size) hm1 (fun q hq=>hb2.block q hq.2) (fun q hq=>⟨zD,hq.2⟩));have l2:w1.heap.size+1<(((w1.alloc (.cells Vy 32)).alloc (.cells #[.int .i64 k,.int .i64 f] 58))).heap.size:=zP;obtain⟨y0,y1,y2,y3,y4,y5,y6,y7,y8,y9,y10,y11,y12,y13,ly⟩:=AJ E2;obtain⟨f0,f1,f2,f3,f4⟩:=A1 F2;clear hm1 hb1 hb2 I1;go_wp2_with fail;generalize ((w1.alloc (.cells Vy 32)).alloc (.cells #[.int .i64 k,.int .i64 f] 58))=w2 at*;by_cases hk:k=0
 ·rw[An hk] at hZ
  rw[Ae hk] at HGD;clear hk;refine (HGD.out _).mono ?_;rintro r w3 ⟨rfl,hb3⟩;have HI3:=hid (HI2.out.row hb3);have hE3:=E2.later hb3;have hF3:=F2.later hb3;have l3:=Am l2 hb3.size;have X3:=hid (AH.BI X2.out (fun q hq=>hb3.block q zD) (fun q hq=>hq));clear hb3 HI2 X2 E2 F2 y0 y1 y2 y3 y4 y5 y6 y7 y8 y9 y10 y11 y12 y13 ly f0 f1 f2 f3 f4;by_cases hn:n<B.length
  ·rw[An hn] at hZ
   simp only[A7] at hZ;obtain⟨rfl,rfl,rfl,rfl⟩:=hZ;have d1:decide ((n:Int)<(B.length:Int))=true:=Ae zD;have d2:decide (n<B.length)=true:=Ae hn;clear hn;go_wp2_with fail;refine (HAT.out _).mono ?_;rintro r w4 ⟨rfl,hb4⟩;have HI4:=hid (HI3.out.row hb4);have hM:=HI4.out.mb;have hF:=HI4.out.fb;have hbl:=HI4.out.bl;obtain⟨r0,r1,r2,r3,r4,r5,r6,r7,r8,r9,r10,r11,r12,r13,lr⟩:=AJ hM;obtain⟨g0,g1,g2,g3,g4,g5,g6,g7,g8,g9,g10,g11,g12,g13⟩:=Be hM;obtain⟨z0,z1,z2,z3,z4⟩:=A1 hF;clear hb4 HI3;go_wp2_with fail;have hput:=CI (k:=.int .i64 9) (f:=.int .i64 (n:Int)) (v0:=.int .i64 0) (v1:=.int .u64 0) (v2:=.int .u64 0) (v3:=.int .u64 0) (v4:=.int .i64 0) (v5:=.int .i64 0) (v6:=.slice none 0 0) (v7:=.slice none 0 0) (v8:=.slice none 0 0) (v9:=.int .u64 0) (v10:=.int .u64 0) (v11:=.int .u64 0) (v12:=.int .u64 0) (v13:=.slice none 0 0) hM hF zD;refine A9 (fun W=>Blk W w.heap.size 32 Vz∧Blk W (w.heap.size+1) 58 #[.int .i64 9,.int .i64 (n:Int)]∧Tch (fun b=>b=w.heap.size∨b=w.heap.size+1) w4 W) hput ?_;intro W5 ⟨q5,p5,ht5⟩;obtain⟨n0,n1,n2,n3,n4,n5,n6,n7,n8,n9,n10,n11,n12,n13,ln⟩:=AJ q5;obtain⟨p0,p1,p2,p3,p4⟩:=A1 p5;have hz5:=ht5.size;refine Af (v:=.tuple #[.agg Vz,.bool false,.agg #[.int .i64 9,.int .i64 (n:Int)]]) ZV rfl ⟨none,0,none,0,none,0,none,0,rfl,DV,hbl.trans (ht5.Ba hbl.size fun b hb e=>zD)⟩
  ·rw[Ak hn] at hZ
   simp only[A7] at hZ;obtain⟨rfl,rfl,rfl,rfl⟩:=hZ;have d1:decide ((n:Int)<(B.length:Int))=false:=Ad zD;have d2:decide (n<B.length)=false:=Ad hn;clear hn;have hM:=HI3.out.mb.drew;have hF:=HI3.out.fb.drew;have hbl:=HI3.out.bl.drew;have hEd:=(hE3).drew;have hFd:=(hF3).drew;have XD:=hid (AH.BI (w':=w3.drew) X3.out (fun q hq=>rfl) (fun q hq=>hq));have ld:w1.heap.size+1<w3.drew.heap.size:=l3;have SK:=hid (fun (w':World) (h1:Blk w' w1.heap.size 32 #[.int .i64 m.kind,.int .u64 m.epoch,.int .u64 m.seq,.int .u64 m.pos,.int .i64 m.count,.int .i64 m.state,.slice a1 m.streams.length a1',.slice a2 m.links.length a2',.slice a3 m.data.length a3',.int .u64 m.sea.epoch,.int .u64 m.sea.node,.int .u64 m.sea.tail,.int .u64 m.proj.epoch,.slice a4 m.proj.stripes.length a4']) (h2:Blk w' (w1.heap.size+1) 58 #[.int .i64 k,.int .i64 f])=>(⟨h1.cell 0,h1.cell 1,h1.cell 2,h1.cell 3,h1.cell 4,h1.cell 5,h1.cell 6,h1.cell 7,h1.cell 8,h1.cell 9,h1.cell 10,h1.cell 11,h1.cell 12,h1.cell 13,h2.cell 0,h2.cell 1⟩:w'.cell? ⟨w1.heap.size,0,none⟩=some (.int .i64 m.kind)∧w'.cell? ⟨w1.heap.size,1,none⟩=some (.int .u64 m.epoch)∧w'.cell? ⟨w1.heap.size,2,none⟩=some (.int .u64 m.seq)∧w'.cell? ⟨w1.heap.size,3,none⟩=some (.int .u64 m.pos)∧w'.cell? ⟨w1.heap.size,4,none⟩=some (.int .i64 m.count)∧w'.cell? ⟨w1.heap.size,5,none⟩=some (.int .i64 m.state)∧w'.cell? ⟨w1.heap.size,6,none⟩=some (.slice a1 m.streams.length a1')∧w'.cell? ⟨w1.heap.size,7,none⟩=some (.slice a2 m.links.length a2')∧w'.cell? ⟨w1.heap.size,8,none⟩=some (.slice a3 m.data.length a3')∧w'.cell? ⟨w1.heap.size,9,none⟩=some (.int .u64 m.sea.epoch)∧w'.cell? ⟨w1.heap.size,10,none⟩=some (.int .u64 m.sea.node)∧w'.cell? ⟨w1.heap.size,11,none⟩=some (.int .u64 m.sea.tail)∧w'.cell? ⟨w1.heap.size,12,none⟩=some (.int .u64 m.proj.epoch)∧w'.cell? ⟨w1.heap.size,13,none⟩=some (.slice a4 m.proj.stripes.length a4')∧w'.cell? ⟨(w1.heap.size+1),0,none⟩=some (.int .i64 k)∧w'.cell? ⟨(w1.heap.size+1),1,none⟩=some (.int .i64 f)));have HS:=hid (SK.out w3 hE3 hF3);obtain⟨r0,r1,r2,r3,r4,r5,r6,r7,r8,r9,r10,r11,r12,r13,lr⟩:=AJ hM;obtain⟨g0,g1,g2,g3,g4,g5,g6,g7,g8,g9,g10,g11,g12,g13⟩:=Be hM;obtain⟨z0,z1,z2,z3,z4⟩:=A1 hF
   (try clear y0 y1 y2 y3 y4 y5 y6 y7 y8 y9 y10 y11 y12 y13 ly)
   (try clear f0 f1 f2 f3 f4)
   go_wp2_with fail;refine AW (S:=fun w'=>w'.cell? ⟨w1.heap.size,0,none⟩=some (.int .i64 m.kind)∧w'.cell? ⟨w1.heap.size,1,none⟩=some (.int .u64 m.epoch)∧w'.cell? ⟨w1.heap.size,2,none⟩=some (.int .u64 m.seq)∧w'.cell? ⟨w1.heap.size,3,none⟩=some (.int .u64 m.pos)∧w'.cell? ⟨w1.heap.size,4,none⟩=some (.int .i64 m.count)∧w'.cell? ⟨w1.heap.size,5,none⟩=some (.int .i64 m.state)∧w'.cell? ⟨w1.heap.size,6,none⟩=some (.slice a1 m.streams.length a1')∧w'.cell? ⟨w1.heap.size,7,none⟩=some (.slice a2 m.links.length a2')∧w'.cell? ⟨w1.heap.size,8,none⟩=some (.slice a3 m.data.length a3')∧w'.cell? ⟨w1.heap.size,9,none⟩=some (.int .u64 m.sea.epoch)∧w'.cell? ⟨w1.heap.size,10,none⟩=some (.int .u64 m.sea.node)∧w'.cell? ⟨w1.heap.size,11,none⟩=some (.int .u64 m.sea.tail)∧w'.cell? ⟨w1.heap.size,12,none⟩=some (.int .u64 m.proj.epoch)∧w'.cell? ⟨w1.heap.size,13,none⟩=some (.slice a4 m.proj.stripes.length a4')∧w'.cell? ⟨(w1.heap.size+1),0,none⟩=some (.int .i64 k)∧w'.cell? ⟨(w1.heap.size+1),1,none⟩=some (.int .i64 f)) zL HS.out (fun hHeld=> ?_);refine Al (i:=0) (oi:=_) (v:=?_) rfl zG zG zG (fun _ _ _ h=>h) (Or.inl ⟨zT,?_⟩) zN ?_;rotate_left
   ·(intro w hSw;(try dsimp only at hSw);go_simp<;>with_reducible rfl)
   (try simp only[Act.put,Aa,Ab,Ac])
   refine Al (i:=1) (oi:=_) (v:=?_) rfl zG zG zG (fun _ _ _ h=>h) (Or.inl ⟨zT,?_⟩) zN ?_;rotate_left
   ·(intro w hSw;(try dsimp only at hSw);go_simp<;>with_reducible rfl)
   (try simp only[Act.put,Aa,Ab,Ac])
   refine Al (i:=2) (oi:=_) (v:=?_) rfl zG zG zG (fun _ _ _ h=>h) (Or.inl ⟨zT,?_⟩) zN ?_;rotate_left
   ·(intro w hSw;(try dsimp only at hSw);go_simp<;>with_reducible rfl)
   (try simp only[Act.put,Aa,Ab,Ac])
   generalize w3.drew=wd at*;refine AF (rs:=[3]) zG zP ?_;refine Ax (o:=_) rfl (fun K hK=> ?_) AllReadyH.nil;go_simp
   refine hK.out _ _ ?_ (fun hHeld=> ?_)
   ·exact SK.out _ zF zF
   clear hK K
   (try simp only[Act.put,Aa,Ab,Ac])
   refine Al (i:=4) (oi:=_) (v:=?_) rfl zG zG zG (fun _ _ _ h=>h) (Or.inl ⟨zT,?_⟩) zN ?_;rotate_left
   ·(intro w hSw;(try dsimp only at hSw);go_simp<;>with_reducible rfl)
   (try simp only[Act.put,Aa,Ab,Ac])
   refine AF (rs:=[5]) zG zP ?_;refine Ax (o:=_) rfl (fun K hK=> ?_) AllReadyH.nil;go_simp
   refine hK.out _ _ ?_ (fun hHeld=> ?_)
   ·exact SK.out _ zF zF
   clear hK K
   (try simp only[Act.put,Aa,Ab,Ac])
   (try simp only[AE,Az,AA,Act.put,Aa,Ab,Ac])
   refine Bp zL ?_ _;go_wp2_with fail;have hput:=CI (k:=.int .i64 k) (f:=.int .i64 f) (v0:=.int .i64 m.kind) (v1:=.int .u64 m.epoch) (v2:=.int .u64 m.seq) (v3:=.int .u64 m.pos) (v4:=.int .i64 m.count) (v5:=.int .i64 m.state) (v6:=.slice a1 m.streams.length a1') (v7:=.slice a2 m.links.length a2') (v8:=.slice a3 m.data.length a3') (v9:=.int .u64 m.sea.epoch) (v10:=.int .u64 m.sea.node) (v11:=.int .u64 m.sea.tail) (v12:=.int .u64 m.proj.epoch) (v13:=.slice a4 m.proj.stripes.length a4') hM hF zD;refine A9 (fun W=>Blk W w.heap.size 32 Vy∧Blk W (w.heap.size+1) 58 #[.int .i64 k,.int .i64 f]∧Tch (fun b=>b=w.heap.size∨b=w.heap.size+1) wd W) hput ?_;intro W5 ⟨q5,p5,ht5⟩;obtain⟨n0,n1,n2,n3,n4,n5,n6,n7,n8,n9,n10,n11,n12,n13,ln⟩:=AJ q5;obtain⟨p0,p1,p2,p3,p4⟩:=A1 p5;have hz5:=ht5.size;refine Af (v:=.tuple #[.agg Vy,.bool q,.agg #[.int .i64 k,.int .i64 f]]) ZV rfl ⟨a1,a1',a2,a2',a3,a3',a4,a4',rfl,AH.BI XD.out (fun q hq=>ht5.block q zD zD) (fun q hq=>⟨zD,zD⟩),hbl.trans (ht5.Ba hbl.size fun b hb e=>zD)⟩
 ·rw[Ak hk] at hZ
  rw[Ad hk] at HGD;simp only[A7] at hZ;obtain⟨rfl,rfl,rfl,rfl⟩:=hZ;clear hk;refine (HGD.out _).mono ?_;rintro r w3 ⟨rfl,hb3⟩;have HI3:=hid (HI2.out.row hb3);have hE3:=E2.later hb3;have hF3:=F2.later hb3;have l3:=Am l2 hb3.size;have X3:=hid (AH.BI X2.out (fun q hq=>hb3.block q zD) (fun q hq=>hq));clear hb3 HI2 X2 E2 F2;have hM:=HI3.out.mb.drew;have hF:=HI3.out.fb.drew;have hbl:=HI3.out.bl.drew;have hEd:=(hE3).drew;have hFd:=(hF3).drew;have XD:=hid (AH.BI (w':=w3.drew) X3.out (fun q hq=>rfl) (fun q hq=>hq));have ld:w1.heap.size+1<w3.drew.heap.size:=l3;have SK:=hid (fun (w':World) (h1:Blk w' w1.heap.size 32 #[.int .i64 m.kind,.int .u64 m.epoch,.int .u64 m.seq,.int .u64 m.pos,.int .i64 m.count,.int .i64 m.state,.slice a1 m.streams.length a1',.slice a2 m.links.length a2',.slice a3 m.data.length a3',.int .u64 m.sea.epoch,.int .u64 m.sea.node,.int .u64 m.sea.tail,.int .u64 m.proj.epoch,.slice a4 m.proj.stripes.length a4']) (h2:Blk w' (w1.heap.size+1) 58 #[.int .i64 k,.int .i64 f])=>(⟨h1.cell 0,h1.cell 1,h1.cell 2,h1.cell 3,h1.cell 4,h1.cell 5,h1.cell 6,h1.cell 7,h1.cell 8,h1.cell 9,h1.cell 10,h1.cell 11,h1.cell 12,h1.cell 13,h2.cell 0,h2.cell 1⟩:w'.cell? ⟨w1.heap.size,0,none⟩=some (.int .i64 m.kind)∧w'.cell? ⟨w1.heap.size,1,none⟩=some (.int .u64 m.epoch)∧w'.cell? ⟨w1.heap.size,2,none⟩=some (.int .u64 m.seq)∧w'.cell? ⟨w1.heap.size,3,none⟩=some (.int .u64 m.pos)∧w'.cell? ⟨w1.heap.size,4,none⟩=some (.int .i64 m.count)∧w'.cell? ⟨w1.heap.size,5,none⟩=some (.int .i64 m.state)∧w'.cell? ⟨w1.heap.size,6,none⟩=some (.slice a1 m.streams.length a1')∧w'.cell? ⟨w1.heap.size,7,none⟩=some (.slice a2 m.links.length a2')∧w'.cell? ⟨w1.heap.size,8,none⟩=some (.slice a3 m.data.length a3')∧w'.cell? ⟨w1.heap.size,9,none⟩=some (.int .u64 m.sea.epoch)∧w'.cell? ⟨w1.heap.size,10,none⟩=some (.int .u64 m.sea.node)∧w'.cell? ⟨w1.heap.size,11,none⟩=some (.int .u64 m.sea.tail)∧w'.cell? ⟨w1.heap.size,12,none⟩=some (.int .u64 m.proj.epoch)∧w'.cell? ⟨w1.heap.size,13,none⟩=some (.slice a4 m.proj.stripes.length a4')∧w'.cell? ⟨(w1.heap.size+1),0,none⟩=some (.int .i64 k)∧w'.cell? ⟨(w1.heap.size+1),1,none⟩=some (.int .i64 f)));have HS:=hid (SK.out w3 hE3 hF3);obtain⟨r0,r1,r2,r3,r4,r5,r6,r7,r8,r9,r10,r11,r12,r13,lr⟩:=AJ hM;obtain⟨g0,g1,g2,g3,g4,g5,g6,g7,g8,g9,g10,g11,g12,g13⟩:=Be hM;obtain⟨z0,z1,z2,z3,z4⟩:=A1 hF
  (try clear y0 y1 y2 y3 y4 y5 y6 y7 y8 y9 y10 y11 y12 y13 ly)
  (try clear f0 f1 f2 f3 f4)
  go_wp2_with fail;refine AW (S:=fun w'=>w'.cell? ⟨w1.heap.size,0,none⟩=some (.int .i64 m.kind)∧w'.cell? ⟨w1.heap.size,1,none⟩=some (.int .u64 m.epoch)∧w'.cell? ⟨w1.heap.size,2,none⟩=some (.int .u64 m.seq)∧w'.cell? ⟨w1.heap.size,3,none⟩=some (.int .u64 m.pos)∧w'.cell? ⟨w1.heap.size,4,none⟩=some (.int .i64 m.count)∧w'.cell? ⟨w1.heap.size,5,none⟩=some (.int .i64 m.state)∧w'.cell? ⟨w1.heap.size,6,none⟩=some (.slice a1 m.streams.length a1')∧w'.cell? ⟨w1.heap.size,7,none⟩=some (.slice a2 m.links.length a2')∧w'.cell? ⟨w1.heap.size,8,none⟩=some (.slice a3 m.data.length a3')∧w'.cell? ⟨w1.heap.size,9,none⟩=some (.int .u64 m.sea.epoch)∧w'.cell? ⟨w1.heap.size,10,none⟩=some (.int .u64 m.sea.node)∧w'.cell? ⟨w1.heap.size,11,none⟩=some (.int .u64 m.sea.tail)∧w'.cell? ⟨w1.heap.size,12,none⟩=some (.int .u64 m.proj.epoch)∧w'.cell? ⟨w1.heap.size,13,none⟩=some (.slice a4 m.proj.stripes.length a4')∧w'.cell? ⟨(w1.heap.size+1),0,none⟩=some (.int .i64 k)∧w'.cell? ⟨(w1.heap.size+1),1,none⟩=some (.int .i64 f)) zL HS.out (fun hHeld=> ?_);refine Al (i:=0) (oi:=_) (v:=?_) rfl zG zG zG (fun _ _ _ h=>h) (Or.inl ⟨zT,?_⟩) zN ?_;rotate_left
  ·(intro w hSw;(try dsimp only at hSw);go_simp<;>with_reducible rfl)
  (try simp only[Act.put,Aa,Ab,Ac])
  refine Al (i:=1) (oi:=_) (v:=?_) rfl zG zG zG (fun _ _ _ h=>h) (Or.inl ⟨zT,?_⟩) zN ?_;rotate_left
  ·(intro w hSw;(try dsimp only at hSw);go_simp<;>with_reducible rfl)
  (try simp only[Act.put,Aa,Ab,Ac])
  generalize w3.drew=wd at*;refine AF (rs:=[2]) zG zP ?_;refine Ax (o:=_) rfl (fun K hK=> ?_) AllReadyH.nil;go_simp
  refine hK.out _ _ ?_ (fun hHeld=> ?_)
  ·exact SK.out _ zF zF
  clear hK K
  (try simp only[Act.put,Aa,Ab,Ac])
  refine Al (i:=3) (oi:=_) (v:=?_) rfl zG zG zG (fun _ _ _ h=>h) (Or.inl ⟨zT,?_⟩) zN ?_;rotate_left
  ·(intro w hSw;(try dsimp only at hSw);go_simp<;>with_reducible rfl)
  (try simp only[Act.put,Aa,Ab,Ac])
  refine AF (rs:=[4]) zG zP ?_;refine Ax (o:=_) rfl (fun K hK=> ?_) AllReadyH.nil;go_simp
  refine hK.out _ _ ?_ (fun hHeld=> ?_)
  ·exact SK.out _ zF zF
  clear hK K
  (try simp only[Act.put,Aa,Ab,Ac])
  (try simp only[AE,Az,AA,Act.put,Aa,Ab,Ac])
  refine Bp zL ?_ _;go_wp2_with fail;have hput:=CI (k:=.int .i64 k) (f:=.int .i64 f) (v0:=.int .i64 0) (v1:=.int .u64 0) (v2:=.int .u64 0) (v3:=.int .u64 0) (v4:=.int .i64 0) (v5:=.int .i64 0) (v6:=.slice none 0 0) (v7:=.slice none 0 0) (v8:=.slice none 0 0) (v9:=.int .u64 0) (v10:=.int .u64 0) (v11:=.int .u64 0) (v12:=.int .u64 0) (v13:=.slice none 0 0) hM hF zD;refine A9 (fun W=>Blk W w.heap.size 32 Vz∧Blk W (w.heap.size+1) 58 #[.int .i64 k,.int .i64 f]∧Tch (fun b=>b=w.heap.size∨b=w.heap.size+1) wd W) hput ?_;intro W5 ⟨q5,p5,ht5⟩;obtain⟨n0,n1,n2,n3,n4,n5,n6,n7,n8,n9,n10,n11,n12,n13,ln⟩:=AJ q5;obtain⟨p0,p1,p2,p3,p4⟩:=A1 p5;have hz5:=ht5.size;refine Af (v:=.tuple #[.agg Vz,.bool false,.agg #[.int .i64 k,.int .i64 f]]) ZV rfl ⟨none,0,none,0,none,0,none,0,rfl,DV,hbl.trans (ht5.Ba hbl.size fun b hb e=>zD)⟩
theorem Po(w:World)(B:List UInt8)(a:Option Addr)(c0 c:Nat)(hl:Ah.r (·<w.heap.size) w [.slice a c0 c] B)(hB:B.length≤1000000000){m:Msg}{q:Bool}(hZ:Ri B=(m,q,k,f)):
  Calls Tryz.prog 46 #[.slice a c0 c] w fun r w'=>∃a1 a1' a2 a2' a3 a3' a4 a4',r=.returned (.tuple #[.agg #[.int .i64 m.kind,.int .u64 m.epoch,.int .u64 m.seq,.int .u64 m.pos,.int .i64 m.count,.int .i64 m.state,.slice a1 m.streams.length a1',.slice a2 m.links.length a2',.slice a3 m.data.length a3',.int .u64 m.sea.epoch,.int .u64 m.sea.node,.int .u64 m.sea.tail,.int .u64 m.proj.epoch,.slice a4 m.proj.stripes.length a4'],.agg #[.int .i64 k,.int .i64 f]])∧AH (fun q=>w.heap.size≤q∧q<w'.heap.size) w' m a1 a1' a2 a2' a3 a3' a4 a4'∧Below w.heap.size w w':=by
 obtain⟨rfl,hmx,hcc,hcm⟩:=AU hl;have HGT:=hid (Mm ((w.alloc (.cells Vz 32)).alloc (.cells #[.int .i64 0,.int .i64 0] 58)) B a _ c (lift hl zA) hB _ _ _ (fun P h=>IH h) hZ);have hz00:w.heap.size+1<(((w.alloc (.cells Vz 32)).alloc (.cells #[.int .i64 0,.int .i64 0] 58))).heap.size:=zP;clear hl hZ;go_enter Tryz.func46,Tryz.ntmps46;go_wp2_with fail;refine HGT.out.mono ?_;rintro r w1 ⟨a1,a1',a2,a2',a3,a3',a4,a4',rfl,hm1,hb1⟩;have I1:Jv w w1:=⟨Blk.later zB hb1,Blk.later zB hb1,zA⟩;have hlow1:w.heap.size+1<w1.heap.size:=I1.fb.lt;have E2:Blk ((w1.alloc (.cells Vy 32)).alloc (.cells #[.int .i64 k,.int .i64 f] 58)) w1.heap.size 32 Vy:=zB;have F2:Blk ((w1.alloc (.cells Vy 32)).alloc (.cells #[.int .i64 k,.int .i64 f] 58)) (w1.heap.size+1) 58 #[.int .i64 k,.int .i64 f]:=zB;have hb2:Below w1.heap.size w1 ((w1.alloc (.cells Vy 32)).alloc (.cells #[.int .i64 k,.int .i64 f] 58)):=zA;have HI2:=hid (I1.row hb2);have X2:=hid (AH.BI (S':=fun q=>w.heap.size+1<q∧q<w1.heap.size) hm1 (fun q hq=>hb2.block q hq.2) (fun q hq=>⟨zD,hq.2⟩));have l2:w1.heap.size+1<(((w1.alloc (.cells Vy 32)).alloc (.cells #[.int .i64 k,.int .i64 f] 58))).heap.size:=zP;obtain⟨y0,y1,y2,y3,y4,y5,y6,y7,y8,y9,y10,y11,y12,y13,ly⟩:=AJ E2;obtain⟨f0,f1,f2,f3,f4⟩:=A1 F2;clear hm1 hb1 hb2 I1;go_wp2_with fail;generalize ((w1.alloc (.cells Vy 32)).alloc (.cells #[.int .i64 k,.int .i64 f] 58))=w2 at*;have hM:=HI2.out.mb.drew;have hF:=HI2.out.fb.drew;have hbl:=HI2.out.bl.drew;have hEd:=(E2).drew;have hFd:=(F2).drew;have XD:=hid (AH.BI (w':=w2.drew) X2.out (fun q hq=>rfl) (fun q hq=>hq));have ld:w1.heap.size+1<w2.drew.heap.size:=l2;have SK:=hid (fun (w':World) (h1:Blk w' w1.heap.size 32 #[.int .i64 m.kind,.int .u64 m.epoch,.int .u64 m.seq,.int .u64 m.pos,.int .i64 m.count,.int .i64 m.state,.slice a1 m.streams.length a1',.slice a2 m.links.length a2',.slice a3 m.data.length a3',.int .u64 m.sea.epoch,.int .u64 m.sea.node,.int .u64 m.sea.tail,.int .u64 m.proj.epoch,.slice a4 m.proj.stripes.length a4']) (h2:Blk w' (w1.heap.size+1) 58 #[.int .i64 k,.int .i64 f])=>(⟨h1.cell 0,h1.cell 1,h1.cell 2,h1.cell 3,h1.cell 4,h1.cell 5,h1.cell 6,h1.cell 7,h1.cell 8,h1.cell 9,h1.cell 10,h1.cell 11,h1.cell 12,h1.cell 13,h2.cell 0,h2.cell 1⟩:w'.cell? ⟨w1.heap.size,0,none⟩=some (.int .i64 m.kind)∧w'.cell? ⟨w1.heap.size,1,none⟩=some (.int .u64 m.epoch)∧w'.cell? ⟨w1.heap.size,2,none⟩=some (.int .u64 m.seq)∧w'.cell? ⟨w1.heap.size,3,none⟩=some (.int .u64 m.pos)∧w'.cell? ⟨w1.heap.size,4,none⟩=some (.int .i64 m.count)∧w'.cell? ⟨w1.heap.size,5,none⟩=some (.int .i64 m.state)∧w'.cell? ⟨w1.heap.size,6,none⟩=some (.slice a1 m.streams.length a1')∧w'.cell? ⟨w1.heap.size,7,none⟩=some (.slice a2 m.links.length a2')∧w'.cell? ⟨w1.heap.size,8,none⟩=some (.slice a3 m.data.length a3')∧w'.cell? ⟨w1.heap.size,9,none⟩=some (.int .u64 m.sea.epoch)∧w'.cell? ⟨w1.heap.size,10,none⟩=some (.int .u64 m.sea.node)∧w'.cell? ⟨w1.heap.size,11,none⟩=some (.int .u64 m.sea.tail)∧w'.cell? ⟨w1.heap.size,12,none⟩=some (.int .u64 m.proj.epoch)∧w'.cell? ⟨w1.heap.size,13,none⟩=some (.slice a4 m.proj.stripes.length a4')∧w'.cell? ⟨(w1.heap.size+1),0,none⟩=some (.int .i64 k)∧w'.cell? ⟨(w1.heap.size+1),1,none⟩=some (.int .i64 f)));have HS:=hid (SK.out w2 E2 F2);obtain⟨r0,r1,r2,r3,r4,r5,r6,r7,r8,r9,r10,r11,r12,r13,lr⟩:=AJ hM;obtain⟨g0,g1,g2,g3,g4,g5,g6,g7,g8,g9,g10,g11,g12,g13⟩:=Be hM;obtain⟨z0,z1,z2,z3,z4⟩:=A1 hF
 (try clear y0 y1 y2 y3 y4 y5 y6 y7 y8 y9 y10 y11 y12 y13 ly)
 (try clear f0 f1 f2 f3 f4)
 go_wp2_with fail;refine AW (S:=fun w'=>w'.cell? ⟨w1.heap.size,0,none⟩=some (.int .i64 m.kind)∧w'.cell? ⟨w1.heap.size,1,none⟩=some (.int .u64 m.epoch)∧w'.cell? ⟨w1.heap.size,2,none⟩=some (.int .u64 m.seq)∧w'.cell? ⟨w1.heap.size,3,none⟩=some (.int .u64 m.pos)∧w'.cell? ⟨w1.heap.size,4,none⟩=some (.int .i64 m.count)∧w'.cell? ⟨w1.heap.size,5,none⟩=some (.int .i64 m.state)∧w'.cell? ⟨w1.heap.size,6,none⟩=some (.slice a1 m.streams.length a1')∧w'.cell? ⟨w1.heap.size,7,none⟩=some (.slice a2 m.links.length a2')∧w'.cell? ⟨w1.heap.size,8,none⟩=some (.slice a3 m.data.length a3')∧w'.cell? ⟨w1.heap.size,9,none⟩=some (.int .u64 m.sea.epoch)∧w'.cell? ⟨w1.heap.size,10,none⟩=some (.int .u64 m.sea.node)∧w'.cell? ⟨w1.heap.size,11,none⟩=some (.int .u64 m.sea.tail)∧w'.cell? ⟨w1.heap.size,12,none⟩=some (.int .u64 m.proj.epoch)∧w'.cell? ⟨w1.heap.size,13,none⟩=some (.slice a4 m.proj.stripes.length a4')∧w'.cell? ⟨(w1.heap.size+1),0,none⟩=some (.int .i64 k)∧w'.cell? ⟨(w1.heap.size+1),1,none⟩=some (.int .i64 f)) zL HS.out (fun hHeld=> ?_);refine Al (i:=0) (oi:=_) (v:=?_) rfl zG zG zG (fun _ _ _ h=>h) (Or.inl ⟨zT,?_⟩) zN ?_;rotate_left
 ·(intro w hSw;(try dsimp only at hSw);go_simp<;>with_reducible rfl)
 (try simp only[Act.put,Aa,Ab,Ac])
 refine Al (i:=1) (oi:=_) (v:=?_) rfl zG zG zG (fun _ _ _ h=>h) (Or.inl ⟨zT,?_⟩) zN ?_;rotate_left
 ·(intro w hSw;(try dsimp only at hSw);go_simp<;>with_reducible rfl)
 (try simp only[Act.put,Aa,Ab,Ac])
 generalize w2.drew=wd at*;refine AF (rs:=[2]) zG zP ?_;refine Ax (o:=_) rfl (fun K hK=> ?_) AllReadyH.nil;go_simp
 refine hK.out _ _ ?_ (fun hHeld=> ?_)
 ·exact SK.out _ zF zF
 clear hK K
 (try simp only[Act.put,Aa,Ab,Ac])
 refine AF (rs:=[3]) zG zP ?_;refine Ax (o:=_) rfl (fun K hK=> ?_) AllReadyH.nil;go_simp
 refine hK.out _ _ ?_ (fun hHeld=> ?_)
 ·exact SK.out _ zF zF
 clear hK K
 (try simp only[Act.put,Aa,Ab,Ac])
 (try simp only[AE,Az,AA,Act.put,Aa,Ab,Ac])
 refine Bp zL ?_ _;go_wp2_with fail;have hput:=CI (k:=.int .i64 k) (f:=.int .i64 f) (v0:=.int .i64 m.kind) (v1:=.int .u64 m.epoch) (v2:=.int .u64 m.seq) (v3:=.int .u64 m.pos) (v4:=.int .i64 m.count) (v5:=.int .i64 m.state) (v6:=.slice a1 m.streams.length a1') (v7:=.slice a2 m.links.length a2') (v8:=.slice a3 m.data.length a3') (v9:=.int .u64 m.sea.epoch) (v10:=.int .u64 m.sea.node) (v11:=.int .u64 m.sea.tail) (v12:=.int .u64 m.proj.epoch) (v13:=.slice a4 m.proj.stripes.length a4') hM hF zD;refine A9 (fun W=>Blk W w.heap.size 32 Vy∧Blk W (w.heap.size+1) 58 #[.int .i64 k,.int .i64 f]∧Tch (fun b=>b=w.heap.size∨b=w.heap.size+1) wd W) hput ?_;intro W5 ⟨q5,p5,ht5⟩;obtain⟨n0,n1,n2,n3,n4,n5,n6,n7,n8,n9,n10,n11,n12,n13,ln⟩:=AJ q5;obtain⟨p0,p1,p2,p3,p4⟩:=A1 p5;have hz5:=ht5.size;refine Af (v:=.tuple #[.agg Vy,.agg #[.int .i64 k,.int .i64 f]]) (by simp[results,Tryz.results46,go_sem,n0,n1,n2,n3,n4,n5,n6,n7,n8,n9,n10,n11,n12,n13,p0,p1]) rfl ⟨a1,a1',a2,a2',a3,a3',a4,a4',rfl,AH.BI XD.out (fun q hq=>ht5.block q zD zD) (fun q hq=>⟨zD,zD⟩),hbl.trans (ht5.Ba hbl.size fun b hb e=>zD)⟩
theorem N2(w:World)(B:List UInt8)(a:Option Addr)(c0 c:Nat)(hl:Ah.r (·<w.heap.size) w [.slice a c0 c] B)(hB:B.length≤1000000000){m:Msg}{q:Bool}(hZ:Ez B=(m,q,n,k,f)):
  Calls Tryz.prog 52 #[.slice a c0 c] w fun r w'=>∃a1 a1' a2 a2' a3 a3' a4 a4',r=.returned (.tuple #[.agg #[.int .i64 m.kind,.int .u64 m.epoch,.int .u64 m.seq,.int .u64 m.pos,.int .i64 m.count,.int .i64 m.state,.slice a1 m.streams.length a1',.slice a2 m.links.length a2',.slice a3 m.data.length a3',.int .u64 m.sea.epoch,.int .u64 m.sea.node,.int .u64 m.sea.tail,.int .u64 m.proj.epoch,.slice a4 m.proj.stripes.length a4'],.int .i64 (n:Int),.agg #[.int .i64 k,.int .i64 f]])∧AH (fun q=>w.heap.size≤q∧q<w'.heap.size) w' m a1 a1' a2 a2' a3 a3' a4 a4'∧Below w.heap.size w w':=by
 obtain⟨rfl,hmx,hcc,hcm⟩:=AU hl;have HGT:=hid (Q9 ((w.alloc (.cells Vz 32)).alloc (.cells #[.int .i64 0,.int .i64 0] 58)) B a _ c (lift hl zA) hB _ _ _ (fun P h=>IH h) hZ);have hz00:w.heap.size+1<(((w.alloc (.cells Vz 32)).alloc (.cells #[.int .i64 0,.int .i64 0] 58))).heap.size:=zP;clear hl hZ;go_enter Tryz.func52,Tryz.ntmps52;go_wp2_with fail;refine HGT.out.mono ?_;rintro r w1 ⟨a1,a1',a2,a2',a3,a3',a4,a4',rfl,hm1,hb1⟩;have I1:Jv w w1:=⟨Blk.later zB hb1,Blk.later zB hb1,zA⟩;have hlow1:w.heap.size+1<w1.heap.size:=I1.fb.lt;have E2:Blk ((w1.alloc (.cells Vy 32)).alloc (.cells #[.int .i64 k,.int .i64 f] 58)) w1.heap.size 32 Vy:=zB;have F2:Blk ((w1.alloc (.cells Vy 32)).alloc (.cells #[.int .i64 k,.int .i64 f] 58)) (w1.heap.size+1) 58 #[.int .i64 k,.int .i64 f]:=zB;have hb2:Below w1.heap.size w1 ((w1.alloc (.cells Vy 32)).alloc (.cells #[.int .i64 k,.int .i64 f] 58)):=zA;have HI2:=hid (I1.row hb2);have X2:=hid (AH.BI (S':=fun q=>w.heap.size+1<q∧q<w1.heap.size) hm1 (fun q hq=>hb2.block q hq.2) (fun q hq=>⟨zD,hq.2⟩));have l2:w1.heap.size+1<(((w1.alloc (.cells Vy 32)).alloc (.cells #[.int .i64 k,.int .i64 f] 58))).heap.size:=zP;obtain⟨y0,y1,y2,y3,y4,y5,y6,y7,y8,y9,y10,y11,y12,y13,ly⟩:=AJ E2;obtain⟨f0,f1,f2,f3,f4⟩:=A1 F2;clear hm1 hb1 hb2 I1;go_wp2_with fail;generalize ((w1.alloc (.cells Vy 32)).alloc (.cells #[.int .i64 k,.int .i64 f] 58))=w2 at*;have hM:=HI2.out.mb.drew;have hF:=HI2.out.fb.drew;have hbl:=HI2.out.bl.drew;have hEd:=(E2).drew;have hFd:=(F2).drew;have XD:=hid (AH.BI (w':=w2.drew) X2.out (fun q hq=>rfl) (fun q hq=>hq));have ld:w1.heap.size+1<w2.drew.heap.size:=l2;have SK:=hid (fun (w':World) (h1:Blk w' w1.heap.size 32 #[.int .i64 m.kind,.int .u64 m.epoch,.int .u64 m.seq,.int .u64 m.pos,.int .i64 m.count,.int .i64 m.state,.slice a1 m.streams.length a1',.slice a2 m.links.length a2',.slice a3 m.data.length a3',.int .u64 m.sea.epoch,.int .u64 m.sea.node,.int .u64 m.sea.tail,.int .u64 m.proj.epoch,.slice a4 m.proj.stripes.length a4']) (h2:Blk w' (w1.heap.size+1) 58 #[.int .i64 k,.int .i64 f])=>(⟨h1.cell 0,h1.cell 1,h1.cell 2,h1.cell 3,h1.cell 4,h1.cell 5,h1.cell 6,h1.cell 7,h1.cell 8,h1.cell 9,h1.cell 10,h1.cell 11,h1.cell 12,h1.cell 13,h2.cell 0,h2.cell 1⟩:w'.cell? ⟨w1.heap.size,0,none⟩=some (.int .i64 m.kind)∧w'.cell? ⟨w1.heap.size,1,none⟩=some (.int .u64 m.epoch)∧w'.cell? ⟨w1.heap.size,2,none⟩=some (.int .u64 m.seq)∧w'.cell? ⟨w1.heap.size,3,none⟩=some (.int .u64 m.pos)∧w'.cell? ⟨w1.heap.size,4,none⟩=some (.int .i64 m.count)∧w'.cell? ⟨w1.heap.size,5,none⟩=some (.int .i64 m.state)∧w'.cell? ⟨w1.heap.size,6,none⟩=some (.slice a1 m.streams.length a1')∧w'.cell? ⟨w1.heap.size,7,none⟩=some (.slice a2 m.links.length a2')∧w'.cell? ⟨w1.heap.size,8,none⟩=some (.slice a3 m.data.length a3')∧w'.cell? ⟨w1.heap.size,9,none⟩=some (.int .u64 m.sea.epoch)∧w'.cell? ⟨w1.heap.size,10,none⟩=some (.int .u64 m.sea.node)∧w'.cell? ⟨w1.heap.size,11,none⟩=some (.int .u64 m.sea.tail)∧w'.cell? ⟨w1.heap.size,12,none⟩=some (.int .u64 m.proj.epoch)∧w'.cell? ⟨w1.heap.size,13,none⟩=some (.slice a4 m.proj.stripes.length a4')∧w'.cell? ⟨(w1.heap.size+1),0,none⟩=some (.int .i64 k)∧w'.cell? ⟨(w1.heap.size+1),1,none⟩=some (.int .i64 f)));have HS:=hid (SK.out w2 E2 F2);obtain⟨r0,r1,r2,r3,r4,r5,r6,r7,r8,r9,r10,r11,r12,r13,lr⟩:=AJ hM;obtain⟨g0,g1,g2,g3,g4,g5,g6,g7,g8,g9,g10,g11,g12,g13⟩:=Be hM;obtain⟨z0,z1,z2,z3,z4⟩:=A1 hF
 (try clear y0 y1 y2 y3 y4 y5 y6 y7 y8 y9 y10 y11 y12 y13 ly)
 (try clear f0 f1 f2 f3 f4)
 go_wp2_with fail;refine AW (S:=fun w'=>w'.cell? ⟨w1.heap.size,0,none⟩=some (.int .i64 m.kind)∧w'.cell? ⟨w1.heap.size,1,none⟩=some (.int .u64 m.epoch)∧w'.cell? ⟨w1.heap.size,2,none⟩=some (.int .u64 m.seq)∧w'.cell? ⟨w1.heap.size,3,none⟩=some (.int .u64 m.pos)∧w'.cell? ⟨w1.heap.size,4,none⟩=some (.int .i64 m.count)∧w'.cell? ⟨w1.heap.size,5,none⟩=some (.int .i64 m.state)∧w'.cell? ⟨w1.heap.size,6,none⟩=some (.slice a1 m.streams.length a1')∧w'.cell? ⟨w1.heap.size,7,none⟩=some (.slice a2 m.links.length a2')∧w'.cell? ⟨w1.heap.size,8,none⟩=some (.slice a3 m.data.length a3')∧w'.cell? ⟨w1.heap.size,9,none⟩=some (.int .u64 m.sea.epoch)∧w'.cell? ⟨w1.heap.size,10,none⟩=some (.int .u64 m.sea.node)∧w'.cell? ⟨w1.heap.size,11,none⟩=some (.int .u64 m.sea.tail)∧w'.cell? ⟨w1.heap.size,12,none⟩=some (.int .u64 m.proj.epoch)∧w'.cell? ⟨w1.heap.size,13,none⟩=some (.slice a4 m.proj.stripes.length a4')∧w'.cell? ⟨(w1.heap.size+1),0,none⟩=some (.int .i64 k)∧w'.cell? ⟨(w1.heap.size+1),1,none⟩=some (.int .i64 f)) zL HS.out (fun hHeld=> ?_);refine Al (i:=0) (oi:=_) (v:=?_) rfl zG zG zG (fun _ _ _ h=>h) (Or.inl ⟨zT,?_⟩) zN ?_;rotate_left
 ·(intro w hSw;(try dsimp only at hSw);go_simp<;>with_reducible rfl)
 (try simp only[Act.put,Aa,Ab,Ac])
 refine Al (i:=1) (oi:=_) (v:=?_) rfl zG zG zG (fun _ _ _ h=>h) (Or.inl ⟨zT,?_⟩) zN ?_;rotate_left
 ·(intro w hSw;(try dsimp only at hSw);go_simp<;>with_reducible rfl)
 (try simp only[Act.put,Aa,Ab,Ac])
 refine Al (i:=2) (oi:=_) (v:=?_) rfl zG zG zG (fun _ _ _ h=>h) (Or.inl ⟨zT,?_⟩) zN ?_;rotate_left
 ·(intro w hSw;(try dsimp only at hSw);go_simp<;>with_reducible rfl)
 (try simp only[Act.put,Aa,Ab,Ac])
 generalize w2.drew=wd at*;refine AF (rs:=[3]) zG zP ?_;refine Ax (o:=_) rfl (fun K hK=> ?_) AllReadyH.nil;go_simp
 refine hK.out _ _ ?_ (fun hHeld=> ?_)
 ·exact SK.out _ zF zF
 clear hK K
 (try simp only[Act.put,Aa,Ab,Ac])
 refine Al (i:=4) (oi:=_) (v:=?_) rfl zG zG zG (fun _ _ _ h=>h) (Or.inl ⟨zT,?_⟩) zN ?_;rotate_left
 ·(intro w hSw;(try dsimp only at hSw);go_simp<;>with_reducible rfl)
 (try simp only[Act.put,Aa,Ab,Ac])
 refine AF (rs:=[5]) zG zP ?_;refine Ax (o:=_) rfl (fun K hK=> ?_) AllReadyH.nil;go_simp
 refine hK.out _ _ ?_ (fun hHeld=> ?_)
 ·exact SK.out _ zF zF
 clear hK K
 (try simp only[Act.put,Aa,Ab,Ac])
 (try simp only[AE,Az,AA,Act.put,Aa,Ab,Ac])
 refine Bp zL ?_ _;go_wp2_with fail;have hput:=CI (k:=.int .i64 k) (f:=.int .i64 f) (v0:=.int .i64 m.kind) (v1:=.int .u64 m.epoch) (v2:=.int .u64 m.seq) (v3:=.int .u64 m.pos) (v4:=.int .i64 m.count) (v5:=.int .i64 m.state) (v6:=.slice a1 m.streams.length a1') (v7:=.slice a2 m.links.length a2') (v8:=.slice a3 m.data.length a3') (v9:=.int .u64 m.sea.epoch) (v10:=.int .u64 m.sea.node) (v11:=.int .u64 m.sea.tail) (v12:=.int .u64 m.proj.epoch) (v13:=.slice a4 m.proj.stripes.length a4') hM hF zD;refine A9 (fun W=>Blk W w.heap.size 32 Vy∧Blk W (w.heap.size+1) 58 #[.int .i64 k,.int .i64 f]∧Tch (fun b=>b=w.heap.size∨b=w.heap.size+1) wd W) hput ?_;intro W5 ⟨q5,p5,ht5⟩;obtain⟨n0,n1,n2,n3,n4,n5,n6,n7,n8,n9,n10,n11,n12,n13,ln⟩:=AJ q5;obtain⟨p0,p1,p2,p3,p4⟩:=A1 p5;have hz5:=ht5.size;refine Af (v:=.tuple #[.agg Vy,.int .i64 (n:Int),.agg #[.int .i64 k,.int .i64 f]]) (by simp[results,Tryz.results52,go_sem,n0,n1,n2,n3,n4,n5,n6,n7,n8,n9,n10,n11,n12,n13,p0,p1]) rfl ⟨a1,a1',a2,a2',a3,a3',a4,a4',rfl,AH.BI XD.out (fun q hq=>ht5.block q zD zD) (fun q hq=>⟨zD,zD⟩),hbl.trans (ht5.Ba hbl.size fun b hb e=>zD)⟩
theorem Kx(w:World)(B:List UInt8)(a:Option Addr)(c0 c:Nat)(hl:Ah.r (·<w.heap.size) w [.slice a c0 c] B)(hB:B.length≤1000000000){m:Msg}{q:Bool}(hZ:Eb B (CG B) flS=(m,q,k,f)):
  Calls Tryz.prog 50 #[.slice a c0 c] w fun r w'=>∃a1 a1' a2 a2' a3 a3' a4 a4',r=.returned (.tuple #[.agg #[.int .i64 m.kind,.int .u64 m.epoch,.int .u64 m.seq,.int .u64 m.pos,.int .i64 m.count,.int .i64 m.state,.slice a1 m.streams.length a1',.slice a2 m.links.length a2',.slice a3 m.data.length a3',.int .u64 m.sea.epoch,.int .u64 m.sea.node,.int .u64 m.sea.tail,.int .u64 m.proj.epoch,.slice a4 m.proj.stripes.length a4'],.agg #[.int .i64 k,.int .i64 f]])∧AH (fun q=>w.heap.size≤q∧q<w'.heap.size) w' m a1 a1' a2 a2' a3 a3' a4 a4'∧Below w.heap.size w w':=by
 obtain⟨rfl,hmx,hcc,hcm⟩:=AU hl;have HGT:=hid (NZ ((w.alloc (.cells Vz 32)).alloc (.cells #[.int .i64 0,.int .i64 0] 58)) B a _ c (lift hl zA) hB _ _ _ (IH hB) hZ);have hz00:w.heap.size+1<(((w.alloc (.cells Vz 32)).alloc (.cells #[.int .i64 0,.int .i64 0] 58))).heap.size:=zP;clear hl hZ;go_enter Tryz.func50,Tryz.ntmps50;go_wp2_with fail;refine HGT.out.mono ?_;rintro r w1 ⟨a1,a1',a2,a2',a3,a3',a4,a4',rfl,hm1,hb1⟩;have I1:Jv w w1:=⟨Blk.later zB hb1,Blk.later zB hb1,zA⟩;have hlow1:w.heap.size+1<w1.heap.size:=I1.fb.lt;have E2:Blk ((w1.alloc (.cells Vy 32)).alloc (.cells #[.int .i64 k,.int .i64 f] 58)) w1.heap.size 32 Vy:=zB;have F2:Blk ((w1.alloc (.cells Vy 32)).alloc (.cells #[.int .i64 k,.int .i64 f] 58)) (w1.heap.size+1) 58 #[.int .i64 k,.int .i64 f]:=zB;have hb2:Below w1.heap.size w1 ((w1.alloc (.cells Vy 32)).alloc (.cells #[.int .i64 k,.int .i64 f] 58)):=zA;have HI2:=hid (I1.row hb2);have X2:=hid (AH.BI (S':=fun q=>w.heap.size+1<q∧q<w1.heap.size) hm1 (fun q hq=>hb2.block q hq.2) (fun q hq=>⟨zD,hq.2⟩));have l2:w1.heap.size+1<(((w1.alloc (.cells Vy 32)).alloc (.cells #[.int .i64 k,.int .i64 f] 58))).heap.size:=zP;obtain⟨y0,y1,y2,y3,y4,y5,y6,y7,y8,y9,y10,y11,y12,y13,ly⟩:=AJ E2;obtain⟨f0,f1,f2,f3,f4⟩:=A1 F2;clear hm1 hb1 hb2 I1;go_wp2_with fail;generalize ((w1.alloc (.cells Vy 32)).alloc (.cells #[.int .i64 k,.int .i64 f] 58))=w2 at*;have hM:=HI2.out.mb.drew;have hF:=HI2.out.fb.drew;have hbl:=HI2.out.bl.drew;have hEd:=(E2).drew;have hFd:=(F2).drew;have XD:=hid (AH.BI (w':=w2.drew) X2.out (fun q hq=>rfl) (fun q hq=>hq));have ld:w1.heap.size+1<w2.drew.heap.size:=l2;have SK:=hid (fun (w':World) (h1:Blk w' w1.heap.size 32 #[.int .i64 m.kind,.int .u64 m.epoch,.int .u64 m.seq,.int .u64 m.pos,.int .i64 m.count,.int .i64 m.state,.slice a1 m.streams.length a1',.slice a2 m.links.length a2',.slice a3 m.data.length a3',.int .u64 m.sea.epoch,.int .u64 m.sea.node,.int .u64 m.sea.tail,.int .u64 m.proj.epoch,.slice a4 m.proj.stripes.length a4']) (h2:Blk w' (w1.heap.size+1) 58 #[.int .i64 k,.int .i64 f])=>(⟨h1.cell 0,h1.cell 1,h1.cell 2,h1.cell 3,h1.cell 4,h1.cell 5,h1.cell 6,h1.cell 7,h1.cell 8,h1.cell 9,h1.cell 10,h1.cell 11,h1.cell 12,h1.cell 13,h2.cell 0,h2.cell 1⟩:w'.cell? ⟨w1.heap.size,0,none⟩=some (.int .i64 m.kind)∧w'.cell? ⟨w1.heap.size,1,none⟩=some (.int .u64 m.epoch)∧w'.cell? ⟨w1.heap.size,2,none⟩=some (.int .u64 m.seq)∧w'.cell? ⟨w1.heap.size,3,none⟩=some (.int .u64 m.pos)∧w'.cell? ⟨w1.heap.size,4,none⟩=some (.int .i64 m.count)∧w'.cell? ⟨w1.heap.size,5,none⟩=some (.int .i64 m.state)∧w'.cell? ⟨w1.heap.size,6,none⟩=some (.slice a1 m.streams.length a1')∧w'.cell? ⟨w1.heap.size,7,none⟩=some (.slice a2 m.links.length a2')∧w'.cell? ⟨w1.heap.size,8,none⟩=some (.slice a3 m.data.length a3')∧w'.cell? ⟨w1.heap.size,9,none⟩=some (.int .u64 m.sea.epoch)∧w'.cell? ⟨w1.heap.size,10,none⟩=some (.int .u64 m.sea.node)∧w'.cell? ⟨w1.heap.size,11,none⟩=some (.int .u64 m.sea.tail)∧w'.cell? ⟨w1.heap.size,12,none⟩=some (.int .u64 m.proj.epoch)∧w'.cell? ⟨w1.heap.size,13,none⟩=some (.slice a4 m.proj.stripes.length a4')∧w'.cell? ⟨(w1.heap.size+1),0,none⟩=some (.int .i64 k)∧w'.cell? ⟨(w1.heap.size+1),1,none⟩=some (.int .i64 f)));have HS:=hid (SK.out w2 E2 F2);obtain⟨r0,r1,r2,r3,r4,r5,r6,r7,r8,r9,r10,r11,r12,r13,lr⟩:=AJ hM;obtain⟨g0,g1,g2,g3,g4,g5,g6,g7,g8,g9,g10,g11,g12,g13⟩:=Be hM;obtain⟨z0,z1,z2,z3,z4⟩:=A1 hF
 (try clear y0 y1 y2 y3 y4 y5 y6 y7 y8 y9 y10 y11 y12 y13 ly)
 (try clear f0 f1 f2 f3 f4)
 go_wp2_with fail;refine AW (S:=fun w'=>w'.cell? ⟨w1.heap.size,0,none⟩=some (.int .i64 m.kind)∧w'.cell? ⟨w1.heap.size,1,none⟩=some (.int .u64 m.epoch)∧w'.cell? ⟨w1.heap.size,2,none⟩=some (.int .u64 m.seq)∧w'.cell? ⟨w1.heap.size,3,none⟩=some (.int .u64 m.pos)∧w'.cell? ⟨w1.heap.size,4,none⟩=some (.int .i64 m.count)∧w'.cell? ⟨w1.heap.size,5,none⟩=some (.int .i64 m.state)∧w'.cell? ⟨w1.heap.size,6,none⟩=some (.slice a1 m.streams.length a1')∧w'.cell? ⟨w1.heap.size,7,none⟩=some (.slice a2 m.links.length a2')∧w'.cell? ⟨w1.heap.size,8,none⟩=some (.slice a3 m.data.length a3')∧w'.cell? ⟨w1.heap.size,9,none⟩=some (.int .u64 m.sea.epoch)∧w'.cell? ⟨w1.heap.size,10,none⟩=some (.int .u64 m.sea.node)∧w'.cell? ⟨w1.heap.size,11,none⟩=some (.int .u64 m.sea.tail)∧w'.cell? ⟨w1.heap.size,12,none⟩=some (.int .u64 m.proj.epoch)∧w'.cell? ⟨w1.heap.size,13,none⟩=some (.slice a4 m.proj.stripes.length a4')∧w'.cell? ⟨(w1.heap.size+1),0,none⟩=some (.int .i64 k)∧w'.cell? ⟨(w1.heap.size+1),1,none⟩=some (.int .i64 f)) zL HS.out (fun hHeld=> ?_);refine Al (i:=0) (oi:=_) (v:=?_) rfl zG zG zG (fun _ _ _ h=>h) (Or.inl ⟨zT,?_⟩) zN ?_;rotate_left
 ·(intro w hSw;(try dsimp only at hSw);go_simp<;>with_reducible rfl)
 (try simp only[Act.put,Aa,Ab,Ac])
 refine Al (i:=1) (oi:=_) (v:=?_) rfl zG zG zG (fun _ _ _ h=>h) (Or.inl ⟨zT,?_⟩) zN ?_;rotate_left
 ·(intro w hSw;(try dsimp only at hSw);go_simp<;>with_reducible rfl)
 (try simp only[Act.put,Aa,Ab,Ac])
 generalize w2.drew=wd at*;refine AF (rs:=[2]) zG zP ?_;refine Ax (o:=_) rfl (fun K hK=> ?_) AllReadyH.nil;go_simp
 refine hK.out _ _ ?_ (fun hHeld=> ?_)
 ·exact SK.out _ zF zF
 clear hK K
 (try simp only[Act.put,Aa,Ab,Ac])
 refine AF (rs:=[3]) zG zP ?_;refine Ax (o:=_) rfl (fun K hK=> ?_) AllReadyH.nil;go_simp
 refine hK.out _ _ ?_ (fun hHeld=> ?_)
 ·exact SK.out _ zF zF
 clear hK K
 (try simp only[Act.put,Aa,Ab,Ac])
 (try simp only[AE,Az,AA,Act.put,Aa,Ab,Ac])
 refine Bp zL ?_ _;go_wp2_with fail;have hput:=CI (k:=.int .i64 k) (f:=.int .i64 f) (v0:=.int .i64 m.kind) (v1:=.int .u64 m.epoch) (v2:=.int .u64 m.seq) (v3:=.int .u64 m.pos) (v4:=.int .i64 m.count) (v5:=.int .i64 m.state) (v6:=.slice a1 m.streams.length a1') (v7:=.slice a2 m.links.length a2') (v8:=.slice a3 m.data.length a3') (v9:=.int .u64 m.sea.epoch) (v10:=.int .u64 m.sea.node) (v11:=.int .u64 m.sea.tail) (v12:=.int .u64 m.proj.epoch) (v13:=.slice a4 m.proj.stripes.length a4') hM hF zD;refine A9 (fun W=>Blk W w.heap.size 32 Vy∧Blk W (w.heap.size+1) 58 #[.int .i64 k,.int .i64 f]∧Tch (fun b=>b=w.heap.size∨b=w.heap.size+1) wd W) hput ?_;intro W5 ⟨q5,p5,ht5⟩;obtain⟨n0,n1,n2,n3,n4,n5,n6,n7,n8,n9,n10,n11,n12,n13,ln⟩:=AJ q5;obtain⟨p0,p1,p2,p3,p4⟩:=A1 p5;have hz5:=ht5.size;refine Af (v:=.tuple #[.agg Vy,.agg #[.int .i64 k,.int .i64 f]]) (by simp[results,Tryz.results50,go_sem,n0,n1,n2,n3,n4,n5,n6,n7,n8,n9,n10,n11,n12,n13,p0,p1]) rfl ⟨a1,a1',a2,a2',a3,a3',a4,a4',rfl,AH.BI XD.out (fun q hq=>ht5.block q zD zD) (fun q hq=>⟨zD,zD⟩),hbl.trans (ht5.Ba hbl.size fun b hb e=>zD)⟩
theorem Ky(w:World)(B:List UInt8)(a:Option Addr)(c0 c:Nat)(hl:Ah.r (·<w.heap.size) w [.slice a c0 c] B)(hB:B.length≤1000000000){m:Msg}{q:Bool}(hZ:UH B=(m,q,k,f)):
  Calls Tryz.prog 48 #[.slice a c0 c] w fun r w'=>∃a1 a1' a2 a2' a3 a3' a4 a4',r=.returned (.tuple #[.agg #[.int .i64 m.kind,.int .u64 m.epoch,.int .u64 m.seq,.int .u64 m.pos,.int .i64 m.count,.int .i64 m.state,.slice a1 m.streams.length a1',.slice a2 m.links.length a2',.slice a3 m.data.length a3',.int .u64 m.sea.epoch,.int .u64 m.sea.node,.int .u64 m.sea.tail,.int .u64 m.proj.epoch,.slice a4 m.proj.stripes.length a4'],.bool q,.agg #[.int .i64 k,.int .i64 f]])∧AH (fun q=>w.heap.size≤q∧q<w'.heap.size) w' m a1 a1' a2 a2' a3 a3' a4 a4'∧Below w.heap.size w w':=by
 obtain⟨rfl,hmx,hcc,hcm⟩:=AU hl;have HGT:=hid (Mm ((w.alloc (.cells Vz 32)).alloc (.cells #[.int .i64 0,.int .i64 0] 58)) B a _ c (lift hl zA) hB _ _ _ (fun P h=>RN h) hZ);have hz00:w.heap.size+1<(((w.alloc (.cells Vz 32)).alloc (.cells #[.int .i64 0,.int .i64 0] 58))).heap.size:=zP;clear hl hZ;go_enter Tryz.func48,Tryz.ntmps48;go_wp2_with fail;refine HGT.out.mono ?_;rintro r w1 ⟨a1,a1',a2,a2',a3,a3',a4,a4',rfl,hm1,hb1⟩;have I1:Jv w w1:=⟨Blk.later zB hb1,Blk.later zB hb1,zA⟩;have hM:=I1.mb;have hF:=I1.fb;have hbl:=I1.bl;have hsz1:=hb1.size;obtain⟨r0,r1,r2,r3,r4,r5,r6,r7,r8,r9,r10,r11,r12,r13,lr⟩:=AJ hM;obtain⟨g0,g1,g2,g3,g4,g5,g6,g7,g8,g9,g10,g11,g12,g13⟩:=Be hM;obtain⟨z0,z1,z2,z3,z4⟩:=A1 hF;have X1:=hid (AH.BI (S':=fun q=>w.heap.size+1<q∧q<w1.heap.size) hm1 (fun q hq=>rfl) (fun q hq=>⟨zD,hq.2⟩));clear hb1 I1 hm1;go_wp2_with fail;have hput:=CI (k:=.int .i64 k) (f:=.int .i64 f) (v0:=.int .i64 m.kind) (v1:=.int .u64 m.epoch) (v2:=.int .u64 m.seq) (v3:=.int .u64 m.pos) (v4:=.int .i64 m.count) (v5:=.int .i64 m.state) (v6:=.slice a1 m.streams.length a1') (v7:=.slice a2 m.links.length a2') (v8:=.slice a3 m.data.length a3') (v9:=.int .u64 m.sea.epoch) (v10:=.int .u64 m.sea.node) (v11:=.int .u64 m.sea.tail) (v12:=.int .u64 m.proj.epoch) (v13:=.slice a4 m.proj.stripes.length a4') hM hF zD;refine A9 (fun W=>Blk W w.heap.size 32 Vy∧Blk W (w.heap.size+1) 58 #[.int .i64 k,.int .i64 f]∧Tch (fun b=>b=w.heap.size∨b=w.heap.size+1) w1 W) hput ?_;intro W5 ⟨q5,p5,ht5⟩;obtain⟨n0,n1,n2,n3,n4,n5,n6,n7,n8,n9,n10,n11,n12,n13,ln⟩:=AJ q5;obtain⟨p0,p1,p2,p3,p4⟩:=A1 p5;have hz5:=ht5.size;refine Af (v:=.tuple #[.agg Vy,.bool q,.agg #[.int .i64 k,.int .i64 f]]) (by simp[results,Tryz.results48,go_sem,n0,n1,n2,n3,n4,n5,n6,n7,n8,n9,n10,n11,n12,n13,p0,p1]) rfl ⟨a1,a1',a2,a2',a3,a3',a4,a4',rfl,AH.BI X1.out (fun q hq=>ht5.block q zD zD) (fun q hq=>⟨zD,zD⟩),hbl.trans (ht5.Ba hbl.size fun b hb e=>zD)⟩
end Go.Proofs.YtlbffbkbkajciaaGreat
namespace Go.Bs
variable{c i n:Nat}{S:Nat → Prop}{a:Option Addr}{w:World}
def LV(m:Msg):Bool:=JL m&&epR m.epoch
end Go.Bs
namespace Go.Proofs.YtlbffbkbkajciaaGreat
open Go.RowKit Go.Bs Go.Maps
variable{qx:Bool}{f fx k kx:Int}{B J:List UInt8}{xs:List Value}{m:Msg}{base c c1 c2 c3 c4 g most n sz:Nat}{S:Nat → Prop}{a a1 a2 a3 a4:Option Addr}{e:TypeId}{v:Value}{w w1:World}
def Nk(m:Msg):List UInt8:=[UInt8.ofNat m.kind.toNat]++A5 m.epoch.toNat++A5 m.seq.toNat++IK m
def Hu(m:Msg):List UInt8 × Int:=if LV m=true then (Nk m,0) else ([],3)
theorem Th(h:LV m=true):(Nk m).length≤49021+m.data.length:=by
 simp only[LV,AL] at h;have h1:=Lm h.1;have h2:=(Bj m.epoch.toNat).1;have h3:=(Bj m.seq.toNat).1;unfold Nk;simp only[Au,Bo,Bz];omega
theorem RF(m:Msg)(a1:Option Addr)(c1:Nat)(a2:Option Addr)(c2:Nat)(a3:Option Addr)(c3:Nat)(a4:Option Addr)(c4:Nat)(w:World)(hm:AH (·<w.heap.size) w m a1 c1 a2 c2 a3 c3 a4 c4)(hbk:∀x∈m.links,x.backs.length≤1000000):
  Calls Tryz.prog 30 #[.agg VA] w fun r w'=>r=.returned (.bool (LV m))∧Below w.heap.size w w':=by
 have HB:=hid (fun (W:World) (hW:Below w.heap.size w W)=>LI m a1 c1 a2 c2 a3 c3 a4 c4 W (AH.lift hm hW) (fun x hx=>by have:=hbk x hx;omega));have HE:=hid (fun W:World=>Fm m.epoch W);have hr:LV m=(JL m&&epR m.epoch):=rfl;have HBX:Hid (Blk (w.alloc (.cells VA 32)) w.heap.size 32 VA):=hid (Blk.new w _ _);have hb0:Below w.heap.size w (w.alloc (.cells VA 32)):=zC;generalize LV m=R at*;generalize JL m=M at*;generalize epR m.epoch=E at*;clear hm;go_enter Tryz.func30,Tryz.ntmps30;go_wp2_with fail;generalize (w.alloc (.cells VA 32))=w0 at*;refine (HB.out _ hb0).mono ?_;rintro r w1 ⟨rfl,hb1⟩;have hb01:=Ag hb1 hb0;have y1:w1.cell? ⟨w.heap.size,1,none⟩=some (.int .u64 m.epoch):=(HBX.out.later hb1).cell 1;cases M
 ·have hff:Hid (R=false):=hid (by rw[hr];rfl)
  clear hr;go_wp2_with fail;go_ret;exact⟨zQ,hb01⟩
 ·have hff:Hid (R=E):=hid (by rw[hr];rfl)
  clear hr;go_wp2_with fail;refine (HE.out _).mono ?_;rintro r w2 ⟨rfl,rfl⟩;go_wp2_with fail;go_ret;exact⟨zQ,hb01⟩
theorem RG{α:Type}(A:Rp α){lo:Nat}{w w':World}{cs:List Value}{x:α}(h:A.r (fun q=>lo≤q∧q<w.heap.size) w cs x)(hb:Below w.heap.size w w'):A.r (fun q=>lo≤q∧q<w.heap.size) w' cs x:=
 A.keep h fun q hq=>hb.block q hq.2
theorem Vq{e:Int}(h:1≤e∧e<4611686018427387904):(A5 e.toNat).length≤9:=by
 have key:∀f x,(FM f x).length≤f+1:=by
  intro f;induction f with
  | zero=>intro x;simp[FM]
  | succ f ih=>intro x;simp only[FM];split<;>simp;exact ih _
 have he:FM 8 e.toNat=FM 9 e.toNat:=JD 8 9 _ (by have:(128:Nat)^9=9223372036854775808:=zS;omega) zD;unfold A5;rw[←he];exact key 8 _
theorem RV(w:World){g base most:Nat}{J:List UInt8}{a:Option Addr}(h:Cl w g base most J a c):
  Calls Tryz.prog 60 #[.pointer (some ⟨g,0,none⟩),.int .i64 0] w fun r w'=>r=.returned (.tuple #[])∧Ay w g base most J a w':=
 (Te w h 0).mono fun r w' ⟨h1,h2,h3⟩=>⟨h1,a,c,⟨h2,FR h.own fun q hq=>h3.block q (h.own.lt q hq).2 (fun e=>h.ne (by rw[hq,e])),h.ne,h.lo,h.le,h.most,h.len⟩,h3.mono fun b _ e=> .inl e,.inl rfl⟩
end Go.Proofs.YtlbffbkbkajciaaGreat
namespace Go.Bs
open Go.RowKit
variable{c i n:Nat}{S:Nat → Prop}{a:Option Addr}{w:World}
structure Vo where
 pos:Int
 count:Int
 at_:Int
theorem JO{n:Int}(h: -9223372036854775808≤n∧n≤9223372036854775807):(Lit.int .i64 n).wf=true:=by
 simp[Lit.wf,IntKind.min,IntKind.max,IntKind.signed,IntKind.bits];omega
end Go.Bs
namespace Go.Proofs.YtlbffbkbkajciaaGreat
open Go.RowKit Go.Bs Go.Maps
variable{qx:Bool}{f fx k kx:Int}{B J:List UInt8}{xs:List Value}{m:Msg}{base c c1 c2 c3 c4 g most n sz:Nat}{S:Nat → Prop}{a a1 a2 a3 a4:Option Addr}{e:TypeId}{v:Value}{w w1:World}
end Go.Proofs.YtlbffbkbkajciaaGreat
namespace Go.Bs
open Go.RowKit
variable{c i n:Nat}{S:Nat → Prop}{a:Option Addr}{w:World}
end Go.Bs
namespace Go.Proofs.YtlbffbkbkajciaaGreat
open Go.RowKit Go.Bs Go.Maps
variable{qx:Bool}{f fx k kx:Int}{B J:List UInt8}{xs:List Value}{m:Msg}{base c c1 c2 c3 c4 g most n sz:Nat}{S:Nat → Prop}{a a1 a2 a3 a4:Option Addr}{e:TypeId}{v:Value}{w w1:World}
theorem Ay.at(h:Ay w1 g base most J a w):∃a' c',Cl w g base most J a' c'∧(∀(J':List UInt8) (w':World),Ay w g base most J' a' w'→Ay w1 g base most J' a w'):=by
 obtain⟨a',c',h1,h2,h3⟩:=h;exact⟨a',c',h1,fun J' w' k=>Ay.trans (J:=J) h2 h3 k⟩
theorem Ay.blk(h:Ay w1 g base most J a w){b:Nat}{t:TypeId}{cs:Array Value}(hB:Blk w1 b t cs)(hn:¬DH g a b):Blk w b t cs:=by
 obtain⟨a',c',h1,h2,h3⟩:=h;exact hB.tch h2 hn
theorem Ay.tch(h:Ay w1 g base most J a w):Tch (DH g a) w1 w:=by
 obtain⟨a',c',h1,h2,h3⟩:=h;exact h2
end Go.Proofs.YtlbffbkbkajciaaGreat
namespace Go.Bs
open Go.RowKit
variable{c i n:Nat}{S:Nat → Prop}{a:Option Addr}{w:World}
structure UJ where
 ep:Int
 n:Int
 en:Int
 first:Int
 fin:Int
 at_:Int
 size:Int
def UJ.val(f:UJ):Array Value:=#[.int .u64 f.ep,.int .i64 f.n,.int .i64 f.en,.int .u64 f.first,.int .u64 f.fin,.int .i64 f.at_,.int .i64 f.size]
end Go.Bs
namespace Go.Proofs.YtlbffbkbkajciaaGreat
open Go.RowKit Go.Bs Go.Maps
variable{qx:Bool}{f fx k kx:Int}{B J:List UInt8}{xs:List Value}{m:Msg}{base c c1 c2 c3 c4 g most n sz:Nat}{S:Nat → Prop}{a a1 a2 a3 a4:Option Addr}{e:TypeId}{v:Value}{w w1:World}
section
variable {w W:World} {ep:Int} {a:Option Addr} {n c:Nat} {J:List UInt8} {M:List Vo} {aJ:Option Addr} {cJ:Nat} {aM:Option Addr} {cM:Nat}
theorem Vx.far{u:Nat}(h:W.ownsRow (w.heap.size+3) e sz v u xs){b:Nat}(hb:b<w.heap.size+3):v.ownBlock≠some b:=fun e=>by have:=(Dm h b e).1;omega
end
theorem PK(c:Nat)(hc:c<4294967296)(x:UInt8)(w:World):
  Calls Tryz.prog 243 #[.int .u32 c,.int .u8 (x.toNat:Int)] w fun r w'=>r=.returned (.int .u32 (Gj c x:Nat))∧w=w':=by
 have e1:=Ow hc x;have hcb:Hid (Gj c x=G6 8 (c^^^x.toNat)):=hid rfl;have hy:c^^^x.toNat<4294967296:=IW hc zC4;generalize c^^^x.toNat=y at*;go_enter Tryz.func243,Tryz.ntmps243;go_wp2_with fail;go_loopw [0,5] (fun s i wr=>∃k:Nat,k≤8∧i=.int .i64 k∧s=.int .u32 (G6 k y:Nat)∧wr=w) (fun _ i _=>8-(intOf i).toNat)
 case atStart=>exact ⟨0,zD,rfl,rfl,rfl⟩
 case round=>
  obtain⟨k,hk,rfl,rfl,rfl⟩:=hrel;by_cases hlt:k<8
  ·have hd:=Lt hy k
   have hst:Hid (G6 (k+1) y=CX (G6 k y)):=hid rfl;have i1:(k:Int)<8:=zD;generalize G6 k y=d at*;by_cases h1:d%2=1
   ·have d1:((d:Int)%2==1)=true:=by simp;omega
    have hff:Hid (((CX d:Nat):Int)=bits BinOp.xor IntKind.u32 ((d:Int)/2) 2197175160):=hid (by rw[Of hd];unfold CX;rw[An h1]);clear h1;go_wp2;go_roundw
    case rel=>exact ⟨k+1,zD,zZ,by rw[hst.out,hff.out],trivial⟩
    case measure=>simp [intOf];omega
   ·have d1:((d:Int)%2==1)=false:=beq_eq_false_iff_ne.2 zD
    have hff:Hid (((CX d:Nat):Int)=(d:Int)/2):=hid (by unfold CX;rw[Ak h1];rfl);clear h1;go_wp2;go_roundw
    case rel=>exact ⟨k+1,zD,zZ,by rw[hst.out,hff.out],trivial⟩
    case measure=>simp [intOf];omega
  ·obtain rfl:k=8:=by omega
   go_wp2;go_ret;exact⟨by rw[hcb.out];rfl,rfl⟩
theorem RK(D:List UInt8)(ad:Option Addr)(nd cd:Nat)(w:World)(hD:Ah.r (·<w.heap.size) w [.slice ad nd cd] D):
  Calls Tryz.prog 136 #[.slice ad nd cd] w fun r w'=>r=.returned (.int .u32 (Dj D:Nat))∧w=w':=by
 obtain⟨rfl,hm,_,_⟩:=AU hD;have HD:=hid hD;clear hD;have hlt:=JY D (c:=4294967295) zS;have hff:Hid (Dj D=4294967295-DI 4294967295 D):=hid rfl;have HA:Hid (Calls Tryz.prog 207 #[.int .u32 4294967295,.slice ad D.length cd] w fun r w'=>r=.returned (.int .u32 (DI 4294967295 D:Nat))∧w=w'):=hid (by
  clear hff hlt;go_enter Tryz.func207,Tryz.ntmps207;go_wp2_with fail;go_loopw [0,5] (fun s i wr=>∃(k d:Nat),k≤D.length∧i=.int .i64 k∧s=.int .u32 d∧d<4294967296∧Hid (DI 4294967295 D=DI d (D.drop k))∧wr=w) (fun _ i _=>D.length-(intOf i).toNat)
  case atStart=>exact ⟨0,4294967295,Ao _,rfl,rfl,zS,hid rfl,rfl⟩
  case round=>
   obtain⟨k,d,hk,rfl,rfl,hd,hf,rfl⟩:=hrel;by_cases hlt:k<D.length
   ·obtain⟨b,o,hA,hbb,hx⟩:=Bt HD.out hlt
    subst hA;have hst:=hid (show DI d (D.drop k)=DI (Gj d D[k]) (D.drop (k+1)) by rw[AO hlt];rfl);generalize D[k]=x at*;have i1:(k:Int)<(D.length:Int):=zD;have hb1:=IT (x:=x) hd;have HI:=hid (PK d hd x wr);generalize Gj d x=q at*;go_wp2_with fail;refine HI.out.mono ?_;rintro r w1 ⟨rfl,rfl⟩;go_wp2;go_roundw
    case rel=>exact ⟨k+1,q,zD,zZ,rfl,hb1,hid (by rw[hf.out,hst.out]),trivial⟩
    case measure=>simp [intOf];omega
   ·obtain rfl:k=D.length:=by omega
    have hff:Hid (DI 4294967295 D=d):=hid zAg;go_wp2;go_ret;exact⟨zQ,rfl⟩)
 generalize DI 4294967295 D=s at*;go_enter Tryz.func136,Tryz.ntmps136;go_wp2_with fail;refine HA.out.mono ?_;rintro r w1 ⟨rfl,rfl⟩;have e2:0≤4294967295-(s:Int):=zD;go_wp2;go_ret;exact⟨by rw[hff.out];simp;omega,rfl⟩
def Hm(m:Msg):List UInt8 × Int:=if LV m=true then (FY (Nk m),0) else ([],3)
end Go.Proofs.YtlbffbkbkajciaaGreat
namespace Go.Bs
open Go.RowKit
variable{c i n:Nat}{S:Nat → Prop}{a:Option Addr}{w:World}
def Hs:Rp (List Msg):=rSl 14 Lh
theorem Ts{xs:List Msg}(h:Hs.r S w [.slice a n c] xs)(hi:i<xs.length):∃b off,a=some ⟨b,off,none⟩∧S b∧∃(a1:Option Addr) (c1:Nat) (a2:Option Addr) (c2:Nat) (a3:Option Addr) (c3:Nat) (a4:Option Addr) (c4:Nat),
  (w.cell? ⟨b,off+i*14,none⟩=some (.int .i64 xs[i].kind)∧w.cell? ⟨b,off+i*14+1,none⟩=some (.int .u64 xs[i].epoch)∧w.cell? ⟨b,off+i*14+2,none⟩=some (.int .u64 xs[i].seq)∧w.cell? ⟨b,off+i*14+3,none⟩=some (.int .u64 xs[i].pos)∧w.cell? ⟨b,off+i*14+4,none⟩=some (.int .i64 xs[i].count)∧w.cell? ⟨b,off+i*14+5,none⟩=some (.int .i64 xs[i].state)∧w.cell? ⟨b,off+i*14+6,none⟩=some (.slice a1 xs[i].streams.length c1)∧w.cell? ⟨b,off+i*14+7,none⟩=some (.slice a2 xs[i].links.length c2)∧w.cell? ⟨b,off+i*14+8,none⟩=some (.slice a3 xs[i].data.length c3)∧w.cell? ⟨b,off+i*14+9,none⟩=some (.int .u64 xs[i].sea.epoch)∧w.cell? ⟨b,off+i*14+10,none⟩=some (.int .u64 xs[i].sea.node)∧w.cell? ⟨b,off+i*14+11,none⟩=some (.int .u64 xs[i].sea.tail)∧w.cell? ⟨b,off+i*14+12,none⟩=some (.int .u64 xs[i].proj.epoch)∧w.cell? ⟨b,off+i*14+13,none⟩=some (.slice a4 xs[i].proj.stripes.length c4))∧AH S w xs[i] a1 c1 a2 c2 a3 c3 a4 c4:=by
 obtain⟨b,off,e,hS,cs,_,hc,hA⟩:=Ka h hi;obtain⟨a1,c1,a2,c2,a3,c3,a4,c4,rfl,h1⟩:=RX hA;exact⟨b,off,e,hS,a1,c1,a2,c2,a3,c3,a4,c4,⟨hc 0 _ rfl,hc 1 _ rfl,hc 2 _ rfl,hc 3 _ rfl,hc 4 _ rfl,hc 5 _ rfl,hc 6 _ rfl,hc 7 _ rfl,hc 8 _ rfl,hc 9 _ rfl,hc 10 _ rfl,hc 11 _ rfl,hc 12 _ rfl,hc 13 _ rfl⟩,h1⟩
end Go.Bs
namespace Go.Proofs.YtlbffbkbkajciaaGreat
open Go.RowKit Go.Bs Go.Maps
variable{qx:Bool}{f fx k kx:Int}{B J:List UInt8}{xs:List Value}{m:Msg}{base c c1 c2 c3 c4 g most n sz:Nat}{S:Nat → Prop}{a a1 a2 a3 a4:Option Addr}{e:TypeId}{v:Value}{w w1:World}
theorem TX{t:Rs}(h:t.ok B.length):(CG B t).1.ok B.length:=by
 unfold CG Rs.strict;dsimp only;split
 ·split
  ·exact Rs.Fk h 1048576
  ·exact Rs.BH (Rs.Fk h 1048576) zD
 ·exact Rs.Fk h 1048576
theorem Ps(l:List Msg)(a b:Option Addr)(n c n' c':Nat)(w:World)(hx:Hs.r (·<w.heap.size) w [.slice a n c] l)(hy:Hs.r (·<w.heap.size) w [.slice b n' c'] l):
  Calls Tryz.prog 57 #[.slice a n c,.slice b n' c'] w fun r w'=>r=.returned (.bool true)∧Below w.heap.size w w':=by
 obtain⟨rfl,hm,_,_⟩:=AU hx;obtain⟨rfl,hm',_,_⟩:=AU hy;have HX:=hid hx;have HY:=hid hy;clear hx hy;have e1:((l.length:Int) !=(l.length:Int))=false:=zP;go_enter Tryz.func57,Tryz.ntmps57;go_wp2_with fail;go_loopw [5] (fun i wr=>∃k:Nat,k≤l.length∧i=.int .i64 k∧Below w.heap.size w wr) (fun i _=>l.length-(intOf i).toNat)
 case atStart=>exact ⟨0,Ao _,rfl,Below.refl _ _⟩
 case round=>
  obtain⟨k,hk,rfl,hb⟩:=hrel;by_cases hlt:k<l.length
  ·obtain⟨b0,o0,hA,hbb,a1,c1,a2,c2,a3,c3,a4,c4,⟨u0,u1,u2,u3,u4,u5,u6,u7,u8,u9,u10,u11,u12,u13⟩,xl⟩:=Ts (lift HX.out hb) hlt
   obtain⟨b1,o1,hA',hbb',g1,d1,g2,d2,g3,d3,g4,d4,⟨v0,v1,v2,v3,v4,v5,v6,v7,v8,v9,v10,v11,v12,v13⟩,yl⟩:=Ts (lift HY.out hb) hlt;subst hA hA';have X0:=fun s:AS wr=>s.cell u0;have X1:=fun s:AS wr=>s.cell u1;have X2:=fun s:AS wr=>s.cell u2;have X3:=fun s:AS wr=>s.cell u3;have X4:=fun s:AS wr=>s.cell u4;have X5:=fun s:AS wr=>s.cell u5;have X6:=fun s:AS wr=>s.cell u6;have X7:=fun s:AS wr=>s.cell u7;have X8:=fun s:AS wr=>s.cell u8;have X9:=fun s:AS wr=>s.cell u9;have X10:=fun s:AS wr=>s.cell u10;have X11:=fun s:AS wr=>s.cell u11;have X12:=fun s:AS wr=>s.cell u12;have X13:=fun s:AS wr=>s.cell u13;have Y0:=fun s:AS wr=>s.cell v0;have Y1:=fun s:AS wr=>s.cell v1;have Y2:=fun s:AS wr=>s.cell v2;have Y3:=fun s:AS wr=>s.cell v3;have Y4:=fun s:AS wr=>s.cell v4;have Y5:=fun s:AS wr=>s.cell v5;have Y6:=fun s:AS wr=>s.cell v6;have Y7:=fun s:AS wr=>s.cell v7;have Y8:=fun s:AS wr=>s.cell v8;have Y9:=fun s:AS wr=>s.cell v9;have Y10:=fun s:AS wr=>s.cell v10;have Y11:=fun s:AS wr=>s.cell v11;have Y12:=fun s:AS wr=>s.cell v12;have Y13:=fun s:AS wr=>s.cell v13;have hO:=fun s:AS wr=>Hw l[k] s.at_ a1 a2 a3 a4 g1 g2 g3 g4 c1 c2 c3 c4 d1 d2 d3 d4 (AH.lift xl s.below) (AH.lift yl s.below);clear u0 u1 u2 u3 u4 u5 u6 u7 u8 u9 u10 u11 u12 u13 v0 v1 v2 v3 v4 v5 v6 v7 v8 v9 v10 v11 v12 v13 xl yl;have i0:(0:Int)≤(k:Int):=zD;have i1:(k:Int)<(l.length:Int):=zD;generalize l[k]=x at*;have HO:=hid hO;clear hO;go_wp2_with fail;refine AI zL zL ?_;repeat (go_big_quiet_step (((go_at_call 22;exact Bv (HO.out _)))))
   refine A8 ?_;rintro W5 ⟨⟨W5',hb5⟩,rfl⟩;go_wp2_with fail;go_roundw
   case rel=>exact ⟨k+1,zD,zZ,Ag hb5 hb⟩
   case measure=>(simp[intOf];try omega)
  ·obtain rfl:k=l.length:=by omega
   have e2:decide ((l.length:Int)<(l.length:Int))=false:=Ad zD;go_wp2_with fail;go_ret;exact⟨rfl,hb⟩
theorem MG{m:Int}(hk:((⟨0,0,0⟩:Rs).frame B m).1.k=0):4≤((⟨0,0,0⟩:Rs).frame B m).1.p:=by
 unfold Rs.frame at hk ⊢;dsimp only at hk ⊢;have hf:∀s:Rs,(s.take B 4).1.k=0→(s.take B 4).1.p=s.p+4:=fun s h=>by
  unfold Rs.take Rs.skip at h ⊢;by_cases h0:s.k=0
  ·rw[An h0,Ak zS] at h ⊢
   by_cases h1:(B.length:Int)-s.p<4
   ·rw[An h1] at h
    exact absurd h (show ¬(1:Int)=0 by decide)
   ·rw[Ak h1]
    rfl
  ·rw[Ak h0] at h
   exact absurd h h0
 split at hk
 ·rename_i hc
  rw[An hc];have:=hf _ hk;omega
 ·exact absurd hk (Rs.BV zD)
theorem Lx{blk:List UInt8→Rs→Rs × List UInt8 × Bool}{fl:Rs→Bool→Bool}(h:(DA B blk fl).2.2.2.1=0):0<(DA B blk fl).2.2.1∧(DA B blk fl).2.2.1≤B.length:=by
 have h1:=(GX (B:=B) (m:=2097152)).1;have h2:=MG (B:=B) (m:=2097152);unfold DA at h ⊢;unfold Jq at h h1 ⊢;generalize (⟨0,0,0⟩:Rs).frame B 2097152=F at*;obtain⟨s,P⟩:=F;dsimp only at h h1 h2 ⊢;by_cases hk:s.k=0
 ·rw[An hk] at h h1 ⊢
  dsimp only at h h1 ⊢;rw[An rfl] at h ⊢;split at h
  ·rename_i hc
   rw[An hc];have:=h2 hk;dsimp only;omega
  ·rename_i hc
   exact absurd h hc
 ·rw[Ak hk] at h
  dsimp only at h;rw[Ak hk] at h;exact absurd h hk
def CT(B:List UInt8):Nat→Nat→List Msg × Int × Int
 | 0,_=>([],0,0)
 | f+1,p=>
  if p<B.length then
   let g:=Ez (B.drop p)
   if g.2.2.2.1=0 then
    let r:=CT B f (p+g.2.2.1)
    if r.2.1=0 then (g.1::r.1,0,0) else ([],r.2.1,r.2.2)
   else ([],g.2.2.2.1,wrap64 (g.2.2.2.2+(p:Int)))
  else ([],0,0)
def EK(L:List Msg)(r:List Msg × Int × Int):List Msg × Int × Int:=if r.2.1=0 then (L++r.1,0,0) else ([],r.2.1,r.2.2)
theorem U7(B:List UInt8):∀(f p:Nat),(CT B f p).2.1=0→(CT B f p).2.2=0
 | 0,p,_=>rfl
 | f+1,p,h=>by
  unfold CT at h ⊢;split at h
  ·rename_i hp
   rw[An hp];dsimp only at h ⊢;split at h
   ·rename_i hk
    rw[An hk];split at h
    ·rename_i hr
     rw[An hr]
    ·rename_i hr
     exact absurd h hr
   ·rename_i hk
    exact absurd h hk
  ·rename_i hp
   rw[Ak hp]
theorem U8{r:List Msg × Int × Int}(h1:r.2.1=0→r.2.2=0)(h2:r.2.1≠0→r.1=[]):EK [] r=r:=by
 obtain⟨x,y,z⟩:=r;dsimp only at h1 h2;unfold EK;dsimp only;by_cases h:y=0
 ·rw[An h,h1 h,h]
  rfl
 ·rw[Ak h,h2 h]
theorem UL(B:List UInt8):∀(f p:Nat),(CT B f p).2.1≠0→(CT B f p).1=[]
 | 0,p,_=>rfl
 | f+1,p,h=>by
  unfold CT at h ⊢;split at h
  ·rename_i hp
   rw[An hp];dsimp only at h ⊢;split at h
   ·rename_i hk
    rw[An hk];split at h
    ·rename_i hr
     exact absurd rfl h
    ·rename_i hr
     rw[Ak hr]
   ·rename_i hk
    rw[Ak hk]
  ·rename_i hp
   exact absurd rfl h
theorem Ls(B:List UInt8)(f p:Nat)(L:List Msg)(hp:p<B.length)(hk:(Ez (B.drop p)).2.2.2.1=0):EK L (CT B (f+1) p)=EK (L++[(Ez (B.drop p)).1]) (CT B f (p+(Ez (B.drop p)).2.2.1)):=by
 conv=>lhs;unfold CT
 rw[An hp];dsimp only;rw[An hk];generalize CT B f (p+(Ez (B.drop p)).2.2.1)=r;unfold EK;by_cases hr:r.2.1=0
 ·rw[An hr,An hr]
  dsimp only;rw[An rfl,CF];rfl
 ·rw[Ak hr,Ak hr]
  dsimp only;rw[Ak hr]
theorem Lr(B:List UInt8)(f p:Nat)(L:List Msg)(hp:p<B.length)(hk:(Ez (B.drop p)).2.2.2.1≠0):EK L (CT B (f+1) p)=([],(Ez (B.drop p)).2.2.2.1,wrap64 ((Ez (B.drop p)).2.2.2.2+(p:Int))):=by
 conv=>lhs;unfold CT
 rw[An hp];dsimp only;rw[Ak hk];unfold EK;dsimp only;rw[Ak hk]
theorem ME(B:List UInt8)(f p:Nat)(L:List Msg)(hp:¬p<B.length):EK L (CT B (f+1) p)=(L,0,0):=by
 conv=>lhs;unfold CT
 rw[Ak hp];unfold EK;dsimp only;rw[An rfl,List.append_nil]
def Na(B:List UInt8):List Msg × Int × Int:=CT B (B.length+1) 0
theorem Re:(Tryz.prog.info? 32).map (fun i=>(i.zero,i.size,i.bytes))=some (some (.agg #[.int .i64 0,.int .u64 0,.int .u64 0,.int .u64 0,.int .i64 0,.int .i64 0,.slice none 0 0,.slice none 0 0,.slice none 0 0,.int .u64 0,.int .u64 0,.int .u64 0,.int .u64 0,.slice none 0 0]),14,176):=zL
theorem Tr(h:AH S w m a1 c1 a2 c2 a3 c3 a4 c4):Lh.r S w (Fj m a1 c1 a2 c2 a3 c3 a4 c4) m:=
 ⟨[_],_,rfl,⟨rfl,JO h.kind⟩,[_],_,rfl,⟨rfl,EF h.epoch⟩,[_],_,rfl,⟨rfl,EF h.seq⟩,[_],_,rfl,⟨rfl,EF h.pos⟩,[_],_,rfl,⟨rfl,JO h.count⟩,[_],_,rfl,⟨rfl,JO h.state⟩,[_],_,rfl,h.streams,[_],_,rfl,h.links,[_],_,rfl,h.data,[_,_,_],_,rfl,
  ⟨[_],_,rfl,⟨rfl,EF h.sealE⟩,[_],_,rfl,⟨rfl,EF h.sealN⟩,rfl,EF h.sealT⟩,[_],_,rfl,⟨rfl,EF h.projE⟩,h.stripes⟩
theorem Oh{m:Msg}{a1:Option Addr}{c1:Nat}{a2:Option Addr}{c2:Nat}{a3:Option Addr}{c3:Nat}{a4:Option Addr}{c4:Nat}:∀u∈Fj m a1 c1 a2 c2 a3 c3 a4 c4,u.oneCell'=true:=by
 intro u hu;simp[Fj] at hu;rcases hu with rfl | rfl | rfl | rfl | rfl | rfl | rfl | rfl | rfl | rfl | rfl | rfl | rfl | rfl<;>rfl
theorem RE(w:World)(B:List UInt8)(a:Option Addr)(c0 c:Nat)(hl:Ah.r (·<w.heap.size) w [.slice a c0 c] B)(hB:B.length≤1000000){L:List Msg}{K F:Int}(hZ:Na B=(L,K,F)):
  Calls Tryz.prog 55 #[.slice a c0 c] w fun r w'=>∃v,r=.returned (.tuple #[v,.agg #[.int .i64 K,.int .i64 F]])∧Hs.r (fun q=>w.heap.size≤q∧q<w'.heap.size) w' [v] L∧Below w.heap.size w w':=by
 obtain⟨rfl,hmx,hcc,hcm⟩:=AU hl;obtain⟨i0,hi,hz0,hz1,hz2⟩:=Bc Re;have HL:=hid hl;have hsp0:EK [] (CT B (B.length+1) 0)=(L,K,F):=zCj;have HS0:=hid hsp0;clear hl hZ hsp0;go_enter Tryz.func55,Tryz.ntmps55;go_wp2_with fail;go_loopw [4,5] (fun v i wr=>∃(p fu:Nat) (J:List Msg),p≤B.length∧i=.int .i64 p∧AD (w.heap.size+1) Lh (w.heap.size+1) 32 14 wr v J∧Hid (EK J (CT B (fu+1) p)=(L,K,F))∧B.length≤p+fu∧J.length≤p∧Blk wr w.heap.size 58 #[.int .i64 0,.int .i64 0]∧Below w.heap.size w wr) (fun _ i _=>B.length-(intOf i).toNat)
 case atStart=>exact ⟨0,B.length,[],Ao _,rfl,AD.nil,HS0,zD,Ao _,zB,zA⟩
 case round=>
  obtain⟨p,fu,J,hp,rfl,hown,hsp,hfu,hJp,hfb,hb⟩:=hrel;obtain⟨cells0,hca⟩:=hown;obtain⟨aJ,cJ,rfl⟩:=AX hca.1;have HO:=hid (show AD (w.heap.size+1) Lh (w.heap.size+1) 32 14 wr (.slice aJ J.length cJ) J from ⟨cells0,hca⟩);have hwr:=hfb.lt;clear hca;by_cases hlt:p<B.length
  ·have i1:(p:Int)<(B.length:Int):=by omega
   have d1:decide ((p:Int)<(B.length:Int))=true:=Ae i1;obtain⟨A',c',hcut,hrd⟩:=Nx (lift HL.out hb) (lo:=p) hp;generalize hg:Ez (B.drop p)=G at*;have hpos:G.2.2.2.1=0→0<G.2.2.1∧p+G.2.2.1≤B.length:=fun h=>by
    have:=Lx (B:=B.drop p) (blk:=fun P=>CG P) (fl:=flS) (by unfold Ez at hg;rw[hg];exact h);unfold Ez at hg;rw[hg,List.length_drop] at this;omega
   have hstep:G.2.2.2.1=0→1≤fu→EK J (CT B (fu+1) p)=EK (J++[G.1]) (CT B (fu-1+1) (p+G.2.2.1)):=fun h h1=>by
    have:=Ls B fu p J hlt zDb;rw[hg] at this;rw[this,Nat.sub_add_cancel h1]
   have hstop:G.2.2.2.1≠0→EK J (CT B (fu+1) p)=([],G.2.2.2.1,wrap64 (G.2.2.2.2+(p:Int))):=fun h=>by
    have:=Lr B fu p J hlt zDb;rw[hg] at this;exact this
   obtain⟨m,q,n,k,f⟩:=G;dsimp only at hpos hstep hstop;have HG:=hid (N2 wr (B.drop p) A' _ c' hrd zM hg);have HGD:=hid (fun (W:World)=>CN W k f);have HB:=hid hb;have HFB:=hid hfb;clear hrd hg hb hfb;go_wp2_with fail;refine HG.out.mono ?_;rintro r w1 ⟨a1,a1',a2,a2',a3,a3',a4,a4',rfl,hm1,hb1⟩;have hlow1:w.heap.size<w1.heap.size:=Am hwr hb1.size;have E2:Blk ((w1.alloc (.cells Vy 32)).alloc (.cells #[.int .i64 k,.int .i64 f] 58)) w1.heap.size 32 Vy:=zB;have F2:Blk ((w1.alloc (.cells Vy 32)).alloc (.cells #[.int .i64 k,.int .i64 f] 58)) (w1.heap.size+1) 58 #[.int .i64 k,.int .i64 f]:=zB;have hb2:Below w1.heap.size w1 ((w1.alloc (.cells Vy 32)).alloc (.cells #[.int .i64 k,.int .i64 f] 58)):=zA;have X2:=hid (AH.BI (S':=fun q=>wr.heap.size≤q∧q<w1.heap.size) hm1 (fun q hq=>hb2.block q hq.2) (fun q hq=>hq));have HO2:=hid ((HO.out.below hb1).below hb2);have HB2:=hid (Ag hb2 (Ag hb1 HB.out));have HFB2:=hid ((HFB.out.later hb1).later hb2);have l2:w1.heap.size+1<(((w1.alloc (.cells Vy 32)).alloc (.cells #[.int .i64 k,.int .i64 f] 58))).heap.size:=zP;have hwr1:=hb1.size;obtain⟨y0,y1,y2,y3,y4,y5,y6,y7,y8,y9,y10,y11,y12,y13,ly⟩:=AJ E2;obtain⟨f0,f1,f2,f3,f4⟩:=A1 F2;clear hm1 hb1 hb2;go_wp2_with fail;generalize ((w1.alloc (.cells Vy 32)).alloc (.cells #[.int .i64 k,.int .i64 f] 58))=w2 at*;by_cases hk:k=0
   ·rw[Ae hk] at HGD
    obtain⟨hn0,hn1⟩:=hpos hk;have hst:=hsp.out;rw[hstep hk zD] at hst;have HST:=hid hst;clear hk hst hstep hstop hpos;refine (HGD.out _).mono ?_;rintro r w3 ⟨rfl,hb3⟩;have E3:=E2.later hb3;have X3:=hid (AH.BI X2.out (fun q hq=>hb3.block q zD) (fun q hq=>hq));have HO3:=hid (HO2.out.below hb3);have HB3:=hid (Ag hb3 HB2.out);have HFB3:=hid (HFB2.out.later hb3);have l3:=Am l2 hb3.size;clear hb3 E2 F2 X2 HO2 HB2 HFB2 y0 y1 y2 y3 y4 y5 y6 y7 y8 y9 y10 y11 y12 y13 ly f0 f1 f2 f3 f4;obtain⟨y0,y1,y2,y3,y4,y5,y6,y7,y8,y9,y10,y11,y12,y13,ly⟩:=AJ E3;have hb4:Below w3.heap.size w3 (w3.alloc (.cells Vy 32)):=zA;have X4:=hid (AH.BI (w':=w3.alloc (.cells Vy 32)) X3.out (fun q hq=>hb4.block q zD) (fun q hq=>hq));obtain⟨cells3,hc3⟩:=HO3.out.below hb4;have hlt0:∀g',(Value.slice aJ J.length cJ).ownBlock=some g'→g'<wr.heap.size:=fun g' e=>by
     obtain⟨_,h⟩:=HO.out;exact (h.1.lt g' e).2
    have hx4:Lh.r (fun q=>w.heap.size+1≤q∧q<(w3.alloc (.cells Vy 32)).heap.size∧(Value.slice aJ J.length cJ).ownBlock≠some q) (w3.alloc (.cells Vy 32)) (Fj m a1 a1' a2 a2' a3 a3' a4 a4') m:=
     Lh.mono (Tr X4.out) fun q hq=>⟨zD,zM,fun e=>by have:=hlt0 q e;omega⟩
    have HX:=hid hx4;have HC3:=hid hc3;clear hx4 hc3 hlt0 hb4;unfold Fj at HX;go_wp2_with (at_builtin;go_loud (refine Ar rfl _ _ _ rfl (w.heap.size+1) 32 i0 (.agg Vz) 14 176 Tryz.underlying46 hi hz0 hz1 hz2 rfl zS (.slice aJ J.length cJ) J.length cells3.flatten rfl HC3.out.1 (some ⟨w3.heap.size,0,none⟩) 1 1 [.int .i64 m.kind,.int .u64 m.epoch,.int .u64 m.seq,.int .u64 m.pos,.int .i64 m.count,.int .i64 m.state,.slice a1 m.streams.length a1',.slice a2 m.links.length a2',.slice a3 m.data.length a3',.int .u64 m.sea.epoch,.int .u64 m.sea.node,.int .u64 m.sea.tail,.int .u64 m.proj.epoch,.slice a4 m.proj.stripes.length a4'] rfl (Bf w3 32 _ rfl rfl rfl) Oh zR zD zM ?_;intro v5 w5 hown5 hgrow5 hat5;have HO5:=hid (AD.push HC3.out rfl HX.out hown5 hgrow5 hat5 hgrow5.size);have HB5:=hid (Below.grown (HB3.out.alloc HB3.out.size (.cells Vy 32)) hgrow5 zM (fun g e=>by have:=(HC3.out.1.lt g e).1;omega));have HFB5:=hid ((HFB3.out.alloc (.cells Vy 32)).grown hgrow5 (fun e=>by have:=(HC3.out.1.lt _ e.symm).1;omega));clear hown5 hgrow5 hat5))
    go_roundw
    case rel=>exact ⟨p+n,fu-1,J++[m],hn1,zZ,HO5.out,HST,zD,zAb,HFB5.out,HB5.out⟩
    case measure=>(simp[intOf];try omega)
   ·rw[Ad hk] at HGD
    have hst:=hsp.out;rw[hstop hk] at hst;have hsh:=fun (W:World)=>Jr W k f (p:Int) hk;generalize wrap64 (f+(p:Int))=FV at hsh hst;simp only[A7] at hst;obtain⟨rfl,rfl,rfl⟩:=hst;have HSH:=hid hsh;clear hsh hk hstep hstop hpos hsp HS0;refine (HGD.out _).mono ?_;rintro r w3 ⟨rfl,hb3⟩;have F3:=F2.later hb3;have HB3:=hid (Ag hb3 HB2.out);have HFB3:=hid (HFB2.out.later hb3);clear hb3 E2 F2 X2 HO2 HB2 HFB2 y0 y1 y2 y3 y4 y5 y6 y7 y8 y9 y10 y11 y12 y13 ly f0 f1 f2 f3 f4;obtain⟨f0,f1,f2,f3,f4⟩:=A1 F3;go_wp2_with fail;refine (HSH.out _).mono ?_;rintro r w4 ⟨rfl,hb4⟩;have hbe:=Ag hb4 HB3.out;have hfe:=HFB3.out.later hb4;obtain⟨p0,p1,p2,p3,p4⟩:=A1 hfe;clear hb4 f0 f1 f2 f3 f4;go_wp2_with fail;refine Af (v:=.tuple #[.slice none 0 0,.agg #[.int .i64 k,.int .i64 FV]]) zC9 rfl ⟨_,rfl,AZ (xs:=[]) rfl (Aj _) (Ao _) (.inl rfl),zA⟩
  ·obtain rfl:p=B.length:=by omega
   have d1:decide ((B.length:Int)<(B.length:Int))=false:=Ad zD;have hst:=hsp.out;rw[ME B fu B.length J zD] at hst;simp only[A7] at hst;obtain⟨rfl,rfl,rfl⟩:=hst;have HV:=hid (HO.out.slice (Aj _));clear hsp HS0;obtain⟨p0,p1,p2,p3,p4⟩:=A1 hfb;go_wp2_with fail;refine Af (v:=.tuple #[.slice aJ J.length cJ,.agg #[.int .i64 0,.int .i64 0]]) zC9 rfl ⟨_,rfl,?_,zA⟩;refine Hs.mono (Hs.keep HV.out fun q hq=> ?_) fun q hq=>⟨zV,Z3⟩;have:=hq.1;repeat (rw[Ap _ _ _ _ zH])
end Go.Proofs.YtlbffbkbkajciaaGreat
