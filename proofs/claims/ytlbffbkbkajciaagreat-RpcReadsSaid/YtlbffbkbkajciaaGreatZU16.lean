/- Mini: Needed by rpcReads_walk, part 16: texts put together by shake.py; no condition. -/
import Derived.Test.YtlbffbkbkajciaaGreatZU5
import Derived.Test.YtlbffbkbkajciaaGreatZU3
import Derived.Deep.RegionHeld3
import Derived.Test.YtlbffbkbkajciaaGreatZU12
import Derived.Test.YtlbffbkbkajciaaGreatZU9
import Derived.Test.YtlbffbkbkajciaaGreatZU7
import Derived.Test.YtlbffbkbkajciaaGreatZU6
import Derived.Test.YtlbffbkbkajciaaGreatZU2
import Derived.Test.YtlbffbkbkajciaaGreatZU1
import Derived.Test.YtlbffbkbkajciaaGreatZU4
import Derived.Test.YtlbffbkbkajciaaGreatZU15
import Derived.Test.YtlbffbkbkajciaaGreatZU13
import Derived.Deep.Cut
set_option linter.unusedVariables false
set_option linter.unusedSimpArgs false
set_option maxRecDepth 100000
set_option maxHeartbeats 6400000
namespace Go.Bs
theorem zCp{p:Prop}(h:p:=by rw [hfull.out]; rfl):p:=h
theorem ZU{p:Prop}(h:p:=by simp [results, Tryz.results138, go_sem, n0, n1, n2, n3, n4, n5, n6, n7, n8, n9, n10, n11, n12, n13, p0, p1]):p:=h
theorem ZT{p:Prop}(h:p:=by simp [results, Tryz.results141, go_sem, n0, n1, n2, n3, n4, n5, n6, n7, n8, n9, n10, n11, n12, n13, p0, p1]):p:=h
abbrev Vy(h:Array Value:=by exact #[.int .i64 m.kind,.int .u64 m.epoch,.int .u64 m.seq,.int .u64 m.pos,.int .i64 m.count,.int .i64 m.state,.slice a1 m.streams.length a1',.slice a2 m.links.length a2',.slice a3 m.data.length a3',.int .u64 m.sea.epoch,.int .u64 m.sea.node,.int .u64 m.sea.tail,.int .u64 m.proj.epoch,.slice a4 m.proj.stripes.length a4']):=h
abbrev VC(h:Array Value:=by exact #[.int .i64 m.kind,.int .u64 (e:Int),.int .u64 (n:Int),.int .u64 m.pos,.int .i64 m.count,.int .i64 m.state,.slice a1 m.streams.length a1',.slice a2 m.links.length a2',.slice a3 m.data.length a3',.int .u64 m.sea.epoch,.int .u64 m.sea.node,.int .u64 m.sea.tail,.int .u64 m.proj.epoch,.slice a4 m.proj.stripes.length a4']):=h
abbrev VO(h:Array Value:=by exact #[.int .i64 kko,.int .u64 epo,.int .u64 sqo,.int .u64 poo,.int .i64 cno,.int .i64 sto,.slice b1 SSo.length d1,.slice b2 LSo.length d2,.slice b3 DDo.length d3,.int .u64 seo,.int .u64 sno,.int .u64 tlo,.int .u64 peo,.slice b4 PLo.length d4]):=h
theorem FC:type_of% @Proofs.Tryz.ntmps22:=@Proofs.Tryz.ntmps22
theorem GG:type_of% @Proofs.Tryz.func22:=@Proofs.Tryz.func22
end Go.Bs
namespace Go.Proofs.YtlbffbkbkajciaaGreat
open Go.RowKit Go.Bs Go.Maps
variable{h qx:Bool}{fx k kx:Int}{B:List UInt8}{m:Msg}{c1 c2 c3 c4 g:Nat}{S:Nat → Prop}{a1 a2 a3 a4:Option Addr}{s:Rs}{v0 v1 v2 v3 v4:Value}{w w':World}
set_option maxHeartbeats 12800000 in
theorem Pt(m o:Msg)(a1:Option Addr)(c1:Nat)(a2:Option Addr)(c2:Nat)(a3:Option Addr)(c3:Nat)(a4:Option Addr)(c4:Nat)(b1:Option Addr)(d1:Nat)(b2:Option Addr)(d2:Nat)(b3:Option Addr)(d3:Nat)(b4:Option Addr)(d4:Nat)(w:World)(hm:AH (·<w.heap.size) w m a1 c1 a2 c2 a3 c3 a4 c4)(ho:AH (·<w.heap.size) w o b1 d1 b2 d2 b3 d3 b4 d4):
  Calls Tryz.prog 22 #[.agg VA,.agg #[.int .i64 o.kind,.int .u64 o.epoch,.int .u64 o.seq,.int .u64 o.pos,.int .i64 o.count,.int .i64 o.state,.slice b1 o.streams.length d1,.slice b2 o.links.length d2,.slice b3 o.data.length d3,.int .u64 o.sea.epoch,.int .u64 o.sea.node,.int .u64 o.sea.tail,.int .u64 o.proj.epoch,.slice b4 o.proj.stripes.length d4]] w fun r w'=>r=.returned (.bool (decide (m=o)))∧Below w.heap.size w w':=by
 have E1:=hid (fun (W:World) (hW:Below w.heap.size w W)=>JF m.streams o.streams a1 b1 _ c1 _ d1 W (lift hm.streams hW) (lift ho.streams hW));have E2:=hid (fun (W:World) (hW:Below w.heap.size w W)=>Pw m.links o.links a2 b2 _ c2 _ d2 W (lift hm.links hW) (lift ho.links hW));have E3:=hid (fun (W:World) (hW:Below w.heap.size w W)=>GL m.data o.data a3 b3 _ _ _ _ W (lift hm.data hW) (lift ho.data hW));have E4:=hid (fun (W:World) (hW:Below w.heap.size w W)=>Pz m.proj o.proj a4 b4 _ c4 _ d4 W (lift hm.stripes hW) (lift ho.stripes hW));obtain⟨kk,ep,sq,po,cn,st,SS,LS,DD,⟨se,sn,tl⟩,⟨pe,PL⟩⟩:=m;obtain⟨kko,epo,sqo,poo,cno,sto,SSo,LSo,DDo,⟨seo,sno,tlo⟩,⟨peo,PLo⟩⟩:=o;dsimp only at*;clear hm ho;have hb0:Below w.heap.size w ((w.alloc (.cells VB 32)).alloc (.cells VO 32)):=zC;have HBX:Hid (Blk ((w.alloc (.cells VB 32)).alloc (.cells VO 32)) w.heap.size 32 VB):=hid ((Blk.new w _ _).alloc _);have HBY:Hid (Blk ((w.alloc (.cells VB 32)).alloc (.cells VO 32)) (w.heap.size+1) 32 VO):=hid (Blk.Vh w _ _ _);by_cases h0:kk=kko
 ·have e0:(kk !=kko)=false:=by simp[h0]
  by_cases h1:ep=epo
  ·have e1:(ep !=epo)=false:=by simp[h1]
   by_cases h2:sq=sqo
   ·have e2:(sq !=sqo)=false:=by simp[h2]
    by_cases h3:po=poo
    ·have e3:(po !=poo)=false:=by simp[h3]
     by_cases h4:cn=cno
     ·have e4:(cn !=cno)=false:=by simp[h4]
      by_cases h5:st=sto
      ·have e5:(st !=sto)=false:=by simp[h5]
       by_cases h6:se=seo
       ·have e6:(se==seo)=true:=by simp[h6]
        by_cases h7:sn=sno
        ·have e7:(sn==sno)=true:=by simp[h7]
         by_cases h8:tl=tlo
         ·have e8:(tl==tlo)=true:=by simp[h8]
          have hfull:Hid (decide ((⟨kk,ep,sq,po,cn,st,SS,LS,DD,⟨se,sn,tl⟩,⟨pe,PL⟩⟩:Msg)=⟨kko,epo,sqo,poo,cno,sto,SSo,LSo,DDo,⟨seo,sno,tlo⟩,⟨peo,PLo⟩⟩)=(decide (SS=SSo)&&(decide (LS=LSo)&&(decide (DD=DDo)&&decide ((⟨pe,PL⟩:EC)=⟨peo,PLo⟩))))):=hid (by rw[ED];simp[h0,h1,h2,h3,h4,h5,h6,h7,h8]);clear h0 h1 h2 h3 h4 h5 h6 h7 h8;generalize decide ((⟨kk,ep,sq,po,cn,st,SS,LS,DD,⟨se,sn,tl⟩,⟨pe,PL⟩⟩:Msg)=⟨kko,epo,sqo,poo,cno,sto,SSo,LSo,DDo,⟨seo,sno,tlo⟩,⟨peo,PLo⟩⟩)=RR at*;generalize decide (SS=SSo)=Q1 at*;generalize decide (LS=LSo)=Q2 at*;generalize decide (DD=DDo)=Q3 at*;generalize decide ((⟨pe,PL⟩:EC)=⟨peo,PLo⟩)=Q4 at*;go_enter GG,FC;go_wp2_with fail;generalize ((w.alloc (.cells VB 32)).alloc (.cells VO 32))=w0 at*;refine (E1.out _ hb0).mono ?_;rintro r w1 ⟨rfl,hb1⟩;have hb01:=Ag hb1 hb0;have X1:=HBX.out.later hb1;have Y1:=HBY.out.later hb1;cases Q1
          ·have hfin:Hid (RR=false):=hid zCp
           go_wp2_with fail;go_ret;exact⟨ZJ,hb01⟩
          ·have px7:w1.cell? ⟨w.heap.size,7,none⟩=some (.slice a2 LS.length c2):=X1.cell 7
           have py7:w1.cell? ⟨w.heap.size+1,7,none⟩=some (.slice b2 LSo.length d2):=Y1.cell 7;go_wp2_with fail;refine (E2.out _ hb01).mono ?_;rintro r w2 ⟨rfl,hb2⟩;have hb02:=Ag hb2 hb01;have X2:=X1.later hb2;have Y2:=Y1.later hb2;clear px7 py7;cases Q2
           ·have hfin:Hid (RR=false):=hid zCp
            go_wp2_with fail;go_ret;exact⟨ZJ,hb02⟩
           ·have qx8:w2.cell? ⟨w.heap.size,8,none⟩=some (.slice a3 DD.length c3):=X2.cell 8
            have qy8:w2.cell? ⟨w.heap.size+1,8,none⟩=some (.slice b3 DDo.length d3):=Y2.cell 8;go_wp2_with fail;refine (E3.out _ hb02).mono ?_;rintro r w3 ⟨rfl,rfl⟩;cases Q3
            ·have hfin:Hid (RR=false):=hid zCp
             go_wp2_with fail;go_ret;exact⟨ZJ,hb02⟩
            ·have hfin:Hid (RR=Q4):=hid zCp
             have rx12:w2.cell? ⟨w.heap.size,12,none⟩=some (.int .u64 pe):=X2.cell 12;have ry12:w2.cell? ⟨w.heap.size+1,12,none⟩=some (.int .u64 peo):=Y2.cell 12;have rx13:w2.cell? ⟨w.heap.size,13,none⟩=some (.slice a4 PL.length c4):=X2.cell 13;have ry13:w2.cell? ⟨w.heap.size+1,13,none⟩=some (.slice b4 PLo.length d4):=Y2.cell 13;go_wp2_with fail;refine (E4.out _ hb02).mono ?_;rintro r w4 ⟨rfl,hb4⟩;have hb04:=Ag hb4 hb02;go_wp2_with fail;go_ret;exact⟨ZJ,hb04⟩
         ·have e8:(tl==tlo)=false:=by simpa using h8
          have hfin:Hid (decide ((⟨kk,ep,sq,po,cn,st,SS,LS,DD,⟨se,sn,tl⟩,⟨pe,PL⟩⟩:Msg)=⟨kko,epo,sqo,poo,cno,sto,SSo,LSo,DDo,⟨seo,sno,tlo⟩,⟨peo,PLo⟩⟩)=false):=hid (by simp[h0,h1,h2,h3,h4,h5,h6,h7,h8]);clear h0 h1 h2 h3 h4 h5 h6 h7 h8;go_enter GG,FC;go_wp2_with fail;go_ret;exact⟨ZJ,hb0⟩
        ·have e7:(sn==sno)=false:=by simpa using h7
         have hfin:Hid (decide ((⟨kk,ep,sq,po,cn,st,SS,LS,DD,⟨se,sn,tl⟩,⟨pe,PL⟩⟩:Msg)=⟨kko,epo,sqo,poo,cno,sto,SSo,LSo,DDo,⟨seo,sno,tlo⟩,⟨peo,PLo⟩⟩)=false):=hid (by simp[h0,h1,h2,h3,h4,h5,h6,h7]);clear h0 h1 h2 h3 h4 h5 h6 h7;go_enter GG,FC;go_wp2_with fail;go_ret;exact⟨ZJ,hb0⟩
       ·have e6:(se==seo)=false:=by simpa using h6
        have hfin:Hid (decide ((⟨kk,ep,sq,po,cn,st,SS,LS,DD,⟨se,sn,tl⟩,⟨pe,PL⟩⟩:Msg)=⟨kko,epo,sqo,poo,cno,sto,SSo,LSo,DDo,⟨seo,sno,tlo⟩,⟨peo,PLo⟩⟩)=false):=hid (by simp[h0,h1,h2,h3,h4,h5,h6]);clear h0 h1 h2 h3 h4 h5 h6;go_enter GG,FC;go_wp2_with fail;go_ret;exact⟨ZJ,hb0⟩
      ·have e5:(st !=sto)=true:=by simpa using h5
       have hfin:Hid (decide ((⟨kk,ep,sq,po,cn,st,SS,LS,DD,⟨se,sn,tl⟩,⟨pe,PL⟩⟩:Msg)=⟨kko,epo,sqo,poo,cno,sto,SSo,LSo,DDo,⟨seo,sno,tlo⟩,⟨peo,PLo⟩⟩)=false):=hid (by simp[h0,h1,h2,h3,h4,h5]);clear h0 h1 h2 h3 h4 h5;go_enter GG,FC;go_wp2_with fail;go_ret;exact⟨ZJ,hb0⟩
     ·have e4:(cn !=cno)=true:=by simpa using h4
      have hfin:Hid (decide ((⟨kk,ep,sq,po,cn,st,SS,LS,DD,⟨se,sn,tl⟩,⟨pe,PL⟩⟩:Msg)=⟨kko,epo,sqo,poo,cno,sto,SSo,LSo,DDo,⟨seo,sno,tlo⟩,⟨peo,PLo⟩⟩)=false):=hid (by simp[h0,h1,h2,h3,h4]);clear h0 h1 h2 h3 h4;go_enter GG,FC;go_wp2_with fail;go_ret;exact⟨ZJ,hb0⟩
    ·have e3:(po !=poo)=true:=by simpa using h3
     have hfin:Hid (decide ((⟨kk,ep,sq,po,cn,st,SS,LS,DD,⟨se,sn,tl⟩,⟨pe,PL⟩⟩:Msg)=⟨kko,epo,sqo,poo,cno,sto,SSo,LSo,DDo,⟨seo,sno,tlo⟩,⟨peo,PLo⟩⟩)=false):=hid (by simp[h0,h1,h2,h3]);clear h0 h1 h2 h3;go_enter GG,FC;go_wp2_with fail;go_ret;exact⟨ZJ,hb0⟩
   ·have e2:(sq !=sqo)=true:=by simpa using h2
    have hfin:Hid (decide ((⟨kk,ep,sq,po,cn,st,SS,LS,DD,⟨se,sn,tl⟩,⟨pe,PL⟩⟩:Msg)=⟨kko,epo,sqo,poo,cno,sto,SSo,LSo,DDo,⟨seo,sno,tlo⟩,⟨peo,PLo⟩⟩)=false):=hid (by simp[h0,h1,h2]);clear h0 h1 h2;go_enter GG,FC;go_wp2_with fail;go_ret;exact⟨ZJ,hb0⟩
  ·have e1:(ep !=epo)=true:=by simpa using h1
   have hfin:Hid (decide ((⟨kk,ep,sq,po,cn,st,SS,LS,DD,⟨se,sn,tl⟩,⟨pe,PL⟩⟩:Msg)=⟨kko,epo,sqo,poo,cno,sto,SSo,LSo,DDo,⟨seo,sno,tlo⟩,⟨peo,PLo⟩⟩)=false):=hid (by simp[h0,h1]);clear h0 h1;go_enter GG,FC;go_wp2_with fail;go_ret;exact⟨ZJ,hb0⟩
 ·have e0:(kk !=kko)=true:=by simpa using h0
  have hfin:Hid (decide ((⟨kk,ep,sq,po,cn,st,SS,LS,DD,⟨se,sn,tl⟩,⟨pe,PL⟩⟩:Msg)=⟨kko,epo,sqo,poo,cno,sto,SSo,LSo,DDo,⟨seo,sno,tlo⟩,⟨peo,PLo⟩⟩)=false):=hid (by simp[h0]);clear h0;go_enter GG,FC;go_wp2_with fail;go_ret;exact⟨ZJ,hb0⟩
theorem FQ{α:Type}{f:Rs→Rs × α}{z:α}{P:α→Prop}(h1:P (f s).2)(h2:P z):P (Rs.part h s f z).2:=by
 cases h
 ·exact h2
 ·exact h1
theorem Rs.TN:inU ((s.ep B).2:Int):=by
 have:=Rs.Cp (B:=B) (s:=s);unfold Rs.ep inU;split
 ·split
  ·omega
  ·simp
 ·simp
theorem Rs.U3{m:Nat}:inU ((s.most B m).2:Int):=by
 have:=Rs.Cp (B:=B) (s:=s);unfold Rs.most inU;split
 ·simp
 ·omega
theorem Rs.Vs:inU ((s.tl B).2:Int):=by
 have:=Rs.Cp (B:=B) (s:=s);unfold Rs.tl inU;split
 ·split
  ·omega
  ·simp
 ·simp
theorem BX:inU 0:=⟨Int.le_refl _,zS⟩
theorem Hz:inI 0:=⟨zS,zS⟩
theorem Rs.Pj:inU (s.seal_ B).2.epoch∧inU (s.seal_ B).2.node∧inU (s.seal_ B).2.tail:=by
 unfold Rs.seal_;dsimp only;split
 ·exact⟨Rs.TN,Rs.U3,Rs.Vs⟩
 ·exact⟨BX,BX,BX⟩
theorem Rs.UU:inU (s.Du B).2.epoch:=by
 unfold Rs.Du;dsimp only;split<;>split
 ·exact Rs.TN
 ·exact BX
 ·exact Rs.TN
 ·exact BX
theorem Rs.Vj:inI (s.cnt B).2:=by
 have h2:(s.many B 65536).2≤65536:=Rs.GQ (m:=65536);unfold Rs.cnt inI;dsimp only;omega
theorem Rs.Vd:inI (s.stt B k).2:=by
 have h2:(s.byte B).2.toNat<256:=(s.byte B).2.toNat_lt;unfold Rs.stt inI;dsimp only;omega
structure QR(m:Msg):Prop where
 kind:inI m.kind
 epoch:inU m.epoch
 seq:inU m.seq
 pos:inU m.pos
 count:inI m.count
 state:inI m.state
 sealE:inU m.sea.epoch
 sealN:inU m.sea.node
 sealT:inU m.sea.tail
 projE:inU m.proj.epoch
theorem QR.none:QR C7:=⟨Hz,BX,BX,BX,Hz,Hz,BX,BX,BX,BX⟩
theorem J0{blk:Rs→Rs × List UInt8 × Bool}(hk:inI k):QR (s.body B blk k).2.1:=by
 unfold Rs.body Rs.ahead;split
 ·dsimp only
  split
  ·exact⟨hk,BX,BX,FQ (P:=inU) Rs.UG BX,FQ (P:=inI) Rs.Vj Hz,FQ (P:=inI) Rs.Vd Hz,(FQ (P:=fun z:IV=>inU z.epoch) Rs.Pj.1 BX),(FQ (P:=fun z:IV=>inU z.node) Rs.Pj.2.1 BX),(FQ (P:=fun z:IV=>inU z.tail) Rs.Pj.2.2 BX),(FQ (P:=fun z:EC=>inU z.epoch) Rs.UU BX)⟩
  ·exact QR.none
 ·exact QR.none
theorem QR.to(h:QR m){S:Nat→Prop}{W:World}{a1:Option Addr}{c1:Nat}{a2:Option Addr}{c2:Nat}{a3:Option Addr}{c3:Nat}{a4:Option Addr}{c4:Nat}(h1:AV.r S W [.slice a1 m.streams.length c1] m.streams)(h2:B6.r S W [.slice a2 m.links.length c2] m.links)(h3:Ah.r S W [.slice a3 m.data.length c3] m.data)(h4:A3.r S W [.slice a4 m.proj.stripes.length c4] m.proj.stripes):
  AH S W m a1 c1 a2 c2 a3 c3 a4 c4:=⟨h.kind,h.epoch,h.seq,h.pos,h.count,h.state,h.sealE,h.sealN,h.sealT,h.projE,h1,h2,h3,h4⟩
theorem Vk(w:World){g:Nat}{B:List UInt8}{a:Option Addr}{s1:Rs}{m:Msg}{q:Bool}(h:AY w g B a s)(hB:B.length≤1000000000)(k:Int)(hk:inI k)(hZ:s.body B (CG B) k=(s1,m,q)):
  Calls Tryz.prog 39 #[.pointer (some ⟨g,0,none⟩),.int .i64 k] w fun r w'=>∃a1 a1' a2 a2' a3 a3' a4 a4',r=.returned (.agg #[.int .i64 m.kind,.int .u64 m.epoch,.int .u64 m.seq,.int .u64 m.pos,.int .i64 m.count,.int .i64 m.state,.slice a1 m.streams.length a1',.slice a2 m.links.length a2',.slice a3 m.data.length a3',.int .u64 m.sea.epoch,.int .u64 m.sea.node,.int .u64 m.sea.tail,.int .u64 m.proj.epoch,.slice a4 m.proj.stripes.length a4'])∧AH (fun q=>w.heap.size≤q∧q<w'.heap.size) w' m a1 a1' a2 a2' a3 a3' a4 a4'∧AB w g B a s1 w':=by
 have hC:=QH w h hB k;have hN:=J0 (B:=B) (blk:=CG B) (s:=s) hk;rw[hZ] at hC hN;refine hC.mono ?_;rintro r w' ⟨v1,v2,v3,v4,rfl,⟨h1,h2,h3,h4⟩,hst⟩;obtain⟨a1,a1',hfv,_,_⟩:=At h1;simp only[Ai,As] at hfv;subst hfv;obtain⟨a2,a2',hfv,_,_⟩:=At h2;simp only[Ai,As] at hfv;subst hfv;obtain⟨a3,a3',hfv,_,_⟩:=At h3;simp only[Ai,As] at hfv;subst hfv;obtain⟨a4,a4',hfv,_,_⟩:=At h4;simp only[Ai,As] at hfv;subst hfv;exact⟨a1,a1',a2,a2',a3,a3',a4,a4',rfl,hN.to h1 h2 h3 h4,hst⟩
theorem Vl(w:World){g:Nat}{B:List UInt8}{a:Option Addr}{s1:Rs}{m:Msg}{q:Bool}(h:AY w g B a s)(hB:B.length≤1000000000)(k:Int)(hk:inI k)(hZ:s.body B (DB B) k=(s1,m,q)):
  Calls Tryz.prog 40 #[.pointer (some ⟨g,0,none⟩),.int .i64 k] w fun r w'=>∃a1 a1' a2 a2' a3 a3' a4 a4',r=.returned (.tuple #[.agg #[.int .i64 m.kind,.int .u64 m.epoch,.int .u64 m.seq,.int .u64 m.pos,.int .i64 m.count,.int .i64 m.state,.slice a1 m.streams.length a1',.slice a2 m.links.length a2',.slice a3 m.data.length a3',.int .u64 m.sea.epoch,.int .u64 m.sea.node,.int .u64 m.sea.tail,.int .u64 m.proj.epoch,.slice a4 m.proj.stripes.length a4'],.bool q])∧AH (fun q=>w.heap.size≤q∧q<w'.heap.size) w' m a1 a1' a2 a2' a3 a3' a4 a4'∧AB w g B a s1 w':=by
 have hC:=QI w h hB k;have hN:=J0 (B:=B) (blk:=DB B) (s:=s) hk;rw[hZ] at hC hN;refine hC.mono ?_;rintro r w' ⟨v1,v2,v3,v4,rfl,⟨h1,h2,h3,h4⟩,hst⟩;obtain⟨a1,a1',hfv,_,_⟩:=At h1;simp only[Ai,As] at hfv;subst hfv;obtain⟨a2,a2',hfv,_,_⟩:=At h2;simp only[Ai,As] at hfv;subst hfv;obtain⟨a3,a3',hfv,_,_⟩:=At h3;simp only[Ai,As] at hfv;subst hfv;obtain⟨a4,a4',hfv,_,_⟩:=At h4;simp only[Ai,As] at hfv;subst hfv;exact⟨a1,a1',a2,a2',a3,a3',a4,a4',rfl,hN.to h1 h2 h3 h4,hst⟩
theorem Vt(w:World)(a:Option Addr)(c:Nat)(B:List UInt8)(hl:Ah.r (·<w.heap.size) w [.slice a B.length c] B)(s:Rs)(hs:s.ok B.length)(hB:B.length≤1000000000)(k:Int)(hk:inI k)(strict:Bool){s1:Rs}{m:Msg}{q:Bool}(hZ:s.body B (if strict then CG B else DB B) k=(s1,m,q)):
  Calls Tryz.prog 41 #[CV a B.length c s,.int .i64 k,.bool strict] w fun r w'=>∃a1 a1' a2 a2' a3 a3' a4 a4',r=.returned (.tuple #[CV a B.length c s1,.agg Vy,.bool q])∧AH (fun q=>w.heap.size≤q∧q<w'.heap.size) w' m a1 a1' a2 a2' a3 a3' a4 a4'∧Below w.heap.size w w':=by
 have hC:=Pu w a c B hl s hs hB k strict _ rfl;have hN:=J0 (B:=B) (blk:=if strict then CG B else DB B) (s:=s) hk;rw[hZ] at hC hN;refine hC.mono ?_;rintro r w' ⟨v1,v2,v3,v4,rfl,⟨h1,h2,h3,h4⟩,hst⟩;obtain⟨a1,a1',hfv,_,_⟩:=At h1;simp only[Ai,As] at hfv;subst hfv;obtain⟨a2,a2',hfv,_,_⟩:=At h2;simp only[Ai,As] at hfv;subst hfv;obtain⟨a3,a3',hfv,_,_⟩:=At h3;simp only[Ai,As] at hfv;subst hfv;obtain⟨a4,a4',hfv,_,_⟩:=At h4;simp only[Ai,As] at hfv;subst hfv;exact⟨a1,a1',a2,a2',a3,a3',a4,a4',rfl,hN.to h1 h2 h3 h4,hst⟩
theorem Hw(m:Msg)(W:World)(a1 a2 a3 a4 b1 b2 b3 b4:Option Addr)(a1' a2' a3' a4' b1' b2' b3' b4':Nat)(h1:AH (·<W.heap.size) W m a1 a1' a2 a2' a3 a3' a4 a4')(h2:AH (·<W.heap.size) W m b1 b1' b2 b2' b3 b3' b4 b4'):
  Calls Tryz.prog 22 #[.agg Vy,.agg #[.int .i64 m.kind,.int .u64 m.epoch,.int .u64 m.seq,.int .u64 m.pos,.int .i64 m.count,.int .i64 m.state,.slice b1 m.streams.length b1',.slice b2 m.links.length b2',.slice b3 m.data.length b3',.int .u64 m.sea.epoch,.int .u64 m.sea.node,.int .u64 m.sea.tail,.int .u64 m.proj.epoch,.slice b4 m.proj.stripes.length b4']] W fun r w'=>r=.returned (.bool true)∧Below W.heap.size W w':=by
 have:=Pt m m a1 a1' a2 a2' a3 a3' a4 a4' b1 b1' b2 b2' b3 b3' b4 b4' W h1 h2;simp only[decide_true] at this;exact this
theorem AH.BI{S':Nat→Prop}(h:AH S w m a1 c1 a2 c2 a3 c3 a4 c4)(hk:∀q,S q→w'.heap[q]? =w.heap[q]?)(hs:∀q,S q→S' q):AH S' w' m a1 c1 a2 c2 a3 c3 a4 c4:=
 AH.tr (fun A cs x hx=>A.mono (A.keep hx hk) hs) h
theorem Pn(w:World){g:Nat}{B:List UInt8}{a:Option Addr}{s1:Rs}{m:Msg}{q:Bool}(h:AY w g B a s)(hB:B.length≤1000000000)(k:Int)(hk:inI k)(hZ:s.body B (CG B) k=(s1,m,q)):
  Calls Tryz.prog 133 #[.pointer (some ⟨g,0,none⟩),.int .i64 k] w fun r w'=>∃a1 a1' a2 a2' a3 a3' a4 a4',r=.returned (.tuple #[.agg #[.int .i64 m.kind,.int .u64 m.epoch,.int .u64 m.seq,.int .u64 m.pos,.int .i64 m.count,.int .i64 m.state,.slice a1 m.streams.length a1',.slice a2 m.links.length a2',.slice a3 m.data.length a3',.int .u64 m.sea.epoch,.int .u64 m.sea.node,.int .u64 m.sea.tail,.int .u64 m.proj.epoch,.slice a4 m.proj.stripes.length a4'],.bool (decide (s1.k=0))])∧AH (fun q=>w.heap.size≤q∧q<w'.heap.size) w' m a1 a1' a2 a2' a3 a3' a4 a4'∧AB w g B a s1 w':=by
 have hlt:=h.blk.lt;have HIN:=hid (CY.refl h);have HC:=hid (fun (W:World) (hW:AY W g B a s)=>Vk W hW hB k hk hZ);obtain⟨G,hG⟩:∃G,G=decide (s1.k=0):=⟨_,rfl⟩;have HGG:=hid (fun (V:World) (hV:AY V g B a s1)=>(by have:=AG V hV;rw[←hG] at this;exact this:Calls Tryz.prog 44 #[.pointer (some ⟨g,0,none⟩)] V fun r w'=>r=.returned (.bool G)∧Below V.heap.size V w'));rw[←hG];clear h hG hZ;have hb0:Below w.heap.size w (w.alloc (.cells Vz 32)):=zA;have R0:Blk (w.alloc (.cells Vz 32)) w.heap.size 32 zeroCells:=zB;have HIN0:=hid (HIN.out.row hb0);have hsz0:w.heap.size<((w.alloc (.cells Vz 32))).heap.size:=zP;go_enter Tryz.func133,Tryz.ntmps133;go_wp2_with fail;generalize (w.alloc (.cells Vz 32))=W at*;refine (HC.out W HIN0.out.rd).mono ?_;rintro r w1 ⟨a1,a1',a2,a2',a3,a3',a4,a4',rfl,hm1,hst1⟩;have R1:=R0.tch hst1.2 zD;have HIN1:=hid (HIN0.out.step hst1);have hz1:=hst1.2.size;have X1:=hid (AH.BI hm1 (fun q hq=>rfl) (fun q hq=>(⟨zV,hq.2⟩:w.heap.size<q∧q<w1.heap.size)));have lr:=R1.lt;clear hm1 hst1 R0 hb0;have SK:=hid (fun (w':World) (h0:Blk w' w1.heap.size 32 #[.int .i64 m.kind,.int .u64 m.epoch,.int .u64 m.seq,.int .u64 m.pos,.int .i64 m.count,.int .i64 m.state,.slice a1 m.streams.length a1',.slice a2 m.links.length a2',.slice a3 m.data.length a3',.int .u64 m.sea.epoch,.int .u64 m.sea.node,.int .u64 m.sea.tail,.int .u64 m.proj.epoch,.slice a4 m.proj.stripes.length a4'])=>(⟨h0.cell 0,h0.cell 1,h0.cell 2,h0.cell 3,h0.cell 4,h0.cell 5,h0.cell 6,h0.cell 7,h0.cell 8,h0.cell 9,h0.cell 10,h0.cell 11,h0.cell 12,h0.cell 13⟩:w'.cell? ⟨w1.heap.size,0,none⟩=some (.int .i64 m.kind)∧w'.cell? ⟨w1.heap.size,1,none⟩=some (.int .u64 m.epoch)∧w'.cell? ⟨w1.heap.size,2,none⟩=some (.int .u64 m.seq)∧w'.cell? ⟨w1.heap.size,3,none⟩=some (.int .u64 m.pos)∧w'.cell? ⟨w1.heap.size,4,none⟩=some (.int .i64 m.count)∧w'.cell? ⟨w1.heap.size,5,none⟩=some (.int .i64 m.state)∧w'.cell? ⟨w1.heap.size,6,none⟩=some (.slice a1 m.streams.length a1')∧w'.cell? ⟨w1.heap.size,7,none⟩=some (.slice a2 m.links.length a2')∧w'.cell? ⟨w1.heap.size,8,none⟩=some (.slice a3 m.data.length a3')∧w'.cell? ⟨w1.heap.size,9,none⟩=some (.int .u64 m.sea.epoch)∧w'.cell? ⟨w1.heap.size,10,none⟩=some (.int .u64 m.sea.node)∧w'.cell? ⟨w1.heap.size,11,none⟩=some (.int .u64 m.sea.tail)∧w'.cell? ⟨w1.heap.size,12,none⟩=some (.int .u64 m.proj.epoch)∧w'.cell? ⟨w1.heap.size,13,none⟩=some (.slice a4 m.proj.stripes.length a4')));have E2:Blk (w1.alloc (.cells Vy 32)) w1.heap.size 32 Vy:=Blk.newAt _ _ _ rfl;have R2:Blk (w1.alloc (.cells Vy 32)) w.heap.size 32 zeroCells:=R1.alloc _;have hb12:Below w1.heap.size w1 (w1.alloc (.cells Vy 32)):=zA;have HIN2:=hid (HIN1.out.row (hb12.mono zD));have X2:=hid (AH.BI X1.out (fun q hq=>hb12.block q hq.2) (fun q hq=>(⟨hq.1,Am hq.2 hb12.size⟩:w.heap.size<q∧q<((w1.alloc (.cells Vy 32))).heap.size)));have HS2:=hid (SK.out (w1.alloc (.cells Vy 32)) E2);have hz2:w1.heap.size<((w1.alloc (.cells Vy 32))).heap.size:=zP;clear R1 hb12;go_wp2_with fail;generalize (w1.alloc (.cells Vy 32))=w2 at*;have HRD3:=hid (HIN2.out.rd.later (show Below w2.heap.size w2 w2.drew from (Below.refl _ _).drew));refine AW (S:=fun w'=>w'.cell? ⟨w1.heap.size,0,none⟩=some (.int .i64 m.kind)∧w'.cell? ⟨w1.heap.size,1,none⟩=some (.int .u64 m.epoch)∧w'.cell? ⟨w1.heap.size,2,none⟩=some (.int .u64 m.seq)∧w'.cell? ⟨w1.heap.size,3,none⟩=some (.int .u64 m.pos)∧w'.cell? ⟨w1.heap.size,4,none⟩=some (.int .i64 m.count)∧w'.cell? ⟨w1.heap.size,5,none⟩=some (.int .i64 m.state)∧w'.cell? ⟨w1.heap.size,6,none⟩=some (.slice a1 m.streams.length a1')∧w'.cell? ⟨w1.heap.size,7,none⟩=some (.slice a2 m.links.length a2')∧w'.cell? ⟨w1.heap.size,8,none⟩=some (.slice a3 m.data.length a3')∧w'.cell? ⟨w1.heap.size,9,none⟩=some (.int .u64 m.sea.epoch)∧w'.cell? ⟨w1.heap.size,10,none⟩=some (.int .u64 m.sea.node)∧w'.cell? ⟨w1.heap.size,11,none⟩=some (.int .u64 m.sea.tail)∧w'.cell? ⟨w1.heap.size,12,none⟩=some (.int .u64 m.proj.epoch)∧w'.cell? ⟨w1.heap.size,13,none⟩=some (.slice a4 m.proj.stripes.length a4')) zL HS2.out (fun hHeld=> ?_);refine Al (i:=0) (oi:=_) (v:=?_) rfl zG zG zG (fun _ _ _ h=>h) (Or.inl ⟨zT,?_⟩) zN ?_;rotate_left
 ·(intro w hSw;(try dsimp only at hSw);go_simp<;>with_reducible rfl)
 (try simp only[Act.put,Aa,Ab,Ac])
 refine Al (i:=1) (oi:=_) (v:=?_) rfl zG zG zG (fun _ _ _ h=>h) (Or.inl ⟨zT,?_⟩) zN ?_;rotate_left
 ·(intro w hSw;(try dsimp only at hSw);go_simp<;>with_reducible rfl)
 (try simp only[Act.put,Aa,Ab,Ac])
 refine AF (rs:=[2]) zG zP ?_;refine Ax (o:=_) rfl (fun K hK=> ?_) AllReadyH.nil
 (go_simp;go_at_call 44;refine (HGG.out _ HRD3.out).mono ?_;rintro e1 w7 ⟨rfl,hb7⟩;have E7:=E2.drew.later hb7;have R7:=R2.drew.later hb7;have HB7:=hid hb7;have hs7:w2.heap.size≤w7.heap.size:=hb7.size;obtain⟨x0,x1,x2,x3,x4,x5,x6,x7,x8,x9,x10,x11,x12,x13,l1⟩:=AJ R7;obtain⟨f0,f1,f2,f3,f4,f5,f6,f7,f8,f9,f10,f11,f12,f13⟩:=Be R7;clear E2 R2 hb7;(try dsimp only))
 refine hK.out _ _ ?_ (fun hHeld=> ?_)
 ·exact SK.out _ zF
 clear hK K
 (try simp only[Act.put,Aa,Ab,Ac])
 (try simp only[AE,Az,AA,Act.put,Aa,Ab,Ac])
 refine AF (rs:=[3]) zG zP ?_;refine Ax (o:=_) rfl (fun K hK=> ?_) AllReadyH.nil;go_simp
 refine hK.out _ _ ?_ (fun hHeld=> ?_)
 ·exact SK.out _ zF
 clear hK K
 (try simp only[Act.put,Aa,Ab,Ac])
 refine Al (i:=4) (oi:=_) (v:=?_) rfl zG zG zG (fun _ _ _ h=>h) (Or.inl ⟨zT,?_⟩) zN ?_;rotate_left
 ·(intro w hSw;(try dsimp only at hSw);go_simp<;>with_reducible rfl)
 (try simp only[Act.put,Aa,Ab,Ac])
 (try simp only[AE,Az,AA,Act.put,Aa,Ab,Ac])
 refine Bp zL ?_ _;go_wp2_with fail;have hput:=EJ (W:=w7) (m:=m) (v1:=.slice a1 m.streams.length a1') (v2:=.slice a2 m.links.length a2') (v3:=.slice a3 m.data.length a3') (v4:=.slice a4 m.proj.stripes.length a4') (cs:=#[]) R7;refine A9 (fun W=>Blk W w.heap.size 32 (Cf m (.slice a1 m.streams.length a1') (.slice a2 m.links.length a2') (.slice a3 m.data.length a3') (.slice a4 m.proj.stripes.length a4'))∧Tch (·=w.heap.size) w7 W) ⟨hput,G5⟩ ?_;intro W5 ⟨q5,ht5⟩;obtain⟨n0,n1,n2,n3,n4,n5,n6,n7,n8,n9,n10,n11,n12,n13,ln⟩:=AJ q5;have hb27:Below w2.heap.size w2 w7:=((Below.refl _ _).drew:Below w2.heap.size w2 w2.drew).trans HB7.out;have hbF:Below w.heap.size w2 W5:=(hb27.mono zD).trans (ht5.Ba zD fun b _ e=>zD);have hz5:=ht5.size;refine Af (v:=.tuple #[.agg Vy,.bool G]) (by simp[results,Tryz.results133,go_sem,n0,n1,n2,n3,n4,n5,n6,n7,n8,n9,n10,n11,n12,n13]) rfl ⟨a1,a1',a2,a2',a3,a3',a4,a4',rfl,AH.BI X2.out (fun q hq=>(ht5.block q zAe zV).trans (hb27.block q hq.2)) (fun q hq=>⟨zV,zAe⟩),(HIN2.out.row hbF).to⟩
theorem DV:AH S w C7 none 0 none 0 none 0 none 0:=
 ⟨⟨zS,zS⟩,BX,BX,BX,⟨zS,zS⟩,⟨zS,zS⟩,BX,BX,BX,BX,AZ (xs:=[]) rfl (Ao _) (Ao _) (.inl rfl),AZ (xs:=[]) rfl (Ao _) (Ao _) (.inl rfl),AZ (xs:=[]) rfl (Ao _) (Ao _) (.inl rfl),AZ (xs:=[]) rfl (Ao _) (Ao _) (.inl rfl)⟩
structure T9(B:List UInt8)(fn:Nat)(blk:Rs→Rs × List UInt8 × Bool)(fl:Rs→Bool→Bool):Prop where
 ent:∀(xs:Array Value) (W:World),(callFunc fn xs).run Tryz.prog W=.ok (.enter fn xs) W
 call:∀(w:World) (g:Nat) (a:Option Addr) (s s1:Rs) (m:Msg) (q:Bool) (k:Int),AY w g B a s→inI k→s.body B blk k=(s1,m,q)→Calls Tryz.prog fn #[.pointer (some ⟨g,0,none⟩),.int .i64 k] w fun r w'=>∃a1 a1' a2 a2' a3 a3' a4 a4',r=.returned (.tuple #[.agg #[.int .i64 m.kind,.int .u64 m.epoch,.int .u64 m.seq,.int .u64 m.pos,.int .i64 m.count,.int .i64 m.state,.slice a1 m.streams.length a1',.slice a2 m.links.length a2',.slice a3 m.data.length a3',.int .u64 m.sea.epoch,.int .u64 m.sea.node,.int .u64 m.sea.tail,.int .u64 m.proj.epoch,.slice a4 m.proj.stripes.length a4'],.bool (fl s1 q)])∧AH (fun q=>w.heap.size≤q∧q<w'.heap.size) w' m a1 a1' a2 a2' a3 a3' a4 a4'∧AB w g B a s1 w'
theorem IH(hB:B.length≤1000000000):T9 B 133 (CG B) (fun s _=>decide (s.k=0)):=
 ⟨fun xs W=>zCu,fun w g a s s1 m q k h hk hZ=>Pn w h hB k hk hZ⟩
theorem RN(hB:B.length≤1000000000):T9 B 40 (DB B) (fun _ q=>q):=
 ⟨fun xs W=>zCu,fun w g a s s1 m q k h hk hZ=>Vl w h hB k hk hZ⟩
def Rs.kd(s:Rs)(y:Int):Rs:=if 1≤y∧y≤14 then s else s.fail 7 0
def Eb(B:List UInt8)(blk:Rs→Rs × List UInt8 × Bool)(fl:Rs→Bool→Bool):Msg × Bool × Int × Int:=
 let u:=(⟨0,0,0⟩:Rs).byte B
 let e:=(u.1.kd (u.2.toNat:Int)).ep B
 let n:=e.1.num B
 if n.1.k=0 then
  let t:=n.1.body B blk (u.2.toNat:Int)
  let z:=t.1.fin B.length
  if z.k=0 then (⟨t.2.1.kind,(e.2:Int),(n.2:Int),t.2.1.pos,t.2.1.count,t.2.1.state,t.2.1.streams,t.2.1.links,t.2.1.data,t.2.1.sea,t.2.1.proj⟩,fl t.1 t.2.2,0,0) else (C7,false,z.k,z.f)
 else (C7,false,n.1.k,n.1.f)
theorem AH.put{e n:Int}(h:AH S w m a1 c1 a2 c2 a3 c3 a4 c4)(he:inU e)(hn:inU n):AH S w ⟨m.kind,e,n,m.pos,m.count,m.state,m.streams,m.links,m.data,m.sea,m.proj⟩ a1 c1 a2 c2 a3 c3 a4 c4:=
 ⟨h.kind,he,hn,h.pos,h.count,h.state,h.sealE,h.sealN,h.sealT,h.projE,h.streams,h.links,h.data,h.stripes⟩
structure NH(w:World)(B:List UInt8)(a:Option Addr)(s:Rs)(W:World):Prop where
 rd:AY W (w.heap.size+1+1) B a s
 mb:Blk W w.heap.size 32 zeroCells
 fb:Blk W (w.heap.size+1) 58 #[.int .i64 0,.int .i64 0]
 bl:Below w.heap.size w W
section
variable {w W W':World} {B:List UInt8} {a:Option Addr} {s s':Rs}
theorem NH.step(h:NH w B a s W)(k:AB W (w.heap.size+1+1) B a s' W'):NH w B a s' W':=
 ⟨k.1,h.mb.tch k.2 zD,h.fb.tch k.2 zD,h.bl.trans (k.2.Ba h.bl.size fun b hb e=>zD)⟩
theorem NH.row(h:NH w B a s W)(hb:Below W.heap.size W W'):NH w B a s W':=
 ⟨h.rd.later hb,h.mb.later hb,h.fb.later hb,h.bl.trans (hb.mono h.bl.size)⟩
theorem CI{M F:Nat}{v5 v6 v7 v8 v9 v10 v11 v12 v13 k f:Value}(hm:Blk W M 32 zeroCells)(hf:Blk W F 58 #[.int .i64 0,.int .i64 0])(hne:F≠M):
  Blk (((((((((((((((((W).setCell ⟨M,0,none⟩ (v0)).setCell ⟨M,1,none⟩ (v1)).setCell ⟨M,2,none⟩ (v2)).setCell ⟨M,3,none⟩ (v3)).setCell ⟨M,4,none⟩ (v4)).setCell ⟨M,5,none⟩ (v5)).setCell ⟨M,6,none⟩ (v6)).setCell ⟨M,7,none⟩ (v7)).setCell ⟨M,8,none⟩ (v8)).setCell ⟨M,9,none⟩ (v9)).setCell ⟨M,10,none⟩ (v10)).setCell ⟨M,11,none⟩ (v11)).setCell ⟨M,12,none⟩ (v12)).setCell ⟨M,13,none⟩ (v13)).setCell ⟨F,0,none⟩ (k)).setCell ⟨F,1,none⟩ (f)) M 32 #[v0,v1,v2,v3,v4,v5,v6,v7,v8,v9,v10,v11,v12,v13]∧Blk (((((((((((((((((W).setCell ⟨M,0,none⟩ (v0)).setCell ⟨M,1,none⟩ (v1)).setCell ⟨M,2,none⟩ (v2)).setCell ⟨M,3,none⟩ (v3)).setCell ⟨M,4,none⟩ (v4)).setCell ⟨M,5,none⟩ (v5)).setCell ⟨M,6,none⟩ (v6)).setCell ⟨M,7,none⟩ (v7)).setCell ⟨M,8,none⟩ (v8)).setCell ⟨M,9,none⟩ (v9)).setCell ⟨M,10,none⟩ (v10)).setCell ⟨M,11,none⟩ (v11)).setCell ⟨M,12,none⟩ (v12)).setCell ⟨M,13,none⟩ (v13)).setCell ⟨F,0,none⟩ (k)).setCell ⟨F,1,none⟩ (f)) F 58 #[k,f]∧Tch (fun b=>b=M∨b=F) W (((((((((((((((((W).setCell ⟨M,0,none⟩ (v0)).setCell ⟨M,1,none⟩ (v1)).setCell ⟨M,2,none⟩ (v2)).setCell ⟨M,3,none⟩ (v3)).setCell ⟨M,4,none⟩ (v4)).setCell ⟨M,5,none⟩ (v5)).setCell ⟨M,6,none⟩ (v6)).setCell ⟨M,7,none⟩ (v7)).setCell ⟨M,8,none⟩ (v8)).setCell ⟨M,9,none⟩ (v9)).setCell ⟨M,10,none⟩ (v10)).setCell ⟨M,11,none⟩ (v11)).setCell ⟨M,12,none⟩ (v12)).setCell ⟨M,13,none⟩ (v13)).setCell ⟨F,0,none⟩ (k)).setCell ⟨F,1,none⟩ (f)):=by
 have h1:=((((((((((((((hm.set 0 v0).set 1 v1).set 2 v2).set 3 v3).set 4 v4).set 5 v5).set 6 v6).set 7 v7).set 8 v8).set 9 v9).set 10 v10).set 11 v11).set 12 v12).set 13 v13);simp only[zeroCells,Aa,Ab,Ac] at h1;have h2:=G5 (W:=W) (R:=M) (u0:=v0) (u1:=v1) (u2:=v2) (u3:=v3) (u4:=v4) (u5:=v5) (u6:=v6) (u7:=v7) (u8:=v8) (u9:=v9) (u10:=v10) (u11:=v11) (u12:=v12) (u13:=v13);have h3:=hf.tch h2 hne;generalize ((((((((((((((W).setCell ⟨M,0,none⟩ (v0)).setCell ⟨M,1,none⟩ (v1)).setCell ⟨M,2,none⟩ (v2)).setCell ⟨M,3,none⟩ (v3)).setCell ⟨M,4,none⟩ (v4)).setCell ⟨M,5,none⟩ (v5)).setCell ⟨M,6,none⟩ (v6)).setCell ⟨M,7,none⟩ (v7)).setCell ⟨M,8,none⟩ (v8)).setCell ⟨M,9,none⟩ (v9)).setCell ⟨M,10,none⟩ (v10)).setCell ⟨M,11,none⟩ (v11)).setCell ⟨M,12,none⟩ (v12)).setCell ⟨M,13,none⟩ (v13)=V at*;have h4:=(h3.set 0 k).set 1 f;simp only[Aa,Ab,Ac] at h4;refine⟨(h1.far (by exact hne.symm) _).far (by exact hne.symm) _,h4,?_⟩;refine Tch.setCell (F:=fun b=>b=M∨b=F) (p:=⟨F,1,none⟩) ?_ (fun _=> .inr rfl) f;refine Tch.setCell (F:=fun b=>b=M∨b=F) (p:=⟨F,0,none⟩) ?_ (fun _=> .inr rfl) k;exact h2.mono fun b _ e=> .inl e
end
theorem NZ(w:World)(B:List UInt8)(a:Option Addr)(c0 c:Nat)(hl:Ah.r (·<w.heap.size) w [.slice a c0 c] B)(hB:B.length≤1000000000)(fn:Nat)(blk:Rs→Rs × List UInt8 × Bool)(fl:Rs→Bool→Bool)(hR:T9 B fn blk fl){x:Msg}(hZ:Eb B blk fl=(x,qx,kx,fx)):
  Calls Tryz.prog 138 #[.slice a c0 c,.func (Fn.func fn) #[] #[]] w fun r w'=>∃a1 a1' a2 a2' a3 a3' a4 a4',r=.returned (.tuple #[.agg #[.int .i64 x.kind,.int .u64 x.epoch,.int .u64 x.seq,.int .u64 x.pos,.int .i64 x.count,.int .i64 x.state,.slice a1 x.streams.length a1',.slice a2 x.links.length a2',.slice a3 x.data.length a3',.int .u64 x.sea.epoch,.int .u64 x.sea.node,.int .u64 x.sea.tail,.int .u64 x.proj.epoch,.slice a4 x.proj.stripes.length a4'],.bool qx,.agg #[.int .i64 kx,.int .i64 fx]])∧AH (fun q=>w.heap.size≤q∧q<w'.heap.size) w' x a1 a1' a2 a2' a3 a3' a4 a4'∧Below w.heap.size w w':=by
 obtain⟨rfl,hmx,hcc,hcm⟩:=AU hl;have HN:=hid (PM ((w.alloc (.cells Vz 32)).alloc (.cells #[.int .i64 0,.int .i64 0] 58)) B a _ c (lift hl zA));have hHR:=hid hR;unfold Eb at hZ;have HB0:=hid (fun (W:World) (h:AY W (w.heap.size+1+1) B a ⟨0,0,0⟩)=>KO W h);generalize (⟨0,0,0⟩:Rs).byte B=U at*;obtain⟨u,yb⟩:=U;dsimp only at HB0 hZ;have hy:=yb.toNat_lt;generalize yb.toNat=y at*;have HKR:=hid (fun (W:World)=>GV (y:Int) W);have HFL:=hid (fun (W:World) (h:AY W (w.heap.size+1+1) B a u)=>Br W h 7 0 zD);obtain⟨KG,hKG⟩:∃KG,KG=decide (1≤(y:Int)∧(y:Int)≤14):=⟨_,rfl⟩;rw[←hKG] at HKR;have hK1:(KG=true→u.kd (y:Int)=u)∧(KG=false→u.kd (y:Int)=u.fail 7 0):=
  ⟨fun e=>An (Cu (hKG.symm.trans e)),fun e=>Ak (Em (hKG.symm.trans e))⟩
 have HK1:=hid hK1;clear hK1 hKG hR;generalize u.kd (y:Int)=s1 at*;have HE:=hid (fun (W:World) (h:AY W (w.heap.size+1+1) B a s1)=>IQ W h hB);have hue:inU ((s1.ep B).2:Int):=Rs.TN;generalize s1.ep B=E at*;obtain⟨s2,e⟩:=E;dsimp only at HE hZ hue;have HV:=hid (fun (W:World) (h:AY W (w.heap.size+1+1) B a s2)=>CH W h zD);have hun:inU ((s2.num B).2:Int):=by
  have:=Rs.Cp (B:=B) (s:=s2);unfold inU;exact⟨zD,zD⟩
 generalize s2.num B=V0 at*;obtain⟨s3,n⟩:=V0;dsimp only at HV hZ hun;have HUE:=hid hue;have HUN:=hid hun;have HZ:=hid hZ;have HY:inI (y:Int):=⟨zD,zD⟩;have HYI:=hid HY;clear hue hun hZ HY hl;go_enter Tryz.func138,Tryz.ntmps138;go_wp2_with fail;refine HN.out.mono ?_;rintro r w1 ⟨rfl,hrd,hb1⟩;have I1:NH w B a ⟨0,0,0⟩ w1:=⟨by simpa using hrd,Blk.later zB hb1,Blk.later zB hb1,zA⟩;have HI1:=hid I1;clear I1 hrd hb1;simp;go_wp2_with fail;refine (HB0.out _ HI1.out.rd).mono ?_;rintro r w2 ⟨rfl,hst⟩;have HI2:=hid (HI1.out.step hst);clear hst HI1;go_wp2_with fail;refine (HKR.out _).mono ?_;rintro r w2' ⟨rfl,rfl⟩;go_upto_if 21 with (fail);go_cut [] from 22 to 23 (fun V=>Hid (NH w B a s1 V))
 case first=>
  have hk1:=HK1.out;cases KG
  ·rw[←hk1.2 rfl] at HFL
   go_wp2_with fail;refine (HFL.out _ HI2.out.rd).mono ?_;rintro r w3 ⟨rfl,hst⟩;have HI3:=hid (HI2.out.step hst);clear hst HI2;go_wp2_with fail;go_meet
   case rel=>exact HI3
  ·have HI3:=hid (NH.row HI2.out (Below.refl _ _))
   rw[←hk1.1 rfl] at HI3;go_wp2_with fail;go_meet
   case rel=>exact HI3
 case rest=>
  have HI3:=hcut;obtain⟨w30,hwn⟩:∃W:World,W=wc:=⟨_,rfl⟩;subst hwn;clear hcut HI2;go_wp2_with fail;refine (HE.out _ HI3.out.rd).mono ?_;rintro r w4 ⟨rfl,hst⟩;have HI4:=hid (HI3.out.step hst);clear hst HI3;go_wp2_with fail;refine (HV.out _ HI4.out.rd).mono ?_;rintro r w5 ⟨rfl,hst⟩;have HI5:=hid (HI4.out.step hst);clear hst HI4;have HF:=hid (fun (W:World) (h:AY W (w.heap.size+1+1) B a s3)=>Hr W h);by_cases hk:s3.k=0
  ·have hz:=HZ.out
   rw[An hk] at hz;have HG:=hid (fun (V:World) (hV:AY V (w.heap.size+1+1) B a s3)=>(by have:=AG V hV;rw[Ae hk] at this;exact this:Calls Tryz.prog 44 #[.pointer (some ⟨(w.heap.size+1+1),0,none⟩)] V fun r w'=>r=.returned (.bool true)∧Below V.heap.size V w'));generalize hT:s3.body B blk (y:Int)=T at*;obtain⟨s4,m,q⟩:=T;dsimp only at hz;have HC:=hid (fun (W:World) (h:AY W (w.heap.size+1+1) B a s3)=>hHR.out.call W _ a s3 s4 m q (y:Int) h HYI.out hT);have HFN:=hid (fun (W:World) (h:AY W (w.heap.size+1+1) B a s4)=>US W h);generalize s4.fin B.length=s5 at*;generalize fl s4 q=b at*;have HZ2:=hid hz;have HF5:=hid (fun (W:World) (h:AY W (w.heap.size+1+1) B a s5)=>Hr W h);have HGF:=hid (fun (W:World)=>CN W s5.k s5.f);clear hz hk hT HZ;go_wp2_with fail;refine (HG.out _ HI5.out.rd).mono ?_;rintro r w6 ⟨rfl,hb6⟩;have HI6:=hid (HI5.out.row hb6);clear hb6 HI5;go_wp2_with fail;rw[hHR.out.ent];refine (HC.out _ HI6.out.rd).mono ?_;rintro r w7 ⟨a1,a1',a2,a2',a3,a3',a4,a4',rfl,hm7,hst⟩;have HI7:=hid (HI6.out.step hst);have X7:=hid (AH.BI hm7 (fun q hq=>rfl) (fun q hq=>(⟨by have:=hq.1;have:=HI6.out.rd.blk.lt;omega,hq.2⟩:w.heap.size+1+1<q∧q<w7.heap.size)));have l7:=HI7.out.rd.blk.lt;have E8:Blk (w7.alloc (.cells Vy 32)) w7.heap.size 32 Vy:=Blk.newAt _ _ _ rfl;have hb8:Below w7.heap.size w7 (w7.alloc (.cells Vy 32)):=zA;have HI8:=hid (HI7.out.row hb8);have X8:=hid (AH.BI X7.out (fun q hq=>hb8.block q hq.2) (fun q hq=>(⟨hq.1,hq.2⟩:w.heap.size+1+1<q∧q<w7.heap.size)));have l8:w7.heap.size<((w7.alloc (.cells Vy 32))).heap.size:=zP;clear hst hm7 hb8 HI6 HI7 X7;go_wp2_with fail;generalize (w7.alloc (.cells Vy 32))=w8 at*;refine (HFN.out _ HI8.out.rd).mono ?_;rintro r w9 ⟨rfl,hst⟩;have E9:=hid (E8.tch hst.2 zD);have X9:=hid (AH.BI X8.out (fun q hq=>hst.2.block q zD zD) (fun q hq=>hq));have HI9:=hid (HI8.out.step hst);have l9:=Am l8 hst.2.size;clear hst HI8 X8 E8;go_wp2_with fail;refine (HF5.out _ HI9.out.rd).mono ?_;rintro r w10 ⟨rfl,hb10⟩;have E10:=hid (E9.out.later hb10);have X10:=hid (AH.BI X9.out (fun q hq=>hb10.block q zD) (fun q hq=>hq));have HI10:=hid (HI9.out.row hb10);have l10:=Am l9 hb10.size;have F11:Blk (w10.alloc (.cells #[.int .i64 s5.k,.int .i64 s5.f] 58)) w10.heap.size 58 #[.int .i64 s5.k,.int .i64 s5.f]:=Blk.newAt _ _ _ rfl;have hb11:Below w10.heap.size w10 (w10.alloc (.cells #[.int .i64 s5.k,.int .i64 s5.f] 58)):=zA;have HF11:=hid F11;have E11:=hid (E10.out.later hb11);have X11:=hid (AH.BI X10.out (fun q hq=>hb11.block q zD) (fun q hq=>hq));have HI11:=hid (HI10.out.row hb11);have l11:w10.heap.size<((w10.alloc (.cells #[.int .i64 s5.k,.int .i64 s5.f] 58))).heap.size:=zP;obtain⟨f0,f1,f2,f3,f4⟩:=A1 F11;clear hb10 HI9 X9 E9 hb11 HI10 X10 E10 F11;go_wp2_with fail;generalize (w10.alloc (.cells #[.int .i64 s5.k,.int .i64 s5.f] 58))=w11 at*;by_cases hk5:s5.k=0
   ·have hz:=HZ2.out
    rw[An hk5] at hz;rw[Ae hk5] at HGF;simp only[A7] at hz;obtain⟨rfl,rfl,rfl,rfl⟩:=hz;clear HZ2 hk5;refine (HGF.out _).mono ?_;rintro r w12 ⟨rfl,hb12⟩;have E12:=E11.out.later hb12;have X12:=hid (AH.BI X11.out (fun q hq=>hb12.block q zD) (fun q hq=>hq));have HI12:=hid (HI11.out.row hb12);have l12:=Am l11 hb12.size;obtain⟨y0,y1,y2,y3,y4,y5,y6,y7,y8,y9,y10,y11,y12,y13,ly⟩:=AJ E12;obtain⟨g0,g1,g2,g3,g4,g5,g6,g7,g8,g9,g10,g11,g12,g13⟩:=Be E12;clear hb12 HI11 X11 E11 f0 f1 f2 f3 f4;go_upto_region 15 with (fail);have E13:Blk ((w12.setCell ⟨w7.heap.size,1,none⟩ (.int .u64 (e:Int))).setCell ⟨w7.heap.size,2,none⟩ (.int .u64 (n:Int))) w7.heap.size 32 VC:=by
     have:=(E12.set 1 (.int .u64 (e:Int))).set 2 (.int .u64 (n:Int));simp only[Aa,Ab,Ac] at this;exact this
    have ht13:Tch (·=w7.heap.size) w12 ((w12.setCell ⟨w7.heap.size,1,none⟩ (.int .u64 (e:Int))).setCell ⟨w7.heap.size,2,none⟩ (.int .u64 (n:Int))):=by
     refine Tch.setCell (F:=(·=w7.heap.size)) (p:=⟨w7.heap.size,2,none⟩) ?_ (fun _=>rfl) _;refine Tch.setCell (F:=(·=w7.heap.size)) (p:=⟨w7.heap.size,1,none⟩) ?_ (fun _=>rfl) _;exact Tch.refl _ _
    generalize ((w12.setCell ⟨w7.heap.size,1,none⟩ (.int .u64 (e:Int))).setCell ⟨w7.heap.size,2,none⟩ (.int .u64 (n:Int)))=w13 at*;have hM:=HI12.out.mb.tch ht13 zD;have hF:=HI12.out.fb.tch ht13 zD;have hbl:=HI12.out.bl.trans (ht13.Ba HI12.out.bl.size fun b hb e=>zD);have X13:=hid (AH.BI X12.out (fun q hq=>ht13.block q zD zD) (fun q hq=>hq));clear y0 y1 y2 y3 y4 y5 y6 y7 y8 y9 y10 y11 y12 y13 ly g0 g1 g2 g3 g4 g5 g6 g7 g8 g9 g10 g11 g12 g13 E12 HI12 X12;have l13:=Am l12 ht13.size;obtain⟨y0,y1,y2,y3,y4,y5,y6,y7,y8,y9,y10,y11,y12,y13,ly⟩:=AJ E13;obtain⟨r0,r1,r2,r3,r4,r5,r6,r7,r8,r9,r10,r11,r12,r13,lr⟩:=AJ hM;obtain⟨g0,g1,g2,g3,g4,g5,g6,g7,g8,g9,g10,g11,g12,g13⟩:=Be hM;obtain⟨f0,f1,f2,f3,f4⟩:=A1 hF;clear ht13;go_wp2_with fail;have hput:=CI (k:=.int .i64 0) (f:=.int .i64 0) (v0:=.int .i64 m.kind) (v1:=.int .u64 (e:Int)) (v2:=.int .u64 (n:Int)) (v3:=.int .u64 m.pos) (v4:=.int .i64 m.count) (v5:=.int .i64 m.state) (v6:=.slice a1 m.streams.length a1') (v7:=.slice a2 m.links.length a2') (v8:=.slice a3 m.data.length a3') (v9:=.int .u64 m.sea.epoch) (v10:=.int .u64 m.sea.node) (v11:=.int .u64 m.sea.tail) (v12:=.int .u64 m.proj.epoch) (v13:=.slice a4 m.proj.stripes.length a4') hM hF zD;refine A9 (fun W=>Blk W w.heap.size 32 VC∧Blk W (w.heap.size+1) 58 #[.int .i64 0,.int .i64 0]∧Tch (fun b=>b=w.heap.size∨b=w.heap.size+1) w13 W) hput ?_;intro W5 ⟨q5,p5,ht5⟩;obtain⟨n0,n1,n2,n3,n4,n5,n6,n7,n8,n9,n10,n11,n12,n13,ln⟩:=AJ q5;obtain⟨p0,p1,p2,p3,p4⟩:=A1 p5;have hz5:=ht5.size;refine Af (v:=.tuple #[.agg VC,.bool b,.agg #[.int .i64 0,.int .i64 0]]) ZU rfl ⟨a1,a1',a2,a2',a3,a3',a4,a4',rfl,AH.put (AH.BI X13.out (fun q hq=>ht5.block q zD zD) (fun q hq=>⟨zD,zD⟩)) HUE.out HUN.out,hbl.trans (ht5.Ba hbl.size fun b hb e=>zD)⟩
   ·have hz:=HZ2.out
    rw[Ak hk5] at hz;rw[Ad hk5] at HGF;simp only[A7] at hz;obtain⟨rfl,rfl,rfl,rfl⟩:=hz;clear HZ2 hk5;refine (HGF.out _).mono ?_;rintro r w12 ⟨rfl,hb12⟩;have HI12:=hid (HI11.out.row hb12);have hF12:=HF11.out.later hb12;have hF12d:=hF12.drew;have l12:=Am l11 hb12.size;have hM:=HI12.out.mb.drew;have hF:=HI12.out.fb.drew;have hbl:=HI12.out.bl.drew;have SK:=hid (fun (w':World) (h0:Blk w' w10.heap.size 58 #[.int .i64 s5.k,.int .i64 s5.f])=>(⟨h0.cell 0,h0.cell 1⟩:w'.cell? ⟨w10.heap.size,0,none⟩=some (.int .i64 s5.k)∧w'.cell? ⟨w10.heap.size,1,none⟩=some (.int .i64 s5.f)));have HS:=hid (SK.out w12 hF12);obtain⟨r0,r1,r2,r3,r4,r5,r6,r7,r8,r9,r10,r11,r12,r13,lr⟩:=AJ hM;obtain⟨g0,g1,g2,g3,g4,g5,g6,g7,g8,g9,g10,g11,g12,g13⟩:=Be hM;obtain⟨f0',f1',f2',f3',f4'⟩:=A1 hF;clear hb12 HI11 X11 E11 f0 f1 f2 f3 f4;go_wp2_with fail;refine AW (S:=fun w'=>w'.cell? ⟨w10.heap.size,0,none⟩=some (.int .i64 s5.k)∧w'.cell? ⟨w10.heap.size,1,none⟩=some (.int .i64 s5.f)) zL HS.out (fun hHeld=> ?_);refine Al (i:=0) (oi:=_) (v:=?_) rfl zG zG zG (fun _ _ _ h=>h) (Or.inl ⟨zT,?_⟩) zN ?_;rotate_left
    ·(intro w hSw;(try dsimp only at hSw);go_simp<;>with_reducible rfl)
    (try simp only[Act.put,Aa,Ab,Ac])
    refine Al (i:=1) (oi:=_) (v:=?_) rfl zG zG zG (fun _ _ _ h=>h) (Or.inl ⟨zT,?_⟩) zN ?_;rotate_left
    ·(intro w hSw;(try dsimp only at hSw);go_simp<;>with_reducible rfl)
    (try simp only[Act.put,Aa,Ab,Ac])
    generalize w12.drew=wd at*;refine AF (rs:=[2]) zG zP ?_;refine Ax (o:=_) rfl (fun K hK=> ?_) AllReadyH.nil;go_simp
    refine hK.out _ _ ?_ (fun hHeld=> ?_)
    ·exact SK.out _ zF
    clear hK K
    (try simp only[Act.put,Aa,Ab,Ac])
    refine Al (i:=3) (oi:=_) (v:=?_) rfl zG zG zG (fun _ _ _ h=>h) (Or.inl ⟨zT,?_⟩) zN ?_;rotate_left
    ·(intro w hSw;(try dsimp only at hSw);go_simp<;>with_reducible rfl)
    (try simp only[Act.put,Aa,Ab,Ac])
    refine AF (rs:=[4]) zG zP ?_;refine Ax (o:=_) rfl (fun K hK=> ?_) AllReadyH.nil;go_simp
    refine hK.out _ _ ?_ (fun hHeld=> ?_)
    ·exact SK.out _ zF
    clear hK K
    (try simp only[Act.put,Aa,Ab,Ac])
    (try simp only[AE,Az,AA,Act.put,Aa,Ab,Ac])
    refine Bp zL ?_ _;go_wp2_with fail;have hput:=CI (k:=.int .i64 s5.k) (f:=.int .i64 s5.f) (v0:=.int .i64 0) (v1:=.int .u64 0) (v2:=.int .u64 0) (v3:=.int .u64 0) (v4:=.int .i64 0) (v5:=.int .i64 0) (v6:=.slice none 0 0) (v7:=.slice none 0 0) (v8:=.slice none 0 0) (v9:=.int .u64 0) (v10:=.int .u64 0) (v11:=.int .u64 0) (v12:=.int .u64 0) (v13:=.slice none 0 0) hM hF zD;refine A9 (fun W=>Blk W w.heap.size 32 Vz∧Blk W (w.heap.size+1) 58 #[.int .i64 s5.k,.int .i64 s5.f]∧Tch (fun b=>b=w.heap.size∨b=w.heap.size+1) wd W) hput ?_;intro W5 ⟨q5,p5,ht5⟩;obtain⟨n0,n1,n2,n3,n4,n5,n6,n7,n8,n9,n10,n11,n12,n13,ln⟩:=AJ q5;obtain⟨p0,p1,p2,p3,p4⟩:=A1 p5;refine Af (v:=.tuple #[.agg Vz,.bool false,.agg #[.int .i64 s5.k,.int .i64 s5.f]]) ZU rfl ⟨none,0,none,0,none,0,none,0,rfl,DV,hbl.trans (ht5.Ba hbl.size fun b hb e=>zD)⟩
  ·have hz:=HZ.out
   rw[Ak hk] at hz;simp only[A7] at hz;obtain⟨rfl,rfl,rfl,rfl⟩:=hz;have HG:=hid (fun (V:World) (hV:AY V (w.heap.size+1+1) B a s3)=>(by have:=AG V hV;rw[Ad hk] at this;exact this:Calls Tryz.prog 44 #[.pointer (some ⟨(w.heap.size+1+1),0,none⟩)] V fun r w'=>r=.returned (.bool false)∧Below V.heap.size V w'));clear hk HZ;go_wp2_with fail;refine (HG.out _ HI5.out.rd).mono ?_;rintro r w6 ⟨rfl,hb6⟩;have HI6:=hid (HI5.out.row hb6);clear hb6 HI5;go_wp2_with fail;refine (HF.out _ HI6.out.rd).mono ?_;rintro r w12 ⟨rfl,hb12⟩;have HI12:=hid (HI6.out.row hb12);have hM:=HI12.out.mb;have hF:=HI12.out.fb;have hbl:=HI12.out.bl;obtain⟨r0,r1,r2,r3,r4,r5,r6,r7,r8,r9,r10,r11,r12,r13,lr⟩:=AJ hM;obtain⟨g0,g1,g2,g3,g4,g5,g6,g7,g8,g9,g10,g11,g12,g13⟩:=Be hM;obtain⟨f0,f1,f2,f3,f4⟩:=A1 hF;clear hb12 HI6;go_wp2_with fail;have hput:=CI (k:=.int .i64 s3.k) (f:=.int .i64 s3.f) (v0:=.int .i64 0) (v1:=.int .u64 0) (v2:=.int .u64 0) (v3:=.int .u64 0) (v4:=.int .i64 0) (v5:=.int .i64 0) (v6:=.slice none 0 0) (v7:=.slice none 0 0) (v8:=.slice none 0 0) (v9:=.int .u64 0) (v10:=.int .u64 0) (v11:=.int .u64 0) (v12:=.int .u64 0) (v13:=.slice none 0 0) hM hF zD;refine A9 (fun W=>Blk W w.heap.size 32 Vz∧Blk W (w.heap.size+1) 58 #[.int .i64 s3.k,.int .i64 s3.f]∧Tch (fun b=>b=w.heap.size∨b=w.heap.size+1) w12 W) hput ?_;intro W5 ⟨q5,p5,ht5⟩;obtain⟨n0,n1,n2,n3,n4,n5,n6,n7,n8,n9,n10,n11,n12,n13,ln⟩:=AJ q5;obtain⟨p0,p1,p2,p3,p4⟩:=A1 p5;refine Af (v:=.tuple #[.agg Vz,.bool false,.agg #[.int .i64 s3.k,.int .i64 s3.f]]) ZU rfl ⟨none,0,none,0,none,0,none,0,rfl,DV,hbl.trans (ht5.Ba hbl.size fun b hb e=>zD)⟩
theorem GX{m:Int}:(Jq ((⟨0,0,0⟩:Rs).frame B m)).2.1≤B.length∧(Jq ((⟨0,0,0⟩:Rs).frame B m)).1.length≤2097152:=by
 have h0:(⟨0,0,0⟩:Rs).ok B.length:=⟨Ao _,fun _=>rfl⟩;have h1:=Rs.FB h0 (min m 2097152);have h2:=Rs.GI h1 4;have h3:=Rs.FW (B:=B) (s:=⟨0,0,0⟩) (m:=min m 2097152);have h4:((⟨0,0,0⟩:Rs).Cd B (min m 2097152)).2.length≤2097152:=by
  unfold Rs.Cd;have:=Rs.take_len (B:=B) (s:=((⟨0,0,0⟩:Rs).int B (min m 2097152)).1) (n:=(((⟨0,0,0⟩:Rs).int B (min m 2097152)).2:Int));omega
 have h5:((⟨0,0,0⟩:Rs).frame B m).1.ok B.length:=by
  unfold Rs.frame;dsimp only;split
  ·exact h2
  ·exact Rs.BH h2 zD
 have h6:((⟨0,0,0⟩:Rs).frame B m).2.length≤2097152:=by
  unfold Rs.frame;dsimp only;generalize (if Dj (Rs.Cd B ⟨0,0,0⟩ (min m 2097152)).2=_ then _ else _:Rs)=r;by_cases hr:r.k=0
  ·rw[An hr];exact h4
  ·rw[Ak hr];simp
 unfold Jq;split
 ·exact⟨h5.le,h6⟩
 ·exact⟨Ao _,zP⟩
theorem Jr(w:World)(k f b:Int)(hk:k≠0):Calls Tryz.prog 143 #[.agg #[.int .i64 k,.int .i64 f],.int .i64 b] w fun r w'=>r=.returned (.agg #[.int .i64 k,.int .i64 (wrap64 (f+b))])∧Below w.heap.size w w':=by
 obtain⟨v,hv⟩:∃v,wrap64 (f+b)=v:=⟨_,rfl⟩;rw[hv];have HV:=hid hv;clear hv;go_enter Tryz.func143,Tryz.ntmps143;go_wp2_with fail;rw[HV.out];refine (Js _ k v hk).mono ?_;rintro r w1 ⟨rfl,hb1⟩;have B1:Blk w1 (w.heap.size+1) 58 #[.int .i64 0,.int .i64 0]:=Blk.later zB hb1;obtain⟨y0,y1,g0,g1,l1⟩:=A1 B1;have hbw:Below w.heap.size w w1:=zA;clear B1 hb1;go_wp2;refine Af (v:=.agg #[.int .i64 k,.int .i64 v]) (by simp[results,Tryz.results143,go_sem,y0,y1,g0,g1,l1]) rfl ⟨rfl,zA⟩
def DA(B:List UInt8)(blk:List UInt8→Rs→Rs × List UInt8 × Bool)(fl:Rs→Bool→Bool):Msg × Bool × Nat × Int × Int:=
 let g:=Jq ((⟨0,0,0⟩:Rs).frame B 2097152)
 if g.2.2.1=0 then
  let t:=Eb g.1 (blk g.1) fl
  if t.2.2.1=0 then (t.1,t.2.1,g.2.1,0,0) else (C7,false,0,t.2.2.1,wrap64 (t.2.2.2+((g.2.1:Int)-4-(g.1.length:Int))))
 else (C7,false,0,g.2.2.1,g.2.2.2)
structure Jv(w W:World):Prop where
 mb:Blk W w.heap.size 32 zeroCells
 fb:Blk W (w.heap.size+1) 58 #[.int .i64 0,.int .i64 0]
 bl:Below w.heap.size w W
section
variable {w W W':World}
theorem Jv.row(h:Jv w W)(hb:Below W.heap.size W W'):Jv w W':=
 ⟨h.mb.later hb,h.fb.later hb,h.bl.trans (hb.mono h.bl.size)⟩
theorem Jv.tch(h:Jv w W)(hg:w.heap.size+1<g)(hb:Tch (·=g) W W'):Jv w W':=
 ⟨h.mb.tch hb zD,h.fb.tch hb zD,h.bl.trans (hb.Ba h.bl.size fun b hb e=>zD)⟩
end
theorem Q9(w:World)(B:List UInt8)(a:Option Addr)(c0 c:Nat)(hl:Ah.r (·<w.heap.size) w [.slice a c0 c] B)(hB:B.length≤1000000000)(fn:Nat)(blk:List UInt8→Rs→Rs × List UInt8 × Bool)(fl:Rs→Bool→Bool)(hR:∀P:List UInt8,P.length≤1000000000→T9 P fn (blk P) fl){x:Msg}{nx:Nat}(hZ:DA B blk fl=(x,qx,nx,kx,fx)):
  Calls Tryz.prog 141 #[.slice a c0 c,.func (Fn.func fn) #[] #[]] w fun r w'=>∃a1 a1' a2 a2' a3 a3' a4 a4',r=.returned (.tuple #[.agg #[.int .i64 x.kind,.int .u64 x.epoch,.int .u64 x.seq,.int .u64 x.pos,.int .i64 x.count,.int .i64 x.state,.slice a1 x.streams.length a1',.slice a2 x.links.length a2',.slice a3 x.data.length a3',.int .u64 x.sea.epoch,.int .u64 x.sea.node,.int .u64 x.sea.tail,.int .u64 x.proj.epoch,.slice a4 x.proj.stripes.length a4'],.bool qx,.int .i64 (nx:Int),.agg #[.int .i64 kx,.int .i64 fx]])∧AH (fun q=>w.heap.size≤q∧q<w'.heap.size) w' x a1 a1' a2 a2' a3 a3' a4 a4'∧Below w.heap.size w w':=by
 obtain⟨rfl,hmx,hcc,hcm⟩:=AU hl;have hFG:=Sg ((w.alloc (.cells Vz 32)).alloc (.cells #[.int .i64 0,.int .i64 0] 58)) B a _ c (lift hl zA) hB 2097152 ⟨zS,zS⟩;unfold DA at hZ;obtain⟨hG1,hG2⟩:=GX (B:=B) (m:=2097152);generalize Jq ((⟨0,0,0⟩:Rs).frame B 2097152)=G at*;obtain⟨D,n,k1,f1⟩:=G;dsimp only at hFG hZ hG1 hG2;have HFG:=hid hFG;have HGD:=hid (fun (W:World)=>CN W k1 f1);have hz00:w.heap.size<(((w.alloc (.cells Vz 32)).alloc (.cells #[.int .i64 0,.int .i64 0] 58))).heap.size:=zM;clear hFG hl;go_enter Tryz.func141,Tryz.ntmps141;go_wp2_with fail;refine HFG.out.mono ?_;rintro r w1 ⟨v,rfl,hr,hb1⟩;obtain⟨aD,cD,hv,hr2,_⟩:=At hr;simp only[Ai,As] at hv;subst hv;have I1:Jv w w1:=⟨Blk.later zB hb1,Blk.later zB hb1,zA⟩;have hlow1:w.heap.size+1<w1.heap.size:=I1.fb.lt;have hr3:=Ah.mono hr2 (S':=(·<w1.heap.size)) (fun q hq=>hq.2);have F2:Blk (w1.alloc (.cells #[.int .i64 k1,.int .i64 f1] 58)) w1.heap.size 58 #[.int .i64 k1,.int .i64 f1]:=Blk.newAt _ _ _ rfl;have hb2:Below w1.heap.size w1 (w1.alloc (.cells #[.int .i64 k1,.int .i64 f1] 58)):=zA;have HI2:=hid (I1.row hb2);have HD2:=hid (lift hr3 hb2);have l2:w1.heap.size<((w1.alloc (.cells #[.int .i64 k1,.int .i64 f1] 58))).heap.size:=zP;have HF2:=hid F2;obtain⟨f0,f1',f2,f3,f4⟩:=A1 F2;clear hr hr2 hr3 hb1 hb2 I1 F2;go_wp2_with fail;generalize (w1.alloc (.cells #[.int .i64 k1,.int .i64 f1] 58))=w2 at*;by_cases hk1:k1=0
 ·rw[An hk1] at hZ
  rw[Ae hk1] at HGD;generalize hT:Eb D (blk D) fl=T at*;obtain⟨m,q,k2,f2x⟩:=T;dsimp only at hZ;have HZ:=hid hZ;have HC:=hid (fun (W:World) (h:Ah.r (·<W.heap.size) W [.slice aD D.length cD] D)=>NZ W D aD _ cD h zD fn (blk D) fl (hR D zD) hT);have HG2:=hid (fun (W:World)=>CN W k2 f2x);clear hk1 hZ hT hR;refine (HGD.out _).mono ?_;rintro r w3 ⟨rfl,hb3⟩;have HI3:=hid (HI2.out.row hb3);have HD3:=hid (lift HD2.out hb3);have HF3:=hid (HF2.out.later hb3);have l3:=Am l2 hb3.size;clear hb3 HI2 HD2 HF2 f0 f1' f2 f3 f4;go_wp2_with fail;refine (HC.out _ HD3.out).mono ?_;rintro r w4 ⟨a1,a1',a2,a2',a3,a3',a4,a4',rfl,hm4,hb4⟩;have HI4:=hid (HI3.out.row hb4);have HF4:=hid (HF3.out.later hb4);have l4:=Am l3 hb4.size;have X4:=hid (AH.BI hm4 (fun q hq=>rfl) (fun q hq=>(⟨zD,hq.2⟩:w1.heap.size<q∧q<w4.heap.size)));obtain⟨f0,f1',f2,f3,f4⟩:=A1 HF4.out;clear hm4 hb4 HI3 HF3 HD3;go_upto_region 5 with (fail);have hz5:w4.heap.size<((((w4.setCell ⟨w1.heap.size,0,none⟩ (.int .i64 k2)).setCell ⟨w1.heap.size,1,none⟩ (.int .i64 f2x)).alloc (.cells Vy 32))).heap.size:=zP;have F5:Blk (((w4.setCell ⟨w1.heap.size,0,none⟩ (.int .i64 k2)).setCell ⟨w1.heap.size,1,none⟩ (.int .i64 f2x)).alloc (.cells Vy 32)) w1.heap.size 58 #[.int .i64 k2,.int .i64 f2x]:=by
   have:=(HF4.out.set 0 (.int .i64 k2)).set 1 (.int .i64 f2x);simp only[Aa,Ab,Ac] at this;exact this.alloc _
  have ht4:Tch (·=w1.heap.size) w4 ((w4.setCell ⟨w1.heap.size,0,none⟩ (.int .i64 k2)).setCell ⟨w1.heap.size,1,none⟩ (.int .i64 f2x)):=by
   refine Tch.setCell (F:=(·=w1.heap.size)) (p:=⟨w1.heap.size,1,none⟩) ?_ (fun _=>rfl) _;refine Tch.setCell (F:=(·=w1.heap.size)) (p:=⟨w1.heap.size,0,none⟩) ?_ (fun _=>rfl) _;exact Tch.refl _ _
  have hszs:((w4.setCell ⟨w1.heap.size,0,none⟩ (.int .i64 k2)).setCell ⟨w1.heap.size,1,none⟩ (.int .i64 f2x)).heap.size=w4.heap.size:=zP;have E5:Blk (((w4.setCell ⟨w1.heap.size,0,none⟩ (.int .i64 k2)).setCell ⟨w1.heap.size,1,none⟩ (.int .i64 f2x)).alloc (.cells Vy 32)) w4.heap.size 32 Vy:=by
   have:=Blk.newAt ((w4.setCell ⟨w1.heap.size,0,none⟩ (.int .i64 k2)).setCell ⟨w1.heap.size,1,none⟩ (.int .i64 f2x)) 32 Vy rfl;rw[hszs] at this;exact this
  have hb5:Below ((w4.setCell ⟨w1.heap.size,0,none⟩ (.int .i64 k2)).setCell ⟨w1.heap.size,1,none⟩ (.int .i64 f2x)).heap.size ((w4.setCell ⟨w1.heap.size,0,none⟩ (.int .i64 k2)).setCell ⟨w1.heap.size,1,none⟩ (.int .i64 f2x)) (((w4.setCell ⟨w1.heap.size,0,none⟩ (.int .i64 k2)).setCell ⟨w1.heap.size,1,none⟩ (.int .i64 f2x)).alloc (.cells Vy 32)):=(Below.refl _ _).alloc (Aj _) _;have HI5:=hid ((HI4.out.tch hlow1 ht4).row hb5);have X5:=hid (AH.BI X4.out (fun q hq=>(hb5.block q (by rw[hszs];exact hq.2)).trans (ht4.block q hq.2 zD)) (fun q hq=>hq));clear HI4 X4 HF4 ht4 hb5 hszs f0 f1' f2 f3 f4;generalize (((w4.setCell ⟨w1.heap.size,0,none⟩ (.int .i64 k2)).setCell ⟨w1.heap.size,1,none⟩ (.int .i64 f2x)).alloc (.cells Vy 32))=w5 at*;obtain⟨f0,f1',f2,f3,f4⟩:=A1 F5;have HF5:=hid F5;have HE5:=hid E5;clear F5 E5;go_wp2_with fail;by_cases hk2:k2=0
  ·have hz:=HZ.out
   rw[An hk2] at hz;rw[Ae hk2] at HG2;simp only[A7] at hz;obtain⟨rfl,rfl,rfl,rfl,rfl⟩:=hz;clear hk2 HZ;refine (HG2.out _).mono ?_;rintro r w6 ⟨rfl,hb6⟩;have HI6:=hid (HI5.out.row hb6);have hE6:=HE5.out.later hb6;have l6:=Am hz5 hb6.size;have X6:=hid (AH.BI X5.out (fun q hq=>hb6.block q zD) (fun q hq=>hq));have hM:=HI6.out.mb;have hF:=HI6.out.fb;have hbl:=HI6.out.bl;obtain⟨y0,y1,y2,y3,y4,y5,y6,y7,y8,y9,y10,y11,y12,y13,ly⟩:=AJ hE6;obtain⟨r0,r1,r2,r3,r4,r5,r6,r7,r8,r9,r10,r11,r12,r13,lr⟩:=AJ hM;obtain⟨g0,g1,g2,g3,g4,g5,g6,g7,g8,g9,g10,g11,g12,g13⟩:=Be hM;clear f0 f1' f2 f3 f4;obtain⟨f0,f1',f2,f3,f4⟩:=A1 hF;clear hb6 HI5 X5 HE5 HF5;go_wp2_with fail;have hput:=CI (k:=.int .i64 0) (f:=.int .i64 0) (v0:=.int .i64 m.kind) (v1:=.int .u64 m.epoch) (v2:=.int .u64 m.seq) (v3:=.int .u64 m.pos) (v4:=.int .i64 m.count) (v5:=.int .i64 m.state) (v6:=.slice a1 m.streams.length a1') (v7:=.slice a2 m.links.length a2') (v8:=.slice a3 m.data.length a3') (v9:=.int .u64 m.sea.epoch) (v10:=.int .u64 m.sea.node) (v11:=.int .u64 m.sea.tail) (v12:=.int .u64 m.proj.epoch) (v13:=.slice a4 m.proj.stripes.length a4') hM hF zD;refine A9 (fun W=>Blk W w.heap.size 32 Vy∧Blk W (w.heap.size+1) 58 #[.int .i64 0,.int .i64 0]∧Tch (fun b=>b=w.heap.size∨b=w.heap.size+1) w6 W) hput ?_;intro W5 ⟨q5,p5,ht5⟩;obtain⟨n0,n1,n2,n3,n4,n5,n6,n7,n8,n9,n10,n11,n12,n13,ln⟩:=AJ q5;obtain⟨p0,p1,p2,p3,p4⟩:=A1 p5;have hz5:=ht5.size;refine Af (v:=.tuple #[.agg Vy,.bool q,.int .i64 (n:Int),.agg #[.int .i64 0,.int .i64 0]]) ZT rfl ⟨a1,a1',a2,a2',a3,a3',a4,a4',rfl,AH.BI X6.out (fun q hq=>ht5.block q zD zD) (fun q hq=>⟨zD,zD⟩),hbl.trans (ht5.Ba hbl.size fun b hb e=>zD)⟩
  ·have hz:=HZ.out
   rw[Ak hk2] at hz;rw[Ad hk2] at HG2;simp only[A7] at hz;obtain⟨rfl,rfl,rfl,rfl,hfx⟩:=hz;have HS:=hid (fun (W:World)=>Jr W k2 f2x ((n:Int)-4-(D.length:Int)) hk2);rw[hfx] at HS;have n1:(n:Int)≤1000000000:=zD;have n2:(D.length:Int)≤2097152:=zD;clear hk2 HZ hfx;refine (HG2.out _).mono ?_;rintro r w6 ⟨rfl,hb6⟩;have HI6:=hid (HI5.out.row hb6);have hF6:=HF5.out.later hb6;clear f0 f1' f2 f3 f4;obtain⟨f0,f1',f2,f3,f4⟩:=A1 hF6;clear hb6 HI5 X5 HE5 HF5;go_wp2_with fail;refine (HS.out _).mono ?_;rintro r w7 ⟨rfl,hb7⟩;have HI7:=hid (HI6.out.row hb7);have hM:=HI7.out.mb;have hF:=HI7.out.fb;have hbl:=HI7.out.bl;obtain⟨r0,r1,r2,r3,r4,r5,r6,r7,r8,r9,r10,r11,r12,r13,lr⟩:=AJ hM;obtain⟨g0,g1,g2,g3,g4,g5,g6,g7,g8,g9,g10,g11,g12,g13⟩:=Be hM;clear f0 f1' f2 f3 f4;obtain⟨f0,f1',f2,f3,f4⟩:=A1 hF;clear hb7 HI6;go_wp2_with fail;have hput:=CI (k:=.int .i64 k2) (f:=.int .i64 fx) (v0:=.int .i64 0) (v1:=.int .u64 0) (v2:=.int .u64 0) (v3:=.int .u64 0) (v4:=.int .i64 0) (v5:=.int .i64 0) (v6:=.slice none 0 0) (v7:=.slice none 0 0) (v8:=.slice none 0 0) (v9:=.int .u64 0) (v10:=.int .u64 0) (v11:=.int .u64 0) (v12:=.int .u64 0) (v13:=.slice none 0 0) hM hF zD;refine A9 (fun W=>Blk W w.heap.size 32 Vz∧Blk W (w.heap.size+1) 58 #[.int .i64 k2,.int .i64 fx]∧Tch (fun b=>b=w.heap.size∨b=w.heap.size+1) w7 W) hput ?_;intro W5 ⟨q5,p5,ht5⟩;obtain⟨n0,n1,n2,n3,n4,n5,n6,n7,n8,n9,n10,n11,n12,n13,ln⟩:=AJ q5;obtain⟨p0,p1,p2,p3,p4⟩:=A1 p5;have hz5:=ht5.size;refine Af (v:=.tuple #[.agg Vz,.bool false,.int .i64 0,.agg #[.int .i64 k2,.int .i64 fx]]) ZT rfl ⟨none,0,none,0,none,0,none,0,rfl,DV,hbl.trans (ht5.Ba hbl.size fun b hb e=>zD)⟩
 ·rw[Ak hk1] at hZ
  rw[Ad hk1] at HGD;simp only[A7] at hZ;obtain⟨rfl,rfl,rfl,rfl,rfl⟩:=hZ;clear hk1 hR;refine (HGD.out _).mono ?_;rintro r w12 ⟨rfl,hb12⟩;have HI12:=hid (HI2.out.row hb12);have hF12:=HF2.out.later hb12;have hF12d:=hF12.drew;have l12:=Am l2 hb12.size;have hM:=HI12.out.mb.drew;have hF:=HI12.out.fb.drew;have hbl:=HI12.out.bl.drew;have SK:=hid (fun (w':World) (h0:Blk w' w1.heap.size 58 #[.int .i64 k1,.int .i64 f1])=>(⟨h0.cell 0,h0.cell 1⟩:w'.cell? ⟨w1.heap.size,0,none⟩=some (.int .i64 k1)∧w'.cell? ⟨w1.heap.size,1,none⟩=some (.int .i64 f1)));have HS:=hid (SK.out w12 hF12);obtain⟨r0,r1,r2,r3,r4,r5,r6,r7,r8,r9,r10,r11,r12,r13,lr⟩:=AJ hM;obtain⟨g0,g1,g2,g3,g4,g5,g6,g7,g8,g9,g10,g11,g12,g13⟩:=Be hM;obtain⟨z0,z1,z2,z3,z4⟩:=A1 hF;clear hb12 HI2 f0 f1' f2 f3 f4 HD2 HF2;go_wp2_with fail;refine AW (S:=fun w'=>w'.cell? ⟨w1.heap.size,0,none⟩=some (.int .i64 k1)∧w'.cell? ⟨w1.heap.size,1,none⟩=some (.int .i64 f1)) zL HS.out (fun hHeld=> ?_);refine Al (i:=0) (oi:=_) (v:=?_) rfl zG zG zG (fun _ _ _ h=>h) (Or.inl ⟨zT,?_⟩) zN ?_;rotate_left
  ·(intro w hSw;(try dsimp only at hSw);go_simp<;>with_reducible rfl)
  (try simp only[Act.put,Aa,Ab,Ac])
  refine Al (i:=1) (oi:=_) (v:=?_) rfl zG zG zG (fun _ _ _ h=>h) (Or.inl ⟨zT,?_⟩) zN ?_;rotate_left
  ·(intro w hSw;(try dsimp only at hSw);go_simp<;>with_reducible rfl)
  (try simp only[Act.put,Aa,Ab,Ac])
  generalize w12.drew=wd at*;refine AF (rs:=[2]) zG zP ?_;refine Ax (o:=_) rfl (fun K hK=> ?_) AllReadyH.nil;go_simp
  refine hK.out _ _ ?_ (fun hHeld=> ?_)
  ·exact SK.out _ zF
  clear hK K
  (try simp only[Act.put,Aa,Ab,Ac])
  refine Al (i:=3) (oi:=_) (v:=?_) rfl zG zG zG (fun _ _ _ h=>h) (Or.inl ⟨zT,?_⟩) zN ?_;rotate_left
  ·(intro w hSw;(try dsimp only at hSw);go_simp<;>with_reducible rfl)
  (try simp only[Act.put,Aa,Ab,Ac])
  refine Al (i:=4) (oi:=_) (v:=?_) rfl zG zG zG (fun _ _ _ h=>h) (Or.inl ⟨zT,?_⟩) zN ?_;rotate_left
  ·(intro w hSw;(try dsimp only at hSw);go_simp<;>with_reducible rfl)
  (try simp only[Act.put,Aa,Ab,Ac])
  refine AF (rs:=[5]) zG zP ?_;refine Ax (o:=_) rfl (fun K hK=> ?_) AllReadyH.nil;go_simp
  refine hK.out _ _ ?_ (fun hHeld=> ?_)
  ·exact SK.out _ zF
  clear hK K
  (try simp only[Act.put,Aa,Ab,Ac])
  (try simp only[AE,Az,AA,Act.put,Aa,Ab,Ac])
  refine Bp zL ?_ _;go_wp2_with fail;have hput:=CI (k:=.int .i64 k1) (f:=.int .i64 f1) (v0:=.int .i64 0) (v1:=.int .u64 0) (v2:=.int .u64 0) (v3:=.int .u64 0) (v4:=.int .i64 0) (v5:=.int .i64 0) (v6:=.slice none 0 0) (v7:=.slice none 0 0) (v8:=.slice none 0 0) (v9:=.int .u64 0) (v10:=.int .u64 0) (v11:=.int .u64 0) (v12:=.int .u64 0) (v13:=.slice none 0 0) hM hF zD;refine A9 (fun W=>Blk W w.heap.size 32 Vz∧Blk W (w.heap.size+1) 58 #[.int .i64 k1,.int .i64 f1]∧Tch (fun b=>b=w.heap.size∨b=w.heap.size+1) wd W) hput ?_;intro W5 ⟨q5,p5,ht5⟩;obtain⟨n0,n1,n2,n3,n4,n5,n6,n7,n8,n9,n10,n11,n12,n13,ln⟩:=AJ q5;obtain⟨p0,p1,p2,p3,p4⟩:=A1 p5;have hz5:=ht5.size;refine Af (v:=.tuple #[.agg Vz,.bool false,.int .i64 0,.agg #[.int .i64 k1,.int .i64 f1]]) ZT rfl ⟨none,0,none,0,none,0,none,0,rfl,DV,hbl.trans (ht5.Ba hbl.size fun b hb e=>zD)⟩
end Go.Proofs.YtlbffbkbkajciaaGreat
