/- Mini: Needed by segmentOnce_walk, part 14: texts put together by shake.py; no condition. -/
import Derived.Test.YtfddhafbhceoaaaGreatWC9
import Derived.Test.YtfddhafbhceoaaaGreatWC4
import Derived.Test.YtfddhafbhceoaaaGreatWC2
import Derived.Test.YtfddhafbhceoaaaGreatWC1
import Derived.Test.YtfddhafbhceoaaaGreatWC12
import Derived.Test.YtfddhafbhceoaaaGreatWC13
import Derived.Test.YtfddhafbhceoaaaGreatWC10
import Derived.Test.YtfddhafbhceoaaaGreatWC11
import Derived.Test.YtfddhafbhceoaaaGreatWC5
import Derived.Test.YtfddhafbhceoaaaGreatWC3
import Derived.Test.YtfddhafbhceoaaaGreatWC6
set_option linter.unusedVariables false
set_option linter.unusedSimpArgs false
set_option maxRecDepth 100000
set_option maxHeartbeats 6400000
namespace Go.Bs
theorem zB6{p:Prop}(h:p:=by have := e0.2; simpa [World.setCell] using this):p:=h
theorem zA5{p:Prop}(h:p:=by simp [results, Tryz.results71, go_sem, q0, q1, p0, p1, lq, lp]):p:=h
theorem zZ{p:Prop}(h:p:=by (try rw [UD]); repeat (first | rfl | rw [Aw _ _ _ _ (by dsimp only; omega)])):p:=h
abbrev Vj(h:Array Value:=by exact #[.pointer (some ⟨gc,0,none⟩),.int .u64 0,.slice none 0 0,.slice none 0 0,.bool true,.int .i64 0]):=h
end Go.Bs
namespace Go.Proofs.YtfddhafbhceoaaaGreat
open Go.RowKit Go.Bs Go.Maps
variable{q:Bool}{f:Int}{B P:List UInt8}{base c gc gr:Nat}{a:Option Addr}{s:Rs}{W w:World}
theorem RM{first:Nat}{ep:Int}{M:List AU}(hs:s.fit B.length)(h:(Fc B s first ep M).k=0):
  B.drop s.p=Fh (Ge ep M first ((s.p:Int)-first))∧Ia (Ge ep M first ((s.p:Int)-first)):=by
 unfold Fc at h;dsimp only at h;generalize hF:s.frame B 2097152=F at*;have hcan:=fun hk:F.1.k=0=>Rs.Ex (P:=F.2) (t:=F.1) hs hF hk;obtain⟨u,P⟩:=F;dsimp only at*;by_cases hk:u.k=0
 ·rw[Ai hk] at h
  obtain⟨c1,c2,c3,c4,c5⟩:=hcan hk;have hfc:=NX (P:=P);generalize FW P=f at*;obtain⟨f,fk,ff⟩:=f;dsimp only at*;have hw:=Rs.Eb (s:=u) hk (k:=fk) (f:=ff) (a:=(u.p:Int)-4-(P.length:Int));have hz:fk=0→u.within fk ff ((u.p:Int)-4-(P.length:Int))=u:=fun e=>by rw[e,Rs.CS]
  generalize u.within fk ff ((u.p:Int)-4-(P.length:Int))=v at*;obtain⟨x1,x2,_⟩:=L4 h;clear h;have key:∀y:Rs,(if f=Ge ep M first ((s.p:Int)-first) then v else v.fail 12 s.p)=y→y.k=0→f=Ge ep M first ((s.p:Int)-first)∧y=v∧fk=0:=fun y hy hyk=>by
   by_cases hf:f=Ge ep M first ((s.p:Int)-first)
   ·rw[Ai hf] at hy
    subst hy;exact⟨hf,rfl,by rw[←hw];exact hyk⟩
   ·rw[Ah hf] at hy
    subst hy;exact absurd hyk (Rs.A0 zD)
  generalize (if f=Ge ep M first ((s.p:Int)-first) then v else v.fail 12 s.p)=y at*;have key:=key y rfl;by_cases ht:(y.take B 12).2=DR (y.p-s.p)
  ·rw[Ai ht] at x1 x2
   obtain⟨t1,t2,t3⟩:=Rs.FH x1;obtain⟨k1,k2,k3⟩:=key (Rs.DI x1).2.1;have hvu:=hz k3;obtain⟨g1,g2⟩:=hfc k3;have hend:B.drop (y.take B 12).1.p=[]:=List.drop_eq_nil_of_le x2;rw[hend,Io,ht,k2,hvu] at t1;rw[←k1];refine⟨?_,g1⟩;unfold Fh;rw[←g2,c1,t1,show u.p-s.p=(Ck P).length by omega]
  ·rw[Ah ht] at x1
   exact absurd x1 (Rs.A0 zD)
 ·rw[Ah hk] at h
  exact absurd h hk
theorem Ox{ep:Int}{blk:List UInt8→Rs→Rs × List UInt8 × Bool}:∀(n:Nat) (s:Rs) (l:List Batch) (M:List AU),(Bt B ep blk n s l M false).2.2.2.2=false
 | 0,s,l,M=>rfl
 | n+1,s,l,M=>by
  rw[CC B ep blk n s l M false rfl];split
  ·split
   ·rfl
   ·split
    ·split
     ·split
      ·rfl
      ·split
       ·rw[JS]
        exact Ox n _ _ _
       ·rfl
     ·rfl
    ·split
     ·rfl
     ·rfl
  ·rfl
theorem MN{ep:Int}:∀(n:Nat) (s:Rs) (l:List Batch) (M:List AU),(Bt B ep bS n s l M true).1.k=0→(Bt B ep bS n s l M true).2.2.2.2=true
 | 0,s,l,M,h=>rfl
 | n+1,s,l,M,h=>by
  rw[CC B ep bS n s l M true rfl] at h ⊢;generalize s.frame B 2097152=F at*;obtain⟨u,P⟩:=F;dsimp only at*;by_cases hk:u.k=0
  ·rw[Ai hk] at h ⊢
   by_cases hP:P=[]
   ·rw[Ai hP]
   ·rw[Ah hP] at h ⊢
    by_cases h1:P.headD 0=1
    ·rw[Ai h1] at h ⊢
     have hl:1≤P.length:=List.length_pos_iff.2 hP;have hc:=fun hk:(Rs.batch P (C8 P) ⟨1,0,0⟩).1.k=0=>Rs.Gl (B:=P) (s:=⟨1,0,0⟩) ⟨hl,fun _=>rfl⟩ hk (fun t=>TG t) Mn;have hc2:(Rs.batch P (C8 P) ⟨1,0,0⟩).1.k=0→(Rs.batch P (C8 P) ⟨1,0,0⟩).2.2=true:=fun hk=>by
      obtain⟨_,_,t,_,_,_,_,c7,_⟩:=hc hk;rw[c7];rfl
     clear hc;generalize Rs.batch P (C8 P) ⟨1,0,0⟩=b at*;obtain⟨bs,b,bq⟩:=b;dsimp only at*;by_cases he:(bs.fin P.length).k=0
     ·rw[he,Rs.CS,Ai hk] at h ⊢
      by_cases h16:l.length=16
      ·rw[Ai h16]
      ·rw[Ah h16] at h ⊢
       by_cases hm:En ep (BM l l.length) b=true
       ·rw[Ai hm] at h ⊢
        rw[hc2 (L4 he).1,Bool.and_true] at h ⊢;exact MN n _ _ _ h
       ·rw[Ah hm]
     ·rw[Ah (by rw[Rs.Eb hk];exact he)]
    ·rw[Ah h1]
     split<;>rfl
  ·rw[Ah hk]
theorem Lt{ep:Int}:∀(n:Nat) (s:Rs) (l:List Batch) (M:List AU) (q1 q2:Bool),
  ((Bt B ep bS n s l M q1).1=(Bt B ep bL n s l M q2).1∧(Bt B ep bS n s l M q1).2.1=(Bt B ep bL n s l M q2).2.1∧(Bt B ep bS n s l M q1).2.2.1=(Bt B ep bL n s l M q2).2.2.1∧(Bt B ep bS n s l M q1).2.2.2.1=(Bt B ep bL n s l M q2).2.2.2.1∧((Bt B ep bL n s l M q2).1.k=0→(Bt B ep bL n s l M q2).2.2.2.2=q2))∨
  ((Bt B ep bS n s l M q1).1.k=12∧((Bt B ep bL n s l M q2).1.k=0→(Bt B ep bL n s l M q2).2.2.2.2=false))
 | 0,s,l,M,q1,q2=> .inl ⟨rfl,rfl,rfl,rfl,fun _=>rfl⟩
 | n+1,s,l,M,q1,q2=>by
  rw[CC B ep bS n s l M q1 rfl,CC B ep bL n s l M q2 rfl];generalize s.frame B 2097152=F at*;obtain⟨u,P⟩:=F;dsimp only;by_cases hk:u.k=0
  ·rw[Ai hk,Ai hk]
   by_cases hP:P=[]
   ·rw[Ai hP,Ai hP]
    exact .inl ⟨rfl,rfl,rfl,rfl,fun _=>rfl⟩
   ·rw[Ah hP,Ah hP]
    by_cases h1:P.headD 0=1
    ·rw[Ai h1,Ai h1]
     have hrel:=SC (B:=P) ⟨1,0,0⟩;generalize Rs.batch P (C8 P) ⟨1,0,0⟩=b at*;generalize Rs.batch P (DD P) ⟨1,0,0⟩=c at*;obtain⟨bs,b,bq⟩:=b;obtain⟨cs,c,cq⟩:=c;dsimp only at*;rcases hrel with ⟨e1,e2,e3⟩ | ⟨e1,e2⟩
     ·subst e1 e2
      by_cases he:(bs.fin P.length).k=0
      ·have hcq:=e3 (L4 he).1
       subst hcq;rw[he,Rs.CS,Ai hk,Ai hk];by_cases h16:l.length=16
       ·rw[Ai h16,Ai h16]
        exact .inl ⟨rfl,rfl,rfl,rfl,fun _=>rfl⟩
       ·rw[Ah h16,Ah h16]
        by_cases hm:En ep (BM l l.length) b=true
        ·rw[Ai hm,Ai hm,Bool.and_true]
         exact Lt n _ _ _ _ _
        ·rw[Ah hm,Ah hm]
         exact .inl ⟨rfl,rfl,rfl,rfl,fun _=>rfl⟩
      ·have hne:¬(u.within (bs.fin P.length).k (bs.fin P.length).f ((u.p:Int)-4-(P.length:Int))).k=0:=by rw[Rs.Eb hk];exact he
       rw[Ah hne,Ah hne];exact .inl ⟨rfl,rfl,rfl,rfl,fun _=>rfl⟩
     ·have hb:bs.k≠0:=by omega
      have hne:¬(u.within (bs.fin P.length).k (bs.fin P.length).f ((u.p:Int)-4-(P.length:Int))).k=0:=by rw[Rs.Eb hk,Rs.NZ hb];exact hb
      rw[Ah hne];refine .inr ⟨?_,?_⟩
      ·dsimp only
       rw[Rs.Eb hk,Rs.NZ hb];exact e1
      ·by_cases he:(cs.fin P.length).k=0
       ·have hcq:=e2 (L4 he).1
        subst hcq;rw[he,Rs.CS,Ai hk];by_cases h16:l.length=16
        ·rw[Ai h16]
         exact fun h=>absurd h (Rs.A0 zD)
        ·rw[Ah h16]
         by_cases hm:En ep (BM l l.length) c=true
         ·rw[Ai hm,Bool.and_false]
          exact fun _=>Ox n _ _ _
         ·rw[Ah hm]
          exact fun h=>absurd h (Rs.A0 zD)
       ·have hne:¬(u.within (cs.fin P.length).k (cs.fin P.length).f ((u.p:Int)-4-(P.length:Int))).k=0:=by rw[Rs.Eb hk];exact he
        rw[Ah hne];exact fun h=>absurd h hne
    ·rw[Ah h1,Ah h1]
     by_cases h2:P.headD 0=2
     ·rw[Ai h2,Ai h2]
      exact .inl ⟨rfl,rfl,rfl,rfl,fun _=>rfl⟩
     ·rw[Ah h2,Ah h2]
      exact .inl ⟨rfl,rfl,rfl,rfl,fun _=>rfl⟩
  ·rw[Ah hk,Ah hk]
   exact .inl ⟨rfl,rfl,rfl,rfl,fun _=>rfl⟩
theorem Pk{blk:List UInt8→Rs→Rs × List UInt8 × Bool}(hb:Oi blk){g:Seg}(h:Hv B blk=(g,q,0,f)):
  Df g=true∧(∀b∈g.batches,EK b)∧f=0∧(q=true→KT g.epoch g.batches=B):=by
 have hhf:=Rs.Rk (Rs.Le B.length);have hhc:=Rs.Sg (B:=B) (s:=⟨0,0,0⟩) ⟨At _,fun _=>rfl⟩;unfold Hv at h;dsimp only at h;generalize (⟨0,0,0⟩:Rs).hdr B=H at*;obtain⟨s,v,e,b⟩:=H;dsimp only at*;by_cases hv:v=3
 ·rw[Ai hv] at h
  by_cases hk:s.k=0
  ·rw[Ai hk] at h
   obtain⟨c1,c2⟩:=hhc hk;rw[DH] at c2;obtain⟨_,he,_,hb0⟩:=Qz c1;have hb3:b=0:=zD;subst hv hb3;have hle:=hhf.ok.le;have hO:=JX (ep:=(e:Int)) hb (B.length+1) s [] [] true hhf zD zQ;generalize Bt B (e:Int) blk (B.length+1) s [] [] true=R at*;obtain⟨u,first,l,M,q'⟩:=R;dsimp only at*;by_cases hu:u.k=0
   ·rw[Ai hu] at h
    obtain⟨t,i1,i2,i3,i4,i5,i6,i7⟩:=hO hu;rw[A8] at i1 i2;subst i1;have hE:=RM (first:=first) (ep:=(e:Int)) (M:=M) i5;generalize Fc B u first (e:Int) M=z at*
    by_cases hz:z.k=0
    ·rw[Ai hz] at h
     cases h;refine⟨?_,i4,rfl,fun hq=> ?_⟩
     ·unfold Df
      dsimp only;rw[he,show DL (e:Int) none l=true from i3];simpa using i2
     ·obtain⟨j1,j2,j3⟩:=(i7 hq).2 (Cw 3 e 0) c2 (by
       have:=Bc List.length c2;rw[Al,Ea] at this;omega)
      obtain⟨x1,x2⟩:=hE hz;dsimp only;have hW:G8 (e:Int) l=Ee (Cw 3 e 0) [] l:=by
       unfold G8;rw[Gr]
      have hul:=i5.ok.le;have hp:u.p=(G8 (e:Int) l).1.length+(Ow (e:Int) l).length:=by
       have:=Bc List.length j3;unfold Ow;rw[hW];rw[Al,Al,Ea] at this;omega
      have hF:EC (e:Int) l=Ge (e:Int) M first ((u.p:Int)-first):=by
       unfold EC;rw[hp,j2,←hW,←j1,←hW];congr 1
       omega
      unfold KT;rw[hF,←x1];unfold Ow;rw[hW];exact j3.symm
    ·rw[Ah hz] at h
     exact absurd (Bc (fun x=>x.2.2.1) h) hz
   ·rw[Ah hu,Ah hu] at h
    exact absurd (Bc (fun x=>x.2.2.1) h) hu
  ·rw[Ah hk,Ah hk,Ah hk] at h
   exact absurd (Bc (fun x=>x.2.2.1) h) hk
 ·rw[Ah hv] at h
  have hk:(s.fail 8 4).k≠0:=Rs.A0 zD;rw[Ah hk,Ah hk,Ah hk] at h;exact absurd (Bc (fun x=>x.2.2.1) h) hk
theorem Nn{blk:List UInt8→Rs→Rs × List UInt8 × Bool}{g:Seg}{k:Int}(h:Hv B blk=(g,q,k,f))(hk:k≠0):g=MW∧q=false:=by
 unfold Hv at h;dsimp only at h;generalize (⟨0,0,0⟩:Rs).hdr B=H at*;obtain⟨s0,v,e,b⟩:=H;dsimp only at h;generalize (if v=3 then s0 else s0.fail 8 4)=s at*;generalize (if s.k=0 then Bt B (e:Int) blk (B.length+1) s [] [] true else (s,0,[],[],true))=R at*;generalize (if R.1.k=0 then Fc B R.1 R.2.1 (e:Int) R.2.2.2.1 else R.1)=z at*;by_cases hz:z.k=0
 ·rw[Ai hz] at h
  exact absurd (Bc (fun x=>x.2.2.1) h).symm hk
 ·rw[Ah hz] at h
  exact⟨(Bc (fun x=>x.1) h).symm,(Bc (fun x=>x.2.1) h).symm⟩
theorem Sq{g1 g2:Seg}{q1 q2:Bool}{k1 k2 f1 f2:Int}(hS:Md B=(g1,q1,k1,f1))(hL:Me B=(g2,q2,k2,f2)):
  (k1=0→q1=true)∧((k1=k2∧f1=f2∧g1=g2∧(k2=0→q2=true))∨(k1=12∧(k2=0→q2=false))):=by
 unfold Md Hv at hS;unfold Me Hv at hL;dsimp only at hS hL;generalize (⟨0,0,0⟩:Rs).hdr B=H at*;obtain⟨s0,v,e,b⟩:=H;dsimp only at*;generalize (if v=3 then s0 else s0.fail 8 4)=s at*;by_cases hk:s.k=0
 ·rw[Ai hk] at hS hL
  have hrel:=Lt (B:=B) (ep:=(e:Int)) (B.length+1) s [] [] true true;have hqt:=MN (B:=B) (ep:=(e:Int)) (B.length+1) s [] [];generalize Bt B (e:Int) bS (B.length+1) s [] [] true=R1 at*;generalize Bt B (e:Int) bL (B.length+1) s [] [] true=R2 at*;obtain⟨u1,a1,l1,M1,x1⟩:=R1;obtain⟨u2,a2,l2,M2,x2⟩:=R2;dsimp only at*;rcases hrel with ⟨r1,r2,r3,r4,r5⟩ | ⟨r1,r2⟩
  ·subst r1 r2 r3 r4
   by_cases hu:u1.k=0
   ·rw[Ai hu] at hS hL
    generalize Fc B u1 a1 (e:Int) M1=z at*;by_cases hz:z.k=0
    ·rw[Ai hz] at hS hL
     cases hS;cases hL;exact⟨fun _=>hqt hu,.inl ⟨rfl,rfl,rfl,fun _=>r5 hu⟩⟩
    ·rw[Ah hz] at hS hL
     cases hS;cases hL;exact⟨fun h=>absurd h hz,.inl ⟨rfl,rfl,rfl,fun h=>absurd h hz⟩⟩
   ·rw[Ah hu,Ah hu] at hS hL
    cases hS;cases hL;exact⟨fun h=>absurd h hu,.inl ⟨rfl,rfl,rfl,fun h=>absurd h hu⟩⟩
  ·have hu1:u1.k≠0:=by omega
   rw[Ah hu1,Ah hu1] at hS;cases hS;refine⟨fun h=>absurd h hu1,.inr ⟨r1,fun h=> ?_⟩⟩;by_cases hu:u2.k=0
   ·rw[Ai hu] at hL
    generalize Fc B u2 a2 (e:Int) M2=z at*;by_cases hz:z.k=0
    ·rw[Ai hz] at hL
     cases hL;exact r2 hu
    ·rw[Ah hz] at hL
     cases hL;exact absurd h hz
   ·rw[Ah hu,Ah hu] at hL
    cases hL;exact absurd h hu
 ·rw[Ah hk,Ah hk,Ah hk] at hS hL
  cases hS;cases hL;exact⟨fun h=>absurd h hk,.inl ⟨rfl,rfl,rfl,fun h=>absurd h hk⟩⟩
theorem QT{g1 g2:Seg}{q1 q2:Bool}{k1 k2 f1 f2:Int}(hS:Md B=(g1,q1,k1,f1))(hL:Me B=(g2,q2,k2,f2)):
  (k1=0→Df g1=true∧(∀b∈g1.batches,EK b)∧KT g1.epoch g1.batches=B∧k2=0∧q2=true∧g2=g1)∧
  (k1≠0→k2=0→q2=false∧Df g2=true∧(∀b∈g2.batches,EK b)∧k1=12)∧(k1≠0→g1=MW)∧(k2≠0→g2=MW∧q2=false):=by
 obtain⟨h1,h2⟩:=Sq hS hL;refine⟨fun hk=> ?_,fun hk hk2=> ?_,fun hk=>(Nn hS hk).1,fun hk=>Nn hL hk⟩
 ·subst hk
  obtain⟨a1,a2,a3,a4⟩:=Pk UY hS;rcases h2 with ⟨e1,e2,e3,e4⟩ | ⟨e1,_⟩
  ·exact⟨a1,a2,a4 (h1 rfl),e1.symm,e4 e1.symm,e3.symm⟩
  ·exact absurd e1 zO
 ·subst hk2
  obtain⟨a1,a2,a3,a4⟩:=Pk UZ hL;rcases h2 with ⟨e1,e2,e3,e4⟩ | ⟨e1,e2⟩
  ·exact absurd e1 hk
  ·exact⟨e2 rfl,a1,a2,e1⟩
theorem UD(W:World):W.drew.heap=W.heap:=rfl
theorem Jn{ep:Int}{blk:List UInt8→Rs→Rs × List UInt8 × Bool}:∀(n:Nat) (s:Rs) (l:List Batch) (M:List AU) (q:Bool),s.fit B.length→B.length-s.p<n→(Bt B ep blk n s l M q).1.k=0→(Bt B ep blk n s l M q).2.1≤(Bt B ep blk n s l M q).1.p
 | 0,s,l,M,q,hs,hn,h=>absurd hn (Nat.not_lt_zero _)
 | n+1,s,l,M,q,hs,hn,h=>by
  generalize hF:s.frame B 2097152=F;rw[CC B ep blk n s l M q hF] at h ⊢;have hfit:=Rs.Gz hs 2097152;rw[hF] at hfit;have hcan:=fun hk:F.1.k=0=>Rs.Ex (P:=F.2) (t:=F.1) hs hF hk;obtain⟨u,P⟩:=F;dsimp only at*;by_cases hk:u.k=0
  ·rw[Ai hk] at h ⊢
   obtain⟨c1,c2,c3,c4,c5⟩:=hcan hk;have hlow:=FU P;by_cases hP:P=[]
   ·rw[Ai hP] at h
    exact absurd h (Rs.A0 zD)
   ·rw[Ah hP] at h ⊢
    by_cases h1:P.headD 0=1
    ·rw[Ai h1] at h ⊢
     have hwp:∀k f a:Int,(u.within k f a).p=u.p:=fun k f a=>Rs.Jh;have hw0:∀k f a:Int,(u.within k f a).k=0→u.within k f a=u:=fun k f a e=>by
      have e1:=ET e;rw[e1];exact Rs.CS
     generalize Rs.batch P (blk P) ⟨1,0,0⟩=X at*;have hw1:=hw0 (X.1.fin P.length).k (X.1.fin P.length).f ((u.p:Int)-4-(P.length:Int));generalize u.within (X.1.fin P.length).k (X.1.fin P.length).f ((u.p:Int)-4-(P.length:Int))=v at*;by_cases hv:v.k=0
     ·rw[Ai hv] at h ⊢
      by_cases hl:l.length=16
      ·rw[Ai hl] at h
       exact absurd h (Rs.A0 zD)
      ·rw[Ah hl] at h ⊢
       by_cases hm:En ep (BM l l.length) X.2.1=true
       ·rw[Ai hm] at h ⊢
        rw[hw1 hv] at h ⊢;exact Jn n u _ _ _ hfit zD h
       ·rw[Ah hm] at h
        exact absurd h (Rs.A0 zD)
     ·rw[Ah hv] at h
      exact absurd h hv
    ·rw[Ah h1] at h ⊢
     by_cases h2:P.headD 0=2
     ·rw[Ai h2] at h ⊢
      dsimp only at h ⊢;have hwp:∀k f a:Int,(u.within k f a).p=u.p:=fun k f a=>Rs.Jh;split
      ·rw[Rs.Hr,hwp]
       omega
      ·rw[hwp]
       omega
     ·rw[Ah h2] at h
      exact absurd h (Rs.A0 zD)
  ·rw[Ah hk] at h
   exact absurd h hk
theorem Qk:Cd base He base 88 3 w (.slice none 0 0) [] []:=⟨⟨rfl,.inl ⟨rfl,rfl⟩⟩,rfl,(fun c hc=>absurd hc List.not_mem_nil),(fun i cs x h1 h2=>by simp at h1)⟩
theorem Bi.start{ep:Int}(hi:Cf w W gc B a s)(hb:Blk W gr 166 #[.pointer (some ⟨gc,0,none⟩),.int .u64 ep,.slice none 0 0,.slice none 0 0,.bool true,.int .i64 0])(hg:w.heap.size≤gr):
  Bi w gr gc B a s ep (.slice none 0 0) [] (.slice none 0 0) [] true 0 (gr+1) W:=
 ⟨hi,hb,hg,⟨[],AY.nil⟩,⟨[],Qk⟩,fun b e=>(by cases e),fun b e=>(by cases e),fun b e=>(by cases e),Nat.lt_succ_self _,hb.lt⟩
theorem QS{blk:List UInt8→Rs→Rs × List UInt8 × Bool}{g:Seg}{k:Int}(h:Hv B blk=(g,q,k,f)){h0:Rs}{v e b:Nat}(hh:(⟨0,0,0⟩:Rs).hdr B=(h0,v,e,b))(hs:(if v=3 then h0 else h0.fail 8 4)=s){RES:Rs × Nat × List Batch × List AU × Bool}(hr:Kw B (e:Int) blk s=RES){z:Rs}(hz:(if RES.1.k=0 then Fc B RES.1 RES.2.1 (e:Int) RES.2.2.2.1 else RES.1)=z):
  (if z.k=0 then ((⟨(e:Int),RES.2.2.1⟩:Seg),RES.2.2.2.2,(0:Int),(0:Int)) else (MW,false,z.k,z.f))=(g,q,k,f):=by
 rw[←h];unfold Hv;dsimp only;rw[hh];dsimp only;rw[hs];have:(if s.k=0 then Bt B (e:Int) blk (B.length+1) s [] [] true else (s,0,[],[],true))=RES:=hr;rw[this,hz]
set_option maxHeartbeats 12800000 in
theorem Lr(w:World)(B:List UInt8)(a:Option Addr)(n c:Nat)(hl:Ag.r (·<w.heap.size) w [.slice a n c] B)(hB:B.length≤1000000000){fn:Nat}{blk:List UInt8→Rs→Rs × List UInt8 × Bool}(hR:TN fn blk){g:Seg}{k:Int}(hD:Hv B blk=(g,q,k,f)):
  Calls Tryz.prog 71 #[.slice a n c,.func (Fn.func fn) #[] #[]] w fun r w'=>∃a' c',r=.returned (.tuple #[.agg #[.int .u64 g.epoch,.slice a' g.batches.length c'],.bool q,.agg #[.int .i64 k,.int .i64 f]])∧Bf.r (fun x=>w.heap.size≤x∧x<w'.heap.size) w' [.slice a' g.batches.length c'] g.batches∧Below w.heap.size w w':=by
 obtain⟨rfl,hmx,hcc,hcm⟩:=AH hl;generalize hh:(⟨0,0,0⟩:Rs).hdr B=HH at*;have hhf:=Rs.Rk (Rs.Le B.length);rw[hh] at hhf;obtain⟨h0,v,e,b⟩:=HH;dsimp only at hhf;obtain⟨s,hs⟩:∃s,(if v=3 then h0 else h0.fail 8 4)=s:=⟨_,rfl⟩;have hsf:s.k=0→s.fit B.length:=fun e0=>by
  by_cases hv:v=3
  ·rw[Ai hv] at hs
   rw[←hs];exact hhf
  ·rw[Ah hv] at hs
   rw[←hs] at e0;exact absurd e0 (Rs.A0 zO)
 obtain⟨RES,hres⟩:∃RES,Kw B (e:Int) blk s=RES:=⟨_,rfl⟩;obtain⟨z,hz⟩:∃z,(if RES.1.k=0 then Fc B RES.1 RES.2.1 (e:Int) RES.2.2.2.1 else RES.1)=z:=⟨_,rfl⟩;have hway:=QS hD hh hs hres hz;have hok:RES.1.k=0→Cv RES.2.2.2.1=true∧RES.2.1≤RES.1.p∧RES.1.fit B.length:=fun e0=>by
  have hsk:s.k=0:=by
   by_cases hk:s.k=0
   ·exact hk
   ·unfold Kw at hres
    rw[Ah hk] at hres;rw[←hres] at e0;exact e0
  unfold Kw at hres;rw[Ai hsk] at hres;have e1:=JX hR.f (ep:=(e:Int)) (B.length+1) s [] [] true (hsf hsk) zD (At _);have e2:=Jn (ep:=(e:Int)) (blk:=blk) (B.length+1) s [] [] true (hsf hsk) zD;rw[hres] at e1 e2;obtain⟨t,_,_,_,_,e6,e7,_⟩:=e1 e0;exact⟨e7,e2 e0,e6⟩
 have HN:=hid (fun (W:World) (hW:Below w.heap.size w W)=>NF W B a _ c (lift hl hW));have HHR:=hid (fun (V:World) (gc:Nat) (hV:AN V gc B a ⟨0,0,0⟩)=>(by have:=O6 V hV hB;rw[hh] at this;exact this:Calls Tryz.prog 123 #[.pointer (some ⟨gc,0,none⟩)] V fun r w'=>r=.returned (.agg #[.int .i64 (v:Int),.int .u64 (e:Int),.int .u64 (b:Int)])∧Ay V gc B a h0 w'));have HRR:=hid hR;have HOK:=hid hok;have HSF:=hid hsf;have HWAY:=hid hway;have HZ:=hid hz;have HRES:=hid hres;have HS:=hid hs;clear hl hh hD hs hres hz hway hok hR hsf hhf;go_enter Tryz.func71,Tryz.ntmps71;go_upto_region 1 with (fail);have hR0:Blk ((w.alloc (.cells #[.int .u64 0,.slice none 0 0] 63)).alloc (.cells #[.int .i64 0,.int .i64 0] 65)) w.heap.size 63 #[.int .u64 0,.slice none 0 0]:=zC;have hF0:Blk ((w.alloc (.cells #[.int .u64 0,.slice none 0 0] 63)).alloc (.cells #[.int .i64 0,.int .i64 0] 65)) (w.heap.size+1) 65 #[.int .i64 0,.int .i64 0]:=zC;have hb0:Below w.heap.size w ((w.alloc (.cells #[.int .u64 0,.slice none 0 0] 63)).alloc (.cells #[.int .i64 0,.int .i64 0] 65)):=zA;generalize ((w.alloc (.cells #[.int .u64 0,.slice none 0 0] 63)).alloc (.cells #[.int .i64 0,.int .i64 0] 65))=w0 at*;have hz0:w.heap.size+1<w0.heap.size:=hF0.lt;go_wp2_with fail;refine (HN.out w0 hb0).mono ?_;rintro r w1 ⟨rfl,hr1,hb1⟩;have HR1:=hid (hR0.later hb1);have HF1:=hid (hF0.later hb1);have HB1:=hid (Af hb1 hb0);have hgc1:w0.heap.size<w1.heap.size:=hr1.blk.lt;obtain⟨gc,hgc⟩:∃gc,gc=w0.heap.size:=⟨_,rfl⟩;rw[←hgc] at hr1 hgc1;have hgcw:w.heap.size+1<gc:=zD;have HD1:=hid hr1;clear hr1 hb1 hb0 hR0 hF0 HN hz0;generalize w0.heap.size=zzgc at*;subst hgc;go_upto_region 2 with (fail);have hbA:Below w1.heap.size w1 (w1.alloc (.cells Vj 166)):=zA;have HINA:=hid ((Cf.refl HD1.out).row hbA);have HGR:=hid (show Blk (w1.alloc (.cells Vj 166)) w1.heap.size 166 Vj from Blk.new _ _ _);generalize (w1.alloc (.cells Vj 166))=w2 at*;have hz2:w1.heap.size<w2.heap.size:=HGR.out.lt;clear hbA HD1;obtain⟨y0,y1,y2,y3,y4,y5,ly⟩:=CF HGR.out;go_wp2_with fail;refine (HHR.out w2 gc HINA.out.rd).mono ?_;rintro r w3 ⟨rfl,hst3⟩;have hbB:Below w3.heap.size w3 (w3.alloc (.cells #[.int .i64 (v:Int),.int .u64 (e:Int),.int .u64 (b:Int)] 167)):=zA;have HIN4:=hid ((HINA.out.step hst3).row (hbB.mono (HINA.out.step hst3).tch.size));have HGR4:=hid ((HGR.out.tch hst3.2 zD).later hbB);have HGH:=hid (show Blk (w3.alloc (.cells #[.int .i64 (v:Int),.int .u64 (e:Int),.int .u64 (b:Int)] 167)) w3.heap.size 167 #[.int .i64 (v:Int),.int .u64 (e:Int),.int .u64 (b:Int)] from Blk.new _ _ _);have hz3:w2.heap.size≤w3.heap.size:=hst3.2.size;clear hst3 hbB HINA HGR y0 y1 y2 y3 y4 y5 ly;go_upto_region 3 with (fail);generalize (w3.alloc (.cells #[.int .i64 (v:Int),.int .u64 (e:Int),.int .u64 (b:Int)] 167))=w4 at*;obtain⟨gh,hgh⟩:∃gh,gh=w3.heap.size:=⟨_,rfl⟩;rw[←hgh] at HGH hz3;generalize w3.heap.size=zzgh at*;subst hgh;obtain⟨x0,x1,x2,x3,x4,x5,lx⟩:=Hn HGH.out;obtain⟨y0,y1,y2,y3,y4,y5,ly⟩:=CF HGR4.out;go_upto_if 21 with (fail);generalize hnb:(((v:Nat):Int) !=(3:Int))=nb at*;have HNB:=hid hnb;clear hnb;go_cut [] from 22 to 26 (fun V=>Hid (Cf w1 V gc B a s)∧Hid (Blk V w1.heap.size 166 #[.pointer (some ⟨gc,0,none⟩),.int .u64 0,.slice none 0 0,.slice none 0 0,.bool true,.int .i64 0])∧Hid (Blk V gh 167 #[.int .i64 (v:Int),.int .u64 (e:Int),.int .u64 (b:Int)]))
 case first=>
  cases nb
  ·have hv:v=3:=by have h0:=HNB.out;simp at h0;omega
   have hs:=HS.out;rw[Ai hv] at hs;subst hs;clear hv;go_wp2_with fail;go_meet
   case rel=>exact ⟨HIN4,HGR4,HGH⟩
  ·have hv:¬v=3:=by have h0:=HNB.out;simp at h0;omega
   have hs:=HS.out;rw[Ah hv] at hs;have HFL:=hid (fun (V:World) (hV:AN V gc B a h0)=>(by have:=Bd V hV 8 4 zO;rw[hs] at this;exact this:Calls Tryz.prog 124 #[.pointer (some ⟨gc,0,none⟩),.int .i64 8,.int .i64 4] V fun r w'=>r=.returned (.tuple #[])∧Ay V gc B a s w'));clear hs hv;go_wp2_with fail;refine (HFL.out _ HIN4.out.rd).mono ?_;rintro r w5 ⟨rfl,hst5⟩;have hI:=hid (HIN4.out.step hst5);have hG:=hid (HGR4.out.tch hst5.2 zD);have hH:=hid (HGH.out.tch hst5.2 zD);go_wp2_with fail;go_meet
   case rel=>exact ⟨hI,hG,hH⟩
 case rest=>
  obtain⟨HIN5,HGR5,HGH5⟩:=hcut;clear HIN4 HGR4 HGH x0 x1 x2 x3 x4 x5 lx y0 y1 y2 y3 y4 y5 ly;generalize hW5:wc=W5 at*;obtain⟨x0,x1,x2,x3,x4,x5,lx⟩:=Hn HGH5.out;obtain⟨y0,y1,y2,y3,y4,y5,ly⟩:=CF HGR5.out;obtain⟨z0,z1,z2,z3,z4,z5⟩:=LG HGR5.out;have HSR:=hid (Bi.start (ep:=(e:Int)) (HIN5.out.row (show Below w1.heap.size W5 (W5.setCell ⟨w1.heap.size,1,none⟩ (.int .u64 (e:Int))) from (Below.refl _ _).setCell zH _)) (HGR5.out.set 1 _) (Ap _));have HRC:=hid (fun (V:World) (fi0:Int) (T0:Nat) (h:Bi w1 w1.heap.size gc B a s (e:Int) (.slice none 0 0) [] (.slice none 0 0) [] true fi0 T0 V)=>Oq V h hB HSF.out HRR.out HRES.out);go_upto_region 6 with (fail);generalize (W5.setCell ⟨w1.heap.size,1,none⟩ (.int .u64 (e:Int)))=w6 at*;clear HIN5 HGR5 HGH5 x0 x1 x2 x3 x4 x5 lx y0 y1 y2 y3 y4 y5 ly z0 z1 z2 z3 z4 z5 hW5;go_wp2_with fail;refine (HRC.out _ _ _ HSR.out).mono ?_;rintro r w7 ⟨rfl,⟨vL,l,vM,M,q7,fi,T,hi7,he7⟩,hz7⟩;have HI7:=hid hi7;have HE7:=hid he7;clear hi7 he7 HSR HRC;obtain⟨y0,y1,y2,y3,y4,y5,ly⟩:=CF HI7.out.rb;have HGD:=hid (fun (V:World) (hV:AN V gc B a RES.1)=>AK V hV);go_wp2_with fail;refine (HGD.out _ HI7.out.inv.rd).mono ?_;rintro r w8 ⟨rfl,hb8⟩;have HI8:=hid (HI7.out.later hb8);clear hb8 HI7 HGD y0 y1 y2 y3 y4 y5 ly;go_upto_if 40 with (fail);generalize hnk:decide (RES.1.k=0)=nk at*;have HNK:=hid hnk;clear hnk;go_cut [] from 41 to 42 (fun V=>∃(fi':Int) (T':Nat),Hid (Bi w1 w1.heap.size gc B a z (e:Int) vL l vM M q7 fi' T' V)∧Hid (z.k=0→l=RES.2.2.1∧q7=RES.2.2.2.2))
  case first=>
   cases nk;rotate_left
   ·have hk:RES.1.k=0:=Gq HNK.out
    have hz:=HZ.out;rw[Ai hk] at hz;obtain⟨o1,o2,o3⟩:=HOK.out hk;obtain⟨e1,e2,e3,e4⟩:=HE7.out hk;subst e1 e2 e3 e4;have HEN:=hid (fun (V:World) (fi0:Nat) (hfi:fi0=RES.2.1) (hV:Bi w1 w1.heap.size gc B a RES.1 (e:Int) vL RES.2.2.1 vM RES.2.2.2.1 RES.2.2.2.2 (fi0:Int) T V)=>(by subst hfi;have:=TW V hV hB o1 o2 o3;rw[hz] at this;exact this:Calls Tryz.prog 126 #[.pointer (some ⟨w1.heap.size,0,none⟩)] V fun r W'=>r=.returned (.tuple #[])∧(∃fi' T',Bi w1 w1.heap.size gc B a z (e:Int) vL RES.2.2.1 vM RES.2.2.2.1 RES.2.2.2.2 fi' T' W')∧V.heap.size≤W'.heap.size));clear hz hk o1 o2 o3;go_wp2_with fail;refine (HEN.out _ _ rfl HI8.out).mono ?_;rintro r w9 ⟨rfl,⟨fi9,T9,hi9⟩,hz9⟩;have HI9:=hid hi9;clear hi9 hz9 HI8 HEN;go_wp2_with fail;go_meet
    case rel=>exact ⟨fi9,T9,HI9,hid fun _=>⟨by first | rfl | exact True.intro,by first | rfl | exact True.intro⟩⟩
   ·have hk:¬RES.1.k=0:=of_decide_eq_false HNK.out
    have hz:=HZ.out;rw[Ah hk] at hz;have HKK:=hid hk;rw[hz] at HI8 HKK;clear hz hk;go_wp2_with fail;go_meet
    case rel=>exact ⟨fi,T,HI8,hid fun e0=>absurd e0 HKK.out⟩
  case rest=>
   obtain⟨fi9,T9,HI9,HE9⟩:=hcut;clear HI8 HE7;generalize hW9:wc=W9 at*;have HFT:=hid (FK W9 HI9.out.inv.rd);obtain⟨y0,y1,y2,y3,y4,y5,ly⟩:=CF HI9.out.rb;have HRg:=hid (HR1.out.tch HI9.out.inv.tch zD);have HFg:=hid (HF1.out.tch HI9.out.inv.tch zD);have HBg:=hid (HB1.out.trans (HI9.out.inv.tch.Cq HB1.out.size fun x _ e0=>zD));have hz9:=HI9.out.inv.tch.size;go_wp2_with fail;refine HFT.out.mono ?_;rintro r w10 ⟨rfl,hb10⟩;have hbC:Below w10.heap.size w10 (w10.alloc (.cells #[.int .i64 z.k,.int .i64 z.f] 65)):=zA;have HI11:=hid ((HI9.out.later hb10).later hbC);have HR11:=hid ((HRg.out.later hb10).later hbC);have HF11:=hid ((HFg.out.later hb10).later hbC);have HB11:=hid (Af hbC (Af hb10 HBg.out));have HX11:=hid (show Blk (w10.alloc (.cells #[.int .i64 z.k,.int .i64 z.f] 65)) w10.heap.size 65 #[.int .i64 z.k,.int .i64 z.f] from Blk.new _ _ _);have hz10:=hb10.size;clear hb10 hbC HI9 HRg HFg HBg HR1 HF1 HB1 HFT y0 y1 y2 y3 y4 y5 ly hW9;go_upto_region 10 with (fail);generalize (w10.alloc (.cells #[.int .i64 z.k,.int .i64 z.f] 65))=w11 at*;obtain⟨gx,hgx⟩:∃gx,gx=w10.heap.size:=⟨_,rfl⟩;rw[←hgx] at HX11 hz10;generalize w10.heap.size=zzgx at*;subst hgx;obtain⟨x0,x1,x2,x3,lx⟩:=Bg HX11.out;have HGO:=hid (fun (V:World)=>Di V z.k z.f);obtain⟨cL,hcL⟩:=HI11.out.ownL;obtain⟨aL,cLL,rfl⟩:=AX hcL.1;clear hcL;by_cases hk:z.k=0
   ·rw[Ad hk] at HGO
    have hw:=HWAY.out;rw[Ai hk] at hw;obtain⟨e1,e2⟩:=HE9.out hk;simp only[EO] at hw;obtain⟨rfl,rfl,rfl,rfl⟩:=hw;subst e1 e2;clear hk;go_wp2_with fail;refine (HGO.out _).mono ?_;rintro r w12 ⟨rfl,hb12⟩;have HI12:=hid (HI11.out.later hb12);have HR12:=hid (HR11.out.later hb12);have HF12:=hid (HF11.out.later hb12);have HB12:=hid (Af hb12 HB11.out);clear hb12 HI11 HR11 HF11 HB11 HX11 x0 x1 x2 x3 lx;obtain⟨y0,y1,y2,y3,y4,y5,ly⟩:=CF HI12.out.rb;obtain⟨q0,q1,q2,q3,lq⟩:=Bg HR12.out;obtain⟨p0,p1,p2,p3,lp⟩:=Bg HF12.out;have hrd:Bf.r (fun x=>w1.heap.size≤x∧x<w12.heap.size) w12 [.slice aL RES.2.2.1.length cLL] RES.2.2.1:=by
     obtain⟨c2,hc2⟩:=HI12.out.ownL;have h2:=HI12.out.t2;refine Bf.mono hc2.slice fun x e0=> ?_;rcases e0 with e0 | e0
     ·exact⟨zD,zD⟩
     ·have:=HI12.out.lo.1 x e0
      exact⟨zD,zD⟩
    have HRD:=hid hrd;have hbl:=HB12.out;have hw1:w.heap.size+1<w1.heap.size:=zD;clear hrd HI12 HR12 HF12;go_wp2_with fail;go_region
    all_goals
     go_wp2;refine An (v:=.tuple #[.agg #[.int .u64 (e:Int),.slice aL RES.2.2.1.length cLL],.bool RES.2.2.2.2,.agg #[.int .i64 0,.int .i64 0]]) zA5 rfl ⟨aL,cLL,rfl,Bf.mono (Bf.keep HRD.out fun x e0=>zZ) fun x e0=>⟨zD,zB6⟩,zA⟩
   ·rw[Ae hk] at HGO
    have hw:=HWAY.out;rw[Ah hk] at hw;simp only[EO] at hw;obtain⟨rfl,rfl,rfl,rfl⟩:=hw;clear hk;go_wp2_with fail;refine (HGO.out _).mono ?_;rintro r w12 ⟨rfl,hb12⟩;have HR12:=hid (HR11.out.later hb12);have HF12:=hid (HF11.out.later hb12);have HX12:=hid (HX11.out.later hb12);have HB12:=hid (Af hb12 HB11.out);clear hb12 HI11 HR11 HF11 HB11 HX11 x0 x1 x2 x3 lx;obtain⟨x0,x1,x2,x3,lx⟩:=Bg HX12.out;obtain⟨q0,q1,q2,q3,lq⟩:=Bg HR12.out;obtain⟨p0,p1,p2,p3,lp⟩:=Bg HF12.out;have hbl:=HB12.out;clear HR12 HF12 HX12;go_wp2_with fail;go_region
    all_goals
     go_wp2;refine An (v:=.tuple #[.agg #[.int .u64 0,.slice none 0 0],.bool false,.agg #[.int .i64 z.k,.int .i64 z.f]]) zA5 rfl ⟨none,0,rfl,BL (xs:=[]) rfl (Ap _) (At _) (.inl rfl),zA⟩
theorem TJ(h:(Rs.batch P (C8 P) s).1.k=0):(Rs.batch P (C8 P) s).2.2=true:=by
 unfold Rs.batch at h ⊢;dsimp only at h ⊢;split at h
 ·rename_i h1
  rw[Ai h1];split at h
  ·rename_i h2
   rw[Ai h2];rfl
  ·rename_i h2
   exact absurd h h2
 ·rename_i h1
  exact absurd h h1
theorem RZ(W:World)(g:Nat)(P:List UInt8)(a:Option Addr)(s:Rs)(hP:P.length≤1000000000)(h:AN W g P a s):Calls Tryz.prog 72 #[.pointer (some ⟨g,0,none⟩)] W fun r w'=>∃v qv,r=.returned (.tuple #[.agg #[.int .u64 (Rs.batch P (C8 P) s).2.1.epoch,.int .u64 (Rs.batch P (C8 P) s).2.1.base,v],.bool qv])∧AW.r (E8 W w') w' [v] (Rs.batch P (C8 P) s).2.1.entries∧((Rs.batch P (C8 P) s).1.k=0→qv=(Rs.batch P (C8 P) s).2.2)∧Ay W g P a (Rs.batch P (C8 P) s).1 w':=by
 have hq:=fun h0:(Rs.batch P (C8 P) s).1.k=0=>TJ h0;have HC:=hid (Q4 (W.alloc (.cells #[.int .u64 0,.int .u64 0,.slice none 0 0] 48)) (h.later (show Below W.heap.size W (W.alloc (.cells #[.int .u64 0,.int .u64 0,.slice none 0 0] 48)) by (repeat (first | with_reducible exact Below.refl _ _ | with_reducible assumption | (with_reducible refine Au ?_ _) | (with_reducible refine Below.setCell ?_ zE _) | (with_reducible refine Below.drew ?_) | (with_reducible refine below_drewN ?_ _) | (refine Af zG ?_))))) hP);have hlt:=h.blk.lt;have HIN:=hid (Cf.refl h);generalize Rs.batch P (C8 P) s=T at*;obtain⟨s1,x,q1⟩:=T;dsimp only at hq HC ⊢;have HQ:=hid hq;clear h hq;go_enter Tryz.func72,Tryz.ntmps72;have hB0:Blk (W.alloc (.cells #[.int .u64 0,.int .u64 0,.slice none 0 0] 48)) W.heap.size 48 #[.int .u64 0,.int .u64 0,.slice none 0 0]:=Blk.new _ _ _;go_upto_region 1 with (fail);have HIN0:=hid (HIN.out.row (show Below W.heap.size W (W.alloc (.cells #[.int .u64 0,.int .u64 0,.slice none 0 0] 48)) by (repeat (first | with_reducible exact Below.refl _ _ | with_reducible assumption | (with_reducible refine Au ?_ _) | (with_reducible refine Below.setCell ?_ zE _) | (with_reducible refine Below.drew ?_) | (with_reducible refine below_drewN ?_ _) | (refine Af zG ?_)))));generalize (W.alloc (.cells #[.int .u64 0,.int .u64 0,.slice none 0 0] 48))=w0 at*;have hz0:=hB0.lt;clear HIN;go_wp2_with fail;refine HC.out.mono ?_;rintro r w1 ⟨v,rfl,hr1,hst1⟩;obtain⟨a1,c1,hfv,hr1',hel⟩:=AJ (Bv hr1);simp only[As,AF] at hfv;subst hfv;have hB1:=hB0.tch hst1.2 zD;obtain⟨m0,m1,m2,lm⟩:=Hj hB1;have f0:=hB1.free 0;have f1:=hB1.free 1;have f2:=hB1.free 2;have HR1:=hid hr1';have HIN1:=hid (HIN0.out.step hst1);have hz1:=hst1.2.size;have HIN2:=hid (HIN1.out.row (show Below W.heap.size w1 (((w1.setCell ⟨W.heap.size,0,none⟩ (.int .u64 x.epoch)).setCell ⟨W.heap.size,1,none⟩ (.int .u64 x.base)).setCell ⟨W.heap.size,2,none⟩ (.slice a1 x.entries.length c1)) from (((Below.refl _ _).setCell zH _).setCell zH _).setCell zH _));clear hr1 hr1' hst1 hB0 hB1 HC HIN0 HIN1;go_wp2_with fail;refine An (v:=.tuple #[.agg #[.int .u64 x.epoch,.int .u64 x.base,.slice a1 x.entries.length c1],.bool true]) (by simp[results,Tryz.results72,go_sem,m0,m1,m2,lm]) rfl ⟨_,true,rfl,AW.mono (AW.keep HR1.out fun b e=>(by have h1:w0.heap.size≤b:=e.1;repeat (first | rfl | rw[Aw _ _ _ _ zH]))) fun b e=>⟨ZM,by have:=e.2;simpa [World.setCell] using this⟩,fun e=>(HQ.out e).symm,HIN2.out.to⟩
theorem U9:TN 72 bS:=⟨fun xs W=>ZJ,fun W g P a s hP h=>RZ W g P a s hP h,UY⟩
theorem Va:TN 85 bL:=⟨fun xs W=>ZJ,fun W g P a s hP h=>(KY W h hP).mono fun r w' hr=>by
 obtain⟨v,h1,h2,h3⟩:=hr;exact⟨v,_,h1,Bv h2,fun _=>rfl,h3⟩,UZ⟩
theorem Ot(w:World)(B:List UInt8)(a:Option Addr)(n c:Nat)(hl:Ag.r (·<w.heap.size) w [.slice a n c] B)(hB:B.length≤1000000000){g:Seg}{k:Int}(hD:Md B=(g,q,k,f)):
  Calls Tryz.prog 34 #[.slice a n c] w fun r w'=>∃a' c',r=.returned (.tuple #[.agg #[.int .u64 g.epoch,.slice a' g.batches.length c'],.agg #[.int .i64 k,.int .i64 f]])∧Bf.r (fun x=>w.heap.size≤x∧x<w'.heap.size) w' [.slice a' g.batches.length c'] g.batches∧Below w.heap.size w w':=by
 obtain⟨rfl,hmx,hcc,hcm⟩:=AH hl;have HD:=hid (fun (W:World) (hW:Below w.heap.size w W)=>Lr W B a _ c (lift hl hW) hB U9 hD);clear hl hD;go_enter Tryz.func34,Tryz.ntmps34;go_upto_region 1 with (fail);have hR0:Blk ((w.alloc (.cells #[.int .u64 0,.slice none 0 0] 63)).alloc (.cells #[.int .i64 0,.int .i64 0] 65)) w.heap.size 63 #[.int .u64 0,.slice none 0 0]:=zC;have hF0:Blk ((w.alloc (.cells #[.int .u64 0,.slice none 0 0] 63)).alloc (.cells #[.int .i64 0,.int .i64 0] 65)) (w.heap.size+1) 65 #[.int .i64 0,.int .i64 0]:=zC;have hb0:Below w.heap.size w ((w.alloc (.cells #[.int .u64 0,.slice none 0 0] 63)).alloc (.cells #[.int .i64 0,.int .i64 0] 65)):=zA;generalize ((w.alloc (.cells #[.int .u64 0,.slice none 0 0] 63)).alloc (.cells #[.int .i64 0,.int .i64 0] 65))=w0 at*;have hz0:w.heap.size+1<w0.heap.size:=hF0.lt;go_wp2_with fail;refine (HD.out w0 hb0).mono ?_;rintro r w1 ⟨a1,c1,rfl,hr1,hb1⟩;have hR1:=hR0.later hb1;have hF1:=hF0.later hb1;have hbl1:=Af hb1 hb0;have hz1:=hb1.size;have HRD:=hid hr1;clear hR0 hF0 hb0 hb1 hr1 HD;have hb2:Below w1.heap.size w1 ((w1.alloc (.cells #[.int .u64 g.epoch,.slice a1 g.batches.length c1] 63)).alloc (.cells #[.int .i64 k,.int .i64 f] 65)):=zA;have hX2:Blk ((w1.alloc (.cells #[.int .u64 g.epoch,.slice a1 g.batches.length c1] 63)).alloc (.cells #[.int .i64 k,.int .i64 f] 65)) w1.heap.size 63 #[.int .u64 g.epoch,.slice a1 g.batches.length c1]:=zC;have hY2:Blk ((w1.alloc (.cells #[.int .u64 g.epoch,.slice a1 g.batches.length c1] 63)).alloc (.cells #[.int .i64 k,.int .i64 f] 65)) (w1.heap.size+1) 65 #[.int .i64 k,.int .i64 f]:=zC;have hR2:=hR1.later hb2;have hF2:=hF1.later hb2;have hbl2:=Af hb2 hbl1;have HR2:=hid (Bf.keep HRD.out (w':=((w1.alloc (.cells #[.int .u64 g.epoch,.slice a1 g.batches.length c1] 63)).alloc (.cells #[.int .i64 k,.int .i64 f] 65))) fun x e=>hb2.block x e.2);have hz2:=hb2.size;go_upto_region 2 with (fail);generalize ((w1.alloc (.cells #[.int .u64 g.epoch,.slice a1 g.batches.length c1] 63)).alloc (.cells #[.int .i64 k,.int .i64 f] 65))=w2 at*;obtain⟨x0,x1,x2,x3,lx⟩:=Bg hX2;obtain⟨y0,y1,y2,y3,ly⟩:=Bg hY2;obtain⟨q0,q1,q2,q3,lq⟩:=Bg hR2;obtain⟨p0,p1,p2,p3,lp⟩:=Bg hF2;clear hX2 hY2 hR2 hF2 hR1 hF1 hb2 HRD;go_wp2_with fail;go_region
 all_goals
  go_wp2;refine An (v:=.tuple #[.agg #[.int .u64 g.epoch,.slice a1 g.batches.length c1],.agg #[.int .i64 k,.int .i64 f]]) (by simp[results,Tryz.results34,go_sem,q0,q1,p0,p1,lq,lp]) rfl ⟨a1,c1,rfl,Bf.mono (Bf.keep HR2.out fun x e0=>zZ) fun x e0=>⟨zD,by have:=e0.2;have h4:x<w2.heap.size:=zD;simpa [World.setCell] using h4⟩,zA⟩
theorem Ou(w:World)(B:List UInt8)(a:Option Addr)(n c:Nat)(hl:Ag.r (·<w.heap.size) w [.slice a n c] B)(hB:B.length≤1000000000){g:Seg}{k:Int}(hD:Me B=(g,q,k,f)):
  Calls Tryz.prog 36 #[.slice a n c] w fun r w'=>∃a' c',r=.returned (.tuple #[.agg #[.int .u64 g.epoch,.slice a' g.batches.length c'],.bool q,.agg #[.int .i64 k,.int .i64 f]])∧Bf.r (fun x=>w.heap.size≤x∧x<w'.heap.size) w' [.slice a' g.batches.length c'] g.batches∧Below w.heap.size w w':=by
 obtain⟨rfl,hmx,hcc,hcm⟩:=AH hl;have HD:=hid (fun (W:World) (hW:Below w.heap.size w W)=>Lr W B a _ c (lift hl hW) hB Va hD);clear hl hD;go_enter Tryz.func36,Tryz.ntmps36;go_upto_region 1 with (fail);have hR0:Blk ((w.alloc (.cells #[.int .u64 0,.slice none 0 0] 63)).alloc (.cells #[.int .i64 0,.int .i64 0] 65)) w.heap.size 63 #[.int .u64 0,.slice none 0 0]:=zC;have hF0:Blk ((w.alloc (.cells #[.int .u64 0,.slice none 0 0] 63)).alloc (.cells #[.int .i64 0,.int .i64 0] 65)) (w.heap.size+1) 65 #[.int .i64 0,.int .i64 0]:=zC;have hb0:Below w.heap.size w ((w.alloc (.cells #[.int .u64 0,.slice none 0 0] 63)).alloc (.cells #[.int .i64 0,.int .i64 0] 65)):=zA;generalize ((w.alloc (.cells #[.int .u64 0,.slice none 0 0] 63)).alloc (.cells #[.int .i64 0,.int .i64 0] 65))=w0 at*;have hz0:w.heap.size+1<w0.heap.size:=hF0.lt;go_wp2_with fail;refine (HD.out w0 hb0).mono ?_;rintro r w1 ⟨a1,c1,rfl,hr1,hb1⟩;have hR1:=hR0.later hb1;have hF1:=hF0.later hb1;have hbl1:=Af hb1 hb0;have hz1:=hb1.size;have HRD:=hid hr1;clear hR0 hF0 hb0 hb1 hr1 HD;obtain⟨q0,q1,q2,q3,lq⟩:=Bg hR1;obtain⟨p0,p1,p2,p3,lp⟩:=Bg hF1;clear hR1 hF1;go_wp2_with fail;refine An (v:=.tuple #[.agg #[.int .u64 g.epoch,.slice a1 g.batches.length c1],.bool q,.agg #[.int .i64 k,.int .i64 f]]) (by simp[results,Tryz.results36,go_sem,q0,q1,p0,p1,lq,lp]) rfl ⟨a1,c1,rfl,Bf.mono (Bf.keep HRD.out fun x e0=>zZ) fun x e0=>⟨zD,zB6⟩,zA⟩
theorem OV(w:World)(B:List UInt8)(a:Option Addr)(c0 c:Nat)(hl:Ag.r (·<w.heap.size) w [.slice a c0 c] B)(hB:B.length≤10000):
  Calls Tryz.prog 32 #[.slice a c0 c] w fun r w'=>∃q,r=.returned (.bool q)∧Below w.heap.size w w':=by
 obtain⟨rfl,hmx,hcc,hcm⟩:=AH hl;have HL:=hid hl;clear hl;go_enter Tryz.func32,Tryz.ntmps32;go_wp2_with fail;go_loopw [3] (fun i wr=>∃p:Nat,p≤B.length∧i=.int .i64 p∧Below w.heap.size w wr) (fun i _=>B.length-(intOf i).toNat)
 case atStart=>exact ⟨0,At _,rfl,Below.refl _ _⟩
 case round=>
  obtain⟨p0,hp0,rfl,hb0⟩:=hrel;by_cases hlt0:p0<B.length
  ·have e1:decide ((p0:Int)<(B.length:Int))=true:=Ad zD
   by_cases h40:p0<40
   ·have e2:decide ((p0:Int)<(40:Int))=true:=Ad zD
    obtain⟨wo,hwo⟩:∃wo:World,wo=wr:=⟨_,rfl⟩;subst hwo;go_wp2_with fail;go_loopw [4] (fun i wr=>∃p:Nat,p≤B.length∧i=.int .i64 p∧Below w.heap.size w wr) (fun i _=>B.length-(intOf i).toNat)
    case atStart=>exact ⟨p0,zD,rfl,hb0⟩
    case round=>
     obtain⟨p,hp,rfl,hb⟩:=hrel;clear hb0;by_cases hlt:p<B.length
     ·have i1:(p:Int)<(B.length:Int):=by omega
      have d1:decide ((p:Int)<(B.length:Int))=true:=Ad i1;obtain⟨A',c',hcut,hrd⟩:=N8 (lift HL.out hb) (lo:=p) hp;have hrd2:Ag.r (·<wr.heap.size) wr [.slice A' (B.drop p).length c'] (B.drop p):=by rw[Ea];exact hrd
      have hdl:(B.drop p).length≤10000:=zI;have HF:=hid (PZ wr A' c' (B.drop p) hrd2 ⟨0,0,0⟩ ⟨At _,fun _=>rfl⟩ zD 1500 zO);have hpos:=Sj (B:=B.drop p) (m:=1500);have hle:=To (B:=B.drop p) (m:=1500);have hlen:=Sk (B:=B.drop p) (m:=1500);have hdr:(B.drop p).length=B.length-p:=Ea ..;rw[hdr] at HF hle;generalize (⟨0,0,0⟩:Rs).frame (B.drop p) 1500=T at*;obtain⟨s,D⟩:=T;dsimp only at HF hpos hle hlen;unfold CV at HF;have HB:=hid hb;have HDR:=hid hdr;clear hrd hrd2 hb hdl hdr;go_wp2_with fail;refine HF.out.mono ?_;rintro r w1 ⟨v,rfl,hr,hb1⟩;obtain⟨aD,cD,hfv,hr2,_⟩:=AJ hr;simp only[As,AF] at hfv;subst hfv;have hb2:Below w1.heap.size w1 (w1.alloc (.cells #[.slice A' (B.length-p) c',.int .i64 (s.p:Int),.int .i64 s.k,.int .i64 s.f] 91)):=zA;have HC2:Hid (Blk (w1.alloc (.cells #[.slice A' (B.length-p) c',.int .i64 (s.p:Int),.int .i64 s.k,.int .i64 s.f] 91)) w1.heap.size 91 #[.slice A' (B.length-p) c',.int .i64 (s.p:Int),.int .i64 s.k,.int .i64 s.f]):=hid (Blk.newAt _ _ _ rfl);have HD2:=hid (lift (Ag.mono hr2 (S':=(·<w1.heap.size)) fun q hq=>hq.2) hb2);have hbw2:=Af hb2 (Af hb1 HB.out);clear hr hr2 hb1 hb2 HF;obtain⟨x0,x1,x2,x3,f0,f1,f2,f3,l0⟩:=CX HC2.out;go_upto_region 7 with (fail);generalize (w1.alloc (.cells #[.slice A' (B.length-p) c',.int .i64 (s.p:Int),.int .i64 s.k,.int .i64 s.f] 91))=w2 at*;by_cases hk:s.k=0
      ·have dk:(s.k !=(0:Int))=false:=by simp[hk]
       have hp4:=hpos hk;clear hk hpos;have hdm:=(AH HD2.out).2.1;by_cases h1:1<D.length
       ·have g1:decide ((1:Int)<(D.length:Int))=true:=Ad zD
        obtain⟨b0,o0,hA0,_,hc0⟩:=BJ HD2.out (i:=0) zD;obtain⟨A2,c2,hcut2,hrd2⟩:=N8 HD2.out (lo:=1) zD;have HG:=hid (OX w2 (D.drop 1) A2 _ c2 hrd2 (by rw[Ea];omega));have hcut3:∀w':World,(Instr.slice 22 (.slice aD D.length cD) (some (.int .i64 1)) none none).run Tryz.prog w'=.ok (.slice A2 (D.length-1) c2) w':=hcut2;have i0:(0:Int)≤(D.length:Int):=zD;have i2:(0:Int)<(D.length:Int):=zD;subst hA0;rw[CR] at hc0;generalize ((D[0]).toNat:Int)=x at*;clear hcut2 hrd2;by_cases hx:x=1
        ·have g2:(x==(1:Int))=true:=by simp[hx]
         clear hx;go_wp2_with fail;refine HG.out.mono ?_;rintro r w3 ⟨q0,rfl,rfl⟩;cases q0
         ·go_wp2_with fail
          go_roundw
          case rel=>exact ⟨p+s.p,zD,zT,hbw2⟩
          case measure=>(simp[intOf];try omega)
         ·go_wp2_with fail
          go_ret;exact⟨_,rfl,hbw2⟩
        ·have g2:(x==(1:Int))=false:=by simp[hx]
         clear hx;go_wp2_with fail;go_roundw
         case rel=>exact ⟨p+s.p,zD,zT,hbw2⟩
         case measure=>(simp[intOf];try omega)
       ·have g1:decide ((1:Int)<(D.length:Int))=false:=Ae zD
        go_wp2_with fail;go_roundw
        case rel=>exact ⟨p+s.p,zD,zT,hbw2⟩
        case measure=>(simp[intOf];try omega)
      ·have dk:(s.k !=(0:Int))=true:=by simp[hk]
       clear hk hpos;go_wp2_with fail;go_roundw
       case rel=>exact ⟨p0+1,zD,zT,hbw2⟩
       case measure=>(simp[intOf];try omega)
     ·obtain rfl:p=B.length:=by omega
      have d1:decide ((B.length:Int)<(B.length:Int))=false:=Ae zD;go_wp2_with fail;go_roundw
      case rel=>exact ⟨p0+1,zD,zT,hb⟩
      case measure=>(simp[intOf];try omega)
   ·have e2:decide ((p0:Int)<(40:Int))=false:=Ae zD
    go_wp2_with fail;go_ret;exact⟨_,rfl,hb0⟩
  ·obtain rfl:p0=B.length:=by omega
   have e1:decide ((B.length:Int)<(B.length:Int))=false:=Ae zD;go_wp2_with fail;go_ret;exact⟨_,rfl,hb0⟩
theorem LO(w:World):Calls Tryz.prog 33 #[] w fun r w'=>r=.returned (.bool true)∧Below w.heap.size w w':=by
 have HB:=hid (PM w);go_enter Tryz.func33,Tryz.ntmps33;go_wp2_with fail;refine HB.out.mono ?_;rintro r w1 ⟨v,rfl,hr,hb1⟩;obtain⟨a1,c1,hv,hr2,_⟩:=AJ hr;simp only[As,AF] at hv;subst hv;obtain⟨_,_,hc42,hcm⟩:=AH hr2;obtain⟨b,o,rfl,_,_⟩:=BJ hr2 (i:=0) zO;have h4:=Ie hr2 (k:=4) zO;have h13:=Ie (K1 hr2 (k:=10) zO) (k:=3) zO;have kc:=FC (P:=Tryz.prog) 22 9 5 AG E9 GV h4;have HR:=hid (Ag.mono (S':=(·<w1.heap.size)) h13 fun q hq=>hq.2);simp only[AL,By,BQ,Fa,De,DH,Bj,Nat.reduceAdd] at kc HR hc42;clear h4 h13 hr hr2;go_wp2_with fail;have hs1:=IQ [2,2,0] [2,2,0] (some ⟨b,o+10,none⟩) (some ⟨w1.heap.size,0,none⟩) 3 (c1-10) 3 3 (w1.alloc (.cells #[.int .u8 2,.int .u8 2,.int .u8 0] 5)) (lift HR.out (by clear hb1;(repeat (first | exact Below.refl _ _ | assumption | (refine Au ?_ _) | (refine Below.setCell ?_ (by first | omega | (simp;done) | (simp;omega)) _) | (refine Below.drew ?_) | (refine below_drewN ?_ _) | (refine Af (by assumption) ?_))))) (R8 (l:=[2,2,0]) (cs:=#[.int .u8 2,.int .u8 2,.int .u8 0]) rfl zO (World.alloc_heap_new w1 _));simp only[decide_true] at hs1;refine hs1.mono ?_;rintro r w3 ⟨rfl,rfl⟩;have hbe:Below w.heap.size w (w1.alloc (.cells #[.int .u8 2,.int .u8 2,.int .u8 0] 5)):=Au hb1 _;clear hs1;generalize w1.alloc (.cells #[.int .u8 2,.int .u8 2,.int .u8 0] 5)=w3 at*;go_wp2;go_ret;exact⟨rfl,hbe⟩
theorem Om{g:Seg}{k:Int}:Below w.heap.size w ((w.alloc (.cells #[.int .u64 g.epoch,.slice a g.batches.length c] 63)).alloc (.cells #[.int .i64 k,.int .i64 f] 65))∧Blk ((w.alloc (.cells #[.int .u64 g.epoch,.slice a g.batches.length c] 63)).alloc (.cells #[.int .i64 k,.int .i64 f] 65)) w.heap.size 63 #[.int .u64 g.epoch,.slice a g.batches.length c]∧Blk ((w.alloc (.cells #[.int .u64 g.epoch,.slice a g.batches.length c] 63)).alloc (.cells #[.int .i64 k,.int .i64 f] 65)) (w.heap.size+1) 65 #[.int .i64 k,.int .i64 f]:=⟨zA,zC,zC⟩
theorem Rd{g:Seg}(h:Df g=true):(0≤g.epoch∧g.epoch≤18446744073709551615)∧(∀b∈g.batches,IF b.entries)∧(∀b∈g.batches,Fair b.entries):=by
 obtain⟨⟨h1,h2⟩,_,h4⟩:=GG h;exact⟨⟨zD,zD⟩,fun b hb=>Rb (h4 b hb),fun b hb=>(Rb (h4 b hb)).fair⟩
set_option maxHeartbeats 12800000 in
theorem Mz(B:List UInt8)(a:Option Addr)(n c:Nat)(w:World)(hl:Ag.r (·<w.heap.size) w [.slice a n c] B):
  Calls Tryz.prog 9 #[.slice a n c] w fun r w'=>r=.returned (.bool true)∧Below w.heap.size w w':=by
 obtain⟨rfl,hm,_,_⟩:=AH hl;have HL:=hid hl;by_cases h1500:B.length≤1500
 ·have d0:decide ((1500:Int)<(B.length:Int))=false:=Ae zD
  have HHV:=hid (OV w B a _ c hl zD);generalize hS:Md B=S at*;obtain⟨g1,q1,k1,f1⟩:=S;generalize hLo:Me B=Lo at*;obtain⟨g2,q2,k2,f2⟩:=Lo;obtain⟨o1,o2,o3,o4⟩:=QT hS hLo;have HDS:=hid (fun (V:World) (h:Ag.r (·<V.heap.size) V [.slice a B.length c] B)=>Ot V B a _ c h zD hS);have HDL:=hid (fun (V:World) (h:Ag.r (·<V.heap.size) V [.slice a B.length c] B)=>Ou V B a _ c h zD hLo);clear hl hS hLo h1500;go_enter Tryz.func9,Tryz.ntmps9;go_wp2_with fail;refine HHV.out.mono ?_;rintro r w0 ⟨q0,rfl,hb0⟩;have HB0:=hid hb0;clear hb0 HHV;cases q0
  ·go_wp2_with fail
   refine (HDS.out _ (lift HL.out HB0.out)).mono ?_;rintro r w1 ⟨a1,c1,rfl,hr1,hb1⟩;obtain⟨hbT,hS1,hF1⟩:=Om (w:=w1) (g:=g1) (k:=k1) (f:=f1) (a:=a1) (c:=c1);have HB2:=hid (Af hbT (Af hb1 HB0.out));have HR2:=hid (show Bf.r (·<((w1.alloc (.cells #[.int .u64 g1.epoch,.slice a1 g1.batches.length c1] 63)).alloc (.cells #[.int .i64 k1,.int .i64 f1] 65)).heap.size) ((w1.alloc (.cells #[.int .u64 g1.epoch,.slice a1 g1.batches.length c1] 63)).alloc (.cells #[.int .i64 k1,.int .i64 f1] 65)) [.slice a1 g1.batches.length c1] g1.batches from lift (Bf.mono (S':=(·<w1.heap.size)) hr1 fun q e=>e.2) hbT);have HS2:=hid hS1;have HF2:=hid hF1;clear hr1 hb1 hbT hS1 hF1 HDS HB0;go_upto_region 4 with (fail);generalize ((w1.alloc (.cells #[.int .u64 g1.epoch,.slice a1 g1.batches.length c1] 63)).alloc (.cells #[.int .i64 k1,.int .i64 f1] 65))=w2 at*;generalize w1.heap.size=gA at*;go_wp2_with fail;refine (HDL.out _ (lift HL.out HB2.out)).mono ?_;rintro r w3 ⟨a3,c3,rfl,hr3,hb3⟩;obtain⟨hbT,hS3,hF3⟩:=Om (w:=w3) (g:=g2) (k:=k2) (f:=f2) (a:=a3) (c:=c3);have HB4:=hid (Af hbT (Af hb3 HB2.out));have HR4:=hid (lift (lift HR2.out hb3) hbT);have HS4:=hid ((HS2.out.later hb3).later hbT);have HF4:=hid ((HF2.out.later hb3).later hbT);have HQ4:=hid (show Bf.r (·<((w3.alloc (.cells #[.int .u64 g2.epoch,.slice a3 g2.batches.length c3] 63)).alloc (.cells #[.int .i64 k2,.int .i64 f2] 65)).heap.size) ((w3.alloc (.cells #[.int .u64 g2.epoch,.slice a3 g2.batches.length c3] 63)).alloc (.cells #[.int .i64 k2,.int .i64 f2] 65)) [.slice a3 g2.batches.length c3] g2.batches from lift (Bf.mono (S':=(·<w3.heap.size)) hr3 fun q e=>e.2) hbT);have HT4:=hid hS3;have HU4:=hid hF3;clear hr3 hb3 hbT hS3 hF3 HDL HB2 HR2 HS2 HF2;go_upto_region 5 with (fail);generalize ((w3.alloc (.cells #[.int .u64 g2.epoch,.slice a3 g2.batches.length c3] 63)).alloc (.cells #[.int .i64 k2,.int .i64 f2] 65))=w4 at*;generalize w3.heap.size=gB at*;obtain⟨s0,s1,s2,s3,ls⟩:=Bg HS4.out;obtain⟨f0,f1',f2',f3,lf⟩:=Bg HF4.out;obtain⟨t0,t1,t2,t3,lt⟩:=Bg HT4.out;obtain⟨u0,u1,u2,u3,lu⟩:=Bg HU4.out;by_cases hk1:k1=0
   ·have e1:(k1==(0:Int))=true:=by simp[hk1]
    obtain⟨p1,p2,p3,p4,p5,p6⟩:=o1 hk1;have e2:(k2==(0:Int))=true:=by simp[p4]
    subst p5;obtain⟨x1,x2,x3⟩:=Rd p1;have HBY:=hid (fun (V:World) (h:Bf.r (·<V.heap.size) V [.slice a1 g1.batches.length c1] g1.batches)=>(by have:=My g1.epoch g1.batches a1 _ c1 V x1 h p2 x2;rw[show (⟨g1.epoch,g1.batches⟩:Seg)=g1 from rfl,p1,p3] at this;exact this));have HRT:=hid (fun (V:World) (h:Bf.r (·<V.heap.size) V [.slice a1 g1.batches.length c1] g1.batches)=>(by have:=Ku g1.epoch g1.batches a1 _ c1 V x1 h x3;rw[show (⟨g1.epoch,g1.batches⟩:Seg)=g1 from rfl,p1] at this;exact this:Calls Tryz.prog 40 #[.agg #[.int .u64 g1.epoch,.slice a1 g1.batches.length c1]] V fun r w'=>r=.returned (.bool true)∧Below V.heap.size V w'));have HSA:=hid (fun (V:World) (h1:Bf.r (·<V.heap.size) V [.slice a3 g1.batches.length c3] g1.batches) (h2:Bf.r (·<V.heap.size) V [.slice a1 g1.batches.length c1] g1.batches)=>(by have:=PT g1.epoch g1.epoch g1.batches g1.batches a3 a1 _ c3 _ c1 V h1 h2;rw[Ad rfl] at this;exact this:Calls Tryz.prog 37 #[.agg #[.int .u64 g1.epoch,.slice a3 g1.batches.length c3],.agg #[.int .u64 g1.epoch,.slice a1 g1.batches.length c1]] V fun r w'=>r=.returned (.bool true)∧Below V.heap.size V w'));have HSB:=hid (fun (V:World) (aO:Option Addr) (cO:Nat) (h1:Ag.r (·<V.heap.size) V [.slice aO B.length cO] B) (h2:Ag.r (·<V.heap.size) V [.slice a B.length c] B)=>(by have:=IQ B B aO a _ cO _ c V h1 h2;rw[Ad rfl] at this;exact this:Calls Tryz.prog 24 #[.slice aO B.length cO,.slice a B.length c] V fun r w'=>r=.returned (.bool true)∧V=w'));subst p6;simp only[↓reduceIte] at HBY;clear o1 o2 o3 o4 hk1 p1 p2 p3 p4 x1 x2 x3;go_wp2_with fail;refine (HBY.out _ HR4.out).mono ?_;rintro r w5 ⟨v5,rfl,hr5,hb5⟩;obtain⟨a5,c5,hfv,hr5',_⟩:=AJ hr5;simp only[As,AF] at hfv;subst hfv;have HJ5:=hid (show Ag.r (·<w5.heap.size) w5 [.slice a5 B.length c5] B from Ag.mono hr5' fun q e=>e.2);have HB5:=hid (Af hb5 HB4.out);have HR5:=hid (lift HR4.out hb5);have HQ5:=hid (lift HQ4.out hb5);have HS5:=hid (HS4.out.later hb5);have HT5:=hid (HT4.out.later hb5);have HU5:=hid (HU4.out.later hb5);clear hr5 hr5' hb5 HB4 HR4 HS4 HF4 HQ4 HT4 HU4 s0 s1 s2 s3 ls f0 f1' f2' f3 lf t0 t1 t2 t3 lt u0 u1 u2 u3 lu HBY;obtain⟨s0,s1,s2,s3,ls⟩:=Bg HS5.out;go_wp2_with fail;refine (HRT.out _ HR5.out).mono ?_;rintro r w6 ⟨rfl,hb6⟩;have HB6:=hid (Af hb6 HB5.out);have HJ6:=hid (lift HJ5.out hb6);have HR6:=hid (lift HR5.out hb6);have HQ6:=hid (lift HQ5.out hb6);have HS6:=hid (HS5.out.later hb6);have HT6:=hid (HT5.out.later hb6);have HU6:=hid (HU5.out.later hb6);clear hb6 HB5 HJ5 HR5 HQ5 HS5 HT5 HU5 s0 s1 s2 s3 ls HRT;go_wp2_with fail;refine (HSB.out _ _ _ HJ6.out (lift HL.out HB6.out)).mono ?_;rintro r w7 ⟨rfl,rfl⟩;obtain⟨s0,s1,s2,s3,ls⟩:=Bg HS6.out;obtain⟨t0,t1,t2,t3,lt⟩:=Bg HT6.out;obtain⟨u0,u1,u2,u3,lu⟩:=Bg HU6.out;go_wp2_with fail;refine (HSA.out _ HQ6.out HR6.out).mono ?_;rintro r w8 ⟨rfl,hb8⟩;have HB8:=hid (Af hb8 HB6.out);clear hb8 HB6 HJ6 HR6 HQ6 HS6 HT6 HU6 s0 s1 s2 s3 ls t0 t1 t2 t3 lt u0 u1 u2 u3 lu HSA;go_wp2_with fail;refine (LO _).mono ?_;rintro r w9 ⟨rfl,hb9⟩;have HBE:=hid (Af hb9 HB8.out);clear hb9;go_wp2_with fail;go_ret;exact⟨rfl,HBE.out⟩
   ·have e1:(k1==(0:Int))=false:=by simp[hk1]
    by_cases hk2:k2=0
    ·have e2:(k2==(0:Int))=true:=by simp[hk2]
     obtain⟨p1,p2,p3,p4⟩:=o2 hk1 hk2;have e3:(k1==(12:Int))=true:=by simp[p4]
     subst p1;obtain⟨x1,x2,x3⟩:=Rd p2;have HRT:=hid (fun (V:World) (h:Bf.r (·<V.heap.size) V [.slice a3 g2.batches.length c3] g2.batches)=>(by have:=Ku g2.epoch g2.batches a3 _ c3 V x1 h x3;rw[show (⟨g2.epoch,g2.batches⟩:Seg)=g2 from rfl,p2] at this;exact this:Calls Tryz.prog 40 #[.agg #[.int .u64 g2.epoch,.slice a3 g2.batches.length c3]] V fun r w'=>r=.returned (.bool true)∧Below V.heap.size V w'));clear o1 o2 o3 o4 hk1 hk2 p2 p3 p4 x1 x2 x3;go_wp2_with fail;refine (HRT.out _ HQ4.out).mono ?_;rintro r w5 ⟨rfl,hb5⟩;have HB5:=hid (Af hb5 HB4.out);have HF5:=hid (HF4.out.later hb5);clear hb5 HB4 HR4 HS4 HF4 HQ4 HT4 HU4 s0 s1 s2 s3 ls f0 f1' f2' f3 lf t0 t1 t2 t3 lt u0 u1 u2 u3 lu HRT;obtain⟨f0,f1',f2',f3,lf⟩:=Bg HF5.out;go_wp2_with fail;refine (LO _).mono ?_;rintro r w9 ⟨rfl,hb9⟩;have HBE:=hid (Af hb9 HB5.out);clear hb9;go_wp2_with fail;go_ret;exact⟨rfl,HBE.out⟩
    ·have e2:(k2==(0:Int))=false:=by simp[hk2]
     obtain rfl:=o3 hk1;obtain⟨rfl,rfl⟩:=o4 hk2;clear o1 o2 o3 o4 hk1 hk2 HR4 HQ4;dsimp only[MW,By] at*;go_wp2_with fail;refine (LO _).mono ?_;rintro r w9 ⟨rfl,hb9⟩;have HBE:=hid (Af hb9 HB4.out);clear hb9;go_wp2_with fail;go_ret;exact⟨rfl,HBE.out⟩
  ·clear HDS HDL o1 o2 o3 o4
   go_wp2_with fail;refine (LO _).mono ?_;rintro r w9 ⟨rfl,hb9⟩;have HBE:=hid (Af hb9 HB0.out);go_wp2_with fail;go_ret;exact⟨rfl,HBE.out⟩
 ·have d0:decide ((1500:Int)<(B.length:Int))=true:=Ad zD
  clear h1500 hl;go_enter Tryz.func9,Tryz.ntmps9;go_wp2_with fail;refine (LO _).mono ?_;rintro r w1 ⟨rfl,hb1⟩;go_wp2_with fail;go_ret;exact⟨rfl,hb1⟩
theorem segmentOnce_walk{H:Type}(enc:TypeId × Value→H)(W:World)(base:Nat)(v0:Value)(d0:DataW H)(p0:List MemPlace)
 (k0:DataW.Trod enc Tryz.prog W 0 (fun _=>true) true 22 v0 d0 p0) (o0:Value.okWide Tryz.prog W .any base 22 v0):
  Calls Tryz.prog 9 #[v0] W fun e w'=>e=.returned (.bool true)∧Below W.heap.size W w':=by
 obtain⟨fuel,hf⟩:=k0;obtain⟨a,len,cap,rfl⟩:=Go.WideShapes.okWide_slice AG o0;obtain⟨b,hb⟩:=T4 enc W fuel _ _ hf;exact Mz b a len cap W hb
end Go.Proofs.YtfddhafbhceoaaaGreat
