/- Mini: Needed by segmentOnce_walk, part 8: texts put together by shake.py; no condition. -/
import Derived.Test.YtfddhafbhceoaaaGreatWC7
import Derived.Test.YtfddhafbhceoaaaGreatWC4
import Derived.Laws.Bits64
import Derived.Test.YtfddhafbhceoaaaGreatWC2
import Derived.Test.YtfddhafbhceoaaaGreatWC1
import Derived.Test.YtfddhafbhceoaaaGreatWC6
import Derived.Deep.RegionHeld3
import Derived.Test.YtfddhafbhceoaaaGreatWC5
import Derived.Test.YtfddhafbhceoaaaGreatWC3
import Derived.Deep.Cut
import Derived.Deep.CutRange
import Derived.BigRegion
set_option linter.unusedVariables false
set_option linter.unusedSimpArgs false
set_option maxRecDepth 100000
set_option maxHeartbeats 6400000
namespace Go.Bs
theorem zBv{p:Prop}(h:p:=by simp [results, Tryz.results268, go_sem, u0, u1, lF]):p:=h
theorem zAg{p:Prop}(h:p:=by have := hJl.out; omega):p:=h
theorem Z3{p:Prop}(h:p:=by rw [Al, hJl.out]; rfl):p:=h
end Go.Bs
namespace Go.Proofs.YtfddhafbhceoaaaGreat
open Go.RowKit Go.Bs Go.Maps
variable{m pos:Int}{B:List UInt8}{xs:List Value}{base c g n sz:Nat}{a:Option Addr}{s:Rs}{e:TypeId}{u v:Value}{W W' w:World}
theorem IW{c:UInt8}(h:n=c.toNat):UInt8.ofNat n=c:=by
 subst h;exact UInt8.ofNat_toNat
theorem Lj:∀(l:List UInt8) (i x v u:Nat),i≤9→CY i x l=(v,u,0)→∃y,v=x+y*128^i∧(0<i→0<y)∧l.take (u-i)=G0 (9-i) y∧i<u∧u-i≤l.length
 | [],i,x,v,u,_,h=>by simp[CY] at h
 | c::l,i,x,v,u,hi,h=>by
  have hc:=c.toNat_lt;unfold CY at h;by_cases h1:i=9∧1<c.toNat
  ·rw[Ai h1] at h;simp at h
  ·rw[Ah h1] at h
   by_cases h2:0<i∧c.toNat=0
   ·rw[Ai h2] at h;simp at h
   ·rw[Ah h2] at h
    by_cases h3:c.toNat<128
    ·rw[Ai h3] at h
     simp only[EO,AF] at h;obtain⟨rfl,rfl⟩:=h;refine⟨c.toNat,rfl,fun h=>zD,?_,zD,by rw[AL];omega⟩;rw[show i+1-i=1 by omega,BQ,Fa];obtain⟨f,hf⟩:∃f,f=9-i:=⟨_,rfl⟩;rw[←hf];cases f with
     | zero=>simp only[G0];rw[IW rfl]
     | succ f=>simp only[G0];rw[Ai h3,IW rfl]
    ·rw[Ah h3] at h
     have hi9:i<9:=by
      rcases Be i 9 with h | h
      ·exact h
      ·exact absurd ⟨zD,zD⟩ h1
     obtain⟨y,hv,hy,ht,hu,hlu⟩:=Lj l (i+1) _ v u zD h;have hy0:=hy zD;refine⟨c.toNat%128+128*y,?_,fun _=>zD,?_,zD,by rw[AL];omega⟩
     ·rw[hv,EL,Nat.add_mul]
      generalize 128^i=k;rw[Nat.mul_comm k 128,←Nat.mul_assoc y 128 k,Nat.mul_comm y 128];omega
     ·rw[show u-i=(u-(i+1))+1 by omega,BQ,ht,show 9-i=(9-(i+1))+1 by omega]
      simp only[G0];rw[Ah zD,IW (c:=c) zD,show (c.toNat%128+128*y)/128=y by omega]
theorem Rs.D6(hs:s.ok B.length)(h:(s.num B).1.k=0):B.drop s.p=AV (s.num B).2++B.drop (s.num B).1.p∧(s.num B).1.f=0:=by
 have hm:=Rs.DB h;have hle:=hs.le;unfold Rs.num at*;rw[Ai hm.2] at*;dsimp only at h ⊢;obtain⟨y,hv,_,ht,hu,hlu⟩:=Lj (B.drop s.p) 0 0 _ _ zD (show CY 0 0 (B.drop s.p)=((CY 0 0 (B.drop s.p)).1,(CY 0 0 (B.drop s.p)).2.1,0) from by rw[←h]);simp only[Nat.pow_zero,DG,Bj,Nat.sub_zero] at hv ht;refine⟨?_,by rw[Ai h]⟩;have:AV (CY 0 0 (B.drop s.p)).1=(B.drop s.p).take (CY 0 0 (B.drop s.p)).2.1:=by rw[ht,hv];rfl
 rw[this,←List.drop_drop,Dr]
theorem Rs.Da(hs:s.ok B.length)(h:(s.int B m).1.k=0):B.drop s.p=AV (s.int B m).2++B.drop (s.int B m).1.p∧((s.int B m).2:Int)≤m∧s.k=0:=by
 unfold Rs.int Rs.most at*;by_cases h0:0≤m
 ·rw[Ai h0] at h ⊢
  by_cases h1:m.toNat<(s.num B).2
  ·rw[Ai h1] at h;exact absurd h (Rs.A0 zD)
  ·rw[Ah h1] at h ⊢
   exact⟨(Rs.D6 hs h).1,zD,(Rs.DB h).2⟩
 ·rw[Ah h0] at h;exact absurd h (Rs.A0 zD)
theorem Rs.Pa:∀(n:Nat) (s:Rs) (below:Int) (out:List Int),s.ok B.length→(Rs.Ey B n s below out).1.ok B.length
 | 0,s,below,out,h=>h
 | n+1,s,below,out,h=>by
  simp only[Rs.Ey];split
  ·split
   ·exact Rs.Ce (Rs.Cn h) zD
   ·exact Rs.Pa n _ _ _ (Rs.Cn h)
  ·exact Rs.Cn h
theorem Rs.Mc{below most:Int}(h:s.ok B.length):(s.delta B below most).1.ok B.length:=Rs.Pa _ _ _ _ (Rs.Dp h)
theorem Rs.Gv{prev:Option Int}(h:s.ok B.length):(s.stream B prev).1.ok B.length:=by
 unfold Rs.stream;cases prev with
 | none=>exact Rs.Cn h
 | some q=>
  dsimp only;split
  ·exact Rs.Ce (Rs.Cn h) zD
  ·exact Rs.Cn h
theorem Rs.M0:∀(n:Nat) (s:Rs) (prev:Option Int) (out:List Ba),s.ok B.length→(Rs.Dg B pos n s prev out).1.ok B.length
 | 0,s,prev,out,h=>h
 | n+1,s,prev,out,h=>by
  simp only[Rs.Dg];split
  ·exact Rs.M0 n _ _ _ (Rs.Mc (Rs.Gv h))
  ·exact Rs.Mc (Rs.Gv h)
theorem Rs.LP(h:s.ok B.length):(s.links B pos).1.ok B.length:=Rs.M0 _ _ _ _ (Rs.Dp h)
theorem Rs.Mb{most:Int}(h:s.ok B.length):(s.Cm B pos most).1.ok B.length:=by
 unfold Rs.Cm;split
 ·exact Rs.Dp (Rs.LP h)
 ·exact Rs.Dp (Rs.LP h)
theorem Rs.O3:∀(n:Nat) (s:Rs) (pos left:Int) (out:List (List Ba × Nat)),s.ok B.length→(Rs.Dl B n s pos left out).1.ok B.length
 | 0,s,pos,left,out,h=>h
 | n+1,s,pos,left,out,h=>by
  simp only[Rs.Dl];split
  ·exact Rs.O3 n _ _ _ _ (Rs.Mb h)
  ·exact Rs.Mb h
theorem Rs.Pe(h:s.ok B.length):(s.ep B).1.ok B.length:=by
 unfold Rs.ep;split
 ·split
  ·exact Rs.Cn h
  ·exact Rs.Ce (Rs.Cn h) zD
 ·exact Rs.Cn h
theorem Rs.Rg(h:s.ok B.length):(s.po B).1.ok B.length:=by
 unfold Rs.po;split
 ·split
  ·exact Rs.Cn h
  ·exact Rs.Ce (Rs.Cn h) zD
 ·exact Rs.Cn h
theorem Rs.Nr(h:s.ok B.length):(s.Bm B).1.ok B.length:=by
 unfold Rs.Bm;dsimp only;split
 ·exact Rs.Dp (Rs.Rg (Rs.Pe h))
 ·exact Rs.Ce (Rs.Dp (Rs.Rg (Rs.Pe h))) zD
theorem Rs.KJ:∀(n:Nat) (s:Rs) (below:Int) (out:List Int),s.ok B.length→below≤18446744073709551615→(Rs.Ey B n s below out).1.k=0→
  ∃l:List Int,(Rs.Ey B n s below out).2=out++l∧l.length=n∧BP below l=true∧(∀x∈l,0≤x)∧B.drop s.p=CG (BX below l)++B.drop (Rs.Ey B n s below out).1.p∧s.k=0
 | 0,s,below,out,hs,_,h=>⟨[],by simp[Rs.Ey],rfl,rfl,zQ,by simp[Rs.Ey,BX,CG],h⟩
 | n+1,s,below,out,hs,hb,h=>by
  simp only[Rs.Ey] at h ⊢;by_cases h1:(s.num B).1.k=0
  ·rw[Ai h1] at h ⊢
   by_cases h2:below≤((s.num B).2:Int)
   ·rw[Ai h2] at h;exact absurd h (Rs.A0 zD)
   ·rw[Ah h2] at h ⊢
    obtain⟨l,e1,e2,e3,e4,e5,_⟩:=Rs.KJ n _ _ _ (Rs.Cn hs) zD h;have hc:=(Rs.D6 hs h1).1;refine⟨(below-(s.num B).2-1)::l,?_,by simp[e2],?_,?_,?_,(Rs.DB h1).2⟩
    ·rw[e1];simp
    ·simp only[BP];rw[e3,Bool.and_true];exact Ad zD
    ·intro x hx
     rcases List.mem_cons.1 hx with rfl | hx
     ·omega
     ·exact e4 x hx
    ·simp only[BX]
     rw[IX,AB,←e5,show (below-(below-((s.num B).2:Int)-1)-1).toNat=(s.num B).2 by omega];exact hc
  ·rw[Ah h1] at h;exact absurd h h1
theorem Rs.KK{B:List UInt8}{s:Rs}{below most:Int}(hs:s.ok B.length)(hb:below≤18446744073709551615)(h:(s.delta B below most).1.k=0):
  BP below (s.delta B below most).2=true∧((s.delta B below most).2.length:Int)≤most∧(∀x∈(s.delta B below most).2,0≤x)∧B.drop s.p=Dj below (s.delta B below most).2++B.drop (s.delta B below most).1.p∧s.k=0:=by
 unfold Rs.delta at*;obtain⟨l,e1,e2,e3,e4,e5,e6⟩:=Rs.KJ _ _ _ _ (Rs.Dp hs) hb h;have hi:=Rs.Da hs e6;rw[A8] at e1;rw[e1];refine⟨e3,by rw[e2];exact hi.2.1,e4,?_,hi.2.2⟩;unfold Dj;rw[AB,←e5,e2];exact hi.1
theorem Rs.NC{prev:Option Int}(hs:s.ok B.length)(hp:∀q,prev=some q→0≤q∧q≤18446744073709551615)(h:(s.stream B prev).1.k=0):
  (0≤(s.stream B prev).2∧(s.stream B prev).2≤18446744073709551615)∧(∀q,prev=some q→q<(s.stream B prev).2)∧B.drop s.p=AV (match prev with | none=>(s.stream B prev).2 | some q=>(s.stream B prev).2-q-1).toNat++B.drop (s.stream B prev).1.p∧s.k=0:=by
 have hsm:=Rs.D5 (B:=B) (s:=s);unfold Rs.stream at*;cases prev with
 | none=>
  dsimp only at h ⊢;have hc:=(Rs.D6 hs h).1;exact⟨⟨zD,zD⟩,fun q e=>(by cases e),by rw[Gr];exact hc,(Rs.DB h).2⟩
 | some q=>
  have hq:=hp q rfl;dsimp only at h ⊢;by_cases h1:18446744073709551615-q≤((s.num B).2:Int)
  ·rw[Ai h1] at h;exact absurd h (Rs.A0 zD)
  ·rw[Ah h1] at h ⊢
   have hc:=(Rs.D6 hs h).1;refine⟨⟨zD,zD⟩,fun q' e=> ?_,?_,(Rs.DB h).2⟩
   ·simp only[Bh] at e;omega
   ·rw[show (((s.num B).2:Int)+q+1-q-1).toNat=(s.num B).2 by omega]
    exact hc
theorem Rs.JD(hpos:pos≤18446744073709551615):∀(n:Nat) (s:Rs) (prev:Option Int) (out:List Ba),s.ok B.length→(∀q,prev=some q→0≤q∧q≤18446744073709551615)→(Rs.Dg B pos n s prev out).1.k=0→
  ∃l:List Ba,(Rs.Dg B pos n s prev out).2=out++l∧l.length=n∧Dn (l.map Ba.stream)=true∧(∀q,prev=some q→Dn (q::l.map Ba.stream)=true)∧(∀x∈l,CD pos x=true∧OT x)∧B.drop s.p=KU pos prev l++B.drop (Rs.Dg B pos n s prev out).1.p∧s.k=0
 | 0,s,prev,out,hs,_,h=>⟨[],by simp[Rs.Dg],rfl,rfl,fun q _=>rfl,zQ,by simp[Rs.Dg,KU],h⟩
 | n+1,s,prev,out,hs,hp,h=>by
  simp only[Rs.Dg] at h ⊢;by_cases h1:((s.stream B prev).1.delta B pos 4).1.k=0
  ·rw[Ai h1] at h ⊢
   obtain⟨d1,d2,d3,d4,d5⟩:=Rs.KK (Rs.Gv hs) hpos h1;obtain⟨s1,s2,s3,s4⟩:=Rs.NC hs hp d5;obtain⟨l,e1,e2,e3,e4,e5,e6,_⟩:=Rs.JD hpos n _ _ _ (Rs.Mc (Rs.Gv hs)) (fun q e=>by simp only[Bh] at e;subst e;exact s1) h;refine⟨⟨(s.stream B prev).2,((s.stream B prev).1.delta B pos 4).2⟩::l,?_,by simp[e2],?_,?_,?_,?_,s4⟩
   ·rw[e1];simp
   ·exact e4 _ rfl
   ·intro q hq
    have:=e4 _ rfl;simp only[DA,Dn];rw[Aq];exact⟨Ad (s2 q hq),this⟩
   ·intro x hx
    rcases List.mem_cons.1 hx with rfl | hx
    ·refine⟨?_,s1,d3⟩
     simp only[CD,Aq,Ar];exact⟨zD,d1⟩
    ·exact e5 x hx
   ·rw[s3,d4,e6]
    cases prev<;>simp only[KU,AB]
  ·rw[Ah h1] at h;exact absurd h h1
theorem Rs.OR{B:List UInt8}{s:Rs}{pos:Int}(hs:s.ok B.length)(hpos:pos≤18446744073709551615)(h:(s.links B pos).1.k=0):
  BY pos (s.links B pos).2=true∧(∀x∈(s.links B pos).2,OT x)∧B.drop s.p=DS pos (s.links B pos).2++B.drop (s.links B pos).1.p∧s.k=0:=by
 unfold Rs.links at*;obtain⟨l,e1,e2,e3,_,e5,e6,e7⟩:=Rs.JD hpos _ _ _ _ (Rs.Dp hs) (fun q e=>by cases e) h;have hi:=Rs.Da hs e7;rw[A8] at e1;rw[e1];refine⟨?_,fun x hx=>(e5 x hx).2,?_,hi.2.2⟩
 ·simp only[BY,Aq,Ar,List.all_eq_true]
  exact⟨zD,e3,fun x hx=>(e5 x hx).1⟩
 ·unfold DS
  rw[AB,←e6,e2];exact hi.1
theorem Rs.Ph{B:List UInt8}{s:Rs}{pos most:Int}(hs:s.ok B.length)(hpos:pos≤18446744073709551615)(hmo:most≤1048576)(h:(s.Cm B pos most).1.k=0):
  BY pos (s.Cm B pos most).2.1=true∧(∀x∈(s.Cm B pos most).2.1,OT x)∧((s.Cm B pos most).2.2:Int)≤most∧B.drop s.p=DS pos (s.Cm B pos most).2.1++(AV (s.Cm B pos most).2.2++B.drop (s.Cm B pos most).1.p)∧s.k=0:=by
 unfold Rs.Cm at*;by_cases h1:((s.links B pos).1.int B most).1.k=0
 ·rw[Ai h1] at h ⊢
  have hi:=Rs.Da (Rs.LP hs) h1;have hl:=Rs.OR hs hpos hi.2.2;dsimp only;exact⟨hl.1,hl.2.1,hi.2.1,by rw[←hi.1];exact hl.2.2.1,hl.2.2.2⟩
 ·rw[Ah h1] at h;exact absurd h h1
theorem Rs.KE:∀(n:Nat) (s:Rs) (pos left:Int) (out:List (List Ba × Nat)),s.ok B.length→pos+n≤18446744073709551615→left≤1048576→(Rs.Dl B n s pos left out).1.k=0→
  ∃l:List (List Ba × Nat),(Rs.Dl B n s pos left out).2=out++l∧l.length=n∧((C7 l:Int)≤left∨l=[])∧(∀D:List UInt8,D.length=C7 l→Cc pos (E5 l D)=true∧(∀e∈E5 l D,Tw e)∧B.drop s.p=Ch pos (E5 l D)++B.drop (Rs.Dl B n s pos left out).1.p∧CQ (E5 l D)=D∧(E5 l D).length=n)∧s.k=0
 | 0,s,pos,left,out,hs,_,_,h=>⟨[],by simp[Rs.Dl],rfl,.inr rfl,fun D hD=>by
   have:D=[]:=AS (by simpa [C7] using hD);subst this;exact⟨rfl,by simp[E5],by simp[Rs.Dl,E5,Ch],rfl,rfl⟩,h⟩
 | n+1,s,pos,left,out,hs,hpos,hle,h=>by
  simp only[Rs.Dl] at h ⊢;by_cases h1:(s.Cm B pos left).1.k=0
  ·rw[Ai h1] at h ⊢
   obtain⟨c1,c2,c3,c4,c5⟩:=Rs.Ph hs zD hle h1;obtain⟨l,e1,e2,e3,e4,_⟩:=Rs.KE n _ _ _ _ (Rs.Mb hs) zD zD h;refine⟨(s.Cm B pos left).2::l,?_,by simp[e2],?_,?_,c5⟩
   ·rw[e1];simp
   ·left
    simp only[C7,DA,List.sum_cons];rcases e3 with e3 | e3
    ·unfold C7 at e3;omega
    ·rw[e3];simp;omega
   ·intro D hD
    simp only[C7,DA,List.sum_cons] at hD;obtain⟨f1,f2,f3,f4,f5⟩:=e4 (D.drop (s.Cm B pos left).2.2) (by simp[C7];omega);have htl:(D.take (s.Cm B pos left).2.2).length=(s.Cm B pos left).2.2:=zI;generalize (s.Cm B pos left).2=E at*;obtain⟨L,m⟩:=E;dsimp only at*;simp only[E5];refine⟨?_,?_,?_,?_,by simp[f5]⟩
    ·simp only[Cc,Dq,Aq,Ar]
     exact⟨⟨c1,by rw[htl];omega⟩,f1⟩
    ·intro e he
     rcases List.mem_cons.1 he with rfl | he
     ·exact c2
     ·exact f2 e he
    ·simp only[Ch,FT]
     rw[htl,AB,AB,←f3];exact c4
    ·simp only[CQ,List.flatMap_cons] at f4 ⊢
     rw[f4,Dr]
  ·rw[Ah h1] at h;exact absurd h h1
theorem Rs.JN(hs:s.ok B.length)(h:(s.ep B).1.k=0):epR ((s.ep B).2:Int)=true∧B.drop s.p=AV (s.ep B).2++B.drop (s.ep B).1.p∧s.k=0:=by
 unfold Rs.ep at*;by_cases h1:(s.num B).1.k=0
 ·rw[Ai h1] at h ⊢
  by_cases h2:epR ((s.num B).2:Int)=true
  ·rw[Ai h2];exact⟨h2,(Rs.D6 hs h1).1,(Rs.DB h1).2⟩
  ·rw[Ah h2] at h;exact absurd h (Rs.A0 zD)
 ·rw[Ah h1] at h;exact absurd h h1
theorem Rs.LI(hs:s.ok B.length)(h:(s.po B).1.k=0):poR ((s.po B).2:Int)=true∧B.drop s.p=AV (s.po B).2++B.drop (s.po B).1.p∧s.k=0:=by
 unfold Rs.po at*;by_cases h1:(s.num B).1.k=0
 ·rw[Ai h1] at h ⊢
  by_cases h2:poR ((s.num B).2:Int)=true
  ·rw[Ai h2];exact⟨h2,(Rs.D6 hs h1).1,(Rs.DB h1).2⟩
  ·rw[Ah h2] at h;exact absurd h (Rs.A0 zD)
 ·rw[Ah h1] at h;exact absurd h h1
theorem Rs.Oc(hs:s.ok B.length)(h:(s.Bm B).1.k=0):epR ((s.Bm B).2.1:Int)=true∧Dc ((s.Bm B).2.2.1:Int) (s.Bm B).2.2.2=true∧B.drop s.p=AV (s.Bm B).2.1++(AV (s.Bm B).2.2.1++(AV (s.Bm B).2.2.2++B.drop (s.Bm B).1.p))∧s.k=0:=by
 unfold Rs.Bm at*;dsimp only at h ⊢;by_cases h1:Dc (((s.ep B).1.po B).2:Int) (((s.ep B).1.po B).1.int B 16).2=true
 ·rw[Ai h1] at h ⊢
  have hi:=Rs.Da (Rs.Rg (Rs.Pe hs)) h;have hp:=Rs.LI (Rs.Pe hs) hi.2.2;have he:=Rs.JN hs hp.2.2;exact⟨he.1,h1,by rw[←hi.1,←hp.2.1];exact he.2.1,he.2.2⟩
 ·rw[Ah h1] at h;exact absurd h (Rs.A0 zD)
theorem Rs.Gl{blk:Rs→Rs × List UInt8 × Bool}(hs:s.ok B.length)(h:(Rs.batch B blk s).1.k=0)(hblk:∀t:Rs,(blk t).1.k=0→t.k=0)(hlen:∀t,(blk t).2.1.length≤1048576):
  A4 (Rs.batch B blk s).2.1=true∧EK (Rs.batch B blk s).2.1∧∃t:Rs,t.ok B.length∧B.drop s.p=Kk (Rs.batch B blk s).2.1++B.drop t.p∧(Rs.batch B blk s).1=(blk t).1∧CQ (Rs.batch B blk s).2.1.entries=(blk t).2.1∧(Rs.batch B blk s).2.2=(blk t).2.2∧t.k=0:=by
 unfold Rs.batch at*;dsimp only at h ⊢;by_cases h1:(s.Bm B).1.k=0
 ·rw[Ai h1] at h ⊢
  generalize hH:Rs.Dl B (s.Bm B).2.2.2 (s.Bm B).1 ((s.Bm B).2.2.1:Int) 1048576 []=H at*;by_cases h2:(Rs.Mq blk H).1.k=0
  ·rw[Ai h2]
   unfold Rs.Mq at h2 ⊢;dsimp only at h2 ⊢;by_cases h3:C7 H.2=(blk H.1).2.1.length
   ·rw[Ai h3] at h2 ⊢
    have hHk:=hblk _ h2;have hf:=Rs.Oc hs h1;have hfit:=hf.2.1;simp only[Dc,Ar] at hfit;obtain⟨l,e1,e2,_,e4,_⟩:=Rs.KE (s.Bm B).2.2.2 (s.Bm B).1 ((s.Bm B).2.2.1:Int) 1048576 [] (Rs.Nr hs) zD zD (by rw[hH];exact hHk);rw[hH,A8] at e1;obtain⟨f1,f2,f3,f4,f5⟩:=e4 (blk H.1).2.1 (by rw[←h3,e1]);rw[hH] at f3;rw[e1];have hep:=hf.1;simp only[epR,Ar] at hep;refine⟨?_,⟨⟨zH,zH⟩,⟨zH,zH⟩,f2⟩,H.1,?_,?_,rfl,f4,rfl,hHk⟩
    ·simp only[A4,Aq,Ar]
     refine⟨hf.1,by rw[f5];exact hf.2.1,?_,f1⟩;rw[←Dh,f4];exact hlen _
    ·rw[←hH];exact Rs.O3 _ _ _ _ _ (Rs.Nr hs)
    ·unfold Kk
     dsimp only;rw[Gr,Gr,f5,AB,AB,AB,←f3];exact hf.2.2.1
   ·rw[Ah h3] at h2;exact absurd h2 (Rs.A0 zD)
  ·rw[Ah h2] at h;exact absurd h h2
 ·rw[Ah h1] at h;exact absurd h h1
structure Cf(w W:World)(g:Nat)(B:List UInt8)(a:Option Addr)(s:Rs):Prop where
 rd:AN W g B a s
 dat:Ag.r (fun q=>q<w.heap.size∧q≠g) W [.slice a B.length B.length] B
 tch:Tch (·=g) w W
 lt:g<w.heap.size
section
variable {w W W':World} {g:Nat} {B:List UInt8} {a:Option Addr} {s s':Rs}
theorem Cf.refl(h:AN w g B a s):Cf w w g B a s:=⟨h,h.dat,Tch.refl _ _,h.blk.lt⟩
theorem Cf.step(h:Cf w W g B a s)(k:Ay W g B a s' W'):Cf w W' g B a s':=
 ⟨k.1,Ag.keep h.dat fun q hq=>k.2.block q (Ao hq.1 h.tch.size) hq.2,h.tch.trans k.2 fun _ _ h=>h,h.lt⟩
theorem Cf.row(h:Cf w W g B a s)(hb:Below w.heap.size W W'):Cf w W' g B a s:=by
 have hd:=Ag.keep h.dat (w':=W') fun q hq=>hb.block q hq.1;have hs:=h.tch.size;have hs2:=hb.size;exact⟨⟨h.rd.blk.below hb h.lt,Ag.mono hd fun q hq=>⟨zD,hq.2⟩,h.rd.ok⟩,hd,h.tch.trans (Tch.Db hb) (fun b hb hle=>zD),h.lt⟩
theorem Cf.to(h:Cf w W g B a s):Ay w g B a s W:=⟨h.rd,h.tch⟩
theorem Tb{size:Nat}(h:W.ownsRow base e size v n xs)(hg:g<base)(hb:Tch (·=g) W W'):W'.ownsRow base e size v n xs:=by
 refine⟨h.1,?_⟩;rcases h.2 with h0 | ⟨g',cap,cur,h1,h2,h3,h4⟩
 ·exact .inl h0
 ·exact .inr ⟨g',cap,cur,h1,h2,(hb.block _ (Blk.lt h3) zD).trans h3,h4⟩
end
theorem I8(w:World){g:Nat}{B:List UInt8}{a:Option Addr}{s:Rs}(h:AN w g B a s)(hB:B.length≤1000000000)(below:Int)(hbl:0≤below∧below≤18446744073709551615)(most:Int)(hmo:0≤most∧most≤1000):
  Calls Tryz.prog 349 #[.pointer (some ⟨g,0,none⟩),.int .u64 below,.int .i64 most] w fun r w'=>∃v,r=.returned v∧Bw.r (fun q=>w.heap.size≤q∧q<w'.heap.size) w' [v] (s.delta B below most).2∧Ay w g B a (s.delta B below most).1 w':=by
 obtain⟨i0,hi,hz0,hz1,hz2⟩:=A1 Rh;have HI:=hid (Ct w h zD most zD);have hNm:=Rs.EJ (B:=B) (s:=s) (m:=most);have hlt:=h.blk.lt;have HIN:=hid (Cf.refl h);unfold Rs.delta;generalize s.int B most=I at*;obtain⟨s1,N⟩:=I;dsimp only at*;have hN:N≤1000:=zD;clear h;go_enter Tryz.func349,Tryz.ntmps349;go_wp2_with fail;refine HI.out.mono ?_;rintro r w1 ⟨rfl,hst⟩;have HIN1:=hid (HIN.out.step hst);clear hst;go_wp2_with fail;go_loopw [1,7,13] (fun b v i wr=>∃(k:Nat) (bel:Int) (J:List Int) (st:Rs),k≤N∧i=.int .i64 k∧b=.int .u64 bel∧0≤bel∧bel≤18446744073709551615∧Hid (J.length=k)∧wr.ownsRow w.heap.size 36 1 v J.length (CA J)∧Hid (∀x∈J,0≤x∧x≤18446744073709551615)∧Hid (Cf w wr g B a st)∧Hid (Rs.Ey B N s1 below []=Rs.Ey B (N-k) st bel J)) (fun _ _ i _=>N-(intOf i).toNat)
 case atStart=>exact ⟨0,below,[],s1,At _,rfl,rfl,hbl.1,hbl.2,hid rfl,⟨rfl,.inl ⟨rfl,rfl⟩⟩,hid zQ,HIN1,hid rfl⟩
 case round=>
  obtain⟨k,bel,J,st,hk,rfl,rfl,hb0,hb1,hJl,hown,hJb,hin,hsp⟩:=hrel;obtain⟨av,cv,rfl⟩:=AX hown;have hJ9:J.length≤1000:=zAg;rcases Be k N with hlt2 | hge
  ·have HAT:=hid (BI wr hin.out.rd)
   have HVR:=hid (Cz wr hin.out.rd zD);have hx:=Rs.D5 (B:=B) (s:=st);have hxb:=Rs.NO (B:=B) (s:=st);have hstep:Rs.Ey B (N-k) st bel J=(if (st.num B).1.k=0 then (if bel≤((st.num B).2:Int) then ((st.num B).1.fail 13 st.p,[]) else Rs.Ey B (N-(k+1)) (st.num B).1 (bel-(st.num B).2-1) (J++[bel-(st.num B).2-1])) else ((st.num B).1,[])):=by
    rw[show N-k=(N-(k+1))+1 by omega];rfl
   have HO:=hid hown;have i1:(k:Int)<(N:Int):=zD;have d1:decide ((k:Int)<(N:Int))=true:=Ad i1;have d1':decide (k<N)=true:=Ad hlt2;generalize st.num B=R at*;obtain⟨st1,x⟩:=R;dsimp only at*;have HBAD:=hid hxb;clear hown hxb;by_cases hk1:st1.k=0
   ·rw[Ai hk1] at hstep
    by_cases hbx:bel≤(x:Int)
    ·rw[Ai hbx] at hstep
     have d2:decide (bel≤(x:Int))=true:=Ad hbx;have hfk:(st1.fail 13 st.p).k≠0:=Rs.A0 zD;have HSP:=hid (hsp.out.trans hstep);clear hstep hsp hk1;go_wp2_with fail;refine HAT.out.mono ?_;rintro r w2 ⟨rfl,rfl⟩;go_wp2_with fail;refine HVR.out.mono ?_;rintro r w3 ⟨rfl,hst3⟩;have HIN3:=hid (hin.out.step hst3);clear hst3;go_wp2_with fail;refine (Bd w3 HIN3.out.rd 13 (st.p:Int) zD).mono ?_;rintro r w4 ⟨rfl,hst4⟩;have HIN4:=hid (HIN3.out.step hst4);have hg:=AK w4 HIN4.out.rd;rw[Ae hfk] at hg;have HG:=hid hg;clear hst4 hg hfk;go_wp2_with fail;refine HG.out.mono ?_;rintro r w5 ⟨rfl,hb5⟩;have HE:=hid (HIN4.out.to.then hb5);go_wp2;go_ret;rw[HSP.out];exact⟨_,rfl,BL (xs:=[]) rfl (Ap _) (At _) (.inl rfl),HE.out⟩
    ·rw[Ah hbx] at hstep
     have d2:decide (bel≤(x:Int))=false:=Ae hbx;have HSP:=hid (hsp.out.trans hstep);have w1':0≤bel-((x:Int)+1):=zD;have w2':(x:Int)+1≤18446744073709551615:=zD;have hk1':decide (st1.k=0)=true:=Ad hk1;clear hstep hsp hk1;go_wp2_with fail;refine HAT.out.mono ?_;rintro r w2 ⟨rfl,rfl⟩;go_wp2_with fail;refine HVR.out.mono ?_;rintro r w3 ⟨rfl,hst3⟩;have HIN3:=hid (hin.out.step hst3);have HO3:=hid (Tb HO.out hlt hst3.2);have hg:=AK w3 HIN3.out.rd;rw[hk1'] at hg;have HG:=hid hg;clear hst3 hg hk1';go_wp2_with fail;refine HG.out.mono ?_;rintro r w4 ⟨rfl,hb4⟩;have HIN4:=hid (HIN3.out.step (Ay.later HIN3.out.rd hb4));have HO4:=hid (Bp HO3.out hb4);have hsz4:=HIN4.out.tch.size;clear hb4;go_wp2_with (at_builtin;go_loud (refine AA rfl _ _ _ rfl w.heap.size 36 i0 (.int .u64 0) 1 8 JQ hi hz0 hz1 hz2 rfl zO (.slice av J.length cv) J.length _ rfl (Bp HO4.out zA) (some ⟨w4.heap.size,0,none⟩) 1 1 [.int .u64 (bel-((x:Int)+1))] rfl (BS _ 36 _ rfl zQ rfl) zAj zN zD zI ?_;intro v' w5 hown5 hgrow5 hat5;obtain⟨a5,c5,rfl⟩:=AX hown5;have HO5:=hid hown5;have hb5:Below w.heap.size w4 w5:=(Below.grown ((by (repeat (first | with_reducible exact Below.refl _ _ | with_reducible assumption | (with_reducible refine Au ?_ _) | (with_reducible refine Below.setCell ?_ zE _) | (with_reducible refine Below.drew ?_) | (with_reducible refine below_drewN ?_ _) | (refine Af zG ?_))):Below w4.heap.size w4 _).mono hsz4) hgrow5 zI (fun g e=>(HO4.out.lt g e).1));clear hown5 hgrow5 hat5))
     have HIN5:=hid (HIN4.out.row hb5);have ho5:w5.ownsRow w.heap.size 36 1 (.slice a5 (J.length+1) c5) (J++[bel-((x:Int)+1)]).length (CA (J++[bel-((x:Int)+1)])):=by
      have e:CA (J++[bel-((x:Int)+1)])=CA J++[.int .u64 (bel-((x:Int)+1))]:=by simp[CA]
      rw[e,Al];exact HO5.out
     have HO6:=hid ho5;have HB6:Hid (∀y∈J++[bel-((x:Int)+1)],0≤y∧y≤18446744073709551615):=hid (fun y hy=>by
      rw[F5,C3] at hy;rcases hy with hy | rfl
      ·exact hJb.out y hy
      ·omega)
     have HSP6:Hid (Rs.Ey B N s1 below []=Rs.Ey B (N-(k+1)) st1 (bel-((x:Int)+1)) (J++[bel-((x:Int)+1)])):=hid (by rw[HSP.out,show bel-(x:Int)-1=bel-((x:Int)+1) by omega]);clear ho5;go_roundw
     case rel=>exact ⟨k+1,bel-((x:Int)+1),J++[bel-((x:Int)+1)],st1,zD,zT,rfl,zD,zD,hid (by simp;exact hJl.out),HO6.out,HB6,HIN5,HSP6⟩
     case measure=>simp [intOf];omega
   ·rw[Ah hk1] at hstep
    have HSP:=hid (hsp.out.trans hstep);have hx0:=HBAD.out hk1;subst hx0;have hk1':decide (st1.k=0)=false:=Ae hk1;have hfid:st1.fail 13 st.p=st1:=Rs.CW hk1;clear hstep hsp hk1;by_cases hbx:bel≤0
    ·have d2:decide (bel≤((0:Nat):Int))=true:=Ad zD
     have d2':decide (bel≤0)=true:=Ad hbx;go_wp2_with fail;refine HAT.out.mono ?_;rintro r w2 ⟨rfl,rfl⟩;go_wp2_with fail;refine HVR.out.mono ?_;rintro r w3 ⟨rfl,hst3⟩;have HIN3:=hid (hin.out.step hst3);clear hst3;go_wp2_with fail;refine (Bd w3 HIN3.out.rd 13 (st.p:Int) zD).mono ?_;rintro r w4 ⟨rfl,hst4⟩;rw[hfid] at hst4;have HIN4:=hid (HIN3.out.step hst4);have hg:=AK w4 HIN4.out.rd;rw[hk1'] at hg;have HG:=hid hg;clear hst4 hg hk1' hfid;go_wp2_with fail;refine HG.out.mono ?_;rintro r w5 ⟨rfl,hb5⟩;have HE:=hid (HIN4.out.to.then hb5);go_wp2;go_ret;rw[HSP.out];exact⟨_,rfl,BL (xs:=[]) rfl (Ap _) (At _) (.inl rfl),HE.out⟩
    ·have d2:decide (bel≤((0:Nat):Int))=false:=Ae zD
     have d2':decide (bel≤0)=false:=Ae hbx;go_wp2_with fail;refine HAT.out.mono ?_;rintro r w2 ⟨rfl,rfl⟩;go_wp2_with fail;refine HVR.out.mono ?_;rintro r w3 ⟨rfl,hst3⟩;have HIN3:=hid (hin.out.step hst3);have hg:=AK w3 HIN3.out.rd;rw[hk1'] at hg;have HG:=hid hg;clear hst3 hg hk1' hfid;go_wp2_with fail;refine HG.out.mono ?_;rintro r w5 ⟨rfl,hb5⟩;have HE:=hid (HIN3.out.to.then hb5);go_wp2;go_ret;rw[HSP.out];exact⟨_,rfl,BL (xs:=[]) rfl (Ap _) (At _) (.inl rfl),HE.out⟩
  ·obtain rfl:k=N:=by omega
   have d1:decide ((k:Int)<(k:Int))=false:=Ae zD;have HSP:Hid (Rs.Ey B k s1 below []=(st,J)):=hid (by rw[hsp.out,Nat.sub_self];rfl);have HV:=hid (GJ hJb.out rfl hown);have HE:=hid hin.out.to;clear hown hsp;go_wp2;go_ret;rw[HSP.out];exact⟨_,rfl,HV.out,HE.out⟩
theorem Rs.Qu(h:s.k≠0):s.int B m=(s,0):=by
 unfold Rs.int Rs.most;rw[Rs.Qg h];split
 ·rw[Ah zH]
 ·rw[Rs.CW h]
theorem Rs.Hx(h:s.k≠0):s.byte B=(s,0):=by
 unfold Rs.byte;rw[Rs.Oo h];rfl
theorem Rs.JB(h:s.k≠0):s.loose B m=(s,[],false):=by
 unfold Rs.loose;rw[Rs.Qu h];dsimp only;rw[Rs.Hx h];dsimp only;rw[Ah h]
theorem MH(w:World){g:Nat}{B:List UInt8}{a:Option Addr}{s:Rs}(h:AN w g B a s)(hB:B.length≤1000000000):
  Calls Tryz.prog 255 #[.pointer (some ⟨g,0,none⟩),.func (Fn.func 142) #[] #[]] w fun r w'=>r=.returned (.int .u64 ((s.ep B).2:Int))∧Ay w g B a (s.ep B).1 w':=by
 have HAT:=hid (BI w h);have HVR:=hid (Cz w h zD);have hxb:=Rs.NO (B:=B) (s:=s);have HIN:=hid (Cf.refl h);unfold Rs.ep;generalize s.num B=R at*;obtain⟨st1,x⟩:=R;dsimp only at*;have HRT:=hid (fun (W:World)=>DW (x:Int) W);have HBAD:=hid hxb;clear h hxb;by_cases hk1:st1.k=0
 ·rw[Ai hk1]
  by_cases hr:epR (x:Int)=true
  ·rw[Ai hr]
   rw[hr] at HRT;have HK:Hid (decide (st1.k=0)=true):=hid (Ad hk1);clear hk1 hr;go_enter Tryz.func255,Tryz.ntmps255;go_wp2_with fail;refine HAT.out.mono ?_;rintro r w2 ⟨rfl,rfl⟩;go_wp2_with fail;refine HVR.out.mono ?_;rintro r w3 ⟨rfl,hst3⟩;have HIN3:=hid (HIN.out.step hst3);clear hst3;go_wp2_with fail;refine (HRT.out w3).mono ?_;rintro r w3' ⟨rfl,rfl⟩;go_wp2_with fail;refine ((by have:=AK w3 HIN3.out.rd;rw[HK.out] at this;exact this:Calls Tryz.prog 112 #[.pointer (some ⟨g,0,none⟩)] w3 fun r w'=>r=.returned (.bool true)∧Below w3.heap.size w3 w')).mono ?_;rintro r w5 ⟨rfl,hb5⟩;have HE:=hid (HIN3.out.to.then hb5);go_wp2;go_ret;exact⟨rfl,HE.out⟩
  ·rw[Ah hr]
   rw[Bool.eq_false_iff.2 hr] at HRT;have hfk:(st1.fail 3 s.p).k≠0:=Rs.A0 zD;clear hk1 hr;go_enter Tryz.func255,Tryz.ntmps255;go_wp2_with fail;refine HAT.out.mono ?_;rintro r w2 ⟨rfl,rfl⟩;go_wp2_with fail;refine HVR.out.mono ?_;rintro r w3 ⟨rfl,hst3⟩;have HIN3:=hid (HIN.out.step hst3);clear hst3;go_wp2_with fail;refine (HRT.out w3).mono ?_;rintro r w3' ⟨rfl,rfl⟩;go_wp2_with fail;refine (Bd w3 HIN3.out.rd 3 (s.p:Int) zD).mono ?_;rintro r w4 ⟨rfl,hst4⟩;have HIN4:=hid (HIN3.out.step hst4);have hg:=AK w4 HIN4.out.rd;rw[Ae hfk] at hg;have HG:=hid hg;clear hst4 hg hfk;go_wp2_with fail;refine HG.out.mono ?_;rintro r w5 ⟨rfl,hb5⟩;have HE:=hid (HIN4.out.to.then hb5);go_wp2;go_ret;exact⟨rfl,HE.out⟩
 ·rw[Ah hk1]
  have hx0:=HBAD.out hk1;subst hx0;have hfk:st1.k≠0:=hk1;have hfid:st1.fail 3 s.p=st1:=Rs.CW hk1;rw[show epR ((0:Nat):Int)=false from zO] at HRT;clear hk1;go_enter Tryz.func255,Tryz.ntmps255;go_wp2_with fail;refine HAT.out.mono ?_;rintro r w2 ⟨rfl,rfl⟩;go_wp2_with fail;refine HVR.out.mono ?_;rintro r w3 ⟨rfl,hst3⟩;have HIN3:=hid (HIN.out.step hst3);clear hst3;go_wp2_with fail;refine (HRT.out w3).mono ?_;rintro r w3' ⟨rfl,rfl⟩;go_wp2_with fail;refine (Bd w3 HIN3.out.rd 3 (s.p:Int) zD).mono ?_;rintro r w4 ⟨rfl,hst4⟩;rw[hfid] at hst4;clear hfid;have HIN4:=hid (HIN3.out.step hst4);have hg:=AK w4 HIN4.out.rd;rw[Ae hfk] at hg;have HG:=hid hg;clear hst4 hg hfk;go_wp2_with fail;refine HG.out.mono ?_;rintro r w5 ⟨rfl,hb5⟩;have HE:=hid (HIN4.out.to.then hb5);go_wp2;go_ret;exact⟨rfl,HE.out⟩
theorem I5(w:World){g:Nat}{B:List UInt8}{a:Option Addr}{s:Rs}(h:AN w g B a s)(hB:B.length≤1000000000):
  Calls Tryz.prog 188 #[.pointer (some ⟨g,0,none⟩)] w fun r w'=>r=.returned (.int .u64 ((s.ep B).2:Int))∧Ay w g B a (s.ep B).1 w':=by
 have HR:=hid (MH w h hB);generalize s.ep B=R at*;clear h;go_enter Tryz.func188,Tryz.ntmps188;go_wp2_with fail;refine HR.out.mono ?_;rintro r w1 ⟨rfl,hst⟩;have HST:=hid hst;clear hst;go_wp2;go_ret;exact⟨rfl,HST.out⟩
theorem MG(w:World){g:Nat}{B:List UInt8}{a:Option Addr}{s:Rs}(h:AN w g B a s)(hB:B.length≤1000000000):
  Calls Tryz.prog 255 #[.pointer (some ⟨g,0,none⟩),.func (Fn.func 256) #[] #[]] w fun r w'=>r=.returned (.int .u64 ((s.po B).2:Int))∧Ay w g B a (s.po B).1 w':=by
 have HAT:=hid (BI w h);have HVR:=hid (Cz w h zD);have hxb:=Rs.NO (B:=B) (s:=s);have HIN:=hid (Cf.refl h);unfold Rs.po;generalize s.num B=R at*;obtain⟨st1,x⟩:=R;dsimp only at*;have HRT:=hid (fun (W:World)=>GA (x:Int) W);have HBAD:=hid hxb;clear h hxb;by_cases hk1:st1.k=0
 ·rw[Ai hk1]
  by_cases hr:poR (x:Int)=true
  ·rw[Ai hr]
   rw[hr] at HRT;have HK:Hid (decide (st1.k=0)=true):=hid (Ad hk1);clear hk1 hr;go_enter Tryz.func255,Tryz.ntmps255;go_wp2_with fail;refine HAT.out.mono ?_;rintro r w2 ⟨rfl,rfl⟩;go_wp2_with fail;refine HVR.out.mono ?_;rintro r w3 ⟨rfl,hst3⟩;have HIN3:=hid (HIN.out.step hst3);clear hst3;go_wp2_with fail;refine (HRT.out w3).mono ?_;rintro r w3' ⟨rfl,rfl⟩;go_wp2_with fail;refine ((by have:=AK w3 HIN3.out.rd;rw[HK.out] at this;exact this:Calls Tryz.prog 112 #[.pointer (some ⟨g,0,none⟩)] w3 fun r w'=>r=.returned (.bool true)∧Below w3.heap.size w3 w')).mono ?_;rintro r w5 ⟨rfl,hb5⟩;have HE:=hid (HIN3.out.to.then hb5);go_wp2;go_ret;exact⟨rfl,HE.out⟩
  ·rw[Ah hr]
   rw[Bool.eq_false_iff.2 hr] at HRT;have hfk:(st1.fail 3 s.p).k≠0:=Rs.A0 zD;clear hk1 hr;go_enter Tryz.func255,Tryz.ntmps255;go_wp2_with fail;refine HAT.out.mono ?_;rintro r w2 ⟨rfl,rfl⟩;go_wp2_with fail;refine HVR.out.mono ?_;rintro r w3 ⟨rfl,hst3⟩;have HIN3:=hid (HIN.out.step hst3);clear hst3;go_wp2_with fail;refine (HRT.out w3).mono ?_;rintro r w3' ⟨rfl,rfl⟩;go_wp2_with fail;refine (Bd w3 HIN3.out.rd 3 (s.p:Int) zD).mono ?_;rintro r w4 ⟨rfl,hst4⟩;have HIN4:=hid (HIN3.out.step hst4);have hg:=AK w4 HIN4.out.rd;rw[Ae hfk] at hg;have HG:=hid hg;clear hst4 hg hfk;go_wp2_with fail;refine HG.out.mono ?_;rintro r w5 ⟨rfl,hb5⟩;have HE:=hid (HIN4.out.to.then hb5);go_wp2;go_ret;exact⟨rfl,HE.out⟩
 ·rw[Ah hk1]
  have hx0:=HBAD.out hk1;subst hx0;have hfk:st1.k≠0:=hk1;have hfid:st1.fail 3 s.p=st1:=Rs.CW hk1;rw[show poR ((0:Nat):Int)=true from zO] at HRT;clear hk1;go_enter Tryz.func255,Tryz.ntmps255;go_wp2_with fail;refine HAT.out.mono ?_;rintro r w2 ⟨rfl,rfl⟩;go_wp2_with fail;refine HVR.out.mono ?_;rintro r w3 ⟨rfl,hst3⟩;have HIN3:=hid (HIN.out.step hst3);clear hst3;go_wp2_with fail;refine (HRT.out w3).mono ?_;rintro r w3' ⟨rfl,rfl⟩;go_wp2_with fail;refine ((by have:=AK w3 HIN3.out.rd;rw[Ae hfk] at this;exact this:Calls Tryz.prog 112 #[.pointer (some ⟨g,0,none⟩)] w3 fun r w'=>r=.returned (.bool false)∧Below w3.heap.size w3 w')).mono ?_;rintro r w5 ⟨rfl,hb5⟩;have HE:=hid (HIN3.out.to.then hb5);clear hfk hfid;go_wp2;go_ret;exact⟨rfl,HE.out⟩
theorem ID(w:World){g:Nat}{B:List UInt8}{a:Option Addr}{s:Rs}(h:AN w g B a s)(hB:B.length≤1000000000):
  Calls Tryz.prog 190 #[.pointer (some ⟨g,0,none⟩)] w fun r w'=>r=.returned (.int .u64 ((s.po B).2:Int))∧Ay w g B a (s.po B).1 w':=by
 have HR:=hid (MG w h hB);generalize s.po B=R at*;clear h;go_enter Tryz.func190,Tryz.ntmps190;go_wp2_with fail;refine HR.out.mono ?_;rintro r w1 ⟨rfl,hst⟩;have HST:=hid hst;clear hst;go_wp2;go_ret;exact⟨rfl,HST.out⟩
theorem AZ.RG{w w':World}{α:Type}{lo g:Nat}{A:Rp α}{e:TypeId}{sz:Nat}{v:Value}{xs:List α}(h:AZ lo A lo e sz w v xs)(hb:Tch (fun b=>b=g∨w.heap.size≤b) w w')(hg:g<lo):AZ lo A lo e sz w' v xs:=by
 have hk:∀b,lo≤b→b<w.heap.size→w'.heap[b]? =w.heap[b]? :=fun b h1 h2=>hb.block b h2 zD;obtain⟨cells,ho,hlen,hsz,hA⟩:=h;refine⟨cells,⟨ho.1,?_⟩,hlen,hsz,fun i cs x hi hx=>A.mono (A.keep (hA i cs x hi hx) fun b h=>hk b h.1 h.2.1) fun b h=>⟨h.1,Ao h.2.1 hb.size,h.2.2⟩⟩;rcases ho.2 with h0 | ⟨g',cap,cur,h1,h2,h3,h4⟩
 ·exact .inl h0
 ·exact .inr ⟨g',cap,cur,h1,h2,(hk _ h2 (Blk.lt h3)).trans h3,h4⟩
theorem AZ.form{α:Type}{lo:Nat}{A:Rp α}{xs:List α}(h:AZ lo A base e sz w v xs):∃a c,v=.slice a xs.length c:=by
 obtain⟨cells,h1,_⟩:=h;exact AX h1
theorem T5{z:Int}(h:0≤z∧z≤18446744073709551615):bits BinOp.xor IntKind.u64 IntKind.u64.max z=18446744073709551615-z:=by
 obtain⟨a,rfl⟩:=Int.eq_ofNat_of_zero_le h.1;have ha:a<18446744073709551616:=zD;have e:IntKind.u64.max=((18446744073709551615:Nat):Int):=rfl;rw[e,bits_xor_u64_nat _ _ zO ha];have h1:18446744073709551615^^^a=18446744073709551615-a:=by
  have h2:=BitVec.toNat_not (x:=BitVec.ofNat 64 a);rw[BitVec.not_def,BitVec.toNat_xor,BitVec.toNat_allOnes,BitVec.toNat_ofNat,Dt zD] at h2;exact h2
 rw[h1];omega
theorem Sb(w:World)(h:AN w g B a s)(hB:B.length≤1000000000)(pos:Int)(hpos:0≤pos∧pos≤18446744073709551615):
  Calls Tryz.prog 315 #[.pointer (some ⟨g,0,none⟩),.int .u64 pos] w fun r w'=>∃v,r=.returned v∧DZ.r (E8 w w') w' [v] (s.links B pos).2∧Ay w g B a (s.links B pos).1 w':=by
 obtain⟨i0,hi,hz0,hz1,hz2⟩:=A1 O2;have HI:=hid (Ct w h zD 16 zD);have hNm:=Rs.EJ (B:=B) (s:=s) (m:=16);have hlt:=h.blk.lt;have HIN:=hid (Cf.refl h);unfold Rs.links;generalize s.int B 16=I at*;obtain⟨s1,N⟩:=I;dsimp only at*;have hN:N≤16:=zD;clear h;go_enter Tryz.func315,Tryz.ntmps315;go_wp2_with fail;refine HI.out.mono ?_;rintro r w1 ⟨rfl,hst⟩;have HIN1:=hid (HIN.out.step hst);clear hst;go_wp2_with fail;go_loopw [5,12] (fun v i wr=>∃(k:Nat) (J:List Ba) (st:Rs),k≤N∧i=.int .i64 k∧Hid (J.length=k)∧AZ w.heap.size Jr w.heap.size 215 2 wr v J∧Hid (∀x∈J,0≤x.stream∧x.stream≤18446744073709551615)∧Hid (Cf w wr g B a st)∧Hid (Rs.Dg B pos N s1 none []=Rs.Dg B pos (N-k) st (J.getLast?.map Ba.stream) J)) (fun _ i _=>N-(intOf i).toNat)
 case atStart=>exact ⟨0,[],s1,At _,rfl,hid rfl,AZ.nil,hid zQ,HIN1,hid rfl⟩
 case round=>
  obtain⟨k,J,st,hk,rfl,hJl,hown,hJb,hin,hsp⟩:=hrel;obtain⟨av,cv,rfl⟩:=AZ.form hown;rcases Be k N with hlt2 | hge
  ·have HAT:=hid (BI wr hin.out.rd)
   have HVR:=hid (Cz wr hin.out.rd zD);have hx:=Rs.D5 (B:=B) (s:=st);have hsz0:=hin.out.tch.size;have i1:(k:Int)<(N:Int):=zD;have d1:decide ((k:Int)<(N:Int))=true:=Ad i1;have d1':decide (k<N)=true:=Ad hlt2;have HO:=hid hown;clear hown;have hJ16:J.length≤16:=zAg;by_cases hJe:J=[]
   ·have hstep:Rs.Dg B pos (N-k) st (J.getLast?.map Ba.stream) J=(if ((st.num B).1.delta B pos 4).1.k=0 then Rs.Dg B pos (N-(k+1)) ((st.num B).1.delta B pos 4).1 (some ((st.num B).2:Int)) (J++[⟨((st.num B).2:Int),((st.num B).1.delta B pos 4).2⟩]) else (((st.num B).1.delta B pos 4).1,[])):=by
     rw[show N-k=(N-(k+1))+1 by omega,hJe];rfl
    have hk0:k=0:=by have:=hJl.out;rw[hJe] at this;simpa using this.symm
    subst hk0;clear hJe;generalize st.num B=R at*;obtain⟨st1,x⟩:=R;dsimp only at*;have hxb:(0:Int)≤(x:Int)∧(x:Int)≤18446744073709551615:=zD;have HD:=hid (fun (W:World) (hW:AN W g B a st1)=>I8 W hW hB pos hpos 4 zD);generalize st1.delta B pos 4=D at*;obtain⟨s6,bk⟩:=D;dsimp only at*;go_wp2_with fail;refine HAT.out.mono ?_;rintro r w2 ⟨rfl,rfl⟩;go_wp2_with fail;refine HVR.out.mono ?_;rintro r w3 ⟨rfl,hst3⟩;have HIN3:=hid (hin.out.step hst3);have HO3:=hid (AZ.RG HO.out (hst3.2.mono fun b hb e=> .inl e) hlt);have hsz3:=HIN3.out.tch.size;clear hst3;go_wp2_with fail;refine (HD.out _ (HIN3.out.row ((by (repeat (first | with_reducible exact Below.refl _ _ | with_reducible assumption | (with_reducible refine Au ?_ _) | (with_reducible refine Below.setCell ?_ zE _) | (with_reducible refine Below.drew ?_) | (with_reducible refine below_drewN ?_ _) | (refine Af zG ?_))):Below w3.heap.size w3 _).mono hsz3)).rd).mono ?_;rintro r w6 ⟨v6,rfl,hv6,hst6⟩;obtain⟨a6,c6,hfv,_,_⟩:=AJ hv6;simp only[As,AF] at hfv;subst hfv;have BK6:Blk w6 w3.heap.size 215 #[.int .u64 (x:Int),.slice none 0 0]:=Blk.tch zC hst6.2 zD;have HIN6:=hid ((HIN3.out.row ((by (repeat (first | with_reducible exact Below.refl _ _ | with_reducible assumption | (with_reducible refine Au ?_ _) | (with_reducible refine Below.setCell ?_ zE _) | (with_reducible refine Below.drew ?_) | (with_reducible refine below_drewN ?_ _) | (refine Af zG ?_))):Below w3.heap.size w3 _).mono hsz3)).step hst6);have HK6:Hid (Tch (fun b=>b=g∨w3.heap.size≤b) w3 w6):=hid ((Tch.Db (by (repeat (first | with_reducible exact Below.refl _ _ | with_reducible assumption | (with_reducible refine Au ?_ _) | (with_reducible refine Below.setCell ?_ zE _) | (with_reducible refine Below.drew ?_) | (with_reducible refine below_drewN ?_ _) | (refine Af zG ?_))):Below w3.heap.size w3 _)).mono (fun b hb e=> .inr e) |>.trans hst6.2 (fun b hb e=> .inl e));by_cases hk6:s6.k=0
    ·rw[Ai hk6] at hstep
     have HSP:=hid (hsp.out.trans hstep);have HG:=hid (fun (W:World) (hW:AN W g B a s6)=>(by have:=AK W hW;rw[Ad hk6] at this;exact this:Calls Tryz.prog 112 #[.pointer (some ⟨g,0,none⟩)] W fun r w'=>r=.returned (.bool true)∧Below W.heap.size W w'));obtain⟨y0,y1,f0,f1,hl6⟩:=Bg BK6;have HV6:=hid hv6;have hq6:=hst6.2.size;simp at hq6;clear hsp hstep hk6 hv6 hst6;go_wp2_with fail;refine (HG.out _ (HIN6.out.row ((by (repeat (first | with_reducible exact Below.refl _ _ | with_reducible assumption | (with_reducible refine Au ?_ _) | (with_reducible refine Below.setCell ?_ zE _) | (with_reducible refine Below.drew ?_) | (with_reducible refine below_drewN ?_ _) | (refine Af zG ?_))):Below w3.heap.size w6 _).mono hsz3)).rd).mono ?_;rintro r w7 ⟨rfl,hb7⟩;have B7:Blk w7 w3.heap.size 215 #[.int .u64 (x:Int),.slice a6 bk.length c6]:=Blk.later (BK6.set 1 _) hb7;obtain⟨z0,z1,_,_,hl7⟩:=Bg B7;have hb67:Below w3.heap.size w6 w7:=(by (repeat (first | with_reducible exact Below.refl _ _ | with_reducible assumption | (with_reducible refine Au ?_ _) | (with_reducible refine Below.setCell ?_ zE _) | (with_reducible refine Below.drew ?_) | (with_reducible refine below_drewN ?_ _) | (refine Af zG ?_))):Below w3.heap.size w6 (w6.setCell ⟨w3.heap.size,1,none⟩ (.slice a6 bk.length c6))).trans (hb7.mono zI);have HIN7:=hid (HIN6.out.row (hb67.mono hsz3));have hsz7:=HIN7.out.tch.size;have hk7:Tch (fun b=>b=g∨w3.heap.size≤b) w3 w7:=HK6.out.trans (Tch.Db hb67) (fun b hb hle=> .inr hle);have O7:=AZ.RG HO3.out hk7 hlt;obtain⟨cells0,OA0⟩:=HO3.out;have hlt0:∀g',(Value.slice av J.length cv).ownBlock=some g'→g'<w3.heap.size:=fun g' e=>(OA0.1.lt g' e).2;obtain⟨cells,OA⟩:=AZ.below O7 (show Below w7.heap.size w7 (w7.alloc (.cells #[.int .u64 (x:Int),.slice a6 bk.length c6] 215)) from zA);have hk8:∀b,w3.heap.size+1≤b→b<w6.heap.size→(w7.alloc (.cells #[.int .u64 (x:Int),.slice a6 bk.length c6] 215)).heap[b]? =w6.heap[b]? :=fun b h1 h2=>(AP w7 _ b (by have:=hb67.size;omega)).trans ((hb7.block b zAu).trans (Aw _ _ _ _ zH));have hv8:=Bw.keep (w':=(w7.alloc (.cells #[.int .u64 (x:Int),.slice a6 bk.length c6] 215))) HV6.out (fun b (hb:(w3.alloc (.cells #[.int .u64 (x:Int),.slice none 0 0] 215)).heap.size≤b∧b<w6.heap.size)=>hk8 b (by have:=hb.1;simp at this;omega) hb.2);have hx8:Jr.r (fun b=>w.heap.size≤b∧b<(w7.alloc (.cells #[.int .u64 (x:Int),.slice a6 bk.length c6] 215)).heap.size∧(Value.slice av J.length cv).ownBlock≠some b) (w7.alloc (.cells #[.int .u64 (x:Int),.slice a6 bk.length c6] 215)) [.int .u64 (x:Int),.slice a6 bk.length c6] ⟨(x:Int),bk⟩:=by
      refine NS (x:=⟨(x:Int),bk⟩) hxb (Bw.mono hv8 fun b hb=> ?_);have h1:=hb.1;have h2:=hb.2;have h3:=hb67.size;simp at h1;refine⟨zD,zI,fun e=> ?_⟩;have:=hlt0 b e;omega
     have HX:=hid hx8;have HA:=hid OA;have HS9:Hid (w.heap.size≤(w7.alloc (.cells #[.int .u64 (x:Int),.slice a6 bk.length c6] 215)).heap.size):=hid zI;clear hx8 hv8 OA OA0 hlt0 hk8 O7 hk7 hb67 hb7 B7 y0 y1 f0 f1 HV6;go_wp2_with (at_builtin;go_loud (refine AA rfl _ _ _ rfl w.heap.size 215 i0 (.agg #[.int .u64 0,.slice none 0 0]) 2 32 Tryz.underlying38 hi hz0 hz1 hz2 rfl zO (.slice av J.length cv) J.length _ rfl HA.out.1 (some ⟨w7.heap.size,0,none⟩) 1 1 [.int .u64 (x:Int),.slice a6 bk.length c6] rfl (BS w7 215 _ rfl rfl rfl) (by intro u hu;simp at hu;rcases hu with rfl | rfl<;>rfl) zN zD HS9.out ?_;intro v1 w9 hown1 hgrow1 hat1;have OP:=hid (AZ.push HA.out rfl HX.out hown1 hgrow1 hat1 hgrow1.size);have hb9:Below w.heap.size w7 w9:=(Below.grown ((by (repeat (first | with_reducible exact Below.refl _ _ | with_reducible assumption | (with_reducible refine Au ?_ _) | (with_reducible refine Below.setCell ?_ zE _) | (with_reducible refine Below.drew ?_) | (with_reducible refine below_drewN ?_ _) | (refine Af zG ?_))):Below w7.heap.size w7 _).mono hsz7) hgrow1 HS9.out (fun g e=>(HA.out.1.lt g e).1));clear hown1 hgrow1 hat1))
     have HIN9:=hid (HIN7.out.row hb9);have HJ9:Hid (∀y∈J++[(⟨(x:Int),bk⟩:Ba)],0≤y.stream∧y.stream≤18446744073709551615):=hid (fun y hy=>by
      rw[F5,C3] at hy;rcases hy with hy | rfl
      ·exact hJb.out y hy
      ·exact hxb)
     go_roundw
     case rel=>exact ⟨0+1,J++[⟨(x:Int),bk⟩],s6,zD,zT,hid Z3,OP.out,HJ9,HIN9,hid (by rw[HSP.out];simp)⟩
     case measure=>simp [intOf];omega
    ·rw[Ah hk6] at hstep
     have HSP:=hid (hsp.out.trans hstep);have HG:=hid (fun (W:World) (hW:AN W g B a s6)=>(by have:=AK W hW;rw[Ae hk6] at this;exact this:Calls Tryz.prog 112 #[.pointer (some ⟨g,0,none⟩)] W fun r w'=>r=.returned (.bool false)∧Below W.heap.size W w'));obtain⟨y0,y1,f0,f1,hl6⟩:=Bg BK6;clear hsp hstep hk6 hv6;go_wp2_with fail;refine (HG.out _ (HIN6.out.row ((by (repeat (first | with_reducible exact Below.refl _ _ | with_reducible assumption | (with_reducible refine Au ?_ _) | (with_reducible refine Below.setCell ?_ zE _) | (with_reducible refine Below.drew ?_) | (with_reducible refine below_drewN ?_ _) | (refine Af zG ?_))):Below w3.heap.size w6 _).mono hsz3)).rd).mono ?_;rintro r w7 ⟨rfl,hb7⟩;have hb67:Below w3.heap.size w6 w7:=(by (repeat (first | with_reducible exact Below.refl _ _ | with_reducible assumption | (with_reducible refine Au ?_ _) | (with_reducible refine Below.setCell ?_ zE _) | (with_reducible refine Below.drew ?_) | (with_reducible refine below_drewN ?_ _) | (refine Af zG ?_))):Below w3.heap.size w6 (w6.setCell ⟨w3.heap.size,1,none⟩ (.slice a6 bk.length c6))).trans (hb7.mono zI);have HE:=hid (HIN6.out.row (hb67.mono hsz3)).to;clear hb7;go_wp2;go_ret;rw[HSP.out];exact⟨.slice none 0 0,rfl,AZ.G7 (e:=0) (Ap _) AZ.nil,HE.out⟩
   ·obtain⟨m,rfl⟩:∃m,k=m+1:=⟨k-1,by
     have:=hJl.out;have:J.length≠0:=fun e=>hJe (AS e);omega⟩
    have hmJ:m<J.length:=zAg;have hlast:J.getLast?.map Ba.stream=some J[m].stream:=by
     have:=hJl.out;rw[List.getLast?_eq_getElem?,this,Nat.add_sub_cancel,AM hmJ];rfl
    have hzb:=hJb.out J[m] (AT hmJ);obtain⟨bq,o,hA,hbb,a1,c1,hc0,hc1,hst,hd⟩:=DN (AZ.slice (Ap _) HO.out) hmJ;subst hA;have hbg:bq≠g:=by have:=hbb.1;omega
    have hbr:bq<wr.heap.size:=hbb.2;have hstep:Rs.Dg B pos (N-(m+1)) st (J.getLast?.map Ba.stream) J=(if ((st.stream B (some J[m].stream)).1.delta B pos 4).1.k=0 then Rs.Dg B pos (N-(m+1+1)) ((st.stream B (some J[m].stream)).1.delta B pos 4).1 (some (st.stream B (some J[m].stream)).2) (J++[⟨(st.stream B (some J[m].stream)).2,((st.stream B (some J[m].stream)).1.delta B pos 4).2⟩]) else (((st.stream B (some J[m].stream)).1.delta B pos 4).1,[])):=by
     rw[hlast,show N-(m+1)=(N-(m+1+1))+1 by omega];rfl
    clear hlast hd hc1 hbb;generalize J[m]=z at*;have i1':(m:Int)+1<(N:Int):=zD;have i2:(m:Int)<(J.length:Int):=zD;have d2:decide ((m:Int)+1<(N:Int))=true:=Ad i1';have e1:=T5 hzb;have hsg:IntKind.u64.signed=false:=rfl;by_cases hf:18446744073709551615-z.stream≤((st.num B).2:Int)
    ·have hS:(st.stream B (some z.stream)).1=(st.num B).1.fail 13 st.p:=by
      simp only[Rs.stream];rw[Ai hf]
     have hbad:((st.stream B (some z.stream)).1.delta B pos 4).1.k≠0:=fun e=>(Rs.A0 (s:=(st.num B).1) (c:=13) (at_:=(st.p:Int)) zD) (by rw[←hS];exact (Rs.KK (Rs.Gv hin.out.rd.ok) hpos.2 e).2.2.2.2);rw[Ah hbad,hS] at hstep;rw[hS] at hbad;clear hS;generalize st.num B=R at*;obtain⟨st1,x⟩:=R;dsimp only at*;have d4:decide (bits BinOp.xor IntKind.u64 IntKind.u64.max z.stream≤(x:Int))=true:=by rw[e1];exact Ad hf
     clear hf e1;have HD:=hid (fun (W:World) (hW:AN W g B a (st1.fail 13 (st.p:Int)))=>I8 W hW hB pos hpos 4 zD);generalize (st1.fail 13 (st.p:Int)).delta B pos 4=D at*;obtain⟨s6,bk⟩:=D;dsimp only at*;go_wp2_with fail;refine HAT.out.mono ?_;rintro r w2 ⟨rfl,rfl⟩;go_wp2_with fail;refine HVR.out.mono ?_;rintro r w3 ⟨rfl,hst3⟩;have HIN3:=hid (hin.out.step hst3);have HO3:=hid (AZ.RG HO.out (hst3.2.mono fun b hb e=> .inl e) hlt);have hsz3:=HIN3.out.tch.size;have X0:=(hst3.2.cell (p:=⟨bq,o+m*2,none⟩) hbr hbg).trans hc0;have hb3:bq<w3.heap.size:=Ao hbr hst3.2.size;clear hst3 hc0;go_wp2_with fail;refine (Bd _ (HIN3.out.row ((by (repeat (first | with_reducible exact Below.refl _ _ | with_reducible assumption | (with_reducible refine Au ?_ _) | (with_reducible refine Below.setCell ?_ zE _) | (with_reducible refine Below.drew ?_) | (with_reducible refine below_drewN ?_ _) | (refine Af zG ?_))):Below w3.heap.size w3 _).mono hsz3)).rd 13 (st.p:Int) zD).mono ?_;rintro r w4 ⟨rfl,hst4⟩;have B4:Blk w4 w3.heap.size 215 #[.int .u64 (x:Int),.slice none 0 0]:=Blk.tch zC hst4.2 zD;have HIN4:=hid ((HIN3.out.row ((by (repeat (first | with_reducible exact Below.refl _ _ | with_reducible assumption | (with_reducible refine Au ?_ _) | (with_reducible refine Below.setCell ?_ zE _) | (with_reducible refine Below.drew ?_) | (with_reducible refine below_drewN ?_ _) | (refine Af zG ?_))):Below w3.heap.size w3 _).mono hsz3)).step hst4);have hsz4:=hst4.2.size;obtain⟨q0,q1,e0,e1,l4⟩:=Bg B4;clear hst4;go_wp2_with fail;refine (HD.out _ (HIN4.out.row ((by (repeat (first | with_reducible exact Below.refl _ _ | with_reducible assumption | (with_reducible refine Au ?_ _) | (with_reducible refine Below.setCell ?_ zE _) | (with_reducible refine Below.drew ?_) | (with_reducible refine below_drewN ?_ _) | (refine Af zG ?_))):Below w3.heap.size w4 _).mono hsz3)).rd).mono ?_;rintro r w6 ⟨v6,rfl,hv6,hst6⟩;obtain⟨a6,c6,hfv,_,_⟩:=AJ hv6;simp only[As,AF] at hfv;subst hfv;have BK6:Blk w6 w3.heap.size 215 #[_,.slice none 0 0]:=Blk.tch (B4.set 0 _) hst6.2 zD;have HIN6:=hid ((HIN4.out.row ((by (repeat (first | with_reducible exact Below.refl _ _ | with_reducible assumption | (with_reducible refine Au ?_ _) | (with_reducible refine Below.setCell ?_ zE _) | (with_reducible refine Below.drew ?_) | (with_reducible refine below_drewN ?_ _) | (refine Af zG ?_))):Below w3.heap.size w4 _).mono hsz3)).step hst6);have HSP:=hid (hsp.out.trans hstep);have HG:=hid (fun (W:World) (hW:AN W g B a s6)=>(by have:=AK W hW;rw[Ae hbad] at this;exact this:Calls Tryz.prog 112 #[.pointer (some ⟨g,0,none⟩)] W fun r w'=>r=.returned (.bool false)∧Below W.heap.size W w'));obtain⟨y0,y1,f0,f1,hl6⟩:=Bg BK6;clear hsp hstep hbad hv6 B4 q0 q1 e0 e1 l4;go_wp2_with fail;refine (HG.out _ (HIN6.out.row ((by (repeat (first | with_reducible exact Below.refl _ _ | with_reducible assumption | (with_reducible refine Au ?_ _) | (with_reducible refine Below.setCell ?_ zE _) | (with_reducible refine Below.drew ?_) | (with_reducible refine below_drewN ?_ _) | (refine Af zG ?_))):Below w3.heap.size w6 _).mono hsz3)).rd).mono ?_;rintro r w7 ⟨rfl,hb7⟩;have hb67:Below w3.heap.size w6 w7:=(by (repeat (first | with_reducible exact Below.refl _ _ | with_reducible assumption | (with_reducible refine Au ?_ _) | (with_reducible refine Below.setCell ?_ zE _) | (with_reducible refine Below.drew ?_) | (with_reducible refine below_drewN ?_ _) | (refine Af zG ?_))):Below w3.heap.size w6 (w6.setCell ⟨w3.heap.size,1,none⟩ (.slice a6 bk.length c6))).trans (hb7.mono zI);have HE:=hid (HIN6.out.row (hb67.mono hsz3)).to;clear hb7;go_wp2;go_ret;rw[HSP.out];exact⟨.slice none 0 0,rfl,AZ.G7 (e:=0) (Ap _) AZ.nil,HE.out⟩
    ·have hS:st.stream B (some z.stream)=((st.num B).1,((st.num B).2:Int)+(z.stream+1)):=by
      simp only[Rs.stream];rw[Ah hf,Int.add_assoc]
     rw[hS] at hstep;clear hS;generalize st.num B=R at*;obtain⟨st1,x⟩:=R;dsimp only at*;have hxb:(0:Int)≤(x:Int)+(z.stream+1)∧(x:Int)+(z.stream+1)≤18446744073709551615:=zD;have d4:decide (bits BinOp.xor IntKind.u64 IntKind.u64.max z.stream≤(x:Int))=false:=by rw[e1];exact Ae hf
     have v1:0≤z.stream+1:=zD;have v2:z.stream+1≤18446744073709551615:=zD;have v3:=hxb.1;have v4:=hxb.2;clear hf e1;have HD:=hid (fun (W:World) (hW:AN W g B a st1)=>I8 W hW hB pos hpos 4 zD);generalize st1.delta B pos 4=D at*;obtain⟨s6,bk⟩:=D;dsimp only at*;go_wp2_with fail;refine HAT.out.mono ?_;rintro r w2 ⟨rfl,rfl⟩;go_wp2_with fail;refine HVR.out.mono ?_;rintro r w3 ⟨rfl,hst3⟩;have HIN3:=hid (hin.out.step hst3);have HO3:=hid (AZ.RG HO.out (hst3.2.mono fun b hb e=> .inl e) hlt);have hsz3:=HIN3.out.tch.size;have X0:=(hst3.2.cell (p:=⟨bq,o+m*2,none⟩) hbr hbg).trans hc0;have hb3:bq<w3.heap.size:=Ao hbr hst3.2.size;clear hst3 hc0;go_wp2_with fail;refine (HD.out _ (HIN3.out.row ((by (repeat (first | with_reducible exact Below.refl _ _ | with_reducible assumption | (with_reducible refine Au ?_ _) | (with_reducible refine Below.setCell ?_ zE _) | (with_reducible refine Below.drew ?_) | (with_reducible refine below_drewN ?_ _) | (refine Af zG ?_))):Below w3.heap.size w3 _).mono hsz3)).rd).mono ?_;rintro r w6 ⟨v6,rfl,hv6,hst6⟩;obtain⟨a6,c6,hfv,_,_⟩:=AJ hv6;simp only[As,AF] at hfv;subst hfv;have BK6:Blk w6 w3.heap.size 215 #[.int .u64 ((x:Int)+(z.stream+1)),.slice none 0 0]:=Blk.tch zC hst6.2 zD;have HIN6:=hid ((HIN3.out.row ((by (repeat (first | with_reducible exact Below.refl _ _ | with_reducible assumption | (with_reducible refine Au ?_ _) | (with_reducible refine Below.setCell ?_ zE _) | (with_reducible refine Below.drew ?_) | (with_reducible refine below_drewN ?_ _) | (refine Af zG ?_))):Below w3.heap.size w3 _).mono hsz3)).step hst6);have HK6:Hid (Tch (fun b=>b=g∨w3.heap.size≤b) w3 w6):=hid ((Tch.Db (by (repeat (first | with_reducible exact Below.refl _ _ | with_reducible assumption | (with_reducible refine Au ?_ _) | (with_reducible refine Below.setCell ?_ zE _) | (with_reducible refine Below.drew ?_) | (with_reducible refine below_drewN ?_ _) | (refine Af zG ?_))):Below w3.heap.size w3 _)).mono (fun b hb e=> .inr e) |>.trans hst6.2 (fun b hb e=> .inl e));by_cases hk6:s6.k=0
     ·rw[Ai hk6] at hstep
      have HSP:=hid (hsp.out.trans hstep);have HG:=hid (fun (W:World) (hW:AN W g B a s6)=>(by have:=AK W hW;rw[Ad hk6] at this;exact this:Calls Tryz.prog 112 #[.pointer (some ⟨g,0,none⟩)] W fun r w'=>r=.returned (.bool true)∧Below W.heap.size W w'));obtain⟨y0,y1,f0,f1,hl6⟩:=Bg BK6;have HV6:=hid hv6;have hq6:=hst6.2.size;simp at hq6;clear hsp hstep hk6 hv6 hst6;go_wp2_with fail;refine (HG.out _ (HIN6.out.row ((by (repeat (first | with_reducible exact Below.refl _ _ | with_reducible assumption | (with_reducible refine Au ?_ _) | (with_reducible refine Below.setCell ?_ zE _) | (with_reducible refine Below.drew ?_) | (with_reducible refine below_drewN ?_ _) | (refine Af zG ?_))):Below w3.heap.size w6 _).mono hsz3)).rd).mono ?_;rintro r w7 ⟨rfl,hb7⟩;have B7:Blk w7 w3.heap.size 215 #[.int .u64 ((x:Int)+(z.stream+1)),.slice a6 bk.length c6]:=Blk.later (BK6.set 1 _) hb7;obtain⟨z0,z1,_,_,hl7⟩:=Bg B7;have hb67:Below w3.heap.size w6 w7:=(by (repeat (first | with_reducible exact Below.refl _ _ | with_reducible assumption | (with_reducible refine Au ?_ _) | (with_reducible refine Below.setCell ?_ zE _) | (with_reducible refine Below.drew ?_) | (with_reducible refine below_drewN ?_ _) | (refine Af zG ?_))):Below w3.heap.size w6 (w6.setCell ⟨w3.heap.size,1,none⟩ (.slice a6 bk.length c6))).trans (hb7.mono zI);have HIN7:=hid (HIN6.out.row (hb67.mono hsz3));have hsz7:=HIN7.out.tch.size;have hk7:Tch (fun b=>b=g∨w3.heap.size≤b) w3 w7:=HK6.out.trans (Tch.Db hb67) (fun b hb hle=> .inr hle);have O7:=AZ.RG HO3.out hk7 hlt;obtain⟨cells0,OA0⟩:=HO3.out;have hlt0:∀g',(Value.slice (some ⟨bq,o,none⟩) J.length cv).ownBlock=some g'→g'<w3.heap.size:=fun g' e=>(OA0.1.lt g' e).2;obtain⟨cells,OA⟩:=AZ.below O7 (show Below w7.heap.size w7 (w7.alloc (.cells #[.int .u64 ((x:Int)+(z.stream+1)),.slice a6 bk.length c6] 215)) from zA);have hk8:∀b,w3.heap.size+1≤b→b<w6.heap.size→(w7.alloc (.cells #[.int .u64 ((x:Int)+(z.stream+1)),.slice a6 bk.length c6] 215)).heap[b]? =w6.heap[b]? :=fun b h1 h2=>(AP w7 _ b (by have:=hb67.size;omega)).trans ((hb7.block b zAu).trans (Aw _ _ _ _ zH));have hv8:=Bw.keep (w':=(w7.alloc (.cells #[.int .u64 ((x:Int)+(z.stream+1)),.slice a6 bk.length c6] 215))) HV6.out (fun b (hb:(w3.alloc (.cells #[.int .u64 ((x:Int)+(z.stream+1)),.slice none 0 0] 215)).heap.size≤b∧b<w6.heap.size)=>hk8 b (by have:=hb.1;simp at this;omega) hb.2);have hx8:Jr.r (fun b=>w.heap.size≤b∧b<(w7.alloc (.cells #[.int .u64 ((x:Int)+(z.stream+1)),.slice a6 bk.length c6] 215)).heap.size∧(Value.slice (some ⟨bq,o,none⟩) J.length cv).ownBlock≠some b) (w7.alloc (.cells #[.int .u64 ((x:Int)+(z.stream+1)),.slice a6 bk.length c6] 215)) [.int .u64 ((x:Int)+(z.stream+1)),.slice a6 bk.length c6] ⟨((x:Int)+(z.stream+1)),bk⟩:=by
       refine NS (x:=⟨((x:Int)+(z.stream+1)),bk⟩) hxb (Bw.mono hv8 fun b hb=> ?_);have h1:=hb.1;have h2:=hb.2;have h3:=hb67.size;simp at h1;refine⟨zD,zI,fun e=> ?_⟩;have:=hlt0 b e;omega
      have HX:=hid hx8;have HA:=hid OA;have HS9:Hid (w.heap.size≤(w7.alloc (.cells #[.int .u64 ((x:Int)+(z.stream+1)),.slice a6 bk.length c6] 215)).heap.size):=hid zI;clear hx8 hv8 OA OA0 hlt0 hk8 O7 hk7 hb67 hb7 B7 y0 y1 f0 f1 HV6;go_wp2_with (at_builtin;go_loud (refine AA rfl _ _ _ rfl w.heap.size 215 i0 (.agg #[.int .u64 0,.slice none 0 0]) 2 32 Tryz.underlying38 hi hz0 hz1 hz2 rfl zO (.slice (some ⟨bq,o,none⟩) J.length cv) J.length _ rfl HA.out.1 (some ⟨w7.heap.size,0,none⟩) 1 1 [.int .u64 ((x:Int)+(z.stream+1)),.slice a6 bk.length c6] rfl (BS w7 215 _ rfl rfl rfl) (by intro u hu;simp at hu;rcases hu with rfl | rfl<;>rfl) zN zD HS9.out ?_;intro v1 w9 hown1 hgrow1 hat1;have OP:=hid (AZ.push HA.out rfl HX.out hown1 hgrow1 hat1 hgrow1.size);have hb9:Below w.heap.size w7 w9:=(Below.grown ((by (repeat (first | with_reducible exact Below.refl _ _ | with_reducible assumption | (with_reducible refine Au ?_ _) | (with_reducible refine Below.setCell ?_ zE _) | (with_reducible refine Below.drew ?_) | (with_reducible refine below_drewN ?_ _) | (refine Af zG ?_))):Below w7.heap.size w7 _).mono hsz7) hgrow1 HS9.out (fun g e=>(HA.out.1.lt g e).1));clear hown1 hgrow1 hat1))
      have HIN9:=hid (HIN7.out.row hb9);have HJ9:Hid (∀y∈J++[(⟨((x:Int)+(z.stream+1)),bk⟩:Ba)],0≤y.stream∧y.stream≤18446744073709551615):=hid (fun y hy=>by
       rw[F5,C3] at hy;rcases hy with hy | rfl
       ·exact hJb.out y hy
       ·exact hxb)
      go_roundw
      case rel=>exact ⟨m+1+1,J++[⟨((x:Int)+(z.stream+1)),bk⟩],s6,zD,zT,hid Z3,OP.out,HJ9,HIN9,hid (by rw[HSP.out];simp)⟩
      case measure=>simp [intOf];omega
     ·rw[Ah hk6] at hstep
      have HSP:=hid (hsp.out.trans hstep);have HG:=hid (fun (W:World) (hW:AN W g B a s6)=>(by have:=AK W hW;rw[Ae hk6] at this;exact this:Calls Tryz.prog 112 #[.pointer (some ⟨g,0,none⟩)] W fun r w'=>r=.returned (.bool false)∧Below W.heap.size W w'));obtain⟨y0,y1,f0,f1,hl6⟩:=Bg BK6;clear hsp hstep hk6 hv6;go_wp2_with fail;refine (HG.out _ (HIN6.out.row ((by (repeat (first | with_reducible exact Below.refl _ _ | with_reducible assumption | (with_reducible refine Au ?_ _) | (with_reducible refine Below.setCell ?_ zE _) | (with_reducible refine Below.drew ?_) | (with_reducible refine below_drewN ?_ _) | (refine Af zG ?_))):Below w3.heap.size w6 _).mono hsz3)).rd).mono ?_;rintro r w7 ⟨rfl,hb7⟩;have hb67:Below w3.heap.size w6 w7:=(by (repeat (first | with_reducible exact Below.refl _ _ | with_reducible assumption | (with_reducible refine Au ?_ _) | (with_reducible refine Below.setCell ?_ zE _) | (with_reducible refine Below.drew ?_) | (with_reducible refine below_drewN ?_ _) | (refine Af zG ?_))):Below w3.heap.size w6 (w6.setCell ⟨w3.heap.size,1,none⟩ (.slice a6 bk.length c6))).trans (hb7.mono zI);have HE:=hid (HIN6.out.row (hb67.mono hsz3)).to;clear hb7;go_wp2;go_ret;rw[HSP.out];exact⟨.slice none 0 0,rfl,AZ.G7 (e:=0) (Ap _) AZ.nil,HE.out⟩
  ·obtain rfl:k=N:=by omega
   have hE:=hsp.out;rw[Nat.sub_self] at hE;have HSP:Hid (Rs.Dg B pos k s1 none []=(st,J)):=hid hE;have hv:=AZ.G7 (Ap _) hown;have HV:=hid hv;have HE:=hid hin.out.to;clear hE hv hown;go_wp2;go_ret;rw[HSP.out];exact⟨_,rfl,HV.out,HE.out⟩
theorem L9(w:World)(h:AN w g B a s)(hB:B.length≤1000000000)(pos:Int)(hpos:0≤pos∧pos≤18446744073709551615)(most:Int)(hmo: -9223372036854775808≤most∧most≤9223372036854775807):
  Calls Tryz.prog 268 #[.pointer (some ⟨g,0,none⟩),.int .u64 pos,.int .i64 most] w fun r w'=>∃v,r=.returned (.tuple #[.agg #[v,.slice none 0 0],.int .i64 ((s.Cm B pos most).2.2:Int)])∧DZ.r (E8 w w') w' [v] (s.Cm B pos most).2.1∧Ay w g B a (s.Cm B pos most).1 w':=by
 have HLN:=hid (fun (W:World) (hW:AN W g B a s)=>Sb W hW hB pos hpos);have HIT:=hid (fun (W:World) (hW:AN W g B a (s.links B pos).1)=>Ct W hW zD most hmo);have HIN:=hid (Cf.refl h);have hlt:=h.blk.lt;unfold Rs.Cm;generalize s.links B pos=LK at*;obtain⟨s1,l⟩:=LK;dsimp only at*;generalize s1.int B most=I at*;obtain⟨s2,n⟩:=I;dsimp only at*;clear h;by_cases hk:s2.k=0
 ·rw[Ai hk]
  have HG:=hid (fun (W:World) (hW:AN W g B a s2)=>(by have:=AK W hW;rw[Ad hk] at this;exact this:Calls Tryz.prog 112 #[.pointer (some ⟨g,0,none⟩)] W fun r w'=>r=.returned (.bool true)∧Below W.heap.size W w'));clear hk;go_enter Tryz.func268,Tryz.ntmps268;go_wp2_with fail;refine (HLN.out _ (HIN.out.row zA).rd).mono ?_;rintro r w1 ⟨v1,rfl,hv1,hst1⟩;have HIN1:=hid ((HIN.out.row zA).step hst1);have R1:Blk w1 w.heap.size 180 #[.slice none 0 0,.slice none 0 0]:=Blk.tch zC hst1.2 zD;have hz1:=HIN1.out.tch.size;have hr1:=R1.lt;obtain⟨a1,c1,hfv,_,_⟩:=AJ (EI hv1);simp only[As,AF] at hfv;subst hfv;have HV1:=hid hv1;clear hst1 hv1;go_wp2_with fail;refine (HIT.out _ (HIN1.out.row ((by (repeat (first | with_reducible exact Below.refl _ _ | with_reducible assumption | (with_reducible refine Au ?_ _) | (with_reducible refine Below.setCell ?_ zE _) | (with_reducible refine Below.drew ?_) | (with_reducible refine below_drewN ?_ _) | (refine Af zG ?_))):Below w1.heap.size w1 _).mono hz1)).rd).mono ?_;rintro r w2 ⟨rfl,hst2⟩;have hT2:=hst2.2;have hz2:=hst2.2.size;have HIN2:=hid ((HIN1.out.row ((by (repeat (first | with_reducible exact Below.refl _ _ | with_reducible assumption | (with_reducible refine Au ?_ _) | (with_reducible refine Below.setCell ?_ zE _) | (with_reducible refine Below.drew ?_) | (with_reducible refine below_drewN ?_ _) | (refine Af zG ?_))):Below w1.heap.size w1 _).mono hz1)).step hst2);have B2:Blk w2 w1.heap.size 180 #[.slice a1 l.length c1,.slice none 0 0]:=Blk.tch zC hst2.2 zD;have R2:Blk w2 w.heap.size 180 #[.slice none 0 0,.slice none 0 0]:=Blk.tch (Blk.later R1 (by (repeat (first | with_reducible exact Below.refl _ _ | with_reducible assumption | (with_reducible refine Au ?_ _) | (with_reducible refine Below.setCell ?_ zE _) | (with_reducible refine Below.drew ?_) | (with_reducible refine below_drewN ?_ _) | (refine Af zG ?_))):Below w1.heap.size w1 _)) hst2.2 zD;go_wp2_with fail;refine (HG.out _ HIN2.out.rd).mono ?_;rintro r w3 ⟨rfl,hb3⟩;have HIN3:=hid (HIN2.out.row (hb3.mono HIN2.out.tch.size));have B3:=B2.later hb3;have R3:=R2.later hb3;obtain⟨x0,x1,f0,f1,l3⟩:=Bg B3;obtain⟨y0,y1,g0,g1,m3⟩:=Bg R3;go_wp2;have RF:Blk ((w3.setCell ⟨w.heap.size,0,none⟩ (.slice a1 l.length c1)).setCell ⟨w.heap.size,1,none⟩ (.slice none 0 0)) w.heap.size 180 #[.slice a1 l.length c1,.slice none 0 0]:=(R3.set 0 _).set 1 _;obtain⟨u0,u1,_,_,lF⟩:=Bg RF;have HF:Below w.heap.size w3 ((w3.setCell ⟨w.heap.size,0,none⟩ (.slice a1 l.length c1)).setCell ⟨w.heap.size,1,none⟩ (.slice none 0 0)):=zA;have HINF:=HIN3.out.row HF;simp at hz2;have hz3:=hb3.size;have hkk:∀q,w.heap.size+1≤q→q<w1.heap.size→((w3.setCell ⟨w.heap.size,0,none⟩ (.slice a1 l.length c1)).setCell ⟨w.heap.size,1,none⟩ (.slice none 0 0)).heap[q]? =w1.heap[q]? :=fun q h1 h2=>
   ((Aw _ _ _ _ zH).trans (Aw _ _ _ _ zH)).trans ((hb3.block q zD).trans ((hT2.block q zI zD).trans (AP w1 _ q h2)))
  have hvF:DZ.r (E8 w ((w3.setCell ⟨w.heap.size,0,none⟩ (.slice a1 l.length c1)).setCell ⟨w.heap.size,1,none⟩ (.slice none 0 0))) ((w3.setCell ⟨w.heap.size,0,none⟩ (.slice a1 l.length c1)).setCell ⟨w.heap.size,1,none⟩ (.slice none 0 0)) [.slice a1 l.length c1] l:=DZ.mono (DZ.keep HV1.out (fun q hq=>hkk q ZH hq.2)) (fun q hq=>⟨ZH,by have:=hq.2;simp;omega⟩);refine An (v:=.tuple #[.agg #[.slice a1 l.length c1,.slice none 0 0],.int .i64 n]) zBv rfl ⟨_,rfl,hvF,HINF.to⟩
 ·rw[Ah hk]
  have HG:=hid (fun (W:World) (hW:AN W g B a s2)=>(by have:=AK W hW;rw[Ae hk] at this;exact this:Calls Tryz.prog 112 #[.pointer (some ⟨g,0,none⟩)] W fun r w'=>r=.returned (.bool false)∧Below W.heap.size W w'));clear hk;go_enter Tryz.func268,Tryz.ntmps268;go_wp2_with fail;refine (HLN.out _ (HIN.out.row zA).rd).mono ?_;rintro r w1 ⟨v1,rfl,hv1,hst1⟩;have HIN1:=hid ((HIN.out.row zA).step hst1);have R1:Blk w1 w.heap.size 180 #[.slice none 0 0,.slice none 0 0]:=Blk.tch zC hst1.2 zD;have hz1:=HIN1.out.tch.size;have hr1:=R1.lt;obtain⟨a1,c1,hfv,_,_⟩:=AJ (EI hv1);simp only[As,AF] at hfv;subst hfv;have HV1:=hid hv1;clear hst1 hv1;go_wp2_with fail;refine (HIT.out _ (HIN1.out.row ((by (repeat (first | with_reducible exact Below.refl _ _ | with_reducible assumption | (with_reducible refine Au ?_ _) | (with_reducible refine Below.setCell ?_ zE _) | (with_reducible refine Below.drew ?_) | (with_reducible refine below_drewN ?_ _) | (refine Af zG ?_))):Below w1.heap.size w1 _).mono hz1)).rd).mono ?_;rintro r w2 ⟨rfl,hst2⟩;have hT2:=hst2.2;have hz2:=hst2.2.size;have HIN2:=hid ((HIN1.out.row ((by (repeat (first | with_reducible exact Below.refl _ _ | with_reducible assumption | (with_reducible refine Au ?_ _) | (with_reducible refine Below.setCell ?_ zE _) | (with_reducible refine Below.drew ?_) | (with_reducible refine below_drewN ?_ _) | (refine Af zG ?_))):Below w1.heap.size w1 _).mono hz1)).step hst2);have B2:Blk w2 w1.heap.size 180 #[.slice a1 l.length c1,.slice none 0 0]:=Blk.tch zC hst2.2 zD;have R2:Blk w2 w.heap.size 180 #[.slice none 0 0,.slice none 0 0]:=Blk.tch (Blk.later R1 (by (repeat (first | with_reducible exact Below.refl _ _ | with_reducible assumption | (with_reducible refine Au ?_ _) | (with_reducible refine Below.setCell ?_ zE _) | (with_reducible refine Below.drew ?_) | (with_reducible refine below_drewN ?_ _) | (refine Af zG ?_))):Below w1.heap.size w1 _)) hst2.2 zD;go_wp2_with fail;refine (HG.out _ HIN2.out.rd).mono ?_;rintro r w3 ⟨rfl,hb3⟩;have HIN3:=hid (HIN2.out.row (hb3.mono HIN2.out.tch.size));have B3:=B2.later hb3;have R3:=R2.later hb3;obtain⟨x0,x1,f0,f1,l3⟩:=Bg B3;obtain⟨y0,y1,g0,g1,m3⟩:=Bg R3;go_wp2;have RF:Blk ((w3.setCell ⟨w.heap.size,0,none⟩ (.slice none 0 0)).setCell ⟨w.heap.size,1,none⟩ (.slice none 0 0)) w.heap.size 180 #[.slice none 0 0,.slice none 0 0]:=(R3.set 0 _).set 1 _;obtain⟨u0,u1,_,_,lF⟩:=Bg RF;have HF:Below w.heap.size w3 ((w3.setCell ⟨w.heap.size,0,none⟩ (.slice none 0 0)).setCell ⟨w.heap.size,1,none⟩ (.slice none 0 0)):=zA;have HINF:=HIN3.out.row HF;refine An (v:=.tuple #[.agg #[.slice none 0 0,.slice none 0 0],.int .i64 0]) zBv rfl ⟨_,rfl,AZ.G7 (e:=0) (Ap _) AZ.nil,HINF.to⟩
def Hm(h:List Ba × Nat):Entry:=⟨h.1,[]⟩
def Er(l:List (List Ba × Nat)):List Value:=l.map fun h=> .int .i64 (h.2:Int)
theorem Rs.Ty{most:Int}:(s.Cm B pos most).2.2≤most.toNat:=by
 unfold Rs.Cm;split
 ·exact Rs.EJ
 ·exact At _
structure Cp(lo:Nat)(W:World)(v u:Value)(J:List (List Ba × Nat)):Prop where
 els:∃cells,AY (fun b=>lo≤b∧b<W.heap.size∧u.ownBlock≠some b) ED lo 180 2 W v (J.map Hm) cells
 szs:W.ownsRow lo 3 1 u J.length (Er J)
theorem Qe{lo lo':Nat}{e':TypeId}{sz' m:Nat}{ys:List Value}(h:W.ownsRow lo e sz v n xs)(h':W.ownsRow lo' e' sz' u m ys)(hne:e≠e'):∀b,v.ownBlock=some b→u.ownBlock≠some b:=by
 intro b hv hu;rcases h.2 with ⟨rfl,_⟩ | ⟨g,cap,cur,rfl,_,hg,_⟩
 ·cases hv
 ·rcases h'.2 with ⟨rfl,_⟩ | ⟨g',cap',cur',rfl,_,hg',_⟩
  ·cases hu
  ·have e1:g=b:=by simpa [Value.ownBlock] using hv
   have e2:g'=b:=by simpa [Value.ownBlock] using hu
   subst e1 e2;rw[hg] at hg';simp at hg';exact hne hg'.2
theorem Cu{lo:Nat}(h:W.ownsRow lo e sz v n xs)(hk:∀b,v.ownBlock=some b→b<W.heap.size→W'.heap[b]? =W.heap[b]?):W'.ownsRow lo e sz v n xs:=by
 refine⟨h.1,?_⟩;rcases h.2 with h0 | ⟨g',cap,cur,h1,h2,h3,h4⟩
 ·exact .inl h0
 ·exact .inr ⟨g',cap,cur,h1,h2,(hk g' (by rw[h1];rfl) (Blk.lt h3)).trans h3,h4⟩
theorem Bo{lo:Nat}(h:W.ownsRow lo e sz v n xs):∀b,v.ownBlock=some b→lo≤b∧b<W.heap.size:=by
 intro b hv;rcases h.2 with ⟨rfl,_⟩ | ⟨g,cap,cur,rfl,hb,hg,_⟩
 ·cases hv
 ·have e1:g=b:=by simpa [Value.ownBlock] using hv
  subst e1;exact⟨hb,Blk.lt hg⟩
theorem Cp.nil{lo:Nat}:Cp lo W (.slice none 0 0) (.slice none 0 0) []:=⟨⟨[],AY.nil⟩,⟨rfl,.inl ⟨rfl,rfl⟩⟩⟩
theorem Cp.Rl{lo:Nat}{J:List (List Ba × Nat)}(h:Cp lo W v u J):∃a c,v=.slice a J.length c:=by
 obtain⟨⟨cells,OA⟩,hu⟩:=h;have:=AX OA.1;rwa [List.length_map] at this
theorem Cp.tch{lo g:Nat}{W W':World}{v u:Value}{J:List (List Ba × Nat)}(h:Cp lo W v u J)(hb:Tch (fun b=>b=g∨W.heap.size≤b) W W')(hg:g<lo):Cp lo W' v u J:=by
 obtain⟨⟨cells,OA⟩,hu⟩:=h;have hk:∀b,lo≤b→b<W.heap.size→W'.heap[b]? =W.heap[b]? :=fun b h1 h2=>hb.block b h2 zD;refine⟨⟨cells,?_⟩,Cu hu fun b hv hl=>hk b (Bo hu b hv).1 hl⟩;refine AY.mono (AY.keep OA (fun b h=>hk b h.1 h.2.1) fun b hv=>hk b (Bo OA.1 b hv).1 (Bo OA.1 b hv).2) fun b h=>⟨h.1,Ao h.2.1 hb.size,h.2.2⟩
structure Ei(lo:Nat)(B:Nat)(W:World)(v u:Value)(J J':List (List Ba × Nat)):Prop where
 els:∃cells,AY (fun b=>lo≤b∧b<B∧u.ownBlock≠some b) ED lo 180 2 W v (J'.map Hm) cells
 szs:W.ownsRow lo 3 1 u J.length (Er J)
 le:B≤W.heap.size
theorem Ei.of{lo:Nat}{W W':World}{v v' u:Value}{J:List (List Ba × Nat)}{x:List Ba × Nat}{cells:List (List Value)}{news:List Value}
 (OA:AY (fun b=>lo≤b∧b<W.heap.size∧u.ownBlock≠some b) ED lo 180 2 W v (J.map Hm) cells) (hu:W.ownsRow lo 3 1 u J.length (Er J))
 (hn:news.length=2) (hx:ED.r (fun b=>(lo≤b∧b<W.heap.size∧u.ownBlock≠some b)∧v.ownBlock≠some b) W news (Hm x))
 (hown:W'.ownsRow lo 180 2 v' (J.length+1) (cells.flatten++news)) (hg:W.grownBy W' v.ownBlock) (hat:v'.ownBlock=v.ownBlock∨v'.ownBlock=some W.heap.size):Ei lo W.heap.size W' v' u J (J++[x]):=by
 refine⟨⟨cells++[news],?_⟩,Cu hu fun b hv hl=>hg.block b hl (fun e=>Qe OA.1 hu zO b e.symm hv),hg.size⟩;rw[Cs,DA,List.map_nil];exact AY.push OA (fun b hb=>hb.2.1) hn hx zBz hg hat
theorem Ei.below{lo B:Nat}{J J':List (List Ba × Nat)}(h:Ei lo B W v u J J')(hb:Below W.heap.size W W'):Ei lo B W' v u J J':=by
 obtain⟨⟨cells,OA⟩,hu,hB⟩:=h;exact⟨⟨cells,AY.keep OA (fun b h=>hb.block b (by have:=h.2.1;omega)) fun b hv=>hb.block b (Bo OA.1 b hv).2⟩,Cu hu fun b hv hl=>hb.block b hl,ZS⟩
theorem Ei.to{lo B:Nat}{u':Value}{J:List (List Ba × Nat)}{x:List Ba × Nat}(h:Ei lo B W v u J (J++[x]))
 (hown:W'.ownsRow lo 3 1 u' (J.length+1) (Er J++[.int .i64 (x.2:Int)])) (hg:W.grownBy W' u.ownBlock) (hat:u'.ownBlock=u.ownBlock∨u'.ownBlock=some W.heap.size):Cp lo W' v u' (J++[x]):=by
 obtain⟨⟨cells,OA⟩,hu,hB⟩:=h;refine⟨⟨cells,?_⟩,?_⟩
 ·refine AY.mono (AY.keep OA (fun b h=>hg.block b (by have:=h.2.1;omega) (fun e=>h.2.2 e.symm)) fun b hv=>hg.block b (Bo OA.1 b hv).2 (fun e=>Qe OA.1 hu zO b hv e.symm)) fun b h=>⟨h.1,?_,fun e=> ?_⟩
  ·have:=h.2.1;have:=hg.size;omega
  ·rcases hat with h' | h'
   ·exact h.2.2 (h' ▸ e)
   ·rw[h'] at e;have:=A5 e;have:=h.2.1;omega
 ·have e:Er (J++[x])=Er J++[.int .i64 (x.2:Int)]:=by simp[Er]
  rw[e,Al];exact hown
theorem Cp.out{lo:Nat}{W:World}{v:Value}{J:List (List Ba × Nat)}(h:Cp lo W v u J):Bu.r (fun b=>lo≤b∧b<W.heap.size) W [v] (J.map Hm):=by
 obtain⟨⟨cells,OA⟩,hu⟩:=h;exact AZ.G7 (Ap _) ⟨cells,AY.to OA fun b h=>⟨h.1,h.2.1⟩⟩
theorem Py(w:World)(h:AN w g B a s)(hB:B.length≤1000000000)(pos:Int)(N:Nat)(hN:N≤16)(hpos:0≤pos∧pos+N≤18446744073709551615):
  Calls Tryz.prog 205 #[.pointer (some ⟨g,0,none⟩),.int .u64 pos,.int .i64 N] w fun r w'=>∃v u,r=.returned (.tuple #[v,u])∧Cp w.heap.size w' v u (Rs.Dl B N s pos 1048576 []).2∧Ay w g B a (Rs.Dl B N s pos 1048576 []).1 w':=by
 obtain⟨i0,hi,hz0,hz1,hz2⟩:=A1 M5;obtain⟨j0,hj,hy0,hy1,hy2⟩:=A1 Rj;have hlt:=h.blk.lt;have HIN:=hid (Cf.refl h);clear h;go_enter Tryz.func205,Tryz.ntmps205;go_wp2;go_loopw [8,9,10,15] (fun v u l i wr=>∃(k:Nat) (J:List (List Ba × Nat)) (st:Rs) (left:Int),k≤N∧i=.int .i64 k∧l=.int .i64 left∧0≤left∧left≤1048576∧Hid (J.length=k)∧Cp w.heap.size wr v u J∧Hid (Cf w wr g B a st)∧Hid (Rs.Dl B N s pos 1048576 []=Rs.Dl B (N-k) st (pos+k) left J)) (fun _ _ _ i _=>N-(intOf i).toNat)
 case atStart=>exact ⟨0,[],s,1048576,At _,rfl,rfl,zD,zD,hid rfl,Cp.nil,HIN,hid zQ⟩
 case round=>
  obtain⟨k,J,st,left,hk,rfl,rfl,hl0,hl1,hJl,hown,hin,hsp⟩:=hrel;obtain⟨av,cv,rfl⟩:=Cp.Rl hown;obtain⟨au,cu,rfl⟩:=AX hown.szs;rcases Be k N with hlt2 | hge
  ·have HER:=hid (L9 wr hin.out.rd hB (pos+k) zD left zD)
   have hle:=Rs.Ty (B:=B) (s:=st) (pos:=pos+k) (most:=left);have hstep:Rs.Dl B (N-k) st (pos+k) left J=(if (st.Cm B (pos+k) left).1.k=0 then Rs.Dl B (N-(k+1)) (st.Cm B (pos+k) left).1 (pos+k+1) (left-(st.Cm B (pos+k) left).2.2) (J++[(st.Cm B (pos+k) left).2]) else ((st.Cm B (pos+k) left).1,[])):=by
    rw[show N-k=(N-(k+1))+1 by omega];rfl
   have hsz0:=hin.out.tch.size;have hJ16:J.length≤16:=zAg;have i1:(k:Int)<(N:Int):=zD;have d1:decide ((k:Int)<(N:Int))=true:=Ad i1;have d1':decide (k<N)=true:=Ad hlt2;have c1:0≤pos+(k:Int):=zD;have c2:pos+(k:Int)≤18446744073709551615:=zD;have HO:=hid hown;generalize st.Cm B (pos+k) left=EH at*;obtain⟨s2,l,n⟩:=EH;dsimp only at*;clear hown;go_wp2_with fail;refine HER.out.mono ?_;rintro r w1 ⟨v1,rfl,hv1,hst1⟩;obtain⟨a1,c1',hfv,_,_⟩:=AJ (EI hv1);simp only[As,AF] at hfv;subst hfv;have HIN1:=hid (hin.out.step hst1);have HO1:=hid (Cp.tch HO.out (hst1.2.mono fun b hb e=> .inl e) hlt);have hsz1:=HIN1.out.tch.size;have HV1:=hid hv1;clear hst1 hv1;by_cases hk2:s2.k=0
   ·rw[Ai hk2] at hstep
    have HSP:=hid (hsp.out.trans hstep);have HG:=hid (fun (W:World) (hW:AN W g B a s2)=>(by have:=AK W hW;rw[Ad hk2] at this;exact this:Calls Tryz.prog 112 #[.pointer (some ⟨g,0,none⟩)] W fun r w'=>r=.returned (.bool true)∧Below W.heap.size W w'));have w1':0≤left-(n:Int):=zD;have w2':left-(n:Int)≤1048576:=zD;clear hsp hstep hk2;go_wp2_with fail;refine (HG.out _ (HIN1.out.row ((by (repeat (first | with_reducible exact Below.refl _ _ | with_reducible assumption | (with_reducible refine Au ?_ _) | (with_reducible refine Below.setCell ?_ zE _) | (with_reducible refine Below.drew ?_) | (with_reducible refine below_drewN ?_ _) | (refine Af zG ?_))):Below w1.heap.size w1 _).mono hsz1)).rd).mono ?_;rintro r w3 ⟨rfl,hb3⟩;have B3:Blk w3 w1.heap.size 180 #[.slice a1 l.length c1',.slice none 0 0]:=Blk.later zC hb3;have hb13:Below w1.heap.size w1 w3:=(by (repeat (first | with_reducible exact Below.refl _ _ | with_reducible assumption | (with_reducible refine Au ?_ _) | (with_reducible refine Below.setCell ?_ zE _) | (with_reducible refine Below.drew ?_) | (with_reducible refine below_drewN ?_ _) | (refine Af zG ?_))):Below w1.heap.size w1 (w1.alloc (.cells #[.slice a1 l.length c1',.slice none 0 0] 180))).trans (hb3.mono zQ);have HIN3:=hid (HIN1.out.row (hb13.mono hsz1));obtain⟨x0,x1,_,_,l3⟩:=Bg B3;clear hb3;have hb14:Below w1.heap.size w1 (w3.alloc (.cells #[.slice a1 l.length c1',.slice none 0 0] 180)):=hb13.alloc (by have:=hb13.size;omega) _;have k4:Tch (fun b=>b=g∨w1.heap.size≤b) w1 (w3.alloc (.cells #[.slice a1 l.length c1',.slice none 0 0] 180)):=(Tch.Db hb14).mono (fun b hb e=> .inr e);have hsz3:=HIN3.out.tch.size;obtain⟨⟨cells,OA⟩,hu4⟩:=Cp.tch HO1.out k4 hlt;have hlu:∀b,(Value.slice au J.length cu).ownBlock=some b→b<wr.heap.size:=fun b e=>(Bo HO.out.szs b e).2;have hlv:∀b,(Value.slice av J.length cv).ownBlock=some b→b<wr.heap.size:=by
     obtain⟨⟨cells0,OA0⟩,_⟩:=HO.out;exact fun b e=>(Bo OA0.1 b (by simpa using e)).2
    have hx:ED.r (fun b=>(w.heap.size≤b∧b<(w3.alloc (.cells #[.slice a1 l.length c1',.slice none 0 0] 180)).heap.size∧(Value.slice au J.length cu).ownBlock≠some b)∧(Value.slice av J.length cv).ownBlock≠some b) (w3.alloc (.cells #[.slice a1 l.length c1',.slice none 0 0] 180)) [.slice a1 l.length c1',.slice none 0 0] (Hm (l,n)):=by
     have h4s:=hb14.size;refine Ni (DZ.mono (DZ.keep HV1.out (w':=(w3.alloc (.cells #[.slice a1 l.length c1',.slice none 0 0] 180))) fun b hb=>hb14.block b hb.2) fun b hb=>⟨⟨?_,?_,fun e=> ?_⟩,fun e=> ?_⟩) (Bl rfl rfl zD)
     ·have:=hb.1;omega
     ·have:=hb.2;omega
     ·have:=hlu b e;have:=hb.1;omega
     ·have:=hlv b e;have:=hb.1;omega
    have HX:=hid hx;have HA:=hid OA;have HU:=hid hu4;have HS9:Hid (w.heap.size≤(w3.alloc (.cells #[.slice a1 l.length c1',.slice none 0 0] 180)).heap.size):=hid zI;have HR4:=hid (HIN3.out.row (show Below w.heap.size w3 (w3.alloc (.cells #[.slice a1 l.length c1',.slice none 0 0] 180)) from (Below.refl _ _).alloc hsz3 _));have hJm:(J.map Hm).length=J.length:=zQ;have HOW:Hid ((w3.alloc (.cells #[.slice a1 l.length c1',.slice none 0 0] 180)).ownsRow w.heap.size 180 2 (.slice av J.length cv) J.length cells.flatten):=hid (by have:=OA.1;rwa [hJm] at this);clear hx OA hu4 hlu hlv k4 hb14 hJm HV1;go_wp2_with (first | (at_builtin;go_loud (refine AA rfl _ _ _ rfl w.heap.size 180 i0 (.agg #[.slice none 0 0,.slice none 0 0]) 2 48 Tryz.underlying46 hi hz0 hz1 hz2 rfl zO (.slice av J.length cv) J.length _ rfl HOW.out (some ⟨w3.heap.size,0,none⟩) 1 1 [.slice a1 l.length c1',.slice none 0 0] rfl (BS w3 180 _ rfl rfl rfl) (by intro u hu;simp at hu;rcases hu with rfl | rfl<;>rfl) zN zD HS9.out ?_;intro v5 w5 hown5 hgrow5 hat5;obtain⟨a5,c5,rfl⟩:=AX hown5;have HM5:=hid (Ei.of (x:=(l,n)) HA.out HU.out rfl HX.out hown5 hgrow5 hat5);have HIN5:=hid (HR4.out.row (Below.grown (Below.refl _ _) hgrow5 HS9.out (fun g e=>(Bo HOW.out g e).1)));have hsz5:=HIN5.out.tch.size;have HU6:=hid (Ei.below HM5.out (show Below w5.heap.size w5 (w5.alloc (.cells #[.int .i64 (n:Int)] 3)) from (Below.refl _ _).alloc (Ap _) _));have HIN6:=hid (HIN5.out.row (show Below w.heap.size w5 (w5.alloc (.cells #[.int .i64 (n:Int)] 3)) from (Below.refl _ _).alloc hsz5 _));have HS6:Hid (w.heap.size≤(w5.alloc (.cells #[.int .i64 (n:Int)] 3)).heap.size):=hid zI;clear hown5 hgrow5 hat5 hsz5)) | (at_builtin;go_loud (refine AA rfl _ _ _ rfl w.heap.size 3 j0 (.int .i64 0) 1 8 Tryz.underlying176 hj hy0 hy1 hy2 rfl zO (.slice au J.length cu) J.length _ rfl HU6.out.szs (some ⟨w5.heap.size,0,none⟩) 1 1 [.int .i64 (n:Int)] rfl (BS w5 3 _ rfl rfl rfl) ZB zN zD HS6.out ?_;intro v7 w7 hown7 hgrow7 hat7;obtain⟨a7,c7,rfl⟩:=AX hown7;have HO7:=hid (Ei.to HU6.out hown7 hgrow7 hat7);have HIN7:=hid (HIN6.out.row (Below.grown (Below.refl _ _) hgrow7 HS6.out (fun g e=>(Bo HU6.out.szs g e).1)));clear hown7 hgrow7 hat7)))
    go_roundw
    case rel=>exact ⟨k+1,J++[(l,n)],s2,left-(n:Int),zD,zT,rfl,zD,zD,hid Z3,HO7.out,HIN7,hid (by rw[HSP.out];simp[Int.add_assoc])⟩
    case measure=>simp [intOf];omega
   ·rw[Ah hk2] at hstep
    have HSP:=hid (hsp.out.trans hstep);have HG:=hid (fun (W:World) (hW:AN W g B a s2)=>(by have:=AK W hW;rw[Ae hk2] at this;exact this:Calls Tryz.prog 112 #[.pointer (some ⟨g,0,none⟩)] W fun r w'=>r=.returned (.bool false)∧Below W.heap.size W w'));clear hsp hstep hk2;go_wp2_with fail;refine (HG.out _ (HIN1.out.row ((by (repeat (first | with_reducible exact Below.refl _ _ | with_reducible assumption | (with_reducible refine Au ?_ _) | (with_reducible refine Below.setCell ?_ zE _) | (with_reducible refine Below.drew ?_) | (with_reducible refine below_drewN ?_ _) | (refine Af zG ?_))):Below w1.heap.size w1 _).mono hsz1)).rd).mono ?_;rintro r w3 ⟨rfl,hb3⟩;have hb13:Below w1.heap.size w1 w3:=(by (repeat (first | with_reducible exact Below.refl _ _ | with_reducible assumption | (with_reducible refine Au ?_ _) | (with_reducible refine Below.setCell ?_ zE _) | (with_reducible refine Below.drew ?_) | (with_reducible refine below_drewN ?_ _) | (refine Af zG ?_))):Below w1.heap.size w1 (w1.alloc (.cells #[.slice a1 l.length c1',.slice none 0 0] 180))).trans (hb3.mono zQ);have HE:=hid (HIN1.out.row (hb13.mono hsz1)).to;clear hb3;go_wp2;rw[HSP.out];refine An (v:=.tuple #[.slice none 0 0,.slice none 0 0]) (by simp[results,Tryz.results205,go_sem]) rfl ⟨_,_,rfl,Cp.nil,HE.out⟩
  ·obtain rfl:k=N:=by omega
   have hE:=hsp.out;rw[Nat.sub_self] at hE;have HSP:Hid (Rs.Dl B k s pos 1048576 []=(st,J)):=hid hE;have HO:=hid hown;have HE:=hid hin.out.to;clear hE hown;go_wp2;rw[HSP.out];refine An (v:=.tuple #[.slice av J.length cv,.slice au J.length cu]) (by simp[results,Tryz.results205,go_sem]) rfl ⟨_,_,rfl,HO.out,HE.out⟩
theorem Lf(n:Int):0≤IntKind.u64.wrap n∧IntKind.u64.wrap n≤18446744073709551615:=by
 rw[IntKind.wrap_u64];omega
end Go.Proofs.YtfddhafbhceoaaaGreat
namespace Go.Bs
open Go.RowKit
structure Ve where
 epoch:Int
 node:Int
 tail:Int
 deriving DecidableEq
structure Mt where
 lo:Int
 hi:Int
 sets:List (List Int)
 deriving DecidableEq
structure U3 where
 epoch:Int
 stripes:List Mt
 deriving DecidableEq
structure Msg where
 kind:Int
 epoch:Int
 seq:Int
 pos:Int
 count:Int
 state:Int
 streams:List Int
 links:List Ba
 data:List UInt8
 sea:Ve
 proj:U3
 deriving DecidableEq
def UP:Rp (List (List Int)):=rSl 1 Bw
def Rf:Rp Mt:=rBy (fun s=>(s.lo,s.hi,s.sets)) (Hd (Js .u64) (Hd (Js .u64) UP))
def E0:Rp (List Mt):=rSl 3 Rf
def inU(x:Int):Prop:=0≤x∧x≤18446744073709551615
def inI(x:Int):Prop:=-9223372036854775808≤x∧x≤9223372036854775807
section
variable {S:Nat→Prop} {w:World} {cs:List Value}
structure Gm(S:Nat→Prop)(w:World)(m:Msg)(a1:Option Addr)(c1:Nat)(a2:Option Addr)(c2:Nat)(a3:Option Addr)(c3:Nat)(a4:Option Addr)(c4:Nat):Prop where
 kind:inI m.kind
 epoch:inU m.epoch
 seq:inU m.seq
 pos:inU m.pos
 count:inI m.count
 state:inI m.state
 sealE:inU m.sea.epoch
 sealN:inU m.sea.node
 sealT:inU m.sea.tail
 projE:inU m.proj.epoch
 streams:Bw.r S w [.slice a1 m.streams.length c1] m.streams
 links:Cb.r S w [.slice a2 m.links.length c2] m.links
 data:Ag.r S w [.slice a3 m.data.length c3] m.data
 stripes:E0.r S w [.slice a4 m.proj.stripes.length c4] m.proj.stripes
end
def Us(k:Int):Nat:=if k<1∨14<k then 0 else [0,1,33,0,1,1,10,0,128,36,0,64,17,128,4].getD k.toNat 0
def Tn(k:Int)(p:Nat):Bool:=Us k/p%2==1
def US(k:Int):Int:=if k=9 then 4 else 20
end Go.Bs
namespace Go.Proofs.YtfddhafbhceoaaaGreat
open Go.RowKit Go.Bs Go.Maps
variable{m pos:Int}{B:List UInt8}{xs:List Value}{base c g n sz:Nat}{a:Option Addr}{s:Rs}{e:TypeId}{u v:Value}{W W' w:World}
def Rs.UM(B:List UInt8):Nat→Rs→List Int→Rs × List Int
  | 0,s,out=>(s,out)
  | n+1,s,out=>
    if (s.num B).1.k=0 then
      (if out≠[]∧18446744073709551615-out.getLastD 0≤((s.num B).2:Int) then ((s.num B).1.fail 13 s.p,[])
       else Rs.UM B n (s.num B).1 (out++[if out=[] then ((s.num B).2:Int) else ((s.num B).2:Int)+(out.getLastD 0+1)]))
    else ((s.num B).1,[])
def Rs.many(B:List UInt8)(s:Rs)(m:Int):Rs × Nat:=(if (s.int B m).2=0 then (s.int B m).1.fail 3 s.p else (s.int B m).1,(s.int B m).2)
theorem Ud{α:Type}(l:List α)(i:Nat)(d:α)(h:i<l.length):l.getD i d=l[i]:=by
 rw[List.getD_eq_getElem?_getD,AM h];rfl
theorem Rs.QK(h:s.ok B.length):(s.ep B).1.ok B.length:=by
 have h2:=Rs.Cn (B:=B) h;unfold Rs.ep;split
 ·split
  ·exact h2
  ·exact Rs.Ce h2 zD
 ·exact h2
structure Q8(w:World)(a:Option Addr)(n c:Nat)(g6 g8 L0:Nat)(lo y:Int)(st:Rs)(v:Value)(J:List (List Int))(W:World):Prop where
 d:Blk W g6 91 #[.slice a n c,.int .i64 (st.p:Int),.int .i64 st.k,.int .i64 st.f]
 s:Blk W g8 219 #[.int .u64 lo,.int .u64 y,v]
 r4:Blk W (w.heap.size+1) 91 #[.slice none 0 0,.int .i64 0,.int .i64 0,.int .i64 0]
 r5:Blk W (w.heap.size+1+1) 219 #[.int .u64 0,.int .u64 0,.slice none 0 0]
 own:AZ L0 Bw L0 37 1 W v J
 bel:Below w.heap.size w W
 le:L0≤W.heap.size
theorem Q8.later{g6 g8 L0:Nat}{lo y:Int}{st:Rs}{J:List (List Int)}(h:Q8 w a n c g6 g8 L0 lo y st v J W)(hb:Below W.heap.size W W'):Q8 w a n c g6 g8 L0 lo y st v J W':=
 ⟨h.d.later hb,h.s.later hb,h.r4.later hb,h.r5.later hb,AZ.below h.own hb,Af hb h.bel,A6 h.le hb.size⟩
structure TO(w:World)(a:Option Addr)(n c:Nat)(g6 g8 L0:Nat)(e:Int)(st:Rs)(v:Value)(J:List Mt)(W:World):Prop where
 d:Blk W g6 91 #[.slice a n c,.int .i64 (st.p:Int),.int .i64 st.k,.int .i64 st.f]
 s:Blk W g8 43 #[.int .u64 e,v]
 r4:Blk W (w.heap.size+1) 91 #[.slice none 0 0,.int .i64 0,.int .i64 0,.int .i64 0]
 r5:Blk W (w.heap.size+1+1) 43 #[.int .u64 0,.slice none 0 0]
 own:AZ L0 Rf L0 219 3 W v J
 bel:Below w.heap.size w W
 le:L0≤W.heap.size
theorem TO.later{g6 g8 L0:Nat}{e:Int}{st:Rs}{J:List Mt}(h:TO w a n c g6 g8 L0 e st v J W)(hb:Below W.heap.size W W'):TO w a n c g6 g8 L0 e st v J W':=
 ⟨h.d.later hb,h.s.later hb,h.r4.later hb,h.r5.later hb,AZ.below h.own hb,Af hb h.bel,A6 h.le hb.size⟩
end Go.Proofs.YtfddhafbhceoaaaGreat
