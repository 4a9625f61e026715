/- Mini: Needed by feedNone_walk, part 11: texts put together by shake.py; no condition. -/
import Derived.Test.YtfddhafbhceoaaaGreatWF4
import Derived.Test.YtfddhafbhceoaaaGreatWF1
import Derived.Test.YtfddhafbhceoaaaGreatWF10
import Derived.Test.YtfddhafbhceoaaaGreatWF9
import Derived.Test.YtfddhafbhceoaaaGreatWF8
import Derived.Test.YtfddhafbhceoaaaGreatWF6
import Derived.Test.YtfddhafbhceoaaaGreatWF3
import Derived.Test.YtfddhafbhceoaaaGreatWF2
set_option linter.unusedVariables false
set_option linter.unusedSimpArgs false
set_option maxRecDepth 100000
set_option maxHeartbeats 6400000
namespace Go.Bs
variable{c g i n:Nat}{a:Option Addr}{t:TypeId}{v0 v1 v2:Value}
theorem zBl{p:Prop}(h:p:=by rw [Int.zero_add]; exact El (by omega) (by omega)):p:=h
theorem zA3{p:Prop}(h:p:=by rw [hb.1]):p:=h
theorem ZB{p:Prop}(h:p:=by rw [E8]; omega):p:=h
end Go.Bs
namespace Go.Proofs.YtfddhafbhceoaaaGreat
open Go.RowKit Go.Bs Go.Maps
variable{f m pos:Int}{B D P rest:List UInt8}{xs:List Value}{L base n p:Nat}{F:Nat → Prop}{s z:Rs}{e:TypeId}{v:Value}{w w':World}
def Rs.F9(B:List UInt8):Nat→Rs→Int→Int→List AP→Rs × List AP
 | 0,s,_,_,out=>(s,out)
 | n+1,s,pos,a,out=>
  let x:=s.num B
  let c:=x.1.int B 16
  let o:=c.1.int B 1099511627775
  let m:AP:=⟨pos+(x.2:Int),(c.2:Int),a+1+(o.2:Int)⟩
  if o.1.k=0 then (if Dh m pos a=true then Rs.F9 B n o.1 (m.pos+m.count) m.at_ (out++[m]) else (o.1.fail 3 s.p,[])) else (o.1,[])
def Rs.Cr(B:List UInt8)(s:Rs):Rs × List AP:=Rs.F9 B (s.int B 16).2 (s.int B 16).1 0 0 []
theorem Rs.Hh(B:List UInt8)(n:Nat)(s:Rs)(pos a:Int)(out:List AP):Rs.F9 B (n+1) s pos a out=
  (if (((s.num B).1.int B 16).1.int B 1099511627775).1.k=0 then (if Dh ⟨pos+((s.num B).2:Int),(((s.num B).1.int B 16).2:Int),a+1+((((s.num B).1.int B 16).1.int B 1099511627775).2:Int)⟩ pos a=true then
   Rs.F9 B n (((s.num B).1.int B 16).1.int B 1099511627775).1 (pos+((s.num B).2:Int)+(((s.num B).1.int B 16).2:Int)) (a+1+((((s.num B).1.int B 16).1.int B 1099511627775).2:Int)) (out++[⟨pos+((s.num B).2:Int),(((s.num B).1.int B 16).2:Int),a+1+((((s.num B).1.int B 16).1.int B 1099511627775).2:Int)⟩])
   else ((((s.num B).1.int B 16).1.int B 1099511627775).1.fail 3 s.p,[])) else ((((s.num B).1.int B 16).1.int B 1099511627775).1,[])):=rfl
theorem Rs.Ng:∀(n:Nat) (s:Rs) (pos a:Int) (out:List AP),s.fit B.length→(Rs.F9 B n s pos a out).1.fit B.length
 | 0,s,pos,a,out,h=>h
 | n+1,s,pos,a,out,h=>by
  have h3:=Rs.EW (m:=1099511627775) (Rs.EW (m:=16) (Rs.Fq h))
  rw[Rs.Hh]
  split
  ·split
   ·exact Rs.Ng n _ _ _ _ h3
   ·exact Rs.C4 h3 h zC
  ·exact h3
theorem Rs.Vc(h:s.fit B.length):(s.Cr B).1.fit B.length:=Rs.Ng _ _ _ _ _ (Rs.EW h)
theorem Rs.KM:∀(n:Nat) (s:Rs) (pos a:Int) (out:List AP),s.ok B.length→(Rs.F9 B n s pos a out).1.k=0→
  ∃t,(Rs.F9 B n s pos a out).2=out++t∧t.length=n∧DZ pos a t=true∧B.drop s.p=DO pos a t++B.drop (Rs.F9 B n s pos a out).1.p∧s.k=0
 | 0,s,pos,a,out,hs,h=>⟨[],by simp[Rs.F9],rfl,rfl,rfl,h⟩
 | n+1,s,pos,a,out,hs,h=>by
  have ok1:=Rs.CZ (B:=B) hs
  have ok2:=Rs.Eo (B:=B) ok1 (m:=16)
  have ok3:=Rs.Eo (B:=B) ok2 (m:=1099511627775)
  have c1:=Rs.F8 (B:=B) hs
  have c2:=Rs.EX (B:=B) (m:=16) ok1
  have c3:=Rs.EX (B:=B) (m:=1099511627775) ok2
  have m1:=fun h=>(Rs.Ff (B:=B) (s:=s) h).2
  rw[Rs.Hh] at h ⊢
  generalize s.num B=x at*
  obtain⟨x1,x⟩:=x
  dsimp only at*
  generalize x1.int B 16=c at*
  obtain⟨cs,c⟩:=c
  dsimp only at*
  generalize cs.int B 1099511627775=o at*
  obtain⟨os,o⟩:=o
  dsimp only at*
  by_cases hk:os.k=0
  ·rw[Ag hk] at h ⊢
   obtain⟨d3,e3,f3⟩:=c3 hk
   obtain⟨d2,e2,f2⟩:=c2 f3
   obtain⟨d1,e1⟩:=c1 f2
   by_cases hf:Dh ⟨pos+(x:Int),(c:Int),a+1+(o:Int)⟩ pos a=true
   ·rw[Ag hf] at h ⊢
    obtain⟨t,i1,i2,i3,i4,i5⟩:=Rs.KM n os _ _ _ ok3 h
    refine⟨⟨pos+(x:Int),(c:Int),a+1+(o:Int)⟩::t,by rw[i1,Au];rfl,by rw[Ay,i2],?_,?_,m1 f2⟩
    ·unfold DZ
     rw[hf]
     exact i3
    ·unfold DO
     dsimp only
     rw[show (pos+(x:Int)-pos).toNat=x by omega,show ((c:Int)).toNat=c by omega,show (a+1+(o:Int)-a-1).toNat=o by omega,d1,d2,d3,i4]
     simp only[Au]
   ·rw[Ai hf] at h
    exact absurd h (Rs.BI zC)
  ·rw[Ai hk] at h
   exact absurd h hk
theorem Rs.Ma(hs:s.ok B.length)(h:(s.Cr B).1.k=0):Cs (s.Cr B).2=true∧B.drop s.p=A6 (s.Cr B).2++B.drop (s.Cr B).1.p:=by
 unfold Rs.Cr at h ⊢
 obtain⟨t,i1,i2,i3,i4,i5⟩:=Rs.KM _ _ _ _ _ (Rs.Eo hs) h
 obtain⟨c1,c2,_⟩:=Rs.EX (B:=B) (m:=16) hs i5
 rw[i1,AG]
 refine⟨?_,?_⟩
 ·unfold Cs
  rw[i3,Dz,Ao]
  omega
 ·unfold A6
  rw[i2,c1,i4,Au]
theorem Re(p a:Int)(m:AP)(l:List AP):DO p a (m::l)=AD (m.pos-p).toNat++(AD m.count.toNat++(AD (m.at_-a-1).toNat++DO (m.pos+m.count) m.at_ l)):=rfl
theorem Rs.Nf:∀(t:List AP) (p:Nat) (pos a:Int) (out:List AP) (rest:List UInt8),0≤pos→0≤a→DZ pos a t=true→B.drop p=DO pos a t++rest→p≤B.length→
  Rs.F9 B t.length ⟨p,0,0⟩ pos a out=(⟨p+(DO pos a t).length,0,0⟩,out++t)
 | [],p,pos,a,out,rest,h1,h2,hr,h,hp=>by simp[Rs.F9,DO]
 | m::t,p,pos,a,out,rest,h1,h2,hr,h,hp=>by
  unfold DZ at hr
  simp only[Ap] at hr
  obtain⟨hf,hr⟩:=hr
  obtain⟨f1,f2,f3,f4,f5,f6,f7⟩:=D4 hf
  unfold DO at h
  rw[Au,Au,Au] at h
  have n1:=Rs.DB (x:=(m.pos-pos).toNat) zC h
  have d1:=A2 h
  have r1:=AX h hp
  have n2:=Rs.Et (x:=m.count.toNat) (m:=16) zC d1 zC
  have d2:=A2 d1
  have r2:=AX d1 zC
  have n3:=Rs.Et (x:=(m.at_-a-1).toNat) (m:=1099511627775) zC d2 zC
  have d3:=A2 d2
  have r3:=AX d2 zC
  have ih:=Rs.Nf t _ (m.pos+m.count) m.at_ (out++[m]) rest zC zC hr d3 zC
  have em:(⟨pos+((m.pos-pos).toNat:Int),(m.count.toNat:Int),a+1+((m.at_-a-1).toNat:Int)⟩:AP)=m:=by
   have e1:pos+((m.pos-pos).toNat:Int)=m.pos:=zC
   have e2:(m.count.toNat:Int)=m.count:=zC
   have e3:a+1+((m.at_-a-1).toNat:Int)=m.at_:=zC
   rw[e1,e2,e3]
  rw[Ay,Rs.Hh,n1]
  dsimp only
  rw[n2]
  dsimp only
  rw[n3]
  dsimp only
  rw[Ag rfl,em,Ag hf,show pos+((m.pos-pos).toNat:Int)+(m.count.toNat:Int)=m.pos+m.count by omega,show a+1+((m.at_-a-1).toNat:Int)=m.at_ by omega,ih]
  rw[Re,Au,Al,Al,Al,show p+(AD (m.pos-pos).toNat).length+(AD m.count.toNat).length+(AD (m.at_-a-1).toNat).length+(DO (m.pos+m.count) m.at_ t).length=p+((AD (m.pos-pos).toNat).length+((AD m.count.toNat).length+((AD (m.at_-a-1).toNat).length+(DO (m.pos+m.count) m.at_ t).length))) by omega]
  rfl
theorem Rs.Vb{l:List AP}(hR:Cs l=true)(h:B.drop p=A6 l++rest)(hp:p≤B.length):(⟨p,0,0⟩:Rs).Cr B=(⟨p+(A6 l).length,0,0⟩,l):=by
 unfold Cs at hR
 simp only[Ap,Ao] at hR
 obtain⟨hr,hl⟩:=hR
 unfold A6 at h ⊢
 rw[Au] at h
 have n1:=Rs.Et (x:=l.length) (m:=16) zC h zC
 have d1:=A2 h
 have r1:=AX h hp
 unfold Rs.Cr
 rw[n1]
 dsimp only
 rw[Rs.Nf l _ 0 0 [] rest zC zC hr d1 zC,AG,Al,Cl]
def Ko(f:BX):Bool:=epR f.ep&&decide (0≤f.n∧f.n≤16∧f.n≤f.en∧f.en≤f.n*16∧1≤f.at_∧f.at_≤1099511627775∧1≤f.size∧f.size≤2097152∧
 (if f.n=0 then f.first=0∧f.fin=0 else 0≤f.first∧f.first<f.fin∧f.fin≤4611686018427387904∧f.en≤f.fin-f.first))
theorem Tx{f:BX}:Ko f=true↔JD f:=by
 unfold Ko
 rw[Ap,Ao]
 exact⟨fun ⟨h0,h1,h2,h3,h4,h5,h6,h7,h8,h9⟩=>⟨h0,h1,h2,h3,h4,h5,h6,h7,h8,h9⟩,fun ⟨h0,h1,h2,h3,h4,h5,h6,h7,h8,h9⟩=>⟨h0,h1,h2,h3,h4,h5,h6,h7,h8,h9⟩⟩
def Qo:BX:=⟨0,0,0,0,0,0,0⟩
def Hk(P:List UInt8):Rs × BX:=
 let b:=(⟨0,0,0⟩:Rs).byte P
 let e:=(if b.2=3 then b.1 else b.1.fail 7 0).ep P
 let n:=e.1.int P 65536
 let m:=n.1.int P 65536
 let f:=m.1.num P
 let g:=f.1.num P
 let a:=g.1.int P 1099511627776
 let z:=a.1.int P 1099511627776
 (z.1,⟨(e.2:Int),(n.2:Int),(m.2:Int),(f.2:Int),(g.2:Int),(a.2:Int),(z.2:Int)⟩)
def Ml(P:List UInt8):Rs:=(if Ko (Hk P).2=true then (Hk P).1 else (Hk P).1.fail 3 0).fin P.length
def Gb(P:List UInt8):BX × Int × Int:=if (Ml P).k=0 then ((Hk P).2,0,0) else (Qo,(Ml P).k,(Ml P).f)
theorem Vv(P:List UInt8):(Hk P).1.fit P.length:=by
 have h0:=Rs.FC P.length
 have h1:=Rs.NX (B:=P) h0
 unfold Hk
 dsimp only
 generalize (⟨0,0,0⟩:Rs).byte P=U at*
 have h2:(if U.2=3 then U.1 else U.1.fail 7 0).fit P.length:=by
  split
  ·exact h1
  ·exact Rs.C4 (s:=⟨0,0,0⟩) h1 h0 zC
 exact Rs.EW (Rs.EW (Rs.Fq (Rs.Fq (Rs.EW (Rs.EW (Rs.TQ h2))))))
theorem Vx(P:List UInt8):(Ml P).fit P.length:=by
 have h0:=Rs.FC P.length
 have h1:=Vv P
 unfold Ml
 refine Rs.Qr ?_
 split
 ·exact h1
 ·exact Rs.C4 (s:=⟨0,0,0⟩) h1 h0 zC
theorem Vw(P:List UInt8):0≤(Gb P).2.2∧(Gb P).2.2≤P.length:=by
 unfold Gb
 split
 ·exact⟨Int.le_refl _,Int.natCast_nonneg _⟩
 ·exact (Vx P).inn
theorem Tw{f:BX}(hR:JD f):Gb (Du f)=(f,0,0):=by
 have hb:=Tx.2 hR
 have hN:=hR.GU
 obtain⟨h0,h1,h2,h3,h4,h5,h6,h7,h8,h9⟩:=hR
 have hep:1≤f.ep∧f.ep<4611686018427387904:=by simpa [epR] using h0
 have n1:=hN f.first (by simp[BX.GU])
 have n2:=hN f.fin (by simp[BX.GU])
 have hP:Du f=3::(AD f.ep.toNat++(AD f.n.toNat++(AD f.en.toNat++(AD f.first.toNat++(AD f.fin.toNat++(AD f.at_.toNat++(AD f.size.toNat++[]))))))):=by
  unfold Du BX.GU CN
  simp
 generalize Du f=P at*
 have b0:=Rs.Ld (B:=P) (p:=0) (by rw[De];exact hP) (Ar _)
 rw[A7] at b0
 have d0:P.drop 1=AD f.ep.toNat++(AD f.n.toNat++(AD f.en.toNat++(AD f.first.toNat++(AD f.fin.toNat++(AD f.at_.toNat++(AD f.size.toNat++[])))))):=by rw[hP];rfl
 have l0:1≤P.length:=by rw[hP];simp
 have r0:=AX d0 l0
 have e1:=Rs.Uw h0 d0
 have d1:=A2 d0
 have r1:=AX d1 zC
 have e2:=Rs.Et (m:=65536) zC d1 zC
 have d2:=A2 d1
 have r2:=AX d2 zC
 have e3:=Rs.Et (m:=65536) zC d2 zC
 have d3:=A2 d2
 have r3:=AX d3 zC
 have e4:=Rs.DB zC d3
 have d4:=A2 d3
 have r4:=AX d4 zC
 have e5:=Rs.DB zC d4
 have d5:=A2 d4
 have r5:=AX d5 zC
 have e6:=Rs.Et (m:=1099511627776) zC d5 zC
 have d6:=A2 d5
 have r6:=AX d6 zC
 have e7:=Rs.Et (m:=1099511627776) zC d6 zC
 have hS:Hk P=(⟨P.length,0,0⟩,f):=by
  unfold Hk
  rw[b0]
  dsimp only
  rw[Ag rfl,e1]
  dsimp only
  rw[e2]
  dsimp only
  rw[e3]
  dsimp only
  rw[e4]
  dsimp only
  rw[e5]
  dsimp only
  rw[e6]
  dsimp only
  rw[e7]
  dsimp only
  rw[AZ] at r6
  rw[toNat_cast zC,toNat_cast zC,toNat_cast zC,toNat_cast zC,toNat_cast zC,toNat_cast zC,toNat_cast zC]
  congr 2
 have hE:Ml P=⟨P.length,0,0⟩:=by
  unfold Ml Rs.fin
  rw[hS]
  dsimp only
  rw[Ag hb,Ai (Nat.lt_irrefl _)]
 unfold Gb
 rw[hE,hS]
 rfl
deriving instance DecidableEq for AP
deriving instance DecidableEq for BX
theorem Rs.Jk{t:Rs}(hs:s.fit B.length)(h:s.frame B 2097152=(t,P))(hk:t.k=0):B.drop s.p=BJ P++B.drop t.p∧t.p=s.p+(BJ P).length∧P.length≤2097152∧t.p≤B.length∧s.k=0:=by
 have hok:=(Rs.Ga hs 2097152).ok
 have hso:=hs.ok
 have hsl:=hs.ok.le
 rw[h] at hok
 have hle:=hok.le
 unfold Rs.frame at h
 dsimp only at h
 by_cases hc:Cc (s.Ct B (min 2097152 2097152)).2=EC ((s.Ct B (min 2097152 2097152)).1.take B 4).2
 ·rw[Ag hc] at h
  by_cases hz:((s.Ct B (min 2097152 2097152)).1.take B 4).1.k=0
  ·rw[Ag hz] at h
   obtain⟨f1,f2,f3⟩:=Rs.Il hz
   have hb:=(Rs.EL hz).2.1
   cases h
   dsimp only at hk hle
   unfold Rs.Ct at hk hle hb f1 f2 f3 hc ⊢
   have hi:=(Rs.EL hb).2.1
   obtain⟨b1,b2,b3⟩:=Rs.Il hb
   obtain⟨i1,i2,i3⟩:=Rs.EX (B:=B) (s:=s) hso hi
   generalize s.int B (min 2097152 2097152)=I at*
   obtain⟨u,n⟩:=I
   dsimp only at*
   generalize u.take B (n:Int)=J at*
   obtain⟨v,D⟩:=J
   dsimp only at*
   generalize v.take B 4=K at*
   obtain⟨x,C⟩:=K
   dsimp only at*
   have hn:D.length=n:=zC
   have h4:C.length=4:=zC
   have hC:BE 4 (Cc D)=C:=by
    rw[hc,←h4]
    exact Jo C
   have hB:B.drop s.p=BJ D++B.drop x.p:=by
    unfold BJ Ei
    rw[hn,hC,Au,Au,←f1,←b1]
    exact i1
   refine⟨hB,?_,zC,hle,i3⟩
   have:=A3 List.length hB
   rw[Al,CA,CA] at this
   have h5:=Km D
   omega
  ·rw[Ai hz] at h
   cases h
   exact absurd hk hz
 ·rw[Ai hc] at h
  cases h
  exact absurd hk (Rs.BI zC)
def Rs.within(s:Rs)(k f at_:Int):Rs:=if k=0 then s else s.fail k (wrap64 (f+at_))
theorem Rs.DA{at_:Int}:s.within 0 f at_=s:=Ag rfl
def Dj(B:List UInt8)(ep:Int)(blk:List UInt8→Rs→Rs × List UInt8 × Bool):Nat→Rs→List Batch→List AP→Bool→Rs × Nat × List Batch × List AP × Bool
 | 0,s,l,M,q=>(s,0,l,M,q)
 | n+1,s,l,M,q=>
  let F:=s.frame B 2097152
  let a:Int:=(F.1.p:Int)-4-(F.2.length:Int)
  if F.1.k=0 then
   if F.2=[] then (F.1.fail 1 a,s.p,l,M,q)
   else if F.2.headD 0=1 then
    let b:=Rs.batch F.2 (blk F.2) ⟨1,0,0⟩
    let e:=b.1.fin F.2.length
    let u:=F.1.within e.k e.f a
    if u.k=0 then
     if l.length=16 then (u.fail 2 s.p,s.p,l,M,q)
     else if EU ep (Ce l l.length) b.2.1=true then Dj B ep blk n u (l++[b.2.1]) (M++[⟨b.2.1.base,b.2.1.entries.length,s.p⟩]) (q&&b.2.2)
     else (u.fail 13 s.p,s.p,l,M,q)
    else (u,s.p,l,M,q)
   else if F.2.headD 0=2 then
    let m:=(⟨1,0,0⟩:Rs).Cr F.2
    let e:=m.1.fin F.2.length
    let u:=F.1.within e.k e.f a
    (if u.k=0∧m.2≠M then u.fail 12 s.p else u,s.p,l,M,q)
   else (F.1.fail 7 a,s.p,l,M,q)
  else (F.1,s.p,l,M,q)
def Kb(B:List UInt8)(s:Rs)(first:Nat)(ep:Int)(M:List AP):Rs:=
 let F:=s.frame B 2097152
 if F.1.k=0 then
  let f:=Gb F.2
  let u:=F.1.within f.2.1 f.2.2 ((F.1.p:Int)-4-(F.2.length:Int))
  let v:=if f.1=DE ep M first ((s.p:Int)-first) then u else u.fail 12 s.p
  let t:=v.take B 12
  (if t.2=CY (v.p-s.p) then t.1 else t.1.fail 12 v.p).fin B.length
 else F.1
def WN:Seg:=⟨0,[]⟩
def Uy(B:List UInt8)(blk:List UInt8→Rs→Rs × List UInt8 × Bool):Seg × Bool × Int × Int:=
 let h:=(⟨0,0,0⟩:Rs).hdr B
 let s:=if h.2.1=3 then h.1 else h.1.fail 8 4
 let r:=if s.k=0 then Dj B (h.2.2.1:Int) blk (B.length+1) s [] [] true else (s,0,[],[],true)
 let z:=if r.1.k=0 then Kb B r.1 r.2.1 (h.2.2.1:Int) r.2.2.2.1 else r.1
 if z.k=0 then (⟨(h.2.2.1:Int),r.2.2.1⟩,r.2.2.2.2,0,0) else (WN,false,z.k,z.f)
abbrev bS:=fun P:List UInt8=>Eb P
def TY(B:List UInt8):=Uy B bS
structure Wc(blk:List UInt8→Rs→Rs × List UInt8 × Bool):Prop where
 k:∀(P:List UInt8) (t:Rs),(blk P t).1.k=0→t.k=0
 len:∀(P:List UInt8) (t:Rs),(blk P t).2.1.length≤1048576
 can:∀(P:List UInt8) (t:Rs),t.ok P.length→(blk P t).1.k=0→(blk P t).2.2=true→P.drop t.p=Bj (blk P t).2.1++P.drop (blk P t).1.p
 ok:∀(P:List UInt8) (t:Rs),t.ok P.length→(blk P t).1.ok P.length
theorem YE:Wc bS:=⟨fun P t=>Aau t,fun P t=>So t,fun P t h=>XD t h,fun P t h=>XB h⟩
theorem Rs.Kx(h:s.k=0){k a:Int}:(s.within k f a).k=k:=by
 unfold Rs.within
 split
 ·rename_i h0
  rw[h,h0]
 ·unfold Rs.fail
  rw[Ag h]
theorem U2{blk:List UInt8→Rs→Rs × List UInt8 × Bool}(hb:Wc blk)(hP:P≠[])(h1:P.headD 0=1)(hk:((Rs.batch P (blk P) ⟨1,0,0⟩).1.fin P.length).k=0):
  Bg (Rs.batch P (blk P) ⟨1,0,0⟩).2.1=true∧Ec (Rs.batch P (blk P) ⟨1,0,0⟩).2.1∧((Rs.batch P (blk P) ⟨1,0,0⟩).2.2=true→P=1::Bc (Rs.batch P (blk P) ⟨1,0,0⟩).2.1):=by
 have hl:1≤P.length:=List.length_pos_iff.2 hP
 obtain⟨f1,f2,f3⟩:=Ut hk
 have ok1:(⟨1,0,0⟩:Rs).ok P.length:=⟨hl,fun _=>rfl⟩
 obtain⟨c1,c2,t,c3,c4,c5,c6,c7,c8⟩:=Rs.Hs ok1 f1 (hb.k P) (hb.len P)
 refine⟨c1,c2,fun hq=> ?_⟩
 rw[c5] at f1 f2
 rw[c7] at hq
 have h3:=hb.can P t c3 f1 hq
 have h4:P.drop (blk P t).1.p=[]:=GG f2
 rw[h4,Bu,←c6] at h3
 rw[h3] at c4
 have h5:P=[1]++P.drop 1:=by
  cases P with
  | nil=>exact absurd rfl hP
  | cons x l=>
   have:x=1:=h1
   rw[this]
   rfl
 have c4':P.drop 1=JA (Rs.batch P (blk P) ⟨1,0,0⟩).2.1++Bj (BM (Rs.batch P (blk P) ⟨1,0,0⟩).2.1.entries):=c4
 rw[c4'] at h5
 exact h5
theorem UZ(hP:P≠[])(h2:P.headD 0=2)(hk:(((⟨1,0,0⟩:Rs).Cr P).1.fin P.length).k=0):
  Cs ((⟨1,0,0⟩:Rs).Cr P).2=true∧P=2::A6 ((⟨1,0,0⟩:Rs).Cr P).2:=by
 have hl:1≤P.length:=List.length_pos_iff.2 hP
 obtain⟨f1,f2,f3⟩:=Ut hk
 have ok1:(⟨1,0,0⟩:Rs).ok P.length:=⟨hl,fun _=>rfl⟩
 obtain⟨c1,c2⟩:=Rs.Ma ok1 f1
 have h4:P.drop ((⟨1,0,0⟩:Rs).Cr P).1.p=[]:=GG f2
 rw[h4,Bu] at c2
 have h5:P=[2]++P.drop 1:=by
  cases P with
  | nil=>exact absurd rfl hP
  | cons x l=>
   have:x=2:=h2
   rw[this]
   rfl
 refine⟨c1,?_⟩
 have c2':P.drop 1=A6 ((⟨1,0,0⟩:Rs).Cr P).2:=c2
 rw[c2'] at h5
 exact h5
theorem M9(l:List Batch)(b:Batch):Ce (l++[b]) (l++[b]).length=some b:=by
 unfold Ce
 rw[Ai zM]
 simp
theorem DY(B:List UInt8)(ep:Int)(blk:List UInt8→Rs→Rs × List UInt8 × Bool)(n:Nat)(s:Rs)(l:List Batch)(M:List AP)(q:Bool){F:Rs × List UInt8}(hF:s.frame B 2097152=F):Dj B ep blk (n+1) s l M q=
  (if F.1.k=0 then
   if F.2=[] then (F.1.fail 1 ((F.1.p:Int)-4-(F.2.length:Int)),s.p,l,M,q)
   else if F.2.headD 0=1 then
    if (F.1.within ((Rs.batch F.2 (blk F.2) ⟨1,0,0⟩).1.fin F.2.length).k ((Rs.batch F.2 (blk F.2) ⟨1,0,0⟩).1.fin F.2.length).f ((F.1.p:Int)-4-(F.2.length:Int))).k=0 then
     if l.length=16 then ((F.1.within ((Rs.batch F.2 (blk F.2) ⟨1,0,0⟩).1.fin F.2.length).k ((Rs.batch F.2 (blk F.2) ⟨1,0,0⟩).1.fin F.2.length).f ((F.1.p:Int)-4-(F.2.length:Int))).fail 2 s.p,s.p,l,M,q)
     else if EU ep (Ce l l.length) (Rs.batch F.2 (blk F.2) ⟨1,0,0⟩).2.1=true then Dj B ep blk n (F.1.within ((Rs.batch F.2 (blk F.2) ⟨1,0,0⟩).1.fin F.2.length).k ((Rs.batch F.2 (blk F.2) ⟨1,0,0⟩).1.fin F.2.length).f ((F.1.p:Int)-4-(F.2.length:Int))) (l++[(Rs.batch F.2 (blk F.2) ⟨1,0,0⟩).2.1]) (M++[⟨(Rs.batch F.2 (blk F.2) ⟨1,0,0⟩).2.1.base,(Rs.batch F.2 (blk F.2) ⟨1,0,0⟩).2.1.entries.length,s.p⟩]) (q&&(Rs.batch F.2 (blk F.2) ⟨1,0,0⟩).2.2)
     else ((F.1.within ((Rs.batch F.2 (blk F.2) ⟨1,0,0⟩).1.fin F.2.length).k ((Rs.batch F.2 (blk F.2) ⟨1,0,0⟩).1.fin F.2.length).f ((F.1.p:Int)-4-(F.2.length:Int))).fail 13 s.p,s.p,l,M,q)
    else ((F.1.within ((Rs.batch F.2 (blk F.2) ⟨1,0,0⟩).1.fin F.2.length).k ((Rs.batch F.2 (blk F.2) ⟨1,0,0⟩).1.fin F.2.length).f ((F.1.p:Int)-4-(F.2.length:Int))),s.p,l,M,q)
   else if F.2.headD 0=2 then
    (if (F.1.within ((((⟨1,0,0⟩:Rs).Cr F.2).1.fin F.2.length).k) ((((⟨1,0,0⟩:Rs).Cr F.2).1.fin F.2.length).f) ((F.1.p:Int)-4-(F.2.length:Int))).k=0∧((⟨1,0,0⟩:Rs).Cr F.2).2≠M then (F.1.within ((((⟨1,0,0⟩:Rs).Cr F.2).1.fin F.2.length).k) ((((⟨1,0,0⟩:Rs).Cr F.2).1.fin F.2.length).f) ((F.1.p:Int)-4-(F.2.length:Int))).fail 12 s.p else (F.1.within ((((⟨1,0,0⟩:Rs).Cr F.2).1.fin F.2.length).k) ((((⟨1,0,0⟩:Rs).Cr F.2).1.fin F.2.length).f) ((F.1.p:Int)-4-(F.2.length:Int))),s.p,l,M,q)
   else (F.1.fail 7 ((F.1.p:Int)-4-(F.2.length:Int)),s.p,l,M,q)
  else (F.1,s.p,l,M,q)):=by
 subst hF
 rfl
theorem OM{ep:Int}{blk:List UInt8→Rs→Rs × List UInt8 × Bool}(hb:Wc blk):∀(n:Nat) (s:Rs) (l:List Batch) (M:List AP) (q:Bool),s.fit B.length→B.length-s.p<n→l.length≤16→
  (Dj B ep blk n s l M q).1.k=0→∃t:List Batch,(Dj B ep blk n s l M q).2.2.1=l++t∧(l++t).length≤16∧EF ep (Ce l l.length) t=true∧(∀b∈t,Ec b)∧(Dj B ep blk n s l M q).1.fit B.length∧Cs (Dj B ep blk n s l M q).2.2.2.1=true∧
   ((Dj B ep blk n s l M q).2.2.2.2=true→q=true∧∀J:List UInt8,B=J++B.drop s.p→J.length=s.p→
    (Er J M t).2=(Dj B ep blk n s l M q).2.2.2.1∧(Dj B ep blk n s l M q).2.1=(Er J M t).1.length∧B=(Er J M t).1++CC 2 (A6 (Er J M t).2)++B.drop (Dj B ep blk n s l M q).1.p)
 | 0,s,l,M,q,hs,hn,hl,h=>absurd hn (Nat.not_lt_zero _)
 | n+1,s,l,M,q,hs,hn,hl,h=>by
  generalize hF:s.frame B 2097152=F
  rw[DY B ep blk n s l M q hF] at h ⊢
  have hfit:=Rs.Ga hs 2097152
  rw[hF] at hfit
  have hcan:=fun hk:F.1.k=0=>Rs.Jk (P:=F.2) (t:=F.1) hs hF hk
  obtain⟨u,P⟩:=F
  dsimp only at*
  by_cases hk:u.k=0
  ·rw[Ag hk] at h ⊢
   obtain⟨c1,c2,c3,c4,c5⟩:=hcan hk
   have hlow:=Km P
   by_cases hP:P=[]
   ·rw[Ag hP] at h
    exact absurd h (Rs.BI zC)
   ·rw[Ai hP] at h ⊢
    by_cases h1:P.headD 0=1
    ·rw[Ag h1] at h ⊢
     have hRB:=U2 hb hP h1
     generalize Rs.batch P (blk P) ⟨1,0,0⟩=b at*
     obtain⟨bs,b,bq⟩:=b
     dsimp only at*
     by_cases he:(bs.fin P.length).k=0
     ·obtain⟨r1,r2,r3⟩:=hRB he
      rw[he,Rs.DA,Ag hk] at h ⊢
      by_cases h16:l.length=16
      ·rw[Ag h16] at h
       exact absurd h (Rs.BI zC)
      ·rw[Ai h16] at h ⊢
       by_cases hm:EU ep (Ce l l.length) b=true
       ·rw[Ag hm] at h ⊢
        obtain⟨t,i1,i2,i3,i4,i5,i6,i7⟩:=OM hb n u (l++[b]) (M++[⟨b.base,b.entries.length,s.p⟩]) (q&&bq) hfit zC zAx h
        rw[M9] at i3
        refine⟨b::t,by rw[i1,Au];rfl,by rw[Au] at i2;exact i2,?_,?_,i5,i6,fun hq=> ?_⟩
        ·unfold EF
         rw[r1,hm,i3]
         rfl
        ·intro x hx
         rcases List.mem_cons.1 hx with rfl | hx
         ·exact r2
         ·exact i4 x hx
        ·obtain⟨j1,j2⟩:=i7 hq
         rw[Ap] at j1
         refine⟨j1.1,fun J hJ hJl=> ?_⟩
         have hrec:BJ P=CC 1 (Bc b):=by
          unfold CC
          rw[←r3 j1.2]
         rw[hrec] at c1 c2
         have hJ2:B=(J++CC 1 (Bc b))++B.drop u.p:=by
          rw[Au,←c1]
          exact hJ
         obtain⟨k1,k2,k3⟩:=j2 (J++CC 1 (Bc b)) hJ2 (by rw[Al,hJl,c2])
         have hgo:Er J M (b::t)=Er (J++CC 1 (Bc b)) (M++[⟨b.base,b.entries.length,s.p⟩]) t:=by
          rw[←hJl]
          rfl
         rw[hgo]
         exact⟨k1,k2,k3⟩
       ·rw[Ai hm] at h
        exact absurd h (Rs.BI zC)
     ·rw[Ai (by rw[Rs.Kx hk];exact he)] at h
      dsimp only at h
      rw[Rs.Kx hk] at h
      exact absurd h he
    ·rw[Ai h1] at h ⊢
     by_cases h2:P.headD 0=2
     ·rw[Ag h2] at h ⊢
      have hRM:=UZ hP h2
      generalize (⟨1,0,0⟩:Rs).Cr P=m at*
      obtain⟨ms,m⟩:=m
      dsimp only at*
      by_cases he:(ms.fin P.length).k=0
      ·obtain⟨r1,r2⟩:=hRM he
       rw[he,Rs.DA] at h ⊢
       by_cases hmM:m=M
       ·rw[Ai (fun hh=>hh.2 hmM)] at h ⊢
        subst hmM
        refine⟨[],zM,zBd,rfl,fun b hb=>absurd hb zM,hfit,r1,fun hq=>⟨hq,fun J hJ hJl=> ?_⟩⟩
        refine⟨rfl,hJl.symm,?_⟩
        have hrec:BJ P=CC 2 (A6 m):=by
         unfold CC
         rw[←r2]
        show B=J++CC 2 (A6 m)++B.drop u.p
        rw[←hrec,Au,←c1]
        exact hJ
       ·rw[Ag ⟨hk,hmM⟩] at h
        exact absurd h (Rs.BI zC)
      ·rw[Ai (fun hh=>he (by rw[Rs.Kx hk] at hh;exact hh.1))] at h
       rw[Rs.Kx hk] at h
       exact absurd h he
     ·rw[Ai h2] at h
      exact absurd h (Rs.BI zC)
  ·rw[Ai hk] at h
   exact absurd h hk
def DM(t:List Batch):List UInt8:=(t.map fun b=>CC 1 (Bc b)).flatten
def Cy:Nat→List Batch→List AP
 | _,[]=>[]
 | p,b::t=>⟨b.base,b.entries.length,p⟩::Cy (p+(CC 1 (Bc b)).length) t
theorem Iq(b:Batch)(t:List Batch):DM (b::t)=CC 1 (Bc b)++DM t:=by simp[DM]
theorem MZ:∀(t:List Batch) (J:List UInt8) (M:List AP),Er J M t=(J++DM t,M++Cy J.length t)
 | [],J,M=>by simp[Er,DM,Cy]
 | b::t,J,M=>by
  have h:Er J M (b::t)=Er (J++CC 1 (Bc b)) (M++[⟨b.base,b.entries.length,J.length⟩]) t:=rfl
  rw[h,MZ t,Iq,Au,Au,Al]
  rfl
def YK(blk:List UInt8→Rs→Rs × List UInt8 × Bool):Prop:=∀(b:Batch),Bg b=true→∀(P rest:List UInt8) (q:Nat),q≤P.length→P.drop q=Bj (BM b.entries)++rest→blk P ⟨q,0,0⟩=(⟨q+(Bj (BM b.entries)).length,0,0⟩,BM b.entries,true)
theorem Aa1:YK bS:=fun b hR P rest q h1 h2=>XA hR P rest q h1 h2
theorem SJ{ep:Int}{blk:List UInt8→Rs→Rs × List UInt8 × Bool}(hb:YK blk){l:List Batch}{M:List AP}{q:Bool}{b:Batch}(hR:Bg b=true)(hN:Ec b)
 (h:B.drop p=CC 1 (Bc b)++rest) (hp:p≤B.length) (hl:l.length<16) (hm:EU ep (Ce l l.length) b=true):
  Dj B ep blk (n+1) ⟨p,0,0⟩ l M q=Dj B ep blk n ⟨p+(CC 1 (Bc b)).length,0,0⟩ (l++[b]) (M++[⟨b.base,b.entries.length,p⟩]) q:=by
 have hle:=JK hR
 have hF:(⟨p,0,0⟩:Rs).frame B 2097152=(⟨p+(CC 1 (Bc b)).length,0,0⟩,1::Bc b):=Rs.GK h hp zI
 have hB:Rs.batch (1::Bc b) (blk (1::Bc b)) ⟨1,0,0⟩=(⟨1+(Bc b).length,0,0⟩,b,true):=
  Rs.LU (rest:=[]) hR hN zM zM (fun q' h1 h2=>hb b hR _ _ q' h1 h2)
 have hfin:(⟨1+(Bc b).length,0,0⟩:Rs).fin (1::Bc b).length=⟨1+(Bc b).length,0,0⟩:=by
  unfold Rs.fin
  rw[Ai zI]
 rw[DY B ep blk n _ l M q hF]
 dsimp only
 rw[Ag rfl,Ai zM,Ag (show (1::Bc b).headD 0=1 from rfl),hB]
 dsimp only
 rw[hfin]
 dsimp only
 rw[Rs.DA,Ag rfl,Ai zC,Ag hm,Bool.and_true]
theorem QU{ep:Int}{blk:List UInt8→Rs→Rs × List UInt8 × Bool}{l:List Batch}{M:List AP}{q:Bool}(hM:Cs M=true)
 (h:B.drop p=CC 2 (A6 M)++rest) (hp:p≤B.length):
  Dj B ep blk (n+1) ⟨p,0,0⟩ l M q=(⟨p+(CC 2 (A6 M)).length,0,0⟩,p,l,M,q):=by
 have hle:=Iz hM
 have hF:(⟨p,0,0⟩:Rs).frame B 2097152=(⟨p+(CC 2 (A6 M)).length,0,0⟩,2::A6 M):=Rs.GK h hp zI
 have hB:(⟨1,0,0⟩:Rs).Cr (2::A6 M)=(⟨1+(A6 M).length,0,0⟩,M):=Rs.Vb (rest:=[]) hM zM zM
 have hfin:(⟨1+(A6 M).length,0,0⟩:Rs).fin (2::A6 M).length=⟨1+(A6 M).length,0,0⟩:=by
  unfold Rs.fin
  rw[Ai zI]
 rw[DY B ep blk n _ l M q hF]
 dsimp only
 rw[Ag rfl,Ai zM,Ai (show ¬(2::A6 M).headD 0=1 from (by decide:¬(2:UInt8)=1)),Ag (show (2::A6 M).headD 0=2 from rfl),hB]
 dsimp only
 rw[hfin]
 dsimp only
 rw[Rs.DA,Ai (fun hh=>hh.2 rfl)]
theorem OR:∀l:List Batch,l.length≤(DM l).length
 | []=>by simp[DM]
 | b::t=>by
  have:=(Gm 1 (Bc b)).2
  have:=OR t
  rw[Iq,Al,Ay]
  omega
theorem SI{ep:Int}{blk:List UInt8→Rs→Rs × List UInt8 × Bool}(hb:YK blk)(t:List Batch):∀(n p:Nat) (l:List Batch) (M:List AP) (q:Bool) (rest:List UInt8),(∀b∈t,Ec b)→EF ep (Ce l l.length) t=true→(l++t).length≤16→Cs (M++Cy p t)=true→
  B.drop p=DM t++(CC 2 (A6 (M++Cy p t))++rest)→p≤B.length→t.length<n→
  Dj B ep blk n ⟨p,0,0⟩ l M q=(⟨p+(DM t).length+(CC 2 (A6 (M++Cy p t))).length,0,0⟩,p+(DM t).length,l++t,M++Cy p t,q):=by
 induction t with
 | nil=>
  intro n p l M q rest hN hc hl hM h hp hn
  obtain⟨n,rfl⟩:∃m,n=m+1:=⟨n-1,zC⟩
  have e0:DM []=[]:=rfl
  have e1:M++Cy p []=M:=Bu _
  rw[e1] at hM h ⊢
  rw[e0,AG] at h
  rw[QU hM h hp,e0,Bu,AZ,Ed]
 | cons b t ih=>
  intro n p l M q rest hN hc hl hM h hp hn
  obtain⟨n,rfl⟩:∃m,n=m+1:=⟨n-1,zC⟩
  unfold EF at hc
  simp only[Ap] at hc
  obtain⟨c1,c2,c3⟩:=hc
  have e1:M++Cy p (b::t)=(M++[⟨b.base,b.entries.length,p⟩])++Cy (p+(CC 1 (Bc b)).length) t:=by
   rw[Au]
   rfl
  rw[e1] at hM h ⊢
  rw[Iq,Au (CC 1 (Bc b))] at h
  have hd:=A2 h
  have hr:=AX h hp
  have hl16:l.length<16:=by simp at hl;omega
  have e2:l++[b]++t=l++b::t:=by rw[Au];rfl
  have g1:EF ep (Ce (l++[b]) (l++[b]).length) t=true:=by
   rw[M9]
   exact c3
  have g2:(l++[b]++t).length≤16:=by
   rw[e2]
   exact hl
  have g3:p+(CC 1 (Bc b)).length≤B.length:=Nat.le.intro hr
  have g4:Cs (M++[⟨b.base,b.entries.length,p⟩]++Cy (p+(CC 1 (Bc b)).length) t)=true:=hM
  have g5:B.drop (p+(CC 1 (Bc b)).length)=DM t++(CC 2 (A6 (M++[⟨b.base,b.entries.length,p⟩]++Cy (p+(CC 1 (Bc b)).length) t))++rest):=by
   exact hd
  have g6:t.length<n:=by
   rw[Ay] at hn
   exact Nat.lt_of_succ_lt_succ hn
  have ih:=ih n (p+(CC 1 (Bc b)).length) (l++[b]) _ q rest (fun x hx=>hN x (FR _ hx)) g1 g2 g4 g5 g3 g6
  rw[SJ hb c1 (hN b (Fl ..)) h hp hl16 c2,ih,Iq,Al,e2,←Cl p]
theorem SM{p first:Nat}{ep:Int}{M:List AP}(hf:JD (DE ep M first ((p:Int)-first)))(h:B.drop p=Eu (DE ep M first ((p:Int)-first))++rest)(hp:p≤B.length):
  Kb B ⟨p,0,0⟩ first ep M=(⟨p+(Eu (DE ep M first ((p:Int)-first))).length,0,0⟩:Rs).fin B.length:=by
 unfold Kb
 generalize DE ep M first ((p:Int)-first)=f at*
 have hle:=GL f
 unfold Eu at h ⊢
 rw[Au] at h
 have hF:=Rs.GK (B:=B) (P:=Du f) h hp zC
 have hd:=A2 h
 have hr:=AX h hp
 have hT:=Rs.GO hd zC
 rw[D5] at hT
 have hT':(⟨p+(BJ (Du f)).length,0,0⟩:Rs).take B 12=(⟨p+(BJ (Du f)).length+12,0,0⟩,CY (BJ (Du f)).length):=hT
 rw[hF]
 dsimp only
 rw[Ag rfl,Tw hf]
 dsimp only
 rw[Rs.DA,Ag rfl,hT']
 dsimp only
 rw[show p+(BJ (Du f)).length-p=(BJ (Du f)).length by omega,Ag rfl,Al,D5,Cl]
theorem MB(ep:Int)(l:List Batch):Dw ep l=Bf 3 ep.toNat 0++(DM l++(CC 2 (A6 (Cy (Bf 3 ep.toNat 0).length l))++Eu (Em ep l)))∧
  Em ep l=DE ep (Cy (Bf 3 ep.toNat 0).length l) ((Bf 3 ep.toNat 0).length+(DM l).length:Nat) ((CC 2 (A6 (Cy (Bf 3 ep.toNat 0).length l))).length:Nat)∧(Ha ep l).2=Cy (Bf 3 ep.toNat 0).length l:=by
 have hW:Ha ep l=(Bf 3 ep.toNat 0++DM l,Cy (Bf 3 ep.toNat 0).length l):=by
  unfold Ha
  rw[MZ,AG]
 unfold Dw Em UX
 rw[hW]
 refine⟨by simp only[Au],by dsimp only;rw[Al],rfl⟩
theorem VN{ep:Int}{l:List Batch}(R:List UInt8)(hR:Ey ⟨ep,l⟩=true)(hN:∀b∈l,Ec b){blk:List UInt8→Rs→Rs × List UInt8 × Bool}(hb:YK blk):
  Uy (Dw ep l++R) blk=(if R=[] then (⟨ep,l⟩,true,0,0) else (WN,false,9,((Dw ep l).length:Int))):=by
 have hFR:=Ka hR hN
 obtain⟨hMR,_⟩:=J9 hR hN
 obtain⟨e1,e2,e3⟩:=MB ep l
 rw[e3] at hMR
 have hlen:=A3 List.length e1
 have hB:Dw ep l++R=Bf 3 ep.toNat 0++(DM l++(CC 2 (A6 (Cy (Bf 3 ep.toNat 0).length l))++(Eu (Em ep l)++R))):=by
  rw[e1]
  simp only[Au]
 generalize Dw ep l=S at*
 generalize hBB:S++R=B at*
 have hBl:B.length=S.length+R.length:=by rw[←hBB,Al]
 obtain⟨h1,h2,h3⟩:=F5 hR
 simp only[Ey,Ap,Ao] at hR
 obtain⟨hep,hl16,hch⟩:=hR
 have hep1:1≤ep∧ep<4611686018427387904:=h1
 have hH:Jj ((3:Nat):Int) ((ep.toNat:Nat):Int) ((0:Nat):Int)=true:=by
  rw[toNat_cast zC]
  unfold Jj
  rw[hep]
  decide
 have hd0:B.drop 0=Bf 3 ep.toNat 0++(DM l++(CC 2 (A6 (Cy (Bf 3 ep.toNat 0).length l))++(Eu (Em ep l)++R))):=by rw[De];exact hB
 have hh:=Rs.Qj hH hd0 (Ar _)
 have hd1:=A2 hd0
 have hr1:=AX hd0 (Ar _)
 rw[A7] at hh hd1
 generalize Bf 3 ep.toNat 0=H at*
 have hS:=SI (B:=B) (ep:=ep) hb l (B.length+1) H.length [] [] true (Eu (Em ep l)++R) hN hch (by simpa using hl16) (by simpa using hMR) (by simpa using hd1) zC (by
  have:=OR l
  simp only[Al] at hr1
  omega)
 rw[AG,AG] at hS
 have hd2:=A2 hd1
 have hd3:=A2 hd2
 have hr2:=AX hd1 zC
 have hr3:=AX hd2 zC
 generalize Cy H.length l=M at*
 have hfe:DE ep M ((H.length+(DM l).length:Nat):Int) (((H.length+(DM l).length+(CC 2 (A6 M)).length:Nat):Int)-((H.length+(DM l).length:Nat):Int))=Em ep l:=by
  rw[e2]
  congr 1
  omega
 have hE:=SM (B:=B) (rest:=R) (p:=H.length+(DM l).length+(CC 2 (A6 M)).length) (first:=H.length+(DM l).length) (ep:=ep) (M:=M) (by rw[hfe];exact hFR) (by rw[hfe];exact hd3) zC
 rw[hfe] at hE
 unfold Uy
 rw[hh]
 dsimp only
 rw[Ag rfl,Ag rfl,toNat_cast zC,hS]
 dsimp only
 rw[Ag rfl,hE]
 have hpl:H.length+(DM l).length+(CC 2 (A6 M)).length+(Eu (Em ep l)).length=S.length:=by
  rw[hlen]
  simp only[Al]
  omega
 rw[hpl]
 unfold Rs.fin
 by_cases hRn:R=[]
 ·have hl0:R.length=0:=by rw[hRn];rfl
  have hlt:¬(⟨S.length,0,0⟩:Rs).p<B.length:=zH
  rw[Ai hlt,Ag hRn]
  dsimp only
  rw[Ag rfl]
 ·have:0<R.length:=List.length_pos_iff.2 hRn
  have hgt:(⟨S.length,0,0⟩:Rs).p<B.length:=zH
  rw[Ag hgt,Ai hRn]
  unfold Rs.fail
  dsimp only
  rw[Ag rfl]
  dsimp only
  rw[Ai zL]
theorem Rs.Y4{K:Nat}(h:s.sh L):(s.fin K).sh L:=by
 rw[Rs.MG h.GP]
 exact h
def L6(B:List UInt8)(ep:Int)(R:Rs × Nat × List Batch × List AP × Bool):Rs:=if R.1.k=0 then Kb B R.1 R.2.1 ep R.2.2.2.1 else R.1
def Rs.up(p:Nat)(s:Rs):Rs:=⟨p+s.p,s.k,if s.k=0 then 0 else (p:Int)+s.f⟩
theorem Rs.PH{c a:Int}(hc:c≠0):(s.fail c a).up p=(s.up p).fail c ((p:Int)+a):=by
 unfold Rs.fail Rs.up
 dsimp only
 by_cases h:s.k=0
 ·rw[Ag h,Ag h]
  dsimp only
  rw[Ai hc]
 ·rw[Ai h,Ai h,Ai h]
theorem Rs.UJ:(s.up p).k=s.k:=rfl
theorem Rs.Aah(hp:p≤B.length):(s.up p).num B=((s.num (B.drop p)).1.up p,(s.num (B.drop p)).2):=by
 unfold Rs.num
 rw[Rs.UJ]
 by_cases h:s.k=0
 ·rw[Ag h,Ag h]
  unfold Rs.up
  dsimp only
  rw[Fm,CA]
  generalize Cn 0 0 (B.drop (p+s.p))=r
  obtain⟨v,u,k⟩:=r
  dsimp only
  congr 1
  by_cases h0:k=0
  ·simp only[Ag h0,Cl]
  ·simp only[Ai h0,Cl]
   by_cases h1:k=1
   ·simp only[Ag h1]
    congr 1
    omega
   ·simp only[Ai h1]
    congr 1
    omega
 ·rw[Ai h,Ai h]
theorem Rs.Aal(hp:p≤B.length):(s.up p).int B m=((s.int (B.drop p) m).1.up p,(s.int (B.drop p) m).2):=by
 unfold Rs.int Rs.most
 rw[Rs.Aah hp]
 have hu:((s.up p).p:Int)=(p:Int)+s.p:=by unfold Rs.up;dsimp only;omega
 rw[hu]
 dsimp only
 by_cases h:0≤m
 ·rw[Ag h,Ag h]
  by_cases h2:m.toNat<(s.num (B.drop p)).2
  ·rw[Ag h2,Ag h2,Rs.PH zC]
  ·rw[Ai h2,Ai h2]
 ·rw[Ai h,Ai h,Rs.PH zC]
theorem Rs.Uf{n:Int}(hp:p≤B.length):(s.up p).take B n=((s.take (B.drop p) n).1.up p,(s.take (B.drop p) n).2):=by
 unfold Rs.take Rs.skip
 rw[Rs.UJ]
 have hl:(B.drop p).length=B.length-p:=CA
 by_cases h:s.k=0
 ·rw[Ag h,Ag h]
  by_cases h1:n<0
  ·rw[Ag h1,Ag h1]
   unfold Rs.up
   dsimp only
   rw[Ai zL]
   simp
  ·rw[Ai h1,Ai h1]
   have hu:((s.up p).p:Int)=(p:Int)+s.p:=by unfold Rs.up;dsimp only;omega
   by_cases h2:(B.length:Int)-(s.up p).p<n
   ·have h2':((B.drop p).length:Int)-s.p<n:=by omega
    rw[Ag h2,Ag h2']
    unfold Rs.up
    dsimp only
    rw[Ai zL,show (p:Int)+((B.drop p).length:Int)=(B.length:Int) by omega]
    simp
   ·have h2':¬((B.drop p).length:Int)-s.p<n:=by omega
    rw[Ai h2,Ai h2']
    unfold Rs.up
    dsimp only
    rw[Ag rfl,Fm,Cl,Ag rfl]
    rfl
 ·rw[Ai h,Ai h]
  rfl
theorem Rs.YB(hp:p≤B.length):(s.up p).Ct B m=((s.Ct (B.drop p) m).1.up p,(s.Ct (B.drop p) m).2):=by
 unfold Rs.Ct
 rw[Rs.Aal hp]
 dsimp only
 rw[Rs.Uf hp]
theorem Rs.Xd(hp:p≤B.length):(s.up p).frame B m=((s.frame (B.drop p) m).1.up p,(s.frame (B.drop p) m).2):=by
 unfold Rs.frame
 rw[Rs.YB hp]
 dsimp only
 rw[Rs.Uf hp]
 dsimp only
 by_cases h:Cc (s.Ct (B.drop p) (min m 2097152)).2=EC ((s.Ct (B.drop p) (min m 2097152)).1.take (B.drop p) 4).2
 ·rw[Ag h,Ag h,Rs.UJ]
 ·have hu:(((s.Ct (B.drop p) (min m 2097152)).1.up p).p:Int)=(p:Int)+(s.Ct (B.drop p) (min m 2097152)).1.p:=by unfold Rs.up;dsimp only;omega
  rw[Ai h,Ai h,hu,←Rs.PH zC,Rs.UJ]
theorem RA(hp:p≤B.length):(⟨p,0,0⟩:Rs).frame B 2097152=(((⟨0,0,0⟩:Rs).frame (B.drop p) 2097152).1.up p,((⟨0,0,0⟩:Rs).frame (B.drop p) 2097152).2):=by
 have:=Rs.Xd (s:=⟨0,0,0⟩) (m:=2097152) hp
 exact this
theorem Rz(D:List UInt8):
  ((Fh D).1.k≠0→(⟨0,0,0⟩:Rs).frame D 2097152=((Fh D).1,[])∨((⟨0,0,0⟩:Rs).frame D 2097152).1=(Fh D).1)∧
  ((Fh D).1.k=0→D.length<Hv D→((⟨0,0,0⟩:Rs).frame D 2097152).1.sh D.length):=by
 have hmin:min (2097152:Int) 2097152=2097152:=zL
 refine⟨fun h=> .inr ?_,fun h hl=> ?_⟩
 ·unfold Rs.frame Rs.Ct
  rw[hmin]
  dsimp only
  have e:(⟨0,0,0⟩:Rs).int D 2097152=Fh D:=rfl
  rw[e,Rs.DX h]
  dsimp only
  rw[Rs.DX h]
  dsimp only
  split
  ·rfl
  ·exact Rs.Bt h
 ·obtain⟨u1,u2,u3⟩:=Vm h
  have hw:Hv D=(AD (Fh D).2).length+(Fh D).2+4:=by
   unfold Hv
   rw[Ag h]
  have e:(⟨0,0,0⟩:Rs).int D 2097152=(⟨(AD (Fh D).2).length,0,0⟩,(Fh D).2):=by
   have:=Rs.Et (B:=D) (p:=0) (x:=(Fh D).2) (m:=2097152) zC (by rw[De];exact u1) zC
   rw[A7] at this
   exact this
  generalize (Fh D).2=n at*
  unfold Rs.frame Rs.Ct
  rw[hmin,e]
  dsimp only
  by_cases h1:D.length<(AD n).length+n
  ·have hs:((⟨(AD n).length,0,0⟩:Rs).take D (n:Int)).1.sh D.length:=by
    unfold Rs.take Rs.skip
    rw[Ag rfl,Ai zC,Ag zH]
    exact⟨rfl,rfl⟩
   rw[Rs.DX hs.GP]
   dsimp only
   split
   ·exact hs
   ·rw[Rs.Bt hs.GP]
    exact hs
  ·have ht:(⟨(AD n).length,0,0⟩:Rs).take D (n:Int)=(⟨(AD n).length+n,0,0⟩,(D.drop (AD n).length).take n):=by
    unfold Rs.take Rs.skip
    rw[Ag rfl,Ai zC,Ai zH]
    dsimp only
    rw[Ag rfl,Ex]
   have hs:((⟨(AD n).length+n,0,0⟩:Rs).take D 4).1.sh D.length:=by
    unfold Rs.take Rs.skip
    rw[Ag rfl,Ai zC,Ag zH]
    exact⟨rfl,rfl⟩
   rw[ht]
   dsimp only
   split
   ·exact hs
   ·rw[Rs.Bt hs.GP]
    exact hs
theorem Rs.Qu{c a:Int}(h:s.k=1):(s.fail c a).k=1:=by rw[Rs.Bt zC];exact h
variable {D E:List UInt8} {s:Rs}
theorem Rs.P8(hs:s.p≤D.length)(h:(s.num D).1.k≠1):s.num (D++E)=s.num D:=by
 unfold Rs.num at h ⊢
 by_cases hk:s.k=0
 ·rw[Ag hk] at h
  rw[Ag hk,Ag hk]
  dsimp only at h ⊢
  rw[List.drop_append_of_le_length hs,QL _ _ _ _ h]
  simp only[Ai h]
 ·rw[Ai hk,Ai hk]
theorem Rs.Ye(hk:(s.num D).1.k≠0):(s.num D).2=0:=by
 unfold Rs.num at hk ⊢
 by_cases h:s.k=0
 ·rw[Ag h] at hk ⊢
  exact OH _ _ _ hk
 ·rw[Ai h]
theorem Rs.Yk(hs:s.p≤D.length)(h:(s.int D m).1.k≠1):s.int (D++E) m=s.int D m:=by
 have h1:(s.num D).1.k≠1:=fun e=>h (by
  have h2:=Rs.Ye (s:=s) (D:=D) zC
  unfold Rs.int Rs.most
  rw[h2]
  split
  ·rw[Ai zC]
   exact e
  ·exact Rs.Qu e)
 unfold Rs.int Rs.most
 rw[Rs.P8 hs h1]
theorem Rs.KC{n:Int}(hs:s.p≤D.length)(h:(s.take D n).1.k≠1):s.take (D++E) n=s.take D n:=by
 unfold Rs.take Rs.skip at h ⊢
 by_cases hk:s.k=0
 ·rw[Ag hk] at h ⊢
  rw[Ag hk]
  by_cases h1:n<0
  ·rw[Ag h1,Ag h1]
   rfl
  ·rw[Ai h1] at h ⊢
   rw[Ai h1]
   by_cases h2:(D.length:Int)-s.p<n
   ·rw[Ag h2] at h
    exact absurd rfl h
   ·have h3:¬((D++E).length:Int)-s.p<n:=by rw[Al];omega
    rw[Ai h2,Ai h3]
    dsimp only
    rw[Ag rfl,Ag rfl,List.drop_append_of_le_length hs,List.take_append_of_le_length (by rw[CA];omega)]
 ·rw[Ai hk,Ai hk]
  rfl
theorem Rs.Xy(hs:s.p≤D.length)(h:(s.byte D).1.k≠1):s.byte (D++E)=s.byte D:=by
 unfold Rs.byte Rs.skip at h ⊢
 by_cases hk:s.k=0
 ·rw[Ag hk] at h ⊢
  have n10:¬(1:Int)<0:=zL
  rw[Ag hk]
  simp only[Ai n10] at h ⊢
  by_cases h2:(D.length:Int)-s.p<1
  ·rw[Ag h2] at h
   exact absurd rfl h
  ·have h3:¬((D++E).length:Int)-s.p<1:=by rw[Al];omega
   rw[Ai h2,Ai h3]
   dsimp only
   rw[Ag rfl,Ag rfl]
   congr 1
   rw[Ih,Ih,Cp zC]
 ·rw[Ai hk,Ai hk]
  rfl
theorem Rs.Xz(hs:s.ok D.length)(h:(s.Ct D m).1.k≠1):s.Ct (D++E) m=s.Ct D m:=by
 have hi:=Rs.Eo hs (m:=m)
 have h1:(s.int D m).1.k≠1:=fun e=>h (by
  unfold Rs.Ct
  rw[Rs.DX zC]
  exact e)
 unfold Rs.Ct at h ⊢
 rw[Rs.Yk hs.le h1,Rs.KC hi.le h]
theorem Rs.Vu(hs:s.ok D.length)(h:(s.frame D m).1.k≠1):s.frame (D++E) m=s.frame D m:=by
 have hb:=Rs.IH hs (min m 2097152)
 have h2:((s.Ct D (min m 2097152)).1.take D 4).1.k≠1:=fun e=>h (by
  unfold Rs.frame
  dsimp only
  split
  ·exact e
  ·exact Rs.Qu e)
 have h1:(s.Ct D (min m 2097152)).1.k≠1:=fun e=>h2 (by
  rw[Rs.DX zC]
  exact e)
 unfold Rs.frame
 dsimp only
 rw[Rs.Xz hs h1,Rs.KC hb.le h2]
theorem Rs.Aaq(hs:s.p≤D.length)(h:(s.ep D).1.k≠1):s.ep (D++E)=s.ep D:=by
 have h1:(s.num D).1.k≠1:=fun e=>h (by
  unfold Rs.ep
  rw[Ai zC]
  exact e)
 unfold Rs.ep
 rw[Rs.P8 hs h1]
theorem Rs.Aab(hs:s.p≤D.length)(h:(s.po D).1.k≠1):s.po (D++E)=s.po D:=by
 have h1:(s.num D).1.k≠1:=fun e=>h (by
  unfold Rs.po
  rw[Ai zC]
  exact e)
 unfold Rs.po
 rw[Rs.P8 hs h1]
theorem Rs.V6(hs:s.ok D.length)(h:(s.A9 D).1.k≠1):s.A9 (D++E)=s.A9 D:=by
 have ht:=Rs.Gf hs 4
 have h0:∀c:List UInt8,(if c=[84,72,79,76] then (s.take D 4).1 else (s.take D 4).1.fail 14 s.p).ok D.length:=fun c=>by
  split
  ·exact ht
  ·exact Rs.Ck ht zC
 have h2:((if (s.take D 4).2=[84,72,79,76] then (s.take D 4).1 else (s.take D 4).1.fail 14 s.p).byte D).1.k≠1:=fun e=>h (by
  unfold Rs.A9
  dsimp only
  generalize (if (s.take D 4).2=[84,72,79,76] then (s.take D 4).1 else (s.take D 4).1.fail 14 s.p)=u at*
  split
  ·exact e
  ·exact Rs.Qu e)
 have h1:(s.take D 4).1.k≠1:=fun e=>h2 (by
  have e2:(if (s.take D 4).2=[84,72,79,76] then (s.take D 4).1 else (s.take D 4).1.fail 14 s.p)=(s.take D 4).1:=by
   split
   ·rfl
   ·exact Rs.Bt zC
  rw[e2,Rs.Hq zC]
  exact e)
 unfold Rs.A9
 dsimp only
 rw[Rs.KC hs.le h1,Rs.Xy (h0 _).le h2]
theorem Rs.Yp(hs:s.ok D.length)(h:(s.hdr D).1.k≠1):s.hdr (D++E)=s.hdr D:=by
 have ob:=Rs.Lf hs
 have oe:=Rs.TO (B:=D) ob
 have op:(if (s.A9 D).2=1 then ((s.A9 D).1.ep D).1.po D else (((s.A9 D).1.ep D).1,0)).1.ok D.length:=by
  split
  ·exact Rs.Q8 oe
  ·exact oe
 have h3:((if (s.A9 D).2=1 then ((s.A9 D).1.ep D).1.po D else (((s.A9 D).1.ep D).1,0)).1.take D 4).1.k≠1:=fun e=>h (by
  unfold Rs.hdr
  dsimp only
  generalize (if (s.A9 D).2=1 then ((s.A9 D).1.ep D).1.po D else (((s.A9 D).1.ep D).1,0))=b at*
  rw[Ai zC]
  exact e)
 have h2:(if (s.A9 D).2=1 then ((s.A9 D).1.ep D).1.po D else (((s.A9 D).1.ep D).1,0)).1.k≠1:=fun e=>h3 (by
  rw[Rs.DX zC]
  exact e)
 have h1:((s.A9 D).1.ep D).1.k≠1:=fun e=>h2 (by
  split
  ·rw[Rs.SZ zC]
   exact e
  ·exact e)
 have h0:(s.A9 D).1.k≠1:=fun e=>h1 (by
  rw[Rs.TP zC]
  exact e)
 have hP:(if (s.A9 D).2=1 then ((s.A9 D).1.ep D).1.po (D++E) else (((s.A9 D).1.ep D).1,0))=(if (s.A9 D).2=1 then ((s.A9 D).1.ep D).1.po D else (((s.A9 D).1.ep D).1,0)):=by
  by_cases hv:(s.A9 D).2=1
  ·rw[Ag hv] at h2
   rw[Ag hv,Ag hv]
   exact Rs.Aab oe.le h2
  ·rw[Ai hv,Ai hv]
 unfold Rs.hdr
 dsimp only
 rw[Rs.V6 hs h0,Rs.Aaq ob.le h1,hP,Rs.KC op.le h3]
structure EvB where
 kind:Int
 at_:Int
 code:Int
 batch:Batch
structure FSt where
 ph:Nat
 buf:List UInt8
 first:Nat
 fed:Nat
 ended:Int
 ep:Int
 l:List Batch
 M:List AP
 want:BX
 foot:Nat
def evB(p:Nat)(b:Batch):EvB:=⟨1,p,0,b⟩
def Ep(at_ code:Int):EvB:=⟨4,at_,code,Dp⟩
inductive Tk where
 | wait
 | take (σ:FSt) (ev:List EvB)
 | bad (k f:Int)
def FM(D:List UInt8)(g:List UInt8→Int→Tk):Tk:=
 let F:=(⟨0,0,0⟩:Rs).frame D 2097152
 if F.1.k=1 then .wait else if F.1.k≠0 then .bad F.1.k F.1.f else g F.2 ((F.1.p:Int)-4-(F.2.length:Int))
def IU(σ:FSt)(P:List UInt8)(a:Int):Tk:=
 if P=[] then .bad 1 a
 else if P.headD 0=1 then
  let b:=Rs.batch P (Eb P) ⟨1,0,0⟩
  let e:=b.1.fin P.length
  if e.k≠0 then .bad e.k (wrap64 (e.f+a))
  else if σ.l.length=16 then .bad 2 0
  else if EU σ.ep (Ce σ.l σ.l.length) b.2.1=true then .take {σ with l:=σ.l++[b.2.1],M:=σ.M++[⟨b.2.1.base,b.2.1.entries.length,σ.first⟩]} [evB σ.first b.2.1]
  else .bad 13 0
 else if P.headD 0=2 then
  let m:=(⟨1,0,0⟩:Rs).Cr P
  let e:=m.1.fin P.length
  if e.k≠0 then .bad e.k (wrap64 (e.f+a))
  else if m.2≠σ.M then .bad 12 0
  else .take {σ with ph:=2,want:=DE σ.ep σ.M σ.first σ.buf.length} []
 else .bad 7 a
def Mk(σ:FSt)(P:List UInt8)(a:Int):Tk:=
 let f:=Gb P
 if f.2.1≠0 then .bad f.2.1 (wrap64 (f.2.2+a))
 else if f.1≠σ.want then .bad 12 0
 else .take {σ with ph:=3,foot:=σ.buf.length} []
def Bm(σ:FSt):Tk:=
 if σ.ph=0 then
  let h:=(⟨0,0,0⟩:Rs).hdr σ.buf
  if h.1.k=1 then .wait else if h.1.k≠0 then .bad h.1.k h.1.f else if h.2.1=3 then .take {σ with ph:=1,ep:=(h.2.2.1:Int)} [] else .bad 8 4
 else if σ.ph=1 then FM σ.buf (IU σ)
 else if σ.ph=2 then FM σ.buf (Mk σ)
 else if σ.ph=3 then (if σ.buf.length<12 then .wait else if σ.buf=CY σ.foot then .take {σ with ph:=4} [] else .bad 12 0)
 else .bad 9 0
def Fu(σ:FSt):FSt × List EvB:=
 match Bm σ with
 | .wait=>(σ,[])
 | .take τ ev=>({τ with first:=σ.fed,buf:=[]},ev)
 | .bad k f=>({σ with ended:=4,buf:=[]},[Ep (wrap64 (f+(σ.first:Int))) k])
def ER(σ:FSt)(b:UInt8):FSt × List EvB:=Fu {σ with buf:=σ.buf++[b],fed:=σ.fed+1}
def Bh(σ:FSt):List UInt8→FSt × List EvB
 | []=>(σ,[])
 | b::l=>if (ER σ b).1.ended=0 then ((Bh (ER σ b).1 l).1,(ER σ b).2++(Bh (ER σ b).1 l).2) else ER σ b
theorem Ft(σ:FSt)(b:UInt8)(l:List UInt8):Bh σ (b::l)=(if (ER σ b).1.ended=0 then ((Bh (ER σ b).1 l).1,(ER σ b).2++(Bh (ER σ b).1 l).2) else ER σ b):=rfl
theorem LH(σ:FSt):Bh σ []=(σ,[]):=rfl
theorem LI:∀(σ:FSt) (l r:List UInt8),σ.ended=0→Bh σ (l++r)=(if (Bh σ l).1.ended=0 then ((Bh (Bh σ l).1 r).1,(Bh σ l).2++(Bh (Bh σ l).1 r).2) else Bh σ l)
 | σ,[],r,h0=>by
  rw[AG,LH,Ag h0]
  rfl
 | σ,b::l,r,h0=>by
  rw[DV,Ft,Ft]
  by_cases h:(ER σ b).1.ended=0
  ·have ih:=LI (ER σ b).1 l r h
   rw[Ag h,Ag h,ih]
   dsimp only
   by_cases h2:(Bh (ER σ b).1 l).1.ended=0
   ·rw[Ag h2,Ag h2]
    dsimp only
    rw[Au]
   ·rw[Ai h2,Ai h2]
  ·rw[Ai h,Ai h,Ai h]
def FSt.hold(σ:FSt)(E:List UInt8):FSt:={σ with buf:=σ.buf++E,fed:=σ.fed+E.length}
theorem FSt.W4(σ:FSt):σ.hold []=σ:=by
 unfold FSt.hold
 rw[Bu]
 rfl
theorem FSt.LC(σ:FSt)(E G:List UInt8):(σ.hold E).hold G=σ.hold (E++G):=by
 unfold FSt.hold
 dsimp only
 rw[Au,Al,Cl]
theorem JI(σ:FSt)(b:UInt8):ER σ b=Fu (σ.hold [b]):=rfl
theorem Gc:∀(D:List UInt8) (σ:FSt),σ.ended=0→(∀j,0<j→j≤D.length→Bm (σ.hold (D.take j))=.wait)→Bh σ D=(σ.hold D,[])
 | [],σ,h0,h=>by
  rw[LH,FSt.W4]
 | b::l,σ,h0,h=>by
  have h1:=h 1 zL zM
  rw[DH,Ig] at h1
  have e1:ER σ b=(σ.hold [b],[]):=by
   rw[JI]
   unfold Fu
   rw[h1]
  have e0:(σ.hold [b]).ended=0:=h0
  have ih:=Gc l (σ.hold [b]) e0 (fun j hj hl=>by
   have:=h (j+1) zC zI
   rw[DH] at this
   rw[FSt.LC]
   exact this)
  rw[Ft,e1]
  dsimp only
  rw[Ag e0,ih,FSt.LC]
  rfl
theorem K0{σ:FSt}{j:Nat}(h0:σ.ended=0)(hj:0<j)(hl:j≤D.length)(h:∀i,0<i→i<j→Bm (σ.hold (D.take i))=.wait):
  Bh σ D=(if (Fu (σ.hold (D.take j))).1.ended=0 then ((Bh (Fu (σ.hold (D.take j))).1 (D.drop j)).1,(Fu (σ.hold (D.take j))).2++(Bh (Fu (σ.hold (D.take j))).1 (D.drop j)).2) else Fu (σ.hold (D.take j))):=by
 obtain⟨i,rfl⟩:∃i,j=i+1:=⟨j-1,zC⟩
 have hi:i<D.length:=zC
 have e1:D=D.take i++(D[i]::D.drop (i+1)):=by
  rw[List.getElem_cons_drop,Bn]
 have e2:D.take (i+1)=D.take i++[D[i]]:=(List.take_append_getElem hi).symm
 have hq:=Gc (D.take i) σ h0 (fun k hk hkl=>by
  have hlt:k<i+1:=by rw[E8] at hkl;omega
  rw[List.take_take,show min k i=k by omega]
  exact h k hk hlt)
 have ha:=LI σ (D.take i) (D[i]::D.drop (i+1)) h0
 have e0:(σ.hold (D.take i)).ended=0:=h0
 rw[←e1,hq] at ha
 dsimp only at ha
 rw[Ag e0,AG] at ha
 rw[ha,Ft,JI,FSt.LC,←e2]
section
variable {B:List UInt8} {s:Rs}
theorem Rs.Vi(h:s.fit B.length):(s.links B pos).1.fit B.length:=Rs.Nn _ _ _ _ (Rs.EW h)
theorem Rs.Pu{most:Int}(h:s.fit B.length):(s.Cq B pos most).1.fit B.length:=by
 unfold Rs.Cq
 split<;>exact Rs.EW (Rs.Vi h)
theorem Rs.Pa:∀(n:Nat) (s:Rs) (pos left:Int) (out:List (List Be × Nat)),s.fit B.length→(Rs.Dt B n s pos left out).1.fit B.length
 | 0,s,pos,left,out,h=>h
 | n+1,s,pos,left,out,h=>by
  simp only[Rs.Dt]
  split
  ·exact Rs.Pa n _ _ _ _ (Rs.Pu h)
  ·exact Rs.Pu h
theorem Rs.T5(h:s.fit B.length):(s.Cf B).1.fit B.length:=by
 have h2:=Rs.WC (Rs.TQ h)
 have h3:=Rs.EW (m:=16) h2
 unfold Rs.Cf
 dsimp only
 split
 ·exact h3
 ·exact Rs.C4 h3 h2 zC
theorem Rs.V7{blk:Rs→Rs × List UInt8 × Bool}(hb:∀t:Rs,t.fit B.length→(blk t).1.fit B.length)(h:s.fit B.length):(Rs.batch B blk s).1.fit B.length:=by
 have h2:=Rs.T5 h
 have h3:=Rs.Pa (s.Cf B).2.2.2 (s.Cf B).1 ((s.Cf B).2.2.1:Int) 1048576 [] h2
 have h4:(Rs.II blk (Rs.Dt B (s.Cf B).2.2.2 (s.Cf B).1 ((s.Cf B).2.2.1:Int) 1048576 [])).1.fit B.length:=by
  unfold Rs.II
  dsimp only
  split
  ·exact hb _ h3
  ·exact Rs.C4 (hb _ h3) h3 zC
 unfold Rs.batch
 dsimp only
 split
 ·split
  ·exact h4
  ·exact h4
 ·exact h2
end
def Rs.one(L:Nat)(s:Rs):Prop:=s.k=1→s.f=L
section
variable {D:List UInt8} {s:Rs}
theorem Rs.Gq{c a:Int}(h:s.one L)(hc:c≠1):(s.fail c a).one L:=by
 unfold Rs.fail
 split
 ·exact fun e=>absurd e hc
 ·exact h
theorem Rs.PZ(h:s.one D.length):(s.num D).1.one D.length:=by
 unfold Rs.num
 split
 ·intro e
  dsimp only at e ⊢
  rw[Ai zC,Ag e]
 ·exact h
theorem Rs.Yj(h:s.one D.length):(s.int D m).1.one D.length:=by
 have hn:=Rs.PZ h
 unfold Rs.int Rs.most
 split
 ·split
  ·exact Rs.Gq hn zL
  ·exact hn
 ·exact Rs.Gq hn zL
theorem Rs.QR{n:Int}(h:s.one L):(s.skip L n).2.one L:=by
 unfold Rs.skip
 split
 ·split
  ·exact fun e=>absurd (show (17:Int)=1 from e) zL
  ·split
   ·exact fun _=>rfl
   ·exact fun e=>absurd (show (0:Int)=1 from e) zL
 ·exact h
theorem Rs.take_one{n:Int}(h:s.one D.length):(s.take D n).1.one D.length:=Rs.QR h
theorem Rs.Si(h:s.one D.length):(s.byte D).1.one D.length:=Rs.QR h
theorem Rs.Vs(h:s.one D.length):(s.frame D m).1.one D.length:=by
 have h1:=Rs.take_one (n:=4) (Rs.take_one (n:=((s.int D (min m 2097152)).2:Int)) (Rs.Yj (m:=min m 2097152) h))
 unfold Rs.frame Rs.Ct
 dsimp only
 split
 ·exact h1
 ·exact Rs.Gq h1 zL
theorem Rs.Aap(h:s.one D.length):(s.ep D).1.one D.length:=by
 have hn:=Rs.PZ h
 unfold Rs.ep
 split
 ·split
  ·exact hn
  ·exact Rs.Gq hn zL
 ·exact hn
theorem Rs.Aaa(h:s.one D.length):(s.po D).1.one D.length:=by
 have hn:=Rs.PZ h
 unfold Rs.po
 split
 ·split
  ·exact hn
  ·exact Rs.Gq hn zL
 ·exact hn
theorem Rs.Yo(h:s.one D.length):(s.hdr D).1.one D.length:=by
 have h0:(s.A9 D).1.one D.length:=by
  have ht:=Rs.take_one (n:=4) h
  have h0:(if (s.take D 4).2=[84,72,79,76] then (s.take D 4).1 else (s.take D 4).1.fail 14 s.p).one D.length:=by
   split
   ·exact ht
   ·exact Rs.Gq ht zL
  unfold Rs.A9
  dsimp only
  generalize (if (s.take D 4).2=[84,72,79,76] then (s.take D 4).1 else (s.take D 4).1.fail 14 s.p)=u at*
  split
  ·exact Rs.Si h0
  ·exact Rs.Gq (Rs.Si h0) zL
 have he:=Rs.Aap h0
 have hp:(if (s.A9 D).2=1 then ((s.A9 D).1.ep D).1.po D else (((s.A9 D).1.ep D).1,0)).1.one D.length:=by
  split
  ·exact Rs.Aaa he
  ·exact he
 unfold Rs.hdr
 dsimp only
 generalize (if (s.A9 D).2=1 then ((s.A9 D).1.ep D).1.po D else (((s.A9 D).1.ep D).1,0))=b at*
 have ht:=Rs.take_one (n:=4) hp
 split
 ·split
  ·exact ht
  ·exact Rs.Gq ht zL
 ·exact ht
end
theorem Mg(D:List UInt8):(((⟨0,0,0⟩:Rs).frame D 2097152).1.k=1∧((⟨0,0,0⟩:Rs).frame D 2097152).1.f=D.length∧∀j,((⟨0,0,0⟩:Rs).frame (D.take j) 2097152).1.k=1)∨
  ∃j,0<j∧j≤D.length∧(∀i,i<j→((⟨0,0,0⟩:Rs).frame (D.take i) 2097152).1.k=1)∧(⟨0,0,0⟩:Rs).frame (D.take j) 2097152=(⟨0,0,0⟩:Rs).frame D 2097152∧((⟨0,0,0⟩:Rs).frame D 2097152).1.k≠1∧
   (((⟨0,0,0⟩:Rs).frame D 2097152).1.k=0→((⟨0,0,0⟩:Rs).frame D 2097152).1.p=j∧D.take j=BJ ((⟨0,0,0⟩:Rs).frame D 2097152).2∧((⟨0,0,0⟩:Rs).frame D 2097152).2.length≤2097152):=by
 have ok0:∀L:Nat,(⟨0,0,0⟩:Rs).ok L:=fun L=>⟨Ar _,fun _=>rfl⟩
 have happ:∀j,((⟨0,0,0⟩:Rs).frame (D.take j) 2097152).1.k≠1→(⟨0,0,0⟩:Rs).frame (D.take j) 2097152=(⟨0,0,0⟩:Rs).frame D 2097152:=fun j h=>by
  have:=Rs.Vu (E:=D.drop j) (ok0 _) h
  rw[Bn] at this
  exact this.symm
 by_cases hk:((⟨0,0,0⟩:Rs).frame D 2097152).1.k=1
 ·refine .inl ⟨hk,Rs.Vs (fun e=>absurd (show (0:Int)=1 from e) zL) hk,fun j=> ?_⟩
  by_cases h:((⟨0,0,0⟩:Rs).frame (D.take j) 2097152).1.k=1
  ·exact h
  ·rw[happ j h]
   exact hk
 ·obtain⟨j,g1,g2,g3⟩:=least (fun j=>¬((⟨0,0,0⟩:Rs).frame (D.take j) 2097152).1.k=1) D.length (by
   show ¬((⟨0,0,0⟩:Rs).frame (D.take D.length) 2097152).1.k=1
   rw[Bp (As _)]
   exact hk)
  have e:=happ j g2
  have g3':∀i,i<j→((⟨0,0,0⟩:Rs).frame (D.take i) 2097152).1.k=1:=fun i hi=>Decidable.of_not_not (g3 i hi)
  have hnil:((⟨0,0,0⟩:Rs).frame [] 2097152).1.k=1:=zF
  have hj:0<j:=Nat.pos_of_ne_zero (fun e0=>g2 (by rw[e0,Ig];exact hnil))
  refine .inr ⟨j,hj,g1,g3',e,hk,fun h0=> ?_⟩
  have hjl:(D.take j).length=j:=ZB
  have hc:=Rs.Jk (B:=D.take j) (Rs.FC _) (P:=((⟨0,0,0⟩:Rs).frame D 2097152).2) (t:=((⟨0,0,0⟩:Rs).frame D 2097152).1) e h0
  generalize (⟨0,0,0⟩:Rs).frame D 2097152=F at*
  obtain⟨u,P⟩:=F
  dsimp only at*
  obtain⟨c1,c2,c3,c4,_⟩:=hc
  rw[De] at c1
  rw[A7] at c2
  rw[hjl] at c4
  by_cases hlt:u.p<j
  ·have hs:=g3' u.p hlt
   have ht:D.take u.p=BJ P:=by
    have:=A3 (List.take u.p) c1
    rw[List.take_take,show min u.p j=u.p by omega,c2,List.take_left' rfl] at this
    rw[c2]
    exact this
   have hput:=Rs.GK (B:=BJ P) (P:=P) (rest:=[]) (p:=0) (by rw[De,Bu]) (Ar _) c3
   rw[ht,hput] at hs
   exact absurd (show (0:Int)=1 from hs) zL
  ·have hpj:u.p=j:=by omega
   refine⟨hpj,?_,c3⟩
   have hd:(D.take j).drop u.p=[]:=GG zC
   rw[hd,Bu] at c1
   exact c1
theorem LW(x y:Int):wrap64 (wrap64 x+y)=wrap64 (x+y):=ZV
def EA(l:List Batch)(M:List AP):List EvB:=List.zipWith (fun b m=>(⟨1,m.at_,0,b⟩:EvB)) l M
theorem Ru{l:List Batch}{M:List AP}{b:Batch}{m:AP}(h:l.length=M.length):EA (l++[b]) (M++[m])=EA l M++[⟨1,m.at_,0,b⟩]:=by
 unfold EA
 rw[List.zipWith_append h]
 rfl
def OD(S:List UInt8)(z:Rs):List EvB:=if z.k=0∨(z.k=1∧z.f=S.length) then [] else [Ep z.f z.k]
theorem PC{S:List UInt8}(h:z.k=0):OD S z=[]:=Ag (.inl h)
theorem Lg{S:List UInt8}(h:z.sh S.length):OD S z=[]:=Ag (.inr ⟨h.code,h.pl⟩)
theorem Lh{S:List UInt8}(h0:z.k≠0)(h1:z.k=1→z.f≠S.length):OD S z=[Ep z.f z.k]:=by
 unfold OD
 rw[Ai]
 rintro (h | ⟨h,h2⟩)
 ·exact h0 h
 ·exact h1 h h2
def FSt.whole(τ:FSt):Prop:=0<τ.foot∧τ.buf=[]∧(τ.fed:Int)=τ.want.at_+τ.want.size+τ.foot+12
structure JE(S:List UInt8)(z:Rs)(τ:FSt):Prop where
 good:z.k=0→τ.ended=0∧τ.fed=S.length∧τ.whole
 short:z.k=1→z.f=S.length→τ.ended=0∧τ.fed=S.length∧¬τ.whole
 bad:z.k≠0→(z.k=1→z.f≠S.length)→τ.ended=4∧τ.buf=[]∧τ.fed≤S.length
theorem JE.S5{S:List UInt8}{τ:FSt}(h0:z.k≠0)(h1:z.k=1→z.f≠S.length)(h:τ.ended=4∧τ.buf=[]∧τ.fed≤S.length):JE S z τ:=⟨fun e=>absurd e h0,fun e e2=>absurd e2 (h1 e),fun _ _=>h⟩
theorem JE.Ul{S:List UInt8}{τ:FSt}(hz:z.sh S.length)(h:τ.ended=0∧τ.fed=S.length∧¬τ.whole):JE S z τ:=⟨fun e=>absurd e hz.GP,fun _ _=>h,fun _ h1=>absurd hz.pl (h1 hz.code)⟩
structure AtF(σ:FSt)(ph p:Nat):Prop where
 ph:σ.ph=ph
 buf:σ.buf=[]
 first:σ.first=p
 fed:σ.fed=p
 on:σ.ended=0
theorem AtF.Xb{σ:FSt}{ph:Nat}(h:AtF σ ph p)(E:List UInt8):(σ.hold E).buf=E:=by
 unfold FSt.hold
 dsimp only
 rw[h.buf,AG]
theorem AtF.Ib{σ:FSt}{ph:Nat}(h:AtF σ ph p)(E:List UInt8):(σ.hold E).fed=p+E.length:=by
 unfold FSt.hold
 dsimp only
 rw[h.fed]
def Xs(S:List UInt8)(p foot:Nat):Rs:=(if ((⟨p,0,0⟩:Rs).take S 12).2=CY foot then ((⟨p,0,0⟩:Rs).take S 12).1 else ((⟨p,0,0⟩:Rs).take S 12).1.fail 12 p).fin S.length
theorem Aao{f:Nat}(h:f=p+12)(h2:¬n=p+12)(h3:¬n-p<12)(h4:p≤n):f+1≤n:=zC
theorem U8{τ:FSt}(h:τ.ph=4):Bm τ=.bad 9 0:=by
 unfold Bm
 rw[h,Ai zL,Ai zL,Ai zL,Ai zL]
theorem WL{τ:FSt}{x:UInt8}(h:τ.ph=4):ER τ x=({τ.hold [x] with ended:=4,buf:=[]},[Ep (wrap64 (0+(τ.first:Int))) 9]):=by
 have hn:Bm (τ.hold [x])=.bad 9 0:=U8 h
 rw[JI]
 unfold Fu
 rw[hn]
 rfl
theorem Ty(S:List UInt8)(hS:S.length≤1000000000){σ:FSt}{p:Nat}(h:AtF σ 3 p)(hp:p≤S.length)(hf:0<σ.foot)(hw:(p:Int)=σ.want.at_+σ.want.size+σ.foot):
  (Bh σ (S.drop p)).2=OD S (Xs S p σ.foot)∧JE S (Xs S p σ.foot) (Bh σ (S.drop p)).1:=by
 have hDl:(S.drop p).length=S.length-p:=CA
 have hnx:∀E:List UInt8,Bm (σ.hold E)=(if E.length<12 then .wait else if E=CY σ.foot then .take {σ.hold E with ph:=4,buf:=E} [] else .bad 12 0):=fun E=>by
  have h3:(σ.hold E).ph=3:=h.ph
  have h4:(σ.hold E).foot=σ.foot:=rfl
  unfold Bm
  rw[h3,Ai zL,Ai zL,Ai zL,Ag rfl,h.Xb,h4]
  rfl
 have hdd:(S.drop p).drop 12=S.drop (p+12):=Fm
 by_cases hl:S.length-p<12
 ·have hs:((⟨p,0,0⟩:Rs).take S 12).1.sh S.length:=by
   unfold Rs.take Rs.skip
   rw[Ag rfl,Ai zL,Ag zH]
   exact⟨rfl,rfl⟩
  have hz:(Xs S p σ.foot).sh S.length:=by
   have hne:¬([]:List UInt8)=CY σ.foot:=fun e=>by
    have:=A3 List.length e
    rw[D5,AZ] at this
    omega
   unfold Xs
   rw[Rs.KB hs.GP,Ai hne,Rs.Bt hs.GP]
   exact Rs.Y4 hs
  rw[Gc (S.drop p) σ h.on (fun j _ hj=>by
   rw[hnx,Ag ZB]),Lg hz]
  refine⟨rfl,JE.Ul hz ⟨h.on,?_,?_⟩⟩
  ·rw[h.Ib,hDl]
   omega
  ·intro hwh
   have e:=hwh.2.2
   rw[h.Ib,hDl] at e
   have e2:(σ.hold (S.drop p)).want=σ.want:=rfl
   have e3:(σ.hold (S.drop p)).foot=σ.foot:=rfl
   rw[e2,e3] at e
   omega
 ·have ht:(⟨p,0,0⟩:Rs).take S 12=(⟨p+12,0,0⟩,(S.drop p).take 12):=by
   unfold Rs.take Rs.skip
   rw[Ag rfl,Ai zL,Ai zH]
   rfl
  have h12:((S.drop p).take 12).length=12:=ZB
  rw[K0 (j:=12) h.on zL zC (fun i _ hi=>by
   rw[hnx,Ag ZB])]
  unfold Xs
  rw[ht,hdd]
  dsimp only
  generalize (S.drop p).take 12=T at*
  have hv:Fu (σ.hold T)=(if T=CY σ.foot then ({{σ.hold T with ph:=4,buf:=T} with first:=p+12,buf:=[]},[]) else ({σ.hold T with ended:=4,buf:=[]},[Ep (wrap64 (0+(p:Int))) 12])):=by
   have hfd:(σ.hold T).fed=p+12:=by rw[h.Ib,h12]
   have hft:(σ.hold T).first=p:=h.first
   unfold Fu
   rw[hnx,Ai zC]
   by_cases hT:T=CY σ.foot
   ·rw[Ag hT,Ag hT,hfd]
   ·rw[Ai hT,Ai hT]
    dsimp only
    rw[hft]
  rw[hv]
  by_cases hT:T=CY σ.foot
  ·rw[Ag hT,Ag hT]
   dsimp only
   have hon:({{σ.hold T with ph:=4} with first:=p+12,buf:=[]}:FSt).ended=0:=h.on
   have hfd2:(σ.hold T).fed=p+12:=by rw[h.Ib,h12]
   rw[Ag hon]
   by_cases hr:S.length=p+12
   ·have hd:S.drop (p+12)=[]:=GG zC
    have hfin:(⟨p+12,0,0⟩:Rs).fin S.length=⟨p+12,0,0⟩:=by
     unfold Rs.fin
     rw[Ai zH]
    rw[hd,LH,hfin,PC rfl]
    refine⟨rfl,⟨fun _=>⟨hon,?_,hf,rfl,?_⟩,fun e=>absurd (show (0:Int)=1 from e) zL,fun e=>absurd rfl e⟩⟩
    ·show (σ.hold T).fed=S.length
     omega
    ·show ((σ.hold T).fed:Int)=σ.want.at_+σ.want.size+σ.foot+12
     omega
   ·have hgt:(⟨p+12,0,0⟩:Rs).p<S.length:=by dsimp only;omega
    have hfin:(⟨p+12,0,0⟩:Rs).fin S.length=⟨p+12,9,((p+12:Nat):Int)⟩:=by
     unfold Rs.fin
     rw[Ag hgt]
     rfl
    rw[hfin]
    cases hd:S.drop (p+12) with
    | nil=>
     have:=A3 List.length hd
     rw[CA,AZ] at this
     omega
    | cons x l=>
     have ho:ER ({{σ.hold T with ph:=4} with first:=p+12,buf:=[]}:FSt) x=({({{σ.hold T with ph:=4} with first:=p+12,buf:=[]}:FSt).hold [x] with ended:=4,buf:=[]},[Ep (wrap64 (0+((p+12:Nat):Int))) 9]):=WL rfl
     have hw2:wrap64 (0+((p+12:Nat):Int))=((p+12:Nat):Int):=zBl
     rw[Ft,ho,hw2]
     dsimp only
     rw[Ai (show ¬(4:Int)=0 by decide),Lh (show (9:Int)≠0 by decide) (fun e=>absurd (show (9:Int)=1 from e) zL)]
     refine⟨rfl,JE.S5 (show (9:Int)≠0 by decide) (fun e=>absurd (show (9:Int)=1 from e) zL) ⟨rfl,rfl,?_⟩⟩
     show (σ.hold T).fed+1≤S.length
     exact Aao hfd2 hr hl hp
  ·rw[Ai hT,Ai hT]
   have hw2:wrap64 (0+(p:Int))=(p:Int):=zBl
   have hfl:(⟨p+12,0,0⟩:Rs).fail 12 p=⟨p+12,12,(p:Int)⟩:=rfl
   rw[hw2,hfl,Rs.MG (show (12:Int)≠0 by decide),Lh (show (12:Int)≠0 by decide) (fun e=>absurd (show (12:Int)=1 from e) zL)]
   dsimp only
   rw[Ai (show ¬(4:Int)=0 by decide)]
   refine⟨rfl,JE.S5 (show (12:Int)≠0 by decide) (fun e=>absurd (show (12:Int)=1 from e) zL) ⟨rfl,rfl,?_⟩⟩
   show (σ.hold T).fed≤S.length
   rw[h.Ib,h12]
   omega
theorem MS{σ:FSt}(h:Bm σ=.wait):Fu σ=(σ,[]):=by
 unfold Fu
 rw[h]
theorem Ij{σ τ:FSt}{ev:List EvB}(h:Bm σ=.take τ ev):Fu σ=({τ with first:=σ.fed,buf:=[]},ev):=by
 unfold Fu
 rw[h]
theorem Ll{σ:FSt}{k:Int}(h:Bm σ=.bad k f):Fu σ=({σ with ended:=4,buf:=[]},[Ep (wrap64 (f+(σ.first:Int))) k]):=by
 unfold Fu
 rw[h]
theorem Eg{S:List UInt8}{σ:FSt}{ph p j:Nat}{k:Int}(h:AtF σ ph p)(hj:0<j)(hl:j≤D.length)(hlS:p+j≤S.length)(hw:∀i,0<i→i<j→Bm (σ.hold (D.take i))=.wait)(hb:Bm (σ.hold (D.take j))=.bad k f)
 (hk:k≠0) (hzk:z.k=k) (hzf:z.f=wrap64 (f+(p:Int))) (hne:k=1→z.f≠S.length):
  (Bh σ D).2=OD S z∧JE S z (Bh σ D).1:=by
 have hv:=Ll hb
 have hf:(σ.hold (D.take j)).first=p:=h.first
 rw[hf,←hzf] at hv
 have hne':z.k=1→z.f≠S.length:=fun e=>hne (by rw[←hzk];exact e)
 have hk':z.k≠0:=by rw[hzk];exact hk
 rw[K0 h.on hj hl hw,hv]
 dsimp only
 rw[Ai (show ¬(4:Int)=0 by decide),Lh hk' hne',hzk]
 refine⟨rfl,JE.S5 hk' hne' ⟨rfl,rfl,?_⟩⟩
 show (σ.hold (D.take j)).fed≤S.length
 rw[h.Ib,E8,Nat.min_eq_left hl]
 exact hlS
theorem Hj{g:List UInt8→Int→Tk}(h:((⟨0,0,0⟩:Rs).frame D 2097152).1.k=1):FM D g=.wait:=by
 unfold FM
 dsimp only
 rw[Ag h]
theorem ND{g:List UInt8→Int→Tk}{F:Rs × List UInt8}(hF:(⟨0,0,0⟩:Rs).frame D 2097152=F)(h1:F.1.k≠1)(h0:F.1.k≠0):FM D g=.bad F.1.k F.1.f:=by
 unfold FM
 rw[hF]
 dsimp only
 rw[Ai h1,Ag h0]
theorem Mj{g:List UInt8→Int→Tk}{F:Rs × List UInt8}(hF:(⟨0,0,0⟩:Rs).frame D 2097152=F)(h0:F.1.k=0):FM D g=g F.2 ((F.1.p:Int)-4-(F.2.length:Int)):=by
 unfold FM
 rw[hF]
 dsimp only
 rw[Ai zC,Ai (fun h=>h h0)]
theorem YP{S:List UInt8}{F:Rs}(hp:p≤S.length)(hk:F.k=1)(hf:F.f=(S.drop p).length):(F.up p).sh S.length:=by
 refine⟨hk,?_⟩
 unfold Rs.up
 dsimp only
 rw[Ai zC,hf,CA]
 omega
theorem VE(S:List UInt8)(hS:S.length≤1000000000){σ:FSt}{p first:Nat}{M:List AP}(h:AtF σ 2 p)(hp:p≤S.length)(hf0:σ.foot=0)(hW:σ.want=DE σ.ep M first ((p:Int)-first)):
  (Bh σ (S.drop p)).2=OD S (Kb S ⟨p,0,0⟩ first σ.ep M)∧JE S (Kb S ⟨p,0,0⟩ first σ.ep M) (Bh σ (S.drop p)).1:=by
 have hDl:(S.drop p).length=S.length-p:=CA
 have hnx:∀E:List UInt8,Bm (σ.hold E)=FM E (Mk (σ.hold E)):=fun E=>by
  have h3:(σ.hold E).ph=2:=h.ph
  unfold Bm
  rw[h3,Ai zL,Ai zL,Ag rfl,h.Xb]
 have hat:=RA hp
 have hfit:=Rs.Ga (Rs.FC (S.drop p).length) 2097152
 have hdd:∀j,(S.drop p).drop j=S.drop (p+j):=fun j=>Fm
 have hcomes:=Mg (S.drop p)
 unfold Kb
 rw[hat]
 dsimp only
 rw[Rs.UJ]
 generalize hD:S.drop p=D at*
 generalize hF:(⟨0,0,0⟩:Rs).frame D 2097152=F at*
 obtain⟨u,P⟩:=F
 dsimp only at*
 rcases hcomes with ⟨c1,c2,c3⟩ | ⟨j,j1,j2,j3,j4,j5,j6⟩
 ·have hz:(u.up p).sh S.length:=YP hp c1 (by rw[hD];exact c2)
  rw[Ai zC,Gc D σ h.on (fun i _ _=>by rw[hnx,Hj (c3 i)]),Lg hz]
  refine⟨rfl,JE.Ul hz ⟨h.on,?_,?_⟩⟩
  ·rw[h.Ib,hDl]
   omega
  ·intro hwh
   have e:0<σ.foot:=hwh.1
   omega
 ·have hwt:∀i,0<i→i<j→Bm (σ.hold (D.take i))=.wait:=fun i _ hi=>by rw[hnx,Hj (j3 i hi)]
  have hjS:p+j≤S.length:=zC
  by_cases hk:u.k=0
  ·rw[Ag hk]
   obtain⟨k1,k2,k3⟩:=j6 hk
   have hjl:(D.take j).length=j:=ZB
   have hPl:P.length+4<j:=by
    have h1:=A3 List.length k2
    rw[hjl,Dk,Dy] at h1
    have h2:=(A1 P.length).2
    omega
   have hnj:Bm (σ.hold (D.take j))=Mk (σ.hold (D.take j)) P ((j:Int)-4-(P.length:Int)):=by
    rw[hnx,Mj j4 hk]
    dsimp only
    rw[k1]
   have hup:u.up p=⟨p+j,0,0⟩:=by
    unfold Rs.up
    rw[k1,hk,Ag rfl]
   have hin:=Vw P
   unfold Mk at hnj
   rw[hup]
   generalize Gb P=f at*
   obtain⟨f,fk,ff⟩:=f
   dsimp only at*
   by_cases hfk:fk=0
   ·rw[Ai (fun hh=>hh hfk)] at hnj
    have hwant:(σ.hold (D.take j)).want=DE σ.ep M first ((p:Int)-first):=hW
    subst hfk
    rw[Rs.DA]
    by_cases hfw:f=DE σ.ep M first ((p:Int)-first)
    ·rw[Ai (fun hh=>hh (hfw.trans hwant.symm))] at hnj
     have hv:=Ij hnj
     have Ib:(σ.hold (D.take j)).fed=p+j:=by rw[h.Ib,hjl]
     have hbl:(σ.hold (D.take j)).buf.length=j:=by rw[h.Xb,hjl]
     rw[Ib,hbl] at hv
     have hA:AtF ({{σ.hold (D.take j) with ph:=3,foot:=j} with first:=p+j,buf:=[],fed:=p+j}:FSt) 3 (p+j):=⟨rfl,rfl,rfl,rfl,h.on⟩
     have hw2:((p+j:Nat):Int)=σ.want.at_+σ.want.size+(j:Int):=by
      rw[hW]
      show ((p+j:Nat):Int)=(first:Int)+((p:Int)-first)+(j:Int)
      omega
     have ht:=Ty S hS hA hjS j1 hw2
     rw[Ag hfw]
     dsimp only
     rw[show p+j-p=j by omega,K0 h.on j1 j2 hwt,hv,hdd]
     dsimp only
     have hon:({{σ.hold (D.take j) with ph:=3,foot:=j} with first:=p+j,buf:=[],fed:=p+j}:FSt).ended=0:=h.on
     rw[Ag hon,AG]
     exact ht
    ·rw[Ag (fun hh=>hfw (hh.trans hwant))] at hnj
     rw[Ai hfw]
     have hw3:(p:Int)=wrap64 (0+(p:Int)):=by
      rw[Int.zero_add,El zC zC]
     have hfl:(⟨p+j,0,0⟩:Rs).fail 12 p=⟨p+j,12,(p:Int)⟩:=rfl
     rw[hfl,Rs.DX (show (12:Int)≠0 by decide)]
     dsimp only
     have hne:¬([]:List UInt8)=CY (p+j-p):=fun e=>by
      have:=A3 List.length e
      rw[D5,AZ] at this
      omega
     rw[Ai hne,Rs.Bt (show (12:Int)≠0 by decide),Rs.MG (show (12:Int)≠0 by decide)]
     exact Eg h j1 j2 hjS hwt hnj zL rfl hw3 (fun e=>absurd e zL)
   ·rw[Ag hfk] at hnj
    have hws:(⟨p+j,0,0⟩:Rs).within fk ff (((p+j:Nat):Int)-4-(P.length:Int))=⟨p+j,fk,wrap64 (ff+(((p+j:Nat):Int)-4-(P.length:Int)))⟩:=by
     unfold Rs.within
     rw[Ai hfk]
     rfl
    rw[hws]
    have hz:(if f=DE σ.ep M first ((p:Int)-first) then (⟨p+j,fk,wrap64 (ff+(((p+j:Nat):Int)-4-(P.length:Int)))⟩:Rs) else (⟨p+j,fk,wrap64 (ff+(((p+j:Nat):Int)-4-(P.length:Int)))⟩:Rs).fail 12 p)=⟨p+j,fk,wrap64 (ff+(((p+j:Nat):Int)-4-(P.length:Int)))⟩:=by
     split
     ·rfl
     ·exact Rs.Bt hfk
    rw[hz,Rs.DX (show (⟨p+j,fk,wrap64 (ff+(((p+j:Nat):Int)-4-(P.length:Int)))⟩:Rs).k≠0 from hfk)]
    dsimp only
    have hne:¬([]:List UInt8)=CY (p+j-p):=fun e=>by
     have:=A3 List.length e
     rw[D5,AZ] at this
     omega
    rw[Ai hne,Rs.Bt (show (⟨p+j,fk,wrap64 (ff+(((p+j:Nat):Int)-4-(P.length:Int)))⟩:Rs).k≠0 from hfk),Rs.MG (show (⟨p+j,fk,wrap64 (ff+(((p+j:Nat):Int)-4-(P.length:Int)))⟩:Rs).k≠0 from hfk)]
    refine Eg h j1 j2 hjS hwt hnj hfk rfl ?_ (fun _=> ?_)
    ·rw[LW]
     dsimp only
     congr 1
     omega
    ·dsimp only
     rw[El zC zC]
     omega
  ·rw[Ai hk]
   have hin:=hfit.inn
   have hzf:(u.up p).f=wrap64 (u.f+(p:Int)):=by
    obtain⟨i1,i2⟩:=hin
    rw[El zC zC]
    unfold Rs.up
    dsimp only
    rw[Ai hk,Int.add_comm]
   exact Eg h j1 j2 hjS hwt (by rw[hnx,ND j4 j5 hk]) hk rfl hzf (fun e=>absurd e j5)
theorem LG{σ τ:FSt}{ev:List EvB}{ph j:Nat}(h:AtF σ ph p)(hj:0<j)(hl:j≤D.length)(hw:∀i,0<i→i<j→Bm (σ.hold (D.take i))=.wait)(hb:Bm (σ.hold (D.take j))=.take τ ev)(hon:τ.ended=0):
  Bh σ D=((Bh {τ with first:=p+j,buf:=[]} (D.drop j)).1,ev++(Bh {τ with first:=p+j,buf:=[]} (D.drop j)).2):=by
 have hv:=Ij hb
 have Ib:(σ.hold (D.take j)).fed=p+j:=by rw[h.Ib,E8,Nat.min_eq_left hl]
 rw[Ib] at hv
 have hon2:({τ with first:=p+j,buf:=[]}:FSt).ended=0:=hon
 rw[K0 h.on hj hl hw,hv]
 dsimp only
 rw[Ag hon]
theorem Lk(hp:p≤1000000000):(p:Int)=wrap64 (0+(p:Int)):=by
 rw[Int.zero_add,El zC zC]
theorem Fo{S:List UInt8}{ep:Int}{u:Rs}{x:Nat}{l:List Batch}{M:List AP}{q:Bool}(h:u.k≠0):L6 S ep (u,x,l,M,q)=u:=by
 unfold L6
 rw[Ai h]
theorem Xf(S:List UInt8)(hS:S.length≤1000000000)(n:Nat):∀(σ:FSt) (p:Nat) (q:Bool),AtF σ 1 p→p≤S.length→S.length-p<n→σ.foot=0→σ.l.length=σ.M.length→
  EA σ.l σ.M++(Bh σ (S.drop p)).2=EA (Dj S σ.ep bS n ⟨p,0,0⟩ σ.l σ.M q).2.2.1 (Dj S σ.ep bS n ⟨p,0,0⟩ σ.l σ.M q).2.2.2.1++OD S (L6 S σ.ep (Dj S σ.ep bS n ⟨p,0,0⟩ σ.l σ.M q))∧
  JE S (L6 S σ.ep (Dj S σ.ep bS n ⟨p,0,0⟩ σ.l σ.M q)) (Bh σ (S.drop p)).1:=by
 induction n with
 | zero=>exact fun σ p q h hp hn=>absurd hn (Nat.not_lt_zero _)
 | succ n ih=>
  intro σ p q h hp hn hf0 hlM
  have hDl:(S.drop p).length=S.length-p:=CA
  have hnx:∀E:List UInt8,Bm (σ.hold E)=FM E (IU (σ.hold E)):=fun E=>by
   have h3:(σ.hold E).ph=1:=h.ph
   unfold Bm
   rw[h3,Ai zL,Ag rfl,h.Xb]
  have hat:=RA hp
  have hfit:=Rs.Ga (Rs.FC (S.drop p).length) 2097152
  have hdd:∀j,(S.drop p).drop j=S.drop (p+j):=fun j=>Fm
  have hcomes:=Mg (S.drop p)
  rw[DY S σ.ep bS n ⟨p,0,0⟩ σ.l σ.M q hat]
  dsimp only
  rw[Rs.UJ]
  generalize hD:S.drop p=D at*
  generalize hF:(⟨0,0,0⟩:Rs).frame D 2097152=F at*
  obtain⟨u,P⟩:=F
  dsimp only at*
  rcases hcomes with ⟨c1,c2,c3⟩ | ⟨j,j1,j2,j3,j4,j5,j6⟩
  ·have hz:(u.up p).sh S.length:=YP hp c1 (by rw[hD];exact c2)
   rw[Ai zC,Fo hz.GP,Gc D σ h.on (fun i _ _=>by rw[hnx,Hj (c3 i)]),Lg hz]
   refine⟨rfl,JE.Ul hz ⟨h.on,?_,?_⟩⟩
   ·rw[h.Ib,hDl]
    omega
   ·intro hwh
    have e:0<σ.foot:=hwh.1
    omega
  ·have hwt:∀i,0<i→i<j→Bm (σ.hold (D.take i))=.wait:=fun i _ hi=>by rw[hnx,Hj (j3 i hi)]
   have hjS:p+j≤S.length:=zC
   by_cases hk:u.k=0
   ·rw[Ag hk]
    obtain⟨k1,k2,k3⟩:=j6 hk
    have hjl:(D.take j).length=j:=ZB
    have hPl:P.length+4<j:=by
     have h1:=A3 List.length k2
     rw[hjl,Dk,Dy] at h1
     have h2:=(A1 P.length).2
     omega
    have hnj:Bm (σ.hold (D.take j))=IU (σ.hold (D.take j)) P ((j:Int)-4-(P.length:Int)):=by
     rw[hnx,Mj j4 hk]
     dsimp only
     rw[k1]
    have hup:u.up p=⟨p+j,0,0⟩:=by
     unfold Rs.up
     rw[k1,hk,Ag rfl]
    have hsl:(σ.hold (D.take j)).l=σ.l:=rfl
    have hsM:(σ.hold (D.take j)).M=σ.M:=rfl
    have hse:(σ.hold (D.take j)).ep=σ.ep:=rfl
    have hsf:(σ.hold (D.take j)).first=p:=h.first
    have hsb:(σ.hold (D.take j)).buf.length=j:=by rw[h.Xb,hjl]
    have hp9:p≤1000000000:=zC
    rw[hup]
    unfold IU at hnj
    rw[hsl,hsM,hse,hsf,hsb] at hnj
    by_cases hP:P=[]
    ·rw[Ag hP] at hnj
     rw[Ag hP]
     have hP0:P.length=0:=by rw[hP];rfl
     have hfl:(⟨p+j,0,0⟩:Rs).fail 1 (((p+j:Nat):Int)-4-(P.length:Int))=⟨p+j,1,((p+j:Nat):Int)-4-(P.length:Int)⟩:=rfl
     rw[hfl,Fo (show (1:Int)≠0 by decide)]
     have hb:=Eg (z:=⟨p+j,1,((p+j:Nat):Int)-4-(P.length:Int)⟩) h j1 j2 hjS hwt hnj zL rfl (by
      show ((p+j:Nat):Int)-4-(P.length:Int)=_
      rw[El zC zC]
      omega) (fun _=>by
      show ((p+j:Nat):Int)-4-(P.length:Int)≠_
      omega)
     exact⟨zA3,hb.2⟩
    ·rw[Ai hP] at hnj
     rw[Ai hP]
     have hl1:1≤P.length:=List.length_pos_iff.2 hP
     have fit1:(⟨1,0,0⟩:Rs).fit P.length:=⟨⟨hl1,fun _=>rfl⟩,⟨Int.le_refl _,Int.natCast_nonneg _⟩⟩
     have hfaults:∀(e:Rs),e.fit P.length→e.k≠0→Bm (σ.hold (D.take j))=.bad e.k (wrap64 (e.f+((j:Int)-4-(P.length:Int))))→
       (Bh σ D).2=OD S ⟨p+j,e.k,wrap64 (e.f+(((p+j:Nat):Int)-4-(P.length:Int)))⟩∧JE S ⟨p+j,e.k,wrap64 (e.f+(((p+j:Nat):Int)-4-(P.length:Int)))⟩ (Bh σ D).1:=fun e he hek hne=>by
      obtain⟨i1,i2⟩:=he.inn
      refine Eg h j1 j2 hjS hwt hne hek rfl ?_ (fun _=> ?_)
      ·rw[LW]
       dsimp only
       congr 1
       omega
      ·dsimp only
       rw[El zC zC]
       omega
     have hws:∀(k f:Int),k≠0→(⟨p+j,0,0⟩:Rs).within k f (((p+j:Nat):Int)-4-(P.length:Int))=⟨p+j,k,wrap64 (f+(((p+j:Nat):Int)-4-(P.length:Int)))⟩:=fun k f hk=>by
      unfold Rs.within
      rw[Ai hk]
      rfl
     by_cases h1:P.headD 0=1
     ·rw[Ag h1] at hnj
      rw[Ag h1]
      have hbf:=Rs.Qr (Rs.V7 (blk:=Eb P) (fun t ht=>XC ht) fit1)
      generalize Rs.batch P (Eb P) ⟨1,0,0⟩=b at*
      obtain⟨bs,b,bq⟩:=b
      dsimp only at*
      by_cases he:(bs.fin P.length).k=0
      ·rw[Ai (fun hh=>hh he)] at hnj
       rw[he,Rs.DA,Ag rfl]
       by_cases h16:σ.l.length=16
       ·rw[Ag h16] at hnj
        rw[Ag h16]
        have hfl:(⟨p+j,0,0⟩:Rs).fail 2 p=⟨p+j,2,(p:Int)⟩:=rfl
        rw[hfl,Fo (show (2:Int)≠0 by decide)]
        have hb:=Eg (z:=⟨p+j,2,(p:Int)⟩) h j1 j2 hjS hwt hnj zL rfl (Lk hp9) (fun e=>absurd e zL)
        exact⟨zA3,hb.2⟩
       ·rw[Ai h16] at hnj
        rw[Ai h16]
        by_cases hm:EU σ.ep (Ce σ.l σ.l.length) b=true
        ·rw[Ag hm] at hnj
         rw[Ag hm]
         have ht:=LG h j1 j2 hwt hnj h.on
         rw[hdd] at ht
         have Ib:(σ.hold (D.take j)).fed=p+j:=by rw[h.Ib,hjl]
         have hIH:=ih ({({σ.hold (D.take j) with l:=σ.l++[b],M:=σ.M++[⟨b.base,b.entries.length,p⟩]}:FSt) with first:=p+j,buf:=[]}:FSt) (p+j) (q&&bq) ⟨h.ph,rfl,rfl,Ib,h.on⟩ hjS zC hf0 (by
          show (σ.l++[b]).length=(σ.M++[_]).length
          rw[Al,Al,hlM]
          rfl)
         rw[ht]
         have e1:EA (σ.l++[b]) (σ.M++[⟨b.base,b.entries.length,p⟩])=EA σ.l σ.M++[evB p b]:=Ru hlM
         refine⟨?_,hIH.2⟩
         rw[←Au,←e1]
         exact hIH.1
        ·rw[Ai hm] at hnj
         rw[Ai hm]
         have hfl:(⟨p+j,0,0⟩:Rs).fail 13 p=⟨p+j,13,(p:Int)⟩:=rfl
         rw[hfl,Fo (show (13:Int)≠0 by decide)]
         have hb:=Eg (z:=⟨p+j,13,(p:Int)⟩) h j1 j2 hjS hwt hnj zL rfl (Lk hp9) (fun e=>absurd e zL)
         exact⟨zA3,hb.2⟩
      ·rw[Ag he] at hnj
       rw[hws _ _ he,Ai he,Fo (show (⟨p+j,(bs.fin P.length).k,wrap64 ((bs.fin P.length).f+(((p+j:Nat):Int)-4-(P.length:Int)))⟩:Rs).k≠0 from he)]
       have hb:=hfaults _ hbf he hnj
       exact⟨zA3,hb.2⟩
     ·rw[Ai h1] at hnj
      rw[Ai h1]
      by_cases h2:P.headD 0=2
      ·rw[Ag h2] at hnj
       rw[Ag h2]
       have hmf:=Rs.Qr (Rs.Vc (B:=P) fit1)
       generalize (⟨1,0,0⟩:Rs).Cr P=m at*
       obtain⟨ms,m⟩:=m
       dsimp only at*
       by_cases he:(ms.fin P.length).k=0
       ·rw[Ai (fun hh=>hh he)] at hnj
        rw[he,Rs.DA]
        by_cases hmM:m=σ.M
        ·rw[Ai (fun hh=>hh hmM)] at hnj
         rw[Ai (fun hh=>hh.2 hmM)]
         have ht:=LG h j1 j2 hwt hnj h.on
         rw[hdd] at ht
         have Ib:(σ.hold (D.take j)).fed=p+j:=by rw[h.Ib,hjl]
         have hft:=VE S hS (σ:=({({σ.hold (D.take j) with ph:=2,want:=DE σ.ep σ.M p j}:FSt) with first:=p+j,buf:=[]}:FSt)) (p:=p+j) (first:=p) (M:=σ.M) ⟨rfl,rfl,rfl,Ib,h.on⟩ hjS hf0 (by
          show DE σ.ep σ.M p j=DE σ.ep σ.M p (((p+j:Nat):Int)-p)
          congr 1
          omega)
         rw[ht]
         unfold L6
         dsimp only
         rw[Ag rfl,AG]
         refine⟨?_,hft.2⟩
         congr 1
         exact hft.1
        ·rw[Ag hmM] at hnj
         rw[Ag ⟨rfl,hmM⟩]
         have hfl:(⟨p+j,0,0⟩:Rs).fail 12 p=⟨p+j,12,(p:Int)⟩:=rfl
         rw[hfl,Fo (show (12:Int)≠0 by decide)]
         have hb:=Eg (z:=⟨p+j,12,(p:Int)⟩) h j1 j2 hjS hwt hnj zL rfl (Lk hp9) (fun e=>absurd e zL)
         exact⟨zA3,hb.2⟩
       ·rw[Ag he] at hnj
        rw[hws _ _ he,Ai (fun hh=>he hh.1),Fo (show (⟨p+j,(ms.fin P.length).k,wrap64 ((ms.fin P.length).f+(((p+j:Nat):Int)-4-(P.length:Int)))⟩:Rs).k≠0 from he)]
        have hb:=hfaults _ hmf he hnj
        exact⟨zA3,hb.2⟩
      ·rw[Ai h2] at hnj
       rw[Ai h2]
       have hfl:(⟨p+j,0,0⟩:Rs).fail 7 (((p+j:Nat):Int)-4-(P.length:Int))=⟨p+j,7,((p+j:Nat):Int)-4-(P.length:Int)⟩:=rfl
       rw[hfl,Fo (show (7:Int)≠0 by decide)]
       have hb:=Eg (z:=⟨p+j,7,((p+j:Nat):Int)-4-(P.length:Int)⟩) h j1 j2 hjS hwt hnj zL rfl (by
        show ((p+j:Nat):Int)-4-(P.length:Int)=_
        rw[El zC zC]
        omega) (fun e=>absurd e zL)
       exact⟨zA3,hb.2⟩
   ·rw[Ai hk]
    have hin:=hfit.inn
    have hzf:(u.up p).f=wrap64 (u.f+(p:Int)):=by
     obtain⟨i1,i2⟩:=hin
     rw[El zC zC]
     unfold Rs.up
     dsimp only
     rw[Ai hk,Int.add_comm]
    rw[Fo (show (u.up p).k≠0 from hk)]
    have hb:=Eg (z:=u.up p) h j1 j2 hjS hwt (by rw[hnx,ND j4 j5 hk]) hk rfl hzf (fun e=>absurd e j5)
    exact⟨zA3,hb.2⟩
theorem Vr(D:List UInt8):(((⟨0,0,0⟩:Rs).hdr D).1.k=1∧((⟨0,0,0⟩:Rs).hdr D).1.f=D.length∧∀j,((⟨0,0,0⟩:Rs).hdr (D.take j)).1.k=1)∨
  ∃j,0<j∧j≤D.length∧(∀i,i<j→((⟨0,0,0⟩:Rs).hdr (D.take i)).1.k=1)∧(⟨0,0,0⟩:Rs).hdr (D.take j)=(⟨0,0,0⟩:Rs).hdr D∧((⟨0,0,0⟩:Rs).hdr D).1.k≠1∧
   (((⟨0,0,0⟩:Rs).hdr D).1.k=0→((⟨0,0,0⟩:Rs).hdr D).1.p=j):=by
 have ok0:∀L:Nat,(⟨0,0,0⟩:Rs).ok L:=fun L=>⟨Ar _,fun _=>rfl⟩
 have happ:∀j,((⟨0,0,0⟩:Rs).hdr (D.take j)).1.k≠1→(⟨0,0,0⟩:Rs).hdr (D.take j)=(⟨0,0,0⟩:Rs).hdr D:=fun j h=>by
  have:=Rs.Yp (E:=D.drop j) (ok0 _) h
  rw[Bn] at this
  exact this.symm
 by_cases hk:((⟨0,0,0⟩:Rs).hdr D).1.k=1
 ·refine .inl ⟨hk,Rs.Yo (fun e=>absurd (show (0:Int)=1 from e) zL) hk,fun j=> ?_⟩
  by_cases h:((⟨0,0,0⟩:Rs).hdr (D.take j)).1.k=1
  ·exact h
  ·rw[happ j h]
   exact hk
 ·obtain⟨j,g1,g2,g3⟩:=least (fun j=>¬((⟨0,0,0⟩:Rs).hdr (D.take j)).1.k=1) D.length (by
   show ¬((⟨0,0,0⟩:Rs).hdr (D.take D.length)).1.k=1
   rw[Bp (As _)]
   exact hk)
  have e:=happ j g2
  have g3':∀i,i<j→((⟨0,0,0⟩:Rs).hdr (D.take i)).1.k=1:=fun i hi=>Decidable.of_not_not (g3 i hi)
  have hnil:((⟨0,0,0⟩:Rs).hdr []).1.k=1:=zF
  have hj:0<j:=Nat.pos_of_ne_zero (fun e0=>g2 (by rw[e0,Ig];exact hnil))
  refine .inr ⟨j,hj,g1,g3',e,hk,fun h0=> ?_⟩
  have hjl:(D.take j).length=j:=ZB
  have hfit:=(Rs.Ur (Rs.FC (D.take j).length)).ok.le
  have hc:=Rs.Pc (B:=D.take j) (s:=⟨0,0,0⟩) (ok0 _) (by rw[e];exact h0)
  rw[e] at hc hfit
  generalize (⟨0,0,0⟩:Rs).hdr D=F at*
  obtain⟨u,v,ep,b⟩:=F
  dsimp only at*
  obtain⟨c1,c2⟩:=hc
  rw[De] at c2
  rw[hjl] at hfit
  have hul:u.p=(Bf v ep b).length:=by
   have:=A3 List.length c2
   rw[Al,CA,hjl] at this
   omega
  by_cases hlt:u.p<j
  ·have hs:=g3' u.p hlt
   have ht:D.take u.p=Bf v ep b:=by
    have:=A3 (List.take u.p) c2
    rw[List.take_take,show min u.p j=u.p by omega,hul,List.take_left' rfl] at this
    rw[hul]
    exact this
   have hput:=Rs.Qj (B:=Bf v ep b) (rest:=[]) (p:=0) c1 (by rw[De,Bu]) (Ar _)
   rw[ht,hput] at hs
   exact absurd (show (0:Int)=1 from hs) zL
  ·omega
def Db:FSt:=⟨0,[],0,0,0,0,[],[],Qo,0⟩
def Ez(S:List UInt8):Rs × Nat × List Batch × List AP × Bool:=
 let h:=(⟨0,0,0⟩:Rs).hdr S
 let s:=if h.2.1=3 then h.1 else h.1.fail 8 4
 if s.k=0 then Dj S (h.2.2.1:Int) bS (S.length+1) s [] [] true else (s,0,[],[],true)
def Gr(S:List UInt8):Rs:=L6 S (((⟨0,0,0⟩:Rs).hdr S).2.2.1:Int) (Ez S)
theorem Xu(S:List UInt8):TY S=(if (Gr S).k=0 then (⟨(((⟨0,0,0⟩:Rs).hdr S).2.2.1:Int),(Ez S).2.2.1⟩,(Ez S).2.2.2.2,0,0) else (WN,false,(Gr S).k,(Gr S).f)):=by
 unfold TY Uy Gr Ez L6
 dsimp only
theorem Xj(S:List UInt8)(hS:S.length≤1000000000):(Bh Db S).2=EA (Ez S).2.2.1 (Ez S).2.2.2.1++OD S (Gr S)∧JE S (Gr S) (Bh Db S).1:=by
 have hA:AtF Db 0 0:=⟨rfl,rfl,rfl,rfl,rfl⟩
 have hnx:∀E:List UInt8,Bm (Db.hold E)=(if ((⟨0,0,0⟩:Rs).hdr E).1.k=1 then .wait else if ((⟨0,0,0⟩:Rs).hdr E).1.k≠0 then .bad ((⟨0,0,0⟩:Rs).hdr E).1.k ((⟨0,0,0⟩:Rs).hdr E).1.f else if ((⟨0,0,0⟩:Rs).hdr E).2.1=3 then .take {Db.hold E with ph:=1,ep:=(((⟨0,0,0⟩:Rs).hdr E).2.2.1:Int)} [] else .bad 8 4):=fun E=>rfl
 have hfit:=Rs.Ur (Rs.FC S.length)
 have hcomes:=Vr S
 unfold Gr Ez
 dsimp only
 generalize hH:(⟨0,0,0⟩:Rs).hdr S=H at*
 obtain⟨u,v,e,b⟩:=H
 dsimp only at*
 rcases hcomes with ⟨c1,c2,c3⟩ | ⟨j,j1,j2,j3,j4,j5,j6⟩
 ·have hz:u.sh S.length:=⟨c1,c2⟩
  have hs:(if v=3 then u else u.fail 8 4)=u:=by
   split
   ·rfl
   ·exact Rs.Bt hz.GP
  rw[hs,Ai hz.GP,Fo hz.GP,Gc S Db rfl (fun i _ _=>by rw[hnx,Ag (c3 i)]),Lg hz]
  refine⟨rfl,JE.Ul hz ⟨rfl,?_,?_⟩⟩
  ·show 0+S.length=S.length
   omega
  ·intro hwh
   have e:0<0:=hwh.1
   omega
 ·have hwt:∀i,0<i→i<j→Bm (Db.hold (S.take i))=.wait:=fun i _ hi=>by rw[hnx,Ag (j3 i hi)]
  have hnj:=hnx (S.take j)
  rw[j4] at hnj
  dsimp only at hnj
  rw[Ai j5] at hnj
  have hj0:0+j≤S.length:=zC
  by_cases hk:u.k=0
  ·rw[Ai (fun hh=>hh hk)] at hnj
   by_cases hv:v=3
   ·rw[Ag hv] at hnj
    rw[Ag hv,Ag hk]
    have hup:u=⟨j,0,0⟩:=by
     have h1:=j6 hk
     have h2:=hfit.ok.zero hk
     obtain⟨up,uk,uf⟩:=u
     dsimp only at*
     rw[h1,hk,h2]
    have ht:=LG hA j1 j2 hwt hnj rfl
    have hjl:(S.take j).length=j:=ZB
    have hr:=Xf S hS (S.length+1) ({({Db.hold (S.take j) with ph:=1,ep:=(e:Int)}:FSt) with first:=0+j,buf:=[]}:FSt) j true ⟨rfl,rfl,A7 j,by show 0+(S.take j).length=j;omega,rfl⟩ zC zC rfl rfl
    rw[ht,hup,AG]
    exact hr
   ·rw[Ai hv] at hnj
    have hfl:u.fail 8 4=⟨u.p,8,4⟩:=by
     unfold Rs.fail
     rw[Ag hk]
    rw[Ai hv,hfl,Ai (show ¬(8:Int)=0 by decide),Fo (show (8:Int)≠0 by decide)]
    have hb:=Eg (z:=⟨u.p,8,4⟩) hA j1 j2 hj0 hwt hnj zL rfl (by show (4:Int)=wrap64 (4+0);rw[El (by decide) (by decide)];rfl) (fun e=>absurd e zL)
    exact hb
  ·rw[Ag hk] at hnj
   have hs:(if v=3 then u else u.fail 8 4)=u:=by
    split
    ·rfl
    ·exact Rs.Bt hk
   rw[hs,Ai hk,Fo hk]
   obtain⟨i1,i2⟩:=hfit.inn
   have hb:=Eg (z:=u) hA j1 j2 hj0 hwt hnj hk rfl (by
    rw[El zC zC]
    omega) (fun e=>absurd e j5)
   exact hb
instance (τ:FSt):Decidable τ.whole:=by
 unfold FSt.whole
 infer_instance
def Ge(τ:FSt):List EvB:=if τ.ended=0 then [if τ.whole then ⟨2,τ.fed,0,Dp⟩ else ⟨3,τ.fed,1,Dp⟩] else []
def OB(S:List UInt8)(closed:Bool):List EvB:=
 EA (Ez S).2.2.1 (Ez S).2.2.2.1++(if (Gr S).k=0 then (if closed=true then [⟨2,S.length,0,Dp⟩] else []) else if (Gr S).k=1∧(Gr S).f=S.length then (if closed=true then [⟨3,S.length,1,Dp⟩] else []) else [Ep (Gr S).f (Gr S).k])
theorem Pm(S:List UInt8)(hS:S.length≤1000000000):(Bh Db S).2=OB S false∧(Bh Db S).2++Ge (Bh Db S).1=OB S true:=by
 obtain⟨h1,h2⟩:=Xj S hS
 rw[h1]
 unfold OB Ge
 generalize Gr S=z at*
 generalize (Bh Db S).1=τ at*
 by_cases h0:z.k=0
 ·obtain⟨a1,a2,a3⟩:=h2.good h0
  rw[PC h0,Ag h0,Ag h0,Ag a1,Ag a3,a2]
  exact⟨rfl,by rw[Bu];rfl⟩
 ·by_cases hs:z.k=1∧z.f=S.length
  ·obtain⟨a1,a2,a3⟩:=h2.short hs.1 hs.2
   rw[Lg ⟨hs.1,hs.2⟩,Ai h0,Ai h0,Ag hs,Ag hs,Ag a1,Ai a3,a2]
   exact⟨rfl,by rw[Bu];rfl⟩
  ·have hne:z.k=1→z.f≠S.length:=fun e e2=>hs ⟨e,e2⟩
   obtain⟨a1,a2,a3⟩:=h2.bad h0 hne
   rw[Lh h0 hne,Ai h0,Ai h0,Ai hs,Ai hs,Ai (by rw[a1];decide)]
   exact⟨rfl,by rw[Bu]⟩
def Dl(σ:FSt)(l:List UInt8):FSt × List EvB:=if σ.ended=0 then Bh σ l else (σ,[])
theorem NK(l r:List UInt8):(Dl (Bh Db l).1 r).1=(Bh Db (l++r)).1∧(Bh Db l).2++(Dl (Bh Db l).1 r).2=(Bh Db (l++r)).2:=by
 rw[LI Db l r rfl]
 unfold Dl
 by_cases h:(Bh Db l).1.ended=0
 ·rw[Ag h,Ag h]
  exact⟨rfl,rfl⟩
 ·rw[Ai h,Ai h]
  exact⟨rfl,Bu _⟩
theorem SU{ep:Int}{l:List Batch}(hR:Ey ⟨ep,l⟩=true)(hN:∀b∈l,Ec b):
  (Ez (Dw ep l)).2.2.1=l∧(Ez (Dw ep l)).2.2.2.1=(Ha ep l).2∧(Gr (Dw ep l)).k=0:=by
 have hput:=VN [] hR hN Aa1
 rw[Bu,Ag rfl] at hput
 have hof:=Xu (Dw ep l)
 have hput':TY (Dw ep l)=(⟨ep,l⟩,true,0,0):=hput
 rw[hput'] at hof
 have hk:(Gr (Dw ep l)).k=0:=by
  by_cases hk:(Gr (Dw ep l)).k=0
  ·exact hk
  ·rw[Ai hk] at hof
   exact (A3 (fun x=>x.2.2.1) hof).symm
 rw[Ag hk] at hof
 have hl:(Ez (Dw ep l)).2.2.1=l:=(A3 (fun x=>x.1.batches) hof).symm
 have hq:(Ez (Dw ep l)).2.2.2.2=true:=(A3 (fun x=>x.2.1) hof).symm
 refine⟨hl,?_,hk⟩
 obtain⟨e1,e2,e3⟩:=MB ep l
 generalize Dw ep l=S at*
 have hep1:=(F5 hR).1
 have hep2:1≤ep∧ep<4611686018427387904:=hep1
 have hH:Jj ((3:Nat):Int) ((ep.toNat:Nat):Int) ((0:Nat):Int)=true:=by
  rw[toNat_cast zC]
  unfold Jj
  have:epR ep=true:=by
   simp only[epR,Ao]
   exact hep2
  rw[this]
  decide
 have hh:=Rs.Qj (B:=S) (p:=0) hH (by rw[De];exact e1) (Ar _)
 rw[A7] at hh
 rw[e3]
 have hlen:=A3 List.length e1
 rw[Al] at hlen
 unfold Gr Ez at hk
 unfold Ez at hl hq ⊢
 rw[hh] at hk hl hq ⊢
 dsimp only at hk hl hq ⊢
 rw[Ag rfl,Ag rfl] at hk hl hq ⊢
 have hfit:(⟨(Bf 3 ep.toNat 0).length,0,0⟩:Rs).fit S.length:=⟨⟨zH,fun _=>rfl⟩,⟨Int.le_refl _,Int.natCast_nonneg _⟩⟩
 have hO:=OM (B:=S) (ep:=((ep.toNat:Nat):Int)) YE (S.length+1) ⟨(Bf 3 ep.toNat 0).length,0,0⟩ [] [] true hfit zC zM
 generalize Dj S ((ep.toNat:Nat):Int) bS (S.length+1) ⟨(Bf 3 ep.toNat 0).length,0,0⟩ [] [] true=W at*
 have hu:W.1.k=0:=by
  by_cases hu:W.1.k=0
  ·exact hu
  ·unfold L6 at hk
   rw[Ai hu] at hk
   exact hk
 obtain⟨t,i1,_,_,_,_,_,i7⟩:=hO hu
 rw[AG,hl] at i1
 subst i1
 obtain⟨_,j2⟩:=i7 hq
 obtain⟨k1,_,_⟩:=j2 (Bf 3 ep.toNat 0) (by
  dsimp only
  conv=>lhs;rw[e1]
  congr 1
  rw[e1,List.drop_left]) rfl
 rw[←k1,MZ]
 rfl
theorem KY{ep:Int}{l:List Batch}(hR:Ey ⟨ep,l⟩=true)(hN:∀b∈l,Ec b):OB (Dw ep l) true=EA l (Ha ep l).2++[⟨2,(Dw ep l).length,0,Dp⟩]:=by
 obtain⟨h1,h2,h3⟩:=SU hR hN
 unfold OB
 rw[h1,h2,Ag h3,Ag rfl]
end Go.Proofs.YtfddhafbhceoaaaGreat
namespace Go.Bs
open Go.RowKit
variable{c g i n:Nat}{a:Option Addr}{t:TypeId}{v0 v1 v2:Value}
structure EvX where
 kind:Int
 at_:Int
 code:Int
 msg:Msg
 batch:Batch
def rI:Rp Int:=⟨fun _ _ cs n=>cs=[.int .i64 n],fun h _=>h,fun h _=>h⟩
def IV:Rp EvX:=rBy (fun e=>(e.kind,e.at_,e.code,e.msg,e.batch)) (Dr rI (Dr rI (Dr rI (Dr Y9 Gv))))
def Mx:Rp (List EvX):=rSl 20 IV
def CJ(x:EvX)(a1:Option Addr)(c1:Nat)(a2:Option Addr)(c2:Nat)(a3:Option Addr)(c3:Nat)(a4:Option Addr)(c4:Nat)(a5:Option Addr)(c5:Nat):List Value:=
 [.int .i64 x.kind,.int .i64 x.at_,.int .i64 x.code,.int .i64 x.msg.kind,.int .u64 x.msg.epoch,.int .u64 x.msg.seq,.int .u64 x.msg.pos,.int .i64 x.msg.count,.int .i64 x.msg.state,.slice a1 x.msg.streams.length c1,.slice a2 x.msg.links.length c2,.slice a3 x.msg.data.length c3,.int .u64 x.msg.sea.epoch,.int .u64 x.msg.sea.node,.int .u64 x.msg.sea.tail,.int .u64 x.msg.proj.epoch,.slice a4 x.msg.proj.stripes.length c4,.int .u64 x.batch.epoch,.int .u64 x.batch.base,.slice a5 x.batch.entries.length c5]
structure YJ(S:Nat→Prop)(w:World)(x:EvX)(a1:Option Addr)(c1:Nat)(a2:Option Addr)(c2:Nat)(a3:Option Addr)(c3:Nat)(a4:Option Addr)(c4:Nat)(a5:Option Addr)(c5:Nat):Prop where
 msg:FZ S w x.msg a1 c1 a2 c2 a3 c3 a4 c4
 epoch:inU x.batch.epoch
 base:inU x.batch.base
 ents:Br.r S w [.slice a5 x.batch.entries.length c5] x.batch.entries
section
variable {S S':Nat→Prop} {w w':World} {cs:List Value}
theorem RU{x:EvX}(h:IV.r S w cs x):∃a1 c1 a2 c2 a3 c3 a4 c4 a5 c5,cs=CJ x a1 c1 a2 c2 a3 c3 a4 c4 a5 c5∧YJ S w x a1 c1 a2 c2 a3 c3 a4 c4 a5 c5:=by
 obtain⟨_,_,rfl,rfl,_,_,rfl,rfl,_,_,rfl,rfl,_,_,rfl,h4,h5⟩:=h
 obtain⟨a1,c1,a2,c2,a3,c3,a4,c4,rfl,g1⟩:=U9 h4
 obtain⟨a5,c5,rfl,g2,g3,g4⟩:=Ms h5
 exact⟨a1,c1,a2,c2,a3,c3,a4,c4,a5,c5,rfl,g1,g2,g3,g4⟩
theorem YV{xs:List EvX}(h:Mx.r S w [.slice a n c] xs)(hi:i<xs.length):∃b off,a=some ⟨b,off,none⟩∧S b∧∃(a1:Option Addr) (c1:Nat) (a2:Option Addr) (c2:Nat) (a3:Option Addr) (c3:Nat) (a4:Option Addr) (c4:Nat) (a5:Option Addr) (c5:Nat),
  (w.cell? ⟨b,off+i*20,none⟩=some (.int .i64 xs[i].kind)∧w.cell? ⟨b,off+i*20+1,none⟩=some (.int .i64 xs[i].at_)∧w.cell? ⟨b,off+i*20+2,none⟩=some (.int .i64 xs[i].code)∧w.cell? ⟨b,off+i*20+3,none⟩=some (.int .i64 xs[i].msg.kind)∧w.cell? ⟨b,off+i*20+4,none⟩=some (.int .u64 xs[i].msg.epoch)∧w.cell? ⟨b,off+i*20+5,none⟩=some (.int .u64 xs[i].msg.seq)∧w.cell? ⟨b,off+i*20+6,none⟩=some (.int .u64 xs[i].msg.pos)∧w.cell? ⟨b,off+i*20+7,none⟩=some (.int .i64 xs[i].msg.count)∧w.cell? ⟨b,off+i*20+8,none⟩=some (.int .i64 xs[i].msg.state)∧w.cell? ⟨b,off+i*20+9,none⟩=some (.slice a1 xs[i].msg.streams.length c1)∧w.cell? ⟨b,off+i*20+10,none⟩=some (.slice a2 xs[i].msg.links.length c2)∧w.cell? ⟨b,off+i*20+11,none⟩=some (.slice a3 xs[i].msg.data.length c3)∧w.cell? ⟨b,off+i*20+12,none⟩=some (.int .u64 xs[i].msg.sea.epoch)∧w.cell? ⟨b,off+i*20+13,none⟩=some (.int .u64 xs[i].msg.sea.node)∧w.cell? ⟨b,off+i*20+14,none⟩=some (.int .u64 xs[i].msg.sea.tail)∧w.cell? ⟨b,off+i*20+15,none⟩=some (.int .u64 xs[i].msg.proj.epoch)∧w.cell? ⟨b,off+i*20+16,none⟩=some (.slice a4 xs[i].msg.proj.stripes.length c4)∧w.cell? ⟨b,off+i*20+17,none⟩=some (.int .u64 xs[i].batch.epoch)∧w.cell? ⟨b,off+i*20+18,none⟩=some (.int .u64 xs[i].batch.base)∧w.cell? ⟨b,off+i*20+19,none⟩=some (.slice a5 xs[i].batch.entries.length c5))∧YJ S w xs[i] a1 c1 a2 c2 a3 c3 a4 c4 a5 c5:=by
 obtain⟨b,off,e,hS,cs,_,hc,hA⟩:=I5 h hi
 obtain⟨a1,c1,a2,c2,a3,c3,a4,c4,a5,c5,rfl,h1⟩:=RU hA
 exact⟨b,off,e,hS,a1,c1,a2,c2,a3,c3,a4,c4,a5,c5,⟨hc 0 _ rfl,hc 1 _ rfl,hc 2 _ rfl,hc 3 _ rfl,hc 4 _ rfl,hc 5 _ rfl,hc 6 _ rfl,hc 7 _ rfl,hc 8 _ rfl,hc 9 _ rfl,hc 10 _ rfl,hc 11 _ rfl,hc 12 _ rfl,hc 13 _ rfl,hc 14 _ rfl,hc 15 _ rfl,hc 16 _ rfl,hc 17 _ rfl,hc 18 _ rfl,hc 19 _ rfl⟩,h1⟩
theorem Qx{x:EvX}{a1:Option Addr}{c1:Nat}{a2:Option Addr}{c2:Nat}{a3:Option Addr}{c3:Nat}{a4:Option Addr}{c4:Nat}{a5:Option Addr}{c5:Nat}:∀u∈CJ x a1 c1 a2 c2 a3 c3 a4 c4 a5 c5,u.oneCell'=true:=by
 intro u hu
 simp[CJ] at hu
 rcases hu with rfl | rfl | rfl | rfl | rfl | rfl | rfl | rfl | rfl | rfl | rfl | rfl | rfl | rfl | rfl | rfl | rfl | rfl | rfl | rfl<;>rfl
theorem Xq{v3 v4 v5 v6 v7 v8 v9 v10 v11 v12 v13 v14 v15 v16 v17 v18 v19:Value}(h:Blk w g t #[v0,v1,v2,v3,v4,v5,v6,v7,v8,v9,v10,v11,v12,v13,v14,v15,v16,v17,v18,v19]):
  w.cell? ⟨g,0,none⟩=some v0∧w.cell? ⟨g,1,none⟩=some v1∧w.cell? ⟨g,2,none⟩=some v2∧w.cell? ⟨g,3,none⟩=some v3∧w.cell? ⟨g,4,none⟩=some v4∧w.cell? ⟨g,5,none⟩=some v5∧w.cell? ⟨g,6,none⟩=some v6∧w.cell? ⟨g,7,none⟩=some v7∧w.cell? ⟨g,8,none⟩=some v8∧w.cell? ⟨g,9,none⟩=some v9∧w.cell? ⟨g,10,none⟩=some v10∧w.cell? ⟨g,11,none⟩=some v11∧w.cell? ⟨g,12,none⟩=some v12∧w.cell? ⟨g,13,none⟩=some v13∧w.cell? ⟨g,14,none⟩=some v14∧w.cell? ⟨g,15,none⟩=some v15∧w.cell? ⟨g,16,none⟩=some v16∧w.cell? ⟨g,17,none⟩=some v17∧w.cell? ⟨g,18,none⟩=some v18∧w.cell? ⟨g,19,none⟩=some v19∧g<w.heap.size:=
 ⟨h.cell 0,h.cell 1,h.cell 2,h.cell 3,h.cell 4,h.cell 5,h.cell 6,h.cell 7,h.cell 8,h.cell 9,h.cell 10,h.cell 11,h.cell 12,h.cell 13,h.cell 14,h.cell 15,h.cell 16,h.cell 17,h.cell 18,h.cell 19,h.lt⟩
theorem Yw{cs:Array Value}(h:Blk w g t cs):w.frozen? ⟨g,0,none⟩=false∧w.frozen? ⟨g,1,none⟩=false∧w.frozen? ⟨g,2,none⟩=false∧w.frozen? ⟨g,3,none⟩=false∧w.frozen? ⟨g,4,none⟩=false∧w.frozen? ⟨g,5,none⟩=false∧w.frozen? ⟨g,6,none⟩=false∧w.frozen? ⟨g,7,none⟩=false∧w.frozen? ⟨g,8,none⟩=false∧w.frozen? ⟨g,9,none⟩=false∧w.frozen? ⟨g,10,none⟩=false∧w.frozen? ⟨g,11,none⟩=false∧w.frozen? ⟨g,12,none⟩=false∧w.frozen? ⟨g,13,none⟩=false∧w.frozen? ⟨g,14,none⟩=false∧w.frozen? ⟨g,15,none⟩=false∧w.frozen? ⟨g,16,none⟩=false∧w.frozen? ⟨g,17,none⟩=false∧w.frozen? ⟨g,18,none⟩=false∧w.frozen? ⟨g,19,none⟩=false:=
 ⟨h.free 0,h.free 1,h.free 2,h.free 3,h.free 4,h.free 5,h.free 6,h.free 7,h.free 8,h.free 9,h.free 10,h.free 11,h.free 12,h.free 13,h.free 14,h.free 15,h.free 16,h.free 17,h.free 18,h.free 19⟩
end
end Go.Bs
namespace Go.Proofs.YtfddhafbhceoaaaGreat
open Go.RowKit Go.Bs Go.Maps
variable{f m pos:Int}{B D P rest:List UInt8}{xs:List Value}{L base n p:Nat}{F:Nat → Prop}{s z:Rs}{e:TypeId}{v:Value}{w w':World}
theorem Jc{size:Nat}(h:w.ownsRow base e size v n xs)(hk:∀g,v.ownBlock=some g→w'.heap[g]? =w.heap[g]?):w'.ownsRow base e size v n xs:=by
 refine⟨h.1,?_⟩
 rcases h.2 with h0 | ⟨g,cap,cur,h1,h2,h3,h4⟩
 ·exact .inl h0
 ·exact .inr ⟨g,cap,cur,h1,h2,by rw[hk g (by rw[h1];rfl)];exact h3,h4⟩
theorem DF.Fg{b:Nat}{L:List UInt8}(h:DF w b v L)(hk:∀g,v.ownBlock=some g→w'.heap[g]? =w.heap[g]?):DF w' b v L:=Jc h hk
theorem DF.nil{b:Nat}:DF w b (.slice none 0 0) []:=⟨rfl,.inl ⟨rfl,rfl⟩⟩
theorem DF.at_{b:Nat}{L:List UInt8}(h:DF w b v L):∀q,v.ownBlock=some q→b≤q∧q<w.heap.size:=BP h
theorem Yl(B:List UInt8):(Fh B).2≤2097152:=by
 rw[Ym]
 split
 ·exact Ar _
 ·dsimp only;omega
theorem Ry(w:World)(B:List UInt8)(a:Option Addr)(n c:Nat)(hl:Am.r (·<w.heap.size) w [.slice a n c] B)(hB:B.length≤1000000000):
  Calls Tryz.prog 63 #[.slice a n c,.int .i64 2097152] w fun r w'=>r=.returned (.tuple #[.int .i64 (Hv B:Nat),.bool (decide (0<Hv B))])∧Below w.heap.size w w':=by
 obtain⟨rfl,_,_,_⟩:=AL hl
 have HN:=hid (Lo w B a _ c hl)
 have HI:=hid (fun (W:World) (h:AS W w.heap.size B a ⟨0,0,0⟩)=>(by have:=CE W h zC 2097152 zL;exact this:Calls Tryz.prog 110 #[.pointer (some ⟨w.heap.size,0,none⟩),.int .i64 2097152] W fun r w'=>r=.returned (.int .i64 ((Fh B).2:Int))∧AE W w.heap.size B a (Fh B).1 w'))
 have HBD:=hid (fun (W:World)=>(by have:=Mi 2097152 W;exact this:Calls Tryz.prog 111 #[.int .i64 2097152] W fun r w'=>r=.returned (.int .i64 2097152)∧W=w'))
 have hle:=Yl B
 have HSZ:=hid (fun (W:World)=>NC (Fh B).2 zC W)
 unfold Hv
 generalize Fh B=I at*
 obtain⟨s,x⟩:=I
 dsimp only at*
 clear hl
 by_cases hk:s.k=0
 ·have HG:=hid (fun (V:World) (hV:AS V w.heap.size B a s)=>(by have:=AK V hV;rw[Ad hk] at this;exact this:Calls Tryz.prog 112 #[.pointer (some ⟨w.heap.size,0,none⟩)] V fun r w'=>r=.returned (.bool true)∧Below V.heap.size V w'))
  rw[Ag hk]
  have hpos:decide (0<(AD x).length+x+4)=true:=Ad zC
  rw[hpos]
  generalize (AD x).length+x+4=N at*
  clear hk hpos
  go_enter Tryz.func63,Tryz.ntmps63
  go_wp2_with fail
  refine HN.out.mono ?_
  rintro r w1 ⟨rfl,hrd,hb1⟩
  have HRD:=hid hrd
  have HB1:=hid hb1
  clear hrd hb1
  go_wp2_with fail
  refine (HBD.out w1).mono ?_
  rintro r w1' ⟨rfl,rfl⟩
  go_wp2_with fail
  refine (HI.out w1 HRD.out).mono ?_
  rintro r w2 ⟨rfl,hst⟩
  have HS:=hid hst.1
  have HB2:=hid (HB1.out.trans (hst.below HB1.out.size (As _)))
  clear hst
  go_wp2_with fail
  refine (HG.out w2 HS.out).mono ?_
  rintro r w3 ⟨rfl,hb3⟩
  have HB3:=hid (Aj hb3 HB2.out)
  clear hb3
  go_wp2_with fail
  refine (HSZ.out w3).mono ?_
  rintro r w4 ⟨rfl,hb4⟩
  have HB4:=hid (Aj hb4 HB3.out)
  clear hb4
  go_wp2_with fail
  go_ret2
  exact⟨rfl,HB4.out⟩
 ·have HG:=hid (fun (V:World) (hV:AS V w.heap.size B a s)=>(by have:=AK V hV;rw[Ae hk] at this;exact this:Calls Tryz.prog 112 #[.pointer (some ⟨w.heap.size,0,none⟩)] V fun r w'=>r=.returned (.bool false)∧Below V.heap.size V w'))
  rw[Ai hk]
  clear hk
  go_enter Tryz.func63,Tryz.ntmps63
  go_wp2_with fail
  refine HN.out.mono ?_
  rintro r w1 ⟨rfl,hrd,hb1⟩
  have HRD:=hid hrd
  have HB1:=hid hb1
  clear hrd hb1
  go_wp2_with fail
  refine (HBD.out w1).mono ?_
  rintro r w1' ⟨rfl,rfl⟩
  go_wp2_with fail
  refine (HI.out w1 HRD.out).mono ?_
  rintro r w2 ⟨rfl,hst⟩
  have HS:=hid hst.1
  have HB2:=hid (HB1.out.trans (hst.below HB1.out.size (As _)))
  clear hst
  go_wp2_with fail
  refine (HG.out w2 HS.out).mono ?_
  rintro r w3 ⟨rfl,hb3⟩
  have HB3:=hid (Aj hb3 HB2.out)
  clear hb3
  go_wp2_with fail
  go_ret2
  exact⟨rfl,HB3.out⟩
structure J1(w:World)(g:Nat)(v:Value)(s:PSt):Prop where
 blk:Blk w g 60 #[.bool true,v,.int .i64 (s.first:Int),.int .i64 (s.fed:Int),.int .i64 (s.need:Int),.int .i64 s.ended]
 buf:DF w (g+1) v s.buf
section
variable {w w':World} {g:Nat} {v:Value} {s:PSt}
theorem J1.tch(h:J1 w g v s)(ht:Tch F w w')(hg:¬F g)(hv:∀q,v.ownBlock=some q→¬F q):J1 w' g v s:=
 ⟨h.blk.tch ht hg,h.buf.Fg fun q e=>ht.block q (h.buf.at_ q e).2 (hv q e)⟩
theorem J1.later(h:J1 w g v s)(hb:Below w.heap.size w w'):J1 w' g v s:=
 ⟨h.blk.later hb,h.buf.Fg fun q e=>hb.block q (h.buf.at_ q e).2⟩
theorem J1.at_(h:J1 w g v s):∀q,v.ownBlock=some q→g<q∧q<w.heap.size:=fun q e=>h.buf.at_ q e
end
end Go.Proofs.YtfddhafbhceoaaaGreat
