/- Mini: Needed by feedNone_walk, part 7: texts put together by shake.py; no condition. -/
import Derived.Test.YtfddhafbhceoaaaGreatWF4
import Derived.Test.YtfddhafbhceoaaaGreatWF2
import Derived.Test.YtfddhafbhceoaaaGreatWF1
import Derived.Test.YtfddhafbhceoaaaGreatWF6
import Derived.Test.YtfddhafbhceoaaaGreatWF5
import Derived.Test.YtfddhafbhceoaaaGreatWF3
import Derived.Laws.Bits64
set_option linter.unusedVariables false
set_option linter.unusedSimpArgs false
set_option maxRecDepth 100000
set_option maxHeartbeats 6400000
namespace Go.Bs
theorem zBv{p:Prop}(h:p:=by simp [results, Tryz.results268, go_sem, u0, u1, lF]):p:=h
theorem zAh{p:Prop}(h:p:=by have := hJl.out; omega):p:=h
theorem Z9{p:Prop}(h:p:=by have := hq.1; simp at this; omega):p:=h
theorem Z4{p:Prop}(h:p:=by rw [Al, hJl.out]; rfl):p:=h
end Go.Bs
namespace Go.Proofs.YtfddhafbhceoaaaGreat
open Go.RowKit Go.Bs Go.Maps
variable{bound m pos:Int}{B D b rest:List UInt8}{xs:List Value}{L base g n o p sz:Nat}{a:Option Addr}{s:Rs}{e:TypeId}{v:Value}{w:World}
theorem OG(rest:List UInt8):∀(f i x y:Nat),f+i=9→(0<i→0<x)→x*128^i<18446744073709551616→Cn i y (G9 f x++rest)=(y+x*128^i,i+(G9 f x).length,0)
 | 0,i,x,y,h,hp,hx=>by
  obtain rfl:i=9:=zC
  have hx2:x<2:=zC
  have ht:(UInt8.ofNat x).toNat=x:=zI
  have:=hp zC
  simp only[G9,DV,AG,Ay,AZ]
  unfold Cn
  rw[ht,Ai zC,Ai zC,Ag zC]
 | f+1,i,x,y,h,hp,hx=>by
  simp only[G9]
  by_cases h128:x<128
  ·rw[Ag h128]
   have ht:(UInt8.ofNat x).toNat=x:=zI
   simp only[DV,AG,Ay,AZ]
   unfold Cn
   rw[ht,Ai zC,Ai zC,Ag zC]
  ·rw[Ai h128]
   have ht:(UInt8.ofNat (128+x%128)).toNat=128+x%128:=zI
   simp only[DV,Ay]
   unfold Cn
   rw[ht,Ai zC,Ai zC,Ai zC]
   have hdm:x=128*(x/128)+x%128:=(Nat.div_add_mod x 128).symm
   have he:x/128*128^(i+1)+x%128*128^i=x*128^i:=by
    rw[FQ]
    generalize 128^i=k
    conv=>rhs;rw[hdm]
    rw[Nat.add_mul,Lj k 128,←Nat.mul_assoc,Lj 128]
   rw[OG rest f (i+1) (x/128) _ zC (fun _=>zC) zC]
   refine Prod.ext ?_ (Prod.ext ?_ rfl)
   ·dsimp only
    rw[show (128+x%128)%128=x%128 by omega]
    omega
   ·dsimp only;omega
theorem UF(x:Nat)(rest:List UInt8)(hx:x<18446744073709551616):Cn 0 0 (AD x++rest)=(x,(AD x).length,0):=by
 have:=OG rest 9 0 x 0 rfl (fun h=>zC) (by simpa using hx)
 unfold AD
 rw[this];simp
theorem Rs.DB{x:Nat}(hx:x<18446744073709551616)(h:B.drop p=AD x++rest):(⟨p,0,0⟩:Rs).num B=(⟨p+(AD x).length,0,0⟩,x):=by
 unfold Rs.num
 rw[Ag rfl]
 dsimp only
 rw[h,UF x rest hx]
 rfl
theorem A2(h:B.drop p=D++rest):B.drop (p+D.length)=rest:=by
 rw[←Fm,h];simp
theorem AX(h:B.drop p=D++rest)(hp:p≤B.length):p+D.length+rest.length=B.length:=by
 have:=A3 List.length h
 simp at this
 omega
theorem Rs.GO(h:B.drop p=D++rest)(hp:p≤B.length):(⟨p,0,0⟩:Rs).take B (D.length:Int)=(⟨p+D.length,0,0⟩,D):=by
 have hr:=AX h hp
 unfold Rs.take Rs.skip
 rw[Ag rfl,Ai zC,Ai zH]
 simp[h]
theorem Rs.Ld{x:UInt8}(h:B.drop p=x::rest)(hp:p≤B.length):(⟨p,0,0⟩:Rs).byte B=(⟨p+1,0,0⟩,x):=by
 have hr:=AX (D:=[x]) h hp
 simp at hr
 have hx:B.getD p 0=x:=by
  have:(B.drop p)[0]? =some x:=by rw[h];rfl
  simp at this
  simp[List.getD,this]
 unfold Rs.byte Rs.skip
 rw[Ag rfl,Ai zC,Ai zH]
 dsimp only
 rw[Ag rfl,hx]
 rfl
theorem Rs.Et{x:Nat}(hx:x<18446744073709551616)(h:B.drop p=AD x++rest)(hm:(x:Int)≤m):(⟨p,0,0⟩:Rs).int B m=(⟨p+(AD x).length,0,0⟩,x):=by
 unfold Rs.int Rs.most
 rw[Ag zC,Rs.DB hx h,Ai zH]
theorem Rs.Sm{D:List UInt8}(hx:D.length<18446744073709551616)(h:B.drop p=Ei D++rest)(hp:p≤B.length)(hm:(D.length:Int)≤m):(⟨p,0,0⟩:Rs).Ct B m=(⟨p+(Ei D).length,0,0⟩,D):=by
 unfold Ei at h
 rw[Au] at h
 have h2:=A2 h
 have hr:=AX h hp
 unfold Rs.Ct
 rw[Rs.Et hx h hm]
 dsimp only
 rw[Rs.GO h2 zC]
 simp[Ei,Cl]
theorem Mt:∀(m p:Nat),p+m≤b.length→1≤o→o≤p→(∀k,k<m→b[p+k]? =b[p+k-o]?)→Gw o m (b.take p)=b.take (p+m)
 | 0,p,_,_,_,_=>rfl
 | m+1,p,h,h1,h2,hs=>by
  have h0:=hs 0 zC
  have hb:b[p]? =some b[p]:=zM
  simp only[Ed] at h0
  have e:b.take p++[(b.take p).getD ((b.take p).length-o) 0]=b.take (p+1):=by
   rw[E8,Nat.min_eq_left zC]
   have:(b.take p).getD (p-o) 0=b[p]:=by
    have:(b.take p)[p-o]? =some b[p]:=by rw[List.getElem?_take_of_lt zC,←h0,hb]
    simp[List.getD,this]
   rw[this]
   rw[List.take_add_one,hb];rfl
  simp only[Gw]
  rw[e,Mt m (p+1) zC h1 zC (fun k hk=>by
   have:=hs (k+1) zC
   rw[show p+1+k=p+(k+1) by omega]
   exact this)]
  rw[show p+1+m=p+(m+1) by omega]
theorem Xk{b:List UInt8}(hb:b.length≤1048576)(hbd:(b.length:Int)≤bound){f:Bool}{ts:List Tok}(hg:Good b f p ts):p≤b.length→∀q,q≤B.length→B.drop q=CF ts→exR B bound ⟨q,0,0⟩ (b.take p)=(⟨B.length,0,0⟩,b):=by
 induction hg with
 | nil=>
  intro _ q hq h
  have:B.length≤q:=by simpa [CF] using h
  obtain rfl:q=B.length:=zC
  rw[La zM]
  simp
 | @copy f p o m rest hp hbe hm hg ih=>
  intro _ q hq h
  rcases Hr b p with h0 | ⟨o',m',he,h1,h2,h4,hml,_,_⟩
  ·rw[hbe] at h0;simp at h0;omega
  ·rw[hbe] at he
   simp only[BF] at he
   obtain⟨rfl,rfl⟩:=he
   have hmb:=KL b p o
   have hre:reach p≤p∧reach p≤65536:=zAm
   have ht:CF (⟨[],(o:Int),(m:Int)⟩::rest)=AD (2*m-7)++(AD (o-1)++CF rest):=by
    simp only[CF,Ca,FU]
    rw[OJ o m h1,Au]
   rw[ht] at h
   have hd1:=A2 h
   have hr1:=AX h hq
   have hd2:=A2 hd1
   have hr2:=AX hd1 zC
   have hl1:=(A1 (2*m-7)).2
   have hN:=Rs.DB zC h
   have hN2:=Rs.DB (p:=q+(AD (2*m-7)).length) zC hd1
   have hH:(⟨q,0,0⟩:Rs).head B=(⟨q+(AD (2*m-7)).length,0,0⟩,true,m):=by
    unfold Rs.head
    rw[hN]
    dsimp only
    rw[Ag rfl,Ag zC,Ai zC,show (2*m-7)/2+4=m by omega]
   have hO:(⟨q+(AD (2*m-7)).length,0,0⟩:Rs).offset B=(⟨q+(AD (2*m-7)).length+(AD (o-1)).length,0,0⟩,o):=by
    unfold Rs.offset
    rw[hN2]
    dsimp only
    rw[Ai zC,Ag rfl,show o-1+1=o by omega]
   have hlen:(b.take p).length=p:=zI
   have hS:CI B bound ⟨q,0,0⟩ (b.take p)=(⟨q+(AD (2*m-7)).length+(AD (o-1)).length,0,0⟩,b.take (p+m)):=by
    unfold CI
    rw[hH]
    dsimp only
    rw[hlen,Ai zC,Ai zM,hO]
    dsimp only
    rw[Ai zC,Ag rfl,Mt m p zC h1 zC (fun k hk=>(Lw zC).2.2.2)]
   rw[TM ⟨hq,fun _=>rfl⟩ zH rfl,hS]
   exact ih zC _ zC hd2
 | @run p q' rest hlt hle hno hg ih=>
  intro _ q hq h
  have hD:((b.drop p).take (q'-p)).length=q'-p:=zI
  generalize hDe:(b.drop p).take (q'-p)=D at*
  have ht:CF (⟨D,0,0⟩::rest)=AD (2*D.length-2)++(D++CF rest):=by
   simp only[CF,Ca,FU]
   rw[QQ D zC zC,Au]
  rw[ht] at h
  have hd1:=A2 h
  have hr1:=AX h hq
  have hd2:=A2 hd1
  have hr2:=AX hd1 zC
  have hl1:=(A1 (2*D.length-2)).2
  have hN:=Rs.DB zC h
  have hH:(⟨q,0,0⟩:Rs).head B=(⟨q+(AD (2*D.length-2)).length,0,0⟩,false,D.length):=by
   unfold Rs.head
   rw[hN]
   dsimp only
   rw[Ag rfl,Ai zC,Ai zC,show (2*D.length-2)/2+1=D.length by omega]
  have hlen:(b.take p).length=p:=zI
  have hS:CI B bound ⟨q,0,0⟩ (b.take p)=(⟨q+(AD (2*D.length-2)).length+D.length,0,0⟩,b.take q'):=by
   unfold CI
   rw[hH]
   dsimp only
   rw[hlen,Ai zC,Ag rfl,Rs.GO hd1 zC]
   rw[←hDe]
   refine Prod.ext rfl ?_
   dsimp only
   have:b.take q'=b.take p++(b.drop p).take (q'-p):=by
    rw[←Bn p (b.take q'),List.take_take,Nat.min_eq_left zC,List.drop_take]
   exact this.symm
  rw[TM ⟨hq,fun _=>rfl⟩ zH rfl,hS]
  exact ih zC _ zC hd2
theorem VI{b:List UInt8}(hb:b.length≤1048576)(hbd:(b.length:Int)≤bound):exB (En b) bound=(b,0,0):=by
 have:=Xk (B:=En b) hb hbd (NA b) zC 0 zC rfl
 rw[Xo]
 simp only[Ig] at this
 rw[this,Ag rfl]
theorem Rs.Rf{D:List UInt8}{most:Int}(h:B.drop p=Bj D++rest)(hp:p≤B.length)(hD:D.length≤1048576)(hm:(D.length:Int)≤most):
  (⟨p,0,0⟩:Rs).loose B most=(⟨p+(Bj D).length,0,0⟩,D,true):=by
 have htk:(B.drop p).take (Bj D).length=Bj D:=by rw[h];simp
 have h':=h
 unfold Bj at h
 rw[Au] at h
 have hd1:=A2 h
 have hr1:=AX h hp
 have hI:=Rs.Et (m:=min most 1048576) zC h zC
 unfold Rs.loose
 rw[hI]
 dsimp only
 cases hpk:Ja D
 ·rw[hpk] at hd1
  rw[Ai zM] at hd1
  have hd2:=A2 (D:=[0]) hd1
  have hr2:=AX (D:=[0]) hd1 zC
  simp only[Ay,AZ,A7] at hd2 hr2
  rw[Rs.Ld hd1 zC]
  dsimp only
  rw[Ag rfl,Ag zR,Rs.GO hd2 zC]
  dsimp only
  rw[Ag rfl]
  have hl:(Bj D).length=(AD D.length).length+(1+D.length):=by simp[Bj,hpk];omega
  rw[show p+(AD D.length).length+1+D.length=p+(Bj D).length by omega,show p+(Bj D).length-p=(Bj D).length by omega,htk]
  simp
 ·have hpl:(Ei (En D)).length<D.length:=C8 hpk
  have hpl2:=Dy (En D)
  rw[hpk] at hd1
  rw[Ag rfl] at hd1
  have hd2:=A2 (D:=[1]) hd1
  have hr2:=AX (D:=[1]) hd1 zC
  simp only[Ay,AZ,A7] at hd2 hr2
  rw[Rs.Ld hd1 zC]
  dsimp only
  rw[Ag rfl,Ai zL,Ag zR]
  have hB:=Rs.Sm (m:=1048576) zC hd2 zC zC
  have hU:(⟨p+(AD D.length).length+1,0,0⟩:Rs).unp B D.length=(⟨p+(AD D.length).length+1+(Ei (En D)).length,0,0⟩,D):=by
   unfold Rs.unp
   rw[hB]
   dsimp only
   rw[VI hD (Int.le_refl _)]
   dsimp only
   rw[Ag rfl,Ag rfl,Ai zC]
  rw[hU]
  dsimp only
  rw[Ag rfl]
  have hl:(Bj D).length=(AD D.length).length+(1+(Ei (En D)).length):=by simp[Bj,hpk];omega
  rw[show p+(AD D.length).length+1+(Ei (En D)).length=p+(Bj D).length by omega,show p+(Bj D).length-p=(Bj D).length by omega,htk]
  simp
def Rs.Eh(B:List UInt8):Nat→Rs→Int→List Int→Rs × List Int
 | 0,s,_,out=>(s,out)
 | n+1,s,below,out=>
  if (s.num B).1.k=0 then
   (if below≤((s.num B).2:Int) then ((s.num B).1.fail 13 s.p,[]) else Rs.Eh B n (s.num B).1 (below-(s.num B).2-1) (out++[below-(s.num B).2-1]))
  else ((s.num B).1,[])
def Rs.delta(B:List UInt8)(s:Rs)(below:Int)(most:Int):Rs × List Int:=Rs.Eh B (s.int B most).2 (s.int B most).1 below []
def Rs.stream(B:List UInt8)(s:Rs)(prev:Option Int):Rs × Int:=
 match prev with
 | none=>((s.num B).1,((s.num B).2:Int))
 | some q=>(if 18446744073709551615-q≤((s.num B).2:Int) then (s.num B).1.fail 13 s.p else (s.num B).1,((s.num B).2:Int)+q+1)
def Rs.C3(B:List UInt8)(pos:Int):Nat→Rs→Option Int→List Be→Rs × List Be
 | 0,s,_,out=>(s,out)
 | n+1,s,prev,out=>
  if ((s.stream B prev).1.delta B pos 4).1.k=0 then Rs.C3 B pos n ((s.stream B prev).1.delta B pos 4).1 (some (s.stream B prev).2) (out++[⟨(s.stream B prev).2,((s.stream B prev).1.delta B pos 4).2⟩])
  else (((s.stream B prev).1.delta B pos 4).1,[])
def Rs.links(B:List UInt8)(s:Rs)(pos:Int):Rs × List Be:=Rs.C3 B pos (s.int B 16).2 (s.int B 16).1 none []
def Rs.Cq(B:List UInt8)(s:Rs)(pos most:Int):Rs × List Be × Nat:=
 if ((s.links B pos).1.int B most).1.k=0 then (((s.links B pos).1.int B most).1,(s.links B pos).2,((s.links B pos).1.int B most).2) else (((s.links B pos).1.int B most).1,[],0)
def Rs.Dt(B:List UInt8):Nat→Rs→Int→Int→List (List Be × Nat)→Rs × List (List Be × Nat)
 | 0,s,_,_,out=>(s,out)
 | n+1,s,pos,left,out=>
  if (s.Cq B pos left).1.k=0 then Rs.Dt B n (s.Cq B pos left).1 (pos+1) (left-(s.Cq B pos left).2.2) (out++[(s.Cq B pos left).2]) else ((s.Cq B pos left).1,[])
def D6(l:List (List Be × Nat)):Nat:=(l.map Prod.snd).sum
def Gs:List (List Be × Nat)→List UInt8→List Entry
 | [],_=>[]
 | (l,n)::r,D=>⟨l,D.take n⟩::Gs r (D.drop n)
def Rs.ep(B:List UInt8)(s:Rs):Rs × Nat:=if (s.num B).1.k=0 then (if epR ((s.num B).2:Int)=true then s.num B else ((s.num B).1.fail 3 s.p,0)) else ((s.num B).1,0)
def Rs.po(B:List UInt8)(s:Rs):Rs × Nat:=if (s.num B).1.k=0 then (if poR ((s.num B).2:Int)=true then s.num B else ((s.num B).1.fail 3 s.p,0)) else ((s.num B).1,0)
def Rs.Cf(B:List UInt8)(s:Rs):Rs × Nat × Nat × Nat:=
 ((if Fi (((s.ep B).1.po B).2:Int) (((s.ep B).1.po B).1.int B 16).2=true then (((s.ep B).1.po B).1.int B 16).1 else (((s.ep B).1.po B).1.int B 16).1.fail 3 ((s.ep B).1.po B).1.p),(s.ep B).2,((s.ep B).1.po B).2,(((s.ep B).1.po B).1.int B 16).2)
def Rs.II(blk:Rs→Rs × List UInt8 × Bool)(h:Rs × List (List Be × Nat)):Rs × List Entry × Bool:=
 let p:=blk h.1
 let u:Rs:=if D6 h.2=p.2.1.length then p.1 else p.1.fail 3 h.1.p
 (u,Gs h.2 p.2.1,p.2.2)
def Dp:Batch:=⟨0,0,[]⟩
def Rs.batch(B:List UInt8)(blk:Rs→Rs × List UInt8 × Bool)(s:Rs):Rs × Batch × Bool:=
 let f:=s.Cf B
 if f.1.k=0 then
  let u:=Rs.II blk (Rs.Dt B f.2.2.2 f.1 (f.2.2.1:Int) 1048576 [])
  if u.1.k=0 then (u.1,⟨(f.2.1:Int),(f.2.2.1:Int),u.2.1⟩,u.2.2) else (u.1,Dp,false)
 else (f.1,Dp,false)
def Eb(B:List UInt8)(s:Rs):Rs × List UInt8 × Bool:=((Rs.strict (s.loose B 1048576)).1,(Rs.strict (s.loose B 1048576)).2,true)
def Le(B:List UInt8)(s:Rs):Rs × List UInt8 × Bool:=s.loose B 1048576
theorem Rs.Po:∀(l:List Int) (below:Int) (p:Nat) (out:List Int),Cz below l=true→(∀x∈l,0≤x)→below≤18446744073709551615→B.drop p=CN (BS below l)++rest→p≤B.length→
  Rs.Eh B l.length ⟨p,0,0⟩ below out=(⟨p+(CN (BS below l)).length,0,0⟩,out++l)
 | [],below,p,out,_,_,_,_,_=>by simp[Rs.Eh,BS,CN]
 | x::l,below,p,out,hf,hx,hb,h,hp=>by
  simp only[Cz,Ap,Ao] at hf
  have h0:=hx x zM
  simp only[BS] at h ⊢
  rw[GS,Au] at h
  have hn:(below-x-1).toNat<18446744073709551616:=zC
  have hN:=Rs.DB hn h
  have hd:=A2 h
  have hr:=AX h hp
  simp only[Ay,Rs.Eh]
  rw[hN]
  dsimp only
  rw[Ag rfl,toNat_cast zC,Ai zC,show below-(below-x-1)-1=x by omega,Rs.Po l x _ _ hf.2 (fun y hy=>hx y (by simp[hy])) zC hd zC,GS,Al]
  simp[Cl]
theorem Rs.LO{l:List Int}{most:Int}(hf:Cz pos l=true)(hx:∀x∈l,0≤x)(hb:pos≤18446744073709551615)(h:B.drop p=C6 pos l++rest)(hp:p≤B.length)(hm:(l.length:Int)≤most)(hl:l.length<18446744073709551616):
  (⟨p,0,0⟩:Rs).delta B pos most=(⟨p+(C6 pos l).length,0,0⟩,l):=by
 unfold C6 at h ⊢
 rw[Au] at h
 have hd:=A2 h
 have hr:=AX h hp
 unfold Rs.delta
 rw[Rs.Et hl h hm]
 dsimp only
 rw[Rs.Po l pos _ _ hf hx hb hd zC]
 simp[Cl]
theorem Rs.Nm(hpos:pos≤18446744073709551615):∀(l:List Be) (prev:Option Int) (p:Nat) (out:List Be),(∀x∈l,DL pos x=true∧(0≤x.stream∧x.stream≤18446744073709551615)∧∀y∈x.backs,0≤y)→(∀q,prev=some q→0≤q∧C9 (q::l.map Be.stream)=true)→C9 (l.map Be.stream)=true→B.drop p=Ia pos prev l++rest→p≤B.length→
  Rs.C3 B pos l.length ⟨p,0,0⟩ prev out=(⟨p+(Ia pos prev l).length,0,0⟩,out++l)
 | [],prev,p,out,_,_,_,_,_=>by simp[Rs.C3,Ia]
 | x::l,prev,p,out,hx,hq,hri,h,hp=>by
  obtain⟨hr1,hs,hbk⟩:=hx x zM
  simp only[DL,Ap,Ao] at hr1
  have hnext:∀q,some x.stream=some q→0≤q∧C9 (q::l.map Be.stream)=true:=fun q e=>by
   simp only[BV] at e
   subst e
   exact⟨hs.1,hri⟩
  have hri2:C9 (l.map Be.stream)=true:=by
   simp only[Ca] at hri
   cases hl:l.map Be.stream with
   | nil=>rfl
   | cons y r=>rw [hl] at hri;simp only[C9,Ap] at hri;exact hri.2
  have key:∃y:Int,0≤y∧y≤18446744073709551615∧Ia pos prev (x::l)=AD y.toNat++(C6 pos x.backs++Ia pos (some x.stream) l)∧(B.drop p=AD y.toNat++((C6 pos x.backs++Ia pos (some x.stream) l)++rest)→(⟨p,0,0⟩:Rs).stream B prev=(⟨p+(AD y.toNat).length,0,0⟩,x.stream)):=by
   cases prev with
   | none=>
    refine⟨x.stream,hs.1,hs.2,by simp[Ia],fun h=> ?_⟩
    unfold Rs.stream
    dsimp only
    rw[Rs.DB zC h]
    dsimp only
    rw[toNat_cast hs.1]
   | some q=>
    obtain⟨h0,hq1⟩:=hq q rfl
    simp only[Ca,C9,Ap,Ao] at hq1
    refine⟨x.stream-q-1,zC,zC,by simp[Ia],fun h=> ?_⟩
    unfold Rs.stream
    dsimp only
    rw[Rs.DB zC h]
    dsimp only
    rw[toNat_cast zC,Ai zC]
    refine Prod.ext rfl ?_
    dsimp only
    omega
  obtain⟨y,hy0,hy1,he,hst⟩:=key
  rw[he] at h ⊢
  rw[Au] at h
  have hS:=hst h
  have hd:=A2 h
  have hr:=AX h hp
  rw[Au] at hd
  have hD:=Rs.LO (most:=4) hr1.2 hbk hpos hd zC zC zC
  have hd2:=A2 hd
  have hr2:=AX hd zC
  simp only[Ay,Rs.C3]
  rw[hS]
  dsimp only
  rw[hD]
  dsimp only
  rw[Ag rfl,Rs.Nm hpos l (some x.stream) _ _ (fun z hz=>hx z (by simp[hz])) hnext hri2 hd2 zC]
  simp[Cl]
theorem Rs.Vh{l:List Be}(hpos:pos≤18446744073709551615)(hR:DI pos l=true)(hx:∀x∈l,(0≤x.stream∧x.stream≤18446744073709551615)∧∀y∈x.backs,0≤y)(h:B.drop p=DP pos l++rest)(hp:p≤B.length):
  (⟨p,0,0⟩:Rs).links B pos=(⟨p+(DP pos l).length,0,0⟩,l):=by
 simp only[DI,Ap,Ao,List.all_eq_true] at hR
 unfold DP at h ⊢
 rw[Au] at h
 have hd:=A2 h
 have hr:=AX h hp
 unfold Rs.links
 rw[Rs.Et zC h zC]
 dsimp only
 rw[Rs.Nm hpos l none _ _ (fun x h=>⟨hR.2.2 x h,hx x h⟩) (fun q e=>ZO) hR.2.1 hd zC]
 simp[Cl]
theorem Rs.VJ{most:Int}{e:Entry}(hpos:pos≤18446744073709551615)(hR:D8 pos e=true)(hx:Qz e)(h:B.drop p=FY pos e++rest)(hp:p≤B.length)(hm:(e.data.length:Int)≤most):
  (⟨p,0,0⟩:Rs).Cq B pos most=(⟨p+(FY pos e).length,0,0⟩,e.links,e.data.length):=by
 simp only[D8,Ap,Ao] at hR
 unfold FY at h ⊢
 rw[Au] at h
 have hd:=A2 h
 have hr:=AX h hp
 have hL:=Rs.Vh hpos hR.1 hx h hp
 unfold Rs.Cq
 rw[hL]
 dsimp only
 rw[Rs.Et zC hd hm]
 dsimp only
 rw[Ag rfl]
 simp[Cl]
def GB(l:List Entry):List (List Be × Nat):=l.map fun e=>(e.links,e.data.length)
theorem Rs.O9:∀(l:List Entry) (pos left:Int) (p:Nat) (out:List (List Be × Nat)),C5 pos l=true→(∀e∈l,Qz e)→pos+l.length≤18446744073709551615→(total l:Int)≤left→B.drop p=BW pos l++rest→p≤B.length→
  Rs.Dt B l.length ⟨p,0,0⟩ pos left out=(⟨p+(BW pos l).length,0,0⟩,out++GB l)
 | [],pos,left,p,out,_,_,_,_,_,_=>by simp[Rs.Dt,BW,GB]
 | e::l,pos,left,p,out,hR,hx,hpos,hlt,h,hp=>by
  simp only[C5,Ap] at hR
  simp only[Ay] at hpos
  have ht:total (e::l)=e.data.length+total l:=by simp[total]
  rw[ht] at hlt
  simp only[BW] at h ⊢
  rw[Au] at h
  have hd:=A2 h
  have hr:=AX h hp
  have hE:=Rs.VJ (most:=left) zC hR.1 (hx e zM) h hp zC
  simp only[Ay,Rs.Dt]
  rw[hE]
  dsimp only
  rw[Ag rfl,Rs.O9 l (pos+1) _ _ _ hR.2 (fun z hz=>hx z (by simp[hz])) zC zC hd zC]
  simp[GB,Cl]
theorem UU(l:List Entry):D6 (GB l)=total l:=by
 simp[D6,GB,total,List.map_map,Function.comp_def]
theorem Sc:∀(l:List Entry),Gs (GB l) (BM l)=l
 | []=>rfl
 | e::l=>by
  have:=Sc l
  simp only[GB,Ca,Gs,BM,List.flatMap_cons] at this ⊢
  rw[List.take_left,List.drop_left,this]
theorem Rs.LU{b:Batch}{blk:Rs→Rs × List UInt8 × Bool}(hR:Bg b=true)(hN:Ec b)(h:B.drop p=Bc b++rest)(hp:p≤B.length)
 (hblk:∀q,q≤B.length→B.drop q=Bj (BM b.entries)++rest→blk ⟨q,0,0⟩=(⟨q+(Bj (BM b.entries)).length,0,0⟩,BM b.entries,true)):
  Rs.batch B blk ⟨p,0,0⟩=(⟨p+(Bc b).length,0,0⟩,b,true):=by
 obtain⟨⟨e0,e1⟩,⟨b0,b1⟩,hen⟩:=hN
 simp only[Bg,Ap,Ao] at hR
 obtain⟨hep,hfit,htot,hent⟩:=hR
 have hfit':=hfit
 simp only[Fi,Ao] at hfit'
 unfold Bc JA at h
 simp only[Au] at h
 have hd1:=A2 h
 have hr1:=AX h hp
 have hd2:=A2 hd1
 have hr2:=AX hd1 zC
 have hd3:=A2 hd2
 have hr3:=AX hd2 zC
 have hd4:=A2 hd3
 have hr4:=AX hd3 zC
 have hE:(⟨p,0,0⟩:Rs).ep B=(⟨p+(AD b.epoch.toNat).length,0,0⟩,b.epoch.toNat):=by
  unfold Rs.ep
  rw[Rs.DB zC h]
  dsimp only
  rw[Ag rfl,toNat_cast e0,Ag hep]
 have hP:(⟨p+(AD b.epoch.toNat).length,0,0⟩:Rs).po B=(⟨p+(AD b.epoch.toNat).length+(AD b.base.toNat).length,0,0⟩,b.base.toNat):=by
  unfold Rs.po
  rw[Rs.DB zC hd1]
  dsimp only
  rw[Ag rfl,toNat_cast b0,Ag (by unfold poR;exact Ad (by omega))]
 have hI:=Rs.Et (m:=16) zC hd2 zC
 have hF:(⟨p,0,0⟩:Rs).Cf B=(⟨p+(AD b.epoch.toNat).length+(AD b.base.toNat).length+(AD b.entries.length).length,0,0⟩,b.epoch.toNat,b.base.toNat,b.entries.length):=by
  unfold Rs.Cf
  rw[hE]
  dsimp only
  rw[hP]
  dsimp only
  rw[hI]
  dsimp only
  rw[toNat_cast b0,Ag hfit]
 have hH:=Rs.O9 b.entries b.base 1048576 _ [] hent hen zC zC hd3 zC
 have hBk:=hblk _ zC hd4
 have hsz:D6 (GB b.entries)=(BM b.entries).length:=by rw[UU,DJ]
 generalize hq:p+(AD b.epoch.toNat).length+(AD b.base.toNat).length+(AD b.entries.length).length+(BW b.base b.entries).length=q at*
 have hBB:Rs.II blk (⟨q,0,0⟩,GB b.entries)=(⟨q+(Bj (BM b.entries)).length,0,0⟩,b.entries,true):=by
  unfold Rs.II
  dsimp only
  rw[hBk]
  dsimp only
  rw[Ag hsz,Sc]
 unfold Rs.batch
 dsimp only
 rw[hF]
 dsimp only
 rw[Ag rfl,toNat_cast b0,toNat_cast e0,hH,AG,hBB]
 dsimp only
 rw[Ag rfl,←hq]
 simp only[Bc,JA,Al,Cl]
theorem Kf{c:UInt8}(h:n=c.toNat):UInt8.ofNat n=c:=by
 subst h
 exact UInt8.ofNat_toNat
theorem MR:∀(l:List UInt8) (i x v u:Nat),i≤9→Cn i x l=(v,u,0)→∃y,v=x+y*128^i∧(0<i→0<y)∧l.take (u-i)=G9 (9-i) y∧i<u∧u-i≤l.length
 | [],i,x,v,u,_,h=>by simp[Cn] at h
 | c::l,i,x,v,u,hi,h=>by
  have hc:=c.toNat_lt
  unfold Cn at h
  by_cases h1:i=9∧1<c.toNat
  ·rw[Ag h1] at h;simp at h
  ·rw[Ai h1] at h
   by_cases h2:0<i∧c.toNat=0
   ·rw[Ag h2] at h;simp at h
   ·rw[Ai h2] at h
    by_cases h3:c.toNat<128
    ·rw[Ag h3] at h
     simp only[BF,AI] at h
     obtain⟨rfl,rfl⟩:=h
     refine⟨c.toNat,rfl,fun h=>zC,?_,zC,by rw[Ay];omega⟩
     rw[show i+1-i=1 by omega,DH,Ig]
     obtain⟨f,hf⟩:∃f,f=9-i:=⟨_,rfl⟩
     rw[←hf]
     cases f with
     | zero=>simp only[G9];rw[Kf rfl]
     | succ f=>simp only[G9];rw[Ag h3,Kf rfl]
    ·rw[Ai h3] at h
     have hi9:i<9:=by
      rcases Bl i 9 with h | h
      ·exact h
      ·exact absurd ⟨zC,zC⟩ h1
     obtain⟨y,hv,hy,ht,hu,hlu⟩:=MR l (i+1) _ v u zC h
     have hy0:=hy zC
     refine⟨c.toNat%128+128*y,?_,fun _=>zC,?_,zC,by rw[Ay];omega⟩
     ·rw[hv,FQ,Nat.add_mul]
      generalize 128^i=k
      rw[Lj k 128,←Nat.mul_assoc y 128 k,Lj y 128]
      omega
     ·rw[show u-i=(u-(i+1))+1 by omega,DH,ht,show 9-i=(9-(i+1))+1 by omega]
      simp only[G9]
      rw[Ai zC,Kf (c:=c) zC,show (c.toNat%128+128*y)/128=y by omega]
theorem Rs.F8(hs:s.ok B.length)(h:(s.num B).1.k=0):B.drop s.p=AD (s.num B).2++B.drop (s.num B).1.p∧(s.num B).1.f=0:=by
 have hm:=Rs.Ff h
 have hle:=hs.le
 unfold Rs.num at*
 rw[Ag hm.2] at*
 dsimp only at h ⊢
 obtain⟨y,hv,_,ht,hu,hlu⟩:=MR (B.drop s.p) 0 0 _ _ zC (show Cn 0 0 (B.drop s.p)=((Cn 0 0 (B.drop s.p)).1,(Cn 0 0 (B.drop s.p)).2.1,0) from by rw[←h])
 simp only[Nat.pow_zero,E3,A7,Nat.sub_zero] at hv ht
 refine⟨?_,by rw[Ag h]⟩
 have:AD (Cn 0 0 (B.drop s.p)).1=(B.drop s.p).take (Cn 0 0 (B.drop s.p)).2.1:=by rw[ht,hv];rfl
 rw[this,←Fm,Bn]
theorem Rs.EX(hs:s.ok B.length)(h:(s.int B m).1.k=0):B.drop s.p=AD (s.int B m).2++B.drop (s.int B m).1.p∧((s.int B m).2:Int)≤m∧s.k=0:=by
 unfold Rs.int Rs.most at*
 by_cases h0:0≤m
 ·rw[Ag h0] at h ⊢
  by_cases h1:m.toNat<(s.num B).2
  ·rw[Ag h1] at h;exact absurd h (Rs.BI zC)
  ·rw[Ai h1] at h ⊢
   exact⟨(Rs.F8 hs h).1,zC,(Rs.Ff h).2⟩
 ·rw[Ai h0] at h;exact absurd h (Rs.BI zC)
theorem Rs.RR:∀(n:Nat) (s:Rs) (below:Int) (out:List Int),s.ok B.length→(Rs.Eh B n s below out).1.ok B.length
 | 0,s,below,out,h=>h
 | n+1,s,below,out,h=>by
  simp only[Rs.Eh]
  split
  ·split
   ·exact Rs.Ck (Rs.CZ h) zC
   ·exact Rs.RR n _ _ _ (Rs.CZ h)
  ·exact Rs.CZ h
theorem Rs.NR{below most:Int}(h:s.ok B.length):(s.delta B below most).1.ok B.length:=Rs.RR _ _ _ _ (Rs.Eo h)
theorem Rs.H6{prev:Option Int}(h:s.ok B.length):(s.stream B prev).1.ok B.length:=by
 unfold Rs.stream
 cases prev with
 | none=>exact Rs.CZ h
 | some q=>
  dsimp only
  split
  ·exact Rs.Ck (Rs.CZ h) zC
  ·exact Rs.CZ h
theorem Rs.O3:∀(n:Nat) (s:Rs) (prev:Option Int) (out:List Be),s.ok B.length→(Rs.C3 B pos n s prev out).1.ok B.length
 | 0,s,prev,out,h=>h
 | n+1,s,prev,out,h=>by
  simp only[Rs.C3]
  split
  ·exact Rs.O3 n _ _ _ (Rs.NR (Rs.H6 h))
  ·exact Rs.NR (Rs.H6 h)
theorem Rs.Nl(h:s.ok B.length):(s.links B pos).1.ok B.length:=Rs.O3 _ _ _ _ (Rs.Eo h)
theorem Rs.NQ{most:Int}(h:s.ok B.length):(s.Cq B pos most).1.ok B.length:=by
 unfold Rs.Cq
 split
 ·exact Rs.Eo (Rs.Nl h)
 ·exact Rs.Eo (Rs.Nl h)
theorem Rs.Rw:∀(n:Nat) (s:Rs) (pos left:Int) (out:List (List Be × Nat)),s.ok B.length→(Rs.Dt B n s pos left out).1.ok B.length
 | 0,s,pos,left,out,h=>h
 | n+1,s,pos,left,out,h=>by
  simp only[Rs.Dt]
  split
  ·exact Rs.Rw n _ _ _ _ (Rs.NQ h)
  ·exact Rs.NQ h
theorem Rs.RY(h:s.ok B.length):(s.ep B).1.ok B.length:=by
 unfold Rs.ep
 split
 ·split
  ·exact Rs.CZ h
  ·exact Rs.Ck (Rs.CZ h) zC
 ·exact Rs.CZ h
theorem Rs.Q8(h:s.ok B.length):(s.po B).1.ok B.length:=by
 unfold Rs.po
 split
 ·split
  ·exact Rs.CZ h
  ·exact Rs.Ck (Rs.CZ h) zC
 ·exact Rs.CZ h
theorem Rs.PA(h:s.ok B.length):(s.Cf B).1.ok B.length:=by
 unfold Rs.Cf
 dsimp only
 split
 ·exact Rs.Eo (Rs.Q8 (Rs.RY h))
 ·exact Rs.Ck (Rs.Eo (Rs.Q8 (Rs.RY h))) zC
theorem Rs.Mn:∀(n:Nat) (s:Rs) (below:Int) (out:List Int),s.ok B.length→below≤18446744073709551615→(Rs.Eh B n s below out).1.k=0→
  ∃l:List Int,(Rs.Eh B n s below out).2=out++l∧l.length=n∧Cz below l=true∧(∀x∈l,0≤x)∧B.drop s.p=CN (BS below l)++B.drop (Rs.Eh B n s below out).1.p∧s.k=0
 | 0,s,below,out,hs,_,h=>⟨[],by simp[Rs.Eh],rfl,rfl,zM,by simp[Rs.Eh,BS,CN],h⟩
 | n+1,s,below,out,hs,hb,h=>by
  simp only[Rs.Eh] at h ⊢
  by_cases h1:(s.num B).1.k=0
  ·rw[Ag h1] at h ⊢
   by_cases h2:below≤((s.num B).2:Int)
   ·rw[Ag h2] at h;exact absurd h (Rs.BI zC)
   ·rw[Ai h2] at h ⊢
    obtain⟨l,e1,e2,e3,e4,e5,_⟩:=Rs.Mn n _ _ _ (Rs.CZ hs) zC h
    have hc:=(Rs.F8 hs h1).1
    refine⟨(below-(s.num B).2-1)::l,?_,by simp[e2],?_,?_,?_,(Rs.Ff h1).2⟩
    ·rw[e1];simp
    ·simp only[Cz];rw[e3,Bool.and_true];exact Ad zC
    ·intro x hx
     rcases List.mem_cons.1 hx with rfl | hx
     ·omega
     ·exact e4 x hx
    ·simp only[BS]
     rw[GS,Au,←e5,show (below-(below-((s.num B).2:Int)-1)-1).toNat=(s.num B).2 by omega]
     exact hc
  ·rw[Ai h1] at h;exact absurd h h1
theorem Rs.Mo{B:List UInt8}{s:Rs}{below most:Int}(hs:s.ok B.length)(hb:below≤18446744073709551615)(h:(s.delta B below most).1.k=0):
  Cz below (s.delta B below most).2=true∧((s.delta B below most).2.length:Int)≤most∧(∀x∈(s.delta B below most).2,0≤x)∧B.drop s.p=C6 below (s.delta B below most).2++B.drop (s.delta B below most).1.p∧s.k=0:=by
 unfold Rs.delta at*
 obtain⟨l,e1,e2,e3,e4,e5,e6⟩:=Rs.Mn _ _ _ _ (Rs.Eo hs) hb h
 have hi:=Rs.EX hs e6
 rw[AG] at e1
 rw[e1]
 refine⟨e3,by rw[e2];exact hi.2.1,e4,?_,hi.2.2⟩
 unfold C6
 rw[Au,←e5,e2]
 exact hi.1
theorem Rs.PM{prev:Option Int}(hs:s.ok B.length)(hp:∀q,prev=some q→0≤q∧q≤18446744073709551615)(h:(s.stream B prev).1.k=0):
  (0≤(s.stream B prev).2∧(s.stream B prev).2≤18446744073709551615)∧(∀q,prev=some q→q<(s.stream B prev).2)∧B.drop s.p=AD (match prev with | none=>(s.stream B prev).2 | some q=>(s.stream B prev).2-q-1).toNat++B.drop (s.stream B prev).1.p∧s.k=0:=by
 have hsm:=Rs.ET (B:=B) (s:=s)
 unfold Rs.stream at*
 cases prev with
 | none=>
  dsimp only at h ⊢
  have hc:=(Rs.F8 hs h).1
  exact⟨⟨zC,zC⟩,fun q e=>ZO,by rw[Ex];exact hc,(Rs.Ff h).2⟩
 | some q=>
  have hq:=hp q rfl
  dsimp only at h ⊢
  by_cases h1:18446744073709551615-q≤((s.num B).2:Int)
  ·rw[Ag h1] at h;exact absurd h (Rs.BI zC)
  ·rw[Ai h1] at h ⊢
   have hc:=(Rs.F8 hs h).1
   refine⟨⟨zC,zC⟩,fun q' e=> ?_,?_,(Rs.Ff h).2⟩
   ·simp only[BV] at e;omega
   ·rw[show (((s.num B).2:Int)+q+1-q-1).toNat=(s.num B).2 by omega]
    exact hc
theorem Rs.KP(hpos:pos≤18446744073709551615):∀(n:Nat) (s:Rs) (prev:Option Int) (out:List Be),s.ok B.length→(∀q,prev=some q→0≤q∧q≤18446744073709551615)→(Rs.C3 B pos n s prev out).1.k=0→
  ∃l:List Be,(Rs.C3 B pos n s prev out).2=out++l∧l.length=n∧C9 (l.map Be.stream)=true∧(∀q,prev=some q→C9 (q::l.map Be.stream)=true)∧(∀x∈l,DL pos x=true∧Rl x)∧B.drop s.p=Ia pos prev l++B.drop (Rs.C3 B pos n s prev out).1.p∧s.k=0
 | 0,s,prev,out,hs,_,h=>⟨[],by simp[Rs.C3],rfl,rfl,fun q _=>rfl,zM,by simp[Rs.C3,Ia],h⟩
 | n+1,s,prev,out,hs,hp,h=>by
  simp only[Rs.C3] at h ⊢
  by_cases h1:((s.stream B prev).1.delta B pos 4).1.k=0
  ·rw[Ag h1] at h ⊢
   obtain⟨d1,d2,d3,d4,d5⟩:=Rs.Mo (Rs.H6 hs) hpos h1
   obtain⟨s1,s2,s3,s4⟩:=Rs.PM hs hp d5
   obtain⟨l,e1,e2,e3,e4,e5,e6,_⟩:=Rs.KP hpos n _ _ _ (Rs.NR (Rs.H6 hs)) (fun q e=>by simp only[BV] at e;subst e;exact s1) h
   refine⟨⟨(s.stream B prev).2,((s.stream B prev).1.delta B pos 4).2⟩::l,?_,by simp[e2],?_,?_,?_,?_,s4⟩
   ·rw[e1];simp
   ·exact e4 _ rfl
   ·intro q hq
    have:=e4 _ rfl
    simp only[Ca,C9]
    rw[Ap]
    exact⟨Ad (s2 q hq),this⟩
   ·intro x hx
    rcases List.mem_cons.1 hx with rfl | hx
    ·refine⟨?_,s1,d3⟩
     simp only[DL,Ap,Ao]
     exact⟨zC,d1⟩
    ·exact e5 x hx
   ·rw[s3,d4,e6]
    cases prev<;>simp only[Ia,Au]
  ·rw[Ai h1] at h;exact absurd h h1
theorem Rs.Rj{B:List UInt8}{s:Rs}{pos:Int}(hs:s.ok B.length)(hpos:pos≤18446744073709551615)(h:(s.links B pos).1.k=0):
  DI pos (s.links B pos).2=true∧(∀x∈(s.links B pos).2,Rl x)∧B.drop s.p=DP pos (s.links B pos).2++B.drop (s.links B pos).1.p∧s.k=0:=by
 unfold Rs.links at*
 obtain⟨l,e1,e2,e3,_,e5,e6,e7⟩:=Rs.KP hpos _ _ _ _ (Rs.Eo hs) (fun q e=>ZO) h
 have hi:=Rs.EX hs e7
 rw[AG] at e1
 rw[e1]
 refine⟨?_,fun x hx=>(e5 x hx).2,?_,hi.2.2⟩
 ·simp only[DI,Ap,Ao,List.all_eq_true]
  exact⟨zC,e3,fun x hx=>(e5 x hx).1⟩
 ·unfold DP
  rw[Au,←e6,e2]
  exact hi.1
theorem Rs.R8{B:List UInt8}{s:Rs}{pos most:Int}(hs:s.ok B.length)(hpos:pos≤18446744073709551615)(hmo:most≤1048576)(h:(s.Cq B pos most).1.k=0):
  DI pos (s.Cq B pos most).2.1=true∧(∀x∈(s.Cq B pos most).2.1,Rl x)∧((s.Cq B pos most).2.2:Int)≤most∧B.drop s.p=DP pos (s.Cq B pos most).2.1++(AD (s.Cq B pos most).2.2++B.drop (s.Cq B pos most).1.p)∧s.k=0:=by
 unfold Rs.Cq at*
 by_cases h1:((s.links B pos).1.int B most).1.k=0
 ·rw[Ag h1] at h ⊢
  have hi:=Rs.EX (Rs.Nl hs) h1
  have hl:=Rs.Rj hs hpos hi.2.2
  dsimp only
  exact⟨hl.1,hl.2.1,hi.2.1,by rw[←hi.1];exact hl.2.2.1,hl.2.2.2⟩
 ·rw[Ai h1] at h;exact absurd h h1
theorem Rs.Me:∀(n:Nat) (s:Rs) (pos left:Int) (out:List (List Be × Nat)),s.ok B.length→pos+n≤18446744073709551615→left≤1048576→(Rs.Dt B n s pos left out).1.k=0→
  ∃l:List (List Be × Nat),(Rs.Dt B n s pos left out).2=out++l∧l.length=n∧((D6 l:Int)≤left∨l=[])∧(∀D:List UInt8,D.length=D6 l→C5 pos (Gs l D)=true∧(∀e∈Gs l D,Qz e)∧B.drop s.p=BW pos (Gs l D)++B.drop (Rs.Dt B n s pos left out).1.p∧BM (Gs l D)=D∧(Gs l D).length=n)∧s.k=0
 | 0,s,pos,left,out,hs,_,_,h=>⟨[],by simp[Rs.Dt],rfl,.inr rfl,fun D hD=>by
   have:D=[]:=AQ (by simpa [D6] using hD)
   subst this
   exact⟨rfl,by simp[Gs],by simp[Rs.Dt,Gs,BW],rfl,rfl⟩,h⟩
 | n+1,s,pos,left,out,hs,hpos,hle,h=>by
  simp only[Rs.Dt] at h ⊢
  by_cases h1:(s.Cq B pos left).1.k=0
  ·rw[Ag h1] at h ⊢
   obtain⟨c1,c2,c3,c4,c5⟩:=Rs.R8 hs zC hle h1
   obtain⟨l,e1,e2,e3,e4,_⟩:=Rs.Me n _ _ _ _ (Rs.NQ hs) zC zC h
   refine⟨(s.Cq B pos left).2::l,?_,by simp[e2],?_,?_,c5⟩
   ·rw[e1];simp
   ·left
    simp only[D6,Ca,List.sum_cons]
    rcases e3 with e3 | e3
    ·unfold D6 at e3;omega
    ·rw[e3];simp;omega
   ·intro D hD
    simp only[D6,Ca,List.sum_cons] at hD
    obtain⟨f1,f2,f3,f4,f5⟩:=e4 (D.drop (s.Cq B pos left).2.2) (by simp[D6];omega)
    have htl:(D.take (s.Cq B pos left).2.2).length=(s.Cq B pos left).2.2:=zI
    generalize (s.Cq B pos left).2=E at*
    obtain⟨L,m⟩:=E
    dsimp only at*
    simp only[Gs]
    refine⟨?_,?_,?_,?_,by simp[f5]⟩
    ·simp only[C5,D8,Ap,Ao]
     exact⟨⟨c1,by rw[htl];omega⟩,f1⟩
    ·intro e he
     rcases List.mem_cons.1 he with rfl | he
     ·exact c2
     ·exact f2 e he
    ·simp only[BW,FY]
     rw[htl,Au,Au,←f3]
     exact c4
    ·simp only[BM,List.flatMap_cons] at f4 ⊢
     rw[f4,Bn]
  ·rw[Ai h1] at h;exact absurd h h1
theorem Rs.NN(hs:s.ok B.length)(h:(s.ep B).1.k=0):epR ((s.ep B).2:Int)=true∧B.drop s.p=AD (s.ep B).2++B.drop (s.ep B).1.p∧s.k=0:=by
 unfold Rs.ep at*
 by_cases h1:(s.num B).1.k=0
 ·rw[Ag h1] at h ⊢
  by_cases h2:epR ((s.num B).2:Int)=true
  ·rw[Ag h2];exact⟨h2,(Rs.F8 hs h1).1,(Rs.Ff h1).2⟩
  ·rw[Ai h2] at h;exact absurd h (Rs.BI zC)
 ·rw[Ai h1] at h;exact absurd h h1
theorem Rs.Na(hs:s.ok B.length)(h:(s.po B).1.k=0):poR ((s.po B).2:Int)=true∧B.drop s.p=AD (s.po B).2++B.drop (s.po B).1.p∧s.k=0:=by
 unfold Rs.po at*
 by_cases h1:(s.num B).1.k=0
 ·rw[Ag h1] at h ⊢
  by_cases h2:poR ((s.num B).2:Int)=true
  ·rw[Ag h2];exact⟨h2,(Rs.F8 hs h1).1,(Rs.Ff h1).2⟩
  ·rw[Ai h2] at h;exact absurd h (Rs.BI zC)
 ·rw[Ai h1] at h;exact absurd h h1
theorem Rs.QF(hs:s.ok B.length)(h:(s.Cf B).1.k=0):epR ((s.Cf B).2.1:Int)=true∧Fi ((s.Cf B).2.2.1:Int) (s.Cf B).2.2.2=true∧B.drop s.p=AD (s.Cf B).2.1++(AD (s.Cf B).2.2.1++(AD (s.Cf B).2.2.2++B.drop (s.Cf B).1.p))∧s.k=0:=by
 unfold Rs.Cf at*
 dsimp only at h ⊢
 by_cases h1:Fi (((s.ep B).1.po B).2:Int) (((s.ep B).1.po B).1.int B 16).2=true
 ·rw[Ag h1] at h ⊢
  have hi:=Rs.EX (Rs.Q8 (Rs.RY hs)) h
  have hp:=Rs.Na (Rs.RY hs) hi.2.2
  have he:=Rs.NN hs hp.2.2
  exact⟨he.1,h1,by rw[←hi.1,←hp.2.1];exact he.2.1,he.2.2⟩
 ·rw[Ai h1] at h;exact absurd h (Rs.BI zC)
theorem Rs.Hs{blk:Rs→Rs × List UInt8 × Bool}(hs:s.ok B.length)(h:(Rs.batch B blk s).1.k=0)(hblk:∀t:Rs,(blk t).1.k=0→t.k=0)(hlen:∀t,(blk t).2.1.length≤1048576):
  Bg (Rs.batch B blk s).2.1=true∧Ec (Rs.batch B blk s).2.1∧∃t:Rs,t.ok B.length∧B.drop s.p=JA (Rs.batch B blk s).2.1++B.drop t.p∧(Rs.batch B blk s).1=(blk t).1∧BM (Rs.batch B blk s).2.1.entries=(blk t).2.1∧(Rs.batch B blk s).2.2=(blk t).2.2∧t.k=0:=by
 unfold Rs.batch at*
 dsimp only at h ⊢
 by_cases h1:(s.Cf B).1.k=0
 ·rw[Ag h1] at h ⊢
  generalize hH:Rs.Dt B (s.Cf B).2.2.2 (s.Cf B).1 ((s.Cf B).2.2.1:Int) 1048576 []=H at*
  by_cases h2:(Rs.II blk H).1.k=0
  ·rw[Ag h2]
   unfold Rs.II at h2 ⊢
   dsimp only at h2 ⊢
   by_cases h3:D6 H.2=(blk H.1).2.1.length
   ·rw[Ag h3] at h2 ⊢
    have hHk:=hblk _ h2
    have hf:=Rs.QF hs h1
    have hfit:=hf.2.1
    simp only[Fi,Ao] at hfit
    obtain⟨l,e1,e2,_,e4,_⟩:=Rs.Me (s.Cf B).2.2.2 (s.Cf B).1 ((s.Cf B).2.2.1:Int) 1048576 [] (Rs.PA hs) zC zC (by rw[hH];exact hHk)
    rw[hH,AG] at e1
    obtain⟨f1,f2,f3,f4,f5⟩:=e4 (blk H.1).2.1 (by rw[←h3,e1])
    rw[hH] at f3
    rw[e1]
    have hep:=hf.1
    simp only[epR,Ao] at hep
    refine⟨?_,⟨⟨zH,zH⟩,⟨zH,zH⟩,f2⟩,H.1,?_,?_,rfl,f4,rfl,hHk⟩
    ·simp only[Bg,Ap,Ao]
     refine⟨hf.1,by rw[f5];exact hf.2.1,?_,f1⟩
     rw[←DJ,f4]
     exact hlen _
    ·rw[←hH];exact Rs.Rw _ _ _ _ _ (Rs.PA hs)
    ·unfold JA
     dsimp only
     rw[Ex,Ex,f5,Au,Au,Au,←f3]
     exact hf.2.2.1
   ·rw[Ai h3] at h2;exact absurd h2 (Rs.BI zC)
  ·rw[Ai h2] at h;exact absurd h h2
 ·rw[Ai h1] at h;exact absurd h h1
structure CS(w W:World)(g:Nat)(B:List UInt8)(a:Option Addr)(s:Rs):Prop where
 rd:AS W g B a s
 dat:Am.r (fun q=>q<w.heap.size∧q≠g) W [.slice a B.length B.length] B
 tch:Tch (·=g) w W
 lt:g<w.heap.size
section
variable {w W W':World} {g:Nat} {B:List UInt8} {a:Option Addr} {s s':Rs}
theorem CS.refl(h:AS w g B a s):CS w w g B a s:=⟨h,h.dat,Tch.refl _ _,h.blk.lt⟩
theorem CS.step(h:CS w W g B a s)(k:AE W g B a s' W'):CS w W' g B a s':=
 ⟨k.1,Am.keep h.dat fun q hq=>k.2.block q (An hq.1 h.tch.size) hq.2,h.tch.trans k.2 fun _ _ h=>h,h.lt⟩
theorem CS.row(h:CS w W g B a s)(hb:Below w.heap.size W W'):CS w W' g B a s:=by
 have hd:=Am.keep h.dat (w':=W') fun q hq=>hb.block q hq.1
 have hs:=h.tch.size
 have hs2:=hb.size
 exact⟨⟨h.rd.blk.below hb h.lt,Am.mono hd fun q hq=>⟨zC,hq.2⟩,h.rd.ok⟩,hd,h.tch.trans (Tch.Ef hb) (fun b hb hle=>zC),h.lt⟩
theorem CS.to(h:CS w W g B a s):AE w g B a s W:=⟨h.rd,h.tch⟩
theorem WI{size:Nat}(h:W.ownsRow base e size v n xs)(hg:g<base)(hb:Tch (·=g) W W'):W'.ownsRow base e size v n xs:=by
 refine⟨h.1,?_⟩
 rcases h.2 with h0 | ⟨g',cap,cur,h1,h2,h3,h4⟩
 ·exact .inl h0
 ·exact .inr ⟨g',cap,cur,h1,h2,(hb.block _ (Blk.lt h3) zC).trans h3,h4⟩
end
theorem Ks(w:World){g:Nat}{B:List UInt8}{a:Option Addr}{s:Rs}(h:AS w g B a s)(hB:B.length≤1000000000)(below:Int)(hbl:0≤below∧below≤18446744073709551615)(most:Int)(hmo:0≤most∧most≤1000):
  Calls Tryz.prog 349 #[.pointer (some ⟨g,0,none⟩),.int .u64 below,.int .i64 most] w fun r w'=>∃v,r=.returned v∧Cb.r (fun q=>w.heap.size≤q∧q<w'.heap.size) w' [v] (s.delta B below most).2∧AE w g B a (s.delta B below most).1 w':=by
 obtain⟨i0,hi,hz0,hz1,hz2⟩:=A5 Um
 have HI:=hid (CE w h zC most zC)
 have hNm:=Rs.E6 (B:=B) (s:=s) (m:=most)
 have hlt:=h.blk.lt
 have HIN:=hid (CS.refl h)
 unfold Rs.delta
 generalize s.int B most=I at*
 obtain⟨s1,N⟩:=I
 dsimp only at*
 have hN:N≤1000:=zC
 clear h
 go_enter Tryz.func349,Tryz.ntmps349
 go_wp2_with fail
 refine HI.out.mono ?_
 rintro r w1 ⟨rfl,hst⟩
 have HIN1:=hid (HIN.out.step hst)
 clear hst
 go_wp2_with fail
 go_loopw [1,7,13] (fun b v i wr=>∃(k:Nat) (bel:Int) (J:List Int) (st:Rs),k≤N∧i=.int .i64 k∧b=.int .u64 bel∧0≤bel∧bel≤18446744073709551615∧Hid (J.length=k)∧wr.ownsRow w.heap.size 36 1 v J.length (CX J)∧Hid (∀x∈J,0≤x∧x≤18446744073709551615)∧Hid (CS w wr g B a st)∧Hid (Rs.Eh B N s1 below []=Rs.Eh B (N-k) st bel J)) (fun _ _ i _=>N-(intOf i).toNat)
 case atStart=>exact ⟨0,below,[],s1,Ar _,rfl,rfl,hbl.1,hbl.2,hid rfl,⟨rfl,.inl ⟨rfl,rfl⟩⟩,hid zM,HIN1,hid rfl⟩
 case round=>
  obtain⟨k,bel,J,st,hk,rfl,rfl,hb0,hb1,hJl,hown,hJb,hin,hsp⟩:=hrel
  obtain⟨av,cv,rfl⟩:=AV hown
  have hJ9:J.length≤1000:=zAh
  rcases Bl k N with hlt2 | hge
  ·have HAT:=hid (Cd wr hin.out.rd)
   have HVR:=hid (CW wr hin.out.rd zC)
   have hx:=Rs.ET (B:=B) (s:=st)
   have hxb:=Rs.P7 (B:=B) (s:=st)
   have hstep:Rs.Eh B (N-k) st bel J=(if (st.num B).1.k=0 then (if bel≤((st.num B).2:Int) then ((st.num B).1.fail 13 st.p,[]) else Rs.Eh B (N-(k+1)) (st.num B).1 (bel-(st.num B).2-1) (J++[bel-(st.num B).2-1])) else ((st.num B).1,[])):=by
    rw[show N-k=(N-(k+1))+1 by omega];rfl
   have HO:=hid hown
   have i1:(k:Int)<(N:Int):=zC
   have d1:decide ((k:Int)<(N:Int))=true:=Ad i1
   have d1':decide (k<N)=true:=Ad hlt2
   generalize st.num B=R at*
   obtain⟨st1,x⟩:=R
   dsimp only at*
   have HBAD:=hid hxb
   clear hown hxb
   by_cases hk1:st1.k=0
   ·rw[Ag hk1] at hstep
    by_cases hbx:bel≤(x:Int)
    ·rw[Ag hbx] at hstep
     have d2:decide (bel≤(x:Int))=true:=Ad hbx
     have hfk:(st1.fail 13 st.p).k≠0:=Rs.BI zC
     have HSP:=hid (hsp.out.trans hstep)
     clear hstep hsp hk1
     go_wp2_with fail
     refine HAT.out.mono ?_
     rintro r w2 ⟨rfl,rfl⟩
     go_wp2_with fail
     refine HVR.out.mono ?_
     rintro r w3 ⟨rfl,hst3⟩
     have HIN3:=hid (hin.out.step hst3)
     clear hst3
     go_wp2_with fail
     refine (Bx w3 HIN3.out.rd 13 (st.p:Int) zC).mono ?_
     rintro r w4 ⟨rfl,hst4⟩
     have HIN4:=hid (HIN3.out.step hst4)
     have hg:=AK w4 HIN4.out.rd
     rw[Ae hfk] at hg
     have HG:=hid hg
     clear hst4 hg hfk
     go_wp2_with fail
     refine HG.out.mono ?_
     rintro r w5 ⟨rfl,hb5⟩
     have HE:=hid (HIN4.out.to.then hb5)
     go_wp2
     go_ret
     rw[HSP.out]
     exact⟨_,rfl,Bv (xs:=[]) rfl (As _) (Ar _) (.inl rfl),HE.out⟩
    ·rw[Ai hbx] at hstep
     have d2:decide (bel≤(x:Int))=false:=Ae hbx
     have HSP:=hid (hsp.out.trans hstep)
     have w1':0≤bel-((x:Int)+1):=zC
     have w2':(x:Int)+1≤18446744073709551615:=zC
     have hk1':decide (st1.k=0)=true:=Ad hk1
     clear hstep hsp hk1
     go_wp2_with fail
     refine HAT.out.mono ?_
     rintro r w2 ⟨rfl,rfl⟩
     go_wp2_with fail
     refine HVR.out.mono ?_
     rintro r w3 ⟨rfl,hst3⟩
     have HIN3:=hid (hin.out.step hst3)
     have HO3:=hid (WI HO.out hlt hst3.2)
     have hg:=AK w3 HIN3.out.rd
     rw[hk1'] at hg
     have HG:=hid hg
     clear hst3 hg hk1'
     go_wp2_with fail
     refine HG.out.mono ?_
     rintro r w4 ⟨rfl,hb4⟩
     have HIN4:=hid (HIN3.out.step (AE.later HIN3.out.rd hb4))
     have HO4:=hid (Bz HO3.out hb4)
     have hsz4:=HIN4.out.tch.size
     clear hb4
     go_wp2_with (at_builtin;go_loud (refine AB rfl _ _ _ rfl w.heap.size 36 i0 (.int .u64 0) 1 8 Hu hi hz0 hz1 hz2 rfl zL (.slice av J.length cv) J.length _ rfl (Bz HO4.out zA) (some ⟨w4.heap.size,0,none⟩) 1 1 [.int .u64 (bel-((x:Int)+1))] rfl (BU _ 36 _ rfl zM rfl) zAj zO zC zI ?_;intro v' w5 hown5 hgrow5 hat5;obtain⟨a5,c5,rfl⟩:=AV hown5;have HO5:=hid hown5;have hb5:Below w.heap.size w4 w5:=(Below.grown ((by (repeat (first | with_reducible exact Below.refl _ _ | with_reducible assumption | (with_reducible refine Aw ?_ _) | (with_reducible refine Below.setCell ?_ zE _) | (with_reducible refine Below.drew ?_) | (with_reducible refine below_drewN ?_ _) | (refine Aj zG ?_))):Below w4.heap.size w4 _).mono hsz4) hgrow5 zI (fun g e=>(HO4.out.lt g e).1));clear hown5 hgrow5 hat5))
     have HIN5:=hid (HIN4.out.row hb5)
     have ho5:w5.ownsRow w.heap.size 36 1 (.slice a5 (J.length+1) c5) (J++[bel-((x:Int)+1)]).length (CX (J++[bel-((x:Int)+1)])):=by
      have e:CX (J++[bel-((x:Int)+1)])=CX J++[.int .u64 (bel-((x:Int)+1))]:=by simp[CX]
      rw[e,Al]
      exact HO5.out
     have HO6:=hid ho5
     have HB6:Hid (∀y∈J++[bel-((x:Int)+1)],0≤y∧y≤18446744073709551615):=hid (fun y hy=>by
      rw[G7,B8] at hy
      rcases hy with hy | rfl
      ·exact hJb.out y hy
      ·omega)
     have HSP6:Hid (Rs.Eh B N s1 below []=Rs.Eh B (N-(k+1)) st1 (bel-((x:Int)+1)) (J++[bel-((x:Int)+1)])):=hid (by rw[HSP.out,show bel-(x:Int)-1=bel-((x:Int)+1) by omega])
     clear ho5
     go_roundw
     case rel=>exact ⟨k+1,bel-((x:Int)+1),J++[bel-((x:Int)+1)],st1,zC,zT,rfl,zC,zC,hid (by simp;exact hJl.out),HO6.out,HB6,HIN5,HSP6⟩
     case measure=>simp [intOf];omega
   ·rw[Ai hk1] at hstep
    have HSP:=hid (hsp.out.trans hstep)
    have hx0:=HBAD.out hk1
    subst hx0
    have hk1':decide (st1.k=0)=false:=Ae hk1
    have hfid:st1.fail 13 st.p=st1:=Rs.Bt hk1
    clear hstep hsp hk1
    by_cases hbx:bel≤0
    ·have d2:decide (bel≤((0:Nat):Int))=true:=Ad zC
     have d2':decide (bel≤0)=true:=Ad hbx
     go_wp2_with fail
     refine HAT.out.mono ?_
     rintro r w2 ⟨rfl,rfl⟩
     go_wp2_with fail
     refine HVR.out.mono ?_
     rintro r w3 ⟨rfl,hst3⟩
     have HIN3:=hid (hin.out.step hst3)
     clear hst3
     go_wp2_with fail
     refine (Bx w3 HIN3.out.rd 13 (st.p:Int) zC).mono ?_
     rintro r w4 ⟨rfl,hst4⟩
     rw[hfid] at hst4
     have HIN4:=hid (HIN3.out.step hst4)
     have hg:=AK w4 HIN4.out.rd
     rw[hk1'] at hg
     have HG:=hid hg
     clear hst4 hg hk1' hfid
     go_wp2_with fail
     refine HG.out.mono ?_
     rintro r w5 ⟨rfl,hb5⟩
     have HE:=hid (HIN4.out.to.then hb5)
     go_wp2
     go_ret
     rw[HSP.out]
     exact⟨_,rfl,Bv (xs:=[]) rfl (As _) (Ar _) (.inl rfl),HE.out⟩
    ·have d2:decide (bel≤((0:Nat):Int))=false:=Ae zC
     have d2':decide (bel≤0)=false:=Ae hbx
     go_wp2_with fail
     refine HAT.out.mono ?_
     rintro r w2 ⟨rfl,rfl⟩
     go_wp2_with fail
     refine HVR.out.mono ?_
     rintro r w3 ⟨rfl,hst3⟩
     have HIN3:=hid (hin.out.step hst3)
     have hg:=AK w3 HIN3.out.rd
     rw[hk1'] at hg
     have HG:=hid hg
     clear hst3 hg hk1' hfid
     go_wp2_with fail
     refine HG.out.mono ?_
     rintro r w5 ⟨rfl,hb5⟩
     have HE:=hid (HIN3.out.to.then hb5)
     go_wp2
     go_ret
     rw[HSP.out]
     exact⟨_,rfl,Bv (xs:=[]) rfl (As _) (Ar _) (.inl rfl),HE.out⟩
  ·obtain rfl:k=N:=by omega
   have d1:decide ((k:Int)<(k:Int))=false:=Ae zC
   have HSP:Hid (Rs.Eh B k s1 below []=(st,J)):=hid (by rw[hsp.out,Nat.sub_self];rfl)
   have HV:=hid (Is hJb.out rfl hown)
   have HE:=hid hin.out.to
   clear hown hsp
   go_wp2
   go_ret
   rw[HSP.out]
   exact⟨_,rfl,HV.out,HE.out⟩
structure Rs.sh(L:Nat)(s:Rs):Prop where
 code:s.k=1
 pl:s.f=L
theorem Rs.sh.GP(h:s.sh L):s.k≠0:=by rw[h.code];decide
theorem Rs.Tn(h:s.k≠0):s.int B m=(s,0):=by
 unfold Rs.int Rs.most
 rw[Rs.Kg h]
 split
 ·rw[Ai zH]
 ·rw[Rs.Bt h]
theorem Rs.Hq(h:s.k≠0):s.byte B=(s,0):=by
 unfold Rs.byte
 rw[Rs.LZ h]
 rfl
theorem Rs.Qc(h:s.k≠0):s.loose B m=(s,[],false):=by
 unfold Rs.loose
 rw[Rs.Tn h]
 dsimp only
 rw[Rs.Hq h]
 dsimp only
 rw[Ai h]
theorem Ox(w:World){g:Nat}{B:List UInt8}{a:Option Addr}{s:Rs}(h:AS w g B a s)(hB:B.length≤1000000000):
  Calls Tryz.prog 255 #[.pointer (some ⟨g,0,none⟩),.func (Fn.func 142) #[] #[]] w fun r w'=>r=.returned (.int .u64 ((s.ep B).2:Int))∧AE w g B a (s.ep B).1 w':=by
 have HAT:=hid (Cd w h)
 have HVR:=hid (CW w h zC)
 have hxb:=Rs.P7 (B:=B) (s:=s)
 have HIN:=hid (CS.refl h)
 unfold Rs.ep
 generalize s.num B=R at*
 obtain⟨st1,x⟩:=R
 dsimp only at*
 have HRT:=hid (fun (W:World)=>ED (x:Int) W)
 have HBAD:=hid hxb
 clear h hxb
 by_cases hk1:st1.k=0
 ·rw[Ag hk1]
  by_cases hr:epR (x:Int)=true
  ·rw[Ag hr]
   rw[hr] at HRT
   have HK:Hid (decide (st1.k=0)=true):=hid (Ad hk1)
   clear hk1 hr
   go_enter Tryz.func255,Tryz.ntmps255
   go_wp2_with fail
   refine HAT.out.mono ?_
   rintro r w2 ⟨rfl,rfl⟩
   go_wp2_with fail
   refine HVR.out.mono ?_
   rintro r w3 ⟨rfl,hst3⟩
   have HIN3:=hid (HIN.out.step hst3)
   clear hst3
   go_wp2_with fail
   refine (HRT.out w3).mono ?_
   rintro r w3' ⟨rfl,rfl⟩
   go_wp2_with fail
   refine ((by have:=AK w3 HIN3.out.rd;rw[HK.out] at this;exact this:Calls Tryz.prog 112 #[.pointer (some ⟨g,0,none⟩)] w3 fun r w'=>r=.returned (.bool true)∧Below w3.heap.size w3 w')).mono ?_
   rintro r w5 ⟨rfl,hb5⟩
   have HE:=hid (HIN3.out.to.then hb5)
   go_wp2
   go_ret
   exact⟨rfl,HE.out⟩
  ·rw[Ai hr]
   rw[Bool.eq_false_iff.2 hr] at HRT
   have hfk:(st1.fail 3 s.p).k≠0:=Rs.BI zC
   clear hk1 hr
   go_enter Tryz.func255,Tryz.ntmps255
   go_wp2_with fail
   refine HAT.out.mono ?_
   rintro r w2 ⟨rfl,rfl⟩
   go_wp2_with fail
   refine HVR.out.mono ?_
   rintro r w3 ⟨rfl,hst3⟩
   have HIN3:=hid (HIN.out.step hst3)
   clear hst3
   go_wp2_with fail
   refine (HRT.out w3).mono ?_
   rintro r w3' ⟨rfl,rfl⟩
   go_wp2_with fail
   refine (Bx w3 HIN3.out.rd 3 (s.p:Int) zC).mono ?_
   rintro r w4 ⟨rfl,hst4⟩
   have HIN4:=hid (HIN3.out.step hst4)
   have hg:=AK w4 HIN4.out.rd
   rw[Ae hfk] at hg
   have HG:=hid hg
   clear hst4 hg hfk
   go_wp2_with fail
   refine HG.out.mono ?_
   rintro r w5 ⟨rfl,hb5⟩
   have HE:=hid (HIN4.out.to.then hb5)
   go_wp2
   go_ret
   exact⟨rfl,HE.out⟩
 ·rw[Ai hk1]
  have hx0:=HBAD.out hk1
  subst hx0
  have hfk:st1.k≠0:=hk1
  have hfid:st1.fail 3 s.p=st1:=Rs.Bt hk1
  rw[show epR ((0:Nat):Int)=false from zL] at HRT
  clear hk1
  go_enter Tryz.func255,Tryz.ntmps255
  go_wp2_with fail
  refine HAT.out.mono ?_
  rintro r w2 ⟨rfl,rfl⟩
  go_wp2_with fail
  refine HVR.out.mono ?_
  rintro r w3 ⟨rfl,hst3⟩
  have HIN3:=hid (HIN.out.step hst3)
  clear hst3
  go_wp2_with fail
  refine (HRT.out w3).mono ?_
  rintro r w3' ⟨rfl,rfl⟩
  go_wp2_with fail
  refine (Bx w3 HIN3.out.rd 3 (s.p:Int) zC).mono ?_
  rintro r w4 ⟨rfl,hst4⟩
  rw[hfid] at hst4
  clear hfid
  have HIN4:=hid (HIN3.out.step hst4)
  have hg:=AK w4 HIN4.out.rd
  rw[Ae hfk] at hg
  have HG:=hid hg
  clear hst4 hg hfk
  go_wp2_with fail
  refine HG.out.mono ?_
  rintro r w5 ⟨rfl,hb5⟩
  have HE:=hid (HIN4.out.to.then hb5)
  go_wp2
  go_ret
  exact⟨rfl,HE.out⟩
theorem Kp(w:World){g:Nat}{B:List UInt8}{a:Option Addr}{s:Rs}(h:AS w g B a s)(hB:B.length≤1000000000):
  Calls Tryz.prog 188 #[.pointer (some ⟨g,0,none⟩)] w fun r w'=>r=.returned (.int .u64 ((s.ep B).2:Int))∧AE w g B a (s.ep B).1 w':=by
 have HR:=hid (Ox w h hB)
 generalize s.ep B=R at*
 clear h
 go_enter Tryz.func188,Tryz.ntmps188
 go_wp2_with fail
 refine HR.out.mono ?_
 rintro r w1 ⟨rfl,hst⟩
 have HST:=hid hst
 clear hst
 go_wp2
 go_ret
 exact⟨rfl,HST.out⟩
theorem Ow(w:World){g:Nat}{B:List UInt8}{a:Option Addr}{s:Rs}(h:AS w g B a s)(hB:B.length≤1000000000):
  Calls Tryz.prog 255 #[.pointer (some ⟨g,0,none⟩),.func (Fn.func 256) #[] #[]] w fun r w'=>r=.returned (.int .u64 ((s.po B).2:Int))∧AE w g B a (s.po B).1 w':=by
 have HAT:=hid (Cd w h)
 have HVR:=hid (CW w h zC)
 have hxb:=Rs.P7 (B:=B) (s:=s)
 have HIN:=hid (CS.refl h)
 unfold Rs.po
 generalize s.num B=R at*
 obtain⟨st1,x⟩:=R
 dsimp only at*
 have HRT:=hid (fun (W:World)=>Ic (x:Int) W)
 have HBAD:=hid hxb
 clear h hxb
 by_cases hk1:st1.k=0
 ·rw[Ag hk1]
  by_cases hr:poR (x:Int)=true
  ·rw[Ag hr]
   rw[hr] at HRT
   have HK:Hid (decide (st1.k=0)=true):=hid (Ad hk1)
   clear hk1 hr
   go_enter Tryz.func255,Tryz.ntmps255
   go_wp2_with fail
   refine HAT.out.mono ?_
   rintro r w2 ⟨rfl,rfl⟩
   go_wp2_with fail
   refine HVR.out.mono ?_
   rintro r w3 ⟨rfl,hst3⟩
   have HIN3:=hid (HIN.out.step hst3)
   clear hst3
   go_wp2_with fail
   refine (HRT.out w3).mono ?_
   rintro r w3' ⟨rfl,rfl⟩
   go_wp2_with fail
   refine ((by have:=AK w3 HIN3.out.rd;rw[HK.out] at this;exact this:Calls Tryz.prog 112 #[.pointer (some ⟨g,0,none⟩)] w3 fun r w'=>r=.returned (.bool true)∧Below w3.heap.size w3 w')).mono ?_
   rintro r w5 ⟨rfl,hb5⟩
   have HE:=hid (HIN3.out.to.then hb5)
   go_wp2
   go_ret
   exact⟨rfl,HE.out⟩
  ·rw[Ai hr]
   rw[Bool.eq_false_iff.2 hr] at HRT
   have hfk:(st1.fail 3 s.p).k≠0:=Rs.BI zC
   clear hk1 hr
   go_enter Tryz.func255,Tryz.ntmps255
   go_wp2_with fail
   refine HAT.out.mono ?_
   rintro r w2 ⟨rfl,rfl⟩
   go_wp2_with fail
   refine HVR.out.mono ?_
   rintro r w3 ⟨rfl,hst3⟩
   have HIN3:=hid (HIN.out.step hst3)
   clear hst3
   go_wp2_with fail
   refine (HRT.out w3).mono ?_
   rintro r w3' ⟨rfl,rfl⟩
   go_wp2_with fail
   refine (Bx w3 HIN3.out.rd 3 (s.p:Int) zC).mono ?_
   rintro r w4 ⟨rfl,hst4⟩
   have HIN4:=hid (HIN3.out.step hst4)
   have hg:=AK w4 HIN4.out.rd
   rw[Ae hfk] at hg
   have HG:=hid hg
   clear hst4 hg hfk
   go_wp2_with fail
   refine HG.out.mono ?_
   rintro r w5 ⟨rfl,hb5⟩
   have HE:=hid (HIN4.out.to.then hb5)
   go_wp2
   go_ret
   exact⟨rfl,HE.out⟩
 ·rw[Ai hk1]
  have hx0:=HBAD.out hk1
  subst hx0
  have hfk:st1.k≠0:=hk1
  have hfid:st1.fail 3 s.p=st1:=Rs.Bt hk1
  rw[show poR ((0:Nat):Int)=true from zL] at HRT
  clear hk1
  go_enter Tryz.func255,Tryz.ntmps255
  go_wp2_with fail
  refine HAT.out.mono ?_
  rintro r w2 ⟨rfl,rfl⟩
  go_wp2_with fail
  refine HVR.out.mono ?_
  rintro r w3 ⟨rfl,hst3⟩
  have HIN3:=hid (HIN.out.step hst3)
  clear hst3
  go_wp2_with fail
  refine (HRT.out w3).mono ?_
  rintro r w3' ⟨rfl,rfl⟩
  go_wp2_with fail
  refine ((by have:=AK w3 HIN3.out.rd;rw[Ae hfk] at this;exact this:Calls Tryz.prog 112 #[.pointer (some ⟨g,0,none⟩)] w3 fun r w'=>r=.returned (.bool false)∧Below w3.heap.size w3 w')).mono ?_
  rintro r w5 ⟨rfl,hb5⟩
  have HE:=hid (HIN3.out.to.then hb5)
  clear hfk hfid
  go_wp2
  go_ret
  exact⟨rfl,HE.out⟩
theorem JZ(w:World){g:Nat}{B:List UInt8}{a:Option Addr}{s:Rs}(h:AS w g B a s)(hB:B.length≤1000000000):
  Calls Tryz.prog 190 #[.pointer (some ⟨g,0,none⟩)] w fun r w'=>r=.returned (.int .u64 ((s.po B).2:Int))∧AE w g B a (s.po B).1 w':=by
 have HR:=hid (Ow w h hB)
 generalize s.po B=R at*
 clear h
 go_enter Tryz.func190,Tryz.ntmps190
 go_wp2_with fail
 refine HR.out.mono ?_
 rintro r w1 ⟨rfl,hst⟩
 have HST:=hid hst
 clear hst
 go_wp2
 go_ret
 exact⟨rfl,HST.out⟩
theorem A8.UR{w w':World}{α:Type}{lo g:Nat}{A:Rp α}{e:TypeId}{sz:Nat}{v:Value}{xs:List α}(h:A8 lo A lo e sz w v xs)(hb:Tch (fun b=>b=g∨w.heap.size≤b) w w')(hg:g<lo):A8 lo A lo e sz w' v xs:=by
 have hk:∀b,lo≤b→b<w.heap.size→w'.heap[b]? =w.heap[b]? :=fun b h1 h2=>hb.block b h2 zC
 obtain⟨cells,ho,hlen,hsz,hA⟩:=h
 refine⟨cells,⟨ho.1,?_⟩,hlen,hsz,fun i cs x hi hx=>A.mono (A.keep (hA i cs x hi hx) fun b h=>hk b h.1 h.2.1) fun b h=>⟨h.1,An h.2.1 hb.size,h.2.2⟩⟩
 rcases ho.2 with h0 | ⟨g',cap,cur,h1,h2,h3,h4⟩
 ·exact .inl h0
 ·exact .inr ⟨g',cap,cur,h1,h2,(hk _ h2 (Blk.lt h3)).trans h3,h4⟩
theorem A8.form{α:Type}{lo:Nat}{A:Rp α}{xs:List α}(h:A8 lo A base e sz w v xs):∃a c,v=.slice a xs.length c:=by
 obtain⟨cells,h1,_⟩:=h
 exact AV h1
theorem Yf{z:Int}(h:0≤z∧z≤18446744073709551615):bits BinOp.xor IntKind.u64 IntKind.u64.max z=18446744073709551615-z:=by
 obtain⟨a,rfl⟩:=Int.eq_ofNat_of_zero_le h.1
 have ha:a<18446744073709551616:=zC
 have e:IntKind.u64.max=((18446744073709551615:Nat):Int):=rfl
 rw[e,bits_xor_u64_nat _ _ zL ha]
 have h1:18446744073709551615^^^a=18446744073709551615-a:=by
  have h2:=BitVec.toNat_not (x:=BitVec.ofNat 64 a)
  rw[BitVec.not_def,BitVec.toNat_xor,BitVec.toNat_allOnes,BitVec.toNat_ofNat,IN zC] at h2
  exact h2
 rw[h1]
 omega
theorem Vk(w:World)(h:AS w g B a s)(hB:B.length≤1000000000)(pos:Int)(hpos:0≤pos∧pos≤18446744073709551615):
  Calls Tryz.prog 315 #[.pointer (some ⟨g,0,none⟩),.int .u64 pos] w fun r w'=>∃v,r=.returned v∧EM.r (Ie w w') w' [v] (s.links B pos).2∧AE w g B a (s.links B pos).1 w':=by
 obtain⟨i0,hi,hz0,hz1,hz2⟩:=A5 Rv
 have HI:=hid (CE w h zC 16 zC)
 have hNm:=Rs.E6 (B:=B) (s:=s) (m:=16)
 have hlt:=h.blk.lt
 have HIN:=hid (CS.refl h)
 unfold Rs.links
 generalize s.int B 16=I at*
 obtain⟨s1,N⟩:=I
 dsimp only at*
 have hN:N≤16:=zC
 clear h
 go_enter Tryz.func315,Tryz.ntmps315
 go_wp2_with fail
 refine HI.out.mono ?_
 rintro r w1 ⟨rfl,hst⟩
 have HIN1:=hid (HIN.out.step hst)
 clear hst
 go_wp2_with fail
 go_loopw [5,12] (fun v i wr=>∃(k:Nat) (J:List Be) (st:Rs),k≤N∧i=.int .i64 k∧Hid (J.length=k)∧A8 w.heap.size JR w.heap.size 215 2 wr v J∧Hid (∀x∈J,0≤x.stream∧x.stream≤18446744073709551615)∧Hid (CS w wr g B a st)∧Hid (Rs.C3 B pos N s1 none []=Rs.C3 B pos (N-k) st (J.getLast?.map Be.stream) J)) (fun _ i _=>N-(intOf i).toNat)
 case atStart=>exact ⟨0,[],s1,Ar _,rfl,hid rfl,A8.nil,hid zM,HIN1,hid rfl⟩
 case round=>
  obtain⟨k,J,st,hk,rfl,hJl,hown,hJb,hin,hsp⟩:=hrel
  obtain⟨av,cv,rfl⟩:=A8.form hown
  rcases Bl k N with hlt2 | hge
  ·have HAT:=hid (Cd wr hin.out.rd)
   have HVR:=hid (CW wr hin.out.rd zC)
   have hx:=Rs.ET (B:=B) (s:=st)
   have hsz0:=hin.out.tch.size
   have i1:(k:Int)<(N:Int):=zC
   have d1:decide ((k:Int)<(N:Int))=true:=Ad i1
   have d1':decide (k<N)=true:=Ad hlt2
   have HO:=hid hown
   clear hown
   have hJ16:J.length≤16:=zAh
   by_cases hJe:J=[]
   ·have hstep:Rs.C3 B pos (N-k) st (J.getLast?.map Be.stream) J=(if ((st.num B).1.delta B pos 4).1.k=0 then Rs.C3 B pos (N-(k+1)) ((st.num B).1.delta B pos 4).1 (some ((st.num B).2:Int)) (J++[⟨((st.num B).2:Int),((st.num B).1.delta B pos 4).2⟩]) else (((st.num B).1.delta B pos 4).1,[])):=by
     rw[show N-k=(N-(k+1))+1 by omega,hJe];rfl
    have hk0:k=0:=by have:=hJl.out;rw[hJe] at this;simpa using this.symm
    subst hk0
    clear hJe
    generalize st.num B=R at*
    obtain⟨st1,x⟩:=R
    dsimp only at*
    have hxb:(0:Int)≤(x:Int)∧(x:Int)≤18446744073709551615:=zC
    have HD:=hid (fun (W:World) (hW:AS W g B a st1)=>Ks W hW hB pos hpos 4 zC)
    generalize st1.delta B pos 4=D at*
    obtain⟨s6,bk⟩:=D
    dsimp only at*
    go_wp2_with fail
    refine HAT.out.mono ?_
    rintro r w2 ⟨rfl,rfl⟩
    go_wp2_with fail
    refine HVR.out.mono ?_
    rintro r w3 ⟨rfl,hst3⟩
    have HIN3:=hid (hin.out.step hst3)
    have HO3:=hid (A8.UR HO.out (hst3.2.mono fun b hb e=> .inl e) hlt)
    have hsz3:=HIN3.out.tch.size
    clear hst3
    go_wp2_with fail
    refine (HD.out _ (HIN3.out.row ((by (repeat (first | with_reducible exact Below.refl _ _ | with_reducible assumption | (with_reducible refine Aw ?_ _) | (with_reducible refine Below.setCell ?_ zE _) | (with_reducible refine Below.drew ?_) | (with_reducible refine below_drewN ?_ _) | (refine Aj zG ?_))):Below w3.heap.size w3 _).mono hsz3)).rd).mono ?_
    rintro r w6 ⟨v6,rfl,hv6,hst6⟩
    obtain⟨a6,c6,hfv,_,_⟩:=AH hv6
    simp only[Av,AI] at hfv
    subst hfv
    have BK6:Blk w6 w3.heap.size 215 #[.int .u64 (x:Int),.slice none 0 0]:=Blk.tch zD hst6.2 zC
    have HIN6:=hid ((HIN3.out.row ((by (repeat (first | with_reducible exact Below.refl _ _ | with_reducible assumption | (with_reducible refine Aw ?_ _) | (with_reducible refine Below.setCell ?_ zE _) | (with_reducible refine Below.drew ?_) | (with_reducible refine below_drewN ?_ _) | (refine Aj zG ?_))):Below w3.heap.size w3 _).mono hsz3)).step hst6)
    have HK6:Hid (Tch (fun b=>b=g∨w3.heap.size≤b) w3 w6):=hid ((Tch.Ef (by (repeat (first | with_reducible exact Below.refl _ _ | with_reducible assumption | (with_reducible refine Aw ?_ _) | (with_reducible refine Below.setCell ?_ zE _) | (with_reducible refine Below.drew ?_) | (with_reducible refine below_drewN ?_ _) | (refine Aj zG ?_))):Below w3.heap.size w3 _)).mono (fun b hb e=> .inr e) |>.trans hst6.2 (fun b hb e=> .inl e))
    by_cases hk6:s6.k=0
    ·rw[Ag hk6] at hstep
     have HSP:=hid (hsp.out.trans hstep)
     have HG:=hid (fun (W:World) (hW:AS W g B a s6)=>(by have:=AK W hW;rw[Ad hk6] at this;exact this:Calls Tryz.prog 112 #[.pointer (some ⟨g,0,none⟩)] W fun r w'=>r=.returned (.bool true)∧Below W.heap.size W w'))
     obtain⟨y0,y1,f0,f1,hl6⟩:=Bd BK6
     have HV6:=hid hv6
     have hq6:=hst6.2.size
     simp at hq6
     clear hsp hstep hk6 hv6 hst6
     go_wp2_with fail
     refine (HG.out _ (HIN6.out.row ((by (repeat (first | with_reducible exact Below.refl _ _ | with_reducible assumption | (with_reducible refine Aw ?_ _) | (with_reducible refine Below.setCell ?_ zE _) | (with_reducible refine Below.drew ?_) | (with_reducible refine below_drewN ?_ _) | (refine Aj zG ?_))):Below w3.heap.size w6 _).mono hsz3)).rd).mono ?_
     rintro r w7 ⟨rfl,hb7⟩
     have B7:Blk w7 w3.heap.size 215 #[.int .u64 (x:Int),.slice a6 bk.length c6]:=Blk.later (BK6.set 1 _) hb7
     obtain⟨z0,z1,_,_,hl7⟩:=Bd B7
     have hb67:Below w3.heap.size w6 w7:=(by (repeat (first | with_reducible exact Below.refl _ _ | with_reducible assumption | (with_reducible refine Aw ?_ _) | (with_reducible refine Below.setCell ?_ zE _) | (with_reducible refine Below.drew ?_) | (with_reducible refine below_drewN ?_ _) | (refine Aj zG ?_))):Below w3.heap.size w6 (w6.setCell ⟨w3.heap.size,1,none⟩ (.slice a6 bk.length c6))).trans (hb7.mono zI)
     have HIN7:=hid (HIN6.out.row (hb67.mono hsz3))
     have hsz7:=HIN7.out.tch.size
     have hk7:Tch (fun b=>b=g∨w3.heap.size≤b) w3 w7:=HK6.out.trans (Tch.Ef hb67) (fun b hb hle=> .inr hle)
     have O7:=A8.UR HO3.out hk7 hlt
     obtain⟨cells0,OA0⟩:=HO3.out
     have hlt0:∀g',(Value.slice av J.length cv).ownBlock=some g'→g'<w3.heap.size:=fun g' e=>(OA0.1.lt g' e).2
     obtain⟨cells,OA⟩:=A8.below O7 (show Below w7.heap.size w7 (w7.alloc (.cells #[.int .u64 (x:Int),.slice a6 bk.length c6] 215)) from zA)
     have hk8:∀b,w3.heap.size+1≤b→b<w6.heap.size→(w7.alloc (.cells #[.int .u64 (x:Int),.slice a6 bk.length c6] 215)).heap[b]? =w6.heap[b]? :=fun b h1 h2=>(AN w7 _ b (by have:=hb67.size;omega)).trans ((hb7.block b (by simpa using h2)).trans (At _ _ _ _ zH))
     have hv8:=Cb.keep (w':=(w7.alloc (.cells #[.int .u64 (x:Int),.slice a6 bk.length c6] 215))) HV6.out (fun b (hb:(w3.alloc (.cells #[.int .u64 (x:Int),.slice none 0 0] 215)).heap.size≤b∧b<w6.heap.size)=>hk8 b (by have:=hb.1;simp at this;omega) hb.2)
     have hx8:JR.r (fun b=>w.heap.size≤b∧b<(w7.alloc (.cells #[.int .u64 (x:Int),.slice a6 bk.length c6] 215)).heap.size∧(Value.slice av J.length cv).ownBlock≠some b) (w7.alloc (.cells #[.int .u64 (x:Int),.slice a6 bk.length c6] 215)) [.int .u64 (x:Int),.slice a6 bk.length c6] ⟨(x:Int),bk⟩:=by
      refine Qe (x:=⟨(x:Int),bk⟩) hxb (Cb.mono hv8 fun b hb=> ?_)
      have h1:=hb.1
      have h2:=hb.2
      have h3:=hb67.size
      simp at h1
      refine⟨zC,zI,fun e=> ?_⟩
      have:=hlt0 b e
      omega
     have HX:=hid hx8
     have HA:=hid OA
     have HS9:Hid (w.heap.size≤(w7.alloc (.cells #[.int .u64 (x:Int),.slice a6 bk.length c6] 215)).heap.size):=hid zI
     clear hx8 hv8 OA OA0 hlt0 hk8 O7 hk7 hb67 hb7 B7 y0 y1 f0 f1 HV6
     go_wp2_with (at_builtin;go_loud (refine AB rfl _ _ _ rfl w.heap.size 215 i0 (.agg #[.int .u64 0,.slice none 0 0]) 2 32 Tryz.underlying38 hi hz0 hz1 hz2 rfl zL (.slice av J.length cv) J.length _ rfl HA.out.1 (some ⟨w7.heap.size,0,none⟩) 1 1 [.int .u64 (x:Int),.slice a6 bk.length c6] rfl (BU w7 215 _ rfl rfl rfl) (by intro u hu;simp at hu;rcases hu with rfl | rfl<;>rfl) zO zC HS9.out ?_;intro v1 w9 hown1 hgrow1 hat1;have OP:=hid (A8.push HA.out rfl HX.out hown1 hgrow1 hat1 hgrow1.size);have hb9:Below w.heap.size w7 w9:=(Below.grown ((by (repeat (first | with_reducible exact Below.refl _ _ | with_reducible assumption | (with_reducible refine Aw ?_ _) | (with_reducible refine Below.setCell ?_ zE _) | (with_reducible refine Below.drew ?_) | (with_reducible refine below_drewN ?_ _) | (refine Aj zG ?_))):Below w7.heap.size w7 _).mono hsz7) hgrow1 HS9.out (fun g e=>(HA.out.1.lt g e).1));clear hown1 hgrow1 hat1))
     have HIN9:=hid (HIN7.out.row hb9)
     have HJ9:Hid (∀y∈J++[(⟨(x:Int),bk⟩:Be)],0≤y.stream∧y.stream≤18446744073709551615):=hid (fun y hy=>by
      rw[G7,B8] at hy
      rcases hy with hy | rfl
      ·exact hJb.out y hy
      ·exact hxb)
     go_roundw
     case rel=>exact ⟨0+1,J++[⟨(x:Int),bk⟩],s6,zC,zT,hid Z4,OP.out,HJ9,HIN9,hid (by rw[HSP.out];simp)⟩
     case measure=>simp [intOf];omega
    ·rw[Ai hk6] at hstep
     have HSP:=hid (hsp.out.trans hstep)
     have HG:=hid (fun (W:World) (hW:AS W g B a s6)=>(by have:=AK W hW;rw[Ae hk6] at this;exact this:Calls Tryz.prog 112 #[.pointer (some ⟨g,0,none⟩)] W fun r w'=>r=.returned (.bool false)∧Below W.heap.size W w'))
     obtain⟨y0,y1,f0,f1,hl6⟩:=Bd BK6
     clear hsp hstep hk6 hv6
     go_wp2_with fail
     refine (HG.out _ (HIN6.out.row ((by (repeat (first | with_reducible exact Below.refl _ _ | with_reducible assumption | (with_reducible refine Aw ?_ _) | (with_reducible refine Below.setCell ?_ zE _) | (with_reducible refine Below.drew ?_) | (with_reducible refine below_drewN ?_ _) | (refine Aj zG ?_))):Below w3.heap.size w6 _).mono hsz3)).rd).mono ?_
     rintro r w7 ⟨rfl,hb7⟩
     have hb67:Below w3.heap.size w6 w7:=(by (repeat (first | with_reducible exact Below.refl _ _ | with_reducible assumption | (with_reducible refine Aw ?_ _) | (with_reducible refine Below.setCell ?_ zE _) | (with_reducible refine Below.drew ?_) | (with_reducible refine below_drewN ?_ _) | (refine Aj zG ?_))):Below w3.heap.size w6 (w6.setCell ⟨w3.heap.size,1,none⟩ (.slice a6 bk.length c6))).trans (hb7.mono zI)
     have HE:=hid (HIN6.out.row (hb67.mono hsz3)).to
     clear hb7
     go_wp2
     go_ret
     rw[HSP.out]
     exact⟨.slice none 0 0,rfl,A8.I4 (e:=0) (As _) A8.nil,HE.out⟩
   ·obtain⟨m,rfl⟩:∃m,k=m+1:=⟨k-1,by
     have:=hJl.out
     have:J.length≠0:=fun e=>hJe (AQ e)
     omega⟩
    have hmJ:m<J.length:=zAh
    have hlast:J.getLast?.map Be.stream=some J[m].stream:=by
     have:=hJl.out
     rw[List.getLast?_eq_getElem?,this,Nat.add_sub_cancel,AF hmJ]
     rfl
    have hzb:=hJb.out J[m] (A0 hmJ)
    obtain⟨bq,o,hA,hbb,a1,c1,hc0,hc1,hst,hd⟩:=FK (A8.slice (As _) HO.out) hmJ
    subst hA
    have hbg:bq≠g:=by have:=hbb.1;omega
    have hbr:bq<wr.heap.size:=hbb.2
    have hstep:Rs.C3 B pos (N-(m+1)) st (J.getLast?.map Be.stream) J=(if ((st.stream B (some J[m].stream)).1.delta B pos 4).1.k=0 then Rs.C3 B pos (N-(m+1+1)) ((st.stream B (some J[m].stream)).1.delta B pos 4).1 (some (st.stream B (some J[m].stream)).2) (J++[⟨(st.stream B (some J[m].stream)).2,((st.stream B (some J[m].stream)).1.delta B pos 4).2⟩]) else (((st.stream B (some J[m].stream)).1.delta B pos 4).1,[])):=by
     rw[hlast,show N-(m+1)=(N-(m+1+1))+1 by omega];rfl
    clear hlast hd hc1 hbb
    generalize J[m]=z at*
    have i1':(m:Int)+1<(N:Int):=zC
    have i2:(m:Int)<(J.length:Int):=zC
    have d2:decide ((m:Int)+1<(N:Int))=true:=Ad i1'
    have e1:=Yf hzb
    have hsg:IntKind.u64.signed=false:=rfl
    by_cases hf:18446744073709551615-z.stream≤((st.num B).2:Int)
    ·have hS:(st.stream B (some z.stream)).1=(st.num B).1.fail 13 st.p:=by
      simp only[Rs.stream]
      rw[Ag hf]
     have hbad:((st.stream B (some z.stream)).1.delta B pos 4).1.k≠0:=fun e=>(Rs.BI (s:=(st.num B).1) (c:=13) (at_:=(st.p:Int)) zC) (by rw[←hS];exact (Rs.Mo (Rs.H6 hin.out.rd.ok) hpos.2 e).2.2.2.2)
     rw[Ai hbad,hS] at hstep
     rw[hS] at hbad
     clear hS
     generalize st.num B=R at*
     obtain⟨st1,x⟩:=R
     dsimp only at*
     have d4:decide (bits BinOp.xor IntKind.u64 IntKind.u64.max z.stream≤(x:Int))=true:=by rw[e1];exact Ad hf
     clear hf e1
     have HD:=hid (fun (W:World) (hW:AS W g B a (st1.fail 13 (st.p:Int)))=>Ks W hW hB pos hpos 4 zC)
     generalize (st1.fail 13 (st.p:Int)).delta B pos 4=D at*
     obtain⟨s6,bk⟩:=D
     dsimp only at*
     go_wp2_with fail
     refine HAT.out.mono ?_
     rintro r w2 ⟨rfl,rfl⟩
     go_wp2_with fail
     refine HVR.out.mono ?_
     rintro r w3 ⟨rfl,hst3⟩
     have HIN3:=hid (hin.out.step hst3)
     have HO3:=hid (A8.UR HO.out (hst3.2.mono fun b hb e=> .inl e) hlt)
     have hsz3:=HIN3.out.tch.size
     have X0:=(hst3.2.cell (p:=⟨bq,o+m*2,none⟩) hbr hbg).trans hc0
     have hb3:bq<w3.heap.size:=An hbr hst3.2.size
     clear hst3 hc0
     go_wp2_with fail
     refine (Bx _ (HIN3.out.row ((by (repeat (first | with_reducible exact Below.refl _ _ | with_reducible assumption | (with_reducible refine Aw ?_ _) | (with_reducible refine Below.setCell ?_ zE _) | (with_reducible refine Below.drew ?_) | (with_reducible refine below_drewN ?_ _) | (refine Aj zG ?_))):Below w3.heap.size w3 _).mono hsz3)).rd 13 (st.p:Int) zC).mono ?_
     rintro r w4 ⟨rfl,hst4⟩
     have B4:Blk w4 w3.heap.size 215 #[.int .u64 (x:Int),.slice none 0 0]:=Blk.tch zD hst4.2 zC
     have HIN4:=hid ((HIN3.out.row ((by (repeat (first | with_reducible exact Below.refl _ _ | with_reducible assumption | (with_reducible refine Aw ?_ _) | (with_reducible refine Below.setCell ?_ zE _) | (with_reducible refine Below.drew ?_) | (with_reducible refine below_drewN ?_ _) | (refine Aj zG ?_))):Below w3.heap.size w3 _).mono hsz3)).step hst4)
     have hsz4:=hst4.2.size
     obtain⟨q0,q1,e0,e1,l4⟩:=Bd B4
     clear hst4
     go_wp2_with fail
     refine (HD.out _ (HIN4.out.row ((by (repeat (first | with_reducible exact Below.refl _ _ | with_reducible assumption | (with_reducible refine Aw ?_ _) | (with_reducible refine Below.setCell ?_ zE _) | (with_reducible refine Below.drew ?_) | (with_reducible refine below_drewN ?_ _) | (refine Aj zG ?_))):Below w3.heap.size w4 _).mono hsz3)).rd).mono ?_
     rintro r w6 ⟨v6,rfl,hv6,hst6⟩
     obtain⟨a6,c6,hfv,_,_⟩:=AH hv6
     simp only[Av,AI] at hfv
     subst hfv
     have BK6:Blk w6 w3.heap.size 215 #[_,.slice none 0 0]:=Blk.tch (B4.set 0 _) hst6.2 zC
     have HIN6:=hid ((HIN4.out.row ((by (repeat (first | with_reducible exact Below.refl _ _ | with_reducible assumption | (with_reducible refine Aw ?_ _) | (with_reducible refine Below.setCell ?_ zE _) | (with_reducible refine Below.drew ?_) | (with_reducible refine below_drewN ?_ _) | (refine Aj zG ?_))):Below w3.heap.size w4 _).mono hsz3)).step hst6)
     have HSP:=hid (hsp.out.trans hstep)
     have HG:=hid (fun (W:World) (hW:AS W g B a s6)=>(by have:=AK W hW;rw[Ae hbad] at this;exact this:Calls Tryz.prog 112 #[.pointer (some ⟨g,0,none⟩)] W fun r w'=>r=.returned (.bool false)∧Below W.heap.size W w'))
     obtain⟨y0,y1,f0,f1,hl6⟩:=Bd BK6
     clear hsp hstep hbad hv6 B4 q0 q1 e0 e1 l4
     go_wp2_with fail
     refine (HG.out _ (HIN6.out.row ((by (repeat (first | with_reducible exact Below.refl _ _ | with_reducible assumption | (with_reducible refine Aw ?_ _) | (with_reducible refine Below.setCell ?_ zE _) | (with_reducible refine Below.drew ?_) | (with_reducible refine below_drewN ?_ _) | (refine Aj zG ?_))):Below w3.heap.size w6 _).mono hsz3)).rd).mono ?_
     rintro r w7 ⟨rfl,hb7⟩
     have hb67:Below w3.heap.size w6 w7:=(by (repeat (first | with_reducible exact Below.refl _ _ | with_reducible assumption | (with_reducible refine Aw ?_ _) | (with_reducible refine Below.setCell ?_ zE _) | (with_reducible refine Below.drew ?_) | (with_reducible refine below_drewN ?_ _) | (refine Aj zG ?_))):Below w3.heap.size w6 (w6.setCell ⟨w3.heap.size,1,none⟩ (.slice a6 bk.length c6))).trans (hb7.mono zI)
     have HE:=hid (HIN6.out.row (hb67.mono hsz3)).to
     clear hb7
     go_wp2
     go_ret
     rw[HSP.out]
     exact⟨.slice none 0 0,rfl,A8.I4 (e:=0) (As _) A8.nil,HE.out⟩
    ·have hS:st.stream B (some z.stream)=((st.num B).1,((st.num B).2:Int)+(z.stream+1)):=by
      simp only[Rs.stream]
      rw[Ai hf,Int.add_assoc]
     rw[hS] at hstep
     clear hS
     generalize st.num B=R at*
     obtain⟨st1,x⟩:=R
     dsimp only at*
     have hxb:(0:Int)≤(x:Int)+(z.stream+1)∧(x:Int)+(z.stream+1)≤18446744073709551615:=zC
     have d4:decide (bits BinOp.xor IntKind.u64 IntKind.u64.max z.stream≤(x:Int))=false:=by rw[e1];exact Ae hf
     have v1:0≤z.stream+1:=zC
     have v2:z.stream+1≤18446744073709551615:=zC
     have v3:=hxb.1
     have v4:=hxb.2
     clear hf e1
     have HD:=hid (fun (W:World) (hW:AS W g B a st1)=>Ks W hW hB pos hpos 4 zC)
     generalize st1.delta B pos 4=D at*
     obtain⟨s6,bk⟩:=D
     dsimp only at*
     go_wp2_with fail
     refine HAT.out.mono ?_
     rintro r w2 ⟨rfl,rfl⟩
     go_wp2_with fail
     refine HVR.out.mono ?_
     rintro r w3 ⟨rfl,hst3⟩
     have HIN3:=hid (hin.out.step hst3)
     have HO3:=hid (A8.UR HO.out (hst3.2.mono fun b hb e=> .inl e) hlt)
     have hsz3:=HIN3.out.tch.size
     have X0:=(hst3.2.cell (p:=⟨bq,o+m*2,none⟩) hbr hbg).trans hc0
     have hb3:bq<w3.heap.size:=An hbr hst3.2.size
     clear hst3 hc0
     go_wp2_with fail
     refine (HD.out _ (HIN3.out.row ((by (repeat (first | with_reducible exact Below.refl _ _ | with_reducible assumption | (with_reducible refine Aw ?_ _) | (with_reducible refine Below.setCell ?_ zE _) | (with_reducible refine Below.drew ?_) | (with_reducible refine below_drewN ?_ _) | (refine Aj zG ?_))):Below w3.heap.size w3 _).mono hsz3)).rd).mono ?_
     rintro r w6 ⟨v6,rfl,hv6,hst6⟩
     obtain⟨a6,c6,hfv,_,_⟩:=AH hv6
     simp only[Av,AI] at hfv
     subst hfv
     have BK6:Blk w6 w3.heap.size 215 #[.int .u64 ((x:Int)+(z.stream+1)),.slice none 0 0]:=Blk.tch zD hst6.2 zC
     have HIN6:=hid ((HIN3.out.row ((by (repeat (first | with_reducible exact Below.refl _ _ | with_reducible assumption | (with_reducible refine Aw ?_ _) | (with_reducible refine Below.setCell ?_ zE _) | (with_reducible refine Below.drew ?_) | (with_reducible refine below_drewN ?_ _) | (refine Aj zG ?_))):Below w3.heap.size w3 _).mono hsz3)).step hst6)
     have HK6:Hid (Tch (fun b=>b=g∨w3.heap.size≤b) w3 w6):=hid ((Tch.Ef (by (repeat (first | with_reducible exact Below.refl _ _ | with_reducible assumption | (with_reducible refine Aw ?_ _) | (with_reducible refine Below.setCell ?_ zE _) | (with_reducible refine Below.drew ?_) | (with_reducible refine below_drewN ?_ _) | (refine Aj zG ?_))):Below w3.heap.size w3 _)).mono (fun b hb e=> .inr e) |>.trans hst6.2 (fun b hb e=> .inl e))
     by_cases hk6:s6.k=0
     ·rw[Ag hk6] at hstep
      have HSP:=hid (hsp.out.trans hstep)
      have HG:=hid (fun (W:World) (hW:AS W g B a s6)=>(by have:=AK W hW;rw[Ad hk6] at this;exact this:Calls Tryz.prog 112 #[.pointer (some ⟨g,0,none⟩)] W fun r w'=>r=.returned (.bool true)∧Below W.heap.size W w'))
      obtain⟨y0,y1,f0,f1,hl6⟩:=Bd BK6
      have HV6:=hid hv6
      have hq6:=hst6.2.size
      simp at hq6
      clear hsp hstep hk6 hv6 hst6
      go_wp2_with fail
      refine (HG.out _ (HIN6.out.row ((by (repeat (first | with_reducible exact Below.refl _ _ | with_reducible assumption | (with_reducible refine Aw ?_ _) | (with_reducible refine Below.setCell ?_ zE _) | (with_reducible refine Below.drew ?_) | (with_reducible refine below_drewN ?_ _) | (refine Aj zG ?_))):Below w3.heap.size w6 _).mono hsz3)).rd).mono ?_
      rintro r w7 ⟨rfl,hb7⟩
      have B7:Blk w7 w3.heap.size 215 #[.int .u64 ((x:Int)+(z.stream+1)),.slice a6 bk.length c6]:=Blk.later (BK6.set 1 _) hb7
      obtain⟨z0,z1,_,_,hl7⟩:=Bd B7
      have hb67:Below w3.heap.size w6 w7:=(by (repeat (first | with_reducible exact Below.refl _ _ | with_reducible assumption | (with_reducible refine Aw ?_ _) | (with_reducible refine Below.setCell ?_ zE _) | (with_reducible refine Below.drew ?_) | (with_reducible refine below_drewN ?_ _) | (refine Aj zG ?_))):Below w3.heap.size w6 (w6.setCell ⟨w3.heap.size,1,none⟩ (.slice a6 bk.length c6))).trans (hb7.mono zI)
      have HIN7:=hid (HIN6.out.row (hb67.mono hsz3))
      have hsz7:=HIN7.out.tch.size
      have hk7:Tch (fun b=>b=g∨w3.heap.size≤b) w3 w7:=HK6.out.trans (Tch.Ef hb67) (fun b hb hle=> .inr hle)
      have O7:=A8.UR HO3.out hk7 hlt
      obtain⟨cells0,OA0⟩:=HO3.out
      have hlt0:∀g',(Value.slice (some ⟨bq,o,none⟩) J.length cv).ownBlock=some g'→g'<w3.heap.size:=fun g' e=>(OA0.1.lt g' e).2
      obtain⟨cells,OA⟩:=A8.below O7 (show Below w7.heap.size w7 (w7.alloc (.cells #[.int .u64 ((x:Int)+(z.stream+1)),.slice a6 bk.length c6] 215)) from zA)
      have hk8:∀b,w3.heap.size+1≤b→b<w6.heap.size→(w7.alloc (.cells #[.int .u64 ((x:Int)+(z.stream+1)),.slice a6 bk.length c6] 215)).heap[b]? =w6.heap[b]? :=fun b h1 h2=>(AN w7 _ b (by have:=hb67.size;omega)).trans ((hb7.block b (by simpa using h2)).trans (At _ _ _ _ zH))
      have hv8:=Cb.keep (w':=(w7.alloc (.cells #[.int .u64 ((x:Int)+(z.stream+1)),.slice a6 bk.length c6] 215))) HV6.out (fun b (hb:(w3.alloc (.cells #[.int .u64 ((x:Int)+(z.stream+1)),.slice none 0 0] 215)).heap.size≤b∧b<w6.heap.size)=>hk8 b (by have:=hb.1;simp at this;omega) hb.2)
      have hx8:JR.r (fun b=>w.heap.size≤b∧b<(w7.alloc (.cells #[.int .u64 ((x:Int)+(z.stream+1)),.slice a6 bk.length c6] 215)).heap.size∧(Value.slice (some ⟨bq,o,none⟩) J.length cv).ownBlock≠some b) (w7.alloc (.cells #[.int .u64 ((x:Int)+(z.stream+1)),.slice a6 bk.length c6] 215)) [.int .u64 ((x:Int)+(z.stream+1)),.slice a6 bk.length c6] ⟨((x:Int)+(z.stream+1)),bk⟩:=by
       refine Qe (x:=⟨((x:Int)+(z.stream+1)),bk⟩) hxb (Cb.mono hv8 fun b hb=> ?_)
       have h1:=hb.1
       have h2:=hb.2
       have h3:=hb67.size
       simp at h1
       refine⟨zC,zI,fun e=> ?_⟩
       have:=hlt0 b e
       omega
      have HX:=hid hx8
      have HA:=hid OA
      have HS9:Hid (w.heap.size≤(w7.alloc (.cells #[.int .u64 ((x:Int)+(z.stream+1)),.slice a6 bk.length c6] 215)).heap.size):=hid zI
      clear hx8 hv8 OA OA0 hlt0 hk8 O7 hk7 hb67 hb7 B7 y0 y1 f0 f1 HV6
      go_wp2_with (at_builtin;go_loud (refine AB rfl _ _ _ rfl w.heap.size 215 i0 (.agg #[.int .u64 0,.slice none 0 0]) 2 32 Tryz.underlying38 hi hz0 hz1 hz2 rfl zL (.slice (some ⟨bq,o,none⟩) J.length cv) J.length _ rfl HA.out.1 (some ⟨w7.heap.size,0,none⟩) 1 1 [.int .u64 ((x:Int)+(z.stream+1)),.slice a6 bk.length c6] rfl (BU w7 215 _ rfl rfl rfl) (by intro u hu;simp at hu;rcases hu with rfl | rfl<;>rfl) zO zC HS9.out ?_;intro v1 w9 hown1 hgrow1 hat1;have OP:=hid (A8.push HA.out rfl HX.out hown1 hgrow1 hat1 hgrow1.size);have hb9:Below w.heap.size w7 w9:=(Below.grown ((by (repeat (first | with_reducible exact Below.refl _ _ | with_reducible assumption | (with_reducible refine Aw ?_ _) | (with_reducible refine Below.setCell ?_ zE _) | (with_reducible refine Below.drew ?_) | (with_reducible refine below_drewN ?_ _) | (refine Aj zG ?_))):Below w7.heap.size w7 _).mono hsz7) hgrow1 HS9.out (fun g e=>(HA.out.1.lt g e).1));clear hown1 hgrow1 hat1))
      have HIN9:=hid (HIN7.out.row hb9)
      have HJ9:Hid (∀y∈J++[(⟨((x:Int)+(z.stream+1)),bk⟩:Be)],0≤y.stream∧y.stream≤18446744073709551615):=hid (fun y hy=>by
       rw[G7,B8] at hy
       rcases hy with hy | rfl
       ·exact hJb.out y hy
       ·exact hxb)
      go_roundw
      case rel=>exact ⟨m+1+1,J++[⟨((x:Int)+(z.stream+1)),bk⟩],s6,zC,zT,hid Z4,OP.out,HJ9,HIN9,hid (by rw[HSP.out];simp)⟩
      case measure=>simp [intOf];omega
     ·rw[Ai hk6] at hstep
      have HSP:=hid (hsp.out.trans hstep)
      have HG:=hid (fun (W:World) (hW:AS W g B a s6)=>(by have:=AK W hW;rw[Ae hk6] at this;exact this:Calls Tryz.prog 112 #[.pointer (some ⟨g,0,none⟩)] W fun r w'=>r=.returned (.bool false)∧Below W.heap.size W w'))
      obtain⟨y0,y1,f0,f1,hl6⟩:=Bd BK6
      clear hsp hstep hk6 hv6
      go_wp2_with fail
      refine (HG.out _ (HIN6.out.row ((by (repeat (first | with_reducible exact Below.refl _ _ | with_reducible assumption | (with_reducible refine Aw ?_ _) | (with_reducible refine Below.setCell ?_ zE _) | (with_reducible refine Below.drew ?_) | (with_reducible refine below_drewN ?_ _) | (refine Aj zG ?_))):Below w3.heap.size w6 _).mono hsz3)).rd).mono ?_
      rintro r w7 ⟨rfl,hb7⟩
      have hb67:Below w3.heap.size w6 w7:=(by (repeat (first | with_reducible exact Below.refl _ _ | with_reducible assumption | (with_reducible refine Aw ?_ _) | (with_reducible refine Below.setCell ?_ zE _) | (with_reducible refine Below.drew ?_) | (with_reducible refine below_drewN ?_ _) | (refine Aj zG ?_))):Below w3.heap.size w6 (w6.setCell ⟨w3.heap.size,1,none⟩ (.slice a6 bk.length c6))).trans (hb7.mono zI)
      have HE:=hid (HIN6.out.row (hb67.mono hsz3)).to
      clear hb7
      go_wp2
      go_ret
      rw[HSP.out]
      exact⟨.slice none 0 0,rfl,A8.I4 (e:=0) (As _) A8.nil,HE.out⟩
  ·obtain rfl:k=N:=by omega
   have hE:=hsp.out
   rw[Nat.sub_self] at hE
   have HSP:Hid (Rs.C3 B pos k s1 none []=(st,J)):=hid hE
   have hv:=A8.I4 (As _) hown
   have HV:=hid hv
   have HE:=hid hin.out.to
   clear hE hv hown
   go_wp2
   go_ret
   rw[HSP.out]
   exact⟨_,rfl,HV.out,HE.out⟩
theorem NO(w:World)(h:AS w g B a s)(hB:B.length≤1000000000)(pos:Int)(hpos:0≤pos∧pos≤18446744073709551615)(most:Int)(hmo: -9223372036854775808≤most∧most≤9223372036854775807):
  Calls Tryz.prog 268 #[.pointer (some ⟨g,0,none⟩),.int .u64 pos,.int .i64 most] w fun r w'=>∃v,r=.returned (.tuple #[.agg #[v,.slice none 0 0],.int .i64 ((s.Cq B pos most).2.2:Int)])∧EM.r (Ie w w') w' [v] (s.Cq B pos most).2.1∧AE w g B a (s.Cq B pos most).1 w':=by
 have HLN:=hid (fun (W:World) (hW:AS W g B a s)=>Vk W hW hB pos hpos)
 have HIT:=hid (fun (W:World) (hW:AS W g B a (s.links B pos).1)=>CE W hW zC most hmo)
 have HIN:=hid (CS.refl h)
 have hlt:=h.blk.lt
 unfold Rs.Cq
 generalize s.links B pos=LK at*
 obtain⟨s1,l⟩:=LK
 dsimp only at*
 generalize s1.int B most=I at*
 obtain⟨s2,n⟩:=I
 dsimp only at*
 clear h
 by_cases hk:s2.k=0
 ·rw[Ag hk]
  have HG:=hid (fun (W:World) (hW:AS W g B a s2)=>(by have:=AK W hW;rw[Ad hk] at this;exact this:Calls Tryz.prog 112 #[.pointer (some ⟨g,0,none⟩)] W fun r w'=>r=.returned (.bool true)∧Below W.heap.size W w'))
  clear hk
  go_enter Tryz.func268,Tryz.ntmps268
  go_wp2_with fail
  refine (HLN.out _ (HIN.out.row zA).rd).mono ?_
  rintro r w1 ⟨v1,rfl,hv1,hst1⟩
  have HIN1:=hid ((HIN.out.row zA).step hst1)
  have R1:Blk w1 w.heap.size 180 #[.slice none 0 0,.slice none 0 0]:=Blk.tch zD hst1.2 zC
  have hz1:=HIN1.out.tch.size
  have hr1:=R1.lt
  obtain⟨a1,c1,hfv,_,_⟩:=AH (FJ hv1)
  simp only[Av,AI] at hfv
  subst hfv
  have HV1:=hid hv1
  clear hst1 hv1
  go_wp2_with fail
  refine (HIT.out _ (HIN1.out.row ((by (repeat (first | with_reducible exact Below.refl _ _ | with_reducible assumption | (with_reducible refine Aw ?_ _) | (with_reducible refine Below.setCell ?_ zE _) | (with_reducible refine Below.drew ?_) | (with_reducible refine below_drewN ?_ _) | (refine Aj zG ?_))):Below w1.heap.size w1 _).mono hz1)).rd).mono ?_
  rintro r w2 ⟨rfl,hst2⟩
  have hT2:=hst2.2
  have hz2:=hst2.2.size
  have HIN2:=hid ((HIN1.out.row ((by (repeat (first | with_reducible exact Below.refl _ _ | with_reducible assumption | (with_reducible refine Aw ?_ _) | (with_reducible refine Below.setCell ?_ zE _) | (with_reducible refine Below.drew ?_) | (with_reducible refine below_drewN ?_ _) | (refine Aj zG ?_))):Below w1.heap.size w1 _).mono hz1)).step hst2)
  have B2:Blk w2 w1.heap.size 180 #[.slice a1 l.length c1,.slice none 0 0]:=Blk.tch zD hst2.2 zC
  have R2:Blk w2 w.heap.size 180 #[.slice none 0 0,.slice none 0 0]:=Blk.tch (Blk.later R1 (by (repeat (first | with_reducible exact Below.refl _ _ | with_reducible assumption | (with_reducible refine Aw ?_ _) | (with_reducible refine Below.setCell ?_ zE _) | (with_reducible refine Below.drew ?_) | (with_reducible refine below_drewN ?_ _) | (refine Aj zG ?_))):Below w1.heap.size w1 _)) hst2.2 zC
  go_wp2_with fail
  refine (HG.out _ HIN2.out.rd).mono ?_
  rintro r w3 ⟨rfl,hb3⟩
  have HIN3:=hid (HIN2.out.row (hb3.mono HIN2.out.tch.size))
  have B3:=B2.later hb3
  have R3:=R2.later hb3
  obtain⟨x0,x1,f0,f1,l3⟩:=Bd B3
  obtain⟨y0,y1,g0,g1,m3⟩:=Bd R3
  go_wp2
  have RF:Blk ((w3.setCell ⟨w.heap.size,0,none⟩ (.slice a1 l.length c1)).setCell ⟨w.heap.size,1,none⟩ (.slice none 0 0)) w.heap.size 180 #[.slice a1 l.length c1,.slice none 0 0]:=(R3.set 0 _).set 1 _
  obtain⟨u0,u1,_,_,lF⟩:=Bd RF
  have HF:Below w.heap.size w3 ((w3.setCell ⟨w.heap.size,0,none⟩ (.slice a1 l.length c1)).setCell ⟨w.heap.size,1,none⟩ (.slice none 0 0)):=zA
  have HINF:=HIN3.out.row HF
  simp at hz2
  have hz3:=hb3.size
  have hkk:∀q,w.heap.size+1≤q→q<w1.heap.size→((w3.setCell ⟨w.heap.size,0,none⟩ (.slice a1 l.length c1)).setCell ⟨w.heap.size,1,none⟩ (.slice none 0 0)).heap[q]? =w1.heap[q]? :=fun q h1 h2=>
   ((At _ _ _ _ zH).trans (At _ _ _ _ zH)).trans ((hb3.block q zC).trans ((hT2.block q zI zC).trans (AN w1 _ q h2)))
  have hvF:EM.r (Ie w ((w3.setCell ⟨w.heap.size,0,none⟩ (.slice a1 l.length c1)).setCell ⟨w.heap.size,1,none⟩ (.slice none 0 0))) ((w3.setCell ⟨w.heap.size,0,none⟩ (.slice a1 l.length c1)).setCell ⟨w.heap.size,1,none⟩ (.slice none 0 0)) [.slice a1 l.length c1] l:=EM.mono (EM.keep HV1.out (fun q hq=>hkk q Z9 hq.2)) (fun q hq=>⟨Z9,by have:=hq.2;simp;omega⟩)
  refine Ax (v:=.tuple #[.agg #[.slice a1 l.length c1,.slice none 0 0],.int .i64 n]) zBv rfl ⟨_,rfl,hvF,HINF.to⟩
 ·rw[Ai hk]
  have HG:=hid (fun (W:World) (hW:AS W g B a s2)=>(by have:=AK W hW;rw[Ae hk] at this;exact this:Calls Tryz.prog 112 #[.pointer (some ⟨g,0,none⟩)] W fun r w'=>r=.returned (.bool false)∧Below W.heap.size W w'))
  clear hk
  go_enter Tryz.func268,Tryz.ntmps268
  go_wp2_with fail
  refine (HLN.out _ (HIN.out.row zA).rd).mono ?_
  rintro r w1 ⟨v1,rfl,hv1,hst1⟩
  have HIN1:=hid ((HIN.out.row zA).step hst1)
  have R1:Blk w1 w.heap.size 180 #[.slice none 0 0,.slice none 0 0]:=Blk.tch zD hst1.2 zC
  have hz1:=HIN1.out.tch.size
  have hr1:=R1.lt
  obtain⟨a1,c1,hfv,_,_⟩:=AH (FJ hv1)
  simp only[Av,AI] at hfv
  subst hfv
  have HV1:=hid hv1
  clear hst1 hv1
  go_wp2_with fail
  refine (HIT.out _ (HIN1.out.row ((by (repeat (first | with_reducible exact Below.refl _ _ | with_reducible assumption | (with_reducible refine Aw ?_ _) | (with_reducible refine Below.setCell ?_ zE _) | (with_reducible refine Below.drew ?_) | (with_reducible refine below_drewN ?_ _) | (refine Aj zG ?_))):Below w1.heap.size w1 _).mono hz1)).rd).mono ?_
  rintro r w2 ⟨rfl,hst2⟩
  have hT2:=hst2.2
  have hz2:=hst2.2.size
  have HIN2:=hid ((HIN1.out.row ((by (repeat (first | with_reducible exact Below.refl _ _ | with_reducible assumption | (with_reducible refine Aw ?_ _) | (with_reducible refine Below.setCell ?_ zE _) | (with_reducible refine Below.drew ?_) | (with_reducible refine below_drewN ?_ _) | (refine Aj zG ?_))):Below w1.heap.size w1 _).mono hz1)).step hst2)
  have B2:Blk w2 w1.heap.size 180 #[.slice a1 l.length c1,.slice none 0 0]:=Blk.tch zD hst2.2 zC
  have R2:Blk w2 w.heap.size 180 #[.slice none 0 0,.slice none 0 0]:=Blk.tch (Blk.later R1 (by (repeat (first | with_reducible exact Below.refl _ _ | with_reducible assumption | (with_reducible refine Aw ?_ _) | (with_reducible refine Below.setCell ?_ zE _) | (with_reducible refine Below.drew ?_) | (with_reducible refine below_drewN ?_ _) | (refine Aj zG ?_))):Below w1.heap.size w1 _)) hst2.2 zC
  go_wp2_with fail
  refine (HG.out _ HIN2.out.rd).mono ?_
  rintro r w3 ⟨rfl,hb3⟩
  have HIN3:=hid (HIN2.out.row (hb3.mono HIN2.out.tch.size))
  have B3:=B2.later hb3
  have R3:=R2.later hb3
  obtain⟨x0,x1,f0,f1,l3⟩:=Bd B3
  obtain⟨y0,y1,g0,g1,m3⟩:=Bd R3
  go_wp2
  have RF:Blk ((w3.setCell ⟨w.heap.size,0,none⟩ (.slice none 0 0)).setCell ⟨w.heap.size,1,none⟩ (.slice none 0 0)) w.heap.size 180 #[.slice none 0 0,.slice none 0 0]:=(R3.set 0 _).set 1 _
  obtain⟨u0,u1,_,_,lF⟩:=Bd RF
  have HF:Below w.heap.size w3 ((w3.setCell ⟨w.heap.size,0,none⟩ (.slice none 0 0)).setCell ⟨w.heap.size,1,none⟩ (.slice none 0 0)):=zA
  have HINF:=HIN3.out.row HF
  refine Ax (v:=.tuple #[.agg #[.slice none 0 0,.slice none 0 0],.int .i64 0]) zBv rfl ⟨_,rfl,A8.I4 (e:=0) (As _) A8.nil,HINF.to⟩
end Go.Proofs.YtfddhafbhceoaaaGreat
