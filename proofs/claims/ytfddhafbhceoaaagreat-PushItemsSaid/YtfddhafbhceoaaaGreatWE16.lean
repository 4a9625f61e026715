/- Mini: Needed by pushItems_walk, part 16: texts put together by shake.py; no condition. -/
import Derived.Test.YtfddhafbhceoaaaGreatWE5
import Derived.Test.YtfddhafbhceoaaaGreatWE1
import Derived.Test.YtfddhafbhceoaaaGreatWE15
import Derived.Test.YtfddhafbhceoaaaGreatWE8
import Derived.Test.YtfddhafbhceoaaaGreatWE7
import Derived.Test.YtfddhafbhceoaaaGreatWE14
import Derived.Test.YtfddhafbhceoaaaGreatWE3
import Derived.Test.YtfddhafbhceoaaaGreatWE4
import Derived.Test.YtfddhafbhceoaaaGreatWE2
import Derived.Deep.WholeRow
import Derived.Test.YtfddhafbhceoaaaGreatWE11
import Derived.Test.YtfddhafbhceoaaaGreatWE13
set_option linter.unusedVariables false
set_option linter.unusedSimpArgs false
set_option maxRecDepth 100000
set_option maxHeartbeats 6400000
namespace Go.Bs
variable{c g i n:Nat}{a:Option Addr}{t:TypeId}{v0 v1 v2 v3 v4:Value}
theorem zCu{p:Prop}(h:p:=by simp [results, Tryz.results64, go_sem, y0, y1, l1]):p:=h
theorem zB4{p:Prop}(h:p:=by dsimp only; have := e.1; omega):p:=h
theorem zA6{p:Prop}(h:p:=by dsimp only; have := (BI hc.1 q e).1; omega):p:=h
theorem Z8{p:Prop}(h:p:=by simp only [AO]; omega):p:=h
theorem Z4{p:Prop}(h:p:=by rw [M9]; omega):p:=h
theorem zP{p:Prop}(h:p:=by first | (simp; done) | (simp; omega)):p:=h
abbrev Acu(h:Array Value:=by exact #[.int .i64 2,.int .i64 (s.fed:Int),.int .i64 0,.int .i64 0,.int .u64 0,.int .u64 0,.int .u64 0,.int .i64 0,.int .i64 0,.slice none 0 0,.slice none 0 0,.slice none 0 0,.int .u64 0,.int .u64 0,.int .u64 0,.int .u64 0,.slice none 0 0,.int .u64 0,.int .u64 0,.slice none 0 0]):=h
abbrev Acv(h:Array Value:=by exact #[.int .i64 0,.int .i64 0,.int .i64 0,.int .i64 0,.int .u64 0,.int .u64 0,.int .u64 0,.int .i64 0,.int .i64 0,.slice none 0 0,.slice none 0 0,.slice none 0 0,.int .u64 0,.int .u64 0,.int .u64 0,.int .u64 0,.slice none 0 0,.int .u64 0,.int .u64 0,.slice none 0 0]):=h
abbrev Acy(h:Array Value:=by exact #[.int .i64 4,.int .i64 FV,.int .i64 k,.int .i64 0,.int .u64 0,.int .u64 0,.int .u64 0,.int .i64 0,.int .i64 0,.slice none 0 0,.slice none 0 0,.slice none 0 0,.int .u64 0,.int .u64 0,.int .u64 0,.int .u64 0,.slice none 0 0,.int .u64 0,.int .u64 0,.slice none 0 0]):=h
abbrev AcI(h:Array Value:=by exact #[.bool true,v,.int .i64 (s.first:Int),.int .i64 (s.fed:Int),.int .i64 (s.need:Int),.int .i64 s.ended]):=h
abbrev AcF(h:Array Value:=by exact #[.int .i64 3,.int .i64 (s.fed:Int),.int .i64 1,.int .i64 0,.int .u64 0,.int .u64 0,.int .u64 0,.int .i64 0,.int .i64 0,.slice none 0 0,.slice none 0 0,.slice none 0 0,.int .u64 0,.int .u64 0,.int .u64 0,.int .u64 0,.slice none 0 0,.int .u64 0,.int .u64 0,.slice none 0 0]):=h
end Go.Bs
namespace Go.Proofs.YtfddhafbhceoaaaGreat
open Go.RowKit Go.Bs Go.Maps
variable{k:Int}{D P l rest:List UInt8}{xs:List Value}{base c1 c2 c3 c4 g j n:Nat}{F S:Nat → Prop}{a1 a2 a3 a4:Option Addr}{e t:TypeId}{v v0 v1 v2 v3 v4:Value}{W w w':World}
def Hy(D:List UInt8):Prop:=(Ca D).1.k=1∨(0<AP D∧D.length<AP D)
def EW(at_:Nat)(E:List UInt8):PSt:=⟨E,at_,at_+E.length,AP E,0⟩
theorem Nq:AP []=0:=by
 unfold AP;rw[Ak (by rw[Sn];decide)]
theorem IM(h:(Ca D).1.k=1):AP D=0:=by
 unfold AP;rw[Ak (by rw[h];decide)]
theorem QS(p:Nat)(E:List UInt8):(EW p E).ended=0:=rfl
def Iy(at_:Nat)(D:List UInt8):PSt × List Ev:=
 if 0<AP D then
  if D.length<AP D then (EW at_ D,[])
  else
   if (CC D).2.2.2.1=0 then (EW (at_+D.length) [],[DV at_ (CC D).1])
   else (⟨[],at_,at_+D.length,AP D,4⟩,[FK (wrap64 ((CC D).2.2.2.2+(at_:Int))) (CC D).2.2.2.1])
 else if (Ca D).1.k=1 then (EW at_ D,[])
 else (⟨[],at_,at_+D.length,0,4⟩,[FK (wrap64 ((Ca D).1.f+(at_:Int))) (Ca D).1.k])
theorem Pf{at_:Nat}{E:List UInt8}{b:UInt8}:Ea (EW at_ E) b=Iy at_ (E++[b]):=by
 have hn:(if 0<AP E then AP E else AP (E++[b]))=AP (E++[b]):=by
  split
  ·rename_i h
   exact (S9 (by rw[IN.1 h];decide) _).symm
  ·rfl
 have hl:at_+(E++[b]).length=at_+E.length+1:=zCc;unfold Ea Iy EW;dsimp only;rw[hn,hl];by_cases h1:0<AP (E++[b])
 ·rw[Ai h1,Ai h1]
  by_cases h2:(E++[b]).length<AP (E++[b])
  ·rw[Ai h2,Ai h2]
  ·rw[Ak h2,Ak h2]
   by_cases h3:(CC (E++[b])).2.2.2.1=0
   ·rw[Ai h3,Ai h3,Nq]
    rfl
   ·rw[Ak h3,Ak h3]
 ·rw[Ak h1,Ak h1]
  by_cases h2:(Ca (E++[b])).1.k=1
  ·rw[Ai h2,Ai h2,IM h2]
  ·rw[Ak h2,Ak h2]
theorem Tb{at_:Nat}(h:Hy D):Iy at_ D=(EW at_ D,[]):=by
 unfold Iy;rcases h with h | ⟨h1,h2⟩
 ·rw[Ak (by rw[IM h];decide),Ai h]
 ·rw[Ai h1,Ai h2]
theorem TO(h:Hy D)(j:Nat):Hy (D.take j):=by
 by_cases hk:(Ca (D.take j)).1.k=1
 ·exact .inl hk
 ·have e:=LY hk
  rcases h with h | ⟨h1,h2⟩
  ·rw[←e] at h
   exact absurd h hk
  ·refine .inr ?_
   rw[FF hk];have:=List.length_take_le' j D;exact⟨h1,zD⟩
theorem Oq(at_:Nat):∀(E D:List UInt8),(∀j,j≤D.length→Hy (E++D.take j))→CL (EW at_ E) D=(EW at_ (E++D),[])
 | E,[],h=>by
  rw[JV,BK]
 | E,b::l,h=>by
  have h1:=h 1 zN;rw[Gr,Ly] at h1;have ih:=Oq at_ (E++[b]) l (fun j hj=>by
   have:=h (j+1) zH;rw[Gr] at this;rw[Ao];exact this)
  rw[Gn,Pf,Tb h1];dsimp only;rw[Ai (QS _ _),ih,Ao];rfl
theorem PV{at_:Nat}(h:Hy D):CL (EW at_ []) D=(EW at_ D,[]):=
 Oq at_ [] D (fun j hj=>TO h j)
theorem Vs{at_:Nat}(hj:0<j)(hl:j≤D.length)(h:∀i,i<j→Hy (D.take i)):
  CL (EW at_ []) D=(if (Iy at_ (D.take j)).1.ended=0 then ((CL (Iy at_ (D.take j)).1 (D.drop j)).1,(Iy at_ (D.take j)).2++(CL (Iy at_ (D.take j)).1 (D.drop j)).2) else Iy at_ (D.take j)):=by
 obtain⟨i,rfl⟩:∃i,j=i+1:=⟨j-1,zD⟩;have hi:i<D.length:=zD;have e1:D=D.take i++(D[i]::D.drop (i+1)):=by
  rw[List.getElem_cons_drop,Ce]
 have e2:D.take (i+1)=D.take i++[D[i]]:=(List.take_append_getElem hi).symm;have hq:=PV (at_:=at_) (h i zD);have ha:=PX (EW at_ []) (D.take i) (D[i]::D.drop (i+1)) rfl;rw[←e1,hq] at ha;dsimp only at ha;rw[Ai (QS _ _),AV] at ha;rw[ha,Gn,Pf,←e2]
def DP(S:List UInt8):Nat→Nat→List Ev × Nat × Int
 | 0,p=>([],p,0)
 | f+1,p=>
  if p<S.length then
   if AP (S.drop p)=0∧(Ca (S.drop p)).1.k≠1 then ([FK (wrap64 ((Ca (S.drop p)).1.f+(p:Int))) (Ca (S.drop p)).1.k],p,4)
   else if AP (S.drop p)=0∨(S.drop p).length<AP (S.drop p) then ([],p,0)
   else
    if (CC ((S.drop p).take (AP (S.drop p)))).2.2.2.1=0 then
     (DV p (CC ((S.drop p).take (AP (S.drop p)))).1::(DP S f (p+AP (S.drop p))).1,(DP S f (p+AP (S.drop p))).2)
    else ([FK (wrap64 ((CC ((S.drop p).take (AP (S.drop p)))).2.2.2.2+(p:Int))) (CC ((S.drop p).take (AP (S.drop p)))).2.2.2.1],p,4)
  else ([],p,0)
theorem Hn(S:List UInt8)(f p:Nat):DP S (f+1) p=(if p<S.length then
   if AP (S.drop p)=0∧(Ca (S.drop p)).1.k≠1 then ([FK (wrap64 ((Ca (S.drop p)).1.f+(p:Int))) (Ca (S.drop p)).1.k],p,4)
   else if AP (S.drop p)=0∨(S.drop p).length<AP (S.drop p) then ([],p,0)
   else
    if (CC ((S.drop p).take (AP (S.drop p)))).2.2.2.1=0 then
     (DV p (CC ((S.drop p).take (AP (S.drop p)))).1::(DP S f (p+AP (S.drop p))).1,(DP S f (p+AP (S.drop p))).2)
    else ([FK (wrap64 ((CC ((S.drop p).take (AP (S.drop p)))).2.2.2.2+(p:Int))) (CC ((S.drop p).take (AP (S.drop p)))).2.2.2.1],p,4)
  else ([],p,0)):=rfl
theorem least(P:Nat→Prop)[DecidablePred P]:∀n,P n→∃j,j≤n∧P j∧∀i,i<j→¬P i
 | 0,h=>⟨0,An _,h,fun i hi=>absurd hi (Nat.not_lt_zero _)⟩
 | n+1,h=>by
  by_cases hq:∃i,i≤n∧P i
  ·obtain⟨i,hi,hp⟩:=hq
   obtain⟨j,h1,h2,h3⟩:=least P i hp;exact⟨j,zD,h2,h3⟩
  ·exact⟨n+1,An _,h,fun i hi hp=>hq ⟨i,zD,hp⟩⟩
theorem Ss(S:List UInt8):∀(f p:Nat),p≤S.length→S.length-p<f→
  (CL (EW p []) (S.drop p)).2=(DP S f p).1∧
  ((DP S f p).2.2=0→(CL (EW p []) (S.drop p)).1=EW (DP S f p).2.1 (S.drop (DP S f p).2.1)∧(DP S f p).2.1≤S.length)∧
  ((DP S f p).2.2≠0→(DP S f p).2.2=4∧(CL (EW p []) (S.drop p)).1.ended=4∧(CL (EW p []) (S.drop p)).1.buf=[]∧(CL (EW p []) (S.drop p)).1.fed≤S.length)
 | 0,p,hp,hf=>absurd hf (Nat.not_lt_zero _)
 | f+1,p,hp,hf=>by
  rw[Hn];by_cases h0:p<S.length
  ·rw[Ai h0]
   have hDl:(S.drop p).length=S.length-p:=Jm;have hds:∀j,(S.drop p).drop j=S.drop (p+j):=fun j=>LA;generalize hD:S.drop p=D at*;by_cases h1:AP D=0∧(Ca D).1.k≠1
   ·rw[Ai h1]
    have hP:(fun j=>¬(Ca (D.take j)).1.k=1) D.length:=by
     show ¬(Ca (D.take D.length)).1.k=1
     rw[CF (An _)];exact h1.2
    obtain⟨j,g1,g2,g3⟩:=least (fun j=>¬(Ca (D.take j)).1.k=1) D.length hP;have hj:0<j:=Nat.pos_of_ne_zero (fun e=>g2 (by rw[e,Ly];exact Sn));have hl:(D.take j).length=j:=Z4;have hv:Iy p (D.take j)=(⟨[],p,p+j,0,4⟩,[FK (wrap64 ((Ca D).1.f+(p:Int))) (Ca D).1.k]):=by
     unfold Iy;rw[FF g2,Ak (by rw[h1.1];decide),Ak g2,LY g2,hl]
    rw[Vs hj g1 (fun i hi=> .inl (Decidable.of_not_not (g3 i hi))),hv];dsimp only;rw[Ak zO];exact⟨rfl,fun h=>absurd h zO,fun _=>⟨rfl,rfl,rfl,zJ⟩⟩
   ·rw[Ak h1]
    by_cases h2:AP D=0∨D.length<AP D
    ·rw[Ai h2]
     have hq:Hy D:=by
      rcases h2 with h2 | h2
      ·exact .inl (Decidable.of_not_not (fun h=>h1 ⟨h2,h⟩))
      ·exact .inr ⟨zD,h2⟩
     rw[PV hq];exact⟨rfl,fun _=>⟨by dsimp only;rw[hD],hp⟩,fun h=>absurd rfl h⟩
    ·rw[Ak h2]
     have hn:0<AP D:=zD;have hk:=IN.1 hn;have hle:AP D≤D.length:=zD;have hv3:(Az (Ca D).2).length≤AP D:=by
      unfold AP;rw[Ai hk];omega
     have hl:(D.take (AP D)).length=AP D:=Z4;have hkt:(Ca (D.take (AP D))).1.k≠1:=by rw[JI hk hv3];decide
     have hwt:=FF hkt;have hq:∀i,i<AP D→Hy (D.take i):=fun i hi=>by
      by_cases hki:(Ca (D.take i)).1.k=1
      ·exact .inl hki
      ·refine .inr ?_
       rw[FF hki,M9];omega
     have hv:Iy p (D.take (AP D))=(if (CC (D.take (AP D))).2.2.2.1=0 then (EW (p+AP D) [],[DV p (CC (D.take (AP D))).1])
       else (⟨[],p,p+AP D,AP D,4⟩,[FK (wrap64 ((CC (D.take (AP D))).2.2.2.2+(p:Int))) (CC (D.take (AP D))).2.2.2.1])):=by
      unfold Iy;rw[hwt,Ai hn,hl,Ak zD]
     rw[Vs hn hle hq,hv];by_cases h3:(CC (D.take (AP D))).2.2.2.1=0
     ·rw[Ai h3,Ai h3]
      have ih:=Ss S f (p+AP D) zD zD;rw[←hds] at ih;dsimp only;rw[Ai (QS _ _)];dsimp only;rw[List.singleton_append,ih.1];exact⟨rfl,ih.2.1,ih.2.2⟩
     ·rw[Ak h3,Ak h3]
      dsimp only;rw[Ak zO];exact⟨rfl,fun h=>absurd h zO,fun _=>⟨rfl,rfl,rfl,zJ⟩⟩
  ·rw[Ak h0]
   have e:S.drop p=[]:=List.drop_eq_nil_of_le zD;rw[e,JV];exact⟨rfl,fun _=>⟨rfl,hp⟩,fun h=>absurd rfl h⟩
def Hx(s:PSt):PSt × List Ev:=
 if s.ended=0 then (⟨[],s.first,s.fed,s.need,if s.buf=[] then 2 else 3⟩,[⟨if s.buf=[] then 2 else 3,s.fed,if s.buf=[] then 0 else 1,El⟩])
 else (s,[])
def Vt(s:PSt)(l:List UInt8):PSt × List Ev:=if s.ended=0 then CL s l else (s,[])
def LU:PSt:=⟨[],0,0,0,0⟩
theorem Wi:LU=EW 0 []:=by
 unfold LU EW;rw[Nq];rfl
def O5(S:List UInt8):List Ev:=(CL LU S).2++(Hx (CL LU S).1).2
def YL(S:List UInt8)(closed:Bool):List Ev:=
 (DP S (S.length+1) 0).1++(if closed=true∧(DP S (S.length+1) 0).2.2=0 then [if (DP S (S.length+1) 0).2.1<S.length then ⟨3,S.length,1,El⟩ else ⟨2,S.length,0,El⟩] else [])
theorem Rc(S:List UInt8):O5 S=YL S true:=by
 have hd:=Ss S (S.length+1) 0 (Am _) zD;rw[CO,←Wi] at hd;obtain⟨h1,h2,h3⟩:=hd;unfold O5 YL;rw[h1];congr 1
 by_cases h:(DP S (S.length+1) 0).2.2=0
 ·obtain⟨e,hq⟩:=h2 h
  rw[e,Ai ⟨rfl,h⟩];unfold Hx EW;dsimp only;rw[Ai rfl,Jm];generalize (DP S (S.length+1) 0).2.1=q at*;by_cases hl:q<S.length
  ·have hne:S.drop q≠[]:=fun e=>by
    have:=GL List.length e;rw[Jm,Bp] at this;omega
   have hn:q+(S.length-q)=S.length:=zD;rw[Ak hne,Ak hne,Ai hl,hn]
  ·have he:S.drop q=[]:=List.drop_eq_nil_of_le zD
   have hn:q+(S.length-q)=S.length:=zD;rw[Ai he,Ai he,Ak hl,hn]
 ·obtain⟨_,e,_⟩:=h3 h
  rw[Ak (fun hh=>h hh.2)];unfold Hx;rw[Ak (by rw[e];decide)]
theorem IP(hP:P.length≤2097152):AP (Bf P++rest)=(Bf P).length∧(Ca (Bf P++rest)).1.k=0:=by
 have e:Ca (Bf P++rest)=(⟨0+(Az P.length).length,0,0⟩,P.length):=by
  unfold Ca;refine Rs.FT zD (rest:=P++(CW 4 (CQ P)++rest)) ?_ zD;rw[CO];unfold Bf C3;simp only[Ao]
 refine⟨?_,by rw[e]⟩;unfold AP;rw[e];dsimp only;rw[Ai rfl,EX,D8]
theorem TP{F:List UInt8}(hF:AP F=F.length)(hj:j<F.length):Hy (F.take j):=by
 by_cases hk:(Ca (F.take j)).1.k=1
 ·exact .inl hk
 ·refine .inr ?_
  rw[FF hk,M9];omega
def Eg:Nat→List Msg→List Ev
 | _,[]=>[]
 | p,m::l=>DV p m::Eg (p+(Bf (CA m)).length) l
theorem LL(S:List UInt8):∀(l:List Msg) (rest:List UInt8) (f p:Nat),(∀m∈l,M8 m∧DJ m=true∧inU m.seq)→S.drop p=B9 l++rest→p≤S.length→l.length≤f→
  DP S f p=(Eg p l++(DP S (f-l.length) (p+(B9 l).length)).1,(DP S (f-l.length) (p+(B9 l).length)).2)
 | [],rest,f,p,_,h,hp,_=>by
  simp[B9,Eg]
 | m::l,rest,0,p,_,_,_,hf=>absurd hf (Nat.not_succ_le_zero _)
 | m::l,rest,f+1,p,hl,h,hp,hf=>by
  obtain⟨hN,hR,hs⟩:=hl m (List.mem_cons_self ..);have e:B9 (m::l)=Bf (CA m)++B9 l:=by simp[B9]
  rw[e,Ao] at h;have h5:=KI (CA m);have hr:=Bl h hp;have h2:=Br h;have ih:=LL S l rest f (p+(Bf (CA m)).length) (fun x hx=>hl x (List.mem_cons_of_mem _ hx)) h2 zD (by simp at hf;omega);have hg:=YB (rest:=[]) hN hR hs;rw[BK] at hg;obtain⟨w1,w2⟩:=IP (rest:=B9 l++rest) (LN hR);rw[Hn,Ai zD,h,w1,Ak zD,Ag,Ak zD,List.take_left' rfl,hg];dsimp only;rw[Ai rfl,ih,e,Ag,AO,Nat.add_sub_add_right,Bu];rfl
theorem XM{l:List Msg}(hl:∀m∈l,M8 m∧DJ m=true∧inU m.seq):O5 (B9 l)=Eg 0 l++[⟨2,(B9 l).length,0,El⟩]:=by
 have hlen:=S0 (l:=l);have h:=LL (B9 l) l [] ((B9 l).length+1) 0 hl (by rw[CO,BK]) (Am _) zD;obtain⟨g,hg⟩:∃g,(B9 l).length+1-l.length=g+1:=⟨(B9 l).length-l.length,zD⟩;have e0:DP (B9 l) (g+1) (0+(B9 l).length)=([],(B9 l).length,0):=by
  rw[A1,Hn,Ak (Nat.lt_irrefl _)]
 rw[hg,e0] at h;dsimp only at h;rw[BK] at h;rw[Rc];unfold YL;rw[h];dsimp only;rw[Ai ⟨rfl,rfl⟩,Ak (Nat.lt_irrefl _)]
end Go.Proofs.YtfddhafbhceoaaaGreat
namespace Go.Bs
open Go.RowKit
variable{c g i n:Nat}{a:Option Addr}{t:TypeId}{v0 v1 v2 v3 v4:Value}
structure EvX where
 kind:Int
 at_:Int
 code:Int
 msg:Msg
 batch:Batch
def rI:Rp Int:=⟨fun _ _ cs n=>cs=[.int .i64 n],fun h _=>h,fun h _=>h⟩
def J0:Rp EvX:=rBy (fun e=>(e.kind,e.at_,e.code,e.msg,e.batch)) (Eb rI (Eb rI (Eb rI (Eb QF Hm))))
def Kx:Rp (List EvX):=rSl 20 J0
def DF(x:EvX)(a1:Option Addr)(c1:Nat)(a2:Option Addr)(c2:Nat)(a3:Option Addr)(c3:Nat)(a4:Option Addr)(c4:Nat)(a5:Option Addr)(c5:Nat):List Value:=
 [.int .i64 x.kind,.int .i64 x.at_,.int .i64 x.code,.int .i64 x.msg.kind,.int .u64 x.msg.epoch,.int .u64 x.msg.seq,.int .u64 x.msg.pos,.int .i64 x.msg.count,.int .i64 x.msg.state,.slice a1 x.msg.streams.length c1,.slice a2 x.msg.links.length c2,.slice a3 x.msg.data.length c3,.int .u64 x.msg.sea.epoch,.int .u64 x.msg.sea.node,.int .u64 x.msg.sea.tail,.int .u64 x.msg.proj.epoch,.slice a4 x.msg.proj.stripes.length c4,.int .u64 x.batch.epoch,.int .u64 x.batch.base,.slice a5 x.batch.entries.length c5]
structure S7(S:Nat→Prop)(w:World)(x:EvX)(a1:Option Addr)(c1:Nat)(a2:Option Addr)(c2:Nat)(a3:Option Addr)(c3:Nat)(a4:Option Addr)(c4:Nat)(a5:Option Addr)(c5:Nat):Prop where
 msg:A9 S w x.msg a1 c1 a2 c2 a3 c3 a4 c4
 epoch:inU x.batch.epoch
 base:inU x.batch.base
 ents:Hl.r S w [.slice a5 x.batch.entries.length c5] x.batch.entries
section
variable {S S':Nat→Prop} {w w':World} {cs:List Value}
theorem Lr{x:EvX}(h:J0.r S w cs x):∃a1 c1 a2 c2 a3 c3 a4 c4 a5 c5,cs=DF x a1 c1 a2 c2 a3 c3 a4 c4 a5 c5∧S7 S w x a1 c1 a2 c2 a3 c3 a4 c4 a5 c5:=by
 obtain⟨_,_,rfl,rfl,_,_,rfl,rfl,_,_,rfl,rfl,_,_,rfl,h4,h5⟩:=h;obtain⟨a1,c1,a2,c2,a3,c3,a4,c4,rfl,g1⟩:=PD h4;obtain⟨a5,c5,rfl,g2,g3,g4⟩:=SY h5;exact⟨a1,c1,a2,c2,a3,c3,a4,c4,a5,c5,rfl,g1,g2,g3,g4⟩
theorem Vx{xs:List EvX}(h:Kx.r S w [.slice a n c] xs)(hi:i<xs.length):∃b off,a=some ⟨b,off,none⟩∧S b∧∃(a1:Option Addr) (c1:Nat) (a2:Option Addr) (c2:Nat) (a3:Option Addr) (c3:Nat) (a4:Option Addr) (c4:Nat) (a5:Option Addr) (c5:Nat),
  (w.cell? ⟨b,off+i*20,none⟩=some (.int .i64 xs[i].kind)∧w.cell? ⟨b,off+i*20+1,none⟩=some (.int .i64 xs[i].at_)∧w.cell? ⟨b,off+i*20+2,none⟩=some (.int .i64 xs[i].code)∧w.cell? ⟨b,off+i*20+3,none⟩=some (.int .i64 xs[i].msg.kind)∧w.cell? ⟨b,off+i*20+4,none⟩=some (.int .u64 xs[i].msg.epoch)∧w.cell? ⟨b,off+i*20+5,none⟩=some (.int .u64 xs[i].msg.seq)∧w.cell? ⟨b,off+i*20+6,none⟩=some (.int .u64 xs[i].msg.pos)∧w.cell? ⟨b,off+i*20+7,none⟩=some (.int .i64 xs[i].msg.count)∧w.cell? ⟨b,off+i*20+8,none⟩=some (.int .i64 xs[i].msg.state)∧w.cell? ⟨b,off+i*20+9,none⟩=some (.slice a1 xs[i].msg.streams.length c1)∧w.cell? ⟨b,off+i*20+10,none⟩=some (.slice a2 xs[i].msg.links.length c2)∧w.cell? ⟨b,off+i*20+11,none⟩=some (.slice a3 xs[i].msg.data.length c3)∧w.cell? ⟨b,off+i*20+12,none⟩=some (.int .u64 xs[i].msg.sea.epoch)∧w.cell? ⟨b,off+i*20+13,none⟩=some (.int .u64 xs[i].msg.sea.node)∧w.cell? ⟨b,off+i*20+14,none⟩=some (.int .u64 xs[i].msg.sea.tail)∧w.cell? ⟨b,off+i*20+15,none⟩=some (.int .u64 xs[i].msg.proj.epoch)∧w.cell? ⟨b,off+i*20+16,none⟩=some (.slice a4 xs[i].msg.proj.stripes.length c4)∧w.cell? ⟨b,off+i*20+17,none⟩=some (.int .u64 xs[i].batch.epoch)∧w.cell? ⟨b,off+i*20+18,none⟩=some (.int .u64 xs[i].batch.base)∧w.cell? ⟨b,off+i*20+19,none⟩=some (.slice a5 xs[i].batch.entries.length c5))∧S7 S w xs[i] a1 c1 a2 c2 a3 c3 a4 c4 a5 c5:=by
 obtain⟨b,off,e,hS,cs,_,hc,hA⟩:=Kg h hi;obtain⟨a1,c1,a2,c2,a3,c3,a4,c4,a5,c5,rfl,h1⟩:=Lr hA;exact⟨b,off,e,hS,a1,c1,a2,c2,a3,c3,a4,c4,a5,c5,⟨hc 0 _ rfl,hc 1 _ rfl,hc 2 _ rfl,hc 3 _ rfl,hc 4 _ rfl,hc 5 _ rfl,hc 6 _ rfl,hc 7 _ rfl,hc 8 _ rfl,hc 9 _ rfl,hc 10 _ rfl,hc 11 _ rfl,hc 12 _ rfl,hc 13 _ rfl,hc 14 _ rfl,hc 15 _ rfl,hc 16 _ rfl,hc 17 _ rfl,hc 18 _ rfl,hc 19 _ rfl⟩,h1⟩
theorem Nj{x:EvX}{a1:Option Addr}{c1:Nat}{a2:Option Addr}{c2:Nat}{a3:Option Addr}{c3:Nat}{a4:Option Addr}{c4:Nat}{a5:Option Addr}{c5:Nat}:∀u∈DF x a1 c1 a2 c2 a3 c3 a4 c4 a5 c5,u.oneCell'=true:=by
 intro u hu;simp[DF] at hu;rcases hu with rfl | rfl | rfl | rfl | rfl | rfl | rfl | rfl | rfl | rfl | rfl | rfl | rfl | rfl | rfl | rfl | rfl | rfl | rfl | rfl<;>rfl
theorem Ov{v5 v6 v7 v8 v9 v10 v11 v12 v13 v14 v15 v16 v17 v18 v19:Value}(h:Blk w g t #[v0,v1,v2,v3,v4,v5,v6,v7,v8,v9,v10,v11,v12,v13,v14,v15,v16,v17,v18,v19]):
  w.cell? ⟨g,0,none⟩=some v0∧w.cell? ⟨g,1,none⟩=some v1∧w.cell? ⟨g,2,none⟩=some v2∧w.cell? ⟨g,3,none⟩=some v3∧w.cell? ⟨g,4,none⟩=some v4∧w.cell? ⟨g,5,none⟩=some v5∧w.cell? ⟨g,6,none⟩=some v6∧w.cell? ⟨g,7,none⟩=some v7∧w.cell? ⟨g,8,none⟩=some v8∧w.cell? ⟨g,9,none⟩=some v9∧w.cell? ⟨g,10,none⟩=some v10∧w.cell? ⟨g,11,none⟩=some v11∧w.cell? ⟨g,12,none⟩=some v12∧w.cell? ⟨g,13,none⟩=some v13∧w.cell? ⟨g,14,none⟩=some v14∧w.cell? ⟨g,15,none⟩=some v15∧w.cell? ⟨g,16,none⟩=some v16∧w.cell? ⟨g,17,none⟩=some v17∧w.cell? ⟨g,18,none⟩=some v18∧w.cell? ⟨g,19,none⟩=some v19∧g<w.heap.size:=
 ⟨h.cell 0,h.cell 1,h.cell 2,h.cell 3,h.cell 4,h.cell 5,h.cell 6,h.cell 7,h.cell 8,h.cell 9,h.cell 10,h.cell 11,h.cell 12,h.cell 13,h.cell 14,h.cell 15,h.cell 16,h.cell 17,h.cell 18,h.cell 19,h.lt⟩
theorem QW{cs:Array Value}(h:Blk w g t cs):w.frozen? ⟨g,0,none⟩=false∧w.frozen? ⟨g,1,none⟩=false∧w.frozen? ⟨g,2,none⟩=false∧w.frozen? ⟨g,3,none⟩=false∧w.frozen? ⟨g,4,none⟩=false∧w.frozen? ⟨g,5,none⟩=false∧w.frozen? ⟨g,6,none⟩=false∧w.frozen? ⟨g,7,none⟩=false∧w.frozen? ⟨g,8,none⟩=false∧w.frozen? ⟨g,9,none⟩=false∧w.frozen? ⟨g,10,none⟩=false∧w.frozen? ⟨g,11,none⟩=false∧w.frozen? ⟨g,12,none⟩=false∧w.frozen? ⟨g,13,none⟩=false∧w.frozen? ⟨g,14,none⟩=false∧w.frozen? ⟨g,15,none⟩=false∧w.frozen? ⟨g,16,none⟩=false∧w.frozen? ⟨g,17,none⟩=false∧w.frozen? ⟨g,18,none⟩=false∧w.frozen? ⟨g,19,none⟩=false:=
 ⟨h.free 0,h.free 1,h.free 2,h.free 3,h.free 4,h.free 5,h.free 6,h.free 7,h.free 8,h.free 9,h.free 10,h.free 11,h.free 12,h.free 13,h.free 14,h.free 15,h.free 16,h.free 17,h.free 18,h.free 19⟩
end
end Go.Bs
namespace Go.Proofs.YtfddhafbhceoaaaGreat
open Go.RowKit Go.Bs Go.Maps
variable{k:Int}{D P l rest:List UInt8}{xs:List Value}{base c1 c2 c3 c4 g j n:Nat}{F S:Nat → Prop}{a1 a2 a3 a4:Option Addr}{e t:TypeId}{v v0 v1 v2 v3 v4:Value}{W w w':World}
theorem R6{size:Nat}(h:w.ownsRow base e size v n xs)(hk:∀g,v.ownBlock=some g→w'.heap[g]? =w.heap[g]?):w'.ownsRow base e size v n xs:=by
 refine⟨h.1,?_⟩;rcases h.2 with h0 | ⟨g,cap,cur,h1,h2,h3,h4⟩
 ·exact .inl h0
 ·exact .inr ⟨g,cap,cur,h1,h2,by rw[hk g (by rw[h1];rfl)];exact h3,h4⟩
theorem BD.PN{b:Nat}{L:List UInt8}(h:BD w b v L)(hk:∀g,v.ownBlock=some g→w'.heap[g]? =w.heap[g]?):BD w' b v L:=R6 h hk
theorem BD.nil{b:Nat}:BD w b (.slice none 0 0) []:=⟨rfl,.inl ⟨rfl,rfl⟩⟩
theorem BD.at_{b:Nat}{L:List UInt8}(h:BD w b v L):∀q,v.ownBlock=some q→b≤q∧q<w.heap.size:=BI h
theorem AaI(B:List UInt8):(Ca B).2≤2097152:=by
 rw[Nh];split
 ·exact Am _
 ·dsimp only;omega
theorem Sq(w:World)(B:List UInt8)(a:Option Addr)(n c:Nat)(hl:Ah.r (·<w.heap.size) w [.slice a n c] B)(hB:B.length≤1000000000):
  Calls Tryz.prog 63 #[.slice a n c,.int .i64 2097152] w fun r w'=>r=.returned (.tuple #[.int .i64 (AP B:Nat),.bool (decide (0<AP B))])∧Below w.heap.size w w':=by
 obtain⟨rfl,_,_,_⟩:=AT hl;have HN:=hid (NW w B a _ c hl);have HI:=hid (fun (W:World) (h:A6 W w.heap.size B a ⟨0,0,0⟩)=>(by have:=Ef W h zD 2097152 zO;exact this:Calls Tryz.prog 110 #[.pointer (some ⟨w.heap.size,0,none⟩),.int .i64 2097152] W fun r w'=>r=.returned (.int .i64 ((Ca B).2:Int))∧AG W w.heap.size B a (Ca B).1 w'));have HBD:=hid (fun (W:World)=>(by have:=MO 2097152 W;exact this:Calls Tryz.prog 111 #[.int .i64 2097152] W fun r w'=>r=.returned (.int .i64 2097152)∧W=w'));have hle:=AaI B;have HSZ:=hid (fun (W:World)=>Oo (Ca B).2 zD W);unfold AP;generalize Ca B=I at*;obtain⟨s,x⟩:=I;dsimp only at*;clear hl;by_cases hk:s.k=0
 ·have HG:=hid (fun (V:World) (hV:A6 V w.heap.size B a s)=>(by have:=AL V hV;rw[Ad hk] at this;exact this:Calls Tryz.prog 112 #[.pointer (some ⟨w.heap.size,0,none⟩)] V fun r w'=>r=.returned (.bool true)∧Below V.heap.size V w'))
  rw[Ai hk];have hpos:decide (0<(Az x).length+x+4)=true:=Ad zD;rw[hpos];generalize (Az x).length+x+4=N at*;clear hk hpos;go_enter Tryz.func63,Tryz.ntmps63;go_wp2_with fail;refine HN.out.mono ?_;rintro r w1 ⟨rfl,hrd,hb1⟩;have HRD:=hid hrd;have HB1:=hid hb1;clear hrd hb1;go_wp2_with fail;refine (HBD.out w1).mono ?_;rintro r w1' ⟨rfl,rfl⟩;go_wp2_with fail;refine (HI.out w1 HRD.out).mono ?_;rintro r w2 ⟨rfl,hst⟩;have HS:=hid hst.1;have HB2:=hid (HB1.out.trans (hst.below HB1.out.size (An _)));clear hst;go_wp2_with fail;refine (HG.out w2 HS.out).mono ?_;rintro r w3 ⟨rfl,hb3⟩;have HB3:=hid (Af hb3 HB2.out);clear hb3;go_wp2_with fail;refine (HSZ.out w3).mono ?_;rintro r w4 ⟨rfl,hb4⟩;have HB4:=hid (Af hb4 HB3.out);clear hb4;go_wp2_with fail;go_ret2
  exact⟨rfl,HB4.out⟩
 ·have HG:=hid (fun (V:World) (hV:A6 V w.heap.size B a s)=>(by have:=AL V hV;rw[Ae hk] at this;exact this:Calls Tryz.prog 112 #[.pointer (some ⟨w.heap.size,0,none⟩)] V fun r w'=>r=.returned (.bool false)∧Below V.heap.size V w'))
  rw[Ak hk];clear hk;go_enter Tryz.func63,Tryz.ntmps63;go_wp2_with fail;refine HN.out.mono ?_;rintro r w1 ⟨rfl,hrd,hb1⟩;have HRD:=hid hrd;have HB1:=hid hb1;clear hrd hb1;go_wp2_with fail;refine (HBD.out w1).mono ?_;rintro r w1' ⟨rfl,rfl⟩;go_wp2_with fail;refine (HI.out w1 HRD.out).mono ?_;rintro r w2 ⟨rfl,hst⟩;have HS:=hid hst.1;have HB2:=hid (HB1.out.trans (hst.below HB1.out.size (An _)));clear hst;go_wp2_with fail;refine (HG.out w2 HS.out).mono ?_;rintro r w3 ⟨rfl,hb3⟩;have HB3:=hid (Af hb3 HB2.out);clear hb3;go_wp2_with fail;go_ret2
  exact⟨rfl,HB3.out⟩
theorem TQ(w:World)(B:List UInt8)(a:Option Addr)(n c:Nat)(hl:Ah.r (·<w.heap.size) w [.slice a n c] B)(hB:B.length≤1000000000):
  Calls Tryz.prog 64 #[.slice a n c] w fun r w'=>r=.returned (.agg #[.int .i64 (if (Ca B).1.k=1 then 0 else (Ca B).1.k),.int .i64 (if (Ca B).1.k=1 then 0 else (Ca B).1.f)])∧Below w.heap.size w w':=by
 obtain⟨rfl,_,_,_⟩:=AT hl;have HN:=hid (NW (w.alloc (.cells #[.int .i64 0,.int .i64 0] 65)) B a _ c (lift hl zA));have HI:=hid (fun (W:World) (h:A6 W (w.heap.size+1) B a ⟨0,0,0⟩)=>(by have:=Ef W h zD 2097152 zO;exact this:Calls Tryz.prog 110 #[.pointer (some ⟨w.heap.size+1,0,none⟩),.int .i64 2097152] W fun r w'=>r=.returned (.int .i64 ((Ca B).2:Int))∧AG W (w.heap.size+1) B a (Ca B).1 w'));generalize Ca B=I at*;obtain⟨s,x⟩:=I;dsimp only at*;obtain⟨K,hK⟩:∃K:Int,K=if s.k=1 then 0 else s.k:=⟨_,rfl⟩;obtain⟨F,hF⟩:∃F:Int,F=if s.k=1 then 0 else s.f:=⟨_,rfl⟩;rw[←hK,←hF];have hcase:(s.k≠1∧K=s.k∧F=s.f)∨(s.k=1∧K=0∧F=0):=by
  by_cases h:s.k=1
  ·rw[Ai h] at hK hF
   exact .inr ⟨h,hK,hF⟩
  ·rw[Ak h] at hK hF
   exact .inl ⟨h,hK,hF⟩
 clear hl hK hF;rcases hcase with ⟨hk,rfl,rfl⟩ | ⟨hk,rfl,rfl⟩
 ·have dk:(s.k !=(1:Int))=true:=by simp[hk]
  clear hk;go_enter Tryz.func64,Tryz.ntmps64;go_wp2_with fail;refine HN.out.mono ?_;rintro r w1 ⟨rfl,hrd,hb1⟩;have F1:Blk w1 w.heap.size 65 #[.int .i64 0,.int .i64 0]:=Blk.later zC hb1;have hbw1:Below w.heap.size w w1:=zA;have hgl:=hrd.blk.lt;simp at hrd hgl;have HRD:=hid hrd;clear hrd hb1;go_wp2_with fail;refine (HI.out w1 HRD.out).mono ?_;rintro r w2 ⟨rfl,hst⟩;have F2:=F1.tch hst.2 zD;have hbw2:Below w.heap.size w w2:=hbw1.trans (hst.below zD zD);have HFA:=hid (Hk w2 hst.1);clear hst F1;go_wp2_with fail;refine HFA.out.mono ?_;rintro r w3 ⟨rfl,hb3⟩;have F3:=F2.later hb3;have hbw3:=Af hb3 hbw2;have G3:Blk (w3.alloc (.cells #[.int .i64 s.k,.int .i64 s.f] 65)) w3.heap.size 65 #[.int .i64 s.k,.int .i64 s.f]:=zC;obtain⟨z0,z1,e0,e1,l2⟩:=B6 G3;obtain⟨y0,y1,g0,g1,l1⟩:=B6 (F3.alloc (.cells #[.int .i64 s.k,.int .i64 s.f] 65));clear hb3 F2 F3 G3;go_wp2_with fail;refine Al (v:=.agg #[.int .i64 s.k,.int .i64 s.f]) zCu rfl ⟨rfl,zA⟩
 ·have dk:(s.k !=(1:Int))=false:=by simp[hk]
  clear hk;go_enter Tryz.func64,Tryz.ntmps64;go_wp2_with fail;refine HN.out.mono ?_;rintro r w1 ⟨rfl,hrd,hb1⟩;have F1:Blk w1 w.heap.size 65 #[.int .i64 0,.int .i64 0]:=Blk.later zC hb1;have hbw1:Below w.heap.size w w1:=zA;have hgl:=hrd.blk.lt;simp at hrd hgl;have HRD:=hid hrd;clear hrd hb1;go_wp2_with fail;refine (HI.out w1 HRD.out).mono ?_;rintro r w2 ⟨rfl,hst⟩;have F2:=F1.tch hst.2 zD;have hbw2:Below w.heap.size w w2:=hbw1.trans (hst.below zD zD);have HFA:=hid (Hk w2 hst.1);clear hst F1;go_wp2_with fail;refine HFA.out.mono ?_;rintro r w3 ⟨rfl,hb3⟩;have F3:=F2.later hb3;have hbw3:=Af hb3 hbw2;have G3:Blk (w3.alloc (.cells #[.int .i64 s.k,.int .i64 s.f] 65)) w3.heap.size 65 #[.int .i64 s.k,.int .i64 s.f]:=zC;obtain⟨z0,z1,e0,e1,l2⟩:=B6 G3;obtain⟨y0,y1,g0,g1,l1⟩:=B6 (F3.alloc (.cells #[.int .i64 s.k,.int .i64 s.f] 65));clear hb3 F2 F3 G3;go_wp2_with fail;refine Al (v:=.agg #[.int .i64 0,.int .i64 0]) zCu rfl ⟨rfl,zA⟩
structure Fh(w:World)(g:Nat)(v:Value)(s:PSt):Prop where
 blk:Blk w g 60 AcI
 buf:BD w (g+1) v s.buf
section
variable {w w':World} {g:Nat} {v:Value} {s:PSt}
theorem Fh.tch(h:Fh w g v s)(ht:Tch F w w')(hg:¬F g)(hv:∀q,v.ownBlock=some q→¬F q):Fh w' g v s:=
 ⟨h.blk.tch ht hg,h.buf.PN fun q e=>ht.block q (h.buf.at_ q e).2 (hv q e)⟩
theorem Fh.later(h:Fh w g v s)(hb:Below w.heap.size w w'):Fh w' g v s:=
 ⟨h.blk.later hb,h.buf.PN fun q e=>hb.block q (h.buf.at_ q e).2⟩
theorem Fh.at_(h:Fh w g v s):∀q,v.ownBlock=some q→g<q∧q<w.heap.size:=fun q e=>h.buf.at_ q e
theorem DZ{v5:Value}(h:Blk w g t #[v0,v1,v2,v3,v4,v5]):w.cell? ⟨g,0,none⟩=some v0∧w.cell? ⟨g,1,none⟩=some v1∧w.cell? ⟨g,2,none⟩=some v2∧w.cell? ⟨g,3,none⟩=some v3∧w.cell? ⟨g,4,none⟩=some v4∧w.cell? ⟨g,5,none⟩=some v5∧g<w.heap.size:=
 ⟨h.cell 0,h.cell 1,h.cell 2,h.cell 3,h.cell 4,h.cell 5,h.lt⟩
theorem EU{cs:Array Value}(h:Blk w g t cs):w.frozen? ⟨g,0,none⟩=false∧w.frozen? ⟨g,1,none⟩=false∧w.frozen? ⟨g,2,none⟩=false∧w.frozen? ⟨g,3,none⟩=false∧w.frozen? ⟨g,4,none⟩=false∧w.frozen? ⟨g,5,none⟩=false:=
 ⟨h.free 0,h.free 1,h.free 2,h.free 3,h.free 4,h.free 5⟩
end
theorem Pv(w:World){mk:Bool}{x1 x2 x3 x4:Value}{e:Int}(h:Blk w g 60 #[.bool mk,x1,x2,x3,x4,.int .i64 e]):
  Calls Tryz.prog 62 #[.pointer (some ⟨g,0,none⟩)] w fun r w'=>r=.returned (.bool (mk&&decide (e=0)))∧w=w':=by
 obtain⟨y0,y1,y2,y3,y4,y5,ly⟩:=DZ h;clear h;cases mk
 ·go_enter Tryz.func62,Tryz.ntmps62
  go_wp2_with fail;go_ret;exact⟨rfl,rfl⟩
 ·by_cases he:e=0
  ·subst he
   go_enter Tryz.func62,Tryz.ntmps62;go_wp2_with fail;go_ret;exact⟨rfl,rfl⟩
  ·have d:(e==(0:Int))=false:=by simp[he]
   rw[Ae he];clear he;go_enter Tryz.func62,Tryz.ntmps62;go_wp2_with fail;go_ret;exact⟨rfl,rfl⟩
theorem XL(w:World):Calls Tryz.prog 19 #[] w fun r w'=>r=.returned (.pointer (some ⟨w.heap.size,0,none⟩))∧Fh w' w.heap.size (.slice none 0 0) LU∧Below w.heap.size w w':=by
 go_enter Tryz.func19,Tryz.ntmps19;go_wp2_with fail;go_ret;exact⟨rfl,⟨zC,BD.nil⟩,zA⟩
theorem Vo:(Tryz.prog.info? 50).map (fun i=>(i.zero,i.size,i.bytes))=some (some (.agg #[.int .i64 0,.int .i64 0,.int .i64 0,.int .i64 0,.int .u64 0,.int .u64 0,.int .u64 0,.int .i64 0,.int .i64 0,.slice none 0 0,.slice none 0 0,.slice none 0 0,.int .u64 0,.int .u64 0,.int .u64 0,.int .u64 0,.slice none 0 0,.int .u64 0,.int .u64 0,.slice none 0 0]),20,240):=zI
def Nl:Array Value:=#[.int .i64 0,.int .i64 0,.int .i64 0,.int .i64 0,.int .u64 0,.int .u64 0,.int .u64 0,.int .i64 0,.int .i64 0,.slice none 0 0,.slice none 0 0,.slice none 0 0,.int .u64 0,.int .u64 0,.int .u64 0,.int .u64 0,.slice none 0 0,.int .u64 0,.int .u64 0,.slice none 0 0]
def Ev.x(e:Ev):EvX:=⟨e.kind,e.at_,e.code,e.msg,QO⟩
theorem YK{x:EvX}{a5:Option Addr}{c5:Nat}(h:S7 S w x a1 c1 a2 c2 a3 c3 a4 c4 a5 c5):J0.r S w (DF x a1 c1 a2 c2 a3 c3 a4 c4 a5 c5) x:=
 ⟨[_],_,rfl,rfl,[_],_,rfl,rfl,[_],_,rfl,rfl,Ep x.msg a1 c1 a2 c2 a3 c3 a4 c4,_,rfl,Yl h.msg,SX h.epoch h.base h.ents⟩
theorem LZ:(Tryz.prog.info? 50).map (fun i=>(i.zero,i.size))=some (some (.agg #[.int .i64 0,.int .i64 0,.int .i64 0,.int .i64 0,.int .u64 0,.int .u64 0,.int .u64 0,.int .i64 0,.int .i64 0,.slice none 0 0,.slice none 0 0,.slice none 0 0,.int .u64 0,.int .u64 0,.int .u64 0,.int .u64 0,.slice none 0 0,.int .u64 0,.int .u64 0,.slice none 0 0]),20):=zI
theorem Vp:inU 0:=⟨zO,zO⟩
theorem Mc{a c:Int}:S7 S w (Ev.x ⟨k,a,c,El⟩) none 0 none 0 none 0 none 0 none 0:=
 ⟨JD,(Vp:inU (0:Int)),(Vp:inU (0:Int)),Bt (xs:=[]) rfl (An _) (Am _) (.inl rfl)⟩
theorem S7.EM{S':Nat→Prop}{x:EvX}{a5:Option Addr}{c5:Nat}(h:S7 S w x a1 c1 a2 c2 a3 c3 a4 c4 a5 c5)(hk:∀q,S q→w'.heap[q]? =w.heap[q]?)(hS:∀q,S q→S' q):S7 S' w' x a1 c1 a2 c2 a3 c3 a4 c4 a5 c5:=
 ⟨A9.EM h.msg hk hS,h.epoch,h.base,Hl.mono (Hl.keep h.ents hk) hS⟩
theorem Vw{x:EvX}{a5:Option Addr}{c5:Nat}{b:Nat}(hb:Blk w b t (DF x a1 c1 a2 c2 a3 c3 a4 c4 a5 c5).toArray)(hS:S b)(h:S7 S w x a1 c1 a2 c2 a3 c3 a4 c4 a5 c5):Kx.r S w [.slice (some ⟨b,0,none⟩) 1 1] [x]:=by
 refine Bt rfl (An _) zO (.inr ⟨b,0,rfl,hS,fun i y hi=> ?_⟩);have h0:i=0:=by
  have:=(List.getElem?_eq_some_iff.1 hi).1;simp at this;exact this
 subst h0;simp at hi;subst hi;refine⟨DF x a1 c1 a2 c2 a3 c3 a4 c4 a5 c5,rfl,fun j u hj=> ?_,YK h⟩;rw[Nat.zero_mul,A1,hb.cell j];simpa using hj
theorem AaQ:Kx.r S w [.slice none 0 0] []:=Bt (xs:=[]) rfl (An _) (Am _) (.inl rfl)
theorem Blk.row{E:Nat}{cs:Array Value}(ds:Array Value)(h:Blk W E t cs):Blk (W.setRow E ds) E t ds:=setRow_heap W E cs ds t (0,0) h
theorem Tch.row(W:World)(E:Nat)(ds:Array Value):Tch (·=E) W (W.setRow E ds):=⟨rfl,rfl,rfl,zN,fun b _ hf=>setRow_other W E b ds hf⟩
theorem Wd(w:World){s:PSt}(h:Fh w g v s)(k f:Int)(hk:k≠0):
  Calls Tryz.prog 67 #[.pointer (some ⟨g,0,none⟩),.agg #[.int .i64 k,.int .i64 f]] w fun r w'=>r=.returned (.agg #[.int .i64 4,.int .i64 (wrap64 (f+(s.first:Int))),.int .i64 k,.int .i64 0,.int .u64 0,.int .u64 0,.int .u64 0,.int .i64 0,.int .i64 0,.slice none 0 0,.slice none 0 0,.slice none 0 0,.int .u64 0,.int .u64 0,.int .u64 0,.int .u64 0,.slice none 0 0,.int .u64 0,.int .u64 0,.slice none 0 0])∧Fh w' g (.slice none 0 0) ⟨[],s.first,s.fed,s.need,4⟩∧Tch (·=g) w w':=by
 have HSH:=hid (fun (W:World)=>Lp W k f (s.first:Int) hk);have HB:=hid h.blk;have hgl:=h.blk.lt;generalize wrap64 (f+(s.first:Int))=FV at*;clear h hk;go_enter Tryz.func67,Tryz.ntmps67;go_upto_region 1 with (fail);have hG1:Blk ((w.alloc (.cells #[.int .i64 k,.int .i64 f] 65)).alloc (.cells Acv 50)) g 60 AcI:=(HB.out.alloc _).alloc _;have hF1:Blk ((w.alloc (.cells #[.int .i64 k,.int .i64 f] 65)).alloc (.cells Acv 50)) w.heap.size 65 #[.int .i64 k,.int .i64 f]:=zC;have hE1:Blk ((w.alloc (.cells #[.int .i64 k,.int .i64 f] 65)).alloc (.cells Acv 50)) (w.heap.size+1) 50 Nl:=by unfold Nl;(repeat (first | assumption | exact Blk.newAt _ _ _ zP | refine Blk.alloc ?_ _ | refine Blk.drew ?_ | refine Blk.drewN ?_ _ | refine Blk.far ?_ zP _))
 have hT1:Tch (·=g) w ((w.alloc (.cells #[.int .i64 k,.int .i64 f] 65)).alloc (.cells Acv 50)):=((Tch.refl (·=g) w).alloc _).alloc _;generalize ((w.alloc (.cells #[.int .i64 k,.int .i64 f] 65)).alloc (.cells Acv 50))=w1 at*;have HG1:=hid hG1;have HF1:=hid hF1;have HE1:=hid hE1;have HT1:=hid hT1;obtain⟨y0,y1,y2,y3,y4,y5,ly⟩:=DZ hG1;obtain⟨x0,x1,x2,x3,lx⟩:=B6 hF1;clear hG1 hF1 hE1 hT1;refine C9 (fun w'=>w'.cell? ⟨w.heap.size,0,none⟩=some (.int .i64 k)∧w'.cell? ⟨w.heap.size,1,none⟩=some (.int .i64 f)∧w'.cell? ⟨g,2,none⟩=some (.int .i64 (s.first:Int))) _ zI rfl zI ⟨x0,x1,y2⟩ (fun hHeld=> ?_);simp only[Cy,GU];refine Ap (i:=0) (oi:=_) (v:=?_) rfl zE zE zE (fun _ _ _ h=>h) (Or.inl ⟨zS,?_⟩) zL ?_;rotate_left
 ·(intro w hSw;(try dsimp only at hSw);go_simp<;>with_reducible rfl)
 (try simp only[Act.put,Aa,Ab,Ac])
 refine Ap (i:=1) (oi:=_) (v:=?_) rfl zE zE zE (fun _ _ _ h=>h) (Or.inl ⟨zS,?_⟩) zL ?_;rotate_left
 ·(intro w hSw;(try dsimp only at hSw);go_simp<;>with_reducible rfl)
 (try simp only[Act.put,Aa,Ab,Ac])
 refine Ap (i:=2) (oi:=_) (v:=?_) rfl zE zE zE (fun _ _ _ h=>h) (Or.inl ⟨zS,?_⟩) zL ?_;rotate_left
 ·(intro w hSw;(try dsimp only at hSw);go_simp<;>with_reducible rfl)
 (try simp only[Act.put,Aa,Ab,Ac])
 refine Ap (i:=3) (oi:=_) (v:=?_) rfl zE zE zE (fun _ _ _ h=>h) (Or.inl ⟨zS,?_⟩) zL ?_;rotate_left
 ·(intro w hSw;(try dsimp only at hSw);go_simp<;>with_reducible rfl)
 (try simp only[Act.put,Aa,Ab,Ac])
 refine Ap (i:=4) (oi:=_) (v:=?_) rfl zE zE zE (fun _ _ _ h=>h) (Or.inl ⟨zS,?_⟩) zL ?_;rotate_left
 ·(intro w hSw;(try dsimp only at hSw);go_simp<;>with_reducible rfl)
 (try simp only[Act.put,Aa,Ab,Ac])
 refine AU (rs:=[5]) zE zN ?_;refine AK (o:=_) rfl (fun K hK=> ?_) AllReadyH.nil
 (go_simp;go_at_call 117;refine (HSH.out _).mono ?_;rintro e1 w3 ⟨rfl,hb3⟩;have hb13:Below w1.heap.size w1 w3:=Af hb3 (Below.refl _ _).drew;have HG3:=hid (HG1.out.later hb13);have HF3:=hid (HF1.out.later hb13);have HE3:=hid (HE1.out.later hb13);have HT3:=hid (HT1.out.trans (Tch.Cx (F:=(·=g)) hb13) fun _ _ e=>e);obtain⟨q0,q1,q2,q3,q4,q5,lq⟩:=DZ HG3.out;obtain⟨r0,r1,r2,r3,lr⟩:=B6 HF3.out;clear hb3;(try dsimp only))
 refine hK.out _ _ ?_ (fun hHeld=> ?_)
 ·((try dsimp only);refine⟨?_,?_,?_⟩<;>(first | with_reducible assumption | (go_keep;done)))
 clear hK K
 (try simp only[Act.put,Aa,Ab,Ac])
 refine Ap (i:=6) (oi:=_) (v:=?_) rfl zE zE zE (fun _ _ _ h=>h) (Or.inl ⟨zS,?_⟩) zL ?_;rotate_left
 ·(intro w hSw;(try dsimp only at hSw);go_simp<;>with_reducible rfl)
 (try simp only[Act.put,Aa,Ab,Ac])
 refine CS zI ?_ _;show wpList _ _ _ _ _ _
 go_upto_region 2 with (fail);have hG4:Blk ((w3.setCell ⟨w.heap.size,0,none⟩ (.int .i64 k)).setCell ⟨w.heap.size,1,none⟩ (.int .i64 FV)) g 60 AcI:=(HG3.out.far zJ _).far zJ _;have hF4:Blk ((w3.setCell ⟨w.heap.size,0,none⟩ (.int .i64 k)).setCell ⟨w.heap.size,1,none⟩ (.int .i64 FV)) w.heap.size 65 #[.int .i64 k,.int .i64 FV]:=(HF3.out.set 0 (.int .i64 k)).set 1 (.int .i64 FV);have hE4:Blk ((w3.setCell ⟨w.heap.size,0,none⟩ (.int .i64 k)).setCell ⟨w.heap.size,1,none⟩ (.int .i64 FV)) (w.heap.size+1) 50 Nl:=(HE3.out.far zJ _).far zJ _;have hT4:Tch (·=g) w ((w3.setCell ⟨w.heap.size,0,none⟩ (.int .i64 k)).setCell ⟨w.heap.size,1,none⟩ (.int .i64 FV)):=(HT3.out.setCell (p:=⟨w.heap.size,0,none⟩) (fun e=>absurd e (Nat.lt_irrefl _)) _).setCell (p:=⟨w.heap.size,1,none⟩) (fun e=>absurd e (Nat.lt_irrefl _)) _;generalize ((w3.setCell ⟨w.heap.size,0,none⟩ (.int .i64 k)).setCell ⟨w.heap.size,1,none⟩ (.int .i64 FV))=w4 at*;clear q0 q1 q2 q3 q4 q5 lq r0 r1 r2 r3 lr y0 y1 y2 y3 y4 y5 ly x0 x1 x2 x3 lx HG1 HF1 HE1 HT1 HG3 HF3 HE3 HT3;obtain⟨y0,y1,y2,y3,y4,y5,ly⟩:=DZ hG4;obtain⟨z0,z1,z2,z3,z4,z5⟩:=EU hG4;have HG4:=hid hG4;have HF4:=hid hF4;have HE4:=hid hE4;have HT4:=hid hT4;clear hG4 hF4 hE4 hT4;go_upto_region 3 with (fail);have hG5:Blk ((w4.setCell ⟨g,5,none⟩ (.int .i64 4)).setCell ⟨g,1,none⟩ (.slice none 0 0)) g 60 #[.bool true,.slice none 0 0,.int .i64 (s.first:Int),.int .i64 (s.fed:Int),.int .i64 (s.need:Int),.int .i64 4]:=(HG4.out.set 5 (.int .i64 4)).set 1 (.slice none 0 0);have hF5:Blk ((w4.setCell ⟨g,5,none⟩ (.int .i64 4)).setCell ⟨g,1,none⟩ (.slice none 0 0)) w.heap.size 65 #[.int .i64 k,.int .i64 FV]:=(HF4.out.far zJ _).far zJ _;have hE5:Blk ((w4.setCell ⟨g,5,none⟩ (.int .i64 4)).setCell ⟨g,1,none⟩ (.slice none 0 0)) (w.heap.size+1) 50 Nl:=(HE4.out.far zJ _).far zJ _;have hT5:Tch (·=g) w ((w4.setCell ⟨g,5,none⟩ (.int .i64 4)).setCell ⟨g,1,none⟩ (.slice none 0 0)):=(HT4.out.setCell (p:=⟨g,5,none⟩) (fun _=>rfl) _).setCell (p:=⟨g,1,none⟩) (fun _=>rfl) _;generalize ((w4.setCell ⟨g,5,none⟩ (.int .i64 4)).setCell ⟨g,1,none⟩ (.slice none 0 0))=w5 at*;clear y0 y1 y2 y3 y4 y5 ly z0 z1 z2 z3 z4 z5 HG4 HF4 HE4 HT4;obtain⟨x0,x1,x2,x3,lx⟩:=B6 hF5;obtain⟨G20,le⟩:(w5.frozen? ⟨w.heap.size+1,0,none⟩=false∧w5.frozen? ⟨w.heap.size+1,1,none⟩=false∧w5.frozen? ⟨w.heap.size+1,2,none⟩=false∧w5.frozen? ⟨w.heap.size+1,3,none⟩=false∧w5.frozen? ⟨w.heap.size+1,4,none⟩=false∧w5.frozen? ⟨w.heap.size+1,5,none⟩=false∧w5.frozen? ⟨w.heap.size+1,6,none⟩=false∧w5.frozen? ⟨w.heap.size+1,7,none⟩=false∧w5.frozen? ⟨w.heap.size+1,8,none⟩=false∧w5.frozen? ⟨w.heap.size+1,9,none⟩=false∧w5.frozen? ⟨w.heap.size+1,10,none⟩=false∧w5.frozen? ⟨w.heap.size+1,11,none⟩=false∧w5.frozen? ⟨w.heap.size+1,12,none⟩=false∧w5.frozen? ⟨w.heap.size+1,13,none⟩=false∧w5.frozen? ⟨w.heap.size+1,14,none⟩=false∧w5.frozen? ⟨w.heap.size+1,15,none⟩=false∧w5.frozen? ⟨w.heap.size+1,16,none⟩=false∧w5.frozen? ⟨w.heap.size+1,17,none⟩=false∧w5.frozen? ⟨w.heap.size+1,18,none⟩=false∧w5.frozen? ⟨w.heap.size+1,19,none⟩=false)∧w.heap.size+1<w5.heap.size:=⟨QW hE5,hE5.lt⟩;obtain⟨g0,g1,g2,g3,g4,g5,g6,g7,g8,g9,g10,g11,g12,g13,g14,g15,g16,g17,g18,g19⟩:=G20;obtain⟨e0,e1,e2,e3,e4,e5,e6,e7,e8,e9,e10,e11,e12,e13,e14,e15,e16,e17,e18,e19,ee⟩:=Ov (show Blk w5 (w.heap.size+1) 50 Acv from hE5);have HG5:=hid hG5;have HE5:=hid hE5;have HT5:=hid hT5;clear hG5 hF5 hE5 hT5;have HI:=hid (show (Tryz.prog.info? 50).map (·.size)=some (#[.int .i64 4,.int .i64 FV,.int .i64 k,.int .i64 0,.int .u64 0,.int .u64 0,.int .u64 0,.int .i64 0,.int .i64 0,.slice none 0 0,.slice none 0 0,.slice none 0 0,.int .u64 0,.int .u64 0,.int .u64 0,.int .u64 0,.slice none 0 0,.int .u64 0,.int .u64 0,.slice none 0 0]:Array Value).size from (zero_of_info LZ).2);have HONE:=hid (show (#[.int .i64 4,.int .i64 FV,.int .i64 k,.int .i64 0,.int .u64 0,.int .u64 0,.int .u64 0,.int .i64 0,.int .i64 0,.slice none 0 0,.slice none 0 0,.slice none 0 0,.int .u64 0,.int .u64 0,.int .u64 0,.int .u64 0,.slice none 0 0,.int .u64 0,.int .u64 0,.slice none 0 0]:Array Value).all (·.oneCell')=true by simp[Value.oneCell']);as_aux_lemma=>
  go_wp2_with (refine wpList_store_row rfl 50 _ _ rfl (w.heap.size+1) #[.int .i64 4,.int .i64 FV,.int .i64 k,.int .i64 0,.int .u64 0,.int .u64 0,.int .u64 0,.int .i64 0,.int .i64 0,.slice none 0 0,.slice none 0 0,.slice none 0 0,.int .u64 0,.int .u64 0,.int .u64 0,.int .u64 0,.slice none 0 0,.int .u64 0,.int .u64 0,.slice none 0 0] rfl rfl 50 Nl HE5.out HI.out rfl HONE.out ?_)
  as_aux_lemma=>
   refine Di (fun W=>Blk W (w.heap.size+1) 50 #[.int .i64 4,.int .i64 FV,.int .i64 k,.int .i64 0,.int .u64 0,.int .u64 0,.int .u64 0,.int .i64 0,.int .i64 0,.slice none 0 0,.slice none 0 0,.slice none 0 0,.int .u64 0,.int .u64 0,.int .u64 0,.int .u64 0,.slice none 0 0,.int .u64 0,.int .u64 0,.slice none 0 0]∧Tch (·=w.heap.size+1) w5 W) ⟨Blk.row _ HE5.out,Tch.row _ _ _⟩ ?_;as_aux_lemma=>
    intro W6 ⟨q6,ht6⟩;have HG6:=HG5.out.tch ht6 zD;refine Al (v:=.agg #[.int .i64 4,.int .i64 FV,.int .i64 k,.int .i64 0,.int .u64 0,.int .u64 0,.int .u64 0,.int .i64 0,.int .i64 0,.slice none 0 0,.slice none 0 0,.slice none 0 0,.int .u64 0,.int .u64 0,.int .u64 0,.int .u64 0,.slice none 0 0,.int .u64 0,.int .u64 0,.slice none 0 0]) (results_cell_row Tryz.results67 _ _ (w.heap.size+1) 50 _ (0,0) _ rfl q6 Tryz.underlying50 rfl (zero_of_info LZ).2) rfl ⟨rfl,⟨HG6,BD.nil⟩,HT5.out.trans ht6 fun b hb e=>zD⟩
theorem TR(w:World){g:Nat}{v:Value}{s:PSt}(h:Fh w g v s):
  Calls Tryz.prog 21 #[.pointer (some ⟨g,0,none⟩)] w fun r w'=>∃v' vo,r=.returned vo∧Kx.r (fun q=>w.heap.size≤q∧q<w'.heap.size) w' [vo] ((Hx s).2.map Ev.x)∧Fh w' g v' (Hx s).1∧(v'.ownBlock=v.ownBlock∨v'.ownBlock=none)∧Tch (·=g) w w':=by
 have HP:=hid h;have HB:=hid h.blk;have hgl:=h.blk.lt;have HO:=hid (Pv w h.blk);obtain⟨aJ,cJ,rfl⟩:=h.buf.form;obtain⟨R,hR⟩:∃R,R=Hx s:=⟨_,rfl⟩;have hgo:=hR;rw[←hR];unfold Hx at hgo;clear hR;by_cases he:s.ended=0
 ·rw[Ai he] at hgo
  rw[Ad he,BY] at HO;rw[he] at HB;have HGO0:=hid hgo;clear h he hgo;by_cases hJ:s.buf=[]
  ·have hgo:=HGO0.out
   rw[hJ] at hgo;simp only[Fx] at hgo;have HGO:=hid hgo;have hl:s.buf.length=0:=by rw[hJ];rfl
   rw[hl] at HB;clear hgo HGO0 hJ hl;go_enter Tryz.func21,Tryz.ntmps21;obtain⟨y0,y1,y2,y3,y4,y5,ly⟩:=DZ HB.out;obtain⟨z0,z1,z2,z3,z4,z5⟩:=EU HB.out;have HI:=hid (show (Tryz.prog.info? 50).map (·.size)=some (#[.int .i64 2,.int .i64 (s.fed:Int),.int .i64 0,.int .i64 0,.int .u64 0,.int .u64 0,.int .u64 0,.int .i64 0,.int .i64 0,.slice none 0 0,.slice none 0 0,.slice none 0 0,.int .u64 0,.int .u64 0,.int .u64 0,.int .u64 0,.slice none 0 0,.int .u64 0,.int .u64 0,.slice none 0 0]:Array Value).size from (zero_of_info LZ).2);have HONE:=hid (show (#[.int .i64 2,.int .i64 (s.fed:Int),.int .i64 0,.int .i64 0,.int .u64 0,.int .u64 0,.int .u64 0,.int .i64 0,.int .i64 0,.slice none 0 0,.slice none 0 0,.slice none 0 0,.int .u64 0,.int .u64 0,.int .u64 0,.int .u64 0,.slice none 0 0,.int .u64 0,.int .u64 0,.slice none 0 0]:Array Value).all (·.oneCell')=true by simp[Value.oneCell']);go_wp2_with fail;refine HO.out.mono ?_;rintro r w0 ⟨rfl,rfl⟩;go_upto_region 4 with (refine wpList_store_row rfl 50 _ _ rfl w.heap.size #[.int .i64 2,.int .i64 (s.fed:Int),.int .i64 0,.int .i64 0,.int .u64 0,.int .u64 0,.int .u64 0,.int .i64 0,.int .i64 0,.slice none 0 0,.slice none 0 0,.slice none 0 0,.int .u64 0,.int .u64 0,.int .u64 0,.int .u64 0,.slice none 0 0,.int .u64 0,.int .u64 0,.slice none 0 0] rfl rfl 50 #[.int .i64 0,.int .i64 0,.int .i64 0,.int .i64 0,.int .u64 0,.int .u64 0,.int .u64 0,.int .i64 0,.int .i64 0,.slice none 0 0,.slice none 0 0,.slice none 0 0,.int .u64 0,.int .u64 0,.int .u64 0,.int .u64 0,.slice none 0 0,.int .u64 0,.int .u64 0,.slice none 0 0] (heap_alloc_last _ _) HI.out rfl HONE.out ?_;rw[World.setRow_alloc_new]);have hG1:Blk (w.alloc (.cells Acu 50)) g 60 #[.bool true,.slice aJ 0 cJ,.int .i64 (s.first:Int),.int .i64 (s.fed:Int),.int .i64 (s.need:Int),.int .i64 0]:=HB.out.alloc _;have hE1:Blk (w.alloc (.cells Acu 50)) w.heap.size 50 Acu:=zC;have hT1:Tch (·=g) w (w.alloc (.cells Acu 50)):=(Tch.refl (·=g) w).alloc _;generalize (w.alloc (.cells Acu 50))=w1 at*;have HG1:=hid hG1;have HE1:=hid hE1;have HT1:=hid hT1;clear hG1 hE1 hT1 y0 y1 y2 y3 y4 y5 ly z0 z1 z2 z3 z4 z5;obtain⟨y0,y1,y2,y3,y4,y5,ly⟩:=DZ HG1.out;obtain⟨z0,z1,z2,z3,z4,z5⟩:=EU HG1.out;obtain⟨n0,n1,n2,n3,n4,n5,n6,n7,n8,n9,n10,n11,n12,n13,n14,n15,n16,n17,n18,n19,ln⟩:=Ov HE1.out;obtain⟨g0,g1,g2,g3,g4,g5,g6,g7,g8,g9,g10,g11,g12,g13,g14,g15,g16,g17,g18,g19⟩:=QW HE1.out;go_upto_region 6 with (fail);have hG2:=HG1.out;have hE2:=HE1.out;have hT2:=HT1.out;obtain⟨w2,hw2⟩:∃w2:World,w2=w1:=⟨_,rfl⟩;subst hw2;clear y0 y1 y2 y3 y4 y5 ly z0 z1 z2 z3 z4 z5 n0 n1 n2 n3 n4 n5 n6 n7 n8 n9 n10 n11 n12 n13 n14 n15 n16 n17 n18 n19 ln g0 g1 g2 g3 g4 g5 g6 g7 g8 g9 g10 g11 g12 g13 g14 g15 g16 g17 g18 g19;have HG2:=hid hG2;have HE2:=hid hE2;have HT2:=hid hT2;clear hG2 hE2 hT2 HG1 HE1 HT1;obtain⟨y0,y1,y2,y3,y4,y5,ly⟩:=DZ HG2.out;obtain⟨z0,z1,z2,z3,z4,z5⟩:=EU HG2.out;obtain⟨n0,n1,n2,n3,n4,n5,n6,n7,n8,n9,n10,n11,n12,n13,n14,n15,n16,n17,n18,n19,ln⟩:=Ov HE2.out;go_upto_region 7 with (fail);have hG3:Blk ((w2.setCell ⟨g,5,none⟩ (.int .i64 2)).setCell ⟨g,1,none⟩ (.slice none 0 0)) g 60 #[.bool true,.slice none 0 0,.int .i64 (s.first:Int),.int .i64 (s.fed:Int),.int .i64 (s.need:Int),.int .i64 2]:=(HG2.out.set 5 (.int .i64 2)).set 1 (.slice none 0 0);have hE3:Blk ((w2.setCell ⟨g,5,none⟩ (.int .i64 2)).setCell ⟨g,1,none⟩ (.slice none 0 0)) w.heap.size 50 Acu:=(HE2.out.far zJ _).far zJ _;have hT3:Tch (·=g) w ((w2.setCell ⟨g,5,none⟩ (.int .i64 2)).setCell ⟨g,1,none⟩ (.slice none 0 0)):=(HT2.out.setCell (p:=⟨g,5,none⟩) (fun _=>rfl) _).setCell (p:=⟨g,1,none⟩) (fun _=>rfl) _;generalize ((w2.setCell ⟨g,5,none⟩ (.int .i64 2)).setCell ⟨g,1,none⟩ (.slice none 0 0))=w3 at*;clear y0 y1 y2 y3 y4 y5 ly z0 z1 z2 z3 z4 z5 n0 n1 n2 n3 n4 n5 n6 n7 n8 n9 n10 n11 n12 n13 n14 n15 n16 n17 n18 n19 ln;have HG3:=hid hG3;have HE3:=hid hE3;have HT3:=hid hT3;clear hG3 hE3 hT3 HG2 HE2 HT2;go_wp2_with (refine wpList_load_row rfl 50 _ rfl w.heap.size rfl 50 _ (0,0) _ HE3.out Tryz.underlying50 rfl (zero_of_info LZ).2 ?_)
   go_ret;have hz3:=HT3.out.size;rw[HGO.out];exact⟨.slice none 0 0,_,rfl,Vw (x:=Ev.x ⟨2,(s.fed:Int),0,El⟩) (a1:=none) (c1:=0) (a2:=none) (c2:=0) (a3:=none) (c3:=0) (a4:=none) (c4:=0) (a5:=none) (c5:=0) (Blk.new w3 50 Acu) ⟨zD,zN⟩ Mc,⟨HG3.out.alloc _,BD.nil⟩,.inr rfl,HT3.out.alloc _⟩
  ·have hgo:=HGO0.out
   rw[Ak hJ,Ak hJ] at hgo;have HGO:=hid hgo;have hpos:0<s.buf.length:=List.length_pos_iff.2 hJ;generalize s.buf.length=N at*;have dN:decide ((0:Int)<(N:Int))=true:=Ad zD;have pN:decide (0<N)=true:=Ad hpos;clear hgo HGO0 hJ hpos;go_enter Tryz.func21,Tryz.ntmps21;obtain⟨y0,y1,y2,y3,y4,y5,ly⟩:=DZ HB.out;obtain⟨z0,z1,z2,z3,z4,z5⟩:=EU HB.out;have HI:=hid (show (Tryz.prog.info? 50).map (·.size)=some (#[.int .i64 2,.int .i64 (s.fed:Int),.int .i64 0,.int .i64 0,.int .u64 0,.int .u64 0,.int .u64 0,.int .i64 0,.int .i64 0,.slice none 0 0,.slice none 0 0,.slice none 0 0,.int .u64 0,.int .u64 0,.int .u64 0,.int .u64 0,.slice none 0 0,.int .u64 0,.int .u64 0,.slice none 0 0]:Array Value).size from (zero_of_info LZ).2);have HONE:=hid (show (#[.int .i64 2,.int .i64 (s.fed:Int),.int .i64 0,.int .i64 0,.int .u64 0,.int .u64 0,.int .u64 0,.int .i64 0,.int .i64 0,.slice none 0 0,.slice none 0 0,.slice none 0 0,.int .u64 0,.int .u64 0,.int .u64 0,.int .u64 0,.slice none 0 0,.int .u64 0,.int .u64 0,.slice none 0 0]:Array Value).all (·.oneCell')=true by simp[Value.oneCell']);go_wp2_with fail;refine HO.out.mono ?_;rintro r w0 ⟨rfl,rfl⟩;go_upto_region 4 with (refine wpList_store_row rfl 50 _ _ rfl w.heap.size #[.int .i64 2,.int .i64 (s.fed:Int),.int .i64 0,.int .i64 0,.int .u64 0,.int .u64 0,.int .u64 0,.int .i64 0,.int .i64 0,.slice none 0 0,.slice none 0 0,.slice none 0 0,.int .u64 0,.int .u64 0,.int .u64 0,.int .u64 0,.slice none 0 0,.int .u64 0,.int .u64 0,.slice none 0 0] rfl rfl 50 #[.int .i64 0,.int .i64 0,.int .i64 0,.int .i64 0,.int .u64 0,.int .u64 0,.int .u64 0,.int .i64 0,.int .i64 0,.slice none 0 0,.slice none 0 0,.slice none 0 0,.int .u64 0,.int .u64 0,.int .u64 0,.int .u64 0,.slice none 0 0,.int .u64 0,.int .u64 0,.slice none 0 0] (heap_alloc_last _ _) HI.out rfl HONE.out ?_;rw[World.setRow_alloc_new]);have hG1:Blk (w.alloc (.cells Acu 50)) g 60 #[.bool true,.slice aJ N cJ,.int .i64 (s.first:Int),.int .i64 (s.fed:Int),.int .i64 (s.need:Int),.int .i64 0]:=HB.out.alloc _;have hE1:Blk (w.alloc (.cells Acu 50)) w.heap.size 50 Acu:=zC;have hT1:Tch (·=g) w (w.alloc (.cells Acu 50)):=(Tch.refl (·=g) w).alloc _;generalize (w.alloc (.cells Acu 50))=w1 at*;have HG1:=hid hG1;have HE1:=hid hE1;have HT1:=hid hT1;clear hG1 hE1 hT1 y0 y1 y2 y3 y4 y5 ly z0 z1 z2 z3 z4 z5;obtain⟨y0,y1,y2,y3,y4,y5,ly⟩:=DZ HG1.out;obtain⟨z0,z1,z2,z3,z4,z5⟩:=EU HG1.out;obtain⟨n0,n1,n2,n3,n4,n5,n6,n7,n8,n9,n10,n11,n12,n13,n14,n15,n16,n17,n18,n19,ln⟩:=Ov HE1.out;obtain⟨g0,g1,g2,g3,g4,g5,g6,g7,g8,g9,g10,g11,g12,g13,g14,g15,g16,g17,g18,g19⟩:=QW HE1.out;go_upto_region 6 with (fail);have hG2:Blk ((w1.setCell ⟨w.heap.size,0,none⟩ (.int .i64 3)).setCell ⟨w.heap.size,2,none⟩ (.int .i64 1)) g 60 #[.bool true,.slice aJ N cJ,.int .i64 (s.first:Int),.int .i64 (s.fed:Int),.int .i64 (s.need:Int),.int .i64 0]:=(HG1.out.far zJ _).far zJ _;have hE2:Blk ((w1.setCell ⟨w.heap.size,0,none⟩ (.int .i64 3)).setCell ⟨w.heap.size,2,none⟩ (.int .i64 1)) w.heap.size 50 AcF:=(HE1.out.set 0 (.int .i64 3)).set 2 (.int .i64 1);have hT2:Tch (·=g) w ((w1.setCell ⟨w.heap.size,0,none⟩ (.int .i64 3)).setCell ⟨w.heap.size,2,none⟩ (.int .i64 1)):=(HT1.out.setCell (p:=⟨w.heap.size,0,none⟩) (fun e=>absurd e (Nat.lt_irrefl _)) _).setCell (p:=⟨w.heap.size,2,none⟩) (fun e=>absurd e (Nat.lt_irrefl _)) _;generalize ((w1.setCell ⟨w.heap.size,0,none⟩ (.int .i64 3)).setCell ⟨w.heap.size,2,none⟩ (.int .i64 1))=w2 at*;clear y0 y1 y2 y3 y4 y5 ly z0 z1 z2 z3 z4 z5 n0 n1 n2 n3 n4 n5 n6 n7 n8 n9 n10 n11 n12 n13 n14 n15 n16 n17 n18 n19 ln g0 g1 g2 g3 g4 g5 g6 g7 g8 g9 g10 g11 g12 g13 g14 g15 g16 g17 g18 g19;have HG2:=hid hG2;have HE2:=hid hE2;have HT2:=hid hT2;clear hG2 hE2 hT2 HG1 HE1 HT1;obtain⟨y0,y1,y2,y3,y4,y5,ly⟩:=DZ HG2.out;obtain⟨z0,z1,z2,z3,z4,z5⟩:=EU HG2.out;obtain⟨n0,n1,n2,n3,n4,n5,n6,n7,n8,n9,n10,n11,n12,n13,n14,n15,n16,n17,n18,n19,ln⟩:=Ov HE2.out;go_upto_region 7 with (fail);have hG3:Blk ((w2.setCell ⟨g,5,none⟩ (.int .i64 3)).setCell ⟨g,1,none⟩ (.slice none 0 0)) g 60 #[.bool true,.slice none 0 0,.int .i64 (s.first:Int),.int .i64 (s.fed:Int),.int .i64 (s.need:Int),.int .i64 3]:=(HG2.out.set 5 (.int .i64 3)).set 1 (.slice none 0 0);have hE3:Blk ((w2.setCell ⟨g,5,none⟩ (.int .i64 3)).setCell ⟨g,1,none⟩ (.slice none 0 0)) w.heap.size 50 AcF:=(HE2.out.far zJ _).far zJ _;have hT3:Tch (·=g) w ((w2.setCell ⟨g,5,none⟩ (.int .i64 3)).setCell ⟨g,1,none⟩ (.slice none 0 0)):=(HT2.out.setCell (p:=⟨g,5,none⟩) (fun _=>rfl) _).setCell (p:=⟨g,1,none⟩) (fun _=>rfl) _;generalize ((w2.setCell ⟨g,5,none⟩ (.int .i64 3)).setCell ⟨g,1,none⟩ (.slice none 0 0))=w3 at*;clear y0 y1 y2 y3 y4 y5 ly z0 z1 z2 z3 z4 z5 n0 n1 n2 n3 n4 n5 n6 n7 n8 n9 n10 n11 n12 n13 n14 n15 n16 n17 n18 n19 ln;have HG3:=hid hG3;have HE3:=hid hE3;have HT3:=hid hT3;clear hG3 hE3 hT3 HG2 HE2 HT2;go_wp2_with (refine wpList_load_row rfl 50 _ rfl w.heap.size rfl 50 _ (0,0) _ HE3.out Tryz.underlying50 rfl (zero_of_info LZ).2 ?_)
   go_ret;have hz3:=HT3.out.size;rw[HGO.out];exact⟨.slice none 0 0,_,rfl,Vw (x:=Ev.x ⟨3,(s.fed:Int),1,El⟩) (a1:=none) (c1:=0) (a2:=none) (c2:=0) (a3:=none) (c3:=0) (a4:=none) (c4:=0) (a5:=none) (c5:=0) (Blk.new w3 50 AcF) ⟨zD,zN⟩ Mc,⟨HG3.out.alloc _,BD.nil⟩,.inr rfl,HT3.out.alloc _⟩
 ·rw[Ak he] at hgo
  rw[Ae he,BY] at HO;have HGO:=hid hgo;clear h he hgo;go_enter Tryz.func21,Tryz.ntmps21;go_wp2_with fail;refine HO.out.mono ?_;rintro r w1 ⟨rfl,rfl⟩;go_wp2_with fail;go_ret;rw[HGO.out];exact⟨_,_,rfl,AaQ,HP.out,.inl rfl,Tch.refl _ _⟩
end Go.Proofs.YtfddhafbhceoaaaGreat
namespace Go.Bs
open Go.RowKit
variable{c g i n:Nat}{a:Option Addr}{t:TypeId}{v0 v1 v2 v3 v4:Value}
section
variable {P:Program} {a:Act} {w:World} {Q:Exit→Act→World→Prop}
theorem Nm{c rest:Code}(l0:Nat)(J:Nat→Act→World→Prop)(μ:Nat→Act→World→Nat)(hf:findLabel c l0=some (Code.skip.seq rest))
 (pass:∀l a w,J l a w→∃rest,findLabel c l=some (Code.skip.seq rest)∧rest.wp P (Le (fun l' a' w'=>J l' a' w'∧μ l' a' w'<μ l a w) Q) a w)
 (first:∀K:Exit→Act→World→Prop,(∀a w,J l0 a w→rest.wp P K a w)→c.wp P K a w):(Code.scope c).wp P Q a w:=by
 refine Kb J μ ?_ ?_
 ·intro l a w h
  obtain⟨r,h1,h2⟩:=pass l a w h;exact⟨_,h1,Ia h2⟩
 ·refine first _ fun a w h=> ?_
  obtain⟨r,h1,h2⟩:=pass l0 a w h;rw[hf] at h1;obtain rfl:rest=r:=by
   have:=A7 h1;injection this
  refine wp_mono h2 fun e a' w' hq=> ?_;cases e<;>first | exact hq | exact hq.1
end
end Go.Bs
namespace Go.Proofs.YtfddhafbhceoaaaGreat
open Go.RowKit Go.Bs Go.Maps
variable{k:Int}{D P l rest:List UInt8}{xs:List Value}{base c1 c2 c3 c4 g j n:Nat}{F S:Nat → Prop}{a1 a2 a3 a4:Option Addr}{e t:TypeId}{v v0 v1 v2 v3 v4:Value}{W w w':World}
theorem TZ{base':Nat}{size:Nat}(h:w.ownsRow base e size v n xs)(hb:base'≤base):w.ownsRow base' e size v n xs:=by
 refine⟨h.1,?_⟩;rcases h.2 with h0 | ⟨g,cap,cur,h1,h2,h3⟩
 ·exact .inl h0
 ·exact .inr ⟨g,cap,cur,h1,A4 hb h2,h3⟩
structure Kn(w:World)(vb:Value)(w':World)(vo:Value)(E:List EvX):Prop where
 own:∃cells,AY (fun q=>w.heap.size≤q∧q<w'.heap.size∧vb.ownBlock≠some q) J0 w.heap.size 50 20 w' vo E cells
 ne:∀q,vo.ownBlock=some q→vb.ownBlock≠some q
theorem Kn.read{w w':World}{vb vo:Value}{E:List EvX}(h:Kn w vb w' vo E):Kx.r (fun q=>w.heap.size≤q∧q<w'.heap.size∧vb.ownBlock≠some q) w' [vo] E:=by
 obtain⟨cells,hc⟩:=h.own;refine Kx.mono hc.slice fun b e=> ?_;rcases e with e | e
 ·exact e
 ·have:=BI hc.1 b e
  exact⟨this.1,this.2,h.ne b e⟩
theorem Kn.nil{vb:Value}:Kn w vb w' (.slice none 0 0) []:=⟨⟨[],AY.nil⟩,fun q e=>zAd⟩
structure CU(w:World)(g:Nat)(v0:Value)(B:List UInt8)(a:Option Addr)(c:Nat)(s:PSt)(v:Value)(E:List EvX)(vo:Value)(W:World):Prop where
 par:Fh W g v s
 vb:v.ownBlock=v0.ownBlock∨∀q,v.ownBlock=some q→w.heap.size+2≤q
 own:∃cells,AY (fun q=>w.heap.size+2≤q∧q<W.heap.size∧v.ownBlock≠some q) J0 (w.heap.size+2) 50 20 W vo E cells
 ne:∀q,vo.ownBlock=some q→v.ownBlock≠some q
 mb:∃u0 u1 u2 u3 u4 u5 u6 u7 u8 u9 u10 u11 u12 u13:Value,Blk W w.heap.size 45 #[u0,u1,u2,u3,u4,u5,u6,u7,u8,u9,u10,u11,u12,u13]
 fb:∃k f:Int,Blk W (w.heap.size+1) 65 #[.int .i64 k,.int .i64 f]
 dat:Ah.r (fun q=>q<w.heap.size∧q≠g∧v0.ownBlock≠some q) W [.slice a B.length c] B
 tch:Tch (fun q=>q=g∨v0.ownBlock=some q) w W
 sz:w.heap.size+2≤W.heap.size
 gl:g<w.heap.size
 v0l:∀q,v0.ownBlock=some q→q<w.heap.size
section
variable {w W W':World} {g:Nat} {v0 v v' vo vo':Value} {B:List UInt8} {a:Option Addr} {c:Nat} {s s':PSt} {E:List EvX}
theorem CU.vq(h:CU w g v0 B a c s v E vo W):∀q,v.ownBlock=some q→q≠g∧q<W.heap.size∧(v0.ownBlock=some q∨w.heap.size+2≤q):=fun q e=>by
 have:=h.par.at_ q e;refine⟨zD,this.2,?_⟩;rcases h.vb with hv | hv
 ·exact .inl (hv ▸ e)
 ·exact .inr (hv q e)
theorem CU.later(h:CU w g v0 B a c s v E vo W)(hb:Below W.heap.size W W'):CU w g v0 B a c s v E vo W':=by
 obtain⟨cells,hc⟩:=h.own;obtain⟨u0,u1,u2,u3,u4,u5,u6,u7,u8,u9,u10,u11,u12,u13,hm⟩:=h.mb;obtain⟨k,f,hf⟩:=h.fb;exact⟨h.par.later hb,h.vb,⟨cells,(hc.keep (fun b e=>hb.block b e.2.1) (fun q e=>hb.block q (BI hc.1 q e).2)).mono fun b e=>⟨e.1,Aj e.2.1 hb.size,e.2.2⟩⟩,h.ne,
  ⟨u0,u1,u2,u3,u4,u5,u6,u7,u8,u9,u10,u11,u12,u13,hm.later hb⟩,⟨k,f,hf.later hb⟩,Ah.keep h.dat fun q hq=>hb.block q (Aj hq.1 h.tch.size),h.tch.trans (Tch.Cx (F:=fun q=>q=g∨v0.ownBlock=some q) hb) fun _ _ e=>e,A4 h.sz hb.size,h.gl,h.v0l⟩
theorem CU.mf(h:CU w g v0 B a c s v E vo W)(ht:Tch (fun b=>b=w.heap.size∨b=w.heap.size+1) W W')(hm:∃u0 u1 u2 u3 u4 u5 u6 u7 u8 u9 u10 u11 u12 u13:Value,Blk W' w.heap.size 45 #[u0,u1,u2,u3,u4,u5,u6,u7,u8,u9,u10,u11,u12,u13])(hf:∃k f:Int,Blk W' (w.heap.size+1) 65 #[.int .i64 k,.int .i64 f]):CU w g v0 B a c s v E vo W':=by
 obtain⟨cells,hc⟩:=h.own;have hg:=h.gl;refine⟨h.par.tch ht zD (fun q e=> ?_),h.vb,⟨cells,(hc.keep (fun b e=>ht.block b e.2.1 (by have:=e.1;omega)) (fun q e=>ht.block q (BI hc.1 q e).2 (by have:=(BI hc.1 q e).1;omega))).mono fun b e=>⟨e.1,Aj e.2.1 ht.size,e.2.2⟩⟩,h.ne,hm,hf,
  Ah.keep h.dat fun q hq=>ht.block q (Aj hq.1 h.tch.size) zY,h.tch.trans ht fun b hb e=>zD,A4 h.sz ht.size,h.gl,h.v0l⟩
 rcases (h.vq q e).2.2 with h1 | h1
 ·have:=h.v0l q h1
  omega
 ·omega
theorem CU.AbE(h:CU w g v0 B a c s v E vo W)(i:Nat)(u:Value)(hb:Blk (W.setCell ⟨g,i,none⟩ u) g 60 #[.bool true,v,.int .i64 (s'.first:Int),.int .i64 (s'.fed:Int),.int .i64 (s'.need:Int),.int .i64 s'.ended])(hs:s'.buf=s.buf):CU w g v0 B a c s' v E vo (W.setCell ⟨g,i,none⟩ u):=by
 obtain⟨cells,hc⟩:=h.own;obtain⟨u0,u1,u2,u3,u4,u5,u6,u7,u8,u9,u10,u11,u12,u13,hm⟩:=h.mb;obtain⟨k,f,hf⟩:=h.fb;have hg:=h.gl;have hz:(W.setCell ⟨g,i,none⟩ u).heap.size=W.heap.size:=ZK;refine⟨⟨hb,?_⟩,h.vb,⟨cells,(hc.keep (fun b e=>AB _ _ _ _ zB4) (fun q e=>AB _ _ _ _ zA6)).mono fun b e=>⟨e.1,zD,e.2.2⟩⟩,h.ne,
  ⟨u0,u1,u2,u3,u4,u5,u6,u7,u8,u9,u10,u11,u12,u13,hm.far zJ _⟩,⟨k,f,hf.far zJ _⟩,Ah.keep h.dat fun q hq=>AB _ _ _ _ hq.2.1,h.tch.setCell (p:=⟨g,i,none⟩) (fun _=> .inl rfl) _,by rw[hz];exact h.sz,h.gl,h.v0l⟩
 rw[hs];exact h.par.buf.PN fun q e=>AB _ _ _ _ (h.vq q e).1
theorem CU.Abl(h:CU w g v0 B a c s v E vo W):CU w g v0 B a c ⟨s.buf,s.first,s.fed+1,s.need,s.ended⟩ v E vo (W.setCell ⟨g,3,none⟩ (.int .i64 ((s.fed:Int)+1))):=
 h.AbE 3 _ (by have:=h.par.blk.set 3 (.int .i64 ((s.fed:Int)+1));exact this) rfl
theorem CU.Vd(h:CU w g v0 B a c s v E vo W)(n:Nat):CU w g v0 B a c ⟨s.buf,s.first,s.fed,n,s.ended⟩ v E vo (W.setCell ⟨g,4,none⟩ (.int .i64 (n:Int))):=
 h.AbE 4 _ (by have:=h.par.blk.set 4 (.int .i64 (n:Int));exact this) rfl
theorem CU.Xu(h:CU w g v0 B a c s v E vo W)(n:Nat):CU w g v0 B a c ⟨s.buf,n,s.fed,s.need,s.ended⟩ v E vo (W.setCell ⟨g,2,none⟩ (.int .i64 (n:Int))):=
 h.AbE 2 _ (by have:=h.par.blk.set 2 (.int .i64 (n:Int));exact this) rfl
theorem CU.drop(h:CU w g v0 B a c s v E vo W):CU w g v0 B a c ⟨[],s.first,s.fed,s.need,s.ended⟩ (.slice none 0 0) E vo (W.setCell ⟨g,1,none⟩ (.slice none 0 0)):=by
 obtain⟨cells,hc⟩:=h.own;obtain⟨u0,u1,u2,u3,u4,u5,u6,u7,u8,u9,u10,u11,u12,u13,hm⟩:=h.mb;obtain⟨k,f,hf⟩:=h.fb;have hg:=h.gl;have hz:(W.setCell ⟨g,1,none⟩ (.slice none 0 0)).heap.size=W.heap.size:=ZK;exact⟨⟨by have:=h.par.blk.set 1 (.slice none 0 0);exact this,BD.nil⟩,.inr (fun q e=>zAd),⟨cells,(hc.keep (fun b e=>AB _ _ _ _ zB4) (fun q e=>AB _ _ _ _ zA6)).mono fun b e=>⟨e.1,zD,(fun e2=>by cases e2)⟩⟩,(fun q _ e=>zAd),
  ⟨u0,u1,u2,u3,u4,u5,u6,u7,u8,u9,u10,u11,u12,u13,hm.far zJ _⟩,⟨k,f,hf.far zJ _⟩,Ah.keep h.dat fun q hq=>AB _ _ _ _ hq.2.1,h.tch.setCell (p:=⟨g,1,none⟩) (fun _=> .inl rfl) _,by rw[hz];exact h.sz,h.gl,h.v0l⟩
theorem CU.bad(h:CU w g v0 B a c s v E vo W)(hp:Fh W' g (.slice none 0 0) s')(ht:Tch (·=g) W W'):CU w g v0 B a c s' (.slice none 0 0) E vo W':=by
 obtain⟨cells,hc⟩:=h.own;obtain⟨u0,u1,u2,u3,u4,u5,u6,u7,u8,u9,u10,u11,u12,u13,hm⟩:=h.mb;obtain⟨k,f,hf⟩:=h.fb;have hg:=h.gl;exact⟨hp,.inr (fun q e=>zAd),⟨cells,(hc.keep (fun b e=>ht.block b e.2.1 (by have:=e.1;omega)) (fun q e=>ht.block q (BI hc.1 q e).2 (by have:=(BI hc.1 q e).1;omega))).mono fun b e=>⟨e.1,Aj e.2.1 ht.size,(fun e2=>by cases e2)⟩⟩,(fun q _ e=>zAd),
  ⟨u0,u1,u2,u3,u4,u5,u6,u7,u8,u9,u10,u11,u12,u13,hm.tch ht zD⟩,⟨k,f,hf.tch ht zD⟩,Ah.keep h.dat fun q hq=>ht.block q (Aj hq.1 h.tch.size) hq.2.1,h.tch.trans ht fun b hb e=> .inl e,A4 h.sz ht.size,h.gl,h.v0l⟩
theorem CU.put(h:CU w g v0 B a c s v E vo W){x:UInt8}(hown:W'.ownsRow (g+1) 5 1 v' (s.buf.length+1) (byteCells s.buf++[.int .u8 (x.toNat:Int)]))(hgr:W.grownBy W' v.ownBlock)(hat:v'.ownBlock=v.ownBlock∨v'.ownBlock=some W.heap.size):
  CU w g v0 B a c ⟨s.buf++[x],s.first,s.fed,s.need,s.ended⟩ v' E vo (W'.setCell ⟨g,1,none⟩ v'):=by
 obtain⟨cells,hc⟩:=h.own;obtain⟨u0,u1,u2,u3,u4,u5,u6,u7,u8,u9,u10,u11,u12,u13,hm⟩:=h.mb;obtain⟨k,f,hf⟩:=h.fb;have hg:=h.gl;have hsz:=h.sz;have hgs:=hgr.size;have hz:(W'.setCell ⟨g,1,none⟩ v').heap.size=W'.heap.size:=ZK;have hvm:∀q,q=w.heap.size∨q=w.heap.size+1→some q≠v.ownBlock:=fun q hq e=>by
  rcases (h.vq q e.symm).2.2 with h1 | h1
  ·have:=h.v0l q h1
   omega
  ·omega
 have hb':BD W' (g+1) v' (s.buf++[x]):=by
  unfold BD;rw[Ag];have:byteCells (s.buf++[x])=byteCells s.buf++[.int .u8 (x.toNat:Int)]:=zAm;rw[this];exact hown
 refine⟨⟨by have:=(h.par.blk.grown hgr (fun e=>(h.vq g e.symm).1 rfl)).set 1 v';exact this,hb'.PN fun q e=>AB _ _ _ _ (by dsimp only;have:=(hb'.at_ q e).1;omega)⟩,?_,⟨cells,(hc.keep (fun b e=>(AB _ _ _ _ zB4).trans (hgr.block b e.2.1 (fun e2=>e.2.2 e2.symm))) (fun q e=>(AB _ _ _ _ zA6).trans (hgr.block q (BI hc.1 q e).2 (fun e2=>h.ne q e e2.symm)))).mono fun b e=>⟨e.1,zD,fun e2=> ?_⟩⟩,fun q e e2=> ?_,
  ⟨u0,u1,u2,u3,u4,u5,u6,u7,u8,u9,u10,u11,u12,u13,(hm.grown hgr (hvm _ (.inl rfl))).far zJ _⟩,⟨k,f,(hf.grown hgr (hvm _ (.inr rfl))).far zJ _⟩,Ah.keep h.dat fun q hq=>(AB _ _ _ _ hq.2.1).trans (hgr.block q (Aj hq.1 h.tch.size) (fun e=> ?_)),(h.tch.trans (Tch.N7 hgr) fun b hb e=> ?_).setCell (p:=⟨g,1,none⟩) (fun _=> .inl rfl) _,zD,h.gl,h.v0l⟩
 ·rcases hat with h1 | h1
  ·rw[h1]
   exact h.vb
  ·refine .inr fun q e=> ?_
   rw[h1] at e;have:=A7 e;omega
 ·rcases hat with h1 | h1
  ·exact e.2.2 (h1 ▸ e2)
  ·rw[h1] at e2
   have:=A7 e2;have:=e.2.1;omega
 ·rcases hat with h1 | h1
  ·exact h.ne q e (h1 ▸ e2)
  ·rw[h1] at e2
   have:=A7 e2;have:=(BI hc.1 q e).2;omega
 ·rcases (h.vq q e.symm).2.2 with h1 | h1
  ·exact hq.2.2 h1
  ·have:=hq.1
   omega
 ·rcases (h.vq b e).2.2 with h1 | h1
  ·exact .inr h1
  ·omega
theorem CU.tell(h:CU w g v0 B a c s v E vo W){cells:List (List Value)}(hc:AY (fun q=>w.heap.size+2≤q∧q<W.heap.size∧v.ownBlock≠some q) J0 (w.heap.size+2) 50 20 W vo E cells){news:List Value}{x:EvX}(hn:news.length=20)
 (hx:J0.r (fun q=>(w.heap.size+2≤q∧q<W.heap.size∧v.ownBlock≠some q)∧vo.ownBlock≠some q) W news x)
 (hown:W'.ownsRow (w.heap.size+2) 50 20 vo' (E.length+1) (cells.flatten++news)) (hgr:W.grownBy W' vo.ownBlock) (hat:vo'.ownBlock=vo.ownBlock∨vo'.ownBlock=some W.heap.size):CU w g v0 B a c s v (E++[x]) vo' W':=by
 obtain⟨u0,u1,u2,u3,u4,u5,u6,u7,u8,u9,u10,u11,u12,u13,hm⟩:=h.mb;obtain⟨k,f,hf⟩:=h.fb;have hg:=h.gl;have hsz:=h.sz;have hgs:=hgr.size;have hlo:=BI hc.1;refine⟨⟨h.par.blk.grown hgr (fun e=>by have:=(hlo g e.symm).1;omega),h.par.buf.PN fun q e=>hgr.block q (h.vq q e).2.1 (fun e2=>h.ne q e2.symm e)⟩,h.vb,⟨_,(hc.push (fun b e=>e.2.1) hn hx hown hgr hat).mono fun b e=>⟨e.1,zD,e.2.2⟩⟩,fun q e=> ?_,
  ⟨u0,u1,u2,u3,u4,u5,u6,u7,u8,u9,u10,u11,u12,u13,hm.grown hgr (fun e=>by have:=(hlo _ e.symm).1;omega)⟩,⟨k,f,hf.grown hgr (fun e=>by have:=(hlo _ e.symm).1;omega)⟩,Ah.keep h.dat fun q hq=>hgr.block q (Aj hq.1 h.tch.size) (fun e=>by have:=(hlo q e.symm).1;have:=hq.1;omega),h.tch.trans (Tch.N7 hgr) fun b hb e=>by have:=(hlo b e).1;omega,zD,h.gl,h.v0l⟩
 rcases hat with h1 | h1
 ·exact h.ne q (h1 ▸ e)
 ·rw[h1] at e
  have:=A7 e;intro e2;have:=(h.vq q e2).2.1;omega
theorem CU.told(h:CU w g v0 B a c s v E vo W):Kn w v W vo E:=by
 obtain⟨cells,hc⟩:=h.own;exact⟨⟨cells,⟨TZ hc.1 zD,hc.2.1,hc.2.2.1,fun i cs x h1 h2=>J0.mono (hc.2.2.2 i cs x h1 h2) fun b e=>⟨⟨zD,e.1.2⟩,e.2⟩⟩⟩,h.ne⟩
theorem CU.Ab2(h:CU w g v0 B a c s v E vo W)(k f:Int):CU w g v0 B a c s v E vo ((W.setCell ⟨w.heap.size+1,0,none⟩ (.int .i64 k)).setCell ⟨w.heap.size+1,1,none⟩ (.int .i64 f))∧Blk ((W.setCell ⟨w.heap.size+1,0,none⟩ (.int .i64 k)).setCell ⟨w.heap.size+1,1,none⟩ (.int .i64 f)) (w.heap.size+1) 65 #[.int .i64 k,.int .i64 f]:=by
 obtain⟨u0,u1,u2,u3,u4,u5,u6,u7,u8,u9,u10,u11,u12,u13,hm⟩:=h.mb;obtain⟨k0,f0,hf⟩:=h.fb;have hF:=(hf.set 0 (.int .i64 k)).set 1 (.int .i64 f);exact⟨h.mf (((Tch.refl _ W).setCell (p:=⟨w.heap.size+1,0,none⟩) (fun _=> .inr rfl) _).setCell (p:=⟨w.heap.size+1,1,none⟩) (fun _=> .inr rfl) _) ⟨u0,u1,u2,u3,u4,u5,u6,u7,u8,u9,u10,u11,u12,u13,(hm.far zJ _).far zJ _⟩ ⟨k,f,hF⟩,hF⟩
end
def Mz(s:PSt):PSt × List Ev:=
 if s.buf.length<s.need then (s,[])
 else if (CC s.buf).2.2.2.1=0 then (⟨[],s.fed,s.fed,0,s.ended⟩,[DV s.first (CC s.buf).1])
 else (⟨[],s.first,s.fed,s.need,4⟩,[FK (wrap64 ((CC s.buf).2.2.2.2+(s.first:Int))) (CC s.buf).2.2.2.1])
def goP(r:PSt × List Ev)(E:List Ev)(l:List UInt8):PSt × List Ev:=if r.1.ended=0 then ((CL r.1 l).1,E++r.2++(CL r.1 l).2) else (r.1,E++r.2)
theorem Vq{s:PSt}{E e:List Ev}(h:s.ended≠0):goP (s,e) E l=(s,E++e):=by
 unfold goP;exact Ak h
theorem Ur{s:PSt}{E e:List Ev}(h:s.ended=0):goP (s,e) E l=((CL s l).1,(E++e)++(CL s l).2):=by
 unfold goP;exact Ai h
theorem YD(s:PSt)(E:List Ev)(b:UInt8)(l:List UInt8):((CL s (b::l)).1,E++(CL s (b::l)).2)=goP (Ea s b) E l:=by
 rw[Gn];unfold goP;split
 ·rw[Ao]
 ·rfl
theorem Tl{s:PSt}{b:UInt8}(h:0<s.need)(he:s.ended=0):Ea s b=Mz ⟨s.buf++[b],s.first,s.fed+1,s.need,s.ended⟩:=by
 unfold Ea Mz;dsimp only;rw[Ai h,Ai h,he]
theorem Rr{s:PSt}{b:UInt8}(h:¬0<s.need)(he:s.ended=0)(hw:0<AP (s.buf++[b])):Ea s b=Mz ⟨s.buf++[b],s.first,s.fed+1,AP (s.buf++[b]),s.ended⟩:=by
 unfold Ea Mz;dsimp only;rw[Ak h,Ai hw,he]
theorem Tk{s:PSt}{b:UInt8}(h:¬0<s.need)(he:s.ended=0)(hw:¬0<AP (s.buf++[b]))(hk:(Ca (s.buf++[b])).1.k=1):Ea s b=(⟨s.buf++[b],s.first,s.fed+1,AP (s.buf++[b]),s.ended⟩,[]):=by
 have h0:AP (s.buf++[b])=0:=zD;unfold Ea;dsimp only;rw[Ak h,Ak hw,Ai hk,h0,he]
theorem VX{s:PSt}{b:UInt8}(h:¬0<s.need)(he:s.ended=0)(hw:¬0<AP (s.buf++[b]))(hk:(Ca (s.buf++[b])).1.k≠1):Ea s b=(⟨[],s.first,s.fed+1,AP (s.buf++[b]),4⟩,[FK (wrap64 ((Ca (s.buf++[b])).1.f+(s.first:Int))) (Ca (s.buf++[b])).1.k]):=by
 have h0:AP (s.buf++[b])=0:=zD;unfold Ea;dsimp only;rw[Ak h,Ak hw,Ak hk,h0]
theorem VW(s:PSt)(b:UInt8):(Ea s b).1.fed=s.fed+1∧(Ea s b).1.buf.length≤s.buf.length+1∧(Ea s b).2.length≤1:=by
 unfold Ea;dsimp only;have h1:(s.buf++[b]).length=s.buf.length+1:=zN;generalize s.buf++[b]=D at*;repeat' split
 all_goals first | exact⟨rfl,zJ,zN⟩ | exact⟨rfl,zN,zN⟩
theorem PW:∀(l:List UInt8) (s:PSt),(CL s l).1.fed≤s.fed+l.length∧(CL s l).1.buf.length≤s.buf.length+l.length∧(CL s l).2.length≤l.length
 | [],s=>⟨An _,An _,An _⟩
 | b::l,s=>by
  have h1:=VW s b;have h2:=PW l (Ea s b).1;rw[Gn];split
  ·refine⟨Z8,Z8,?_⟩
   rw[Ag,AO];omega
  ·exact⟨Z8,Z8,Z8⟩
theorem UA(s:PSt):(Hx s).2.length≤1:=by
 unfold Hx;split<;>simp
theorem Yx(hw:¬0<AP D):(Ca D).1.k≠0:=fun e=>hw (IN.2 e)
end Go.Proofs.YtfddhafbhceoaaaGreat
