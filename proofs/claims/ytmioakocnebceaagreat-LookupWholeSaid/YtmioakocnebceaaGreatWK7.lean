/- Mini: Needed by lookupWhole_walk, part 7: texts put together by shake.py; no condition. -/
import Derived.Test.YtmioakocnebceaaGreatWK5
import Derived.Test.YtmioakocnebceaaGreatWK6
import Derived.Test.YtmioakocnebceaaGreatWK3
import Derived.Laws.Bits64
set_option linter.unusedVariables false
set_option linter.unusedSimpArgs false
set_option maxRecDepth 100000
set_option maxHeartbeats 6400000
namespace Go.Proofs.YtmioakocnebceaaGreat
open Go.RowKit Go.Bs Go.Maps
theorem vget_varF(rest:List UInt8):∀(f i x y:Nat),f+i=9→(0<i→0<x)→x*128^i<18446744073709551616→vget i y (varF f x++rest)=(y+x*128^i,i+(varF f x).length,0)
 | 0,i,x,y,h,hp,hx=>by
  obtain rfl:i=9:=by omega
  have hx2:x<2:=by omega
  have ht:(UInt8.ofNat x).toNat=x:=by simp;omega
  have:=hp (by omega)
  simp only[varF,List.cons_append,List.nil_append,List.length_cons,List.length_nil]
  unfold vget
  rw[ht,if_neg (by omega),if_neg (by omega),if_pos (by omega)]
 | f+1,i,x,y,h,hp,hx=>by
  simp only[varF]
  by_cases h128:x<128
  ·rw[if_pos h128]
   have ht:(UInt8.ofNat x).toNat=x:=by simp;omega
   simp only[List.cons_append,List.nil_append,List.length_cons,List.length_nil]
   unfold vget
   rw[ht,if_neg (by omega),if_neg (by omega),if_pos (by omega)]
  ·rw[if_neg h128]
   have ht:(UInt8.ofNat (128+x%128)).toNat=128+x%128:=by simp;omega
   simp only[List.cons_append,List.length_cons]
   unfold vget
   rw[ht,if_neg (by omega),if_neg (by omega),if_neg (by omega)]
   have hdm:x=128*(x/128)+x%128:=(Nat.div_add_mod x 128).symm
   have he:x/128*128^(i+1)+x%128*128^i=x*128^i:=by
    rw[Nat.pow_succ]
    generalize 128^i=k
    conv=>rhs;rw[hdm]
    rw[Nat.add_mul,Nat.mul_comm k 128,←Nat.mul_assoc,Nat.mul_comm 128]
   rw[vget_varF rest f (i+1) (x/128) _ (by omega) (fun _=>by omega) (by omega)]
   refine Prod.ext ?_ (Prod.ext ?_ rfl)
   ·dsimp only
    rw[show (128+x%128)%128=x%128 by omega]
    omega
   ·dsimp only;omega
theorem vget_varB(x:Nat)(rest:List UInt8)(hx:x<18446744073709551616):vget 0 0 (varB x++rest)=(x,(varB x).length,0):=by
 have:=vget_varF rest 9 0 x 0 rfl (fun h=>by omega) (by simpa using hx)
 unfold varB
 rw[this];simp
theorem Rs.num_varB{B rest:List UInt8}{p x:Nat}(hx:x<18446744073709551616)(h:B.drop p=varB x++rest):(⟨p,0,0⟩:Rs).num B=(⟨p+(varB x).length,0,0⟩,x):=by
 unfold Rs.num
 rw[if_pos rfl]
 dsimp only
 rw[h,vget_varB x rest hx]
 rfl
theorem drop_more{B D rest:List UInt8}{p:Nat}(h:B.drop p=D++rest):B.drop (p+D.length)=rest:=by
 rw[←List.drop_drop,h];simp
theorem drop_room{B D rest:List UInt8}{p:Nat}(h:B.drop p=D++rest)(hp:p≤B.length):p+D.length+rest.length=B.length:=by
 have:=congrArg List.length h
 simp at this
 omega
theorem Rs.take_pre{B D rest:List UInt8}{p:Nat}(h:B.drop p=D++rest)(hp:p≤B.length):(⟨p,0,0⟩:Rs).take B (D.length:Int)=(⟨p+D.length,0,0⟩,D):=by
 have hr:=drop_room h hp
 unfold Rs.take Rs.skip
 rw[if_pos rfl,if_neg (by omega),if_neg (by dsimp only;omega)]
 simp[h]
theorem Rs.byte_pre{B rest:List UInt8}{p:Nat}{x:UInt8}(h:B.drop p=x::rest)(hp:p≤B.length):(⟨p,0,0⟩:Rs).byte B=(⟨p+1,0,0⟩,x):=by
 have hr:=drop_room (D:=[x]) h hp
 simp at hr
 have hx:B.getD p 0=x:=by
  have:(B.drop p)[0]? =some x:=by rw[h];rfl
  simp at this
  simp[List.getD,this]
 unfold Rs.byte Rs.skip
 rw[if_pos rfl,if_neg (by omega),if_neg (by dsimp only;omega)]
 dsimp only
 rw[if_pos rfl,hx]
 rfl
theorem Rs.int_pre{B rest:List UInt8}{p x:Nat}{m:Int}(hx:x<18446744073709551616)(h:B.drop p=varB x++rest)(hm:(x:Int)≤m):(⟨p,0,0⟩:Rs).int B m=(⟨p+(varB x).length,0,0⟩,x):=by
 unfold Rs.int Rs.most
 rw[if_pos (by omega),Rs.num_varB hx h,if_neg (by dsimp only;omega)]
theorem Rs.blob_pre{B D rest:List UInt8}{p:Nat}{m:Int}(hx:D.length<18446744073709551616)(h:B.drop p=blobB D++rest)(hp:p≤B.length)(hm:(D.length:Int)≤m):(⟨p,0,0⟩:Rs).blob B m=(⟨p+(blobB D).length,0,0⟩,D):=by
 unfold blobB at h
 rw[List.append_assoc] at h
 have h2:=drop_more h
 have hr:=drop_room h hp
 unfold Rs.blob
 rw[Rs.int_pre hx h hm]
 dsimp only
 rw[Rs.take_pre h2 (by omega)]
 simp[blobB,Nat.add_assoc]
theorem againL_take{b:List UInt8}{o:Nat}:∀(m p:Nat),p+m≤b.length→1≤o→o≤p→(∀k,k<m→b[p+k]? =b[p+k-o]?)→againL o m (b.take p)=b.take (p+m)
 | 0,p,_,_,_,_=>rfl
 | m+1,p,h,h1,h2,hs=>by
  have h0:=hs 0 (by omega)
  have hb:b[p]? =some b[p]:=by simp
  simp only[Nat.add_zero] at h0
  have e:b.take p++[(b.take p).getD ((b.take p).length-o) 0]=b.take (p+1):=by
   rw[List.length_take,Nat.min_eq_left (by omega)]
   have:(b.take p).getD (p-o) 0=b[p]:=by
    have:(b.take p)[p-o]? =some b[p]:=by rw[List.getElem?_take_of_lt (by omega),←h0,hb]
    simp[List.getD,this]
   rw[this]
   rw[List.take_add_one,hb];rfl
  simp only[againL]
  rw[e,againL_take m (p+1) (by omega) h1 (by omega) (fun k hk=>by
   have:=hs (k+1) (by omega)
   rw[show p+1+k=p+(k+1) by omega]
   exact this)]
  rw[show p+1+m=p+(m+1) by omega]
theorem exR_good{b B:List UInt8}{bound:Int}(hb:b.length≤1048576)(hbd:(b.length:Int)≤bound){f:Bool}{p:Nat}{ts:List Tok}(hg:Good b f p ts):p≤b.length→∀q,q≤B.length→B.drop q=tokensB ts→exR B bound ⟨q,0,0⟩ (b.take p)=(⟨B.length,0,0⟩,b):=by
 induction hg with
 | nil=>
  intro _ q hq h
  have:B.length≤q:=by simpa [tokensB] using h
  obtain rfl:q=B.length:=by omega
  rw[exR_stop (by simp)]
  simp
 | @copy f p o m rest hp hbe hm hg ih=>
  intro _ q hq h
  rcases bestR_facts b p with h0 | ⟨o',m',he,h1,h2,h4,hml,_,_⟩
  ·rw[hbe] at h0;simp at h0;omega
  ·rw[hbe] at he
   simp only[Prod.mk.injEq] at he
   obtain⟨rfl,rfl⟩:=he
   have hmb:=mlen_le b p o
   have hre:reach p≤p∧reach p≤65536:=by unfold reach;omega
   have ht:tokensB (⟨[],(o:Int),(m:Int)⟩::rest)=varB (2*m-7)++(varB (o-1)++tokensB rest):=by
    simp only[tokensB,List.map_cons,List.flatten_cons]
    rw[tokB_copy o m h1,List.append_assoc]
   rw[ht] at h
   have hd1:=drop_more h
   have hr1:=drop_room h hq
   have hd2:=drop_more hd1
   have hr2:=drop_room hd1 (by omega)
   have hl1:=(varB_len (2*m-7)).2
   have hN:=Rs.num_varB (by omega) h
   have hN2:=Rs.num_varB (p:=q+(varB (2*m-7)).length) (by omega) hd1
   have hH:(⟨q,0,0⟩:Rs).head B=(⟨q+(varB (2*m-7)).length,0,0⟩,true,m):=by
    unfold Rs.head
    rw[hN]
    dsimp only
    rw[if_pos rfl,if_pos (by omega),if_neg (by omega),show (2*m-7)/2+4=m by omega]
   have hO:(⟨q+(varB (2*m-7)).length,0,0⟩:Rs).offset B=(⟨q+(varB (2*m-7)).length+(varB (o-1)).length,0,0⟩,o):=by
    unfold Rs.offset
    rw[hN2]
    dsimp only
    rw[if_neg (by omega),if_pos rfl,show o-1+1=o by omega]
   have hlen:(b.take p).length=p:=by simp;omega
   have hS:exStep B bound ⟨q,0,0⟩ (b.take p)=(⟨q+(varB (2*m-7)).length+(varB (o-1)).length,0,0⟩,b.take (p+m)):=by
    unfold exStep
    rw[hH]
    dsimp only
    rw[hlen,if_neg (by omega),if_neg (by simp),hO]
    dsimp only
    rw[if_neg (by omega),if_pos rfl,againL_take m p (by omega) h1 (by omega) (fun k hk=>(mlen_same (by omega)).2.2.2)]
   rw[exR_go ⟨hq,fun _=>rfl⟩ (by dsimp only;omega) rfl,hS]
   exact ih (by omega) _ (by omega) hd2
 | @run p q' rest hlt hle hno hg ih=>
  intro _ q hq h
  have hD:((b.drop p).take (q'-p)).length=q'-p:=by simp;omega
  generalize hDe:(b.drop p).take (q'-p)=D at*
  have ht:tokensB (⟨D,0,0⟩::rest)=varB (2*D.length-2)++(D++tokensB rest):=by
   simp only[tokensB,List.map_cons,List.flatten_cons]
   rw[tokB_run D (by omega) (by omega),List.append_assoc]
  rw[ht] at h
  have hd1:=drop_more h
  have hr1:=drop_room h hq
  have hd2:=drop_more hd1
  have hr2:=drop_room hd1 (by omega)
  have hl1:=(varB_len (2*D.length-2)).2
  have hN:=Rs.num_varB (by omega) h
  have hH:(⟨q,0,0⟩:Rs).head B=(⟨q+(varB (2*D.length-2)).length,0,0⟩,false,D.length):=by
   unfold Rs.head
   rw[hN]
   dsimp only
   rw[if_pos rfl,if_neg (by omega),if_neg (by omega),show (2*D.length-2)/2+1=D.length by omega]
  have hlen:(b.take p).length=p:=by simp;omega
  have hS:exStep B bound ⟨q,0,0⟩ (b.take p)=(⟨q+(varB (2*D.length-2)).length+D.length,0,0⟩,b.take q'):=by
   unfold exStep
   rw[hH]
   dsimp only
   rw[hlen,if_neg (by omega),if_pos rfl,Rs.take_pre hd1 (by omega)]
   rw[←hDe]
   refine Prod.ext rfl ?_
   dsimp only
   have:b.take q'=b.take p++(b.drop p).take (q'-p):=by
    rw[←List.take_append_drop p (b.take q'),List.take_take,Nat.min_eq_left (by omega),List.drop_take]
   exact this.symm
  rw[exR_go ⟨hq,fun _=>rfl⟩ (by dsimp only;omega) rfl,hS]
  exact ih (by omega) _ (by omega) hd2
theorem exB_press{b:List UInt8}{bound:Int}(hb:b.length≤1048576)(hbd:(b.length:Int)≤bound):exB (pressB b) bound=(b,0,0):=by
 have:=exR_good (B:=pressB b) hb hbd (good_toksR b) (by omega) 0 (by omega) rfl
 rw[exB_is]
 simp only[List.take_zero] at this
 rw[this,if_pos rfl]
theorem Rs.loose_block{B D rest:List UInt8}{p:Nat}{most:Int}(h:B.drop p=blockB D++rest)(hp:p≤B.length)(hD:D.length≤1048576)(hm:(D.length:Int)≤most):
  (⟨p,0,0⟩:Rs).loose B most=(⟨p+(blockB D).length,0,0⟩,D,true):=by
 have htk:(B.drop p).take (blockB D).length=blockB D:=by rw[h];simp
 have h':=h
 unfold blockB at h
 rw[List.append_assoc] at h
 have hd1:=drop_more h
 have hr1:=drop_room h hp
 have hI:=Rs.int_pre (m:=min most 1048576) (by omega) h (by omega)
 unfold Rs.loose
 rw[hI]
 dsimp only
 cases hpk:packR D
 ·rw[hpk] at hd1
  rw[if_neg (by simp)] at hd1
  have hd2:=drop_more (D:=[0]) hd1
  have hr2:=drop_room (D:=[0]) hd1 (by omega)
  simp only[List.length_cons,List.length_nil,Nat.zero_add] at hd2 hr2
  rw[Rs.byte_pre hd1 (by omega)]
  dsimp only
  rw[if_pos rfl,if_pos (by rfl),Rs.take_pre hd2 (by omega)]
  dsimp only
  rw[if_pos rfl]
  have hl:(blockB D).length=(varB D.length).length+(1+D.length):=by simp[blockB,hpk];omega
  rw[show p+(varB D.length).length+1+D.length=p+(blockB D).length by omega,show p+(blockB D).length-p=(blockB D).length by omega,htk]
  simp
 ·have hpl:(blobB (pressB D)).length<D.length:=of_decide_eq_true hpk
  have hpl2:=blobB_len (pressB D)
  rw[hpk] at hd1
  rw[if_pos rfl] at hd1
  have hd2:=drop_more (D:=[1]) hd1
  have hr2:=drop_room (D:=[1]) hd1 (by omega)
  simp only[List.length_cons,List.length_nil,Nat.zero_add] at hd2 hr2
  rw[Rs.byte_pre hd1 (by omega)]
  dsimp only
  rw[if_pos rfl,if_neg (by decide),if_pos (by rfl)]
  have hB:=Rs.blob_pre (m:=1048576) (by omega) hd2 (by omega) (by omega)
  have hU:(⟨p+(varB D.length).length+1,0,0⟩:Rs).unp B D.length=(⟨p+(varB D.length).length+1+(blobB (pressB D)).length,0,0⟩,D):=by
   unfold Rs.unp
   rw[hB]
   dsimp only
   rw[exB_press hD (Int.le_refl _)]
   dsimp only
   rw[if_pos rfl,if_pos rfl,if_neg (by omega)]
  rw[hU]
  dsimp only
  rw[if_pos rfl]
  have hl:(blockB D).length=(varB D.length).length+(1+(blobB (pressB D)).length):=by simp[blockB,hpk];omega
  rw[show p+(varB D.length).length+1+(blobB (pressB D)).length=p+(blockB D).length by omega,show p+(blockB D).length-p=(blockB D).length by omega,htk]
  simp
def Rs.falls(B:List UInt8):Nat→Rs→Int→List Int→Rs × List Int
 | 0,s,_,out=>(s,out)
 | n+1,s,below,out=>
  if (s.num B).1.k=0 then
   (if below≤((s.num B).2:Int) then ((s.num B).1.fail 13 s.p,[]) else Rs.falls B n (s.num B).1 (below-(s.num B).2-1) (out++[below-(s.num B).2-1]))
  else ((s.num B).1,[])
def Rs.delta(B:List UInt8)(s:Rs)(below:Int)(most:Int):Rs × List Int:=Rs.falls B (s.int B most).2 (s.int B most).1 below []
def Rs.stream(B:List UInt8)(s:Rs)(prev:Option Int):Rs × Int:=
 match prev with
 | none=>((s.num B).1,((s.num B).2:Int))
 | some q=>(if 18446744073709551615-q≤((s.num B).2:Int) then (s.num B).1.fail 13 s.p else (s.num B).1,((s.num B).2:Int)+q+1)
def Rs.linksF(B:List UInt8)(pos:Int):Nat→Rs→Option Int→List Link→Rs × List Link
 | 0,s,_,out=>(s,out)
 | n+1,s,prev,out=>
  if ((s.stream B prev).1.delta B pos 4).1.k=0 then Rs.linksF B pos n ((s.stream B prev).1.delta B pos 4).1 (some (s.stream B prev).2) (out++[⟨(s.stream B prev).2,((s.stream B prev).1.delta B pos 4).2⟩])
  else (((s.stream B prev).1.delta B pos 4).1,[])
def Rs.links(B:List UInt8)(s:Rs)(pos:Int):Rs × List Link:=Rs.linksF B pos (s.int B 16).2 (s.int B 16).1 none []
def Rs.ehead(B:List UInt8)(s:Rs)(pos most:Int):Rs × List Link × Nat:=
 if ((s.links B pos).1.int B most).1.k=0 then (((s.links B pos).1.int B most).1,(s.links B pos).2,((s.links B pos).1.int B most).2) else (((s.links B pos).1.int B most).1,[],0)
def Rs.heads(B:List UInt8):Nat→Rs→Int→Int→List (List Link × Nat)→Rs × List (List Link × Nat)
 | 0,s,_,_,out=>(s,out)
 | n+1,s,pos,left,out=>
  if (s.ehead B pos left).1.k=0 then Rs.heads B n (s.ehead B pos left).1 (pos+1) (left-(s.ehead B pos left).2.2) (out++[(s.ehead B pos left).2]) else ((s.ehead B pos left).1,[])
def sizesN(l:List (List Link × Nat)):Nat:=(l.map Prod.snd).sum
def dealE:List (List Link × Nat)→List UInt8→List Entry
 | [],_=>[]
 | (l,n)::r,D=>⟨l,D.take n⟩::dealE r (D.drop n)
def Rs.ep(B:List UInt8)(s:Rs):Rs × Nat:=if (s.num B).1.k=0 then (if epR ((s.num B).2:Int)=true then s.num B else ((s.num B).1.fail 3 s.p,0)) else ((s.num B).1,0)
def Rs.po(B:List UInt8)(s:Rs):Rs × Nat:=if (s.num B).1.k=0 then (if poR ((s.num B).2:Int)=true then s.num B else ((s.num B).1.fail 3 s.p,0)) else ((s.num B).1,0)
def Rs.bfront(B:List UInt8)(s:Rs):Rs × Nat × Nat × Nat:=
 ((if fitsR (((s.ep B).1.po B).2:Int) (((s.ep B).1.po B).1.int B 16).2=true then (((s.ep B).1.po B).1.int B 16).1 else (((s.ep B).1.po B).1.int B 16).1.fail 3 ((s.ep B).1.po B).1.p),(s.ep B).2,((s.ep B).1.po B).2,(((s.ep B).1.po B).1.int B 16).2)
def Rs.bblock(blk:Rs→Rs × List UInt8 × Bool)(h:Rs × List (List Link × Nat)):Rs × List Entry × Bool:=
 let p:=blk h.1
 let u:Rs:=if sizesN h.2=p.2.1.length then p.1 else p.1.fail 3 h.1.p
 (u,dealE h.2 p.2.1,p.2.2)
def noBatch:Batch:=⟨0,0,[]⟩
def Rs.batch(B:List UInt8)(blk:Rs→Rs × List UInt8 × Bool)(s:Rs):Rs × Batch × Bool:=
 let f:=s.bfront B
 if f.1.k=0 then
  let u:=Rs.bblock blk (Rs.heads B f.2.2.2 f.1 (f.2.2.1:Int) 1048576 [])
  if u.1.k=0 then (u.1,⟨(f.2.1:Int),(f.2.2.1:Int),u.2.1⟩,u.2.2) else (u.1,noBatch,false)
 else (f.1,noBatch,false)
def blkS(B:List UInt8)(s:Rs):Rs × List UInt8 × Bool:=((Rs.strict (s.loose B 1048576)).1,(Rs.strict (s.loose B 1048576)).2,true)
def blkL(B:List UInt8)(s:Rs):Rs × List UInt8 × Bool:=s.loose B 1048576
theorem Rs.falls_put{B rest:List UInt8}:∀(l:List Int) (below:Int) (p:Nat) (out:List Int),fallsB below l=true→(∀x∈l,0≤x)→below≤18446744073709551615→B.drop p=numsB (stepsL below l)++rest→p≤B.length→
  Rs.falls B l.length ⟨p,0,0⟩ below out=(⟨p+(numsB (stepsL below l)).length,0,0⟩,out++l)
 | [],below,p,out,_,_,_,_,_=>by simp[Rs.falls,stepsL,numsB]
 | x::l,below,p,out,hf,hx,hb,h,hp=>by
  simp only[fallsB,Bool.and_eq_true,decide_eq_true_eq] at hf
  have h0:=hx x (by simp)
  simp only[stepsL] at h ⊢
  rw[numsB_cons,List.append_assoc] at h
  have hn:(below-x-1).toNat<18446744073709551616:=by omega
  have hN:=Rs.num_varB hn h
  have hd:=drop_more h
  have hr:=drop_room h hp
  simp only[List.length_cons,Rs.falls]
  rw[hN]
  dsimp only
  rw[if_pos rfl,toNat_cast (by omega),if_neg (by omega),show below-(below-x-1)-1=x by omega,Rs.falls_put l x _ _ hf.2 (fun y hy=>hx y (by simp[hy])) (by omega) hd (by omega),numsB_cons,List.length_append]
  simp[Nat.add_assoc]
theorem Rs.delta_put{B rest:List UInt8}{l:List Int}{pos:Int}{p:Nat}{most:Int}(hf:fallsB pos l=true)(hx:∀x∈l,0≤x)(hb:pos≤18446744073709551615)(h:B.drop p=deltaB pos l++rest)(hp:p≤B.length)(hm:(l.length:Int)≤most)(hl:l.length<18446744073709551616):
  (⟨p,0,0⟩:Rs).delta B pos most=(⟨p+(deltaB pos l).length,0,0⟩,l):=by
 unfold deltaB at h ⊢
 rw[List.append_assoc] at h
 have hd:=drop_more h
 have hr:=drop_room h hp
 unfold Rs.delta
 rw[Rs.int_pre hl h hm]
 dsimp only
 rw[Rs.falls_put l pos _ _ hf hx hb hd (by omega)]
 simp[Nat.add_assoc]
theorem Rs.linksF_put{B rest:List UInt8}{pos:Int}(hpos:pos≤18446744073709551615):∀(l:List Link) (prev:Option Int) (p:Nat) (out:List Link),(∀x∈l,linkR pos x=true∧(0≤x.stream∧x.stream≤18446744073709551615)∧∀y∈x.backs,0≤y)→(∀q,prev=some q→0≤q∧risesB (q::l.map Link.stream)=true)→risesB (l.map Link.stream)=true→B.drop p=lnkF pos prev l++rest→p≤B.length→
  Rs.linksF B pos l.length ⟨p,0,0⟩ prev out=(⟨p+(lnkF pos prev l).length,0,0⟩,out++l)
 | [],prev,p,out,_,_,_,_,_=>by simp[Rs.linksF,lnkF]
 | x::l,prev,p,out,hx,hq,hri,h,hp=>by
  obtain⟨hr1,hs,hbk⟩:=hx x (by simp)
  simp only[linkR,Bool.and_eq_true,decide_eq_true_eq] at hr1
  have hnext:∀q,some x.stream=some q→0≤q∧risesB (q::l.map Link.stream)=true:=fun q e=>by
   simp only[Option.some.injEq] at e
   subst e
   exact⟨hs.1,hri⟩
  have hri2:risesB (l.map Link.stream)=true:=by
   simp only[List.map_cons] at hri
   cases hl:l.map Link.stream with
   | nil=>rfl
   | cons y r=>rw [hl] at hri;simp only[risesB,Bool.and_eq_true] at hri;exact hri.2
  have key:∃y:Int,0≤y∧y≤18446744073709551615∧lnkF pos prev (x::l)=varB y.toNat++(deltaB pos x.backs++lnkF pos (some x.stream) l)∧(B.drop p=varB y.toNat++((deltaB pos x.backs++lnkF pos (some x.stream) l)++rest)→(⟨p,0,0⟩:Rs).stream B prev=(⟨p+(varB y.toNat).length,0,0⟩,x.stream)):=by
   cases prev with
   | none=>
    refine⟨x.stream,hs.1,hs.2,by simp[lnkF],fun h=> ?_⟩
    unfold Rs.stream
    dsimp only
    rw[Rs.num_varB (by omega) h]
    dsimp only
    rw[toNat_cast hs.1]
   | some q=>
    obtain⟨h0,hq1⟩:=hq q rfl
    simp only[List.map_cons,risesB,Bool.and_eq_true,decide_eq_true_eq] at hq1
    refine⟨x.stream-q-1,by omega,by omega,by simp[lnkF],fun h=> ?_⟩
    unfold Rs.stream
    dsimp only
    rw[Rs.num_varB (by omega) h]
    dsimp only
    rw[toNat_cast (by omega),if_neg (by omega)]
    refine Prod.ext rfl ?_
    dsimp only
    omega
  obtain⟨y,hy0,hy1,he,hst⟩:=key
  rw[he] at h ⊢
  rw[List.append_assoc] at h
  have hS:=hst h
  have hd:=drop_more h
  have hr:=drop_room h hp
  rw[List.append_assoc] at hd
  have hD:=Rs.delta_put (most:=4) hr1.2 hbk hpos hd (by omega) (by omega) (by omega)
  have hd2:=drop_more hd
  have hr2:=drop_room hd (by omega)
  simp only[List.length_cons,Rs.linksF]
  rw[hS]
  dsimp only
  rw[hD]
  dsimp only
  rw[if_pos rfl,Rs.linksF_put hpos l (some x.stream) _ _ (fun z hz=>hx z (by simp[hz])) hnext hri2 hd2 (by omega)]
  simp[Nat.add_assoc]
theorem Rs.links_put{B rest:List UInt8}{pos:Int}{l:List Link}{p:Nat}(hpos:pos≤18446744073709551615)(hR:linksR pos l=true)(hx:∀x∈l,(0≤x.stream∧x.stream≤18446744073709551615)∧∀y∈x.backs,0≤y)(h:B.drop p=linksB pos l++rest)(hp:p≤B.length):
  (⟨p,0,0⟩:Rs).links B pos=(⟨p+(linksB pos l).length,0,0⟩,l):=by
 simp only[linksR,Bool.and_eq_true,decide_eq_true_eq,List.all_eq_true] at hR
 unfold linksB at h ⊢
 rw[List.append_assoc] at h
 have hd:=drop_more h
 have hr:=drop_room h hp
 unfold Rs.links
 rw[Rs.int_pre (by omega) h (by omega)]
 dsimp only
 rw[Rs.linksF_put hpos l none _ _ (fun x h=>⟨hR.2.2 x h,hx x h⟩) (fun q e=>by cases e) hR.2.1 hd (by omega)]
 simp[Nat.add_assoc]
theorem Rs.ehead_put{B rest:List UInt8}{pos most:Int}{e:Entry}{p:Nat}(hpos:pos≤18446744073709551615)(hR:entryR pos e=true)(hx:entryN e)(h:B.drop p=headB pos e++rest)(hp:p≤B.length)(hm:(e.data.length:Int)≤most):
  (⟨p,0,0⟩:Rs).ehead B pos most=(⟨p+(headB pos e).length,0,0⟩,e.links,e.data.length):=by
 simp only[entryR,Bool.and_eq_true,decide_eq_true_eq] at hR
 unfold headB at h ⊢
 rw[List.append_assoc] at h
 have hd:=drop_more h
 have hr:=drop_room h hp
 have hL:=Rs.links_put hpos hR.1 hx h hp
 unfold Rs.ehead
 rw[hL]
 dsimp only
 rw[Rs.int_pre (by omega) hd hm]
 dsimp only
 rw[if_pos rfl]
 simp[Nat.add_assoc]
def headsOf(l:List Entry):List (List Link × Nat):=l.map fun e=>(e.links,e.data.length)
theorem Rs.heads_put{B rest:List UInt8}:∀(l:List Entry) (pos left:Int) (p:Nat) (out:List (List Link × Nat)),entriesR pos l=true→(∀e∈l,entryN e)→pos+l.length≤18446744073709551615→(total l:Int)≤left→B.drop p=headsB pos l++rest→p≤B.length→
  Rs.heads B l.length ⟨p,0,0⟩ pos left out=(⟨p+(headsB pos l).length,0,0⟩,out++headsOf l)
 | [],pos,left,p,out,_,_,_,_,_,_=>by simp[Rs.heads,headsB,headsOf]
 | e::l,pos,left,p,out,hR,hx,hpos,hlt,h,hp=>by
  simp only[entriesR,Bool.and_eq_true] at hR
  simp only[List.length_cons] at hpos
  have ht:total (e::l)=e.data.length+total l:=by simp[total]
  rw[ht] at hlt
  simp only[headsB] at h ⊢
  rw[List.append_assoc] at h
  have hd:=drop_more h
  have hr:=drop_room h hp
  have hE:=Rs.ehead_put (most:=left) (by omega) hR.1 (hx e (by simp)) h hp (by omega)
  simp only[List.length_cons,Rs.heads]
  rw[hE]
  dsimp only
  rw[if_pos rfl,Rs.heads_put l (pos+1) _ _ _ hR.2 (fun z hz=>hx z (by simp[hz])) (by omega) (by omega) hd (by omega)]
  simp[headsOf,Nat.add_assoc]
theorem sizesN_of(l:List Entry):sizesN (headsOf l)=total l:=by
 simp[sizesN,headsOf,total,List.map_map,Function.comp_def]
theorem dealE_of:∀(l:List Entry),dealE (headsOf l) (joined l)=l
 | []=>rfl
 | e::l=>by
  have:=dealE_of l
  simp only[headsOf,List.map_cons,dealE,joined,List.flatMap_cons] at this ⊢
  rw[List.take_left,List.drop_left,this]
theorem Rs.batch_put{B rest:List UInt8}{b:Batch}{p:Nat}{blk:Rs→Rs × List UInt8 × Bool}(hR:batchR b=true)(hN:batchN b)(h:B.drop p=batchB b++rest)(hp:p≤B.length)
  (hblk:∀q,q≤B.length→B.drop q=blockB (joined b.entries)++rest→blk ⟨q,0,0⟩=(⟨q+(blockB (joined b.entries)).length,0,0⟩,joined b.entries,true)):
  Rs.batch B blk ⟨p,0,0⟩=(⟨p+(batchB b).length,0,0⟩,b,true):=by
 obtain⟨⟨e0,e1⟩,⟨b0,b1⟩,hen⟩:=hN
 simp only[batchR,Bool.and_eq_true,decide_eq_true_eq] at hR
 obtain⟨hep,hfit,htot,hent⟩:=hR
 have hfit':=hfit
 simp only[fitsR,decide_eq_true_eq] at hfit'
 unfold batchB aheadB at h
 simp only[List.append_assoc] at h
 have hd1:=drop_more h
 have hr1:=drop_room h hp
 have hd2:=drop_more hd1
 have hr2:=drop_room hd1 (by omega)
 have hd3:=drop_more hd2
 have hr3:=drop_room hd2 (by omega)
 have hd4:=drop_more hd3
 have hr4:=drop_room hd3 (by omega)
 have hE:(⟨p,0,0⟩:Rs).ep B=(⟨p+(varB b.epoch.toNat).length,0,0⟩,b.epoch.toNat):=by
  unfold Rs.ep
  rw[Rs.num_varB (by omega) h]
  dsimp only
  rw[if_pos rfl,toNat_cast e0,if_pos hep]
 have hP:(⟨p+(varB b.epoch.toNat).length,0,0⟩:Rs).po B=(⟨p+(varB b.epoch.toNat).length+(varB b.base.toNat).length,0,0⟩,b.base.toNat):=by
  unfold Rs.po
  rw[Rs.num_varB (by omega) hd1]
  dsimp only
  rw[if_pos rfl,toNat_cast b0,if_pos (by unfold poR;exact decide_eq_true (by omega))]
 have hI:=Rs.int_pre (m:=16) (by omega) hd2 (by omega)
 have hF:(⟨p,0,0⟩:Rs).bfront B=(⟨p+(varB b.epoch.toNat).length+(varB b.base.toNat).length+(varB b.entries.length).length,0,0⟩,b.epoch.toNat,b.base.toNat,b.entries.length):=by
  unfold Rs.bfront
  rw[hE]
  dsimp only
  rw[hP]
  dsimp only
  rw[hI]
  dsimp only
  rw[toNat_cast b0,if_pos hfit]
 have hH:=Rs.heads_put b.entries b.base 1048576 _ [] hent hen (by omega) (by omega) hd3 (by omega)
 have hBk:=hblk _ (by omega) hd4
 have hsz:sizesN (headsOf b.entries)=(joined b.entries).length:=by rw[sizesN_of,joined_length]
 generalize hq:p+(varB b.epoch.toNat).length+(varB b.base.toNat).length+(varB b.entries.length).length+(headsB b.base b.entries).length=q at*
 have hBB:Rs.bblock blk (⟨q,0,0⟩,headsOf b.entries)=(⟨q+(blockB (joined b.entries)).length,0,0⟩,b.entries,true):=by
  unfold Rs.bblock
  dsimp only
  rw[hBk]
  dsimp only
  rw[if_pos hsz,dealE_of]
 unfold Rs.batch
 dsimp only
 rw[hF]
 dsimp only
 rw[if_pos rfl,toNat_cast b0,toNat_cast e0,hH,List.nil_append,hBB]
 dsimp only
 rw[if_pos rfl,←hq]
 simp only[batchB,aheadB,List.length_append,Nat.add_assoc]
theorem ofNat_byte{c:UInt8}{n:Nat}(h:n=c.toNat):UInt8.ofNat n=c:=by
 subst h
 exact UInt8.ofNat_toNat
theorem vget_canon:∀(l:List UInt8) (i x v u:Nat),i≤9→vget i x l=(v,u,0)→∃y,v=x+y*128^i∧(0<i→0<y)∧l.take (u-i)=varF (9-i) y∧i<u∧u-i≤l.length
 | [],i,x,v,u,_,h=>by simp[vget] at h
 | c::l,i,x,v,u,hi,h=>by
  have hc:=c.toNat_lt
  unfold vget at h
  by_cases h1:i=9∧1<c.toNat
  ·rw[if_pos h1] at h;simp at h
  ·rw[if_neg h1] at h
   by_cases h2:0<i∧c.toNat=0
   ·rw[if_pos h2] at h;simp at h
   ·rw[if_neg h2] at h
    by_cases h3:c.toNat<128
    ·rw[if_pos h3] at h
     simp only[Prod.mk.injEq,and_true] at h
     obtain⟨rfl,rfl⟩:=h
     refine⟨c.toNat,rfl,fun h=>by omega,?_,by omega,by rw[List.length_cons];omega⟩
     rw[show i+1-i=1 by omega,List.take_succ_cons,List.take_zero]
     obtain⟨f,hf⟩:∃f,f=9-i:=⟨_,rfl⟩
     rw[←hf]
     cases f with
     | zero=>simp only[varF];rw[ofNat_byte rfl]
     | succ f=>simp only[varF];rw[if_pos h3,ofNat_byte rfl]
    ·rw[if_neg h3] at h
     have hi9:i<9:=by
      rcases Nat.lt_or_ge i 9 with h | h
      ·exact h
      ·exact absurd ⟨by omega,by omega⟩ h1
     obtain⟨y,hv,hy,ht,hu,hlu⟩:=vget_canon l (i+1) _ v u (by omega) h
     have hy0:=hy (by omega)
     refine⟨c.toNat%128+128*y,?_,fun _=>by omega,?_,by omega,by rw[List.length_cons];omega⟩
     ·rw[hv,Nat.pow_succ,Nat.add_mul]
      generalize 128^i=k
      rw[Nat.mul_comm k 128,←Nat.mul_assoc y 128 k,Nat.mul_comm y 128]
      omega
     ·rw[show u-i=(u-(i+1))+1 by omega,List.take_succ_cons,ht,show 9-i=(9-(i+1))+1 by omega]
      simp only[varF]
      rw[if_neg (by omega),ofNat_byte (c:=c) (by omega),show (c.toNat%128+128*y)/128=y by omega]
theorem Rs.num_canon{B:List UInt8}{s:Rs}(hs:s.ok B.length)(h:(s.num B).1.k=0):B.drop s.p=varB (s.num B).2++B.drop (s.num B).1.p∧(s.num B).1.f=0:=by
 have hm:=Rs.num_more h
 have hle:=hs.le
 unfold Rs.num at*
 rw[if_pos hm.2] at*
 dsimp only at h ⊢
 obtain⟨y,hv,_,ht,hu,hlu⟩:=vget_canon (B.drop s.p) 0 0 _ _ (by omega) (show vget 0 0 (B.drop s.p)=((vget 0 0 (B.drop s.p)).1,(vget 0 0 (B.drop s.p)).2.1,0) from by rw[←h])
 simp only[Nat.pow_zero,Nat.mul_one,Nat.zero_add,Nat.sub_zero] at hv ht
 refine⟨?_,by rw[if_pos h]⟩
 have:varB (vget 0 0 (B.drop s.p)).1=(B.drop s.p).take (vget 0 0 (B.drop s.p)).2.1:=by rw[ht,hv];rfl
 rw[this,←List.drop_drop,List.take_append_drop]
theorem Rs.int_canon{B:List UInt8}{s:Rs}{m:Int}(hs:s.ok B.length)(h:(s.int B m).1.k=0):B.drop s.p=varB (s.int B m).2++B.drop (s.int B m).1.p∧((s.int B m).2:Int)≤m∧s.k=0:=by
 unfold Rs.int Rs.most at*
 by_cases h0:0≤m
 ·rw[if_pos h0] at h ⊢
  by_cases h1:m.toNat<(s.num B).2
  ·rw[if_pos h1] at h;exact absurd h (Rs.fail_k (by omega))
  ·rw[if_neg h1] at h ⊢
   exact⟨(Rs.num_canon hs h).1,by omega,(Rs.num_more h).2⟩
 ·rw[if_neg h0] at h;exact absurd h (Rs.fail_k (by omega))
theorem Rs.falls_ok{B:List UInt8}:∀(n:Nat) (s:Rs) (below:Int) (out:List Int),s.ok B.length→(Rs.falls B n s below out).1.ok B.length
 | 0,s,below,out,h=>h
 | n+1,s,below,out,h=>by
  simp only[Rs.falls]
  split
  ·split
   ·exact Rs.fail_ok (Rs.num_ok h) (by omega)
   ·exact Rs.falls_ok n _ _ _ (Rs.num_ok h)
  ·exact Rs.num_ok h
theorem Rs.delta_ok{B:List UInt8}{s:Rs}{below most:Int}(h:s.ok B.length):(s.delta B below most).1.ok B.length:=Rs.falls_ok _ _ _ _ (Rs.int_ok h)
theorem Rs.stream_ok{B:List UInt8}{s:Rs}{prev:Option Int}(h:s.ok B.length):(s.stream B prev).1.ok B.length:=by
 unfold Rs.stream
 cases prev with
 | none=>exact Rs.num_ok h
 | some q=>
  dsimp only
  split
  ·exact Rs.fail_ok (Rs.num_ok h) (by omega)
  ·exact Rs.num_ok h
theorem Rs.linksF_ok{B:List UInt8}{pos:Int}:∀(n:Nat) (s:Rs) (prev:Option Int) (out:List Link),s.ok B.length→(Rs.linksF B pos n s prev out).1.ok B.length
 | 0,s,prev,out,h=>h
 | n+1,s,prev,out,h=>by
  simp only[Rs.linksF]
  split
  ·exact Rs.linksF_ok n _ _ _ (Rs.delta_ok (Rs.stream_ok h))
  ·exact Rs.delta_ok (Rs.stream_ok h)
theorem Rs.links_ok{B:List UInt8}{s:Rs}{pos:Int}(h:s.ok B.length):(s.links B pos).1.ok B.length:=Rs.linksF_ok _ _ _ _ (Rs.int_ok h)
theorem Rs.ehead_ok{B:List UInt8}{s:Rs}{pos most:Int}(h:s.ok B.length):(s.ehead B pos most).1.ok B.length:=by
 unfold Rs.ehead
 split
 ·exact Rs.int_ok (Rs.links_ok h)
 ·exact Rs.int_ok (Rs.links_ok h)
theorem Rs.heads_ok{B:List UInt8}:∀(n:Nat) (s:Rs) (pos left:Int) (out:List (List Link × Nat)),s.ok B.length→(Rs.heads B n s pos left out).1.ok B.length
 | 0,s,pos,left,out,h=>h
 | n+1,s,pos,left,out,h=>by
  simp only[Rs.heads]
  split
  ·exact Rs.heads_ok n _ _ _ _ (Rs.ehead_ok h)
  ·exact Rs.ehead_ok h
theorem Rs.ep_ok{B:List UInt8}{s:Rs}(h:s.ok B.length):(s.ep B).1.ok B.length:=by
 unfold Rs.ep
 split
 ·split
  ·exact Rs.num_ok h
  ·exact Rs.fail_ok (Rs.num_ok h) (by omega)
 ·exact Rs.num_ok h
theorem Rs.po_ok{B:List UInt8}{s:Rs}(h:s.ok B.length):(s.po B).1.ok B.length:=by
 unfold Rs.po
 split
 ·split
  ·exact Rs.num_ok h
  ·exact Rs.fail_ok (Rs.num_ok h) (by omega)
 ·exact Rs.num_ok h
theorem Rs.bfront_ok{B:List UInt8}{s:Rs}(h:s.ok B.length):(s.bfront B).1.ok B.length:=by
 unfold Rs.bfront
 dsimp only
 split
 ·exact Rs.int_ok (Rs.po_ok (Rs.ep_ok h))
 ·exact Rs.fail_ok (Rs.int_ok (Rs.po_ok (Rs.ep_ok h))) (by omega)
theorem Rs.falls_canon{B:List UInt8}:∀(n:Nat) (s:Rs) (below:Int) (out:List Int),s.ok B.length→below≤18446744073709551615→(Rs.falls B n s below out).1.k=0→
  ∃l:List Int,(Rs.falls B n s below out).2=out++l∧l.length=n∧fallsB below l=true∧(∀x∈l,0≤x)∧B.drop s.p=numsB (stepsL below l)++B.drop (Rs.falls B n s below out).1.p∧s.k=0
 | 0,s,below,out,hs,_,h=>⟨[],by simp[Rs.falls],rfl,rfl,by simp,by simp[Rs.falls,stepsL,numsB],h⟩
 | n+1,s,below,out,hs,hb,h=>by
  simp only[Rs.falls] at h ⊢
  by_cases h1:(s.num B).1.k=0
  ·rw[if_pos h1] at h ⊢
   by_cases h2:below≤((s.num B).2:Int)
   ·rw[if_pos h2] at h;exact absurd h (Rs.fail_k (by omega))
   ·rw[if_neg h2] at h ⊢
    obtain⟨l,e1,e2,e3,e4,e5,_⟩:=Rs.falls_canon n _ _ _ (Rs.num_ok hs) (by omega) h
    have hc:=(Rs.num_canon hs h1).1
    refine⟨(below-(s.num B).2-1)::l,?_,by simp[e2],?_,?_,?_,(Rs.num_more h1).2⟩
    ·rw[e1];simp
    ·simp only[fallsB];rw[e3,Bool.and_true];exact decide_eq_true (by omega)
    ·intro x hx
     rcases List.mem_cons.1 hx with rfl | hx
     ·omega
     ·exact e4 x hx
    ·simp only[stepsL]
     rw[numsB_cons,List.append_assoc,←e5,show (below-(below-((s.num B).2:Int)-1)-1).toNat=(s.num B).2 by omega]
     exact hc
  ·rw[if_neg h1] at h;exact absurd h h1
theorem Rs.delta_canon{B:List UInt8}{s:Rs}{below most:Int}(hs:s.ok B.length)(hb:below≤18446744073709551615)(h:(s.delta B below most).1.k=0):
  fallsB below (s.delta B below most).2=true∧((s.delta B below most).2.length:Int)≤most∧(∀x∈(s.delta B below most).2,0≤x)∧B.drop s.p=deltaB below (s.delta B below most).2++B.drop (s.delta B below most).1.p∧s.k=0:=by
 unfold Rs.delta at*
 obtain⟨l,e1,e2,e3,e4,e5,e6⟩:=Rs.falls_canon _ _ _ _ (Rs.int_ok hs) hb h
 have hi:=Rs.int_canon hs e6
 rw[List.nil_append] at e1
 rw[e1]
 refine⟨e3,by rw[e2];exact hi.2.1,e4,?_,hi.2.2⟩
 unfold deltaB
 rw[List.append_assoc,←e5,e2]
 exact hi.1
theorem Rs.stream_canon{B:List UInt8}{s:Rs}{prev:Option Int}(hs:s.ok B.length)(hp:∀q,prev=some q→0≤q∧q≤18446744073709551615)(h:(s.stream B prev).1.k=0):
  (0≤(s.stream B prev).2∧(s.stream B prev).2≤18446744073709551615)∧(∀q,prev=some q→q<(s.stream B prev).2)∧B.drop s.p=varB (match prev with | none=>(s.stream B prev).2 | some q=>(s.stream B prev).2-q-1).toNat++B.drop (s.stream B prev).1.p∧s.k=0:=by
 have hsm:=Rs.num_small (B:=B) (s:=s)
 unfold Rs.stream at*
 cases prev with
 | none=>
  dsimp only at h ⊢
  have hc:=(Rs.num_canon hs h).1
  exact⟨⟨by omega,by omega⟩,fun q e=>(by cases e),by rw[Int.toNat_natCast];exact hc,(Rs.num_more h).2⟩
 | some q=>
  have hq:=hp q rfl
  dsimp only at h ⊢
  by_cases h1:18446744073709551615-q≤((s.num B).2:Int)
  ·rw[if_pos h1] at h;exact absurd h (Rs.fail_k (by omega))
  ·rw[if_neg h1] at h ⊢
   have hc:=(Rs.num_canon hs h).1
   refine⟨⟨by omega,by omega⟩,fun q' e=> ?_,?_,(Rs.num_more h).2⟩
   ·simp only[Option.some.injEq] at e;omega
   ·rw[show (((s.num B).2:Int)+q+1-q-1).toNat=(s.num B).2 by omega]
    exact hc
theorem Rs.linksF_canon{B:List UInt8}{pos:Int}(hpos:pos≤18446744073709551615):∀(n:Nat) (s:Rs) (prev:Option Int) (out:List Link),s.ok B.length→(∀q,prev=some q→0≤q∧q≤18446744073709551615)→(Rs.linksF B pos n s prev out).1.k=0→
  ∃l:List Link,(Rs.linksF B pos n s prev out).2=out++l∧l.length=n∧risesB (l.map Link.stream)=true∧(∀q,prev=some q→risesB (q::l.map Link.stream)=true)∧(∀x∈l,linkR pos x=true∧linkN x)∧B.drop s.p=lnkF pos prev l++B.drop (Rs.linksF B pos n s prev out).1.p∧s.k=0
 | 0,s,prev,out,hs,_,h=>⟨[],by simp[Rs.linksF],rfl,rfl,fun q _=>rfl,by simp,by simp[Rs.linksF,lnkF],h⟩
 | n+1,s,prev,out,hs,hp,h=>by
  simp only[Rs.linksF] at h ⊢
  by_cases h1:((s.stream B prev).1.delta B pos 4).1.k=0
  ·rw[if_pos h1] at h ⊢
   obtain⟨d1,d2,d3,d4,d5⟩:=Rs.delta_canon (Rs.stream_ok hs) hpos h1
   obtain⟨s1,s2,s3,s4⟩:=Rs.stream_canon hs hp d5
   obtain⟨l,e1,e2,e3,e4,e5,e6,_⟩:=Rs.linksF_canon hpos n _ _ _ (Rs.delta_ok (Rs.stream_ok hs)) (fun q e=>by simp only[Option.some.injEq] at e;subst e;exact s1) h
   refine⟨⟨(s.stream B prev).2,((s.stream B prev).1.delta B pos 4).2⟩::l,?_,by simp[e2],?_,?_,?_,?_,s4⟩
   ·rw[e1];simp
   ·exact e4 _ rfl
   ·intro q hq
    have:=e4 _ rfl
    simp only[List.map_cons,risesB]
    rw[Bool.and_eq_true]
    exact⟨decide_eq_true (s2 q hq),this⟩
   ·intro x hx
    rcases List.mem_cons.1 hx with rfl | hx
    ·refine⟨?_,s1,d3⟩
     simp only[linkR,Bool.and_eq_true,decide_eq_true_eq]
     exact⟨by omega,d1⟩
    ·exact e5 x hx
   ·rw[s3,d4,e6]
    cases prev<;>simp only[lnkF,List.append_assoc]
  ·rw[if_neg h1] at h;exact absurd h h1
theorem Rs.links_canon{B:List UInt8}{s:Rs}{pos:Int}(hs:s.ok B.length)(hpos:pos≤18446744073709551615)(h:(s.links B pos).1.k=0):
  linksR pos (s.links B pos).2=true∧(∀x∈(s.links B pos).2,linkN x)∧B.drop s.p=linksB pos (s.links B pos).2++B.drop (s.links B pos).1.p∧s.k=0:=by
 unfold Rs.links at*
 obtain⟨l,e1,e2,e3,_,e5,e6,e7⟩:=Rs.linksF_canon hpos _ _ _ _ (Rs.int_ok hs) (fun q e=>by cases e) h
 have hi:=Rs.int_canon hs e7
 rw[List.nil_append] at e1
 rw[e1]
 refine⟨?_,fun x hx=>(e5 x hx).2,?_,hi.2.2⟩
 ·simp only[linksR,Bool.and_eq_true,decide_eq_true_eq,List.all_eq_true]
  exact⟨by omega,e3,fun x hx=>(e5 x hx).1⟩
 ·unfold linksB
  rw[List.append_assoc,←e6,e2]
  exact hi.1
theorem Rs.ehead_canon{B:List UInt8}{s:Rs}{pos most:Int}(hs:s.ok B.length)(hpos:pos≤18446744073709551615)(hmo:most≤1048576)(h:(s.ehead B pos most).1.k=0):
  linksR pos (s.ehead B pos most).2.1=true∧(∀x∈(s.ehead B pos most).2.1,linkN x)∧((s.ehead B pos most).2.2:Int)≤most∧B.drop s.p=linksB pos (s.ehead B pos most).2.1++(varB (s.ehead B pos most).2.2++B.drop (s.ehead B pos most).1.p)∧s.k=0:=by
 unfold Rs.ehead at*
 by_cases h1:((s.links B pos).1.int B most).1.k=0
 ·rw[if_pos h1] at h ⊢
  have hi:=Rs.int_canon (Rs.links_ok hs) h1
  have hl:=Rs.links_canon hs hpos hi.2.2
  dsimp only
  exact⟨hl.1,hl.2.1,hi.2.1,by rw[←hi.1];exact hl.2.2.1,hl.2.2.2⟩
 ·rw[if_neg h1] at h;exact absurd h h1
theorem Rs.heads_canon{B:List UInt8}:∀(n:Nat) (s:Rs) (pos left:Int) (out:List (List Link × Nat)),s.ok B.length→pos+n≤18446744073709551615→left≤1048576→(Rs.heads B n s pos left out).1.k=0→
  ∃l:List (List Link × Nat),(Rs.heads B n s pos left out).2=out++l∧l.length=n∧((sizesN l:Int)≤left∨l=[])∧(∀D:List UInt8,D.length=sizesN l→entriesR pos (dealE l D)=true∧(∀e∈dealE l D,entryN e)∧B.drop s.p=headsB pos (dealE l D)++B.drop (Rs.heads B n s pos left out).1.p∧joined (dealE l D)=D∧(dealE l D).length=n)∧s.k=0
 | 0,s,pos,left,out,hs,_,_,h=>⟨[],by simp[Rs.heads],rfl,.inr rfl,fun D hD=>by
   have:D=[]:=List.eq_nil_of_length_eq_zero (by simpa [sizesN] using hD)
   subst this
   exact⟨rfl,by simp[dealE],by simp[Rs.heads,dealE,headsB],rfl,rfl⟩,h⟩
 | n+1,s,pos,left,out,hs,hpos,hle,h=>by
  simp only[Rs.heads] at h ⊢
  by_cases h1:(s.ehead B pos left).1.k=0
  ·rw[if_pos h1] at h ⊢
   obtain⟨c1,c2,c3,c4,c5⟩:=Rs.ehead_canon hs (by omega) hle h1
   obtain⟨l,e1,e2,e3,e4,_⟩:=Rs.heads_canon n _ _ _ _ (Rs.ehead_ok hs) (by omega) (by omega) h
   refine⟨(s.ehead B pos left).2::l,?_,by simp[e2],?_,?_,c5⟩
   ·rw[e1];simp
   ·left
    simp only[sizesN,List.map_cons,List.sum_cons]
    rcases e3 with e3 | e3
    ·unfold sizesN at e3;omega
    ·rw[e3];simp;omega
   ·intro D hD
    simp only[sizesN,List.map_cons,List.sum_cons] at hD
    obtain⟨f1,f2,f3,f4,f5⟩:=e4 (D.drop (s.ehead B pos left).2.2) (by simp[sizesN];omega)
    have htl:(D.take (s.ehead B pos left).2.2).length=(s.ehead B pos left).2.2:=by simp;omega
    generalize (s.ehead B pos left).2=E at*
    obtain⟨L,m⟩:=E
    dsimp only at*
    simp only[dealE]
    refine⟨?_,?_,?_,?_,by simp[f5]⟩
    ·simp only[entriesR,entryR,Bool.and_eq_true,decide_eq_true_eq]
     exact⟨⟨c1,by rw[htl];omega⟩,f1⟩
    ·intro e he
     rcases List.mem_cons.1 he with rfl | he
     ·exact c2
     ·exact f2 e he
    ·simp only[headsB,headB]
     rw[htl,List.append_assoc,List.append_assoc,←f3]
     exact c4
    ·simp only[joined,List.flatMap_cons] at f4 ⊢
     rw[f4,List.take_append_drop]
  ·rw[if_neg h1] at h;exact absurd h h1
theorem Rs.ep_canon{B:List UInt8}{s:Rs}(hs:s.ok B.length)(h:(s.ep B).1.k=0):epR ((s.ep B).2:Int)=true∧B.drop s.p=varB (s.ep B).2++B.drop (s.ep B).1.p∧s.k=0:=by
 unfold Rs.ep at*
 by_cases h1:(s.num B).1.k=0
 ·rw[if_pos h1] at h ⊢
  by_cases h2:epR ((s.num B).2:Int)=true
  ·rw[if_pos h2];exact⟨h2,(Rs.num_canon hs h1).1,(Rs.num_more h1).2⟩
  ·rw[if_neg h2] at h;exact absurd h (Rs.fail_k (by omega))
 ·rw[if_neg h1] at h;exact absurd h h1
theorem Rs.po_canon{B:List UInt8}{s:Rs}(hs:s.ok B.length)(h:(s.po B).1.k=0):poR ((s.po B).2:Int)=true∧B.drop s.p=varB (s.po B).2++B.drop (s.po B).1.p∧s.k=0:=by
 unfold Rs.po at*
 by_cases h1:(s.num B).1.k=0
 ·rw[if_pos h1] at h ⊢
  by_cases h2:poR ((s.num B).2:Int)=true
  ·rw[if_pos h2];exact⟨h2,(Rs.num_canon hs h1).1,(Rs.num_more h1).2⟩
  ·rw[if_neg h2] at h;exact absurd h (Rs.fail_k (by omega))
 ·rw[if_neg h1] at h;exact absurd h h1
theorem Rs.bfront_canon{B:List UInt8}{s:Rs}(hs:s.ok B.length)(h:(s.bfront B).1.k=0):epR ((s.bfront B).2.1:Int)=true∧fitsR ((s.bfront B).2.2.1:Int) (s.bfront B).2.2.2=true∧B.drop s.p=varB (s.bfront B).2.1++(varB (s.bfront B).2.2.1++(varB (s.bfront B).2.2.2++B.drop (s.bfront B).1.p))∧s.k=0:=by
 unfold Rs.bfront at*
 dsimp only at h ⊢
 by_cases h1:fitsR (((s.ep B).1.po B).2:Int) (((s.ep B).1.po B).1.int B 16).2=true
 ·rw[if_pos h1] at h ⊢
  have hi:=Rs.int_canon (Rs.po_ok (Rs.ep_ok hs)) h
  have hp:=Rs.po_canon (Rs.ep_ok hs) hi.2.2
  have he:=Rs.ep_canon hs hp.2.2
  exact⟨he.1,h1,by rw[←hi.1,←hp.2.1];exact he.2.1,he.2.2⟩
 ·rw[if_neg h1] at h;exact absurd h (Rs.fail_k (by omega))
theorem Rs.batch_canon{B:List UInt8}{s:Rs}{blk:Rs→Rs × List UInt8 × Bool}(hs:s.ok B.length)(h:(Rs.batch B blk s).1.k=0)(hblk:∀t:Rs,(blk t).1.k=0→t.k=0)(hlen:∀t,(blk t).2.1.length≤1048576):
  batchR (Rs.batch B blk s).2.1=true∧batchN (Rs.batch B blk s).2.1∧∃t:Rs,t.ok B.length∧B.drop s.p=aheadB (Rs.batch B blk s).2.1++B.drop t.p∧(Rs.batch B blk s).1=(blk t).1∧joined (Rs.batch B blk s).2.1.entries=(blk t).2.1∧(Rs.batch B blk s).2.2=(blk t).2.2∧t.k=0:=by
 unfold Rs.batch at*
 dsimp only at h ⊢
 by_cases h1:(s.bfront B).1.k=0
 ·rw[if_pos h1] at h ⊢
  generalize hH:Rs.heads B (s.bfront B).2.2.2 (s.bfront B).1 ((s.bfront B).2.2.1:Int) 1048576 []=H at*
  by_cases h2:(Rs.bblock blk H).1.k=0
  ·rw[if_pos h2]
   unfold Rs.bblock at h2 ⊢
   dsimp only at h2 ⊢
   by_cases h3:sizesN H.2=(blk H.1).2.1.length
   ·rw[if_pos h3] at h2 ⊢
    have hHk:=hblk _ h2
    have hf:=Rs.bfront_canon hs h1
    have hfit:=hf.2.1
    simp only[fitsR,decide_eq_true_eq] at hfit
    obtain⟨l,e1,e2,_,e4,_⟩:=Rs.heads_canon (s.bfront B).2.2.2 (s.bfront B).1 ((s.bfront B).2.2.1:Int) 1048576 [] (Rs.bfront_ok hs) (by omega) (by omega) (by rw[hH];exact hHk)
    rw[hH,List.nil_append] at e1
    obtain⟨f1,f2,f3,f4,f5⟩:=e4 (blk H.1).2.1 (by rw[←h3,e1])
    rw[hH] at f3
    rw[e1]
    have hep:=hf.1
    simp only[epR,decide_eq_true_eq] at hep
    refine⟨?_,⟨⟨by dsimp only;omega,by dsimp only;omega⟩,⟨by dsimp only;omega,by dsimp only;omega⟩,f2⟩,H.1,?_,?_,rfl,f4,rfl,hHk⟩
    ·simp only[batchR,Bool.and_eq_true,decide_eq_true_eq]
     refine⟨hf.1,by rw[f5];exact hf.2.1,?_,f1⟩
     rw[←joined_length,f4]
     exact hlen _
    ·rw[←hH];exact Rs.heads_ok _ _ _ _ _ (Rs.bfront_ok hs)
    ·unfold aheadB
     dsimp only
     rw[Int.toNat_natCast,Int.toNat_natCast,f5,List.append_assoc,List.append_assoc,List.append_assoc,←f3]
     exact hf.2.2.1
   ·rw[if_neg h3] at h2;exact absurd h2 (Rs.fail_k (by omega))
  ·rw[if_neg h2] at h;exact absurd h h2
 ·rw[if_neg h1] at h;exact absurd h h1
structure RdInv(w W:World)(g:Nat)(B:List UInt8)(a:Option Addr)(s:Rs):Prop where
 rd:RdAt W g B a s
 dat:rBytes.r (fun q=>q<w.heap.size∧q≠g) W [.slice a B.length B.length] B
 tch:Tch (·=g) w W
 lt:g<w.heap.size
section
variable {w W W':World} {g:Nat} {B:List UInt8} {a:Option Addr} {s s':Rs}
theorem RdInv.refl(h:RdAt w g B a s):RdInv w w g B a s:=⟨h,h.dat,Tch.refl _ _,h.blk.lt⟩
theorem RdInv.step(h:RdInv w W g B a s)(k:RdStep W g B a s' W'):RdInv w W' g B a s':=
 ⟨k.1,rBytes.keep h.dat fun q hq=>k.2.block q (Nat.lt_of_lt_of_le hq.1 h.tch.size) hq.2,h.tch.trans k.2 fun _ _ h=>h,h.lt⟩
theorem RdInv.row(h:RdInv w W g B a s)(hb:Below w.heap.size W W'):RdInv w W' g B a s:=by
 have hd:=rBytes.keep h.dat (w':=W') fun q hq=>hb.block q hq.1
 have hs:=h.tch.size
 have hs2:=hb.size
 exact⟨⟨h.rd.blk.below hb h.lt,rBytes.mono hd fun q hq=>⟨by omega,hq.2⟩,h.rd.ok⟩,hd,h.tch.trans (Tch.of_below hb) (fun b hb hle=>by omega),h.lt⟩
theorem RdInv.to(h:RdInv w W g B a s):RdStep w g B a s W:=⟨h.rd,h.tch⟩
theorem own_tch2{base:Nat}{e:TypeId}{size:Nat}{v:Value}{n:Nat}{xs:List Value}(h:W.ownsRow base e size v n xs)(hg:g<base)(hb:Tch (·=g) W W'):W'.ownsRow base e size v n xs:=by
 refine⟨h.1,?_⟩
 rcases h.2 with h0 | ⟨g',cap,cur,h1,h2,h3,h4⟩
 ·exact .inl h0
 ·exact .inr ⟨g',cap,cur,h1,h2,(hb.block _ (Blk.lt h3) (by omega)).trans h3,h4⟩
end
theorem delta_read(w:World){g:Nat}{B:List UInt8}{a:Option Addr}{s:Rs}(h:RdAt w g B a s)(hB:B.length≤1000000000)(below:Int)(hbl:0≤below∧below≤18446744073709551615)(most:Int)(hmo:0≤most∧most≤1000):
  Calls Tryz.prog 369 #[.pointer (some ⟨g,0,none⟩),.int .u64 below,.int .i64 most] w fun r w'=>∃v,r=.returned v∧rU64s.r (fun q=>w.heap.size≤q∧q<w'.heap.size) w' [v] (s.delta B below most).2∧RdStep w g B a (s.delta B below most).1 w':=by
 obtain⟨i0,hi,hz0,hz1,hz2⟩:=info_parts infoU
 have HI:=hid (varint_int w h (by omega) most (by omega))
 have hNm:=Rs.int_le (B:=B) (s:=s) (m:=most)
 have hlt:=h.blk.lt
 have HIN:=hid (RdInv.refl h)
 unfold Rs.delta
 generalize s.int B most=I at*
 obtain⟨s1,N⟩:=I
 dsimp only at*
 have hN:N≤1000:=by omega
 clear h
 go_enter Tryz.func369,Tryz.ntmps369
 go_wp2_with fail
 refine HI.out.mono ?_
 rintro r w1 ⟨rfl,hst⟩
 have HIN1:=hid (HIN.out.step hst)
 clear hst
 go_wp2_with fail
 go_loopw [1,7,13] (fun b v i wr=>∃(k:Nat) (bel:Int) (J:List Int) (st:Rs),k≤N∧i=.int .i64 k∧b=.int .u64 bel∧0≤bel∧bel≤18446744073709551615∧Hid (J.length=k)∧wr.ownsRow w.heap.size 25 1 v J.length (u64Cells J)∧Hid (∀x∈J,0≤x∧x≤18446744073709551615)∧Hid (RdInv w wr g B a st)∧Hid (Rs.falls B N s1 below []=Rs.falls B (N-k) st bel J)) (fun _ _ i _=>N-(intOf i).toNat)
 case atStart=>exact ⟨0,below,[],s1,Nat.zero_le _,rfl,rfl,hbl.1,hbl.2,hid rfl,⟨rfl,.inl ⟨rfl,rfl⟩⟩,hid (by simp),HIN1,hid rfl⟩
 case round=>
  obtain⟨k,bel,J,st,hk,rfl,rfl,hb0,hb1,hJl,hown,hJb,hin,hsp⟩:=hrel
  obtain⟨av,cv,rfl⟩:=own_form hown
  have hJ9:J.length≤1000:=by have:=hJl.out;omega
  rcases Nat.lt_or_ge k N with hlt2 | hge
  ·have HAT:=hid (rd_at wr hin.out.rd)
   have HVR:=hid (varint_read wr hin.out.rd (by omega))
   have hx:=Rs.num_small (B:=B) (s:=st)
   have hxb:=Rs.num_bad (B:=B) (s:=st)
   have hstep:Rs.falls B (N-k) st bel J=(if (st.num B).1.k=0 then (if bel≤((st.num B).2:Int) then ((st.num B).1.fail 13 st.p,[]) else Rs.falls B (N-(k+1)) (st.num B).1 (bel-(st.num B).2-1) (J++[bel-(st.num B).2-1])) else ((st.num B).1,[])):=by
    rw[show N-k=(N-(k+1))+1 by omega];rfl
   have HO:=hid hown
   have i1:(k:Int)<(N:Int):=by omega
   have d1:decide ((k:Int)<(N:Int))=true:=decide_eq_true i1
   have d1':decide (k<N)=true:=decide_eq_true hlt2
   generalize st.num B=R at*
   obtain⟨st1,x⟩:=R
   dsimp only at*
   have HBAD:=hid hxb
   clear hown hxb
   by_cases hk1:st1.k=0
   ·rw[if_pos hk1] at hstep
    by_cases hbx:bel≤(x:Int)
    ·rw[if_pos hbx] at hstep
     have d2:decide (bel≤(x:Int))=true:=decide_eq_true hbx
     have hfk:(st1.fail 13 st.p).k≠0:=Rs.fail_k (by omega)
     have HSP:=hid (hsp.out.trans hstep)
     clear hstep hsp hk1
     go_wp2_with fail
     refine HAT.out.mono ?_
     rintro r w2 ⟨rfl,rfl⟩
     go_wp2_with fail
     refine HVR.out.mono ?_
     rintro r w3 ⟨rfl,hst3⟩
     have HIN3:=hid (hin.out.step hst3)
     clear hst3
     go_wp2_with fail
     refine (rd_fail w3 HIN3.out.rd 13 (st.p:Int) (by omega)).mono ?_
     rintro r w4 ⟨rfl,hst4⟩
     have HIN4:=hid (HIN3.out.step hst4)
     have hg:=rd_good w4 HIN4.out.rd
     rw[decide_eq_false hfk] at hg
     have HG:=hid hg
     clear hst4 hg hfk
     go_wp2_with fail
     refine HG.out.mono ?_
     rintro r w5 ⟨rfl,hb5⟩
     have HE:=hid (HIN4.out.to.then hb5)
     go_wp2
     go_ret
     rw[HSP.out]
     exact⟨_,rfl,rSl_mk (xs:=[]) rfl (Nat.le_refl _) (Nat.zero_le _) (.inl rfl),HE.out⟩
    ·rw[if_neg hbx] at hstep
     have d2:decide (bel≤(x:Int))=false:=decide_eq_false hbx
     have HSP:=hid (hsp.out.trans hstep)
     have w1':0≤bel-((x:Int)+1):=by omega
     have w2':(x:Int)+1≤18446744073709551615:=by omega
     have hk1':decide (st1.k=0)=true:=decide_eq_true hk1
     clear hstep hsp hk1
     go_wp2_with fail
     refine HAT.out.mono ?_
     rintro r w2 ⟨rfl,rfl⟩
     go_wp2_with fail
     refine HVR.out.mono ?_
     rintro r w3 ⟨rfl,hst3⟩
     have HIN3:=hid (hin.out.step hst3)
     have HO3:=hid (own_tch2 HO.out hlt hst3.2)
     have hg:=rd_good w3 HIN3.out.rd
     rw[hk1'] at hg
     have HG:=hid hg
     clear hst3 hg hk1'
     go_wp2_with fail
     refine HG.out.mono ?_
     rintro r w4 ⟨rfl,hb4⟩
     have HIN4:=hid (HIN3.out.step (RdStep.later HIN3.out.rd hb4))
     have HO4:=hid (own_below HO3.out hb4)
     have hsz4:=HIN4.out.tch.size
     clear hb4
     go_wp2_with (at_builtin;go_loud (refine wpList_append_src rfl _ _ _ rfl w.heap.size 25 i0 (.int .u64 0) 1 8 Tryz.underlying49 hi hz0 hz1 hz2 rfl (by decide) (.slice av J.length cv) J.length _ rfl (own_below HO4.out (by (repeat (first | with_reducible exact Below.refl _ _ | with_reducible assumption | (with_reducible refine below_alloc ?_ _) | (with_reducible refine Below.setCell ?_ (by first | omega | (simp;done) | (simp;omega)) _) | (with_reducible refine Below.drew ?_) | (with_reducible refine below_drewN ?_ _) | (refine below_then (by with_reducible assumption) ?_))))) (some ⟨w4.heap.size,0,none⟩) 1 1 [.int .u64 (bel-((x:Int)+1))] rfl (src_new1 _ 25 _ rfl (by simp) rfl) (by simp[Value.oneCell']) (by simp only[maxLen];omega) (by omega) (by simp;omega) ?_;intro v' w5 hown5 hgrow5 hat5;obtain⟨a5,c5,rfl⟩:=own_form hown5;have HO5:=hid hown5;have hb5:Below w.heap.size w4 w5:=(Below.grown ((by (repeat (first | with_reducible exact Below.refl _ _ | with_reducible assumption | (with_reducible refine below_alloc ?_ _) | (with_reducible refine Below.setCell ?_ (by first | omega | (simp;done) | (simp;omega)) _) | (with_reducible refine Below.drew ?_) | (with_reducible refine below_drewN ?_ _) | (refine below_then (by with_reducible assumption) ?_))):Below w4.heap.size w4 _).mono hsz4) hgrow5 (by simp;omega) (fun g e=>(HO4.out.lt g e).1));clear hown5 hgrow5 hat5))
     have HIN5:=hid (HIN4.out.row hb5)
     have ho5:w5.ownsRow w.heap.size 25 1 (.slice a5 (J.length+1) c5) (J++[bel-((x:Int)+1)]).length (u64Cells (J++[bel-((x:Int)+1)])):=by
      have e:u64Cells (J++[bel-((x:Int)+1)])=u64Cells J++[.int .u64 (bel-((x:Int)+1))]:=by simp[u64Cells]
      rw[e,List.length_append]
      exact HO5.out
     have HO6:=hid ho5
     have HB6:Hid (∀y∈J++[bel-((x:Int)+1)],0≤y∧y≤18446744073709551615):=hid (fun y hy=>by
      rw[List.mem_append,List.mem_singleton] at hy
      rcases hy with hy | rfl
      ·exact hJb.out y hy
      ·omega)
     have HSP6:Hid (Rs.falls B N s1 below []=Rs.falls B (N-(k+1)) st1 (bel-((x:Int)+1)) (J++[bel-((x:Int)+1)])):=hid (by rw[HSP.out,show bel-(x:Int)-1=bel-((x:Int)+1) by omega])
     clear ho5
     go_roundw
     case rel=>exact ⟨k+1,bel-((x:Int)+1),J++[bel-((x:Int)+1)],st1,by omega,by go_num,rfl,by omega,by omega,hid (by simp;exact hJl.out),HO6.out,HB6,HIN5,HSP6⟩
     case measure=>simp [intOf];omega
   ·rw[if_neg hk1] at hstep
    have HSP:=hid (hsp.out.trans hstep)
    have hx0:=HBAD.out hk1
    subst hx0
    have hk1':decide (st1.k=0)=false:=decide_eq_false hk1
    have hfid:st1.fail 13 st.p=st1:=Rs.fail_of_bad hk1
    clear hstep hsp hk1
    by_cases hbx:bel≤0
    ·have d2:decide (bel≤((0:Nat):Int))=true:=decide_eq_true (by omega)
     have d2':decide (bel≤0)=true:=decide_eq_true hbx
     go_wp2_with fail
     refine HAT.out.mono ?_
     rintro r w2 ⟨rfl,rfl⟩
     go_wp2_with fail
     refine HVR.out.mono ?_
     rintro r w3 ⟨rfl,hst3⟩
     have HIN3:=hid (hin.out.step hst3)
     clear hst3
     go_wp2_with fail
     refine (rd_fail w3 HIN3.out.rd 13 (st.p:Int) (by omega)).mono ?_
     rintro r w4 ⟨rfl,hst4⟩
     rw[hfid] at hst4
     have HIN4:=hid (HIN3.out.step hst4)
     have hg:=rd_good w4 HIN4.out.rd
     rw[hk1'] at hg
     have HG:=hid hg
     clear hst4 hg hk1' hfid
     go_wp2_with fail
     refine HG.out.mono ?_
     rintro r w5 ⟨rfl,hb5⟩
     have HE:=hid (HIN4.out.to.then hb5)
     go_wp2
     go_ret
     rw[HSP.out]
     exact⟨_,rfl,rSl_mk (xs:=[]) rfl (Nat.le_refl _) (Nat.zero_le _) (.inl rfl),HE.out⟩
    ·have d2:decide (bel≤((0:Nat):Int))=false:=decide_eq_false (by omega)
     have d2':decide (bel≤0)=false:=decide_eq_false hbx
     go_wp2_with fail
     refine HAT.out.mono ?_
     rintro r w2 ⟨rfl,rfl⟩
     go_wp2_with fail
     refine HVR.out.mono ?_
     rintro r w3 ⟨rfl,hst3⟩
     have HIN3:=hid (hin.out.step hst3)
     have hg:=rd_good w3 HIN3.out.rd
     rw[hk1'] at hg
     have HG:=hid hg
     clear hst3 hg hk1' hfid
     go_wp2_with fail
     refine HG.out.mono ?_
     rintro r w5 ⟨rfl,hb5⟩
     have HE:=hid (HIN3.out.to.then hb5)
     go_wp2
     go_ret
     rw[HSP.out]
     exact⟨_,rfl,rSl_mk (xs:=[]) rfl (Nat.le_refl _) (Nat.zero_le _) (.inl rfl),HE.out⟩
  ·obtain rfl:k=N:=by omega
   have d1:decide ((k:Int)<(k:Int))=false:=decide_eq_false (by omega)
   have HSP:Hid (Rs.falls B k s1 below []=(st,J)):=hid (by rw[hsp.out,Nat.sub_self];rfl)
   have HV:=hid (own_ints64 hJb.out rfl hown)
   have HE:=hid hin.out.to
   clear hown hsp
   go_wp2
   go_ret
   rw[HSP.out]
   exact⟨_,rfl,HV.out,HE.out⟩
theorem Rs.int_of_bad{B:List UInt8}{s:Rs}{m:Int}(h:s.k≠0):s.int B m=(s,0):=by
 unfold Rs.int Rs.most
 rw[Rs.num_of_bad h]
 split
 ·rw[if_neg (by dsimp only;omega)]
 ·rw[Rs.fail_of_bad h]
theorem Rs.byte_of_bad{B:List UInt8}{s:Rs}(h:s.k≠0):s.byte B=(s,0):=by
 unfold Rs.byte
 rw[Rs.skip_of_bad h]
 rfl
theorem Rs.loose_of_bad{B:List UInt8}{s:Rs}{m:Int}(h:s.k≠0):s.loose B m=(s,[],false):=by
 unfold Rs.loose
 rw[Rs.int_of_bad h]
 dsimp only
 rw[Rs.byte_of_bad h]
 dsimp only
 rw[if_neg h]
theorem epoch_read_ep(w:World){g:Nat}{B:List UInt8}{a:Option Addr}{s:Rs}(h:RdAt w g B a s)(hB:B.length≤1000000000):
  Calls Tryz.prog 353 #[.pointer (some ⟨g,0,none⟩),.func (Fn.func 205) #[] #[]] w fun r w'=>r=.returned (.int .u64 ((s.ep B).2:Int))∧RdStep w g B a (s.ep B).1 w':=by
 have HAT:=hid (rd_at w h)
 have HVR:=hid (varint_read w h (by omega))
 have hxb:=Rs.num_bad (B:=B) (s:=s)
 have HIN:=hid (RdInv.refl h)
 unfold Rs.ep
 generalize s.num B=R at*
 obtain⟨st1,x⟩:=R
 dsimp only at*
 have HRT:=hid (fun (W:World)=>epoch_right (x:Int) W)
 have HBAD:=hid hxb
 clear h hxb
 by_cases hk1:st1.k=0
 ·rw[if_pos hk1]
  by_cases hr:epR (x:Int)=true
  ·rw[if_pos hr]
   rw[hr] at HRT
   have HK:Hid (decide (st1.k=0)=true):=hid (decide_eq_true hk1)
   clear hk1 hr
   go_enter Tryz.func353,Tryz.ntmps353
   go_wp2_with fail
   refine HAT.out.mono ?_
   rintro r w2 ⟨rfl,rfl⟩
   go_wp2_with fail
   refine HVR.out.mono ?_
   rintro r w3 ⟨rfl,hst3⟩
   have HIN3:=hid (HIN.out.step hst3)
   clear hst3
   go_wp2_with fail
   refine (HRT.out w3).mono ?_
   rintro r w3' ⟨rfl,rfl⟩
   go_wp2_with fail
   refine ((by have:=rd_good w3 HIN3.out.rd;rw[HK.out] at this;exact this:Calls Tryz.prog 151 #[.pointer (some ⟨g,0,none⟩)] w3 fun r w'=>r=.returned (.bool true)∧Below w3.heap.size w3 w')).mono ?_
   rintro r w5 ⟨rfl,hb5⟩
   have HE:=hid (HIN3.out.to.then hb5)
   go_wp2
   go_ret
   exact⟨rfl,HE.out⟩
  ·rw[if_neg hr]
   rw[Bool.eq_false_iff.2 hr] at HRT
   have hfk:(st1.fail 3 s.p).k≠0:=Rs.fail_k (by omega)
   clear hk1 hr
   go_enter Tryz.func353,Tryz.ntmps353
   go_wp2_with fail
   refine HAT.out.mono ?_
   rintro r w2 ⟨rfl,rfl⟩
   go_wp2_with fail
   refine HVR.out.mono ?_
   rintro r w3 ⟨rfl,hst3⟩
   have HIN3:=hid (HIN.out.step hst3)
   clear hst3
   go_wp2_with fail
   refine (HRT.out w3).mono ?_
   rintro r w3' ⟨rfl,rfl⟩
   go_wp2_with fail
   refine (rd_fail w3 HIN3.out.rd 3 (s.p:Int) (by omega)).mono ?_
   rintro r w4 ⟨rfl,hst4⟩
   have HIN4:=hid (HIN3.out.step hst4)
   have hg:=rd_good w4 HIN4.out.rd
   rw[decide_eq_false hfk] at hg
   have HG:=hid hg
   clear hst4 hg hfk
   go_wp2_with fail
   refine HG.out.mono ?_
   rintro r w5 ⟨rfl,hb5⟩
   have HE:=hid (HIN4.out.to.then hb5)
   go_wp2
   go_ret
   exact⟨rfl,HE.out⟩
 ·rw[if_neg hk1]
  have hx0:=HBAD.out hk1
  subst hx0
  have hfk:st1.k≠0:=hk1
  have hfid:st1.fail 3 s.p=st1:=Rs.fail_of_bad hk1
  rw[show epR ((0:Nat):Int)=false from by decide] at HRT
  clear hk1
  go_enter Tryz.func353,Tryz.ntmps353
  go_wp2_with fail
  refine HAT.out.mono ?_
  rintro r w2 ⟨rfl,rfl⟩
  go_wp2_with fail
  refine HVR.out.mono ?_
  rintro r w3 ⟨rfl,hst3⟩
  have HIN3:=hid (HIN.out.step hst3)
  clear hst3
  go_wp2_with fail
  refine (HRT.out w3).mono ?_
  rintro r w3' ⟨rfl,rfl⟩
  go_wp2_with fail
  refine (rd_fail w3 HIN3.out.rd 3 (s.p:Int) (by omega)).mono ?_
  rintro r w4 ⟨rfl,hst4⟩
  rw[hfid] at hst4
  clear hfid
  have HIN4:=hid (HIN3.out.step hst4)
  have hg:=rd_good w4 HIN4.out.rd
  rw[decide_eq_false hfk] at hg
  have HG:=hid hg
  clear hst4 hg hfk
  go_wp2_with fail
  refine HG.out.mono ?_
  rintro r w5 ⟨rfl,hb5⟩
  have HE:=hid (HIN4.out.to.then hb5)
  go_wp2
  go_ret
  exact⟨rfl,HE.out⟩
theorem epoch_read(w:World){g:Nat}{B:List UInt8}{a:Option Addr}{s:Rs}(h:RdAt w g B a s)(hB:B.length≤1000000000):
  Calls Tryz.prog 268 #[.pointer (some ⟨g,0,none⟩)] w fun r w'=>r=.returned (.int .u64 ((s.ep B).2:Int))∧RdStep w g B a (s.ep B).1 w':=by
 have HR:=hid (epoch_read_ep w h hB)
 generalize s.ep B=R at*
 clear h
 go_enter Tryz.func268,Tryz.ntmps268
 go_wp2_with fail
 refine HR.out.mono ?_
 rintro r w1 ⟨rfl,hst⟩
 have HST:=hid hst
 clear hst
 go_wp2
 go_ret
 exact⟨rfl,HST.out⟩
theorem epoch_read_po(w:World){g:Nat}{B:List UInt8}{a:Option Addr}{s:Rs}(h:RdAt w g B a s)(hB:B.length≤1000000000):
  Calls Tryz.prog 353 #[.pointer (some ⟨g,0,none⟩),.func (Fn.func 311) #[] #[]] w fun r w'=>r=.returned (.int .u64 ((s.po B).2:Int))∧RdStep w g B a (s.po B).1 w':=by
 have HAT:=hid (rd_at w h)
 have HVR:=hid (varint_read w h (by omega))
 have hxb:=Rs.num_bad (B:=B) (s:=s)
 have HIN:=hid (RdInv.refl h)
 unfold Rs.po
 generalize s.num B=R at*
 obtain⟨st1,x⟩:=R
 dsimp only at*
 have HRT:=hid (fun (W:World)=>epoch_pos (x:Int) W)
 have HBAD:=hid hxb
 clear h hxb
 by_cases hk1:st1.k=0
 ·rw[if_pos hk1]
  by_cases hr:poR (x:Int)=true
  ·rw[if_pos hr]
   rw[hr] at HRT
   have HK:Hid (decide (st1.k=0)=true):=hid (decide_eq_true hk1)
   clear hk1 hr
   go_enter Tryz.func353,Tryz.ntmps353
   go_wp2_with fail
   refine HAT.out.mono ?_
   rintro r w2 ⟨rfl,rfl⟩
   go_wp2_with fail
   refine HVR.out.mono ?_
   rintro r w3 ⟨rfl,hst3⟩
   have HIN3:=hid (HIN.out.step hst3)
   clear hst3
   go_wp2_with fail
   refine (HRT.out w3).mono ?_
   rintro r w3' ⟨rfl,rfl⟩
   go_wp2_with fail
   refine ((by have:=rd_good w3 HIN3.out.rd;rw[HK.out] at this;exact this:Calls Tryz.prog 151 #[.pointer (some ⟨g,0,none⟩)] w3 fun r w'=>r=.returned (.bool true)∧Below w3.heap.size w3 w')).mono ?_
   rintro r w5 ⟨rfl,hb5⟩
   have HE:=hid (HIN3.out.to.then hb5)
   go_wp2
   go_ret
   exact⟨rfl,HE.out⟩
  ·rw[if_neg hr]
   rw[Bool.eq_false_iff.2 hr] at HRT
   have hfk:(st1.fail 3 s.p).k≠0:=Rs.fail_k (by omega)
   clear hk1 hr
   go_enter Tryz.func353,Tryz.ntmps353
   go_wp2_with fail
   refine HAT.out.mono ?_
   rintro r w2 ⟨rfl,rfl⟩
   go_wp2_with fail
   refine HVR.out.mono ?_
   rintro r w3 ⟨rfl,hst3⟩
   have HIN3:=hid (HIN.out.step hst3)
   clear hst3
   go_wp2_with fail
   refine (HRT.out w3).mono ?_
   rintro r w3' ⟨rfl,rfl⟩
   go_wp2_with fail
   refine (rd_fail w3 HIN3.out.rd 3 (s.p:Int) (by omega)).mono ?_
   rintro r w4 ⟨rfl,hst4⟩
   have HIN4:=hid (HIN3.out.step hst4)
   have hg:=rd_good w4 HIN4.out.rd
   rw[decide_eq_false hfk] at hg
   have HG:=hid hg
   clear hst4 hg hfk
   go_wp2_with fail
   refine HG.out.mono ?_
   rintro r w5 ⟨rfl,hb5⟩
   have HE:=hid (HIN4.out.to.then hb5)
   go_wp2
   go_ret
   exact⟨rfl,HE.out⟩
 ·rw[if_neg hk1]
  have hx0:=HBAD.out hk1
  subst hx0
  have hfk:st1.k≠0:=hk1
  have hfid:st1.fail 3 s.p=st1:=Rs.fail_of_bad hk1
  rw[show poR ((0:Nat):Int)=true from by decide] at HRT
  clear hk1
  go_enter Tryz.func353,Tryz.ntmps353
  go_wp2_with fail
  refine HAT.out.mono ?_
  rintro r w2 ⟨rfl,rfl⟩
  go_wp2_with fail
  refine HVR.out.mono ?_
  rintro r w3 ⟨rfl,hst3⟩
  have HIN3:=hid (HIN.out.step hst3)
  clear hst3
  go_wp2_with fail
  refine (HRT.out w3).mono ?_
  rintro r w3' ⟨rfl,rfl⟩
  go_wp2_with fail
  refine ((by have:=rd_good w3 HIN3.out.rd;rw[decide_eq_false hfk] at this;exact this:Calls Tryz.prog 151 #[.pointer (some ⟨g,0,none⟩)] w3 fun r w'=>r=.returned (.bool false)∧Below w3.heap.size w3 w')).mono ?_
  rintro r w5 ⟨rfl,hb5⟩
  have HE:=hid (HIN3.out.to.then hb5)
  clear hfk hfid
  go_wp2
  go_ret
  exact⟨rfl,HE.out⟩
theorem epoch_readpos(w:World){g:Nat}{B:List UInt8}{a:Option Addr}{s:Rs}(h:RdAt w g B a s)(hB:B.length≤1000000000):
  Calls Tryz.prog 270 #[.pointer (some ⟨g,0,none⟩)] w fun r w'=>r=.returned (.int .u64 ((s.po B).2:Int))∧RdStep w g B a (s.po B).1 w':=by
 have HR:=hid (epoch_read_po w h hB)
 generalize s.po B=R at*
 clear h
 go_enter Tryz.func270,Tryz.ntmps270
 go_wp2_with fail
 refine HR.out.mono ?_
 rintro r w1 ⟨rfl,hst⟩
 have HST:=hid hst
 clear hst
 go_wp2
 go_ret
 exact⟨rfl,HST.out⟩
theorem OwnEls.tch3{w w':World}{α:Type}{lo g:Nat}{A:Rp α}{e:TypeId}{sz:Nat}{v:Value}{xs:List α}(h:OwnEls lo A lo e sz w v xs)(hb:Tch (fun b=>b=g∨w.heap.size≤b) w w')(hg:g<lo):OwnEls lo A lo e sz w' v xs:=by
 have hk:∀b,lo≤b→b<w.heap.size→w'.heap[b]? =w.heap[b]? :=fun b h1 h2=>hb.block b h2 (by omega)
 obtain⟨cells,ho,hlen,hsz,hA⟩:=h
 refine⟨cells,⟨ho.1,?_⟩,hlen,hsz,fun i cs x hi hx=>A.mono (A.keep (hA i cs x hi hx) fun b h=>hk b h.1 h.2.1) fun b h=>⟨h.1,Nat.lt_of_lt_of_le h.2.1 hb.size,h.2.2⟩⟩
 rcases ho.2 with h0 | ⟨g',cap,cur,h1,h2,h3,h4⟩
 ·exact .inl h0
 ·exact .inr ⟨g',cap,cur,h1,h2,(hk _ h2 (Blk.lt h3)).trans h3,h4⟩
theorem OwnEls.form{w:World}{α:Type}{lo base:Nat}{A:Rp α}{e:TypeId}{sz:Nat}{v:Value}{xs:List α}(h:OwnEls lo A base e sz w v xs):∃a c,v=.slice a xs.length c:=by
 obtain⟨cells,h1,_⟩:=h
 exact own_form h1
theorem not_u64{z:Int}(h:0≤z∧z≤18446744073709551615):bits BinOp.xor IntKind.u64 IntKind.u64.max z=18446744073709551615-z:=by
 obtain⟨a,rfl⟩:=Int.eq_ofNat_of_zero_le h.1
 have ha:a<18446744073709551616:=by omega
 have e:IntKind.u64.max=((18446744073709551615:Nat):Int):=rfl
 rw[e,bits_xor_u64_nat _ _ (by decide) ha]
 have h1:18446744073709551615^^^a=18446744073709551615-a:=by
  have h2:=BitVec.toNat_not (x:=BitVec.ofNat 64 a)
  rw[BitVec.not_def,BitVec.toNat_xor,BitVec.toNat_allOnes,BitVec.toNat_ofNat,Nat.mod_eq_of_lt (by omega)] at h2
  exact h2
 rw[h1]
 omega
theorem link_read(w:World){g:Nat}{B:List UInt8}{a:Option Addr}{s:Rs}(h:RdAt w g B a s)(hB:B.length≤1000000000)(pos:Int)(hpos:0≤pos∧pos≤18446744073709551615):
  Calls Tryz.prog 307 #[.pointer (some ⟨g,0,none⟩),.int .u64 pos] w fun r w'=>∃v,r=.returned v∧rLinksW.r (Fresh w w') w' [v] (s.links B pos).2∧RdStep w g B a (s.links B pos).1 w':=by
 obtain⟨i0,hi,hz0,hz1,hz2⟩:=info_parts infoLink
 have HI:=hid (varint_int w h (by omega) 16 (by omega))
 have hNm:=Rs.int_le (B:=B) (s:=s) (m:=16)
 have hlt:=h.blk.lt
 have HIN:=hid (RdInv.refl h)
 unfold Rs.links
 generalize s.int B 16=I at*
 obtain⟨s1,N⟩:=I
 dsimp only at*
 have hN:N≤16:=by omega
 clear h
 go_enter Tryz.func307,Tryz.ntmps307
 go_wp2_with fail
 refine HI.out.mono ?_
 rintro r w1 ⟨rfl,hst⟩
 have HIN1:=hid (HIN.out.step hst)
 clear hst
 go_wp2_with fail
 go_loopw [5,12] (fun v i wr=>∃(k:Nat) (J:List Link) (st:Rs),k≤N∧i=.int .i64 k∧Hid (J.length=k)∧OwnEls w.heap.size rLink w.heap.size 184 2 wr v J∧Hid (∀x∈J,0≤x.stream∧x.stream≤18446744073709551615)∧Hid (RdInv w wr g B a st)∧Hid (Rs.linksF B pos N s1 none []=Rs.linksF B pos (N-k) st (J.getLast?.map Link.stream) J)) (fun _ i _=>N-(intOf i).toNat)
 case atStart=>exact ⟨0,[],s1,Nat.zero_le _,rfl,hid rfl,OwnEls.nil,hid (by simp),HIN1,hid rfl⟩
 case round=>
  obtain⟨k,J,st,hk,rfl,hJl,hown,hJb,hin,hsp⟩:=hrel
  obtain⟨av,cv,rfl⟩:=OwnEls.form hown
  rcases Nat.lt_or_ge k N with hlt2 | hge
  ·have HAT:=hid (rd_at wr hin.out.rd)
   have HVR:=hid (varint_read wr hin.out.rd (by omega))
   have hx:=Rs.num_small (B:=B) (s:=st)
   have hsz0:=hin.out.tch.size
   have i1:(k:Int)<(N:Int):=by omega
   have d1:decide ((k:Int)<(N:Int))=true:=decide_eq_true i1
   have d1':decide (k<N)=true:=decide_eq_true hlt2
   have HO:=hid hown
   clear hown
   have hJ16:J.length≤16:=by have:=hJl.out;omega
   by_cases hJe:J=[]
   ·have hstep:Rs.linksF B pos (N-k) st (J.getLast?.map Link.stream) J=(if ((st.num B).1.delta B pos 4).1.k=0 then Rs.linksF B pos (N-(k+1)) ((st.num B).1.delta B pos 4).1 (some ((st.num B).2:Int)) (J++[⟨((st.num B).2:Int),((st.num B).1.delta B pos 4).2⟩]) else (((st.num B).1.delta B pos 4).1,[])):=by
     rw[show N-k=(N-(k+1))+1 by omega,hJe];rfl
    have hk0:k=0:=by have:=hJl.out;rw[hJe] at this;simpa using this.symm
    subst hk0
    clear hJe
    generalize st.num B=R at*
    obtain⟨st1,x⟩:=R
    dsimp only at*
    have hxb:(0:Int)≤(x:Int)∧(x:Int)≤18446744073709551615:=by omega
    have HD:=hid (fun (W:World) (hW:RdAt W g B a st1)=>delta_read W hW hB pos hpos 4 (by omega))
    generalize st1.delta B pos 4=D at*
    obtain⟨s6,bk⟩:=D
    dsimp only at*
    go_wp2_with fail
    refine HAT.out.mono ?_
    rintro r w2 ⟨rfl,rfl⟩
    go_wp2_with fail
    refine HVR.out.mono ?_
    rintro r w3 ⟨rfl,hst3⟩
    have HIN3:=hid (hin.out.step hst3)
    have HO3:=hid (OwnEls.tch3 HO.out (hst3.2.mono fun b hb e=> .inl e) hlt)
    have hsz3:=HIN3.out.tch.size
    clear hst3
    go_wp2_with fail
    refine (HD.out _ (HIN3.out.row ((by (repeat (first | with_reducible exact Below.refl _ _ | with_reducible assumption | (with_reducible refine below_alloc ?_ _) | (with_reducible refine Below.setCell ?_ (by first | omega | (simp;done) | (simp;omega)) _) | (with_reducible refine Below.drew ?_) | (with_reducible refine below_drewN ?_ _) | (refine below_then (by with_reducible assumption) ?_))):Below w3.heap.size w3 _).mono hsz3)).rd).mono ?_
    rintro r w6 ⟨v6,rfl,hv6,hst6⟩
    obtain⟨a6,c6,hfv,_,_⟩:=sl_form hv6
    simp only[List.cons.injEq,and_true] at hfv
    subst hfv
    have BK6:Blk w6 w3.heap.size 184 #[.int .u64 (x:Int),.slice none 0 0]:=Blk.tch (by (repeat (first | assumption | exact Blk.newAt _ _ _ (by first | (simp;done) | (simp;omega)) | refine Blk.alloc ?_ _ | refine Blk.drew ?_ | refine Blk.drewN ?_ _ | refine Blk.far ?_ (by first | (simp;done) | (simp;omega)) _))) hst6.2 (by omega)
    have HIN6:=hid ((HIN3.out.row ((by (repeat (first | with_reducible exact Below.refl _ _ | with_reducible assumption | (with_reducible refine below_alloc ?_ _) | (with_reducible refine Below.setCell ?_ (by first | omega | (simp;done) | (simp;omega)) _) | (with_reducible refine Below.drew ?_) | (with_reducible refine below_drewN ?_ _) | (refine below_then (by with_reducible assumption) ?_))):Below w3.heap.size w3 _).mono hsz3)).step hst6)
    have HK6:Hid (Tch (fun b=>b=g∨w3.heap.size≤b) w3 w6):=hid ((Tch.of_below (by (repeat (first | with_reducible exact Below.refl _ _ | with_reducible assumption | (with_reducible refine below_alloc ?_ _) | (with_reducible refine Below.setCell ?_ (by first | omega | (simp;done) | (simp;omega)) _) | (with_reducible refine Below.drew ?_) | (with_reducible refine below_drewN ?_ _) | (refine below_then (by with_reducible assumption) ?_))):Below w3.heap.size w3 _)).mono (fun b hb e=> .inr e) |>.trans hst6.2 (fun b hb e=> .inl e))
    by_cases hk6:s6.k=0
    ·rw[if_pos hk6] at hstep
     have HSP:=hid (hsp.out.trans hstep)
     have HG:=hid (fun (W:World) (hW:RdAt W g B a s6)=>(by have:=rd_good W hW;rw[decide_eq_true hk6] at this;exact this:Calls Tryz.prog 151 #[.pointer (some ⟨g,0,none⟩)] W fun r w'=>r=.returned (.bool true)∧Below W.heap.size W w'))
     obtain⟨y0,y1,f0,f1,hl6⟩:=f_blk BK6
     have HV6:=hid hv6
     have hq6:=hst6.2.size
     simp at hq6
     clear hsp hstep hk6 hv6 hst6
     go_wp2_with fail
     refine (HG.out _ (HIN6.out.row ((by (repeat (first | with_reducible exact Below.refl _ _ | with_reducible assumption | (with_reducible refine below_alloc ?_ _) | (with_reducible refine Below.setCell ?_ (by first | omega | (simp;done) | (simp;omega)) _) | (with_reducible refine Below.drew ?_) | (with_reducible refine below_drewN ?_ _) | (refine below_then (by with_reducible assumption) ?_))):Below w3.heap.size w6 _).mono hsz3)).rd).mono ?_
     rintro r w7 ⟨rfl,hb7⟩
     have B7:Blk w7 w3.heap.size 184 #[.int .u64 (x:Int),.slice a6 bk.length c6]:=Blk.later (BK6.set 1 _) hb7
     obtain⟨z0,z1,_,_,hl7⟩:=f_blk B7
     have hb67:Below w3.heap.size w6 w7:=(by (repeat (first | with_reducible exact Below.refl _ _ | with_reducible assumption | (with_reducible refine below_alloc ?_ _) | (with_reducible refine Below.setCell ?_ (by first | omega | (simp;done) | (simp;omega)) _) | (with_reducible refine Below.drew ?_) | (with_reducible refine below_drewN ?_ _) | (refine below_then (by with_reducible assumption) ?_))):Below w3.heap.size w6 (w6.setCell ⟨w3.heap.size,1,none⟩ (.slice a6 bk.length c6))).trans (hb7.mono (by simp;omega))
     have HIN7:=hid (HIN6.out.row (hb67.mono hsz3))
     have hsz7:=HIN7.out.tch.size
     have hk7:Tch (fun b=>b=g∨w3.heap.size≤b) w3 w7:=HK6.out.trans (Tch.of_below hb67) (fun b hb hle=> .inr hle)
     have O7:=OwnEls.tch3 HO3.out hk7 hlt
     obtain⟨cells0,OA0⟩:=HO3.out
     have hlt0:∀g',(Value.slice av J.length cv).ownBlock=some g'→g'<w3.heap.size:=fun g' e=>(OA0.1.lt g' e).2
     obtain⟨cells,OA⟩:=OwnEls.below O7 (show Below w7.heap.size w7 (w7.alloc (.cells #[.int .u64 (x:Int),.slice a6 bk.length c6] 184)) from by (repeat (first | with_reducible exact Below.refl _ _ | with_reducible assumption | (with_reducible refine below_alloc ?_ _) | (with_reducible refine Below.setCell ?_ (by first | omega | (simp;done) | (simp;omega)) _) | (with_reducible refine Below.drew ?_) | (with_reducible refine below_drewN ?_ _) | (refine below_then (by with_reducible assumption) ?_))))
     have hk8:∀b,w3.heap.size+1≤b→b<w6.heap.size→(w7.alloc (.cells #[.int .u64 (x:Int),.slice a6 bk.length c6] 184)).heap[b]? =w6.heap[b]? :=fun b h1 h2=>(Below.heap_alloc w7 _ b (by have:=hb67.size;omega)).trans ((hb7.block b (by simpa using h2)).trans (Below.heap_setCell _ _ _ _ (by dsimp only;omega)))
     have hv8:=rU64s.keep (w':=(w7.alloc (.cells #[.int .u64 (x:Int),.slice a6 bk.length c6] 184))) HV6.out (fun b (hb:(w3.alloc (.cells #[.int .u64 (x:Int),.slice none 0 0] 184)).heap.size≤b∧b<w6.heap.size)=>hk8 b (by have:=hb.1;simp at this;omega) hb.2)
     have hx8:rLink.r (fun b=>w.heap.size≤b∧b<(w7.alloc (.cells #[.int .u64 (x:Int),.slice a6 bk.length c6] 184)).heap.size∧(Value.slice av J.length cv).ownBlock≠some b) (w7.alloc (.cells #[.int .u64 (x:Int),.slice a6 bk.length c6] 184)) [.int .u64 (x:Int),.slice a6 bk.length c6] ⟨(x:Int),bk⟩:=by
      refine link_mk (x:=⟨(x:Int),bk⟩) hxb (rU64s.mono hv8 fun b hb=> ?_)
      have h1:=hb.1
      have h2:=hb.2
      have h3:=hb67.size
      simp at h1
      refine⟨by omega,by simp;omega,fun e=> ?_⟩
      have:=hlt0 b e
      omega
     have HX:=hid hx8
     have HA:=hid OA
     have HS9:Hid (w.heap.size≤(w7.alloc (.cells #[.int .u64 (x:Int),.slice a6 bk.length c6] 184)).heap.size):=hid (by simp;omega)
     clear hx8 hv8 OA OA0 hlt0 hk8 O7 hk7 hb67 hb7 B7 y0 y1 f0 f1 HV6
     go_wp2_with (at_builtin;go_loud (refine wpList_append_src rfl _ _ _ rfl w.heap.size 184 i0 (.agg #[.int .u64 0,.slice none 0 0]) 2 32 Tryz.underlying50 hi hz0 hz1 hz2 rfl (by decide) (.slice av J.length cv) J.length _ rfl HA.out.1 (some ⟨w7.heap.size,0,none⟩) 1 1 [.int .u64 (x:Int),.slice a6 bk.length c6] rfl (src_new1 w7 184 _ rfl rfl rfl) (by intro u hu;simp at hu;rcases hu with rfl | rfl<;>rfl) (by simp only[maxLen];omega) (by omega) HS9.out ?_;intro v1 w9 hown1 hgrow1 hat1;have OP:=hid (OwnEls.push HA.out rfl HX.out hown1 hgrow1 hat1 hgrow1.size);have hb9:Below w.heap.size w7 w9:=(Below.grown ((by (repeat (first | with_reducible exact Below.refl _ _ | with_reducible assumption | (with_reducible refine below_alloc ?_ _) | (with_reducible refine Below.setCell ?_ (by first | omega | (simp;done) | (simp;omega)) _) | (with_reducible refine Below.drew ?_) | (with_reducible refine below_drewN ?_ _) | (refine below_then (by with_reducible assumption) ?_))):Below w7.heap.size w7 _).mono hsz7) hgrow1 HS9.out (fun g e=>(HA.out.1.lt g e).1));clear hown1 hgrow1 hat1))
     have HIN9:=hid (HIN7.out.row hb9)
     have HJ9:Hid (∀y∈J++[(⟨(x:Int),bk⟩:Link)],0≤y.stream∧y.stream≤18446744073709551615):=hid (fun y hy=>by
      rw[List.mem_append,List.mem_singleton] at hy
      rcases hy with hy | rfl
      ·exact hJb.out y hy
      ·exact hxb)
     go_roundw
     case rel=>exact ⟨0+1,J++[⟨(x:Int),bk⟩],s6,by omega,by go_num,hid (by rw[List.length_append,hJl.out];rfl),OP.out,HJ9,HIN9,hid (by rw[HSP.out];simp)⟩
     case measure=>simp [intOf];omega
    ·rw[if_neg hk6] at hstep
     have HSP:=hid (hsp.out.trans hstep)
     have HG:=hid (fun (W:World) (hW:RdAt W g B a s6)=>(by have:=rd_good W hW;rw[decide_eq_false hk6] at this;exact this:Calls Tryz.prog 151 #[.pointer (some ⟨g,0,none⟩)] W fun r w'=>r=.returned (.bool false)∧Below W.heap.size W w'))
     obtain⟨y0,y1,f0,f1,hl6⟩:=f_blk BK6
     clear hsp hstep hk6 hv6
     go_wp2_with fail
     refine (HG.out _ (HIN6.out.row ((by (repeat (first | with_reducible exact Below.refl _ _ | with_reducible assumption | (with_reducible refine below_alloc ?_ _) | (with_reducible refine Below.setCell ?_ (by first | omega | (simp;done) | (simp;omega)) _) | (with_reducible refine Below.drew ?_) | (with_reducible refine below_drewN ?_ _) | (refine below_then (by with_reducible assumption) ?_))):Below w3.heap.size w6 _).mono hsz3)).rd).mono ?_
     rintro r w7 ⟨rfl,hb7⟩
     have hb67:Below w3.heap.size w6 w7:=(by (repeat (first | with_reducible exact Below.refl _ _ | with_reducible assumption | (with_reducible refine below_alloc ?_ _) | (with_reducible refine Below.setCell ?_ (by first | omega | (simp;done) | (simp;omega)) _) | (with_reducible refine Below.drew ?_) | (with_reducible refine below_drewN ?_ _) | (refine below_then (by with_reducible assumption) ?_))):Below w3.heap.size w6 (w6.setCell ⟨w3.heap.size,1,none⟩ (.slice a6 bk.length c6))).trans (hb7.mono (by simp;omega))
     have HE:=hid (HIN6.out.row (hb67.mono hsz3)).to
     clear hb7
     go_wp2
     go_ret
     rw[HSP.out]
     exact⟨.slice none 0 0,rfl,OwnEls.sliceW (e:=0) (Nat.le_refl _) OwnEls.nil,HE.out⟩
   ·obtain⟨m,rfl⟩:∃m,k=m+1:=⟨k-1,by
     have:=hJl.out
     have:J.length≠0:=fun e=>hJe (List.eq_nil_of_length_eq_zero e)
     omega⟩
    have hmJ:m<J.length:=by have:=hJl.out;omega
    have hlast:J.getLast?.map Link.stream=some J[m].stream:=by
     have:=hJl.out
     rw[List.getLast?_eq_getElem?,this,Nat.add_sub_cancel,List.getElem?_eq_getElem hmJ]
     rfl
    have hzb:=hJb.out J[m] (List.getElem_mem hmJ)
    obtain⟨bq,o,hA,hbb,a1,c1,hc0,hc1,hst,hd⟩:=link_at (OwnEls.slice (Nat.le_refl _) HO.out) hmJ
    subst hA
    have hbg:bq≠g:=by have:=hbb.1;omega
    have hbr:bq<wr.heap.size:=hbb.2
    have hstep:Rs.linksF B pos (N-(m+1)) st (J.getLast?.map Link.stream) J=(if ((st.stream B (some J[m].stream)).1.delta B pos 4).1.k=0 then Rs.linksF B pos (N-(m+1+1)) ((st.stream B (some J[m].stream)).1.delta B pos 4).1 (some (st.stream B (some J[m].stream)).2) (J++[⟨(st.stream B (some J[m].stream)).2,((st.stream B (some J[m].stream)).1.delta B pos 4).2⟩]) else (((st.stream B (some J[m].stream)).1.delta B pos 4).1,[])):=by
     rw[hlast,show N-(m+1)=(N-(m+1+1))+1 by omega];rfl
    clear hlast hd hc1 hbb
    generalize J[m]=z at*
    have i1':(m:Int)+1<(N:Int):=by omega
    have i2:(m:Int)<(J.length:Int):=by omega
    have d2:decide ((m:Int)+1<(N:Int))=true:=decide_eq_true i1'
    have e1:=not_u64 hzb
    have hsg:IntKind.u64.signed=false:=rfl
    by_cases hf:18446744073709551615-z.stream≤((st.num B).2:Int)
    ·have hS:(st.stream B (some z.stream)).1=(st.num B).1.fail 13 st.p:=by
      simp only[Rs.stream]
      rw[if_pos hf]
     have hbad:((st.stream B (some z.stream)).1.delta B pos 4).1.k≠0:=fun e=>(Rs.fail_k (s:=(st.num B).1) (c:=13) (at_:=(st.p:Int)) (by omega)) (by rw[←hS];exact (Rs.delta_canon (Rs.stream_ok hin.out.rd.ok) hpos.2 e).2.2.2.2)
     rw[if_neg hbad,hS] at hstep
     rw[hS] at hbad
     clear hS
     generalize st.num B=R at*
     obtain⟨st1,x⟩:=R
     dsimp only at*
     have d4:decide (bits BinOp.xor IntKind.u64 IntKind.u64.max z.stream≤(x:Int))=true:=by rw[e1];exact decide_eq_true hf
     clear hf e1
     have HD:=hid (fun (W:World) (hW:RdAt W g B a (st1.fail 13 (st.p:Int)))=>delta_read W hW hB pos hpos 4 (by omega))
     generalize (st1.fail 13 (st.p:Int)).delta B pos 4=D at*
     obtain⟨s6,bk⟩:=D
     dsimp only at*
     go_wp2_with fail
     refine HAT.out.mono ?_
     rintro r w2 ⟨rfl,rfl⟩
     go_wp2_with fail
     refine HVR.out.mono ?_
     rintro r w3 ⟨rfl,hst3⟩
     have HIN3:=hid (hin.out.step hst3)
     have HO3:=hid (OwnEls.tch3 HO.out (hst3.2.mono fun b hb e=> .inl e) hlt)
     have hsz3:=HIN3.out.tch.size
     have X0:=(hst3.2.cell (p:=⟨bq,o+m*2,none⟩) hbr hbg).trans hc0
     have hb3:bq<w3.heap.size:=Nat.lt_of_lt_of_le hbr hst3.2.size
     clear hst3 hc0
     go_wp2_with fail
     refine (rd_fail _ (HIN3.out.row ((by (repeat (first | with_reducible exact Below.refl _ _ | with_reducible assumption | (with_reducible refine below_alloc ?_ _) | (with_reducible refine Below.setCell ?_ (by first | omega | (simp;done) | (simp;omega)) _) | (with_reducible refine Below.drew ?_) | (with_reducible refine below_drewN ?_ _) | (refine below_then (by with_reducible assumption) ?_))):Below w3.heap.size w3 _).mono hsz3)).rd 13 (st.p:Int) (by omega)).mono ?_
     rintro r w4 ⟨rfl,hst4⟩
     have B4:Blk w4 w3.heap.size 184 #[.int .u64 (x:Int),.slice none 0 0]:=Blk.tch (by (repeat (first | assumption | exact Blk.newAt _ _ _ (by first | (simp;done) | (simp;omega)) | refine Blk.alloc ?_ _ | refine Blk.drew ?_ | refine Blk.drewN ?_ _ | refine Blk.far ?_ (by first | (simp;done) | (simp;omega)) _))) hst4.2 (by omega)
     have HIN4:=hid ((HIN3.out.row ((by (repeat (first | with_reducible exact Below.refl _ _ | with_reducible assumption | (with_reducible refine below_alloc ?_ _) | (with_reducible refine Below.setCell ?_ (by first | omega | (simp;done) | (simp;omega)) _) | (with_reducible refine Below.drew ?_) | (with_reducible refine below_drewN ?_ _) | (refine below_then (by with_reducible assumption) ?_))):Below w3.heap.size w3 _).mono hsz3)).step hst4)
     have hsz4:=hst4.2.size
     obtain⟨q0,q1,e0,e1,l4⟩:=f_blk B4
     clear hst4
     go_wp2_with fail
     refine (HD.out _ (HIN4.out.row ((by (repeat (first | with_reducible exact Below.refl _ _ | with_reducible assumption | (with_reducible refine below_alloc ?_ _) | (with_reducible refine Below.setCell ?_ (by first | omega | (simp;done) | (simp;omega)) _) | (with_reducible refine Below.drew ?_) | (with_reducible refine below_drewN ?_ _) | (refine below_then (by with_reducible assumption) ?_))):Below w3.heap.size w4 _).mono hsz3)).rd).mono ?_
     rintro r w6 ⟨v6,rfl,hv6,hst6⟩
     obtain⟨a6,c6,hfv,_,_⟩:=sl_form hv6
     simp only[List.cons.injEq,and_true] at hfv
     subst hfv
     have BK6:Blk w6 w3.heap.size 184 #[_,.slice none 0 0]:=Blk.tch (B4.set 0 _) hst6.2 (by omega)
     have HIN6:=hid ((HIN4.out.row ((by (repeat (first | with_reducible exact Below.refl _ _ | with_reducible assumption | (with_reducible refine below_alloc ?_ _) | (with_reducible refine Below.setCell ?_ (by first | omega | (simp;done) | (simp;omega)) _) | (with_reducible refine Below.drew ?_) | (with_reducible refine below_drewN ?_ _) | (refine below_then (by with_reducible assumption) ?_))):Below w3.heap.size w4 _).mono hsz3)).step hst6)
     have HSP:=hid (hsp.out.trans hstep)
     have HG:=hid (fun (W:World) (hW:RdAt W g B a s6)=>(by have:=rd_good W hW;rw[decide_eq_false hbad] at this;exact this:Calls Tryz.prog 151 #[.pointer (some ⟨g,0,none⟩)] W fun r w'=>r=.returned (.bool false)∧Below W.heap.size W w'))
     obtain⟨y0,y1,f0,f1,hl6⟩:=f_blk BK6
     clear hsp hstep hbad hv6 B4 q0 q1 e0 e1 l4
     go_wp2_with fail
     refine (HG.out _ (HIN6.out.row ((by (repeat (first | with_reducible exact Below.refl _ _ | with_reducible assumption | (with_reducible refine below_alloc ?_ _) | (with_reducible refine Below.setCell ?_ (by first | omega | (simp;done) | (simp;omega)) _) | (with_reducible refine Below.drew ?_) | (with_reducible refine below_drewN ?_ _) | (refine below_then (by with_reducible assumption) ?_))):Below w3.heap.size w6 _).mono hsz3)).rd).mono ?_
     rintro r w7 ⟨rfl,hb7⟩
     have hb67:Below w3.heap.size w6 w7:=(by (repeat (first | with_reducible exact Below.refl _ _ | with_reducible assumption | (with_reducible refine below_alloc ?_ _) | (with_reducible refine Below.setCell ?_ (by first | omega | (simp;done) | (simp;omega)) _) | (with_reducible refine Below.drew ?_) | (with_reducible refine below_drewN ?_ _) | (refine below_then (by with_reducible assumption) ?_))):Below w3.heap.size w6 (w6.setCell ⟨w3.heap.size,1,none⟩ (.slice a6 bk.length c6))).trans (hb7.mono (by simp;omega))
     have HE:=hid (HIN6.out.row (hb67.mono hsz3)).to
     clear hb7
     go_wp2
     go_ret
     rw[HSP.out]
     exact⟨.slice none 0 0,rfl,OwnEls.sliceW (e:=0) (Nat.le_refl _) OwnEls.nil,HE.out⟩
    ·have hS:st.stream B (some z.stream)=((st.num B).1,((st.num B).2:Int)+(z.stream+1)):=by
      simp only[Rs.stream]
      rw[if_neg hf,Int.add_assoc]
     rw[hS] at hstep
     clear hS
     generalize st.num B=R at*
     obtain⟨st1,x⟩:=R
     dsimp only at*
     have hxb:(0:Int)≤(x:Int)+(z.stream+1)∧(x:Int)+(z.stream+1)≤18446744073709551615:=by omega
     have d4:decide (bits BinOp.xor IntKind.u64 IntKind.u64.max z.stream≤(x:Int))=false:=by rw[e1];exact decide_eq_false hf
     have v1:0≤z.stream+1:=by omega
     have v2:z.stream+1≤18446744073709551615:=by omega
     have v3:=hxb.1
     have v4:=hxb.2
     clear hf e1
     have HD:=hid (fun (W:World) (hW:RdAt W g B a st1)=>delta_read W hW hB pos hpos 4 (by omega))
     generalize st1.delta B pos 4=D at*
     obtain⟨s6,bk⟩:=D
     dsimp only at*
     go_wp2_with fail
     refine HAT.out.mono ?_
     rintro r w2 ⟨rfl,rfl⟩
     go_wp2_with fail
     refine HVR.out.mono ?_
     rintro r w3 ⟨rfl,hst3⟩
     have HIN3:=hid (hin.out.step hst3)
     have HO3:=hid (OwnEls.tch3 HO.out (hst3.2.mono fun b hb e=> .inl e) hlt)
     have hsz3:=HIN3.out.tch.size
     have X0:=(hst3.2.cell (p:=⟨bq,o+m*2,none⟩) hbr hbg).trans hc0
     have hb3:bq<w3.heap.size:=Nat.lt_of_lt_of_le hbr hst3.2.size
     clear hst3 hc0
     go_wp2_with fail
     refine (HD.out _ (HIN3.out.row ((by (repeat (first | with_reducible exact Below.refl _ _ | with_reducible assumption | (with_reducible refine below_alloc ?_ _) | (with_reducible refine Below.setCell ?_ (by first | omega | (simp;done) | (simp;omega)) _) | (with_reducible refine Below.drew ?_) | (with_reducible refine below_drewN ?_ _) | (refine below_then (by with_reducible assumption) ?_))):Below w3.heap.size w3 _).mono hsz3)).rd).mono ?_
     rintro r w6 ⟨v6,rfl,hv6,hst6⟩
     obtain⟨a6,c6,hfv,_,_⟩:=sl_form hv6
     simp only[List.cons.injEq,and_true] at hfv
     subst hfv
     have BK6:Blk w6 w3.heap.size 184 #[.int .u64 ((x:Int)+(z.stream+1)),.slice none 0 0]:=Blk.tch (by (repeat (first | assumption | exact Blk.newAt _ _ _ (by first | (simp;done) | (simp;omega)) | refine Blk.alloc ?_ _ | refine Blk.drew ?_ | refine Blk.drewN ?_ _ | refine Blk.far ?_ (by first | (simp;done) | (simp;omega)) _))) hst6.2 (by omega)
     have HIN6:=hid ((HIN3.out.row ((by (repeat (first | with_reducible exact Below.refl _ _ | with_reducible assumption | (with_reducible refine below_alloc ?_ _) | (with_reducible refine Below.setCell ?_ (by first | omega | (simp;done) | (simp;omega)) _) | (with_reducible refine Below.drew ?_) | (with_reducible refine below_drewN ?_ _) | (refine below_then (by with_reducible assumption) ?_))):Below w3.heap.size w3 _).mono hsz3)).step hst6)
     have HK6:Hid (Tch (fun b=>b=g∨w3.heap.size≤b) w3 w6):=hid ((Tch.of_below (by (repeat (first | with_reducible exact Below.refl _ _ | with_reducible assumption | (with_reducible refine below_alloc ?_ _) | (with_reducible refine Below.setCell ?_ (by first | omega | (simp;done) | (simp;omega)) _) | (with_reducible refine Below.drew ?_) | (with_reducible refine below_drewN ?_ _) | (refine below_then (by with_reducible assumption) ?_))):Below w3.heap.size w3 _)).mono (fun b hb e=> .inr e) |>.trans hst6.2 (fun b hb e=> .inl e))
     by_cases hk6:s6.k=0
     ·rw[if_pos hk6] at hstep
      have HSP:=hid (hsp.out.trans hstep)
      have HG:=hid (fun (W:World) (hW:RdAt W g B a s6)=>(by have:=rd_good W hW;rw[decide_eq_true hk6] at this;exact this:Calls Tryz.prog 151 #[.pointer (some ⟨g,0,none⟩)] W fun r w'=>r=.returned (.bool true)∧Below W.heap.size W w'))
      obtain⟨y0,y1,f0,f1,hl6⟩:=f_blk BK6
      have HV6:=hid hv6
      have hq6:=hst6.2.size
      simp at hq6
      clear hsp hstep hk6 hv6 hst6
      go_wp2_with fail
      refine (HG.out _ (HIN6.out.row ((by (repeat (first | with_reducible exact Below.refl _ _ | with_reducible assumption | (with_reducible refine below_alloc ?_ _) | (with_reducible refine Below.setCell ?_ (by first | omega | (simp;done) | (simp;omega)) _) | (with_reducible refine Below.drew ?_) | (with_reducible refine below_drewN ?_ _) | (refine below_then (by with_reducible assumption) ?_))):Below w3.heap.size w6 _).mono hsz3)).rd).mono ?_
      rintro r w7 ⟨rfl,hb7⟩
      have B7:Blk w7 w3.heap.size 184 #[.int .u64 ((x:Int)+(z.stream+1)),.slice a6 bk.length c6]:=Blk.later (BK6.set 1 _) hb7
      obtain⟨z0,z1,_,_,hl7⟩:=f_blk B7
      have hb67:Below w3.heap.size w6 w7:=(by (repeat (first | with_reducible exact Below.refl _ _ | with_reducible assumption | (with_reducible refine below_alloc ?_ _) | (with_reducible refine Below.setCell ?_ (by first | omega | (simp;done) | (simp;omega)) _) | (with_reducible refine Below.drew ?_) | (with_reducible refine below_drewN ?_ _) | (refine below_then (by with_reducible assumption) ?_))):Below w3.heap.size w6 (w6.setCell ⟨w3.heap.size,1,none⟩ (.slice a6 bk.length c6))).trans (hb7.mono (by simp;omega))
      have HIN7:=hid (HIN6.out.row (hb67.mono hsz3))
      have hsz7:=HIN7.out.tch.size
      have hk7:Tch (fun b=>b=g∨w3.heap.size≤b) w3 w7:=HK6.out.trans (Tch.of_below hb67) (fun b hb hle=> .inr hle)
      have O7:=OwnEls.tch3 HO3.out hk7 hlt
      obtain⟨cells0,OA0⟩:=HO3.out
      have hlt0:∀g',(Value.slice (some ⟨bq,o,none⟩) J.length cv).ownBlock=some g'→g'<w3.heap.size:=fun g' e=>(OA0.1.lt g' e).2
      obtain⟨cells,OA⟩:=OwnEls.below O7 (show Below w7.heap.size w7 (w7.alloc (.cells #[.int .u64 ((x:Int)+(z.stream+1)),.slice a6 bk.length c6] 184)) from by (repeat (first | with_reducible exact Below.refl _ _ | with_reducible assumption | (with_reducible refine below_alloc ?_ _) | (with_reducible refine Below.setCell ?_ (by first | omega | (simp;done) | (simp;omega)) _) | (with_reducible refine Below.drew ?_) | (with_reducible refine below_drewN ?_ _) | (refine below_then (by with_reducible assumption) ?_))))
      have hk8:∀b,w3.heap.size+1≤b→b<w6.heap.size→(w7.alloc (.cells #[.int .u64 ((x:Int)+(z.stream+1)),.slice a6 bk.length c6] 184)).heap[b]? =w6.heap[b]? :=fun b h1 h2=>(Below.heap_alloc w7 _ b (by have:=hb67.size;omega)).trans ((hb7.block b (by simpa using h2)).trans (Below.heap_setCell _ _ _ _ (by dsimp only;omega)))
      have hv8:=rU64s.keep (w':=(w7.alloc (.cells #[.int .u64 ((x:Int)+(z.stream+1)),.slice a6 bk.length c6] 184))) HV6.out (fun b (hb:(w3.alloc (.cells #[.int .u64 ((x:Int)+(z.stream+1)),.slice none 0 0] 184)).heap.size≤b∧b<w6.heap.size)=>hk8 b (by have:=hb.1;simp at this;omega) hb.2)
      have hx8:rLink.r (fun b=>w.heap.size≤b∧b<(w7.alloc (.cells #[.int .u64 ((x:Int)+(z.stream+1)),.slice a6 bk.length c6] 184)).heap.size∧(Value.slice (some ⟨bq,o,none⟩) J.length cv).ownBlock≠some b) (w7.alloc (.cells #[.int .u64 ((x:Int)+(z.stream+1)),.slice a6 bk.length c6] 184)) [.int .u64 ((x:Int)+(z.stream+1)),.slice a6 bk.length c6] ⟨((x:Int)+(z.stream+1)),bk⟩:=by
       refine link_mk (x:=⟨((x:Int)+(z.stream+1)),bk⟩) hxb (rU64s.mono hv8 fun b hb=> ?_)
       have h1:=hb.1
       have h2:=hb.2
       have h3:=hb67.size
       simp at h1
       refine⟨by omega,by simp;omega,fun e=> ?_⟩
       have:=hlt0 b e
       omega
      have HX:=hid hx8
      have HA:=hid OA
      have HS9:Hid (w.heap.size≤(w7.alloc (.cells #[.int .u64 ((x:Int)+(z.stream+1)),.slice a6 bk.length c6] 184)).heap.size):=hid (by simp;omega)
      clear hx8 hv8 OA OA0 hlt0 hk8 O7 hk7 hb67 hb7 B7 y0 y1 f0 f1 HV6
      go_wp2_with (at_builtin;go_loud (refine wpList_append_src rfl _ _ _ rfl w.heap.size 184 i0 (.agg #[.int .u64 0,.slice none 0 0]) 2 32 Tryz.underlying50 hi hz0 hz1 hz2 rfl (by decide) (.slice (some ⟨bq,o,none⟩) J.length cv) J.length _ rfl HA.out.1 (some ⟨w7.heap.size,0,none⟩) 1 1 [.int .u64 ((x:Int)+(z.stream+1)),.slice a6 bk.length c6] rfl (src_new1 w7 184 _ rfl rfl rfl) (by intro u hu;simp at hu;rcases hu with rfl | rfl<;>rfl) (by simp only[maxLen];omega) (by omega) HS9.out ?_;intro v1 w9 hown1 hgrow1 hat1;have OP:=hid (OwnEls.push HA.out rfl HX.out hown1 hgrow1 hat1 hgrow1.size);have hb9:Below w.heap.size w7 w9:=(Below.grown ((by (repeat (first | with_reducible exact Below.refl _ _ | with_reducible assumption | (with_reducible refine below_alloc ?_ _) | (with_reducible refine Below.setCell ?_ (by first | omega | (simp;done) | (simp;omega)) _) | (with_reducible refine Below.drew ?_) | (with_reducible refine below_drewN ?_ _) | (refine below_then (by with_reducible assumption) ?_))):Below w7.heap.size w7 _).mono hsz7) hgrow1 HS9.out (fun g e=>(HA.out.1.lt g e).1));clear hown1 hgrow1 hat1))
      have HIN9:=hid (HIN7.out.row hb9)
      have HJ9:Hid (∀y∈J++[(⟨((x:Int)+(z.stream+1)),bk⟩:Link)],0≤y.stream∧y.stream≤18446744073709551615):=hid (fun y hy=>by
       rw[List.mem_append,List.mem_singleton] at hy
       rcases hy with hy | rfl
       ·exact hJb.out y hy
       ·exact hxb)
      go_roundw
      case rel=>exact ⟨m+1+1,J++[⟨((x:Int)+(z.stream+1)),bk⟩],s6,by omega,by go_num,hid (by rw[List.length_append,hJl.out];rfl),OP.out,HJ9,HIN9,hid (by rw[HSP.out];simp)⟩
      case measure=>simp [intOf];omega
     ·rw[if_neg hk6] at hstep
      have HSP:=hid (hsp.out.trans hstep)
      have HG:=hid (fun (W:World) (hW:RdAt W g B a s6)=>(by have:=rd_good W hW;rw[decide_eq_false hk6] at this;exact this:Calls Tryz.prog 151 #[.pointer (some ⟨g,0,none⟩)] W fun r w'=>r=.returned (.bool false)∧Below W.heap.size W w'))
      obtain⟨y0,y1,f0,f1,hl6⟩:=f_blk BK6
      clear hsp hstep hk6 hv6
      go_wp2_with fail
      refine (HG.out _ (HIN6.out.row ((by (repeat (first | with_reducible exact Below.refl _ _ | with_reducible assumption | (with_reducible refine below_alloc ?_ _) | (with_reducible refine Below.setCell ?_ (by first | omega | (simp;done) | (simp;omega)) _) | (with_reducible refine Below.drew ?_) | (with_reducible refine below_drewN ?_ _) | (refine below_then (by with_reducible assumption) ?_))):Below w3.heap.size w6 _).mono hsz3)).rd).mono ?_
      rintro r w7 ⟨rfl,hb7⟩
      have hb67:Below w3.heap.size w6 w7:=(by (repeat (first | with_reducible exact Below.refl _ _ | with_reducible assumption | (with_reducible refine below_alloc ?_ _) | (with_reducible refine Below.setCell ?_ (by first | omega | (simp;done) | (simp;omega)) _) | (with_reducible refine Below.drew ?_) | (with_reducible refine below_drewN ?_ _) | (refine below_then (by with_reducible assumption) ?_))):Below w3.heap.size w6 (w6.setCell ⟨w3.heap.size,1,none⟩ (.slice a6 bk.length c6))).trans (hb7.mono (by simp;omega))
      have HE:=hid (HIN6.out.row (hb67.mono hsz3)).to
      clear hb7
      go_wp2
      go_ret
      rw[HSP.out]
      exact⟨.slice none 0 0,rfl,OwnEls.sliceW (e:=0) (Nat.le_refl _) OwnEls.nil,HE.out⟩
  ·obtain rfl:k=N:=by omega
   have hE:=hsp.out
   rw[Nat.sub_self] at hE
   have HSP:Hid (Rs.linksF B pos k s1 none []=(st,J)):=hid hE
   have hv:=OwnEls.sliceW (Nat.le_refl _) hown
   have HV:=hid hv
   have HE:=hid hin.out.to
   clear hE hv hown
   go_wp2
   go_ret
   rw[HSP.out]
   exact⟨_,rfl,HV.out,HE.out⟩
theorem entry_readhead(w:World){g:Nat}{B:List UInt8}{a:Option Addr}{s:Rs}(h:RdAt w g B a s)(hB:B.length≤1000000000)(pos:Int)(hpos:0≤pos∧pos≤18446744073709551615)(most:Int)(hmo: -9223372036854775808≤most∧most≤9223372036854775807):
  Calls Tryz.prog 358 #[.pointer (some ⟨g,0,none⟩),.int .u64 pos,.int .i64 most] w fun r w'=>∃v,r=.returned (.tuple #[.agg #[v,.slice none 0 0],.int .i64 ((s.ehead B pos most).2.2:Int)])∧rLinksW.r (Fresh w w') w' [v] (s.ehead B pos most).2.1∧RdStep w g B a (s.ehead B pos most).1 w':=by
 have HLN:=hid (fun (W:World) (hW:RdAt W g B a s)=>link_read W hW hB pos hpos)
 have HIT:=hid (fun (W:World) (hW:RdAt W g B a (s.links B pos).1)=>varint_int W hW (by omega) most hmo)
 have HIN:=hid (RdInv.refl h)
 have hlt:=h.blk.lt
 unfold Rs.ehead
 generalize s.links B pos=LK at*
 obtain⟨s1,l⟩:=LK
 dsimp only at*
 generalize s1.int B most=I at*
 obtain⟨s2,n⟩:=I
 dsimp only at*
 clear h
 by_cases hk:s2.k=0
 ·rw[if_pos hk]
  have HG:=hid (fun (W:World) (hW:RdAt W g B a s2)=>(by have:=rd_good W hW;rw[decide_eq_true hk] at this;exact this:Calls Tryz.prog 151 #[.pointer (some ⟨g,0,none⟩)] W fun r w'=>r=.returned (.bool true)∧Below W.heap.size W w'))
  clear hk
  go_enter Tryz.func358,Tryz.ntmps358
  go_wp2_with fail
  refine (HLN.out _ (HIN.out.row (by (repeat (first | with_reducible exact Below.refl _ _ | with_reducible assumption | (with_reducible refine below_alloc ?_ _) | (with_reducible refine Below.setCell ?_ (by first | omega | (simp;done) | (simp;omega)) _) | (with_reducible refine Below.drew ?_) | (with_reducible refine below_drewN ?_ _) | (refine below_then (by with_reducible assumption) ?_))))).rd).mono ?_
  rintro r w1 ⟨v1,rfl,hv1,hst1⟩
  have HIN1:=hid ((HIN.out.row (by (repeat (first | with_reducible exact Below.refl _ _ | with_reducible assumption | (with_reducible refine below_alloc ?_ _) | (with_reducible refine Below.setCell ?_ (by first | omega | (simp;done) | (simp;omega)) _) | (with_reducible refine Below.drew ?_) | (with_reducible refine below_drewN ?_ _) | (refine below_then (by with_reducible assumption) ?_))))).step hst1)
  have R1:Blk w1 w.heap.size 84 #[.slice none 0 0,.slice none 0 0]:=Blk.tch (by (repeat (first | assumption | exact Blk.newAt _ _ _ (by first | (simp;done) | (simp;omega)) | refine Blk.alloc ?_ _ | refine Blk.drew ?_ | refine Blk.drewN ?_ _ | refine Blk.far ?_ (by first | (simp;done) | (simp;omega)) _))) hst1.2 (by omega)
  have hz1:=HIN1.out.tch.size
  have hr1:=R1.lt
  obtain⟨a1,c1,hfv,_,_⟩:=sl_form (linksW_links hv1)
  simp only[List.cons.injEq,and_true] at hfv
  subst hfv
  have HV1:=hid hv1
  clear hst1 hv1
  go_wp2_with fail
  refine (HIT.out _ (HIN1.out.row ((by (repeat (first | with_reducible exact Below.refl _ _ | with_reducible assumption | (with_reducible refine below_alloc ?_ _) | (with_reducible refine Below.setCell ?_ (by first | omega | (simp;done) | (simp;omega)) _) | (with_reducible refine Below.drew ?_) | (with_reducible refine below_drewN ?_ _) | (refine below_then (by with_reducible assumption) ?_))):Below w1.heap.size w1 _).mono hz1)).rd).mono ?_
  rintro r w2 ⟨rfl,hst2⟩
  have hT2:=hst2.2
  have hz2:=hst2.2.size
  have HIN2:=hid ((HIN1.out.row ((by (repeat (first | with_reducible exact Below.refl _ _ | with_reducible assumption | (with_reducible refine below_alloc ?_ _) | (with_reducible refine Below.setCell ?_ (by first | omega | (simp;done) | (simp;omega)) _) | (with_reducible refine Below.drew ?_) | (with_reducible refine below_drewN ?_ _) | (refine below_then (by with_reducible assumption) ?_))):Below w1.heap.size w1 _).mono hz1)).step hst2)
  have B2:Blk w2 w1.heap.size 84 #[.slice a1 l.length c1,.slice none 0 0]:=Blk.tch (by (repeat (first | assumption | exact Blk.newAt _ _ _ (by first | (simp;done) | (simp;omega)) | refine Blk.alloc ?_ _ | refine Blk.drew ?_ | refine Blk.drewN ?_ _ | refine Blk.far ?_ (by first | (simp;done) | (simp;omega)) _))) hst2.2 (by omega)
  have R2:Blk w2 w.heap.size 84 #[.slice none 0 0,.slice none 0 0]:=Blk.tch (Blk.later R1 (by (repeat (first | with_reducible exact Below.refl _ _ | with_reducible assumption | (with_reducible refine below_alloc ?_ _) | (with_reducible refine Below.setCell ?_ (by first | omega | (simp;done) | (simp;omega)) _) | (with_reducible refine Below.drew ?_) | (with_reducible refine below_drewN ?_ _) | (refine below_then (by with_reducible assumption) ?_))):Below w1.heap.size w1 _)) hst2.2 (by omega)
  go_wp2_with fail
  refine (HG.out _ HIN2.out.rd).mono ?_
  rintro r w3 ⟨rfl,hb3⟩
  have HIN3:=hid (HIN2.out.row (hb3.mono HIN2.out.tch.size))
  have B3:=B2.later hb3
  have R3:=R2.later hb3
  obtain⟨x0,x1,f0,f1,l3⟩:=f_blk B3
  obtain⟨y0,y1,g0,g1,m3⟩:=f_blk R3
  go_wp2
  have RF:Blk ((w3.setCell ⟨w.heap.size,0,none⟩ (.slice a1 l.length c1)).setCell ⟨w.heap.size,1,none⟩ (.slice none 0 0)) w.heap.size 84 #[.slice a1 l.length c1,.slice none 0 0]:=(R3.set 0 _).set 1 _
  obtain⟨u0,u1,_,_,lF⟩:=f_blk RF
  have HF:Below w.heap.size w3 ((w3.setCell ⟨w.heap.size,0,none⟩ (.slice a1 l.length c1)).setCell ⟨w.heap.size,1,none⟩ (.slice none 0 0)):=by (repeat (first | with_reducible exact Below.refl _ _ | with_reducible assumption | (with_reducible refine below_alloc ?_ _) | (with_reducible refine Below.setCell ?_ (by first | omega | (simp;done) | (simp;omega)) _) | (with_reducible refine Below.drew ?_) | (with_reducible refine below_drewN ?_ _) | (refine below_then (by with_reducible assumption) ?_)))
  have HINF:=HIN3.out.row HF
  simp at hz2
  have hz3:=hb3.size
  have hkk:∀q,w.heap.size+1≤q→q<w1.heap.size→((w3.setCell ⟨w.heap.size,0,none⟩ (.slice a1 l.length c1)).setCell ⟨w.heap.size,1,none⟩ (.slice none 0 0)).heap[q]? =w1.heap[q]? :=fun q h1 h2=>
   ((Below.heap_setCell _ _ _ _ (by dsimp only;omega)).trans (Below.heap_setCell _ _ _ _ (by dsimp only;omega))).trans ((hb3.block q (by omega)).trans ((hT2.block q (by simp;omega) (by omega)).trans (Below.heap_alloc w1 _ q h2)))
  have hvF:rLinksW.r (Fresh w ((w3.setCell ⟨w.heap.size,0,none⟩ (.slice a1 l.length c1)).setCell ⟨w.heap.size,1,none⟩ (.slice none 0 0))) ((w3.setCell ⟨w.heap.size,0,none⟩ (.slice a1 l.length c1)).setCell ⟨w.heap.size,1,none⟩ (.slice none 0 0)) [.slice a1 l.length c1] l:=rLinksW.mono (rLinksW.keep HV1.out (fun q hq=>hkk q (by have:=hq.1;simp at this;omega) hq.2)) (fun q hq=>⟨by have:=hq.1;simp at this;omega,by have:=hq.2;simp;omega⟩)
  refine bodyPost_ret (v:=.tuple #[.agg #[.slice a1 l.length c1,.slice none 0 0],.int .i64 n]) (by simp[results,Tryz.results358,go_sem,u0,u1,lF]) rfl ⟨_,rfl,hvF,HINF.to⟩
 ·rw[if_neg hk]
  have HG:=hid (fun (W:World) (hW:RdAt W g B a s2)=>(by have:=rd_good W hW;rw[decide_eq_false hk] at this;exact this:Calls Tryz.prog 151 #[.pointer (some ⟨g,0,none⟩)] W fun r w'=>r=.returned (.bool false)∧Below W.heap.size W w'))
  clear hk
  go_enter Tryz.func358,Tryz.ntmps358
  go_wp2_with fail
  refine (HLN.out _ (HIN.out.row (by (repeat (first | with_reducible exact Below.refl _ _ | with_reducible assumption | (with_reducible refine below_alloc ?_ _) | (with_reducible refine Below.setCell ?_ (by first | omega | (simp;done) | (simp;omega)) _) | (with_reducible refine Below.drew ?_) | (with_reducible refine below_drewN ?_ _) | (refine below_then (by with_reducible assumption) ?_))))).rd).mono ?_
  rintro r w1 ⟨v1,rfl,hv1,hst1⟩
  have HIN1:=hid ((HIN.out.row (by (repeat (first | with_reducible exact Below.refl _ _ | with_reducible assumption | (with_reducible refine below_alloc ?_ _) | (with_reducible refine Below.setCell ?_ (by first | omega | (simp;done) | (simp;omega)) _) | (with_reducible refine Below.drew ?_) | (with_reducible refine below_drewN ?_ _) | (refine below_then (by with_reducible assumption) ?_))))).step hst1)
  have R1:Blk w1 w.heap.size 84 #[.slice none 0 0,.slice none 0 0]:=Blk.tch (by (repeat (first | assumption | exact Blk.newAt _ _ _ (by first | (simp;done) | (simp;omega)) | refine Blk.alloc ?_ _ | refine Blk.drew ?_ | refine Blk.drewN ?_ _ | refine Blk.far ?_ (by first | (simp;done) | (simp;omega)) _))) hst1.2 (by omega)
  have hz1:=HIN1.out.tch.size
  have hr1:=R1.lt
  obtain⟨a1,c1,hfv,_,_⟩:=sl_form (linksW_links hv1)
  simp only[List.cons.injEq,and_true] at hfv
  subst hfv
  have HV1:=hid hv1
  clear hst1 hv1
  go_wp2_with fail
  refine (HIT.out _ (HIN1.out.row ((by (repeat (first | with_reducible exact Below.refl _ _ | with_reducible assumption | (with_reducible refine below_alloc ?_ _) | (with_reducible refine Below.setCell ?_ (by first | omega | (simp;done) | (simp;omega)) _) | (with_reducible refine Below.drew ?_) | (with_reducible refine below_drewN ?_ _) | (refine below_then (by with_reducible assumption) ?_))):Below w1.heap.size w1 _).mono hz1)).rd).mono ?_
  rintro r w2 ⟨rfl,hst2⟩
  have hT2:=hst2.2
  have hz2:=hst2.2.size
  have HIN2:=hid ((HIN1.out.row ((by (repeat (first | with_reducible exact Below.refl _ _ | with_reducible assumption | (with_reducible refine below_alloc ?_ _) | (with_reducible refine Below.setCell ?_ (by first | omega | (simp;done) | (simp;omega)) _) | (with_reducible refine Below.drew ?_) | (with_reducible refine below_drewN ?_ _) | (refine below_then (by with_reducible assumption) ?_))):Below w1.heap.size w1 _).mono hz1)).step hst2)
  have B2:Blk w2 w1.heap.size 84 #[.slice a1 l.length c1,.slice none 0 0]:=Blk.tch (by (repeat (first | assumption | exact Blk.newAt _ _ _ (by first | (simp;done) | (simp;omega)) | refine Blk.alloc ?_ _ | refine Blk.drew ?_ | refine Blk.drewN ?_ _ | refine Blk.far ?_ (by first | (simp;done) | (simp;omega)) _))) hst2.2 (by omega)
  have R2:Blk w2 w.heap.size 84 #[.slice none 0 0,.slice none 0 0]:=Blk.tch (Blk.later R1 (by (repeat (first | with_reducible exact Below.refl _ _ | with_reducible assumption | (with_reducible refine below_alloc ?_ _) | (with_reducible refine Below.setCell ?_ (by first | omega | (simp;done) | (simp;omega)) _) | (with_reducible refine Below.drew ?_) | (with_reducible refine below_drewN ?_ _) | (refine below_then (by with_reducible assumption) ?_))):Below w1.heap.size w1 _)) hst2.2 (by omega)
  go_wp2_with fail
  refine (HG.out _ HIN2.out.rd).mono ?_
  rintro r w3 ⟨rfl,hb3⟩
  have HIN3:=hid (HIN2.out.row (hb3.mono HIN2.out.tch.size))
  have B3:=B2.later hb3
  have R3:=R2.later hb3
  obtain⟨x0,x1,f0,f1,l3⟩:=f_blk B3
  obtain⟨y0,y1,g0,g1,m3⟩:=f_blk R3
  go_wp2
  have RF:Blk ((w3.setCell ⟨w.heap.size,0,none⟩ (.slice none 0 0)).setCell ⟨w.heap.size,1,none⟩ (.slice none 0 0)) w.heap.size 84 #[.slice none 0 0,.slice none 0 0]:=(R3.set 0 _).set 1 _
  obtain⟨u0,u1,_,_,lF⟩:=f_blk RF
  have HF:Below w.heap.size w3 ((w3.setCell ⟨w.heap.size,0,none⟩ (.slice none 0 0)).setCell ⟨w.heap.size,1,none⟩ (.slice none 0 0)):=by (repeat (first | with_reducible exact Below.refl _ _ | with_reducible assumption | (with_reducible refine below_alloc ?_ _) | (with_reducible refine Below.setCell ?_ (by first | omega | (simp;done) | (simp;omega)) _) | (with_reducible refine Below.drew ?_) | (with_reducible refine below_drewN ?_ _) | (refine below_then (by with_reducible assumption) ?_)))
  have HINF:=HIN3.out.row HF
  refine bodyPost_ret (v:=.tuple #[.agg #[.slice none 0 0,.slice none 0 0],.int .i64 0]) (by simp[results,Tryz.results358,go_sem,u0,u1,lF]) rfl ⟨_,rfl,OwnEls.sliceW (e:=0) (Nat.le_refl _) OwnEls.nil,HINF.to⟩
end Go.Proofs.YtmioakocnebceaaGreat
