/- Mini: Needed by segmentOnce_walk, part 6: texts put together by shake.py; no condition. -/
import Derived.Test.YtfddhafbhceoaaaGreatWC4
import Derived.Test.YtfddhafbhceoaaaGreatWC3
import Derived.Test.YtfddhafbhceoaaaGreatWC5
import Derived.Lib.SlBytesConst
import Derived.RegionTactic
import Derived.Laws.BitsAllLaws
import Derived.Test.YtfddhafbhceoaaaGreatWC2
import Derived.Test.YtfddhafbhceoaaaGreatWC1
set_option linter.unusedVariables false
set_option linter.unusedSimpArgs false
set_option maxRecDepth 100000
set_option maxHeartbeats 6400000
namespace Go.Bs
variable{c:Nat}
theorem zBw{p:Prop}(h:p:=by have := x.toNat_lt; omega):p:=h
theorem zBc{p:Prop}(h:p:=by simp only [Value.ownBlock, ne_eq, Bh]; omega):p:=h
theorem Z8{p:Prop}(h:p:=by rw [hf.out, hst.out, hr, hv]; rfl):p:=h
theorem ZD{p:Prop}(h:p:=by have := HFIT.out; rw [HK.out] at this; simp at this ⊢; omega):p:=h
theorem ZC{p:Prop}(h:p:=by have := HLEN.out; rw [HK.out] at this; simp at this ⊢; omega):p:=h
theorem zL{p:Prop}(h:p:=by first | (simp; done) | (simp; omega)):p:=h
abbrev Vf(h:Array Value:=by exact #[Value.int .u32 (v0:Int),Value.int .u32 (v1:Int),Value.int .u32 (v2:Int),Value.int .u32 (v3:Int),Value.int .u32 (v4:Int),Value.int .u32 (v5:Int),Value.int .u32 (v6:Int),Value.int .u32 (v7:Int),Value.int .u32 (v8:Int),Value.int .u32 (v9:Int),Value.int .u32 (v10:Int),Value.int .u32 (v11:Int),Value.int .u32 (v12:Int),Value.int .u32 (v13:Int),Value.int .u32 (v14:Int),Value.int .u32 (v15:Int)]):=h
end Go.Bs
namespace Go.Proofs.YtfddhafbhceoaaaGreat
open Go.RowKit Go.Bs Go.Maps
variable{bound m:Int}{B J:List UInt8}{L base c g k n:Nat}{S:Nat → Prop}{a a1:Option Addr}{s:Rs}{w:World}
theorem EE(h:a1.map Addr.block=a.map Addr.block∨∃q,a1.map Addr.block=some q∧w.heap.size≤q){q:Nat}(hq:q<w.heap.size)(hn:¬C5 g a q):¬C5 g a1 q:=by
 rw[Fk] at hn ⊢;intro e;rcases e with e | e
 ·exact hn (.inl e)
 ·rcases h with h | ⟨q',h,h2⟩
  ·exact hn (.inr (h ▸ e))
  ·rw[h] at e;have:=A5 e;omega
theorem NR(w:World)(y:UInt8):Ag.r (·<(w.alloc (.cells #[.int .u8 (y.toNat:Int)] 5)).heap.size) (w.alloc (.cells #[.int .u8 (y.toNat:Int)] 5)) [.slice (some ⟨w.heap.size,0,none⟩) 1 1] [y]:=
 Et (l:=[y]) rfl (LJ (base:=0) (At _) (World.alloc_heap_new w _))
theorem Np(w:World){g base most:Nat}{J:List UInt8}{a:Option Addr}(h:Bn w g base most J a c)(p:List UInt8)(ad:Option Addr)(nd cd:Nat)
 (hD:Ag.r (fun q=>q<w.heap.size∧¬C5 g a q) w [.slice ad nd cd] p) (hp:p.length≤1048576) (hfit:J.length+(CM p).length≤most) (hlen:J.length+(CM p).length≤100000000000000):
  Calls Tryz.prog 276 #[.pointer (some ⟨g,0,none⟩),.slice ad nd cd] w fun r w'=>r=.returned (.tuple #[])∧Az w g base most (J++CM p) a w':=by
 obtain⟨rfl,hm,_,_⟩:=AH hD;have d1:decide ((1048576:Int)<(p.length:Int))=false:=Ae zD;have hbk:Hid (CM p=AV p.length++(if Iz p then 1::F0 (FL p) else 0::p)):=hid rfl;have hvl:(AV p.length).length≤(CM p).length:=by rw[hbk.out];simp
 have HV:=hid (Cl w h p.length zD zD zD);have HPK:=hid (fun (W:World) (hl:Ag.r (·<W.heap.size) W [.slice ad p.length cd] p)=>Ob W p ad _ cd hl hp);have HD:=hid hD;have HFIT:=hid hfit;have HLEN:=hid hlen;clear h hD hfit hlen hvl;generalize Iz p=R at*;generalize FL p=E at*;generalize AV p.length=V at*;generalize CM p=K at*;cases R
 ·have HK:Hid (K=V++(0::p)):=hid hbk.out
  clear hbk;go_enter Tryz.func276,Tryz.ntmps276;go_wp2_with fail;refine HV.out.mono ?_;rintro r w1 ⟨rfl,a1,c1,hp1,ht1,ha1⟩;have hs1:=ht1.size;have hD1:Ag.r (fun q=>q<w1.heap.size∧¬C5 g a1 q) w1 [.slice ad p.length cd] p:=Ag.mono (Ag.keep HD.out fun q hq=>ht1.block q hq.1 hq.2) fun q hq=>⟨zD,EE ha1 hq.1 hq.2⟩;have HD1:=hid hD1;clear hD1;go_wp2_with fail;refine (HPK.out _ (Ag.mono HD1.out fun q hq=>hq.1)).mono ?_;rintro r w2 ⟨v2,rfl,_,hv2,hb2⟩;obtain rfl:=hv2 trivial;have hs2:=hb2.size;have hp2:=hp1.later hb2;go_wp2_with fail;have hbW:Below w2.heap.size w2 (w2.alloc (.cells #[.int .u8 0] 5)):=zB;have hlit:Ag.r (·<(w2.alloc (.cells #[.int .u8 0] 5)).heap.size) (w2.alloc (.cells #[.int .u8 0] 5)) [.slice (some ⟨w2.heap.size,0,none⟩) 1 1] [0]:=NR w2 0;generalize w2.alloc (.cells #[.int .u8 0] 5)=W at*;have hsW:=hbW.size;refine (Ej W (hp2.later hbW) [0] (some ⟨w2.heap.size,0,none⟩) 1 1 hlit ZD ZC).mono ?_;rintro r w3 ⟨rfl,a3,c3,hp3,ht3,ha3⟩;have hs3:=ht3.size;have hD3:Ag.r (·<w3.heap.size) w3 [.slice ad p.length cd] p:=Ag.mono (Ag.keep HD1.out fun q hq=>(ht3.block q zD hq.2).trans ((hbW.block q zD).trans (hb2.block q hq.1))) fun q hq=>by omega
  have HQ:=hid (Ej w3 hp3 p ad _ cd hD3 ZD ZC);clear hD3 hlit;go_wp2_with fail;refine HQ.out.mono ?_;rintro r w4 ⟨rfl,hst⟩;have hst2:=Az.trans (J:=J) ht1 ha1 (Az.later hb2 (Az.later hbW (Az.trans (J:=J) ht3 ha3 hst)));have HST:Hid (Az w g base most (J++K) a w4):=hid (by rw[HK.out];simpa using hst2);clear hst hst2;go_wp2;first | go_end0 | refine An (AO rfl _ _ _) rfl ?_
  exact⟨rfl,HST.out⟩
 ·have HK:Hid (K=V++(1::F0 E)):=hid hbk.out
  clear hbk;go_enter Tryz.func276,Tryz.ntmps276;go_wp2_with fail;refine HV.out.mono ?_;rintro r w1 ⟨rfl,a1,c1,hp1,ht1,ha1⟩;have hs1:=ht1.size;have hD1:Ag.r (fun q=>q<w1.heap.size∧¬C5 g a1 q) w1 [.slice ad p.length cd] p:=Ag.mono (Ag.keep HD.out fun q hq=>ht1.block q hq.1 hq.2) fun q hq=>⟨zD,EE ha1 hq.1 hq.2⟩;have HD1:=hid hD1;clear hD1;go_wp2_with fail;refine (HPK.out _ (Ag.mono HD1.out fun q hq=>hq.1)).mono ?_;rintro r w2 ⟨v2,rfl,hv2,_,hb2⟩;obtain⟨a2,c2,hve,hr2,_⟩:=AJ (hv2 trivial);simp only[As,AF] at hve;subst hve;have HE:=hid hr2;clear hv2 hr2;have hs2:=hb2.size;have hp2:=hp1.later hb2;go_wp2_with fail;have hbW:Below w2.heap.size w2 (w2.alloc (.cells #[.int .u8 1] 5)):=zB;have hlit:Ag.r (·<(w2.alloc (.cells #[.int .u8 1] 5)).heap.size) (w2.alloc (.cells #[.int .u8 1] 5)) [.slice (some ⟨w2.heap.size,0,none⟩) 1 1] [1]:=NR w2 1;generalize w2.alloc (.cells #[.int .u8 1] 5)=W at*;have hsW:=hbW.size;refine (Ej W (hp2.later hbW) [1] (some ⟨w2.heap.size,0,none⟩) 1 1 hlit ZD ZC).mono ?_;rintro r w3 ⟨rfl,a3,c3,hp3,ht3,ha3⟩;have hs3:=ht3.size;have hno:∀q,w1.heap.size≤q→¬C5 g a1 q:=fun q hq hf=>by have:=(hp1.Bo hf).2;omega
  have hE3:Ag.r (fun q=>q<w3.heap.size∧¬C5 g a3 q) w3 [.slice a2 E.length c2] E:=Ag.mono (Ag.keep HE.out fun q hq=>(ht3.block q zD (hno q hq.1)).trans (hbW.block q zD)) fun q hq=>⟨zD,EE ha3 zD (hno q hq.1)⟩;have HQ:=hid (Pt w3 hp3 E a2 _ c2 hE3 ZD ZC);clear hE3 hlit hno;go_wp2_with fail;refine HQ.out.mono ?_;rintro r w4 ⟨rfl,hst⟩;have hst2:=Az.trans (J:=J) ht1 ha1 (Az.later hb2 (Az.later hbW (Az.trans (J:=J) ht3 ha3 hst)));have HST:Hid (Az w g base most (J++K) a w4):=hid (by rw[HK.out];simpa using hst2);clear hst hst2;go_wp2;first | go_end0 | refine An (AO rfl _ _ _) rfl ?_
  exact⟨rfl,HST.out⟩
theorem Mm(p:List UInt8):(CM p).length≤(AV p.length).length+p.length+1:=by
 unfold CM;by_cases h:Iz p=true
 ·have h2:=h
  unfold Iz at h2;have h3:=Gq h2;rw[Ai h];simp;omega
 ·rw[Ah h]
  simp;omega
theorem KO(w:World)(p:List UInt8)(a:Option Addr)(n c:Nat)(hl:Ag.r (·<w.heap.size) w [.slice a n c] p)(hp:p.length≤1048576):
  Calls Tryz.prog 213 #[.slice a n c] w fun r w'=>∃v,r=.returned (.tuple #[v,.int .i64 0])∧Ag.r (fun q=>w.heap.size≤q∧q<w'.heap.size) w' [v] (CM p)∧Below w.heap.size w w':=by
 obtain⟨rfl,hm,_,_⟩:=AH hl;have HS:=hid (Im p.length zD w);have hbl:=Mm p;have hvl:=A3 p.length;have HL:=hid hl;clear hl;generalize (AV p.length).length=k at*;have hbK:=hid hbl;clear hbl;go_enter Tryz.func213,Tryz.ntmps213;go_wp2_with fail;refine HS.out.mono ?_;rintro r w1 ⟨rfl,hb1⟩;have HN:=hid (EV w1 (k+p.length+1) zD);rw[show ((k+p.length+1:Nat):Int)=(k:Int)+(p.length:Int)+1 by omega] at HN;have hs1:=hb1.size;go_wp2_with fail;refine HN.out.mono ?_;rintro r w2 ⟨rfl,hp2,hb2⟩;have hs2:=hb2.size;have hbw2:=Af hb2 hb1;have HQ:=hid (Np w2 hp2 p a _ c (Ag.mono (Ag.keep HL.out fun q hq=>hbw2.block q hq) fun q hq=>⟨zD,fun hf=>by have:=(hp2.Bo hf).1;omega⟩) hp (by have:=hbK.out;simp;omega) (by have:=hbK.out;simp;omega));have HP2:=hid hp2;clear hp2;go_wp2_with fail;refine HQ.out.mono ?_;rintro r w3 ⟨rfl,hst⟩;have hb3:Below w1.heap.size w2 w3:=HP2.out.below (Ap _) zD hst;obtain⟨a3,c3,hp3,_,_⟩:=hst;rw[A8] at hp3;have hs3:=hb3.size;have hbw3:Below w.heap.size w w3:=hbw2.trans (hb3.mono zD);have HB:=hid (Es w3 hp3);clear hp3;go_wp2_with fail;refine HB.out.mono ?_;rintro r w4 ⟨v,rfl,hv,hb4⟩;have hbe:=Af hb4 hbw3;have HV:=hid (Ag.mono (S':=fun q=>w.heap.size≤q∧q<w4.heap.size) hv fun q hq=>⟨ZF,hq.2⟩);clear hv;go_wp2;go_ret2
 exact⟨_,rfl,HV.out,hbe⟩
def Rs.inn(s:Rs)(L:Nat):Prop:=0≤s.f∧s.f≤L
theorem Rs.GQ(h:s.inn L){c at_:Int}(h1:0≤at_)(h2:at_≤L):(s.fail c at_).inn L:=by
 unfold Rs.fail;split
 ·exact⟨h1,h2⟩
 ·exact h
theorem Rs.ND(h:s.ok L)(hi:s.inn L)(n:Int):(s.skip L n).2.inn L:=by
 have:=h.le;unfold Rs.skip Rs.inn at*;split
 ·split
  ·dsimp only;omega
  ·split
   ·dsimp only;omega
   ·dsimp only;omega
 ·exact hi
theorem Rs.Qh(h:s.ok B.length)(hi:s.inn B.length):(s.num B).1.inn B.length:=by
 have hu:=Fv (B.drop s.p) 0 0;have hl:(B.drop s.p).length=B.length-s.p:=zQ;have:=h.le;unfold Rs.num Rs.inn at*;split
 ·dsimp only
  split
  ·omega
  ·split
   ·omega
   ·rename_i h1 h2
    have:=hu.2.2.2.2 h2;omega
 ·exact hi
theorem Rs.Ub(h:s.ok B.length)(hi:s.inn B.length):(s.head B).1.inn B.length:=by
 have hle:=h.le;have hn:=Rs.Qh h hi;unfold Rs.head;split
 ·split
  ·split
   ·exact Rs.GQ hn zD zD
   ·exact hn
  ·split
   ·exact Rs.GQ hn zD zD
   ·exact hn
 ·exact hn
theorem Rs.J1(h:s.ok B.length)(hi:s.inn B.length):(s.offset B).1.inn B.length:=by
 have hle:=h.le;have hn:=Rs.Qh h hi;unfold Rs.offset;dsimp only;split
 ·exact Rs.GQ hn zD zD
 ·exact hn
theorem Sn{out:List UInt8}(h:s.ok B.length)(hi:s.inn B.length):(CL B bound s out).1.inn B.length:=by
 have hle:=h.le;have hh:=Rs.Ub h hi;have ho:=Rs.GO h;have hle2:=ho.le;unfold CL;split
 ·exact Rs.GQ hh zD zD
 ·split
  ·exact Rs.ND ho hh _
  ·split
   ·exact Rs.GQ (Rs.J1 ho hh) zD zD
   ·split
    ·exact Rs.J1 ho hh
    ·exact Rs.J1 ho hh
theorem Tu:∀(f:Nat) (s:Rs) (out:List UInt8),s.ok B.length→s.inn B.length→(exF B bound f s out).1.inn B.length
 | 0,s,out,_,h=>h
 | f+1,s,out,h1,h2=>by
  simp only[exF];split
  ·exact Tu f _ _ (Kc h1) (Sn h1 h2)
  ·exact h2
theorem Pc:∀(f:Nat) (s:Rs) (out:List UInt8),QJ bound out→QJ bound (exF B bound f s out).2
 | 0,s,out,h=>h
 | f+1,s,out,h=>by
  simp only[exF];split
  ·exact Pc f _ _ (Ng h)
  ·exact h
theorem Nh(B:List UInt8)(bound:Int):(exB B bound).1.length≤bound.toNat∧0≤(exB B bound).2.2∧(exB B bound).2.2≤B.length∧((exB B bound).2.1≠0→(exB B bound).1=[]):=by
 have h1:=Tu (B:=B) (bound:=bound) B.length ⟨0,0,0⟩ [] ⟨At _,fun _=>rfl⟩ ⟨zQ,zQ⟩;have h2:=Pc (B:=B) (bound:=bound) B.length ⟨0,0,0⟩ [] (.inl rfl);unfold exB;split
 ·refine⟨?_,zQ,zQ,zQ⟩
  rcases h2 with h | h
  ·rw[h];simp
  ·dsimp only;omega
 ·exact⟨zQ,h1.1,h1.2,zQ⟩
theorem Rs.Tl:s.p≤(s.int B m).1.p:=by
 unfold Rs.int Rs.most;split
 ·split
  ·rw[Rs.Hr];exact Rs.Tf
  ·exact Rs.Tf
 ·rw[Rs.Hr];exact Rs.Tf
theorem Rs.Mh(h:s.ok B.length):s.p≤(s.byte B).1.p:=Rs.S0 h 1
theorem Rs.PK(h:s.ok B.length)(n:Int):s.p≤(s.take B n).1.p:=Rs.S0 h n
theorem Rs.UA(h:s.ok B.length)(m:Int):s.p≤(s.Dk B m).1.p:=A6 (Rs.Tl (m:=m)) (Rs.PK (Rs.Dp h) _)
theorem Rs.Gk(h:s.ok B.length)(m:Int):(s.Dk B m).1.ok B.length:=Rs.EU (Rs.Dp h) _
def Rs.unp(B:List UInt8)(s:Rs)(n:Nat):Rs × List UInt8:=
 if (s.Dk B 1048576).1.k=0 then
  (if (exB (s.Dk B 1048576).2 n).2.1=0 then
   (if (exB (s.Dk B 1048576).2 n).1.length<n then ((s.Dk B 1048576).1.fail 3 (s.Dk B 1048576).1.p,(exB (s.Dk B 1048576).2 n).1) else ((s.Dk B 1048576).1,(exB (s.Dk B 1048576).2 n).1))
  else ((s.Dk B 1048576).1.fail (exB (s.Dk B 1048576).2 n).2.1 ((exB (s.Dk B 1048576).2 n).2.2+(((s.Dk B 1048576).1.p:Int)-((s.Dk B 1048576).2.length:Int))),[]))
 else ((s.Dk B 1048576).1,[])
theorem Rs.SN(h:s.ok B.length)(n:Nat):(s.unp B n).1.ok B.length:=by
 unfold Rs.unp;split
 ·split
  ·split
   ·exact Rs.Ce (Rs.Gk h _) zD
   ·exact Rs.Gk h _
  ·exact Rs.Ce (Rs.Gk h _) zM
 ·exact Rs.Gk h _
theorem Rs.Uk(h:s.ok B.length)(n:Nat):s.p≤(s.unp B n).1.p:=by
 have:=Rs.UA h 1048576;unfold Rs.unp;split
 ·split
  ·split
   ·rw[Rs.Hr];exact this
   ·exact this
  ·rw[Rs.Hr];exact this
 ·exact this
theorem Rs.Ra(n:Nat):(s.unp B n).2.length≤n:=by
 have:=(Nh (s.Dk B 1048576).2 n).1;unfold Rs.unp;split
 ·split
  ·split
   ·dsimp only;omega
   ·dsimp only;omega
  ·simp
 ·simp
def Rs.loose(B:List UInt8)(s:Rs)(most:Int):Rs × List UInt8 × Bool:=
 if ((s.int B (min most 1048576)).1.byte B).1.k=0 then
  (if ((s.int B (min most 1048576)).1.byte B).2.toNat=0 then
   (if (((s.int B (min most 1048576)).1.byte B).1.take B ((s.int B (min most 1048576)).2:Int)).1.k=0 then ((((s.int B (min most 1048576)).1.byte B).1.take B ((s.int B (min most 1048576)).2:Int)).1,(((s.int B (min most 1048576)).1.byte B).1.take B ((s.int B (min most 1048576)).2:Int)).2,decide (CM (((s.int B (min most 1048576)).1.byte B).1.take B ((s.int B (min most 1048576)).2:Int)).2=(B.drop s.p).take ((((s.int B (min most 1048576)).1.byte B).1.take B ((s.int B (min most 1048576)).2:Int)).1.p-s.p)))
   else ((((s.int B (min most 1048576)).1.byte B).1.take B ((s.int B (min most 1048576)).2:Int)).1,[],false))
  else if ((s.int B (min most 1048576)).1.byte B).2.toNat=1 then
   (if (((s.int B (min most 1048576)).1.byte B).1.unp B (s.int B (min most 1048576)).2).1.k=0 then ((((s.int B (min most 1048576)).1.byte B).1.unp B (s.int B (min most 1048576)).2).1,(((s.int B (min most 1048576)).1.byte B).1.unp B (s.int B (min most 1048576)).2).2,decide (CM (((s.int B (min most 1048576)).1.byte B).1.unp B (s.int B (min most 1048576)).2).2=(B.drop s.p).take ((((s.int B (min most 1048576)).1.byte B).1.unp B (s.int B (min most 1048576)).2).1.p-s.p)))
   else ((((s.int B (min most 1048576)).1.byte B).1.unp B (s.int B (min most 1048576)).2).1,[],false))
  else (((s.int B (min most 1048576)).1.byte B).1.fail 7 ((((s.int B (min most 1048576)).1.byte B).1.p:Int)-1),[],false))
 else (((s.int B (min most 1048576)).1.byte B).1,[],false)
theorem Hw(x y:List UInt8)(a a':Option Addr)(n c n' c':Nat)(w:World)(hx:Ag.r (·<w.heap.size) w [.slice a n c] x)(hy:Ag.r (·<w.heap.size) w [.slice a' n' c'] y):
  Calls Tryz.prog 201 #[.slice a n c,.slice a' n' c'] w fun r w'=>r=.returned (.bool (decide (x=y)))∧w=w':=by
 obtain⟨rfl,_,_,_⟩:=AH hx;obtain⟨rfl,_,_,_⟩:=AH hy;have h1:=FC (P:=Tryz.prog) 22 9 5 AG E9 GV hx;have h2:=FC (P:=Tryz.prog) 22 9 5 AG E9 GV hy;have he:(x==y)=decide (x=y):=by
  by_cases h:x=y
  ·simp[h]
  ·simp[h]
 have HE:=hid he;clear he hx hy;go_enter Tryz.func201,Tryz.ntmps201;go_wp2;go_ret;refine⟨?_,rfl⟩;rw[←HE.out];simp[go_sem]
theorem O9(w:World)(k f b:Int)(hk:k≠0)(hf: -1000000000000≤f∧f≤1000000000000)(hb: -1000000000000≤b∧b≤1000000000000):Calls Tryz.prog 117 #[.agg #[.int .i64 k,.int .i64 f],.int .i64 b] w fun r w'=>r=.returned (.agg #[.int .i64 k,.int .i64 (f+b)])∧Below w.heap.size w w':=by
 go_enter Tryz.func117,Tryz.ntmps117;go_wp2_with fail;refine (L6 _ k (f+b) hk).mono ?_;rintro r w1 ⟨rfl,hb1⟩;have B1:Blk w1 (w.heap.size+1) 65 #[.int .i64 0,.int .i64 0]:=Blk.later zC hb1;obtain⟨y0,y1,g0,g1,l1⟩:=Bg B1;have hbw:Below w.heap.size w w1:=zA;clear B1 hb1;go_wp2;refine An (v:=.agg #[.int .i64 k,.int .i64 (f+b)]) (by simp[results,Tryz.results117,go_sem,y0,y1,l1]) rfl ⟨rfl,zA⟩
theorem Ml(w:World){g:Nat}{B:List UInt8}{a:Option Addr}{s:Rs}(h:AN w g B a s)(hB:B.length≤1000000000)(n:Nat)(hn:n≤1048576):Calls Tryz.prog 212 #[.pointer (some ⟨g,0,none⟩),.int .i64 (n:Int)] w fun r w'=>∃v,r=.returned v∧Ag.r (fun q=>w.heap.size≤q∧q<w'.heap.size) w' [v] (s.unp B n).2∧Ay w g B a (s.unp B n).1 w':=by
 have HB:=hid (Nq w h zD 1048576 zD);have hbok:=Rs.Gk h.ok 1048576;have hlen:(s.Dk B 1048576).2.length≤B.length:=by
  unfold Rs.Dk Rs.take;dsimp only;split
  ·simp;omega
  ·simp
 have hxf:=Nh (s.Dk B 1048576).2 n;have hX:=hid (fun (W:World) (aD:Option Addr) (nD cD:Nat) (hl:Ag.r (·<W.heap.size) W [.slice aD nD cD] (s.Dk B 1048576).2)=>N4 W (s.Dk B 1048576).2 aD nD cD hl zD n zD);have hpl:=hbok.le;unfold Rs.unp;generalize s.Dk B 1048576=T at*;generalize exB T.2 n=X at*;obtain⟨s1,D⟩:=T;obtain⟨out,k,f⟩:=X;dsimp only at*;have hgl:=h.blk.lt;have HDAT:=hid h.dat;clear h;by_cases h1:s1.k=0
 ·have dk:decide (s1.k=0)=true:=Ad h1
  rw[Ai h1];have H1:=hid h1;clear h1;by_cases h2:k=0
  ·have d2:decide (k=0)=true:=Ad h2
   rw[Ai h2];clear h2;by_cases h3:out.length<n
   ·have d3:decide ((out.length:Int)<(n:Int))=true:=Ad zD
    have d3':decide (out.length<n)=true:=Ad h3;rw[Ai h3];clear h3;dsimp only;go_enter Tryz.func212,Tryz.ntmps212;go_wp2_with fail;refine HB.out.mono ?_;rintro r w1 ⟨v,rfl,hr,hst⟩;obtain⟨aD,cD,hv,hr2,_⟩:=AJ hr;simp only[As,AF] at hv;subst hv;have HD1:=hid hr2;have HST:=hid hst;have hs1:=hst.size;have hG:=AK w1 hst.1;rw[dk] at hG;have HG:=hid hG;clear hr hr2 hst hG dk;go_wp2_with fail;refine HG.out.mono ?_;rintro r w2 ⟨rfl,hb2⟩;have hs2:=hb2.size;have HAT:=hid (BI w2 (HST.out.1.later hb2));go_wp2_with fail;refine HAT.out.mono ?_;rintro r w2' ⟨rfl,rfl⟩;go_wp2_with fail;refine (hX.out w2 aD _ cD (Ag.mono (Ag.keep HD1.out fun q hq=>hb2.block q hq.2) fun q hq=>zD)).mono ?_;rintro r w3 ⟨v3,rfl,hr,hb3⟩;obtain⟨a3,c3,hv,hr2,_⟩:=AJ hr;simp only[As,AF] at hv;subst hv;have HR3:=hid hr2;have hs3:=hb3.size;clear hr hr2;have hG:=Di (w3.alloc (.cells #[.int .i64 k,.int .i64 f] 65)) k f;rw[d2] at hG;have HG3:=hid hG;clear hG d2;go_wp2_with fail;refine HG3.out.mono ?_;rintro r w4 ⟨rfl,hb4⟩;have hb34:Below w3.heap.size w3 w4:=zA;have hb14:Below w1.heap.size w1 w4:=Af hb34 (Af hb3 hb2);have HST4:=hid (HST.out.then hb14);have hs4:=hb34.size;have HKP:=hid (Ag.mono (S':=fun q=>w2.heap.size≤q∧q<w4.heap.size) (Ag.keep HR3.out fun q hq=>hb34.block q hq.2) fun q hq=>⟨hq.1,zD⟩);have HAT2:=hid (BI _ HST4.out.1);go_wp2_with fail;refine HAT2.out.mono ?_;rintro r w4' ⟨rfl,rfl⟩;have HF:=hid (Bd _ HST4.out.1 3 s1.p zD);go_wp2_with fail;refine HF.out.mono ?_;rintro r w5 ⟨rfl,hst5⟩;have hs5:=hst5.size;have HR5:=hid (Ag.mono (S':=fun q=>w.heap.size≤q∧q<w5.heap.size) (Ag.keep HKP.out fun q hq=>hst5.2.block q hq.2 zD) fun q hq=>⟨zD,zD⟩);have HST5:=hid (Ay.trans HST4.out.2 hst5);clear hst5;go_wp2;go_ret;exact⟨_,rfl,HR5.out,HST5.out⟩
   ·have d3:decide ((out.length:Int)<(n:Int))=false:=Ae zD
    have d3':decide (out.length<n)=false:=Ae h3;rw[Ah h3];clear h3;dsimp only;go_enter Tryz.func212,Tryz.ntmps212;go_wp2_with fail;refine HB.out.mono ?_;rintro r w1 ⟨v,rfl,hr,hst⟩;obtain⟨aD,cD,hv,hr2,_⟩:=AJ hr;simp only[As,AF] at hv;subst hv;have HD1:=hid hr2;have HST:=hid hst;have hs1:=hst.size;have hG:=AK w1 hst.1;rw[dk] at hG;have HG:=hid hG;clear hr hr2 hst hG dk;go_wp2_with fail;refine HG.out.mono ?_;rintro r w2 ⟨rfl,hb2⟩;have hs2:=hb2.size;have HAT:=hid (BI w2 (HST.out.1.later hb2));go_wp2_with fail;refine HAT.out.mono ?_;rintro r w2' ⟨rfl,rfl⟩;go_wp2_with fail;refine (hX.out w2 aD _ cD (Ag.mono (Ag.keep HD1.out fun q hq=>hb2.block q hq.2) fun q hq=>zD)).mono ?_;rintro r w3 ⟨v3,rfl,hr,hb3⟩;obtain⟨a3,c3,hv,hr2,_⟩:=AJ hr;simp only[As,AF] at hv;subst hv;have HR3:=hid hr2;have hs3:=hb3.size;clear hr hr2;have hG:=Di (w3.alloc (.cells #[.int .i64 k,.int .i64 f] 65)) k f;rw[d2] at hG;have HG3:=hid hG;clear hG d2;go_wp2_with fail;refine HG3.out.mono ?_;rintro r w4 ⟨rfl,hb4⟩;have hb34:Below w3.heap.size w3 w4:=zA;have hb14:Below w1.heap.size w1 w4:=Af hb34 (Af hb3 hb2);have HST4:=hid (HST.out.then hb14);have hs4:=hb34.size;have HKP:=hid (Ag.mono (S':=fun q=>w2.heap.size≤q∧q<w4.heap.size) (Ag.keep HR3.out fun q hq=>hb34.block q hq.2) fun q hq=>⟨hq.1,zD⟩);have HR5:=hid (Ag.mono (S':=fun q=>w.heap.size≤q∧q<w4.heap.size) HKP.out fun q hq=>⟨zD,zD⟩);go_wp2;go_ret;exact⟨_,rfl,HR5.out,HST4.out⟩
  ·have d2:decide (k=0)=false:=Ae h2
   rw[Ah h2];have ho:=hxf.2.2.2 h2;subst ho;have HK2:=hid h2;clear h2;dsimp only;go_enter Tryz.func212,Tryz.ntmps212;go_wp2_with fail;refine HB.out.mono ?_;rintro r w1 ⟨v,rfl,hr,hst⟩;obtain⟨aD,cD,hv,hr2,_⟩:=AJ hr;simp only[As,AF] at hv;subst hv;have HD1:=hid hr2;have HST:=hid hst;have hs1:=hst.size;have hG:=AK w1 hst.1;rw[dk] at hG;have HG:=hid hG;clear hr hr2 hst hG dk;go_wp2_with fail;refine HG.out.mono ?_;rintro r w2 ⟨rfl,hb2⟩;have hs2:=hb2.size;have HAT:=hid (BI w2 (HST.out.1.later hb2));go_wp2_with fail;refine HAT.out.mono ?_;rintro r w2' ⟨rfl,rfl⟩;go_wp2_with fail;refine (hX.out w2 aD _ cD (Ag.mono (Ag.keep HD1.out fun q hq=>hb2.block q hq.2) fun q hq=>zD)).mono ?_;rintro r w3 ⟨v3,rfl,hr,hb3⟩;obtain⟨a3,c3,hv,hr2,_⟩:=AJ hr;simp only[As,AF] at hv;subst hv;have HR3:=hid hr2;have hs3:=hb3.size;clear hr hr2;have hG:=Di (w3.alloc (.cells #[.int .i64 k,.int .i64 f] 65)) k f;rw[d2] at hG;have HG3:=hid hG;clear hG d2;go_wp2_with fail;refine HG3.out.mono ?_;rintro r w4 ⟨rfl,hb4⟩;have hb34:Below w3.heap.size w3 w4:=zA;have hb14:Below w1.heap.size w1 w4:=Af hb34 (Af hb3 hb2);have HST4:=hid (HST.out.then hb14);have hs4:=hb34.size;have HKP:=hid (Ag.mono (S':=fun q=>w2.heap.size≤q∧q<w4.heap.size) (Ag.keep HR3.out fun q hq=>hb34.block q hq.2) fun q hq=>⟨hq.1,zD⟩);have B4:Blk w4 w3.heap.size 65 #[.int .i64 k,.int .i64 f]:=Blk.later (Blk.newAt _ _ _ rfl) hb4;obtain⟨y0,y1,g0,g1,l1⟩:=Bg B4;have HSH:=hid (O9 w4 k f ((s1.p:Int)-(D.length:Int)) HK2.out zD zD);go_wp2_with fail;refine HSH.out.mono ?_;rintro r w5 ⟨rfl,hb5⟩;have B5:=B4.later hb5;clear y0 y1 g0 g1 l1 B4;obtain⟨y0,y1,g0,g1,l1⟩:=Bg B5;clear B5;have hk5:Ay w g B a s1 ((w5.setCell ⟨w3.heap.size,0,none⟩ (.int .i64 k)).setCell ⟨w3.heap.size,1,none⟩ (.int .i64 (f+((s1.p:Int)-(D.length:Int))))):=by
    have h5:=HST4.out.then hb5;refine⟨⟨Blk.far (Blk.far h5.1.blk zH _) zH _,?_,h5.1.ok⟩,Tch.setCell (Tch.setCell h5.2 (fun e=>by dsimp only at e;omega) _) (fun e=>by dsimp only at e;omega) _⟩;refine Ag.mono (Ag.keep (S:=fun q=>q<w.heap.size∧q≠g) (Ag.keep HDAT.out fun q hq=>h5.2.block q hq.1 hq.2) fun q hq=> ?_) fun q hq=>⟨by have:=h5.size;simp[World.setCell];omega,hq.2⟩;have:=hq.1;rw[Aw _ _ _ _ zH,Aw _ _ _ _ zH]
   have HK5:=hid hk5;clear hk5;have hsz5:w.heap.size≤((w5.setCell ⟨w3.heap.size,0,none⟩ (.int .i64 k)).setCell ⟨w3.heap.size,1,none⟩ (.int .i64 (f+((s1.p:Int)-(D.length:Int))))).heap.size:=HK5.out.size;have HF:=hid (Bd _ HK5.out.1 k (f+((s1.p:Int)-(D.length:Int))) HK2.out);go_wp2_with fail;refine HF.out.mono ?_;rintro r w6 ⟨rfl,hst6⟩;have HST6:=hid (Ay.trans HK5.out.2 hst6);clear hst6 hsz5;go_wp2;go_ret;exact⟨_,rfl,Bl rfl rfl (AH HR3.out).2.2.2,HST6.out⟩
 ·have dk:decide (s1.k=0)=false:=Ae h1
  rw[Ah h1];clear h1;dsimp only;go_enter Tryz.func212,Tryz.ntmps212;go_wp2_with fail;refine HB.out.mono ?_;rintro r w1 ⟨v,rfl,hr,hst⟩;obtain⟨aD,cD,hv,hr2,_⟩:=AJ hr;simp only[As,AF] at hv;subst hv;have HD1:=hid hr2;have HST:=hid hst;have hs1:=hst.size;have hG:=AK w1 hst.1;rw[dk] at hG;have HG:=hid hG;clear hr hr2 hst hG dk;go_wp2_with fail;refine HG.out.mono ?_;rintro r w2 ⟨rfl,hb2⟩;have hs2:=hb2.size;have HST2:=hid (HST.out.then hb2);go_wp2;go_ret;exact⟨_,rfl,Bl rfl rfl zD,HST2.out⟩
theorem KN(w:World){g:Nat}{B:List UInt8}{a:Option Addr}{s:Rs}(h:AN w g B a s)(hB:B.length≤1000000000)(most:Int)(hm: -9223372036854775808≤most∧most≤9223372036854775807):
  Calls Tryz.prog 140 #[.pointer (some ⟨g,0,none⟩),.int .i64 most] w fun r w'=>∃v,r=.returned (.tuple #[v,.bool (s.loose B most).2.2])∧Ag.r (fun q=>w.heap.size≤q∧q<w'.heap.size) w' [v] (s.loose B most).2.1∧Ay w g B a (s.loose B most).1 w':=by
 have hgl:=h.blk.lt;have HA:=hid (BI w h);have HI:=hid (Ct w h zD (min most 1048576) zD);have hiok:=Rs.Dp h.ok (m:=min most 1048576);have hip:=Rs.Tl (B:=B) (s:=s) (m:=min most 1048576);have hile:(s.int B (min most 1048576)).2≤1048576:=by have:=Rs.EJ (B:=B) (s:=s) (m:=min most 1048576);omega
 have hbok:=Rs.Fp hiok;have hbp:=Rs.Mh hiok;have hBY:=hid (fun (W:World) (h:AN W g B a (s.int B (min most 1048576)).1)=>Jq W h);have hTK:=hid (fun (W:World) (h:AN W g B a ((s.int B (min most 1048576)).1.byte B).1)=>Ih W h ((s.int B (min most 1048576)).2:Int) zD zD);have htp:=Rs.PK hbok ((s.int B (min most 1048576)).2:Int);have htl:(((s.int B (min most 1048576)).1.byte B).1.take B ((s.int B (min most 1048576)).2:Int)).2.length≤1048576:=by
  by_cases h0:(((s.int B (min most 1048576)).1.byte B).1.take B ((s.int B (min most 1048576)).2:Int)).1.k=0
  ·rw[(Rs.DI h0).2.2];omega
  ·rw[Rs.Ln h0];simp
 have hUN:=hid (fun (W:World) (h:AN W g B a ((s.int B (min most 1048576)).1.byte B).1)=>Ml W h hB (s.int B (min most 1048576)).2 hile);have hup:=Rs.Uk hbok (s.int B (min most 1048576)).2;have hul:(((s.int B (min most 1048576)).1.byte B).1.unp B (s.int B (min most 1048576)).2).2.length≤1048576:=A6 (Rs.Ra _) hile;have hFL:=hid (fun (W:World) (h:AN W g B a ((s.int B (min most 1048576)).1.byte B).1)=>Bd W h 7 ((((s.int B (min most 1048576)).1.byte B).1.p:Int)-1) zD);have hfk:=Rs.A0 (s:=((s.int B (min most 1048576)).1.byte B).1) (c:=7) (at_:=((((s.int B (min most 1048576)).1.byte B).1.p:Int)-1)) zD;have hSN:=hid (fun (W:World) (t:Rs) (h:AN W g B a t) (hp:s.p≤t.p)=>S5 W h s.p hp zD);have hbyp:((s.int B (min most 1048576)).1.byte B).1.p≤B.length:=hbok.le;have hb1:((s.int B (min most 1048576)).1.byte B).1.k=0→1≤((s.int B (min most 1048576)).1.byte B).1.p:=fun hk=>by rw[Mh rfl hk];omega
 unfold Rs.loose;generalize ((s.int B (min most 1048576)).1.byte B).1.fail 7 ((((s.int B (min most 1048576)).1.byte B).1.p:Int)-1)=F1 at*;generalize ((s.int B (min most 1048576)).1.byte B).1.take B ((s.int B (min most 1048576)).2:Int)=T at*;generalize ((s.int B (min most 1048576)).1.byte B).1.unp B (s.int B (min most 1048576)).2=U at*;generalize (s.int B (min most 1048576)).1.byte B=Y at*;generalize s.int B (min most 1048576)=N at*;obtain⟨sd,n⟩:=N;obtain⟨se,y⟩:=Y;obtain⟨st,DT⟩:=T;obtain⟨su,DU⟩:=U;dsimp only at*;have hSNt:=hid (fun (W:World) (h:AN W g B a st)=>hSN.out W st h zD);have hSNu:=hid (fun (W:World) (h:AN W g B a su)=>hSN.out W su h zD);generalize (B.drop s.p).take (st.p-s.p)=S1 at*;generalize (B.drop s.p).take (su.p-s.p)=S2 at*;clear hSN;have hM:(if most≤1048576 then most else 1048576)=min most 1048576:=by split<;>omega
 have hM2:(if (1048576:Int)<most then (1048576:Int) else most)=min most 1048576:=by split<;>omega
 generalize min most 1048576=M at*;have hy:=y.toNat_lt;clear h;by_cases hk:se.k=0
 ·have dk:decide (se.k=0)=true:=Ad hk
  have hp1:=hb1 hk;rw[Ai hk];clear hk hb1;by_cases h0:y.toNat=0
  ·have d0:((y.toNat:Int)==0)=true:=by rw[h0];rfl
   rw[Ai h0];clear h0;by_cases ht:st.k=0
   ·have dt:decide (st.k=0)=true:=Ad ht
    rw[Ai ht];clear ht;dsimp only;go_enter Tryz.func140,Tryz.ntmps140;go_wp2_with fail;refine HA.out.mono ?_;rintro r w0 ⟨rfl,rfl⟩;go_wp2_with fail;refine HI.out.mono ?_;rintro r w1 ⟨rfl,hst1⟩;have HST1:=hid hst1;have HBY:=hid (hBY.out w1 hst1.1);clear hst1;go_wp2_with fail;refine HBY.out.mono ?_;rintro r w2 ⟨rfl,hst2⟩;have HST2:=hid (Ay.trans HST1.out.2 hst2);have hG:=AK w2 hst2.1;rw[dk] at hG;have HG:=hid hG;clear hst2 hG dk;go_wp2_with fail;refine HG.out.mono ?_;rintro r w3 ⟨rfl,hb3⟩;have HST3:=hid (HST2.out.then hb3);have hs3:=HST3.out.size;have HC:=hid (hTK.out w3 HST3.out.1);go_wp2_with fail;refine HC.out.mono ?_;rintro r w4 ⟨v,rfl,hr,hst4⟩;obtain⟨aD,cD,hv,hr2,_⟩:=AJ hr;simp only[As,AF] at hv;subst hv;have HR4:=hid hr2;have hs4:=hst4.size;have HST4:=hid (Ay.trans HST3.out.2 hst4);have hG4:=AK w4 hst4.1;rw[dt] at hG4;have HG4:=hid hG4;clear hr hr2 hst4 hG4 dt;go_wp2_with fail;refine HG4.out.mono ?_;rintro r w5 ⟨rfl,hb5⟩;have HST5:=hid (HST4.out.then hb5);have hs5:=hb5.size;have HR5:=hid (Ag.mono (S':=fun q=>w3.heap.size≤q∧q<w5.heap.size) (Ag.keep HR4.out fun q hq=>hb5.block q hq.2) fun q hq=>⟨hq.1,zD⟩);have HBB:=hid (KO w5 DT aD _ cD (Ag.mono HR5.out fun q hq=>hq.2) htl);go_wp2_with fail;refine HBB.out.mono ?_;rintro r w6 ⟨v6,rfl,hr,hb6⟩;obtain⟨a6,c6,hv,hr2,_⟩:=AJ hr;simp only[As,AF] at hv;subst hv;have HR6:=hid hr2;have hs6:=hb6.size;have HST6:=hid (HST5.out.then hb6);have HSN:=hid (hSNt.out w6 HST6.out.1);clear hr hr2;go_wp2_with fail;refine HSN.out.mono ?_;rintro r w7 ⟨v7,rfl,hr,hb7⟩;obtain⟨a7,c7,hv,hr2,_⟩:=AJ hr;simp only[As,AF] at hv;subst hv;have HR7:=hid hr2;have hs7:=hb7.size;have HST7:=hid (HST6.out.then hb7);have HEQ:=hid (Hw (CM DT) S1 a6 a7 _ c6 _ c7 w7 (Ag.mono (Ag.keep HR6.out fun q hq=>hb7.block q hq.2) fun q hq=>zD) (Ag.mono HR7.out fun q hq=>hq.2));generalize hq:decide (CM DT=S1)=q at*;have HQ:=hid hq;clear hq;clear hr hr2;go_wp2_with fail;refine HEQ.out.mono ?_;rintro r w8 ⟨rfl,rfl⟩;have HRF:=hid (Ag.mono (S':=fun q=>w.heap.size≤q∧q<w7.heap.size) (Ag.keep HR5.out fun q hq=>(hb7.block q zD).trans (hb6.block q hq.2)) fun q hq=>⟨zD,zD⟩);go_wp2;go_ret2
    rw[HQ.out];exact⟨_,rfl,HRF.out,HST7.out⟩
   ·have dt:decide (st.k=0)=false:=Ae ht
    rw[Ah ht];clear ht;dsimp only;go_enter Tryz.func140,Tryz.ntmps140;go_wp2_with fail;refine HA.out.mono ?_;rintro r w0 ⟨rfl,rfl⟩;go_wp2_with fail;refine HI.out.mono ?_;rintro r w1 ⟨rfl,hst1⟩;have HST1:=hid hst1;have HBY:=hid (hBY.out w1 hst1.1);clear hst1;go_wp2_with fail;refine HBY.out.mono ?_;rintro r w2 ⟨rfl,hst2⟩;have HST2:=hid (Ay.trans HST1.out.2 hst2);have hG:=AK w2 hst2.1;rw[dk] at hG;have HG:=hid hG;clear hst2 hG dk;go_wp2_with fail;refine HG.out.mono ?_;rintro r w3 ⟨rfl,hb3⟩;have HST3:=hid (HST2.out.then hb3);have hs3:=HST3.out.size;have HC:=hid (hTK.out w3 HST3.out.1);go_wp2_with fail;refine HC.out.mono ?_;rintro r w4 ⟨v,rfl,hr,hst4⟩;obtain⟨aD,cD,hv,hr2,_⟩:=AJ hr;simp only[As,AF] at hv;subst hv;have HR4:=hid hr2;have hs4:=hst4.size;have HST4:=hid (Ay.trans HST3.out.2 hst4);have hG4:=AK w4 hst4.1;rw[dt] at hG4;have HG4:=hid hG4;clear hr hr2 hst4 hG4 dt;go_wp2_with fail;refine HG4.out.mono ?_;rintro r w5 ⟨rfl,hb5⟩;have HST5:=hid (HST4.out.then hb5);have hs5:=hb5.size;go_wp2;go_ret2
    exact⟨_,rfl,Bl rfl rfl zD,HST5.out⟩
  ·have d0:((y.toNat:Int)==0)=false:=by rw[Br];omega
   rw[Ah h0];by_cases h1:y.toNat=1
   ·have d1:((y.toNat:Int)==1)=true:=by rw[h1];rfl
    rw[Ai h1];clear h0 h1;by_cases ht:su.k=0
    ·have dt:decide (su.k=0)=true:=Ad ht
     rw[Ai ht];clear ht;dsimp only;go_enter Tryz.func140,Tryz.ntmps140;go_wp2_with fail;refine HA.out.mono ?_;rintro r w0 ⟨rfl,rfl⟩;go_wp2_with fail;refine HI.out.mono ?_;rintro r w1 ⟨rfl,hst1⟩;have HST1:=hid hst1;have HBY:=hid (hBY.out w1 hst1.1);clear hst1;go_wp2_with fail;refine HBY.out.mono ?_;rintro r w2 ⟨rfl,hst2⟩;have HST2:=hid (Ay.trans HST1.out.2 hst2);have hG:=AK w2 hst2.1;rw[dk] at hG;have HG:=hid hG;clear hst2 hG dk;go_wp2_with fail;refine HG.out.mono ?_;rintro r w3 ⟨rfl,hb3⟩;have HST3:=hid (HST2.out.then hb3);have hs3:=HST3.out.size;have HC:=hid (hUN.out w3 HST3.out.1);go_wp2_with fail;refine HC.out.mono ?_;rintro r w4 ⟨v,rfl,hr,hst4⟩;obtain⟨aD,cD,hv,hr2,_⟩:=AJ hr;simp only[As,AF] at hv;subst hv;have HR4:=hid hr2;have hs4:=hst4.size;have HST4:=hid (Ay.trans HST3.out.2 hst4);have hG4:=AK w4 hst4.1;rw[dt] at hG4;have HG4:=hid hG4;clear hr hr2 hst4 hG4 dt;go_wp2_with fail;refine HG4.out.mono ?_;rintro r w5 ⟨rfl,hb5⟩;have HST5:=hid (HST4.out.then hb5);have hs5:=hb5.size;have HR5:=hid (Ag.mono (S':=fun q=>w3.heap.size≤q∧q<w5.heap.size) (Ag.keep HR4.out fun q hq=>hb5.block q hq.2) fun q hq=>⟨hq.1,zD⟩);have HBB:=hid (KO w5 DU aD _ cD (Ag.mono HR5.out fun q hq=>hq.2) hul);go_wp2_with fail;refine HBB.out.mono ?_;rintro r w6 ⟨v6,rfl,hr,hb6⟩;obtain⟨a6,c6,hv,hr2,_⟩:=AJ hr;simp only[As,AF] at hv;subst hv;have HR6:=hid hr2;have hs6:=hb6.size;have HST6:=hid (HST5.out.then hb6);have HSN:=hid (hSNu.out w6 HST6.out.1);clear hr hr2;go_wp2_with fail;refine HSN.out.mono ?_;rintro r w7 ⟨v7,rfl,hr,hb7⟩;obtain⟨a7,c7,hv,hr2,_⟩:=AJ hr;simp only[As,AF] at hv;subst hv;have HR7:=hid hr2;have hs7:=hb7.size;have HST7:=hid (HST6.out.then hb7);have HEQ:=hid (Hw (CM DU) S2 a6 a7 _ c6 _ c7 w7 (Ag.mono (Ag.keep HR6.out fun q hq=>hb7.block q hq.2) fun q hq=>zD) (Ag.mono HR7.out fun q hq=>hq.2));generalize hq:decide (CM DU=S2)=q at*;have HQ:=hid hq;clear hq;clear hr hr2;go_wp2_with fail;refine HEQ.out.mono ?_;rintro r w8 ⟨rfl,rfl⟩;have HRF:=hid (Ag.mono (S':=fun q=>w.heap.size≤q∧q<w7.heap.size) (Ag.keep HR5.out fun q hq=>(hb7.block q zD).trans (hb6.block q hq.2)) fun q hq=>⟨zD,zD⟩);go_wp2;go_ret2
     rw[HQ.out];exact⟨_,rfl,HRF.out,HST7.out⟩
    ·have dt:decide (su.k=0)=false:=Ae ht
     rw[Ah ht];clear ht;dsimp only;go_enter Tryz.func140,Tryz.ntmps140;go_wp2_with fail;refine HA.out.mono ?_;rintro r w0 ⟨rfl,rfl⟩;go_wp2_with fail;refine HI.out.mono ?_;rintro r w1 ⟨rfl,hst1⟩;have HST1:=hid hst1;have HBY:=hid (hBY.out w1 hst1.1);clear hst1;go_wp2_with fail;refine HBY.out.mono ?_;rintro r w2 ⟨rfl,hst2⟩;have HST2:=hid (Ay.trans HST1.out.2 hst2);have hG:=AK w2 hst2.1;rw[dk] at hG;have HG:=hid hG;clear hst2 hG dk;go_wp2_with fail;refine HG.out.mono ?_;rintro r w3 ⟨rfl,hb3⟩;have HST3:=hid (HST2.out.then hb3);have hs3:=HST3.out.size;have HC:=hid (hUN.out w3 HST3.out.1);go_wp2_with fail;refine HC.out.mono ?_;rintro r w4 ⟨v,rfl,hr,hst4⟩;obtain⟨aD,cD,hv,hr2,_⟩:=AJ hr;simp only[As,AF] at hv;subst hv;have HR4:=hid hr2;have hs4:=hst4.size;have HST4:=hid (Ay.trans HST3.out.2 hst4);have hG4:=AK w4 hst4.1;rw[dt] at hG4;have HG4:=hid hG4;clear hr hr2 hst4 hG4 dt;go_wp2_with fail;refine HG4.out.mono ?_;rintro r w5 ⟨rfl,hb5⟩;have HST5:=hid (HST4.out.then hb5);have hs5:=hb5.size;go_wp2;go_ret2
     exact⟨_,rfl,Bl rfl rfl zD,HST5.out⟩
   ·have d1:((y.toNat:Int)==1)=false:=by rw[Br];omega
    rw[Ah h1];clear h0 h1;have dt:decide (F1.k=0)=false:=Ae hfk;dsimp only;go_enter Tryz.func140,Tryz.ntmps140;go_wp2_with fail;refine HA.out.mono ?_;rintro r w0 ⟨rfl,rfl⟩;go_wp2_with fail;refine HI.out.mono ?_;rintro r w1 ⟨rfl,hst1⟩;have HST1:=hid hst1;have HBY:=hid (hBY.out w1 hst1.1);clear hst1;go_wp2_with fail;refine HBY.out.mono ?_;rintro r w2 ⟨rfl,hst2⟩;have HST2:=hid (Ay.trans HST1.out.2 hst2);have hG:=AK w2 hst2.1;rw[dk] at hG;have HG:=hid hG;clear hst2 hG dk;go_wp2_with fail;refine HG.out.mono ?_;rintro r w3 ⟨rfl,hb3⟩;have HST3:=hid (HST2.out.then hb3);have hs3:=HST3.out.size;have HAT3:=hid (BI w3 HST3.out.1);go_wp2_with fail;refine HAT3.out.mono ?_;rintro r w3' ⟨rfl,rfl⟩;have HC:=hid (hFL.out w3 HST3.out.1);go_wp2_with fail;refine HC.out.mono ?_;rintro r w4 ⟨rfl,hst4⟩;have HST4:=hid (Ay.trans HST3.out.2 hst4);have hG4:=AK w4 hst4.1;rw[dt] at hG4;have HG4:=hid hG4;clear hst4 hG4 dt;go_wp2_with fail;refine HG4.out.mono ?_;rintro r w5 ⟨rfl,hb5⟩;have HST5:=hid (HST4.out.then hb5);go_wp2;go_ret2
    exact⟨_,rfl,Bl rfl rfl zD,HST5.out⟩
 ·have dk:decide (se.k=0)=false:=Ae hk
  rw[Ah hk];clear hk hb1;dsimp only;go_enter Tryz.func140,Tryz.ntmps140;go_wp2_with fail;refine HA.out.mono ?_;rintro r w0 ⟨rfl,rfl⟩;go_wp2_with fail;refine HI.out.mono ?_;rintro r w1 ⟨rfl,hst1⟩;have HST1:=hid hst1;have HBY:=hid (hBY.out w1 hst1.1);clear hst1;go_wp2_with fail;refine HBY.out.mono ?_;rintro r w2 ⟨rfl,hst2⟩;have HST2:=hid (Ay.trans HST1.out.2 hst2);have hG:=AK w2 hst2.1;rw[dk] at hG;have HG:=hid hG;clear hst2 hG dk;go_wp2_with fail;refine HG.out.mono ?_;rintro r w3 ⟨rfl,hb3⟩;have HST3:=hid (HST2.out.then hb3);have hs3:=HST3.out.size;go_wp2;go_ret2
  exact⟨_,rfl,Bl rfl rfl zD,HST3.out⟩
def Rs.strict(s:Rs × List UInt8 × Bool):Rs × List UInt8:=if s.1.k=0 then (if s.2.2=true then (s.1,s.2.1) else (s.1.fail 12 s.1.p,[])) else (s.1,[])
theorem Oa(w:World){g:Nat}{B:List UInt8}{a:Option Addr}{s:Rs}(h:AN w g B a s)(q:Bool)(p:Nat):
  Calls Tryz.prog 207 #[.bool q,.func (Fn.func 124) #[.pointer (some ⟨g,0,none⟩)] #[],.int .i64 (p:Int)] w fun r w'=>r=.returned (.tuple #[])∧Ay w g B a (if q=true then s else s.fail 12 p) w':=by
 have HF:=hid (Bd w h 12 p zD);have HH:=hid h;clear h;cases q
 ·rw[Ah zQ]
  go_enter Tryz.func207,Tryz.ntmps207;go_wp2_with fail;refine HF.out.mono ?_;rintro r w1 ⟨rfl,hst⟩;have HST:=hid hst;clear hst;go_wp2;go_end0
  exact⟨rfl,HST.out⟩
 ·rw[Ai rfl]
  go_enter Tryz.func207,Tryz.ntmps207;go_wp2;go_end0
  exact⟨rfl,Ay.refl HH.out⟩
theorem QX(w:World){g:Nat}{B:List UInt8}{a:Option Addr}{s:Rs}(h:AN w g B a s)(hB:B.length≤1000000000)(most:Int)(hm: -9223372036854775808≤most∧most≤9223372036854775807):
  Calls Tryz.prog 129 #[.pointer (some ⟨g,0,none⟩),.int .i64 most] w fun r w'=>∃v,r=.returned v∧Ag.r (fun q=>w.heap.size≤q∧q<w'.heap.size) w' [v] (Rs.strict (s.loose B most)).2∧Ay w g B a (Rs.strict (s.loose B most)).1 w':=by
 have HLS:=hid (KN w h hB most hm);have hgl:=h.blk.lt;unfold Rs.strict;generalize s.loose B most=L at*;obtain⟨s1,D,q⟩:=L;dsimp only at*;have hfk:=Rs.A0 (s:=s1) (c:=12) (at_:=(s1.p:Int)) zD;have hfb:s1.k≠0→s1.fail 12 s1.p=s1:=fun hk=>Rs.CW hk;have hSC:=hid (fun (W:World) (h:AN W g B a s1)=>Oa W h q s1.p);clear h;by_cases hk:s1.k=0
 ·rw[Ai hk]
  cases q
  ·have d1:decide ((s1.fail 12 s1.p).k=0)=false:=Ae hfk
   rw[Ah zQ];rw[Ah zQ] at hSC;generalize s1.fail 12 s1.p=s2 at*;clear hk hfk hfb;go_enter Tryz.func129,Tryz.ntmps129;go_wp2_with fail;refine HLS.out.mono ?_;rintro r w1 ⟨v,rfl,hr,hst⟩;obtain⟨aD,cD,hv,hr2,_⟩:=AJ hr;simp only[As,AF] at hv;subst hv;have HST:=hid hst;have HR:=hid hr2;have hs1:=hst.size;have HAT:=hid (BI w1 hst.1);have HSC:=hid (hSC.out w1 hst.1);clear hr hr2 hst;go_wp2_with fail;refine HAT.out.mono ?_;rintro r w1' ⟨rfl,rfl⟩;go_wp2_with fail;refine HSC.out.mono ?_;rintro r w2 ⟨rfl,hst2⟩;have HST2:=hid (Ay.trans HST.out.2 hst2);have HRK:=hid (Ag.mono (S':=fun q=>w.heap.size≤q∧q<w2.heap.size) (Ag.keep HR.out fun q hq=>hst2.2.block q hq.2 zD) fun q hq=>⟨hq.1,Ao hq.2 hst2.size⟩);have hG:=AK w2 hst2.1;rw[d1] at hG;have HG:=hid hG;clear hst2 hG d1;go_wp2_with fail;refine HG.out.mono ?_;rintro r w3 ⟨rfl,hb3⟩;have HST3:=hid (HST2.out.then hb3);go_wp2;go_ret;exact⟨_,rfl,Bl rfl rfl zD,HST3.out⟩
  ·have d1:decide (s1.k=0)=true:=Ad hk
   rw[Ai rfl];rw[Ai rfl] at hSC;clear hk hfk hfb;go_enter Tryz.func129,Tryz.ntmps129;go_wp2_with fail;refine HLS.out.mono ?_;rintro r w1 ⟨v,rfl,hr,hst⟩;obtain⟨aD,cD,hv,hr2,_⟩:=AJ hr;simp only[As,AF] at hv;subst hv;have HST:=hid hst;have HR:=hid hr2;have hs1:=hst.size;have HAT:=hid (BI w1 hst.1);have HSC:=hid (hSC.out w1 hst.1);clear hr hr2 hst;go_wp2_with fail;refine HAT.out.mono ?_;rintro r w1' ⟨rfl,rfl⟩;go_wp2_with fail;refine HSC.out.mono ?_;rintro r w2 ⟨rfl,hst2⟩;have HST2:=hid (Ay.trans HST.out.2 hst2);have HRK:=hid (Ag.mono (S':=fun q=>w.heap.size≤q∧q<w2.heap.size) (Ag.keep HR.out fun q hq=>hst2.2.block q hq.2 zD) fun q hq=>⟨hq.1,Ao hq.2 hst2.size⟩);have hG:=AK w2 hst2.1;rw[d1] at hG;have HG:=hid hG;clear hst2 hG d1;go_wp2_with fail;refine HG.out.mono ?_;rintro r w3 ⟨rfl,hb3⟩;have HST3:=hid (HST2.out.then hb3);have HRK3:=hid (Ag.mono (S':=fun q=>w.heap.size≤q∧q<w3.heap.size) (Ag.keep HRK.out fun q hq=>hb3.block q hq.2) fun q hq=>⟨hq.1,Ao hq.2 hb3.size⟩);go_wp2;go_ret;exact⟨_,rfl,HRK3.out,HST3.out⟩
 ·rw[Ah hk]
  have hfb2:=hfb hk;have d1:decide (s1.k=0)=false:=Ae hk;have hSC2:Hid (∀(W:World) (h:AN W g B a s1),Calls Tryz.prog 207 #[.bool q,.func (Fn.func 124) #[.pointer (some ⟨g,0,none⟩)] #[],.int .i64 (s1.p:Int)] W fun r w'=>r=.returned (.tuple #[])∧Ay W g B a s1 w'):=hid (fun W h=>by
   have:=hSC.out W h;rw[hfb2] at this;cases q
   ·rw[Ah zQ] at this;exact this
   ·rw[Ai rfl] at this;exact this)
  clear hk hfk hfb hfb2 hSC;have hSC:=hSC2;clear hSC2;cases q;all_goals
   go_enter Tryz.func129,Tryz.ntmps129;go_wp2_with fail;refine HLS.out.mono ?_;rintro r w1 ⟨v,rfl,hr,hst⟩;obtain⟨aD,cD,hv,hr2,_⟩:=AJ hr;simp only[As,AF] at hv;subst hv;have HST:=hid hst;have HR:=hid hr2;have hs1:=hst.size;have HAT:=hid (BI w1 hst.1);have HSC:=hid (hSC.out w1 hst.1);clear hr hr2 hst;go_wp2_with fail;refine HAT.out.mono ?_;rintro r w1' ⟨rfl,rfl⟩;go_wp2_with fail;refine HSC.out.mono ?_;rintro r w2 ⟨rfl,hst2⟩;have HST2:=hid (Ay.trans HST.out.2 hst2);have HRK:=hid (Ag.mono (S':=fun q=>w.heap.size≤q∧q<w2.heap.size) (Ag.keep HR.out fun q hq=>hst2.2.block q hq.2 zD) fun q hq=>⟨hq.1,Ao hq.2 hst2.size⟩);have hG:=AK w2 hst2.1;rw[d1] at hG;have HG:=hid hG;clear hst2 hG d1;go_wp2_with fail;refine HG.out.mono ?_;rintro r w3 ⟨rfl,hb3⟩;have HST3:=hid (HST2.out.then hb3);go_wp2;go_ret;exact⟨_,rfl,Bl rfl rfl zD,HST3.out⟩
def Uc(r:Rs × List UInt8):List UInt8 × Nat × Int × Int:=if r.1.k=0 then (r.2,r.1.p,0,0) else ([],0,r.1.k,r.1.f)
end Go.Proofs.YtfddhafbhceoaaaGreat
namespace Go.Bs
open Go.RowKit
variable{c:Nat}
def CH(c:Nat):Nat:=if c%2=1 then (c/2)^^^2197175160 else c/2
def Ds(c:Nat):Nat:=CH (CH (CH (CH c)))
def Gi(c:Nat)(x:UInt8):Nat:=Ds (Ds (c^^^x.toNat))
def DJ(c:Nat)(D:List UInt8):Nat:=D.foldl Gi c
def B8(D:List UInt8):Nat:=4294967295-DJ 4294967295 D
theorem Jf{a b:Nat}(ha:a<4294967296)(hb:b<4294967296):a^^^b<4294967296:=Nat.xor_lt_two_pow (n:=32) ha hb
theorem FY(h:c<4294967296):CH c<4294967296:=by
 unfold CH;split
 ·exact Jf zD zO
 ·omega
theorem Ld(h:c<4294967296):Ds c<4294967296:=FY (FY (FY (FY h)))
theorem I9{x:UInt8}(h:c<4294967296):Gi c x<4294967296:=Ld (Ld (Jf h zBw))
theorem Kh:∀(D:List UInt8) {c:Nat},c<4294967296→DJ c D<4294967296
 | [],c,h=>h
 | x::D,c,h=>Kh D (I9 h)
theorem FA(D:List UInt8):B8 D<4294967296:=by unfold B8;omega
theorem G2(a d:Nat):(a^^^2*d)%2=a%2:=by
 have h:=Nat.xor_mod_two_pow (a:=a) (b:=2*d) (n:=1);rw[Nat.pow_one,show 2*d%2=0 by omega,Nat.xor_zero] at h;exact h
theorem Gh(a d:Nat):CH (a^^^2*d)=CH a^^^d:=by
 have h1:=G2 a d;have h2:(a^^^2*d)/2=a/2^^^d:=by rw[Nat.xor_div_two];congr 1;omega
 unfold CH;rw[h1,h2];split
 ·rw[Nat.xor_assoc,Nat.xor_assoc,Nat.xor_comm d]
 ·rfl
theorem TC(a h:Nat):Ds (a^^^16*h)=Ds a^^^h:=by
 unfold Ds;rw[show 16*h=2*(2*(2*(2*h))) by omega,Gh,Gh,Gh,Gh]
theorem UE(h l:Nat)(hl:l<16):l^^^16*h=16*h+l:=by
 have h1:(l^^^16*h)/2=l/2^^^8*h:=by rw[Nat.xor_div_two];congr 1;omega
 have h2:(l/2^^^8*h)/2=l/4^^^4*h:=by rw[Nat.xor_div_two];congr 1<;>omega
 have h3:(l/4^^^4*h)/2=l/8^^^2*h:=by rw[Nat.xor_div_two];congr 1<;>omega
 have h4:(l/8^^^2*h)/2=h:=by
  rw[Nat.xor_div_two,show l/8/2=0 by omega,show 2*h/2=h by omega,Nat.zero_xor]
 have g1:(l^^^16*h)%2=l%2:=by rw[show 16*h=2*(8*h) by omega];exact G2 _ _
 have g2:(l/2^^^8*h)%2=l/2%2:=by rw[show 8*h=2*(4*h) by omega];exact G2 _ _
 have g3:(l/4^^^4*h)%2=l/4%2:=by rw[show 4*h=2*(2*h) by omega];exact G2 _ _
 have g4:(l/8^^^2*h)%2=l/8%2:=G2 _ _;omega
theorem St(c:Nat):c/16^^^Ds (c%16)=Ds c:=by
 have h:=TC (c%16) (c/16);rw[UE _ _ zD,show 16*(c/16)+c%16=c by omega] at h;rw[h,Nat.xor_comm]
def G1(k:Nat):Array Value:=((List.range 16).map fun j=>Value.int .u32 ((if j<k then Ds j else 0:Nat):Int)).toArray
theorem Cx(k j:Nat)(hj:j<16):(G1 k)[j]? =some (.int .u32 ((if j<k then Ds j else 0:Nat):Int)):=by
 simp[G1,hj]
theorem SW(k:Nat)(hk:k<16):(G1 k).setIfInBounds k (.int .u32 (Ds k:Int))=G1 (k+1):=by
 apply Array.ext_getElem?;intro j;rw[Array.getElem?_setIfInBounds];by_cases hj:j<16
 ·rw[Cx _ _ hj,Cx _ _ hj]
  by_cases e:k=j
  ·subst e;simp[G1,hk]
  ·rw[Ah e]
   congr 2
   by_cases h:j<k
   ·rw[Ai h,Ai zD]
   ·rw[Ah h,Ah zD]
 ·have h1:∀m,(G1 m)[j]? =none:=fun m=>by simp[G1];omega
  rw[h1,h1];split<;>simp [G1];omega
def GY:Nat→Nat→Nat
 | 0,c=>c
 | n+1,c=>CH (GY n c)
theorem LS(h:c<4294967296):∀n,GY n c<4294967296
 | 0=>h
 | n+1=>FY (LS h n)
theorem PB(h:c<4294967296):bits BinOp.and IntKind.u32 (c:Int) 1=((c%2:Nat):Int):=by
 have:=u32_and_nat c 1 h zO;rw[nat_mask1] at this;exact this
theorem Nu(h:c<4294967296):bits BinOp.and IntKind.u32 (c:Int) 15=((c%16:Nat):Int):=by
 have:=u32_and_nat c 15 h zO;rw[nat_mask4] at this;exact this
theorem OI(h:c<4294967296):bits BinOp.xor IntKind.u32 ((c:Int)/2) 2197175160=((c/2^^^2197175160:Nat):Int):=by
 have:=u32_xor_nat (c/2) 2197175160 zD zO;rw[←this];rfl
theorem T7(h:c<4294967296):bits BinOp.xor IntKind.u32 IntKind.u32.max (c:Int)=((4294967295-c:Nat):Int):=by
 have e:IntKind.u32.max=((4294967295:Nat):Int):=rfl;rw[e,u32_xor_nat _ _ zO h];have h1:4294967295^^^c=4294967295-c:=by
  have h2:=BitVec.toNat_not (x:=BitVec.ofNat 32 c);rw[BitVec.not_def,BitVec.toNat_xor,BitVec.toNat_allOnes,BitVec.toNat_ofNat,Dt zD] at h2;exact h2
 rw[h1]
end Go.Bs
namespace Go.Proofs.YtfddhafbhceoaaaGreat
open Go.RowKit Go.Bs Go.Maps
variable{bound m:Int}{B J:List UInt8}{L base c g k n:Nat}{S:Nat → Prop}{a a1:Option Addr}{s:Rs}{w:World}
theorem TA(c:Nat)(hc:c<4294967296)(w:World):
  Calls Tryz.prog 354 #[.int .u32 c] w fun r w'=>r=.returned (.int .u32 (CH c))∧w=w':=by
 by_cases h:c%2=1
 ·have d1:(bits BinOp.and IntKind.u32 (c:Int) 1==1)=true:=by rw[PB hc];simp;omega
  have hff:Hid ((CH c:Int)=bits BinOp.xor IntKind.u32 ((c:Int)/2) 2197175160):=hid (by rw[OI hc];unfold CH;rw[Ai h]);clear h;go_enter Tryz.func354,Tryz.ntmps354;go_wp2;go_ret;exact⟨zK,rfl⟩
 ·have d1:(bits BinOp.and IntKind.u32 (c:Int) 1==1)=false:=by rw[PB hc];simp;omega
  have hff:Hid ((CH c:Int)=(c:Int)/2):=hid (by unfold CH;rw[Ah h];rfl);clear h;go_enter Tryz.func354,Tryz.ntmps354;go_wp2;go_ret;exact⟨zK,rfl⟩
theorem Ss(w:World):Calls Tryz.prog 259 #[] w fun r w'=>r=.returned (.int .u32 4294967295)∧w=w':=by
 go_enter Tryz.func259,Tryz.ntmps259;go_wp2;go_ret;exact⟨rfl,rfl⟩
theorem Ue(c:Nat)(hc:c<4294967296)(w:World):
  Calls Tryz.prog 257 #[.int .u32 c] w fun r w'=>r=.returned (.int .u32 ((4294967295-c:Nat):Int))∧w=w':=by
 have hff:=hid (T7 hc);go_enter Tryz.func257,Tryz.ntmps257;go_wp2;go_ret;exact⟨by rw[←hff.out];rfl,rfl⟩
theorem Od{wo:World}{B:Nat}(h:Below B w wo)(hg:B≤g)(v0 v1 v2 v3 v4 v5 v6 v7 v8 v9 v10 v11 v12 v13 v14 v15:Value):Below B w (((((((((((((((((wo).setCell ⟨g,0,none⟩ v0).setCell ⟨g,1,none⟩ v1).setCell ⟨g,2,none⟩ v2).setCell ⟨g,3,none⟩ v3).setCell ⟨g,4,none⟩ v4).setCell ⟨g,5,none⟩ v5).setCell ⟨g,6,none⟩ v6).setCell ⟨g,7,none⟩ v7).setCell ⟨g,8,none⟩ v8).setCell ⟨g,9,none⟩ v9).setCell ⟨g,10,none⟩ v10).setCell ⟨g,11,none⟩ v11).setCell ⟨g,12,none⟩ v12).setCell ⟨g,13,none⟩ v13).setCell ⟨g,14,none⟩ v14).setCell ⟨g,15,none⟩ v15):=
 ((((((((((((((((h).setCell (p:=⟨g,0,none⟩) hg v0).setCell (p:=⟨g,1,none⟩) hg v1).setCell (p:=⟨g,2,none⟩) hg v2).setCell (p:=⟨g,3,none⟩) hg v3).setCell (p:=⟨g,4,none⟩) hg v4).setCell (p:=⟨g,5,none⟩) hg v5).setCell (p:=⟨g,6,none⟩) hg v6).setCell (p:=⟨g,7,none⟩) hg v7).setCell (p:=⟨g,8,none⟩) hg v8).setCell (p:=⟨g,9,none⟩) hg v9).setCell (p:=⟨g,10,none⟩) hg v10).setCell (p:=⟨g,11,none⟩) hg v11).setCell (p:=⟨g,12,none⟩) hg v12).setCell (p:=⟨g,13,none⟩) hg v13).setCell (p:=⟨g,14,none⟩) hg v14).setCell (p:=⟨g,15,none⟩) hg v15
theorem SX:G1 16=#[.int .u32 (Ds 0:Nat),.int .u32 (Ds 1:Nat),.int .u32 (Ds 2:Nat),.int .u32 (Ds 3:Nat),.int .u32 (Ds 4:Nat),.int .u32 (Ds 5:Nat),.int .u32 (Ds 6:Nat),.int .u32 (Ds 7:Nat),.int .u32 (Ds 8:Nat),.int .u32 (Ds 9:Nat),.int .u32 (Ds 10:Nat),.int .u32 (Ds 11:Nat),.int .u32 (Ds 12:Nat),.int .u32 (Ds 13:Nat),.int .u32 (Ds 14:Nat),.int .u32 (Ds 15:Nat)]:=rfl
theorem Sr(w:World):
  Calls Tryz.prog 324 #[] w fun r w'=>r=.returned (.agg (G1 16))∧Below w.heap.size w w':=by
 go_enter Tryz.func324,Tryz.ntmps324;go_wp2_with fail;refine Dm (fun W=>Below w.heap.size w W∧W.heap.size=w.heap.size+2∧Blk W w.heap.size 339 (G1 0)∧Blk W (w.heap.size+1) 339 (G1 0)) ⟨zB,zQ,(Blk.new w _ _).alloc _,Blk.Uv w _ _ _⟩ ?_;intro W ⟨hbW,hzW,q0,q1⟩;have Q0:=hid q0;have Q1:=hid q1;have HZ:=hid hzW;clear q0 q1 hzW;go_loopw [4] (fun i wr=>∃k:Nat,k≤16∧i=.int .i64 k∧Tch (·=w.heap.size+1) W wr∧Blk wr (w.heap.size+1) 339 (G1 k)) (fun i _=>16-(intOf i).toNat)
 case atStart=>exact ⟨0,zD,rfl,Tch.refl _ _,Q1.out⟩
 case round=>
  obtain⟨k,hk,rfl,ht,hB⟩:=hrel;obtain⟨wo,hwo⟩:∃wo:World,wo=wr:=⟨_,rfl⟩;subst hwo;have HT:=hid ht;have HB:=hid hB;clear ht hB;by_cases hlt:k<16
  ·have i1:(k:Int)<16:=by omega
   have e1:(k:Int)%4294967296=k:=zD;go_wp2_with fail;go_loopw [3,9] (fun c j w'=>∃n:Nat,n≤4∧j=.int .i64 n∧c=.int .u32 (GY n k:Nat)∧w'=wo) (fun _ j _=>4-(intOf j).toNat)
   case atStart=>exact ⟨0,zD,rfl,by simp[GY,e1],rfl⟩
   case round=>
    obtain⟨n,hn,rfl,rfl,rfl⟩:=hrel;by_cases hl4:n<4
    ·have i2:(n:Int)<4:=by omega
     have HS:=hid (TA (GY n k) (LS zD n) wr);go_wp2_with fail;refine HS.out.mono ?_;rintro r w1 ⟨rfl,rfl⟩;go_wp2;go_roundw
     case rel=>exact ⟨n+1,zD,zT,rfl,trivial⟩
     case measure=>simp [intOf];omega
    ·obtain rfl:n=4:=by omega
     have hB2:Blk (wr.setCell ⟨w.heap.size+1,k,none⟩ (.int .u32 (GY 4 k:Nat))) (w.heap.size+1) 339 (G1 (k+1)):=by
      rw[←SW k hlt];exact HB.out.set k _
     have c9:wr.cell? ⟨w.heap.size+1,k,none⟩=some (.int .u32 ((if k<k then Ds k else 0:Nat):Int)):=(HB.out.cell k).trans (Cx k k hlt);have f9:=HB.out.free k;have HB2:=hid hB2;have HT2:=hid (HT.out.setCell (p:=⟨w.heap.size+1,k,none⟩) (fun _=>rfl) (.int .u32 (GY 4 k:Nat)));clear hB2;go_wp2;go_roundw
     case rel=>exact ⟨k+1,zD,zT,HT2.out,HB2.out⟩
     case measure=>simp [intOf];omega
  ·obtain rfl:k=16:=by omega
   obtain⟨v0,v1,v2,v3,v4,v5,v6,v7,v8,v9,v10,v11,v12,v13,v14,v15,hv⟩:∃v0 v1 v2 v3 v4 v5 v6 v7 v8 v9 v10 v11 v12 v13 v14 v15:Nat,G1 16=Vf:=⟨_,_,_,_,_,_,_,_,_,_,_,_,_,_,_,_,SX⟩;have hB9:=HB.out;rw[hv] at hB9;have HV:=hid hv;have hB0:Blk wo w.heap.size 339 (G1 0):=Q0.out.tch HT.out zQ;have y0:wo.cell? ⟨w.heap.size+1,0,none⟩=some (.int .u32 (v0:Int)):=hB9.cell 0;have z0:wo.cell? ⟨w.heap.size,0,none⟩=some (.int .u32 0):=(hB0.cell 0).trans (Cx 0 0 zO);have f0:=hB0.free 0;have y1:wo.cell? ⟨w.heap.size+1,1,none⟩=some (.int .u32 (v1:Int)):=hB9.cell 1;have z1:wo.cell? ⟨w.heap.size,1,none⟩=some (.int .u32 0):=(hB0.cell 1).trans (Cx 0 1 zO);have f1:=hB0.free 1;have y2:wo.cell? ⟨w.heap.size+1,2,none⟩=some (.int .u32 (v2:Int)):=hB9.cell 2;have z2:wo.cell? ⟨w.heap.size,2,none⟩=some (.int .u32 0):=(hB0.cell 2).trans (Cx 0 2 zO);have f2:=hB0.free 2;have y3:wo.cell? ⟨w.heap.size+1,3,none⟩=some (.int .u32 (v3:Int)):=hB9.cell 3;have z3:wo.cell? ⟨w.heap.size,3,none⟩=some (.int .u32 0):=(hB0.cell 3).trans (Cx 0 3 zO);have f3:=hB0.free 3;have y4:wo.cell? ⟨w.heap.size+1,4,none⟩=some (.int .u32 (v4:Int)):=hB9.cell 4;have z4:wo.cell? ⟨w.heap.size,4,none⟩=some (.int .u32 0):=(hB0.cell 4).trans (Cx 0 4 zO);have f4:=hB0.free 4;have y5:wo.cell? ⟨w.heap.size+1,5,none⟩=some (.int .u32 (v5:Int)):=hB9.cell 5;have z5:wo.cell? ⟨w.heap.size,5,none⟩=some (.int .u32 0):=(hB0.cell 5).trans (Cx 0 5 zO);have f5:=hB0.free 5;have y6:wo.cell? ⟨w.heap.size+1,6,none⟩=some (.int .u32 (v6:Int)):=hB9.cell 6;have z6:wo.cell? ⟨w.heap.size,6,none⟩=some (.int .u32 0):=(hB0.cell 6).trans (Cx 0 6 zO);have f6:=hB0.free 6;have y7:wo.cell? ⟨w.heap.size+1,7,none⟩=some (.int .u32 (v7:Int)):=hB9.cell 7;have z7:wo.cell? ⟨w.heap.size,7,none⟩=some (.int .u32 0):=(hB0.cell 7).trans (Cx 0 7 zO);have f7:=hB0.free 7;have y8:wo.cell? ⟨w.heap.size+1,8,none⟩=some (.int .u32 (v8:Int)):=hB9.cell 8;have z8:wo.cell? ⟨w.heap.size,8,none⟩=some (.int .u32 0):=(hB0.cell 8).trans (Cx 0 8 zO);have f8:=hB0.free 8;have y9:wo.cell? ⟨w.heap.size+1,9,none⟩=some (.int .u32 (v9:Int)):=hB9.cell 9;have z9:wo.cell? ⟨w.heap.size,9,none⟩=some (.int .u32 0):=(hB0.cell 9).trans (Cx 0 9 zO);have f9:=hB0.free 9;have y10:wo.cell? ⟨w.heap.size+1,10,none⟩=some (.int .u32 (v10:Int)):=hB9.cell 10;have z10:wo.cell? ⟨w.heap.size,10,none⟩=some (.int .u32 0):=(hB0.cell 10).trans (Cx 0 10 zO);have f10:=hB0.free 10;have y11:wo.cell? ⟨w.heap.size+1,11,none⟩=some (.int .u32 (v11:Int)):=hB9.cell 11;have z11:wo.cell? ⟨w.heap.size,11,none⟩=some (.int .u32 0):=(hB0.cell 11).trans (Cx 0 11 zO);have f11:=hB0.free 11;have y12:wo.cell? ⟨w.heap.size+1,12,none⟩=some (.int .u32 (v12:Int)):=hB9.cell 12;have z12:wo.cell? ⟨w.heap.size,12,none⟩=some (.int .u32 0):=(hB0.cell 12).trans (Cx 0 12 zO);have f12:=hB0.free 12;have y13:wo.cell? ⟨w.heap.size+1,13,none⟩=some (.int .u32 (v13:Int)):=hB9.cell 13;have z13:wo.cell? ⟨w.heap.size,13,none⟩=some (.int .u32 0):=(hB0.cell 13).trans (Cx 0 13 zO);have f13:=hB0.free 13;have y14:wo.cell? ⟨w.heap.size+1,14,none⟩=some (.int .u32 (v14:Int)):=hB9.cell 14;have z14:wo.cell? ⟨w.heap.size,14,none⟩=some (.int .u32 0):=(hB0.cell 14).trans (Cx 0 14 zO);have f14:=hB0.free 14;have y15:wo.cell? ⟨w.heap.size+1,15,none⟩=some (.int .u32 (v15:Int)):=hB9.cell 15;have z15:wo.cell? ⟨w.heap.size,15,none⟩=some (.int .u32 0):=(hB0.cell 15).trans (Cx 0 15 zO);have f15:=hB0.free 15;clear hB9 hv HB;clear hB0;go_wp2;refine An (v:=.agg Vf) (by simp[results,Tryz.results324,go_sem,z0,z1,z2,z3,z4,z5,z6,z7,z8,z9,z10,z11,z12,z13,z14,z15]) rfl ⟨by rw[HV.out],?_⟩;have hb2:Below w.heap.size W wo:=HT.out.Cq (by have:=HZ.out;omega) (by intro b _ e;omega);have hb3:=hbW.trans hb2;exact Od hb3 (Ap _) (.int .u32 (v0:Int)) (.int .u32 (v1:Int)) (.int .u32 (v2:Int)) (.int .u32 (v3:Int)) (.int .u32 (v4:Int)) (.int .u32 (v5:Int)) (.int .u32 (v6:Int)) (.int .u32 (v7:Int)) (.int .u32 (v8:Int)) (.int .u32 (v9:Int)) (.int .u32 (v10:Int)) (.int .u32 (v11:Int)) (.int .u32 (v12:Int)) (.int .u32 (v13:Int)) (.int .u32 (v14:Int)) (.int .u32 (v15:Int))
theorem OO{y:Nat}(h:y<4294967296):bits BinOp.xor IntKind.u32 ((y:Int)/16) ((Ds (y%16):Nat):Int)=((Ds y:Nat):Int):=by
 have:=u32_xor_nat (y/16) (Ds (y%16)) zD (Ld zD);rw[St] at this;rw[←this];rfl
theorem O1(h:c<4294967296)(x:UInt8):bits BinOp.xor IntKind.u32 (c:Int) ((x.toNat:Int)%4294967296)=((c^^^x.toNat:Nat):Int):=by
 have hx:=x.toNat_lt;rw[←u32_xor_nat c x.toNat h zD,show (x.toNat:Int)%4294967296=(x.toNat:Int) by omega]
theorem Uf(c:Nat)(hc:c<4294967296)(D:List UInt8)(ad:Option Addr)(nd cd:Nat)(w:World)(hD:Ag.r (·<w.heap.size) w [.slice ad nd cd] D):
  Calls Tryz.prog 258 #[.int .u32 c,.slice ad nd cd] w fun r w'=>r=.returned (.int .u32 (DJ c D:Nat))∧Below w.heap.size w w':=by
 obtain⟨rfl,hm,_,_⟩:=AH hD;have HD:=hid hD;clear hD;go_enter Tryz.func258,Tryz.ntmps258;go_wp2_with fail;refine (Sr w).mono ?_;rintro r w1 ⟨rfl,hb1⟩;obtain⟨v0,v1,v2,v3,v4,v5,v6,v7,v8,v9,v10,v11,v12,v13,v14,v15,hv⟩:∃v0 v1 v2 v3 v4 v5 v6 v7 v8 v9 v10 v11 v12 v13 v14 v15:Nat,G1 16=Vf:=⟨_,_,_,_,_,_,_,_,_,_,_,_,_,_,_,_,SX⟩;rw[hv];have HV:=hid hv;clear hv;go_wp2_with fail;refine Dm (fun W=>Below w.heap.size w W∧w1.heap.size<W.heap.size∧Blk W w1.heap.size 339 (G1 16)) ⟨zA,zQ,by rw[HV.out];exact Blk.new w1 _ _⟩ ?_;intro W ⟨hbW,hzW,hQ⟩;have HQ:=hid hQ;clear hQ;go_wp2_with fail;go_loopw [0,11] (fun s i wr=>∃(k d:Nat),k≤D.length∧i=.int .i64 k∧s=.int .u32 d∧d<4294967296∧Hid (DJ c D=DJ d (D.drop k))∧wr=W) (fun _ i _=>D.length-(intOf i).toNat)
 case atStart=>exact ⟨0,c,At _,rfl,rfl,hc,hid rfl,rfl⟩
 case round=>
  obtain⟨k,d,hk,rfl,rfl,hd,hf,rfl⟩:=hrel;by_cases hlt:k<D.length
  ·obtain⟨b,o,hA,hbb,hx⟩:=BJ (lift HD.out hbW) hlt
   subst hA;have hst:=hid (show DJ d (D.drop k)=DJ (Gi d D[k]) (D.drop (k+1)) by rw[AD hlt];rfl);generalize D[k]=x at*;have i1:(k:Int)<(D.length:Int):=zD;have hb1:=hid (I9 (x:=x) hd);have hcb:=hid (show Gi d x=Ds (Ds (d^^^x.toNat)) from rfl);have hy:d^^^x.toNat<4294967296:=Jf hd zBw;have e1:=O1 hd x;generalize d^^^x.toNat=y at*;have hz:Ds y<4294967296:=Ld hy;have e2:=Nu hy;have e3:=OO hy;have m1:((y%16:Nat):Int)<16:=zD;have c1:wr.cell? ⟨w1.heap.size,y%16,none⟩=some (.int .u32 (Ds (y%16):Nat)):=by
    have h:=(HQ.out.cell (y%16)).trans (Cx 16 (y%16) zD);rw[Ai zD] at h;exact h
   generalize Ds (y%16)=t1 at*;generalize y%16=m at*;generalize Ds y=z at*;have e4:=Nu hz;have e5:=OO hz;have m2:((z%16:Nat):Int)<16:=zD;have c2:wr.cell? ⟨w1.heap.size,z%16,none⟩=some (.int .u32 (Ds (z%16):Nat)):=by
    have h:=(HQ.out.cell (z%16)).trans (Cx 16 (z%16) zD);rw[Ai zD] at h;exact h
   generalize Ds (z%16)=t2 at*;generalize z%16=n at*;generalize Ds z=q at*;go_wp2;go_roundw
   case rel=>exact ⟨k+1,q,zD,zT,rfl,by have:=hb1.out;rw[hcb.out] at this;exact this,hid (by rw[hf.out,hst.out,hcb.out]),trivial⟩
   case measure=>simp [intOf];omega
  ·obtain rfl:k=D.length:=by omega
   have hff:Hid (DJ c D=d):=hid ZG;go_wp2;go_ret;exact⟨zK,hbW⟩
theorem JO(D:List UInt8)(ad:Option Addr)(nd cd:Nat)(w:World)(hD:Ag.r (·<w.heap.size) w [.slice ad nd cd] D):
  Calls Tryz.prog 192 #[.slice ad nd cd] w fun r w'=>r=.returned (.int .u32 (B8 D:Nat))∧Below w.heap.size w w':=by
 have HA:=hid (Uf 4294967295 zO D ad nd cd w hD);have hlt:=Kh D (c:=4294967295) zO;have hff:Hid (B8 D=4294967295-DJ 4294967295 D):=hid rfl;generalize DJ 4294967295 D=s at*;clear hD;go_enter Tryz.func192,Tryz.ntmps192;go_wp2_with fail;refine (Ss w).mono ?_;rintro r w1 ⟨rfl,rfl⟩;go_wp2_with fail;refine HA.out.mono ?_;rintro r w2 ⟨rfl,hb2⟩;go_wp2_with fail;refine (Ue s hlt w2).mono ?_;rintro r w3 ⟨rfl,rfl⟩;go_wp2;go_ret;exact⟨zK,hb2⟩
end Go.Proofs.YtfddhafbhceoaaaGreat
namespace Go.Bs
open Go.RowKit
variable{c:Nat}
def Ci:Nat→Nat→List UInt8
 | 0,_=>[]
 | n+1,x=>UInt8.ofNat (x%256)::Ci n (x/256)
theorem Dz:∀(n x:Nat),(Ci n x).length=n
 | 0,_=>rfl
 | n+1,x=>by simp[Ci,Dz n]
theorem KI:∀(n x:Nat),Ci (n+1) x=Ci n x++[UInt8.ofNat (x/256^n%256)]
 | 0,x=>by simp[Ci]
 | n+1,x=>by
  rw[Ci,KI n (x/256),Ci,K0,Nat.div_div_eq_div_mul,EL,Nat.mul_comm 256]
end Go.Bs
namespace Go.Proofs.YtfddhafbhceoaaaGreat
open Go.RowKit Go.Bs Go.Maps
variable{bound m:Int}{B J:List UInt8}{L base c g k n:Nat}{S:Nat → Prop}{a a1:Option Addr}{s:Rs}{w:World}
theorem MU(x:Nat)(hx:x<18446744073709551616)(n:Nat)(hn:n≤8)(w:World):
  Calls Tryz.prog 266 #[.int .u64 x,.int .i64 n] w fun r w'=>∃v,r=.returned v∧w'.ownsRow w.heap.size 5 1 v n (byteCells (Ci n x))∧Below w.heap.size w w':=by
 obtain⟨i0,hi,hz0,hz1,hz2⟩:=A1 Eu;have d1:max (n:Int) 0=n:=zD;have d2:min (n:Int) 8=n:=zD;have d3:(if (n:Int)<0 then (0:Int) else n)=n:=ZR;have d4:(if (8:Int)<n then (8:Int) else n)=n:=ZR;go_enter Tryz.func266,Tryz.ntmps266;go_wp2_with fail;go_loopw [0,5,9] (fun y o i wr=>∃k:Nat,k≤n∧i=.int .i64 k∧y=.int .u64 (x/256^k:Nat)∧wr.ownsRow w.heap.size 5 1 o k (byteCells (Ci k x))∧Below w.heap.size w wr) (fun _ _ i _=>n-(intOf i).toNat)
 case atStart=>exact ⟨0,At _,rfl,zQ,⟨rfl,.inl ⟨rfl,rfl⟩⟩,Below.refl _ _⟩
 case round=>
  obtain⟨k,hk,rfl,rfl,hown,hb⟩:=hrel;have hbs:=hb.size;obtain⟨aJ,cJ,rfl⟩:=AX hown;have HO:=hid hown;clear hown;by_cases hlt:k<n
  ·have i1:(k:Int)<(n:Int):=by omega
   have hy:x/256^k<18446744073709551616:=Nat.lt_of_le_of_lt (Nat.div_le_self _ _) hx;have hfin:=hid (KI k x);have hdv:Hid (x/256^(k+1)=x/256^k/256):=hid (by rw[EL,Nat.div_div_eq_div_mul]);generalize x/256^k=y at*;have hby:Hid ((y:Int)%256=((UInt8.ofNat (y%256)).toNat:Int)):=hid (by rw[←FZ (by omega)];omega);have e0:(y:Int)%256%256=(y:Int)%256:=zD;go_wp2_with (at_builtin;go_loud (refine AA rfl _ _ _ rfl w.heap.size 5 i0 (.int .u8 0) 1 1 AG hi hz0 hz1 hz2 rfl zO (.slice aJ k cJ) k (byteCells (Ci k x)) rfl (Bp HO.out zA) (some ⟨wr.heap.size,0,none⟩) 1 1 [.int .u8 ((y:Int)%256)] rfl (BS wr 5 _ rfl rfl rfl) ZB zN zD zI ?_;intro v' w1 hown1 hgrow1 hat1;have HG:=hid hgrow1;have HO1:=hid hown1;clear hgrow1 hown1 hat1))
   have ho:=HO1.out;rw[hby.out,DY,←hfin.out] at ho;have hB:Below w.heap.size w w1:=Below.grown zA HG.out zI (fun g e=>(HO.out.lt g e).1);have HO2:=hid ho;clear ho;go_wp2_with fail;go_roundw
   case rel=>exact ⟨k+1,zD,zT,by rw[hdv.out];go_num,HO2.out,hB⟩
   case measure=>simp [intOf];omega
  ·obtain rfl:k=n:=by omega
   go_wp2;go_ret;exact⟨_,rfl,HO.out,hb⟩
theorem IV(w:World){g base most:Nat}{J:List UInt8}{a:Option Addr}(h:Bn w g base most J a c)(x:Nat)(hx:x<18446744073709551616)(n:Nat)(hn:n≤8)(hfit:J.length+n≤most)(hlen:J.length+n≤100000000000000):
  Calls Tryz.prog 240 #[.pointer (some ⟨g,0,none⟩),.int .u64 x,.int .i64 n] w fun r w'=>r=.returned (.tuple #[])∧Az w g base most (J++Ci n x) a w':=by
 have hl:=Dz n x;have HF:=hid (MU x hx n hn w);have HP:=hid h;clear h;generalize Ci n x=D at*;go_enter Tryz.func240,Tryz.ntmps240;go_wp2_with fail;refine HF.out.mono ?_;rintro r w1 ⟨v,rfl,ho,hb1⟩;obtain⟨a1,c1,rfl⟩:=AX ho;have HQ:=hid (Ej w1 (HP.out.later hb1) D a1 n c1 (Et hl.symm ho) zD zD);clear ho;go_wp2_with fail;refine HQ.out.mono ?_;rintro r w2 ⟨rfl,hst⟩;have HST:=hid (Az.later hb1 hst);clear hst;go_wp2;first | go_end0 | refine An (AO rfl _ _ _) rfl ?_
 exact⟨rfl,HST.out⟩
theorem toNat_cast{x:Int}(h:0≤x):((x.toNat:Nat):Int)=x:=Int.toNat_of_nonneg h
def CG(l:List Int):List UInt8:=(l.map fun x=>AV x.toNat).flatten
def Dj(pos:Int)(l:List Int):List UInt8:=AV l.length++CG (BX pos l)
def D8:Option Int→List Ba→List Int
 | _,[]=>[]
 | p,x::l=>(match p with | none=>x.stream | some q=>x.stream-q-1)::D8 (some x.stream) l
def KU(pos:Int):Option Int→List Ba→List UInt8
 | _,[]=>[]
 | p,x::l=>AV (match p with | none=>x.stream | some q=>x.stream-q-1).toNat++Dj pos x.backs++KU pos (some x.stream) l
def DS(pos:Int)(l:List Ba):List UInt8:=AV l.length++KU pos none l
def FT(pos:Int)(e:Entry):List UInt8:=DS pos e.links++AV e.data.length
def Ch:Int→List Entry→List UInt8
 | _,[]=>[]
 | p,e::l=>FT p e++Ch (p+1) l
def Kk(b:Batch):List UInt8:=AV b.epoch.toNat++AV b.base.toNat++AV b.entries.length++Ch b.base b.entries
def Co(b:Batch):List UInt8:=Kk b++CM (CQ b.entries)
def OT(x:Ba):Prop:=(0≤x.stream∧x.stream≤18446744073709551615)∧∀y∈x.backs,0≤y
def Tw(e:Entry):Prop:=∀x∈e.links,OT x
def EK(b:Batch):Prop:=(0≤b.epoch∧b.epoch≤18446744073709551615)∧(0≤b.base∧b.base≤18446744073709551615)∧∀e∈b.entries,Tw e
theorem R5:CG []=[]:=rfl
theorem IX(x:Int)(l:List Int):CG (x::l)=AV x.toNat++CG l:=by simp[CG]
theorem MV(l l':List Int):CG (l++l')=CG l++CG l':=by simp[CG]
theorem GK(l:List Int)(k:Nat)(h:k<l.length):CG (l.take (k+1))=CG (l.take k)++AV l[k].toNat:=by
 rw[AR h,MV,IX,R5,Io]
theorem Gw(l:List Int):(CG l).length≤10*l.length:=by
 induction l with
 | nil=>simp [CG]
 | cons x l ih=>
  rw[IX,Al,AL];have:=(A3 x.toNat).1;omega
theorem IA(l:List Int)(k:Nat):(CG (l.take k)).length≤(CG l).length:=by
 have:CG l=CG (l.take k)++CG (l.drop k):=by rw[←MV,Dr]
 rw[this,Al];omega
theorem GF:∀(p:Int) (l:List Int),(BX p l).length=l.length
 | _,[]=>rfl
 | p,x::l=>by simp only[BX,AL,GF x l]
theorem G5:∀(p:Option Int) (l:List Ba),(D8 p l).length=l.length
 | _,[]=>rfl
 | p,x::l=>by simp only[D8,AL,G5 _ l]
theorem G4{x:Nat}(h:x<128):(AV x).length=1:=by rw[FE h];rfl
theorem QR(pos:Int)(l:List Int)(h:l.length<128):(Dj pos l).length≤1+10*l.length:=by
 have:=Gw (BX pos l);rw[GF] at this;unfold Dj;rw[Al,G4 h];omega
theorem Ef{α:Type}{A:Rp α}{w w1:World}{g:Nat}{a a1:Option Addr}{cs:List Value}{x:α}(ht:Tch (C5 g a) w w1)(ha:a1.map Addr.block=a.map Addr.block∨∃q,a1.map Addr.block=some q∧w.heap.size≤q)
 (h:A.r (fun q=>q<w.heap.size∧¬C5 g a q) w cs x):A.r (fun q=>q<w1.heap.size∧¬C5 g a1 q) w1 cs x:=
 A.mono (A.keep h fun q hq=>ht.block q hq.1 hq.2) fun q hq=>⟨Ao hq.1 ht.size,EE ha hq.1 hq.2⟩
theorem Fy{α:Type}{A:Rp α}{w w1:World}{g:Nat}{a:Option Addr}{cs:List Value}{x:α}(hb:Below w.heap.size w w1)
 (h:A.r (fun q=>q<w.heap.size∧¬C5 g a q) w cs x):A.r (fun q=>q<w1.heap.size∧¬C5 g a q) w1 cs x:=
 A.mono (A.keep h fun q hq=>hb.block q hq.1) fun q hq=>⟨Ao hq.1 hb.size,hq.2⟩
theorem Gb{α:Type}{A:Rp α}{w:World}{g:Nat}{a:Option Addr}{cs:List Value}{x:α}(h:A.r (fun q=>q<w.heap.size∧¬C5 g a q) w cs x):A.r (·<w.heap.size) w cs x:=A.mono h fun q hq=>hq.1
theorem GI{α:Type}{A:Rp α}{w w1:World}{g most:Nat}{a:Option Addr}{cs:List Value}{x:α}(hp:Bn w g base most J a c)(h:A.r (fun q=>w.heap.size≤q∧q<w1.heap.size) w1 cs x):A.r (fun q=>q<w1.heap.size∧¬C5 g a q) w1 cs x:=
 A.mono h fun q hq=>⟨hq.2,fun hf=>by have:=(hp.Bo hf).2;omega⟩
open Go.RowKit Go.Bs
theorem Qb(l:List Batch)(h:k≤l.length):BM (l.take k) (l.take k).length=BM l k:=by
 have:(l.take k).length=k:=zI;rw[this];unfold BM;by_cases h0:k=0
 ·rw[Ai h0,Ai h0]
 ·rw[Ah h0,Ah h0,Du];rw[Ai zD]
theorem KQ{x:Batch}(h:A4 x=true):x.base+x.entries.length≤4611686018427387904:=by
 unfold A4 Dc at h;simp at h;omega
theorem PS{l:List Batch}{k:Nat}(h:∀i,(h:i<l.length)→i<k→A4 l[i]=true):∀p∈l.take k,p.base+p.entries.length≤18446744073709551615:=by
 intro p hp;obtain⟨i,hi,rfl⟩:=List.getElem_of_mem hp;have hi':i<k∧i<l.length:=by simp at hi;omega
 rw[List.getElem_take];have:=KQ (h i hi'.2 hi'.1);omega
theorem LC{l:List Batch}(hk:k<l.length){z:Batch}(hz:l[k]=z)(hr:A4 z=true)(h:∀i,(h:i<l.length)→i<k→A4 l[i]=true):∀i,(h:i<l.length)→i<k+1→A4 l[i]=true:=by
 intro i hi hik;by_cases e:i=k
 ·subst e;rw[hz];exact hr
 ·exact h i hi zD
theorem RP(e:Int)(l:List Batch)(x:Batch)(k:Nat)(a a':Option Addr)(n c n' c':Nat)(w:World)(hl:Bf.r (·<w.heap.size) w [.slice a n c] l)(hk:k≤l.length)(hp:∀i,(h:i<l.length)→i<k→A4 l[i]=true):
  Calls Tryz.prog 79 #[.agg #[.int .u64 e,.slice a n c],.int .i64 k,.agg #[.int .u64 x.epoch,.int .u64 x.base,.slice a' n' c']] w fun r w'=>r=.returned (.bool (En e (BM l k) x))∧Below w.heap.size w w':=by
 obtain⟨rfl,hm,_,_⟩:=AH hl;have HL:=hid hl;clear hl;have HP:=hid hp;clear hp;by_cases h1:e<x.epoch
 ·have hff:Hid (En e (BM l k) x=false):=hid zBp
  go_enter Tryz.func79,Tryz.ntmps79;go_wp2;go_ret;exact⟨zK,zB⟩
 ·by_cases h2:k=0
  ·have hff:Hid (En e (BM l k) x=true):=hid zBl
   have e2:((k:Int)==0)=true:=by simp[h2]
   clear h2;go_enter Tryz.func79,Tryz.ntmps79;go_wp2;go_ret;exact⟨zK,zB⟩
  ·obtain⟨m,rfl⟩:∃m,k=m+1:=⟨k-1,zD⟩
   have hmb:m≤9223372036854775807:=zD;obtain⟨b,o,hA,hbb,a1,c1,hd0,hd1,hd2,r0,r1,hd⟩:=F3 HL.out (show m<l.length by omega);have hpm:l[m].base+l[m].entries.length≤18446744073709551615:=by have:=KQ (HP.out m zD zD);clear r0 r1;omega
   obtain⟨_,hm2,_,_⟩:=AH hd;have hprev:BM l (m+1)=some l[m]:=zAy;generalize hz:l[m]=z at*;clear hz hd;have hff:Hid (En e (BM l (m+1)) x=(decide (z.epoch≤x.epoch)&&decide (z.base+z.entries.length≤x.base))):=hid (by simp only[En];rw[Ad (by omega),hprev];rfl);subst hA;clear h2 hprev;rw[show ((m+1:Nat):Int)=(m:Int)+1 from rfl];have e2:((m:Int)+1==0)=false:=zI;have i2:(0:Int)≤(m:Int):=zD;have i3:(m:Int)<(l.length:Int):=zD;by_cases g1:z.epoch≤x.epoch
   ·have hf2:Hid (En e (BM l (m+1)) x=decide (z.base+z.entries.length≤x.base)):=hid (by rw[hff.out,Ad g1];rfl)
    go_enter Tryz.func79,Tryz.ntmps79;go_wp2;go_ret;refine⟨?_,zB⟩;rw[hf2.out];rfl
   ·have hf2:Hid (En e (BM l (m+1)) x=false):=hid (by rw[hff.out,Ae g1];rfl)
    go_enter Tryz.func79,Tryz.ntmps79;go_wp2;go_ret;refine⟨?_,zB⟩;rw[hf2.out];rfl
theorem Iu(e:Int)(l:List Batch)(a:Option Addr)(n c:Nat)(w:World)(h0:0≤e∧e≤18446744073709551615)(hl:Bf.r (·<w.heap.size) w [.slice a n c] l)(hfair:∀x∈l,Fair x.entries):
  Calls Tryz.prog 87 #[.agg #[.int .u64 e,.slice a n c]] w fun r w'=>r=.returned (.bool (Df ⟨e,l⟩))∧Below w.heap.size w w':=by
 obtain⟨rfl,hm,hm2,hm3⟩:=AH hl;have HL:=hid hl;clear hl;have HF:=hid hfair;clear hfair;go_enter Tryz.func87,Tryz.ntmps87;go_wp2_with fail;refine (DW e _).mono ?_;rintro e' w' ⟨rfl,rfl⟩;cases he:epR e
 ·have hff:Hid (Df ⟨e,l⟩=false):=hid (by simp[Df,he])
  clear he;go_wp2;go_ret;exact⟨zK,zB⟩
 ·by_cases hn:l.length≤16
  ·have d1:decide ((16:Int)<(l.length:Int))=false:=by simp;omega
   have hff:Hid (Df ⟨e,l⟩=DL e (BM l 0) (l.drop 0)):=hid (by simp[Df,he,hn,BM]);clear he;go_wp2_with fail;refine Dm (fun W=>Below w.heap.size w W∧w.heap.size<W.heap.size∧W.cell? ⟨w.heap.size,0,none⟩=some (.int .u64 e)∧W.cell? ⟨w.heap.size,1,none⟩=some (.slice a l.length c)) ⟨zB,zQ,ZJ,ZJ⟩ ?_;intro w1 ⟨hb2,hzb,s0,s1⟩;go_loopw [18] (fun i wr=>∃k:Nat,k≤l.length∧i=.int .i64 k∧Hid (Df ⟨e,l⟩=DL e (BM l k) (l.drop k))∧Hid (∀i,(h:i<l.length)→i<k→A4 l[i]=true)∧Below w1.heap.size w1 wr) (fun i _=>l.length-(intOf i).toNat)
   case atStart=>exact ⟨0,At _,rfl,hff,hid (fun i _ h=>absurd h (Nat.not_lt_zero i)),Below.refl _ _⟩
   case round=>
    obtain⟨k,hk,rfl,hf,hP,hb⟩:=hrel;have hb3:=Af hb hb2;have t0:wr.cell? ⟨w.heap.size,0,none⟩=some (.int .u64 e):=(AE.mk wr hb).cell s0;have t1:wr.cell? ⟨w.heap.size,1,none⟩=some (.slice a l.length c):=(AE.mk wr hb).cell s1;have hz3:w.heap.size<wr.heap.size:=ZS;by_cases hlt:k<l.length
    ·obtain⟨b,o,hA,hbb,a1,c1,hd0,hd1,hd2,r0,r1,hd⟩:=F3 HL.out hlt
     subst hA;have X0:=(hb3.cell (p:=⟨b,o+k*3,none⟩) hbb).trans hd0;have X1:=(hb3.cell (p:=⟨b,o+k*3+1,none⟩) hbb).trans hd1;have X2:=(hb3.cell (p:=⟨b,o+k*3+2,none⟩) hbb).trans hd2;clear hd0 hd1 hd2;have RL:=hid (Ie (lift HL.out hb3) hk);have hst:=hid (KM e l k hlt);have HZ:=hid (HF.out _ (AT hlt));obtain⟨_,hm4,_,_⟩:=AH hd;have R:=hid (lift hd hb3);clear hd;generalize hz:l[k]=z at*;have HZZ:=hid hz;clear hz;have i1:(k:Int)<(l.length:Int):=zD;have i2:(k:Int)≤(c:Int):=zD;go_wp2_with fail;refine Dm (fun W=>Below wr.heap.size wr W∧wr.heap.size<W.heap.size∧W.cell? ⟨wr.heap.size,0,none⟩=some (.int .u64 z.epoch)∧W.cell? ⟨wr.heap.size,1,none⟩=some (.int .u64 z.base)∧W.cell? ⟨wr.heap.size,2,none⟩=some (.slice a1 z.entries.length c1)) ⟨zB,zQ,ZJ,ZJ,ZJ⟩ ?_;intro W ⟨hbW,hzW,d0,d1,d2⟩;have hb6:=Af hbW hb3;have hb7:=Af hbW hb;have T0:=fun s:AE W=>s.cell ((hbW.cell (p:=⟨w.heap.size,0,none⟩) hz3).trans t0);have T1:=fun s:AE W=>s.cell ((hbW.cell (p:=⟨w.heap.size,1,none⟩) hz3).trans t1);have Y0:=fun s:AE W=>s.cell d0;have Y1:=fun s:AE W=>s.cell d1;have Y2:=fun s:AE W=>s.cell d2;have hB:=fun s:AE W=>H4 z a1 _ c1 s.at_ r0 r1 (lift R.out (Af s.below hbW)) HZ.out;cases hr:A4 z
     ·have hf3:Hid (Df ⟨e,l⟩=false):=hid ZN
      rw[hr] at hB;have HB:=hid hB;clear hB hr;refine Ax zJ zJ ?_;repeat (go_big_quiet_step (((go_at_call 143;exact A9 (HB.out _)))))
      refine AI ?_;rintro W5 ⟨⟨W5',hb5⟩,rfl⟩;go_wp2;go_ret;exact⟨ZK,Af hb5 hb6⟩
     ·have HR:=hid hr
      rw[hr] at hB;have HB:=hid hB;clear hB;have hS:=fun s:AE W=>Kp e (l.take k) z (some ⟨b,o,none⟩) a1 k c z.entries.length c1 s.at_ (lift RL.out (Af s.below hbW)) (PS hP.out);rw[Qb l hk] at hS;cases hv:En e (BM l k) z
      ·have hf3:Hid (Df ⟨e,l⟩=false):=hid Z8
       rw[hv] at hS;have HS:=hid hS;clear hS hr hv;refine Ax zJ zJ ?_;repeat (go_big_quiet_step (((first | (go_at_call 143;exact A9 (HB.out _)) | (go_at_call 144;exact A9 (HS.out _))))))
       refine AI ?_;rintro W5 ⟨⟨W5',hb5⟩,rfl⟩;go_wp2;go_ret;exact⟨ZK,Af hb5 hb6⟩
      ·have hf3:Hid (Df ⟨e,l⟩=DL e (BM l (k+1)) (l.drop (k+1))):=hid Z8
       rw[hv] at hS;have HS:=hid hS;clear hS hr hv;refine Ax zJ zJ ?_;repeat (go_big_quiet_step (((first | (go_at_call 143;exact A9 (HB.out _)) | (go_at_call 144;exact A9 (HS.out _))))))
       refine AI ?_;rintro W5 ⟨⟨W5',hb5⟩,rfl⟩;go_wp2;go_roundw
       case rel=>exact ⟨k+1,zD,zT,hf3,hid (LC hlt HZZ.out HR.out hP.out),Af hb5 hb7⟩
       case measure=>simp [intOf];omega
    ·obtain rfl:k=l.length:=by omega
     have hf3:Hid (Df ⟨e,l⟩=true):=hid ZG;go_wp2;go_ret;exact⟨ZK,hb3⟩
  ·have d1:decide ((16:Int)<(l.length:Int))=true:=by simp;omega
   have hff:Hid (Df ⟨e,l⟩=false):=hid (by simp[Df,hn]);go_wp2;go_ret;exact⟨zK,zB⟩
theorem Ku(e:Int)(l:List Batch)(a:Option Addr)(n c:Nat)(w:World)(h0:0≤e∧e≤18446744073709551615)(hl:Bf.r (·<w.heap.size) w [.slice a n c] l)(hfair:∀x∈l,Fair x.entries):
  Calls Tryz.prog 40 #[.agg #[.int .u64 e,.slice a n c]] w fun r w'=>r=.returned (.bool (Df ⟨e,l⟩))∧Below w.heap.size w w':=by
 obtain⟨rfl,hm,hm2,hm3⟩:=AH hl;have HL:=hid hl;clear hl;have HF:=hid hfair;clear hfair;go_enter Tryz.func40,Tryz.ntmps40;go_wp2_with fail;refine (Kv e h0.1 _).mono ?_;rintro e' w' ⟨rfl,rfl⟩;cases he:epR e
 ·have hff:Hid (Df ⟨e,l⟩=false):=hid (by simp[Df,he])
  clear he;go_wp2;go_ret;exact⟨zK,zB⟩
 ·by_cases hn:l.length≤16
  ·have d1:decide ((16:Int)<(l.length:Int))=false:=by simp;omega
   have hff:Hid (Df ⟨e,l⟩=DL e (BM l 0) (l.drop 0)):=hid (by simp[Df,he,hn,BM]);clear he;go_wp2_with fail;refine Dm (fun W=>Below w.heap.size w W∧w.heap.size<W.heap.size∧W.cell? ⟨w.heap.size,0,none⟩=some (.int .u64 e)∧W.cell? ⟨w.heap.size,1,none⟩=some (.slice a l.length c)) ⟨zB,zQ,ZJ,ZJ⟩ ?_;intro w1 ⟨hb2,hzb,s0,s1⟩;go_loopw [3] (fun i wr=>∃k:Nat,k≤l.length∧i=.int .i64 k∧Hid (Df ⟨e,l⟩=DL e (BM l k) (l.drop k))∧Hid (∀i,(h:i<l.length)→i<k→A4 l[i]=true)∧Below w1.heap.size w1 wr) (fun i _=>l.length-(intOf i).toNat)
   case atStart=>exact ⟨0,At _,rfl,hff,hid (fun i _ h=>absurd h (Nat.not_lt_zero i)),Below.refl _ _⟩
   case round=>
    obtain⟨k,hk,rfl,hf,hP,hb⟩:=hrel;have hb3:=Af hb hb2;have t0:wr.cell? ⟨w.heap.size,0,none⟩=some (.int .u64 e):=(AE.mk wr hb).cell s0;have t1:wr.cell? ⟨w.heap.size,1,none⟩=some (.slice a l.length c):=(AE.mk wr hb).cell s1;have hz3:w.heap.size<wr.heap.size:=ZS;by_cases hlt:k<l.length
    ·obtain⟨b,o,hA,hbb,a1,c1,hd0,hd1,hd2,r0,r1,hd⟩:=F3 HL.out hlt
     subst hA;have X0:=(hb3.cell (p:=⟨b,o+k*3,none⟩) hbb).trans hd0;have X1:=(hb3.cell (p:=⟨b,o+k*3+1,none⟩) hbb).trans hd1;have X2:=(hb3.cell (p:=⟨b,o+k*3+2,none⟩) hbb).trans hd2;clear hd0 hd1 hd2;have RL:=hid (lift HL.out hb3);have hst:=hid (KM e l k hlt);have HZ:=hid (HF.out _ (AT hlt));obtain⟨_,hm4,_,_⟩:=AH hd;have R:=hid (lift hd hb3);clear hd;generalize hz:l[k]=z at*;have HZZ:=hid hz;clear hz;have i1:(k:Int)<(l.length:Int):=zD;have i2:(k:Int)≤(c:Int):=zD;have T0:=fun s:AE wr=>s.cell t0;have T1:=fun s:AE wr=>s.cell t1;have Y0:=fun s:AE wr=>s.cell X0;have Y1:=fun s:AE wr=>s.cell X1;have Y2:=fun s:AE wr=>s.cell X2;have hB:=fun s:AE wr=>Oz z a1 _ c1 s.at_ r0 r1 (lift R.out s.below) HZ.out;cases hr:A4 z
     ·have hf3:Hid (Df ⟨e,l⟩=false):=hid ZN
      rw[hr] at hB;have HB:=hid hB;clear hB hr;go_wp2_with fail;refine Ax zJ zJ ?_;repeat (go_big_quiet_step (((go_at_call 90;exact A9 (HB.out _)))))
      refine AI ?_;rintro W5 ⟨⟨W5',hb5⟩,rfl⟩;go_wp2;go_ret;exact⟨ZK,Af hb5 hb3⟩
     ·have HR:=hid hr
      rw[hr] at hB;have HB:=hid hB;clear hB;have hS:=fun s:AE wr=>RP e l z k (some ⟨b,o,none⟩) a1 l.length c z.entries.length c1 s.at_ (lift RL.out s.below) hk hP.out;skip;cases hv:En e (BM l k) z
      ·have hf3:Hid (Df ⟨e,l⟩=false):=hid Z8
       rw[hv] at hS;have HS:=hid hS;clear hS hr hv;go_wp2_with fail;refine Ax zJ zJ ?_;repeat (go_big_quiet_step (((first | (go_at_call 90;exact A9 (HB.out _)) | (go_at_call 79;exact A9 (HS.out _))))))
       refine AI ?_;rintro W5 ⟨⟨W5',hb5⟩,rfl⟩;go_wp2;go_ret;exact⟨ZK,Af hb5 hb3⟩
      ·have hf3:Hid (Df ⟨e,l⟩=DL e (BM l (k+1)) (l.drop (k+1))):=hid Z8
       rw[hv] at hS;have HS:=hid hS;clear hS hr hv;go_wp2_with fail;refine Ax zJ zJ ?_;repeat (go_big_quiet_step (((first | (go_at_call 90;exact A9 (HB.out _)) | (go_at_call 79;exact A9 (HS.out _))))))
       refine AI ?_;rintro W5 ⟨⟨W5',hb5⟩,rfl⟩;go_wp2;go_roundw
       case rel=>exact ⟨k+1,zD,zT,hf3,hid (LC hlt HZZ.out HR.out hP.out),Af hb5 hb⟩
       case measure=>simp [intOf];omega
    ·obtain rfl:k=l.length:=by omega
     have hf3:Hid (Df ⟨e,l⟩=true):=hid ZG;go_wp2;go_ret;exact⟨ZK,hb3⟩
  ·have d1:decide ((16:Int)<(l.length:Int))=true:=by simp;omega
   have hff:Hid (Df ⟨e,l⟩=false):=hid (by simp[Df,hn]);go_wp2;go_ret;exact⟨zK,zB⟩
theorem PU(x y:Batch)(a a':Option Addr)(n c n' c':Nat)(w:World)(hx:AW.r (·<w.heap.size) w [.slice a n c] x.entries)(hy:AW.r (·<w.heap.size) w [.slice a' n' c'] y.entries):
  Calls Tryz.prog 61 #[.agg #[.int .u64 x.epoch,.int .u64 x.base,.slice a n c],.agg #[.int .u64 y.epoch,.int .u64 y.base,.slice a' n' c']] w fun r w'=>r=.returned (.bool (decide (x=y)))∧Below w.heap.size w w':=by
 obtain⟨xe,xb,xl⟩:=x;obtain⟨ye,yb,yl⟩:=y;dsimp only at*;have HX:=hid hx;clear hx;have HY:=hid hy;clear hy;by_cases h1:xe=ye
 ·by_cases h2:xb=yb
  ·have hff:Hid (decide ((⟨xe,xb,xl⟩:Batch)=⟨ye,yb,yl⟩)=decide (xl=yl)):=hid (by simp[h1,h2])
   have d1:(xe==ye)=true:=by simp[h1]
   have d2:(xb==yb)=true:=by simp[h2]
   clear h1 h2;go_enter Tryz.func61,Tryz.ntmps61;go_wp2_with fail;refine (RQ xl yl _ _ _ _ _ _ _ (lift HX.out zB) (lift HY.out zB)).mono ?_;rintro e w1 ⟨rfl,hb1⟩;have hb2:Below w.heap.size w w1:=zB;go_wp2;go_ret;exact⟨zK,hb2⟩
  ·have hff:Hid (decide ((⟨xe,xb,xl⟩:Batch)=⟨ye,yb,yl⟩)=false):=hid (by simp[h1,h2])
   have d1:(xe==ye)=true:=by simp[h1]
   have d2:(xb==yb)=false:=by simp[h2]
   clear h1 h2;go_enter Tryz.func61,Tryz.ntmps61;go_wp2;go_ret;exact⟨zK,zB⟩
 ·have hff:Hid (decide ((⟨xe,xb,xl⟩:Batch)=⟨ye,yb,yl⟩)=false):=hid (by simp[h1])
  have d1:(xe==ye)=false:=by simp[h1]
  clear h1;go_enter Tryz.func61,Tryz.ntmps61;go_wp2;go_ret;exact⟨zK,zB⟩
theorem PT(ex ey:Int)(x y:List Batch)(a a':Option Addr)(n c n' c':Nat)(w:World)(hx:Bf.r (·<w.heap.size) w [.slice a n c] x)(hy:Bf.r (·<w.heap.size) w [.slice a' n' c'] y):
  Calls Tryz.prog 37 #[.agg #[.int .u64 ex,.slice a n c],.agg #[.int .u64 ey,.slice a' n' c']] w fun r w'=>r=.returned (.bool (decide ((⟨ex,x⟩:Seg)=⟨ey,y⟩)))∧Below w.heap.size w w':=by
 obtain⟨rfl,hm,_,_⟩:=AH hx;obtain⟨rfl,hm',_,_⟩:=AH hy;by_cases he:ex=ey
 ·have d0:(ex !=ey)=false:=by simp[he]
  by_cases hl:x.length=y.length
  ·have HX:=hid hx;clear hx
   have HY:=hid hy;clear hy;have HL:=hid hl;have e1:((x.length:Int) !=(y.length:Int))=false:=by simp[hl]
   have h0:Hid (decide ((⟨ex,x⟩:Seg)=⟨ey,y⟩)=decide (x.drop 0=y.drop 0)):=hid (by simp[he]);clear hl he;go_enter Tryz.func37,Tryz.ntmps37;go_wp2_with fail;refine Dm (fun W=>Below w.heap.size w W∧w.heap.size+1<W.heap.size∧W.cell? ⟨w.heap.size,1,none⟩=some (.slice a x.length c)∧W.cell? ⟨w.heap.size+1,1,none⟩=some (.slice a' y.length c')) ⟨zB,zQ,ZJ,ZJ⟩ ?_;intro w1 ⟨hb2,hzb,s0,s1⟩;go_loopw [5] (fun i wr=>∃k:Nat,k≤x.length∧i=.int .i64 k∧Hid (decide ((⟨ex,x⟩:Seg)=⟨ey,y⟩)=decide (x.drop k=y.drop k))∧Below w1.heap.size w1 wr) (fun i _=>x.length-(intOf i).toNat)
   case atStart=>exact ⟨0,At _,rfl,h0,Below.refl _ _⟩
   case round=>
    obtain⟨k,hk,rfl,hf,hb7⟩:=hrel;have hb:=Af hb7 hb2;have t0:wr.cell? ⟨w.heap.size,1,none⟩=some (.slice a x.length c):=(AE.mk wr hb7).cell s0;have t1:wr.cell? ⟨w.heap.size+1,1,none⟩=some (.slice a' y.length c'):=(AE.mk wr hb7).cell s1;have hz3:w.heap.size+1<wr.heap.size:=by have:=hb7.size;omega
    by_cases hlt:k<x.length
    ·have hlt':k<y.length:=by rw[←HL.out];exact hlt
     obtain⟨b,o,hA,hbb,a1,c1,hc0,hc1,hc2,_,_,hr1⟩:=F3 HX.out hlt;obtain⟨b',o',hA',hbb',a2,c2,hd0,hd1,hd2,_,_,hr2⟩:=F3 HY.out hlt';have hst:=hid (Fo x y k hlt hlt');subst hA hA';have T0:=fun s:AE wr=>s.cell t0;have T1:=fun s:AE wr=>s.cell t1;have X0:=fun s:AE wr=>s.cell ((hb.cell (p:=⟨b,o+k*3,none⟩) hbb).trans hc0);have X1:=fun s:AE wr=>s.cell ((hb.cell (p:=⟨b,o+k*3+1,none⟩) hbb).trans hc1);have X2:=fun s:AE wr=>s.cell ((hb.cell (p:=⟨b,o+k*3+2,none⟩) hbb).trans hc2);have Y0:=fun s:AE wr=>s.cell ((hb.cell (p:=⟨b',o'+k*3,none⟩) hbb').trans hd0);have Y1:=fun s:AE wr=>s.cell ((hb.cell (p:=⟨b',o'+k*3+1,none⟩) hbb').trans hd1);have Y2:=fun s:AE wr=>s.cell ((hb.cell (p:=⟨b',o'+k*3+2,none⟩) hbb').trans hd2);clear hc0 hc1 hc2 hd0 hd1 hd2;generalize hlk:x[k]=u at*;generalize hlm:y[k]=v at*;clear hlk hlm;have hs1:=hid (lift hr1 hb);have hs2:=hid (lift hr2 hb);clear hr1 hr2;have hO:=fun s:AE wr=>PU u v a1 a2 _ c1 _ c2 s.at_ (lift hs1.out s.below) (lift hs2.out s.below);have i0:(0:Int)≤(k:Int):=zD;have i1:(k:Int)<(x.length:Int):=zD;have i2:(k:Int)<(y.length:Int):=zD;by_cases huv:u=v
     ·rw[Ad huv] at hO
      have HO:=hid hO;clear hO;have hst':Hid (decide (x.drop k=y.drop k)=decide (x.drop (k+1)=y.drop (k+1))):=hid zAv;clear huv;go_wp2_with fail;refine Ax zJ zJ ?_;repeat (go_big_quiet_step (((go_at_call 61;exact A9 (HO.out _)))))
      refine AI ?_;rintro W5 ⟨⟨W5',hb5⟩,rfl⟩;go_wp2;go_roundw
      case rel=>exact ⟨k+1,zD,zT,hid zAk,Af hb5 hb7⟩
      case measure=>simp [intOf];omega
     ·rw[Ae huv] at hO
      have HO:=hid hO;clear hO;have hff:Hid (decide ((⟨ex,x⟩:Seg)=⟨ey,y⟩)=false):=hid zAd;clear huv;go_wp2_with fail;refine Ax zJ zJ ?_;repeat (go_big_quiet_step (((go_at_call 61;exact A9 (HO.out _)))))
      refine AI ?_;rintro W5 ⟨⟨W5',hb5⟩,rfl⟩;go_wp2;go_ret;exact⟨zK,Af hb5 hb⟩
    ·obtain rfl:k=x.length:=by omega
     have hff:Hid (decide ((⟨ex,x⟩:Seg)=⟨ey,y⟩)=true):=hid zW;go_wp2;go_ret;exact⟨zK,hb⟩
  ·have hff:Hid (decide ((⟨ex,x⟩:Seg)=⟨ey,y⟩)=false):=hid (by simp;rintro _ rfl;exact hl rfl)
   have e1:((x.length:Int) !=(y.length:Int))=true:=zI;clear hl hx hy he;go_enter Tryz.func37,Tryz.ntmps37;go_wp2;go_ret;exact⟨zK,zB⟩
 ·have hff:Hid (decide ((⟨ex,x⟩:Seg)=⟨ey,y⟩)=false):=hid (by simp[he])
  have d0:(ex !=ey)=true:=by simp[he]
  clear he hx hy;go_enter Tryz.func37,Tryz.ntmps37;go_wp2;go_ret;exact⟨zK,zB⟩
theorem Uw:(Tryz.prog.info? 36).map (fun i=>(i.zero,i.size,i.bytes))=some (some (.int .u64 0),1,8):=zJ
def E8(w w':World)(b:Nat):Prop:=w.heap.size≤b∧b<w'.heap.size
theorem Ga{l:List Int}(h:Bw.r S w [.slice a n c] l):∀x∈l,0≤x∧x≤18446744073709551615:=by
 intro x hx;obtain⟨i,hi,rfl⟩:=List.getElem_of_mem hx;obtain⟨b,o,_,_,_,h2⟩:=FG h hi;exact h2
theorem OS(x:Ba)(a:Option Addr)(n c:Nat)(w:World)(hl:Bw.r (·<w.heap.size) w [.slice a n c] x.backs)(hlen:x.backs.length≤1000000000000):
  Calls Tryz.prog 328 #[.agg #[.int .u64 x.stream,.slice a n c]] w fun r w'=>∃v,r=.returned (.agg #[.int .u64 x.stream,v])∧Bw.r (E8 w w') w' [v] x.backs∧Below w.heap.size w w':=by
 obtain⟨rfl,hm,_,_⟩:=AH hl;obtain⟨i0,hi,hz0,hz1,hz2⟩:=A1 Uw;have hw:=hid (Ga hl);have HL:=hid hl;clear hl;have hone:=Ny x.backs;have HONE:=hid hone;clear hone;go_enter Tryz.func328,Tryz.ntmps328;have hfree:∀(W:World),W.heap.size=w.heap.size+1+1→(W.alloc (.cells #[] 36)).ownsRow (w.heap.size+1+1) 36 1 (.slice (some ⟨w.heap.size+1+1,0,none⟩) 0 0) 0 []:=fun W h=>D4 W zD h.symm;have HF:=hid hfree;clear hfree;have hbel:∀W:World,Below w.heap.size w W→Src W a x.backs.length 1 (CA x.backs):=fun W h=>SY (lift HL.out h);have HB:=hid hbel;clear hbel;go_wp2_with (at_builtin;go_loud (refine AA rfl _ _ _ rfl (w.heap.size+1+1) 36 i0 (.int .u64 0) 1 8 JQ hi hz0 hz1 hz2 rfl zO (.slice (some ⟨w.heap.size+1+1,0,none⟩) 0 0) 0 [] rfl (HF.out _ zQ) a x.backs.length c (CA x.backs) rfl (HB.out _ zB) HONE.out zN zD zL ?_;intro v1 w1 hown1 hgrow1 hat1;rw[Bj,A8] at hown1;obtain⟨av,cv,hv1⟩:=AX hown1;subst hv1;have HG:=hid hgrow1;have HO:=hid hown1;have HA:=hid hat1;clear hown1 hgrow1 hat1;have q0:Blk w1 w.heap.size 215 #[.int .u64 x.stream,.slice a x.backs.length c]:=(((Blk.new w _ _).alloc _).alloc _).grown HG.out zBc;have q1:Blk w1 (w.heap.size+1) 215 #[.int .u64 0,.slice none 0 0]:=((Blk.Uv w _ _ _).alloc _).grown HG.out zBc;have c00:w1.cell? ⟨w.heap.size,0,none⟩=some (.int .u64 x.stream):=q0.cell 0;have c01:w1.cell? ⟨w.heap.size,1,none⟩=some (.slice a x.backs.length c):=q0.cell 1;have c10:w1.cell? ⟨w.heap.size+1,0,none⟩=some (.int .u64 0):=q1.cell 0;have c11:w1.cell? ⟨w.heap.size+1,1,none⟩=some (.slice none 0 0):=q1.cell 1;have f00:=q0.free 0;have f01:=q0.free 1;have f10:=q1.free 0;have f11:=q1.free 1;have Q0:=hid q0;have Q1:=hid q1;clear q0 q1))
 have hb1:Below w.heap.size w w1:=Below.grown zB HG.out zL (fun g e=>by simp only[Value.ownBlock,Bh] at e;omega);have hr1:=GJ hw.out rfl HO.out;have hz1:w.heap.size+1+1<w1.heap.size:=by have:=HG.out.size;simp at this;omega
 clear HG HO HA;refine An (v:=.agg #[.int .u64 x.stream,.slice av x.backs.length cv]) (by simp[results,Tryz.results328,go_sem,c00,c01,c10,c11]) rfl ⟨.slice av x.backs.length cv,rfl,?_,zB⟩;refine Bw.mono (Bw.keep hr1 fun b hb=> ?_) fun b hb=>⟨zD,zI⟩;repeat rw[Aw _ _ _ _ zH]
end Go.Proofs.YtfddhafbhceoaaaGreat
