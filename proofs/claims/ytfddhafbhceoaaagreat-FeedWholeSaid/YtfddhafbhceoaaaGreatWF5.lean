/- Mini: Needed by feedNone_walk, part 5: texts put together by shake.py; no condition. -/
import Derived.Test.YtfddhafbhceoaaaGreatWF3
import Derived.Test.YtfddhafbhceoaaaGreatWF2
import Derived.Test.YtfddhafbhceoaaaGreatWF4
import Derived.Lib.SlBytesConst
import Derived.RegionTactic
import Derived.Laws.BitsAllLaws
import Derived.Test.YtfddhafbhceoaaaGreatWF1
import Derived.Deep.AppendLies
import Derived.Deep.RegionLaw
set_option linter.unusedVariables false
set_option linter.unusedSimpArgs false
set_option maxRecDepth 100000
set_option maxHeartbeats 6400000
namespace Go.Bs
variable{c:Nat}
theorem zBf{p:Prop}(h:p:=by simp only [Value.ownBlock, ne_eq, BV]; omega):p:=h
theorem zA5{p:Prop}(h:p:=by dsimp only at e; omega):p:=h
theorem ZF{p:Prop}(h:p:=by have := HFIT.out; rw [HK.out] at this; simp at this ⊢; omega):p:=h
theorem ZE{p:Prop}(h:p:=by have := HLEN.out; rw [HK.out] at this; simp at this ⊢; omega):p:=h
theorem zS{p:Prop}(h:p:=by first | (simp; done) | (simp; omega)):p:=h
theorem Lj:type_of% @Nat.mul_comm:=@Nat.mul_comm
end Go.Bs
namespace Go.Proofs.YtfddhafbhceoaaaGreat
open Go.RowKit Go.Bs Go.Maps
variable{bound m:Int}{B J:List UInt8}{L base c g k n sz:Nat}{S:Nat → Prop}{a a1:Option Addr}{s:Rs}{w:World}
theorem FE(h:a1.map Addr.block=a.map Addr.block∨∃q,a1.map Addr.block=some q∧w.heap.size≤q){q:Nat}(hq:q<w.heap.size)(hn:¬Dm g a q):¬Dm g a1 q:=by
 rw[Gy] at hn ⊢
 intro e
 rcases e with e | e
 ·exact hn (.inl e)
 ·rcases h with h | ⟨q',h,h2⟩
  ·exact hn (.inr (h ▸ e))
  ·rw[h] at e;have:=AR e;omega
theorem Qd(w:World)(y:UInt8):Am.r (·<(w.alloc (.cells #[.int .u8 (y.toNat:Int)] 5)).heap.size) (w.alloc (.cells #[.int .u8 (y.toNat:Int)] 5)) [.slice (some ⟨w.heap.size,0,none⟩) 1 1] [y]:=
 F7 (l:=[y]) rfl (Ra (base:=0) (Ar _) (World.alloc_heap_new w _))
theorem Py(w:World){g base most:Nat}{J:List UInt8}{a:Option Addr}(h:BG w g base most J a c)(p:List UInt8)(ad:Option Addr)(nd cd:Nat)
 (hD:Am.r (fun q=>q<w.heap.size∧¬Dm g a q) w [.slice ad nd cd] p) (hp:p.length≤1048576) (hfit:J.length+(Bj p).length≤most) (hlen:J.length+(Bj p).length≤100000000000000):
  Calls Tryz.prog 276 #[.pointer (some ⟨g,0,none⟩),.slice ad nd cd] w fun r w'=>r=.returned (.tuple #[])∧AA w g base most (J++Bj p) a w':=by
 obtain⟨rfl,hm,_,_⟩:=AL hD
 have d1:decide ((1048576:Int)<(p.length:Int))=false:=Ae zC
 have hbk:Hid (Bj p=AD p.length++(if Ja p then 1::Ei (En p) else 0::p)):=hid rfl
 have hvl:(AD p.length).length≤(Bj p).length:=by rw[hbk.out];simp
 have HV:=hid (CD w h p.length zC zC zC)
 have HPK:=hid (fun (W:World) (hl:Am.r (·<W.heap.size) W [.slice ad p.length cd] p)=>QE W p ad _ cd hl hp)
 have HD:=hid hD
 have HFIT:=hid hfit;have HLEN:=hid hlen
 clear h hD hfit hlen hvl
 generalize Ja p=R at*
 generalize En p=E at*
 generalize AD p.length=V at*
 generalize Bj p=K at*
 cases R
 ·have HK:Hid (K=V++(0::p)):=hid hbk.out
  clear hbk
  go_enter Tryz.func276,Tryz.ntmps276
  go_wp2_with fail
  refine HV.out.mono ?_
  rintro r w1 ⟨rfl,a1,c1,hp1,ht1,ha1⟩
  have hs1:=ht1.size
  have hD1:Am.r (fun q=>q<w1.heap.size∧¬Dm g a1 q) w1 [.slice ad p.length cd] p:=Am.mono (Am.keep HD.out fun q hq=>ht1.block q hq.1 hq.2) fun q hq=>⟨zC,FE ha1 hq.1 hq.2⟩
  have HD1:=hid hD1
  clear hD1
  go_wp2_with fail
  refine (HPK.out _ (Am.mono HD1.out fun q hq=>hq.1)).mono ?_
  rintro r w2 ⟨v2,rfl,_,hv2,hb2⟩
  obtain rfl:=hv2 trivial
  have hs2:=hb2.size
  have hp2:=hp1.later hb2
  go_wp2_with fail
  have hbW:Below w2.heap.size w2 (w2.alloc (.cells #[.int .u8 0] 5)):=zB
  have hlit:Am.r (·<(w2.alloc (.cells #[.int .u8 0] 5)).heap.size) (w2.alloc (.cells #[.int .u8 0] 5)) [.slice (some ⟨w2.heap.size,0,none⟩) 1 1] [0]:=Qd w2 0
  generalize w2.alloc (.cells #[.int .u8 0] 5)=W at*
  have hsW:=hbW.size
  refine (Fp W (hp2.later hbW) [0] (some ⟨w2.heap.size,0,none⟩) 1 1 hlit ZF ZE).mono ?_
  rintro r w3 ⟨rfl,a3,c3,hp3,ht3,ha3⟩
  have hs3:=ht3.size
  have hD3:Am.r (·<w3.heap.size) w3 [.slice ad p.length cd] p:=Am.mono (Am.keep HD1.out fun q hq=>(ht3.block q zC hq.2).trans ((hbW.block q zC).trans (hb2.block q hq.1))) fun q hq=>by omega
  have HQ:=hid (Fp w3 hp3 p ad _ cd hD3 ZF ZE)
  clear hD3 hlit
  go_wp2_with fail
  refine HQ.out.mono ?_
  rintro r w4 ⟨rfl,hst⟩
  have hst2:=AA.trans (J:=J) ht1 ha1 (AA.later hb2 (AA.later hbW (AA.trans (J:=J) ht3 ha3 hst)))
  have HST:Hid (AA w g base most (J++K) a w4):=hid (by rw[HK.out];simpa using hst2)
  clear hst hst2
  go_wp2
  first | go_end0 | refine Ax (A4 rfl _ _ _) rfl ?_
  exact⟨rfl,HST.out⟩
 ·have HK:Hid (K=V++(1::Ei E)):=hid hbk.out
  clear hbk
  go_enter Tryz.func276,Tryz.ntmps276
  go_wp2_with fail
  refine HV.out.mono ?_
  rintro r w1 ⟨rfl,a1,c1,hp1,ht1,ha1⟩
  have hs1:=ht1.size
  have hD1:Am.r (fun q=>q<w1.heap.size∧¬Dm g a1 q) w1 [.slice ad p.length cd] p:=Am.mono (Am.keep HD.out fun q hq=>ht1.block q hq.1 hq.2) fun q hq=>⟨zC,FE ha1 hq.1 hq.2⟩
  have HD1:=hid hD1
  clear hD1
  go_wp2_with fail
  refine (HPK.out _ (Am.mono HD1.out fun q hq=>hq.1)).mono ?_
  rintro r w2 ⟨v2,rfl,hv2,_,hb2⟩
  obtain⟨a2,c2,hve,hr2,_⟩:=AH (hv2 trivial)
  simp only[Av,AI] at hve
  subst hve
  have HE:=hid hr2
  clear hv2 hr2
  have hs2:=hb2.size
  have hp2:=hp1.later hb2
  go_wp2_with fail
  have hbW:Below w2.heap.size w2 (w2.alloc (.cells #[.int .u8 1] 5)):=zB
  have hlit:Am.r (·<(w2.alloc (.cells #[.int .u8 1] 5)).heap.size) (w2.alloc (.cells #[.int .u8 1] 5)) [.slice (some ⟨w2.heap.size,0,none⟩) 1 1] [1]:=Qd w2 1
  generalize w2.alloc (.cells #[.int .u8 1] 5)=W at*
  have hsW:=hbW.size
  refine (Fp W (hp2.later hbW) [1] (some ⟨w2.heap.size,0,none⟩) 1 1 hlit ZF ZE).mono ?_
  rintro r w3 ⟨rfl,a3,c3,hp3,ht3,ha3⟩
  have hs3:=ht3.size
  have hno:∀q,w1.heap.size≤q→¬Dm g a1 q:=fun q hq hf=>by have:=(hp1.BH hf).2;omega
  have hE3:Am.r (fun q=>q<w3.heap.size∧¬Dm g a3 q) w3 [.slice a2 E.length c2] E:=Am.mono (Am.keep HE.out fun q hq=>(ht3.block q zC (hno q hq.1)).trans (hbW.block q zC)) fun q hq=>⟨zC,FE ha3 zC (hno q hq.1)⟩
  have HQ:=hid (Sl w3 hp3 E a2 _ c2 hE3 ZF ZE)
  clear hE3 hlit hno
  go_wp2_with fail
  refine HQ.out.mono ?_
  rintro r w4 ⟨rfl,hst⟩
  have hst2:=AA.trans (J:=J) ht1 ha1 (AA.later hb2 (AA.later hbW (AA.trans (J:=J) ht3 ha3 hst)))
  have HST:Hid (AA w g base most (J++K) a w4):=hid (by rw[HK.out];simpa using hst2)
  clear hst hst2
  go_wp2
  first | go_end0 | refine Ax (A4 rfl _ _ _) rfl ?_
  exact⟨rfl,HST.out⟩
theorem N5(p:List UInt8):(Bj p).length≤(AD p.length).length+p.length+1:=by
 unfold Bj
 by_cases h:Ja p=true
 ·have h2:=h
  unfold Ja at h2
  have h3:=C8 h2
  rw[Ag h]
  simp;omega
 ·rw[Ai h]
  simp;omega
theorem Mq(w:World)(p:List UInt8)(a:Option Addr)(n c:Nat)(hl:Am.r (·<w.heap.size) w [.slice a n c] p)(hp:p.length≤1048576):
  Calls Tryz.prog 213 #[.slice a n c] w fun r w'=>∃v,r=.returned (.tuple #[v,.int .i64 0])∧Am.r (fun q=>w.heap.size≤q∧q<w'.heap.size) w' [v] (Bj p)∧Below w.heap.size w w':=by
 obtain⟨rfl,hm,_,_⟩:=AL hl
 have HS:=hid (JJ p.length zC w)
 have hbl:=N5 p
 have hvl:=A1 p.length
 have HL:=hid hl
 clear hl
 generalize (AD p.length).length=k at*
 have hbK:=hid hbl
 clear hbl
 go_enter Tryz.func213,Tryz.ntmps213
 go_wp2_with fail
 refine HS.out.mono ?_
 rintro r w1 ⟨rfl,hb1⟩
 have HN:=hid (Gh w1 (k+p.length+1) zC)
 rw[show ((k+p.length+1:Nat):Int)=(k:Int)+(p.length:Int)+1 by omega] at HN
 have hs1:=hb1.size
 go_wp2_with fail
 refine HN.out.mono ?_
 rintro r w2 ⟨rfl,hp2,hb2⟩
 have hs2:=hb2.size
 have hbw2:=Aj hb2 hb1
 have HQ:=hid (Py w2 hp2 p a _ c (Am.mono (Am.keep HL.out fun q hq=>hbw2.block q hq) fun q hq=>⟨zC,fun hf=>by have:=(hp2.BH hf).1;omega⟩) hp (by have:=hbK.out;simp;omega) (by have:=hbK.out;simp;omega))
 have HP2:=hid hp2
 clear hp2
 go_wp2_with fail
 refine HQ.out.mono ?_
 rintro r w3 ⟨rfl,hst⟩
 have hb3:Below w1.heap.size w2 w3:=HP2.out.below (As _) zC hst
 obtain⟨a3,c3,hp3,_,_⟩:=hst
 rw[AG] at hp3
 have hs3:=hb3.size
 have hbw3:Below w.heap.size w w3:=hbw2.trans (hb3.mono zC)
 have HB:=hid (Fx w3 hp3)
 clear hp3
 go_wp2_with fail
 refine HB.out.mono ?_
 rintro r w4 ⟨v,rfl,hv,hb4⟩
 have hbe:=Aj hb4 hbw3
 have HV:=hid (Am.mono (S':=fun q=>w.heap.size≤q∧q<w4.heap.size) hv fun q hq=>⟨ZG,hq.2⟩)
 clear hv
 go_wp2
 go_ret2
 exact⟨_,rfl,HV.out,hbe⟩
def Rs.inn(s:Rs)(L:Nat):Prop:=0≤s.f∧s.f≤L
theorem Rs.GC(h:s.inn L){c at_:Int}(h1:0≤at_)(h2:at_≤L):(s.fail c at_).inn L:=by
 unfold Rs.fail;split
 ·exact⟨h1,h2⟩
 ·exact h
theorem Rs.PO(h:s.ok L)(hi:s.inn L)(n:Int):(s.skip L n).2.inn L:=by
 have:=h.le
 unfold Rs.skip Rs.inn at*
 split
 ·split
  ·dsimp only;omega
  ·split
   ·dsimp only;omega
   ·dsimp only;omega
 ·exact hi
theorem Rs.S6(h:s.ok B.length)(hi:s.inn B.length):(s.num B).1.inn B.length:=by
 have hu:=H4 (B.drop s.p) 0 0
 have hl:(B.drop s.p).length=B.length-s.p:=zM
 have:=h.le
 unfold Rs.num Rs.inn at*
 split
 ·dsimp only
  split
  ·omega
  ·split
   ·omega
   ·rename_i h1 h2
    have:=hu.2.2.2.2 h2
    omega
 ·exact hi
theorem Rs.Yn(h:s.ok B.length)(hi:s.inn B.length):(s.head B).1.inn B.length:=by
 have hle:=h.le
 have hn:=Rs.S6 h hi
 unfold Rs.head;split
 ·split
  ·split
   ·exact Rs.GC hn zC zC
   ·exact hn
  ·split
   ·exact Rs.GC hn zC zC
   ·exact hn
 ·exact hn
theorem Rs.Lu(h:s.ok B.length)(hi:s.inn B.length):(s.offset B).1.inn B.length:=by
 have hle:=h.le
 have hn:=Rs.S6 h hi
 unfold Rs.offset;dsimp only;split
 ·exact Rs.GC hn zC zC
 ·exact hn
theorem VH{out:List UInt8}(h:s.ok B.length)(hi:s.inn B.length):(CI B bound s out).1.inn B.length:=by
 have hle:=h.le
 have hh:=Rs.Yn h hi
 have ho:=Rs.ID h
 have hle2:=ho.le
 unfold CI;split
 ·exact Rs.GC hh zC zC
 ·split
  ·exact Rs.PO ho hh _
  ·split
   ·exact Rs.GC (Rs.Lu ho hh) zC zC
   ·split
    ·exact Rs.Lu ho hh
    ·exact Rs.Lu ho hh
theorem Xn:∀(f:Nat) (s:Rs) (out:List UInt8),s.ok B.length→s.inn B.length→(exF B bound f s out).1.inn B.length
 | 0,s,out,_,h=>h
 | f+1,s,out,h1,h2=>by
  simp only[exF];split
  ·exact Xn f _ _ (LJ h1) (VH h1 h2)
  ·exact h2
theorem RT:∀(f:Nat) (s:Rs) (out:List UInt8),TN bound out→TN bound (exF B bound f s out).2
 | 0,s,out,h=>h
 | f+1,s,out,h=>by
  simp only[exF];split
  ·exact RT f _ _ (Pr h)
  ·exact h
theorem LL(B:List UInt8)(bound:Int):(exB B bound).1.length≤bound.toNat∧0≤(exB B bound).2.2∧(exB B bound).2.2≤B.length∧((exB B bound).2.1≠0→(exB B bound).1=[]):=by
 have h1:=Xn (B:=B) (bound:=bound) B.length ⟨0,0,0⟩ [] ⟨Ar _,fun _=>rfl⟩ ⟨zM,zM⟩
 have h2:=RT (B:=B) (bound:=bound) B.length ⟨0,0,0⟩ [] (.inl rfl)
 unfold exB
 split
 ·refine⟨?_,zM,zM,zM⟩
  rcases h2 with h | h
  ·rw[h];simp
  ·dsimp only;omega
 ·exact⟨zM,h1.1,h1.2,zM⟩
theorem Rs.WX:s.p≤(s.int B m).1.p:=by
 unfold Rs.int Rs.most
 split
 ·split
  ·rw[Rs.NL];exact Rs.WM
  ·exact Rs.WM
 ·rw[Rs.NL];exact Rs.WM
theorem Rs.NV(h:s.ok B.length):s.p≤(s.byte B).1.p:=Rs.Wv h 1
theorem Rs.SE(h:s.ok B.length)(n:Int):s.p≤(s.take B n).1.p:=Rs.Wv h n
theorem Rs.Aat(h:s.ok B.length)(m:Int):s.p≤(s.Ct B m).1.p:=Bb (Rs.WX (m:=m)) (Rs.SE (Rs.Eo h) _)
theorem Rs.IH(h:s.ok B.length)(m:Int):(s.Ct B m).1.ok B.length:=Rs.Gf (Rs.Eo h) _
def Rs.unp(B:List UInt8)(s:Rs)(n:Nat):Rs × List UInt8:=
 if (s.Ct B 1048576).1.k=0 then
  (if (exB (s.Ct B 1048576).2 n).2.1=0 then
   (if (exB (s.Ct B 1048576).2 n).1.length<n then ((s.Ct B 1048576).1.fail 3 (s.Ct B 1048576).1.p,(exB (s.Ct B 1048576).2 n).1) else ((s.Ct B 1048576).1,(exB (s.Ct B 1048576).2 n).1))
  else ((s.Ct B 1048576).1.fail (exB (s.Ct B 1048576).2 n).2.1 ((exB (s.Ct B 1048576).2 n).2.2+(((s.Ct B 1048576).1.p:Int)-((s.Ct B 1048576).2.length:Int))),[]))
 else ((s.Ct B 1048576).1,[])
theorem Rs.Wj(h:s.ok B.length)(n:Nat):(s.unp B n).1.ok B.length:=by
 unfold Rs.unp
 split
 ·split
  ·split
   ·exact Rs.Ck (Rs.IH h _) zC
   ·exact Rs.IH h _
  ·exact Rs.Ck (Rs.IH h _) zK
 ·exact Rs.IH h _
theorem Rs.YQ(h:s.ok B.length)(n:Nat):s.p≤(s.unp B n).1.p:=by
 have:=Rs.Aat h 1048576
 unfold Rs.unp
 split
 ·split
  ·split
   ·rw[Rs.NL];exact this
   ·exact this
  ·rw[Rs.NL];exact this
 ·exact this
theorem Rs.Ud(n:Nat):(s.unp B n).2.length≤n:=by
 have:=(LL (s.Ct B 1048576).2 n).1
 unfold Rs.unp
 split
 ·split
  ·split
   ·dsimp only;omega
   ·dsimp only;omega
  ·simp
 ·simp
def Rs.loose(B:List UInt8)(s:Rs)(most:Int):Rs × List UInt8 × Bool:=
 if ((s.int B (min most 1048576)).1.byte B).1.k=0 then
  (if ((s.int B (min most 1048576)).1.byte B).2.toNat=0 then
   (if (((s.int B (min most 1048576)).1.byte B).1.take B ((s.int B (min most 1048576)).2:Int)).1.k=0 then ((((s.int B (min most 1048576)).1.byte B).1.take B ((s.int B (min most 1048576)).2:Int)).1,(((s.int B (min most 1048576)).1.byte B).1.take B ((s.int B (min most 1048576)).2:Int)).2,decide (Bj (((s.int B (min most 1048576)).1.byte B).1.take B ((s.int B (min most 1048576)).2:Int)).2=(B.drop s.p).take ((((s.int B (min most 1048576)).1.byte B).1.take B ((s.int B (min most 1048576)).2:Int)).1.p-s.p)))
   else ((((s.int B (min most 1048576)).1.byte B).1.take B ((s.int B (min most 1048576)).2:Int)).1,[],false))
  else if ((s.int B (min most 1048576)).1.byte B).2.toNat=1 then
   (if (((s.int B (min most 1048576)).1.byte B).1.unp B (s.int B (min most 1048576)).2).1.k=0 then ((((s.int B (min most 1048576)).1.byte B).1.unp B (s.int B (min most 1048576)).2).1,(((s.int B (min most 1048576)).1.byte B).1.unp B (s.int B (min most 1048576)).2).2,decide (Bj (((s.int B (min most 1048576)).1.byte B).1.unp B (s.int B (min most 1048576)).2).2=(B.drop s.p).take ((((s.int B (min most 1048576)).1.byte B).1.unp B (s.int B (min most 1048576)).2).1.p-s.p)))
   else ((((s.int B (min most 1048576)).1.byte B).1.unp B (s.int B (min most 1048576)).2).1,[],false))
  else (((s.int B (min most 1048576)).1.byte B).1.fail 7 ((((s.int B (min most 1048576)).1.byte B).1.p:Int)-1),[],false))
 else (((s.int B (min most 1048576)).1.byte B).1,[],false)
theorem Ju(x y:List UInt8)(a a':Option Addr)(n c n' c':Nat)(w:World)(hx:Am.r (·<w.heap.size) w [.slice a n c] x)(hy:Am.r (·<w.heap.size) w [.slice a' n' c'] y):
  Calls Tryz.prog 201 #[.slice a n c,.slice a' n' c'] w fun r w'=>r=.returned (.bool (decide (x=y)))∧w=w':=by
 obtain⟨rfl,_,_,_⟩:=AL hx
 obtain⟨rfl,_,_,_⟩:=AL hy
 have h1:=LQ (P:=Tryz.prog) 22 9 5 AJ Tryz.underlying5 Tryz.underlying9 hx
 have h2:=LQ (P:=Tryz.prog) 22 9 5 AJ Tryz.underlying5 Tryz.underlying9 hy
 have he:(x==y)=decide (x=y):=by
  by_cases h:x=y
  ·simp[h]
  ·simp[h]
 have HE:=hid he;clear he hx hy
 go_enter Tryz.func201,Tryz.ntmps201
 go_wp2
 go_ret
 refine⟨?_,rfl⟩
 rw[←HE.out]
 simp[go_sem]
theorem RQ(w:World)(k f b:Int)(hk:k≠0)(hf: -1000000000000≤f∧f≤1000000000000)(hb: -1000000000000≤b∧b≤1000000000000):Calls Tryz.prog 117 #[.agg #[.int .i64 k,.int .i64 f],.int .i64 b] w fun r w'=>r=.returned (.agg #[.int .i64 k,.int .i64 (f+b)])∧Below w.heap.size w w':=by
 go_enter Tryz.func117,Tryz.ntmps117
 go_wp2_with fail
 refine (Gp _ k (f+b) hk).mono ?_
 rintro r w1 ⟨rfl,hb1⟩
 have B1:Blk w1 (w.heap.size+1) 65 #[.int .i64 0,.int .i64 0]:=Blk.later zD hb1
 obtain⟨y0,y1,g0,g1,l1⟩:=Bd B1
 have hbw:Below w.heap.size w w1:=zA
 clear B1 hb1
 go_wp2
 refine Ax (v:=.agg #[.int .i64 k,.int .i64 (f+b)]) (by simp[results,Tryz.results117,go_sem,y0,y1,l1]) rfl ⟨rfl,zA⟩
theorem N4(w:World){g:Nat}{B:List UInt8}{a:Option Addr}{s:Rs}(h:AS w g B a s)(hB:B.length≤1000000000)(n:Nat)(hn:n≤1048576):Calls Tryz.prog 212 #[.pointer (some ⟨g,0,none⟩),.int .i64 (n:Int)] w fun r w'=>∃v,r=.returned v∧Am.r (fun q=>w.heap.size≤q∧q<w'.heap.size) w' [v] (s.unp B n).2∧AE w g B a (s.unp B n).1 w':=by
 have HB:=hid (Pz w h zC 1048576 zC)
 have hbok:=Rs.IH h.ok 1048576
 have hlen:(s.Ct B 1048576).2.length≤B.length:=by
  unfold Rs.Ct Rs.take
  dsimp only
  split
  ·simp;omega
  ·simp
 have hxf:=LL (s.Ct B 1048576).2 n
 have hX:=hid (fun (W:World) (aD:Option Addr) (nD cD:Nat) (hl:Am.r (·<W.heap.size) W [.slice aD nD cD] (s.Ct B 1048576).2)=>Qv W (s.Ct B 1048576).2 aD nD cD hl zC n zC)
 have hpl:=hbok.le
 unfold Rs.unp
 generalize s.Ct B 1048576=T at*
 generalize exB T.2 n=X at*
 obtain⟨s1,D⟩:=T
 obtain⟨out,k,f⟩:=X
 dsimp only at*
 have hgl:=h.blk.lt
 have HDAT:=hid h.dat
 clear h
 by_cases h1:s1.k=0
 ·have dk:decide (s1.k=0)=true:=Ad h1
  rw[Ag h1]
  have H1:=hid h1
  clear h1
  by_cases h2:k=0
  ·have d2:decide (k=0)=true:=Ad h2
   rw[Ag h2]
   clear h2
   by_cases h3:out.length<n
   ·have d3:decide ((out.length:Int)<(n:Int))=true:=Ad zC
    have d3':decide (out.length<n)=true:=Ad h3
    rw[Ag h3]
    clear h3
    dsimp only
    go_enter Tryz.func212,Tryz.ntmps212
    go_wp2_with fail
    refine HB.out.mono ?_
    rintro r w1 ⟨v,rfl,hr,hst⟩
    obtain⟨aD,cD,hv,hr2,_⟩:=AH hr
    simp only[Av,AI] at hv
    subst hv
    have HD1:=hid hr2
    have HST:=hid hst
    have hs1:=hst.size
    have hG:=AK w1 hst.1
    rw[dk] at hG
    have HG:=hid hG
    clear hr hr2 hst hG dk
    go_wp2_with fail
    refine HG.out.mono ?_
    rintro r w2 ⟨rfl,hb2⟩
    have hs2:=hb2.size
    have HAT:=hid (Cd w2 (HST.out.1.later hb2))
    go_wp2_with fail
    refine HAT.out.mono ?_
    rintro r w2' ⟨rfl,rfl⟩
    go_wp2_with fail
    refine (hX.out w2 aD _ cD (Am.mono (Am.keep HD1.out fun q hq=>hb2.block q hq.2) fun q hq=>zC)).mono ?_
    rintro r w3 ⟨v3,rfl,hr,hb3⟩
    obtain⟨a3,c3,hv,hr2,_⟩:=AH hr
    simp only[Av,AI] at hv
    subst hv
    have HR3:=hid hr2
    have hs3:=hb3.size
    clear hr hr2
    have hG:=BK (w3.alloc (.cells #[.int .i64 k,.int .i64 f] 65)) k f
    rw[d2] at hG
    have HG3:=hid hG
    clear hG d2
    go_wp2_with fail
    refine HG3.out.mono ?_
    rintro r w4 ⟨rfl,hb4⟩
    have hb34:Below w3.heap.size w3 w4:=zA
    have hb14:Below w1.heap.size w1 w4:=Aj hb34 (Aj hb3 hb2)
    have HST4:=hid (HST.out.then hb14)
    have hs4:=hb34.size
    have HKP:=hid (Am.mono (S':=fun q=>w2.heap.size≤q∧q<w4.heap.size) (Am.keep HR3.out fun q hq=>hb34.block q hq.2) fun q hq=>⟨hq.1,zC⟩)
    have HAT2:=hid (Cd _ HST4.out.1)
    go_wp2_with fail
    refine HAT2.out.mono ?_
    rintro r w4' ⟨rfl,rfl⟩
    have HF:=hid (Bx _ HST4.out.1 3 s1.p zC)
    go_wp2_with fail
    refine HF.out.mono ?_
    rintro r w5 ⟨rfl,hst5⟩
    have hs5:=hst5.size
    have HR5:=hid (Am.mono (S':=fun q=>w.heap.size≤q∧q<w5.heap.size) (Am.keep HKP.out fun q hq=>hst5.2.block q hq.2 zC) fun q hq=>⟨zC,zC⟩)
    have HST5:=hid (AE.trans HST4.out.2 hst5)
    clear hst5
    go_wp2
    go_ret
    exact⟨_,rfl,HR5.out,HST5.out⟩
   ·have d3:decide ((out.length:Int)<(n:Int))=false:=Ae zC
    have d3':decide (out.length<n)=false:=Ae h3
    rw[Ai h3]
    clear h3
    dsimp only
    go_enter Tryz.func212,Tryz.ntmps212
    go_wp2_with fail
    refine HB.out.mono ?_
    rintro r w1 ⟨v,rfl,hr,hst⟩
    obtain⟨aD,cD,hv,hr2,_⟩:=AH hr
    simp only[Av,AI] at hv
    subst hv
    have HD1:=hid hr2
    have HST:=hid hst
    have hs1:=hst.size
    have hG:=AK w1 hst.1
    rw[dk] at hG
    have HG:=hid hG
    clear hr hr2 hst hG dk
    go_wp2_with fail
    refine HG.out.mono ?_
    rintro r w2 ⟨rfl,hb2⟩
    have hs2:=hb2.size
    have HAT:=hid (Cd w2 (HST.out.1.later hb2))
    go_wp2_with fail
    refine HAT.out.mono ?_
    rintro r w2' ⟨rfl,rfl⟩
    go_wp2_with fail
    refine (hX.out w2 aD _ cD (Am.mono (Am.keep HD1.out fun q hq=>hb2.block q hq.2) fun q hq=>zC)).mono ?_
    rintro r w3 ⟨v3,rfl,hr,hb3⟩
    obtain⟨a3,c3,hv,hr2,_⟩:=AH hr
    simp only[Av,AI] at hv
    subst hv
    have HR3:=hid hr2
    have hs3:=hb3.size
    clear hr hr2
    have hG:=BK (w3.alloc (.cells #[.int .i64 k,.int .i64 f] 65)) k f
    rw[d2] at hG
    have HG3:=hid hG
    clear hG d2
    go_wp2_with fail
    refine HG3.out.mono ?_
    rintro r w4 ⟨rfl,hb4⟩
    have hb34:Below w3.heap.size w3 w4:=zA
    have hb14:Below w1.heap.size w1 w4:=Aj hb34 (Aj hb3 hb2)
    have HST4:=hid (HST.out.then hb14)
    have hs4:=hb34.size
    have HKP:=hid (Am.mono (S':=fun q=>w2.heap.size≤q∧q<w4.heap.size) (Am.keep HR3.out fun q hq=>hb34.block q hq.2) fun q hq=>⟨hq.1,zC⟩)
    have HR5:=hid (Am.mono (S':=fun q=>w.heap.size≤q∧q<w4.heap.size) HKP.out fun q hq=>⟨zC,zC⟩)
    go_wp2
    go_ret
    exact⟨_,rfl,HR5.out,HST4.out⟩
  ·have d2:decide (k=0)=false:=Ae h2
   rw[Ai h2]
   have ho:=hxf.2.2.2 h2
   subst ho
   have HK2:=hid h2
   clear h2
   dsimp only
   go_enter Tryz.func212,Tryz.ntmps212
   go_wp2_with fail
   refine HB.out.mono ?_
   rintro r w1 ⟨v,rfl,hr,hst⟩
   obtain⟨aD,cD,hv,hr2,_⟩:=AH hr
   simp only[Av,AI] at hv
   subst hv
   have HD1:=hid hr2
   have HST:=hid hst
   have hs1:=hst.size
   have hG:=AK w1 hst.1
   rw[dk] at hG
   have HG:=hid hG
   clear hr hr2 hst hG dk
   go_wp2_with fail
   refine HG.out.mono ?_
   rintro r w2 ⟨rfl,hb2⟩
   have hs2:=hb2.size
   have HAT:=hid (Cd w2 (HST.out.1.later hb2))
   go_wp2_with fail
   refine HAT.out.mono ?_
   rintro r w2' ⟨rfl,rfl⟩
   go_wp2_with fail
   refine (hX.out w2 aD _ cD (Am.mono (Am.keep HD1.out fun q hq=>hb2.block q hq.2) fun q hq=>zC)).mono ?_
   rintro r w3 ⟨v3,rfl,hr,hb3⟩
   obtain⟨a3,c3,hv,hr2,_⟩:=AH hr
   simp only[Av,AI] at hv
   subst hv
   have HR3:=hid hr2
   have hs3:=hb3.size
   clear hr hr2
   have hG:=BK (w3.alloc (.cells #[.int .i64 k,.int .i64 f] 65)) k f
   rw[d2] at hG
   have HG3:=hid hG
   clear hG d2
   go_wp2_with fail
   refine HG3.out.mono ?_
   rintro r w4 ⟨rfl,hb4⟩
   have hb34:Below w3.heap.size w3 w4:=zA
   have hb14:Below w1.heap.size w1 w4:=Aj hb34 (Aj hb3 hb2)
   have HST4:=hid (HST.out.then hb14)
   have hs4:=hb34.size
   have HKP:=hid (Am.mono (S':=fun q=>w2.heap.size≤q∧q<w4.heap.size) (Am.keep HR3.out fun q hq=>hb34.block q hq.2) fun q hq=>⟨hq.1,zC⟩)
   have B4:Blk w4 w3.heap.size 65 #[.int .i64 k,.int .i64 f]:=Blk.later (Blk.newAt _ _ _ rfl) hb4
   obtain⟨y0,y1,g0,g1,l1⟩:=Bd B4
   have HSH:=hid (RQ w4 k f ((s1.p:Int)-(D.length:Int)) HK2.out zC zC)
   go_wp2_with fail
   refine HSH.out.mono ?_
   rintro r w5 ⟨rfl,hb5⟩
   have B5:=B4.later hb5
   clear y0 y1 g0 g1 l1 B4
   obtain⟨y0,y1,g0,g1,l1⟩:=Bd B5
   clear B5
   have hk5:AE w g B a s1 ((w5.setCell ⟨w3.heap.size,0,none⟩ (.int .i64 k)).setCell ⟨w3.heap.size,1,none⟩ (.int .i64 (f+((s1.p:Int)-(D.length:Int))))):=by
    have h5:=HST4.out.then hb5
    refine⟨⟨Blk.far (Blk.far h5.1.blk zH _) zH _,?_,h5.1.ok⟩,Tch.setCell (Tch.setCell h5.2 (fun e=>zA5) _) (fun e=>zA5) _⟩
    refine Am.mono (Am.keep (S:=fun q=>q<w.heap.size∧q≠g) (Am.keep HDAT.out fun q hq=>h5.2.block q hq.1 hq.2) fun q hq=> ?_) fun q hq=>⟨by have:=h5.size;simp[World.setCell];omega,hq.2⟩
    have:=hq.1
    rw[At _ _ _ _ zH,At _ _ _ _ zH]
   have HK5:=hid hk5
   clear hk5
   have hsz5:w.heap.size≤((w5.setCell ⟨w3.heap.size,0,none⟩ (.int .i64 k)).setCell ⟨w3.heap.size,1,none⟩ (.int .i64 (f+((s1.p:Int)-(D.length:Int))))).heap.size:=HK5.out.size
   have HF:=hid (Bx _ HK5.out.1 k (f+((s1.p:Int)-(D.length:Int))) HK2.out)
   go_wp2_with fail
   refine HF.out.mono ?_
   rintro r w6 ⟨rfl,hst6⟩
   have HST6:=hid (AE.trans HK5.out.2 hst6)
   clear hst6 hsz5
   go_wp2
   go_ret
   exact⟨_,rfl,BR rfl rfl (AL HR3.out).2.2.2,HST6.out⟩
 ·have dk:decide (s1.k=0)=false:=Ae h1
  rw[Ai h1]
  clear h1
  dsimp only
  go_enter Tryz.func212,Tryz.ntmps212
  go_wp2_with fail
  refine HB.out.mono ?_
  rintro r w1 ⟨v,rfl,hr,hst⟩
  obtain⟨aD,cD,hv,hr2,_⟩:=AH hr
  simp only[Av,AI] at hv
  subst hv
  have HD1:=hid hr2
  have HST:=hid hst
  have hs1:=hst.size
  have hG:=AK w1 hst.1
  rw[dk] at hG
  have HG:=hid hG
  clear hr hr2 hst hG dk
  go_wp2_with fail
  refine HG.out.mono ?_
  rintro r w2 ⟨rfl,hb2⟩
  have hs2:=hb2.size
  have HST2:=hid (HST.out.then hb2)
  go_wp2
  go_ret
  exact⟨_,rfl,BR rfl rfl zC,HST2.out⟩
theorem Sk(w:World){g:Nat}{B:List UInt8}{a:Option Addr}{s:Rs}(h:AS w g B a s)(hB:B.length≤1000000000)(most:Int)(hm: -9223372036854775808≤most∧most≤9223372036854775807):
  Calls Tryz.prog 140 #[.pointer (some ⟨g,0,none⟩),.int .i64 most] w fun r w'=>∃v,r=.returned (.tuple #[v,.bool (s.loose B most).2.2])∧Am.r (fun q=>w.heap.size≤q∧q<w'.heap.size) w' [v] (s.loose B most).2.1∧AE w g B a (s.loose B most).1 w':=by
 have hgl:=h.blk.lt
 have HA:=hid (Cd w h)
 have HI:=hid (CE w h zC (min most 1048576) zC)
 have hiok:=Rs.Eo h.ok (m:=min most 1048576)
 have hip:=Rs.WX (B:=B) (s:=s) (m:=min most 1048576)
 have hile:(s.int B (min most 1048576)).2≤1048576:=by have:=Rs.E6 (B:=B) (s:=s) (m:=min most 1048576);omega
 have hbok:=Rs.Hp hiok
 have hbp:=Rs.NV hiok
 have hBY:=hid (fun (W:World) (h:AS W g B a (s.int B (min most 1048576)).1)=>KG W h)
 have hTK:=hid (fun (W:World) (h:AS W g B a ((s.int B (min most 1048576)).1.byte B).1)=>KF W h ((s.int B (min most 1048576)).2:Int) zC zC)
 have htp:=Rs.SE hbok ((s.int B (min most 1048576)).2:Int)
 have htl:(((s.int B (min most 1048576)).1.byte B).1.take B ((s.int B (min most 1048576)).2:Int)).2.length≤1048576:=by
  by_cases h0:(((s.int B (min most 1048576)).1.byte B).1.take B ((s.int B (min most 1048576)).2:Int)).1.k=0
  ·rw[(Rs.EL h0).2.2];omega
  ·rw[Rs.KB h0];simp
 have hUN:=hid (fun (W:World) (h:AS W g B a ((s.int B (min most 1048576)).1.byte B).1)=>N4 W h hB (s.int B (min most 1048576)).2 hile)
 have hup:=Rs.YQ hbok (s.int B (min most 1048576)).2
 have hul:(((s.int B (min most 1048576)).1.byte B).1.unp B (s.int B (min most 1048576)).2).2.length≤1048576:=Bb (Rs.Ud _) hile
 have hFL:=hid (fun (W:World) (h:AS W g B a ((s.int B (min most 1048576)).1.byte B).1)=>Bx W h 7 ((((s.int B (min most 1048576)).1.byte B).1.p:Int)-1) zC)
 have hfk:=Rs.BI (s:=((s.int B (min most 1048576)).1.byte B).1) (c:=7) (at_:=((((s.int B (min most 1048576)).1.byte B).1.p:Int)-1)) zC
 have hSN:=hid (fun (W:World) (t:Rs) (h:AS W g B a t) (hp:s.p≤t.p)=>Wy W h s.p hp zC)
 have hbyp:((s.int B (min most 1048576)).1.byte B).1.p≤B.length:=hbok.le
 have hb1:((s.int B (min most 1048576)).1.byte B).1.k=0→1≤((s.int B (min most 1048576)).1.byte B).1.p:=fun hk=>by rw[NV rfl hk];omega
 unfold Rs.loose
 generalize ((s.int B (min most 1048576)).1.byte B).1.fail 7 ((((s.int B (min most 1048576)).1.byte B).1.p:Int)-1)=F1 at*
 generalize ((s.int B (min most 1048576)).1.byte B).1.take B ((s.int B (min most 1048576)).2:Int)=T at*
 generalize ((s.int B (min most 1048576)).1.byte B).1.unp B (s.int B (min most 1048576)).2=U at*
 generalize (s.int B (min most 1048576)).1.byte B=Y at*
 generalize s.int B (min most 1048576)=N at*
 obtain⟨sd,n⟩:=N
 obtain⟨se,y⟩:=Y
 obtain⟨st,DT⟩:=T
 obtain⟨su,DU⟩:=U
 dsimp only at*
 have hSNt:=hid (fun (W:World) (h:AS W g B a st)=>hSN.out W st h zC)
 have hSNu:=hid (fun (W:World) (h:AS W g B a su)=>hSN.out W su h zC)
 generalize (B.drop s.p).take (st.p-s.p)=S1 at*
 generalize (B.drop s.p).take (su.p-s.p)=S2 at*
 clear hSN
 have hM:(if most≤1048576 then most else 1048576)=min most 1048576:=by split<;>omega
 have hM2:(if (1048576:Int)<most then (1048576:Int) else most)=min most 1048576:=by split<;>omega
 generalize min most 1048576=M at*
 have hy:=y.toNat_lt
 clear h
 by_cases hk:se.k=0
 ·have dk:decide (se.k=0)=true:=Ad hk
  have hp1:=hb1 hk
  rw[Ag hk]
  clear hk hb1
  by_cases h0:y.toNat=0
  ·have d0:((y.toNat:Int)==0)=true:=by rw[h0];rfl
   rw[Ag h0]
   clear h0
   by_cases ht:st.k=0
   ·have dt:decide (st.k=0)=true:=Ad ht
    rw[Ag ht]
    clear ht
    dsimp only
    go_enter Tryz.func140,Tryz.ntmps140
    go_wp2_with fail
    refine HA.out.mono ?_
    rintro r w0 ⟨rfl,rfl⟩
    go_wp2_with fail
    refine HI.out.mono ?_
    rintro r w1 ⟨rfl,hst1⟩
    have HST1:=hid hst1
    have HBY:=hid (hBY.out w1 hst1.1)
    clear hst1
    go_wp2_with fail
    refine HBY.out.mono ?_
    rintro r w2 ⟨rfl,hst2⟩
    have HST2:=hid (AE.trans HST1.out.2 hst2)
    have hG:=AK w2 hst2.1
    rw[dk] at hG
    have HG:=hid hG
    clear hst2 hG dk
    go_wp2_with fail
    refine HG.out.mono ?_
    rintro r w3 ⟨rfl,hb3⟩
    have HST3:=hid (HST2.out.then hb3)
    have hs3:=HST3.out.size
    have HC:=hid (hTK.out w3 HST3.out.1)
    go_wp2_with fail
    refine HC.out.mono ?_
    rintro r w4 ⟨v,rfl,hr,hst4⟩
    obtain⟨aD,cD,hv,hr2,_⟩:=AH hr
    simp only[Av,AI] at hv
    subst hv
    have HR4:=hid hr2
    have hs4:=hst4.size
    have HST4:=hid (AE.trans HST3.out.2 hst4)
    have hG4:=AK w4 hst4.1
    rw[dt] at hG4
    have HG4:=hid hG4
    clear hr hr2 hst4 hG4 dt
    go_wp2_with fail
    refine HG4.out.mono ?_
    rintro r w5 ⟨rfl,hb5⟩
    have HST5:=hid (HST4.out.then hb5)
    have hs5:=hb5.size
    have HR5:=hid (Am.mono (S':=fun q=>w3.heap.size≤q∧q<w5.heap.size) (Am.keep HR4.out fun q hq=>hb5.block q hq.2) fun q hq=>⟨hq.1,zC⟩)
    have HBB:=hid (Mq w5 DT aD _ cD (Am.mono HR5.out fun q hq=>hq.2) htl)
    go_wp2_with fail
    refine HBB.out.mono ?_
    rintro r w6 ⟨v6,rfl,hr,hb6⟩
    obtain⟨a6,c6,hv,hr2,_⟩:=AH hr
    simp only[Av,AI] at hv
    subst hv
    have HR6:=hid hr2
    have hs6:=hb6.size
    have HST6:=hid (HST5.out.then hb6)
    have HSN:=hid (hSNt.out w6 HST6.out.1)
    clear hr hr2
    go_wp2_with fail
    refine HSN.out.mono ?_
    rintro r w7 ⟨v7,rfl,hr,hb7⟩
    obtain⟨a7,c7,hv,hr2,_⟩:=AH hr
    simp only[Av,AI] at hv
    subst hv
    have HR7:=hid hr2
    have hs7:=hb7.size
    have HST7:=hid (HST6.out.then hb7)
    have HEQ:=hid (Ju (Bj DT) S1 a6 a7 _ c6 _ c7 w7 (Am.mono (Am.keep HR6.out fun q hq=>hb7.block q hq.2) fun q hq=>zC) (Am.mono HR7.out fun q hq=>hq.2))
    generalize hq:decide (Bj DT=S1)=q at*
    have HQ:=hid hq
    clear hq
    clear hr hr2
    go_wp2_with fail
    refine HEQ.out.mono ?_
    rintro r w8 ⟨rfl,rfl⟩
    have HRF:=hid (Am.mono (S':=fun q=>w.heap.size≤q∧q<w7.heap.size) (Am.keep HR5.out fun q hq=>(hb7.block q zC).trans (hb6.block q hq.2)) fun q hq=>⟨zC,zC⟩)
    go_wp2
    go_ret2
    rw[HQ.out]
    exact⟨_,rfl,HRF.out,HST7.out⟩
   ·have dt:decide (st.k=0)=false:=Ae ht
    rw[Ai ht]
    clear ht
    dsimp only
    go_enter Tryz.func140,Tryz.ntmps140
    go_wp2_with fail
    refine HA.out.mono ?_
    rintro r w0 ⟨rfl,rfl⟩
    go_wp2_with fail
    refine HI.out.mono ?_
    rintro r w1 ⟨rfl,hst1⟩
    have HST1:=hid hst1
    have HBY:=hid (hBY.out w1 hst1.1)
    clear hst1
    go_wp2_with fail
    refine HBY.out.mono ?_
    rintro r w2 ⟨rfl,hst2⟩
    have HST2:=hid (AE.trans HST1.out.2 hst2)
    have hG:=AK w2 hst2.1
    rw[dk] at hG
    have HG:=hid hG
    clear hst2 hG dk
    go_wp2_with fail
    refine HG.out.mono ?_
    rintro r w3 ⟨rfl,hb3⟩
    have HST3:=hid (HST2.out.then hb3)
    have hs3:=HST3.out.size
    have HC:=hid (hTK.out w3 HST3.out.1)
    go_wp2_with fail
    refine HC.out.mono ?_
    rintro r w4 ⟨v,rfl,hr,hst4⟩
    obtain⟨aD,cD,hv,hr2,_⟩:=AH hr
    simp only[Av,AI] at hv
    subst hv
    have HR4:=hid hr2
    have hs4:=hst4.size
    have HST4:=hid (AE.trans HST3.out.2 hst4)
    have hG4:=AK w4 hst4.1
    rw[dt] at hG4
    have HG4:=hid hG4
    clear hr hr2 hst4 hG4 dt
    go_wp2_with fail
    refine HG4.out.mono ?_
    rintro r w5 ⟨rfl,hb5⟩
    have HST5:=hid (HST4.out.then hb5)
    have hs5:=hb5.size
    go_wp2
    go_ret2
    exact⟨_,rfl,BR rfl rfl zC,HST5.out⟩
  ·have d0:((y.toNat:Int)==0)=false:=by rw[BL];omega
   rw[Ai h0]
   by_cases h1:y.toNat=1
   ·have d1:((y.toNat:Int)==1)=true:=by rw[h1];rfl
    rw[Ag h1]
    clear h0 h1
    by_cases ht:su.k=0
    ·have dt:decide (su.k=0)=true:=Ad ht
     rw[Ag ht]
     clear ht
     dsimp only
     go_enter Tryz.func140,Tryz.ntmps140
     go_wp2_with fail
     refine HA.out.mono ?_
     rintro r w0 ⟨rfl,rfl⟩
     go_wp2_with fail
     refine HI.out.mono ?_
     rintro r w1 ⟨rfl,hst1⟩
     have HST1:=hid hst1
     have HBY:=hid (hBY.out w1 hst1.1)
     clear hst1
     go_wp2_with fail
     refine HBY.out.mono ?_
     rintro r w2 ⟨rfl,hst2⟩
     have HST2:=hid (AE.trans HST1.out.2 hst2)
     have hG:=AK w2 hst2.1
     rw[dk] at hG
     have HG:=hid hG
     clear hst2 hG dk
     go_wp2_with fail
     refine HG.out.mono ?_
     rintro r w3 ⟨rfl,hb3⟩
     have HST3:=hid (HST2.out.then hb3)
     have hs3:=HST3.out.size
     have HC:=hid (hUN.out w3 HST3.out.1)
     go_wp2_with fail
     refine HC.out.mono ?_
     rintro r w4 ⟨v,rfl,hr,hst4⟩
     obtain⟨aD,cD,hv,hr2,_⟩:=AH hr
     simp only[Av,AI] at hv
     subst hv
     have HR4:=hid hr2
     have hs4:=hst4.size
     have HST4:=hid (AE.trans HST3.out.2 hst4)
     have hG4:=AK w4 hst4.1
     rw[dt] at hG4
     have HG4:=hid hG4
     clear hr hr2 hst4 hG4 dt
     go_wp2_with fail
     refine HG4.out.mono ?_
     rintro r w5 ⟨rfl,hb5⟩
     have HST5:=hid (HST4.out.then hb5)
     have hs5:=hb5.size
     have HR5:=hid (Am.mono (S':=fun q=>w3.heap.size≤q∧q<w5.heap.size) (Am.keep HR4.out fun q hq=>hb5.block q hq.2) fun q hq=>⟨hq.1,zC⟩)
     have HBB:=hid (Mq w5 DU aD _ cD (Am.mono HR5.out fun q hq=>hq.2) hul)
     go_wp2_with fail
     refine HBB.out.mono ?_
     rintro r w6 ⟨v6,rfl,hr,hb6⟩
     obtain⟨a6,c6,hv,hr2,_⟩:=AH hr
     simp only[Av,AI] at hv
     subst hv
     have HR6:=hid hr2
     have hs6:=hb6.size
     have HST6:=hid (HST5.out.then hb6)
     have HSN:=hid (hSNu.out w6 HST6.out.1)
     clear hr hr2
     go_wp2_with fail
     refine HSN.out.mono ?_
     rintro r w7 ⟨v7,rfl,hr,hb7⟩
     obtain⟨a7,c7,hv,hr2,_⟩:=AH hr
     simp only[Av,AI] at hv
     subst hv
     have HR7:=hid hr2
     have hs7:=hb7.size
     have HST7:=hid (HST6.out.then hb7)
     have HEQ:=hid (Ju (Bj DU) S2 a6 a7 _ c6 _ c7 w7 (Am.mono (Am.keep HR6.out fun q hq=>hb7.block q hq.2) fun q hq=>zC) (Am.mono HR7.out fun q hq=>hq.2))
     generalize hq:decide (Bj DU=S2)=q at*
     have HQ:=hid hq
     clear hq
     clear hr hr2
     go_wp2_with fail
     refine HEQ.out.mono ?_
     rintro r w8 ⟨rfl,rfl⟩
     have HRF:=hid (Am.mono (S':=fun q=>w.heap.size≤q∧q<w7.heap.size) (Am.keep HR5.out fun q hq=>(hb7.block q zC).trans (hb6.block q hq.2)) fun q hq=>⟨zC,zC⟩)
     go_wp2
     go_ret2
     rw[HQ.out]
     exact⟨_,rfl,HRF.out,HST7.out⟩
    ·have dt:decide (su.k=0)=false:=Ae ht
     rw[Ai ht]
     clear ht
     dsimp only
     go_enter Tryz.func140,Tryz.ntmps140
     go_wp2_with fail
     refine HA.out.mono ?_
     rintro r w0 ⟨rfl,rfl⟩
     go_wp2_with fail
     refine HI.out.mono ?_
     rintro r w1 ⟨rfl,hst1⟩
     have HST1:=hid hst1
     have HBY:=hid (hBY.out w1 hst1.1)
     clear hst1
     go_wp2_with fail
     refine HBY.out.mono ?_
     rintro r w2 ⟨rfl,hst2⟩
     have HST2:=hid (AE.trans HST1.out.2 hst2)
     have hG:=AK w2 hst2.1
     rw[dk] at hG
     have HG:=hid hG
     clear hst2 hG dk
     go_wp2_with fail
     refine HG.out.mono ?_
     rintro r w3 ⟨rfl,hb3⟩
     have HST3:=hid (HST2.out.then hb3)
     have hs3:=HST3.out.size
     have HC:=hid (hUN.out w3 HST3.out.1)
     go_wp2_with fail
     refine HC.out.mono ?_
     rintro r w4 ⟨v,rfl,hr,hst4⟩
     obtain⟨aD,cD,hv,hr2,_⟩:=AH hr
     simp only[Av,AI] at hv
     subst hv
     have HR4:=hid hr2
     have hs4:=hst4.size
     have HST4:=hid (AE.trans HST3.out.2 hst4)
     have hG4:=AK w4 hst4.1
     rw[dt] at hG4
     have HG4:=hid hG4
     clear hr hr2 hst4 hG4 dt
     go_wp2_with fail
     refine HG4.out.mono ?_
     rintro r w5 ⟨rfl,hb5⟩
     have HST5:=hid (HST4.out.then hb5)
     have hs5:=hb5.size
     go_wp2
     go_ret2
     exact⟨_,rfl,BR rfl rfl zC,HST5.out⟩
   ·have d1:((y.toNat:Int)==1)=false:=by rw[BL];omega
    rw[Ai h1]
    clear h0 h1
    have dt:decide (F1.k=0)=false:=Ae hfk
    dsimp only
    go_enter Tryz.func140,Tryz.ntmps140
    go_wp2_with fail
    refine HA.out.mono ?_
    rintro r w0 ⟨rfl,rfl⟩
    go_wp2_with fail
    refine HI.out.mono ?_
    rintro r w1 ⟨rfl,hst1⟩
    have HST1:=hid hst1
    have HBY:=hid (hBY.out w1 hst1.1)
    clear hst1
    go_wp2_with fail
    refine HBY.out.mono ?_
    rintro r w2 ⟨rfl,hst2⟩
    have HST2:=hid (AE.trans HST1.out.2 hst2)
    have hG:=AK w2 hst2.1
    rw[dk] at hG
    have HG:=hid hG
    clear hst2 hG dk
    go_wp2_with fail
    refine HG.out.mono ?_
    rintro r w3 ⟨rfl,hb3⟩
    have HST3:=hid (HST2.out.then hb3)
    have hs3:=HST3.out.size
    have HAT3:=hid (Cd w3 HST3.out.1)
    go_wp2_with fail
    refine HAT3.out.mono ?_
    rintro r w3' ⟨rfl,rfl⟩
    have HC:=hid (hFL.out w3 HST3.out.1)
    go_wp2_with fail
    refine HC.out.mono ?_
    rintro r w4 ⟨rfl,hst4⟩
    have HST4:=hid (AE.trans HST3.out.2 hst4)
    have hG4:=AK w4 hst4.1
    rw[dt] at hG4
    have HG4:=hid hG4
    clear hst4 hG4 dt
    go_wp2_with fail
    refine HG4.out.mono ?_
    rintro r w5 ⟨rfl,hb5⟩
    have HST5:=hid (HST4.out.then hb5)
    go_wp2
    go_ret2
    exact⟨_,rfl,BR rfl rfl zC,HST5.out⟩
 ·have dk:decide (se.k=0)=false:=Ae hk
  rw[Ai hk]
  clear hk hb1
  dsimp only
  go_enter Tryz.func140,Tryz.ntmps140
  go_wp2_with fail
  refine HA.out.mono ?_
  rintro r w0 ⟨rfl,rfl⟩
  go_wp2_with fail
  refine HI.out.mono ?_
  rintro r w1 ⟨rfl,hst1⟩
  have HST1:=hid hst1
  have HBY:=hid (hBY.out w1 hst1.1)
  clear hst1
  go_wp2_with fail
  refine HBY.out.mono ?_
  rintro r w2 ⟨rfl,hst2⟩
  have HST2:=hid (AE.trans HST1.out.2 hst2)
  have hG:=AK w2 hst2.1
  rw[dk] at hG
  have HG:=hid hG
  clear hst2 hG dk
  go_wp2_with fail
  refine HG.out.mono ?_
  rintro r w3 ⟨rfl,hb3⟩
  have HST3:=hid (HST2.out.then hb3)
  have hs3:=HST3.out.size
  go_wp2
  go_ret2
  exact⟨_,rfl,BR rfl rfl zC,HST3.out⟩
def Rs.strict(s:Rs × List UInt8 × Bool):Rs × List UInt8:=if s.1.k=0 then (if s.2.2=true then (s.1,s.2.1) else (s.1.fail 12 s.1.p,[])) else (s.1,[])
theorem QD(w:World){g:Nat}{B:List UInt8}{a:Option Addr}{s:Rs}(h:AS w g B a s)(q:Bool)(p:Nat):
  Calls Tryz.prog 207 #[.bool q,.func (Fn.func 124) #[.pointer (some ⟨g,0,none⟩)] #[],.int .i64 (p:Int)] w fun r w'=>r=.returned (.tuple #[])∧AE w g B a (if q=true then s else s.fail 12 p) w':=by
 have HF:=hid (Bx w h 12 p zC)
 have HH:=hid h
 clear h
 cases q
 ·rw[Ai zM]
  go_enter Tryz.func207,Tryz.ntmps207
  go_wp2_with fail
  refine HF.out.mono ?_
  rintro r w1 ⟨rfl,hst⟩
  have HST:=hid hst
  clear hst
  go_wp2
  go_end0
  exact⟨rfl,HST.out⟩
 ·rw[Ag rfl]
  go_enter Tryz.func207,Tryz.ntmps207
  go_wp2
  go_end0
  exact⟨rfl,AE.refl HH.out⟩
theorem T4(w:World){g:Nat}{B:List UInt8}{a:Option Addr}{s:Rs}(h:AS w g B a s)(hB:B.length≤1000000000)(most:Int)(hm: -9223372036854775808≤most∧most≤9223372036854775807):
  Calls Tryz.prog 129 #[.pointer (some ⟨g,0,none⟩),.int .i64 most] w fun r w'=>∃v,r=.returned v∧Am.r (fun q=>w.heap.size≤q∧q<w'.heap.size) w' [v] (Rs.strict (s.loose B most)).2∧AE w g B a (Rs.strict (s.loose B most)).1 w':=by
 have HLS:=hid (Sk w h hB most hm)
 have hgl:=h.blk.lt
 unfold Rs.strict
 generalize s.loose B most=L at*
 obtain⟨s1,D,q⟩:=L
 dsimp only at*
 have hfk:=Rs.BI (s:=s1) (c:=12) (at_:=(s1.p:Int)) zC
 have hfb:s1.k≠0→s1.fail 12 s1.p=s1:=fun hk=>Rs.Bt hk
 have hSC:=hid (fun (W:World) (h:AS W g B a s1)=>QD W h q s1.p)
 clear h
 by_cases hk:s1.k=0
 ·rw[Ag hk]
  cases q
  ·have d1:decide ((s1.fail 12 s1.p).k=0)=false:=Ae hfk
   rw[Ai zM]
   rw[Ai zM] at hSC
   generalize s1.fail 12 s1.p=s2 at*
   clear hk hfk hfb
   go_enter Tryz.func129,Tryz.ntmps129
   go_wp2_with fail
   refine HLS.out.mono ?_
   rintro r w1 ⟨v,rfl,hr,hst⟩
   obtain⟨aD,cD,hv,hr2,_⟩:=AH hr
   simp only[Av,AI] at hv
   subst hv
   have HST:=hid hst
   have HR:=hid hr2
   have hs1:=hst.size
   have HAT:=hid (Cd w1 hst.1)
   have HSC:=hid (hSC.out w1 hst.1)
   clear hr hr2 hst
   go_wp2_with fail
   refine HAT.out.mono ?_
   rintro r w1' ⟨rfl,rfl⟩
   go_wp2_with fail
   refine HSC.out.mono ?_
   rintro r w2 ⟨rfl,hst2⟩
   have HST2:=hid (AE.trans HST.out.2 hst2)
   have HRK:=hid (Am.mono (S':=fun q=>w.heap.size≤q∧q<w2.heap.size) (Am.keep HR.out fun q hq=>hst2.2.block q hq.2 zC) fun q hq=>⟨hq.1,An hq.2 hst2.size⟩)
   have hG:=AK w2 hst2.1
   rw[d1] at hG
   have HG:=hid hG
   clear hst2 hG d1
   go_wp2_with fail
   refine HG.out.mono ?_
   rintro r w3 ⟨rfl,hb3⟩
   have HST3:=hid (HST2.out.then hb3)
   go_wp2
   go_ret
   exact⟨_,rfl,BR rfl rfl zC,HST3.out⟩
  ·have d1:decide (s1.k=0)=true:=Ad hk
   rw[Ag rfl]
   rw[Ag rfl] at hSC
   clear hk hfk hfb
   go_enter Tryz.func129,Tryz.ntmps129
   go_wp2_with fail
   refine HLS.out.mono ?_
   rintro r w1 ⟨v,rfl,hr,hst⟩
   obtain⟨aD,cD,hv,hr2,_⟩:=AH hr
   simp only[Av,AI] at hv
   subst hv
   have HST:=hid hst
   have HR:=hid hr2
   have hs1:=hst.size
   have HAT:=hid (Cd w1 hst.1)
   have HSC:=hid (hSC.out w1 hst.1)
   clear hr hr2 hst
   go_wp2_with fail
   refine HAT.out.mono ?_
   rintro r w1' ⟨rfl,rfl⟩
   go_wp2_with fail
   refine HSC.out.mono ?_
   rintro r w2 ⟨rfl,hst2⟩
   have HST2:=hid (AE.trans HST.out.2 hst2)
   have HRK:=hid (Am.mono (S':=fun q=>w.heap.size≤q∧q<w2.heap.size) (Am.keep HR.out fun q hq=>hst2.2.block q hq.2 zC) fun q hq=>⟨hq.1,An hq.2 hst2.size⟩)
   have hG:=AK w2 hst2.1
   rw[d1] at hG
   have HG:=hid hG
   clear hst2 hG d1
   go_wp2_with fail
   refine HG.out.mono ?_
   rintro r w3 ⟨rfl,hb3⟩
   have HST3:=hid (HST2.out.then hb3)
   have HRK3:=hid (Am.mono (S':=fun q=>w.heap.size≤q∧q<w3.heap.size) (Am.keep HRK.out fun q hq=>hb3.block q hq.2) fun q hq=>⟨hq.1,An hq.2 hb3.size⟩)
   go_wp2
   go_ret
   exact⟨_,rfl,HRK3.out,HST3.out⟩
 ·rw[Ai hk]
  have hfb2:=hfb hk
  have d1:decide (s1.k=0)=false:=Ae hk
  have hSC2:Hid (∀(W:World) (h:AS W g B a s1),Calls Tryz.prog 207 #[.bool q,.func (Fn.func 124) #[.pointer (some ⟨g,0,none⟩)] #[],.int .i64 (s1.p:Int)] W fun r w'=>r=.returned (.tuple #[])∧AE W g B a s1 w'):=hid (fun W h=>by
   have:=hSC.out W h
   rw[hfb2] at this
   cases q
   ·rw[Ai zM] at this;exact this
   ·rw[Ag rfl] at this;exact this)
  clear hk hfk hfb hfb2 hSC
  have hSC:=hSC2
  clear hSC2
  cases q
  all_goals
   go_enter Tryz.func129,Tryz.ntmps129
   go_wp2_with fail
   refine HLS.out.mono ?_
   rintro r w1 ⟨v,rfl,hr,hst⟩
   obtain⟨aD,cD,hv,hr2,_⟩:=AH hr
   simp only[Av,AI] at hv
   subst hv
   have HST:=hid hst
   have HR:=hid hr2
   have hs1:=hst.size
   have HAT:=hid (Cd w1 hst.1)
   have HSC:=hid (hSC.out w1 hst.1)
   clear hr hr2 hst
   go_wp2_with fail
   refine HAT.out.mono ?_
   rintro r w1' ⟨rfl,rfl⟩
   go_wp2_with fail
   refine HSC.out.mono ?_
   rintro r w2 ⟨rfl,hst2⟩
   have HST2:=hid (AE.trans HST.out.2 hst2)
   have HRK:=hid (Am.mono (S':=fun q=>w.heap.size≤q∧q<w2.heap.size) (Am.keep HR.out fun q hq=>hst2.2.block q hq.2 zC) fun q hq=>⟨hq.1,An hq.2 hst2.size⟩)
   have hG:=AK w2 hst2.1
   rw[d1] at hG
   have HG:=hid hG
   clear hst2 hG d1
   go_wp2_with fail
   refine HG.out.mono ?_
   rintro r w3 ⟨rfl,hb3⟩
   have HST3:=hid (HST2.out.then hb3)
   go_wp2
   go_ret
   exact⟨_,rfl,BR rfl rfl zC,HST3.out⟩
def Qk(r:Rs × List UInt8):List UInt8 × Nat × Int × Int:=if r.1.k=0 then (r.2,r.1.p,0,0) else ([],0,r.1.k,r.1.f)
end Go.Proofs.YtfddhafbhceoaaaGreat
namespace Go.Bs
open Go.RowKit
variable{c:Nat}
def Ea(c:Nat):Nat:=if c%2=1 then (c/2)^^^2197175160 else c/2
def DQ(c:Nat):Nat:=Ea (Ea (Ea (Ea c)))
def MI(c:Nat)(x:UInt8):Nat:=DQ (DQ (c^^^x.toNat))
def H3(c:Nat)(D:List UInt8):Nat:=D.foldl MI c
def Cc(D:List UInt8):Nat:=4294967295-H3 4294967295 D
theorem ML{a b:Nat}(ha:a<4294967296)(hb:b<4294967296):a^^^b<4294967296:=Nat.xor_lt_two_pow (n:=32) ha hb
theorem GZ(h:c<4294967296):Ea c<4294967296:=by
 unfold Ea
 split
 ·exact ML zC zL
 ·omega
theorem MJ(h:c<4294967296):DQ c<4294967296:=GZ (GZ (GZ (GZ h)))
theorem NS{x:UInt8}(h:c<4294967296):MI c x<4294967296:=MJ (MJ (ML h (by have:=x.toNat_lt;omega)))
theorem Pw:∀(D:List UInt8) {c:Nat},c<4294967296→H3 c D<4294967296
 | [],c,h=>h
 | x::D,c,h=>Pw D (NS h)
theorem Gd(D:List UInt8):Cc D<4294967296:=by unfold Cc;omega
theorem IW(a d:Nat):(a^^^2*d)%2=a%2:=by
 have h:=Nat.xor_mod_two_pow (a:=a) (b:=2*d) (n:=1)
 rw[Nat.pow_one,show 2*d%2=0 by omega,Nat.xor_zero] at h
 exact h
theorem Hn(a d:Nat):Ea (a^^^2*d)=Ea a^^^d:=by
 have h1:=IW a d
 have h2:(a^^^2*d)/2=a/2^^^d:=by rw[Nat.xor_div_two];congr 1;omega
 unfold Ea
 rw[h1,h2]
 split
 ·rw[Nat.xor_assoc,Nat.xor_assoc,Nat.xor_comm d]
 ·rfl
theorem Xx(a h:Nat):DQ (a^^^16*h)=DQ a^^^h:=by
 unfold DQ
 rw[show 16*h=2*(2*(2*(2*h))) by omega,Hn,Hn,Hn,Hn]
theorem AaA(h l:Nat)(hl:l<16):l^^^16*h=16*h+l:=by
 have h1:(l^^^16*h)/2=l/2^^^8*h:=by rw[Nat.xor_div_two];congr 1;omega
 have h2:(l/2^^^8*h)/2=l/4^^^4*h:=by rw[Nat.xor_div_two];congr 1<;>omega
 have h3:(l/4^^^4*h)/2=l/8^^^2*h:=by rw[Nat.xor_div_two];congr 1<;>omega
 have h4:(l/8^^^2*h)/2=h:=by
  rw[Nat.xor_div_two,show l/8/2=0 by omega,show 2*h/2=h by omega,Nat.zero_xor]
 have g1:(l^^^16*h)%2=l%2:=by rw[show 16*h=2*(8*h) by omega];exact IW _ _
 have g2:(l/2^^^8*h)%2=l/2%2:=by rw[show 8*h=2*(4*h) by omega];exact IW _ _
 have g3:(l/4^^^4*h)%2=l/4%2:=by rw[show 4*h=2*(2*h) by omega];exact IW _ _
 have g4:(l/8^^^2*h)%2=l/8%2:=IW _ _
 omega
theorem VQ(c:Nat):c/16^^^DQ (c%16)=DQ c:=by
 have h:=Xx (c%16) (c/16)
 rw[AaA _ _ zC,show 16*(c/16)+c%16=c by omega] at h
 rw[h,Nat.xor_comm]
def IT(k:Nat):Array Value:=((List.range 16).map fun j=>Value.int .u32 ((if j<k then DQ j else 0:Nat):Int)).toArray
theorem CU(k j:Nat)(hj:j<16):(IT k)[j]? =some (.int .u32 ((if j<k then DQ j else 0:Nat):Int)):=by
 simp[IT,hj]
theorem Wq(k:Nat)(hk:k<16):(IT k).setIfInBounds k (.int .u32 (DQ k:Int))=IT (k+1):=by
 apply Array.ext_getElem?
 intro j
 rw[Array.getElem?_setIfInBounds]
 by_cases hj:j<16
 ·rw[CU _ _ hj,CU _ _ hj]
  by_cases e:k=j
  ·subst e;simp[IT,hk]
  ·rw[Ai e]
   congr 2
   by_cases h:j<k
   ·rw[Ag h,Ag zC]
   ·rw[Ai h,Ai zC]
 ·have h1:∀m,(IT m)[j]? =none:=fun m=>by simp[IT];omega
  rw[h1,h1]
  split<;>simp [IT];omega
def Nr:Nat→Nat→Nat
 | 0,c=>c
 | n+1,c=>Ea (Nr n c)
theorem Rt(h:c<4294967296):∀n,Nr n c<4294967296
 | 0=>h
 | n+1=>GZ (Rt h n)
theorem Su(h:c<4294967296):bits BinOp.and IntKind.u32 (c:Int) 1=((c%2:Nat):Int):=by
 have:=u32_and_nat c 1 h zL
 rw[nat_mask1] at this
 exact this
theorem PD(h:c<4294967296):bits BinOp.and IntKind.u32 (c:Int) 15=((c%16:Nat):Int):=by
 have:=u32_and_nat c 15 h zL
 rw[nat_mask4] at this
 exact this
theorem WB(h:c<4294967296):bits BinOp.xor IntKind.u32 ((c:Int)/2) 2197175160=((c/2^^^2197175160:Nat):Int):=by
 have:=u32_xor_nat (c/2) 2197175160 zC zL
 rw[←this]
 rfl
theorem Yg(h:c<4294967296):bits BinOp.xor IntKind.u32 IntKind.u32.max (c:Int)=((4294967295-c:Nat):Int):=by
 have e:IntKind.u32.max=((4294967295:Nat):Int):=rfl
 rw[e,u32_xor_nat _ _ zL h]
 have h1:4294967295^^^c=4294967295-c:=by
  have h2:=BitVec.toNat_not (x:=BitVec.ofNat 32 c)
  rw[BitVec.not_def,BitVec.toNat_xor,BitVec.toNat_allOnes,BitVec.toNat_ofNat,IN zC] at h2
  exact h2
 rw[h1]
end Go.Bs
namespace Go.Proofs.YtfddhafbhceoaaaGreat
open Go.RowKit Go.Bs Go.Maps
variable{bound m:Int}{B J:List UInt8}{L base c g k n sz:Nat}{S:Nat → Prop}{a a1:Option Addr}{s:Rs}{w:World}
theorem Xw(c:Nat)(hc:c<4294967296)(w:World):
  Calls Tryz.prog 354 #[.int .u32 c] w fun r w'=>r=.returned (.int .u32 (Ea c))∧w=w':=by
 by_cases h:c%2=1
 ·have d1:(bits BinOp.and IntKind.u32 (c:Int) 1==1)=true:=by rw[Su hc];simp;omega
  have hff:Hid ((Ea c:Int)=bits BinOp.xor IntKind.u32 ((c:Int)/2) 2197175160):=hid (by rw[WB hc];unfold Ea;rw[Ag h])
  clear h
  go_enter Tryz.func354,Tryz.ntmps354
  go_wp2
  go_ret
  exact⟨zP,rfl⟩
 ·have d1:(bits BinOp.and IntKind.u32 (c:Int) 1==1)=false:=by rw[Su hc];simp;omega
  have hff:Hid ((Ea c:Int)=(c:Int)/2):=hid (by unfold Ea;rw[Ai h];rfl)
  clear h
  go_enter Tryz.func354,Tryz.ntmps354
  go_wp2
  go_ret
  exact⟨zP,rfl⟩
theorem VP(w:World):Calls Tryz.prog 259 #[] w fun r w'=>r=.returned (.int .u32 4294967295)∧w=w':=by
 go_enter Tryz.func259,Tryz.ntmps259
 go_wp2
 go_ret
 exact⟨rfl,rfl⟩
theorem Yx(c:Nat)(hc:c<4294967296)(w:World):
  Calls Tryz.prog 257 #[.int .u32 c] w fun r w'=>r=.returned (.int .u32 ((4294967295-c:Nat):Int))∧w=w':=by
 have hff:=hid (Yg hc)
 go_enter Tryz.func257,Tryz.ntmps257
 go_wp2
 go_ret
 exact⟨by rw[←hff.out];rfl,rfl⟩
theorem QG{wo:World}{B:Nat}(h:Below B w wo)(hg:B≤g)(v0 v1 v2 v3 v4 v5 v6 v7 v8 v9 v10 v11 v12 v13 v14 v15:Value):Below B w (((((((((((((((((wo).setCell ⟨g,0,none⟩ v0).setCell ⟨g,1,none⟩ v1).setCell ⟨g,2,none⟩ v2).setCell ⟨g,3,none⟩ v3).setCell ⟨g,4,none⟩ v4).setCell ⟨g,5,none⟩ v5).setCell ⟨g,6,none⟩ v6).setCell ⟨g,7,none⟩ v7).setCell ⟨g,8,none⟩ v8).setCell ⟨g,9,none⟩ v9).setCell ⟨g,10,none⟩ v10).setCell ⟨g,11,none⟩ v11).setCell ⟨g,12,none⟩ v12).setCell ⟨g,13,none⟩ v13).setCell ⟨g,14,none⟩ v14).setCell ⟨g,15,none⟩ v15):=
 ((((((((((((((((h).setCell (p:=⟨g,0,none⟩) hg v0).setCell (p:=⟨g,1,none⟩) hg v1).setCell (p:=⟨g,2,none⟩) hg v2).setCell (p:=⟨g,3,none⟩) hg v3).setCell (p:=⟨g,4,none⟩) hg v4).setCell (p:=⟨g,5,none⟩) hg v5).setCell (p:=⟨g,6,none⟩) hg v6).setCell (p:=⟨g,7,none⟩) hg v7).setCell (p:=⟨g,8,none⟩) hg v8).setCell (p:=⟨g,9,none⟩) hg v9).setCell (p:=⟨g,10,none⟩) hg v10).setCell (p:=⟨g,11,none⟩) hg v11).setCell (p:=⟨g,12,none⟩) hg v12).setCell (p:=⟨g,13,none⟩) hg v13).setCell (p:=⟨g,14,none⟩) hg v14).setCell (p:=⟨g,15,none⟩) hg v15
theorem Wr:IT 16=#[.int .u32 (DQ 0:Nat),.int .u32 (DQ 1:Nat),.int .u32 (DQ 2:Nat),.int .u32 (DQ 3:Nat),.int .u32 (DQ 4:Nat),.int .u32 (DQ 5:Nat),.int .u32 (DQ 6:Nat),.int .u32 (DQ 7:Nat),.int .u32 (DQ 8:Nat),.int .u32 (DQ 9:Nat),.int .u32 (DQ 10:Nat),.int .u32 (DQ 11:Nat),.int .u32 (DQ 12:Nat),.int .u32 (DQ 13:Nat),.int .u32 (DQ 14:Nat),.int .u32 (DQ 15:Nat)]:=rfl
theorem VO(w:World):
  Calls Tryz.prog 324 #[] w fun r w'=>r=.returned (.agg (IT 16))∧Below w.heap.size w w':=by
 go_enter Tryz.func324,Tryz.ntmps324
 go_wp2_with fail
 refine Ee (fun W=>Below w.heap.size w W∧W.heap.size=w.heap.size+2∧Blk W w.heap.size 339 (IT 0)∧Blk W (w.heap.size+1) 339 (IT 0)) ⟨zB,zM,(Blk.new w _ _).alloc _,Blk.Aai w _ _ _⟩ ?_
 intro W ⟨hbW,hzW,q0,q1⟩
 have Q0:=hid q0;have Q1:=hid q1;have HZ:=hid hzW
 clear q0 q1 hzW
 go_loopw [4] (fun i wr=>∃k:Nat,k≤16∧i=.int .i64 k∧Tch (·=w.heap.size+1) W wr∧Blk wr (w.heap.size+1) 339 (IT k)) (fun i _=>16-(intOf i).toNat)
 case atStart=>exact ⟨0,zC,rfl,Tch.refl _ _,Q1.out⟩
 case round=>
  obtain⟨k,hk,rfl,ht,hB⟩:=hrel
  obtain⟨wo,hwo⟩:∃wo:World,wo=wr:=⟨_,rfl⟩
  subst hwo
  have HT:=hid ht;have HB:=hid hB
  clear ht hB
  by_cases hlt:k<16
  ·have i1:(k:Int)<16:=by omega
   have e1:(k:Int)%4294967296=k:=zC
   go_wp2_with fail
   go_loopw [3,9] (fun c j w'=>∃n:Nat,n≤4∧j=.int .i64 n∧c=.int .u32 (Nr n k:Nat)∧w'=wo) (fun _ j _=>4-(intOf j).toNat)
   case atStart=>exact ⟨0,zC,rfl,by simp[Nr,e1],rfl⟩
   case round=>
    obtain⟨n,hn,rfl,rfl,rfl⟩:=hrel
    by_cases hl4:n<4
    ·have i2:(n:Int)<4:=by omega
     have HS:=hid (Xw (Nr n k) (Rt zC n) wr)
     go_wp2_with fail
     refine HS.out.mono ?_
     rintro r w1 ⟨rfl,rfl⟩
     go_wp2
     go_roundw
     case rel=>exact ⟨n+1,zC,zT,rfl,trivial⟩
     case measure=>simp [intOf];omega
    ·obtain rfl:n=4:=by omega
     have hB2:Blk (wr.setCell ⟨w.heap.size+1,k,none⟩ (.int .u32 (Nr 4 k:Nat))) (w.heap.size+1) 339 (IT (k+1)):=by
      rw[←Wq k hlt];exact HB.out.set k _
     have c9:wr.cell? ⟨w.heap.size+1,k,none⟩=some (.int .u32 ((if k<k then DQ k else 0:Nat):Int)):=(HB.out.cell k).trans (CU k k hlt)
     have f9:=HB.out.free k
     have HB2:=hid hB2
     have HT2:=hid (HT.out.setCell (p:=⟨w.heap.size+1,k,none⟩) (fun _=>rfl) (.int .u32 (Nr 4 k:Nat)))
     clear hB2
     go_wp2
     go_roundw
     case rel=>exact ⟨k+1,zC,zT,HT2.out,HB2.out⟩
     case measure=>simp [intOf];omega
  ·obtain rfl:k=16:=by omega
   obtain⟨v0,v1,v2,v3,v4,v5,v6,v7,v8,v9,v10,v11,v12,v13,v14,v15,hv⟩:∃v0 v1 v2 v3 v4 v5 v6 v7 v8 v9 v10 v11 v12 v13 v14 v15:Nat,IT 16=#[Value.int .u32 (v0:Int),Value.int .u32 (v1:Int),Value.int .u32 (v2:Int),Value.int .u32 (v3:Int),Value.int .u32 (v4:Int),Value.int .u32 (v5:Int),Value.int .u32 (v6:Int),Value.int .u32 (v7:Int),Value.int .u32 (v8:Int),Value.int .u32 (v9:Int),Value.int .u32 (v10:Int),Value.int .u32 (v11:Int),Value.int .u32 (v12:Int),Value.int .u32 (v13:Int),Value.int .u32 (v14:Int),Value.int .u32 (v15:Int)]:=⟨_,_,_,_,_,_,_,_,_,_,_,_,_,_,_,_,Wr⟩
   have hB9:=HB.out
   rw[hv] at hB9
   have HV:=hid hv
   have hB0:Blk wo w.heap.size 339 (IT 0):=Q0.out.tch HT.out zM
   have y0:wo.cell? ⟨w.heap.size+1,0,none⟩=some (.int .u32 (v0:Int)):=hB9.cell 0
   have z0:wo.cell? ⟨w.heap.size,0,none⟩=some (.int .u32 0):=(hB0.cell 0).trans (CU 0 0 zL)
   have f0:=hB0.free 0
   have y1:wo.cell? ⟨w.heap.size+1,1,none⟩=some (.int .u32 (v1:Int)):=hB9.cell 1
   have z1:wo.cell? ⟨w.heap.size,1,none⟩=some (.int .u32 0):=(hB0.cell 1).trans (CU 0 1 zL)
   have f1:=hB0.free 1
   have y2:wo.cell? ⟨w.heap.size+1,2,none⟩=some (.int .u32 (v2:Int)):=hB9.cell 2
   have z2:wo.cell? ⟨w.heap.size,2,none⟩=some (.int .u32 0):=(hB0.cell 2).trans (CU 0 2 zL)
   have f2:=hB0.free 2
   have y3:wo.cell? ⟨w.heap.size+1,3,none⟩=some (.int .u32 (v3:Int)):=hB9.cell 3
   have z3:wo.cell? ⟨w.heap.size,3,none⟩=some (.int .u32 0):=(hB0.cell 3).trans (CU 0 3 zL)
   have f3:=hB0.free 3
   have y4:wo.cell? ⟨w.heap.size+1,4,none⟩=some (.int .u32 (v4:Int)):=hB9.cell 4
   have z4:wo.cell? ⟨w.heap.size,4,none⟩=some (.int .u32 0):=(hB0.cell 4).trans (CU 0 4 zL)
   have f4:=hB0.free 4
   have y5:wo.cell? ⟨w.heap.size+1,5,none⟩=some (.int .u32 (v5:Int)):=hB9.cell 5
   have z5:wo.cell? ⟨w.heap.size,5,none⟩=some (.int .u32 0):=(hB0.cell 5).trans (CU 0 5 zL)
   have f5:=hB0.free 5
   have y6:wo.cell? ⟨w.heap.size+1,6,none⟩=some (.int .u32 (v6:Int)):=hB9.cell 6
   have z6:wo.cell? ⟨w.heap.size,6,none⟩=some (.int .u32 0):=(hB0.cell 6).trans (CU 0 6 zL)
   have f6:=hB0.free 6
   have y7:wo.cell? ⟨w.heap.size+1,7,none⟩=some (.int .u32 (v7:Int)):=hB9.cell 7
   have z7:wo.cell? ⟨w.heap.size,7,none⟩=some (.int .u32 0):=(hB0.cell 7).trans (CU 0 7 zL)
   have f7:=hB0.free 7
   have y8:wo.cell? ⟨w.heap.size+1,8,none⟩=some (.int .u32 (v8:Int)):=hB9.cell 8
   have z8:wo.cell? ⟨w.heap.size,8,none⟩=some (.int .u32 0):=(hB0.cell 8).trans (CU 0 8 zL)
   have f8:=hB0.free 8
   have y9:wo.cell? ⟨w.heap.size+1,9,none⟩=some (.int .u32 (v9:Int)):=hB9.cell 9
   have z9:wo.cell? ⟨w.heap.size,9,none⟩=some (.int .u32 0):=(hB0.cell 9).trans (CU 0 9 zL)
   have f9:=hB0.free 9
   have y10:wo.cell? ⟨w.heap.size+1,10,none⟩=some (.int .u32 (v10:Int)):=hB9.cell 10
   have z10:wo.cell? ⟨w.heap.size,10,none⟩=some (.int .u32 0):=(hB0.cell 10).trans (CU 0 10 zL)
   have f10:=hB0.free 10
   have y11:wo.cell? ⟨w.heap.size+1,11,none⟩=some (.int .u32 (v11:Int)):=hB9.cell 11
   have z11:wo.cell? ⟨w.heap.size,11,none⟩=some (.int .u32 0):=(hB0.cell 11).trans (CU 0 11 zL)
   have f11:=hB0.free 11
   have y12:wo.cell? ⟨w.heap.size+1,12,none⟩=some (.int .u32 (v12:Int)):=hB9.cell 12
   have z12:wo.cell? ⟨w.heap.size,12,none⟩=some (.int .u32 0):=(hB0.cell 12).trans (CU 0 12 zL)
   have f12:=hB0.free 12
   have y13:wo.cell? ⟨w.heap.size+1,13,none⟩=some (.int .u32 (v13:Int)):=hB9.cell 13
   have z13:wo.cell? ⟨w.heap.size,13,none⟩=some (.int .u32 0):=(hB0.cell 13).trans (CU 0 13 zL)
   have f13:=hB0.free 13
   have y14:wo.cell? ⟨w.heap.size+1,14,none⟩=some (.int .u32 (v14:Int)):=hB9.cell 14
   have z14:wo.cell? ⟨w.heap.size,14,none⟩=some (.int .u32 0):=(hB0.cell 14).trans (CU 0 14 zL)
   have f14:=hB0.free 14
   have y15:wo.cell? ⟨w.heap.size+1,15,none⟩=some (.int .u32 (v15:Int)):=hB9.cell 15
   have z15:wo.cell? ⟨w.heap.size,15,none⟩=some (.int .u32 0):=(hB0.cell 15).trans (CU 0 15 zL)
   have f15:=hB0.free 15
   clear hB9 hv HB
   clear hB0
   go_wp2
   refine Ax (v:=.agg #[Value.int .u32 (v0:Int),Value.int .u32 (v1:Int),Value.int .u32 (v2:Int),Value.int .u32 (v3:Int),Value.int .u32 (v4:Int),Value.int .u32 (v5:Int),Value.int .u32 (v6:Int),Value.int .u32 (v7:Int),Value.int .u32 (v8:Int),Value.int .u32 (v9:Int),Value.int .u32 (v10:Int),Value.int .u32 (v11:Int),Value.int .u32 (v12:Int),Value.int .u32 (v13:Int),Value.int .u32 (v14:Int),Value.int .u32 (v15:Int)]) (by simp[results,Tryz.results324,go_sem,z0,z1,z2,z3,z4,z5,z6,z7,z8,z9,z10,z11,z12,z13,z14,z15]) rfl ⟨by rw[HV.out],?_⟩
   have hb2:Below w.heap.size W wo:=HT.out.Ch (by have:=HZ.out;omega) (by intro b _ e;omega)
   have hb3:=hbW.trans hb2
   exact QG hb3 (As _) (.int .u32 (v0:Int)) (.int .u32 (v1:Int)) (.int .u32 (v2:Int)) (.int .u32 (v3:Int)) (.int .u32 (v4:Int)) (.int .u32 (v5:Int)) (.int .u32 (v6:Int)) (.int .u32 (v7:Int)) (.int .u32 (v8:Int)) (.int .u32 (v9:Int)) (.int .u32 (v10:Int)) (.int .u32 (v11:Int)) (.int .u32 (v12:Int)) (.int .u32 (v13:Int)) (.int .u32 (v14:Int)) (.int .u32 (v15:Int))
theorem Rg{y:Nat}(h:y<4294967296):bits BinOp.xor IntKind.u32 ((y:Int)/16) ((DQ (y%16):Nat):Int)=((DQ y:Nat):Int):=by
 have:=u32_xor_nat (y/16) (DQ (y%16)) zC (MJ zC)
 rw[VQ] at this
 rw[←this]
 rfl
theorem WW(h:c<4294967296)(x:UInt8):bits BinOp.xor IntKind.u32 (c:Int) ((x.toNat:Int)%4294967296)=((c^^^x.toNat:Nat):Int):=by
 have hx:=x.toNat_lt
 rw[←u32_xor_nat c x.toNat h zC,show (x.toNat:Int)%4294967296=(x.toNat:Int) by omega]
theorem Yy(c:Nat)(hc:c<4294967296)(D:List UInt8)(ad:Option Addr)(nd cd:Nat)(w:World)(hD:Am.r (·<w.heap.size) w [.slice ad nd cd] D):
  Calls Tryz.prog 258 #[.int .u32 c,.slice ad nd cd] w fun r w'=>r=.returned (.int .u32 (H3 c D:Nat))∧Below w.heap.size w w':=by
 obtain⟨rfl,hm,_,_⟩:=AL hD
 have HD:=hid hD;clear hD
 go_enter Tryz.func258,Tryz.ntmps258
 go_wp2_with fail
 refine (VO w).mono ?_
 rintro r w1 ⟨rfl,hb1⟩
 obtain⟨v0,v1,v2,v3,v4,v5,v6,v7,v8,v9,v10,v11,v12,v13,v14,v15,hv⟩:∃v0 v1 v2 v3 v4 v5 v6 v7 v8 v9 v10 v11 v12 v13 v14 v15:Nat,IT 16=#[Value.int .u32 (v0:Int),Value.int .u32 (v1:Int),Value.int .u32 (v2:Int),Value.int .u32 (v3:Int),Value.int .u32 (v4:Int),Value.int .u32 (v5:Int),Value.int .u32 (v6:Int),Value.int .u32 (v7:Int),Value.int .u32 (v8:Int),Value.int .u32 (v9:Int),Value.int .u32 (v10:Int),Value.int .u32 (v11:Int),Value.int .u32 (v12:Int),Value.int .u32 (v13:Int),Value.int .u32 (v14:Int),Value.int .u32 (v15:Int)]:=⟨_,_,_,_,_,_,_,_,_,_,_,_,_,_,_,_,Wr⟩
 rw[hv]
 have HV:=hid hv
 clear hv
 go_wp2_with fail
 refine Ee (fun W=>Below w.heap.size w W∧w1.heap.size<W.heap.size∧Blk W w1.heap.size 339 (IT 16)) ⟨zA,zM,by rw[HV.out];exact Blk.new w1 _ _⟩ ?_
 intro W ⟨hbW,hzW,hQ⟩
 have HQ:=hid hQ;clear hQ
 go_wp2_with fail
 go_loopw [0,11] (fun s i wr=>∃(k d:Nat),k≤D.length∧i=.int .i64 k∧s=.int .u32 d∧d<4294967296∧Hid (H3 c D=H3 d (D.drop k))∧wr=W) (fun _ i _=>D.length-(intOf i).toNat)
 case atStart=>exact ⟨0,c,Ar _,rfl,rfl,hc,hid rfl,rfl⟩
 case round=>
  obtain⟨k,d,hk,rfl,rfl,hd,hf,rfl⟩:=hrel
  by_cases hlt:k<D.length
  ·obtain⟨b,o,hA,hbb,hx⟩:=Dg (lift HD.out hbW) hlt
   subst hA
   have hst:=hid (show H3 d (D.drop k)=H3 (MI d D[k]) (D.drop (k+1)) by rw[AO hlt];rfl)
   generalize D[k]=x at*
   have i1:(k:Int)<(D.length:Int):=zC
   have hb1:=hid (NS (x:=x) hd)
   have hcb:=hid (show MI d x=DQ (DQ (d^^^x.toNat)) from rfl)
   have hy:d^^^x.toNat<4294967296:=ML hd (by have:=x.toNat_lt;omega)
   have e1:=WW hd x
   generalize d^^^x.toNat=y at*
   have hz:DQ y<4294967296:=MJ hy
   have e2:=PD hy
   have e3:=Rg hy
   have m1:((y%16:Nat):Int)<16:=zC
   have c1:wr.cell? ⟨w1.heap.size,y%16,none⟩=some (.int .u32 (DQ (y%16):Nat)):=by
    have h:=(HQ.out.cell (y%16)).trans (CU 16 (y%16) zC)
    rw[Ag zC] at h;exact h
   generalize DQ (y%16)=t1 at*
   generalize y%16=m at*
   generalize DQ y=z at*
   have e4:=PD hz
   have e5:=Rg hz
   have m2:((z%16:Nat):Int)<16:=zC
   have c2:wr.cell? ⟨w1.heap.size,z%16,none⟩=some (.int .u32 (DQ (z%16):Nat)):=by
    have h:=(HQ.out.cell (z%16)).trans (CU 16 (z%16) zC)
    rw[Ag zC] at h;exact h
   generalize DQ (z%16)=t2 at*
   generalize z%16=n at*
   generalize DQ z=q at*
   go_wp2
   go_roundw
   case rel=>exact ⟨k+1,q,zC,zT,rfl,by have:=hb1.out;rw[hcb.out] at this;exact this,hid (by rw[hf.out,hst.out,hcb.out]),trivial⟩
   case measure=>simp [intOf];omega
  ·obtain rfl:k=D.length:=by omega
   have hff:Hid (H3 c D=d):=hid zA2
   go_wp2
   go_ret
   exact⟨zP,hbW⟩
theorem Lc(D:List UInt8)(ad:Option Addr)(nd cd:Nat)(w:World)(hD:Am.r (·<w.heap.size) w [.slice ad nd cd] D):
  Calls Tryz.prog 192 #[.slice ad nd cd] w fun r w'=>r=.returned (.int .u32 (Cc D:Nat))∧Below w.heap.size w w':=by
 have HA:=hid (Yy 4294967295 zL D ad nd cd w hD)
 have hlt:=Pw D (c:=4294967295) zL
 have hff:Hid (Cc D=4294967295-H3 4294967295 D):=hid rfl
 generalize H3 4294967295 D=s at*
 clear hD
 go_enter Tryz.func192,Tryz.ntmps192
 go_wp2_with fail
 refine (VP w).mono ?_
 rintro r w1 ⟨rfl,rfl⟩
 go_wp2_with fail
 refine HA.out.mono ?_
 rintro r w2 ⟨rfl,hb2⟩
 go_wp2_with fail
 refine (Yx s hlt w2).mono ?_
 rintro r w3 ⟨rfl,rfl⟩
 go_wp2
 go_ret
 exact⟨zP,hb2⟩
end Go.Proofs.YtfddhafbhceoaaaGreat
namespace Go.Bs
open Go.RowKit
variable{c:Nat}
def BE:Nat→Nat→List UInt8
 | 0,_=>[]
 | n+1,x=>UInt8.ofNat (x%256)::BE n (x/256)
theorem Da:∀(n x:Nat),(BE n x).length=n
 | 0,_=>rfl
 | n+1,x=>by simp[BE,Da n]
theorem Mm:∀(n x:Nat),BE (n+1) x=BE n x++[UInt8.ofNat (x/256^n%256)]
 | 0,x=>by simp[BE]
 | n+1,x=>by
  rw[BE,Mm n (x/256),BE,DV,Nat.div_div_eq_div_mul,FQ,Lj 256]
end Go.Bs
namespace Go.Proofs.YtfddhafbhceoaaaGreat
open Go.RowKit Go.Bs Go.Maps
variable{bound m:Int}{B J:List UInt8}{L base c g k n sz:Nat}{S:Nat → Prop}{a a1:Option Addr}{s:Rs}{w:World}
theorem OV(x:Nat)(hx:x<18446744073709551616)(n:Nat)(hn:n≤8)(w:World):
  Calls Tryz.prog 266 #[.int .u64 x,.int .i64 n] w fun r w'=>∃v,r=.returned v∧w'.ownsRow w.heap.size 5 1 v n (byteCells (BE n x))∧Below w.heap.size w w':=by
 obtain⟨i0,hi,hz0,hz1,hz2⟩:=A5 FL
 have d1:max (n:Int) 0=n:=zC
 have d2:min (n:Int) 8=n:=zC
 have d3:(if (n:Int)<0 then (0:Int) else n)=n:=ZQ
 have d4:(if (8:Int)<n then (8:Int) else n)=n:=ZQ
 go_enter Tryz.func266,Tryz.ntmps266
 go_wp2_with fail
 go_loopw [0,5,9] (fun y o i wr=>∃k:Nat,k≤n∧i=.int .i64 k∧y=.int .u64 (x/256^k:Nat)∧wr.ownsRow w.heap.size 5 1 o k (byteCells (BE k x))∧Below w.heap.size w wr) (fun _ _ i _=>n-(intOf i).toNat)
 case atStart=>exact ⟨0,Ar _,rfl,zM,⟨rfl,.inl ⟨rfl,rfl⟩⟩,Below.refl _ _⟩
 case round=>
  obtain⟨k,hk,rfl,rfl,hown,hb⟩:=hrel
  have hbs:=hb.size
  obtain⟨aJ,cJ,rfl⟩:=AV hown
  have HO:=hid hown
  clear hown
  by_cases hlt:k<n
  ·have i1:(k:Int)<(n:Int):=by omega
   have hy:x/256^k<18446744073709551616:=Nat.lt_of_le_of_lt (Nat.div_le_self _ _) hx
   have hfin:=hid (Mm k x)
   have hdv:Hid (x/256^(k+1)=x/256^k/256):=hid (by rw[FQ,Nat.div_div_eq_div_mul])
   generalize x/256^k=y at*
   have hby:Hid ((y:Int)%256=((UInt8.ofNat (y%256)).toNat:Int)):=hid (by rw[←G0 (by omega)];omega)
   have e0:(y:Int)%256%256=(y:Int)%256:=zC
   go_wp2_with (at_builtin;go_loud (refine AB rfl _ _ _ rfl w.heap.size 5 i0 (.int .u8 0) 1 1 AJ hi hz0 hz1 hz2 rfl zL (.slice aJ k cJ) k (byteCells (BE k x)) rfl (Bz HO.out zA) (some ⟨wr.heap.size,0,none⟩) 1 1 [.int .u8 ((y:Int)%256)] rfl (BU wr 5 _ rfl rfl rfl) zZ zO zC zI ?_;intro v' w1 hown1 hgrow1 hat1;have HG:=hid hgrow1;have HO1:=hid hown1;clear hgrow1 hown1 hat1))
   have ho:=HO1.out
   rw[hby.out,EG,←hfin.out] at ho
   have hB:Below w.heap.size w w1:=Below.grown zA HG.out zI (fun g e=>(HO.out.lt g e).1)
   have HO2:=hid ho
   clear ho
   go_wp2_with fail
   go_roundw
   case rel=>exact ⟨k+1,zC,zT,by rw[hdv.out];go_num,HO2.out,hB⟩
   case measure=>simp [intOf];omega
  ·obtain rfl:k=n:=by omega
   go_wp2
   go_ret
   exact⟨_,rfl,HO.out,hb⟩
theorem Ke(w:World){g base most:Nat}{J:List UInt8}{a:Option Addr}(h:BG w g base most J a c)(x:Nat)(hx:x<18446744073709551616)(n:Nat)(hn:n≤8)(hfit:J.length+n≤most)(hlen:J.length+n≤100000000000000):
  Calls Tryz.prog 240 #[.pointer (some ⟨g,0,none⟩),.int .u64 x,.int .i64 n] w fun r w'=>r=.returned (.tuple #[])∧AA w g base most (J++BE n x) a w':=by
 have hl:=Da n x
 have HF:=hid (OV x hx n hn w)
 have HP:=hid h
 clear h
 generalize BE n x=D at*
 go_enter Tryz.func240,Tryz.ntmps240
 go_wp2_with fail
 refine HF.out.mono ?_
 rintro r w1 ⟨v,rfl,ho,hb1⟩
 obtain⟨a1,c1,rfl⟩:=AV ho
 have HQ:=hid (Fp w1 (HP.out.later hb1) D a1 n c1 (F7 hl.symm ho) zC zC)
 clear ho
 go_wp2_with fail
 refine HQ.out.mono ?_
 rintro r w2 ⟨rfl,hst⟩
 have HST:=hid (AA.later hb1 hst)
 clear hst
 go_wp2
 first | go_end0 | refine Ax (A4 rfl _ _ _) rfl ?_
 exact⟨rfl,HST.out⟩
theorem toNat_cast{x:Int}(h:0≤x):((x.toNat:Nat):Int)=x:=Int.toNat_of_nonneg h
def CN(l:List Int):List UInt8:=(l.map fun x=>AD x.toNat).flatten
def C6(pos:Int)(l:List Int):List UInt8:=AD l.length++CN (BS pos l)
def E4:Option Int→List Be→List Int
 | _,[]=>[]
 | p,x::l=>(match p with | none=>x.stream | some q=>x.stream-q-1)::E4 (some x.stream) l
def Ia(pos:Int):Option Int→List Be→List UInt8
 | _,[]=>[]
 | p,x::l=>AD (match p with | none=>x.stream | some q=>x.stream-q-1).toNat++C6 pos x.backs++Ia pos (some x.stream) l
def DP(pos:Int)(l:List Be):List UInt8:=AD l.length++Ia pos none l
def FY(pos:Int)(e:Entry):List UInt8:=DP pos e.links++AD e.data.length
def BW:Int→List Entry→List UInt8
 | _,[]=>[]
 | p,e::l=>FY p e++BW (p+1) l
def JA(b:Batch):List UInt8:=AD b.epoch.toNat++AD b.base.toNat++AD b.entries.length++BW b.base b.entries
def Bc(b:Batch):List UInt8:=JA b++Bj (BM b.entries)
def Rl(x:Be):Prop:=(0≤x.stream∧x.stream≤18446744073709551615)∧∀y∈x.backs,0≤y
def Qz(e:Entry):Prop:=∀x∈e.links,Rl x
def Ec(b:Batch):Prop:=(0≤b.epoch∧b.epoch≤18446744073709551615)∧(0≤b.base∧b.base≤18446744073709551615)∧∀e∈b.entries,Qz e
theorem U6:CN []=[]:=rfl
theorem GS(x:Int)(l:List Int):CN (x::l)=AD x.toNat++CN l:=by simp[CN]
theorem OY(l l':List Int):CN (l++l')=CN l++CN l':=by simp[CN]
theorem It(l:List Int)(k:Nat)(h:k<l.length):CN (l.take (k+1))=CN (l.take k)++AD l[k].toNat:=by
 rw[AU h,OY,GS,U6,Bu]
theorem H8(l:List Int):(CN l).length≤10*l.length:=by
 induction l with
 | nil=>simp [CN]
 | cons x l ih=>
  rw[GS,Al,Ay]
  have:=(A1 x.toNat).1
  omega
theorem JV(l:List Int)(k:Nat):(CN (l.take k)).length≤(CN l).length:=by
 have:CN l=CN (l.take k)++CN (l.drop k):=by rw[←OY,Bn]
 rw[this,Al];omega
theorem Im:∀(p:Int) (l:List Int),(BS p l).length=l.length
 | _,[]=>rfl
 | p,x::l=>by simp only[BS,Ay,Im x l]
theorem IZ:∀(p:Option Int) (l:List Be),(E4 p l).length=l.length
 | _,[]=>rfl
 | p,x::l=>by simp only[E4,Ay,IZ _ l]
theorem IY{x:Nat}(h:x<128):(AD x).length=1:=by rw[GN h];rfl
theorem TX(pos:Int)(l:List Int)(h:l.length<128):(C6 pos l).length≤1+10*l.length:=by
 have:=H8 (BS pos l)
 rw[Im] at this
 unfold C6
 rw[Al,IY h]
 omega
theorem Fe{α:Type}{A:Rp α}{w w1:World}{g:Nat}{a a1:Option Addr}{cs:List Value}{x:α}(ht:Tch (Dm g a) w w1)(ha:a1.map Addr.block=a.map Addr.block∨∃q,a1.map Addr.block=some q∧w.heap.size≤q)
 (h:A.r (fun q=>q<w.heap.size∧¬Dm g a q) w cs x):A.r (fun q=>q<w1.heap.size∧¬Dm g a1 q) w1 cs x:=
 A.mono (A.keep h fun q hq=>ht.block q hq.1 hq.2) fun q hq=>⟨An hq.1 ht.size,FE ha hq.1 hq.2⟩
theorem GI{α:Type}{A:Rp α}{w w1:World}{g:Nat}{a:Option Addr}{cs:List Value}{x:α}(hb:Below w.heap.size w w1)
 (h:A.r (fun q=>q<w.heap.size∧¬Dm g a q) w cs x):A.r (fun q=>q<w1.heap.size∧¬Dm g a q) w1 cs x:=
 A.mono (A.keep h fun q hq=>hb.block q hq.1) fun q hq=>⟨An hq.1 hb.size,hq.2⟩
theorem Hg{α:Type}{A:Rp α}{w:World}{g:Nat}{a:Option Addr}{cs:List Value}{x:α}(h:A.r (fun q=>q<w.heap.size∧¬Dm g a q) w cs x):A.r (·<w.heap.size) w cs x:=A.mono h fun q hq=>hq.1
theorem Ir{α:Type}{A:Rp α}{w w1:World}{g most:Nat}{a:Option Addr}{cs:List Value}{x:α}(hp:BG w g base most J a c)(h:A.r (fun q=>w.heap.size≤q∧q<w1.heap.size) w1 cs x):A.r (fun q=>q<w1.heap.size∧¬Dm g a q) w1 cs x:=
 A.mono h fun q hq=>⟨hq.2,fun hf=>by have:=(hp.BH hf).2;omega⟩
open Go.RowKit Go.Bs
theorem SY(l:List Batch)(h:k≤l.length):Ce (l.take k) (l.take k).length=Ce l k:=by
 have:(l.take k).length=k:=zI
 rw[this]
 unfold Ce
 by_cases h0:k=0
 ·rw[Ag h0,Ag h0]
 ·rw[Ai h0,Ai h0,DS];rw[Ag zC]
theorem Ss{x:Batch}(h:Bg x=true):x.base+x.entries.length≤4611686018427387904:=by
 unfold Bg Fi at h
 simp at h
 omega
theorem SR{l:List Batch}{k:Nat}(h:∀i,(h:i<l.length)→i<k→Bg l[i]=true):∀p∈l.take k,p.base+p.entries.length≤18446744073709551615:=by
 intro p hp
 obtain⟨i,hi,rfl⟩:=List.getElem_of_mem hp
 have hi':i<k∧i<l.length:=by simp at hi;omega
 rw[List.getElem_take]
 have:=Ss (h i hi'.2 hi'.1)
 omega
theorem SS{l:List Batch}(hk:k<l.length){z:Batch}(hz:l[k]=z)(hr:Bg z=true)(h:∀i,(h:i<l.length)→i<k→Bg l[i]=true):∀i,(h:i<l.length)→i<k+1→Bg l[i]=true:=by
 intro i hi hik
 by_cases e:i=k
 ·subst e;rw[hz];exact hr
 ·exact h i hi zC
theorem Hx(e:Int)(l:List Batch)(a:Option Addr)(n c:Nat)(w:World)(h0:0≤e∧e≤18446744073709551615)(hl:DN.r (·<w.heap.size) w [.slice a n c] l)(hfair:∀x∈l,Fair x.entries):
  Calls Tryz.prog 87 #[.agg #[.int .u64 e,.slice a n c]] w fun r w'=>r=.returned (.bool (Ey ⟨e,l⟩))∧Below w.heap.size w w':=by
 obtain⟨rfl,hm,hm2,hm3⟩:=AL hl
 have HL:=hid hl;clear hl
 have HF:=hid hfair;clear hfair
 go_enter Tryz.func87,Tryz.ntmps87
 go_wp2_with fail
 refine (ED e _).mono ?_
 rintro e' w' ⟨rfl,rfl⟩
 cases he:epR e
 ·have hff:Hid (Ey ⟨e,l⟩=false):=hid (by simp[Ey,he])
  clear he
  go_wp2
  go_ret
  exact⟨zP,zB⟩
 ·by_cases hn:l.length≤16
  ·have d1:decide ((16:Int)<(l.length:Int))=false:=by simp;omega
   have hff:Hid (Ey ⟨e,l⟩=EF e (Ce l 0) (l.drop 0)):=hid (by simp[Ey,he,hn,Ce])
   clear he
   go_wp2_with fail
   refine Ee (fun W=>Below w.heap.size w W∧w.heap.size<W.heap.size∧W.cell? ⟨w.heap.size,0,none⟩=some (.int .u64 e)∧W.cell? ⟨w.heap.size,1,none⟩=some (.slice a l.length c)) ⟨zB,zM,ZW,ZW⟩ ?_
   intro w1 ⟨hb2,hzb,s0,s1⟩
   go_loopw [18] (fun i wr=>∃k:Nat,k≤l.length∧i=.int .i64 k∧Hid (Ey ⟨e,l⟩=EF e (Ce l k) (l.drop k))∧Hid (∀i,(h:i<l.length)→i<k→Bg l[i]=true)∧Below w1.heap.size w1 wr) (fun i _=>l.length-(intOf i).toNat)
   case atStart=>exact ⟨0,Ar _,rfl,hff,hid (fun i _ h=>absurd h (Nat.not_lt_zero i)),Below.refl _ _⟩
   case round=>
    obtain⟨k,hk,rfl,hf,hP,hb⟩:=hrel
    have hb3:=Aj hb hb2
    have t0:wr.cell? ⟨w.heap.size,0,none⟩=some (.int .u64 e):=(AM.mk wr hb).cell s0
    have t1:wr.cell? ⟨w.heap.size,1,none⟩=some (.slice a l.length c):=(AM.mk wr hb).cell s1
    have hz3:w.heap.size<wr.heap.size:=Z3
    by_cases hlt:k<l.length
    ·obtain⟨b,o,hA,hbb,a1,c1,hd0,hd1,hd2,r0,r1,hd⟩:=Jz HL.out hlt
     subst hA
     have X0:=(hb3.cell (p:=⟨b,o+k*3,none⟩) hbb).trans hd0
     have X1:=(hb3.cell (p:=⟨b,o+k*3+1,none⟩) hbb).trans hd1
     have X2:=(hb3.cell (p:=⟨b,o+k*3+2,none⟩) hbb).trans hd2
     clear hd0 hd1 hd2
     have RL:=hid (MA (lift HL.out hb3) hk)
     have hst:=hid (Sg e l k hlt)
     have HZ:=hid (HF.out _ (A0 hlt))
     obtain⟨_,hm4,_,_⟩:=AL hd
     have R:=hid (lift hd hb3)
     clear hd
     generalize hz:l[k]=z at*
     have HZZ:=hid hz;clear hz
     have i1:(k:Int)<(l.length:Int):=zC
     have i2:(k:Int)≤(c:Int):=zC
     go_wp2_with fail
     refine Ee (fun W=>Below wr.heap.size wr W∧wr.heap.size<W.heap.size∧W.cell? ⟨wr.heap.size,0,none⟩=some (.int .u64 z.epoch)∧W.cell? ⟨wr.heap.size,1,none⟩=some (.int .u64 z.base)∧W.cell? ⟨wr.heap.size,2,none⟩=some (.slice a1 z.entries.length c1)) ⟨zB,zM,ZW,ZW,ZW⟩ ?_
     intro W ⟨hbW,hzW,d0,d1,d2⟩
     have hb6:=Aj hbW hb3
     have hb7:=Aj hbW hb
     have T0:=fun s:AM W=>s.cell ((hbW.cell (p:=⟨w.heap.size,0,none⟩) hz3).trans t0)
     have T1:=fun s:AM W=>s.cell ((hbW.cell (p:=⟨w.heap.size,1,none⟩) hz3).trans t1)
     have Y0:=fun s:AM W=>s.cell d0
     have Y1:=fun s:AM W=>s.cell d1
     have Y2:=fun s:AM W=>s.cell d2
     have hB:=fun s:AM W=>Jy z a1 _ c1 s.at_ r0 r1 (lift R.out (Aj s.below hbW)) HZ.out
     cases hr:Bg z
     ·have hf3:Hid (Ey ⟨e,l⟩=false):=hid zBh
      rw[hr] at hB
      have HB:=hid hB;clear hB hr
      refine Az zJ zJ ?_
      repeat (go_big_quiet_step (((go_at_call 143;exact CH (HB.out _)))))
      refine AT ?_
      rintro W5 ⟨⟨W5',hb5⟩,rfl⟩
      go_wp2
      go_ret
      exact⟨zAy,Aj hb5 hb6⟩
     ·have HR:=hid hr
      rw[hr] at hB
      have HB:=hid hB;clear hB
      have hS:=fun s:AM W=>QS e (l.take k) z (some ⟨b,o,none⟩) a1 k c z.entries.length c1 s.at_ (lift RL.out (Aj s.below hbW)) (SR hP.out)
      rw[SY l hk] at hS
      cases hv:EU e (Ce l k) z
      ·have hf3:Hid (Ey ⟨e,l⟩=false):=hid (by rw[hf.out,hst.out,hr,hv];rfl)
       rw[hv] at hS
       have HS:=hid hS;clear hS hr hv
       refine Az zJ zJ ?_
       repeat (go_big_quiet_step (((first | (go_at_call 143;exact CH (HB.out _)) | (go_at_call 144;exact CH (HS.out _))))))
       refine AT ?_
       rintro W5 ⟨⟨W5',hb5⟩,rfl⟩
       go_wp2
       go_ret
       exact⟨zAy,Aj hb5 hb6⟩
      ·have hf3:Hid (Ey ⟨e,l⟩=EF e (Ce l (k+1)) (l.drop (k+1))):=hid (by rw[hf.out,hst.out,hr,hv];rfl)
       rw[hv] at hS
       have HS:=hid hS;clear hS hr hv
       refine Az zJ zJ ?_
       repeat (go_big_quiet_step (((first | (go_at_call 143;exact CH (HB.out _)) | (go_at_call 144;exact CH (HS.out _))))))
       refine AT ?_
       rintro W5 ⟨⟨W5',hb5⟩,rfl⟩
       go_wp2
       go_roundw
       case rel=>exact ⟨k+1,zC,zT,hf3,hid (SS hlt HZZ.out HR.out hP.out),Aj hb5 hb7⟩
       case measure=>simp [intOf];omega
    ·obtain rfl:k=l.length:=by omega
     have hf3:Hid (Ey ⟨e,l⟩=true):=hid zA2
     go_wp2
     go_ret
     exact⟨zAy,hb3⟩
  ·have d1:decide ((16:Int)<(l.length:Int))=true:=by simp;omega
   have hff:Hid (Ey ⟨e,l⟩=false):=hid (by simp[Ey,hn])
   go_wp2
   go_ret
   exact⟨zP,zB⟩
theorem Aam:(Tryz.prog.info? 36).map (fun i=>(i.zero,i.size,i.bytes))=some (some (.int .u64 0),1,8):=zJ
def Ie(w w':World)(b:Nat):Prop:=w.heap.size≤b∧b<w'.heap.size
theorem He{l:List Int}(h:Cb.r S w [.slice a n c] l):∀x∈l,0≤x∧x≤18446744073709551615:=by
 intro x hx
 obtain⟨i,hi,rfl⟩:=List.getElem_of_mem hx
 obtain⟨b,o,_,_,_,h2⟩:=J5 h hi
 exact h2
theorem Rk(x:Be)(a:Option Addr)(n c:Nat)(w:World)(hl:Cb.r (·<w.heap.size) w [.slice a n c] x.backs)(hlen:x.backs.length≤1000000000000):
  Calls Tryz.prog 328 #[.agg #[.int .u64 x.stream,.slice a n c]] w fun r w'=>∃v,r=.returned (.agg #[.int .u64 x.stream,v])∧Cb.r (Ie w w') w' [v] x.backs∧Below w.heap.size w w':=by
 obtain⟨rfl,hm,_,_⟩:=AL hl
 obtain⟨i0,hi,hz0,hz1,hz2⟩:=A5 Aam
 have hw:=hid (He hl)
 have HL:=hid hl;clear hl
 have hone:=PI x.backs
 have HONE:=hid hone;clear hone
 go_enter Tryz.func328,Tryz.ntmps328
 have hfree:∀(W:World),W.heap.size=w.heap.size+1+1→(W.alloc (.cells #[] 36)).ownsRow (w.heap.size+1+1) 36 1 (.slice (some ⟨w.heap.size+1+1,0,none⟩) 0 0) 0 []:=fun W h=>EO W zC h.symm
 have HF:=hid hfree;clear hfree
 have hbel:∀W:World,Below w.heap.size w W→Src W a x.backs.length 1 (CX x.backs):=fun W h=>Ws (lift HL.out h)
 have HB:=hid hbel;clear hbel
 go_wp2_with (at_builtin;go_loud (refine AB rfl _ _ _ rfl (w.heap.size+1+1) 36 i0 (.int .u64 0) 1 8 Hu hi hz0 hz1 hz2 rfl zL (.slice (some ⟨w.heap.size+1+1,0,none⟩) 0 0) 0 [] rfl (HF.out _ zM) a x.backs.length c (CX x.backs) rfl (HB.out _ zB) HONE.out zO zC zS ?_;intro v1 w1 hown1 hgrow1 hat1;rw[A7,AG] at hown1;obtain⟨av,cv,hv1⟩:=AV hown1;subst hv1;have HG:=hid hgrow1;have HO:=hid hown1;have HA:=hid hat1;clear hown1 hgrow1 hat1;have q0:Blk w1 w.heap.size 215 #[.int .u64 x.stream,.slice a x.backs.length c]:=(((Blk.new w _ _).alloc _).alloc _).grown HG.out zBf;have q1:Blk w1 (w.heap.size+1) 215 #[.int .u64 0,.slice none 0 0]:=((Blk.Aai w _ _ _).alloc _).grown HG.out zBf;have c00:w1.cell? ⟨w.heap.size,0,none⟩=some (.int .u64 x.stream):=q0.cell 0;have c01:w1.cell? ⟨w.heap.size,1,none⟩=some (.slice a x.backs.length c):=q0.cell 1;have c10:w1.cell? ⟨w.heap.size+1,0,none⟩=some (.int .u64 0):=q1.cell 0;have c11:w1.cell? ⟨w.heap.size+1,1,none⟩=some (.slice none 0 0):=q1.cell 1;have f00:=q0.free 0;have f01:=q0.free 1;have f10:=q1.free 0;have f11:=q1.free 1;have Q0:=hid q0;have Q1:=hid q1;clear q0 q1))
 have hb1:Below w.heap.size w w1:=Below.grown zB HG.out zS (fun g e=>by simp only[Value.ownBlock,BV] at e;omega)
 have hr1:=Is hw.out rfl HO.out
 have hz1:w.heap.size+1+1<w1.heap.size:=by have:=HG.out.size;simp at this;omega
 clear HG HO HA
 refine Ax (v:=.agg #[.int .u64 x.stream,.slice av x.backs.length cv]) (by simp[results,Tryz.results328,go_sem,c00,c01,c10,c11]) rfl ⟨.slice av x.backs.length cv,rfl,?_,zB⟩
 refine Cb.mono (Cb.keep hr1 fun b hb=> ?_) fun b hb=>⟨zC,zI⟩
 repeat rw[At _ _ _ _ zH]
theorem Rv:(Tryz.prog.info? 215).map (fun i=>(i.zero,i.size,i.bytes))=some (some (.agg #[.int .u64 0,.slice none 0 0]),2,32):=zJ
theorem BU(W:World)(e:TypeId)(cs:List Value)(hB:w=W.alloc (.cells cs.toArray e))(hg:g=W.heap.size)(hs:cs.length=sz):Src w (some ⟨g,0,none⟩) 1 sz cs:=by
 subst hB hg
 refine⟨zC,.inr ⟨_,0,rfl,fun j u hu=> ?_⟩⟩
 rw[A7,Blk.cell (Blk.new W e cs.toArray)]
 simpa using hu
theorem Td(l:List Be)(a:Option Addr)(n c:Nat)(w:World)(hl:Cx.r (·<w.heap.size) w [.slice a n c] l)(hlen:l.length≤1000000000000)(hb:∀x∈l,x.backs.length≤1000000000000):
  Calls Tryz.prog 269 #[.slice a n c] w fun r w'=>∃v,r=.returned v∧EM.r (Ie w w') w' [v] l∧Below w.heap.size w w':=by
 obtain⟨rfl,hm,_,_⟩:=AL hl
 obtain⟨i0,hi,hz0,hz1,hz2⟩:=A5 Rv
 have HL:=hid hl;clear hl
 have HB:=hid hb;clear hb
 go_enter Tryz.func269,Tryz.ntmps269
 go_wp2
 go_loopw [3,8] (fun v i wr=>∃k:Nat,k≤l.length∧i=.int .i64 k∧A8 w.heap.size JR w.heap.size 215 2 wr v (l.take k)∧Below w.heap.size w wr) (fun _ i _=>l.length-(intOf i).toNat)
 case atStart=>exact ⟨0,Ar _,rfl,A8.nil,Below.refl _ _⟩
 case round=>
  obtain⟨k,hk,rfl,hown,hb⟩:=hrel
  by_cases hlt:k<l.length
  ·obtain⟨b,o,hA,hbb,a1,c1,hc0,hc1,hst,hd⟩:=FK HL.out hlt
   subst hA
   have X0:=(hb.cell (p:=⟨b,o+k*2,none⟩) hbb).trans hc0
   have X1:=(hb.cell (p:=⟨b,o+k*2+1,none⟩) hbb).trans hc1
   clear hc0 hc1
   have htk:=hid (AU hlt)
   have hbk:=HB.out _ (A0 hlt)
   have R:=hid (lift hd hb)
   clear hd
   generalize l[k]=z at*
   have htl:(l.take k).length=k:=zI
   generalize hT:l.take k=T at*
   clear hT
   subst htl
   have OW:=hid hown;clear hown
   have i1:(T.length:Int)<(l.length:Int):=zC
   go_wp2_with fail
   refine (Rk z _ _ _ _ (lift R.out zB) hbk).mono ?_
   rintro e w4 ⟨v4,rfl,hr4,hb4⟩
   obtain⟨a4,c4,hv4,_,_⟩:=AH hr4
   simp only[Av,AI] at hv4
   subst hv4
   have hbw4:Below wr.heap.size wr w4:=zB
   have hz4:wr.heap.size+1≤w4.heap.size:=by have:=hb4.size;simpa using this
   have O4:=OW.out.below hbw4
   have HR4:=hid (Cb.mono hr4 (S':=fun b=>wr.heap.size+1≤b∧b<w4.heap.size) fun b h=>by simpa [Ie] using h)
   clear hr4
   obtain⟨cells0,OA0⟩:=OW.out
   have hlt0:∀g,u3.ownBlock=some g→g<wr.heap.size:=fun g e=>(OA0.1.lt g e).2
   have O5:=O4.below (show Below w4.heap.size w4 (w4.alloc (.cells #[.int .u64 z.stream,.slice a4 z.backs.length c4] 215)) from zB)
   obtain⟨cells,OA⟩:=O5
   have hx:JR.r (fun b=>w.heap.size≤b∧b<(w4.alloc (.cells #[.int .u64 z.stream,.slice a4 z.backs.length c4] 215)).heap.size∧u3.ownBlock≠some b) (w4.alloc (.cells #[.int .u64 z.stream,.slice a4 z.backs.length c4] 215)) [.int .u64 z.stream,.slice a4 z.backs.length c4] z:=by
    refine Qe hst (Cb.mono (Cb.keep HR4.out fun b hb=>AN w4 _ b hb.2) fun b hb'=>⟨?_,?_,fun e=> ?_⟩)
    ·have:=hb.size;omega
    ·simp;omega
    ·have:=hlt0 b e;omega
   have hbs:=hb.size
   have hb9:Below w.heap.size w (w4.alloc (.cells #[.int .u64 z.stream,.slice a4 z.backs.length c4] 215)):=Aw (Aj hbw4 hb) _
   have hs9:w.heap.size≤(w4.alloc (.cells #[.int .u64 z.stream,.slice a4 z.backs.length c4] 215)).heap.size:=hb9.size
   have HX:=hid hx;clear hx
   have HA:=hid OA;clear OA OA0 O4 hlt0
   have HB9:=hid hb9;clear hb9
   have HS9:=hid hs9;clear hs9
   go_wp2_with (at_builtin;go_loud (refine AB rfl _ _ _ rfl w.heap.size 215 i0 (.agg #[.int .u64 0,.slice none 0 0]) 2 32 Tryz.underlying38 hi hz0 hz1 hz2 rfl zL u3 T.length _ rfl HA.out.1 (some ⟨w4.heap.size,0,none⟩) 1 1 [.int .u64 z.stream,.slice a4 z.backs.length c4] rfl (BU w4 215 _ rfl rfl rfl) (by intro u hu;simp at hu;rcases hu with rfl | rfl<;>rfl) zO zC HS9.out ?_;intro v1 w5 hown1 hgrow1 hat1;have OP:=hid (A8.push HA.out rfl HX.out hown1 hgrow1 hat1 hgrow1.size);have B5:=hid (HB9.out.grown hgrow1 HS9.out (fun g e=>(HA.out.1.lt g e).1));clear hown1 hgrow1 hat1))
   go_roundw
   case rel=>exact ⟨T.length+1,zC,zT,by rw[htk.out];exact OP.out,B5.out⟩
   case measure=>simp [intOf];omega
  ·obtain rfl:k=l.length:=by omega
   rw[Cj] at hown
   have hv:=A8.I4 (As _) hown
   have HV:=hid hv;clear hv
   go_wp2
   go_ret
   exact⟨_,rfl,HV.out,hb⟩
theorem LA:(Tryz.prog.info? 180).map (fun i=>(i.zero,i.size,i.bytes))=some (some (.agg #[.slice none 0 0,.slice none 0 0]),2,48):=zJ
end Go.Proofs.YtfddhafbhceoaaaGreat
