/- Mini: Needed by bodyReads_walk, part 10: texts put together by shake.py; no condition. -/
import Derived.Test.YtlbffbkbkajciaaGreatZT7
import Derived.Test.YtlbffbkbkajciaaGreatZT6
import Derived.Test.YtlbffbkbkajciaaGreatZT5
import Derived.Test.YtlbffbkbkajciaaGreatZT4
import Derived.Test.YtlbffbkbkajciaaGreatZT3
import Derived.Test.YtlbffbkbkajciaaGreatZT2
import Derived.Test.YtlbffbkbkajciaaGreatZT1
import Derived.Test.YtlbffbkbkajciaaGreatZT8
import Derived.Test.YtlbffbkbkajciaaGreatZT9
set_option linter.unusedVariables false
set_option linter.unusedSimpArgs false
set_option maxRecDepth 100000
set_option maxHeartbeats 6400000
namespace Go.Bs
theorem zB0{p:Prop}(h:p:=by have := (HOB.out _ e.symm).2; omega):p:=h
theorem zAn{p:Prop}(h:p:=by simp [results, Tryz.results125, go_sem, y0, y1, y2, y3, l1]):p:=h
theorem zAb{p:Prop}(h:p:=by have := (HVL.out _ e.symm).2; omega):p:=h
theorem Z7{p:Prop}(h:p:=by simp [results, Tryz.results206, go_sem, b0, b1, b2, b3, y0, y1, y2, l4, l5]):p:=h
theorem ZT{p:Prop}(h:p:=by first | (rw [Ar, hJl.out]; rfl) | rfl):p:=h
theorem ZE{p:Prop}(h:p:=by have := HBL.out; (repeat (first | with_reducible exact Below.refl _ _ | with_reducible assumption | (with_reducible refine As ?_ _) | (with_reducible refine Below.setCell ?_ (by first | omega | (simp; done) | (simp; omega)) _) | (with_reducible refine Below.drew ?_) | (with_reducible refine below_drewN ?_ _) | (refine Af (by with_reducible assumption) ?_)))):p:=h
theorem zL{p:Prop}(h:p:=by (try have := HBL.out); (repeat (first | with_reducible exact Below.refl _ _ | with_reducible assumption | (with_reducible refine As ?_ _) | (with_reducible refine Below.setCell ?_ (by first | omega | (simp; done) | (simp; omega)) _) | (with_reducible refine Below.drew ?_) | (with_reducible refine below_drewN ?_ _) | (refine Af (by with_reducible assumption) ?_)))):p:=h
end Go.Bs
namespace Go.Proofs.YtlbffbkbkajciaaGreat
open Go.RowKit Go.Bs Go.Maps
theorem Ax.Qu{α:Type}{w:World}{lo:Nat}{A:Rp α}{e:TypeId}{sz:Nat}{v:Value}{xs:List α}{g:Nat}{a b c d:Value}(h:Ax lo A lo e sz w v xs)(hg:g<lo):Ax lo A lo e sz ((((w.setCell ⟨g,0,none⟩ a).setCell ⟨g,1,none⟩ b).setCell ⟨g,2,none⟩ c).setCell ⟨g,3,none⟩ d) v xs:=
 Ax.Jk (g:=g) h ((((((Tch.refl _ w).setCell (fun _=> .inl rfl) _).setCell (fun _=> .inl rfl) _).setCell (fun _=> .inl rfl) _).setCell (fun _=> .inl rfl) _)) hg
theorem Nc(w:World)(a:Option Addr)(c:Nat)(B:List UInt8)(hl:Ah.r (·<w.heap.size) w [.slice a B.length c] B)(s:Rs)(hs:s.ok B.length)(hB:B.length≤1000000000000)(pos:Int)(hpos:0≤pos∧pos≤18446744073709551615):
  Calls Tryz.prog 125 #[CV a B.length c s,.int .u64 pos] w fun r w'=>∃v,r=.returned (.tuple #[CV a B.length c (s.links B pos).1,v])∧GA.r (Cq w w') w' [v] (s.links B pos).2∧Below w.heap.size w w':=by
 obtain⟨i0,hi,hz0,hz1,hz2⟩:=A8 Mq
 have hI:=hid (fun (W:World) (hW:Below w.heap.size w W)=>DZ W a c B (lift hl hW) s hs hB 16 zD)
 have hNm:=Rs.Fo (B:=B) (s:=s) (m:=16)
 have hNz:=Rs.Mn (B:=B) (s:=s) (m:=16)
 have hok:=Rs.DE (B:=B) hs (m:=16)
 have HL:=hid hl
 have HDL:=hid (fun (W:World) (hW:Below w.heap.size w W) (t:Rs) (ht:t.ok B.length)=>Nd W a c B (lift HL.out hW) t ht hB pos hpos 4 zD)
 unfold Rs.links;generalize s.int B 16=I at*
 obtain⟨s1,N⟩:=I
 dsimp only at*;have hN:N≤16:=zD
 have HNZ:=hid hNz
 have HOK:=hid hok
 clear hl hs hNz hok hNm;unfold CV at*;go_enter Tryz.func125,Tryz.ntmps125
 go_wp2_with fail;refine (hI.out _ zA).mono ?_
 rintro r w1 ⟨rfl,hb⟩;have B1:Blk w1 (w.heap.size+1) 60 #[.slice none 0 0,.int .i64 0,.int .i64 0,.int .i64 0]:=Blk.later zB hb
 have hbw:Below w.heap.size w w1:=zA
 have hs1:=hb.size
 simp at hs1
 have l1:=B1.lt
 have BD:Blk (w1.alloc (.cells #[.slice a B.length c,.int .i64 (s1.p:Int),.int .i64 s1.k,.int .i64 s1.f] 60)) w1.heap.size 60 #[.slice a B.length c,.int .i64 (s1.p:Int),.int .i64 s1.k,.int .i64 s1.f]:=zB
 have BR:Blk (w1.alloc (.cells #[.slice a B.length c,.int .i64 (s1.p:Int),.int .i64 s1.k,.int .i64 s1.f] 60)) (w.heap.size+1) 60 #[.slice none 0 0,.int .i64 0,.int .i64 0,.int .i64 0]:=B1.alloc _
 have hbD:Below w.heap.size w (w1.alloc (.cells #[.slice a B.length c,.int .i64 (s1.p:Int),.int .i64 s1.k,.int .i64 s1.f] 60)):=zA
 clear hb B1;go_wp2_with fail;go_loopw [8,9] (fun v i wr=>∃(k:Nat) (J:List Bv) (st:Rs),k≤N∧i=.int .i64 k∧Hid (J.length=k)∧Ax (w1.heap.size+1) Fv (w1.heap.size+1) 151 2 wr v J∧Hid (∀x∈J,0≤x.stream∧x.stream≤18446744073709551615)∧Blk wr w1.heap.size 60 #[.slice a B.length c,.int .i64 (st.p:Int),.int .i64 st.k,.int .i64 st.f]∧Blk wr (w.heap.size+1) 60 #[.slice none 0 0,.int .i64 0,.int .i64 0,.int .i64 0]∧Below w.heap.size w wr∧w1.heap.size+1≤wr.heap.size∧Hid (st.ok B.length)∧Hid (st.k=0→Rs.BX B pos N s1 none []=Rs.BX B pos (N-k) st (J.getLast?.map Bv.stream) J)∧Hid (st.k≠0→Rs.BX B pos N s1 none []=(st,[]))) (fun _ i _=>N-(intOf i).toNat)
 case atStart=>exact ⟨0,[],s1,Am _,rfl,hid rfl,Ax.nil,hid zR,BD,BR,hbD,zR,HOK,hid (fun _=>rfl),hid (fun h=>by rw[HNZ.out h];rfl)⟩
 case round=>
  obtain⟨k,J,st,hk,rfl,hJl,hown,hJb,hD,hRs,hbe,hsz,hok,hsp,hsn⟩:=hrel
  obtain⟨av,cv,rfl⟩:=Ax.form hown
  have hJ9:J.length≤16:=zAs
  obtain⟨x0,x1,x2,x3,f0,f1,f2,f3,l0⟩:=Ap hD
  obtain⟨y0,y1,y2,y3,g0,g1,g2,g3,l1⟩:=Ap hRs
  have HO:=hid hown
  have HD:=hid hD
  have HRS:=hid hRs
  have HBE:=hid hbe
  clear hown hD hRs;rcases Ba k N with hlt2 | hge
  ·have i1:(k:Int)<(N:Int):=by omega
   have d1:decide ((k:Int)<(N:Int))=true:=Ae i1
   have d1':decide (k<N)=true:=Ae hlt2
   by_cases hk0:st.k=0
   ·have dk:(st.k==(0:Int))=true:=by simp[hk0]
    have hsp1:=hsp.out hk0
    have hstep:Rs.BX B pos (N-k) st (J.getLast?.map Bv.stream) J=(if ((st.stream B (J.getLast?.map Bv.stream)).1.delta B pos 4).1.k=0 then Rs.BX B pos (N-(k+1)) ((st.stream B (J.getLast?.map Bv.stream)).1.delta B pos 4).1 (some (st.stream B (J.getLast?.map Bv.stream)).2) (J++[⟨(st.stream B (J.getLast?.map Bv.stream)).2,((st.stream B (J.getLast?.map Bv.stream)).1.delta B pos 4).2⟩]) else (((st.stream B (J.getLast?.map Bv.stream)).1.delta B pos 4).1,[])):=by
     rw[show N-k=(N-(k+1))+1 by omega];rfl
    rw[hstep] at hsp1
    have hVR:=hid (fun (W:World) (hW:Below w.heap.size w W)=>(by have:=CA W a c B (lift HL.out hW) st hok.out hB;unfold CV at this;exact this:Calls Tryz.prog 139 #[.agg #[.slice a B.length c,.int .i64 (st.p:Int),.int .i64 st.k,.int .i64 st.f]] W fun r w'=>r=.returned (.tuple #[.agg #[.slice a B.length c,.int .i64 ((st.num B).1.p:Int),.int .i64 (st.num B).1.k,.int .i64 (st.num B).1.f],.int .u64 ((st.num B).2:Int)])∧Below W.heap.size W w'))
    have hx:=Rs.Ch (B:=B) (s:=st)
    have hnok:=Rs.Cm (B:=B) hok.out
    have HFL:=hid (fun (W:World) (t:Rs)=>(by have:=Bg W a B.length c t 13 (st.p:Int) zD;unfold CV at this;exact this:Calls Tryz.prog 120 #[.agg #[.slice a B.length c,.int .i64 (t.p:Int),.int .i64 t.k,.int .i64 t.f],.int .i64 13,.int .i64 (st.p:Int)] W fun r w'=>r=.returned (.agg #[.slice a B.length c,.int .i64 ((t.fail 13 (st.p:Int)).p:Int),.int .i64 (t.fail 13 (st.p:Int)).k,.int .i64 (t.fail 13 (st.p:Int)).f])∧Below W.heap.size W w'))
    clear hsp hsn hstep hk0;by_cases hJe:J=[]
    ·subst hJe
     have hk00:k=0:=by have:=hJl.out;simpa using this.symm
     subst hk00;have hS:st.stream B (([]:List Bv).getLast?.map Bv.stream)=((st.num B).1,((st.num B).2:Int)):=rfl
     rw[hS] at hsp1
     clear hS;generalize st.num B=R at*
     obtain⟨st1,x⟩:=R
     dsimp only at*;have HOK1:=hid hnok
     have hxb:(0:Int)≤(x:Int)∧(x:Int)≤18446744073709551615:=zD
     clear hnok HFL;simp only[Bp] at*
     go_wp2_with fail;refine (hVR.out _ HBE.out).mono ?_
     rintro r w3 ⟨rfl,hb3⟩;have D3:=HD.out.later hb3
     have R3:=HRS.out.later hb3
     have HO3:=hid (Ax.below HO.out hb3)
     have hbe3:=Af hb3 HBE.out
     have hs3:=hb3.size
     obtain⟨x0,x1,x2,x3,f0,f1,f2,f3,l0⟩:=Ap D3
     have D4:Blk (w3.alloc (.cells #[.slice a B.length c,.int .i64 (st1.p:Int),.int .i64 st1.k,.int .i64 st1.f] 60)) w1.heap.size 60 #[.slice a B.length c,.int .i64 (st.p:Int),.int .i64 st.k,.int .i64 st.f]:=D3.alloc _
     have R4:Blk (w3.alloc (.cells #[.slice a B.length c,.int .i64 (st1.p:Int),.int .i64 st1.k,.int .i64 st1.f] 60)) (w.heap.size+1) 60 #[.slice none 0 0,.int .i64 0,.int .i64 0,.int .i64 0]:=R3.alloc _
     have X4:Blk (w3.alloc (.cells #[.slice a B.length c,.int .i64 (st1.p:Int),.int .i64 st1.k,.int .i64 st1.f] 60)) w3.heap.size 60 #[.slice a B.length c,.int .i64 (st1.p:Int),.int .i64 st1.k,.int .i64 st1.f]:=Blk.newAt _ _ _ rfl
     have hbe4:Below w.heap.size w (w3.alloc (.cells #[.slice a B.length c,.int .i64 (st1.p:Int),.int .i64 st1.k,.int .i64 st1.f] 60)):=zA
     have hT4:Tch (fun b=>b=w1.heap.size∨w3.heap.size≤b) w3 (w3.alloc (.cells #[.slice a B.length c,.int .i64 (st1.p:Int),.int .i64 st1.k,.int .i64 st1.f] 60)):=(Tch.refl _ _).alloc _
     have hz4:(w3.alloc (.cells #[.slice a B.length c,.int .i64 (st1.p:Int),.int .i64 st1.k,.int .i64 st1.f] 60)).heap.size=w3.heap.size+1:=zR
     have HVL:Hid (∀q,(Value.slice av 0 cv).ownBlock=some q→w1.heap.size+1≤q∧q<w3.heap.size):=hid (by
      obtain⟨cells0,OA0⟩:=HO3.out
      exact fun q e=>De OA0.1 q e)
     clear hb3 D3 R3 y0 y1 y2 y3 g0 g1 g2 g3 l1;go_wp2_with fail;have D6:=D4
     have R6:=R4
     have hbe6:=hbe4
     have hT6:=hT4
     have hz6:w3.heap.size+1≤(w3.alloc (.cells #[.slice a B.length c,.int .i64 (st1.p:Int),.int .i64 st1.k,.int .i64 st1.f] 60)).heap.size:=zD
     clear D4 R4 X4 hbe4 hT4 hz4 x0 x1 x2 x3 f0 f1 f2 f3 l0;generalize (w3.alloc (.cells #[.slice a B.length c,.int .i64 (st1.p:Int),.int .i64 st1.k,.int .i64 st1.f] 60))=w4 at*
     have HDC:=HDL.out w4 hbe6 st1 HOK1.out
     have hOKD:=Rs.E6 (B:=B) (below:=pos) (most:=4) HOK1.out
     generalize hDL:st1.delta B pos 4=DL at*
     obtain⟨D,bk⟩:=DL
     dsimp only at*;have HOKD:=hid hOKD
     have HSP:=hid hsp1
     have HSP1:Hid (D.k=0→Rs.BX B pos N s1 none []=Rs.BX B pos (N-(0+1)) D ((([]:List Bv)++[(⟨(x:Int),bk⟩:Bv)]).getLast?.map Bv.stream) (([]:List Bv)++[⟨(x:Int),bk⟩])):=hid (fun h=>by rw[HSP.out,Al h];simp)
     have HSP2:Hid (D.k≠0→Rs.BX B pos N s1 none []=(D,[])):=hid (fun h=>by rw[HSP.out,Ak h])
     clear hsp1 hOKD hDL;refine HDC.mono ?_
     rintro r w6 ⟨v6,rfl,hv6,hb6⟩;obtain⟨a6,c6,hfv,_,_⟩:=Au hv6
     simp only[Aj,At] at hfv
     subst hfv;have D7:=D6.later hb6
     have R7:=R6.later hb6
     have hbe7:=Af hb6 hbe6
     have hs6:=hb6.size
     have HO7:=hid (Ax.below (Ax.Jk HO3.out hT6 zD) hb6)
     obtain⟨cells,OA⟩:=Ax.below HO7.out (show Below w6.heap.size w6 ((w6.alloc (.cells #[.slice a B.length c,.int .i64 (D.p:Int),.int .i64 D.k,.int .i64 D.f] 60)).alloc (.cells #[.int .u64 ((x:Int)),.slice a6 bk.length c6] 151)) from zA)
     have hx8:Fv.r (fun b=>w1.heap.size+1≤b∧b<(((w6.alloc (.cells #[.slice a B.length c,.int .i64 (D.p:Int),.int .i64 D.k,.int .i64 D.f] 60)).alloc (.cells #[.int .u64 ((x:Int)),.slice a6 bk.length c6] 151))).heap.size∧(Value.slice av 0 cv).ownBlock≠some b) (((w6.alloc (.cells #[.slice a B.length c,.int .i64 (D.p:Int),.int .i64 D.k,.int .i64 D.f] 60)).alloc (.cells #[.int .u64 ((x:Int)),.slice a6 bk.length c6] 151))) [.int .u64 ((x:Int)),.slice a6 bk.length c6] ⟨(x:Int),bk⟩:=by
      refine FL (x:=⟨(x:Int),bk⟩) hxb (AK.mono (AK.keep hv6 (w':=((w6.alloc (.cells #[.slice a B.length c,.int .i64 (D.p:Int),.int .i64 D.k,.int .i64 D.f] 60)).alloc (.cells #[.int .u64 ((x:Int)),.slice a6 bk.length c6] 151))) fun b hb=>(by (repeat (first | with_reducible exact Below.refl _ _ | with_reducible assumption | (with_reducible refine As ?_ _) | (with_reducible refine Below.setCell ?_ zE _) | (with_reducible refine Below.drew ?_) | (with_reducible refine below_drewN ?_ _) | (refine Af zH ?_))):Below w6.heap.size w6 ((w6.alloc (.cells #[.slice a B.length c,.int .i64 (D.p:Int),.int .i64 D.k,.int .i64 D.f] 60)).alloc (.cells #[.int .u64 ((x:Int)),.slice a6 bk.length c6] 151))).block b hb.2) fun b hb=>⟨?_,?_,fun e=> ?_⟩)
      ·have:=hb.1;omega
      ·have:=hb.2;simp;omega
      ·have:=(HVL.out b e).2;have:=hb.1;omega
     have HX:=hid hx8
     have HA:=hid OA
     have HS9:Hid (w1.heap.size+1≤(((w6.alloc (.cells #[.slice a B.length c,.int .i64 (D.p:Int),.int .i64 D.k,.int .i64 D.f] 60)).alloc (.cells #[.int .u64 ((x:Int)),.slice a6 bk.length c6] 151))).heap.size):=hid zK
     have F8:Blk (((w6.alloc (.cells #[.slice a B.length c,.int .i64 (D.p:Int),.int .i64 D.k,.int .i64 D.f] 60)).alloc (.cells #[.int .u64 ((x:Int)),.slice a6 bk.length c6] 151))) w6.heap.size 60 #[.slice a B.length c,.int .i64 (D.p:Int),.int .i64 D.k,.int .i64 D.f]:=(Blk.newAt w6 _ _ rfl).alloc _
     clear hx8 OA HO7 hv6 hb6 D6 R6 hbe6 hT6;go_wp2_with (at_builtin;(try rw[HY.out]);go_loud (refine Aq rfl _ _ _ rfl (w1.heap.size+1) 151 i0 (.agg #[.int .u64 0,.slice none 0 0]) 2 32 Fk hi hz0 hz1 hz2 rfl zS (Value.slice av 0 cv) 0 _ rfl HA.out.1 (some ⟨w6.heap.size+1,0,none⟩) 1 1 [.int .u64 ((x:Int)),.slice a6 bk.length c6] rfl (A9 (w6.alloc (.cells #[.slice a B.length c,.int .i64 (D.p:Int),.int .i64 D.k,.int .i64 D.f] 60)) 151 _ rfl zR rfl) (by intro u hu;simp at hu;rcases hu with rfl | rfl<;>rfl) zQ zD HS9.out ?_;intro v9 w9 hown9 hgrow9 hat9;obtain⟨a9,c9,rfl⟩:=AP hown9;have OP:=hid (Ax.push HA.out rfl HX.out hown9 hgrow9 hat9 hgrow9.size);have hb9:Below (w1.heap.size+1) w6 w9:=(Below.grown ((by (repeat (first | with_reducible exact Below.refl _ _ | with_reducible assumption | (with_reducible refine As ?_ _) | (with_reducible refine Below.setCell ?_ zE _) | (with_reducible refine Below.drew ?_) | (with_reducible refine below_drewN ?_ _) | (refine Af zH ?_))):Below w6.heap.size w6 ((w6.alloc (.cells #[.slice a B.length c,.int .i64 (D.p:Int),.int .i64 D.k,.int .i64 D.f] 60)).alloc (.cells #[.int .u64 ((x:Int)),.slice a6 bk.length c6] 151))).mono zD) hgrow9 HS9.out (fun g e=>(HVL.out g e).1));have F9:Blk w9 w6.heap.size 60 #[.slice a B.length c,.int .i64 (D.p:Int),.int .i64 D.k,.int .i64 D.f]:=(hgrow9.block w6.heap.size zK (fun e=>zAb)).trans F8;have D9:=D7.below hb9 zD;have R9:=R7.below hb9 zD;have hs9:=hb9.size;have hbe9:Below w.heap.size w w9:=hbe7.trans (hb9.mono zD);clear hown9 hgrow9 hat9;obtain⟨x0,x1,x2,x3,f0,f1,f2,f3,l0⟩:=Ap D9;obtain⟨z0,z1,z2,z3,e0,e1,e2,e3,l5⟩:=Ap F9))
     have HJ9:Hid (∀t∈([]:List Bv)++[(⟨(x:Int),bk⟩:Bv)],0≤t.stream∧t.stream≤18446744073709551615):=hid (fun t ht=>by
      rw[BK,Bf] at ht
      rcases ht with ht | rfl
      ·exact hJb.out t ht
      ·exact hxb)
     have HRR:=hid R9
     have HDD:=hid D9
     have HBE9:=hid hbe9
     clear R9 D9 F9 hbe9;go_roundw
     case rel=>exact ⟨0+1,([]:List Bv)++[⟨(x:Int),bk⟩],D,zD,ZB,hid ZT,Ax.Qu OP.out zD,HJ9,(((HDD.out.set 0 _).set 1 _).set 2 _).set 3 _,Blk.far (Blk.far (Blk.far (Blk.far HRR.out zF _) zF _) zF _) zF _,(((HBE9.out.setCell zF _).setCell zF _).setCell zF _).setCell zF _,zT,HOKD,HSP1,HSP2⟩
     case measure=>simp [intOf];omega
    ·obtain⟨m,rfl⟩:∃m,k=m+1:=⟨k-1,by
      have:=hJl.out
      have:J.length≠0:=fun e=>hJe (AG e)
      omega⟩
     have hmJ:m<J.length:=zAs
     have hlast:J.getLast?.map Bv.stream=some J[m].stream:=by
      have:=hJl.out
      rw[List.getLast?_eq_getElem?,this,Nat.add_sub_cancel,AH hmJ]
      rfl
     have hzb:=hJb.out J[m] (CL hmJ)
     obtain⟨bq,o,hA,hbb,a1,c1,hc0,hc1,hst,hd⟩:=FM (Ax.slice (Ai _) HO.out) hmJ
     subst hA;have hbr:bq<wr.heap.size:=hbb.2
     have hbl:=hbb.1
     rw[hlast] at hsp1
     clear hlast hd hc1 hbb hJe;generalize J[m]=z at*
     have i1':(m:Int)+1<(N:Int):=zD
     have i2:(m:Int)<(J.length:Int):=zD
     have d2:decide ((m:Int)+1<(N:Int))=true:=Ae i1'
     have v0:0≤18446744073709551615-z.stream:=zD
     have v0':18446744073709551615-z.stream≤18446744073709551615:=zD
     by_cases hk1:(st.num B).1.k=0
     ·by_cases hf:18446744073709551615-z.stream≤((st.num B).2:Int)
      ·have hS:(st.stream B (some z.stream)).1=(st.num B).1.fail 13 st.p:=by
        simp only[Rs.stream]
        rw[Al hf]
       rw[hS] at hsp1
       clear hS;generalize (st.stream B (some z.stream)).2=sv at*
       generalize st.num B=R at*
       obtain⟨st1,x⟩:=R
       dsimp only at*;have dk1:(st1.k==(0:Int))=true:=zBh
       have hfk:(st1.fail 13 (st.p:Int)).k≠0:=Rs.By zD
       have HOK1:=hid (Rs.BH hnok (c:=13) (at_:=(st.p:Int)) zD)
       have HF:=hid (fun (W:World)=>HFL.out W st1)
       rw[Rs.Ef hfk] at hsp1
       dsimp only at hsp1;rw[Ak hfk] at hsp1
       clear hk1 HFL hnok;generalize st1.fail 13 (st.p:Int)=st2 at*
       by_cases hlt3:18446744073709551615-z.stream<(x:Int)
       ·have d4:decide (18446744073709551615-z.stream<(x:Int))=true:=Ae hlt3
        clear hlt3 hf;obtain⟨y,hy,hy0,hy1⟩:∃y,IntKind.u64.wrap (IntKind.u64.wrap (z.stream+(x:Int))+1)=y∧0≤y∧y≤18446744073709551615:=⟨_,rfl,(Ct _).1,(Ct _).2⟩
        have HY:=hid hy
        have hxb:0≤y∧y≤18446744073709551615:=⟨hy0,hy1⟩
        clear hy;go_wp2_with fail;refine (hVR.out _ HBE.out).mono ?_
        rintro r w3 ⟨rfl,hb3⟩;have D3:=HD.out.later hb3
        have R3:=HRS.out.later hb3
        have HO3:=hid (Ax.below HO.out hb3)
        have hbe3:=Af hb3 HBE.out
        have hs3:=hb3.size
        have X0':=(hb3.cell (p:=⟨bq,o+m*2,none⟩) hbr).trans hc0
        have hbr3:bq<w3.heap.size:=zD
        clear hc0;obtain⟨x0,x1,x2,x3,f0,f1,f2,f3,l0⟩:=Ap D3
        have D4:Blk (w3.alloc (.cells #[.slice a B.length c,.int .i64 (st1.p:Int),.int .i64 st1.k,.int .i64 st1.f] 60)) w1.heap.size 60 #[.slice a B.length c,.int .i64 (st.p:Int),.int .i64 st.k,.int .i64 st.f]:=D3.alloc _
        have R4:Blk (w3.alloc (.cells #[.slice a B.length c,.int .i64 (st1.p:Int),.int .i64 st1.k,.int .i64 st1.f] 60)) (w.heap.size+1) 60 #[.slice none 0 0,.int .i64 0,.int .i64 0,.int .i64 0]:=R3.alloc _
        have X4:Blk (w3.alloc (.cells #[.slice a B.length c,.int .i64 (st1.p:Int),.int .i64 st1.k,.int .i64 st1.f] 60)) w3.heap.size 60 #[.slice a B.length c,.int .i64 (st1.p:Int),.int .i64 st1.k,.int .i64 st1.f]:=Blk.newAt _ _ _ rfl
        have hbe4:Below w.heap.size w (w3.alloc (.cells #[.slice a B.length c,.int .i64 (st1.p:Int),.int .i64 st1.k,.int .i64 st1.f] 60)):=zA
        have hT4:Tch (fun b=>b=w1.heap.size∨w3.heap.size≤b) w3 (w3.alloc (.cells #[.slice a B.length c,.int .i64 (st1.p:Int),.int .i64 st1.k,.int .i64 st1.f] 60)):=(Tch.refl _ _).alloc _
        have hz4:(w3.alloc (.cells #[.slice a B.length c,.int .i64 (st1.p:Int),.int .i64 st1.k,.int .i64 st1.f] 60)).heap.size=w3.heap.size+1:=zR
        have HVL:Hid (∀q,(Value.slice (some ⟨bq,o,none⟩) J.length cv).ownBlock=some q→w1.heap.size+1≤q∧q<w3.heap.size):=hid (by
         obtain⟨cells0,OA0⟩:=HO3.out
         exact fun q e=>De OA0.1 q e)
        clear hb3 D3 R3 y0 y1 y2 y3 g0 g1 g2 g3 l1;go_wp2_with fail;refine (HF.out _).mono ?_
        rintro r w5 ⟨rfl,hb5⟩;have D5:=D4.later hb5
        have R5:=R4.later hb5
        have X5:=X4.later hb5
        have hbe5:=Af hb5 hbe4
        have hs5:=hb5.size
        have hT5:=hT4.trans (Tch.BV (F:=fun b=>b=w1.heap.size∨w3.heap.size≤b) hb5) fun b _ h=>h
        clear x0 x1 x2 x3 f0 f1 f2 f3 l0;obtain⟨x0,x1,x2,x3,f0,f1,f2,f3,l0⟩:=Ap X5
        go_wp2_with fail;have D6:Blk ((((w5.setCell ⟨w3.heap.size,0,none⟩ (.slice a B.length c)).setCell ⟨w3.heap.size,1,none⟩ (.int .i64 (st2.p:Int))).setCell ⟨w3.heap.size,2,none⟩ (.int .i64 st2.k)).setCell ⟨w3.heap.size,3,none⟩ (.int .i64 st2.f)) w1.heap.size 60 #[.slice a B.length c,.int .i64 (st.p:Int),.int .i64 st.k,.int .i64 st.f]:=Blk.far (Blk.far (Blk.far (Blk.far D5 zF _) zF _) zF _) zF _
        have R6:Blk ((((w5.setCell ⟨w3.heap.size,0,none⟩ (.slice a B.length c)).setCell ⟨w3.heap.size,1,none⟩ (.int .i64 (st2.p:Int))).setCell ⟨w3.heap.size,2,none⟩ (.int .i64 st2.k)).setCell ⟨w3.heap.size,3,none⟩ (.int .i64 st2.f)) (w.heap.size+1) 60 #[.slice none 0 0,.int .i64 0,.int .i64 0,.int .i64 0]:=Blk.far (Blk.far (Blk.far (Blk.far R5 zF _) zF _) zF _) zF _
        have hbe6:Below w.heap.size w ((((w5.setCell ⟨w3.heap.size,0,none⟩ (.slice a B.length c)).setCell ⟨w3.heap.size,1,none⟩ (.int .i64 (st2.p:Int))).setCell ⟨w3.heap.size,2,none⟩ (.int .i64 st2.k)).setCell ⟨w3.heap.size,3,none⟩ (.int .i64 st2.f)):=(((hbe5.setCell zF _).setCell zF _).setCell zF _).setCell zF _
        have hT6:Tch (fun b=>b=w1.heap.size∨w3.heap.size≤b) w3 ((((w5.setCell ⟨w3.heap.size,0,none⟩ (.slice a B.length c)).setCell ⟨w3.heap.size,1,none⟩ (.int .i64 (st2.p:Int))).setCell ⟨w3.heap.size,2,none⟩ (.int .i64 st2.k)).setCell ⟨w3.heap.size,3,none⟩ (.int .i64 st2.f)):=(((hT5.setCell (fun h=>ZZ) _).setCell (fun h=>ZZ) _).setCell (fun h=>ZZ) _).setCell (fun h=>ZZ) _
        have hz6:w3.heap.size+1≤(((((w5.setCell ⟨w3.heap.size,0,none⟩ (.slice a B.length c)).setCell ⟨w3.heap.size,1,none⟩ (.int .i64 (st2.p:Int))).setCell ⟨w3.heap.size,2,none⟩ (.int .i64 st2.k)).setCell ⟨w3.heap.size,3,none⟩ (.int .i64 st2.f))).heap.size:=zT
        clear D4 R4 X4 hbe4 D5 R5 X5 hbe5 hb5 x0 x1 x2 x3 f0 f1 f2 f3 l0 hz4 hT4 hT5;generalize ((((w5.setCell ⟨w3.heap.size,0,none⟩ (.slice a B.length c)).setCell ⟨w3.heap.size,1,none⟩ (.int .i64 (st2.p:Int))).setCell ⟨w3.heap.size,2,none⟩ (.int .i64 st2.k)).setCell ⟨w3.heap.size,3,none⟩ (.int .i64 st2.f))=w4 at*
        have HDC:=HDL.out w4 hbe6 st2 HOK1.out
        have hOKD:=Rs.E6 (B:=B) (below:=pos) (most:=4) HOK1.out
        generalize hDL:st2.delta B pos 4=DL at*
        obtain⟨D,bk⟩:=DL
        dsimp only at*;have HOKD:=hid hOKD
        have hDE:D=st2:=by
         rw[Rs.Ef hfk] at hDL
         exact (Ca Prod.fst hDL).symm
        have HSP:Hid (Rs.BX B pos N s1 none []=(D,[])):=hid (by rw[hDE];exact hsp1)
        have hfk':D.k≠0:=by rw[hDE];exact hfk
        have HFK:=hid hfk'
        clear hDE hfk hfk';have HSP1:Hid (D.k=0→Rs.BX B pos N s1 none []=Rs.BX B pos (N-(m+1+1)) D ((J++[(⟨y,bk⟩:Bv)]).getLast?.map Bv.stream) (J++[⟨y,bk⟩])):=hid (fun h=>absurd h HFK.out)
        have HSP2:Hid (D.k≠0→Rs.BX B pos N s1 none []=(D,[])):=hid (fun _=>HSP.out)
        clear hsp1 hOKD hDL;refine HDC.mono ?_
        rintro r w6 ⟨v6,rfl,hv6,hb6⟩;obtain⟨a6,c6,hfv,_,_⟩:=Au hv6
        simp only[Aj,At] at hfv
        subst hfv;have D7:=D6.later hb6
        have R7:=R6.later hb6
        have hbe7:=Af hb6 hbe6
        have hs6:=hb6.size
        have HO7:=hid (Ax.below (Ax.Jk HO3.out hT6 zD) hb6)
        obtain⟨cells,OA⟩:=Ax.below HO7.out (show Below w6.heap.size w6 ((w6.alloc (.cells #[.slice a B.length c,.int .i64 (D.p:Int),.int .i64 D.k,.int .i64 D.f] 60)).alloc (.cells #[.int .u64 (y),.slice a6 bk.length c6] 151)) from zA)
        have hx8:Fv.r (fun b=>w1.heap.size+1≤b∧b<(((w6.alloc (.cells #[.slice a B.length c,.int .i64 (D.p:Int),.int .i64 D.k,.int .i64 D.f] 60)).alloc (.cells #[.int .u64 (y),.slice a6 bk.length c6] 151))).heap.size∧(Value.slice (some ⟨bq,o,none⟩) J.length cv).ownBlock≠some b) (((w6.alloc (.cells #[.slice a B.length c,.int .i64 (D.p:Int),.int .i64 D.k,.int .i64 D.f] 60)).alloc (.cells #[.int .u64 (y),.slice a6 bk.length c6] 151))) [.int .u64 (y),.slice a6 bk.length c6] ⟨y,bk⟩:=by
         refine FL (x:=⟨y,bk⟩) hxb (AK.mono (AK.keep hv6 (w':=((w6.alloc (.cells #[.slice a B.length c,.int .i64 (D.p:Int),.int .i64 D.k,.int .i64 D.f] 60)).alloc (.cells #[.int .u64 (y),.slice a6 bk.length c6] 151))) fun b hb=>(by (repeat (first | with_reducible exact Below.refl _ _ | with_reducible assumption | (with_reducible refine As ?_ _) | (with_reducible refine Below.setCell ?_ zE _) | (with_reducible refine Below.drew ?_) | (with_reducible refine below_drewN ?_ _) | (refine Af zH ?_))):Below w6.heap.size w6 ((w6.alloc (.cells #[.slice a B.length c,.int .i64 (D.p:Int),.int .i64 D.k,.int .i64 D.f] 60)).alloc (.cells #[.int .u64 (y),.slice a6 bk.length c6] 151))).block b hb.2) fun b hb=>⟨?_,?_,fun e=> ?_⟩)
         ·have:=hb.1;omega
         ·have:=hb.2;simp;omega
         ·have:=(HVL.out b e).2;have:=hb.1;omega
        have HX:=hid hx8
        have HA:=hid OA
        have HS9:Hid (w1.heap.size+1≤(((w6.alloc (.cells #[.slice a B.length c,.int .i64 (D.p:Int),.int .i64 D.k,.int .i64 D.f] 60)).alloc (.cells #[.int .u64 (y),.slice a6 bk.length c6] 151))).heap.size):=hid zK
        have F8:Blk (((w6.alloc (.cells #[.slice a B.length c,.int .i64 (D.p:Int),.int .i64 D.k,.int .i64 D.f] 60)).alloc (.cells #[.int .u64 (y),.slice a6 bk.length c6] 151))) w6.heap.size 60 #[.slice a B.length c,.int .i64 (D.p:Int),.int .i64 D.k,.int .i64 D.f]:=(Blk.newAt w6 _ _ rfl).alloc _
        clear hx8 OA HO7 hv6 hb6 D6 R6 hbe6 hT6;go_wp2_with (at_builtin;(try rw[HY.out]);go_loud (refine Aq rfl _ _ _ rfl (w1.heap.size+1) 151 i0 (.agg #[.int .u64 0,.slice none 0 0]) 2 32 Fk hi hz0 hz1 hz2 rfl zS (Value.slice (some ⟨bq,o,none⟩) J.length cv) J.length _ rfl HA.out.1 (some ⟨w6.heap.size+1,0,none⟩) 1 1 [.int .u64 (y),.slice a6 bk.length c6] rfl (A9 (w6.alloc (.cells #[.slice a B.length c,.int .i64 (D.p:Int),.int .i64 D.k,.int .i64 D.f] 60)) 151 _ rfl zR rfl) (by intro u hu;simp at hu;rcases hu with rfl | rfl<;>rfl) zQ zD HS9.out ?_;intro v9 w9 hown9 hgrow9 hat9;obtain⟨a9,c9,rfl⟩:=AP hown9;have OP:=hid (Ax.push HA.out rfl HX.out hown9 hgrow9 hat9 hgrow9.size);have hb9:Below (w1.heap.size+1) w6 w9:=(Below.grown ((by (repeat (first | with_reducible exact Below.refl _ _ | with_reducible assumption | (with_reducible refine As ?_ _) | (with_reducible refine Below.setCell ?_ zE _) | (with_reducible refine Below.drew ?_) | (with_reducible refine below_drewN ?_ _) | (refine Af zH ?_))):Below w6.heap.size w6 ((w6.alloc (.cells #[.slice a B.length c,.int .i64 (D.p:Int),.int .i64 D.k,.int .i64 D.f] 60)).alloc (.cells #[.int .u64 (y),.slice a6 bk.length c6] 151))).mono zD) hgrow9 HS9.out (fun g e=>(HVL.out g e).1));have F9:Blk w9 w6.heap.size 60 #[.slice a B.length c,.int .i64 (D.p:Int),.int .i64 D.k,.int .i64 D.f]:=(hgrow9.block w6.heap.size zK (fun e=>zAb)).trans F8;have D9:=D7.below hb9 zD;have R9:=R7.below hb9 zD;have hs9:=hb9.size;have hbe9:Below w.heap.size w w9:=hbe7.trans (hb9.mono zD);clear hown9 hgrow9 hat9;obtain⟨x0,x1,x2,x3,f0,f1,f2,f3,l0⟩:=Ap D9;obtain⟨z0,z1,z2,z3,e0,e1,e2,e3,l5⟩:=Ap F9))
        have HJ9:Hid (∀t∈J++[(⟨y,bk⟩:Bv)],0≤t.stream∧t.stream≤18446744073709551615):=hid (fun t ht=>by
         rw[BK,Bf] at ht
         rcases ht with ht | rfl
         ·exact hJb.out t ht
         ·exact hxb)
        have HRR:=hid R9
        have HDD:=hid D9
        have HBE9:=hid hbe9
        clear R9 D9 F9 hbe9;go_roundw
        case rel=>exact ⟨m+1+1,J++[⟨y,bk⟩],D,zD,ZB,hid ZT,Ax.Qu OP.out zD,HJ9,(((HDD.out.set 0 _).set 1 _).set 2 _).set 3 _,Blk.far (Blk.far (Blk.far (Blk.far HRR.out zF _) zF _) zF _) zF _,(((HBE9.out.setCell zF _).setCell zF _).setCell zF _).setCell zF _,zT,HOKD,HSP1,HSP2⟩
        case measure=>simp [intOf];omega
       ·have d4:decide (18446744073709551615-z.stream<(x:Int))=false:=Ad hlt3
        have hxe:(x:Int)=18446744073709551615-z.stream:=zD
        have d5:((x:Int)==18446744073709551615-z.stream)=true:=by simp[hxe]
        have d5':decide ((x:Int)=18446744073709551615-z.stream)=true:=Ae hxe
        have HXE:=hid hxe
        clear hlt3 hf hxe;obtain⟨y,hy,hy0,hy1⟩:∃y,IntKind.u64.wrap (IntKind.u64.wrap (z.stream+(x:Int))+1)=y∧0≤y∧y≤18446744073709551615:=⟨_,rfl,(Ct _).1,(Ct _).2⟩
        have HY:=hid hy
        have hxb:0≤y∧y≤18446744073709551615:=⟨hy0,hy1⟩
        clear hy;go_wp2_with fail;refine (hVR.out _ HBE.out).mono ?_
        rintro r w3 ⟨rfl,hb3⟩;have D3:=HD.out.later hb3
        have R3:=HRS.out.later hb3
        have HO3:=hid (Ax.below HO.out hb3)
        have hbe3:=Af hb3 HBE.out
        have hs3:=hb3.size
        have X0':=(hb3.cell (p:=⟨bq,o+m*2,none⟩) hbr).trans hc0
        have hbr3:bq<w3.heap.size:=zD
        clear hc0;obtain⟨x0,x1,x2,x3,f0,f1,f2,f3,l0⟩:=Ap D3
        have D4:Blk (w3.alloc (.cells #[.slice a B.length c,.int .i64 (st1.p:Int),.int .i64 st1.k,.int .i64 st1.f] 60)) w1.heap.size 60 #[.slice a B.length c,.int .i64 (st.p:Int),.int .i64 st.k,.int .i64 st.f]:=D3.alloc _
        have R4:Blk (w3.alloc (.cells #[.slice a B.length c,.int .i64 (st1.p:Int),.int .i64 st1.k,.int .i64 st1.f] 60)) (w.heap.size+1) 60 #[.slice none 0 0,.int .i64 0,.int .i64 0,.int .i64 0]:=R3.alloc _
        have X4:Blk (w3.alloc (.cells #[.slice a B.length c,.int .i64 (st1.p:Int),.int .i64 st1.k,.int .i64 st1.f] 60)) w3.heap.size 60 #[.slice a B.length c,.int .i64 (st1.p:Int),.int .i64 st1.k,.int .i64 st1.f]:=Blk.newAt _ _ _ rfl
        have hbe4:Below w.heap.size w (w3.alloc (.cells #[.slice a B.length c,.int .i64 (st1.p:Int),.int .i64 st1.k,.int .i64 st1.f] 60)):=zA
        have hT4:Tch (fun b=>b=w1.heap.size∨w3.heap.size≤b) w3 (w3.alloc (.cells #[.slice a B.length c,.int .i64 (st1.p:Int),.int .i64 st1.k,.int .i64 st1.f] 60)):=(Tch.refl _ _).alloc _
        have hz4:(w3.alloc (.cells #[.slice a B.length c,.int .i64 (st1.p:Int),.int .i64 st1.k,.int .i64 st1.f] 60)).heap.size=w3.heap.size+1:=zR
        have HVL:Hid (∀q,(Value.slice (some ⟨bq,o,none⟩) J.length cv).ownBlock=some q→w1.heap.size+1≤q∧q<w3.heap.size):=hid (by
         obtain⟨cells0,OA0⟩:=HO3.out
         exact fun q e=>De OA0.1 q e)
        clear hb3 D3 R3 y0 y1 y2 y3 g0 g1 g2 g3 l1;go_wp2_with fail;refine (HF.out _).mono ?_
        rintro r w5 ⟨rfl,hb5⟩;have D5:=D4.later hb5
        have R5:=R4.later hb5
        have X5:=X4.later hb5
        have hbe5:=Af hb5 hbe4
        have hs5:=hb5.size
        have hT5:=hT4.trans (Tch.BV (F:=fun b=>b=w1.heap.size∨w3.heap.size≤b) hb5) fun b _ h=>h
        clear x0 x1 x2 x3 f0 f1 f2 f3 l0;obtain⟨x0,x1,x2,x3,f0,f1,f2,f3,l0⟩:=Ap X5
        go_wp2_with fail;have D6:Blk ((((w5.setCell ⟨w3.heap.size,0,none⟩ (.slice a B.length c)).setCell ⟨w3.heap.size,1,none⟩ (.int .i64 (st2.p:Int))).setCell ⟨w3.heap.size,2,none⟩ (.int .i64 st2.k)).setCell ⟨w3.heap.size,3,none⟩ (.int .i64 st2.f)) w1.heap.size 60 #[.slice a B.length c,.int .i64 (st.p:Int),.int .i64 st.k,.int .i64 st.f]:=Blk.far (Blk.far (Blk.far (Blk.far D5 zF _) zF _) zF _) zF _
        have R6:Blk ((((w5.setCell ⟨w3.heap.size,0,none⟩ (.slice a B.length c)).setCell ⟨w3.heap.size,1,none⟩ (.int .i64 (st2.p:Int))).setCell ⟨w3.heap.size,2,none⟩ (.int .i64 st2.k)).setCell ⟨w3.heap.size,3,none⟩ (.int .i64 st2.f)) (w.heap.size+1) 60 #[.slice none 0 0,.int .i64 0,.int .i64 0,.int .i64 0]:=Blk.far (Blk.far (Blk.far (Blk.far R5 zF _) zF _) zF _) zF _
        have hbe6:Below w.heap.size w ((((w5.setCell ⟨w3.heap.size,0,none⟩ (.slice a B.length c)).setCell ⟨w3.heap.size,1,none⟩ (.int .i64 (st2.p:Int))).setCell ⟨w3.heap.size,2,none⟩ (.int .i64 st2.k)).setCell ⟨w3.heap.size,3,none⟩ (.int .i64 st2.f)):=(((hbe5.setCell zF _).setCell zF _).setCell zF _).setCell zF _
        have hT6:Tch (fun b=>b=w1.heap.size∨w3.heap.size≤b) w3 ((((w5.setCell ⟨w3.heap.size,0,none⟩ (.slice a B.length c)).setCell ⟨w3.heap.size,1,none⟩ (.int .i64 (st2.p:Int))).setCell ⟨w3.heap.size,2,none⟩ (.int .i64 st2.k)).setCell ⟨w3.heap.size,3,none⟩ (.int .i64 st2.f)):=(((hT5.setCell (fun h=>ZZ) _).setCell (fun h=>ZZ) _).setCell (fun h=>ZZ) _).setCell (fun h=>ZZ) _
        have hz6:w3.heap.size+1≤(((((w5.setCell ⟨w3.heap.size,0,none⟩ (.slice a B.length c)).setCell ⟨w3.heap.size,1,none⟩ (.int .i64 (st2.p:Int))).setCell ⟨w3.heap.size,2,none⟩ (.int .i64 st2.k)).setCell ⟨w3.heap.size,3,none⟩ (.int .i64 st2.f))).heap.size:=zT
        clear D4 R4 X4 hbe4 D5 R5 X5 hbe5 hb5 x0 x1 x2 x3 f0 f1 f2 f3 l0 hz4 hT4 hT5;generalize ((((w5.setCell ⟨w3.heap.size,0,none⟩ (.slice a B.length c)).setCell ⟨w3.heap.size,1,none⟩ (.int .i64 (st2.p:Int))).setCell ⟨w3.heap.size,2,none⟩ (.int .i64 st2.k)).setCell ⟨w3.heap.size,3,none⟩ (.int .i64 st2.f))=w4 at*
        have HDC:=HDL.out w4 hbe6 st2 HOK1.out
        have hOKD:=Rs.E6 (B:=B) (below:=pos) (most:=4) HOK1.out
        generalize hDL:st2.delta B pos 4=DL at*
        obtain⟨D,bk⟩:=DL
        dsimp only at*;have HOKD:=hid hOKD
        have hDE:D=st2:=by
         rw[Rs.Ef hfk] at hDL
         exact (Ca Prod.fst hDL).symm
        have HSP:Hid (Rs.BX B pos N s1 none []=(D,[])):=hid (by rw[hDE];exact hsp1)
        have hfk':D.k≠0:=by rw[hDE];exact hfk
        have HFK:=hid hfk'
        clear hDE hfk hfk';have HSP1:Hid (D.k=0→Rs.BX B pos N s1 none []=Rs.BX B pos (N-(m+1+1)) D ((J++[(⟨y,bk⟩:Bv)]).getLast?.map Bv.stream) (J++[⟨y,bk⟩])):=hid (fun h=>absurd h HFK.out)
        have HSP2:Hid (D.k≠0→Rs.BX B pos N s1 none []=(D,[])):=hid (fun _=>HSP.out)
        clear hsp1 hOKD hDL;refine HDC.mono ?_
        rintro r w6 ⟨v6,rfl,hv6,hb6⟩;obtain⟨a6,c6,hfv,_,_⟩:=Au hv6
        simp only[Aj,At] at hfv
        subst hfv;have D7:=D6.later hb6
        have R7:=R6.later hb6
        have hbe7:=Af hb6 hbe6
        have hs6:=hb6.size
        have HO7:=hid (Ax.below (Ax.Jk HO3.out hT6 zD) hb6)
        obtain⟨cells,OA⟩:=Ax.below HO7.out (show Below w6.heap.size w6 ((w6.alloc (.cells #[.slice a B.length c,.int .i64 (D.p:Int),.int .i64 D.k,.int .i64 D.f] 60)).alloc (.cells #[.int .u64 (y),.slice a6 bk.length c6] 151)) from zA)
        have hx8:Fv.r (fun b=>w1.heap.size+1≤b∧b<(((w6.alloc (.cells #[.slice a B.length c,.int .i64 (D.p:Int),.int .i64 D.k,.int .i64 D.f] 60)).alloc (.cells #[.int .u64 (y),.slice a6 bk.length c6] 151))).heap.size∧(Value.slice (some ⟨bq,o,none⟩) J.length cv).ownBlock≠some b) (((w6.alloc (.cells #[.slice a B.length c,.int .i64 (D.p:Int),.int .i64 D.k,.int .i64 D.f] 60)).alloc (.cells #[.int .u64 (y),.slice a6 bk.length c6] 151))) [.int .u64 (y),.slice a6 bk.length c6] ⟨y,bk⟩:=by
         refine FL (x:=⟨y,bk⟩) hxb (AK.mono (AK.keep hv6 (w':=((w6.alloc (.cells #[.slice a B.length c,.int .i64 (D.p:Int),.int .i64 D.k,.int .i64 D.f] 60)).alloc (.cells #[.int .u64 (y),.slice a6 bk.length c6] 151))) fun b hb=>(by (repeat (first | with_reducible exact Below.refl _ _ | with_reducible assumption | (with_reducible refine As ?_ _) | (with_reducible refine Below.setCell ?_ zE _) | (with_reducible refine Below.drew ?_) | (with_reducible refine below_drewN ?_ _) | (refine Af zH ?_))):Below w6.heap.size w6 ((w6.alloc (.cells #[.slice a B.length c,.int .i64 (D.p:Int),.int .i64 D.k,.int .i64 D.f] 60)).alloc (.cells #[.int .u64 (y),.slice a6 bk.length c6] 151))).block b hb.2) fun b hb=>⟨?_,?_,fun e=> ?_⟩)
         ·have:=hb.1;omega
         ·have:=hb.2;simp;omega
         ·have:=(HVL.out b e).2;have:=hb.1;omega
        have HX:=hid hx8
        have HA:=hid OA
        have HS9:Hid (w1.heap.size+1≤(((w6.alloc (.cells #[.slice a B.length c,.int .i64 (D.p:Int),.int .i64 D.k,.int .i64 D.f] 60)).alloc (.cells #[.int .u64 (y),.slice a6 bk.length c6] 151))).heap.size):=hid zK
        have F8:Blk (((w6.alloc (.cells #[.slice a B.length c,.int .i64 (D.p:Int),.int .i64 D.k,.int .i64 D.f] 60)).alloc (.cells #[.int .u64 (y),.slice a6 bk.length c6] 151))) w6.heap.size 60 #[.slice a B.length c,.int .i64 (D.p:Int),.int .i64 D.k,.int .i64 D.f]:=(Blk.newAt w6 _ _ rfl).alloc _
        clear hx8 OA HO7 hv6 hb6 D6 R6 hbe6 hT6;go_wp2_with (at_builtin;(try rw[HY.out]);go_loud (refine Aq rfl _ _ _ rfl (w1.heap.size+1) 151 i0 (.agg #[.int .u64 0,.slice none 0 0]) 2 32 Fk hi hz0 hz1 hz2 rfl zS (Value.slice (some ⟨bq,o,none⟩) J.length cv) J.length _ rfl HA.out.1 (some ⟨w6.heap.size+1,0,none⟩) 1 1 [.int .u64 (y),.slice a6 bk.length c6] rfl (A9 (w6.alloc (.cells #[.slice a B.length c,.int .i64 (D.p:Int),.int .i64 D.k,.int .i64 D.f] 60)) 151 _ rfl zR rfl) (by intro u hu;simp at hu;rcases hu with rfl | rfl<;>rfl) zQ zD HS9.out ?_;intro v9 w9 hown9 hgrow9 hat9;obtain⟨a9,c9,rfl⟩:=AP hown9;have OP:=hid (Ax.push HA.out rfl HX.out hown9 hgrow9 hat9 hgrow9.size);have hb9:Below (w1.heap.size+1) w6 w9:=(Below.grown ((by (repeat (first | with_reducible exact Below.refl _ _ | with_reducible assumption | (with_reducible refine As ?_ _) | (with_reducible refine Below.setCell ?_ zE _) | (with_reducible refine Below.drew ?_) | (with_reducible refine below_drewN ?_ _) | (refine Af zH ?_))):Below w6.heap.size w6 ((w6.alloc (.cells #[.slice a B.length c,.int .i64 (D.p:Int),.int .i64 D.k,.int .i64 D.f] 60)).alloc (.cells #[.int .u64 (y),.slice a6 bk.length c6] 151))).mono zD) hgrow9 HS9.out (fun g e=>(HVL.out g e).1));have F9:Blk w9 w6.heap.size 60 #[.slice a B.length c,.int .i64 (D.p:Int),.int .i64 D.k,.int .i64 D.f]:=(hgrow9.block w6.heap.size zK (fun e=>zAb)).trans F8;have D9:=D7.below hb9 zD;have R9:=R7.below hb9 zD;have hs9:=hb9.size;have hbe9:Below w.heap.size w w9:=hbe7.trans (hb9.mono zD);clear hown9 hgrow9 hat9;obtain⟨x0,x1,x2,x3,f0,f1,f2,f3,l0⟩:=Ap D9;obtain⟨z0,z1,z2,z3,e0,e1,e2,e3,l5⟩:=Ap F9))
        have HJ9:Hid (∀t∈J++[(⟨y,bk⟩:Bv)],0≤t.stream∧t.stream≤18446744073709551615):=hid (fun t ht=>by
         rw[BK,Bf] at ht
         rcases ht with ht | rfl
         ·exact hJb.out t ht
         ·exact hxb)
        have HRR:=hid R9
        have HDD:=hid D9
        have HBE9:=hid hbe9
        clear R9 D9 F9 hbe9;go_roundw
        case rel=>exact ⟨m+1+1,J++[⟨y,bk⟩],D,zD,ZB,hid ZT,Ax.Qu OP.out zD,HJ9,(((HDD.out.set 0 _).set 1 _).set 2 _).set 3 _,Blk.far (Blk.far (Blk.far (Blk.far HRR.out zF _) zF _) zF _) zF _,(((HBE9.out.setCell zF _).setCell zF _).setCell zF _).setCell zF _,zT,HOKD,HSP1,HSP2⟩
        case measure=>simp [intOf];omega
      ·have hS:st.stream B (some z.stream)=((st.num B).1,z.stream+((st.num B).2:Int)+1):=by
        simp only[Rs.stream]
        rw[Ak hf,Int.add_comm ((st.num B).2:Int)]
       rw[hS] at hsp1
       clear hS;generalize st.num B=R at*
       obtain⟨st1,x⟩:=R
       dsimp only at*;have dk1:(st1.k==(0:Int))=true:=zBh
       have HOK1:=hid hnok
       have d4:decide (18446744073709551615-z.stream<(x:Int))=false:=Ad zD
       have hxe:¬(x:Int)=18446744073709551615-z.stream:=zD
       have d5:((x:Int)==18446744073709551615-z.stream)=false:=by simp[hxe]
       have v1:0≤z.stream+(x:Int):=zD
       have v2:z.stream+(x:Int)≤18446744073709551615:=zD
       have v3:0≤z.stream+(x:Int)+1:=zD
       have v4:z.stream+(x:Int)+1≤18446744073709551615:=zD
       have hxb:0≤z.stream+(x:Int)+1∧z.stream+(x:Int)+1≤18446744073709551615:=⟨v3,v4⟩
       clear hk1 HFL hnok hf hxe;go_wp2_with fail;refine (hVR.out _ HBE.out).mono ?_
       rintro r w3 ⟨rfl,hb3⟩;have D3:=HD.out.later hb3
       have R3:=HRS.out.later hb3
       have HO3:=hid (Ax.below HO.out hb3)
       have hbe3:=Af hb3 HBE.out
       have hs3:=hb3.size
       have X0':=(hb3.cell (p:=⟨bq,o+m*2,none⟩) hbr).trans hc0
       have hbr3:bq<w3.heap.size:=zD
       clear hc0;obtain⟨x0,x1,x2,x3,f0,f1,f2,f3,l0⟩:=Ap D3
       have D4:Blk (w3.alloc (.cells #[.slice a B.length c,.int .i64 (st1.p:Int),.int .i64 st1.k,.int .i64 st1.f] 60)) w1.heap.size 60 #[.slice a B.length c,.int .i64 (st.p:Int),.int .i64 st.k,.int .i64 st.f]:=D3.alloc _
       have R4:Blk (w3.alloc (.cells #[.slice a B.length c,.int .i64 (st1.p:Int),.int .i64 st1.k,.int .i64 st1.f] 60)) (w.heap.size+1) 60 #[.slice none 0 0,.int .i64 0,.int .i64 0,.int .i64 0]:=R3.alloc _
       have X4:Blk (w3.alloc (.cells #[.slice a B.length c,.int .i64 (st1.p:Int),.int .i64 st1.k,.int .i64 st1.f] 60)) w3.heap.size 60 #[.slice a B.length c,.int .i64 (st1.p:Int),.int .i64 st1.k,.int .i64 st1.f]:=Blk.newAt _ _ _ rfl
       have hbe4:Below w.heap.size w (w3.alloc (.cells #[.slice a B.length c,.int .i64 (st1.p:Int),.int .i64 st1.k,.int .i64 st1.f] 60)):=zA
       have hT4:Tch (fun b=>b=w1.heap.size∨w3.heap.size≤b) w3 (w3.alloc (.cells #[.slice a B.length c,.int .i64 (st1.p:Int),.int .i64 st1.k,.int .i64 st1.f] 60)):=(Tch.refl _ _).alloc _
       have hz4:(w3.alloc (.cells #[.slice a B.length c,.int .i64 (st1.p:Int),.int .i64 st1.k,.int .i64 st1.f] 60)).heap.size=w3.heap.size+1:=zR
       have HVL:Hid (∀q,(Value.slice (some ⟨bq,o,none⟩) J.length cv).ownBlock=some q→w1.heap.size+1≤q∧q<w3.heap.size):=hid (by
        obtain⟨cells0,OA0⟩:=HO3.out
        exact fun q e=>De OA0.1 q e)
       clear hb3 D3 R3 y0 y1 y2 y3 g0 g1 g2 g3 l1;go_wp2_with fail;have D6:=D4
       have R6:=R4
       have hbe6:=hbe4
       have hT6:=hT4
       have hz6:w3.heap.size+1≤(w3.alloc (.cells #[.slice a B.length c,.int .i64 (st1.p:Int),.int .i64 st1.k,.int .i64 st1.f] 60)).heap.size:=zD
       clear D4 R4 X4 hbe4 hT4 hz4 x0 x1 x2 x3 f0 f1 f2 f3 l0;generalize (w3.alloc (.cells #[.slice a B.length c,.int .i64 (st1.p:Int),.int .i64 st1.k,.int .i64 st1.f] 60))=w4 at*
       have HDC:=HDL.out w4 hbe6 st1 HOK1.out
       have hOKD:=Rs.E6 (B:=B) (below:=pos) (most:=4) HOK1.out
       generalize hDL:st1.delta B pos 4=DL at*
       obtain⟨D,bk⟩:=DL
       dsimp only at*;have HOKD:=hid hOKD
       have HSP:=hid hsp1
       have HSP1:Hid (D.k=0→Rs.BX B pos N s1 none []=Rs.BX B pos (N-(m+1+1)) D ((J++[(⟨z.stream+(x:Int)+1,bk⟩:Bv)]).getLast?.map Bv.stream) (J++[⟨z.stream+(x:Int)+1,bk⟩])):=hid (fun h=>by rw[HSP.out,Al h];simp)
       have HSP2:Hid (D.k≠0→Rs.BX B pos N s1 none []=(D,[])):=hid (fun h=>by rw[HSP.out,Ak h])
       clear hsp1 hOKD hDL;refine HDC.mono ?_
       rintro r w6 ⟨v6,rfl,hv6,hb6⟩;obtain⟨a6,c6,hfv,_,_⟩:=Au hv6
       simp only[Aj,At] at hfv
       subst hfv;have D7:=D6.later hb6
       have R7:=R6.later hb6
       have hbe7:=Af hb6 hbe6
       have hs6:=hb6.size
       have HO7:=hid (Ax.below (Ax.Jk HO3.out hT6 zD) hb6)
       obtain⟨cells,OA⟩:=Ax.below HO7.out (show Below w6.heap.size w6 ((w6.alloc (.cells #[.slice a B.length c,.int .i64 (D.p:Int),.int .i64 D.k,.int .i64 D.f] 60)).alloc (.cells #[.int .u64 (z.stream+(x:Int)+1),.slice a6 bk.length c6] 151)) from zA)
       have hx8:Fv.r (fun b=>w1.heap.size+1≤b∧b<(((w6.alloc (.cells #[.slice a B.length c,.int .i64 (D.p:Int),.int .i64 D.k,.int .i64 D.f] 60)).alloc (.cells #[.int .u64 (z.stream+(x:Int)+1),.slice a6 bk.length c6] 151))).heap.size∧(Value.slice (some ⟨bq,o,none⟩) J.length cv).ownBlock≠some b) (((w6.alloc (.cells #[.slice a B.length c,.int .i64 (D.p:Int),.int .i64 D.k,.int .i64 D.f] 60)).alloc (.cells #[.int .u64 (z.stream+(x:Int)+1),.slice a6 bk.length c6] 151))) [.int .u64 (z.stream+(x:Int)+1),.slice a6 bk.length c6] ⟨z.stream+(x:Int)+1,bk⟩:=by
        refine FL (x:=⟨z.stream+(x:Int)+1,bk⟩) hxb (AK.mono (AK.keep hv6 (w':=((w6.alloc (.cells #[.slice a B.length c,.int .i64 (D.p:Int),.int .i64 D.k,.int .i64 D.f] 60)).alloc (.cells #[.int .u64 (z.stream+(x:Int)+1),.slice a6 bk.length c6] 151))) fun b hb=>(by (repeat (first | with_reducible exact Below.refl _ _ | with_reducible assumption | (with_reducible refine As ?_ _) | (with_reducible refine Below.setCell ?_ zE _) | (with_reducible refine Below.drew ?_) | (with_reducible refine below_drewN ?_ _) | (refine Af zH ?_))):Below w6.heap.size w6 ((w6.alloc (.cells #[.slice a B.length c,.int .i64 (D.p:Int),.int .i64 D.k,.int .i64 D.f] 60)).alloc (.cells #[.int .u64 (z.stream+(x:Int)+1),.slice a6 bk.length c6] 151))).block b hb.2) fun b hb=>⟨?_,?_,fun e=> ?_⟩)
        ·have:=hb.1;omega
        ·have:=hb.2;simp;omega
        ·have:=(HVL.out b e).2;have:=hb.1;omega
       have HX:=hid hx8
       have HA:=hid OA
       have HS9:Hid (w1.heap.size+1≤(((w6.alloc (.cells #[.slice a B.length c,.int .i64 (D.p:Int),.int .i64 D.k,.int .i64 D.f] 60)).alloc (.cells #[.int .u64 (z.stream+(x:Int)+1),.slice a6 bk.length c6] 151))).heap.size):=hid zK
       have F8:Blk (((w6.alloc (.cells #[.slice a B.length c,.int .i64 (D.p:Int),.int .i64 D.k,.int .i64 D.f] 60)).alloc (.cells #[.int .u64 (z.stream+(x:Int)+1),.slice a6 bk.length c6] 151))) w6.heap.size 60 #[.slice a B.length c,.int .i64 (D.p:Int),.int .i64 D.k,.int .i64 D.f]:=(Blk.newAt w6 _ _ rfl).alloc _
       clear hx8 OA HO7 hv6 hb6 D6 R6 hbe6 hT6;go_wp2_with (at_builtin;(try rw[HY.out]);go_loud (refine Aq rfl _ _ _ rfl (w1.heap.size+1) 151 i0 (.agg #[.int .u64 0,.slice none 0 0]) 2 32 Fk hi hz0 hz1 hz2 rfl zS (Value.slice (some ⟨bq,o,none⟩) J.length cv) J.length _ rfl HA.out.1 (some ⟨w6.heap.size+1,0,none⟩) 1 1 [.int .u64 (z.stream+(x:Int)+1),.slice a6 bk.length c6] rfl (A9 (w6.alloc (.cells #[.slice a B.length c,.int .i64 (D.p:Int),.int .i64 D.k,.int .i64 D.f] 60)) 151 _ rfl zR rfl) (by intro u hu;simp at hu;rcases hu with rfl | rfl<;>rfl) zQ zD HS9.out ?_;intro v9 w9 hown9 hgrow9 hat9;obtain⟨a9,c9,rfl⟩:=AP hown9;have OP:=hid (Ax.push HA.out rfl HX.out hown9 hgrow9 hat9 hgrow9.size);have hb9:Below (w1.heap.size+1) w6 w9:=(Below.grown ((by (repeat (first | with_reducible exact Below.refl _ _ | with_reducible assumption | (with_reducible refine As ?_ _) | (with_reducible refine Below.setCell ?_ zE _) | (with_reducible refine Below.drew ?_) | (with_reducible refine below_drewN ?_ _) | (refine Af zH ?_))):Below w6.heap.size w6 ((w6.alloc (.cells #[.slice a B.length c,.int .i64 (D.p:Int),.int .i64 D.k,.int .i64 D.f] 60)).alloc (.cells #[.int .u64 (z.stream+(x:Int)+1),.slice a6 bk.length c6] 151))).mono zD) hgrow9 HS9.out (fun g e=>(HVL.out g e).1));have F9:Blk w9 w6.heap.size 60 #[.slice a B.length c,.int .i64 (D.p:Int),.int .i64 D.k,.int .i64 D.f]:=(hgrow9.block w6.heap.size zK (fun e=>zAb)).trans F8;have D9:=D7.below hb9 zD;have R9:=R7.below hb9 zD;have hs9:=hb9.size;have hbe9:Below w.heap.size w w9:=hbe7.trans (hb9.mono zD);clear hown9 hgrow9 hat9;obtain⟨x0,x1,x2,x3,f0,f1,f2,f3,l0⟩:=Ap D9;obtain⟨z0,z1,z2,z3,e0,e1,e2,e3,l5⟩:=Ap F9))
       have HJ9:Hid (∀t∈J++[(⟨z.stream+(x:Int)+1,bk⟩:Bv)],0≤t.stream∧t.stream≤18446744073709551615):=hid (fun t ht=>by
        rw[BK,Bf] at ht
        rcases ht with ht | rfl
        ·exact hJb.out t ht
        ·exact hxb)
       have HRR:=hid R9
       have HDD:=hid D9
       have HBE9:=hid hbe9
       clear R9 D9 F9 hbe9;go_roundw
       case rel=>exact ⟨m+1+1,J++[⟨z.stream+(x:Int)+1,bk⟩],D,zD,ZB,hid ZT,Ax.Qu OP.out zD,HJ9,(((HDD.out.set 0 _).set 1 _).set 2 _).set 3 _,Blk.far (Blk.far (Blk.far (Blk.far HRR.out zF _) zF _) zF _) zF _,(((HBE9.out.setCell zF _).setCell zF _).setCell zF _).setCell zF _,zT,HOKD,HSP1,HSP2⟩
       case measure=>simp [intOf];omega
     ·have hS:(st.stream B (some z.stream)).1=(st.num B).1:=by
       simp only[Rs.stream]
       split
       ·exact Rs.Bc hk1
       ·rfl
      rw[hS] at hsp1
      clear hS;generalize (st.stream B (some z.stream)).2=sv at*
      generalize st.num B=R at*
      obtain⟨st1,x⟩:=R
      dsimp only at*;have dk1:(st1.k==(0:Int))=false:=zBh
      have HOK1:=hid hnok
      have hfk:=hk1
      rw[Rs.Ef hfk] at hsp1
      dsimp only at hsp1;rw[Ak hfk] at hsp1
      have hxb:(0:Int)≤(x:Int)∧(x:Int)≤18446744073709551615:=zD
      clear hk1 HFL hnok;go_wp2_with fail;refine (hVR.out _ HBE.out).mono ?_
      rintro r w3 ⟨rfl,hb3⟩;have D3:=HD.out.later hb3
      have R3:=HRS.out.later hb3
      have HO3:=hid (Ax.below HO.out hb3)
      have hbe3:=Af hb3 HBE.out
      have hs3:=hb3.size
      have X0':=(hb3.cell (p:=⟨bq,o+m*2,none⟩) hbr).trans hc0
      have hbr3:bq<w3.heap.size:=zD
      clear hc0;obtain⟨x0,x1,x2,x3,f0,f1,f2,f3,l0⟩:=Ap D3
      have D4:Blk (w3.alloc (.cells #[.slice a B.length c,.int .i64 (st1.p:Int),.int .i64 st1.k,.int .i64 st1.f] 60)) w1.heap.size 60 #[.slice a B.length c,.int .i64 (st.p:Int),.int .i64 st.k,.int .i64 st.f]:=D3.alloc _
      have R4:Blk (w3.alloc (.cells #[.slice a B.length c,.int .i64 (st1.p:Int),.int .i64 st1.k,.int .i64 st1.f] 60)) (w.heap.size+1) 60 #[.slice none 0 0,.int .i64 0,.int .i64 0,.int .i64 0]:=R3.alloc _
      have X4:Blk (w3.alloc (.cells #[.slice a B.length c,.int .i64 (st1.p:Int),.int .i64 st1.k,.int .i64 st1.f] 60)) w3.heap.size 60 #[.slice a B.length c,.int .i64 (st1.p:Int),.int .i64 st1.k,.int .i64 st1.f]:=Blk.newAt _ _ _ rfl
      have hbe4:Below w.heap.size w (w3.alloc (.cells #[.slice a B.length c,.int .i64 (st1.p:Int),.int .i64 st1.k,.int .i64 st1.f] 60)):=zA
      have hT4:Tch (fun b=>b=w1.heap.size∨w3.heap.size≤b) w3 (w3.alloc (.cells #[.slice a B.length c,.int .i64 (st1.p:Int),.int .i64 st1.k,.int .i64 st1.f] 60)):=(Tch.refl _ _).alloc _
      have hz4:(w3.alloc (.cells #[.slice a B.length c,.int .i64 (st1.p:Int),.int .i64 st1.k,.int .i64 st1.f] 60)).heap.size=w3.heap.size+1:=zR
      have HVL:Hid (∀q,(Value.slice (some ⟨bq,o,none⟩) J.length cv).ownBlock=some q→w1.heap.size+1≤q∧q<w3.heap.size):=hid (by
       obtain⟨cells0,OA0⟩:=HO3.out
       exact fun q e=>De OA0.1 q e)
      clear hb3 D3 R3 y0 y1 y2 y3 g0 g1 g2 g3 l1;go_wp2_with fail;have D6:=D4
      have R6:=R4
      have hbe6:=hbe4
      have hT6:=hT4
      have hz6:w3.heap.size+1≤(w3.alloc (.cells #[.slice a B.length c,.int .i64 (st1.p:Int),.int .i64 st1.k,.int .i64 st1.f] 60)).heap.size:=zD
      clear D4 R4 X4 hbe4 hT4 hz4 x0 x1 x2 x3 f0 f1 f2 f3 l0;generalize (w3.alloc (.cells #[.slice a B.length c,.int .i64 (st1.p:Int),.int .i64 st1.k,.int .i64 st1.f] 60))=w4 at*
      have HDC:=HDL.out w4 hbe6 st1 HOK1.out
      have hOKD:=Rs.E6 (B:=B) (below:=pos) (most:=4) HOK1.out
      generalize hDL:st1.delta B pos 4=DL at*
      obtain⟨D,bk⟩:=DL
      dsimp only at*;have HOKD:=hid hOKD
      have hDE:D=st1:=by
       rw[Rs.Ef hfk] at hDL
       exact (Ca Prod.fst hDL).symm
      have HSP:Hid (Rs.BX B pos N s1 none []=(D,[])):=hid (by rw[hDE];exact hsp1)
      have hfk':D.k≠0:=by rw[hDE];exact hfk
      have HFK:=hid hfk'
      clear hDE hfk hfk';have HSP1:Hid (D.k=0→Rs.BX B pos N s1 none []=Rs.BX B pos (N-(m+1+1)) D ((J++[(⟨(x:Int),bk⟩:Bv)]).getLast?.map Bv.stream) (J++[⟨(x:Int),bk⟩])):=hid (fun h=>absurd h HFK.out)
      have HSP2:Hid (D.k≠0→Rs.BX B pos N s1 none []=(D,[])):=hid (fun _=>HSP.out)
      clear hsp1 hOKD hDL;refine HDC.mono ?_
      rintro r w6 ⟨v6,rfl,hv6,hb6⟩;obtain⟨a6,c6,hfv,_,_⟩:=Au hv6
      simp only[Aj,At] at hfv
      subst hfv;have D7:=D6.later hb6
      have R7:=R6.later hb6
      have hbe7:=Af hb6 hbe6
      have hs6:=hb6.size
      have HO7:=hid (Ax.below (Ax.Jk HO3.out hT6 zD) hb6)
      obtain⟨cells,OA⟩:=Ax.below HO7.out (show Below w6.heap.size w6 ((w6.alloc (.cells #[.slice a B.length c,.int .i64 (D.p:Int),.int .i64 D.k,.int .i64 D.f] 60)).alloc (.cells #[.int .u64 ((x:Int)),.slice a6 bk.length c6] 151)) from zA)
      have hx8:Fv.r (fun b=>w1.heap.size+1≤b∧b<(((w6.alloc (.cells #[.slice a B.length c,.int .i64 (D.p:Int),.int .i64 D.k,.int .i64 D.f] 60)).alloc (.cells #[.int .u64 ((x:Int)),.slice a6 bk.length c6] 151))).heap.size∧(Value.slice (some ⟨bq,o,none⟩) J.length cv).ownBlock≠some b) (((w6.alloc (.cells #[.slice a B.length c,.int .i64 (D.p:Int),.int .i64 D.k,.int .i64 D.f] 60)).alloc (.cells #[.int .u64 ((x:Int)),.slice a6 bk.length c6] 151))) [.int .u64 ((x:Int)),.slice a6 bk.length c6] ⟨(x:Int),bk⟩:=by
       refine FL (x:=⟨(x:Int),bk⟩) hxb (AK.mono (AK.keep hv6 (w':=((w6.alloc (.cells #[.slice a B.length c,.int .i64 (D.p:Int),.int .i64 D.k,.int .i64 D.f] 60)).alloc (.cells #[.int .u64 ((x:Int)),.slice a6 bk.length c6] 151))) fun b hb=>(by (repeat (first | with_reducible exact Below.refl _ _ | with_reducible assumption | (with_reducible refine As ?_ _) | (with_reducible refine Below.setCell ?_ zE _) | (with_reducible refine Below.drew ?_) | (with_reducible refine below_drewN ?_ _) | (refine Af zH ?_))):Below w6.heap.size w6 ((w6.alloc (.cells #[.slice a B.length c,.int .i64 (D.p:Int),.int .i64 D.k,.int .i64 D.f] 60)).alloc (.cells #[.int .u64 ((x:Int)),.slice a6 bk.length c6] 151))).block b hb.2) fun b hb=>⟨?_,?_,fun e=> ?_⟩)
       ·have:=hb.1;omega
       ·have:=hb.2;simp;omega
       ·have:=(HVL.out b e).2;have:=hb.1;omega
      have HX:=hid hx8
      have HA:=hid OA
      have HS9:Hid (w1.heap.size+1≤(((w6.alloc (.cells #[.slice a B.length c,.int .i64 (D.p:Int),.int .i64 D.k,.int .i64 D.f] 60)).alloc (.cells #[.int .u64 ((x:Int)),.slice a6 bk.length c6] 151))).heap.size):=hid zK
      have F8:Blk (((w6.alloc (.cells #[.slice a B.length c,.int .i64 (D.p:Int),.int .i64 D.k,.int .i64 D.f] 60)).alloc (.cells #[.int .u64 ((x:Int)),.slice a6 bk.length c6] 151))) w6.heap.size 60 #[.slice a B.length c,.int .i64 (D.p:Int),.int .i64 D.k,.int .i64 D.f]:=(Blk.newAt w6 _ _ rfl).alloc _
      clear hx8 OA HO7 hv6 hb6 D6 R6 hbe6 hT6;go_wp2_with (at_builtin;(try rw[HY.out]);go_loud (refine Aq rfl _ _ _ rfl (w1.heap.size+1) 151 i0 (.agg #[.int .u64 0,.slice none 0 0]) 2 32 Fk hi hz0 hz1 hz2 rfl zS (Value.slice (some ⟨bq,o,none⟩) J.length cv) J.length _ rfl HA.out.1 (some ⟨w6.heap.size+1,0,none⟩) 1 1 [.int .u64 ((x:Int)),.slice a6 bk.length c6] rfl (A9 (w6.alloc (.cells #[.slice a B.length c,.int .i64 (D.p:Int),.int .i64 D.k,.int .i64 D.f] 60)) 151 _ rfl zR rfl) (by intro u hu;simp at hu;rcases hu with rfl | rfl<;>rfl) zQ zD HS9.out ?_;intro v9 w9 hown9 hgrow9 hat9;obtain⟨a9,c9,rfl⟩:=AP hown9;have OP:=hid (Ax.push HA.out rfl HX.out hown9 hgrow9 hat9 hgrow9.size);have hb9:Below (w1.heap.size+1) w6 w9:=(Below.grown ((by (repeat (first | with_reducible exact Below.refl _ _ | with_reducible assumption | (with_reducible refine As ?_ _) | (with_reducible refine Below.setCell ?_ zE _) | (with_reducible refine Below.drew ?_) | (with_reducible refine below_drewN ?_ _) | (refine Af zH ?_))):Below w6.heap.size w6 ((w6.alloc (.cells #[.slice a B.length c,.int .i64 (D.p:Int),.int .i64 D.k,.int .i64 D.f] 60)).alloc (.cells #[.int .u64 ((x:Int)),.slice a6 bk.length c6] 151))).mono zD) hgrow9 HS9.out (fun g e=>(HVL.out g e).1));have F9:Blk w9 w6.heap.size 60 #[.slice a B.length c,.int .i64 (D.p:Int),.int .i64 D.k,.int .i64 D.f]:=(hgrow9.block w6.heap.size zK (fun e=>zAb)).trans F8;have D9:=D7.below hb9 zD;have R9:=R7.below hb9 zD;have hs9:=hb9.size;have hbe9:Below w.heap.size w w9:=hbe7.trans (hb9.mono zD);clear hown9 hgrow9 hat9;obtain⟨x0,x1,x2,x3,f0,f1,f2,f3,l0⟩:=Ap D9;obtain⟨z0,z1,z2,z3,e0,e1,e2,e3,l5⟩:=Ap F9))
      have HJ9:Hid (∀t∈J++[(⟨(x:Int),bk⟩:Bv)],0≤t.stream∧t.stream≤18446744073709551615):=hid (fun t ht=>by
       rw[BK,Bf] at ht
       rcases ht with ht | rfl
       ·exact hJb.out t ht
       ·exact hxb)
      have HRR:=hid R9
      have HDD:=hid D9
      have HBE9:=hid hbe9
      clear R9 D9 F9 hbe9;go_roundw
      case rel=>exact ⟨m+1+1,J++[⟨(x:Int),bk⟩],D,zD,ZB,hid ZT,Ax.Qu OP.out zD,HJ9,(((HDD.out.set 0 _).set 1 _).set 2 _).set 3 _,Blk.far (Blk.far (Blk.far (Blk.far HRR.out zF _) zF _) zF _) zF _,(((HBE9.out.setCell zF _).setCell zF _).setCell zF _).setCell zF _,zT,HOKD,HSP1,HSP2⟩
      case measure=>simp [intOf];omega
   ·have dk:(st.k==(0:Int))=false:=by simp[hk0]
    have dn:(st.k !=(0:Int))=true:=zBp
    have HSP:=hid (hsn.out hk0)
    clear hsp hsn hk0;go_wp2;rw[HSP.out]
    refine Ag (v:=.tuple #[.agg #[.slice a B.length c,.int .i64 (st.p:Int),.int .i64 st.k,.int .i64 st.f],.slice none 0 0]) zAn rfl ⟨_,rfl,Ax.G1 (e:=0) (Ai _) Ax.nil,zA⟩
  ·obtain rfl:k=N:=by omega
   have d1:decide ((k:Int)<(k:Int))=false:=Ad zD
   by_cases hk0:st.k=0
   ·have dn:(st.k !=(0:Int))=false:=by simp[hk0]
    have hsp1:=hsp.out hk0
    rw[CS] at hsp1
    have HSP:Hid (Rs.BX B pos k s1 none []=(st,J)):=hid hsp1
    have HV:=hid (Ax.G1 (Ai _) HO.out)
    clear hsp hsn hk0 hsp1;go_wp2;rw[HSP.out]
    refine Ag (v:=.tuple #[.agg #[.slice a B.length c,.int .i64 (st.p:Int),.int .i64 st.k,.int .i64 st.f],.slice av J.length cv]) zAn rfl ⟨_,rfl,?_,zA⟩
    refine GA.mono (GA.keep HV.out fun q hq=> ?_) fun q hq=>⟨zZ,ZD⟩
    have:=hq.1
    repeat (rw[Below.heap_setCell _ _ _ _ zF])
   ·have dn:(st.k !=(0:Int))=true:=by simp[hk0]
    have HSP:=hid (hsn.out hk0)
    clear hsp hsn hk0;go_wp2;rw[HSP.out]
    refine Ag (v:=.tuple #[.agg #[.slice a B.length c,.int .i64 (st.p:Int),.int .i64 st.k,.int .i64 st.f],.slice none 0 0]) zAn rfl ⟨_,rfl,Ax.G1 (e:=0) (Ai _) Ax.nil,zA⟩
theorem Rs.MZ{B:List UInt8}{s:Rs}{lo:Int}(h:4611686018427387904<lo):s.AY B lo=(s.fail 3 s.p,Dq):=by
 have hb:(s.fail 3 s.p).k≠0:=Rs.By zD
 unfold Rs.AY Rs.span;dsimp only;rw[Al h,Rs.CW hb]
 dsimp only;rw[Rs.Bc hb,ite_self,Rs.Ds hb]
 exact Ak hb
theorem Rs.K5{B:List UInt8}{s:Rs}{lo:Int}(h:¬4611686018427387904<lo)(h1:4611686018427387904-lo≤((s.num B).2:Int)):s.AY B lo=((s.num B).1.fail 3 s.p,Dq):=by
 have hb:((s.num B).1.fail 3 s.p).k≠0:=Rs.By zD
 unfold Rs.AY Rs.span;dsimp only;rw[Ak h,show min lo 4611686018427387904=lo by omega,Al h1,Rs.Ds hb]
 exact Ak hb
theorem Rs.Fs{B:List UInt8}{s:Rs}{lo:Int}(h:¬4611686018427387904<lo)(h1:¬((s.num B).1.k=0∧4611686018427387904-lo≤((s.num B).2:Int))):s.AY B lo=
    (if (Rs.C8 B ((s.num B).1.many B 8).2 ((s.num B).1.many B 8).1 []).1.k=0 then ((Rs.C8 B ((s.num B).1.many B 8).2 ((s.num B).1.many B 8).1 []).1,⟨lo,lo+(s.num B).2+1,(Rs.C8 B ((s.num B).1.many B 8).2 ((s.num B).1.many B 8).1 []).2⟩)
     else ((Rs.C8 B ((s.num B).1.many B 8).2 ((s.num B).1.many B 8).1 []).1,Dq)):=by
  have e:(if 4611686018427387904-min lo 4611686018427387904≤((s.num B).2:Int) then (s.num B).1.fail 3 s.p else (s.num B).1)=(s.num B).1:=by
    rw[show min lo 4611686018427387904=lo by omega]
    split
    · rename_i h2
      exact Rs.Bc fun e=>h1 ⟨e,h2⟩
    · rfl
  unfold Rs.AY Rs.span;dsimp only;rw[Ak h,e]
theorem Rs.LR{B:List UInt8}{s:Rs}{out:List (List Int)}(h:s.k≠0):∀n,(Rs.C8 B n s out).1=s
 | 0=>rfl
 | n+1=>by
  unfold Rs.C8;rw[Rs.Jp h,Ak h]
def Rs.OR(B:List UInt8)(s:Rs):Rs:=
 if (Rs.Cp B (s.many B 8).2 (s.many B 8).1 []).1.k=0∧4294967295<(Rs.Cp B (s.many B 8).2 (s.many B 8).1 []).2.getLastD 0 then (Rs.Cp B (s.many B 8).2 (s.many B 8).1 []).1.fail 3 (s.many B 8).1.p else (Rs.Cp B (s.many B 8).2 (s.many B 8).1 []).1
theorem Rs.OO{B:List UInt8}{s:Rs}{O:List (List Int)}:
  (s.DC B O).1=(if (s.OR B).k=0∧Br (Rs.Cp B (s.many B 8).2 (s.many B 8).1 []).2 O=false then (s.OR B).fail 13 (s.many B 8).1.p else s.OR B)∧((s.DC B O).1.k=0→(s.DC B O).2=(Rs.Cp B (s.many B 8).2 (s.many B 8).1 []).2):=by
 unfold Rs.OR Rs.DC;dsimp only;generalize Rs.Cp B (s.many B 8).2 (s.many B 8).1 []=f
 by_cases h1:f.1.k=0
 ·by_cases h2:4294967295<f.2.getLastD 0
  ·have hb:(f.1.fail 3 (s.many B 8).1.p).k≠0:=Rs.By zD
   rw[Al h1,Al h2,Al (show f.1.k=0∧4294967295<f.2.getLastD 0 from ⟨h1,h2⟩),Ak (show ¬((f.1.fail 3 (s.many B 8).1.p).k=0∧Br f.2 O=false) from fun h=>hb h.1)]
   exact⟨rfl,fun h=>absurd h hb⟩
  ·rw[Al h1,Ak h2,Ak (show ¬(f.1.k=0∧4294967295<f.2.getLastD 0) from fun h=>h2 h.2)]
   by_cases h3:Br f.2 O=true
   ·rw[Al h3,Ak (show ¬(f.1.k=0∧Br f.2 O=false) from fun h=>by rw[h3] at h;exact absurd h.2 (by decide))]
    exact⟨rfl,fun _=>rfl⟩
   ·rw[Ak h3,Al (show f.1.k=0∧Br f.2 O=false from ⟨h1,Bool.eq_false_iff.2 h3⟩)]
    exact⟨rfl,fun _=>rfl⟩
 ·rw[Ak h1,Ak (show ¬(f.1.k=0∧4294967295<f.2.getLastD 0) from fun h=>h1 h.1),Ak (show ¬(f.1.k=0∧Br f.2 O=false) from fun h=>h1 h.1)]
  exact⟨rfl,fun h=>absurd h h1⟩
structure JZ(w:World)(a:Option Addr)(n c:Nat)(g6 g8 L0:Nat)(lo y:Int)(st:Rs)(v:Value)(J:List (List Int))(W:World):Prop where
 d:Blk W g6 60 #[.slice a n c,.int .i64 (st.p:Int),.int .i64 st.k,.int .i64 st.f]
 s:Blk W g8 155 #[.int .u64 lo,.int .u64 y,v]
 r4:Blk W (w.heap.size+1) 60 #[.slice none 0 0,.int .i64 0,.int .i64 0,.int .i64 0]
 r5:Blk W (w.heap.size+1+1) 155 #[.int .u64 0,.int .u64 0,.slice none 0 0]
 own:Ax L0 AK L0 23 1 W v J
 bel:Below w.heap.size w W
 le:L0≤W.heap.size
theorem JZ.later{w W W':World}{a:Option Addr}{n c g6 g8 L0:Nat}{lo y:Int}{st:Rs}{v:Value}{J:List (List Int)}(h:JZ w a n c g6 g8 L0 lo y st v J W)(hb:Below W.heap.size W W'):JZ w a n c g6 g8 L0 lo y st v J W':=
 ⟨h.d.later hb,h.s.later hb,h.r4.later hb,h.r5.later hb,Ax.below h.own hb,Af hb h.bel,AV h.le hb.size⟩
theorem Ni(w:World)(a:Option Addr)(c:Nat)(B:List UInt8)(hl:Ah.r (·<w.heap.size) w [.slice a B.length c] B)(s:Rs)(hs:s.ok B.length)(hB:B.length≤1000000000000)(lo:Int)(hlo:0≤lo∧lo≤18446744073709551615):
  Calls Tryz.prog 206 #[CV a B.length c s,.int .u64 lo] w fun r w'=>∃v,r=.returned (.tuple #[CV a B.length c (s.AY B lo).1,.agg #[.int .u64 (s.AY B lo).2.lo,.int .u64 (s.AY B lo).2.hi,v]])∧CP.r (Cq w w') w' [v] (s.AY B lo).2.sets∧Below w.heap.size w w':=by
 obtain⟨j0,ji,jz0,jz1,jz2⟩:=A8 Mo
 have HL:=hid hl
 have HRD:=hid (fun (W:World) (hW:Below w.heap.size w W)=>CA W a c B (lift HL.out hW) s hs hB)
 have HFS:=hid (fun (W:World) (t:Rs)=>Bg W a B.length c t 3 s.p zD)
 have HFT:=hid (fun (W:World) (t:Rs) (q:Nat)=>Bg W a B.length c t 3 q zD)
 have HFU:=hid (fun (W:World) (t:Rs) (q:Nat)=>Bg W a B.length c t 13 q zD)
 have HMN:=hid (fun (W:World) (hW:Below w.heap.size w W) (t:Rs) (ht:t.ok B.length)=>Nj W a c B (lift HL.out hW) t ht hB 8 zD)
 have HRI:=hid (fun (W:World) (hW:Below w.heap.size w W) (t:Rs) (ht:t.ok B.length) (N:Nat) (hN:N≤8)=>Jv W a c B (lift HL.out hW) t ht hB N zD)
 have HSOK:=hid hs
 clear hl hs;unfold CV at*;by_cases hp:4611686018427387904<lo
 ·rw[Rs.MZ hp]
  have d1:decide (4611686018427387904<lo)=true:=Ae hp
  have HF:=hid (fun (W:World)=>HFS.out W s)
  clear hp;generalize s.fail 3 s.p=t at*
  go_enter Tryz.func206,Tryz.ntmps206
  go_wp2_with fail;refine (HF.out _).mono ?_
  rintro r w1 ⟨rfl,hb⟩;have hbw:Below w.heap.size w w1:=zA
  have R4:Blk w1 (w.heap.size+1) 60 #[.slice none 0 0,.int .i64 0,.int .i64 0,.int .i64 0]:=Blk.later zB hb
  have R5:Blk w1 (w.heap.size+1+1) 155 #[.int .u64 0,.int .u64 0,.slice none 0 0]:=Blk.later zB hb
  obtain⟨x0,x1,x2,x3,f0,f1,f2,f3,l0⟩:=Ap R4
  obtain⟨y0,y1,y2,g0,g1,g2,l1⟩:=DH R5
  clear hb R4 R5;go_wp2;refine Ag (v:=.tuple #[.agg #[.slice a B.length c,.int .i64 (t.p:Int),.int .i64 t.k,.int .i64 t.f],.agg #[.int .u64 0,.int .u64 0,.slice none 0 0]]) (by simp[results,Tryz.results206,go_sem,x0,x1,x2,x3,y0,y1,y2,l0,l1]) rfl ⟨_,rfl,AM (xs:=[]) rfl (Ai _) (Am _) (.inl rfl),zL⟩
 ·have d1:decide (4611686018427387904<lo)=false:=Ad hp
  have hbroad:=Rs.K5 (B:=B) (s:=s) hp
  have hat:=Rs.Fs (B:=B) (s:=s) hp
  have hnb:=Rs.Fh (B:=B) (s:=s)
  have hnok:=Rs.Cm (B:=B) HSOK.out
  have hnn:=Rs.Ch (B:=B) (s:=s)
  generalize s.AY B lo=RES at*
  have HF:=hid (fun W:World=>HFS.out W (s.num B).1)
  generalize s.num B=D at*
  obtain⟨s1,n⟩:=D
  dsimp only at*;have hmok:=Rs.GD (B:=B) (m:=8) hnok
  have hml:(s1.many B 8).2≤8:=Rs.FJ (m:=8)
  have HMN1:=hid (fun (W:World) (hW:Below w.heap.size w W)=>HMN.out W hW s1 hnok)
  generalize s1.many B 8=M at*
  obtain⟨s3,k⟩:=M
  dsimp only at*;obtain⟨U,hU⟩:∃t,t=Rs.C8 B k s3 []:=⟨_,rfl⟩
  rw[←hU] at hat
  have HU:=hid hU
  have HSOK3:=hid hmok
  have v1:0≤4611686018427387904-lo:=zD
  have v2:4611686018427387904-lo≤18446744073709551615:=zD
  have HATT:=hid hat
  have HBRD:=hid hbroad
  clear hU hmok hnok hat hbroad;go_enter Tryz.func206,Tryz.ntmps206
  go_wp2_with fail;refine (HRD.out _ zA).mono ?_
  rintro r w1 ⟨rfl,hb⟩;have hbw:Below w.heap.size w w1:=zA
  have R4:Blk w1 (w.heap.size+1) 60 #[.slice none 0 0,.int .i64 0,.int .i64 0,.int .i64 0]:=Blk.later zB hb
  have R5:Blk w1 (w.heap.size+1+1) 155 #[.int .u64 0,.int .u64 0,.slice none 0 0]:=Blk.later zB hb
  have l5:=R5.lt
  have C0:Blk w1 w.heap.size 60 #[.slice a B.length c,.int .i64 (s.p:Int),.int .i64 s.k,.int .i64 s.f]:=Blk.later zB hb
  clear hb;go_upto_region 4 with (fail)
  have D3:Blk (w1.alloc (.cells #[.slice a B.length c,.int .i64 (s1.p:Int),.int .i64 s1.k,.int .i64 s1.f] 60)) w1.heap.size 60 #[.slice a B.length c,.int .i64 (s1.p:Int),.int .i64 s1.k,.int .i64 s1.f]:=Blk.newAt _ _ _ rfl
  have hbw3:Below w.heap.size w (w1.alloc (.cells #[.slice a B.length c,.int .i64 (s1.p:Int),.int .i64 s1.k,.int .i64 s1.f] 60)):=zA
  have R43:Blk (w1.alloc (.cells #[.slice a B.length c,.int .i64 (s1.p:Int),.int .i64 s1.k,.int .i64 s1.f] 60)) (w.heap.size+1) 60 #[.slice none 0 0,.int .i64 0,.int .i64 0,.int .i64 0]:=R4.alloc _
  have R53:Blk (w1.alloc (.cells #[.slice a B.length c,.int .i64 (s1.p:Int),.int .i64 s1.k,.int .i64 s1.f] 60)) (w.heap.size+1+1) 155 #[.int .u64 0,.int .u64 0,.slice none 0 0]:=R5.alloc _
  have C3:Blk (w1.alloc (.cells #[.slice a B.length c,.int .i64 (s1.p:Int),.int .i64 s1.k,.int .i64 s1.f] 60)) w.heap.size 60 #[.slice a B.length c,.int .i64 (s.p:Int),.int .i64 s.k,.int .i64 s.f]:=C0.alloc _
  have hz3:(w1.alloc (.cells #[.slice a B.length c,.int .i64 (s1.p:Int),.int .i64 s1.k,.int .i64 s1.f] 60)).heap.size=w1.heap.size+1:=zR
  clear R4 R5 C0;generalize w1.alloc (.cells #[.slice a B.length c,.int .i64 (s1.p:Int),.int .i64 s1.k,.int .i64 s1.f] 60)=w3 at*
  have HZ3:=hid hz3
  have hz3':w1.heap.size<w3.heap.size:=zD
  clear hz3;obtain⟨x0,x1,x2,x3,f0,f1,f2,f3,l0⟩:=Ap D3
  obtain⟨a0,a1,a2,a3,_,_,_,_,_⟩:=Ap C3
  by_cases hbad:s1.k=0∧4611686018427387904-lo≤(n:Int)
  ·have dk:(s1.k==(0:Int))=true:=by simp[hbad.1]
   have d2:decide (4611686018427387904-lo≤(n:Int))=true:=Ae hbad.2
   have HR2:=hid (HBRD.out hbad.2)
   clear hbad;generalize s1.fail 3 (s.p:Int)=t at*
   go_wp2_with fail;refine (HF.out _).mono ?_
   rintro r w4 ⟨rfl,hb⟩;have R44:=R43.later hb
   have R54:=R53.later hb
   have hbw4:=Af hb hbw3
   obtain⟨b0,b1,b2,b3,e0,e1,e2,e3,l4⟩:=Ap R44
   obtain⟨y0,y1,y2,g0,g1,g2,l5'⟩:=DH R54
   clear hb x0 x1 x2 x3 f0 f1 f2 f3 l0 a0 a1 a2 a3;go_wp2_with fail;rw[HR2.out]
   refine Ag (v:=.tuple #[.agg #[.slice a B.length c,.int .i64 (t.p:Int),.int .i64 t.k,.int .i64 t.f],.agg #[.int .u64 0,.int .u64 0,.slice none 0 0]]) (by simp[results,Tryz.results206,go_sem,b0,b1,b2,b3,y0,y1,y2,l4,l5']) rfl ⟨_,rfl,AM (xs:=[]) rfl (Ai _) (Am _) (.inl rfl),zL⟩
  ·have HRES:=hid (HATT.out hbad)
   have hsum:lo+n+1≤18446744073709551615:=by
    by_cases hk:s1.k=0
    ·have:¬4611686018427387904-lo≤(n:Int):=fun e=>hbad ⟨hk,e⟩
     omega
    ·have:=hnb hk
     omega
   go_cut [36] from 27 to 35 (fun v V=>v=.bool false∧V=w3)
   case first=>
    by_cases hk:s1.k=0
    ·have dk:(s1.k==(0:Int))=true:=by simp[hk]
     have d2:decide (4611686018427387904-lo≤(n:Int))=false:=Ad fun e=>hbad ⟨hk,e⟩
     clear hk hbad;go_wp2_with fail;go_meet
     case rel=>exact ⟨rfl,rfl⟩
    ·have dk:(s1.k==(0:Int))=false:=by simp[hk]
     clear hk hbad;go_wp2_with fail;go_meet
     case rel=>exact ⟨rfl,rfl⟩
   case rest=>
    obtain⟨rfl,hV⟩:=hcut
    have hV':=hV.symm
    subst hV';have v3:0≤lo+(n:Int):=zD
    have v4:lo+(n:Int)≤18446744073709551615:=zD
    have v5:0≤lo+(n:Int)+1:=zD
    clear hV hbad hnb hnn;go_wp2_with fail;refine (HMN1.out _ zA).mono ?_
    rintro r w5 ⟨rfl,hb⟩;have D5:Blk w5 w1.heap.size 60 #[.slice a B.length c,.int .i64 (s1.p:Int),.int .i64 s1.k,.int .i64 s1.f]:=(D3.alloc _).later hb
    have S5:Blk w5 w3.heap.size 155 #[.int .u64 lo,.int .u64 (lo+(n:Int)+1),.slice none 0 0]:=(Blk.newAt w3 _ _ rfl).later hb
    have R45:=(R43.alloc (.cells #[.int .u64 lo,.int .u64 (lo+(n:Int)+1),.slice none 0 0] 155)).later hb
    have R55:=(R53.alloc (.cells #[.int .u64 lo,.int .u64 (lo+(n:Int)+1),.slice none 0 0] 155)).later hb
    have hbw5:Below w.heap.size w w5:=zA
    clear hb x0 x1 x2 x3 f0 f1 f2 f3 l0 a0 a1 a2 a3;obtain⟨x0,x1,x2,x3,f0,f1,f2,f3,l0⟩:=Ap D5
    have l8:=S5.lt
    go_wp2_with fail;have hI6:JZ w a B.length c w1.heap.size w3.heap.size ((((w5.setCell ⟨w1.heap.size,0,none⟩ (.slice a B.length c)).setCell ⟨w1.heap.size,1,none⟩ (.int .i64 (s3.p:Int))).setCell ⟨w1.heap.size,2,none⟩ (.int .i64 s3.k)).setCell ⟨w1.heap.size,3,none⟩ (.int .i64 s3.f)).heap.size lo (lo+(n:Int)+1) s3 (.slice none 0 0) [] ((((w5.setCell ⟨w1.heap.size,0,none⟩ (.slice a B.length c)).setCell ⟨w1.heap.size,1,none⟩ (.int .i64 (s3.p:Int))).setCell ⟨w1.heap.size,2,none⟩ (.int .i64 s3.k)).setCell ⟨w1.heap.size,3,none⟩ (.int .i64 s3.f)):=
     ⟨(((D5.set 0 _).set 1 _).set 2 _).set 3 _,Blk.far (Blk.far (Blk.far (Blk.far S5 zF _) zF _) zF _) zF _,
      Blk.far (Blk.far (Blk.far (Blk.far R45 zF _) zF _) zF _) zF _,Blk.far (Blk.far (Blk.far (Blk.far R55 zF _) zF _) zF _) zF _,Ax.nil,
      (((hbw5.setCell zF _).setCell zF _).setCell zF _).setCell zF _,Ai _⟩
    have hz6:w3.heap.size<(((((w5.setCell ⟨w1.heap.size,0,none⟩ (.slice a B.length c)).setCell ⟨w1.heap.size,1,none⟩ (.int .i64 (s3.p:Int))).setCell ⟨w1.heap.size,2,none⟩ (.int .i64 s3.k)).setCell ⟨w1.heap.size,3,none⟩ (.int .i64 s3.f))).heap.size:=zT
    generalize ((((w5.setCell ⟨w1.heap.size,0,none⟩ (.slice a B.length c)).setCell ⟨w1.heap.size,1,none⟩ (.int .i64 (s3.p:Int))).setCell ⟨w1.heap.size,2,none⟩ (.int .i64 s3.k)).setCell ⟨w1.heap.size,3,none⟩ (.int .i64 s3.f))=w6 at*
    have HI6:=hid hI6
    clear hI6 D5 S5 R45 R55 hbw5 x0 x1 x2 x3 f0 f1 f2 f3 l0 l8 D3 hbw3 R43 R53 C3;go_loopw [10] (fun i wr=>∃(j:Nat) (J:List (List Int)) (st:Rs) (av:Option Addr) (cv:Nat),j≤k∧i=.int .i64 j∧Hid (J.length=j)∧Hid (JZ w a B.length c w1.heap.size w3.heap.size w6.heap.size lo (lo+(n:Int)+1) st (.slice av J.length cv) J wr)∧Hid (st.ok B.length)∧Hid (st.k=0→U=Rs.C8 B (k-j) st J)∧Hid (st.k≠0→U.1=st)) (fun i _=>k-(intOf i).toNat)
    case atStart=>exact ⟨0,[],s3,none,0,Am _,rfl,hid rfl,HI6,HSOK3,hid (fun _=>HU.out),hid (fun hk=>by rw[HU.out];exact Rs.LR hk k)⟩
    case round=>
     obtain⟨j,J,st,av,cv,hj,rfl,HJ,HS,HOK,HSP,HSN⟩:=hrel
     obtain⟨x0,x1,x2,x3,f0,f1,f2,f3,l0⟩:=Ap HS.out.d
     obtain⟨z0,z1,z2,h0,h1,h2,l8⟩:=DH HS.out.s
     have hlr:=HS.out.le
     have hJ9:J.length≤8:=zB6
     by_cases hk0:st.k=0
     ·have dk:(st.k==(0:Int))=true:=by simp[hk0]
      have dn:(st.k !=(0:Int))=false:=zBp
      rcases Ba j k with hlt2 | hge
      ·have d1:decide ((j:Int)<(k:Int))=true:=Ae zD
       have hstep:U=(if (st.DC B J).1.k=0 then Rs.C8 B (k-(j+1)) (st.DC B J).1 (J++[(st.DC B J).2]) else ((st.DC B J).1,[])):=by
        rw[HSP.out hk0,show k-j=(k-(j+1))+1 by omega];rfl
       obtain⟨hg1,hg2⟩:=Rs.OO (B:=B) (s:=st) (O:=J)
       have h5:st.OR B=(if (Rs.Cp B (st.many B 8).2 (st.many B 8).1 []).1.k=0∧4294967295<(Rs.Cp B (st.many B 8).2 (st.many B 8).1 []).2.getLastD 0 then (Rs.Cp B (st.many B 8).2 (st.many B 8).1 []).1.fail 3 (st.many B 8).1.p else (Rs.Cp B (st.many B 8).2 (st.many B 8).1 []).1):=rfl
       have hmo:=Rs.GD (B:=B) (m:=8) HOK.out
       have hml2:(st.many B 8).2≤8:=Rs.FJ (m:=8)
       have hro:=Rs.Jb (B:=B) (st.many B 8).2 (st.many B 8).1 [] hmo
       have hnp:=Rs.Ht (B:=B) (s:=st) (m:=8)
       have hrl:=Rs.Gh (B:=B) (st.many B 8).2 (st.many B 8).1 []
       have hrb:=fun hk=>Rs.Gg (B:=B) (s:=(st.many B 8).1) (out:=[]) hk (st.many B 8).2
       have HMM:=hid (fun (W:World) (hW:Below w.heap.size w W)=>HMN.out W hW st HOK.out)
       have HRR:=hid (fun (W:World) (hW:Below w.heap.size w W)=>HRI.out W hW (st.many B 8).1 hmo (st.many B 8).2 hml2)
       have hlast:(Rs.Cp B (st.many B 8).2 (st.many B 8).1 []).1.k=0→∃m:Nat,(Rs.Cp B (st.many B 8).2 (st.many B 8).1 []).2.length=m+1∧∀hh:m<(Rs.Cp B (st.many B 8).2 (st.many B 8).1 []).2.length,(Rs.Cp B (st.many B 8).2 (st.many B 8).1 []).2[m]=(Rs.Cp B (st.many B 8).2 (st.many B 8).1 []).2.getLastD 0:=fun hk=>by
        have h1:(st.many B 8).1.k=0:=Cx fun hh=>hrb hh hk
        have h2:=hrl hk
        have h3:=hnp h1
        simp only[Bp,Cs] at h2
        have hla:=Hy _ (show 1≤(Rs.Cp B (st.many B 8).2 (st.many B 8).1 []).2.length by omega)
        refine⟨(Rs.Cp B (st.many B 8).2 (st.many B 8).1 []).2.length-1,zD,fun hh=>by rw[hla]⟩
       clear hnp hrl hrb;generalize st.OR B=s6 at*
       generalize st.DC B J=T7 at*
       obtain⟨s7,L7⟩:=T7
       dsimp only at*;generalize st.many B 8=T4 at*
       obtain⟨s4,N⟩:=T4
       dsimp only at*;generalize Rs.Cp B N s4 []=T5 at*
       obtain⟨s5,L⟩:=T5
       dsimp only at*;have hok6:s6.ok B.length:=by
        rw[h5]
        split
        ·exact Rs.BH hro zD
        ·exact hro
       have hok7:s7.ok B.length:=by
        rw[hg1]
        split
        ·exact Rs.BH hok6 zD
        ·exact hok6
       have HOK7:=hid hok7
       have HSP2:Hid (s7.k=0→U=Rs.C8 B (k-(j+1)) s7 (J++[L])):=hid (fun e=>by rw[hstep,Al e,hg2 e])
       have HSN2:Hid (s7.k≠0→U.1=s7):=hid (fun e=>by rw[hstep,Ak e])
       have H5:=hid h5
       have HG1:=hid hg1
       have HLAST:=hid hlast
       clear hstep h5 hg1 hg2 hok6 hok7 hlast hro hmo hk0;go_wp2_with fail;refine (HMM.out _ HS.out.bel).mono ?_
       rintro r w7 ⟨rfl,hb7⟩;have HS7:=hid (HS.out.later hb7)
       have hz7:=hb7.size
       have hb78:Below w7.heap.size w7 (w7.alloc (.cells #[.slice a B.length c,.int .i64 (s4.p:Int),.int .i64 s4.k,.int .i64 s4.f] 60)):=zA
       have HS8:=hid (HS7.out.later hb78)
       have E8:Blk (w7.alloc (.cells #[.slice a B.length c,.int .i64 (s4.p:Int),.int .i64 s4.k,.int .i64 s4.f] 60)) w7.heap.size 60 #[.slice a B.length c,.int .i64 (s4.p:Int),.int .i64 s4.k,.int .i64 s4.f]:=Blk.newAt _ _ _ rfl
       have hz8:(w7.alloc (.cells #[.slice a B.length c,.int .i64 (s4.p:Int),.int .i64 s4.k,.int .i64 s4.f] 60)).heap.size=w7.heap.size+1:=zR
       clear hb7 hb78;go_wp2_with fail;refine (HRR.out _ HS8.out.bel).mono ?_
       rintro r w9 ⟨v9,rfl,hv9,hb9⟩;obtain⟨a9,c9,hfv,_,_⟩:=Au hv9
       simp only[Aj,At] at hfv
       subst hfv;have HS9:=hid (HS8.out.later hb9)
       have E9:=hid (E8.later hb9)
       have hz9:=hb9.size
       have HV9:=hid (AK.mono hv9 fun b hb=>(⟨ZR,hb.2⟩:wr.heap.size≤b∧b<w9.heap.size))
       clear E8 hb9 hv9;go_upto_region 13 with (fail)
       have HB10:=hid (show Below w9.heap.size w9 (w9.alloc (.cells #[.slice a B.length c,.int .i64 (s5.p:Int),.int .i64 s5.k,.int .i64 s5.f] 60)) from zA)
       have F10:Blk (w9.alloc (.cells #[.slice a B.length c,.int .i64 (s5.p:Int),.int .i64 s5.k,.int .i64 s5.f] 60)) w9.heap.size 60 #[.slice a B.length c,.int .i64 (s5.p:Int),.int .i64 s5.k,.int .i64 s5.f]:=Blk.newAt _ _ _ rfl
       have hz10:w9.heap.size<(w9.alloc (.cells #[.slice a B.length c,.int .i64 (s5.p:Int),.int .i64 s5.k,.int .i64 s5.f] 60)).heap.size:=zR
       generalize w9.alloc (.cells #[.slice a B.length c,.int .i64 (s5.p:Int),.int .i64 s5.k,.int .i64 s5.f] 60)=w10 at*
       clear x0 x1 x2 x3 f0 f1 f2 f3 l0 z0 z1 z2 h0 h1 h2 l8;obtain⟨R5,hR5⟩:∃R,R=decide (s5.k=0∧4294967295<L.getLastD 0):=⟨_,rfl⟩
       have HR5:=hid hR5
       clear hR5;go_cut [87] from 53 to 113 (fun v V=>v=.bool R5∧Hid (V=w10))
       case first=>
        obtain⟨x0,x1,x2,x3,f0,f1,f2,f3,l0⟩:=Ap F10
        by_cases hk5:s5.k=0
        ·have dk5:(s5.k==(0:Int))=true:=by simp[hk5]
         have hr:R5=decide (4294967296≤L.getLastD 0):=by
          rw[HR5.out]
          exact decide_eq_decide.2 ⟨fun e=>by have:=e.2;omega,fun e=>⟨hk5,zD⟩⟩
         have HR6:=hid hr
         clear hr;obtain⟨m,hm,hLm⟩:=HLAST.out hk5
         have HV10:=AK.keep HV9.out (w':=w10) fun b hb=>HB10.out.block b hb.2
         obtain⟨bq,oq,rfl,hbq,hc,hrst⟩:=DP HV10 (i:=m) zD
         rw[hLm zD] at hc
         have HM:=hid hm
         have j1:(L.length:Int)-1=(m:Int):=zD
         have j2:(0:Int)≤(L.length:Int)-1:=zD
         have j3:(m:Int)<(L.length:Int):=zD
         clear hrst hbq HV10 hm hLm hk5;generalize L.getLastD 0=q at*
         go_wp2_with fail;go_meet
         case rel=>exact ⟨Ca Value.bool HR6.out.symm,hid rfl⟩
        ·have dk5:(s5.k==(0:Int))=false:=by simp[hk5]
         have hr:=HR5.out
         rw[Ad (fun e=>hk5 e.1)] at hr
         have HR6:=hid hr
         clear hk5 hr;go_wp2_with fail;go_meet
         case rel=>exact ⟨Ca Value.bool HR6.out.symm,hid rfl⟩
       case rest=>
       obtain⟨rfl,hV⟩:=hcut
       have hV':=hV.out.symm
       subst hV';go_upto_if 87 with (fail)
       go_cut [] from 53 to 113 (fun V=>Hid (Blk V w9.heap.size 60 #[.slice a B.length c,.int .i64 (s6.p:Int),.int .i64 s6.k,.int .i64 s6.f])∧Hid (Below w9.heap.size w9 V))
       case first=>
        obtain⟨x0,x1,x2,x3,f0,f1,f2,f3,l0⟩:=Ap F10
        obtain⟨y0,y1,y2,y3,_,_,_,_,_⟩:=Ap (E9.out.later HB10.out)
        have h6:=H5.out
        have hr:=HR5.out
        cases R5
        ·rw[Ak (GM hr.symm)] at h6
         subst h6;clear hr;go_wp2_with fail;go_meet
         case rel=>exact ⟨hid F10,HB10⟩
        ·rw[Al (Cz hr.symm)] at h6
         have HFX:=HFT.out
         have HFY:=hid (fun W=>HFX W s5 s4.p)
         rw[←h6] at HFY
         clear h6 hr HFX;go_wp2_with fail;refine (HFY.out _).mono ?_
         rintro r w11 ⟨rfl,hb11⟩;have F11:=F10.later hb11
         have hb11':=HB10.out.trans (hb11.mono zD)
         clear hb11 x0 x1 x2 x3 f0 f1 f2 f3 l0;obtain⟨p0,p1,p2,p3,q0,q1,q2,q3,l1⟩:=Ap F11
         go_wp2_with fail;go_meet
         case rel=>exact ⟨hid ((((F11.set 0 _).set 1 _).set 2 _).set 3 _),hid ((((hb11'.setCell zF _).setCell zF _).setCell zF _).setCell zF _)⟩
       case rest=>
        obtain⟨HF11,HB11⟩:=hcut
        obtain⟨w11,hwn⟩:∃W:World,W=wc:=⟨_,rfl⟩
        subst hwn;clear F10;have HS11:=hid (HS9.out.later HB11.out)
        have HV11:=hid (AK.keep HV9.out (w':=w11) fun b hb=>HB11.out.block b hb.2)
        have hz11:=HF11.out.lt
        have hTW:=LZ J j L av J.length cv a9 L.length c9 w11 (CP.mono (Ax.slice (Ai _) HS11.out.own) fun b hb=>hb.2) (AK.mono HV11.out fun b hb=>by have:=hb.2;omega) (by rw[HJ.out];omega)
        rw[List.take_of_length_le (by rw[HJ.out];omega)] at hTW
        have HTW:=hid hTW
        clear hTW;obtain⟨z0,z1,z2,h0,h1,h2,l8⟩:=DH HS11.out.s
        obtain⟨x0,x1,x2,x3,f0,f1,f2,f3,l0⟩:=Ap HF11.out
        go_upto_region 15 with (fail)
        obtain⟨R7,hR7⟩:∃R,R=decide (s6.k=0∧Br L J=false):=⟨_,rfl⟩
        have HR7:=hid hR7
        clear hR7;go_cut [102] from 53 to 113 (fun v V=>v=.bool R7∧Hid (Below w11.heap.size w11 V))
        case first=>
         by_cases hk6:s6.k=0
         ·have dk6:(s6.k==(0:Int))=true:=by simp[hk6]
          have hr:=HR7.out
          rw[decide_eq_decide.2 (show (s6.k=0∧Br L J=false)↔Br L J=false from ⟨fun e=>e.2,fun e=>⟨hk6,e⟩⟩)] at hr
          have hr2:R7= !Br L J:=by rw[hr];exact (by decide:∀b:Bool,decide (b=false)= !b) _
          have HR8:=hid hr2
          clear hk6 hr hr2;go_wp2_with fail;refine HTW.out.mono ?_
          rintro r w12 ⟨rfl,hb12⟩;have HB12:=hid hb12
          clear hb12;go_wp2_with fail;go_meet
          case rel=>exact ⟨Ca Value.bool HR8.out.symm,HB12⟩
         ·have dk6:(s6.k==(0:Int))=false:=by simp[hk6]
          have hr:=HR7.out
          rw[Ad (fun e=>hk6 e.1)] at hr
          have HR8:=hid hr
          clear hk6 hr;go_wp2_with fail;go_meet
          case rel=>exact ⟨Ca Value.bool HR8.out.symm,hid (Below.refl _ _)⟩
        case rest=>
        obtain⟨rfl,hBB⟩:=hcut
        obtain⟨w12,hwn⟩:∃W:World,W=wc:=⟨_,rfl⟩
        subst hwn;have hzb:=hBB.out.size
        have F12:=HF11.out.later hBB.out
        have E12:=(E9.out.later HB11.out).later hBB.out
        have HB12x:=hid (HB11.out.trans (hBB.out.mono zD))
        clear z0 z1 z2 h0 h1 h2 l8 x0 x1 x2 x3 f0 f1 f2 f3 l0;go_upto_if 102 with (fail)
        go_cut [] from 53 to 113 (fun V=>Hid (Blk V w9.heap.size 60 #[.slice a B.length c,.int .i64 (s7.p:Int),.int .i64 s7.k,.int .i64 s7.f])∧Hid (Below w9.heap.size w9 V))
        case first=>
         obtain⟨p0,p1,p2,p3,q0,q1,q2,q3,l1⟩:=Ap F12
         obtain⟨y0,y1,y2,y3,_,_,_,_,_⟩:=Ap E12
         have h7:=HG1.out
         have hr:=HR7.out
         cases R7
         ·rw[Ak (GM hr.symm)] at h7
          subst h7;clear hr;go_wp2_with fail;go_meet
          case rel=>exact ⟨hid F12,HB12x⟩
         ·rw[Al (Cz hr.symm)] at h7
          have HFX:=HFU.out
          have HFY:=hid (fun W=>HFX W s6 s4.p)
          rw[←h7] at HFY
          clear h7 hr HFX;go_wp2_with fail;refine (HFY.out _).mono ?_
          rintro r w13 ⟨rfl,hb13⟩;have F13:=F12.later hb13
          have hb13':=HB12x.out.trans (hb13.mono zD)
          clear hb13 p0 p1 p2 p3 q0 q1 q2 q3 l1;obtain⟨p0,p1,p2,p3,q0,q1,q2,q3,l1⟩:=Ap F13
          go_wp2_with fail;go_meet
          case rel=>exact ⟨hid ((((F13.set 0 _).set 1 _).set 2 _).set 3 _),hid ((((hb13'.setCell zF _).setCell zF _).setCell zF _).setCell zF _)⟩
        case rest=>
         obtain⟨HF12,HB12⟩:=hcut
         obtain⟨w12,hwn⟩:∃W:World,W=wc:=⟨_,rfl⟩
         subst hwn;clear F12 E12;have HS12:=hid (HS9.out.later HB12.out)
         have HV12:=hid (AK.keep HV9.out (w':=w12) fun b hb=>HB12.out.block b hb.2)
         have hz12:=HF12.out.lt
         obtain⟨z0,z1,z2,h0,h1,h2,l8⟩:=DH HS12.out.s
         have HOB:Hid (∀q,(Value.slice av J.length cv).ownBlock=some q→w6.heap.size≤q∧q<wr.heap.size):=hid (by
          obtain⟨cells0,OA0⟩:=HS.out.own
          exact fun q e=>De OA0.1 q e)
         have hb123:Below w12.heap.size w12 (w12.alloc (.cells #[.slice a9 L.length c9] 23)):=zA
         obtain⟨cells,OA⟩:=Ax.below HS12.out.own hb123
         have hx:AK.r (fun b=>w6.heap.size≤b∧b<(w12.alloc (.cells #[.slice a9 L.length c9] 23)).heap.size∧(Value.slice av J.length cv).ownBlock≠some b) (w12.alloc (.cells #[.slice a9 L.length c9] 23)) [.slice a9 L.length c9] L:=by
          refine AK.mono (AK.keep HV12.out fun b hb=>hb123.block b (by have:=hb.2;omega)) fun b hb=>⟨?_,?_,fun e=> ?_⟩
          ·have:=hb.1;omega
          ·have:=hb.2;simp;omega
          ·have:=(HOB.out b e).2;have:=hb.1;omega
         have HX:=hid hx
         have HA:=hid OA
         have hw6:=HS12.out.le
         have HS9':Hid (w6.heap.size≤(w12.alloc (.cells #[.slice a9 L.length c9] 23)).heap.size):=hid zK
         have lc:=HS12.out.d.lt
         have l61:w1.heap.size<w6.heap.size:=zD
         clear hx OA;go_wp2_with (at_builtin;go_loud (refine Aq rfl _ _ _ rfl w6.heap.size 23 j0 (.slice none 0 0) 1 24 Tryz.underlying153 ji jz0 jz1 jz2 rfl zS (.slice av J.length cv) J.length _ rfl HA.out.1 (some ⟨w12.heap.size,0,none⟩) 1 1 [.slice a9 L.length c9] rfl (A9 w12 23 _ rfl rfl rfl) ZL zQ zD HS9'.out ?_;intro v13 w13 hown13 hgrow13 hat13;obtain⟨a13,c13,rfl⟩:=AP hown13;have OP:=hid (Ax.push HA.out rfl HX.out hown13 hgrow13 hat13 hgrow13.size);have HB13:=hid (show Below w6.heap.size w12 w13 from Below.grown (hb123.mono zD) hgrow13 HS9'.out (fun g e=>(HOB.out g e).1));have hz13:=hgrow13.size;simp at hz13;have hF13:Blk w13 w9.heap.size 60 #[.slice a B.length c,.int .i64 (s7.p:Int),.int .i64 s7.k,.int .i64 s7.f]:=(hgrow13.block w9.heap.size zK (fun e=>zB0)).trans (HF12.out.alloc _);have S13:=HS12.out.s.below HB13.out zD;have D13:=HS12.out.d.below HB13.out zD;have R413:=HS12.out.r4.below HB13.out zD;have R513:=HS12.out.r5.below HB13.out zD;have hbe13:=HS12.out.bel.trans (HB13.out.mono zD);obtain⟨n0,n1,n2,n3,n4,n5,n6⟩:=DH S13;have FF:=Blk.far hF13 (p:=⟨w3.heap.size,2,none⟩) zF (.slice a13 (J.length+1) c13);have DD:=Blk.far D13 (p:=⟨w3.heap.size,2,none⟩) zF (.slice a13 (J.length+1) c13);obtain⟨q0,q1,q2,q3,_,_,_,_,lq⟩:=Ap FF;obtain⟨o0,o1,o2,o3,u0,u1,u2',u3',lo'⟩:=Ap DD;have HSS:=hid S13;have HDD:=hid DD;have HR4:=hid R413;have HR5:=hid R513;have HBE:=hid hbe13;clear hown13 hgrow13 hat13 hF13 S13 D13 R413 R513 hbe13 FF DD z0 z1 z2 h0 h1 h2 l8))
         have HOF:=hid (Ax.MV OP.out ((((((Tch.refl (fun b=>b=w3.heap.size∨b=w1.heap.size) w13).setCell (p:=⟨w3.heap.size,2,none⟩) (fun _=> .inl rfl) (.slice a13 (J.length+1) c13)).setCell (p:=⟨w1.heap.size,0,none⟩) (fun _=> .inr rfl) (.slice a B.length c)).setCell (p:=⟨w1.heap.size,1,none⟩) (fun _=> .inr rfl) (.int .i64 (s7.p:Int))).setCell (p:=⟨w1.heap.size,2,none⟩) (fun _=> .inr rfl) (.int .i64 s7.k)).setCell (p:=⟨w1.heap.size,3,none⟩) (fun _=> .inr rfl) (.int .i64 s7.f)) (fun b h1 h2 e=>zD))
         go_roundw
         case rel=>
          refine⟨j+1,J++[L],s7,a13,c13,zD,ZB,hid zAy,hid ?_,HOK7,HSP2,HSN2⟩
          rw[Ar]
          exact⟨(((HDD.out.set 0 _).set 1 _).set 2 _).set 3 _,Blk.far (Blk.far (Blk.far (Blk.far (HSS.out.set 2 _) zF _) zF _) zF _) zF _,
           Blk.far (Blk.far (Blk.far (Blk.far (Blk.far HR4.out zF _) zF _) zF _) zF _) zF _,Blk.far (Blk.far (Blk.far (Blk.far (Blk.far HR5.out zF _) zF _) zF _) zF _) zF _,HOF.out,
           ((((HBE.out.setCell zF _).setCell zF _).setCell zF _).setCell zF _).setCell zF _,zT⟩
         case measure=>(simp[intOf];try omega)
      ·obtain rfl:j=k:=by omega
       have d1:decide ((j:Int)<(j:Int))=false:=Ad zD
       have HE:=HSP.out hk0
       rw[CS] at HE
       have HE2:U=(st,J):=HE
       have HR2:Hid (RES=(st,⟨lo,lo+(n:Int)+1,J⟩)):=hid (by rw[HRES.out,HE2];exact Al hk0)
       have HV:=hid (Ax.slice (Ai _) HS.out.own)
       obtain⟨b0,b1,b2,b3,e0,e1,e2,e3,l4⟩:=Ap HS.out.r4
       obtain⟨y0,y1,y2,g0,g1,g2,l5⟩:=DH HS.out.r5
       have HBL:=hid HS.out.bel
       have lh:w3.heap.size<w6.heap.size:=hz6
       clear HE HE2 hk0;go_wp2_with fail;go_region
       all_goals
        go_wp2;rw[HR2.out]
        refine Ag (v:=.tuple #[.agg #[.slice a B.length c,.int .i64 (st.p:Int),.int .i64 st.k,.int .i64 st.f],.agg #[.int .u64 lo,.int .u64 (lo+(n:Int)+1),.slice av J.length cv]]) Z7 rfl ⟨_,rfl,?_,ZE⟩
        refine CP.mono (CP.keep HV.out fun q hq=> ?_) fun q hq=>⟨zZ,ZD⟩
        have hq1:w6.heap.size≤q:=hq.1
        have e2:∀V:World,V.drew.heap[q]? =V.heap[q]? :=fun V=>rfl
        (repeat (first | rw[Below.heap_setCell _ _ _ _ zF] | rw[e2]))
     ·have dk:(st.k==(0:Int))=false:=by simp[hk0]
      rcases Ba j k with hlt2 | hge
      ·have d1:decide ((j:Int)<(k:Int))=true:=Ae zD
       obtain⟨b0,b1,b2,b3,e0,e1,e2,e3,l4⟩:=Ap HS.out.r4
       obtain⟨y0,y1,y2,g0,g1,g2,l5⟩:=DH HS.out.r5
       have HBL:=hid HS.out.bel
       have lh:w3.heap.size<w6.heap.size:=hz6
       have dn:(st.k !=(0:Int))=true:=zBp
       have HU1:=HSN.out hk0
       have HR2:Hid (RES=(st,Dq)):=hid (by rw[HRES.out,HU1];exact Ak hk0)
       clear hk0 HU1;go_wp2_with fail;rw[HR2.out]
       refine Ag (v:=.tuple #[.agg #[.slice a B.length c,.int .i64 (st.p:Int),.int .i64 st.k,.int .i64 st.f],.agg #[.int .u64 0,.int .u64 0,.slice none 0 0]]) Z7 rfl ⟨_,rfl,AM (xs:=[]) rfl (Ai _) (Am _) (.inl rfl),zL⟩
      ·have d1:decide ((j:Int)<(k:Int))=false:=Ad zD
       obtain⟨b0,b1,b2,b3,e0,e1,e2,e3,l4⟩:=Ap HS.out.r4
       obtain⟨y0,y1,y2,g0,g1,g2,l5⟩:=DH HS.out.r5
       have HBL:=hid HS.out.bel
       have lh:w3.heap.size<w6.heap.size:=hz6
       have dn:(st.k !=(0:Int))=true:=zBp
       have HU1:=HSN.out hk0
       have HR2:Hid (RES=(st,Dq)):=hid (by rw[HRES.out,HU1];exact Ak hk0)
       clear hk0 HU1;go_wp2_with fail;rw[HR2.out]
       refine Ag (v:=.tuple #[.agg #[.slice a B.length c,.int .i64 (st.p:Int),.int .i64 st.k,.int .i64 st.f],.agg #[.int .u64 0,.int .u64 0,.slice none 0 0]]) Z7 rfl ⟨_,rfl,AM (xs:=[]) rfl (Ai _) (Am _) (.inl rfl),zL⟩
end Go.Proofs.YtlbffbkbkajciaaGreat
