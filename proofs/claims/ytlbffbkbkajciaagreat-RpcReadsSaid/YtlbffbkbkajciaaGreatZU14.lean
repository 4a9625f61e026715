/- Mini: Needed by rpcReads_walk, part 14: texts put together by shake.py; no condition. -/
import Derived.Test.YtlbffbkbkajciaaGreatZU12
import Derived.Test.YtlbffbkbkajciaaGreatZU3
import Derived.Test.YtlbffbkbkajciaaGreatZU1
import Derived.Test.YtlbffbkbkajciaaGreatZU13
import Derived.Test.YtlbffbkbkajciaaGreatZU4
import Derived.Deep.Cut
import Derived.Deep.RegionHeld3
import Derived.Test.YtlbffbkbkajciaaGreatZU2
import Derived.Test.YtlbffbkbkajciaaGreatZU6
set_option linter.unusedVariables false
set_option linter.unusedSimpArgs false
set_option maxRecDepth 100000
set_option maxHeartbeats 6400000
namespace Go.Bs
theorem zCn{p:Prop}(h:p:=by simp [results, Tryz.results127, go_sem, m0, m1, m2, m3, l8]):p:=h
theorem zAi{p:Prop}(h:p:=by simp [results, Tryz.results205, go_sem, y0, y1, l3]):p:=h
theorem ZM{p:Prop}(h:p:=by simp [results, Tryz.results127, go_sem, y0, y1, y2, y3, l1]):p:=h
theorem C9:type_of% @World.cell?_setCell_far:=@World.cell?_setCell_far
theorem En:type_of% @Bool.false_eq_true:=@Bool.false_eq_true
theorem Ib:type_of% @Proofs.Tryz.ntmps127:=@Proofs.Tryz.ntmps127
theorem Jz:type_of% @Proofs.Tryz.func127:=@Proofs.Tryz.func127
end Go.Bs
namespace Go.Proofs.YtlbffbkbkajciaaGreat
open Go.RowKit Go.Bs Go.Maps
variable{B D out:List UInt8}{c:Nat}{a:Option Addr}{s:Rs}{W w:World}
theorem LG(l l':List UInt8):byteCells l++byteCells l'=byteCells (l++l'):=zBe
theorem PH(w:World)(out:List UInt8)(aO:Option Addr)(nO cO:Nat)(hl:Ah.r (·<w.heap.size) w [.slice aO nO cO] out)(D:List UInt8)(aD:Option Addr)(nD cD:Nat)(hD:Ah.r (·<w.heap.size) w [.slice aD nD cD] D)(off n:Nat)
 (hc:n=0∨(D=[]∧1≤off∧off≤out.length)) (hlen:out.length+D.length+n≤1000000000):
  Calls Tryz.prog 241 #[.slice aO nO cO,.agg #[.slice aD nD cD,.int .i64 (off:Int),.int .i64 (n:Int)]] w fun r w'=>∃v,r=.returned v∧Ah.r (fun q=>w.heap.size≤q∧q<w'.heap.size) w' [v] (DC off n (out++D))∧Below w.heap.size w w':=by
 obtain⟨rfl,hm,_,_⟩:=AU hl;obtain⟨rfl,hm',_,_⟩:=AU hD;obtain⟨i0,hi,hz0,hz1,hz2⟩:=Bc Ey;have HL:=hid hl;have HD:=hid hD;have HC:=hid hc;have HONE:=hid (Bd out);have HONED:=hid (Bd D);have HS:=hid (fun (W:World) (hW:Below w.heap.size w W)=>BZ (lift HL.out hW));have HSD:=hid (fun (W:World) (hW:Below w.heap.size w W)=>BZ (lift HD.out hW));clear hl hD hc;go_enter Tryz.func241,Tryz.ntmps241;go_wp2_with (first
  | (at_builtin;go_loud (refine Ar rfl _ _ _ rfl (w.heap.size+1) 5 i0 (.int .u8 0) 1 1 AK hi hz0 hz1 hz2 rfl zS (.slice none 0 0) 0 [] rfl ⟨rfl,.inl ⟨rfl,rfl⟩⟩ aO out.length cO (byteCells out) rfl (HS.out _ zA) HONE.out zR zD zE ?_;intro v' w2 hown2 hgrow2 hat2;rw[Cb,BU] at hown2;obtain⟨a2,c2,rfl⟩:=AX hown2;have k2:=Below.grown (Below.refl _ _) hgrow2 (Aj _) (fun g e=>by cases e);have B0:Blk w2 w.heap.size 225 #[.slice aD D.length cD,.int .i64 (off:Int),.int .i64 (n:Int)]:=Blk.later zB k2;obtain⟨x0,x1,x2,e0,e1,e2,l0⟩:=Ir B0;have hbw:Below w.heap.size w w2:=by {(repeat (first | with_reducible exact Below.refl _ _ | with_reducible assumption | (with_reducible refine Aw ?_ _) | (with_reducible refine Below.setCell ?_ zE _) | (with_reducible refine Below.drew ?_) | (with_reducible refine below_drewN ?_ _) | (refine Ag zI ?_)))};have hs2:w.heap.size+1≤w2.heap.size:=l0;have HO2:=hid hown2;have HB0:=hid B0;clear hown2 hgrow2 hat2 k2 B0))
  | (at_builtin;go_loud (refine Ar rfl _ _ _ rfl (w.heap.size+1) 5 i0 (.int .u8 0) 1 1 AK hi hz0 hz1 hz2 rfl zS (.slice a2 out.length c2) out.length (byteCells out) rfl HO2.out aD D.length cD (byteCells D) rfl (HSD.out _ hbw) HONED.out zR zD zD ?_;intro v' w3 hown3 hgrow3 hat3;rw[LG] at hown3;obtain⟨a3,c3,rfl⟩:=AX hown3;have k3:=Below.grown (B:=w.heap.size+1) (Below.refl _ _) hgrow3 zD (fun g e=>(HO2.out.lt g e).1);have hb3:=hbw.trans (k3.mono zD);have HB3:=hid (HB0.out.below k3 zD);have HO3:=hid hown3;have hs3:=k3.size;clear hown3 hgrow3 hat3 k3 x0 x1 x2 e0 e1 e2 l0)))
 go_loopw [5,6] (fun o i wr=>∃(k:Nat) (J:List UInt8) (aJ:Option Addr) (cJ:Nat),k≤n∧i=.int .i64 k∧o=.slice aJ J.length cJ∧wr.ownsRow (w.heap.size+1) 5 1 (.slice aJ J.length cJ) J.length (byteCells J)∧Hid (DC off n (out++D)=DC off (n-k) J)∧Hid (J.length=out.length+D.length+k)∧Below w.heap.size w wr∧w.heap.size+1≤wr.heap.size∧Blk wr w.heap.size 225 #[.slice aD D.length cD,.int .i64 (off:Int),.int .i64 (n:Int)]) (fun _ i _=>n-(intOf i).toNat)
 case atStart=>exact ⟨0,out++D,a3,c3,Ao _,rfl,zP,by simpa using HO3.out,hid rfl,hid zP,hb3,zD,HB3.out⟩
 case round=>
  obtain⟨k,J,aJ,cJ,hk,rfl,rfl,ho,hJ,hln,hb,hbs,hB⟩:=hrel;have HJO:=hid ho;obtain⟨x0,x1,x2,e0,e1,e2,l0⟩:=Ir hB;have HB:=hid hB;clear hB;rcases Bm k n with hlt | hge
  ·have d1:decide ((k:Int)<(n:Int))=true:=Ae zD
   have d1':decide (k<n)=true:=Ae hlt;have hcc:1≤off∧off≤out.length∧J.length=out.length+k:=by
    rcases HC.out with h | ⟨h,h1,h2⟩
    ·omega
    ·have:=hln.out;rw[h] at this;simp at this;exact⟨h1,h2,this⟩
   have hml:off≤J.length:=zD;have hJm:J.length+1≤1000000000000:=zD;have hst:Hid (DC off (n-k) J=DC off (n-(k+1)) (J++[J.getD (J.length-off) 0])):=hid zDc;have hgd:J.getD (J.length-off) 0=J[J.length-off]'zD:=zB7;rw[hgd] at hst;obtain⟨gb,ob,hA,hgb,hc⟩:=Bt (GA rfl ho) (i:=J.length-off) zD;subst hA;obtain⟨m,hm⟩:∃m,m=J.length-off:=⟨_,rfl⟩;have e1':(out.length:Int)+(k:Int)-(off:Int)=(m:Int):=zD;generalize J[J.length-off]'zD=x at*;rw[←hm] at hc;have i1:(m:Int)<(J.length:Int):=zD;have i2:(0:Int)≤(m:Int):=zD;have HCC:=hid hcc;clear ho hgd hm hcc;go_wp2_with (at_builtin;go_loud (refine Ar rfl _ _ _ rfl (w.heap.size+1) 5 i0 (.int .u8 0) 1 1 AK hi hz0 hz1 hz2 rfl zS (.slice (some ⟨gb,ob,none⟩) J.length cJ) J.length (byteCells J) rfl (AR HJO.out zC) (some ⟨wr.heap.size,0,none⟩) 1 1 [.int .u8 (x.toNat:Int)] rfl (Bf wr 5 _ rfl rfl rfl) (H6 x) zR zD zM ?_;intro v' w3 hown3 hgrow3 hat3;obtain⟨a3,c3,rfl⟩:=AX hown3;have HO3:=hid hown3;have HG3:=hid hgrow3;clear hown3 hgrow3 hat3))
   have ho3:=HO3.out;rw[C8,show J.length+1=(J++[x]).length by simp] at ho3;have hb3:Below (w.heap.size+1) wr w3:=(Below.grown (Below.refl _ _) HG3.out zM (fun g e=>(HJO.out.lt g e).1)) |>(fun h=>(Aw (Below.refl _ _) _ |>.mono hbs).trans h);have HO4:=hid ho3;have hs3:=hb3.size;have HB4:=hid (HB.out.below hb3 zD);clear ho3 hc;go_roundw
   case rel=>exact ⟨k+1,J++[x],a3,c3,zD,zZ,zP,HO4.out,hid (hJ.out.trans hst.out),hid (by simp;have:=hln.out;omega),hb.trans (hb3.mono zD),zD,HB4.out⟩
   case measure=>simp [intOf];omega
  ·obtain rfl:k=n:=by omega
   have d1:decide ((k:Int)<(k:Int))=false:=Ad zD;have hfin:Hid (DC off k (out++D)=J):=hid (by rw[hJ.out,Dg];rfl);have HV:=hid (B9 rfl ho);clear ho;go_wp2;go_ret;rw[hfin.out];exact⟨_,rfl,Ah.mono HV.out fun q hq=>⟨zD,hq.2⟩,hb⟩
theorem TC(x:Nat):Ed x≤1048576:=by
 unfold Ed;split
 ·omega
 ·split
  ·omega
  ·omega
structure T6(w W:World)(B:List UInt8)(a:Option Addr)(c:Nat)(s:Rs)(out:List UInt8)(aO:Option Addr)(cO:Nat):Prop where
 cb:Blk W (w.heap.size+1) 60 #[.slice a B.length c,.int .i64 (s.p:Int),.int .i64 s.k,.int .i64 s.f]
 fl:Blk W w.heap.size 58 #[.int .i64 0,.int .i64 0]
 ok:s.ok B.length
 k:s.k=0
 own:Ah.r (fun q=>w.heap.size+2≤q∧q<W.heap.size) W [.slice aO out.length cO] out
 be:Below w.heap.size w W
def TH(L g:Nat)(W:World):Nat:=L-(LF W g 1).toNat
theorem T6.mu{aO:Option Addr}{cO:Nat}(h:T6 w W B a c s out aO cO):TH B.length (w.heap.size+1) W=B.length-s.p:=by
 have c1:=h.cb.cell 1;simp at c1;unfold TH LF;rw[c1];simp[intOf]
set_option maxHeartbeats 12800000 in
theorem Oa(w:World)(B:List UInt8)(a:Option Addr)(n c:Nat)(hl:Ah.r (·<w.heap.size) w [.slice a n c] B)(hB:B.length≤1000000000)(bound:Int)(hbd: -9223372036854775808≤bound∧bound≤1048576):
  Calls Tryz.prog 205 #[.slice a n c,.int .i64 bound] w fun r w'=>∃v,r=.returned (.tuple #[v,.agg #[.int .i64 (exB B bound).2.1,.int .i64 (exB B bound).2.2]])∧Ah.r (fun q=>w.heap.size≤q∧q<w'.heap.size) w' [v] (exB B bound).1∧Below w.heap.size w w':=by
 obtain⟨rfl,hm,hcc,hcm⟩:=AU hl;have HL:=hid hl;have HEB:=hid (TM B bound);clear hl;go_enter Tryz.func205,Tryz.ntmps205;go_wp2_with fail;refine Cm (fun W=>T6 w W B a c ⟨0,0,0⟩ [] none 0) ⟨zB,zB,⟨Ao _,fun _=>rfl⟩,rfl,AT rfl rfl zD,zA⟩ ?_;intro W0 hW0;have HW0:=hid hW0;clear hW0;go_loopw [7] (fun o wr=>∃(s:Rs) (out:List UInt8) (aO:Option Addr) (cO:Nat),o=.slice aO out.length cO∧T6 w wr B a c s out aO cO∧Hid (exR B bound s out=exR B bound ⟨0,0,0⟩ [])∧OI bound out) (fun _ wr=>TH B.length (w.heap.size+1) wr)
 case atStart=>exact ⟨⟨0,0,0⟩,[],none,0,rfl,HW0.out,hid rfl,.inl rfl⟩
 case round=>
  obtain⟨s,out,aO,cO,rfl,hI,hex,hin⟩:=hrel;have hlen:=Lz hin hbd;have hok:=hI.ok;have hk:=hI.k;have hpl:=hok.le;have HI:=hid hI;have HIN:=hid hin;obtain⟨x0,x1,x2,x3,e0,e1,e2,e3,l0⟩:=Aq hI.cb;have hbw:=hI.be;have hzw:w.heap.size+1<wr.heap.size:=hI.cb.lt;clear hI hin;by_cases hp:s.p<B.length
  ·have d0:decide ((s.p:Int)<(B.length:Int))=true:=Ae zD
   have d0':decide (s.p<B.length)=true:=Ae hp;have hgo:=TG (bound:=bound) (out:=out) hok hp hk;rw[hex.out] at hgo;have HGO:=hid hgo;have HMORE:=hid (Fl (B:=B) (bound:=bound) (s:=s) (out:=out));have hin2:=hid (JS (B:=B) (s:=s) HIN.out);have hA:=Vu (B:=B) (bound:=bound) (s:=s) (out:=out);have hNB:=N3 (B:=B) (bound:=bound) (s:=s) (out:=out);have hLG:=SR (B:=B) (bound:=bound) (s:=s) (out:=out);have hGD:=SU (B:=B) (bound:=bound) (s:=s) (out:=out);have hesok:=Ik (B:=B) (bound:=bound) (s:=s) (out:=out) hok;unfold Vm at hA;have hsm:=Rs.Cp (B:=B) (s:=s);have hR:=hid (fun (W:World) (hW:Below w.heap.size w W)=>CM W a c B (lift HL.out hW) s hok zD);have hT:=hid (fun (W:World) (hW:Below w.heap.size w W)=>PJ W a c B (lift HL.out hW) s hok zD);have hHD:=hid (fun (W:World)=>PI W (s.num B).2 hsm);have HBAD:Hid ((BQ B bound s out).1.k≠0→exB B bound=([],(BQ B bound s out).1.k,(BQ B bound s out).1.f)):=hid fun h=>by
    rw[HEB.out,HGO.out,H4 (fun e=>h e.2),Ak h]
   generalize BQ B bound s out=ES at*;generalize s.tok B=T at*;generalize s.num B=N at*;obtain⟨s1,x⟩:=N;obtain⟨s2,tk⟩:=T;obtain⟨D,off,ln⟩:=tk;dsimp only at*;have hRle:=TC x;generalize hRx:Ed x=R at*;have HK:=hid hk;unfold CV at*;clear hgo hk hok hRx;by_cases hk1:s1.k=0
   ·have dk:(s1.k==(0:Int))=true:=by simp[hk1]
    by_cases hR0:0<R
    ·have dR:decide ((0:Int)<(R:Int))=true:=Ae zD
     have dR':decide (0<R)=true:=Ae hR0;by_cases hb:bound<(out.length:Int)+(R:Int)
     ·have db:decide (bound<(out.length:Int)+(R:Int))=true:=Ae hb
      have hes:=hA ⟨hk1,hR0,hb⟩;have hbad:=HBAD.out (by rw[hes.1];omega);rw[hes.1,hes.2] at hbad;have HX:=hid hbad;clear hA hNB hLG hGD hk1 hR0 hb hes hbad;go_wp2_with fail;refine (hR.out _ zA).mono ?_;rintro r w1 ⟨rfl,hb1⟩;have hbw1:Below w.heap.size w w1:=Ag hb1 hbw;have B1:=HI.out.cb.later hb1;have F1:=HI.out.fl.later hb1;obtain⟨v0,v1,v2,v3,q0,q1,q2,q3,l1⟩:=Aq B1;clear x0 x1 x2 x3 e0 e1 e2 e3 l0;go_wp2_with fail;refine (hHD.out _).mono ?_;rintro r w1' ⟨rfl,rfl⟩;go_wp2_with fail;refine (hHD.out _).mono ?_;rintro r w1' ⟨rfl,rfl⟩;go_wp2_with fail;refine (DF _ 11 _ zD).mono ?_;rintro r w2 ⟨rfl,hb2⟩;have hbw2:Below w.heap.size w w2:=zA;obtain⟨y0,y1,g0,g1,l2⟩:=A1 ((F1.alloc _).later hb2);clear B1 F1;go_wp2;refine Af (v:=.tuple #[.slice none 0 0,.agg #[.int .i64 11,.int .i64 (s.p:Int)]]) (by simp[results,Tryz.results205,go_sem,y0,y1,l2]) rfl ⟨_,zBv,ZR,zA⟩
     ·have db:decide (bound<(out.length:Int)+(R:Int))=false:=Ad hb
      have hgd:=hGD hk1 hR0 zD;clear hA hNB hLG hGD hk1;by_cases hk2:s2.k=0
      ·have dk2:(s2.k !=(0:Int))=false:=by simp[hk2]
       rw[An hk2] at hgd;by_cases ho:(out.length:Int)<off
       ·have dho:decide ((out.length:Int)<off)=true:=Ae ho
        rw[An ho] at hgd;have hbad:=HBAD.out (by rw[hgd.1];omega);rw[hgd.1,hgd.2] at hbad;have HX:=hid hbad;clear hgd hbad hR0 hb hk2 ho;go_wp2_with fail;refine (hR.out _ zA).mono ?_;rintro r w1 ⟨rfl,hb1⟩;have hbw1:Below w.heap.size w w1:=Ag hb1 hbw;have B1:=HI.out.cb.later hb1;have F1:=HI.out.fl.later hb1;obtain⟨v0,v1,v2,v3,q0,q1,q2,q3,l1⟩:=Aq B1;clear x0 x1 x2 x3 e0 e1 e2 e3 l0;go_wp2_with fail;refine (hHD.out _).mono ?_;rintro r w1' ⟨rfl,rfl⟩;go_wp2_with fail;refine (hHD.out _).mono ?_;rintro r w1' ⟨rfl,rfl⟩;go_wp2_with fail;refine (hT.out _ zA).mono ?_;rintro r w2 ⟨v,rfl,hr,hb2⟩;have hbw2:Below w.heap.size w w2:=zA;have B2:=(B1.alloc _).later hb2;have F2:=(F1.alloc _).later hb2;have H2:=Blk.later (Blk.newAt w1 _ _ rfl) hb2;have hz2:=hb2.size;simp at hz2;obtain⟨aD,cD,hv,hr2,_⟩:=At hr;simp only[Ai,As] at hv;subst hv;have HR:=hid (Ah.mono (S':=(·<w2.heap.size)) hr2 fun q hq=>hq.2);have HB1:=hid hb1;have HB2:=hid hb2;clear hr hr2 v0 v1 v2 v3 q0 q1 q2 q3 hb1 hb2;obtain⟨v0,v1,v2,v3,q0,q1,q2,q3,l4⟩:=Aq H2;go_wp2_with fail;refine (DF _ 10 _ zD).mono ?_;rintro r w3 ⟨rfl,hb3⟩;have hbw3:Below w.heap.size w w3:=zA;obtain⟨y0,y1,g0,g1,l3⟩:=A1 (((F2.alloc _).alloc _).later hb3);clear B1 F1 B2 F2 H2;go_wp2;refine Af (v:=.tuple #[.slice none 0 0,.agg #[.int .i64 10,.int .i64 (s1.p:Int)]]) zAi rfl ⟨_,zBv,ZR,zA⟩
       ·have dho:decide ((out.length:Int)<off)=false:=Ad ho
        rw[Ak ho] at hgd;obtain⟨hes,hcs⟩:=hgd;subst hes;dsimp only at*;obtain⟨offn,rfl⟩:∃k:Nat,off=k:=⟨off.toNat,zD⟩;obtain⟨lnn,rfl⟩:∃k:Nat,ln=k:=⟨ln.toNat,zD⟩;rw[show ((offn:Int)).toNat=offn by omega,show ((lnn:Int)).toNat=lnn by omega] at*;have dho':decide (out.length<offn)=false:=Ad zD;have hc2:lnn=0∨(D=[]∧1≤offn∧offn≤out.length):=by
         rcases hcs with h | h
         ·left;omega
         ·right;exact⟨h.1,zD,zD⟩
        have hsz:out.length+D.length+lnn≤1000000000:=by
         rcases hcs with h | h
         ·omega
         ·rw[h.1];simp;omega
        have HC2:=hid hc2;have HK2:=hid hk2;clear hR0 hb hk2 ho hcs hc2;go_wp2_with fail;refine (hR.out _ zA).mono ?_;rintro r w1 ⟨rfl,hb1⟩;have hbw1:Below w.heap.size w w1:=Ag hb1 hbw;have B1:=HI.out.cb.later hb1;have F1:=HI.out.fl.later hb1;obtain⟨v0,v1,v2,v3,q0,q1,q2,q3,l1⟩:=Aq B1;clear x0 x1 x2 x3 e0 e1 e2 e3 l0;go_wp2_with fail;refine (hHD.out _).mono ?_;rintro r w1' ⟨rfl,rfl⟩;go_wp2_with fail;refine (hHD.out _).mono ?_;rintro r w1' ⟨rfl,rfl⟩;go_wp2_with fail;refine (hT.out _ zA).mono ?_;rintro r w2 ⟨v,rfl,hr,hb2⟩;have hbw2:Below w.heap.size w w2:=zA;have B2:=(B1.alloc _).later hb2;have F2:=(F1.alloc _).later hb2;have H2:=Blk.later (Blk.newAt w1 _ _ rfl) hb2;have hz2:=hb2.size;simp at hz2;obtain⟨aD,cD,hv,hr2,_⟩:=At hr;simp only[Ai,As] at hv;subst hv;have HR:=hid (Ah.mono (S':=(·<w2.heap.size)) hr2 fun q hq=>hq.2);have HB1:=hid hb1;have HB2:=hid hb2;clear hr hr2 v0 v1 v2 v3 q0 q1 q2 q3 hb1 hb2;have hown2:Ah.r (·<w2.heap.size) w2 [.slice aO out.length cO] out:=Ah.mono (Ah.keep HI.out.own fun q hq=>(HB2.out.block q (by have:=HB1.out.size;simp;omega)).trans ((A2 _ _ q (by have:=HB1.out.size;omega)).trans (HB1.out.block q hq.2))) fun q hq=>by have:=HB1.out.size;omega
        have HO2:=hid hown2;clear hown2;go_wp2_with fail;refine (PH _ out aO _ cO (lift HO2.out zA) D aD _ cD (lift HR.out zA) offn lnn HC2.out hsz).mono ?_;rintro r w3 ⟨v,rfl,hr,hb3⟩;have hbw3:Below w.heap.size w w3:=zA;have B3:=((B2.alloc _).alloc _).later hb3;have F3:=((F2.alloc _).alloc _).later hb3;have G3:Blk w3 w2.heap.size 60 #[.slice a B.length c,.int .i64 (s2.p:Int),.int .i64 s2.k,.int .i64 s2.f]:=Blk.later (Blk.alloc (Blk.newAt w2 _ _ rfl) _) hb3;have hz3:=hb3.size;simp at hz3;obtain⟨a3,c3,hv,hr2,_⟩:=At hr;simp only[Ai,As] at hv;subst hv;have HR3:=hid hr2;obtain⟨x0,x1,x2,x3,e0,e1,e2,e3,l0⟩:=Aq B3;obtain⟨v0,v1,v2,v3,q0,q1,q2,q3,l4⟩:=Aq G3;have HB3:=hid B3;have HF3:=hid F3;clear hr hr2 B1 F1 B2 F2 H2 B3 F3 G3 hb3;have hpx:s.p<s2.p:=(HMORE.out HK2.out).1;go_wp2;have hI4:T6 w ((((w3.setCell ⟨w.heap.size+1,0,none⟩ (.slice a B.length c)).setCell ⟨w.heap.size+1,1,none⟩ (.int .i64 (s2.p:Int))).setCell ⟨w.heap.size+1,2,none⟩ (.int .i64 s2.k)).setCell ⟨w.heap.size+1,3,none⟩ (.int .i64 s2.f)) B a c s2 (DC offn lnn (out++D)) a3 c3:=by
         refine⟨Blk.set (Blk.set (Blk.set (Blk.set HB3.out 0 _) 1 _) 2 _) 3 _,?_,hesok,HK2.out,?_,zA⟩
         ·exact Blk.far (Blk.far (Blk.far (Blk.far HF3.out zP _) zP _) zP _) zP _
         ·refine Ah.mono (Ah.keep HR3.out fun q hq=> ?_) fun q hq=>⟨ZF,ZD⟩
          have hq1:=hq.1;simp at hq1;repeat (rw[Ap _ _ _ _ zH])
        have HI4:=hid hI4;clear hI4;go_roundw
        case rel=>exact ⟨s2,_,a3,c3,rfl,HI4.out,hid HGO.out.symm,hin2.out⟩
        case measure=>
         rw[HI4.out.mu,HI.out.mu];omega
      ·have dk2:(s2.k !=(0:Int))=true:=by simp[hk2]
       rw[Ak hk2] at hgd;have hbad:=HBAD.out (by rw[hgd];exact hk2);rw[hgd] at hbad;have HX:=hid hbad;clear hgd hbad hR0 hb hk2;go_wp2_with fail;refine (hR.out _ zA).mono ?_;rintro r w1 ⟨rfl,hb1⟩;have hbw1:Below w.heap.size w w1:=Ag hb1 hbw;have B1:=HI.out.cb.later hb1;have F1:=HI.out.fl.later hb1;obtain⟨v0,v1,v2,v3,q0,q1,q2,q3,l1⟩:=Aq B1;clear x0 x1 x2 x3 e0 e1 e2 e3 l0;go_wp2_with fail;refine (hHD.out _).mono ?_;rintro r w1' ⟨rfl,rfl⟩;go_wp2_with fail;refine (hHD.out _).mono ?_;rintro r w1' ⟨rfl,rfl⟩;go_wp2_with fail;refine (hT.out _ zA).mono ?_;rintro r w2 ⟨v,rfl,hr,hb2⟩;have hbw2:Below w.heap.size w w2:=zA;have B2:=(B1.alloc _).later hb2;have F2:=(F1.alloc _).later hb2;have H2:=Blk.later (Blk.newAt w1 _ _ rfl) hb2;have hz2:=hb2.size;simp at hz2;obtain⟨aD,cD,hv,hr2,_⟩:=At hr;simp only[Ai,As] at hv;subst hv;have HR:=hid (Ah.mono (S':=(·<w2.heap.size)) hr2 fun q hq=>hq.2);have HB1:=hid hb1;have HB2:=hid hb2;clear hr hr2 v0 v1 v2 v3 q0 q1 q2 q3 hb1 hb2;obtain⟨y0,y1,g0,g1,l3⟩:=A1 F2;clear B2 F2 H2 B1 F1;go_wp2_with fail;go_region
       all_goals
        go_wp2;refine Af (v:=.tuple #[.slice none 0 0,.agg #[.int .i64 s2.k,.int .i64 s2.f]]) zAi rfl ⟨_,zBv,ZR,zA⟩
    ·have dR:decide ((0:Int)<(R:Int))=false:=Ad zD
     have dR':decide (0<R)=false:=Ad hR0;have hes:=hLG hk1 zD;have hk2:=hes.2;have dk2:(s2.k !=(0:Int))=true:=by simp[hk2]
     have hbad:=HBAD.out (by rw[hes.1];exact hk2);rw[hes.1] at hbad;have HX:=hid hbad;clear hA hNB hLG hGD hk1 hR0 hes hbad hk2;go_wp2_with fail;refine (hR.out _ zA).mono ?_;rintro r w1 ⟨rfl,hb1⟩;have hbw1:Below w.heap.size w w1:=Ag hb1 hbw;have B1:=HI.out.cb.later hb1;have F1:=HI.out.fl.later hb1;obtain⟨v0,v1,v2,v3,q0,q1,q2,q3,l1⟩:=Aq B1;clear x0 x1 x2 x3 e0 e1 e2 e3 l0;go_wp2_with fail;refine (hHD.out _).mono ?_;rintro r w1' ⟨rfl,rfl⟩;go_wp2_with fail;refine (hT.out _ zA).mono ?_;rintro r w2 ⟨v,rfl,hr,hb2⟩;have hbw2:Below w.heap.size w w2:=zA;have B2:=(B1.alloc _).later hb2;have F2:=(F1.alloc _).later hb2;have H2:=Blk.later (Blk.newAt w1 _ _ rfl) hb2;have hz2:=hb2.size;simp at hz2;obtain⟨aD,cD,hv,hr2,_⟩:=At hr;simp only[Ai,As] at hv;subst hv;have HR:=hid (Ah.mono (S':=(·<w2.heap.size)) hr2 fun q hq=>hq.2);have HB1:=hid hb1;have HB2:=hid hb2;clear hr hr2 v0 v1 v2 v3 q0 q1 q2 q3 hb1 hb2;obtain⟨y0,y1,g0,g1,l3⟩:=A1 F2;clear B2 F2 H2 B1 F1;go_wp2_with fail;go_region
     all_goals
      go_wp2;refine Af (v:=.tuple #[.slice none 0 0,.agg #[.int .i64 s2.k,.int .i64 s2.f]]) zAi rfl ⟨_,zBv,ZR,zA⟩
   ·have dk:(s1.k==(0:Int))=false:=by simp[hk1]
    have hes:=hNB hk1;have hk2:s2.k≠0:=by rw[hes.2];exact hk1
    have dk2:(s2.k !=(0:Int))=true:=by simp[hk2]
    have hbad:=HBAD.out (by rw[hes.1];exact hk2);rw[hes.1] at hbad;have HX:=hid hbad;clear hA hNB hLG hGD hk1 hes hbad hk2;go_wp2_with fail;refine (hR.out _ zA).mono ?_;rintro r w1 ⟨rfl,hb1⟩;have hbw1:Below w.heap.size w w1:=Ag hb1 hbw;have B1:=HI.out.cb.later hb1;have F1:=HI.out.fl.later hb1;obtain⟨v0,v1,v2,v3,q0,q1,q2,q3,l1⟩:=Aq B1;clear x0 x1 x2 x3 e0 e1 e2 e3 l0;go_wp2_with fail;refine (hT.out _ zA).mono ?_;rintro r w2 ⟨v,rfl,hr,hb2⟩;have hbw2:Below w.heap.size w w2:=zA;have B2:=(B1.alloc _).later hb2;have F2:=(F1.alloc _).later hb2;have H2:=Blk.later (Blk.newAt w1 _ _ rfl) hb2;have hz2:=hb2.size;simp at hz2;obtain⟨aD,cD,hv,hr2,_⟩:=At hr;simp only[Ai,As] at hv;subst hv;have HR:=hid (Ah.mono (S':=(·<w2.heap.size)) hr2 fun q hq=>hq.2);have HB1:=hid hb1;have HB2:=hid hb2;clear hr hr2 v0 v1 v2 v3 q0 q1 q2 q3 hb1 hb2;obtain⟨y0,y1,g0,g1,l3⟩:=A1 F2;clear B2 F2 H2 B1 F1;go_wp2_with fail;go_region
    all_goals
     go_wp2;refine Af (v:=.tuple #[.slice none 0 0,.agg #[.int .i64 s2.k,.int .i64 s2.f]]) zAi rfl ⟨_,zBv,ZR,zA⟩
  ·have d0:decide ((s.p:Int)<(B.length:Int))=false:=Ad zD
   have d0':decide (s.p<B.length)=false:=Ad hp;have hx:=HEB.out;rw[←hex.out,H4 (fun e=>hp e.1),An hk] at hx;have HX:=hid hx;clear hx hex hk hok;obtain⟨y0,y1,g0,g1,l1⟩:=A1 HI.out.fl;go_wp2;refine Af (v:=.tuple #[.slice aO out.length cO,.agg #[.int .i64 0,.int .i64 0]]) (by simp[results,Tryz.results205,go_sem,y0,y1,l1]) rfl ⟨_,zBv,?_,zA⟩;rw[HX.out];refine Ah.mono (Ah.keep HI.out.own fun q hq=> ?_) fun q hq=>⟨zD,Z3⟩;repeat (rw[Ap _ _ _ _ zH])
theorem QU(B:List UInt8)(s:Rs):(s.take B 1).1=(s.byte B).1:=rfl
theorem Ue(h:(s.byte B).1.k=0):(s.take B 1).2=[(s.byte B).2]:=by
 have h':(s.skip B.length 1).2.k=0:=h;unfold Rs.take Rs.byte;cases hk:(s.skip B.length 1).1
 ·exact absurd h' (Rs.IE hk).1
 ·have:=Rs.FH hk
  have hp:s.p<B.length:=zD;have e1:(B.drop s.p).take 1=[B[s.p]]:=by rw[AO hp];rfl
  have e2:B.getD s.p 0=B[s.p]:=by simp[hp]
  simp only[DE];rw[show (1:Int).toNat=1 from rfl,e1,e2]
structure Fu(w W:World)(B:List UInt8)(a:Option Addr)(c:Nat)(s sf:Rs)(ge:Nat)(D:List UInt8)(aD:Option Addr)(cD:Nat):Prop where
 b0:Blk W w.heap.size 60 #[.slice a B.length c,.int .i64 (s.p:Int),.int .i64 s.k,.int .i64 s.f]
 b1:Blk W (w.heap.size+1) 60 #[.slice none 0 0,.int .i64 0,.int .i64 0,.int .i64 0]
 be:Blk W ge 60 #[.slice a B.length c,.int .i64 (sf.p:Int),.int .i64 sf.k,.int .i64 sf.f]
 lo:w.heap.size+1<ge
 dat:Ah.r (fun q=>ge<q∧q<W.heap.size) W [.slice aD D.length cD] D
 bel:Below w.heap.size w W
theorem Fu.later{V V':World}{sf:Rs}{ge:Nat}{aD:Option Addr}{cD:Nat}(h:Fu w V B a c s sf ge D aD cD)(hb:Below V.heap.size V V'):Fu w V' B a c s sf ge D aD cD:=
 ⟨h.b0.later hb,h.b1.later hb,h.be.later hb,h.lo,Ah.mono (Ah.keep h.dat fun q hq=>hb.block q hq.2) fun q hq=>⟨hq.1,Am hq.2 hb.size⟩,Ag hb h.bel⟩
theorem Fu.data{w V:World}{B:List UInt8}{a:Option Addr}{c:Nat}{s sf:Rs}{ge:Nat}{D':List UInt8}{aD aD':Option Addr}{cD cD':Nat}(h:Fu w V B a c s sf ge D aD cD)(hd:Ah.r (fun q=>ge<q∧q<V.heap.size) V [.slice aD' D'.length cD'] D'):Fu w V B a c s sf ge D' aD' cD':=
 ⟨h.b0,h.b1,h.be,h.lo,hd,h.bel⟩
theorem Fu.set{V:World}{sf:Rs}{ge:Nat}{aD:Option Addr}{cD:Nat}(h:Fu w V B a c s sf ge D aD cD)(t:Rs):
  Fu w ((((V.setCell ⟨ge,0,none⟩ (.slice a B.length c)).setCell ⟨ge,1,none⟩ (.int .i64 (t.p:Int))).setCell ⟨ge,2,none⟩ (.int .i64 t.k)).setCell ⟨ge,3,none⟩ (.int .i64 t.f)) B a c s t ge D aD cD:=by
 have hlo:=h.lo;refine⟨?_,?_,?_,hlo,?_,?_⟩
 ·exact Blk.far (Blk.far (Blk.far (Blk.far h.b0 zH _) zH _) zH _) zH _
 ·exact Blk.far (Blk.far (Blk.far (Blk.far h.b1 zH _) zH _) zH _) zH _
 ·exact Blk.set (Blk.set (Blk.set (Blk.set h.be 0 _) 1 _) 2 _) 3 _
 ·refine Ah.mono (Ah.keep h.dat fun q hq=> ?_) fun q hq=>⟨hq.1,ZD⟩
  have hq1:=hq.1;repeat (rw[Ap _ _ _ _ zH])
 ·have hb:=h.bel
  (repeat (first | with_reducible exact Below.refl _ _ | with_reducible assumption | (with_reducible refine Aw ?_ _) | (with_reducible refine Below.setCell ?_ zE _) | (with_reducible refine Below.drew ?_) | (with_reducible refine below_drewN ?_ _) | (refine Ag zI ?_)))
set_option maxHeartbeats 12800000 in
theorem Kg(w:World)(a:Option Addr)(c:Nat)(B:List UInt8)(hl:Ah.r (·<w.heap.size) w [.slice a B.length c] B)(s:Rs)(hs:s.ok B.length)(hB:B.length≤1000000000)(most:Int)(hm: -9223372036854775808≤most∧most≤9223372036854775807):
  Calls Tryz.prog 127 #[CV a B.length c s,.int .i64 most] w fun r w'=>∃v,r=.returned (.tuple #[CV a B.length c (s.loose B most).1,v,.bool (s.loose B most).2.2])∧Ah.r (fun q=>w.heap.size≤q∧q<w'.heap.size) w' [v] (s.loose B most).2.1∧Below w.heap.size w w':=by
 have HL:=hid hl;have hI:=hid (fun (W:World) (hW:Below w.heap.size w W)=>Ex W a c B (lift HL.out hW) s hs zD (min most 1048576) zD);have hiok:=Rs.Eh hs (m:=min most 1048576);have hip:=Rs.Ty (B:=B) (s:=s) (m:=min most 1048576);have hile:(s.int B (min most 1048576)).2≤1048576:=zCg;have hbok:=Rs.Gl hiok;have hbp:=Rs.JZ hiok;have hBY:=hid (fun (W:World) (hW:Below w.heap.size w W)=>Es W a c B (lift HL.out hW) (s.int B (min most 1048576)).1 hiok 1 zD zD);have hTK:=hid (fun (W:World) (hW:Below w.heap.size w W)=>Es W a c B (lift HL.out hW) ((s.int B (min most 1048576)).1.byte B).1 hbok ((s.int B (min most 1048576)).2:Int) zD zD);have htok:=Rs.GI (B:=B) hbok ((s.int B (min most 1048576)).2:Int);have htp:=Rs.Pc hbok ((s.int B (min most 1048576)).2:Int);have htl:(((s.int B (min most 1048576)).1.byte B).1.take B ((s.int B (min most 1048576)).2:Int)).2.length≤1048576:=by
  by_cases h0:(((s.int B (min most 1048576)).1.byte B).1.take B ((s.int B (min most 1048576)).2:Int)).1.k=0
  ·rw[(Rs.Gs h0).2.2];omega
  ·rw[Rs.I0 h0];simp
 have hBL:=hid (fun (W:World) (hW:Below w.heap.size w W)=>Le W a c B (lift HL.out hW) ((s.int B (min most 1048576)).1.byte B).1 hbok zD 1048576 zD);have hblok:=Rs.FB hbok 1048576;have hblp:=Rs.TV hbok 1048576;have hbll:(((s.int B (min most 1048576)).1.byte B).1.Cd B 1048576).2.length≤B.length:=by
  unfold Rs.Cd Rs.take;dsimp only;split
  ·simp;omega
  ·simp
 have hxf:=JT (((s.int B (min most 1048576)).1.byte B).1.Cd B 1048576).2 ((s.int B (min most 1048576)).2:Int);have hX:=hid (fun (W:World) (aD:Option Addr) (nD cD:Nat) (hl:Ah.r (·<W.heap.size) W [.slice aD nD cD] (((s.int B (min most 1048576)).1.byte B).1.Cd B 1048576).2)=>Oa W (((s.int B (min most 1048576)).1.byte B).1.Cd B 1048576).2 aD nD cD hl zD ((s.int B (min most 1048576)).2:Int) zD);have hF7:=hid (fun (W:World)=>Bk W a B.length c ((s.int B (min most 1048576)).1.byte B).1 7 ((((s.int B (min most 1048576)).1.byte B).1.p:Int)-1) zD);have hF3:=hid (fun (W:World)=>Bk W a B.length c (((s.int B (min most 1048576)).1.byte B).1.Cd B 1048576).1 3 ((((s.int B (min most 1048576)).1.byte B).1.Cd B 1048576).1.p:Int) zD);have hFX:=hid (fun (W:World) (hk:(exB (((s.int B (min most 1048576)).1.byte B).1.Cd B 1048576).2 ((s.int B (min most 1048576)).2:Int)).2.1≠0)=>Bk W a B.length c (((s.int B (min most 1048576)).1.byte B).1.Cd B 1048576).1 (exB (((s.int B (min most 1048576)).1.byte B).1.Cd B 1048576).2 ((s.int B (min most 1048576)).2:Int)).2.1 ((exB (((s.int B (min most 1048576)).1.byte B).1.Cd B 1048576).2 ((s.int B (min most 1048576)).2:Int)).2.2+(((((s.int B (min most 1048576)).1.byte B).1.Cd B 1048576).1.p:Int)-((((s.int B (min most 1048576)).1.byte B).1.Cd B 1048576).2.length:Int))) hk);have hfk3:=Rs.BV (s:=(((s.int B (min most 1048576)).1.byte B).1.Cd B 1048576).1) (c:=3) (at_:=((((s.int B (min most 1048576)).1.byte B).1.Cd B 1048576).1.p:Int)) zD;have hfkx:=fun hk=>Rs.BV (s:=(((s.int B (min most 1048576)).1.byte B).1.Cd B 1048576).1) (c:=(exB (((s.int B (min most 1048576)).1.byte B).1.Cd B 1048576).2 ((s.int B (min most 1048576)).2:Int)).2.1) (at_:=((exB (((s.int B (min most 1048576)).1.byte B).1.Cd B 1048576).2 ((s.int B (min most 1048576)).2:Int)).2.2+(((((s.int B (min most 1048576)).1.byte B).1.Cd B 1048576).1.p:Int)-((((s.int B (min most 1048576)).1.byte B).1.Cd B 1048576).2.length:Int)))) hk;have hby1:=Ue (B:=B) (s:=(s.int B (min most 1048576)).1);have hb1:((s.int B (min most 1048576)).1.byte B).1.k=0→((s.int B (min most 1048576)).1.byte B).1.p=(s.int B (min most 1048576)).1.p+1:=fun hk=>JZ rfl hk;rw[QU] at hBY;have hUeq:((s.int B (min most 1048576)).1.byte B).1.unp B (s.int B (min most 1048576)).2=(if (((s.int B (min most 1048576)).1.byte B).1.Cd B 1048576).1.k=0 then
  (if (exB (((s.int B (min most 1048576)).1.byte B).1.Cd B 1048576).2 ((s.int B (min most 1048576)).2:Int)).2.1=0 then
   (if (exB (((s.int B (min most 1048576)).1.byte B).1.Cd B 1048576).2 ((s.int B (min most 1048576)).2:Int)).1.length<(s.int B (min most 1048576)).2 then ((((s.int B (min most 1048576)).1.byte B).1.Cd B 1048576).1.fail 3 ((((s.int B (min most 1048576)).1.byte B).1.Cd B 1048576).1.p:Int),(exB (((s.int B (min most 1048576)).1.byte B).1.Cd B 1048576).2 ((s.int B (min most 1048576)).2:Int)).1) else ((((s.int B (min most 1048576)).1.byte B).1.Cd B 1048576).1,(exB (((s.int B (min most 1048576)).1.byte B).1.Cd B 1048576).2 ((s.int B (min most 1048576)).2:Int)).1))
  else ((((s.int B (min most 1048576)).1.byte B).1.Cd B 1048576).1.fail (exB (((s.int B (min most 1048576)).1.byte B).1.Cd B 1048576).2 ((s.int B (min most 1048576)).2:Int)).2.1 ((exB (((s.int B (min most 1048576)).1.byte B).1.Cd B 1048576).2 ((s.int B (min most 1048576)).2:Int)).2.2+(((((s.int B (min most 1048576)).1.byte B).1.Cd B 1048576).1.p:Int)-((((s.int B (min most 1048576)).1.byte B).1.Cd B 1048576).2.length:Int))),[]))
 else ((((s.int B (min most 1048576)).1.byte B).1.Cd B 1048576).1,[])):=by unfold Rs.unp;rfl
 unfold Rs.loose;generalize ((s.int B (min most 1048576)).1.byte B).1.unp B (s.int B (min most 1048576)).2=U at*;generalize ((s.int B (min most 1048576)).1.byte B).1.fail 7 ((((s.int B (min most 1048576)).1.byte B).1.p:Int)-1)=F7 at*;generalize (((s.int B (min most 1048576)).1.byte B).1.Cd B 1048576).1.fail 3 ((((s.int B (min most 1048576)).1.byte B).1.Cd B 1048576).1.p:Int)=F3 at*;generalize (((s.int B (min most 1048576)).1.byte B).1.Cd B 1048576).1.fail (exB (((s.int B (min most 1048576)).1.byte B).1.Cd B 1048576).2 ((s.int B (min most 1048576)).2:Int)).2.1 ((exB (((s.int B (min most 1048576)).1.byte B).1.Cd B 1048576).2 ((s.int B (min most 1048576)).2:Int)).2.2+(((((s.int B (min most 1048576)).1.byte B).1.Cd B 1048576).1.p:Int)-((((s.int B (min most 1048576)).1.byte B).1.Cd B 1048576).2.length:Int)))=FX at*;generalize exB (((s.int B (min most 1048576)).1.byte B).1.Cd B 1048576).2 ((s.int B (min most 1048576)).2:Int)=X at*;generalize ((s.int B (min most 1048576)).1.byte B).1.Cd B 1048576=BL at*;generalize ((s.int B (min most 1048576)).1.byte B).1.take B ((s.int B (min most 1048576)).2:Int)=T at*;generalize ((s.int B (min most 1048576)).1.take B 1).2=WY at*;generalize (s.int B (min most 1048576)).1.byte B=Y at*;generalize s.int B (min most 1048576)=N at*;obtain⟨sd,n⟩:=N;obtain⟨se,y⟩:=Y;obtain⟨st,DT⟩:=T;obtain⟨sb,TB⟩:=BL;obtain⟨DX,kx,fx⟩:=X;dsimp only at*;have hM:(if most≤1048576 then most else 1048576)=min most 1048576:=by split<;>omega
 have hM1:(1048576:Int)<most→min most 1048576=1048576:=zD;have hM2:¬(1048576:Int)<most→min most 1048576=most:=zD;generalize min most 1048576=M at*;have hy:=y.toNat_lt;have hzs:=hs.le;clear hl hs;unfold CV at*;have HOKS:=hid (And.intro hbok.le (And.intro htok.le hblok.le));have hcut:=hid (fun (W:World) (hW:Below w.heap.size w W) (p:Nat) (h1:s.p≤p) (h2:p≤B.length)=>Im (lift HL.out hW) (lo:=s.p) (hi:=p) h1 h2);have hBB:=hid (fun (W:World) (D:List UInt8) (aD:Option Addr) (cD:Nat) (h:Ah.r (·<W.heap.size) W [.slice aD D.length cD] D) (hlen:D.length≤1048576)=>N7 W D aD _ cD h hlen);clear hiok hbok htok hblok;obtain⟨qm,hqm⟩:∃q,decide ((1048576:Int)<most)=q:=⟨_,rfl⟩;have hmq:Hid (M=if qm=true then 1048576 else most):=hid (by
  cases qm
  ·rw[Ak zP];exact hM2 (Em hqm)
  ·rw[An rfl];exact hM1 (Cu hqm))
 clear hM hM1 hM2;rw[hmq.out] at hI;clear hmq;by_cases hk:se.k=0
 ·have dk:(se.k !=(0:Int))=false:=by simp[hk]
  have hwy:=hby1 hk;have hp1:=hid (hb1 hk);subst hwy;rw[An hk];have HK:=hid hk;clear hk hb1 hby1;by_cases h0:y.toNat=0
  ·have d0:((y.toNat:Int)==0)=true:=by rw[h0];rfl
   have d1:decide ((1:Int)<(y.toNat:Int))=false:=Ad zD;have d1':decide (1<y.toNat)=false:=Ad zD;rw[An h0];clear h0 hUeq;by_cases ht:st.k=0
   ·have dt:(st.k !=(0:Int))=false:=by simp[ht]
    rw[An ht];clear ht;dsimp only;go_enter Jz,Ib;cases qm;all_goals
     simp only[DE,if_false,En] at hI;go_wp2_with fail;refine (hI.out _ zA).mono ?_;rintro r w1 ⟨rfl,hb⟩;have B0:Blk w1 w.heap.size 60 #[.slice a B.length c,.int .i64 (s.p:Int),.int .i64 s.k,.int .i64 s.f]:=Blk.later zB hb;have B1:Blk w1 (w.heap.size+1) 60 #[.slice none 0 0,.int .i64 0,.int .i64 0,.int .i64 0]:=Blk.later zB hb;have hbw1:Below w.heap.size w w1:=zA;have hz1:=hb.size;simp at hz1;clear hb;go_wp2_with fail;refine (hBY.out _ zA).mono ?_;rintro r w2 ⟨v,rfl,hr,hb⟩;obtain⟨aW,cW,hv,hr2,_⟩:=At hr;simp only[Ai,As] at hv;subst hv;have HW2:=hid (Ah.mono (S':=(·<w2.heap.size)) hr2 fun q hq=>hq.2);have C0:=(B0.alloc _).later hb;have C1:=(B1.alloc _).later hb;have CD:Blk w2 w1.heap.size 60 #[.slice a B.length c,.int .i64 (sd.p:Int),.int .i64 sd.k,.int .i64 sd.f]:=Blk.later (Blk.newAt w1 _ _ rfl) hb;have hbw2:Below w.heap.size w w2:=zA;have hz2:=hb.size;simp at hz2;clear hb hr hr2 B0 B1;have hV2:Fu w (w2.alloc (.cells #[.slice a B.length c,.int .i64 (se.p:Int),.int .i64 se.k,.int .i64 se.f] 60)) B a c s se w2.heap.size [] none 0:=⟨C0.alloc _,C1.alloc _,Blk.newAt _ _ _ rfl,zD,AT rfl rfl zD,zA⟩;have HV2:=hid hV2;clear hV2;obtain⟨gw,ow,hA,hgw,hcw⟩:=Bt HW2.out (i:=0) zP;subst hA;simp at hcw;obtain⟨x0,x1,x2,x3,e0,e1,e2,e3,l0⟩:=Aq CD;clear C0 C1;go_wp2_with fail;refine (hTK.out _ zA).mono ?_;rintro r w3 ⟨v,rfl,hr,hb⟩;obtain⟨a3,c3,hv,hr2,_⟩:=At hr;simp only[Ai,As] at hv;subst hv;have hV3:=(HV2.out.later hb).data (Ah.mono hr2 fun q hq=>(⟨ZF,hq.2⟩:w2.heap.size<q∧q<w3.heap.size));have HV3:=hid (hV3.set st);obtain⟨x0,x1,x2,x3,e0,e1,e2,e3,l0⟩:=Aq hV3.be;clear hr hr2 hb hV3;go_upto_region 21 with (fail);refine Cm (fun V=>Fu w V B a c s st w2.heap.size DT a3 c3) (HV3.out) ?_;intro V hV;clear x0 x1 x2 x3 e0 e1 e2 e3 l0;obtain⟨x0,x1,x2,x3,e0,e1,e2,e3,l0⟩:=Aq hV.be;obtain⟨y0,y1,y2,y3,g0,g1,g2,g3,l1⟩:=Aq hV.b1;obtain⟨z0,z1,z2,z3,f0,f1,f2,f3,l2⟩:=Aq hV.b0;have hbl:=hV.bel;have hlo:=hV.lo;have HDV:=hid hV.dat;have HV1:=hid hV.b1;have hpl2:=HOKS.out.2.1;obtain⟨aC,cC,hsl,hsub⟩:=hcut.out V hbl st.p zD hpl2;have hlS:((B.drop s.p).take (st.p-s.p)).length=st.p-s.p:=zM;generalize hS:(B.drop s.p).take (st.p-s.p)=SS at*;have HS:=hid hS;have HLS:=hid hlS;have HSUB:=hid hsub;have HDW:Hid (Ah.r (·<V.heap.size) V [.slice a3 DT.length c3] DT):=hid (Ah.mono HDV.out fun q hq=>hq.2);have HB:=hid (fun (W:World) (hW:Below V.heap.size V W)=>hBB.out W DT a3 c3 (lift HDW.out hW) (htl));clear hV hS hlS hsub;generalize hBB2:CU DT=BB at*;have HBB2:=hid hBB2;clear hBB2;have iz1:(0:Int)≤(s.p:Int):=zD;have iz2:(s.p:Int)≤(st.p:Int):=zD;go_wp2_with fail;refine AW (S:=fun w'=>w'.cell? ⟨w2.heap.size,0,none⟩=some (.slice a B.length c)∧w'.cell? ⟨w2.heap.size,1,none⟩=some (.int .i64 (st.p:Int))∧w'.cell? ⟨w2.heap.size,2,none⟩=some (.int .i64 st.k)∧w'.cell? ⟨w2.heap.size,3,none⟩=some (.int .i64 st.f)∧w'.cell? ⟨w.heap.size,1,none⟩=some (.int .i64 (s.p:Int))) zL ⟨x0,x1,x2,x3,z1⟩ (fun hHeld=> ?_);refine Al (i:=0) (oi:=_) (v:=?_) rfl zG zG zG (fun _ _ _ h=>h) (Or.inl ⟨zT,?_⟩) zN ?_;rotate_left
     ·(intro w hSw;(try dsimp only at hSw);go_simp<;>with_reducible rfl)
     (try simp only[Act.put,Aa,Ab,Ac])
     refine Al (i:=1) (oi:=_) (v:=?_) rfl zG zG zG (fun _ _ _ h=>h) (Or.inl ⟨zT,?_⟩) zN ?_;rotate_left
     ·(intro w hSw;(try dsimp only at hSw);go_simp<;>with_reducible rfl)
     (try simp only[Act.put,Aa,Ab,Ac])
     refine Al (i:=2) (oi:=_) (v:=?_) rfl zG zG zG (fun _ _ _ h=>h) (Or.inl ⟨zT,?_⟩) zN ?_;rotate_left
     ·(intro w hSw;(try dsimp only at hSw);go_simp<;>with_reducible rfl)
     (try simp only[Act.put,Aa,Ab,Ac])
     refine Al (i:=4) (oi:=_) (v:=?_) rfl zG zG zG (fun _ _ _ h=>h) (Or.inl ⟨zT,?_⟩) zN ?_;rotate_left
     ·(intro w hSw;(try dsimp only at hSw);go_simp<;>with_reducible rfl)
     (try simp only[Act.put,Aa,Ab,Ac])
     refine Al (i:=5) (oi:=_) (v:=?_) rfl zG zG zG (fun _ _ _ h=>h) (Or.inl ⟨zT,?_⟩) zN ?_;rotate_left
     ·(intro w hSw;(try dsimp only at hSw);go_simp<;>with_reducible rfl)
     (try simp only[Act.put,Aa,Ab,Ac])
     refine Al (i:=6) (oi:=_) (v:=?_) rfl zG zG zG (fun _ _ _ h=>h) (Or.inl ⟨zT,?_⟩) zN ?_;rotate_left
     ·(intro w hSw;(try dsimp only at hSw);go_simp<;>with_reducible rfl)
     (try simp only[Act.put,Aa,Ab,Ac])
     refine Al (i:=7) (oi:=_) (v:=?_) rfl zG zG zG (fun _ _ _ h=>h) (Or.inl ⟨zT,?_⟩) zN ?_;rotate_left
     ·(intro w hSw;(try dsimp only at hSw);go_simp<;>with_reducible rfl)
     (try simp only[Act.put,Aa,Ab,Ac])
     refine Al (i:=8) (oi:=_) (v:=?_) rfl zG zG zG (fun _ _ _ h=>h) (Or.inl ⟨zT,?_⟩) zN ?_;rotate_left
     ·(intro w hSw;(try dsimp only at hSw);go_simp<;>with_reducible rfl)
     (try simp only[Act.put,Aa,Ab,Ac])
     refine Al (i:=9) (oi:=_) (v:=?_) rfl zG zG zG (fun _ _ _ h=>h) (Or.inl ⟨zT,?_⟩) zN ?_;rotate_left
     ·(intro w hSw;(try dsimp only at hSw);go_simp<;>with_reducible rfl)
     (try simp only[Act.put,Aa,Ab,Ac])
     refine Al (i:=10) (oi:=_) (v:=?_) rfl zG zG zG (fun _ _ _ h=>h) (Or.inl ⟨zT,?_⟩) zN ?_;rotate_left
     ·(intro w hSw;(try dsimp only at hSw);go_simp<;>with_reducible rfl)
     (try simp only[Act.put,Aa,Ab,Ac])
     refine AF (rs:=[3]) zG zP ?_;refine Ax (o:=_) rfl (fun K hK=> ?_) AllReadyH.nil
     (go_simp;go_at_call 107;refine (HB.out _ zA).mono ?_;rintro e w8 ⟨v8,rfl,hr8,hb8⟩;obtain⟨a8,c8,hv8,hr8',_⟩:=At hr8;simp only[Ai,As] at hv8;subst hv8;have hbv8:Below V.heap.size V w8:=zA;have k0:=(hbv8.cell (p:=⟨w2.heap.size,0,none⟩) l0).trans x0;have k1:=(hbv8.cell (p:=⟨w2.heap.size,1,none⟩) l0).trans x1;have k2:=(hbv8.cell (p:=⟨w2.heap.size,2,none⟩) l0).trans x2;have k3:=(hbv8.cell (p:=⟨w2.heap.size,3,none⟩) l0).trans x3;have k4:=(hbv8.cell (p:=⟨w.heap.size,1,none⟩) l2).trans z1;have B8:=HV1.out.later hbv8;obtain⟨m0,m1,m2,m3,p0,p1,p2,p3,l8⟩:=Aq B8;have HR8:=hid hr8';have HB8:=hid hbv8;have hs8:=hbv8.size;clear B8 y0 y1 y2 y3 g0 g1 g2 g3 l1;clear hr8 hr8' hb8 hbv8;(try dsimp only))
     refine hK.out _ _ ?_ (fun hHeld=> ?_)
     ·((try dsimp only);refine⟨?_,?_,?_,?_,?_⟩<;>(first | assumption | (go_keep;done)))
     clear hK K
     (try simp only[Act.put,Aa,Ab,Ac])
     refine AF (rs:=[11]) zG zP ?_;refine Ax (o:=_) rfl (fun K hK=> ?_) AllReadyH.nil
     (go_simp;go_at_call 18;refine (GL BB SS a8 aC _ c8 _ cC _ (Ah.mono HR8.out fun q hq=>hq.2) (lift HSUB.out HB8.out)).mono ?_;rintro e w9 ⟨rfl,rfl⟩;(try dsimp only))
     refine hK.out _ _ ?_ (fun hHeld=> ?_)
     ·((try dsimp only);refine⟨?_,?_,?_,?_,?_⟩<;>(first | assumption | (go_keep;done)))
     clear hK K
     (try simp only[Act.put,Aa,Ab,Ac])
     refine AF (rs:=[12]) zG zP ?_;refine Ax (o:=_) rfl (fun K hK=> ?_) AllReadyH.nil;go_simp
     refine hK.out _ _ ?_ (fun hHeld=> ?_)
     ·refine⟨?_,?_,?_,?_,?_⟩
      all_goals
       rw[C9 _ _ _ _ zH,C9 _ _ _ _ zH,C9 _ _ _ _ zH,C9 _ _ _ _ zH];assumption
     clear hK K
     (try simp only[Act.put,Aa,Ab,Ac])
     refine Al (i:=13) (oi:=_) (v:=?_) rfl zG zG zG (fun _ _ _ h=>h) (Or.inl ⟨zT,?_⟩) zN ?_;rotate_left
     ·(intro w hSw;(try dsimp only at hSw);go_simp<;>with_reducible rfl)
     (try simp only[Act.put,Aa,Ab,Ac])
     refine Al (i:=14) (oi:=_) (v:=?_) rfl zG zG zG (fun _ _ _ h=>h) (Or.inl ⟨zT,?_⟩) zN ?_;rotate_left
     ·(intro w hSw;(try dsimp only at hSw);go_simp<;>with_reducible rfl)
     (try simp only[Act.put,Aa,Ab,Ac])
     simp only[AE,Az,AA,Act.put,Aa,Ab,Ac];refine Bp zL ?_ _;have hbe8:Below w.heap.size w w8:=Ag HB8.out hbl;go_wp2;refine Af (v:=.tuple #[.agg #[.slice a B.length c,.int .i64 (st.p:Int),.int .i64 st.k,.int .i64 st.f],.slice a3 DT.length c3,.bool (decide (BB=SS))]) zCn rfl ⟨_,by rw[HS.out,HBB2.out],?_,zA⟩;refine Ah.mono (Ah.keep (Ah.keep HDV.out fun q hq=>HB8.out.block q hq.2) fun q hq=> ?_) fun q hq=>⟨zD,zU⟩;repeat (rw[Ap _ _ _ _ zH])
   ·have dt:(st.k !=(0:Int))=true:=by simp[ht]
    rw[Ak ht];clear ht;dsimp only;go_enter Jz,Ib;cases qm;all_goals
     simp only[DE,if_false,En] at hI;go_wp2_with fail;refine (hI.out _ zA).mono ?_;rintro r w1 ⟨rfl,hb⟩;have B0:Blk w1 w.heap.size 60 #[.slice a B.length c,.int .i64 (s.p:Int),.int .i64 s.k,.int .i64 s.f]:=Blk.later zB hb;have B1:Blk w1 (w.heap.size+1) 60 #[.slice none 0 0,.int .i64 0,.int .i64 0,.int .i64 0]:=Blk.later zB hb;have hbw1:Below w.heap.size w w1:=zA;have hz1:=hb.size;simp at hz1;clear hb;go_wp2_with fail;refine (hBY.out _ zA).mono ?_;rintro r w2 ⟨v,rfl,hr,hb⟩;obtain⟨aW,cW,hv,hr2,_⟩:=At hr;simp only[Ai,As] at hv;subst hv;have HW2:=hid (Ah.mono (S':=(·<w2.heap.size)) hr2 fun q hq=>hq.2);have C0:=(B0.alloc _).later hb;have C1:=(B1.alloc _).later hb;have CD:Blk w2 w1.heap.size 60 #[.slice a B.length c,.int .i64 (sd.p:Int),.int .i64 sd.k,.int .i64 sd.f]:=Blk.later (Blk.newAt w1 _ _ rfl) hb;have hbw2:Below w.heap.size w w2:=zA;have hz2:=hb.size;simp at hz2;clear hb hr hr2 B0 B1;have hV2:Fu w (w2.alloc (.cells #[.slice a B.length c,.int .i64 (se.p:Int),.int .i64 se.k,.int .i64 se.f] 60)) B a c s se w2.heap.size [] none 0:=⟨C0.alloc _,C1.alloc _,Blk.newAt _ _ _ rfl,zD,AT rfl rfl zD,zA⟩;have HV2:=hid hV2;clear hV2;obtain⟨gw,ow,hA,hgw,hcw⟩:=Bt HW2.out (i:=0) zP;subst hA;simp at hcw;obtain⟨x0,x1,x2,x3,e0,e1,e2,e3,l0⟩:=Aq CD;clear C0 C1;go_wp2_with fail;refine (hTK.out _ zA).mono ?_;rintro r w3 ⟨v,rfl,hr,hb⟩;obtain⟨a3,c3,hv,hr2,_⟩:=At hr;simp only[Ai,As] at hv;subst hv;have hV3:=(HV2.out.later hb).data (Ah.mono hr2 fun q hq=>(⟨ZF,hq.2⟩:w2.heap.size<q∧q<w3.heap.size));have HV3:=hid (hV3.set st);obtain⟨x0,x1,x2,x3,e0,e1,e2,e3,l0⟩:=Aq hV3.be;clear hr hr2 hb hV3;go_upto_region 21 with (fail);refine Cm (fun V=>Fu w V B a c s st w2.heap.size DT a3 c3) (HV3.out) ?_;intro V hV;clear x0 x1 x2 x3 e0 e1 e2 e3 l0;obtain⟨x0,x1,x2,x3,e0,e1,e2,e3,l0⟩:=Aq hV.be;obtain⟨y0,y1,y2,y3,g0,g1,g2,g3,l1⟩:=Aq hV.b1;have hbl:=hV.bel;go_wp2;refine Af (v:=.tuple #[.agg #[.slice a B.length c,.int .i64 (st.p:Int),.int .i64 st.k,.int .i64 st.f],.slice none 0 0,.bool false]) ZM rfl ⟨_,rfl,AT rfl rfl zD,zA⟩
  ·have d0:((y.toNat:Int)==0)=false:=by rw[Cr];omega
   rw[Ak h0];by_cases h1:y.toNat=1
   ·have d1:decide ((1:Int)<(y.toNat:Int))=false:=Ad zD
    have d1':decide (1<y.toNat)=false:=Ad zD;rw[An h1];clear h0 h1;by_cases hb:sb.k=0
    ·have db:(sb.k==(0:Int))=true:=by simp[hb]
     rw[An hb] at hUeq;by_cases hx:kx=0
     ·have dx:(kx !=(0:Int))=false:=by simp[hx]
      rw[An hx] at hUeq;by_cases hn:DX.length<n
      ·have dn:decide ((DX.length:Int)<(n:Int))=true:=Ae zD
       have dn':decide (DX.length<n)=true:=Ae hn;rw[An hn] at hUeq;subst hUeq;dsimp only;rw[Ak hfk3];have dt:(F3.k !=(0:Int))=true:=by simp[hfk3]
       clear hb hx hn;dsimp only;go_enter Jz,Ib;cases qm;all_goals
        simp only[DE,if_false,En] at hI;go_wp2_with fail;refine (hI.out _ zA).mono ?_;rintro r w1 ⟨rfl,hb⟩;have B0:Blk w1 w.heap.size 60 #[.slice a B.length c,.int .i64 (s.p:Int),.int .i64 s.k,.int .i64 s.f]:=Blk.later zB hb;have B1:Blk w1 (w.heap.size+1) 60 #[.slice none 0 0,.int .i64 0,.int .i64 0,.int .i64 0]:=Blk.later zB hb;have hbw1:Below w.heap.size w w1:=zA;have hz1:=hb.size;simp at hz1;clear hb;go_wp2_with fail;refine (hBY.out _ zA).mono ?_;rintro r w2 ⟨v,rfl,hr,hb⟩;obtain⟨aW,cW,hv,hr2,_⟩:=At hr;simp only[Ai,As] at hv;subst hv;have HW2:=hid (Ah.mono (S':=(·<w2.heap.size)) hr2 fun q hq=>hq.2);have C0:=(B0.alloc _).later hb;have C1:=(B1.alloc _).later hb;have CD:Blk w2 w1.heap.size 60 #[.slice a B.length c,.int .i64 (sd.p:Int),.int .i64 sd.k,.int .i64 sd.f]:=Blk.later (Blk.newAt w1 _ _ rfl) hb;have hbw2:Below w.heap.size w w2:=zA;have hz2:=hb.size;simp at hz2;clear hb hr hr2 B0 B1;have hV2:Fu w (w2.alloc (.cells #[.slice a B.length c,.int .i64 (se.p:Int),.int .i64 se.k,.int .i64 se.f] 60)) B a c s se w2.heap.size [] none 0:=⟨C0.alloc _,C1.alloc _,Blk.newAt _ _ _ rfl,zD,AT rfl rfl zD,zA⟩;have HV2:=hid hV2;clear hV2;obtain⟨gw,ow,hA,hgw,hcw⟩:=Bt HW2.out (i:=0) zP;subst hA;simp at hcw;obtain⟨x0,x1,x2,x3,e0,e1,e2,e3,l0⟩:=Aq CD;clear C0 C1;go_wp2_with fail;refine (hBL.out _ zA).mono ?_;rintro r w3 ⟨v,rfl,hr,hb⟩;obtain⟨a3,c3,hv,hr2,_⟩:=At hr;simp only[Ai,As] at hv;subst hv;have hV3:=(HV2.out.later hb).data (Ah.mono hr2 fun q hq=>(⟨ZF,hq.2⟩:w2.heap.size<q∧q<w3.heap.size));have HV3:=hid ((hV3.set sb).later (Aw (Below.refl _ _) (.cells #[.slice a B.length c,.int .i64 (sb.p:Int),.int .i64 sb.k,.int .i64 sb.f] 60)));obtain⟨x0,x1,x2,x3,e0,e1,e2,e3,l0⟩:=Aq hV3.be;clear hr hr2 hb hV3;go_upto_region 14 with (fail);refine Cm (fun V=>Fu w V B a c s sb w2.heap.size TB a3 c3) (HV3.out) ?_;intro V hV;clear x0 x1 x2 x3 e0 e1 e2 e3 l0;have HVV:=hid hV;obtain⟨x0,x1,x2,x3,e0,e1,e2,e3,l0⟩:=Aq hV.be;clear hV;go_wp2_with fail;refine (hX.out V a3 _ c3 (Ah.mono HVV.out.dat fun q hq=>hq.2)).mono ?_;rintro r w4 ⟨v,rfl,hr,hb⟩;obtain⟨a4,c4,hv,hr2,_⟩:=At hr;simp only[Ai,As] at hv;subst hv;have hzV:=HVV.out.be.lt;have hV4:=(HVV.out.later hb).data (Ah.mono hr2 fun q hq=>(⟨zD,hq.2⟩:w2.heap.size<q∧q<w4.heap.size));have HV4:=hid hV4;clear hr hr2 hb hV4 x0 x1 x2 x3 e0 e1 e2 e3 l0;obtain⟨x0,x1,x2,x3,e0,e1,e2,e3,l0⟩:=Aq HV4.out.be;go_wp2_with fail;refine (hF3.out _).mono ?_;rintro r w5 ⟨rfl,hb⟩;have hb45:Below w4.heap.size w4 w5:=zA;have HV5:=hid ((HV4.out.later hb45).set F3);have hV5:=HV4.out.later hb45;clear x0 x1 x2 x3 e0 e1 e2 e3 l0;obtain⟨x0,x1,x2,x3,e0,e1,e2,e3,l0⟩:=Aq hV5.be;clear hb hV5;go_upto_region 21 with (fail);refine Cm (fun V=>Fu w V B a c s F3 w2.heap.size DX a4 c4) (HV5.out) ?_;intro V hV;clear x0 x1 x2 x3 e0 e1 e2 e3 l0;obtain⟨x0,x1,x2,x3,e0,e1,e2,e3,l0⟩:=Aq hV.be;obtain⟨y0,y1,y2,y3,g0,g1,g2,g3,l1⟩:=Aq hV.b1;have hbl:=hV.bel;go_wp2;refine Af (v:=.tuple #[.agg #[.slice a B.length c,.int .i64 (F3.p:Int),.int .i64 F3.k,.int .i64 F3.f],.slice none 0 0,.bool false]) ZM rfl ⟨_,rfl,AT rfl rfl zD,zA⟩
      ·have dn:decide ((DX.length:Int)<(n:Int))=false:=Ad zD
       have dn':decide (DX.length<n)=false:=Ad hn;rw[Ak hn] at hUeq;subst hUeq;dsimp only;rw[An hb];have dt:(sb.k !=(0:Int))=false:=by simp[hb]
       clear hb hx hn;dsimp only;go_enter Jz,Ib;cases qm;all_goals
        simp only[DE,if_false,En] at hI;go_wp2_with fail;refine (hI.out _ zA).mono ?_;rintro r w1 ⟨rfl,hb⟩;have B0:Blk w1 w.heap.size 60 #[.slice a B.length c,.int .i64 (s.p:Int),.int .i64 s.k,.int .i64 s.f]:=Blk.later zB hb;have B1:Blk w1 (w.heap.size+1) 60 #[.slice none 0 0,.int .i64 0,.int .i64 0,.int .i64 0]:=Blk.later zB hb;have hbw1:Below w.heap.size w w1:=zA;have hz1:=hb.size;simp at hz1;clear hb;go_wp2_with fail;refine (hBY.out _ zA).mono ?_;rintro r w2 ⟨v,rfl,hr,hb⟩;obtain⟨aW,cW,hv,hr2,_⟩:=At hr;simp only[Ai,As] at hv;subst hv;have HW2:=hid (Ah.mono (S':=(·<w2.heap.size)) hr2 fun q hq=>hq.2);have C0:=(B0.alloc _).later hb;have C1:=(B1.alloc _).later hb;have CD:Blk w2 w1.heap.size 60 #[.slice a B.length c,.int .i64 (sd.p:Int),.int .i64 sd.k,.int .i64 sd.f]:=Blk.later (Blk.newAt w1 _ _ rfl) hb;have hbw2:Below w.heap.size w w2:=zA;have hz2:=hb.size;simp at hz2;clear hb hr hr2 B0 B1;have hV2:Fu w (w2.alloc (.cells #[.slice a B.length c,.int .i64 (se.p:Int),.int .i64 se.k,.int .i64 se.f] 60)) B a c s se w2.heap.size [] none 0:=⟨C0.alloc _,C1.alloc _,Blk.newAt _ _ _ rfl,zD,AT rfl rfl zD,zA⟩;have HV2:=hid hV2;clear hV2;obtain⟨gw,ow,hA,hgw,hcw⟩:=Bt HW2.out (i:=0) zP;subst hA;simp at hcw;obtain⟨x0,x1,x2,x3,e0,e1,e2,e3,l0⟩:=Aq CD;clear C0 C1;go_wp2_with fail;refine (hBL.out _ zA).mono ?_;rintro r w3 ⟨v,rfl,hr,hb⟩;obtain⟨a3,c3,hv,hr2,_⟩:=At hr;simp only[Ai,As] at hv;subst hv;have hV3:=(HV2.out.later hb).data (Ah.mono hr2 fun q hq=>(⟨ZF,hq.2⟩:w2.heap.size<q∧q<w3.heap.size));have HV3:=hid ((hV3.set sb).later (Aw (Below.refl _ _) (.cells #[.slice a B.length c,.int .i64 (sb.p:Int),.int .i64 sb.k,.int .i64 sb.f] 60)));obtain⟨x0,x1,x2,x3,e0,e1,e2,e3,l0⟩:=Aq hV3.be;clear hr hr2 hb hV3;go_upto_region 14 with (fail);refine Cm (fun V=>Fu w V B a c s sb w2.heap.size TB a3 c3) (HV3.out) ?_;intro V hV;clear x0 x1 x2 x3 e0 e1 e2 e3 l0;have HVV:=hid hV;obtain⟨x0,x1,x2,x3,e0,e1,e2,e3,l0⟩:=Aq hV.be;clear hV;go_wp2_with fail;refine (hX.out V a3 _ c3 (Ah.mono HVV.out.dat fun q hq=>hq.2)).mono ?_;rintro r w4 ⟨v,rfl,hr,hb⟩;obtain⟨a4,c4,hv,hr2,_⟩:=At hr;simp only[Ai,As] at hv;subst hv;have hzV:=HVV.out.be.lt;have hV4:=(HVV.out.later hb).data (Ah.mono hr2 fun q hq=>(⟨zD,hq.2⟩:w2.heap.size<q∧q<w4.heap.size));have HV4:=hid hV4;clear hr hr2 hb hV4 x0 x1 x2 x3 e0 e1 e2 e3 l0;obtain⟨x0,x1,x2,x3,e0,e1,e2,e3,l0⟩:=Aq HV4.out.be;go_upto_region 21 with (fail);refine Cm (fun V=>Fu w V B a c s sb w2.heap.size DX a4 c4) (HV4.out.later (Aw (Below.refl _ _) (.cells #[.int .i64 kx,.int .i64 fx] 58))) ?_;intro V hV;clear x0 x1 x2 x3 e0 e1 e2 e3 l0;obtain⟨x0,x1,x2,x3,e0,e1,e2,e3,l0⟩:=Aq hV.be;obtain⟨y0,y1,y2,y3,g0,g1,g2,g3,l1⟩:=Aq hV.b1;obtain⟨z0,z1,z2,z3,f0,f1,f2,f3,l2⟩:=Aq hV.b0;have hbl:=hV.bel;have hlo:=hV.lo;have HDV:=hid hV.dat;have HV1:=hid hV.b1;have hpl2:=HOKS.out.2.2;obtain⟨aC,cC,hsl,hsub⟩:=hcut.out V hbl sb.p zD hpl2;have hlS:((B.drop s.p).take (sb.p-s.p)).length=sb.p-s.p:=zM;generalize hS:(B.drop s.p).take (sb.p-s.p)=SS at*;have HS:=hid hS;have HLS:=hid hlS;have HSUB:=hid hsub;have HDW:Hid (Ah.r (·<V.heap.size) V [.slice a4 DX.length c4] DX):=hid (Ah.mono HDV.out fun q hq=>hq.2);have HB:=hid (fun (W:World) (hW:Below V.heap.size V W)=>hBB.out W DX a4 c4 (lift HDW.out hW) (by have:=hxf.1;omega));clear hV hS hlS hsub;generalize hBB2:CU DX=BB at*;have HBB2:=hid hBB2;clear hBB2;have iz1:(0:Int)≤(s.p:Int):=zD;have iz2:(s.p:Int)≤(sb.p:Int):=zD;go_wp2_with fail;refine AW (S:=fun w'=>w'.cell? ⟨w2.heap.size,0,none⟩=some (.slice a B.length c)∧w'.cell? ⟨w2.heap.size,1,none⟩=some (.int .i64 (sb.p:Int))∧w'.cell? ⟨w2.heap.size,2,none⟩=some (.int .i64 sb.k)∧w'.cell? ⟨w2.heap.size,3,none⟩=some (.int .i64 sb.f)∧w'.cell? ⟨w.heap.size,1,none⟩=some (.int .i64 (s.p:Int))) zL ⟨x0,x1,x2,x3,z1⟩ (fun hHeld=> ?_);refine Al (i:=0) (oi:=_) (v:=?_) rfl zG zG zG (fun _ _ _ h=>h) (Or.inl ⟨zT,?_⟩) zN ?_;rotate_left
        ·(intro w hSw;(try dsimp only at hSw);go_simp<;>with_reducible rfl)
        (try simp only[Act.put,Aa,Ab,Ac])
        refine Al (i:=1) (oi:=_) (v:=?_) rfl zG zG zG (fun _ _ _ h=>h) (Or.inl ⟨zT,?_⟩) zN ?_;rotate_left
        ·(intro w hSw;(try dsimp only at hSw);go_simp<;>with_reducible rfl)
        (try simp only[Act.put,Aa,Ab,Ac])
        refine Al (i:=2) (oi:=_) (v:=?_) rfl zG zG zG (fun _ _ _ h=>h) (Or.inl ⟨zT,?_⟩) zN ?_;rotate_left
        ·(intro w hSw;(try dsimp only at hSw);go_simp<;>with_reducible rfl)
        (try simp only[Act.put,Aa,Ab,Ac])
        refine Al (i:=4) (oi:=_) (v:=?_) rfl zG zG zG (fun _ _ _ h=>h) (Or.inl ⟨zT,?_⟩) zN ?_;rotate_left
        ·(intro w hSw;(try dsimp only at hSw);go_simp<;>with_reducible rfl)
        (try simp only[Act.put,Aa,Ab,Ac])
        refine Al (i:=5) (oi:=_) (v:=?_) rfl zG zG zG (fun _ _ _ h=>h) (Or.inl ⟨zT,?_⟩) zN ?_;rotate_left
        ·(intro w hSw;(try dsimp only at hSw);go_simp<;>with_reducible rfl)
        (try simp only[Act.put,Aa,Ab,Ac])
        refine Al (i:=6) (oi:=_) (v:=?_) rfl zG zG zG (fun _ _ _ h=>h) (Or.inl ⟨zT,?_⟩) zN ?_;rotate_left
        ·(intro w hSw;(try dsimp only at hSw);go_simp<;>with_reducible rfl)
        (try simp only[Act.put,Aa,Ab,Ac])
        refine Al (i:=7) (oi:=_) (v:=?_) rfl zG zG zG (fun _ _ _ h=>h) (Or.inl ⟨zT,?_⟩) zN ?_;rotate_left
        ·(intro w hSw;(try dsimp only at hSw);go_simp<;>with_reducible rfl)
        (try simp only[Act.put,Aa,Ab,Ac])
        refine Al (i:=8) (oi:=_) (v:=?_) rfl zG zG zG (fun _ _ _ h=>h) (Or.inl ⟨zT,?_⟩) zN ?_;rotate_left
        ·(intro w hSw;(try dsimp only at hSw);go_simp<;>with_reducible rfl)
        (try simp only[Act.put,Aa,Ab,Ac])
        refine Al (i:=9) (oi:=_) (v:=?_) rfl zG zG zG (fun _ _ _ h=>h) (Or.inl ⟨zT,?_⟩) zN ?_;rotate_left
        ·(intro w hSw;(try dsimp only at hSw);go_simp<;>with_reducible rfl)
        (try simp only[Act.put,Aa,Ab,Ac])
        refine Al (i:=10) (oi:=_) (v:=?_) rfl zG zG zG (fun _ _ _ h=>h) (Or.inl ⟨zT,?_⟩) zN ?_;rotate_left
        ·(intro w hSw;(try dsimp only at hSw);go_simp<;>with_reducible rfl)
        (try simp only[Act.put,Aa,Ab,Ac])
        refine AF (rs:=[3]) zG zP ?_;refine Ax (o:=_) rfl (fun K hK=> ?_) AllReadyH.nil
        (go_simp;go_at_call 107;refine (HB.out _ zA).mono ?_;rintro e w8 ⟨v8,rfl,hr8,hb8⟩;obtain⟨a8,c8,hv8,hr8',_⟩:=At hr8;simp only[Ai,As] at hv8;subst hv8;have hbv8:Below V.heap.size V w8:=zA;have k0:=(hbv8.cell (p:=⟨w2.heap.size,0,none⟩) l0).trans x0;have k1:=(hbv8.cell (p:=⟨w2.heap.size,1,none⟩) l0).trans x1;have k2:=(hbv8.cell (p:=⟨w2.heap.size,2,none⟩) l0).trans x2;have k3:=(hbv8.cell (p:=⟨w2.heap.size,3,none⟩) l0).trans x3;have k4:=(hbv8.cell (p:=⟨w.heap.size,1,none⟩) l2).trans z1;have B8:=HV1.out.later hbv8;obtain⟨m0,m1,m2,m3,p0,p1,p2,p3,l8⟩:=Aq B8;have HR8:=hid hr8';have HB8:=hid hbv8;have hs8:=hbv8.size;clear B8 y0 y1 y2 y3 g0 g1 g2 g3 l1;clear hr8 hr8' hb8 hbv8;(try dsimp only))
        refine hK.out _ _ ?_ (fun hHeld=> ?_)
        ·((try dsimp only);refine⟨?_,?_,?_,?_,?_⟩<;>(first | assumption | (go_keep;done)))
        clear hK K
        (try simp only[Act.put,Aa,Ab,Ac])
        refine AF (rs:=[11]) zG zP ?_;refine Ax (o:=_) rfl (fun K hK=> ?_) AllReadyH.nil
        (go_simp;go_at_call 18;refine (GL BB SS a8 aC _ c8 _ cC _ (Ah.mono HR8.out fun q hq=>hq.2) (lift HSUB.out HB8.out)).mono ?_;rintro e w9 ⟨rfl,rfl⟩;(try dsimp only))
        refine hK.out _ _ ?_ (fun hHeld=> ?_)
        ·((try dsimp only);refine⟨?_,?_,?_,?_,?_⟩<;>(first | assumption | (go_keep;done)))
        clear hK K
        (try simp only[Act.put,Aa,Ab,Ac])
        refine AF (rs:=[12]) zG zP ?_;refine Ax (o:=_) rfl (fun K hK=> ?_) AllReadyH.nil;go_simp
        refine hK.out _ _ ?_ (fun hHeld=> ?_)
        ·refine⟨?_,?_,?_,?_,?_⟩
         all_goals
          rw[C9 _ _ _ _ zH,C9 _ _ _ _ zH,C9 _ _ _ _ zH,C9 _ _ _ _ zH];assumption
        clear hK K
        (try simp only[Act.put,Aa,Ab,Ac])
        refine Al (i:=13) (oi:=_) (v:=?_) rfl zG zG zG (fun _ _ _ h=>h) (Or.inl ⟨zT,?_⟩) zN ?_;rotate_left
        ·(intro w hSw;(try dsimp only at hSw);go_simp<;>with_reducible rfl)
        (try simp only[Act.put,Aa,Ab,Ac])
        refine Al (i:=14) (oi:=_) (v:=?_) rfl zG zG zG (fun _ _ _ h=>h) (Or.inl ⟨zT,?_⟩) zN ?_;rotate_left
        ·(intro w hSw;(try dsimp only at hSw);go_simp<;>with_reducible rfl)
        (try simp only[Act.put,Aa,Ab,Ac])
        simp only[AE,Az,AA,Act.put,Aa,Ab,Ac];refine Bp zL ?_ _;have hbe8:Below w.heap.size w w8:=Ag HB8.out hbl;go_wp2;refine Af (v:=.tuple #[.agg #[.slice a B.length c,.int .i64 (sb.p:Int),.int .i64 sb.k,.int .i64 sb.f],.slice a4 DX.length c4,.bool (decide (BB=SS))]) zCn rfl ⟨_,by rw[HS.out,HBB2.out],?_,zA⟩;refine Ah.mono (Ah.keep (Ah.keep HDV.out fun q hq=>HB8.out.block q hq.2) fun q hq=> ?_) fun q hq=>⟨zD,zU⟩;repeat (rw[Ap _ _ _ _ zH])
     ·have dx:(kx !=(0:Int))=true:=by simp[hx]
      rw[Ak hx] at hUeq;subst hUeq;have hfx:=hfkx hx;have hdx:=hxf.2.2.2 hx;subst hdx;dsimp only;rw[Ak hfx];have dt:(FX.k !=(0:Int))=true:=by simp[hfx]
      have HX0:=hid hx;have hsbp:=HOKS.out.2.2;have hfx1:=hxf.2.1;have hfx2:=hxf.2.2.1;have hFX2:=hid (fun (W:World)=>hFX.out W HX0.out);rw[show fx+((sb.p:Int)-(TB.length:Int))=(sb.p:Int)-(TB.length:Int)+fx by omega] at hFX2;clear hb hx hfx hFX;dsimp only;go_enter Jz,Ib;cases qm;all_goals
       simp only[DE,if_false,En] at hI;go_wp2_with fail;refine (hI.out _ zA).mono ?_;rintro r w1 ⟨rfl,hb⟩;have B0:Blk w1 w.heap.size 60 #[.slice a B.length c,.int .i64 (s.p:Int),.int .i64 s.k,.int .i64 s.f]:=Blk.later zB hb;have B1:Blk w1 (w.heap.size+1) 60 #[.slice none 0 0,.int .i64 0,.int .i64 0,.int .i64 0]:=Blk.later zB hb;have hbw1:Below w.heap.size w w1:=zA;have hz1:=hb.size;simp at hz1;clear hb;go_wp2_with fail;refine (hBY.out _ zA).mono ?_;rintro r w2 ⟨v,rfl,hr,hb⟩;obtain⟨aW,cW,hv,hr2,_⟩:=At hr;simp only[Ai,As] at hv;subst hv;have HW2:=hid (Ah.mono (S':=(·<w2.heap.size)) hr2 fun q hq=>hq.2);have C0:=(B0.alloc _).later hb;have C1:=(B1.alloc _).later hb;have CD:Blk w2 w1.heap.size 60 #[.slice a B.length c,.int .i64 (sd.p:Int),.int .i64 sd.k,.int .i64 sd.f]:=Blk.later (Blk.newAt w1 _ _ rfl) hb;have hbw2:Below w.heap.size w w2:=zA;have hz2:=hb.size;simp at hz2;clear hb hr hr2 B0 B1;have hV2:Fu w (w2.alloc (.cells #[.slice a B.length c,.int .i64 (se.p:Int),.int .i64 se.k,.int .i64 se.f] 60)) B a c s se w2.heap.size [] none 0:=⟨C0.alloc _,C1.alloc _,Blk.newAt _ _ _ rfl,zD,AT rfl rfl zD,zA⟩;have HV2:=hid hV2;clear hV2;obtain⟨gw,ow,hA,hgw,hcw⟩:=Bt HW2.out (i:=0) zP;subst hA;simp at hcw;obtain⟨x0,x1,x2,x3,e0,e1,e2,e3,l0⟩:=Aq CD;clear C0 C1;go_wp2_with fail;refine (hBL.out _ zA).mono ?_;rintro r w3 ⟨v,rfl,hr,hb⟩;obtain⟨a3,c3,hv,hr2,_⟩:=At hr;simp only[Ai,As] at hv;subst hv;have hV3:=(HV2.out.later hb).data (Ah.mono hr2 fun q hq=>(⟨ZF,hq.2⟩:w2.heap.size<q∧q<w3.heap.size));have HV3:=hid ((hV3.set sb).later (Aw (Below.refl _ _) (.cells #[.slice a B.length c,.int .i64 (sb.p:Int),.int .i64 sb.k,.int .i64 sb.f] 60)));obtain⟨x0,x1,x2,x3,e0,e1,e2,e3,l0⟩:=Aq hV3.be;clear hr hr2 hb hV3;go_upto_region 14 with (fail);refine Cm (fun V=>Fu w V B a c s sb w2.heap.size TB a3 c3) (HV3.out) ?_;intro V hV;clear x0 x1 x2 x3 e0 e1 e2 e3 l0;have HVV:=hid hV;obtain⟨x0,x1,x2,x3,e0,e1,e2,e3,l0⟩:=Aq hV.be;clear hV;go_wp2_with fail;refine (hX.out V a3 _ c3 (Ah.mono HVV.out.dat fun q hq=>hq.2)).mono ?_;rintro r w4 ⟨v,rfl,hr,hb⟩;obtain⟨a4,c4,hv,hr2,_⟩:=At hr;simp only[Ai,As] at hv;subst hv;have hzV:=HVV.out.be.lt;have hV4:=(HVV.out.later hb).data (Ah.mono hr2 fun q hq=>(⟨zD,hq.2⟩:w2.heap.size<q∧q<w4.heap.size));have HV4:=hid hV4;clear hr hr2 hb hV4 x0 x1 x2 x3 e0 e1 e2 e3 l0;obtain⟨x0,x1,x2,x3,e0,e1,e2,e3,l0⟩:=Aq HV4.out.be;go_wp2_with fail;refine (hFX2.out _).mono ?_;rintro r w5 ⟨rfl,hb⟩;have hb45:Below w4.heap.size w4 w5:=zA;have HV5:=hid ((HV4.out.later hb45).set FX);have hV5:=HV4.out.later hb45;clear x0 x1 x2 x3 e0 e1 e2 e3 l0;obtain⟨x0,x1,x2,x3,e0,e1,e2,e3,l0⟩:=Aq hV5.be;clear hb hV5;go_upto_region 21 with (fail);refine Cm (fun V=>Fu w V B a c s FX w2.heap.size [] a4 c4) (HV5.out) ?_;intro V hV;clear x0 x1 x2 x3 e0 e1 e2 e3 l0;obtain⟨x0,x1,x2,x3,e0,e1,e2,e3,l0⟩:=Aq hV.be;obtain⟨y0,y1,y2,y3,g0,g1,g2,g3,l1⟩:=Aq hV.b1;have hbl:=hV.bel;go_wp2;refine Af (v:=.tuple #[.agg #[.slice a B.length c,.int .i64 (FX.p:Int),.int .i64 FX.k,.int .i64 FX.f],.slice none 0 0,.bool false]) ZM rfl ⟨_,rfl,AT rfl rfl zD,zA⟩
    ·have db:(sb.k==(0:Int))=false:=by simp[hb]
     rw[Ak hb] at hUeq;subst hUeq;dsimp only;rw[Ak hb];have dt:(sb.k !=(0:Int))=true:=by simp[hb]
     clear hb;dsimp only;go_enter Jz,Ib;cases qm;all_goals
      simp only[DE,if_false,En] at hI;go_wp2_with fail;refine (hI.out _ zA).mono ?_;rintro r w1 ⟨rfl,hb⟩;have B0:Blk w1 w.heap.size 60 #[.slice a B.length c,.int .i64 (s.p:Int),.int .i64 s.k,.int .i64 s.f]:=Blk.later zB hb;have B1:Blk w1 (w.heap.size+1) 60 #[.slice none 0 0,.int .i64 0,.int .i64 0,.int .i64 0]:=Blk.later zB hb;have hbw1:Below w.heap.size w w1:=zA;have hz1:=hb.size;simp at hz1;clear hb;go_wp2_with fail;refine (hBY.out _ zA).mono ?_;rintro r w2 ⟨v,rfl,hr,hb⟩;obtain⟨aW,cW,hv,hr2,_⟩:=At hr;simp only[Ai,As] at hv;subst hv;have HW2:=hid (Ah.mono (S':=(·<w2.heap.size)) hr2 fun q hq=>hq.2);have C0:=(B0.alloc _).later hb;have C1:=(B1.alloc _).later hb;have CD:Blk w2 w1.heap.size 60 #[.slice a B.length c,.int .i64 (sd.p:Int),.int .i64 sd.k,.int .i64 sd.f]:=Blk.later (Blk.newAt w1 _ _ rfl) hb;have hbw2:Below w.heap.size w w2:=zA;have hz2:=hb.size;simp at hz2;clear hb hr hr2 B0 B1;have hV2:Fu w (w2.alloc (.cells #[.slice a B.length c,.int .i64 (se.p:Int),.int .i64 se.k,.int .i64 se.f] 60)) B a c s se w2.heap.size [] none 0:=⟨C0.alloc _,C1.alloc _,Blk.newAt _ _ _ rfl,zD,AT rfl rfl zD,zA⟩;have HV2:=hid hV2;clear hV2;obtain⟨gw,ow,hA,hgw,hcw⟩:=Bt HW2.out (i:=0) zP;subst hA;simp at hcw;obtain⟨x0,x1,x2,x3,e0,e1,e2,e3,l0⟩:=Aq CD;clear C0 C1;go_wp2_with fail;refine (hBL.out _ zA).mono ?_;rintro r w3 ⟨v,rfl,hr,hb⟩;obtain⟨a3,c3,hv,hr2,_⟩:=At hr;simp only[Ai,As] at hv;subst hv;have hV3:=(HV2.out.later hb).data (Ah.mono hr2 fun q hq=>(⟨ZF,hq.2⟩:w2.heap.size<q∧q<w3.heap.size));have HV3:=hid ((hV3.set sb).later (Aw (Below.refl _ _) (.cells #[.slice a B.length c,.int .i64 (sb.p:Int),.int .i64 sb.k,.int .i64 sb.f] 60)));obtain⟨x0,x1,x2,x3,e0,e1,e2,e3,l0⟩:=Aq hV3.be;clear hr hr2 hb hV3;go_upto_region 14 with (fail);refine Cm (fun V=>Fu w V B a c s sb w2.heap.size TB a3 c3) (HV3.out) ?_;intro V hV;clear x0 x1 x2 x3 e0 e1 e2 e3 l0;obtain⟨x0,x1,x2,x3,e0,e1,e2,e3,l0⟩:=Aq hV.be;obtain⟨y0,y1,y2,y3,g0,g1,g2,g3,l1⟩:=Aq hV.b1;have hbl:=hV.bel;go_wp2;refine Af (v:=.tuple #[.agg #[.slice a B.length c,.int .i64 (sb.p:Int),.int .i64 sb.k,.int .i64 sb.f],.slice none 0 0,.bool false]) ZM rfl ⟨_,rfl,AT rfl rfl zD,zA⟩
   ·have d1:decide ((1:Int)<(y.toNat:Int))=true:=Ae zD
    have d1':decide (1<y.toNat)=true:=Ae zD;rw[Ak h1];clear h0 h1 hUeq;rw[show (se.p:Int)-1=(sd.p:Int) by have:=hp1.out;omega] at hF7;dsimp only;go_enter Jz,Ib;cases qm;all_goals
     simp only[DE,if_false,En] at hI;go_wp2_with fail;refine (hI.out _ zA).mono ?_;rintro r w1 ⟨rfl,hb⟩;have B0:Blk w1 w.heap.size 60 #[.slice a B.length c,.int .i64 (s.p:Int),.int .i64 s.k,.int .i64 s.f]:=Blk.later zB hb;have B1:Blk w1 (w.heap.size+1) 60 #[.slice none 0 0,.int .i64 0,.int .i64 0,.int .i64 0]:=Blk.later zB hb;have hbw1:Below w.heap.size w w1:=zA;have hz1:=hb.size;simp at hz1;clear hb;go_wp2_with fail;refine (hBY.out _ zA).mono ?_;rintro r w2 ⟨v,rfl,hr,hb⟩;obtain⟨aW,cW,hv,hr2,_⟩:=At hr;simp only[Ai,As] at hv;subst hv;have HW2:=hid (Ah.mono (S':=(·<w2.heap.size)) hr2 fun q hq=>hq.2);have C0:=(B0.alloc _).later hb;have C1:=(B1.alloc _).later hb;have CD:Blk w2 w1.heap.size 60 #[.slice a B.length c,.int .i64 (sd.p:Int),.int .i64 sd.k,.int .i64 sd.f]:=Blk.later (Blk.newAt w1 _ _ rfl) hb;have hbw2:Below w.heap.size w w2:=zA;have hz2:=hb.size;simp at hz2;clear hb hr hr2 B0 B1;have hV2:Fu w (w2.alloc (.cells #[.slice a B.length c,.int .i64 (se.p:Int),.int .i64 se.k,.int .i64 se.f] 60)) B a c s se w2.heap.size [] none 0:=⟨C0.alloc _,C1.alloc _,Blk.newAt _ _ _ rfl,zD,AT rfl rfl zD,zA⟩;have HV2:=hid hV2;clear hV2;obtain⟨gw,ow,hA,hgw,hcw⟩:=Bt HW2.out (i:=0) zP;subst hA;simp at hcw;obtain⟨x0,x1,x2,x3,e0,e1,e2,e3,l0⟩:=Aq CD;clear C0 C1;go_wp2_with fail;refine (hF7.out _).mono ?_;rintro r w3 ⟨rfl,hb⟩;have hV3:=HV2.out.later hb;obtain⟨y0,y1,y2,y3,g0,g1,g2,g3,l1⟩:=Aq hV3.b1;have hbl:=hV3.bel;clear hb hV3 x0 x1 x2 x3 e0 e1 e2 e3 l0;go_wp2;refine Af (v:=.tuple #[.agg #[.slice a B.length c,.int .i64 (F7.p:Int),.int .i64 F7.k,.int .i64 F7.f],.slice none 0 0,.bool false]) ZM rfl ⟨_,rfl,AT rfl rfl zD,zA⟩
 ·have dk:(se.k !=(0:Int))=true:=by simp[hk]
  rw[Ak hk];clear hk hb1 hby1 hUeq;dsimp only;go_enter Jz,Ib;cases qm;all_goals
   simp only[DE,if_false,En] at hI;go_wp2_with fail;refine (hI.out _ zA).mono ?_;rintro r w1 ⟨rfl,hb⟩;have B0:Blk w1 w.heap.size 60 #[.slice a B.length c,.int .i64 (s.p:Int),.int .i64 s.k,.int .i64 s.f]:=Blk.later zB hb;have B1:Blk w1 (w.heap.size+1) 60 #[.slice none 0 0,.int .i64 0,.int .i64 0,.int .i64 0]:=Blk.later zB hb;have hbw1:Below w.heap.size w w1:=zA;have hz1:=hb.size;simp at hz1;clear hb;go_wp2_with fail;refine (hBY.out _ zA).mono ?_;rintro r w2 ⟨v,rfl,hr,hb⟩;obtain⟨aW,cW,hv,hr2,_⟩:=At hr;simp only[Ai,As] at hv;subst hv;have HW2:=hid (Ah.mono (S':=(·<w2.heap.size)) hr2 fun q hq=>hq.2);have C0:=(B0.alloc _).later hb;have C1:=(B1.alloc _).later hb;have CD:Blk w2 w1.heap.size 60 #[.slice a B.length c,.int .i64 (sd.p:Int),.int .i64 sd.k,.int .i64 sd.f]:=Blk.later (Blk.newAt w1 _ _ rfl) hb;have hbw2:Below w.heap.size w w2:=zA;have hz2:=hb.size;simp at hz2;clear hb hr hr2 B0 B1;obtain⟨y0,y1,y2,y3,g0,g1,g2,g3,l1⟩:=Aq C1;clear C0 C1 CD HW2;go_wp2;refine Af (v:=.tuple #[.agg #[.slice a B.length c,.int .i64 (se.p:Int),.int .i64 se.k,.int .i64 se.f],.slice none 0 0,.bool false]) ZM rfl ⟨_,rfl,AT rfl rfl zD,zA⟩
end Go.Proofs.YtlbffbkbkajciaaGreat
