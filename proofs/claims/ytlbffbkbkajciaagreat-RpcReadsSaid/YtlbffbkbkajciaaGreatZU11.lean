/- Mini: Needed by rpcReads_walk, part 11: texts put together by shake.py; no condition. -/
import Derived.Test.YtlbffbkbkajciaaGreatZU7
import Derived.Test.YtlbffbkbkajciaaGreatZU5
import Derived.Test.YtlbffbkbkajciaaGreatZU4
import Derived.Test.YtlbffbkbkajciaaGreatZU3
import Derived.Test.YtlbffbkbkajciaaGreatZU2
import Derived.Test.YtlbffbkbkajciaaGreatZU9
import Derived.Test.YtlbffbkbkajciaaGreatZU10
import Derived.Scope
import Derived.Test.YtlbffbkbkajciaaGreatZU8
import Derived.Test.YtlbffbkbkajciaaGreatZU1
import Derived.Test.YtlbffbkbkajciaaGreatProg
import Derived.WalkKit
import Derived.Deep.Cut
import Derived.Deep.WholeRow
import Derived.BigQuiet
set_option linter.unusedVariables false
set_option linter.unusedSimpArgs false
set_option maxRecDepth 100000
set_option maxHeartbeats 6400000
namespace Go.Bs
theorem zCy{p:Prop}(h:p:=by simp [BG]):p:=h
theorem zB8{p:Prop}(h:p:=by simp [results, Tryz.results129, go_sem, b0, b1, b2, b3, y0, y1, l4, l5]):p:=h
theorem zB6{p:Prop}(h:p:=by simp [results, Tryz.results129, go_sem, b0, b1, b2, b3, y0, y1, l4', l5']):p:=h
theorem zBf{p:Prop}(h:p:=by rw [hb.out]; rfl):p:=h
theorem zA9{p:Prop}(h:p:=by rw [hff.out, hfin.out]; rfl):p:=h
theorem zA6{p:Prop}(h:p:=by simp [results, Tryz.results220, go_sem, lt2, x0, x1, x2]):p:=h
theorem zAp{p:Prop}(h:p:=by rw [← HW1.out]; simp):p:=h
theorem zAm{p:Prop}(h:p:=by unfold Dw; dsimp only; rw [hG]):p:=h
theorem zAj{p:Prop}(h:p:=by simp [results, Tryz.results196, go_sem, n0, n1, ln]):p:=h
end Go.Bs
namespace Go.Proofs.YtlbffbkbkajciaaGreat
open Go.RowKit Go.Bs Go.Maps
variable{B:List UInt8}{c g n p:Nat}{a:Option Addr}{s:Rs}{t:TypeId}{v v0 v1:Value}{W W' w w':World}
theorem Rs.NS{lo:Int}(h:(s.Bb B lo).1.k≠0):(s.Bb B lo).2=DS:=by
 unfold Rs.Bb at h ⊢;dsimp only at h ⊢;split at h
 ·rename_i h1
  exact absurd h1 h
 ·rename_i h1
  rw[Ak h1]
theorem Rs.NP{lo:Int}(h0:0≤lo):inU (s.Bb B lo).2.lo∧inU (s.Bb B lo).2.hi:=by
 by_cases hk:(s.Bb B lo).1.k=0
 ·obtain⟨h1,h2⟩:=Rs.Rw hk
  simp only[Dw,AL,AN] at h1;unfold inU;omega
 ·rw[Rs.NS hk]
  exact⟨⟨zS,zS⟩,⟨zS,zS⟩⟩
theorem Dy(h:Blk w g t #[v0,v1]):w.cell? ⟨g,0,none⟩=some v0∧w.cell? ⟨g,1,none⟩=some v1∧w.frozen? ⟨g,0,none⟩=false∧w.frozen? ⟨g,1,none⟩=false∧g<w.heap.size:=
 ⟨h.cell 0,h.cell 1,h.free 0,h.free 1,h.lt⟩
theorem Rs.Hi{lo:Int}{out:List Cq}(h:s.k≠0):∀n,(Rs.CS B n s lo out).1=s
 | 0=>rfl
 | n+1=>by
  unfold Rs.CS;rw[Rs.Gp h,Ak h]
theorem RT(w:World)(h:AY w g B a s)(hB:B.length≤1000000000):
  Calls Tryz.prog 196 #[.pointer (some ⟨g,0,none⟩)] w fun r w'=>∃v,r=.returned (.agg #[.int .u64 (s.Du B).2.epoch,v])∧A3.r (CO w w') w' [v] (s.Du B).2.stripes∧AB w g B a (s.Du B).1 w':=by
 have hlt:=h.blk.lt;have HIN:=hid (CY.refl h);obtain⟨j0,ji,jz0,jz1,jz2⟩:=Bc Lv;have HEP:=hid (fun (W:World) (hW:AY W g B a s)=>IQ W hW hB);unfold Rs.Du Rs.many;clear h;generalize s.ep B=E at*;obtain⟨s1,e⟩:=E;dsimp only at*;have HAT:=hid (fun (W:World) (hW:AY W g B a s1)=>Cc W hW);have HVI:=hid (fun (W:World) (hW:AY W g B a s1)=>DR W hW zD 64 zD);have hn64:=Rs.FW (B:=B) (s:=s1) (m:=64);generalize s1.int B 64=I at*;obtain⟨s2,n⟩:=I;dsimp only at*;have hn:n≤64:=zD;clear hn64;obtain⟨s3,hs3⟩:∃t,t=(if n=0 then s2.fail 3 s1.p else s2):=⟨_,rfl⟩;rw[←hs3];have HS3:=hid hs3;clear hs3;obtain⟨U,hU⟩:∃t,t=Rs.CS B n s3 0 []:=⟨_,rfl⟩;rw[←hU];have HU:=hid hU;clear hU;generalize hRES:(if (if U.2.1=4611686018427387904 then U.1 else U.1.fail 3 U.1.p).k=0 then ((if U.2.1=4611686018427387904 then U.1 else U.1.fail 3 U.1.p),(⟨(e:Int),U.2.2⟩:EC)) else ((if U.2.1=4611686018427387904 then U.1 else U.1.fail 3 U.1.p),Bx))=RES;have HRES:=hid hRES;clear hRES;go_enter Tryz.func196,Tryz.ntmps196;go_wp2_with fail;refine (HEP.out _ (HIN.out.row zA).rd).mono ?_;rintro r w1 ⟨rfl,hst⟩;have hR1:=hid (Blk.tch (Blk.new w 30 #[.int .u64 0,.slice none 0 0]) hst.2 zD);have hI1:=hid ((HIN.out.row zA).step hst);have hz1:w.heap.size<w1.heap.size:=hR1.out.lt;clear hst;go_wp2_with fail;refine (HAT.out _ (hI1.out.row ((by (repeat (first | with_reducible exact Below.refl _ _ | with_reducible assumption | (with_reducible refine Aw ?_ _) | (with_reducible refine Below.setCell ?_ zE _) | (with_reducible refine Below.drew ?_) | (with_reducible refine below_drewN ?_ _) | (refine Ag zI ?_))):Below w1.heap.size w1 _).mono zD)).rd).mono ?_;rintro r w1' ⟨rfl,rfl⟩;go_wp2_with fail;refine (HVI.out _ (hI1.out.row ((by (repeat (first | with_reducible exact Below.refl _ _ | with_reducible assumption | (with_reducible refine Aw ?_ _) | (with_reducible refine Below.setCell ?_ zE _) | (with_reducible refine Below.drew ?_) | (with_reducible refine below_drewN ?_ _) | (refine Ag zI ?_))):Below w1.heap.size w1 _).mono zD)).rd).mono ?_;rintro r w2 ⟨rfl,hst⟩;have hP2:=hid (Blk.tch (Blk.new w1 30 #[.int .u64 (e:Int),.slice none 0 0]) hst.2 zD);have hR2:=hid (Blk.tch (hR1.out.alloc _) hst.2 zD);have hI2:=hid ((hI1.out.row ((by (repeat (first | with_reducible exact Below.refl _ _ | with_reducible assumption | (with_reducible refine Aw ?_ _) | (with_reducible refine Below.setCell ?_ zE _) | (with_reducible refine Below.drew ?_) | (with_reducible refine below_drewN ?_ _) | (refine Ag zI ?_))):Below w1.heap.size w1 _).mono zD)).step hst);have hz2:w1.heap.size<w2.heap.size:=hP2.out.lt;clear hst;go_upto_if 16 with (fail);go_cut [] from 15 to 19 (fun V=>Hid (CY w V g B a s3)∧Hid (Blk V w.heap.size 30 #[.int .u64 0,.slice none 0 0])∧Hid (Blk V w1.heap.size 30 #[.int .u64 (e:Int),.slice none 0 0]))
 case first=>
  by_cases hp:n=0
  ·have HE:=HS3.out
   rw[An hp] at HE;have HE2:=hid HE;have d1:((n:Int)==0)=true:=by simp[hp]
   clear HE hp;rw[d1];go_wp2_with fail;refine (Br _ hI2.out.rd 3 (s1.p:Int) zD).mono ?_;rintro r w3 ⟨rfl,hst⟩;have hI3:=hid (hI2.out.step hst);have hR3:=hid (Blk.tch hR2.out hst.2 zD);have hP3:=hid (Blk.tch hP2.out hst.2 zD);clear hst;go_wp2_with fail;go_meet
   case rel=>exact ⟨hid (by rw[HE2.out];exact hI3.out),hR3,hP3⟩
  ·have HE:=HS3.out
   rw[Ak hp] at HE;have HE2:=hid HE;have d1:((n:Int)==0)=false:=by simp[hp]
   clear HE hp;rw[d1];go_wp2_with fail;go_meet
   case rel=>exact ⟨hid (by rw[HE2.out];exact hI2.out),hR2,hP2⟩
 case rest=>
  obtain⟨hI3,hR3,hP3⟩:=hcut;obtain⟨w3,hwn⟩:∃W:World,W=wc:=⟨_,rfl⟩;subst hwn;have lP3:=hP3.out.lt;go_wp2_with fail;go_loopw [6,21] (fun f i wr=>∃(j:Nat) (J:List Cq) (st:Rs) (lo:Int) (av:Option Addr) (cv:Nat),j≤n∧i=.int .i64 j∧f=.int .u64 lo∧0≤lo∧lo≤18446744073709551615∧Hid (J.length=j)∧Hid (AD w3.heap.size GM w3.heap.size 155 3 wr (.slice av J.length cv) J)∧Hid (CY w wr g B a st)∧Hid (Blk wr w.heap.size 30 #[.int .u64 0,.slice none 0 0])∧Hid (Blk wr w1.heap.size 30 #[.int .u64 (e:Int),.slice av J.length cv])∧Hid (st.k=0→U=Rs.CS B (n-j) st lo J)∧Hid (st.k≠0→U.1=st)∧w3.heap.size≤wr.heap.size) (fun _ i _=>n-(intOf i).toNat)
  case atStart=>exact ⟨0,[],s3,0,none,0,Ao _,rfl,rfl,zD,zD,hid rfl,hid AD.nil,hI3,hR3,hP3,hid (fun _=>HU.out),hid (fun hk=>by rw[HU.out];exact Rs.Hi hk n),Aj _⟩
  case round=>
   obtain⟨j,J,st,lo,av,cv,hj,rfl,rfl,hl0,hl1,HJ,HO,hIr,hRr,hPr,HSP,HSN,hzr⟩:=hrel;obtain⟨x0,x1,f0,f1,l8⟩:=Dy hPr.out;have lr:=hRr.out.lt;have hJ9:J.length≤64:=zCh;rcases Bm j n with hlt2 | hge
   ·have i1:(j:Int)<(n:Int):=by omega
    have d1:decide ((j:Int)<(n:Int))=true:=Ae i1;have hsp1:(st.Bb B lo).1.k=0→U=Rs.CS B (n-(j+1)) (st.Bb B lo).1 (st.Bb B lo).2.hi (J++[(st.Bb B lo).2]):=fun hk=>by
     rw[HSP.out (Rs.SL hk),show n-j=(n-(j+1))+1 by omega];exact An hk
    have hsn1:(st.Bb B lo).1.k≠0→U.1=(st.Bb B lo).1:=fun hk=>by
     by_cases hs:st.k=0
     ·rw[HSP.out hs,show n-j=(n-(j+1))+1 by omega]
      exact Cs Prod.fst (Ak hk)
     ·rw[Rs.Gp hs]
      exact HSN.out hs
    have hbu:=Rs.NP (B:=B) (s:=st) hl0;have HSR:=hid (NQ wr hIr.out.rd hB lo ⟨hl0,hl1⟩);generalize st.Bb B lo=T at*;obtain⟨s5,z⟩:=T;dsimp only at*;have HS1:=hid hsp1;have HS2:=hid hsn1;have HOB:Hid (∀q,(Value.slice av J.length cv).ownBlock=some q→w3.heap.size≤q∧q<wr.heap.size):=hid (by
     obtain⟨cells0,OA0⟩:=HO.out;exact fun q e=>Dm OA0.1 q e)
    clear hsp1 hsn1;go_wp2_with fail;refine HSR.out.mono ?_;rintro r w5 ⟨v5,rfl,hv5,hst⟩;obtain⟨a5,c5,hfv,hv5',_⟩:=At hv5;simp only[Ai,As] at hfv;subst hfv;have hI5:=hid (hIr.out.step hst);have hR5:=hid (Blk.tch hRr.out hst.2 zD);have hP5:=hid (Blk.tch hPr.out hst.2 zD);have hO5:=hid (AD.Pb HO.out hst.2 (fun b h1 h2 e=>zD));have hz5:=hst.2.size;obtain⟨y0,y1,g0,g1,l5⟩:=Dy hP5.out;have hb68:Below w5.heap.size w5 ((w5.alloc (.cells #[.int .u64 z.lo,.int .u64 z.hi,.slice a5 z.sets.length c5] 155)).alloc (.cells #[.int .u64 z.lo,.int .u64 z.hi,.slice a5 z.sets.length c5] 155)):=zA;obtain⟨cells,OA⟩:=AD.below hO5.out hb68;have hx:GM.r (fun b=>w3.heap.size≤b∧b<((w5.alloc (.cells #[.int .u64 z.lo,.int .u64 z.hi,.slice a5 z.sets.length c5] 155)).alloc (.cells #[.int .u64 z.lo,.int .u64 z.hi,.slice a5 z.sets.length c5] 155)).heap.size∧(Value.slice av J.length cv).ownBlock≠some b) ((w5.alloc (.cells #[.int .u64 z.lo,.int .u64 z.hi,.slice a5 z.sets.length c5] 155)).alloc (.cells #[.int .u64 z.lo,.int .u64 z.hi,.slice a5 z.sets.length c5] 155)) [.int .u64 z.lo,.int .u64 z.hi,.slice a5 z.sets.length c5] z:=by
     refine Mf hbu.1 hbu.2 (De.mono (De.keep hv5 fun b hb=>hb68.block b hb.2) fun b hb=>⟨?_,?_,fun e=> ?_⟩)
     ·have:=hb.1;omega
     ·have:=hb.2;simp;omega
     ·have:=(HOB.out b e).2;have:=hb.1;omega
    have HX:=hid hx;have HA:=hid OA;have HS9:Hid (w3.heap.size≤((w5.alloc (.cells #[.int .u64 z.lo,.int .u64 z.hi,.slice a5 z.sets.length c5] 155)).alloc (.cells #[.int .u64 z.lo,.int .u64 z.hi,.slice a5 z.sets.length c5] 155)).heap.size):=hid zM;have Q6:Blk ((w5.alloc (.cells #[.int .u64 z.lo,.int .u64 z.hi,.slice a5 z.sets.length c5] 155)).alloc (.cells #[.int .u64 z.lo,.int .u64 z.hi,.slice a5 z.sets.length c5] 155)) w5.heap.size 155 #[.int .u64 z.lo,.int .u64 z.hi,.slice a5 z.sets.length c5]:=zB;have HQ6:=hid Q6;clear hx OA hst hv5 hv5' Q6 x0 x1 f0 f1;go_wp2_with (at_builtin;go_loud (refine Ar rfl _ _ _ rfl w3.heap.size 155 j0 (.agg #[.int .u64 0,.int .u64 0,.slice none 0 0]) 3 40 Tryz.underlying28 ji jz0 jz1 jz2 rfl zS (.slice av J.length cv) J.length _ rfl HA.out.1 (some ⟨w5.heap.size+1,0,none⟩) 1 1 [.int .u64 z.lo,.int .u64 z.hi,.slice a5 z.sets.length c5] rfl (Bf (w5.alloc (.cells #[.int .u64 z.lo,.int .u64 z.hi,.slice a5 z.sets.length c5] 155)) 155 _ rfl zP rfl) (by intro u hu;simp at hu;rcases hu with rfl | rfl | rfl<;>rfl) zR zD HS9.out ?_;intro v9 w9 hown9 hgrow9 hat9;obtain⟨a9,c9,rfl⟩:=AX hown9;have OP:=hid (AD.push HA.out rfl HX.out hown9 hgrow9 hat9 hgrow9.size);have hb9:=hid (show Below w3.heap.size w5 w9 from Below.grown (hb68.mono zD) hgrow9 HS9.out (fun g e=>(HOB.out g e).1));have hz9:=hgrow9.size;simp at hz9;have hQ9:Blk w9 w5.heap.size 155 #[.int .u64 z.lo,.int .u64 z.hi,.slice a5 z.sets.length c5]:=(hgrow9.block w5.heap.size zM (fun e=>zCb)).trans HQ6.out;have hP9:=hP5.out.below hb9.out zD;obtain⟨n0,n1,n2,n3,n4⟩:=Dy hP9;obtain⟨q0,q1,q2,_,_,_,lq⟩:=Ej (Blk.far hQ9 (p:=⟨w1.heap.size,1,none⟩) zH (.slice a9 (J.length+1) c9));have HP9:=hid hP9;clear hown9 hgrow9 hat9 hQ9 hP9 y0 y1 g0 g1 l5))
    have HO9:=hid (AD.Pb OP.out ((Tch.refl (·=w1.heap.size) w9).setCell (p:=⟨w1.heap.size,1,none⟩) (fun _=>rfl) (.slice a9 (J.length+1) c9)) (fun b h1 h2 e=>zD));go_roundw
    case rel=>exact ⟨j+1,J++[z],s5,z.hi,a9,c9,zD,zZ,rfl,hbu.2.1,hbu.2.2,hid zBa,hid (by rw[Au];exact HO9.out),hid ((hI5.out.row (hb9.out.mono zD)).row zA),hid (Blk.far (hR5.out.below hb9.out zD) zH _),hid (by rw[Au];exact HP9.out.set 1 _),HS1,HS2,by rw[Gu];omega⟩
    case measure=>(simp[intOf];try omega)
   ·obtain rfl:j=n:=by omega
    have d1:decide ((j:Int)<(j:Int))=false:=Ad zD;by_cases hk:st.k=0
    ·have HE:=HSP.out hk
     rw[Dg] at HE;have HE2:U=(st,lo,J):=HE;clear HE;by_cases hm:lo=4611686018427387904
     ·have HR2:Hid (RES=(st,⟨(e:Int),J⟩)):=hid (by
       rw[←HRES.out,HE2];dsimp only;rw[An hm];exact An hk)
      have dn:(lo !=4611686018427387904)=false:=by simp[hm]
      have HG:=hid (fun (W:World) (hW:AY W g B a st)=>(by have:=AG W hW;rw[Ae hk] at this;exact this:Calls Tryz.prog 44 #[.pointer (some ⟨g,0,none⟩)] W fun r w'=>r=.returned (.bool true)∧Below W.heap.size W w'));clear hm hk HE2;go_wp2_with fail;refine (HG.out _ hIr.out.rd).mono ?_;rintro r w11 ⟨rfl,hb11⟩;have hz11:=hb11.size;have HI11:=hid (hIr.out.row (hb11.mono zD));have HP11:=hPr.out.later hb11;have HR11:=hRr.out.later hb11;have HO11:=hid (AD.slice (Aj _) (AD.below HO.out hb11));clear x0 x1 f0 f1 l8 hb11;obtain⟨x0,x1,f0,f1,l8⟩:=Dy HP11;obtain⟨r0,r1,g0,g1,lr2⟩:=Dy HR11;go_wp2_with fail;obtain⟨n0,n1,_,_,ln⟩:=Dy ((HR11.set 0 (.int .u64 (e:Int))).set 1 (.slice av J.length cv));rw[HR2.out];refine Af (v:=.agg #[.int .u64 (e:Int),.slice av J.length cv]) zAj rfl ⟨_,rfl,?_,(HI11.out.row zA).to⟩;refine A3.mono (A3.keep HO11.out fun b hb=> ?_) fun b hb=>⟨ZS,by have:=hb.2;simp;omega⟩;have:=hb.1;repeat rw[Ap _ _ _ _ zH]
     ·have hfk:(st.fail 3 (st.p:Int)).k≠0:=Rs.BV zD
      have HR2:Hid (RES=(st.fail 3 (st.p:Int),Bx)):=hid (by
       rw[←HRES.out,HE2];dsimp only;rw[Ak hm];exact Ak hfk)
      have dn:(lo !=4611686018427387904)=true:=by simp[hm]
      have HFA:=hid (fun (W:World) (hW:AY W g B a st)=>Br W hW 3 (st.p:Int) zD);have HAS:=hid (fun (W:World) (hW:AY W g B a st)=>Cc W hW);have HG:=hid (fun (W:World) (hW:AY W g B a (st.fail 3 (st.p:Int)))=>(by have:=AG W hW;rw[Ad hfk] at this;exact this:Calls Tryz.prog 44 #[.pointer (some ⟨g,0,none⟩)] W fun r w'=>r=.returned (.bool false)∧Below W.heap.size W w'));clear hm hk hfk HE2;go_wp2_with fail;refine (HAS.out _ hIr.out.rd).mono ?_;rintro r wr' ⟨rfl,rfl⟩;go_wp2_with fail;refine (HFA.out _ hIr.out.rd).mono ?_;rintro r w10 ⟨rfl,hst⟩;have hI10:=hid (hIr.out.step hst);have hR10:=hid (Blk.tch hRr.out hst.2 zD);clear hst;go_wp2_with fail;refine (HG.out _ hI10.out.rd).mono ?_;rintro r w11 ⟨rfl,hb11⟩;have HI11:=hid (hI10.out.row (hb11.mono (by have:=hI10.out.tch.size;omega)));have HR11:=hid (hR10.out.later hb11);clear hb11 x0 x1 f0 f1 l8;obtain⟨r0,r1,g0,g1,lr2⟩:=Dy HR11.out;go_wp2_with fail;obtain⟨n0,n1,_,_,ln⟩:=Dy ((HR11.out.set 0 (.int .u64 0)).set 1 (.slice none 0 0));rw[HR2.out];refine Af (v:=.agg #[.int .u64 0,.slice none 0 0]) zAj rfl ⟨_,rfl,AZ (xs:=[]) rfl (Aj _) (Ao _) (.inl rfl),(HI11.out.row zA).to⟩
    ·have HE:=HSN.out hk
     have hfb:st.fail 3 (st.p:Int)=st:=Rs.Bl hk;have HR2:Hid (RES=(st,Bx)):=hid (by
      rw[←HRES.out,HE,hfb,ite_self];exact Ak hk)
     have HG:=hid (fun (W:World) (hW:AY W g B a st)=>(by have:=AG W hW;rw[Ad hk] at this;exact this:Calls Tryz.prog 44 #[.pointer (some ⟨g,0,none⟩)] W fun r w'=>r=.returned (.bool false)∧Below W.heap.size W w'));have HFB:=hid hfb;clear hk HE hfb;by_cases hm:lo=4611686018427387904
     ·have dn:(lo !=4611686018427387904)=false:=by simp[hm]
      clear hm;go_wp2_with fail;refine (HG.out _ hIr.out.rd).mono ?_;rintro r w11 ⟨rfl,hb11⟩;have HI11:=hid (hIr.out.row (hb11.mono zD));have HR11:=hid (hRr.out.later hb11);clear hb11 x0 x1 f0 f1 l8;obtain⟨r0,r1,g0,g1,lr2⟩:=Dy HR11.out;go_wp2_with fail;obtain⟨n0,n1,_,_,ln⟩:=Dy ((HR11.out.set 0 (.int .u64 0)).set 1 (.slice none 0 0));rw[HR2.out];refine Af (v:=.agg #[.int .u64 0,.slice none 0 0]) zAj rfl ⟨_,rfl,AZ (xs:=[]) rfl (Aj _) (Ao _) (.inl rfl),(HI11.out.row zA).to⟩
     ·have dn:(lo !=4611686018427387904)=true:=by simp[hm]
      clear hm;have HFA:=hid (fun (W:World) (hW:AY W g B a st)=>(by have:=Br W hW 3 (st.p:Int) zD;rw[HFB.out] at this;exact this:Calls Tryz.prog 180 #[.pointer (some ⟨g,0,none⟩),.int .i64 3,.int .i64 (st.p:Int)] W fun r w'=>r=.returned (.tuple #[])∧AB W g B a st w'));have HAS:=hid (fun (W:World) (hW:AY W g B a st)=>Cc W hW);go_wp2_with fail;refine (HAS.out _ hIr.out.rd).mono ?_;rintro r wr' ⟨rfl,rfl⟩;go_wp2_with fail;refine (HFA.out _ hIr.out.rd).mono ?_;rintro r w10 ⟨rfl,hst⟩;have hI10:=hid (hIr.out.step hst);have hR10:=hid (Blk.tch hRr.out hst.2 zD);clear hst;go_wp2_with fail;refine (HG.out _ hI10.out.rd).mono ?_;rintro r w11 ⟨rfl,hb11⟩;have HI11:=hid (hI10.out.row (hb11.mono (by have:=hI10.out.tch.size;omega)));have HR11:=hid (hR10.out.later hb11);clear hb11 x0 x1 f0 f1 l8;obtain⟨r0,r1,g0,g1,lr2⟩:=Dy HR11.out;go_wp2_with fail;obtain⟨n0,n1,_,_,ln⟩:=Dy ((HR11.out.set 0 (.int .u64 0)).set 1 (.slice none 0 0));rw[HR2.out];refine Af (v:=.agg #[.int .u64 0,.slice none 0 0]) zAj rfl ⟨_,rfl,AZ (xs:=[]) rfl (Aj _) (Ao _) (.inl rfl),(HI11.out.row zA).to⟩
structure MW(w:World)(a:Option Addr)(n c:Nat)(g6 g8 L0:Nat)(e:Int)(st:Rs)(v:Value)(J:List Cq)(W:World):Prop where
 d:Blk W g6 60 #[.slice a n c,.int .i64 (st.p:Int),.int .i64 st.k,.int .i64 st.f]
 s:Blk W g8 30 #[.int .u64 e,v]
 r4:Blk W (w.heap.size+1) 60 #[.slice none 0 0,.int .i64 0,.int .i64 0,.int .i64 0]
 r5:Blk W (w.heap.size+1+1) 30 #[.int .u64 0,.slice none 0 0]
 own:AD L0 GM L0 155 3 W v J
 bel:Below w.heap.size w W
 le:L0≤W.heap.size
theorem MW.later{g6 g8 L0:Nat}{e:Int}{st:Rs}{J:List Cq}(h:MW w a n c g6 g8 L0 e st v J W)(hb:Below W.heap.size W W'):MW w a n c g6 g8 L0 e st v J W':=
 ⟨h.d.later hb,h.s.later hb,h.r4.later hb,h.r5.later hb,AD.below h.own hb,Ag hb h.bel,A4 h.le hb.size⟩
theorem PA(w:World)(a:Option Addr)(c:Nat)(B:List UInt8)(hl:Ah.r (·<w.heap.size) w [.slice a B.length c] B)(s:Rs)(hs:s.ok B.length)(hB:B.length≤1000000000000):
  Calls Tryz.prog 129 #[CV a B.length c s] w fun r w'=>∃v,r=.returned (.tuple #[CV a B.length c (s.Du B).1,.agg #[.int .u64 (s.Du B).2.epoch,v]])∧A3.r (CO w w') w' [v] (s.Du B).2.stripes∧Below w.heap.size w w':=by
 obtain⟨j0,ji,jz0,jz1,jz2⟩:=Bc Lv;have HL:=hid hl;have HEP:=hid (fun (W:World) (hW:Below w.heap.size w W)=>Lc W a c B (lift HL.out hW) s hs hB);have hok1:=Rs.JV (B:=B) hs;have HFT:=hid (fun (W:World) (t:Rs) (q:Nat)=>Bk W a B.length c t 3 q zD);have HSR:=hid (fun (W:World) (hW:Below w.heap.size w W) (t:Rs) (ht:t.ok B.length) (lo:Int) (hlo:0≤lo∧lo≤18446744073709551615)=>PC W a c B (lift HL.out hW) t ht hB lo hlo);unfold Rs.Du Rs.many;clear hs;generalize s.ep B=E at*;obtain⟨s1,e⟩:=E;dsimp only at*;have HVI:=hid (fun (W:World) (hW:Below w.heap.size w W)=>Ex W a c B (lift HL.out hW) s1 hok1 hB 64 zD);have hn64:=Rs.FW (B:=B) (s:=s1) (m:=64);have hok2:=Rs.Eh (B:=B) (m:=64) hok1;clear hl;generalize s1.int B 64=I at*;obtain⟨s2,n⟩:=I;dsimp only at*;have hn:n≤64:=zD;clear hn64;obtain⟨s3,hs3⟩:∃t,t=(if n=0 then s2.fail 3 s1.p else s2):=⟨_,rfl⟩;rw[←hs3];have hok3:s3.ok B.length:=by
  rw[hs3];split
  ·exact Rs.BH hok2 zD
  ·exact hok2
 have HOK3:=hid hok3;have HS3:=hid hs3;clear hs3 hok3 hok2 hok1;obtain⟨U,hU⟩:∃t,t=Rs.CS B n s3 0 []:=⟨_,rfl⟩;rw[←hU];have HU:=hid hU;clear hU;generalize hRES:(if (if U.2.1=4611686018427387904 then U.1 else U.1.fail 3 U.1.p).k=0 then ((if U.2.1=4611686018427387904 then U.1 else U.1.fail 3 U.1.p),(⟨(e:Int),U.2.2⟩:EC)) else ((if U.2.1=4611686018427387904 then U.1 else U.1.fail 3 U.1.p),Bx))=RES;have HRES:=hid hRES;clear hRES;unfold CV at*;go_enter Tryz.func129,Tryz.ntmps129;go_wp2_with fail;refine (HEP.out _ zA).mono ?_;rintro r w1 ⟨rfl,hb⟩;have hbw1:Below w.heap.size w w1:=zA;have R41:Blk w1 (w.heap.size+1) 60 #[.slice none 0 0,.int .i64 0,.int .i64 0,.int .i64 0]:=Blk.later zB hb;have R51:Blk w1 (w.heap.size+1+1) 30 #[.int .u64 0,.slice none 0 0]:=Blk.later zB hb;have l51:=R51.lt;clear hb;have D1:Blk (w1.alloc (.cells #[.slice a B.length c,.int .i64 (s1.p:Int),.int .i64 s1.k,.int .i64 s1.f] 60)) w1.heap.size 60 #[.slice a B.length c,.int .i64 (s1.p:Int),.int .i64 s1.k,.int .i64 s1.f]:=Blk.newAt _ _ _ rfl;go_wp2_with fail;refine (HVI.out _ zA).mono ?_;rintro r w2 ⟨rfl,hb⟩;have hbw2:Below w.heap.size w w2:=zA;have R42:=(R41.alloc (.cells #[.slice a B.length c,.int .i64 (s1.p:Int),.int .i64 s1.k,.int .i64 s1.f] 60)).later hb;have R52:=(R51.alloc (.cells #[.slice a B.length c,.int .i64 (s1.p:Int),.int .i64 s1.k,.int .i64 s1.f] 60)).later hb;have D2:=D1.later hb;have l2:=D2.lt;clear hb D1 R41 R51;go_upto_if 24 with (fail);have F3:Blk (w2.alloc (.cells #[.slice a B.length c,.int .i64 (s2.p:Int),.int .i64 s2.k,.int .i64 s2.f] 60)) w2.heap.size 60 #[.slice a B.length c,.int .i64 (s2.p:Int),.int .i64 s2.k,.int .i64 s2.f]:=Blk.newAt _ _ _ rfl;have D3:=D2.alloc (.cells #[.slice a B.length c,.int .i64 (s2.p:Int),.int .i64 s2.k,.int .i64 s2.f] 60);have R43:=R42.alloc (.cells #[.slice a B.length c,.int .i64 (s2.p:Int),.int .i64 s2.k,.int .i64 s2.f] 60);have R53:=R52.alloc (.cells #[.slice a B.length c,.int .i64 (s2.p:Int),.int .i64 s2.k,.int .i64 s2.f] 60);have hbw3:Below w.heap.size w (w2.alloc (.cells #[.slice a B.length c,.int .i64 (s2.p:Int),.int .i64 s2.k,.int .i64 s2.f] 60)):=zA;clear D2 R42 R52;generalize w2.alloc (.cells #[.slice a B.length c,.int .i64 (s2.p:Int),.int .i64 s2.k,.int .i64 s2.f] 60)=w3 at*;have l3:=F3.lt;go_cut [] from 23 to 28 (fun V=>Hid (Blk V w2.heap.size 60 #[.slice a B.length c,.int .i64 (s3.p:Int),.int .i64 s3.k,.int .i64 s3.f])∧Hid (Blk V (w.heap.size+1) 60 #[.slice none 0 0,.int .i64 0,.int .i64 0,.int .i64 0])∧Hid (Blk V (w.heap.size+1+1) 30 #[.int .u64 0,.slice none 0 0])∧Hid (Below w.heap.size w V))
 case first=>
  obtain⟨x0,x1,x2,x3,f0,f1,f2,f3,l0⟩:=Aq F3;obtain⟨a0,a1,a2,a3,_,_,_,_,_⟩:=Aq D3;have HE:=HS3.out;by_cases hp:n=0
  ·rw[An hp] at HE
   have d1:((n:Int)==0)=true:=by simp[hp]
   have HFX:=HFT.out;have HFY:=hid (fun W=>HFX W s2 s1.p);rw[←HE] at HFY;clear HE hp HFX;rw[d1];go_wp2_with fail;refine (HFY.out _).mono ?_;rintro r w4 ⟨rfl,hb⟩;have F4:=F3.later hb;have R44:=R43.later hb;have R54:=R53.later hb;have hbw4:=Ag hb hbw3;clear hb x0 x1 x2 x3 f0 f1 f2 f3 l0;obtain⟨x0,x1,x2,x3,f0,f1,f2,f3,l0⟩:=Aq F4;go_wp2_with fail;go_meet
   case rel=>exact ⟨hid ((((F4.set 0 _).set 1 _).set 2 _).set 3 _),hid (Blk.far (Blk.far (Blk.far (Blk.far R44 zH _) zH _) zH _) zH _),hid (Blk.far (Blk.far (Blk.far (Blk.far R54 zH _) zH _) zH _) zH _),hid ((((hbw4.setCell zH _).setCell zH _).setCell zH _).setCell zH _)⟩
  ·rw[Ak hp] at HE
   have d1:((n:Int)==0)=false:=by simp[hp]
   subst HE;clear hp;rw[d1];go_wp2_with fail;go_meet
   case rel=>exact ⟨hid F3,hid R43,hid R53,hid hbw3⟩
 case rest=>
  obtain⟨HF4,HR44,HR54,HBW4⟩:=hcut;obtain⟨w4,hwn⟩:∃W:World,W=wc:=⟨_,rfl⟩;subst hwn;clear F3 D3 R43 R53 hbw3 l3;have l4:=HF4.out.lt;have l5:=HR54.out.lt;go_wp2_with fail;have hI5:MW w a B.length c w2.heap.size w4.heap.size (w4.heap.size+1) (e:Int) s3 (.slice none 0 0) [] (w4.alloc (.cells #[.int .u64 (e:Int),.slice none 0 0] 30)):=
   ⟨HF4.out.alloc _,Blk.newAt _ _ _ rfl,HR44.out.alloc _,HR54.out.alloc _,AD.nil,(by have:=HBW4.out;(repeat (first | with_reducible exact Below.refl _ _ | with_reducible assumption | (with_reducible refine Aw ?_ _) | (with_reducible refine Below.setCell ?_ (by first | omega | (simp;done) | (simp;omega)) _) | (with_reducible refine Below.drew ?_) | (with_reducible refine below_drewN ?_ _) | (refine Ag (by with_reducible assumption) ?_)))),zP⟩
  have HI5:=hid hI5;clear hI5;go_loopw [9,10] (fun f i wr=>∃(j:Nat) (J:List Cq) (st:Rs) (lo:Int) (av:Option Addr) (cv:Nat),j≤n∧i=.int .i64 j∧f=.int .u64 lo∧0≤lo∧lo≤18446744073709551615∧Hid (J.length=j)∧Hid (MW w a B.length c w2.heap.size w4.heap.size (w4.heap.size+1) (e:Int) st (.slice av J.length cv) J wr)∧Hid (st.ok B.length)∧Hid (st.k=0→U=Rs.CS B (n-j) st lo J)∧Hid (st.k≠0→U.1=st)) (fun _ i _=>n-(intOf i).toNat)
  case atStart=>exact ⟨0,[],s3,0,none,0,Ao _,rfl,rfl,zD,zD,hid rfl,HI5,HOK3,hid (fun _=>HU.out),hid (fun hk=>by rw[HU.out];exact Rs.Hi hk n)⟩
  case round=>
   obtain⟨j,J,st,lo,av,cv,hj,rfl,rfl,hl0,hl1,HJ,HS,HOK,HSP,HSN⟩:=hrel;obtain⟨x0,x1,x2,x3,f0,f1,f2,f3,l0⟩:=Aq HS.out.d;have hlr:=HS.out.le;have hJ9:J.length≤64:=zCh;by_cases hk0:st.k=0
   ·have dk:(st.k==(0:Int))=true:=by simp[hk0]
    have dn:(st.k !=(0:Int))=false:=zB0;rcases Bm j n with hlt2 | hge
    ·have d1:decide ((j:Int)<(n:Int))=true:=Ae zD
     have hstep:U=(if (st.Bb B lo).1.k=0 then Rs.CS B (n-(j+1)) (st.Bb B lo).1 (st.Bb B lo).2.hi (J++[(st.Bb B lo).2]) else ((st.Bb B lo).1,0,[])):=by
      rw[HSP.out hk0,show n-j=(n-(j+1))+1 by omega];rfl
     have hbu:=Rs.NP (B:=B) (s:=st) hl0;have hok5:=Rs.Me (B:=B) (lo:=lo) HOK.out;have HC:=hid (HSR.out wr HS.out.bel st HOK.out lo ⟨hl0,hl1⟩);generalize st.Bb B lo=T at*;obtain⟨s5,z⟩:=T;dsimp only at*;have HOK5:=hid hok5;have HS1:Hid (s5.k=0→U=Rs.CS B (n-(j+1)) s5 z.hi (J++[z])):=hid (fun e=>by rw[hstep,An e]);have HS2:Hid (s5.k≠0→U.1=s5):=hid (fun e=>by rw[hstep,Ak e]);have HOB:Hid (∀q,(Value.slice av J.length cv).ownBlock=some q→w4.heap.size+1≤q∧q<wr.heap.size):=hid (by
      obtain⟨cells0,OA0⟩:=HS.out.own;exact fun q e=>Dm OA0.1 q e)
     clear hstep hok5 hk0 x0 x1 x2 x3 f0 f1 f2 f3 l0;obtain⟨x0,x1,x2,x3,f0,f1,f2,f3,l0⟩:=Aq HS.out.d;go_wp2_with fail;refine HC.out.mono ?_;rintro r w5 ⟨v5,rfl,hv5,hb5⟩;obtain⟨a5,c5,hfv,_,_⟩:=At hv5;simp only[Ai,As] at hfv;subst hfv;have HS5:=hid (HS.out.later hb5);have hz5:=hb5.size;have HV5:=hid hv5;have hW7:∃W7,W7=((w5.alloc (.cells #[.slice a B.length c,.int .i64 (s5.p:Int),.int .i64 s5.k,.int .i64 s5.f] 60)).alloc (.cells #[.int .u64 z.lo,.int .u64 z.hi,.slice a5 z.sets.length c5] 155)):=⟨_,rfl⟩;have hb57:Below w5.heap.size w5 ((w5.alloc (.cells #[.slice a B.length c,.int .i64 (s5.p:Int),.int .i64 s5.k,.int .i64 s5.f] 60)).alloc (.cells #[.int .u64 z.lo,.int .u64 z.hi,.slice a5 z.sets.length c5] 155)):=zA;have HS7:=hid (HS5.out.later hb57);have G7:Blk ((w5.alloc (.cells #[.slice a B.length c,.int .i64 (s5.p:Int),.int .i64 s5.k,.int .i64 s5.f] 60)).alloc (.cells #[.int .u64 z.lo,.int .u64 z.hi,.slice a5 z.sets.length c5] 155)) w5.heap.size 60 #[.slice a B.length c,.int .i64 (s5.p:Int),.int .i64 s5.k,.int .i64 s5.f]:=(Blk.newAt w5 _ _ rfl).alloc _;have S7:Blk ((w5.alloc (.cells #[.slice a B.length c,.int .i64 (s5.p:Int),.int .i64 s5.k,.int .i64 s5.f] 60)).alloc (.cells #[.int .u64 z.lo,.int .u64 z.hi,.slice a5 z.sets.length c5] 155)) (w5.heap.size+1) 155 #[.int .u64 z.lo,.int .u64 z.hi,.slice a5 z.sets.length c5]:=Blk.newAt _ _ _ zP;have hz7:(((w5.alloc (.cells #[.slice a B.length c,.int .i64 (s5.p:Int),.int .i64 s5.k,.int .i64 s5.f] 60)).alloc (.cells #[.int .u64 z.lo,.int .u64 z.hi,.slice a5 z.sets.length c5] 155))).heap.size=w5.heap.size+1+1:=zP;clear hb5 hv5 x0 x1 x2 x3 f0 f1 f2 f3 l0 hW7;obtain⟨x0,x1,x2,x3,f0,f1,f2,f3,l0⟩:=Aq HS7.out.d;obtain⟨y0,y1,y2,y3,_,_,_,_,_⟩:=Aq G7;go_upto_region 12 with (fail);have hS8:MW w a B.length c w2.heap.size w4.heap.size (w4.heap.size+1) (e:Int) s5 (.slice av J.length cv) J ((((((w5.alloc (.cells #[.slice a B.length c,.int .i64 (s5.p:Int),.int .i64 s5.k,.int .i64 s5.f] 60)).alloc (.cells #[.int .u64 z.lo,.int .u64 z.hi,.slice a5 z.sets.length c5] 155)).setCell ⟨w2.heap.size,0,none⟩ (.slice a B.length c)).setCell ⟨w2.heap.size,1,none⟩ (.int .i64 (s5.p:Int))).setCell ⟨w2.heap.size,2,none⟩ (.int .i64 s5.k)).setCell ⟨w2.heap.size,3,none⟩ (.int .i64 s5.f)):=
      ⟨(((HS7.out.d.set 0 _).set 1 _).set 2 _).set 3 _,Blk.far (Blk.far (Blk.far (Blk.far HS7.out.s zH _) zH _) zH _) zH _,Blk.far (Blk.far (Blk.far (Blk.far HS7.out.r4 zH _) zH _) zH _) zH _,Blk.far (Blk.far (Blk.far (Blk.far HS7.out.r5 zH _) zH _) zH _) zH _,AD.Pb HS7.out.own (((((Tch.refl (fun b=>b=w2.heap.size) _).setCell (fun _=>rfl) _).setCell (fun _=>rfl) _).setCell (fun _=>rfl) _).setCell (fun _=>rfl) _) (fun b h1 h2 e=>zD),(((HS7.out.bel.setCell zH _).setCell zH _).setCell zH _).setCell zH _,zU⟩
     have Z8:Blk ((((((w5.alloc (.cells #[.slice a B.length c,.int .i64 (s5.p:Int),.int .i64 s5.k,.int .i64 s5.f] 60)).alloc (.cells #[.int .u64 z.lo,.int .u64 z.hi,.slice a5 z.sets.length c5] 155)).setCell ⟨w2.heap.size,0,none⟩ (.slice a B.length c)).setCell ⟨w2.heap.size,1,none⟩ (.int .i64 (s5.p:Int))).setCell ⟨w2.heap.size,2,none⟩ (.int .i64 s5.k)).setCell ⟨w2.heap.size,3,none⟩ (.int .i64 s5.f)) (w5.heap.size+1) 155 #[.int .u64 z.lo,.int .u64 z.hi,.slice a5 z.sets.length c5]:=Blk.far (Blk.far (Blk.far (Blk.far S7 zH _) zH _) zH _) zH _;have hz8:(((((((w5.alloc (.cells #[.slice a B.length c,.int .i64 (s5.p:Int),.int .i64 s5.k,.int .i64 s5.f] 60)).alloc (.cells #[.int .u64 z.lo,.int .u64 z.hi,.slice a5 z.sets.length c5] 155)).setCell ⟨w2.heap.size,0,none⟩ (.slice a B.length c)).setCell ⟨w2.heap.size,1,none⟩ (.int .i64 (s5.p:Int))).setCell ⟨w2.heap.size,2,none⟩ (.int .i64 s5.k)).setCell ⟨w2.heap.size,3,none⟩ (.int .i64 s5.f))).heap.size=w5.heap.size+1+1:=ZQ;have hv8:De.r (fun b=>wr.heap.size≤b∧b<w5.heap.size) ((((((w5.alloc (.cells #[.slice a B.length c,.int .i64 (s5.p:Int),.int .i64 s5.k,.int .i64 s5.f] 60)).alloc (.cells #[.int .u64 z.lo,.int .u64 z.hi,.slice a5 z.sets.length c5] 155)).setCell ⟨w2.heap.size,0,none⟩ (.slice a B.length c)).setCell ⟨w2.heap.size,1,none⟩ (.int .i64 (s5.p:Int))).setCell ⟨w2.heap.size,2,none⟩ (.int .i64 s5.k)).setCell ⟨w2.heap.size,3,none⟩ (.int .i64 s5.f)) [.slice a5 z.sets.length c5] z.sets:=De.keep HV5.out fun b hb=>by
      have:=hb.1;have:=hb.2;repeat rw[Ap _ _ _ _ zH]
      exact hb57.block b hb.2
     have HV8:=hid hv8;have HS8:=hid hS8;clear hv8 hS8 G7 S7 x0 x1 x2 x3 f0 f1 f2 f3 l0 y0 y1 y2 y3 hz7 hb57;generalize ((((((w5.alloc (.cells #[.slice a B.length c,.int .i64 (s5.p:Int),.int .i64 s5.k,.int .i64 s5.f] 60)).alloc (.cells #[.int .u64 z.lo,.int .u64 z.hi,.slice a5 z.sets.length c5] 155)).setCell ⟨w2.heap.size,0,none⟩ (.slice a B.length c)).setCell ⟨w2.heap.size,1,none⟩ (.int .i64 (s5.p:Int))).setCell ⟨w2.heap.size,2,none⟩ (.int .i64 s5.k)).setCell ⟨w2.heap.size,3,none⟩ (.int .i64 s5.f))=w8 at*;have hz8':w5.heap.size+1<w8.heap.size:=zD;clear hz8;have hb89:Below w8.heap.size w8 (w8.alloc (.cells #[.int .u64 z.lo,.int .u64 z.hi,.slice a5 z.sets.length c5] 155)):=zA;obtain⟨cells,OA⟩:=AD.below HS8.out.own hb89;have hx:GM.r (fun b=>w4.heap.size+1≤b∧b<(w8.alloc (.cells #[.int .u64 z.lo,.int .u64 z.hi,.slice a5 z.sets.length c5] 155)).heap.size∧(Value.slice av J.length cv).ownBlock≠some b) (w8.alloc (.cells #[.int .u64 z.lo,.int .u64 z.hi,.slice a5 z.sets.length c5] 155)) [.int .u64 z.lo,.int .u64 z.hi,.slice a5 z.sets.length c5] z:=by
      refine Mf hbu.1 hbu.2 (De.mono (De.keep HV8.out fun b hb=>hb89.block b (by have:=hb.2;omega)) fun b hb=>⟨?_,?_,fun e=> ?_⟩)
      ·have:=hb.1;omega
      ·have:=hb.2;simp;omega
      ·have:=(HOB.out b e).2;have:=hb.1;omega
     have HX:=hid hx;have HA:=hid OA;have HS9':Hid (w4.heap.size+1≤(w8.alloc (.cells #[.int .u64 z.lo,.int .u64 z.hi,.slice a5 z.sets.length c5] 155)).heap.size):=hid zM;have hl2:w2.heap.size<w8.heap.size:=HS8.out.d.lt;clear hx OA;obtain⟨y0,y1,g0,g1,l9⟩:=Dy HS8.out.s;obtain⟨t0,t1,t2,_,_,_,lt⟩:=Ej Z8;go_wp2_with (at_builtin;go_loud (refine Ar rfl _ _ _ rfl (w4.heap.size+1) 155 j0 (.agg #[.int .u64 0,.int .u64 0,.slice none 0 0]) 3 40 Tryz.underlying28 ji jz0 jz1 jz2 rfl zS (.slice av J.length cv) J.length _ rfl HA.out.1 (some ⟨w8.heap.size,0,none⟩) 1 1 [.int .u64 z.lo,.int .u64 z.hi,.slice a5 z.sets.length c5] rfl (Bf w8 155 _ rfl zT rfl) (by intro u hu;simp at hu;rcases hu with rfl | rfl | rfl<;>rfl) zR zD HS9'.out ?_;intro v9 w9 hown9 hgrow9 hat9;obtain⟨a9,c9,rfl⟩:=AX hown9;have OP:=hid (AD.push HA.out rfl HX.out hown9 hgrow9 hat9 hgrow9.size);have HB9:=hid (show Below (w4.heap.size+1) w8 w9 from Below.grown (hb89.mono zD) hgrow9 HS9'.out (fun g e=>(HOB.out g e).1));have hz9:=hgrow9.size;simp at hz9;have Z9:Blk w9 (w5.heap.size+1) 155 #[.int .u64 z.lo,.int .u64 z.hi,.slice a5 z.sets.length c5]:=(hgrow9.block (w5.heap.size+1) zM (fun e=>zCb)).trans (Z8.alloc _);have S9:=HS8.out.s.below HB9.out zD;have HD9:=hid (HS8.out.d.below HB9.out zD);have HR49:=hid (HS8.out.r4.below HB9.out zD);have HR59:=hid (HS8.out.r5.below HB9.out zD);have HBE9:=hid (HS8.out.bel.trans (HB9.out.mono zD));obtain⟨n0,n1,n2,n3,n4⟩:=Dy S9;obtain⟨q0,q1,q2,_,_,_,lq⟩:=Ej (Blk.far Z9 (p:=⟨w4.heap.size,1,none⟩) zH (.slice a9 (J.length+1) c9));have HSS:=hid S9;clear hown9 hgrow9 hat9 Z9 S9 y0 y1 g0 g1 l9 t0 t1 t2 lt))
     have HOF:=hid (AD.Pb OP.out ((Tch.refl (fun b=>b=w4.heap.size) w9).setCell (p:=⟨w4.heap.size,1,none⟩) (fun _=>rfl) (.slice a9 (J.length+1) c9)) (fun b h1 h2 e=>zD));go_roundw
     case rel=>
      refine⟨j+1,J++[z],s5,z.hi,a9,c9,zD,zZ,rfl,hbu.2.1,hbu.2.2,hid zBa,hid ?_,HOK5,HS1,HS2⟩;rw[Au];exact⟨Blk.far HD9.out zH _,HSS.out.set 1 _,Blk.far HR49.out zH _,Blk.far HR59.out zH _,HOF.out,HBE9.out.setCell zH _,zU⟩
     case measure=>(simp[intOf];try omega)
    ·obtain rfl:j=n:=by omega
     have d1:decide ((j:Int)<(j:Int))=false:=Ad zD;have HE:=HSP.out hk0;rw[Dg] at HE;have HE2:U=(st,lo,J):=HE;clear HE;by_cases hm:lo=4611686018427387904
     ·have HR2:Hid (RES=(st,⟨(e:Int),J⟩)):=hid (by
       rw[←HRES.out,HE2];dsimp only;rw[An hm];exact An hk0)
      have dm:(lo !=4611686018427387904)=false:=by simp[hm]
      have HV:=hid (AD.slice (Aj _) HS.out.own);clear hm hk0 HE2;obtain⟨b0,b1,b2,b3,e0,e1,e2,e3,l4'⟩:=Aq HS.out.r4;obtain⟨y0,y1,g0,g1,l5'⟩:=Dy HS.out.r5;obtain⟨z0,z1,h0,h1,l6'⟩:=Dy HS.out.s;have HBL:=hid HS.out.bel;have lh:w4.heap.size<w4.heap.size+1:=zD;have hw24:w2.heap.size<w4.heap.size:=l4;go_wp2_with fail;go_region
      all_goals
       go_wp2;rw[HR2.out];refine Af (v:=.tuple #[.agg #[.slice a B.length c,.int .i64 (st.p:Int),.int .i64 st.k,.int .i64 st.f],.agg #[.int .u64 (e:Int),.slice av J.length cv]]) zB6 rfl ⟨_,rfl,?_,ZE⟩;refine A3.mono (A3.keep HV.out fun q hq=> ?_) fun q hq=>⟨zV,ZD⟩;have hq1:w4.heap.size+1≤q:=hq.1;have e2:∀V:World,V.drew.heap[q]? =V.heap[q]? :=fun V=>rfl
       (repeat (first | rw[Ap _ _ _ _ zH] | rw[e2]))
     ·have hfk:(st.fail 3 (st.p:Int)).k≠0:=Rs.BV zD
      have HR2:Hid (RES=(st.fail 3 (st.p:Int),Bx)):=hid (by
       rw[←HRES.out,HE2];dsimp only;rw[Ak hm];exact Ak hfk)
      have dm:(lo !=4611686018427387904)=true:=by simp[hm]
      have HFX:=HFT.out;have HFY:=hid (fun W=>HFX W st st.p);clear hm hk0 HE2 HFX;generalize st.fail 3 (st.p:Int)=t at*;have dt:(t.k !=(0:Int))=true:=by simp[hfk]
      clear hfk;go_wp2_with fail;refine (HFY.out _).mono ?_;rintro r w5 ⟨rfl,hb5⟩;have HS5:=hid (HS.out.later hb5);clear hb5 x0 x1 x2 x3 f0 f1 f2 f3 l0;obtain⟨x0,x1,x2,x3,f0,f1,f2,f3,l0⟩:=Aq HS5.out.d;have l2w:w.heap.size+1+1<w2.heap.size:=zD;have X6:Blk ((((w5.setCell ⟨w2.heap.size,0,none⟩ (.slice a B.length c)).setCell ⟨w2.heap.size,1,none⟩ (.int .i64 (t.p:Int))).setCell ⟨w2.heap.size,2,none⟩ (.int .i64 t.k)).setCell ⟨w2.heap.size,3,none⟩ (.int .i64 t.f)) w2.heap.size 60 #[.slice a B.length c,.int .i64 (t.p:Int),.int .i64 t.k,.int .i64 t.f]:=(((HS5.out.d.set 0 _).set 1 _).set 2 _).set 3 _;have R46:Blk ((((w5.setCell ⟨w2.heap.size,0,none⟩ (.slice a B.length c)).setCell ⟨w2.heap.size,1,none⟩ (.int .i64 (t.p:Int))).setCell ⟨w2.heap.size,2,none⟩ (.int .i64 t.k)).setCell ⟨w2.heap.size,3,none⟩ (.int .i64 t.f)) (w.heap.size+1) 60 #[.slice none 0 0,.int .i64 0,.int .i64 0,.int .i64 0]:=Blk.far (Blk.far (Blk.far (Blk.far HS5.out.r4 zH _) zH _) zH _) zH _;have R56:Blk ((((w5.setCell ⟨w2.heap.size,0,none⟩ (.slice a B.length c)).setCell ⟨w2.heap.size,1,none⟩ (.int .i64 (t.p:Int))).setCell ⟨w2.heap.size,2,none⟩ (.int .i64 t.k)).setCell ⟨w2.heap.size,3,none⟩ (.int .i64 t.f)) (w.heap.size+1+1) 30 #[.int .u64 0,.slice none 0 0]:=Blk.far (Blk.far (Blk.far (Blk.far HS5.out.r5 zH _) zH _) zH _) zH _;have HB6:=hid (show Below w.heap.size w ((((w5.setCell ⟨w2.heap.size,0,none⟩ (.slice a B.length c)).setCell ⟨w2.heap.size,1,none⟩ (.int .i64 (t.p:Int))).setCell ⟨w2.heap.size,2,none⟩ (.int .i64 t.k)).setCell ⟨w2.heap.size,3,none⟩ (.int .i64 t.f)) from (((HS5.out.bel.setCell zH _).setCell zH _).setCell zH _).setCell zH _);obtain⟨b0,b1,b2,b3,e0,e1,e2,e3,l4'⟩:=Aq R46;obtain⟨y0,y1,g0,g1,l5'⟩:=Dy R56;obtain⟨z0,z1,z2,z3,_,_,_,_,_⟩:=Aq X6;clear X6 R46 R56;go_wp2_with fail;rw[HR2.out];refine Af (v:=.tuple #[.agg #[.slice a B.length c,.int .i64 (t.p:Int),.int .i64 t.k,.int .i64 t.f],.agg #[.int .u64 0,.slice none 0 0]]) zB6 rfl ⟨_,rfl,AZ (xs:=[]) rfl (Aj _) (Ao _) (.inl rfl),by have:=HB6.out;(repeat (first | with_reducible exact Below.refl _ _ | with_reducible assumption | (with_reducible refine Aw ?_ _) | (with_reducible refine Below.setCell ?_ (by first | omega | (simp;done) | (simp;omega)) _) | (with_reducible refine Below.drew ?_) | (with_reducible refine below_drewN ?_ _) | (refine Ag (by with_reducible assumption) ?_)))⟩
   ·have dk:(st.k==(0:Int))=false:=by simp[hk0]
    have dn:(st.k !=(0:Int))=true:=zB0;have HE:=HSN.out hk0;have hfb:st.fail 3 (st.p:Int)=st:=Rs.Bl hk0;have HR2:Hid (RES=(st,Bx)):=hid (by
     rw[←HRES.out,HE,hfb,ite_self];exact Ak hk0)
    clear hk0 HE hfb;rcases Bm j n with hlt2 | hge
    ·have d1:decide ((j:Int)<(n:Int))=true:=Ae zD
     obtain⟨b0,b1,b2,b3,e0,e1,e2,e3,l4⟩:=Aq HS.out.r4;obtain⟨y0,y1,g0,g1,l5⟩:=Dy HS.out.r5;have HBL:=hid HS.out.bel;go_wp2_with fail;rw[HR2.out];refine Af (v:=.tuple #[.agg #[.slice a B.length c,.int .i64 (st.p:Int),.int .i64 st.k,.int .i64 st.f],.agg #[.int .u64 0,.slice none 0 0]]) zB8 rfl ⟨_,rfl,AZ (xs:=[]) rfl (Aj _) (Ao _) (.inl rfl),zO⟩
    ·have d1:decide ((j:Int)<(n:Int))=false:=Ad zD
     obtain⟨b0,b1,b2,b3,e0,e1,e2,e3,l4⟩:=Aq HS.out.r4;obtain⟨y0,y1,g0,g1,l5⟩:=Dy HS.out.r5;have HBL:=hid HS.out.bel;go_wp2_with fail;rw[HR2.out];refine Af (v:=.tuple #[.agg #[.slice a B.length c,.int .i64 (st.p:Int),.int .i64 st.k,.int .i64 st.f],.agg #[.int .u64 0,.slice none 0 0]]) zB8 rfl ⟨_,rfl,AZ (xs:=[]) rfl (Aj _) (Ao _) (.inl rfl),zO⟩
theorem Mg(L:List (List Int)):∀n k,k≤n→BG L n=true→BG L k=true
 | 0,k,h,hs=>by rw[show k=0 by omega];rfl
 | n+1,k,h,hs=>by
  by_cases hk:k=n+1
  ·rw[hk];exact hs
  ·simp only[BG,AL] at hs
   exact Mg L n k zD hs.1
theorem M7(lo hi:Int)(L:List (List Int))(a:Option Addr)(n c:Nat)(w:World)(hl:De.r (·<w.heap.size) w [.slice a n c] L):
  Calls Tryz.prog 161 #[.agg #[.int .u64 lo,.int .u64 hi,.slice a n c]] w fun r w'=>r=.returned (.bool (Dw ⟨lo,hi,L⟩))∧Below w.heap.size w w':=by
 obtain⟨rfl,hm,hcc,hcm⟩:=AU hl;have HL:=hid hl;clear hl;by_cases h1:lo<hi
 ·have d1':decide (lo<hi)=true:=Ae h1
  by_cases h2:hi≤4611686018427387904
  ·have d2':decide (hi≤4611686018427387904)=true:=Ae h2
   by_cases h3:1≤L.length
   ·have d3':decide ((1:Int)≤(L.length:Int))=true:=Ae zD
    by_cases h4:L.length≤8
    ·have d4':decide ((L.length:Int)≤8)=true:=Ae zD
     have hG:decide (lo<hi∧hi≤4611686018427387904∧1≤L.length∧L.length≤8)=true:=Ae ⟨h1,h2,h3,h4⟩;go_enter Tryz.func161,Tryz.ntmps161;have hff:Hid (Dw ⟨lo,hi,L⟩=(true&&BG L L.length)):=hid zAm;have x0:(w.alloc (.cells #[.int .u64 lo,.int .u64 hi,.slice a L.length c] 155)).cell? ⟨w.heap.size,2,none⟩=some (.slice a L.length c):=zP;have hb0:Below w.heap.size w (w.alloc (.cells #[.int .u64 lo,.int .u64 hi,.slice a L.length c] 155)):=zC;have hs0:w.heap.size<(w.alloc (.cells #[.int .u64 lo,.int .u64 hi,.slice a L.length c] 155)).heap.size:=zP;go_wp2_with fail;refine wp_scope_straight ?_;go_wp2_with fail;refine wp_label ?_;go_wp2_with fail;generalize w.alloc (.cells #[.int .u64 lo,.int .u64 hi,.slice a L.length c] 155)=w0 at*;have HB0:=hid hb0;clear hb0;go_loopw [3,31] (fun g i wr=>∃k:Nat,k≤L.length∧i=.int .i64 k∧g=.bool (true&&BG L k)∧Below w0.heap.size w0 wr) (fun _ i _=>L.length-(intOf i).toNat)
     case atStart=>exact ⟨0,Ao _,rfl,zCy,Below.refl _ _⟩
     case round=>
      obtain⟨k,hk,rfl,rfl,hb⟩:=hrel;have HB:=hid hb;have HBW:=hid (HB0.out.trans (hb.mono HB0.out.size));have hsz:=hb.size;by_cases hlt:k<L.length
      ·have i1:(k:Int)<(L.length:Int):=by omega
       have i2:(k:Int)≤(c:Int):=zD;have d1:decide ((k:Int)<(L.length:Int))=true:=Ae i1;have X0:=(hb.cell (p:=⟨w.heap.size,2,none⟩) hs0).trans x0;obtain⟨b,o,hA,hbb,ak,ck,u0,xl⟩:=GK (lift HL.out HBW.out) hlt;subst hA;have hmono:(true&&BG L k)=false→(true&&BG L L.length)=false:=fun h=>by
        cases hg:true
        ·rfl
        ·rw[hg] at h
         rcases hh:BG L L.length with _ | _
         ·rfl
         ·exfalso
          have:=Mg L L.length k zD hh;rw[this] at h;cases h
       have hstep:BG L (k+1)=(BG L k&&(Di L[k]&&BM L[k] (L.take k))):=by
        show (BG L k&&Ha L k)=_
        unfold Ha;rw[GY L k [] hlt]
       have HN:=hid (EG L[k] ak _ ck wr xl);have HAP:=hid (fun (W:World) (hW:Below wr.heap.size wr W)=>Dv L[k] (L.take k) ak _ ck (some ⟨b,o,none⟩) k c W (lift xl hW) (GJ (lift (lift HL.out HBW.out) hW) zD));have HMO:=hid hmono;have HST:=hid hstep;have hc0:k≤c:=zD;obtain⟨s1,hs1⟩:∃s1,BG L (k+1)=s1:=⟨_,rfl⟩;have HS1:=hid hs1;rw[hs1] at HST;clear hs1;generalize BG L k=s0 at*;generalize Di L[k]=nn at*;generalize BM L[k] (L.take k)=ap at*;generalize L[k]=X at*;clear hb xl hmono hstep;rcases hg:(true&&s0) with _ | _
       ·have hfin:=hid (HMO.out hg)
        clear hg;go_wp2_with fail
        (try simp only[Exit.noGoto])
        (try go_wp2_with fail)
        go_ret;exact⟨zA9,HBW.out⟩
       ·have hg2:(true&&s1)=(nn&&ap):=by
         rw[HST.out,←Bool.and_assoc,hg,Cw]
        have HG2:=hid hg2;clear hg hg2;cases nn
        ·go_wp2_with fail
         refine HN.out.mono ?_;rintro r w3 ⟨rfl,hb3⟩;have hbe:=Ag hb3 HB.out;go_wp2_with fail;go_roundw
         case rel=>exact ⟨k+1,zD,zZ,by rw[HS1.out,HG2.out];rfl,hbe⟩
         case measure=>(simp[intOf];try omega)
        ·go_wp2_with fail
         refine HN.out.mono ?_;rintro r w3 ⟨rfl,hb3⟩;have Y0:=(hb3.cell (p:=⟨w.heap.size,2,none⟩) zH).trans X0;have hbe:=Ag hb3 HB.out;have HA2:=hid (HAP.out w3 hb3);go_wp2_with fail;refine HA2.out.mono ?_;rintro r w4 ⟨rfl,hb4⟩;have hbf:=Ag hb4 hbe;go_wp2_with fail;go_roundw
         case rel=>exact ⟨k+1,zD,zZ,by rw[HS1.out,HG2.out];rfl,hbf⟩
         case measure=>(simp[intOf];try omega)
      ·obtain rfl:k=L.length:=by omega
       have d1:decide ((L.length:Int)<(L.length:Int))=false:=Ad zD;clear hb;go_wp2_with fail
       (try simp only[Exit.noGoto])
       (try go_wp2_with fail)
       go_ret;exact⟨by rw[hff.out];first | done | rfl | (simp;done) | simp[Exit.noGoto],HBW.out⟩
    ·have d4':decide ((L.length:Int)≤8)=false:=Ad zD
     have hG:decide (lo<hi∧hi≤4611686018427387904∧1≤L.length∧L.length≤8)=false:=Ad zD;go_enter Tryz.func161,Tryz.ntmps161;have hff:Hid (Dw ⟨lo,hi,L⟩=(false&&BG L L.length)):=hid zAm;have x0:(w.alloc (.cells #[.int .u64 lo,.int .u64 hi,.slice a L.length c] 155)).cell? ⟨w.heap.size,2,none⟩=some (.slice a L.length c):=zP;have hb0:Below w.heap.size w (w.alloc (.cells #[.int .u64 lo,.int .u64 hi,.slice a L.length c] 155)):=zC;have hs0:w.heap.size<(w.alloc (.cells #[.int .u64 lo,.int .u64 hi,.slice a L.length c] 155)).heap.size:=zP;go_wp2_with fail;refine wp_scope_straight ?_;go_wp2_with fail;refine wp_label ?_;go_wp2_with fail;generalize w.alloc (.cells #[.int .u64 lo,.int .u64 hi,.slice a L.length c] 155)=w0 at*;have HB0:=hid hb0;clear hb0;go_loopw [3,31] (fun g i wr=>∃k:Nat,k≤L.length∧i=.int .i64 k∧g=.bool (false&&BG L k)∧Below w0.heap.size w0 wr) (fun _ i _=>L.length-(intOf i).toNat)
     case atStart=>exact ⟨0,Ao _,rfl,zCy,Below.refl _ _⟩
     case round=>
      obtain⟨k,hk,rfl,rfl,hb⟩:=hrel;have HB:=hid hb;have HBW:=hid (HB0.out.trans (hb.mono HB0.out.size));have hsz:=hb.size;by_cases hlt:k<L.length
      ·have i1:(k:Int)<(L.length:Int):=by omega
       have i2:(k:Int)≤(c:Int):=zD;have d1:decide ((k:Int)<(L.length:Int))=true:=Ae i1;have X0:=(hb.cell (p:=⟨w.heap.size,2,none⟩) hs0).trans x0;obtain⟨b,o,hA,hbb,ak,ck,u0,xl⟩:=GK (lift HL.out HBW.out) hlt;subst hA;have hmono:(false&&BG L k)=false→(false&&BG L L.length)=false:=fun _=>rfl;have hstep:BG L (k+1)=(BG L k&&(Di L[k]&&BM L[k] (L.take k))):=by
        show (BG L k&&Ha L k)=_
        unfold Ha;rw[GY L k [] hlt]
       have HN:=hid (EG L[k] ak _ ck wr xl);have HAP:=hid (fun (W:World) (hW:Below wr.heap.size wr W)=>Dv L[k] (L.take k) ak _ ck (some ⟨b,o,none⟩) k c W (lift xl hW) (GJ (lift (lift HL.out HBW.out) hW) zD));have HMO:=hid hmono;have HST:=hid hstep;have hc0:k≤c:=zD;obtain⟨s1,hs1⟩:∃s1,BG L (k+1)=s1:=⟨_,rfl⟩;have HS1:=hid hs1;rw[hs1] at HST;clear hs1;generalize BG L k=s0 at*;generalize Di L[k]=nn at*;generalize BM L[k] (L.take k)=ap at*;generalize L[k]=X at*;clear hb xl hmono hstep;rcases hg:(false&&s0) with _ | _
       ·have hfin:=hid (HMO.out hg)
        clear hg;go_wp2_with fail
        (try simp only[Exit.noGoto])
        (try go_wp2_with fail)
        go_ret;exact⟨zA9,HBW.out⟩
       ·exfalso;simp at hg
      ·obtain rfl:k=L.length:=by omega
       have d1:decide ((L.length:Int)<(L.length:Int))=false:=Ad zD;clear hb;go_wp2_with fail
       (try simp only[Exit.noGoto])
       (try go_wp2_with fail)
       go_ret;exact⟨by rw[hff.out];first | done | rfl | (simp;done) | simp[Exit.noGoto],HBW.out⟩
   ·have d3':decide ((1:Int)≤(L.length:Int))=false:=Ad zD
    have hG:decide (lo<hi∧hi≤4611686018427387904∧1≤L.length∧L.length≤8)=false:=Ad zD;go_enter Tryz.func161,Tryz.ntmps161;have hff:Hid (Dw ⟨lo,hi,L⟩=(false&&BG L L.length)):=hid zAm;have x0:(w.alloc (.cells #[.int .u64 lo,.int .u64 hi,.slice a L.length c] 155)).cell? ⟨w.heap.size,2,none⟩=some (.slice a L.length c):=zP;have hb0:Below w.heap.size w (w.alloc (.cells #[.int .u64 lo,.int .u64 hi,.slice a L.length c] 155)):=zC;have hs0:w.heap.size<(w.alloc (.cells #[.int .u64 lo,.int .u64 hi,.slice a L.length c] 155)).heap.size:=zP;go_wp2_with fail;refine wp_scope_straight ?_;go_wp2_with fail;refine wp_label ?_;go_wp2_with fail;generalize w.alloc (.cells #[.int .u64 lo,.int .u64 hi,.slice a L.length c] 155)=w0 at*;have HB0:=hid hb0;clear hb0;go_loopw [3,31] (fun g i wr=>∃k:Nat,k≤L.length∧i=.int .i64 k∧g=.bool (false&&BG L k)∧Below w0.heap.size w0 wr) (fun _ i _=>L.length-(intOf i).toNat)
    case atStart=>exact ⟨0,Ao _,rfl,zCy,Below.refl _ _⟩
    case round=>
     obtain⟨k,hk,rfl,rfl,hb⟩:=hrel;have HB:=hid hb;have HBW:=hid (HB0.out.trans (hb.mono HB0.out.size));have hsz:=hb.size;by_cases hlt:k<L.length
     ·have i1:(k:Int)<(L.length:Int):=by omega
      have i2:(k:Int)≤(c:Int):=zD;have d1:decide ((k:Int)<(L.length:Int))=true:=Ae i1;have X0:=(hb.cell (p:=⟨w.heap.size,2,none⟩) hs0).trans x0;obtain⟨b,o,hA,hbb,ak,ck,u0,xl⟩:=GK (lift HL.out HBW.out) hlt;subst hA;have hmono:(false&&BG L k)=false→(false&&BG L L.length)=false:=fun _=>rfl;have hstep:BG L (k+1)=(BG L k&&(Di L[k]&&BM L[k] (L.take k))):=by
       show (BG L k&&Ha L k)=_
       unfold Ha;rw[GY L k [] hlt]
      have HN:=hid (EG L[k] ak _ ck wr xl);have HAP:=hid (fun (W:World) (hW:Below wr.heap.size wr W)=>Dv L[k] (L.take k) ak _ ck (some ⟨b,o,none⟩) k c W (lift xl hW) (GJ (lift (lift HL.out HBW.out) hW) zD));have HMO:=hid hmono;have HST:=hid hstep;have hc0:k≤c:=zD;obtain⟨s1,hs1⟩:∃s1,BG L (k+1)=s1:=⟨_,rfl⟩;have HS1:=hid hs1;rw[hs1] at HST;clear hs1;generalize BG L k=s0 at*;generalize Di L[k]=nn at*;generalize BM L[k] (L.take k)=ap at*;generalize L[k]=X at*;clear hb xl hmono hstep;rcases hg:(false&&s0) with _ | _
      ·have hfin:=hid (HMO.out hg)
       clear hg;go_wp2_with fail
       (try simp only[Exit.noGoto])
       (try go_wp2_with fail)
       go_ret;exact⟨zA9,HBW.out⟩
      ·exfalso;simp at hg
     ·obtain rfl:k=L.length:=by omega
      have d1:decide ((L.length:Int)<(L.length:Int))=false:=Ad zD;clear hb;go_wp2_with fail
      (try simp only[Exit.noGoto])
      (try go_wp2_with fail)
      go_ret;exact⟨by rw[hff.out];first | done | rfl | (simp;done) | simp[Exit.noGoto],HBW.out⟩
  ·have d2':decide (hi≤4611686018427387904)=false:=Ad h2
   have hG:decide (lo<hi∧hi≤4611686018427387904∧1≤L.length∧L.length≤8)=false:=Ad zD;go_enter Tryz.func161,Tryz.ntmps161;have hff:Hid (Dw ⟨lo,hi,L⟩=(false&&BG L L.length)):=hid zAm;have x0:(w.alloc (.cells #[.int .u64 lo,.int .u64 hi,.slice a L.length c] 155)).cell? ⟨w.heap.size,2,none⟩=some (.slice a L.length c):=zP;have hb0:Below w.heap.size w (w.alloc (.cells #[.int .u64 lo,.int .u64 hi,.slice a L.length c] 155)):=zC;have hs0:w.heap.size<(w.alloc (.cells #[.int .u64 lo,.int .u64 hi,.slice a L.length c] 155)).heap.size:=zP;go_wp2_with fail;refine wp_scope_straight ?_;go_wp2_with fail;refine wp_label ?_;go_wp2_with fail;generalize w.alloc (.cells #[.int .u64 lo,.int .u64 hi,.slice a L.length c] 155)=w0 at*;have HB0:=hid hb0;clear hb0;go_loopw [3,31] (fun g i wr=>∃k:Nat,k≤L.length∧i=.int .i64 k∧g=.bool (false&&BG L k)∧Below w0.heap.size w0 wr) (fun _ i _=>L.length-(intOf i).toNat)
   case atStart=>exact ⟨0,Ao _,rfl,zCy,Below.refl _ _⟩
   case round=>
    obtain⟨k,hk,rfl,rfl,hb⟩:=hrel;have HB:=hid hb;have HBW:=hid (HB0.out.trans (hb.mono HB0.out.size));have hsz:=hb.size;by_cases hlt:k<L.length
    ·have i1:(k:Int)<(L.length:Int):=by omega
     have i2:(k:Int)≤(c:Int):=zD;have d1:decide ((k:Int)<(L.length:Int))=true:=Ae i1;have X0:=(hb.cell (p:=⟨w.heap.size,2,none⟩) hs0).trans x0;obtain⟨b,o,hA,hbb,ak,ck,u0,xl⟩:=GK (lift HL.out HBW.out) hlt;subst hA;have hmono:(false&&BG L k)=false→(false&&BG L L.length)=false:=fun _=>rfl;have hstep:BG L (k+1)=(BG L k&&(Di L[k]&&BM L[k] (L.take k))):=by
      show (BG L k&&Ha L k)=_
      unfold Ha;rw[GY L k [] hlt]
     have HN:=hid (EG L[k] ak _ ck wr xl);have HAP:=hid (fun (W:World) (hW:Below wr.heap.size wr W)=>Dv L[k] (L.take k) ak _ ck (some ⟨b,o,none⟩) k c W (lift xl hW) (GJ (lift (lift HL.out HBW.out) hW) zD));have HMO:=hid hmono;have HST:=hid hstep;have hc0:k≤c:=zD;obtain⟨s1,hs1⟩:∃s1,BG L (k+1)=s1:=⟨_,rfl⟩;have HS1:=hid hs1;rw[hs1] at HST;clear hs1;generalize BG L k=s0 at*;generalize Di L[k]=nn at*;generalize BM L[k] (L.take k)=ap at*;generalize L[k]=X at*;clear hb xl hmono hstep;rcases hg:(false&&s0) with _ | _
     ·have hfin:=hid (HMO.out hg)
      clear hg;go_wp2_with fail
      (try simp only[Exit.noGoto])
      (try go_wp2_with fail)
      go_ret;exact⟨zA9,HBW.out⟩
     ·exfalso;simp at hg
    ·obtain rfl:k=L.length:=by omega
     have d1:decide ((L.length:Int)<(L.length:Int))=false:=Ad zD;clear hb;go_wp2_with fail
     (try simp only[Exit.noGoto])
     (try go_wp2_with fail)
     go_ret;exact⟨by rw[hff.out];first | done | rfl | (simp;done) | simp[Exit.noGoto],HBW.out⟩
 ·have d1':decide (lo<hi)=false:=Ad h1
  have hG:decide (lo<hi∧hi≤4611686018427387904∧1≤L.length∧L.length≤8)=false:=Ad zD;go_enter Tryz.func161,Tryz.ntmps161;have hff:Hid (Dw ⟨lo,hi,L⟩=(false&&BG L L.length)):=hid zAm;have x0:(w.alloc (.cells #[.int .u64 lo,.int .u64 hi,.slice a L.length c] 155)).cell? ⟨w.heap.size,2,none⟩=some (.slice a L.length c):=zP;have hb0:Below w.heap.size w (w.alloc (.cells #[.int .u64 lo,.int .u64 hi,.slice a L.length c] 155)):=zC;have hs0:w.heap.size<(w.alloc (.cells #[.int .u64 lo,.int .u64 hi,.slice a L.length c] 155)).heap.size:=zP;go_wp2_with fail;refine wp_scope_straight ?_;go_wp2_with fail;refine wp_label ?_;go_wp2_with fail;generalize w.alloc (.cells #[.int .u64 lo,.int .u64 hi,.slice a L.length c] 155)=w0 at*;have HB0:=hid hb0;clear hb0;go_loopw [3,31] (fun g i wr=>∃k:Nat,k≤L.length∧i=.int .i64 k∧g=.bool (false&&BG L k)∧Below w0.heap.size w0 wr) (fun _ i _=>L.length-(intOf i).toNat)
  case atStart=>exact ⟨0,Ao _,rfl,zCy,Below.refl _ _⟩
  case round=>
   obtain⟨k,hk,rfl,rfl,hb⟩:=hrel;have HB:=hid hb;have HBW:=hid (HB0.out.trans (hb.mono HB0.out.size));have hsz:=hb.size;by_cases hlt:k<L.length
   ·have i1:(k:Int)<(L.length:Int):=by omega
    have i2:(k:Int)≤(c:Int):=zD;have d1:decide ((k:Int)<(L.length:Int))=true:=Ae i1;have X0:=(hb.cell (p:=⟨w.heap.size,2,none⟩) hs0).trans x0;obtain⟨b,o,hA,hbb,ak,ck,u0,xl⟩:=GK (lift HL.out HBW.out) hlt;subst hA;have hmono:(false&&BG L k)=false→(false&&BG L L.length)=false:=fun _=>rfl;have hstep:BG L (k+1)=(BG L k&&(Di L[k]&&BM L[k] (L.take k))):=by
     show (BG L k&&Ha L k)=_
     unfold Ha;rw[GY L k [] hlt]
    have HN:=hid (EG L[k] ak _ ck wr xl);have HAP:=hid (fun (W:World) (hW:Below wr.heap.size wr W)=>Dv L[k] (L.take k) ak _ ck (some ⟨b,o,none⟩) k c W (lift xl hW) (GJ (lift (lift HL.out HBW.out) hW) zD));have HMO:=hid hmono;have HST:=hid hstep;have hc0:k≤c:=zD;obtain⟨s1,hs1⟩:∃s1,BG L (k+1)=s1:=⟨_,rfl⟩;have HS1:=hid hs1;rw[hs1] at HST;clear hs1;generalize BG L k=s0 at*;generalize Di L[k]=nn at*;generalize BM L[k] (L.take k)=ap at*;generalize L[k]=X at*;clear hb xl hmono hstep;rcases hg:(false&&s0) with _ | _
    ·have hfin:=hid (HMO.out hg)
     clear hg;go_wp2_with fail
     (try simp only[Exit.noGoto])
     (try go_wp2_with fail)
     go_ret;exact⟨zA9,HBW.out⟩
    ·exfalso;simp at hg
   ·obtain rfl:k=L.length:=by omega
    have d1:decide ((L.length:Int)<(L.length:Int))=false:=Ad zD;clear hb;go_wp2_with fail
    (try simp only[Exit.noGoto])
    (try go_wp2_with fail)
    go_ret;exact⟨by rw[hff.out];first | done | rfl | (simp;done) | simp[Exit.noGoto],HBW.out⟩
theorem Qx(l:List Cq)(p:Int)(k:Nat)(h:k<l.length):Gr p (l.drop k)=(decide (l[k].lo=p)&&(Dw l[k]&&Gr l[k].hi (l.drop (k+1)))):=by
 rw[AO h];rfl
theorem PQ(ep:Int)(l:List Cq)(a:Option Addr)(n c:Nat)(w:World)(hl:A3.r (·<w.heap.size) w [.slice a n c] l):
  Calls Tryz.prog 87 #[.agg #[.int .u64 ep,.slice a n c]] w fun r w'=>r=.returned (.bool (El ⟨ep,l⟩))∧Below w.heap.size w w':=by
 obtain⟨rfl,hm,hcc,hcm⟩:=AU hl;have HL:=hid hl;have HE:=hid (fun W:World=>Fm ep W);have hP:El ⟨ep,l⟩=(epR ep&&(decide (1≤l.length∧l.length≤64)&&Gr 0 l)):=rfl;generalize epR ep=E at*;clear hl;cases E
 ·have hff:Hid (El ⟨ep,l⟩=false):=hid (by rw[hP];rfl)
  clear hP;go_enter Tryz.func87,Tryz.ntmps87;go_wp2_with fail;refine (HE.out _).mono ?_;rintro r w1 ⟨rfl,rfl⟩;go_wp2_with fail;go_ret;exact⟨zQ,zC⟩
 ·by_cases h1:1≤l.length
  ·have d1:decide ((l.length:Int)<1)=false:=Ad zD
   by_cases h2:l.length≤64
   ·have d2:decide ((64:Int)<(l.length:Int))=false:=Ad zD
    have hff0:Hid (El ⟨ep,l⟩=Gr 0 (l.drop 0)):=hid (by rw[hP,Ae (⟨h1,h2⟩:1≤l.length∧l.length≤64)];simp);have x1:(w.alloc (.cells #[.int .u64 ep,.slice a l.length c] 30)).cell? ⟨w.heap.size,1,none⟩=some (.slice a l.length c):=zP;have hb0:Below w.heap.size w (w.alloc (.cells #[.int .u64 ep,.slice a l.length c] 30)):=zC;clear hP;go_enter Tryz.func87,Tryz.ntmps87;go_wp2_with fail;refine (HE.out _).mono ?_;rintro r w1 ⟨rfl,rfl⟩;go_wp2_with fail;generalize (w.alloc (.cells #[.int .u64 ep,.slice a l.length c] 30))=w0 at*;have HB0:=hid hb0;clear hb0 x1;go_loopw [3,25] (fun f i wr=>∃(k:Nat) (p:Int),k≤l.length∧i=.int .i64 k∧f=.int .u64 p∧Hid (El ⟨ep,l⟩=Gr p (l.drop k))∧Below w0.heap.size w0 wr) (fun _ i _=>l.length-(intOf i).toNat)
    case atStart=>exact ⟨0,0,Ao _,rfl,rfl,hff0,Below.refl _ _⟩
    case round=>
     obtain⟨k,p,hk,rfl,rfl,hf,hb⟩:=hrel;have HBW:=hid (HB0.out.trans (hb.mono HB0.out.size));have HB:=hid hb;by_cases hlt:k<l.length
     ·have i1:(k:Int)<(l.length:Int):=by omega
      have e0:decide ((k:Int)<(l.length:Int))=true:=Ae i1;obtain⟨b,o,hA,hbb,ak,ck,u0,u1,u2,ub0,ub1,xl⟩:=Gt (lift HL.out HBW.out) hlt;subst hA;have hst:=hid (Qx l p k hlt);have HR:=hid (fun (W:World) (hW:Below wr.heap.size wr W)=>M7 l[k].lo l[k].hi l[k].sets ak _ ck W (lift xl hW));have hbl:b<wr.heap.size:=DK _ _ u0;clear hb xl;generalize l[k]=X at*;have hX:(⟨X.lo,X.hi,X.sets⟩:Cq)=X:=rfl;simp only[hX] at HR;by_cases hlo:X.lo=p
      ·have e1:(X.lo !=p)=false:=by simp[hlo]
       generalize Dw X=R at*;cases R
       ·have hff:Hid (El ⟨ep,l⟩=false):=hid (by rw[hf.out,hst.out];simp)
        clear hlo hX;go_wp2_with fail;refine (HR.out _ zA).mono ?_;rintro r w3 ⟨rfl,hb3⟩;have hbe:Below w0.heap.size w0 w3:=Ag hb3 (Aw HB.out _);have hbf:Below w.heap.size w w3:=HB0.out.trans (hbe.mono HB0.out.size);go_wp2_with fail;go_ret;exact⟨zQ,hbf⟩
       ·have hff:Hid (El ⟨ep,l⟩=Gr X.hi (l.drop (k+1))):=hid (by rw[hf.out,hst.out,Ae hlo];rfl)
        clear hlo hX;go_wp2_with fail;refine (HR.out _ zA).mono ?_;rintro r w3 ⟨rfl,hb3⟩;have z1:=hb3.cell (p:=⟨wr.heap.size,1,none⟩) zP;simp at z1;have hbe:Below w0.heap.size w0 w3:=Ag hb3 (Aw HB.out _);clear hb3;go_wp2_with fail;go_roundw
        case rel=>exact ⟨k+1,X.hi,zD,zZ,rfl,hff,hbe⟩
        case measure=>(simp[intOf];try omega)
      ·have e1:(X.lo !=p)=true:=by simpa using hlo
       have hff:Hid (El ⟨ep,l⟩=false):=hid (by rw[hf.out,hst.out,Ad hlo];rfl);clear hlo hX;go_wp2_with fail;go_ret;exact⟨zQ,by have:=HBW.out;(repeat (first | with_reducible exact Below.refl _ _ | with_reducible assumption | (with_reducible refine Aw ?_ _) | (with_reducible refine Below.setCell ?_ (by first | omega | (simp;done) | (simp;omega)) _) | (with_reducible refine Below.drew ?_) | (with_reducible refine below_drewN ?_ _) | (refine Ag (by with_reducible assumption) ?_)))⟩
     ·obtain rfl:k=l.length:=by omega
      have e0:decide ((l.length:Int)<(l.length:Int))=false:=Ad zD;have hff:Hid (El ⟨ep,l⟩=decide (p=4611686018427387904)):=hid zAg;have hbq:(p==4611686018427387904)=decide (p=4611686018427387904):=by
       by_cases h:p=4611686018427387904
       ·subst h;rfl
       ·rw[Ad h];simpa using h
      generalize decide (p=4611686018427387904)=Q at*;clear hb;go_wp2_with fail;go_ret;exact⟨by rw[hff.out];first | rfl | (rw[←hbq];rfl) | (simp only[hbq];rfl),HBW.out⟩
   ·have d2:decide ((64:Int)<(l.length:Int))=true:=Ae zD
    have hff:Hid (El ⟨ep,l⟩=false):=hid (by rw[hP,Ad (fun h=>h2 h.2:¬(1≤l.length∧l.length≤64))];rfl);clear hP h2;go_enter Tryz.func87,Tryz.ntmps87;go_wp2_with fail;refine (HE.out _).mono ?_;rintro r w1 ⟨rfl,rfl⟩;go_wp2_with fail;go_ret;exact⟨zQ,zC⟩
  ·have d1:decide ((l.length:Int)<1)=true:=Ae zD
   have hff:Hid (El ⟨ep,l⟩=false):=hid (by rw[hP,Ad (fun h=>h1 h.1:¬(1≤l.length∧l.length≤64))];rfl);clear hP h1;go_enter Tryz.func87,Tryz.ntmps87;go_wp2_with fail;refine (HE.out _).mono ?_;rintro r w1 ⟨rfl,rfl⟩;go_wp2_with fail;go_ret;exact⟨zQ,zC⟩
open Go.RowKit Go.Bs
def kT:Array Value:=#[.string ⟨#[]⟩,.int .i64 0,.int .i64 0,.string ⟨#[114,101,97,100]⟩,.int .i64 1,.int .i64 9,.string ⟨#[119,114,105,116,101]⟩,.int .i64 33,.int .i64 10,.string ⟨#[115,101,97,108]⟩,.int .i64 0,.int .i64 11,.string ⟨#[116,114,105,109]⟩,.int .i64 1,.int .i64 10,.string ⟨#[102,105,108,108]⟩,.int .i64 1,.int .i64 10,.string ⟨#[116,97,107,101]⟩,.int .i64 10,.int .i64 12,.string ⟨#[103,101,116]⟩,.int .i64 0,.int .i64 13,.string ⟨#[112,117,116]⟩,.int .i64 128,.int .i64 10,.string ⟨#[118,97,108,117,101]⟩,.int .i64 36,.int .i64 0,.string ⟨#[100,111,110,101]⟩,.int .i64 0,.int .i64 0,.string ⟨#[115,101,97,108,101,100]⟩,.int .i64 64,.int .i64 0,.string ⟨#[116,97,107,101,110]⟩,.int .i64 17,.int .i64 0,.string ⟨#[112,114,111,106]⟩,.int .i64 128,.int .i64 0,.string ⟨#[102,97,105,108,101,100]⟩,.int .i64 4,.int .i64 0]
def kZ:Array Value:=#[.string ⟨#[]⟩,.int .i64 0,.int .i64 0,.string ⟨#[]⟩,.int .i64 0,.int .i64 0,.string ⟨#[]⟩,.int .i64 0,.int .i64 0,.string ⟨#[]⟩,.int .i64 0,.int .i64 0,.string ⟨#[]⟩,.int .i64 0,.int .i64 0,.string ⟨#[]⟩,.int .i64 0,.int .i64 0,.string ⟨#[]⟩,.int .i64 0,.int .i64 0,.string ⟨#[]⟩,.int .i64 0,.int .i64 0,.string ⟨#[]⟩,.int .i64 0,.int .i64 0,.string ⟨#[]⟩,.int .i64 0,.int .i64 0,.string ⟨#[]⟩,.int .i64 0,.int .i64 0,.string ⟨#[]⟩,.int .i64 0,.int .i64 0,.string ⟨#[]⟩,.int .i64 0,.int .i64 0,.string ⟨#[]⟩,.int .i64 0,.int .i64 0,.string ⟨#[]⟩,.int .i64 0,.int .i64 0]
theorem Bh{P:Program}{o:Oper}{a:Act}{K:Act→World→Prop}{Q:Exit→Act→World→Prop}{r:Result Next}(h:r=.ok (.value v) w')(hk:K (a.put o.dst v) w'):o.upon P a K Q r:=by rw[h];exact hk
theorem Rr{P:Program}{o:Oper}{a:Act}{K:Act→World→Prop}{Q:Exit→Act→World→Prop}{r:Result Next}(h:r=.ok .skip w')(hk:K (a.put o.dst undef) w'):o.upon P a K Q r:=by rw[h];exact hk
theorem Ql(w:World):Calls Tryz.prog 246 #[] w fun r w'=>r=.returned (.agg kT)∧Below w.heap.size w w':=by
 go_enter Tryz.func246,Tryz.ntmps246;go_upto_region 1 with (fail);refine wp_region_lit ?_;generalize hW1:w.alloc (.cells _ 230)=W1;have hW2:W1=w.alloc (.cells kZ 230):=hW1.symm.trans rfl;clear hW1;refine A6 rfl fun K hK=> ?_;unfold Oper.wp;refine Bh (v:=(.agg #[.string ⟨#[114,101,97,100]⟩,.int .i64 1,.int .i64 9])) (w':=W1) zL ?_;refine hK _ _ ?_;clear hK K;simp only[Act.put,Aa,Ab,Ac];refine A6 rfl fun K hK=> ?_;unfold Oper.wp;refine Bh (v:=(.agg #[.string ⟨#[119,114,105,116,101]⟩,.int .i64 33,.int .i64 10])) (w':=W1) zL ?_;refine hK _ _ ?_;clear hK K;simp only[Act.put,Aa,Ab,Ac];refine A6 rfl fun K hK=> ?_;unfold Oper.wp;refine Bh (v:=(.agg #[.string ⟨#[115,101,97,108]⟩,.int .i64 0,.int .i64 11])) (w':=W1) zL ?_;refine hK _ _ ?_;clear hK K;simp only[Act.put,Aa,Ab,Ac];refine A6 rfl fun K hK=> ?_;unfold Oper.wp;refine Bh (v:=(.agg #[.string ⟨#[116,114,105,109]⟩,.int .i64 1,.int .i64 10])) (w':=W1) zL ?_;refine hK _ _ ?_;clear hK K;simp only[Act.put,Aa,Ab,Ac];refine A6 rfl fun K hK=> ?_;unfold Oper.wp;refine Bh (v:=(.agg #[.string ⟨#[102,105,108,108]⟩,.int .i64 1,.int .i64 10])) (w':=W1) zL ?_;refine hK _ _ ?_;clear hK K;simp only[Act.put,Aa,Ab,Ac];refine A6 rfl fun K hK=> ?_;unfold Oper.wp;refine Bh (v:=(.agg #[.string ⟨#[116,97,107,101]⟩,.int .i64 10,.int .i64 12])) (w':=W1) zL ?_;refine hK _ _ ?_;clear hK K;simp only[Act.put,Aa,Ab,Ac];refine A6 rfl fun K hK=> ?_;unfold Oper.wp;refine Bh (v:=(.agg #[.string ⟨#[103,101,116]⟩,.int .i64 0,.int .i64 13])) (w':=W1) zL ?_;refine hK _ _ ?_;clear hK K;simp only[Act.put,Aa,Ab,Ac];refine A6 rfl fun K hK=> ?_;unfold Oper.wp;refine Bh (v:=(.agg #[.string ⟨#[112,117,116]⟩,.int .i64 128,.int .i64 10])) (w':=W1) zL ?_;refine hK _ _ ?_;clear hK K;simp only[Act.put,Aa,Ab,Ac];refine A6 rfl fun K hK=> ?_;unfold Oper.wp;refine Bh (v:=(.agg #[.string ⟨#[118,97,108,117,101]⟩,.int .i64 36,.int .i64 0])) (w':=W1) zL ?_;refine hK _ _ ?_;clear hK K;simp only[Act.put,Aa,Ab,Ac];refine A6 rfl fun K hK=> ?_;unfold Oper.wp;refine Bh (v:=(.agg #[.string ⟨#[100,111,110,101]⟩,.int .i64 0,.int .i64 0])) (w':=W1) zL ?_;refine hK _ _ ?_;clear hK K;simp only[Act.put,Aa,Ab,Ac];refine A6 rfl fun K hK=> ?_;unfold Oper.wp;refine Bh (v:=(.agg #[.string ⟨#[115,101,97,108,101,100]⟩,.int .i64 64,.int .i64 0])) (w':=W1) zL ?_;refine hK _ _ ?_;clear hK K;simp only[Act.put,Aa,Ab,Ac];refine A6 rfl fun K hK=> ?_;unfold Oper.wp;refine Bh (v:=(.agg #[.string ⟨#[116,97,107,101,110]⟩,.int .i64 17,.int .i64 0])) (w':=W1) zL ?_;refine hK _ _ ?_;clear hK K;simp only[Act.put,Aa,Ab,Ac];refine A6 rfl fun K hK=> ?_;unfold Oper.wp;refine Bh (v:=(.agg #[.string ⟨#[112,114,111,106]⟩,.int .i64 128,.int .i64 0])) (w':=W1) zL ?_;refine hK _ _ ?_;clear hK K;simp only[Act.put,Aa,Ab,Ac];refine A6 rfl fun K hK=> ?_;unfold Oper.wp;refine Bh (v:=(.agg #[.string ⟨#[102,97,105,108,101,100]⟩,.int .i64 4,.int .i64 0])) (w':=W1) zL ?_;refine hK _ _ ?_;clear hK K;simp only[Act.put,Aa,Ab,Ac];refine A6 rfl fun K hK=> ?_;unfold Oper.wp;refine Bh (v:=.agg kT) (w':=W1) zL ?_;subst hW2;refine hK _ _ ?_;clear hK K;simp only[Act.put,Aa,Ab,Ac];have h:=run_storeAt_new (P:=Tryz.prog) w 230 kZ kT zL zT zL;have hld:=run_loadVar_new (P:=Tryz.prog) w 230 kT 15 202 Tryz.underlying230 zL;generalize hS:kT=S at*;generalize kZ=Z at*;have HS:=hid hS;clear hS;refine A6 rfl fun K hK=> ?_;unfold Oper.wp;refine Rr (w':=w.alloc (.cells S 230)) ?_ ?_
 ·simp only[execOp,Act.eval,Act.put,Sem.run_bind]
  change (Sem.run Tryz.prog (Instr.storeAt 230 (.pointer (some ⟨w.heap.size,0,none⟩)) (.agg S)) (w.alloc (.cells Z 230))).andThen _=_;rw[h];rfl
 refine hK _ _ ?_;clear hK K
 (try simp only[Act.put,Aa,Ab,Ac])
 refine wpList_nil ?_;go_wp2_with fail;refine Af (v:=.agg S) ?_ rfl ⟨by rw[HS.out],zC⟩;simp[results,Tryz.results246,hld,Act.put,asAddr,Result.andThen]
def Vi(c:Nat):Value:=match c with
 | 0=> .agg #[.string ⟨#[]⟩,.int .i64 0,.int .i64 0]
 | 1=> .agg #[.string ⟨#[114,101,97,100]⟩,.int .i64 1,.int .i64 9]
 | 2=> .agg #[.string ⟨#[119,114,105,116,101]⟩,.int .i64 33,.int .i64 10]
 | 3=> .agg #[.string ⟨#[115,101,97,108]⟩,.int .i64 0,.int .i64 11]
 | 4=> .agg #[.string ⟨#[116,114,105,109]⟩,.int .i64 1,.int .i64 10]
 | 5=> .agg #[.string ⟨#[102,105,108,108]⟩,.int .i64 1,.int .i64 10]
 | 6=> .agg #[.string ⟨#[116,97,107,101]⟩,.int .i64 10,.int .i64 12]
 | 7=> .agg #[.string ⟨#[103,101,116]⟩,.int .i64 0,.int .i64 13]
 | 8=> .agg #[.string ⟨#[112,117,116]⟩,.int .i64 128,.int .i64 10]
 | 9=> .agg #[.string ⟨#[118,97,108,117,101]⟩,.int .i64 36,.int .i64 0]
 | 10=> .agg #[.string ⟨#[100,111,110,101]⟩,.int .i64 0,.int .i64 0]
 | 11=> .agg #[.string ⟨#[115,101,97,108,101,100]⟩,.int .i64 64,.int .i64 0]
 | 12=> .agg #[.string ⟨#[116,97,107,101,110]⟩,.int .i64 17,.int .i64 0]
 | 13=> .agg #[.string ⟨#[112,114,111,106]⟩,.int .i64 128,.int .i64 0]
 | 14=> .agg #[.string ⟨#[102,97,105,108,101,100]⟩,.int .i64 4,.int .i64 0]
 | _=> .nilFunc
theorem Us:∀c:Nat,c<15→∃s a,Vi c=.agg #[.string s,.int .i64 ((Dc (c:Int):Nat):Int),.int .i64 a]
 | 0,_=>⟨_,_,rfl⟩
 | 1,_=>⟨_,_,rfl⟩
 | 2,_=>⟨_,_,rfl⟩
 | 3,_=>⟨_,_,rfl⟩
 | 4,_=>⟨_,_,rfl⟩
 | 5,_=>⟨_,_,rfl⟩
 | 6,_=>⟨_,_,rfl⟩
 | 7,_=>⟨_,_,rfl⟩
 | 8,_=>⟨_,_,rfl⟩
 | 9,_=>⟨_,_,rfl⟩
 | 10,_=>⟨_,_,rfl⟩
 | 11,_=>⟨_,_,rfl⟩
 | 12,_=>⟨_,_,rfl⟩
 | 13,_=>⟨_,_,rfl⟩
 | 14,_=>⟨_,_,rfl⟩
 | n+15,h=>absurd h zD
theorem Ur(W:World):∀c:Nat,c<15→(Instr.index 230 (.agg kT) (.int .i64 (c:Int))).run Tryz.prog W=.ok (Vi c) W
 | 0,_=>by kernel_rfl
 | 1,_=>by kernel_rfl
 | 2,_=>by kernel_rfl
 | 3,_=>by kernel_rfl
 | 4,_=>by kernel_rfl
 | 5,_=>by kernel_rfl
 | 6,_=>by kernel_rfl
 | 7,_=>by kernel_rfl
 | 8,_=>by kernel_rfl
 | 9,_=>by kernel_rfl
 | 10,_=>by kernel_rfl
 | 11,_=>by kernel_rfl
 | 12,_=>by kernel_rfl
 | 13,_=>by kernel_rfl
 | 14,_=>by kernel_rfl
 | n+15,h=>absurd h zD
theorem GV(k:Int)(w:World):Calls Tryz.prog 80 #[.int .i64 k] w fun r w'=>r=.returned (.bool (decide (1≤k∧k≤14)))∧w=w':=by
 by_cases h0:1≤k
 ·by_cases h1:k≤14
  ·have d1:decide ((1:Int)≤k)=true:=Ae h0
   have d2:decide (k≤14)=true:=Ae h1;rw[Ae (⟨h0,h1⟩:1≤k∧k≤14)];go_enter Tryz.func80,Tryz.ntmps80;go_wp2;go_ret;exact⟨rfl,rfl⟩
  ·have d1:decide ((1:Int)≤k)=true:=Ae h0
   have d2:decide (k≤14)=false:=Ad h1;rw[Ad (fun h=>h1 h.2:¬(1≤k∧k≤14))];go_enter Tryz.func80,Tryz.ntmps80;go_wp2;go_ret;exact⟨rfl,rfl⟩
 ·have d1:decide ((1:Int)≤k)=false:=Ad h0
  rw[Ad (fun h=>h0 h.1:¬(1≤k∧k≤14))];go_enter Tryz.func80,Tryz.ntmps80;go_wp2;go_ret;exact⟨rfl,rfl⟩
theorem Uq(k:Int)(w:World):Calls Tryz.prog 214 #[.int .i64 k] w fun r w'=>(∃s a,r=.returned (.agg #[.string s,.int .i64 ((Dc k:Nat):Int),.int .i64 a]))∧Below w.heap.size w w':=by
 have HR:=hid (fun (W:World)=>GV k W);have HW:=hid Ql;by_cases h:1≤k∧k≤14
 ·obtain⟨c,rfl⟩:∃c:Nat,k=c:=⟨k.toNat,zD⟩
  rw[Ae h] at HR;have hix:=fun W=>Ur W c zD;obtain⟨s,a,hrow⟩:=Us c zD;simp only[hrow] at hix;generalize Dc (c:Int)=q at*;generalize kT=S at*;clear h hrow;go_enter Tryz.func214,Tryz.ntmps214;go_wp2_with fail;refine (HR.out _).mono ?_;rintro r w1 ⟨rfl,rfl⟩;go_wp2_with fail;refine (HW.out _).mono ?_;rintro r w1 ⟨rfl,hb1⟩;have hs1:=hb1.size;have lt1:w.heap.size<w1.heap.size:=by simp at hs1;omega
  have x0:=hb1.cell (p:=⟨w.heap.size,0,none⟩) zP;have x1:=hb1.cell (p:=⟨w.heap.size,1,none⟩) zP;have x2:=hb1.cell (p:=⟨w.heap.size,2,none⟩) zP;have f0:=hb1.frozen (p:=⟨w.heap.size,0,none⟩) zP;have f1:=hb1.frozen (p:=⟨w.heap.size,1,none⟩) zP;have f2:=hb1.frozen (p:=⟨w.heap.size,2,none⟩) zP;simp at x0 x1 x2 f0 f1 f2;have HB1:=hid hb1;clear hb1 hs1;go_wp2_with fail;refine Af (v:=.agg #[.string s,.int .i64 ((q:Nat):Int),.int .i64 a]) (by simp[results,Tryz.results214,go_sem,lt1,x0,x1,x2]) rfl ⟨⟨s,a,rfl⟩,?_⟩;have:=HB1.out.mono (show w.heap.size≤_ from zP);exact (((((Below.refl w.heap.size w).alloc (Aj _) _).trans this).setCell (Aj _) _).setCell (Aj _) _).setCell (Aj _) _
 ·rw[Ad h] at HR
  have hq:Hid (Dc k=0):=hid (by unfold Dc;rw[An (by omega)]);clear h;go_enter Tryz.func214,Tryz.ntmps214;go_wp2_with fail;refine (HR.out _).mono ?_;rintro r w1 ⟨rfl,rfl⟩;go_wp2_with fail;refine Af (v:=.agg #[.string (⟨#[]⟩:ByteArray),.int .i64 0,.int .i64 0]) (by simp[results,Tryz.results214,go_sem]) rfl ⟨⟨(⟨#[]⟩:ByteArray),0,by rw[hq.out];rfl⟩,zC⟩
theorem Tw(W:World)(s:ByteArray)(q a:Int):(Instr.field 202 (.agg #[.string s,.int .i64 q,.int .i64 a]) 1).run Tryz.prog W=.ok (.int .i64 q) W:=zL
theorem On(W:World)(s:ByteArray)(q a:Int):(Instr.field 208 (.agg #[.string s,.int .i64 q,.int .i64 a]) 1).run Tryz.prog W=.ok (.int .i64 q) W:=zL
theorem Qm(k:Int)(w:World):Calls Tryz.prog 145 #[.int .i64 k] w fun r w'=>r=.returned (.int .i64 ((Dc k:Nat):Int))∧Below w.heap.size w w':=by
 have HO:=hid (fun (W:World)=>Uq k W);generalize Dc k=q at*;go_enter Tryz.func145,Tryz.ntmps145;go_wp2_with fail;refine (HO.out _).mono ?_;rintro r w1 ⟨⟨s,a,rfl⟩,hb1⟩;have hfd:=fun (W:World)=>Tw W s ((q:Nat):Int) a;go_wp2_with fail;go_ret;exact⟨rfl,hb1⟩
theorem Nl(k:Int):Dc k≤128:=by
 have:=Lk k;simp at this;omega
def IL(p:Nat):Prop:=p∈[1,2,4,8,16,32,64,128]
theorem Tk:∀q∈[0,1,33,10,128,36,64,17,4],∀p∈[1,2,4,8,16,32,64,128],(bits .and .i64 ((q:Nat):Int) ((p:Nat):Int) !=0)=(q/p%2==1)∧bits .and .i64 ((p:Nat):Int) ((p:Nat)-1:Int)=0:=zG
theorem Rc(h:IL p):0<p∧p≤128:=by
 simp[IL] at h;omega
theorem CZ(k:Int)(p:Nat)(hp:IL p)(w:World):Calls Tryz.prog 62 #[.int .i64 k,.int .i64 (p:Int)] w fun r w'=>r=.returned (.bool (AM k p))∧Below w.heap.size w w':=by
 have HP:=hid (fun (W:World)=>Qm k W);obtain⟨hb1,hb2⟩:=Tk _ (Lk k) _ hp;have hpi:=Rc hp;have d1:decide ((0:Int)<(p:Int))=true:=Ae zD;have d2:decide ((p:Int)≤128)=true:=Ae zD;have w1:0≤(p:Int)-1:=zD;have HH:Hid (AM k p=(bits .and .i64 ((Dc k:Nat):Int) (p:Int) !=0)):=hid hb1.symm;generalize AM k p=hh at*;generalize Dc k=q at*;obtain⟨x,hx⟩:∃x,bits .and .i64 ((q:Nat):Int) (p:Int)=x:=⟨_,rfl⟩;rw[hx] at HH;have d3:(bits .and .i64 (p:Int) ((p:Int)-1)==0)=true:=by rw[hb2];rfl
 clear hb1 hp;go_enter Tryz.func62,Tryz.ntmps62;go_wp2_with fail;refine (HP.out _).mono ?_;rintro r w1 ⟨rfl,hb1⟩;go_wp2_with fail;go_ret;exact⟨by rw[HH.out];rfl,hb1⟩
def lT:Array Value:=#[.string ⟨#[114,101,97,100]⟩,.int .i64 1,.int .i64 9,.string ⟨#[119,114,105,116,101]⟩,.int .i64 33,.int .i64 10,.string ⟨#[115,101,97,108]⟩,.int .i64 0,.int .i64 11,.string ⟨#[116,114,105,109]⟩,.int .i64 1,.int .i64 10,.string ⟨#[102,105,108,108]⟩,.int .i64 1,.int .i64 10,.string ⟨#[116,97,107,101]⟩,.int .i64 10,.int .i64 12,.string ⟨#[103,101,116]⟩,.int .i64 0,.int .i64 13,.string ⟨#[112,117,116]⟩,.int .i64 128,.int .i64 10,.string ⟨#[118,97,108,117,101]⟩,.int .i64 36,.int .i64 0,.string ⟨#[100,111,110,101]⟩,.int .i64 0,.int .i64 0,.string ⟨#[115,101,97,108,101,100]⟩,.int .i64 64,.int .i64 0,.string ⟨#[116,97,107,101,110]⟩,.int .i64 17,.int .i64 0,.string ⟨#[112,114,111,106]⟩,.int .i64 128,.int .i64 0,.string ⟨#[102,97,105,108,101,100]⟩,.int .i64 4,.int .i64 0]
theorem U4:∀c:Nat,c<14→∃s a,lT[c*3]? =some (.string s)∧lT[c*3+1]? =some (.int .i64 ((Dc ((c:Int)+1):Nat):Int))∧lT[c*3+2]? =some (.int .i64 a)
 | 0,_=>⟨_,_,rfl,rfl,rfl⟩
 | 1,_=>⟨_,_,rfl,rfl,rfl⟩
 | 2,_=>⟨_,_,rfl,rfl,rfl⟩
 | 3,_=>⟨_,_,rfl,rfl,rfl⟩
 | 4,_=>⟨_,_,rfl,rfl,rfl⟩
 | 5,_=>⟨_,_,rfl,rfl,rfl⟩
 | 6,_=>⟨_,_,rfl,rfl,rfl⟩
 | 7,_=>⟨_,_,rfl,rfl,rfl⟩
 | 8,_=>⟨_,_,rfl,rfl,rfl⟩
 | 9,_=>⟨_,_,rfl,rfl,rfl⟩
 | 10,_=>⟨_,_,rfl,rfl,rfl⟩
 | 11,_=>⟨_,_,rfl,rfl,rfl⟩
 | 12,_=>⟨_,_,rfl,rfl,rfl⟩
 | 13,_=>⟨_,_,rfl,rfl,rfl⟩
 | n+14,h=>absurd h zD
theorem SV(k:Int)(w:World):Calls Tryz.prog 220 #[.int .i64 k] w fun r w'=>(∃s a,r=.returned (.agg #[.string s,.int .i64 ((Dc k:Nat):Int),.int .i64 a]))∧Below w.heap.size w w':=by
 go_enter Tryz.func220,Tryz.ntmps220;go_upto_region 1 with (fail);refine wp_region_lit ?_;generalize hW1:w.alloc (.cells _ 208)=W1;have HW1:=hid hW1;clear hW1;refine A6 rfl fun K hK=> ?_;unfold Oper.wp;refine Bh (v:=(.agg #[.string ⟨#[114,101,97,100]⟩,.int .i64 1,.int .i64 9])) (w':=W1) zL ?_;refine hK _ _ ?_;clear hK K;simp only[Act.put,Aa,Ab,Ac];refine A6 rfl fun K hK=> ?_;unfold Oper.wp;refine Bh (v:=(.agg #[.string ⟨#[119,114,105,116,101]⟩,.int .i64 33,.int .i64 10])) (w':=W1) zL ?_;refine hK _ _ ?_;clear hK K;simp only[Act.put,Aa,Ab,Ac];refine A6 rfl fun K hK=> ?_;unfold Oper.wp;refine Bh (v:=(.agg #[.string ⟨#[115,101,97,108]⟩,.int .i64 0,.int .i64 11])) (w':=W1) zL ?_;refine hK _ _ ?_;clear hK K;simp only[Act.put,Aa,Ab,Ac];refine A6 rfl fun K hK=> ?_;unfold Oper.wp;refine Bh (v:=(.agg #[.string ⟨#[116,114,105,109]⟩,.int .i64 1,.int .i64 10])) (w':=W1) zL ?_;refine hK _ _ ?_;clear hK K;simp only[Act.put,Aa,Ab,Ac];refine A6 rfl fun K hK=> ?_;unfold Oper.wp;refine Bh (v:=(.agg #[.string ⟨#[102,105,108,108]⟩,.int .i64 1,.int .i64 10])) (w':=W1) zL ?_;refine hK _ _ ?_;clear hK K;simp only[Act.put,Aa,Ab,Ac];refine A6 rfl fun K hK=> ?_;unfold Oper.wp;refine Bh (v:=(.agg #[.string ⟨#[116,97,107,101]⟩,.int .i64 10,.int .i64 12])) (w':=W1) zL ?_;refine hK _ _ ?_;clear hK K;simp only[Act.put,Aa,Ab,Ac];refine A6 rfl fun K hK=> ?_;unfold Oper.wp;refine Bh (v:=(.agg #[.string ⟨#[103,101,116]⟩,.int .i64 0,.int .i64 13])) (w':=W1) zL ?_;refine hK _ _ ?_;clear hK K;simp only[Act.put,Aa,Ab,Ac];refine A6 rfl fun K hK=> ?_;unfold Oper.wp;refine Bh (v:=(.agg #[.string ⟨#[112,117,116]⟩,.int .i64 128,.int .i64 10])) (w':=W1) zL ?_;refine hK _ _ ?_;clear hK K;simp only[Act.put,Aa,Ab,Ac];refine A6 rfl fun K hK=> ?_;unfold Oper.wp;refine Bh (v:=(.agg #[.string ⟨#[118,97,108,117,101]⟩,.int .i64 36,.int .i64 0])) (w':=W1) zL ?_;refine hK _ _ ?_;clear hK K;simp only[Act.put,Aa,Ab,Ac];refine A6 rfl fun K hK=> ?_;unfold Oper.wp;refine Bh (v:=(.agg #[.string ⟨#[100,111,110,101]⟩,.int .i64 0,.int .i64 0])) (w':=W1) zL ?_;refine hK _ _ ?_;clear hK K;simp only[Act.put,Aa,Ab,Ac];refine A6 rfl fun K hK=> ?_;unfold Oper.wp;refine Bh (v:=(.agg #[.string ⟨#[115,101,97,108,101,100]⟩,.int .i64 64,.int .i64 0])) (w':=W1) zL ?_;refine hK _ _ ?_;clear hK K;simp only[Act.put,Aa,Ab,Ac];refine A6 rfl fun K hK=> ?_;unfold Oper.wp;refine Bh (v:=(.agg #[.string ⟨#[116,97,107,101,110]⟩,.int .i64 17,.int .i64 0])) (w':=W1) zL ?_;refine hK _ _ ?_;clear hK K;simp only[Act.put,Aa,Ab,Ac];refine A6 rfl fun K hK=> ?_;unfold Oper.wp;refine Bh (v:=(.agg #[.string ⟨#[112,114,111,106]⟩,.int .i64 128,.int .i64 0])) (w':=W1) zL ?_;refine hK _ _ ?_;clear hK K;simp only[Act.put,Aa,Ab,Ac];refine A6 rfl fun K hK=> ?_;unfold Oper.wp;refine Bh (v:=(.agg #[.string ⟨#[102,97,105,108,101,100]⟩,.int .i64 4,.int .i64 0])) (w':=W1) zL ?_;refine hK _ _ ?_;clear hK K;simp only[Act.put,Aa,Ab,Ac];refine A6 rfl fun K hK=> ?_;unfold Oper.wp;refine Bh (v:=.slice (some ⟨W1.heap.size,0,none⟩) 14 14) (w':=W1.alloc (.cells lT 208)) zL ?_;refine hK _ _ ?_;clear hK K;simp only[Act.put,Aa,Ab,Ac];refine A6 rfl fun K hK=> ?_;unfold Oper.wp;refine Bh (v:=.slice (some ⟨W1.heap.size,0,none⟩) 14 14) (w':=W1.alloc (.cells lT 208)) zL ?_;refine hK _ _ ?_;clear hK K;simp only[Act.put,Aa,Ab,Ac];refine wpList_nil ?_;have hbl:Blk (W1.alloc (.cells lT 208)) W1.heap.size 208 lT:=Blk.new _ _ _;have hs:W1.heap.size=w.heap.size+1:=zAp;have z0:W1.cell? ⟨w.heap.size,0,none⟩=some (.string ⟨#[]⟩):=zAp;have z1:W1.cell? ⟨w.heap.size,1,none⟩=some (.int .i64 0):=zAp;have z2:W1.cell? ⟨w.heap.size,2,none⟩=some (.int .i64 0):=zAp;have y0:W1.frozen? ⟨w.heap.size,0,none⟩=false:=zAp;have y1:W1.frozen? ⟨w.heap.size,1,none⟩=false:=zAp;have y2:W1.frozen? ⟨w.heap.size,2,none⟩=false:=zAp;have hbw:Below w.heap.size w W1:=by rw[←HW1.out];(repeat (first | exact Below.refl _ _ | assumption | (refine Aw ?_ _) | (refine Below.setCell ?_ zE _) | (refine Below.drew ?_) | (refine below_drewN ?_ _) | (refine Ag zN ?_)))
 have hba:Below W1.heap.size W1 (W1.alloc (.cells lT 208)):=zC;have x0:=(hba.cell (p:=⟨w.heap.size,0,none⟩) zH).trans z0;have x1:=(hba.cell (p:=⟨w.heap.size,1,none⟩) zH).trans z1;have x2:=(hba.cell (p:=⟨w.heap.size,2,none⟩) zH).trans z2;have f0:=(hba.frozen (p:=⟨w.heap.size,0,none⟩) zH).trans y0;have f1:=(hba.frozen (p:=⟨w.heap.size,1,none⟩) zH).trans y1;have f2:=(hba.frozen (p:=⟨w.heap.size,2,none⟩) zH).trans y2;have HB:=hid (hbw.trans (hba.mono zD));have hcell:=fun c (h:c<14)=>(by
  obtain⟨s,a,g0,g1,g2⟩:=U4 c h;exact⟨s,a,(hbl.cell _).trans g0,(hbl.cell _).trans g1,(hbl.cell _).trans g2⟩:∃s a,(W1.alloc (.cells lT 208)).cell? ⟨W1.heap.size,c*3,none⟩=some (.string s)∧(W1.alloc (.cells lT 208)).cell? ⟨W1.heap.size,c*3+1,none⟩=some (.int .i64 ((Dc ((c:Int)+1):Nat):Int))∧(W1.alloc (.cells lT 208)).cell? ⟨W1.heap.size,c*3+2,none⟩=some (.int .i64 a))
 have HC:=hid hcell;have hsz:W1.heap.size<(W1.alloc (.cells lT 208)).heap.size:=zP;generalize W1.alloc (.cells lT 208)=W2 at*;generalize W1.heap.size=g at*;clear hcell hbl z0 z1 z2 y0 y1 y2 hbw hba HW1 W1;have lt2:w.heap.size<W2.heap.size:=zD;have gne:g≠w.heap.size:=zD;clear hs;by_cases h:1≤k∧k≤14
 ·obtain⟨c,rfl⟩:∃c:Nat,k=(c:Int)+1:=⟨(k-1).toNat,zD⟩
  obtain⟨s,a,g0,g1,g2⟩:=HC.out c zD;obtain⟨q,hq⟩:∃q,Dc ((c:Int)+1)=q:=⟨_,rfl⟩;rw[hq] at g1;have HQ:=hid hq;clear hq;have d1:decide ((c:Int)+1<1)=false:=Ad zD;have d2:decide ((14:Int)<(c:Int)+1)=false:=Ad zD;have w1:0≤(c:Int)+1-1:=zD;have i1:(c:Int)<14:=zD;clear h;go_wp2_with fail;refine Af (v:=.agg #[.string s,.int .i64 ((q:Nat):Int),.int .i64 a]) zA6 rfl ⟨⟨s,a,by rw[HQ.out]⟩,?_⟩;exact ((HB.out.setCell (Aj _) _).setCell (Aj _) _).setCell (Aj _) _
 ·have hq:Hid (Dc k=0):=hid (by unfold Dc;rw[An (by omega)])
  by_cases h1:k<1
  ·have d1:decide (k<1)=true:=Ae h1
   clear h h1;go_wp2_with fail;refine Af (v:=.agg #[.string (⟨#[]⟩:ByteArray),.int .i64 0,.int .i64 0]) zA6 rfl ⟨⟨(⟨#[]⟩:ByteArray),0,by rw[hq.out];rfl⟩,?_⟩;exact ((HB.out.setCell (Aj _) _).setCell (Aj _) _).setCell (Aj _) _
  ·have d1:decide (k<1)=false:=Ad h1
   have d2:decide ((14:Int)<k)=true:=Ae zD;clear h h1;go_wp2_with fail;refine Af (v:=.agg #[.string (⟨#[]⟩:ByteArray),.int .i64 0,.int .i64 0]) zA6 rfl ⟨⟨(⟨#[]⟩:ByteArray),0,by rw[hq.out];rfl⟩,?_⟩;exact ((HB.out.setCell (Aj _) _).setCell (Aj _) _).setCell (Aj _) _
theorem RH(k:Int)(p:Nat)(hp:IL p)(w:World):Calls Tryz.prog 162 #[.int .i64 k,.int .i64 (p:Int)] w fun r w'=>r=.returned (.bool (AM k p))∧Below w.heap.size w w':=by
 have HO:=hid (fun (W:World)=>SV k W);have hkk:AM k p=(Dc k/p%2==1):=rfl;have hqs:=Nl k;have hpi:=Rc hp;have hpp:p=1∨p=2∨p=4∨p=8∨p=16∨p=32∨p=64∨p=128:=by simpa [IL] using hp
 generalize Dc k=q at*;generalize AM k p=hh at*;have HK:=hid hkk;clear hkk hp;go_enter Tryz.func162,Tryz.ntmps162;go_wp2_with fail;go_loopw [5] (fun v wr=>∃m:Nat,(m=1∨m=2∨m=4∨m=8∨m=16∨m=32∨m=64∨m=128∨m=256)∧v=.int .i64 (m:Int)∧Hid (m≤p∨hh=false)∧Below w.heap.size w wr) (fun v _=>256-(intOf v).toNat)
 case atStart=>exact ⟨1,.inl rfl,rfl,hid (.inl zD),Below.refl _ _⟩
 case round=>
  obtain⟨m,hm,rfl,hrel,hb⟩:=hrel;by_cases hle:m≤128
  ·have d1:decide ((m:Int)≤128)=true:=Ae zD
   by_cases hmp:m=p
   ·subst hmp
    have d2:((m:Int)==(m:Int))=true:=zP;have dv:0≤(q:Int)/(m:Int)∧(q:Int)/(m:Int)≤128:=by
     have h1:=Nat.div_le_self q m;have h2:(q:Int)/(m:Int)=((q/m:Nat):Int):=zP;rw[h2];exact⟨Int.natCast_nonneg _,by exact_mod_cast A4 h1 hqs⟩
    by_cases hb1:(q/m%2==1)=true
    ·have hh1:Hid (hh=true):=hid (HK.out.trans hb1)
     clear hpp;go_wp2_with fail;refine (HO.out _).mono ?_;rintro r w1 ⟨⟨s,a,rfl⟩,hb2⟩;have hfd:=fun (W:World)=>On W s ((q:Nat):Int) a;have hbf:=Ag hb2 hb;go_wp2_with fail;go_ret;exact⟨by rw[hh1.out];rfl,hbf⟩
    ·have hh1:Hid (hh=false):=hid (HK.out.trans (eq_false_of_ne_true hb1))
     have hb3:(q/m%2==1)=false:=eq_false_of_ne_true hb1;clear hpp hb1;go_wp2_with fail;refine (HO.out _).mono ?_;rintro r w1 ⟨⟨s,a,rfl⟩,hb2⟩;have hfd:=fun (W:World)=>On W s ((q:Nat):Int) a;have hbf:=Ag hb2 hb;go_wp2_with fail;go_roundw
     case rel=>exact ⟨2*m,zD,zZ,hid (.inr hh1.out),hbf⟩
     case measure=>(simp[intOf];try omega)
   ·have d2:((m:Int)==(p:Int))=false:=beq_eq_false_iff_ne.2 zD
    have hn:Hid (2*m≤p∨hh=false):=hid (by exact hrel.out.elim (fun h=> .inl (by omega)) .inr);clear hpp;go_wp2_with fail;go_roundw
    case rel=>exact ⟨2*m,zD,zZ,hn,hb⟩
    case measure=>(simp[intOf];try omega)
  ·have d1:decide ((m:Int)≤128)=false:=Ad zD
   have hf:Hid (hh=false):=hid (by exact hrel.out.elim (fun h=>by omega) id);clear hpp;go_wp2_with fail;go_ret;exact⟨zCf,hb⟩
theorem EU(k:Int)(p:Nat)(hp:IL p)(w:World):Calls Tryz.prog 88 #[.int .i64 k,.int .i64 (p:Int)] w fun r w'=>r=.returned (.bool (AM k p))∧Below w.heap.size w w':=by
 have HP:=hid (fun (W:World)=>RH k p hp W);go_enter Tryz.func88,Tryz.ntmps88;go_wp2_with fail;refine (HP.out _).mono ?_;rintro r w1 ⟨rfl,hb1⟩;go_wp2_with fail;go_ret;exact⟨rfl,hb1⟩
theorem N5(k st:Int)(w:World):Calls Tryz.prog 36 #[.int .i64 k,.int .i64 st] w fun r w'=>r=.returned (.bool (Ch k st))∧w=w':=by
 by_cases h1:k=2
 ·have d1:(k==2)=true:=beq_iff_eq.2 h1
  have hb:Hid (Ch k st=true):=hid (by unfold Ch;rw[Ae h1];rfl);clear h1;go_enter Tryz.func36,Tryz.ntmps36;go_wp2;go_ret;exact⟨zBf,rfl⟩
 ·have d1:(k==2)=false:=beq_eq_false_iff_ne.2 h1
  by_cases h2:k=9
  ·have d2:(k==9)=true:=beq_iff_eq.2 h2
   have hb:Hid (Ch k st=(st==1)):=hid (by unfold Ch;rw[Ad h1,Ae h2,Bool.false_or,Cw];by_cases h:st=1<;>simp [h]);generalize Ch k st=bb at*;clear h1 h2;go_enter Tryz.func36,Tryz.ntmps36;go_wp2;go_ret;exact⟨zBf,rfl⟩
  ·have d2:(k==9)=false:=beq_eq_false_iff_ne.2 h2
   have hb:Hid (Ch k st=false):=hid (by unfold Ch;rw[Ad h1,Ad h2];rfl);clear h1 h2;go_enter Tryz.func36,Tryz.ntmps36;go_wp2;go_ret;exact⟨zBf,rfl⟩
theorem MS(k:Int)(w:World):Calls Tryz.prog 83 #[.int .i64 k] w fun r w'=>r=.returned (.int .i64 (Dn k))∧w=w':=by
 by_cases h2:k=9
 ·have d2:(k==9)=true:=beq_iff_eq.2 h2
  have hb:Hid (Dn k=4):=hid (by unfold Dn;rw[An h2]);clear h2;go_enter Tryz.func83,Tryz.ntmps83;go_wp2;go_ret;exact⟨zBf,rfl⟩
 ·have d2:(k==9)=false:=beq_eq_false_iff_ne.2 h2
  have hb:Hid (Dn k=20):=hid (by unfold Dn;rw[Ak h2]);clear h2;go_enter Tryz.func83,Tryz.ntmps83;go_wp2;go_ret;exact⟨zBf,rfl⟩
theorem Pv(k:Int)(w:World):Calls Tryz.prog 90 #[.int .i64 k] w fun r w'=>r=.returned (.int .i64 (Dn k))∧w=w':=by
 by_cases h2:k=9
 ·have d2:(k==9)=true:=beq_iff_eq.2 h2
  have hb:Hid (Dn k=4):=hid (by unfold Dn;rw[An h2]);clear h2;go_enter Tryz.func90,Tryz.ntmps90;go_wp2;go_ret;exact⟨zBf,rfl⟩
 ·have d2:(k==9)=false:=beq_eq_false_iff_ne.2 h2
  have hb:Hid (Dn k=20):=hid (by unfold Dn;rw[Ak h2]);clear h2;go_enter Tryz.func90,Tryz.ntmps90;go_wp2;go_ret;exact⟨zBf,rfl⟩
theorem D8(k:Int)(p:Nat)(hp:IL p)(r z:Bool)(w:World):Calls Tryz.prog 81 #[.int .i64 k,.int .i64 (p:Int),.bool r,.bool z] w fun e w'=>e=.returned (.bool (Cg (AM k p) r z))∧Below w.heap.size w w':=by
 have HP:=hid (fun (W:World)=>CZ k p hp W);generalize AM k p=hh at*;go_enter Tryz.func81,Tryz.ntmps81;go_wp2_with fail;refine (HP.out _).mono ?_;rintro e w1 ⟨rfl,hb1⟩;cases hh
 ·go_wp2_with fail
  go_ret;exact⟨rfl,hb1⟩
 ·go_wp2_with fail
  go_ret;exact⟨rfl,hb1⟩
end Go.Proofs.YtlbffbkbkajciaaGreat
