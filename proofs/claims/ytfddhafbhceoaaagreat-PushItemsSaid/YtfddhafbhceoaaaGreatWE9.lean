/- Mini: Needed by pushItems_walk, part 9: texts put together by shake.py; no condition. -/
import Derived.Test.YtfddhafbhceoaaaGreatWE5
import Derived.Test.YtfddhafbhceoaaaGreatWE1
import Derived.Test.YtfddhafbhceoaaaGreatWE8
import Derived.Test.YtfddhafbhceoaaaGreatWE7
import Derived.Test.YtfddhafbhceoaaaGreatWE3
import Derived.Deep.AppendLies
import Derived.Deep.RegionLaw
import Derived.Test.YtfddhafbhceoaaaGreatWE6
import Derived.Deep.Cut
import Derived.Deep.CutRange
import Derived.BigRegion
import Derived.Test.YtfddhafbhceoaaaGreatWE2
import Derived.Laws.Bits64
import Derived.Test.YtfddhafbhceoaaaGreatWE4
set_option linter.unusedVariables false
set_option linter.unusedSimpArgs false
set_option maxRecDepth 100000
set_option maxHeartbeats 6400000
namespace Go.Bs
theorem zBu{p:Prop}(h:p:=by simp [results, Tryz.results317, go_sem, x0, x1, x2, f0, f1, f2, l0]):p:=h
theorem zAt{p:Prop}(h:p:=by rw [Ag]; simp; omega):p:=h
theorem zAr{p:Prop}(h:p:=by simp [results, Tryz.results351, go_sem, n0, n1, n2, ln]):p:=h
theorem zAl{p:Prop}(h:p:=by have := hb.1; omega):p:=h
theorem ZZ{p:Prop}(h:p:=by simp [results, Tryz.results319, go_sem, n0, n1, ln]):p:=h
theorem Be:type_of% @Decidable.byContradiction:=@Decidable.byContradiction
theorem IL:type_of% @Bool.false_and:=@Bool.false_and
end Go.Bs
namespace Go.Proofs.YtfddhafbhceoaaaGreat
open Go.RowKit Go.Bs Go.Maps
variable{B:List UInt8}{base c g i lo n sz:Nat}{F:Nat → Prop}{a:Option Addr}{s:Rs}{e t:TypeId}{v v0 v1 v2:Value}{W W' w w':World}
theorem Wr(l:List Int)(x:Int)(k:Nat)(h:k<l.length):(l.drop k).contains x=(decide (l[k]=x) || (l.drop (k+1)).contains x):=by
 rw[AS h,List.contains_cons];congr 1
 rw[H5,beq_iff_eq,decide_eq_true_iff];exact eq_comm
theorem Qw(l:List Int)(x:Int)(a:Option Addr)(n c:Nat)(w:World)(hl:Bb.r (·<w.heap.size) w [.slice a n c] l):
  Calls Tryz.prog 377 #[.slice a n c,.int .u64 x] w fun r w'=>(∃j:Int,r=.returned (.int .i64 j)∧decide (0≤j)=l.contains x)∧Below w.heap.size w w':=by
 obtain⟨rfl,hm,_,_⟩:=AT hl;have HL:=hid hl;clear hl;go_enter Tryz.func377,Tryz.ntmps377;go_wp2;go_loopw [8] (fun i wr=>∃k:Nat,k≤l.length∧i=.int .i64 k∧Hid (l.contains x=(l.drop k).contains x)∧Below w.heap.size w wr) (fun i _=>l.length-(intOf i).toNat)
 case atStart=>exact ⟨0,Am _,rfl,hid rfl,Below.refl _ _⟩
 case round=>
  obtain⟨k,hk,rfl,hf,hb⟩:=hrel;by_cases hlt:k<l.length
  ·obtain⟨b,o,hA,hbb,x0,hx0,hx1⟩:=Dv (lift HL.out hb) hlt
   subst hA;have hst:=hid (Wr l x k hlt);have i1:(k:Int)<(l.length:Int):=zD;have d1:decide ((k:Int)<(l.length:Int))=true:=Ad i1;generalize l[k]=y at*;by_cases he:y=x
   ·have d2:(x==y)=true:=beq_iff_eq.2 he.symm
    have hff:Hid (l.contains x=true):=hid (by rw[hf.out,hst.out,Ad he];rfl);clear he;go_wp2_with fail;go_ret;exact⟨⟨(k:Int),rfl,by rw[hff.out];exact Ad (by omega)⟩,hb⟩
   ·have d2:(x==y)=false:=beq_eq_false_iff_ne.2 (fun e=>he e.symm)
    have hff:Hid (l.contains x=(l.drop (k+1)).contains x):=hid (by rw[hf.out,hst.out,Ae he];rfl);clear he;go_wp2_with fail;go_roundw
    case rel=>exact ⟨k+1,zD,zV,hff,hb⟩
    case measure=>(simp[intOf];try omega)
  ·obtain rfl:k=l.length:=by omega
   have d1:decide ((l.length:Int)<(l.length:Int))=false:=Ae zD;have hff:Hid (l.contains x=false):=hid Z9;go_wp2_with fail;go_ret;exact⟨⟨-1,rfl,zM⟩,hb⟩
theorem MZ(l:List Int)(x:Int)(a:Option Addr)(n c:Nat)(w:World)(hl:Bb.r (·<w.heap.size) w [.slice a n c] l):
  Calls Tryz.prog 369 #[.slice a n c,.int .u64 x] w fun r w'=>r=.returned (.bool (l.contains x))∧Below w.heap.size w w':=by
 have HI:=hid (Qw l x a n c w hl);obtain⟨rfl,hm,_,_⟩:=AT hl;generalize l.contains x=hh at*;clear hl;go_enter Tryz.func369,Tryz.ntmps369;go_wp2_with fail;refine HI.out.mono ?_;rintro r w1 ⟨⟨j,rfl,hj⟩,hb1⟩;have HJ:=hid hj;go_wp2_with fail;go_ret;exact⟨by rw[←HJ.out];rfl,hb1⟩
theorem Aad(l:List Int)(f:Int→Bool)(k:Nat)(h:k<l.length):(l.drop k).all f=(f l[k]&&(l.drop (k+1)).all f):=by
 rw[AS h,List.all_cons]
theorem UU(l:List Int)(o:List (List Int))(k:Nat)(h:k<o.length):Dq l (o.drop k)=((l.all fun n=> !o[k].contains n)&&Dq l (o.drop (k+1))):=by
 unfold Dq;rw[AS h,List.all_cons]
theorem Ez(l:List Int)(O:List (List Int))(a:Option Addr)(n c:Nat)(a':Option Addr)(n' c':Nat)(w:World)(hl:Bb.r (·<w.heap.size) w [.slice a n c] l)(ho:EH.r (·<w.heap.size) w [.slice a' n' c'] O):
  Calls Tryz.prog 360 #[.slice a n c,.slice a' n' c'] w fun r w'=>r=.returned (.bool (Dq l O))∧Below w.heap.size w w':=by
 obtain⟨rfl,hm,_,_⟩:=AT hl;obtain⟨rfl,hm',_,_⟩:=AT ho;have HL:=hid hl;have HO:=hid ho;clear hl ho;go_enter Tryz.func360,Tryz.ntmps360;go_wp2_with fail;go_loopw [11] (fun i wr=>∃k:Nat,k≤O.length∧i=.int .i64 k∧Hid (Dq l O=Dq l (O.drop k))∧Below w.heap.size w wr) (fun i _=>O.length-(intOf i).toNat)
 case atStart=>exact ⟨0,Am _,rfl,hid rfl,Below.refl _ _⟩
 case round=>
  obtain⟨k,hk,rfl,hf,hb⟩:=hrel;by_cases hlt:k<O.length
  ·obtain⟨b,o,hA,hbb,ak,ck,x0,xl⟩:=GQ (lift HO.out hb) hlt
   subst hA;have hst:=hid (UU l O k hlt);have HX:=hid xl;have HB:=hid hb;have i1:(k:Int)<(O.length:Int):=zD;have d1:decide ((k:Int)<(O.length:Int))=true:=Ad i1;generalize O[k]=X at*;clear xl hb;obtain⟨wo,hwo⟩:∃wo:World,wo=wr:=⟨_,rfl⟩;subst hwo;go_wp2_with fail;go_loopw [17] (fun i wr=>∃j:Nat,j≤l.length∧i=.int .i64 j∧Hid ((l.all fun n=> !X.contains n)=(l.drop j).all fun n=> !X.contains n)∧Below wo.heap.size wo wr) (fun i _=>l.length-(intOf i).toNat)
   case atStart=>exact ⟨0,Am _,rfl,hid rfl,Below.refl _ _⟩
   case round=>
    obtain⟨j,hj,rfl,hg,hbj⟩:=hrel;have hbw:=HB.out.trans (hbj.mono HB.out.size);have HBW:=hid hbw;by_cases hjl:j<l.length
    ·obtain⟨b2,o2,hA2,hbb2,y0,hy0,hy1⟩:=Dv (lift HL.out hbw) hjl
     subst hA2;have hsj:=hid (Aad l (fun n=> !X.contains n) j hjl);have HCT:=hid (fun y=>MZ X y ak _ ck wr (lift HX.out hbj));have j1:(j:Int)<(l.length:Int):=zD;have e1:decide ((j:Int)<(l.length:Int))=true:=Ad j1;generalize l[j]=y at*;have hct:=HCT.out y;by_cases hc:X.contains y=true
     ·rw[hc] at hct
      have HC:=hid hct;have hff:Hid (Dq l O=false):=hid (by rw[hf.out,hst.out,hg.out,hsj.out];simp only[hc,Bool.not_true,IL]);clear hc hct hbw hbj HCT;go_wp2_with fail;refine HC.out.mono ?_;rintro r w3 ⟨rfl,hb3⟩;have hbe:=Af hb3 HBW.out;go_wp2_with fail;go_ret;exact⟨zM,hbe⟩
     ·have hc':=eq_false_of_ne_true hc
      rw[hc'] at hct;have HC:=hid hct;have hgg:Hid ((l.all fun n=> !X.contains n)=(l.drop (j+1)).all fun n=> !X.contains n):=hid (by rw[hg.out,hsj.out];simp only[hc',Bool.not_false,BY]);have HBJ:=hid hbj;clear hc hc' hct hbw hbj HCT;go_wp2_with fail;refine HC.out.mono ?_;rintro r w3 ⟨rfl,hb3⟩;have hbe:=Af hb3 HBJ.out;go_wp2_with fail;go_roundw
      case rel=>exact ⟨j+1,zD,zV,hgg,hbe⟩
      case measure=>(simp[intOf];try omega)
    ·obtain rfl:j=l.length:=by omega
     have e1:decide ((l.length:Int)<(l.length:Int))=false:=Ae zD;have hff:Hid (Dq l O=Dq l (O.drop (k+1))):=hid (by rw[hf.out,hst.out,hg.out,GM];rfl);clear hbj hbw;go_wp2_with fail;go_roundw
     case rel=>exact ⟨k+1,zD,zV,hff,HBW.out⟩
     case measure=>(simp[intOf];try omega)
  ·obtain rfl:k=O.length:=by omega
   have d1:decide ((O.length:Int)<(O.length:Int))=false:=Ae zD;have hff:Hid (Dq l O=true):=hid Z9;go_wp2_with fail;go_ret;exact⟨zM,hb⟩
theorem Ng(l:List Int)(h:1≤l.length):l.getLastD 0=l[l.length-1]:=by
 rw[List.getLastD_eq_getLast?,List.getLast?_eq_getElem?,AJ zD];rfl
theorem FO(l:List Int)(a:Option Addr)(n c:Nat)(w:World)(hl:Bb.r (·<w.heap.size) w [.slice a n c] l):
  Calls Tryz.prog 359 #[.slice a n c] w fun r w'=>r=.returned (.bool (Dx l))∧Below w.heap.size w w':=by
 obtain⟨rfl,hm,_,_⟩:=AT hl;have HR:=LB l a _ c w hl;have hnr:Dx l=(decide (1≤l.length∧l.length≤8)&&(Bj l&&decide (l.getLastD 0≤4294967295))):=rfl;by_cases h1:1≤l.length
 ·have d1:decide ((1:Int)≤(l.length:Int))=true:=Ad zD
  by_cases h2:l.length≤8
  ·have d2:decide ((l.length:Int)≤8)=true:=Ad zD
   rw[Ad (⟨h1,h2⟩:1≤l.length∧l.length≤8),BY,Ng l h1] at hnr;obtain⟨b,o,hA,hbb,x0,hx0,hx1⟩:=Dv hl (i:=l.length-1) zD;subst hA;obtain⟨m,hm⟩:∃m,l.length=m+1:=⟨l.length-1,zD⟩;simp only[hm,Ft] at hnr x0 hx0 hx1 HR d1 d2 ⊢;have HNR:=hid hnr;generalize l[m]'zD=y at*;generalize Bj l=R at*;generalize Dx l=NR at*;have q1:(0:Int)≤(m:Int)+1-1:=zD;have HRR:=hid HR;have hmm:m≤7:=zD;clear hl HR hnr h1 h2 hm;cases R
   ·have hff:Hid (NR=false):=hid (by rw[HNR.out];rfl)
    go_enter Tryz.func359,Tryz.ntmps359;go_wp2_with fail;refine HRR.out.mono ?_;rintro r w1 ⟨rfl,hb1⟩;go_wp2_with fail;go_ret;exact⟨zM,hb1⟩
   ·have hff:Hid (NR=decide (y≤4294967295)):=hid (by rw[HNR.out];rfl)
    go_enter Tryz.func359,Tryz.ntmps359;go_wp2_with fail;refine HRR.out.mono ?_;rintro r w1 ⟨rfl,hb1⟩;have X0:=(hb1.cell (p:=⟨b,o+m,none⟩) hbb).trans x0;clear x0;go_wp2_with fail;go_ret;exact⟨zM,hb1⟩
  ·have d2:decide ((l.length:Int)≤8)=false:=Ae zD
   have hff:Hid (Dx l=false):=hid (by rw[hnr,Ae (fun h=>h2 h.2:¬(1≤l.length∧l.length≤8))];rfl);clear hl HR hnr h1 h2;go_enter Tryz.func359,Tryz.ntmps359;go_wp2_with fail;go_ret;exact⟨zM,Below.refl _ _⟩
 ·have d1:decide ((1:Int)≤(l.length:Int))=false:=Ae zD
  have hff:Hid (Dx l=false):=hid (by rw[hnr,Ae (fun h=>h1 h.1:¬(1≤l.length∧l.length≤8))];rfl);clear hl HR hnr h1;go_enter Tryz.func359,Tryz.ntmps359;go_wp2_with fail;go_ret;exact⟨zM,Below.refl _ _⟩
theorem VO{av:Option Addr}{cv m:Nat}{J:List Int}(h:W.ownsRow base 36 1 (.slice av J.length cv) J.length (BS J))(hx:∀x∈J,0≤x∧x≤18446744073709551615)(hm:J.length=m+1):∃b o,av=some ⟨b,o,none⟩∧W.cell? ⟨b,o+m,none⟩=some (.int .u64 (J.getLastD 0)):=by
 obtain⟨b,o,e,_,hc,_⟩:=Dv (FA hx rfl h) (i:=m) zD;refine⟨b,o,e,?_⟩;rw[hc,Ng J zD];simp only[hm,Ft]
theorem Ul{J:List Int}(hx:∀x∈J,0≤x∧x≤18446744073709551615)(h:J≠[]):0≤J.getLastD 0∧J.getLastD 0≤18446744073709551615:=by
 have hl:1≤J.length:=by cases J<;>simp_all
 rw[Ng J hl];exact hx _ (Bi _)
theorem Ri(w:World){g:Nat}{B:List UInt8}{a:Option Addr}{s:Rs}(h:A6 w g B a s)(hB:B.length≤1000000000)(N:Nat)(hN:N≤1000):
  Calls Tryz.prog 313 #[.pointer (some ⟨g,0,none⟩),.int .i64 (N:Int)] w fun r w'=>∃v,r=.returned v∧Bb.r (fun q=>w.heap.size≤q∧q<w'.heap.size) w' [v] (Rs.EA B N s []).2∧AG w g B a (Rs.EA B N s []).1 w':=by
 obtain⟨i0,hi,hz0,hz1,hz2⟩:=A3 Ok;have hlt:=h.blk.lt;have HIN:=hid (DC.refl h);have hmx:max (N:Int) 0=(N:Int):=zD;have hmx2:(if (N:Int)<0 then (0:Int) else (N:Int))=(N:Int):=ZY;clear h;go_enter Tryz.func313,Tryz.ntmps313;go_wp2_with fail;go_loopw [5,12] (fun v i wr=>∃(J:List Int) (st:Rs),J.length≤N∧i=.int .i64 (J.length:Int)∧wr.ownsRow w.heap.size 36 1 v J.length (BS J)∧Hid (∀x∈J,0≤x∧x≤18446744073709551615)∧Hid (DC w wr g B a st)∧Hid (Rs.EA B N s []=Rs.EA B (N-J.length) st J)) (fun _ i _=>N-(intOf i).toNat)
 case atStart=>exact ⟨[],s,Am _,rfl,⟨rfl,.inl ⟨rfl,rfl⟩⟩,hid zN,HIN,hid rfl⟩
 case round=>
  obtain⟨J,st,hk,rfl,hown,hJb,hin,hsp⟩:=hrel;obtain⟨av,cv,rfl⟩:=AD hown;have hJ9:J.length≤1000:=zD;have HJB:=hid hJb.out;rcases Bh J.length N with hlt2 | hge
  ·have HAT:=hid (Cv wr hin.out.rd)
   have HVR:=hid (Da wr hin.out.rd zD);have hx:=Rs.DL (B:=B) (s:=st);have hxb:=Rs.K9 (B:=B) (s:=st);have hstep:Rs.EA B (N-J.length) st J=(if (st.num B).1.k=0 then (if J≠[]∧18446744073709551615-J.getLastD 0≤((st.num B).2:Int) then ((st.num B).1.fail 13 st.p,[]) else Rs.EA B (N-(J.length+1)) (st.num B).1 (J++[if J=[] then ((st.num B).2:Int) else ((st.num B).2:Int)+(J.getLastD 0+1)])) else ((st.num B).1,[])):=by
    rw[show N-J.length=(N-(J.length+1))+1 by omega];rfl
   have HO:=hid hown;have i1:(J.length:Int)<(N:Int):=zD;have d1:decide ((J.length:Int)<(N:Int))=true:=Ad i1;have d1':decide (J.length<N)=true:=Ad hlt2;generalize st.num B=R at*;obtain⟨st1,x⟩:=R;dsimp only at*;have HBAD:=hid hxb;have hx0':(0:Int)≤(x:Int):=zD;have hx1':(x:Int)≤18446744073709551615:=zD;clear hown hxb;by_cases hnil:J=[]
   ·have dz:decide ((0:Int)<(J.length:Int))=false:=by rw[hnil];rfl
    have dz2:decide (0<J.length)=false:=by rw[hnil];rfl
    by_cases hk1:st1.k=0
    ·rw[Ai hk1] at hstep
     have hk1':decide (st1.k=0)=true:=Ad hk1;have HSP:Hid (Rs.EA B N s []=Rs.EA B (N-(J.length+1)) st1 (J++[(x:Int)])):=hid (hsp.out.trans (by rw[hstep,Ak (fun h=>h.1 hnil),Ai hnil]));clear hstep hsp hk1 hnil;go_wp2_with fail;refine HAT.out.mono ?_;rintro r w2 ⟨rfl,rfl⟩;go_wp2_with fail;refine HVR.out.mono ?_;rintro r w3 ⟨rfl,hst3⟩;have HIN3:=hid (hin.out.step hst3);have HO3:=hid (GD HO.out hlt hst3.2);have hg:=AL w3 HIN3.out.rd;rw[hk1'] at hg;have HG:=hid hg;clear hst3 hg;go_wp2_with fail;refine HG.out.mono ?_;rintro r w4 ⟨rfl,hb4⟩;have HIN4:=hid (HIN3.out.step (AG.later HIN3.out.rd hb4));have HO4:=hid (AF HO3.out hb4);have hsz4:=HIN4.out.tch.size;clear hb4;go_wp2_with (at_builtin;go_loud (refine Ar rfl _ _ _ rfl w.heap.size 36 i0 (.int .u64 0) 1 8 C7 hi hz0 hz1 hz2 rfl zO (.slice av J.length cv) J.length _ rfl (AF HO4.out zA) (some ⟨w4.heap.size,0,none⟩) 1 1 [.int .u64 ((x:Int))] rfl (By _ 36 _ rfl zN rfl) ZO zK zD zH ?_;intro v' w5 hown5 hgrow5 hat5;obtain⟨a5,c5,rfl⟩:=AD hown5;have HO5:=hid hown5;have hb5:Below w.heap.size w4 w5:=(Below.grown ((by (repeat (first | with_reducible exact Below.refl _ _ | with_reducible assumption | (with_reducible refine AH ?_ _) | (with_reducible refine Below.setCell ?_ zF _) | (with_reducible refine Below.drew ?_) | (with_reducible refine below_drewN ?_ _) | (refine Af zG ?_))):Below w4.heap.size w4 _).mono hsz4) hgrow5 zH (fun g e=>(HO4.out.lt g e).1));clear hown5 hgrow5 hat5))
     have HIN5:=hid (HIN4.out.row hb5);have ho5:w5.ownsRow w.heap.size 36 1 (.slice a5 (J.length+1) c5) (J++[(x:Int)]).length (BS (J++[(x:Int)])):=by
      have e:BS (J++[(x:Int)])=BS J++[.int .u64 ((x:Int))]:=by simp[BS]
      rw[e,Ag];exact HO5.out
     have HO6:=hid ho5;have HB6:Hid (∀y∈J++[(x:Int)],0≤y∧y≤18446744073709551615):=hid (fun y hy=>by
      rw[EO,De] at hy;rcases hy with hy | rfl
      ·exact HJB.out y hy
      ·omega)
     clear ho5;go_roundw
     case rel=>exact ⟨J++[(x:Int)],st1,zAt,by rw[Ag];go_num,HO6.out,HB6,HIN5,hid (by rw[Ag];exact HSP.out)⟩
     case measure=>(simp[intOf];try omega)
    ·rw[Ak hk1] at hstep
     have hk1':decide (st1.k=0)=false:=Ae hk1;have HSP:=hid (hsp.out.trans hstep);clear hstep hsp;clear hk1 hnil;go_wp2_with fail;refine HAT.out.mono ?_;rintro r w2 ⟨rfl,rfl⟩;go_wp2_with fail;refine HVR.out.mono ?_;rintro r w3 ⟨rfl,hst3⟩;have HIN3:=hid (hin.out.step hst3);have HO3:=hid (GD HO.out hlt hst3.2);have hg:=AL w3 HIN3.out.rd;rw[hk1'] at hg;have HG:=hid hg;clear hst3 hg;go_wp2_with fail;refine HG.out.mono ?_;rintro r w5 ⟨rfl,hb5⟩;have HE:=hid (HIN3.out.to.then hb5);go_wp2_with fail;go_ret;rw[HSP.out];exact⟨_,rfl,Bt (xs:=[]) rfl (An _) (Am _) (.inl rfl),HE.out⟩
   ·obtain⟨hq0,hq1⟩:=Ul HJB.out hnil
    obtain⟨m,hm⟩:∃m,J.length=m+1:=⟨J.length-1,by have:J.length≠0:=fun e=>hnil (List.length_eq_zero_iff.1 e);omega⟩;have HM:=hid hm;have dz:decide ((0:Int)<(J.length:Int))=true:=Ad zD;have dz2:decide (0<J.length)=true:=Ad zD;have j1:(J.length:Int)-1=(m:Int):=zD;have j2:(0:Int)≤(J.length:Int)-1:=zD;have j3:(m:Int)<(J.length:Int):=zD;have HUL:=hid (fun (W:World) (h:W.ownsRow w.heap.size 36 1 (.slice av J.length cv) J.length (BS J))=>VO h HJB.out hm);generalize J.getLastD 0=q at*;by_cases hk1:st1.k=0
    ·rw[Ai hk1] at hstep
     have hk1':decide (st1.k=0)=true:=Ad hk1;by_cases hov:18446744073709551615-q≤(x:Int)
     ·rw[Ai ⟨hnil,hov⟩] at hstep
      have hfk:(st1.fail 13 st.p).k≠0:=Rs.BE zD;have HSP:=hid (hsp.out.trans hstep);clear hstep hsp;clear hk1 hk1' hnil hm;by_cases hqm:q=18446744073709551615
      ·subst hqm
       go_wp2_with fail;refine HAT.out.mono ?_;rintro r w2 ⟨rfl,rfl⟩;go_wp2_with fail;refine HVR.out.mono ?_;rintro r w3 ⟨rfl,hst3⟩;have HIN3:=hid (hin.out.step hst3);have HO3:=hid (GD HO.out hlt hst3.2);obtain⟨b,o,rfl,hc3⟩:=HUL.out _ HO3.out;clear HUL hst3;go_wp2_with fail;refine (BP w3 HIN3.out.rd 13 (st.p:Int) zD).mono ?_;rintro r w4 ⟨rfl,hst4⟩;have HIN4:=hid (HIN3.out.step hst4);have hg:=AL w4 HIN4.out.rd;rw[Ae hfk] at hg;have HG:=hid hg;clear hst4 hg;go_wp2_with fail;refine HG.out.mono ?_;rintro r w5 ⟨rfl,hb5⟩;have HE:=hid (HIN4.out.to.then hb5);go_wp2_with fail;go_ret;rw[HSP.out];exact⟨_,rfl,Bt (xs:=[]) rfl (An _) (Am _) (.inl rfl),HE.out⟩
      ·have w1':q+1≤18446744073709551615:=by omega
       have w0':0≤q+1:=zD;have e0:(q+1==0)=false:=beq_eq_false_iff_ne.2 zD;obtain⟨Y,hY⟩:∃Y,((x:Int)+(q+1))%18446744073709551616=Y:=⟨_,rfl⟩;have hY2:IntKind.u64.wrap ((x:Int)+(q+1))=Y:=by rw[Jn];exact hY
       have dY:decide (Y<(x:Int))=true:=Ad zD;go_wp2_with fail;refine HAT.out.mono ?_;rintro r w2 ⟨rfl,rfl⟩;go_wp2_with fail;refine HVR.out.mono ?_;rintro r w3 ⟨rfl,hst3⟩;have HIN3:=hid (hin.out.step hst3);have HO3:=hid (GD HO.out hlt hst3.2);obtain⟨b,o,rfl,hc3⟩:=HUL.out _ HO3.out;clear HUL hst3;go_wp2_with fail;refine (BP w3 HIN3.out.rd 13 (st.p:Int) zD).mono ?_;rintro r w4 ⟨rfl,hst4⟩;have HIN4:=hid (HIN3.out.step hst4);have hg:=AL w4 HIN4.out.rd;rw[Ae hfk] at hg;have HG:=hid hg;clear hst4 hg;go_wp2_with fail;refine HG.out.mono ?_;rintro r w5 ⟨rfl,hb5⟩;have HE:=hid (HIN4.out.to.then hb5);go_wp2_with fail;go_ret;rw[HSP.out];exact⟨_,rfl,Bt (xs:=[]) rfl (An _) (Am _) (.inl rfl),HE.out⟩
     ·rw[Ak (fun h=>hov h.2),Ak hnil] at hstep
      have w1':q+1≤18446744073709551615:=zD;have w0':0≤q+1:=zD;have w2':(x:Int)+(q+1)≤18446744073709551615:=zD;have w3':0≤(x:Int)+(q+1):=zD;have e0:(q+1==0)=false:=beq_eq_false_iff_ne.2 zD;have dY:decide ((x:Int)+(q+1)<(x:Int))=false:=Ae zD;have HSP:=hid (hsp.out.trans hstep);clear hstep hsp;clear hk1 hnil hm;go_wp2_with fail;refine HAT.out.mono ?_;rintro r w2 ⟨rfl,rfl⟩;go_wp2_with fail;refine HVR.out.mono ?_;rintro r w3 ⟨rfl,hst3⟩;have HIN3:=hid (hin.out.step hst3);have HO3:=hid (GD HO.out hlt hst3.2);obtain⟨b,o,rfl,hc3⟩:=HUL.out _ HO3.out;have hg:=AL w3 HIN3.out.rd;rw[hk1'] at hg;have HG:=hid hg;clear hst3 hg;go_wp2_with fail;clear hc3 HUL;refine HG.out.mono ?_;rintro r w4 ⟨rfl,hb4⟩;have HIN4:=hid (HIN3.out.step (AG.later HIN3.out.rd hb4));have HO4:=hid (AF HO3.out hb4);have hsz4:=HIN4.out.tch.size;clear hb4;go_wp2_with (at_builtin;go_loud (refine Ar rfl _ _ _ rfl w.heap.size 36 i0 (.int .u64 0) 1 8 C7 hi hz0 hz1 hz2 rfl zO (.slice (some ⟨b,o,none⟩) J.length cv) J.length _ rfl (AF HO4.out zA) (some ⟨w4.heap.size,0,none⟩) 1 1 [.int .u64 ((x:Int)+(q+1))] rfl (By _ 36 _ rfl zN rfl) ZO zK zD zH ?_;intro v' w5 hown5 hgrow5 hat5;obtain⟨a5,c5,rfl⟩:=AD hown5;have HO5:=hid hown5;have hb5:Below w.heap.size w4 w5:=(Below.grown ((by (repeat (first | with_reducible exact Below.refl _ _ | with_reducible assumption | (with_reducible refine AH ?_ _) | (with_reducible refine Below.setCell ?_ zF _) | (with_reducible refine Below.drew ?_) | (with_reducible refine below_drewN ?_ _) | (refine Af zG ?_))):Below w4.heap.size w4 _).mono hsz4) hgrow5 zH (fun g e=>(HO4.out.lt g e).1));clear hown5 hgrow5 hat5))
      have HIN5:=hid (HIN4.out.row hb5);have ho5:w5.ownsRow w.heap.size 36 1 (.slice a5 (J.length+1) c5) (J++[(x:Int)+(q+1)]).length (BS (J++[(x:Int)+(q+1)])):=by
       have e:BS (J++[(x:Int)+(q+1)])=BS J++[.int .u64 ((x:Int)+(q+1))]:=by simp[BS]
       rw[e,Ag];exact HO5.out
      have HO6:=hid ho5;have HB6:Hid (∀y∈J++[(x:Int)+(q+1)],0≤y∧y≤18446744073709551615):=hid (fun y hy=>by
       rw[EO,De] at hy;rcases hy with hy | rfl
       ·exact HJB.out y hy
       ·omega)
      clear ho5;go_roundw
      case rel=>exact ⟨J++[(x:Int)+(q+1)],st1,zAt,by rw[Ag];go_num,HO6.out,HB6,HIN5,hid (by rw[Ag];exact HSP.out)⟩
      case measure=>(simp[intOf];try omega)
    ·rw[Ak hk1] at hstep
     have hk1':decide (st1.k=0)=false:=Ae hk1;have hx0:=HBAD.out hk1;subst hx0;have hfid:st1.fail 13 st.p=st1:=Rs.Cb hk1;have HSP:=hid (hsp.out.trans hstep);clear hstep hsp;clear hk1 hnil hm;by_cases hqm:q=18446744073709551615
     ·subst hqm
      go_wp2_with fail;refine HAT.out.mono ?_;rintro r w2 ⟨rfl,rfl⟩;go_wp2_with fail;refine HVR.out.mono ?_;rintro r w3 ⟨rfl,hst3⟩;have HIN3:=hid (hin.out.step hst3);have HO3:=hid (GD HO.out hlt hst3.2);obtain⟨b,o,rfl,hc3⟩:=HUL.out _ HO3.out;clear HUL hst3;go_wp2_with fail;refine (BP w3 HIN3.out.rd 13 (st.p:Int) zD).mono ?_;rintro r w4 ⟨rfl,hst4⟩;rw[hfid] at hst4;have HIN4:=hid (HIN3.out.step hst4);have hg:=AL w4 HIN4.out.rd;rw[hk1'] at hg;have HG:=hid hg;clear hst4 hg;go_wp2_with fail;refine HG.out.mono ?_;rintro r w5 ⟨rfl,hb5⟩;have HE:=hid (HIN4.out.to.then hb5);go_wp2_with fail;go_ret;rw[HSP.out];exact⟨_,rfl,Bt (xs:=[]) rfl (An _) (Am _) (.inl rfl),HE.out⟩
     ·have w1':q+1≤18446744073709551615:=by omega
      have w0':0≤q+1:=zD;have e0:(q+1==0)=false:=beq_eq_false_iff_ne.2 zD;have dY:decide (q+1<0)=false:=Ae zD;have dY2:decide (((0:Nat):Int)+(q+1)<((0:Nat):Int))=false:=Ae zD;have dY3:decide ((0:Int)+(q+1)<0)=false:=Ae zD;go_wp2_with fail;refine HAT.out.mono ?_;rintro r w2 ⟨rfl,rfl⟩;go_wp2_with fail;refine HVR.out.mono ?_;rintro r w3 ⟨rfl,hst3⟩;have HIN3:=hid (hin.out.step hst3);have HO3:=hid (GD HO.out hlt hst3.2);obtain⟨b,o,rfl,hc3⟩:=HUL.out _ HO3.out;clear HUL;have hg:=AL w3 HIN3.out.rd;rw[hk1'] at hg;have HG:=hid hg;clear hst3 hg;go_wp2_with fail;refine HG.out.mono ?_;rintro r w5 ⟨rfl,hb5⟩;have HE:=hid (HIN3.out.to.then hb5);go_wp2_with fail;go_ret;rw[HSP.out];exact⟨_,rfl,Bt (xs:=[]) rfl (An _) (Am _) (.inl rfl),HE.out⟩
  ·have hJN:J.length=N:=by omega
   have d1:decide ((J.length:Int)<(N:Int))=false:=Ae zD;have d1':decide (J.length<N)=false:=Ae zD;have HSP:Hid (Rs.EA B N s []=(st,J)):=hid (by rw[hsp.out,hJN,Lx];rfl);have HV:=hid (FA hJb.out rfl hown);have HE:=hid hin.out.to;clear hown hsp hJN hk hge;go_wp2_with fail;go_ret;rw[HSP.out];exact⟨_,rfl,HV.out,HE.out⟩
theorem Rs.Mf(h:s.ok B.length):(s.ep B).1.ok B.length:=by
 have h2:=Rs.Dn (B:=B) h;unfold Rs.ep;split
 ·split
  ·exact h2
  ·exact Rs.Co h2 zD
 ·exact h2
theorem Rs.AbY(h:s.ok B.length):(s.tl B).1.ok B.length:=by
 have h2:=Rs.Dn (B:=B) h;unfold Rs.tl;split
 ·split
  ·exact h2
  ·exact Rs.Co h2 zD
 ·exact h2
theorem Rs.Vf(h:s.ok B.length):(s.seal_ B).1.ok B.length:=by
 unfold Rs.seal_;dsimp only;split<;>exact Rs.AbY (Rs.QP (Rs.Mf h))
abbrev XA(s:Jj):Value:=.agg #[.int .u64 s.epoch,.int .u64 s.node,.int .u64 s.tail]
theorem V3(w:World){g:Nat}{B:List UInt8}{a:Option Addr}{s:Rs}(h:A6 w g B a s)(hB:B.length≤1000000000):
  Calls Tryz.prog 317 #[.pointer (some ⟨g,0,none⟩)] w fun r w'=>r=.returned (XA (s.seal_ B).2)∧AG w g B a (s.seal_ B).1 w':=by
 have hlt:=h.blk.lt;have HIN:=hid (DC.refl h);have HEP:=hid (fun (W:World) (t:Rs) (hW:A6 W g B a t)=>KJ W hW hB);have HMO:=hid (fun (W:World) (t:Rs) (hW:A6 W g B a t)=>Mn W hW zD 4294967295);have HTL:=hid (fun (W:World) (t:Rs) (hW:A6 W g B a t)=>Ow W hW hB);have HGD:=hid (fun (W:World) (t:Rs) (hW:A6 W g B a t)=>AL W hW);clear h;unfold Rs.seal_ XA;dsimp only;have HEP:=hid (fun (W:World) (hW:A6 W g B a s)=>HEP.out W s hW);generalize s.ep B=R at*;obtain⟨s1,e⟩:=R;dsimp only at*;have HMO:=hid (fun (W:World) (hW:A6 W g B a s1)=>HMO.out W s1 hW);generalize s1.most B 4294967295=R at*;obtain⟨s2,n⟩:=R;dsimp only at*;have HTL:=hid (fun (W:World) (hW:A6 W g B a s2)=>HTL.out W s2 hW);generalize s2.tl B=R at*;obtain⟨s3,t⟩:=R;dsimp only at*;have HGD:=hid (fun (W:World) (hW:A6 W g B a s3)=>HGD.out W s3 hW);by_cases hk:s3.k=0
 ·rw[Ai hk]
  rw[Ad hk] at HGD;clear hk;go_enter Tryz.func317,Tryz.ntmps317;go_wp2_with fail;have hb0:=hid (by (repeat (first | with_reducible exact Below.refl _ _ | with_reducible assumption | (with_reducible refine AH ?_ _) | (with_reducible refine Below.setCell ?_ zF _) | (with_reducible refine Below.drew ?_) | (with_reducible refine below_drewN ?_ _) | (refine Af zG ?_))):Below w.heap.size w ((w.alloc (.cells #[.int .u64 0,.int .u64 0,.int .u64 0] 40)).alloc (.cells #[.int .u64 0,.int .u64 0,.int .u64 0] 40)));have HIN0:=hid (HIN.out.row hb0.out);have R0:Blk ((w.alloc (.cells #[.int .u64 0,.int .u64 0,.int .u64 0] 40)).alloc (.cells #[.int .u64 0,.int .u64 0,.int .u64 0] 40)) w.heap.size 40 #[.int .u64 0,.int .u64 0,.int .u64 0]:=zC;have M0:Blk ((w.alloc (.cells #[.int .u64 0,.int .u64 0,.int .u64 0] 40)).alloc (.cells #[.int .u64 0,.int .u64 0,.int .u64 0] 40)) (w.heap.size+1) 40 #[.int .u64 0,.int .u64 0,.int .u64 0]:=zC;refine (HEP.out _ HIN0.out.rd).mono ?_;rintro r w1 ⟨rfl,hst⟩;have HIN1:=hid (HIN0.out.step hst);have R1:=R0.tch hst.2 zD;have M1:=M0.tch hst.2 zD;obtain⟨x0,x1,x2,f0,f1,f2,l0⟩:=FW R1;obtain⟨y0,y1,y2,g0,g1,g2,l1⟩:=FW M1;have HR:=hid R1;have HM:=hid M1;clear hst R0 M0 R1 M1;go_wp2_with fail;have HIN1:=hid (HIN1.out.row ((Below.refl w.heap.size w1).setCell (p:=⟨w.heap.size+1,0,none⟩) zJ (.int .u64 (e:Int))));have R1:=(HR.out).far (p:=⟨w.heap.size+1,0,none⟩) zJ (.int .u64 (e:Int));have M1:=(HM.out).set 0 (.int .u64 (e:Int));have HR:=hid R1;have HM:=hid M1;clear x0 x1 x2 f0 f1 f2 l0 y0 y1 y2 g0 g1 g2 l1 R1 M1;refine (HMO.out _ HIN1.out.rd).mono ?_;rintro r w2 ⟨rfl,hst⟩;have HIN1:=hid (HIN1.out.step hst);have R1:=HR.out.tch hst.2 zD;have M1:=HM.out.tch hst.2 zD;simp only[Aa,Ab,Ac] at M1;obtain⟨x0,x1,x2,f0,f1,f2,l0⟩:=FW R1;obtain⟨y0,y1,y2,g0,g1,g2,l1⟩:=FW M1;have HR:=hid R1;have HM:=hid M1;clear hst R1 M1;go_wp2_with fail;have HIN1:=hid (HIN1.out.row ((Below.refl w.heap.size w2).setCell (p:=⟨w.heap.size+1,1,none⟩) zJ (.int .u64 (n:Int))));have R1:=(HR.out).far (p:=⟨w.heap.size+1,1,none⟩) zJ (.int .u64 (n:Int));have M1:=(HM.out).set 1 (.int .u64 (n:Int));have HR:=hid R1;have HM:=hid M1;clear x0 x1 x2 f0 f1 f2 l0 y0 y1 y2 g0 g1 g2 l1 R1 M1;refine (HTL.out _ HIN1.out.rd).mono ?_;rintro r w3 ⟨rfl,hst⟩;have HIN1:=hid (HIN1.out.step hst);have R1:=HR.out.tch hst.2 zD;have M1:=HM.out.tch hst.2 zD;simp only[Aa,Ab,Ac] at M1;obtain⟨x0,x1,x2,f0,f1,f2,l0⟩:=FW R1;obtain⟨y0,y1,y2,g0,g1,g2,l1⟩:=FW M1;have HR:=hid R1;have HM:=hid M1;clear hst R1 M1;go_wp2_with fail;have HIN1:=hid (HIN1.out.row ((Below.refl w.heap.size w3).setCell (p:=⟨w.heap.size+1,2,none⟩) zJ (.int .u64 (t:Int))));have R1:=(HR.out).far (p:=⟨w.heap.size+1,2,none⟩) zJ (.int .u64 (t:Int));have M1:=(HM.out).set 2 (.int .u64 (t:Int));have HR:=hid R1;have HM:=hid M1;clear x0 x1 x2 f0 f1 f2 l0 y0 y1 y2 g0 g1 g2 l1 R1 M1;refine (HGD.out _ HIN1.out.rd).mono ?_;rintro r w4 ⟨rfl,hb4⟩;have HIN2:=hid (HIN1.out.row (hb4.mono HIN1.out.tch.size));have R1:=HR.out.later hb4;have M1:=HM.out.later hb4;simp only[Aa,Ab,Ac] at M1;obtain⟨x0,x1,x2,f0,f1,f2,l0⟩:=FW R1;obtain⟨y0,y1,y2,g0,g1,g2,l1⟩:=FW M1;clear hb4 R1 M1;go_wp2;exact Al (v:=.agg #[.int .u64 (e:Int),.int .u64 (n:Int),.int .u64 (t:Int)]) zBu rfl ⟨rfl,(HIN2.out.row ((((Below.refl w.heap.size w4).setCell (p:=⟨w.heap.size,0,none⟩) zJ (.int .u64 (e:Int))).setCell (p:=⟨w.heap.size,1,none⟩) zJ (.int .u64 (n:Int))).setCell (p:=⟨w.heap.size,2,none⟩) zJ (.int .u64 (t:Int)))).to⟩
 ·rw[Ak hk]
  rw[Ae hk] at HGD;clear hk;go_enter Tryz.func317,Tryz.ntmps317;go_wp2_with fail;have hb0:=hid (by (repeat (first | with_reducible exact Below.refl _ _ | with_reducible assumption | (with_reducible refine AH ?_ _) | (with_reducible refine Below.setCell ?_ zF _) | (with_reducible refine Below.drew ?_) | (with_reducible refine below_drewN ?_ _) | (refine Af zG ?_))):Below w.heap.size w ((w.alloc (.cells #[.int .u64 0,.int .u64 0,.int .u64 0] 40)).alloc (.cells #[.int .u64 0,.int .u64 0,.int .u64 0] 40)));have HIN0:=hid (HIN.out.row hb0.out);have R0:Blk ((w.alloc (.cells #[.int .u64 0,.int .u64 0,.int .u64 0] 40)).alloc (.cells #[.int .u64 0,.int .u64 0,.int .u64 0] 40)) w.heap.size 40 #[.int .u64 0,.int .u64 0,.int .u64 0]:=zC;have M0:Blk ((w.alloc (.cells #[.int .u64 0,.int .u64 0,.int .u64 0] 40)).alloc (.cells #[.int .u64 0,.int .u64 0,.int .u64 0] 40)) (w.heap.size+1) 40 #[.int .u64 0,.int .u64 0,.int .u64 0]:=zC;refine (HEP.out _ HIN0.out.rd).mono ?_;rintro r w1 ⟨rfl,hst⟩;have HIN1:=hid (HIN0.out.step hst);have R1:=R0.tch hst.2 zD;have M1:=M0.tch hst.2 zD;obtain⟨x0,x1,x2,f0,f1,f2,l0⟩:=FW R1;obtain⟨y0,y1,y2,g0,g1,g2,l1⟩:=FW M1;have HR:=hid R1;have HM:=hid M1;clear hst R0 M0 R1 M1;go_wp2_with fail;have HIN1:=hid (HIN1.out.row ((Below.refl w.heap.size w1).setCell (p:=⟨w.heap.size+1,0,none⟩) zJ (.int .u64 (e:Int))));have R1:=(HR.out).far (p:=⟨w.heap.size+1,0,none⟩) zJ (.int .u64 (e:Int));have M1:=(HM.out).set 0 (.int .u64 (e:Int));have HR:=hid R1;have HM:=hid M1;clear x0 x1 x2 f0 f1 f2 l0 y0 y1 y2 g0 g1 g2 l1 R1 M1;refine (HMO.out _ HIN1.out.rd).mono ?_;rintro r w2 ⟨rfl,hst⟩;have HIN1:=hid (HIN1.out.step hst);have R1:=HR.out.tch hst.2 zD;have M1:=HM.out.tch hst.2 zD;simp only[Aa,Ab,Ac] at M1;obtain⟨x0,x1,x2,f0,f1,f2,l0⟩:=FW R1;obtain⟨y0,y1,y2,g0,g1,g2,l1⟩:=FW M1;have HR:=hid R1;have HM:=hid M1;clear hst R1 M1;go_wp2_with fail;have HIN1:=hid (HIN1.out.row ((Below.refl w.heap.size w2).setCell (p:=⟨w.heap.size+1,1,none⟩) zJ (.int .u64 (n:Int))));have R1:=(HR.out).far (p:=⟨w.heap.size+1,1,none⟩) zJ (.int .u64 (n:Int));have M1:=(HM.out).set 1 (.int .u64 (n:Int));have HR:=hid R1;have HM:=hid M1;clear x0 x1 x2 f0 f1 f2 l0 y0 y1 y2 g0 g1 g2 l1 R1 M1;refine (HTL.out _ HIN1.out.rd).mono ?_;rintro r w3 ⟨rfl,hst⟩;have HIN1:=hid (HIN1.out.step hst);have R1:=HR.out.tch hst.2 zD;have M1:=HM.out.tch hst.2 zD;simp only[Aa,Ab,Ac] at M1;obtain⟨x0,x1,x2,f0,f1,f2,l0⟩:=FW R1;obtain⟨y0,y1,y2,g0,g1,g2,l1⟩:=FW M1;have HR:=hid R1;have HM:=hid M1;clear hst R1 M1;go_wp2_with fail;have HIN1:=hid (HIN1.out.row ((Below.refl w.heap.size w3).setCell (p:=⟨w.heap.size+1,2,none⟩) zJ (.int .u64 (t:Int))));have R1:=(HR.out).far (p:=⟨w.heap.size+1,2,none⟩) zJ (.int .u64 (t:Int));have M1:=(HM.out).set 2 (.int .u64 (t:Int));have HR:=hid R1;have HM:=hid M1;clear x0 x1 x2 f0 f1 f2 l0 y0 y1 y2 g0 g1 g2 l1 R1 M1;refine (HGD.out _ HIN1.out.rd).mono ?_;rintro r w4 ⟨rfl,hb4⟩;have HIN2:=hid (HIN1.out.row (hb4.mono HIN1.out.tch.size));have R1:=HR.out.later hb4;have M1:=HM.out.later hb4;simp only[Aa,Ab,Ac] at M1;obtain⟨x0,x1,x2,f0,f1,f2,l0⟩:=FW R1;obtain⟨y0,y1,y2,g0,g1,g2,l1⟩:=FW M1;clear hb4 R1 M1;go_wp2;exact Al (v:=.agg #[.int .u64 0,.int .u64 0,.int .u64 0]) zBu rfl ⟨rfl,(HIN2.out.row ((((Below.refl w.heap.size w4).setCell (p:=⟨w.heap.size,0,none⟩) zJ (.int .u64 0)).setCell (p:=⟨w.heap.size,1,none⟩) zJ (.int .u64 0)).setCell (p:=⟨w.heap.size,2,none⟩) zJ (.int .u64 0))).to⟩
theorem Rs.I6{m:Int}(h:s.ok B.length):(s.many B m).1.ok B.length:=by
 have h2:=Rs.FU (B:=B) h (m:=m);unfold Rs.many;dsimp only;split
 ·exact Rs.Co h2 zD
 ·exact h2
theorem Rs.I7{m:Int}:(s.many B m).2≤m.toNat:=Rs.JH
theorem Mt(w:World){g:Nat}{B:List UInt8}{a:Option Addr}{s:Rs}(h:A6 w g B a s)(hB:B.length≤1000000000)(m:Int)(hm: -9223372036854775808≤m∧m≤9223372036854775807):
  Calls Tryz.prog 364 #[.pointer (some ⟨g,0,none⟩),.int .i64 m] w fun r w'=>r=.returned (.int .i64 ((s.many B m).2:Int))∧AG w g B a (s.many B m).1 w':=by
 have HAT:=hid (Cv w h);have HVI:=hid (Ef w h zD m hm);have HIN:=hid (DC.refl h);clear h;unfold Rs.many;generalize s.int B m=R at*;obtain⟨s1,n⟩:=R;dsimp only at*;by_cases hn:n=0
 ·rw[Ai hn]
  subst hn;go_enter Tryz.func364,Tryz.ntmps364;go_wp2_with fail;refine HAT.out.mono ?_;rintro r w1 ⟨rfl,rfl⟩;go_wp2_with fail;refine HVI.out.mono ?_;rintro r w2 ⟨rfl,hst⟩;have HIN2:=hid (HIN.out.step hst);clear hst;go_wp2_with fail;refine (BP w2 HIN2.out.rd 3 (s.p:Int) zD).mono ?_;rintro r w3 ⟨rfl,hst⟩;have HE:=hid (HIN2.out.step hst).to;clear hst;go_wp2;go_ret;exact⟨rfl,HE.out⟩
 ·rw[Ak hn]
  have d0:((n:Int)==0)=false:=beq_eq_false_iff_ne.2 zD;go_enter Tryz.func364,Tryz.ntmps364;go_wp2_with fail;refine HAT.out.mono ?_;rintro r w1 ⟨rfl,rfl⟩;go_wp2_with fail;refine HVI.out.mono ?_;rintro r w2 ⟨rfl,hst⟩;have HIN2:=hid (HIN.out.step hst);clear hst;have HE:=hid HIN2.out.to;go_wp2;go_ret;exact⟨rfl,HE.out⟩
theorem Rs.JF{m:Int}(h:(s.many B m).1.k=0):1≤(s.many B m).2:=by
 unfold Rs.many at*;dsimp only at*;split at h
 ·exact absurd h (Rs.BE zD)
 ·omega
theorem Rs.Ie{out:List Int}(h:s.k≠0):∀n,(Rs.EA B n s out).1.k≠0
 | 0=>h
 | n+1=>by
  unfold Rs.EA;rw[Rs.Ei h,Ak h];exact h
theorem Rs.K4:∀(n:Nat) (s:Rs) (out:List Int),(Rs.EA B n s out).1.k=0→(Rs.EA B n s out).2.length=n+out.length
 | 0,s,out,_=>by simp[Rs.EA]
 | n+1,s,out,h=>by
  unfold Rs.EA at h ⊢;split at h
  ·rename_i h1
   rw[Ai h1];split at h
   ·exact absurd h (Rs.BE zD)
   ·rename_i h2
    rw[Ak h2];rw[Rs.K4 n _ _ h];simp;omega
  ·rename_i h1
   exact absurd h h1
theorem NC(w:World){g:Nat}{B:List UInt8}{a:Option Addr}{s:Rs}(h:A6 w g B a s)(hB:B.length≤1000000000)(O:List (List Int))(ao:Option Addr)(no co:Nat)(ho:EH.r (fun q=>q<w.heap.size∧q≠g) w [.slice ao no co] O):
  Calls Tryz.prog 365 #[.pointer (some ⟨g,0,none⟩),.slice ao no co] w fun r w'=>∃v,r=.returned v∧Bb.r (fun q=>w.heap.size≤q∧q<w'.heap.size) w' [v] (s.Fb B O).2∧AG w g B a (s.Fb B O).1 w':=by
 have hlt:=h.blk.lt;have HIN:=hid (DC.refl h);have HMN:=hid (Mt w h hB 8 zD);have hnl:=Rs.I7 (B:=B) (s:=s) (m:=8);have hnp:=Rs.JF (B:=B) (s:=s) (m:=8);have HO:=hid ho;clear h ho;unfold Rs.Fb;dsimp only;generalize s.many B 8=R at*;obtain⟨s1,n⟩:=R;dsimp only at*;have HZR:=hid (fun (W:World) (hW:A6 W g B a s1)=>Ri W hW hB n zD);have hbd:=fun hk=>Rs.Ie (B:=B) (s:=s1) (out:=[]) hk n;have hrl:=Rs.K4 (B:=B) n s1 [];generalize Rs.EA B n s1 []=R at*;obtain⟨s2,L⟩:=R;dsimp only at*;by_cases hk:s2.k=0
 ·rw[Ai hk]
  have HK:decide (s2.k=0)=true:=Ad hk;have hk1:s1.k=0:=Be fun hh=>hbd hh hk;have hL:=hrl hk;simp only[Bp,Cu] at hL;have hL1:1≤L.length:=by have:=hnp hk1;omega
  obtain⟨m,hm⟩:∃m,L.length=m+1:=⟨L.length-1,zD⟩;have hla:=Ng L hL1;have HLAST:Hid (∀hh:m<L.length,L[m]=L.getLastD 0):=hid (fun hh=>by rw[hla];congr 1;omega);have j1:(L.length:Int)-1=(m:Int):=zD;have j2:(0:Int)≤(L.length:Int)-1:=zD;have j3:(m:Int)<(L.length:Int):=zD;generalize L.getLastD 0=q at*;have HM:=hid hm;clear hbd hrl hnp hk hk1 hla hL hm;by_cases hq:4294967295<q
  ·rw[Ai hq]
   have d1:decide (4294967295<q)=true:=Ad hq;go_enter Tryz.func365,Tryz.ntmps365;go_wp2_with fail;refine HMN.out.mono ?_;rintro r w1 ⟨rfl,hst⟩;have HIN1:=hid (HIN.out.step hst);clear hst;go_wp2_with fail;refine (Cv w1 HIN1.out.rd).mono ?_;rintro r w2 ⟨rfl,rfl⟩;go_wp2_with fail;refine (HZR.out _ HIN1.out.rd).mono ?_;rintro r w3 ⟨v,rfl,hv,hst⟩;obtain⟨av,cv,e,hv2,hlen⟩:=AN hv;cases e;have HIN3:=hid (HIN1.out.step hst);have HV:=hid (Bb.mono hv fun q hq=>(⟨A4 HIN1.out.tch.size hq.1,hq.2⟩:w.heap.size≤q∧q<w3.heap.size));have hg:=AL w3 HIN3.out.rd;rw[HK] at hg;have HG:=hid hg;clear hst hv hv2 hg;go_wp2_with fail;refine HG.out.mono ?_;rintro r w4 ⟨rfl,hb4⟩;have HIN4:=hid (HIN3.out.step (AG.later HIN3.out.rd hb4));have HV4:=hid (Bb.mono (Bb.keep HV.out fun q hq=>hb4.block q hq.2) fun q hq=>(⟨hq.1,Aj hq.2 hb4.size⟩:w.heap.size≤q∧q<w4.heap.size));clear hb4;obtain⟨b,o,rfl,_,hc,_⟩:=Dv HV4.out (i:=m) (by have:=HM.out;omega);rw[HLAST.out] at hc;go_wp2_with fail;refine (BP w4 HIN4.out.rd 3 (s1.p:Int) zD).mono ?_;rintro r w5 ⟨rfl,hst⟩;have HV5:=hid (Bb.mono (Bb.keep HV4.out fun q hq=>hst.2.block q hq.2 zY) fun q hq=>(⟨hq.1,Aj hq.2 hst.2.size⟩:w.heap.size≤q∧q<w5.heap.size));have HIN5:=hid (HIN4.out.step hst);clear hst;go_wp2;go_ret;exact⟨_,rfl,HV5.out,HIN5.out.to⟩
  ·rw[Ak hq]
   have d1:decide (4294967295<q)=false:=Ae hq;by_cases hap:Dq L O=true
   ·rw[Ai hap]
    have HAP:=hap;clear hap;go_enter Tryz.func365,Tryz.ntmps365;go_wp2_with fail;refine HMN.out.mono ?_;rintro r w1 ⟨rfl,hst⟩;have HIN1:=hid (HIN.out.step hst);clear hst;go_wp2_with fail;refine (Cv w1 HIN1.out.rd).mono ?_;rintro r w2 ⟨rfl,rfl⟩;go_wp2_with fail;refine (HZR.out _ HIN1.out.rd).mono ?_;rintro r w3 ⟨v,rfl,hv,hst⟩;obtain⟨av,cv,e,hv2,hlen⟩:=AN hv;cases e;have HIN3:=hid (HIN1.out.step hst);have HV:=hid (Bb.mono hv fun q hq=>(⟨A4 HIN1.out.tch.size hq.1,hq.2⟩:w.heap.size≤q∧q<w3.heap.size));have hg:=AL w3 HIN3.out.rd;rw[HK] at hg;have HG:=hid hg;clear hst hv hv2 hg;go_wp2_with fail;refine HG.out.mono ?_;rintro r w4 ⟨rfl,hb4⟩;have HIN4:=hid (HIN3.out.step (AG.later HIN3.out.rd hb4));have HV4:=hid (Bb.mono (Bb.keep HV.out fun q hq=>hb4.block q hq.2) fun q hq=>(⟨hq.1,Aj hq.2 hb4.size⟩:w.heap.size≤q∧q<w4.heap.size));clear hb4;obtain⟨b,o,rfl,_,hc,_⟩:=Dv HV4.out (i:=m) (by have:=HM.out;omega);rw[HLAST.out] at hc;go_wp2_with fail;refine (Ez L O (some ⟨b,o,none⟩) L.length cv ao no co w4 (Bb.mono HV4.out fun q hq=>hq.2) (EH.mono (EH.keep HO.out fun q hq=>HIN4.out.tch.block q hq.1 hq.2) fun q hq=>Aj hq.1 HIN4.out.tch.size)).mono ?_;rw[HAP];rintro r w5 ⟨rfl,hb5⟩;have hst:=AG.later HIN4.out.rd hb5;have HV5:=hid (Bb.mono (Bb.keep HV4.out fun q hq=>hst.2.block q hq.2 zY) fun q hq=>(⟨hq.1,Aj hq.2 hst.2.size⟩:w.heap.size≤q∧q<w5.heap.size));have HIN5:=hid (HIN4.out.step hst);clear hst;go_wp2;go_ret;exact⟨_,rfl,HV5.out,HIN5.out.to⟩
   ·rw[Ak hap]
    have HAP:=Bool.eq_false_iff.2 hap;clear hap;go_enter Tryz.func365,Tryz.ntmps365;go_wp2_with fail;refine HMN.out.mono ?_;rintro r w1 ⟨rfl,hst⟩;have HIN1:=hid (HIN.out.step hst);clear hst;go_wp2_with fail;refine (Cv w1 HIN1.out.rd).mono ?_;rintro r w2 ⟨rfl,rfl⟩;go_wp2_with fail;refine (HZR.out _ HIN1.out.rd).mono ?_;rintro r w3 ⟨v,rfl,hv,hst⟩;obtain⟨av,cv,e,hv2,hlen⟩:=AN hv;cases e;have HIN3:=hid (HIN1.out.step hst);have HV:=hid (Bb.mono hv fun q hq=>(⟨A4 HIN1.out.tch.size hq.1,hq.2⟩:w.heap.size≤q∧q<w3.heap.size));have hg:=AL w3 HIN3.out.rd;rw[HK] at hg;have HG:=hid hg;clear hst hv hv2 hg;go_wp2_with fail;refine HG.out.mono ?_;rintro r w4 ⟨rfl,hb4⟩;have HIN4:=hid (HIN3.out.step (AG.later HIN3.out.rd hb4));have HV4:=hid (Bb.mono (Bb.keep HV.out fun q hq=>hb4.block q hq.2) fun q hq=>(⟨hq.1,Aj hq.2 hb4.size⟩:w.heap.size≤q∧q<w4.heap.size));clear hb4;obtain⟨b,o,rfl,_,hc,_⟩:=Dv HV4.out (i:=m) (by have:=HM.out;omega);rw[HLAST.out] at hc;go_wp2_with fail;refine (Ez L O (some ⟨b,o,none⟩) L.length cv ao no co w4 (Bb.mono HV4.out fun q hq=>hq.2) (EH.mono (EH.keep HO.out fun q hq=>HIN4.out.tch.block q hq.1 hq.2) fun q hq=>Aj hq.1 HIN4.out.tch.size)).mono ?_;rw[HAP];rintro r w5 ⟨rfl,hb5⟩;have hst:=AG.later HIN4.out.rd hb5;have HV5:=hid (Bb.mono (Bb.keep HV4.out fun q hq=>hst.2.block q hq.2 zY) fun q hq=>(⟨hq.1,Aj hq.2 hst.2.size⟩:w.heap.size≤q∧q<w5.heap.size));have HIN5:=hid (HIN4.out.step hst);clear hst;go_wp2_with fail;refine (BP w5 HIN5.out.rd 13 (s1.p:Int) zD).mono ?_;rintro r w6 ⟨rfl,hst⟩;have HV6:=hid (Bb.mono (Bb.keep HV5.out fun q hq=>hst.2.block q hq.2 zY) fun q hq=>(⟨hq.1,Aj hq.2 hst.2.size⟩:w.heap.size≤q∧q<w6.heap.size));have HIN6:=hid (HIN5.out.step hst);clear hst;go_wp2;go_ret;exact⟨_,rfl,HV6.out,HIN6.out.to⟩
 ·rw[Ak hk]
  have HK:decide (s2.k=0)=false:=Ae hk;clear hbd hrl hnp hk;go_enter Tryz.func365,Tryz.ntmps365;go_wp2_with fail;refine HMN.out.mono ?_;rintro r w1 ⟨rfl,hst⟩;have HIN1:=hid (HIN.out.step hst);clear hst;go_wp2_with fail;refine (Cv w1 HIN1.out.rd).mono ?_;rintro r w2 ⟨rfl,rfl⟩;go_wp2_with fail;refine (HZR.out _ HIN1.out.rd).mono ?_;rintro r w3 ⟨v,rfl,hv,hst⟩;obtain⟨av,cv,e,hv2,hlen⟩:=AN hv;cases e;have HIN3:=hid (HIN1.out.step hst);have HV:=hid (Bb.mono hv fun q hq=>(⟨A4 HIN1.out.tch.size hq.1,hq.2⟩:w.heap.size≤q∧q<w3.heap.size));have hg:=AL w3 HIN3.out.rd;rw[HK] at hg;have HG:=hid hg;clear hst hv hv2 hg;go_wp2_with fail;refine HG.out.mono ?_;rintro r w4 ⟨rfl,hb4⟩;have HIN4:=hid (HIN3.out.step (AG.later HIN3.out.rd hb4));have HV4:=hid (Bb.mono (Bb.keep HV.out fun q hq=>hb4.block q hq.2) fun q hq=>(⟨hq.1,Aj hq.2 hb4.size⟩:w.heap.size≤q∧q<w4.heap.size));clear hb4;go_wp2;go_ret;exact⟨_,rfl,Bt (xs:=[]) rfl (An _) (Am _) (.inl rfl),HIN4.out.to⟩
theorem Rs.QB:∀(n:Nat) (s:Rs) (out:List Int),s.ok B.length→(Rs.EA B n s out).1.ok B.length
 | 0,s,out,h=>h
 | n+1,s,out,h=>by
  have h2:=Rs.Dn (B:=B) h;unfold Rs.EA;split
  ·split
   ·exact Rs.Co h2 zD
   ·exact Rs.QB n _ _ h2
  ·exact h2
theorem Rs.Xv{O:List (List Int)}(h:s.ok B.length):(s.Fb B O).1.ok B.length:=by
 have h2:=Rs.QB (B:=B) (s.many B 8).2 (s.many B 8).1 [] (Rs.I6 h);unfold Rs.Fb;dsimp only;split
 ·split
  ·exact Rs.Co h2 zD
  ·split
   ·exact h2
   ·exact Rs.Co h2 zD
 ·exact h2
theorem Rs.Vc:∀(n:Nat) (s:Rs) (out:List (List Int)),s.ok B.length→(Rs.Ek B n s out).1.ok B.length
 | 0,s,out,h=>h
 | n+1,s,out,h=>by
  have h2:=Rs.Xv (B:=B) (O:=out) h;unfold Rs.Ek;split
  ·exact Rs.Vc n _ _ h2
  ·exact h2
theorem Rs.Qv{lo:Int}(h:s.ok B.length):(s.span B lo).1.ok B.length:=by
 unfold Rs.span;dsimp only;have h0:(if 4611686018427387904<lo then s.fail 3 s.p else s).ok B.length:=by
  split
  ·exact Rs.Co h zD
  ·exact h
 generalize (if 4611686018427387904<lo then s.fail 3 s.p else s)=s0 at*;split
 ·exact Rs.Co (Rs.Dn h0) zD
 ·exact Rs.Dn h0
theorem Rs.Pd{lo:Int}(h:s.ok B.length):(s.BB B lo).1.ok B.length:=by
 have h2:=Rs.Vc (B:=B) ((s.span B lo).1.many B 8).2 _ [] (Rs.I6 (m:=8) (Rs.Qv (lo:=lo) h));unfold Rs.BB;dsimp only;split<;>exact h2
theorem Rs.Nz:∀(n:Nat) (s:Rs) (lo:Int) (out:List BV),s.ok B.length→(Rs.BJ B n s lo out).1.ok B.length
 | 0,s,lo,out,h=>h
 | n+1,s,lo,out,h=>by
  have h2:=Rs.Pd (B:=B) (lo:=lo) h;unfold Rs.BJ;split
  ·exact Rs.Nz n _ _ _ h2
  ·exact h2
theorem Rs.Aav(h:s.ok B.length):(s.Ds B).1.ok B.length:=by
 have h2:=Rs.Nz (B:=B) ((s.ep B).1.many B 64).2 _ 0 [] (Rs.I6 (m:=64) (Rs.Mf h));unfold Rs.Ds;dsimp only;split
 ·split
  ·exact h2
  ·exact h2
 ·split
  ·exact Rs.Co h2 zD
  ·exact Rs.Co h2 zD
theorem Rs.Pa(h:s.k≠0):s.tl B=(s,0):=by
 unfold Rs.tl;rw[Rs.Ei h,Ak h]
theorem Rs.Oy(h:s.k≠0):s.ep B=(s,0):=by
 unfold Rs.ep;rw[Rs.Ei h,Ak h]
theorem Rs.I4{m:Nat}(h:s.k≠0):s.most B m=(s,0):=by
 unfold Rs.most;rw[Rs.Ei h];dsimp only;rw[Rs.Cb h];split<;>(try split)<;>rfl
theorem Rs.Ij{m:Int}(h:s.k≠0):s.int B m=(s,0):=by
 unfold Rs.int;split
 ·rw[Rs.I4 h]
 ·rw[Rs.Ei h]
  dsimp only;first | rfl | (rw[Rs.Cb h])
theorem Rs.Mv(h:s.k≠0):s.seal_ B=(s,Dk):=by
 unfold Rs.seal_;rw[Rs.Oy h];dsimp only;rw[Rs.I4 h];dsimp only;rw[Rs.Pa h];dsimp only;rw[Ak h]
theorem Rs.GI{m:Int}(h:s.k≠0):s.many B m=(s,0):=by
 unfold Rs.many;rw[Rs.Ij h];dsimp only;rw[Ai rfl,Rs.Cb h]
theorem Rs.Tp{O:List (List Int)}(h:s.k≠0):s.Fb B O=(s,[]):=by
 unfold Rs.Fb;rw[Rs.GI h];exact Ak h
theorem Rs.Rt{lo:Int}(h:s.k≠0):s.span B lo=(s,0):=by
 unfold Rs.span;dsimp only;rw[show (if 4611686018427387904<lo then s.fail 3 s.p else s)=s by rw[Rs.Cb h];split<;>rfl,Rs.Ei h];dsimp only;rw[Rs.Cb h];split<;>rfl
theorem Rs.Iu{lo:Int}(h:s.k≠0):s.BB B lo=(s,ID):=by
 unfold Rs.BB;rw[Rs.Rt h];dsimp only;rw[Rs.GI h];exact Ak h
theorem Rs.MF(h:s.k≠0):s.Ds B=(s,DE):=by
 unfold Rs.Ds;rw[Rs.Oy h];dsimp only;rw[Rs.GI h];have e:(if (Rs.BJ B 0 s 0 []).2.1=4611686018427387904 then (Rs.BJ B 0 s 0 []).1 else (Rs.BJ B 0 s 0 []).1.fail 3 (Rs.BJ B 0 s 0 []).1.p)=s:=(Ak (show ¬((0:Int)=4611686018427387904) by omega)).trans (Rs.Cb h);rw[e];exact Ak h
theorem Rs.Ab3{O:List (List Int)}(h:(s.Fb B O).1.k=0):s.k=0:=
 Be fun hh=>by rw[Rs.Tp hh] at h;exact hh h
theorem Rs.Ob{m:Int}(h:(s.many B m).1.k=0):s.k=0:=
 Be fun hh=>by rw[Rs.GI hh] at h;exact hh h
theorem Rs.Rq{lo:Int}(h:(s.BB B lo).1.k=0):s.k=0:=
 Be fun hh=>by rw[Rs.Iu hh] at h;exact hh h
theorem Rs.Aaq{O:List (List Int)}(h:(s.Fb B O).1.k=0):(s.Fb B O).2.length≤8:=by
 unfold Rs.Fb at h ⊢;dsimp only at h ⊢;have hl:=Rs.K4 (B:=B) (s.many B 8).2 (s.many B 8).1 [];have hm:(s.many B 8).2≤8:=Rs.I7 (m:=8);simp only[Bp,Cu] at hl;generalize Rs.EA B (s.many B 8).2 (s.many B 8).1 []=f at*;split at h
 ·rename_i h1
  have:=hl h1;rw[Ai h1];split
  ·dsimp only;omega
  ·split
   ·omega
   ·dsimp only;omega
 ·rename_i h1
  exact absurd h h1
theorem Po:∀(l:List Int) (x:Int),Bj l=true→(l≠[]→l.getLastD 0<x)→Bj (l++[x])=true
 | [],x,_,_=>rfl
 | [y],x,_,h=>by
  have:=h zN;simp[Bj] at this ⊢;exact this
 | y::z::l,x,h,hx=>by
  simp only[Bj,Aq,Av] at h;have hx2:=hx zN;have:=Po (z::l) x h.2 (fun _=>by simpa using hx2);simp only[DY,Bj,Aq,Av] at this ⊢;exact⟨h.1,this⟩
theorem Rs.Ku:∀(n:Nat) (s:Rs) (out:List Int),Bj out=true→(Rs.EA B n s out).1.k=0→Bj (Rs.EA B n s out).2=true
 | 0,s,out,h,_=>h
 | n+1,s,out,h,hk=>by
  unfold Rs.EA at hk ⊢;split at hk
  ·rename_i h1
   rw[Ai h1];split at hk
   ·exact absurd hk (Rs.BE zD)
   ·rename_i h2
    rw[Ak h2];refine Rs.Ku n _ _ (Po _ _ h fun hne=> ?_) hk;rw[Ak hne];omega
  ·rename_i h1
   exact absurd hk h1
theorem Rs.Abm{O:List (List Int)}(h:(s.Fb B O).1.k=0):Dx (s.Fb B O).2=true∧Dq (s.Fb B O).2 O=true:=by
 have hle:=Rs.Aaq h;unfold Rs.Fb at h hle ⊢;dsimp only at h hle ⊢;have hl:=Rs.K4 (B:=B) (s.many B 8).2 (s.many B 8).1 [];have hr:=Rs.Ku (B:=B) (s.many B 8).2 (s.many B 8).1 [] rfl;have hb:=fun hk=>Rs.Ie (B:=B) (s:=(s.many B 8).1) (out:=[]) hk (s.many B 8).2;have hp:=Rs.JF (B:=B) (s:=s) (m:=8);simp only[Bp,Cu] at hl;generalize Rs.EA B (s.many B 8).2 (s.many B 8).1 []=f at*;split at h
 ·rename_i h1
  rw[Ai h1] at hle ⊢;have hk1:(s.many B 8).1.k=0:=Be fun hh=>hb hh h1;have:=hl h1;have:=hp hk1;split at h
  ·exact absurd h (Rs.BE zD)
  ·rename_i h2
   rw[Ak h2] at hle ⊢;split at h
   ·rename_i h3
    rw[Ai h3] at hle ⊢;refine⟨?_,h3⟩;unfold Dx;rw[hr h1,Ad (show 1≤f.2.length∧f.2.length≤8 from ⟨zD,hle⟩),Ad zD];rfl
   ·exact absurd h (Rs.BE zD)
 ·rename_i h1
  exact absurd h h1
theorem Xw{L:List (List Int)}{x:List Int}(h:i<L.length):Iv (L++[x]) i=Iv L i:=by
 unfold Iv;rw[show (L++[x]).getD i []=L.getD i [] by simp[IK,A5 h],List.take_append_of_le_length zD]
theorem Ph{L:List (List Int)}{x:List Int}:∀n,n≤L.length→BR (L++[x]) n=BR L n
 | 0,_=>rfl
 | n+1,h=>by
  unfold BR;rw[Ph n zD,Xw zD]
theorem To{L:List (List Int)}{x:List Int}(h:BR L L.length=true)(hn:Dx x=true)(ha:Dq x L=true):BR (L++[x]) (L++[x]).length=true:=by
 rw[Ag];show (BR (L++[x]) L.length&&Iv (L++[x]) L.length)=true
 have e:(L++[x]).getD L.length []=x:=by simp[IK]
 rw[Ph _ (An _),h];unfold Iv;rw[e,List.take_left,hn,ha];rfl
theorem Rs.Qz:∀(n:Nat) (s:Rs) (out:List (List Int)),BR out out.length=true→(Rs.Ek B n s out).1.k=0→BR (Rs.Ek B n s out).2 (Rs.Ek B n s out).2.length=true∧(Rs.Ek B n s out).2.length=n+out.length
 | 0,s,out,h,_=>⟨h,by simp[Rs.Ek]⟩
 | n+1,s,out,h,hk=>by
  unfold Rs.Ek at hk ⊢;split at hk
  ·rename_i h1
   rw[Ai h1];obtain⟨h2,h3⟩:=Rs.Abm h1;obtain⟨h4,h5⟩:=Rs.Qz n _ _ (To h h2 h3) hk;refine⟨h4,?_⟩;rw[h5,Ag];simp;omega
  ·rename_i h1
   exact absurd hk h1
theorem Rs.Tn(n:Nat){out:List (List Int)}(h:(Rs.Ek B n s out).1.k=0):s.k=0:=by
 cases n with
 | zero=>exact h
 | succ n=>
  unfold Rs.Ek at h;split at h
  ·rename_i h1
   exact Rs.Ab3 h1
  ·rename_i h1
   exact absurd h h1
theorem Rs.Va{lo:Int}(h:(s.span B lo).1.k=0):lo≤4611686018427387904∧lo+(s.span B lo).2+1≤4611686018427387904:=by
 unfold Rs.span at h ⊢;dsimp only at h ⊢;by_cases hlo:4611686018427387904<lo
 ·rw[Ai hlo] at h
  have hb:(s.fail 3 s.p).k≠0:=Rs.BE zD;rw[Rs.Ei hb] at h;dsimp only at h;rw[Rs.Cb hb] at h;split at h<;>exact absurd h hb
 ·rw[Ak hlo] at h ⊢
  split at h
  ·exact absurd h (Rs.BE zD)
  ·rename_i h2
   constructor
   ·omega
   ·omega
theorem Rs.Pe{lo:Int}(h:(s.BB B lo).1.k=0):Dc (s.BB B lo).2=true∧(s.BB B lo).2.lo=lo:=by
 unfold Rs.BB at h ⊢;dsimp only at h ⊢;have h1:=Rs.Qz (B:=B) ((s.span B lo).1.many B 8).2 ((s.span B lo).1.many B 8).1 [] rfl;have h2:=Rs.Tn (B:=B) (s:=((s.span B lo).1.many B 8).1) ((s.span B lo).1.many B 8).2 (out:=[]);have h3:=Rs.Ob (B:=B) (s:=(s.span B lo).1) (m:=8);have h4:=Rs.JF (B:=B) (s:=(s.span B lo).1) (m:=8);have h5:((s.span B lo).1.many B 8).2≤8:=Rs.I7 (m:=8);have h6:=Rs.Va (B:=B) (s:=s) (lo:=lo);generalize Rs.Ek B ((s.span B lo).1.many B 8).2 ((s.span B lo).1.many B 8).1 []=u at*;split at h
 ·rename_i hk
  rw[Ai hk];obtain⟨a1,a2⟩:=h1 hk;have hk2:=h2 hk;obtain⟨a3,a4⟩:=h6 (h3 hk2);have a5:=h4 hk2;simp only[Bp,Cu] at a2;refine⟨?_,rfl⟩;unfold Dc;dsimp only;rw[a1,Ad zD];rfl
 ·rename_i hk
  exact absurd h hk
theorem Rs.NB:∀(n:Nat) (s:Rs) (lo:Int) (out:List BV),(Rs.BJ B n s lo out).1.k=0→∃t,(Rs.BJ B n s lo out).2.2=out++t∧t.length=n∧((Rs.BJ B n s lo out).2.1=4611686018427387904→FE lo t=true)
 | 0,s,lo,out,_=>⟨[],by simp[Rs.BJ],rfl,fun h=>Ad h⟩
 | n+1,s,lo,out,hk=>by
  unfold Rs.BJ at hk ⊢;split at hk
  ·rename_i h1
   rw[Ai h1];obtain⟨h2,h3⟩:=Rs.Pe h1;obtain⟨t,h4,h5,h6⟩:=Rs.NB n _ _ _ hk;refine⟨_::t,by rw[h4,Ao];rfl,by rw[AO,h5],fun he=> ?_⟩;unfold FE;rw[h6 he,h2,Ad h3];rfl
  ·rename_i h1
   exact absurd hk h1
theorem Rs.Pc(n:Nat){lo:Int}{out:List BV}(h:(Rs.BJ B n s lo out).1.k=0):s.k=0:=by
 cases n with
 | zero=>exact h
 | succ n=>
  unfold Rs.BJ at h;split at h
  ·rename_i h1
   exact Rs.Rq h1
  ·rename_i h1
   exact absurd h h1
theorem Rs.Acd(h:(s.ep B).1.k=0):epR ((s.ep B).2:Int)=true:=by
 unfold Rs.ep at h ⊢;split at h
 ·rename_i h1
  rw[Ai h1];split at h
  ·rename_i h2
   rw[Ai h2];exact h2
  ·exact absurd h (Rs.BE zD)
 ·rename_i h1
  exact absurd h h1
theorem Rs.AbZ(h:(s.tl B).1.k=0):((s.tl B).2:Int)≤4611686018427387904:=by
 unfold Rs.tl at h ⊢;split at h
 ·rename_i h1
  rw[Ai h1];split at h
  ·rename_i h2
   rw[Ai h2];exact Bc h2
  ·exact absurd h (Rs.BE zD)
 ·rename_i h1
  exact absurd h h1
theorem Rs.Acl(h:(s.tl B).1.k=0):s.k=0:=
 Be fun hh=>by rw[Rs.Pa hh] at h;exact hh h
theorem Rs.AbA{m:Nat}(h:(s.most B m).1.k=0):s.k=0:=
 Be fun hh=>by rw[Rs.I4 hh] at h;exact hh h
theorem Rs.Aaw(h:(s.Ds B).1.k=0):DG (s.Ds B).2=true:=by
 unfold Rs.Ds at h ⊢;dsimp only at h ⊢;have h1:=Rs.NB (B:=B) ((s.ep B).1.many B 64).2 ((s.ep B).1.many B 64).1 0 [];have h2:=Rs.Pc (B:=B) (s:=((s.ep B).1.many B 64).1) ((s.ep B).1.many B 64).2 (lo:=0) (out:=[]);have h3:=Rs.Ob (B:=B) (s:=(s.ep B).1) (m:=64);have h4:=Rs.JF (B:=B) (s:=(s.ep B).1) (m:=64);have h5:((s.ep B).1.many B 64).2≤64:=Rs.I7 (m:=64);have h6:=Rs.Acd (B:=B) (s:=s);generalize Rs.BJ B ((s.ep B).1.many B 64).2 ((s.ep B).1.many B 64).1 0 []=u at*;by_cases hm:u.2.1=4611686018427387904
 ·rw[Ai hm] at h ⊢
  split at h
  ·rename_i hk
   rw[Ai hk];obtain⟨t,a1,a2,a3⟩:=h1 hk;have hk2:=h2 hk;have a5:=h4 hk2;unfold DG;dsimp only;rw[h6 (h3 hk2),a1,AV,a3 hm,Ad zD];rfl
  ·rename_i hk
   exact absurd h hk
 ·rw[Ak hm] at h ⊢
  split at h
  ·exact absurd h (Rs.BE zD)
  ·exact absurd h (Rs.BE zD)
open Go.RowKit Go.Bs
theorem Yy:(Tryz.prog.info? 37).map (fun i=>(i.zero,i.size,i.bytes))=some (some (.slice none 0 0),1,24):=zI
theorem Uq:(Tryz.prog.info? 219).map (fun i=>(i.zero,i.size,i.bytes))=some (some (.agg #[.int .u64 0,.int .u64 0,.slice none 0 0]),3,40):=zI
theorem Ba.Aam{α:Type}{A:Rp α}{xs:List α}(h:Ba lo A lo e sz w v xs)(hb:Tch F w w')(hF:∀b,lo≤b→b<w.heap.size→¬F b):Ba lo A lo e sz w' v xs:=by
 have hk:∀b,lo≤b→b<w.heap.size→w'.heap[b]? =w.heap[b]? :=fun b h1 h2=>hb.block b h2 (hF b h1 h2);obtain⟨cells,ho,hlen,hsz,hA⟩:=h;refine⟨cells,⟨ho.1,?_⟩,hlen,hsz,fun i cs x hi hx=>A.mono (A.keep (hA i cs x hi hx) fun b h=>hk b h.1 h.2.1) fun b h=>⟨h.1,Aj h.2.1 hb.size,h.2.2⟩⟩;rcases ho.2 with h0 | ⟨g',cap,cur,h1,h2,h3,h4⟩
 ·exact .inl h0
 ·exact .inr ⟨g',cap,cur,h1,h2,(hk _ h2 (Blk.lt h3)).trans h3,h4⟩
theorem Ki(h:Blk w g t #[v0,v1,v2]):w.cell? ⟨g,0,none⟩=some v0∧w.cell? ⟨g,1,none⟩=some v1∧w.cell? ⟨g,2,none⟩=some v2∧w.frozen? ⟨g,0,none⟩=false∧w.frozen? ⟨g,1,none⟩=false∧w.frozen? ⟨g,2,none⟩=false∧g<w.heap.size:=
 ⟨h.cell 0,h.cell 1,h.cell 2,h.free 0,h.free 1,h.free 2,h.lt⟩
theorem AaN{cs:Array Value}(h:Blk w g t cs)(i:Nat):w.frozen? ⟨g,i,none⟩=false:=h.free i
theorem IB(w:World)(p:Addr)(u:Value):(w.setCell p u).heap.size=w.heap.size:=ZK
theorem Rn(w:World)(h:A6 w g B a s)(hB:B.length≤1000000000)(lo:Int)(hlo:0≤lo∧lo≤18446744073709551615):
  Calls Tryz.prog 351 #[.pointer (some ⟨g,0,none⟩),.int .u64 lo] w fun r w'=>∃v,r=.returned (.agg #[.int .u64 (s.BB B lo).2.lo,.int .u64 (s.BB B lo).2.hi,v])∧EH.r (FZ w w') w' [v] (s.BB B lo).2.sets∧AG w g B a (s.BB B lo).1 w':=by
 have hlt:=h.blk.lt;have HIN:=hid (DC.refl h);obtain⟨j0,ji,jz0,jz1,jz2⟩:=A3 Yy;have hspin:=Rs.Va (B:=B) (s:=s) (lo:=lo);unfold Rs.BB Rs.span;unfold Rs.span at hspin;dsimp only at*;obtain⟨s0,hs0⟩:∃t,t=(if 4611686018427387904<lo then s.fail 3 s.p else s):=⟨_,rfl⟩;rw[←hs0] at hspin ⊢;have HS0:=hid hs0;clear hs0;have HAT:=hid (fun (W:World) (hW:A6 W g B a s)=>Cv W hW);have hsp9:=h.ok.le;have HVR:=hid (fun (W:World) (hW:A6 W g B a s0)=>Da W hW zD);have hnn:=Rs.DL (B:=B) (s:=s0);generalize s0.num B=D at*;obtain⟨s1,n⟩:=D;dsimp only at*;obtain⟨s2,hs2⟩:∃t,t=(if 4611686018427387904-min lo 4611686018427387904≤(n:Int) then s1.fail 3 s.p else s1):=⟨_,rfl⟩;rw[←hs2] at hspin ⊢;have HS2:=hid hs2;clear hs2;have HMN:=hid (fun (W:World) (hW:A6 W g B a s2)=>Mt W hW hB 8 zD);have hmk:=Rs.Ob (B:=B) (s:=s2) (m:=8);have hml:(s2.many B 8).2≤8:=Rs.I7 (m:=8);generalize s2.many B 8=M at*;obtain⟨s3,k⟩:=M;dsimp only at*;have hsk:=Rs.Tn (B:=B) (s:=s3) k (out:=[]);obtain⟨U,hU⟩:∃t,t=Rs.Ek B k s3 []:=⟨_,rfl⟩;rw[←hU] at hsk ⊢;have HU:=hid hU;have HYY:Hid (U.1.k=0→lo≤4611686018427387904∧lo+n+1≤4611686018427387904):=hid (fun e=>hspin (hmk (hsk e)));generalize hRS:(if U.1.k=0 then (U.1,(⟨lo,lo+n+1,U.2⟩:BV)) else (U.1,ID))=RES;have HRZ:=hid hRS;clear h hspin hmk hsk hU hRS;go_enter Tryz.func351,Tryz.ntmps351;go_wp2_with fail;go_step3
 go_wp2_with fail;refine (HAT.out _ (HIN.out.row zA).rd).mono ?_;rintro r w1 ⟨rfl,rfl⟩;go_upto_if 12 with (fail);go_cut [] from 11 to 15 (fun V=>Hid (DC w V g B a s0)∧Hid (Blk V w.heap.size 219 #[.int .u64 0,.int .u64 0,.slice none 0 0]))
 case first=>
  by_cases hp:4611686018427387904<lo
  ·have d1:decide (4611686018427387904<lo)=true:=Ad hp
   have HE:=HS0.out;rw[Ai hp] at HE;have HE2:=hid HE;clear HE hp;rw[d1];go_wp2_with fail;refine (BP _ (HIN.out.row zA).rd 3 (s.p:Int) zD).mono ?_;rintro r w2 ⟨rfl,hst⟩;have HB2:=hid (Blk.tch (Blk.new w 219 #[.int .u64 0,.int .u64 0,.slice none 0 0]) hst.2 zD);have HI2:=hid ((HIN.out.row zA).step hst);clear hst;go_wp2_with fail;go_meet
   case rel=>exact ⟨hid (by rw[HE2.out];exact HI2.out),HB2⟩
  ·have d1:decide (4611686018427387904<lo)=false:=Ae hp
   have HE:=HS0.out;rw[Ak hp] at HE;have HE2:=hid HE;clear HE hp;rw[d1];go_wp2_with fail;go_meet
   case rel=>exact ⟨hid (by rw[HE2.out];exact HIN.out.row (by (repeat (first | with_reducible exact Below.refl _ _ | with_reducible assumption | (with_reducible refine AH ?_ _) | (with_reducible refine Below.setCell ?_ (by first | omega | (simp;done) | (simp;omega)) _) | (with_reducible refine Below.drew ?_) | (with_reducible refine below_drewN ?_ _) | (refine Af (by with_reducible assumption) ?_))))),hid (Blk.new w _ _)⟩
 case rest=>
  obtain⟨hI1,hR1⟩:=hcut;obtain⟨w1,hwn⟩:∃W:World,W=wc:=⟨_,rfl⟩;subst hwn;have hz1:w.heap.size<w1.heap.size:=hR1.out.lt;go_wp2_with fail;refine (HVR.out _ (hI1.out.row ((by (repeat (first | with_reducible exact Below.refl _ _ | with_reducible assumption | (with_reducible refine AH ?_ _) | (with_reducible refine Below.setCell ?_ zF _) | (with_reducible refine Below.drew ?_) | (with_reducible refine below_drewN ?_ _) | (refine Af zG ?_))):Below w1.heap.size w1 _).mono zD)).rd).mono ?_;rintro r w2 ⟨rfl,hst⟩;have hS2:Hid (Blk w2 w1.heap.size 219 #[.int .u64 lo,.int .u64 0,.slice none 0 0]):=hid (Blk.tch (Blk.new w1 _ _) hst.2 zD);have hR2:=hid (Blk.tch (hR1.out.alloc _) hst.2 zD);have hI2:=hid ((hI1.out.row ((by (repeat (first | with_reducible exact Below.refl _ _ | with_reducible assumption | (with_reducible refine AH ?_ _) | (with_reducible refine Below.setCell ?_ zF _) | (with_reducible refine Below.drew ?_) | (with_reducible refine below_drewN ?_ _) | (refine Af zG ?_))):Below w1.heap.size w1 _).mono zD)).step hst);have hz2:w1.heap.size<w2.heap.size:=hS2.out.lt;clear hst;go_upto_region 6 with (fail);obtain⟨R,hR⟩:∃R,R=decide (4611686018427387904-min lo 4611686018427387904≤(n:Int)):=⟨_,rfl⟩;have HR:=hid hR;clear hR;go_cut [24] from 20 to 23 (fun v V=>v=.bool R∧Hid (V=w2))
  case first=>
   by_cases hp:lo≤4611686018427387904
   ·have v1:0≤4611686018427387904-lo:=by omega
    have v2:4611686018427387904-lo≤18446744073709551615:=zD;go_wp2_with fail;go_meet
    case rel=>exact ⟨GL Value.bool (by rw[HR.out];first | exact decide_eq_decide.2 zD | exact (Ad zD).symm),hid rfl⟩
   ·have v1:4611686018427387904<lo:=by omega
    go_wp2_with fail;go_meet
    case rel=>exact ⟨GL Value.bool (by rw[HR.out];first | exact decide_eq_decide.2 zD | exact (Ad zD).symm),hid rfl⟩
  case rest=>
  obtain⟨rfl,hV⟩:=hcut;have hV':=hV.out.symm;subst hV';go_upto_if 24 with (fail);go_cut [] from 25 to 27 (fun V=>Hid (DC w V g B a s2)∧Hid (Blk V w.heap.size 219 #[.int .u64 0,.int .u64 0,.slice none 0 0])∧Hid (Blk V w1.heap.size 219 #[.int .u64 lo,.int .u64 0,.slice none 0 0]))
  case first=>
   have HE:=HS2.out;have hR:=HR.out;cases R
   ·rw[Ak (of_decide_eq_false hR.symm)] at HE
    have HE2:=hid HE;clear HE hR;go_wp2_with fail;go_meet
    case rel=>exact ⟨hid (by rw[HE2.out];exact hI2.out),hR2,hS2⟩
   ·rw[Ai (Bc hR.symm)] at HE
    have HE2:=hid HE;clear HE hR;go_wp2_with fail;refine (BP _ hI2.out.rd 3 (s.p:Int) zD).mono ?_;rintro r w3 ⟨rfl,hst⟩;have hI3:=hid (hI2.out.step hst);have hR3:=hid (Blk.tch hR2.out hst.2 zD);have hS3:=hid (Blk.tch hS2.out hst.2 zD);clear hst;go_wp2_with fail;go_meet
    case rel=>exact ⟨hid (by rw[HE2.out];exact hI3.out),hR3,hS3⟩
  case rest=>
   obtain⟨hI3,hR3,hS3⟩:=hcut;obtain⟨w3,hwn⟩:∃W:World,W=wc:=⟨_,rfl⟩;subst hwn;obtain⟨x0,x1,x2,f0,f1,f2,l3⟩:=Ki hS3.out;have hg3:g≠w1.heap.size:=zD;go_upto_region 8 with (fail);go_cut [] from 28 to 32 (fun V=>∃y:Int,Hid (U.1.k=0→y=lo+n+1)∧Hid (DC w V g B a s2)∧Hid (Blk V w.heap.size 219 #[.int .u64 0,.int .u64 0,.slice none 0 0])∧Hid (Blk V w1.heap.size 219 #[.int .u64 lo,.int .u64 y,.slice none 0 0]))
   case first=>
    go_wp2_with fail;go_meet
    case rel=>
     refine⟨_,hid (fun e=> ?_),hid (hI3.out.row zA),hid (Blk.far hR3.out zJ _),hid (hS3.out.set 1 _)⟩;have:=HYY.out e;rw[Jn,Jn];omega
   case rest=>
    obtain⟨y,HY,hI4,hR4,hS4⟩:=hcut;obtain⟨w4,hwn⟩:∃W:World,W=wc:=⟨_,rfl⟩;subst hwn;clear x0 x1 x2 f0 f1 f2 l3;go_wp2_with fail;refine (HMN.out _ hI4.out.rd).mono ?_;rintro r w5 ⟨rfl,hst⟩;have hS5:=hid (Blk.tch hS4.out hst.2 zD);have hR5:=hid (Blk.tch hR4.out hst.2 zD);have hI5:=hid (hI4.out.step hst);have hz5:w1.heap.size<w5.heap.size:=hS5.out.lt;clear hst;go_wp2_with fail;go_step3
    go_wp2_with fail;go_loopw [36] (fun i wr=>∃(j:Nat) (J:List (List Int)) (st:Rs) (av:Option Addr) (cv:Nat),j≤k∧i=.int .i64 j∧Hid (J.length=j)∧Hid (Ba w5.heap.size Bb w5.heap.size 37 1 wr (.slice av J.length cv) J)∧Hid (DC w wr g B a st)∧Hid (Blk wr w.heap.size 219 #[.int .u64 0,.int .u64 0,.slice none 0 0])∧Hid (Blk wr w1.heap.size 219 #[.int .u64 lo,.int .u64 y,.slice av J.length cv])∧Hid (U=Rs.Ek B (k-j) st J)∧w5.heap.size≤wr.heap.size) (fun i _=>k-(intOf i).toNat)
    case atStart=>exact ⟨0,[],s3,none,0,Am _,rfl,hid rfl,hid Ba.nil,hI5,hR5,hS5,HU,An _⟩
    case round=>
     obtain⟨j,J,st,av,cv,hj,rfl,HJ,HO,hIr,hRr,hSr,HSP,hzr⟩:=hrel;obtain⟨x0,x1,x2,f0,f1,f2,l8⟩:=Ki hSr.out;have lr:=hRr.out.lt;rcases Bh j k with hlt2 | hge
     ·have i1:(j:Int)<(k:Int):=by omega
      have d1:decide ((j:Int)<(k:Int))=true:=Ad i1;have hJ9:J.length≤8:=by have:=HJ.out;omega
      have hstep:U=(if (st.Fb B J).1.k=0 then Rs.Ek B (k-(j+1)) (st.Fb B J).1 (J++[(st.Fb B J).2]) else ((st.Fb B J).1,[])):=by
       rw[HSP.out,show k-j=(k-(j+1))+1 by omega];rfl
      have HRS:=hid (NC wr.drew (hIr.out.rd.later (show Below wr.heap.size wr wr.drew from (Below.refl _ _).drew)) hB J av J.length cv (EH.mono (Ba.slice (An _) (Ba.below HO.out (show Below wr.heap.size wr wr.drew from (Below.refl _ _).drew))) fun b hb=>⟨hb.2,zAl⟩));generalize st.Fb B J=T at*;obtain⟨s5,L⟩:=T;dsimp only at*;have HST:=hid hstep;have HOB:Hid (∀q,(Value.slice av J.length cv).ownBlock=some q→w5.heap.size≤q∧q<wr.heap.size):=hid (by
       obtain⟨cells0,OA0⟩:=HO.out;exact fun q e=>En OA0.1 q e)
      clear hstep;go_wp2_with fail;refine C9 (fun w'=>w'.cell? ⟨w1.heap.size,2,none⟩=some (.slice av J.length cv)) _ zI rfl zI x2 (fun hHeld=> ?_);simp only[Cy,GU];refine Ap (i:=0) (oi:=_) (v:=?_) rfl zE zE zE (fun _ _ _ h=>h) (Or.inl ⟨zS,?_⟩) zL ?_;rotate_left
      ·(intro w hSw;(try dsimp only at hSw);go_simp<;>with_reducible rfl)
      (try simp only[Act.put,Aa,Ab,Ac])
      refine Ap (i:=1) (oi:=_) (v:=?_) rfl zE zE zE (fun _ _ _ h=>h) (Or.inl ⟨zS,?_⟩) zL ?_;rotate_left
      ·(intro w hSw;(try dsimp only at hSw);go_simp<;>with_reducible rfl)
      (try simp only[Act.put,Aa,Ab,Ac])
      refine Ap (i:=2) (oi:=_) (v:=?_) rfl zE zE zE (fun _ _ _ h=>h) (Or.inl ⟨zS,?_⟩) zL ?_;rotate_left
      ·(intro w hSw;(try dsimp only at hSw);go_simp<;>with_reducible rfl)
      (try simp only[Act.put,Aa,Ab,Ac])
      refine Ap (i:=3) (oi:=_) (v:=?_) rfl zE zE zE (fun _ _ _ h=>h) (Or.inl ⟨zS,?_⟩) zL ?_;rotate_left
      ·(intro w hSw;(try dsimp only at hSw);go_simp<;>with_reducible rfl)
      (try simp only[Act.put,Aa,Ab,Ac])
      refine Ap (i:=4) (oi:=_) (v:=?_) rfl zE zE zE (fun _ _ _ h=>h) (Or.inl ⟨zS,?_⟩) zL ?_;rotate_left
      ·(intro w hSw;(try dsimp only at hSw);go_simp<;>with_reducible rfl)
      (try simp only[Act.put,Aa,Ab,Ac])
      refine AU (rs:=[5]) zE zN ?_;refine AK (o:=_) rfl (fun K hK=> ?_) AllReadyH.nil
      (go_simp;go_at_call 365;refine HRS.out.mono ?_;rintro e1 w7 ⟨v7,rfl,hv7,hst7⟩;obtain⟨a7,c7,hfv,_,_⟩:=AN hv7;simp only[As,AM] at hfv;subst hfv;have hst8:AG wr g B a s5 w7:=⟨hst7.1,(Tch.refl (·=g) wr).drew.trans hst7.2 fun _ _ e=>e⟩;have HV7:=hid hv7;have HI7:=hid (hIr.out.step hst8);have HR7:=hid (Blk.tch hRr.out hst8.2 zD);have HS7:=hid (Blk.tch hSr.out hst8.2 zD);have HO7:=hid (Ba.Aam HO.out hst8.2 (fun b h1 h2 e=>zD));have z7:=hst8.2.size;have m1:w7.cell? ⟨w1.heap.size,2,none⟩=some (.slice av J.length cv):=HS7.out.cell 2;have l7:w1.heap.size<w7.heap.size:=zD;clear hst7 hst8 hv7;(try dsimp only))
      refine hK.out _ _ ?_ (fun hHeld=> ?_)
      ·((try dsimp only);first | assumption | (go_keep;done))
      clear hK K
      (try simp only[Act.put,Aa,Ab,Ac])
      refine AU (rs:=[6]) zE zN ?_;refine AK (o:=_) rfl (fun K hK=> ?_) AllReadyH.nil;go_simp
      refine hK.out _ _ ?_ (fun hHeld=> ?_)
      ·((try dsimp only);first | assumption | (go_keep;done))
      clear hK K
      (try simp only[Act.put,Aa,Ab,Ac])
      have hb78:Below w7.heap.size w7 (w7.alloc (.cells #[.slice a7 L.length c7] 37)):=zA;obtain⟨cells,OA⟩:=Ba.below HO7.out hb78;have hx:Bb.r (fun b=>w5.heap.size≤b∧b<(w7.alloc (.cells #[.slice a7 L.length c7] 37)).heap.size∧(Value.slice av J.length cv).ownBlock≠some b) (w7.alloc (.cells #[.slice a7 L.length c7] 37)) [.slice a7 L.length c7] L:=by
       refine Bb.mono (Bb.keep HV7.out fun b hb=>hb78.block b hb.2) fun b hb=>⟨?_,?_,fun e=> ?_⟩
       ·have h1:wr.heap.size≤b:=hb.1;omega
       ·have:=hb.2;simp;omega
       ·have h1:wr.heap.size≤b:=hb.1
        have:=(HOB.out b e).2;omega
      have HX:=hid hx;have HA:=hid OA;have HS9:Hid (w5.heap.size≤(w7.alloc (.cells #[.slice a7 L.length c7] 37)).heap.size):=hid zH;clear hx OA;refine AU (rs:=[7]) zE zN ?_;refine AK (o:=_) rfl (fun K hK=> ?_) AllReadyH.nil
      (refine BG zS _ _ _ zS w5.heap.size 37 j0 (.slice none 0 0) 1 24 Tryz.underlying217 ji jz0 jz1 jz2 rfl zO (.slice av J.length cv) J.length _ zS HA.out.1 (some ⟨w7.heap.size,0,none⟩) 1 1 [.slice a7 L.length c7] zS (By w7 37 _ zS zS rfl) zW zK zD HS9.out ?_;intro a9 c9 w9 hown9 hgrow9 hat9;have OP:=hid (Ba.push HA.out rfl HX.out hown9 hgrow9 hat9 hgrow9.size);have HB9:=hid (show Below w5.heap.size w7 w9 from Below.grown (hb78.mono zD) hgrow9 HS9.out (fun g e=>(HOB.out g e).1));have hz9:=hgrow9.size;simp at hz9;have HS9b:=hid (HS7.out.below HB9.out zD);have m2:w9.cell? ⟨w1.heap.size,2,none⟩=some (.slice av J.length cv):=HS9b.out.cell 2;have m3:=AaN HS9b.out 2;clear hown9 hgrow9 hat9;(try dsimp only))
      refine hK.out _ _ ?_ (fun hHeld=> ?_)
      ·((try dsimp only);first | assumption | (go_keep;done))
      clear hK K
      (try simp only[Act.put,Aa,Ab,Ac])
      refine Ap (i:=8) (oi:=_) (v:=?_) rfl zE zE zE (fun _ _ _ h=>h) (Or.inl ⟨zS,?_⟩) zL ?_;rotate_left
      ·(intro w hSw;(try dsimp only at hSw);go_simp<;>with_reducible rfl)
      (try simp only[Act.put,Aa,Ab,Ac])
      refine Ap (i:=9) (oi:=_) (v:=?_) rfl zE zE zE (fun _ _ _ h=>h) (Or.inl ⟨zS,?_⟩) zL ?_;rotate_left
      ·(intro w hSw;(try dsimp only at hSw);go_simp<;>with_reducible rfl)
      (try simp only[Act.put,Aa,Ab,Ac])
      refine CS zI ?_ _;show wpList _ _ _ _ _ _
      have HIW:=hid (show DC w (w9.setCell ⟨w1.heap.size,2,none⟩ (.slice a9 (J.length+1) c9)) g B a s5 from (HI7.out.row (HB9.out.mono zD)).row zA);have HOW:=hid (Ba.Aam OP.out ((Tch.refl (·=w1.heap.size) w9).setCell (p:=⟨w1.heap.size,2,none⟩) (fun _=>rfl) (.slice a9 (J.length+1) c9)) (fun b h1 h2 e=>zD));have HSW:=hid (HS9b.out.set 2 (.slice a9 (J.length+1) c9));have HRW:=hid (Blk.far (HR7.out.below HB9.out zD) (p:=⟨w1.heap.size,2,none⟩) zJ (.slice a9 (J.length+1) c9));by_cases hk:s5.k=0
      ·have HE:=HST.out
       rw[Ai hk] at HE;have HSP2:=hid HE;have HG:=AL _ HIW.out.rd;rw[Ad hk] at HG;have HGG:=hid HG;clear HE HG hk;go_wp2_with fail;refine HGG.out.mono ?_;rintro r w10 ⟨rfl,hb10⟩;have hz10:=hb10.size;rw[IB] at hz10;have HI10:=hid (HIW.out.row (hb10.mono (by rw[IB];omega)));have HR10:=hid (HRW.out.later hb10);have HS10:=hid (HSW.out.later hb10);have HO10:=hid (Ba.below HOW.out hb10);clear hb10;go_wp2_with fail;go_roundw
       case rel=>exact ⟨j+1,J++[L],s5,a9,c9,zD,zV,hid (by rw[Ag,HJ.out];rfl),hid (by rw[Ag];exact HO10.out),HI10,HR10,hid (by rw[Ag];exact HS10.out),HSP2,zD⟩
       case measure=>(simp[intOf];try omega)
      ·have HE:=HST.out
       rw[Ak hk] at HE;have HRES:Hid (RES=(s5,ID)):=hid (by rw[←HRZ.out,HE];exact Ak hk);have HG:=hid (fun (W:World) (hW:A6 W g B a s5)=>(by have:=AL W hW;rw[Ae hk] at this;exact this:Calls Tryz.prog 112 #[.pointer (some ⟨g,0,none⟩)] W fun r w'=>r=.returned (.bool false)∧Below W.heap.size W w'));clear HE hk;go_wp2_with fail;refine (HG.out _ HIW.out.rd).mono ?_;rintro r w10 ⟨rfl,hb10⟩;have hz10:=hb10.size;rw[IB] at hz10;have HI10:=hid (HIW.out.row (hb10.mono (by rw[IB];omega)));have HR10:=hid (HRW.out.later hb10);clear hb10;go_wp2_with fail;refine (HG.out _ HI10.out.rd).mono ?_;rintro r w11 ⟨rfl,hb11⟩;have HI11:=hid (HI10.out.row (hb11.mono zD));have HR11:=hid (HR10.out.later hb11);clear hb11;obtain⟨r0,r1,r2,g0,g1,g2,lr2⟩:=Ki HR11.out;go_wp2_with fail;obtain⟨n0,n1,n2,_,_,_,ln⟩:=Ki (((HR11.out.set 0 (.int .u64 0)).set 1 (.int .u64 0)).set 2 (.slice none 0 0));simp only[Exit.noGoto];go_wp2_with fail;rw[HRES.out];refine Al (v:=.agg #[.int .u64 0,.int .u64 0,.slice none 0 0]) zAr rfl ⟨_,rfl,Bt (xs:=[]) rfl (An _) (Am _) (.inl rfl),(HI11.out.row zA).to⟩
     ·obtain rfl:j=k:=by omega
      have d1:decide ((j:Int)<(j:Int))=false:=Ae zD;have HE:=HSP.out;rw[Lx] at HE;have HE2:U=(st,J):=HE;clear HE;by_cases hk:st.k=0
      ·have hy:=HY.out (by rw[HE2];exact hk)
       have HRES:Hid (RES=(st,⟨lo,y,J⟩)):=hid (by rw[←HRZ.out,HE2,hy];exact Ai hk);have HG:=hid (fun (W:World) (hW:A6 W g B a st)=>(by have:=AL W hW;rw[Ad hk] at this;exact this:Calls Tryz.prog 112 #[.pointer (some ⟨g,0,none⟩)] W fun r w'=>r=.returned (.bool true)∧Below W.heap.size W w'));clear HE2 hk hy;go_wp2_with fail;refine (HG.out _ hIr.out.rd).mono ?_;rintro r w11 ⟨rfl,hb11⟩;have hz11:=hb11.size;have HI11:=hid (hIr.out.row (hb11.mono zD));have HS11:=hSr.out.later hb11;have HR11:=hRr.out.later hb11;have HO11:=hid (Ba.slice (An _) (Ba.below HO.out hb11));clear x0 x1 x2 f0 f1 f2 l8 hb11;obtain⟨x0,x1,x2,f0,f1,f2,l8⟩:=Ki HS11;obtain⟨r0,r1,r2,g0,g1,g2,lr2⟩:=Ki HR11;go_wp2_with fail;obtain⟨n0,n1,n2,_,_,_,ln⟩:=Ki (((HR11.set 0 (.int .u64 lo)).set 1 (.int .u64 y)).set 2 (.slice av J.length cv));simp only[Exit.noGoto];go_wp2_with fail;rw[HRES.out];refine Al (v:=.agg #[.int .u64 lo,.int .u64 y,.slice av J.length cv]) zAr rfl ⟨_,rfl,?_,(HI11.out.row zA).to⟩;refine EH.mono (EH.keep HO11.out fun b hb=> ?_) fun b hb=>⟨zAl,by have:=hb.2;simp;omega⟩;have:=hb.1;repeat rw[AB _ _ _ _ zJ]
      ·have HRES:Hid (RES=(st,ID)):=hid (by rw[←HRZ.out,HE2];exact Ak hk)
       have HG:=hid (fun (W:World) (hW:A6 W g B a st)=>(by have:=AL W hW;rw[Ae hk] at this;exact this:Calls Tryz.prog 112 #[.pointer (some ⟨g,0,none⟩)] W fun r w'=>r=.returned (.bool false)∧Below W.heap.size W w'));clear HE2 hk;go_wp2_with fail;refine (HG.out _ hIr.out.rd).mono ?_;rintro r w11 ⟨rfl,hb11⟩;have hz11:=hb11.size;have HI11:=hid (hIr.out.row (hb11.mono zD));have HR11:=hid (hRr.out.later hb11);clear x0 x1 x2 f0 f1 f2 l8 hb11;obtain⟨r0,r1,r2,g0,g1,g2,lr2⟩:=Ki HR11.out;go_wp2_with fail;obtain⟨n0,n1,n2,_,_,_,ln⟩:=Ki (((HR11.out.set 0 (.int .u64 0)).set 1 (.int .u64 0)).set 2 (.slice none 0 0));simp only[Exit.noGoto];go_wp2_with fail;rw[HRES.out];refine Al (v:=.agg #[.int .u64 0,.int .u64 0,.slice none 0 0]) zAr rfl ⟨_,rfl,Bt (xs:=[]) rfl (An _) (Am _) (.inl rfl),(HI11.out.row zA).to⟩
structure U3(w:World)(a:Option Addr)(n c:Nat)(g6 g8 L0:Nat)(lo y:Int)(st:Rs)(v:Value)(J:List (List Int))(W:World):Prop where
 d:Blk W g6 91 #[.slice a n c,.int .i64 (st.p:Int),.int .i64 st.k,.int .i64 st.f]
 s:Blk W g8 219 #[.int .u64 lo,.int .u64 y,v]
 r4:Blk W (w.heap.size+1) 91 #[.slice none 0 0,.int .i64 0,.int .i64 0,.int .i64 0]
 r5:Blk W (w.heap.size+1+1) 219 #[.int .u64 0,.int .u64 0,.slice none 0 0]
 own:Ba L0 Bb L0 37 1 W v J
 bel:Below w.heap.size w W
 le:L0≤W.heap.size
theorem U3.later{g6 g8 L0:Nat}{lo y:Int}{st:Rs}{J:List (List Int)}(h:U3 w a n c g6 g8 L0 lo y st v J W)(hb:Below W.heap.size W W'):U3 w a n c g6 g8 L0 lo y st v J W':=
 ⟨h.d.later hb,h.s.later hb,h.r4.later hb,h.r5.later hb,Ba.below h.own hb,Af hb h.bel,A4 h.le hb.size⟩
theorem Rs.Ro{lo:Int}(h:(s.BB B lo).1.k≠0):(s.BB B lo).2=ID:=by
 unfold Rs.BB at h ⊢;dsimp only at h ⊢;split at h
 ·rename_i h1
  exact absurd h1 h
 ·rename_i h1
  rw[Ak h1]
theorem Rs.Xp{lo:Int}(h0:0≤lo):inU (s.BB B lo).2.lo∧inU (s.BB B lo).2.hi:=by
 by_cases hk:(s.BB B lo).1.k=0
 ·obtain⟨h1,h2⟩:=Rs.Pe hk
  simp only[Dc,Aq,Av] at h1;unfold inU;omega
 ·rw[Rs.Ro hk]
  exact⟨⟨zO,zO⟩,⟨zO,zO⟩⟩
theorem GS(h:Blk w g t #[v0,v1]):w.cell? ⟨g,0,none⟩=some v0∧w.cell? ⟨g,1,none⟩=some v1∧w.frozen? ⟨g,0,none⟩=false∧w.frozen? ⟨g,1,none⟩=false∧g<w.heap.size:=
 ⟨h.cell 0,h.cell 1,h.free 0,h.free 1,h.lt⟩
theorem Rs.NA{lo:Int}{out:List BV}(h:s.k≠0):∀n,(Rs.BJ B n s lo out).1=s
 | 0=>rfl
 | n+1=>by
  unfold Rs.BJ;rw[Rs.Iu h,Ak h]
theorem We(w:World)(h:A6 w g B a s)(hB:B.length≤1000000000):
  Calls Tryz.prog 319 #[.pointer (some ⟨g,0,none⟩)] w fun r w'=>∃v,r=.returned (.agg #[.int .u64 (s.Ds B).2.epoch,v])∧Bq.r (FZ w w') w' [v] (s.Ds B).2.stripes∧AG w g B a (s.Ds B).1 w':=by
 have hlt:=h.blk.lt;have HIN:=hid (DC.refl h);obtain⟨j0,ji,jz0,jz1,jz2⟩:=A3 Uq;have HEP:=hid (fun (W:World) (hW:A6 W g B a s)=>KJ W hW hB);unfold Rs.Ds Rs.many;clear h;generalize s.ep B=E at*;obtain⟨s1,e⟩:=E;dsimp only at*;have HAT:=hid (fun (W:World) (hW:A6 W g B a s1)=>Cv W hW);have HVI:=hid (fun (W:World) (hW:A6 W g B a s1)=>Ef W hW zD 64 zD);have hn64:=Rs.JH (B:=B) (s:=s1) (m:=64);generalize s1.int B 64=I at*;obtain⟨s2,n⟩:=I;dsimp only at*;have hn:n≤64:=zD;clear hn64;obtain⟨s3,hs3⟩:∃t,t=(if n=0 then s2.fail 3 s1.p else s2):=⟨_,rfl⟩;rw[←hs3];have HS3:=hid hs3;clear hs3;obtain⟨U,hU⟩:∃t,t=Rs.BJ B n s3 0 []:=⟨_,rfl⟩;rw[←hU];have HU:=hid hU;clear hU;generalize hRES:(if (if U.2.1=4611686018427387904 then U.1 else U.1.fail 3 U.1.p).k=0 then ((if U.2.1=4611686018427387904 then U.1 else U.1.fail 3 U.1.p),(⟨(e:Int),U.2.2⟩:EZ)) else ((if U.2.1=4611686018427387904 then U.1 else U.1.fail 3 U.1.p),DE))=RES;have HRES:=hid hRES;clear hRES;go_enter Tryz.func319,Tryz.ntmps319;go_wp2_with fail;refine (HEP.out _ (HIN.out.row zA).rd).mono ?_;rintro r w1 ⟨rfl,hst⟩;have hR1:=hid (Blk.tch (Blk.new w 43 #[.int .u64 0,.slice none 0 0]) hst.2 zD);have hI1:=hid ((HIN.out.row zA).step hst);have hz1:w.heap.size<w1.heap.size:=hR1.out.lt;clear hst;go_wp2_with fail;refine (HAT.out _ (hI1.out.row ((by (repeat (first | with_reducible exact Below.refl _ _ | with_reducible assumption | (with_reducible refine AH ?_ _) | (with_reducible refine Below.setCell ?_ zF _) | (with_reducible refine Below.drew ?_) | (with_reducible refine below_drewN ?_ _) | (refine Af zG ?_))):Below w1.heap.size w1 _).mono zD)).rd).mono ?_;rintro r w1' ⟨rfl,rfl⟩;go_wp2_with fail;refine (HVI.out _ (hI1.out.row ((by (repeat (first | with_reducible exact Below.refl _ _ | with_reducible assumption | (with_reducible refine AH ?_ _) | (with_reducible refine Below.setCell ?_ zF _) | (with_reducible refine Below.drew ?_) | (with_reducible refine below_drewN ?_ _) | (refine Af zG ?_))):Below w1.heap.size w1 _).mono zD)).rd).mono ?_;rintro r w2 ⟨rfl,hst⟩;have hP2:=hid (Blk.tch (Blk.new w1 43 #[.int .u64 (e:Int),.slice none 0 0]) hst.2 zD);have hR2:=hid (Blk.tch (hR1.out.alloc _) hst.2 zD);have hI2:=hid ((hI1.out.row ((by (repeat (first | with_reducible exact Below.refl _ _ | with_reducible assumption | (with_reducible refine AH ?_ _) | (with_reducible refine Below.setCell ?_ zF _) | (with_reducible refine Below.drew ?_) | (with_reducible refine below_drewN ?_ _) | (refine Af zG ?_))):Below w1.heap.size w1 _).mono zD)).step hst);have hz2:w1.heap.size<w2.heap.size:=hP2.out.lt;clear hst;go_upto_if 16 with (fail);go_cut [] from 15 to 19 (fun V=>Hid (DC w V g B a s3)∧Hid (Blk V w.heap.size 43 #[.int .u64 0,.slice none 0 0])∧Hid (Blk V w1.heap.size 43 #[.int .u64 (e:Int),.slice none 0 0]))
 case first=>
  by_cases hp:n=0
  ·have HE:=HS3.out
   rw[Ai hp] at HE;have HE2:=hid HE;have d1:((n:Int)==0)=true:=by simp[hp]
   clear HE hp;rw[d1];go_wp2_with fail;refine (BP _ hI2.out.rd 3 (s1.p:Int) zD).mono ?_;rintro r w3 ⟨rfl,hst⟩;have hI3:=hid (hI2.out.step hst);have hR3:=hid (Blk.tch hR2.out hst.2 zD);have hP3:=hid (Blk.tch hP2.out hst.2 zD);clear hst;go_wp2_with fail;go_meet
   case rel=>exact ⟨hid (by rw[HE2.out];exact hI3.out),hR3,hP3⟩
  ·have HE:=HS3.out
   rw[Ak hp] at HE;have HE2:=hid HE;have d1:((n:Int)==0)=false:=by simp[hp]
   clear HE hp;rw[d1];go_wp2_with fail;go_meet
   case rel=>exact ⟨hid (by rw[HE2.out];exact hI2.out),hR2,hP2⟩
 case rest=>
  obtain⟨hI3,hR3,hP3⟩:=hcut;obtain⟨w3,hwn⟩:∃W:World,W=wc:=⟨_,rfl⟩;subst hwn;have lP3:=hP3.out.lt;go_wp2_with fail;go_loopw [6,21] (fun f i wr=>∃(j:Nat) (J:List BV) (st:Rs) (lo:Int) (av:Option Addr) (cv:Nat),j≤n∧i=.int .i64 j∧f=.int .u64 lo∧0≤lo∧lo≤18446744073709551615∧Hid (J.length=j)∧Hid (Ba w3.heap.size IY w3.heap.size 219 3 wr (.slice av J.length cv) J)∧Hid (DC w wr g B a st)∧Hid (Blk wr w.heap.size 43 #[.int .u64 0,.slice none 0 0])∧Hid (Blk wr w1.heap.size 43 #[.int .u64 (e:Int),.slice av J.length cv])∧Hid (st.k=0→U=Rs.BJ B (n-j) st lo J)∧Hid (st.k≠0→U.1=st)∧w3.heap.size≤wr.heap.size) (fun _ i _=>n-(intOf i).toNat)
  case atStart=>exact ⟨0,[],s3,0,none,0,Am _,rfl,rfl,zD,zD,hid rfl,hid Ba.nil,hI3,hR3,hP3,hid (fun _=>HU.out),hid (fun hk=>by rw[HU.out];exact Rs.NA hk n),An _⟩
  case round=>
   obtain⟨j,J,st,lo,av,cv,hj,rfl,rfl,hl0,hl1,HJ,HO,hIr,hRr,hPr,HSP,HSN,hzr⟩:=hrel;obtain⟨x0,x1,f0,f1,l8⟩:=GS hPr.out;have lr:=hRr.out.lt;have hJ9:J.length≤64:=by have:=HJ.out;omega
   rcases Bh j n with hlt2 | hge
   ·have i1:(j:Int)<(n:Int):=by omega
    have d1:decide ((j:Int)<(n:Int))=true:=Ad i1;have hsp1:(st.BB B lo).1.k=0→U=Rs.BJ B (n-(j+1)) (st.BB B lo).1 (st.BB B lo).2.hi (J++[(st.BB B lo).2]):=fun hk=>by
     rw[HSP.out (Rs.Rq hk),show n-j=(n-(j+1))+1 by omega];exact Ai hk
    have hsn1:(st.BB B lo).1.k≠0→U.1=(st.BB B lo).1:=fun hk=>by
     by_cases hs:st.k=0
     ·rw[HSP.out hs,show n-j=(n-(j+1))+1 by omega]
      exact GL Prod.fst (Ak hk)
     ·rw[Rs.Iu hs]
      exact HSN.out hs
    have hbu:=Rs.Xp (B:=B) (s:=st) hl0;have HSR:=hid (Rn wr hIr.out.rd hB lo ⟨hl0,hl1⟩);generalize st.BB B lo=T at*;obtain⟨s5,z⟩:=T;dsimp only at*;have HS1:=hid hsp1;have HS2:=hid hsn1;have HOB:Hid (∀q,(Value.slice av J.length cv).ownBlock=some q→w3.heap.size≤q∧q<wr.heap.size):=hid (by
     obtain⟨cells0,OA0⟩:=HO.out;exact fun q e=>En OA0.1 q e)
    clear hsp1 hsn1;go_wp2_with fail;refine HSR.out.mono ?_;rintro r w5 ⟨v5,rfl,hv5,hst⟩;obtain⟨a5,c5,hfv,hv5',_⟩:=AN hv5;simp only[As,AM] at hfv;subst hfv;have hI5:=hid (hIr.out.step hst);have hR5:=hid (Blk.tch hRr.out hst.2 zD);have hP5:=hid (Blk.tch hPr.out hst.2 zD);have hO5:=hid (Ba.Aam HO.out hst.2 (fun b h1 h2 e=>zD));have hz5:=hst.2.size;obtain⟨y0,y1,g0,g1,l5⟩:=GS hP5.out;have hb68:Below w5.heap.size w5 ((w5.alloc (.cells #[.int .u64 z.lo,.int .u64 z.hi,.slice a5 z.sets.length c5] 219)).alloc (.cells #[.int .u64 z.lo,.int .u64 z.hi,.slice a5 z.sets.length c5] 219)):=zA;obtain⟨cells,OA⟩:=Ba.below hO5.out hb68;have hx:IY.r (fun b=>w3.heap.size≤b∧b<((w5.alloc (.cells #[.int .u64 z.lo,.int .u64 z.hi,.slice a5 z.sets.length c5] 219)).alloc (.cells #[.int .u64 z.lo,.int .u64 z.hi,.slice a5 z.sets.length c5] 219)).heap.size∧(Value.slice av J.length cv).ownBlock≠some b) ((w5.alloc (.cells #[.int .u64 z.lo,.int .u64 z.hi,.slice a5 z.sets.length c5] 219)).alloc (.cells #[.int .u64 z.lo,.int .u64 z.hi,.slice a5 z.sets.length c5] 219)) [.int .u64 z.lo,.int .u64 z.hi,.slice a5 z.sets.length c5] z:=by
     refine VT hbu.1 hbu.2 (EH.mono (EH.keep hv5 fun b hb=>hb68.block b hb.2) fun b hb=>⟨?_,?_,fun e=> ?_⟩)
     ·have:=hb.1;omega
     ·have:=hb.2;simp;omega
     ·have:=(HOB.out b e).2;have:=hb.1;omega
    have HX:=hid hx;have HA:=hid OA;have HS9:Hid (w3.heap.size≤((w5.alloc (.cells #[.int .u64 z.lo,.int .u64 z.hi,.slice a5 z.sets.length c5] 219)).alloc (.cells #[.int .u64 z.lo,.int .u64 z.hi,.slice a5 z.sets.length c5] 219)).heap.size):=hid zH;have Q6:Blk ((w5.alloc (.cells #[.int .u64 z.lo,.int .u64 z.hi,.slice a5 z.sets.length c5] 219)).alloc (.cells #[.int .u64 z.lo,.int .u64 z.hi,.slice a5 z.sets.length c5] 219)) w5.heap.size 219 #[.int .u64 z.lo,.int .u64 z.hi,.slice a5 z.sets.length c5]:=zC;have HQ6:=hid Q6;clear hx OA hst hv5 hv5' Q6 x0 x1 f0 f1;go_wp2_with (at_builtin;go_loud (refine Ar rfl _ _ _ rfl w3.heap.size 219 j0 (.agg #[.int .u64 0,.int .u64 0,.slice none 0 0]) 3 40 Tryz.underlying41 ji jz0 jz1 jz2 rfl zO (.slice av J.length cv) J.length _ rfl HA.out.1 (some ⟨w5.heap.size+1,0,none⟩) 1 1 [.int .u64 z.lo,.int .u64 z.hi,.slice a5 z.sets.length c5] rfl (By (w5.alloc (.cells #[.int .u64 z.lo,.int .u64 z.hi,.slice a5 z.sets.length c5] 219)) 219 _ rfl zN rfl) (by intro u hu;simp at hu;rcases hu with rfl | rfl | rfl<;>rfl) zK zD HS9.out ?_;intro v9 w9 hown9 hgrow9 hat9;obtain⟨a9,c9,rfl⟩:=AD hown9;have OP:=hid (Ba.push HA.out rfl HX.out hown9 hgrow9 hat9 hgrow9.size);have hb9:=hid (show Below w3.heap.size w5 w9 from Below.grown (hb68.mono zD) hgrow9 HS9.out (fun g e=>(HOB.out g e).1));have hz9:=hgrow9.size;simp at hz9;have hQ9:Blk w9 w5.heap.size 219 #[.int .u64 z.lo,.int .u64 z.hi,.slice a5 z.sets.length c5]:=(hgrow9.block w5.heap.size zH (fun e=>by have:=(HOB.out _ e.symm).2;omega)).trans HQ6.out;have hP9:=hP5.out.below hb9.out zD;obtain⟨n0,n1,n2,n3,n4⟩:=GS hP9;obtain⟨q0,q1,q2,_,_,_,lq⟩:=Ki (Blk.far hQ9 (p:=⟨w1.heap.size,1,none⟩) zJ (.slice a9 (J.length+1) c9));have HP9:=hid hP9;clear hown9 hgrow9 hat9 hQ9 hP9 y0 y1 g0 g1 l5))
    have HO9:=hid (Ba.Aam OP.out ((Tch.refl (·=w1.heap.size) w9).setCell (p:=⟨w1.heap.size,1,none⟩) (fun _=>rfl) (.slice a9 (J.length+1) c9)) (fun b h1 h2 e=>zD));go_roundw
    case rel=>exact ⟨j+1,J++[z],s5,z.hi,a9,c9,zD,zV,rfl,hbu.2.1,hbu.2.2,hid (by rw[Ag,HJ.out];rfl),hid (by rw[Ag];exact HO9.out),hid ((hI5.out.row (hb9.out.mono zD)).row zA),hid (Blk.far (hR5.out.below hb9.out zD) zJ _),hid (by rw[Ag];exact HP9.out.set 1 _),HS1,HS2,by rw[IB];omega⟩
    case measure=>(simp[intOf];try omega)
   ·obtain rfl:j=n:=by omega
    have d1:decide ((j:Int)<(j:Int))=false:=Ae zD;by_cases hk:st.k=0
    ·have HE:=HSP.out hk
     rw[Lx] at HE;have HE2:U=(st,lo,J):=HE;clear HE;by_cases hm:lo=4611686018427387904
     ·have HR2:Hid (RES=(st,⟨(e:Int),J⟩)):=hid (by
       rw[←HRES.out,HE2];dsimp only;rw[Ai hm];exact Ai hk)
      have dn:(lo !=4611686018427387904)=false:=by simp[hm]
      have HG:=hid (fun (W:World) (hW:A6 W g B a st)=>(by have:=AL W hW;rw[Ad hk] at this;exact this:Calls Tryz.prog 112 #[.pointer (some ⟨g,0,none⟩)] W fun r w'=>r=.returned (.bool true)∧Below W.heap.size W w'));clear hm hk HE2;go_wp2_with fail;refine (HG.out _ hIr.out.rd).mono ?_;rintro r w11 ⟨rfl,hb11⟩;have hz11:=hb11.size;have HI11:=hid (hIr.out.row (hb11.mono zD));have HP11:=hPr.out.later hb11;have HR11:=hRr.out.later hb11;have HO11:=hid (Ba.slice (An _) (Ba.below HO.out hb11));clear x0 x1 f0 f1 l8 hb11;obtain⟨x0,x1,f0,f1,l8⟩:=GS HP11;obtain⟨r0,r1,g0,g1,lr2⟩:=GS HR11;go_wp2_with fail;obtain⟨n0,n1,_,_,ln⟩:=GS ((HR11.set 0 (.int .u64 (e:Int))).set 1 (.slice av J.length cv));rw[HR2.out];refine Al (v:=.agg #[.int .u64 (e:Int),.slice av J.length cv]) ZZ rfl ⟨_,rfl,?_,(HI11.out.row zA).to⟩;refine Bq.mono (Bq.keep HO11.out fun b hb=> ?_) fun b hb=>⟨zAl,by have:=hb.2;simp;omega⟩;have:=hb.1;repeat rw[AB _ _ _ _ zJ]
     ·have hfk:(st.fail 3 (st.p:Int)).k≠0:=Rs.BE zD
      have HR2:Hid (RES=(st.fail 3 (st.p:Int),DE)):=hid (by
       rw[←HRES.out,HE2];dsimp only;rw[Ak hm];exact Ak hfk)
      have dn:(lo !=4611686018427387904)=true:=by simp[hm]
      have HFA:=hid (fun (W:World) (hW:A6 W g B a st)=>BP W hW 3 (st.p:Int) zD);have HAS:=hid (fun (W:World) (hW:A6 W g B a st)=>Cv W hW);have HG:=hid (fun (W:World) (hW:A6 W g B a (st.fail 3 (st.p:Int)))=>(by have:=AL W hW;rw[Ae hfk] at this;exact this:Calls Tryz.prog 112 #[.pointer (some ⟨g,0,none⟩)] W fun r w'=>r=.returned (.bool false)∧Below W.heap.size W w'));clear hm hk hfk HE2;go_wp2_with fail;refine (HAS.out _ hIr.out.rd).mono ?_;rintro r wr' ⟨rfl,rfl⟩;go_wp2_with fail;refine (HFA.out _ hIr.out.rd).mono ?_;rintro r w10 ⟨rfl,hst⟩;have hI10:=hid (hIr.out.step hst);have hR10:=hid (Blk.tch hRr.out hst.2 zD);clear hst;go_wp2_with fail;refine (HG.out _ hI10.out.rd).mono ?_;rintro r w11 ⟨rfl,hb11⟩;have HI11:=hid (hI10.out.row (hb11.mono (by have:=hI10.out.tch.size;omega)));have HR11:=hid (hR10.out.later hb11);clear hb11 x0 x1 f0 f1 l8;obtain⟨r0,r1,g0,g1,lr2⟩:=GS HR11.out;go_wp2_with fail;obtain⟨n0,n1,_,_,ln⟩:=GS ((HR11.out.set 0 (.int .u64 0)).set 1 (.slice none 0 0));rw[HR2.out];refine Al (v:=.agg #[.int .u64 0,.slice none 0 0]) ZZ rfl ⟨_,rfl,Bt (xs:=[]) rfl (An _) (Am _) (.inl rfl),(HI11.out.row zA).to⟩
    ·have HE:=HSN.out hk
     have hfb:st.fail 3 (st.p:Int)=st:=Rs.Cb hk;have HR2:Hid (RES=(st,DE)):=hid (by
      rw[←HRES.out,HE,hfb,ite_self];exact Ak hk)
     have HG:=hid (fun (W:World) (hW:A6 W g B a st)=>(by have:=AL W hW;rw[Ae hk] at this;exact this:Calls Tryz.prog 112 #[.pointer (some ⟨g,0,none⟩)] W fun r w'=>r=.returned (.bool false)∧Below W.heap.size W w'));have HFB:=hid hfb;clear hk HE hfb;by_cases hm:lo=4611686018427387904
     ·have dn:(lo !=4611686018427387904)=false:=by simp[hm]
      clear hm;go_wp2_with fail;refine (HG.out _ hIr.out.rd).mono ?_;rintro r w11 ⟨rfl,hb11⟩;have HI11:=hid (hIr.out.row (hb11.mono zD));have HR11:=hid (hRr.out.later hb11);clear hb11 x0 x1 f0 f1 l8;obtain⟨r0,r1,g0,g1,lr2⟩:=GS HR11.out;go_wp2_with fail;obtain⟨n0,n1,_,_,ln⟩:=GS ((HR11.out.set 0 (.int .u64 0)).set 1 (.slice none 0 0));rw[HR2.out];refine Al (v:=.agg #[.int .u64 0,.slice none 0 0]) ZZ rfl ⟨_,rfl,Bt (xs:=[]) rfl (An _) (Am _) (.inl rfl),(HI11.out.row zA).to⟩
     ·have dn:(lo !=4611686018427387904)=true:=by simp[hm]
      clear hm;have HFA:=hid (fun (W:World) (hW:A6 W g B a st)=>(by have:=BP W hW 3 (st.p:Int) zD;rw[HFB.out] at this;exact this:Calls Tryz.prog 124 #[.pointer (some ⟨g,0,none⟩),.int .i64 3,.int .i64 (st.p:Int)] W fun r w'=>r=.returned (.tuple #[])∧AG W g B a st w'));have HAS:=hid (fun (W:World) (hW:A6 W g B a st)=>Cv W hW);go_wp2_with fail;refine (HAS.out _ hIr.out.rd).mono ?_;rintro r wr' ⟨rfl,rfl⟩;go_wp2_with fail;refine (HFA.out _ hIr.out.rd).mono ?_;rintro r w10 ⟨rfl,hst⟩;have hI10:=hid (hIr.out.step hst);have hR10:=hid (Blk.tch hRr.out hst.2 zD);clear hst;go_wp2_with fail;refine (HG.out _ hI10.out.rd).mono ?_;rintro r w11 ⟨rfl,hb11⟩;have HI11:=hid (hI10.out.row (hb11.mono (by have:=hI10.out.tch.size;omega)));have HR11:=hid (hR10.out.later hb11);clear hb11 x0 x1 f0 f1 l8;obtain⟨r0,r1,g0,g1,lr2⟩:=GS HR11.out;go_wp2_with fail;obtain⟨n0,n1,_,_,ln⟩:=GS ((HR11.out.set 0 (.int .u64 0)).set 1 (.slice none 0 0));rw[HR2.out];refine Al (v:=.agg #[.int .u64 0,.slice none 0 0]) ZZ rfl ⟨_,rfl,Bt (xs:=[]) rfl (An _) (Am _) (.inl rfl),(HI11.out.row zA).to⟩
structure Aah(w:World)(a:Option Addr)(n c:Nat)(g6 g8 L0:Nat)(e:Int)(st:Rs)(v:Value)(J:List BV)(W:World):Prop where
 d:Blk W g6 91 #[.slice a n c,.int .i64 (st.p:Int),.int .i64 st.k,.int .i64 st.f]
 s:Blk W g8 43 #[.int .u64 e,v]
 r4:Blk W (w.heap.size+1) 91 #[.slice none 0 0,.int .i64 0,.int .i64 0,.int .i64 0]
 r5:Blk W (w.heap.size+1+1) 43 #[.int .u64 0,.slice none 0 0]
 own:Ba L0 IY L0 219 3 W v J
 bel:Below w.heap.size w W
 le:L0≤W.heap.size
theorem Aah.later{g6 g8 L0:Nat}{e:Int}{st:Rs}{J:List BV}(h:Aah w a n c g6 g8 L0 e st v J W)(hb:Below W.heap.size W W'):Aah w a n c g6 g8 L0 e st v J W':=
 ⟨h.d.later hb,h.s.later hb,h.r4.later hb,h.r5.later hb,Ba.below h.own hb,Af hb h.bel,A4 h.le hb.size⟩
end Go.Proofs.YtfddhafbhceoaaaGreat
