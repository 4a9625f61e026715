/- Mini: Needed by rpcReads_walk, part 9: texts put together by shake.py; no condition. -/
import Derived.Test.YtlbffbkbkajciaaGreatZU6
import Derived.Test.YtlbffbkbkajciaaGreatZU5
import Derived.Test.YtlbffbkbkajciaaGreatZU4
import Derived.Test.YtlbffbkbkajciaaGreatZU1
import Derived.Test.YtlbffbkbkajciaaGreatZU8
import Derived.Test.YtlbffbkbkajciaaGreatZU3
import Derived.Deep.AppendLies
import Derived.Deep.RegionLaw
import Derived.Test.YtlbffbkbkajciaaGreatZU7
import Derived.Deep.Cut
import Derived.Deep.CutRange
import Derived.BigRegion
import Derived.Test.YtlbffbkbkajciaaGreatZU2
set_option linter.unusedVariables false
set_option linter.unusedSimpArgs false
set_option maxRecDepth 100000
set_option maxHeartbeats 6400000
namespace Go.Bs
theorem zCh{p:Prop}(h:p:=by have := HJ.out; omega):p:=h
theorem zCe{p:Prop}(h:p:=by simp [results, Tryz.results194, go_sem, x0, x1, x2, f0, f1, f2, l0]):p:=h
theorem zB1{p:Prop}(h:p:=by simp [results, Tryz.results242, go_sem, y0, y1, y2, y3, g0, g1, g2, g3, l1]):p:=h
theorem zBa{p:Prop}(h:p:=by rw [Au, HJ.out]; rfl):p:=h
theorem zA8{p:Prop}(h:p:=by simp [results, Tryz.results236, go_sem, n0, n1, n2, ln]):p:=h
theorem zAo{p:Prop}(h:p:=by simp [results, Tryz.results128, go_sem, x0, x1, x2, x3, f0, f1, f2, f3, l0, y0, y1, y2, y3, g0, g1, g2, g3, l1, z0, z1, z2, e0, e1, e2, l2]):p:=h
theorem zAd{p:Prop}(h:p:=by simp [results, Tryz.results124, go_sem, y0, y1, y2, y3, l1]):p:=h
theorem ZS{p:Prop}(h:p:=by have := hb.1; omega):p:=h
theorem ZL{p:Prop}(h:p:=by exact (((HBE4.out.setCell (by dsimp only; omega) _).setCell (by dsimp only; omega) _).setCell (by dsimp only; omega) _).setCell (by dsimp only; omega) _):p:=h
theorem CW:type_of% @Decidable.byContradiction:=@Decidable.byContradiction
end Go.Bs
namespace Go.Proofs.YtlbffbkbkajciaaGreat
open Go.RowKit Go.Bs Go.Maps
variable{B:List UInt8}{g i lo sz:Nat}{F:Nat → Prop}{a:Option Addr}{s:Rs}{e t:TypeId}{v v0 v1 v2:Value}{w w':World}
theorem Lf(w:World)(a:Option Addr)(c:Nat)(B:List UInt8)(hl:Ah.r (·<w.heap.size) w [.slice a B.length c] B)(s:Rs)(hs:s.ok B.length)(hB:B.length≤1000000000000)(N:Nat)(hN:N≤1000):
  Calls Tryz.prog 124 #[CV a B.length c s,.int .i64 (N:Int)] w fun r w'=>∃v,r=.returned (.tuple #[CV a B.length c (Rs.CL B N s []).1,v])∧AV.r (CO w w') w' [v] (Rs.CL B N s []).2∧Below w.heap.size w w':=by
 obtain⟨i0,hi,hz0,hz1,hz2⟩:=Bc Oz;have HL:=hid hl;have HOK:=hid hs;clear hl hs;unfold CV at*;go_enter Tryz.func124,Tryz.ntmps124;go_wp2_with fail;go_loopw [6,7] (fun v i wr=>∃(J:List Int) (st:Rs),J.length≤N∧i=.int .i64 (J.length:Int)∧wr.ownsRow (w.heap.size+2) 22 1 v J.length (Bu J)∧Hid (∀x∈J,0≤x∧x≤18446744073709551615)∧Blk wr w.heap.size 60 #[.slice a B.length c,.int .i64 (st.p:Int),.int .i64 st.k,.int .i64 st.f]∧Blk wr (w.heap.size+1) 60 #[.slice none 0 0,.int .i64 0,.int .i64 0,.int .i64 0]∧Below w.heap.size w wr∧w.heap.size+2≤wr.heap.size∧Hid (st.ok B.length)∧Hid (Rs.CL B N s []=Rs.CL B (N-J.length) st J)) (fun _ i _=>N-(intOf i).toNat)
 case atStart=>exact ⟨[],s,Ao _,rfl,⟨rfl,.inl ⟨rfl,rfl⟩⟩,hid zP,zB,zB,zA,zP,HOK,hid rfl⟩
 case round=>
  obtain⟨J,st,hk,rfl,hown,hJb,hD,hRs,hbe,hsz,hok,hsp⟩:=hrel;obtain⟨av,cv,rfl⟩:=AX hown;have hJ9:J.length≤1000:=zD;obtain⟨x0,x1,x2,x3,f0,f1,f2,f3,l0⟩:=Aq hD;obtain⟨y0,y1,y2,y3,g0,g1,g2,g3,l1⟩:=Aq hRs;have HO:=hid hown;have HD:=hid hD;have HRS:=hid hRs;have HBE:=hid hbe;clear hown hD hRs hbe;rcases Bm J.length N with hlt2 | hge
  ·have i1:(J.length:Int)<(N:Int):=by omega
   have d1:decide ((J.length:Int)<(N:Int))=true:=Ae i1;have d1':decide (J.length<N)=true:=Ae hlt2;have hVR:=hid (fun (W:World) (hW:Below w.heap.size w W)=>(by have:=CM W a c B (lift HL.out hW) st hok.out hB;unfold CV at this;exact this:Calls Tryz.prog 139 #[.agg #[.slice a B.length c,.int .i64 (st.p:Int),.int .i64 st.k,.int .i64 st.f]] W fun r w'=>r=.returned (.tuple #[.agg #[.slice a B.length c,.int .i64 ((st.num B).1.p:Int),.int .i64 (st.num B).1.k,.int .i64 (st.num B).1.f],.int .u64 ((st.num B).2:Int)])∧Below W.heap.size W w'));have hx:=Rs.Cp (B:=B) (s:=st);have hnok:=Rs.CC (B:=B) hok.out;have HFL:=hid (fun (W:World) (t:Rs)=>(by have:=Bk W a B.length c t 13 (st.p:Int) zD;unfold CV at this;exact this:Calls Tryz.prog 120 #[.agg #[.slice a B.length c,.int .i64 (t.p:Int),.int .i64 t.k,.int .i64 t.f],.int .i64 13,.int .i64 (st.p:Int)] W fun r w'=>r=.returned (.agg #[.slice a B.length c,.int .i64 ((t.fail 13 (st.p:Int)).p:Int),.int .i64 (t.fail 13 (st.p:Int)).k,.int .i64 (t.fail 13 (st.p:Int)).f])∧Below W.heap.size W w'));have hstep:Rs.CL B (N-J.length) st J=(if (st.num B).1.k=0 then (if J≠[]∧18446744073709551615-J.getLastD 0≤((st.num B).2:Int) then ((st.num B).1.fail 13 st.p,[]) else Rs.CL B (N-(J.length+1)) (st.num B).1 (J++[if J=[] then ((st.num B).2:Int) else ((st.num B).2:Int)+(J.getLastD 0+1)])) else ((st.num B).1,[])):=by
    rw[show N-J.length=(N-(J.length+1))+1 by omega];rfl
   generalize st.num B=R at*;obtain⟨st1,x⟩:=R;dsimp only at*;have HOK1:=hid hnok;clear hnok;have hx0':(0:Int)≤(x:Int):=zD;have hx1':(x:Int)≤18446744073709551615:=zD;by_cases hk1:st1.k=0
   ·rw[An hk1] at hstep
    have dn:(st1.k !=(0:Int))=false:=zBr;by_cases hnil:J=[]
    ·have dz:decide ((0:Int)<(J.length:Int))=false:=by rw[hnil];rfl
     have dz2:decide (0<J.length)=false:=by rw[hnil];rfl
     have HSP:Hid (Rs.CL B N s []=Rs.CL B (N-(J.length+1)) st1 (J++[(x:Int)])):=hid (hsp.out.trans zC1);clear hstep hsp hk1 hnil HFL;go_wp2_with fail;refine (hVR.out _ HBE.out).mono ?_;rintro r w3 ⟨rfl,hb3⟩;have D3':=HD.out.later hb3;have R3':=HRS.out.later hb3;have hbe3:=Ag hb3 HBE.out;have hs3:=hb3.size;have O3:=Fi (a:=.slice a B.length c) (b:=.int .i64 (st1.p:Int)) (c:=.int .i64 st1.k) (d:=.int .i64 st1.f) (g:=w.heap.size) (AR HO.out hb3) zD;have HO3:=hid (AR O3 ((Below.refl _ _).alloc (Aj _) (.cells #[.slice a B.length c,.int .i64 (st1.p:Int),.int .i64 st1.k,.int .i64 st1.f] 60)));have D3:Blk ((((((w3.setCell ⟨w.heap.size,0,none⟩ (.slice a B.length c)).setCell ⟨w.heap.size,1,none⟩ (.int .i64 (st1.p:Int))).setCell ⟨w.heap.size,2,none⟩ (.int .i64 st1.k)).setCell ⟨w.heap.size,3,none⟩ (.int .i64 st1.f)).alloc (.cells #[.slice a B.length c,.int .i64 (st1.p:Int),.int .i64 st1.k,.int .i64 st1.f] 60))) w.heap.size 60 #[.slice a B.length c,.int .i64 (st1.p:Int),.int .i64 st1.k,.int .i64 st1.f]:=((((D3'.set 0 _).set 1 _).set 2 _).set 3 _).alloc _;have R3:Blk ((((((w3.setCell ⟨w.heap.size,0,none⟩ (.slice a B.length c)).setCell ⟨w.heap.size,1,none⟩ (.int .i64 (st1.p:Int))).setCell ⟨w.heap.size,2,none⟩ (.int .i64 st1.k)).setCell ⟨w.heap.size,3,none⟩ (.int .i64 st1.f)).alloc (.cells #[.slice a B.length c,.int .i64 (st1.p:Int),.int .i64 st1.k,.int .i64 st1.f] 60))) (w.heap.size+1) 60 #[.slice none 0 0,.int .i64 0,.int .i64 0,.int .i64 0]:=(Blk.far (Blk.far (Blk.far (Blk.far R3' zH _) zH _) zH _) zH _).alloc _;have hbe4:Below w.heap.size w ((((((w3.setCell ⟨w.heap.size,0,none⟩ (.slice a B.length c)).setCell ⟨w.heap.size,1,none⟩ (.int .i64 (st1.p:Int))).setCell ⟨w.heap.size,2,none⟩ (.int .i64 st1.k)).setCell ⟨w.heap.size,3,none⟩ (.int .i64 st1.f)).alloc (.cells #[.slice a B.length c,.int .i64 (st1.p:Int),.int .i64 st1.k,.int .i64 st1.f] 60))):=((((hbe3.setCell zH _).setCell zH _).setCell zH _).setCell zH _).alloc zU _;clear hb3 y0 y1 y2 y3 g0 g1 g2 g3 l1 x0 x1 x2 x3 f0 f1 f2 f3 l0 O3;obtain⟨x0',x1',x2',x3',f0',f1',f2',f3',l0'⟩:=Aq D3';obtain⟨x0,x1,x2,x3,f0,f1,f2,f3,l0⟩:=Aq D3;obtain⟨y0,y1,y2,y3,g0,g1,g2,g3,l1⟩:=Aq R3;have HD3:=hid D3;have HR3:=hid R3;have HBE4:=hid hbe4;clear D3 R3 D3' R3' hbe3 hbe4;go_wp2_with (at_builtin;go_loud (refine Ar rfl _ _ _ rfl (w.heap.size+2) 22 i0 (.int .u64 0) 1 8 DN hi hz0 hz1 hz2 rfl zS (.slice av J.length cv) J.length _ rfl (AR HO3.out ((Below.refl _ _).alloc (Aj _) _)) (some ⟨w3.heap.size+1,0,none⟩) 1 1 [.int .u64 ((x:Int))] rfl (Bf _ 22 _ rfl zP rfl) zAf zR zD zM ?_;intro v' w5 hown5 hgrow5 hat5;obtain⟨a5,c5,rfl⟩:=AX hown5;have HO5:=hid hown5;have hb5:Below (w.heap.size+2) ((((((w3.setCell ⟨w.heap.size,0,none⟩ (.slice a B.length c)).setCell ⟨w.heap.size,1,none⟩ (.int .i64 (st1.p:Int))).setCell ⟨w.heap.size,2,none⟩ (.int .i64 st1.k)).setCell ⟨w.heap.size,3,none⟩ (.int .i64 st1.f)).alloc (.cells #[.slice a B.length c,.int .i64 (st1.p:Int),.int .i64 st1.k,.int .i64 st1.f] 60))) w5:=(Below.grown ((Below.refl (w.heap.size+2) ((((((w3.setCell ⟨w.heap.size,0,none⟩ (.slice a B.length c)).setCell ⟨w.heap.size,1,none⟩ (.int .i64 (st1.p:Int))).setCell ⟨w.heap.size,2,none⟩ (.int .i64 st1.k)).setCell ⟨w.heap.size,3,none⟩ (.int .i64 st1.f)).alloc (.cells #[.slice a B.length c,.int .i64 (st1.p:Int),.int .i64 st1.k,.int .i64 st1.f] 60)))).alloc zU _) hgrow5 zU (fun g e=>(HO3.out.lt g e).1));have D5:=HD3.out.below hb5 zD;have R5:=HR3.out.below hb5 zD;have hbe5:Below w.heap.size w w5:=HBE4.out.trans (hb5.mono zD);have hs5:=hb5.size;clear hown5 hgrow5 hat5 x0 x1 x2 x3 f0 f1 f2 f3 l0))
     have ho5:w5.ownsRow (w.heap.size+2) 22 1 (.slice a5 (J.length+1) c5) (J++[(x:Int)]).length (Bu (J++[(x:Int)])):=by
      have e:Bu (J++[(x:Int)])=Bu J++[.int .u64 ((x:Int))]:=zA7;rw[e,Au];exact HO5.out
     have HO6:=hid ho5;have HB6:Hid (∀t∈J++[(x:Int)],0≤t∧t≤18446744073709551615):=hid (fun t ht=>by
      rw[Ci,Bw] at ht;rcases ht with ht | rfl
      ·exact hJb.out t ht
      ·omega)
     have HRR:=hid R5;have HDD:=hid D5;have HBE5:=hid hbe5;clear ho5 R5 D5 hbe5;go_roundw
     case rel=>exact ⟨J++[(x:Int)],st1,zAb,zBm,HO6.out,HB6,HDD.out,HRR.out,HBE5.out,by simp[World.setCell] at hs5;omega,HOK1,hid zA4⟩
     case measure=>(simp[intOf];try omega)
    ·obtain⟨hq0,hq1⟩:=Lp hJb.out hnil
     obtain⟨m,hm⟩:∃m,J.length=m+1:=⟨J.length-1,by have:J.length≠0:=fun e=>hnil (List.length_eq_zero_iff.1 e);omega⟩;have HM:=hid hm;have dz:decide ((0:Int)<(J.length:Int))=true:=Ae zD;have dz2:decide (0<J.length)=true:=Ae zD;have j1:(J.length:Int)-1=(m:Int):=zD;have j2:(0:Int)≤(J.length:Int)-1:=zD;have j3:(m:Int)<(J.length:Int):=zD;have HUL:=hid (fun (W:World) (h:W.ownsRow (w.heap.size+2) 22 1 (.slice av J.length cv) J.length (Bu J))=>Mb h hJb.out hm);generalize J.getLastD 0=q at*;have w1':0≤18446744073709551615-q:=zD;have w2':18446744073709551615-q≤18446744073709551615:=zD;by_cases hov:18446744073709551615-q≤(x:Int)
     ·rw[An ⟨hnil,hov⟩] at hstep
      have HSP:=hid (hsp.out.trans hstep);have HF:=hid (fun (W:World)=>HFL.out W st1);clear hstep hsp hk1 hnil hm HFL;generalize st1.fail 13 (st.p:Int)=st2 at*;by_cases heq:(x:Int)=18446744073709551615-q
      ·have dg:decide (18446744073709551615-q<(x:Int))=false:=Ad zD
       have de:((x:Int)==18446744073709551615-q)=true:=beq_iff_eq.2 heq;go_wp2_with fail;refine (hVR.out _ HBE.out).mono ?_;rintro r w3 ⟨rfl,hb3⟩;have D3':=HD.out.later hb3;have R3':=HRS.out.later hb3;have hbe3:=Ag hb3 HBE.out;have hs3:=hb3.size;have O3:=Fi (a:=.slice a B.length c) (b:=.int .i64 (st1.p:Int)) (c:=.int .i64 st1.k) (d:=.int .i64 st1.f) (g:=w.heap.size) (AR HO.out hb3) zD;have HO3:=hid (AR O3 ((Below.refl _ _).alloc (Aj _) (.cells #[.slice a B.length c,.int .i64 (st1.p:Int),.int .i64 st1.k,.int .i64 st1.f] 60)));have D3:Blk ((((((w3.setCell ⟨w.heap.size,0,none⟩ (.slice a B.length c)).setCell ⟨w.heap.size,1,none⟩ (.int .i64 (st1.p:Int))).setCell ⟨w.heap.size,2,none⟩ (.int .i64 st1.k)).setCell ⟨w.heap.size,3,none⟩ (.int .i64 st1.f)).alloc (.cells #[.slice a B.length c,.int .i64 (st1.p:Int),.int .i64 st1.k,.int .i64 st1.f] 60))) w.heap.size 60 #[.slice a B.length c,.int .i64 (st1.p:Int),.int .i64 st1.k,.int .i64 st1.f]:=((((D3'.set 0 _).set 1 _).set 2 _).set 3 _).alloc _;have R3:Blk ((((((w3.setCell ⟨w.heap.size,0,none⟩ (.slice a B.length c)).setCell ⟨w.heap.size,1,none⟩ (.int .i64 (st1.p:Int))).setCell ⟨w.heap.size,2,none⟩ (.int .i64 st1.k)).setCell ⟨w.heap.size,3,none⟩ (.int .i64 st1.f)).alloc (.cells #[.slice a B.length c,.int .i64 (st1.p:Int),.int .i64 st1.k,.int .i64 st1.f] 60))) (w.heap.size+1) 60 #[.slice none 0 0,.int .i64 0,.int .i64 0,.int .i64 0]:=(Blk.far (Blk.far (Blk.far (Blk.far R3' zH _) zH _) zH _) zH _).alloc _;have hbe4:Below w.heap.size w ((((((w3.setCell ⟨w.heap.size,0,none⟩ (.slice a B.length c)).setCell ⟨w.heap.size,1,none⟩ (.int .i64 (st1.p:Int))).setCell ⟨w.heap.size,2,none⟩ (.int .i64 st1.k)).setCell ⟨w.heap.size,3,none⟩ (.int .i64 st1.f)).alloc (.cells #[.slice a B.length c,.int .i64 (st1.p:Int),.int .i64 st1.k,.int .i64 st1.f] 60))):=((((hbe3.setCell zH _).setCell zH _).setCell zH _).setCell zH _).alloc zU _;clear hb3 y0 y1 y2 y3 g0 g1 g2 g3 l1 x0 x1 x2 x3 f0 f1 f2 f3 l0 O3;obtain⟨x0',x1',x2',x3',f0',f1',f2',f3',l0'⟩:=Aq D3';obtain⟨x0,x1,x2,x3,f0,f1,f2,f3,l0⟩:=Aq D3;obtain⟨y0,y1,y2,y3,g0,g1,g2,g3,l1⟩:=Aq R3;have HD3:=hid D3;have HR3:=hid R3;have HBE4:=hid hbe4;clear D3 R3 D3' R3' hbe3 hbe4;obtain⟨b,o,rfl,hc3⟩:=HUL.out _ HO3.out;clear HUL;go_wp2_with fail;refine (HF.out _).mono ?_;rintro r w6 ⟨rfl,hb6⟩;have R6:=HR3.out.later hb6;have hbe6:=Ag hb6 HBE4.out;have HBE4:=hid hbe6;clear hb6 hbe6 HR3 x0 x1 x2 x3 f0 f1 f2 f3 l0 y0 y1 y2 y3 g0 g1 g2 g3 l1;obtain⟨y0,y1,y2,y3,g0,g1,g2,g3,l1⟩:=Aq R6;clear R6;go_wp2;rw[HSP.out];refine Af (v:=.tuple #[.agg #[.slice a B.length c,.int .i64 (st2.p:Int),.int .i64 st2.k,.int .i64 st2.f],.slice none 0 0]) zAd rfl ⟨_,rfl,AZ (xs:=[]) rfl (Aj _) (Ao _) (.inl rfl),ZL⟩
      ·have dg:decide (18446744073709551615-q<(x:Int))=true:=Ae zD
       go_wp2_with fail;refine (hVR.out _ HBE.out).mono ?_;rintro r w3 ⟨rfl,hb3⟩;have D3':=HD.out.later hb3;have R3':=HRS.out.later hb3;have hbe3:=Ag hb3 HBE.out;have hs3:=hb3.size;have O3:=Fi (a:=.slice a B.length c) (b:=.int .i64 (st1.p:Int)) (c:=.int .i64 st1.k) (d:=.int .i64 st1.f) (g:=w.heap.size) (AR HO.out hb3) zD;have HO3:=hid (AR O3 ((Below.refl _ _).alloc (Aj _) (.cells #[.slice a B.length c,.int .i64 (st1.p:Int),.int .i64 st1.k,.int .i64 st1.f] 60)));have D3:Blk ((((((w3.setCell ⟨w.heap.size,0,none⟩ (.slice a B.length c)).setCell ⟨w.heap.size,1,none⟩ (.int .i64 (st1.p:Int))).setCell ⟨w.heap.size,2,none⟩ (.int .i64 st1.k)).setCell ⟨w.heap.size,3,none⟩ (.int .i64 st1.f)).alloc (.cells #[.slice a B.length c,.int .i64 (st1.p:Int),.int .i64 st1.k,.int .i64 st1.f] 60))) w.heap.size 60 #[.slice a B.length c,.int .i64 (st1.p:Int),.int .i64 st1.k,.int .i64 st1.f]:=((((D3'.set 0 _).set 1 _).set 2 _).set 3 _).alloc _;have R3:Blk ((((((w3.setCell ⟨w.heap.size,0,none⟩ (.slice a B.length c)).setCell ⟨w.heap.size,1,none⟩ (.int .i64 (st1.p:Int))).setCell ⟨w.heap.size,2,none⟩ (.int .i64 st1.k)).setCell ⟨w.heap.size,3,none⟩ (.int .i64 st1.f)).alloc (.cells #[.slice a B.length c,.int .i64 (st1.p:Int),.int .i64 st1.k,.int .i64 st1.f] 60))) (w.heap.size+1) 60 #[.slice none 0 0,.int .i64 0,.int .i64 0,.int .i64 0]:=(Blk.far (Blk.far (Blk.far (Blk.far R3' zH _) zH _) zH _) zH _).alloc _;have hbe4:Below w.heap.size w ((((((w3.setCell ⟨w.heap.size,0,none⟩ (.slice a B.length c)).setCell ⟨w.heap.size,1,none⟩ (.int .i64 (st1.p:Int))).setCell ⟨w.heap.size,2,none⟩ (.int .i64 st1.k)).setCell ⟨w.heap.size,3,none⟩ (.int .i64 st1.f)).alloc (.cells #[.slice a B.length c,.int .i64 (st1.p:Int),.int .i64 st1.k,.int .i64 st1.f] 60))):=((((hbe3.setCell zH _).setCell zH _).setCell zH _).setCell zH _).alloc zU _;clear hb3 y0 y1 y2 y3 g0 g1 g2 g3 l1 x0 x1 x2 x3 f0 f1 f2 f3 l0 O3;obtain⟨x0',x1',x2',x3',f0',f1',f2',f3',l0'⟩:=Aq D3';obtain⟨x0,x1,x2,x3,f0,f1,f2,f3,l0⟩:=Aq D3;obtain⟨y0,y1,y2,y3,g0,g1,g2,g3,l1⟩:=Aq R3;have HD3:=hid D3;have HR3:=hid R3;have HBE4:=hid hbe4;clear D3 R3 D3' R3' hbe3 hbe4;obtain⟨b,o,rfl,hc3⟩:=HUL.out _ HO3.out;clear HUL;go_wp2_with fail;refine (HF.out _).mono ?_;rintro r w6 ⟨rfl,hb6⟩;have R6:=HR3.out.later hb6;have hbe6:=Ag hb6 HBE4.out;have HBE4:=hid hbe6;clear hb6 hbe6 HR3 x0 x1 x2 x3 f0 f1 f2 f3 l0 y0 y1 y2 y3 g0 g1 g2 g3 l1;obtain⟨y0,y1,y2,y3,g0,g1,g2,g3,l1⟩:=Aq R6;clear R6;go_wp2;rw[HSP.out];refine Af (v:=.tuple #[.agg #[.slice a B.length c,.int .i64 (st2.p:Int),.int .i64 st2.k,.int .i64 st2.f],.slice none 0 0]) zAd rfl ⟨_,rfl,AZ (xs:=[]) rfl (Aj _) (Ao _) (.inl rfl),ZL⟩
     ·rw[Ak (fun h=>hov h.2),Ak hnil] at hstep
      have dg:decide (18446744073709551615-q<(x:Int))=false:=Ad zD;have de:((x:Int)==18446744073709551615-q)=false:=beq_eq_false_iff_ne.2 zD;rw[show (x:Int)+(q+1)=q+(x:Int)+1 by omega] at hstep;have HSP:=hid (hsp.out.trans hstep);have v0':0≤q+(x:Int):=zD;have v1':q+(x:Int)≤18446744073709551615:=zD;have v2':0≤q+(x:Int)+1:=zD;have v3':q+(x:Int)+1≤18446744073709551615:=zD;clear hstep hsp hk1 hnil hm HFL;go_wp2_with fail;refine (hVR.out _ HBE.out).mono ?_;rintro r w3 ⟨rfl,hb3⟩;have D3':=HD.out.later hb3;have R3':=HRS.out.later hb3;have hbe3:=Ag hb3 HBE.out;have hs3:=hb3.size;have O3:=Fi (a:=.slice a B.length c) (b:=.int .i64 (st1.p:Int)) (c:=.int .i64 st1.k) (d:=.int .i64 st1.f) (g:=w.heap.size) (AR HO.out hb3) zD;have HO3:=hid (AR O3 ((Below.refl _ _).alloc (Aj _) (.cells #[.slice a B.length c,.int .i64 (st1.p:Int),.int .i64 st1.k,.int .i64 st1.f] 60)));have D3:Blk ((((((w3.setCell ⟨w.heap.size,0,none⟩ (.slice a B.length c)).setCell ⟨w.heap.size,1,none⟩ (.int .i64 (st1.p:Int))).setCell ⟨w.heap.size,2,none⟩ (.int .i64 st1.k)).setCell ⟨w.heap.size,3,none⟩ (.int .i64 st1.f)).alloc (.cells #[.slice a B.length c,.int .i64 (st1.p:Int),.int .i64 st1.k,.int .i64 st1.f] 60))) w.heap.size 60 #[.slice a B.length c,.int .i64 (st1.p:Int),.int .i64 st1.k,.int .i64 st1.f]:=((((D3'.set 0 _).set 1 _).set 2 _).set 3 _).alloc _;have R3:Blk ((((((w3.setCell ⟨w.heap.size,0,none⟩ (.slice a B.length c)).setCell ⟨w.heap.size,1,none⟩ (.int .i64 (st1.p:Int))).setCell ⟨w.heap.size,2,none⟩ (.int .i64 st1.k)).setCell ⟨w.heap.size,3,none⟩ (.int .i64 st1.f)).alloc (.cells #[.slice a B.length c,.int .i64 (st1.p:Int),.int .i64 st1.k,.int .i64 st1.f] 60))) (w.heap.size+1) 60 #[.slice none 0 0,.int .i64 0,.int .i64 0,.int .i64 0]:=(Blk.far (Blk.far (Blk.far (Blk.far R3' zH _) zH _) zH _) zH _).alloc _;have hbe4:Below w.heap.size w ((((((w3.setCell ⟨w.heap.size,0,none⟩ (.slice a B.length c)).setCell ⟨w.heap.size,1,none⟩ (.int .i64 (st1.p:Int))).setCell ⟨w.heap.size,2,none⟩ (.int .i64 st1.k)).setCell ⟨w.heap.size,3,none⟩ (.int .i64 st1.f)).alloc (.cells #[.slice a B.length c,.int .i64 (st1.p:Int),.int .i64 st1.k,.int .i64 st1.f] 60))):=((((hbe3.setCell zH _).setCell zH _).setCell zH _).setCell zH _).alloc zU _;clear hb3 y0 y1 y2 y3 g0 g1 g2 g3 l1 x0 x1 x2 x3 f0 f1 f2 f3 l0 O3;obtain⟨x0',x1',x2',x3',f0',f1',f2',f3',l0'⟩:=Aq D3';obtain⟨x0,x1,x2,x3,f0,f1,f2,f3,l0⟩:=Aq D3;obtain⟨y0,y1,y2,y3,g0,g1,g2,g3,l1⟩:=Aq R3;have HD3:=hid D3;have HR3:=hid R3;have HBE4:=hid hbe4;clear D3 R3 D3' R3' hbe3 hbe4;obtain⟨b,o,rfl,hc3⟩:=HUL.out _ HO3.out;clear HUL;go_wp2_with (at_builtin;go_loud (refine Ar rfl _ _ _ rfl (w.heap.size+2) 22 i0 (.int .u64 0) 1 8 DN hi hz0 hz1 hz2 rfl zS (.slice (some ⟨b,o,none⟩) J.length cv) J.length _ rfl (AR HO3.out ((Below.refl _ _).alloc (Aj _) _)) (some ⟨w3.heap.size+1,0,none⟩) 1 1 [.int .u64 (q+(x:Int)+1)] rfl (Bf _ 22 _ rfl zP rfl) zAf zR zD zM ?_;intro v' w5 hown5 hgrow5 hat5;obtain⟨a5,c5,rfl⟩:=AX hown5;have HO5:=hid hown5;have hb5:Below (w.heap.size+2) ((((((w3.setCell ⟨w.heap.size,0,none⟩ (.slice a B.length c)).setCell ⟨w.heap.size,1,none⟩ (.int .i64 (st1.p:Int))).setCell ⟨w.heap.size,2,none⟩ (.int .i64 st1.k)).setCell ⟨w.heap.size,3,none⟩ (.int .i64 st1.f)).alloc (.cells #[.slice a B.length c,.int .i64 (st1.p:Int),.int .i64 st1.k,.int .i64 st1.f] 60))) w5:=(Below.grown ((Below.refl (w.heap.size+2) ((((((w3.setCell ⟨w.heap.size,0,none⟩ (.slice a B.length c)).setCell ⟨w.heap.size,1,none⟩ (.int .i64 (st1.p:Int))).setCell ⟨w.heap.size,2,none⟩ (.int .i64 st1.k)).setCell ⟨w.heap.size,3,none⟩ (.int .i64 st1.f)).alloc (.cells #[.slice a B.length c,.int .i64 (st1.p:Int),.int .i64 st1.k,.int .i64 st1.f] 60)))).alloc zU _) hgrow5 zU (fun g e=>(HO3.out.lt g e).1));have D5:=HD3.out.below hb5 zD;have R5:=HR3.out.below hb5 zD;have hbe5:Below w.heap.size w w5:=HBE4.out.trans (hb5.mono zD);have hs5:=hb5.size;clear hown5 hgrow5 hat5 hc3 x0 x1 x2 x3 f0 f1 f2 f3 l0))
      have ho5:w5.ownsRow (w.heap.size+2) 22 1 (.slice a5 (J.length+1) c5) (J++[q+(x:Int)+1]).length (Bu (J++[q+(x:Int)+1])):=by
       have e:Bu (J++[q+(x:Int)+1])=Bu J++[.int .u64 (q+(x:Int)+1)]:=zA7;rw[e,Au];exact HO5.out
      have HO6:=hid ho5;have HB6:Hid (∀t∈J++[q+(x:Int)+1],0≤t∧t≤18446744073709551615):=hid (fun t ht=>by
       rw[Ci,Bw] at ht;rcases ht with ht | rfl
       ·exact hJb.out t ht
       ·omega)
      have HRR:=hid R5;have HDD:=hid D5;have HBE5:=hid hbe5;clear ho5 R5 D5 hbe5;go_roundw
      case rel=>exact ⟨J++[q+(x:Int)+1],st1,zAb,zBm,HO6.out,HB6,HDD.out,HRR.out,HBE5.out,by simp[World.setCell] at hs5;omega,HOK1,hid zA4⟩
      case measure=>(simp[intOf];try omega)
   ·rw[Ak hk1] at hstep
    have dn:(st1.k !=(0:Int))=true:=zBr;have HSP:=hid (hsp.out.trans hstep);clear hstep hsp hk1 HFL;go_wp2_with fail;refine (hVR.out _ HBE.out).mono ?_;rintro r w3 ⟨rfl,hb3⟩;have D3':=HD.out.later hb3;have R3':=HRS.out.later hb3;have hbe3:=Ag hb3 HBE.out;have hs3:=hb3.size;have O3:=Fi (a:=.slice a B.length c) (b:=.int .i64 (st1.p:Int)) (c:=.int .i64 st1.k) (d:=.int .i64 st1.f) (g:=w.heap.size) (AR HO.out hb3) zD;have HO3:=hid (AR O3 ((Below.refl _ _).alloc (Aj _) (.cells #[.slice a B.length c,.int .i64 (st1.p:Int),.int .i64 st1.k,.int .i64 st1.f] 60)));have D3:Blk ((((((w3.setCell ⟨w.heap.size,0,none⟩ (.slice a B.length c)).setCell ⟨w.heap.size,1,none⟩ (.int .i64 (st1.p:Int))).setCell ⟨w.heap.size,2,none⟩ (.int .i64 st1.k)).setCell ⟨w.heap.size,3,none⟩ (.int .i64 st1.f)).alloc (.cells #[.slice a B.length c,.int .i64 (st1.p:Int),.int .i64 st1.k,.int .i64 st1.f] 60))) w.heap.size 60 #[.slice a B.length c,.int .i64 (st1.p:Int),.int .i64 st1.k,.int .i64 st1.f]:=((((D3'.set 0 _).set 1 _).set 2 _).set 3 _).alloc _;have R3:Blk ((((((w3.setCell ⟨w.heap.size,0,none⟩ (.slice a B.length c)).setCell ⟨w.heap.size,1,none⟩ (.int .i64 (st1.p:Int))).setCell ⟨w.heap.size,2,none⟩ (.int .i64 st1.k)).setCell ⟨w.heap.size,3,none⟩ (.int .i64 st1.f)).alloc (.cells #[.slice a B.length c,.int .i64 (st1.p:Int),.int .i64 st1.k,.int .i64 st1.f] 60))) (w.heap.size+1) 60 #[.slice none 0 0,.int .i64 0,.int .i64 0,.int .i64 0]:=(Blk.far (Blk.far (Blk.far (Blk.far R3' zH _) zH _) zH _) zH _).alloc _;have hbe4:Below w.heap.size w ((((((w3.setCell ⟨w.heap.size,0,none⟩ (.slice a B.length c)).setCell ⟨w.heap.size,1,none⟩ (.int .i64 (st1.p:Int))).setCell ⟨w.heap.size,2,none⟩ (.int .i64 st1.k)).setCell ⟨w.heap.size,3,none⟩ (.int .i64 st1.f)).alloc (.cells #[.slice a B.length c,.int .i64 (st1.p:Int),.int .i64 st1.k,.int .i64 st1.f] 60))):=((((hbe3.setCell zH _).setCell zH _).setCell zH _).setCell zH _).alloc zU _;clear hb3 y0 y1 y2 y3 g0 g1 g2 g3 l1 x0 x1 x2 x3 f0 f1 f2 f3 l0 O3;obtain⟨x0',x1',x2',x3',f0',f1',f2',f3',l0'⟩:=Aq D3';obtain⟨x0,x1,x2,x3,f0,f1,f2,f3,l0⟩:=Aq D3;obtain⟨y0,y1,y2,y3,g0,g1,g2,g3,l1⟩:=Aq R3;have HD3:=hid D3;have HR3:=hid R3;have HBE4:=hid hbe4;clear D3 R3 D3' R3' hbe3 hbe4;go_wp2;rw[HSP.out];refine Af (v:=.tuple #[.agg #[.slice a B.length c,.int .i64 (st1.p:Int),.int .i64 st1.k,.int .i64 st1.f],.slice none 0 0]) zAd rfl ⟨_,rfl,AZ (xs:=[]) rfl (Aj _) (Ao _) (.inl rfl),ZL⟩
  ·have hJN:J.length=N:=by omega
   have d1:decide ((J.length:Int)<(N:Int))=false:=Ad zD;have d1':decide (J.length<N)=false:=Ad zD;have HSP:Hid (Rs.CL B N s []=(st,J)):=hid (by rw[hsp.out,hJN,Dg];rfl);have HV:=hid (FT hJb.out rfl HO.out);clear hsp hJN hk hge;go_wp2;rw[HSP.out];refine Af (v:=.tuple #[.agg #[.slice a B.length c,.int .i64 (st.p:Int),.int .i64 st.k,.int .i64 st.f],.slice av J.length cv]) zAd rfl ⟨_,rfl,?_,?_⟩
   ·refine AV.mono (AV.keep HV.out fun q hq=> ?_) fun q hq=>⟨zV,ZD⟩
    have:=hq.1;repeat (rw[Ap _ _ _ _ zH])
   ·exact (((HBE.out.setCell zH _).setCell zH _).setCell zH _).setCell zH _
theorem Rs.JV(h:s.ok B.length):(s.ep B).1.ok B.length:=by
 have h2:=Rs.CC (B:=B) h;unfold Rs.ep;split
 ·split
  ·exact h2
  ·exact Rs.BH h2 zD
 ·exact h2
theorem Rs.Vc(h:s.ok B.length):(s.tl B).1.ok B.length:=by
 have h2:=Rs.CC (B:=B) h;unfold Rs.tl;split
 ·split
  ·exact h2
  ·exact Rs.BH h2 zD
 ·exact h2
theorem Rs.Q8(h:s.ok B.length):(s.seal_ B).1.ok B.length:=by
 unfold Rs.seal_;dsimp only;split<;>exact Rs.Vc (Rs.No (Rs.JV h))
abbrev Mj(s:IV):Value:=.agg #[.int .u64 s.epoch,.int .u64 s.node,.int .u64 s.tail]
theorem RD(w:World){g:Nat}{B:List UInt8}{a:Option Addr}{s:Rs}(h:AY w g B a s)(hB:B.length≤1000000000):
  Calls Tryz.prog 194 #[.pointer (some ⟨g,0,none⟩)] w fun r w'=>r=.returned (Mj (s.seal_ B).2)∧AB w g B a (s.seal_ B).1 w':=by
 have hlt:=h.blk.lt;have HIN:=hid (CY.refl h);have HEP:=hid (fun (W:World) (t:Rs) (hW:AY W g B a t)=>IQ W hW hB);have HMO:=hid (fun (W:World) (t:Rs) (hW:AY W g B a t)=>J6 W hW zD 4294967295);have HTL:=hid (fun (W:World) (t:Rs) (hW:AY W g B a t)=>LA W hW hB);have HGD:=hid (fun (W:World) (t:Rs) (hW:AY W g B a t)=>AG W hW);clear h;unfold Rs.seal_ Mj;dsimp only;have HEP:=hid (fun (W:World) (hW:AY W g B a s)=>HEP.out W s hW);generalize s.ep B=R at*;obtain⟨s1,e⟩:=R;dsimp only at*;have HMO:=hid (fun (W:World) (hW:AY W g B a s1)=>HMO.out W s1 hW);generalize s1.most B 4294967295=R at*;obtain⟨s2,n⟩:=R;dsimp only at*;have HTL:=hid (fun (W:World) (hW:AY W g B a s2)=>HTL.out W s2 hW);generalize s2.tl B=R at*;obtain⟨s3,t⟩:=R;dsimp only at*;have HGD:=hid (fun (W:World) (hW:AY W g B a s3)=>HGD.out W s3 hW);by_cases hk:s3.k=0
 ·rw[An hk]
  rw[Ae hk] at HGD;clear hk;go_enter Tryz.func194,Tryz.ntmps194;go_wp2_with fail;have hb0:=hid (by (repeat (first | with_reducible exact Below.refl _ _ | with_reducible assumption | (with_reducible refine Aw ?_ _) | (with_reducible refine Below.setCell ?_ zE _) | (with_reducible refine Below.drew ?_) | (with_reducible refine below_drewN ?_ _) | (refine Ag zI ?_))):Below w.heap.size w ((w.alloc (.cells #[.int .u64 0,.int .u64 0,.int .u64 0] 27)).alloc (.cells #[.int .u64 0,.int .u64 0,.int .u64 0] 27)));have HIN0:=hid (HIN.out.row hb0.out);have R0:Blk ((w.alloc (.cells #[.int .u64 0,.int .u64 0,.int .u64 0] 27)).alloc (.cells #[.int .u64 0,.int .u64 0,.int .u64 0] 27)) w.heap.size 27 #[.int .u64 0,.int .u64 0,.int .u64 0]:=zB;have M0:Blk ((w.alloc (.cells #[.int .u64 0,.int .u64 0,.int .u64 0] 27)).alloc (.cells #[.int .u64 0,.int .u64 0,.int .u64 0] 27)) (w.heap.size+1) 27 #[.int .u64 0,.int .u64 0,.int .u64 0]:=zB;refine (HEP.out _ HIN0.out.rd).mono ?_;rintro r w1 ⟨rfl,hst⟩;have HIN1:=hid (HIN0.out.step hst);have R1:=R0.tch hst.2 zD;have M1:=M0.tch hst.2 zD;obtain⟨x0,x1,x2,f0,f1,f2,l0⟩:=Ee R1;obtain⟨y0,y1,y2,g0,g1,g2,l1⟩:=Ee M1;have HR:=hid R1;have HM:=hid M1;clear hst R0 M0 R1 M1;go_wp2_with fail;have HIN1:=hid (HIN1.out.row ((Below.refl w.heap.size w1).setCell (p:=⟨w.heap.size+1,0,none⟩) zH (.int .u64 (e:Int))));have R1:=(HR.out).far (p:=⟨w.heap.size+1,0,none⟩) zH (.int .u64 (e:Int));have M1:=(HM.out).set 0 (.int .u64 (e:Int));have HR:=hid R1;have HM:=hid M1;clear x0 x1 x2 f0 f1 f2 l0 y0 y1 y2 g0 g1 g2 l1 R1 M1;refine (HMO.out _ HIN1.out.rd).mono ?_;rintro r w2 ⟨rfl,hst⟩;have HIN1:=hid (HIN1.out.step hst);have R1:=HR.out.tch hst.2 zD;have M1:=HM.out.tch hst.2 zD;simp only[Aa,Ab,Ac] at M1;obtain⟨x0,x1,x2,f0,f1,f2,l0⟩:=Ee R1;obtain⟨y0,y1,y2,g0,g1,g2,l1⟩:=Ee M1;have HR:=hid R1;have HM:=hid M1;clear hst R1 M1;go_wp2_with fail;have HIN1:=hid (HIN1.out.row ((Below.refl w.heap.size w2).setCell (p:=⟨w.heap.size+1,1,none⟩) zH (.int .u64 (n:Int))));have R1:=(HR.out).far (p:=⟨w.heap.size+1,1,none⟩) zH (.int .u64 (n:Int));have M1:=(HM.out).set 1 (.int .u64 (n:Int));have HR:=hid R1;have HM:=hid M1;clear x0 x1 x2 f0 f1 f2 l0 y0 y1 y2 g0 g1 g2 l1 R1 M1;refine (HTL.out _ HIN1.out.rd).mono ?_;rintro r w3 ⟨rfl,hst⟩;have HIN1:=hid (HIN1.out.step hst);have R1:=HR.out.tch hst.2 zD;have M1:=HM.out.tch hst.2 zD;simp only[Aa,Ab,Ac] at M1;obtain⟨x0,x1,x2,f0,f1,f2,l0⟩:=Ee R1;obtain⟨y0,y1,y2,g0,g1,g2,l1⟩:=Ee M1;have HR:=hid R1;have HM:=hid M1;clear hst R1 M1;go_wp2_with fail;have HIN1:=hid (HIN1.out.row ((Below.refl w.heap.size w3).setCell (p:=⟨w.heap.size+1,2,none⟩) zH (.int .u64 (t:Int))));have R1:=(HR.out).far (p:=⟨w.heap.size+1,2,none⟩) zH (.int .u64 (t:Int));have M1:=(HM.out).set 2 (.int .u64 (t:Int));have HR:=hid R1;have HM:=hid M1;clear x0 x1 x2 f0 f1 f2 l0 y0 y1 y2 g0 g1 g2 l1 R1 M1;refine (HGD.out _ HIN1.out.rd).mono ?_;rintro r w4 ⟨rfl,hb4⟩;have HIN2:=hid (HIN1.out.row (hb4.mono HIN1.out.tch.size));have R1:=HR.out.later hb4;have M1:=HM.out.later hb4;simp only[Aa,Ab,Ac] at M1;obtain⟨x0,x1,x2,f0,f1,f2,l0⟩:=Ee R1;obtain⟨y0,y1,y2,g0,g1,g2,l1⟩:=Ee M1;clear hb4 R1 M1;go_wp2;exact Af (v:=.agg #[.int .u64 (e:Int),.int .u64 (n:Int),.int .u64 (t:Int)]) zCe rfl ⟨rfl,(HIN2.out.row ((((Below.refl w.heap.size w4).setCell (p:=⟨w.heap.size,0,none⟩) zH (.int .u64 (e:Int))).setCell (p:=⟨w.heap.size,1,none⟩) zH (.int .u64 (n:Int))).setCell (p:=⟨w.heap.size,2,none⟩) zH (.int .u64 (t:Int)))).to⟩
 ·rw[Ak hk]
  rw[Ad hk] at HGD;clear hk;go_enter Tryz.func194,Tryz.ntmps194;go_wp2_with fail;have hb0:=hid (by (repeat (first | with_reducible exact Below.refl _ _ | with_reducible assumption | (with_reducible refine Aw ?_ _) | (with_reducible refine Below.setCell ?_ zE _) | (with_reducible refine Below.drew ?_) | (with_reducible refine below_drewN ?_ _) | (refine Ag zI ?_))):Below w.heap.size w ((w.alloc (.cells #[.int .u64 0,.int .u64 0,.int .u64 0] 27)).alloc (.cells #[.int .u64 0,.int .u64 0,.int .u64 0] 27)));have HIN0:=hid (HIN.out.row hb0.out);have R0:Blk ((w.alloc (.cells #[.int .u64 0,.int .u64 0,.int .u64 0] 27)).alloc (.cells #[.int .u64 0,.int .u64 0,.int .u64 0] 27)) w.heap.size 27 #[.int .u64 0,.int .u64 0,.int .u64 0]:=zB;have M0:Blk ((w.alloc (.cells #[.int .u64 0,.int .u64 0,.int .u64 0] 27)).alloc (.cells #[.int .u64 0,.int .u64 0,.int .u64 0] 27)) (w.heap.size+1) 27 #[.int .u64 0,.int .u64 0,.int .u64 0]:=zB;refine (HEP.out _ HIN0.out.rd).mono ?_;rintro r w1 ⟨rfl,hst⟩;have HIN1:=hid (HIN0.out.step hst);have R1:=R0.tch hst.2 zD;have M1:=M0.tch hst.2 zD;obtain⟨x0,x1,x2,f0,f1,f2,l0⟩:=Ee R1;obtain⟨y0,y1,y2,g0,g1,g2,l1⟩:=Ee M1;have HR:=hid R1;have HM:=hid M1;clear hst R0 M0 R1 M1;go_wp2_with fail;have HIN1:=hid (HIN1.out.row ((Below.refl w.heap.size w1).setCell (p:=⟨w.heap.size+1,0,none⟩) zH (.int .u64 (e:Int))));have R1:=(HR.out).far (p:=⟨w.heap.size+1,0,none⟩) zH (.int .u64 (e:Int));have M1:=(HM.out).set 0 (.int .u64 (e:Int));have HR:=hid R1;have HM:=hid M1;clear x0 x1 x2 f0 f1 f2 l0 y0 y1 y2 g0 g1 g2 l1 R1 M1;refine (HMO.out _ HIN1.out.rd).mono ?_;rintro r w2 ⟨rfl,hst⟩;have HIN1:=hid (HIN1.out.step hst);have R1:=HR.out.tch hst.2 zD;have M1:=HM.out.tch hst.2 zD;simp only[Aa,Ab,Ac] at M1;obtain⟨x0,x1,x2,f0,f1,f2,l0⟩:=Ee R1;obtain⟨y0,y1,y2,g0,g1,g2,l1⟩:=Ee M1;have HR:=hid R1;have HM:=hid M1;clear hst R1 M1;go_wp2_with fail;have HIN1:=hid (HIN1.out.row ((Below.refl w.heap.size w2).setCell (p:=⟨w.heap.size+1,1,none⟩) zH (.int .u64 (n:Int))));have R1:=(HR.out).far (p:=⟨w.heap.size+1,1,none⟩) zH (.int .u64 (n:Int));have M1:=(HM.out).set 1 (.int .u64 (n:Int));have HR:=hid R1;have HM:=hid M1;clear x0 x1 x2 f0 f1 f2 l0 y0 y1 y2 g0 g1 g2 l1 R1 M1;refine (HTL.out _ HIN1.out.rd).mono ?_;rintro r w3 ⟨rfl,hst⟩;have HIN1:=hid (HIN1.out.step hst);have R1:=HR.out.tch hst.2 zD;have M1:=HM.out.tch hst.2 zD;simp only[Aa,Ab,Ac] at M1;obtain⟨x0,x1,x2,f0,f1,f2,l0⟩:=Ee R1;obtain⟨y0,y1,y2,g0,g1,g2,l1⟩:=Ee M1;have HR:=hid R1;have HM:=hid M1;clear hst R1 M1;go_wp2_with fail;have HIN1:=hid (HIN1.out.row ((Below.refl w.heap.size w3).setCell (p:=⟨w.heap.size+1,2,none⟩) zH (.int .u64 (t:Int))));have R1:=(HR.out).far (p:=⟨w.heap.size+1,2,none⟩) zH (.int .u64 (t:Int));have M1:=(HM.out).set 2 (.int .u64 (t:Int));have HR:=hid R1;have HM:=hid M1;clear x0 x1 x2 f0 f1 f2 l0 y0 y1 y2 g0 g1 g2 l1 R1 M1;refine (HGD.out _ HIN1.out.rd).mono ?_;rintro r w4 ⟨rfl,hb4⟩;have HIN2:=hid (HIN1.out.row (hb4.mono HIN1.out.tch.size));have R1:=HR.out.later hb4;have M1:=HM.out.later hb4;simp only[Aa,Ab,Ac] at M1;obtain⟨x0,x1,x2,f0,f1,f2,l0⟩:=Ee R1;obtain⟨y0,y1,y2,g0,g1,g2,l1⟩:=Ee M1;clear hb4 R1 M1;go_wp2;exact Af (v:=.agg #[.int .u64 0,.int .u64 0,.int .u64 0]) zCe rfl ⟨rfl,(HIN2.out.row ((((Below.refl w.heap.size w4).setCell (p:=⟨w.heap.size,0,none⟩) zH (.int .u64 0)).setCell (p:=⟨w.heap.size,1,none⟩) zH (.int .u64 0)).setCell (p:=⟨w.heap.size,2,none⟩) zH (.int .u64 0))).to⟩
theorem PE(w:World)(a:Option Addr)(c:Nat)(B:List UInt8)(hl:Ah.r (·<w.heap.size) w [.slice a B.length c] B)(s:Rs)(hs:s.ok B.length)(hB:B.length≤1000000000000):
  Calls Tryz.prog 128 #[CV a B.length c s] w fun r w'=>r=.returned (.tuple #[CV a B.length c (s.seal_ B).1,Mj (s.seal_ B).2])∧Below w.heap.size w w':=by
 have HEP:=hid (fun (W:World) (hW:Below w.heap.size w W)=>Lc W a c B (lift hl hW) s hs hB);have HMO:=hid (fun (W:World) (hW:Below w.heap.size w W)=>Lg W a c B (lift hl hW) _ (Rs.JV (s:=s) hs) hB 4294967295);have HTL:=hid (fun (W:World) (hW:Below w.heap.size w W)=>SW W a c B (lift hl hW) _ (Rs.No (Rs.JV (s:=s) hs) (m:=4294967295)) hB);clear hl hs;unfold Rs.seal_ Mj;dsimp only;generalize s.ep B=R at*;obtain⟨s1,e⟩:=R;dsimp only at*;generalize s1.most B 4294967295=R at*;obtain⟨s2,n⟩:=R;dsimp only at*;generalize s2.tl B=R at*;obtain⟨s3,t⟩:=R;dsimp only at*;unfold CV at*;by_cases hk:s3.k=0
 ·rw[An hk]
  have d0:(s3.k !=(0:Int))=false:=zAs;clear hk;go_enter Tryz.func128,Tryz.ntmps128;go_wp2_with fail;refine (HEP.out _ zA).mono ?_;rintro r w1 ⟨rfl,hb⟩;have D1:Blk w1 w.heap.size 60 #[.slice a B.length c,.int .i64 (s.p:Int),.int .i64 s.k,.int .i64 s.f]:=Blk.later zB hb;have R1:Blk w1 (w.heap.size+1) 60 #[.slice none 0 0,.int .i64 0,.int .i64 0,.int .i64 0]:=Blk.later zB hb;have M1:Blk w1 (w.heap.size+2) 27 #[.int .u64 0,.int .u64 0,.int .u64 0]:=Blk.later zB hb;have HBW:Hid (Below w.heap.size w w1):=hid zA;clear hb;obtain⟨x0,x1,x2,x3,f0,f1,f2,f3,l0⟩:=Aq D1;obtain⟨y0,y1,y2,y3,g0,g1,g2,g3,l1⟩:=Aq R1;obtain⟨z0,z1,z2,e0,e1,e2,l2⟩:=Ee M1;have HD:=hid D1;have HR:=hid R1;have HM:=hid M1;clear D1 R1 M1;go_wp2_with fail;have D1:Blk ((((w1.setCell ⟨w.heap.size,0,none⟩ (.slice a B.length c)).setCell ⟨w.heap.size,1,none⟩ (.int .i64 (s1.p:Int))).setCell ⟨w.heap.size,2,none⟩ (.int .i64 s1.k)).setCell ⟨w.heap.size,3,none⟩ (.int .i64 s1.f)) w.heap.size 60 #[.slice a B.length c,.int .i64 (s1.p:Int),.int .i64 s1.k,.int .i64 s1.f]:=(((HD.out.set 0 _).set 1 _).set 2 _).set 3 _;have R1:Blk ((((w1.setCell ⟨w.heap.size,0,none⟩ (.slice a B.length c)).setCell ⟨w.heap.size,1,none⟩ (.int .i64 (s1.p:Int))).setCell ⟨w.heap.size,2,none⟩ (.int .i64 s1.k)).setCell ⟨w.heap.size,3,none⟩ (.int .i64 s1.f)) (w.heap.size+1) 60 #[.slice none 0 0,.int .i64 0,.int .i64 0,.int .i64 0]:=Blk.far (Blk.far (Blk.far (Blk.far HR.out zH _) zH _) zH _) zH _;have M1:Blk ((((w1.setCell ⟨w.heap.size,0,none⟩ (.slice a B.length c)).setCell ⟨w.heap.size,1,none⟩ (.int .i64 (s1.p:Int))).setCell ⟨w.heap.size,2,none⟩ (.int .i64 s1.k)).setCell ⟨w.heap.size,3,none⟩ (.int .i64 s1.f)) (w.heap.size+2) 27 #[.int .u64 0,.int .u64 0,.int .u64 0]:=Blk.far (Blk.far (Blk.far (Blk.far HM.out zH _) zH _) zH _) zH _;have hbw:Below w.heap.size w ((((w1.setCell ⟨w.heap.size,0,none⟩ (.slice a B.length c)).setCell ⟨w.heap.size,1,none⟩ (.int .i64 (s1.p:Int))).setCell ⟨w.heap.size,2,none⟩ (.int .i64 s1.k)).setCell ⟨w.heap.size,3,none⟩ (.int .i64 s1.f)):=(((HBW.out.setCell zH _).setCell zH _).setCell zH _).setCell zH _;clear x0 x1 x2 x3 f0 f1 f2 f3 l0 y0 y1 y2 y3 g0 g1 g2 g3 l1 z0 z1 z2 e0 e1 e2 l2;refine (HMO.out _ hbw).mono ?_;rintro r w2 ⟨rfl,hb⟩;have HBW:=hid (Ag hb hbw);have D1:=Blk.later D1 hb;have R1:=R1.later hb;have M1:=M1.later hb;clear hb hbw;obtain⟨x0,x1,x2,x3,f0,f1,f2,f3,l0⟩:=Aq D1;obtain⟨y0,y1,y2,y3,g0,g1,g2,g3,l1⟩:=Aq R1;obtain⟨z0,z1,z2,e0,e1,e2,l2⟩:=Ee M1;have HD:=hid D1;have HR:=hid R1;have HM:=hid M1;clear D1 R1 M1;go_wp2_with fail;have D1:Blk ((((w2.setCell ⟨w.heap.size,0,none⟩ (.slice a B.length c)).setCell ⟨w.heap.size,1,none⟩ (.int .i64 (s2.p:Int))).setCell ⟨w.heap.size,2,none⟩ (.int .i64 s2.k)).setCell ⟨w.heap.size,3,none⟩ (.int .i64 s2.f)) w.heap.size 60 #[.slice a B.length c,.int .i64 (s2.p:Int),.int .i64 s2.k,.int .i64 s2.f]:=(((HD.out.set 0 _).set 1 _).set 2 _).set 3 _;have R1:Blk ((((w2.setCell ⟨w.heap.size,0,none⟩ (.slice a B.length c)).setCell ⟨w.heap.size,1,none⟩ (.int .i64 (s2.p:Int))).setCell ⟨w.heap.size,2,none⟩ (.int .i64 s2.k)).setCell ⟨w.heap.size,3,none⟩ (.int .i64 s2.f)) (w.heap.size+1) 60 #[.slice none 0 0,.int .i64 0,.int .i64 0,.int .i64 0]:=Blk.far (Blk.far (Blk.far (Blk.far HR.out zH _) zH _) zH _) zH _;have M1:Blk ((((w2.setCell ⟨w.heap.size,0,none⟩ (.slice a B.length c)).setCell ⟨w.heap.size,1,none⟩ (.int .i64 (s2.p:Int))).setCell ⟨w.heap.size,2,none⟩ (.int .i64 s2.k)).setCell ⟨w.heap.size,3,none⟩ (.int .i64 s2.f)) (w.heap.size+2) 27 #[.int .u64 0,.int .u64 0,.int .u64 0]:=Blk.far (Blk.far (Blk.far (Blk.far HM.out zH _) zH _) zH _) zH _;have hbw:Below w.heap.size w ((((w2.setCell ⟨w.heap.size,0,none⟩ (.slice a B.length c)).setCell ⟨w.heap.size,1,none⟩ (.int .i64 (s2.p:Int))).setCell ⟨w.heap.size,2,none⟩ (.int .i64 s2.k)).setCell ⟨w.heap.size,3,none⟩ (.int .i64 s2.f)):=(((HBW.out.setCell zH _).setCell zH _).setCell zH _).setCell zH _;clear x0 x1 x2 x3 f0 f1 f2 f3 l0 y0 y1 y2 y3 g0 g1 g2 g3 l1 z0 z1 z2 e0 e1 e2 l2;refine (HTL.out _ hbw).mono ?_;rintro r w3 ⟨rfl,hb⟩;have HBW:=hid (Ag hb hbw);have D1:=Blk.later D1 hb;have R1:=R1.later hb;have M1:=M1.later hb;clear hb hbw;obtain⟨x0,x1,x2,x3,f0,f1,f2,f3,l0⟩:=Aq D1;obtain⟨y0,y1,y2,y3,g0,g1,g2,g3,l1⟩:=Aq R1;obtain⟨z0,z1,z2,e0,e1,e2,l2⟩:=Ee M1;have HD:=hid D1;have HR:=hid R1;have HM:=hid M1;clear D1 R1 M1;have HB3:=HBW.out;go_wp2;exact Af (v:=.tuple #[.agg #[.slice a B.length c,.int .i64 (s3.p:Int),.int .i64 s3.k,.int .i64 s3.f],.agg #[.int .u64 (e:Int),.int .u64 (n:Int),.int .u64 (t:Int)]]) zAo rfl ⟨rfl,zA⟩
 ·rw[Ak hk]
  have d0:(s3.k !=(0:Int))=true:=zAs;clear hk;go_enter Tryz.func128,Tryz.ntmps128;go_wp2_with fail;refine (HEP.out _ zA).mono ?_;rintro r w1 ⟨rfl,hb⟩;have D1:Blk w1 w.heap.size 60 #[.slice a B.length c,.int .i64 (s.p:Int),.int .i64 s.k,.int .i64 s.f]:=Blk.later zB hb;have R1:Blk w1 (w.heap.size+1) 60 #[.slice none 0 0,.int .i64 0,.int .i64 0,.int .i64 0]:=Blk.later zB hb;have M1:Blk w1 (w.heap.size+2) 27 #[.int .u64 0,.int .u64 0,.int .u64 0]:=Blk.later zB hb;have HBW:Hid (Below w.heap.size w w1):=hid zA;clear hb;obtain⟨x0,x1,x2,x3,f0,f1,f2,f3,l0⟩:=Aq D1;obtain⟨y0,y1,y2,y3,g0,g1,g2,g3,l1⟩:=Aq R1;obtain⟨z0,z1,z2,e0,e1,e2,l2⟩:=Ee M1;have HD:=hid D1;have HR:=hid R1;have HM:=hid M1;clear D1 R1 M1;go_wp2_with fail;have D1:Blk ((((w1.setCell ⟨w.heap.size,0,none⟩ (.slice a B.length c)).setCell ⟨w.heap.size,1,none⟩ (.int .i64 (s1.p:Int))).setCell ⟨w.heap.size,2,none⟩ (.int .i64 s1.k)).setCell ⟨w.heap.size,3,none⟩ (.int .i64 s1.f)) w.heap.size 60 #[.slice a B.length c,.int .i64 (s1.p:Int),.int .i64 s1.k,.int .i64 s1.f]:=(((HD.out.set 0 _).set 1 _).set 2 _).set 3 _;have R1:Blk ((((w1.setCell ⟨w.heap.size,0,none⟩ (.slice a B.length c)).setCell ⟨w.heap.size,1,none⟩ (.int .i64 (s1.p:Int))).setCell ⟨w.heap.size,2,none⟩ (.int .i64 s1.k)).setCell ⟨w.heap.size,3,none⟩ (.int .i64 s1.f)) (w.heap.size+1) 60 #[.slice none 0 0,.int .i64 0,.int .i64 0,.int .i64 0]:=Blk.far (Blk.far (Blk.far (Blk.far HR.out zH _) zH _) zH _) zH _;have M1:Blk ((((w1.setCell ⟨w.heap.size,0,none⟩ (.slice a B.length c)).setCell ⟨w.heap.size,1,none⟩ (.int .i64 (s1.p:Int))).setCell ⟨w.heap.size,2,none⟩ (.int .i64 s1.k)).setCell ⟨w.heap.size,3,none⟩ (.int .i64 s1.f)) (w.heap.size+2) 27 #[.int .u64 0,.int .u64 0,.int .u64 0]:=Blk.far (Blk.far (Blk.far (Blk.far HM.out zH _) zH _) zH _) zH _;have hbw:Below w.heap.size w ((((w1.setCell ⟨w.heap.size,0,none⟩ (.slice a B.length c)).setCell ⟨w.heap.size,1,none⟩ (.int .i64 (s1.p:Int))).setCell ⟨w.heap.size,2,none⟩ (.int .i64 s1.k)).setCell ⟨w.heap.size,3,none⟩ (.int .i64 s1.f)):=(((HBW.out.setCell zH _).setCell zH _).setCell zH _).setCell zH _;clear x0 x1 x2 x3 f0 f1 f2 f3 l0 y0 y1 y2 y3 g0 g1 g2 g3 l1 z0 z1 z2 e0 e1 e2 l2;refine (HMO.out _ hbw).mono ?_;rintro r w2 ⟨rfl,hb⟩;have HBW:=hid (Ag hb hbw);have D1:=Blk.later D1 hb;have R1:=R1.later hb;have M1:=M1.later hb;clear hb hbw;obtain⟨x0,x1,x2,x3,f0,f1,f2,f3,l0⟩:=Aq D1;obtain⟨y0,y1,y2,y3,g0,g1,g2,g3,l1⟩:=Aq R1;obtain⟨z0,z1,z2,e0,e1,e2,l2⟩:=Ee M1;have HD:=hid D1;have HR:=hid R1;have HM:=hid M1;clear D1 R1 M1;go_wp2_with fail;have D1:Blk ((((w2.setCell ⟨w.heap.size,0,none⟩ (.slice a B.length c)).setCell ⟨w.heap.size,1,none⟩ (.int .i64 (s2.p:Int))).setCell ⟨w.heap.size,2,none⟩ (.int .i64 s2.k)).setCell ⟨w.heap.size,3,none⟩ (.int .i64 s2.f)) w.heap.size 60 #[.slice a B.length c,.int .i64 (s2.p:Int),.int .i64 s2.k,.int .i64 s2.f]:=(((HD.out.set 0 _).set 1 _).set 2 _).set 3 _;have R1:Blk ((((w2.setCell ⟨w.heap.size,0,none⟩ (.slice a B.length c)).setCell ⟨w.heap.size,1,none⟩ (.int .i64 (s2.p:Int))).setCell ⟨w.heap.size,2,none⟩ (.int .i64 s2.k)).setCell ⟨w.heap.size,3,none⟩ (.int .i64 s2.f)) (w.heap.size+1) 60 #[.slice none 0 0,.int .i64 0,.int .i64 0,.int .i64 0]:=Blk.far (Blk.far (Blk.far (Blk.far HR.out zH _) zH _) zH _) zH _;have M1:Blk ((((w2.setCell ⟨w.heap.size,0,none⟩ (.slice a B.length c)).setCell ⟨w.heap.size,1,none⟩ (.int .i64 (s2.p:Int))).setCell ⟨w.heap.size,2,none⟩ (.int .i64 s2.k)).setCell ⟨w.heap.size,3,none⟩ (.int .i64 s2.f)) (w.heap.size+2) 27 #[.int .u64 0,.int .u64 0,.int .u64 0]:=Blk.far (Blk.far (Blk.far (Blk.far HM.out zH _) zH _) zH _) zH _;have hbw:Below w.heap.size w ((((w2.setCell ⟨w.heap.size,0,none⟩ (.slice a B.length c)).setCell ⟨w.heap.size,1,none⟩ (.int .i64 (s2.p:Int))).setCell ⟨w.heap.size,2,none⟩ (.int .i64 s2.k)).setCell ⟨w.heap.size,3,none⟩ (.int .i64 s2.f)):=(((HBW.out.setCell zH _).setCell zH _).setCell zH _).setCell zH _;clear x0 x1 x2 x3 f0 f1 f2 f3 l0 y0 y1 y2 y3 g0 g1 g2 g3 l1 z0 z1 z2 e0 e1 e2 l2;refine (HTL.out _ hbw).mono ?_;rintro r w3 ⟨rfl,hb⟩;have HBW:=hid (Ag hb hbw);have D1:=Blk.later D1 hb;have R1:=R1.later hb;have M1:=M1.later hb;clear hb hbw;obtain⟨x0,x1,x2,x3,f0,f1,f2,f3,l0⟩:=Aq D1;obtain⟨y0,y1,y2,y3,g0,g1,g2,g3,l1⟩:=Aq R1;obtain⟨z0,z1,z2,e0,e1,e2,l2⟩:=Ee M1;have HD:=hid D1;have HR:=hid R1;have HM:=hid M1;clear D1 R1 M1;have HB3:=HBW.out;go_wp2;exact Af (v:=.tuple #[.agg #[.slice a B.length c,.int .i64 (s3.p:Int),.int .i64 s3.k,.int .i64 s3.f],.agg #[.int .u64 0,.int .u64 0,.int .u64 0]]) zAo rfl ⟨rfl,zA⟩
theorem Rs.Ij{m:Int}(h:s.ok B.length):(s.many B m).1.ok B.length:=by
 have h2:=Rs.Eh (B:=B) h (m:=m);unfold Rs.many;dsimp only;split
 ·exact Rs.BH h2 zD
 ·exact h2
theorem Rs.GQ{m:Int}:(s.many B m).2≤m.toNat:=Rs.FW
theorem J9(w:World){g:Nat}{B:List UInt8}{a:Option Addr}{s:Rs}(h:AY w g B a s)(hB:B.length≤1000000000)(m:Int)(hm: -9223372036854775808≤m∧m≤9223372036854775807):
  Calls Tryz.prog 256 #[.pointer (some ⟨g,0,none⟩),.int .i64 m] w fun r w'=>r=.returned (.int .i64 ((s.many B m).2:Int))∧AB w g B a (s.many B m).1 w':=by
 have HAT:=hid (Cc w h);have HVI:=hid (DR w h zD m hm);have HIN:=hid (CY.refl h);clear h;unfold Rs.many;generalize s.int B m=R at*;obtain⟨s1,n⟩:=R;dsimp only at*;by_cases hn:n=0
 ·rw[An hn]
  subst hn;go_enter Tryz.func256,Tryz.ntmps256;go_wp2_with fail;refine HAT.out.mono ?_;rintro r w1 ⟨rfl,rfl⟩;go_wp2_with fail;refine HVI.out.mono ?_;rintro r w2 ⟨rfl,hst⟩;have HIN2:=hid (HIN.out.step hst);clear hst;go_wp2_with fail;refine (Br w2 HIN2.out.rd 3 (s.p:Int) zD).mono ?_;rintro r w3 ⟨rfl,hst⟩;have HE:=hid (HIN2.out.step hst).to;clear hst;go_wp2;go_ret;exact⟨rfl,HE.out⟩
 ·rw[Ak hn]
  have d0:((n:Int)==0)=false:=beq_eq_false_iff_ne.2 zD;go_enter Tryz.func256,Tryz.ntmps256;go_wp2_with fail;refine HAT.out.mono ?_;rintro r w1 ⟨rfl,rfl⟩;go_wp2_with fail;refine HVI.out.mono ?_;rintro r w2 ⟨rfl,hst⟩;have HIN2:=hid (HIN.out.step hst);clear hst;have HE:=hid HIN2.out.to;go_wp2;go_ret;exact⟨rfl,HE.out⟩
theorem PD(w:World)(a:Option Addr)(c:Nat)(B:List UInt8)(hl:Ah.r (·<w.heap.size) w [.slice a B.length c] B)(s:Rs)(hs:s.ok B.length)(hB:B.length≤1000000000000)(m:Int)(hm: -9223372036854775808≤m∧m≤9223372036854775807):
  Calls Tryz.prog 242 #[CV a B.length c s,.int .i64 m] w fun r w'=>r=.returned (.tuple #[CV a B.length c (s.many B m).1,.int .i64 ((s.many B m).2:Int)])∧Below w.heap.size w w':=by
 have HI:=hid (fun (W:World) (hW:Below w.heap.size w W)=>Ex W a c B (lift hl hW) s hs hB m hm);have HF:=hid (fun (W:World) (t:Rs)=>Bk W a B.length c t 3 (s.p:Int) zD);clear hl hs;unfold Rs.many;generalize s.int B m=R at*;obtain⟨s1,n⟩:=R;dsimp only at*;unfold CV at*;by_cases hn:n=0
 ·rw[An hn]
  subst hn;have HF:=hid (fun (W:World)=>HF.out W s1);generalize s1.fail 3 (s.p:Int)=s2 at*;go_enter Tryz.func242,Tryz.ntmps242;go_wp2_with fail;refine (HI.out _ zA).mono ?_;rintro r w1 ⟨rfl,hb⟩;have D1:Blk w1 w.heap.size 60 #[.slice a B.length c,.int .i64 (s.p:Int),.int .i64 s.k,.int .i64 s.f]:=Blk.later zB hb;have R1:Blk w1 (w.heap.size+1) 60 #[.slice none 0 0,.int .i64 0,.int .i64 0,.int .i64 0]:=Blk.later zB hb;have HBW:Hid (Below w.heap.size w w1):=hid zA;have hs1:=hb.size;simp at hs1;obtain⟨x0,x1,x2,x3,f0,f1,f2,f3,l0⟩:=Aq D1;obtain⟨y0,y1,y2,y3,g0,g1,g2,g3,l1⟩:=Aq R1;have hbx:=HBW.out;clear hb;have X1:Blk (w1.alloc (.cells #[.slice a B.length c,.int .i64 (s1.p:Int),.int .i64 s1.k,.int .i64 s1.f] 60)) w1.heap.size 60 #[.slice a B.length c,.int .i64 (s1.p:Int),.int .i64 s1.k,.int .i64 s1.f]:=Blk.newAt _ _ _ rfl;have R2:Blk (w1.alloc (.cells #[.slice a B.length c,.int .i64 (s1.p:Int),.int .i64 s1.k,.int .i64 s1.f] 60)) (w.heap.size+1) 60 #[.slice none 0 0,.int .i64 0,.int .i64 0,.int .i64 0]:=R1.alloc _;have hb2:Below w.heap.size w (w1.alloc (.cells #[.slice a B.length c,.int .i64 (s1.p:Int),.int .i64 s1.k,.int .i64 s1.f] 60)):=HBW.out.alloc zD _;clear D1 R1;go_wp2_with fail;refine (HF.out _).mono ?_;rintro r w3 ⟨rfl,hb⟩;have X3:=X1.later hb;have R3:=R2.later hb;have hb3:=Ag hb hb2;have hs3:=hb.size;simp at hs3;clear hb X1 R2 hb2 x0 x1 x2 x3 f0 f1 f2 f3 l0 y0 y1 y2 y3 g0 g1 g2 g3 l1;obtain⟨x0,x1,x2,x3,f0,f1,f2,f3,l0⟩:=Aq X3;obtain⟨y0,y1,y2,y3,g0,g1,g2,g3,l1⟩:=Aq R3;go_wp2;exact Af (v:=.tuple #[.agg #[.slice a B.length c,.int .i64 (s2.p:Int),.int .i64 s2.k,.int .i64 s2.f],.int .i64 0]) zB1 rfl ⟨rfl,zA⟩
 ·rw[Ak hn]
  have d0:((n:Int)==0)=false:=beq_eq_false_iff_ne.2 zD;go_enter Tryz.func242,Tryz.ntmps242;go_wp2_with fail;refine (HI.out _ zA).mono ?_;rintro r w1 ⟨rfl,hb⟩;have D1:Blk w1 w.heap.size 60 #[.slice a B.length c,.int .i64 (s.p:Int),.int .i64 s.k,.int .i64 s.f]:=Blk.later zB hb;have R1:Blk w1 (w.heap.size+1) 60 #[.slice none 0 0,.int .i64 0,.int .i64 0,.int .i64 0]:=Blk.later zB hb;have HBW:Hid (Below w.heap.size w w1):=hid zA;have hs1:=hb.size;simp at hs1;obtain⟨x0,x1,x2,x3,f0,f1,f2,f3,l0⟩:=Aq D1;obtain⟨y0,y1,y2,y3,g0,g1,g2,g3,l1⟩:=Aq R1;have hbx:=HBW.out;clear hb;go_wp2;exact Af (v:=.tuple #[.agg #[.slice a B.length c,.int .i64 (s1.p:Int),.int .i64 s1.k,.int .i64 s1.f],.int .i64 (n:Int)]) zB1 rfl ⟨rfl,zA⟩
theorem Rs.Jk{m:Int}(h:(s.many B m).1.k=0):1≤(s.many B m).2:=by
 unfold Rs.many at*;dsimp only at*;split at h
 ·exact absurd h (Rs.BV zD)
 ·omega
theorem Rs.Ho{out:List Int}(h:s.k≠0):∀n,(Rs.CL B n s out).1.k≠0
 | 0=>h
 | n+1=>by
  unfold Rs.CL;rw[Rs.Dh h,Ak h];exact h
theorem Rs.Hp:∀(n:Nat) (s:Rs) (out:List Int),(Rs.CL B n s out).1.k=0→(Rs.CL B n s out).2.length=n+out.length
 | 0,s,out,_=>by simp[Rs.CL]
 | n+1,s,out,h=>by
  unfold Rs.CL at h ⊢;split at h
  ·rename_i h1
   rw[An h1];split at h
   ·exact absurd h (Rs.BV zD)
   ·rename_i h2
    rw[Ak h2];rw[Rs.Hp n _ _ h];simp;omega
  ·rename_i h1
   exact absurd h h1
theorem K2(w:World){g:Nat}{B:List UInt8}{a:Option Addr}{s:Rs}(h:AY w g B a s)(hB:B.length≤1000000000)(O:List (List Int))(ao:Option Addr)(no co:Nat)(ho:De.r (fun q=>q<w.heap.size∧q≠g) w [.slice ao no co] O):
  Calls Tryz.prog 257 #[.pointer (some ⟨g,0,none⟩),.slice ao no co] w fun r w'=>∃v,r=.returned v∧AV.r (fun q=>w.heap.size≤q∧q<w'.heap.size) w' [v] (s.Eg B O).2∧AB w g B a (s.Eg B O).1 w':=by
 have hlt:=h.blk.lt;have HIN:=hid (CY.refl h);have HMN:=hid (J9 w h hB 8 zD);have hnl:=Rs.GQ (B:=B) (s:=s) (m:=8);have hnp:=Rs.Jk (B:=B) (s:=s) (m:=8);have HO:=hid ho;clear h ho;unfold Rs.Eg;dsimp only;generalize s.many B 8=R at*;obtain⟨s1,n⟩:=R;dsimp only at*;have HZR:=hid (fun (W:World) (hW:AY W g B a s1)=>NI W hW hB n zD);have hbd:=fun hk=>Rs.Ho (B:=B) (s:=s1) (out:=[]) hk n;have hrl:=Rs.Hp (B:=B) n s1 [];generalize Rs.CL B n s1 []=R at*;obtain⟨s2,L⟩:=R;dsimp only at*;by_cases hk:s2.k=0
 ·rw[An hk]
  have HK:decide (s2.k=0)=true:=Ae hk;have hk1:s1.k=0:=CW fun hh=>hbd hh hk;have hL:=hrl hk;simp only[Bz,CE] at hL;have hL1:1≤L.length:=by have:=hnp hk1;omega
  obtain⟨m,hm⟩:∃m,L.length=m+1:=⟨L.length-1,zD⟩;have hla:=Jo L hL1;have HLAST:Hid (∀hh:m<L.length,L[m]=L.getLastD 0):=hid (fun hh=>by rw[hla];congr 1;omega);have j1:(L.length:Int)-1=(m:Int):=zD;have j2:(0:Int)≤(L.length:Int)-1:=zD;have j3:(m:Int)<(L.length:Int):=zD;generalize L.getLastD 0=q at*;have HM:=hid hm;clear hbd hrl hnp hk hk1 hla hL hm;by_cases hq:4294967295<q
  ·rw[An hq]
   have d1:decide (4294967295<q)=true:=Ae hq;go_enter Tryz.func257,Tryz.ntmps257;go_wp2_with fail;refine HMN.out.mono ?_;rintro r w1 ⟨rfl,hst⟩;have HIN1:=hid (HIN.out.step hst);clear hst;go_wp2_with fail;refine (Cc w1 HIN1.out.rd).mono ?_;rintro r w2 ⟨rfl,rfl⟩;go_wp2_with fail;refine (HZR.out _ HIN1.out.rd).mono ?_;rintro r w3 ⟨v,rfl,hv,hst⟩;obtain⟨av,cv,e,hv2,hlen⟩:=At hv;cases e;have HIN3:=hid (HIN1.out.step hst);have HV:=hid (AV.mono hv fun q hq=>(⟨A4 HIN1.out.tch.size hq.1,hq.2⟩:w.heap.size≤q∧q<w3.heap.size));have hg:=AG w3 HIN3.out.rd;rw[HK] at hg;have HG:=hid hg;clear hst hv hv2 hg;go_wp2_with fail;refine HG.out.mono ?_;rintro r w4 ⟨rfl,hb4⟩;have HIN4:=hid (HIN3.out.step (AB.later HIN3.out.rd hb4));have HV4:=hid (AV.mono (AV.keep HV.out fun q hq=>hb4.block q hq.2) fun q hq=>(⟨hq.1,Am hq.2 hb4.size⟩:w.heap.size≤q∧q<w4.heap.size));clear hb4;obtain⟨b,o,rfl,_,hc,_⟩:=Ep HV4.out (i:=m) (by have:=HM.out;omega);rw[HLAST.out] at hc;go_wp2_with fail;refine (Br w4 HIN4.out.rd 3 (s1.p:Int) zD).mono ?_;rintro r w5 ⟨rfl,hst⟩;have HV5:=hid (AV.mono (AV.keep HV4.out fun q hq=>hst.2.block q hq.2 zV) fun q hq=>(⟨hq.1,Am hq.2 hst.2.size⟩:w.heap.size≤q∧q<w5.heap.size));have HIN5:=hid (HIN4.out.step hst);clear hst;go_wp2;go_ret;exact⟨_,rfl,HV5.out,HIN5.out.to⟩
  ·rw[Ak hq]
   have d1:decide (4294967295<q)=false:=Ad hq;by_cases hap:BM L O=true
   ·rw[An hap]
    have HAP:=hap;clear hap;go_enter Tryz.func257,Tryz.ntmps257;go_wp2_with fail;refine HMN.out.mono ?_;rintro r w1 ⟨rfl,hst⟩;have HIN1:=hid (HIN.out.step hst);clear hst;go_wp2_with fail;refine (Cc w1 HIN1.out.rd).mono ?_;rintro r w2 ⟨rfl,rfl⟩;go_wp2_with fail;refine (HZR.out _ HIN1.out.rd).mono ?_;rintro r w3 ⟨v,rfl,hv,hst⟩;obtain⟨av,cv,e,hv2,hlen⟩:=At hv;cases e;have HIN3:=hid (HIN1.out.step hst);have HV:=hid (AV.mono hv fun q hq=>(⟨A4 HIN1.out.tch.size hq.1,hq.2⟩:w.heap.size≤q∧q<w3.heap.size));have hg:=AG w3 HIN3.out.rd;rw[HK] at hg;have HG:=hid hg;clear hst hv hv2 hg;go_wp2_with fail;refine HG.out.mono ?_;rintro r w4 ⟨rfl,hb4⟩;have HIN4:=hid (HIN3.out.step (AB.later HIN3.out.rd hb4));have HV4:=hid (AV.mono (AV.keep HV.out fun q hq=>hb4.block q hq.2) fun q hq=>(⟨hq.1,Am hq.2 hb4.size⟩:w.heap.size≤q∧q<w4.heap.size));clear hb4;obtain⟨b,o,rfl,_,hc,_⟩:=Ep HV4.out (i:=m) (by have:=HM.out;omega);rw[HLAST.out] at hc;go_wp2_with fail;refine (Dv L O (some ⟨b,o,none⟩) L.length cv ao no co w4 (AV.mono HV4.out fun q hq=>hq.2) (De.mono (De.keep HO.out fun q hq=>HIN4.out.tch.block q hq.1 hq.2) fun q hq=>Am hq.1 HIN4.out.tch.size)).mono ?_;rw[HAP];rintro r w5 ⟨rfl,hb5⟩;have hst:=AB.later HIN4.out.rd hb5;have HV5:=hid (AV.mono (AV.keep HV4.out fun q hq=>hst.2.block q hq.2 zV) fun q hq=>(⟨hq.1,Am hq.2 hst.2.size⟩:w.heap.size≤q∧q<w5.heap.size));have HIN5:=hid (HIN4.out.step hst);clear hst;go_wp2;go_ret;exact⟨_,rfl,HV5.out,HIN5.out.to⟩
   ·rw[Ak hap]
    have HAP:=Bool.eq_false_iff.2 hap;clear hap;go_enter Tryz.func257,Tryz.ntmps257;go_wp2_with fail;refine HMN.out.mono ?_;rintro r w1 ⟨rfl,hst⟩;have HIN1:=hid (HIN.out.step hst);clear hst;go_wp2_with fail;refine (Cc w1 HIN1.out.rd).mono ?_;rintro r w2 ⟨rfl,rfl⟩;go_wp2_with fail;refine (HZR.out _ HIN1.out.rd).mono ?_;rintro r w3 ⟨v,rfl,hv,hst⟩;obtain⟨av,cv,e,hv2,hlen⟩:=At hv;cases e;have HIN3:=hid (HIN1.out.step hst);have HV:=hid (AV.mono hv fun q hq=>(⟨A4 HIN1.out.tch.size hq.1,hq.2⟩:w.heap.size≤q∧q<w3.heap.size));have hg:=AG w3 HIN3.out.rd;rw[HK] at hg;have HG:=hid hg;clear hst hv hv2 hg;go_wp2_with fail;refine HG.out.mono ?_;rintro r w4 ⟨rfl,hb4⟩;have HIN4:=hid (HIN3.out.step (AB.later HIN3.out.rd hb4));have HV4:=hid (AV.mono (AV.keep HV.out fun q hq=>hb4.block q hq.2) fun q hq=>(⟨hq.1,Am hq.2 hb4.size⟩:w.heap.size≤q∧q<w4.heap.size));clear hb4;obtain⟨b,o,rfl,_,hc,_⟩:=Ep HV4.out (i:=m) (by have:=HM.out;omega);rw[HLAST.out] at hc;go_wp2_with fail;refine (Dv L O (some ⟨b,o,none⟩) L.length cv ao no co w4 (AV.mono HV4.out fun q hq=>hq.2) (De.mono (De.keep HO.out fun q hq=>HIN4.out.tch.block q hq.1 hq.2) fun q hq=>Am hq.1 HIN4.out.tch.size)).mono ?_;rw[HAP];rintro r w5 ⟨rfl,hb5⟩;have hst:=AB.later HIN4.out.rd hb5;have HV5:=hid (AV.mono (AV.keep HV4.out fun q hq=>hst.2.block q hq.2 zV) fun q hq=>(⟨hq.1,Am hq.2 hst.2.size⟩:w.heap.size≤q∧q<w5.heap.size));have HIN5:=hid (HIN4.out.step hst);clear hst;go_wp2_with fail;refine (Br w5 HIN5.out.rd 13 (s1.p:Int) zD).mono ?_;rintro r w6 ⟨rfl,hst⟩;have HV6:=hid (AV.mono (AV.keep HV5.out fun q hq=>hst.2.block q hq.2 zV) fun q hq=>(⟨hq.1,Am hq.2 hst.2.size⟩:w.heap.size≤q∧q<w6.heap.size));have HIN6:=hid (HIN5.out.step hst);clear hst;go_wp2;go_ret;exact⟨_,rfl,HV6.out,HIN6.out.to⟩
 ·rw[Ak hk]
  have HK:decide (s2.k=0)=false:=Ad hk;clear hbd hrl hnp hk;go_enter Tryz.func257,Tryz.ntmps257;go_wp2_with fail;refine HMN.out.mono ?_;rintro r w1 ⟨rfl,hst⟩;have HIN1:=hid (HIN.out.step hst);clear hst;go_wp2_with fail;refine (Cc w1 HIN1.out.rd).mono ?_;rintro r w2 ⟨rfl,rfl⟩;go_wp2_with fail;refine (HZR.out _ HIN1.out.rd).mono ?_;rintro r w3 ⟨v,rfl,hv,hst⟩;obtain⟨av,cv,e,hv2,hlen⟩:=At hv;cases e;have HIN3:=hid (HIN1.out.step hst);have HV:=hid (AV.mono hv fun q hq=>(⟨A4 HIN1.out.tch.size hq.1,hq.2⟩:w.heap.size≤q∧q<w3.heap.size));have hg:=AG w3 HIN3.out.rd;rw[HK] at hg;have HG:=hid hg;clear hst hv hv2 hg;go_wp2_with fail;refine HG.out.mono ?_;rintro r w4 ⟨rfl,hb4⟩;have HIN4:=hid (HIN3.out.step (AB.later HIN3.out.rd hb4));have HV4:=hid (AV.mono (AV.keep HV.out fun q hq=>hb4.block q hq.2) fun q hq=>(⟨hq.1,Am hq.2 hb4.size⟩:w.heap.size≤q∧q<w4.heap.size));clear hb4;go_wp2;go_ret;exact⟨_,rfl,AZ (xs:=[]) rfl (Aj _) (Ao _) (.inl rfl),HIN4.out.to⟩
theorem Rs.KL:∀(n:Nat) (s:Rs) (out:List Int),s.ok B.length→(Rs.CL B n s out).1.ok B.length
 | 0,s,out,h=>h
 | n+1,s,out,h=>by
  have h2:=Rs.CC (B:=B) h;unfold Rs.CL;split
  ·split
   ·exact Rs.BH h2 zD
   ·exact Rs.KL n _ _ h2
  ·exact h2
theorem Rs.UP{O:List (List Int)}(h:s.ok B.length):(s.Eg B O).1.ok B.length:=by
 have h2:=Rs.KL (B:=B) (s.many B 8).2 (s.many B 8).1 [] (Rs.Ij h);unfold Rs.Eg;dsimp only;split
 ·split
  ·exact Rs.BH h2 zD
  ·split
   ·exact h2
   ·exact Rs.BH h2 zD
 ·exact h2
theorem Rs.QY:∀(n:Nat) (s:Rs) (out:List (List Int)),s.ok B.length→(Rs.Dt B n s out).1.ok B.length
 | 0,s,out,h=>h
 | n+1,s,out,h=>by
  have h2:=Rs.UP (B:=B) (O:=out) h;unfold Rs.Dt;split
  ·exact Rs.QY n _ _ h2
  ·exact h2
theorem Rs.Uf{lo:Int}(h:s.ok B.length):(s.span B lo).1.ok B.length:=by
 unfold Rs.span;dsimp only;have h0:(if 4611686018427387904<lo then s.fail 3 s.p else s).ok B.length:=by
  split
  ·exact Rs.BH h zD
  ·exact h
 generalize (if 4611686018427387904<lo then s.fail 3 s.p else s)=s0 at*;split
 ·exact Rs.BH (Rs.CC h0) zD
 ·exact Rs.CC h0
theorem Rs.Me{lo:Int}(h:s.ok B.length):(s.Bb B lo).1.ok B.length:=by
 have h2:=Rs.QY (B:=B) ((s.span B lo).1.many B 8).2 _ [] (Rs.Ij (m:=8) (Rs.Uf (lo:=lo) h));unfold Rs.Bb;dsimp only;split<;>exact h2
theorem Rs.K1:∀(n:Nat) (s:Rs) (lo:Int) (out:List Cq),s.ok B.length→(Rs.CS B n s lo out).1.ok B.length
 | 0,s,lo,out,h=>h
 | n+1,s,lo,out,h=>by
  have h2:=Rs.Me (B:=B) (lo:=lo) h;unfold Rs.CS;split
  ·exact Rs.K1 n _ _ _ h2
  ·exact h2
theorem Rs.Rb(h:s.ok B.length):(s.Du B).1.ok B.length:=by
 have h2:=Rs.K1 (B:=B) ((s.ep B).1.many B 64).2 _ 0 [] (Rs.Ij (m:=64) (Rs.JV h));unfold Rs.Du;dsimp only;split
 ·split
  ·exact h2
  ·exact h2
 ·split
  ·exact Rs.BH h2 zD
  ·exact Rs.BH h2 zD
theorem Rs.Rv(h:s.k≠0):s.tl B=(s,0):=by
 unfold Rs.tl;rw[Rs.Dh h,Ak h]
theorem Rs.LC(h:s.k≠0):s.ep B=(s,0):=by
 unfold Rs.ep;rw[Rs.Dh h,Ak h]
theorem Rs.Jg{m:Nat}(h:s.k≠0):s.most B m=(s,0):=by
 unfold Rs.most;rw[Rs.Dh h];dsimp only;rw[Rs.Bl h];split<;>(try split)<;>rfl
theorem Rs.Hy{m:Int}(h:s.k≠0):s.int B m=(s,0):=by
 unfold Rs.int;split
 ·rw[Rs.Jg h]
 ·rw[Rs.Dh h]
  dsimp only;first | rfl | (rw[Rs.Bl h])
theorem Rs.Kb(h:s.k≠0):s.seal_ B=(s,BE):=by
 unfold Rs.seal_;rw[Rs.LC h];dsimp only;rw[Rs.Jg h];dsimp only;rw[Rs.Rv h];dsimp only;rw[Ak h]
theorem Rs.DW{m:Int}(h:s.k≠0):s.many B m=(s,0):=by
 unfold Rs.many;rw[Rs.Hy h];dsimp only;rw[An rfl,Rs.Bl h]
theorem Rs.K5{O:List (List Int)}(h:s.k≠0):s.Eg B O=(s,[]):=by
 unfold Rs.Eg;rw[Rs.DW h];exact Ak h
theorem Rs.NT{lo:Int}(h:s.k≠0):s.span B lo=(s,0):=by
 unfold Rs.span;dsimp only;rw[show (if 4611686018427387904<lo then s.fail 3 s.p else s)=s by rw[Rs.Bl h];split<;>rfl,Rs.Dh h];dsimp only;rw[Rs.Bl h];split<;>rfl
theorem Rs.Gp{lo:Int}(h:s.k≠0):s.Bb B lo=(s,DS):=by
 unfold Rs.Bb;rw[Rs.NT h];dsimp only;rw[Rs.DW h];exact Ak h
theorem Rs.Kk(h:s.k≠0):s.Du B=(s,Bx):=by
 unfold Rs.Du;rw[Rs.LC h];dsimp only;rw[Rs.DW h];have e:(if (Rs.CS B 0 s 0 []).2.1=4611686018427387904 then (Rs.CS B 0 s 0 []).1 else (Rs.CS B 0 s 0 []).1.fail 3 (Rs.CS B 0 s 0 []).1.p)=s:=(Ak (show ¬((0:Int)=4611686018427387904) by omega)).trans (Rs.Bl h);rw[e];exact Ak h
theorem Rs.Vf{O:List (List Int)}(h:(s.Eg B O).1.k=0):s.k=0:=
 CW fun hh=>by rw[Rs.K5 hh] at h;exact hh h
theorem Rs.Tu{m:Int}(h:(s.many B m).1.k=0):s.k=0:=
 CW fun hh=>by rw[Rs.DW hh] at h;exact hh h
theorem Rs.SL{lo:Int}(h:(s.Bb B lo).1.k=0):s.k=0:=
 CW fun hh=>by rw[Rs.Gp hh] at h;exact hh h
theorem Rs.Uh{O:List (List Int)}(h:(s.Eg B O).1.k=0):(s.Eg B O).2.length≤8:=by
 unfold Rs.Eg at h ⊢;dsimp only at h ⊢;have hl:=Rs.Hp (B:=B) (s.many B 8).2 (s.many B 8).1 [];have hm:(s.many B 8).2≤8:=Rs.GQ (m:=8);simp only[Bz,CE] at hl;generalize Rs.CL B (s.many B 8).2 (s.many B 8).1 []=f at*;split at h
 ·rename_i h1
  have:=hl h1;rw[An h1];split
  ·dsimp only;omega
  ·split
   ·omega
   ·dsimp only;omega
 ·rename_i h1
  exact absurd h h1
theorem Mn:∀(l:List Int) (x:Int),Ck l=true→(l≠[]→l.getLastD 0<x)→Ck (l++[x])=true
 | [],x,_,_=>rfl
 | [y],x,_,h=>by
  have:=h zP;simp[Ck] at this ⊢;exact this
 | y::z::l,x,h,hx=>by
  simp only[Ck,AL,AN] at h;have hx2:=hx zP;have:=Mn (z::l) x h.2 (fun _=>by simpa using hx2);simp only[KI,Ck,AL,AN] at this ⊢;exact⟨h.1,this⟩
theorem Rs.La:∀(n:Nat) (s:Rs) (out:List Int),Ck out=true→(Rs.CL B n s out).1.k=0→Ck (Rs.CL B n s out).2=true
 | 0,s,out,h,_=>h
 | n+1,s,out,h,hk=>by
  unfold Rs.CL at hk ⊢;split at hk
  ·rename_i h1
   rw[An h1];split at hk
   ·exact absurd hk (Rs.BV zD)
   ·rename_i h2
    rw[Ak h2];refine Rs.La n _ _ (Mn _ _ h fun hne=> ?_) hk;rw[Ak hne];omega
  ·rename_i h1
   exact absurd hk h1
theorem Rs.UQ{O:List (List Int)}(h:(s.Eg B O).1.k=0):Di (s.Eg B O).2=true∧BM (s.Eg B O).2 O=true:=by
 have hle:=Rs.Uh h;unfold Rs.Eg at h hle ⊢;dsimp only at h hle ⊢;have hl:=Rs.Hp (B:=B) (s.many B 8).2 (s.many B 8).1 [];have hr:=Rs.La (B:=B) (s.many B 8).2 (s.many B 8).1 [] rfl;have hb:=fun hk=>Rs.Ho (B:=B) (s:=(s.many B 8).1) (out:=[]) hk (s.many B 8).2;have hp:=Rs.Jk (B:=B) (s:=s) (m:=8);simp only[Bz,CE] at hl;generalize Rs.CL B (s.many B 8).2 (s.many B 8).1 []=f at*;split at h
 ·rename_i h1
  rw[An h1] at hle ⊢;have hk1:(s.many B 8).1.k=0:=CW fun hh=>hb hh h1;have:=hl h1;have:=hp hk1;split at h
  ·exact absurd h (Rs.BV zD)
  ·rename_i h2
   rw[Ak h2] at hle ⊢;split at h
   ·rename_i h3
    rw[An h3] at hle ⊢;refine⟨?_,h3⟩;unfold Di;rw[hr h1,Ae (show 1≤f.2.length∧f.2.length≤8 from ⟨zD,hle⟩),Ae zD];rfl
   ·exact absurd h (Rs.BV zD)
 ·rename_i h1
  exact absurd h h1
theorem SO{L:List (List Int)}{x:List Int}(h:i<L.length):Ha (L++[x]) i=Ha L i:=by
 unfold Ha;rw[show (L++[x]).getD i []=L.getD i [] by simp[List.getD_eq_getElem?_getD,Bi h],List.take_append_of_le_length zD]
theorem Mh{L:List (List Int)}{x:List Int}:∀n,n≤L.length→BG (L++[x]) n=BG L n
 | 0,_=>rfl
 | n+1,h=>by
  unfold BG;rw[Mh n zD,SO zD]
theorem Pg{L:List (List Int)}{x:List Int}(h:BG L L.length=true)(hn:Di x=true)(ha:BM x L=true):BG (L++[x]) (L++[x]).length=true:=by
 rw[Au];show (BG (L++[x]) L.length&&Ha (L++[x]) L.length)=true
 have e:(L++[x]).getD L.length []=x:=by simp[List.getD_eq_getElem?_getD]
 rw[Mh _ (Aj _),h];unfold Ha;rw[e,List.take_left,hn,ha];rfl
theorem Rs.QZ:∀(n:Nat) (s:Rs) (out:List (List Int)),BG out out.length=true→(Rs.Dt B n s out).1.k=0→BG (Rs.Dt B n s out).2 (Rs.Dt B n s out).2.length=true∧(Rs.Dt B n s out).2.length=n+out.length
 | 0,s,out,h,_=>⟨h,by simp[Rs.Dt]⟩
 | n+1,s,out,h,hk=>by
  unfold Rs.Dt at hk ⊢;split at hk
  ·rename_i h1
   rw[An h1];obtain⟨h2,h3⟩:=Rs.UQ h1;obtain⟨h4,h5⟩:=Rs.QZ n _ _ (Pg h h2 h3) hk;refine⟨h4,?_⟩;rw[h5,Au];simp;omega
  ·rename_i h1
   exact absurd hk h1
theorem Rs.SN(n:Nat){out:List (List Int)}(h:(Rs.Dt B n s out).1.k=0):s.k=0:=by
 cases n with
 | zero=>exact h
 | succ n=>
  unfold Rs.Dt at h;split at h
  ·rename_i h1
   exact Rs.Vf h1
  ·rename_i h1
   exact absurd h h1
theorem Rs.QW{lo:Int}(h:(s.span B lo).1.k=0):lo≤4611686018427387904∧lo+(s.span B lo).2+1≤4611686018427387904:=by
 unfold Rs.span at h ⊢;dsimp only at h ⊢;by_cases hlo:4611686018427387904<lo
 ·rw[An hlo] at h
  have hb:(s.fail 3 s.p).k≠0:=Rs.BV zD;rw[Rs.Dh hb] at h;dsimp only at h;rw[Rs.Bl hb] at h;split at h<;>exact absurd h hb
 ·rw[Ak hlo] at h ⊢
  split at h
  ·exact absurd h (Rs.BV zD)
  ·rename_i h2
   constructor
   ·omega
   ·omega
theorem Rs.Rw{lo:Int}(h:(s.Bb B lo).1.k=0):Dw (s.Bb B lo).2=true∧(s.Bb B lo).2.lo=lo:=by
 unfold Rs.Bb at h ⊢;dsimp only at h ⊢;have h1:=Rs.QZ (B:=B) ((s.span B lo).1.many B 8).2 ((s.span B lo).1.many B 8).1 [] rfl;have h2:=Rs.SN (B:=B) (s:=((s.span B lo).1.many B 8).1) ((s.span B lo).1.many B 8).2 (out:=[]);have h3:=Rs.Tu (B:=B) (s:=(s.span B lo).1) (m:=8);have h4:=Rs.Jk (B:=B) (s:=(s.span B lo).1) (m:=8);have h5:((s.span B lo).1.many B 8).2≤8:=Rs.GQ (m:=8);have h6:=Rs.QW (B:=B) (s:=s) (lo:=lo);generalize Rs.Dt B ((s.span B lo).1.many B 8).2 ((s.span B lo).1.many B 8).1 []=u at*;split at h
 ·rename_i hk
  rw[An hk];obtain⟨a1,a2⟩:=h1 hk;have hk2:=h2 hk;obtain⟨a3,a4⟩:=h6 (h3 hk2);have a5:=h4 hk2;simp only[Bz,CE] at a2;refine⟨?_,rfl⟩;unfold Dw;dsimp only;rw[a1,Ae zD];rfl
 ·rename_i hk
  exact absurd h hk
open Go.RowKit Go.Bs
theorem Oy:(Tryz.prog.info? 23).map (fun i=>(i.zero,i.size,i.bytes))=some (some (.slice none 0 0),1,24):=zL
theorem Lv:(Tryz.prog.info? 155).map (fun i=>(i.zero,i.size,i.bytes))=some (some (.agg #[.int .u64 0,.int .u64 0,.slice none 0 0]),3,40):=zL
theorem AD.Pb{α:Type}{A:Rp α}{xs:List α}(h:AD lo A lo e sz w v xs)(hb:Tch F w w')(hF:∀b,lo≤b→b<w.heap.size→¬F b):AD lo A lo e sz w' v xs:=by
 have hk:∀b,lo≤b→b<w.heap.size→w'.heap[b]? =w.heap[b]? :=fun b h1 h2=>hb.block b h2 (hF b h1 h2);obtain⟨cells,ho,hlen,hsz,hA⟩:=h;refine⟨cells,⟨ho.1,?_⟩,hlen,hsz,fun i cs x hi hx=>A.mono (A.keep (hA i cs x hi hx) fun b h=>hk b h.1 h.2.1) fun b h=>⟨h.1,Am h.2.1 hb.size,h.2.2⟩⟩;rcases ho.2 with h0 | ⟨g',cap,cur,h1,h2,h3,h4⟩
 ·exact .inl h0
 ·exact .inr ⟨g',cap,cur,h1,h2,(hk _ h2 (Blk.lt h3)).trans h3,h4⟩
theorem Ej(h:Blk w g t #[v0,v1,v2]):w.cell? ⟨g,0,none⟩=some v0∧w.cell? ⟨g,1,none⟩=some v1∧w.cell? ⟨g,2,none⟩=some v2∧w.frozen? ⟨g,0,none⟩=false∧w.frozen? ⟨g,1,none⟩=false∧w.frozen? ⟨g,2,none⟩=false∧g<w.heap.size:=
 ⟨h.cell 0,h.cell 1,h.cell 2,h.free 0,h.free 1,h.free 2,h.lt⟩
theorem Uv{cs:Array Value}(h:Blk w g t cs)(i:Nat):w.frozen? ⟨g,i,none⟩=false:=h.free i
theorem Gu(w:World)(p:Addr)(u:Value):(w.setCell p u).heap.size=w.heap.size:=ZQ
theorem NQ(w:World)(h:AY w g B a s)(hB:B.length≤1000000000)(lo:Int)(hlo:0≤lo∧lo≤18446744073709551615):
  Calls Tryz.prog 236 #[.pointer (some ⟨g,0,none⟩),.int .u64 lo] w fun r w'=>∃v,r=.returned (.agg #[.int .u64 (s.Bb B lo).2.lo,.int .u64 (s.Bb B lo).2.hi,v])∧De.r (CO w w') w' [v] (s.Bb B lo).2.sets∧AB w g B a (s.Bb B lo).1 w':=by
 have hlt:=h.blk.lt;have HIN:=hid (CY.refl h);obtain⟨j0,ji,jz0,jz1,jz2⟩:=Bc Oy;have hspin:=Rs.QW (B:=B) (s:=s) (lo:=lo);unfold Rs.Bb Rs.span;unfold Rs.span at hspin;dsimp only at*;obtain⟨s0,hs0⟩:∃t,t=(if 4611686018427387904<lo then s.fail 3 s.p else s):=⟨_,rfl⟩;rw[←hs0] at hspin ⊢;have HS0:=hid hs0;clear hs0;have HAT:=hid (fun (W:World) (hW:AY W g B a s)=>Cc W hW);have hsp9:=h.ok.le;have HVR:=hid (fun (W:World) (hW:AY W g B a s0)=>CH W hW zD);have hnn:=Rs.Cp (B:=B) (s:=s0);generalize s0.num B=D at*;obtain⟨s1,n⟩:=D;dsimp only at*;obtain⟨s2,hs2⟩:∃t,t=(if 4611686018427387904-min lo 4611686018427387904≤(n:Int) then s1.fail 3 s.p else s1):=⟨_,rfl⟩;rw[←hs2] at hspin ⊢;have HS2:=hid hs2;clear hs2;have HMN:=hid (fun (W:World) (hW:AY W g B a s2)=>J9 W hW hB 8 zD);have hmk:=Rs.Tu (B:=B) (s:=s2) (m:=8);have hml:(s2.many B 8).2≤8:=Rs.GQ (m:=8);generalize s2.many B 8=M at*;obtain⟨s3,k⟩:=M;dsimp only at*;have hsk:=Rs.SN (B:=B) (s:=s3) k (out:=[]);obtain⟨U,hU⟩:∃t,t=Rs.Dt B k s3 []:=⟨_,rfl⟩;rw[←hU] at hsk ⊢;have HU:=hid hU;have HYY:Hid (U.1.k=0→lo≤4611686018427387904∧lo+n+1≤4611686018427387904):=hid (fun e=>hspin (hmk (hsk e)));generalize hRS:(if U.1.k=0 then (U.1,(⟨lo,lo+n+1,U.2⟩:Cq)) else (U.1,DS))=RES;have HRZ:=hid hRS;clear h hspin hmk hsk hU hRS;go_enter Tryz.func236,Tryz.ntmps236;go_wp2_with fail;go_step3
 go_wp2_with fail;refine (HAT.out _ (HIN.out.row zA).rd).mono ?_;rintro r w1 ⟨rfl,rfl⟩;go_upto_if 12 with (fail);go_cut [] from 11 to 15 (fun V=>Hid (CY w V g B a s0)∧Hid (Blk V w.heap.size 155 #[.int .u64 0,.int .u64 0,.slice none 0 0]))
 case first=>
  by_cases hp:4611686018427387904<lo
  ·have d1:decide (4611686018427387904<lo)=true:=Ae hp
   have HE:=HS0.out;rw[An hp] at HE;have HE2:=hid HE;clear HE hp;rw[d1];go_wp2_with fail;refine (Br _ (HIN.out.row zA).rd 3 (s.p:Int) zD).mono ?_;rintro r w2 ⟨rfl,hst⟩;have HB2:=hid (Blk.tch (Blk.new w 155 #[.int .u64 0,.int .u64 0,.slice none 0 0]) hst.2 zD);have HI2:=hid ((HIN.out.row zA).step hst);clear hst;go_wp2_with fail;go_meet
   case rel=>exact ⟨hid (by rw[HE2.out];exact HI2.out),HB2⟩
  ·have d1:decide (4611686018427387904<lo)=false:=Ad hp
   have HE:=HS0.out;rw[Ak hp] at HE;have HE2:=hid HE;clear HE hp;rw[d1];go_wp2_with fail;go_meet
   case rel=>exact ⟨hid (by rw[HE2.out];exact HIN.out.row (by (repeat (first | with_reducible exact Below.refl _ _ | with_reducible assumption | (with_reducible refine Aw ?_ _) | (with_reducible refine Below.setCell ?_ (by first | omega | (simp;done) | (simp;omega)) _) | (with_reducible refine Below.drew ?_) | (with_reducible refine below_drewN ?_ _) | (refine Ag (by with_reducible assumption) ?_))))),hid (Blk.new w _ _)⟩
 case rest=>
  obtain⟨hI1,hR1⟩:=hcut;obtain⟨w1,hwn⟩:∃W:World,W=wc:=⟨_,rfl⟩;subst hwn;have hz1:w.heap.size<w1.heap.size:=hR1.out.lt;go_wp2_with fail;refine (HVR.out _ (hI1.out.row ((by (repeat (first | with_reducible exact Below.refl _ _ | with_reducible assumption | (with_reducible refine Aw ?_ _) | (with_reducible refine Below.setCell ?_ zE _) | (with_reducible refine Below.drew ?_) | (with_reducible refine below_drewN ?_ _) | (refine Ag zI ?_))):Below w1.heap.size w1 _).mono zD)).rd).mono ?_;rintro r w2 ⟨rfl,hst⟩;have hS2:Hid (Blk w2 w1.heap.size 155 #[.int .u64 lo,.int .u64 0,.slice none 0 0]):=hid (Blk.tch (Blk.new w1 _ _) hst.2 zD);have hR2:=hid (Blk.tch (hR1.out.alloc _) hst.2 zD);have hI2:=hid ((hI1.out.row ((by (repeat (first | with_reducible exact Below.refl _ _ | with_reducible assumption | (with_reducible refine Aw ?_ _) | (with_reducible refine Below.setCell ?_ zE _) | (with_reducible refine Below.drew ?_) | (with_reducible refine below_drewN ?_ _) | (refine Ag zI ?_))):Below w1.heap.size w1 _).mono zD)).step hst);have hz2:w1.heap.size<w2.heap.size:=hS2.out.lt;clear hst;go_upto_region 6 with (fail);obtain⟨R,hR⟩:∃R,R=decide (4611686018427387904-min lo 4611686018427387904≤(n:Int)):=⟨_,rfl⟩;have HR:=hid hR;clear hR;go_cut [24] from 20 to 23 (fun v V=>v=.bool R∧Hid (V=w2))
  case first=>
   by_cases hp:lo≤4611686018427387904
   ·have v1:0≤4611686018427387904-lo:=by omega
    have v2:4611686018427387904-lo≤18446744073709551615:=zD;go_wp2_with fail;go_meet
    case rel=>exact ⟨Cs Value.bool (by rw[HR.out];first | exact decide_eq_decide.2 zD | exact (Ae zD).symm),hid rfl⟩
   ·have v1:4611686018427387904<lo:=by omega
    go_wp2_with fail;go_meet
    case rel=>exact ⟨Cs Value.bool (by rw[HR.out];first | exact decide_eq_decide.2 zD | exact (Ae zD).symm),hid rfl⟩
  case rest=>
  obtain⟨rfl,hV⟩:=hcut;have hV':=hV.out.symm;subst hV';go_upto_if 24 with (fail);go_cut [] from 25 to 27 (fun V=>Hid (CY w V g B a s2)∧Hid (Blk V w.heap.size 155 #[.int .u64 0,.int .u64 0,.slice none 0 0])∧Hid (Blk V w1.heap.size 155 #[.int .u64 lo,.int .u64 0,.slice none 0 0]))
  case first=>
   have HE:=HS2.out;have hR:=HR.out;cases R
   ·rw[Ak (Em hR.symm)] at HE
    have HE2:=hid HE;clear HE hR;go_wp2_with fail;go_meet
    case rel=>exact ⟨hid (by rw[HE2.out];exact hI2.out),hR2,hS2⟩
   ·rw[An (Cu hR.symm)] at HE
    have HE2:=hid HE;clear HE hR;go_wp2_with fail;refine (Br _ hI2.out.rd 3 (s.p:Int) zD).mono ?_;rintro r w3 ⟨rfl,hst⟩;have hI3:=hid (hI2.out.step hst);have hR3:=hid (Blk.tch hR2.out hst.2 zD);have hS3:=hid (Blk.tch hS2.out hst.2 zD);clear hst;go_wp2_with fail;go_meet
    case rel=>exact ⟨hid (by rw[HE2.out];exact hI3.out),hR3,hS3⟩
  case rest=>
   obtain⟨hI3,hR3,hS3⟩:=hcut;obtain⟨w3,hwn⟩:∃W:World,W=wc:=⟨_,rfl⟩;subst hwn;obtain⟨x0,x1,x2,f0,f1,f2,l3⟩:=Ej hS3.out;have hg3:g≠w1.heap.size:=zD;go_upto_region 8 with (fail);go_cut [] from 28 to 32 (fun V=>∃y:Int,Hid (U.1.k=0→y=lo+n+1)∧Hid (CY w V g B a s2)∧Hid (Blk V w.heap.size 155 #[.int .u64 0,.int .u64 0,.slice none 0 0])∧Hid (Blk V w1.heap.size 155 #[.int .u64 lo,.int .u64 y,.slice none 0 0]))
   case first=>
    go_wp2_with fail;go_meet
    case rel=>
     refine⟨_,hid (fun e=> ?_),hid (hI3.out.row zA),hid (Blk.far hR3.out zH _),hid (hS3.out.set 1 _)⟩;have:=HYY.out e;rw[KJ,KJ];omega
   case rest=>
    obtain⟨y,HY,hI4,hR4,hS4⟩:=hcut;obtain⟨w4,hwn⟩:∃W:World,W=wc:=⟨_,rfl⟩;subst hwn;clear x0 x1 x2 f0 f1 f2 l3;go_wp2_with fail;refine (HMN.out _ hI4.out.rd).mono ?_;rintro r w5 ⟨rfl,hst⟩;have hS5:=hid (Blk.tch hS4.out hst.2 zD);have hR5:=hid (Blk.tch hR4.out hst.2 zD);have hI5:=hid (hI4.out.step hst);have hz5:w1.heap.size<w5.heap.size:=hS5.out.lt;clear hst;go_wp2_with fail;go_step3
    go_wp2_with fail;go_loopw [36] (fun i wr=>∃(j:Nat) (J:List (List Int)) (st:Rs) (av:Option Addr) (cv:Nat),j≤k∧i=.int .i64 j∧Hid (J.length=j)∧Hid (AD w5.heap.size AV w5.heap.size 23 1 wr (.slice av J.length cv) J)∧Hid (CY w wr g B a st)∧Hid (Blk wr w.heap.size 155 #[.int .u64 0,.int .u64 0,.slice none 0 0])∧Hid (Blk wr w1.heap.size 155 #[.int .u64 lo,.int .u64 y,.slice av J.length cv])∧Hid (U=Rs.Dt B (k-j) st J)∧w5.heap.size≤wr.heap.size) (fun i _=>k-(intOf i).toNat)
    case atStart=>exact ⟨0,[],s3,none,0,Ao _,rfl,hid rfl,hid AD.nil,hI5,hR5,hS5,HU,Aj _⟩
    case round=>
     obtain⟨j,J,st,av,cv,hj,rfl,HJ,HO,hIr,hRr,hSr,HSP,hzr⟩:=hrel;obtain⟨x0,x1,x2,f0,f1,f2,l8⟩:=Ej hSr.out;have lr:=hRr.out.lt;rcases Bm j k with hlt2 | hge
     ·have i1:(j:Int)<(k:Int):=by omega
      have d1:decide ((j:Int)<(k:Int))=true:=Ae i1;have hJ9:J.length≤8:=zCh;have hstep:U=(if (st.Eg B J).1.k=0 then Rs.Dt B (k-(j+1)) (st.Eg B J).1 (J++[(st.Eg B J).2]) else ((st.Eg B J).1,[])):=by
       rw[HSP.out,show k-j=(k-(j+1))+1 by omega];rfl
      have HRS:=hid (K2 wr.drew (hIr.out.rd.later (show Below wr.heap.size wr wr.drew from (Below.refl _ _).drew)) hB J av J.length cv (De.mono (AD.slice (Aj _) (AD.below HO.out (show Below wr.heap.size wr wr.drew from (Below.refl _ _).drew))) fun b hb=>⟨hb.2,ZS⟩));generalize st.Eg B J=T at*;obtain⟨s5,L⟩:=T;dsimp only at*;have HST:=hid hstep;have HOB:Hid (∀q,(Value.slice av J.length cv).ownBlock=some q→w5.heap.size≤q∧q<wr.heap.size):=hid (by
       obtain⟨cells0,OA0⟩:=HO.out;exact fun q e=>Dm OA0.1 q e)
      clear hstep;go_wp2_with fail;refine Dk (fun w'=>w'.cell? ⟨w1.heap.size,2,none⟩=some (.slice av J.length cv)) _ zL rfl zL x2 (fun hHeld=> ?_);simp only[Cn,Gq];refine Al (i:=0) (oi:=_) (v:=?_) rfl zG zG zG (fun _ _ _ h=>h) (Or.inl ⟨zT,?_⟩) zN ?_;rotate_left
      ·(intro w hSw;(try dsimp only at hSw);go_simp<;>with_reducible rfl)
      (try simp only[Act.put,Aa,Ab,Ac])
      refine Al (i:=1) (oi:=_) (v:=?_) rfl zG zG zG (fun _ _ _ h=>h) (Or.inl ⟨zT,?_⟩) zN ?_;rotate_left
      ·(intro w hSw;(try dsimp only at hSw);go_simp<;>with_reducible rfl)
      (try simp only[Act.put,Aa,Ab,Ac])
      refine Al (i:=2) (oi:=_) (v:=?_) rfl zG zG zG (fun _ _ _ h=>h) (Or.inl ⟨zT,?_⟩) zN ?_;rotate_left
      ·(intro w hSw;(try dsimp only at hSw);go_simp<;>with_reducible rfl)
      (try simp only[Act.put,Aa,Ab,Ac])
      refine Al (i:=3) (oi:=_) (v:=?_) rfl zG zG zG (fun _ _ _ h=>h) (Or.inl ⟨zT,?_⟩) zN ?_;rotate_left
      ·(intro w hSw;(try dsimp only at hSw);go_simp<;>with_reducible rfl)
      (try simp only[Act.put,Aa,Ab,Ac])
      refine Al (i:=4) (oi:=_) (v:=?_) rfl zG zG zG (fun _ _ _ h=>h) (Or.inl ⟨zT,?_⟩) zN ?_;rotate_left
      ·(intro w hSw;(try dsimp only at hSw);go_simp<;>with_reducible rfl)
      (try simp only[Act.put,Aa,Ab,Ac])
      refine AF (rs:=[5]) zG zP ?_;refine Ax (o:=_) rfl (fun K hK=> ?_) AllReadyH.nil
      (go_simp;go_at_call 257;refine HRS.out.mono ?_;rintro e1 w7 ⟨v7,rfl,hv7,hst7⟩;obtain⟨a7,c7,hfv,_,_⟩:=At hv7;simp only[Ai,As] at hfv;subst hfv;have hst8:AB wr g B a s5 w7:=⟨hst7.1,(Tch.refl (·=g) wr).drew.trans hst7.2 fun _ _ e=>e⟩;have HV7:=hid hv7;have HI7:=hid (hIr.out.step hst8);have HR7:=hid (Blk.tch hRr.out hst8.2 zD);have HS7:=hid (Blk.tch hSr.out hst8.2 zD);have HO7:=hid (AD.Pb HO.out hst8.2 (fun b h1 h2 e=>zD));have z7:=hst8.2.size;have m1:w7.cell? ⟨w1.heap.size,2,none⟩=some (.slice av J.length cv):=HS7.out.cell 2;have l7:w1.heap.size<w7.heap.size:=zD;clear hst7 hst8 hv7;(try dsimp only))
      refine hK.out _ _ ?_ (fun hHeld=> ?_)
      ·((try dsimp only);first | assumption | (go_keep;done))
      clear hK K
      (try simp only[Act.put,Aa,Ab,Ac])
      refine AF (rs:=[6]) zG zP ?_;refine Ax (o:=_) rfl (fun K hK=> ?_) AllReadyH.nil;go_simp
      refine hK.out _ _ ?_ (fun hHeld=> ?_)
      ·((try dsimp only);first | assumption | (go_keep;done))
      clear hK K
      (try simp only[Act.put,Aa,Ab,Ac])
      have hb78:Below w7.heap.size w7 (w7.alloc (.cells #[.slice a7 L.length c7] 23)):=zA;obtain⟨cells,OA⟩:=AD.below HO7.out hb78;have hx:AV.r (fun b=>w5.heap.size≤b∧b<(w7.alloc (.cells #[.slice a7 L.length c7] 23)).heap.size∧(Value.slice av J.length cv).ownBlock≠some b) (w7.alloc (.cells #[.slice a7 L.length c7] 23)) [.slice a7 L.length c7] L:=by
       refine AV.mono (AV.keep HV7.out fun b hb=>hb78.block b hb.2) fun b hb=>⟨?_,?_,fun e=> ?_⟩
       ·have h1:wr.heap.size≤b:=hb.1;omega
       ·have:=hb.2;simp;omega
       ·have h1:wr.heap.size≤b:=hb.1
        have:=(HOB.out b e).2;omega
      have HX:=hid hx;have HA:=hid OA;have HS9:Hid (w5.heap.size≤(w7.alloc (.cells #[.slice a7 L.length c7] 23)).heap.size):=hid zM;clear hx OA;refine AF (rs:=[7]) zG zP ?_;refine Ax (o:=_) rfl (fun K hK=> ?_) AllReadyH.nil
      (refine Dd zT _ _ _ zT w5.heap.size 23 j0 (.slice none 0 0) 1 24 Tryz.underlying153 ji jz0 jz1 jz2 rfl zS (.slice av J.length cv) J.length _ zT HA.out.1 (some ⟨w7.heap.size,0,none⟩) 1 1 [.slice a7 L.length c7] zT (Bf w7 23 _ zT zT rfl) ZI zR zD HS9.out ?_;intro a9 c9 w9 hown9 hgrow9 hat9;have OP:=hid (AD.push HA.out rfl HX.out hown9 hgrow9 hat9 hgrow9.size);have HB9:=hid (show Below w5.heap.size w7 w9 from Below.grown (hb78.mono zD) hgrow9 HS9.out (fun g e=>(HOB.out g e).1));have hz9:=hgrow9.size;simp at hz9;have HS9b:=hid (HS7.out.below HB9.out zD);have m2:w9.cell? ⟨w1.heap.size,2,none⟩=some (.slice av J.length cv):=HS9b.out.cell 2;have m3:=Uv HS9b.out 2;clear hown9 hgrow9 hat9;(try dsimp only))
      refine hK.out _ _ ?_ (fun hHeld=> ?_)
      ·((try dsimp only);first | assumption | (go_keep;done))
      clear hK K
      (try simp only[Act.put,Aa,Ab,Ac])
      refine Al (i:=8) (oi:=_) (v:=?_) rfl zG zG zG (fun _ _ _ h=>h) (Or.inl ⟨zT,?_⟩) zN ?_;rotate_left
      ·(intro w hSw;(try dsimp only at hSw);go_simp<;>with_reducible rfl)
      (try simp only[Act.put,Aa,Ab,Ac])
      refine Al (i:=9) (oi:=_) (v:=?_) rfl zG zG zG (fun _ _ _ h=>h) (Or.inl ⟨zT,?_⟩) zN ?_;rotate_left
      ·(intro w hSw;(try dsimp only at hSw);go_simp<;>with_reducible rfl)
      (try simp only[Act.put,Aa,Ab,Ac])
      refine Bp zL ?_ _;show wpList _ _ _ _ _ _
      have HIW:=hid (show CY w (w9.setCell ⟨w1.heap.size,2,none⟩ (.slice a9 (J.length+1) c9)) g B a s5 from (HI7.out.row (HB9.out.mono zD)).row zA);have HOW:=hid (AD.Pb OP.out ((Tch.refl (·=w1.heap.size) w9).setCell (p:=⟨w1.heap.size,2,none⟩) (fun _=>rfl) (.slice a9 (J.length+1) c9)) (fun b h1 h2 e=>zD));have HSW:=hid (HS9b.out.set 2 (.slice a9 (J.length+1) c9));have HRW:=hid (Blk.far (HR7.out.below HB9.out zD) (p:=⟨w1.heap.size,2,none⟩) zH (.slice a9 (J.length+1) c9));by_cases hk:s5.k=0
      ·have HE:=HST.out
       rw[An hk] at HE;have HSP2:=hid HE;have HG:=AG _ HIW.out.rd;rw[Ae hk] at HG;have HGG:=hid HG;clear HE HG hk;go_wp2_with fail;refine HGG.out.mono ?_;rintro r w10 ⟨rfl,hb10⟩;have hz10:=hb10.size;rw[Gu] at hz10;have HI10:=hid (HIW.out.row (hb10.mono (by rw[Gu];omega)));have HR10:=hid (HRW.out.later hb10);have HS10:=hid (HSW.out.later hb10);have HO10:=hid (AD.below HOW.out hb10);clear hb10;go_wp2_with fail;go_roundw
       case rel=>exact ⟨j+1,J++[L],s5,a9,c9,zD,zZ,hid zBa,hid (by rw[Au];exact HO10.out),HI10,HR10,hid (by rw[Au];exact HS10.out),HSP2,zD⟩
       case measure=>(simp[intOf];try omega)
      ·have HE:=HST.out
       rw[Ak hk] at HE;have HRES:Hid (RES=(s5,DS)):=hid (by rw[←HRZ.out,HE];exact Ak hk);have HG:=hid (fun (W:World) (hW:AY W g B a s5)=>(by have:=AG W hW;rw[Ad hk] at this;exact this:Calls Tryz.prog 44 #[.pointer (some ⟨g,0,none⟩)] W fun r w'=>r=.returned (.bool false)∧Below W.heap.size W w'));clear HE hk;go_wp2_with fail;refine (HG.out _ HIW.out.rd).mono ?_;rintro r w10 ⟨rfl,hb10⟩;have hz10:=hb10.size;rw[Gu] at hz10;have HI10:=hid (HIW.out.row (hb10.mono (by rw[Gu];omega)));have HR10:=hid (HRW.out.later hb10);clear hb10;go_wp2_with fail;refine (HG.out _ HI10.out.rd).mono ?_;rintro r w11 ⟨rfl,hb11⟩;have HI11:=hid (HI10.out.row (hb11.mono zD));have HR11:=hid (HR10.out.later hb11);clear hb11;obtain⟨r0,r1,r2,g0,g1,g2,lr2⟩:=Ej HR11.out;go_wp2_with fail;obtain⟨n0,n1,n2,_,_,_,ln⟩:=Ej (((HR11.out.set 0 (.int .u64 0)).set 1 (.int .u64 0)).set 2 (.slice none 0 0));simp only[Exit.noGoto];go_wp2_with fail;rw[HRES.out];refine Af (v:=.agg #[.int .u64 0,.int .u64 0,.slice none 0 0]) zA8 rfl ⟨_,rfl,AZ (xs:=[]) rfl (Aj _) (Ao _) (.inl rfl),(HI11.out.row zA).to⟩
     ·obtain rfl:j=k:=by omega
      have d1:decide ((j:Int)<(j:Int))=false:=Ad zD;have HE:=HSP.out;rw[Dg] at HE;have HE2:U=(st,J):=HE;clear HE;by_cases hk:st.k=0
      ·have hy:=HY.out (by rw[HE2];exact hk)
       have HRES:Hid (RES=(st,⟨lo,y,J⟩)):=hid (by rw[←HRZ.out,HE2,hy];exact An hk);have HG:=hid (fun (W:World) (hW:AY W g B a st)=>(by have:=AG W hW;rw[Ae hk] at this;exact this:Calls Tryz.prog 44 #[.pointer (some ⟨g,0,none⟩)] W fun r w'=>r=.returned (.bool true)∧Below W.heap.size W w'));clear HE2 hk hy;go_wp2_with fail;refine (HG.out _ hIr.out.rd).mono ?_;rintro r w11 ⟨rfl,hb11⟩;have hz11:=hb11.size;have HI11:=hid (hIr.out.row (hb11.mono zD));have HS11:=hSr.out.later hb11;have HR11:=hRr.out.later hb11;have HO11:=hid (AD.slice (Aj _) (AD.below HO.out hb11));clear x0 x1 x2 f0 f1 f2 l8 hb11;obtain⟨x0,x1,x2,f0,f1,f2,l8⟩:=Ej HS11;obtain⟨r0,r1,r2,g0,g1,g2,lr2⟩:=Ej HR11;go_wp2_with fail;obtain⟨n0,n1,n2,_,_,_,ln⟩:=Ej (((HR11.set 0 (.int .u64 lo)).set 1 (.int .u64 y)).set 2 (.slice av J.length cv));simp only[Exit.noGoto];go_wp2_with fail;rw[HRES.out];refine Af (v:=.agg #[.int .u64 lo,.int .u64 y,.slice av J.length cv]) zA8 rfl ⟨_,rfl,?_,(HI11.out.row zA).to⟩;refine De.mono (De.keep HO11.out fun b hb=> ?_) fun b hb=>⟨ZS,by have:=hb.2;simp;omega⟩;have:=hb.1;repeat rw[Ap _ _ _ _ zH]
      ·have HRES:Hid (RES=(st,DS)):=hid (by rw[←HRZ.out,HE2];exact Ak hk)
       have HG:=hid (fun (W:World) (hW:AY W g B a st)=>(by have:=AG W hW;rw[Ad hk] at this;exact this:Calls Tryz.prog 44 #[.pointer (some ⟨g,0,none⟩)] W fun r w'=>r=.returned (.bool false)∧Below W.heap.size W w'));clear HE2 hk;go_wp2_with fail;refine (HG.out _ hIr.out.rd).mono ?_;rintro r w11 ⟨rfl,hb11⟩;have hz11:=hb11.size;have HI11:=hid (hIr.out.row (hb11.mono zD));have HR11:=hid (hRr.out.later hb11);clear x0 x1 x2 f0 f1 f2 l8 hb11;obtain⟨r0,r1,r2,g0,g1,g2,lr2⟩:=Ej HR11.out;go_wp2_with fail;obtain⟨n0,n1,n2,_,_,_,ln⟩:=Ej (((HR11.out.set 0 (.int .u64 0)).set 1 (.int .u64 0)).set 2 (.slice none 0 0));simp only[Exit.noGoto];go_wp2_with fail;rw[HRES.out];refine Af (v:=.agg #[.int .u64 0,.int .u64 0,.slice none 0 0]) zA8 rfl ⟨_,rfl,AZ (xs:=[]) rfl (Aj _) (Ao _) (.inl rfl),(HI11.out.row zA).to⟩
end Go.Proofs.YtlbffbkbkajciaaGreat
