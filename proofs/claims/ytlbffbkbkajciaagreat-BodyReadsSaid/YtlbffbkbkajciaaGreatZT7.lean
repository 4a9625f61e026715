/- Mini: Needed by bodyReads_walk, part 7: texts put together by shake.py; no condition. -/
import Derived.Test.YtlbffbkbkajciaaGreatZT3
import Derived.Test.YtlbffbkbkajciaaGreatZT6
import Derived.RegionTactic
import Derived.Test.YtlbffbkbkajciaaGreatZT4
import Derived.Test.YtlbffbkbkajciaaGreatZT1
import Derived.Deep.AppendLies
import Derived.Deep.RegionLaw
import Derived.Laws.MakeOwn
import Derived.Test.YtlbffbkbkajciaaGreatZT5
import Derived.Laws.Bits64
import Derived.Test.YtlbffbkbkajciaaGreatZT2
set_option linter.unusedVariables false
set_option linter.unusedSimpArgs false
set_option maxRecDepth 100000
set_option maxHeartbeats 6400000
namespace Go.Bs
theorem zB9{p:Prop}(h:p:=by simp; exact hJl.out):p:=h
theorem zB5{p:Prop}(h:p:=by have := Rs.Fo (B := B) (s := s) (m := min most 1048576); omega):p:=h
theorem zAu{p:Prop}(h:p:=by simp [Be]):p:=h
theorem zAs{p:Prop}(h:p:=by have := hJl.out; omega):p:=h
theorem Fk:type_of% @Proofs.Tryz.underlying24:=@Proofs.Tryz.underlying24
end Go.Bs
namespace Go.Proofs.YtlbffbkbkajciaaGreat
open Go.RowKit Go.Bs Go.Maps
theorem I0(w:World){g:Nat}{B:List UInt8}{a:Option Addr}{s:Rs}(h:AQ w g B a s)(hB:B.length≤1000000000)(most:Int)(hm: -9223372036854775808≤most∧most≤9223372036854775807):
  Calls Tryz.prog 119 #[.pointer (some ⟨g,0,none⟩),.int .i64 most] w fun r w'=>∃v,r=.returned (.tuple #[v,.bool (s.loose B most).2.2])∧Ah.r (fun q=>w.heap.size≤q∧q<w'.heap.size) w' [v] (s.loose B most).2.1∧Az w g B a (s.loose B most).1 w':=by
 have hgl:=h.blk.lt
 have HA:=hid (Bz w h)
 have HI:=hid (Dp w h zD (min most 1048576) zD)
 have hiok:=Rs.DE h.ok (m:=min most 1048576)
 have hip:=Rs.Qp (B:=B) (s:=s) (m:=min most 1048576)
 have hile:(s.int B (min most 1048576)).2≤1048576:=zB5
 have hbok:=Rs.FP hiok
 have hbp:=Rs.Iv hiok
 have hBY:=hid (fun (W:World) (h:AQ W g B a (s.int B (min most 1048576)).1)=>Ld W h)
 have hTK:=hid (fun (W:World) (h:AQ W g B a ((s.int B (min most 1048576)).1.byte B).1)=>Lb W h ((s.int B (min most 1048576)).2:Int) zD zD)
 have htp:=Rs.MW hbok ((s.int B (min most 1048576)).2:Int)
 have htl:(((s.int B (min most 1048576)).1.byte B).1.take B ((s.int B (min most 1048576)).2:Int)).2.length≤1048576:=by
  by_cases h0:(((s.int B (min most 1048576)).1.byte B).1.take B ((s.int B (min most 1048576)).2:Int)).1.k=0
  ·rw[(Rs.Fq h0).2.2];omega
  ·rw[Rs.Hh h0];simp
 have hUN:=hid (fun (W:World) (h:AQ W g B a ((s.int B (min most 1048576)).1.byte B).1)=>JU W h hB (s.int B (min most 1048576)).2 hile)
 have hup:=Rs.RL hbok (s.int B (min most 1048576)).2
 have hul:(((s.int B (min most 1048576)).1.byte B).1.unp B (s.int B (min most 1048576)).2).2.length≤1048576:=AV (Rs.Om _) hile
 have hFL:=hid (fun (W:World) (h:AQ W g B a ((s.int B (min most 1048576)).1.byte B).1)=>Bj W h 7 ((((s.int B (min most 1048576)).1.byte B).1.p:Int)-1) zD)
 have hfk:=Rs.By (s:=((s.int B (min most 1048576)).1.byte B).1) (c:=7) (at_:=((((s.int B (min most 1048576)).1.byte B).1.p:Int)-1)) zD
 have hSN:=hid (fun (W:World) (t:Rs) (h:AQ W g B a t) (hp:s.p≤t.p)=>PQ W h s.p hp zD)
 have hbyp:((s.int B (min most 1048576)).1.byte B).1.p≤B.length:=hbok.le
 have hb1:((s.int B (min most 1048576)).1.byte B).1.k=0→1≤((s.int B (min most 1048576)).1.byte B).1.p:=fun hk=>by rw[Iv rfl hk];omega
 unfold Rs.loose;generalize ((s.int B (min most 1048576)).1.byte B).1.fail 7 ((((s.int B (min most 1048576)).1.byte B).1.p:Int)-1)=F1 at*
 generalize ((s.int B (min most 1048576)).1.byte B).1.take B ((s.int B (min most 1048576)).2:Int)=T at*
 generalize ((s.int B (min most 1048576)).1.byte B).1.unp B (s.int B (min most 1048576)).2=U at*
 generalize (s.int B (min most 1048576)).1.byte B=Y at*
 generalize s.int B (min most 1048576)=N at*
 obtain⟨sd,n⟩:=N
 obtain⟨se,y⟩:=Y
 obtain⟨st,DT⟩:=T
 obtain⟨su,DU⟩:=U
 dsimp only at*;have hSNt:=hid (fun (W:World) (h:AQ W g B a st)=>hSN.out W st h zD)
 have hSNu:=hid (fun (W:World) (h:AQ W g B a su)=>hSN.out W su h zD)
 generalize (B.drop s.p).take (st.p-s.p)=S1 at*
 generalize (B.drop s.p).take (su.p-s.p)=S2 at*
 clear hSN;have hM:(if most≤1048576 then most else 1048576)=min most 1048576:=by split<;>omega
 have hM2:(if (1048576:Int)<most then (1048576:Int) else most)=min most 1048576:=by split<;>omega
 generalize min most 1048576=M at*
 have hy:=y.toNat_lt
 clear h;by_cases hk:se.k=0
 ·have dk:decide (se.k=0)=true:=Ae hk
  have hp1:=hb1 hk
  rw[Al hk]
  clear hk hb1;by_cases h0:y.toNat=0
  ·have d0:((y.toNat:Int)==0)=true:=by rw[h0];rfl
   rw[Al h0]
   clear h0;by_cases ht:st.k=0
   ·have dt:decide (st.k=0)=true:=Ae ht
    rw[Al ht]
    clear ht;dsimp only;go_enter Tryz.func119,Tryz.ntmps119
    go_wp2_with fail;refine HA.out.mono ?_
    rintro r w0 ⟨rfl,rfl⟩;go_wp2_with fail;refine HI.out.mono ?_
    rintro r w1 ⟨rfl,hst1⟩;have HST1:=hid hst1
    have HBY:=hid (hBY.out w1 hst1.1)
    clear hst1;go_wp2_with fail;refine HBY.out.mono ?_
    rintro r w2 ⟨rfl,hst2⟩;have HST2:=hid (Az.trans HST1.out.2 hst2)
    have hG:=AA w2 hst2.1
    rw[dk] at hG
    have HG:=hid hG
    clear hst2 hG dk;go_wp2_with fail;refine HG.out.mono ?_
    rintro r w3 ⟨rfl,hb3⟩;have HST3:=hid (HST2.out.then hb3)
    have hs3:=HST3.out.size
    have HC:=hid (hTK.out w3 HST3.out.1)
    go_wp2_with fail;refine HC.out.mono ?_
    rintro r w4 ⟨v,rfl,hr,hst4⟩;obtain⟨aD,cD,hv,hr2,_⟩:=Au hr
    simp only[Aj,At] at hv
    subst hv;have HR4:=hid hr2
    have hs4:=hst4.size
    have HST4:=hid (Az.trans HST3.out.2 hst4)
    have hG4:=AA w4 hst4.1
    rw[dt] at hG4
    have HG4:=hid hG4
    clear hr hr2 hst4 hG4 dt;go_wp2_with fail;refine HG4.out.mono ?_
    rintro r w5 ⟨rfl,hb5⟩;have HST5:=hid (HST4.out.then hb5)
    have hs5:=hb5.size
    have HR5:=hid (Ah.mono (S':=fun q=>w3.heap.size≤q∧q<w5.heap.size) (Ah.keep HR4.out fun q hq=>hb5.block q hq.2) fun q hq=>⟨hq.1,zD⟩)
    have HBB:=hid (I1 w5 DT aD _ cD (Ah.mono HR5.out fun q hq=>hq.2) htl)
    go_wp2_with fail;refine HBB.out.mono ?_
    rintro r w6 ⟨v6,rfl,hr,hb6⟩;obtain⟨a6,c6,hv,hr2,_⟩:=Au hr
    simp only[Aj,At] at hv
    subst hv;have HR6:=hid hr2
    have hs6:=hb6.size
    have HST6:=hid (HST5.out.then hb6)
    have HSN:=hid (hSNt.out w6 HST6.out.1)
    clear hr hr2;go_wp2_with fail;refine HSN.out.mono ?_
    rintro r w7 ⟨v7,rfl,hr,hb7⟩;obtain⟨a7,c7,hv,hr2,_⟩:=Au hr
    simp only[Aj,At] at hv
    subst hv;have HR7:=hid hr2
    have hs7:=hb7.size
    have HST7:=hid (HST6.out.then hb7)
    have HEQ:=hid (IY (Cw DT) S1 a6 a7 _ c6 _ c7 w7 (Ah.mono (Ah.keep HR6.out fun q hq=>hb7.block q hq.2) fun q hq=>zD) (Ah.mono HR7.out fun q hq=>hq.2))
    generalize hq:decide (Cw DT=S1)=q at*
    have HQ:=hid hq
    clear hq;clear hr hr2;go_wp2_with fail;refine HEQ.out.mono ?_
    rintro r w8 ⟨rfl,rfl⟩;have HRF:=hid (Ah.mono (S':=fun q=>w.heap.size≤q∧q<w7.heap.size) (Ah.keep HR5.out fun q hq=>(hb7.block q zD).trans (hb6.block q hq.2)) fun q hq=>⟨zD,zD⟩)
    go_wp2;go_ret2
    rw[HQ.out]
    exact⟨_,rfl,HRF.out,HST7.out⟩
   ·have dt:decide (st.k=0)=false:=Ad ht
    rw[Ak ht]
    clear ht;dsimp only;go_enter Tryz.func119,Tryz.ntmps119
    go_wp2_with fail;refine HA.out.mono ?_
    rintro r w0 ⟨rfl,rfl⟩;go_wp2_with fail;refine HI.out.mono ?_
    rintro r w1 ⟨rfl,hst1⟩;have HST1:=hid hst1
    have HBY:=hid (hBY.out w1 hst1.1)
    clear hst1;go_wp2_with fail;refine HBY.out.mono ?_
    rintro r w2 ⟨rfl,hst2⟩;have HST2:=hid (Az.trans HST1.out.2 hst2)
    have hG:=AA w2 hst2.1
    rw[dk] at hG
    have HG:=hid hG
    clear hst2 hG dk;go_wp2_with fail;refine HG.out.mono ?_
    rintro r w3 ⟨rfl,hb3⟩;have HST3:=hid (HST2.out.then hb3)
    have hs3:=HST3.out.size
    have HC:=hid (hTK.out w3 HST3.out.1)
    go_wp2_with fail;refine HC.out.mono ?_
    rintro r w4 ⟨v,rfl,hr,hst4⟩;obtain⟨aD,cD,hv,hr2,_⟩:=Au hr
    simp only[Aj,At] at hv
    subst hv;have HR4:=hid hr2
    have hs4:=hst4.size
    have HST4:=hid (Az.trans HST3.out.2 hst4)
    have hG4:=AA w4 hst4.1
    rw[dt] at hG4
    have HG4:=hid hG4
    clear hr hr2 hst4 hG4 dt;go_wp2_with fail;refine HG4.out.mono ?_
    rintro r w5 ⟨rfl,hb5⟩;have HST5:=hid (HST4.out.then hb5)
    have hs5:=hb5.size
    go_wp2;go_ret2
    exact⟨_,rfl,AJ rfl rfl zD,HST5.out⟩
  ·have d0:((y.toNat:Int)==0)=false:=by rw[B6];omega
   rw[Ak h0]
   by_cases h1:y.toNat=1
   ·have d1:((y.toNat:Int)==1)=true:=by rw[h1];rfl
    rw[Al h1]
    clear h0 h1;by_cases ht:su.k=0
    ·have dt:decide (su.k=0)=true:=Ae ht
     rw[Al ht]
     clear ht;dsimp only;go_enter Tryz.func119,Tryz.ntmps119
     go_wp2_with fail;refine HA.out.mono ?_
     rintro r w0 ⟨rfl,rfl⟩;go_wp2_with fail;refine HI.out.mono ?_
     rintro r w1 ⟨rfl,hst1⟩;have HST1:=hid hst1
     have HBY:=hid (hBY.out w1 hst1.1)
     clear hst1;go_wp2_with fail;refine HBY.out.mono ?_
     rintro r w2 ⟨rfl,hst2⟩;have HST2:=hid (Az.trans HST1.out.2 hst2)
     have hG:=AA w2 hst2.1
     rw[dk] at hG
     have HG:=hid hG
     clear hst2 hG dk;go_wp2_with fail;refine HG.out.mono ?_
     rintro r w3 ⟨rfl,hb3⟩;have HST3:=hid (HST2.out.then hb3)
     have hs3:=HST3.out.size
     have HC:=hid (hUN.out w3 HST3.out.1)
     go_wp2_with fail;refine HC.out.mono ?_
     rintro r w4 ⟨v,rfl,hr,hst4⟩;obtain⟨aD,cD,hv,hr2,_⟩:=Au hr
     simp only[Aj,At] at hv
     subst hv;have HR4:=hid hr2
     have hs4:=hst4.size
     have HST4:=hid (Az.trans HST3.out.2 hst4)
     have hG4:=AA w4 hst4.1
     rw[dt] at hG4
     have HG4:=hid hG4
     clear hr hr2 hst4 hG4 dt;go_wp2_with fail;refine HG4.out.mono ?_
     rintro r w5 ⟨rfl,hb5⟩;have HST5:=hid (HST4.out.then hb5)
     have hs5:=hb5.size
     have HR5:=hid (Ah.mono (S':=fun q=>w3.heap.size≤q∧q<w5.heap.size) (Ah.keep HR4.out fun q hq=>hb5.block q hq.2) fun q hq=>⟨hq.1,zD⟩)
     have HBB:=hid (I1 w5 DU aD _ cD (Ah.mono HR5.out fun q hq=>hq.2) hul)
     go_wp2_with fail;refine HBB.out.mono ?_
     rintro r w6 ⟨v6,rfl,hr,hb6⟩;obtain⟨a6,c6,hv,hr2,_⟩:=Au hr
     simp only[Aj,At] at hv
     subst hv;have HR6:=hid hr2
     have hs6:=hb6.size
     have HST6:=hid (HST5.out.then hb6)
     have HSN:=hid (hSNu.out w6 HST6.out.1)
     clear hr hr2;go_wp2_with fail;refine HSN.out.mono ?_
     rintro r w7 ⟨v7,rfl,hr,hb7⟩;obtain⟨a7,c7,hv,hr2,_⟩:=Au hr
     simp only[Aj,At] at hv
     subst hv;have HR7:=hid hr2
     have hs7:=hb7.size
     have HST7:=hid (HST6.out.then hb7)
     have HEQ:=hid (IY (Cw DU) S2 a6 a7 _ c6 _ c7 w7 (Ah.mono (Ah.keep HR6.out fun q hq=>hb7.block q hq.2) fun q hq=>zD) (Ah.mono HR7.out fun q hq=>hq.2))
     generalize hq:decide (Cw DU=S2)=q at*
     have HQ:=hid hq
     clear hq;clear hr hr2;go_wp2_with fail;refine HEQ.out.mono ?_
     rintro r w8 ⟨rfl,rfl⟩;have HRF:=hid (Ah.mono (S':=fun q=>w.heap.size≤q∧q<w7.heap.size) (Ah.keep HR5.out fun q hq=>(hb7.block q zD).trans (hb6.block q hq.2)) fun q hq=>⟨zD,zD⟩)
     go_wp2;go_ret2
     rw[HQ.out]
     exact⟨_,rfl,HRF.out,HST7.out⟩
    ·have dt:decide (su.k=0)=false:=Ad ht
     rw[Ak ht]
     clear ht;dsimp only;go_enter Tryz.func119,Tryz.ntmps119
     go_wp2_with fail;refine HA.out.mono ?_
     rintro r w0 ⟨rfl,rfl⟩;go_wp2_with fail;refine HI.out.mono ?_
     rintro r w1 ⟨rfl,hst1⟩;have HST1:=hid hst1
     have HBY:=hid (hBY.out w1 hst1.1)
     clear hst1;go_wp2_with fail;refine HBY.out.mono ?_
     rintro r w2 ⟨rfl,hst2⟩;have HST2:=hid (Az.trans HST1.out.2 hst2)
     have hG:=AA w2 hst2.1
     rw[dk] at hG
     have HG:=hid hG
     clear hst2 hG dk;go_wp2_with fail;refine HG.out.mono ?_
     rintro r w3 ⟨rfl,hb3⟩;have HST3:=hid (HST2.out.then hb3)
     have hs3:=HST3.out.size
     have HC:=hid (hUN.out w3 HST3.out.1)
     go_wp2_with fail;refine HC.out.mono ?_
     rintro r w4 ⟨v,rfl,hr,hst4⟩;obtain⟨aD,cD,hv,hr2,_⟩:=Au hr
     simp only[Aj,At] at hv
     subst hv;have HR4:=hid hr2
     have hs4:=hst4.size
     have HST4:=hid (Az.trans HST3.out.2 hst4)
     have hG4:=AA w4 hst4.1
     rw[dt] at hG4
     have HG4:=hid hG4
     clear hr hr2 hst4 hG4 dt;go_wp2_with fail;refine HG4.out.mono ?_
     rintro r w5 ⟨rfl,hb5⟩;have HST5:=hid (HST4.out.then hb5)
     have hs5:=hb5.size
     go_wp2;go_ret2
     exact⟨_,rfl,AJ rfl rfl zD,HST5.out⟩
   ·have d1:((y.toNat:Int)==1)=false:=by rw[B6];omega
    rw[Ak h1]
    clear h0 h1;have dt:decide (F1.k=0)=false:=Ad hfk
    dsimp only;go_enter Tryz.func119,Tryz.ntmps119
    go_wp2_with fail;refine HA.out.mono ?_
    rintro r w0 ⟨rfl,rfl⟩;go_wp2_with fail;refine HI.out.mono ?_
    rintro r w1 ⟨rfl,hst1⟩;have HST1:=hid hst1
    have HBY:=hid (hBY.out w1 hst1.1)
    clear hst1;go_wp2_with fail;refine HBY.out.mono ?_
    rintro r w2 ⟨rfl,hst2⟩;have HST2:=hid (Az.trans HST1.out.2 hst2)
    have hG:=AA w2 hst2.1
    rw[dk] at hG
    have HG:=hid hG
    clear hst2 hG dk;go_wp2_with fail;refine HG.out.mono ?_
    rintro r w3 ⟨rfl,hb3⟩;have HST3:=hid (HST2.out.then hb3)
    have hs3:=HST3.out.size
    have HAT3:=hid (Bz w3 HST3.out.1)
    go_wp2_with fail;refine HAT3.out.mono ?_
    rintro r w3' ⟨rfl,rfl⟩;have HC:=hid (hFL.out w3 HST3.out.1)
    go_wp2_with fail;refine HC.out.mono ?_
    rintro r w4 ⟨rfl,hst4⟩;have HST4:=hid (Az.trans HST3.out.2 hst4)
    have hG4:=AA w4 hst4.1
    rw[dt] at hG4
    have HG4:=hid hG4
    clear hst4 hG4 dt;go_wp2_with fail;refine HG4.out.mono ?_
    rintro r w5 ⟨rfl,hb5⟩;have HST5:=hid (HST4.out.then hb5)
    go_wp2;go_ret2
    exact⟨_,rfl,AJ rfl rfl zD,HST5.out⟩
 ·have dk:decide (se.k=0)=false:=Ad hk
  rw[Ak hk]
  clear hk hb1;dsimp only;go_enter Tryz.func119,Tryz.ntmps119
  go_wp2_with fail;refine HA.out.mono ?_
  rintro r w0 ⟨rfl,rfl⟩;go_wp2_with fail;refine HI.out.mono ?_
  rintro r w1 ⟨rfl,hst1⟩;have HST1:=hid hst1
  have HBY:=hid (hBY.out w1 hst1.1)
  clear hst1;go_wp2_with fail;refine HBY.out.mono ?_
  rintro r w2 ⟨rfl,hst2⟩;have HST2:=hid (Az.trans HST1.out.2 hst2)
  have hG:=AA w2 hst2.1
  rw[dk] at hG
  have HG:=hid hG
  clear hst2 hG dk;go_wp2_with fail;refine HG.out.mono ?_
  rintro r w3 ⟨rfl,hb3⟩;have HST3:=hid (HST2.out.then hb3)
  have hs3:=HST3.out.size
  go_wp2;go_ret2
  exact⟨_,rfl,AJ rfl rfl zD,HST3.out⟩
def Rs.strict(s:Rs × List UInt8 × Bool):Rs × List UInt8:=if s.1.k=0 then (if s.2.2=true then (s.1,s.2.1) else (s.1.fail 12 s.1.p,[])) else (s.1,[])
theorem LB(w:World){g:Nat}{B:List UInt8}{a:Option Addr}{s:Rs}(h:AQ w g B a s)(q:Bool)(p:Nat):
  Calls Tryz.prog 197 #[.bool q,.func (Fn.func 180) #[.pointer (some ⟨g,0,none⟩)] #[],.int .i64 (p:Int)] w fun r w'=>r=.returned (.tuple #[])∧Az w g B a (if q=true then s else s.fail 12 p) w':=by
 have HF:=hid (Bj w h 12 p zD)
 have HH:=hid h
 clear h;cases q
 ·rw[Ak zR]
  go_enter Tryz.func197,Tryz.ntmps197
  go_wp2_with fail;refine HF.out.mono ?_
  rintro r w1 ⟨rfl,hst⟩;have HST:=hid hst
  clear hst;go_wp2;go_end0
  exact⟨rfl,HST.out⟩
 ·rw[Al rfl]
  go_enter Tryz.func197,Tryz.ntmps197
  go_wp2;go_end0
  exact⟨rfl,Az.refl HH.out⟩
theorem Oe(w:World){g:Nat}{B:List UInt8}{a:Option Addr}{s:Rs}(h:AQ w g B a s)(hB:B.length≤1000000000)(most:Int)(hm: -9223372036854775808≤most∧most≤9223372036854775807):
  Calls Tryz.prog 117 #[.pointer (some ⟨g,0,none⟩),.int .i64 most] w fun r w'=>∃v,r=.returned v∧Ah.r (fun q=>w.heap.size≤q∧q<w'.heap.size) w' [v] (Rs.strict (s.loose B most)).2∧Az w g B a (Rs.strict (s.loose B most)).1 w':=by
 have HLS:=hid (I0 w h hB most hm)
 have hgl:=h.blk.lt
 unfold Rs.strict;generalize s.loose B most=L at*
 obtain⟨s1,D,q⟩:=L
 dsimp only at*;have hfk:=Rs.By (s:=s1) (c:=12) (at_:=(s1.p:Int)) zD
 have hfb:s1.k≠0→s1.fail 12 s1.p=s1:=fun hk=>Rs.Bc hk
 have hSC:=hid (fun (W:World) (h:AQ W g B a s1)=>LB W h q s1.p)
 clear h;by_cases hk:s1.k=0
 ·rw[Al hk]
  cases q
  ·have d1:decide ((s1.fail 12 s1.p).k=0)=false:=Ad hfk
   rw[Ak zR]
   rw[Ak zR] at hSC
   generalize s1.fail 12 s1.p=s2 at*
   clear hk hfk hfb;go_enter Tryz.func117,Tryz.ntmps117
   go_wp2_with fail;refine HLS.out.mono ?_
   rintro r w1 ⟨v,rfl,hr,hst⟩;obtain⟨aD,cD,hv,hr2,_⟩:=Au hr
   simp only[Aj,At] at hv
   subst hv;have HST:=hid hst
   have HR:=hid hr2
   have hs1:=hst.size
   have HAT:=hid (Bz w1 hst.1)
   have HSC:=hid (hSC.out w1 hst.1)
   clear hr hr2 hst;go_wp2_with fail;refine HAT.out.mono ?_
   rintro r w1' ⟨rfl,rfl⟩;go_wp2_with fail;refine HSC.out.mono ?_
   rintro r w2 ⟨rfl,hst2⟩;have HST2:=hid (Az.trans HST.out.2 hst2)
   have HRK:=hid (Ah.mono (S':=fun q=>w.heap.size≤q∧q<w2.heap.size) (Ah.keep HR.out fun q hq=>hst2.2.block q hq.2 zD) fun q hq=>⟨hq.1,An hq.2 hst2.size⟩)
   have hG:=AA w2 hst2.1
   rw[d1] at hG
   have HG:=hid hG
   clear hst2 hG d1;go_wp2_with fail;refine HG.out.mono ?_
   rintro r w3 ⟨rfl,hb3⟩;have HST3:=hid (HST2.out.then hb3)
   go_wp2;go_ret;exact⟨_,rfl,AJ rfl rfl zD,HST3.out⟩
  ·have d1:decide (s1.k=0)=true:=Ae hk
   rw[Al rfl]
   rw[Al rfl] at hSC
   clear hk hfk hfb;go_enter Tryz.func117,Tryz.ntmps117
   go_wp2_with fail;refine HLS.out.mono ?_
   rintro r w1 ⟨v,rfl,hr,hst⟩;obtain⟨aD,cD,hv,hr2,_⟩:=Au hr
   simp only[Aj,At] at hv
   subst hv;have HST:=hid hst
   have HR:=hid hr2
   have hs1:=hst.size
   have HAT:=hid (Bz w1 hst.1)
   have HSC:=hid (hSC.out w1 hst.1)
   clear hr hr2 hst;go_wp2_with fail;refine HAT.out.mono ?_
   rintro r w1' ⟨rfl,rfl⟩;go_wp2_with fail;refine HSC.out.mono ?_
   rintro r w2 ⟨rfl,hst2⟩;have HST2:=hid (Az.trans HST.out.2 hst2)
   have HRK:=hid (Ah.mono (S':=fun q=>w.heap.size≤q∧q<w2.heap.size) (Ah.keep HR.out fun q hq=>hst2.2.block q hq.2 zD) fun q hq=>⟨hq.1,An hq.2 hst2.size⟩)
   have hG:=AA w2 hst2.1
   rw[d1] at hG
   have HG:=hid hG
   clear hst2 hG d1;go_wp2_with fail;refine HG.out.mono ?_
   rintro r w3 ⟨rfl,hb3⟩;have HST3:=hid (HST2.out.then hb3)
   have HRK3:=hid (Ah.mono (S':=fun q=>w.heap.size≤q∧q<w3.heap.size) (Ah.keep HRK.out fun q hq=>hb3.block q hq.2) fun q hq=>⟨hq.1,An hq.2 hb3.size⟩)
   go_wp2;go_ret;exact⟨_,rfl,HRK3.out,HST3.out⟩
 ·rw[Ak hk]
  have hfb2:=hfb hk
  have d1:decide (s1.k=0)=false:=Ad hk
  have hSC2:Hid (∀(W:World) (h:AQ W g B a s1),Calls Tryz.prog 197 #[.bool q,.func (Fn.func 180) #[.pointer (some ⟨g,0,none⟩)] #[],.int .i64 (s1.p:Int)] W fun r w'=>r=.returned (.tuple #[])∧Az W g B a s1 w'):=hid (fun W h=>by
   have:=hSC.out W h
   rw[hfb2] at this
   cases q
   ·rw[Ak zR] at this;exact this
   ·rw[Al rfl] at this;exact this)
  clear hk hfk hfb hfb2 hSC;have hSC:=hSC2
  clear hSC2;cases q;all_goals
   go_enter Tryz.func117,Tryz.ntmps117
   go_wp2_with fail;refine HLS.out.mono ?_
   rintro r w1 ⟨v,rfl,hr,hst⟩;obtain⟨aD,cD,hv,hr2,_⟩:=Au hr
   simp only[Aj,At] at hv
   subst hv;have HST:=hid hst
   have HR:=hid hr2
   have hs1:=hst.size
   have HAT:=hid (Bz w1 hst.1)
   have HSC:=hid (hSC.out w1 hst.1)
   clear hr hr2 hst;go_wp2_with fail;refine HAT.out.mono ?_
   rintro r w1' ⟨rfl,rfl⟩;go_wp2_with fail;refine HSC.out.mono ?_
   rintro r w2 ⟨rfl,hst2⟩;have HST2:=hid (Az.trans HST.out.2 hst2)
   have HRK:=hid (Ah.mono (S':=fun q=>w.heap.size≤q∧q<w2.heap.size) (Ah.keep HR.out fun q hq=>hst2.2.block q hq.2 zD) fun q hq=>⟨hq.1,An hq.2 hst2.size⟩)
   have hG:=AA w2 hst2.1
   rw[d1] at hG
   have HG:=hid hG
   clear hst2 hG d1;go_wp2_with fail;refine HG.out.mono ?_
   rintro r w3 ⟨rfl,hb3⟩;have HST3:=hid (HST2.out.then hb3)
   go_wp2;go_ret;exact⟨_,rfl,AJ rfl rfl zD,HST3.out⟩
theorem Rs.Hu{B:List UInt8}{s:Rs}(h:s.ok B.length)(most:Int):(s.loose B most).1.ok B.length:=by
 have hb:=Rs.FP (B:=B) (Rs.DE h (m:=min most 1048576))
 unfold Rs.loose;split
 ·split
  ·split
   ·exact Rs.Hg hb _
   ·exact Rs.Hg hb _
  ·split
   ·split
    ·exact Rs.Py hb _
    ·exact Rs.Py hb _
   ·exact Rs.BH hb zD
 ·exact hb
def Rs.Du(B:List UInt8):Nat→Rs→Int→List Int→Rs × List Int
 | 0,s,_,out=>(s,out)
 | n+1,s,below,out=>
  if (s.num B).1.k=0 then
   (if below≤((s.num B).2:Int) then ((s.num B).1.fail 13 s.p,[]) else Rs.Du B n (s.num B).1 (below-(s.num B).2-1) (out++[below-(s.num B).2-1]))
  else ((s.num B).1,[])
def Rs.delta(B:List UInt8)(s:Rs)(below:Int)(most:Int):Rs × List Int:=Rs.Du B (s.int B most).2 (s.int B most).1 below []
def Rs.stream(B:List UInt8)(s:Rs)(prev:Option Int):Rs × Int:=
 match prev with
 | none=>((s.num B).1,((s.num B).2:Int))
 | some q=>(if 18446744073709551615-q≤((s.num B).2:Int) then (s.num B).1.fail 13 s.p else (s.num B).1,((s.num B).2:Int)+q+1)
def Rs.BX(B:List UInt8)(pos:Int):Nat→Rs→Option Int→List Bv→Rs × List Bv
 | 0,s,_,out=>(s,out)
 | n+1,s,prev,out=>
  if ((s.stream B prev).1.delta B pos 4).1.k=0 then Rs.BX B pos n ((s.stream B prev).1.delta B pos 4).1 (some (s.stream B prev).2) (out++[⟨(s.stream B prev).2,((s.stream B prev).1.delta B pos 4).2⟩])
  else (((s.stream B prev).1.delta B pos 4).1,[])
def Rs.links(B:List UInt8)(s:Rs)(pos:Int):Rs × List Bv:=Rs.BX B pos (s.int B 16).2 (s.int B 16).1 none []
def Rs.ep(B:List UInt8)(s:Rs):Rs × Nat:=if (s.num B).1.k=0 then (if epR ((s.num B).2:Int)=true then s.num B else ((s.num B).1.fail 3 s.p,0)) else ((s.num B).1,0)
def Rs.po(B:List UInt8)(s:Rs):Rs × Nat:=if (s.num B).1.k=0 then (if poR ((s.num B).2:Int)=true then s.num B else ((s.num B).1.fail 3 s.p,0)) else ((s.num B).1,0)
def EB(B:List UInt8)(s:Rs):Rs × List UInt8 × Bool:=((Rs.strict (s.loose B 1048576)).1,(Rs.strict (s.loose B 1048576)).2,true)
def Fa(B:List UInt8)(s:Rs):Rs × List UInt8 × Bool:=s.loose B 1048576
theorem G6{c:UInt8}{n:Nat}(h:n=c.toNat):UInt8.ofNat n=c:=by
 subst h;exact UInt8.ofNat_toNat
theorem Jh:∀(l:List UInt8) (i x v u:Nat),i≤9→CI i x l=(v,u,0)→∃y,v=x+y*128^i∧(0<i→0<y)∧l.take (u-i)=FV (9-i) y∧i<u∧u-i≤l.length
 | [],i,x,v,u,_,h=>by simp[CI] at h
 | c::l,i,x,v,u,hi,h=>by
  have hc:=c.toNat_lt
  unfold CI at h;by_cases h1:i=9∧1<c.toNat
  ·rw[Al h1] at h;simp at h
  ·rw[Ak h1] at h
   by_cases h2:0<i∧c.toNat=0
   ·rw[Al h2] at h;simp at h
   ·rw[Ak h2] at h
    by_cases h3:c.toNat<128
    ·rw[Al h3] at h
     simp only[Gx,At] at h
     obtain⟨rfl,rfl⟩:=h
     refine⟨c.toNat,rfl,fun h=>zD,?_,zD,by rw[Bw];omega⟩
     rw[show i+1-i=1 by omega,List.take_succ_cons,List.take_zero]
     obtain⟨f,hf⟩:∃f,f=9-i:=⟨_,rfl⟩
     rw[←hf]
     cases f with
     | zero=>simp only[FV];rw[G6 rfl]
     | succ f=>simp only[FV];rw[Al h3,G6 rfl]
    ·rw[Ak h3] at h
     have hi9:i<9:=by
      rcases Ba i 9 with h | h
      ·exact h
      ·exact absurd ⟨zD,zD⟩ h1
     obtain⟨y,hv,hy,ht,hu,hlu⟩:=Jh l (i+1) _ v u zD h
     have hy0:=hy zD
     refine⟨c.toNat%128+128*y,?_,fun _=>zD,?_,zD,by rw[Bw];omega⟩
     ·rw[hv,Nat.pow_succ,Nat.add_mul]
      generalize 128^i=k
      rw[Nat.mul_comm k 128,←Nat.mul_assoc y 128 k,Nat.mul_comm y 128]
      omega
     ·rw[show u-i=(u-(i+1))+1 by omega,List.take_succ_cons,ht,show 9-i=(9-(i+1))+1 by omega]
      simp only[FV]
      rw[Ak zD,G6 (c:=c) zD,show (c.toNat%128+128*y)/128=y by omega]
theorem Rs.KB{B:List UInt8}{s:Rs}(hs:s.ok B.length)(h:(s.num B).1.k=0):B.drop s.p=A1 (s.num B).2++B.drop (s.num B).1.p∧(s.num B).1.f=0:=by
 have hm:=Rs.Gl h
 have hle:=hs.le
 unfold Rs.num at*;rw[Al hm.2] at*
 dsimp only at h ⊢;obtain⟨y,hv,_,ht,hu,hlu⟩:=Jh (B.drop s.p) 0 0 _ _ zD (show CI 0 0 (B.drop s.p)=((CI 0 0 (B.drop s.p)).1,(CI 0 0 (B.drop s.p)).2.1,0) from by rw[←h])
 simp only[Nat.pow_zero,DB,BP,Nat.sub_zero] at hv ht
 refine⟨?_,by rw[Al h]⟩
 have:A1 (CI 0 0 (B.drop s.p)).1=(B.drop s.p).take (CI 0 0 (B.drop s.p)).2.1:=by rw[ht,hv];rfl
 rw[this,←List.drop_drop,List.take_append_drop]
theorem Rs.Pa{B:List UInt8}{s:Rs}{m:Int}(hs:s.ok B.length)(h:(s.int B m).1.k=0):B.drop s.p=A1 (s.int B m).2++B.drop (s.int B m).1.p∧((s.int B m).2:Int)≤m∧s.k=0:=by
 unfold Rs.int Rs.most at*;by_cases h0:0≤m
 ·rw[Al h0] at h ⊢
  by_cases h1:m.toNat<(s.num B).2
  ·rw[Al h1] at h;exact absurd h (Rs.By zD)
  ·rw[Ak h1] at h ⊢
   exact⟨(Rs.KB hs h).1,zD,(Rs.Gl h).2⟩
 ·rw[Ak h0] at h;exact absurd h (Rs.By zD)
theorem Rs.Mu{B:List UInt8}:∀(n:Nat) (s:Rs) (below:Int) (out:List Int),s.ok B.length→(Rs.Du B n s below out).1.ok B.length
 | 0,s,below,out,h=>h
 | n+1,s,below,out,h=>by
  simp only[Rs.Du]
  split
  ·split
   ·exact Rs.BH (Rs.Cm h) zD
   ·exact Rs.Mu n _ _ _ (Rs.Cm h)
  ·exact Rs.Cm h
theorem Rs.E6{B:List UInt8}{s:Rs}{below most:Int}(h:s.ok B.length):(s.delta B below most).1.ok B.length:=Rs.Mu _ _ _ _ (Rs.DE h)
theorem Rs.Ic{B:List UInt8}{s:Rs}{prev:Option Int}(h:s.ok B.length):(s.stream B prev).1.ok B.length:=by
 unfold Rs.stream;cases prev with
 | none=>exact Rs.Cm h
 | some q=>
  dsimp only;split
  ·exact Rs.BH (Rs.Cm h) zD
  ·exact Rs.Cm h
theorem Rs.KG{B:List UInt8}{pos:Int}:∀(n:Nat) (s:Rs) (prev:Option Int) (out:List Bv),s.ok B.length→(Rs.BX B pos n s prev out).1.ok B.length
 | 0,s,prev,out,h=>h
 | n+1,s,prev,out,h=>by
  simp only[Rs.BX]
  split
  ·exact Rs.KG n _ _ _ (Rs.E6 (Rs.Ic h))
  ·exact Rs.E6 (Rs.Ic h)
theorem Rs.Ql{B:List UInt8}{s:Rs}{pos:Int}(h:s.ok B.length):(s.links B pos).1.ok B.length:=Rs.KG _ _ _ _ (Rs.DE h)
theorem Rs.IW{B:List UInt8}:∀(n:Nat) (s:Rs) (below:Int) (out:List Int),s.ok B.length→below≤18446744073709551615→(Rs.Du B n s below out).1.k=0→
  ∃l:List Int,(Rs.Du B n s below out).2=out++l∧l.length=n∧DS below l=true∧(∀x∈l,0≤x)∧B.drop s.p=Ho (Ec below l)++B.drop (Rs.Du B n s below out).1.p∧s.k=0
 | 0,s,below,out,hs,_,h=>⟨[],by simp[Rs.Du],rfl,rfl,zR,by simp[Rs.Du,Ec,Ho],h⟩
 | n+1,s,below,out,hs,hb,h=>by
  simp only[Rs.Du] at h ⊢
  by_cases h1:(s.num B).1.k=0
  ·rw[Al h1] at h ⊢
   by_cases h2:below≤((s.num B).2:Int)
   ·rw[Al h2] at h;exact absurd h (Rs.By zD)
   ·rw[Ak h2] at h ⊢
    obtain⟨l,e1,e2,e3,e4,e5,_⟩:=Rs.IW n _ _ _ (Rs.Cm hs) zD h
    have hc:=(Rs.KB hs h1).1
    refine⟨(below-(s.num B).2-1)::l,?_,by simp[e2],?_,?_,?_,(Rs.Gl h1).2⟩
    ·rw[e1];simp
    ·simp only[DS];rw[e3,Bool.and_true];exact Ae zD
    ·intro x hx
     rcases List.mem_cons.1 hx with rfl | hx
     ·omega
     ·exact e4 x hx
    ·simp only[Ec]
     rw[JC,CT,←e5,show (below-(below-((s.num B).2:Int)-1)-1).toNat=(s.num B).2 by omega]
     exact hc
  ·rw[Ak h1] at h;exact absurd h h1
theorem Rs.Mz{B:List UInt8}{s:Rs}{below most:Int}(hs:s.ok B.length)(hb:below≤18446744073709551615)(h:(s.delta B below most).1.k=0):
  DS below (s.delta B below most).2=true∧((s.delta B below most).2.length:Int)≤most∧(∀x∈(s.delta B below most).2,0≤x)∧B.drop s.p=JQ below (s.delta B below most).2++B.drop (s.delta B below most).1.p∧s.k=0:=by
 unfold Rs.delta at*;obtain⟨l,e1,e2,e3,e4,e5,e6⟩:=Rs.IW _ _ _ _ (Rs.DE hs) hb h
 have hi:=Rs.Pa hs e6
 rw[B9] at e1
 rw[e1]
 refine⟨e3,by rw[e2];exact hi.2.1,e4,?_,hi.2.2⟩
 unfold JQ;rw[CT,←e5,e2]
 exact hi.1
open Go.RowKit Go.Bs
def Cq(w w':World)(b:Nat):Prop:=w.heap.size≤b∧b<w'.heap.size
theorem Mq:(Tryz.prog.info? 151).map (fun i=>(i.zero,i.size,i.bytes))=some (some (.agg #[.int .u64 0,.slice none 0 0]),2,32):=zJ
theorem A9{w:World}(W:World)(e:TypeId)(cs:List Value)(hB:w=W.alloc (.cells cs.toArray e)){g:Nat}(hg:g=W.heap.size){sz:Nat}(hs:cs.length=sz):Src w (some ⟨g,0,none⟩) 1 sz cs:=by
 subst hB hg;refine⟨zD,.inr ⟨_,0,rfl,fun j u hu=> ?_⟩⟩
 rw[BP,Blk.cell (Blk.new W e cs.toArray)]
 simpa using hu
theorem Ls(pos:Int)(l:List Bv)(hR:Df pos l=true):(ND pos none l).length≤51*l.length:=by
 have key:∀(l:List Bv) (p:Option Int),(∀x∈l,Dy pos x=true)→(ND pos p l).length≤51*l.length:=by
  intro l;induction l with
  | nil=>intro p _;simp[ND]
  | cons x l ih=>
   intro p hx;have h1:=hx x zR
   simp only[Dy,AD,AF] at h1
   have h2:=ih (some x.stream) (fun y hy=>hx y (by simp[hy]))
   have h3:=NW pos x.backs zD
   cases p with
   | none=>
    have h4:=(Bm x.stream.toNat).1
    simp only[ND,Ar,Bw]
    omega
   | some q=>
    have h4:=(Bm (x.stream-q-1).toNat).1
    simp only[ND,Ar,Bw]
    omega
 simp only[Df,AD,AF,List.all_eq_true] at hR
 exact key l none hR.2.2
theorem NT(w:World){g base most:Nat}{J:List UInt8}{a:Option Addr}{c:Nat}(h:CH w g base most J a c)(x:Nat)(hx:x<18446744073709551616)(hfit:J.length+(A1 x).length≤most)(hlen:J.length+(A1 x).length≤100000000000000):
  Calls Tryz.prog 146 #[.pointer (some ⟨g,0,none⟩),.int .u64 x,.bool true] w fun r w'=>r=.returned (.tuple #[])∧AB w g base most (J++A1 x) a w':=by
 have HV:=hid (DO w h x hx hfit hlen)
 clear h;go_enter Tryz.func146,Tryz.ntmps146
 go_wp2_with fail;refine HV.out.mono ?_
 rintro r w1 ⟨rfl,hst⟩;have HST:=hid hst
 clear hst;go_wp2;first | go_end0 | refine Ag (Av rfl _ _ _) rfl ?_
 exact⟨rfl,HST.out⟩
theorem Lx(w:World){g base most:Nat}{J:List UInt8}{a:Option Addr}{c:Nat}(h:CH w g base most J a c)(x:Nat)(hx:poR (x:Int)=true)(hfit:J.length+(A1 x).length≤most)(hlen:J.length+(A1 x).length≤100000000000000):
  Calls Tryz.prog 64 #[.pointer (some ⟨g,0,none⟩),.int .u64 x] w fun r w'=>r=.returned (.tuple #[])∧AB w g base most (J++A1 x) a w':=by
 have hx':=hx
 simp only[poR,AF] at hx'
 have HR:=hid (It (x:Int) w)
 rw[hx] at HR
 have HV:=hid (NT w h x zD hfit hlen)
 clear h hx hx';go_enter Tryz.func64,Tryz.ntmps64
 go_wp2_with fail;refine HR.out.mono ?_
 rintro r w1 ⟨rfl,rfl⟩;go_wp2_with fail;refine HV.out.mono ?_
 rintro r w1 ⟨rfl,hst⟩;have HST:=hid hst
 clear hst;go_wp2;first | go_end0 | refine Ag (Av rfl _ _ _) rfl ?_
 exact⟨rfl,HST.out⟩
theorem DA{w:World}{g:Nat}{t:TypeId}{v0 v1 v2:Value}(h:Blk w g t #[v0,v1,v2]):w.cell? ⟨g,0,none⟩=some v0∧w.cell? ⟨g,1,none⟩=some v1∧w.cell? ⟨g,2,none⟩=some v2∧w.frozen? ⟨g,0,none⟩=false∧w.frozen? ⟨g,1,none⟩=false∧w.frozen? ⟨g,2,none⟩=false∧g<w.heap.size:=
 ⟨h.cell 0,h.cell 1,h.cell 2,h.free 0,h.free 1,h.free 2,h.lt⟩
structure CF(w W:World)(g:Nat)(B:List UInt8)(a:Option Addr)(s:Rs):Prop where
 rd:AQ W g B a s
 dat:Ah.r (fun q=>q<w.heap.size∧q≠g) W [.slice a B.length B.length] B
 tch:Tch (·=g) w W
 lt:g<w.heap.size
section
variable {w W W':World} {g:Nat} {B:List UInt8} {a:Option Addr} {s s':Rs}
theorem CF.refl(h:AQ w g B a s):CF w w g B a s:=⟨h,h.dat,Tch.refl _ _,h.blk.lt⟩
theorem CF.step(h:CF w W g B a s)(k:Az W g B a s' W'):CF w W' g B a s':=
 ⟨k.1,Ah.keep h.dat fun q hq=>k.2.block q (An hq.1 h.tch.size) hq.2,h.tch.trans k.2 fun _ _ h=>h,h.lt⟩
theorem CF.row(h:CF w W g B a s)(hb:Below w.heap.size W W'):CF w W' g B a s:=by
 have hd:=Ah.keep h.dat (w':=W') fun q hq=>hb.block q hq.1
 have hs:=h.tch.size
 have hs2:=hb.size
 exact⟨⟨h.rd.blk.below hb h.lt,Ah.mono hd fun q hq=>⟨zD,hq.2⟩,h.rd.ok⟩,hd,h.tch.trans (Tch.EY hb) (fun b hb hle=>zD),h.lt⟩
theorem CF.to(h:CF w W g B a s):Az w g B a s W:=⟨h.rd,h.tch⟩
theorem Eu{base:Nat}{e:TypeId}{size:Nat}{v:Value}{n:Nat}{xs:List Value}(h:W.ownsRow base e size v n xs)(hg:g<base)(hb:Tch (·=g) W W'):W'.ownsRow base e size v n xs:=by
 refine⟨h.1,?_⟩
 rcases h.2 with h0 | ⟨g',cap,cur,h1,h2,h3,h4⟩
 ·exact .inl h0
 ·exact .inr ⟨g',cap,cur,h1,h2,(hb.block _ (Blk.lt h3) zD).trans h3,h4⟩
end
theorem Hb(w:World){g:Nat}{B:List UInt8}{a:Option Addr}{s:Rs}(h:AQ w g B a s)(hB:B.length≤1000000000)(below:Int)(hbl:0≤below∧below≤18446744073709551615)(most:Int)(hmo:0≤most∧most≤1000):
  Calls Tryz.prog 234 #[.pointer (some ⟨g,0,none⟩),.int .u64 below,.int .i64 most] w fun r w'=>∃v,r=.returned v∧AK.r (fun q=>w.heap.size≤q∧q<w'.heap.size) w' [v] (s.delta B below most).2∧Az w g B a (s.delta B below most).1 w':=by
 obtain⟨i0,hi,hz0,hz1,hz2⟩:=A8 Mp
 have HI:=hid (Dp w h zD most zD)
 have hNm:=Rs.Fo (B:=B) (s:=s) (m:=most)
 have hlt:=h.blk.lt
 have HIN:=hid (CF.refl h)
 unfold Rs.delta;generalize s.int B most=I at*
 obtain⟨s1,N⟩:=I
 dsimp only at*;have hN:N≤1000:=zD
 clear h;go_enter Tryz.func234,Tryz.ntmps234
 go_wp2_with fail;refine HI.out.mono ?_
 rintro r w1 ⟨rfl,hst⟩;have HIN1:=hid (HIN.out.step hst)
 clear hst;go_wp2_with fail;go_loopw [1,7,13] (fun b v i wr=>∃(k:Nat) (bel:Int) (J:List Int) (st:Rs),k≤N∧i=.int .i64 k∧b=.int .u64 bel∧0≤bel∧bel≤18446744073709551615∧Hid (J.length=k)∧wr.ownsRow w.heap.size 22 1 v J.length (Be J)∧Hid (∀x∈J,0≤x∧x≤18446744073709551615)∧Hid (CF w wr g B a st)∧Hid (Rs.Du B N s1 below []=Rs.Du B (N-k) st bel J)) (fun _ _ i _=>N-(intOf i).toNat)
 case atStart=>exact ⟨0,below,[],s1,Am _,rfl,rfl,hbl.1,hbl.2,hid rfl,⟨rfl,.inl ⟨rfl,rfl⟩⟩,hid zR,HIN1,hid rfl⟩
 case round=>
  obtain⟨k,bel,J,st,hk,rfl,rfl,hb0,hb1,hJl,hown,hJb,hin,hsp⟩:=hrel
  obtain⟨av,cv,rfl⟩:=AP hown
  have hJ9:J.length≤1000:=zAs
  rcases Ba k N with hlt2 | hge
  ·have HAT:=hid (Bz wr hin.out.rd)
   have HVR:=hid (Cu wr hin.out.rd zD)
   have hx:=Rs.Ch (B:=B) (s:=st)
   have hxb:=Rs.Fh (B:=B) (s:=st)
   have hstep:Rs.Du B (N-k) st bel J=(if (st.num B).1.k=0 then (if bel≤((st.num B).2:Int) then ((st.num B).1.fail 13 st.p,[]) else Rs.Du B (N-(k+1)) (st.num B).1 (bel-(st.num B).2-1) (J++[bel-(st.num B).2-1])) else ((st.num B).1,[])):=by
    rw[show N-k=(N-(k+1))+1 by omega];rfl
   have HO:=hid hown
   have i1:(k:Int)<(N:Int):=zD
   have d1:decide ((k:Int)<(N:Int))=true:=Ae i1
   have d1':decide (k<N)=true:=Ae hlt2
   generalize st.num B=R at*
   obtain⟨st1,x⟩:=R
   dsimp only at*;have HBAD:=hid hxb
   clear hown hxb;by_cases hk1:st1.k=0
   ·rw[Al hk1] at hstep
    by_cases hbx:bel≤(x:Int)
    ·rw[Al hbx] at hstep
     have d2:decide (bel≤(x:Int))=true:=Ae hbx
     have hfk:(st1.fail 13 st.p).k≠0:=Rs.By zD
     have HSP:=hid (hsp.out.trans hstep)
     clear hstep hsp hk1;go_wp2_with fail;refine HAT.out.mono ?_
     rintro r w2 ⟨rfl,rfl⟩;go_wp2_with fail;refine HVR.out.mono ?_
     rintro r w3 ⟨rfl,hst3⟩;have HIN3:=hid (hin.out.step hst3)
     clear hst3;go_wp2_with fail;refine (Bj w3 HIN3.out.rd 13 (st.p:Int) zD).mono ?_
     rintro r w4 ⟨rfl,hst4⟩;have HIN4:=hid (HIN3.out.step hst4)
     have hg:=AA w4 HIN4.out.rd
     rw[Ad hfk] at hg
     have HG:=hid hg
     clear hst4 hg hfk;go_wp2_with fail;refine HG.out.mono ?_
     rintro r w5 ⟨rfl,hb5⟩;have HE:=hid (HIN4.out.to.then hb5)
     go_wp2;go_ret;rw[HSP.out]
     exact⟨_,rfl,AM (xs:=[]) rfl (Ai _) (Am _) (.inl rfl),HE.out⟩
    ·rw[Ak hbx] at hstep
     have d2:decide (bel≤(x:Int))=false:=Ad hbx
     have HSP:=hid (hsp.out.trans hstep)
     have w1':0≤bel-((x:Int)+1):=zD
     have w2':(x:Int)+1≤18446744073709551615:=zD
     have hk1':decide (st1.k=0)=true:=Ae hk1
     clear hstep hsp hk1;go_wp2_with fail;refine HAT.out.mono ?_
     rintro r w2 ⟨rfl,rfl⟩;go_wp2_with fail;refine HVR.out.mono ?_
     rintro r w3 ⟨rfl,hst3⟩;have HIN3:=hid (hin.out.step hst3)
     have HO3:=hid (Eu HO.out hlt hst3.2)
     have hg:=AA w3 HIN3.out.rd
     rw[hk1'] at hg
     have HG:=hid hg
     clear hst3 hg hk1';go_wp2_with fail;refine HG.out.mono ?_
     rintro r w4 ⟨rfl,hb4⟩;have HIN4:=hid (HIN3.out.step (Az.later HIN3.out.rd hb4))
     have HO4:=hid (AI HO3.out hb4)
     have hsz4:=HIN4.out.tch.size
     clear hb4;go_wp2_with (at_builtin;go_loud (refine Aq rfl _ _ _ rfl w.heap.size 22 i0 (.int .u64 0) 1 8 Tryz.underlying23 hi hz0 hz1 hz2 rfl zS (.slice av J.length cv) J.length _ rfl (AI HO4.out zA) (some ⟨w4.heap.size,0,none⟩) 1 1 [.int .u64 (bel-((x:Int)+1))] rfl (A9 _ 22 _ rfl zR rfl) Z3 zQ zD zK ?_;intro v' w5 hown5 hgrow5 hat5;obtain⟨a5,c5,rfl⟩:=AP hown5;have HO5:=hid hown5;have hb5:Below w.heap.size w4 w5:=(Below.grown ((by (repeat (first | with_reducible exact Below.refl _ _ | with_reducible assumption | (with_reducible refine As ?_ _) | (with_reducible refine Below.setCell ?_ zE _) | (with_reducible refine Below.drew ?_) | (with_reducible refine below_drewN ?_ _) | (refine Af zH ?_))):Below w4.heap.size w4 _).mono hsz4) hgrow5 zK (fun g e=>(HO4.out.lt g e).1));clear hown5 hgrow5 hat5))
     have HIN5:=hid (HIN4.out.row hb5)
     have ho5:w5.ownsRow w.heap.size 22 1 (.slice a5 (J.length+1) c5) (J++[bel-((x:Int)+1)]).length (Be (J++[bel-((x:Int)+1)])):=by
      have e:Be (J++[bel-((x:Int)+1)])=Be J++[.int .u64 (bel-((x:Int)+1))]:=zAu
      rw[e,Ar]
      exact HO5.out
     have HO6:=hid ho5
     have HB6:Hid (∀y∈J++[bel-((x:Int)+1)],0≤y∧y≤18446744073709551615):=hid (fun y hy=>by
      rw[BK,Bf] at hy
      rcases hy with hy | rfl
      ·exact hJb.out y hy
      ·omega)
     have HSP6:Hid (Rs.Du B N s1 below []=Rs.Du B (N-(k+1)) st1 (bel-((x:Int)+1)) (J++[bel-((x:Int)+1)])):=hid (by rw[HSP.out,show bel-(x:Int)-1=bel-((x:Int)+1) by omega])
     clear ho5;go_roundw
     case rel=>exact ⟨k+1,bel-((x:Int)+1),J++[bel-((x:Int)+1)],st1,zD,ZB,rfl,zD,zD,hid zB9,HO6.out,HB6,HIN5,HSP6⟩
     case measure=>simp [intOf];omega
   ·rw[Ak hk1] at hstep
    have HSP:=hid (hsp.out.trans hstep)
    have hx0:=HBAD.out hk1
    subst hx0;have hk1':decide (st1.k=0)=false:=Ad hk1
    have hfid:st1.fail 13 st.p=st1:=Rs.Bc hk1
    clear hstep hsp hk1;by_cases hbx:bel≤0
    ·have d2:decide (bel≤((0:Nat):Int))=true:=Ae zD
     have d2':decide (bel≤0)=true:=Ae hbx
     go_wp2_with fail;refine HAT.out.mono ?_
     rintro r w2 ⟨rfl,rfl⟩;go_wp2_with fail;refine HVR.out.mono ?_
     rintro r w3 ⟨rfl,hst3⟩;have HIN3:=hid (hin.out.step hst3)
     clear hst3;go_wp2_with fail;refine (Bj w3 HIN3.out.rd 13 (st.p:Int) zD).mono ?_
     rintro r w4 ⟨rfl,hst4⟩;rw[hfid] at hst4
     have HIN4:=hid (HIN3.out.step hst4)
     have hg:=AA w4 HIN4.out.rd
     rw[hk1'] at hg
     have HG:=hid hg
     clear hst4 hg hk1' hfid;go_wp2_with fail;refine HG.out.mono ?_
     rintro r w5 ⟨rfl,hb5⟩;have HE:=hid (HIN4.out.to.then hb5)
     go_wp2;go_ret;rw[HSP.out]
     exact⟨_,rfl,AM (xs:=[]) rfl (Ai _) (Am _) (.inl rfl),HE.out⟩
    ·have d2:decide (bel≤((0:Nat):Int))=false:=Ad zD
     have d2':decide (bel≤0)=false:=Ad hbx
     go_wp2_with fail;refine HAT.out.mono ?_
     rintro r w2 ⟨rfl,rfl⟩;go_wp2_with fail;refine HVR.out.mono ?_
     rintro r w3 ⟨rfl,hst3⟩;have HIN3:=hid (hin.out.step hst3)
     have hg:=AA w3 HIN3.out.rd
     rw[hk1'] at hg
     have HG:=hid hg
     clear hst3 hg hk1' hfid;go_wp2_with fail;refine HG.out.mono ?_
     rintro r w5 ⟨rfl,hb5⟩;have HE:=hid (HIN3.out.to.then hb5)
     go_wp2;go_ret;rw[HSP.out]
     exact⟨_,rfl,AM (xs:=[]) rfl (Ai _) (Am _) (.inl rfl),HE.out⟩
  ·obtain rfl:k=N:=by omega
   have d1:decide ((k:Int)<(k:Int))=false:=Ad zD
   have HSP:Hid (Rs.Du B k s1 below []=(st,J)):=hid (by rw[hsp.out,CS];rfl)
   have HV:=hid (EX hJb.out rfl hown)
   have HE:=hid hin.out.to
   clear hown hsp;go_wp2;go_ret;rw[HSP.out]
   exact⟨_,rfl,HV.out,HE.out⟩
theorem Rs.JI{B:List UInt8}{s:Rs}{m:Int}(h:s.k≠0):s.int B m=(s,0):=by
 unfold Rs.int Rs.most;rw[Rs.CW h]
 split
 ·rw[Ak zF]
 ·rw[Rs.Bc h]
theorem Rs.Ef{B:List UInt8}{s:Rs}{pos m:Int}(h:s.k≠0):s.delta B pos m=(s,[]):=by
 unfold Rs.delta;rw[Rs.JI h]
 rfl
theorem Rs.MC{B:List UInt8}{s:Rs}(h:s.k≠0):s.byte B=(s,0):=by
 unfold Rs.byte;rw[Rs.Gc h]
 rfl
theorem Rs.Hv{B:List UInt8}{s:Rs}{m:Int}(h:s.k≠0):s.loose B m=(s,[],false):=by
 unfold Rs.loose;rw[Rs.JI h]
 dsimp only;rw[Rs.MC h]
 dsimp only;rw[Ak h]
theorem Kb(w:World){g:Nat}{B:List UInt8}{a:Option Addr}{s:Rs}(h:AQ w g B a s)(hB:B.length≤1000000000):
  Calls Tryz.prog 231 #[.pointer (some ⟨g,0,none⟩),.func (Fn.func 113) #[] #[]] w fun r w'=>r=.returned (.int .u64 ((s.ep B).2:Int))∧Az w g B a (s.ep B).1 w':=by
 have HAT:=hid (Bz w h)
 have HVR:=hid (Cu w h zD)
 have hxb:=Rs.Fh (B:=B) (s:=s)
 have HIN:=hid (CF.refl h)
 unfold Rs.ep;generalize s.num B=R at*
 obtain⟨st1,x⟩:=R
 dsimp only at*;have HRT:=hid (fun (W:World)=>Gt (x:Int) W)
 have HBAD:=hid hxb
 clear h hxb;by_cases hk1:st1.k=0
 ·rw[Al hk1]
  by_cases hr:epR (x:Int)=true
  ·rw[Al hr]
   rw[hr] at HRT
   have HK:Hid (decide (st1.k=0)=true):=hid (Ae hk1)
   clear hk1 hr;go_enter Tryz.func231,Tryz.ntmps231
   go_wp2_with fail;refine HAT.out.mono ?_
   rintro r w2 ⟨rfl,rfl⟩;go_wp2_with fail;refine HVR.out.mono ?_
   rintro r w3 ⟨rfl,hst3⟩;have HIN3:=hid (HIN.out.step hst3)
   clear hst3;go_wp2_with fail;refine (HRT.out w3).mono ?_
   rintro r w3' ⟨rfl,rfl⟩;go_wp2_with fail;refine ((by have:=AA w3 HIN3.out.rd;rw[HK.out] at this;exact this:Calls Tryz.prog 44 #[.pointer (some ⟨g,0,none⟩)] w3 fun r w'=>r=.returned (.bool true)∧Below w3.heap.size w3 w')).mono ?_
   rintro r w5 ⟨rfl,hb5⟩;have HE:=hid (HIN3.out.to.then hb5)
   go_wp2;go_ret;exact⟨rfl,HE.out⟩
  ·rw[Ak hr]
   rw[Bool.eq_false_iff.2 hr] at HRT
   have hfk:(st1.fail 3 s.p).k≠0:=Rs.By zD
   clear hk1 hr;go_enter Tryz.func231,Tryz.ntmps231
   go_wp2_with fail;refine HAT.out.mono ?_
   rintro r w2 ⟨rfl,rfl⟩;go_wp2_with fail;refine HVR.out.mono ?_
   rintro r w3 ⟨rfl,hst3⟩;have HIN3:=hid (HIN.out.step hst3)
   clear hst3;go_wp2_with fail;refine (HRT.out w3).mono ?_
   rintro r w3' ⟨rfl,rfl⟩;go_wp2_with fail;refine (Bj w3 HIN3.out.rd 3 (s.p:Int) zD).mono ?_
   rintro r w4 ⟨rfl,hst4⟩;have HIN4:=hid (HIN3.out.step hst4)
   have hg:=AA w4 HIN4.out.rd
   rw[Ad hfk] at hg
   have HG:=hid hg
   clear hst4 hg hfk;go_wp2_with fail;refine HG.out.mono ?_
   rintro r w5 ⟨rfl,hb5⟩;have HE:=hid (HIN4.out.to.then hb5)
   go_wp2;go_ret;exact⟨rfl,HE.out⟩
 ·rw[Ak hk1]
  have hx0:=HBAD.out hk1
  subst hx0;have hfk:st1.k≠0:=hk1
  have hfid:st1.fail 3 s.p=st1:=Rs.Bc hk1
  rw[show epR ((0:Nat):Int)=false from zS] at HRT
  clear hk1;go_enter Tryz.func231,Tryz.ntmps231
  go_wp2_with fail;refine HAT.out.mono ?_
  rintro r w2 ⟨rfl,rfl⟩;go_wp2_with fail;refine HVR.out.mono ?_
  rintro r w3 ⟨rfl,hst3⟩;have HIN3:=hid (HIN.out.step hst3)
  clear hst3;go_wp2_with fail;refine (HRT.out w3).mono ?_
  rintro r w3' ⟨rfl,rfl⟩;go_wp2_with fail;refine (Bj w3 HIN3.out.rd 3 (s.p:Int) zD).mono ?_
  rintro r w4 ⟨rfl,hst4⟩;rw[hfid] at hst4
  clear hfid;have HIN4:=hid (HIN3.out.step hst4)
  have hg:=AA w4 HIN4.out.rd
  rw[Ad hfk] at hg
  have HG:=hid hg
  clear hst4 hg hfk;go_wp2_with fail;refine HG.out.mono ?_
  rintro r w5 ⟨rfl,hb5⟩;have HE:=hid (HIN4.out.to.then hb5)
  go_wp2;go_ret;exact⟨rfl,HE.out⟩
theorem JN(w:World){g:Nat}{B:List UInt8}{a:Option Addr}{s:Rs}(h:AQ w g B a s)(hB:B.length≤1000000000):
  Calls Tryz.prog 209 #[.pointer (some ⟨g,0,none⟩)] w fun r w'=>r=.returned (.int .u64 ((s.ep B).2:Int))∧Az w g B a (s.ep B).1 w':=by
 have HR:=hid (Kb w h hB)
 generalize s.ep B=R at*
 clear h;go_enter Tryz.func209,Tryz.ntmps209
 go_wp2_with fail;refine HR.out.mono ?_
 rintro r w1 ⟨rfl,hst⟩;have HST:=hid hst
 clear hst;go_wp2;go_ret;exact⟨rfl,HST.out⟩
theorem Ka(w:World){g:Nat}{B:List UInt8}{a:Option Addr}{s:Rs}(h:AQ w g B a s)(hB:B.length≤1000000000):
  Calls Tryz.prog 231 #[.pointer (some ⟨g,0,none⟩),.func (Fn.func 82) #[] #[]] w fun r w'=>r=.returned (.int .u64 ((s.po B).2:Int))∧Az w g B a (s.po B).1 w':=by
 have HAT:=hid (Bz w h)
 have HVR:=hid (Cu w h zD)
 have hxb:=Rs.Fh (B:=B) (s:=s)
 have HIN:=hid (CF.refl h)
 unfold Rs.po;generalize s.num B=R at*
 obtain⟨st1,x⟩:=R
 dsimp only at*;have HRT:=hid (fun (W:World)=>It (x:Int) W)
 have HBAD:=hid hxb
 clear h hxb;by_cases hk1:st1.k=0
 ·rw[Al hk1]
  by_cases hr:poR (x:Int)=true
  ·rw[Al hr]
   rw[hr] at HRT
   have HK:Hid (decide (st1.k=0)=true):=hid (Ae hk1)
   clear hk1 hr;go_enter Tryz.func231,Tryz.ntmps231
   go_wp2_with fail;refine HAT.out.mono ?_
   rintro r w2 ⟨rfl,rfl⟩;go_wp2_with fail;refine HVR.out.mono ?_
   rintro r w3 ⟨rfl,hst3⟩;have HIN3:=hid (HIN.out.step hst3)
   clear hst3;go_wp2_with fail;refine (HRT.out w3).mono ?_
   rintro r w3' ⟨rfl,rfl⟩;go_wp2_with fail;refine ((by have:=AA w3 HIN3.out.rd;rw[HK.out] at this;exact this:Calls Tryz.prog 44 #[.pointer (some ⟨g,0,none⟩)] w3 fun r w'=>r=.returned (.bool true)∧Below w3.heap.size w3 w')).mono ?_
   rintro r w5 ⟨rfl,hb5⟩;have HE:=hid (HIN3.out.to.then hb5)
   go_wp2;go_ret;exact⟨rfl,HE.out⟩
  ·rw[Ak hr]
   rw[Bool.eq_false_iff.2 hr] at HRT
   have hfk:(st1.fail 3 s.p).k≠0:=Rs.By zD
   clear hk1 hr;go_enter Tryz.func231,Tryz.ntmps231
   go_wp2_with fail;refine HAT.out.mono ?_
   rintro r w2 ⟨rfl,rfl⟩;go_wp2_with fail;refine HVR.out.mono ?_
   rintro r w3 ⟨rfl,hst3⟩;have HIN3:=hid (HIN.out.step hst3)
   clear hst3;go_wp2_with fail;refine (HRT.out w3).mono ?_
   rintro r w3' ⟨rfl,rfl⟩;go_wp2_with fail;refine (Bj w3 HIN3.out.rd 3 (s.p:Int) zD).mono ?_
   rintro r w4 ⟨rfl,hst4⟩;have HIN4:=hid (HIN3.out.step hst4)
   have hg:=AA w4 HIN4.out.rd
   rw[Ad hfk] at hg
   have HG:=hid hg
   clear hst4 hg hfk;go_wp2_with fail;refine HG.out.mono ?_
   rintro r w5 ⟨rfl,hb5⟩;have HE:=hid (HIN4.out.to.then hb5)
   go_wp2;go_ret;exact⟨rfl,HE.out⟩
 ·rw[Ak hk1]
  have hx0:=HBAD.out hk1
  subst hx0;have hfk:st1.k≠0:=hk1
  have hfid:st1.fail 3 s.p=st1:=Rs.Bc hk1
  rw[show poR ((0:Nat):Int)=true from zS] at HRT
  clear hk1;go_enter Tryz.func231,Tryz.ntmps231
  go_wp2_with fail;refine HAT.out.mono ?_
  rintro r w2 ⟨rfl,rfl⟩;go_wp2_with fail;refine HVR.out.mono ?_
  rintro r w3 ⟨rfl,hst3⟩;have HIN3:=hid (HIN.out.step hst3)
  clear hst3;go_wp2_with fail;refine (HRT.out w3).mono ?_
  rintro r w3' ⟨rfl,rfl⟩;go_wp2_with fail;refine ((by have:=AA w3 HIN3.out.rd;rw[Ad hfk] at this;exact this:Calls Tryz.prog 44 #[.pointer (some ⟨g,0,none⟩)] w3 fun r w'=>r=.returned (.bool false)∧Below w3.heap.size w3 w')).mono ?_
  rintro r w5 ⟨rfl,hb5⟩;have HE:=hid (HIN3.out.to.then hb5)
  clear hfk hfid;go_wp2;go_ret;exact⟨rfl,HE.out⟩
theorem J8(w:World){g:Nat}{B:List UInt8}{a:Option Addr}{s:Rs}(h:AQ w g B a s)(hB:B.length≤1000000000):
  Calls Tryz.prog 183 #[.pointer (some ⟨g,0,none⟩)] w fun r w'=>r=.returned (.int .u64 ((s.po B).2:Int))∧Az w g B a (s.po B).1 w':=by
 have HR:=hid (Ka w h hB)
 generalize s.po B=R at*
 clear h;go_enter Tryz.func183,Tryz.ntmps183
 go_wp2_with fail;refine HR.out.mono ?_
 rintro r w1 ⟨rfl,hst⟩;have HST:=hid hst
 clear hst;go_wp2;go_ret;exact⟨rfl,HST.out⟩
theorem Ax.Jk{w w':World}{α:Type}{lo g:Nat}{A:Rp α}{e:TypeId}{sz:Nat}{v:Value}{xs:List α}(h:Ax lo A lo e sz w v xs)(hb:Tch (fun b=>b=g∨w.heap.size≤b) w w')(hg:g<lo):Ax lo A lo e sz w' v xs:=by
 have hk:∀b,lo≤b→b<w.heap.size→w'.heap[b]? =w.heap[b]? :=fun b h1 h2=>hb.block b h2 zD
 obtain⟨cells,ho,hlen,hsz,hA⟩:=h
 refine⟨cells,⟨ho.1,?_⟩,hlen,hsz,fun i cs x hi hx=>A.mono (A.keep (hA i cs x hi hx) fun b h=>hk b h.1 h.2.1) fun b h=>⟨h.1,An h.2.1 hb.size,h.2.2⟩⟩
 rcases ho.2 with h0 | ⟨g',cap,cur,h1,h2,h3,h4⟩
 ·exact .inl h0
 ·exact .inr ⟨g',cap,cur,h1,h2,(hk _ h2 (Blk.lt h3)).trans h3,h4⟩
theorem Ax.form{w:World}{α:Type}{lo base:Nat}{A:Rp α}{e:TypeId}{sz:Nat}{v:Value}{xs:List α}(h:Ax lo A base e sz w v xs):∃a c,v=.slice a xs.length c:=by
 obtain⟨cells,h1,_⟩:=h
 exact AP h1
theorem Ra{z:Int}(h:0≤z∧z≤18446744073709551615):bits BinOp.xor IntKind.u64 IntKind.u64.max z=18446744073709551615-z:=by
 obtain⟨a,rfl⟩:=Dm h.1
 have ha:a<18446744073709551616:=zD
 have e:IntKind.u64.max=((18446744073709551615:Nat):Int):=rfl
 rw[e,bits_xor_u64_nat _ _ zS ha]
 have h1:18446744073709551615^^^a=18446744073709551615-a:=by
  have h2:=BitVec.toNat_not (x:=BitVec.ofNat 64 a)
  rw[BitVec.not_def,BitVec.toNat_xor,BitVec.toNat_allOnes,BitVec.toNat_ofNat,DF zD] at h2
  exact h2
 rw[h1]
 omega
theorem O9(w:World){g:Nat}{B:List UInt8}{a:Option Addr}{s:Rs}(h:AQ w g B a s)(hB:B.length≤1000000000)(pos:Int)(hpos:0≤pos∧pos≤18446744073709551615):
  Calls Tryz.prog 192 #[.pointer (some ⟨g,0,none⟩),.int .u64 pos] w fun r w'=>∃v,r=.returned v∧GA.r (Cq w w') w' [v] (s.links B pos).2∧Az w g B a (s.links B pos).1 w':=by
 obtain⟨i0,hi,hz0,hz1,hz2⟩:=A8 Mq
 have HI:=hid (Dp w h zD 16 zD)
 have hNm:=Rs.Fo (B:=B) (s:=s) (m:=16)
 have hlt:=h.blk.lt
 have HIN:=hid (CF.refl h)
 unfold Rs.links;generalize s.int B 16=I at*
 obtain⟨s1,N⟩:=I
 dsimp only at*;have hN:N≤16:=zD
 clear h;go_enter Tryz.func192,Tryz.ntmps192
 go_wp2_with fail;refine HI.out.mono ?_
 rintro r w1 ⟨rfl,hst⟩;have HIN1:=hid (HIN.out.step hst)
 clear hst;go_wp2_with fail;go_loopw [5,12] (fun v i wr=>∃(k:Nat) (J:List Bv) (st:Rs),k≤N∧i=.int .i64 k∧Hid (J.length=k)∧Ax w.heap.size Fv w.heap.size 151 2 wr v J∧Hid (∀x∈J,0≤x.stream∧x.stream≤18446744073709551615)∧Hid (CF w wr g B a st)∧Hid (Rs.BX B pos N s1 none []=Rs.BX B pos (N-k) st (J.getLast?.map Bv.stream) J)) (fun _ i _=>N-(intOf i).toNat)
 case atStart=>exact ⟨0,[],s1,Am _,rfl,hid rfl,Ax.nil,hid zR,HIN1,hid rfl⟩
 case round=>
  obtain⟨k,J,st,hk,rfl,hJl,hown,hJb,hin,hsp⟩:=hrel
  obtain⟨av,cv,rfl⟩:=Ax.form hown
  rcases Ba k N with hlt2 | hge
  ·have HAT:=hid (Bz wr hin.out.rd)
   have HVR:=hid (Cu wr hin.out.rd zD)
   have hx:=Rs.Ch (B:=B) (s:=st)
   have hsz0:=hin.out.tch.size
   have i1:(k:Int)<(N:Int):=zD
   have d1:decide ((k:Int)<(N:Int))=true:=Ae i1
   have d1':decide (k<N)=true:=Ae hlt2
   have HO:=hid hown
   clear hown;have hJ16:J.length≤16:=zAs
   by_cases hJe:J=[]
   ·have hstep:Rs.BX B pos (N-k) st (J.getLast?.map Bv.stream) J=(if ((st.num B).1.delta B pos 4).1.k=0 then Rs.BX B pos (N-(k+1)) ((st.num B).1.delta B pos 4).1 (some ((st.num B).2:Int)) (J++[⟨((st.num B).2:Int),((st.num B).1.delta B pos 4).2⟩]) else (((st.num B).1.delta B pos 4).1,[])):=by
     rw[show N-k=(N-(k+1))+1 by omega,hJe];rfl
    have hk0:k=0:=by have:=hJl.out;rw[hJe] at this;simpa using this.symm
    subst hk0;clear hJe;generalize st.num B=R at*
    obtain⟨st1,x⟩:=R
    dsimp only at*;have hxb:(0:Int)≤(x:Int)∧(x:Int)≤18446744073709551615:=zD
    have HD:=hid (fun (W:World) (hW:AQ W g B a st1)=>Hb W hW hB pos hpos 4 zD)
    generalize st1.delta B pos 4=D at*
    obtain⟨s6,bk⟩:=D
    dsimp only at*;go_wp2_with fail;refine HAT.out.mono ?_
    rintro r w2 ⟨rfl,rfl⟩;go_wp2_with fail;refine HVR.out.mono ?_
    rintro r w3 ⟨rfl,hst3⟩;have HIN3:=hid (hin.out.step hst3)
    have HO3:=hid (Ax.Jk HO.out (hst3.2.mono fun b hb e=> .inl e) hlt)
    have hsz3:=HIN3.out.tch.size
    clear hst3;go_wp2_with fail;refine (HD.out _ (HIN3.out.row ((by (repeat (first | with_reducible exact Below.refl _ _ | with_reducible assumption | (with_reducible refine As ?_ _) | (with_reducible refine Below.setCell ?_ zE _) | (with_reducible refine Below.drew ?_) | (with_reducible refine below_drewN ?_ _) | (refine Af zH ?_))):Below w3.heap.size w3 _).mono hsz3)).rd).mono ?_
    rintro r w6 ⟨v6,rfl,hv6,hst6⟩;obtain⟨a6,c6,hfv,_,_⟩:=Au hv6
    simp only[Aj,At] at hfv
    subst hfv;have BK6:Blk w6 w3.heap.size 151 #[.int .u64 (x:Int),.slice none 0 0]:=Blk.tch zB hst6.2 zD
    have HIN6:=hid ((HIN3.out.row ((by (repeat (first | with_reducible exact Below.refl _ _ | with_reducible assumption | (with_reducible refine As ?_ _) | (with_reducible refine Below.setCell ?_ zE _) | (with_reducible refine Below.drew ?_) | (with_reducible refine below_drewN ?_ _) | (refine Af zH ?_))):Below w3.heap.size w3 _).mono hsz3)).step hst6)
    have HK6:Hid (Tch (fun b=>b=g∨w3.heap.size≤b) w3 w6):=hid ((Tch.EY (by (repeat (first | with_reducible exact Below.refl _ _ | with_reducible assumption | (with_reducible refine As ?_ _) | (with_reducible refine Below.setCell ?_ zE _) | (with_reducible refine Below.drew ?_) | (with_reducible refine below_drewN ?_ _) | (refine Af zH ?_))):Below w3.heap.size w3 _)).mono (fun b hb e=> .inr e) |>.trans hst6.2 (fun b hb e=> .inl e))
    by_cases hk6:s6.k=0
    ·rw[Al hk6] at hstep
     have HSP:=hid (hsp.out.trans hstep)
     have HG:=hid (fun (W:World) (hW:AQ W g B a s6)=>(by have:=AA W hW;rw[Ae hk6] at this;exact this:Calls Tryz.prog 44 #[.pointer (some ⟨g,0,none⟩)] W fun r w'=>r=.returned (.bool true)∧Below W.heap.size W w'))
     obtain⟨y0,y1,f0,f1,hl6⟩:=CQ BK6
     have HV6:=hid hv6
     have hq6:=hst6.2.size
     simp at hq6
     clear hsp hstep hk6 hv6 hst6;go_wp2_with fail;refine (HG.out _ (HIN6.out.row ((by (repeat (first | with_reducible exact Below.refl _ _ | with_reducible assumption | (with_reducible refine As ?_ _) | (with_reducible refine Below.setCell ?_ zE _) | (with_reducible refine Below.drew ?_) | (with_reducible refine below_drewN ?_ _) | (refine Af zH ?_))):Below w3.heap.size w6 _).mono hsz3)).rd).mono ?_
     rintro r w7 ⟨rfl,hb7⟩;have B7:Blk w7 w3.heap.size 151 #[.int .u64 (x:Int),.slice a6 bk.length c6]:=Blk.later (BK6.set 1 _) hb7
     obtain⟨z0,z1,_,_,hl7⟩:=CQ B7
     have hb67:Below w3.heap.size w6 w7:=(by (repeat (first | with_reducible exact Below.refl _ _ | with_reducible assumption | (with_reducible refine As ?_ _) | (with_reducible refine Below.setCell ?_ zE _) | (with_reducible refine Below.drew ?_) | (with_reducible refine below_drewN ?_ _) | (refine Af zH ?_))):Below w3.heap.size w6 (w6.setCell ⟨w3.heap.size,1,none⟩ (.slice a6 bk.length c6))).trans (hb7.mono zK)
     have HIN7:=hid (HIN6.out.row (hb67.mono hsz3))
     have hsz7:=HIN7.out.tch.size
     have hk7:Tch (fun b=>b=g∨w3.heap.size≤b) w3 w7:=HK6.out.trans (Tch.EY hb67) (fun b hb hle=> .inr hle)
     have O7:=Ax.Jk HO3.out hk7 hlt
     obtain⟨cells0,OA0⟩:=HO3.out
     have hlt0:∀g',(Value.slice av J.length cv).ownBlock=some g'→g'<w3.heap.size:=fun g' e=>(OA0.1.lt g' e).2
     obtain⟨cells,OA⟩:=Ax.below O7 (show Below w7.heap.size w7 (w7.alloc (.cells #[.int .u64 (x:Int),.slice a6 bk.length c6] 151)) from zA)
     have hk8:∀b,w3.heap.size+1≤b→b<w6.heap.size→(w7.alloc (.cells #[.int .u64 (x:Int),.slice a6 bk.length c6] 151)).heap[b]? =w6.heap[b]? :=fun b h1 h2=>(Below.heap_alloc w7 _ b (by have:=hb67.size;omega)).trans ((hb7.block b zBs).trans (Below.heap_setCell _ _ _ _ zF))
     have hv8:=AK.keep (w':=(w7.alloc (.cells #[.int .u64 (x:Int),.slice a6 bk.length c6] 151))) HV6.out (fun b (hb:(w3.alloc (.cells #[.int .u64 (x:Int),.slice none 0 0] 151)).heap.size≤b∧b<w6.heap.size)=>hk8 b (by have:=hb.1;simp at this;omega) hb.2)
     have hx8:Fv.r (fun b=>w.heap.size≤b∧b<(w7.alloc (.cells #[.int .u64 (x:Int),.slice a6 bk.length c6] 151)).heap.size∧(Value.slice av J.length cv).ownBlock≠some b) (w7.alloc (.cells #[.int .u64 (x:Int),.slice a6 bk.length c6] 151)) [.int .u64 (x:Int),.slice a6 bk.length c6] ⟨(x:Int),bk⟩:=by
      refine FL (x:=⟨(x:Int),bk⟩) hxb (AK.mono hv8 fun b hb=> ?_)
      have h1:=hb.1
      have h2:=hb.2
      have h3:=hb67.size
      simp at h1
      refine⟨zD,zK,fun e=> ?_⟩
      have:=hlt0 b e
      omega
     have HX:=hid hx8
     have HA:=hid OA
     have HS9:Hid (w.heap.size≤(w7.alloc (.cells #[.int .u64 (x:Int),.slice a6 bk.length c6] 151)).heap.size):=hid zK
     clear hx8 hv8 OA OA0 hlt0 hk8 O7 hk7 hb67 hb7 B7 y0 y1 f0 f1 HV6;go_wp2_with (at_builtin;go_loud (refine Aq rfl _ _ _ rfl w.heap.size 151 i0 (.agg #[.int .u64 0,.slice none 0 0]) 2 32 Fk hi hz0 hz1 hz2 rfl zS (.slice av J.length cv) J.length _ rfl HA.out.1 (some ⟨w7.heap.size,0,none⟩) 1 1 [.int .u64 (x:Int),.slice a6 bk.length c6] rfl (A9 w7 151 _ rfl rfl rfl) (by intro u hu;simp at hu;rcases hu with rfl | rfl<;>rfl) zQ zD HS9.out ?_;intro v1 w9 hown1 hgrow1 hat1;have OP:=hid (Ax.push HA.out rfl HX.out hown1 hgrow1 hat1 hgrow1.size);have hb9:Below w.heap.size w7 w9:=(Below.grown ((by (repeat (first | with_reducible exact Below.refl _ _ | with_reducible assumption | (with_reducible refine As ?_ _) | (with_reducible refine Below.setCell ?_ zE _) | (with_reducible refine Below.drew ?_) | (with_reducible refine below_drewN ?_ _) | (refine Af zH ?_))):Below w7.heap.size w7 _).mono hsz7) hgrow1 HS9.out (fun g e=>(HA.out.1.lt g e).1));clear hown1 hgrow1 hat1))
     have HIN9:=hid (HIN7.out.row hb9)
     have HJ9:Hid (∀y∈J++[(⟨(x:Int),bk⟩:Bv)],0≤y.stream∧y.stream≤18446744073709551615):=hid (fun y hy=>by
      rw[BK,Bf] at hy
      rcases hy with hy | rfl
      ·exact hJb.out y hy
      ·exact hxb)
     go_roundw
     case rel=>exact ⟨0+1,J++[⟨(x:Int),bk⟩],s6,zD,ZB,hid (by rw[Ar,hJl.out];rfl),OP.out,HJ9,HIN9,hid (by rw[HSP.out];simp)⟩
     case measure=>simp [intOf];omega
    ·rw[Ak hk6] at hstep
     have HSP:=hid (hsp.out.trans hstep)
     have HG:=hid (fun (W:World) (hW:AQ W g B a s6)=>(by have:=AA W hW;rw[Ad hk6] at this;exact this:Calls Tryz.prog 44 #[.pointer (some ⟨g,0,none⟩)] W fun r w'=>r=.returned (.bool false)∧Below W.heap.size W w'))
     obtain⟨y0,y1,f0,f1,hl6⟩:=CQ BK6
     clear hsp hstep hk6 hv6;go_wp2_with fail;refine (HG.out _ (HIN6.out.row ((by (repeat (first | with_reducible exact Below.refl _ _ | with_reducible assumption | (with_reducible refine As ?_ _) | (with_reducible refine Below.setCell ?_ zE _) | (with_reducible refine Below.drew ?_) | (with_reducible refine below_drewN ?_ _) | (refine Af zH ?_))):Below w3.heap.size w6 _).mono hsz3)).rd).mono ?_
     rintro r w7 ⟨rfl,hb7⟩;have hb67:Below w3.heap.size w6 w7:=(by (repeat (first | with_reducible exact Below.refl _ _ | with_reducible assumption | (with_reducible refine As ?_ _) | (with_reducible refine Below.setCell ?_ zE _) | (with_reducible refine Below.drew ?_) | (with_reducible refine below_drewN ?_ _) | (refine Af zH ?_))):Below w3.heap.size w6 (w6.setCell ⟨w3.heap.size,1,none⟩ (.slice a6 bk.length c6))).trans (hb7.mono zK)
     have HE:=hid (HIN6.out.row (hb67.mono hsz3)).to
     clear hb7;go_wp2;go_ret;rw[HSP.out]
     exact⟨.slice none 0 0,rfl,Ax.G1 (e:=0) (Ai _) Ax.nil,HE.out⟩
   ·obtain⟨m,rfl⟩:∃m,k=m+1:=⟨k-1,by
     have:=hJl.out
     have:J.length≠0:=fun e=>hJe (AG e)
     omega⟩
    have hmJ:m<J.length:=zAs
    have hlast:J.getLast?.map Bv.stream=some J[m].stream:=by
     have:=hJl.out
     rw[List.getLast?_eq_getElem?,this,Nat.add_sub_cancel,AH hmJ]
     rfl
    have hzb:=hJb.out J[m] (CL hmJ)
    obtain⟨bq,o,hA,hbb,a1,c1,hc0,hc1,hst,hd⟩:=FM (Ax.slice (Ai _) HO.out) hmJ
    subst hA;have hbg:bq≠g:=by have:=hbb.1;omega
    have hbr:bq<wr.heap.size:=hbb.2
    have hstep:Rs.BX B pos (N-(m+1)) st (J.getLast?.map Bv.stream) J=(if ((st.stream B (some J[m].stream)).1.delta B pos 4).1.k=0 then Rs.BX B pos (N-(m+1+1)) ((st.stream B (some J[m].stream)).1.delta B pos 4).1 (some (st.stream B (some J[m].stream)).2) (J++[⟨(st.stream B (some J[m].stream)).2,((st.stream B (some J[m].stream)).1.delta B pos 4).2⟩]) else (((st.stream B (some J[m].stream)).1.delta B pos 4).1,[])):=by
     rw[hlast,show N-(m+1)=(N-(m+1+1))+1 by omega];rfl
    clear hlast hd hc1 hbb;generalize J[m]=z at*
    have i1':(m:Int)+1<(N:Int):=zD
    have i2:(m:Int)<(J.length:Int):=zD
    have d2:decide ((m:Int)+1<(N:Int))=true:=Ae i1'
    have e1:=Ra hzb
    have hsg:IntKind.u64.signed=false:=rfl
    by_cases hf:18446744073709551615-z.stream≤((st.num B).2:Int)
    ·have hS:(st.stream B (some z.stream)).1=(st.num B).1.fail 13 st.p:=by
      simp only[Rs.stream]
      rw[Al hf]
     have hbad:((st.stream B (some z.stream)).1.delta B pos 4).1.k≠0:=fun e=>(Rs.By (s:=(st.num B).1) (c:=13) (at_:=(st.p:Int)) zD) (by rw[←hS];exact (Rs.Mz (Rs.Ic hin.out.rd.ok) hpos.2 e).2.2.2.2)
     rw[Ak hbad,hS] at hstep
     rw[hS] at hbad
     clear hS;generalize st.num B=R at*
     obtain⟨st1,x⟩:=R
     dsimp only at*;have d4:decide (bits BinOp.xor IntKind.u64 IntKind.u64.max z.stream≤(x:Int))=true:=by rw[e1];exact Ae hf
     clear hf e1;have HD:=hid (fun (W:World) (hW:AQ W g B a (st1.fail 13 (st.p:Int)))=>Hb W hW hB pos hpos 4 zD)
     generalize (st1.fail 13 (st.p:Int)).delta B pos 4=D at*
     obtain⟨s6,bk⟩:=D
     dsimp only at*;go_wp2_with fail;refine HAT.out.mono ?_
     rintro r w2 ⟨rfl,rfl⟩;go_wp2_with fail;refine HVR.out.mono ?_
     rintro r w3 ⟨rfl,hst3⟩;have HIN3:=hid (hin.out.step hst3)
     have HO3:=hid (Ax.Jk HO.out (hst3.2.mono fun b hb e=> .inl e) hlt)
     have hsz3:=HIN3.out.tch.size
     have X0:=(hst3.2.cell (p:=⟨bq,o+m*2,none⟩) hbr hbg).trans hc0
     have hb3:bq<w3.heap.size:=An hbr hst3.2.size
     clear hst3 hc0;go_wp2_with fail;refine (Bj _ (HIN3.out.row ((by (repeat (first | with_reducible exact Below.refl _ _ | with_reducible assumption | (with_reducible refine As ?_ _) | (with_reducible refine Below.setCell ?_ zE _) | (with_reducible refine Below.drew ?_) | (with_reducible refine below_drewN ?_ _) | (refine Af zH ?_))):Below w3.heap.size w3 _).mono hsz3)).rd 13 (st.p:Int) zD).mono ?_
     rintro r w4 ⟨rfl,hst4⟩;have B4:Blk w4 w3.heap.size 151 #[.int .u64 (x:Int),.slice none 0 0]:=Blk.tch zB hst4.2 zD
     have HIN4:=hid ((HIN3.out.row ((by (repeat (first | with_reducible exact Below.refl _ _ | with_reducible assumption | (with_reducible refine As ?_ _) | (with_reducible refine Below.setCell ?_ zE _) | (with_reducible refine Below.drew ?_) | (with_reducible refine below_drewN ?_ _) | (refine Af zH ?_))):Below w3.heap.size w3 _).mono hsz3)).step hst4)
     have hsz4:=hst4.2.size
     obtain⟨q0,q1,e0,e1,l4⟩:=CQ B4
     clear hst4;go_wp2_with fail;refine (HD.out _ (HIN4.out.row ((by (repeat (first | with_reducible exact Below.refl _ _ | with_reducible assumption | (with_reducible refine As ?_ _) | (with_reducible refine Below.setCell ?_ zE _) | (with_reducible refine Below.drew ?_) | (with_reducible refine below_drewN ?_ _) | (refine Af zH ?_))):Below w3.heap.size w4 _).mono hsz3)).rd).mono ?_
     rintro r w6 ⟨v6,rfl,hv6,hst6⟩;obtain⟨a6,c6,hfv,_,_⟩:=Au hv6
     simp only[Aj,At] at hfv
     subst hfv;have BK6:Blk w6 w3.heap.size 151 #[_,.slice none 0 0]:=Blk.tch (B4.set 0 _) hst6.2 zD
     have HIN6:=hid ((HIN4.out.row ((by (repeat (first | with_reducible exact Below.refl _ _ | with_reducible assumption | (with_reducible refine As ?_ _) | (with_reducible refine Below.setCell ?_ zE _) | (with_reducible refine Below.drew ?_) | (with_reducible refine below_drewN ?_ _) | (refine Af zH ?_))):Below w3.heap.size w4 _).mono hsz3)).step hst6)
     have HSP:=hid (hsp.out.trans hstep)
     have HG:=hid (fun (W:World) (hW:AQ W g B a s6)=>(by have:=AA W hW;rw[Ad hbad] at this;exact this:Calls Tryz.prog 44 #[.pointer (some ⟨g,0,none⟩)] W fun r w'=>r=.returned (.bool false)∧Below W.heap.size W w'))
     obtain⟨y0,y1,f0,f1,hl6⟩:=CQ BK6
     clear hsp hstep hbad hv6 B4 q0 q1 e0 e1 l4;go_wp2_with fail;refine (HG.out _ (HIN6.out.row ((by (repeat (first | with_reducible exact Below.refl _ _ | with_reducible assumption | (with_reducible refine As ?_ _) | (with_reducible refine Below.setCell ?_ zE _) | (with_reducible refine Below.drew ?_) | (with_reducible refine below_drewN ?_ _) | (refine Af zH ?_))):Below w3.heap.size w6 _).mono hsz3)).rd).mono ?_
     rintro r w7 ⟨rfl,hb7⟩;have hb67:Below w3.heap.size w6 w7:=(by (repeat (first | with_reducible exact Below.refl _ _ | with_reducible assumption | (with_reducible refine As ?_ _) | (with_reducible refine Below.setCell ?_ zE _) | (with_reducible refine Below.drew ?_) | (with_reducible refine below_drewN ?_ _) | (refine Af zH ?_))):Below w3.heap.size w6 (w6.setCell ⟨w3.heap.size,1,none⟩ (.slice a6 bk.length c6))).trans (hb7.mono zK)
     have HE:=hid (HIN6.out.row (hb67.mono hsz3)).to
     clear hb7;go_wp2;go_ret;rw[HSP.out]
     exact⟨.slice none 0 0,rfl,Ax.G1 (e:=0) (Ai _) Ax.nil,HE.out⟩
    ·have hS:st.stream B (some z.stream)=((st.num B).1,((st.num B).2:Int)+(z.stream+1)):=by
      simp only[Rs.stream]
      rw[Ak hf,Int.add_assoc]
     rw[hS] at hstep
     clear hS;generalize st.num B=R at*
     obtain⟨st1,x⟩:=R
     dsimp only at*;have hxb:(0:Int)≤(x:Int)+(z.stream+1)∧(x:Int)+(z.stream+1)≤18446744073709551615:=zD
     have d4:decide (bits BinOp.xor IntKind.u64 IntKind.u64.max z.stream≤(x:Int))=false:=by rw[e1];exact Ad hf
     have v1:0≤z.stream+1:=zD
     have v2:z.stream+1≤18446744073709551615:=zD
     have v3:=hxb.1
     have v4:=hxb.2
     clear hf e1;have HD:=hid (fun (W:World) (hW:AQ W g B a st1)=>Hb W hW hB pos hpos 4 zD)
     generalize st1.delta B pos 4=D at*
     obtain⟨s6,bk⟩:=D
     dsimp only at*;go_wp2_with fail;refine HAT.out.mono ?_
     rintro r w2 ⟨rfl,rfl⟩;go_wp2_with fail;refine HVR.out.mono ?_
     rintro r w3 ⟨rfl,hst3⟩;have HIN3:=hid (hin.out.step hst3)
     have HO3:=hid (Ax.Jk HO.out (hst3.2.mono fun b hb e=> .inl e) hlt)
     have hsz3:=HIN3.out.tch.size
     have X0:=(hst3.2.cell (p:=⟨bq,o+m*2,none⟩) hbr hbg).trans hc0
     have hb3:bq<w3.heap.size:=An hbr hst3.2.size
     clear hst3 hc0;go_wp2_with fail;refine (HD.out _ (HIN3.out.row ((by (repeat (first | with_reducible exact Below.refl _ _ | with_reducible assumption | (with_reducible refine As ?_ _) | (with_reducible refine Below.setCell ?_ zE _) | (with_reducible refine Below.drew ?_) | (with_reducible refine below_drewN ?_ _) | (refine Af zH ?_))):Below w3.heap.size w3 _).mono hsz3)).rd).mono ?_
     rintro r w6 ⟨v6,rfl,hv6,hst6⟩;obtain⟨a6,c6,hfv,_,_⟩:=Au hv6
     simp only[Aj,At] at hfv
     subst hfv;have BK6:Blk w6 w3.heap.size 151 #[.int .u64 ((x:Int)+(z.stream+1)),.slice none 0 0]:=Blk.tch zB hst6.2 zD
     have HIN6:=hid ((HIN3.out.row ((by (repeat (first | with_reducible exact Below.refl _ _ | with_reducible assumption | (with_reducible refine As ?_ _) | (with_reducible refine Below.setCell ?_ zE _) | (with_reducible refine Below.drew ?_) | (with_reducible refine below_drewN ?_ _) | (refine Af zH ?_))):Below w3.heap.size w3 _).mono hsz3)).step hst6)
     have HK6:Hid (Tch (fun b=>b=g∨w3.heap.size≤b) w3 w6):=hid ((Tch.EY (by (repeat (first | with_reducible exact Below.refl _ _ | with_reducible assumption | (with_reducible refine As ?_ _) | (with_reducible refine Below.setCell ?_ zE _) | (with_reducible refine Below.drew ?_) | (with_reducible refine below_drewN ?_ _) | (refine Af zH ?_))):Below w3.heap.size w3 _)).mono (fun b hb e=> .inr e) |>.trans hst6.2 (fun b hb e=> .inl e))
     by_cases hk6:s6.k=0
     ·rw[Al hk6] at hstep
      have HSP:=hid (hsp.out.trans hstep)
      have HG:=hid (fun (W:World) (hW:AQ W g B a s6)=>(by have:=AA W hW;rw[Ae hk6] at this;exact this:Calls Tryz.prog 44 #[.pointer (some ⟨g,0,none⟩)] W fun r w'=>r=.returned (.bool true)∧Below W.heap.size W w'))
      obtain⟨y0,y1,f0,f1,hl6⟩:=CQ BK6
      have HV6:=hid hv6
      have hq6:=hst6.2.size
      simp at hq6
      clear hsp hstep hk6 hv6 hst6;go_wp2_with fail;refine (HG.out _ (HIN6.out.row ((by (repeat (first | with_reducible exact Below.refl _ _ | with_reducible assumption | (with_reducible refine As ?_ _) | (with_reducible refine Below.setCell ?_ zE _) | (with_reducible refine Below.drew ?_) | (with_reducible refine below_drewN ?_ _) | (refine Af zH ?_))):Below w3.heap.size w6 _).mono hsz3)).rd).mono ?_
      rintro r w7 ⟨rfl,hb7⟩;have B7:Blk w7 w3.heap.size 151 #[.int .u64 ((x:Int)+(z.stream+1)),.slice a6 bk.length c6]:=Blk.later (BK6.set 1 _) hb7
      obtain⟨z0,z1,_,_,hl7⟩:=CQ B7
      have hb67:Below w3.heap.size w6 w7:=(by (repeat (first | with_reducible exact Below.refl _ _ | with_reducible assumption | (with_reducible refine As ?_ _) | (with_reducible refine Below.setCell ?_ zE _) | (with_reducible refine Below.drew ?_) | (with_reducible refine below_drewN ?_ _) | (refine Af zH ?_))):Below w3.heap.size w6 (w6.setCell ⟨w3.heap.size,1,none⟩ (.slice a6 bk.length c6))).trans (hb7.mono zK)
      have HIN7:=hid (HIN6.out.row (hb67.mono hsz3))
      have hsz7:=HIN7.out.tch.size
      have hk7:Tch (fun b=>b=g∨w3.heap.size≤b) w3 w7:=HK6.out.trans (Tch.EY hb67) (fun b hb hle=> .inr hle)
      have O7:=Ax.Jk HO3.out hk7 hlt
      obtain⟨cells0,OA0⟩:=HO3.out
      have hlt0:∀g',(Value.slice (some ⟨bq,o,none⟩) J.length cv).ownBlock=some g'→g'<w3.heap.size:=fun g' e=>(OA0.1.lt g' e).2
      obtain⟨cells,OA⟩:=Ax.below O7 (show Below w7.heap.size w7 (w7.alloc (.cells #[.int .u64 ((x:Int)+(z.stream+1)),.slice a6 bk.length c6] 151)) from zA)
      have hk8:∀b,w3.heap.size+1≤b→b<w6.heap.size→(w7.alloc (.cells #[.int .u64 ((x:Int)+(z.stream+1)),.slice a6 bk.length c6] 151)).heap[b]? =w6.heap[b]? :=fun b h1 h2=>(Below.heap_alloc w7 _ b (by have:=hb67.size;omega)).trans ((hb7.block b zBs).trans (Below.heap_setCell _ _ _ _ zF))
      have hv8:=AK.keep (w':=(w7.alloc (.cells #[.int .u64 ((x:Int)+(z.stream+1)),.slice a6 bk.length c6] 151))) HV6.out (fun b (hb:(w3.alloc (.cells #[.int .u64 ((x:Int)+(z.stream+1)),.slice none 0 0] 151)).heap.size≤b∧b<w6.heap.size)=>hk8 b (by have:=hb.1;simp at this;omega) hb.2)
      have hx8:Fv.r (fun b=>w.heap.size≤b∧b<(w7.alloc (.cells #[.int .u64 ((x:Int)+(z.stream+1)),.slice a6 bk.length c6] 151)).heap.size∧(Value.slice (some ⟨bq,o,none⟩) J.length cv).ownBlock≠some b) (w7.alloc (.cells #[.int .u64 ((x:Int)+(z.stream+1)),.slice a6 bk.length c6] 151)) [.int .u64 ((x:Int)+(z.stream+1)),.slice a6 bk.length c6] ⟨((x:Int)+(z.stream+1)),bk⟩:=by
       refine FL (x:=⟨((x:Int)+(z.stream+1)),bk⟩) hxb (AK.mono hv8 fun b hb=> ?_)
       have h1:=hb.1
       have h2:=hb.2
       have h3:=hb67.size
       simp at h1
       refine⟨zD,zK,fun e=> ?_⟩
       have:=hlt0 b e
       omega
      have HX:=hid hx8
      have HA:=hid OA
      have HS9:Hid (w.heap.size≤(w7.alloc (.cells #[.int .u64 ((x:Int)+(z.stream+1)),.slice a6 bk.length c6] 151)).heap.size):=hid zK
      clear hx8 hv8 OA OA0 hlt0 hk8 O7 hk7 hb67 hb7 B7 y0 y1 f0 f1 HV6;go_wp2_with (at_builtin;go_loud (refine Aq rfl _ _ _ rfl w.heap.size 151 i0 (.agg #[.int .u64 0,.slice none 0 0]) 2 32 Fk hi hz0 hz1 hz2 rfl zS (.slice (some ⟨bq,o,none⟩) J.length cv) J.length _ rfl HA.out.1 (some ⟨w7.heap.size,0,none⟩) 1 1 [.int .u64 ((x:Int)+(z.stream+1)),.slice a6 bk.length c6] rfl (A9 w7 151 _ rfl rfl rfl) (by intro u hu;simp at hu;rcases hu with rfl | rfl<;>rfl) zQ zD HS9.out ?_;intro v1 w9 hown1 hgrow1 hat1;have OP:=hid (Ax.push HA.out rfl HX.out hown1 hgrow1 hat1 hgrow1.size);have hb9:Below w.heap.size w7 w9:=(Below.grown ((by (repeat (first | with_reducible exact Below.refl _ _ | with_reducible assumption | (with_reducible refine As ?_ _) | (with_reducible refine Below.setCell ?_ zE _) | (with_reducible refine Below.drew ?_) | (with_reducible refine below_drewN ?_ _) | (refine Af zH ?_))):Below w7.heap.size w7 _).mono hsz7) hgrow1 HS9.out (fun g e=>(HA.out.1.lt g e).1));clear hown1 hgrow1 hat1))
      have HIN9:=hid (HIN7.out.row hb9)
      have HJ9:Hid (∀y∈J++[(⟨((x:Int)+(z.stream+1)),bk⟩:Bv)],0≤y.stream∧y.stream≤18446744073709551615):=hid (fun y hy=>by
       rw[BK,Bf] at hy
       rcases hy with hy | rfl
       ·exact hJb.out y hy
       ·exact hxb)
      go_roundw
      case rel=>exact ⟨m+1+1,J++[⟨((x:Int)+(z.stream+1)),bk⟩],s6,zD,ZB,hid (by rw[Ar,hJl.out];rfl),OP.out,HJ9,HIN9,hid (by rw[HSP.out];simp)⟩
      case measure=>simp [intOf];omega
     ·rw[Ak hk6] at hstep
      have HSP:=hid (hsp.out.trans hstep)
      have HG:=hid (fun (W:World) (hW:AQ W g B a s6)=>(by have:=AA W hW;rw[Ad hk6] at this;exact this:Calls Tryz.prog 44 #[.pointer (some ⟨g,0,none⟩)] W fun r w'=>r=.returned (.bool false)∧Below W.heap.size W w'))
      obtain⟨y0,y1,f0,f1,hl6⟩:=CQ BK6
      clear hsp hstep hk6 hv6;go_wp2_with fail;refine (HG.out _ (HIN6.out.row ((by (repeat (first | with_reducible exact Below.refl _ _ | with_reducible assumption | (with_reducible refine As ?_ _) | (with_reducible refine Below.setCell ?_ zE _) | (with_reducible refine Below.drew ?_) | (with_reducible refine below_drewN ?_ _) | (refine Af zH ?_))):Below w3.heap.size w6 _).mono hsz3)).rd).mono ?_
      rintro r w7 ⟨rfl,hb7⟩;have hb67:Below w3.heap.size w6 w7:=(by (repeat (first | with_reducible exact Below.refl _ _ | with_reducible assumption | (with_reducible refine As ?_ _) | (with_reducible refine Below.setCell ?_ zE _) | (with_reducible refine Below.drew ?_) | (with_reducible refine below_drewN ?_ _) | (refine Af zH ?_))):Below w3.heap.size w6 (w6.setCell ⟨w3.heap.size,1,none⟩ (.slice a6 bk.length c6))).trans (hb7.mono zK)
      have HE:=hid (HIN6.out.row (hb67.mono hsz3)).to
      clear hb7;go_wp2;go_ret;rw[HSP.out]
      exact⟨.slice none 0 0,rfl,Ax.G1 (e:=0) (Ai _) Ax.nil,HE.out⟩
  ·obtain rfl:k=N:=by omega
   have hE:=hsp.out
   rw[CS] at hE
   have HSP:Hid (Rs.BX B pos k s1 none []=(st,J)):=hid hE
   have hv:=Ax.G1 (Ai _) hown
   have HV:=hid hv
   have HE:=hid hin.out.to
   clear hE hv hown;go_wp2;go_ret;rw[HSP.out]
   exact⟨_,rfl,HV.out,HE.out⟩
theorem Kz{W W':World}{lo:Nat}{e:TypeId}{sz n:Nat}{v:Value}{xs:List Value}(h:W.ownsRow lo e sz v n xs)(hk:∀b,v.ownBlock=some b→b<W.heap.size→W'.heap[b]? =W.heap[b]?):W'.ownsRow lo e sz v n xs:=by
 refine⟨h.1,?_⟩
 rcases h.2 with h0 | ⟨g',cap,cur,h1,h2,h3,h4⟩
 ·exact .inl h0
 ·exact .inr ⟨g',cap,cur,h1,h2,(hk g' (by rw[h1];rfl) (Blk.lt h3)).trans h3,h4⟩
theorem De{W:World}{lo:Nat}{e:TypeId}{sz n:Nat}{v:Value}{xs:List Value}(h:W.ownsRow lo e sz v n xs):∀b,v.ownBlock=some b→lo≤b∧b<W.heap.size:=by
 intro b hv;rcases h.2 with ⟨rfl,_⟩ | ⟨g,cap,cur,rfl,hb,hg,_⟩
 ·cases hv
 ·have e1:g=b:=by simpa [Value.ownBlock] using hv
  subst e1;exact⟨hb,Blk.lt hg⟩
end Go.Proofs.YtlbffbkbkajciaaGreat
