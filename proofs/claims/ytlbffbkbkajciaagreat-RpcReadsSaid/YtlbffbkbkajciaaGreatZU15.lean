/- Mini: Needed by rpcReads_walk, part 15: texts put together by shake.py; no condition. -/
import Derived.Test.YtlbffbkbkajciaaGreatZU12
import Derived.Test.YtlbffbkbkajciaaGreatZU5
import Derived.Test.YtlbffbkbkajciaaGreatZU3
import Derived.Test.YtlbffbkbkajciaaGreatZU7
import Derived.Test.YtlbffbkbkajciaaGreatZU14
import Derived.Test.YtlbffbkbkajciaaGreatZU11
import Derived.Test.YtlbffbkbkajciaaGreatZU13
import Derived.Test.YtlbffbkbkajciaaGreatZU9
import Derived.Test.YtlbffbkbkajciaaGreatZU4
import Derived.Lib.SlBytesConst
import Derived.Deep.RegionHeld3
import Derived.Deep.AppendLies
import Derived.Deep.RegionLaw
import Derived.Test.YtlbffbkbkajciaaGreatZU6
import Derived.Test.YtlbffbkbkajciaaGreatZU1
import Derived.Test.YtlbffbkbkajciaaGreatZU2
set_option linter.unusedVariables false
set_option linter.unusedSimpArgs false
set_option maxRecDepth 100000
set_option maxHeartbeats 6400000
namespace Go.Bs
theorem zCk{p:Prop}(h:p:=by have := HI6.out.pm; dsimp only [Cf] at this; exact this):p:=h
theorem zA0{p:Prop}(h:p:=by simp [results, Tryz.results126, go_sem, y0, y1, y2, y3, l1]):p:=h
theorem zAa{p:Prop}(h:p:=by have := HI5.out.pm; dsimp only [Cf] at this; exact this):p:=h
theorem ZH{p:Prop}(h:p:=by simp [results, Tryz.results41, go_sem, n0, n1, n2, n3, n4, n5, n6, n7, n8, n9, n10, n11, n12, n13, o0, o1, o2, o3, ln, lo]):p:=h
theorem ZG{p:Prop}(h:p:=by have := HIA.out.pm; dsimp only [Cf] at this; exact this):p:=h
theorem ZC{p:Prop}(h:p:=by have := HI7.out.pm; dsimp only [Cf] at this; exact this):p:=h
abbrev VQ(h:Array Value:=by exact #[.int .i64 k,.int .u64 0,.int .u64 0,.int .u64 x1,.int .i64 x2,.int .i64 x3,.slice b1 L4.length d1,.slice b2 L5.length d2,.slice b3 D.length d3,.int .u64 sea.epoch,.int .u64 sea.node,.int .u64 sea.tail,.int .u64 pj.epoch,.slice b4 pj.stripes.length d4]):=h
end Go.Bs
namespace Go.Proofs.YtlbffbkbkajciaaGreat
open Go.RowKit Go.Bs Go.Maps
variable{B:List UInt8}{m:Msg}{L c:Nat}{a:Option Addr}{s s':Rs}{v1 v2 v3 v4:Value}{W W' w:World}
theorem Rs.RY{most:Int}(h:(s.loose B most).1.k≠0):(s.loose B most).2.1=[]∧(s.loose B most).2.2=false:=by
 unfold Rs.loose at*;by_cases h1:((s.int B (min most 1048576)).1.byte B).1.k=0
 ·rw[An h1] at h ⊢
  by_cases h2:((s.int B (min most 1048576)).1.byte B).2.toNat=0
  ·rw[An h2] at h ⊢
   by_cases h3:(((s.int B (min most 1048576)).1.byte B).1.take B ((s.int B (min most 1048576)).2:Int)).1.k=0
   ·rw[An h3] at h;exact absurd h3 h
   ·rw[Ak h3];exact⟨rfl,rfl⟩
  ·rw[Ak h2] at h ⊢
   by_cases h4:((s.int B (min most 1048576)).1.byte B).2.toNat=1
   ·rw[An h4] at h ⊢
    by_cases h3:(((s.int B (min most 1048576)).1.byte B).1.unp B (s.int B (min most 1048576)).2).1.k=0
    ·rw[An h3] at h;exact absurd h3 h
    ·rw[Ak h3];exact⟨rfl,rfl⟩
   ·rw[Ak h4];exact⟨rfl,rfl⟩
 ·rw[Ak h1];exact⟨rfl,rfl⟩
theorem PF(w:World)(a:Option Addr)(c:Nat)(B:List UInt8)(hl:Ah.r (·<w.heap.size) w [.slice a B.length c] B)(s:Rs)(hs:s.ok B.length)(hB:B.length≤1000000000)(most:Int)(hm: -9223372036854775808≤most∧most≤9223372036854775807):
  Calls Tryz.prog 126 #[CV a B.length c s,.int .i64 most] w fun r w'=>∃v,r=.returned (.tuple #[CV a B.length c (Rs.strict (s.loose B most)).1,v])∧Ah.r (fun q=>w.heap.size≤q∧q<w'.heap.size) w' [v] (Rs.strict (s.loose B most)).2∧Below w.heap.size w w':=by
 have hLS:=hid (fun (W:World) (hW:Below w.heap.size w W)=>Kg W a c B (lift hl hW) s hs hB most hm);have hbad:=Rs.RY (B:=B) (s:=s) (most:=most);unfold Rs.strict;generalize s.loose B most=L at*;obtain⟨s1,D,q⟩:=L;have hF:=hid (fun (W:World)=>Bk W a B.length c s1 12 s1.p zD);dsimp only at*;clear hl hs;unfold CV at*;by_cases hk:s1.k=0
 ·have dk:(s1.k==(0:Int))=true:=by simp[hk]
  rw[An hk];clear hk hbad;cases q
  ·rw[Ak zP]
   dsimp only;generalize s1.fail 12 s1.p=s2 at*;go_enter Tryz.func126,Tryz.ntmps126;go_wp2_with fail;refine (hLS.out _ zA).mono ?_;rintro r w1 ⟨v,rfl,hr,hb⟩;obtain⟨a1,c1,hv,hr2,_⟩:=At hr;simp only[Ai,As] at hv;subst hv;have B1:Blk w1 (w.heap.size+1) 60 #[.slice none 0 0,.int .i64 0,.int .i64 0,.int .i64 0]:=Blk.later zB hb;have hbw:Below w.heap.size w w1:=zA;have HR:=hid hr2;have hz1:=hb.size;simp at hz1;clear hr hr2 hb;go_wp2_with fail;refine (hF.out _).mono ?_;rintro r w2 ⟨rfl,hb2⟩;have B1':=(B1.alloc _).later hb2;have hbw2:Below w.heap.size w w2:=zA;obtain⟨y0,y1,y2,y3,g0,g1,g2,g3,l1⟩:=Aq B1';clear hb2 B1 B1';go_wp2;refine Af (v:=.tuple #[.agg #[.slice a B.length c,.int .i64 (s2.p:Int),.int .i64 s2.k,.int .i64 s2.f],.slice none 0 0]) zA0 rfl ⟨_,rfl,AT rfl rfl zD,zA⟩
  ·rw[An rfl]
   dsimp only;go_enter Tryz.func126,Tryz.ntmps126;go_wp2_with fail;refine (hLS.out _ zA).mono ?_;rintro r w1 ⟨v,rfl,hr,hb⟩;obtain⟨a1,c1,hv,hr2,_⟩:=At hr;simp only[Ai,As] at hv;subst hv;have B1:Blk w1 (w.heap.size+1) 60 #[.slice none 0 0,.int .i64 0,.int .i64 0,.int .i64 0]:=Blk.later zB hb;have hbw:Below w.heap.size w w1:=zA;have HR:=hid hr2;have hz1:=hb.size;simp at hz1;clear hr hr2 hb;obtain⟨y0,y1,y2,y3,g0,g1,g2,g3,l1⟩:=Aq B1;clear B1;go_wp2;refine Af (v:=.tuple #[.agg #[.slice a B.length c,.int .i64 (s1.p:Int),.int .i64 s1.k,.int .i64 s1.f],.slice a1 D.length c1]) zA0 rfl ⟨_,rfl,?_,zA⟩;refine Ah.mono (Ah.keep HR.out fun q hq=> ?_) fun q hq=>⟨ZF,ZD⟩;have hq1:=hq.1;have hq2:=hq.2;simp at hq1;repeat (first | rw[Ap _ _ _ _ zH] | rw[A2 _ _ _ zU])
 ·have dk:(s1.k==(0:Int))=false:=by simp[hk]
  rw[Ak hk];obtain⟨hD,hq⟩:=hbad hk;subst hD;subst hq;dsimp only;clear hk;go_enter Tryz.func126,Tryz.ntmps126;go_wp2_with fail;refine (hLS.out _ zA).mono ?_;rintro r w1 ⟨v,rfl,hr,hb⟩;obtain⟨a1,c1,hv,hr2,_⟩:=At hr;simp only[Ai,As] at hv;subst hv;have B1:Blk w1 (w.heap.size+1) 60 #[.slice none 0 0,.int .i64 0,.int .i64 0,.int .i64 0]:=Blk.later zB hb;have hbw:Below w.heap.size w w1:=zA;have HR:=hid hr2;have hz1:=hb.size;simp at hz1;clear hr hr2 hb;obtain⟨y0,y1,y2,y3,g0,g1,g2,g3,l1⟩:=Aq B1;clear B1;go_wp2;refine Af (v:=.tuple #[.agg #[.slice a B.length c,.int .i64 (s1.p:Int),.int .i64 s1.k,.int .i64 s1.f],.slice a1 ([]:List UInt8).length c1]) zA0 rfl ⟨_,rfl,?_,zA⟩;refine Ah.mono (Ah.keep HR.out fun q hq=> ?_) fun q hq=>⟨ZF,ZD⟩;have hq1:=hq.1;have hq2:=hq.2;simp at hq1;repeat (first | rw[Ap _ _ _ _ zH] | rw[A2 _ _ _ zU])
theorem Rs.QU(hs:s.ok B.length):(s.take B 1).1=(s.byte B).1∧((s.take B 1).2=[(s.byte B).2]∨((s.take B 1).2=[]∧(s.byte B).2=0)):=by
 refine⟨rfl,?_⟩;have hle:=hs.le;unfold Rs.take Rs.byte;dsimp only;by_cases hk:(s.skip B.length 1).1=true
 ·left
  rw[An hk,An hk];have hlt:s.p<B.length:=by
   unfold Rs.skip at hk;split at hk
   ·split at hk
    ·exact absurd hk Bool.false_ne_true
    ·split at hk
     ·exact absurd hk Bool.false_ne_true
     ·omega
   ·exact absurd hk Bool.false_ne_true
  rw[GY B s.p 0 hlt,AO hlt];rfl
 ·right
  rw[Ak hk,Ak hk];exact⟨rfl,rfl⟩
structure G1(w:World)(B:List UInt8)(a:Option Addr)(c:Nat)(m:Msg)(v1 v2 v3 v4:Value)(s:Rs)(W:World):Prop where
 d:Blk W w.heap.size 60 #[.slice a B.length c,.int .i64 (s.p:Int),.int .i64 s.k,.int .i64 s.f]
 r6:Blk W (w.heap.size+1) 60 #[.slice none 0 0,.int .i64 0,.int .i64 0,.int .i64 0]
 r7:Blk W (w.heap.size+1+1) 32 zeroCells
 pm:Blk W (w.heap.size+1+1+1) 32 (Cf m v1 v2 v3 v4)
 ok:s.ok B.length
 bel:Below w.heap.size w W
 low:w.heap.size+1+1+1+1≤W.heap.size
 st:AV.r (fun b=>w.heap.size+1+1+1+1≤b∧b<W.heap.size) W [v1] m.streams
 ln:B6.r (fun b=>w.heap.size+1+1+1+1≤b∧b<W.heap.size) W [v2] m.links
 da:Ah.r (fun b=>w.heap.size+1+1+1+1≤b∧b<W.heap.size) W [v3] m.data
 sp:A3.r (fun b=>w.heap.size+1+1+1+1≤b∧b<W.heap.size) W [v4] m.proj.stripes
theorem G1.later(h:G1 w B a c m v1 v2 v3 v4 s W)(hb:Below W.heap.size W W'):G1 w B a c m v1 v2 v3 v4 s W':=by
 have hk:∀b,w.heap.size+1+1+1+1≤b∧b<W.heap.size→W'.heap[b]? =W.heap[b]? :=fun b hb'=>hb.block b hb'.2;have hm:∀b,w.heap.size+1+1+1+1≤b∧b<W.heap.size→w.heap.size+1+1+1+1≤b∧b<W'.heap.size:=fun b hb'=>⟨hb'.1,Am hb'.2 hb.size⟩;exact⟨h.d.later hb,h.r6.later hb,h.r7.later hb,h.pm.later hb,h.ok,Ag hb h.bel,A4 h.low hb.size,AV.mono (AV.keep h.st hk) hm,B6.mono (B6.keep h.ln hk) hm,Ah.mono (Ah.keep h.da hk) hm,A3.mono (A3.keep h.sp hk) hm⟩
theorem G1.Fw{w:World}{B:List UInt8}{a:Option Addr}{c:Nat}{s:Rs}{W:World}(h:G1 w B a c m v1 v2 v3 v4 s W)(i:Nat)(u:Value){m':Msg}{v1' v2' v3' v4':Value}(hc:(Cf m v1 v2 v3 v4).setIfInBounds i u=Cf m' v1' v2' v3' v4')
 (h1:AV.r (fun b=>w.heap.size+1+1+1+1≤b∧b<W.heap.size) W [v1'] m'.streams) (h2:B6.r (fun b=>w.heap.size+1+1+1+1≤b∧b<W.heap.size) W [v2'] m'.links) (h3:Ah.r (fun b=>w.heap.size+1+1+1+1≤b∧b<W.heap.size) W [v3'] m'.data) (h4:A3.r (fun b=>w.heap.size+1+1+1+1≤b∧b<W.heap.size) W [v4'] m'.proj.stripes):G1 w B a c m' v1' v2' v3' v4' s (W.setCell ⟨w.heap.size+1+1+1,i,none⟩ u):=by
 have hz:(W.setCell ⟨w.heap.size+1+1+1,i,none⟩ u).heap.size=W.heap.size:=size_set _ _ _;have hk:∀b,w.heap.size+1+1+1+1≤b∧b<W.heap.size→(W.setCell ⟨w.heap.size+1+1+1,i,none⟩ u).heap[b]? =W.heap[b]? :=fun b hb=>Ap _ _ _ _ zBn;have hm:∀b,w.heap.size+1+1+1+1≤b∧b<W.heap.size→w.heap.size+1+1+1+1≤b∧b<(W.setCell ⟨w.heap.size+1+1+1,i,none⟩ u).heap.size:=fun b hb=>⟨hb.1,by rw[hz];exact hb.2⟩;refine⟨Blk.far h.d zH _,Blk.far h.r6 zH _,Blk.far h.r7 zH _,?_,h.ok,h.bel.setCell zH _,by rw[hz];exact h.low,AV.mono (AV.keep h1 hk) hm,B6.mono (B6.keep h2 hk) hm,Ah.mono (Ah.keep h3 hk) hm,A3.mono (A3.keep h4 hk) hm⟩;rw[←hc];exact h.pm.set i u
theorem G1.Er(h:G1 w B a c m v1 v2 v3 v4 s W)(ok:s'.ok B.length):G1 w B a c m v1 v2 v3 v4 s' ((((W.setCell ⟨w.heap.size,0,none⟩ (.slice a B.length c)).setCell ⟨w.heap.size,1,none⟩ (.int .i64 (s'.p:Int))).setCell ⟨w.heap.size,2,none⟩ (.int .i64 s'.k)).setCell ⟨w.heap.size,3,none⟩ (.int .i64 s'.f)):=by
 have hz:(((((W.setCell ⟨w.heap.size,0,none⟩ (.slice a B.length c)).setCell ⟨w.heap.size,1,none⟩ (.int .i64 (s'.p:Int))).setCell ⟨w.heap.size,2,none⟩ (.int .i64 s'.k)).setCell ⟨w.heap.size,3,none⟩ (.int .i64 s'.f))).heap.size=W.heap.size:=by rw[size_set,size_set,size_set,size_set]
 have hk:∀b,w.heap.size+1+1+1+1≤b∧b<W.heap.size→(((((W.setCell ⟨w.heap.size,0,none⟩ (.slice a B.length c)).setCell ⟨w.heap.size,1,none⟩ (.int .i64 (s'.p:Int))).setCell ⟨w.heap.size,2,none⟩ (.int .i64 s'.k)).setCell ⟨w.heap.size,3,none⟩ (.int .i64 s'.f))).heap[b]? =W.heap[b]? :=fun b hb=>by
  have:=hb.1;repeat rw[Ap _ _ _ _ zH]
 have hm:∀b,w.heap.size+1+1+1+1≤b∧b<W.heap.size→w.heap.size+1+1+1+1≤b∧b<(((((W.setCell ⟨w.heap.size,0,none⟩ (.slice a B.length c)).setCell ⟨w.heap.size,1,none⟩ (.int .i64 (s'.p:Int))).setCell ⟨w.heap.size,2,none⟩ (.int .i64 s'.k)).setCell ⟨w.heap.size,3,none⟩ (.int .i64 s'.f))).heap.size:=fun b hb=>⟨hb.1,by rw[hz];exact hb.2⟩;exact⟨(((h.d.set 0 _).set 1 _).set 2 _).set 3 _,Blk.far (Blk.far (Blk.far (Blk.far h.r6 zH _) zH _) zH _) zH _,Blk.far (Blk.far (Blk.far (Blk.far h.r7 zH _) zH _) zH _) zH _,Blk.far (Blk.far (Blk.far (Blk.far h.pm zH _) zH _) zH _) zH _,ok,(((h.bel.setCell zH _).setCell zH _).setCell zH _).setCell zH _,by rw[hz];exact h.low,AV.mono (AV.keep h.st hk) hm,B6.mono (B6.keep h.ln hk) hm,Ah.mono (Ah.keep h.da hk) hm,A3.mono (A3.keep h.sp hk) hm⟩
theorem Hn{w W:World}{α:Type}{A:Rp α}{cs:List Value}{x:α}(h:A.r (fun b=>w.heap.size+1+1+1+1≤b∧b<W.heap.size) W cs x):A.r (fun b=>w.heap.size+1+1+1+1≤b∧b<(((((W.setCell ⟨w.heap.size,0,none⟩ (.slice a B.length c)).setCell ⟨w.heap.size,1,none⟩ (.int .i64 (s'.p:Int))).setCell ⟨w.heap.size,2,none⟩ (.int .i64 s'.k)).setCell ⟨w.heap.size,3,none⟩ (.int .i64 s'.f))).heap.size) ((((W.setCell ⟨w.heap.size,0,none⟩ (.slice a B.length c)).setCell ⟨w.heap.size,1,none⟩ (.int .i64 (s'.p:Int))).setCell ⟨w.heap.size,2,none⟩ (.int .i64 s'.k)).setCell ⟨w.heap.size,3,none⟩ (.int .i64 s'.f)) cs x:=
 A.mono (A.keep h fun b hb=>by
  have:=hb.1;repeat rw[Ap _ _ _ _ zH]) fun b hb=>⟨hb.1,by rw[size_set,size_set,size_set,size_set];exact hb.2⟩
theorem TW{t:Rs}(h:t.ok B.length):(CG B t).1.ok B.length:=by
 unfold CG Rs.strict;dsimp only;split
 ·split
  ·exact Rs.Fk h 1048576
  ·exact Rs.BH (Rs.Fk h 1048576) zD
 ·exact Rs.Fk h 1048576
theorem Pu(w:World)(a:Option Addr)(c:Nat)(B:List UInt8)(hl:Ah.r (·<w.heap.size) w [.slice a B.length c] B)(s:Rs)(hs:s.ok B.length)(hB:B.length≤1000000000)(k:Int)(strict:Bool)(blk:Rs→Rs × List UInt8 × Bool)(hblk:blk=if strict then CG B else DB B):
  Calls Tryz.prog 41 #[CV a B.length c s,.int .i64 k,.bool strict] w fun r w'=>∃v1 v2 v3 v4,r=.returned (.tuple #[CV a B.length c (s.body B blk k).1,.agg (Cf (s.body B blk k).2.1 v1 v2 v3 v4),.bool (s.body B blk k).2.2])∧
   (AV.r (CO w w') w' [v1] (s.body B blk k).2.1.streams∧B6.r (CO w w') w' [v2] (s.body B blk k).2.1.links∧Ah.r (CO w w') w' [v3] (s.body B blk k).2.1.data∧A3.r (CO w w') w' [v4] (s.body B blk k).2.1.proj.stripes)∧Below w.heap.size w w':=by
 have HL:=hid hl;by_cases hkr:1≤k∧k≤14
 ·have d1:decide (k<1)=false:=Ad zD
  have d2:decide (14<k)=false:=Ad zD;unfold Rs.body Rs.ahead;rw[An hkr];dsimp only;have hpu:=Ti (B:=B) (s:=s) (h:=AM k 1);have o1:=Rs.Dl (h:=AM k 1) (z:=(0:Int)) hs (Rs.Tb hs);generalize hP1:Rs.part (AM k 1) s (Rs.Gy B) 0=P1 at*;obtain⟨s1,x1⟩:=P1;dsimp only at*;have o2:=Rs.Dl (h:=AM k 2) (z:=(0:Int)) o1 (Rs.TQ o1);generalize hP2:Rs.part (AM k 2) s1 (Rs.cnt B) 0=P2 at*;obtain⟨s2,x2⟩:=P2;dsimp only at*;have o3:=Rs.Dl (h:=AM k 4) (z:=(0:Int)) o2 (Rs.SJ (k:=k) o2);generalize hP3:Rs.part (AM k 4) s2 (Rs.stt B k) 0=P3 at*;obtain⟨s3,x3⟩:=P3;dsimp only at*;have o4:=Rs.Dl (h:=AM k 8) (z:=([]:List Int)) o3 (Rs.QV o3);generalize hP4:Rs.part (AM k 8) s3 (Rs.IC B) []=P4 at*;obtain⟨s4,L4⟩:=P4;dsimp only at*;have o5:=Rs.Dl (h:=AM k 16) (f:=fun t=>t.links B x1) (z:=([]:List BS)) o4 (Rs.Ol (B:=B) (pos:=x1) o4);generalize hP5:Rs.part (AM k 16) s4 (fun t=>t.links B x1) []=P5 at*;obtain⟨s5,L5⟩:=P5;dsimp only at*;have ob:(blk s5).1.ok B.length:=by
   rw[hblk];cases strict
   ·exact Rs.Fk o5 1048576
   ·exact TW o5
  have o6:=Rs.Dl (h:=Ch k x3) (z:=(([],true):List UInt8 × Bool)) o5 ob;generalize hP6:Rs.part (Ch k x3) s5 blk ([],true)=P6 at*;obtain⟨s6,D,fl⟩:=P6;dsimp only at*;have o7:=Rs.Dl (h:=AM k 64) (z:=BE) o6 (Rs.Q8 o6);generalize hP7:Rs.part (AM k 64) s6 (Rs.seal_ B) BE=P7 at*;obtain⟨s7,sea⟩:=P7;dsimp only at*;have o8:=Rs.Dl (h:=AM k 128) (z:=Bx) o7 (Rs.Rb o7);generalize hP8:Rs.part (AM k 128) s7 (Rs.Du B) Bx=P8 at*;obtain⟨s8,pj⟩:=P8;dsimp only at*;generalize hRS:(if s8.k=0 then (s8,(⟨k,0,0,x1,x2,x3,L4,L5,D,sea,pj⟩:Msg),fl) else (s8,C7,false))=RES;have HRS:=hid hRS;have HP1:=hid hP1;have HP2:=hid hP2;have HP3:=hid hP3;have HP4:=hid hP4;have HP5:=hid hP5;have HP6:=hid hP6;have HP7:=hid hP7;have HP8:=hid hP8;have HBLK:=hid hblk;have HOS:=hid hs;have HO1:=hid o1;have HO2:=hid o2;have HO3:=hid o3;have HO4:=hid o4;have HO5:=hid o5;have HO6:=hid o6;have HO7:=hid o7;have HO8:=hid o8;clear hP1 hP2 hP3 hP4 hP5 hP6 hP7 hP8 hkr hRS hblk ob hs o1 o2 o3 o4 o5 o6 o7 o8;have hbW:Below w.heap.size w ((((w.alloc (.cells #[.slice a B.length c,.int .i64 (s.p:Int),.int .i64 s.k,.int .i64 s.f] 60)).alloc (.cells #[.slice none 0 0,.int .i64 0,.int .i64 0,.int .i64 0] 60)).alloc (.cells Vz 32)).alloc (.cells VM 32)):=zA;have hI0:G1 w B a c ⟨k,0,0,0,0,0,[],[],[],BE,Bx⟩ (.slice none 0 0) (.slice none 0 0) (.slice none 0 0) (.slice none 0 0) s ((((w.alloc (.cells #[.slice a B.length c,.int .i64 (s.p:Int),.int .i64 s.k,.int .i64 s.f] 60)).alloc (.cells #[.slice none 0 0,.int .i64 0,.int .i64 0,.int .i64 0] 60)).alloc (.cells Vz 32)).alloc (.cells VM 32)):=
   ⟨zB,zB,zB,zB,HOS.out,hbW,zP,AZ (xs:=[]) rfl (Aj _) (Ao _) (.inl rfl),AZ (xs:=[]) rfl (Aj _) (Ao _) (.inl rfl),Et,AZ (xs:=[]) rfl (Aj _) (Ao _) (.inl rfl)⟩
  have HI0:=hid hI0;clear hI0 hbW;unfold CV at*;go_enter Tryz.func41,Tryz.ntmps41;go_wp2_with fail;generalize ((((w.alloc (.cells #[.slice a B.length c,.int .i64 (s.p:Int),.int .i64 s.k,.int .i64 s.f] 60)).alloc (.cells #[.slice none 0 0,.int .i64 0,.int .i64 0,.int .i64 0] 60)).alloc (.cells Vz 32)).alloc (.cells VM 32))=w1 at*;have HH:=hid (EU k 1 zW w1);go_wp2_with fail;refine HH.out.mono ?_;rintro r wa ⟨rfl,hba⟩;have HIA:=hid (HI0.out.later hba);clear hba HH;go_upto_if 31 with (fail);go_cut [] from 30 to 37 (fun V=>Hid (G1 w B a c ⟨k,0,0,x1,0,0,[],[],[],BE,Bx⟩ (.slice none 0 0) (.slice none 0 0) (.slice none 0 0) (.slice none 0 0) s1 V))
  case first=>
   have hq:=HP1.out;cases hH:AM k 1
   ·rw[hH] at hq
    have hq2:(s,(0:Int))=(s1,x1):=hq;cases hq2;clear hq hH;go_wp2_with fail;go_meet
    case rel=>exact HIA
   ·rw[hH] at hq
    have hq2:s.Gy B=(s1,x1):=hq;clear hq hH;have e1:(s.po B).1=s1:=Cs Prod.fst hq2;have e2:(((s.po B).2:Nat):Int)=x1:=Cs Prod.snd hq2;have HC:=hid (SX wa a c B (lift HL.out HIA.out.bel) s HOS.out zD);unfold CV at HC;rw[e1,e2] at HC;clear hq2 e1 e2;obtain⟨cx0,cx1,cx2,cx3,g0,g1,g2,g3,ld⟩:=Aq HIA.out.d;obtain⟨y0,y1,y2,y3,y4,y5,y6,y7,y8,y9,y10,y11,y12,y13,lm⟩:=AJ ZG;obtain⟨f0,f1,f2,f3,f4,f5,f6,f7,f8,f9,f10,f11,f12,f13⟩:=Be HIA.out.pm;go_wp2_with fail;refine HC.out.mono ?_;rintro r w5 ⟨rfl,hb5⟩;have HI5:=hid (HIA.out.later hb5);clear cx0 cx1 cx2 cx3 g0 g1 g2 g3 ld y0 y1 y2 y3 y4 y5 y6 y7 y8 y9 y10 y11 y12 y13 lm f0 f1 f2 f3 f4 f5 f6 f7 f8 f9 f10 f11 f12 f13;clear hb5;obtain⟨cx0,cx1,cx2,cx3,g0,g1,g2,g3,ld⟩:=Aq HI5.out.d;obtain⟨y0,y1,y2,y3,y4,y5,y6,y7,y8,y9,y10,y11,y12,y13,lm⟩:=AJ zAa;obtain⟨f0,f1,f2,f3,f4,f5,f6,f7,f8,f9,f10,f11,f12,f13⟩:=Be HI5.out.pm;go_wp2_with fail;go_meet
    case rel=>exact hid ((HI5.out.Er HO1.out).Fw 3 _ zJ (HI5.out.Er HO1.out).st (HI5.out.Er HO1.out).ln (HI5.out.Er HO1.out).da (HI5.out.Er HO1.out).sp)
  case rest=>
  have HI1:=hid hcut.out;obtain⟨wp1,hwn⟩:∃W:World,W=wc:=⟨_,rfl⟩;subst hwn;have HH:=hid (EU k 2 zW wp1);go_wp2_with fail;refine HH.out.mono ?_;rintro r wa ⟨rfl,hba⟩;have HIA:=hid (HI1.out.later hba);clear hba HH;go_upto_if 39 with (fail);go_cut [] from 38 to 53 (fun V=>Hid (G1 w B a c ⟨k,0,0,x1,x2,0,[],[],[],BE,Bx⟩ (.slice none 0 0) (.slice none 0 0) (.slice none 0 0) (.slice none 0 0) s2 V))
  case first=>
   have hq:=HP2.out;cases hH:AM k 2
   ·rw[hH] at hq
    have hq2:(s1,(0:Int))=(s2,x2):=hq;cases hq2;clear hq hH;go_wp2_with fail;go_meet
    case rel=>exact HIA
   ·rw[hH] at hq
    have hq2:s1.cnt B=(s2,x2):=hq;clear hq hH;have hmk:(if (s1.int B 65536).2=0 then (s1.int B 65536).1.fail 3 s1.p else (s1.int B 65536).1)=s2:=Cs Prod.fst hq2;have e2:(((s1.int B 65536).2:Nat):Int)=x2:=Cs Prod.snd hq2;have oki:=Rs.Eh (B:=B) (m:=65536) HO1.out;have HC:=hid (Ex wa a c B (lift HL.out HIA.out.bel) s1 HO1.out zD 65536 zD);generalize s1.int B 65536=I at*;obtain⟨t1,n⟩:=I;dsimp only at*;subst e2;have HMK:=hid hmk;have HOKI:=hid oki;unfold CV at HC;clear hq2 hmk oki;obtain⟨cx0,cx1,cx2,cx3,g0,g1,g2,g3,ld⟩:=Aq HIA.out.d;obtain⟨y0,y1,y2,y3,y4,y5,y6,y7,y8,y9,y10,y11,y12,y13,lm⟩:=AJ ZG;obtain⟨f0,f1,f2,f3,f4,f5,f6,f7,f8,f9,f10,f11,f12,f13⟩:=Be HIA.out.pm;go_wp2_with fail;refine HC.out.mono ?_;rintro r w5 ⟨rfl,hb5⟩;have HI5:=hid (HIA.out.later hb5);clear cx0 cx1 cx2 cx3 g0 g1 g2 g3 ld y0 y1 y2 y3 y4 y5 y6 y7 y8 y9 y10 y11 y12 y13 lm f0 f1 f2 f3 f4 f5 f6 f7 f8 f9 f10 f11 f12 f13;clear hb5;obtain⟨cx0,cx1,cx2,cx3,g0,g1,g2,g3,ld⟩:=Aq HI5.out.d;obtain⟨y0,y1,y2,y3,y4,y5,y6,y7,y8,y9,y10,y11,y12,y13,lm⟩:=AJ zAa;obtain⟨f0,f1,f2,f3,f4,f5,f6,f7,f8,f9,f10,f11,f12,f13⟩:=Be HI5.out.pm;go_upto_region 10 with (fail);have HI6:=hid ((HI5.out.Er HOKI.out).Fw 4 (.int .i64 (n:Int)) (m':=⟨k,0,0,x1,(n:Int),0,[],[],[],BE,Bx⟩) (v1':=(.slice none 0 0)) (v2':=(.slice none 0 0)) (v3':=(.slice none 0 0)) (v4':=(.slice none 0 0)) zJ (HI5.out.Er HOKI.out).st (HI5.out.Er HOKI.out).ln (HI5.out.Er HOKI.out).da (HI5.out.Er HOKI.out).sp);generalize (((((w5.setCell ⟨w.heap.size,0,none⟩ (.slice a B.length c)).setCell ⟨w.heap.size,1,none⟩ (.int .i64 (t1.p:Int))).setCell ⟨w.heap.size,2,none⟩ (.int .i64 t1.k)).setCell ⟨w.heap.size,3,none⟩ (.int .i64 t1.f)).setCell ⟨w.heap.size+1+1+1,4,none⟩ (.int .i64 (n:Int)))=w6 at*;clear cx0 cx1 cx2 cx3 g0 g1 g2 g3 ld y0 y1 y2 y3 y4 y5 y6 y7 y8 y9 y10 y11 y12 y13 lm f0 f1 f2 f3 f4 f5 f6 f7 f8 f9 f10 f11 f12 f13;obtain⟨cx0,cx1,cx2,cx3,g0,g1,g2,g3,ld⟩:=Aq HI6.out.d;obtain⟨y0,y1,y2,y3,y4,y5,y6,y7,y8,y9,y10,y11,y12,y13,lm⟩:=AJ zCk;obtain⟨f0,f1,f2,f3,f4,f5,f6,f7,f8,f9,f10,f11,f12,f13⟩:=Be HI6.out.pm;by_cases hn:n=0
    ·have d5:((n:Int)==0)=true:=by simp[hn]
     have HF:=hid (fun (V:World)=>(by have:=Bk V a B.length c t1 3 (s1.p:Int) zD;unfold CV at this;exact this:Calls Tryz.prog 120 #[.agg #[.slice a B.length c,.int .i64 (t1.p:Int),.int .i64 t1.k,.int .i64 t1.f],.int .i64 3,.int .i64 (s1.p:Int)] V fun r w'=>r=.returned (.agg #[.slice a B.length c,.int .i64 ((t1.fail 3 (s1.p:Int)).p:Int),.int .i64 (t1.fail 3 (s1.p:Int)).k,.int .i64 (t1.fail 3 (s1.p:Int)).f])∧Below V.heap.size V w'));have he:=HMK.out;rw[An hn] at he;rw[he] at HF;clear hn he;go_wp2_with fail;refine (HF.out _).mono ?_;rintro r w7 ⟨rfl,hb7⟩;have HI7:=hid (HI6.out.later hb7);clear cx0 cx1 cx2 cx3 g0 g1 g2 g3 ld y0 y1 y2 y3 y4 y5 y6 y7 y8 y9 y10 y11 y12 y13 lm f0 f1 f2 f3 f4 f5 f6 f7 f8 f9 f10 f11 f12 f13;clear hb7;obtain⟨cx0,cx1,cx2,cx3,g0,g1,g2,g3,ld⟩:=Aq HI7.out.d;obtain⟨y0,y1,y2,y3,y4,y5,y6,y7,y8,y9,y10,y11,y12,y13,lm⟩:=AJ ZC;obtain⟨f0,f1,f2,f3,f4,f5,f6,f7,f8,f9,f10,f11,f12,f13⟩:=Be HI7.out.pm;go_wp2_with fail;go_meet
     case rel=>exact hid (HI7.out.Er HO2.out)
    ·have d5:((n:Int)==0)=false:=by simp[hn]
     have he:=HMK.out;rw[Ak hn] at he;subst he;clear hn;go_wp2_with fail;go_meet
     case rel=>exact HI6
  case rest=>
  have HI2:=hid hcut.out;obtain⟨wp2,hwn⟩:∃W:World,W=wc:=⟨_,rfl⟩;subst hwn;have HH:=hid (EU k 4 zW wp2);go_wp2_with fail;refine HH.out.mono ?_;rintro r wa ⟨rfl,hba⟩;have HIA:=hid (HI2.out.later hba);clear hba HH;go_upto_if 55 with (fail);go_cut [] from 54 to 84 (fun V=>Hid (G1 w B a c ⟨k,0,0,x1,x2,x3,[],[],[],BE,Bx⟩ (.slice none 0 0) (.slice none 0 0) (.slice none 0 0) (.slice none 0 0) s3 V))
  case first=>
   have hq:=HP3.out;cases hH:AM k 4
   ·rw[hH] at hq
    have hq2:(s2,(0:Int))=(s3,x3):=hq;cases hq2;clear hq hH;go_wp2_with fail;go_meet
    case rel=>exact HIA
   ·rw[hH] at hq
    have hq2:s2.stt B k=(s3,x3):=hq;clear hq hH;have oki:=Rs.Gl (B:=B) HO2.out;have hb8:(s2.byte B).2.toNat<256:=(s2.byte B).2.toNat_lt;obtain⟨k1,k2⟩:=Rs.QU (B:=B) HO2.out;have HC:=hid (Es wa a c B (lift HL.out HIA.out.bel) s2 HO2.out 1 zD zD);unfold Rs.stt at hq2;generalize s2.take B 1=TK at*;obtain⟨t1,l1⟩:=TK;generalize s2.byte B=BY at*;obtain⟨t2,cc⟩:=BY;dsimp only at*;subst k1;have hst:(if 1≤(cc.toNat:Int)∧(cc.toNat:Int)≤Dn k then t1 else t1.fail 3 s2.p)=s3:=Cs Prod.fst hq2;have e2:(cc.toNat:Int)=x3:=Cs Prod.snd hq2;have HMK:=hid hst;have HOKI:=hid oki;have HMO:=hid (fun (V:World)=>Pv k V);unfold CV at HC;clear hq2 hst oki;obtain⟨cx0,cx1,cx2,cx3,g0,g1,g2,g3,ld⟩:=Aq HIA.out.d;obtain⟨y0,y1,y2,y3,y4,y5,y6,y7,y8,y9,y10,y11,y12,y13,lm⟩:=AJ ZG;obtain⟨f0,f1,f2,f3,f4,f5,f6,f7,f8,f9,f10,f11,f12,f13⟩:=Be HIA.out.pm;go_wp2_with fail;refine HC.out.mono ?_;rintro r w5 ⟨v5,rfl,hv5,hb5⟩;obtain⟨a5,c5,hfv,_,_⟩:=At hv5;simp only[Ai,As] at hfv;subst hfv;have HI5:=hid (HIA.out.later hb5);have HV5:=hid hv5;clear cx0 cx1 cx2 cx3 g0 g1 g2 g3 ld y0 y1 y2 y3 y4 y5 y6 y7 y8 y9 y10 y11 y12 y13 lm f0 f1 f2 f3 f4 f5 f6 f7 f8 f9 f10 f11 f12 f13;clear hb5 hv5;have E5:Blk (w5.alloc (.cells #[.slice a B.length c,.int .i64 (t1.p:Int),.int .i64 t1.k,.int .i64 t1.f] 60)) w5.heap.size 60 #[.slice a B.length c,.int .i64 (t1.p:Int),.int .i64 t1.k,.int .i64 t1.f]:=Blk.newAt _ _ _ rfl;have hb6:Below w5.heap.size w5 (w5.alloc (.cells #[.slice a B.length c,.int .i64 (t1.p:Int),.int .i64 t1.k,.int .i64 t1.f] 60)):=zA;have HI6:=hid (HI5.out.later hb6);have HV6:=hid (Ah.keep HV5.out fun b hb=>hb6.block b hb.2);obtain⟨z0,z1,z2,z3,_,_,_,_,_⟩:=Aq E5;clear hb6 E5;obtain⟨cx0,cx1,cx2,cx3,g0,g1,g2,g3,ld⟩:=Aq HI6.out.d;obtain⟨y0,y1,y2,y3,y4,y5,y6,y7,y8,y9,y10,y11,y12,y13,lm⟩:=AJ zCk;obtain⟨f0,f1,f2,f3,f4,f5,f6,f7,f8,f9,f10,f11,f12,f13⟩:=Be HI6.out.pm;have l5:=HI5.out.low;go_upto_region 16 with (fail);have HI7:=hid (HI6.out.Er HOKI.out);have HV7:=hid (show Ah.r (fun q=>wa.heap.size≤q∧q<w5.heap.size) (((((w5.alloc (.cells #[.slice a B.length c,.int .i64 (t1.p:Int),.int .i64 t1.k,.int .i64 t1.f] 60)).setCell ⟨w.heap.size,0,none⟩ (.slice a B.length c)).setCell ⟨w.heap.size,1,none⟩ (.int .i64 (t1.p:Int))).setCell ⟨w.heap.size,2,none⟩ (.int .i64 t1.k)).setCell ⟨w.heap.size,3,none⟩ (.int .i64 t1.f)) [.slice a5 l1.length c5] l1 from Ah.keep HV6.out fun b hb=>by
     have:=hb.1;have:=HIA.out.low;repeat rw[Ap _ _ _ _ zH])
    generalize (((((w5.alloc (.cells #[.slice a B.length c,.int .i64 (t1.p:Int),.int .i64 t1.k,.int .i64 t1.f] 60)).setCell ⟨w.heap.size,0,none⟩ (.slice a B.length c)).setCell ⟨w.heap.size,1,none⟩ (.int .i64 (t1.p:Int))).setCell ⟨w.heap.size,2,none⟩ (.int .i64 t1.k)).setCell ⟨w.heap.size,3,none⟩ (.int .i64 t1.f))=w7 at*;clear cx0 cx1 cx2 cx3 g0 g1 g2 g3 ld y0 y1 y2 y3 y4 y5 y6 y7 y8 y9 y10 y11 y12 y13 lm f0 f1 f2 f3 f4 f5 f6 f7 f8 f9 f10 f11 f12 f13;clear z0 z1 z2 z3;obtain⟨cx0,cx1,cx2,cx3,g0,g1,g2,g3,ld⟩:=Aq HI7.out.d;obtain⟨y0,y1,y2,y3,y4,y5,y6,y7,y8,y9,y10,y11,y12,y13,lm⟩:=AJ ZC;obtain⟨f0,f1,f2,f3,f4,f5,f6,f7,f8,f9,f10,f11,f12,f13⟩:=Be HI7.out.pm;go_cut [66] from 64 to 65 (fun v V=>v=.bool (decide (l1.length=1))∧Hid (V=w7))
    case first=>
     have hlq:((l1.length:Int)==1)=decide (l1.length=1):=by
      rw[ED];simp;omega
     have HLQ:=hid hlq;clear hlq;go_wp2_with fail;go_meet
     case rel=>exact ⟨Cs Value.bool HLQ.out,hid rfl⟩
    case rest=>
    obtain⟨rfl,hV⟩:=hcut;have hV':=hV.out.symm;subst hV';go_upto_if 66 with (fail);go_cut [] from 67 to 71 (fun V=>Hid (G1 w B a c ⟨k,0,0,x1,x2,x3,[],[],[],BE,Bx⟩ (.slice none 0 0) (.slice none 0 0) (.slice none 0 0) (.slice none 0 0) t1 V))
    case first=>
     rcases k2 with e | ⟨e,e3⟩
     ·subst e
      obtain⟨bq,oq,rfl,hbq,hc⟩:=Bt HV7.out (i:=0) zP;simp only[Az,CE] at hc;have HE2:=hid e2;generalize cc.toNat=nn at*;have w1':(-9223372036854775808:Int)≤(nn:Int):=zD;have w2':(nn:Int)≤9223372036854775807:=zD;clear e2;rw[show decide ([cc].length=1)=true from rfl];simp only[List.length_singleton] at*;go_wp2_with fail;go_meet
      case rel=>exact hid (by rw[←HE2.out];exact HI7.out.Fw 5 _ (by first | (simp only[Cf,Aa,Ab,Ac];done) | (simp only[Cf,Aa,Ab,Ac];rfl)) HI7.out.st HI7.out.ln HI7.out.da HI7.out.sp)
     ·subst e e3
      have e4:x3=0:=by rw[←e2];rfl
      subst e4;rw[show decide (([]:List UInt8).length=1)=false from rfl];go_wp2_with fail;go_meet
      case rel=>exact HI7
    case rest=>
    have HI8:=hid hcut.out;obtain⟨w8,hwn⟩:∃W:World,W=wc:=⟨_,rfl⟩;subst hwn;clear cx0 cx1 cx2 cx3 g0 g1 g2 g3 ld y0 y1 y2 y3 y4 y5 y6 y7 y8 y9 y10 y11 y12 y13 lm f0 f1 f2 f3 f4 f5 f6 f7 f8 f9 f10 f11 f12 f13;have m8:w8.cell? ⟨w.heap.size+1+1+1,5,none⟩=some (.int .i64 x3):=HI8.out.pm.cell 5;rw[e2] at HMK;have R8:∃R:Bool,R=decide (x3<1∨Dn k<x3):=⟨_,rfl⟩;obtain⟨R,hR⟩:=R8;have HR:=hid hR;clear hR k2;go_upto_region 18 with (fail);go_cut [81] from 72 to 80 (fun v V=>v=.bool R∧Hid (Below w8.heap.size w8 V))
    case first=>
     by_cases h1:x3<1
     ·have d1':decide (x3<1)=true:=Ae h1
      have hr:R=true:=by rw[HR.out];exact Ae (.inl h1)
      have HR2:=hid hr;clear hr h1;refine AW (S:=fun w'=>w'.cell? ⟨w.heap.size+1+1+1,5,none⟩=some (.int .i64 x3)) zL m8 (fun hHeld=> ?_);refine Al (i:=0) (oi:=_) (v:=?_) rfl zG zG zG (fun _ _ _ h=>h) (Or.inl ⟨zT,?_⟩) zN ?_;rotate_left
      ·(intro w hSw;(try dsimp only at hSw);go_simp<;>with_reducible rfl)
      (try simp only[Act.put,Aa,Ab,Ac])
      refine Al (i:=1) (oi:=_) (v:=?_) rfl zG zG zG (fun _ _ _ h=>h) (Or.inl ⟨zT,?_⟩) zN ?_;rotate_left
      ·(intro w hSw;(try dsimp only at hSw);go_simp<;>with_reducible rfl)
      (try simp only[Act.put,Aa,Ab,Ac])
      refine Al (i:=2) (oi:=_) (v:=?_) rfl zG zG zG (fun _ _ _ h=>h) (Or.inl ⟨zT,?_⟩) zN ?_;rotate_left
      ·(intro w hSw;(try dsimp only at hSw);go_simp<;>with_reducible rfl)
      (try simp only[Act.put,Aa,Ab,Ac])
      refine Al (i:=3) (oi:=_) (v:=?_) rfl zG zG zG (fun _ _ _ h=>h) (Or.inl ⟨zT,?_⟩) zN ?_;rotate_left
      ·(intro w hSw;(try dsimp only at hSw);go_simp<;>with_reducible rfl)
      (try simp only[Act.put,Aa,Ab,Ac])
      refine Al (i:=4) (oi:=_) (v:=undef) rfl zG zG zG (fun _ _ _ h=>h) (Or.inr ⟨zL,rfl⟩) zN ?_
      (try simp only[Act.put,Aa,Ab,Ac])
      refine Al (i:=5) (oi:=_) (v:=undef) rfl zG zG zG (fun _ _ _ h=>h) (Or.inr ⟨zL,rfl⟩) zN ?_
      (try simp only[Act.put,Aa,Ab,Ac])
      refine Al (i:=6) (oi:=_) (v:=undef) rfl zG zG zG (fun _ _ _ h=>h) (Or.inr ⟨zL,rfl⟩) zN ?_
      (try simp only[Act.put,Aa,Ab,Ac])
      refine Al (i:=7) (oi:=_) (v:=undef) rfl zG zG zG (fun _ _ _ h=>h) (Or.inr ⟨zL,rfl⟩) zN ?_
      (try simp only[Act.put,Aa,Ab,Ac])
      refine Al (i:=8) (oi:=_) (v:=undef) rfl zG zG zG (fun _ _ _ h=>h) (Or.inr ⟨zL,rfl⟩) zN ?_
      (try simp only[Act.put,Aa,Ab,Ac])
      refine Al (i:=9) (oi:=_) (v:=?_) rfl zG zG zG (fun _ _ _ h=>h) (Or.inl ⟨zT,?_⟩) zN ?_;rotate_left
      ·(intro w hSw;(try dsimp only at hSw);go_simp<;>with_reducible rfl)
      (try simp only[Act.put,Aa,Ab,Ac])
      (try simp only[AE,Az,AA,Act.put,Aa,Ab,Ac])
      refine Bp zL ?_ _;go_wp2_with fail;go_meet
      case rel=>exact ⟨Cs Value.bool HR2.out.symm,hid ((Below.refl _ _).drew)⟩
     ·have d1':decide (x3<1)=false:=Ad h1
      have hr:R=decide (Dn k<x3):=by rw[HR.out];exact decide_eq_decide.2 ⟨fun e=>e.resolve_left h1,fun e=> .inr e⟩
      have HR2:=hid hr;clear hr h1;refine AW (S:=fun w'=>w'.cell? ⟨w.heap.size+1+1+1,5,none⟩=some (.int .i64 x3)) zL m8 (fun hHeld=> ?_);refine Al (i:=0) (oi:=_) (v:=?_) rfl zG zG zG (fun _ _ _ h=>h) (Or.inl ⟨zT,?_⟩) zN ?_;rotate_left
      ·(intro w hSw;(try dsimp only at hSw);go_simp<;>with_reducible rfl)
      (try simp only[Act.put,Aa,Ab,Ac])
      refine Al (i:=1) (oi:=_) (v:=?_) rfl zG zG zG (fun _ _ _ h=>h) (Or.inl ⟨zT,?_⟩) zN ?_;rotate_left
      ·(intro w hSw;(try dsimp only at hSw);go_simp<;>with_reducible rfl)
      (try simp only[Act.put,Aa,Ab,Ac])
      refine Al (i:=2) (oi:=_) (v:=?_) rfl zG zG zG (fun _ _ _ h=>h) (Or.inl ⟨zT,?_⟩) zN ?_;rotate_left
      ·(intro w hSw;(try dsimp only at hSw);go_simp<;>with_reducible rfl)
      (try simp only[Act.put,Aa,Ab,Ac])
      refine Al (i:=3) (oi:=_) (v:=?_) rfl zG zG zG (fun _ _ _ h=>h) (Or.inl ⟨zT,?_⟩) zN ?_;rotate_left
      ·(intro w hSw;(try dsimp only at hSw);go_simp<;>with_reducible rfl)
      (try simp only[Act.put,Aa,Ab,Ac])
      refine Al (i:=4) (oi:=_) (v:=?_) rfl zG zG zG (fun _ _ _ h=>h) (Or.inl ⟨zL,?_⟩) zN ?_;rotate_left
      ·(intro w hSw;(try dsimp only at hSw);go_simp<;>with_reducible rfl)
      (try simp only[Act.put,Aa,Ab,Ac])
      refine Al (i:=5) (oi:=_) (v:=?_) rfl zG zG zG (fun _ _ _ h=>h) (Or.inl ⟨zL,?_⟩) zN ?_;rotate_left
      ·(intro w hSw;(try dsimp only at hSw);go_simp<;>with_reducible rfl)
      (try simp only[Act.put,Aa,Ab,Ac])
      refine Al (i:=6) (oi:=_) (v:=?_) rfl zG zG zG (fun _ _ _ h=>h) (Or.inl ⟨zL,?_⟩) zN ?_;rotate_left
      ·(intro w hSw;(try dsimp only at hSw);go_simp<;>with_reducible rfl)
      (try simp only[Act.put,Aa,Ab,Ac])
      (try simp only[AE,Az,AA,Act.put,Aa,Ab,Ac])
      refine AF (rs:=[7]) zG zP ?_;refine Ax (o:=_) rfl (fun K hK=> ?_) AllReadyH.nil
      (go_simp;go_at_call 90;refine (HMO.out _).mono ?_;rintro e1 w9 ⟨rfl,rfl⟩;(try dsimp only))
      refine hK.out _ _ ?_ (fun hHeld=> ?_)
      ·((try dsimp only);first | assumption | (go_keep;done))
      clear hK K
      (try simp only[Act.put,Aa,Ab,Ac])
      refine Al (i:=8) (oi:=_) (v:=?_) rfl zG zG zG (fun _ _ _ h=>h) (Or.inl ⟨zL,?_⟩) zN ?_;rotate_left
      ·(intro w hSw;(try dsimp only at hSw);go_simp<;>with_reducible rfl)
      (try simp only[Act.put,Aa,Ab,Ac])
      refine Al (i:=9) (oi:=_) (v:=?_) rfl zG zG zG (fun _ _ _ h=>h) (Or.inl ⟨zT,?_⟩) zN ?_;rotate_left
      ·(intro w hSw;(try dsimp only at hSw);go_simp<;>with_reducible rfl)
      (try simp only[Act.put,Aa,Ab,Ac])
      (try simp only[AE,Az,AA,Act.put,Aa,Ab,Ac])
      refine Bp zL ?_ _;go_wp2_with fail;go_meet
      case rel=>exact ⟨Cs Value.bool HR2.out.symm,hid ((Below.refl _ _).drew)⟩
    case rest=>
    obtain⟨rfl,hBB⟩:=hcut;have HI9:=hid (HI8.out.later hBB.out);obtain⟨w9,hwn⟩:∃W:World,W=wc:=⟨_,rfl⟩;subst hwn;clear m8;obtain⟨cx0,cx1,cx2,cx3,g0,g1,g2,g3,ld⟩:=Aq HI9.out.d;obtain⟨y0,y1,y2,y3,y4,y5,y6,y7,y8,y9,y10,y11,y12,y13,lm⟩:=AJ (by have:=HI9.out.pm;dsimp only[Cf] at this;exact this);obtain⟨f0,f1,f2,f3,f4,f5,f6,f7,f8,f9,f10,f11,f12,f13⟩:=Be HI9.out.pm;cases R
    ·have he:t1=s3:=by
      rw[←HMK.out];have:=Em HR.out.symm;exact (An ⟨zD,zD⟩).symm
     have HIA9:=HI9.out;rw[he] at HIA9;have HIB9:=hid HIA9;clear he HIA9;go_wp2_with fail;go_meet
     case rel=>exact HIB9
    ·have he:t1.fail 3 (s2.p:Int)=s3:=by
      rw[←HMK.out];have:=Cu HR.out.symm;exact (Ak zD).symm
     have HF:=hid (fun (V:World)=>(by have:=Bk V a B.length c t1 3 (s2.p:Int) zD;unfold CV at this;exact this:Calls Tryz.prog 120 #[.agg #[.slice a B.length c,.int .i64 (t1.p:Int),.int .i64 t1.k,.int .i64 t1.f],.int .i64 3,.int .i64 (s2.p:Int)] V fun r w'=>r=.returned (.agg #[.slice a B.length c,.int .i64 ((t1.fail 3 (s2.p:Int)).p:Int),.int .i64 (t1.fail 3 (s2.p:Int)).k,.int .i64 (t1.fail 3 (s2.p:Int)).f])∧Below V.heap.size V w'));rw[he] at HF;clear he;go_wp2_with fail;refine (HF.out _).mono ?_;rintro r w10 ⟨rfl,hb10⟩;have HI10:=hid (HI9.out.later hb10);clear cx0 cx1 cx2 cx3 g0 g1 g2 g3 ld y0 y1 y2 y3 y4 y5 y6 y7 y8 y9 y10 y11 y12 y13 lm f0 f1 f2 f3 f4 f5 f6 f7 f8 f9 f10 f11 f12 f13;clear hb10;obtain⟨cx0,cx1,cx2,cx3,g0,g1,g2,g3,ld⟩:=Aq HI10.out.d;obtain⟨y0,y1,y2,y3,y4,y5,y6,y7,y8,y9,y10,y11,y12,y13,lm⟩:=AJ (by have:=HI10.out.pm;dsimp only[Cf] at this;exact this);obtain⟨f0,f1,f2,f3,f4,f5,f6,f7,f8,f9,f10,f11,f12,f13⟩:=Be HI10.out.pm;go_wp2_with fail;go_meet
     case rel=>exact hid (HI10.out.Er HO3.out)
  case rest=>
  have HI3:=hid hcut.out;obtain⟨wp3,hwn⟩:∃W:World,W=wc:=⟨_,rfl⟩;subst hwn;have HH:=hid (EU k 8 zW wp3);go_wp2_with fail;refine HH.out.mono ?_;rintro r wa ⟨rfl,hba⟩;have HIA:=hid (HI3.out.later hba);clear hba HH;go_upto_if 86 with (fail);go_cut [] from 85 to 98 (fun V=>∃v1',Hid (G1 w B a c ⟨k,0,0,x1,x2,x3,L4,[],[],BE,Bx⟩ v1' (.slice none 0 0) (.slice none 0 0) (.slice none 0 0) s4 V))
  case first=>
   have hq:=HP4.out;cases hH:AM k 8
   ·rw[hH] at hq
    have hq2:(s3,([]:List Int))=(s4,L4):=hq;cases hq2;clear hq hH;go_wp2_with fail;go_meet
    case rel=>exact ⟨_,HIA⟩
   ·rw[hH] at hq
    have hq2:s3.IC B=(s4,L4):=hq;clear hq hH;have oki:=Rs.Eh (B:=B) (m:=16) HO3.out;have hnm:=Rs.FW (B:=B) (s:=s3) (m:=16);have HC:=hid (Ex wa a c B (lift HL.out HIA.out.bel) s3 HO3.out zD 16 zD);unfold Rs.IC at hq2;generalize s3.int B 16=I at*;obtain⟨t1,n⟩:=I;dsimp only at*;have HC2:=hid (fun (V:World) (hV:Below w.heap.size w V)=>(by have:=Lf V a c B (lift HL.out hV) t1 oki zD n zD;rw[hq2] at this;unfold CV at this;exact this:Calls Tryz.prog 124 #[.agg #[.slice a B.length c,.int .i64 (t1.p:Int),.int .i64 t1.k,.int .i64 t1.f],.int .i64 (n:Int)] V fun r w'=>∃v,r=.returned (.tuple #[.agg #[.slice a B.length c,.int .i64 (s4.p:Int),.int .i64 s4.k,.int .i64 s4.f],v])∧AV.r (CO V w') w' [v] L4∧Below V.heap.size V w'));unfold CV at HC;clear hq2 oki hnm;obtain⟨cx0,cx1,cx2,cx3,g0,g1,g2,g3,ld⟩:=Aq HIA.out.d;obtain⟨y0,y1,y2,y3,y4,y5,y6,y7,y8,y9,y10,y11,y12,y13,lm⟩:=AJ ZG;obtain⟨f0,f1,f2,f3,f4,f5,f6,f7,f8,f9,f10,f11,f12,f13⟩:=Be HIA.out.pm;go_wp2_with fail;refine HC.out.mono ?_;rintro r w5 ⟨rfl,hb5⟩;have hb56:Below w5.heap.size w5 (w5.alloc (.cells #[.slice a B.length c,.int .i64 (t1.p:Int),.int .i64 t1.k,.int .i64 t1.f] 60)):=zA;have HI6:=hid ((HIA.out.later hb5).later hb56);clear cx0 cx1 cx2 cx3 g0 g1 g2 g3 ld y0 y1 y2 y3 y4 y5 y6 y7 y8 y9 y10 y11 y12 y13 lm f0 f1 f2 f3 f4 f5 f6 f7 f8 f9 f10 f11 f12 f13;clear hb5 hb56;go_wp2_with fail;refine (HC2.out _ HI6.out.bel).mono ?_;rintro r w7 ⟨v7,rfl,hv7,hb7⟩;have HI7:=hid (HI6.out.later hb7);have hl6:=HI6.out.low;obtain⟨a7,c7,hfv,_,_⟩:=At hv7;simp only[Ai,As] at hfv;subst hfv;have HV7:=hid (AV.mono hv7 fun b hb=>(⟨ZS,hb.2⟩:w.heap.size+1+1+1+1≤b∧b<w7.heap.size));clear hb7 hv7;obtain⟨cx0,cx1,cx2,cx3,g0,g1,g2,g3,ld⟩:=Aq HI7.out.d;obtain⟨y0,y1,y2,y3,y4,y5,y6,y7,y8,y9,y10,y11,y12,y13,lm⟩:=AJ ZC;obtain⟨f0,f1,f2,f3,f4,f5,f6,f7,f8,f9,f10,f11,f12,f13⟩:=Be HI7.out.pm;go_wp2_with fail;go_meet
    case rel=>exact ⟨_,hid ((HI7.out.Er HO4.out).Fw 6 _ zJ (Hn HV7.out) (HI7.out.Er HO4.out).ln (HI7.out.Er HO4.out).da (HI7.out.Er HO4.out).sp)⟩
  case rest=>
  obtain⟨v1',hcc⟩:=hcut;obtain⟨b1,d1,e,_,_⟩:=At hcc.out.st;cases e;have HI4:=hid hcc.out;obtain⟨wp4,hwn⟩:∃W:World,W=wc:=⟨_,rfl⟩;subst hwn;have HH:=hid (EU k 16 zW wp4);go_wp2_with fail;refine HH.out.mono ?_;rintro r wa ⟨rfl,hba⟩;have HIA:=hid (HI4.out.later hba);clear hba HH;go_upto_if 100 with (fail);go_cut [] from 99 to 108 (fun V=>∃v2',Hid (G1 w B a c ⟨k,0,0,x1,x2,x3,L4,L5,[],BE,Bx⟩ (.slice b1 L4.length d1) v2' (.slice none 0 0) (.slice none 0 0) s5 V))
  case first=>
   have hq:=HP5.out;cases hH:AM k 16
   ·rw[hH] at hq
    have hq2:(s4,([]:List BS))=(s5,L5):=hq;cases hq2;clear hq hH;go_wp2_with fail;go_meet
    case rel=>exact ⟨_,HIA⟩
   ·rw[hH] at hq
    have hq2:s4.links B x1=(s5,L5):=hq;clear hq hH;have HC:=hid (by have:=Px wa a c B (lift HL.out HIA.out.bel) s4 HO4.out zD x1 hpu;rw[hq2] at this;unfold CV at this;exact this:Calls Tryz.prog 125 #[.agg #[.slice a B.length c,.int .i64 (s4.p:Int),.int .i64 s4.k,.int .i64 s4.f],.int .u64 x1] wa fun r w'=>∃v,r=.returned (.tuple #[.agg #[.slice a B.length c,.int .i64 (s5.p:Int),.int .i64 s5.k,.int .i64 s5.f],v])∧Ig.r (CO wa w') w' [v] L5∧Below wa.heap.size wa w');clear hq2;obtain⟨cx0,cx1,cx2,cx3,g0,g1,g2,g3,ld⟩:=Aq HIA.out.d;obtain⟨y0,y1,y2,y3,y4,y5,y6,y7,y8,y9,y10,y11,y12,y13,lm⟩:=AJ ZG;obtain⟨f0,f1,f2,f3,f4,f5,f6,f7,f8,f9,f10,f11,f12,f13⟩:=Be HIA.out.pm;go_wp2_with fail;refine HC.out.mono ?_;rintro r w7 ⟨v7,rfl,hv7',hb7⟩;have hv7:=Jm hv7';have HI7:=hid (HIA.out.later hb7);have hl6:=HIA.out.low;obtain⟨a7,c7,hfv,_,_⟩:=At hv7;simp only[Ai,As] at hfv;subst hfv;have HV7:=hid (B6.mono hv7 fun b hb=>(⟨ZS,hb.2⟩:w.heap.size+1+1+1+1≤b∧b<w7.heap.size));clear cx0 cx1 cx2 cx3 g0 g1 g2 g3 ld y0 y1 y2 y3 y4 y5 y6 y7 y8 y9 y10 y11 y12 y13 lm f0 f1 f2 f3 f4 f5 f6 f7 f8 f9 f10 f11 f12 f13;clear hb7 hv7 hv7';obtain⟨cx0,cx1,cx2,cx3,g0,g1,g2,g3,ld⟩:=Aq HI7.out.d;obtain⟨y0,y1,y2,y3,y4,y5,y6,y7,y8,y9,y10,y11,y12,y13,lm⟩:=AJ ZC;obtain⟨f0,f1,f2,f3,f4,f5,f6,f7,f8,f9,f10,f11,f12,f13⟩:=Be HI7.out.pm;go_wp2_with fail;go_meet
    case rel=>exact ⟨_,hid ((HI7.out.Er HO5.out).Fw 7 _ zJ (HI7.out.Er HO5.out).st (Hn HV7.out) (HI7.out.Er HO5.out).da (HI7.out.Er HO5.out).sp)⟩
  case rest=>
  obtain⟨v2',hcc⟩:=hcut;obtain⟨b2,d2,e,_,_⟩:=At hcc.out.ln;cases e;have HI5:=hid hcc.out;obtain⟨wp5,hwn⟩:∃W:World,W=wc:=⟨_,rfl⟩;subst hwn;have HH:=hid (fun (V:World)=>N5 k x3 V);have y5:wp5.cell? ⟨w.heap.size+1+1+1,5,none⟩=some (.int .i64 x3):=HI5.out.pm.cell 5;go_wp2_with fail;refine (HH.out _).mono ?_;rintro r wa ⟨rfl,rfl⟩;clear HH y5;go_upto_if 112 with (fail);go_cut [10] from 109 to 126 (fun wv V=>∃v3',wv=.bool fl∧Hid (G1 w B a c ⟨k,0,0,x1,x2,x3,L4,L5,D,BE,Bx⟩ (.slice b1 L4.length d1) (.slice b2 L5.length d2) v3' (.slice none 0 0) s6 V))
  case first=>
   have hq:=HP6.out;cases hH:Ch k x3
   ·rw[hH] at hq
    have hq2:(s5,([]:List UInt8),true)=(s6,D,fl):=hq;cases hq2;clear hq hH;go_wp2_with fail;go_meet
    case rel=>exact ⟨_,rfl,HI5⟩
   ·rw[hH] at hq
    have hq2:blk s5=(s6,D,fl):=hq;have hbk:=HBLK.out;clear hq hH;cases strict
    ·have hq3:s5.loose B 1048576=(s6,D,fl):=by rw[←hq2,hbk];rfl
     have HC:=hid (by have:=Kg wp5 a c B (lift HL.out HI5.out.bel) s5 HO5.out zD 1048576 zD;rw[hq3] at this;unfold CV at this;exact this:Calls Tryz.prog 127 #[.agg #[.slice a B.length c,.int .i64 (s5.p:Int),.int .i64 s5.k,.int .i64 s5.f],.int .i64 1048576] wp5 fun r w'=>∃v,r=.returned (.tuple #[.agg #[.slice a B.length c,.int .i64 (s6.p:Int),.int .i64 s6.k,.int .i64 s6.f],v,.bool fl])∧Ah.r (fun q=>wp5.heap.size≤q∧q<w'.heap.size) w' [v] D∧Below wp5.heap.size wp5 w');clear hq2 hq3 hbk;obtain⟨cx0,cx1,cx2,cx3,g0,g1,g2,g3,ld⟩:=Aq HI5.out.d;obtain⟨y0,y1,y2,y3,y4,y5,y6,y7,y8,y9,y10,y11,y12,y13,lm⟩:=AJ zAa;obtain⟨f0,f1,f2,f3,f4,f5,f6,f7,f8,f9,f10,f11,f12,f13⟩:=Be HI5.out.pm;go_wp2_with fail;refine HC.out.mono ?_;rintro r w7 ⟨v7,rfl,hv7,hb7⟩;have HI7:=hid (HI5.out.later hb7);have hl6:=HI5.out.low;obtain⟨a7,c7,hfv,_,_⟩:=At hv7;simp only[Ai,As] at hfv;subst hfv;have HV7:=hid (Ah.mono hv7 fun b hb=>(⟨ZS,hb.2⟩:w.heap.size+1+1+1+1≤b∧b<w7.heap.size));clear cx0 cx1 cx2 cx3 g0 g1 g2 g3 ld y0 y1 y2 y3 y4 y5 y6 y7 y8 y9 y10 y11 y12 y13 lm f0 f1 f2 f3 f4 f5 f6 f7 f8 f9 f10 f11 f12 f13;clear hb7 hv7;obtain⟨cx0,cx1,cx2,cx3,g0,g1,g2,g3,ld⟩:=Aq HI7.out.d;obtain⟨y0,y1,y2,y3,y4,y5,y6,y7,y8,y9,y10,y11,y12,y13,lm⟩:=AJ ZC;obtain⟨f0,f1,f2,f3,f4,f5,f6,f7,f8,f9,f10,f11,f12,f13⟩:=Be HI7.out.pm;go_wp2_with fail;go_meet
     case rel=>exact ⟨_,rfl,hid ((HI7.out.Er HO6.out).Fw 8 _ zJ (HI7.out.Er HO6.out).st (HI7.out.Er HO6.out).ln (Hn HV7.out) (HI7.out.Er HO6.out).sp)⟩
    ·have hq3:CG B s5=(s6,D,fl):=by rw[←hq2,hbk];rfl
     have q1:(Rs.strict (s5.loose B 1048576)).1=s6:=Cs Prod.fst hq3;have q2:(Rs.strict (s5.loose B 1048576)).2=D:=Cs (fun p=>p.2.1) hq3;have q3:true=fl:=Cs (fun p=>p.2.2) hq3;subst q3;have HC:=hid (by have:=PF wp5 a c B (lift HL.out HI5.out.bel) s5 HO5.out zD 1048576 zD;rw[q1,q2] at this;unfold CV at this;exact this:Calls Tryz.prog 126 #[.agg #[.slice a B.length c,.int .i64 (s5.p:Int),.int .i64 s5.k,.int .i64 s5.f],.int .i64 1048576] wp5 fun r w'=>∃v,r=.returned (.tuple #[.agg #[.slice a B.length c,.int .i64 (s6.p:Int),.int .i64 s6.k,.int .i64 s6.f],v])∧Ah.r (fun q=>wp5.heap.size≤q∧q<w'.heap.size) w' [v] D∧Below wp5.heap.size wp5 w');clear hq2 hq3 hbk q1 q2;obtain⟨cx0,cx1,cx2,cx3,g0,g1,g2,g3,ld⟩:=Aq HI5.out.d;obtain⟨y0,y1,y2,y3,y4,y5,y6,y7,y8,y9,y10,y11,y12,y13,lm⟩:=AJ zAa;obtain⟨f0,f1,f2,f3,f4,f5,f6,f7,f8,f9,f10,f11,f12,f13⟩:=Be HI5.out.pm;go_wp2_with fail;refine HC.out.mono ?_;rintro r w7 ⟨v7,rfl,hv7,hb7⟩;have HI7:=hid (HI5.out.later hb7);have hl6:=HI5.out.low;obtain⟨a7,c7,hfv,_,_⟩:=At hv7;simp only[Ai,As] at hfv;subst hfv;have HV7:=hid (Ah.mono hv7 fun b hb=>(⟨ZS,hb.2⟩:w.heap.size+1+1+1+1≤b∧b<w7.heap.size));clear cx0 cx1 cx2 cx3 g0 g1 g2 g3 ld y0 y1 y2 y3 y4 y5 y6 y7 y8 y9 y10 y11 y12 y13 lm f0 f1 f2 f3 f4 f5 f6 f7 f8 f9 f10 f11 f12 f13;clear hb7 hv7;obtain⟨cx0,cx1,cx2,cx3,g0,g1,g2,g3,ld⟩:=Aq HI7.out.d;obtain⟨y0,y1,y2,y3,y4,y5,y6,y7,y8,y9,y10,y11,y12,y13,lm⟩:=AJ ZC;obtain⟨f0,f1,f2,f3,f4,f5,f6,f7,f8,f9,f10,f11,f12,f13⟩:=Be HI7.out.pm;go_wp2_with fail;go_meet
     case rel=>exact ⟨_,rfl,hid ((HI7.out.Er HO6.out).Fw 8 _ zJ (HI7.out.Er HO6.out).st (HI7.out.Er HO6.out).ln (Hn HV7.out) (HI7.out.Er HO6.out).sp)⟩
  case rest=>
  obtain⟨v3',rfl,hcc⟩:=hcut;obtain⟨b3,d3,e,_,_⟩:=At hcc.out.da;cases e;have HI6:=hid hcc.out;obtain⟨wp6,hwn⟩:∃W:World,W=wc:=⟨_,rfl⟩;subst hwn;have HH:=hid (EU k 64 zW wp6);go_wp2_with fail;refine HH.out.mono ?_;rintro r wa ⟨rfl,hba⟩;have HIA:=hid (HI6.out.later hba);clear hba HH;go_upto_if 128 with (fail);go_cut [] from 127 to 134 (fun V=>Hid (G1 w B a c ⟨k,0,0,x1,x2,x3,L4,L5,D,sea,Bx⟩ (.slice b1 L4.length d1) (.slice b2 L5.length d2) (.slice b3 D.length d3) (.slice none 0 0) s7 V))
  case first=>
   have hq:=HP7.out;cases hH:AM k 64
   ·rw[hH] at hq
    have hq2:(s6,BE)=(s7,sea):=hq;cases hq2;clear hq hH;go_wp2_with fail;go_meet
    case rel=>exact HIA
   ·rw[hH] at hq
    have hq2:s6.seal_ B=(s7,sea):=hq;clear hq hH;have HC:=hid (by have:=PE wa a c B (lift HL.out HIA.out.bel) s6 HO6.out zD;rw[hq2] at this;unfold CV Mj at this;exact this:Calls Tryz.prog 128 #[.agg #[.slice a B.length c,.int .i64 (s6.p:Int),.int .i64 s6.k,.int .i64 s6.f]] wa fun r w'=>r=.returned (.tuple #[.agg #[.slice a B.length c,.int .i64 (s7.p:Int),.int .i64 s7.k,.int .i64 s7.f],.agg #[.int .u64 sea.epoch,.int .u64 sea.node,.int .u64 sea.tail]])∧Below wa.heap.size wa w');clear hq2;obtain⟨cx0,cx1,cx2,cx3,g0,g1,g2,g3,ld⟩:=Aq HIA.out.d;obtain⟨y0,y1,y2,y3,y4,y5,y6,y7,y8,y9,y10,y11,y12,y13,lm⟩:=AJ ZG;obtain⟨f0,f1,f2,f3,f4,f5,f6,f7,f8,f9,f10,f11,f12,f13⟩:=Be HIA.out.pm;go_wp2_with fail;refine HC.out.mono ?_;rintro r w7 ⟨rfl,hb7⟩;have HI7:=hid (HIA.out.later hb7);clear cx0 cx1 cx2 cx3 g0 g1 g2 g3 ld y0 y1 y2 y3 y4 y5 y6 y7 y8 y9 y10 y11 y12 y13 lm f0 f1 f2 f3 f4 f5 f6 f7 f8 f9 f10 f11 f12 f13;clear hb7;obtain⟨cx0,cx1,cx2,cx3,g0,g1,g2,g3,ld⟩:=Aq HI7.out.d;obtain⟨y0,y1,y2,y3,y4,y5,y6,y7,y8,y9,y10,y11,y12,y13,lm⟩:=AJ ZC;obtain⟨f0,f1,f2,f3,f4,f5,f6,f7,f8,f9,f10,f11,f12,f13⟩:=Be HI7.out.pm;have HJ:=hid (HI7.out.Er HO7.out);have HJ1:=hid (HJ.out.Fw 9 (.int .u64 sea.epoch) (m':=⟨k,0,0,x1,x2,x3,L4,L5,D,⟨sea.epoch,0,0⟩,Bx⟩) (v1':=(.slice b1 L4.length d1)) (v2':=(.slice b2 L5.length d2)) (v3':=(.slice b3 D.length d3)) (v4':=(.slice none 0 0)) zJ HJ.out.st HJ.out.ln HJ.out.da HJ.out.sp);have HJ2:=hid (HJ1.out.Fw 10 (.int .u64 sea.node) (m':=⟨k,0,0,x1,x2,x3,L4,L5,D,⟨sea.epoch,sea.node,0⟩,Bx⟩) (v1':=(.slice b1 L4.length d1)) (v2':=(.slice b2 L5.length d2)) (v3':=(.slice b3 D.length d3)) (v4':=(.slice none 0 0)) zJ HJ1.out.st HJ1.out.ln HJ1.out.da HJ1.out.sp);have HJ3:=hid (HJ2.out.Fw 11 (.int .u64 sea.tail) (m':=⟨k,0,0,x1,x2,x3,L4,L5,D,sea,Bx⟩) (v1':=(.slice b1 L4.length d1)) (v2':=(.slice b2 L5.length d2)) (v3':=(.slice b3 D.length d3)) (v4':=(.slice none 0 0)) zJ HJ2.out.st HJ2.out.ln HJ2.out.da HJ2.out.sp);go_wp2_with fail;go_meet
    case rel=>exact HJ3
  case rest=>
  have HI7:=hid hcut.out;obtain⟨wp7,hwn⟩:∃W:World,W=wc:=⟨_,rfl⟩;subst hwn;have HH:=hid (EU k 128 zW wp7);go_wp2_with fail;refine HH.out.mono ?_;rintro r wa ⟨rfl,hba⟩;have HIA:=hid (HI7.out.later hba);clear hba HH;go_upto_if 136 with (fail);go_cut [] from 135 to 142 (fun V=>∃v4',Hid (G1 w B a c ⟨k,0,0,x1,x2,x3,L4,L5,D,sea,pj⟩ (.slice b1 L4.length d1) (.slice b2 L5.length d2) (.slice b3 D.length d3) v4' s8 V))
  case first=>
   have hq:=HP8.out;cases hH:AM k 128
   ·rw[hH] at hq
    have hq2:(s7,Bx)=(s8,pj):=hq;cases hq2;clear hq hH;go_wp2_with fail;go_meet
    case rel=>exact ⟨_,HIA⟩
   ·rw[hH] at hq
    have hq2:s7.Du B=(s8,pj):=hq;clear hq hH;have HC:=hid (by have:=PA wa a c B (lift HL.out HIA.out.bel) s7 HO7.out zD;rw[hq2] at this;unfold CV at this;exact this:Calls Tryz.prog 129 #[.agg #[.slice a B.length c,.int .i64 (s7.p:Int),.int .i64 s7.k,.int .i64 s7.f]] wa fun r w'=>∃v,r=.returned (.tuple #[.agg #[.slice a B.length c,.int .i64 (s8.p:Int),.int .i64 s8.k,.int .i64 s8.f],.agg #[.int .u64 pj.epoch,v]])∧A3.r (CO wa w') w' [v] pj.stripes∧Below wa.heap.size wa w');clear hq2;obtain⟨cx0,cx1,cx2,cx3,g0,g1,g2,g3,ld⟩:=Aq HIA.out.d;obtain⟨y0,y1,y2,y3,y4,y5,y6,y7,y8,y9,y10,y11,y12,y13,lm⟩:=AJ ZG;obtain⟨f0,f1,f2,f3,f4,f5,f6,f7,f8,f9,f10,f11,f12,f13⟩:=Be HIA.out.pm;go_wp2_with fail;refine HC.out.mono ?_;rintro r w7 ⟨v7,rfl,hv7,hb7⟩;have HI7:=hid (HIA.out.later hb7);have hl6:=HIA.out.low;obtain⟨a7,c7,hfv,_,_⟩:=At hv7;simp only[Ai,As] at hfv;subst hfv;have HV7:=hid (A3.mono hv7 fun b hb=>(⟨ZS,hb.2⟩:w.heap.size+1+1+1+1≤b∧b<w7.heap.size));clear cx0 cx1 cx2 cx3 g0 g1 g2 g3 ld y0 y1 y2 y3 y4 y5 y6 y7 y8 y9 y10 y11 y12 y13 lm f0 f1 f2 f3 f4 f5 f6 f7 f8 f9 f10 f11 f12 f13;clear hb7 hv7;obtain⟨cx0,cx1,cx2,cx3,g0,g1,g2,g3,ld⟩:=Aq HI7.out.d;obtain⟨y0,y1,y2,y3,y4,y5,y6,y7,y8,y9,y10,y11,y12,y13,lm⟩:=AJ ZC;obtain⟨f0,f1,f2,f3,f4,f5,f6,f7,f8,f9,f10,f11,f12,f13⟩:=Be HI7.out.pm;have HJ:=hid (HI7.out.Er HO8.out);have HJ1:=hid (HJ.out.Fw 12 (.int .u64 pj.epoch) (m':=⟨k,0,0,x1,x2,x3,L4,L5,D,sea,⟨pj.epoch,[]⟩⟩) (v1':=(.slice b1 L4.length d1)) (v2':=(.slice b2 L5.length d2)) (v3':=(.slice b3 D.length d3)) (v4':=(.slice none 0 0)) zJ HJ.out.st HJ.out.ln HJ.out.da HJ.out.sp);have HV8:=hid (Hn (B:=B) (a:=a) (c:=c) (s':=s8) HV7.out);go_wp2_with fail;go_meet
    case rel=>exact ⟨_,hid (HJ1.out.Fw 13 _ zJ HJ1.out.st HJ1.out.ln HJ1.out.da (A3.mono (A3.keep HV8.out fun b hb=>Ap _ _ _ _ zBn) fun b hb=>⟨hb.1,by rw[size_set];exact hb.2⟩))⟩
  case rest=>
  obtain⟨v4',hcc⟩:=hcut;obtain⟨b4,d4,e,_,_⟩:=At hcc.out.sp;cases e;have HI8:=hid hcc.out;obtain⟨wp8,hwn⟩:∃W:World,W=wc:=⟨_,rfl⟩;subst hwn;have hPM:Blk wp8 (w.heap.size+1+1+1) 32 VQ:=HI8.out.pm;have hDD:Blk wp8 w.heap.size 60 #[.slice a B.length c,.int .i64 (s8.p:Int),.int .i64 s8.k,.int .i64 s8.f]:=HI8.out.d;have y2:wp8.cell? ⟨w.heap.size,2,none⟩=some (.int .i64 s8.k):=hDD.cell 2;obtain⟨q0,q1,q2,q3,h0,h1,h2,h3,l6⟩:=Aq HI8.out.r6;obtain⟨r0,r1,r2,r3,r4,r5,r6,r7,r8,r9,r10,r11,r12,r13,l7⟩:=AJ HI8.out.r7;obtain⟨f0,f1,f2,f3,f4,f5,f6,f7,f8,f9,f10,f11,f12,f13⟩:=Be HI8.out.r7;have hl8:=HI8.out.low;by_cases hk:s8.k=0
  ·have dn:(s8.k !=(0:Int))=false:=by simp[hk]
   have HK:=hid hk;clear hk;go_wp2_with fail;have SK:=hid (fun (w':World) (h0:Blk w' w.heap.size 60 #[.slice a B.length c,.int .i64 (s8.p:Int),.int .i64 s8.k,.int .i64 s8.f]) (h1:Blk w' (w.heap.size+1+1+1) 32 #[.int .i64 k,.int .u64 0,.int .u64 0,.int .u64 x1,.int .i64 x2,.int .i64 x3,.slice b1 L4.length d1,.slice b2 L5.length d2,.slice b3 D.length d3,.int .u64 sea.epoch,.int .u64 sea.node,.int .u64 sea.tail,.int .u64 pj.epoch,.slice b4 pj.stripes.length d4])=>(⟨h0.cell 0,h0.cell 1,h0.cell 2,h0.cell 3,h1.cell 0,h1.cell 1,h1.cell 2,h1.cell 3,h1.cell 4,h1.cell 5,h1.cell 6,h1.cell 7,h1.cell 8,h1.cell 9,h1.cell 10,h1.cell 11,h1.cell 12,h1.cell 13⟩:w'.cell? ⟨w.heap.size,0,none⟩=some (.slice a B.length c)∧w'.cell? ⟨w.heap.size,1,none⟩=some (.int .i64 (s8.p:Int))∧w'.cell? ⟨w.heap.size,2,none⟩=some (.int .i64 s8.k)∧w'.cell? ⟨w.heap.size,3,none⟩=some (.int .i64 s8.f)∧w'.cell? ⟨w.heap.size+1+1+1,0,none⟩=some (.int .i64 k)∧w'.cell? ⟨w.heap.size+1+1+1,1,none⟩=some (.int .u64 0)∧w'.cell? ⟨w.heap.size+1+1+1,2,none⟩=some (.int .u64 0)∧w'.cell? ⟨w.heap.size+1+1+1,3,none⟩=some (.int .u64 x1)∧w'.cell? ⟨w.heap.size+1+1+1,4,none⟩=some (.int .i64 x2)∧w'.cell? ⟨w.heap.size+1+1+1,5,none⟩=some (.int .i64 x3)∧w'.cell? ⟨w.heap.size+1+1+1,6,none⟩=some (.slice b1 L4.length d1)∧w'.cell? ⟨w.heap.size+1+1+1,7,none⟩=some (.slice b2 L5.length d2)∧w'.cell? ⟨w.heap.size+1+1+1,8,none⟩=some (.slice b3 D.length d3)∧w'.cell? ⟨w.heap.size+1+1+1,9,none⟩=some (.int .u64 sea.epoch)∧w'.cell? ⟨w.heap.size+1+1+1,10,none⟩=some (.int .u64 sea.node)∧w'.cell? ⟨w.heap.size+1+1+1,11,none⟩=some (.int .u64 sea.tail)∧w'.cell? ⟨w.heap.size+1+1+1,12,none⟩=some (.int .u64 pj.epoch)∧w'.cell? ⟨w.heap.size+1+1+1,13,none⟩=some (.slice b4 pj.stripes.length d4)));refine AW (S:=fun w'=>w'.cell? ⟨w.heap.size,0,none⟩=some (.slice a B.length c)∧w'.cell? ⟨w.heap.size,1,none⟩=some (.int .i64 (s8.p:Int))∧w'.cell? ⟨w.heap.size,2,none⟩=some (.int .i64 s8.k)∧w'.cell? ⟨w.heap.size,3,none⟩=some (.int .i64 s8.f)∧w'.cell? ⟨w.heap.size+1+1+1,0,none⟩=some (.int .i64 k)∧w'.cell? ⟨w.heap.size+1+1+1,1,none⟩=some (.int .u64 0)∧w'.cell? ⟨w.heap.size+1+1+1,2,none⟩=some (.int .u64 0)∧w'.cell? ⟨w.heap.size+1+1+1,3,none⟩=some (.int .u64 x1)∧w'.cell? ⟨w.heap.size+1+1+1,4,none⟩=some (.int .i64 x2)∧w'.cell? ⟨w.heap.size+1+1+1,5,none⟩=some (.int .i64 x3)∧w'.cell? ⟨w.heap.size+1+1+1,6,none⟩=some (.slice b1 L4.length d1)∧w'.cell? ⟨w.heap.size+1+1+1,7,none⟩=some (.slice b2 L5.length d2)∧w'.cell? ⟨w.heap.size+1+1+1,8,none⟩=some (.slice b3 D.length d3)∧w'.cell? ⟨w.heap.size+1+1+1,9,none⟩=some (.int .u64 sea.epoch)∧w'.cell? ⟨w.heap.size+1+1+1,10,none⟩=some (.int .u64 sea.node)∧w'.cell? ⟨w.heap.size+1+1+1,11,none⟩=some (.int .u64 sea.tail)∧w'.cell? ⟨w.heap.size+1+1+1,12,none⟩=some (.int .u64 pj.epoch)∧w'.cell? ⟨w.heap.size+1+1+1,13,none⟩=some (.slice b4 pj.stripes.length d4)) zL (SK.out _ hDD hPM) (fun hHeld=> ?_);refine Al (i:=0) (oi:=_) (v:=?_) rfl zG zG zG (fun _ _ _ h=>h) (Or.inl ⟨zT,?_⟩) zN ?_;rotate_left
   ·(intro w hSw;(try dsimp only at hSw);go_simp<;>with_reducible rfl)
   (try simp only[Act.put,Aa,Ab,Ac])
   refine Al (i:=1) (oi:=_) (v:=?_) rfl zG zG zG (fun _ _ _ h=>h) (Or.inl ⟨zT,?_⟩) zN ?_;rotate_left
   ·(intro w hSw;(try dsimp only at hSw);go_simp<;>with_reducible rfl)
   (try simp only[Act.put,Aa,Ab,Ac])
   refine Al (i:=2) (oi:=_) (v:=?_) rfl zG zG zG (fun _ _ _ h=>h) (Or.inl ⟨zT,?_⟩) zN ?_;rotate_left
   ·(intro w hSw;(try dsimp only at hSw);go_simp<;>with_reducible rfl)
   (try simp only[Act.put,Aa,Ab,Ac])
   (try simp only[AE,Az,AA,Act.put,Aa,Ab,Ac])
   refine AF (rs:=[3]) zG zP ?_;refine Ax (o:=_) rfl (fun K hK=> ?_) AllReadyH.nil;go_simp
   refine hK.out _ _ ?_ (fun hHeld=> ?_)
   ·exact SK.out _ zF zF
   clear hK K
   (try simp only[Act.put,Aa,Ab,Ac])
   refine AF (rs:=[4]) zG zP ?_;refine Ax (o:=_) rfl (fun K hK=> ?_) AllReadyH.nil;go_simp
   refine hK.out _ _ ?_ (fun hHeld=> ?_)
   ·exact SK.out _ zF zF
   clear hK K
   (try simp only[Act.put,Aa,Ab,Ac])
   refine Al (i:=5) (oi:=_) (v:=?_) rfl zG zG zG (fun _ _ _ h=>h) (Or.inl ⟨zT,?_⟩) zN ?_;rotate_left
   ·(intro w hSw;(try dsimp only at hSw);go_simp<;>with_reducible rfl)
   (try simp only[Act.put,Aa,Ab,Ac])
   (try simp only[AE,Az,AA,Act.put,Aa,Ab,Ac])
   refine Bp zL ?_ _;go_wp2_with fail;have R64:Blk ((((wp8.setCell ⟨w.heap.size+1,0,none⟩ (.slice a B.length c)).setCell ⟨w.heap.size+1,1,none⟩ (.int .i64 (s8.p:Int))).setCell ⟨w.heap.size+1,2,none⟩ (.int .i64 s8.k)).setCell ⟨w.heap.size+1,3,none⟩ (.int .i64 s8.f)) (w.heap.size+1) 60 #[.slice a B.length c,.int .i64 (s8.p:Int),.int .i64 s8.k,.int .i64 s8.f]:=(((HI8.out.r6.set 0 _).set 1 _).set 2 _).set 3 _;have R74:Blk ((((wp8.setCell ⟨w.heap.size+1,0,none⟩ (.slice a B.length c)).setCell ⟨w.heap.size+1,1,none⟩ (.int .i64 (s8.p:Int))).setCell ⟨w.heap.size+1,2,none⟩ (.int .i64 s8.k)).setCell ⟨w.heap.size+1,3,none⟩ (.int .i64 s8.f)) (w.heap.size+1+1) 32 zeroCells:=Blk.far (Blk.far (Blk.far (Blk.far HI8.out.r7 zH _) zH _) zH _) zH _;have hT4:Tch (fun b=>b=w.heap.size+1∨b=w.heap.size+1+1) wp8 ((((wp8.setCell ⟨w.heap.size+1,0,none⟩ (.slice a B.length c)).setCell ⟨w.heap.size+1,1,none⟩ (.int .i64 (s8.p:Int))).setCell ⟨w.heap.size+1,2,none⟩ (.int .i64 s8.k)).setCell ⟨w.heap.size+1,3,none⟩ (.int .i64 s8.f)):=((((Tch.refl _ wp8).setCell (p:=⟨w.heap.size+1,0,none⟩) (fun _=> .inl rfl) _).setCell (p:=⟨w.heap.size+1,1,none⟩) (fun _=> .inl rfl) _).setCell (p:=⟨w.heap.size+1,2,none⟩) (fun _=> .inl rfl) _).setCell (p:=⟨w.heap.size+1,3,none⟩) (fun _=> .inl rfl) _;have hput:=EJ (W:=((((wp8.setCell ⟨w.heap.size+1,0,none⟩ (.slice a B.length c)).setCell ⟨w.heap.size+1,1,none⟩ (.int .i64 (s8.p:Int))).setCell ⟨w.heap.size+1,2,none⟩ (.int .i64 s8.k)).setCell ⟨w.heap.size+1,3,none⟩ (.int .i64 s8.f))) (m:=⟨k,0,0,x1,x2,x3,L4,L5,D,sea,pj⟩) (v1:=.slice b1 L4.length d1) (v2:=.slice b2 L5.length d2) (v3:=.slice b3 D.length d3) (v4:=.slice b4 pj.stripes.length d4) (cs:=#[]) R74
   (try dsimp only[C7,BE,Bx] at hput)
   have hT14:=G5 (W:=((((wp8.setCell ⟨w.heap.size+1,0,none⟩ (.slice a B.length c)).setCell ⟨w.heap.size+1,1,none⟩ (.int .i64 (s8.p:Int))).setCell ⟨w.heap.size+1,2,none⟩ (.int .i64 s8.k)).setCell ⟨w.heap.size+1,3,none⟩ (.int .i64 s8.f))) (R:=w.heap.size+1+1) (u0:=.int .i64 k) (u1:=.int .u64 0) (u2:=.int .u64 0) (u3:=.int .u64 x1) (u4:=.int .i64 x2) (u5:=.int .i64 x3) (u6:=.slice b1 L4.length d1) (u7:=.slice b2 L5.length d2) (u8:=.slice b3 D.length d3) (u9:=.int .u64 sea.epoch) (u10:=.int .u64 sea.node) (u11:=.int .u64 sea.tail) (u12:=.int .u64 pj.epoch) (u13:=.slice b4 pj.stripes.length d4);have hT:=hT4.trans hT14 (fun b _ e=> .inr e);have hR6:=R64.tch hT14 zD
   (try dsimp only[C7,BE,Bx] at hT hR6)
   refine A9 (fun W=>Blk W (w.heap.size+1+1) 32 VQ∧Blk W (w.heap.size+1) 60 #[.slice a B.length c,.int .i64 (s8.p:Int),.int .i64 s8.k,.int .i64 s8.f]∧Tch (fun b=>b=w.heap.size+1∨b=w.heap.size+1+1) wp8 W) ⟨hput.drew,hR6.drew,hT.drew⟩ ?_;intro W5 ⟨q5,q6,ht5⟩;obtain⟨n0,n1,n2,n3,n4,n5,n6,n7,n8,n9,n10,n11,n12,n13,ln⟩:=AJ q5;obtain⟨o0,o1,o2,o3,_,_,_,_,lo⟩:=Aq q6;have hz5:=ht5.size;have hbF:Below w.heap.size w W5:=HI8.out.bel.trans (ht5.Ba (by have:=(HI8.out.bel).size;omega) fun b _ e=>by rcases e with e | e<;>omega);have hRES:RES=(s8,(⟨k,0,0,x1,x2,x3,L4,L5,D,sea,pj⟩:Msg),fl):=by rw[←HRS.out];exact An HK.out
   rw[hRES];refine Af (v:=.tuple #[.agg #[.slice a B.length c,.int .i64 (s8.p:Int),.int .i64 s8.k,.int .i64 s8.f],.agg VQ,.bool fl]) ZH rfl ⟨_,_,_,_,rfl,I5 (fun q hq=>ht5.block q hq.2 (by have:=hq.1;rintro (e | e)<;>omega)) (fun q hq=>⟨zV,zAe⟩) ⟨HI8.out.st,HI8.out.ln,HI8.out.da,HI8.out.sp⟩,hbF⟩
  ·have dn:(s8.k !=(0:Int))=true:=by simp[hk]
   have HK:=hid hk;obtain⟨cx0,cx1,cx2,cx3,_,_,_,_,_⟩:=Aq hDD;clear hk;go_wp2_with fail;have R64:Blk ((((wp8.setCell ⟨w.heap.size+1,0,none⟩ (.slice a B.length c)).setCell ⟨w.heap.size+1,1,none⟩ (.int .i64 (s8.p:Int))).setCell ⟨w.heap.size+1,2,none⟩ (.int .i64 s8.k)).setCell ⟨w.heap.size+1,3,none⟩ (.int .i64 s8.f)) (w.heap.size+1) 60 #[.slice a B.length c,.int .i64 (s8.p:Int),.int .i64 s8.k,.int .i64 s8.f]:=(((HI8.out.r6.set 0 _).set 1 _).set 2 _).set 3 _;have R74:Blk ((((wp8.setCell ⟨w.heap.size+1,0,none⟩ (.slice a B.length c)).setCell ⟨w.heap.size+1,1,none⟩ (.int .i64 (s8.p:Int))).setCell ⟨w.heap.size+1,2,none⟩ (.int .i64 s8.k)).setCell ⟨w.heap.size+1,3,none⟩ (.int .i64 s8.f)) (w.heap.size+1+1) 32 zeroCells:=Blk.far (Blk.far (Blk.far (Blk.far HI8.out.r7 zH _) zH _) zH _) zH _;have hT4:Tch (fun b=>b=w.heap.size+1∨b=w.heap.size+1+1) wp8 ((((wp8.setCell ⟨w.heap.size+1,0,none⟩ (.slice a B.length c)).setCell ⟨w.heap.size+1,1,none⟩ (.int .i64 (s8.p:Int))).setCell ⟨w.heap.size+1,2,none⟩ (.int .i64 s8.k)).setCell ⟨w.heap.size+1,3,none⟩ (.int .i64 s8.f)):=((((Tch.refl _ wp8).setCell (p:=⟨w.heap.size+1,0,none⟩) (fun _=> .inl rfl) _).setCell (p:=⟨w.heap.size+1,1,none⟩) (fun _=> .inl rfl) _).setCell (p:=⟨w.heap.size+1,2,none⟩) (fun _=> .inl rfl) _).setCell (p:=⟨w.heap.size+1,3,none⟩) (fun _=> .inl rfl) _;have hput:=EJ (W:=((((wp8.setCell ⟨w.heap.size+1,0,none⟩ (.slice a B.length c)).setCell ⟨w.heap.size+1,1,none⟩ (.int .i64 (s8.p:Int))).setCell ⟨w.heap.size+1,2,none⟩ (.int .i64 s8.k)).setCell ⟨w.heap.size+1,3,none⟩ (.int .i64 s8.f))) (m:=C7) (v1:=(.slice none 0 0)) (v2:=(.slice none 0 0)) (v3:=(.slice none 0 0)) (v4:=(.slice none 0 0)) (cs:=#[]) R74
   (try dsimp only[C7,BE,Bx] at hput)
   have hT14:=G5 (W:=((((wp8.setCell ⟨w.heap.size+1,0,none⟩ (.slice a B.length c)).setCell ⟨w.heap.size+1,1,none⟩ (.int .i64 (s8.p:Int))).setCell ⟨w.heap.size+1,2,none⟩ (.int .i64 s8.k)).setCell ⟨w.heap.size+1,3,none⟩ (.int .i64 s8.f))) (R:=w.heap.size+1+1) (u0:=.int .i64 0) (u1:=.int .u64 0) (u2:=.int .u64 0) (u3:=.int .u64 0) (u4:=.int .i64 0) (u5:=.int .i64 0) (u6:=.slice none 0 0) (u7:=.slice none 0 0) (u8:=.slice none 0 0) (u9:=.int .u64 0) (u10:=.int .u64 0) (u11:=.int .u64 0) (u12:=.int .u64 0) (u13:=.slice none 0 0);have hT:=hT4.trans hT14 (fun b _ e=> .inr e);have hR6:=R64.tch hT14 zD
   (try dsimp only[C7,BE,Bx] at hT hR6)
   refine A9 (fun W=>Blk W (w.heap.size+1+1) 32 Vz∧Blk W (w.heap.size+1) 60 #[.slice a B.length c,.int .i64 (s8.p:Int),.int .i64 s8.k,.int .i64 s8.f]∧Tch (fun b=>b=w.heap.size+1∨b=w.heap.size+1+1) wp8 W) ⟨hput,hR6,hT⟩ ?_;intro W5 ⟨q5,q6,ht5⟩;obtain⟨n0,n1,n2,n3,n4,n5,n6,n7,n8,n9,n10,n11,n12,n13,ln⟩:=AJ q5;obtain⟨o0,o1,o2,o3,_,_,_,_,lo⟩:=Aq q6;have hz5:=ht5.size;have hbF:Below w.heap.size w W5:=HI8.out.bel.trans (ht5.Ba (by have:=(HI8.out.bel).size;omega) fun b _ e=>by rcases e with e | e<;>omega);have hRES:RES=(s8,C7,false):=by rw[←HRS.out];exact Ak HK.out
   rw[hRES];refine Af (v:=.tuple #[.agg #[.slice a B.length c,.int .i64 (s8.p:Int),.int .i64 s8.k,.int .i64 s8.f],.agg Vz,.bool false]) ZH rfl ⟨_,_,_,_,rfl,⟨AZ (xs:=[]) rfl (Aj _) (Ao _) (.inl rfl),AZ (xs:=[]) rfl (Aj _) (Ao _) (.inl rfl),Et,AZ (xs:=[]) rfl (Aj _) (Ao _) (.inl rfl)⟩,hbF⟩
 ·have hor:k<1∨(¬k<1∧14<k):=by omega
  unfold Rs.body;rw[Ak hkr];dsimp only;have HF:=hid (fun (V:World)=>(by have:=Bk V a B.length c s 7 s.p zD;unfold CV at this;exact this:Calls Tryz.prog 120 #[.agg #[.slice a B.length c,.int .i64 (s.p:Int),.int .i64 s.k,.int .i64 s.f],.int .i64 7,.int .i64 (s.p:Int)] V fun r w'=>r=.returned (.agg #[.slice a B.length c,.int .i64 ((s.fail 7 (s.p:Int)).p:Int),.int .i64 (s.fail 7 (s.p:Int)).k,.int .i64 (s.fail 7 (s.p:Int)).f])∧Below V.heap.size V w'));generalize s.fail 7 (s.p:Int)=s1 at*;unfold CV at*;rcases hor with hk1 | ⟨hk1,hk2⟩
  ·have d1:decide (k<1)=true:=Ae hk1
   have hbW:Below w.heap.size w (((w.alloc (.cells #[.slice a B.length c,.int .i64 (s.p:Int),.int .i64 s.k,.int .i64 s.f] 60)).alloc (.cells #[.slice none 0 0,.int .i64 0,.int .i64 0,.int .i64 0] 60)).alloc (.cells Vz 32)):=zA;have R60:Blk (((w.alloc (.cells #[.slice a B.length c,.int .i64 (s.p:Int),.int .i64 s.k,.int .i64 s.f] 60)).alloc (.cells #[.slice none 0 0,.int .i64 0,.int .i64 0,.int .i64 0] 60)).alloc (.cells Vz 32)) (w.heap.size+1) 60 #[.slice none 0 0,.int .i64 0,.int .i64 0,.int .i64 0]:=zB;have R70:Blk (((w.alloc (.cells #[.slice a B.length c,.int .i64 (s.p:Int),.int .i64 s.k,.int .i64 s.f] 60)).alloc (.cells #[.slice none 0 0,.int .i64 0,.int .i64 0,.int .i64 0] 60)).alloc (.cells Vz 32)) (w.heap.size+1+1) 32 zeroCells:=zB;have HBW:=hid hbW;clear hbW hkr hl hs;go_enter Tryz.func41,Tryz.ntmps41;go_wp2_with fail;refine (HF.out _).mono ?_;rintro r w2 ⟨rfl,hb2⟩;have R62:=R60.later hb2;have R72:=R70.later hb2;have HBW2:=hid (Ag hb2 HBW.out);clear hb2 R60 R70;obtain⟨q0,q1,q2,q3,h0,h1,h2,h3,l6⟩:=Aq R62;obtain⟨r0,r1,r2,r3,r4,r5,r6,r7,r8,r9,r10,r11,r12,r13,l7⟩:=AJ R72;obtain⟨f0,f1,f2,f3,f4,f5,f6,f7,f8,f9,f10,f11,f12,f13⟩:=Be R72;go_wp2_with fail;have R64:Blk ((((w2.setCell ⟨w.heap.size+1,0,none⟩ (.slice a B.length c)).setCell ⟨w.heap.size+1,1,none⟩ (.int .i64 (s1.p:Int))).setCell ⟨w.heap.size+1,2,none⟩ (.int .i64 s1.k)).setCell ⟨w.heap.size+1,3,none⟩ (.int .i64 s1.f)) (w.heap.size+1) 60 #[.slice a B.length c,.int .i64 (s1.p:Int),.int .i64 s1.k,.int .i64 s1.f]:=(((R62.set 0 _).set 1 _).set 2 _).set 3 _;have R74:Blk ((((w2.setCell ⟨w.heap.size+1,0,none⟩ (.slice a B.length c)).setCell ⟨w.heap.size+1,1,none⟩ (.int .i64 (s1.p:Int))).setCell ⟨w.heap.size+1,2,none⟩ (.int .i64 s1.k)).setCell ⟨w.heap.size+1,3,none⟩ (.int .i64 s1.f)) (w.heap.size+1+1) 32 zeroCells:=Blk.far (Blk.far (Blk.far (Blk.far R72 zH _) zH _) zH _) zH _;have hT4:Tch (fun b=>b=w.heap.size+1∨b=w.heap.size+1+1) w2 ((((w2.setCell ⟨w.heap.size+1,0,none⟩ (.slice a B.length c)).setCell ⟨w.heap.size+1,1,none⟩ (.int .i64 (s1.p:Int))).setCell ⟨w.heap.size+1,2,none⟩ (.int .i64 s1.k)).setCell ⟨w.heap.size+1,3,none⟩ (.int .i64 s1.f)):=((((Tch.refl _ w2).setCell (p:=⟨w.heap.size+1,0,none⟩) (fun _=> .inl rfl) _).setCell (p:=⟨w.heap.size+1,1,none⟩) (fun _=> .inl rfl) _).setCell (p:=⟨w.heap.size+1,2,none⟩) (fun _=> .inl rfl) _).setCell (p:=⟨w.heap.size+1,3,none⟩) (fun _=> .inl rfl) _;have hput:=EJ (W:=((((w2.setCell ⟨w.heap.size+1,0,none⟩ (.slice a B.length c)).setCell ⟨w.heap.size+1,1,none⟩ (.int .i64 (s1.p:Int))).setCell ⟨w.heap.size+1,2,none⟩ (.int .i64 s1.k)).setCell ⟨w.heap.size+1,3,none⟩ (.int .i64 s1.f))) (m:=C7) (v1:=(.slice none 0 0)) (v2:=(.slice none 0 0)) (v3:=(.slice none 0 0)) (v4:=(.slice none 0 0)) (cs:=#[]) R74
   (try dsimp only[C7,BE,Bx] at hput)
   have hT14:=G5 (W:=((((w2.setCell ⟨w.heap.size+1,0,none⟩ (.slice a B.length c)).setCell ⟨w.heap.size+1,1,none⟩ (.int .i64 (s1.p:Int))).setCell ⟨w.heap.size+1,2,none⟩ (.int .i64 s1.k)).setCell ⟨w.heap.size+1,3,none⟩ (.int .i64 s1.f))) (R:=w.heap.size+1+1) (u0:=.int .i64 0) (u1:=.int .u64 0) (u2:=.int .u64 0) (u3:=.int .u64 0) (u4:=.int .i64 0) (u5:=.int .i64 0) (u6:=.slice none 0 0) (u7:=.slice none 0 0) (u8:=.slice none 0 0) (u9:=.int .u64 0) (u10:=.int .u64 0) (u11:=.int .u64 0) (u12:=.int .u64 0) (u13:=.slice none 0 0);have hT:=hT4.trans hT14 (fun b _ e=> .inr e);have hR6:=R64.tch hT14 zD
   (try dsimp only[C7,BE,Bx] at hT hR6)
   refine A9 (fun W=>Blk W (w.heap.size+1+1) 32 Vz∧Blk W (w.heap.size+1) 60 #[.slice a B.length c,.int .i64 (s1.p:Int),.int .i64 s1.k,.int .i64 s1.f]∧Tch (fun b=>b=w.heap.size+1∨b=w.heap.size+1+1) w2 W) ⟨hput,hR6,hT⟩ ?_;intro W5 ⟨q5,q6,ht5⟩;obtain⟨n0,n1,n2,n3,n4,n5,n6,n7,n8,n9,n10,n11,n12,n13,ln⟩:=AJ q5;obtain⟨o0,o1,o2,o3,_,_,_,_,lo⟩:=Aq q6;have hz5:=ht5.size;have hbF:Below w.heap.size w W5:=HBW2.out.trans (ht5.Ba (by have:=(HBW2.out).size;omega) fun b _ e=>by rcases e with e | e<;>omega);refine Af (v:=.tuple #[.agg #[.slice a B.length c,.int .i64 (s1.p:Int),.int .i64 s1.k,.int .i64 s1.f],.agg Vz,.bool false]) ZH rfl ⟨_,_,_,_,rfl,⟨AZ (xs:=[]) rfl (Aj _) (Ao _) (.inl rfl),AZ (xs:=[]) rfl (Aj _) (Ao _) (.inl rfl),Et,AZ (xs:=[]) rfl (Aj _) (Ao _) (.inl rfl)⟩,hbF⟩
  ·have d1:decide (k<1)=false:=Ad hk1
   have d2:decide (14<k)=true:=Ae hk2;have hbW:Below w.heap.size w (((w.alloc (.cells #[.slice a B.length c,.int .i64 (s.p:Int),.int .i64 s.k,.int .i64 s.f] 60)).alloc (.cells #[.slice none 0 0,.int .i64 0,.int .i64 0,.int .i64 0] 60)).alloc (.cells Vz 32)):=zA;have R60:Blk (((w.alloc (.cells #[.slice a B.length c,.int .i64 (s.p:Int),.int .i64 s.k,.int .i64 s.f] 60)).alloc (.cells #[.slice none 0 0,.int .i64 0,.int .i64 0,.int .i64 0] 60)).alloc (.cells Vz 32)) (w.heap.size+1) 60 #[.slice none 0 0,.int .i64 0,.int .i64 0,.int .i64 0]:=zB;have R70:Blk (((w.alloc (.cells #[.slice a B.length c,.int .i64 (s.p:Int),.int .i64 s.k,.int .i64 s.f] 60)).alloc (.cells #[.slice none 0 0,.int .i64 0,.int .i64 0,.int .i64 0] 60)).alloc (.cells Vz 32)) (w.heap.size+1+1) 32 zeroCells:=zB;have HBW:=hid hbW;clear hbW hkr hl hs;go_enter Tryz.func41,Tryz.ntmps41;go_wp2_with fail;refine (HF.out _).mono ?_;rintro r w2 ⟨rfl,hb2⟩;have R62:=R60.later hb2;have R72:=R70.later hb2;have HBW2:=hid (Ag hb2 HBW.out);clear hb2 R60 R70;obtain⟨q0,q1,q2,q3,h0,h1,h2,h3,l6⟩:=Aq R62;obtain⟨r0,r1,r2,r3,r4,r5,r6,r7,r8,r9,r10,r11,r12,r13,l7⟩:=AJ R72;obtain⟨f0,f1,f2,f3,f4,f5,f6,f7,f8,f9,f10,f11,f12,f13⟩:=Be R72;go_wp2_with fail;have R64:Blk ((((w2.setCell ⟨w.heap.size+1,0,none⟩ (.slice a B.length c)).setCell ⟨w.heap.size+1,1,none⟩ (.int .i64 (s1.p:Int))).setCell ⟨w.heap.size+1,2,none⟩ (.int .i64 s1.k)).setCell ⟨w.heap.size+1,3,none⟩ (.int .i64 s1.f)) (w.heap.size+1) 60 #[.slice a B.length c,.int .i64 (s1.p:Int),.int .i64 s1.k,.int .i64 s1.f]:=(((R62.set 0 _).set 1 _).set 2 _).set 3 _;have R74:Blk ((((w2.setCell ⟨w.heap.size+1,0,none⟩ (.slice a B.length c)).setCell ⟨w.heap.size+1,1,none⟩ (.int .i64 (s1.p:Int))).setCell ⟨w.heap.size+1,2,none⟩ (.int .i64 s1.k)).setCell ⟨w.heap.size+1,3,none⟩ (.int .i64 s1.f)) (w.heap.size+1+1) 32 zeroCells:=Blk.far (Blk.far (Blk.far (Blk.far R72 zH _) zH _) zH _) zH _;have hT4:Tch (fun b=>b=w.heap.size+1∨b=w.heap.size+1+1) w2 ((((w2.setCell ⟨w.heap.size+1,0,none⟩ (.slice a B.length c)).setCell ⟨w.heap.size+1,1,none⟩ (.int .i64 (s1.p:Int))).setCell ⟨w.heap.size+1,2,none⟩ (.int .i64 s1.k)).setCell ⟨w.heap.size+1,3,none⟩ (.int .i64 s1.f)):=((((Tch.refl _ w2).setCell (p:=⟨w.heap.size+1,0,none⟩) (fun _=> .inl rfl) _).setCell (p:=⟨w.heap.size+1,1,none⟩) (fun _=> .inl rfl) _).setCell (p:=⟨w.heap.size+1,2,none⟩) (fun _=> .inl rfl) _).setCell (p:=⟨w.heap.size+1,3,none⟩) (fun _=> .inl rfl) _;have hput:=EJ (W:=((((w2.setCell ⟨w.heap.size+1,0,none⟩ (.slice a B.length c)).setCell ⟨w.heap.size+1,1,none⟩ (.int .i64 (s1.p:Int))).setCell ⟨w.heap.size+1,2,none⟩ (.int .i64 s1.k)).setCell ⟨w.heap.size+1,3,none⟩ (.int .i64 s1.f))) (m:=C7) (v1:=(.slice none 0 0)) (v2:=(.slice none 0 0)) (v3:=(.slice none 0 0)) (v4:=(.slice none 0 0)) (cs:=#[]) R74
   (try dsimp only[C7,BE,Bx] at hput)
   have hT14:=G5 (W:=((((w2.setCell ⟨w.heap.size+1,0,none⟩ (.slice a B.length c)).setCell ⟨w.heap.size+1,1,none⟩ (.int .i64 (s1.p:Int))).setCell ⟨w.heap.size+1,2,none⟩ (.int .i64 s1.k)).setCell ⟨w.heap.size+1,3,none⟩ (.int .i64 s1.f))) (R:=w.heap.size+1+1) (u0:=.int .i64 0) (u1:=.int .u64 0) (u2:=.int .u64 0) (u3:=.int .u64 0) (u4:=.int .i64 0) (u5:=.int .i64 0) (u6:=.slice none 0 0) (u7:=.slice none 0 0) (u8:=.slice none 0 0) (u9:=.int .u64 0) (u10:=.int .u64 0) (u11:=.int .u64 0) (u12:=.int .u64 0) (u13:=.slice none 0 0);have hT:=hT4.trans hT14 (fun b _ e=> .inr e);have hR6:=R64.tch hT14 zD
   (try dsimp only[C7,BE,Bx] at hT hR6)
   refine A9 (fun W=>Blk W (w.heap.size+1+1) 32 Vz∧Blk W (w.heap.size+1) 60 #[.slice a B.length c,.int .i64 (s1.p:Int),.int .i64 s1.k,.int .i64 s1.f]∧Tch (fun b=>b=w.heap.size+1∨b=w.heap.size+1+1) w2 W) ⟨hput,hR6,hT⟩ ?_;intro W5 ⟨q5,q6,ht5⟩;obtain⟨n0,n1,n2,n3,n4,n5,n6,n7,n8,n9,n10,n11,n12,n13,ln⟩:=AJ q5;obtain⟨o0,o1,o2,o3,_,_,_,_,lo⟩:=Aq q6;have hz5:=ht5.size;have hbF:Below w.heap.size w W5:=HBW2.out.trans (ht5.Ba (by have:=(HBW2.out).size;omega) fun b _ e=>by rcases e with e | e<;>omega);refine Af (v:=.tuple #[.agg #[.slice a B.length c,.int .i64 (s1.p:Int),.int .i64 s1.k,.int .i64 s1.f],.agg Vz,.bool false]) ZH rfl ⟨_,_,_,_,rfl,⟨AZ (xs:=[]) rfl (Aj _) (Ao _) (.inl rfl),AZ (xs:=[]) rfl (Aj _) (Ao _) (.inl rfl),Et,AZ (xs:=[]) rfl (Aj _) (Ao _) (.inl rfl)⟩,hbF⟩
def Rs.fin(L:Nat)(s:Rs):Rs:=if s.p<L then s.fail 9 s.p else s
theorem Rs.U6(h:s.ok L):(s.fin L).ok L:=by
 unfold Rs.fin;split
 ·exact Rs.BH h zD
 ·exact h
theorem US(w:World){g:Nat}{B:List UInt8}{a:Option Addr}{s:Rs}(h:AY w g B a s):Calls Tryz.prog 211 #[.pointer (some ⟨g,0,none⟩)] w fun r w'=>r=.returned (.tuple #[])∧AB w g B a (s.fin B.length) w':=by
 have HLF:=hid (KN w h);have HH:=hid h;have hln:=h.len;have hle:=h.ok.le;unfold Rs.fin;clear h;by_cases hp:s.p<B.length
 ·rw[An hp]
  have d1:decide ((0:Int)<(B.length:Int)-(s.p:Int))=true:=Ae zD;have d2:decide (s.p<B.length)=true:=Ae hp;clear hp;go_enter Tryz.func211,Tryz.ntmps211;go_wp2_with fail;refine HLF.out.mono ?_;rintro r w1 ⟨rfl,hb1⟩;have HH1:=hid (HH.out.later hb1);have x1:=HH1.out.blk.cell 1;simp at x1;go_wp2_with fail;refine (Br w1 HH1.out 9 (s.p:Int) zD).mono ?_;rintro r w2 ⟨rfl,hst⟩;have HST:=hid (AB.trans (s':=s.fail 9 s.p) (Tch.Ce (F:=(·=g)) hb1) hst);clear hst x1;go_wp2;first | go_end0 | refine Af (Av rfl _ _ _) rfl ?_
  exact⟨rfl,HST.out⟩
 ·rw[Ak hp]
  have d1:decide ((0:Int)<(B.length:Int)-(s.p:Int))=false:=Ad zD;have d2:decide (s.p<B.length)=false:=Ad hp;clear hp;go_enter Tryz.func211,Tryz.ntmps211;go_wp2_with fail;refine HLF.out.mono ?_;rintro r w1 ⟨rfl,hb1⟩;have HST:=hid (AB.later HH.out hb1);go_wp2;first | go_end0 | refine Af (Av rfl _ _ _) rfl ?_
  exact⟨rfl,HST.out⟩
theorem RM(w:World)(a:Option Addr)(n c:Nat)(s:Rs)(hn:n≤9223372036854775807):Calls Tryz.prog 140 #[CV a n c s] w fun r w'=>r=.returned (CV a n c (s.fin n))∧Below w.heap.size w w':=by
 unfold Rs.fin;by_cases hp:s.p<n
 ·rw[An hp]
  have d1:decide ((s.p:Int)<(n:Int))=true:=Ae zD;have d2:decide (s.p<n)=true:=Ae hp;have HF:=hid (fun (W:World)=>Bk W a n c s 9 (s.p:Int) zD);unfold CV at*;clear hp;go_enter Tryz.func140,Tryz.ntmps140;go_wp2_with fail;refine (HF.out _).mono ?_;rintro r w1 ⟨rfl,hb⟩;have B1:Blk w1 (w.heap.size+1) 60 #[.slice none 0 0,.int .i64 0,.int .i64 0,.int .i64 0]:=Blk.later zB hb;obtain⟨y0,y1,y2,y3,g0,g1,g2,g3,l1⟩:=Aq B1;have hbw:Below w.heap.size w w1:=zA;clear B1 hb;go_wp2;refine Af (v:=.agg #[.slice a n c,.int .i64 ((s.fail 9 (s.p:Int)).p:Int),.int .i64 (s.fail 9 (s.p:Int)).k,.int .i64 (s.fail 9 (s.p:Int)).f]) (by simp[results,Tryz.results140,go_sem,y0,y1,y2,y3,l1]) rfl ⟨rfl,zA⟩
 ·rw[Ak hp]
  have d1:decide ((s.p:Int)<(n:Int))=false:=Ad zD;have d2:decide (s.p<n)=false:=Ad hp;unfold CV at*;clear hp;go_enter Tryz.func140,Tryz.ntmps140;go_wp2;refine Af (v:=.agg #[.slice a n c,.int .i64 (s.p:Int),.int .i64 s.k,.int .i64 s.f]) (by simp[results,Tryz.results140,go_sem]) rfl ⟨rfl,zA⟩
theorem Ko(w:World)(B:List UInt8)(a:Option Addr)(n c:Nat)(hl:Ah.r (·<w.heap.size) w [.slice a n c] B)(hB:B.length≤1000000000):
  Calls Tryz.prog 37 #[.slice a n c] w fun r w'=>∃q:Bool,r=.returned (.bool q)∧w=w':=by
 obtain⟨rfl,hm,_,_⟩:=AU hl;have HL:=hid hl;clear hl;go_enter Tryz.func37,Tryz.ntmps37;go_wp2;go_loop [3] (fun i=>∃k:Nat,k≤B.length∧i=.int .i64 k) (fun i=>B.length+1-(intOf i).toNat)
 case atStart=>exact ⟨0,Ao _,rfl⟩
 case round=>
  obtain⟨k,hk,rfl⟩:=hrel;by_cases h1:k+1<B.length
  ·obtain⟨b1,o1,hA1,hb1,hx1⟩:=Bt HL.out (i:=k) zD
   obtain⟨b2,o2,hA2,hb2,hx2⟩:=Bt HL.out (i:=k+1) h1;subst hA1;simp only[Cv,Ic,As] at hA2;obtain⟨rfl,rfl⟩:=hA2;have e1:decide ((k:Int)+1<(B.length:Int))=true:=Ae zD;have i1:(k:Int)<(B.length:Int):=zD;have i2:(k:Int)+1<(B.length:Int):=zD;generalize B[k].toNat=x at*;generalize B[k+1].toNat=y at*;by_cases c1:128≤x
   ·have d1:decide ((128:Int)≤(x:Int))=true:=Ae zD
    have d1':decide (128≤x)=true:=Ae c1;by_cases c2:3≤y
    ·have d2:decide ((3:Int)≤(y:Int))=true:=Ae zD
     have d2':decide (3≤y)=true:=Ae c2;go_wp2;go_ret;first | exact⟨.inl rfl,rfl⟩ | exact⟨.inr rfl,rfl⟩
    ·have d2:decide ((3:Int)≤(y:Int))=false:=Ad zD
     have d2':decide (3≤y)=false:=Ad c2;go_wp2;go_round
     case rel=>exact ⟨k+1,zD,zZ⟩
     case measure=>simp [intOf];omega
   ·have d1:decide ((128:Int)≤(x:Int))=false:=Ad zD
    have d1':decide (128≤x)=false:=Ad c1;go_wp2;go_round
    case rel=>exact ⟨k+1,zD,zZ⟩
    case measure=>simp [intOf];omega
  ·have e1:decide ((k:Int)+1<(B.length:Int))=false:=Ad zD
   go_wp2;go_ret;first | exact⟨.inl rfl,rfl⟩ | exact⟨.inr rfl,rfl⟩
end Go.Proofs.YtlbffbkbkajciaaGreat
