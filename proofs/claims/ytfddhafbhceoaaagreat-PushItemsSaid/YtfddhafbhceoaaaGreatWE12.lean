/- Mini: Needed by pushItems_walk, part 12: texts put together by shake.py; no condition. -/
import Derived.Test.YtfddhafbhceoaaaGreatWE3
import Derived.Test.YtfddhafbhceoaaaGreatWE2
import Derived.Test.YtfddhafbhceoaaaGreatWE11
import Derived.Test.YtfddhafbhceoaaaGreatWE10
import Derived.Test.YtfddhafbhceoaaaGreatWE9
import Derived.Test.YtfddhafbhceoaaaGreatWE8
import Derived.Test.YtfddhafbhceoaaaGreatWE6
import Derived.Test.YtfddhafbhceoaaaGreatWE5
import Derived.Test.YtfddhafbhceoaaaGreatWE1
set_option linter.unusedVariables false
set_option linter.unusedSimpArgs false
set_option maxRecDepth 100000
set_option maxHeartbeats 6400000
namespace Go.Bs
theorem zB2{p:Prop}(h:p:=by have := hb.1; dsimp only; omega):p:=h
theorem zBr{p:Prop}(h:p:=by have := HUU.out.lt g HUU.out.own; have := HI2.out.lm; dsimp only; omega):p:=h
theorem ZS{p:Prop}(h:p:=by have := HUU.out.lt g HUU.out.own; dsimp only; omega):p:=h
theorem ZG{p:Prop}(h:p:=by first | rfl | trivial):p:=h
theorem zZ{p:Prop}(h:p:=by simp only [DB, Aa, Ab, Ac]):p:=h
theorem zR{p:Prop}(h:p:=by first | (simp only [DB, Aa, Ab, Ac]; done) | (simp only [DB, Aa, Ab, Ac]; rfl)):p:=h
abbrev AcH(h:Array Value:=by exact #[.int .i64 (s.p:Int),.pointer (some ⟨w.heap.size,0,none⟩),.pointer (some ⟨M,0,none⟩)]):=h
abbrev AcJ(h:Array Value:=by exact #[.pointer (some ⟨w.heap.size,0,none⟩),.pointer (some ⟨M,0,none⟩),.pointer (some ⟨w.heap.size+1,0,none⟩)]):=h
theorem Cd:type_of% @Proofs.Tryz.ntmps307:=@Proofs.Tryz.ntmps307
theorem Ct:type_of% @Proofs.Tryz.func307:=@Proofs.Tryz.func307
end Go.Bs
namespace Go.Proofs.YtfddhafbhceoaaaGreat
open Go.RowKit Go.Bs Go.Maps
variable{caps:Array Value}{h q:Bool}{k pos:Int}{B:List UInt8}{m:Msg}{M fn g lo:Nat}{K:Nat → Prop}{a:Option Addr}{s:Rs}{t:TypeId}{v0 v1 v2 v3 v4:Value}{W W' w w':World}{X:World → Bool → Prop}
theorem Rs.FQ{α:Type}{f:Rs→Rs × α}{z:α}(hk:(Rs.part h s f z).1.k=0)(hf:(f s).1.k=0→s.k=0):s.k=0:=by
 cases h
 ·exact hk
 ·exact hf hk
theorem Rs.Fz{α:Type}{f:Rs→Rs × α}{z:α}{Q:α→Prop}{b:α→List UInt8}(hk:(Rs.part h s f z).1.k=0)
 (yes:(f s).1.k=0→Q (f s).2∧B.drop s.p=b (f s).2++B.drop (f s).1.p):
  (h=true→Q (Rs.part h s f z).2)∧(h=false→(Rs.part h s f z).2=z)∧B.drop s.p=AQ h (b (Rs.part h s f z).2)++B.drop (Rs.part h s f z).1.p:=by
 cases h
 ·exact⟨fun e=>zAd,fun _=>rfl,rfl⟩
 ·exact⟨fun _=>(yes hk).1,fun e=>zAd,(yes hk).2⟩
theorem Rs.OE(hs:s.ok B.length)(h:(s.byte B).1.k=0):B.drop s.p=[(s.byte B).2]++B.drop (s.byte B).1.p∧s.k=0:=by
 by_cases hk:s.k=0
 ·refine⟨?_,hk⟩
  by_cases hl:(B.length:Int)-s.p<1
  ·have:(s.byte B).1.k=1:=by
    unfold Rs.byte Rs.skip;rw[Ai hk,Ak zD,Ai hl]
   omega
  ·have hle:=hs.le
   have e:s.byte B=(⟨s.p+1,0,0⟩,B.getD s.p 0):=by
    unfold Rs.byte Rs.skip;rw[Ai hk,Ak zD,Ak hl];rfl
   rw[e];dsimp only;rw[Jg B s.p 0 zD,AS (show s.p<B.length by omega)];rfl
 ·rw[Rs.MV hk] at h
  exact absurd h hk
theorem Rs.Px(hs:s.ok B.length)(h:(s.Fk B).1.k=0):(poR (s.Fk B).2=true∧0≤(s.Fk B).2)∧B.drop s.p=Az (s.Fk B).2.toNat++B.drop (s.Fk B).1.p:=by
 have:=Rs.XR hs h;exact⟨⟨this.1,Int.natCast_nonneg _⟩,this.2.1⟩
theorem Rs.Ab5(h:(s.Fk B).1.k=0):s.k=0:=
 Be fun hh=>hh (by rw[Rs.N5 hh] at h;exact h)
theorem Rs.WE(hs:s.ok B.length)(h:(s.cnt B).1.k=0):(1≤(s.cnt B).2∧(s.cnt B).2≤65536)∧B.drop s.p=Az (s.cnt B).2.toNat++B.drop (s.cnt B).1.p:=
 ⟨Rs.AbJ h,Rs.I8 hs h⟩
theorem Rs.Aba(h:(s.cnt B).1.k=0):s.k=0:=
 Be fun hh=>hh (by rw[Rs.OC hh] at h;exact h)
theorem Rs.Aa3(h:(s.stt B k).1.k=0):s.k=0:=
 Be fun hh=>hh (by rw[Rs.Ny hh] at h;exact h)
theorem Rs.Xo(h:(s.GP B).1.k=0):s.k=0:=
 Be fun hh=>hh (by rw[Rs.Mq hh] at h;exact h)
theorem Rs.VR(hs:s.ok B.length)(h:(s.stt B k).1.k=0):(1≤(s.stt B k).2∧(s.stt B k).2≤Em k)∧B.drop s.p=[UInt8.ofNat (s.stt B k).2.toNat]++B.drop (s.stt B k).1.p:=by
 refine⟨Rs.Abi h,?_⟩;unfold Rs.stt at h ⊢;dsimp only at h ⊢;split at h
 ·rename_i h1
  rw[Ai h1,Cc,UInt8.ofNat_toNat];exact (Rs.OE hs h).1
 ·exact absurd h (Rs.BE zD)
theorem Rs.Th{B:List UInt8}{s:Rs}(hs:s.ok B.length)(h:(s.GP B).1.k=0):(((s.GP B).2.length≤16∧Bj (s.GP B).2=true)∧∀x∈(s.GP B).2,0≤x∧x≤18446744073709551615)∧B.drop s.p=Dw (s.GP B).2++B.drop (s.GP B).1.p:=by
 have hr:=Rs.Ku (B:=B) (s.int B 16).2 (s.int B 16).1 [] rfl h;unfold Rs.GP at h ⊢;have hb:=fun hk=>Rs.Ie (B:=B) (s:=(s.int B 16).1) (out:=[]) hk (s.int B 16).2;have hk1:(s.int B 16).1.k=0:=Be fun hh=>hb hh h;obtain⟨t,t1,t2,t3,t4⟩:=Rs.IW (B:=B) (s.int B 16).2 (s.int B 16).1 none [] (Rs.FU hs) (.inl ⟨rfl,rfl⟩) h;obtain⟨m1,m2,_⟩:=Rs.Hf hs hk1;rw[AV] at t1;rw[t1] at hr ⊢;refine⟨⟨⟨zD,hr⟩,t3⟩,?_⟩;rw[m1,t4];unfold Dw GO;rw[t2,Ao]
theorem Rs.Vm(hs:s.ok B.length)(hp:pos≤18446744073709551615)(h:(s.links B pos).1.k=0):s.k=0:=(Rs.Ih hs hp h).2.2.2
theorem Rs.M6{B:List UInt8}{k:Int}{A C D:Rs × Int}{E:Rs × List Int}{F:Rs × List BH}(hs:s.ok B.length)(hA:Rs.part (AE k 1) s (Rs.Fk B) 0=A)(hB:Rs.part (AE k 2) A.1 (Rs.cnt B) 0=C)(hC:Rs.part (AE k 4) C.1 (Rs.stt B k) 0=D)
 (hD:Rs.part (AE k 8) D.1 (Rs.GP B) []=E) (hF:Rs.part (AE k 16) E.1 (fun t=>t.links B A.2) []=F) (h:F.1.k=0):
  Bv (AE k 1) (poR A.2) (decide (A.2=0))=true∧Bv (AE k 2) (decide (1≤C.2∧C.2≤65536)) (decide (C.2=0))=true∧
   Bv (AE k 4) (decide (1≤D.2∧D.2≤Em k)) (decide (D.2=0))=true∧Bv (AE k 8) (decide (E.2.length≤16)&&Bj E.2) (decide (E.2.length=0))=true∧
   Bv (AE k 16) (CH A.2 F.2) (decide (F.2.length=0))=true∧inU A.2∧(∀x∈E.2,0≤x∧x≤18446744073709551615)∧(∀x∈F.2,PK x)∧s.k=0∧
   B.drop s.p=(AQ (AE k 1) (Az A.2.toNat)++(AQ (AE k 2) (Az C.2.toNat)++(AQ (AE k 4) [UInt8.ofNat D.2.toNat]++
    (AQ (AE k 8) (Dw E.2)++AQ (AE k 16) (Ci A.2 F.2)))))++B.drop F.1.p:=by
 have o1:=Rs.EI (h:=AE k 1) (z:=(0:Int)) hs (Rs.XQ hs);rw[hA] at o1;have o2:=Rs.EI (h:=AE k 2) (z:=(0:Int)) o1 (Rs.YR o1);rw[hB] at o2;have o3:=Rs.EI (h:=AE k 4) (z:=(0:Int)) o2 (Rs.Xm (k:=k) o2);rw[hC] at o3;have o4:=Rs.EI (h:=AE k 8) (z:=([]:List Int)) o3 (Rs.U9 o3);rw[hD] at o4;have h0:=h;rw[←hF] at h;have up:A.2≤18446744073709551615:=by
  rw[←hA];unfold Rs.part;split
  ·rename_i hh
   have hz:(s.Fk B).1.k=0∨(s.Fk B).1.k≠0:=zD;rcases hz with hz | hz
   ·have:=(Rs.Px hs hz).1.1
    simp only[poR,Av] at this;omega
   ·exfalso
    have e1:A=s.Fk B:=by rw[←hA,hh];rfl
    have k4:=Rs.FQ h fun hf=>Be fun hn=>hn (by
     have hq:(A.2≤18446744073709551615)∨¬(A.2≤18446744073709551615):=Decidable.em _;rcases hq with hq | hq
     ·exact Rs.Vm o4 hq hf
     ·exact absurd hf (by
       unfold Rs.links;rw[Rs.Ij hn];unfold Rs.DS;exact hn))
    rw[←hD] at k4;have k3:=Rs.FQ k4 Rs.Xo;rw[←hC] at k3;have k2:=Rs.FQ k3 Rs.Aa3;rw[←hB] at k2;have k1:=Rs.FQ k2 Rs.Aba;rw[e1] at k1;exact hz k1
  ·dsimp only;omega
 have k4:=Rs.FQ h (Rs.Vm o4 up);have c5:=Rs.Fz (B:=B) (Q:=fun l=>CH A.2 l=true∧∀x∈l,PK x) (b:=Ci A.2) h fun hf=>⟨⟨(Rs.Ih o4 up hf).1,(Rs.Ih o4 up hf).2.1⟩,(Rs.Ih o4 up hf).2.2.1⟩;rw[hF] at c5;have k4':=k4;rw[←hD] at k4;have k3:=Rs.FQ k4 Rs.Xo;have c4:=Rs.Fz (B:=B) (Q:=fun l=>(l.length≤16∧Bj l=true)∧∀x∈l,0≤x∧x≤18446744073709551615) (b:=Dw) k4 (Rs.Th o3);rw[hD] at c4;rw[←hC] at k3;have k2:=Rs.FQ k3 Rs.Aa3;have c3:=Rs.Fz (B:=B) (Q:=fun x=>1≤x∧x≤Em k) (b:=fun x=>[UInt8.ofNat x.toNat]) k3 (Rs.VR o2);rw[hC] at c3;rw[←hB] at k2;have k1:=Rs.FQ k2 Rs.Aba;have c2:=Rs.Fz (B:=B) (Q:=fun x=>1≤x∧x≤65536) (b:=fun x=>Az x.toNat) k2 (Rs.WE o1);rw[hB] at c2;rw[←hA] at k1;have k0:=Rs.FQ k1 Rs.Ab5;have c1:=Rs.Fz (B:=B) (Q:=fun x=>poR x=true∧0≤x) (b:=fun x=>Az x.toNat) k1 (Rs.Px hs);rw[hA] at c1
 (try dsimp only at c1 c2 c3 c4 c5)
 refine⟨?_,?_,?_,?_,?_,?_,?_,?_,k0,?_⟩
 ·cases hh:AE k 1
  ·exact Ad (c1.2.1 hh)
  ·exact (c1.1 hh).1
 ·cases hh:AE k 2
  ·exact Ad (c2.2.1 hh)
  ·exact Ad (c2.1 hh)
 ·cases hh:AE k 4
  ·exact Ad (c3.2.1 hh)
  ·exact Ad (c3.1 hh)
 ·cases hh:AE k 8
  ·exact Ad (by rw[c4.2.1 hh];rfl)
  ·show (_&&_)=true
   rw[(c4.1 hh).1.2,Ad (c4.1 hh).1.1];rfl
 ·cases hh:AE k 16
  ·exact Ad (by rw[c5.2.1 hh];rfl)
  ·exact (c5.1 hh).1
 ·refine⟨?_,up⟩
  cases hh:AE k 1
  ·rw[c1.2.1 hh];omega
  ·exact (c1.1 hh).2
 ·cases hh:AE k 8
  ·rw[c4.2.1 hh];simp
  ·exact (c4.1 hh).2
 ·cases hh:AE k 16
  ·rw[c5.2.1 hh];simp
  ·exact (c5.1 hh).2
 ·rw[c1.2.2,c2.2.2,c3.2.2,c4.2.2,c5.2.2]
  simp only[Ao]
theorem Rs.S4(hs:s.ok B.length)(h:(s.ahead B k).1.k=0):
  ∃a:Abf,(s.ahead B k).2=a∧Bv (AE k 1) (poR a.pos) (decide (a.pos=0))=true∧Bv (AE k 2) (decide (1≤a.count∧a.count≤65536)) (decide (a.count=0))=true∧
   Bv (AE k 4) (decide (1≤a.state∧a.state≤Em k)) (decide (a.state=0))=true∧Bv (AE k 8) (decide (a.streams.length≤16)&&Bj a.streams) (decide (a.streams.length=0))=true∧
   Bv (AE k 16) (CH a.pos a.links) (decide (a.links.length=0))=true∧inU a.pos∧(∀x∈a.streams,0≤x∧x≤18446744073709551615)∧(∀x∈a.links,PK x)∧s.k=0∧
   B.drop s.p=(AQ (AE k 1) (Az a.pos.toNat)++(AQ (AE k 2) (Az a.count.toNat)++(AQ (AE k 4) [UInt8.ofNat a.state.toNat]++
    (AQ (AE k 8) (Dw a.streams)++AQ (AE k 16) (Ci a.pos a.links)))))++B.drop (s.ahead B k).1.p:=
 ⟨_,rfl,Rs.M6 hs rfl rfl rfl rfl rfl h⟩
theorem Di{P:Program}{f:Func}{Q:Ending→World→Prop}{e:Exit}{a:Act}(F:World→Prop)(hF:F w)(h:∀W,F W→bodyPost P f Q e a W):bodyPost P f Q e a w:=h w hF
theorem size_set(w:World)(p:Addr)(u:Value):(w.setCell p u).heap.size=w.heap.size:=ZK
structure Ch(w:World)(g:Nat)(B:List UInt8)(a:Option Addr)(fn:Nat)(caps:Array Value)(blk:Rs→Rs × List UInt8 × Bool)(K:Nat→Prop)(X:World→Bool→Prop):Prop where
 lt:∀b,K b→b<w.heap.size
 own:K g
 st:∀W W' q,X W q→w.heap.size≤W.heap.size→Tch (fun b=>b=g∨w.heap.size≤b) W W'→X W' q
 call:∀W t q0,A6 W g B a t→X W q0→w.heap.size≤W.heap.size→Tch K w W→Calls Tryz.prog fn caps W fun r W'=>∃v,r=.returned v∧Ah.r (FZ W W') W' [v] (blk t).2.1∧A6 W' g B a (blk t).1∧Tch K W W'∧X W' (blk t).2.2
 size:∀t,(blk t).2.1.length≤1048576
 dat:Ah.r (fun q=>q<w.heap.size∧¬K q) w [.slice a B.length B.length] B
 bad:∀t:Rs,t.k≠0→(blk t).1=t∧(blk t).2.1=[]
 ent:∀(xs:Array Value) (W:World),(callFunc fn xs).run Tryz.prog W=.ok (.enter fn xs) W
abbrev DB(m:Msg)(v1 v2 v3 v4:Value):Array Value:=#[.int .i64 m.kind,.int .u64 m.epoch,.int .u64 m.seq,.int .u64 m.pos,.int .i64 m.count,.int .i64 m.state,v1,v2,v3,.int .u64 m.sea.epoch,.int .u64 m.sea.node,.int .u64 m.sea.tail,.int .u64 m.proj.epoch,v4]
abbrev zeroCells:Array Value:=#[.int .i64 0,.int .u64 0,.int .u64 0,.int .u64 0,.int .i64 0,.int .i64 0,.slice none 0 0,.slice none 0 0,.slice none 0 0,.int .u64 0,.int .u64 0,.int .u64 0,.int .u64 0,.slice none 0 0]
structure C5(w:World)(g:Nat)(B:List UInt8)(a:Option Addr)(K:Nat→Prop)(X:World→Bool→Prop)(q:Bool)(M lo:Nat)(k:Int)(m:Msg)(v1 v2 v3 v4:Value)(s:Rs)(W:World):Prop where
 rd:A6 W g B a s
 dat:Ah.r (fun b=>b<w.heap.size∧¬K b) W [.slice a B.length B.length] B
 pa:Blk W w.heap.size 112 #[.pointer (some ⟨g,0,none⟩)]
 pk:Blk W (w.heap.size+1) 3 #[.int .i64 k]
 pr:Blk W (w.heap.size+1+1) 45 zeroCells
 pm:Blk W M 45 (DB m v1 v2 v3 v4)
 lm:w.heap.size+1+1<M∧M<lo
 low:lo≤W.heap.size
 st:Bb.r (fun b=>lo≤b∧b<W.heap.size) W [v1] m.streams
 ln:Cm.r (fun b=>lo≤b∧b<W.heap.size) W [v2] m.links
 da:Ah.r (fun b=>lo≤b∧b<W.heap.size) W [v3] m.data
 sp:Bq.r (fun b=>lo≤b∧b<W.heap.size) W [v4] m.proj.stripes
 tch:Tch K w W
 x:X W q
section
variable {w:World} {g:Nat} {B:List UInt8} {a:Option Addr} {K:Nat→Prop} {X:World→Bool→Prop} {q:Bool} {M lo:Nat} {k:Int} {m:Msg} {v1 v2 v3 v4:Value} {s:Rs} {W:World} {fn:Nat} {caps:Array Value} {blk:Rs→Rs × List UInt8 × Bool}
theorem C5.Aa4{q':Bool}{s':Rs}(hU:Ch w g B a fn caps blk K X)(h:C5 w g B a K X q M lo k m v1 v2 v3 v4 s W)(kt:Tch K W W')(kr:A6 W' g B a s')(kx:X W' q'):C5 w g B a K X q' M lo k m v1 v2 v3 v4 s' W':=by
 have hw:=h.tch.size;have hlm:=h.lm;have hK:∀b,w.heap.size≤b→¬K b:=fun b hb e=>absurd (hU.lt b e) zD;have hk:∀b,lo≤b∧b<W.heap.size→W'.heap[b]? =W.heap[b]? :=fun b hb=>kt.block b hb.2 (hK b zD);have hm:∀b,lo≤b∧b<W.heap.size→lo≤b∧b<W'.heap.size:=fun b hb=>⟨hb.1,Aj hb.2 kt.size⟩;exact⟨kr,Ah.keep h.dat fun b hb=>kt.block b (Aj hb.1 hw) hb.2,h.pa.tch kt (hK _ (An _)),h.pk.tch kt (hK _ zD),h.pr.tch kt (hK _ zD),h.pm.tch kt (hK _ zD),hlm,A4 h.low kt.size,
  Bb.mono (Bb.keep h.st hk) hm,Cm.mono (Cm.keep h.ln hk) hm,Ah.mono (Ah.keep h.da hk) hm,Bq.mono (Bq.keep h.sp hk) hm,h.tch.trans kt fun b _ e=>e,kx⟩
theorem C5.step{s':Rs}(hU:Ch w g B a fn caps blk K X)(h:C5 w g B a K X q M lo k m v1 v2 v3 v4 s W)(kk:AG W g B a s' W'):C5 w g B a K X q M lo k m v1 v2 v3 v4 s' W':=
 h.Aa4 hU (kk.2.mono fun b _ e=>e ▸ hU.own) kk.1 (hU.st W W' q h.x h.tch.size (kk.2.mono fun b _ e=> .inl e))
theorem C5.later(hU:Ch w g B a fn caps blk K X)(h:C5 w g B a K X q M lo k m v1 v2 v3 v4 s W)(hb:Below W.heap.size W W'):C5 w g B a K X q M lo k m v1 v2 v3 v4 s W':=h.step hU (AG.later h.rd hb)
theorem C5.M3(hU:Ch w g B a fn caps blk K X)(h:C5 w g B a K X q M lo k m v1 v2 v3 v4 s W)(i:Nat)(u:Value){m':Msg}{v1' v2' v3' v4':Value}(hc:(DB m v1 v2 v3 v4).setIfInBounds i u=DB m' v1' v2' v3' v4')
 (h1:Bb.r (fun b=>lo≤b∧b<W.heap.size) W [v1'] m'.streams) (h2:Cm.r (fun b=>lo≤b∧b<W.heap.size) W [v2'] m'.links) (h3:Ah.r (fun b=>lo≤b∧b<W.heap.size) W [v3'] m'.data) (h4:Bq.r (fun b=>lo≤b∧b<W.heap.size) W [v4'] m'.proj.stripes):C5 w g B a K X q M lo k m' v1' v2' v3' v4' s (W.setCell ⟨M,i,none⟩ u):=by
 have hw:=h.tch.size;have hlm:=h.lm;have hlow:=h.low;have hgw:g<w.heap.size:=hU.lt g hU.own;have hz:(W.setCell ⟨M,i,none⟩ u).heap.size=W.heap.size:=size_set _ _ _;have hT:Tch (fun b=>b=g∨w.heap.size≤b) W (W.setCell ⟨M,i,none⟩ u):=(Tch.refl _ _).setCell (fun _=> .inr zJ) _;have hk:∀b,lo≤b∧b<W.heap.size→(W.setCell ⟨M,i,none⟩ u).heap[b]? =W.heap[b]? :=fun b hb=>AB _ _ _ _ zB2;have hm:∀b,lo≤b∧b<W.heap.size→lo≤b∧b<(W.setCell ⟨M,i,none⟩ u).heap.size:=fun b hb=>⟨hb.1,zD⟩;have hd:Ah.r (fun b=>b<w.heap.size∧¬K b) (W.setCell ⟨M,i,none⟩ u) [.slice a B.length B.length] B:=Ah.keep h.dat fun b hb=>AB _ _ _ _ zB2;refine⟨⟨Blk.far h.rd.blk zJ _,Ah.mono hd fun b hb=>⟨zAl,fun e=>hb.2 (e ▸ hU.own)⟩,h.rd.ok⟩,hd,Blk.far h.pa zJ _,Blk.far h.pk zJ _,Blk.far h.pr zJ _,?_,hlm,zD,
  Bb.mono (Bb.keep h1 hk) hm,Cm.mono (Cm.keep h2 hk) hm,Ah.mono (Ah.keep h3 hk) hm,Bq.mono (Bq.keep h4 hk) hm,h.tch.setCell (fun e=>absurd e zJ) _,hU.st W _ q h.x hw hT⟩
 rw[←hc];exact h.pm.set i u
theorem C5.grow{W':World}(h:C5 w g B a K X q M lo k m v1 v2 v3 v4 s W):Bb.r (fun b=>lo≤b∧b<W.heap.size) W [v1] m.streams∧Cm.r (fun b=>lo≤b∧b<W.heap.size) W [v2] m.links∧Ah.r (fun b=>lo≤b∧b<W.heap.size) W [v3] m.data∧Bq.r (fun b=>lo≤b∧b<W.heap.size) W [v4] m.proj.stripes:=⟨h.st,h.ln,h.da,h.sp⟩
end
theorem Cz{v5 v6 v7 v8 v9 v10 v11 v12 v13:Value}(h:Blk w g t #[v0,v1,v2,v3,v4,v5,v6,v7,v8,v9,v10,v11,v12,v13]):
  w.cell? ⟨g,0,none⟩=some v0∧w.cell? ⟨g,1,none⟩=some v1∧w.cell? ⟨g,2,none⟩=some v2∧w.cell? ⟨g,3,none⟩=some v3∧w.cell? ⟨g,4,none⟩=some v4∧w.cell? ⟨g,5,none⟩=some v5∧w.cell? ⟨g,6,none⟩=some v6∧w.cell? ⟨g,7,none⟩=some v7∧w.cell? ⟨g,8,none⟩=some v8∧w.cell? ⟨g,9,none⟩=some v9∧w.cell? ⟨g,10,none⟩=some v10∧w.cell? ⟨g,11,none⟩=some v11∧w.cell? ⟨g,12,none⟩=some v12∧w.cell? ⟨g,13,none⟩=some v13∧g<w.heap.size:=
 ⟨h.cell 0,h.cell 1,h.cell 2,h.cell 3,h.cell 4,h.cell 5,h.cell 6,h.cell 7,h.cell 8,h.cell 9,h.cell 10,h.cell 11,h.cell 12,h.cell 13,h.lt⟩
theorem Ht{cs:Array Value}(h:Blk w g t cs)(i:Nat):w.frozen? ⟨g,i,none⟩=false:=h.free i
theorem Lu{w:World}{g:Nat}{B:List UInt8}{a:Option Addr}{s:Rs}(h:A6 w g B a s)(p:Int)(R:Bool):
  Calls Tryz.prog 310 #[.pointer (some ⟨g,0,none⟩),.int .i64 p,.bool R] w fun r w'=>r=.returned (.tuple #[])∧AG w g B a (if R=true then s else s.fail 3 p) w':=by
 have HF:=hid (BP w h 3 p zD);have HR:=hid (AG.refl h);clear h;cases R
 ·go_enter Tryz.func310,Tryz.ntmps310
  go_wp2_with fail;refine HF.out.mono ?_;rintro r w1 ⟨rfl,hst⟩;have HST:=hid hst;clear hst;go_wp2_with fail;first | go_end0 | refine Al (Ax rfl _ _ _) rfl ?_
  exact⟨rfl,HST.out⟩
 ·go_enter Tryz.func310,Tryz.ntmps310
  go_wp2_with fail;first | go_end0 | refine Al (Ax rfl _ _ _) rfl ?_
  exact⟨rfl,HR.out⟩
theorem WJ{w:World}{g:Nat}{B:List UInt8}{a:Option Addr}{K:Nat→Prop}{X:World→Bool→Prop}{q:Bool}{M lo:Nat}{k:Int}{m:Msg}{v1 v2 v3 v4:Value}{s:Rs}{blk:Rs→Rs × List UInt8 × Bool}(hU:Ch w g B a fn caps blk K X)(hB:B.length≤1000000000)(h:C5 w g B a K X q M lo k m v1 v2 v3 v4 s W)(p:Int):
  Calls Tryz.prog 308 #[.int .i64 p,.pointer (some ⟨w.heap.size,0,none⟩),.pointer (some ⟨M,0,none⟩)] W fun r W'=>r=.returned (.tuple #[])∧C5 w g B a K X q M lo k {m with pos:=(s.Fk B).2} v1 v2 v3 v4 (s.Fk B).1 W':=by
 have p0:W.cell? ⟨w.heap.size,0,none⟩=some (.pointer (some ⟨g,0,none⟩)):=h.pa.cell 0;have HI:=hid h;have HUU:=hid hU;have HR:=hid (OZ W h.rd hB);clear h hU;go_enter Tryz.func308,Tryz.ntmps308;go_wp2_with fail;refine HR.out.mono ?_;rintro r w1 ⟨rfl,hst⟩;have HI1:=hid (HI.out.step HUU.out hst);have f3:=Ht HI1.out.pm 3;obtain⟨y0,y1,y2,y3,y4,y5,y6,y7,y8,y9,y10,y11,y12,y13,lm3⟩:=Cz HI1.out.pm;clear hst;go_wp2_with fail;first | go_end0 | refine Al (Ax rfl _ _ _) rfl ?_
 exact⟨rfl,HI1.out.M3 HUU.out 3 _ zR HI1.out.st HI1.out.ln HI1.out.da HI1.out.sp⟩
theorem SI{w:World}{g:Nat}{B:List UInt8}{a:Option Addr}{K:Nat→Prop}{X:World→Bool→Prop}{q:Bool}{M lo:Nat}{k:Int}{m:Msg}{v1 v2 v3 v4:Value}{s:Rs}{blk:Rs→Rs × List UInt8 × Bool}(hU:Ch w g B a fn caps blk K X)(hB:B.length≤1000000000)(h:C5 w g B a K X q M lo k m v1 v2 v3 v4 s W)(p:Int):
  Calls Tryz.prog 309 #[.int .i64 p,.pointer (some ⟨w.heap.size,0,none⟩),.pointer (some ⟨M,0,none⟩)] W fun r W'=>r=.returned (.tuple #[])∧(p=s.p→C5 w g B a K X q M lo k {m with count:=(s.cnt B).2} v1 v2 v3 v4 (s.cnt B).1 W'):=by
 have p0:W.cell? ⟨w.heap.size,0,none⟩=some (.pointer (some ⟨g,0,none⟩)):=h.pa.cell 0;have HI:=hid h;have HUU:=hid hU;have HR:=hid (Ef W h.rd zD 65536 zD);unfold Rs.cnt Rs.many;generalize s.int B 65536=I at*;obtain⟨s1,n⟩:=I;dsimp only at*;generalize hFF:(if n=0 then s1.fail 3 (s.p:Int) else s1)=sF;have HFF:=hid hFF;clear hFF;clear h hU;go_enter Tryz.func309,Tryz.ntmps309;go_wp2_with fail;refine HR.out.mono ?_;rintro r w1 ⟨rfl,hst⟩;have HI1:=hid (HI.out.step HUU.out hst);have f4:=Ht HI1.out.pm 4;obtain⟨y0,y1,y2,y3,y4,y5,y6,y7,y8,y9,y10,y11,y12,y13,lm4⟩:=Cz HI1.out.pm;have HI2:=hid (HI1.out.M3 HUU.out 4 (.int .i64 (n:Int)) (m':={m with count:=(n:Int)}) (v1':=v1) (v2':=v2) (v3':=v3) (v4':=v4) zZ HI1.out.st HI1.out.ln HI1.out.da HI1.out.sp);have p1:w1.cell? ⟨w.heap.size,0,none⟩=some (.pointer (some ⟨g,0,none⟩)):=HI1.out.pa.cell 0;have p2:(w1.setCell ⟨M,4,none⟩ (.int .i64 (n:Int))).cell? ⟨w.heap.size,0,none⟩=some (.pointer (some ⟨g,0,none⟩)):=HI2.out.pa.cell 0;have HC:=hid (fun R=>Lu HI2.out.rd p R);by_cases hn:n=0
 ·have d1:decide ((0:Int)<(n:Int))=false:=Ae zD
  have HN:=hid hn;clear hst hn;go_wp2_with fail;refine (HC.out _).mono ?_;rintro r w3 ⟨rfl,hst⟩;have HI3:=hid (HI2.out.step HUU.out hst);clear hst;go_wp2_with fail;first | go_end0 | refine Al (Ax rfl _ _ _) rfl ?_
  refine⟨rfl,fun e=> ?_⟩;subst e;have h3:=HI3.out;rw[Ae (show ¬0<n by have:=HN.out;omega)] at h3;rw[←HFF.out,Ai HN.out];exact h3
 ·have d1:decide ((0:Int)<(n:Int))=true:=Ad zD
  have HN:=hid hn;clear hst hn;go_wp2_with fail;refine (HC.out _).mono ?_;rintro r w3 ⟨rfl,hst⟩;have HI3:=hid (HI2.out.step HUU.out hst);clear hst;go_wp2_with fail;first | go_end0 | refine Al (Ax rfl _ _ _) rfl ?_
  refine⟨rfl,fun e=> ?_⟩;have h3:=HI3.out;rw[Ad (show 0<n by have:=HN.out;omega)] at h3;rw[←HFF.out,Ak HN.out];exact h3
theorem AG.Uk{s':Rs}(h:A6 w g B a s)(k:AG w.drew g B a s' w'):AG w g B a s' w':=⟨k.1,(Tch.refl (·=g) w).drew.trans k.2 fun _ _ e=>e⟩
theorem SE{w:World}{g:Nat}{B:List UInt8}{a:Option Addr}{K:Nat→Prop}{X:World→Bool→Prop}{q:Bool}{M lo:Nat}{k:Int}{m:Msg}{v1 v2 v3 v4:Value}{s:Rs}{blk:Rs→Rs × List UInt8 × Bool}(hU:Ch w g B a fn caps blk K X)(hB:B.length≤1000000000)(h:C5 w g B a K X q M lo k m v1 v2 v3 v4 s W)(p:Int):
  Calls Tryz.prog 311 #[.int .i64 p,.pointer (some ⟨w.heap.size,0,none⟩),.pointer (some ⟨M,0,none⟩),.pointer (some ⟨w.heap.size+1,0,none⟩)] W fun r W'=>r=.returned (.tuple #[])∧(p=s.p→C5 w g B a K X q M lo k {m with state:=(s.stt B k).2} v1 v2 v3 v4 (s.stt B k).1 W'):=by
 have p0:W.cell? ⟨w.heap.size,0,none⟩=some (.pointer (some ⟨g,0,none⟩)):=h.pa.cell 0;have HI:=hid h;have HUU:=hid hU;have HR:=hid (Nd W h.rd);have k0:W.cell? ⟨w.heap.size+1,0,none⟩=some (.int .i64 k):=h.pk.cell 0;have hb8:(s.byte B).2.toNat<256:=(s.byte B).2.toNat_lt;unfold Rs.stt;generalize s.byte B=I at*;obtain⟨s1,c⟩:=I;dsimp only at*;generalize c.toNat=n at*;generalize hFF:(if 1≤(n:Int)∧(n:Int)≤Em k then s1 else s1.fail 3 (s.p:Int))=sF;have HFF:=hid hFF;clear hFF;have hI64:(-9223372036854775808:Int)≤(n:Int):=zD;have hI65:(n:Int)≤9223372036854775807:=zD;clear h hU;go_enter Tryz.func311,Tryz.ntmps311;go_wp2_with fail;refine HR.out.mono ?_;rintro r w1 ⟨rfl,hst⟩;have HI1:=hid (HI.out.step HUU.out hst);have f5:=Ht HI1.out.pm 5;obtain⟨y0,y1,y2,y3,y4,y5,y6,y7,y8,y9,y10,y11,y12,y13,lm5⟩:=Cz HI1.out.pm;have HI2:=hid (HI1.out.M3 HUU.out 5 (.int .i64 (n:Int)) (m':={m with state:=(n:Int)}) (v1':=v1) (v2':=v2) (v3':=v3) (v4':=v4) zZ HI1.out.st HI1.out.ln HI1.out.da HI1.out.sp);clear hst;go_wp2_with fail;generalize w1.setCell ⟨M,5,none⟩ (.int .i64 (n:Int))=w2 at*;have p2:w2.cell? ⟨w.heap.size,0,none⟩=some (.pointer (some ⟨g,0,none⟩)):=HI2.out.pa.cell 0;have k2:w2.cell? ⟨w.heap.size+1,0,none⟩=some (.int .i64 k):=HI2.out.pk.cell 0;have m2:w2.cell? ⟨M,5,none⟩=some (.int .i64 (n:Int)):=HI2.out.pm.cell 5;have l1:=HI2.out.pa.lt;have l2:=HI2.out.pk.lt;have l3:=HI2.out.pm.lt;have HRD:=hid (HI2.out.rd.later (show Below w2.heap.size w2 w2.drew from (Below.refl _ _).drew));have HC:=hid (fun R=>Lu HRD.out p R);have HMO:=hid (fun (V:World)=>Qe k V);by_cases h1:1≤(n:Int)
 ·have d1:decide (1≤(n:Int))=true:=Ad h1
  obtain⟨R,hR⟩:∃R,R=decide ((n:Int)≤Em k):=⟨_,rfl⟩;have HRR:=hid hR;clear hR;generalize hmk:Em k=mk at*;have HMK:=hid hmk;clear hmk;refine CJ (S:=fun w'=>w'.cell? ⟨w.heap.size,0,none⟩=some (.pointer (some ⟨g,0,none⟩))∧w'.cell? ⟨M,5,none⟩=some (.int .i64 (n:Int))∧w'.cell? ⟨w.heap.size+1,0,none⟩=some (.int .i64 k)) zI ⟨p2,m2,k2⟩ (fun hHeld=> ?_);refine Ap (i:=0) (oi:=_) (v:=?_) rfl zE zE zE (fun _ _ _ h=>h) (Or.inl ⟨zS,?_⟩) zL ?_;rotate_left
  ·(intro w hSw;(try dsimp only at hSw);go_simp<;>with_reducible rfl)
  (try simp only[Act.put,Aa,Ab,Ac])
  refine Ap (i:=1) (oi:=_) (v:=?_) rfl zE zE zE (fun _ _ _ h=>h) (Or.inl ⟨zS,?_⟩) zL ?_;rotate_left
  ·(intro w hSw;(try dsimp only at hSw);go_simp<;>with_reducible rfl)
  (try simp only[Act.put,Aa,Ab,Ac])
  refine Ap (i:=2) (oi:=_) (v:=?_) rfl zE zE zE (fun _ _ _ h=>h) (Or.inl ⟨zS,?_⟩) zL ?_;rotate_left
  ·(intro w hSw;(try dsimp only at hSw);go_simp<;>with_reducible rfl)
  (try simp only[Act.put,Aa,Ab,Ac])
  refine Ap (i:=3) (oi:=_) (v:=?_) rfl zE zE zE (fun _ _ _ h=>h) (Or.inl ⟨zS,?_⟩) zL ?_;rotate_left
  ·(intro w hSw;(try dsimp only at hSw);go_simp<;>with_reducible rfl)
  (try simp only[Act.put,Aa,Ab,Ac])
  refine Ap (i:=4) (oi:=_) (v:=?_) rfl zE zE zE (fun _ _ _ h=>h) (Or.inl ⟨zS,?_⟩) zL ?_;rotate_left
  ·(intro w hSw;(try dsimp only at hSw);go_simp<;>with_reducible rfl)
  (try simp only[Act.put,Aa,Ab,Ac])
  refine Ap (i:=5) (oi:=_) (v:=?_) rfl zE zE zE (fun _ _ _ h=>h) (Or.inl ⟨zS,?_⟩) zL ?_;rotate_left
  ·(intro w hSw;(try dsimp only at hSw);go_simp<;>with_reducible rfl)
  (try simp only[Act.put,Aa,Ab,Ac])
  refine Ap (i:=6) (oi:=_) (v:=?_) rfl zE zE zE (fun _ _ _ h=>h) (Or.inl ⟨zI,?_⟩) zL ?_;rotate_left
  ·(intro w hSw;(try dsimp only at hSw);go_simp<;>with_reducible rfl)
  (try simp only[Act.put,Aa,Ab,Ac])
  refine Ap (i:=7) (oi:=_) (v:=?_) rfl zE zE zE (fun _ _ _ h=>h) (Or.inl ⟨zI,?_⟩) zL ?_;rotate_left
  ·(intro w hSw;(try dsimp only at hSw);go_simp<;>with_reducible rfl)
  (try simp only[Act.put,Aa,Ab,Ac])
  refine Ap (i:=8) (oi:=_) (v:=?_) rfl zE zE zE (fun _ _ _ h=>h) (Or.inl ⟨zI,?_⟩) zL ?_;rotate_left
  ·(intro w hSw;(try dsimp only at hSw);go_simp<;>with_reducible rfl)
  (try simp only[Act.put,Aa,Ab,Ac])
  (try simp only[AA,Ay,Aw,Act.put,Aa,Ab,Ac])
  refine AU (rs:=[9]) zE zN ?_;refine AK (o:=_) rfl (fun K hK=> ?_) AllReadyH.nil
  (go_simp;go_at_call 287;refine (HMO.out _).mono ?_;rintro e1 w7 ⟨rfl,rfl⟩;(try dsimp only))
  refine hK.out _ _ ?_ (fun hHeld=> ?_)
  ·((try dsimp only);first | (refine⟨?_,?_,?_⟩<;>(first | assumption | (go_keep;done))) | (refine⟨?_,?_⟩<;>(first | assumption | (go_keep;done))) | assumption | (go_keep;done))
  clear hK K
  (try simp only[Act.put,Aa,Ab,Ac])
  refine Ap (i:=10) (oi:=_) (v:=?_) rfl zE zE zE (fun _ _ _ h=>h) (Or.inl ⟨zI,?_⟩) zL ?_;rotate_left
  ·(intro w hSw;(try dsimp only at hSw);go_simp<;>with_reducible rfl)
  (try simp only[Act.put,Aa,Ab,Ac])
  refine Ap (i:=11) (oi:=_) (v:=?_) rfl zE zE zE (fun _ _ _ h=>h) (Or.inl ⟨zS,?_⟩) zL ?_;rotate_left
  ·(intro w hSw;(try dsimp only at hSw);go_simp<;>with_reducible rfl)
  (try simp only[Act.put,Aa,Ab,Ac])
  (try simp only[AA,Ay,Aw,Act.put,Aa,Ab,Ac])
  rw[←HRR.out];refine AU (rs:=[12]) zE zN ?_;refine AK (o:=_) rfl (fun K hK=> ?_) AllReadyH.nil
  (go_simp;go_at_call 310;refine (HC.out _).mono ?_;rintro e1 w8 ⟨rfl,hst8⟩;have HS8:=hid hst8;have n1:=(hst8.2.cell (p:=⟨w.heap.size,0,none⟩) (by exact l1) ZS).trans p2;have n2:=(hst8.2.cell (p:=⟨M,5,none⟩) (by exact l3) zBr).trans m2;have n3:=(hst8.2.cell (p:=⟨w.heap.size+1,0,none⟩) (by exact l2) ZS).trans k2;clear hst8;(try dsimp only))
  refine hK.out _ _ ?_ (fun hHeld=> ?_)
  ·((try dsimp only);first | (refine⟨?_,?_,?_⟩<;>(first | assumption | (go_keep;done))) | (refine⟨?_,?_⟩<;>(first | assumption | (go_keep;done))) | assumption | (go_keep;done))
  clear hK K
  (try simp only[Act.put,Aa,Ab,Ac])
  (try simp only[AA,Ay,Aw,Act.put,Aa,Ab,Ac])
  refine CS zI ?_ _;go_wp2_with fail;first | go_end0 | refine Al (Ax rfl _ _ _) rfl ?_
  refine⟨rfl,fun e=> ?_⟩;subst e;have hI3:=HI2.out.step HUU.out (AG.Uk HI2.out.rd HS8.out);have hEQ:(if R=true then s1 else s1.fail 3 (s.p:Int))=sF:=by
   rw[←HFF.out,HRR.out];by_cases hx:(n:Int)≤mk
   ·rw[Ai (Ad hx),Ai ⟨zD,hx⟩]
   ·rw[Ak (fun e=>hx (Bc e)),Ak (fun e=>hx e.2)]
  rw[hEQ] at hI3;exact hI3
 ·have d1:decide (1≤(n:Int))=false:=Ae h1
  refine CJ (S:=fun w'=>w'.cell? ⟨w.heap.size,0,none⟩=some (.pointer (some ⟨g,0,none⟩))∧w'.cell? ⟨M,5,none⟩=some (.int .i64 (n:Int))∧w'.cell? ⟨w.heap.size+1,0,none⟩=some (.int .i64 k)) zI ⟨p2,m2,k2⟩ (fun hHeld=> ?_);refine Ap (i:=0) (oi:=_) (v:=?_) rfl zE zE zE (fun _ _ _ h=>h) (Or.inl ⟨zS,?_⟩) zL ?_;rotate_left
  ·(intro w hSw;(try dsimp only at hSw);go_simp<;>with_reducible rfl)
  (try simp only[Act.put,Aa,Ab,Ac])
  refine Ap (i:=1) (oi:=_) (v:=?_) rfl zE zE zE (fun _ _ _ h=>h) (Or.inl ⟨zS,?_⟩) zL ?_;rotate_left
  ·(intro w hSw;(try dsimp only at hSw);go_simp<;>with_reducible rfl)
  (try simp only[Act.put,Aa,Ab,Ac])
  refine Ap (i:=2) (oi:=_) (v:=?_) rfl zE zE zE (fun _ _ _ h=>h) (Or.inl ⟨zS,?_⟩) zL ?_;rotate_left
  ·(intro w hSw;(try dsimp only at hSw);go_simp<;>with_reducible rfl)
  (try simp only[Act.put,Aa,Ab,Ac])
  refine Ap (i:=3) (oi:=_) (v:=?_) rfl zE zE zE (fun _ _ _ h=>h) (Or.inl ⟨zS,?_⟩) zL ?_;rotate_left
  ·(intro w hSw;(try dsimp only at hSw);go_simp<;>with_reducible rfl)
  (try simp only[Act.put,Aa,Ab,Ac])
  refine Ap (i:=4) (oi:=_) (v:=?_) rfl zE zE zE (fun _ _ _ h=>h) (Or.inl ⟨zS,?_⟩) zL ?_;rotate_left
  ·(intro w hSw;(try dsimp only at hSw);go_simp<;>with_reducible rfl)
  (try simp only[Act.put,Aa,Ab,Ac])
  refine Ap (i:=5) (oi:=_) (v:=?_) rfl zE zE zE (fun _ _ _ h=>h) (Or.inl ⟨zS,?_⟩) zL ?_;rotate_left
  ·(intro w hSw;(try dsimp only at hSw);go_simp<;>with_reducible rfl)
  (try simp only[Act.put,Aa,Ab,Ac])
  refine Ap (i:=6) (oi:=_) (v:=undef) rfl zE zE zE (fun _ _ _ h=>h) (Or.inr ⟨zI,rfl⟩) zL ?_
  (try simp only[Act.put,Aa,Ab,Ac])
  refine Ap (i:=7) (oi:=_) (v:=undef) rfl zE zE zE (fun _ _ _ h=>h) (Or.inr ⟨zI,rfl⟩) zL ?_
  (try simp only[Act.put,Aa,Ab,Ac])
  refine Ap (i:=8) (oi:=_) (v:=undef) rfl zE zE zE (fun _ _ _ h=>h) (Or.inr ⟨zI,rfl⟩) zL ?_
  (try simp only[Act.put,Aa,Ab,Ac])
  refine Ap (i:=9) (oi:=_) (v:=undef) rfl zE zE zE (fun _ _ _ h=>h) (Or.inr ⟨zI,rfl⟩) zL ?_
  (try simp only[Act.put,Aa,Ab,Ac])
  refine Ap (i:=10) (oi:=_) (v:=undef) rfl zE zE zE (fun _ _ _ h=>h) (Or.inr ⟨zI,rfl⟩) zL ?_
  (try simp only[Act.put,Aa,Ab,Ac])
  refine Ap (i:=11) (oi:=_) (v:=?_) rfl zE zE zE (fun _ _ _ h=>h) (Or.inl ⟨zS,?_⟩) zL ?_;rotate_left
  ·(intro w hSw;(try dsimp only at hSw);go_simp<;>with_reducible rfl)
  (try simp only[Act.put,Aa,Ab,Ac])
  (try simp only[AA,Ay,Aw,Act.put,Aa,Ab,Ac])
  refine AU (rs:=[12]) zE zN ?_;refine AK (o:=_) rfl (fun K hK=> ?_) AllReadyH.nil
  (go_simp;go_at_call 310;refine (HC.out _).mono ?_;rintro e1 w8 ⟨rfl,hst8⟩;have HS8:=hid hst8;have n1:=(hst8.2.cell (p:=⟨w.heap.size,0,none⟩) (by exact l1) ZS).trans p2;have n2:=(hst8.2.cell (p:=⟨M,5,none⟩) (by exact l3) zBr).trans m2;have n3:=(hst8.2.cell (p:=⟨w.heap.size+1,0,none⟩) (by exact l2) ZS).trans k2;clear hst8;(try dsimp only))
  refine hK.out _ _ ?_ (fun hHeld=> ?_)
  ·((try dsimp only);first | (refine⟨?_,?_,?_⟩<;>(first | assumption | (go_keep;done))) | (refine⟨?_,?_⟩<;>(first | assumption | (go_keep;done))) | assumption | (go_keep;done))
  clear hK K
  (try simp only[Act.put,Aa,Ab,Ac])
  (try simp only[AA,Ay,Aw,Act.put,Aa,Ab,Ac])
  refine CS zI ?_ _;go_wp2_with fail;first | go_end0 | refine Al (Ax rfl _ _ _) rfl ?_
  refine⟨rfl,fun e=> ?_⟩;subst e;have hI3:=HI2.out.step HUU.out (AG.Uk HI2.out.rd HS8.out);rw[←HFF.out,Ak (fun e=>by have:=e.1;omega)];exact hI3
theorem O3{blk:Rs→Rs × List UInt8 × Bool}(hU:Ch w g B a fn caps blk K X)(hB:B.length≤1000000000)(h:C5 w g B a K X q M lo k m v1 v2 v3 v4 s W)(p:Int):
  Calls Tryz.prog 312 #[.int .i64 p,.pointer (some ⟨w.heap.size,0,none⟩),.pointer (some ⟨M,0,none⟩)] W fun r W'=>r=.returned (.tuple #[])∧∃v1',C5 w g B a K X q M lo k {m with streams:=(s.GP B).2} v1' v2 v3 v4 (s.GP B).1 W':=by
 have p0:W.cell? ⟨w.heap.size,0,none⟩=some (.pointer (some ⟨g,0,none⟩)):=h.pa.cell 0;have HI:=hid h;have HUU:=hid hU;have hwz:=h.low;have hrd2:=h.rd.later (show Below W.heap.size W W.drew from (Below.refl _ _).drew);have HR:=hid (Ef W.drew hrd2 zD 16 zD);have hnm:=Rs.JH (B:=B) (s:=s) (m:=16);unfold Rs.GP;generalize s.int B 16=I at*;obtain⟨s1,n⟩:=I;dsimp only at*;have HZ:=hid (fun (V:World) (hV:A6 V g B a s1)=>Ri V hV hB n zD);generalize Rs.EA B n s1 []=R at*;obtain⟨s2,L⟩:=R;dsimp only at*;have l1:=h.pa.lt;clear h hU hrd2;go_enter Tryz.func312,Tryz.ntmps312;go_wp2_with fail;refine C9 (fun w'=>w'.cell? ⟨w.heap.size,0,none⟩=some (.pointer (some ⟨g,0,none⟩))) _ zI rfl zI p0 (fun hHeld=> ?_);simp only[Cy,GU];refine Ap (i:=0) (oi:=_) (v:=?_) rfl zE zE zE (fun _ _ _ h=>h) (Or.inl ⟨zS,?_⟩) zL ?_;rotate_left
 ·(intro w hSw;(try dsimp only at hSw);go_simp<;>with_reducible rfl)
 (try simp only[Act.put,Aa,Ab,Ac])
 refine Ap (i:=1) (oi:=_) (v:=?_) rfl zE zE zE (fun _ _ _ h=>h) (Or.inl ⟨zS,?_⟩) zL ?_;rotate_left
 ·(intro w hSw;(try dsimp only at hSw);go_simp<;>with_reducible rfl)
 (try simp only[Act.put,Aa,Ab,Ac])
 refine AU (rs:=[2]) zE zN ?_;refine AK (o:=_) rfl (fun K hK=> ?_) AllReadyH.nil
 (go_simp;go_at_call 110;refine HR.out.mono ?_;rintro e1 w7 ⟨rfl,hst7⟩;have HS7:=hid (AG.Uk HI.out.rd hst7);have n1:=(HS7.out.2.cell (p:=⟨w.heap.size,0,none⟩) (by exact l1) ZS).trans p0;clear hst7;(try dsimp only))
 refine hK.out _ _ ?_ (fun hHeld=> ?_)
 ·((try dsimp only);first | (refine⟨?_,?_,?_⟩<;>(first | assumption | (go_keep;done))) | (refine⟨?_,?_⟩<;>(first | assumption | (go_keep;done))) | assumption | (go_keep;done))
 clear hK K
 (try simp only[Act.put,Aa,Ab,Ac])
 refine AU (rs:=[3]) zE zN ?_;refine AK (o:=_) rfl (fun K hK=> ?_) AllReadyH.nil
 (go_simp;go_at_call 313;refine (HZ.out w7 HS7.out.1).mono ?_;rintro e1 w8 ⟨v8,rfl,hv8,hst8⟩;obtain⟨a8,c8,hfv,_,_⟩:=AN hv8;simp only[As,AM] at hfv;subst hfv;have HI8:=hid ((HI.out.step HUU.out HS7.out).step HUU.out hst8);have HV8:=hid (Bb.mono hv8 fun b hb=>(⟨by have:=HS7.out.2.size;have:=hb.1;omega,hb.2⟩:lo≤b∧b<w8.heap.size));have n2:w8.cell? ⟨w.heap.size,0,none⟩=some (.pointer (some ⟨g,0,none⟩)):=HI8.out.pa.cell 0;have f6:=Ht HI8.out.pm 6;obtain⟨y0,y1,y2,y3,y4,y5,y6,y7,y8,y9,y10,y11,y12,y13,l8⟩:=Cz HI8.out.pm;clear hst8 hv8;(try dsimp only))
 refine hK.out _ _ ?_ (fun hHeld=> ?_)
 ·((try dsimp only);first | (refine⟨?_,?_,?_⟩<;>(first | assumption | (go_keep;done))) | (refine⟨?_,?_⟩<;>(first | assumption | (go_keep;done))) | assumption | (go_keep;done))
 clear hK K
 (try simp only[Act.put,Aa,Ab,Ac])
 refine Ap (i:=4) (oi:=_) (v:=?_) rfl zE zE zE (fun _ _ _ h=>h) (Or.inl ⟨zS,?_⟩) zL ?_;rotate_left
 ·(intro w hSw;(try dsimp only at hSw);go_simp<;>with_reducible rfl)
 (try simp only[Act.put,Aa,Ab,Ac])
 refine Ap (i:=5) (oi:=_) (v:=?_) rfl zE zE zE (fun _ _ _ h=>h) (Or.inl ⟨zS,?_⟩) zL ?_;rotate_left
 ·(intro w hSw;(try dsimp only at hSw);go_simp<;>with_reducible rfl)
 (try simp only[Act.put,Aa,Ab,Ac])
 refine CS zI ?_ _;show wpList _ _ _ _ _ _
 go_wp2_with fail;first | go_end0 | refine Al (Ax rfl _ _ _) rfl ?_
 exact⟨rfl,_,HI8.out.M3 HUU.out 6 _ zR HV8.out HI8.out.ln HI8.out.da HI8.out.sp⟩
theorem SF{blk:Rs→Rs × List UInt8 × Bool}(hU:Ch w g B a fn caps blk K X)(hB:B.length≤1000000000)(h:C5 w g B a K X q M lo k m v1 v2 v3 v4 s W)(p:Int)(hpos:0≤m.pos∧m.pos≤18446744073709551615):
  Calls Tryz.prog 314 #[.int .i64 p,.pointer (some ⟨w.heap.size,0,none⟩),.pointer (some ⟨M,0,none⟩)] W fun r W'=>r=.returned (.tuple #[])∧∃v2',C5 w g B a K X q M lo k {m with links:=(s.links B m.pos).2} v1 v2' v3 v4 (s.links B m.pos).1 W':=by
 have p0:W.cell? ⟨w.heap.size,0,none⟩=some (.pointer (some ⟨g,0,none⟩)):=h.pa.cell 0;have HI:=hid h;have HUU:=hid hU;have hwz:=h.low;have HR:=hid (Wn W h.rd hB m.pos hpos);have m3:W.cell? ⟨M,3,none⟩=some (.int .u64 m.pos):=h.pm.cell 3;generalize s.links B m.pos=I at*;obtain⟨s1,L⟩:=I;dsimp only at*;clear h hU;go_enter Tryz.func314,Tryz.ntmps314;go_wp2_with fail;refine HR.out.mono ?_;rintro r w1 ⟨v,rfl,hv,hst⟩;have hv':=QQ hv;obtain⟨a8,c8,hfv,_,_⟩:=AN hv';simp only[As,AM] at hfv;subst hfv;have HI1:=hid (HI.out.step HUU.out hst);have HV:=hid (Cm.mono hv' fun b hb=>(⟨zAl,hb.2⟩:lo≤b∧b<w1.heap.size));have f7:=Ht HI1.out.pm 7;obtain⟨y0,y1,y2,y3,y4,y5,y6,y7,y8,y9,y10,y11,y12,y13,lm7⟩:=Cz HI1.out.pm;clear hst hv hv';go_wp2_with fail;first | go_end0 | refine Al (Ax rfl _ _ _) rfl ?_
 exact⟨rfl,_,HI1.out.M3 HUU.out 7 _ zR HI1.out.st HV.out HI1.out.da HI1.out.sp⟩
theorem UE{w:World}{g:Nat}{B:List UInt8}{a:Option Addr}{K:Nat→Prop}{X:World→Bool→Prop}{q:Bool}{M lo:Nat}{k:Int}{m:Msg}{v1 v2 v3 v4:Value}{s:Rs}{blk:Rs→Rs × List UInt8 × Bool}(hU:Ch w g B a fn caps blk K X)(hB:B.length≤1000000000)(h:C5 w g B a K X q M lo k m v1 v2 v3 v4 s W)(p:Int):
  Calls Tryz.prog 316 #[.int .i64 p,.pointer (some ⟨w.heap.size,0,none⟩),.pointer (some ⟨M,0,none⟩)] W fun r W'=>r=.returned (.tuple #[])∧C5 w g B a K X q M lo k {m with sea:=(s.seal_ B).2} v1 v2 v3 v4 (s.seal_ B).1 W':=by
 have p0:W.cell? ⟨w.heap.size,0,none⟩=some (.pointer (some ⟨g,0,none⟩)):=h.pa.cell 0;have HI:=hid h;have HUU:=hid hU;have HR:=hid (V3 W h.rd hB);generalize s.seal_ B=I at*;obtain⟨s1,e0,e1,e2⟩:=I;dsimp only at*;unfold XA at HR;clear h hU;go_enter Tryz.func316,Tryz.ntmps316;go_wp2_with fail;refine HR.out.mono ?_;rintro r w1 ⟨rfl,hst⟩;have HI1:=hid (HI.out.step HUU.out hst);have f9:=Ht HI1.out.pm 9;have f10:=Ht HI1.out.pm 10;have f11:=Ht HI1.out.pm 11;obtain⟨y0,y1,y2,y3,y4,y5,y6,y7,y8,y9,y10,y11,y12,y13,l1⟩:=Cz HI1.out.pm;have HI2:=hid (HI1.out.M3 HUU.out 9 (.int .u64 e0) (m':={m with sea:=⟨e0,m.sea.node,m.sea.tail⟩}) (v1':=v1) (v2':=v2) (v3':=v3) (v4':=v4) zZ HI1.out.st HI1.out.ln HI1.out.da HI1.out.sp);have HI3:=hid (HI2.out.M3 HUU.out 10 (.int .u64 e1) (m':={m with sea:=⟨e0,e1,m.sea.tail⟩}) (v1':=v1) (v2':=v2) (v3':=v3) (v4':=v4) zZ HI2.out.st HI2.out.ln HI2.out.da HI2.out.sp);have HI4:=hid (HI3.out.M3 HUU.out 11 (.int .u64 e2) (m':={m with sea:=⟨e0,e1,e2⟩}) (v1':=v1) (v2':=v2) (v3':=v3) (v4':=v4) zZ HI3.out.st HI3.out.ln HI3.out.da HI3.out.sp);clear hst;go_wp2_with fail;first | go_end0 | refine Al (Ax rfl _ _ _) rfl ?_
 exact⟨rfl,HI4.out⟩
theorem UF{blk:Rs→Rs × List UInt8 × Bool}(hU:Ch w g B a fn caps blk K X)(hB:B.length≤1000000000)(h:C5 w g B a K X q M lo k m v1 v2 v3 v4 s W)(p:Int):
  Calls Tryz.prog 318 #[.int .i64 p,.pointer (some ⟨w.heap.size,0,none⟩),.pointer (some ⟨M,0,none⟩)] W fun r W'=>r=.returned (.tuple #[])∧∃v4',C5 w g B a K X q M lo k {m with proj:=(s.Ds B).2} v1 v2 v3 v4' (s.Ds B).1 W':=by
 have p0:W.cell? ⟨w.heap.size,0,none⟩=some (.pointer (some ⟨g,0,none⟩)):=h.pa.cell 0;have HI:=hid h;have HUU:=hid hU;have hwz:=h.low;have HR:=hid (We W h.rd hB);generalize s.Ds B=I at*;obtain⟨s1,e0,L⟩:=I;dsimp only at*;clear h hU;go_enter Tryz.func318,Tryz.ntmps318;go_wp2_with fail;refine HR.out.mono ?_;rintro r w1 ⟨v,rfl,hv,hst⟩;obtain⟨a8,c8,hfv,_,_⟩:=AN hv;simp only[As,AM] at hfv;subst hfv;have HI1:=hid (HI.out.step HUU.out hst);have HV:=hid (Bq.mono hv fun b hb=>(⟨zAl,hb.2⟩:lo≤b∧b<w1.heap.size));have f12:=Ht HI1.out.pm 12;have f13:=Ht HI1.out.pm 13;obtain⟨y0,y1,y2,y3,y4,y5,y6,y7,y8,y9,y10,y11,y12,y13,l1⟩:=Cz HI1.out.pm;have HI2:=hid (HI1.out.M3 HUU.out 12 (.int .u64 e0) (m':={m with proj:=⟨e0,m.proj.stripes⟩}) (v1':=v1) (v2':=v2) (v3':=v3) (v4':=v4) zZ HI1.out.st HI1.out.ln HI1.out.da HI1.out.sp);have HV2:=hid (show Bq.r (fun b=>lo≤b∧b<(w1.setCell ⟨M,12,none⟩ (.int .u64 e0)).heap.size) (w1.setCell ⟨M,12,none⟩ (.int .u64 e0)) [.slice a8 L.length c8] L from Bq.mono (Bq.keep HV.out fun b hb=>AB _ _ _ _ (by have:=hb.1;have:=HI1.out.lm;dsimp only;omega)) fun b hb=>⟨hb.1,by rw[size_set];exact hb.2⟩);clear hst hv;go_wp2_with fail;first | go_end0 | refine Al (Ax rfl _ _ _) rfl ?_
 exact⟨rfl,_,HI2.out.M3 HUU.out 13 _ zR HI2.out.st HI2.out.ln HI2.out.da HV2.out⟩
theorem Rs.OX(h:s.k≠0):s.links B pos=(s,[]):=by
 unfold Rs.links;rw[Rs.Ij h];rfl
theorem Rs.Xy(h:(s.seal_ B).1.k=0):s.k=0:=
 Be fun hh=>hh (by rw[Rs.Mv hh] at h;exact h)
theorem Rs.XN(h:(s.Ds B).1.k=0):s.k=0:=
 Be fun hh=>hh (by rw[Rs.MF hh] at h;exact h)
theorem Rs.OJ{blk:Rs→Rs × List UInt8 × Bool}(hs:s.ok B.length)(h:(s.body B blk k).1.k=0)(hok:∀t:Rs,t.ok B.length→(blk t).1.ok B.length)(hbk:∀t:Rs,(blk t).1.k=0→t.k=0)
 (hlen:∀t,(blk t).2.1.length≤1048576) (hcan:∀t:Rs,t.ok B.length→(blk t).1.k=0→(blk t).2.2=true→B.drop t.p=Bk (blk t).2.1++B.drop (blk t).1.p):
  Gl (s.body B blk k).2.1=true∧M8 (s.body B blk k).2.1∧(s.body B blk k).2.1.kind=k∧(s.body B blk k).2.1.epoch=0∧(s.body B blk k).2.1.seq=0∧s.k=0∧((s.body B blk k).2.2=true→B.drop s.p=D4 (s.body B blk k).2.1++B.drop (s.body B blk k).1.p):=by
 unfold Rs.body at h ⊢;by_cases hk:1≤k∧k≤14
 ·rw[Ai hk] at h ⊢
  dsimp only at h ⊢;have hA:=Rs.S4 (k:=k) hs;have oA:=Rs.S3 (k:=k) hs;generalize s.ahead B k=A at*;have oF:=Rs.EI (h:=Bw k A.2.state) (z:=(([],true):List UInt8 × Bool)) oA (hok _ oA);generalize hF:Rs.part (Bw k A.2.state) A.1 blk ([],true)=F at*;have oG:=Rs.EI (h:=AE k 64) (z:=Dk) oF (Rs.Vf oF);generalize hG:Rs.part (AE k 64) F.1 (Rs.seal_ B) Dk=G at*;generalize hH:Rs.part (AE k 128) G.1 (Rs.Ds B) DE=H at*;split at h
  ·rename_i h0
   rw[Ai h0];rw[←hH] at h0;have k3:=Rs.FQ h0 Rs.XN;have c3:=Rs.Fz (B:=B) (Q:=fun x=>DG x=true∧∀z∈x.stripes,∀y∈z.sets,∀u∈y,0≤u∧u≤18446744073709551615) (b:=Dz) h0 fun hf=>⟨⟨Rs.Aaw hf,(Rs.N4 oG hf).1⟩,(Rs.N4 oG hf).2⟩;rw[hH] at c3;rw[←hG] at k3;have k2:=Rs.FQ k3 Rs.Xy;have c2:=Rs.Fz (B:=B) (Q:=fun x=>FP x=true∧0≤x.node∧0≤x.tail) (b:=Dy) k3 fun hf=>⟨⟨(Rs.IU oF hf).1,(Rs.IU oF hf).2.1,(Rs.IU oF hf).2.2.1⟩,(Rs.IU oF hf).2.2.2⟩;rw[hG] at c2;have k2':=k2;rw[←hF] at k2;have k1:=Rs.FQ k2 (hbk _);obtain⟨a,ea,a1,a2,a3,a4,a5,a6,a7,a8,a9,a10⟩:=hA k1;rw[ea] at hF k2 ⊢;have c1:(Bw k a.state=true→F=blk A.1)∧(Bw k a.state=false→F=(A.1,[],true)):=by
    rw[←hF];cases hb:Bw k a.state
    ·exact⟨fun e=>zAd,fun _=>rfl⟩
    ·exact⟨fun _=>rfl,fun e=>zAd⟩
   refine⟨?_,⟨a6,a7,fun x hx=>a8 x hx,?_,?_,?_⟩,rfl,rfl,rfl,a9,fun hw=> ?_⟩
   ·unfold Gl
    dsimp only;rw[Ad hk,a1,a2,a3,a4,a5];have e6:Bv (AE k 64) (FP G.2) (decide (G.2=QM))=true:=by
     cases hh:AE k 64
     ·rw[c2.2.1 hh];rfl
     ·exact (c2.1 hh).1
    have e7:Bv (AE k 128) (DG H.2) (decide (H.2.epoch=0)&&decide (H.2.stripes.length=0))=true:=by
     cases hh:AE k 128
     ·rw[c3.2.1 hh];rfl
     ·exact (c3.1 hh).1
    have e8:(decide (F.2.1.length=0) || (Bw k a.state&&decide (F.2.1.length≤1048576)))=true:=by
     cases hh:Bw k a.state
     ·rw[c1.2 hh];rfl
     ·rw[c1.1 hh,Ad (hlen _)];simp
    rw[e6,e7,e8];rfl
   ·cases hh:AE k 64
    ·rw[c2.2.1 hh];exact Int.le_refl _
    ·exact (c2.1 hh).2.1
   ·cases hh:AE k 64
    ·rw[c2.2.1 hh];exact Int.le_refl _
    ·exact (c2.1 hh).2.2
   ·cases hh:AE k 128
    ·rw[c3.2.1 hh]
     intro z hz;exact absurd hz (by simp[DE])
    ·exact (c3.1 hh).2
   ·dsimp only at hw
    have e5:B.drop A.1.p=AQ (Bw k a.state) (Bk F.2.1)++B.drop F.1.p:=by
     cases hh:Bw k a.state
     ·rw[c1.2 hh];rfl
     ·have hF1:=c1.1 hh
      rw[hF1] at hw k2' ⊢;exact hcan _ oA k2' hw
    rw[a10,e5,c2.2.2,c3.2.2];unfold D4;simp only[Ao]
  ·rename_i h0
   exact absurd h h0
 ·rw[Ak hk] at h
  exact absurd h (Rs.BE zD)
theorem Gj{α:Type}{f:Rs→Rs × α}{z:α}(hn:h=false∨s.k≠0)(hb:s.k≠0→f s=(s,z)):Rs.part h s f z=(s,z):=by
 cases h
 ·rfl
 ·exact hb (hn.resolve_left zO)
theorem UK{k:Int}{s:Rs}{blk:Rs→Rs × List UInt8 × Bool}(hU:Ch w g B a fn caps blk K X)(h:C5 w g B a K X q M lo k m v1 v2 v3 v4 s W)(P:World→Prop)
 (HC:AE k 1=true→s.k=0→∀W':World,Below W.heap.size W W'→Calls Tryz.prog 308 AcH W' fun r W''=>r=.returned (.tuple #[])∧P W'')
 (HN:(AE k 1=false∨s.k≠0)→∀W':World,Below W.heap.size W W'→P W'):
  Calls Tryz.prog 307 #[.int .i64 1,.func (Fn.func 308) #[] #[.pointer (some ⟨w.heap.size,0,none⟩),.pointer (some ⟨M,0,none⟩)],.pointer (some ⟨w.heap.size+1,0,none⟩),.pointer (some ⟨w.heap.size,0,none⟩)] W fun r W'=>r=.returned (.tuple #[])∧P W':=by
 have HH:=hid (DA k 1 zU W);have HRD:=hid h.rd;have y0:W.cell? ⟨w.heap.size+1,0,none⟩=some (.int .i64 k):=h.pk.cell 0;have p0:W.cell? ⟨w.heap.size,0,none⟩=some (.pointer (some ⟨g,0,none⟩)):=h.pa.cell 0;have l0:=h.pa.lt;have HCC:=hid HC;have HNN:=hid HN;clear h HC HN hU;generalize AE k 1=H at*;cases H
 ·go_enter Ct,Cd
  go_wp2_with fail;refine HH.out.mono ?_;rintro r w1 ⟨rfl,hb1⟩;have HP:=hid (HNN.out (.inl ZG) w1 hb1);clear hb1;go_wp2_with fail;first | go_end0 | refine Al (Ax rfl _ _ _) rfl ?_
  exact⟨rfl,HP.out⟩
 ·by_cases hk:s.k=0
  ·have HG:=hid (fun (V:World) (hV:A6 V g B a s)=>(by have:=AL V hV;rw[Ad hk] at this;exact this:Calls Tryz.prog 112 #[.pointer (some ⟨g,0,none⟩)] V fun r w'=>r=.returned (.bool true)∧Below V.heap.size V w'))
   have HC2:=hid (HCC.out ZG hk);clear hk;go_enter Ct,Cd;go_wp2_with fail;refine HH.out.mono ?_;rintro r w1 ⟨rfl,hb1⟩;have p1:=(hb1.cell (p:=⟨w.heap.size,0,none⟩) l0).trans p0;have HRD1:=hid (HRD.out.later hb1);have HB1:=hid hb1;have l1:=Aj l0 hb1.size;clear hb1;go_wp2_with fail;refine (HG.out _ HRD1.out).mono ?_;rintro r w2 ⟨rfl,hb2⟩;have p2:=(hb2.cell (p:=⟨w.heap.size,0,none⟩) l1).trans p1;have HRD2:=hid (HRD1.out.later hb2);have HB2:=hid (HB1.out.trans (hb2.mono HB1.out.size));clear hb2;go_wp2_with fail;refine (Cv _ HRD2.out).mono ?_;rintro r w2' ⟨rfl,rfl⟩;go_wp2_with fail;refine (HC2.out _ HB2.out).mono ?_;rintro r w3 ⟨rfl,hp⟩;have HP:=hid hp;clear hp;go_wp2_with fail;first | go_end0 | refine Al (Ax rfl _ _ _) rfl ?_
   exact⟨rfl,HP.out⟩
  ·have HG:=hid (fun (V:World) (hV:A6 V g B a s)=>(by have:=AL V hV;rw[Ae hk] at this;exact this:Calls Tryz.prog 112 #[.pointer (some ⟨g,0,none⟩)] V fun r w'=>r=.returned (.bool false)∧Below V.heap.size V w'))
   have HN2:=hid (HNN.out (.inr hk));clear hk;go_enter Ct,Cd;go_wp2_with fail;refine HH.out.mono ?_;rintro r w1 ⟨rfl,hb1⟩;have p1:=(hb1.cell (p:=⟨w.heap.size,0,none⟩) l0).trans p0;have HRD1:=hid (HRD.out.later hb1);have HB1:=hid hb1;clear hb1;go_wp2_with fail;refine (HG.out _ HRD1.out).mono ?_;rintro r w2 ⟨rfl,hb2⟩;have HP:=hid (HN2.out _ (HB1.out.trans (hb2.mono HB1.out.size)));clear hb2;go_wp2_with fail;first | go_end0 | refine Al (Ax rfl _ _ _) rfl ?_
   exact⟨rfl,HP.out⟩
theorem YX{w:World}{g:Nat}{B:List UInt8}{a:Option Addr}{K:Nat→Prop}{X:World→Bool→Prop}{q:Bool}{M lo:Nat}{k:Int}{m:Msg}{v1 v2 v3 v4:Value}{s:Rs}{blk:Rs→Rs × List UInt8 × Bool}(hU:Ch w g B a fn caps blk K X)(hB:B.length≤1000000000)(h:C5 w g B a K X q M lo k m v1 v2 v3 v4 s W)(hz:m.pos=(0:Int)):
  Calls Tryz.prog 307 #[.int .i64 1,.func (Fn.func 308) #[] #[.pointer (some ⟨w.heap.size,0,none⟩),.pointer (some ⟨M,0,none⟩)],.pointer (some ⟨w.heap.size+1,0,none⟩),.pointer (some ⟨w.heap.size,0,none⟩)] W fun r W'=>r=.returned (.tuple #[])∧C5 w g B a K X q M lo k {m with pos:=(Rs.part (AE k 1) s (Rs.Fk B) 0).2} v1 v2 v3 v4 (Rs.part (AE k 1) s (Rs.Fk B) 0).1 W':=by
 refine UK hU h (fun W'=>C5 w g B a K X q M lo k {m with pos:=(Rs.part (AE k 1) s (Rs.Fk B) 0).2} v1 v2 v3 v4 (Rs.part (AE k 1) s (Rs.Fk B) 0).1 W') (fun hh hk W' hb=> ?_) (fun hn W' hb=> ?_)
 ·have:=WJ hU hB (h.later hU hb) s.p
  rw[hh];exact this
 ·rw[Gj hn fun e=>Rs.N5 e]
  have e:{m with pos:=(0:Int)}=m:=by
   cases m;dsimp only at hz;subst hz;rfl
  dsimp only;rw[e];exact h.later hU hb
theorem UJ{k:Int}{s:Rs}{blk:Rs→Rs × List UInt8 × Bool}(hU:Ch w g B a fn caps blk K X)(h:C5 w g B a K X q M lo k m v1 v2 v3 v4 s W)(P:World→Prop)
 (HC:AE k 2=true→s.k=0→∀W':World,Below W.heap.size W W'→Calls Tryz.prog 309 AcH W' fun r W''=>r=.returned (.tuple #[])∧P W'')
 (HN:(AE k 2=false∨s.k≠0)→∀W':World,Below W.heap.size W W'→P W'):
  Calls Tryz.prog 307 #[.int .i64 2,.func (Fn.func 309) #[] #[.pointer (some ⟨w.heap.size,0,none⟩),.pointer (some ⟨M,0,none⟩)],.pointer (some ⟨w.heap.size+1,0,none⟩),.pointer (some ⟨w.heap.size,0,none⟩)] W fun r W'=>r=.returned (.tuple #[])∧P W':=by
 have HH:=hid (DA k 2 zU W);have HRD:=hid h.rd;have y0:W.cell? ⟨w.heap.size+1,0,none⟩=some (.int .i64 k):=h.pk.cell 0;have p0:W.cell? ⟨w.heap.size,0,none⟩=some (.pointer (some ⟨g,0,none⟩)):=h.pa.cell 0;have l0:=h.pa.lt;have HCC:=hid HC;have HNN:=hid HN;clear h HC HN hU;generalize AE k 2=H at*;cases H
 ·go_enter Ct,Cd
  go_wp2_with fail;refine HH.out.mono ?_;rintro r w1 ⟨rfl,hb1⟩;have HP:=hid (HNN.out (.inl ZG) w1 hb1);clear hb1;go_wp2_with fail;first | go_end0 | refine Al (Ax rfl _ _ _) rfl ?_
  exact⟨rfl,HP.out⟩
 ·by_cases hk:s.k=0
  ·have HG:=hid (fun (V:World) (hV:A6 V g B a s)=>(by have:=AL V hV;rw[Ad hk] at this;exact this:Calls Tryz.prog 112 #[.pointer (some ⟨g,0,none⟩)] V fun r w'=>r=.returned (.bool true)∧Below V.heap.size V w'))
   have HC2:=hid (HCC.out ZG hk);clear hk;go_enter Ct,Cd;go_wp2_with fail;refine HH.out.mono ?_;rintro r w1 ⟨rfl,hb1⟩;have p1:=(hb1.cell (p:=⟨w.heap.size,0,none⟩) l0).trans p0;have HRD1:=hid (HRD.out.later hb1);have HB1:=hid hb1;have l1:=Aj l0 hb1.size;clear hb1;go_wp2_with fail;refine (HG.out _ HRD1.out).mono ?_;rintro r w2 ⟨rfl,hb2⟩;have p2:=(hb2.cell (p:=⟨w.heap.size,0,none⟩) l1).trans p1;have HRD2:=hid (HRD1.out.later hb2);have HB2:=hid (HB1.out.trans (hb2.mono HB1.out.size));clear hb2;go_wp2_with fail;refine (Cv _ HRD2.out).mono ?_;rintro r w2' ⟨rfl,rfl⟩;go_wp2_with fail;refine (HC2.out _ HB2.out).mono ?_;rintro r w3 ⟨rfl,hp⟩;have HP:=hid hp;clear hp;go_wp2_with fail;first | go_end0 | refine Al (Ax rfl _ _ _) rfl ?_
   exact⟨rfl,HP.out⟩
  ·have HG:=hid (fun (V:World) (hV:A6 V g B a s)=>(by have:=AL V hV;rw[Ae hk] at this;exact this:Calls Tryz.prog 112 #[.pointer (some ⟨g,0,none⟩)] V fun r w'=>r=.returned (.bool false)∧Below V.heap.size V w'))
   have HN2:=hid (HNN.out (.inr hk));clear hk;go_enter Ct,Cd;go_wp2_with fail;refine HH.out.mono ?_;rintro r w1 ⟨rfl,hb1⟩;have p1:=(hb1.cell (p:=⟨w.heap.size,0,none⟩) l0).trans p0;have HRD1:=hid (HRD.out.later hb1);have HB1:=hid hb1;clear hb1;go_wp2_with fail;refine (HG.out _ HRD1.out).mono ?_;rintro r w2 ⟨rfl,hb2⟩;have HP:=hid (HN2.out _ (HB1.out.trans (hb2.mono HB1.out.size)));clear hb2;go_wp2_with fail;first | go_end0 | refine Al (Ax rfl _ _ _) rfl ?_
   exact⟨rfl,HP.out⟩
theorem YW{w:World}{g:Nat}{B:List UInt8}{a:Option Addr}{K:Nat→Prop}{X:World→Bool→Prop}{q:Bool}{M lo:Nat}{k:Int}{m:Msg}{v1 v2 v3 v4:Value}{s:Rs}{blk:Rs→Rs × List UInt8 × Bool}(hU:Ch w g B a fn caps blk K X)(hB:B.length≤1000000000)(h:C5 w g B a K X q M lo k m v1 v2 v3 v4 s W)(hz:m.count=(0:Int)):
  Calls Tryz.prog 307 #[.int .i64 2,.func (Fn.func 309) #[] #[.pointer (some ⟨w.heap.size,0,none⟩),.pointer (some ⟨M,0,none⟩)],.pointer (some ⟨w.heap.size+1,0,none⟩),.pointer (some ⟨w.heap.size,0,none⟩)] W fun r W'=>r=.returned (.tuple #[])∧C5 w g B a K X q M lo k {m with count:=(Rs.part (AE k 2) s (Rs.cnt B) 0).2} v1 v2 v3 v4 (Rs.part (AE k 2) s (Rs.cnt B) 0).1 W':=by
 refine UJ hU h (fun W'=>C5 w g B a K X q M lo k {m with count:=(Rs.part (AE k 2) s (Rs.cnt B) 0).2} v1 v2 v3 v4 (Rs.part (AE k 2) s (Rs.cnt B) 0).1 W') (fun hh hk W' hb=> ?_) (fun hn W' hb=> ?_)
 ·have:=SI hU hB (h.later hU hb) s.p
  rw[hh];exact this.mono fun r V ⟨h1,h2⟩=>⟨h1,h2 rfl⟩
 ·rw[Gj hn fun e=>Rs.OC e]
  have e:{m with count:=(0:Int)}=m:=by
   cases m;dsimp only at hz;subst hz;rfl
  dsimp only;rw[e];exact h.later hU hb
theorem UI{k:Int}{s:Rs}{blk:Rs→Rs × List UInt8 × Bool}(hU:Ch w g B a fn caps blk K X)(h:C5 w g B a K X q M lo k m v1 v2 v3 v4 s W)(P:World→Prop)
 (HC:AE k 4=true→s.k=0→∀W':World,Below W.heap.size W W'→Calls Tryz.prog 311 #[.int .i64 (s.p:Int),.pointer (some ⟨w.heap.size,0,none⟩),.pointer (some ⟨M,0,none⟩),.pointer (some ⟨w.heap.size+1,0,none⟩)] W' fun r W''=>r=.returned (.tuple #[])∧P W'')
 (HN:(AE k 4=false∨s.k≠0)→∀W':World,Below W.heap.size W W'→P W'):
  Calls Tryz.prog 307 #[.int .i64 4,.func (Fn.func 311) #[] AcJ,.pointer (some ⟨w.heap.size+1,0,none⟩),.pointer (some ⟨w.heap.size,0,none⟩)] W fun r W'=>r=.returned (.tuple #[])∧P W':=by
 have HH:=hid (DA k 4 zU W);have HRD:=hid h.rd;have y0:W.cell? ⟨w.heap.size+1,0,none⟩=some (.int .i64 k):=h.pk.cell 0;have p0:W.cell? ⟨w.heap.size,0,none⟩=some (.pointer (some ⟨g,0,none⟩)):=h.pa.cell 0;have l0:=h.pa.lt;have HCC:=hid HC;have HNN:=hid HN;clear h HC HN hU;generalize AE k 4=H at*;cases H
 ·go_enter Ct,Cd
  go_wp2_with fail;refine HH.out.mono ?_;rintro r w1 ⟨rfl,hb1⟩;have HP:=hid (HNN.out (.inl ZG) w1 hb1);clear hb1;go_wp2_with fail;first | go_end0 | refine Al (Ax rfl _ _ _) rfl ?_
  exact⟨rfl,HP.out⟩
 ·by_cases hk:s.k=0
  ·have HG:=hid (fun (V:World) (hV:A6 V g B a s)=>(by have:=AL V hV;rw[Ad hk] at this;exact this:Calls Tryz.prog 112 #[.pointer (some ⟨g,0,none⟩)] V fun r w'=>r=.returned (.bool true)∧Below V.heap.size V w'))
   have HC2:=hid (HCC.out ZG hk);clear hk;go_enter Ct,Cd;go_wp2_with fail;refine HH.out.mono ?_;rintro r w1 ⟨rfl,hb1⟩;have p1:=(hb1.cell (p:=⟨w.heap.size,0,none⟩) l0).trans p0;have HRD1:=hid (HRD.out.later hb1);have HB1:=hid hb1;have l1:=Aj l0 hb1.size;clear hb1;go_wp2_with fail;refine (HG.out _ HRD1.out).mono ?_;rintro r w2 ⟨rfl,hb2⟩;have p2:=(hb2.cell (p:=⟨w.heap.size,0,none⟩) l1).trans p1;have HRD2:=hid (HRD1.out.later hb2);have HB2:=hid (HB1.out.trans (hb2.mono HB1.out.size));clear hb2;go_wp2_with fail;refine (Cv _ HRD2.out).mono ?_;rintro r w2' ⟨rfl,rfl⟩;go_wp2_with fail;refine (HC2.out _ HB2.out).mono ?_;rintro r w3 ⟨rfl,hp⟩;have HP:=hid hp;clear hp;go_wp2_with fail;first | go_end0 | refine Al (Ax rfl _ _ _) rfl ?_
   exact⟨rfl,HP.out⟩
  ·have HG:=hid (fun (V:World) (hV:A6 V g B a s)=>(by have:=AL V hV;rw[Ae hk] at this;exact this:Calls Tryz.prog 112 #[.pointer (some ⟨g,0,none⟩)] V fun r w'=>r=.returned (.bool false)∧Below V.heap.size V w'))
   have HN2:=hid (HNN.out (.inr hk));clear hk;go_enter Ct,Cd;go_wp2_with fail;refine HH.out.mono ?_;rintro r w1 ⟨rfl,hb1⟩;have p1:=(hb1.cell (p:=⟨w.heap.size,0,none⟩) l0).trans p0;have HRD1:=hid (HRD.out.later hb1);have HB1:=hid hb1;clear hb1;go_wp2_with fail;refine (HG.out _ HRD1.out).mono ?_;rintro r w2 ⟨rfl,hb2⟩;have HP:=hid (HN2.out _ (HB1.out.trans (hb2.mono HB1.out.size)));clear hb2;go_wp2_with fail;first | go_end0 | refine Al (Ax rfl _ _ _) rfl ?_
   exact⟨rfl,HP.out⟩
theorem YV{w:World}{g:Nat}{B:List UInt8}{a:Option Addr}{K:Nat→Prop}{X:World→Bool→Prop}{q:Bool}{M lo:Nat}{k:Int}{m:Msg}{v1 v2 v3 v4:Value}{s:Rs}{blk:Rs→Rs × List UInt8 × Bool}(hU:Ch w g B a fn caps blk K X)(hB:B.length≤1000000000)(h:C5 w g B a K X q M lo k m v1 v2 v3 v4 s W)(hz:m.state=(0:Int)):
  Calls Tryz.prog 307 #[.int .i64 4,.func (Fn.func 311) #[] AcJ,.pointer (some ⟨w.heap.size+1,0,none⟩),.pointer (some ⟨w.heap.size,0,none⟩)] W fun r W'=>r=.returned (.tuple #[])∧C5 w g B a K X q M lo k {m with state:=(Rs.part (AE k 4) s (Rs.stt B k) 0).2} v1 v2 v3 v4 (Rs.part (AE k 4) s (Rs.stt B k) 0).1 W':=by
 refine UI hU h (fun W'=>C5 w g B a K X q M lo k {m with state:=(Rs.part (AE k 4) s (Rs.stt B k) 0).2} v1 v2 v3 v4 (Rs.part (AE k 4) s (Rs.stt B k) 0).1 W') (fun hh hk W' hb=> ?_) (fun hn W' hb=> ?_)
 ·have:=SE hU hB (h.later hU hb) s.p
  rw[hh];exact this.mono fun r V ⟨h1,h2⟩=>⟨h1,h2 rfl⟩
 ·rw[Gj hn fun e=>Rs.Ny e]
  have e:{m with state:=(0:Int)}=m:=by
   cases m;dsimp only at hz;subst hz;rfl
  dsimp only;rw[e];exact h.later hU hb
theorem UH{k:Int}{s:Rs}{blk:Rs→Rs × List UInt8 × Bool}(hU:Ch w g B a fn caps blk K X)(h:C5 w g B a K X q M lo k m v1 v2 v3 v4 s W)(P:World→Prop)
 (HC:AE k 8=true→s.k=0→∀W':World,Below W.heap.size W W'→Calls Tryz.prog 312 AcH W' fun r W''=>r=.returned (.tuple #[])∧P W'')
 (HN:(AE k 8=false∨s.k≠0)→∀W':World,Below W.heap.size W W'→P W'):
  Calls Tryz.prog 307 #[.int .i64 8,.func (Fn.func 312) #[] #[.pointer (some ⟨w.heap.size,0,none⟩),.pointer (some ⟨M,0,none⟩)],.pointer (some ⟨w.heap.size+1,0,none⟩),.pointer (some ⟨w.heap.size,0,none⟩)] W fun r W'=>r=.returned (.tuple #[])∧P W':=by
 have HH:=hid (DA k 8 zU W);have HRD:=hid h.rd;have y0:W.cell? ⟨w.heap.size+1,0,none⟩=some (.int .i64 k):=h.pk.cell 0;have p0:W.cell? ⟨w.heap.size,0,none⟩=some (.pointer (some ⟨g,0,none⟩)):=h.pa.cell 0;have l0:=h.pa.lt;have HCC:=hid HC;have HNN:=hid HN;clear h HC HN hU;generalize AE k 8=H at*;cases H
 ·go_enter Ct,Cd
  go_wp2_with fail;refine HH.out.mono ?_;rintro r w1 ⟨rfl,hb1⟩;have HP:=hid (HNN.out (.inl ZG) w1 hb1);clear hb1;go_wp2_with fail;first | go_end0 | refine Al (Ax rfl _ _ _) rfl ?_
  exact⟨rfl,HP.out⟩
 ·by_cases hk:s.k=0
  ·have HG:=hid (fun (V:World) (hV:A6 V g B a s)=>(by have:=AL V hV;rw[Ad hk] at this;exact this:Calls Tryz.prog 112 #[.pointer (some ⟨g,0,none⟩)] V fun r w'=>r=.returned (.bool true)∧Below V.heap.size V w'))
   have HC2:=hid (HCC.out ZG hk);clear hk;go_enter Ct,Cd;go_wp2_with fail;refine HH.out.mono ?_;rintro r w1 ⟨rfl,hb1⟩;have p1:=(hb1.cell (p:=⟨w.heap.size,0,none⟩) l0).trans p0;have HRD1:=hid (HRD.out.later hb1);have HB1:=hid hb1;have l1:=Aj l0 hb1.size;clear hb1;go_wp2_with fail;refine (HG.out _ HRD1.out).mono ?_;rintro r w2 ⟨rfl,hb2⟩;have p2:=(hb2.cell (p:=⟨w.heap.size,0,none⟩) l1).trans p1;have HRD2:=hid (HRD1.out.later hb2);have HB2:=hid (HB1.out.trans (hb2.mono HB1.out.size));clear hb2;go_wp2_with fail;refine (Cv _ HRD2.out).mono ?_;rintro r w2' ⟨rfl,rfl⟩;go_wp2_with fail;refine (HC2.out _ HB2.out).mono ?_;rintro r w3 ⟨rfl,hp⟩;have HP:=hid hp;clear hp;go_wp2_with fail;first | go_end0 | refine Al (Ax rfl _ _ _) rfl ?_
   exact⟨rfl,HP.out⟩
  ·have HG:=hid (fun (V:World) (hV:A6 V g B a s)=>(by have:=AL V hV;rw[Ae hk] at this;exact this:Calls Tryz.prog 112 #[.pointer (some ⟨g,0,none⟩)] V fun r w'=>r=.returned (.bool false)∧Below V.heap.size V w'))
   have HN2:=hid (HNN.out (.inr hk));clear hk;go_enter Ct,Cd;go_wp2_with fail;refine HH.out.mono ?_;rintro r w1 ⟨rfl,hb1⟩;have p1:=(hb1.cell (p:=⟨w.heap.size,0,none⟩) l0).trans p0;have HRD1:=hid (HRD.out.later hb1);have HB1:=hid hb1;clear hb1;go_wp2_with fail;refine (HG.out _ HRD1.out).mono ?_;rintro r w2 ⟨rfl,hb2⟩;have HP:=hid (HN2.out _ (HB1.out.trans (hb2.mono HB1.out.size)));clear hb2;go_wp2_with fail;first | go_end0 | refine Al (Ax rfl _ _ _) rfl ?_
   exact⟨rfl,HP.out⟩
theorem YU{blk:Rs→Rs × List UInt8 × Bool}(hU:Ch w g B a fn caps blk K X)(hB:B.length≤1000000000)(h:C5 w g B a K X q M lo k m v1 v2 v3 v4 s W)(hz:m.streams=([]:List Int)):
  Calls Tryz.prog 307 #[.int .i64 8,.func (Fn.func 312) #[] #[.pointer (some ⟨w.heap.size,0,none⟩),.pointer (some ⟨M,0,none⟩)],.pointer (some ⟨w.heap.size+1,0,none⟩),.pointer (some ⟨w.heap.size,0,none⟩)] W fun r W'=>r=.returned (.tuple #[])∧∃v1',C5 w g B a K X q M lo k {m with streams:=(Rs.part (AE k 8) s (Rs.GP B) []).2} v1' v2 v3 v4 (Rs.part (AE k 8) s (Rs.GP B) []).1 W':=by
 refine UH hU h (fun W'=>∃v1',C5 w g B a K X q M lo k {m with streams:=(Rs.part (AE k 8) s (Rs.GP B) []).2} v1' v2 v3 v4 (Rs.part (AE k 8) s (Rs.GP B) []).1 W') (fun hh hk W' hb=> ?_) (fun hn W' hb=> ?_)
 ·have:=O3 hU hB (h.later hU hb) s.p
  rw[hh];exact this
 ·rw[Gj hn fun e=>Rs.Mq e]
  have e:{m with streams:=([]:List Int)}=m:=by
   cases m;dsimp only at hz;subst hz;rfl
  dsimp only;rw[e];exact⟨_,h.later hU hb⟩
theorem SH{k:Int}{s:Rs}{blk:Rs→Rs × List UInt8 × Bool}(hU:Ch w g B a fn caps blk K X)(h:C5 w g B a K X q M lo k m v1 v2 v3 v4 s W)(P:World→Prop)
 (HC:AE k 16=true→s.k=0→∀W':World,Below W.heap.size W W'→Calls Tryz.prog 314 AcH W' fun r W''=>r=.returned (.tuple #[])∧P W'')
 (HN:(AE k 16=false∨s.k≠0)→∀W':World,Below W.heap.size W W'→P W'):
  Calls Tryz.prog 307 #[.int .i64 16,.func (Fn.func 314) #[] #[.pointer (some ⟨w.heap.size,0,none⟩),.pointer (some ⟨M,0,none⟩)],.pointer (some ⟨w.heap.size+1,0,none⟩),.pointer (some ⟨w.heap.size,0,none⟩)] W fun r W'=>r=.returned (.tuple #[])∧P W':=by
 have HH:=hid (DA k 16 zU W);have HRD:=hid h.rd;have y0:W.cell? ⟨w.heap.size+1,0,none⟩=some (.int .i64 k):=h.pk.cell 0;have p0:W.cell? ⟨w.heap.size,0,none⟩=some (.pointer (some ⟨g,0,none⟩)):=h.pa.cell 0;have l0:=h.pa.lt;have HCC:=hid HC;have HNN:=hid HN;clear h HC HN hU;generalize AE k 16=H at*;cases H
 ·go_enter Ct,Cd
  go_wp2_with fail;refine HH.out.mono ?_;rintro r w1 ⟨rfl,hb1⟩;have HP:=hid (HNN.out (.inl ZG) w1 hb1);clear hb1;go_wp2_with fail;first | go_end0 | refine Al (Ax rfl _ _ _) rfl ?_
  exact⟨rfl,HP.out⟩
 ·by_cases hk:s.k=0
  ·have HG:=hid (fun (V:World) (hV:A6 V g B a s)=>(by have:=AL V hV;rw[Ad hk] at this;exact this:Calls Tryz.prog 112 #[.pointer (some ⟨g,0,none⟩)] V fun r w'=>r=.returned (.bool true)∧Below V.heap.size V w'))
   have HC2:=hid (HCC.out ZG hk);clear hk;go_enter Ct,Cd;go_wp2_with fail;refine HH.out.mono ?_;rintro r w1 ⟨rfl,hb1⟩;have p1:=(hb1.cell (p:=⟨w.heap.size,0,none⟩) l0).trans p0;have HRD1:=hid (HRD.out.later hb1);have HB1:=hid hb1;have l1:=Aj l0 hb1.size;clear hb1;go_wp2_with fail;refine (HG.out _ HRD1.out).mono ?_;rintro r w2 ⟨rfl,hb2⟩;have p2:=(hb2.cell (p:=⟨w.heap.size,0,none⟩) l1).trans p1;have HRD2:=hid (HRD1.out.later hb2);have HB2:=hid (HB1.out.trans (hb2.mono HB1.out.size));clear hb2;go_wp2_with fail;refine (Cv _ HRD2.out).mono ?_;rintro r w2' ⟨rfl,rfl⟩;go_wp2_with fail;refine (HC2.out _ HB2.out).mono ?_;rintro r w3 ⟨rfl,hp⟩;have HP:=hid hp;clear hp;go_wp2_with fail;first | go_end0 | refine Al (Ax rfl _ _ _) rfl ?_
   exact⟨rfl,HP.out⟩
  ·have HG:=hid (fun (V:World) (hV:A6 V g B a s)=>(by have:=AL V hV;rw[Ae hk] at this;exact this:Calls Tryz.prog 112 #[.pointer (some ⟨g,0,none⟩)] V fun r w'=>r=.returned (.bool false)∧Below V.heap.size V w'))
   have HN2:=hid (HNN.out (.inr hk));clear hk;go_enter Ct,Cd;go_wp2_with fail;refine HH.out.mono ?_;rintro r w1 ⟨rfl,hb1⟩;have p1:=(hb1.cell (p:=⟨w.heap.size,0,none⟩) l0).trans p0;have HRD1:=hid (HRD.out.later hb1);have HB1:=hid hb1;clear hb1;go_wp2_with fail;refine (HG.out _ HRD1.out).mono ?_;rintro r w2 ⟨rfl,hb2⟩;have HP:=hid (HN2.out _ (HB1.out.trans (hb2.mono HB1.out.size)));clear hb2;go_wp2_with fail;first | go_end0 | refine Al (Ax rfl _ _ _) rfl ?_
   exact⟨rfl,HP.out⟩
theorem WL{B:List UInt8}{k:Int}{m:Msg}{v1 v3 v4:Value}{s:Rs}{blk:Rs→Rs × List UInt8 × Bool}(hU:Ch w g B a fn caps blk K X)(hB:B.length≤1000000000)(h:C5 w g B a K X q M lo k m v1 v2 v3 v4 s W)(hz:m.links=([]:List BH))(hpos:0≤m.pos∧m.pos≤18446744073709551615):
  Calls Tryz.prog 307 #[.int .i64 16,.func (Fn.func 314) #[] #[.pointer (some ⟨w.heap.size,0,none⟩),.pointer (some ⟨M,0,none⟩)],.pointer (some ⟨w.heap.size+1,0,none⟩),.pointer (some ⟨w.heap.size,0,none⟩)] W fun r W'=>r=.returned (.tuple #[])∧∃v2',C5 w g B a K X q M lo k {m with links:=(Rs.part (AE k 16) s (fun t=>t.links B m.pos) []).2} v1 v2' v3 v4 (Rs.part (AE k 16) s (fun t=>t.links B m.pos) []).1 W':=by
 refine SH hU h (fun W'=>∃v2',C5 w g B a K X q M lo k {m with links:=(Rs.part (AE k 16) s (fun t=>t.links B m.pos) []).2} v1 v2' v3 v4 (Rs.part (AE k 16) s (fun t=>t.links B m.pos) []).1 W') (fun hh hk W' hb=> ?_) (fun hn W' hb=> ?_)
 ·have:=SF hU hB (h.later hU hb) s.p hpos
  rw[hh];exact this
 ·rw[Gj hn fun e=>Rs.OX e]
  have e:{m with links:=([]:List BH)}=m:=by
   cases m;dsimp only at hz;subst hz;rfl
  dsimp only;rw[e];exact⟨_,h.later hU hb⟩
theorem SG{k:Int}{s:Rs}{blk:Rs→Rs × List UInt8 × Bool}(hU:Ch w g B a fn caps blk K X)(h:C5 w g B a K X q M lo k m v1 v2 v3 v4 s W)(P:World→Prop)
 (HC:AE k 64=true→s.k=0→∀W':World,Below W.heap.size W W'→Calls Tryz.prog 316 AcH W' fun r W''=>r=.returned (.tuple #[])∧P W'')
 (HN:(AE k 64=false∨s.k≠0)→∀W':World,Below W.heap.size W W'→P W'):
  Calls Tryz.prog 307 #[.int .i64 64,.func (Fn.func 316) #[] #[.pointer (some ⟨w.heap.size,0,none⟩),.pointer (some ⟨M,0,none⟩)],.pointer (some ⟨w.heap.size+1,0,none⟩),.pointer (some ⟨w.heap.size,0,none⟩)] W fun r W'=>r=.returned (.tuple #[])∧P W':=by
 have HH:=hid (DA k 64 zU W);have HRD:=hid h.rd;have y0:W.cell? ⟨w.heap.size+1,0,none⟩=some (.int .i64 k):=h.pk.cell 0;have p0:W.cell? ⟨w.heap.size,0,none⟩=some (.pointer (some ⟨g,0,none⟩)):=h.pa.cell 0;have l0:=h.pa.lt;have HCC:=hid HC;have HNN:=hid HN;clear h HC HN hU;generalize AE k 64=H at*;cases H
 ·go_enter Ct,Cd
  go_wp2_with fail;refine HH.out.mono ?_;rintro r w1 ⟨rfl,hb1⟩;have HP:=hid (HNN.out (.inl ZG) w1 hb1);clear hb1;go_wp2_with fail;first | go_end0 | refine Al (Ax rfl _ _ _) rfl ?_
  exact⟨rfl,HP.out⟩
 ·by_cases hk:s.k=0
  ·have HG:=hid (fun (V:World) (hV:A6 V g B a s)=>(by have:=AL V hV;rw[Ad hk] at this;exact this:Calls Tryz.prog 112 #[.pointer (some ⟨g,0,none⟩)] V fun r w'=>r=.returned (.bool true)∧Below V.heap.size V w'))
   have HC2:=hid (HCC.out ZG hk);clear hk;go_enter Ct,Cd;go_wp2_with fail;refine HH.out.mono ?_;rintro r w1 ⟨rfl,hb1⟩;have p1:=(hb1.cell (p:=⟨w.heap.size,0,none⟩) l0).trans p0;have HRD1:=hid (HRD.out.later hb1);have HB1:=hid hb1;have l1:=Aj l0 hb1.size;clear hb1;go_wp2_with fail;refine (HG.out _ HRD1.out).mono ?_;rintro r w2 ⟨rfl,hb2⟩;have p2:=(hb2.cell (p:=⟨w.heap.size,0,none⟩) l1).trans p1;have HRD2:=hid (HRD1.out.later hb2);have HB2:=hid (HB1.out.trans (hb2.mono HB1.out.size));clear hb2;go_wp2_with fail;refine (Cv _ HRD2.out).mono ?_;rintro r w2' ⟨rfl,rfl⟩;go_wp2_with fail;refine (HC2.out _ HB2.out).mono ?_;rintro r w3 ⟨rfl,hp⟩;have HP:=hid hp;clear hp;go_wp2_with fail;first | go_end0 | refine Al (Ax rfl _ _ _) rfl ?_
   exact⟨rfl,HP.out⟩
  ·have HG:=hid (fun (V:World) (hV:A6 V g B a s)=>(by have:=AL V hV;rw[Ae hk] at this;exact this:Calls Tryz.prog 112 #[.pointer (some ⟨g,0,none⟩)] V fun r w'=>r=.returned (.bool false)∧Below V.heap.size V w'))
   have HN2:=hid (HNN.out (.inr hk));clear hk;go_enter Ct,Cd;go_wp2_with fail;refine HH.out.mono ?_;rintro r w1 ⟨rfl,hb1⟩;have p1:=(hb1.cell (p:=⟨w.heap.size,0,none⟩) l0).trans p0;have HRD1:=hid (HRD.out.later hb1);have HB1:=hid hb1;clear hb1;go_wp2_with fail;refine (HG.out _ HRD1.out).mono ?_;rintro r w2 ⟨rfl,hb2⟩;have HP:=hid (HN2.out _ (HB1.out.trans (hb2.mono HB1.out.size)));clear hb2;go_wp2_with fail;first | go_end0 | refine Al (Ax rfl _ _ _) rfl ?_
   exact⟨rfl,HP.out⟩
theorem WK{w:World}{g:Nat}{B:List UInt8}{a:Option Addr}{K:Nat→Prop}{X:World→Bool→Prop}{q:Bool}{M lo:Nat}{k:Int}{m:Msg}{v1 v2 v3 v4:Value}{s:Rs}{blk:Rs→Rs × List UInt8 × Bool}(hU:Ch w g B a fn caps blk K X)(hB:B.length≤1000000000)(h:C5 w g B a K X q M lo k m v1 v2 v3 v4 s W)(hz:m.sea=Dk):
  Calls Tryz.prog 307 #[.int .i64 64,.func (Fn.func 316) #[] #[.pointer (some ⟨w.heap.size,0,none⟩),.pointer (some ⟨M,0,none⟩)],.pointer (some ⟨w.heap.size+1,0,none⟩),.pointer (some ⟨w.heap.size,0,none⟩)] W fun r W'=>r=.returned (.tuple #[])∧C5 w g B a K X q M lo k {m with sea:=(Rs.part (AE k 64) s (Rs.seal_ B) Dk).2} v1 v2 v3 v4 (Rs.part (AE k 64) s (Rs.seal_ B) Dk).1 W':=by
 refine SG hU h (fun W'=>C5 w g B a K X q M lo k {m with sea:=(Rs.part (AE k 64) s (Rs.seal_ B) Dk).2} v1 v2 v3 v4 (Rs.part (AE k 64) s (Rs.seal_ B) Dk).1 W') (fun hh hk W' hb=> ?_) (fun hn W' hb=> ?_)
 ·have:=UE hU hB (h.later hU hb) s.p
  rw[hh];exact this
 ·rw[Gj hn fun e=>Rs.Mv e]
  have e:{m with sea:=Dk}=m:=by
   cases m;dsimp only at hz;subst hz;rfl
  dsimp only;rw[e];exact h.later hU hb
theorem Q5{k:Int}{s:Rs}{blk:Rs→Rs × List UInt8 × Bool}(hU:Ch w g B a fn caps blk K X)(h:C5 w g B a K X q M lo k m v1 v2 v3 v4 s W)(P:World→Prop)
 (HC:AE k 128=true→s.k=0→∀W':World,Below W.heap.size W W'→Calls Tryz.prog 318 AcH W' fun r W''=>r=.returned (.tuple #[])∧P W'')
 (HN:(AE k 128=false∨s.k≠0)→∀W':World,Below W.heap.size W W'→P W'):
  Calls Tryz.prog 307 #[.int .i64 128,.func (Fn.func 318) #[] #[.pointer (some ⟨w.heap.size,0,none⟩),.pointer (some ⟨M,0,none⟩)],.pointer (some ⟨w.heap.size+1,0,none⟩),.pointer (some ⟨w.heap.size,0,none⟩)] W fun r W'=>r=.returned (.tuple #[])∧P W':=by
 have HH:=hid (DA k 128 zU W);have HRD:=hid h.rd;have y0:W.cell? ⟨w.heap.size+1,0,none⟩=some (.int .i64 k):=h.pk.cell 0;have p0:W.cell? ⟨w.heap.size,0,none⟩=some (.pointer (some ⟨g,0,none⟩)):=h.pa.cell 0;have l0:=h.pa.lt;have HCC:=hid HC;have HNN:=hid HN;clear h HC HN hU;generalize AE k 128=H at*;cases H
 ·go_enter Ct,Cd
  go_wp2_with fail;refine HH.out.mono ?_;rintro r w1 ⟨rfl,hb1⟩;have HP:=hid (HNN.out (.inl ZG) w1 hb1);clear hb1;go_wp2_with fail;first | go_end0 | refine Al (Ax rfl _ _ _) rfl ?_
  exact⟨rfl,HP.out⟩
 ·by_cases hk:s.k=0
  ·have HG:=hid (fun (V:World) (hV:A6 V g B a s)=>(by have:=AL V hV;rw[Ad hk] at this;exact this:Calls Tryz.prog 112 #[.pointer (some ⟨g,0,none⟩)] V fun r w'=>r=.returned (.bool true)∧Below V.heap.size V w'))
   have HC2:=hid (HCC.out ZG hk);clear hk;go_enter Ct,Cd;go_wp2_with fail;refine HH.out.mono ?_;rintro r w1 ⟨rfl,hb1⟩;have p1:=(hb1.cell (p:=⟨w.heap.size,0,none⟩) l0).trans p0;have HRD1:=hid (HRD.out.later hb1);have HB1:=hid hb1;have l1:=Aj l0 hb1.size;clear hb1;go_wp2_with fail;refine (HG.out _ HRD1.out).mono ?_;rintro r w2 ⟨rfl,hb2⟩;have p2:=(hb2.cell (p:=⟨w.heap.size,0,none⟩) l1).trans p1;have HRD2:=hid (HRD1.out.later hb2);have HB2:=hid (HB1.out.trans (hb2.mono HB1.out.size));clear hb2;go_wp2_with fail;refine (Cv _ HRD2.out).mono ?_;rintro r w2' ⟨rfl,rfl⟩;go_wp2_with fail;refine (HC2.out _ HB2.out).mono ?_;rintro r w3 ⟨rfl,hp⟩;have HP:=hid hp;clear hp;go_wp2_with fail;first | go_end0 | refine Al (Ax rfl _ _ _) rfl ?_
   exact⟨rfl,HP.out⟩
  ·have HG:=hid (fun (V:World) (hV:A6 V g B a s)=>(by have:=AL V hV;rw[Ae hk] at this;exact this:Calls Tryz.prog 112 #[.pointer (some ⟨g,0,none⟩)] V fun r w'=>r=.returned (.bool false)∧Below V.heap.size V w'))
   have HN2:=hid (HNN.out (.inr hk));clear hk;go_enter Ct,Cd;go_wp2_with fail;refine HH.out.mono ?_;rintro r w1 ⟨rfl,hb1⟩;have p1:=(hb1.cell (p:=⟨w.heap.size,0,none⟩) l0).trans p0;have HRD1:=hid (HRD.out.later hb1);have HB1:=hid hb1;clear hb1;go_wp2_with fail;refine (HG.out _ HRD1.out).mono ?_;rintro r w2 ⟨rfl,hb2⟩;have HP:=hid (HN2.out _ (HB1.out.trans (hb2.mono HB1.out.size)));clear hb2;go_wp2_with fail;first | go_end0 | refine Al (Ax rfl _ _ _) rfl ?_
   exact⟨rfl,HP.out⟩
theorem UG{blk:Rs→Rs × List UInt8 × Bool}(hU:Ch w g B a fn caps blk K X)(hB:B.length≤1000000000)(h:C5 w g B a K X q M lo k m v1 v2 v3 v4 s W)(hz:m.proj=DE):
  Calls Tryz.prog 307 #[.int .i64 128,.func (Fn.func 318) #[] #[.pointer (some ⟨w.heap.size,0,none⟩),.pointer (some ⟨M,0,none⟩)],.pointer (some ⟨w.heap.size+1,0,none⟩),.pointer (some ⟨w.heap.size,0,none⟩)] W fun r W'=>r=.returned (.tuple #[])∧∃v4',C5 w g B a K X q M lo k {m with proj:=(Rs.part (AE k 128) s (Rs.Ds B) DE).2} v1 v2 v3 v4' (Rs.part (AE k 128) s (Rs.Ds B) DE).1 W':=by
 refine Q5 hU h (fun W'=>∃v4',C5 w g B a K X q M lo k {m with proj:=(Rs.part (AE k 128) s (Rs.Ds B) DE).2} v1 v2 v3 v4' (Rs.part (AE k 128) s (Rs.Ds B) DE).1 W') (fun hh hk W' hb=> ?_) (fun hn W' hb=> ?_)
 ·have:=UF hU hB (h.later hU hb) s.p
  rw[hh];exact this
 ·rw[Gj hn fun e=>Rs.MF e]
  have e:{m with proj:=DE}=m:=by
   cases m;dsimp only at hz;subst hz;rfl
  dsimp only;rw[e];exact⟨_,h.later hU hb⟩
end Go.Proofs.YtfddhafbhceoaaaGreat
