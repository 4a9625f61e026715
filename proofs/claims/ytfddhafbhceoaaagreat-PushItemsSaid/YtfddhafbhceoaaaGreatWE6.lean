/- Mini: Needed by pushItems_walk, part 6: texts put together by shake.py; no condition. -/
import Derived.Test.YtfddhafbhceoaaaGreatWE3
import Derived.Test.YtfddhafbhceoaaaGreatWE2
import Derived.Lib.SlBytesConst
import Derived.Test.YtfddhafbhceoaaaGreatWE4
import Derived.Test.YtfddhafbhceoaaaGreatWE5
import Derived.RegionTactic
import Derived.Laws.BitsAllLaws
import Derived.Test.YtfddhafbhceoaaaGreatWE1
import Derived.Deep.AppendLies
import Derived.Deep.RegionLaw
import Derived.Laws.MakeOwn
set_option linter.unusedVariables false
set_option linter.unusedSimpArgs false
set_option maxRecDepth 100000
set_option maxHeartbeats 6400000
namespace Go.Bs
variable{c:Nat}
theorem zCp{p:Prop}(h:p:=by have := x.toNat_lt; omega):p:=h
theorem zCg{p:Prop}(h:p:=by have := HFK.out; simp only [Ag]; omega):p:=h
theorem zA5{p:Prop}(h:p:=by have := hbk x hx; omega):p:=h
theorem zAp{p:Prop}(h:p:=by rw [Jt]; exact h):p:=h
theorem Z9{p:Prop}(h:p:=by rw [hf.out, GM]; rfl):p:=h
theorem zT{p:Prop}(h:p:=by simp only [Ag]; omega):p:=h
abbrev AcA(h:Array Value:=by exact #[Value.int .u32 (v0:Int),Value.int .u32 (v1:Int),Value.int .u32 (v2:Int),Value.int .u32 (v3:Int),Value.int .u32 (v4:Int),Value.int .u32 (v5:Int),Value.int .u32 (v6:Int),Value.int .u32 (v7:Int),Value.int .u32 (v8:Int),Value.int .u32 (v9:Int),Value.int .u32 (v10:Int),Value.int .u32 (v11:Int),Value.int .u32 (v12:Int),Value.int .u32 (v13:Int),Value.int .u32 (v14:Int),Value.int .u32 (v15:Int)]):=h
theorem Aw:type_of% @List.getElem_cons_succ:=@List.getElem_cons_succ
theorem Fa:type_of% @List.getElem_of_mem:=@List.getElem_of_mem
theorem Ft:type_of% @Nat.add_sub_cancel:=@Nat.add_sub_cancel
theorem Na:type_of% @List.all_eq_true:=@List.all_eq_true
end Go.Bs
namespace Go.Proofs.YtfddhafbhceoaaaGreat
open Go.RowKit Go.Bs Go.Maps
variable{bound k:Int}{B J l:List UInt8}{L base c g n sz:Nat}{S:Nat → Prop}{a:Option Addr}{s:Rs}{t:TypeId}{v0 v1 v2:Value}{w:World}
def Rs.inn(s:Rs)(L:Nat):Prop:=0≤s.f∧s.f≤L
theorem Rs.Ik(h:s.inn L){c at_:Int}(h1:0≤at_)(h2:at_≤L):(s.fail c at_).inn L:=by
 unfold Rs.fail;split
 ·exact⟨h1,h2⟩
 ·exact h
theorem Rs.Qy(h:s.ok L)(hi:s.inn L)(n:Int):(s.skip L n).2.inn L:=by
 have:=h.le;unfold Rs.skip Rs.inn at*;split
 ·split
  ·dsimp only;omega
  ·split
   ·dsimp only;omega
   ·dsimp only;omega
 ·exact hi
theorem Rs.T4(h:s.ok B.length)(hi:s.inn B.length):(s.num B).1.inn B.length:=by
 have hu:=G9 (B.drop s.p) 0 0;have hl:(B.drop s.p).length=B.length-s.p:=zN;have:=h.le;unfold Rs.num Rs.inn at*;split
 ·dsimp only
  split
  ·omega
  ·split
   ·omega
   ·rename_i h1 h2
    have:=hu.2.2.2.2 h2;omega
 ·exact hi
theorem Rs.AaM(h:s.ok B.length)(hi:s.inn B.length):(s.head B).1.inn B.length:=by
 have hle:=h.le;have hn:=Rs.T4 h hi;unfold Rs.head;split
 ·split
  ·split
   ·exact Rs.Ik hn zD zD
   ·exact hn
  ·split
   ·exact Rs.Ik hn zD zD
   ·exact hn
 ·exact hn
theorem Rs.LR(h:s.ok B.length)(hi:s.inn B.length):(s.offset B).1.inn B.length:=by
 have hle:=h.le;have hn:=Rs.T4 h hi;unfold Rs.offset;dsimp only;split
 ·exact Rs.Ik hn zD zD
 ·exact hn
theorem Wz{out:List UInt8}(h:s.ok B.length)(hi:s.inn B.length):(C6 B bound s out).1.inn B.length:=by
 have hle:=h.le;have hh:=Rs.AaM h hi;have ho:=Rs.Jf h;have hle2:=ho.le;unfold C6;split
 ·exact Rs.Ik hh zD zD
 ·split
  ·exact Rs.Qy ho hh _
  ·split
   ·exact Rs.Ik (Rs.LR ho hh) zD zD
   ·split
    ·exact Rs.LR ho hh
    ·exact Rs.LR ho hh
theorem YI:∀(f:Nat) (s:Rs) (out:List UInt8),s.ok B.length→s.inn B.length→(exF B bound f s out).1.inn B.length
 | 0,s,out,_,h=>h
 | f+1,s,out,h1,h2=>by
  simp only[exF];split
  ·exact YI f _ _ (Ma h1) (Wz h1 h2)
  ·exact h2
theorem Sx:∀(f:Nat) (s:Rs) (out:List UInt8),Uv bound out→Uv bound (exF B bound f s out).2
 | 0,s,out,h=>h
 | f+1,s,out,h=>by
  simp only[exF];split
  ·exact Sx f _ _ (P9 h)
  ·exact h
theorem Mb(B:List UInt8)(bound:Int):(exB B bound).1.length≤bound.toNat∧0≤(exB B bound).2.2∧(exB B bound).2.2≤B.length∧((exB B bound).2.1≠0→(exB B bound).1=[]):=by
 have h1:=YI (B:=B) (bound:=bound) B.length ⟨0,0,0⟩ [] ⟨Am _,fun _=>rfl⟩ ⟨zN,zN⟩;have h2:=Sx (B:=B) (bound:=bound) B.length ⟨0,0,0⟩ [] (.inl rfl);unfold exB;split
 ·refine⟨?_,zN,zN,zN⟩
  rcases h2 with h | h
  ·rw[h];simp
  ·dsimp only;omega
 ·exact⟨zN,h1.1,h1.2,zN⟩
theorem Rs.Yw{m:Int}:s.p≤(s.int B m).1.p:=by
 unfold Rs.int Rs.most;split
 ·split
  ·rw[Rs.Ou];exact Rs.Yh
  ·exact Rs.Yh
 ·rw[Rs.Ou];exact Rs.Yh
theorem Rs.OD(h:s.ok B.length):s.p≤(s.byte B).1.p:=Rs.Xt h 1
theorem Rs.Tg(h:s.ok B.length)(n:Int):s.p≤(s.take B n).1.p:=Rs.Xt h n
theorem Rs.AbM(h:s.ok B.length)(m:Int):s.p≤(s.D5 B m).1.p:=A4 (Rs.Yw (m:=m)) (Rs.Tg (Rs.FU h) _)
theorem Rs.Ir(h:s.ok B.length)(m:Int):(s.D5 B m).1.ok B.length:=Rs.IS (Rs.FU h) _
def Rs.unp(B:List UInt8)(s:Rs)(n:Nat):Rs × List UInt8:=
 if (s.D5 B 1048576).1.k=0 then
  (if (exB (s.D5 B 1048576).2 n).2.1=0 then
   (if (exB (s.D5 B 1048576).2 n).1.length<n then ((s.D5 B 1048576).1.fail 3 (s.D5 B 1048576).1.p,(exB (s.D5 B 1048576).2 n).1) else ((s.D5 B 1048576).1,(exB (s.D5 B 1048576).2 n).1))
  else ((s.D5 B 1048576).1.fail (exB (s.D5 B 1048576).2 n).2.1 ((exB (s.D5 B 1048576).2 n).2.2+(((s.D5 B 1048576).1.p:Int)-((s.D5 B 1048576).2.length:Int))),[]))
 else ((s.D5 B 1048576).1,[])
theorem Rs.Xe(h:s.ok B.length)(n:Nat):(s.unp B n).1.ok B.length:=by
 unfold Rs.unp;split
 ·split
  ·split
   ·exact Rs.Co (Rs.Ir h _) zD
   ·exact Rs.Ir h _
  ·exact Rs.Co (Rs.Ir h _) zL
 ·exact Rs.Ir h _
theorem Rs.Aa2(h:s.ok B.length)(n:Nat):s.p≤(s.unp B n).1.p:=by
 have:=Rs.AbM h 1048576;unfold Rs.unp;split
 ·split
  ·split
   ·rw[Rs.Ou];exact this
   ·exact this
  ·rw[Rs.Ou];exact this
 ·exact this
theorem Rs.U7(n:Nat):(s.unp B n).2.length≤n:=by
 have:=(Mb (s.D5 B 1048576).2 n).1;unfold Rs.unp;split
 ·split
  ·split
   ·dsimp only;omega
   ·dsimp only;omega
  ·simp
 ·simp
def Rs.loose(B:List UInt8)(s:Rs)(most:Int):Rs × List UInt8 × Bool:=
 if ((s.int B (min most 1048576)).1.byte B).1.k=0 then
  (if ((s.int B (min most 1048576)).1.byte B).2.toNat=0 then
   (if (((s.int B (min most 1048576)).1.byte B).1.take B ((s.int B (min most 1048576)).2:Int)).1.k=0 then ((((s.int B (min most 1048576)).1.byte B).1.take B ((s.int B (min most 1048576)).2:Int)).1,(((s.int B (min most 1048576)).1.byte B).1.take B ((s.int B (min most 1048576)).2:Int)).2,decide (Bk (((s.int B (min most 1048576)).1.byte B).1.take B ((s.int B (min most 1048576)).2:Int)).2=(B.drop s.p).take ((((s.int B (min most 1048576)).1.byte B).1.take B ((s.int B (min most 1048576)).2:Int)).1.p-s.p)))
   else ((((s.int B (min most 1048576)).1.byte B).1.take B ((s.int B (min most 1048576)).2:Int)).1,[],false))
  else if ((s.int B (min most 1048576)).1.byte B).2.toNat=1 then
   (if (((s.int B (min most 1048576)).1.byte B).1.unp B (s.int B (min most 1048576)).2).1.k=0 then ((((s.int B (min most 1048576)).1.byte B).1.unp B (s.int B (min most 1048576)).2).1,(((s.int B (min most 1048576)).1.byte B).1.unp B (s.int B (min most 1048576)).2).2,decide (Bk (((s.int B (min most 1048576)).1.byte B).1.unp B (s.int B (min most 1048576)).2).2=(B.drop s.p).take ((((s.int B (min most 1048576)).1.byte B).1.unp B (s.int B (min most 1048576)).2).1.p-s.p)))
   else ((((s.int B (min most 1048576)).1.byte B).1.unp B (s.int B (min most 1048576)).2).1,[],false))
  else (((s.int B (min most 1048576)).1.byte B).1.fail 7 ((((s.int B (min most 1048576)).1.byte B).1.p:Int)-1),[],false))
 else (((s.int B (min most 1048576)).1.byte B).1,[],false)
theorem MU(x y:List UInt8)(a a':Option Addr)(n c n' c':Nat)(w:World)(hx:Ah.r (·<w.heap.size) w [.slice a n c] x)(hy:Ah.r (·<w.heap.size) w [.slice a' n' c'] y):
  Calls Tryz.prog 201 #[.slice a n c,.slice a' n' c'] w fun r w'=>r=.returned (.bool (decide (x=y)))∧w=w':=by
 obtain⟨rfl,_,_,_⟩:=AT hx;obtain⟨rfl,_,_,_⟩:=AT hy;have h1:=JZ (P:=Tryz.prog) 22 9 5 Au Tryz.underlying5 Tryz.underlying9 hx;have h2:=JZ (P:=Tryz.prog) 22 9 5 Au Tryz.underlying5 Tryz.underlying9 hy;have he:(x==y)=decide (x=y):=by
  by_cases h:x=y
  ·simp[h]
  ·simp[h]
 have HE:=hid he;clear he hx hy;go_enter Tryz.func201,Tryz.ntmps201;go_wp2;go_ret;refine⟨?_,rfl⟩;rw[←HE.out];simp[go_sem]
theorem St(w:World)(k f b:Int)(hk:k≠0)(hf: -1000000000000≤f∧f≤1000000000000)(hb: -1000000000000≤b∧b≤1000000000000):Calls Tryz.prog 117 #[.agg #[.int .i64 k,.int .i64 f],.int .i64 b] w fun r w'=>r=.returned (.agg #[.int .i64 k,.int .i64 (f+b)])∧Below w.heap.size w w':=by
 go_enter Tryz.func117,Tryz.ntmps117;go_wp2_with fail;refine (Ot _ k (f+b) hk).mono ?_;rintro r w1 ⟨rfl,hb1⟩;have B1:Blk w1 (w.heap.size+1) 65 #[.int .i64 0,.int .i64 0]:=Blk.later zC hb1;obtain⟨y0,y1,g0,g1,l1⟩:=B6 B1;have hbw:Below w.heap.size w w1:=zA;clear B1 hb1;go_wp2;refine Al (v:=.agg #[.int .i64 k,.int .i64 (f+b)]) (by simp[results,Tryz.results117,go_sem,y0,y1,l1]) rfl ⟨rfl,zA⟩
theorem OK(w:World){g:Nat}{B:List UInt8}{a:Option Addr}{s:Rs}(h:A6 w g B a s)(hB:B.length≤1000000000)(n:Nat)(hn:n≤1048576):Calls Tryz.prog 212 #[.pointer (some ⟨g,0,none⟩),.int .i64 (n:Int)] w fun r w'=>∃v,r=.returned v∧Ah.r (fun q=>w.heap.size≤q∧q<w'.heap.size) w' [v] (s.unp B n).2∧AG w g B a (s.unp B n).1 w':=by
 have HB:=hid (Qg w h zD 1048576 zD);have hbok:=Rs.Ir h.ok 1048576;have hlen:(s.D5 B 1048576).2.length≤B.length:=by
  unfold Rs.D5 Rs.take;dsimp only;split
  ·simp;omega
  ·simp
 have hxf:=Mb (s.D5 B 1048576).2 n;have hX:=hid (fun (W:World) (aD:Option Addr) (nD cD:Nat) (hl:Ah.r (·<W.heap.size) W [.slice aD nD cD] (s.D5 B 1048576).2)=>QU W (s.D5 B 1048576).2 aD nD cD hl zD n zD);have hpl:=hbok.le;unfold Rs.unp;generalize s.D5 B 1048576=T at*;generalize exB T.2 n=X at*;obtain⟨s1,D⟩:=T;obtain⟨out,k,f⟩:=X;dsimp only at*;have hgl:=h.blk.lt;have HDAT:=hid h.dat;clear h;by_cases h1:s1.k=0
 ·have dk:decide (s1.k=0)=true:=Ad h1
  rw[Ai h1];have H1:=hid h1;clear h1;by_cases h2:k=0
  ·have d2:decide (k=0)=true:=Ad h2
   rw[Ai h2];clear h2;by_cases h3:out.length<n
   ·have d3:decide ((out.length:Int)<(n:Int))=true:=Ad zD
    have d3':decide (out.length<n)=true:=Ad h3;rw[Ai h3];clear h3;dsimp only;go_enter Tryz.func212,Tryz.ntmps212;go_wp2_with fail;refine HB.out.mono ?_;rintro r w1 ⟨v,rfl,hr,hst⟩;obtain⟨aD,cD,hv,hr2,_⟩:=AN hr;simp only[As,AM] at hv;subst hv;have HD1:=hid hr2;have HST:=hid hst;have hs1:=hst.size;have hG:=AL w1 hst.1;rw[dk] at hG;have HG:=hid hG;clear hr hr2 hst hG dk;go_wp2_with fail;refine HG.out.mono ?_;rintro r w2 ⟨rfl,hb2⟩;have hs2:=hb2.size;have HAT:=hid (Cv w2 (HST.out.1.later hb2));go_wp2_with fail;refine HAT.out.mono ?_;rintro r w2' ⟨rfl,rfl⟩;go_wp2_with fail;refine (hX.out w2 aD _ cD (Ah.mono (Ah.keep HD1.out fun q hq=>hb2.block q hq.2) fun q hq=>zD)).mono ?_;rintro r w3 ⟨v3,rfl,hr,hb3⟩;obtain⟨a3,c3,hv,hr2,_⟩:=AN hr;simp only[As,AM] at hv;subst hv;have HR3:=hid hr2;have hs3:=hb3.size;clear hr hr2;have hG:=CX (w3.alloc (.cells #[.int .i64 k,.int .i64 f] 65)) k f;rw[d2] at hG;have HG3:=hid hG;clear hG d2;go_wp2_with fail;refine HG3.out.mono ?_;rintro r w4 ⟨rfl,hb4⟩;have hb34:Below w3.heap.size w3 w4:=zA;have hb14:Below w1.heap.size w1 w4:=Af hb34 (Af hb3 hb2);have HST4:=hid (HST.out.then hb14);have hs4:=hb34.size;have HKP:=hid (Ah.mono (S':=fun q=>w2.heap.size≤q∧q<w4.heap.size) (Ah.keep HR3.out fun q hq=>hb34.block q hq.2) fun q hq=>⟨hq.1,zD⟩);have HAT2:=hid (Cv _ HST4.out.1);go_wp2_with fail;refine HAT2.out.mono ?_;rintro r w4' ⟨rfl,rfl⟩;have HF:=hid (BP _ HST4.out.1 3 s1.p zD);go_wp2_with fail;refine HF.out.mono ?_;rintro r w5 ⟨rfl,hst5⟩;have hs5:=hst5.size;have HR5:=hid (Ah.mono (S':=fun q=>w.heap.size≤q∧q<w5.heap.size) (Ah.keep HKP.out fun q hq=>hst5.2.block q hq.2 zD) fun q hq=>⟨zD,zD⟩);have HST5:=hid (AG.trans HST4.out.2 hst5);clear hst5;go_wp2;go_ret;exact⟨_,rfl,HR5.out,HST5.out⟩
   ·have d3:decide ((out.length:Int)<(n:Int))=false:=Ae zD
    have d3':decide (out.length<n)=false:=Ae h3;rw[Ak h3];clear h3;dsimp only;go_enter Tryz.func212,Tryz.ntmps212;go_wp2_with fail;refine HB.out.mono ?_;rintro r w1 ⟨v,rfl,hr,hst⟩;obtain⟨aD,cD,hv,hr2,_⟩:=AN hr;simp only[As,AM] at hv;subst hv;have HD1:=hid hr2;have HST:=hid hst;have hs1:=hst.size;have hG:=AL w1 hst.1;rw[dk] at hG;have HG:=hid hG;clear hr hr2 hst hG dk;go_wp2_with fail;refine HG.out.mono ?_;rintro r w2 ⟨rfl,hb2⟩;have hs2:=hb2.size;have HAT:=hid (Cv w2 (HST.out.1.later hb2));go_wp2_with fail;refine HAT.out.mono ?_;rintro r w2' ⟨rfl,rfl⟩;go_wp2_with fail;refine (hX.out w2 aD _ cD (Ah.mono (Ah.keep HD1.out fun q hq=>hb2.block q hq.2) fun q hq=>zD)).mono ?_;rintro r w3 ⟨v3,rfl,hr,hb3⟩;obtain⟨a3,c3,hv,hr2,_⟩:=AN hr;simp only[As,AM] at hv;subst hv;have HR3:=hid hr2;have hs3:=hb3.size;clear hr hr2;have hG:=CX (w3.alloc (.cells #[.int .i64 k,.int .i64 f] 65)) k f;rw[d2] at hG;have HG3:=hid hG;clear hG d2;go_wp2_with fail;refine HG3.out.mono ?_;rintro r w4 ⟨rfl,hb4⟩;have hb34:Below w3.heap.size w3 w4:=zA;have hb14:Below w1.heap.size w1 w4:=Af hb34 (Af hb3 hb2);have HST4:=hid (HST.out.then hb14);have hs4:=hb34.size;have HKP:=hid (Ah.mono (S':=fun q=>w2.heap.size≤q∧q<w4.heap.size) (Ah.keep HR3.out fun q hq=>hb34.block q hq.2) fun q hq=>⟨hq.1,zD⟩);have HR5:=hid (Ah.mono (S':=fun q=>w.heap.size≤q∧q<w4.heap.size) HKP.out fun q hq=>⟨zD,zD⟩);go_wp2;go_ret;exact⟨_,rfl,HR5.out,HST4.out⟩
  ·have d2:decide (k=0)=false:=Ae h2
   rw[Ak h2];have ho:=hxf.2.2.2 h2;subst ho;have HK2:=hid h2;clear h2;dsimp only;go_enter Tryz.func212,Tryz.ntmps212;go_wp2_with fail;refine HB.out.mono ?_;rintro r w1 ⟨v,rfl,hr,hst⟩;obtain⟨aD,cD,hv,hr2,_⟩:=AN hr;simp only[As,AM] at hv;subst hv;have HD1:=hid hr2;have HST:=hid hst;have hs1:=hst.size;have hG:=AL w1 hst.1;rw[dk] at hG;have HG:=hid hG;clear hr hr2 hst hG dk;go_wp2_with fail;refine HG.out.mono ?_;rintro r w2 ⟨rfl,hb2⟩;have hs2:=hb2.size;have HAT:=hid (Cv w2 (HST.out.1.later hb2));go_wp2_with fail;refine HAT.out.mono ?_;rintro r w2' ⟨rfl,rfl⟩;go_wp2_with fail;refine (hX.out w2 aD _ cD (Ah.mono (Ah.keep HD1.out fun q hq=>hb2.block q hq.2) fun q hq=>zD)).mono ?_;rintro r w3 ⟨v3,rfl,hr,hb3⟩;obtain⟨a3,c3,hv,hr2,_⟩:=AN hr;simp only[As,AM] at hv;subst hv;have HR3:=hid hr2;have hs3:=hb3.size;clear hr hr2;have hG:=CX (w3.alloc (.cells #[.int .i64 k,.int .i64 f] 65)) k f;rw[d2] at hG;have HG3:=hid hG;clear hG d2;go_wp2_with fail;refine HG3.out.mono ?_;rintro r w4 ⟨rfl,hb4⟩;have hb34:Below w3.heap.size w3 w4:=zA;have hb14:Below w1.heap.size w1 w4:=Af hb34 (Af hb3 hb2);have HST4:=hid (HST.out.then hb14);have hs4:=hb34.size;have HKP:=hid (Ah.mono (S':=fun q=>w2.heap.size≤q∧q<w4.heap.size) (Ah.keep HR3.out fun q hq=>hb34.block q hq.2) fun q hq=>⟨hq.1,zD⟩);have B4:Blk w4 w3.heap.size 65 #[.int .i64 k,.int .i64 f]:=Blk.later (Blk.newAt _ _ _ rfl) hb4;obtain⟨y0,y1,g0,g1,l1⟩:=B6 B4;have HSH:=hid (St w4 k f ((s1.p:Int)-(D.length:Int)) HK2.out zD zD);go_wp2_with fail;refine HSH.out.mono ?_;rintro r w5 ⟨rfl,hb5⟩;have B5:=B4.later hb5;clear y0 y1 g0 g1 l1 B4;obtain⟨y0,y1,g0,g1,l1⟩:=B6 B5;clear B5;have hk5:AG w g B a s1 ((w5.setCell ⟨w3.heap.size,0,none⟩ (.int .i64 k)).setCell ⟨w3.heap.size,1,none⟩ (.int .i64 (f+((s1.p:Int)-(D.length:Int))))):=by
    have h5:=HST4.out.then hb5;refine⟨⟨Blk.far (Blk.far h5.1.blk zJ _) zJ _,?_,h5.1.ok⟩,Tch.setCell (Tch.setCell h5.2 (fun e=>by dsimp only at e;omega) _) (fun e=>by dsimp only at e;omega) _⟩;refine Ah.mono (Ah.keep (S:=fun q=>q<w.heap.size∧q≠g) (Ah.keep HDAT.out fun q hq=>h5.2.block q hq.1 hq.2) fun q hq=> ?_) fun q hq=>⟨by have:=h5.size;simp[World.setCell];omega,hq.2⟩;have:=hq.1;rw[AB _ _ _ _ zJ,AB _ _ _ _ zJ]
   have HK5:=hid hk5;clear hk5;have hsz5:w.heap.size≤((w5.setCell ⟨w3.heap.size,0,none⟩ (.int .i64 k)).setCell ⟨w3.heap.size,1,none⟩ (.int .i64 (f+((s1.p:Int)-(D.length:Int))))).heap.size:=HK5.out.size;have HF:=hid (BP _ HK5.out.1 k (f+((s1.p:Int)-(D.length:Int))) HK2.out);go_wp2_with fail;refine HF.out.mono ?_;rintro r w6 ⟨rfl,hst6⟩;have HST6:=hid (AG.trans HK5.out.2 hst6);clear hst6 hsz5;go_wp2;go_ret;exact⟨_,rfl,Cj rfl rfl (AT HR3.out).2.2.2,HST6.out⟩
 ·have dk:decide (s1.k=0)=false:=Ae h1
  rw[Ak h1];clear h1;dsimp only;go_enter Tryz.func212,Tryz.ntmps212;go_wp2_with fail;refine HB.out.mono ?_;rintro r w1 ⟨v,rfl,hr,hst⟩;obtain⟨aD,cD,hv,hr2,_⟩:=AN hr;simp only[As,AM] at hv;subst hv;have HD1:=hid hr2;have HST:=hid hst;have hs1:=hst.size;have hG:=AL w1 hst.1;rw[dk] at hG;have HG:=hid hG;clear hr hr2 hst hG dk;go_wp2_with fail;refine HG.out.mono ?_;rintro r w2 ⟨rfl,hb2⟩;have hs2:=hb2.size;have HST2:=hid (HST.out.then hb2);go_wp2;go_ret;exact⟨_,rfl,Cj rfl rfl zD,HST2.out⟩
theorem SM(w:World){g:Nat}{B:List UInt8}{a:Option Addr}{s:Rs}(h:A6 w g B a s)(hB:B.length≤1000000000)(most:Int)(hm: -9223372036854775808≤most∧most≤9223372036854775807):
  Calls Tryz.prog 140 #[.pointer (some ⟨g,0,none⟩),.int .i64 most] w fun r w'=>∃v,r=.returned (.tuple #[v,.bool (s.loose B most).2.2])∧Ah.r (fun q=>w.heap.size≤q∧q<w'.heap.size) w' [v] (s.loose B most).2.1∧AG w g B a (s.loose B most).1 w':=by
 have hgl:=h.blk.lt;have HA:=hid (Cv w h);have HI:=hid (Ef w h zD (min most 1048576) zD);have hiok:=Rs.FU h.ok (m:=min most 1048576);have hip:=Rs.Yw (B:=B) (s:=s) (m:=min most 1048576);have hile:(s.int B (min most 1048576)).2≤1048576:=by have:=Rs.JH (B:=B) (s:=s) (m:=min most 1048576);omega
 have hbok:=Rs.Iq hiok;have hbp:=Rs.OD hiok;have hBY:=hid (fun (W:World) (h:A6 W g B a (s.int B (min most 1048576)).1)=>Nd W h);have hTK:=hid (fun (W:World) (h:A6 W g B a ((s.int B (min most 1048576)).1.byte B).1)=>Nb W h ((s.int B (min most 1048576)).2:Int) zD zD);have htp:=Rs.Tg hbok ((s.int B (min most 1048576)).2:Int);have htl:(((s.int B (min most 1048576)).1.byte B).1.take B ((s.int B (min most 1048576)).2:Int)).2.length≤1048576:=by
  by_cases h0:(((s.int B (min most 1048576)).1.byte B).1.take B ((s.int B (min most 1048576)).2:Int)).1.k=0
  ·rw[(Rs.Ha h0).2.2];omega
  ·rw[Rs.Nw h0];simp
 have hUN:=hid (fun (W:World) (h:A6 W g B a ((s.int B (min most 1048576)).1.byte B).1)=>OK W h hB (s.int B (min most 1048576)).2 hile);have hup:=Rs.Aa2 hbok (s.int B (min most 1048576)).2;have hul:(((s.int B (min most 1048576)).1.byte B).1.unp B (s.int B (min most 1048576)).2).2.length≤1048576:=A4 (Rs.U7 _) hile;have hFL:=hid (fun (W:World) (h:A6 W g B a ((s.int B (min most 1048576)).1.byte B).1)=>BP W h 7 ((((s.int B (min most 1048576)).1.byte B).1.p:Int)-1) zD);have hfk:=Rs.BE (s:=((s.int B (min most 1048576)).1.byte B).1) (c:=7) (at_:=((((s.int B (min most 1048576)).1.byte B).1.p:Int)-1)) zD;have hSN:=hid (fun (W:World) (t:Rs) (h:A6 W g B a t) (hp:s.p≤t.p)=>XG W h s.p hp zD);have hbyp:((s.int B (min most 1048576)).1.byte B).1.p≤B.length:=hbok.le;have hb1:((s.int B (min most 1048576)).1.byte B).1.k=0→1≤((s.int B (min most 1048576)).1.byte B).1.p:=fun hk=>by rw[OD rfl hk];omega
 unfold Rs.loose;generalize ((s.int B (min most 1048576)).1.byte B).1.fail 7 ((((s.int B (min most 1048576)).1.byte B).1.p:Int)-1)=F1 at*;generalize ((s.int B (min most 1048576)).1.byte B).1.take B ((s.int B (min most 1048576)).2:Int)=T at*;generalize ((s.int B (min most 1048576)).1.byte B).1.unp B (s.int B (min most 1048576)).2=U at*;generalize (s.int B (min most 1048576)).1.byte B=Y at*;generalize s.int B (min most 1048576)=N at*;obtain⟨sd,n⟩:=N;obtain⟨se,y⟩:=Y;obtain⟨st,DT⟩:=T;obtain⟨su,DU⟩:=U;dsimp only at*;have hSNt:=hid (fun (W:World) (h:A6 W g B a st)=>hSN.out W st h zD);have hSNu:=hid (fun (W:World) (h:A6 W g B a su)=>hSN.out W su h zD);generalize (B.drop s.p).take (st.p-s.p)=S1 at*;generalize (B.drop s.p).take (su.p-s.p)=S2 at*;clear hSN;have hM:(if most≤1048576 then most else 1048576)=min most 1048576:=by split<;>omega
 have hM2:(if (1048576:Int)<most then (1048576:Int) else most)=min most 1048576:=by split<;>omega
 generalize min most 1048576=M at*;have hy:=y.toNat_lt;clear h;by_cases hk:se.k=0
 ·have dk:decide (se.k=0)=true:=Ad hk
  have hp1:=hb1 hk;rw[Ai hk];clear hk hb1;by_cases h0:y.toNat=0
  ·have d0:((y.toNat:Int)==0)=true:=by rw[h0];rfl
   rw[Ai h0];clear h0;by_cases ht:st.k=0
   ·have dt:decide (st.k=0)=true:=Ad ht
    rw[Ai ht];clear ht;dsimp only;go_enter Tryz.func140,Tryz.ntmps140;go_wp2_with fail;refine HA.out.mono ?_;rintro r w0 ⟨rfl,rfl⟩;go_wp2_with fail;refine HI.out.mono ?_;rintro r w1 ⟨rfl,hst1⟩;have HST1:=hid hst1;have HBY:=hid (hBY.out w1 hst1.1);clear hst1;go_wp2_with fail;refine HBY.out.mono ?_;rintro r w2 ⟨rfl,hst2⟩;have HST2:=hid (AG.trans HST1.out.2 hst2);have hG:=AL w2 hst2.1;rw[dk] at hG;have HG:=hid hG;clear hst2 hG dk;go_wp2_with fail;refine HG.out.mono ?_;rintro r w3 ⟨rfl,hb3⟩;have HST3:=hid (HST2.out.then hb3);have hs3:=HST3.out.size;have HC:=hid (hTK.out w3 HST3.out.1);go_wp2_with fail;refine HC.out.mono ?_;rintro r w4 ⟨v,rfl,hr,hst4⟩;obtain⟨aD,cD,hv,hr2,_⟩:=AN hr;simp only[As,AM] at hv;subst hv;have HR4:=hid hr2;have hs4:=hst4.size;have HST4:=hid (AG.trans HST3.out.2 hst4);have hG4:=AL w4 hst4.1;rw[dt] at hG4;have HG4:=hid hG4;clear hr hr2 hst4 hG4 dt;go_wp2_with fail;refine HG4.out.mono ?_;rintro r w5 ⟨rfl,hb5⟩;have HST5:=hid (HST4.out.then hb5);have hs5:=hb5.size;have HR5:=hid (Ah.mono (S':=fun q=>w3.heap.size≤q∧q<w5.heap.size) (Ah.keep HR4.out fun q hq=>hb5.block q hq.2) fun q hq=>⟨hq.1,zD⟩);have HBB:=hid (MW w5 DT aD _ cD (Ah.mono HR5.out fun q hq=>hq.2) htl);go_wp2_with fail;refine HBB.out.mono ?_;rintro r w6 ⟨v6,rfl,hr,hb6⟩;obtain⟨a6,c6,hv,hr2,_⟩:=AN hr;simp only[As,AM] at hv;subst hv;have HR6:=hid hr2;have hs6:=hb6.size;have HST6:=hid (HST5.out.then hb6);have HSN:=hid (hSNt.out w6 HST6.out.1);clear hr hr2;go_wp2_with fail;refine HSN.out.mono ?_;rintro r w7 ⟨v7,rfl,hr,hb7⟩;obtain⟨a7,c7,hv,hr2,_⟩:=AN hr;simp only[As,AM] at hv;subst hv;have HR7:=hid hr2;have hs7:=hb7.size;have HST7:=hid (HST6.out.then hb7);have HEQ:=hid (MU (Bk DT) S1 a6 a7 _ c6 _ c7 w7 (Ah.mono (Ah.keep HR6.out fun q hq=>hb7.block q hq.2) fun q hq=>zD) (Ah.mono HR7.out fun q hq=>hq.2));generalize hq:decide (Bk DT=S1)=q at*;have HQ:=hid hq;clear hq;clear hr hr2;go_wp2_with fail;refine HEQ.out.mono ?_;rintro r w8 ⟨rfl,rfl⟩;have HRF:=hid (Ah.mono (S':=fun q=>w.heap.size≤q∧q<w7.heap.size) (Ah.keep HR5.out fun q hq=>(hb7.block q zD).trans (hb6.block q hq.2)) fun q hq=>⟨zD,zD⟩);go_wp2;go_ret2
    rw[HQ.out];exact⟨_,rfl,HRF.out,HST7.out⟩
   ·have dt:decide (st.k=0)=false:=Ae ht
    rw[Ak ht];clear ht;dsimp only;go_enter Tryz.func140,Tryz.ntmps140;go_wp2_with fail;refine HA.out.mono ?_;rintro r w0 ⟨rfl,rfl⟩;go_wp2_with fail;refine HI.out.mono ?_;rintro r w1 ⟨rfl,hst1⟩;have HST1:=hid hst1;have HBY:=hid (hBY.out w1 hst1.1);clear hst1;go_wp2_with fail;refine HBY.out.mono ?_;rintro r w2 ⟨rfl,hst2⟩;have HST2:=hid (AG.trans HST1.out.2 hst2);have hG:=AL w2 hst2.1;rw[dk] at hG;have HG:=hid hG;clear hst2 hG dk;go_wp2_with fail;refine HG.out.mono ?_;rintro r w3 ⟨rfl,hb3⟩;have HST3:=hid (HST2.out.then hb3);have hs3:=HST3.out.size;have HC:=hid (hTK.out w3 HST3.out.1);go_wp2_with fail;refine HC.out.mono ?_;rintro r w4 ⟨v,rfl,hr,hst4⟩;obtain⟨aD,cD,hv,hr2,_⟩:=AN hr;simp only[As,AM] at hv;subst hv;have HR4:=hid hr2;have hs4:=hst4.size;have HST4:=hid (AG.trans HST3.out.2 hst4);have hG4:=AL w4 hst4.1;rw[dt] at hG4;have HG4:=hid hG4;clear hr hr2 hst4 hG4 dt;go_wp2_with fail;refine HG4.out.mono ?_;rintro r w5 ⟨rfl,hb5⟩;have HST5:=hid (HST4.out.then hb5);have hs5:=hb5.size;go_wp2;go_ret2
    exact⟨_,rfl,Cj rfl rfl zD,HST5.out⟩
  ·have d0:((y.toNat:Int)==0)=false:=by rw[BW];omega
   rw[Ak h0];by_cases h1:y.toNat=1
   ·have d1:((y.toNat:Int)==1)=true:=by rw[h1];rfl
    rw[Ai h1];clear h0 h1;by_cases ht:su.k=0
    ·have dt:decide (su.k=0)=true:=Ad ht
     rw[Ai ht];clear ht;dsimp only;go_enter Tryz.func140,Tryz.ntmps140;go_wp2_with fail;refine HA.out.mono ?_;rintro r w0 ⟨rfl,rfl⟩;go_wp2_with fail;refine HI.out.mono ?_;rintro r w1 ⟨rfl,hst1⟩;have HST1:=hid hst1;have HBY:=hid (hBY.out w1 hst1.1);clear hst1;go_wp2_with fail;refine HBY.out.mono ?_;rintro r w2 ⟨rfl,hst2⟩;have HST2:=hid (AG.trans HST1.out.2 hst2);have hG:=AL w2 hst2.1;rw[dk] at hG;have HG:=hid hG;clear hst2 hG dk;go_wp2_with fail;refine HG.out.mono ?_;rintro r w3 ⟨rfl,hb3⟩;have HST3:=hid (HST2.out.then hb3);have hs3:=HST3.out.size;have HC:=hid (hUN.out w3 HST3.out.1);go_wp2_with fail;refine HC.out.mono ?_;rintro r w4 ⟨v,rfl,hr,hst4⟩;obtain⟨aD,cD,hv,hr2,_⟩:=AN hr;simp only[As,AM] at hv;subst hv;have HR4:=hid hr2;have hs4:=hst4.size;have HST4:=hid (AG.trans HST3.out.2 hst4);have hG4:=AL w4 hst4.1;rw[dt] at hG4;have HG4:=hid hG4;clear hr hr2 hst4 hG4 dt;go_wp2_with fail;refine HG4.out.mono ?_;rintro r w5 ⟨rfl,hb5⟩;have HST5:=hid (HST4.out.then hb5);have hs5:=hb5.size;have HR5:=hid (Ah.mono (S':=fun q=>w3.heap.size≤q∧q<w5.heap.size) (Ah.keep HR4.out fun q hq=>hb5.block q hq.2) fun q hq=>⟨hq.1,zD⟩);have HBB:=hid (MW w5 DU aD _ cD (Ah.mono HR5.out fun q hq=>hq.2) hul);go_wp2_with fail;refine HBB.out.mono ?_;rintro r w6 ⟨v6,rfl,hr,hb6⟩;obtain⟨a6,c6,hv,hr2,_⟩:=AN hr;simp only[As,AM] at hv;subst hv;have HR6:=hid hr2;have hs6:=hb6.size;have HST6:=hid (HST5.out.then hb6);have HSN:=hid (hSNu.out w6 HST6.out.1);clear hr hr2;go_wp2_with fail;refine HSN.out.mono ?_;rintro r w7 ⟨v7,rfl,hr,hb7⟩;obtain⟨a7,c7,hv,hr2,_⟩:=AN hr;simp only[As,AM] at hv;subst hv;have HR7:=hid hr2;have hs7:=hb7.size;have HST7:=hid (HST6.out.then hb7);have HEQ:=hid (MU (Bk DU) S2 a6 a7 _ c6 _ c7 w7 (Ah.mono (Ah.keep HR6.out fun q hq=>hb7.block q hq.2) fun q hq=>zD) (Ah.mono HR7.out fun q hq=>hq.2));generalize hq:decide (Bk DU=S2)=q at*;have HQ:=hid hq;clear hq;clear hr hr2;go_wp2_with fail;refine HEQ.out.mono ?_;rintro r w8 ⟨rfl,rfl⟩;have HRF:=hid (Ah.mono (S':=fun q=>w.heap.size≤q∧q<w7.heap.size) (Ah.keep HR5.out fun q hq=>(hb7.block q zD).trans (hb6.block q hq.2)) fun q hq=>⟨zD,zD⟩);go_wp2;go_ret2
     rw[HQ.out];exact⟨_,rfl,HRF.out,HST7.out⟩
    ·have dt:decide (su.k=0)=false:=Ae ht
     rw[Ak ht];clear ht;dsimp only;go_enter Tryz.func140,Tryz.ntmps140;go_wp2_with fail;refine HA.out.mono ?_;rintro r w0 ⟨rfl,rfl⟩;go_wp2_with fail;refine HI.out.mono ?_;rintro r w1 ⟨rfl,hst1⟩;have HST1:=hid hst1;have HBY:=hid (hBY.out w1 hst1.1);clear hst1;go_wp2_with fail;refine HBY.out.mono ?_;rintro r w2 ⟨rfl,hst2⟩;have HST2:=hid (AG.trans HST1.out.2 hst2);have hG:=AL w2 hst2.1;rw[dk] at hG;have HG:=hid hG;clear hst2 hG dk;go_wp2_with fail;refine HG.out.mono ?_;rintro r w3 ⟨rfl,hb3⟩;have HST3:=hid (HST2.out.then hb3);have hs3:=HST3.out.size;have HC:=hid (hUN.out w3 HST3.out.1);go_wp2_with fail;refine HC.out.mono ?_;rintro r w4 ⟨v,rfl,hr,hst4⟩;obtain⟨aD,cD,hv,hr2,_⟩:=AN hr;simp only[As,AM] at hv;subst hv;have HR4:=hid hr2;have hs4:=hst4.size;have HST4:=hid (AG.trans HST3.out.2 hst4);have hG4:=AL w4 hst4.1;rw[dt] at hG4;have HG4:=hid hG4;clear hr hr2 hst4 hG4 dt;go_wp2_with fail;refine HG4.out.mono ?_;rintro r w5 ⟨rfl,hb5⟩;have HST5:=hid (HST4.out.then hb5);have hs5:=hb5.size;go_wp2;go_ret2
     exact⟨_,rfl,Cj rfl rfl zD,HST5.out⟩
   ·have d1:((y.toNat:Int)==1)=false:=by rw[BW];omega
    rw[Ak h1];clear h0 h1;have dt:decide (F1.k=0)=false:=Ae hfk;dsimp only;go_enter Tryz.func140,Tryz.ntmps140;go_wp2_with fail;refine HA.out.mono ?_;rintro r w0 ⟨rfl,rfl⟩;go_wp2_with fail;refine HI.out.mono ?_;rintro r w1 ⟨rfl,hst1⟩;have HST1:=hid hst1;have HBY:=hid (hBY.out w1 hst1.1);clear hst1;go_wp2_with fail;refine HBY.out.mono ?_;rintro r w2 ⟨rfl,hst2⟩;have HST2:=hid (AG.trans HST1.out.2 hst2);have hG:=AL w2 hst2.1;rw[dk] at hG;have HG:=hid hG;clear hst2 hG dk;go_wp2_with fail;refine HG.out.mono ?_;rintro r w3 ⟨rfl,hb3⟩;have HST3:=hid (HST2.out.then hb3);have hs3:=HST3.out.size;have HAT3:=hid (Cv w3 HST3.out.1);go_wp2_with fail;refine HAT3.out.mono ?_;rintro r w3' ⟨rfl,rfl⟩;have HC:=hid (hFL.out w3 HST3.out.1);go_wp2_with fail;refine HC.out.mono ?_;rintro r w4 ⟨rfl,hst4⟩;have HST4:=hid (AG.trans HST3.out.2 hst4);have hG4:=AL w4 hst4.1;rw[dt] at hG4;have HG4:=hid hG4;clear hst4 hG4 dt;go_wp2_with fail;refine HG4.out.mono ?_;rintro r w5 ⟨rfl,hb5⟩;have HST5:=hid (HST4.out.then hb5);go_wp2;go_ret2
    exact⟨_,rfl,Cj rfl rfl zD,HST5.out⟩
 ·have dk:decide (se.k=0)=false:=Ae hk
  rw[Ak hk];clear hk hb1;dsimp only;go_enter Tryz.func140,Tryz.ntmps140;go_wp2_with fail;refine HA.out.mono ?_;rintro r w0 ⟨rfl,rfl⟩;go_wp2_with fail;refine HI.out.mono ?_;rintro r w1 ⟨rfl,hst1⟩;have HST1:=hid hst1;have HBY:=hid (hBY.out w1 hst1.1);clear hst1;go_wp2_with fail;refine HBY.out.mono ?_;rintro r w2 ⟨rfl,hst2⟩;have HST2:=hid (AG.trans HST1.out.2 hst2);have hG:=AL w2 hst2.1;rw[dk] at hG;have HG:=hid hG;clear hst2 hG dk;go_wp2_with fail;refine HG.out.mono ?_;rintro r w3 ⟨rfl,hb3⟩;have HST3:=hid (HST2.out.then hb3);have hs3:=HST3.out.size;go_wp2;go_ret2
  exact⟨_,rfl,Cj rfl rfl zD,HST3.out⟩
def Rs.strict(s:Rs × List UInt8 × Bool):Rs × List UInt8:=if s.1.k=0 then (if s.2.2=true then (s.1,s.2.1) else (s.1.fail 12 s.1.p,[])) else (s.1,[])
theorem Q9(w:World){g:Nat}{B:List UInt8}{a:Option Addr}{s:Rs}(h:A6 w g B a s)(q:Bool)(p:Nat):
  Calls Tryz.prog 207 #[.bool q,.func (Fn.func 124) #[.pointer (some ⟨g,0,none⟩)] #[],.int .i64 (p:Int)] w fun r w'=>r=.returned (.tuple #[])∧AG w g B a (if q=true then s else s.fail 12 p) w':=by
 have HF:=hid (BP w h 12 p zD);have HH:=hid h;clear h;cases q
 ·rw[Ak zN]
  go_enter Tryz.func207,Tryz.ntmps207;go_wp2_with fail;refine HF.out.mono ?_;rintro r w1 ⟨rfl,hst⟩;have HST:=hid hst;clear hst;go_wp2;go_end0
  exact⟨rfl,HST.out⟩
 ·rw[Ai rfl]
  go_enter Tryz.func207,Tryz.ntmps207;go_wp2;go_end0
  exact⟨rfl,AG.refl HH.out⟩
theorem UQ(w:World){g:Nat}{B:List UInt8}{a:Option Addr}{s:Rs}(h:A6 w g B a s)(hB:B.length≤1000000000)(most:Int)(hm: -9223372036854775808≤most∧most≤9223372036854775807):
  Calls Tryz.prog 129 #[.pointer (some ⟨g,0,none⟩),.int .i64 most] w fun r w'=>∃v,r=.returned v∧Ah.r (fun q=>w.heap.size≤q∧q<w'.heap.size) w' [v] (Rs.strict (s.loose B most)).2∧AG w g B a (Rs.strict (s.loose B most)).1 w':=by
 have HLS:=hid (SM w h hB most hm);have hgl:=h.blk.lt;unfold Rs.strict;generalize s.loose B most=L at*;obtain⟨s1,D,q⟩:=L;dsimp only at*;have hfk:=Rs.BE (s:=s1) (c:=12) (at_:=(s1.p:Int)) zD;have hfb:s1.k≠0→s1.fail 12 s1.p=s1:=fun hk=>Rs.Cb hk;have hSC:=hid (fun (W:World) (h:A6 W g B a s1)=>Q9 W h q s1.p);clear h;by_cases hk:s1.k=0
 ·rw[Ai hk]
  cases q
  ·have d1:decide ((s1.fail 12 s1.p).k=0)=false:=Ae hfk
   rw[Ak zN];rw[Ak zN] at hSC;generalize s1.fail 12 s1.p=s2 at*;clear hk hfk hfb;go_enter Tryz.func129,Tryz.ntmps129;go_wp2_with fail;refine HLS.out.mono ?_;rintro r w1 ⟨v,rfl,hr,hst⟩;obtain⟨aD,cD,hv,hr2,_⟩:=AN hr;simp only[As,AM] at hv;subst hv;have HST:=hid hst;have HR:=hid hr2;have hs1:=hst.size;have HAT:=hid (Cv w1 hst.1);have HSC:=hid (hSC.out w1 hst.1);clear hr hr2 hst;go_wp2_with fail;refine HAT.out.mono ?_;rintro r w1' ⟨rfl,rfl⟩;go_wp2_with fail;refine HSC.out.mono ?_;rintro r w2 ⟨rfl,hst2⟩;have HST2:=hid (AG.trans HST.out.2 hst2);have HRK:=hid (Ah.mono (S':=fun q=>w.heap.size≤q∧q<w2.heap.size) (Ah.keep HR.out fun q hq=>hst2.2.block q hq.2 zD) fun q hq=>⟨hq.1,Aj hq.2 hst2.size⟩);have hG:=AL w2 hst2.1;rw[d1] at hG;have HG:=hid hG;clear hst2 hG d1;go_wp2_with fail;refine HG.out.mono ?_;rintro r w3 ⟨rfl,hb3⟩;have HST3:=hid (HST2.out.then hb3);go_wp2;go_ret;exact⟨_,rfl,Cj rfl rfl zD,HST3.out⟩
  ·have d1:decide (s1.k=0)=true:=Ad hk
   rw[Ai rfl];rw[Ai rfl] at hSC;clear hk hfk hfb;go_enter Tryz.func129,Tryz.ntmps129;go_wp2_with fail;refine HLS.out.mono ?_;rintro r w1 ⟨v,rfl,hr,hst⟩;obtain⟨aD,cD,hv,hr2,_⟩:=AN hr;simp only[As,AM] at hv;subst hv;have HST:=hid hst;have HR:=hid hr2;have hs1:=hst.size;have HAT:=hid (Cv w1 hst.1);have HSC:=hid (hSC.out w1 hst.1);clear hr hr2 hst;go_wp2_with fail;refine HAT.out.mono ?_;rintro r w1' ⟨rfl,rfl⟩;go_wp2_with fail;refine HSC.out.mono ?_;rintro r w2 ⟨rfl,hst2⟩;have HST2:=hid (AG.trans HST.out.2 hst2);have HRK:=hid (Ah.mono (S':=fun q=>w.heap.size≤q∧q<w2.heap.size) (Ah.keep HR.out fun q hq=>hst2.2.block q hq.2 zD) fun q hq=>⟨hq.1,Aj hq.2 hst2.size⟩);have hG:=AL w2 hst2.1;rw[d1] at hG;have HG:=hid hG;clear hst2 hG d1;go_wp2_with fail;refine HG.out.mono ?_;rintro r w3 ⟨rfl,hb3⟩;have HST3:=hid (HST2.out.then hb3);have HRK3:=hid (Ah.mono (S':=fun q=>w.heap.size≤q∧q<w3.heap.size) (Ah.keep HRK.out fun q hq=>hb3.block q hq.2) fun q hq=>⟨hq.1,Aj hq.2 hb3.size⟩);go_wp2;go_ret;exact⟨_,rfl,HRK3.out,HST3.out⟩
 ·rw[Ak hk]
  have hfb2:=hfb hk;have d1:decide (s1.k=0)=false:=Ae hk;have hSC2:Hid (∀(W:World) (h:A6 W g B a s1),Calls Tryz.prog 207 #[.bool q,.func (Fn.func 124) #[.pointer (some ⟨g,0,none⟩)] #[],.int .i64 (s1.p:Int)] W fun r w'=>r=.returned (.tuple #[])∧AG W g B a s1 w'):=hid (fun W h=>by
   have:=hSC.out W h;rw[hfb2] at this;cases q
   ·rw[Ak zN] at this;exact this
   ·rw[Ai rfl] at this;exact this)
  clear hk hfk hfb hfb2 hSC;have hSC:=hSC2;clear hSC2;cases q;all_goals
   go_enter Tryz.func129,Tryz.ntmps129;go_wp2_with fail;refine HLS.out.mono ?_;rintro r w1 ⟨v,rfl,hr,hst⟩;obtain⟨aD,cD,hv,hr2,_⟩:=AN hr;simp only[As,AM] at hv;subst hv;have HST:=hid hst;have HR:=hid hr2;have hs1:=hst.size;have HAT:=hid (Cv w1 hst.1);have HSC:=hid (hSC.out w1 hst.1);clear hr hr2 hst;go_wp2_with fail;refine HAT.out.mono ?_;rintro r w1' ⟨rfl,rfl⟩;go_wp2_with fail;refine HSC.out.mono ?_;rintro r w2 ⟨rfl,hst2⟩;have HST2:=hid (AG.trans HST.out.2 hst2);have HRK:=hid (Ah.mono (S':=fun q=>w.heap.size≤q∧q<w2.heap.size) (Ah.keep HR.out fun q hq=>hst2.2.block q hq.2 zD) fun q hq=>⟨hq.1,Aj hq.2 hst2.size⟩);have hG:=AL w2 hst2.1;rw[d1] at hG;have HG:=hid hG;clear hst2 hG d1;go_wp2_with fail;refine HG.out.mono ?_;rintro r w3 ⟨rfl,hb3⟩;have HST3:=hid (HST2.out.then hb3);go_wp2;go_ret;exact⟨_,rfl,Cj rfl rfl zD,HST3.out⟩
def Lm(r:Rs × List UInt8):List UInt8 × Nat × Int × Int:=if r.1.k=0 then (r.2,r.1.p,0,0) else ([],0,r.1.k,r.1.f)
end Go.Proofs.YtfddhafbhceoaaaGreat
namespace Go.Bs
open Go.RowKit
variable{c:Nat}
def Dt(c:Nat):Nat:=if c%2=1 then (c/2)^^^2197175160 else c/2
def Et(c:Nat):Nat:=Dt (Dt (Dt (Dt c)))
def Io(c:Nat)(x:UInt8):Nat:=Et (Et (c^^^x.toNat))
def EG(c:Nat)(D:List UInt8):Nat:=D.foldl Io c
def CQ(D:List UInt8):Nat:=4294967295-EG 4294967295 D
theorem KQ{a b:Nat}(ha:a<4294967296)(hb:b<4294967296):a^^^b<4294967296:=Nat.xor_lt_two_pow (n:=32) ha hb
theorem Hw(h:c<4294967296):Dt c<4294967296:=by
 unfold Dt;split
 ·exact KQ zD zO
 ·omega
theorem Nk(h:c<4294967296):Et c<4294967296:=Hw (Hw (Hw (Hw h)))
theorem KL{x:UInt8}(h:c<4294967296):Io c x<4294967296:=Nk (Nk (KQ h zCp))
theorem Mi:∀(D:List UInt8) {c:Nat},c<4294967296→EG c D<4294967296
 | [],c,h=>h
 | x::D,c,h=>Mi D (KL h)
theorem IH(D:List UInt8):CQ D<4294967296:=by unfold CQ;omega
theorem Js(a d:Nat):(a^^^2*d)%2=a%2:=by
 have h:=Nat.xor_mod_two_pow (a:=a) (b:=2*d) (n:=1);rw[Nat.pow_one,show 2*d%2=0 by omega,Nat.xor_zero] at h;exact h
theorem Im(a d:Nat):Dt (a^^^2*d)=Dt a^^^d:=by
 have h1:=Js a d;have h2:(a^^^2*d)/2=a/2^^^d:=by rw[Nat.xor_div_two];congr 1;omega
 unfold Dt;rw[h1,h2];split
 ·rw[Nat.xor_assoc,Nat.xor_assoc,Nat.xor_comm d]
 ·rfl
theorem YQ(a h:Nat):Et (a^^^16*h)=Et a^^^h:=by
 unfold Et;rw[show 16*h=2*(2*(2*(2*h))) by omega,Im,Im,Im,Im]
theorem AbX(h l:Nat)(hl:l<16):l^^^16*h=16*h+l:=by
 have h1:(l^^^16*h)/2=l/2^^^8*h:=by rw[Nat.xor_div_two];congr 1;omega
 have h2:(l/2^^^8*h)/2=l/4^^^4*h:=by rw[Nat.xor_div_two];congr 1<;>omega
 have h3:(l/4^^^4*h)/2=l/8^^^2*h:=by rw[Nat.xor_div_two];congr 1<;>omega
 have h4:(l/8^^^2*h)/2=h:=by
  rw[Nat.xor_div_two,show l/8/2=0 by omega,show 2*h/2=h by omega,Nat.zero_xor]
 have g1:(l^^^16*h)%2=l%2:=by rw[show 16*h=2*(8*h) by omega];exact Js _ _
 have g2:(l/2^^^8*h)%2=l/2%2:=by rw[show 8*h=2*(4*h) by omega];exact Js _ _
 have g3:(l/4^^^4*h)%2=l/4%2:=by rw[show 4*h=2*(2*h) by omega];exact Js _ _
 have g4:(l/8^^^2*h)%2=l/8%2:=Js _ _;omega
theorem WD(c:Nat):c/16^^^Et (c%16)=Et c:=by
 have h:=YQ (c%16) (c/16);rw[AbX _ _ zD,show 16*(c/16)+c%16=c by omega] at h;rw[h,Nat.xor_comm]
def Jq(k:Nat):Array Value:=((List.range 16).map fun j=>Value.int .u32 ((if j<k then Et j else 0:Nat):Int)).toArray
theorem Dj(k j:Nat)(hj:j<16):(Jq k)[j]? =some (.int .u32 ((if j<k then Et j else 0:Nat):Int)):=by
 simp[Jq,hj]
theorem Xk(k:Nat)(hk:k<16):(Jq k).setIfInBounds k (.int .u32 (Et k:Int))=Jq (k+1):=by
 apply Array.ext_getElem?;intro j;rw[Array.getElem?_setIfInBounds];by_cases hj:j<16
 ·rw[Dj _ _ hj,Dj _ _ hj]
  by_cases e:k=j
  ·subst e;simp[Jq,hk]
  ·rw[Ak e]
   congr 2
   by_cases h:j<k
   ·rw[Ai h,Ai zD]
   ·rw[Ak h,Ak zD]
 ·have h1:∀m,(Jq m)[j]? =none:=fun m=>by simp[Jq];omega
  rw[h1,h1];split<;>simp [Jq];omega
def Jo:Nat→Nat→Nat
 | 0,c=>c
 | n+1,c=>Dt (Jo n c)
theorem Oi(h:c<4294967296):∀n,Jo n c<4294967296
 | 0=>h
 | n+1=>Hw (Oi h n)
theorem SZ(h:c<4294967296):bits BinOp.and IntKind.u32 (c:Int) 1=((c%2:Nat):Int):=by
 have:=u32_and_nat c 1 h zO;rw[nat_mask1] at this;exact this
theorem Qi(h:c<4294967296):bits BinOp.and IntKind.u32 (c:Int) 15=((c%16:Nat):Int):=by
 have:=u32_and_nat c 15 h zO;rw[nat_mask4] at this;exact this
theorem R4(h:c<4294967296):bits BinOp.xor IntKind.u32 ((c:Int)/2) 2197175160=((c/2^^^2197175160:Nat):Int):=by
 have:=u32_xor_nat (c/2) 2197175160 zD zO;rw[←this];rfl
theorem AaD(h:c<4294967296):bits BinOp.xor IntKind.u32 IntKind.u32.max (c:Int)=((4294967295-c:Nat):Int):=by
 have e:IntKind.u32.max=((4294967295:Nat):Int):=rfl;rw[e,u32_xor_nat _ _ zO h];have h1:4294967295^^^c=4294967295-c:=by
  have h2:=BitVec.toNat_not (x:=BitVec.ofNat 32 c);rw[BitVec.not_def,BitVec.toNat_xor,BitVec.toNat_allOnes,BitVec.toNat_ofNat,Eu zD] at h2;exact h2
 rw[h1]
end Go.Bs
namespace Go.Proofs.YtfddhafbhceoaaaGreat
open Go.RowKit Go.Bs Go.Maps
variable{bound k:Int}{B J l:List UInt8}{L base c g n sz:Nat}{S:Nat → Prop}{a:Option Addr}{s:Rs}{t:TypeId}{v0 v1 v2:Value}{w:World}
theorem YP(c:Nat)(hc:c<4294967296)(w:World):
  Calls Tryz.prog 354 #[.int .u32 c] w fun r w'=>r=.returned (.int .u32 (Dt c))∧w=w':=by
 by_cases h:c%2=1
 ·have d1:(bits BinOp.and IntKind.u32 (c:Int) 1==1)=true:=by rw[SZ hc];simp;omega
  have hff:Hid ((Dt c:Int)=bits BinOp.xor IntKind.u32 ((c:Int)/2) 2197175160):=hid (by rw[R4 hc];unfold Dt;rw[Ai h]);clear h;go_enter Tryz.func354,Tryz.ntmps354;go_wp2;go_ret;exact⟨zM,rfl⟩
 ·have d1:(bits BinOp.and IntKind.u32 (c:Int) 1==1)=false:=by rw[SZ hc];simp;omega
  have hff:Hid ((Dt c:Int)=(c:Int)/2):=hid (by unfold Dt;rw[Ak h];rfl);clear h;go_enter Tryz.func354,Tryz.ntmps354;go_wp2;go_ret;exact⟨zM,rfl⟩
theorem WC(w:World):Calls Tryz.prog 259 #[] w fun r w'=>r=.returned (.int .u32 4294967295)∧w=w':=by
 go_enter Tryz.func259,Tryz.ntmps259;go_wp2;go_ret;exact⟨rfl,rfl⟩
theorem AaT(c:Nat)(hc:c<4294967296)(w:World):
  Calls Tryz.prog 257 #[.int .u32 c] w fun r w'=>r=.returned (.int .u32 ((4294967295-c:Nat):Int))∧w=w':=by
 have hff:=hid (AaD hc);go_enter Tryz.func257,Tryz.ntmps257;go_wp2;go_ret;exact⟨by rw[←hff.out];rfl,rfl⟩
theorem Rb{wo:World}{B:Nat}(h:Below B w wo)(hg:B≤g)(v0 v1 v2 v3 v4 v5 v6 v7 v8 v9 v10 v11 v12 v13 v14 v15:Value):Below B w (((((((((((((((((wo).setCell ⟨g,0,none⟩ v0).setCell ⟨g,1,none⟩ v1).setCell ⟨g,2,none⟩ v2).setCell ⟨g,3,none⟩ v3).setCell ⟨g,4,none⟩ v4).setCell ⟨g,5,none⟩ v5).setCell ⟨g,6,none⟩ v6).setCell ⟨g,7,none⟩ v7).setCell ⟨g,8,none⟩ v8).setCell ⟨g,9,none⟩ v9).setCell ⟨g,10,none⟩ v10).setCell ⟨g,11,none⟩ v11).setCell ⟨g,12,none⟩ v12).setCell ⟨g,13,none⟩ v13).setCell ⟨g,14,none⟩ v14).setCell ⟨g,15,none⟩ v15):=
 ((((((((((((((((h).setCell (p:=⟨g,0,none⟩) hg v0).setCell (p:=⟨g,1,none⟩) hg v1).setCell (p:=⟨g,2,none⟩) hg v2).setCell (p:=⟨g,3,none⟩) hg v3).setCell (p:=⟨g,4,none⟩) hg v4).setCell (p:=⟨g,5,none⟩) hg v5).setCell (p:=⟨g,6,none⟩) hg v6).setCell (p:=⟨g,7,none⟩) hg v7).setCell (p:=⟨g,8,none⟩) hg v8).setCell (p:=⟨g,9,none⟩) hg v9).setCell (p:=⟨g,10,none⟩) hg v10).setCell (p:=⟨g,11,none⟩) hg v11).setCell (p:=⟨g,12,none⟩) hg v12).setCell (p:=⟨g,13,none⟩) hg v13).setCell (p:=⟨g,14,none⟩) hg v14).setCell (p:=⟨g,15,none⟩) hg v15
theorem Xl:Jq 16=#[.int .u32 (Et 0:Nat),.int .u32 (Et 1:Nat),.int .u32 (Et 2:Nat),.int .u32 (Et 3:Nat),.int .u32 (Et 4:Nat),.int .u32 (Et 5:Nat),.int .u32 (Et 6:Nat),.int .u32 (Et 7:Nat),.int .u32 (Et 8:Nat),.int .u32 (Et 9:Nat),.int .u32 (Et 10:Nat),.int .u32 (Et 11:Nat),.int .u32 (Et 12:Nat),.int .u32 (Et 13:Nat),.int .u32 (Et 14:Nat),.int .u32 (Et 15:Nat)]:=rfl
theorem WB(w:World):
  Calls Tryz.prog 324 #[] w fun r w'=>r=.returned (.agg (Jq 16))∧Below w.heap.size w w':=by
 go_enter Tryz.func324,Tryz.ntmps324;go_wp2_with fail;refine Gs (fun W=>Below w.heap.size w W∧W.heap.size=w.heap.size+2∧Blk W w.heap.size 339 (Jq 0)∧Blk W (w.heap.size+1) 339 (Jq 0)) ⟨zB,zN,(Blk.new w _ _).alloc _,Blk.Ab8 w _ _ _⟩ ?_;intro W ⟨hbW,hzW,q0,q1⟩;have Q0:=hid q0;have Q1:=hid q1;have HZ:=hid hzW;clear q0 q1 hzW;go_loopw [4] (fun i wr=>∃k:Nat,k≤16∧i=.int .i64 k∧Tch (·=w.heap.size+1) W wr∧Blk wr (w.heap.size+1) 339 (Jq k)) (fun i _=>16-(intOf i).toNat)
 case atStart=>exact ⟨0,zD,rfl,Tch.refl _ _,Q1.out⟩
 case round=>
  obtain⟨k,hk,rfl,ht,hB⟩:=hrel;obtain⟨wo,hwo⟩:∃wo:World,wo=wr:=⟨_,rfl⟩;subst hwo;have HT:=hid ht;have HB:=hid hB;clear ht hB;by_cases hlt:k<16
  ·have i1:(k:Int)<16:=by omega
   have e1:(k:Int)%4294967296=k:=zD;go_wp2_with fail;go_loopw [3,9] (fun c j w'=>∃n:Nat,n≤4∧j=.int .i64 n∧c=.int .u32 (Jo n k:Nat)∧w'=wo) (fun _ j _=>4-(intOf j).toNat)
   case atStart=>exact ⟨0,zD,rfl,by simp[Jo,e1],rfl⟩
   case round=>
    obtain⟨n,hn,rfl,rfl,rfl⟩:=hrel;by_cases hl4:n<4
    ·have i2:(n:Int)<4:=by omega
     have HS:=hid (YP (Jo n k) (Oi zD n) wr);go_wp2_with fail;refine HS.out.mono ?_;rintro r w1 ⟨rfl,rfl⟩;go_wp2;go_roundw
     case rel=>exact ⟨n+1,zD,zV,rfl,trivial⟩
     case measure=>simp [intOf];omega
    ·obtain rfl:n=4:=by omega
     have hB2:Blk (wr.setCell ⟨w.heap.size+1,k,none⟩ (.int .u32 (Jo 4 k:Nat))) (w.heap.size+1) 339 (Jq (k+1)):=by
      rw[←Xk k hlt];exact HB.out.set k _
     have c9:wr.cell? ⟨w.heap.size+1,k,none⟩=some (.int .u32 ((if k<k then Et k else 0:Nat):Int)):=(HB.out.cell k).trans (Dj k k hlt);have f9:=HB.out.free k;have HB2:=hid hB2;have HT2:=hid (HT.out.setCell (p:=⟨w.heap.size+1,k,none⟩) (fun _=>rfl) (.int .u32 (Jo 4 k:Nat)));clear hB2;go_wp2;go_roundw
     case rel=>exact ⟨k+1,zD,zV,HT2.out,HB2.out⟩
     case measure=>simp [intOf];omega
  ·obtain rfl:k=16:=by omega
   obtain⟨v0,v1,v2,v3,v4,v5,v6,v7,v8,v9,v10,v11,v12,v13,v14,v15,hv⟩:∃v0 v1 v2 v3 v4 v5 v6 v7 v8 v9 v10 v11 v12 v13 v14 v15:Nat,Jq 16=AcA:=⟨_,_,_,_,_,_,_,_,_,_,_,_,_,_,_,_,Xl⟩;have hB9:=HB.out;rw[hv] at hB9;have HV:=hid hv;have hB0:Blk wo w.heap.size 339 (Jq 0):=Q0.out.tch HT.out zN;have y0:wo.cell? ⟨w.heap.size+1,0,none⟩=some (.int .u32 (v0:Int)):=hB9.cell 0;have z0:wo.cell? ⟨w.heap.size,0,none⟩=some (.int .u32 0):=(hB0.cell 0).trans (Dj 0 0 zO);have f0:=hB0.free 0;have y1:wo.cell? ⟨w.heap.size+1,1,none⟩=some (.int .u32 (v1:Int)):=hB9.cell 1;have z1:wo.cell? ⟨w.heap.size,1,none⟩=some (.int .u32 0):=(hB0.cell 1).trans (Dj 0 1 zO);have f1:=hB0.free 1;have y2:wo.cell? ⟨w.heap.size+1,2,none⟩=some (.int .u32 (v2:Int)):=hB9.cell 2;have z2:wo.cell? ⟨w.heap.size,2,none⟩=some (.int .u32 0):=(hB0.cell 2).trans (Dj 0 2 zO);have f2:=hB0.free 2;have y3:wo.cell? ⟨w.heap.size+1,3,none⟩=some (.int .u32 (v3:Int)):=hB9.cell 3;have z3:wo.cell? ⟨w.heap.size,3,none⟩=some (.int .u32 0):=(hB0.cell 3).trans (Dj 0 3 zO);have f3:=hB0.free 3;have y4:wo.cell? ⟨w.heap.size+1,4,none⟩=some (.int .u32 (v4:Int)):=hB9.cell 4;have z4:wo.cell? ⟨w.heap.size,4,none⟩=some (.int .u32 0):=(hB0.cell 4).trans (Dj 0 4 zO);have f4:=hB0.free 4;have y5:wo.cell? ⟨w.heap.size+1,5,none⟩=some (.int .u32 (v5:Int)):=hB9.cell 5;have z5:wo.cell? ⟨w.heap.size,5,none⟩=some (.int .u32 0):=(hB0.cell 5).trans (Dj 0 5 zO);have f5:=hB0.free 5;have y6:wo.cell? ⟨w.heap.size+1,6,none⟩=some (.int .u32 (v6:Int)):=hB9.cell 6;have z6:wo.cell? ⟨w.heap.size,6,none⟩=some (.int .u32 0):=(hB0.cell 6).trans (Dj 0 6 zO);have f6:=hB0.free 6;have y7:wo.cell? ⟨w.heap.size+1,7,none⟩=some (.int .u32 (v7:Int)):=hB9.cell 7;have z7:wo.cell? ⟨w.heap.size,7,none⟩=some (.int .u32 0):=(hB0.cell 7).trans (Dj 0 7 zO);have f7:=hB0.free 7;have y8:wo.cell? ⟨w.heap.size+1,8,none⟩=some (.int .u32 (v8:Int)):=hB9.cell 8;have z8:wo.cell? ⟨w.heap.size,8,none⟩=some (.int .u32 0):=(hB0.cell 8).trans (Dj 0 8 zO);have f8:=hB0.free 8;have y9:wo.cell? ⟨w.heap.size+1,9,none⟩=some (.int .u32 (v9:Int)):=hB9.cell 9;have z9:wo.cell? ⟨w.heap.size,9,none⟩=some (.int .u32 0):=(hB0.cell 9).trans (Dj 0 9 zO);have f9:=hB0.free 9;have y10:wo.cell? ⟨w.heap.size+1,10,none⟩=some (.int .u32 (v10:Int)):=hB9.cell 10;have z10:wo.cell? ⟨w.heap.size,10,none⟩=some (.int .u32 0):=(hB0.cell 10).trans (Dj 0 10 zO);have f10:=hB0.free 10;have y11:wo.cell? ⟨w.heap.size+1,11,none⟩=some (.int .u32 (v11:Int)):=hB9.cell 11;have z11:wo.cell? ⟨w.heap.size,11,none⟩=some (.int .u32 0):=(hB0.cell 11).trans (Dj 0 11 zO);have f11:=hB0.free 11;have y12:wo.cell? ⟨w.heap.size+1,12,none⟩=some (.int .u32 (v12:Int)):=hB9.cell 12;have z12:wo.cell? ⟨w.heap.size,12,none⟩=some (.int .u32 0):=(hB0.cell 12).trans (Dj 0 12 zO);have f12:=hB0.free 12;have y13:wo.cell? ⟨w.heap.size+1,13,none⟩=some (.int .u32 (v13:Int)):=hB9.cell 13;have z13:wo.cell? ⟨w.heap.size,13,none⟩=some (.int .u32 0):=(hB0.cell 13).trans (Dj 0 13 zO);have f13:=hB0.free 13;have y14:wo.cell? ⟨w.heap.size+1,14,none⟩=some (.int .u32 (v14:Int)):=hB9.cell 14;have z14:wo.cell? ⟨w.heap.size,14,none⟩=some (.int .u32 0):=(hB0.cell 14).trans (Dj 0 14 zO);have f14:=hB0.free 14;have y15:wo.cell? ⟨w.heap.size+1,15,none⟩=some (.int .u32 (v15:Int)):=hB9.cell 15;have z15:wo.cell? ⟨w.heap.size,15,none⟩=some (.int .u32 0):=(hB0.cell 15).trans (Dj 0 15 zO);have f15:=hB0.free 15;clear hB9 hv HB;clear hB0;go_wp2;refine Al (v:=.agg AcA) (by simp[results,Tryz.results324,go_sem,z0,z1,z2,z3,z4,z5,z6,z7,z8,z9,z10,z11,z12,z13,z14,z15]) rfl ⟨by rw[HV.out],?_⟩;have hb2:Below w.heap.size W wo:=HT.out.Cw (by have:=HZ.out;omega) (by intro b _ e;omega);have hb3:=hbW.trans hb2;exact Rb hb3 (An _) (.int .u32 (v0:Int)) (.int .u32 (v1:Int)) (.int .u32 (v2:Int)) (.int .u32 (v3:Int)) (.int .u32 (v4:Int)) (.int .u32 (v5:Int)) (.int .u32 (v6:Int)) (.int .u32 (v7:Int)) (.int .u32 (v8:Int)) (.int .u32 (v9:Int)) (.int .u32 (v10:Int)) (.int .u32 (v11:Int)) (.int .u32 (v12:Int)) (.int .u32 (v13:Int)) (.int .u32 (v14:Int)) (.int .u32 (v15:Int))
theorem Sd{y:Nat}(h:y<4294967296):bits BinOp.xor IntKind.u32 ((y:Int)/16) ((Et (y%16):Nat):Int)=((Et y:Nat):Int):=by
 have:=u32_xor_nat (y/16) (Et (y%16)) zD (Nk zD);rw[WD] at this;rw[←this];rfl
theorem Sm(h:c<4294967296)(x:UInt8):bits BinOp.xor IntKind.u32 (c:Int) ((x.toNat:Int)%4294967296)=((c^^^x.toNat:Nat):Int):=by
 have hx:=x.toNat_lt;rw[←u32_xor_nat c x.toNat h zD,show (x.toNat:Int)%4294967296=(x.toNat:Int) by omega]
theorem AaU(c:Nat)(hc:c<4294967296)(D:List UInt8)(ad:Option Addr)(nd cd:Nat)(w:World)(hD:Ah.r (·<w.heap.size) w [.slice ad nd cd] D):
  Calls Tryz.prog 258 #[.int .u32 c,.slice ad nd cd] w fun r w'=>r=.returned (.int .u32 (EG c D:Nat))∧Below w.heap.size w w':=by
 obtain⟨rfl,hm,_,_⟩:=AT hD;have HD:=hid hD;clear hD;go_enter Tryz.func258,Tryz.ntmps258;go_wp2_with fail;refine (WB w).mono ?_;rintro r w1 ⟨rfl,hb1⟩;obtain⟨v0,v1,v2,v3,v4,v5,v6,v7,v8,v9,v10,v11,v12,v13,v14,v15,hv⟩:∃v0 v1 v2 v3 v4 v5 v6 v7 v8 v9 v10 v11 v12 v13 v14 v15:Nat,Jq 16=AcA:=⟨_,_,_,_,_,_,_,_,_,_,_,_,_,_,_,_,Xl⟩;rw[hv];have HV:=hid hv;clear hv;go_wp2_with fail;refine Gs (fun W=>Below w.heap.size w W∧w1.heap.size<W.heap.size∧Blk W w1.heap.size 339 (Jq 16)) ⟨zA,zN,by rw[HV.out];exact Blk.new w1 _ _⟩ ?_;intro W ⟨hbW,hzW,hQ⟩;have HQ:=hid hQ;clear hQ;go_wp2_with fail;go_loopw [0,11] (fun s i wr=>∃(k d:Nat),k≤D.length∧i=.int .i64 k∧s=.int .u32 d∧d<4294967296∧Hid (EG c D=EG d (D.drop k))∧wr=W) (fun _ i _=>D.length-(intOf i).toNat)
 case atStart=>exact ⟨0,c,Am _,rfl,rfl,hc,hid rfl,rfl⟩
 case round=>
  obtain⟨k,d,hk,rfl,rfl,hd,hf,rfl⟩:=hrel;by_cases hlt:k<D.length
  ·obtain⟨b,o,hA,hbb,hx⟩:=Cs (lift HD.out hbW) hlt
   subst hA;have hst:=hid (show EG d (D.drop k)=EG (Io d D[k]) (D.drop (k+1)) by rw[AS hlt];rfl);generalize D[k]=x at*;have i1:(k:Int)<(D.length:Int):=zD;have hb1:=hid (KL (x:=x) hd);have hcb:=hid (show Io d x=Et (Et (d^^^x.toNat)) from rfl);have hy:d^^^x.toNat<4294967296:=KQ hd zCp;have e1:=Sm hd x;generalize d^^^x.toNat=y at*;have hz:Et y<4294967296:=Nk hy;have e2:=Qi hy;have e3:=Sd hy;have m1:((y%16:Nat):Int)<16:=zD;have c1:wr.cell? ⟨w1.heap.size,y%16,none⟩=some (.int .u32 (Et (y%16):Nat)):=by
    have h:=(HQ.out.cell (y%16)).trans (Dj 16 (y%16) zD);rw[Ai zD] at h;exact h
   generalize Et (y%16)=t1 at*;generalize y%16=m at*;generalize Et y=z at*;have e4:=Qi hz;have e5:=Sd hz;have m2:((z%16:Nat):Int)<16:=zD;have c2:wr.cell? ⟨w1.heap.size,z%16,none⟩=some (.int .u32 (Et (z%16):Nat)):=by
    have h:=(HQ.out.cell (z%16)).trans (Dj 16 (z%16) zD);rw[Ai zD] at h;exact h
   generalize Et (z%16)=t2 at*;generalize z%16=n at*;generalize Et z=q at*;go_wp2;go_roundw
   case rel=>exact ⟨k+1,q,zD,zV,rfl,by have:=hb1.out;rw[hcb.out] at this;exact this,hid (by rw[hf.out,hst.out,hcb.out]),trivial⟩
   case measure=>simp [intOf];omega
  ·obtain rfl:k=D.length:=by omega
   have hff:Hid (EG c D=d):=hid Z9;go_wp2;go_ret;exact⟨zM,hbW⟩
theorem Vz(D:List UInt8)(ad:Option Addr)(nd cd:Nat)(w:World)(hD:Ah.r (·<w.heap.size) w [.slice ad nd cd] D):
  Calls Tryz.prog 192 #[.slice ad nd cd] w fun r w'=>r=.returned (.int .u32 (CQ D:Nat))∧Below w.heap.size w w':=by
 have HA:=hid (AaU 4294967295 zO D ad nd cd w hD);have hlt:=Mi D (c:=4294967295) zO;have hff:Hid (CQ D=4294967295-EG 4294967295 D):=hid rfl;generalize EG 4294967295 D=s at*;clear hD;go_enter Tryz.func192,Tryz.ntmps192;go_wp2_with fail;refine (WC w).mono ?_;rintro r w1 ⟨rfl,rfl⟩;go_wp2_with fail;refine HA.out.mono ?_;rintro r w2 ⟨rfl,hb2⟩;go_wp2_with fail;refine (AaT s hlt w2).mono ?_;rintro r w3 ⟨rfl,rfl⟩;go_wp2;go_ret;exact⟨zM,hb2⟩
end Go.Proofs.YtfddhafbhceoaaaGreat
namespace Go.Bs
open Go.RowKit
variable{c:Nat}
def CW:Nat→Nat→List UInt8
 | 0,_=>[]
 | n+1,x=>UInt8.ofNat (x%256)::CW n (x/256)
theorem Hu:∀(n x:Nat),(CW n x).length=n
 | 0,_=>rfl
 | n+1,x=>by simp[CW,Hu n]
theorem JM:∀(n x:Nat),CW (n+1) x=CW n x++[UInt8.ofNat (x/256^n%256)]
 | 0,x=>by simp[CW]
 | n+1,x=>by
  rw[CW,JM n (x/256),CW,DY,Nat.div_div_eq_div_mul,Ff,Jl 256]
end Go.Bs
namespace Go.Proofs.YtfddhafbhceoaaaGreat
open Go.RowKit Go.Bs Go.Maps
variable{bound k:Int}{B J l:List UInt8}{L base c g n sz:Nat}{S:Nat → Prop}{a:Option Addr}{s:Rs}{t:TypeId}{v0 v1 v2:Value}{w:World}
theorem Wf(x:Nat)(hx:x<18446744073709551616)(n:Nat)(hn:n≤8)(w:World):
  Calls Tryz.prog 266 #[.int .u64 x,.int .i64 n] w fun r w'=>∃v,r=.returned v∧w'.ownsRow w.heap.size 5 1 v n (byteCells (CW n x))∧Below w.heap.size w w':=by
 obtain⟨i0,hi,hz0,hz1,hz2⟩:=A3 DH;have d1:max (n:Int) 0=n:=zD;have d2:min (n:Int) 8=n:=zD;have d3:(if (n:Int)<0 then (0:Int) else n)=n:=ZY;have d4:(if (8:Int)<n then (8:Int) else n)=n:=ZY;go_enter Tryz.func266,Tryz.ntmps266;go_wp2_with fail;go_loopw [0,5,9] (fun y o i wr=>∃k:Nat,k≤n∧i=.int .i64 k∧y=.int .u64 (x/256^k:Nat)∧wr.ownsRow w.heap.size 5 1 o k (byteCells (CW k x))∧Below w.heap.size w wr) (fun _ _ i _=>n-(intOf i).toNat)
 case atStart=>exact ⟨0,Am _,rfl,zN,⟨rfl,.inl ⟨rfl,rfl⟩⟩,Below.refl _ _⟩
 case round=>
  obtain⟨k,hk,rfl,rfl,hown,hb⟩:=hrel;have hbs:=hb.size;obtain⟨aJ,cJ,rfl⟩:=AD hown;have HO:=hid hown;clear hown;by_cases hlt:k<n
  ·have i1:(k:Int)<(n:Int):=by omega
   have hy:x/256^k<18446744073709551616:=Nat.lt_of_le_of_lt (Nat.div_le_self _ _) hx;have hfin:=hid (JM k x);have hdv:Hid (x/256^(k+1)=x/256^k/256):=hid (by rw[Ff,Nat.div_div_eq_div_mul]);generalize x/256^k=y at*;have hby:Hid ((y:Int)%256=((UInt8.ofNat (y%256)).toNat:Int)):=hid zBk;have e0:(y:Int)%256%256=(y:Int)%256:=zD;go_wp2_with (at_builtin;go_loud (refine Ar rfl _ _ _ rfl w.heap.size 5 i0 (.int .u8 0) 1 1 Au hi hz0 hz1 hz2 rfl zO (.slice aJ k cJ) k (byteCells (CW k x)) rfl (AF HO.out zA) (some ⟨wr.heap.size,0,none⟩) 1 1 [.int .u8 ((y:Int)%256)] rfl (By wr 5 _ rfl rfl rfl) zW zK zD zH ?_;intro v' w1 hown1 hgrow1 hat1;have HG:=hid hgrow1;have HO1:=hid hown1;clear hgrow1 hown1 hat1))
   have ho:=HO1.out;rw[hby.out,DW,←hfin.out] at ho;have hB:Below w.heap.size w w1:=Below.grown zA HG.out zH (fun g e=>(HO.out.lt g e).1);have HO2:=hid ho;clear ho;go_wp2_with fail;go_roundw
   case rel=>exact ⟨k+1,zD,zV,by rw[hdv.out];go_num,HO2.out,hB⟩
   case measure=>simp [intOf];omega
  ·obtain rfl:k=n:=by omega
   go_wp2;go_ret;exact⟨_,rfl,HO.out,hb⟩
theorem TV(w:World){g base most:Nat}{J:List UInt8}{a:Option Addr}(h:BQ w g base most J a c)(x:Nat)(hx:x<18446744073709551616)(n:Nat)(hn:n≤8)(hfit:J.length+n≤most)(hlen:J.length+n≤100000000000000):
  Calls Tryz.prog 240 #[.pointer (some ⟨g,0,none⟩),.int .u64 x,.int .i64 n] w fun r w'=>r=.returned (.tuple #[])∧At w g base most (J++CW n x) a w':=by
 have hl:=Hu n x;have HF:=hid (Wf x hx n hn w);have HP:=hid h;clear h;generalize CW n x=D at*;go_enter Tryz.func240,Tryz.ntmps240;go_wp2_with fail;refine HF.out.mono ?_;rintro r w1 ⟨v,rfl,ho,hb1⟩;obtain⟨a1,c1,rfl⟩:=AD ho;have HQ:=hid (Fu w1 (HP.out.later hb1) D a1 n c1 (BM hl.symm ho) zD zD);clear ho;go_wp2_with fail;refine HQ.out.mono ?_;rintro r w2 ⟨rfl,hst⟩;have HST:=hid (At.later hb1 hst);clear hst;go_wp2;first | go_end0 | refine Al (Ax rfl _ _ _) rfl ?_
 exact⟨rfl,HST.out⟩
theorem toNat_cast{x:Int}(h:0≤x):((x.toNat:Nat):Int)=x:=Int.toNat_of_nonneg h
def CG(l:List Int):List UInt8:=(l.map fun x=>Az x.toNat).flatten
def Dp(pos:Int)(l:List Int):List UInt8:=Az l.length++CG (BU pos l)
def Fy:Option Int→List BH→List Int
 | _,[]=>[]
 | p,x::l=>(match p with | none=>x.stream | some q=>x.stream-q-1)::Fy (some x.stream) l
def Ix(pos:Int):Option Int→List BH→List UInt8
 | _,[]=>[]
 | p,x::l=>Az (match p with | none=>x.stream | some q=>x.stream-q-1).toNat++Dp pos x.backs++Ix pos (some x.stream) l
def Ci(pos:Int)(l:List BH):List UInt8:=Az l.length++Ix pos none l
def PK(x:BH):Prop:=(0≤x.stream∧x.stream≤18446744073709551615)∧∀y∈x.backs,0≤y
theorem Wh:CG []=[]:=rfl
theorem Eh(x:Int)(l:List Int):CG (x::l)=Az x.toNat++CG l:=by simp[CG]
theorem PC(l l':List Int):CG (l++l')=CG l++CG l':=by simp[CG]
theorem Hr(l:List Int)(k:Nat)(h:k<l.length):CG (l.take (k+1))=CG (l.take k)++Az l[k].toNat:=by
 rw[AW h,PC,Eh,Wh,BK]
theorem Hc(l:List Int):(CG l).length≤10*l.length:=by
 induction l with
 | nil=>simp [CG]
 | cons x l ih=>
  rw[Eh,Ag,AO];have:=(AZ x.toNat).1;omega
theorem Fo(l:List Int)(k:Nat):(CG (l.take k)).length≤(CG l).length:=by
 have:CG l=CG (l.take k)++CG (l.drop k):=by rw[←PC,Ce]
 rw[this,Ag];omega
theorem Gf:∀(p:Int) (l:List Int),(BU p l).length=l.length
 | _,[]=>rfl
 | p,x::l=>by simp only[BU,AO,Gf x l]
theorem Jt:∀(p:Option Int) (l:List BH),(Fy p l).length=l.length
 | _,[]=>rfl
 | p,x::l=>by simp only[Fy,AO,Jt _ l]
theorem DO{x:Nat}(h:x<128):(Az x).length=1:=by rw[Gd h];rfl
theorem Uz(pos:Int)(l:List Int)(h:l.length<128):(Dp pos l).length≤1+10*l.length:=by
 have:=Hc (BU pos l);rw[Gf] at this;unfold Dp;rw[Ag,DO h];omega
theorem DQ{α:Type}{A:Rp α}{w w1:World}{g:Nat}{a a1:Option Addr}{cs:List Value}{x:α}(ht:Tch (Dr g a) w w1)(ha:a1.map Addr.block=a.map Addr.block∨∃q,a1.map Addr.block=some q∧w.heap.size≤q)
 (h:A.r (fun q=>q<w.heap.size∧¬Dr g a q) w cs x):A.r (fun q=>q<w1.heap.size∧¬Dr g a1 q) w1 cs x:=
 A.mono (A.keep h fun q hq=>ht.block q hq.1 hq.2) fun q hq=>⟨Aj hq.1 ht.size,EC ha hq.1 hq.2⟩
theorem FI{α:Type}{A:Rp α}{w w1:World}{g:Nat}{a:Option Addr}{cs:List Value}{x:α}(hb:Below w.heap.size w w1)
 (h:A.r (fun q=>q<w.heap.size∧¬Dr g a q) w cs x):A.r (fun q=>q<w1.heap.size∧¬Dr g a q) w1 cs x:=
 A.mono (A.keep h fun q hq=>hb.block q hq.1) fun q hq=>⟨Aj hq.1 hb.size,hq.2⟩
theorem JR{α:Type}{A:Rp α}{w:World}{g:Nat}{a:Option Addr}{cs:List Value}{x:α}(h:A.r (fun q=>q<w.heap.size∧¬Dr g a q) w cs x):A.r (·<w.heap.size) w cs x:=A.mono h fun q hq=>hq.1
theorem I0{α:Type}{A:Rp α}{w w1:World}{g most:Nat}{a:Option Addr}{cs:List Value}{x:α}(hp:BQ w g base most J a c)(h:A.r (fun q=>w.heap.size≤q∧q<w1.heap.size) w1 cs x):A.r (fun q=>q<w1.heap.size∧¬Dr g a q) w1 cs x:=
 A.mono h fun q hq=>⟨hq.2,fun hf=>by have:=(hp.En hf).2;omega⟩
open Go.RowKit Go.Bs
def FZ(w w':World)(b:Nat):Prop:=w.heap.size≤b∧b<w'.heap.size
theorem Ew{l:List Int}(h:Bb.r S w [.slice a n c] l):∀x∈l,0≤x∧x≤18446744073709551615:=by
 intro x hx;obtain⟨i,hi,rfl⟩:=Fa hx;obtain⟨b,o,_,_,_,h2⟩:=Dv h hi;exact h2
theorem Yz:(Tryz.prog.info? 215).map (fun i=>(i.zero,i.size,i.bytes))=some (some (.agg #[.int .u64 0,.slice none 0 0]),2,32):=zI
theorem By(W:World)(e:TypeId)(cs:List Value)(hB:w=W.alloc (.cells cs.toArray e))(hg:g=W.heap.size)(hs:cs.length=sz):Src w (some ⟨g,0,none⟩) 1 sz cs:=by
 subst hB hg;refine⟨zD,.inr ⟨_,0,rfl,fun j u hu=> ?_⟩⟩;rw[A1,Blk.cell (Blk.new W e cs.toArray)];simpa using hu
def S5(below:Int)(l:List Int)(w:World)(e:Ending)(w':World):Prop:=
 ∃v,e=.returned (.tuple #[v,.bool (CI below l)])∧Bb.r (fun q=>w.heap.size≤q∧q<w'.heap.size) w' [v] (if CI below l then BU below l else [])∧Below w.heap.size w w'
theorem VU(below:Int)(l:List Int)(a:Option Addr)(n c:Nat)(w:World)(hb0:0≤below∧below≤18446744073709551615)(hl:Bb.r (·<w.heap.size) w [.slice a n c] l)(hlen:l.length≤1000000000000):
  Calls Tryz.prog 356 #[.int .u64 below,.slice a n c] w (S5 below l w):=by
 obtain⟨rfl,hm,_,_⟩:=AT hl;obtain⟨i0,hi,hz0,hz1,hz2⟩:=A3 Ok;have HL:=hid hl;clear hl;go_enter Tryz.func356,Tryz.ntmps356;go_wp2;go_loopw [0,6,11] (fun b v i wr=>∃k:Nat,k≤l.length∧i=.int .i64 k∧b=.int .u64 (ahead below l k)∧0≤ahead below l k∧ahead below l k≤18446744073709551615∧Hid (CI below l=CI (ahead below l k) (l.drop k))∧
   (∃xs:List Int,Hid (xs.length=k∧(∀x∈xs,0≤x∧x≤18446744073709551615)∧BU below l=xs++BU (ahead below l k) (l.drop k))∧wr.ownsRow w.heap.size 36 1 v k (xs.map (Value.int .u64)))∧Below w.heap.size w wr) (fun _ _ i _=>l.length-(intOf i).toNat)
 case atStart=>exact ⟨0,Am _,rfl,rfl,hb0.1,hb0.2,hid rfl,⟨[],hid ⟨rfl,zN,rfl⟩,⟨rfl,.inl ⟨rfl,rfl⟩⟩⟩,Below.refl _ _⟩
 case round=>
  obtain⟨k,hk,rfl,rfl,ha0,ha1,hf,⟨xs,hxs,hown⟩,hb⟩:=hrel;by_cases hlt:k<l.length
  ·obtain⟨b,o,hA,hbb,hc,hx0,hx1⟩:=Dv HL.out hlt
   subst hA;have q:=(hb.cell (p:=⟨b,o+k,none⟩) hbb).trans hc;clear hc;have hd:=hid (AS hlt);have hsu:=hid (KN below l k hlt);generalize hlk:l[k]=x at*;clear hlk;generalize ahead below l k=p at*;by_cases hge:p≤x
   ·have hff:Hid (CI below l=false):=by
     rw[hf.out,hd.out];exact hid (by simp[CI];omega)
    go_wp2;go_ret2
    exact⟨.slice none 0 0,zM,zBp,hb⟩
   ·have hbs:=hb.size
    have w1:0≤p-x:=zD;have w2:0≤p-x-1:=zD;go_wp2_with (at_builtin;refine wpList_append_lies _ rfl _ _ _ rfl w.heap.size 36 i0 (.int .u64 0) 1 8 C7 hi hz0 hz1 hz2 rfl zO _ k _ rfl (hown.alloc _) ⟨wr.heap.size,0,none⟩ 1 1 [.int .u64 (p-x-1)] rfl rfl (World.news_of_block (Blk.new _ _ _)) ZO zO zK zD zH _ rfl ?_;intro g1 cap1 w1' hown1 hgrow1 hat1 hlt1)
    go_roundw
    case rel=>
     refine⟨k+1,zD,zV,by rw[hsu.out],by rw[hsu.out];exact hx0,by rw[hsu.out];exact hx1,?_,⟨xs++[p-x-1],?_,?_⟩,?_⟩
     ·rw[hf.out,hd.out,hsu.out]
      exact hid zCe
     ·refine hid ⟨by simp[hxs.out.1],?_,?_⟩
      ·intro y hy
       rw[EO,De] at hy;rcases hy with hy | rfl
       ·exact hxs.out.2.1 y hy
       ·omega
      ·rw[hsu.out,hxs.out.2.2,hd.out]
       simp[BU]
     ·rw[BX];exact hown1
     ·refine Below.grown ?_ hgrow1 zH (fun g e=>(hown.lt g e).1)
      exact hb.alloc hbs _
    case measure=>simp [intOf];omega
  ·obtain rfl:k=l.length:=by omega
   have hff:Hid (CI below l=true):=by
    rw[hf.out,GM];exact hid rfl
   have hxl:=hxs.out.1;have hst:Hid (BU below l=xs):=hid zCw;have hv:Bb.r (fun q=>w.heap.size≤q∧q<wr.heap.size) wr [u6] xs:=FA hxs.out.2.1 hxl.symm hown;have HV:=hid hv;clear hv hxl;go_wp2;go_ret2
   exact⟨u6,zM,zCy,hb⟩
theorem Kf:∀(l:List Int) (p:Int),CI p l=true→p≤18446744073709551615→(∀x∈l,0≤x)→∀y∈BU p l,0≤y∧y≤18446744073709551615
 | [],p,_,_,_,y,hy=>by simp[BU] at hy
 | x::l,p,hf,hp,hx,y,hy=>by
  simp only[CI,Aq,Av] at hf;have h0:=hx x zN;simp only[BU,List.mem_cons] at hy;rcases hy with rfl | hy
  ·omega
  ·exact Kf l x hf.2 zD (fun z hz=>hx z (by simp[hz])) y hy
theorem Mh(w:World){g base most:Nat}{J:List UInt8}{a:Option Addr}(h:BQ w g base most J a c)(pos:Int)(hpos:0≤pos∧pos≤18446744073709551615)(l:List Int)(al:Option Addr)(nl cl:Nat)
 (hl:Bb.r (·<w.heap.size) w [.slice al nl cl] l) (hf:CI pos l=true) (hlen:l.length≤1000000) (hfit:J.length+(Dp pos l).length≤most) (hln2:J.length+(Dp pos l).length≤100000000000000):
  Calls Tryz.prog 345 #[.pointer (some ⟨g,0,none⟩),.int .u64 pos,.slice al nl cl] w fun r w'=>r=.returned (.tuple #[])∧At w g base most (J++Dp pos l) a w':=by
 obtain⟨rfl,hm,_,_⟩:=AT hl;have HS:=hid (VU pos l al _ cl w hpos hl zD);have hlt:=h.len;have hsl:=Gf pos l;have hnb:=Hc (BU pos l);have hxs:=Ew hl;have hsb:=hid (Kf l pos hf hpos.2 (fun x hx=>(hxs x hx).1));have hvl:=AZ l.length;have hdl:(Dp pos l).length=(Az l.length).length+(CG (BU pos l)).length:=by unfold Dp;rw[Ag]
 rw[hdl] at hfit hln2;unfold S5 at HS;rw[hf] at HS;simp only[Fx] at HS;unfold Dp;have HP:=hid h;have HMO:=hid (fun k=>Fo (BU pos l) k);have HNS:=hid (fun (k:Nat) (h:k<(BU pos l).length)=>Hr (BU pos l) k h);generalize BU pos l=T at*;generalize hL:l.length=L at*;have hLL:=hid hL;clear h hl hf hxs hdl hL;go_enter Tryz.func345,Tryz.ntmps345;go_wp2_with fail;refine HS.out.mono ?_;rintro r w1 ⟨v,rfl,hr,hb1⟩;obtain⟨a1,c1,hv,hr2,_⟩:=AN hr;simp only[As,AM] at hv;subst hv;rw[hsl] at hr2 ⊢;have HR:=hid (I0 HP.out hr2);have HP1:=hid (HP.out.later hb1);have HV:=hid (Cl w1 HP1.out L zD zD zD);clear hr hr2;go_wp2_with fail;refine HV.out.mono ?_;rintro r w2 ⟨rfl,hst⟩;have HST:=hid hst;clear hst;have hz1:=hb1.size;go_wp2_with fail;go_loopw [27] (fun i wr=>∃k:Nat,k≤L∧i=.int .i64 k∧Hid (At w1 g base most (J++Az L++CG (T.take k)) a wr)) (fun i _=>L-(intOf i).toNat)
 case atStart=>exact ⟨0,Am _,rfl,hid (by simpa [CG] using HST.out)⟩
 case round=>
  obtain⟨k,hk,rfl,hp⟩:=hrel;obtain⟨a3,c3,hp3,ht3,ha3⟩:=hp.out;rcases Bh k L with hlt | hge
  ·have hd3:=DQ ht3 ha3 HR.out
   have hkT:k<T.length:=zD;obtain⟨b,o,hA,hbb,hc,hx0,hx1⟩:=Dv hd3 hkT;subst hA;have hst:=HNS.out k hkT;have hfk:=HMO.out (k+1);rw[hst,Ag] at hfk;have HSK:=hid hst;have hvk:=(AZ T[k].toNat).1;have hJ3:=hp3.len;simp only[Ag] at hJ3;have hV:=Cl wr hp3 T[k].toNat zD zT zT;rw[toNat_cast hx0,Ao (J++Az L),←hst] at hV;have HV3:=hid hV;have HT3:=hid (And.intro ht3 ha3);have i1:(k:Int)<(L:Int):=zD;have d1:decide ((k:Int)<(L:Int))=true:=Ad i1;clear hV hd3 hst hp3 ht3 ha3 hp hfk hvk hJ3;generalize T[k]=y at*;go_wp2_with fail;refine HV3.out.mono ?_;rintro r w5 ⟨rfl,hst5⟩;have HN:=hid (At.trans (J:=J) HT3.out.1 HT3.out.2 hst5);clear hst5;go_wp2;go_roundw
   case rel=>exact ⟨k+1,zD,zV,HN⟩
   case measure=>simp [intOf];omega
  ·obtain rfl:k=L:=by omega
   have d1:decide ((k:Int)<(k:Int))=false:=Ae zD;rw[CF zD] at hp;have HN:=hid (At.later hb1 hp.out);rw[Ao] at HN;clear hp hp3 ht3 ha3;go_wp2;first | go_end0 | refine Al (Ax rfl _ _ _) rfl ?_
   exact⟨rfl,HN.out⟩
theorem Hi:∀(l:List Int) (k:Nat) (h:k+1<l.length),Bj l=true→l[k]<l[k+1]
 | [],k,h,_=>by simp at h
 | [x],k,h,_=>by simp at h
 | x::y::l,k,h,hr=>by
  simp only[Bj,Aq,Av] at hr;cases k with
  | zero=>exact hr.1
  | succ k=>exact Hi (y::l) k zAe hr.2
theorem KT:∀(l:List BH) (p:Option Int) (k:Nat) (h:k<l.length),(Fy p l)[k]'zAp=if hk:k=0 then (match p with | none=>l[k].stream | some q=>l[k].stream-q-1) else l[k].stream-(l[k-1]'zD).stream-1
 | [],p,k,h=>by simp at h
 | x::l,p,0,h=>by cases p<;>simp [Fy]
 | x::l,p,k+1,h=>by
  simp only[Fy,Aw];rw[KT l (some x.stream) k zAe];cases k with
  | zero=>simp
  | succ k=>simp
def Ii(pos:Int)(p:Option Int)(l:List BH):List (List UInt8):=List.zipWith (fun (y:Int) (x:BH)=>Az y.toNat++Dp pos x.backs) (Fy p l) l
theorem Jc(pos:Int):∀(l:List BH) (p:Option Int),Ix pos p l=(Ii pos p l).flatten
 | [],p=>rfl
 | x::l,p=>by
  simp only[Ix,Ii,Fy,List.zipWith_cons_cons,Du];rw[Jc pos l (some x.stream)];rfl
theorem JU(pos:Int)(p:Option Int)(l:List BH):(Ii pos p l).length=l.length:=by simp[Ii,Jt]
theorem PT{α:Type}(Z:List (List α))(k:Nat)(h:k<Z.length):(Z.take (k+1)).flatten=(Z.take k).flatten++Z[k]:=by
 rw[AW h,CK];simp
theorem Lo{α:Type}(Z:List (List α))(k:Nat):(Z.take k).flatten.length≤Z.flatten.length:=by
 have:Z.flatten=(Z.take k).flatten++(Z.drop k).flatten:=by rw[←CK,Ce]
 rw[this,Ag];omega
theorem PJ(pos:Int)(l:List BH)(k:Nat)(h:k<l.length):(Ii pos none l)[k]'(by rw[JU];exact h)=Az ((Fy none l)[k]'zAp).toNat++Dp pos l[k].backs:=by
 simp[Ii]
theorem T8(w:World)(l:List BH)(al:Option Addr)(nl cl:Nat)(hl:Cm.r (·<w.heap.size) w [.slice al nl cl] l)(hri:Bj (l.map BH.stream)=true)(hlen:l.length≤1000000):
  Calls Tryz.prog 344 #[.slice al nl cl] w fun r w'=>∃v,r=.returned v∧Bb.r (fun q=>w.heap.size≤q∧q<w'.heap.size) w' [v] (Fy none l)∧Below w.heap.size w w':=by
 obtain⟨rfl,hm,_,_⟩:=AT hl;obtain⟨i0,hi,hz0,hz1,hz2⟩:=A3 Ok;have HL:=hid hl;have hul:=Jt none l;have HU:=hid (fun (k:Nat) (h:k<l.length)=>KT l none k h);have HRI:=hid (fun (k:Nat) (h:k+1<l.length)=>(by have:=Hi (l.map BH.stream) k zAe hri;simpa using this:l[k].stream<l[k+1].stream));clear hl hri;go_enter Tryz.func344,Tryz.ntmps344;go_wp2_with fail;go_loopw [3,9] (fun v i wr=>∃k:Nat,k≤l.length∧i=.int .i64 k∧wr.ownsRow w.heap.size 36 1 v k (BS ((Fy none l).take k))∧Hid (∀x∈(Fy none l).take k,0≤x∧x≤18446744073709551615)∧Below w.heap.size w wr) (fun _ i _=>l.length-(intOf i).toNat)
 case atStart=>exact ⟨0,Am _,rfl,⟨rfl,.inl ⟨rfl,rfl⟩⟩,hid zN,Below.refl _ _⟩
 case round=>
  obtain⟨k,hk,rfl,hown,hbd,hb⟩:=hrel;obtain⟨av,cv,rfl⟩:=AD hown;rcases Bh k l.length with hlt | hge
  ·obtain⟨b,o,hA,hbb,a2,c2,x0,x1,hx,xl⟩:=EK (lift HL.out hb) hlt
   subst hA;have hu:=HU.out k hlt;have i1:(k:Int)<(l.length:Int):=zD;have d1:decide ((k:Int)<(l.length:Int))=true:=Ad i1;have hbl:b<wr.heap.size:=CN _ _ x0;have htk:BS ((Fy none l).take (k+1))=BS ((Fy none l).take k)++[.int .u64 ((Fy none l)[k]'zD)]:=by
    rw[AW zD];unfold BS;rw[BX];rfl
   have hnb:∀y:Int,(Fy none l)[k]'zD=y→(0≤y∧y≤18446744073709551615)→∀x∈(Fy none l).take (k+1),0≤x∧x≤18446744073709551615:=fun y e hy x hx=>by
    rw[AW zD,EO,De] at hx;rcases hx with hx | rfl
    ·exact hbd.out x hx
    ·rw[e];exact hy
   have HTK:=hid htk;have HNB:=hid hnb;have HO:=hid hown;have hz:=hb.size;rcases Cf k with rfl | hk0
   ·rw[dif_pos rfl] at hu
    (try dsimp only at hu)
    rw[hu] at HTK;have HBD:=hid (HNB.out _ hu hx);simp only[Nat.zero_mul,Cu,A1] at x0 x1;have d2:decide ((0:Int)<((0:Nat):Int))=false:=zO;generalize l[0]=y at*;clear hu htk hnb hbd hown xl hx;go_wp2_with (at_builtin;go_loud (refine Ar rfl _ _ _ rfl w.heap.size 36 i0 (.int .u64 0) 1 8 C7 hi hz0 hz1 hz2 rfl zO (.slice av 0 cv) 0 _ rfl (AF HO.out zA) (some ⟨wr.heap.size+1,0,none⟩) 1 1 [.int .u64 y.stream] rfl (By _ 36 _ rfl zN rfl) ZO zK zD zH ?_;intro v' w3 hown3 hgrow3 hat3;obtain⟨a3,c3,rfl⟩:=AD hown3;have HO3:=hid hown3;have hb3:Below w.heap.size wr w3:=(Below.grown ((by (repeat (first | with_reducible exact Below.refl _ _ | with_reducible assumption | (with_reducible refine AH ?_ _) | (with_reducible refine Below.setCell ?_ zF _) | (with_reducible refine Below.drew ?_) | (with_reducible refine below_drewN ?_ _) | (refine Af zG ?_))):Below wr.heap.size wr _).mono hz) hgrow3 zH (fun g e=>(HO.out.lt g e).1));clear hown3 hgrow3 hat3))
    have ho3:=HO3.out;rw[←HTK.out] at ho3;have HO4:=hid ho3;clear ho3 x0 x1;go_roundw
    case rel=>exact ⟨1,zD,zV,by simpa using HO4.out,HBD,hb.trans hb3⟩
    case measure=>simp [intOf];omega
   ·obtain⟨m,rfl⟩:∃m,k=m+1:=⟨k-1,zD⟩
    obtain⟨b',o',hA',hbb',a3,c3,y0,y1,hy,yl⟩:=EK (lift HL.out hb) (show m<l.length by omega);simp only[Bd,CZ] at hA';obtain⟨rfl,rfl,_⟩:=hA';have hri:=HRI.out m hlt;rw[dif_neg zD] at hu;simp only[Ft] at hu;rw[hu] at HTK;have HBD:=hid (HNB.out _ hu zD);have i1':(m:Int)+1<(l.length:Int):=zD;have i2:(m:Int)<(l.length:Int):=zD;have d2:decide ((m:Int)+1<(l.length:Int))=true:=Ad i1';have d3:decide (m+1<l.length)=true:=Ad hlt;generalize l[m+1]=y at*;generalize l[m]'zD=z at*;have w1:0≤y.stream-(z.stream+1):=zD;have w2:z.stream+1≤18446744073709551615:=zD;rw[show y.stream-z.stream-1=y.stream-(z.stream+1) by omega] at HTK;clear hu htk hnb hbd hown xl yl;go_wp2_with (at_builtin;go_loud (refine Ar rfl _ _ _ rfl w.heap.size 36 i0 (.int .u64 0) 1 8 C7 hi hz0 hz1 hz2 rfl zO (.slice av (m+1) cv) (m+1) _ rfl (AF HO.out zA) (some ⟨wr.heap.size+1,0,none⟩) 1 1 [.int .u64 (y.stream-(z.stream+1))] rfl (By _ 36 _ rfl zN rfl) ZO zK zD zH ?_;intro v' w3 hown3 hgrow3 hat3;obtain⟨a3,c3,rfl⟩:=AD hown3;have HO3:=hid hown3;have hb3:Below w.heap.size wr w3:=(Below.grown ((by (repeat (first | with_reducible exact Below.refl _ _ | with_reducible assumption | (with_reducible refine AH ?_ _) | (with_reducible refine Below.setCell ?_ zF _) | (with_reducible refine Below.drew ?_) | (with_reducible refine below_drewN ?_ _) | (refine Af zG ?_))):Below wr.heap.size wr _).mono hz) hgrow3 zH (fun g e=>(HO.out.lt g e).1));clear hown3 hgrow3 hat3))
    have ho3:=HO3.out;rw[←HTK.out] at ho3;have HO4:=hid ho3;clear ho3 x0 x1 y0 y1;go_roundw
    case rel=>exact ⟨m+1+1,zD,zV,HO4.out,HBD,hb.trans hb3⟩
    case measure=>simp [intOf];omega
  ·obtain rfl:k=l.length:=by omega
   have d1:decide ((l.length:Int)<(l.length:Int))=false:=Ae zD;have hv:=hown;rw[CF zD] at hv hbd;have HV:=hid (FA hbd.out zD hv);clear hv hown;go_wp2;go_ret;exact⟨_,rfl,HV.out,hb⟩
theorem Mo(l:List BH)(hri:Bj (l.map BH.stream)=true)(hx:∀x∈l,0≤x.stream∧x.stream≤18446744073709551615):∀k,(h:k<l.length)→0≤(Fy none l)[k]'zAp∧(Fy none l)[k]'zAp≤18446744073709551615:=by
 intro k h;rw[KT l none k h];have hk:=hx l[k] (Bi h);split
 ·exact hk
 ·rename_i h0
  have h1:=hx (l[k-1]'zD) (Bi _);have h2:=Hi (l.map BH.stream) (k-1) zH hri;simp only[List.getElem_map,Nat.sub_add_cancel (show 1≤k by omega)] at h2;omega
theorem Lh{l:List BH}(h:Cm.r S w [.slice a n c] l):∀x∈l,PK x:=by
 intro x hx;obtain⟨i,hi,rfl⟩:=Fa hx;obtain⟨b,o,_,_,a2,c2,_,_,hs,xl⟩:=EK h hi;exact⟨hs,fun y hy=>(Ew xl y hy).1⟩
theorem Lj(pos:Int)(l:List BH)(hR:CH pos l=true):(Ix pos none l).length≤51*l.length:=by
 have key:∀(l:List BH) (p:Option Int),(∀x∈l,Ec pos x=true)→(Ix pos p l).length≤51*l.length:=by
  intro l;induction l with
  | nil=>intro p _;simp[Ix]
  | cons x l ih=>
   intro p hx;have h1:=hx x zN;simp only[Ec,Aq,Av] at h1;have h2:=ih (some x.stream) (fun y hy=>hx y (by simp[hy]));have h3:=Uz pos x.backs zD;cases p with
   | none=>
    have h4:=(AZ x.stream.toNat).1;simp only[Ix,Ag,AO];omega
   | some q=>
    have h4:=(AZ (x.stream-q-1).toNat).1;simp only[Ix,Ag,AO];omega
 simp only[CH,Aq,Av,Na] at hR;exact key l none hR.2.2
theorem Ys(w:World){g base most:Nat}{J:List UInt8}{a:Option Addr}(h:BQ w g base most J a c)(pos:Int)(hpos:0≤pos∧pos≤18446744073709551615)(l:List BH)(al:Option Addr)(nl cl:Nat)
 (hl:Cm.r (fun q=>q<w.heap.size∧¬Dr g a q) w [.slice al nl cl] l) (hR:CH pos l=true) (hbk:∀x∈l,x.backs.length≤1000000) (hfit:J.length+(Ci pos l).length≤most) (hln2:J.length+(Ci pos l).length≤100000000000000):
  Calls Tryz.prog 300 #[.pointer (some ⟨g,0,none⟩),.int .u64 pos,.slice al nl cl] w fun r w'=>r=.returned (.tuple #[])∧At w g base most (J++Ci pos l) a w':=by
 obtain⟨rfl,hm,_,_⟩:=AT hl;have hN:=Lh hl;have HRT:=hid (Of pos l al _ cl w hpos (JR hl) (fun x hx=>zA5));have hR':=hR;simp only[CH,Aq,Av,Na] at hR';rw[hR] at HRT;have hlk:∀x∈l,CI pos x.backs=true:=fun x hx=>by have:=hR'.2.2 x hx;simp only[Ec,Aq] at this;exact this.2
 have HLK:=hid hlk;have HBK:=hid hbk;have hup:=hid (Mo l hR'.2.1 (fun x hx=>(hN x hx).1));have hul:=Jt none l;have hzl:=JU pos none l;have HSP:=hid (fun (W:World) (hW:Cm.r (·<W.heap.size) W [.slice al l.length cl] l)=>T8 W l al _ cl hW hR'.2.1 zD);have hdl:(Ci pos l).length=(Az l.length).length+((Ii pos none l).flatten).length:=by unfold Ci;rw[Ag,Jc]
 rw[hdl] at hfit hln2;unfold Ci;rw[Jc];have HP:=hid h;have HL:=hid hl;have hvl:=AZ l.length;have HV:=hid (fun (W:World) (hW:Below w.heap.size w W)=>Cl W (h.later hW) l.length zD zD zD);have HMO:=hid (fun k=>Lo (Ii pos none l) k);have HNS:=hid (fun (k:Nat) (h:k<l.length)=>(by have:=PT (Ii pos none l) k zD;rw[PJ pos l k h] at this;exact this:((Ii pos none l).take (k+1)).flatten=((Ii pos none l).take k).flatten++(Az ((Fy none l)[k]'zAp).toNat++Dp pos l[k].backs)));generalize Ii pos none l=Z at*;have hll:l.length≤16:=hR'.1;clear h hl hR hR' hlk hbk hN hdl;go_enter Tryz.func300,Tryz.ntmps300;go_wp2_with fail;refine HRT.out.mono ?_;rintro r w1 ⟨rfl,hb1⟩;go_wp2_with fail;refine (HV.out _ hb1).mono ?_;rintro r w2 ⟨rfl,a2,c2,hp2,ht2,ha2⟩;have hd2:=DQ ht2 ha2 (FI hb1 HL.out);have HP2:=hid hp2;have HD2:=hid hd2;have HT2:=hid (And.intro ht2 ha2);clear hp2 hd2 ht2 ha2;go_wp2_with fail;refine (HSP.out w2 (JR HD2.out)).mono ?_;rintro r w3 ⟨v3,rfl,hr3,hb3⟩;obtain⟨a3,c3,hv3,hr3',_⟩:=AN hr3;simp only[As,AM] at hv3;subst hv3;have HR3:=hid (I0 HP2.out hr3');have HD3:=hid (FI hb3 HD2.out);have HP3:=hid (HP2.out.later hb3);rw[hul] at HR3 ⊢;clear hr3 hr3';go_wp2_with fail;go_loopw [22] (fun i wr=>∃k:Nat,k≤l.length∧i=.int .i64 k∧Hid (At w3 g base most (J++Az l.length++(Z.take k).flatten) a2 wr)) (fun i _=>l.length-(intOf i).toNat)
 case atStart=>exact ⟨0,Am _,rfl,hid (by simpa using At.refl HP3.out)⟩
 case round=>
  obtain⟨k,hk,rfl,hp⟩:=hrel;obtain⟨a4,c4,hp4,ht4,ha4⟩:=hp.out;rcases Bh k l.length with hlt | hge
  ·have hr4:=DQ ht4 ha4 HR3.out
   have hd4:=DQ ht4 ha4 HD3.out;obtain⟨b,o,hA,hbb,hc,hx0,hx1⟩:=Dv hr4 (show k<(Fy none l).length by omega);obtain⟨b',o',hA',hbb',a5,c5,y0,y1,hs,yl⟩:=EK hd4 hlt;subst hA hA';have hst:=HNS.out k hlt;have hfk:=HMO.out (k+1);rw[hst,Ag,Ag] at hfk;have hvk:=(AZ ((Fy none l)[k]'zD).toNat).1;have hJ4:=hp4.len;simp only[Ag] at hJ4;have hV:=Cl wr hp4 ((Fy none l)[k]'zD).toNat zD zT zT;rw[toNat_cast hx0] at hV;have HV4:=hid hV;have HT4:=hid (And.intro ht4 ha4);have HYL:=hid yl;have HST:=hid hst;have HFK:=hid hfk;have hfl:=HLK.out l[k] (Bi hlt);have hbl:=HBK.out l[k] (Bi hlt);have HFL:=hid hfl;have HDY:=hid (And.intro hbb' y1);have i1:(k:Int)<(l.length:Int):=zD;have d1:decide ((k:Int)<(l.length:Int))=true:=Ad i1;clear hV hr4 hd4 hst hp4 ht4 ha4 hp hfk hvk hJ4 hfl y0 yl y1 hbb';generalize (Fy none l)[k]'zD=u at*;generalize l[k]=y at*;go_wp2_with fail;refine HV4.out.mono ?_;rintro r w5 ⟨rfl,a6,c6,hp5,ht5,ha5⟩;have Y1:w5.cell? ⟨b',o'+k*2+1,none⟩=some (.slice a5 y.backs.length c5):=(ht5.cell (p:=⟨b',o'+k*2+1,none⟩) HDY.out.1.1 HDY.out.1.2).trans HDY.out.2;have hy5:=JR (DQ ht5 ha5 HYL.out);have HD5:=hid (Mh w5 hp5 pos hpos y.backs a5 _ c5 hy5 HFL.out hbl zCg zCg);have HT5:=hid (And.intro ht5 ha5);clear hy5 hp5 ht5 ha5 hc;go_wp2_with fail;refine HD5.out.mono ?_;rintro r w6 ⟨rfl,hst6⟩;have hn:=At.trans (J:=J) HT4.out.1 HT4.out.2 (At.trans (J:=J) HT5.out.1 HT5.out.2 hst6);rw[Ao,Ao (J++Az l.length),←HST.out] at hn;have HN:=hid hn;clear hst6 hn Y1;go_wp2;go_roundw
   case rel=>exact ⟨k+1,zD,zV,HN⟩
   case measure=>simp [intOf];omega
  ·obtain rfl:k=l.length:=by omega
   have d1:decide ((l.length:Int)<(l.length:Int))=false:=Ae zD;rw[CF zD] at hp;have hn:=At.later hb1 (At.trans (J:=J) HT2.out.1 HT2.out.2 (At.later hb3 hp.out));rw[Ao] at hn;have HN:=hid hn;clear hp hp4 ht4 ha4 hn;go_wp2;first | go_end0 | refine Al (Ax rfl _ _ _) rfl ?_
   exact⟨rfl,HN.out⟩
theorem Ox(w:World){g base most:Nat}{J:List UInt8}{a:Option Addr}(h:BQ w g base most J a c)(x:Nat)(hx:x<18446744073709551616)(hfit:J.length+(Az x).length≤most)(hlen:J.length+(Az x).length≤100000000000000):
  Calls Tryz.prog 237 #[.pointer (some ⟨g,0,none⟩),.int .u64 x,.bool true] w fun r w'=>r=.returned (.tuple #[])∧At w g base most (J++Az x) a w':=by
 have HV:=hid (Cl w h x hx hfit hlen);clear h;go_enter Tryz.func237,Tryz.ntmps237;go_wp2_with fail;refine HV.out.mono ?_;rintro r w1 ⟨rfl,hst⟩;have HST:=hid hst;clear hst;go_wp2;first | go_end0 | refine Al (Ax rfl _ _ _) rfl ?_
 exact⟨rfl,HST.out⟩
theorem Md(w:World){g base most:Nat}{J:List UInt8}{a:Option Addr}(h:BQ w g base most J a c)(x:Nat)(hx:epR (x:Int)=true)(hfit:J.length+(Az x).length≤most)(hlen:J.length+(Az x).length≤100000000000000):
  Calls Tryz.prog 162 #[.pointer (some ⟨g,0,none⟩),.int .u64 x] w fun r w'=>r=.returned (.tuple #[])∧At w g base most (J++Az x) a w':=by
 have hx':=hx;simp only[epR,Av] at hx';have HR:=hid (GK (x:Int) w);rw[hx] at HR;have HV:=hid (Ox w h x zD hfit hlen);clear h hx hx';go_enter Tryz.func162,Tryz.ntmps162;go_wp2_with fail;refine HR.out.mono ?_;rintro r w1 ⟨rfl,rfl⟩;go_wp2_with fail;refine HV.out.mono ?_;rintro r w1 ⟨rfl,hst⟩;have HST:=hid hst;clear hst;go_wp2;first | go_end0 | refine Al (Ax rfl _ _ _) rfl ?_
 exact⟨rfl,HST.out⟩
theorem QX(w:World){g base most:Nat}{J:List UInt8}{a:Option Addr}(h:BQ w g base most J a c)(x:Nat)(hx:poR (x:Int)=true)(hfit:J.length+(Az x).length≤most)(hlen:J.length+(Az x).length≤100000000000000):
  Calls Tryz.prog 261 #[.pointer (some ⟨g,0,none⟩),.int .u64 x] w fun r w'=>r=.returned (.tuple #[])∧At w g base most (J++Az x) a w':=by
 have hx':=hx;simp only[poR,Av] at hx';have HR:=hid (Me (x:Int) w);rw[hx] at HR;have HV:=hid (Ox w h x zD hfit hlen);clear h hx hx';go_enter Tryz.func261,Tryz.ntmps261;go_wp2_with fail;refine HR.out.mono ?_;rintro r w1 ⟨rfl,rfl⟩;go_wp2_with fail;refine HV.out.mono ?_;rintro r w1 ⟨rfl,hst⟩;have HST:=hid hst;clear hst;go_wp2;first | go_end0 | refine Al (Ax rfl _ _ _) rfl ?_
 exact⟨rfl,HST.out⟩
theorem FW(h:Blk w g t #[v0,v1,v2]):w.cell? ⟨g,0,none⟩=some v0∧w.cell? ⟨g,1,none⟩=some v1∧w.cell? ⟨g,2,none⟩=some v2∧w.frozen? ⟨g,0,none⟩=false∧w.frozen? ⟨g,1,none⟩=false∧w.frozen? ⟨g,2,none⟩=false∧g<w.heap.size:=
 ⟨h.cell 0,h.cell 1,h.cell 2,h.free 0,h.free 1,h.free 2,h.lt⟩
theorem G4{m:Nat}(hl:l=[])(hm:m=0)(hc:c≤9223372036854775807):Ah.r S w [.slice a m c] l:=by
 subst hl hm;exact Bt (xs:=[]) rfl (Am _) hc (.inl rfl)
theorem R5(w:World){g most:Nat}(h:BQ w g base most J a c)(k:Int):
  Calls Tryz.prog 164 #[.pointer (some ⟨g,0,none⟩),.int .i64 k] w fun r w'=>r=.returned (.tuple #[])∧Blk w' g 276 #[.int .i64 most,.slice a J.length c,.int .i64 k]∧Tch (·=g) w w':=by
 have HC:=hid (K7 w h);have HB:=hid h.blk;have c2:w.cell? ⟨g,2,none⟩=some (.int .i64 0):=h.blk.cell 2;have f2:=h.blk.free 2;have hgl:=h.blk.lt;clear h;go_enter Tryz.func164,Tryz.ntmps164;go_wp2_with fail;refine HC.out.mono ?_;rintro r w1 ⟨rfl,rfl⟩;go_wp2;first | go_end0 | refine Al (Ax rfl _ _ _) rfl ?_
 exact⟨rfl,HB.out.set 2 _,Tch.setCell (F:=(·=g)) (p:=⟨g,2,none⟩) (Tch.refl _ _) (fun _=>rfl) _⟩
theorem OU(w:World)(hk:k≠0)(h:Blk w g 276 #[v0,v1,.int .i64 k]):
  Calls Tryz.prog 165 #[.pointer (some ⟨g,0,none⟩)] w fun r w'=>r=.returned (.tuple #[.slice none 0 0,.int .i64 k])∧w=w':=by
 have HC:Hid (Calls Tryz.prog 235 #[.pointer (some ⟨g,0,none⟩)] w fun r w'=>r=.returned (.int .i64 k)∧w=w'):=hid (by
  have c2:w.cell? ⟨g,2,none⟩=some (.int .i64 k):=h.cell 2;clear h;go_enter Tryz.func235,Tryz.ntmps235;go_wp2;go_ret;exact⟨rfl,rfl⟩)
 have d1:(k==(0:Int))=false:=zBs;have d2:(k !=(0:Int))=true:=zBs;clear h hk;go_enter Tryz.func165,Tryz.ntmps165;go_wp2_with fail;refine HC.out.mono ?_;rintro r w1 ⟨rfl,rfl⟩;go_wp2;go_ret2
 exact⟨rfl,rfl⟩
end Go.Proofs.YtfddhafbhceoaaaGreat
