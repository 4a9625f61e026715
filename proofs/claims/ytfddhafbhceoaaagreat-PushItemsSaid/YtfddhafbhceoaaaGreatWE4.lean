/- Mini: Needed by pushItems_walk, part 4: texts put together by shake.py; no condition. -/
import Derived.Deep.Cut
import Derived.Test.YtfddhafbhceoaaaGreatWE3
import Derived.BigRegion
import Derived.Test.YtfddhafbhceoaaaGreatRows
import Derived.Test.YtfddhafbhceoaaaGreatWE2
import Derived.Laws.IdiomStrings
import Derived.Laws.BytesArg
import Derived.Test.YtfddhafbhceoaaaGreatWE1
import Derived.Lib.SlBytesConst
set_option linter.unusedVariables false
set_option linter.unusedSimpArgs false
set_option maxRecDepth 100000
set_option maxHeartbeats 6400000
namespace Go.Bs
variable{base g:Nat}{e:TypeId}{v:Value}{w:World}
theorem zCq{p:Prop}(h:p:=by have := Rs.JH (B := B) (s := s) (m := m); omega):p:=h
theorem zCl{p:Prop}(h:p:=by simp [results, Tryz.results275, go_sem, y0, y1, l1]):p:=h
theorem zB9{p:Prop}(h:p:=by simp [results, Tryz.results58, go_sem, y0, y1, y2, y3, l1]):p:=h
theorem zB5{p:Prop}(h:p:=by simp [results, Tryz.results102, go_sem, y0, y1, y2, y3, l1]):p:=h
theorem zBv{p:Prop}(h:p:=by rw [hf.out]; rfl):p:=h
theorem zBt{p:Prop}(h:p:=by have := hb1.size; simpa using this):p:=h
theorem zBk{p:Prop}(h:p:=by rw [← Ej (by omega)]; omega):p:=h
theorem zAo{p:Prop}(h:p:=by have h := ED (o := 0) (s := 1) (o' := 1) rfl r0 (Wo (s := 1) hl2 r1); rw [CO] at h; exact h):p:=h
theorem zAj{p:Prop}(h:p:=by simp [results, Tryz.results103, go_sem, y0, y1, y2, y3, l1]):p:=h
theorem zAb{p:Prop}(h:p:=by have := (hav _ e).1; omega):p:=h
theorem ZL{p:Prop}(h:p:=by rw [← GN]; simp only [F7, Aq, Av]; omega):p:=h
theorem ZC{p:Prop}(h:p:=by rw [hfin.out]; rfl):p:=h
theorem zY{p:Prop}(h:p:=by have := hq.1; omega):p:=h
theorem zG{p:Prop}(h:p:=by with_reducible assumption):p:=h
abbrev AcK(h:Array Value:=by exact #[.slice a B.length c,.int .i64 ((s.p:Int)+((u:Int)-1)+1),.int .i64 k,.int .i64 ((s.p:Int)+((u:Int)-1))]):=h
theorem F0:type_of% @World.alloc_heap_new:=@World.alloc_heap_new
theorem GN:type_of% @Bool.not_eq_true:=@Bool.not_eq_true
theorem IK:type_of% @List.getD_eq_getElem?_getD:=@List.getD_eq_getElem?_getD
end Go.Bs
namespace Go.Proofs.YtfddhafbhceoaaaGreat
open Go.RowKit Go.Bs Go.Maps
variable{bound:Int}{B b:List UInt8}{cs xs:List Value}{L base c cb cp g gs i mb n p sc:Nat}{S:Nat → Prop}{a ab ap sa:Option Addr}{s:Rs}{e:TypeId}{v:Value}{w w' w1:World}
theorem Rj:∀(l:List UInt8) (i x:Nat),(Cp i x l).2.2≠0→(Cp i x l).1=0
 | [],i,x,_=>rfl
 | c::l,i,x,h=>by
  rw[LD] at h ⊢;by_cases h1:i=9∧1<c.toNat
  ·rw[Ai h1]
  ·rw[Ak h1] at h ⊢
   by_cases h2:0<i∧c.toNat=0
   ·rw[Ai h2]
   ·rw[Ak h2] at h ⊢
    by_cases h3:c.toNat<128
    ·rw[Ai h3] at h;simp at h
    ·rw[Ak h3] at h ⊢
     exact Rj l _ _ h
theorem NU(w:World)(a:Option Addr)(c:Nat)(B:List UInt8)(hl:Ah.r (·<w.heap.size) w [.slice a B.length c] B)(s:Rs)(hs:s.ok B.length)(hB:B.length≤1000000000000):
  Calls Tryz.prog 103 #[CV a B.length c s] w fun r w'=>r=.returned (.tuple #[CV a B.length c (s.num B).1,.int .u64 ((s.num B).2:Int)])∧Below w.heap.size w w':=by
 have hle:=hs.le;by_cases h0:s.k=0
 ·have d0:(s.k !=(0:Int))=false:=by simp[h0]
  obtain⟨aD,cD,hsl,hsub⟩:=YM hl (lo:=s.p) hle;have hu:=G9 (B.drop s.p) 0 0;have hln:(B.drop s.p).length=B.length-s.p:=zN;have hGET:=hid (fun (W:World) (hW:Below w.heap.size w W)=>V8 W (B.drop s.p) aD _ cD (lift hsub hW) zD);have hnum:s.num B=(⟨s.p+(Cp 0 0 (B.drop s.p)).2.1,(Cp 0 0 (B.drop s.p)).2.2,if (Cp 0 0 (B.drop s.p)).2.2=0 then 0 else if (Cp 0 0 (B.drop s.p)).2.2=1 then B.length else s.p+(Cp 0 0 (B.drop s.p)).2.1-1⟩,(Cp 0 0 (B.drop s.p)).1):=by
   unfold Rs.num;rw[Ai h0]
  unfold Wt at hGET;rw[hnum];have hsm:=Kq (B.drop s.p) 0 0 zD zN;have hvx:=Rj (B.drop s.p) 0 0;generalize B.drop s.p=D at*;generalize Cp 0 0 D=R at*;obtain⟨x,u,k⟩:=R;dsimp only at*;have hz:=hs.zero h0;have H0:=hid h0;have HZ:=hid hz;clear hl hs h0 hz hsub hnum;unfold CV;by_cases hk0:k=0
  ·subst hk0
   simp only[M4,Fx] at hGET ⊢;go_enter Tryz.func103,Tryz.ntmps103;go_wp2_with fail;refine (hGET.out _ zA).mono ?_;rintro r w1 ⟨rfl,hb⟩;have B0:Blk w1 w.heap.size 91 #[.slice a B.length c,.int .i64 (s.p:Int),.int .i64 s.k,.int .i64 s.f]:=Blk.later zC hb;have B1:Blk w1 (w.heap.size+1) 91 #[.slice none 0 0,.int .i64 0,.int .i64 0,.int .i64 0]:=Blk.later zC hb;obtain⟨x0,x1,x2,x3,e0,e1,e2,e3,l0⟩:=DI B0;obtain⟨y0,y1,y2,y3,g0,g1,g2,g3,l1⟩:=DI B1;have hbw:Below w.heap.size w w1:=zA;clear B0 B1 hb;go_wp2;refine Al (v:=.tuple #[.agg #[.slice a B.length c,.int .i64 ((s.p:Int)+(u:Int)),.int .i64 s.k,.int .i64 s.f],.int .u64 (x:Int)]) zAj rfl ⟨?_,zA⟩;rw[H0.out,HZ.out];rfl
  ·by_cases hk1:k=1
   ·subst hk1
    have hu1:=hu.2.2.2.1 rfl;have hx0:x=0:=by have:=hvx;exact hvx zD
    subst hx0;have HP:Hid (((s.p+u:Nat):Int)=(B.length:Int)):=hid zD;simp only[M4,Fx,show ¬((1:Int)=0) by omega,if_false] at hGET ⊢;rw[HP.out];go_enter Tryz.func103,Tryz.ntmps103;go_wp2_with fail;refine (hGET.out _ zA).mono ?_;rintro r w1 ⟨rfl,hb⟩;have B0:Blk w1 w.heap.size 91 #[.slice a B.length c,.int .i64 (s.p:Int),.int .i64 s.k,.int .i64 s.f]:=Blk.later zC hb;have B1:Blk w1 (w.heap.size+1) 91 #[.slice none 0 0,.int .i64 0,.int .i64 0,.int .i64 0]:=Blk.later zC hb;have hbw:Below w.heap.size w w1:=zA;obtain⟨x0,x1,x2,x3,e0,e1,e2,e3,l0⟩:=DI B0;obtain⟨y0,y1,y2,y3,g0,g1,g2,g3,l1⟩:=DI B1;clear hb;go_wp2_with fail;refine (Hj _ 1 B.length zD).mono ?_;rintro r w2 ⟨rfl,hb2⟩;have B0':Blk w2 w.heap.size 91 #[.slice a B.length c,.int .i64 (B.length:Int),.int .i64 s.k,.int .i64 s.f]:=Blk.later (Blk.alloc (Blk.set B0 1 (.int .i64 (B.length:Int))) _) hb2;have B1':Blk w2 (w.heap.size+1) 91 #[.slice none 0 0,.int .i64 0,.int .i64 0,.int .i64 0]:=Blk.later (Blk.alloc (Blk.far B1 zN _) _) hb2;have BF:Blk w2 w1.heap.size 65 #[.int .i64 1,.int .i64 ((B.length-s.p:Nat):Int)]:=Blk.later (Blk.newAt _ _ _ ZK) hb2;have hbw2:Below w.heap.size w w2:=zA;clear x0 x1 x2 x3 e0 e1 e2 e3 l0 y0 y1 y2 y3 g0 g1 g2 g3 l1 B0 B1 hb2;obtain⟨x0,x1,x2,x3,e0,e1,e2,e3,l0⟩:=DI B0';obtain⟨y0,y1,y2,y3,g0,g1,g2,g3,l1⟩:=DI B1';obtain⟨z0,z1,f0,f1,lz⟩:=B6 BF;clear B0' B1' BF;go_wp2;refine Al (v:=.tuple #[.agg #[.slice a B.length c,.int .i64 (B.length:Int),.int .i64 1,.int .i64 (B.length:Int)],.int .u64 0]) zAj rfl ⟨rfl,zA⟩
   ·have hk4:k≠0∧k≠1:=⟨hk0,hk1⟩
    have hu5:=hu.2.2.2.2 hk1;have d2:(k==(0:Int))=false:=by simp[hk0]
    have d3:(k==(1:Int))=false:=by simp[hk1]
    have d4:(k !=(1:Int))=true:=by simp[hk1]
    have hx0:x=0:=hvx hk0;subst hx0;simp only[M4,hk0,hk1,if_false] at hGET ⊢;go_enter Tryz.func103,Tryz.ntmps103;go_wp2_with fail;refine (hGET.out _ zA).mono ?_;rintro r w1 ⟨rfl,hb⟩;have B0:Blk w1 w.heap.size 91 #[.slice a B.length c,.int .i64 (s.p:Int),.int .i64 s.k,.int .i64 s.f]:=Blk.later zC hb;have B1:Blk w1 (w.heap.size+1) 91 #[.slice none 0 0,.int .i64 0,.int .i64 0,.int .i64 0]:=Blk.later zC hb;have hbw:Below w.heap.size w w1:=zA;obtain⟨x0,x1,x2,x3,e0,e1,e2,e3,l0⟩:=DI B0;obtain⟨y0,y1,y2,y3,g0,g1,g2,g3,l1⟩:=DI B1;clear hb;go_wp2_with fail;refine (Hj _ k _ hk0).mono ?_;rintro r w2 ⟨rfl,hb2⟩;have B0':Blk w2 w.heap.size 91 #[.slice a B.length c,.int .i64 ((s.p:Int)+((u:Int)-1)+1),.int .i64 s.k,.int .i64 s.f]:=Blk.later (Blk.alloc (Blk.set B0 1 (.int .i64 ((s.p:Int)+((u:Int)-1)+1))) _) hb2;have B1':Blk w2 (w.heap.size+1) 91 #[.slice none 0 0,.int .i64 0,.int .i64 0,.int .i64 0]:=Blk.later (Blk.alloc (Blk.far B1 zN _) _) hb2;have BF:Blk w2 w1.heap.size 65 #[.int .i64 k,.int .i64 ((u:Int)-1)]:=Blk.later (Blk.newAt _ _ _ ZK) hb2;have hbw2:Below w.heap.size w w2:=zA;clear x0 x1 x2 x3 e0 e1 e2 e3 l0 y0 y1 y2 y3 g0 g1 g2 g3 l1 B0 B1 hb2;have HB0:=hid B0';have HB1:=hid B1';obtain⟨x0,x1,x2,x3,e0,e1,e2,e3,l0⟩:=DI B0';obtain⟨z0,z1,f0,f1,lz⟩:=B6 BF;clear B0' B1' BF;have hK0:=hid hk0;clear hk4 hk0 hk1;go_upto_region 13 with (fail);refine Gs (fun W=>Blk W w.heap.size 91 #[.slice a B.length c,.int .i64 ((s.p:Int)+((u:Int)-1)+1),.int .i64 k,.int .i64 ((s.p:Int)+((u:Int)-1))]∧Blk W (w.heap.size+1) 91 #[.slice none 0 0,.int .i64 0,.int .i64 0,.int .i64 0]∧Below w.heap.size w W) ⟨?_,?_,zA⟩ ?_
    ·exact Blk.set (Blk.set (Blk.set HB0.out 2 _) 3 _) 3 _
    ·exact Blk.far (Blk.far (Blk.far HB1.out zN _) zN _) zN _
    rintro W ⟨B0,B1,hbW⟩;clear x0 x1 x2 x3 e0 e1 e2 e3 l0 z0 z1 f0 f1 lz;obtain⟨x0,x1,x2,x3,e0,e1,e2,e3,l0⟩:=DI B0;obtain⟨y0,y1,y2,y3,g0,g1,g2,g3,l1⟩:=DI B1;clear B0 B1;go_wp2;refine Al (v:=.tuple #[.agg AcK,.int .u64 0]) zAj rfl ⟨by rw[show ((s.p:Int)+((u:Int)-1)+1)=((s.p+u:Nat):Int) by omega,show (s.p:Int)+((u:Int)-1)=(s.p:Int)+(u:Int)-1 by omega];rfl,by (repeat (first | with_reducible exact Below.refl _ _ | with_reducible assumption | (with_reducible refine AH ?_ _) | (with_reducible refine Below.setCell ?_ zF _) | (with_reducible refine Below.drew ?_) | (with_reducible refine below_drewN ?_ _) | (refine Af zG ?_)))⟩
 ·have d0:(s.k !=(0:Int))=true:=by simp[h0]
  have hnum:s.num B=(s,0):=by unfold Rs.num;rw[Ak h0]
  rw[hnum];clear hl hs h0 hnum;unfold CV;go_enter Tryz.func103,Tryz.ntmps103;go_wp2;refine Al (v:=.tuple #[.agg #[.slice a B.length c,.int .i64 (s.p:Int),.int .i64 s.k,.int .i64 s.f],.int .u64 0]) (by simp[results,Tryz.results103,go_sem]) rfl ⟨rfl,zA⟩
theorem TI(w:World)(a:Option Addr)(c:Nat)(B:List UInt8)(hl:Ah.r (·<w.heap.size) w [.slice a B.length c] B)(s:Rs)(hs:s.ok B.length)(hB:B.length≤1000000000000)(m:Nat):
  Calls Tryz.prog 102 #[CV a B.length c s,.int .u64 (m:Int)] w fun r w'=>r=.returned (.tuple #[CV a B.length c (s.most B m).1,.int .u64 ((s.most B m).2:Int)])∧Below w.heap.size w w':=by
 have hR:=hid (fun (W:World) (hW:Below w.heap.size w W)=>NU W a c B (lift hl hW) s hs hB);have hF:=hid (fun (W:World) (t:Rs)=>IX W a B.length c t 2 s.p zD);unfold Rs.most;generalize s.num B=N at*;obtain⟨s1,x⟩:=N;dsimp only at*;clear hl hs;unfold CV at*;by_cases hm:m<x
 ·have d1:decide (m<x)=true:=Ad hm
  have d1':decide ((m:Int)<(x:Int))=true:=Ad zD;rw[Ai hm];have HF:=hid (fun (W:World)=>hF.out W s1);dsimp only;generalize s1.fail 2 s.p=s2 at*;clear hm hF;go_enter Tryz.func102,Tryz.ntmps102;go_wp2_with fail;refine (hR.out _ zA).mono ?_;rintro r w1 ⟨rfl,hb⟩;have B1:Blk w1 (w.heap.size+1) 91 #[.slice none 0 0,.int .i64 0,.int .i64 0,.int .i64 0]:=Blk.later zC hb;have hbw:Below w.heap.size w w1:=zA;clear hb;go_wp2_with fail;refine (HF.out _).mono ?_;rintro r w2 ⟨rfl,hb2⟩;have B1':Blk w2 (w.heap.size+1) 91 #[.slice none 0 0,.int .i64 0,.int .i64 0,.int .i64 0]:=Blk.later zC hb2;have hbw2:Below w.heap.size w w2:=zA;obtain⟨y0,y1,y2,y3,g0,g1,g2,g3,l1⟩:=DI B1';clear hb2 B1 B1';go_wp2;refine Al (v:=.tuple #[.agg #[.slice a B.length c,.int .i64 (s2.p:Int),.int .i64 s2.k,.int .i64 s2.f],.int .u64 0]) zB5 rfl ⟨rfl,zA⟩
 ·have d1:decide (m<x)=false:=Ae hm
  have d1':decide ((m:Int)<(x:Int))=false:=Ae zD;rw[Ak hm];dsimp only;clear hm hF;go_enter Tryz.func102,Tryz.ntmps102;go_wp2_with fail;refine (hR.out _ zA).mono ?_;rintro r w1 ⟨rfl,hb⟩;have B1:Blk w1 (w.heap.size+1) 91 #[.slice none 0 0,.int .i64 0,.int .i64 0,.int .i64 0]:=Blk.later zC hb;have hbw:Below w.heap.size w w1:=zA;obtain⟨y0,y1,y2,y3,g0,g1,g2,g3,l1⟩:=DI B1;clear hb B1;go_wp2;refine Al (v:=.tuple #[.agg #[.slice a B.length c,.int .i64 (s1.p:Int),.int .i64 s1.k,.int .i64 s1.f],.int .u64 (x:Int)]) zB5 rfl ⟨rfl,zA⟩
theorem V7(w:World)(a:Option Addr)(c:Nat)(B:List UInt8)(hl:Ah.r (·<w.heap.size) w [.slice a B.length c] B)(s:Rs)(hs:s.ok B.length)(hB:B.length≤1000000000000)(m:Int)(hm: -9223372036854775808≤m∧m≤9223372036854775807):
  Calls Tryz.prog 58 #[CV a B.length c s,.int .i64 m] w fun r w'=>r=.returned (.tuple #[CV a B.length c (s.int B m).1,.int .i64 ((s.int B m).2:Int)])∧Below w.heap.size w w':=by
 by_cases h0:0≤m
 ·obtain⟨n,rfl⟩:∃n:Nat,m=n:=⟨m.toNat,zD⟩
  have hM:=hid (fun (W:World) (hW:Below w.heap.size w W)=>TI W a c B (lift hl hW) s hs hB n);have hle:(s.int B n).2≤9223372036854775807:=zB7;have e:s.int B n=s.most B n:=by unfold Rs.int;rw[Ai h0];rfl
  rw[e] at hle ⊢;have d1:decide ((0:Int)≤(n:Int))=true:=Ad h0;generalize s.most B n=N at*;obtain⟨s1,x⟩:=N;dsimp only at*;clear hl hs e;unfold CV at*;go_enter Tryz.func58,Tryz.ntmps58;go_wp2_with fail;refine (hM.out _ zA).mono ?_;rintro r w1 ⟨rfl,hb⟩;have B1:Blk w1 (w.heap.size+1) 91 #[.slice none 0 0,.int .i64 0,.int .i64 0,.int .i64 0]:=Blk.later zC hb;have hbw:Below w.heap.size w w1:=zA;obtain⟨y0,y1,y2,y3,g0,g1,g2,g3,l1⟩:=DI B1;clear hb B1;go_wp2;refine Al (v:=.tuple #[.agg #[.slice a B.length c,.int .i64 (s1.p:Int),.int .i64 s1.k,.int .i64 s1.f],.int .i64 (x:Int)]) zB9 rfl ⟨rfl,zA⟩
 ·have hR:=hid (fun (W:World) (hW:Below w.heap.size w W)=>NU W a c B (lift hl hW) s hs hB)
  have e:s.int B m=((s.num B).1.fail 2 s.p,0):=by unfold Rs.int;rw[Ak h0]
  have hF:=hid (fun (W:World)=>IX W a B.length c (s.num B).1 2 s.p zD);rw[e];have d1:decide ((0:Int)≤m)=false:=Ae h0;dsimp only at*;generalize (s.num B).1.fail 2 s.p=s2 at*;generalize s.num B=N at*;obtain⟨s1,x⟩:=N;dsimp only at*;clear hl hs e h0;unfold CV at*;go_enter Tryz.func58,Tryz.ntmps58;go_wp2_with fail;refine (hR.out _ zA).mono ?_;rintro r w1 ⟨rfl,hb⟩;have B0:Blk w1 w.heap.size 91 #[.slice a B.length c,.int .i64 (s.p:Int),.int .i64 s.k,.int .i64 s.f]:=Blk.later zC hb;have B1:Blk w1 (w.heap.size+1) 91 #[.slice none 0 0,.int .i64 0,.int .i64 0,.int .i64 0]:=Blk.later zC hb;have hbw:Below w.heap.size w w1:=zA;obtain⟨x0,x1,x2,x3,e0,e1,e2,e3,l0⟩:=DI B0;clear hb;go_wp2_with fail;refine (hF.out _).mono ?_;rintro r w2 ⟨rfl,hb2⟩;have B1':Blk w2 (w.heap.size+1) 91 #[.slice none 0 0,.int .i64 0,.int .i64 0,.int .i64 0]:=Blk.later zC hb2;have hbw2:Below w.heap.size w w2:=zA;obtain⟨y0,y1,y2,y3,g0,g1,g2,g3,l1⟩:=DI B1';clear hb2 B1 B1' B0;go_wp2;refine Al (v:=.tuple #[.agg #[.slice a B.length c,.int .i64 (s2.p:Int),.int .i64 s2.k,.int .i64 s2.f],.int .i64 0]) zB9 rfl ⟨rfl,zA⟩
def Rs.D5(B:List UInt8)(s:Rs)(m:Int):Rs × List UInt8:=(s.int B m).1.take B ((s.int B m).2:Int)
theorem TH(w:World)(a:Option Addr)(c:Nat)(B:List UInt8)(hl:Ah.r (·<w.heap.size) w [.slice a B.length c] B)(s:Rs)(hs:s.ok B.length)(hB:B.length≤1000000000000)(m:Int)(hm: -9223372036854775808≤m∧m≤9223372036854775807):
  Calls Tryz.prog 96 #[CV a B.length c s,.int .i64 m] w fun r w'=>∃v,r=.returned (.tuple #[CV a B.length c (s.D5 B m).1,v])∧Ah.r (fun q=>w.heap.size≤q∧q<w'.heap.size) w' [v] (s.D5 B m).2∧Below w.heap.size w w':=by
 have hI:=hid (fun (W:World) (hW:Below w.heap.size w W)=>V7 W a c B (lift hl hW) s hs hB m hm);have hok:=Rs.FU (B:=B) hs (m:=m);have hle:((s.int B m).2:Int)≤9223372036854775807:=zCq;have hT:=hid (fun (W:World) (hW:Below w.heap.size w W)=>NV W a c B (lift hl hW) (s.int B m).1 hok ((s.int B m).2:Int) hle hB);unfold Rs.D5;generalize (s.int B m).1.take B ((s.int B m).2:Int)=T at*;generalize s.int B m=N at*;obtain⟨s1,x⟩:=N;obtain⟨s2,D⟩:=T;dsimp only at*;clear hl hs hok;unfold CV at*;go_enter Tryz.func96,Tryz.ntmps96;go_wp2_with fail;refine (hI.out _ zA).mono ?_;rintro r w1 ⟨rfl,hb⟩;have B1:Blk w1 (w.heap.size+1) 91 #[.slice none 0 0,.int .i64 0,.int .i64 0,.int .i64 0]:=Blk.later zC hb;have hbw:Below w.heap.size w w1:=zA;have hs1:=hb.size;simp at hs1;clear hb;go_wp2_with fail;refine (hT.out _ zA).mono ?_;rintro r w2 ⟨v,rfl,hr,hb2⟩;have B1':Blk w2 (w.heap.size+1) 91 #[.slice none 0 0,.int .i64 0,.int .i64 0,.int .i64 0]:=Blk.later zC hb2;have hbw2:Below w.heap.size w w2:=zA;obtain⟨y0,y1,y2,y3,g0,g1,g2,g3,l1⟩:=DI B1';obtain⟨a1,c1,hv1,hr2,_⟩:=AN hr;simp only[As,AM] at hv1;subst hv1;have HR:=hid hr2;clear hr hr2 hb2 B1 B1';go_wp2;refine Al (v:=.tuple #[.agg #[.slice a B.length c,.int .i64 (s2.p:Int),.int .i64 s2.k,.int .i64 s2.f],.slice a1 D.length c1]) (by simp[results,Tryz.results96,go_sem,y0,y1,y2,y3,l1]) rfl ⟨_,rfl,?_,zA⟩;refine Ah.mono (Ah.keep HR.out fun q hq=> ?_) fun q hq=>⟨by have:=hq.1;simp at this;omega,zA1⟩;have:=hq.1;simp at this;repeat (rw[AB _ _ _ _ zJ])
theorem Qg(w:World){g:Nat}{B:List UInt8}{a:Option Addr}{s:Rs}(h:A6 w g B a s)(hB:B.length≤1000000000000)(m:Int)(hm: -9223372036854775808≤m∧m≤9223372036854775807):Calls Tryz.prog 274 #[.pointer (some ⟨g,0,none⟩),.int .i64 m] w fun r w'=>∃v,r=.returned v∧Ah.r (fun q=>w.heap.size≤q∧q<w'.heap.size) w' [v] (s.D5 B m).2∧AG w g B a (s.D5 B m).1 w':=by
 have HI:=hid (Ef w h hB m hm);have hle:((s.int B m).2:Int)≤9223372036854775807:=zCq;have hT:=hid (fun (W:World) (h:A6 W g B a (s.int B m).1)=>Nb W h ((s.int B m).2:Int) hle hB);unfold Rs.D5;generalize (s.int B m).1.take B ((s.int B m).2:Int)=T at*;generalize s.int B m=N at*;obtain⟨s1,x⟩:=N;obtain⟨s2,D⟩:=T;dsimp only at*;clear h;go_enter Tryz.func274,Tryz.ntmps274;go_wp2_with fail;refine HI.out.mono ?_;rintro r w1 ⟨rfl,hst⟩;have HST:=hid hst;have hs1:=hst.size;have HT:=hid (hT.out w1 hst.1);clear hst;go_wp2_with fail;refine HT.out.mono ?_;rintro r w2 ⟨v,rfl,hr,hst2⟩;obtain⟨a1,c1,hv1,hr2,_⟩:=AN hr;simp only[As,AM] at hv1;subst hv1;have HR:=hid hr2;have HST2:=hid hst2;clear hr hr2 hst2;go_wp2;go_ret;exact⟨_,rfl,Ah.mono HR.out fun q hq=>⟨zD,hq.2⟩,AG.trans HST.out.2 HST2.out⟩
def GX(off:Nat):Nat→List UInt8→List UInt8
 | 0,out=>out
 | n+1,out=>GX off n (out++[out.getD (out.length-off) 0])
theorem KO(off:Nat):∀(n:Nat) (out:List UInt8),(GX off n out).length=out.length+n
 | 0,out=>rfl
 | n+1,out=>by simp only[GX,KO off n];simp;omega
def C6(B:List UInt8)(bound:Int)(s:Rs)(out:List UInt8):Rs × List UInt8:=
 if bound-out.length<(s.head B).2.2 then ((s.head B).1.fail 11 s.p,out)
 else if (s.head B).2.1=false then (((s.head B).1.take B ((s.head B).2.2:Int)).1,out++((s.head B).1.take B ((s.head B).2.2:Int)).2)
 else
  if out.length<((s.head B).1.offset B).2 then (((s.head B).1.offset B).1.fail 10 (s.head B).1.p,out)
  else if ((s.head B).1.offset B).1.k=0 then (((s.head B).1.offset B).1,GX ((s.head B).1.offset B).2 (s.head B).2.2 out) else (((s.head B).1.offset B).1,out)
def exF(B:List UInt8)(bound:Int):Nat→Rs→List UInt8→Rs × List UInt8
 | 0,s,out=>(s,out)
 | f+1,s,out=>if s.p<B.length∧s.k=0 then exF B bound f (C6 B bound s out).1 (C6 B bound s out).2 else (s,out)
def exB(B:List UInt8)(bound:Int):List UInt8 × Int × Int:=
 if (exF B bound B.length ⟨0,0,0⟩ []).1.k=0 then ((exF B bound B.length ⟨0,0,0⟩ []).2,0,0) else ([],(exF B bound B.length ⟨0,0,0⟩ []).1.k,(exF B bound B.length ⟨0,0,0⟩ []).1.f)
theorem Rs.BE{c at_:Int}(hc:c≠0):(s.fail c at_).k≠0:=by
 unfold Rs.fail;split
 ·exact hc
 ·assumption
theorem Rs.Ou{c at_:Int}:(s.fail c at_).p=s.p:=by unfold Rs.fail;split<;>rfl
theorem Rs.Fp(h:(s.num B).1.k=0):s.p<(s.num B).1.p∧s.k=0:=by
 unfold Rs.num at*;split
 ·rename_i h0
  rw[Ai h0] at h;have:=(G9 (B.drop s.p) 0 0).2.2.2.2 (by dsimp only at h;omega);dsimp only;omega
 ·rename_i h0;rw[Ak h0] at h;exact absurd h h0
theorem Rs.L6(h:(s.head B).1.k=0):s.p<(s.head B).1.p∧s.k=0∧(s.num B).1.k=0∧1≤(s.head B).2.2∧(s.head B).2.2≤1048576:=by
 unfold Rs.head at*;by_cases h0:(s.num B).1.k=0
 ·have hm:=Rs.Fp h0
  rw[Ai h0] at h ⊢;by_cases h1:(s.num B).2%2=1
  ·rw[Ai h1] at h ⊢
   by_cases h2:1048572<(s.num B).2/2
   ·rw[Ai h2] at h;exact absurd h (Rs.BE zD)
   ·rw[Ak h2];exact⟨hm.1,hm.2,h0,zJ,zJ⟩
  ·rw[Ak h1] at h ⊢
   by_cases h2:1048575<(s.num B).2/2
   ·rw[Ai h2] at h;exact absurd h (Rs.BE zD)
   ·rw[Ak h2];exact⟨hm.1,hm.2,h0,zJ,zJ⟩
 ·rw[Ak h0] at h;exact absurd h h0
theorem Rs.YA(h:(s.head B).1.k≠0):(s.head B).2.1=false∧(s.head B).2.2=0:=by
 unfold Rs.head at*;by_cases h0:(s.num B).1.k=0
 ·rw[Ai h0] at h ⊢
  by_cases h1:(s.num B).2%2=1
  ·rw[Ai h1] at h ⊢
   by_cases h2:1048572<(s.num B).2/2
   ·rw[Ai h2];exact⟨rfl,rfl⟩
   ·rw[Ak h2] at h;exact absurd h0 h
  ·rw[Ak h1] at h ⊢
   by_cases h2:1048575<(s.num B).2/2
   ·rw[Ai h2];exact⟨rfl,rfl⟩
   ·rw[Ak h2] at h;exact absurd h0 h
 ·rw[Ak h0];exact⟨rfl,rfl⟩
theorem Rs.Ha{n:Int}(h:(s.take B n).1.k=0):s.p≤(s.take B n).1.p∧s.k=0∧(s.take B n).2.length=n.toNat:=by
 unfold Rs.take at*;cases hk:(s.skip B.length n).1
 ·exact absurd h (Rs.IT hk).1
 ·have:=Rs.FG hk
  rw[this.2.2.2];refine⟨zJ,this.1,?_⟩;simp;omega
theorem Rs.Nw{n:Int}(h:(s.take B n).1.k≠0):(s.take B n).2=[]:=by
 unfold Rs.take at*;cases hk:(s.skip B.length n).1
 ·simp
 ·have:=Rs.FG hk
  rw[this.2.2.2] at h;exact absurd rfl h
theorem Rs.MG(h:(s.offset B).1.k=0):s.p<(s.offset B).1.p∧s.k=0∧(s.num B).1.k=0∧(s.offset B).2=(s.num B).2+1∧(s.num B).2<65536:=by
 unfold Rs.offset at*;dsimp only at*;by_cases h1:65536≤(s.num B).2
 ·rw[Ai h1] at h;exact absurd h (Rs.BE zD)
 ·rw[Ak h1] at h ⊢
  have:=Rs.Fp h;exact⟨this.1,this.2,h,by rw[Ai h],zD⟩
theorem Rs.Ei(h:s.k≠0):s.num B=(s,0):=by unfold Rs.num;rw[Ak h]
theorem Rs.Mu{n:Int}(h:s.k≠0):s.skip L n=(false,s):=by unfold Rs.skip;rw[Ak h]
theorem Rs.Cb{c a:Int}(h:s.k≠0):s.fail c a=s:=by unfold Rs.fail;rw[Ak h]
theorem Ma{out:List UInt8}(h:s.ok B.length):(C6 B bound s out).1.ok B.length:=by
 unfold C6;split
 ·exact Rs.Co (Rs.Jf h) zD
 ·split
  ·exact Rs.IS (Rs.Jf h) _
  ·split
   ·exact Rs.Co (Rs.LQ (Rs.Jf h)) zD
   ·split
    ·exact Rs.LQ (Rs.Jf h)
    ·exact Rs.LQ (Rs.Jf h)
theorem Il{out:List UInt8}(h:(C6 B bound s out).1.k=0):s.p<(C6 B bound s out).1.p∧((C6 B bound s out).2.length:Int)≤bound:=by
 unfold C6 at*;by_cases h1:bound-out.length<(s.head B).2.2
 ·rw[Ai h1] at h;exact absurd h (Rs.BE zD)
 ·rw[Ak h1] at h ⊢
  by_cases h2:(s.head B).2.1=false
  ·rw[Ai h2] at h ⊢
   have ht:=Rs.Ha h;have hh:=Rs.L6 ht.2.1;refine⟨zJ,?_⟩;simp only[Ag,ht.2.2];omega
  ·rw[Ak h2] at h ⊢
   by_cases h3:out.length<((s.head B).1.offset B).2
   ·rw[Ai h3] at h;exact absurd h (Rs.BE zD)
   ·rw[Ak h3] at h ⊢
    by_cases h4:((s.head B).1.offset B).1.k=0
    ·rw[Ai h4]
     have ho:=Rs.MG h4;have hh:=Rs.L6 ho.2.1;refine⟨zJ,?_⟩;simp only[KO];omega
    ·rw[Ak h4] at h;exact absurd h h4
theorem Ut{out:List UInt8}(h:(C6 B bound s out).1.k≠0):(C6 B bound s out).2=out:=by
 unfold C6 at*;split
 ·rfl
 ·rename_i h1
  rw[Ak h1] at h;split
  ·rename_i h2
   rw[Ai h2] at h;rw[Rs.Nw h];simp
  ·rename_i h2
   rw[Ak h2] at h;split
   ·rfl
   ·rename_i h3
    rw[Ak h3] at h;split
    ·rename_i h4
     rw[Ai h4] at h;exact absurd h4 h
    ·rfl
theorem YH:∀(f:Nat) (s:Rs) (out:List UInt8),s.ok B.length→B.length≤s.p+f→s.p<B.length→s.k=0→exF B bound f s out=exF B bound (f-1) (C6 B bound s out).1 (C6 B bound s out).2
 | 0,s,out,_,h1,h2,_=>by omega
 | f+1,s,out,_,_,h2,h3=>by simp only[exF];rw[Ai ⟨h2,h3⟩];rfl
theorem Hv:∀(f:Nat) (s:Rs) (out:List UInt8),¬(s.p<B.length∧s.k=0)→exF B bound f s out=(s,out)
 | 0,s,out,_=>rfl
 | f+1,s,out,h=>by simp only[exF];rw[Ak h]
theorem Vv:∀(f g:Nat) (s:Rs) (out:List UInt8),s.ok B.length→B.length≤s.p+f→B.length≤s.p+g→exF B bound f s out=exF B bound g s out
 | 0,g,s,out,h,h1,h2=>by rw[Hv g s out (by have:=h.le;omega)];rfl
 | f+1,0,s,out,h,h1,h2=>by rw[Hv (f+1) s out (by have:=h.le;omega)];rfl
 | f+1,g+1,s,out,h,h1,h2=>by
  simp only[exF];by_cases hc:s.p<B.length∧s.k=0
  ·rw[Ai hc,Ai hc]
   by_cases hk:(C6 B bound s out).1.k=0
   ·have:=(Il hk).1
    exact Vv f g _ _ (Ma h) zD zD
   ·rw[Hv f _ _ (fun e=>hk e.2),Hv g _ _ (fun e=>hk e.2)]
  ·rw[Ak hc,Ak hc]
def exR(B:List UInt8)(bound:Int)(s:Rs)(out:List UInt8):Rs × List UInt8:=exF B bound (B.length-s.p) s out
theorem Uu{out:List UInt8}(h:s.ok B.length)(h1:s.p<B.length)(h2:s.k=0):exR B bound s out=exR B bound (C6 B bound s out).1 (C6 B bound s out).2:=by
 unfold exR;rw[YH _ s out h zD h1 h2];by_cases hk:(C6 B bound s out).1.k=0
 ·have:=(Il hk).1
  exact Vv _ _ _ _ (Ma h) zD zD
 ·rw[Hv _ _ _ (fun e=>hk e.2),Hv _ _ _ (fun e=>hk e.2)]
theorem Lq{out:List UInt8}(h:¬(s.p<B.length∧s.k=0)):exR B bound s out=(s,out):=Hv _ _ _ h
theorem YJ(B:List UInt8)(bound:Int):exB B bound=if (exR B bound ⟨0,0,0⟩ []).1.k=0 then ((exR B bound ⟨0,0,0⟩ []).2,0,0) else ([],(exR B bound ⟨0,0,0⟩ []).1.k,(exR B bound ⟨0,0,0⟩ []).1.f):=rfl
theorem OG(x:UInt8):∀u∈[Value.int .u8 (x.toNat:Int)],u.oneCell'=true:=by
 intro u hu;simp at hu;subst hu;rfl
theorem DW(l:List UInt8)(x:UInt8):byteCells l++[Value.int .u8 (x.toNat:Int)]=byteCells (l++[x]):=zAm
theorem QV(w:World)(out:List UInt8)(hown:w.ownsRow base 5 1 (.slice a out.length c) out.length (byteCells out))(hbase:base≤w.heap.size)(off n:Nat)(h1:1≤off)(h2:off≤out.length)(hn:out.length+n≤1000000000000):
  Calls Tryz.prog 331 #[.slice a out.length c,.int .i64 (off:Int),.int .i64 (n:Int)] w fun r w'=>∃a' c',r=.returned (.slice a' (out.length+n) c')∧w'.ownsRow base 5 1 (.slice a' (out.length+n) c') (out.length+n) (byteCells (GX off n out))∧Below base w w':=by
 obtain⟨i0,hi,hz0,hz1,hz2⟩:=A3 DH;have HO:=hid hown;clear hown;go_enter Tryz.func331,Tryz.ntmps331;go_wp2_with fail;go_loopw [0,8] (fun o i wr=>∃(k:Nat) (J:List UInt8) (aJ:Option Addr) (cJ:Nat),k≤n∧i=.int .i64 k∧o=.slice aJ J.length cJ∧wr.ownsRow base 5 1 (.slice aJ J.length cJ) J.length (byteCells J)∧Hid (GX off n out=GX off (n-k) J)∧Hid (J.length=out.length+k)∧Below base w wr∧base≤wr.heap.size) (fun _ i _=>n-(intOf i).toNat)
 case atStart=>exact ⟨0,out,a,c,Am _,rfl,rfl,HO.out,hid rfl,hid rfl,Below.refl _ _,hbase⟩
 case round=>
  obtain⟨k,J,aJ,cJ,hk,rfl,rfl,ho,hJ,hln,hb,hbs⟩:=hrel;have HJO:=hid ho;rcases Bh k n with hlt | hge
  ·have d1:decide ((k:Int)<(n:Int))=true:=Ad zD
   have d1':decide (k<n)=true:=Ad hlt;have hml:off≤J.length:=by have:=hln.out;omega
   have hJm:J.length+1≤1000000000000:=by have:=hln.out;omega
   have hst:Hid (GX off (n-k) J=GX off (n-(k+1)) (J++[J.getD (J.length-off) 0])):=hid (by rw[show n-k=(n-(k+1))+1 by omega];rfl);have hgd:J.getD (J.length-off) 0=J[J.length-off]'zD:=by rw[IK,AJ zD];rfl
   rw[hgd] at hst;obtain⟨gb,ob,hA,hgb,hc⟩:=Cs (BM rfl ho) (i:=J.length-off) zD;subst hA;obtain⟨m,hm⟩:∃m,m=J.length-off:=⟨_,rfl⟩;have e1:(J.length:Int)-(off:Int)=(m:Int):=zD;generalize J[J.length-off]'zD=x at*;rw[←hm] at hc;have i1:(m:Int)<(J.length:Int):=zD;have i2:(0:Int)≤(m:Int):=zD;clear ho hgd hm;go_wp2_with (at_builtin;go_loud (refine Ar rfl _ _ _ rfl base 5 i0 (.int .u8 0) 1 1 Au hi hz0 hz1 hz2 rfl zO (.slice (some ⟨gb,ob,none⟩) J.length cJ) J.length (byteCells J) rfl (AF HJO.out zB) (some ⟨wr.heap.size,0,none⟩) 1 1 [.int .u8 (x.toNat:Int)] rfl (By wr 5 _ rfl rfl rfl) (OG x) zK zD zH ?_;intro v' w3 hown3 hgrow3 hat3;obtain⟨a3,c3,rfl⟩:=AD hown3;have HO3:=hid hown3;have HG3:=hid hgrow3;clear hown3 hgrow3 hat3))
   have ho3:=HO3.out;rw[DW,show J.length+1=(J++[x]).length by simp] at ho3;have hb3:Below base wr w3:=(Below.grown (Below.refl _ _) HG3.out zH (fun g e=>(HJO.out.lt g e).1)) |>(fun h=>(AH (Below.refl _ _) _ |>.mono hbs).trans h);have HO4:=hid ho3;have hs3:=hb3.size;clear ho3 hc;go_roundw
   case rel=>exact ⟨k+1,J++[x],a3,c3,zD,zV,zN,HO4.out,hid (hJ.out.trans hst.out),hid (by simp;have:=hln.out;omega),hb.trans hb3,zD⟩
   case measure=>simp [intOf];omega
  ·obtain rfl:k=n:=by omega
   have d1:decide ((k:Int)<(k:Int))=false:=Ae zD;have hfin:Hid (GX off k out=J):=hid (by rw[hJ.out,Lx];rfl);clear ho;go_wp2;go_ret;have hl:J.length=out.length+k:=hln.out;rw[hfin.out,←hl];exact⟨_,_,rfl,HJO.out,hb⟩
theorem OH(l l':List UInt8):byteCells l++byteCells l'=byteCells (l++l'):=zAm
structure M7(w W:World)(B:List UInt8)(a:Option Addr)(s:Rs)(out:List UInt8)(aO:Option Addr)(cO:Nat):Prop where
 rd:A6 W (w.heap.size+1) B a s
 dat:Ah.r (·<w.heap.size) W [.slice a B.length B.length] B
 fl:Blk W w.heap.size 65 #[.int .i64 0,.int .i64 0]
 own:W.ownsRow (w.heap.size+2) 5 1 (.slice aO out.length cO) out.length (byteCells out)
 be:Below w.heap.size w W
 sz:w.heap.size+2≤W.heap.size
section
variable {w W W':World} {B:List UInt8} {a:Option Addr} {s s':Rs} {out out':List UInt8} {aO aO':Option Addr} {cO cO':Nat}
theorem M7.later(h:M7 w W B a s out aO cO)(hb:Below W.heap.size W W'):M7 w W' B a s out aO cO:=
 ⟨h.rd.later hb,Ah.keep h.dat fun q hq=>hb.block q (by have:=h.sz;omega),h.fl.later hb,AF h.own hb,Af hb h.be,A4 h.sz hb.size⟩
theorem Aay{size:Nat}(h:W.ownsRow base e size v n xs)(hg:g<base)(hb:Tch (·=g) W W'):W'.ownsRow base e size v n xs:=by
 refine⟨h.1,?_⟩;rcases h.2 with h0 | ⟨g',cap,cur,h1,h2,h3,h4⟩
 ·exact .inl h0
 ·exact .inr ⟨g',cap,cur,h1,h2,(hb.block _ (Blk.lt h3) zD).trans h3,h4⟩
theorem M7.step(h:M7 w W B a s out aO cO)(k:AG W (w.heap.size+1) B a s' W'):M7 w W' B a s' out aO cO:=
 ⟨k.1,Ah.keep h.dat fun q hq=>k.2.block q (by have:=h.sz;omega) zD,h.fl.tch k.2 zD,Aay h.own zD k.2,h.be.trans (k.below h.be.size zD),A4 h.sz k.size⟩
theorem M7.row(h:M7 w W B a s out aO cO)(hb:Below (w.heap.size+2) W W')(ho:W'.ownsRow (w.heap.size+2) 5 1 (.slice aO' out'.length cO') out'.length (byteCells out')):M7 w W' B a s out' aO' cO':=by
 have hd:=Ah.keep h.dat (w':=W') fun q hq=>hb.block q zD;exact⟨⟨h.rd.blk.below hb zD,Ah.mono hd fun q hq=>⟨by have:=h.sz;have:=hb.size;omega,zD⟩,h.rd.ok⟩,hd,h.fl.below hb zD,ho,h.be.trans (hb.mono zD),A4 h.sz hb.size⟩
end
def SD(W:World)(g i:Nat):Int:=intOf ((W.cell? ⟨g,i,none⟩).getD undef)
theorem A6.cells(h:A6 w g B a s):SD w g 1=s.p∧SD w g 2=s.k:=by
 have c1:=h.blk.cell 1;have c2:=h.blk.cell 2;simp at c1 c2;unfold SD;rw[c1,c2];exact⟨rfl,rfl⟩
def YF(L g:Nat)(W:World):Nat:=if SD W g 2=0 then L+1-(SD W g 1).toNat else 0
theorem Vu(h:A6 w g B a s):YF B.length g w=if s.k=0 then B.length+1-s.p else 0:=by
 unfold YF;rw[h.cells.1,h.cells.2];simp
theorem Ni{s':Rs}(h:A6 w g B a s)(h':A6 w' g B a s')(hk:s.k=0)(hp:s.p<B.length)(hs:s'.k=0→s.p<s'.p):YF B.length g w'<YF B.length g w:=by
 rw[Vu h,Vu h',Ai hk];split
 ·have:=hs zL;omega
 ·omega
def Uv(bound:Int)(out:List UInt8):Prop:=out=[]∨(out.length:Int)≤bound
theorem Sw{out:List UInt8}(h:Uv bound out)(hb: -9223372036854775808≤bound∧bound≤1048576):out.length≤1048576∧-9223372036854775808≤bound-(out.length:Int):=by
 rcases h with rfl | h
 ·simp;omega
 ·omega
theorem P9{out:List UInt8}(h:Uv bound out):Uv bound (C6 B bound s out).2:=by
 by_cases hk:(C6 B bound s out).1.k=0
 ·exact .inr (Il hk).2
 ·rw[Ut hk];exact h
set_option maxHeartbeats 12800000 in
theorem QU(w:World)(B:List UInt8)(a:Option Addr)(n c:Nat)(hl:Ah.r (·<w.heap.size) w [.slice a n c] B)(hB:B.length≤1000000000)(bound:Int)(hbd: -9223372036854775808≤bound∧bound≤1048576):
  Calls Tryz.prog 275 #[.slice a n c,.int .i64 bound] w fun r w'=>∃v,r=.returned (.tuple #[v,.agg #[.int .i64 (exB B bound).2.1,.int .i64 (exB B bound).2.2]])∧Ah.r (fun q=>w.heap.size≤q∧q<w'.heap.size) w' [v] (exB B bound).1∧Below w.heap.size w w':=by
 obtain⟨rfl,hm,hcc,hcm⟩:=AT hl;obtain⟨i0,hi,hz0,hz1,hz2⟩:=A3 DH;have hcap:Ah.r (·<w.heap.size) w [.slice a B.length B.length] B:=by
  obtain⟨a',c',e,h1,h2,h3⟩:=hl;simp at e;obtain⟨rfl,rfl⟩:=e;exact Bt rfl (An _) (by simp[maxLen];omega) h3
 have HL:=hid hl;have HCAP:=hid hcap;clear hl hcap;go_enter Tryz.func275,Tryz.ntmps275;go_wp2;refine Qm 1 0 zD
  (fun a' W=>∃(s:Rs) (out:List UInt8) (aO:Option Addr) (cO:Nat) (rest:Hid (exR B bound s out=exR B bound ⟨0,0,0⟩ [])) (u2 u3 u8 u9 u10 u11 u12 u13 u14 u15 u16 u17 u18 u19 u20 u21 u22 u23 u24 u25 u26 u27 u28 u29 u30 u31 u32 u33 u34 u35 u36 u37 u38 u39 u40 u41 u42 u43 u44 u45 u46 u47 u48 u49 u50 u51 u52 u53 u54 u55 u56 u57 u58 u59 u60 u61 u62 u63 u64 u65 u66 u67 u68 u69 u70:Value),M7 w W B a s out aO cO∧Uv bound out∧a'={tmps:=#[.slice a B.length c,.int .i64 bound,u2,u3,.slice none 0 0,.pointer (some ⟨w.heap.size,0,none⟩),.pointer (some ⟨w.heap.size+1,0,none⟩),.slice aO out.length cO,u8,u9,u10,u11,u12,u13,u14,u15,u16,u17,u18,u19,u20,u21,u22,u23,u24,u25,u26,u27,u28,u29,u30,u31,u32,u33,u34,u35,u36,u37,u38,u39,u40,u41,u42,u43,u44,u45,u46,u47,u48,u49,u50,u51,u52,u53,u54,u55,u56,u57,u58,u59,u60,u61,u62,u63,u64,u65,u66,u67,u68,u69,u70],defers:=[]})
  (fun a' W=>∃(s:Rs) (out:List UInt8) (aO:Option Addr) (cO:Nat) (rest:Hid (exR B bound ⟨0,0,0⟩ []=(s,out))) (u2 u3 u8 u9 u10 u11 u12 u13 u14 u15 u16 u17 u18 u19 u20 u21 u22 u23 u24 u25 u26 u27 u28 u29 u30 u31 u32 u33 u34 u35 u36 u37 u38 u39 u40 u41 u42 u43 u44 u45 u46 u47 u48 u49 u50 u51 u52 u53 u54 u55 u56 u57 u58 u59 u60 u61 u62 u63 u64 u65 u66 u67 u68 u69 u70:Value),M7 w W B a s out aO cO∧Uv bound out∧a'={tmps:=#[.slice a B.length c,.int .i64 bound,u2,u3,.slice none 0 0,.pointer (some ⟨w.heap.size,0,none⟩),.pointer (some ⟨w.heap.size+1,0,none⟩),.slice aO out.length cO,u8,u9,u10,u11,u12,u13,u14,u15,u16,u17,u18,u19,u20,u21,u22,u23,u24,u25,u26,u27,u28,u29,u30,u31,u32,u33,u34,u35,u36,u37,u38,u39,u40,u41,u42,u43,u44,u45,u46,u47,u48,u49,u50,u51,u52,u53,u54,u55,u56,u57,u58,u59,u60,u61,u62,u63,u64,u65,u66,u67,u68,u69,u70],defers:=[]})
  (fun _ W=>YF B.length (w.heap.size+1) W) rfl rfl ?_ ?_ ?_
 ·rintro a' W ⟨s,out,aO,cO,hex,u2,u3,u8,u9,u10,u11,u12,u13,u14,u15,u16,u17,u18,u19,u20,u21,u22,u23,u24,u25,u26,u27,u28,u29,u30,u31,u32,u33,u34,u35,u36,u37,u38,u39,u40,u41,u42,u43,u44,u45,u46,u47,u48,u49,u50,u51,u52,u53,u54,u55,u56,u57,u58,u59,u60,u61,u62,u63,u64,u65,u66,u67,u68,u69,u70,hI,hin,rfl⟩
  have hlen:=Sw hin hbd;have hok:=hI.rd.ok;have hpl:=hok.le;have HI:=hid hI;have HIN:=hid hin;have HLF:=hid (Nc W hI.rd);have hsz:=hI.sz;clear hI hin;by_cases hp:s.p<B.length
  ·have e0:(((B.length:Int)-(s.p:Int))==0)=false:=by rw[BW];omega
   by_cases hk:s.k=0
   ·have hgo:=Uu (bound:=bound) (out:=out) hok hp hk
    rw[hex.out] at hgo;have hmore:=Il (B:=B) (bound:=bound) (s:=s) (out:=out);have hin2:=hid (P9 (B:=B) (s:=s) HIN.out);have hst2:C6 B bound s out=C6 B bound s out:=rfl;conv at hst2=>rhs;unfold C6
    generalize C6 B bound s out=ES at*;have hhead:=hid (fun (W:World) (h:A6 W (w.heap.size+1) B a s)=>Tf W h zD);have hhok:=Rs.Jf (B:=B) hok;have hhle:(s.head B).2.2≤1048576:=by
     by_cases h0:(s.head B).1.k=0
     ·exact (Rs.L6 h0).2.2.2.2
     ·rw[(Rs.YA h0).2];omega
    have hh1:(s.head B).2.1=true→1≤((s.head B).1.offset B).2∨((s.head B).1.offset B).1.k≠0:=fun _=>by
     by_cases h0:((s.head B).1.offset B).1.k=0
     ·left;rw[(Rs.MG h0).2.2.2.1];omega
     ·right;exact h0
    have htake:=hid (fun (W:World) (h:A6 W (w.heap.size+1) B a (s.head B).1)=>Nb W h ((s.head B).2.2:Int) zD zD);have htl:((s.head B).1.take B ((s.head B).2.2:Int)).2.length≤1048576:=by
     by_cases h0:((s.head B).1.take B ((s.head B).2.2:Int)).1.k=0
     ·rw[(Rs.Ha h0).2.2];omega
     ·rw[Rs.Nw h0];simp
    have hoff:=hid (fun (W:World) (h:A6 W (w.heap.size+1) B a (s.head B).1)=>Qo W h zD);have hatp:=hid (fun (W:World) (h:A6 W (w.heap.size+1) B a (s.head B).1)=>Cv W h);have hfail:=hid (fun (W:World) (h:A6 W (w.heap.size+1) B a (s.head B).1)=>BP W h 11 s.p zD);have hfail2:=hid (fun (W:World) (h:A6 W (w.heap.size+1) B a ((s.head B).1.offset B).1)=>BP W h 10 (s.head B).1.p zD);have hfk:=(Rs.BE (s:=(s.head B).1) (c:=11) (at_:=(s.p:Int)) zD);have hfk2:=(Rs.BE (s:=((s.head B).1.offset B).1) (c:=10) (at_:=((s.head B).1.p:Int)) zD);generalize (s.head B).1.fail 11 s.p=F1 at*;generalize ((s.head B).1.offset B).1.fail 10 (s.head B).1.p=F2 at*;generalize (s.head B).1.take B ((s.head B).2.2:Int)=TK at*;generalize (s.head B).1.offset B=OF at*;generalize s.head B=H at*;obtain⟨s1,ic,m⟩:=H;obtain⟨s2,D⟩:=TK;obtain⟨s3,of⟩:=OF;dsimp only at*;have HK:=hid hk;have hG:=AL;have dk:decide (s.k=0)=true:=Ad hk;have HGO:=hid hgo;have HMORE:=hid hmore;have hpx:=hp;have HST2:=hid hst2;clear hk hgo hmore hst2 hG hok;by_cases hb1:bound-(out.length:Int)<(m:Int)
    ·have d1:decide (bound-(out.length:Int)<(m:Int))=true:=Ad hb1
     have hes:=HST2.out;rw[Ai hb1] at hes;subst hes;have HGO2:=hid (HGO.out.trans (Lq (fun e=>hfk e.2)));clear hb1 HST2;go_wp2_with fail;refine HLF.out.mono ?_;rintro r w1 ⟨rfl,hb1⟩;have hG:=AL w1 (HI.out.rd.later hb1);rw[dk] at hG;have HG:=hid hG;clear hG dk;go_wp2_with fail;refine HG.out.mono ?_;rintro r w2 ⟨rfl,hb2⟩;have HI2:=hid (HI.out.later (Af hb2 hb1));have HAT:=hid (Cv w2 HI2.out.rd);go_wp2_with fail;refine HAT.out.mono ?_;rintro r w2' ⟨rfl,rfl⟩;have HHD:=hid (hhead.out w2 HI2.out.rd);go_wp2_with fail;refine HHD.out.mono ?_;rintro r w3 ⟨rfl,hst3⟩;have HI3:=hid (HI2.out.step hst3);clear hst3;have HFL:=hid (hfail.out w3 HI3.out.rd);go_wp2_with fail;refine HFL.out.mono ?_;rintro r w4 ⟨rfl,hst4⟩;have HI4:=hid (HI3.out.step hst4);clear hst4;go_wp2;go_step3
     exact .inr ⟨rfl,F1,out,aO,cO,HGO2,_,_,_,_,_,_,_,_,_,_,_,_,_,_,_,_,_,_,_,_,_,_,_,_,_,_,_,_,_,_,_,_,_,_,_,_,_,_,_,_,_,_,_,_,_,_,_,_,_,_,_,_,_,_,_,_,_,_,_,_,_,_,_,_,_,HI4.out,HIN.out,rfl⟩
    ·have d1:decide (bound-(out.length:Int)<(m:Int))=false:=Ae hb1
     have hes:=HST2.out;rw[Ak hb1] at hes;clear HST2;cases ic
     ·simp only[Fx] at hes
      subst hes;clear hb1;go_wp2_with fail;refine HLF.out.mono ?_;rintro r w1 ⟨rfl,hb1⟩;have hG:=AL w1 (HI.out.rd.later hb1);rw[dk] at hG;have HG:=hid hG;clear hG dk;go_wp2_with fail;refine HG.out.mono ?_;rintro r w2 ⟨rfl,hb2⟩;have HI2:=hid (HI.out.later (Af hb2 hb1));have HAT:=hid (Cv w2 HI2.out.rd);go_wp2_with fail;refine HAT.out.mono ?_;rintro r w2' ⟨rfl,rfl⟩;have HHD:=hid (hhead.out w2 HI2.out.rd);go_wp2_with fail;refine HHD.out.mono ?_;rintro r w3 ⟨rfl,hst3⟩;have HI3:=hid (HI2.out.step hst3);clear hst3;have HTK:=hid (htake.out w3 HI3.out.rd);go_wp2_with fail;refine HTK.out.mono ?_;rintro r w4 ⟨v,rfl,hr,hst4⟩;obtain⟨aD,cD,hv,hr2,_⟩:=AN hr;simp only[As,AM] at hv;subst hv;have HI4:=hid (HI3.out.step hst4);have HS4:=hid (A8 hr2);have HONE:=hid (AI D);have hsz4:=HI4.out.sz;clear hst4 hr hr2;go_wp2_with (at_builtin;go_loud (refine Ar rfl _ _ _ rfl (w.heap.size+2) 5 i0 (.int .u8 0) 1 1 Au hi hz0 hz1 hz2 rfl zO (.slice aO out.length cO) out.length (byteCells out) rfl HI4.out.own aD D.length cD (byteCells D) rfl HS4.out HONE.out zK zD zD ?_;intro v' w5 hown5 hgrow5 hat5;obtain⟨a5,c5,rfl⟩:=AD hown5;have HO5:=hid hown5;have HG5:=hid hgrow5;clear hown5 hgrow5 hat5))
      have ho:=HO5.out;rw[OH,show out.length+D.length=(out++D).length by simp] at ho;have hb5:Below (w.heap.size+2) w4 w5:=Below.grown (Below.refl _ _) HG5.out zD (fun g e=>(HI4.out.own.lt g e).1);have HI5:=hid (HI4.out.row hb5 ho);clear ho hb5;rw[show out.length+D.length=(out++D).length by simp];go_step3
      exact .inl ⟨rfl,⟨s2,out++D,a5,c5,hid HGO.out.symm,_,_,_,_,_,_,_,_,_,_,_,_,_,_,_,_,_,_,_,_,_,_,_,_,_,_,_,_,_,_,_,_,_,_,_,_,_,_,_,_,_,_,_,_,_,_,_,_,_,_,_,_,_,_,_,_,_,_,_,_,_,_,_,_,_,HI5.out,hin2.out,rfl⟩,Ni HI.out.rd HI5.out.rd HK.out hpx (fun h=>(HMORE.out h).1)⟩
     ·simp only[Bool.true_eq_false,if_false] at hes
      by_cases h3:out.length<of
      ·have d3:decide ((out.length:Int)<(of:Int))=true:=Ad zD
       have d3':decide (out.length<of)=true:=Ad h3;rw[Ai h3] at hes;subst hes;clear hb1;go_wp2_with fail;refine HLF.out.mono ?_;rintro r w1 ⟨rfl,hb1⟩;have hG:=AL w1 (HI.out.rd.later hb1);rw[dk] at hG;have HG:=hid hG;clear hG dk;go_wp2_with fail;refine HG.out.mono ?_;rintro r w2 ⟨rfl,hb2⟩;have HI2:=hid (HI.out.later (Af hb2 hb1));have HAT:=hid (Cv w2 HI2.out.rd);go_wp2_with fail;refine HAT.out.mono ?_;rintro r w2' ⟨rfl,rfl⟩;have HHD:=hid (hhead.out w2 HI2.out.rd);go_wp2_with fail;refine HHD.out.mono ?_;rintro r w3 ⟨rfl,hst3⟩;have HI3:=hid (HI2.out.step hst3);clear hst3;have HATP:=hid (hatp.out w3 HI3.out.rd);go_wp2_with fail;refine HATP.out.mono ?_;rintro r w3' ⟨rfl,rfl⟩;have HOF:=hid (hoff.out w3 HI3.out.rd);go_wp2_with fail;refine HOF.out.mono ?_;rintro r w4 ⟨rfl,hst4⟩;have HI4:=hid (HI3.out.step hst4);clear hst4;have HFL:=hid (hfail2.out w4 HI4.out.rd);go_wp2_with fail;refine HFL.out.mono ?_;rintro r w5 ⟨rfl,hst5⟩;have HI5:=hid (HI4.out.step hst5);have hG5:=AL w5 HI5.out.rd;rw[Ae hfk2] at hG5;have HG5:=hid hG5;clear hst5 hG5;go_wp2_with fail;refine HG5.out.mono ?_;rintro r w6 ⟨rfl,hb6⟩;have HI6:=hid (HI5.out.later hb6);go_wp2;go_step3
       exact .inl ⟨rfl,⟨F2,out,aO,cO,hid HGO.out.symm,_,_,_,_,_,_,_,_,_,_,_,_,_,_,_,_,_,_,_,_,_,_,_,_,_,_,_,_,_,_,_,_,_,_,_,_,_,_,_,_,_,_,_,_,_,_,_,_,_,_,_,_,_,_,_,_,_,_,_,_,_,_,_,_,_,HI6.out,HIN.out,rfl⟩,Ni HI.out.rd HI6.out.rd HK.out hpx (fun h=>absurd h hfk2)⟩
      ·have d3:decide ((out.length:Int)<(of:Int))=false:=Ae zD
       have d3':decide (out.length<of)=false:=Ae h3;rw[Ak h3] at hes;by_cases h4:s3.k=0
       ·have d4:decide (s3.k=0)=true:=Ad h4
        rw[Ai h4] at hes;have hof1:1≤of:=by exact (hh1 rfl).elim id (absurd h4)
        subst hes;go_wp2_with fail;refine HLF.out.mono ?_;rintro r w1 ⟨rfl,hb1⟩;have hG:=AL w1 (HI.out.rd.later hb1);rw[dk] at hG;have HG:=hid hG;clear hG dk;go_wp2_with fail;refine HG.out.mono ?_;rintro r w2 ⟨rfl,hb2⟩;have HI2:=hid (HI.out.later (Af hb2 hb1));have HAT:=hid (Cv w2 HI2.out.rd);go_wp2_with fail;refine HAT.out.mono ?_;rintro r w2' ⟨rfl,rfl⟩;have HHD:=hid (hhead.out w2 HI2.out.rd);go_wp2_with fail;refine HHD.out.mono ?_;rintro r w3 ⟨rfl,hst3⟩;have HI3:=hid (HI2.out.step hst3);clear hst3;have HATP:=hid (hatp.out w3 HI3.out.rd);go_wp2_with fail;refine HATP.out.mono ?_;rintro r w3' ⟨rfl,rfl⟩;have HOF:=hid (hoff.out w3 HI3.out.rd);go_wp2_with fail;refine HOF.out.mono ?_;rintro r w4 ⟨rfl,hst4⟩;have HI4:=hid (HI3.out.step hst4);clear hst4;have hG5:=AL w4 HI4.out.rd;rw[d4] at hG5;have HG5:=hid hG5;clear hG5 d4;go_wp2_with fail;refine HG5.out.mono ?_;rintro r w6 ⟨rfl,hb6⟩;have HI6:=hid (HI4.out.later hb6);have HAG:=hid (QV w6 out HI6.out.own HI6.out.sz of m hof1 zD zD);have HAL:=hid (KO of m out);have HIN2:=hid hin2.out;clear hb1;go_wp2_with fail;refine HAG.out.mono ?_;rintro r w7 ⟨a7,c7,rfl,hown7,hb7⟩;rw[←HAL.out] at hown7;have HI7:=hid (HI6.out.row hb7 hown7);clear hown7;go_wp2;rw[←HAL.out];go_step3
        exact .inl ⟨rfl,⟨s3,_,a7,c7,hid HGO.out.symm,_,_,_,_,_,_,_,_,_,_,_,_,_,_,_,_,_,_,_,_,_,_,_,_,_,_,_,_,_,_,_,_,_,_,_,_,_,_,_,_,_,_,_,_,_,_,_,_,_,_,_,_,_,_,_,_,_,_,_,_,_,_,_,_,_,HI7.out,HIN2.out,rfl⟩,Ni HI.out.rd HI7.out.rd HK.out hpx (fun h=>(HMORE.out h).1)⟩
       ·have d4:decide (s3.k=0)=false:=Ae h4
        rw[Ak h4] at hes;subst hes;clear hb1;go_wp2_with fail;refine HLF.out.mono ?_;rintro r w1 ⟨rfl,hb1⟩;have hG:=AL w1 (HI.out.rd.later hb1);rw[dk] at hG;have HG:=hid hG;clear hG dk;go_wp2_with fail;refine HG.out.mono ?_;rintro r w2 ⟨rfl,hb2⟩;have HI2:=hid (HI.out.later (Af hb2 hb1));have HAT:=hid (Cv w2 HI2.out.rd);go_wp2_with fail;refine HAT.out.mono ?_;rintro r w2' ⟨rfl,rfl⟩;have HHD:=hid (hhead.out w2 HI2.out.rd);go_wp2_with fail;refine HHD.out.mono ?_;rintro r w3 ⟨rfl,hst3⟩;have HI3:=hid (HI2.out.step hst3);clear hst3;have HATP:=hid (hatp.out w3 HI3.out.rd);go_wp2_with fail;refine HATP.out.mono ?_;rintro r w3' ⟨rfl,rfl⟩;have HOF:=hid (hoff.out w3 HI3.out.rd);go_wp2_with fail;refine HOF.out.mono ?_;rintro r w4 ⟨rfl,hst4⟩;have HI4:=hid (HI3.out.step hst4);clear hst4;have hG5:=AL w4 HI4.out.rd;rw[d4] at hG5;have HG5:=hid hG5;clear hG5 d4;go_wp2_with fail;refine HG5.out.mono ?_;rintro r w6 ⟨rfl,hb6⟩;have HI6:=hid (HI4.out.later hb6);go_wp2;go_step3
        exact .inl ⟨rfl,⟨s3,out,aO,cO,hid HGO.out.symm,_,_,_,_,_,_,_,_,_,_,_,_,_,_,_,_,_,_,_,_,_,_,_,_,_,_,_,_,_,_,_,_,_,_,_,_,_,_,_,_,_,_,_,_,_,_,_,_,_,_,_,_,_,_,_,_,_,_,_,_,_,_,_,_,_,HI6.out,HIN.out,rfl⟩,Ni HI.out.rd HI6.out.rd HK.out hpx (fun h=>absurd h h4)⟩
   ·have dk:decide (s.k=0)=false:=Ae hk
    have hst:=Lq (bound:=bound) (out:=out) (fun e=>hk e.2:¬(s.p<B.length∧s.k=0));have HEX:=hid (hex.out.symm.trans hst);clear hk hst hex;go_wp2_with fail;refine HLF.out.mono ?_;rintro r w1 ⟨rfl,hb1⟩;have hG:=AL w1 (HI.out.rd.later hb1);rw[dk] at hG;have HG:=hid hG;clear hG dk;go_wp2_with fail;refine HG.out.mono ?_;rintro r w2 ⟨rfl,hb2⟩;have HI2:=hid (HI.out.later (Af hb2 hb1));go_wp2;go_step3
    exact .inr ⟨rfl,s,out,aO,cO,HEX,_,_,_,_,_,_,_,_,_,_,_,_,_,_,_,_,_,_,_,_,_,_,_,_,_,_,_,_,_,_,_,_,_,_,_,_,_,_,_,_,_,_,_,_,_,_,_,_,_,_,_,_,_,_,_,_,_,_,_,_,_,_,_,_,_,HI2.out,HIN.out,rfl⟩
  ·have e0:(((B.length:Int)-(s.p:Int))==0)=true:=by rw[beq_iff_eq];omega
   have hst:=Lq (bound:=bound) (out:=out) (fun e=>hp e.1:¬(s.p<B.length∧s.k=0));have HEX:=hid (hex.out.symm.trans hst);clear hst hex;go_wp2_with fail;refine HLF.out.mono ?_;rintro r w1 ⟨rfl,hb1⟩;have HI2:=hid (HI.out.later hb1);go_wp2;go_step3
   exact .inr ⟨rfl,s,out,aO,cO,HEX,_,_,_,_,_,_,_,_,_,_,_,_,_,_,_,_,_,_,_,_,_,_,_,_,_,_,_,_,_,_,_,_,_,_,_,_,_,_,_,_,_,_,_,_,_,_,_,_,_,_,_,_,_,_,_,_,_,_,_,_,_,_,_,_,_,HI2.out,HIN.out,rfl⟩
 ·rintro a' W ⟨s,out,aO,cO,hex,u2,u3,u8,u9,u10,u11,u12,u13,u14,u15,u16,u17,u18,u19,u20,u21,u22,u23,u24,u25,u26,u27,u28,u29,u30,u31,u32,u33,u34,u35,u36,u37,u38,u39,u40,u41,u42,u43,u44,u45,u46,u47,u48,u49,u50,u51,u52,u53,u54,u55,u56,u57,u58,u59,u60,u61,u62,u63,u64,u65,u66,u67,u68,u69,u70,hI,hin,rfl⟩
  have HI:=hid hI;have HFA:=hid (Hk W hI.rd);have hsz:=hI.sz;have hle:=Sw hin hbd;have hex2:=YJ B bound;rw[hex.out] at hex2;dsimp only at hex2;clear hin hI hex;by_cases hk:s.k=0
  ·rw[Ai hk] at hex2
   have HX:=hid hex2;have dk:decide (s.k=0)=true:=Ad hk;have HK:=hid hk;clear hk hex2;go_wp2_with fail;refine HFA.out.mono ?_;rintro r w1 ⟨rfl,hb1⟩;have hG:=CX (w1.alloc (.cells #[.int .i64 s.k,.int .i64 s.f] 65)) s.k s.f;rw[dk] at hG;have HG:=hid hG;clear hG dk;go_wp2_with fail;refine HG.out.mono ?_;rintro r w2 ⟨rfl,hb2⟩;have hb12:Below W.heap.size W w2:=Af hb2 (AH hb1 _);have HI2:=hid (HI.out.later hb12);have hfl:=HI2.out.fl;obtain⟨y0,y1,g0,g1,l1⟩:=B6 hfl;have hV:=Cg rfl HI2.out.own;have HV:=hid hV;clear hfl hV;go_wp2;simp only[Le];refine Al (v:=.tuple #[.slice aO out.length cO,.agg #[.int .i64 0,.int .i64 0]]) zCl rfl ⟨_,by rw[HX.out],?_,?_⟩
   ·rw[HX.out]
    refine Ah.mono (Ah.keep HV.out fun q hq=> ?_) fun q hq=>⟨zD,zA1⟩;repeat (rw[AB _ _ _ _ zJ])
   ·have hbe:=HI2.out.be
    (repeat (first | with_reducible exact Below.refl _ _ | with_reducible assumption | (with_reducible refine AH ?_ _) | (with_reducible refine Below.setCell ?_ zF _) | (with_reducible refine Below.drew ?_) | (with_reducible refine below_drewN ?_ _) | (refine Af zG ?_)))
  ·rw[Ak hk] at hex2
   have HX:=hid hex2;have dk:decide (s.k=0)=false:=Ae hk;have HK:=hid hk;clear hk hex2;go_wp2_with fail;refine HFA.out.mono ?_;rintro r w1 ⟨rfl,hb1⟩;have hG:=CX (w1.alloc (.cells #[.int .i64 s.k,.int .i64 s.f] 65)) s.k s.f;rw[dk] at hG;have HG:=hid hG;clear hG dk;go_wp2_with fail;refine HG.out.mono ?_;rintro r w2 ⟨rfl,hb2⟩;have hb12:Below W.heap.size W w2:=Af hb2 (AH hb1 _);have HI2:=hid (HI.out.later hb12);have hfl:=HI2.out.fl;obtain⟨y0,y1,g0,g1,l1⟩:=B6 hfl;obtain⟨z0,z1,e0,e1,l2⟩:=B6 (Blk.later (Blk.newAt _ _ _ rfl) hb2);have hbe:=HI2.out.be;clear hfl;go_wp2_with fail;go_region
   all_goals
    go_wp2;simp only[Le];refine Al (v:=.tuple #[.slice none 0 0,.agg #[.int .i64 s.k,.int .i64 s.f]]) zCl rfl ⟨_,by rw[HX.out],by rw[HX.out];exact Cj rfl rfl (by omega),?_⟩
    (repeat (first | with_reducible exact Below.refl _ _ | with_reducible assumption | (with_reducible refine AH ?_ _) | (with_reducible refine Below.setCell ?_ zF _) | (with_reducible refine Below.drew ?_) | (with_reducible refine below_drewN ?_ _) | (refine Af zG ?_)))
 ·intro K hK
  have HN:=hid (NW (w.alloc (.cells #[.int .i64 0,.int .i64 0] 65)) B a _ c (lift HL.out zA));go_wp2_with fail;refine HN.out.mono ?_;rintro r w1 ⟨rfl,hrd,hb⟩;have hI:M7 w w1 B a ⟨0,0,0⟩ [] none 0:=⟨by simpa using hrd,Ah.keep HCAP.out fun q hq=>(hb.block q zH).trans (Bx _ _ q hq),Blk.later zC hb,⟨rfl,.inl ⟨rfl,rfl⟩⟩,zA,by have:=hrd.blk.lt;simp at this;omega⟩;have HI:=hid hI;clear hI hrd hb;go_wp2;go_step3
  rename_i hkk
  exact hkk _ _ (hK _ _ ⟨⟨0,0,0⟩,[],none,0,hid rfl,_,_,_,_,_,_,_,_,_,_,_,_,_,_,_,_,_,_,_,_,_,_,_,_,_,_,_,_,_,_,_,_,_,_,_,_,_,_,_,_,_,_,_,_,_,_,_,_,_,_,_,_,_,_,_,_,_,_,_,_,_,_,_,_,_,HI.out,.inl rfl,rfl⟩)
open Go.RowKit Go.Bs
theorem Km:Tryz.prog.cellsOf 36=1:=zI
theorem AaY:Tryz.prog.cellsOf 22=1:=zI
theorem YS:Tryz.prog.cellsOf 37=1:=zI
theorem AaX:Tryz.prog.cellsOf 38=1:=zI
theorem JC:FY Tryz.prog 36 (GZ .u64):=PB Tryz.underlying36
theorem Vk:FY Tryz.prog 22 Ah:=FJ (sz:=1) Au zI zO (T2 Tryz.underlying5)
theorem T3:FY Tryz.prog 37 Bb:=FJ (sz:=1) C7 zI zO JC
theorem Fq{H:Type}{enc:TypeId × Value→H}{P:Program}{cs:List Value}{n:Nat}{fs:Array Field}(h:∀(i:Nat) (f:Field),fs[i]? =some f→∃y,DataW.trod enc P w 0 (fun _=>true) true n f.type ((cs.drop f.offset).take (P.cellsOf f.type))=some y)
 {α:Type} {A:Rp α} {t:TypeId} (hA:FY P t A) (i:Nat) (f:Field) (o:Nat) (hf:fs[i]? =some f) (ht:f.type=t) (ho:f.offset=o) (hs:P.cellsOf t=1):∃x,A.r (·<w.heap.size) w ((cs.drop o).take 1) x:=by
 obtain⟨y,hy⟩:=h i f hf;rw[ht,ho,hs] at hy;exact hA enc w n _ _ hy
theorem Aby:FY Tryz.prog 215 ME:=fun enc w fuel cs x h=>by
 obtain⟨hl,n,hf⟩:=Gv Tryz.underlying215 h;have hl2:cs.length=2:=hl.trans zI;obtain⟨x0,r0⟩:=Fq hf JC 0 _ 0 rfl rfl rfl Km;obtain⟨x1,r1⟩:=Fq hf T3 1 _ 1 rfl rfl rfl YS;exact⟨⟨x0,x1⟩,zAo⟩
theorem AaB:FY Tryz.prog 38 Cm:=FJ (sz:=2) Tryz.underlying38 zI zO Aby
structure Jp(w wr:World)(N0 N1 gs g mb base:Nat)(b:List UInt8)(sa:Option Addr)(sc:Nat)(ab:Option Addr)(cb:Nat)(a:Option Addr)(c:Nat)(p i nn:Nat)(av:Option Addr)(cv:Nat)(ap:Option Addr)(cp:Nat)(L:List Tok)(cells:List (List Value)):Prop where
 pb:p≤b.length
 ip:i≤p
 np:nn≤p
 bb:Blk wr w.heap.size 22 #[.slice a b.length c]
 bo:Blk wr (w.heap.size+1) 337 #[.slice av L.length cv]
 bf:Blk wr (w.heap.size+2) 3 #[.int .i64 (i:Int)]
 own:AY (fun q=>N1≤q∧q<wr.heap.size∧(Value.slice ap nn cp).ownBlock≠some q) IC N1 304 3 wr (.slice av L.length cv) L cells
 sk:JO wr gs g mb base N0 N1 b nn sa sc ab cb ap cp
 apart:∀q,(Value.slice av L.length cv).ownBlock=some q→(Value.slice ap nn cp).ownBlock≠some q
 len:L.length≤p
 toks:L++Kc b p i=Ex b
 below:Below w.heap.size w wr
 n0:N0=w.heap.size+3
 n1:N0≤gs∧gs<N1∧N0≤g∧g<N1∧N0≤mb∧mb<N1∧N0≤base
theorem Jp.top{wr:World}{N0 N1:Nat}{nn:Nat}{av:Option Addr}{cv:Nat}{L:List Tok}{cells:List (List Value)}
 (h:Jp w wr N0 N1 gs g mb base b sa sc ab cb a c p i nn av cv ap cp L cells):N1≤wr.heap.size:=h.sk.top
theorem Jp.Acm{wr:World}{N0 N1:Nat}{nn m:Nat}{av:Option Addr}{cv:Nat}{L:List Tok}{cells:List (List Value)}
 (h:Jp w wr N0 N1 gs g mb base b sa sc ab cb a c p i nn av cv ap cp L cells) (hs:Re wr gs g mb base N0 N1 b nn m sa sc ab cb ap cp w1) (hm:m≤p):
  ∃ap' cp',Jp w w1 N0 N1 gs g mb base b sa sc ab cb a c p i m av cv ap' cp' L cells:=by
 obtain⟨ap',cp',h1,h2,h3⟩:=hs;have htop:=h.top;have hn0:=h.n0;obtain⟨k1,k2,k3,k4,k5,k6,k7⟩:=h.n1;have hsz:=h2.size;have hapb:∀q,(Value.slice ap nn cp).ownBlock=some q→N0≤q∧q<wr.heap.size:=fun q hq=>by
  have:=h.sk.ch.prev.lt q hq;exact⟨zD,this.2⟩
 have hlow:∀q,q<N0→¬(q=gs∨q=g∨q=mb∨(Value.slice ap nn cp).ownBlock=some q):=fun q hq e=>by
  rcases e with e | e | e | e
  ·omega
  ·omega
  ·omega
  ·have:=(hapb q e).1;omega
 have hav:=fun q (hq:(Value.slice av L.length cv).ownBlock=some q)=>h.own.1.lt q hq;have hnew:∀q,q<wr.heap.size→(Value.slice ap nn cp).ownBlock≠some q→(Value.slice ap' m cp').ownBlock≠some q:=fun q hq hne e=>by
  rcases h3 with h3 | ⟨q',hq',hlt⟩
  ·rw[h3] at e;exact hne e
  ·rw[hq'] at e;have:=A7 e;omega
 refine⟨ap',cp',⟨h.pb,h.ip,hm,h.bb.tch h2 (hlow _ zD),h.bo.tch h2 (hlow _ zD),h.bf.tch h2 (hlow _ zD),?_,h1,fun q hq=>hnew q (hav q hq).2 (h.apart q hq),h.len,h.toks,h.below.trans (h2.Cw zD fun q hq e=> ?_),h.n0,h.n1⟩⟩
 ·refine (h.own.keep (w':=w1) (fun q hq=>h2.block q hq.2.1 (fun e=> ?_)) (fun q hq=>h2.block q (hav q hq).2 (fun e=> ?_))).mono fun q hq=>⟨hq.1,zD,hnew q hq.2.1 hq.2.2⟩
  ·rcases e with e | e | e | e
   ·omega
   ·omega
   ·omega
   ·exact hq.2.2 e
  ·have:=(hav q hq).1
   rcases e with e | e | e | e
   ·omega
   ·omega
   ·omega
   ·exact h.apart q hq e
 ·by_cases hq0:q<N0
  ·exact absurd e (hlow q hq0)
  ·omega
theorem Jp.out{w wr w1:World}{N0 N1:Nat}{nn:Nat}{av:Option Addr}{cv:Nat}{ap:Option Addr}{cp:Nat}{L:List Tok}{cells:List (List Value)}
 (h:Jp w wr N0 N1 gs g mb base b sa sc ab cb a c p i nn av cv ap cp L cells) {p' i':Nat} {av':Option Addr} {cv':Nat} {L':List Tok} {cells':List (List Value)} (hp:p'≤b.length) (hi:i'≤p') (hn:nn≤p')
 (hf:Blk w1 (w.heap.size+2) 3 #[.int .i64 (i':Int)]) (ho:Blk w1 (w.heap.size+1) 337 #[.slice av' L'.length cv'])
 (hown:AY (fun q=>(N1≤q∧q<wr.heap.size∧(Value.slice ap nn cp).ownBlock≠some q)∨(wr.heap.size≤q∧q<w1.heap.size)) IC N1 304 3 w1 (.slice av' L'.length cv') L' cells')
 (ht:Tch (fun q=>q=w.heap.size+1∨q=w.heap.size+2∨(Value.slice av L.length cv).ownBlock=some q) wr w1) (hat:(Value.slice av' L'.length cv').ownBlock=(Value.slice av L.length cv).ownBlock∨∃q,(Value.slice av' L'.length cv').ownBlock=some q∧wr.heap.size≤q)
 (hlen:L'.length≤p') (htok:L'++Kc b p' i'=Ex b):Jp w w1 N0 N1 gs g mb base b sa sc ab cb a c p' i' nn av' cv' ap cp L' cells':=by
 have htop:=h.top;have hn0:=h.n0;obtain⟨k1,k2,k3,k4,k5,k6,k7⟩:=h.n1;have hsz:=ht.size;have hapb:∀q,(Value.slice ap nn cp).ownBlock=some q→N0≤q∧q<wr.heap.size:=fun q hq=>by
  have:=h.sk.ch.prev.lt q hq;exact⟨zD,this.2⟩
 have hav:=fun q (hq:(Value.slice av L.length cv).ownBlock=some q)=>h.own.1.lt q hq;have hmid:∀q,N0≤q→q<N1→¬(q=w.heap.size+1∨q=w.heap.size+2∨(Value.slice av L.length cv).ownBlock=some q):=fun q h1 h2 e=>by
  rcases e with e | e | e
  ·omega
  ·omega
  ·have:=(hav q e).1;omega
 obtain⟨t,hgs⟩:=h.sk.blk;refine⟨hp,hi,hn,h.bb.tch ht (fun e=> ?_),ho,hf,hown.mono fun q hq=> ?_,h.sk.tch ht (hmid g k3 k4) (hmid mb k5 k6) (fun q hq e=> ?_) (fun q h1 h2 _=>hmid q h1 h2) ⟨t,hgs.tch ht (hmid gs k1 k2)⟩,fun q hq e=> ?_,hlen,htok,h.below.trans (ht.Cw h.below.size fun q hq e=> ?_),h.n0,h.n1⟩
 ·rcases e with e | e | e
  ·omega
  ·omega
  ·have:=(hav _ e).1;omega
 ·rcases hq with hq | hq
  ·exact⟨hq.1,zD,hq.2.2⟩
  ·exact⟨zD,hq.2,fun e=>by have:=(hapb q e).2;omega⟩
 ·rcases e with e | e | e
  ·have:=(hapb q hq).1;omega
  ·have:=(hapb q hq).1;omega
  ·exact h.apart q e hq
 ·rcases hat with hat | ⟨q',hq',hlt⟩
  ·rw[hat] at hq;exact h.apart q hq e
  ·rw[hq'] at hq;have:=A7 hq;have:=(hapb q e).2;omega
 ·rcases e with e | e | e
  ·omega
  ·omega
  ·have:=(hav q e).1;omega
def VG(w:World)(L:List Tok)(r:Ending)(w':World):Prop:=∃v,r=.returned (.tuple #[v,.int .i64 0])∧MD.r (fun q=>w.heap.size≤q∧q<w'.heap.size) w' [v] L∧Below w.heap.size w w'
theorem QI(w:World)(b:List UInt8)(a:Option Addr)(n c:Nat)(hl:Ah.r (·<w.heap.size) w [.slice a n c] b)(hlen:b.length≤1048576):
  Calls Tryz.prog 367 #[.slice a n c] w (VG w (Ex b)):=by
 obtain⟨rfl,hm,_,_⟩:=AT hl;obtain⟨j0,hj0,hy0,hy1,hy2⟩:=A3 QR;have HL:=hid hl;clear hl;have d1:decide ((1048576:Int)<(b.length:Int))=false:=zH;go_enter Tryz.func367,Tryz.ntmps367;go_wp2_with fail;refine (Xx _ b _ _ _ (lift HL.out zB) hlen).mono ?_;rintro r w1 ⟨gs,g,mb,base,sa,sc,ab,cb,rfl,hsk,hb1,q1,q2,q3,q4⟩;have hz1:w.heap.size+3≤w1.heap.size:=zBt;simp only[World.size_alloc] at q1 q2 q3 q4;have hmlt:mb<w1.heap.size:=by obtain⟨D,hD,_⟩:=hsk.ch.map;exact hD.lt
 have hat0:Jp w w1 (w.heap.size+3) w1.heap.size gs g mb base b sa sc ab cb a c 0 0 0 none 0 none 0 [] []:=by
  refine⟨Am _,An _,An _,Blk.later zC hb1,Blk.later zC hb1,Blk.later zC hb1,AY.nil,?_,fun q hq=>by simp[Value.ownBlock] at hq,Am _,?_,zB,rfl,⟨zD,hsk.blk.choose_spec.lt,zD,hsk.ch.blk.lt,zD,hmlt,zD⟩⟩
  ·simpa using hsk
  ·rfl
 have H0:=hid hat0;clear hat0 hsk q1 q2 q3 q4 hmlt;generalize hN1:w1.heap.size=N1 at*;have HN1:=hid hN1;clear hN1;go_wp2_with fail;go_loopw [8] (fun i wr=>∃(p i0 nn:Nat) (av:Option Addr) (cv:Nat) (ap:Option Addr) (cp:Nat) (L:List Tok) (cells:List (List Value)),i=.int .i64 p∧Hid (Jp w wr (w.heap.size+3) N1 gs g mb base b sa sc ab cb a c p i0 nn av cv ap cp L cells)) (fun i _=>b.length-(intOf i).toNat)
 case atStart=>exact ⟨0,0,0,none,0,none,0,[],[],rfl,H0⟩
 case round=>
  obtain⟨p,i,nn,av,cv,ap,cp,L,cells,rfl,hT⟩:=hrel;clear H0;have hpb:=hT.out.pb;have hip:=hT.out.ip;have cb0:wr.cell? ⟨w.heap.size,0,none⟩=some (.slice a b.length c):=hT.out.bb.cell 0;by_cases hlt:p<b.length
  ·have hB:=hid (VZ wr hT.out.sk hT.out.np hlt)
   have hbr:=Ji b p;have htn:=hid (fun h=>Td (b:=b) (p:=p) (i:=i) hlt h);have hts:=hid (fun h=>Tc (b:=b) (p:=p) (i:=i) hlt h);have hfc:=hid (FM b p);have dlt:decide ((p:Int)<(b.length:Int))=true:=zH;generalize hbb:Ck b p=bb at*;obtain⟨o,m⟩:=bb;have HBB:=hid hbb;clear hbb;simp only at hbr;go_wp2_with fail;refine hB.out.mono ?_;rintro r w2 ⟨hr,hst⟩;rw[HBB.out] at hr;subst hr;obtain⟨ap2,cp2,hT2⟩:=hT.out.Acm hst (An _);have HT2:=hid hT2;clear hst hT2;by_cases hm0:m=0
   ·have e1:((m:Int)==0)=true:=by simp;omega
    have HT3:=hid (show Jp w w2 (w.heap.size+3) N1 gs g mb base b sa sc ab cb a c (p+1) i p av cv ap2 cp2 L cells from {HT2.out with pb:=zD,ip:=zD,np:=zD,len:=by have:=HT2.out.len;omega,toks:=by rw[←htn.out hm0];exact HT2.out.toks});clear hm0;go_wp2_with fail;go_roundw
    case rel=>exact ⟨p+1,i,p,av,cv,ap2,cp2,L,cells,zV,HT3⟩
    case measure=>simp [intOf];omega
   ·have e1:((m:Int)==0)=false:=by simp;omega
    have hm4:4≤m∧o≤p:=by
     rcases hfc.out with h | ⟨o',m',h,h1,h2,h3,_⟩
     ·simp only[CR] at h;omega
     ·simp only[CR] at h
      unfold reach at h2;omega
    have htop:=HT2.out.top;have hn0:=HT2.out.n1;have hav:=fun q (hq:(Value.slice av L.length cv).ownBlock=some q)=>HT2.out.own.1.lt q hq;have hRun:=Pw w2 (to:=p) HT2.out.bf HT2.out.bo HT2.out.bb (Ah.mono (Ah.keep HL.out fun q hq=>HT2.out.below.block q hq) fun q hq=>Aj hq HT2.out.below.size) HT2.out.own (fun q hq=>hq.2.1) (fun hq=>zY) (fun e=>zAb) ⟨zD,zD,fun e=>zAb,fun e=>zAb⟩ zD hlen (by have:=HT2.out.len;omega) htop;have HRun:=hid hRun;clear hRun;have HM0:=hid hm0;clear hm0;go_wp2_with fail;refine HRun.out.mono ?_;rintro r w3 ⟨rfl,av3,cv3,cells3,hbo3,hown3,ht3,hat3⟩;have hLL:(L++EV b i p).length≤p+1:=by
     have h1:=HT2.out.len;unfold EV;split<;>simp<;>omega
    have HHBO:=hid hbo3;have o1:w3.cell? ⟨w.heap.size+1,0,none⟩=some (.slice av3 (L++EV b i p).length cv3):=hbo3.cell 0;have o2:=hbo3.free 0;have l1:=hbo3.lt;have HB3:=hid (HT2.out.bf.tch ht3 (fun e=>by
     rcases e with e | e
     ·omega
     ·have:=(hav _ e).1;omega))
    have l2:=HB3.out.lt;have hz3:N1≤w3.heap.size:=A4 htop ht3.size;have hav3:=fun q (hq:(Value.slice av3 (L++EV b i p).length cv3).ownBlock=some q)=>hown3.1.lt q hq;generalize hL3:L++EV b i p=L3 at*;have HL3:=hid hL3;have HO3:=hid hown3;have HT3:=hid ht3;have HAT3:=hid hat3;have HAV3:=hid hav3;have HAV:=hid hav;clear hL3 hown3 ht3 hat3 hbo3 hav3 hav;have f3:=HB3.out.free 0;go_wp2_with (at_builtin;go_loud (refine Ar rfl _ _ _ rfl N1 304 j0 (.agg #[.slice none 0 0,.int .i64 0,.int .i64 0]) 3 40 Tryz.underlying337 hj0 hy0 hy1 hy2 rfl zO (.slice av3 L3.length cv3) L3.length cells3.flatten rfl (AF HO3.out.1 zB) (some ⟨w3.heap.size,0,none⟩) 1 1 [.slice none 0 0,.int .i64 (o:Int),.int .i64 (m:Int)] rfl (By w3 304 _ rfl rfl rfl) (by intro u hu;simp at hu;rcases hu with rfl | rfl | rfl<;>rfl) zK zD zH ?_;intro v8 w8 hown8 hgrow8 hat8;obtain⟨a8,c8,rfl⟩:=AD hown8;have G:=fun b' (hb:b'<w3.heap.size) (hne:(Value.slice av3 L3.length cv3).ownBlock≠some b')=>(hgrow8.block b' zH (fun e=>hne e.symm)).trans (Bx w3 _ b' hb);have n1:(Value.slice av3 L3.length cv3).ownBlock≠some (w.heap.size+1):=fun e=>by {have:=(HAV3.out _ e).1;omega};have n2:(Value.slice av3 L3.length cv3).ownBlock≠some (w.heap.size+2):=fun e=>by {have:=(HAV3.out _ e).1;omega};have m1:=(Bn (a:=⟨w.heap.size+1,0,none⟩) (G _ l1 n1)).trans o1;have m2:=(CT (a:=⟨w.heap.size+1,0,none⟩) (G _ l1 n1)).trans o2;have m3:w.heap.size+1<w8.heap.size:=Aj l1 (A4 zN hgrow8.size);have m4:=(CT (a:=⟨w.heap.size+2,0,none⟩) (G _ l2 n2)).trans f3;have m6:=(Bn (a:=⟨w.heap.size+2,0,none⟩) (G _ l2 n2)).trans (HB3.out.cell 0);have m5:w.heap.size+2<w8.heap.size:=Aj l2 (A4 zN hgrow8.size);have HG8:=hid hgrow8;have HO8:=hid hown8;have HA8:=hid hat8;have HGG:=hid G;clear hgrow8 hown8 hat8 G))
    have hOF:=(HO3.out.keep (w':=w3.alloc (.cells #[.slice none 0 0,.int .i64 (o:Int),.int .i64 (m:Int)] 304)) (fun q hq=>Bx w3 _ q (by
     have hs3:=HT3.out.size;rcases hq with h | h
     ·omega
     ·omega)) (fun q hq=>Bx w3 _ q (HAV3.out q hq).2))
    have hx:IC.r (fun q=>((N1≤q∧q<w2.heap.size∧(Value.slice ap2 p cp2).ownBlock≠some q)∨(w2.heap.size≤q∧q<w3.heap.size))∧(Value.slice av3 L3.length cv3).ownBlock≠some q) (w3.alloc (.cells #[.slice none 0 0,.int .i64 (o:Int),.int .i64 (m:Int)] 304)) [.slice none 0 0,.int .i64 (o:Int),.int .i64 (m:Int)] ⟨[],o,m⟩:=
     Qp (x:=⟨[],o,m⟩) (Bt rfl (An _) (Am _) (.inl rfl)) zH zH
    have OPU:=AY.push hOF (fun q hq=>by
     have hs3:=HT3.out.size;rcases hq with h | h
     ·simp;omega
     ·simp;omega) rfl hx HO8.out HG8.out HA8.out
    have hs8:=HG8.out.size;simp only[World.size_alloc] at hs8;have hs3:=HT3.out.size;have hnew8:∀q,q<N1→(Value.slice a8 (L3.length+1) c8).ownBlock≠some q:=fun q hq e=>by
     have:=(HO8.out.lt q e).1;omega
    have hll:(L3++[(⟨[],o,m⟩:Tok)]).length=L3.length+1:=zN;have hsz:((w8.setCell ⟨w.heap.size+1,0,none⟩ (.slice a8 (L3.length+1) c8)).setCell ⟨w.heap.size+2,0,none⟩ (.int .i64 ((p:Int)+(m:Int)))).heap.size=w8.heap.size:=ZK;have keep9:∀q,q≠w.heap.size+1→q≠w.heap.size+2→((w8.setCell ⟨w.heap.size+1,0,none⟩ (.slice a8 (L3.length+1) c8)).setCell ⟨w.heap.size+2,0,none⟩ (.int .i64 ((p:Int)+(m:Int)))).heap[q]? =w8.heap[q]? :=fun q k1 k2=>(AB _ _ _ _ k2).trans (AB _ _ _ _ k1);have OP9:=(OPU.keep (w':=(w8.setCell ⟨w.heap.size+1,0,none⟩ (.slice a8 (L3.length+1) c8)).setCell ⟨w.heap.size+2,0,none⟩ (.int .i64 ((p:Int)+(m:Int)))) (fun q hq=>keep9 q (by rcases hq with h | h<;>omega) (by rcases hq with h | h<;>omega)) (fun q hq=>keep9 q (fun e=>hnew8 q zD hq) (fun e=>hnew8 q zD hq))).mono (F':=fun q=>(N1≤q∧q<w2.heap.size∧(Value.slice ap2 p cp2).ownBlock≠some q)∨(w2.heap.size≤q∧q<((w8.setCell ⟨w.heap.size+1,0,none⟩ (.slice a8 (L3.length+1) c8)).setCell ⟨w.heap.size+2,0,none⟩ (.int .i64 ((p:Int)+(m:Int)))).heap.size)) (fun q hq=>by
     rw[hsz];rcases hq with h | h
     ·exact .inl h
     ·exact .inr ⟨h.1,zD⟩)
    have hbo8:Blk w8 (w.heap.size+1) 337 #[.slice av3 L3.length cv3]:=(HGG.out _ l1 n1).trans HHBO.out;have hbf8:Blk w8 (w.heap.size+2) 3 #[.int .i64 (i:Int)]:=(HGG.out _ l2 n2).trans HB3.out;have hfin:Jp w ((w8.setCell ⟨w.heap.size+1,0,none⟩ (.slice a8 (L3.length+1) c8)).setCell ⟨w.heap.size+2,0,none⟩ (.int .i64 ((p:Int)+(m:Int)))) (w.heap.size+3) N1 gs g mb base b sa sc ab cb a c (p+m) (p+m) p a8 c8 ap2 cp2 (L3++[⟨[],o,m⟩]) (cells3++[[.slice none 0 0,.int .i64 (o:Int),.int .i64 (m:Int)]]):=by
     refine HT2.out.out zD (An _) zD ?_ ?_ (by rw[hll];exact OP9) ?_ ?_ (by rw[hll];omega) ?_
     ·exact (hbf8.far zJ _).set 0 _
     ·rw[hll];exact (hbo8.set 0 _).far zJ _
     ·refine Tch.setCell (Tch.setCell ⟨HG8.out.os.trans HT3.out.os,HG8.out.tape.trans HT3.out.tape,HG8.out.output.trans HT3.out.output,zD,fun q hq hf=> ?_⟩ (fun _=> .inl rfl) _) (fun _=> .inr (.inl rfl)) _
      have h3:(Value.slice av3 L3.length cv3).ownBlock≠some q:=fun e=>by
       rcases HAT3.out with h | ⟨q',hq',hlt'⟩
       ·rw[h] at e;exact hf (.inr (.inr e))
       ·rw[hq'] at e;have:=A7 e;omega
      exact (HGG.out q zD h3).trans (HT3.out.block q hq (fun e=>by
       rcases e with e | e
       ·exact hf (.inl e)
       ·exact hf (.inr (.inr e))))
     ·rw[hll]
      rcases HA8.out with h | h
      ·rcases HAT3.out with h' | ⟨q',hq',hlt'⟩
       ·exact .inl (h.trans h')
       ·exact .inr ⟨q',h.trans hq',hlt'⟩
      ·exact .inr ⟨_,h,zH⟩
     ·have e1:=hts.out HM0.out
      have e2:=HT2.out.toks;rw[e1] at e2;rw[←e2,←HL3.out];simp
    have HF:=hid hfin;clear hfin OP9 OPU hx hOF keep9 hsz hbo8 hbf8 hnew8 hll;go_roundw
    case rel=>exact ⟨p+m,p+m,p,a8,c8,ap2,cp2,_,_,zV,HF⟩
    case measure=>simp [intOf];omega
  ·have hpe:p=b.length:=by omega
   subst hpe;have htop:=hT.out.top;have hn0:=hT.out.n1;have hav:=fun q (hq:(Value.slice av L.length cv).ownBlock=some q)=>hT.out.own.1.lt q hq;have hRun:=Pw wr (to:=b.length) hT.out.bf hT.out.bo hT.out.bb (Ah.mono (Ah.keep HL.out fun q hq=>hT.out.below.block q hq) fun q hq=>Aj hq hT.out.below.size) hT.out.own (fun q hq=>hq.2.1) (fun hq=>zY) (fun e=>zAb) ⟨zD,zD,fun e=>zAb,fun e=>zAb⟩ (An _) hlen (by have:=hT.out.len;omega) htop;have htk:=hT.out.toks;rw[VP (An _)] at htk;rw[htk] at hRun;have HRun:=hid hRun;clear hRun htk;have dlt:decide ((b.length:Int)<(b.length:Int))=false:=zN;go_wp2_with fail;refine HRun.out.mono ?_;rintro r w3 ⟨rfl,av3,cv3,cells3,hbo3,hown3,ht3,hat3⟩;have o1:w3.cell? ⟨w.heap.size+1,0,none⟩=some (.slice av3 (Ex b).length cv3):=hbo3.cell 0;have hbel:Below w.heap.size w w3:=hT.out.below.trans (ht3.Cw hT.out.below.size fun q hq e=>by
    rcases e with e | e
    ·omega
    ·have:=(hav _ e).1;omega)
   have hsl:=hown3.slice;have hlt3:=hown3.1.lt;have hs3:=ht3.size;have hpost:VG w (Ex b) (.returned (.tuple #[.slice av3 (Ex b).length cv3,.int .i64 0])) w3:=⟨_,rfl,(rSl 3 IC).mono hsl fun q hq=>by
    rcases hq with (h | h) | h
    ·exact⟨zD,zD⟩
    ·exact⟨zD,h.2⟩
    ·have:=hlt3 q h;exact⟨zD,this.2⟩,hbel⟩
   have HP:=hid hpost;clear hpost hsl hlt3 hbel hown3 ht3 hat3 hbo3;go_wp2;go_ret2
   exact HP.out
end Go.Proofs.YtfddhafbhceoaaaGreat
namespace Go.Bs
open Go.RowKit
variable{base g:Nat}{e:TypeId}{v:Value}{w:World}
end Go.Bs
namespace Go.Proofs.YtfddhafbhceoaaaGreat
open Go.RowKit Go.Bs Go.Maps
variable{bound:Int}{B b:List UInt8}{cs xs:List Value}{L base c cb cp g gs i mb n p sc:Nat}{S:Nat → Prop}{a ab ap sa:Option Addr}{s:Rs}{e:TypeId}{v:Value}{w w' w1:World}
theorem VQ{x:Tok}(h:IC.r S w cs x):∃a c,cs=[.slice a x.lit.length c,.int .i64 x.off,.int .i64 x.len]∧(-9223372036854775808≤x.off∧x.off≤9223372036854775807)∧(-9223372036854775808≤x.len∧x.len≤9223372036854775807)∧Ah.r S w [.slice a x.lit.length c] x.lit:=by
 obtain⟨c1,c2,rfl,h1,c3,c4,rfl,⟨rfl,h2⟩,rfl,h3⟩:=h;obtain⟨a,c,rfl,h4,_⟩:=AN h1;exact⟨a,c,rfl,bounds_i64 h2,bounds_i64 h3,h4⟩
theorem Qq{xs:List Tok}(h:MD.r S w [.slice a n c] xs)(hi:i<xs.length):∃b off,a=some ⟨b,off,none⟩∧S b∧∃a' c',w.cell? ⟨b,off+i*3,none⟩=some (.slice a' xs[i].lit.length c')∧w.cell? ⟨b,off+i*3+1,none⟩=some (.int .i64 xs[i].off)∧w.cell? ⟨b,off+i*3+2,none⟩=some (.int .i64 xs[i].len)∧
  (-9223372036854775808≤xs[i].off∧xs[i].off≤9223372036854775807)∧(-9223372036854775808≤xs[i].len∧xs[i].len≤9223372036854775807)∧Ah.r S w [.slice a' xs[i].lit.length c'] xs[i].lit:=by
 obtain⟨b,off,e,hS,cs,_,hc,hA⟩:=Kg h hi;obtain⟨a',c',rfl,h1,h2,h3⟩:=VQ hA;exact⟨b,off,e,hS,a',c',hc 0 _ rfl,hc 1 _ rfl,hc 2 _ rfl,h1,h2,h3⟩
def F7(t:Tok):Bool:=decide (t.off=0)&&(decide (t.len=0)&&(decide (1≤t.lit.length)&&decide (t.lit.length≤1048576)))
def Ip(t:Tok):Bool:=decide (t.lit.length=0)&&(decide (1≤t.off)&&(decide (t.off≤65536)&&(decide (4≤t.len)&&decide (t.len≤1048576))))
theorem Pp(x:Tok)(a:Option Addr)(c:Nat)(w:World)(hl:x.lit.length≤9223372036854775807)(h1: -9223372036854775808≤x.off∧x.off≤9223372036854775807)(h2: -9223372036854775808≤x.len∧x.len≤9223372036854775807):
  Calls Tryz.prog 352 #[.agg #[.slice a x.lit.length c,.int .i64 x.off,.int .i64 x.len]] w fun r w'=>r=.returned (.bool (F7 x))∧Below w.heap.size w w':=by
 obtain⟨D,o,m⟩:=x;dsimp only at*;by_cases h0:o=0
 ·skip
  have d0:(o==0)=true:=beq_iff_eq.2 zD;by_cases h1:m=0
  ·skip
   have d1:(m==0)=true:=beq_iff_eq.2 zD;by_cases h2:1≤D.length
   ·skip
    have d2:decide (1≤(D.length:Int))=true:=Ad zD;have d2':decide (1≤D.length)=true:=Ad zD;by_cases h3:D.length≤1048576
    ·skip
     have d3:decide ((D.length:Int)≤1048576)=true:=Ad zD;have d3':decide (D.length≤1048576)=true:=Ad zD;have hff:Hid (F7 ⟨D,o,m⟩=true):=hid (by simp only[F7,Aq,Av];omega);clear h1;go_enter Tryz.func352,Tryz.ntmps352;go_wp2;go_ret;exact⟨zM,zB⟩
    ·skip
     have d3:decide ((D.length:Int)≤1048576)=false:=Ae zD;have d3':decide (D.length≤1048576)=false:=Ae zD;have hff:Hid (F7 ⟨D,o,m⟩=false):=hid ZL;clear h1;go_enter Tryz.func352,Tryz.ntmps352;go_wp2;go_ret;exact⟨zM,zB⟩
   ·skip
    have d2:decide (1≤(D.length:Int))=false:=Ae zD;have d2':decide (1≤D.length)=false:=Ae zD;have hff:Hid (F7 ⟨D,o,m⟩=false):=hid ZL;clear h1;go_enter Tryz.func352,Tryz.ntmps352;go_wp2;go_ret;exact⟨zM,zB⟩
  ·skip
   have d1:(m==0)=false:=beq_eq_false_iff_ne.2 zD;have hff:Hid (F7 ⟨D,o,m⟩=false):=hid ZL;clear h1;go_enter Tryz.func352,Tryz.ntmps352;go_wp2;go_ret;exact⟨zM,zB⟩
 ·skip
  have d0:(o==0)=false:=beq_eq_false_iff_ne.2 zD;have hff:Hid (F7 ⟨D,o,m⟩=false):=hid ZL;clear h1;go_enter Tryz.func352,Tryz.ntmps352;go_wp2;go_ret;exact⟨zM,zB⟩
inductive Good (b:List UInt8):Bool→Nat→List Tok→Prop where
 | nil {f:Bool}:Good b f b.length []
 | copy {f:Bool} {p o m:Nat} {rest:List Tok}:p<b.length→Ck b p=(o,m)→m≠0→Good b false (p+m) rest→Good b f p (⟨[],(o:Int),(m:Int)⟩::rest)
 | run {p q:Nat} {rest:List Tok}:p<q→q≤b.length→(∀r,p≤r→r<q→(Ck b r).2=0)→Good b true q rest→Good b false p (⟨(b.drop p).take (q-p),0,0⟩::rest)
theorem Om{rest:List Tok}(hip:i≤p)(hp:p≤b.length)(h:∀r,i≤r→r<p→(Ck b r).2=0)(hg:∀f,Good b f p rest):Good b false i (EV b i p++rest):=by
 unfold EV;by_cases hlt:i<p
 ·rw[Ai hlt]
  exact .run hlt hp h (hg true)
 ·obtain rfl:i=p:=by omega
  rw[Ak hlt];exact hg false
theorem L7(b:List UInt8):∀(f p i:Nat),b.length≤p+f→i≤p→p≤b.length→(∀r,i≤r→r<p→(Ck b r).2=0)→Good b false i (Fl b f p i)
 | 0,p,i,h1,h2,h3,h4=>by
  obtain rfl:p=b.length:=zD;have:=Om (rest:=[]) h2 h3 h4 fun f=> .nil;simpa [Fl] using this
 | f+1,p,i,h1,h2,h3,h4=>by
  simp only[Fl];by_cases hp:p<b.length
  ·rw[Ai hp]
   by_cases hm:(Ck b p).2=0
   ·rw[Ai hm]
    refine L7 b f (p+1) i zD zD zD fun r hr1 hr2=> ?_;by_cases hrp:r=p
    ·rw[hrp];exact hm
    ·exact h4 r hr1 zD
   ·rw[Ak hm]
    have hroom:=(Ji b p).1;refine Om h2 h3 h4 fun g=> .copy hp rfl hm ?_;exact L7 b f _ _ zD (An _) zD fun r h1 h2=>by omega
  ·rw[Ak hp]
   obtain rfl:p=b.length:=zD;have:=Om (rest:=[]) h2 h3 h4 fun f=> .nil;simpa using this
theorem Ol(b:List UInt8):Good b false 0 (Ex b):=L7 b b.length 0 0 zD (An _) (Am _) fun r h1 h2=>by omega
theorem KU(b:List UInt8):∀(f p i:Nat),(Fl b f p i).length≤2*f+1
 | 0,p,i=>by
  simp only[Fl,EV];split<;>simp
 | f+1,p,i=>by
  simp only[Fl];split
  ·split
   ·have:=KU b f (p+1) i;omega
   ·have:=KU b f (p+(Ck b p).2) (p+(Ck b p).2)
    simp only[Ag,AO,EV];split<;>simp<;>omega
  ·simp only[EV]
   split<;>simp
end Go.Proofs.YtfddhafbhceoaaaGreat
namespace Go.Bs
variable{base g:Nat}{e:TypeId}{v:Value}{w:World}
def Gc:Nat→Nat→List UInt8
 | 0,x=>[UInt8.ofNat x]
 | f+1,x=>if x<128 then [UInt8.ofNat x] else UInt8.ofNat (128+x%128)::Gc f (x/128)
def Az(x:Nat):List UInt8:=Gc 9 x
theorem LF:∀(f g x:Nat),x<128^(f+1)→f≤g→Gc f x=Gc g x
 | 0,0,_,_,_=>rfl
 | 0,g+1,x,h,_=>by
  have:x<128:=zAe;simp[Gc,this]
 | f+1,0,_,_,h=>by omega
 | f+1,g+1,x,h,hg=>by
  simp only[Gc];split
  ·rfl
  ·rw[LF f g (x/128) (by rw[Ff] at h;omega) zD]
theorem Gd{x:Nat}(h:x<128):Az x=[UInt8.ofNat x]:=by simp[Az,Gc,h]
theorem JQ{x:Nat}(h:¬x<128)(hx:x<2^64):Az x=UInt8.ofNat (128+x%128)::Az (x/128):=by
 have e:Gc 8 (x/128)=Gc 9 (x/128):=LF 8 9 _ zD zD;unfold Az;rw[←e];simp[Gc,h]
theorem AZ(x:Nat):(Az x).length≤10∧1≤(Az x).length:=by
 have:∀f x,(Gc f x).length≤f+1∧1≤(Gc f x).length:=by
  intro f;induction f with
  | zero=>intro x;simp[Gc]
  | succ f ih=>intro x;simp only[Gc];split<;>simp;exact (ih _).1
 exact this 9 x
end Go.Bs
namespace Go.Proofs.YtfddhafbhceoaaaGreat
open Go.RowKit Go.Bs Go.Maps
variable{bound:Int}{B b:List UInt8}{cs xs:List Value}{L base c cb cp g gs i mb n p sc:Nat}{S:Nat → Prop}{a ab ap sa:Option Addr}{s:Rs}{e:TypeId}{v:Value}{w w' w1:World}
theorem Mm(x:Nat)(hx:x<18446744073709551616)(w:World):
  Calls Tryz.prog 245 #[.int .u64 x] w fun r w'=>r=.returned (.int .i64 (Az x).length)∧Below w.heap.size w w':=by
 go_enter Tryz.func245,Tryz.ntmps245;go_wp2_with fail;go_loopw [0,3] (fun y n wr=>∃v k:Nat,y=.int .u64 v∧n=.int .i64 k∧v<18446744073709551616∧k≤10∧1≤k∧Hid ((Az x).length+1=k+(Az v).length)∧Below w.heap.size w wr) (fun y _ _=>(intOf y).toNat)
 case atStart=>exact ⟨x,1,rfl,rfl,hx,zD,zD,hid zD,Below.refl _ _⟩
 case round=>
  obtain⟨v,k,rfl,rfl,hv,hk,hk1,hs,hb⟩:=hrel;by_cases h:v<128
  ·have d1:decide ((128:Int)≤(v:Int))=false:=by simp;omega
   have hf:Hid ((Az x).length=k):=hid (by have:=hs.out;rw[Gd h] at this;simpa using this);go_wp2;go_ret;exact⟨zBv,hb⟩
  ·have d1:decide ((128:Int)≤(v:Int))=true:=by simp;omega
   have hn:Hid ((Az x).length+1=k+1+(Az (v/128)).length):=hid (by have:=hs.out;rw[JQ h (by omega)] at this;simp at this;omega);have hk10:k+1≤10:=by have:=hn.out;have:=AZ x;have:=AZ (v/128);omega
   go_wp2_with fail;go_outline
   go_roundw
   case rel=>exact ⟨v/128,k+1,zV,zV,zD,zD,zD,hn,hb⟩
   case measure=>simp [intOf];omega
end Go.Proofs.YtfddhafbhceoaaaGreat
namespace Go.Bs
open Go.RowKit
variable{base g:Nat}{e:TypeId}{v:Value}{w:World}
theorem GF(hb:base≤g)(h:w.heap[g]? =some (.cells #[v] e (0,0))):w.ownsRow base e 1 (.slice (some ⟨g,0,none⟩) 1 1) 1 [v]:=
 ⟨rfl,.inr ⟨g,1,#[v],rfl,hb,h,An _,zO,rfl,rfl⟩⟩
theorem DW(J:List UInt8)(b:UInt8):byteCells J++[.int .u8 (b.toNat:Int)]=byteCells (J++[b]):=zAm
theorem Ej{x:Nat}(h:x<256):(x:Int)=((UInt8.ofNat x).toNat:Int):=by
 simp;omega
theorem Ab6:∀n:Nat,n<256→bits .or .u8 (n:Int) 128=128+(n:Int)%128:=zE
theorem Abu(v:Nat):bits .or .u8 ((v:Int)%256) 128=((UInt8.ofNat (128+v%128)).toNat:Int):=by
 have h:=Ab6 (v%256) zD;rw[show (((v%256:Nat)):Int)=(v:Int)%256 by omega] at h;rw[h,←Ej zD];omega
end Go.Bs
namespace Go.Proofs.YtfddhafbhceoaaaGreat
open Go.RowKit Go.Bs Go.Maps
variable{bound:Int}{B b:List UInt8}{cs xs:List Value}{L base c cb cp g gs i mb n p sc:Nat}{S:Nat → Prop}{a ab ap sa:Option Addr}{s:Rs}{e:TypeId}{v:Value}{w w' w1:World}
theorem Qn(x:Nat)(hx:x<18446744073709551616)(w:World):
  Calls Tryz.prog 238 #[.int .u64 x] w fun r w'=>∃v,r=.returned v∧Ah.r (fun b=>w.heap.size≤b∧b<w'.heap.size) w' [v] (Az x)∧Below w.heap.size w w':=by
 obtain⟨i0,hi,hz0,hz1,hz2⟩:=A3 DH;go_enter Tryz.func238,Tryz.ntmps238;go_wp2_with fail;go_loopw [0,3] (fun y o wr=>∃(v:Nat) (J:List UInt8),y=.int .u64 v∧v<18446744073709551616∧wr.ownsRow w.heap.size 5 1 o J.length (byteCells J)∧Hid (Az x=J++Az v)∧Below w.heap.size w wr) (fun y _ _=>(intOf y).toNat)
 case atStart=>exact ⟨x,[],rfl,hx,⟨rfl,.inl ⟨rfl,rfl⟩⟩,hid rfl,Below.refl _ _⟩
 case round=>
  obtain⟨v,J,rfl,hv,hown,hs,hb⟩:=hrel;have hbs:=hb.size;have hJ:J.length≤10:=by have h1:=AZ x;rw[hs.out] at h1;simp at h1;omega
  obtain⟨aJ,cJ,rfl⟩:=AD hown;have HO:=hid hown;clear hown;by_cases h:v<128
  ·have d1:decide ((128:Int)≤(v:Int))=false:=by simp;omega
   have hfin:Hid (Az x=J++[UInt8.ofNat v]):=hid (by rw[hs.out,Gd h]);have hby:Hid ((v:Int)=((UInt8.ofNat v).toNat:Int)):=hid (Ej zD);go_wp2_with (at_builtin;go_loud (refine Ar rfl _ _ _ rfl w.heap.size 5 i0 (.int .u8 0) 1 1 Au hi hz0 hz1 hz2 rfl zO (.slice aJ J.length cJ) J.length (byteCells J) rfl (AF HO.out zB) (some ⟨wr.heap.size,0,none⟩) 1 1 [.int .u8 (v:Int)] rfl (By wr 5 _ rfl rfl rfl) zW zK zD zH ?_;intro v' w1 hown1 hgrow1 hat1;have HG:=hid hgrow1;have HO1:=hid hown1;clear hgrow1 hown1 hat1))
   have ho:=HO1.out;rw[hby.out,DW,←hfin.out] at ho;have hlen:J.length+1=(Az x).length:=by rw[hfin.out];simp
   have hV:=Cg hlen ho;have hB:Below w.heap.size w w1:=Below.grown zB HG.out zH (fun g e=>(HO.out.lt g e).1);have HV:=hid hV;clear ho hlen hV;go_wp2;go_ret;exact⟨_,rfl,HV.out,hB⟩
  ·have d1:decide ((128:Int)≤(v:Int))=true:=by simp;omega
   have hfin:Hid (Az x=(J++[UInt8.ofNat (128+v%128)])++Az (v/128)):=hid (by rw[hs.out,JQ h (by omega)];simp);have hor:=Abu v;generalize UInt8.ofNat (128+v%128)=bb at*;go_wp2_with (at_builtin;go_loud (refine Ar rfl _ _ _ rfl w.heap.size 5 i0 (.int .u8 0) 1 1 Au hi hz0 hz1 hz2 rfl zO (.slice aJ J.length cJ) J.length (byteCells J) rfl (AF HO.out zB) (some ⟨wr.heap.size,0,none⟩) 1 1 [.int .u8 (bb.toNat:Int)] rfl (By wr 5 _ rfl rfl rfl) zW zK zD zH ?_;intro v' w1 hown1 hgrow1 hat1;have HG:=hid hgrow1;have HO1:=hid hown1;clear hgrow1 hown1 hat1))
   have ho:=HO1.out;rw[DW] at ho;have hB:Below w.heap.size w w1:=Below.grown zB HG.out zH (fun g e=>(HO.out.lt g e).1);have HO2:=hid ho;clear ho HO1;go_wp2_with fail;go_roundw
   case rel=>exact ⟨v/128,J++[bb],zV,zD,(by rw[Ag];exact HO2.out),hfin,hB⟩
   case measure=>simp [intOf];omega
theorem Jy(x:Nat):∀(hx:x<18446744073709551616) (w:World),
  Calls Tryz.prog 101 #[.int .u64 x] w fun r w'=>∃v,r=.returned v∧Ah.r (fun b=>w.heap.size≤b∧b<w'.heap.size) w' [v] (Az x)∧Below w.heap.size w w':=by
 induction x using Nat.strongRecOn with
 | ind x ih=>
 intro hx w;obtain⟨i0,hi,hz0,hz1,hz2⟩:=A3 DH;by_cases h:x<128
 ·have d1:decide ((x:Int)<128)=true:=by simp;omega
  have hfin:Hid (Az x=[UInt8.ofNat x]):=hid (Gd h);have hby:Hid ((x:Int)=((UInt8.ofNat x).toNat:Int)):=hid (Ej zD);have HIH:=hid ih;clear ih;go_enter Tryz.func101,Tryz.ntmps101;go_wp2_with fail;have e0:[Value.int .u8 (x:Int)]=byteCells (Az x):=by rw[hfin.out,hby.out];rfl
  have ho:(w.alloc (.cells #[.int .u8 (x:Int)] 5)).ownsRow w.heap.size 5 1 (.slice (some ⟨w.heap.size,0,none⟩) 1 1) 1 (byteCells (Az x)):=e0 ▸ GF (w:=w.alloc (.cells #[.int .u8 (x:Int)] 5)) (base:=w.heap.size) (e:=5) (An _) (F0 w _);have hV:=Cg (l:=Az x) (n:=1) ZC ho;have HV:=hid hV;clear ho e0 hV;go_ret;exact⟨_,rfl,HV.out,zB⟩
 ·have d1:decide ((x:Int)<128)=false:=by simp;omega
  have HIH:=hid (fun (W:World)=>ih (x/128) zD zD W);clear ih;rw[show ((x/128:Nat):Int)=(x:Int)/128 by omega] at HIH;have hfin:Hid (Az x=[UInt8.ofNat (128+x%128)]++Az (x/128)):=hid (by rw[JQ h (by omega)];rfl);have hby:Hid (128+(x:Int)%128=((UInt8.ofNat (128+x%128)).toNat:Int)):=hid zBk;have hlb:=AZ (x/128);go_enter Tryz.func101,Tryz.ntmps101;go_wp2_with fail;refine (HIH.out _).mono ?_;rintro r w1 ⟨v1,rfl,hr1,hb1⟩;have ho:=GF (w:=w.alloc (.cells #[.int .u8 (128+(x:Int)%128)] 5)) (base:=w.heap.size) (e:=5) (An _) (F0 w _);have ho1:=AF ho hb1;obtain⟨a1,c1,hv1,hr2,_⟩:=AN hr1;simp only[As,AM] at hv1;subst hv1;have hr3:=A8 (Ah.mono hr2 (S':=(·<w1.heap.size)) fun b hb=>hb.2);have HS:=hid hr3;have HO:=hid ho1;have HONE:=hid (AI (Az (x/128)));have hz1w:w.heap.size+1≤w1.heap.size:=zBt;have hbw1:Below w.heap.size w w1:=zB;clear hr1 hr2 hr3 ho ho1;go_wp2_with (at_builtin;go_loud (refine Ar rfl _ _ _ rfl w.heap.size 5 i0 (.int .u8 0) 1 1 Au hi hz0 hz1 hz2 rfl zO (.slice (some ⟨w.heap.size,0,none⟩) 1 1) 1 _ rfl HO.out a1 (Az (x/128)).length c1 (byteCells (Az (x/128))) rfl HS.out HONE.out zK zD zD ?_;intro v' w2 hown2 hgrow2 hat2;have HG:=hid hgrow2;have HO2:=hid hown2;clear hgrow2 hown2 hat2))
  have ho:=HO2.out;rw[hby.out,show [Value.int .u8 ((UInt8.ofNat (128+x%128)).toNat:Int)]=byteCells [UInt8.ofNat (128+x%128)] from rfl,byteCells,byteCells,←BX,←hfin.out] at ho;have hV:=Cg (by rw[hfin.out];simp;omega) ho;have hB:Below w.heap.size w w2:=Below.grown hbw1 HG.out zD (fun g e=>(HO.out.lt g e).1);have HV:=hid hV;clear ho hV;go_ret;exact⟨_,rfl,HV.out,hB⟩
end Go.Proofs.YtfddhafbhceoaaaGreat
