/- Mini: Needed by rpcReads_walk, part 4: texts put together by shake.py; no condition. -/
import Derived.Test.YtlbffbkbkajciaaGreatZU1
import Derived.Deep.Cut
import Derived.Test.YtlbffbkbkajciaaGreatZU3
import Derived.BigRegion
import Derived.Test.YtlbffbkbkajciaaGreatRows
import Derived.Test.YtlbffbkbkajciaaGreatZU2
set_option linter.unusedVariables false
set_option linter.unusedSimpArgs false
set_option maxRecDepth 100000
set_option maxHeartbeats 6400000
namespace Go.Bs
theorem zDc{p:Prop}(h:p:=by rw [show n - k = (n - (k + 1)) + 1 by omega]; rfl):p:=h
theorem zC5{p:Prop}(h:p:=by have := Rs.FW (B := B) (s := s) (m := m); omega):p:=h
theorem zCz{p:Prop}(h:p:=by simp [results, Tryz.results238, go_sem, y0, y1, l1]):p:=h
theorem zCo{p:Prop}(h:p:=by simp [results, Tryz.results122, go_sem, y0, y1, y2, y3, l1]):p:=h
theorem zCm{p:Prop}(h:p:=by simp [results, Tryz.results202, go_sem, y0, y1, y2, y3, l1]):p:=h
theorem zB7{p:Prop}(h:p:=by rw [List.getD_eq_getElem?_getD, AQ (by omega)]; rfl):p:=h
theorem zB0{p:Prop}(h:p:=by simp [hk0]):p:=h
theorem zBv{p:Prop}(h:p:=by rw [HX.out]):p:=h
theorem zBr{p:Prop}(h:p:=by simp [hk1]):p:=h
theorem zAy{p:Prop}(h:p:=by simp [results, Tryz.results139, go_sem, y0, y1, y2, y3, l1]):p:=h
theorem zAc{p:Prop}(h:p:=by dsimp only at h; omega):p:=h
theorem ZR{p:Prop}(h:p:=by rw [HX.out]; exact AT rfl rfl (by omega)):p:=h
theorem ZF{p:Prop}(h:p:=by have := hq.1; simp at this; omega):p:=h
theorem ZD{p:Prop}(h:p:=by have := hq.2; simp [World.setCell]; omega):p:=h
theorem zY{p:Prop}(h:p:=by simp [results, Tryz.results240, go_sem, y0, y1, y2, y3, l1, z0, z1, z2, l2]):p:=h
theorem zU{p:Prop}(h:p:=by simp [World.setCell]; omega):p:=h
theorem zI{p:Prop}(h:p:=by with_reducible assumption):p:=h
abbrev VV(h:Array Value:=by exact #[.slice a B.length c,.int .i64 ((s.p:Int)+((u:Int)-1)+1),.int .i64 k,.int .i64 ((s.p:Int)+((u:Int)-1))]):=h
abbrev VR(h:Array Value:=by exact #[.slice a B.length c,.int .i64 bound,u2,u3,.slice none 0 0,.pointer (some ⟨w.heap.size,0,none⟩),.pointer (some ⟨w.heap.size+1,0,none⟩),.slice aO out.length cO,u8,u9,u10,u11,u12,u13,u14,u15,u16,u17,u18,u19,u20,u21,u22,u23,u24,u25,u26,u27,u28,u29,u30,u31,u32,u33,u34,u35,u36,u37,u38,u39,u40,u41,u42,u43,u44,u45,u46,u47,u48,u49,u50,u51,u52,u53,u54,u55,u56,u57,u58,u59,u60,u61,u62,u63,u64,u65,u66,u67,u68,u69,u70]):=h
theorem Ia:type_of% @Proofs.Tryz.ntmps240:=@Proofs.Tryz.ntmps240
theorem Jy:type_of% @Proofs.Tryz.func240:=@Proofs.Tryz.func240
end Go.Bs
namespace Go.Proofs.YtlbffbkbkajciaaGreat
open Go.RowKit Go.Bs Go.Maps
variable{bound:Int}{B out:List UInt8}{xs:List Value}{L base c g n size:Nat}{a:Option Addr}{s s':Rs}{e t:TypeId}{v v0 v1 v2:Value}{w w':World}
theorem NJ:∀(l:List UInt8) (i x:Nat),(C5 i x l).2.2≠0→(C5 i x l).1=0
 | [],i,x,_=>rfl
 | c::l,i,x,h=>by
  rw[JC] at h ⊢;by_cases h1:i=9∧1<c.toNat
  ·rw[An h1]
  ·rw[Ak h1] at h ⊢
   by_cases h2:0<i∧c.toNat=0
   ·rw[An h2]
   ·rw[Ak h2] at h ⊢
    by_cases h3:c.toNat<128
    ·rw[An h3] at h;simp at h
    ·rw[Ak h3] at h ⊢
     exact NJ l _ _ h
theorem CM(w:World)(a:Option Addr)(c:Nat)(B:List UInt8)(hl:Ah.r (·<w.heap.size) w [.slice a B.length c] B)(s:Rs)(hs:s.ok B.length)(hB:B.length≤1000000000000):
  Calls Tryz.prog 139 #[CV a B.length c s] w fun r w'=>r=.returned (.tuple #[CV a B.length c (s.num B).1,.int .u64 ((s.num B).2:Int)])∧Below w.heap.size w w':=by
 have hle:=hs.le;by_cases h0:s.k=0
 ·have d0:(s.k !=(0:Int))=false:=by simp[h0]
  obtain⟨aD,cD,hsl,hsub⟩:=Nx hl (lo:=s.p) hle;have hu:=FG (B.drop s.p) 0 0;have hln:(B.drop s.p).length=B.length-s.p:=zP;have hGET:=hid (fun (W:World) (hW:Below w.heap.size w W)=>RL W (B.drop s.p) aD _ cD (lift hsub hW) zD);have hnum:s.num B=(⟨s.p+(C5 0 0 (B.drop s.p)).2.1,(C5 0 0 (B.drop s.p)).2.2,if (C5 0 0 (B.drop s.p)).2.2=0 then 0 else if (C5 0 0 (B.drop s.p)).2.2=1 then B.length else s.p+(C5 0 0 (B.drop s.p)).2.1-1⟩,(C5 0 0 (B.drop s.p)).1):=by
   unfold Rs.num;rw[An h0]
  unfold Sd at hGET;rw[hnum];have hsm:=Ix (B.drop s.p) 0 0 zD zP;have hvx:=NJ (B.drop s.p) 0 0;generalize B.drop s.p=D at*;generalize C5 0 0 D=R at*;obtain⟨x,u,k⟩:=R;dsimp only at*;have hz:=hs.zero h0;have H0:=hid h0;have HZ:=hid hz;clear hl hs h0 hz hsub hnum;unfold CV;by_cases hk0:k=0
  ·subst hk0
   simp only[Kz,DE] at hGET ⊢;go_enter Tryz.func139,Tryz.ntmps139;go_wp2_with fail;refine (hGET.out _ zA).mono ?_;rintro r w1 ⟨rfl,hb⟩;have B0:Blk w1 w.heap.size 60 #[.slice a B.length c,.int .i64 (s.p:Int),.int .i64 s.k,.int .i64 s.f]:=Blk.later zB hb;have B1:Blk w1 (w.heap.size+1) 60 #[.slice none 0 0,.int .i64 0,.int .i64 0,.int .i64 0]:=Blk.later zB hb;obtain⟨x0,x1,x2,x3,e0,e1,e2,e3,l0⟩:=Aq B0;obtain⟨y0,y1,y2,y3,g0,g1,g2,g3,l1⟩:=Aq B1;have hbw:Below w.heap.size w w1:=zA;clear B0 B1 hb;go_wp2;refine Af (v:=.tuple #[.agg #[.slice a B.length c,.int .i64 ((s.p:Int)+(u:Int)),.int .i64 s.k,.int .i64 s.f],.int .u64 (x:Int)]) zAy rfl ⟨?_,zA⟩;rw[H0.out,HZ.out];rfl
  ·by_cases hk1:k=1
   ·subst hk1
    have hu1:=hu.2.2.2.1 rfl;have hx0:x=0:=by have:=hvx;exact hvx zD
    subst hx0;have HP:Hid (((s.p+u:Nat):Int)=(B.length:Int)):=hid zD;simp only[Kz,DE,show ¬((1:Int)=0) by omega,if_false] at hGET ⊢;rw[HP.out];go_enter Tryz.func139,Tryz.ntmps139;go_wp2_with fail;refine (hGET.out _ zA).mono ?_;rintro r w1 ⟨rfl,hb⟩;have B0:Blk w1 w.heap.size 60 #[.slice a B.length c,.int .i64 (s.p:Int),.int .i64 s.k,.int .i64 s.f]:=Blk.later zB hb;have B1:Blk w1 (w.heap.size+1) 60 #[.slice none 0 0,.int .i64 0,.int .i64 0,.int .i64 0]:=Blk.later zB hb;have hbw:Below w.heap.size w w1:=zA;obtain⟨x0,x1,x2,x3,e0,e1,e2,e3,l0⟩:=Aq B0;obtain⟨y0,y1,y2,y3,g0,g1,g2,g3,l1⟩:=Aq B1;clear hb;go_wp2_with fail;refine (DF _ 1 B.length zD).mono ?_;rintro r w2 ⟨rfl,hb2⟩;have B0':Blk w2 w.heap.size 60 #[.slice a B.length c,.int .i64 (B.length:Int),.int .i64 s.k,.int .i64 s.f]:=Blk.later (Blk.alloc (Blk.set B0 1 (.int .i64 (B.length:Int))) _) hb2;have B1':Blk w2 (w.heap.size+1) 60 #[.slice none 0 0,.int .i64 0,.int .i64 0,.int .i64 0]:=Blk.later (Blk.alloc (Blk.far B1 zP _) _) hb2;have BF:Blk w2 w1.heap.size 58 #[.int .i64 1,.int .i64 ((B.length-s.p:Nat):Int)]:=Blk.later (Blk.newAt _ _ _ ZQ) hb2;have hbw2:Below w.heap.size w w2:=zA;clear x0 x1 x2 x3 e0 e1 e2 e3 l0 y0 y1 y2 y3 g0 g1 g2 g3 l1 B0 B1 hb2;obtain⟨x0,x1,x2,x3,e0,e1,e2,e3,l0⟩:=Aq B0';obtain⟨y0,y1,y2,y3,g0,g1,g2,g3,l1⟩:=Aq B1';obtain⟨z0,z1,f0,f1,lz⟩:=A1 BF;clear B0' B1' BF;go_wp2;refine Af (v:=.tuple #[.agg #[.slice a B.length c,.int .i64 (B.length:Int),.int .i64 1,.int .i64 (B.length:Int)],.int .u64 0]) zAy rfl ⟨rfl,zA⟩
   ·have hk4:k≠0∧k≠1:=⟨hk0,hk1⟩
    have hu5:=hu.2.2.2.2 hk1;have d2:(k==(0:Int))=false:=zB0;have d3:(k==(1:Int))=false:=zBr;have d4:(k !=(1:Int))=true:=zBr;have hx0:x=0:=hvx hk0;subst hx0;simp only[Kz,hk0,hk1,if_false] at hGET ⊢;go_enter Tryz.func139,Tryz.ntmps139;go_wp2_with fail;refine (hGET.out _ zA).mono ?_;rintro r w1 ⟨rfl,hb⟩;have B0:Blk w1 w.heap.size 60 #[.slice a B.length c,.int .i64 (s.p:Int),.int .i64 s.k,.int .i64 s.f]:=Blk.later zB hb;have B1:Blk w1 (w.heap.size+1) 60 #[.slice none 0 0,.int .i64 0,.int .i64 0,.int .i64 0]:=Blk.later zB hb;have hbw:Below w.heap.size w w1:=zA;obtain⟨x0,x1,x2,x3,e0,e1,e2,e3,l0⟩:=Aq B0;obtain⟨y0,y1,y2,y3,g0,g1,g2,g3,l1⟩:=Aq B1;clear hb;go_wp2_with fail;refine (DF _ k _ hk0).mono ?_;rintro r w2 ⟨rfl,hb2⟩;have B0':Blk w2 w.heap.size 60 #[.slice a B.length c,.int .i64 ((s.p:Int)+((u:Int)-1)+1),.int .i64 s.k,.int .i64 s.f]:=Blk.later (Blk.alloc (Blk.set B0 1 (.int .i64 ((s.p:Int)+((u:Int)-1)+1))) _) hb2;have B1':Blk w2 (w.heap.size+1) 60 #[.slice none 0 0,.int .i64 0,.int .i64 0,.int .i64 0]:=Blk.later (Blk.alloc (Blk.far B1 zP _) _) hb2;have BF:Blk w2 w1.heap.size 58 #[.int .i64 k,.int .i64 ((u:Int)-1)]:=Blk.later (Blk.newAt _ _ _ ZQ) hb2;have hbw2:Below w.heap.size w w2:=zA;clear x0 x1 x2 x3 e0 e1 e2 e3 l0 y0 y1 y2 y3 g0 g1 g2 g3 l1 B0 B1 hb2;have HB0:=hid B0';have HB1:=hid B1';obtain⟨x0,x1,x2,x3,e0,e1,e2,e3,l0⟩:=Aq B0';obtain⟨z0,z1,f0,f1,lz⟩:=A1 BF;clear B0' B1' BF;have hK0:=hid hk0;clear hk4 hk0 hk1;go_upto_region 13 with (fail);refine Cm (fun W=>Blk W w.heap.size 60 VV∧Blk W (w.heap.size+1) 60 #[.slice none 0 0,.int .i64 0,.int .i64 0,.int .i64 0]∧Below w.heap.size w W) ⟨?_,?_,zA⟩ ?_
    ·exact Blk.set (Blk.set (Blk.set HB0.out 2 _) 3 _) 3 _
    ·exact Blk.far (Blk.far (Blk.far HB1.out zP _) zP _) zP _
    rintro W ⟨B0,B1,hbW⟩;clear x0 x1 x2 x3 e0 e1 e2 e3 l0 z0 z1 f0 f1 lz;obtain⟨x0,x1,x2,x3,e0,e1,e2,e3,l0⟩:=Aq B0;obtain⟨y0,y1,y2,y3,g0,g1,g2,g3,l1⟩:=Aq B1;clear B0 B1;go_wp2;refine Af (v:=.tuple #[.agg VV,.int .u64 0]) zAy rfl ⟨by rw[show ((s.p:Int)+((u:Int)-1)+1)=((s.p+u:Nat):Int) by omega,show (s.p:Int)+((u:Int)-1)=(s.p:Int)+(u:Int)-1 by omega];rfl,by (repeat (first | with_reducible exact Below.refl _ _ | with_reducible assumption | (with_reducible refine Aw ?_ _) | (with_reducible refine Below.setCell ?_ zE _) | (with_reducible refine Below.drew ?_) | (with_reducible refine below_drewN ?_ _) | (refine Ag zI ?_)))⟩
 ·have d0:(s.k !=(0:Int))=true:=by simp[h0]
  have hnum:s.num B=(s,0):=by unfold Rs.num;rw[Ak h0]
  rw[hnum];clear hl hs h0 hnum;unfold CV;go_enter Tryz.func139,Tryz.ntmps139;go_wp2;refine Af (v:=.tuple #[.agg #[.slice a B.length c,.int .i64 (s.p:Int),.int .i64 s.k,.int .i64 s.f],.int .u64 0]) (by simp[results,Tryz.results139,go_sem]) rfl ⟨rfl,zA⟩
theorem Lg(w:World)(a:Option Addr)(c:Nat)(B:List UInt8)(hl:Ah.r (·<w.heap.size) w [.slice a B.length c] B)(s:Rs)(hs:s.ok B.length)(hB:B.length≤1000000000000)(m:Nat):
  Calls Tryz.prog 202 #[CV a B.length c s,.int .u64 (m:Int)] w fun r w'=>r=.returned (.tuple #[CV a B.length c (s.most B m).1,.int .u64 ((s.most B m).2:Int)])∧Below w.heap.size w w':=by
 have hR:=hid (fun (W:World) (hW:Below w.heap.size w W)=>CM W a c B (lift hl hW) s hs hB);have hF:=hid (fun (W:World) (t:Rs)=>Bk W a B.length c t 2 s.p zD);unfold Rs.most;generalize s.num B=N at*;obtain⟨s1,x⟩:=N;dsimp only at*;clear hl hs;unfold CV at*;by_cases hm:m<x
 ·have d1:decide (m<x)=true:=Ae hm
  have d1':decide ((m:Int)<(x:Int))=true:=Ae zD;rw[An hm];have HF:=hid (fun (W:World)=>hF.out W s1);dsimp only;generalize s1.fail 2 s.p=s2 at*;clear hm hF;go_enter Tryz.func202,Tryz.ntmps202;go_wp2_with fail;refine (hR.out _ zA).mono ?_;rintro r w1 ⟨rfl,hb⟩;have B1:Blk w1 (w.heap.size+1) 60 #[.slice none 0 0,.int .i64 0,.int .i64 0,.int .i64 0]:=Blk.later zB hb;have hbw:Below w.heap.size w w1:=zA;clear hb;go_wp2_with fail;refine (HF.out _).mono ?_;rintro r w2 ⟨rfl,hb2⟩;have B1':Blk w2 (w.heap.size+1) 60 #[.slice none 0 0,.int .i64 0,.int .i64 0,.int .i64 0]:=Blk.later zB hb2;have hbw2:Below w.heap.size w w2:=zA;obtain⟨y0,y1,y2,y3,g0,g1,g2,g3,l1⟩:=Aq B1';clear hb2 B1 B1';go_wp2;refine Af (v:=.tuple #[.agg #[.slice a B.length c,.int .i64 (s2.p:Int),.int .i64 s2.k,.int .i64 s2.f],.int .u64 0]) zCm rfl ⟨rfl,zA⟩
 ·have d1:decide (m<x)=false:=Ad hm
  have d1':decide ((m:Int)<(x:Int))=false:=Ad zD;rw[Ak hm];dsimp only;clear hm hF;go_enter Tryz.func202,Tryz.ntmps202;go_wp2_with fail;refine (hR.out _ zA).mono ?_;rintro r w1 ⟨rfl,hb⟩;have B1:Blk w1 (w.heap.size+1) 60 #[.slice none 0 0,.int .i64 0,.int .i64 0,.int .i64 0]:=Blk.later zB hb;have hbw:Below w.heap.size w w1:=zA;obtain⟨y0,y1,y2,y3,g0,g1,g2,g3,l1⟩:=Aq B1;clear hb B1;go_wp2;refine Af (v:=.tuple #[.agg #[.slice a B.length c,.int .i64 (s1.p:Int),.int .i64 s1.k,.int .i64 s1.f],.int .u64 (x:Int)]) zCm rfl ⟨rfl,zA⟩
theorem Ex(w:World)(a:Option Addr)(c:Nat)(B:List UInt8)(hl:Ah.r (·<w.heap.size) w [.slice a B.length c] B)(s:Rs)(hs:s.ok B.length)(hB:B.length≤1000000000000)(m:Int)(hm: -9223372036854775808≤m∧m≤9223372036854775807):
  Calls Tryz.prog 122 #[CV a B.length c s,.int .i64 m] w fun r w'=>r=.returned (.tuple #[CV a B.length c (s.int B m).1,.int .i64 ((s.int B m).2:Int)])∧Below w.heap.size w w':=by
 by_cases h0:0≤m
 ·obtain⟨n,rfl⟩:∃n:Nat,m=n:=⟨m.toNat,zD⟩
  have hM:=hid (fun (W:World) (hW:Below w.heap.size w W)=>Lg W a c B (lift hl hW) s hs hB n);have hle:(s.int B n).2≤9223372036854775807:=zCq;have e:s.int B n=s.most B n:=by unfold Rs.int;rw[An h0];rfl
  rw[e] at hle ⊢;have d1:decide ((0:Int)≤(n:Int))=true:=Ae h0;generalize s.most B n=N at*;obtain⟨s1,x⟩:=N;dsimp only at*;clear hl hs e;unfold CV at*;go_enter Tryz.func122,Tryz.ntmps122;go_wp2_with fail;refine (hM.out _ zA).mono ?_;rintro r w1 ⟨rfl,hb⟩;have B1:Blk w1 (w.heap.size+1) 60 #[.slice none 0 0,.int .i64 0,.int .i64 0,.int .i64 0]:=Blk.later zB hb;have hbw:Below w.heap.size w w1:=zA;obtain⟨y0,y1,y2,y3,g0,g1,g2,g3,l1⟩:=Aq B1;clear hb B1;go_wp2;refine Af (v:=.tuple #[.agg #[.slice a B.length c,.int .i64 (s1.p:Int),.int .i64 s1.k,.int .i64 s1.f],.int .i64 (x:Int)]) zCo rfl ⟨rfl,zA⟩
 ·have hR:=hid (fun (W:World) (hW:Below w.heap.size w W)=>CM W a c B (lift hl hW) s hs hB)
  have e:s.int B m=((s.num B).1.fail 2 s.p,0):=by unfold Rs.int;rw[Ak h0]
  have hF:=hid (fun (W:World)=>Bk W a B.length c (s.num B).1 2 s.p zD);rw[e];have d1:decide ((0:Int)≤m)=false:=Ad h0;dsimp only at*;generalize (s.num B).1.fail 2 s.p=s2 at*;generalize s.num B=N at*;obtain⟨s1,x⟩:=N;dsimp only at*;clear hl hs e h0;unfold CV at*;go_enter Tryz.func122,Tryz.ntmps122;go_wp2_with fail;refine (hR.out _ zA).mono ?_;rintro r w1 ⟨rfl,hb⟩;have B0:Blk w1 w.heap.size 60 #[.slice a B.length c,.int .i64 (s.p:Int),.int .i64 s.k,.int .i64 s.f]:=Blk.later zB hb;have B1:Blk w1 (w.heap.size+1) 60 #[.slice none 0 0,.int .i64 0,.int .i64 0,.int .i64 0]:=Blk.later zB hb;have hbw:Below w.heap.size w w1:=zA;obtain⟨x0,x1,x2,x3,e0,e1,e2,e3,l0⟩:=Aq B0;clear hb;go_wp2_with fail;refine (hF.out _).mono ?_;rintro r w2 ⟨rfl,hb2⟩;have B1':Blk w2 (w.heap.size+1) 60 #[.slice none 0 0,.int .i64 0,.int .i64 0,.int .i64 0]:=Blk.later zB hb2;have hbw2:Below w.heap.size w w2:=zA;obtain⟨y0,y1,y2,y3,g0,g1,g2,g3,l1⟩:=Aq B1';clear hb2 B1 B1' B0;go_wp2;refine Af (v:=.tuple #[.agg #[.slice a B.length c,.int .i64 (s2.p:Int),.int .i64 s2.k,.int .i64 s2.f],.int .i64 0]) zCo rfl ⟨rfl,zA⟩
def Rs.Cd(B:List UInt8)(s:Rs)(m:Int):Rs × List UInt8:=(s.int B m).1.take B ((s.int B m).2:Int)
theorem Le(w:World)(a:Option Addr)(c:Nat)(B:List UInt8)(hl:Ah.r (·<w.heap.size) w [.slice a B.length c] B)(s:Rs)(hs:s.ok B.length)(hB:B.length≤1000000000000)(m:Int)(hm: -9223372036854775808≤m∧m≤9223372036854775807):
  Calls Tryz.prog 204 #[CV a B.length c s,.int .i64 m] w fun r w'=>∃v,r=.returned (.tuple #[CV a B.length c (s.Cd B m).1,v])∧Ah.r (fun q=>w.heap.size≤q∧q<w'.heap.size) w' [v] (s.Cd B m).2∧Below w.heap.size w w':=by
 have hI:=hid (fun (W:World) (hW:Below w.heap.size w W)=>Ex W a c B (lift hl hW) s hs hB m hm);have hok:=Rs.Eh (B:=B) hs (m:=m);have hle:((s.int B m).2:Int)≤9223372036854775807:=zC5;have hT:=hid (fun (W:World) (hW:Below w.heap.size w W)=>Es W a c B (lift hl hW) (s.int B m).1 hok ((s.int B m).2:Int) hle hB);unfold Rs.Cd;generalize (s.int B m).1.take B ((s.int B m).2:Int)=T at*;generalize s.int B m=N at*;obtain⟨s1,x⟩:=N;obtain⟨s2,D⟩:=T;dsimp only at*;clear hl hs hok;unfold CV at*;go_enter Tryz.func204,Tryz.ntmps204;go_wp2_with fail;refine (hI.out _ zA).mono ?_;rintro r w1 ⟨rfl,hb⟩;have B1:Blk w1 (w.heap.size+1) 60 #[.slice none 0 0,.int .i64 0,.int .i64 0,.int .i64 0]:=Blk.later zB hb;have hbw:Below w.heap.size w w1:=zA;have hs1:=hb.size;simp at hs1;clear hb;go_wp2_with fail;refine (hT.out _ zA).mono ?_;rintro r w2 ⟨v,rfl,hr,hb2⟩;have B1':Blk w2 (w.heap.size+1) 60 #[.slice none 0 0,.int .i64 0,.int .i64 0,.int .i64 0]:=Blk.later zB hb2;have hbw2:Below w.heap.size w w2:=zA;obtain⟨y0,y1,y2,y3,g0,g1,g2,g3,l1⟩:=Aq B1';obtain⟨a1,c1,hv1,hr2,_⟩:=At hr;simp only[Ai,As] at hv1;subst hv1;have HR:=hid hr2;clear hr hr2 hb2 B1 B1';go_wp2;refine Af (v:=.tuple #[.agg #[.slice a B.length c,.int .i64 (s2.p:Int),.int .i64 s2.k,.int .i64 s2.f],.slice a1 D.length c1]) (by simp[results,Tryz.results204,go_sem,y0,y1,y2,y3,l1]) rfl ⟨_,rfl,?_,zA⟩;refine Ah.mono (Ah.keep HR.out fun q hq=> ?_) fun q hq=>⟨ZF,Z3⟩;have:=hq.1;simp at this;repeat (rw[Ap _ _ _ _ zH])
theorem MT(w:World){g:Nat}{B:List UInt8}{a:Option Addr}{s:Rs}(h:AY w g B a s)(hB:B.length≤1000000000000)(m:Int)(hm: -9223372036854775808≤m∧m≤9223372036854775807):Calls Tryz.prog 237 #[.pointer (some ⟨g,0,none⟩),.int .i64 m] w fun r w'=>∃v,r=.returned v∧Ah.r (fun q=>w.heap.size≤q∧q<w'.heap.size) w' [v] (s.Cd B m).2∧AB w g B a (s.Cd B m).1 w':=by
 have HI:=hid (DR w h hB m hm);have hle:((s.int B m).2:Int)≤9223372036854775807:=zC5;have hT:=hid (fun (W:World) (h:AY W g B a (s.int B m).1)=>KM W h ((s.int B m).2:Int) hle hB);unfold Rs.Cd;generalize (s.int B m).1.take B ((s.int B m).2:Int)=T at*;generalize s.int B m=N at*;obtain⟨s1,x⟩:=N;obtain⟨s2,D⟩:=T;dsimp only at*;clear h;go_enter Tryz.func237,Tryz.ntmps237;go_wp2_with fail;refine HI.out.mono ?_;rintro r w1 ⟨rfl,hst⟩;have HST:=hid hst;have hs1:=hst.size;have HT:=hid (hT.out w1 hst.1);clear hst;go_wp2_with fail;refine HT.out.mono ?_;rintro r w2 ⟨v,rfl,hr,hst2⟩;obtain⟨a1,c1,hv1,hr2,_⟩:=At hr;simp only[Ai,As] at hv1;subst hv1;have HR:=hid hr2;have HST2:=hid hst2;clear hr hr2 hst2;go_wp2;go_ret;exact⟨_,rfl,Ah.mono HR.out fun q hq=>⟨zD,hq.2⟩,AB.trans HST.out.2 HST2.out⟩
theorem Ir(h:Blk w g t #[v0,v1,v2]):w.cell? ⟨g,0,none⟩=some v0∧w.cell? ⟨g,1,none⟩=some v1∧w.cell? ⟨g,2,none⟩=some v2∧w.frozen? ⟨g,0,none⟩=false∧w.frozen? ⟨g,1,none⟩=false∧w.frozen? ⟨g,2,none⟩=false∧g<w.heap.size:=
 ⟨h.cell 0,h.cell 1,h.cell 2,h.free 0,h.free 1,h.free 2,h.lt⟩
def Rs.tok(B:List UInt8)(s:Rs):Rs × Tok:=
 if (s.num B).1.k=0 then
  (if (s.num B).2%2=0 then
   (if 1048576<(s.num B).2/2+1 then ((s.num B).1.fail 2 s.p,⟨[],0,0⟩)
   else if ((s.num B).1.take B (((s.num B).2/2+1:Nat):Int)).1.k=0 then (((s.num B).1.take B (((s.num B).2/2+1:Nat):Int)).1,⟨((s.num B).1.take B (((s.num B).2/2+1:Nat):Int)).2,0,0⟩)
   else (((s.num B).1.take B (((s.num B).2/2+1:Nat):Int)).1,⟨[],0,0⟩))
  else if 1048572<(s.num B).2/2 then ((s.num B).1.fail 2 s.p,⟨[],0,0⟩)
  else if ((s.num B).1.num B).1.k=0 then
   (if 65535<((s.num B).1.num B).2 then (((s.num B).1.num B).1.fail 10 (s.num B).1.p,⟨[],0,0⟩)
   else (((s.num B).1.num B).1,⟨[],((((s.num B).1.num B).2+1:Nat):Int),(((s.num B).2/2+4:Nat):Int)⟩))
  else (((s.num B).1.num B).1,⟨[],0,0⟩))
 else ((s.num B).1,⟨[],0,0⟩)
theorem PJ(w:World)(a:Option Addr)(c:Nat)(B:List UInt8)(hl:Ah.r (·<w.heap.size) w [.slice a B.length c] B)(s:Rs)(hs:s.ok B.length)(hB:B.length≤1000000000000):
  Calls Tryz.prog 240 #[CV a B.length c s] w fun r w'=>∃v,r=.returned (.tuple #[CV a B.length c (s.tok B).1,.agg #[v,.int .i64 (s.tok B).2.off,.int .i64 (s.tok B).2.len]])∧Ah.r (fun q=>w.heap.size≤q∧q<w'.heap.size) w' [v] (s.tok B).2.lit∧Below w.heap.size w w':=by
 have hR:=hid (fun (W:World) (hW:Below w.heap.size w W)=>CM W a c B (lift hl hW) s hs hB);have hok:=Rs.CC hs;have hsm:=Rs.Cp (B:=B) (s:=s);have hR2:=hid (fun (W:World) (hW:Below w.heap.size w W)=>CM W a c B (lift hl hW) (s.num B).1 hok hB);have hsm2:=Rs.Cp (B:=B) (s:=(s.num B).1);have hF:=hid (fun (W:World)=>Bk W a B.length c (s.num B).1 2 s.p zD);have hF2:=hid (fun (W:World)=>Bk W a B.length c ((s.num B).1.num B).1 10 (s.num B).1.p zD);have hT:=hid (fun (W:World) (hW:Below w.heap.size w W) (hn:(s.num B).2/2+1≤1048576)=>Es W a c B (lift hl hW) (s.num B).1 hok (((s.num B).2/2+1:Nat):Int) zD hB);unfold Rs.tok;generalize (s.num B).1.take B (((s.num B).2/2+1:Nat):Int)=T at*;generalize ((s.num B).1.num B).1.fail 10 (s.num B).1.p=F2 at*;generalize (s.num B).1.num B=M at*;generalize (s.num B).1.fail 2 s.p=F1 at*;generalize s.num B=N at*;obtain⟨s1,x⟩:=N;obtain⟨s2,D⟩:=T;obtain⟨s3,y⟩:=M;dsimp only at*;clear hl hs hok;unfold CV at*;by_cases hk:s1.k=0
 ·have dk:(s1.k !=(0:Int))=false:=by simp[hk]
  rw[An hk];have HK:=hid hk;clear hk;by_cases h2:x%2=0
  ·have d2:(((x:Int)%2)==0)=true:=by rw[beq_iff_eq];omega
   rw[An h2];clear h2;by_cases h3:1048576<x/2+1
   ·have d3:decide ((1048576:Int)<(x:Int)/2+1)=true:=Ae zD
    rw[An h3];clear h3;dsimp only;go_enter Jy,Ia;go_wp2_with fail;refine (hR.out _ zA).mono ?_;rintro r w1 ⟨rfl,hb⟩;have B1:Blk w1 (w.heap.size+1) 60 #[.slice none 0 0,.int .i64 0,.int .i64 0,.int .i64 0]:=Blk.later zB hb;have B2:Blk w1 (w.heap.size+1+1) 225 #[.slice none 0 0,.int .i64 0,.int .i64 0]:=Blk.later zB hb;have B0:Blk w1 w.heap.size 60 #[.slice a B.length c,.int .i64 (s.p:Int),.int .i64 s.k,.int .i64 s.f]:=Blk.later zB hb;obtain⟨x0,x1,x2,x3,e0,e1,e2,e3,l0⟩:=Aq B0;have hbw1:Below w.heap.size w w1:=zA;have hsz1:=hb.size;simp at hsz1;clear hb;go_wp2_with fail;refine (hF.out _).mono ?_;rintro r w2 ⟨rfl,hb⟩;have B1:Blk w2 (w.heap.size+1) 60 #[.slice none 0 0,.int .i64 0,.int .i64 0,.int .i64 0]:=Blk.later zB hb;have B2:Blk w2 (w.heap.size+1+1) 225 #[.slice none 0 0,.int .i64 0,.int .i64 0]:=Blk.later zB hb;have hbw2:Below w.heap.size w w2:=zA;have hsz2:=hb.size;simp at hsz2;clear hb;obtain⟨y0,y1,y2,y3,g0,g1,g2,g3,l1⟩:=Aq B1;obtain⟨z0,z1,z2,f0,f1,f2,l2⟩:=Ir B2;clear B1 B2;go_wp2;refine Af (v:=.tuple #[.agg #[.slice a B.length c,.int .i64 (F1.p:Int),.int .i64 F1.k,.int .i64 F1.f],.agg #[.slice none 0 0,.int .i64 0,.int .i64 0]]) zY rfl ⟨_,rfl,AT rfl rfl zD,zA⟩
   ·have d3:decide ((1048576:Int)<(x:Int)/2+1)=false:=Ad zD
    rw[Ak h3];have hT2:=hid (fun (W:World) (hW:Below w.heap.size w W)=>hT.out W hW zD);rw[show ((x/2+1:Nat):Int)=(x:Int)/2+1 by omega] at hT2;have hx2:x/2+1≤1048576:=zD;clear h3 hT;by_cases h4:s2.k=0
    ·have d4:(s2.k !=(0:Int))=false:=by simp[h4]
     rw[An h4];clear h4;dsimp only;go_enter Jy,Ia;go_wp2_with fail;refine (hR.out _ zA).mono ?_;rintro r w1 ⟨rfl,hb⟩;have B1:Blk w1 (w.heap.size+1) 60 #[.slice none 0 0,.int .i64 0,.int .i64 0,.int .i64 0]:=Blk.later zB hb;have B2:Blk w1 (w.heap.size+1+1) 225 #[.slice none 0 0,.int .i64 0,.int .i64 0]:=Blk.later zB hb;have B0:Blk w1 w.heap.size 60 #[.slice a B.length c,.int .i64 (s.p:Int),.int .i64 s.k,.int .i64 s.f]:=Blk.later zB hb;obtain⟨x0,x1,x2,x3,e0,e1,e2,e3,l0⟩:=Aq B0;have hbw1:Below w.heap.size w w1:=zA;have hsz1:=hb.size;simp at hsz1;clear hb;go_wp2_with fail;refine (hT2.out _ zA).mono ?_;rintro r w2 ⟨v,rfl,hr,hb⟩;have B1:Blk w2 (w.heap.size+1) 60 #[.slice none 0 0,.int .i64 0,.int .i64 0,.int .i64 0]:=Blk.later zB hb;have B2:Blk w2 (w.heap.size+1+1) 225 #[.slice none 0 0,.int .i64 0,.int .i64 0]:=Blk.later zB hb;have hbw2:Below w.heap.size w w2:=zA;have hsz2:=hb.size;simp at hsz2;clear hb;obtain⟨a1,c1,hv1,hr2,_⟩:=At hr;simp only[Ai,As] at hv1;subst hv1;have HR:=hid hr2;clear hr hr2;obtain⟨y0,y1,y2,y3,g0,g1,g2,g3,l1⟩:=Aq B1;obtain⟨z0,z1,z2,f0,f1,f2,l2⟩:=Ir B2;clear B1 B2;go_wp2;refine Af (v:=.tuple #[.agg #[.slice a B.length c,.int .i64 (s2.p:Int),.int .i64 s2.k,.int .i64 s2.f],.agg #[.slice a1 D.length c1,.int .i64 0,.int .i64 0]]) zY rfl ⟨_,rfl,?_,zA⟩;refine Ah.mono (Ah.keep HR.out fun q hq=> ?_) fun q hq=>⟨ZF,ZD⟩;have hq1:=hq.1;have hq2:=hq.2;simp at hq1;repeat (first | rw[Ap _ _ _ _ zH] | rw[A2 _ _ _ zU])
    ·have d4:(s2.k !=(0:Int))=true:=by simp[h4]
     rw[Ak h4];clear h4;dsimp only;go_enter Jy,Ia;go_wp2_with fail;refine (hR.out _ zA).mono ?_;rintro r w1 ⟨rfl,hb⟩;have B1:Blk w1 (w.heap.size+1) 60 #[.slice none 0 0,.int .i64 0,.int .i64 0,.int .i64 0]:=Blk.later zB hb;have B2:Blk w1 (w.heap.size+1+1) 225 #[.slice none 0 0,.int .i64 0,.int .i64 0]:=Blk.later zB hb;have B0:Blk w1 w.heap.size 60 #[.slice a B.length c,.int .i64 (s.p:Int),.int .i64 s.k,.int .i64 s.f]:=Blk.later zB hb;obtain⟨x0,x1,x2,x3,e0,e1,e2,e3,l0⟩:=Aq B0;have hbw1:Below w.heap.size w w1:=zA;have hsz1:=hb.size;simp at hsz1;clear hb;go_wp2_with fail;refine (hT2.out _ zA).mono ?_;rintro r w2 ⟨v,rfl,hr,hb⟩;have B1:Blk w2 (w.heap.size+1) 60 #[.slice none 0 0,.int .i64 0,.int .i64 0,.int .i64 0]:=Blk.later zB hb;have B2:Blk w2 (w.heap.size+1+1) 225 #[.slice none 0 0,.int .i64 0,.int .i64 0]:=Blk.later zB hb;have hbw2:Below w.heap.size w w2:=zA;have hsz2:=hb.size;simp at hsz2;clear hb;obtain⟨a1,c1,hv1,hr2,_⟩:=At hr;simp only[Ai,As] at hv1;subst hv1;have HR:=hid hr2;clear hr hr2;obtain⟨y0,y1,y2,y3,g0,g1,g2,g3,l1⟩:=Aq B1;obtain⟨z0,z1,z2,f0,f1,f2,l2⟩:=Ir B2;clear B1 B2;go_wp2;refine Af (v:=.tuple #[.agg #[.slice a B.length c,.int .i64 (s2.p:Int),.int .i64 s2.k,.int .i64 s2.f],.agg #[.slice none 0 0,.int .i64 0,.int .i64 0]]) zY rfl ⟨_,rfl,AT rfl rfl zD,zA⟩
  ·have d2:(((x:Int)%2)==0)=false:=by rw[Cr];omega
   rw[Ak h2];clear h2;by_cases h3:1048572<x/2
   ·have d3:decide ((1048572:Int)<(x:Int)/2)=true:=Ae zD
    rw[An h3];clear h3;dsimp only;go_enter Jy,Ia;go_wp2_with fail;refine (hR.out _ zA).mono ?_;rintro r w1 ⟨rfl,hb⟩;have B1:Blk w1 (w.heap.size+1) 60 #[.slice none 0 0,.int .i64 0,.int .i64 0,.int .i64 0]:=Blk.later zB hb;have B2:Blk w1 (w.heap.size+1+1) 225 #[.slice none 0 0,.int .i64 0,.int .i64 0]:=Blk.later zB hb;have B0:Blk w1 w.heap.size 60 #[.slice a B.length c,.int .i64 (s.p:Int),.int .i64 s.k,.int .i64 s.f]:=Blk.later zB hb;obtain⟨x0,x1,x2,x3,e0,e1,e2,e3,l0⟩:=Aq B0;have hbw1:Below w.heap.size w w1:=zA;have hsz1:=hb.size;simp at hsz1;clear hb;go_wp2_with fail;refine (hF.out _).mono ?_;rintro r w2 ⟨rfl,hb⟩;have B1:Blk w2 (w.heap.size+1) 60 #[.slice none 0 0,.int .i64 0,.int .i64 0,.int .i64 0]:=Blk.later zB hb;have B2:Blk w2 (w.heap.size+1+1) 225 #[.slice none 0 0,.int .i64 0,.int .i64 0]:=Blk.later zB hb;have hbw2:Below w.heap.size w w2:=zA;have hsz2:=hb.size;simp at hsz2;clear hb;obtain⟨y0,y1,y2,y3,g0,g1,g2,g3,l1⟩:=Aq B1;obtain⟨z0,z1,z2,f0,f1,f2,l2⟩:=Ir B2;clear B1 B2;go_wp2;refine Af (v:=.tuple #[.agg #[.slice a B.length c,.int .i64 (F1.p:Int),.int .i64 F1.k,.int .i64 F1.f],.agg #[.slice none 0 0,.int .i64 0,.int .i64 0]]) zY rfl ⟨_,rfl,AT rfl rfl zD,zA⟩
   ·have d3:decide ((1048572:Int)<(x:Int)/2)=false:=Ad zD
    rw[Ak h3];have hx2:x/2≤1048572:=zD;clear h3;by_cases h4:s3.k=0
    ·have d4:(s3.k !=(0:Int))=false:=by simp[h4]
     rw[An h4];clear h4;by_cases h5:65535<y
     ·have d5:decide ((65535:Int)<(y:Int))=true:=Ae zD
      rw[An h5];clear h5;dsimp only;go_enter Jy,Ia;go_wp2_with fail;refine (hR.out _ zA).mono ?_;rintro r w1 ⟨rfl,hb⟩;have B1:Blk w1 (w.heap.size+1) 60 #[.slice none 0 0,.int .i64 0,.int .i64 0,.int .i64 0]:=Blk.later zB hb;have B2:Blk w1 (w.heap.size+1+1) 225 #[.slice none 0 0,.int .i64 0,.int .i64 0]:=Blk.later zB hb;have B0:Blk w1 w.heap.size 60 #[.slice a B.length c,.int .i64 (s.p:Int),.int .i64 s.k,.int .i64 s.f]:=Blk.later zB hb;obtain⟨x0,x1,x2,x3,e0,e1,e2,e3,l0⟩:=Aq B0;have hbw1:Below w.heap.size w w1:=zA;have hsz1:=hb.size;simp at hsz1;clear hb;go_wp2_with fail;refine (hR2.out _ zA).mono ?_;rintro r w2 ⟨rfl,hb⟩;have B1:Blk w2 (w.heap.size+1) 60 #[.slice none 0 0,.int .i64 0,.int .i64 0,.int .i64 0]:=Blk.later zB hb;have B2:Blk w2 (w.heap.size+1+1) 225 #[.slice none 0 0,.int .i64 0,.int .i64 0]:=Blk.later zB hb;have BD:Blk w2 w1.heap.size 60 #[.slice a B.length c,.int .i64 (s1.p:Int),.int .i64 s1.k,.int .i64 s1.f]:=Blk.later zB hb;obtain⟨v0,v1,v2,v3,q0,q1,q2,q3,l3⟩:=Aq BD;have hbw2:Below w.heap.size w w2:=zA;have hsz2:=hb.size;simp at hsz2;clear hb;go_wp2_with fail;refine (hF2.out _).mono ?_;rintro r w3 ⟨rfl,hb⟩;have B1:Blk w3 (w.heap.size+1) 60 #[.slice none 0 0,.int .i64 0,.int .i64 0,.int .i64 0]:=Blk.later zB hb;have B2:Blk w3 (w.heap.size+1+1) 225 #[.slice none 0 0,.int .i64 0,.int .i64 0]:=Blk.later zB hb;have hbw3:Below w.heap.size w w3:=zA;have hsz3:=hb.size;simp at hsz3;clear hb;obtain⟨y0,y1,y2,y3,g0,g1,g2,g3,l1⟩:=Aq B1;obtain⟨z0,z1,z2,f0,f1,f2,l2⟩:=Ir B2;clear B1 B2;go_wp2;refine Af (v:=.tuple #[.agg #[.slice a B.length c,.int .i64 (F2.p:Int),.int .i64 F2.k,.int .i64 F2.f],.agg #[.slice none 0 0,.int .i64 0,.int .i64 0]]) zY rfl ⟨_,rfl,AT rfl rfl zD,zA⟩
     ·have d5:decide ((65535:Int)<(y:Int))=false:=Ad zD
      rw[Ak h5];have hy2:y≤65535:=zD;clear h5;dsimp only;go_enter Jy,Ia;go_wp2_with fail;refine (hR.out _ zA).mono ?_;rintro r w1 ⟨rfl,hb⟩;have B1:Blk w1 (w.heap.size+1) 60 #[.slice none 0 0,.int .i64 0,.int .i64 0,.int .i64 0]:=Blk.later zB hb;have B2:Blk w1 (w.heap.size+1+1) 225 #[.slice none 0 0,.int .i64 0,.int .i64 0]:=Blk.later zB hb;have B0:Blk w1 w.heap.size 60 #[.slice a B.length c,.int .i64 (s.p:Int),.int .i64 s.k,.int .i64 s.f]:=Blk.later zB hb;obtain⟨x0,x1,x2,x3,e0,e1,e2,e3,l0⟩:=Aq B0;have hbw1:Below w.heap.size w w1:=zA;have hsz1:=hb.size;simp at hsz1;clear hb;go_wp2_with fail;refine (hR2.out _ zA).mono ?_;rintro r w2 ⟨rfl,hb⟩;have B1:Blk w2 (w.heap.size+1) 60 #[.slice none 0 0,.int .i64 0,.int .i64 0,.int .i64 0]:=Blk.later zB hb;have B2:Blk w2 (w.heap.size+1+1) 225 #[.slice none 0 0,.int .i64 0,.int .i64 0]:=Blk.later zB hb;have hbw2:Below w.heap.size w w2:=zA;have hsz2:=hb.size;simp at hsz2;clear hb;obtain⟨y0,y1,y2,y3,g0,g1,g2,g3,l1⟩:=Aq B1;obtain⟨z0,z1,z2,f0,f1,f2,l2⟩:=Ir B2;clear B1 B2;go_wp2;refine Af (v:=.tuple #[.agg #[.slice a B.length c,.int .i64 (s3.p:Int),.int .i64 s3.k,.int .i64 s3.f],.agg #[.slice none 0 0,.int .i64 ((y:Int)+1),.int .i64 ((x:Int)/2+4)]]) zY rfl ⟨_,rfl,AT rfl rfl zD,zA⟩
    ·have d4:(s3.k !=(0:Int))=true:=by simp[h4]
     rw[Ak h4];clear h4;dsimp only;go_enter Jy,Ia;go_wp2_with fail;refine (hR.out _ zA).mono ?_;rintro r w1 ⟨rfl,hb⟩;have B1:Blk w1 (w.heap.size+1) 60 #[.slice none 0 0,.int .i64 0,.int .i64 0,.int .i64 0]:=Blk.later zB hb;have B2:Blk w1 (w.heap.size+1+1) 225 #[.slice none 0 0,.int .i64 0,.int .i64 0]:=Blk.later zB hb;have B0:Blk w1 w.heap.size 60 #[.slice a B.length c,.int .i64 (s.p:Int),.int .i64 s.k,.int .i64 s.f]:=Blk.later zB hb;obtain⟨x0,x1,x2,x3,e0,e1,e2,e3,l0⟩:=Aq B0;have hbw1:Below w.heap.size w w1:=zA;have hsz1:=hb.size;simp at hsz1;clear hb;go_wp2_with fail;refine (hR2.out _ zA).mono ?_;rintro r w2 ⟨rfl,hb⟩;have B1:Blk w2 (w.heap.size+1) 60 #[.slice none 0 0,.int .i64 0,.int .i64 0,.int .i64 0]:=Blk.later zB hb;have B2:Blk w2 (w.heap.size+1+1) 225 #[.slice none 0 0,.int .i64 0,.int .i64 0]:=Blk.later zB hb;have hbw2:Below w.heap.size w w2:=zA;have hsz2:=hb.size;simp at hsz2;clear hb;obtain⟨y0,y1,y2,y3,g0,g1,g2,g3,l1⟩:=Aq B1;obtain⟨z0,z1,z2,f0,f1,f2,l2⟩:=Ir B2;clear B1 B2;go_wp2;refine Af (v:=.tuple #[.agg #[.slice a B.length c,.int .i64 (s3.p:Int),.int .i64 s3.k,.int .i64 s3.f],.agg #[.slice none 0 0,.int .i64 0,.int .i64 0]]) zY rfl ⟨_,rfl,AT rfl rfl zD,zA⟩
 ·have dk:(s1.k !=(0:Int))=true:=by simp[hk]
  rw[Ak hk];clear hk;dsimp only;go_enter Jy,Ia;go_wp2_with fail;refine (hR.out _ zA).mono ?_;rintro r w1 ⟨rfl,hb⟩;have B1:Blk w1 (w.heap.size+1) 60 #[.slice none 0 0,.int .i64 0,.int .i64 0,.int .i64 0]:=Blk.later zB hb;have B2:Blk w1 (w.heap.size+1+1) 225 #[.slice none 0 0,.int .i64 0,.int .i64 0]:=Blk.later zB hb;have B0:Blk w1 w.heap.size 60 #[.slice a B.length c,.int .i64 (s.p:Int),.int .i64 s.k,.int .i64 s.f]:=Blk.later zB hb;obtain⟨x0,x1,x2,x3,e0,e1,e2,e3,l0⟩:=Aq B0;have hbw1:Below w.heap.size w w1:=zA;have hsz1:=hb.size;simp at hsz1;clear hb;obtain⟨y0,y1,y2,y3,g0,g1,g2,g3,l1⟩:=Aq B1;obtain⟨z0,z1,z2,f0,f1,f2,l2⟩:=Ir B2;clear B1 B2;go_wp2;refine Af (v:=.tuple #[.agg #[.slice a B.length c,.int .i64 (s1.p:Int),.int .i64 s1.k,.int .i64 s1.f],.agg #[.slice none 0 0,.int .i64 0,.int .i64 0]]) zY rfl ⟨_,rfl,AT rfl rfl zD,zA⟩
def DC(off:Nat):Nat→List UInt8→List UInt8
 | 0,out=>out
 | n+1,out=>DC off n (out++[out.getD (out.length-off) 0])
theorem IU(off:Nat):∀(n:Nat) (out:List UInt8),(DC off n out).length=out.length+n
 | 0,out=>rfl
 | n+1,out=>by simp only[DC,IU off n];simp;omega
def BQ(B:List UInt8)(bound:Int)(s:Rs)(out:List UInt8):Rs × List UInt8:=
 if bound-out.length<(s.head B).2.2 then ((s.head B).1.fail 11 s.p,out)
 else if (s.head B).2.1=false then (((s.head B).1.take B ((s.head B).2.2:Int)).1,out++((s.head B).1.take B ((s.head B).2.2:Int)).2)
 else
  if out.length<((s.head B).1.offset B).2 then (((s.head B).1.offset B).1.fail 10 (s.head B).1.p,out)
  else if ((s.head B).1.offset B).1.k=0 then (((s.head B).1.offset B).1,DC ((s.head B).1.offset B).2 (s.head B).2.2 out) else (((s.head B).1.offset B).1,out)
def exF(B:List UInt8)(bound:Int):Nat→Rs→List UInt8→Rs × List UInt8
 | 0,s,out=>(s,out)
 | f+1,s,out=>if s.p<B.length∧s.k=0 then exF B bound f (BQ B bound s out).1 (BQ B bound s out).2 else (s,out)
def exB(B:List UInt8)(bound:Int):List UInt8 × Int × Int:=
 if (exF B bound B.length ⟨0,0,0⟩ []).1.k=0 then ((exF B bound B.length ⟨0,0,0⟩ []).2,0,0) else ([],(exF B bound B.length ⟨0,0,0⟩ []).1.k,(exF B bound B.length ⟨0,0,0⟩ []).1.f)
theorem Rs.BV{c at_:Int}(hc:c≠0):(s.fail c at_).k≠0:=by
 unfold Rs.fail;split
 ·exact hc
 ·assumption
theorem Rs.Nt{c at_:Int}:(s.fail c at_).p=s.p:=by unfold Rs.fail;split<;>rfl
theorem Rs.Hv(h:(s.num B).1.k=0):s.p<(s.num B).1.p∧s.k=0:=by
 unfold Rs.num at*;split
 ·rename_i h0
  rw[An h0] at h;have:=(FG (B.drop s.p) 0 0).2.2.2.2 zAc;dsimp only;omega
 ·rename_i h0;rw[Ak h0] at h;exact absurd h h0
theorem Rs.JP(h:(s.head B).1.k=0):s.p<(s.head B).1.p∧s.k=0∧(s.num B).1.k=0∧1≤(s.head B).2.2∧(s.head B).2.2≤1048576:=by
 unfold Rs.head at*;by_cases h0:(s.num B).1.k=0
 ·have hm:=Rs.Hv h0
  rw[An h0] at h ⊢;by_cases h1:(s.num B).2%2=1
  ·rw[An h1] at h ⊢
   by_cases h2:1048572<(s.num B).2/2
   ·rw[An h2] at h;exact absurd h (Rs.BV zD)
   ·rw[Ak h2];exact⟨hm.1,hm.2,h0,zH,zH⟩
  ·rw[Ak h1] at h ⊢
   by_cases h2:1048575<(s.num B).2/2
   ·rw[An h2] at h;exact absurd h (Rs.BV zD)
   ·rw[Ak h2];exact⟨hm.1,hm.2,h0,zH,zH⟩
 ·rw[Ak h0] at h;exact absurd h h0
theorem Rs.TA(h:(s.head B).1.k≠0):(s.head B).2.1=false∧(s.head B).2.2=0:=by
 unfold Rs.head at*;by_cases h0:(s.num B).1.k=0
 ·rw[An h0] at h ⊢
  by_cases h1:(s.num B).2%2=1
  ·rw[An h1] at h ⊢
   by_cases h2:1048572<(s.num B).2/2
   ·rw[An h2];exact⟨rfl,rfl⟩
   ·rw[Ak h2] at h;exact absurd h0 h
  ·rw[Ak h1] at h ⊢
   by_cases h2:1048575<(s.num B).2/2
   ·rw[An h2];exact⟨rfl,rfl⟩
   ·rw[Ak h2] at h;exact absurd h0 h
 ·rw[Ak h0];exact⟨rfl,rfl⟩
theorem Rs.Gs{n:Int}(h:(s.take B n).1.k=0):s.p≤(s.take B n).1.p∧s.k=0∧(s.take B n).2.length=n.toNat:=by
 unfold Rs.take at*;cases hk:(s.skip B.length n).1
 ·exact absurd h (Rs.IE hk).1
 ·have:=Rs.FH hk
  rw[this.2.2.2];refine⟨zH,this.1,?_⟩;simp;omega
theorem Rs.I0{n:Int}(h:(s.take B n).1.k≠0):(s.take B n).2=[]:=by
 unfold Rs.take at*;cases hk:(s.skip B.length n).1
 ·simp
 ·have:=Rs.FH hk
  rw[this.2.2.2] at h;exact absurd rfl h
theorem Rs.Kl(h:(s.offset B).1.k=0):s.p<(s.offset B).1.p∧s.k=0∧(s.num B).1.k=0∧(s.offset B).2=(s.num B).2+1∧(s.num B).2<65536:=by
 unfold Rs.offset at*;dsimp only at*;by_cases h1:65536≤(s.num B).2
 ·rw[An h1] at h;exact absurd h (Rs.BV zD)
 ·rw[Ak h1] at h ⊢
  have:=Rs.Hv h;exact⟨this.1,this.2,h,by rw[An h],zD⟩
theorem Rs.Dh(h:s.k≠0):s.num B=(s,0):=by unfold Rs.num;rw[Ak h]
theorem Rs.Hj{n:Int}(h:s.k≠0):s.skip L n=(false,s):=by unfold Rs.skip;rw[Ak h]
theorem Rs.Bl{c a:Int}(h:s.k≠0):s.fail c a=s:=by unfold Rs.fail;rw[Ak h]
theorem Rs.J8{n:Int}(h:s.k≠0):s.take B n=(s,[]):=by unfold Rs.take;rw[Rs.Hj h];simp
theorem Ik(h:s.ok B.length):(BQ B bound s out).1.ok B.length:=by
 unfold BQ;split
 ·exact Rs.BH (Rs.GW h) zD
 ·split
  ·exact Rs.GI (Rs.GW h) _
  ·split
   ·exact Rs.BH (Rs.JJ (Rs.GW h)) zD
   ·split
    ·exact Rs.JJ (Rs.GW h)
    ·exact Rs.JJ (Rs.GW h)
theorem Fl(h:(BQ B bound s out).1.k=0):s.p<(BQ B bound s out).1.p∧((BQ B bound s out).2.length:Int)≤bound:=by
 unfold BQ at*;by_cases h1:bound-out.length<(s.head B).2.2
 ·rw[An h1] at h;exact absurd h (Rs.BV zD)
 ·rw[Ak h1] at h ⊢
  by_cases h2:(s.head B).2.1=false
  ·rw[An h2] at h ⊢
   have ht:=Rs.Gs h;have hh:=Rs.JP ht.2.1;refine⟨zH,?_⟩;simp only[Au,ht.2.2];omega
  ·rw[Ak h2] at h ⊢
   by_cases h3:out.length<((s.head B).1.offset B).2
   ·rw[An h3] at h;exact absurd h (Rs.BV zD)
   ·rw[Ak h3] at h ⊢
    by_cases h4:((s.head B).1.offset B).1.k=0
    ·rw[An h4]
     have ho:=Rs.Kl h4;have hh:=Rs.JP ho.2.1;refine⟨zH,?_⟩;simp only[IU];omega
    ·rw[Ak h4] at h;exact absurd h h4
theorem Qr(h:(BQ B bound s out).1.k≠0):(BQ B bound s out).2=out:=by
 unfold BQ at*;split
 ·rfl
 ·rename_i h1
  rw[Ak h1] at h;split
  ·rename_i h2
   rw[An h2] at h;rw[Rs.I0 h];simp
  ·rename_i h2
   rw[Ak h2] at h;split
   ·rfl
   ·rename_i h3
    rw[Ak h3] at h;split
    ·rename_i h4
     rw[An h4] at h;exact absurd h4 h
    ·rfl
theorem TJ:∀(f:Nat) (s:Rs) (out:List UInt8),s.ok B.length→B.length≤s.p+f→s.p<B.length→s.k=0→exF B bound f s out=exF B bound (f-1) (BQ B bound s out).1 (BQ B bound s out).2
 | 0,s,out,_,h1,h2,_=>by omega
 | f+1,s,out,_,_,h2,h3=>by simp only[exF];rw[An ⟨h2,h3⟩];rfl
theorem F0:∀(f:Nat) (s:Rs) (out:List UInt8),¬(s.p<B.length∧s.k=0)→exF B bound f s out=(s,out)
 | 0,s,out,_=>rfl
 | f+1,s,out,h=>by simp only[exF];rw[Ak h]
theorem Rg:∀(f g:Nat) (s:Rs) (out:List UInt8),s.ok B.length→B.length≤s.p+f→B.length≤s.p+g→exF B bound f s out=exF B bound g s out
 | 0,g,s,out,h,h1,h2=>by rw[F0 g s out (by have:=h.le;omega)];rfl
 | f+1,0,s,out,h,h1,h2=>by rw[F0 (f+1) s out (by have:=h.le;omega)];rfl
 | f+1,g+1,s,out,h,h1,h2=>by
  simp only[exF];by_cases hc:s.p<B.length∧s.k=0
  ·rw[An hc,An hc]
   by_cases hk:(BQ B bound s out).1.k=0
   ·have:=(Fl hk).1
    exact Rg f g _ _ (Ik h) zD zD
   ·rw[F0 f _ _ (fun e=>hk e.2),F0 g _ _ (fun e=>hk e.2)]
  ·rw[Ak hc,Ak hc]
def exR(B:List UInt8)(bound:Int)(s:Rs)(out:List UInt8):Rs × List UInt8:=exF B bound (B.length-s.p) s out
theorem TG(h:s.ok B.length)(h1:s.p<B.length)(h2:s.k=0):exR B bound s out=exR B bound (BQ B bound s out).1 (BQ B bound s out).2:=by
 unfold exR;rw[TJ _ s out h zD h1 h2];by_cases hk:(BQ B bound s out).1.k=0
 ·have:=(Fl hk).1
  exact Rg _ _ _ _ (Ik h) zD zD
 ·rw[F0 _ _ _ (fun e=>hk e.2),F0 _ _ _ (fun e=>hk e.2)]
theorem H4(h:¬(s.p<B.length∧s.k=0)):exR B bound s out=(s,out):=F0 _ _ _ h
theorem TM(B:List UInt8)(bound:Int):exB B bound=if (exR B bound ⟨0,0,0⟩ []).1.k=0 then ((exR B bound ⟨0,0,0⟩ []).2,0,0) else ([],(exR B bound ⟨0,0,0⟩ []).1.k,(exR B bound ⟨0,0,0⟩ []).1.f):=rfl
theorem H6(x:UInt8):∀u∈[Value.int .u8 (x.toNat:Int)],u.oneCell'=true:=by
 intro u hu;simp at hu;subst hu;rfl
theorem C8(l:List UInt8)(x:UInt8):byteCells l++[Value.int .u8 (x.toNat:Int)]=byteCells (l++[x]):=zBe
theorem Nv(w:World)(out:List UInt8)(hown:w.ownsRow base 5 1 (.slice a out.length c) out.length (byteCells out))(hbase:base≤w.heap.size)(off n:Nat)(h1:1≤off)(h2:off≤out.length)(hn:out.length+n≤1000000000000):
  Calls Tryz.prog 260 #[.slice a out.length c,.int .i64 (off:Int),.int .i64 (n:Int)] w fun r w'=>∃a' c',r=.returned (.slice a' (out.length+n) c')∧w'.ownsRow base 5 1 (.slice a' (out.length+n) c') (out.length+n) (byteCells (DC off n out))∧Below base w w':=by
 obtain⟨i0,hi,hz0,hz1,hz2⟩:=Bc Ey;have HO:=hid hown;clear hown;go_enter Tryz.func260,Tryz.ntmps260;go_wp2_with fail;go_loopw [0,8] (fun o i wr=>∃(k:Nat) (J:List UInt8) (aJ:Option Addr) (cJ:Nat),k≤n∧i=.int .i64 k∧o=.slice aJ J.length cJ∧wr.ownsRow base 5 1 (.slice aJ J.length cJ) J.length (byteCells J)∧Hid (DC off n out=DC off (n-k) J)∧Hid (J.length=out.length+k)∧Below base w wr∧base≤wr.heap.size) (fun _ i _=>n-(intOf i).toNat)
 case atStart=>exact ⟨0,out,a,c,Ao _,rfl,rfl,HO.out,hid rfl,hid rfl,Below.refl _ _,hbase⟩
 case round=>
  obtain⟨k,J,aJ,cJ,hk,rfl,rfl,ho,hJ,hln,hb,hbs⟩:=hrel;have HJO:=hid ho;rcases Bm k n with hlt | hge
  ·have d1:decide ((k:Int)<(n:Int))=true:=Ae zD
   have d1':decide (k<n)=true:=Ae hlt;have hml:off≤J.length:=by have:=hln.out;omega
   have hJm:J.length+1≤1000000000000:=by have:=hln.out;omega
   have hst:Hid (DC off (n-k) J=DC off (n-(k+1)) (J++[J.getD (J.length-off) 0])):=hid zDc;have hgd:J.getD (J.length-off) 0=J[J.length-off]'zD:=zB7;rw[hgd] at hst;obtain⟨gb,ob,hA,hgb,hc⟩:=Bt (GA rfl ho) (i:=J.length-off) zD;subst hA;obtain⟨m,hm⟩:∃m,m=J.length-off:=⟨_,rfl⟩;have e1:(J.length:Int)-(off:Int)=(m:Int):=zD;generalize J[J.length-off]'zD=x at*;rw[←hm] at hc;have i1:(m:Int)<(J.length:Int):=zD;have i2:(0:Int)≤(m:Int):=zD;clear ho hgd hm;go_wp2_with (at_builtin;go_loud (refine Ar rfl _ _ _ rfl base 5 i0 (.int .u8 0) 1 1 AK hi hz0 hz1 hz2 rfl zS (.slice (some ⟨gb,ob,none⟩) J.length cJ) J.length (byteCells J) rfl (AR HJO.out zC) (some ⟨wr.heap.size,0,none⟩) 1 1 [.int .u8 (x.toNat:Int)] rfl (Bf wr 5 _ rfl rfl rfl) (H6 x) zR zD zM ?_;intro v' w3 hown3 hgrow3 hat3;obtain⟨a3,c3,rfl⟩:=AX hown3;have HO3:=hid hown3;have HG3:=hid hgrow3;clear hown3 hgrow3 hat3))
   have ho3:=HO3.out;rw[C8,show J.length+1=(J++[x]).length by simp] at ho3;have hb3:Below base wr w3:=(Below.grown (Below.refl _ _) HG3.out zM (fun g e=>(HJO.out.lt g e).1)) |>(fun h=>(Aw (Below.refl _ _) _ |>.mono hbs).trans h);have HO4:=hid ho3;have hs3:=hb3.size;clear ho3 hc;go_roundw
   case rel=>exact ⟨k+1,J++[x],a3,c3,zD,zZ,zP,HO4.out,hid (hJ.out.trans hst.out),hid (by simp;have:=hln.out;omega),hb.trans hb3,zD⟩
   case measure=>simp [intOf];omega
  ·obtain rfl:k=n:=by omega
   have d1:decide ((k:Int)<(k:Int))=false:=Ad zD;have hfin:Hid (DC off k out=J):=hid (by rw[hJ.out,Dg];rfl);clear ho;go_wp2;go_ret;have hl:J.length=out.length+k:=hln.out;rw[hfin.out,←hl];exact⟨_,_,rfl,HJO.out,hb⟩
def Ed(x:Nat):Nat:=if x%2=0∧x/2<1048576 then x/2+1 else if x%2=1∧x/2≤1048572 then x/2+4 else 0
theorem PI(w:World)(x:Nat)(hx:x<18446744073709551616):Calls Tryz.prog 239 #[.int .u64 (x:Int)] w fun r w'=>r=.returned (.int .i64 (Ed x:Int))∧w=w':=by
 unfold Ed;by_cases h2:x%2=0
 ·have d2:(((x:Int)%2)==0)=true:=by rw[beq_iff_eq];omega
  have d3:(((x:Int)%2)==1)=false:=by rw[Cr];omega
  by_cases h3:x/2<1048576
  ·have d4:decide ((x:Int)/2<1048576)=true:=Ae zD
   rw[An ⟨h2,h3⟩];go_enter Tryz.func239,Tryz.ntmps239;go_wp2;go_ret;exact⟨zP,rfl⟩
  ·have d4:decide ((x:Int)/2<1048576)=false:=Ad zD
   rw[Ak (fun e=>h3 e.2),Ak (fun e=>zD)];go_enter Tryz.func239,Tryz.ntmps239;go_wp2;go_ret;exact⟨rfl,rfl⟩
 ·have d2:(((x:Int)%2)==0)=false:=by rw[Cr];omega
  have d3:(((x:Int)%2)==1)=true:=by rw[beq_iff_eq];omega
  by_cases h3:x/2≤1048572
  ·have d4:decide ((x:Int)/2≤1048572)=true:=Ae zD
   rw[Ak (fun e=>h2 e.1),An ⟨zD,h3⟩];go_enter Tryz.func239,Tryz.ntmps239;go_wp2;go_ret;exact⟨zP,rfl⟩
  ·have d4:decide ((x:Int)/2≤1048572)=false:=Ad zD
   rw[Ak (fun e=>h2 e.1),Ak (fun e=>h3 e.2)];go_enter Tryz.func239,Tryz.ntmps239;go_wp2;go_ret;exact⟨rfl,rfl⟩
theorem LH(l l':List UInt8):byteCells l++byteCells l'=byteCells (l++l'):=zBe
structure KD(w W:World)(B:List UInt8)(a:Option Addr)(s:Rs)(out:List UInt8)(aO:Option Addr)(cO:Nat):Prop where
 rd:AY W (w.heap.size+1) B a s
 dat:Ah.r (·<w.heap.size) W [.slice a B.length B.length] B
 fl:Blk W w.heap.size 58 #[.int .i64 0,.int .i64 0]
 own:W.ownsRow (w.heap.size+2) 5 1 (.slice aO out.length cO) out.length (byteCells out)
 be:Below w.heap.size w W
 sz:w.heap.size+2≤W.heap.size
section
variable {w W W':World} {B:List UInt8} {a:Option Addr} {s s':Rs} {out out':List UInt8} {aO aO':Option Addr} {cO cO':Nat}
theorem KD.later(h:KD w W B a s out aO cO)(hb:Below W.heap.size W W'):KD w W' B a s out aO cO:=
 ⟨h.rd.later hb,Ah.keep h.dat fun q hq=>hb.block q (by have:=h.sz;omega),h.fl.later hb,AR h.own hb,Ag hb h.be,A4 h.sz hb.size⟩
theorem Uk(h:W.ownsRow base e size v n xs)(hg:g<base)(hb:Tch (·=g) W W'):W'.ownsRow base e size v n xs:=by
 refine⟨h.1,?_⟩;rcases h.2 with h0 | ⟨g',cap,cur,h1,h2,h3,h4⟩
 ·exact .inl h0
 ·exact .inr ⟨g',cap,cur,h1,h2,(hb.block _ (Blk.lt h3) zD).trans h3,h4⟩
theorem KD.step(h:KD w W B a s out aO cO)(k:AB W (w.heap.size+1) B a s' W'):KD w W' B a s' out aO cO:=
 ⟨k.1,Ah.keep h.dat fun q hq=>k.2.block q (by have:=h.sz;omega) zD,h.fl.tch k.2 zD,Uk h.own zD k.2,h.be.trans (k.below h.be.size zD),A4 h.sz k.size⟩
theorem KD.row(h:KD w W B a s out aO cO)(hb:Below (w.heap.size+2) W W')(ho:W'.ownsRow (w.heap.size+2) 5 1 (.slice aO' out'.length cO') out'.length (byteCells out')):KD w W' B a s out' aO' cO':=by
 have hd:=Ah.keep h.dat (w':=W') fun q hq=>hb.block q zD;exact⟨⟨h.rd.blk.below hb zD,Ah.mono hd fun q hq=>⟨by have:=h.sz;have:=hb.size;omega,zD⟩,h.rd.ok⟩,hd,h.fl.below hb zD,ho,h.be.trans (hb.mono zD),A4 h.sz hb.size⟩
end
def LF(W:World)(g i:Nat):Int:=intOf ((W.cell? ⟨g,i,none⟩).getD undef)
theorem AY.cells(h:AY w g B a s):LF w g 1=s.p∧LF w g 2=s.k:=by
 have c1:=h.blk.cell 1;have c2:=h.blk.cell 2;simp at c1 c2;unfold LF;rw[c1,c2];exact⟨rfl,rfl⟩
def TI(L g:Nat)(W:World):Nat:=if LF W g 2=0 then L+1-(LF W g 1).toNat else 0
theorem Rf(h:AY w g B a s):TI B.length g w=if s.k=0 then B.length+1-s.p else 0:=by
 unfold TI;rw[h.cells.1,h.cells.2];simp
theorem KR(h:AY w g B a s)(h':AY w' g B a s')(hk:s.k=0)(hp:s.p<B.length)(hs:s'.k=0→s.p<s'.p):TI B.length g w'<TI B.length g w:=by
 rw[Rf h,Rf h',An hk];split
 ·have:=hs zN;omega
 ·omega
def OI(bound:Int)(out:List UInt8):Prop:=out=[]∨(out.length:Int)≤bound
theorem Lz(h:OI bound out)(hb: -9223372036854775808≤bound∧bound≤1048576):out.length≤1048576∧-9223372036854775808≤bound-(out.length:Int):=by
 rcases h with rfl | h
 ·simp;omega
 ·omega
theorem JS(h:OI bound out):OI bound (BQ B bound s out).2:=by
 by_cases hk:(BQ B bound s out).1.k=0
 ·exact .inr (Fl hk).2
 ·rw[Qr hk];exact h
set_option maxHeartbeats 12800000 in
theorem Nu(w:World)(B:List UInt8)(a:Option Addr)(n c:Nat)(hl:Ah.r (·<w.heap.size) w [.slice a n c] B)(hB:B.length≤1000000000)(bound:Int)(hbd: -9223372036854775808≤bound∧bound≤1048576):
  Calls Tryz.prog 238 #[.slice a n c,.int .i64 bound] w fun r w'=>∃v,r=.returned (.tuple #[v,.agg #[.int .i64 (exB B bound).2.1,.int .i64 (exB B bound).2.2]])∧Ah.r (fun q=>w.heap.size≤q∧q<w'.heap.size) w' [v] (exB B bound).1∧Below w.heap.size w w':=by
 obtain⟨rfl,hm,hcc,hcm⟩:=AU hl;obtain⟨i0,hi,hz0,hz1,hz2⟩:=Bc Ey;have hcap:Ah.r (·<w.heap.size) w [.slice a B.length B.length] B:=by
  obtain⟨a',c',e,h1,h2,h3⟩:=hl;simp at e;obtain⟨rfl,rfl⟩:=e;exact AZ rfl (Aj _) (by simp[maxLen];omega) h3
 have HL:=hid hl;have HCAP:=hid hcap;clear hl hcap;go_enter Tryz.func238,Tryz.ntmps238;go_wp2;refine MY 1 0 zD
  (fun a' W=>∃(s:Rs) (out:List UInt8) (aO:Option Addr) (cO:Nat) (rest:Hid (exR B bound s out=exR B bound ⟨0,0,0⟩ [])) (u2 u3 u8 u9 u10 u11 u12 u13 u14 u15 u16 u17 u18 u19 u20 u21 u22 u23 u24 u25 u26 u27 u28 u29 u30 u31 u32 u33 u34 u35 u36 u37 u38 u39 u40 u41 u42 u43 u44 u45 u46 u47 u48 u49 u50 u51 u52 u53 u54 u55 u56 u57 u58 u59 u60 u61 u62 u63 u64 u65 u66 u67 u68 u69 u70:Value),KD w W B a s out aO cO∧OI bound out∧a'={tmps:=VR,defers:=[]})
  (fun a' W=>∃(s:Rs) (out:List UInt8) (aO:Option Addr) (cO:Nat) (rest:Hid (exR B bound ⟨0,0,0⟩ []=(s,out))) (u2 u3 u8 u9 u10 u11 u12 u13 u14 u15 u16 u17 u18 u19 u20 u21 u22 u23 u24 u25 u26 u27 u28 u29 u30 u31 u32 u33 u34 u35 u36 u37 u38 u39 u40 u41 u42 u43 u44 u45 u46 u47 u48 u49 u50 u51 u52 u53 u54 u55 u56 u57 u58 u59 u60 u61 u62 u63 u64 u65 u66 u67 u68 u69 u70:Value),KD w W B a s out aO cO∧OI bound out∧a'={tmps:=VR,defers:=[]})
  (fun _ W=>TI B.length (w.heap.size+1) W) rfl rfl ?_ ?_ ?_
 ·rintro a' W ⟨s,out,aO,cO,hex,u2,u3,u8,u9,u10,u11,u12,u13,u14,u15,u16,u17,u18,u19,u20,u21,u22,u23,u24,u25,u26,u27,u28,u29,u30,u31,u32,u33,u34,u35,u36,u37,u38,u39,u40,u41,u42,u43,u44,u45,u46,u47,u48,u49,u50,u51,u52,u53,u54,u55,u56,u57,u58,u59,u60,u61,u62,u63,u64,u65,u66,u67,u68,u69,u70,hI,hin,rfl⟩
  have hlen:=Lz hin hbd;have hok:=hI.rd.ok;have hpl:=hok.le;have HI:=hid hI;have HIN:=hid hin;have HLF:=hid (KN W hI.rd);have hsz:=hI.sz;clear hI hin;by_cases hp:s.p<B.length
  ·have e0:(((B.length:Int)-(s.p:Int))==0)=false:=by rw[Cr];omega
   by_cases hk:s.k=0
   ·have hgo:=TG (bound:=bound) (out:=out) hok hp hk
    rw[hex.out] at hgo;have hmore:=Fl (B:=B) (bound:=bound) (s:=s) (out:=out);have hin2:=hid (JS (B:=B) (s:=s) HIN.out);have hst2:BQ B bound s out=BQ B bound s out:=rfl;conv at hst2=>rhs;unfold BQ
    generalize BQ B bound s out=ES at*;have hhead:=hid (fun (W:World) (h:AY W (w.heap.size+1) B a s)=>Pa W h zD);have hhok:=Rs.GW (B:=B) hok;have hhle:(s.head B).2.2≤1048576:=by
     by_cases h0:(s.head B).1.k=0
     ·exact (Rs.JP h0).2.2.2.2
     ·rw[(Rs.TA h0).2];omega
    have hh1:(s.head B).2.1=true→1≤((s.head B).1.offset B).2∨((s.head B).1.offset B).1.k≠0:=fun _=>by
     by_cases h0:((s.head B).1.offset B).1.k=0
     ·left;rw[(Rs.Kl h0).2.2.2.1];omega
     ·right;exact h0
    have htake:=hid (fun (W:World) (h:AY W (w.heap.size+1) B a (s.head B).1)=>KM W h ((s.head B).2.2:Int) zD zD);have htl:((s.head B).1.take B ((s.head B).2.2:Int)).2.length≤1048576:=by
     by_cases h0:((s.head B).1.take B ((s.head B).2.2:Int)).1.k=0
     ·rw[(Rs.Gs h0).2.2];omega
     ·rw[Rs.I0 h0];simp
    have hoff:=hid (fun (W:World) (h:AY W (w.heap.size+1) B a (s.head B).1)=>M3 W h zD);have hatp:=hid (fun (W:World) (h:AY W (w.heap.size+1) B a (s.head B).1)=>Cc W h);have hfail:=hid (fun (W:World) (h:AY W (w.heap.size+1) B a (s.head B).1)=>Br W h 11 s.p zD);have hfail2:=hid (fun (W:World) (h:AY W (w.heap.size+1) B a ((s.head B).1.offset B).1)=>Br W h 10 (s.head B).1.p zD);have hfk:=(Rs.BV (s:=(s.head B).1) (c:=11) (at_:=(s.p:Int)) zD);have hfk2:=(Rs.BV (s:=((s.head B).1.offset B).1) (c:=10) (at_:=((s.head B).1.p:Int)) zD);generalize (s.head B).1.fail 11 s.p=F1 at*;generalize ((s.head B).1.offset B).1.fail 10 (s.head B).1.p=F2 at*;generalize (s.head B).1.take B ((s.head B).2.2:Int)=TK at*;generalize (s.head B).1.offset B=OF at*;generalize s.head B=H at*;obtain⟨s1,ic,m⟩:=H;obtain⟨s2,D⟩:=TK;obtain⟨s3,of⟩:=OF;dsimp only at*;have HK:=hid hk;have hG:=AG;have dk:decide (s.k=0)=true:=Ae hk;have HGO:=hid hgo;have HMORE:=hid hmore;have hpx:=hp;have HST2:=hid hst2;clear hk hgo hmore hst2 hG hok;by_cases hb1:bound-(out.length:Int)<(m:Int)
    ·have d1:decide (bound-(out.length:Int)<(m:Int))=true:=Ae hb1
     have hes:=HST2.out;rw[An hb1] at hes;subst hes;have HGO2:=hid (HGO.out.trans (H4 (fun e=>hfk e.2)));clear hb1 HST2;go_wp2_with fail;refine HLF.out.mono ?_;rintro r w1 ⟨rfl,hb1⟩;have hG:=AG w1 (HI.out.rd.later hb1);rw[dk] at hG;have HG:=hid hG;clear hG dk;go_wp2_with fail;refine HG.out.mono ?_;rintro r w2 ⟨rfl,hb2⟩;have HI2:=hid (HI.out.later (Ag hb2 hb1));have HAT:=hid (Cc w2 HI2.out.rd);go_wp2_with fail;refine HAT.out.mono ?_;rintro r w2' ⟨rfl,rfl⟩;have HHD:=hid (hhead.out w2 HI2.out.rd);go_wp2_with fail;refine HHD.out.mono ?_;rintro r w3 ⟨rfl,hst3⟩;have HI3:=hid (HI2.out.step hst3);clear hst3;have HFL:=hid (hfail.out w3 HI3.out.rd);go_wp2_with fail;refine HFL.out.mono ?_;rintro r w4 ⟨rfl,hst4⟩;have HI4:=hid (HI3.out.step hst4);clear hst4;go_wp2;go_step3
     exact .inr ⟨rfl,F1,out,aO,cO,HGO2,_,_,_,_,_,_,_,_,_,_,_,_,_,_,_,_,_,_,_,_,_,_,_,_,_,_,_,_,_,_,_,_,_,_,_,_,_,_,_,_,_,_,_,_,_,_,_,_,_,_,_,_,_,_,_,_,_,_,_,_,_,_,_,_,_,HI4.out,HIN.out,rfl⟩
    ·have d1:decide (bound-(out.length:Int)<(m:Int))=false:=Ad hb1
     have hes:=HST2.out;rw[Ak hb1] at hes;clear HST2;cases ic
     ·simp only[DE] at hes
      subst hes;clear hb1;go_wp2_with fail;refine HLF.out.mono ?_;rintro r w1 ⟨rfl,hb1⟩;have hG:=AG w1 (HI.out.rd.later hb1);rw[dk] at hG;have HG:=hid hG;clear hG dk;go_wp2_with fail;refine HG.out.mono ?_;rintro r w2 ⟨rfl,hb2⟩;have HI2:=hid (HI.out.later (Ag hb2 hb1));have HAT:=hid (Cc w2 HI2.out.rd);go_wp2_with fail;refine HAT.out.mono ?_;rintro r w2' ⟨rfl,rfl⟩;have HHD:=hid (hhead.out w2 HI2.out.rd);go_wp2_with fail;refine HHD.out.mono ?_;rintro r w3 ⟨rfl,hst3⟩;have HI3:=hid (HI2.out.step hst3);clear hst3;have HTK:=hid (htake.out w3 HI3.out.rd);go_wp2_with fail;refine HTK.out.mono ?_;rintro r w4 ⟨v,rfl,hr,hst4⟩;obtain⟨aD,cD,hv,hr2,_⟩:=At hr;simp only[Ai,As] at hv;subst hv;have HI4:=hid (HI3.out.step hst4);have HS4:=hid (BZ hr2);have HONE:=hid (Bd D);have hsz4:=HI4.out.sz;clear hst4 hr hr2;go_wp2_with (at_builtin;go_loud (refine Ar rfl _ _ _ rfl (w.heap.size+2) 5 i0 (.int .u8 0) 1 1 AK hi hz0 hz1 hz2 rfl zS (.slice aO out.length cO) out.length (byteCells out) rfl HI4.out.own aD D.length cD (byteCells D) rfl HS4.out HONE.out zR zD zD ?_;intro v' w5 hown5 hgrow5 hat5;obtain⟨a5,c5,rfl⟩:=AX hown5;have HO5:=hid hown5;have HG5:=hid hgrow5;clear hown5 hgrow5 hat5))
      have ho:=HO5.out;rw[LH,show out.length+D.length=(out++D).length by simp] at ho;have hb5:Below (w.heap.size+2) w4 w5:=Below.grown (Below.refl _ _) HG5.out zD (fun g e=>(HI4.out.own.lt g e).1);have HI5:=hid (HI4.out.row hb5 ho);clear ho hb5;rw[show out.length+D.length=(out++D).length by simp];go_step3
      exact .inl ⟨rfl,⟨s2,out++D,a5,c5,hid HGO.out.symm,_,_,_,_,_,_,_,_,_,_,_,_,_,_,_,_,_,_,_,_,_,_,_,_,_,_,_,_,_,_,_,_,_,_,_,_,_,_,_,_,_,_,_,_,_,_,_,_,_,_,_,_,_,_,_,_,_,_,_,_,_,_,_,_,_,HI5.out,hin2.out,rfl⟩,KR HI.out.rd HI5.out.rd HK.out hpx (fun h=>(HMORE.out h).1)⟩
     ·simp only[Bool.true_eq_false,if_false] at hes
      by_cases h3:out.length<of
      ·have d3:decide ((out.length:Int)<(of:Int))=true:=Ae zD
       have d3':decide (out.length<of)=true:=Ae h3;rw[An h3] at hes;subst hes;clear hb1;go_wp2_with fail;refine HLF.out.mono ?_;rintro r w1 ⟨rfl,hb1⟩;have hG:=AG w1 (HI.out.rd.later hb1);rw[dk] at hG;have HG:=hid hG;clear hG dk;go_wp2_with fail;refine HG.out.mono ?_;rintro r w2 ⟨rfl,hb2⟩;have HI2:=hid (HI.out.later (Ag hb2 hb1));have HAT:=hid (Cc w2 HI2.out.rd);go_wp2_with fail;refine HAT.out.mono ?_;rintro r w2' ⟨rfl,rfl⟩;have HHD:=hid (hhead.out w2 HI2.out.rd);go_wp2_with fail;refine HHD.out.mono ?_;rintro r w3 ⟨rfl,hst3⟩;have HI3:=hid (HI2.out.step hst3);clear hst3;have HATP:=hid (hatp.out w3 HI3.out.rd);go_wp2_with fail;refine HATP.out.mono ?_;rintro r w3' ⟨rfl,rfl⟩;have HOF:=hid (hoff.out w3 HI3.out.rd);go_wp2_with fail;refine HOF.out.mono ?_;rintro r w4 ⟨rfl,hst4⟩;have HI4:=hid (HI3.out.step hst4);clear hst4;have HFL:=hid (hfail2.out w4 HI4.out.rd);go_wp2_with fail;refine HFL.out.mono ?_;rintro r w5 ⟨rfl,hst5⟩;have HI5:=hid (HI4.out.step hst5);have hG5:=AG w5 HI5.out.rd;rw[Ad hfk2] at hG5;have HG5:=hid hG5;clear hst5 hG5;go_wp2_with fail;refine HG5.out.mono ?_;rintro r w6 ⟨rfl,hb6⟩;have HI6:=hid (HI5.out.later hb6);go_wp2;go_step3
       exact .inl ⟨rfl,⟨F2,out,aO,cO,hid HGO.out.symm,_,_,_,_,_,_,_,_,_,_,_,_,_,_,_,_,_,_,_,_,_,_,_,_,_,_,_,_,_,_,_,_,_,_,_,_,_,_,_,_,_,_,_,_,_,_,_,_,_,_,_,_,_,_,_,_,_,_,_,_,_,_,_,_,_,HI6.out,HIN.out,rfl⟩,KR HI.out.rd HI6.out.rd HK.out hpx (fun h=>absurd h hfk2)⟩
      ·have d3:decide ((out.length:Int)<(of:Int))=false:=Ad zD
       have d3':decide (out.length<of)=false:=Ad h3;rw[Ak h3] at hes;by_cases h4:s3.k=0
       ·have d4:decide (s3.k=0)=true:=Ae h4
        rw[An h4] at hes;have hof1:1≤of:=by exact (hh1 rfl).elim id (absurd h4)
        subst hes;go_wp2_with fail;refine HLF.out.mono ?_;rintro r w1 ⟨rfl,hb1⟩;have hG:=AG w1 (HI.out.rd.later hb1);rw[dk] at hG;have HG:=hid hG;clear hG dk;go_wp2_with fail;refine HG.out.mono ?_;rintro r w2 ⟨rfl,hb2⟩;have HI2:=hid (HI.out.later (Ag hb2 hb1));have HAT:=hid (Cc w2 HI2.out.rd);go_wp2_with fail;refine HAT.out.mono ?_;rintro r w2' ⟨rfl,rfl⟩;have HHD:=hid (hhead.out w2 HI2.out.rd);go_wp2_with fail;refine HHD.out.mono ?_;rintro r w3 ⟨rfl,hst3⟩;have HI3:=hid (HI2.out.step hst3);clear hst3;have HATP:=hid (hatp.out w3 HI3.out.rd);go_wp2_with fail;refine HATP.out.mono ?_;rintro r w3' ⟨rfl,rfl⟩;have HOF:=hid (hoff.out w3 HI3.out.rd);go_wp2_with fail;refine HOF.out.mono ?_;rintro r w4 ⟨rfl,hst4⟩;have HI4:=hid (HI3.out.step hst4);clear hst4;have hG5:=AG w4 HI4.out.rd;rw[d4] at hG5;have HG5:=hid hG5;clear hG5 d4;go_wp2_with fail;refine HG5.out.mono ?_;rintro r w6 ⟨rfl,hb6⟩;have HI6:=hid (HI4.out.later hb6);have HAG:=hid (Nv w6 out HI6.out.own HI6.out.sz of m hof1 zD zD);have HAL:=hid (IU of m out);have HIN2:=hid hin2.out;clear hb1;go_wp2_with fail;refine HAG.out.mono ?_;rintro r w7 ⟨a7,c7,rfl,hown7,hb7⟩;rw[←HAL.out] at hown7;have HI7:=hid (HI6.out.row hb7 hown7);clear hown7;go_wp2;rw[←HAL.out];go_step3
        exact .inl ⟨rfl,⟨s3,_,a7,c7,hid HGO.out.symm,_,_,_,_,_,_,_,_,_,_,_,_,_,_,_,_,_,_,_,_,_,_,_,_,_,_,_,_,_,_,_,_,_,_,_,_,_,_,_,_,_,_,_,_,_,_,_,_,_,_,_,_,_,_,_,_,_,_,_,_,_,_,_,_,_,HI7.out,HIN2.out,rfl⟩,KR HI.out.rd HI7.out.rd HK.out hpx (fun h=>(HMORE.out h).1)⟩
       ·have d4:decide (s3.k=0)=false:=Ad h4
        rw[Ak h4] at hes;subst hes;clear hb1;go_wp2_with fail;refine HLF.out.mono ?_;rintro r w1 ⟨rfl,hb1⟩;have hG:=AG w1 (HI.out.rd.later hb1);rw[dk] at hG;have HG:=hid hG;clear hG dk;go_wp2_with fail;refine HG.out.mono ?_;rintro r w2 ⟨rfl,hb2⟩;have HI2:=hid (HI.out.later (Ag hb2 hb1));have HAT:=hid (Cc w2 HI2.out.rd);go_wp2_with fail;refine HAT.out.mono ?_;rintro r w2' ⟨rfl,rfl⟩;have HHD:=hid (hhead.out w2 HI2.out.rd);go_wp2_with fail;refine HHD.out.mono ?_;rintro r w3 ⟨rfl,hst3⟩;have HI3:=hid (HI2.out.step hst3);clear hst3;have HATP:=hid (hatp.out w3 HI3.out.rd);go_wp2_with fail;refine HATP.out.mono ?_;rintro r w3' ⟨rfl,rfl⟩;have HOF:=hid (hoff.out w3 HI3.out.rd);go_wp2_with fail;refine HOF.out.mono ?_;rintro r w4 ⟨rfl,hst4⟩;have HI4:=hid (HI3.out.step hst4);clear hst4;have hG5:=AG w4 HI4.out.rd;rw[d4] at hG5;have HG5:=hid hG5;clear hG5 d4;go_wp2_with fail;refine HG5.out.mono ?_;rintro r w6 ⟨rfl,hb6⟩;have HI6:=hid (HI4.out.later hb6);go_wp2;go_step3
        exact .inl ⟨rfl,⟨s3,out,aO,cO,hid HGO.out.symm,_,_,_,_,_,_,_,_,_,_,_,_,_,_,_,_,_,_,_,_,_,_,_,_,_,_,_,_,_,_,_,_,_,_,_,_,_,_,_,_,_,_,_,_,_,_,_,_,_,_,_,_,_,_,_,_,_,_,_,_,_,_,_,_,_,HI6.out,HIN.out,rfl⟩,KR HI.out.rd HI6.out.rd HK.out hpx (fun h=>absurd h h4)⟩
   ·have dk:decide (s.k=0)=false:=Ad hk
    have hst:=H4 (bound:=bound) (out:=out) (fun e=>hk e.2:¬(s.p<B.length∧s.k=0));have HEX:=hid (hex.out.symm.trans hst);clear hk hst hex;go_wp2_with fail;refine HLF.out.mono ?_;rintro r w1 ⟨rfl,hb1⟩;have hG:=AG w1 (HI.out.rd.later hb1);rw[dk] at hG;have HG:=hid hG;clear hG dk;go_wp2_with fail;refine HG.out.mono ?_;rintro r w2 ⟨rfl,hb2⟩;have HI2:=hid (HI.out.later (Ag hb2 hb1));go_wp2;go_step3
    exact .inr ⟨rfl,s,out,aO,cO,HEX,_,_,_,_,_,_,_,_,_,_,_,_,_,_,_,_,_,_,_,_,_,_,_,_,_,_,_,_,_,_,_,_,_,_,_,_,_,_,_,_,_,_,_,_,_,_,_,_,_,_,_,_,_,_,_,_,_,_,_,_,_,_,_,_,_,HI2.out,HIN.out,rfl⟩
  ·have e0:(((B.length:Int)-(s.p:Int))==0)=true:=by rw[beq_iff_eq];omega
   have hst:=H4 (bound:=bound) (out:=out) (fun e=>hp e.1:¬(s.p<B.length∧s.k=0));have HEX:=hid (hex.out.symm.trans hst);clear hst hex;go_wp2_with fail;refine HLF.out.mono ?_;rintro r w1 ⟨rfl,hb1⟩;have HI2:=hid (HI.out.later hb1);go_wp2;go_step3
   exact .inr ⟨rfl,s,out,aO,cO,HEX,_,_,_,_,_,_,_,_,_,_,_,_,_,_,_,_,_,_,_,_,_,_,_,_,_,_,_,_,_,_,_,_,_,_,_,_,_,_,_,_,_,_,_,_,_,_,_,_,_,_,_,_,_,_,_,_,_,_,_,_,_,_,_,_,_,HI2.out,HIN.out,rfl⟩
 ·rintro a' W ⟨s,out,aO,cO,hex,u2,u3,u8,u9,u10,u11,u12,u13,u14,u15,u16,u17,u18,u19,u20,u21,u22,u23,u24,u25,u26,u27,u28,u29,u30,u31,u32,u33,u34,u35,u36,u37,u38,u39,u40,u41,u42,u43,u44,u45,u46,u47,u48,u49,u50,u51,u52,u53,u54,u55,u56,u57,u58,u59,u60,u61,u62,u63,u64,u65,u66,u67,u68,u69,u70,hI,hin,rfl⟩
  have HI:=hid hI;have HFA:=hid (Hr W hI.rd);have hsz:=hI.sz;have hle:=Lz hin hbd;have hex2:=TM B bound;rw[hex.out] at hex2;dsimp only at hex2;clear hin hI hex;by_cases hk:s.k=0
  ·rw[An hk] at hex2
   have HX:=hid hex2;have dk:decide (s.k=0)=true:=Ae hk;have HK:=hid hk;clear hk hex2;go_wp2_with fail;refine HFA.out.mono ?_;rintro r w1 ⟨rfl,hb1⟩;have hG:=CN (w1.alloc (.cells #[.int .i64 s.k,.int .i64 s.f] 58)) s.k s.f;rw[dk] at hG;have HG:=hid hG;clear hG dk;go_wp2_with fail;refine HG.out.mono ?_;rintro r w2 ⟨rfl,hb2⟩;have hb12:Below W.heap.size W w2:=Ag hb2 (Aw hb1 _);have HI2:=hid (HI.out.later hb12);have hfl:=HI2.out.fl;obtain⟨y0,y1,g0,g1,l1⟩:=A1 hfl;have hV:=B9 rfl HI2.out.own;have HV:=hid hV;clear hfl hV;go_wp2;simp only[MA];refine Af (v:=.tuple #[.slice aO out.length cO,.agg #[.int .i64 0,.int .i64 0]]) zCz rfl ⟨_,zBv,?_,?_⟩
   ·rw[HX.out]
    refine Ah.mono (Ah.keep HV.out fun q hq=> ?_) fun q hq=>⟨zD,Z3⟩;repeat (rw[Ap _ _ _ _ zH])
   ·have hbe:=HI2.out.be
    (repeat (first | with_reducible exact Below.refl _ _ | with_reducible assumption | (with_reducible refine Aw ?_ _) | (with_reducible refine Below.setCell ?_ zE _) | (with_reducible refine Below.drew ?_) | (with_reducible refine below_drewN ?_ _) | (refine Ag zI ?_)))
  ·rw[Ak hk] at hex2
   have HX:=hid hex2;have dk:decide (s.k=0)=false:=Ad hk;have HK:=hid hk;clear hk hex2;go_wp2_with fail;refine HFA.out.mono ?_;rintro r w1 ⟨rfl,hb1⟩;have hG:=CN (w1.alloc (.cells #[.int .i64 s.k,.int .i64 s.f] 58)) s.k s.f;rw[dk] at hG;have HG:=hid hG;clear hG dk;go_wp2_with fail;refine HG.out.mono ?_;rintro r w2 ⟨rfl,hb2⟩;have hb12:Below W.heap.size W w2:=Ag hb2 (Aw hb1 _);have HI2:=hid (HI.out.later hb12);have hfl:=HI2.out.fl;obtain⟨y0,y1,g0,g1,l1⟩:=A1 hfl;obtain⟨z0,z1,e0,e1,l2⟩:=A1 (Blk.later (Blk.newAt _ _ _ rfl) hb2);have hbe:=HI2.out.be;clear hfl;go_wp2_with fail;go_region
   all_goals
    go_wp2;simp only[MA];refine Af (v:=.tuple #[.slice none 0 0,.agg #[.int .i64 s.k,.int .i64 s.f]]) zCz rfl ⟨_,zBv,ZR,?_⟩
    (repeat (first | with_reducible exact Below.refl _ _ | with_reducible assumption | (with_reducible refine Aw ?_ _) | (with_reducible refine Below.setCell ?_ zE _) | (with_reducible refine Below.drew ?_) | (with_reducible refine below_drewN ?_ _) | (refine Ag zI ?_)))
 ·intro K hK
  have HN:=hid (PM (w.alloc (.cells #[.int .i64 0,.int .i64 0] 58)) B a _ c (lift HL.out zA));go_wp2_with fail;refine HN.out.mono ?_;rintro r w1 ⟨rfl,hrd,hb⟩;have hI:KD w w1 B a ⟨0,0,0⟩ [] none 0:=⟨by simpa using hrd,Ah.keep HCAP.out fun q hq=>(hb.block q zM).trans (A2 _ _ q hq),Blk.later zB hb,⟨rfl,.inl ⟨rfl,rfl⟩⟩,zA,by have:=hrd.blk.lt;simp at this;omega⟩;have HI:=hid hI;clear hI hrd hb;go_wp2;go_step3
  rename_i hkk
  exact hkk _ _ (hK _ _ ⟨⟨0,0,0⟩,[],none,0,hid rfl,_,_,_,_,_,_,_,_,_,_,_,_,_,_,_,_,_,_,_,_,_,_,_,_,_,_,_,_,_,_,_,_,_,_,_,_,_,_,_,_,_,_,_,_,_,_,_,_,_,_,_,_,_,_,_,_,_,_,_,_,_,_,_,_,_,HI.out,.inl rfl,rfl⟩)
open Go.RowKit Go.Bs
theorem Um:Rn Tryz.prog 25 Ah:=Og (sz:=1) AK zL zS (PZ Tryz.underlying5)
end Go.Proofs.YtlbffbkbkajciaaGreat
