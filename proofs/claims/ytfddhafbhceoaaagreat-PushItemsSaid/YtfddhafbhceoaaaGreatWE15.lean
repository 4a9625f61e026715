/- Mini: Needed by pushItems_walk, part 15: texts put together by shake.py; no condition. -/
import Derived.Test.YtfddhafbhceoaaaGreatWE3
import Derived.Test.YtfddhafbhceoaaaGreatWE11
import Derived.Test.YtfddhafbhceoaaaGreatWE10
import Derived.Test.YtfddhafbhceoaaaGreatWE14
import Derived.Test.YtfddhafbhceoaaaGreatWE7
import Derived.Deep.AppendLies
import Derived.Deep.RegionLaw
import Derived.Test.YtfddhafbhceoaaaGreatWE6
import Derived.Test.YtfddhafbhceoaaaGreatWE5
import Derived.Test.YtfddhafbhceoaaaGreatWE1
import Derived.Test.YtfddhafbhceoaaaGreatWE8
import Derived.Test.YtfddhafbhceoaaaGreatWE2
import Derived.Test.YtfddhafbhceoaaaGreatWE4
import Derived.Deep.Cut
import Derived.Laws.Bits64
import Derived.Test.YtfddhafbhceoaaaGreatWE13
set_option linter.unusedVariables false
set_option linter.unusedSimpArgs false
set_option maxRecDepth 100000
set_option maxHeartbeats 6400000
namespace Go.Bs
variable{c i n:Nat}{S:Nat → Prop}{a:Option Addr}{w:World}
theorem zB1{p:Prop}(h:p:=by intro cs hcs; obtain ⟨m, _, rfl⟩ := List.mem_map.1 hcs; rfl):p:=h
theorem zBd{p:Prop}(h:p:=by rw [HRR.out]; exact Bt (xs := []) rfl (An _) (Am _) (.inl rfl)):p:=h
theorem zAn{p:Prop}(h:p:=by simp [results, Tryz.results54, go_sem, y0, y1, y2, y3, l1]):p:=h
theorem ZA{p:Prop}(h:p:=by simp; simp only [epR, Av] at hep; have := Aci hep; omega):p:=h
theorem Jm:type_of% @List.length_drop:=@List.length_drop
def DJ(m:Msg):Bool:=Gl m&&epR m.epoch
end Go.Bs
namespace Go.Proofs.YtfddhafbhceoaaaGreat
open Go.RowKit Go.Bs Go.Maps
variable{B D J P rest:List UInt8}{xs:List Value}{m:Msg}{L base c c1 c2 c3 c4 g j n p sz:Nat}{S:Nat → Prop}{a a1 a2 a3 a4:Option Addr}{s:Rs}{e:TypeId}{v:Value}{W W' w w1:World}
def CA(m:Msg):List UInt8:=[UInt8.ofNat m.kind.toNat]++Az m.epoch.toNat++Az m.seq.toNat++D4 m
def Gy(m:Msg):List UInt8 × Int:=if DJ m=true then (CA m,0) else ([],3)
theorem K8(h:DJ m=true):(CA m).length≤49021+m.data.length:=by
 simp only[DJ,Aq] at h;have h1:=IF h.1;have h2:=(AZ m.epoch.toNat).1;have h3:=(AZ m.seq.toNat).1;unfold CA;simp only[Ag,AO,Bp];omega
theorem Pm(m:Msg)(a1:Option Addr)(c1:Nat)(a2:Option Addr)(c2:Nat)(a3:Option Addr)(c3:Nat)(a4:Option Addr)(c4:Nat)(w:World)(hm:A9 (·<w.heap.size) w m a1 c1 a2 c2 a3 c3 a4 c4)(hbk:∀x∈m.links,x.backs.length≤1000000):
  Calls Tryz.prog 158 #[.agg Acq] w fun r w'=>r=.returned (.bool (DJ m))∧Below w.heap.size w w':=by
 have HB:=hid (fun (W:World) (hW:Below w.heap.size w W)=>Jh m a1 c1 a2 c2 a3 c3 a4 c4 W (A9.lift hm hW) (fun x hx=>zA5));have HE:=hid (fun W:World=>GK m.epoch W);have hr:DJ m=(Gl m&&epR m.epoch):=rfl;have HBX:Hid (Blk (w.alloc (.cells Acq 45)) w.heap.size 45 Acq):=hid (Blk.new w _ _);have hb0:Below w.heap.size w (w.alloc (.cells Acq 45)):=zB;generalize DJ m=R at*;generalize Gl m=M at*;generalize epR m.epoch=E at*;clear hm;go_enter Tryz.func158,Tryz.ntmps158;go_wp2_with fail;generalize (w.alloc (.cells Acq 45))=w0 at*;refine (HB.out _ hb0).mono ?_;rintro r w1 ⟨rfl,hb1⟩;have hb01:=Af hb1 hb0;have y1:w1.cell? ⟨w.heap.size,1,none⟩=some (.int .u64 m.epoch):=(HBX.out.later hb1).cell 1;cases M
 ·have hff:Hid (R=false):=hid (by rw[hr];rfl)
  clear hr;go_wp2_with fail;go_ret;exact⟨zM,hb01⟩
 ·have hff:Hid (R=E):=hid (by rw[hr];rfl)
  clear hr;go_wp2_with fail;refine (HE.out _).mono ?_;rintro r w2 ⟨rfl,rfl⟩;go_wp2_with fail;go_ret;exact⟨zM,hb01⟩
theorem Pn{α:Type}(A:Rp α){lo:Nat}{w w':World}{cs:List Value}{x:α}(h:A.r (fun q=>lo≤q∧q<w.heap.size) w cs x)(hb:Below w.heap.size w w'):A.r (fun q=>lo≤q∧q<w.heap.size) w' cs x:=
 A.keep h fun q hq=>hb.block q hq.2
theorem Aci{e:Int}(h:1≤e∧e<4611686018427387904):(Az e.toNat).length≤9:=by
 have key:∀f x,(Gc f x).length≤f+1:=by
  intro f;induction f with
  | zero=>intro x;simp[Gc]
  | succ f ih=>intro x;simp only[Gc];split<;>simp;exact ih _
 have he:Gc 8 e.toNat=Gc 9 e.toNat:=LF 8 9 _ (by have:(128:Nat)^9=9223372036854775808:=zO;omega) zD;unfold Az;rw[←he];exact key 8 _
theorem PA(w:World){g base most:Nat}{J:List UInt8}{a:Option Addr}(h:BQ w g base most J a c):
  Calls Tryz.prog 164 #[.pointer (some ⟨g,0,none⟩),.int .i64 0] w fun r w'=>r=.returned (.tuple #[])∧At w g base most J a w':=
 (R5 w h 0).mono fun r w' ⟨h1,h2,h3⟩=>⟨h1,a,c,⟨h2,Hq h.own fun q hq=>h3.block q (h.own.lt q hq).2 (fun e=>h.ne (by rw[hq,e])),h.ne,h.lo,h.le,h.most,h.len⟩,h3.mono fun b _ e=> .inl e,.inl rfl⟩
theorem RA(w:World)(m:Msg)(a1:Option Addr)(c1:Nat)(a2:Option Addr)(c2:Nat)(a3:Option Addr)(c3:Nat)(a4:Option Addr)(c4:Nat)(hd:A9 (·<w.heap.size) w m a1 c1 a2 c2 a3 c3 a4 c4)(hbk:∀x∈m.links,x.backs.length≤1000000)(hln:m.data.length≤10000000000):
  Calls Tryz.prog 99 #[.agg Acq] w fun r w'=>∃v,r=.returned (.tuple #[v,.int .i64 (Gy m).2])∧Ah.r (fun q=>w.heap.size≤q∧q<w'.heap.size) w' [v] (Gy m).1∧Below w.heap.size w w':=by
 have HRT:=hid (fun (W:World) (hW:Below w.heap.size w W)=>Pm m a1 c1 a2 c2 a3 c3 a4 c4 W (A9.lift hd hW) hbk);have HBX:Hid (Blk (w.alloc (.cells Acq 45)) w.heap.size 45 Acq):=hid (Blk.new w _ _);have hb0:Below w.heap.size w (w.alloc (.cells Acq 45)):=zB;unfold Gy;cases hR:DJ m
 ·rw[Ak zN]
  rw[hR] at HRT;clear hd hbk hln hR;go_enter Tryz.func99,Tryz.ntmps99;go_wp2_with fail;generalize (w.alloc (.cells Acq 45))=w0 at*;refine (HRT.out _ hb0).mono ?_;rintro r w1 ⟨rfl,hb1⟩;have hbe:=Af hb1 hb0;go_wp2_with fail;go_ret2
  exact⟨_,rfl,G4 rfl rfl zD,hbe⟩
 ·rw[Ai rfl]
  rw[hR] at HRT;have hR':=hR;simp only[DJ,Aq] at hR';obtain⟨hm,hep⟩:=hR';have hk:1≤m.kind∧m.kind≤14:=(EB hm).kind;have HBY:=hid (fun (W:World) (hW:Below w.heap.size w W)=>UP W m a1 c1 a2 c2 a3 c3 a4 c4 (A9.lift hd hW) hbk hln);unfold GH at HBY;rw[hm] at HBY;simp only[Fx] at HBY;have hml:=IF hm;have hvl:=(AZ m.epoch.toNat).1;have hsl:=(AZ m.seq.toNat).1;have he0:=hd.epoch;have hs0:=hd.seq;have hpb:CA m=[UInt8.ofNat m.kind.toNat]++Az m.epoch.toNat++Az m.seq.toNat++D4 m:=rfl;rw[hpb];generalize D4 m=K at*;have hmo:(20:Int)+(K.length:Int)=((20+K.length:Nat):Int):=zD;have HN:=hid (fun W:World=>(by have:=I2 W (20+K.length) zD;rw[←hmo] at this;exact this:Calls Tryz.prog 160 #[.int .i64 ((20:Int)+(K.length:Int))] W fun r w'=>r=.returned (.pointer (some ⟨W.heap.size,0,none⟩))∧BQ w' W.heap.size W.heap.size (20+K.length) [] none 0∧Below W.heap.size W w'));have hKl:K.length≤20000000000:=zD;have hkz:0≤m.kind:=zD;have hky:m.kind≤14:=hk.2;have hkk:m.kind=((UInt8.ofNat m.kind.toNat).toNat:Int):=by
   have:=Ej (x:=m.kind.toNat) zD;rw[toNat_cast hkz] at this;exact this
  have HLT:=hid (fun W:World=>(by have:=Lg W (UInt8.ofNat m.kind.toNat);rw[←hkk] at this;exact this:Ah.r (·<(W.alloc (.cells #[.int .u8 m.kind] 5)).heap.size) (W.alloc (.cells #[.int .u8 m.kind] 5)) [.slice (some ⟨W.heap.size,0,none⟩) 1 1] [UInt8.ofNat m.kind.toNat]));have HP1:=hid (fun (W:World) (g base:Nat) (h:BQ W g base (20+K.length) [] none 0) (ad:Option Addr) (hD:Ah.r (·<W.heap.size) W [.slice ad 1 1] [UInt8.ofNat m.kind.toNat])=>Fu W h [UInt8.ofNat m.kind.toNat] ad 1 1 hD zH zN);have HP2:=hid (fun (W:World) (g base:Nat) (a:Option Addr) (c:Nat) (h:BQ W g base (20+K.length) [UInt8.ofNat m.kind.toNat] a c)=>(by have:=Md W h m.epoch.toNat (by rw[toNat_cast he0.1];exact hep) ZA zH;rw[toNat_cast he0.1] at this;exact this:Calls Tryz.prog 162 #[.pointer (some ⟨g,0,none⟩),.int .u64 m.epoch] W fun r w'=>r=.returned (.tuple #[])∧At W g base (20+K.length) ([UInt8.ofNat m.kind.toNat]++Az m.epoch.toNat) a w'));have HP3:=hid (fun (W:World) (g base:Nat) (a:Option Addr) (c:Nat) (h:BQ W g base (20+K.length) ([UInt8.ofNat m.kind.toNat]++Az m.epoch.toNat) a c)=>(by have:=Cl W h m.seq.toNat (by have:=hs0.2;omega) ZA zH;rw[toNat_cast hs0.1] at this;exact this:Calls Tryz.prog 163 #[.pointer (some ⟨g,0,none⟩),.int .u64 m.seq] W fun r w'=>r=.returned (.tuple #[])∧At W g base (20+K.length) ([UInt8.ofNat m.kind.toNat]++Az m.epoch.toNat++Az m.seq.toNat) a w'));have HP4:=hid (fun (W:World) (g base:Nat) (a:Option Addr) (c:Nat) (h:BQ W g base (20+K.length) ([UInt8.ofNat m.kind.toNat]++Az m.epoch.toNat++Az m.seq.toNat) a c) (ad:Option Addr) (cd:Nat) (hD:Ah.r (·<W.heap.size) W [.slice ad K.length cd] K)=>Fu W h K ad _ cd hD ZA zH);generalize [UInt8.ofNat m.kind.toNat]=KB at*;generalize Az m.epoch.toNat=VE at*;generalize Az m.seq.toNat=VS at*;clear hd hbk hln hR hm hep hk hml hvl hsl hpb hmo he0 hs0 hkk;go_enter Tryz.func99,Tryz.ntmps99;go_wp2_with fail;generalize (w.alloc (.cells Acq 45))=w0 at*;refine (HRT.out _ hb0).mono ?_;rintro r w1 ⟨rfl,hb1⟩;have hbw1:=Af hb1 hb0;have B1:=HBX.out.later hb1;have y0:w1.cell? ⟨w.heap.size,0,none⟩=some (.int .i64 m.kind):=B1.cell 0;have y1:w1.cell? ⟨w.heap.size,1,none⟩=some (.int .u64 m.epoch):=B1.cell 1;have y2:w1.cell? ⟨w.heap.size,2,none⟩=some (.int .u64 m.seq):=B1.cell 2;have y3:w1.cell? ⟨w.heap.size,3,none⟩=some (.int .u64 m.pos):=B1.cell 3;have y4:w1.cell? ⟨w.heap.size,4,none⟩=some (.int .i64 m.count):=B1.cell 4;have y5:w1.cell? ⟨w.heap.size,5,none⟩=some (.int .i64 m.state):=B1.cell 5;have y6:w1.cell? ⟨w.heap.size,6,none⟩=some (.slice a1 m.streams.length c1):=B1.cell 6;have y7:w1.cell? ⟨w.heap.size,7,none⟩=some (.slice a2 m.links.length c2):=B1.cell 7;have y8:w1.cell? ⟨w.heap.size,8,none⟩=some (.slice a3 m.data.length c3):=B1.cell 8;have y9:w1.cell? ⟨w.heap.size,9,none⟩=some (.int .u64 m.sea.epoch):=B1.cell 9;have y10:w1.cell? ⟨w.heap.size,10,none⟩=some (.int .u64 m.sea.node):=B1.cell 10;have y11:w1.cell? ⟨w.heap.size,11,none⟩=some (.int .u64 m.sea.tail):=B1.cell 11;have y12:w1.cell? ⟨w.heap.size,12,none⟩=some (.int .u64 m.proj.epoch):=B1.cell 12;have y13:w1.cell? ⟨w.heap.size,13,none⟩=some (.slice a4 m.proj.stripes.length c4):=B1.cell 13;go_wp2_with fail;refine (HBY.out _ hbw1).mono ?_;rintro r w2 ⟨v2,rfl,hr2,hb2⟩;obtain⟨e2,k2,hv2,hr2',_⟩:=AN hr2;simp only[As,AM] at hv2;subst hv2;have HR2:=hid hr2';have hbw2:=Af hb2 hbw1;have B2:=B1.later hb2;have hs1:=hbw1.size;clear hr2 hr2' y0 y1 y2 y3 y4 y5 y6 y7 y8 y9 y10 y11 y12 y13 B1;go_wp2_with fail;refine (HN.out w2).mono ?_;rintro r w3 ⟨rfl,hp3,hb3⟩;have B3:=B2.later hb3;have y0:w3.cell? ⟨w.heap.size,0,none⟩=some (.int .i64 m.kind):=B3.cell 0;have hbw3:=Af hb3 hbw2;have hlb:=B2.lt;have HB3:=hid B3;have HP:=hid hp3;have HD3:=hid (Pn Ah HR2.out hb3);have hs2:=hbw2.size;have hs3:=hb3.size;have HAL:=hid (AH (Below.refl w3.heap.size w3) (.cells #[.int .u8 m.kind] 5));have HQ1:=hid (HP1.out _ _ _ (HP.out.later HAL.out) _ (HLT.out w3));clear hp3 B2 B3;go_wp2_with fail;refine HQ1.out.mono ?_;rintro r w4 ⟨rfl,hst4⟩;have hst4':=At.later HAL.out hst4;rw[AV] at hst4';obtain⟨e4,k4,hp4,ht4,ha4⟩:=hst4';have B4:=HB3.out.tch ht4 (fun hf=>by rcases Fv.1 hf with e | e<;>first | omega | (simp at e));have y1:w4.cell? ⟨w.heap.size,1,none⟩=some (.int .u64 m.epoch):=B4.cell 1;have HD4:=hid (Ah.keep HD3.out fun q hq=>ht4.block q ZP (fun hf=>by have:=hq.2;rcases Fv.1 hf with e | e<;>first | omega | (simp at e)));have HN4:=hid (fun (q:Nat) (h1:q<w2.heap.size) (hf:Dr w2.heap.size e4 q)=>EC ha4 (show q<w3.heap.size by omega) (fun hf=>by rcases Fv.1 hf with e | e<;>first | omega | (simp at e)) hf);have HB4:=hid B4;have HQ2:=hid (HP2.out _ _ _ _ _ hp4);have hs4:=ht4.size;have HT4:=hid (And.intro ht4 ha4);clear hst4 hp4 ht4 ha4 B4 y0;go_wp2_with fail;refine HQ2.out.mono ?_;rintro r w5 ⟨rfl,e5,k5,hp5,ht5,ha5⟩;have B5:=HB4.out.tch ht5 (fun hf=>HN4.out _ hlb hf);have y2:w5.cell? ⟨w.heap.size,2,none⟩=some (.int .u64 m.seq):=B5.cell 2;have HD5:=hid (Ah.keep HD4.out fun q hq=>ht5.block q ZP (fun hf=>HN4.out q hq.2 hf));have HN5:=hid (fun (q:Nat) (h1:q<w2.heap.size) (hf:Dr w2.heap.size e5 q)=>EC ha5 (show q<w4.heap.size by omega) (fun hf=>HN4.out q h1 hf) hf);have HQ3:=hid (HP3.out _ _ _ _ _ hp5);have hs5:=ht5.size;have HT5:=hid (And.intro ht5 ha5);clear hp5 ht5 ha5 B5 y1;go_wp2_with fail;refine HQ3.out.mono ?_;rintro r w6 ⟨rfl,e6,k6,hp6,ht6,ha6⟩;have HD6:=hid (Ah.keep HD5.out fun q hq=>ht6.block q ZP (fun hf=>HN5.out q hq.2 hf));have hs6:=ht6.size;have HQ4:=hid (HP4.out _ _ _ _ _ hp6 e2 k2 (Ah.mono HD6.out fun q hq=>ZP));have HT6:=hid (And.intro ht6 ha6);clear hp6 ht6 ha6 y2;go_wp2_with fail;refine HQ4.out.mono ?_;rintro r w7 ⟨rfl,e7,k7,hp7,ht7,ha7⟩;have HF:=hid (PA w7 hp7);have HT7:=hid (And.intro ht7 ha7);clear hp7 ht7 ha7;go_wp2_with fail;refine HF.out.mono ?_;rintro r w8 ⟨rfl,hst8⟩;have hst:=At.trans (J:=KB) HT4.out.1 HT4.out.2 (At.trans (J:=KB) HT5.out.1 HT5.out.2 (At.trans (J:=KB) HT6.out.1 HT6.out.2 (At.trans (J:=KB) HT7.out.1 HT7.out.2 hst8)));have hbw8:Below w.heap.size w w8:=hbw3.trans (HP.out.below zD hbw3.size hst);obtain⟨e8,k8,hp8,_,_⟩:=hst;have HBB:=hid (Hb w8 hp8);have hs8:=hbw8.size;clear hp8 hst8;go_wp2_with fail;refine HBB.out.mono ?_;rintro r w9 ⟨v,rfl,hv,hb9⟩;have hbe:=Af hb9 hbw8;have HV:=hid (Ah.mono (S':=fun q=>w.heap.size≤q∧q<w9.heap.size) hv fun q hq=>⟨zY,hq.2⟩);clear hv;go_wp2_with fail;go_ret2
  exact⟨_,rfl,HV.out,hbe⟩
theorem Rs.L8(h:B.drop p=Bf P++rest)(hp:p≤B.length)(hP:P.length≤2097152):(⟨p,0,0⟩:Rs).frame B 2097152=(⟨p+(Bf P).length,0,0⟩,P):=by
 unfold Bf at h;rw[Ao] at h;have h1:=Rs.SP (m:=min 2097152 2097152) zD h hp zD;have h2:=Br h;have hr:=Bl h hp;have h3:=Rs.KW h2 zD;rw[Hu] at h3;have h4:(⟨p+(C3 P).length,0,0⟩:Rs).take B 4=(⟨p+(C3 P).length+4,0,0⟩,CW 4 (CQ P)):=h3;have h5:CQ P=EF (CW 4 (CQ P)):=by
  rw[MQ];have:=IH P;omega
 unfold Rs.frame;rw[h1];dsimp only;rw[h4];dsimp only;rw[Ai h5,Ai rfl,EX,Bu]
theorem Rs.Sr(h:s.ok L)(hk:(s.fin L).k=0):s.k=0∧s.p=L:=by
 have hl:=h.le;unfold Rs.fin at hk;split at hk
 ·exact absurd hk (Rs.BE zD)
 ·exact⟨hk,zD⟩
theorem Rs.Vr(h:s.k≠0):s.fin L=s:=by
 unfold Rs.fin;split
 ·exact Rs.Cb h
 ·rfl
theorem XV{u s2 s3:Rs}{y:UInt8}{e:Nat}(hu:(⟨0,0,0⟩:Rs).byte P=(u,y))(he:(u.kd (y.toNat:Int)).ep P=(s2,e))(hn:s2.num P=(s3,n))(hk:s3.k=0):
  1≤(y.toNat:Int)∧(y.toNat:Int)≤14∧epR (e:Int)=true∧s3.ok P.length∧P=[y]++Az e++Az n++P.drop s3.p:=by
 have ok0:(⟨0,0,0⟩:Rs).ok P.length:=⟨Am _,fun _=>rfl⟩;have ok1:u.ok P.length:=by have:=Rs.Iq ok0;rwa [hu] at this
 have hkd:(u.kd (y.toNat:Int)).ok P.length:=by
  unfold Rs.kd;split
  ·exact ok1
  ·exact Rs.Co ok1 zD
 have ok2:s2.ok P.length:=by have:=Rs.Mf hkd;rwa [he] at this
 have ok3:s3.ok P.length:=by have:=Rs.Dn ok2;rwa [hn] at this
 have h3:=Rs.Eo ok2 (by rw[hn];exact hk);have h3k:=(Rs.Fp (by rw[hn];exact hk):_∧s2.k=0).2;rw[hn] at h3;have h2:=Rs.Oz hkd (by rw[he];exact h3k);rw[he] at h2;obtain⟨g1,g2,g3⟩:=h2;dsimp only at g1 g2 h3;have hy:1≤(y.toNat:Int)∧(y.toNat:Int)≤14:=by
  by_cases h:1≤(y.toNat:Int)∧(y.toNat:Int)≤14
  ·exact h
  ·unfold Rs.kd at g3
   rw[Ak h] at g3;exact absurd g3 (Rs.BE zD)
 have hku:u.kd (y.toNat:Int)=u:=Ai hy;rw[hku] at g2 g3;have h1:=Rs.OE ok0 (by rw[hu];exact g3);rw[hu] at h1;have h10:=h1.1;rw[CO] at h10;dsimp only at h10;refine⟨hy.1,hy.2,g1,ok3,?_⟩;rw[Ao,Ao,←h3.1,←g2];exact h10
theorem XU{m1 m2:Msg}{q1 q2:Bool}{k1 k2 f1 f2:Int}(hS:ET P (Db P) flS=(m1,q1,k1,f1))(hL:ET P (F8 P) flL=(m2,q2,k2,f2)):
  (k1=0→k2=0∧m2=m1∧q2=true∧DJ m1=true∧CA m1=P)∧(k1≠0→m1=El)∧(k2≠0→m2=El)∧(k1≠0→k2=0→q2=false∧k1=12∧DJ m2=true)∧(k1≠0→k2≠0→(k1=k2∧f1=f2)∨k1=12):=by
 unfold ET at hS hL;generalize hu:(⟨0,0,0⟩:Rs).byte P=U at hS hL;obtain⟨u,y⟩:=U;dsimp only at hS hL;generalize he:(u.kd (y.toNat:Int)).ep P=E at hS hL;obtain⟨s2,e⟩:=E;dsimp only at hS hL;generalize hn:s2.num P=V at hS hL;obtain⟨s3,n⟩:=V;dsimp only at hS hL;by_cases hk:s3.k=0
 ·rw[Ai hk] at hS hL
  obtain⟨hy1,hy2,her,ok3,hP⟩:=XV hu he hn hk;have hR:=YY (B:=P) s3 (y.toNat:Int);have cS:=Rs.OJ (B:=P) (s:=s3) (k:=(y.toNat:Int)) (blk:=Db P) ok3;have cL:=Rs.OJ (B:=P) (s:=s3) (k:=(y.toNat:Int)) (blk:=F8 P) ok3;have oS:=Rs.VC (B:=P) (k:=(y.toNat:Int)) (blk:=Db P) ok3 (fun t ht=>SR ht);have oL:=Rs.VC (B:=P) (k:=(y.toNat:Int)) (blk:=F8 P) ok3 (fun t ht=>Rs.JG ht 1048576);generalize hbS:s3.body P (Db P) (y.toNat:Int)=bS at*;generalize hbL:s3.body P (F8 P) (y.toNat:Int)=bL at*;obtain⟨t1,n1,g1⟩:=bS;obtain⟨t2,n2,g2⟩:=bL;dsimp only at hS hL hR cS cL oS oL;have key:∀(t:Rs) (m:Msg),t.ok P.length→(t.fin P.length).k=0→Gl m=true→m.kind=(y.toNat:Int)→DJ ⟨m.kind,(e:Int),(n:Int),m.pos,m.count,m.state,m.streams,m.links,m.data,m.sea,m.proj⟩=true∧(P.drop s3.p=D4 m++P.drop t.p→CA ⟨m.kind,(e:Int),(n:Int),m.pos,m.count,m.state,m.streams,m.links,m.data,m.sea,m.proj⟩=P):=by
   intro t m ot hz hr hkd;obtain⟨z1,z2⟩:=Rs.Sr ot hz;refine⟨?_,fun hd=> ?_⟩
   ·unfold DJ
    rw[show Gl ⟨m.kind,(e:Int),(n:Int),m.pos,m.count,m.state,m.streams,m.links,m.data,m.sea,m.proj⟩=Gl m from rfl,hr];exact her
   ·rw[z2,GM,BK] at hd
    have hyy:UInt8.ofNat (y.toNat:Int).toNat=y:=zN;have hmb:D4 ⟨m.kind,(e:Int),(n:Int),m.pos,m.count,m.state,m.streams,m.links,m.data,m.sea,m.proj⟩=D4 m:=rfl;unfold CA;dsimp only;rw[hmb,hkd,hyy,Cc,Cc,←hd];exact hP.symm
  rcases hR with ⟨e1,hf⟩ | ⟨e1,e2,e3⟩
  ·cases e1
   by_cases hz:(t1.fin P.length).k=0
   ·rw[Ai hz] at hS hL
    cases hS;cases hL;have tk:=(Rs.Sr oS hz).1;obtain⟨c1,c2,c3,c4,c5,c6,c7⟩:=cS tk (fun t ht=>SR ht) (fun t=>AbN t) SU (fun t ht=>Aab t ht);obtain⟨r1,r2⟩:=key t1 n1 oS hz c1 c3;exact⟨fun _=>⟨rfl,rfl,hf tk,r1,r2 (c7 (hf tk))⟩,fun h=>absurd rfl h,fun h=>absurd rfl h,fun h=>absurd rfl h,fun h=>absurd rfl h⟩
   ·rw[Ak hz] at hS hL
    cases hS;cases hL;exact⟨fun h=>absurd h hz,fun _=>rfl,fun _=>rfl,fun _ h=>absurd h hz,fun _ _=> .inl ⟨rfl,rfl⟩⟩
  ·have hb:t1.k≠0:=by omega
   have hz1:(t1.fin P.length).k≠0:=by rw[Rs.Vr hb];exact hb
   rw[Ak hz1,Rs.Vr hb] at hS;cases hS;by_cases hz:(t2.fin P.length).k=0
   ·rw[Ai hz] at hL
    cases hL;obtain⟨c1,c2,c3,_⟩:=cL e2 (fun t ht=>Rs.JG ht 1048576) (fun t=>AbO t) WT (fun t ht=>SV t ht);obtain⟨r1,r2⟩:=key t2 n2 oL hz c1 c3;exact⟨fun h=>absurd h hb,fun _=>rfl,fun h=>absurd rfl h,fun _ _=>⟨e3,e1,r1⟩,fun _ h=>absurd rfl h⟩
   ·rw[Ak hz] at hL
    cases hL;exact⟨fun h=>absurd h hb,fun _=>rfl,fun _=>rfl,fun _ h=>absurd h hz,fun _ _=> .inr e1⟩
 ·rw[Ak hk] at hS hL
  cases hS;cases hL;exact⟨fun h=>absurd h hk,fun _=>rfl,fun _=>rfl,fun _ h=>absurd h hk,fun _ _=> .inl ⟨rfl,rfl⟩⟩
theorem Wu{blk:List UInt8→Rs→Rs × List UInt8 × Bool}{fl:Rs→Bool→Bool}(hP:P.length≤2097152):KH (Bf P++rest) blk fl=(if (ET P (blk P) fl).2.2.1=0 then ((ET P (blk P) fl).1,(ET P (blk P) fl).2.1,(Bf P).length,0,0) else (El,false,0,(ET P (blk P) fl).2.2.1,wrap64 ((ET P (blk P) fl).2.2.2+(((Bf P).length:Int)-4-(P.length:Int))))):=by
 have h:=Rs.L8 (B:=Bf P++rest) (P:=P) (rest:=rest) (p:=0) (by rw[CO]) (Am _) hP;unfold KH;rw[h];unfold Lm;dsimp only;rw[Ai rfl];dsimp only;rw[Ai rfl,A1]
theorem WS(hD:D.length≤1048576)(B:List UInt8)(q:Nat)(rest:List UInt8)(h1:q≤B.length)(h2:B.drop q=Bk D++rest):F8 B ⟨q,0,0⟩=(⟨q+(Bk D).length,0,0⟩,D,true):=
 Rs.Sc h2 h1 hD zD
theorem WQ(hD:D.length≤1048576)(B:List UInt8)(q:Nat)(rest:List UInt8)(h1:q≤B.length)(h2:B.drop q=Bk D++rest):Db B ⟨q,0,0⟩=(⟨q+(Bk D).length,0,0⟩,D,true):=by
 have:=WS hD B q rest h1 h2;unfold F8 at this;unfold Db;rw[this];rfl
theorem XY{blk:List UInt8→Rs→Rs × List UInt8 × Bool}{fl:Rs→Bool→Bool}(hN:M8 m)(hr:DJ m=true)(hs:inU m.seq)
 (hblk:∀(B:List UInt8) (q:Nat) (rest:List UInt8),q≤B.length→B.drop q=Bk m.data++rest→blk B ⟨q,0,0⟩=(⟨q+(Bk m.data).length,0,0⟩,m.data,true)) (hfl:∀p,fl ⟨p,0,0⟩ true=true):
  ET (CA m) (blk (CA m)) fl=(m,true,0,0):=by
 simp only[DJ,Aq] at hr;obtain⟨hr,he⟩:=hr;obtain⟨hs0,hs1⟩:=hs;have hkd:1≤m.kind∧m.kind≤14:=by
  have:=hr;unfold Gl at this;simp only[Aq,Av] at this;exact this.1
 have he2:1≤m.epoch∧m.epoch<4611686018427387904:=by simpa [epR] using he
 have hB:CA m=UInt8.ofNat m.kind.toNat::(Az m.epoch.toNat++(Az m.seq.toNat++(D4 m++[]))):=by
  unfold CA;simp
 generalize CA m=B at*;have h1:=Rs.Ls (B:=B) (p:=0) (by rw[CO];exact hB) (Am _);rw[A1] at h1;have d1:B.drop 1=Az m.epoch.toNat++(Az m.seq.toNat++(D4 m++[])):=by rw[hB];rfl
 have hy:((UInt8.ofNat m.kind.toNat).toNat:Int)=m.kind:=by
  rw[UInt8.toNat_ofNat'];omega
 have h2:=Rs.QY he d1;have d2:=Br d1;have h3:=Rs.DR (x:=m.seq.toNat) zD d2;have d3:=Br d2;have hle1:1≤B.length:=by rw[hB];simp
 have r1:=Bl d1 hle1;have r2:=Bl d2 (by simp at r1;omega);have hp3:1+(Az m.epoch.toNat).length+(Az m.seq.toNat).length≤B.length:=zD;have h4:=Rs.OI (B:=B) (rest:=[]) (m:=({m with epoch:=0,seq:=0}:Msg)) (blk:=blk B) ⟨hN.pos,hN.streams,hN.links,hN.node,hN.tail,hN.proj⟩ hr rfl rfl (by exact d3) hp3 (fun q rest h1 h2=>hblk _ q rest h1 h2);have r3:=Bl d3 hp3;have hml:(D4 ({m with epoch:=0,seq:=0}:Msg)).length=(D4 m).length:=rfl;have h5:((⟨1+(Az m.epoch.toNat).length+(Az m.seq.toNat).length+(D4 m).length,0,0⟩:Rs).fin B.length)=⟨1+(Az m.epoch.toNat).length+(Az m.seq.toNat).length+(D4 m).length,0,0⟩:=by
  unfold Rs.fin;rw[Ak];simp at r3;dsimp only;omega
 have hkk:((⟨1,0,0⟩:Rs).kd m.kind)=⟨1,0,0⟩:=Ai hkd;rw[hml] at h4;dsimp only at h4;unfold ET;rw[h1];dsimp only;rw[hy,hkk,h2];dsimp only;rw[h3];dsimp only;rw[Ai rfl,h4];dsimp only;rw[h5];dsimp only;rw[Ai rfl,hfl,toNat_cast zD,toNat_cast hs0]
theorem XW(hN:M8 m)(hr:DJ m=true)(hs:inU m.seq)(hd:m.data.length≤1048576):ET (CA m) (Db (CA m)) flS=(m,true,0,0):=
 XY (blk:=fun P=>Db P) hN hr hs (fun B q rest h1 h2=>WQ hd B q rest h1 h2) (fun p=>rfl)
end Go.Proofs.YtfddhafbhceoaaaGreat
namespace Go.Bs
open Go.RowKit
variable{c i n:Nat}{S:Nat → Prop}{a:Option Addr}{w:World}
structure JP where
 pos:Int
 count:Int
 at_:Int
def XI:Rp JP:=rBy (fun m=>(m.pos,m.count,m.at_)) (Eb (GZ .u64) (Eb (GZ .i64) (GZ .i64)))
def TM:Rp (List JP):=rSl 3 XI
structure Abc(m:JP):Prop where
 p:0≤m.pos∧m.pos≤18446744073709551615
 c: -9223372036854775808≤m.count∧m.count≤9223372036854775807
 a: -9223372036854775808≤m.at_∧m.at_≤9223372036854775807
theorem JL{n:Int}(h: -9223372036854775808≤n∧n≤9223372036854775807):(Lit.int .i64 n).wf=true:=by
 simp[Lit.wf,IntKind.min,IntKind.max,IntKind.signed,IntKind.bits];omega
theorem Vl{x:JP}(h:Abc x):XI.r S w [.int .u64 x.pos,.int .i64 x.count,.int .i64 x.at_] x:=
 ⟨[_],[_,_],rfl,⟨rfl,Fj h.p⟩,[_],[_],rfl,⟨rfl,JL h.c⟩,⟨rfl,JL h.a⟩⟩
end Go.Bs
namespace Go.Proofs.YtfddhafbhceoaaaGreat
open Go.RowKit Go.Bs Go.Maps
variable{B D J P rest:List UInt8}{xs:List Value}{m:Msg}{L base c c1 c2 c3 c4 g j n p sz:Nat}{S:Nat → Prop}{a a1 a2 a3 a4:Option Addr}{s:Rs}{e:TypeId}{v:Value}{W W' w w1:World}
end Go.Proofs.YtfddhafbhceoaaaGreat
namespace Go.Bs
open Go.RowKit
variable{c i n:Nat}{S:Nat → Prop}{a:Option Addr}{w:World}
end Go.Bs
namespace Go.Proofs.YtfddhafbhceoaaaGreat
open Go.RowKit Go.Bs Go.Maps
variable{B D J P rest:List UInt8}{xs:List Value}{m:Msg}{L base c c1 c2 c3 c4 g j n p sz:Nat}{S:Nat → Prop}{a a1 a2 a3 a4:Option Addr}{s:Rs}{e:TypeId}{v:Value}{W W' w w1:World}
theorem At.at{most:Nat}(h:At w1 g base most J a w):∃a' c',BQ w g base most J a' c'∧(∀(J':List UInt8) (w':World),At w g base most J' a' w'→At w1 g base most J' a w'):=by
 obtain⟨a',c',h1,h2,h3⟩:=h;exact⟨a',c',h1,fun J' w' k=>At.trans (J:=J) h2 h3 k⟩
theorem At.blk{most:Nat}(h:At w1 g base most J a w){b:Nat}{t:TypeId}{cs:Array Value}(hB:Blk w1 b t cs)(hn:¬Dr g a b):Blk w b t cs:=by
 obtain⟨a',c',h1,h2,h3⟩:=h;exact hB.tch h2 hn
theorem At.tch{most:Nat}(h:At w1 g base most J a w):Tch (Dr g a) w1 w:=by
 obtain⟨a',c',h1,h2,h3⟩:=h;exact h2
end Go.Proofs.YtfddhafbhceoaaaGreat
namespace Go.Bs
open Go.RowKit
variable{c i n:Nat}{S:Nat → Prop}{a:Option Addr}{w:World}
structure Abd where
 ep:Int
 n:Int
 en:Int
 first:Int
 fin:Int
 at_:Int
 size:Int
def Abd.val(f:Abd):Array Value:=#[.int .u64 f.ep,.int .i64 f.n,.int .i64 f.en,.int .u64 f.first,.int .u64 f.fin,.int .i64 f.at_,.int .i64 f.size]
end Go.Bs
namespace Go.Proofs.YtfddhafbhceoaaaGreat
open Go.RowKit Go.Bs Go.Maps
variable{B D J P rest:List UInt8}{xs:List Value}{m:Msg}{L base c c1 c2 c3 c4 g j n p sz:Nat}{S:Nat → Prop}{a a1 a2 a3 a4:Option Addr}{s:Rs}{e:TypeId}{v:Value}{W W' w w1:World}
def Yo(m:JP):List Value:=[.int .u64 m.pos,.int .i64 m.count,.int .i64 m.at_]
structure Gq(w:World)(base:Nat)(v:Value)(M:List JP):Prop where
 own:w.ownsRow base 88 3 v M.length (M.map Yo).flatten
 nat:∀m∈M,Abc m
theorem Gq.nil:Gq w base (.slice none 0 0) []:=⟨⟨rfl,.inl ⟨rfl,rfl⟩⟩,zN⟩
theorem Gq.read{w:World}{base:Nat}{v:Value}{M:List JP}(h:Gq w base v M):TM.r (fun q=>base≤q∧q<w.heap.size) w [v] M:=
 Ba.slice (An _) ⟨M.map Yo,h.own,zN,zB1,fun i cs x hi hx=>by
  rw[Ee,hx] at hi;simp at hi;subst hi;exact Vl (h.nat x (List.mem_of_getElem? hx))⟩
def Ab4:List Value:=[.int .u64 0,.int .i64 0,.int .i64 0,.int .u64 0,.int .u64 0,.int .i64 0,.int .i64 0]
structure W7(w W:World)(ep:Int)(a:Option Addr)(n c:Nat)(J:List UInt8)(M:List JP)(aJ:Option Addr)(cJ:Nat)(aM:Option Addr)(cM:Nat):Prop where
 below:Below w.heap.size w W
 bx:Blk W w.heap.size 63 #[.int .u64 ep,.slice a n c]
 br:Blk W (w.heap.size+1) 135 (.slice none 0 0:: .slice none 0 0::Ab4).toArray
 x:Blk W (w.heap.size+2) 135 (.slice aJ J.length cJ:: .slice aM M.length cM::Ab4).toArray
 j:BD W (w.heap.size+3) (.slice aJ J.length cJ) J
 m:Gq W (w.heap.size+3) (.slice aM M.length cM) M
section
variable {w W:World} {ep:Int} {a:Option Addr} {n c:Nat} {J:List UInt8} {M:List JP} {aJ:Option Addr} {cJ:Nat} {aM:Option Addr} {cM:Nat}
theorem Gq.below{b:Nat}{M:List JP}(h:Gq W b v M)(hb:Below W.heap.size W W'):Gq W' b v M:=⟨AF h.own hb,h.nat⟩
theorem W7.later(h:W7 w W ep a n c J M aJ cJ aM cM)(hb:Below W.heap.size W W'):W7 w W' ep a n c J M aJ cJ aM cM:=
 ⟨Af hb h.below,h.bx.later hb,h.br.later hb,h.x.later hb,AF h.j hb,h.m.below hb⟩
theorem W7.ne(h:W7 w W ep a n c J M aJ cJ aM cM):∀b,(Value.slice aJ J.length cJ).ownBlock=some b→(Value.slice aM M.length cM).ownBlock≠some b:=TX h.j h.m.own zO
theorem W7.far{u:Nat}(h:W.ownsRow (w.heap.size+3) e sz v u xs){b:Nat}(hb:b<w.heap.size+3):v.ownBlock≠some b:=fun e=>by have:=(En h b e).1;omega
end
theorem Gq.row{w:World}{v:Value}{M:List JP}(h:Gq w base v M):TM.r (fun q=>v.ownBlock=some q) w [v] M:=by
 have hF:AY (fun _=>False) XI base 88 3 w v M (M.map Yo):=⟨h.own,zN,zB1,fun i cs x hi hx=>by
  rw[Ee,hx] at hi;simp at hi;subst hi;exact Vl (h.nat x (List.mem_of_getElem? hx))⟩
 exact TM.mono (AY.slice hF) fun q hq=>hq.resolve_left id
theorem TG(c:Nat)(hc:c<4294967296)(x:UInt8)(w:World):
  Calls Tryz.prog 232 #[.int .u32 c,.int .u8 (x.toNat:Int)] w fun r w'=>r=.returned (.int .u32 (Io c x:Nat))∧w=w':=by
 have e1:=Sm hc x;have hcb:Hid (Io c x=Jo 8 (c^^^x.toNat)):=hid rfl;have hy:c^^^x.toNat<4294967296:=KQ hc zCp;generalize c^^^x.toNat=y at*;go_enter Tryz.func232,Tryz.ntmps232;go_wp2_with fail;go_loopw [0,5] (fun s i wr=>∃k:Nat,k≤8∧i=.int .i64 k∧s=.int .u32 (Jo k y:Nat)∧wr=w) (fun _ i _=>8-(intOf i).toNat)
 case atStart=>exact ⟨0,zD,rfl,rfl,rfl⟩
 case round=>
  obtain⟨k,hk,rfl,rfl,rfl⟩:=hrel;by_cases hlt:k<8
  ·have hd:=Oi hy k
   have hst:Hid (Jo (k+1) y=Dt (Jo k y)):=hid rfl;have i1:(k:Int)<8:=zD;generalize Jo k y=d at*;by_cases h1:d%2=1
   ·have d1:((d:Int)%2==1)=true:=by simp;omega
    have hff:Hid (((Dt d:Nat):Int)=bits BinOp.xor IntKind.u32 ((d:Int)/2) 2197175160):=hid (by rw[R4 hd];unfold Dt;rw[Ai h1]);clear h1;go_wp2;go_roundw
    case rel=>exact ⟨k+1,zD,zV,by rw[hst.out,hff.out],trivial⟩
    case measure=>simp [intOf];omega
   ·have d1:((d:Int)%2==1)=false:=beq_eq_false_iff_ne.2 zD
    have hff:Hid (((Dt d:Nat):Int)=(d:Int)/2):=hid (by unfold Dt;rw[Ak h1];rfl);clear h1;go_wp2;go_roundw
    case rel=>exact ⟨k+1,zD,zV,by rw[hst.out,hff.out],trivial⟩
    case measure=>simp [intOf];omega
  ·obtain rfl:k=8:=by omega
   go_wp2;go_ret;exact⟨by rw[hcb.out];rfl,rfl⟩
theorem Pq(D:List UInt8)(ad:Option Addr)(nd cd:Nat)(w:World)(hD:Ah.r (·<w.heap.size) w [.slice ad nd cd] D):
  Calls Tryz.prog 98 #[.slice ad nd cd] w fun r w'=>r=.returned (.int .u32 (CQ D:Nat))∧w=w':=by
 obtain⟨rfl,hm,_,_⟩:=AT hD;have HD:=hid hD;clear hD;have hlt:=Mi D (c:=4294967295) zO;have hff:Hid (CQ D=4294967295-EG 4294967295 D):=hid rfl;have HA:Hid (Calls Tryz.prog 157 #[.int .u32 4294967295,.slice ad D.length cd] w fun r w'=>r=.returned (.int .u32 (EG 4294967295 D:Nat))∧w=w'):=hid (by
  clear hff hlt;go_enter Tryz.func157,Tryz.ntmps157;go_wp2_with fail;go_loopw [0,5] (fun s i wr=>∃(k d:Nat),k≤D.length∧i=.int .i64 k∧s=.int .u32 d∧d<4294967296∧Hid (EG 4294967295 D=EG d (D.drop k))∧wr=w) (fun _ i _=>D.length-(intOf i).toNat)
  case atStart=>exact ⟨0,4294967295,Am _,rfl,rfl,zO,hid rfl,rfl⟩
  case round=>
   obtain⟨k,d,hk,rfl,rfl,hd,hf,rfl⟩:=hrel;by_cases hlt:k<D.length
   ·obtain⟨b,o,hA,hbb,hx⟩:=Cs HD.out hlt
    subst hA;have hst:=hid (show EG d (D.drop k)=EG (Io d D[k]) (D.drop (k+1)) by rw[AS hlt];rfl);generalize D[k]=x at*;have i1:(k:Int)<(D.length:Int):=zD;have hb1:=KL (x:=x) hd;have HI:=hid (TG d hd x wr);generalize Io d x=q at*;go_wp2_with fail;refine HI.out.mono ?_;rintro r w1 ⟨rfl,rfl⟩;go_wp2;go_roundw
    case rel=>exact ⟨k+1,q,zD,zV,rfl,hb1,hid (by rw[hf.out,hst.out]),trivial⟩
    case measure=>simp [intOf];omega
   ·obtain rfl:k=D.length:=by omega
    have hff:Hid (EG 4294967295 D=d):=hid Z9;go_wp2;go_ret;exact⟨zM,rfl⟩)
 generalize EG 4294967295 D=s at*;go_enter Tryz.func98,Tryz.ntmps98;go_wp2_with fail;refine HA.out.mono ?_;rintro r w1 ⟨rfl,rfl⟩;have e2:0≤4294967295-(s:Int):=zD;go_wp2;go_ret;exact⟨by rw[hff.out];simp;omega,rfl⟩
theorem RQ(x:Nat)(hx:x<18446744073709551616)(w:World):
  Calls Tryz.prog 121 #[.int .u64 x,.int .i64 4] w fun r w'=>∃v,r=.returned v∧BD w' w.heap.size v (CW 4 x)∧Below w.heap.size w w':=by
 obtain⟨i0,hi,hz0,hz1,hz2⟩:=A3 DH;go_enter Tryz.func121,Tryz.ntmps121;go_wp2_with fail;go_loopw [5,6] (fun o i wr=>∃k:Nat,k≤4∧i=.int .i64 k∧wr.ownsRow w.heap.size 5 1 o k (byteCells (CW k x))∧Below w.heap.size w wr) (fun _ i _=>4-(intOf i).toNat)
 case atStart=>exact ⟨0,Am _,rfl,⟨rfl,.inl ⟨rfl,rfl⟩⟩,Below.refl _ _⟩
 case round=>
  obtain⟨k,hk,rfl,hown,hb⟩:=hrel;have hbs:=hb.size;obtain⟨aJ,cJ,rfl⟩:=AD hown;have HO:=hid hown;clear hown;by_cases hlt:k<4
  ·have i1:(k:Int)<4:=by omega
   have i2:(k:Int)<8:=zD;have d1:decide ((k:Int)<4)=true:=Ad i1;have d2:decide ((k:Int)<8)=true:=Ad i2;have hp:(2:Int)^(8*k)=((256^k:Nat):Int):=by
    rcases k with _ | _ | _ | _ | k
    ·rfl
    ·rfl
    ·rfl
    ·rfl
    ·omega
   have hfin:=hid (JM k x);have hby:Hid ((x:Int)/2^(8*k)%256=((UInt8.ofNat (x/256^k%256)).toNat:Int)):=hid (by
    rw[hp,←Ej zD];rfl)
   clear hp;go_wp2_with (at_builtin;(refine Ar rfl _ _ _ rfl w.heap.size 5 i0 (.int .u8 0) 1 1 Au hi hz0 hz1 hz2 rfl zO (.slice aJ k cJ) k (byteCells (CW k x)) rfl (AF HO.out zA) (some ⟨wr.heap.size,0,none⟩) 1 1 [.int .u8 ((x:Int)/2^(8*k)%256)] rfl (By wr 5 _ rfl rfl rfl) zW zK zD zH ?_;intro v' w1 hown1 hgrow1 hat1;have HG:=hid hgrow1;have HO1:=hid hown1;clear hgrow1 hown1 hat1))
   have ho:=HO1.out;rw[hby.out,DW,←hfin.out] at ho;have hB:Below w.heap.size w w1:=Below.grown zA HG.out zH (fun g e=>(HO.out.lt g e).1);have HO2:=hid ho;clear ho;go_wp2_with fail;go_roundw
   case rel=>exact ⟨k+1,zD,zV,HO2.out,hB⟩
   case measure=>simp [intOf];omega
  ·obtain rfl:k=4:=by omega
   go_wp2;go_ret;exact⟨_,rfl,HO.out,hb⟩
theorem RO(D:List UInt8)(ad:Option Addr)(nd cd:Nat)(w:World)(hD:Ah.r (·<w.heap.size) w [.slice ad nd cd] D)(hm:D.length≤2097152):
  Calls Tryz.prog 69 #[.slice ad nd cd] w fun r w'=>∃v,r=.returned v∧BD w' w.heap.size v (Bf D)∧Below w.heap.size w w':=by
 obtain⟨rfl,_,_,_⟩:=AT hD;obtain⟨i0,hi,hz0,hz1,hz2⟩:=A3 DH;have HB:=hid (LJ w D ad _ cd hD zD);have HS:=hid (fun (W:World) (hW:Below w.heap.size w W)=>Pq D ad _ cd W (lift hD hW));have HL:=IH D;have hfb:Hid (Bf D=C3 D++CW 4 (CQ D)):=hid rfl;have hbl:=D8 D;have hvl:=(AZ D.length).1;have hbl2:(C3 D).length≤3000000:=zD;have hfl:(CW 4 (CQ D)).length≤4:=by rw[Hu];omega
 have HF:=hid (fun W:World=>RQ (CQ D) zD W);have HON:=hid (AI (CW 4 (CQ D)));generalize CW 4 (CQ D)=X at*;generalize CQ D=s at*;generalize Bf D=K at*;generalize C3 D=B at*;have e1:(s:Int)%18446744073709551616=s:=zD;clear hD hbl hvl;go_enter Tryz.func69,Tryz.ntmps69;go_wp2_with fail;refine HB.out.mono ?_;rintro r w1 ⟨v,rfl,ho,hb1⟩;obtain⟨a1,c1,rfl⟩:=AD ho;have HO:=hid ho;clear ho;go_wp2_with fail;refine (HS.out _ hb1).mono ?_;rintro r w2 ⟨rfl,rfl⟩;go_wp2_with fail;refine (HF.out _).mono ?_;rintro r w3 ⟨v3,rfl,ho3,hb3⟩;obtain⟨a3,c3,rfl⟩:=ho3.form;have HSX:=hid (A8 (BM rfl ho3));have HO3:=hid (AF HO.out hb3);have hb03:=Af hb3 hb1;have hz03:=hb03.size;clear ho3;go_wp2_with (at_builtin;(refine Ar rfl _ _ _ rfl w.heap.size 5 i0 (.int .u8 0) 1 1 Au hi hz0 hz1 hz2 rfl zO (.slice a1 B.length c1) B.length (byteCells B) rfl HO3.out a3 X.length c3 (byteCells X) rfl HSX.out HON.out zK zD hz03 ?_;intro v' w4 hown4 hgrow4 hat4;have HG:=hid hgrow4;have HO4:=hid hown4;clear hgrow4 hown4 hat4))
 have hB:Below w.heap.size w w4:=Below.grown hb03 HG.out hz03 (fun g e=>(HO3.out.lt g e).1);have hO:=BD.app HO4.out;rw[←hfb.out] at hO;have HO5:=hid hO;clear hO;go_wp2;go_ret;exact⟨_,rfl,HO5.out,hB⟩
theorem BD.Acg{L:List UInt8}(hL:L.length=1)(h:w.ownsRow base 5 1 v (1+D.length) (byteCells L++byteCells D)):BD w base v (L++D):=by
 unfold BD;rw[Ag,hL,←Es];exact h
def Fm(m:Msg):List UInt8 × Int:=if DJ m=true then (Bf (CA m),0) else ([],3)
theorem IV(h:DJ m=true):(Bf (CA m)).length≤49035+m.data.length:=by
 have h1:=K8 h;have h2:=(AZ (CA m).length).1;rw[EX,D8];omega
theorem V4(w:World)(m:Msg)(a1:Option Addr)(c1:Nat)(a2:Option Addr)(c2:Nat)(a3:Option Addr)(c3:Nat)(a4:Option Addr)(c4:Nat)(hd:A9 (·<w.heap.size) w m a1 c1 a2 c2 a3 c3 a4 c4)(hbk:∀x∈m.links,x.backs.length≤1000000)(hln:m.data.length≤2000000):
  Calls Tryz.prog 56 #[.agg Acq] w fun r w'=>∃v,r=.returned (.tuple #[v,.int .i64 (Fm m).2])∧Ah.r (fun q=>w.heap.size≤q∧q<w'.heap.size) w' [v] (Fm m).1∧Below w.heap.size w w':=by
 have HPY:=hid (fun (W:World) (hW:Below w.heap.size w W)=>RA W m a1 c1 a2 c2 a3 c3 a4 c4 (A9.lift hd hW) hbk zD);have hb0:Below w.heap.size w (w.alloc (.cells Acq 45)):=zB;unfold Fm;unfold Gy at HPY;cases hR:DJ m
 ·rw[hR] at HPY
  simp only[Bool.false_eq_true,if_false] at HPY;rw[Ak zN];clear hd hbk hR;go_enter Tryz.func56,Tryz.ntmps56;go_wp2_with fail;generalize (w.alloc (.cells Acq 45))=w0 at*;refine (HPY.out _ hb0).mono ?_;rintro r w1 ⟨v1,rfl,hr1,hb1⟩;obtain⟨e1,k1,hv1,hr1',_⟩:=AN hr1;simp only[As,AM] at hv1;subst hv1;have hbw1:=Af hb1 hb0;clear hr1 hr1' hb1;go_wp2_with fail;go_ret2
  exact⟨_,rfl,G4 rfl rfl zD,hbw1⟩
 ·rw[hR] at HPY
  simp only[Fx] at HPY;rw[Ai rfl];have hpl:=K8 hR;have HFB:=hid (fun (W:World) (ad:Option Addr) (cd:Nat) (hD:Ah.r (·<W.heap.size) W [.slice ad (CA m).length cd] (CA m))=>MN W (CA m) ad _ cd hD zD);generalize CA m=P at*;clear hd hbk hR hpl;go_enter Tryz.func56,Tryz.ntmps56;go_wp2_with fail;generalize (w.alloc (.cells Acq 45))=w0 at*;refine (HPY.out _ hb0).mono ?_;rintro r w1 ⟨v1,rfl,hr1,hb1⟩;obtain⟨e1,k1,hv1,hr1',_⟩:=AN hr1;simp only[As,AM] at hv1;subst hv1;have hbw1:=Af hb1 hb0;have HFF:=hid (HFB.out w1 e1 k1 (Ah.mono hr1' fun q hq=>hq.2));have hs1:=hbw1.size;clear hr1 hr1' hb1;go_wp2_with fail;refine HFF.out.mono ?_;rintro r w2 ⟨x,rfl,ho,hb2⟩;have hbe:=Af hb2 hbw1;have HV:=hid (Ah.mono (S':=fun q=>w.heap.size≤q∧q<w2.heap.size) (Cg rfl ho) fun q hq=>⟨zY,hq.2⟩);clear ho;go_wp2_with fail;go_ret2
  exact⟨_,rfl,HV.out,hbe⟩
theorem OS(w:World)(m:Msg)(a1:Option Addr)(c1:Nat)(a2:Option Addr)(c2:Nat)(a3:Option Addr)(c3:Nat)(a4:Option Addr)(c4:Nat)(hd:A9 (·<w.heap.size) w m a1 c1 a2 c2 a3 c3 a4 c4)(hbk:∀x∈m.links,x.backs.length≤1000000)(hR:DJ m=true):
  Calls Tryz.prog 70 #[.agg Acq] w fun r w'=>∃v,r=.returned v∧BD w' w.heap.size v (CA m)∧Below w.heap.size w w':=by
 obtain⟨i0,hi,hz0,hz1,hz2⟩:=A3 DH;have hR':=hR;simp only[DJ,Aq] at hR';obtain⟨hm,hep⟩:=hR';have hk:1≤m.kind∧m.kind≤14:=(EB hm).kind;have hdl:=(EB hm).data;have hml:=IF hm;have hvl:=(AZ m.epoch.toNat).1;have hsl:=(AZ m.seq.toNat).1;have HE:=hid (Gi m.epoch hd.epoch);have HS:=hid (Gi m.seq hd.seq);have HB:=hid (fun (W:World) (hW:Below w.heap.size w W)=>RC W m a1 c1 a2 c2 a3 c3 a4 c4 (A9.lift hd hW) hbk hm);have hpb:CA m=[UInt8.ofNat m.kind.toNat]++Az m.epoch.toNat++Az m.seq.toNat++D4 m:=rfl;rw[hpb];have HOE:=hid (AI (Az m.epoch.toNat));have HOS:=hid (AI (Az m.seq.toNat));have HOK:=hid (AI (D4 m));have hkz:0≤m.kind:=zD;have hky:m.kind≤14:=hk.2;have hkk:m.kind=((UInt8.ofNat m.kind.toNat).toNat:Int):=by
  have:=Ej (x:=m.kind.toNat) zD;rw[toNat_cast hkz] at this;exact this
 have hcell:byteCells [UInt8.ofNat m.kind.toNat]=[.int .u8 m.kind]:=by simp only[byteCells,Dg,Lz];rw[←hkk]
 have hkl:[UInt8.ofNat m.kind.toNat].length=1:=rfl;generalize [UInt8.ofNat m.kind.toNat]=KB at*;generalize Az m.epoch.toNat=VE at*;generalize Az m.seq.toNat=VS at*;generalize D4 m=K at*;have HOWN:=hid (fun (W:World) (b g:Nat) (hb:b≤g) (hB:Blk W g 5 #[.int .u8 m.kind])=>(by rw[hcell];exact GF hb hB:W.ownsRow b 5 1 (.slice (some ⟨g,0,none⟩) 1 1) 1 (byteCells KB)));have HWL:Hid (IntKind.u8.wrap m.kind=m.kind):=hid (by rw[IntKind.wrap_u8];omega);have HBX:Hid (Blk (w.alloc (.cells Acq 45)) w.heap.size 45 Acq):=hid (Blk.new w _ _);have hb0:Below w.heap.size w (w.alloc (.cells Acq 45)):=zB;have hs0:w.heap.size<(w.alloc (.cells Acq 45)).heap.size:=zN;have HKL:=hid hkl;clear hd hbk hR hm hep hk hpb hcell hkk;go_enter Tryz.func70,Tryz.ntmps70;go_upto_region 1 with (fail);generalize (w.alloc (.cells Acq 45))=w0 at*;have x0:w0.cell? ⟨w.heap.size,0,none⟩=some (.int .i64 m.kind):=HBX.out.cell 0;have x1:w0.cell? ⟨w.heap.size,1,none⟩=some (.int .u64 m.epoch):=HBX.out.cell 1;have HB0:=hid hb0;clear hb0;go_cut [3] from 4 to 11 (fun v V=>∃a3 c3,v=.slice a3 (1+VE.length) c3∧BD V w0.heap.size v (KB++VE)∧Below w0.heap.size w0 V)
 case first=>
  refine CJ (S:=fun w'=>w'.cell? ⟨w.heap.size,0,none⟩=some (.int .i64 m.kind)∧w'.cell? ⟨w.heap.size,1,none⟩=some (.int .u64 m.epoch)) zI ⟨x0,x1⟩ (fun hHeld=> ?_);refine Ap (i:=0) (oi:=_) (v:=?_) rfl zE zE zE (fun _ _ _ h=>h) (Or.inl ⟨zS,?_⟩) zL ?_;rotate_left
  ·(intro w hSw;(try dsimp only at hSw);go_simp<;>with_reducible rfl)
  (try simp only[Act.put,Aa,Ab,Ac])
  refine Ap (i:=1) (oi:=_) (v:=?_) rfl zE zE zE (fun _ _ _ h=>h) (Or.inl ⟨zS,?_⟩) zL ?_;rotate_left
  ·(intro w hSw;(try dsimp only at hSw);go_simp<;>with_reducible rfl)
  (try simp only[Act.put,Aa,Ab,Ac])
  refine Ap (i:=2) (oi:=_) (v:=?_) rfl zE zE zE (fun _ _ _ h=>h) (Or.inl ⟨zS,?_⟩) zL ?_;rotate_left
  ·(intro w hSw;(try dsimp only at hSw);go_simp<;>with_reducible rfl)
  (try simp only[Act.put,Aa,Ab,Ac])
  rw[HWL.out];refine Ap (i:=4) (oi:=_) (v:=?_) rfl zE zE zE (fun _ _ _ h=>h) (Or.inl ⟨zS,?_⟩) zL ?_;rotate_left
  ·(intro w hSw;(try dsimp only at hSw);go_simp<;>with_reducible rfl)
  (try simp only[Act.put,Aa,Ab,Ac])
  refine Ap (i:=5) (oi:=_) (v:=?_) rfl zE zE zE (fun _ _ _ h=>h) (Or.inl ⟨zS,?_⟩) zL ?_;rotate_left
  ·(intro w hSw;(try dsimp only at hSw);go_simp<;>with_reducible rfl)
  (try simp only[Act.put,Aa,Ab,Ac])
  refine AU (rs:=[3,6]) zE zN ?_;refine AK (o:=_) rfl (fun K hK=> ?_) (AK (o:=_) rfl (fun K hK=> ?_) AllReadyH.nil)
  ·go_simp
   refine hK.out _ _ ?_ (fun hHeld=> ?_)
   ·((try dsimp only);first | exact⟨zL,zL⟩ | (refine⟨?_,?_⟩<;>(first | assumption | (go_keep;done))))
   clear hK K
   (try simp only[Act.put,Aa,Ab,Ac])
   refine AU (rs:=[6]) zE zN ?_;refine AK (o:=_) rfl (fun K hK=> ?_) AllReadyH.nil
   (go_simp;go_at_call 101;refine (HE.out _).mono ?_;rintro e1 w1 ⟨v1,rfl,hv1,hb1⟩;obtain⟨a1x,c1x,rfl⟩:=AD hv1;have hb01:Below w0.heap.size w0 w1:=Af hb1 zA;have HS1:=hid (A8 (BM rfl hv1));have HBX2:=(Blk.newAt (w0.drew) 5 #[.int .u8 m.kind] (g:=w0.heap.size) rfl).later hb1;have HO1:=hid (HOWN.out _ w0.heap.size _ (An _) HBX2);have X0:=(hb01.cell (p:=⟨w.heap.size,0,none⟩) hs0).trans x0;have X1:=(hb01.cell (p:=⟨w.heap.size,1,none⟩) hs0).trans x1;have hz1s:=hb01.size;clear hv1 hb1 HBX2)
   refine hK.out _ _ ?_ (fun hHeld=> ?_)
   ·((try dsimp only);first | exact⟨zL,zL⟩ | (refine⟨?_,?_⟩<;>(first | assumption | (go_keep;done))))
   clear hK K
   (try simp only[Act.put,Aa,Ab,Ac])
   refine AU (rs:=[7]) zE zN ?_;refine AK (o:=_) rfl (fun K hK=> ?_) AllReadyH.nil
   (refine BG zS _ _ _ zS w0.heap.size 5 i0 (.int .u8 0) 1 1 Au hi hz0 hz1 hz2 rfl zO (.slice (some ⟨w0.heap.size,0,none⟩) 1 1) 1 (byteCells KB) zS (HO1.out) (a1x) (VE.length) (c1x) (byteCells VE) zS (HS1.out) HOE.out zK zD zD ?_;intro a3 c3 w3 hown3 hgrow3 hat3;have HO3:=hid (BD.Acg HKL.out hown3);have hbg3:Below w0.heap.size w1 w3:=(Below.grown (Below.refl _ _) hgrow3 zD (fun g e=>(BI (HO1.out) g e).1));clear hown3 hgrow3 hat3;have hb3:Below w0.heap.size w0 w3:=hb01.trans hbg3;have Y0:=(hb3.cell (p:=⟨w.heap.size,0,none⟩) hs0).trans x0;have Y1:=(hb3.cell (p:=⟨w.heap.size,1,none⟩) hs0).trans x1)
   refine hK.out _ _ ?_ (fun hHeld=> ?_)
   ·((try dsimp only);first | exact⟨zL,zL⟩ | (refine⟨?_,?_⟩<;>(first | assumption | (go_keep;done))))
   clear hK K
   (try simp only[Act.put,Aa,Ab,Ac])
   refine Ap (i:=8) (oi:=_) (v:=?_) rfl zE zE zE (fun _ _ _ h=>h) (Or.inl ⟨zS,?_⟩) zL ?_;rotate_left
   ·(intro w hSw;(try dsimp only at hSw);go_simp<;>with_reducible rfl)
   (try simp only[Act.put,Aa,Ab,Ac])
   (try simp only[AA,Ay,Aw,Act.put,Aa,Ab,Ac])
   refine CS zI ?_ _;go_wp2_with fail;go_meet
   case rel=>exact ⟨a3,c3,rfl,zBg,hb3⟩
  ·go_simp
   go_at_call 101
   refine (HE.out _).mono ?_;rintro e1 w1 ⟨v1,rfl,hv1,hb1⟩;obtain⟨a1x,c1x,rfl⟩:=AD hv1;have hb01:Below w0.heap.size w0 w1:=Af hb1 (Below.refl _ _).drew;have HS1r:=hid (BM rfl hv1);have X0:=(hb01.cell (p:=⟨w.heap.size,0,none⟩) hs0).trans x0;have X1:=(hb01.cell (p:=⟨w.heap.size,1,none⟩) hs0).trans x1;have hz1s:=hb01.size;clear hv1 hb1;refine hK.out _ _ ?_ (fun hHeld=> ?_)
   ·((try dsimp only);first | exact⟨zL,zL⟩ | (refine⟨?_,?_⟩<;>(first | assumption | (go_keep;done))))
   clear hK K
   (try simp only[Act.put,Aa,Ab,Ac])
   refine AU (rs:=[3]) zE zN ?_;refine AK (o:=_) rfl (fun K hK=> ?_) AllReadyH.nil;go_simp
   refine hK.out _ _ ?_ (fun hHeld=> ?_)
   ·((try dsimp only);first | exact⟨zL,zL⟩ | (refine⟨?_,?_⟩<;>(first | assumption | (go_keep;done))))
   clear hK K
   (try simp only[Act.put,Aa,Ab,Ac])
   have HO1:=hid (HOWN.out _ w0.heap.size _ hz1s (Blk.new w1 5 #[.int .u8 m.kind]));have HS1:=hid (A8 (lift HS1r.out (AH (Below.refl w1.heap.size w1) (.cells #[.int .u8 m.kind] 5))));refine AU (rs:=[7]) zE zN ?_;refine AK (o:=_) rfl (fun K hK=> ?_) AllReadyH.nil
   (refine BG zS _ _ _ zS w0.heap.size 5 i0 (.int .u8 0) 1 1 Au hi hz0 hz1 hz2 rfl zO (.slice (some ⟨w1.heap.size,0,none⟩) 1 1) 1 (byteCells KB) zS (HO1.out) (a1x) (VE.length) (c1x) (byteCells VE) zS (HS1.out) HOE.out zK zD zH ?_;intro a3 c3 w3 hown3 hgrow3 hat3;have HO3:=hid (BD.Acg HKL.out hown3);have hbg3:Below w0.heap.size (w1.alloc (.cells #[.int .u8 m.kind] 5)) w3:=(Below.grown (Below.refl _ _) hgrow3 zH (fun g e=>(BI (HO1.out) g e).1));clear hown3 hgrow3 hat3;have hb3:Below w0.heap.size w0 w3:=hb01.trans (((Below.refl _ _).alloc hz1s _).trans hbg3);have Y0:=(hb3.cell (p:=⟨w.heap.size,0,none⟩) hs0).trans x0;have Y1:=(hb3.cell (p:=⟨w.heap.size,1,none⟩) hs0).trans x1)
   refine hK.out _ _ ?_ (fun hHeld=> ?_)
   ·((try dsimp only);first | exact⟨zL,zL⟩ | (refine⟨?_,?_⟩<;>(first | assumption | (go_keep;done))))
   clear hK K
   (try simp only[Act.put,Aa,Ab,Ac])
   refine Ap (i:=8) (oi:=_) (v:=?_) rfl zE zE zE (fun _ _ _ h=>h) (Or.inl ⟨zS,?_⟩) zL ?_;rotate_left
   ·(intro w hSw;(try dsimp only at hSw);go_simp<;>with_reducible rfl)
   (try simp only[Act.put,Aa,Ab,Ac])
   (try simp only[AA,Ay,Aw,Act.put,Aa,Ab,Ac])
   refine CS zI ?_ _;go_wp2_with fail;go_meet
   case rel=>exact ⟨a3,c3,rfl,zBg,hb3⟩
 case rest=>
  obtain⟨aQ,cQ,rfl,hown3,hb3⟩:=hcut;have hl3:(KB++VE).length=1+VE.length:=by rw[Ag,HKL.out]
  rw[←hl3] at hown3 ⊢;have hj3:(KB++VE).length≤11:=by rw[hl3];omega
  generalize hJ3:KB++VE=J3 at*;have HJ3:=hid hJ3;have HO3:=hid hown3;have HX3:=HBX.out.below hb3 hs0;have z2:wc.cell? ⟨w.heap.size,2,none⟩=some (.int .u64 m.seq):=HX3.cell 2;have HB3:=hid hb3;have hz3:=hb3.size;clear hown3 hJ3 hl3;go_wp2_with fail;refine (HS.out _).mono ?_;rintro r w4 ⟨v4,rfl,hv4,hb4⟩;obtain⟨a4x,c4x,rfl⟩:=AD hv4;have HS4:=hid (A8 (BM rfl hv4));have HQ4:=hid (AF HO3.out hb4);have hz4:=hb4.size;have hb04:Below w0.heap.size w0 w4:=HB3.out.trans (hb4.mono hz3);clear hv4 z2;go_wp2_with (at_builtin;go_loud (refine Ar rfl _ _ _ rfl w0.heap.size 5 i0 (.int .u8 0) 1 1 Au hi hz0 hz1 hz2 rfl zO (.slice aQ J3.length cQ) J3.length (byteCells J3) rfl (HQ4.out) (a4x) (VS.length) (c4x) (byteCells VS) rfl (HS4.out) HOS.out zK zD zD ?_;intro v' w5x hown5x hgrow5x hat5x;obtain⟨a5x,c5x,rfl⟩:=AD hown5x;have HO5x:=hid (BD.app hown5x);have hbg5x:Below w0.heap.size w4 w5x:=(Below.grown (Below.refl _ _) hgrow5x zD (fun g e=>(BI (HQ4.out) g e).1));clear hown5x hgrow5x hat5x;have hb5:Below w0.heap.size w0 w5x:=hb04.trans hbg5x;have HX5:=hid (HBX.out.below hb5 hs0);have y0:w5x.cell? ⟨w.heap.size,0,none⟩=some (.int .i64 m.kind):=HX5.out.cell 0;have y1:w5x.cell? ⟨w.heap.size,1,none⟩=some (.int .u64 m.epoch):=HX5.out.cell 1;have y2:w5x.cell? ⟨w.heap.size,2,none⟩=some (.int .u64 m.seq):=HX5.out.cell 2;have y3:w5x.cell? ⟨w.heap.size,3,none⟩=some (.int .u64 m.pos):=HX5.out.cell 3;have y4:w5x.cell? ⟨w.heap.size,4,none⟩=some (.int .i64 m.count):=HX5.out.cell 4;have y5:w5x.cell? ⟨w.heap.size,5,none⟩=some (.int .i64 m.state):=HX5.out.cell 5;have y6:w5x.cell? ⟨w.heap.size,6,none⟩=some (.slice a1 m.streams.length c1):=HX5.out.cell 6;have y7:w5x.cell? ⟨w.heap.size,7,none⟩=some (.slice a2 m.links.length c2):=HX5.out.cell 7;have y8:w5x.cell? ⟨w.heap.size,8,none⟩=some (.slice a3 m.data.length c3):=HX5.out.cell 8;have y9:w5x.cell? ⟨w.heap.size,9,none⟩=some (.int .u64 m.sea.epoch):=HX5.out.cell 9;have y10:w5x.cell? ⟨w.heap.size,10,none⟩=some (.int .u64 m.sea.node):=HX5.out.cell 10;have y11:w5x.cell? ⟨w.heap.size,11,none⟩=some (.int .u64 m.sea.tail):=HX5.out.cell 11;have y12:w5x.cell? ⟨w.heap.size,12,none⟩=some (.int .u64 m.proj.epoch):=HX5.out.cell 12;have y13:w5x.cell? ⟨w.heap.size,13,none⟩=some (.slice a4 m.proj.stripes.length c4):=HX5.out.cell 13))
  have hl5:(J3++VS).length=J3.length+VS.length:=Ag;have hj5:(J3++VS).length≤21:=by rw[hl5];omega
  generalize hJ5:J3++VS=J5 at*;have HJ5:=hid hJ5;have HP5:=hid HO5x.out;rw[←hl5] at HP5 ⊢;have hz5:=hb5.size;have HBB:=hid (HB.out w5x (HB0.out.trans (hb5.mono HB0.out.size)));have HB5:=hid hb5;clear hJ5 hl5 hb5 hbg5x;refine HBB.out.mono ?_;rintro r w6 ⟨v6,rfl,hv6,hb6⟩;obtain⟨a6x,c6x,rfl⟩:=AD hv6;have HS6:=hid (A8 (BM rfl hv6));have HQ6:=hid (AF HP5.out hb6);have hz6:=hb6.size;clear hv6 y0 y1 y2 y3 y4 y5 y6 y7 y8 y9 y10 y11 y12 y13;go_wp2_with (at_builtin;go_loud (refine Ar rfl _ _ _ rfl w0.heap.size 5 i0 (.int .u8 0) 1 1 Au hi hz0 hz1 hz2 rfl zO (.slice a5x J5.length c5x) J5.length (byteCells J5) rfl (HQ6.out) (a6x) (K.length) (c6x) (byteCells K) rfl (HS6.out) HOK.out zK zD zD ?_;intro v' w7x hown7x hgrow7x hat7x;obtain⟨a7x,c7x,rfl⟩:=AD hown7x;have HO7x:=hid (BD.app hown7x);have hbg7x:Below w0.heap.size w6 w7x:=(Below.grown (Below.refl _ _) hgrow7x zD (fun g e=>(BI (HQ6.out) g e).1));clear hown7x hgrow7x hat7x))
  have hbe:Below w.heap.size w w7x:=HB0.out.trans ((HB5.out.trans ((hb6.mono hz5).trans hbg7x)).mono HB0.out.size);have HOL:=hid (GG HO7x.out (Nat.le_of_lt hs0));go_ret;have hfin:=HOL.out;rw[←HJ5.out,←HJ3.out] at hfin;refine⟨_,rfl,?_,hbe⟩;rw[←HJ5.out,←HJ3.out];exact hfin
theorem RB(w:World)(m:Msg)(a1:Option Addr)(c1:Nat)(a2:Option Addr)(c2:Nat)(a3:Option Addr)(c3:Nat)(a4:Option Addr)(c4:Nat)(hd:A9 (·<w.heap.size) w m a1 c1 a2 c2 a3 c3 a4 c4)(hbk:∀x∈m.links,x.backs.length≤1000000)(hln:m.data.length≤2000000)(hR:DJ m=true):
  Calls Tryz.prog 23 #[.agg Acq] w fun r w'=>∃v,r=.returned v∧BD w' w.heap.size v (Bf (CA m))∧Below w.heap.size w w':=by
 have HPY:=hid (fun (W:World) (hW:Below w.heap.size w W)=>OS W m a1 c1 a2 c2 a3 c3 a4 c4 (A9.lift hd hW) hbk hR);have hpl:=K8 hR;have HFB:=hid (fun (W:World) (ad:Option Addr) (cd:Nat) (hD:Ah.r (·<W.heap.size) W [.slice ad (CA m).length cd] (CA m))=>RO (CA m) ad _ cd W hD zD);have hb0:Below w.heap.size w (w.alloc (.cells Acq 45)):=zB;generalize CA m=P at*;clear hd hbk hR hpl;go_enter Tryz.func23,Tryz.ntmps23;go_wp2_with fail;generalize (w.alloc (.cells Acq 45))=w0 at*;refine (HPY.out _ hb0).mono ?_;rintro r w1 ⟨v1,rfl,ho1,hb1⟩;obtain⟨e1,k1,rfl⟩:=AD ho1;have HFF:=hid (HFB.out w1 e1 k1 (BM rfl ho1));have hbw1:=Af hb1 hb0;have hs1:=hbw1.size;clear ho1;go_wp2_with fail;refine HFF.out.mono ?_;rintro r w2 ⟨x,rfl,ho,hb2⟩;have hbe:=Af hb2 hbw1;have HV:=hid (GG ho hs1);clear ho;go_wp2_with fail;go_ret;exact⟨_,rfl,HV.out,hbe⟩
end Go.Proofs.YtfddhafbhceoaaaGreat
namespace Go.Bs
open Go.RowKit
variable{c i n:Nat}{S:Nat → Prop}{a:Option Addr}{w:World}
def Jz:Rp (List Msg):=rSl 14 QF
theorem N9{xs:List Msg}(h:Jz.r S w [.slice a n c] xs)(hi:i<xs.length):∃b off,a=some ⟨b,off,none⟩∧S b∧∃(a1:Option Addr) (c1:Nat) (a2:Option Addr) (c2:Nat) (a3:Option Addr) (c3:Nat) (a4:Option Addr) (c4:Nat),
  (w.cell? ⟨b,off+i*14,none⟩=some (.int .i64 xs[i].kind)∧w.cell? ⟨b,off+i*14+1,none⟩=some (.int .u64 xs[i].epoch)∧w.cell? ⟨b,off+i*14+2,none⟩=some (.int .u64 xs[i].seq)∧w.cell? ⟨b,off+i*14+3,none⟩=some (.int .u64 xs[i].pos)∧w.cell? ⟨b,off+i*14+4,none⟩=some (.int .i64 xs[i].count)∧w.cell? ⟨b,off+i*14+5,none⟩=some (.int .i64 xs[i].state)∧w.cell? ⟨b,off+i*14+6,none⟩=some (.slice a1 xs[i].streams.length c1)∧w.cell? ⟨b,off+i*14+7,none⟩=some (.slice a2 xs[i].links.length c2)∧w.cell? ⟨b,off+i*14+8,none⟩=some (.slice a3 xs[i].data.length c3)∧w.cell? ⟨b,off+i*14+9,none⟩=some (.int .u64 xs[i].sea.epoch)∧w.cell? ⟨b,off+i*14+10,none⟩=some (.int .u64 xs[i].sea.node)∧w.cell? ⟨b,off+i*14+11,none⟩=some (.int .u64 xs[i].sea.tail)∧w.cell? ⟨b,off+i*14+12,none⟩=some (.int .u64 xs[i].proj.epoch)∧w.cell? ⟨b,off+i*14+13,none⟩=some (.slice a4 xs[i].proj.stripes.length c4))∧A9 S w xs[i] a1 c1 a2 c2 a3 c3 a4 c4:=by
 obtain⟨b,off,e,hS,cs,_,hc,hA⟩:=Kg h hi;obtain⟨a1,c1,a2,c2,a3,c3,a4,c4,rfl,h1⟩:=PD hA;exact⟨b,off,e,hS,a1,c1,a2,c2,a3,c3,a4,c4,⟨hc 0 _ rfl,hc 1 _ rfl,hc 2 _ rfl,hc 3 _ rfl,hc 4 _ rfl,hc 5 _ rfl,hc 6 _ rfl,hc 7 _ rfl,hc 8 _ rfl,hc 9 _ rfl,hc 10 _ rfl,hc 11 _ rfl,hc 12 _ rfl,hc 13 _ rfl⟩,h1⟩
end Go.Bs
namespace Go.Proofs.YtfddhafbhceoaaaGreat
open Go.RowKit Go.Bs Go.Maps
variable{B D J P rest:List UInt8}{xs:List Value}{m:Msg}{L base c c1 c2 c3 c4 g j n p sz:Nat}{S:Nat → Prop}{a a1 a2 a3 a4:Option Addr}{s:Rs}{e:TypeId}{v:Value}{W W' w w1:World}
def KD(l:List Msg):Bool:=PH 12 Iw l
def UY(l:List Msg):Bool:=l.all DJ
def B9(l:List Msg):List UInt8:=(l.map fun m=>Bf (CA m)).flatten
def Fs(l:List Msg):List UInt8 × Int:=if UY l=true then (B9 l,0) else ([],3)
theorem Qj(l:List Msg)(k:Nat)(h:k<l.length):B9 (l.take (k+1))=B9 (l.take k)++Bf (CA l[k]):=by
 unfold B9;rw[AW h,BX,CK];simp only[Dg,Lz,Du,List.flatten_nil,BK]
theorem AaZ{l:List Msg}(h:UY l=true)(i:Nat)(hi:i<l.length):DJ l[i]=true:=List.all_eq_true.1 h _ (Bi hi)
theorem UW{l:List Msg}(i:Nat)(hi:i<l.length)(h:DJ l[i]=false):UY l=false:=by
 rcases hh:UY l with _ | _
 ·rfl
 ·rw[AaZ hh i hi] at h;cases h
theorem WX{l:List Msg}(h:∀i,i<l.length→∀hi:i<l.length,DJ l[i]=true):UY l=true:=List.all_eq_true.2 fun x hx=>by
 obtain⟨i,hi,rfl⟩:=Fa hx;exact h i hi hi
theorem Ue(l:List Msg)(a:Option Addr)(n c:Nat)(w:World)(hl:Jz.r (·<w.heap.size) w [.slice a n c] l):
  Calls Tryz.prog 22 #[.slice a n c] w fun r w'=>r=.returned (.bool (KD l))∧Below w.heap.size w w':=by
 obtain⟨rfl,hm,_,_⟩:=AT hl;have HL:=hid hl;clear hl;go_enter Tryz.func22,Tryz.ntmps22;go_wp2_with fail;go_loopw [3] (fun i wr=>∃k:Nat,k≤l.length∧k≤12∧i=.int .i64 k∧Hid (KD l=Fe 12 Iw l k)∧Below w.heap.size w wr) (fun i _=>l.length-(intOf i).toNat)
 case atStart=>exact ⟨0,Am _,Am _,rfl,hid rfl,Below.refl _ _⟩
 case round=>
  obtain⟨k,hk,hk2,rfl,hf,hb⟩:=hrel;by_cases hlt:k<l.length
  ·have i1:(k:Int)<(l.length:Int):=by omega
   have e1:decide ((k:Int)<(l.length:Int))=true:=Ad i1;by_cases h20:k<12
   ·have e2:decide ((k:Int)<12)=true:=Ad zD
    obtain⟨b,o,hA,hbb,a1,c1,a2,c2,a3,c3,a4,c4,⟨u0,u1,u2,u3,u4,u5,u6,u7,u8,u9,u10,u11,u12,u13⟩,xl⟩:=N9 (lift HL.out hb) hlt;subst hA;have hst:=hid (G2 12 Iw l k hlt h20);have HC:=hid (Uf l[k] a1 c1 a2 c2 a3 c3 a4 c4 wr xl);have HB:=hid hb;clear xl hb;generalize l[k]=x at*;cases h3:Iw x
    ·have hff:Hid (KD l=Fe 12 Iw l (k+1)):=hid (by rw[hf.out,hst.out,h3];simp)
     rw[h3] at HC;clear h3;go_wp2_with fail;refine HC.out.mono ?_;rintro r w3 ⟨rfl,hb3⟩;have hbe:=Af hb3 HB.out;go_wp2_with fail;go_roundw
     case rel=>exact ⟨k+1,zD,zD,zV,hff,hbe⟩
     case measure=>(simp[intOf];try omega)
    ·have hff:Hid (KD l=true):=hid (by rw[hf.out,hst.out,h3];rfl)
     rw[h3] at HC;clear h3;go_wp2_with fail;refine HC.out.mono ?_;rintro r w3 ⟨rfl,hb3⟩;have hbe:=Af hb3 HB.out;go_wp2_with fail;go_ret;exact⟨zM,hbe⟩
   ·have e2:decide ((k:Int)<12)=false:=Ae zD
    have hff:Hid (KD l=decide ((12:Int)<(l.length:Int))):=hid ZM;go_wp2_with fail;go_ret;exact⟨zM,hb⟩
  ·have e1:decide ((k:Int)<(l.length:Int))=false:=Ae zD
   have hff:Hid (KD l=decide ((12:Int)<(l.length:Int))):=hid ZN;go_wp2_with fail;go_ret;exact⟨zM,hb⟩
theorem Aat(l:List Msg)(a:Option Addr)(n c:Nat)(w:World)(hl:Jz.r (·<w.heap.size) w [.slice a n c] l)(hsh:∀m∈l,Aag m)(hlen:l.length≤12):
  Calls Tryz.prog 25 #[.slice a n c] w fun r w'=>∃v,r=.returned (.tuple #[v,.int .i64 (Fs l).2])∧Ah.r (fun q=>w.heap.size≤q∧q<w'.heap.size) w' [v] (Fs l).1∧Below w.heap.size w w':=by
 obtain⟨rfl,hm,_,_⟩:=AT hl;obtain⟨i0,hi,hz0,hz1,hz2⟩:=A3 DH;have HL:=hid hl;have HSH:=hid (fun (k:Nat) (h:k<l.length)=>hsh l[k] (Bi h));have HAS:=hid (fun (k:Nat) (h:k<l.length)=>Qj l k h);clear hl hsh;go_enter Tryz.func25,Tryz.ntmps25;go_wp2_with fail;go_loopw [4,11] (fun v i wr=>∃(k:Nat) (J:List UInt8),k≤l.length∧i=.int .i64 k∧BD wr w.heap.size v J∧Hid (J=B9 (l.take k))∧Hid (∀i,i<k→∀hi:i<l.length,DJ l[i]=true)∧J.length≤k*49335∧(∃aJ cJ,v=.slice aJ J.length cJ)∧Below w.heap.size w wr) (fun _ i _=>l.length-(intOf i).toNat)
 case atStart=>exact ⟨0,[],Am _,rfl,⟨rfl,.inl ⟨rfl,rfl⟩⟩,hid (by simp[B9]),hid (fun i hi=>zD),Am _,⟨_,_,rfl⟩,Below.refl _ _⟩
 case round=>
  obtain⟨k,J,hk,rfl,hown,hJ,hall,hJl,⟨aJ,cJ,rfl⟩,hb⟩:=hrel;have HO:=hid hown;have HB:=hid hb;have hz:=hb.size;by_cases hlt:k<l.length
  ·have i1:(k:Int)<(l.length:Int):=by omega
   have e1:decide ((k:Int)<(l.length:Int))=true:=Ad i1;obtain⟨b,o,hA,hbb,a1,c1,a2,c2,a3,c3,a4,c4,⟨u0,u1,u2,u3,u4,u5,u6,u7,u8,u9,u10,u11,u12,u13⟩,xl⟩:=N9 (lift HL.out hb) hlt;subst hA;have hs:=HSH.out k hlt;have hst:=HAS.out k hlt;have hfin:DJ l[k]=false→UY l=false:=UW k hlt;have hnx:DJ l[k]=true→∀i,i<k+1→∀hi:i<l.length,DJ l[i]=true:=fun h1 i hi h2=>by
    rcases Bh i k with h3 | h3
    ·exact hall.out i h3 h2
    ·obtain rfl:i=k:=by omega
     exact h1
   have hbl:b<wr.heap.size:=CN _ _ u0;have HC:=hid (fun (W:World) (hW:Below wr.heap.size wr W)=>V4 W l[k] a1 c1 a2 c2 a3 c3 a4 c4 (A9.lift xl hW) (fun x hx=>by have:=hs.backs x hx;omega) (by have:=hs.data;omega));unfold Fm at HC;clear xl hb hown;generalize l[k]=x at*;have hfl:DJ x=true→(Bf (CA x)).length≤49335:=fun h=>by have:=IV h;have:=hs.data;omega
   generalize Bf (CA x)=FX at*;have HONE:=hid (AI FX);have HST:=hid hst;clear hst hs;cases hr:DJ x
   ·rw[hr] at HC
    simp only[Bool.false_eq_true,if_false] at HC;have hff:Hid (Fs l=([],3)):=hid (by unfold Fs;rw[hfin hr];rfl);clear hfin hnx hfl hr;go_wp2_with fail;refine (HC.out _ zA).mono ?_;rintro r w3 ⟨v3,rfl,hr3,hb3⟩;obtain⟨e3,k3,hv3,hr3',_⟩:=AN hr3;simp only[As,AM] at hv3;subst hv3;have hbe:Below w.heap.size w w3:=Af hb3 (AH HB.out _);clear hr3 hr3';go_wp2_with fail;go_ret2
    rw[hff.out];exact⟨_,rfl,G4 rfl rfl zD,hbe⟩
   ·rw[hr] at HC
    simp only[Fx] at HC;have hal:=hid (hnx hr);have hfx:=hfl hr;clear hfin hnx hfl hr;go_wp2_with fail;refine (HC.out _ zA).mono ?_;rintro r w3 ⟨v3,rfl,hr3,hb3⟩;obtain⟨e3,k3,hv3,hr3',_⟩:=AN hr3;simp only[As,AM] at hv3;subst hv3;have hbw3:Below wr.heap.size wr w3:=zA;have HQ:=hid (AF HO.out hbw3);have HS3:=hid (A8 hr3');have hz3:=hbw3.size;clear hr3 hr3' hb3;go_wp2_with (at_builtin;go_loud (refine Ar rfl _ _ _ rfl w.heap.size 5 i0 (.int .u8 0) 1 1 Au hi hz0 hz1 hz2 rfl zO (.slice aJ J.length cJ) J.length (byteCells J) rfl (HQ.out) (e3) (FX.length) (k3) (byteCells FX) rfl (HS3.out) HONE.out zK zD zD ?_;intro v' w5x hown5x hgrow5x hat5x;obtain⟨a5x,c5x,rfl⟩:=AD hown5x;have HO5x:=hid (BD.app hown5x);have hbg5x:Below w.heap.size w3 w5x:=(Below.grown (Below.refl _ _) hgrow5x zD (fun g e=>(BI (HQ.out) g e).1));clear hown5x hgrow5x hat5x))
    have hbe:Below w.heap.size w w5x:=HB.out.trans ((hbw3.mono hz).trans hbg5x);go_roundw
    case rel=>exact ⟨k+1,J++FX,zD,zV,HO5x.out,hid (by rw[HST.out,hJ.out]),hal,ZI,⟨_,_,ZB⟩,hbe⟩
    case measure=>(simp[intOf];try omega)
  ·obtain rfl:k=l.length:=by omega
   have e1:decide ((l.length:Int)<(l.length:Int))=false:=Ae zD;have hff:Hid (Fs l=(J,0)):=hid (by unfold Fs;rw[Ai (WX hall.out),hJ.out,DX]);have HV:=hid (Cg rfl hown);clear hown hJ;go_wp2_with fail;go_ret2
   rw[hff.out];exact⟨_,rfl,HV.out,hb⟩
theorem Tx(l:List Msg)(a b:Option Addr)(n c n' c':Nat)(w:World)(hx:Jz.r (·<w.heap.size) w [.slice a n c] l)(hy:Jz.r (·<w.heap.size) w [.slice b n' c'] l):
  Calls Tryz.prog 26 #[.slice a n c,.slice b n' c'] w fun r w'=>r=.returned (.bool true)∧Below w.heap.size w w':=by
 obtain⟨rfl,hm,_,_⟩:=AT hx;obtain⟨rfl,hm',_,_⟩:=AT hy;have HX:=hid hx;have HY:=hid hy;clear hx hy;have e1:((l.length:Int) !=(l.length:Int))=false:=zN;go_enter Tryz.func26,Tryz.ntmps26;go_wp2_with fail;go_loopw [5] (fun i wr=>∃k:Nat,k≤l.length∧i=.int .i64 k∧Below w.heap.size w wr) (fun i _=>l.length-(intOf i).toNat)
 case atStart=>exact ⟨0,Am _,rfl,Below.refl _ _⟩
 case round=>
  obtain⟨k,hk,rfl,hb⟩:=hrel;by_cases hlt:k<l.length
  ·obtain⟨b0,o0,hA,hbb,a1,c1,a2,c2,a3,c3,a4,c4,⟨u0,u1,u2,u3,u4,u5,u6,u7,u8,u9,u10,u11,u12,u13⟩,xl⟩:=N9 (lift HX.out hb) hlt
   obtain⟨b1,o1,hA',hbb',g1,d1,g2,d2,g3,d3,g4,d4,⟨v0,v1,v2,v3,v4,v5,v6,v7,v8,v9,v10,v11,v12,v13⟩,yl⟩:=N9 (lift HY.out hb) hlt;subst hA hA';have X0:=fun s:AX wr=>s.cell u0;have X1:=fun s:AX wr=>s.cell u1;have X2:=fun s:AX wr=>s.cell u2;have X3:=fun s:AX wr=>s.cell u3;have X4:=fun s:AX wr=>s.cell u4;have X5:=fun s:AX wr=>s.cell u5;have X6:=fun s:AX wr=>s.cell u6;have X7:=fun s:AX wr=>s.cell u7;have X8:=fun s:AX wr=>s.cell u8;have X9:=fun s:AX wr=>s.cell u9;have X10:=fun s:AX wr=>s.cell u10;have X11:=fun s:AX wr=>s.cell u11;have X12:=fun s:AX wr=>s.cell u12;have X13:=fun s:AX wr=>s.cell u13;have Y0:=fun s:AX wr=>s.cell v0;have Y1:=fun s:AX wr=>s.cell v1;have Y2:=fun s:AX wr=>s.cell v2;have Y3:=fun s:AX wr=>s.cell v3;have Y4:=fun s:AX wr=>s.cell v4;have Y5:=fun s:AX wr=>s.cell v5;have Y6:=fun s:AX wr=>s.cell v6;have Y7:=fun s:AX wr=>s.cell v7;have Y8:=fun s:AX wr=>s.cell v8;have Y9:=fun s:AX wr=>s.cell v9;have Y10:=fun s:AX wr=>s.cell v10;have Y11:=fun s:AX wr=>s.cell v11;have Y12:=fun s:AX wr=>s.cell v12;have Y13:=fun s:AX wr=>s.cell v13;have hO:=fun s:AX wr=>Yj l[k] s.at_ a1 a2 a3 a4 g1 g2 g3 g4 c1 c2 c3 c4 d1 d2 d3 d4 (A9.lift xl s.below) (A9.lift yl s.below);clear u0 u1 u2 u3 u4 u5 u6 u7 u8 u9 u10 u11 u12 u13 v0 v1 v2 v3 v4 v5 v6 v7 v8 v9 v10 v11 v12 v13 xl yl;have i0:(0:Int)≤(k:Int):=zD;have i1:(k:Int)<(l.length:Int):=zD;generalize l[k]=x at*;have HO:=hid hO;clear hO;go_wp2_with fail;refine AR zI zI ?_;repeat (go_big_quiet_step (((go_at_call 60;exact BZ (HO.out _)))))
   refine Bm ?_;rintro W5 ⟨⟨W5',hb5⟩,rfl⟩;go_wp2_with fail;go_roundw
   case rel=>exact ⟨k+1,zD,zV,Af hb5 hb⟩
   case measure=>(simp[intOf];try omega)
  ·obtain rfl:k=l.length:=by omega
   have e2:decide ((l.length:Int)<(l.length:Int))=false:=Ae zD;go_wp2_with fail;go_ret;exact⟨rfl,hb⟩
theorem Ww{m:Int}(hk:((⟨0,0,0⟩:Rs).frame B m).1.k=0):4≤((⟨0,0,0⟩:Rs).frame B m).1.p:=by
 unfold Rs.frame at hk ⊢;dsimp only at hk ⊢;have hf:∀s:Rs,(s.take B 4).1.k=0→(s.take B 4).1.p=s.p+4:=fun s h=>by
  unfold Rs.take Rs.skip at h ⊢;by_cases h0:s.k=0
  ·rw[Ai h0,Ak zO] at h ⊢
   by_cases h1:(B.length:Int)-s.p<4
   ·rw[Ai h1] at h
    exact absurd h (show ¬(1:Int)=0 by decide)
   ·rw[Ak h1]
    rfl
  ·rw[Ak h0] at h
   exact absurd h h0
 split at hk
 ·rename_i hc
  rw[Ai hc];have:=hf _ hk;omega
 ·exact absurd hk (Rs.BE zD)
theorem LN(h:DJ m=true):(CA m).length≤2097152:=by
 have h1:=IV h;have h2:m.data.length≤1048576:=(N8 (by simp only[DJ,Aq] at h;exact h.1)).2;rw[EX,D8] at h1;omega
theorem KI(P:List UInt8):5≤(Bf P).length:=by
 have:=(AZ P.length).2;rw[EX,D8];omega
theorem YB(hN:M8 m)(hr:DJ m=true)(hs:inU m.seq):CC (Bf (CA m)++rest)=(m,true,(Bf (CA m)).length,0,0):=by
 have hd:m.data.length≤1048576:=(N8 (by simp only[DJ,Aq] at hr;exact hr.1)).2;unfold CC;rw[Wu (blk:=fun P=>Db P) (LN hr)];have h:=XW hN hr hs hd;rw[h];rfl
theorem S0{l:List Msg}:5*l.length≤(B9 l).length:=by
 induction l with
 | nil=>simp [B9]
 | cons m l ih=>
  have h5:=KI (CA m);have e:B9 (m::l)=Bf (CA m)++B9 l:=by simp[B9]
  rw[e,Ag,AO];omega
theorem AaK:(Tryz.prog.info? 45).map (fun i=>(i.zero,i.size,i.bytes))=some (some (.agg #[.int .i64 0,.int .u64 0,.int .u64 0,.int .u64 0,.int .i64 0,.int .i64 0,.slice none 0 0,.slice none 0 0,.slice none 0 0,.int .u64 0,.int .u64 0,.int .u64 0,.int .u64 0,.slice none 0 0]),14,176):=zI
theorem Yl(h:A9 S w m a1 c1 a2 c2 a3 c3 a4 c4):QF.r S w (Ep m a1 c1 a2 c2 a3 c3 a4 c4) m:=
 ⟨[_],_,rfl,⟨rfl,JL h.kind⟩,[_],_,rfl,⟨rfl,Fj h.epoch⟩,[_],_,rfl,⟨rfl,Fj h.seq⟩,[_],_,rfl,⟨rfl,Fj h.pos⟩,[_],_,rfl,⟨rfl,JL h.count⟩,[_],_,rfl,⟨rfl,JL h.state⟩,[_],_,rfl,h.streams,[_],_,rfl,h.links,[_],_,rfl,h.data,[_,_,_],_,rfl,
  ⟨[_],_,rfl,⟨rfl,Fj h.sealE⟩,[_],_,rfl,⟨rfl,Fj h.sealN⟩,rfl,Fj h.sealT⟩,[_],_,rfl,⟨rfl,Fj h.projE⟩,h.stripes⟩
theorem Yk{m:Msg}{a1:Option Addr}{c1:Nat}{a2:Option Addr}{c2:Nat}{a3:Option Addr}{c3:Nat}{a4:Option Addr}{c4:Nat}:∀u∈Ep m a1 c1 a2 c2 a3 c3 a4 c4,u.oneCell'=true:=by
 intro u hu;simp[Ep] at hu;rcases hu with rfl | rfl | rfl | rfl | rfl | rfl | rfl | rfl | rfl | rfl | rfl | rfl | rfl | rfl<;>rfl
theorem RP(w:World)(a:Option Addr)(c:Nat)(B:List UInt8)(hl:Ah.r (·<w.heap.size) w [.slice a B.length c] B)(s:Rs)(hs:s.ok B.length)(hB:B.length≤1000000000000)(n:Nat)(hn:n≤8):
  Calls Tryz.prog 97 #[CV a B.length c s,.int .i64 (n:Int)] w fun r w'=>r=.returned (.tuple #[CV a B.length c (s.take B n).1,.int .u64 ((EF (s.take B n).2:Nat):Int)])∧Below w.heap.size w w':=by
 have HT:=hid (fun (W:World) (hW:Below w.heap.size w W)=>NV W a c B (lift hl hW) s hs (n:Int) zD hB);have hlen:(s.take B n).2.length≤n:=by
  unfold Rs.take;split
  ·simp;omega
  ·simp
 generalize s.take B (n:Int)=T at*;obtain⟨s1,L⟩:=T;dsimp only at*;have n0:(0:Int)≤(n:Int):=zD;have n8:(n:Int)≤8:=zD;clear hl hs;unfold CV at*;go_enter Tryz.func97,Tryz.ntmps97;go_wp2_with fail;refine (HT.out _ zA).mono ?_;rintro r w1 ⟨v,rfl,hr,hb⟩;obtain⟨a1,c1,hv1,hr2,_⟩:=AN hr;simp only[As,AM] at hv1;subst hv1;have E2:Blk (w1.alloc (.cells #[.slice a B.length c,.int .i64 (s1.p:Int),.int .i64 s1.k,.int .i64 s1.f] 91)) w1.heap.size 91 #[.slice a B.length c,.int .i64 (s1.p:Int),.int .i64 s1.k,.int .i64 s1.f]:=zC;have hb2:Below w1.heap.size w1 (w1.alloc (.cells #[.slice a B.length c,.int .i64 (s1.p:Int),.int .i64 s1.k,.int .i64 s1.f] 91)):=zA;have B1:Blk w1 (w.heap.size+1) 91 #[.slice none 0 0,.int .i64 0,.int .i64 0,.int .i64 0]:=Blk.later zC hb;have HZ:=hid (B1.later hb2);have HV:=hid (lift (Ah.mono hr2 (S':=(·<w1.heap.size)) fun q hq=>hq.2) hb2);have hbw:Below w.heap.size w (w1.alloc (.cells #[.slice a B.length c,.int .i64 (s1.p:Int),.int .i64 s1.k,.int .i64 s1.f] 91)):=zA;have HE:=hid E2;clear hr hr2 hb hb2 B1 E2;go_wp2_with fail;generalize w1.alloc (.cells #[.slice a B.length c,.int .i64 (s1.p:Int),.int .i64 s1.k,.int .i64 s1.f] 91)=w2 at*;go_loopw [8,9] (fun x i wr=>∃j:Nat,j≤L.length∧i=.int .i64 ((j:Int)-1)∧x=.int .u64 ((EF (L.drop j):Nat):Int)∧w2=wr) (fun _ i _=>(intOf i+1).toNat)
 case atStart=>exact ⟨L.length,An _,rfl,by rw[GM];rfl,rfl⟩
 case round=>
  obtain⟨j,hj,rfl,rfl,rfl⟩:=hrel;by_cases h0:1≤j
  ·obtain⟨m,rfl⟩:∃m,j=m+1:=⟨j-1,zD⟩
   have hm1:((m+1:Nat):Int)-1=(m:Int):=zD;rw[hm1];clear hm1 h0;have d1:decide ((0:Int)≤(m:Int))=true:=Ad zD;have i1:(m:Int)<(L.length:Int):=zD;obtain⟨b,o,rfl,_,hc⟩:=Cs HV.out (i:=m) zD;have hy:=L[m].toNat_lt;have hff:((EF (L.drop m):Nat):Int)=256*((EF (L.drop (m+1)):Nat):Int)+(L[m].toNat:Int):=by
    rw[AS (by omega:m<L.length)];simp only[EF];omega
   have hX:EF (L.drop (m+1))<72057594037927936:=by
    refine Aj (QT _) (A4 (F6 zO (show _≤7 by simp;omega)) zO)
   have HFF:=hid hff;clear hff;generalize L[m].toNat=y at*;generalize EF (L.drop (m+1))=X at*;go_wp2_with fail;go_roundw
   case rel=>exact ⟨m,zD,zV,by rw[HFF.out],zCd⟩
   case measure=>(simp[intOf];try omega)
  ·obtain rfl:j=0:=by omega
   have hm1:((0:Nat):Int)-1=(-1:Int):=rfl;rw[hm1,CO];clear hm1 h0;have d1:decide ((0:Int)≤-1)=false:=rfl;obtain⟨x0,x1,x2,x3,e0,e1,e2,e3,l0⟩:=DI HE.out;obtain⟨y0,y1,y2,y3,g0,g1,g2,g3,l1⟩:=DI HZ.out;go_wp2_with fail;refine Al (v:=.tuple #[.agg #[.slice a B.length c,.int .i64 (s1.p:Int),.int .i64 s1.k,.int .i64 s1.f],.int .u64 ((EF L:Nat):Int)]) (by simp[results,Tryz.results97,go_sem,y0,y1,y2,y3,l1]) rfl ⟨rfl,zA⟩
theorem TF(w:World)(a:Option Addr)(c:Nat)(B:List UInt8)(hl:Ah.r (·<w.heap.size) w [.slice a B.length c] B)(s:Rs)(hs:s.ok B.length)(hB:B.length≤1000000000000)(m:Int)(hm: -9223372036854775808≤m∧m≤2097152):
  Calls Tryz.prog 54 #[CV a B.length c s,.int .i64 m] w fun r w'=>∃v,r=.returned (.tuple #[CV a B.length c (s.frame B m).1,v])∧Ah.r (fun q=>w.heap.size≤q∧q<w'.heap.size) w' [v] (s.frame B m).2∧Below w.heap.size w w':=by
 have d0:decide ((2097152:Int)<m)=false:=Ae zD;have hmin:min m 2097152=m:=zD;unfold Rs.frame;rw[hmin];have HB:=hid (fun (W:World) (hW:Below w.heap.size w W)=>TH W a c B (lift hl hW) s hs hB m zD);have hok:=Rs.Ir hs m;dsimp only;generalize s.D5 B m=T at*;obtain⟨s1,D⟩:=T;dsimp only at*;have HX:=hid (fun (W:World) (hW:Below w.heap.size w W)=>(by have:=RP W a c B (lift hl hW) s1 hok hB 4 zD;exact this:Calls Tryz.prog 97 #[CV a B.length c s1,.int .i64 4] W fun r w'=>r=.returned (.tuple #[CV a B.length c (s1.take B 4).1,.int .u64 ((EF (s1.take B 4).2:Nat):Int)])∧Below W.heap.size W w'));have HFL:=hid (fun (W:World) (t:Rs)=>IX W a B.length c t 6 s1.p zD);have hq:=IH D;generalize s1.take B 4=U at*;obtain⟨s2,F⟩:=U;dsimp only at*;generalize EF F=x at*;generalize hS3:(if CQ D=x then s2 else s2.fail 6 (s1.p:Int))=s3 at*;generalize hRES:(if s3.k=0 then D else [])=RES at*;have HS3:=hid hS3;have HRES:=hid hRES;clear hl hs hok hmin hS3 hRES;unfold CV at*;go_enter Tryz.func54,Tryz.ntmps54;go_wp2_with fail;refine (HB.out _ zA).mono ?_;rintro r w1 ⟨v,rfl,hr,hb⟩;obtain⟨a1,c1,hv1,hr2,_⟩:=AN hr;simp only[As,AM] at hv1;subst hv1;have hz1:=hb.size;simp at hz1;have E2:Blk (w1.alloc (.cells #[.slice a B.length c,.int .i64 (s1.p:Int),.int .i64 s1.k,.int .i64 s1.f] 91)) w1.heap.size 91 #[.slice a B.length c,.int .i64 (s1.p:Int),.int .i64 s1.k,.int .i64 s1.f]:=zC;have hb2:Below w1.heap.size w1 (w1.alloc (.cells #[.slice a B.length c,.int .i64 (s1.p:Int),.int .i64 s1.k,.int .i64 s1.f] 91)):=zA;have B1:Blk w1 (w.heap.size+1) 91 #[.slice none 0 0,.int .i64 0,.int .i64 0,.int .i64 0]:=Blk.later zC hb;have HZ2:=hid (B1.later hb2);have HV2:=hid (Ah.mono (Ah.keep hr2 fun q hq=>hb2.block q hq.2) (S':=fun q=>w.heap.size+1<q∧q<w1.heap.size) fun q hq=>⟨by have:=hq.1;simp at this;omega,hq.2⟩);have hbw2:Below w.heap.size w (w1.alloc (.cells #[.slice a B.length c,.int .i64 (s1.p:Int),.int .i64 s1.k,.int .i64 s1.f] 91)):=zA;have hz2:w1.heap.size<(w1.alloc (.cells #[.slice a B.length c,.int .i64 (s1.p:Int),.int .i64 s1.k,.int .i64 s1.f] 91)).heap.size:=zN;have HE2:=hid E2;obtain⟨x0,x1,x2,x3,e0,e1,e2,e3,l0⟩:=DI E2;clear hr hr2 hb hb2 B1 E2;go_wp2_with fail;generalize w1.alloc (.cells #[.slice a B.length c,.int .i64 (s1.p:Int),.int .i64 s1.k,.int .i64 s1.f] 91)=w2 at*;refine (HX.out _ hbw2).mono ?_;rintro r w3 ⟨rfl,hb3⟩;have HZ3:=hid (HZ2.out.later hb3);have HE3:=hid (HE2.out.later hb3);have HV3:=hid (Ah.keep HV2.out fun q hq=>hb3.block q zD);have hbw3:=Af hb3 hbw2;have hz3:=Aj hz2 hb3.size;have E4:Blk (w3.alloc (.cells #[.slice a B.length c,.int .i64 (s2.p:Int),.int .i64 s2.k,.int .i64 s2.f] 91)) w3.heap.size 91 #[.slice a B.length c,.int .i64 (s2.p:Int),.int .i64 s2.k,.int .i64 s2.f]:=zC;have hb4:Below w3.heap.size w3 (w3.alloc (.cells #[.slice a B.length c,.int .i64 (s2.p:Int),.int .i64 s2.k,.int .i64 s2.f] 91)):=zA;have HZ4:=hid (HZ3.out.later hb4);have HE4:=hid (HE3.out.later hb4);have HV4:=hid (Ah.mono (Ah.keep HV3.out fun q hq=>hb4.block q zD) (S':=fun q=>w.heap.size+1<q∧q<w3.heap.size) fun q hq=>⟨hq.1,zD⟩);have hbw4:=Af hb4 hbw3;have hz4:w3.heap.size<(w3.alloc (.cells #[.slice a B.length c,.int .i64 (s2.p:Int),.int .i64 s2.k,.int .i64 s2.f] 91)).heap.size:=zN;clear HZ2 HE2 HV2 hbw2 hb3 HZ3 HE3 HV3 hbw3 hb4 x0 x1 x2 x3 e0 e1 e2 e3 l0;have HE5:=hid E4;obtain⟨x0,x1,x2,x3,e0,e1,e2,e3,l0⟩:=DI E4;clear E4;go_upto_region 5 with (fail);generalize w3.alloc (.cells #[.slice a B.length c,.int .i64 (s2.p:Int),.int .i64 s2.k,.int .i64 s2.f] 91)=w4 at*;by_cases hk:s2.k=0
 ·have dk1:(s2.k==(0:Int))=true:=by simp[hk]
  have dk2:(s2.k !=(0:Int))=false:=zBs;have HS:=hid (Pq D a1 _ c1 w4 (Ah.mono HV4.out fun q hq=>zD));by_cases hx:CQ D=x
  ·have e3:s3=s2:=by rw[←HS3.out,Ai hx]
   have HE3:=hid e3;have HRR:Hid (RES=D):=hid (by rw[←HRES.out,e3,Ai hk]);have dx:((x:Int) !=(CQ D:Int))=false:=by rw[hx];simp
   obtain⟨y0,y1,y2,y3,g0,g1,g2,g3,l1⟩:=DI HZ4.out;clear e3 HS3 HRES;generalize CQ D=q at*;clear hk hx;go_wp2_with fail;refine HS.out.mono ?_;rintro r w5 ⟨rfl,rfl⟩;go_wp2_with fail;refine Al (v:=.tuple #[.agg #[.slice a B.length c,.int .i64 (s2.p:Int),.int .i64 s2.k,.int .i64 s2.f],.slice a1 D.length c1]) zAn rfl ⟨_,by rw[HE3.out],?_,zA⟩;rw[HRR.out];refine Ah.mono (Ah.keep HV4.out fun q hq=> ?_) fun q hq=>⟨zD,by simp[World.setCell];omega⟩;repeat (rw[AB _ _ _ _ zJ])
  ·have hf3:s2.fail 6 (s1.p:Int)=⟨s2.p,6,s1.p⟩:=by unfold Rs.fail;rw[Ai hk]
   have e3:s3=⟨s2.p,6,s1.p⟩:=by rw[←HS3.out,Ak hx,hf3]
   have HE3:=hid e3;have HRR:Hid (RES=[]):=hid (by rw[←HRES.out,e3,Ak (by dsimp only;decide)]);have HFF:=hid (fun (W:World)=>HFL.out W s2);rw[hf3] at HFF;have dx:((x:Int) !=(CQ D:Int))=true:=zH;obtain⟨y0,y1,y2,y3,g0,g1,g2,g3,l1⟩:=DI HZ4.out;obtain⟨z0,z1,z2,z3,h0,h1,h2,h3,lz⟩:=DI HE4.out;clear e3 HS3 HRES;generalize CQ D=q at*;clear hk hx hf3 HFL;go_wp2_with fail;refine HS.out.mono ?_;rintro r w5 ⟨rfl,rfl⟩;go_wp2_with fail;refine (HFF.out _).mono ?_;rintro r w6 ⟨rfl,hb6⟩;have Z6:=HZ4.out.later hb6;have E6:=HE5.out.later hb6;have hbw6:=Af hb6 hbw4;have hz6:=hb6.size;clear x0 x1 x2 x3 e0 e1 e2 e3 l0 y0 y1 y2 y3 g0 g1 g2 g3 l1 z0 z1 z2 z3 h0 h1 h2 h3 lz hb6;obtain⟨x0,x1,x2,x3,e0,e1,e2,e3,l0⟩:=DI E6;obtain⟨y0,y1,y2,y3,g0,g1,g2,g3,l1⟩:=DI Z6;go_wp2_with fail;refine Al (v:=.tuple #[.agg #[.slice a B.length c,.int .i64 (s2.p:Int),.int .i64 6,.int .i64 (s1.p:Int)],.slice none 0 0]) zAn rfl ⟨_,by rw[HE3.out],zBd,zA⟩
 ·have hf3:(if CQ D=x then s2 else s2.fail 6 (s1.p:Int))=s2:=by
   split
   ·rfl
   ·exact Rs.Cb hk
  have e3:s3=s2:=by rw[←HS3.out,hf3]
  have HE3:=hid e3;have HRR:Hid (RES=[]):=hid (by rw[←HRES.out,e3,Ak hk]);have dk1:(s2.k==(0:Int))=false:=zBs;have dk2:(s2.k !=(0:Int))=true:=zBs;obtain⟨y0,y1,y2,y3,g0,g1,g2,g3,l1⟩:=DI HZ4.out;clear hk hf3 HFL e3 HS3 HRES;go_wp2_with fail;refine Al (v:=.tuple #[.agg #[.slice a B.length c,.int .i64 (s2.p:Int),.int .i64 s2.k,.int .i64 s2.f],.slice none 0 0]) zAn rfl ⟨_,by rw[HE3.out],zBd,zA⟩
structure W9(w:World)(B:List UInt8)(a:Option Addr)(c g:Nat)(s:Rs)(W:World):Prop where
 cb:Blk W g 91 #[.slice a B.length c,.int .i64 (s.p:Int),.int .i64 s.k,.int .i64 s.f]
 mb:Blk W w.heap.size 45 zeroCells
 fb:Blk W (w.heap.size+1) 65 #[.int .i64 0,.int .i64 0]
 bl:Below w.heap.size w W
 ok:s.ok B.length
 lg:w.heap.size+1<g
section
variable {w W W':World} {B:List UInt8} {a:Option Addr} {c g:Nat} {s s':Rs}
theorem NL:Tch (·=g) W ((((W.setCell ⟨g,0,none⟩ (.slice a B.length c)).setCell ⟨g,1,none⟩ (.int .i64 (s'.p:Int))).setCell ⟨g,2,none⟩ (.int .i64 s'.k)).setCell ⟨g,3,none⟩ (.int .i64 s'.f)):=
 Tch.setCell (F:=(·=g)) (p:=⟨g,3,none⟩) (Tch.setCell (F:=(·=g)) (p:=⟨g,2,none⟩) (Tch.setCell (F:=(·=g)) (p:=⟨g,1,none⟩) (Tch.setCell (F:=(·=g)) (p:=⟨g,0,none⟩) (Tch.refl _ _) (fun _=>rfl) _) (fun _=>rfl) _) (fun _=>rfl) _) (fun _=>rfl) _
theorem W9.row(h:W9 w B a c g s W)(hb:Below W.heap.size W W'):W9 w B a c g s W':=
 ⟨h.cb.later hb,h.mb.later hb,h.fb.later hb,Af hb h.bl,h.ok,h.lg⟩
theorem W9.set(h:W9 w B a c g s W)(ok:s'.ok B.length):W9 w B a c g s' ((((W.setCell ⟨g,0,none⟩ (.slice a B.length c)).setCell ⟨g,1,none⟩ (.int .i64 (s'.p:Int))).setCell ⟨g,2,none⟩ (.int .i64 s'.k)).setCell ⟨g,3,none⟩ (.int .i64 s'.f)):=by
 have hl:=h.lg;exact⟨(((h.cb.set 0 _).set 1 _).set 2 _).set 3 _,h.mb.tch NL zD,h.fb.tch NL zD,h.bl.trans (NL.Cw h.bl.size fun b hb e=>zD),ok,h.lg⟩
end
theorem YC{m:Int}:((⟨0,0,0⟩:Rs).frame B m).1.p≤B.length:=by
 have h0:(⟨0,0,0⟩:Rs).ok B.length:=⟨Am _,fun _=>rfl⟩;have h2:=Rs.IS (Rs.Ir h0 (min m 2097152)) 4;unfold Rs.frame;dsimp only;split
 ·exact h2.le
 ·exact (Rs.Co h2 zD).le
theorem Wx{m:Int}:((⟨0,0,0⟩:Rs).frame B m).2.length≤2097152:=by
 have h:=(On (B:=B) (m:=m)).2;unfold Lm at h;by_cases hk:((⟨0,0,0⟩:Rs).frame B m).1.k=0
 ·rw[Ai hk] at h
  exact h
 ·unfold Rs.frame at hk ⊢
  dsimp only at hk ⊢;rw[Ak hk];simp
theorem Sh(w:World)(B:List UInt8)(a:Option Addr)(c0 c:Nat)(hl:Ah.r (·<w.heap.size) w [.slice a c0 c] B)(hB:B.length≤1000):
  Calls Tryz.prog 14 #[.slice a c0 c] w fun r w'=>∃q,r=.returned (.bool q)∧Below w.heap.size w w':=by
 obtain⟨rfl,hmx,hcc,hcm⟩:=AT hl;have HL:=hid hl;clear hl;go_enter Tryz.func14,Tryz.ntmps14;go_wp2_with fail;go_loopw [3] (fun i wr=>∃p:Nat,p≤B.length∧i=.int .i64 p∧Below w.heap.size w wr) (fun i _=>B.length-(intOf i).toNat)
 case atStart=>exact ⟨0,Am _,rfl,Below.refl _ _⟩
 case round=>
  obtain⟨p,hp,rfl,hb⟩:=hrel;by_cases hlt:p<B.length
  ·have i1:(p:Int)<(B.length:Int):=by omega
   have d1:decide ((p:Int)<(B.length:Int))=true:=Ad i1;obtain⟨A',c',hcut,hrd⟩:=YM (lift HL.out hb) (lo:=p) hp;have hrd2:Ah.r (·<wr.heap.size) wr [.slice A' (B.drop p).length c'] (B.drop p):=by rw[Jm];exact hrd
   have hdl:(B.drop p).length≤1000:=zH;have HF:=hid (TF wr A' c' (B.drop p) hrd2 ⟨0,0,0⟩ ⟨Am _,fun _=>rfl⟩ zD 400 zO);have hpos:=Ww (B:=B.drop p) (m:=400);have hle:=YC (B:=B.drop p) (m:=400);have hlen:=Wx (B:=B.drop p) (m:=400);have hdr:(B.drop p).length=B.length-p:=Jm ..;rw[hdr] at HF hle;generalize (⟨0,0,0⟩:Rs).frame (B.drop p) 400=T at*;obtain⟨s,D⟩:=T;dsimp only at HF hpos hle hlen;unfold CV at HF;have HB:=hid hb;have HDR:=hid hdr;clear hrd hrd2 hb hdl hdr;go_wp2_with fail;refine HF.out.mono ?_;rintro r w1 ⟨v,rfl,hr,hb1⟩;obtain⟨aD,cD,hfv,hr2,_⟩:=AN hr;simp only[As,AM] at hfv;subst hfv;have hb2:Below w1.heap.size w1 (w1.alloc (.cells #[.slice A' (B.length-p) c',.int .i64 (s.p:Int),.int .i64 s.k,.int .i64 s.f] 91)):=zA;have HC2:Hid (Blk (w1.alloc (.cells #[.slice A' (B.length-p) c',.int .i64 (s.p:Int),.int .i64 s.k,.int .i64 s.f] 91)) w1.heap.size 91 #[.slice A' (B.length-p) c',.int .i64 (s.p:Int),.int .i64 s.k,.int .i64 s.f]):=hid (Blk.newAt _ _ _ rfl);have HD2:=hid (lift (Ah.mono hr2 (S':=(·<w1.heap.size)) fun q hq=>hq.2) hb2);have hbw2:=Af hb2 (Af hb1 HB.out);clear hr hr2 hb1 hb2 HF;obtain⟨x0,x1,x2,x3,e0,e1,e2,e3,l0⟩:=DI HC2.out;go_upto_region 4 with (fail);generalize (w1.alloc (.cells #[.slice A' (B.length-p) c',.int .i64 (s.p:Int),.int .i64 s.k,.int .i64 s.f] 91))=w2 at*;by_cases hk:s.k=0
   ·have dk:(s.k !=(0:Int))=false:=by simp[hk]
    have hp4:=hpos hk;have HG:=hid (Si w2 D aD _ cD HD2.out zD);clear hk hpos;go_wp2_with fail;refine HG.out.mono ?_;rintro r w3 ⟨q0,rfl,rfl⟩;cases q0
    ·go_wp2_with fail
     go_roundw
     case rel=>exact ⟨p+s.p,zD,zV,hbw2⟩
     case measure=>(simp[intOf];try omega)
    ·go_wp2_with fail
     go_ret;exact⟨_,rfl,hbw2⟩
   ·have dk:(s.k !=(0:Int))=true:=by simp[hk]
    clear hk hpos;go_wp2_with fail;go_ret;exact⟨_,rfl,hbw2⟩
  ·obtain rfl:p=B.length:=by omega
   have d1:decide ((B.length:Int)<(B.length:Int))=false:=Ae zD;go_wp2_with fail;go_ret;exact⟨_,rfl,hb⟩
theorem Rk:∀(l r:List UInt8) (i x:Nat),(Cp i x l).2.2≠1→Cp i x (l++r)=Cp i x l
 | [],r,i,x,h=>absurd rfl h
 | c::l,r,i,x,h=>by
  rw[DY];unfold Cp at h ⊢;split at h
  ·rename_i h1
   rw[Ai h1,Ai h1]
  ·rename_i h1
   rw[Ak h1,Ak h1];split at h
   ·rename_i h2
    rw[Ai h2,Ai h2]
   ·rename_i h2
    rw[Ak h2,Ak h2];split at h
    ·rename_i h3
     rw[Ai h3,Ai h3]
    ·rename_i h3
     rw[Ak h3,Ak h3];exact Rk l r _ _ h
def Ca(D:List UInt8):Rs × Nat:=(⟨0,0,0⟩:Rs).int D 2097152
theorem Nh(D:List UInt8):Ca D=(if 2097152<(Cp 0 0 D).1 then ((⟨(Cp 0 0 D).2.1,(Cp 0 0 D).2.2,if (Cp 0 0 D).2.2=0 then 0 else if (Cp 0 0 D).2.2=1 then D.length else ((Cp 0 0 D).2.1:Int)-1⟩:Rs).fail 2 0,0) else (⟨(Cp 0 0 D).2.1,(Cp 0 0 D).2.2,if (Cp 0 0 D).2.2=0 then 0 else if (Cp 0 0 D).2.2=1 then D.length else ((Cp 0 0 D).2.1:Int)-1⟩,(Cp 0 0 D).1)):=by
 unfold Ca Rs.int Rs.most;rw[Ai zO];have e:(⟨0,0,0⟩:Rs).num D=(⟨(Cp 0 0 D).2.1,(Cp 0 0 D).2.2,if (Cp 0 0 D).2.2=0 then 0 else if (Cp 0 0 D).2.2=1 then D.length else ((Cp 0 0 D).2.1:Int)-1⟩,(Cp 0 0 D).1):=by
  unfold Rs.num;rw[Ai rfl];dsimp only;rw[CO,A1];simp only[Int.natCast_zero,Int.zero_add]
 rw[e];rfl
theorem O8:∀(l:List UInt8) (i x:Nat),(Cp i x l).2.2≠0→(Cp i x l).1=0
 | [],i,x,h=>rfl
 | c::l,i,x,h=>by
  unfold Cp at h ⊢;split
  ·rfl
  ·rename_i h1
   rw[Ak h1] at h;split
   ·rfl
   ·rename_i h2
    rw[Ak h2] at h;split
    ·rename_i h3
     rw[Ai h3] at h;exact absurd rfl h
    ·rename_i h3
     rw[Ak h3] at h;exact O8 l _ _ h
theorem Oj(D:List UInt8):(Ca D).1.k=1↔(Cp 0 0 D).2.2=1:=by
 rw[Nh];have h0:=O8 D 0 0;split
 ·rename_i h
  constructor
  ·intro e
   exfalso;by_cases hk:(Cp 0 0 D).2.2=0
   ·unfold Rs.fail at e
    rw[Ai hk] at e;have e2:(2:Int)=1:=e;omega
   ·rw[h0 hk] at h
    omega
  ·intro e
   have:=h0 (by rw[e];decide);omega
 ·exact Iff.rfl
theorem So(h:(Ca D).1.k≠1)(E:List UInt8):Ca (D++E)=Ca D:=by
 have hv:(Cp 0 0 D).2.2≠1:=fun e=>h ((Oj D).2 e);rw[Nh,Nh,Rk D E 0 0 hv];simp only[Ak hv]
theorem Sn:(Ca []).1.k=1:=by
 rw[Oj];rfl
def AP(D:List UInt8):Nat:=if (Ca D).1.k=0 then (Az (Ca D).2).length+(Ca D).2+4 else 0
theorem IN:0<AP D↔(Ca D).1.k=0:=by
 unfold AP;split
 ·rename_i h
  exact⟨fun _=>h,fun _=>zD⟩
 ·rename_i h
  exact⟨fun h2=>absurd h2 zD,fun h2=>absurd h2 h⟩
theorem S9(h:(Ca D).1.k≠1)(E:List UInt8):AP (D++E)=AP D:=by
 unfold AP;rw[So h]
theorem Wq(h:(Ca D).1.k=0):D=Az (Ca D).2++D.drop (Az (Ca D).2).length∧(Az (Ca D).2).length≤D.length∧(Ca D).2≤2097152:=by
 obtain⟨h1,h2,_⟩:=Rs.Hf (B:=D) (s:=⟨0,0,0⟩) (m:=2097152) ⟨Am _,fun _=>rfl⟩ h;have h1':D=Az (Ca D).2++D.drop (Ca D).1.p:=h1;have h2':((Ca D).2:Int)≤2097152:=h2;generalize Ca D=I at h1' h2' ⊢;have h3:D.drop (Az I.2).length=D.drop I.1.p:=by
  have:=GL (List.drop (Az I.2).length) h1';rw[List.drop_left] at this;exact this
 rw[h3];refine⟨h1',?_,zD⟩;have:=GL List.length h1';rw[Ag] at this;omega
theorem LY(h:(Ca (D.take j)).1.k≠1):Ca (D.take j)=Ca D:=by
 have:=So h (D.drop j);rw[Ce] at this;exact this.symm
theorem FF(h:(Ca (D.take j)).1.k≠1):AP (D.take j)=AP D:=by
 unfold AP;rw[LY h]
theorem JI(h0:(Ca D).1.k=0)(hj:(Az (Ca D).2).length≤j):(Ca (D.take j)).1.k=0:=by
 obtain⟨h1,h2,h3⟩:=Wq h0;have e:(Ca (D.take j))=(⟨0+(Az (Ca D).2).length,0,0⟩,(Ca D).2):=by
  refine Rs.FT zD (rest:=(D.drop (Az (Ca D).2).length).take (j-(Az (Ca D).2).length)) ?_ zD;rw[CO];conv=>lhs;rw[h1]
  rw[List.take_append,CF hj]
 rw[e]
structure Ev where
 kind:Int
 at_:Int
 code:Int
 msg:Msg
 deriving DecidableEq
structure PSt where
 buf:List UInt8
 first:Nat
 fed:Nat
 need:Nat
 ended:Int
def DV(p:Nat)(m:Msg):Ev:=⟨1,p,0,m⟩
def FK(at_ code:Int):Ev:=⟨4,at_,code,El⟩
def Ea(s:PSt)(b:UInt8):PSt × List Ev:=
 let D:=s.buf++[b]
 let n:=if 0<s.need then s.need else AP D
 if 0<n then
  if D.length<n then (⟨D,s.first,s.fed+1,n,0⟩,[])
  else
   let g:=CC D
   if g.2.2.2.1=0 then (⟨[],s.fed+1,s.fed+1,0,0⟩,[DV s.first g.1])
   else (⟨[],s.first,s.fed+1,n,4⟩,[FK (wrap64 (g.2.2.2.2+(s.first:Int))) g.2.2.2.1])
 else if (Ca D).1.k=1 then (⟨D,s.first,s.fed+1,0,0⟩,[])
 else (⟨[],s.first,s.fed+1,0,4⟩,[FK (wrap64 ((Ca D).1.f+(s.first:Int))) (Ca D).1.k])
def CL(s:PSt):List UInt8→PSt × List Ev
 | []=>(s,[])
 | b::l=>if (Ea s b).1.ended=0 then ((CL (Ea s b).1 l).1,(Ea s b).2++(CL (Ea s b).1 l).2) else Ea s b
theorem Gn(s:PSt)(b:UInt8)(l:List UInt8):CL s (b::l)=(if (Ea s b).1.ended=0 then ((CL (Ea s b).1 l).1,(Ea s b).2++(CL (Ea s b).1 l).2) else Ea s b):=rfl
theorem JV(s:PSt):CL s []=(s,[]):=rfl
theorem PX:∀(s:PSt) (l r:List UInt8),s.ended=0→CL s (l++r)=(if (CL s l).1.ended=0 then ((CL (CL s l).1 r).1,(CL s l).2++(CL (CL s l).1 r).2) else CL s l)
 | s,[],r,h0=>by
  rw[AV,JV,Ai h0];rfl
 | s,b::l,r,h0=>by
  rw[DY,Gn,Gn];by_cases h:(Ea s b).1.ended=0
  ·have ih:=PX (Ea s b).1 l r h
   rw[Ai h,Ai h,ih];dsimp only;by_cases h2:(CL (Ea s b).1 l).1.ended=0
   ·rw[Ai h2,Ai h2]
    dsimp only;rw[Ao]
   ·rw[Ak h2,Ak h2]
  ·rw[Ak h,Ak h,Ak h]
end Go.Proofs.YtfddhafbhceoaaaGreat
