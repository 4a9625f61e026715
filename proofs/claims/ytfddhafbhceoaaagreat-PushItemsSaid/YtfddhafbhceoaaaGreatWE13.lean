/- Mini: Needed by pushItems_walk, part 13: texts put together by shake.py; no condition. -/
import Derived.Test.YtfddhafbhceoaaaGreatWE3
import Derived.Deep.Cut
import Derived.Deep.CutRange
import Derived.Test.YtfddhafbhceoaaaGreatWE12
import Derived.Test.YtfddhafbhceoaaaGreatWE10
import Derived.Test.YtfddhafbhceoaaaGreatWE8
import Derived.Test.YtfddhafbhceoaaaGreatWE6
import Derived.Test.YtfddhafbhceoaaaGreatWE7
import Derived.Deep.RegionHeld3
import Derived.Test.YtfddhafbhceoaaaGreatWE2
import Derived.Test.YtfddhafbhceoaaaGreatWE4
import Derived.Test.YtfddhafbhceoaaaGreatWE9
import Derived.Lib.SlBytesConst
import Derived.Deep.AppendLies
import Derived.Deep.RegionLaw
import Derived.Test.YtfddhafbhceoaaaGreatWE5
import Derived.Test.YtfddhafbhceoaaaGreatWE11
import Derived.Test.YtfddhafbhceoaaaGreatWE1
set_option linter.unusedVariables false
set_option linter.unusedSimpArgs false
set_option maxRecDepth 100000
set_option maxHeartbeats 6400000
namespace Go.Bs
theorem zB6{p:Prop}(h:p:=by rw [hfull.out]; rfl):p:=h
theorem zAx{p:Prop}(h:p:=by simp [results, Tryz.results248, go_sem, n0, n1, n2, n3, n4, n5, n6, n7, n8, n9, n10, n11, n12, n13]):p:=h
theorem ZQ{p:Prop}(h:p:=by simp [results, Tryz.results177, go_sem, n0, n1, n2, n3, n4, n5, n6, n7, n8, n9, n10, n11, n12, n13, p0, p1]):p:=h
theorem ZP{p:Prop}(h:p:=by have := hq.2; omega):p:=h
theorem zQ{p:Prop}(h:p:=by repeat (first | with_reducible assumption | with_reducible refine Blk.drew ?_ | with_reducible refine Blk.far ?_ (by dsimp only; omega) _)):p:=h
abbrev Acr(h:Array Value:=by exact #[.int .i64 m.kind,.int .u64 m.epoch,.int .u64 m.seq,.int .u64 m.pos,.int .i64 m.count,.int .i64 m.state,.slice a1 m.streams.length a1',.slice a2 m.links.length a2',.slice a3 m.data.length a3',.int .u64 m.sea.epoch,.int .u64 m.sea.node,.int .u64 m.sea.tail,.int .u64 m.proj.epoch,.slice a4 m.proj.stripes.length a4']):=h
abbrev Acs(h:Array Value:=by exact #[.int .i64 0,.int .u64 0,.int .u64 0,.int .u64 0,.int .i64 0,.int .i64 0,.slice none 0 0,.slice none 0 0,.slice none 0 0,.int .u64 0,.int .u64 0,.int .u64 0,.int .u64 0,.slice none 0 0]):=h
abbrev AcB(h:Array Value:=by exact #[.int .i64 kko,.int .u64 epo,.int .u64 sqo,.int .u64 poo,.int .i64 cno,.int .i64 sto,.slice b1 SSo.length d1,.slice b2 LSo.length d2,.slice b3 DDo.length d3,.int .u64 seo,.int .u64 sno,.int .u64 tlo,.int .u64 peo,.slice b4 PLo.length d4]):=h
abbrev AcG(h:Array Value:=by exact #[.int .i64 k,.int .u64 0,.int .u64 0,.int .u64 0,.int .i64 0,.int .i64 0,.slice none 0 0,.slice none 0 0,.slice none 0 0,.int .u64 0,.int .u64 0,.int .u64 0,.int .u64 0,.slice none 0 0]):=h
abbrev AcD(h:Array Value:=by exact #[.int .i64 m.kind,.int .u64 (e:Int),.int .u64 (n:Int),.int .u64 m.pos,.int .i64 m.count,.int .i64 m.state,.slice a1 m.streams.length a1',.slice a2 m.links.length a2',.slice a3 m.data.length a3',.int .u64 m.sea.epoch,.int .u64 m.sea.node,.int .u64 m.sea.tail,.int .u64 m.proj.epoch,.slice a4 m.proj.stripes.length a4']):=h
theorem G7:type_of% @Proofs.Tryz.ntmps60:=@Proofs.Tryz.ntmps60
theorem IJ:type_of% @Proofs.Tryz.func60:=@Proofs.Tryz.func60
end Go.Bs
namespace Go.Proofs.YtfddhafbhceoaaaGreat
open Go.RowKit Go.Bs Go.Maps
variable{caps:Array Value}{h q:Bool}{k:Int}{B D:List UInt8}{m:Msg}{c c1 c2 c3 c4 fn g p:Nat}{K S:Nat → Prop}{a a1 a2 a3 a4:Option Addr}{s:Rs}{t:TypeId}{v0 v1 v2 v3 v4:Value}{W W' w w':World}{X:World → Bool → Prop}
theorem Rs.Aa6:0≤(s.Fk B).2∧(s.Fk B).2≤18446744073709551615:=by
 have:=Rs.DL (B:=B) (s:=s);unfold Rs.Fk Rs.po;split
 ·split
  ·dsimp only;omega
  ·simp
 ·simp
theorem Abr:0≤(Rs.part h s (Rs.Fk B) 0).2∧(Rs.part h s (Rs.Fk B) 0).2≤18446744073709551615:=by
 cases h
 ·exact⟨Int.le_refl _,(by decide:(0:Int)≤18446744073709551615)⟩
 ·exact Rs.Aa6
theorem La{R:Nat}{cs:Array Value}(h:Blk W R 45 zeroCells):
  Blk ((((((((((((((W.setCell ⟨R,0,none⟩ (.int .i64 m.kind)).setCell ⟨R,1,none⟩ (.int .u64 m.epoch)).setCell ⟨R,2,none⟩ (.int .u64 m.seq)).setCell ⟨R,3,none⟩ (.int .u64 m.pos)).setCell ⟨R,4,none⟩ (.int .i64 m.count)).setCell ⟨R,5,none⟩ (.int .i64 m.state)).setCell ⟨R,6,none⟩ v1).setCell ⟨R,7,none⟩ v2).setCell ⟨R,8,none⟩ v3).setCell ⟨R,9,none⟩ (.int .u64 m.sea.epoch)).setCell ⟨R,10,none⟩ (.int .u64 m.sea.node)).setCell ⟨R,11,none⟩ (.int .u64 m.sea.tail)).setCell ⟨R,12,none⟩ (.int .u64 m.proj.epoch)).setCell ⟨R,13,none⟩ v4) R 45 (DB m v1 v2 v3 v4):=by
 have:=((((((((((((((h.set 0 (.int .i64 m.kind)).set 1 (.int .u64 m.epoch)).set 2 (.int .u64 m.seq)).set 3 (.int .u64 m.pos)).set 4 (.int .i64 m.count)).set 5 (.int .i64 m.state)).set 6 v1).set 7 v2).set 8 v3).set 9 (.int .u64 m.sea.epoch)).set 10 (.int .u64 m.sea.node)).set 11 (.int .u64 m.sea.tail)).set 12 (.int .u64 m.proj.epoch)).set 13 v4);simp only[Aa,Ab,Ac] at this;exact this
theorem Pb{R:Nat}{u0 u1 u2 u3 u4 u5 u6 u7 u8 u9 u10 u11 u12 u13:Value}:Tch (·=R) W ((((((((((((((W.setCell ⟨R,0,none⟩ u0).setCell ⟨R,1,none⟩ u1).setCell ⟨R,2,none⟩ u2).setCell ⟨R,3,none⟩ u3).setCell ⟨R,4,none⟩ u4).setCell ⟨R,5,none⟩ u5).setCell ⟨R,6,none⟩ u6).setCell ⟨R,7,none⟩ u7).setCell ⟨R,8,none⟩ u8).setCell ⟨R,9,none⟩ u9).setCell ⟨R,10,none⟩ u10).setCell ⟨R,11,none⟩ u11).setCell ⟨R,12,none⟩ u12).setCell ⟨R,13,none⟩ u13):=by
 refine Tch.setCell (F:=(·=R)) (p:=⟨R,13,none⟩) ?_ (fun _=>rfl) u13;refine Tch.setCell (F:=(·=R)) (p:=⟨R,12,none⟩) ?_ (fun _=>rfl) u12;refine Tch.setCell (F:=(·=R)) (p:=⟨R,11,none⟩) ?_ (fun _=>rfl) u11;refine Tch.setCell (F:=(·=R)) (p:=⟨R,10,none⟩) ?_ (fun _=>rfl) u10;refine Tch.setCell (F:=(·=R)) (p:=⟨R,9,none⟩) ?_ (fun _=>rfl) u9;refine Tch.setCell (F:=(·=R)) (p:=⟨R,8,none⟩) ?_ (fun _=>rfl) u8;refine Tch.setCell (F:=(·=R)) (p:=⟨R,7,none⟩) ?_ (fun _=>rfl) u7;refine Tch.setCell (F:=(·=R)) (p:=⟨R,6,none⟩) ?_ (fun _=>rfl) u6;refine Tch.setCell (F:=(·=R)) (p:=⟨R,5,none⟩) ?_ (fun _=>rfl) u5;refine Tch.setCell (F:=(·=R)) (p:=⟨R,4,none⟩) ?_ (fun _=>rfl) u4;refine Tch.setCell (F:=(·=R)) (p:=⟨R,3,none⟩) ?_ (fun _=>rfl) u3;refine Tch.setCell (F:=(·=R)) (p:=⟨R,2,none⟩) ?_ (fun _=>rfl) u2;refine Tch.setCell (F:=(·=R)) (p:=⟨R,1,none⟩) ?_ (fun _=>rfl) u1;refine Tch.setCell (F:=(·=R)) (p:=⟨R,0,none⟩) ?_ (fun _=>rfl) u0;exact Tch.refl _ _
theorem Gm{cs:Array Value}(h:Blk w g t cs):w.frozen? ⟨g,0,none⟩=false∧w.frozen? ⟨g,1,none⟩=false∧w.frozen? ⟨g,2,none⟩=false∧w.frozen? ⟨g,3,none⟩=false∧w.frozen? ⟨g,4,none⟩=false∧w.frozen? ⟨g,5,none⟩=false∧w.frozen? ⟨g,6,none⟩=false∧w.frozen? ⟨g,7,none⟩=false∧w.frozen? ⟨g,8,none⟩=false∧w.frozen? ⟨g,9,none⟩=false∧w.frozen? ⟨g,10,none⟩=false∧w.frozen? ⟨g,11,none⟩=false∧w.frozen? ⟨g,12,none⟩=false∧w.frozen? ⟨g,13,none⟩=false:=
 ⟨h.free 0,h.free 1,h.free 2,h.free 3,h.free 4,h.free 5,h.free 6,h.free 7,h.free 8,h.free 9,h.free 10,h.free 11,h.free 12,h.free 13⟩
theorem Ky:Ah.r S w [.slice none 0 0] []:=Bt (xs:=[]) rfl (An _) (Am _) (.inl rfl)
theorem SJ{blk:Rs→Rs × List UInt8 × Bool}(hU:Ch w g B a fn caps blk K X)
 (h:C5 w g B a K X q (w.heap.size+1+1+1) (w.heap.size+1+1+1+1) k m v1 v2 v3 v4 s W) (ht:Tch (·=w.heap.size+1+1) W W'):
  (Bb.r (FZ w W') W' [v1] m.streams∧Cm.r (FZ w W') W' [v2] m.links∧Ah.r (FZ w W') W' [v3] m.data∧Bq.r (FZ w W') W' [v4] m.proj.stripes)∧A6 W' g B a s∧Tch K w W'∧X W' q:=by
 have hgl:=hU.lt g hU.own;have hw:=h.tch.size;have hlm:=h.lm;have hk:∀b,(w.heap.size+1+1+1+1)≤b∧b<W.heap.size→W'.heap[b]? =W.heap[b]? :=fun b hb=>ht.block b hb.2 zD;have hm:∀b,(w.heap.size+1+1+1+1)≤b∧b<W.heap.size→w.heap.size≤b∧b<W'.heap.size:=fun b hb=>⟨zD,Aj hb.2 ht.size⟩;have hT:Tch K w W':=h.tch.trans ht fun b hb e=>by omega
 exact⟨⟨Bb.mono (Bb.keep h.st hk) hm,Cm.mono (Cm.keep h.ln hk) hm,Ah.mono (Ah.keep h.da hk) hm,Bq.mono (Bq.keep h.sp hk) hm⟩,⟨h.rd.blk.tch ht zD,Ah.mono (Ah.keep hU.dat fun b hb=>hT.block b hb.1 hb.2) fun b hb=>⟨by have:=hT.size;omega,fun e=>hb.2 (e ▸ hU.own)⟩,h.rd.ok⟩,hT,hU.st W W' q h.x hw (ht.mono fun b _ e=> .inr zD)⟩
theorem O4(w:World)(h:A6 w g B a s)(hB:B.length≤1000000000)(k:Int)(fn:Nat)(caps:Array Value)(blk:Rs→Rs × List UInt8 × Bool)(K:Nat→Prop)(X:World→Bool→Prop)(hU:Ch w g B a fn caps blk K X)(hX:X w true):
  Calls Tryz.prog 248 #[.pointer (some ⟨g,0,none⟩),.int .i64 k,.func (Fn.func fn) #[] caps] w fun r w'=>∃v1 v2 v3 v4 q,r=.returned (.agg (DB (s.body B blk k).2.1 v1 v2 v3 v4))∧(Bb.r (FZ w w') w' [v1] (s.body B blk k).2.1.streams∧Cm.r (FZ w w') w' [v2] (s.body B blk k).2.1.links∧Ah.r (FZ w w') w' [v3] (s.body B blk k).2.1.data∧Bq.r (FZ w w') w' [v4] (s.body B blk k).2.1.proj.stripes)∧
   A6 w' g B a (s.body B blk k).1∧Tch K w w'∧X w' q∧((s.body B blk k).1.k=0→q=(s.body B blk k).2.2):=by
 have hgl:=hU.lt g hU.own;have HU:=hid hU;have HKR:=hid (fun (W:World)=>Jd k W);by_cases hkr:1≤k∧k≤14
 ·have dk:decide (1≤k∧k≤14)=true:=Ad hkr
  rw[dk] at HKR;unfold Rs.body Rs.ahead;rw[Ai hkr];dsimp only;have hpu:=Abr (B:=B) (s:=s) (h:=AE k 1);generalize hP1:Rs.part (AE k 1) s (Rs.Fk B) 0=P1 at*;obtain⟨s1,x1⟩:=P1;dsimp only at*;generalize hP2:Rs.part (AE k 2) s1 (Rs.cnt B) 0=P2 at*;obtain⟨s2,x2⟩:=P2;dsimp only at*;generalize hP3:Rs.part (AE k 4) s2 (Rs.stt B k) 0=P3 at*;obtain⟨s3,x3⟩:=P3;dsimp only at*;generalize hP4:Rs.part (AE k 8) s3 (Rs.GP B) []=P4 at*;obtain⟨s4,L4⟩:=P4;dsimp only at*;generalize hP5:Rs.part (AE k 16) s4 (fun t=>t.links B x1) []=P5 at*;obtain⟨s5,L5⟩:=P5;dsimp only at*;generalize hP6:Rs.part (Bw k x3) s5 blk ([],true)=P6 at*;obtain⟨s6,D,fl⟩:=P6;dsimp only at*;generalize hP7:Rs.part (AE k 64) s6 (Rs.seal_ B) Dk=P7 at*;obtain⟨s7,z7⟩:=P7;dsimp only at*;generalize hP8:Rs.part (AE k 128) s7 (Rs.Ds B) DE=P8 at*;obtain⟨s8,z8⟩:=P8;dsimp only at*;generalize hRS:(if s8.k=0 then (s8,(⟨k,0,0,x1,x2,x3,L4,L5,D,z7,z8⟩:Msg),fl) else (s8,El,false))=RES;have HRS:=hid hRS;clear hRS;have HP1:=hid hP1;have HP2:=hid hP2;have HP3:=hid hP3;have HP4:=hid hP4;have HP5:=hid hP5;have HP6:=hid hP6;have HP7:=hid hP7;have HP8:=hid hP8;clear hP1 hP2 hP3 hP4 hP5 hP6 hP7 hP8 dk hkr;have hbW:Below w.heap.size w ((((w.alloc (.cells #[.pointer (some ⟨g,0,none⟩)] 112)).alloc (.cells #[.int .i64 k] 3)).alloc (.cells Acs 45)).alloc (.cells AcG 45)):=zA;have hszW:(((((w.alloc (.cells #[.pointer (some ⟨g,0,none⟩)] 112)).alloc (.cells #[.int .i64 k] 3)).alloc (.cells Acs 45)).alloc (.cells AcG 45))).heap.size=w.heap.size+1+1+1+1:=zN;have hI0:C5 w g B a K X true (w.heap.size+1+1+1) (w.heap.size+1+1+1+1) k ⟨k,0,0,0,0,0,[],[],[],Dk,DE⟩ (.slice none 0 0) (.slice none 0 0) (.slice none 0 0) (.slice none 0 0) s ((((w.alloc (.cells #[.pointer (some ⟨g,0,none⟩)] 112)).alloc (.cells #[.int .i64 k] 3)).alloc (.cells Acs 45)).alloc (.cells AcG 45)):=
   ⟨h.later hbW,Ah.keep hU.dat fun b hb=>hbW.block b hb.1,zC,zC,zC,zC,⟨zD,zD⟩,zD,Bt (xs:=[]) rfl (An _) (Am _) (.inl rfl),Bt (xs:=[]) rfl (An _) (Am _) (.inl rfl),Ky,Bt (xs:=[]) rfl (An _) (Am _) (.inl rfl),Tch.Cx hbW,hU.st w _ true hX (An _) (Tch.Cx hbW)⟩
  have HI0:=hid hI0;clear hI0 hbW hszW h hX;go_enter Tryz.func248,Tryz.ntmps248;go_wp2_with fail;refine (HKR.out _).mono ?_;rintro r w0 ⟨rfl,rfl⟩;go_wp2_with fail;generalize ((((w.alloc (.cells #[.pointer (some ⟨g,0,none⟩)] 112)).alloc (.cells #[.int .i64 k] 3)).alloc (.cells Acs 45)).alloc (.cells AcG 45))=w1 at*;have hC1:=YX HU.out hB HI0.out rfl;rw[HP1.out] at hC1;dsimp only at hC1;have HC1:=hid hC1;clear hC1;refine HC1.out.mono ?_;rintro r w2 ⟨rfl,hI⟩;have HI1:=hid hI;clear hI HC1;go_wp2_with fail;have hC2:=YW HU.out hB HI1.out rfl;rw[HP2.out] at hC2;dsimp only at hC2;have HC2:=hid hC2;clear hC2;refine HC2.out.mono ?_;rintro r w3 ⟨rfl,hI⟩;have HI2:=hid hI;clear hI HC2;go_wp2_with fail;have hC3:=YV HU.out hB HI2.out rfl;rw[HP3.out] at hC3;dsimp only at hC3;have HC3:=hid hC3;clear hC3;refine HC3.out.mono ?_;rintro r w4 ⟨rfl,hI⟩;have HI3:=hid hI;clear hI HC3;go_wp2_with fail;have hC4:=YU HU.out hB HI3.out rfl;rw[HP4.out] at hC4;dsimp only at hC4;have HC4:=hid hC4;clear hC4;refine HC4.out.mono ?_;rintro r w5 ⟨rfl,v,hI⟩;obtain⟨b1,d1,e,_,_⟩:=AN hI.st;cases e;have HI4:=hid hI;clear hI HC4;go_wp2_with fail;have hC5:=WL HU.out hB HI4.out rfl hpu;rw[HP5.out] at hC5;dsimp only at hC5;have HC5:=hid hC5;clear hC5;refine HC5.out.mono ?_;rintro r w6 ⟨rfl,v,hI⟩;obtain⟨b2,d2,e,_,_⟩:=AN hI.ln;cases e;have HI5:=hid hI;clear hI HC5;go_upto_region 11 with (fail);obtain⟨R,hR⟩:∃R,R=(Bw k x3&&decide (s5.k=0)):=⟨_,rfl⟩;have HR:=hid hR;clear hR;go_cut [40] from 35 to 39 (fun v V=>v=.bool R∧Hid (Below w6.heap.size w6 V))
  case first=>
   have hm:=HI5.out.pm;dsimp only[DB] at hm;obtain⟨y0,y1,y2,y3,y4,y5,y6,y7,y8,y9,y10,y11,y12,y13,lm⟩:=Cz hm;have p0:w6.cell? ⟨w.heap.size,0,none⟩=some (.pointer (some ⟨g,0,none⟩)):=HI5.out.pa.cell 0;have HHD:=hid (G6 ⟨k,0,0,x1,x2,x3,L4,L5,[],Dk,DE⟩ b1 d1 b2 d2 none 0 none 0 w6);dsimp only at HHD;clear hm;cases hBk:Bw k x3
   ·rw[hBk] at HHD HR
    have HR2:Hid (R=false):=hid HR.out;clear hBk;go_wp2_with fail;refine HHD.out.mono ?_;rintro r w7 ⟨rfl,hb7⟩;have HB7:=hid hb7;clear hb7;go_wp2_with fail;go_meet
    case rel=>exact ⟨GL Value.bool HR2.out.symm,HB7⟩
   ·rw[hBk] at HHD HR
    have HR2:Hid (R=decide (s5.k=0)):=hid (by rw[HR.out,BY]);have HG:=hid (fun (V:World) (hV:A6 V g B a s5)=>(by have:=AL V hV;rw[←HR2.out] at this;exact this:Calls Tryz.prog 112 #[.pointer (some ⟨g,0,none⟩)] V fun r w'=>r=.returned (.bool R)∧Below V.heap.size V w'));clear hBk;go_wp2_with fail;refine HHD.out.mono ?_;rintro r w7 ⟨rfl,hb7⟩;have HI6:=hid (HI5.out.later HU.out hb7);have p7:w7.cell? ⟨w.heap.size,0,none⟩=some (.pointer (some ⟨g,0,none⟩)):=HI6.out.pa.cell 0;have HB7:=hid hb7;clear hb7;go_wp2_with fail;refine (HG.out _ HI6.out.rd).mono ?_;rintro r w8 ⟨rfl,hb8⟩;have HB8:=hid (HB7.out.trans (hb8.mono HB7.out.size));clear hb8;go_wp2_with fail;go_meet
    case rel=>exact ⟨rfl,HB8⟩
  case rest=>
  obtain⟨rfl,hBB⟩:=hcut;obtain⟨w7,hwn⟩:∃W:World,W=wc:=⟨_,rfl⟩;subst hwn;have HI5b:=hid (HI5.out.later HU.out hBB.out);go_upto_if 40 with (fail);go_cut [] from 41 to 43 (fun V=>∃v3 q,Hid (C5 w g B a K X q (w.heap.size+1+1+1) (w.heap.size+1+1+1+1) k ⟨k,0,0,x1,x2,x3,L4,L5,D,Dk,DE⟩ (.slice b1 L4.length d1) (.slice b2 L5.length d2) v3 (.slice none 0 0) s6 V)∧Hid (s6.k=0→q=fl))
  case first=>
   have HQ:=HP6.out;have hR:=HR.out;cases R
   ·have HX2:Hid (C5 w g B a K X true (w.heap.size+1+1+1) (w.heap.size+1+1+1+1) k ⟨k,0,0,x1,x2,x3,L4,L5,D,Dk,DE⟩ (.slice b1 L4.length d1) (.slice b2 L5.length d2) (.slice none 0 0) (.slice none 0 0) s6 w7∧(s6.k=0→true=fl)):=hid (by
     cases hBk:Bw k x3
     ·rw[hBk] at HQ
      have HQ2:(s5,([]:List UInt8),true)=(s6,D,fl):=HQ;cases HQ2;exact⟨HI5b.out,fun _=>rfl⟩
     ·rw[hBk] at HQ
      have HQ2:blk s5=(s6,D,fl):=HQ;have hk5:s5.k≠0:=fun e=>by
       rw[hBk,Ad e] at hR;exact absurd hR zO
      obtain⟨hq1,hq2⟩:=HU.out.bad s5 hk5;rw[HQ2] at hq1 hq2;dsimp only at hq1 hq2;subst hq1 hq2;exact⟨HI5b.out,fun e=>absurd e hk5⟩)
    clear HQ hR;go_wp2_with fail;go_meet
    case rel=>exact ⟨_,true,hid HX2.out.1,hid HX2.out.2⟩
   ·have hBk:Bw k x3=true:=by
     cases hh:Bw k x3
     ·rw[hh,IL] at hR;exact absurd hR zO
     ·rfl
    have hk5:s5.k=0:=by
     rw[hBk] at hR;exact Bc (by rw[BY] at hR;exact hR.symm)
    rw[hBk] at HQ;have HQ2:blk s5=(s6,D,fl):=HQ;have HUC:=hid (fun (V:World) (h1:A6 V g B a s5) (h2:X V true) (h3:w.heap.size≤V.heap.size) (h4:Tch K w V)=>(by have:=HU.out.call V s5 true h1 h2 h3 h4;rw[HQ2] at this;exact this:Calls Tryz.prog fn caps V fun r W'=>∃v,r=.returned v∧Ah.r (FZ V W') W' [v] D∧A6 W' g B a s6∧Tch K V W'∧X W' fl));clear HQ2 hk5 HQ hR hBk;go_wp2_with fail;rw[HU.out.ent];refine (HUC.out _ HI5b.out.rd HI5b.out.x HI5b.out.tch.size HI5b.out.tch).mono ?_;rintro r w9 ⟨v9,rfl,hD9,hRD9,hT9,hX9⟩;obtain⟨ad,cd,hfv,hD9',_⟩:=AN hD9;simp only[As,AM] at hfv;subst hfv;have HI8:=hid (HI5b.out.Aa4 HU.out hT9 hRD9 hX9);have hlow:=HI5b.out.low;have HV:=hid (Ah.mono hD9' fun b hb=>(⟨zAl,hb.2⟩:(w.heap.size+1+1+1+1)≤b∧b<w9.heap.size));have f8:=Ht HI8.out.pm 8;obtain⟨y0,y1,y2,y3,y4,y5,y6,y7,y8,y9,y10,y11,y12,y13,l8⟩:=Cz HI8.out.pm;clear hD9 hRD9 hT9 hX9 hD9';go_wp2_with fail;go_meet
    case rel=>exact ⟨_,fl,hid (HI8.out.M3 HU.out 8 _ zR HI8.out.st HI8.out.ln HV.out HI8.out.sp),hid fun _=>rfl⟩
  case rest=>
   obtain⟨v3,q,HI6,HQF⟩:=hcut;obtain⟨w70,hwn⟩:∃W:World,W=wc:=⟨_,rfl⟩;subst hwn;obtain⟨b3,d3,e,_,_⟩:=AN HI6.out.da;cases e;clear HI0 HI1 HI2 HI3 HI4 HI5 HI5b;go_wp2_with fail;have hC7:=WK HU.out hB HI6.out rfl;rw[HP7.out] at hC7;dsimp only at hC7;have HC7:=hid hC7;clear hC7;refine HC7.out.mono ?_;rintro r w8 ⟨rfl,hI⟩;have HI7:=hid hI;clear hI HC7;go_wp2_with fail;have hC8:=UG HU.out hB HI7.out rfl;rw[HP8.out] at hC8;dsimp only at hC8;have HC8:=hid hC8;clear hC8;refine HC8.out.mono ?_;rintro r w9 ⟨rfl,v,hI⟩;obtain⟨b4,d4,e,_,_⟩:=AN hI.sp;cases e;have HI8:=hid hI;have p9:w9.cell? ⟨w.heap.size,0,none⟩=some (.pointer (some ⟨g,0,none⟩)):=hI.pa.cell 0;have HQF8:Hid (s8.k=0→q=fl):=hid fun e=>HQF.out (by
    have h7:=Rs.FQ (by rw[HP8.out];exact e) Rs.XN;exact Rs.FQ (by rw[HP7.out];exact h7) Rs.Xy)
   clear hI HC8;by_cases hk:s8.k=0
   ·have HG:=hid (fun (V:World) (hV:A6 V g B a s8)=>(by have:=AL V hV;rw[Ad hk] at this;exact this:Calls Tryz.prog 112 #[.pointer (some ⟨g,0,none⟩)] V fun r w'=>r=.returned (.bool true)∧Below V.heap.size V w'))
    have HK:=hid hk;clear hk;go_wp2_with fail;refine (HG.out _ HI8.out.rd).mono ?_;rintro r w10 ⟨rfl,hb10⟩;have HI9:=hid (HI8.out.later HU.out hb10);clear hb10;have hm:=HI9.out.pm;dsimp only[DB] at hm;obtain⟨y0,y1,y2,y3,y4,y5,y6,y7,y8,y9,y10,y11,y12,y13,lm⟩:=Cz hm;obtain⟨r0,r1,r2,r3,r4,r5,r6,r7,r8,r9,r10,r11,r12,r13,lz⟩:=Cz HI9.out.pr;obtain⟨f0,f1,f2,f3,f4,f5,f6,f7,f8,f9,f10,f11,f12,f13⟩:=Gm HI9.out.pr;have hq:=HQF8.out HK.out;clear hm p9;go_wp2_with fail;have hput:=La (W:=w10) (m:=⟨k,0,0,x1,x2,x3,L4,L5,D,z7,z8⟩) (v1:=.slice b1 L4.length d1) (v2:=.slice b2 L5.length d2) (v3:=.slice b3 D.length d3) (v4:=.slice b4 z8.stripes.length d4) (cs:=#[]) HI9.out.pr;dsimp only at hput;refine Di (fun W=>Blk W (w.heap.size+1+1) 45 (DB ⟨k,0,0,x1,x2,x3,L4,L5,D,z7,z8⟩ (.slice b1 L4.length d1) (.slice b2 L5.length d2) (.slice b3 D.length d3) (.slice b4 z8.stripes.length d4))∧Tch (·=w.heap.size+1+1) w10 W) ⟨hput,?_⟩ ?_
    ·exact Pb
    intro W5 ⟨q5,ht5⟩;have hFIN:=SJ HU.out HI9.out ht5;dsimp only[DB] at q5;obtain⟨n0,n1,n2,n3,n4,n5,n6,n7,n8,n9,n10,n11,n12,n13,ln⟩:=Cz q5;have hRES:RES=(s8,(⟨k,0,0,x1,x2,x3,L4,L5,D,z7,z8⟩:Msg),fl):=by rw[←HRS.out];exact Ai HK.out
    rw[hRES];refine Al (v:=.agg #[.int .i64 k,.int .u64 0,.int .u64 0,.int .u64 x1,.int .i64 x2,.int .i64 x3,.slice b1 L4.length d1,.slice b2 L5.length d2,.slice b3 D.length d3,.int .u64 z7.epoch,.int .u64 z7.node,.int .u64 z7.tail,.int .u64 z8.epoch,.slice b4 z8.stripes.length d4]) zAx rfl ⟨_,_,_,_,q,rfl,hFIN.1,hFIN.2.1,hFIN.2.2.1,hFIN.2.2.2,fun _=>hq⟩
   ·have HG:=hid (fun (V:World) (hV:A6 V g B a s8)=>(by have:=AL V hV;rw[Ae hk] at this;exact this:Calls Tryz.prog 112 #[.pointer (some ⟨g,0,none⟩)] V fun r w'=>r=.returned (.bool false)∧Below V.heap.size V w'))
    have HK:=hid hk;clear hk;go_wp2_with fail;refine (HG.out _ HI8.out.rd).mono ?_;rintro r w10 ⟨rfl,hb10⟩;have HI9:=hid (HI8.out.later HU.out hb10);clear hb10 p9;obtain⟨r0,r1,r2,r3,r4,r5,r6,r7,r8,r9,r10,r11,r12,r13,lz⟩:=Cz HI9.out.pr;obtain⟨f0,f1,f2,f3,f4,f5,f6,f7,f8,f9,f10,f11,f12,f13⟩:=Gm HI9.out.pr;go_wp2_with fail;have hput:=La (W:=w10) (m:=El) (v1:=(.slice none 0 0)) (v2:=(.slice none 0 0)) (v3:=(.slice none 0 0)) (v4:=(.slice none 0 0)) (cs:=#[]) HI9.out.pr;dsimp only[El,Dk,DE] at hput;refine Di (fun W=>Blk W (w.heap.size+1+1) 45 zeroCells∧Tch (·=w.heap.size+1+1) w10 W) ⟨hput,?_⟩ ?_
    ·exact Pb
    intro W5 ⟨q5,ht5⟩;have hFIN:=SJ HU.out HI9.out ht5;dsimp only[zeroCells] at q5;obtain⟨n0,n1,n2,n3,n4,n5,n6,n7,n8,n9,n10,n11,n12,n13,ln⟩:=Cz q5;have hRES:RES=(s8,El,false):=by rw[←HRS.out];exact Ak HK.out
    rw[hRES];refine Al (v:=.agg Acs) zAx rfl ⟨(.slice none 0 0),(.slice none 0 0),(.slice none 0 0),(.slice none 0 0),q,rfl,⟨Bt (xs:=[]) rfl (An _) (Am _) (.inl rfl),Bt (xs:=[]) rfl (An _) (Am _) (.inl rfl),Ky,Bt (xs:=[]) rfl (An _) (Am _) (.inl rfl)⟩,hFIN.2.1,hFIN.2.2.1,hFIN.2.2.2,fun e=>absurd e HK.out⟩
 ·have dk:decide (1≤k∧k≤14)=false:=Ae hkr
  rw[dk] at HKR;unfold Rs.body;rw[Ak hkr];clear dk hkr;have HE0:=hid (fun (V:World) (hV:A6 V g B a s)=>Cv V hV);have HF0:=hid (fun (V:World) (hV:A6 V g B a s)=>BP V hV 7 (s.p:Int) zD);have hfk:(s.fail 7 (s.p:Int)).k≠0:=Rs.BE zD;have HFK:=hid hfk;clear hfk;generalize s.fail 7 (s.p:Int)=s1 at*;have hbW:Below w.heap.size w (((w.alloc (.cells #[.pointer (some ⟨g,0,none⟩)] 112)).alloc (.cells #[.int .i64 k] 3)).alloc (.cells Acs 45)):=zA;have HR0:=hid (h.later hbW);have HBW:=hid hbW;have A0:Blk (((w.alloc (.cells #[.pointer (some ⟨g,0,none⟩)] 112)).alloc (.cells #[.int .i64 k] 3)).alloc (.cells Acs 45)) w.heap.size 112 #[.pointer (some ⟨g,0,none⟩)]:=zC;have R0:Blk (((w.alloc (.cells #[.pointer (some ⟨g,0,none⟩)] 112)).alloc (.cells #[.int .i64 k] 3)).alloc (.cells Acs 45)) (w.heap.size+1+1) 45 zeroCells:=zC;have HX:=hid hX;go_enter Tryz.func248,Tryz.ntmps248;go_wp2_with fail;refine (HKR.out _).mono ?_;rintro r w0 ⟨rfl,rfl⟩;go_wp2_with fail;generalize (((w.alloc (.cells #[.pointer (some ⟨g,0,none⟩)] 112)).alloc (.cells #[.int .i64 k] 3)).alloc (.cells Acs 45))=w1 at*;have p0:w1.cell? ⟨w.heap.size,0,none⟩=some (.pointer (some ⟨g,0,none⟩)):=A0.cell 0;have l0:=A0.lt;have HR1:=hid (HR0.out.later (show Below w1.heap.size w1 w1.drew from (Below.refl _ _).drew));refine CJ (S:=fun w'=>w'.cell? ⟨w.heap.size,0,none⟩=some (.pointer (some ⟨g,0,none⟩))) zI p0 (fun hHeld=> ?_);refine Ap (i:=0) (oi:=_) (v:=?_) rfl zE zE zE (fun _ _ _ h=>h) (Or.inl ⟨zS,?_⟩) zL ?_;rotate_left
  ·(intro w hSw;(try dsimp only at hSw);go_simp<;>with_reducible rfl)
  (try simp only[Act.put,Aa,Ab,Ac])
  refine Ap (i:=1) (oi:=_) (v:=?_) rfl zE zE zE (fun _ _ _ h=>h) (Or.inl ⟨zS,?_⟩) zL ?_;rotate_left
  ·(intro w hSw;(try dsimp only at hSw);go_simp<;>with_reducible rfl)
  (try simp only[Act.put,Aa,Ab,Ac])
  refine AU (rs:=[2]) zE zN ?_;refine AK (o:=_) rfl (fun K hK=> ?_) AllReadyH.nil
  (go_simp;go_at_call 173;refine (HE0.out _ HR1.out).mono ?_;rintro e1 w7 ⟨rfl,rfl⟩;(try dsimp only))
  refine hK.out _ _ ?_ (fun hHeld=> ?_)
  ·((try dsimp only);first | assumption | (go_keep;done))
  clear hK K
  (try simp only[Act.put,Aa,Ab,Ac])
  refine AU (rs:=[3]) zE zN ?_;refine AK (o:=_) rfl (fun K hK=> ?_) AllReadyH.nil
  (go_simp;go_at_call 124;refine (HF0.out _ HR1.out).mono ?_;rintro e1 w8 ⟨rfl,hst8⟩;have HS8:=hid hst8;have n1:=(hst8.2.cell (p:=⟨w.heap.size,0,none⟩) (by exact l0) zJ).trans p0;have R8:=hid (Blk.tch R0.drew hst8.2 zD);clear hst8;(try dsimp only))
  refine hK.out _ _ ?_ (fun hHeld=> ?_)
  ·((try dsimp only);first | assumption | (go_keep;done))
  clear hK K
  (try simp only[Act.put,Aa,Ab,Ac])
  (try simp only[AA,Ay,Aw,Act.put,Aa,Ab,Ac])
  refine CS zI ?_ _;obtain⟨z0,z1,z2,z3,z4,z5,z6,z7,z8,z9,z10,z11,z12,z13,lz⟩:=Cz R8.out;obtain⟨f0,f1,f2,f3,f4,f5,f6,f7,f8,f9,f10,f11,f12,f13⟩:=Gm R8.out;go_wp2_with fail;have hput:=La (W:=w8) (m:=El) (v1:=(.slice none 0 0)) (v2:=(.slice none 0 0)) (v3:=(.slice none 0 0)) (v4:=(.slice none 0 0)) (cs:=#[]) R8.out;dsimp only[El,Dk,DE] at hput;refine Di (fun W=>Blk W (w.heap.size+1+1) 45 zeroCells∧Tch (·=w.heap.size+1+1) w8 W) ⟨hput,?_⟩ ?_
  ·exact Pb
  intro W5 ⟨q5,ht5⟩;dsimp only[zeroCells] at q5;obtain⟨n0',n1',n2,n3,n4,n5,n6,n7,n8,n9,n10,n11,n12,n13,ln⟩:=Cz q5;have hTA:Tch (fun b=>b=g∨w.heap.size≤b) w W5:=(((Tch.Cx (F:=fun b=>b=g∨w.heap.size≤b) HBW.out).drew.trans HS8.out.2 fun b _ e=> .inl e).trans ht5 fun b _ e=> .inr zD);have hTK:Tch K w W5:=hTA.mono fun b hb e=>e.elim (fun e=>e ▸ HU.out.own) fun e=>by omega
  have hRD:A6 W5 g B a s1:=⟨HS8.out.1.blk.tch ht5 zD,Ah.mono (Ah.keep HU.out.dat fun b hb=>hTK.block b hb.1 hb.2) fun b hb=>⟨by have:=hTK.size;omega,fun e=>hb.2 (e ▸ HU.out.own)⟩,HS8.out.1.ok⟩;refine Al (v:=.agg Acs) (by simp[results,Tryz.results248,go_sem,n0',n1',n2,n3,n4,n5,n6,n7,n8,n9,n10,n11,n12,n13]) rfl ⟨(.slice none 0 0),(.slice none 0 0),(.slice none 0 0),(.slice none 0 0),true,rfl,⟨Bt (xs:=[]) rfl (An _) (Am _) (.inl rfl),Bt (xs:=[]) rfl (An _) (Am _) (.inl rfl),Ky,Bt (xs:=[]) rfl (An _) (Am _) (.inl rfl)⟩,hRD,hTK,HU.out.st w W5 true HX.out (An _) hTA,fun e=>absurd e HFK.out⟩
structure VF(w:World)(g:Nat)(B:List UInt8)(a:Option Addr)(fn:Nat)(caps:Array Value)(blk:Rs→Rs × List UInt8 × Bool)(K:Nat→Prop)(X:World→Bool→Prop):Prop where
 lt:∀b,K b→b<w.heap.size
 own:K g
 st:∀W W' q,X W q→w.heap.size≤W.heap.size→Tch (fun b=>b=g∨w.heap.size≤b) W W'→X W' q
 call:∀W t,A6 W g B a t→X W false→w.heap.size≤W.heap.size→Tch K w W→Calls Tryz.prog fn caps W fun r W'=>∃v,r=.returned v∧Ah.r (FZ W W') W' [v] (blk t).2.1∧A6 W' g B a (blk t).1∧Tch K W W'∧X W' (blk t).2.2
 size:∀t,(blk t).2.1.length≤1048576
 dat:Ah.r (fun q=>q<w.heap.size∧¬K q) w [.slice a B.length B.length] B
 ent:∀(xs:Array Value) (W:World),(callFunc fn xs).run Tryz.prog W=.ok (.enter fn xs) W
theorem VF.rd{blk:Rs→Rs × List UInt8 × Bool}(hU:VF w g B a fn caps blk K X){s:Rs}(ht:Tch K w W)
 (hb:Blk W g 222 #[.slice a B.length B.length,.int .i64 (s.p:Int),.int .i64 s.k,.int .i64 s.f]) (hs:s.ok B.length):A6 W g B a s:=
 ⟨hb,Ah.mono (Ah.keep hU.dat fun q hq=>ht.block q hq.1 hq.2) fun q hq=>⟨Aj hq.1 ht.size,fun e=>hq.2 (e ▸ hU.own)⟩,hs⟩
theorem Rs.take_len{n:Int}:(s.take B n).2.length≤n.toNat:=by
 unfold Rs.take;split
 ·simp;omega
 ·simp
theorem Rs.PG{m:Int}:(s.loose B m).2.1.length≤1048576:=by
 have h1:=Rs.JH (B:=B) (s:=s) (m:=min m 1048576);unfold Rs.loose;split
 ·split
  ·split
   ·have:=Rs.take_len (B:=B) (s:=((s.int B (min m 1048576)).1.byte B).1) (n:=((s.int B (min m 1048576)).2:Int))
    dsimp only;omega
   ·simp
  ·split
   ·split
    ·have:=Rs.U7 (B:=B) (s:=((s.int B (min m 1048576)).1.byte B).1) (s.int B (min m 1048576)).2
     dsimp only;omega
    ·simp
   ·simp
 ·simp
theorem SU(t:Rs):(Db B t).2.1.length≤1048576:=by
 have:=Rs.PG (B:=B) (s:=t) (m:=1048576);unfold Db Rs.strict;dsimp only;split
 ·split
  ·exact this
  ·simp
 ·simp
theorem WR(t:Rs)(h:t.k≠0):(Db B t).1=t∧(Db B t).2.1=[]:=by
 unfold Db;dsimp only;rw[Rs.I9 h];unfold Rs.strict;dsimp only;rw[Ak h];exact⟨rfl,rfl⟩
theorem XE{S':Nat→Prop}(hk:∀q,S q→w'.heap[q]? =w.heap[q]?)(hs:∀q,S q→S' q)(h:Bb.r S w [v1] m.streams∧Cm.r S w [v2] m.links∧Ah.r S w [v3] m.data∧Bq.r S w [v4] m.proj.stripes):
  Bb.r S' w' [v1] m.streams∧Cm.r S' w' [v2] m.links∧Ah.r S' w' [v3] m.data∧Bq.r S' w' [v4] m.proj.stripes:=
 ⟨Bb.mono (Bb.keep h.1 hk) hs,Cm.mono (Cm.keep h.2.1 hk) hs,Ah.mono (Ah.keep h.2.2.1 hk) hs,Bq.mono (Bq.keep h.2.2.2 hk) hs⟩
theorem UM(w:World)(h:A6 w g B a s)(hB:B.length≤1000000000)(hp:Blk w p 112 #[.pointer (some ⟨g,0,none⟩)]):
  Calls Tryz.prog 249 #[.pointer (some ⟨p,0,none⟩)] w fun r w'=>∃v,r=.returned v∧Ah.r (FZ w w') w' [v] (Db B s).2.1∧AG w g B a (Db B s).1 w':=by
 have HB:=hid (UQ w h hB 1048576 zD);have x0:w.cell? ⟨p,0,none⟩=some (.pointer (some ⟨g,0,none⟩)):=hp.cell 0;unfold Db;dsimp only;generalize Rs.strict (s.loose B 1048576)=T at*;obtain⟨s1,D⟩:=T;dsimp only at*;clear h hp;go_enter Tryz.func249,Tryz.ntmps249;go_wp2_with fail;refine HB.out.mono ?_;rintro r w1 ⟨v,rfl,hv,hst⟩;obtain⟨a1,c1,hfv,hv2,_⟩:=AN hv;simp only[As,AM] at hfv;subst hfv;have HV:=hid hv2;have HS:=hid hst;clear hv hv2 hst;go_wp2;go_ret;exact⟨_,rfl,HV.out,HS.out⟩
theorem UL(w:World)(h:A6 w g B a s)(hB:B.length≤1000000000)(k:Int):
  Calls Tryz.prog 178 #[.pointer (some ⟨g,0,none⟩),.int .i64 k] w fun r w'=>∃v1 v2 v3 v4,r=.returned (.agg (DB (s.body B (Db B) k).2.1 v1 v2 v3 v4))∧(Bb.r (FZ w w') w' [v1] (s.body B (Db B) k).2.1.streams∧Cm.r (FZ w w') w' [v2] (s.body B (Db B) k).2.1.links∧Ah.r (FZ w w') w' [v3] (s.body B (Db B) k).2.1.data∧Bq.r (FZ w w') w' [v4] (s.body B (Db B) k).2.1.proj.stripes)∧AG w g B a (s.body B (Db B) k).1 w':=by
 have hlt:=h.blk.lt;have HIN:=hid (DC.refl h);clear h;generalize hZ:s.body B (Db B) k=Z;have HZ:=hid hZ;clear hZ;obtain⟨s1,m,q⟩:=Z;dsimp only at*;go_enter Tryz.func178,Tryz.ntmps178;go_wp2_with fail;have hbw:Below w.heap.size w ((w.alloc (.cells #[.pointer (some ⟨g,0,none⟩)] 112)).alloc (.cells Acs 45)):=zA;have R0:Blk ((w.alloc (.cells #[.pointer (some ⟨g,0,none⟩)] 112)).alloc (.cells Acs 45)) (w.heap.size+1) 45 zeroCells:=zC;have P0:Blk ((w.alloc (.cells #[.pointer (some ⟨g,0,none⟩)] 112)).alloc (.cells Acs 45)) w.heap.size 112 #[.pointer (some ⟨g,0,none⟩)]:=zC;have HIN0:=hid (HIN.out.row hbw);have hsz:(((w.alloc (.cells #[.pointer (some ⟨g,0,none⟩)] 112)).alloc (.cells Acs 45))).heap.size=w.heap.size+2:=zN;have HBW:=hid hbw;clear hbw;generalize ((w.alloc (.cells #[.pointer (some ⟨g,0,none⟩)] 112)).alloc (.cells Acs 45))=W at*;have hU:Ch W g B a 249 #[.pointer (some ⟨w.heap.size,0,none⟩)] (Db B) (·=g) (fun V _=>Blk V w.heap.size 112 #[.pointer (some ⟨g,0,none⟩)]):={
  lt:=fun b e=>by omega
  own:=rfl
  st:=fun V V' q hv hs ht=>Blk.tch hv ht zD
  call:=fun V t q0 hV hX hs ht=>(UM V hV hB hX).mono fun r V' ⟨v,h1,h2,h3⟩=>⟨v,h1,h2,h3.1,h3.2,Blk.tch hX h3.2 zD⟩
  size:=SU
  dat:=HIN0.out.rd.dat
  bad:=fun t ht=>WR t ht
  ent:=fun xs V=>by go_simp}
 have hC:=O4 W HIN0.out.rd hB k _ _ _ _ _ hU P0;rw[HZ.out] at hC;dsimp only[DB] at hC;have HC:=hid hC;clear hU P0 hC;refine HC.out.mono ?_;rintro r w1 ⟨v1,v2,v3,v4,q1,rfl,hrows,hrd,ht,_,_⟩;have HRW:=hid hrows;obtain⟨h1,h2,h3,h4⟩:=hrows;obtain⟨a1,c1,hfv,_,_⟩:=AN h1;simp only[As,AM] at hfv;subst hfv;obtain⟨a2,c2,hfv,_,_⟩:=AN h2;simp only[As,AM] at hfv;subst hfv;obtain⟨a3,c3,hfv,_,_⟩:=AN h3;simp only[As,AM] at hfv;subst hfv;obtain⟨a4,c4,hfv,_,_⟩:=AN h4;simp only[As,AM] at hfv;subst hfv;have R1:=R0.tch ht zD;have hs1:=ht.size;have HIN1:=hid (HIN0.out.step ⟨hrd,ht⟩);obtain⟨x0,x1,x2,x3,x4,x5,x6,x7,x8,x9,x10,x11,x12,x13,l1⟩:=Cz R1;obtain⟨f0,f1,f2,f3,f4,f5,f6,f7,f8,f9,f10,f11,f12,f13⟩:=Gm R1;clear h1 h2 h3 h4 hrd ht R0;go_wp2_with fail;have hput:=La (W:=w1) (m:=m) (v1:=.slice a1 m.streams.length c1) (v2:=.slice a2 m.links.length c2) (v3:=.slice a3 m.data.length c3) (v4:=.slice a4 m.proj.stripes.length c4) (cs:=#[]) R1;refine Di (fun W=>Blk W (w.heap.size+1) 45 (DB m (.slice a1 m.streams.length c1) (.slice a2 m.links.length c2) (.slice a3 m.data.length c3) (.slice a4 m.proj.stripes.length c4))∧Tch (·=w.heap.size+1) w1 W) ⟨hput,Pb⟩ ?_;intro W5 ⟨q5,ht5⟩;obtain⟨n0,n1,n2,n3,n4,n5,n6,n7,n8,n9,n10,n11,n12,n13,ln⟩:=Cz q5;have hz5:=ht5.size;have hbF:Below w.heap.size w1 W5:=ht5.Cw zD fun b _ e=>by omega
 refine Al (v:=.agg Acq) (by simp[results,Tryz.results178,go_sem,n0,n1,n2,n3,n4,n5,n6,n7,n8,n9,n10,n11,n12,n13]) rfl ⟨_,_,_,_,rfl,XE (fun q hq=>ht5.block q hq.2 zY) (fun q hq=>⟨zY,ZP⟩) HRW.out,(HIN1.out.row hbF).to⟩
structure Rh(w W:World)(B:List UInt8)(a:Option Addr)(c:Nat)(s sf:Rs)(ge:Nat)(D:List UInt8)(aD:Option Addr)(cD:Nat):Prop where
 b0:Blk W w.heap.size 91 #[.slice a B.length c,.int .i64 (s.p:Int),.int .i64 s.k,.int .i64 s.f]
 b1:Blk W (w.heap.size+1) 91 #[.slice none 0 0,.int .i64 0,.int .i64 0,.int .i64 0]
 be:Blk W ge 91 #[.slice a B.length c,.int .i64 (sf.p:Int),.int .i64 sf.k,.int .i64 sf.f]
 lo:w.heap.size+1<ge
 dat:Ah.r (fun q=>ge<q∧q<W.heap.size) W [.slice aD D.length cD] D
 bel:Below w.heap.size w W
theorem Rh.later{V V':World}{sf:Rs}{ge:Nat}{aD:Option Addr}{cD:Nat}(h:Rh w V B a c s sf ge D aD cD)(hb:Below V.heap.size V V'):Rh w V' B a c s sf ge D aD cD:=
 ⟨h.b0.later hb,h.b1.later hb,h.be.later hb,h.lo,Ah.mono (Ah.keep h.dat fun q hq=>hb.block q hq.2) fun q hq=>⟨hq.1,Aj hq.2 hb.size⟩,Af hb h.bel⟩
theorem Rh.data{w V:World}{B:List UInt8}{a:Option Addr}{c:Nat}{s sf:Rs}{ge:Nat}{D':List UInt8}{aD aD':Option Addr}{cD cD':Nat}(h:Rh w V B a c s sf ge D aD cD)(hd:Ah.r (fun q=>ge<q∧q<V.heap.size) V [.slice aD' D'.length cD'] D'):Rh w V B a c s sf ge D' aD' cD':=
 ⟨h.b0,h.b1,h.be,h.lo,hd,h.bel⟩
theorem Rh.set{V:World}{sf:Rs}{ge:Nat}{aD:Option Addr}{cD:Nat}(h:Rh w V B a c s sf ge D aD cD)(t:Rs):
  Rh w ((((V.setCell ⟨ge,0,none⟩ (.slice a B.length c)).setCell ⟨ge,1,none⟩ (.int .i64 (t.p:Int))).setCell ⟨ge,2,none⟩ (.int .i64 t.k)).setCell ⟨ge,3,none⟩ (.int .i64 t.f)) B a c s t ge D aD cD:=by
 have hlo:=h.lo;refine⟨?_,?_,?_,hlo,?_,?_⟩
 ·exact Blk.far (Blk.far (Blk.far (Blk.far h.b0 zJ _) zJ _) zJ _) zJ _
 ·exact Blk.far (Blk.far (Blk.far (Blk.far h.b1 zJ _) zJ _) zJ _) zJ _
 ·exact Blk.set (Blk.set (Blk.set (Blk.set h.be 0 _) 1 _) 2 _) 3 _
 ·refine Ah.mono (Ah.keep h.dat fun q hq=> ?_) fun q hq=>⟨hq.1,by have:=hq.2;simp[World.setCell];omega⟩
  have hq1:=hq.1;repeat (rw[AB _ _ _ _ zJ])
 ·have hb:=h.bel
  (repeat (first | with_reducible exact Below.refl _ _ | with_reducible assumption | (with_reducible refine AH ?_ _) | (with_reducible refine Below.setCell ?_ zF _) | (with_reducible refine Below.drew ?_) | (with_reducible refine below_drewN ?_ _) | (refine Af zG ?_)))
structure W8(w:World)(B:List UInt8)(a:Option Addr)(c:Nat)(m:Msg)(v1 v2 v3 v4:Value)(s:Rs)(W:World):Prop where
 d:Blk W w.heap.size 91 #[.slice a B.length c,.int .i64 (s.p:Int),.int .i64 s.k,.int .i64 s.f]
 r6:Blk W (w.heap.size+1) 91 #[.slice none 0 0,.int .i64 0,.int .i64 0,.int .i64 0]
 r7:Blk W (w.heap.size+1+1) 45 zeroCells
 pm:Blk W (w.heap.size+1+1+1) 45 (DB m v1 v2 v3 v4)
 ok:s.ok B.length
 bel:Below w.heap.size w W
 low:w.heap.size+1+1+1+1≤W.heap.size
 st:Bb.r (fun b=>w.heap.size+1+1+1+1≤b∧b<W.heap.size) W [v1] m.streams
 ln:Cm.r (fun b=>w.heap.size+1+1+1+1≤b∧b<W.heap.size) W [v2] m.links
 da:Ah.r (fun b=>w.heap.size+1+1+1+1≤b∧b<W.heap.size) W [v3] m.data
 sp:Bq.r (fun b=>w.heap.size+1+1+1+1≤b∧b<W.heap.size) W [v4] m.proj.stripes
theorem W8.later(h:W8 w B a c m v1 v2 v3 v4 s W)(hb:Below W.heap.size W W'):W8 w B a c m v1 v2 v3 v4 s W':=by
 have hk:∀b,w.heap.size+1+1+1+1≤b∧b<W.heap.size→W'.heap[b]? =W.heap[b]? :=fun b hb'=>hb.block b hb'.2;have hm:∀b,w.heap.size+1+1+1+1≤b∧b<W.heap.size→w.heap.size+1+1+1+1≤b∧b<W'.heap.size:=fun b hb'=>⟨hb'.1,Aj hb'.2 hb.size⟩;exact⟨h.d.later hb,h.r6.later hb,h.r7.later hb,h.pm.later hb,h.ok,Af hb h.bel,A4 h.low hb.size,Bb.mono (Bb.keep h.st hk) hm,Cm.mono (Cm.keep h.ln hk) hm,Ah.mono (Ah.keep h.da hk) hm,Bq.mono (Bq.keep h.sp hk) hm⟩
theorem W8.M3{w:World}{B:List UInt8}{a:Option Addr}{c:Nat}{s:Rs}{W:World}(h:W8 w B a c m v1 v2 v3 v4 s W)(i:Nat)(u:Value){m':Msg}{v1' v2' v3' v4':Value}(hc:(DB m v1 v2 v3 v4).setIfInBounds i u=DB m' v1' v2' v3' v4')
 (h1:Bb.r (fun b=>w.heap.size+1+1+1+1≤b∧b<W.heap.size) W [v1'] m'.streams) (h2:Cm.r (fun b=>w.heap.size+1+1+1+1≤b∧b<W.heap.size) W [v2'] m'.links) (h3:Ah.r (fun b=>w.heap.size+1+1+1+1≤b∧b<W.heap.size) W [v3'] m'.data) (h4:Bq.r (fun b=>w.heap.size+1+1+1+1≤b∧b<W.heap.size) W [v4'] m'.proj.stripes):W8 w B a c m' v1' v2' v3' v4' s (W.setCell ⟨w.heap.size+1+1+1,i,none⟩ u):=by
 have hz:(W.setCell ⟨w.heap.size+1+1+1,i,none⟩ u).heap.size=W.heap.size:=size_set _ _ _;have hk:∀b,w.heap.size+1+1+1+1≤b∧b<W.heap.size→(W.setCell ⟨w.heap.size+1+1+1,i,none⟩ u).heap[b]? =W.heap[b]? :=fun b hb=>AB _ _ _ _ zB2;have hm:∀b,w.heap.size+1+1+1+1≤b∧b<W.heap.size→w.heap.size+1+1+1+1≤b∧b<(W.setCell ⟨w.heap.size+1+1+1,i,none⟩ u).heap.size:=fun b hb=>⟨hb.1,by rw[hz];exact hb.2⟩;refine⟨Blk.far h.d zJ _,Blk.far h.r6 zJ _,Blk.far h.r7 zJ _,?_,h.ok,h.bel.setCell zJ _,by rw[hz];exact h.low,Bb.mono (Bb.keep h1 hk) hm,Cm.mono (Cm.keep h2 hk) hm,Ah.mono (Ah.keep h3 hk) hm,Bq.mono (Bq.keep h4 hk) hm⟩;rw[←hc];exact h.pm.set i u
def Rs.fin(L:Nat)(s:Rs):Rs:=if s.p<L then s.fail 9 s.p else s
theorem Abn(w:World){g:Nat}{B:List UInt8}{a:Option Addr}{s:Rs}(h:A6 w g B a s):Calls Tryz.prog 203 #[.pointer (some ⟨g,0,none⟩)] w fun r w'=>r=.returned (.tuple #[])∧AG w g B a (s.fin B.length) w':=by
 have HLF:=hid (Nc w h);have HH:=hid h;have hln:=h.len;have hle:=h.ok.le;unfold Rs.fin;clear h;by_cases hp:s.p<B.length
 ·rw[Ai hp]
  have d1:decide ((0:Int)<(B.length:Int)-(s.p:Int))=true:=Ad zD;have d2:decide (s.p<B.length)=true:=Ad hp;clear hp;go_enter Tryz.func203,Tryz.ntmps203;go_wp2_with fail;refine HLF.out.mono ?_;rintro r w1 ⟨rfl,hb1⟩;have HH1:=hid (HH.out.later hb1);have x1:=HH1.out.blk.cell 1;simp at x1;go_wp2_with fail;refine (BP w1 HH1.out 9 (s.p:Int) zD).mono ?_;rintro r w2 ⟨rfl,hst⟩;have HST:=hid (AG.trans (s':=s.fail 9 s.p) (Tch.Cx (F:=(·=g)) hb1) hst);clear hst x1;go_wp2;first | go_end0 | refine Al (Ax rfl _ _ _) rfl ?_
  exact⟨rfl,HST.out⟩
 ·rw[Ak hp]
  have d1:decide ((0:Int)<(B.length:Int)-(s.p:Int))=false:=Ae zD;have d2:decide (s.p<B.length)=false:=Ae hp;clear hp;go_enter Tryz.func203,Tryz.ntmps203;go_wp2_with fail;refine HLF.out.mono ?_;rintro r w1 ⟨rfl,hb1⟩;have HST:=hid (AG.later HH.out hb1);go_wp2;first | go_end0 | refine Al (Ax rfl _ _ _) rfl ?_
  exact⟨rfl,HST.out⟩
theorem Rs.T6{most:Int}(h:(s.loose B most).1.k≠0):(s.loose B most).2.1=[]∧(s.loose B most).2.2=false:=by
 unfold Rs.loose at*;by_cases h1:((s.int B (min most 1048576)).1.byte B).1.k=0
 ·rw[Ai h1] at h ⊢
  by_cases h2:((s.int B (min most 1048576)).1.byte B).2.toNat=0
  ·rw[Ai h2] at h ⊢
   by_cases h3:(((s.int B (min most 1048576)).1.byte B).1.take B ((s.int B (min most 1048576)).2:Int)).1.k=0
   ·rw[Ai h3] at h;exact absurd h3 h
   ·rw[Ak h3];exact⟨rfl,rfl⟩
  ·rw[Ak h2] at h ⊢
   by_cases h4:((s.int B (min most 1048576)).1.byte B).2.toNat=1
   ·rw[Ai h4] at h ⊢
    by_cases h3:(((s.int B (min most 1048576)).1.byte B).1.unp B (s.int B (min most 1048576)).2).1.k=0
    ·rw[Ai h3] at h;exact absurd h3 h
    ·rw[Ak h3];exact⟨rfl,rfl⟩
   ·rw[Ak h4];exact⟨rfl,rfl⟩
 ·rw[Ak h1];exact⟨rfl,rfl⟩
theorem Rs.Oc{m:Int}(h:(s.loose B m).2.2=true):Bk (s.loose B m).2.1=(B.drop s.p).take ((s.loose B m).1.p-s.p):=by
 unfold Rs.loose at*;by_cases h1:((s.int B (min m 1048576)).1.byte B).1.k=0
 ·simp only[Ai h1] at h ⊢
  by_cases h2:((s.int B (min m 1048576)).1.byte B).2.toNat=0
  ·simp only[Ai h2] at h ⊢
   by_cases h3:(((s.int B (min m 1048576)).1.byte B).1.take B ((s.int B (min m 1048576)).2:Int)).1.k=0
   ·simp only[Ai h3] at h ⊢
    exact Bc h
   ·simp only[Ak h3] at h;cases h
  ·simp only[Ak h2] at h ⊢
   by_cases h4:((s.int B (min m 1048576)).1.byte B).2.toNat=1
   ·simp only[Ai h4] at h ⊢
    by_cases h3:(((s.int B (min m 1048576)).1.byte B).1.unp B (s.int B (min m 1048576)).2).1.k=0
    ·simp only[Ai h3] at h ⊢
     exact Bc h
    ·simp only[Ak h3] at h;cases h
   ·simp only[Ak h4] at h;cases h
 ·simp only[Ak h1] at h;cases h
theorem VD(t:Rs):((Db B t).1=(F8 B t).1∧(Db B t).2.1=(F8 B t).2.1∧((F8 B t).1.k=0→(F8 B t).2.2=true))∨((Db B t).1.k=12∧(F8 B t).1.k=0∧(F8 B t).2.2=false):=by
 have hb:=Rs.T6 (B:=B) (s:=t) (most:=1048576);unfold Db F8 Rs.strict;generalize t.loose B 1048576=L at*;obtain⟨s,D,q⟩:=L;dsimp only at*;by_cases h:s.k=0
 ·rw[Ai h]
  cases q
  ·right
   refine⟨?_,h,rfl⟩;simp[Rs.fail,h]
  ·left
   simp
 ·rw[Ak h]
  left;exact⟨rfl,(hb h).1.symm,fun e=>absurd e h⟩
theorem AbN(t:Rs)(h:(Db B t).1.k=0):t.k=0:=by
 by_cases hk:t.k=0
 ·exact hk
 ·have:(Db B t).1=t:=by
   unfold Db;rw[Rs.I9 hk];unfold Rs.strict;rw[Ak hk]
  rw[this] at h;exact h
theorem AbO(t:Rs)(h:(F8 B t).1.k=0):t.k=0:=by
 by_cases hk:t.k=0
 ·exact hk
 ·unfold F8 at h
  rw[Rs.I9 hk] at h;exact h
theorem Si(w:World)(B:List UInt8)(a:Option Addr)(n c:Nat)(hl:Ah.r (·<w.heap.size) w [.slice a n c] B)(hB:B.length≤1000000000):
  Calls Tryz.prog 55 #[.slice a n c] w fun r w'=>∃q:Bool,r=.returned (.bool q)∧w=w':=by
 obtain⟨rfl,hm,_,_⟩:=AT hl;have HL:=hid hl;clear hl;go_enter Tryz.func55,Tryz.ntmps55;go_wp2;go_loop [3] (fun i=>∃k:Nat,k≤B.length∧i=.int .i64 k) (fun i=>B.length+1-(intOf i).toNat)
 case atStart=>exact ⟨0,Am _,rfl⟩
 case round=>
  obtain⟨k,hk,rfl⟩:=hrel;by_cases h1:k+1<B.length
  ·obtain⟨b1,o1,hA1,hb1,hx1⟩:=Cs HL.out (i:=k) zD
   obtain⟨b2,o2,hA2,hb2,hx2⟩:=Cs HL.out (i:=k+1) h1;subst hA1;simp only[Bd,CZ,AM] at hA2;obtain⟨rfl,rfl⟩:=hA2;have e1:decide ((k:Int)+1<(B.length:Int))=true:=Ad zD;have i1:(k:Int)<(B.length:Int):=zD;have i2:(k:Int)+1<(B.length:Int):=zD;generalize B[k].toNat=x at*;generalize B[k+1].toNat=y at*;by_cases c1:128≤x
   ·have d1:decide ((128:Int)≤(x:Int))=true:=Ad zD
    have d1':decide (128≤x)=true:=Ad c1;by_cases c2:3≤y
    ·have d2:decide ((3:Int)≤(y:Int))=true:=Ad zD
     have d2':decide (3≤y)=true:=Ad c2;go_wp2;go_ret;first | exact⟨.inl rfl,rfl⟩ | exact⟨.inr rfl,rfl⟩
    ·have d2:decide ((3:Int)≤(y:Int))=false:=Ae zD
     have d2':decide (3≤y)=false:=Ae c2;go_wp2;go_round
     case rel=>exact ⟨k+1,zD,zV⟩
     case measure=>simp [intOf];omega
   ·have d1:decide ((128:Int)≤(x:Int))=false:=Ae zD
    have d1':decide (128≤x)=false:=Ae c1;go_wp2;go_round
    case rel=>exact ⟨k+1,zD,zV⟩
    case measure=>simp [intOf];omega
  ·have e1:decide ((k:Int)+1<(B.length:Int))=false:=Ae zD
   go_wp2;go_ret;first | exact⟨.inl rfl,rfl⟩ | exact⟨.inr rfl,rfl⟩
set_option maxHeartbeats 12800000 in
theorem Ty(m o:Msg)(a1:Option Addr)(c1:Nat)(a2:Option Addr)(c2:Nat)(a3:Option Addr)(c3:Nat)(a4:Option Addr)(c4:Nat)(b1:Option Addr)(d1:Nat)(b2:Option Addr)(d2:Nat)(b3:Option Addr)(d3:Nat)(b4:Option Addr)(d4:Nat)(w:World)(hm:A9 (·<w.heap.size) w m a1 c1 a2 c2 a3 c3 a4 c4)(ho:A9 (·<w.heap.size) w o b1 d1 b2 d2 b3 d3 b4 d4):
  Calls Tryz.prog 60 #[.agg Acq,.agg #[.int .i64 o.kind,.int .u64 o.epoch,.int .u64 o.seq,.int .u64 o.pos,.int .i64 o.count,.int .i64 o.state,.slice b1 o.streams.length d1,.slice b2 o.links.length d2,.slice b3 o.data.length d3,.int .u64 o.sea.epoch,.int .u64 o.sea.node,.int .u64 o.sea.tail,.int .u64 o.proj.epoch,.slice b4 o.proj.stripes.length d4]] w fun r w'=>r=.returned (.bool (decide (m=o)))∧Below w.heap.size w w':=by
 have E1:=hid (fun (W:World) (hW:Below w.heap.size w W)=>LI m.streams o.streams a1 b1 _ c1 _ d1 W (lift hm.streams hW) (lift ho.streams hW));have E2:=hid (fun (W:World) (hW:Below w.heap.size w W)=>Tz m.links o.links a2 b2 _ c2 _ d2 W (lift hm.links hW) (lift ho.links hW));have E3:=hid (fun (W:World) (hW:Below w.heap.size w W)=>NP m.data o.data a3 b3 _ _ _ _ W (lift hm.data hW) (lift ho.data hW));have E4:=hid (fun (W:World) (hW:Below w.heap.size w W)=>TA m.proj o.proj a4 b4 _ c4 _ d4 W (lift hm.stripes hW) (lift ho.stripes hW));obtain⟨kk,ep,sq,po,cn,st,SS,LS,DD,⟨se,sn,tl⟩,⟨pe,PL⟩⟩:=m;obtain⟨kko,epo,sqo,poo,cno,sto,SSo,LSo,DDo,⟨seo,sno,tlo⟩,⟨peo,PLo⟩⟩:=o;dsimp only at*;clear hm ho;have hb0:Below w.heap.size w ((w.alloc (.cells Acx 45)).alloc (.cells AcB 45)):=zB;have HBX:Hid (Blk ((w.alloc (.cells Acx 45)).alloc (.cells AcB 45)) w.heap.size 45 Acx):=hid ((Blk.new w _ _).alloc _);have HBY:Hid (Blk ((w.alloc (.cells Acx 45)).alloc (.cells AcB 45)) (w.heap.size+1) 45 AcB):=hid (Blk.Ab8 w _ _ _);by_cases h0:kk=kko
 ·have e0:(kk !=kko)=false:=by simp[h0]
  by_cases h1:ep=epo
  ·have e1:(ep !=epo)=false:=by simp[h1]
   by_cases h2:sq=sqo
   ·have e2:(sq !=sqo)=false:=by simp[h2]
    by_cases h3:po=poo
    ·have e3:(po !=poo)=false:=by simp[h3]
     by_cases h4:cn=cno
     ·have e4:(cn !=cno)=false:=by simp[h4]
      by_cases h5:st=sto
      ·have e5:(st !=sto)=false:=by simp[h5]
       by_cases h6:se=seo
       ·have e6:(se==seo)=true:=by simp[h6]
        by_cases h7:sn=sno
        ·have e7:(sn==sno)=true:=by simp[h7]
         by_cases h8:tl=tlo
         ·have e8:(tl==tlo)=true:=by simp[h8]
          have hfull:Hid (decide ((⟨kk,ep,sq,po,cn,st,SS,LS,DD,⟨se,sn,tl⟩,⟨pe,PL⟩⟩:Msg)=⟨kko,epo,sqo,poo,cno,sto,SSo,LSo,DDo,⟨seo,sno,tlo⟩,⟨peo,PLo⟩⟩)=(decide (SS=SSo)&&(decide (LS=LSo)&&(decide (DD=DDo)&&decide ((⟨pe,PL⟩:EZ)=⟨peo,PLo⟩))))):=hid (by rw[H5];simp[h0,h1,h2,h3,h4,h5,h6,h7,h8]);clear h0 h1 h2 h3 h4 h5 h6 h7 h8;generalize decide ((⟨kk,ep,sq,po,cn,st,SS,LS,DD,⟨se,sn,tl⟩,⟨pe,PL⟩⟩:Msg)=⟨kko,epo,sqo,poo,cno,sto,SSo,LSo,DDo,⟨seo,sno,tlo⟩,⟨peo,PLo⟩⟩)=RR at*;generalize decide (SS=SSo)=Q1 at*;generalize decide (LS=LSo)=Q2 at*;generalize decide (DD=DDo)=Q3 at*;generalize decide ((⟨pe,PL⟩:EZ)=⟨peo,PLo⟩)=Q4 at*;go_enter IJ,G7;go_wp2_with fail;generalize ((w.alloc (.cells Acx 45)).alloc (.cells AcB 45))=w0 at*;refine (E1.out _ hb0).mono ?_;rintro r w1 ⟨rfl,hb1⟩;have hb01:=Af hb1 hb0;have X1:=HBX.out.later hb1;have Y1:=HBY.out.later hb1;cases Q1
          ·have hfin:Hid (RR=false):=hid zB6
           go_wp2_with fail;go_ret;exact⟨ZC,hb01⟩
          ·have px7:w1.cell? ⟨w.heap.size,7,none⟩=some (.slice a2 LS.length c2):=X1.cell 7
           have py7:w1.cell? ⟨w.heap.size+1,7,none⟩=some (.slice b2 LSo.length d2):=Y1.cell 7;go_wp2_with fail;refine (E2.out _ hb01).mono ?_;rintro r w2 ⟨rfl,hb2⟩;have hb02:=Af hb2 hb01;have X2:=X1.later hb2;have Y2:=Y1.later hb2;clear px7 py7;cases Q2
           ·have hfin:Hid (RR=false):=hid zB6
            go_wp2_with fail;go_ret;exact⟨ZC,hb02⟩
           ·have qx8:w2.cell? ⟨w.heap.size,8,none⟩=some (.slice a3 DD.length c3):=X2.cell 8
            have qy8:w2.cell? ⟨w.heap.size+1,8,none⟩=some (.slice b3 DDo.length d3):=Y2.cell 8;go_wp2_with fail;refine (E3.out _ hb02).mono ?_;rintro r w3 ⟨rfl,rfl⟩;cases Q3
            ·have hfin:Hid (RR=false):=hid zB6
             go_wp2_with fail;go_ret;exact⟨ZC,hb02⟩
            ·have hfin:Hid (RR=Q4):=hid zB6
             have rx12:w2.cell? ⟨w.heap.size,12,none⟩=some (.int .u64 pe):=X2.cell 12;have ry12:w2.cell? ⟨w.heap.size+1,12,none⟩=some (.int .u64 peo):=Y2.cell 12;have rx13:w2.cell? ⟨w.heap.size,13,none⟩=some (.slice a4 PL.length c4):=X2.cell 13;have ry13:w2.cell? ⟨w.heap.size+1,13,none⟩=some (.slice b4 PLo.length d4):=Y2.cell 13;go_wp2_with fail;refine (E4.out _ hb02).mono ?_;rintro r w4 ⟨rfl,hb4⟩;have hb04:=Af hb4 hb02;go_wp2_with fail;go_ret;exact⟨ZC,hb04⟩
         ·have e8:(tl==tlo)=false:=by simpa using h8
          have hfin:Hid (decide ((⟨kk,ep,sq,po,cn,st,SS,LS,DD,⟨se,sn,tl⟩,⟨pe,PL⟩⟩:Msg)=⟨kko,epo,sqo,poo,cno,sto,SSo,LSo,DDo,⟨seo,sno,tlo⟩,⟨peo,PLo⟩⟩)=false):=hid (by simp[h0,h1,h2,h3,h4,h5,h6,h7,h8]);clear h0 h1 h2 h3 h4 h5 h6 h7 h8;go_enter IJ,G7;go_wp2_with fail;go_ret;exact⟨ZC,hb0⟩
        ·have e7:(sn==sno)=false:=by simpa using h7
         have hfin:Hid (decide ((⟨kk,ep,sq,po,cn,st,SS,LS,DD,⟨se,sn,tl⟩,⟨pe,PL⟩⟩:Msg)=⟨kko,epo,sqo,poo,cno,sto,SSo,LSo,DDo,⟨seo,sno,tlo⟩,⟨peo,PLo⟩⟩)=false):=hid (by simp[h0,h1,h2,h3,h4,h5,h6,h7]);clear h0 h1 h2 h3 h4 h5 h6 h7;go_enter IJ,G7;go_wp2_with fail;go_ret;exact⟨ZC,hb0⟩
       ·have e6:(se==seo)=false:=by simpa using h6
        have hfin:Hid (decide ((⟨kk,ep,sq,po,cn,st,SS,LS,DD,⟨se,sn,tl⟩,⟨pe,PL⟩⟩:Msg)=⟨kko,epo,sqo,poo,cno,sto,SSo,LSo,DDo,⟨seo,sno,tlo⟩,⟨peo,PLo⟩⟩)=false):=hid (by simp[h0,h1,h2,h3,h4,h5,h6]);clear h0 h1 h2 h3 h4 h5 h6;go_enter IJ,G7;go_wp2_with fail;go_ret;exact⟨ZC,hb0⟩
      ·have e5:(st !=sto)=true:=by simpa using h5
       have hfin:Hid (decide ((⟨kk,ep,sq,po,cn,st,SS,LS,DD,⟨se,sn,tl⟩,⟨pe,PL⟩⟩:Msg)=⟨kko,epo,sqo,poo,cno,sto,SSo,LSo,DDo,⟨seo,sno,tlo⟩,⟨peo,PLo⟩⟩)=false):=hid (by simp[h0,h1,h2,h3,h4,h5]);clear h0 h1 h2 h3 h4 h5;go_enter IJ,G7;go_wp2_with fail;go_ret;exact⟨ZC,hb0⟩
     ·have e4:(cn !=cno)=true:=by simpa using h4
      have hfin:Hid (decide ((⟨kk,ep,sq,po,cn,st,SS,LS,DD,⟨se,sn,tl⟩,⟨pe,PL⟩⟩:Msg)=⟨kko,epo,sqo,poo,cno,sto,SSo,LSo,DDo,⟨seo,sno,tlo⟩,⟨peo,PLo⟩⟩)=false):=hid (by simp[h0,h1,h2,h3,h4]);clear h0 h1 h2 h3 h4;go_enter IJ,G7;go_wp2_with fail;go_ret;exact⟨ZC,hb0⟩
    ·have e3:(po !=poo)=true:=by simpa using h3
     have hfin:Hid (decide ((⟨kk,ep,sq,po,cn,st,SS,LS,DD,⟨se,sn,tl⟩,⟨pe,PL⟩⟩:Msg)=⟨kko,epo,sqo,poo,cno,sto,SSo,LSo,DDo,⟨seo,sno,tlo⟩,⟨peo,PLo⟩⟩)=false):=hid (by simp[h0,h1,h2,h3]);clear h0 h1 h2 h3;go_enter IJ,G7;go_wp2_with fail;go_ret;exact⟨ZC,hb0⟩
   ·have e2:(sq !=sqo)=true:=by simpa using h2
    have hfin:Hid (decide ((⟨kk,ep,sq,po,cn,st,SS,LS,DD,⟨se,sn,tl⟩,⟨pe,PL⟩⟩:Msg)=⟨kko,epo,sqo,poo,cno,sto,SSo,LSo,DDo,⟨seo,sno,tlo⟩,⟨peo,PLo⟩⟩)=false):=hid (by simp[h0,h1,h2]);clear h0 h1 h2;go_enter IJ,G7;go_wp2_with fail;go_ret;exact⟨ZC,hb0⟩
  ·have e1:(ep !=epo)=true:=by simpa using h1
   have hfin:Hid (decide ((⟨kk,ep,sq,po,cn,st,SS,LS,DD,⟨se,sn,tl⟩,⟨pe,PL⟩⟩:Msg)=⟨kko,epo,sqo,poo,cno,sto,SSo,LSo,DDo,⟨seo,sno,tlo⟩,⟨peo,PLo⟩⟩)=false):=hid (by simp[h0,h1]);clear h0 h1;go_enter IJ,G7;go_wp2_with fail;go_ret;exact⟨ZC,hb0⟩
 ·have e0:(kk !=kko)=true:=by simpa using h0
  have hfin:Hid (decide ((⟨kk,ep,sq,po,cn,st,SS,LS,DD,⟨se,sn,tl⟩,⟨pe,PL⟩⟩:Msg)=⟨kko,epo,sqo,poo,cno,sto,SSo,LSo,DDo,⟨seo,sno,tlo⟩,⟨peo,PLo⟩⟩)=false):=hid (by simp[h0]);clear h0;go_enter IJ,G7;go_wp2_with fail;go_ret;exact⟨ZC,hb0⟩
theorem Hp{α:Type}{f:Rs→Rs × α}{z:α}{P:α→Prop}(h1:P (f s).2)(h2:P z):P (Rs.part h s f z).2:=by
 cases h
 ·exact h2
 ·exact h1
theorem Rs.AaR:inU ((s.ep B).2:Int):=by
 have:=Rs.DL (B:=B) (s:=s);unfold Rs.ep inU;split
 ·split
  ·omega
  ·simp
 ·simp
theorem Rs.Abz{m:Nat}:inU ((s.most B m).2:Int):=by
 have:=Rs.DL (B:=B) (s:=s);unfold Rs.most inU;split
 ·simp
 ·omega
theorem Rs.Ack:inU ((s.tl B).2:Int):=by
 have:=Rs.DL (B:=B) (s:=s);unfold Rs.tl inU;split
 ·split
  ·omega
  ·simp
 ·simp
theorem Cr:inU 0:=⟨Int.le_refl _,zO⟩
theorem JK:inI 0:=⟨zO,zO⟩
theorem Rs.Tr:inU (s.seal_ B).2.epoch∧inU (s.seal_ B).2.node∧inU (s.seal_ B).2.tail:=by
 unfold Rs.seal_;dsimp only;split
 ·exact⟨Rs.AaR,Rs.Abz,Rs.Ack⟩
 ·exact⟨Cr,Cr,Cr⟩
theorem Rs.Abo:inU (s.Ds B).2.epoch:=by
 unfold Rs.Ds;dsimp only;split<;>split
 ·exact Rs.AaR
 ·exact Cr
 ·exact Rs.AaR
 ·exact Cr
theorem Rs.Ace:inI (s.cnt B).2:=by
 have h2:(s.many B 65536).2≤65536:=Rs.I7 (m:=65536);unfold Rs.cnt inI;dsimp only;omega
theorem Rs.Ab0:inI (s.stt B k).2:=by
 have h2:(s.byte B).2.toNat<256:=(s.byte B).2.toNat_lt;unfold Rs.stt inI;dsimp only;omega
structure U4(m:Msg):Prop where
 kind:inI m.kind
 epoch:inU m.epoch
 seq:inU m.seq
 pos:inU m.pos
 count:inI m.count
 state:inI m.state
 sealE:inU m.sea.epoch
 sealN:inU m.sea.node
 sealT:inU m.sea.tail
 projE:inU m.proj.epoch
theorem U4.none:U4 El:=⟨JK,Cr,Cr,Cr,JK,JK,Cr,Cr,Cr,Cr⟩
theorem WN{blk:Rs→Rs × List UInt8 × Bool}(hk:inI k):U4 (s.body B blk k).2.1:=by
 unfold Rs.body Rs.ahead;split
 ·dsimp only
  split
  ·exact⟨hk,Cr,Cr,Hp (P:=inU) Rs.Aa6 Cr,Hp (P:=inI) Rs.Ace JK,Hp (P:=inI) Rs.Ab0 JK,(Hp (P:=fun z:Jj=>inU z.epoch) Rs.Tr.1 Cr),(Hp (P:=fun z:Jj=>inU z.node) Rs.Tr.2.1 Cr),(Hp (P:=fun z:Jj=>inU z.tail) Rs.Tr.2.2 Cr),(Hp (P:=fun z:EZ=>inU z.epoch) Rs.Abo Cr)⟩
  ·exact U4.none
 ·exact U4.none
theorem U4.to(h:U4 m){S:Nat→Prop}{W:World}{a1:Option Addr}{c1:Nat}{a2:Option Addr}{c2:Nat}{a3:Option Addr}{c3:Nat}{a4:Option Addr}{c4:Nat}(h1:Bb.r S W [.slice a1 m.streams.length c1] m.streams)(h2:Cm.r S W [.slice a2 m.links.length c2] m.links)(h3:Ah.r S W [.slice a3 m.data.length c3] m.data)(h4:Bq.r S W [.slice a4 m.proj.stripes.length c4] m.proj.stripes):
  A9 S W m a1 c1 a2 c2 a3 c3 a4 c4:=⟨h.kind,h.epoch,h.seq,h.pos,h.count,h.state,h.sealE,h.sealN,h.sealT,h.projE,h1,h2,h3,h4⟩
theorem Acf(w:World){g:Nat}{B:List UInt8}{a:Option Addr}{s1:Rs}{m:Msg}{q:Bool}(h:A6 w g B a s)(hB:B.length≤1000000000)(k:Int)(hk:inI k)(hZ:s.body B (Db B) k=(s1,m,q)):
  Calls Tryz.prog 178 #[.pointer (some ⟨g,0,none⟩),.int .i64 k] w fun r w'=>∃a1 a1' a2 a2' a3 a3' a4 a4',r=.returned (.agg #[.int .i64 m.kind,.int .u64 m.epoch,.int .u64 m.seq,.int .u64 m.pos,.int .i64 m.count,.int .i64 m.state,.slice a1 m.streams.length a1',.slice a2 m.links.length a2',.slice a3 m.data.length a3',.int .u64 m.sea.epoch,.int .u64 m.sea.node,.int .u64 m.sea.tail,.int .u64 m.proj.epoch,.slice a4 m.proj.stripes.length a4'])∧A9 (fun q=>w.heap.size≤q∧q<w'.heap.size) w' m a1 a1' a2 a2' a3 a3' a4 a4'∧AG w g B a s1 w':=by
 have hC:=UL w h hB k;have hN:=WN (B:=B) (blk:=Db B) (s:=s) hk;rw[hZ] at hC hN;refine hC.mono ?_;rintro r w' ⟨v1,v2,v3,v4,rfl,⟨h1,h2,h3,h4⟩,hst⟩;obtain⟨a1,a1',hfv,_,_⟩:=AN h1;simp only[As,AM] at hfv;subst hfv;obtain⟨a2,a2',hfv,_,_⟩:=AN h2;simp only[As,AM] at hfv;subst hfv;obtain⟨a3,a3',hfv,_,_⟩:=AN h3;simp only[As,AM] at hfv;subst hfv;obtain⟨a4,a4',hfv,_,_⟩:=AN h4;simp only[As,AM] at hfv;subst hfv;exact⟨a1,a1',a2,a2',a3,a3',a4,a4',rfl,hN.to h1 h2 h3 h4,hst⟩
theorem Yj(m:Msg)(W:World)(a1 a2 a3 a4 b1 b2 b3 b4:Option Addr)(a1' a2' a3' a4' b1' b2' b3' b4':Nat)(h1:A9 (·<W.heap.size) W m a1 a1' a2 a2' a3 a3' a4 a4')(h2:A9 (·<W.heap.size) W m b1 b1' b2 b2' b3 b3' b4 b4'):
  Calls Tryz.prog 60 #[.agg Acr,.agg #[.int .i64 m.kind,.int .u64 m.epoch,.int .u64 m.seq,.int .u64 m.pos,.int .i64 m.count,.int .i64 m.state,.slice b1 m.streams.length b1',.slice b2 m.links.length b2',.slice b3 m.data.length b3',.int .u64 m.sea.epoch,.int .u64 m.sea.node,.int .u64 m.sea.tail,.int .u64 m.proj.epoch,.slice b4 m.proj.stripes.length b4']] W fun r w'=>r=.returned (.bool true)∧Below W.heap.size W w':=by
 have:=Ty m m a1 a1' a2 a2' a3 a3' a4 a4' b1 b1' b2 b2' b3 b3' b4 b4' W h1 h2;simp only[decide_true] at this;exact this
theorem A9.EM{S':Nat→Prop}(h:A9 S w m a1 c1 a2 c2 a3 c3 a4 c4)(hk:∀q,S q→w'.heap[q]? =w.heap[q]?)(hs:∀q,S q→S' q):A9 S' w' m a1 c1 a2 c2 a3 c3 a4 c4:=
 A9.tr (fun A cs x hx=>A.mono (A.keep hx hk) hs) h
theorem Tu(w:World){g:Nat}{B:List UInt8}{a:Option Addr}{s1:Rs}{m:Msg}{q:Bool}(h:A6 w g B a s)(hB:B.length≤1000000000)(k:Int)(hk:inI k)(hZ:s.body B (Db B) k=(s1,m,q)):
  Calls Tryz.prog 116 #[.pointer (some ⟨g,0,none⟩),.int .i64 k] w fun r w'=>∃a1 a1' a2 a2' a3 a3' a4 a4',r=.returned (.tuple #[.agg #[.int .i64 m.kind,.int .u64 m.epoch,.int .u64 m.seq,.int .u64 m.pos,.int .i64 m.count,.int .i64 m.state,.slice a1 m.streams.length a1',.slice a2 m.links.length a2',.slice a3 m.data.length a3',.int .u64 m.sea.epoch,.int .u64 m.sea.node,.int .u64 m.sea.tail,.int .u64 m.proj.epoch,.slice a4 m.proj.stripes.length a4'],.bool (decide (s1.k=0))])∧A9 (fun q=>w.heap.size≤q∧q<w'.heap.size) w' m a1 a1' a2 a2' a3 a3' a4 a4'∧AG w g B a s1 w':=by
 have hlt:=h.blk.lt;have HIN:=hid (DC.refl h);have HC:=hid (fun (W:World) (hW:A6 W g B a s)=>Acf W hW hB k hk hZ);obtain⟨G,hG⟩:∃G,G=decide (s1.k=0):=⟨_,rfl⟩;have HGG:=hid (fun (V:World) (hV:A6 V g B a s1)=>(by have:=AL V hV;rw[←hG] at this;exact this:Calls Tryz.prog 112 #[.pointer (some ⟨g,0,none⟩)] V fun r w'=>r=.returned (.bool G)∧Below V.heap.size V w'));rw[←hG];clear h hG hZ;have hb0:Below w.heap.size w (w.alloc (.cells Acs 45)):=zA;have R0:Blk (w.alloc (.cells Acs 45)) w.heap.size 45 zeroCells:=zC;have HIN0:=hid (HIN.out.row hb0);have hsz0:w.heap.size<((w.alloc (.cells Acs 45))).heap.size:=zN;go_enter Tryz.func116,Tryz.ntmps116;go_wp2_with fail;generalize (w.alloc (.cells Acs 45))=W at*;refine (HC.out W HIN0.out.rd).mono ?_;rintro r w1 ⟨a1,a1',a2,a2',a3,a3',a4,a4',rfl,hm1,hst1⟩;have R1:=R0.tch hst1.2 zD;have HIN1:=hid (HIN0.out.step hst1);have hz1:=hst1.2.size;have X1:=hid (A9.EM hm1 (fun q hq=>rfl) (fun q hq=>(⟨zY,hq.2⟩:w.heap.size<q∧q<w1.heap.size)));have lr:=R1.lt;clear hm1 hst1 R0 hb0;have SK:=hid (fun (w':World) (h0:Blk w' w1.heap.size 45 #[.int .i64 m.kind,.int .u64 m.epoch,.int .u64 m.seq,.int .u64 m.pos,.int .i64 m.count,.int .i64 m.state,.slice a1 m.streams.length a1',.slice a2 m.links.length a2',.slice a3 m.data.length a3',.int .u64 m.sea.epoch,.int .u64 m.sea.node,.int .u64 m.sea.tail,.int .u64 m.proj.epoch,.slice a4 m.proj.stripes.length a4'])=>(⟨h0.cell 0,h0.cell 1,h0.cell 2,h0.cell 3,h0.cell 4,h0.cell 5,h0.cell 6,h0.cell 7,h0.cell 8,h0.cell 9,h0.cell 10,h0.cell 11,h0.cell 12,h0.cell 13⟩:w'.cell? ⟨w1.heap.size,0,none⟩=some (.int .i64 m.kind)∧w'.cell? ⟨w1.heap.size,1,none⟩=some (.int .u64 m.epoch)∧w'.cell? ⟨w1.heap.size,2,none⟩=some (.int .u64 m.seq)∧w'.cell? ⟨w1.heap.size,3,none⟩=some (.int .u64 m.pos)∧w'.cell? ⟨w1.heap.size,4,none⟩=some (.int .i64 m.count)∧w'.cell? ⟨w1.heap.size,5,none⟩=some (.int .i64 m.state)∧w'.cell? ⟨w1.heap.size,6,none⟩=some (.slice a1 m.streams.length a1')∧w'.cell? ⟨w1.heap.size,7,none⟩=some (.slice a2 m.links.length a2')∧w'.cell? ⟨w1.heap.size,8,none⟩=some (.slice a3 m.data.length a3')∧w'.cell? ⟨w1.heap.size,9,none⟩=some (.int .u64 m.sea.epoch)∧w'.cell? ⟨w1.heap.size,10,none⟩=some (.int .u64 m.sea.node)∧w'.cell? ⟨w1.heap.size,11,none⟩=some (.int .u64 m.sea.tail)∧w'.cell? ⟨w1.heap.size,12,none⟩=some (.int .u64 m.proj.epoch)∧w'.cell? ⟨w1.heap.size,13,none⟩=some (.slice a4 m.proj.stripes.length a4')));have E2:Blk (w1.alloc (.cells Acr 45)) w1.heap.size 45 Acr:=Blk.newAt _ _ _ rfl;have R2:Blk (w1.alloc (.cells Acr 45)) w.heap.size 45 zeroCells:=R1.alloc _;have hb12:Below w1.heap.size w1 (w1.alloc (.cells Acr 45)):=zA;have HIN2:=hid (HIN1.out.row (hb12.mono zD));have X2:=hid (A9.EM X1.out (fun q hq=>hb12.block q hq.2) (fun q hq=>(⟨hq.1,Aj hq.2 hb12.size⟩:w.heap.size<q∧q<((w1.alloc (.cells #[.int .i64 m.kind,.int .u64 m.epoch,.int .u64 m.seq,.int .u64 m.pos,.int .i64 m.count,.int .i64 m.state,.slice a1 m.streams.length a1',.slice a2 m.links.length a2',.slice a3 m.data.length a3',.int .u64 m.sea.epoch,.int .u64 m.sea.node,.int .u64 m.sea.tail,.int .u64 m.proj.epoch,.slice a4 m.proj.stripes.length a4'] 45))).heap.size)));have HS2:=hid (SK.out (w1.alloc (.cells Acr 45)) E2);have hz2:w1.heap.size<((w1.alloc (.cells Acr 45))).heap.size:=zN;clear R1 hb12;go_wp2_with fail;generalize (w1.alloc (.cells Acr 45))=w2 at*;have HRD3:=hid (HIN2.out.rd.later (show Below w2.heap.size w2 w2.drew from (Below.refl _ _).drew));refine CJ (S:=fun w'=>w'.cell? ⟨w1.heap.size,0,none⟩=some (.int .i64 m.kind)∧w'.cell? ⟨w1.heap.size,1,none⟩=some (.int .u64 m.epoch)∧w'.cell? ⟨w1.heap.size,2,none⟩=some (.int .u64 m.seq)∧w'.cell? ⟨w1.heap.size,3,none⟩=some (.int .u64 m.pos)∧w'.cell? ⟨w1.heap.size,4,none⟩=some (.int .i64 m.count)∧w'.cell? ⟨w1.heap.size,5,none⟩=some (.int .i64 m.state)∧w'.cell? ⟨w1.heap.size,6,none⟩=some (.slice a1 m.streams.length a1')∧w'.cell? ⟨w1.heap.size,7,none⟩=some (.slice a2 m.links.length a2')∧w'.cell? ⟨w1.heap.size,8,none⟩=some (.slice a3 m.data.length a3')∧w'.cell? ⟨w1.heap.size,9,none⟩=some (.int .u64 m.sea.epoch)∧w'.cell? ⟨w1.heap.size,10,none⟩=some (.int .u64 m.sea.node)∧w'.cell? ⟨w1.heap.size,11,none⟩=some (.int .u64 m.sea.tail)∧w'.cell? ⟨w1.heap.size,12,none⟩=some (.int .u64 m.proj.epoch)∧w'.cell? ⟨w1.heap.size,13,none⟩=some (.slice a4 m.proj.stripes.length a4')) zI HS2.out (fun hHeld=> ?_);refine Ap (i:=0) (oi:=_) (v:=?_) rfl zE zE zE (fun _ _ _ h=>h) (Or.inl ⟨zS,?_⟩) zL ?_;rotate_left
 ·(intro w hSw;(try dsimp only at hSw);go_simp<;>with_reducible rfl)
 (try simp only[Act.put,Aa,Ab,Ac])
 refine Ap (i:=1) (oi:=_) (v:=?_) rfl zE zE zE (fun _ _ _ h=>h) (Or.inl ⟨zS,?_⟩) zL ?_;rotate_left
 ·(intro w hSw;(try dsimp only at hSw);go_simp<;>with_reducible rfl)
 (try simp only[Act.put,Aa,Ab,Ac])
 refine AU (rs:=[2]) zE zN ?_;refine AK (o:=_) rfl (fun K hK=> ?_) AllReadyH.nil
 (go_simp;go_at_call 112;refine (HGG.out _ HRD3.out).mono ?_;rintro e1 w7 ⟨rfl,hb7⟩;have E7:=E2.drew.later hb7;have R7:=R2.drew.later hb7;have HB7:=hid hb7;have hs7:w2.heap.size≤w7.heap.size:=hb7.size;obtain⟨x0,x1,x2,x3,x4,x5,x6,x7,x8,x9,x10,x11,x12,x13,l1⟩:=Cz R7;obtain⟨f0,f1,f2,f3,f4,f5,f6,f7,f8,f9,f10,f11,f12,f13⟩:=Gm R7;clear E2 R2 hb7;(try dsimp only))
 refine hK.out _ _ ?_ (fun hHeld=> ?_)
 ·exact SK.out _ zQ
 clear hK K
 (try simp only[Act.put,Aa,Ab,Ac])
 (try simp only[AA,Ay,Aw,Act.put,Aa,Ab,Ac])
 refine AU (rs:=[3]) zE zN ?_;refine AK (o:=_) rfl (fun K hK=> ?_) AllReadyH.nil;go_simp
 refine hK.out _ _ ?_ (fun hHeld=> ?_)
 ·exact SK.out _ zQ
 clear hK K
 (try simp only[Act.put,Aa,Ab,Ac])
 refine Ap (i:=4) (oi:=_) (v:=?_) rfl zE zE zE (fun _ _ _ h=>h) (Or.inl ⟨zS,?_⟩) zL ?_;rotate_left
 ·(intro w hSw;(try dsimp only at hSw);go_simp<;>with_reducible rfl)
 (try simp only[Act.put,Aa,Ab,Ac])
 (try simp only[AA,Ay,Aw,Act.put,Aa,Ab,Ac])
 refine CS zI ?_ _;go_wp2_with fail;have hput:=La (W:=w7) (m:=m) (v1:=.slice a1 m.streams.length a1') (v2:=.slice a2 m.links.length a2') (v3:=.slice a3 m.data.length a3') (v4:=.slice a4 m.proj.stripes.length a4') (cs:=#[]) R7;refine Di (fun W=>Blk W w.heap.size 45 (DB m (.slice a1 m.streams.length a1') (.slice a2 m.links.length a2') (.slice a3 m.data.length a3') (.slice a4 m.proj.stripes.length a4'))∧Tch (·=w.heap.size) w7 W) ⟨hput,Pb⟩ ?_;intro W5 ⟨q5,ht5⟩;obtain⟨n0,n1,n2,n3,n4,n5,n6,n7,n8,n9,n10,n11,n12,n13,ln⟩:=Cz q5;have hb27:Below w2.heap.size w2 w7:=((Below.refl _ _).drew:Below w2.heap.size w2 w2.drew).trans HB7.out;have hbF:Below w.heap.size w2 W5:=(hb27.mono zD).trans (ht5.Cw zD fun b _ e=>zD);have hz5:=ht5.size;refine Al (v:=.tuple #[.agg Acr,.bool G]) (by simp[results,Tryz.results116,go_sem,n0,n1,n2,n3,n4,n5,n6,n7,n8,n9,n10,n11,n12,n13]) rfl ⟨a1,a1',a2,a2',a3,a3',a4,a4',rfl,A9.EM X2.out (fun q hq=>(ht5.block q ZP zY).trans (hb27.block q hq.2)) (fun q hq=>⟨zY,ZP⟩),(HIN2.out.row hbF).to⟩
theorem JD:A9 S w El none 0 none 0 none 0 none 0:=
 ⟨⟨zO,zO⟩,Cr,Cr,Cr,⟨zO,zO⟩,⟨zO,zO⟩,Cr,Cr,Cr,Cr,Bt (xs:=[]) rfl (Am _) (Am _) (.inl rfl),Bt (xs:=[]) rfl (Am _) (Am _) (.inl rfl),Bt (xs:=[]) rfl (Am _) (Am _) (.inl rfl),Bt (xs:=[]) rfl (Am _) (Am _) (.inl rfl)⟩
structure AbR(B:List UInt8)(fn:Nat)(blk:Rs→Rs × List UInt8 × Bool)(fl:Rs→Bool→Bool):Prop where
 ent:∀(xs:Array Value) (W:World),(callFunc fn xs).run Tryz.prog W=.ok (.enter fn xs) W
 call:∀(w:World) (g:Nat) (a:Option Addr) (s s1:Rs) (m:Msg) (q:Bool) (k:Int),A6 w g B a s→inI k→s.body B blk k=(s1,m,q)→Calls Tryz.prog fn #[.pointer (some ⟨g,0,none⟩),.int .i64 k] w fun r w'=>∃a1 a1' a2 a2' a3 a3' a4 a4',r=.returned (.tuple #[.agg #[.int .i64 m.kind,.int .u64 m.epoch,.int .u64 m.seq,.int .u64 m.pos,.int .i64 m.count,.int .i64 m.state,.slice a1 m.streams.length a1',.slice a2 m.links.length a2',.slice a3 m.data.length a3',.int .u64 m.sea.epoch,.int .u64 m.sea.node,.int .u64 m.sea.tail,.int .u64 m.proj.epoch,.slice a4 m.proj.stripes.length a4'],.bool (fl s1 q)])∧A9 (fun q=>w.heap.size≤q∧q<w'.heap.size) w' m a1 a1' a2 a2' a3 a3' a4 a4'∧AG w g B a s1 w'
theorem TJ(hB:B.length≤1000000000):AbR B 116 (Db B) (fun s _=>decide (s.k=0)):=
 ⟨fun xs W=>by go_simp,fun w g a s s1 m q k h hk hZ=>Tu w h hB k hk hZ⟩
def Rs.kd(s:Rs)(y:Int):Rs:=if 1≤y∧y≤14 then s else s.fail 7 0
def ET(B:List UInt8)(blk:Rs→Rs × List UInt8 × Bool)(fl:Rs→Bool→Bool):Msg × Bool × Int × Int:=
 let u:=(⟨0,0,0⟩:Rs).byte B
 let e:=(u.1.kd (u.2.toNat:Int)).ep B
 let n:=e.1.num B
 if n.1.k=0 then
  let t:=n.1.body B blk (u.2.toNat:Int)
  let z:=t.1.fin B.length
  if z.k=0 then (⟨t.2.1.kind,(e.2:Int),(n.2:Int),t.2.1.pos,t.2.1.count,t.2.1.state,t.2.1.streams,t.2.1.links,t.2.1.data,t.2.1.sea,t.2.1.proj⟩,fl t.1 t.2.2,0,0) else (El,false,z.k,z.f)
 else (El,false,n.1.k,n.1.f)
theorem A9.put{e n:Int}(h:A9 S w m a1 c1 a2 c2 a3 c3 a4 c4)(he:inU e)(hn:inU n):A9 S w ⟨m.kind,e,n,m.pos,m.count,m.state,m.streams,m.links,m.data,m.sea,m.proj⟩ a1 c1 a2 c2 a3 c3 a4 c4:=
 ⟨h.kind,he,hn,h.pos,h.count,h.state,h.sealE,h.sealN,h.sealT,h.projE,h.streams,h.links,h.data,h.stripes⟩
structure Rg(w:World)(B:List UInt8)(a:Option Addr)(s:Rs)(W:World):Prop where
 rd:A6 W (w.heap.size+1+1) B a s
 mb:Blk W w.heap.size 45 zeroCells
 fb:Blk W (w.heap.size+1) 65 #[.int .i64 0,.int .i64 0]
 bl:Below w.heap.size w W
section
variable {w W W':World} {B:List UInt8} {a:Option Addr} {s s':Rs}
theorem Rg.step(h:Rg w B a s W)(k:AG W (w.heap.size+1+1) B a s' W'):Rg w B a s' W':=
 ⟨k.1,h.mb.tch k.2 zD,h.fb.tch k.2 zD,h.bl.trans (k.2.Cw h.bl.size fun b hb e=>zD)⟩
theorem Rg.row(h:Rg w B a s W)(hb:Below W.heap.size W W'):Rg w B a s W':=
 ⟨h.rd.later hb,h.mb.later hb,h.fb.later hb,h.bl.trans (hb.mono h.bl.size)⟩
theorem I3{M F:Nat}{v5 v6 v7 v8 v9 v10 v11 v12 v13 k f:Value}(hm:Blk W M 45 zeroCells)(hf:Blk W F 65 #[.int .i64 0,.int .i64 0])(hne:F≠M):
  Blk (((((((((((((((((W).setCell ⟨M,0,none⟩ (v0)).setCell ⟨M,1,none⟩ (v1)).setCell ⟨M,2,none⟩ (v2)).setCell ⟨M,3,none⟩ (v3)).setCell ⟨M,4,none⟩ (v4)).setCell ⟨M,5,none⟩ (v5)).setCell ⟨M,6,none⟩ (v6)).setCell ⟨M,7,none⟩ (v7)).setCell ⟨M,8,none⟩ (v8)).setCell ⟨M,9,none⟩ (v9)).setCell ⟨M,10,none⟩ (v10)).setCell ⟨M,11,none⟩ (v11)).setCell ⟨M,12,none⟩ (v12)).setCell ⟨M,13,none⟩ (v13)).setCell ⟨F,0,none⟩ (k)).setCell ⟨F,1,none⟩ (f)) M 45 #[v0,v1,v2,v3,v4,v5,v6,v7,v8,v9,v10,v11,v12,v13]∧Blk (((((((((((((((((W).setCell ⟨M,0,none⟩ (v0)).setCell ⟨M,1,none⟩ (v1)).setCell ⟨M,2,none⟩ (v2)).setCell ⟨M,3,none⟩ (v3)).setCell ⟨M,4,none⟩ (v4)).setCell ⟨M,5,none⟩ (v5)).setCell ⟨M,6,none⟩ (v6)).setCell ⟨M,7,none⟩ (v7)).setCell ⟨M,8,none⟩ (v8)).setCell ⟨M,9,none⟩ (v9)).setCell ⟨M,10,none⟩ (v10)).setCell ⟨M,11,none⟩ (v11)).setCell ⟨M,12,none⟩ (v12)).setCell ⟨M,13,none⟩ (v13)).setCell ⟨F,0,none⟩ (k)).setCell ⟨F,1,none⟩ (f)) F 65 #[k,f]∧Tch (fun b=>b=M∨b=F) W (((((((((((((((((W).setCell ⟨M,0,none⟩ (v0)).setCell ⟨M,1,none⟩ (v1)).setCell ⟨M,2,none⟩ (v2)).setCell ⟨M,3,none⟩ (v3)).setCell ⟨M,4,none⟩ (v4)).setCell ⟨M,5,none⟩ (v5)).setCell ⟨M,6,none⟩ (v6)).setCell ⟨M,7,none⟩ (v7)).setCell ⟨M,8,none⟩ (v8)).setCell ⟨M,9,none⟩ (v9)).setCell ⟨M,10,none⟩ (v10)).setCell ⟨M,11,none⟩ (v11)).setCell ⟨M,12,none⟩ (v12)).setCell ⟨M,13,none⟩ (v13)).setCell ⟨F,0,none⟩ (k)).setCell ⟨F,1,none⟩ (f)):=by
 have h1:=((((((((((((((hm.set 0 v0).set 1 v1).set 2 v2).set 3 v3).set 4 v4).set 5 v5).set 6 v6).set 7 v7).set 8 v8).set 9 v9).set 10 v10).set 11 v11).set 12 v12).set 13 v13);simp only[zeroCells,Aa,Ab,Ac] at h1;have h2:=Pb (W:=W) (R:=M) (u0:=v0) (u1:=v1) (u2:=v2) (u3:=v3) (u4:=v4) (u5:=v5) (u6:=v6) (u7:=v7) (u8:=v8) (u9:=v9) (u10:=v10) (u11:=v11) (u12:=v12) (u13:=v13);have h3:=hf.tch h2 hne;generalize ((((((((((((((W).setCell ⟨M,0,none⟩ (v0)).setCell ⟨M,1,none⟩ (v1)).setCell ⟨M,2,none⟩ (v2)).setCell ⟨M,3,none⟩ (v3)).setCell ⟨M,4,none⟩ (v4)).setCell ⟨M,5,none⟩ (v5)).setCell ⟨M,6,none⟩ (v6)).setCell ⟨M,7,none⟩ (v7)).setCell ⟨M,8,none⟩ (v8)).setCell ⟨M,9,none⟩ (v9)).setCell ⟨M,10,none⟩ (v10)).setCell ⟨M,11,none⟩ (v11)).setCell ⟨M,12,none⟩ (v12)).setCell ⟨M,13,none⟩ (v13)=V at*;have h4:=(h3.set 0 k).set 1 f;simp only[Aa,Ab,Ac] at h4;refine⟨(h1.far (by exact hne.symm) _).far (by exact hne.symm) _,h4,?_⟩;refine Tch.setCell (F:=fun b=>b=M∨b=F) (p:=⟨F,1,none⟩) ?_ (fun _=> .inr rfl) f;refine Tch.setCell (F:=fun b=>b=M∨b=F) (p:=⟨F,0,none⟩) ?_ (fun _=> .inr rfl) k;exact h2.mono fun b _ e=> .inl e
end
theorem XB(w:World)(B:List UInt8)(a:Option Addr)(c0 c:Nat)(hl:Ah.r (·<w.heap.size) w [.slice a c0 c] B)(hB:B.length≤1000000000)(fn:Nat)(blk:Rs→Rs × List UInt8 × Bool)(fl:Rs→Bool→Bool)(hR:AbR B fn blk fl){x:Msg}{qx:Bool}{kx fx:Int}(hZ:ET B blk fl=(x,qx,kx,fx)):
  Calls Tryz.prog 177 #[.slice a c0 c,.func (Fn.func fn) #[] #[]] w fun r w'=>∃a1 a1' a2 a2' a3 a3' a4 a4',r=.returned (.tuple #[.agg #[.int .i64 x.kind,.int .u64 x.epoch,.int .u64 x.seq,.int .u64 x.pos,.int .i64 x.count,.int .i64 x.state,.slice a1 x.streams.length a1',.slice a2 x.links.length a2',.slice a3 x.data.length a3',.int .u64 x.sea.epoch,.int .u64 x.sea.node,.int .u64 x.sea.tail,.int .u64 x.proj.epoch,.slice a4 x.proj.stripes.length a4'],.bool qx,.agg #[.int .i64 kx,.int .i64 fx]])∧A9 (fun q=>w.heap.size≤q∧q<w'.heap.size) w' x a1 a1' a2 a2' a3 a3' a4 a4'∧Below w.heap.size w w':=by
 obtain⟨rfl,hmx,hcc,hcm⟩:=AT hl;have HN:=hid (NW ((w.alloc (.cells Acs 45)).alloc (.cells #[.int .i64 0,.int .i64 0] 65)) B a _ c (lift hl zA));have hHR:=hid hR;unfold ET at hZ;have HB0:=hid (fun (W:World) (h:A6 W (w.heap.size+1+1) B a ⟨0,0,0⟩)=>Nd W h);generalize (⟨0,0,0⟩:Rs).byte B=U at*;obtain⟨u,yb⟩:=U;dsimp only at HB0 hZ;have hy:=yb.toNat_lt;generalize yb.toNat=y at*;have HKR:=hid (fun (W:World)=>Jd (y:Int) W);have HFL:=hid (fun (W:World) (h:A6 W (w.heap.size+1+1) B a u)=>BP W h 7 0 zD);obtain⟨KG,hKG⟩:∃KG,KG=decide (1≤(y:Int)∧(y:Int)≤14):=⟨_,rfl⟩;rw[←hKG] at HKR;have hK1:(KG=true→u.kd (y:Int)=u)∧(KG=false→u.kd (y:Int)=u.fail 7 0):=
  ⟨fun e=>Ai (Bc (hKG.symm.trans e)),fun e=>Ak (of_decide_eq_false (hKG.symm.trans e))⟩
 have HK1:=hid hK1;clear hK1 hKG hR;generalize u.kd (y:Int)=s1 at*;have HE:=hid (fun (W:World) (h:A6 W (w.heap.size+1+1) B a s1)=>KJ W h hB);have hue:inU ((s1.ep B).2:Int):=Rs.AaR;generalize s1.ep B=E at*;obtain⟨s2,e⟩:=E;dsimp only at HE hZ hue;have HV:=hid (fun (W:World) (h:A6 W (w.heap.size+1+1) B a s2)=>Da W h zD);have hun:inU ((s2.num B).2:Int):=by
  have:=Rs.DL (B:=B) (s:=s2);unfold inU;exact⟨zD,zD⟩
 generalize s2.num B=V0 at*;obtain⟨s3,n⟩:=V0;dsimp only at HV hZ hun;have HUE:=hid hue;have HUN:=hid hun;have HZ:=hid hZ;have HY:inI (y:Int):=⟨zD,zD⟩;have HYI:=hid HY;clear hue hun hZ HY hl;go_enter Tryz.func177,Tryz.ntmps177;go_wp2_with fail;refine HN.out.mono ?_;rintro r w1 ⟨rfl,hrd,hb1⟩;have I1:Rg w B a ⟨0,0,0⟩ w1:=⟨by simpa using hrd,Blk.later zC hb1,Blk.later zC hb1,zA⟩;have HI1:=hid I1;clear I1 hrd hb1;simp;go_wp2_with fail;refine (HB0.out _ HI1.out.rd).mono ?_;rintro r w2 ⟨rfl,hst⟩;have HI2:=hid (HI1.out.step hst);clear hst HI1;go_wp2_with fail;refine (HKR.out _).mono ?_;rintro r w2' ⟨rfl,rfl⟩;go_upto_if 21 with (fail);go_cut [] from 22 to 23 (fun V=>Hid (Rg w B a s1 V))
 case first=>
  have hk1:=HK1.out;cases KG
  ·rw[←hk1.2 rfl] at HFL
   go_wp2_with fail;refine (HFL.out _ HI2.out.rd).mono ?_;rintro r w3 ⟨rfl,hst⟩;have HI3:=hid (HI2.out.step hst);clear hst HI2;go_wp2_with fail;go_meet
   case rel=>exact HI3
  ·have HI3:=hid (Rg.row HI2.out (Below.refl _ _))
   rw[←hk1.1 rfl] at HI3;go_wp2_with fail;go_meet
   case rel=>exact HI3
 case rest=>
  have HI3:=hcut;obtain⟨w30,hwn⟩:∃W:World,W=wc:=⟨_,rfl⟩;subst hwn;clear hcut HI2;go_wp2_with fail;refine (HE.out _ HI3.out.rd).mono ?_;rintro r w4 ⟨rfl,hst⟩;have HI4:=hid (HI3.out.step hst);clear hst HI3;go_wp2_with fail;refine (HV.out _ HI4.out.rd).mono ?_;rintro r w5 ⟨rfl,hst⟩;have HI5:=hid (HI4.out.step hst);clear hst HI4;have HF:=hid (fun (W:World) (h:A6 W (w.heap.size+1+1) B a s3)=>Hk W h);by_cases hk:s3.k=0
  ·have hz:=HZ.out
   rw[Ai hk] at hz;have HG:=hid (fun (V:World) (hV:A6 V (w.heap.size+1+1) B a s3)=>(by have:=AL V hV;rw[Ad hk] at this;exact this:Calls Tryz.prog 112 #[.pointer (some ⟨(w.heap.size+1+1),0,none⟩)] V fun r w'=>r=.returned (.bool true)∧Below V.heap.size V w'));generalize hT:s3.body B blk (y:Int)=T at*;obtain⟨s4,m,q⟩:=T;dsimp only at hz;have HC:=hid (fun (W:World) (h:A6 W (w.heap.size+1+1) B a s3)=>hHR.out.call W _ a s3 s4 m q (y:Int) h HYI.out hT);have HFN:=hid (fun (W:World) (h:A6 W (w.heap.size+1+1) B a s4)=>Abn W h);generalize s4.fin B.length=s5 at*;generalize fl s4 q=b at*;have HZ2:=hid hz;have HF5:=hid (fun (W:World) (h:A6 W (w.heap.size+1+1) B a s5)=>Hk W h);have HGF:=hid (fun (W:World)=>CX W s5.k s5.f);clear hz hk hT HZ;go_wp2_with fail;refine (HG.out _ HI5.out.rd).mono ?_;rintro r w6 ⟨rfl,hb6⟩;have HI6:=hid (HI5.out.row hb6);clear hb6 HI5;go_wp2_with fail;rw[hHR.out.ent];refine (HC.out _ HI6.out.rd).mono ?_;rintro r w7 ⟨a1,a1',a2,a2',a3,a3',a4,a4',rfl,hm7,hst⟩;have HI7:=hid (HI6.out.step hst);have X7:=hid (A9.EM hm7 (fun q hq=>rfl) (fun q hq=>(⟨by have:=hq.1;have:=HI6.out.rd.blk.lt;omega,hq.2⟩:w.heap.size+1+1<q∧q<w7.heap.size)));have l7:=HI7.out.rd.blk.lt;have E8:Blk (w7.alloc (.cells Acr 45)) w7.heap.size 45 Acr:=Blk.newAt _ _ _ rfl;have hb8:Below w7.heap.size w7 (w7.alloc (.cells Acr 45)):=zA;have HI8:=hid (HI7.out.row hb8);have X8:=hid (A9.EM X7.out (fun q hq=>hb8.block q hq.2) (fun q hq=>(⟨hq.1,hq.2⟩:w.heap.size+1+1<q∧q<w7.heap.size)));have l8:w7.heap.size<((w7.alloc (.cells Acr 45))).heap.size:=zN;clear hst hm7 hb8 HI6 HI7 X7;go_wp2_with fail;generalize (w7.alloc (.cells Acr 45))=w8 at*;refine (HFN.out _ HI8.out.rd).mono ?_;rintro r w9 ⟨rfl,hst⟩;have E9:=hid (E8.tch hst.2 zD);have X9:=hid (A9.EM X8.out (fun q hq=>hst.2.block q zD zD) (fun q hq=>hq));have HI9:=hid (HI8.out.step hst);have l9:=Aj l8 hst.2.size;clear hst HI8 X8 E8;go_wp2_with fail;refine (HF5.out _ HI9.out.rd).mono ?_;rintro r w10 ⟨rfl,hb10⟩;have E10:=hid (E9.out.later hb10);have X10:=hid (A9.EM X9.out (fun q hq=>hb10.block q zD) (fun q hq=>hq));have HI10:=hid (HI9.out.row hb10);have l10:=Aj l9 hb10.size;have F11:Blk (w10.alloc (.cells #[.int .i64 s5.k,.int .i64 s5.f] 65)) w10.heap.size 65 #[.int .i64 s5.k,.int .i64 s5.f]:=Blk.newAt _ _ _ rfl;have hb11:Below w10.heap.size w10 (w10.alloc (.cells #[.int .i64 s5.k,.int .i64 s5.f] 65)):=zA;have HF11:=hid F11;have E11:=hid (E10.out.later hb11);have X11:=hid (A9.EM X10.out (fun q hq=>hb11.block q zD) (fun q hq=>hq));have HI11:=hid (HI10.out.row hb11);have l11:w10.heap.size<((w10.alloc (.cells #[.int .i64 s5.k,.int .i64 s5.f] 65))).heap.size:=zN;obtain⟨f0,f1,f2,f3,f4⟩:=B6 F11;clear hb10 HI9 X9 E9 hb11 HI10 X10 E10 F11;go_wp2_with fail;generalize (w10.alloc (.cells #[.int .i64 s5.k,.int .i64 s5.f] 65))=w11 at*;by_cases hk5:s5.k=0
   ·have hz:=HZ2.out
    rw[Ai hk5] at hz;rw[Ad hk5] at HGF;simp only[CR] at hz;obtain⟨rfl,rfl,rfl,rfl⟩:=hz;clear HZ2 hk5;refine (HGF.out _).mono ?_;rintro r w12 ⟨rfl,hb12⟩;have E12:=E11.out.later hb12;have X12:=hid (A9.EM X11.out (fun q hq=>hb12.block q zD) (fun q hq=>hq));have HI12:=hid (HI11.out.row hb12);have l12:=Aj l11 hb12.size;obtain⟨y0,y1,y2,y3,y4,y5,y6,y7,y8,y9,y10,y11,y12,y13,ly⟩:=Cz E12;obtain⟨g0,g1,g2,g3,g4,g5,g6,g7,g8,g9,g10,g11,g12,g13⟩:=Gm E12;clear hb12 HI11 X11 E11 f0 f1 f2 f3 f4;go_upto_region 15 with (fail);have E13:Blk ((w12.setCell ⟨w7.heap.size,1,none⟩ (.int .u64 (e:Int))).setCell ⟨w7.heap.size,2,none⟩ (.int .u64 (n:Int))) w7.heap.size 45 AcD:=by
     have:=(E12.set 1 (.int .u64 (e:Int))).set 2 (.int .u64 (n:Int));simp only[Aa,Ab,Ac] at this;exact this
    have ht13:Tch (·=w7.heap.size) w12 ((w12.setCell ⟨w7.heap.size,1,none⟩ (.int .u64 (e:Int))).setCell ⟨w7.heap.size,2,none⟩ (.int .u64 (n:Int))):=by
     refine Tch.setCell (F:=(·=w7.heap.size)) (p:=⟨w7.heap.size,2,none⟩) ?_ (fun _=>rfl) _;refine Tch.setCell (F:=(·=w7.heap.size)) (p:=⟨w7.heap.size,1,none⟩) ?_ (fun _=>rfl) _;exact Tch.refl _ _
    generalize ((w12.setCell ⟨w7.heap.size,1,none⟩ (.int .u64 (e:Int))).setCell ⟨w7.heap.size,2,none⟩ (.int .u64 (n:Int)))=w13 at*;have hM:=HI12.out.mb.tch ht13 zD;have hF:=HI12.out.fb.tch ht13 zD;have hbl:=HI12.out.bl.trans (ht13.Cw HI12.out.bl.size fun b hb e=>zD);have X13:=hid (A9.EM X12.out (fun q hq=>ht13.block q zD zD) (fun q hq=>hq));clear y0 y1 y2 y3 y4 y5 y6 y7 y8 y9 y10 y11 y12 y13 ly g0 g1 g2 g3 g4 g5 g6 g7 g8 g9 g10 g11 g12 g13 E12 HI12 X12;have l13:=Aj l12 ht13.size;obtain⟨y0,y1,y2,y3,y4,y5,y6,y7,y8,y9,y10,y11,y12,y13,ly⟩:=Cz E13;obtain⟨r0,r1,r2,r3,r4,r5,r6,r7,r8,r9,r10,r11,r12,r13,lr⟩:=Cz hM;obtain⟨g0,g1,g2,g3,g4,g5,g6,g7,g8,g9,g10,g11,g12,g13⟩:=Gm hM;obtain⟨f0,f1,f2,f3,f4⟩:=B6 hF;clear ht13;go_wp2_with fail;have hput:=I3 (k:=.int .i64 0) (f:=.int .i64 0) (v0:=.int .i64 m.kind) (v1:=.int .u64 (e:Int)) (v2:=.int .u64 (n:Int)) (v3:=.int .u64 m.pos) (v4:=.int .i64 m.count) (v5:=.int .i64 m.state) (v6:=.slice a1 m.streams.length a1') (v7:=.slice a2 m.links.length a2') (v8:=.slice a3 m.data.length a3') (v9:=.int .u64 m.sea.epoch) (v10:=.int .u64 m.sea.node) (v11:=.int .u64 m.sea.tail) (v12:=.int .u64 m.proj.epoch) (v13:=.slice a4 m.proj.stripes.length a4') hM hF zD;refine Di (fun W=>Blk W w.heap.size 45 #[.int .i64 m.kind,.int .u64 (e:Int),.int .u64 (n:Int),.int .u64 m.pos,.int .i64 m.count,.int .i64 m.state,.slice a1 m.streams.length a1',.slice a2 m.links.length a2',.slice a3 m.data.length a3',.int .u64 m.sea.epoch,.int .u64 m.sea.node,.int .u64 m.sea.tail,.int .u64 m.proj.epoch,.slice a4 m.proj.stripes.length a4']∧Blk W (w.heap.size+1) 65 #[.int .i64 0,.int .i64 0]∧Tch (fun b=>b=w.heap.size∨b=w.heap.size+1) w13 W) hput ?_;intro W5 ⟨q5,p5,ht5⟩;obtain⟨n0,n1,n2,n3,n4,n5,n6,n7,n8,n9,n10,n11,n12,n13,ln⟩:=Cz q5;obtain⟨p0,p1,p2,p3,p4⟩:=B6 p5;have hz5:=ht5.size;refine Al (v:=.tuple #[.agg AcD,.bool b,.agg #[.int .i64 0,.int .i64 0]]) ZQ rfl ⟨a1,a1',a2,a2',a3,a3',a4,a4',rfl,A9.put (A9.EM X13.out (fun q hq=>ht5.block q zD zD) (fun q hq=>⟨zD,zD⟩)) HUE.out HUN.out,hbl.trans (ht5.Cw hbl.size fun b hb e=>zD)⟩
   ·have hz:=HZ2.out
    rw[Ak hk5] at hz;rw[Ae hk5] at HGF;simp only[CR] at hz;obtain⟨rfl,rfl,rfl,rfl⟩:=hz;clear HZ2 hk5;refine (HGF.out _).mono ?_;rintro r w12 ⟨rfl,hb12⟩;have HI12:=hid (HI11.out.row hb12);have hF12:=HF11.out.later hb12;have hF12d:=hF12.drew;have l12:=Aj l11 hb12.size;have hM:=HI12.out.mb.drew;have hF:=HI12.out.fb.drew;have hbl:=HI12.out.bl.drew;have SK:=hid (fun (w':World) (h0:Blk w' w10.heap.size 65 #[.int .i64 s5.k,.int .i64 s5.f])=>(⟨h0.cell 0,h0.cell 1⟩:w'.cell? ⟨w10.heap.size,0,none⟩=some (.int .i64 s5.k)∧w'.cell? ⟨w10.heap.size,1,none⟩=some (.int .i64 s5.f)));have HS:=hid (SK.out w12 hF12);obtain⟨r0,r1,r2,r3,r4,r5,r6,r7,r8,r9,r10,r11,r12,r13,lr⟩:=Cz hM;obtain⟨g0,g1,g2,g3,g4,g5,g6,g7,g8,g9,g10,g11,g12,g13⟩:=Gm hM;obtain⟨f0',f1',f2',f3',f4'⟩:=B6 hF;clear hb12 HI11 X11 E11 f0 f1 f2 f3 f4;go_wp2_with fail;refine CJ (S:=fun w'=>w'.cell? ⟨w10.heap.size,0,none⟩=some (.int .i64 s5.k)∧w'.cell? ⟨w10.heap.size,1,none⟩=some (.int .i64 s5.f)) zI HS.out (fun hHeld=> ?_);refine Ap (i:=0) (oi:=_) (v:=?_) rfl zE zE zE (fun _ _ _ h=>h) (Or.inl ⟨zS,?_⟩) zL ?_;rotate_left
    ·(intro w hSw;(try dsimp only at hSw);go_simp<;>with_reducible rfl)
    (try simp only[Act.put,Aa,Ab,Ac])
    refine Ap (i:=1) (oi:=_) (v:=?_) rfl zE zE zE (fun _ _ _ h=>h) (Or.inl ⟨zS,?_⟩) zL ?_;rotate_left
    ·(intro w hSw;(try dsimp only at hSw);go_simp<;>with_reducible rfl)
    (try simp only[Act.put,Aa,Ab,Ac])
    generalize w12.drew=wd at*;refine AU (rs:=[2]) zE zN ?_;refine AK (o:=_) rfl (fun K hK=> ?_) AllReadyH.nil;go_simp
    refine hK.out _ _ ?_ (fun hHeld=> ?_)
    ·exact SK.out _ zQ
    clear hK K
    (try simp only[Act.put,Aa,Ab,Ac])
    refine Ap (i:=3) (oi:=_) (v:=?_) rfl zE zE zE (fun _ _ _ h=>h) (Or.inl ⟨zS,?_⟩) zL ?_;rotate_left
    ·(intro w hSw;(try dsimp only at hSw);go_simp<;>with_reducible rfl)
    (try simp only[Act.put,Aa,Ab,Ac])
    refine AU (rs:=[4]) zE zN ?_;refine AK (o:=_) rfl (fun K hK=> ?_) AllReadyH.nil;go_simp
    refine hK.out _ _ ?_ (fun hHeld=> ?_)
    ·exact SK.out _ zQ
    clear hK K
    (try simp only[Act.put,Aa,Ab,Ac])
    (try simp only[AA,Ay,Aw,Act.put,Aa,Ab,Ac])
    refine CS zI ?_ _;go_wp2_with fail;have hput:=I3 (k:=.int .i64 s5.k) (f:=.int .i64 s5.f) (v0:=.int .i64 0) (v1:=.int .u64 0) (v2:=.int .u64 0) (v3:=.int .u64 0) (v4:=.int .i64 0) (v5:=.int .i64 0) (v6:=.slice none 0 0) (v7:=.slice none 0 0) (v8:=.slice none 0 0) (v9:=.int .u64 0) (v10:=.int .u64 0) (v11:=.int .u64 0) (v12:=.int .u64 0) (v13:=.slice none 0 0) hM hF zD;refine Di (fun W=>Blk W w.heap.size 45 #[.int .i64 0,.int .u64 0,.int .u64 0,.int .u64 0,.int .i64 0,.int .i64 0,.slice none 0 0,.slice none 0 0,.slice none 0 0,.int .u64 0,.int .u64 0,.int .u64 0,.int .u64 0,.slice none 0 0]∧Blk W (w.heap.size+1) 65 #[.int .i64 s5.k,.int .i64 s5.f]∧Tch (fun b=>b=w.heap.size∨b=w.heap.size+1) wd W) hput ?_;intro W5 ⟨q5,p5,ht5⟩;obtain⟨n0,n1,n2,n3,n4,n5,n6,n7,n8,n9,n10,n11,n12,n13,ln⟩:=Cz q5;obtain⟨p0,p1,p2,p3,p4⟩:=B6 p5;refine Al (v:=.tuple #[.agg Acs,.bool false,.agg #[.int .i64 s5.k,.int .i64 s5.f]]) ZQ rfl ⟨none,0,none,0,none,0,none,0,rfl,JD,hbl.trans (ht5.Cw hbl.size fun b hb e=>zD)⟩
  ·have hz:=HZ.out
   rw[Ak hk] at hz;simp only[CR] at hz;obtain⟨rfl,rfl,rfl,rfl⟩:=hz;have HG:=hid (fun (V:World) (hV:A6 V (w.heap.size+1+1) B a s3)=>(by have:=AL V hV;rw[Ae hk] at this;exact this:Calls Tryz.prog 112 #[.pointer (some ⟨(w.heap.size+1+1),0,none⟩)] V fun r w'=>r=.returned (.bool false)∧Below V.heap.size V w'));clear hk HZ;go_wp2_with fail;refine (HG.out _ HI5.out.rd).mono ?_;rintro r w6 ⟨rfl,hb6⟩;have HI6:=hid (HI5.out.row hb6);clear hb6 HI5;go_wp2_with fail;refine (HF.out _ HI6.out.rd).mono ?_;rintro r w12 ⟨rfl,hb12⟩;have HI12:=hid (HI6.out.row hb12);have hM:=HI12.out.mb;have hF:=HI12.out.fb;have hbl:=HI12.out.bl;obtain⟨r0,r1,r2,r3,r4,r5,r6,r7,r8,r9,r10,r11,r12,r13,lr⟩:=Cz hM;obtain⟨g0,g1,g2,g3,g4,g5,g6,g7,g8,g9,g10,g11,g12,g13⟩:=Gm hM;obtain⟨f0,f1,f2,f3,f4⟩:=B6 hF;clear hb12 HI6;go_wp2_with fail;have hput:=I3 (k:=.int .i64 s3.k) (f:=.int .i64 s3.f) (v0:=.int .i64 0) (v1:=.int .u64 0) (v2:=.int .u64 0) (v3:=.int .u64 0) (v4:=.int .i64 0) (v5:=.int .i64 0) (v6:=.slice none 0 0) (v7:=.slice none 0 0) (v8:=.slice none 0 0) (v9:=.int .u64 0) (v10:=.int .u64 0) (v11:=.int .u64 0) (v12:=.int .u64 0) (v13:=.slice none 0 0) hM hF zD;refine Di (fun W=>Blk W w.heap.size 45 #[.int .i64 0,.int .u64 0,.int .u64 0,.int .u64 0,.int .i64 0,.int .i64 0,.slice none 0 0,.slice none 0 0,.slice none 0 0,.int .u64 0,.int .u64 0,.int .u64 0,.int .u64 0,.slice none 0 0]∧Blk W (w.heap.size+1) 65 #[.int .i64 s3.k,.int .i64 s3.f]∧Tch (fun b=>b=w.heap.size∨b=w.heap.size+1) w12 W) hput ?_;intro W5 ⟨q5,p5,ht5⟩;obtain⟨n0,n1,n2,n3,n4,n5,n6,n7,n8,n9,n10,n11,n12,n13,ln⟩:=Cz q5;obtain⟨p0,p1,p2,p3,p4⟩:=B6 p5;refine Al (v:=.tuple #[.agg Acs,.bool false,.agg #[.int .i64 s3.k,.int .i64 s3.f]]) ZQ rfl ⟨none,0,none,0,none,0,none,0,rfl,JD,hbl.trans (ht5.Cw hbl.size fun b hb e=>zD)⟩
end Go.Proofs.YtfddhafbhceoaaaGreat
