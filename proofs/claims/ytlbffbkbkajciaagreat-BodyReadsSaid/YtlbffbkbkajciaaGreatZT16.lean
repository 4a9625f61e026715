/- Mini: Needed by bodyReads_walk, part 16: texts put together by shake.py; no condition. -/
import Derived.Test.YtlbffbkbkajciaaGreatZT3
import Derived.Test.YtlbffbkbkajciaaGreatZT15
import Derived.Test.YtlbffbkbkajciaaGreatZT12
import Derived.Deep.Cut
import Derived.Deep.CutRange
import Derived.Deep.RegionHeld3
import Derived.Test.YtlbffbkbkajciaaGreatZT7
import Derived.Test.YtlbffbkbkajciaaGreatZT6
import Derived.Test.YtlbffbkbkajciaaGreatZT4
import Derived.Test.YtlbffbkbkajciaaGreatZT2
import Derived.Test.YtlbffbkbkajciaaGreatZT1
set_option linter.unusedVariables false
set_option linter.unusedSimpArgs false
set_option maxRecDepth 100000
set_option maxHeartbeats 6400000
namespace Go.Bs
theorem zBg{p:Prop}(h:p:=by (try simp only [Ar]); have := RB (X := (A1 m.pos.toNat)) hh; omega):p:=h
theorem zBf{p:Prop}(h:p:=by (try simp only [Ar]); have := RB (X := (A1 m.count.toNat)) hh; omega):p:=h
theorem zA2{p:Prop}(h:p:=by (try simp only [Ar]); have := RB (X := ([UInt8.ofNat m.state.toNat])) hh; omega):p:=h
end Go.Bs
namespace Go.Proofs.YtlbffbkbkajciaaGreat
open Go.RowKit Go.Bs Go.Maps
theorem EW{α:Type}{h:Bool}{s:Rs}{f:Rs→Rs × α}{z:α}{P:α→Prop}(h1:P (f s).2)(h2:P z):P (Rs.part h s f z).2:=by
 cases h
 ·exact h2
 ·exact h1
theorem Rs.RH{B:List UInt8}{s:Rs}:inU ((s.ep B).2:Int):=by
 have:=Rs.Ch (B:=B) (s:=s)
 unfold Rs.ep inU;split
 ·split
  ·omega
  ·simp
 ·simp
theorem Rs.RE{B:List UInt8}{s:Rs}{m:Nat}:inU ((s.most B m).2:Int):=by
 have:=Rs.Ch (B:=B) (s:=s)
 unfold Rs.most inU;split
 ·simp
 ·omega
theorem Rs.Sc{B:List UInt8}{s:Rs}:inU ((s.tl B).2:Int):=by
 have:=Rs.Ch (B:=B) (s:=s)
 unfold Rs.tl inU;split
 ·split
  ·omega
  ·simp
 ·simp
theorem Cl:inU 0:=⟨Int.le_refl _,zS⟩
theorem Gq:inI 0:=⟨zS,zS⟩
theorem Rs.M5{B:List UInt8}{s:Rs}:inU (s.seal_ B).2.epoch∧inU (s.seal_ B).2.node∧inU (s.seal_ B).2.tail:=by
 unfold Rs.seal_;dsimp only;split
 ·exact⟨Rs.RH,Rs.RE,Rs.Sc⟩
 ·exact⟨Cl,Cl,Cl⟩
theorem Rs.Rx{B:List UInt8}{s:Rs}:inU (s.C9 B).2.epoch:=by
 unfold Rs.C9;dsimp only;split<;>split
 ·exact Rs.RH
 ·exact Cl
 ·exact Rs.RH
 ·exact Cl
theorem Rs.RU{B:List UInt8}{s:Rs}:inI (s.cnt B).2:=by
 have h2:(s.many B 65536).2≤65536:=Rs.FJ (m:=65536)
 unfold Rs.cnt inI;dsimp only;omega
theorem Rs.RN{B:List UInt8}{s:Rs}{k:Int}:inI (s.stt B k).2:=by
 have h2:(s.byte B).2.toNat<256:=(s.byte B).2.toNat_lt
 unfold Rs.stt inI;dsimp only;omega
structure Ok(m:Msg):Prop where
 kind:inI m.kind
 epoch:inU m.epoch
 seq:inU m.seq
 pos:inU m.pos
 count:inI m.count
 state:inI m.state
 sealE:inU m.sea.epoch
 sealN:inU m.sea.node
 sealT:inU m.sea.tail
 projE:inU m.proj.epoch
theorem Ok.none:Ok Dr:=⟨Gq,Cl,Cl,Cl,Gq,Gq,Cl,Cl,Cl,Cl⟩
theorem Iw{B:List UInt8}{blk:Rs→Rs × List UInt8 × Bool}{k:Int}{s:Rs}(hk:inI k):Ok (s.body B blk k).2.1:=by
 unfold Rs.body Rs.ahead;split
 ·dsimp only
  split
  ·exact⟨hk,Cl,Cl,EW (P:=inU) Rs.Rm Cl,EW (P:=inI) Rs.RU Gq,EW (P:=inI) Rs.RN Gq,(EW (P:=fun z:Ix=>inU z.epoch) Rs.M5.1 Cl),(EW (P:=fun z:Ix=>inU z.node) Rs.M5.2.1 Cl),(EW (P:=fun z:Ix=>inU z.tail) Rs.M5.2.2 Cl),(EW (P:=fun z:Ei=>inU z.epoch) Rs.Rx Cl)⟩
  ·exact Ok.none
 ·exact Ok.none
theorem Ok.to{m:Msg}(h:Ok m){S:Nat→Prop}{W:World}{a1:Option Addr}{c1:Nat}{a2:Option Addr}{c2:Nat}{a3:Option Addr}{c3:Nat}{a4:Option Addr}{c4:Nat}(h1:AK.r S W [.slice a1 m.streams.length c1] m.streams)(h2:BE.r S W [.slice a2 m.links.length c2] m.links)(h3:Ah.r S W [.slice a3 m.data.length c3] m.data)(h4:AS.r S W [.slice a4 m.proj.stripes.length c4] m.proj.stripes):
  Bl S W m a1 c1 a2 c2 a3 c3 a4 c4:=⟨h.kind,h.epoch,h.seq,h.pos,h.count,h.state,h.sealE,h.sealN,h.sealT,h.projE,h1,h2,h3,h4⟩
theorem RV(w:World){g:Nat}{B:List UInt8}{a:Option Addr}{s s1:Rs}{m:Msg}{q:Bool}(h:AQ w g B a s)(hB:B.length≤1000000000)(k:Int)(hk:inI k)(hZ:s.body B (EB B) k=(s1,m,q)):
  Calls Tryz.prog 39 #[.pointer (some ⟨g,0,none⟩),.int .i64 k] w fun r w'=>∃a1 a1' a2 a2' a3 a3' a4 a4',r=.returned (.agg #[.int .i64 m.kind,.int .u64 m.epoch,.int .u64 m.seq,.int .u64 m.pos,.int .i64 m.count,.int .i64 m.state,.slice a1 m.streams.length a1',.slice a2 m.links.length a2',.slice a3 m.data.length a3',.int .u64 m.sea.epoch,.int .u64 m.sea.node,.int .u64 m.sea.tail,.int .u64 m.proj.epoch,.slice a4 m.proj.stripes.length a4'])∧Bl (fun q=>w.heap.size≤q∧q<w'.heap.size) w' m a1 a1' a2 a2' a3 a3' a4 a4'∧Az w g B a s1 w':=by
 have hC:=Ob w h hB k
 have hN:=Iw (B:=B) (blk:=EB B) (s:=s) hk
 rw[hZ] at hC hN
 refine hC.mono ?_
 rintro r w' ⟨v1,v2,v3,v4,rfl,⟨h1,h2,h3,h4⟩,hst⟩;obtain⟨a1,a1',hfv,_,_⟩:=Au h1
 simp only[Aj,At] at hfv
 subst hfv;obtain⟨a2,a2',hfv,_,_⟩:=Au h2
 simp only[Aj,At] at hfv
 subst hfv;obtain⟨a3,a3',hfv,_,_⟩:=Au h3
 simp only[Aj,At] at hfv
 subst hfv;obtain⟨a4,a4',hfv,_,_⟩:=Au h4
 simp only[Aj,At] at hfv
 subst hfv;exact⟨a1,a1',a2,a2',a3,a3',a4,a4',rfl,hN.to h1 h2 h3 h4,hst⟩
theorem RW(w:World){g:Nat}{B:List UInt8}{a:Option Addr}{s s1:Rs}{m:Msg}{q:Bool}(h:AQ w g B a s)(hB:B.length≤1000000000)(k:Int)(hk:inI k)(hZ:s.body B (Fa B) k=(s1,m,q)):
  Calls Tryz.prog 40 #[.pointer (some ⟨g,0,none⟩),.int .i64 k] w fun r w'=>∃a1 a1' a2 a2' a3 a3' a4 a4',r=.returned (.tuple #[.agg #[.int .i64 m.kind,.int .u64 m.epoch,.int .u64 m.seq,.int .u64 m.pos,.int .i64 m.count,.int .i64 m.state,.slice a1 m.streams.length a1',.slice a2 m.links.length a2',.slice a3 m.data.length a3',.int .u64 m.sea.epoch,.int .u64 m.sea.node,.int .u64 m.sea.tail,.int .u64 m.proj.epoch,.slice a4 m.proj.stripes.length a4'],.bool q])∧Bl (fun q=>w.heap.size≤q∧q<w'.heap.size) w' m a1 a1' a2 a2' a3 a3' a4 a4'∧Az w g B a s1 w':=by
 have hC:=Oc w h hB k
 have hN:=Iw (B:=B) (blk:=Fa B) (s:=s) hk
 rw[hZ] at hC hN
 refine hC.mono ?_
 rintro r w' ⟨v1,v2,v3,v4,rfl,⟨h1,h2,h3,h4⟩,hst⟩;obtain⟨a1,a1',hfv,_,_⟩:=Au h1
 simp only[Aj,At] at hfv
 subst hfv;obtain⟨a2,a2',hfv,_,_⟩:=Au h2
 simp only[Aj,At] at hfv
 subst hfv;obtain⟨a3,a3',hfv,_,_⟩:=Au h3
 simp only[Aj,At] at hfv
 subst hfv;obtain⟨a4,a4',hfv,_,_⟩:=Au h4
 simp only[Aj,At] at hfv
 subst hfv;exact⟨a1,a1',a2,a2',a3,a3',a4,a4',rfl,hN.to h1 h2 h3 h4,hst⟩
theorem RQ(w:World)(a:Option Addr)(c:Nat)(B:List UInt8)(hl:Ah.r (·<w.heap.size) w [.slice a B.length c] B)(s:Rs)(hs:s.ok B.length)(hB:B.length≤1000000000)(k:Int)(hk:inI k)(strict:Bool){s1:Rs}{m:Msg}{q:Bool}(hZ:s.body B (if strict then EB B else Fa B) k=(s1,m,q)):
  Calls Tryz.prog 41 #[CV a B.length c s,.int .i64 k,.bool strict] w fun r w'=>∃a1 a1' a2 a2' a3 a3' a4 a4',r=.returned (.tuple #[CV a B.length c s1,.agg #[.int .i64 m.kind,.int .u64 m.epoch,.int .u64 m.seq,.int .u64 m.pos,.int .i64 m.count,.int .i64 m.state,.slice a1 m.streams.length a1',.slice a2 m.links.length a2',.slice a3 m.data.length a3',.int .u64 m.sea.epoch,.int .u64 m.sea.node,.int .u64 m.sea.tail,.int .u64 m.proj.epoch,.slice a4 m.proj.stripes.length a4'],.bool q])∧Bl (fun q=>w.heap.size≤q∧q<w'.heap.size) w' m a1 a1' a2 a2' a3 a3' a4 a4'∧Below w.heap.size w w':=by
 have hC:=M9 w a c B hl s hs hB k strict _ rfl
 have hN:=Iw (B:=B) (blk:=if strict then EB B else Fa B) (s:=s) hk
 rw[hZ] at hC hN
 refine hC.mono ?_
 rintro r w' ⟨v1,v2,v3,v4,rfl,⟨h1,h2,h3,h4⟩,hst⟩;obtain⟨a1,a1',hfv,_,_⟩:=Au h1
 simp only[Aj,At] at hfv
 subst hfv;obtain⟨a2,a2',hfv,_,_⟩:=Au h2
 simp only[Aj,At] at hfv
 subst hfv;obtain⟨a3,a3',hfv,_,_⟩:=Au h3
 simp only[Aj,At] at hfv
 subst hfv;obtain⟨a4,a4',hfv,_,_⟩:=Au h4
 simp only[Aj,At] at hfv
 subst hfv;exact⟨a1,a1',a2,a2',a3,a3',a4,a4',rfl,hN.to h1 h2 h3 h4,hst⟩
theorem Me(m:Msg)(W:World)(a1 a2 a3 a4 b1 b2 b3 b4:Option Addr)(a1' a2' a3' a4' b1' b2' b3' b4':Nat)(h1:Bl (·<W.heap.size) W m a1 a1' a2 a2' a3 a3' a4 a4')(h2:Bl (·<W.heap.size) W m b1 b1' b2 b2' b3 b3' b4 b4'):
  Calls Tryz.prog 22 #[.agg #[.int .i64 m.kind,.int .u64 m.epoch,.int .u64 m.seq,.int .u64 m.pos,.int .i64 m.count,.int .i64 m.state,.slice a1 m.streams.length a1',.slice a2 m.links.length a2',.slice a3 m.data.length a3',.int .u64 m.sea.epoch,.int .u64 m.sea.node,.int .u64 m.sea.tail,.int .u64 m.proj.epoch,.slice a4 m.proj.stripes.length a4'],.agg #[.int .i64 m.kind,.int .u64 m.epoch,.int .u64 m.seq,.int .u64 m.pos,.int .i64 m.count,.int .i64 m.state,.slice b1 m.streams.length b1',.slice b2 m.links.length b2',.slice b3 m.data.length b3',.int .u64 m.sea.epoch,.int .u64 m.sea.node,.int .u64 m.sea.tail,.int .u64 m.proj.epoch,.slice b4 m.proj.stripes.length b4']] W fun r w'=>r=.returned (.bool true)∧Below W.heap.size W w':=by
 have:=M8 m m a1 a1' a2 a2' a3 a3' a4 a4' b1 b1' b2 b2' b3 b3' b4 b4' W h1 h2
 simp only[decide_true] at this
 exact this
theorem Bl.KI{S S':Nat→Prop}{w w':World}{m:Msg}{a1:Option Addr}{c1:Nat}{a2:Option Addr}{c2:Nat}{a3:Option Addr}{c3:Nat}{a4:Option Addr}{c4:Nat}(h:Bl S w m a1 c1 a2 c2 a3 c3 a4 c4)(hk:∀q,S q→w'.heap[q]? =w.heap[q]?)(hs:∀q,S q→S' q):Bl S' w' m a1 c1 a2 c2 a3 c3 a4 c4:=
 Bl.tr (fun A cs x hx=>A.mono (A.keep hx hk) hs) h
def RZ(m:Msg):Prop:=AE m.kind 8=false∧AE m.kind 16=false∧AE m.kind 64=false∧AE m.kind 128=false∧BJ m.kind m.state=false
theorem Pk(w:World){g base most:Nat}{J:List UInt8}{a:Option Addr}{c:Nat}(h:CH w g base most J a c)(m:Msg)(a1:Option Addr)(c1:Nat)(a2:Option Addr)(c2:Nat)(a3:Option Addr)(c3:Nat)(a4:Option Addr)(c4:Nat)(hd:Bl (fun q=>q<w.heap.size∧¬DY g a q) w m a1 c1 a2 c2 a3 c3 a4 c4)
  (hbk:∀x∈m.links,x.backs.length≤1000000) (hR:J4 m=true) (hno:RZ m) (hfit:J.length+(I4 m).length≤most) (hln:J.length+(I4 m).length≤100000000000000):
  Calls Tryz.prog 16 #[.pointer (some ⟨g,0,none⟩),.agg #[.int .i64 m.kind,.int .u64 m.epoch,.int .u64 m.seq,.int .u64 m.pos,.int .i64 m.count,.int .i64 m.state,.slice a1 m.streams.length c1,.slice a2 m.links.length c2,.slice a3 m.data.length c3,.int .u64 m.sea.epoch,.int .u64 m.sea.node,.int .u64 m.sea.tail,.int .u64 m.proj.epoch,.slice a4 m.proj.stripes.length c4]] w fun r w'=>r=.returned (.tuple #[])∧AB w g base most (J++I4 m) a w':=by
 have hml:(I4 m).length=(Bx (AE m.kind 1) (A1 m.pos.toNat)).length+(Bx (AE m.kind 2) (A1 m.count.toNat)).length+(Bx (AE m.kind 4) ([UInt8.ofNat m.state.toNat])).length+(Bx (AE m.kind 8) (Jq m.streams)).length+(Bx (AE m.kind 16) (FK m.pos m.links)).length+(Bx (BJ m.kind m.state) (Cw m.data)).length+(Bx (AE m.kind 64) (Js m.sea)).length+(Bx (AE m.kind 128) (JA m.proj)).length:=by simp only[I4,Ar]
 rw[hml] at hfit hln
 have hmb:I4 m=Bx (AE m.kind 1) (A1 m.pos.toNat)++Bx (AE m.kind 2) (A1 m.count.toNat)++Bx (AE m.kind 4) ([UInt8.ofNat m.state.toNat])++Bx (AE m.kind 8) (Jq m.streams)++Bx (AE m.kind 16) (FK m.pos m.links)++Bx (BJ m.kind m.state) (Cw m.data)++Bx (AE m.kind 64) (Js m.sea)++Bx (AE m.kind 128) (JA m.proj):=rfl
 have HRT:=hid (fun (W:World) (hW:Below w.heap.size w W)=>Oa m a1 c1 a2 c2 a3 c3 a4 c4 W (Bl.lift (Bl.low hd) hW) (fun x hx=>by have:=hbk x hx;omega))
 rw[hR] at HRT
 have HHD:=hid (fun (W:World)=>FQ m a1 c1 a2 c2 a3 c3 a4 c4 W)
 have HM:=hid (JD hR)
 have HBK:=hid hbk
 have HNO:=hid hno
 have HP:=hid h
 have HD:=hid hd
 have HLT:=hid (fun q (hq:DY g a q)=>(h.De hq).2)
 have hdl:=HM.out.data
 clear h hd hR hbk hml hno;go_enter Tryz.func16,Tryz.ntmps16
 go_wp2_with fail;refine (HRT.out _ zA).mono ?_
 rintro r w1 ⟨rfl,hb1⟩;have hbw1:Below w.heap.size w w1:=zA
 have hI1:F0 w1 g base most J a c w.heap.size (w.heap.size+1) m a1 c1 a2 c2 a3 c3 a4 c4:=⟨HP.out.later hbw1,Blk.later ((Blk.newAt w 38 #[.pointer (some ⟨g,0,none⟩)] rfl).alloc _) hb1,Blk.later (Blk.newAt _ 32 #[.int .i64 m.kind,.int .u64 m.epoch,.int .u64 m.seq,.int .u64 m.pos,.int .i64 m.count,.int .i64 m.state,.slice a1 m.streams.length c1,.slice a2 m.links.length c2,.slice a3 m.data.length c3,.int .u64 m.sea.epoch,.int .u64 m.sea.node,.int .u64 m.sea.tail,.int .u64 m.proj.epoch,.slice a4 m.proj.stripes.length c4] zR) hb1,fun hf=>by have:=HLT.out _ hf;omega,fun hf=>by have:=HLT.out _ hf;omega,Bl.tr (fun A cs x hx=>Ky hbw1 hx) HD.out⟩
 have HBW1:=hid hbw1
 clear hb1 hbw1;have q1_0:w1.cell? ⟨w.heap.size,0,none⟩=some (.pointer (some ⟨g,0,none⟩)):=hI1.pa.cell 0
 have HC1:=hid (PU hI1 (A1 m.pos.toNat) (fun hh W hW=>QY (hI1.later hW) (HM.out.pos hh) zBg zBg))
 have HI1:=hid hI1
 clear hI1;go_wp2_with fail;refine HC1.out.mono ?_
 rintro r w2 ⟨rfl,hst⟩;obtain⟨a2',c2',hI2,ht,ha⟩:=HI1.out.step hst
 have HT1:=hid (And.intro ht ha)
 clear hst ht ha;have q2_0:w2.cell? ⟨w.heap.size,0,none⟩=some (.pointer (some ⟨g,0,none⟩)):=hI2.pa.cell 0
 have HC2:=hid (PT hI2 (A1 m.count.toNat) (fun hh W hW=>O2 (hI2.later hW) (HM.out.count hh) zBf zBf))
 have HI2:=hid hI2
 clear hI2;go_wp2_with fail;refine HC2.out.mono ?_
 rintro r w3 ⟨rfl,hst⟩;obtain⟨a3',c3',hI3,ht,ha⟩:=HI2.out.step hst
 have HT2:=hid (And.intro ht ha)
 clear hst ht ha;have q3_0:w3.cell? ⟨w.heap.size,0,none⟩=some (.pointer (some ⟨g,0,none⟩)):=hI3.pa.cell 0
 have HC3:=hid (PS hI3 ([UInt8.ofNat m.state.toNat]) (fun hh W hW=>OZ (hI3.later hW) (by have:=HM.out.state hh;have:=Qj m.kind;omega) zA2 zA2))
 have HI3:=hid hI3
 clear hI3;go_wp2_with fail;refine HC3.out.mono ?_
 rintro r w4 ⟨rfl,hst⟩;obtain⟨a4',c4',hI4,ht,ha⟩:=HI3.out.step hst
 have HT3:=hid (And.intro ht ha)
 clear hst ht ha;have q4_0:w4.cell? ⟨w.heap.size,0,none⟩=some (.pointer (some ⟨g,0,none⟩)):=hI4.pa.cell 0
 have HC4:=hid (PR hI4 (Jq m.streams) (fun hh=>absurd hh (by rw[HNO.out.1];decide)))
 have HI4:=hid hI4
 clear hI4;go_wp2_with fail;refine HC4.out.mono ?_
 rintro r w5 ⟨rfl,hst⟩;obtain⟨a5',c5',hI5,ht,ha⟩:=HI4.out.step hst
 have HT4:=hid (And.intro ht ha)
 clear hst ht ha;have q5_0:w5.cell? ⟨w.heap.size,0,none⟩=some (.pointer (some ⟨g,0,none⟩)):=hI5.pa.cell 0
 have HC5:=hid (O1 hI5 (FK m.pos m.links) (fun hh=>absurd hh (by rw[HNO.out.2.1];decide)))
 have HI5:=hid hI5
 clear hI5;go_wp2_with fail;refine HC5.out.mono ?_
 rintro r w6 ⟨rfl,hst⟩;obtain⟨a6',c6',hI6,ht,ha⟩:=HI5.out.step hst
 have HT5:=hid (And.intro ht ha)
 clear hst ht ha;have q6_0:w6.cell? ⟨w.heap.size,0,none⟩=some (.pointer (some ⟨g,0,none⟩)):=hI6.pa.cell 0
 have z6_0:w6.cell? ⟨w.heap.size+1,0,none⟩=some (.int .i64 m.kind):=hI6.pb.cell 0
 have z6_1:w6.cell? ⟨w.heap.size+1,1,none⟩=some (.int .u64 m.epoch):=hI6.pb.cell 1
 have z6_2:w6.cell? ⟨w.heap.size+1,2,none⟩=some (.int .u64 m.seq):=hI6.pb.cell 2
 have z6_3:w6.cell? ⟨w.heap.size+1,3,none⟩=some (.int .u64 m.pos):=hI6.pb.cell 3
 have z6_4:w6.cell? ⟨w.heap.size+1,4,none⟩=some (.int .i64 m.count):=hI6.pb.cell 4
 have z6_5:w6.cell? ⟨w.heap.size+1,5,none⟩=some (.int .i64 m.state):=hI6.pb.cell 5
 have z6_6:w6.cell? ⟨w.heap.size+1,6,none⟩=some (.slice a1 m.streams.length c1):=hI6.pb.cell 6
 have z6_7:w6.cell? ⟨w.heap.size+1,7,none⟩=some (.slice a2 m.links.length c2):=hI6.pb.cell 7
 have z6_8:w6.cell? ⟨w.heap.size+1,8,none⟩=some (.slice a3 m.data.length c3):=hI6.pb.cell 8
 have z6_9:w6.cell? ⟨w.heap.size+1,9,none⟩=some (.int .u64 m.sea.epoch):=hI6.pb.cell 9
 have z6_10:w6.cell? ⟨w.heap.size+1,10,none⟩=some (.int .u64 m.sea.node):=hI6.pb.cell 10
 have z6_11:w6.cell? ⟨w.heap.size+1,11,none⟩=some (.int .u64 m.sea.tail):=hI6.pb.cell 11
 have z6_12:w6.cell? ⟨w.heap.size+1,12,none⟩=some (.int .u64 m.proj.epoch):=hI6.pb.cell 12
 have z6_13:w6.cell? ⟨w.heap.size+1,13,none⟩=some (.slice a4 m.proj.stripes.length c4):=hI6.pb.cell 13
 have HI6:=hid hI6
 clear hI6;go_wp2_with fail;refine (HHD.out _).mono ?_
 rintro r v6 ⟨rfl,hb6⟩;have hJ6:=HI6.out.later hb6
 clear z6_0 z6_1 z6_2 z6_3 z6_4 z6_5 z6_6 z6_7 z6_8 z6_9 z6_10 z6_11 z6_12 z6_13;have u6_0:v6.cell? ⟨w.heap.size,0,none⟩=some (.pointer (some ⟨g,0,none⟩)):=hJ6.pa.cell 0
 have u6_8:v6.cell? ⟨w.heap.size+1,8,none⟩=some (.slice a3 m.data.length c3):=hJ6.pb.cell 8
 have HK6:Hid (BJ m.kind m.state=true→Calls Tryz.prog 74 #[.pointer (some ⟨g,0,none⟩),.slice a3 m.data.length c3] v6 fun r w'=>r=.returned (.tuple #[])∧AB v6 g base most (J++Bx (AE m.kind 1) (A1 m.pos.toNat)++Bx (AE m.kind 2) (A1 m.count.toNat)++Bx (AE m.kind 4) ([UInt8.ofNat m.state.toNat])++Bx (AE m.kind 8) (Jq m.streams)++Bx (AE m.kind 16) (FK m.pos m.links)++Cw m.data) a6' w'):=hid (fun hh=>absurd hh (by rw[HNO.out.2.2.2.2];decide))
 have HJ6:=hid hJ6
 have HB6:=hid hb6
 clear hJ6 hb6;go_upto_if 27 with (fail)
 go_cut [27] from 28 to 31 (fun s27 V=>∃a' c',F0 V g base most (J++Bx (AE m.kind 1) (A1 m.pos.toNat)++Bx (AE m.kind 2) (A1 m.count.toNat)++Bx (AE m.kind 4) ([UInt8.ofNat m.state.toNat])++Bx (AE m.kind 8) (Jq m.streams)++Bx (AE m.kind 16) (FK m.pos m.links)++Bx (BJ m.kind m.state) (Cw m.data)) a' c' w.heap.size (w.heap.size+1) m a1 c1 a2 c2 a3 c3 a4 c4∧Tch (DY g a6') v6 V∧(a'.map Addr.block=a6'.map Addr.block∨∃q,a'.map Addr.block=some q∧v6.heap.size≤q))
 case first=>
  have HK:=HK6.out
  have hq:BJ m.kind m.state=true∨BJ m.kind m.state=false:=by cases BJ m.kind m.state<;>simp
  rcases hq with hq | hq
  ·have HKK:=hid (HK hq)
   clear HK;rw[hq]
   go_wp2_with fail;refine HKK.out.mono ?_
   rintro r x1 ⟨rfl,hst⟩;obtain⟨a',c',hI,ht,ha⟩:=HJ6.out.step hst
   go_wp2_with fail;go_meet
   case rel=>exact ⟨a',c',by simpa [Bx,hq] using hI,ht,ha⟩
  ·clear HK
   rw[hq]
   go_wp2_with fail;go_meet
   case rel=>exact ⟨a6',c6',by simpa [Bx,hq] using HJ6.out,Tch.refl _ _,.inl rfl⟩
 case rest=>
 obtain⟨a7',c7',hI7,ht,ha⟩:=hcut
 obtain⟨w7,hwn⟩:∃W:World,W=wc:=⟨_,rfl⟩
 subst hwn;have HT6:=hid (And.intro ht ha)
 clear ht ha;have q7_0:w7.cell? ⟨w.heap.size,0,none⟩=some (.pointer (some ⟨g,0,none⟩)):=hI7.pa.cell 0
 have HC7:=hid (O0 hI7 (Js m.sea) (fun hh=>absurd hh (by rw[HNO.out.2.2.1];decide)))
 have HI7:=hid hI7
 clear hI7;go_wp2_with fail;refine HC7.out.mono ?_
 rintro r w8 ⟨rfl,hst⟩;obtain⟨a8',c8',hI8,ht,ha⟩:=HI7.out.step hst
 have HT7:=hid (And.intro ht ha)
 clear hst ht ha;have q8_0:w8.cell? ⟨w.heap.size,0,none⟩=some (.pointer (some ⟨g,0,none⟩)):=hI8.pa.cell 0
 have HC8:=hid (Nt hI8 (JA m.proj) (fun hh=>absurd hh (by rw[HNO.out.2.2.2.1];decide)))
 have HI8:=hid hI8
 clear hI8;go_wp2_with fail;refine HC8.out.mono ?_
 rintro r w9 ⟨rfl,hst⟩;obtain⟨a9',c9',hI9,ht,ha⟩:=HI8.out.step hst
 have HT8:=hid (And.intro ht ha)
 clear hst ht ha;have hn:=AB.refl hI9.pen
 have hn:=AB.trans (J:=J) HT8.out.1 HT8.out.2 hn
 have hn:=AB.trans (J:=J) HT7.out.1 HT7.out.2 hn
 have hn:=AB.trans (J:=J) HT6.out.1 HT6.out.2 hn
 have hn:=AB.later HB6.out hn
 have hn:=AB.trans (J:=J) HT5.out.1 HT5.out.2 hn
 have hn:=AB.trans (J:=J) HT4.out.1 HT4.out.2 hn
 have hn:=AB.trans (J:=J) HT3.out.1 HT3.out.2 hn
 have hn:=AB.trans (J:=J) HT2.out.1 HT2.out.2 hn
 have hn:=AB.trans (J:=J) HT1.out.1 HT1.out.2 hn
 have hn:=AB.later HBW1.out hn
 have HST:=hid hn
 clear hn hI9;go_wp2_with fail;first | go_end0 | refine Ag (Av rfl _ _ _) rfl ?_
 refine⟨rfl,?_⟩
 have:=HST.out
 rw[hmb]
 simpa only[CT] using this
theorem IZ(w:World)(m:Msg)(a1:Option Addr)(c1:Nat)(a2:Option Addr)(c2:Nat)(a3:Option Addr)(c3:Nat)(a4:Option Addr)(c4:Nat)(hd:Bl (·<w.heap.size) w m a1 c1 a2 c2 a3 c3 a4 c4)(hbk:∀x∈m.links,x.backs.length≤1000000)(hln:m.data.length≤10000000000)(hR:J4 m=true)(hno:RZ m):
  Calls Tryz.prog 14 #[.agg #[.int .i64 m.kind,.int .u64 m.epoch,.int .u64 m.seq,.int .u64 m.pos,.int .i64 m.count,.int .i64 m.state,.slice a1 m.streams.length c1,.slice a2 m.links.length c2,.slice a3 m.data.length c3,.int .u64 m.sea.epoch,.int .u64 m.sea.node,.int .u64 m.sea.tail,.int .u64 m.proj.epoch,.slice a4 m.proj.stripes.length c4]] w fun r w'=>∃v,r=.returned (.tuple #[v,.int .i64 (Gm m).2])∧Ah.r (fun q=>w.heap.size≤q∧q<w'.heap.size) w' [v] (Gm m).1∧Below w.heap.size w w':=by
 have HD:=hid hd
 have hmo:(65536:Int)+(m.data.length:Int)=((65536+m.data.length:Nat):Int):=zD
 have HN:=hid (fun W:World=>(by have:=Li W (65536+m.data.length) zD;rw[←hmo] at this;exact this:Calls Tryz.prog 15 #[.int .i64 ((65536:Int)+(m.data.length:Int))] W fun r w'=>r=.returned (.pointer (some ⟨W.heap.size,0,none⟩))∧CH w' W.heap.size W.heap.size (65536+m.data.length) [] none 0∧Below W.heap.size W w'))
 unfold Gm;have HBX:Hid (Blk (w.alloc (.cells #[.int .i64 m.kind,.int .u64 m.epoch,.int .u64 m.seq,.int .u64 m.pos,.int .i64 m.count,.int .i64 m.state,.slice a1 m.streams.length c1,.slice a2 m.links.length c2,.slice a3 m.data.length c3,.int .u64 m.sea.epoch,.int .u64 m.sea.node,.int .u64 m.sea.tail,.int .u64 m.proj.epoch,.slice a4 m.proj.stripes.length c4] 32)) w.heap.size 32 #[.int .i64 m.kind,.int .u64 m.epoch,.int .u64 m.seq,.int .u64 m.pos,.int .i64 m.count,.int .i64 m.state,.slice a1 m.streams.length c1,.slice a2 m.links.length c2,.slice a3 m.data.length c3,.int .u64 m.sea.epoch,.int .u64 m.sea.node,.int .u64 m.sea.tail,.int .u64 m.proj.epoch,.slice a4 m.proj.stripes.length c4]):=hid (Blk.new w _ _)
 have hb0:Below w.heap.size w (w.alloc (.cells #[.int .i64 m.kind,.int .u64 m.epoch,.int .u64 m.seq,.int .u64 m.pos,.int .i64 m.count,.int .i64 m.state,.slice a1 m.streams.length c1,.slice a2 m.links.length c2,.slice a3 m.data.length c3,.int .u64 m.sea.epoch,.int .u64 m.sea.node,.int .u64 m.sea.tail,.int .u64 m.proj.epoch,.slice a4 m.proj.stripes.length c4] 32)):=zC
 rw[Al hR]
 have hbl:=Qi hR
 have HPT:=hid (fun (W:World) {g base most:Nat} {a:Option Addr} {c:Nat} (h:CH W g base most [] a c) (hW:Bl (fun q=>q<W.heap.size∧¬DY g a q) W m a1 c1 a2 c2 a3 c3 a4 c4) (hf:(I4 m).length≤most)=>Pk W h m a1 c1 a2 c2 a3 c3 a4 c4 hW hbk hR hno (by simpa using hf) zK)
 have hfit:(I4 m).length≤65536+m.data.length:=zD
 generalize I4 m=K at*
 clear hd hR hbk hmo hbl hno;go_enter Tryz.func14,Tryz.ntmps14
 go_wp2_with fail;generalize w.alloc (.cells #[.int .i64 m.kind,.int .u64 m.epoch,.int .u64 m.seq,.int .u64 m.pos,.int .i64 m.count,.int .i64 m.state,.slice a1 m.streams.length c1,.slice a2 m.links.length c2,.slice a3 m.data.length c3,.int .u64 m.sea.epoch,.int .u64 m.sea.node,.int .u64 m.sea.tail,.int .u64 m.proj.epoch,.slice a4 m.proj.stripes.length c4] 32)=w0 at*
 refine (HN.out _).mono ?_
 rintro r w2 ⟨rfl,hp2,hb2⟩;have hB2:=HBX.out.later hb2
 have y0:w2.cell? ⟨w.heap.size,0,none⟩=some (.int .i64 m.kind):=hB2.cell 0
 have y1:w2.cell? ⟨w.heap.size,1,none⟩=some (.int .u64 m.epoch):=hB2.cell 1
 have y2:w2.cell? ⟨w.heap.size,2,none⟩=some (.int .u64 m.seq):=hB2.cell 2
 have y3:w2.cell? ⟨w.heap.size,3,none⟩=some (.int .u64 m.pos):=hB2.cell 3
 have y4:w2.cell? ⟨w.heap.size,4,none⟩=some (.int .i64 m.count):=hB2.cell 4
 have y5:w2.cell? ⟨w.heap.size,5,none⟩=some (.int .i64 m.state):=hB2.cell 5
 have y6:w2.cell? ⟨w.heap.size,6,none⟩=some (.slice a1 m.streams.length c1):=hB2.cell 6
 have y7:w2.cell? ⟨w.heap.size,7,none⟩=some (.slice a2 m.links.length c2):=hB2.cell 7
 have y8:w2.cell? ⟨w.heap.size,8,none⟩=some (.slice a3 m.data.length c3):=hB2.cell 8
 have y9:w2.cell? ⟨w.heap.size,9,none⟩=some (.int .u64 m.sea.epoch):=hB2.cell 9
 have y10:w2.cell? ⟨w.heap.size,10,none⟩=some (.int .u64 m.sea.node):=hB2.cell 10
 have y11:w2.cell? ⟨w.heap.size,11,none⟩=some (.int .u64 m.sea.tail):=hB2.cell 11
 have y12:w2.cell? ⟨w.heap.size,12,none⟩=some (.int .u64 m.proj.epoch):=hB2.cell 12
 have y13:w2.cell? ⟨w.heap.size,13,none⟩=some (.slice a4 m.proj.stripes.length c4):=hB2.cell 13
 have hbw2:=Af hb2 hb0
 have hs1:=hb0.size
 have HPA:=hid hp2
 have HP2:=hid (HPT.out w2 hp2 (Bl.tr (fun A cs x hx=>A.mono (A.keep hx fun q hq=>hbw2.block q hq) fun q hq=>⟨by have:=hbw2.size;omega,fun hf=>by have:=(hp2.De hf).1;omega⟩) HD.out) hfit)
 clear hp2 hB2;go_wp2_with fail;refine HP2.out.mono ?_
 rintro r w3 ⟨rfl,hst⟩;rw[B9] at hst
 have hbw3:Below w.heap.size w w3:=hbw2.trans (HPA.out.below hs1 hbw2.size hst)
 obtain⟨a9,c9,hp3,_,_⟩:=hst
 have HB:=hid (Ih w3 hp3)
 have hs3:=hbw3.size
 clear hp3 y0 y1 y2 y3 y4 y5 y6 y7 y8 y9 y10 y11 y12 y13;go_wp2_with fail;refine HB.out.mono ?_
 rintro r w4 ⟨v,rfl,hv,hb4⟩;have hbe:=Af hb4 hbw3
 have HV:=hid (Ah.mono (S':=fun q=>w.heap.size≤q∧q<w4.heap.size) hv fun q hq=>⟨zZ,hq.2⟩)
 clear hv;go_wp2_with fail;go_ret2
 exact⟨_,rfl,HV.out,hbe⟩
theorem Lo(w:World):Calls Tryz.prog 13 #[] w fun r w'=>r=.returned (.bool true)∧Below w.heap.size w w':=by
 have HA:=hid (fun W:World=>(by
  have:=IZ W Lq none 0 none 0 none 0 none 0 (JE ⟨zS,zS⟩ ⟨zS,zS⟩ ⟨zS,zS⟩ ⟨zS,zS⟩ ⟨zS,zS⟩ ⟨zS,zS⟩ rfl rfl rfl ⟨⟨zS,zS⟩,⟨zS,zS⟩,⟨zS,zS⟩⟩ ⟨zS,zS⟩ rfl) (fun x hx=>by simp[Lq] at hx) zS zS ⟨zS,zS,zS,zS,zS⟩
  rw[J6] at this
  exact this:Calls Tryz.prog 14 #[.agg #[.int .i64 1,.int .u64 0,.int .u64 0,.int .u64 300,.int .i64 0,.int .i64 0,.slice none 0 0,.slice none 0 0,.slice none 0 0,.int .u64 0,.int .u64 0,.int .u64 0,.int .u64 0,.slice none 0 0]] W fun r w'=>∃v,r=.returned (.tuple #[v,.int .i64 0])∧Ah.r (fun q=>W.heap.size≤q∧q<w'.heap.size) w' [v] [172,2]∧Below W.heap.size W w'))
 have HB:=hid (fun W:World=>(by
  have:=IZ W Lp none 0 none 0 none 0 none 0 (JE ⟨zS,zS⟩ ⟨zS,zS⟩ ⟨zS,zS⟩ ⟨zS,zS⟩ ⟨zS,zS⟩ ⟨zS,zS⟩ rfl rfl rfl ⟨⟨zS,zS⟩,⟨zS,zS⟩,⟨zS,zS⟩⟩ ⟨zS,zS⟩ rfl) (fun x hx=>by simp[Lp] at hx) zS zS ⟨zS,zS,zS,zS,zS⟩
  rw[J5] at this
  exact this:Calls Tryz.prog 14 #[.agg #[.int .i64 9,.int .u64 0,.int .u64 0,.int .u64 0,.int .i64 0,.int .i64 2,.slice none 0 0,.slice none 0 0,.slice none 0 0,.int .u64 0,.int .u64 0,.int .u64 0,.int .u64 0,.slice none 0 0]] W fun r w'=>∃v,r=.returned (.tuple #[v,.int .i64 0])∧Ah.r (fun q=>W.heap.size≤q∧q<w'.heap.size) w' [v] [2]∧Below W.heap.size W w'))
 go_enter Tryz.func13,Tryz.ntmps13
 go_wp2_with fail;refine (HA.out _).mono ?_
 rintro r w1 ⟨v1,rfl,hr1,hb1⟩;obtain⟨e1,d1,hv1,hs1,_⟩:=Au hr1
 simp only[Aj,At] at hv1
 subst hv1;have HS1:=hid (Ah.mono hs1 (S':=(·<w1.heap.size)) fun q hq=>hq.2)
 have hbw1:Below w.heap.size w w1:=zA
 clear hr1 hs1;go_wp2_with fail;refine (HB.out _).mono ?_
 rintro r w2 ⟨v2,rfl,hr2,hb2⟩;obtain⟨e2,d2,hv2,hs2,_⟩:=Au hr2
 simp only[Aj,At] at hv2
 subst hv2;have HS2:=hid (Ah.mono hs2 (S':=(·<w2.heap.size)) fun q hq=>hq.2)
 have HS1b:=hid (lift HS1.out hb2)
 have hbw2:=Af hb2 hbw1
 clear hr2 hs2 hb1 hb2 hbw1;go_wp2_with fail;have hsa:=ER [172,2] [172,2] e1 (some ⟨w2.heap.size,0,none⟩) _ d1 2 2 (w2.alloc (.cells #[.int .u8 172,.int .u8 2] 5)) (lift HS1b.out (by clear hbw2;(repeat (first | exact Below.refl _ _ | assumption | (refine As ?_ _) | (refine Below.setCell ?_ (by first | omega | (simp;done) | (simp;omega)) _) | (refine Below.drew ?_) | (refine below_drewN ?_ _) | (refine Af (by assumption) ?_))))) (KF (l:=[172,2]) (cs:=#[.int .u8 172,.int .u8 2]) rfl zS (Dj w2 _))
 simp only[decide_true] at hsa
 refine hsa.mono ?_
 rintro r w3 ⟨rfl,rfl⟩;have hbw3:Below w.heap.size w (w2.alloc (.cells #[.int .u8 172,.int .u8 2] 5)):=As hbw2 _
 have HS2b:=hid (lift HS2.out (As (Below.refl _ _) (.cells #[.int .u8 172,.int .u8 2] 5)))
 clear hsa hbw2;generalize w2.alloc (.cells #[.int .u8 172,.int .u8 2] 5)=w3 at*
 go_wp2_with fail;have hsb:=ER [2] [2] e2 (some ⟨w3.heap.size,0,none⟩) _ d2 1 1 (w3.alloc (.cells #[.int .u8 2] 5)) (lift HS2b.out (by clear hbw3;(repeat (first | exact Below.refl _ _ | assumption | (refine As ?_ _) | (refine Below.setCell ?_ (by first | omega | (simp;done) | (simp;omega)) _) | (refine Below.drew ?_) | (refine below_drewN ?_ _) | (refine Af (by assumption) ?_))))) (KF (l:=[2]) (cs:=#[.int .u8 2]) rfl zS (Dj w3 _))
 simp only[decide_true] at hsb
 refine hsb.mono ?_
 rintro r w4 ⟨rfl,rfl⟩;have hbw4:Below w.heap.size w (w3.alloc (.cells #[.int .u8 2] 5)):=As hbw3 _
 clear hsb;generalize w3.alloc (.cells #[.int .u8 2] 5)=w4 at*
 go_wp2_with fail;go_ret;exact⟨rfl,hbw4⟩
theorem Gj{W:World}{g w0:Nat}{B:List UInt8}{a:Option Addr}{s:Rs}(hb:Blk W g 117 #[.slice a B.length B.length,.int .i64 (s.p:Int),.int .i64 s.k,.int .i64 s.f])(hd:Ah.r (·<w0) W [.slice a B.length B.length] B)(hg:w0≤g)(hs:s.ok B.length):AQ W g B a s:=
 ⟨hb,Ah.mono hd fun q hq=>⟨An hq (AV hg (Nat.le_of_lt hb.lt)),zD⟩,hs⟩
theorem MJ(B:List UInt8)(ad:Option Addr)(n c:Nat)(k:Int)(hki:inI k)(w:World)(hl:Ah.r (·<w.heap.size) w [.slice ad n c] B):
  Calls Tryz.prog 5 #[.slice ad n c,.int .i64 k] w fun r w'=>r=.returned (.bool true)∧Below w.heap.size w w':=by
 obtain⟨rfl,hm,_,_⟩:=AW hl
 have HL:=hid hl
 have HKI:=hid hki
 by_cases h400:B.length≤400
 ·have d0:decide ((400:Int)<(B.length:Int))=false:=Ad zD
  have ok0:(⟨0,0,0⟩:Rs).ok B.length:=⟨Am _,fun _=>rfl⟩
  have hcap:Ah.r (·<w.heap.size) w [.slice ad B.length B.length] B:=by
   have:=(QB hl (n:=B.length) (Ai _)).2
   rwa [I9] at this
  have HCAP:=hid hcap
  have HGR:=hid (Mj w B ad B.length c HL.out zD)
  have HBK:=hid (IJ k 1 w)
  generalize hS:(⟨0,0,0⟩:Rs).body B (EB B) k=S at*
  generalize hL:(⟨0,0,0⟩:Rs).body B (Fa B) k=L at*
  obtain⟨s1,m1,f1⟩:=S
  obtain⟨s2,m2,f2⟩:=L
  have HS:=hid (fun (W:World) (g:Nat) (h:AQ W g B ad ⟨0,0,0⟩)=>RV W h zD k HKI.out hS)
  have HLo:=hid (fun (W:World) (g:Nat) (h:AQ W g B ad ⟨0,0,0⟩)=>RW W h zD k HKI.out hL)
  have HRS:=hid (fun (W:World) (hW:Below w.heap.size w W)=>(by have:=RQ W ad c B (lift HL.out hW) ⟨0,0,0⟩ ok0 zD k HKI.out true hS;unfold CV at this;exact this:Calls Tryz.prog 41 #[.agg #[.slice ad B.length c,.int .i64 0,.int .i64 0,.int .i64 0],.int .i64 k,.bool true] W fun r w'=>∃a1 a1' a2 a2' a3 a3' a4 a4',r=.returned (.tuple #[.agg #[.slice ad B.length c,.int .i64 (s1.p:Int),.int .i64 s1.k,.int .i64 s1.f],.agg #[.int .i64 m1.kind,.int .u64 m1.epoch,.int .u64 m1.seq,.int .u64 m1.pos,.int .i64 m1.count,.int .i64 m1.state,.slice a1 m1.streams.length a1',.slice a2 m1.links.length a2',.slice a3 m1.data.length a3',.int .u64 m1.sea.epoch,.int .u64 m1.sea.node,.int .u64 m1.sea.tail,.int .u64 m1.proj.epoch,.slice a4 m1.proj.stripes.length a4'],.bool f1])∧Bl (fun q=>W.heap.size≤q∧q<w'.heap.size) w' m1 a1 a1' a2 a2' a3 a3' a4 a4'∧Below W.heap.size W w'))
  have HRL:=hid (fun (W:World) (hW:Below w.heap.size w W)=>(by have:=RQ W ad c B (lift HL.out hW) ⟨0,0,0⟩ ok0 zD k HKI.out false hL;unfold CV at this;exact this:Calls Tryz.prog 41 #[.agg #[.slice ad B.length c,.int .i64 0,.int .i64 0,.int .i64 0],.int .i64 k,.bool false] W fun r w'=>∃a1 a1' a2 a2' a3 a3' a4 a4',r=.returned (.tuple #[.agg #[.slice ad B.length c,.int .i64 (s2.p:Int),.int .i64 s2.k,.int .i64 s2.f],.agg #[.int .i64 m2.kind,.int .u64 m2.epoch,.int .u64 m2.seq,.int .u64 m2.pos,.int .i64 m2.count,.int .i64 m2.state,.slice a1 m2.streams.length a1',.slice a2 m2.links.length a2',.slice a3 m2.data.length a3',.int .u64 m2.sea.epoch,.int .u64 m2.sea.node,.int .u64 m2.sea.tail,.int .u64 m2.proj.epoch,.slice a4 m2.proj.stripes.length a4'],.bool f2])∧Bl (fun q=>W.heap.size≤q∧q<w'.heap.size) w' m2 a1 a1' a2 a2' a3 a3' a4 a4'∧Below W.heap.size W w'))
  clear hl hcap hS hL hki;go_enter Tryz.func5,Tryz.ntmps5
  go_upto_region 1 with (fail)
  go_cut [26] from 16 to 25 (fun v V=>∃q,v=.bool q∧Hid (V=w))
  case first=>
   go_wp2_with fail;refine HBK.out.mono ?_
   rintro r w0 ⟨rfl,rfl⟩;cases hbk:BJ k 1
   ·go_wp2_with fail
    go_meet
    case rel=>exact ⟨false,rfl,hid rfl⟩
   ·go_wp2_with fail
    refine HGR.out.mono ?_
    rintro r w0 ⟨q0,rfl,rfl⟩;go_wp2_with fail;go_meet
    case rel=>exact ⟨q0,rfl,hid rfl⟩
  case rest=>
   obtain⟨q0,rfl,hV⟩:=hcut
   have hV':=hV.out.symm
   subst hV';cases q0;rotate_left
   ·skip
    go_wp2_with fail;refine (Lo _).mono ?_
    rintro r w99 ⟨rfl,hb99⟩;have hbe:=hb99
    go_wp2;go_ret;exact⟨rfl,hbe⟩
   ·skip
    go_wp2_with fail;refine (Nr w B ad _ c HL.out).mono ?_
    rintro r w1 ⟨rfl,hrd1,hb1⟩;go_wp2_with fail;refine (Nr w1 B ad _ c (lift HL.out hb1)).mono ?_
    rintro r w2 ⟨rfl,hrd2,hb2⟩;have hbw2:=Af hb2 hb1
    have hrd1':=hrd1.later hb2
    have l1:=hrd1.blk.lt
    have l2:=hrd2.blk.lt
    have hz12:=hb2.size
    clear hrd1;go_wp2_with fail;refine (HS.out w2 _ hrd1').mono ?_
    rintro r w3 ⟨x1,x1',x2,x2',x3,x3',x4,x4',rfl,hm3,hst3⟩;have hbw3:Below w.heap.size w w3:=hbw2.trans (hst3.below hbw2.size (Ai _))
    have hs3:=hst3.size
    have HX3:=hid (Bl.KI hm3 (fun q hq=>rfl) (fun q hq=>(⟨zZ,hq.2⟩:w1.heap.size<q∧q<w3.heap.size)))
    have R1a:=hst3.1.blk
    have ok1:=hst3.1.ok
    have R2a:=hrd2.blk.tch hst3.2 zD
    clear hrd1' hrd2 hm3 hst3 hb1 hb2 hbw2;go_wp2_with fail;have hbA:Below w3.heap.size w3 (w3.alloc (.cells #[.int .i64 m1.kind,.int .u64 m1.epoch,.int .u64 m1.seq,.int .u64 m1.pos,.int .i64 m1.count,.int .i64 m1.state,.slice x1 m1.streams.length x1',.slice x2 m1.links.length x2',.slice x3 m1.data.length x3',.int .u64 m1.sea.epoch,.int .u64 m1.sea.node,.int .u64 m1.sea.tail,.int .u64 m1.proj.epoch,.slice x4 m1.proj.stripes.length x4'] 32)):=zA
    have T7b:Blk (w3.alloc (.cells #[.int .i64 m1.kind,.int .u64 m1.epoch,.int .u64 m1.seq,.int .u64 m1.pos,.int .i64 m1.count,.int .i64 m1.state,.slice x1 m1.streams.length x1',.slice x2 m1.links.length x2',.slice x3 m1.data.length x3',.int .u64 m1.sea.epoch,.int .u64 m1.sea.node,.int .u64 m1.sea.tail,.int .u64 m1.proj.epoch,.slice x4 m1.proj.stripes.length x4'] 32)) w3.heap.size 32 #[.int .i64 m1.kind,.int .u64 m1.epoch,.int .u64 m1.seq,.int .u64 m1.pos,.int .i64 m1.count,.int .i64 m1.state,.slice x1 m1.streams.length x1',.slice x2 m1.links.length x2',.slice x3 m1.data.length x3',.int .u64 m1.sea.epoch,.int .u64 m1.sea.node,.int .u64 m1.sea.tail,.int .u64 m1.proj.epoch,.slice x4 m1.proj.stripes.length x4']:=Blk.newAt _ _ _ rfl
    have HX3b:=hid (Bl.KI HX3.out (fun q hq=>hbA.block q hq.2) (fun q hq=>(⟨hq.1,An hq.2 hbA.size⟩:w1.heap.size<q∧q<((w3.alloc (.cells #[.int .i64 m1.kind,.int .u64 m1.epoch,.int .u64 m1.seq,.int .u64 m1.pos,.int .i64 m1.count,.int .i64 m1.state,.slice x1 m1.streams.length x1',.slice x2 m1.links.length x2',.slice x3 m1.data.length x3',.int .u64 m1.sea.epoch,.int .u64 m1.sea.node,.int .u64 m1.sea.tail,.int .u64 m1.proj.epoch,.slice x4 m1.proj.stripes.length x4'] 32))).heap.size)))
    have R1b:=R1a.later hbA
    have R2b:=R2a.later hbA
    have hbw3b:=Af hbA hbw3
    have hz3:w3.heap.size<((w3.alloc (.cells #[.int .i64 m1.kind,.int .u64 m1.epoch,.int .u64 m1.seq,.int .u64 m1.pos,.int .i64 m1.count,.int .i64 m1.state,.slice x1 m1.streams.length x1',.slice x2 m1.links.length x2',.slice x3 m1.data.length x3',.int .u64 m1.sea.epoch,.int .u64 m1.sea.node,.int .u64 m1.sea.tail,.int .u64 m1.proj.epoch,.slice x4 m1.proj.stripes.length x4'] 32))).heap.size:=zR
    clear hbA R1a R2a HX3 hbw3;generalize (w3.alloc (.cells #[.int .i64 m1.kind,.int .u64 m1.epoch,.int .u64 m1.seq,.int .u64 m1.pos,.int .i64 m1.count,.int .i64 m1.state,.slice x1 m1.streams.length x1',.slice x2 m1.links.length x2',.slice x3 m1.data.length x3',.int .u64 m1.sea.epoch,.int .u64 m1.sea.node,.int .u64 m1.sea.tail,.int .u64 m1.proj.epoch,.slice x4 m1.proj.stripes.length x4'] 32))=v3 at*
    refine (HLo.out v3 w1.heap.size (Gj R2b (Rp.below Ah HCAP.out hbw3b) zD ok0)).mono ?_
    rintro r w4 ⟨y1,y1',y2,y2',y3,y3',y4,y4',rfl,hm4,hst4⟩;have hbw4:Below w.heap.size w w4:=hbw3b.trans (hst4.below hbw3b.size zD)
    have hs4:=hst4.size
    have X3c:=hid (Bl.KI HX3b.out (fun q hq=>hst4.2.block q hq.2 zZ) (fun q hq=>(by have:=hq.2;omega:q<w4.heap.size)))
    have X4c:=hid (Bl.KI hm4 (fun q hq=>rfl) (fun q hq=>(hq.2:q<w4.heap.size)))
    have R1c:=R1b.tch hst4.2 zD
    have R2c:=hst4.1.blk
    have ok2:=hst4.1.ok
    have T7c:=T7b.tch hst4.2 zD
    clear hm4 hst4 R1b R2b T7b HX3b hbw3b;go_wp2_with fail;have hbA:Below w4.heap.size w4 (w4.alloc (.cells #[.int .i64 m2.kind,.int .u64 m2.epoch,.int .u64 m2.seq,.int .u64 m2.pos,.int .i64 m2.count,.int .i64 m2.state,.slice y1 m2.streams.length y1',.slice y2 m2.links.length y2',.slice y3 m2.data.length y3',.int .u64 m2.sea.epoch,.int .u64 m2.sea.node,.int .u64 m2.sea.tail,.int .u64 m2.proj.epoch,.slice y4 m2.proj.stripes.length y4'] 32)):=zA
    have T8d:Blk (w4.alloc (.cells #[.int .i64 m2.kind,.int .u64 m2.epoch,.int .u64 m2.seq,.int .u64 m2.pos,.int .i64 m2.count,.int .i64 m2.state,.slice y1 m2.streams.length y1',.slice y2 m2.links.length y2',.slice y3 m2.data.length y3',.int .u64 m2.sea.epoch,.int .u64 m2.sea.node,.int .u64 m2.sea.tail,.int .u64 m2.proj.epoch,.slice y4 m2.proj.stripes.length y4'] 32)) w4.heap.size 32 #[.int .i64 m2.kind,.int .u64 m2.epoch,.int .u64 m2.seq,.int .u64 m2.pos,.int .i64 m2.count,.int .i64 m2.state,.slice y1 m2.streams.length y1',.slice y2 m2.links.length y2',.slice y3 m2.data.length y3',.int .u64 m2.sea.epoch,.int .u64 m2.sea.node,.int .u64 m2.sea.tail,.int .u64 m2.proj.epoch,.slice y4 m2.proj.stripes.length y4']:=Blk.newAt _ _ _ rfl
    have R1d:=R1c.later hbA
    have R2d:=R2c.later hbA
    have T7d:=T7c.later hbA
    have X3d:=hid (Bl.lift X3c.out hbA)
    have X4d:=hid (Bl.lift X4c.out hbA)
    clear R1c R2c T7c X3c X4c;have hbw4d:=Af hbA hbw4
    have hz4:w4.heap.size<((w4.alloc (.cells #[.int .i64 m2.kind,.int .u64 m2.epoch,.int .u64 m2.seq,.int .u64 m2.pos,.int .i64 m2.count,.int .i64 m2.state,.slice y1 m2.streams.length y1',.slice y2 m2.links.length y2',.slice y3 m2.data.length y3',.int .u64 m2.sea.epoch,.int .u64 m2.sea.node,.int .u64 m2.sea.tail,.int .u64 m2.proj.epoch,.slice y4 m2.proj.stripes.length y4'] 32))).heap.size:=zR
    clear hbA hbw4;generalize (w4.alloc (.cells #[.int .i64 m2.kind,.int .u64 m2.epoch,.int .u64 m2.seq,.int .u64 m2.pos,.int .i64 m2.count,.int .i64 m2.state,.slice y1 m2.streams.length y1',.slice y2 m2.links.length y2',.slice y3 m2.data.length y3',.int .u64 m2.sea.epoch,.int .u64 m2.sea.node,.int .u64 m2.sea.tail,.int .u64 m2.proj.epoch,.slice y4 m2.proj.stripes.length y4'] 32))=v4 at*
    refine (HRS.out v4 hbw4d).mono ?_
    rintro r w5 ⟨z1,z1',z2,z2',z3,z3',z4,z4',rfl,hm5,hb5⟩;have X5e:=hid (Bl.KI hm5 (fun q hq=>rfl) (fun q hq=>(hq.2:q<w5.heap.size)))
    have R1e:=R1d.later hb5
    have R2e:=R2d.later hb5
    have T7e:=T7d.later hb5
    have T8e:=T8d.later hb5
    have X3e:=hid (Bl.lift X3d.out hb5)
    have X4e:=hid (Bl.lift X4d.out hb5)
    clear R1d R2d T7d T8d X3d X4d;have hbw5:=Af hb5 hbw4d
    have hs5:=hb5.size
    clear hm5 hb5 hbw4d;go_wp2_with fail;have hbA:Below w5.heap.size w5 ((w5.alloc (.cells #[.slice ad B.length c,.int .i64 (s1.p:Int),.int .i64 s1.k,.int .i64 s1.f] 60)).alloc (.cells #[.int .i64 m1.kind,.int .u64 m1.epoch,.int .u64 m1.seq,.int .u64 m1.pos,.int .i64 m1.count,.int .i64 m1.state,.slice z1 m1.streams.length z1',.slice z2 m1.links.length z2',.slice z3 m1.data.length z3',.int .u64 m1.sea.epoch,.int .u64 m1.sea.node,.int .u64 m1.sea.tail,.int .u64 m1.proj.epoch,.slice z4 m1.proj.stripes.length z4'] 32)):=zA
    have C10f:Blk ((w5.alloc (.cells #[.slice ad B.length c,.int .i64 (s1.p:Int),.int .i64 s1.k,.int .i64 s1.f] 60)).alloc (.cells #[.int .i64 m1.kind,.int .u64 m1.epoch,.int .u64 m1.seq,.int .u64 m1.pos,.int .i64 m1.count,.int .i64 m1.state,.slice z1 m1.streams.length z1',.slice z2 m1.links.length z2',.slice z3 m1.data.length z3',.int .u64 m1.sea.epoch,.int .u64 m1.sea.node,.int .u64 m1.sea.tail,.int .u64 m1.proj.epoch,.slice z4 m1.proj.stripes.length z4'] 32)) w5.heap.size 60 #[.slice ad B.length c,.int .i64 (s1.p:Int),.int .i64 s1.k,.int .i64 s1.f]:=zB
    have T11f:Blk ((w5.alloc (.cells #[.slice ad B.length c,.int .i64 (s1.p:Int),.int .i64 s1.k,.int .i64 s1.f] 60)).alloc (.cells #[.int .i64 m1.kind,.int .u64 m1.epoch,.int .u64 m1.seq,.int .u64 m1.pos,.int .i64 m1.count,.int .i64 m1.state,.slice z1 m1.streams.length z1',.slice z2 m1.links.length z2',.slice z3 m1.data.length z3',.int .u64 m1.sea.epoch,.int .u64 m1.sea.node,.int .u64 m1.sea.tail,.int .u64 m1.proj.epoch,.slice z4 m1.proj.stripes.length z4'] 32)) (w5.heap.size+1) 32 #[.int .i64 m1.kind,.int .u64 m1.epoch,.int .u64 m1.seq,.int .u64 m1.pos,.int .i64 m1.count,.int .i64 m1.state,.slice z1 m1.streams.length z1',.slice z2 m1.links.length z2',.slice z3 m1.data.length z3',.int .u64 m1.sea.epoch,.int .u64 m1.sea.node,.int .u64 m1.sea.tail,.int .u64 m1.proj.epoch,.slice z4 m1.proj.stripes.length z4']:=zB
    have R1f:=R1e.later hbA
    have R2f:=R2e.later hbA
    have T7f:=T7e.later hbA
    have T8f:=T8e.later hbA
    have X3f:=hid (Bl.lift X3e.out hbA)
    have X4f:=hid (Bl.lift X4e.out hbA)
    have X5f:=hid (Bl.lift X5e.out hbA)
    clear R1e R2e T7e T8e X3e X4e X5e;have hbw5f:=Af hbA hbw5
    clear hbA hbw5;generalize ((w5.alloc (.cells #[.slice ad B.length c,.int .i64 (s1.p:Int),.int .i64 s1.k,.int .i64 s1.f] 60)).alloc (.cells #[.int .i64 m1.kind,.int .u64 m1.epoch,.int .u64 m1.seq,.int .u64 m1.pos,.int .i64 m1.count,.int .i64 m1.state,.slice z1 m1.streams.length z1',.slice z2 m1.links.length z2',.slice z3 m1.data.length z3',.int .u64 m1.sea.epoch,.int .u64 m1.sea.node,.int .u64 m1.sea.tail,.int .u64 m1.proj.epoch,.slice z4 m1.proj.stripes.length z4'] 32))=v5 at*
    refine (HRL.out v5 hbw5f).mono ?_
    rintro r w6 ⟨u1,u1',u2,u2',u3,u3',u4,u4',rfl,hm6,hb6⟩;have X6g:=hid (Bl.KI hm6 (fun q hq=>rfl) (fun q hq=>(hq.2:q<w6.heap.size)))
    have R1g:=R1f.later hb6
    have R2g:=R2f.later hb6
    have T7g:=T7f.later hb6
    have T8g:=T8f.later hb6
    have C10g:=C10f.later hb6
    have T11g:=T11f.later hb6
    have X3g:=hid (Bl.lift X3f.out hb6)
    have X4g:=hid (Bl.lift X4f.out hb6)
    have X5g:=hid (Bl.lift X5f.out hb6)
    clear R1f R2f T7f T8f C10f T11f X3f X4f X5f;have hbw6:=Af hb6 hbw5f
    clear hm6 hb6 hbw5f;go_wp2_with fail;have hbA:Below w6.heap.size w6 ((w6.alloc (.cells #[.slice ad B.length c,.int .i64 (s2.p:Int),.int .i64 s2.k,.int .i64 s2.f] 60)).alloc (.cells #[.int .i64 m2.kind,.int .u64 m2.epoch,.int .u64 m2.seq,.int .u64 m2.pos,.int .i64 m2.count,.int .i64 m2.state,.slice u1 m2.streams.length u1',.slice u2 m2.links.length u2',.slice u3 m2.data.length u3',.int .u64 m2.sea.epoch,.int .u64 m2.sea.node,.int .u64 m2.sea.tail,.int .u64 m2.proj.epoch,.slice u4 m2.proj.stripes.length u4'] 32)):=zA
    have C13h:Blk ((w6.alloc (.cells #[.slice ad B.length c,.int .i64 (s2.p:Int),.int .i64 s2.k,.int .i64 s2.f] 60)).alloc (.cells #[.int .i64 m2.kind,.int .u64 m2.epoch,.int .u64 m2.seq,.int .u64 m2.pos,.int .i64 m2.count,.int .i64 m2.state,.slice u1 m2.streams.length u1',.slice u2 m2.links.length u2',.slice u3 m2.data.length u3',.int .u64 m2.sea.epoch,.int .u64 m2.sea.node,.int .u64 m2.sea.tail,.int .u64 m2.proj.epoch,.slice u4 m2.proj.stripes.length u4'] 32)) w6.heap.size 60 #[.slice ad B.length c,.int .i64 (s2.p:Int),.int .i64 s2.k,.int .i64 s2.f]:=zB
    have T14h:Blk ((w6.alloc (.cells #[.slice ad B.length c,.int .i64 (s2.p:Int),.int .i64 s2.k,.int .i64 s2.f] 60)).alloc (.cells #[.int .i64 m2.kind,.int .u64 m2.epoch,.int .u64 m2.seq,.int .u64 m2.pos,.int .i64 m2.count,.int .i64 m2.state,.slice u1 m2.streams.length u1',.slice u2 m2.links.length u2',.slice u3 m2.data.length u3',.int .u64 m2.sea.epoch,.int .u64 m2.sea.node,.int .u64 m2.sea.tail,.int .u64 m2.proj.epoch,.slice u4 m2.proj.stripes.length u4'] 32)) (w6.heap.size+1) 32 #[.int .i64 m2.kind,.int .u64 m2.epoch,.int .u64 m2.seq,.int .u64 m2.pos,.int .i64 m2.count,.int .i64 m2.state,.slice u1 m2.streams.length u1',.slice u2 m2.links.length u2',.slice u3 m2.data.length u3',.int .u64 m2.sea.epoch,.int .u64 m2.sea.node,.int .u64 m2.sea.tail,.int .u64 m2.proj.epoch,.slice u4 m2.proj.stripes.length u4']:=zB
    have R1h:=R1g.later hbA
    have R2h:=R2g.later hbA
    have T7h:=T7g.later hbA
    have T8h:=T8g.later hbA
    have C10h:=C10g.later hbA
    have T11h:=T11g.later hbA
    have X3h:=hid (Bl.lift X3g.out hbA)
    have X4h:=hid (Bl.lift X4g.out hbA)
    have X5h:=hid (Bl.lift X5g.out hbA)
    have X6h:=hid (Bl.lift X6g.out hbA)
    clear R1g R2g T7g T8g C10g T11g X3g X4g X5g X6g;have hbwV:=Af hbA hbw6
    clear hbA hbw6;generalize ((w6.alloc (.cells #[.slice ad B.length c,.int .i64 (s2.p:Int),.int .i64 s2.k,.int .i64 s2.f] 60)).alloc (.cells #[.int .i64 m2.kind,.int .u64 m2.epoch,.int .u64 m2.seq,.int .u64 m2.pos,.int .i64 m2.count,.int .i64 m2.state,.slice u1 m2.streams.length u1',.slice u2 m2.links.length u2',.slice u3 m2.data.length u3',.int .u64 m2.sea.epoch,.int .u64 m2.sea.node,.int .u64 m2.sea.tail,.int .u64 m2.proj.epoch,.slice u4 m2.proj.stripes.length u4'] 32))=V at*
    obtain⟨ma0,ma1,ma2,ma3,ma4,ma5,ma6,ma7,ma8,ma9,ma10,ma11,ma12,ma13,_⟩:=A4 T7h
    have MA0':=fun s:Ay V=>s.cell ma0;have MA1':=fun s:Ay V=>s.cell ma1;have MA2':=fun s:Ay V=>s.cell ma2;have MA3':=fun s:Ay V=>s.cell ma3;have MA4':=fun s:Ay V=>s.cell ma4;have MA5':=fun s:Ay V=>s.cell ma5;have MA6':=fun s:Ay V=>s.cell ma6;have MA7':=fun s:Ay V=>s.cell ma7;have MA8':=fun s:Ay V=>s.cell ma8;have MA9':=fun s:Ay V=>s.cell ma9;have MA10':=fun s:Ay V=>s.cell ma10;have MA11':=fun s:Ay V=>s.cell ma11;have MA12':=fun s:Ay V=>s.cell ma12;have MA13':=fun s:Ay V=>s.cell ma13
    obtain⟨mb0,mb1,mb2,mb3,mb4,mb5,mb6,mb7,mb8,mb9,mb10,mb11,mb12,mb13,_⟩:=A4 T8h
    have MB0':=fun s:Ay V=>s.cell mb0;have MB1':=fun s:Ay V=>s.cell mb1;have MB2':=fun s:Ay V=>s.cell mb2;have MB3':=fun s:Ay V=>s.cell mb3;have MB4':=fun s:Ay V=>s.cell mb4;have MB5':=fun s:Ay V=>s.cell mb5;have MB6':=fun s:Ay V=>s.cell mb6;have MB7':=fun s:Ay V=>s.cell mb7;have MB8':=fun s:Ay V=>s.cell mb8;have MB9':=fun s:Ay V=>s.cell mb9;have MB10':=fun s:Ay V=>s.cell mb10;have MB11':=fun s:Ay V=>s.cell mb11;have MB12':=fun s:Ay V=>s.cell mb12;have MB13':=fun s:Ay V=>s.cell mb13
    obtain⟨mc0,mc1,mc2,mc3,mc4,mc5,mc6,mc7,mc8,mc9,mc10,mc11,mc12,mc13,_⟩:=A4 T11h
    have MC0':=fun s:Ay V=>s.cell mc0;have MC1':=fun s:Ay V=>s.cell mc1;have MC2':=fun s:Ay V=>s.cell mc2;have MC3':=fun s:Ay V=>s.cell mc3;have MC4':=fun s:Ay V=>s.cell mc4;have MC5':=fun s:Ay V=>s.cell mc5;have MC6':=fun s:Ay V=>s.cell mc6;have MC7':=fun s:Ay V=>s.cell mc7;have MC8':=fun s:Ay V=>s.cell mc8;have MC9':=fun s:Ay V=>s.cell mc9;have MC10':=fun s:Ay V=>s.cell mc10;have MC11':=fun s:Ay V=>s.cell mc11;have MC12':=fun s:Ay V=>s.cell mc12;have MC13':=fun s:Ay V=>s.cell mc13
    obtain⟨md0,md1,md2,md3,md4,md5,md6,md7,md8,md9,md10,md11,md12,md13,_⟩:=A4 T14h
    have MD0':=fun s:Ay V=>s.cell md0;have MD1':=fun s:Ay V=>s.cell md1;have MD2':=fun s:Ay V=>s.cell md2;have MD3':=fun s:Ay V=>s.cell md3;have MD4':=fun s:Ay V=>s.cell md4;have MD5':=fun s:Ay V=>s.cell md5;have MD6':=fun s:Ay V=>s.cell md6;have MD7':=fun s:Ay V=>s.cell md7;have MD8':=fun s:Ay V=>s.cell md8;have MD9':=fun s:Ay V=>s.cell md9;have MD10':=fun s:Ay V=>s.cell md10;have MD11':=fun s:Ay V=>s.cell md11;have MD12':=fun s:Ay V=>s.cell md12;have MD13':=fun s:Ay V=>s.cell md13
    obtain⟨_,ca1,ca2,ca3,_,_,_,_,_⟩:=Ap C10h
    obtain⟨_,cb1,cb2,cb3,_,_,_,_,_⟩:=Ap C13h
    have CA1':=fun s:Ay V=>s.cell ca1;have CA2':=fun s:Ay V=>s.cell ca2;have CA3':=fun s:Ay V=>s.cell ca3
    have CB1':=fun s:Ay V=>s.cell cb1;have CB2':=fun s:Ay V=>s.cell cb2;have CB3':=fun s:Ay V=>s.cell cb3
    have HS1:=hid (fun s:Ay V=>Me m1 s.at_ x1 x2 x3 x4 z1 z2 z3 z4 x1' x2' x3' x4' z1' z2' z3' z4' (Bl.lift X3h.out s.below) (Bl.lift X5h.out s.below))
    have HS2:=hid (fun s:Ay V=>Me m2 s.at_ y1 y2 y3 y4 u1 u2 u3 u4 y1' y2' y3' y4' u1' u2' u3' u4' (Bl.lift X4h.out s.below) (Bl.lift X6h.out s.below))
    have HF1:=hid (fun s:Ay V=>Jy s.at_ (Gj (R1h.later s.below) (Rp.below Ah HCAP.out (Af s.below hbwV)) (Ai _) ok1))
    have HF2:=hid (fun s:Ay V=>Jy s.at_ (Gj (R2h.later s.below) (Rp.below Ah HCAP.out (Af s.below hbwV)) zD ok2))
    clear ma0 ma1 ma2 ma3 ma4 ma5 ma6 ma7 ma8 ma9 ma10 ma11 ma12 ma13;clear mb0 mb1 mb2 mb3 mb4 mb5 mb6 mb7 mb8 mb9 mb10 mb11 mb12 mb13;clear mc0 mc1 mc2 mc3 mc4 mc5 mc6 mc7 mc8 mc9 mc10 mc11 mc12 mc13;clear md0 md1 md2 md3 md4 md5 md6 md7 md8 md9 md10 md11 md12 md13;clear ca1 ca2 ca3 cb1 cb2 cb3;have hq2:(f2 !=f2)=false:=zR
    refine Aw zJ zJ ?_
    repeat (go_big_quiet_step ((first | (go_at_call 22;first | with_reducible exact AZ (HS1.out _) | with_reducible exact AZ (HS2.out _)) | (go_at_call 42;first | with_reducible exact AZ (HF1.out _) | with_reducible exact AZ (HF2.out _)))))
    refine AN ?_
    rintro V8 ⟨⟨V8',hb7⟩,rfl⟩;have hbw7:=Af hb7 hbwV
    clear HS1 HS2 HF1 HF2 CA1' CA2' CA3' CB1' CB2' CB3' hq2;clear MA0' MA1' MA2' MA3' MA4' MA5' MA6' MA7' MA8' MA9' MA10' MA11' MA12' MA13';clear MB0' MB1' MB2' MB3' MB4' MB5' MB6' MB7' MB8' MB9' MB10' MB11' MB12' MB13';clear MC0' MC1' MC2' MC3' MC4' MC5' MC6' MC7' MC8' MC9' MC10' MC11' MC12' MC13';clear MD0' MD1' MD2' MD3' MD4' MD5' MD6' MD7' MD8' MD9' MD10' MD11' MD12' MD13';have R1i:=R1h.later hb7
    have R2i:=R2h.later hb7
    have C10i:=C10h.later hb7
    have C13i:=C13h.later hb7
    clear R1h R2h C10h C13h T7h T8h T11h T14h X3h X4h X5h X6h hb7 hbwV;go_wp2_with fail;obtain⟨_,ca1,ca2,ca3,_,_,_,_,_⟩:=Ap C10i
    obtain⟨_,cb1,cb2,cb3,_,_,_,_,_⟩:=Ap C13i
    have CA1':=fun s:Ay V8=>s.cell ca1;have CA2':=fun s:Ay V8=>s.cell ca2
    have CB1':=fun s:Ay V8=>s.cell cb1;have CB2':=fun s:Ay V8=>s.cell cb2
    have HA1:=hid (fun s:Ay V8=>Bz s.at_ (Gj (R1i.later s.below) (Rp.below Ah HCAP.out (Af s.below hbw7)) (Ai _) ok1))
    have HA2:=hid (fun s:Ay V8=>Bz s.at_ (Gj (R2i.later s.below) (Rp.below Ah HCAP.out (Af s.below hbw7)) zD ok2))
    have HLV:=hid (fun s:Ay V8=>Lo s.at_)
    clear ca1 ca2 ca3 cb1 cb2 cb3;have e1:((s1.p:Int)==(s1.p:Int))=true:=zR
    have e2:((s2.p:Int)==(s2.p:Int))=true:=zR
    by_cases hk1:s1.k=0
    ·have d1:(s1.k !=(0:Int))=false:=by simp[hk1]
     by_cases hk2:s2.k=0
     ·have d2:(s2.k !=(0:Int))=false:=by simp[hk2]
      clear hk1 hk2;refine Aw zJ zJ ?_
      repeat (go_big_quiet_step ((first | (go_at_call 13;with_reducible exact AZ (HLV.out _)) | (go_at_call 43;first | with_reducible exact CY (HA1.out _) | with_reducible exact CY (HA2.out _)))))
      refine AN ?_
      rintro V9 ⟨⟨V9',hb9⟩,rfl⟩;have hbe:=Af hb9 hbw7
      go_wp2;go_ret;exact⟨rfl,hbe⟩
     ·have d2:(s2.k !=(0:Int))=true:=by simp[hk2]
      clear hk1 hk2;refine Aw zJ zJ ?_
      repeat (go_big_quiet_step ((first | (go_at_call 13;with_reducible exact AZ (HLV.out _)) | (go_at_call 43;first | with_reducible exact CY (HA1.out _) | with_reducible exact CY (HA2.out _)))))
      refine AN ?_
      rintro V9 ⟨⟨V9',hb9⟩,rfl⟩;have hbe:=Af hb9 hbw7
      go_wp2;go_ret;exact⟨rfl,hbe⟩
    ·have d1:(s1.k !=(0:Int))=true:=by simp[hk1]
     by_cases hk2:s2.k=0
     ·have d2:(s2.k !=(0:Int))=false:=by simp[hk2]
      clear hk1 hk2;refine Aw zJ zJ ?_
      repeat (go_big_quiet_step ((first | (go_at_call 13;with_reducible exact AZ (HLV.out _)) | (go_at_call 43;first | with_reducible exact CY (HA1.out _) | with_reducible exact CY (HA2.out _)))))
      refine AN ?_
      rintro V9 ⟨⟨V9',hb9⟩,rfl⟩;have hbe:=Af hb9 hbw7
      go_wp2;go_ret;exact⟨rfl,hbe⟩
     ·have d2:(s2.k !=(0:Int))=true:=by simp[hk2]
      clear hk1 hk2;refine Aw zJ zJ ?_
      repeat (go_big_quiet_step ((first | (go_at_call 13;with_reducible exact AZ (HLV.out _)) | (go_at_call 43;first | with_reducible exact CY (HA1.out _) | with_reducible exact CY (HA2.out _)))))
      refine AN ?_
      rintro V9 ⟨⟨V9',hb9⟩,rfl⟩;have hbe:=Af hb9 hbw7
      go_wp2;go_ret;exact⟨rfl,hbe⟩
 ·have d0:decide ((400:Int)<(B.length:Int))=true:=Ae zD
  clear h400 hl;go_enter Tryz.func5,Tryz.ntmps5
  go_wp2_with fail;refine (Lo _).mono ?_
  rintro r w99 ⟨rfl,hb99⟩;have hbe:=hb99
  go_wp2;go_ret;exact⟨rfl,hbe⟩
theorem bodyReads_walk{H:Type}(enc:TypeId × Value→H)(W:World)(base:Nat)(v0 v1:Value)(d0 d1:DataW H)(p0 p1:List MemPlace)
  (k0:DataW.Trod enc Tryz.prog W 0 (fun _=>true) true 25 v0 d0 p0) (k1:DataW.Trod enc Tryz.prog W 0 (fun _=>true) true 3 v1 d1 p1)
  (o0:Value.okWide Tryz.prog W .any base 25 v0) (o1:Value.okWide Tryz.prog W .any base 3 v1):
  Calls Tryz.prog 5 #[v0,v1] W fun e w'=>e=.returned (.bool true)∧Below W.heap.size W w':=by
 obtain⟨fuel,hf⟩:=k0
 obtain⟨a,len,cap,rfl⟩:=Go.WideShapes.okWide_slice Tryz.underlying25 o0
 obtain⟨b,hb⟩:=Q9 enc W fuel _ _ hf
 obtain⟨fuel1,hf1⟩:=k1
 obtain⟨k,rfl⟩:=Go.WideShapes.okWide_int Tryz.underlying3 o1
 obtain⟨k',hk',hw⟩:=O6 Tryz.underlying3 enc W fuel1 _ _ hf1
 simp[Value.cells] at hk'
 subst hk';exact MJ b a len cap k (bounds_i64 hw) W hb
end Go.Proofs.YtlbffbkbkajciaaGreat
