/- Mini: Needed by segmentOnce_walk, part 12: texts put together by shake.py; no condition. -/
import Derived.Test.YtfddhafbhceoaaaGreatWC5
import Derived.Test.YtfddhafbhceoaaaGreatWC4
import Derived.Test.YtfddhafbhceoaaaGreatWC2
import Derived.Test.YtfddhafbhceoaaaGreatWC11
import Derived.Test.YtfddhafbhceoaaaGreatWC8
import Derived.Test.YtfddhafbhceoaaaGreatWC3
import Derived.Test.YtfddhafbhceoaaaGreatWC10
import Derived.Test.YtfddhafbhceoaaaGreatWC1
import Derived.Test.YtfddhafbhceoaaaGreatWC9
import Derived.Test.YtfddhafbhceoaaaGreatWC7
import Derived.Deep.Cut
import Derived.Deep.CutBlock
import Derived.Deep.CutRange
set_option linter.unusedVariables false
set_option linter.unusedSimpArgs false
set_option maxRecDepth 100000
set_option maxHeartbeats 6400000
namespace Go.Bs
theorem zA9{p:Prop}(h:p:=by have := e.2; have := HB6.out.lt; show b < w6.heap.size; omega):p:=h
theorem zAt{p:Prop}(h:p:=by have := hne8 b e.1; dsimp only; omega):p:=h
theorem zAs{p:Prop}(h:p:=by rw [hfin.out]; rfl):p:=h
theorem ZM{p:Prop}(h:p:=by have := e.1; omega):p:=h
theorem ZL{p:Prop}(h:p:=by have := e.2; omega):p:=h
end Go.Bs
namespace Go.Proofs.YtfddhafbhceoaaaGreat
open Go.RowKit Go.Bs Go.Maps
variable{q:Bool}{f m pos:Int}{B P:List UInt8}{L base c g gc gr n:Nat}{F:Nat → Prop}{a ap:Option Addr}{s:Rs}{e t:TypeId}{v v0 v1 v2:Value}{W w w':World}
theorem Sm(w:World)(f:Int):Calls Tryz.prog 154 #[.int .i64 0,.int .i64 f] w fun r w'=>r=.returned (.agg #[.int .i64 0,.int .i64 0])∧Below w.heap.size w w':=by
 go_enter Tryz.func154,Tryz.ntmps154;go_wp2;refine An (v:=.agg #[.int .i64 0,.int .i64 0]) (by simp[results,Tryz.results154,go_sem]) rfl ⟨rfl,zB⟩
theorem N3(w:World)(f b:Int):Calls Tryz.prog 117 #[.agg #[.int .i64 0,.int .i64 f],.int .i64 b] w fun r w'=>r=.returned (.agg #[.int .i64 0,.int .i64 0])∧Below w.heap.size w w':=by
 obtain⟨v,hv⟩:∃v,wrap64 (f+b)=v:=⟨_,rfl⟩;have HV:=hid hv;clear hv;go_enter Tryz.func117,Tryz.ntmps117;go_wp2_with fail;rw[HV.out];refine (Sm _ v).mono ?_;rintro r w1 ⟨rfl,hb1⟩;have B1:Blk w1 (w.heap.size+1) 65 #[.int .i64 0,.int .i64 0]:=Blk.later zC hb1;obtain⟨y0,y1,g0,g1,l1⟩:=Bg B1;have hbw:Below w.heap.size w w1:=zA;clear B1 hb1;go_wp2;refine An (v:=.agg #[.int .i64 0,.int .i64 0]) zBd rfl ⟨rfl,zA⟩
theorem CF{v3 v4 v5:Value}(h:Blk w g t #[v0,v1,v2,v3,v4,v5]):w.cell? ⟨g,0,none⟩=some v0∧w.cell? ⟨g,1,none⟩=some v1∧w.cell? ⟨g,2,none⟩=some v2∧w.cell? ⟨g,3,none⟩=some v3∧w.cell? ⟨g,4,none⟩=some v4∧w.cell? ⟨g,5,none⟩=some v5∧g<w.heap.size:=
 ⟨h.cell 0,h.cell 1,h.cell 2,h.cell 3,h.cell 4,h.cell 5,h.lt⟩
theorem LG{cs:Array Value}(h:Blk w g t cs):w.frozen? ⟨g,0,none⟩=false∧w.frozen? ⟨g,1,none⟩=false∧w.frozen? ⟨g,2,none⟩=false∧w.frozen? ⟨g,3,none⟩=false∧w.frozen? ⟨g,4,none⟩=false∧w.frozen? ⟨g,5,none⟩=false:=
 ⟨h.free 0,h.free 1,h.free 2,h.free 3,h.free 4,h.free 5⟩
theorem FI(w:World){gc:Nat}{B:List UInt8}{a:Option Addr}{s:Rs}(h:AN w gc B a s)(x0:w.cell? ⟨gr,0,none⟩=some (.pointer (some ⟨gc,0,none⟩)))(k f at_:Int):
  Calls Tryz.prog 198 #[.pointer (some ⟨gr,0,none⟩),.agg #[.int .i64 k,.int .i64 f],.int .i64 at_] w fun r w'=>r=.returned (.tuple #[])∧Ay w gc B a (s.within k f at_) w':=by
 have HIN:=hid (Cf.refl h);have hgr:gr<w.heap.size:=BV _ _ x0;have hb0:Below w.heap.size w (w.alloc (.cells #[.int .i64 k,.int .i64 f] 65)):=zA;have hF0:Blk (w.alloc (.cells #[.int .i64 k,.int .i64 f] 65)) w.heap.size 65 #[.int .i64 k,.int .i64 f]:=Blk.new _ _ _;have x1:(w.alloc (.cells #[.int .i64 k,.int .i64 f] 65)).cell? ⟨gr,0,none⟩=some (.pointer (some ⟨gc,0,none⟩)):=(AE.mk _ hb0).cell x0;by_cases hk:k=0
 ·subst hk
  rw[Rs.CS];have HSH:=hid (fun (W:World)=>N3 W f at_);have HG:=hid (fun (W:World)=>(by have:=Di W 0 0;exact this:Calls Tryz.prog 65 #[.agg #[.int .i64 0,.int .i64 0]] W fun r w'=>r=.returned (.bool true)∧Below W.heap.size W w'));clear h x0;go_enter Tryz.func198,Tryz.ntmps198;go_upto_region 1 with (fail);generalize (w.alloc (.cells #[.int .i64 0,.int .i64 f] 65))=w0 at*;obtain⟨y0,y1,y2,y3,ly⟩:=Bg hF0;have HF0:=hid hF0;clear hF0;go_wp2_with fail;refine (HSH.out _).mono ?_;rintro r w1 ⟨rfl,hb1⟩;have HF1:=HF0.out.later hb1;have hbw1:=Af hb1 hb0;clear y0 y1 y2 y3 ly hb1;obtain⟨y0,y1,y2,y3,ly⟩:=Bg HF1;have HIS:=hid (HIN.out.row (show Below w.heap.size w ((w1.setCell ⟨w.heap.size,0,none⟩ (.int .i64 0)).setCell ⟨w.heap.size,1,none⟩ (.int .i64 0)) by (repeat (first | with_reducible exact Below.refl _ _ | with_reducible assumption | (with_reducible refine Au ?_ _) | (with_reducible refine Below.setCell ?_ zE _) | (with_reducible refine Below.drew ?_) | (with_reducible refine below_drewN ?_ _) | (refine Af zG ?_)))));go_wp2_with fail;refine (HG.out _).mono ?_;rintro r w2 ⟨rfl,hb2⟩;have HI2:=hid (HIS.out.row (hb2.mono HIS.out.tch.size));go_wp2_with fail;first | go_end0 | refine An (AO rfl _ _ _) rfl ?_
  exact⟨rfl,HI2.out.to⟩
 ·have hw:s.within k f at_=s.fail k (wrap64 (f+at_)):=Ah hk
  rw[hw];clear hw;have HSH:=hid (fun (W:World)=>N2 W k f at_ hk);generalize wrap64 (f+at_)=FV at*;have HG:=hid (fun (W:World)=>(by have:=Di W k FV;rw[Ae hk] at this;exact this:Calls Tryz.prog 65 #[.agg #[.int .i64 k,.int .i64 FV]] W fun r w'=>r=.returned (.bool false)∧Below W.heap.size W w'));have HFL:=hid (fun (W:World) (hW:AN W gc B a s)=>Bd W hW k FV hk);clear h x0 hk;go_enter Tryz.func198,Tryz.ntmps198;go_upto_region 1 with (fail);generalize (w.alloc (.cells #[.int .i64 k,.int .i64 f] 65))=w0 at*;obtain⟨y0,y1,y2,y3,ly⟩:=Bg hF0;have HF0:=hid hF0;clear hF0;go_wp2_with fail;refine (HSH.out _).mono ?_;rintro r w1 ⟨rfl,hb1⟩;have HF1:=HF0.out.later hb1;have hbw1:=Af hb1 hb0;have x2:w1.cell? ⟨gr,0,none⟩=some (.pointer (some ⟨gc,0,none⟩)):=(AE.mk _ hb1).cell x1;clear y0 y1 y2 y3 ly hb1;obtain⟨y0,y1,y2,y3,ly⟩:=Bg HF1;have hbs:Below w.heap.size w ((w1.setCell ⟨w.heap.size,0,none⟩ (.int .i64 k)).setCell ⟨w.heap.size,1,none⟩ (.int .i64 FV)):=zA;have HIS:=hid (HIN.out.row hbs);have HFS:=hid ((HF1.set 0 (.int .i64 k)).set 1 (.int .i64 FV));have x3:((w1.setCell ⟨w.heap.size,0,none⟩ (.int .i64 k)).setCell ⟨w.heap.size,1,none⟩ (.int .i64 FV)).cell? ⟨gr,0,none⟩=some (.pointer (some ⟨gc,0,none⟩)):=by
   exact (AQ (a:=⟨gr,0,none⟩) ((Aw _ _ _ _ zH).trans (Aw _ _ _ _ zH))).trans x2
  go_upto_region 2 with (fail);generalize ((w1.setCell ⟨w.heap.size,0,none⟩ (.int .i64 k)).setCell ⟨w.heap.size,1,none⟩ (.int .i64 FV))=w2 at*;clear y0 y1 y2 y3 ly x1 x2;obtain⟨y0,y1,y2,y3,ly⟩:=Bg HFS.out;go_wp2_with fail;refine (HG.out _).mono ?_;rintro r w3 ⟨rfl,hb3⟩;have HI3:=hid (HIS.out.row (hb3.mono HIS.out.tch.size));have HF3:=HFS.out.later hb3;have x4:w3.cell? ⟨gr,0,none⟩=some (.pointer (some ⟨gc,0,none⟩)):=(AE.mk _ hb3).cell x3;clear y0 y1 y2 y3 ly hb3 x3;obtain⟨y0,y1,y2,y3,ly⟩:=Bg HF3;go_wp2_with fail;refine BK 8 zJ zJ ?_;simp only[BQ,Fa,De,DH];repeat still_step
  refine wpStill_nil ?_;go_wp2_with fail;refine (HFL.out _ (HI3.out.rd.later zA)).mono ?_;rintro r w5 ⟨rfl,hst5⟩;have HI5:=hid ((HI3.out.row (show Below w.heap.size w3 w3.drew by (repeat (first | with_reducible exact Below.refl _ _ | with_reducible assumption | (with_reducible refine Au ?_ _) | (with_reducible refine Below.setCell ?_ zE _) | (with_reducible refine Below.drew ?_) | (with_reducible refine below_drewN ?_ _) | (refine Af zG ?_))))).step hst5);go_wp2_with fail;first | go_end0 | refine An (AO rfl _ _ _) rfl ?_
  exact⟨rfl,HI5.out.to⟩
theorem FP{lo:Nat}{M:List AU}{cells:List (List Value)}(h:Cd lo He base e 3 w v M cells)(hk:∀g,v.ownBlock=some g→w'.heap[g]? =w.heap[g]?):Cd lo He base e 3 w' v M cells:=
 ⟨Kx h.1 hk,h.2.1,h.2.2.1,fun i cs x h1 h2=>by
  obtain⟨rfl,hn⟩:=LL (h.2.2.2 i cs x h1 h2);exact Jy hn⟩
structure Bi(w:World)(gr gc:Nat)(B:List UInt8)(a:Option Addr)(s:Rs)(ep:Int)(vL:Value)(l:List Batch)(vM:Value)(M:List AU)(q:Bool)(fi:Int)(T:Nat)(W:World):Prop where
 inv:Cf w W gc B a s
 rb:Blk W gr 166 #[.pointer (some ⟨gc,0,none⟩),.int .u64 ep,vL,vM,.bool q,.int .i64 fi]
 gl:w.heap.size≤gr
 ownL:∃cells,AY (fun b=>gr<b∧b<T∧vM.ownBlock≠some b) Ff (gr+1) 48 3 W vL l cells
 ownM:∃cells,Cd (gr+1) He (gr+1) 88 3 W vM M cells
 ne:∀b,vL.ownBlock=some b→vM.ownBlock≠some b
 lL:∀b,vL.ownBlock=some b→b<T
 lM:∀b,vM.ownBlock=some b→b<T
 t1:gr<T
 t2:T≤W.heap.size
section
variable {w W W':World} {gr gc:Nat} {B:List UInt8} {a:Option Addr} {s s':Rs} {ep:Int} {vL vL' vM vM':Value} {l:List Batch} {M:List AU} {q q':Bool} {fi fi':Int} {T T':Nat}
theorem Bi.lo(h:Bi w gr gc B a s ep vL l vM M q fi T W):(∀b,vL.ownBlock=some b→gr<b∧b<T)∧(∀b,vM.ownBlock=some b→gr<b∧b<T):=by
 obtain⟨cells,hc⟩:=h.ownL;obtain⟨cells2,hc2⟩:=h.ownM;exact⟨fun b e=>⟨(Gc hc.1 b e).1,h.lL b e⟩,fun b e=>⟨(Gc hc2.1 b e).1,h.lM b e⟩⟩
theorem Bi.UF(h:Bi w gr gc B a s ep vL l vM M q fi T W)(hi:Cf w W' gc B a s')(hz:W.heap.size≤W'.heap.size)(hk:∀b,gr≤b→b<T→W'.heap[b]? =W.heap[b]?):Bi w gr gc B a s' ep vL l vM M q fi T W':=by
 obtain⟨cells,hc⟩:=h.ownL;obtain⟨cells2,hc2⟩:=h.ownM;exact⟨hi,(hk gr (Ap _) h.t1).trans h.rb,h.gl,⟨cells,hc.keep (fun b e=>hk b ZM e.2.1) (fun b e=>hk b (by have:=(h.lo.1 b e).1;omega) (h.lo.1 b e).2)⟩,⟨cells2,FP hc2 fun b e=>hk b (by have:=(h.lo.2 b e).1;omega) (h.lo.2 b e).2⟩,h.ne,h.lL,h.lM,h.t1,A6 h.t2 hz⟩
theorem Bi.step(h:Bi w gr gc B a s ep vL l vM M q fi T W)(k:Ay W gc B a s' W'):Bi w gr gc B a s' ep vL l vM M q fi T W':=by
 have h1:=h.gl;have h2:=h.inv.lt;have h3:=h.t2;exact h.UF (h.inv.step k) k.2.size fun b e1 e2=>k.2.block b zD zD
theorem Bi.side(h:Bi w gr gc B a s ep vL l vM M q fi T W)(ht:Tch F W W')(hF:∀b,b<T→¬F b):Bi w gr gc B a s ep vL l vM M q fi T W':=by
 have h1:=h.gl;have h2:=h.inv.tch.size;have h3:=h.t2;have h4:=h.t1;refine h.UF (h.inv.row (ht.Cq zD fun b hb e=> ?_)) ht.size fun b e1 e2=>ht.block b zD (hF b e2);rcases Be b T with h5 | h5
 ·exact absurd e (hF b h5)
 ·omega
theorem Bi.later(h:Bi w gr gc B a s ep vL l vM M q fi T W)(hb:Below W.heap.size W W'):Bi w gr gc B a s ep vL l vM M q fi T W':=
 h.side (F:=fun _=>False) (Tch.Bz hb) fun _ _ e=>e
theorem Bi.up(h:Bi w gr gc B a s ep vL l vM M q fi T W)(h1:T≤T')(h2:T'≤W.heap.size):Bi w gr gc B a s ep vL l vM M q fi T' W:=by
 obtain⟨cells,hc⟩:=h.ownL;have:=h.t1;exact⟨h.inv,h.rb,h.gl,⟨cells,hc.mono fun b e=>⟨e.1,zD,e.2.2⟩⟩,h.ownM,h.ne,fun b e=>Ao (h.lL b e) h1,fun b e=>Ao (h.lM b e) h1,zD,h2⟩
theorem Bi.UL(h:Bi w gr gc B a s ep vL l vM M q fi T W)(i:Nat)(u:Value)(hb:Blk (W.setCell ⟨gr,i,none⟩ u) gr 166 #[.pointer (some ⟨gc,0,none⟩),.int .u64 ep,vL,vM,.bool q',.int .i64 fi']):Bi w gr gc B a s ep vL l vM M q' fi' T (W.setCell ⟨gr,i,none⟩ u):=by
 have h1:=h.gl;obtain⟨cells,hc⟩:=h.ownL;obtain⟨cells2,hc2⟩:=h.ownM;have hz:(W.setCell ⟨gr,i,none⟩ u).heap.size=W.heap.size:=zY;have hk:∀b,gr<b→(W.setCell ⟨gr,i,none⟩ u).heap[b]? =W.heap[b]? :=fun b e=>Aw _ _ _ _ zH;exact⟨h.inv.row (Below.setCell (Below.refl _ _) zH _),hb,h1,⟨cells,hc.keep (fun b e=>hk b e.1) (fun b e=>hk b (h.lo.1 b e).1)⟩,⟨cells2,FP hc2 fun b e=>hk b (h.lo.2 b e).1⟩,h.ne,h.lL,h.lM,h.t1,by rw[hz];exact h.t2⟩
theorem Bi.UK(h:Bi w gr gc B a s ep vL l vM M q fi T W)(x:Int):Bi w gr gc B a s ep vL l vM M q x T (W.setCell ⟨gr,5,none⟩ (.int .i64 x)):=h.UL 5 _ (h.rb.set 5 _)
theorem Bi.UJ(h:Bi w gr gc B a s ep vL l vM M q fi T W)(x:Bool):Bi w gr gc B a s ep vL l vM M x fi T (W.setCell ⟨gr,4,none⟩ (.bool x)):=h.UL 4 _ (h.rb.set 4 _)
theorem Bi.mark(h:Bi w gr gc B a s ep vL l vM M q fi T W){cells:List (List Value)}(hc:Cd (gr+1) He (gr+1) 88 3 W vM M cells){m:AU}(hm:Gn m)
 (hown:W'.ownsRow (gr+1) 88 3 vM' (M.length+1) (cells.flatten++[.int .u64 m.pos,.int .i64 m.count,.int .i64 m.at_])) (hgr:W.grownBy W' vM.ownBlock) (hat:vM'.ownBlock=vM.ownBlock∨vM'.ownBlock=some W.heap.size):
  Bi w gr gc B a s ep vL l vM' (M++[m]) q fi W'.heap.size (W'.setCell ⟨gr,3,none⟩ vM'):=by
 have h1:=h.gl;have h2:=h.rb.lt;have ht1:=h.t1;have ht2:=h.t2;have hgs:=hgr.size;obtain⟨cl,hcl⟩:=h.ownL;have hlo:=h.lo;have hz:(W'.setCell ⟨gr,3,none⟩ vM').heap.size=W'.heap.size:=zY;obtain⟨c2,hO⟩:∃c2,Cd (gr+1) He (gr+1) 88 3 W' vM' (M++[m]) c2:=AZ.push hc (x:=m) rfl (Jy hm) hown hgr hat hgr.size;have hbg:Below (gr+1) W W':=Below.grown (Below.refl _ _) hgr zD (fun g e=>(hlo.2 g e).1);have hk:∀b,gr<b→(W'.setCell ⟨gr,3,none⟩ vM').heap[b]? =W'.heap[b]? :=fun b e=>Aw _ _ _ _ zH;have hv':∀b,vM'.ownBlock=some b→vM.ownBlock=some b∨b=W.heap.size:=fun b e=>by
  rcases hat with h | h
  ·exact .inl (h ▸ e)
  ·rw[h] at e;exact .inr (A5 e).symm
 refine⟨(h.inv.row (hbg.mono zD)).row (Below.setCell (Below.refl _ _) zH _),(h.rb.below hbg zD).set 3 _,h1,⟨cl,(hcl.keep (fun b e=>(hk b e.1).trans (hgr.block b (by have:=e.2.1;omega) (fun e2=>e.2.2 e2.symm))) (fun b e=>(hk b (hlo.1 b e).1).trans (hgr.block b (by have:=(hlo.1 b e).2;omega) (fun e2=>h.ne b e e2.symm)))).mono fun b e=>⟨e.1,zD,fun e2=> ?_⟩⟩,⟨c2,FP hO fun b e=>hk b (Gc hO.1 b e).1⟩,fun b e e2=> ?_,fun b e=>by have:=(hlo.1 b e).2;omega,fun b e=>(Gc hO.1 b e).2,zD,zD⟩
 ·rcases hv' b e2 with e3 | e3
  ·exact e.2.2 e3
  ·have:=e.2.1
   omega
 ·rcases hv' b e2 with e3 | e3
  ·exact h.ne b e e3
  ·have:=(hlo.1 b e).2
   omega
theorem Bi.more(h:Bi w gr gc B a s ep vL l vM M q fi T W){cells:List (List Value)}(hc:AY (fun b=>gr<b∧b<W.heap.size∧vM.ownBlock≠some b) Ff (gr+1) 48 3 W vL l cells){x:Batch}{news:List Value}(hn:news.length=3)
 (hx:Ff.r (fun b=>(gr<b∧b<W.heap.size∧vM.ownBlock≠some b)∧vL.ownBlock≠some b) W news x)
 (hown:W'.ownsRow (gr+1) 48 3 vL' (l.length+1) (cells.flatten++news)) (hgr:W.grownBy W' vL.ownBlock) (hat:vL'.ownBlock=vL.ownBlock∨vL'.ownBlock=some W.heap.size):
  Bi w gr gc B a s ep vL' (l++[x]) vM M q fi W'.heap.size (W'.setCell ⟨gr,2,none⟩ vL'):=by
 have h1:=h.gl;have h2:=h.rb.lt;have ht1:=h.t1;have ht2:=h.t2;have hgs:=hgr.size;have hlo:=h.lo;have hz:(W'.setCell ⟨gr,2,none⟩ vL').heap.size=W'.heap.size:=zY;have hO:=hc.push (fun b e=>e.2.1) hn hx hown hgr hat;have hbg:Below (gr+1) W W':=Below.grown (Below.refl _ _) hgr zD (fun g e=>(hlo.1 g e).1);have hk:∀b,gr<b→(W'.setCell ⟨gr,2,none⟩ vL').heap[b]? =W'.heap[b]? :=fun b e=>Aw _ _ _ _ zH;have hv':∀b,vL'.ownBlock=some b→vL.ownBlock=some b∨b=W.heap.size:=fun b e=>by
  rcases hat with h | h
  ·exact .inl (h ▸ e)
  ·rw[h] at e;exact .inr (A5 e).symm
 obtain⟨cm,hm⟩:=h.ownM;refine⟨(h.inv.row (hbg.mono zD)).row (Below.setCell (Below.refl _ _) zH _),(h.rb.below hbg zD).set 2 _,h1,⟨_,(hO.keep (fun b e=>hk b e.1) (fun b e=>hk b (Gc hO.1 b e).1)).mono fun b e=>⟨e.1,by have:=e.2.1;omega,e.2.2⟩⟩,⟨cm,FP hm fun b e=>(hk b (hlo.2 b e).1).trans (hgr.block b (by have:=(hlo.2 b e).2;omega) (fun e2=>h.ne b e2.symm e))⟩,fun b e e2=> ?_,fun b e=>(Gc hO.1 b e).2,fun b e=>by have:=(hlo.2 b e).2;omega,zD,zD⟩;rcases hv' b e with e3 | e3
 ·exact h.ne b e3 e2
 ·have:=(hlo.2 b e2).2
  omega
end
theorem Rs.QE:(s.frame B m).2.length≤B.length:=by
 have h:(s.Dk B (min m 2097152)).2.length≤B.length:=by
  unfold Rs.Dk Rs.take;dsimp only;split
  ·rw[List.length_take,Ea]
   omega
  ·exact At _
 have aux:∀(c:Prop) [Decidable c],(if c then (s.Dk B (min m 2097152)).2 else []).length≤B.length:=fun c _=>by
  by_cases hc:c
  ·rw[Ai hc]
   exact h
  ·rw[Ah hc]
   exact At _
 unfold Rs.frame;dsimp only;exact aux _
theorem Ko(W:World){w:World}{gr gc:Nat}{B:List UInt8}{a:Option Addr}{s:Rs}{ep:Int}{vL vM:Value}{l:List Batch}{M:List AU}{q:Bool}{fi:Int}{T:Nat}(h:Bi w gr gc B a s ep vL l vM M q fi T W)(hB:B.length≤1000000000){t:Rs}{D:List UInt8}(hF:s.frame B 2097152=(t,D)):
  Calls Tryz.prog 194 #[.pointer (some ⟨gr,0,none⟩)] W fun r W'=>∃ap cp,r=.returned (.tuple #[.slice ap D.length cp,.int .i64 ((t.p:Int)-4-(D.length:Int))])∧Ag.r (fun x=>W.heap.size≤x∧x<W'.heap.size) W' [.slice ap D.length cp] D∧Bi w gr gc B a t ep vL l vM M q (s.p:Int) T W'∧W.heap.size≤W'.heap.size∧Tch (fun b=>b=gc∨b=gr) W W':=by
 have HI:=hid h;have hgc:gc<gr:=Ao h.inv.lt h.gl;have hp:=h.inv.rd.ok.le;have hdl:D.length≤B.length:=by
  have:=Rs.QE (B:=B) (s:=s) (m:=2097152);rw[hF] at this;exact this
 have HAT:=hid (BI W h.inv.rd);have HFR:=hid (fun (V:World) (hV:AN V gc B a s)=>(by have:=QD V hV hB 2097152 zO;rw[hF] at this;exact this:Calls Tryz.prog 246 #[.pointer (some ⟨gc,0,none⟩),.int .i64 2097152] V fun r w'=>∃v,r=.returned v∧Ag.r (fun q=>V.heap.size≤q∧q<w'.heap.size) w' [v] D∧Ay V gc B a t w'));have HAT2:=hid (fun (V:World) (hV:AN V gc B a t)=>BI V hV);obtain⟨y0,y1,y2,y3,y4,y5,ly⟩:=CF h.rb;obtain⟨z0,z1,z2,z3,z4,z5⟩:=LG h.rb;clear h hF;go_enter Tryz.func194,Tryz.ntmps194;go_wp2_with fail;refine HAT.out.mono ?_;rintro r w1 ⟨rfl,rfl⟩;go_upto_region 2 with (fail);have HI1:=hid (HI.out.UK (s.p:Int));have hz1:(W.setCell ⟨gr,5,none⟩ (.int .i64 (s.p:Int))).heap.size=W.heap.size:=zY;have ht1:Tch (fun b=>b=gc∨b=gr) W (W.setCell ⟨gr,5,none⟩ (.int .i64 (s.p:Int))):=(Tch.refl _ _).setCell (fun _=> .inr rfl) _;have HT1:=hid ht1;clear ht1;generalize (W.setCell ⟨gr,5,none⟩ (.int .i64 (s.p:Int)))=w2 at*;clear y0 y1 y2 y3 y4 y5 ly z0 z1 z2 z3 z4 z5;obtain⟨y0,y1,y2,y3,y4,y5,ly⟩:=CF HI1.out.rb;go_wp2_with fail;refine (HFR.out w2 HI1.out.inv.rd).mono ?_;rintro r w3 ⟨v3,rfl,hr3,hst3⟩;obtain⟨ap,cp,hfv,hr3',hDl⟩:=AJ hr3;simp only[As,AF] at hfv;subst hfv;have HI3:=hid (HI1.out.step hst3);have HR3:=hid hr3';have HTC:=hid (HT1.out.trans hst3.2 fun b _ e=> .inl e);have hz3:=hst3.2.size;have hp3:=hst3.1.ok.le;clear hr3 hr3' hst3 y0 y1 y2 y3 y4 y5 ly;obtain⟨y0,y1,y2,y3,y4,y5,ly⟩:=CF HI3.out.rb;go_wp2_with fail;refine (HAT2.out w3 HI3.out.inv.rd).mono ?_;rintro r w4 ⟨rfl,rfl⟩;go_wp2_with fail;refine An (v:=.tuple #[.slice ap D.length cp,.int .i64 ((t.p:Int)-4-(D.length:Int))]) (by simp[results,Tryz.results194,go_sem]) rfl ?_;exact⟨ap,cp,rfl,Ag.mono HR3.out fun x hx=>⟨zD,hx.2⟩,HI3.out,zD,HTC.out⟩
structure Oi(blk:List UInt8→Rs→Rs × List UInt8 × Bool):Prop where
 k:∀(P:List UInt8) (t:Rs),(blk P t).1.k=0→t.k=0
 len:∀(P:List UInt8) (t:Rs),(blk P t).2.1.length≤1048576
 can:∀(P:List UInt8) (t:Rs),t.ok P.length→(blk P t).1.k=0→(blk P t).2.2=true→P.drop t.p=CM (blk P t).2.1++P.drop (blk P t).1.p
 ok:∀(P:List UInt8) (t:Rs),t.ok P.length→(blk P t).1.ok P.length
theorem UY:Oi bS:=⟨fun P t=>TG t,fun P t=>Mn t,fun P t h=>TH t h,fun P t h=>TF h⟩
theorem UZ:Oi bL:=⟨fun P t=>UB t,fun P t=>Sy t,fun P t h=>Pu t h,fun P t h=>Rs.JA h 1048576⟩
theorem Rs.Eb(h:s.k=0){k a:Int}:(s.within k f a).k=k:=by
 unfold Rs.within;split
 ·rename_i h0
  rw[h,h0]
 ·unfold Rs.fail
  rw[Ai h]
theorem RY{blk:List UInt8→Rs→Rs × List UInt8 × Bool}(hb:Oi blk)(hP:P≠[])(h1:P.headD 0=1)(hk:((Rs.batch P (blk P) ⟨1,0,0⟩).1.fin P.length).k=0):
  A4 (Rs.batch P (blk P) ⟨1,0,0⟩).2.1=true∧EK (Rs.batch P (blk P) ⟨1,0,0⟩).2.1∧((Rs.batch P (blk P) ⟨1,0,0⟩).2.2=true→P=1::Co (Rs.batch P (blk P) ⟨1,0,0⟩).2.1):=by
 have hl:1≤P.length:=List.length_pos_iff.2 hP;obtain⟨f1,f2,f3⟩:=L4 hk;have ok1:(⟨1,0,0⟩:Rs).ok P.length:=⟨hl,fun _=>rfl⟩;obtain⟨c1,c2,t,c3,c4,c5,c6,c7,c8⟩:=Rs.Gl ok1 f1 (hb.k P) (hb.len P);refine⟨c1,c2,fun hq=> ?_⟩;rw[c5] at f1 f2;rw[c7] at hq;have h3:=hb.can P t c3 f1 hq;have h4:P.drop (blk P t).1.p=[]:=List.drop_eq_nil_of_le f2;rw[h4,Io,←c6] at h3;rw[h3] at c4;have h5:P=[1]++P.drop 1:=by
  cases P with
  | nil=>exact absurd rfl hP
  | cons x l=>
   have:x=1:=h1;rw[this];rfl
 have c4':P.drop 1=Kk (Rs.batch P (blk P) ⟨1,0,0⟩).2.1++CM (CQ (Rs.batch P (blk P) ⟨1,0,0⟩).2.1.entries):=c4;rw[c4'] at h5;exact h5
theorem RW(hP:P≠[])(h2:P.headD 0=2)(hk:(((⟨1,0,0⟩:Rs).CK P).1.fin P.length).k=0):
  Cv ((⟨1,0,0⟩:Rs).CK P).2=true∧P=2::Bx ((⟨1,0,0⟩:Rs).CK P).2:=by
 have hl:1≤P.length:=List.length_pos_iff.2 hP;obtain⟨f1,f2,f3⟩:=L4 hk;have ok1:(⟨1,0,0⟩:Rs).ok P.length:=⟨hl,fun _=>rfl⟩;obtain⟨c1,c2⟩:=Rs.OM ok1 f1;have h4:P.drop ((⟨1,0,0⟩:Rs).CK P).1.p=[]:=List.drop_eq_nil_of_le f2;rw[h4,Io] at c2;have h5:P=[2]++P.drop 1:=by
  cases P with
  | nil=>exact absurd rfl hP
  | cons x l=>
   have:x=2:=h2;rw[this];rfl
 refine⟨c1,?_⟩;have c2':P.drop 1=Bx ((⟨1,0,0⟩:Rs).CK P).2:=c2;rw[c2'] at h5;exact h5
theorem Qc(l:List Batch)(b:Batch):BM (l++[b]) (l++[b]).length=some b:=by
 unfold BM;rw[Ah zQ];simp
theorem CC(B:List UInt8)(ep:Int)(blk:List UInt8→Rs→Rs × List UInt8 × Bool)(n:Nat)(s:Rs)(l:List Batch)(M:List AU)(q:Bool){F:Rs × List UInt8}(hF:s.frame B 2097152=F):Bt B ep blk (n+1) s l M q=
  (if F.1.k=0 then
   if F.2=[] then (F.1.fail 1 ((F.1.p:Int)-4-(F.2.length:Int)),s.p,l,M,q)
   else if F.2.headD 0=1 then
    if (F.1.within ((Rs.batch F.2 (blk F.2) ⟨1,0,0⟩).1.fin F.2.length).k ((Rs.batch F.2 (blk F.2) ⟨1,0,0⟩).1.fin F.2.length).f ((F.1.p:Int)-4-(F.2.length:Int))).k=0 then
     if l.length=16 then ((F.1.within ((Rs.batch F.2 (blk F.2) ⟨1,0,0⟩).1.fin F.2.length).k ((Rs.batch F.2 (blk F.2) ⟨1,0,0⟩).1.fin F.2.length).f ((F.1.p:Int)-4-(F.2.length:Int))).fail 2 s.p,s.p,l,M,q)
     else if En ep (BM l l.length) (Rs.batch F.2 (blk F.2) ⟨1,0,0⟩).2.1=true then Bt B ep blk n (F.1.within ((Rs.batch F.2 (blk F.2) ⟨1,0,0⟩).1.fin F.2.length).k ((Rs.batch F.2 (blk F.2) ⟨1,0,0⟩).1.fin F.2.length).f ((F.1.p:Int)-4-(F.2.length:Int))) (l++[(Rs.batch F.2 (blk F.2) ⟨1,0,0⟩).2.1]) (M++[⟨(Rs.batch F.2 (blk F.2) ⟨1,0,0⟩).2.1.base,(Rs.batch F.2 (blk F.2) ⟨1,0,0⟩).2.1.entries.length,s.p⟩]) (q&&(Rs.batch F.2 (blk F.2) ⟨1,0,0⟩).2.2)
     else ((F.1.within ((Rs.batch F.2 (blk F.2) ⟨1,0,0⟩).1.fin F.2.length).k ((Rs.batch F.2 (blk F.2) ⟨1,0,0⟩).1.fin F.2.length).f ((F.1.p:Int)-4-(F.2.length:Int))).fail 13 s.p,s.p,l,M,q)
    else ((F.1.within ((Rs.batch F.2 (blk F.2) ⟨1,0,0⟩).1.fin F.2.length).k ((Rs.batch F.2 (blk F.2) ⟨1,0,0⟩).1.fin F.2.length).f ((F.1.p:Int)-4-(F.2.length:Int))),s.p,l,M,q)
   else if F.2.headD 0=2 then
    (if (F.1.within ((((⟨1,0,0⟩:Rs).CK F.2).1.fin F.2.length).k) ((((⟨1,0,0⟩:Rs).CK F.2).1.fin F.2.length).f) ((F.1.p:Int)-4-(F.2.length:Int))).k=0∧((⟨1,0,0⟩:Rs).CK F.2).2≠M then (F.1.within ((((⟨1,0,0⟩:Rs).CK F.2).1.fin F.2.length).k) ((((⟨1,0,0⟩:Rs).CK F.2).1.fin F.2.length).f) ((F.1.p:Int)-4-(F.2.length:Int))).fail 12 s.p else (F.1.within ((((⟨1,0,0⟩:Rs).CK F.2).1.fin F.2.length).k) ((((⟨1,0,0⟩:Rs).CK F.2).1.fin F.2.length).f) ((F.1.p:Int)-4-(F.2.length:Int))),s.p,l,M,q)
   else (F.1.fail 7 ((F.1.p:Int)-4-(F.2.length:Int)),s.p,l,M,q)
  else (F.1,s.p,l,M,q)):=by
 subst hF;rfl
theorem JX{ep:Int}{blk:List UInt8→Rs→Rs × List UInt8 × Bool}(hb:Oi blk):∀(n:Nat) (s:Rs) (l:List Batch) (M:List AU) (q:Bool),s.fit B.length→B.length-s.p<n→l.length≤16→
  (Bt B ep blk n s l M q).1.k=0→∃t:List Batch,(Bt B ep blk n s l M q).2.2.1=l++t∧(l++t).length≤16∧DL ep (BM l l.length) t=true∧(∀b∈t,EK b)∧(Bt B ep blk n s l M q).1.fit B.length∧Cv (Bt B ep blk n s l M q).2.2.2.1=true∧
   ((Bt B ep blk n s l M q).2.2.2.2=true→q=true∧∀J:List UInt8,B=J++B.drop s.p→J.length=s.p→
    (Ee J M t).2=(Bt B ep blk n s l M q).2.2.2.1∧(Bt B ep blk n s l M q).2.1=(Ee J M t).1.length∧B=(Ee J M t).1++Em 2 (Bx (Ee J M t).2)++B.drop (Bt B ep blk n s l M q).1.p)
 | 0,s,l,M,q,hs,hn,hl,h=>absurd hn (Nat.not_lt_zero _)
 | n+1,s,l,M,q,hs,hn,hl,h=>by
  generalize hF:s.frame B 2097152=F;rw[CC B ep blk n s l M q hF] at h ⊢;have hfit:=Rs.Gz hs 2097152;rw[hF] at hfit;have hcan:=fun hk:F.1.k=0=>Rs.Ex (P:=F.2) (t:=F.1) hs hF hk;obtain⟨u,P⟩:=F;dsimp only at*;by_cases hk:u.k=0
  ·rw[Ai hk] at h ⊢
   obtain⟨c1,c2,c3,c4,c5⟩:=hcan hk;have hlow:=FU P;by_cases hP:P=[]
   ·rw[Ai hP] at h
    exact absurd h (Rs.A0 zD)
   ·rw[Ah hP] at h ⊢
    by_cases h1:P.headD 0=1
    ·rw[Ai h1] at h ⊢
     have hRB:=RY hb hP h1;generalize Rs.batch P (blk P) ⟨1,0,0⟩=b at*;obtain⟨bs,b,bq⟩:=b;dsimp only at*;by_cases he:(bs.fin P.length).k=0
     ·obtain⟨r1,r2,r3⟩:=hRB he
      rw[he,Rs.CS,Ai hk] at h ⊢;by_cases h16:l.length=16
      ·rw[Ai h16] at h
       exact absurd h (Rs.A0 zD)
      ·rw[Ah h16] at h ⊢
       by_cases hm:En ep (BM l l.length) b=true
       ·rw[Ai hm] at h ⊢
        obtain⟨t,i1,i2,i3,i4,i5,i6,i7⟩:=JX hb n u (l++[b]) (M++[⟨b.base,b.entries.length,s.p⟩]) (q&&bq) hfit zD zAx h;rw[Qc] at i3;refine⟨b::t,by rw[i1,AB];rfl,by rw[AB] at i2;exact i2,?_,?_,i5,i6,fun hq=> ?_⟩
        ·unfold DL
         rw[r1,hm,i3];rfl
        ·intro x hx
         rcases List.mem_cons.1 hx with rfl | hx
         ·exact r2
         ·exact i4 x hx
        ·obtain⟨j1,j2⟩:=i7 hq
         rw[Aq] at j1;refine⟨j1.1,fun J hJ hJl=> ?_⟩;have hrec:Ck P=Em 1 (Co b):=by
          unfold Em;rw[←r3 j1.2]
         rw[hrec] at c1 c2;have hJ2:B=(J++Em 1 (Co b))++B.drop u.p:=by
          rw[AB,←c1];exact hJ
         obtain⟨k1,k2,k3⟩:=j2 (J++Em 1 (Co b)) hJ2 (by rw[Al,hJl,c2]);have hgo:Ee J M (b::t)=Ee (J++Em 1 (Co b)) (M++[⟨b.base,b.entries.length,s.p⟩]) t:=by
          rw[←hJl];rfl
         rw[hgo];exact⟨k1,k2,k3⟩
       ·rw[Ah hm] at h
        exact absurd h (Rs.A0 zD)
     ·rw[Ah (by rw[Rs.Eb hk];exact he)] at h
      dsimp only at h;rw[Rs.Eb hk] at h;exact absurd h he
    ·rw[Ah h1] at h ⊢
     by_cases h2:P.headD 0=2
     ·rw[Ai h2] at h ⊢
      have hRM:=RW hP h2;generalize (⟨1,0,0⟩:Rs).CK P=m at*;obtain⟨ms,m⟩:=m;dsimp only at*;by_cases he:(ms.fin P.length).k=0
      ·obtain⟨r1,r2⟩:=hRM he
       rw[he,Rs.CS] at h ⊢;by_cases hmM:m=M
       ·rw[Ah (fun hh=>hh.2 hmM)] at h ⊢
        subst hmM;refine⟨[],zQ,zBb,rfl,fun b hb=>absurd hb zQ,hfit,r1,fun hq=>⟨hq,fun J hJ hJl=> ?_⟩⟩;refine⟨rfl,hJl.symm,?_⟩;have hrec:Ck P=Em 2 (Bx m):=by
         unfold Em;rw[←r2]
        show B=J++Em 2 (Bx m)++B.drop u.p
        rw[←hrec,AB,←c1];exact hJ
       ·rw[Ai ⟨hk,hmM⟩] at h
        exact absurd h (Rs.A0 zD)
      ·rw[Ah (fun hh=>he (by rw[Rs.Eb hk] at hh;exact hh.1))] at h
       rw[Rs.Eb hk] at h;exact absurd h he
     ·rw[Ah h2] at h
      exact absurd h (Rs.A0 zD)
  ·rw[Ah hk] at h
   exact absurd h hk
end Go.Proofs.YtfddhafbhceoaaaGreat
namespace Go.Bs
open Go.RowKit
theorem AY.app{α:Type}{w w':World}{F:Nat→Prop}{A:Rp α}{base:Nat}{e:TypeId}{sz:Nat}{v v':Value}{xs ys:List α}{news:List (List Value)}{cells:List (List Value)}(h:AY F A base e sz w v xs cells)(hF:∀b,F b→b<w.heap.size)
 (hl:news.length=ys.length) (hn:∀c∈news,c.length=sz) (hx:∀(i:Nat) cs y,news[i]? =some cs→ys[i]? =some y→A.r (fun b=>F b∧v.ownBlock≠some b) w cs y)
 (hown:w'.ownsRow base e sz v' (xs.length+ys.length) (cells.flatten++news.flatten)) (hg:w.grownBy w' v.ownBlock) (hat:v'.ownBlock=v.ownBlock∨v'.ownBlock=some w.heap.size):AY F A base e sz w' v' (xs++ys) (cells++news):=by
 obtain⟨ho,hlen,hsz,hA⟩:=h;have lift:∀cs y,A.r (fun b=>F b∧v.ownBlock≠some b) w cs y→A.r (fun b=>F b∧v'.ownBlock≠some b) w' cs y:=fun cs y hr=>
  A.mono (A.keep hr fun b hb=>hg.block b (hF b hb.1) (fun e=>hb.2 e.symm)) fun b hb=>⟨hb.1,fun e=>by
   rcases hat with h | h
   ·exact hb.2 (h ▸ e)
   ·rw[h] at e;have:=A5 e;have:=hF b hb.1;omega⟩
 refine⟨?_,by simp[hlen,hl],?_,?_⟩
 ·rw[EY,Al]
  exact hown
 ·intro c hc
  rcases List.mem_append.1 hc with h | h
  ·exact hsz c h
  ·exact hn c h
 ·intro i cs y hi hy
  by_cases hlt:i<xs.length
  ·rw[CE zD] at hi
   rw[CE hlt] at hy;exact lift _ _ (hA i cs y hi hy)
  ·rw[Cr zD,hlen] at hi
   rw[Cr zD] at hy;exact lift _ _ (hx _ _ _ hi hy)
end Go.Bs
namespace Go.Proofs.YtfddhafbhceoaaaGreat
open Go.RowKit Go.Bs Go.Maps
variable{q:Bool}{f m pos:Int}{B P:List UInt8}{L base c g gc gr n:Nat}{F:Nat → Prop}{a ap:Option Addr}{s:Rs}{e t:TypeId}{v v0 v1 v2:Value}{W w w':World}
theorem Tp{x:Nat}{c a pos at_:Int}(hp:0≤pos)(h:4611686018427387904≤x):CU ⟨pos+(x:Int),c,a⟩ pos at_=false:=by
 rcases h2:CU ⟨pos+(x:Int),c,a⟩ pos at_ with _ | _
 ·rfl
 ·have:=(DV h2).2.2.2.1
  dsimp only at this;omega
structure PD(w:World)(g:Nat)(B:List UInt8)(a:Option Addr)(s:Rs)(v:Value)(M:List AU)(W:World):Prop where
 inv:Cf w W g B a s
 own:AZ w.heap.size He w.heap.size 88 3 W v M
section
variable {w W W':World} {g:Nat} {B:List UInt8} {a:Option Addr} {s s':Rs} {v v':Value} {M:List AU}
theorem PD.step(h:PD w g B a s v M W)(k:Ay W g B a s' W'):PD w g B a s' v M W':=
 ⟨h.inv.step k,AZ.RG h.own (k.2.mono fun b _ e=> .inl e) h.inv.lt⟩
theorem PD.later(h:PD w g B a s v M W)(hb:Below W.heap.size W W'):PD w g B a s v M W':=
 ⟨h.inv.row (hb.mono h.inv.tch.size),h.own.below hb⟩
end
theorem Hj(h:Blk w g t #[v0,v1,v2]):w.cell? ⟨g,0,none⟩=some v0∧w.cell? ⟨g,1,none⟩=some v1∧w.cell? ⟨g,2,none⟩=some v2∧g<w.heap.size:=
 ⟨h.cell 0,h.cell 1,h.cell 2,h.lt⟩
theorem Qj{m:AU}:∀u∈[(.int .u64 m.pos:Value),.int .i64 m.count,.int .i64 m.at_],u.oneCell'=true:=by
 intro u hu;simp at hu;rcases hu with rfl | rfl | rfl<;>rfl
theorem Qv(w:World){g:Nat}{B:List UInt8}{a:Option Addr}{s:Rs}(h:AN w g B a s)(hB:B.length≤1000000000):
  Calls Tryz.prog 263 #[.pointer (some ⟨g,0,none⟩)] w fun r w'=>∃v,r=.returned v∧Bk.r (fun q=>w.heap.size≤q∧q<w'.heap.size) w' [v] (s.CK B).2∧Ay w g B a (s.CK B).1 w':=by
 obtain⟨j0,hj,hy0,hy1,hy2⟩:=A1 LU;have HIN:=hid (Cf.refl h);have HN0:=hid (Ct w h zD 16 zO);have hn16:=Rs.EJ (B:=B) (s:=s) (m:=16);unfold Rs.CK;generalize s.int B 16=T0 at*;obtain⟨s0,n⟩:=T0;dsimp only at*;obtain⟨RES,hRES⟩:∃RES,RES=Rs.Gt B n s0 0 0 []:=⟨_,rfl⟩;rw[←hRES];have HR0:=hid hRES.symm;obtain⟨sF,MF⟩:=RES;have hn16':n≤16:=zD;clear h hRES;dsimp only;go_enter Tryz.func263,Tryz.ntmps263;go_wp2_with fail;refine HN0.out.mono ?_;rintro r w1 ⟨rfl,hst1⟩;have HI1:Hid (PD w g B a s0 (.slice none 0 0) [] w1):=hid ⟨HIN.out.step hst1,AZ.nil⟩;clear hst1 HIN HN0;go_wp2_with fail;go_loopw [3,4,5,12] (fun v p at_ i wr=>∃(k:Nat) (t:Rs) (M:List AU) (pos b:Int),k≤n∧i=.int .i64 k∧p=.int .u64 pos∧at_=.int .i64 b∧Hid (M.length=k)∧(0≤pos∧pos≤4611686018427387904)∧(0≤b∧b≤1099511627775)∧PD w g B a t v M wr∧Hid (Rs.Gt B (n-k) t pos b M=(sF,MF))) (fun _ _ _ i _=>n-(intOf i).toNat)
 case atStart=>exact ⟨0,s0,[],0,0,At _,rfl,rfl,rfl,hid rfl,⟨zO,zO⟩,⟨zO,zO⟩,HI1.out,hid (by rw[Nat.sub_zero];exact HR0.out)⟩
 case round=>
  obtain⟨k,t,M,pos,b,hk,rfl,rfl,rfl,hMk,hpos,hbb,hI,hsp⟩:=hrel;obtain⟨cells0,hca⟩:=hI.own;obtain⟨aM,cM,rfl⟩:=AX hca.1;have HI:=hid hI;have hML:M.length≤16:=by have:=hMk.out;omega
  clear hca hI;by_cases hlt:k<n
  ·have i1:(k:Int)<(n:Int):=by omega
   have d1:decide ((k:Int)<(n:Int))=true:=Ad i1;obtain⟨mm,hmm⟩:∃mm,n-k=mm+1:=⟨n-k-1,zD⟩;have hst:=hsp.out;rw[hmm,Rs.Kz] at hst;have HAT:=hid (fun (W:World) (hW:AN W g B a t)=>BI W hW);have HX:=hid (fun (W:World) (hW:AN W g B a t)=>Cz W hW zD);have hxu:=Rs.D5 (B:=B) (s:=t);have hfar:=@Tp (t.num B).2;generalize t.num B=X at*;obtain⟨t1,x⟩:=X;dsimp only at*;have HC:=hid (fun (W:World) (hW:AN W g B a t1)=>Ct W hW zD 16 zO);have hcu:=Rs.EJ (B:=B) (s:=t1) (m:=16);generalize t1.int B 16=C at*;obtain⟨t2,c⟩:=C;dsimp only at*;have HO:=hid (fun (W:World) (hW:AN W g B a t2)=>Ct W hW zD 1099511627775 zO);have hou:=Rs.EJ (B:=B) (s:=t2) (m:=1099511627775);generalize t2.int B 1099511627775=O at*;obtain⟨t3,o⟩:=O;dsimp only at*;have hcu':c≤16:=zD;have hou':o≤1099511627775:=zD;clear hcu hou;replace hfar:=@hfar (c:Int) (b+1+(o:Int)) pos b hpos.1;obtain⟨y,hy⟩:∃y,IntKind.u64.wrap (pos+(x:Int))=y:=⟨_,rfl⟩;have hyu:=Lf (pos+(x:Int));rw[hy] at hyu;have hyx:x<4611686018427387904→y=pos+(x:Int):=fun h=>by
    rw[←hy,IntKind.wrap_u64,Int.emod_eq_of_lt zD zD]
   have HY:=hid hy;have HFI:=hid (fun (W:World)=>(by have:=LW ⟨y,(c:Int),b+1+(o:Int)⟩ ⟨hyu,⟨zH,zH⟩,⟨zH,zH⟩⟩ pos b W;exact this:Calls Tryz.prog 325 #[.agg #[.int .u64 y,.int .i64 (c:Int),.int .i64 (b+1+(o:Int))],.int .u64 pos,.int .i64 b] W fun r w'=>r=.returned (.bool (CU ⟨y,(c:Int),b+1+(o:Int)⟩ pos b))∧Below W.heap.size W w'));have HFL:=hid (fun (W:World) (hW:AN W g B a t3)=>Bd W hW 3 (t.p:Int) zO);have hHF:=@DV ⟨pos+(x:Int),(c:Int),b+1+(o:Int)⟩ pos b;have HST:=hid hst;clear hy hst hsp;go_wp2_with fail;refine (HAT.out _ HI.out.inv.rd).mono ?_;rintro r w2 ⟨rfl,rfl⟩;go_wp2_with fail;refine (HX.out _ HI.out.inv.rd).mono ?_;rintro r w3 ⟨rfl,hst3⟩;have HI3:=hid (HI.out.step hst3);clear hst3 HI;go_wp2_with fail;refine (HC.out _ HI3.out.inv.rd).mono ?_;rintro r w4 ⟨rfl,hst4⟩;have HI4:=hid (HI3.out.step hst4);clear hst4 HI3;go_wp2_with fail;refine (HO.out _ HI4.out.inv.rd).mono ?_;rintro r w5 ⟨rfl,hst5⟩;have HI5:=hid (HI4.out.step hst5);clear hst5 HI4;go_upto_region 10 with (fail)
   (try rw[HY.out])
   have HI6:=hid (HI5.out.later (show Below w5.heap.size w5 (w5.alloc (.cells #[.int .u64 y,.int .i64 (c:Int),.int .i64 (b+1+(o:Int))] 88)) by (repeat (first | with_reducible exact Below.refl _ _ | with_reducible assumption | (with_reducible refine Au ?_ _) | (with_reducible refine Below.setCell ?_ zE _) | (with_reducible refine Below.drew ?_) | (with_reducible refine below_drewN ?_ _) | (refine Af zG ?_)))));have HB6:Hid (Blk (w5.alloc (.cells #[.int .u64 y,.int .i64 (c:Int),.int .i64 (b+1+(o:Int))] 88)) w5.heap.size 88 #[.int .u64 y,.int .i64 (c:Int),.int .i64 (b+1+(o:Int))]):=hid (Blk.new _ _ _);generalize (w5.alloc (.cells #[.int .u64 y,.int .i64 (c:Int),.int .i64 (b+1+(o:Int))] 88))=w6 at*;have hOw:Hid (∀q,(Value.slice aM M.length cM).ownBlock=some q→q<w5.heap.size):=hid fun q e=>by
    obtain⟨_,h⟩:=HI5.out.own;exact (h.1.lt q e).2
   generalize w5.heap.size=gm at*;clear HI5;obtain⟨y0,y1,y2,ly⟩:=Hj HB6.out;by_cases hF:CU ⟨pos+(x:Int),(c:Int),b+1+(o:Int)⟩ pos b=true
   ·have hx:x<4611686018427387904:=by
     rcases Be x 4611686018427387904 with h | h
     ·exact h
     ·rw[hfar h] at hF
      cases hF
    have hyy:=hyx hx;subst hyy;have d2:decide ((4611686018427387904:Int)≤(x:Int))=false:=Ae zD;have hff:=hHF hF;rw[hF] at HFI;go_wp2_with fail;refine (HFI.out _).mono ?_;rintro r w7 ⟨rfl,hb7⟩;have HI7:=hid (HI6.out.later hb7);have HB7:=HB6.out.later hb7;clear y0 y1 y2 ly hb7 HI6 HB6;obtain⟨y0,y1,y2,ly⟩:=Hj HB7;by_cases hk3:t3.k=0
    ·have hs:=HST.out
     rw[Ai hk3,Ai hF] at hs;have HS:=hid hs;have HG:=hid (fun (W:World) (hW:AN W g B a t3)=>(by have:=AK W hW;rw[Ad hk3] at this;exact this:Calls Tryz.prog 112 #[.pointer (some ⟨g,0,none⟩)] W fun r w'=>r=.returned (.bool true)∧Below W.heap.size W w'));clear hs hk3 HST hF hfar hHF hyx hyu;go_wp2_with fail;refine (HG.out _ HI7.out.inv.rd).mono ?_;rintro r w8 ⟨rfl,hb8⟩;have HI8:=hid (HI7.out.later hb8);have HB8:=hid (HB7.later hb8);clear y0 y1 y2 ly hb8 HI7 HB7;obtain⟨y0,y1,y2,ly⟩:=Hj HB8.out;have HI9:=hid (HI8.out.later (show Below w8.heap.size w8 (w8.alloc (.cells #[.int .u64 (pos+(x:Int)),.int .i64 (c:Int),.int .i64 (b+1+(o:Int))] 88)) by (repeat (first | with_reducible exact Below.refl _ _ | with_reducible assumption | (with_reducible refine Au ?_ _) | (with_reducible refine Below.setCell ?_ zE _) | (with_reducible refine Below.drew ?_) | (with_reducible refine below_drewN ?_ _) | (refine Af zG ?_)))));obtain⟨cells9,hc9⟩:=HI9.out.own;have HC9:=hid hc9;have hz9:w.heap.size≤(w8.alloc (.cells #[.int .u64 (pos+(x:Int)),.int .i64 (c:Int),.int .i64 (b+1+(o:Int))] 88)).heap.size:=HI9.out.inv.tch.size;have HB9:=HB8.out.alloc (.cells #[.int .u64 (pos+(x:Int)),.int .i64 (c:Int),.int .i64 (b+1+(o:Int))] 88);clear hc9;have HEN:=hid (fun (W:World)=>(by have:=Ew ⟨pos+(x:Int),(c:Int),b+1+(o:Int)⟩ zH ⟨zH,zH⟩ zH W;exact this:Calls Tryz.prog 283 #[.agg #[.int .u64 (pos+(x:Int)),.int .i64 (c:Int),.int .i64 (b+1+(o:Int))]] W fun r w'=>r=.returned (.int .u64 (pos+(x:Int)+(c:Int)))∧Below W.heap.size W w'));go_wp2_with (at_builtin;go_loud (refine AA rfl _ _ _ rfl w.heap.size 88 j0 (.agg #[.int .u64 0,.int .i64 0,.int .i64 0]) 3 24 Tryz.underlying79 hj hy0 hy1 hy2 rfl zO (.slice aM M.length cM) M.length cells9.flatten rfl HC9.out.1 (some ⟨w8.heap.size,0,none⟩) 1 1 [.int .u64 (pos+(x:Int)),.int .i64 (c:Int),.int .i64 (b+1+(o:Int))] rfl (BS w8 88 _ rfl rfl rfl) (Qj (m:=⟨pos+(x:Int),(c:Int),b+1+(o:Int)⟩)) zN zD hz9 ?_;intro v10 w10 hown10 hgrow10 hat10;obtain⟨a10,c10,rfl⟩:=AX hown10;have HO10:=hid (AZ.push HC9.out (x:=(⟨pos+(x:Int),(c:Int),b+1+(o:Int)⟩:AU)) rfl (Jy ⟨⟨zH,zH⟩,⟨zH,zH⟩,⟨zH,zH⟩⟩) hown10 hgrow10 hat10 hgrow10.size);have HIV:=hid (HI9.out.inv.row (Below.grown (Below.refl _ _) hgrow10 hz9 (fun g e=>(Gc HC9.out.1 g e).1)));have HB10:=HB9.grown hgrow10 (fun e=>Nat.lt_irrefl _ (hOw.out _ e.symm));obtain⟨y0',y1',y2',ly'⟩:=Hj HB10;clear hown10 hgrow10 hat10))
     clear y0 y1 y2 ly HB9 HB8 HI8 HI9 HC9 hz9;have Y0:=fun s:AE w10=>s.cell y0';have Y1:=fun s:AE w10=>s.cell y1';have Y2:=fun s:AE w10=>s.cell y2';clear y0' y1' y2' ly' HB10;go_wp2_with fail;refine Ax zJ zJ ?_;repeat (go_big_quiet_step (((go_at_call 283;exact A9 (HEN.out _)))))
     refine AI ?_;rintro W11 ⟨⟨W11',hb11⟩,rfl⟩;go_wp2_with fail;go_roundw
     case rel=>exact ⟨k+1,t3,M++[⟨pos+(x:Int),(c:Int),b+1+(o:Int)⟩],pos+(x:Int)+(c:Int),b+1+(o:Int),zD,zT,rfl,rfl,hid (by rw[Al,hMk.out];rfl),⟨zD,zD⟩,⟨zD,zD⟩,⟨HIV.out.row (hb11.mono HIV.out.tch.size),HO10.out.below hb11⟩,hid (by rw[show n-(k+1)=mm by omega];exact HS.out)⟩
     case measure=>(simp[intOf];try omega)
    ·have hs:=HST.out
     rw[Ah hk3] at hs;simp only[EO] at hs;obtain⟨rfl,rfl⟩:=hs;have HG:=hid (fun (W:World) (hW:AN W g B a t3)=>(by have:=AK W hW;rw[Ae hk3] at this;exact this:Calls Tryz.prog 112 #[.pointer (some ⟨g,0,none⟩)] W fun r w'=>r=.returned (.bool false)∧Below W.heap.size W w'));clear hk3 HST hF hfar hHF hyx hyu;go_wp2_with fail;refine (HG.out _ HI7.out.inv.rd).mono ?_;rintro r w8 ⟨rfl,hb8⟩;have HI8:=hid (HI7.out.later hb8);go_wp2_with fail;go_ret;exact⟨_,rfl,BL (xs:=[]) rfl (Ap _) (At _) (.inl rfl),HI8.out.inv.to⟩
   ·have hF':CU ⟨pos+(x:Int),(c:Int),b+1+(o:Int)⟩ pos b=false:=by simpa using hF
    have hs:=HST.out;have hend:(t3.fail 3 (t.p:Int),([]:List AU))=(sF,MF):=by
     by_cases hk3:t3.k=0
     ·rw[Ai hk3,Ah hF] at hs
      exact hs
     ·rw[Ah hk3] at hs
      rw[Rs.CW hk3];exact hs
    simp only[EO] at hend;obtain⟨rfl,rfl⟩:=hend;have HG:=hid (fun (W:World) (hW:AN W g B a (t3.fail 3 (t.p:Int)))=>(by have:=AK W hW;rw[Ae (Rs.A0 zO)] at this;exact this:Calls Tryz.prog 112 #[.pointer (some ⟨g,0,none⟩)] W fun r w'=>r=.returned (.bool false)∧Below W.heap.size W w'));by_cases hx:x<4611686018427387904
    ·have hyy:=hyx hx
     subst hyy;have d2:decide ((4611686018427387904:Int)≤(x:Int))=false:=Ae zD;rw[hF'] at HFI;clear HST hF hF' hfar hHF hyx hyu hs HR0;go_wp2_with fail;refine (HFI.out _).mono ?_;rintro r w7 ⟨rfl,hb7⟩;have HI7:=hid (HI6.out.later hb7);go_wp2_with fail;refine (HFL.out _ HI7.out.inv.rd).mono ?_;rintro r w8 ⟨rfl,hst8⟩;have HI8:=hid (HI7.out.step hst8);go_wp2_with fail;refine (HG.out _ HI8.out.inv.rd).mono ?_;rintro r w9 ⟨rfl,hb9⟩;have HI9:=hid (HI8.out.later hb9);go_wp2_with fail;go_ret;exact⟨_,rfl,BL (xs:=[]) rfl (Ap _) (At _) (.inl rfl),HI9.out.inv.to⟩
    ·have d2:decide ((4611686018427387904:Int)≤(x:Int))=true:=Ad zD
     clear HST hF hF' hfar hHF hyx hyu hs HR0;go_wp2_with fail;refine (HFL.out _ HI6.out.inv.rd).mono ?_;rintro r w8 ⟨rfl,hst8⟩;have HI8:=hid (HI6.out.step hst8);go_wp2_with fail;refine (HG.out _ HI8.out.inv.rd).mono ?_;rintro r w9 ⟨rfl,hb9⟩;have HI9:=hid (HI8.out.later hb9);go_wp2_with fail;go_ret;exact⟨_,rfl,BL (xs:=[]) rfl (Ap _) (At _) (.inl rfl),HI9.out.inv.to⟩
  ·obtain rfl:k=n:=by omega
   have d1:decide ((k:Int)<(k:Int))=false:=Ae zD;have hs:=hsp.out;rw[Nat.sub_self] at hs;have hs2:(t,M)=(sF,MF):=hs;simp only[EO] at hs2;obtain⟨rfl,rfl⟩:=hs2;clear hsp hs HR0;go_wp2_with fail;go_ret;exact⟨_,rfl,HI.out.own.slice (Ap _),HI.out.inv.to⟩
theorem Pd(xs ys:List AU)(a a':Option Addr)(n c n' c':Nat)(w:World)(hl:Bk.r (·<w.heap.size) w [.slice a n c] xs)(hl':Bk.r (·<w.heap.size) w [.slice a' n' c'] ys):
  Calls Tryz.prog 326 #[.slice a n c,.slice a' n' c'] w fun r w'=>r=.returned (.bool (decide (xs=ys)))∧Below w.heap.size w w':=by
 obtain⟨rfl,hm,_,_⟩:=AH hl;obtain⟨rfl,hm',_,_⟩:=AH hl';have HL:=hid hl;have HL':=hid hl';clear hl hl';by_cases hlen:xs.length=ys.length
 ·have e0:((xs.length:Int) !=(ys.length:Int))=false:=by rw[hlen];simp
  have HLN:=hid hlen;clear hlen;go_enter Tryz.func326,Tryz.ntmps326;go_wp2_with fail;go_loopw [13] (fun i wr=>∃k:Nat,k≤xs.length∧i=.int .i64 k∧Hid (xs.take k=ys.take k)∧Below w.heap.size w wr) (fun i _=>xs.length-(intOf i).toNat)
  case atStart=>exact ⟨0,At _,rfl,hid rfl,Below.refl _ _⟩
  case round=>
   obtain⟨k,hk,rfl,heq,hb⟩:=hrel;rcases Be k xs.length with hlt | hge
   ·have hlt':k<ys.length:=by rw[←HLN.out];exact hlt
    obtain⟨b,o,hA,hbb,x0,x1,x2,_⟩:=GM (lift HL.out hb) hlt;obtain⟨b',o',hA',hbb',y0,y1,y2,_⟩:=GM (lift HL'.out hb) hlt';subst hA;subst hA';have X0:=fun s:AE wr=>s.cell x0;have X1:=fun s:AE wr=>s.cell x1;have X2:=fun s:AE wr=>s.cell x2;have Y0:=fun s:AE wr=>s.cell y0;have Y1:=fun s:AE wr=>s.cell y1;have Y2:=fun s:AE wr=>s.cell y2;have hno:=hid (UX hlt hlt');have hyes:=hid (QM heq.out hlt hlt');clear x0 y0 x1 x2 y1 y2;generalize xs[k]=x at*;generalize ys[k]=y at*;obtain⟨xp,xc,xa⟩:=x;obtain⟨yp,yc,ya⟩:=y;dsimp only at X0 X1 X2 Y0 Y1 Y2;have i1:(k:Int)<(xs.length:Int):=zD;have i2:(k:Int)<(ys.length:Int):=zD;have d1:decide ((k:Int)<(xs.length:Int))=true:=Ad i1;have d1':decide (k<xs.length)=true:=Ad hlt;by_cases hxy:(⟨xp,xc,xa⟩:AU)=⟨yp,yc,ya⟩
    ·have hnx:Hid (xs.take (k+1)=ys.take (k+1)):=hid (hyes.out hxy)
     simp only[AU.mk.injEq] at hxy;obtain⟨rfl,rfl,rfl⟩:=hxy;have e2:(xp==xp)=true:=zQ;have e3:(xc==xc)=true:=zQ;have e4:(xa==xa)=true:=zQ;clear hno hyes;go_wp2_with fail;refine Ax zJ zJ ?_;repeat (go_big_quiet_step (fail))
     refine AI ?_;rintro W5 ⟨⟨W5',hb5⟩,rfl⟩;go_wp2;go_roundw
     case rel=>exact ⟨k+1,zD,zT,hnx,Af hb5 hb⟩
     case measure=>simp [intOf];omega
    ·have hfin:Hid (decide (xs=ys)=false):=hid (Ae (hno.out hxy))
     clear hno hyes;by_cases h1:xp=yp
     ·have e1:(xp==yp)=true:=by simp[h1]
      by_cases h2:xc=yc
      ·have e2:(xc==yc)=true:=by simp[h2]
       have e3:(xa==ya)=false:=by
        rw[Br];exact fun h3=>hxy (by rw[h1,h2,h3])
       clear hxy h1 h2;go_wp2_with fail;refine Ax zJ zJ ?_;repeat (go_big_quiet_step (fail))
       refine AI ?_;rintro W5 ⟨⟨W5',hb5⟩,rfl⟩;go_wp2;go_ret;exact⟨zAs,Af hb5 hb⟩
      ·have e2:(xc==yc)=false:=by simp[h2]
       clear hxy h1 h2;go_wp2_with fail;refine Ax zJ zJ ?_;repeat (go_big_quiet_step (fail))
       refine AI ?_;rintro W5 ⟨⟨W5',hb5⟩,rfl⟩;go_wp2;go_ret;exact⟨zAs,Af hb5 hb⟩
     ·have e1:(xp==yp)=false:=by simp[h1]
      clear hxy h1;go_wp2_with fail;refine Ax zJ zJ ?_;repeat (go_big_quiet_step (fail))
      refine AI ?_;rintro W5 ⟨⟨W5',hb5⟩,rfl⟩;go_wp2;go_ret;exact⟨zAs,Af hb5 hb⟩
   ·obtain rfl:k=xs.length:=by omega
    have hfin:Hid (decide (xs=ys)=true):=hid (Ad (by have h:=heq.out;rw[BW,HLN.out,BW] at h;exact h));go_wp2;go_ret;exact⟨zAs,hb⟩
 ·have e0:((xs.length:Int) !=(ys.length:Int))=true:=by simp;omega
  have hfin:Hid (decide (xs=ys)=false):=hid (Ae (fun h=>hlen (by rw[h])));clear hlen;go_enter Tryz.func326,Tryz.ntmps326;go_wp2;go_ret;exact⟨zAs,Below.refl _ _⟩
theorem LV(xs ys:List AU)(a a':Option Addr)(n c n' c':Nat)(w:World)(hl:Bk.r (·<w.heap.size) w [.slice a n c] xs)(hl':Bk.r (·<w.heap.size) w [.slice a' n' c'] ys):
  Calls Tryz.prog 264 #[.slice a n c,.slice a' n' c'] w fun r w'=>r=.returned (.bool (decide (xs=ys)))∧Below w.heap.size w w':=by
 have HB:=hid (Pd xs ys a a' n c n' c' w hl hl');go_enter Tryz.func264,Tryz.ntmps264;go_wp2_with fail;refine HB.out.mono ?_;rintro r w1 ⟨rfl,hb1⟩;go_wp2;go_ret;exact⟨rfl,hb1⟩
structure TN(fn:Nat)(blk:List UInt8→Rs→Rs × List UInt8 × Bool):Prop where
 ent:∀(xs:Array Value) (W:World),(callFunc fn xs).run Tryz.prog W=.ok (.enter fn xs) W
 call:∀(W:World) (g:Nat) (P:List UInt8) (a:Option Addr) (s:Rs),P.length≤1000000000→AN W g P a s→Calls Tryz.prog fn #[.pointer (some ⟨g,0,none⟩)] W fun r w'=>∃v qv,r=.returned (.tuple #[.agg #[.int .u64 (Rs.batch P (blk P) s).2.1.epoch,.int .u64 (Rs.batch P (blk P) s).2.1.base,v],.bool qv])∧AW.r (E8 W w') w' [v] (Rs.batch P (blk P) s).2.1.entries∧((Rs.batch P (blk P) s).1.k=0→qv=(Rs.batch P (blk P) s).2.2)∧Ay W g P a (Rs.batch P (blk P) s).1 w'
 f:Oi blk
theorem Ug{blk:List UInt8→Rs→Rs × List UInt8 × Bool}(hb:Oi blk)(hs:s.ok P.length):inU (Rs.batch P (blk P) s).2.1.epoch∧inU (Rs.batch P (blk P) s).2.1.base:=by
 by_cases h:(Rs.batch P (blk P) s).1.k=0
 ·obtain⟨_,h2,_⟩:=Rs.Gl hs h (fun t=>hb.k P t) (fun t=>hb.len P t)
  exact⟨h2.1,h2.2.1⟩
 ·rw[Rs.Jc h]
  exact⟨by unfold inU EG;decide,by unfold inU EG;decide⟩
theorem Pw{blk:List UInt8→Rs→Rs × List UInt8 × Bool}(hb:Oi blk)(hs:s.ok P.length):(Rs.batch P (blk P) s).2.1.base+(Rs.batch P (blk P) s).2.1.entries.length≤18446744073709551615:=by
 by_cases h:(Rs.batch P (blk P) s).1.k=0
 ·obtain⟨h1,_,_⟩:=Rs.Gl hs h (fun t=>hb.k P t) (fun t=>hb.len P t)
  have:=(Fq h1).2.2.2.2.1;omega
 ·rw[Rs.Jc h]
  unfold EG;decide
theorem Q5{e b:Int}:∀u∈[(.int .u64 e:Value),.int .u64 b,.slice a n c],u.oneCell'=true:=by
 intro u hu;simp at hu;rcases hu with rfl | rfl | rfl<;>rfl
theorem ET{k a:Int}(h:(s.within k f a).k=0):k=0:=by
 unfold Rs.within at h;split at h
 ·assumption
 ·unfold Rs.fail at h
  split at h
  ·exact h
  ·rename_i h1
   exact absurd h h1
def D9(u:Rs)(l:List Batch)(ep:Int)(x:Batch)(fi:Nat):Rs:=if u.k=0 then (if l.length=16 then u.fail 2 fi else if En ep (BM l l.length) x=true then u else u.fail 13 fi) else u
theorem PC{u:Rs}{l:List Batch}{ep:Int}{x:Batch}{fi:Nat}(h:(D9 u l ep x fi).k=0):D9 u l ep x fi=u∧u.k=0:=by
 unfold D9 at h ⊢;by_cases hku:u.k=0
 ·rw[Ai hku] at h ⊢
  by_cases hl:l.length=16
  ·rw[Ai hl] at h
   exact absurd h (Rs.A0 zO)
  ·rw[Ah hl] at h ⊢
   by_cases hmay:En ep (BM l l.length) x=true
   ·rw[Ai hmay]
    exact⟨rfl,hku⟩
   ·rw[Ah hmay] at h
    exact absurd h (Rs.A0 zO)
 ·rw[Ah hku] at h
  exact absurd h hku
set_option maxHeartbeats 12800000 in
theorem RK(W:World){gp:Nat}{ep:Int}{vL vM:Value}{l:List Batch}{M:List AU}{fi:Nat}{T:Nat}(h:Bi w gr gc B a s ep vL l vM M q (fi:Int) T W)(hT:T≤gp)(hp:AN W gp P ap ⟨1,0,0⟩)(hPl:P.length≤1000000000)(at_:Int){fn:Nat}{blk:List UInt8→Rs→Rs × List UInt8 × Bool}(hR:TN fn blk)(hfi:fi≤1000000000)(hll:l.length≤1000000)(hML:M.length≤1000000)(hlb:∀p∈l,p.base+p.entries.length≤18446744073709551615){t1:Rs}{x:Batch}{bq:Bool}(hb:Rs.batch P (blk P) ⟨1,0,0⟩=(t1,x,bq)){u:Rs}(hu:s.within (t1.fin P.length).k (t1.fin P.length).f at_=u):
  Calls Tryz.prog 196 #[.pointer (some ⟨gr,0,none⟩),.pointer (some ⟨gp,0,none⟩),.int .i64 at_,.func (Fn.func fn) #[] #[]] W fun r W'=>r=.returned (.tuple #[])∧(∃vL' vM' l' M' q' T',Bi w gr gc B a (D9 u l ep x fi) ep vL' l' vM' M' q' (fi:Int) T' W'∧((D9 u l ep x fi).k=0→l'=l++[x]∧M'=M++[⟨x.base,x.entries.length,(fi:Int)⟩]∧q'=(q&&bq)))∧W.heap.size≤W'.heap.size:=by
 obtain⟨i0,hi,iz0,iz1,iz2⟩:=A1 Sc;obtain⟨j0,hj,hy0,hy1,hy2⟩:=A1 LU;have hpk:=hp.ok;have HC:=hid (hR.call W gp P ap ⟨1,0,0⟩ hPl hp);have hxu:=Ug hR.f (P:=P) (s:=⟨1,0,0⟩) hpk;rw[hb] at HC hxu;dsimp only at HC hxu;have HI:=hid h;have hgc:gc<gr:=Ao h.inv.lt h.gl;have hgp:=hp.blk.lt;have ht1:=h.t1;have ht2:=h.t2;have HRR:=hid hR;have HEN:=hid (fun (V:World) (hV:AN V gp P ap t1)=>NG V hV);have hq0:u.k=0→t1.k=0:=fun e=>(L4 (ET (hu ▸ e))).1;have hbw:=Pw hR.f (P:=P) (s:=⟨1,0,0⟩) hpk;rw[hb] at hbw;dsimp only at hbw;have HT1:Hid ((Rs.batch P (blk P) ⟨1,0,0⟩).1=t1∧(Rs.batch P (blk P) ⟨1,0,0⟩).2.2=bq):=hid (by rw[hb];exact⟨rfl,rfl⟩);generalize hte:t1.fin P.length=t2 at*;have HFT:=hid (fun (V:World) (hV:AN V gp P ap t2)=>FK V hV);have HWI:=hid (fun (V:World) (hV:AN V gc B a s) (x0:V.cell? ⟨gr,0,none⟩=some (.pointer (some ⟨gc,0,none⟩)))=>(by have:=FI V hV x0 t2.k t2.f at_;rw[hu] at this;exact this:Calls Tryz.prog 198 #[.pointer (some ⟨gr,0,none⟩),.agg #[.int .i64 t2.k,.int .i64 t2.f],.int .i64 at_] V fun r w'=>r=.returned (.tuple #[])∧Ay V gc B a u w'));have HGD:=hid (fun (V:World) (hV:AN V gc B a u)=>AK V hV);obtain⟨sF,hsF⟩:∃sF,sF=D9 u l ep x fi:=⟨_,rfl⟩;rw[←hsF];unfold D9 at hsF;clear h hp hR hb hu hte hpk;go_enter Tryz.func196,Tryz.ntmps196;go_wp2_with fail;rw[HRR.out.ent];refine HC.out.mono ?_;rintro r w1 ⟨v,qv,rfl,hr1,hqv,hst1⟩;obtain⟨a1,c1,hfv,hr1',hel⟩:=AJ hr1;simp only[As,AF] at hfv;subst hfv;have hgp1:=hst1.1.blk.lt;have hz1:=hst1.2.size;have HI2:=hid ((HI.out.side hst1.2 (fun b e1 e2=>zD)).later (show Below w1.heap.size w1 (w1.alloc (.cells #[.int .u64 x.epoch,.int .u64 x.base,.slice a1 x.entries.length c1] 48)) by (repeat (first | with_reducible exact Below.refl _ _ | with_reducible assumption | (with_reducible refine Au ?_ _) | (with_reducible refine Below.setCell ?_ zE _) | (with_reducible refine Below.drew ?_) | (with_reducible refine below_drewN ?_ _) | (refine Af zG ?_)))));have HP2:=hid (hst1.1.later (show Below w1.heap.size w1 (w1.alloc (.cells #[.int .u64 x.epoch,.int .u64 x.base,.slice a1 x.entries.length c1] 48)) by (repeat (first | with_reducible exact Below.refl _ _ | with_reducible assumption | (with_reducible refine Au ?_ _) | (with_reducible refine Below.setCell ?_ zE _) | (with_reducible refine Below.drew ?_) | (with_reducible refine below_drewN ?_ _) | (refine Af zG ?_)))));have HB2:Hid (Blk (w1.alloc (.cells #[.int .u64 x.epoch,.int .u64 x.base,.slice a1 x.entries.length c1] 48)) w1.heap.size 48 #[.int .u64 x.epoch,.int .u64 x.base,.slice a1 x.entries.length c1]):=hid (Blk.new _ _ _);have HR2:=hid (AW.keep hr1' (w':=w1.alloc (.cells #[.int .u64 x.epoch,.int .u64 x.base,.slice a1 x.entries.length c1] 48)) fun b e=>AP _ _ b e.2);have HQV:=hid hqv;go_upto_region 1 with (fail);generalize (w1.alloc (.cells #[.int .u64 x.epoch,.int .u64 x.base,.slice a1 x.entries.length c1] 48))=w2 at*;generalize hgb:w1.heap.size=gb at*;have hgbw:w1.heap.size≤gb:=zD;have hgb1:gp<gb:=zD;have hgb2:W.heap.size≤gb:=zD;clear hr1 hr1' hst1 hqv HC HI hgb;go_wp2_with fail;refine (HEN.out _ HP2.out).mono ?_;rintro r w3 ⟨rfl,hst3⟩;have HI3:=hid (HI2.out.side hst3.2 (fun b e1 e2=>zD));have HB3:=hid (HB2.out.tch hst3.2 zD);have HR3:=hid (AW.keep HR2.out (w':=w3) fun b e=>hst3.2.block b (by have:=e.2;have:=HB2.out.lt;omega) ZM);have HP3:=hid hst3.1;clear hst3 HI2 HB2 HR2 HP2 HEN;go_wp2_with fail;refine (HFT.out _ HP3.out).mono ?_;rintro r w4 ⟨rfl,hb4⟩;have HI4:=hid (HI3.out.later hb4);have HB4:=hid (HB3.out.later hb4);have HR4:=hid (AW.keep HR3.out (w':=w4) fun b e=>hb4.block b (by have:=e.2;have:=HB3.out.lt;omega));clear hb4 HI3 HB3 HR3 HP3 HFT;obtain⟨y0,y1,y2,y3,y4,y5,ly⟩:=CF HI4.out.rb;go_wp2_with fail;refine (HWI.out _ HI4.out.inv.rd y0).mono ?_;rintro r w5 ⟨rfl,hst5⟩;have HI5:=hid (HI4.out.step hst5);have HB5:=hid (HB4.out.tch hst5.2 zD);have HR5:=hid (AW.keep HR4.out (w':=w5) fun b e=>hst5.2.block b (by have:=e.2;have:=HB4.out.lt;omega) ZM);clear hst5 HI4 HB4 HR4 HWI y0 y1 y2 y3 y4 y5 ly;obtain⟨y0,y1,y2,y3,y4,y5,ly⟩:=CF HI5.out.rb;obtain⟨cl,hcl⟩:=HI5.out.ownL;obtain⟨aL,cL,rfl⟩:=AX hcl.1;clear hcl;have hq1:sF.k=0→t1.k=0:=fun e=>hq0 (by rw[hsF] at e;exact (PC (show (D9 u l ep x fi).k=0 from e)).2);have HQ1:=hid hq1;have HSF:=hid hsF;clear hq1 hsF;have hLB:∀V:World,(∃s',Bi w gr gc B a s' ep (.slice aL l.length cL) l vM M q (fi:Int) T V)→Bf.r (·<V.heap.size) V [.slice aL l.length cL] l:=fun V hV=>by
  obtain⟨s',hV⟩:=hV;obtain⟨c2,h2⟩:=hV.ownL;have ht2:=hV.t2;refine Bf.mono h2.slice fun b e=> ?_;rcases e with e | e
  ·exact Ao e.2.1 ht2
  ·exact Ao (hV.lL b e) ht2
 have HLB:=hid hLB;clear hLB;go_upto_block 0 with (fail)
 go_cut [] from 23 to 63 (fun V=>Hid (Bi w gr gc B a sF ep (.slice aL l.length cL) l vM M q (fi:Int) T V)∧Hid (Blk V gb 48 #[.int .u64 x.epoch,.int .u64 x.base,.slice a1 x.entries.length c1])∧Hid (AW.r (fun b=>W.heap.size≤b∧b<gb) V [.slice a1 x.entries.length c1] x.entries))
 case first=>
  by_cases hk:u.k=0
  ·have hsF:=HSF.out
   rw[Ai hk] at hsF;rw[Ad hk] at HGD;clear hk;go_wp2_with fail;refine (HGD.out _ HI5.out.inv.rd).mono ?_;rintro r w6 ⟨rfl,hb6⟩;have HI6:=hid (HI5.out.later hb6);have HB6:=hid (HB5.out.later hb6);have HR6:=hid (AW.keep HR5.out (w':=w6) fun b e=>hb6.block b (by have:=e.2;have:=HB5.out.lt;omega));clear hb6 HI5 HB5 HR5 HGD y0 y1 y2 y3 y4 y5 ly;obtain⟨y0,y1,y2,y3,y4,y5,ly⟩:=CF HI6.out.rb;have HVL:=hid (show Bf.r (·<w6.heap.size) w6 [.slice aL l.length cL] l from HLB.out w6 ⟨_,HI6.out⟩);have HSF:=hid hsF;clear hsF;have hsF:=HSF.out;by_cases h16:l.length=16
   ·rw[Ai h16] at hsF
    have d1:((l.length:Int)==(16:Int))=true:=by simp[h16]
    have HFL:=hid (fun (V:World) (hV:AN V gc B a u)=>(by have:=Bd V hV 2 (fi:Int) zO;rw[←hsF] at this;exact this:Calls Tryz.prog 124 #[.pointer (some ⟨gc,0,none⟩),.int .i64 2,.int .i64 (fi:Int)] V fun r w'=>r=.returned (.tuple #[])∧Ay V gc B a sF w'));clear h16 hsF;go_wp2_with fail;refine BK 8 zJ zJ ?_;simp only[BQ,Fa,De,DH];repeat still_step
    refine wpStill_nil ?_;go_wp2_with fail;refine (HFL.out _ (HI6.out.inv.rd.later zA)).mono ?_;rintro r w7 ⟨rfl,hst7⟩;have HI7:=hid ((HI6.out.later (show Below w6.heap.size w6 w6.drew by (repeat (first | with_reducible exact Below.refl _ _ | with_reducible assumption | (with_reducible refine Au ?_ _) | (with_reducible refine Below.setCell ?_ zE _) | (with_reducible refine Below.drew ?_) | (with_reducible refine below_drewN ?_ _) | (refine Af zG ?_))))).step hst7);have HB7:=hid ((HB6.out.drew).tch hst7.2 zD);have HR7:=hid (AW.keep HR6.out (w':=w7) fun b e=>(hst7.2.block b zA9 ZM));go_wp2_with fail;go_meet
    case rel=>exact ⟨HI7,HB7,hid (AW.mono HR7.out fun b e=>⟨e.1,ZL⟩)⟩
   ·rw[Ah h16] at hsF
    have d1:((l.length:Int)==(16:Int))=false:=by rw[Br];omega
    go_upto_region 6 with (fail);have Y1:=fun s:AE w6=>s.cell y1;have Y2:=fun s:AE w6=>s.cell y2;obtain⟨x0,x1,x2,lx⟩:=Hj HB6.out;have X0:=fun s:AE w6=>s.cell x0;have X1:=fun s:AE w6=>s.cell x1;have X2:=fun s:AE w6=>s.cell x2;have HFO:=hid (fun s:AE w6=>Kp ep l x aL a1 _ cL x.entries.length c1 s.at_ (lift HVL.out s.below) hlb);clear h16 y1 y2 x0 x1 x2 lx;by_cases hm:En ep (BM l l.length) x=true
    ·rw[Ai hm] at hsF
     rw[hm] at HFO;clear hm;subst hsF;go_wp2_with fail;refine Ax zJ zJ ?_;repeat (go_big_quiet_step (((go_at_call 144;exact A9 (HFO.out _)))))
     refine AI ?_;rintro W7 ⟨⟨W7',hb7⟩,rfl⟩;have HI7:=hid (HI6.out.later hb7);have HB7:=hid (HB6.out.later hb7);have HR7:=hid (AW.keep HR6.out (w':=W7) fun b e=>hb7.block b (by have:=e.2;have:=HB6.out.lt;omega));go_wp2_with fail;go_meet
     case rel=>exact ⟨HI7,HB7,hid (AW.mono HR7.out fun b e=>⟨e.1,ZL⟩)⟩
    ·rw[Ah hm] at hsF
     have hm':En ep (BM l l.length) x=false:=by simpa using hm
     rw[hm'] at HFO;have HFL:=hid (fun (V:World) (hV:AN V gc B a u)=>(by have:=Bd V hV 13 (fi:Int) zO;rw[←hsF] at this;exact this:Calls Tryz.prog 124 #[.pointer (some ⟨gc,0,none⟩),.int .i64 13,.int .i64 (fi:Int)] V fun r w'=>r=.returned (.tuple #[])∧Ay V gc B a sF w'));clear hm hm' hsF;go_wp2_with fail;refine Ax zJ zJ ?_;repeat (go_big_quiet_step (((go_at_call 144;exact A9 (HFO.out _)))))
     refine AI ?_;rintro W7 ⟨⟨W7',hb7⟩,rfl⟩;replace HI6:=hid (HI6.out.later hb7);replace HR6:=hid (AW.keep HR6.out (w':=W7) fun b e=>hb7.block b (by have:=e.2;have:=HB6.out.lt;omega));replace HB6:=hid (HB6.out.later hb7);clear y0 y3 y4 y5 ly Y1 Y2 X0 X1 X2 HVL HFO;obtain⟨y0,y1,y2,y3,y4,y5,ly⟩:=CF HI6.out.rb;generalize W7=w6 at*;go_wp2_with fail;refine BK 8 zJ zJ ?_;simp only[BQ,Fa,De,DH];repeat still_step
     refine wpStill_nil ?_;go_wp2_with fail;refine (HFL.out _ (HI6.out.inv.rd.later zA)).mono ?_;rintro r w7 ⟨rfl,hst7⟩;have HI7:=hid ((HI6.out.later (show Below w6.heap.size w6 w6.drew by (repeat (first | with_reducible exact Below.refl _ _ | with_reducible assumption | (with_reducible refine Au ?_ _) | (with_reducible refine Below.setCell ?_ zE _) | (with_reducible refine Below.drew ?_) | (with_reducible refine below_drewN ?_ _) | (refine Af zG ?_))))).step hst7);have HB7:=hid ((HB6.out.drew).tch hst7.2 zD);have HR7:=hid (AW.keep HR6.out (w':=w7) fun b e=>(hst7.2.block b zA9 ZM));go_wp2_with fail;go_meet
     case rel=>exact ⟨HI7,HB7,hid (AW.mono HR7.out fun b e=>⟨e.1,ZL⟩)⟩
  ·have hsF:=HSF.out
   rw[Ah hk] at hsF;rw[Ae hk] at HGD;subst hsF;have HK:=hid hk;clear hk;go_wp2_with fail;refine (HGD.out _ HI5.out.inv.rd).mono ?_;rintro r w6 ⟨rfl,hb6⟩;have HI6:=hid (HI5.out.later hb6);have hz6:=hb6.size;have hz5:=HB5.out.lt;go_wp2_with fail;first | go_end0 | refine An (AO rfl _ _ _) rfl ?_
   exact⟨rfl,⟨_,vM,l,M,q,T,HI6.out,fun e=>absurd e HK.out⟩,zD⟩
 case rest=>
  obtain⟨HI7,HB7,HR7⟩:=hcut;clear HI5 HB5 HR5 HGD HSF HLB y0 y1 y2 y3 y4 y5 ly;obtain⟨y0,y1,y2,y3,y4,y5,ly⟩:=CF HI7.out.rb;obtain⟨z0,z1,z2,z3,z4,z5⟩:=LG HI7.out.rb;have hne8:∀b,W.heap.size≤b→b≠gr:=fun b e=>by omega
  go_upto_region 8 with (fail);go_cut [] from 64 to 73 (fun V=>Hid (Bi w gr gc B a sF ep (.slice aL l.length cL) l vM M (q&&qv) (fi:Int) T V)∧Hid (Blk V gb 48 #[.int .u64 x.epoch,.int .u64 x.base,.slice a1 x.entries.length c1])∧Hid (AW.r (fun b=>W.heap.size≤b∧b<gb) V [.slice a1 x.entries.length c1] x.entries))
  case first=>
   cases q
   ·go_wp2_with fail
    go_meet
    case rel=>exact ⟨hid (HI7.out.UJ false),hid (HB7.out.far zH _),hid (AW.keep HR7.out fun b e=>Aw _ _ _ _ zAt)⟩
   ·go_wp2_with fail
    go_meet
    case rel=>exact ⟨hid (HI7.out.UJ qv),hid (HB7.out.far zH _),hid (AW.keep HR7.out fun b e=>Aw _ _ _ _ zAt)⟩
  case rest=>
   obtain⟨HI8,HB8,HR8⟩:=hcut;clear HI7 HB7 HR7 y0 y1 y2 y3 y4 y5 ly z0 z1 z2 z3 z4 z5;have hq9:sF.k=0→(q&&qv)=(q&&bq):=fun e=>by rw[HQV.out (HQ1.out e)]
   have HQ9:=hid hq9;generalize (q&&qv)=q2 at*;have ht81:=HI8.out.t1;have ht82:=HI8.out.t2;have hloM:=hid HI8.out.lo.2;have HLT:=hid HI8.out.lo.1;obtain⟨cMs,hcM⟩:=HI8.out.ownM;obtain⟨aM,cM,rfl⟩:=AX hcM.1;have HCM:=hid hcM;have HOM:=hid (fun (W4:World) (h4:Below wc.heap.size wc W4)=>Bp hcM.1 h4);clear hcM hq9 HQV hq0 HT1 HQ1;obtain⟨y0,y1,y2,y3,y4,y5,ly⟩:=CF HI8.out.rb;obtain⟨z0,z1,z2,z3,z4,z5⟩:=LG HI8.out.rb;obtain⟨x0,x1,x2,lx⟩:=Hj HB8.out;have HMN:=hid (show Gn ⟨x.base,x.entries.length,(fi:Int)⟩ from ⟨hxu.2,zH,zH⟩);generalize hW8:wc=W8 at*;go_upto_region 9 with (fail);go_cut [] from 74 to 92 (fun V=>∃vM',Hid (Bi w gr gc B a sF ep (.slice aL l.length cL) l vM' (M++[⟨x.base,x.entries.length,(fi:Int)⟩]) q2 (fi:Int) V.heap.size V)∧Hid (Blk V gb 48 #[.int .u64 x.epoch,.int .u64 x.base,.slice a1 x.entries.length c1])∧Hid (AW.r (fun b=>W.heap.size≤b∧b<gb) V [.slice a1 x.entries.length c1] x.entries)∧Hid (∀b,vM'.ownBlock=some b→b<T∨gb<b))
   case first=>
    refine CO (fun w'=>w'.cell? ⟨gr,3,none⟩=some (.slice aM M.length cM)∧w'.cell? ⟨gr,5,none⟩=some (.int .i64 (fi:Int))∧w'.cell? ⟨gb,1,none⟩=some (.int .u64 x.base)∧w'.cell? ⟨gb,2,none⟩=some (.slice a1 x.entries.length c1)) _ zJ rfl zJ ⟨y3,y5,x1,x2⟩ (fun hHeld=> ?_);simp only[BD,FN];refine Av (i:=0) (oi:=_) (v:=?_) rfl zF zF zF (fun _ _ _ h=>h) (Or.inl ⟨zU,?_⟩) zM ?_;rotate_left
    ·(intro w hSw;(try dsimp only at hSw);go_simp<;>with_reducible rfl)
    (try simp only[Act.put,Aa,Ab,Ac])
    (try simp only[Am,Ak,Aj,Act.put,Aa,Ab,Ac])
    refine Av (i:=1) (oi:=_) (v:=?_) rfl zF zF zF (fun _ _ _ h=>h) (Or.inl ⟨zU,?_⟩) zM ?_;rotate_left
    ·(intro w hSw;(try dsimp only at hSw);go_simp<;>with_reducible rfl)
    (try simp only[Act.put,Aa,Ab,Ac])
    (try simp only[Am,Ak,Aj,Act.put,Aa,Ab,Ac])
    refine Av (i:=2) (oi:=_) (v:=?_) rfl zF zF zF (fun _ _ _ h=>h) (Or.inl ⟨zU,?_⟩) zM ?_;rotate_left
    ·(intro w hSw;(try dsimp only at hSw);go_simp<;>with_reducible rfl)
    (try simp only[Act.put,Aa,Ab,Ac])
    (try simp only[Am,Ak,Aj,Act.put,Aa,Ab,Ac])
    refine Av (i:=3) (oi:=_) (v:=?_) rfl zF zF zF (fun _ _ _ h=>h) (Or.inl ⟨zU,?_⟩) zM ?_;rotate_left
    ·(intro w hSw;(try dsimp only at hSw);go_simp<;>with_reducible rfl)
    (try simp only[Act.put,Aa,Ab,Ac])
    (try simp only[Am,Ak,Aj,Act.put,Aa,Ab,Ac])
    refine Av (i:=4) (oi:=_) (v:=?_) rfl zF zF zF (fun _ _ _ h=>h) (Or.inl ⟨zU,?_⟩) zM ?_;rotate_left
    ·(intro w hSw;(try dsimp only at hSw);go_simp<;>with_reducible rfl)
    (try simp only[Act.put,Aa,Ab,Ac])
    (try simp only[Am,Ak,Aj,Act.put,Aa,Ab,Ac])
    refine Av (i:=5) (oi:=_) (v:=?_) rfl zF zF zF (fun _ _ _ h=>h) (Or.inl ⟨zU,?_⟩) zM ?_;rotate_left
    ·(intro w hSw;(try dsimp only at hSw);go_simp<;>with_reducible rfl)
    (try simp only[Act.put,Aa,Ab,Ac])
    (try simp only[Am,Ak,Aj,Act.put,Aa,Ab,Ac])
    refine Av (i:=6) (oi:=_) (v:=?_) rfl zF zF zF (fun _ _ _ h=>h) (Or.inl ⟨zU,?_⟩) zM ?_;rotate_left
    ·(intro w hSw;(try dsimp only at hSw);go_simp<;>with_reducible rfl)
    (try simp only[Act.put,Aa,Ab,Ac])
    (try simp only[Am,Ak,Aj,Act.put,Aa,Ab,Ac])
    refine Av (i:=7) (oi:=_) (v:=?_) rfl zF zF zF (fun _ _ _ h=>h) (Or.inl ⟨zU,?_⟩) zM ?_;rotate_left
    ·(intro w hSw;(try dsimp only at hSw);go_simp<;>with_reducible rfl)
    (try simp only[Act.put,Aa,Ab,Ac])
    (try simp only[Am,Ak,Aj,Act.put,Aa,Ab,Ac])
    refine Av (i:=8) (oi:=_) (v:=?_) rfl zF zF zF (fun _ _ _ h=>h) (Or.inl ⟨zU,?_⟩) zM ?_;rotate_left
    ·(intro w hSw;(try dsimp only at hSw);go_simp<;>with_reducible rfl)
    (try simp only[Act.put,Aa,Ab,Ac])
    (try simp only[Am,Ak,Aj,Act.put,Aa,Ab,Ac])
    refine Av (i:=9) (oi:=_) (v:=?_) rfl zF zF zF (fun _ _ _ h=>h) (Or.inl ⟨zU,?_⟩) zM ?_;rotate_left
    ·(intro w hSw;(try dsimp only at hSw);go_simp<;>with_reducible rfl)
    (try simp only[Act.put,Aa,Ab,Ac])
    (try simp only[Am,Ak,Aj,Act.put,Aa,Ab,Ac])
    refine Av (i:=10) (oi:=_) (v:=?_) rfl zF zF zF (fun _ _ _ h=>h) (Or.inl ⟨zU,?_⟩) zM ?_;rotate_left
    ·(intro w hSw;(try dsimp only at hSw);go_simp<;>with_reducible rfl)
    (try simp only[Act.put,Aa,Ab,Ac])
    (try simp only[Am,Ak,Aj,Act.put,Aa,Ab,Ac])
    refine Av (i:=11) (oi:=_) (v:=?_) rfl zF zF zF (fun _ _ _ h=>h) (Or.inl ⟨zU,?_⟩) zM ?_;rotate_left
    ·(intro w hSw;(try dsimp only at hSw);go_simp<;>with_reducible rfl)
    (try simp only[Act.put,Aa,Ab,Ac])
    (try simp only[Am,Ak,Aj,Act.put,Aa,Ab,Ac])
    refine Av (i:=12) (oi:=_) (v:=?_) rfl zF zF zF (fun _ _ _ h=>h) (Or.inl ⟨zU,?_⟩) zM ?_;rotate_left
    ·(intro w hSw;(try dsimp only at hSw);go_simp<;>with_reducible rfl)
    (try simp only[Act.put,Aa,Ab,Ac])
    (try simp only[Am,Ak,Aj,Act.put,Aa,Ab,Ac])
    refine Av (i:=13) (oi:=_) (v:=?_) rfl zF zF zF (fun _ _ _ h=>h) (Or.inl ⟨zU,?_⟩) zM ?_;rotate_left
    ·(intro w hSw;(try dsimp only at hSw);go_simp<;>with_reducible rfl)
    (try simp only[Act.put,Aa,Ab,Ac])
    (try simp only[Am,Ak,Aj,Act.put,Aa,Ab,Ac])
    refine Av (i:=14) (oi:=_) (v:=?_) rfl zF zF zF (fun _ _ _ h=>h) (Or.inl ⟨zU,?_⟩) zM ?_;rotate_left
    ·(intro w hSw;(try dsimp only at hSw);go_simp<;>with_reducible rfl)
    (try simp only[Act.put,Aa,Ab,Ac])
    (try simp only[Am,Ak,Aj,Act.put,Aa,Ab,Ac])
    refine Bq (rs:=[15]) zF zQ ?_;refine Bb (o:=_) rfl (fun K hK=> ?_) AllReadyH.nil;go_simp
    refine hK.out _ _ ?_ (fun hHeld=> ?_)
    ·((try dsimp only);refine⟨?_,?_,?_,?_⟩<;>(first | with_reducible assumption | (go_keep;done)))
    clear hK K
    (try simp only[Act.put,Aa,Ab,Ac])
    refine Bq (rs:=[16]) zF zQ ?_;refine Bb (o:=_) rfl (fun K hK=> ?_) AllReadyH.nil
    (refine CJ zU _ _ _ zU (gr+1) 88 j0 (.agg #[.int .u64 0,.int .i64 0,.int .i64 0]) 3 24 Tryz.underlying79 hj hy0 hy1 hy2 rfl zO (.slice aM M.length cM) M.length cMs.flatten zU (HOM.out _ zB) (some ⟨W8.heap.size,0,none⟩) 1 1 [.int .u64 x.base,.int .i64 x.entries.length,.int .i64 (fi:Int)] zU (BS W8.drew 88 _ zU zQ rfl) (by intro u hu;simp at hu;rcases hu with rfl | rfl | rfl<;>rfl) zN zD zI ?_;intro a8 c8 w8 hown8 hgrow8 hat8;have G:=fun b' (hb:b'<W8.heap.size) (hne:(Value.slice aM M.length cM).ownBlock≠some b')=>(hgrow8.block b' zI (fun e=>hne e.symm)).trans (AP W8.drew _ b' (by exact hb));have neb:(Value.slice aM M.length cM).ownBlock≠some gr:=fun e=>by {have:=(hloM.out _ e).1;omega};have nec:(Value.slice aM M.length cM).ownBlock≠some gb:=fun e=>by {have:=(hloM.out _ e).2;omega};have m1:=(AQ (a:=⟨gr,3,none⟩) (G gr ly neb)).trans y3;have m2:=(BE (a:=⟨gr,3,none⟩) (G gr ly neb)).trans z3;have m3:=(AQ (a:=⟨gr,5,none⟩) (G gr ly neb)).trans y5;have n1:=(AQ (a:=⟨gb,1,none⟩) (G gb lx nec)).trans x1;have n2:=(AQ (a:=⟨gb,2,none⟩) (G gb lx nec)).trans x2;have HB9:=hid (show Blk w8 gb 48 #[.int .u64 x.epoch,.int .u64 x.base,.slice a1 x.entries.length c1] from (G gb lx nec).trans HB8.out);have HR9:=hid (AW.keep HR8.out (w':=w8) fun b e=>G b ZL (fun e2=>by {have:=(hloM.out _ e2).2;have:=e.1;omega}));have HA8:=hid (show ∀b,(Value.slice a8 (M.length+1) c8).ownBlock=some b→b<T∨gb<b from fun b e=>by {rcases hat8 with h | h;{rw [h] at e;exact .inl (hloM.out b e).2};{rw [h] at e;have:=A5 e;simp at this;omega}});have HI9:=hid (Bi.mark (HI8.out.later (show Below W8.heap.size W8 (W8.drew.alloc (.cells #[.int .u64 x.base,.int .i64 x.entries.length,.int .i64 (fi:Int)] 88)) by (repeat (first | with_reducible exact Below.refl _ _ | with_reducible assumption | (with_reducible refine Au ?_ _) | (with_reducible refine Below.setCell ?_ zE _) | (with_reducible refine Below.drew ?_) | (with_reducible refine below_drewN ?_ _) | (refine Af zG ?_))))) (FP HCM.out fun b e=>AP W8.drew _ b (by have:=(hloM.out b e).2;show b<W8.heap.size;omega)) HMN.out hown8 hgrow8 hat8);have ly8:gr<w8.heap.size:=HI9.out.t1;clear G hown8 hgrow8 hat8)
    refine hK.out _ _ ?_ (fun hHeld=> ?_)
    ·((try dsimp only);refine⟨?_,?_,?_,?_⟩<;>(first | with_reducible assumption | (go_keep;done)))
    clear hK K
    (try simp only[Act.put,Aa,Ab,Ac])
    refine Av (i:=17) (oi:=_) (v:=?_) rfl zF zF zF (fun _ _ _ h=>h) (Or.inl ⟨zU,?_⟩) zM ?_;rotate_left
    ·(intro w hSw;(try dsimp only at hSw);go_simp<;>with_reducible rfl)
    (try simp only[Act.put,Aa,Ab,Ac])
    (try simp only[Am,Ak,Aj,Act.put,Aa,Ab,Ac])
    refine Av (i:=18) (oi:=_) (v:=?_) rfl zF zF zF (fun _ _ _ h=>h) (Or.inl ⟨zU,?_⟩) zM ?_;rotate_left
    ·(intro w hSw;(try dsimp only at hSw);go_simp<;>with_reducible rfl)
    (try simp only[Act.put,Aa,Ab,Ac])
    (try simp only[Am,Ak,Aj,Act.put,Aa,Ab,Ac])
    refine Av (i:=19) (oi:=_) (v:=?_) rfl zF zF zF (fun _ _ _ h=>h) (Or.inl ⟨zU,?_⟩) zM ?_;rotate_left
    ·(intro w hSw;(try dsimp only at hSw);go_simp<;>with_reducible rfl)
    (try simp only[Act.put,Aa,Ab,Ac])
    (try simp only[Am,Ak,Aj,Act.put,Aa,Ab,Ac])
    refine GC zJ ?_ _;show wpList _ _ _ _ _ _
    go_wp2_with fail;go_meet
    case rel=>
     refine⟨_,hid (HI9.out.up zY (Ap _)),hid (HB9.out.far zH _),hid (AW.keep HR9.out fun b e=>Aw _ _ _ _ zAt),HA8⟩
   case rest=>
    obtain⟨vM2,HI9,HB9,HR9,HA9⟩:=hcut;clear HI8 HB8 HR8 HCM HOM HMN y0 y1 y2 y3 y4 y5 ly z0 z1 z2 z3 z4 z5 x0 x1 x2 lx;generalize hW9:wc=W9 at*;have ht91:=HI9.out.t1;have hloL:=hid HI9.out.lo.1;obtain⟨cLs,hcL⟩:=HI9.out.ownL;have HCL:=hid hcL;have HOL:=hid (fun (W4:World) (h4:Below W9.heap.size W9 W4)=>Bp hcL.1 h4);clear hcL;obtain⟨y0,y1,y2,y3,y4,y5,ly⟩:=CF HI9.out.rb;obtain⟨z0,z1,z2,z3,z4,z5⟩:=LG HI9.out.rb;obtain⟨x0,x1,x2,lx⟩:=Hj HB9.out;have hgb9:gb<W9.heap.size:=HB9.out.lt;have HNE:=hid HI9.out.ne;have HXU:=hid hxu;go_upto_region 10 with (fail);refine CO (fun w'=>w'.cell? ⟨gr,2,none⟩=some (.slice aL l.length cL)∧w'.cell? ⟨gb,0,none⟩=some (.int .u64 x.epoch)∧w'.cell? ⟨gb,1,none⟩=some (.int .u64 x.base)∧w'.cell? ⟨gb,2,none⟩=some (.slice a1 x.entries.length c1)) _ zJ rfl zJ ⟨y2,x0,x1,x2⟩ (fun hHeld=> ?_);simp only[BD,FN];refine Av (i:=0) (oi:=_) (v:=?_) rfl zF zF zF (fun _ _ _ h=>h) (Or.inl ⟨zU,?_⟩) zM ?_;rotate_left
    ·(intro w hSw;(try dsimp only at hSw);go_simp<;>with_reducible rfl)
    (try simp only[Act.put,Aa,Ab,Ac])
    (try simp only[Am,Ak,Aj,Act.put,Aa,Ab,Ac])
    refine Av (i:=1) (oi:=_) (v:=?_) rfl zF zF zF (fun _ _ _ h=>h) (Or.inl ⟨zU,?_⟩) zM ?_;rotate_left
    ·(intro w hSw;(try dsimp only at hSw);go_simp<;>with_reducible rfl)
    (try simp only[Act.put,Aa,Ab,Ac])
    (try simp only[Am,Ak,Aj,Act.put,Aa,Ab,Ac])
    refine Av (i:=2) (oi:=_) (v:=?_) rfl zF zF zF (fun _ _ _ h=>h) (Or.inl ⟨zU,?_⟩) zM ?_;rotate_left
    ·(intro w hSw;(try dsimp only at hSw);go_simp<;>with_reducible rfl)
    (try simp only[Act.put,Aa,Ab,Ac])
    (try simp only[Am,Ak,Aj,Act.put,Aa,Ab,Ac])
    refine Av (i:=3) (oi:=_) (v:=?_) rfl zF zF zF (fun _ _ _ h=>h) (Or.inl ⟨zU,?_⟩) zM ?_;rotate_left
    ·(intro w hSw;(try dsimp only at hSw);go_simp<;>with_reducible rfl)
    (try simp only[Act.put,Aa,Ab,Ac])
    (try simp only[Am,Ak,Aj,Act.put,Aa,Ab,Ac])
    refine Av (i:=4) (oi:=_) (v:=?_) rfl zF zF zF (fun _ _ _ h=>h) (Or.inl ⟨zU,?_⟩) zM ?_;rotate_left
    ·(intro w hSw;(try dsimp only at hSw);go_simp<;>with_reducible rfl)
    (try simp only[Act.put,Aa,Ab,Ac])
    (try simp only[Am,Ak,Aj,Act.put,Aa,Ab,Ac])
    refine Av (i:=5) (oi:=_) (v:=?_) rfl zF zF zF (fun _ _ _ h=>h) (Or.inl ⟨zU,?_⟩) zM ?_;rotate_left
    ·(intro w hSw;(try dsimp only at hSw);go_simp<;>with_reducible rfl)
    (try simp only[Act.put,Aa,Ab,Ac])
    (try simp only[Am,Ak,Aj,Act.put,Aa,Ab,Ac])
    refine Av (i:=6) (oi:=_) (v:=?_) rfl zF zF zF (fun _ _ _ h=>h) (Or.inl ⟨zU,?_⟩) zM ?_;rotate_left
    ·(intro w hSw;(try dsimp only at hSw);go_simp<;>with_reducible rfl)
    (try simp only[Act.put,Aa,Ab,Ac])
    (try simp only[Am,Ak,Aj,Act.put,Aa,Ab,Ac])
    refine Bq (rs:=[7]) zF zQ ?_;refine Bb (o:=_) rfl (fun K hK=> ?_) AllReadyH.nil;go_simp
    refine hK.out _ _ ?_ (fun hHeld=> ?_)
    ·((try dsimp only);refine⟨?_,?_,?_,?_⟩<;>(first | with_reducible assumption | (go_keep;done)))
    clear hK K
    (try simp only[Act.put,Aa,Ab,Ac])
    refine Bq (rs:=[8]) zF zQ ?_;refine Bb (o:=_) rfl (fun K hK=> ?_) AllReadyH.nil
    (refine CJ zU _ _ _ zU (gr+1) 48 i0 (.agg #[.int .u64 0,.int .u64 0,.slice none 0 0]) 3 40 Tryz.underlying61 hi iz0 iz1 iz2 rfl zO (.slice aL l.length cL) l.length cLs.flatten zU (HOL.out _ zB) (some ⟨W9.heap.size,0,none⟩) 1 1 [.int .u64 x.epoch,.int .u64 x.base,.slice a1 x.entries.length c1] zU (BS W9.drew 48 _ zU zQ rfl) Q5 zN zD zI ?_;intro a8 c8 w8 hown8 hgrow8 hat8;have G:=fun b' (hb:b'<W9.heap.size) (hne:(Value.slice aL l.length cL).ownBlock≠some b')=>(hgrow8.block b' zI (fun e=>hne e.symm)).trans (AP W9.drew _ b' (by exact hb));have neb:(Value.slice aL l.length cL).ownBlock≠some gr:=fun e=>by {have:=(hloL.out _ e).1;omega};have nec:(Value.slice aL l.length cL).ownBlock≠some gb:=fun e=>by {have:=(HLT.out _ e).2;omega};have m1:=(AQ (a:=⟨gr,2,none⟩) (G gr ly neb)).trans y2;have m2:=(BE (a:=⟨gr,2,none⟩) (G gr ly neb)).trans z2;have n0:=(AQ (a:=⟨gb,0,none⟩) (G gb lx nec)).trans x0;have n1:=(AQ (a:=⟨gb,1,none⟩) (G gb lx nec)).trans x1;have n2:=(AQ (a:=⟨gb,2,none⟩) (G gb lx nec)).trans x2;have HI10:=hid (Bi.more (news:=[.int .u64 x.epoch,.int .u64 x.base,.slice a1 x.entries.length c1]) (x:=x) (HI9.out.later (show Below W9.heap.size W9 (W9.drew.alloc (.cells #[.int .u64 x.epoch,.int .u64 x.base,.slice a1 x.entries.length c1] 48)) by (repeat (first | with_reducible exact Below.refl _ _ | with_reducible assumption | (with_reducible refine Au ?_ _) | (with_reducible refine Below.setCell ?_ zE _) | (with_reducible refine Below.drew ?_) | (with_reducible refine below_drewN ?_ _) | (refine Af zG ?_))))) ((HCL.out.keep (fun b e=>AP W9.drew _ b (by have:=e.2.1;exact this)) (fun b e=>AP W9.drew _ b (by have:=(hloL.out b e).2;exact this))).mono fun b e=>⟨e.1,by have:=e.2.1;simp;omega,e.2.2⟩) rfl (Ff.mono (TI HXU.out.1 HXU.out.2 (AW.keep HR9.out fun b e=>AP W9.drew _ b (by have:=e.2;show b<W9.heap.size;omega))) fun b e=>⟨⟨ZM,by have:=e.2;simp;omega,fun e2=>by have:=HA9.out b e2;have:=e.1;have:=e.2;omega⟩,fun e2=>by have:=(HLT.out b e2).2;have:=e.1;omega⟩) hown8 hgrow8 hat8);have hs8:=hgrow8.size;have ly8:gr<w8.heap.size:=HI10.out.t1;have hgb8:gb<w8.heap.size:=BV _ _ n0;have hW8:W.heap.size≤w8.heap.size:=zD;clear G hown8 hgrow8 hat8 hs8)
    refine hK.out _ _ ?_ (fun hHeld=> ?_)
    ·((try dsimp only);refine⟨?_,?_,?_,?_⟩<;>(first | with_reducible assumption | (go_keep;done)))
    clear hK K
    (try simp only[Act.put,Aa,Ab,Ac])
    refine Av (i:=9) (oi:=_) (v:=?_) rfl zF zF zF (fun _ _ _ h=>h) (Or.inl ⟨zU,?_⟩) zM ?_;rotate_left
    ·(intro w hSw;(try dsimp only at hSw);go_simp<;>with_reducible rfl)
    (try simp only[Act.put,Aa,Ab,Ac])
    (try simp only[Am,Ak,Aj,Act.put,Aa,Ab,Ac])
    refine Av (i:=10) (oi:=_) (v:=?_) rfl zF zF zF (fun _ _ _ h=>h) (Or.inl ⟨zU,?_⟩) zM ?_;rotate_left
    ·(intro w hSw;(try dsimp only at hSw);go_simp<;>with_reducible rfl)
    (try simp only[Act.put,Aa,Ab,Ac])
    (try simp only[Am,Ak,Aj,Act.put,Aa,Ab,Ac])
    refine Av (i:=11) (oi:=_) (v:=?_) rfl zF zF zF (fun _ _ _ h=>h) (Or.inl ⟨zU,?_⟩) zM ?_;rotate_left
    ·(intro w hSw;(try dsimp only at hSw);go_simp<;>with_reducible rfl)
    (try simp only[Act.put,Aa,Ab,Ac])
    (try simp only[Am,Ak,Aj,Act.put,Aa,Ab,Ac])
    refine Av (i:=12) (oi:=_) (v:=?_) rfl zF zF zF (fun _ _ _ h=>h) (Or.inl ⟨zU,?_⟩) zM ?_;rotate_left
    ·(intro w hSw;(try dsimp only at hSw);go_simp<;>with_reducible rfl)
    (try simp only[Act.put,Aa,Ab,Ac])
    (try simp only[Am,Ak,Aj,Act.put,Aa,Ab,Ac])
    refine GC zJ ?_ _;show wpList _ _ _ _ _ _
    go_wp2_with fail;first | go_end0 | refine An (AO rfl _ _ _) rfl ?_
    refine⟨rfl,⟨_,vM2,_,_,q2,_,HI10.out,fun e=>⟨rfl,rfl,HQ9.out e⟩⟩,by simp[World.setCell];omega⟩
set_option maxHeartbeats 12800000 in
theorem RJ(W:World){w:World}{gr gc gp:Nat}{B:List UInt8}{a:Option Addr}{ep:Int}{vL vM:Value}{l:List Batch}{M:List AU}{q:Bool}{fi:Nat}{T:Nat}(h:Bi w gr gc B a s ep vL l vM M q (fi:Int) T W)(hT:T≤gp)(hp:AN W gp P ap ⟨1,0,0⟩)(hPl:P.length≤1000000000)(at_:Int)(hfi:fi≤1000000000){t1:Rs}{M1:List AU}(hb:(⟨1,0,0⟩:Rs).CK P=(t1,M1)){u:Rs}(hu:s.within (t1.fin P.length).k (t1.fin P.length).f at_=u):
  Calls Tryz.prog 197 #[.pointer (some ⟨gr,0,none⟩),.pointer (some ⟨gp,0,none⟩),.int .i64 at_] W fun r W'=>r=.returned (.tuple #[])∧Bi w gr gc B a (if u.k=0∧M1≠M then u.fail 12 fi else u) ep vL l vM M q (fi:Int) T W'∧W.heap.size≤W'.heap.size:=by
 have HC:=hid (Qv W hp hPl);rw[hb] at HC;dsimp only at HC;have HI:=hid h;have hgc:gc<gr:=Ao h.inv.lt h.gl;have hgp:=hp.blk.lt;have ht1:=h.t1;have ht2:=h.t2;have HEN:=hid (fun (V:World) (hV:AN V gp P ap t1)=>NG V hV);generalize hte:t1.fin P.length=t2 at*;have HFT:=hid (fun (V:World) (hV:AN V gp P ap t2)=>FK V hV);have HWI:=hid (fun (V:World) (hV:AN V gc B a s) (x0:V.cell? ⟨gr,0,none⟩=some (.pointer (some ⟨gc,0,none⟩)))=>(by have:=FI V hV x0 t2.k t2.f at_;rw[hu] at this;exact this:Calls Tryz.prog 198 #[.pointer (some ⟨gr,0,none⟩),.agg #[.int .i64 t2.k,.int .i64 t2.f],.int .i64 at_] V fun r w'=>r=.returned (.tuple #[])∧Ay V gc B a u w'));have HGD:=hid (fun (V:World) (hV:AN V gc B a u)=>AK V hV);have HFL:=hid (fun (V:World) (hV:AN V gc B a u)=>Bd V hV 12 (fi:Int) zO);obtain⟨cMs,hcM⟩:=h.ownM;obtain⟨aM,cM,rfl⟩:=AX hcM.1;clear hcM;obtain⟨sF,hsF⟩:∃sF,sF=(if u.k=0∧M1≠M then u.fail 12 fi else u):=⟨_,rfl⟩;rw[←hsF];have hmr:∀V:World,(∃s',Bi w gr gc B a s' ep vL l (.slice aM M.length cM) M q (fi:Int) T V)→Bk.r (·<V.heap.size) V [.slice aM M.length cM] M:=fun V hV=>by
  obtain⟨s',hV⟩:=hV;obtain⟨c2,h2⟩:=hV.ownM;exact Bk.mono (AZ.slice (Ap _) ⟨c2,h2⟩) fun b e=>e.2
 have HMR:=hid hmr;clear h hp hb hu hte hmr;go_enter Tryz.func197,Tryz.ntmps197;go_wp2_with fail;refine HC.out.mono ?_;rintro r w1 ⟨v,rfl,hr1,hst1⟩;obtain⟨a1,c1,hfv,hr1',hel⟩:=AJ hr1;simp only[As,AF] at hfv;subst hfv;have hgp1:=hst1.1.blk.lt;have hz1:=hst1.2.size;have HI1:=hid (HI.out.side hst1.2 (fun b e1 e2=>zD));have HP1:=hid hst1.1;obtain⟨gb,hgb⟩:∃gb,gb=w1.heap.size:=⟨_,rfl⟩;have HR1:=hid (show Bk.r (fun b=>W.heap.size≤b∧b<gb) w1 [.slice a1 M1.length c1] M1 from by rw[hgb];exact hr1');have hgbl:gb≤w1.heap.size:=zD;clear hr1 hr1' hst1 HC HI hgb;go_wp2_with fail;refine (HEN.out _ HP1.out).mono ?_;rintro r w3 ⟨rfl,hst3⟩;have HI3:=hid (HI1.out.side hst3.2 (fun b e1 e2=>zD));have HR3:=hid (Bk.keep HR1.out (w':=w3) fun b e=>hst3.2.block b ZL ZM);have HP3:=hid hst3.1;have hg3:=hst3.2.size;clear hst3 HI1 HR1 HP1 HEN;go_wp2_with fail;refine (HFT.out _ HP3.out).mono ?_;rintro r w4 ⟨rfl,hb4⟩;have HI4:=hid (HI3.out.later hb4);have HR4:=hid (Bk.keep HR3.out (w':=w4) fun b e=>hb4.block b ZL);have hg4:=hb4.size;clear hb4 HI3 HR3 HP3 HFT;obtain⟨y0,y1,y2,y3,y4,y5,ly⟩:=CF HI4.out.rb;go_wp2_with fail;refine (HWI.out _ HI4.out.inv.rd y0).mono ?_;rintro r w5 ⟨rfl,hst5⟩;have HI5:=hid (HI4.out.step hst5);have HR5:=hid (Bk.keep HR4.out (w':=w5) fun b e=>hst5.2.block b ZL ZM);have hg5:=hst5.2.size;clear hst5 HI4 HR4 HWI y0 y1 y2 y3 y4 y5 ly;obtain⟨y0,y1,y2,y3,y4,y5,ly⟩:=CF HI5.out.rb;by_cases hk:u.k=0
 ·rw[Ad hk] at HGD
  by_cases hM:M1=M
  ·rw[Ah (fun e=>e.2 hM)] at hsF
   subst hsF hM;have HSM:=hid (fun (V:World) (h1:Bk.r (·<V.heap.size) V [.slice a1 M1.length c1] M1) (h2:Bk.r (·<V.heap.size) V [.slice aM M1.length cM] M1)=>(by have:=LV M1 M1 a1 aM _ c1 _ cM V h1 h2;rw[Ad rfl] at this;exact this:Calls Tryz.prog 264 #[.slice a1 M1.length c1,.slice aM M1.length cM] V fun r w'=>r=.returned (.bool true)∧Below V.heap.size V w'));clear hk;go_wp2_with fail;refine (HGD.out _ HI5.out.inv.rd).mono ?_;rintro r w6 ⟨rfl,hb6⟩;have HI6:=hid (HI5.out.later hb6);have HR6:=hid (Bk.mono (S':=(·<w6.heap.size)) (Bk.keep HR5.out (w':=w6) fun b e=>hb6.block b ZL) fun b e=>by have:=e.2;have:=hb6.size;omega);have hg6:=hb6.size;clear hb6 HI5 HR5 HGD y0 y1 y2 y3 y4 y5 ly;obtain⟨y0,y1,y2,y3,y4,y5,ly⟩:=CF HI6.out.rb;go_wp2_with fail;refine (HSM.out _ HR6.out (HMR.out _ ⟨_,HI6.out⟩)).mono ?_;rintro r w7 ⟨rfl,hb7⟩;have HI7:=hid (HI6.out.later hb7);have hg7:=hb7.size;clear hb7;go_wp2_with fail;first | go_end0 | refine An (AO rfl _ _ _) rfl ?_
   exact⟨rfl,HI7.out,zD⟩
  ·rw[Ai ⟨hk,hM⟩] at hsF
   have HSM:=hid (fun (V:World) (h1:Bk.r (·<V.heap.size) V [.slice a1 M1.length c1] M1) (h2:Bk.r (·<V.heap.size) V [.slice aM M.length cM] M)=>(by have:=LV M1 M a1 aM _ c1 _ cM V h1 h2;rw[Ae hM] at this;exact this:Calls Tryz.prog 264 #[.slice a1 M1.length c1,.slice aM M.length cM] V fun r w'=>r=.returned (.bool false)∧Below V.heap.size V w'));rw[←hsF] at HFL;clear hk hM hsF;go_wp2_with fail;refine (HGD.out _ HI5.out.inv.rd).mono ?_;rintro r w6 ⟨rfl,hb6⟩;have HI6:=hid (HI5.out.later hb6);have HR6:=hid (Bk.mono (S':=(·<w6.heap.size)) (Bk.keep HR5.out (w':=w6) fun b e=>hb6.block b ZL) fun b e=>by have:=e.2;have:=hb6.size;omega);have hg6:=hb6.size;clear hb6 HI5 HR5 HGD y0 y1 y2 y3 y4 y5 ly;obtain⟨y0,y1,y2,y3,y4,y5,ly⟩:=CF HI6.out.rb;go_wp2_with fail;refine (HSM.out _ HR6.out (HMR.out _ ⟨_,HI6.out⟩)).mono ?_;rintro r w7 ⟨rfl,hb7⟩;have HI7:=hid (HI6.out.later hb7);have hg7:=hb7.size;clear hb7 HI6 HR6 y0 y1 y2 y3 y4 y5 ly;obtain⟨y0,y1,y2,y3,y4,y5,ly⟩:=CF HI7.out.rb;go_wp2_with fail;refine BK 8 zJ zJ ?_;simp only[BQ,Fa,De,DH];repeat still_step
   refine wpStill_nil ?_;go_wp2_with fail;refine (HFL.out _ (HI7.out.inv.rd.later zA)).mono ?_;rintro r w8 ⟨rfl,hst8⟩;have HI8:=hid ((HI7.out.later (show Below w7.heap.size w7 w7.drew by (repeat (first | with_reducible exact Below.refl _ _ | with_reducible assumption | (with_reducible refine Au ?_ _) | (with_reducible refine Below.setCell ?_ zE _) | (with_reducible refine Below.drew ?_) | (with_reducible refine below_drewN ?_ _) | (refine Af zG ?_))))).step hst8);have hg8:=hst8.2.size;have hg8':w7.heap.size≤w8.heap.size:=hg8;go_wp2_with fail;first | go_end0 | refine An (AO rfl _ _ _) rfl ?_
   exact⟨rfl,HI8.out,zD⟩
 ·rw[Ae hk] at HGD
  rw[Ah (fun e=>hk e.1)] at hsF;subst hsF;clear hk;go_wp2_with fail;refine (HGD.out _ HI5.out.inv.rd).mono ?_;rintro r w6 ⟨rfl,hb6⟩;have HI6:=hid (HI5.out.later hb6);have hg6:=hb6.size;go_wp2_with fail;first | go_end0 | refine An (AO rfl _ _ _) rfl ?_
  exact⟨rfl,HI6.out,zD⟩
theorem Sx:(⟨0,0,0⟩:Rs).byte []=(⟨0,1,0⟩,0):=rfl
theorem QW(h:P≠[]):(⟨0,0,0⟩:Rs).byte P=(⟨1,0,0⟩,P.headD 0):=by
 cases P with
 | nil=>exact absurd rfl h
 | cons x l=>
  have h1:¬((x::l).length:Int)-((0:Nat):Int)<1:=by simp only[AL];omega
  unfold Rs.byte Rs.skip;dsimp only;rw[Ai rfl,Ah zO,Ah h1];rfl
def P8(gc L:Nat)(W:World):Nat:=match W.cell? ⟨gc,2,none⟩,W.cell? ⟨gc,1,none⟩ with
 | some (.int _ k),some (.int _ p)=>if k=0 then L+1-p.toNat else 0
 | _,_=>0
theorem Ii(h:AN W gc B a s):P8 gc L W=if s.k=0 then L+1-s.p else 0:=by
 have h1:W.cell? ⟨gc,1,none⟩=some (.int .i64 (s.p:Int)):=h.blk.cell 1;have h2:W.cell? ⟨gc,2,none⟩=some (.int .i64 s.k):=h.blk.cell 2;unfold P8;rw[h1,h2];simp
def Kw(B:List UInt8)(ep:Int)(blk:List UInt8→Rs→Rs × List UInt8 × Bool)(s:Rs):Rs × Nat × List Batch × List AU × Bool:=if s.k=0 then Bt B ep blk (B.length+1) s [] [] true else (s,0,[],[],true)
structure H7(B:List UInt8)(ep:Int)(blk:List UInt8→Rs→Rs × List UInt8 × Bool)(RES:Rs × Nat × List Batch × List AU × Bool)(s:Rs)(l:List Batch)(M:List AU)(q:Bool):Prop where
 go:s.k=0→∃n,Bt B ep blk n s l M q=RES∧B.length-s.p<n∧s.fit B.length∧l.length≤16∧M.length=l.length∧∀p∈l,p.base+p.entries.length≤18446744073709551615
 stop:s.k≠0→RES.1=s
theorem H7.start{ep:Int}{blk:List UInt8→Rs→Rs × List UInt8 × Bool}(hf:s.k=0→s.fit B.length):H7 B ep blk (Kw B ep blk s) s [] [] true:=
 ⟨fun h=>⟨B.length+1,by unfold Kw;rw[Ai h],zD,hf h,At _,rfl,fun p hp=>absurd hp List.not_mem_nil⟩,fun h=>by unfold Kw;rw[Ah h]⟩
section
variable {B:List UInt8} {ep:Int} {blk:List UInt8→Rs→Rs × List UInt8 × Bool} {RES:Rs × Nat × List Batch × List AU × Bool} {s t:Rs} {l:List Batch} {M:List AU} {q:Bool} {P:List UInt8}
theorem H7.short(h:H7 B ep blk RES s l M q)(hk:s.k=0)(hF:s.frame B 2097152=(t,P))(ht:t.k≠0):RES.1=t:=by
 obtain⟨n,hr,hn,hf,_⟩:=h.go hk;obtain⟨m,rfl⟩:∃m,n=m+1:=⟨n-1,zD⟩;rw[CC B ep blk m s l M q hF,Ah ht] at hr;rw[←hr]
theorem H7.bad(h:H7 B ep blk RES s l M q)(hk:s.k=0)(hF:s.frame B 2097152=(t,P))(ht:t.k=0)(hP:P≠[])(h1:P.headD 0≠1)(h2:P.headD 0≠2):H7 B ep blk RES (t.fail 7 ((t.p:Int)-4-(P.length:Int))) l M q:=by
 obtain⟨n,hr,hn,hf,_⟩:=h.go hk;obtain⟨m,rfl⟩:∃m,n=m+1:=⟨n-1,zD⟩;rw[CC B ep blk m s l M q hF,Ai ht,Ah hP,Ah h1,Ah h2] at hr;refine⟨fun e=>absurd e (Rs.A0 zO),fun _=>by rw[←hr]⟩
theorem H7.none(h:H7 B ep blk RES s l M q)(hk:s.k=0)(hF:s.frame B 2097152=(t,[]))(ht:t.k=0):H7 B ep blk RES (t.fail 1 ((t.p:Int)-4-((0:Nat):Int))) l M q:=by
 obtain⟨n,hr,hn,hf,_⟩:=h.go hk;obtain⟨m,rfl⟩:∃m,n=m+1:=⟨n-1,zD⟩;rw[CC B ep blk m s l M q hF,Ai ht,Ai rfl] at hr;refine⟨fun e=>absurd e (Rs.A0 zO),fun _=>by rw[←hr];rfl⟩
theorem H7.index(h:H7 B ep blk RES s l M q)(hk:s.k=0)(hF:s.frame B 2097152=(t,P))(ht:t.k=0)(hP:P≠[])(h2:P.headD 0=2){t1 u:Rs}{M1:List AU}(hm:(⟨1,0,0⟩:Rs).CK P=(t1,M1))(hu:t.within (t1.fin P.length).k (t1.fin P.length).f ((t.p:Int)-4-(P.length:Int))=u):RES=(if u.k=0∧M1≠M then u.fail 12 s.p else u,s.p,l,M,q):=by
 obtain⟨n,hr,hn,hf,_⟩:=h.go hk;obtain⟨m,rfl⟩:∃m,n=m+1:=⟨n-1,zD⟩;rw[CC B ep blk m s l M q hF,Ai ht,Ah hP,Ah (by rw[h2];decide),Ai h2] at hr;rw[←hr];dsimp only;rw[hm];dsimp only;rw[hu]
theorem H7.batch(h:H7 B ep blk RES s l M q)(hb:Oi blk)(hk:s.k=0)(hF:s.frame B 2097152=(t,P))(ht:t.k=0)(hP:P≠[])(h1:P.headD 0=1){t1 u:Rs}{x:Batch}{bq:Bool}(hm:Rs.batch P (blk P) ⟨1,0,0⟩=(t1,x,bq))(hu:t.within (t1.fin P.length).k (t1.fin P.length).f ((t.p:Int)-4-(P.length:Int))=u):H7 B ep blk RES (D9 u l ep x s.p) (if (D9 u l ep x s.p).k=0 then l++[x] else l) (if (D9 u l ep x s.p).k=0 then M++[⟨x.base,x.entries.length,(s.p:Int)⟩] else M) (if (D9 u l ep x s.p).k=0 then (q&&bq) else q):=by
 obtain⟨n,hr,hn,hf,h16,hM16,hbs⟩:=h.go hk;obtain⟨m,rfl⟩:∃m,n=m+1:=⟨n-1,zD⟩;obtain⟨c1,c2,c3,c4,c5⟩:=Rs.Ex hf hF ht;have hlow:=FU P;have htf:=Rs.Gz hf 2097152;rw[hF] at htf;have hPl:1≤P.length:=List.length_pos_iff.2 hP;have hw:=Pw hb (P:=P) (s:=⟨1,0,0⟩) ⟨hPl,fun _=>rfl⟩;rw[hm] at hw;dsimp only at hw htf;rw[CC B ep blk m s l M q hF,Ai ht,Ah hP,Ai h1] at hr;dsimp only at hr;rw[hm] at hr;dsimp only at hr;rw[hu] at hr;unfold D9;by_cases hku:u.k=0
 ·rw[Ai hku] at hr ⊢
  by_cases hl:l.length=16
  ·rw[Ai hl] at hr ⊢
   have hne:(u.fail 2 (s.p:Int)).k≠0:=Rs.A0 zO;rw[Ah hne,Ah hne,Ah hne];exact⟨fun e=>absurd e hne,fun _=>by rw[←hr]⟩
  ·rw[Ah hl] at hr ⊢
   by_cases hmay:En ep (BM l l.length) x=true
   ·rw[Ai hmay] at hr ⊢
    rw[Ai hku,Ai hku,Ai hku];have hut:u=t:=by
     have:=ET (hu ▸ hku);rw[←hu,this];exact Rs.CS
    subst hut;refine⟨fun _=>⟨m,hr,zD,htf,by rw[Al];simp only[AL,By];omega,by rw[Al,Al,hM16];rfl,fun p hp=> ?_⟩,fun e=>absurd hku e⟩;rcases List.mem_append.1 hp with h3 | h3
    ·exact hbs p h3
    ·rw[List.mem_singleton.1 h3]
     exact hw
   ·rw[Ah hmay] at hr ⊢
    have hne:(u.fail 13 (s.p:Int)).k≠0:=Rs.A0 zO;rw[Ah hne,Ah hne,Ah hne];exact⟨fun e=>absurd e hne,fun _=>by rw[←hr]⟩
 ·rw[Ah hku] at hr ⊢
  rw[Ah hku,Ah hku,Ah hku];exact⟨fun e=>absurd e hku,fun _=>by rw[←hr]⟩
end
end Go.Proofs.YtfddhafbhceoaaaGreat
