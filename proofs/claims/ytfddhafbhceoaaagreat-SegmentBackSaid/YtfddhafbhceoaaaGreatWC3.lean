/- Mini: Needed by segmentOnce_walk, part 3: texts put together by shake.py; no condition. -/
import Derived.StillTailTactics
import Derived.Test.YtfddhafbhceoaaaGreatWC2
import Derived.Test.YtfddhafbhceoaaaGreatWC1
import Derived.StillTail
import Derived.RegionTactic
import Derived.OrdersHeld
import Derived.Deep.RegionHeld
import Derived.Deep.RegionHeld3
import Derived.IntWalk
set_option linter.unusedVariables false
set_option linter.unusedSimpArgs false
set_option maxRecDepth 100000
set_option maxHeartbeats 6400000
namespace Go.Bs
variable{base c g i sz:Nat}{F:Nat → Prop}{e:TypeId}{v:Value}{w:World}
theorem zBs{p:Prop}(h:p:=by rw [← hDm]; exact Ag.mono hsub fun q hq => hq.1):p:=h
theorem zBk{p:Prop}(h:p:=by rw [← HBD.out]; unfold NB; rw [Ah h4, Ah h4]):p:=h
theorem zBj{p:Prop}(h:p:=by rw [← HBD.out]; unfold NB; rw [Ai h4, Ai h4]):p:=h
theorem zA0{p:Prop}(h:p:=by simp [hk]):p:=h
theorem zAm{p:Prop}(h:p:=by rw [Ai (by omega)]; rfl):p:=h
theorem zAf{p:Prop}(h:p:=by first | rfl | simp):p:=h
theorem ZW{p:Prop}(h:p:=by rw [HBL.out]; exact HZN.out.later HZ6.out):p:=h
theorem ZV{p:Prop}(h:p:=by rw [HBL.out]; exact HZO.out.later HZ6.out):p:=h
theorem ZU{p:Prop}(h:p:=by simp [Value.ownBlock]):p:=h
theorem ZR{p:Prop}(h:p:=by rw [Ah (by omega)]):p:=h
theorem ZO{p:Prop}(h:p:=by { have e' : some w.heap.size = some g := e; injection e' with e'; omega }):p:=h
theorem zU{p:Prop}(h:p:=by rfl):p:=h
theorem zS{p:Prop}(h:p:=by rw [HDM.out]; exact HSB.out _ (by (repeat (first | exact Below.refl _ _ | assumption | (refine Au ?_ _) | (refine Below.setCell ?_ (by first | omega | (simp; done) | (simp; omega)) _) | (refine Below.drew ?_) | (refine below_drewN ?_ _) | (refine Af (by assumption) ?_))))):p:=h
theorem zM{p:Prop}(h:p:=by assumption):p:=h
theorem zH{p:Prop}(h:p:=by dsimp only; omega):p:=h
theorem zF{p:Prop}(h:p:=by decide +kernel):p:=h
theorem zE{p:Prop}(h:p:=by first | omega | (simp; done) | (simp; omega)):p:=h
theorem zC{p:Prop}(h:p:=by (repeat (first | assumption | exact Blk.newAt _ _ _ (by first | (simp; done) | (simp; omega)) | refine Blk.alloc ?_ _ | refine Blk.drew ?_ | refine Blk.drewN ?_ _ | refine Blk.far ?_ (by first | (simp; done) | (simp; omega)) _))):p:=h
theorem zA{p:Prop}(h:p:=by (repeat (first | with_reducible exact Below.refl _ _ | with_reducible assumption | (with_reducible refine Au ?_ _) | (with_reducible refine Below.setCell ?_ (by first | omega | (simp; done) | (simp; omega)) _) | (with_reducible refine Below.drew ?_) | (with_reducible refine below_drewN ?_ _) | (refine Af (by with_reducible assumption) ?_)))):p:=h
theorem Aa:type_of% @List.setIfInBounds_toArray:=@List.setIfInBounds_toArray
theorem Ab:type_of% @List.set_cons_zero:=@List.set_cons_zero
theorem Ac:type_of% @List.set_cons_succ:=@List.set_cons_succ
theorem Av:type_of% @wpAnyH_take:=@wpAnyH_take
theorem Bb:type_of% @AllReadyH.cons:=@AllReadyH.cons
theorem Bq:type_of% @wpAnyH_ready:=@wpAnyH_ready
theorem BQ:type_of% @List.take_succ_cons:=@List.take_succ_cons
theorem De:type_of% @List.drop_succ_cons:=@List.drop_succ_cons
theorem DH:type_of% @List.drop_zero:=@List.drop_zero
theorem Fa:type_of% @List.take_zero:=@List.take_zero
theorem F7:type_of% @List.getElem?_toArray:=@List.getElem?_toArray
theorem Gr:type_of% @Int.toNat_natCast:=@Int.toNat_natCast
theorem GC:type_of% @wpAnyH_done:=@wpAnyH_done
theorem Io:type_of% @List.append_nil:=@List.append_nil
end Go.Bs
namespace Go.Proofs.YtfddhafbhceoaaaGreat
open Go.RowKit Go.Bs Go.Maps Go.Shelf
variable{B b l:List UInt8}{L base c cb cp g gs hi k mb n off p sc sz:Nat}{F S:Nat → Prop}{a ab ap sa:Option Addr}{t:TypeId}{v v0 v1 v2:Value}{w w':World}
attribute [local go_sem] Oper.semAt_some
structure H6(w:World)(gs g mb base lo hi:Nat)(b:List UInt8)(n:Nat)(sa:Option Addr)(sc:Nat)(ab:Option Addr)(cb:Nat)(ap:Option Addr)(cp:Nat):Prop where
 blk:∃t:Int,Blk w gs 388 #[.slice sa b.length sc,.pointer (some ⟨g,0,none⟩),.int .i64 t]
 bytes:Ag.r (fun q=>(lo≤q∧q<hi)∧q≠gs∧q≠g∧q≠mb∧(Value.slice ap n cp).ownBlock≠some q) w [.slice sa b.length sc] b
 ch:Kl w g mb base b n ab cb ap cp
 bytes2:Ag.r (fun q=>(lo≤q∧q<hi)∧q≠gs∧q≠g∧q≠mb∧(Value.slice ap n cp).ownBlock≠some q) w [.slice ab b.length cb] b
 ne1:gs≠g
 ne2:gs≠mb
 ne3:(Value.slice ap n cp).ownBlock≠some gs
 top:hi≤w.heap.size
def Oe(w:World)(gs g mb base lo hi:Nat)(b:List UInt8)(n n':Nat)(sa:Option Addr)(sc:Nat)(ab:Option Addr)(cb:Nat)(ap:Option Addr)(cp:Nat)(w':World):Prop:=
 ∃ap' cp',H6 w' gs g mb base lo hi b n' sa sc ab cb ap' cp'∧Tch (fun q=>q=gs∨q=g∨q=mb∨(Value.slice ap n cp).ownBlock=some q) w w'∧((Value.slice ap' n' cp').ownBlock=(Value.slice ap n cp).ownBlock∨∃q,(Value.slice ap' n' cp').ownBlock=some q∧w.heap.size≤q)
def TR(w:World)(gs g mb base lo hi:Nat)(b:List UInt8)(n p:Nat)(sa:Option Addr)(sc:Nat)(ab:Option Addr)(cb:Nat)(ap:Option Addr)(cp:Nat)(r:Ending)(w':World):Prop:=
 r=.returned (.tuple #[.int .i64 ((BU b p).1:Int),.int .i64 ((BU b p).2:Int)])∧Oe w gs g mb base lo hi b n p sa sc ab cb ap cp w'
theorem Kl.later(h:Kl w g mb base b n ab cb ap cp)(hb:Below w.heap.size w w'):Kl w' g mb base b n ab cb ap cp:=by
 have hs:=hb.size;obtain⟨D,hD,hL⟩:=h.map;exact⟨h.blk.later hb,Ag.mono (Ag.keep h.bytes fun q hq=>hb.block q hq.1) fun q hq=>⟨zD,hq.2⟩,⟨D,Jz hD (hb.block _ hD.lt),hL⟩,Hg h.prev fun q hq=>hb.block q (h.prev.lt q hq).2,h.ne1,h.ne2,h.ne3,h.lo,h.le,h.len⟩
theorem H6.later{lo:Nat}(h:H6 w gs g mb base lo hi b n sa sc ab cb ap cp)(hb:Below w.heap.size w w'):H6 w' gs g mb base lo hi b n sa sc ab cb ap cp:=by
 have hs:=hb.size;obtain⟨t,ht⟩:=h.blk;exact⟨⟨t,ht.later hb⟩,Ag.keep h.bytes fun q hq=>hb.block q (Ao hq.1.2 h.top),h.ch.later hb,Ag.keep h.bytes2 fun q hq=>hb.block q (Ao hq.1.2 h.top),h.ne1,h.ne2,h.ne3,A6 h.top hs⟩
theorem UI{w W0 w1:World}{gs g mb lo:Nat}{n p:Nat}{ap:Option Addr}{cp:Nat}{a1:Option Addr}{c1:Nat}(h:H6 w gs g mb base lo hi b n sa sc ab cb ap cp)(hb:Below w.heap.size w W0)
 (h1:Kl w1 g mb base b p ab cb a1 c1) (h2:Tch (fun q=>q=g∨q=mb∨(Value.slice ap n cp).ownBlock=some q) W0 w1) (h3:(Value.slice a1 p c1).ownBlock=(Value.slice ap n cp).ownBlock∨∃q,(Value.slice a1 p c1).ownBlock=some q∧W0.heap.size≤q):
  H6 w1 gs g mb base lo hi b p sa sc ab cb a1 c1∧Tch (fun q=>q=gs∨q=g∨q=mb∨(Value.slice ap n cp).ownBlock=some q) w w1∧((Value.slice a1 p c1).ownBlock=(Value.slice ap n cp).ownBlock∨∃q,(Value.slice a1 p c1).ownBlock=some q∧w.heap.size≤q):=by
 have hs:=hb.size;have hs2:=h2.size;obtain⟨t,ht⟩:=h.blk;have hn:∀q,q<w.heap.size→(Value.slice ap n cp).ownBlock≠some q→(Value.slice a1 p c1).ownBlock≠some q:=fun q hq hne e=>by
  rcases h3 with h3 | ⟨q',hq',hlt⟩
  ·rw[h3] at e;exact hne e
  ·rw[hq'] at e;have:=A5 e;omega
 have keep:∀q,q<w.heap.size→q≠g→q≠mb→(Value.slice ap n cp).ownBlock≠some q→w1.heap[q]? =w.heap[q]? :=fun q hq k1 k2 k3=>
  (h2.block q zD (fun e=>by rcases e with e | e | e<;>contradiction)).trans (hb.block q hq)
 refine⟨⟨⟨t,(keep gs ht.lt h.ne1 h.ne2 h.ne3).trans ht⟩,?_,h1,?_,h.ne1,h.ne2,hn gs ht.lt h.ne3,by have:=h.top;omega⟩,⟨h2.os.trans hb.os,h2.tape.trans hb.tape,h2.output.trans hb.output,zD,fun q hq hf=>keep q hq (fun e=>hf (.inr (.inl e))) (fun e=>hf (.inr (.inr (.inl e)))) (fun e=>hf (.inr (.inr (.inr e))))⟩,?_⟩
 ·exact Ag.mono (Ag.keep h.bytes fun q hq=>keep q (Ao hq.1.2 h.top) hq.2.2.1 hq.2.2.2.1 hq.2.2.2.2) fun q hq=>⟨hq.1,hq.2.1,hq.2.2.1,hq.2.2.2.1,hn q (Ao hq.1.2 h.top) hq.2.2.2.2⟩
 ·exact Ag.mono (Ag.keep h.bytes2 fun q hq=>keep q (Ao hq.1.2 h.top) hq.2.2.1 hq.2.2.2.1 hq.2.2.2.2) fun q hq=>⟨hq.1,hq.2.1,hq.2.2.1,hq.2.2.2.1,hn q (Ao hq.1.2 h.top) hq.2.2.2.2⟩
 ·rcases h3 with h3 | ⟨q',hq',hlt⟩
  ·exact .inl h3
  ·exact .inr ⟨q',hq',zD⟩
theorem H6.tch{lo:Nat}(h:H6 w gs g mb base lo hi b n sa sc ab cb ap cp)(hT:Tch F w w')(h1:¬F g)(h2:¬F mb)(h3:∀q,(Value.slice ap n cp).ownBlock=some q→¬F q)(h4:∀q,lo≤q→q<hi→q≠gs→¬F q)
 (hb:∃t:Int,Blk w' gs 388 #[.slice sa b.length sc,.pointer (some ⟨g,0,none⟩),.int .i64 t]):H6 w' gs g mb base lo hi b n sa sc ab cb ap cp:=by
 have hs:=hT.size;have ht:=h.top;obtain⟨D,hD,hL⟩:=h.ch.map;exact⟨hb,Ag.keep h.bytes fun q hq=>hT.block q zD (h4 q hq.1.1 hq.1.2 hq.2.1),⟨h.ch.blk.tch hT h1,Ag.mono (Ag.keep h.bytes2 fun q hq=>hT.block q zD (h4 q hq.1.1 hq.1.2 hq.2.1)) fun q hq=>⟨zD,hq.2.2⟩,⟨D,Jz hD (hT.block _ hD.lt h2),hL⟩,
  Hg h.ch.prev fun q hq=>hT.block q (h.ch.prev.lt q hq).2 (h3 q hq),h.ch.ne1,h.ch.ne2,h.ch.ne3,h.ch.lo,h.ch.le,h.ch.len⟩,Ag.keep h.bytes2 fun q hq=>hT.block q zD (h4 q hq.1.1 hq.1.2 hq.2.1),h.ne1,h.ne2,h.ne3,zD⟩
theorem H6.SQ{w w':World}{gs lo:Nat}(h:H6 w gs g mb base lo hi b n sa sc ab cb ap cp)(hT:Tch (fun q=>q=gs) w w')
 (hb:∃t:Int,Blk w' gs 388 #[.slice sa b.length sc,.pointer (some ⟨g,0,none⟩),.int .i64 t]):H6 w' gs g mb base lo hi b n sa sc ab cb ap cp:=
 h.tch hT (Ne.symm h.ne1) (Ne.symm h.ne2) (fun q hq e=>h.ne3 (e ▸ hq)) (fun q _ _ h e=>h e) hb
theorem N9(w:World)(g p:Nat):Calls Tryz.prog 380 #[.pointer (some ⟨g,0,none⟩),.int .i64 (p:Int)] w fun r w'=>
  r=.returned (.func (.func 386) #[] #[.pointer (some ⟨w.heap.size,0,none⟩),.pointer (some ⟨w.heap.size+1,0,none⟩)])∧w'=(w.alloc (.cells #[.pointer (some ⟨g,0,none⟩)] 385)).alloc (.cells #[.int .i64 (p:Int)] 3):=by
 go_enter Tryz.func380,Tryz.ntmps380;go_wp2;go_ret;exact⟨rfl,rfl⟩
theorem RN(w:World){lo:Nat}(h:H6 w gs g mb base lo hi b n sa sc ab cb ap cp)(hn:n≤p)(hp:p<b.length):
  Calls Tryz.prog 374 #[.pointer (some ⟨gs,0,none⟩),.int .i64 (p:Int)] w (TR w gs g mb base lo hi b n p sa sc ab cb ap cp):=by
 obtain⟨t0,hblk⟩:=h.blk;have hlen:=h.ch.len;have hgs:=hblk.lt;have c0:w.cell? ⟨gs,0,none⟩=some (.slice sa b.length sc):=hblk.cell 0;have c1:w.cell? ⟨gs,1,none⟩=some (.pointer (some ⟨g,0,none⟩)):=hblk.cell 1;have e1:min (p:Int) (b.length:Int)=(p:Int):=zD;have hpl:(p:Int)<(b.length:Int):=zD;have hfw:∀f,Fence.wide.fn f=True:=fun _=>rfl;have H:=hid h;have HB:=hid hblk;clear h hblk;refine (callsIn_wide (n:=5)).1 ?_;refine callsIn_of_wp_marks Tryz.func374 rfl trivial ?_ rfl;simp only[Tryz.ntmps374,List.size_toArray,AL,By,Nat.reduceAdd,Nat.reduceSub,Array.replicate_succ,Array.replicate_zero,List.push_toArray,List.append_toArray,A8,K0];have hmx:Tryz.prog.follows .mixedOrders=true:=zJ;refine wpIn_wide.2 ?_;go_wp2;refine BK 11 zJ zJ ?_;simp only[BQ,Fa,De,DH];repeat still_step
 refine wpStill_nil ?_;go_wp2_with fail;refine (Pp _ (H.out.ch.later zB) p hn zD).mono ?_;rintro r w1 ⟨rfl,a1,c1',hch,htch,hown⟩;obtain⟨hsk,htw,howw⟩:=UI H.out zB hch htch hown;have z1:w.heap.size+1<w1.heap.size:=by have:=htch.size;simp at this;omega
 have P0:Blk w1 w.heap.size 379 #[.pointer (some ⟨gs,0,none⟩)]:=Blk.tch zC htch (fun e=>by
  have h1:=H.out.ch.blk.lt;obtain⟨D,hD,_⟩:=H.out.ch.map;have h2:=hD.lt;rcases e with e | e | e
  ·omega
  ·omega
  ·have:=(H.out.ch.prev.lt _ e).2;omega)
 have P1:Blk w1 (w.heap.size+1) 3 #[.int .i64 (p:Int)]:=Blk.tch zC htch (fun e=>by
  have h1:=H.out.ch.blk.lt;obtain⟨D,hD,_⟩:=H.out.ch.map;have h2:=hD.lt;rcases e with e | e | e
  ·omega
  ·omega
  ·have:=(H.out.ch.prev.lt _ e).2;omega)
 have HSK:=hid hsk;have HTW:=hid htw;have HOW:=hid howw;have HP0:=hid P0;have HP1:=hid P1;clear hsk htw howw P0 P1 hch htch hown c0 c1;go_wp2_with fail;refine Dm (fun W=>Below w1.heap.size w1 W∧W.heap.size=w1.heap.size+2∧Blk W w1.heap.size 3 #[.int .i64 0]∧Blk W (w1.heap.size+1) 3 #[.int .i64 0]) ⟨zB,zQ,zC,zC⟩ ?_;intro W ⟨hbW,hzW,Q0,Q1⟩;have HZW:=hid hzW;clear hzW;have HSW:=hid (HSK.out.later hbW);have HPW0:=hid (HP0.out.later hbW);have HPW1:=hid (HP1.out.later hbW);obtain⟨t1,hb1⟩:=HSW.out.blk;have c1:W.cell? ⟨gs,1,none⟩=some (.pointer (some ⟨g,0,none⟩)):=hb1.cell 1;have c2:W.cell? ⟨w.heap.size,0,none⟩=some (.pointer (some ⟨gs,0,none⟩)):=HPW0.out.cell 0;have c3:W.cell? ⟨w.heap.size+1,0,none⟩=some (.int .i64 (p:Int)):=HPW1.out.cell 0;have HQ0:=hid Q0;have HQ1:=hid Q1;clear hb1 Q0 Q1;refine BK 5 zJ zJ ?_;simp only[BQ,Fa,De,DH];repeat still_step
 refine wpStill_nil ?_;go_wp2_with fail;refine (N9 _ g p).mono ?_;rintro r w5 ⟨rfl,hw5⟩;have hb5:Below W.heap.size W w5:=by rw[hw5];(repeat (first | exact Below.refl _ _ | assumption | (refine Au ?_ _) | (refine Below.setCell ?_ zE _) | (refine Below.drew ?_) | (refine below_drewN ?_ _) | (refine Af zM ?_)))
 have BC:Blk w5 W.heap.size 385 #[.pointer (some ⟨g,0,none⟩)]:=by rw[hw5];exact Blk.alloc (Blk.newAt _ _ _ zQ) _
 have BA:Blk w5 (W.heap.size+1) 3 #[.int .i64 (p:Int)]:=by rw[hw5];exact Blk.newAt _ _ _ zQ
 have hz5:w5.heap.size=W.heap.size+2:=by rw[hw5];simp
 have HS5:=hid (HSW.out.later hb5);have HB5:=hid hb5;have HBC:=hid BC;have HBA:=hid BA;clear hw5 hb5 BC BA;go_wp2_with fail;have hgs1:=HSK.out.blk.choose_spec.lt;have hg1:=HSK.out.ch.blk.lt;have htop:=HSK.out.top;have hm1:mb<w1.heap.size:=by obtain⟨D,hD,_⟩:=HSK.out.ch.map;exact hD.lt
 have hz5':w5.heap.size=w1.heap.size+4:=by have:=HZW.out;omega
 have HZ5:=hid hz5';clear hz5 hz5';have hlt5:w1.heap.size+1<w5.heap.size:=by have:=HZ5.out;omega
 have BO:Blk w5 w1.heap.size 3 #[.int .i64 0]:=HQ0.out.later HB5.out;have BN:Blk w5 (w1.heap.size+1) 3 #[.int .i64 0]:=HQ1.out.later HB5.out;have P0:Blk w5 w.heap.size 379 #[.pointer (some ⟨gs,0,none⟩)]:=HPW0.out.later HB5.out;have P1:Blk w5 (w.heap.size+1) 3 #[.int .i64 (p:Int)]:=HPW1.out.later HB5.out;have hby:=Ag.keep HSK.out.bytes (w':=w5) fun q hq=>(HB5.out.block q (by have:=HZW.out;have:=HSK.out.top;omega)).trans (hbW.block q (Ao hq.1.2 HSK.out.top));have HBY:=hid hby;have HBO:=hid BO;have HBN:=hid BN;have HPP0:=hid P0;have HPP1:=hid P1;clear BO BN P0 P1 hby c1 c2 c3;have hgsz:gs<w.heap.size:=hgs;refine (wpIn_wide (n:=5)).1 ?_;refine wpIn_rangeFunc_ownG rfl zO (gf:=386) (lb:=#[.pointer (some ⟨W.heap.size,0,none⟩),.pointer (some ⟨W.heap.size+1,0,none⟩)]) rfl trivial (enters_of Tryz.func386 zJ rfl)
  (NL w5 HS5.out.ch HBC.out HBA.out) (fun h k=>h.trans k) ?hKb (Below.refl _ _) (fun _=>rfl)
  (fun pre V=>(∃t:Int,Blk V gs 388 #[.slice sa b.length sc,.pointer (some ⟨g,0,none⟩),.int .i64 t])∧Blk V w1.heap.size 3 #[.int .i64 ((EA b p pre).1:Int)]∧Blk V (w1.heap.size+1) 3 #[.int .i64 ((EA b p pre).2:Int)]∧Tch (fun q=>q=gs∨q=w1.heap.size∨q=w1.heap.size+1) w5 V)
  (fun c pre V=>c=.exit 0∧p+(EA b p pre).2=b.length∧(∃t:Int,Blk V gs 388 #[.slice sa b.length sc,.pointer (some ⟨g,0,none⟩),.int .i64 t])∧Blk V w1.heap.size 3 #[.int .i64 ((EA b p pre).1:Int)]∧Blk V (w1.heap.size+1) 3 #[.int .i64 ((EA b p pre).2:Int)]∧Tch (fun q=>q=gs∨q=w1.heap.size∨q=w1.heap.size+1) w5 V)
  ?hI ?hIx ?h0
  (fun x=>{tmps:=#[.pointer (some ⟨gs,0,none⟩),.int .i64 (p:Int),.pointer (some ⟨w.heap.size,0,none⟩),.pointer (some ⟨w.heap.size+1,0,none⟩),.int .i64 0,.int .i64 0,.pointer (some ⟨w1.heap.size,0,none⟩),.pointer (some ⟨w1.heap.size+1,0,none⟩),.int .i64 (x.val:Int),undef,
   .pointer (some ⟨gs,0,none⟩),.bool false,.pointer (some ⟨gs,0,none⟩),.pointer (some ⟨gs,0,none⟩),.pointer (some ⟨gs,1,none⟩),.pointer (some ⟨g,0,none⟩),.int .i64 (p:Int),.pointer (some ⟨gs,0,none⟩),.pointer (some ⟨gs,0,none⟩),.pointer (some ⟨gs,0,none⟩),.slice sa b.length sc,.int .i64 (b.length:Int),.int .i64 (p:Int),.int .i64 ((p:Int)-(n:Int)),
   .pointer (some ⟨gs,0,none⟩),.pointer (some ⟨gs,0,none⟩),.pointer (some ⟨gs,1,none⟩),.pointer (some ⟨g,0,none⟩),.int .i64 (p:Int),.func (.func 386) #[] #[.pointer (some ⟨W.heap.size,0,none⟩),.pointer (some ⟨W.heap.size+1,0,none⟩)],.int .i64 (x.val:Int),
   undef,undef,undef,undef,undef,undef,undef,undef,undef,undef,undef,undef,undef,undef,undef,undef,undef,undef,undef,undef,undef,undef,undef,undef,undef,undef,undef,undef,undef,undef,undef,undef,undef,undef,undef,undef,undef],defers:=[]}) ?assign ?body ?done ?stop
 case hKb=>
  intro V l o o' hl ho _ _ q hq;refine World.putObj_heap_other ?_;have:=HZ5.out;have hz:=HZW.out;have hs:=HB5.out.size;rcases hq with e | e | e | e | e
  ·omega
  ·omega
  ·have:=(HSK.out.ch.prev.lt _ e).2;omega
  ·omega
  ·omega
 case hI=>
  rintro pre X Y row ⟨⟨t,h1⟩,h2,h3,h4⟩ hg' hr;have hne:∀q,q<w5.heap.size→Y.heap[q]? =X.heap[q]? :=fun q hq=>hg'.block q (Ao hq h4.size) (fun e=>by have:=(hr q e.symm).1;omega);exact⟨⟨t,(hne gs zD).trans h1⟩,(hne _ zD).trans h2,(hne _ hlt5).trans h3,⟨hg'.os.trans h4.os,hg'.tape.trans h4.tape,hg'.output.trans h4.output,A6 h4.size hg'.size,fun q hq hf=>(hne q hq).trans (h4.block q hq hf)⟩⟩
 case hIx=>
  rintro c pre X Y row ⟨hc,hl,⟨t,h1⟩,h2,h3,h4⟩ hg' hr;have hne:∀q,q<w5.heap.size→Y.heap[q]? =X.heap[q]? :=fun q hq=>hg'.block q (Ao hq h4.size) (fun e=>by have:=(hr q e.symm).1;omega);exact⟨hc,hl,⟨t,(hne gs zD).trans h1⟩,(hne _ zD).trans h2,(hne _ hlt5).trans h3,⟨hg'.os.trans h4.os,hg'.tape.trans h4.tape,hg'.output.trans h4.output,A6 h4.size hg'.size,fun q hq hf=>(hne q hq).trans (h4.block q hq hf)⟩⟩
 case h0=>exact ⟨HS5.out.blk,HBO.out,HBN.out,Tch.refl _ _⟩
 case assign=>
  intro l x V K hK;gi_wp2
  exact hK
 case body=>
  rintro l pre x V ⟨⟨t,hbg⟩,hbo,hbn,htc⟩ hN;have hxp:=x.isLt;have nF:∀q,q<w5.heap.size→q≠gs→q≠w1.heap.size→q≠w1.heap.size+1→¬(q=gs∨q=w1.heap.size∨q=w1.heap.size+1):=fun q _ h1 h2 h3 e=>by rcases e with e | e | e<;>contradiction
  have V0:Blk V w.heap.size 379 #[.pointer (some ⟨gs,0,none⟩)]:=HPP0.out.tch htc (nF _ zD zD zD zD);have V1:Blk V (w.heap.size+1) 3 #[.int .i64 (p:Int)]:=HPP1.out.tch htc (nF _ zD zD zD zD);have k0:V.cell? ⟨w.heap.size,0,none⟩=some (.pointer (some ⟨gs,0,none⟩)):=V0.cell 0;have k2:V.cell? ⟨gs,2,none⟩=some (.int .i64 t):=hbg.cell 2;have k3:=hbg.free 2;have HBG:=hid hbg;have HBO2:=hid hbo;have HBN2:=hid hbn;have HTC:=hid htc;have HV0:=hid V0;have HV1:=hid V1;clear hbg hbo hbn htc V0 V1;have hV5:w5.heap.size≤V.heap.size:=HTC.out.size;gi_wp2
  refine IG (fun U=>Tch (fun q=>q=gs) V U∧∃t':Int,Blk U gs 388 #[.slice sa b.length sc,.pointer (some ⟨g,0,none⟩),.int .i64 t']) ⟨Tch.setCell (F:=fun q=>q=gs) (Tch.refl _ _) (fun _=>rfl) _,_,HBG.out.set 2 _⟩ ?_;intro U ⟨hU,t',hUg⟩;have U0:=HV0.out.tch hU zD;have U1:=HV1.out.tch hU zD;have UO:=HBO2.out.tch hU zD;have UN:=HBN2.out.tch hU zD;have HM:=hid (fun s:AE U=>PQ b (p:Int) ((p:Int)-(x.val:Int)) zD zD sa b.length sc s.at_ (Ag.mono (Ag.keep HBY.out fun q hq=>(s.below.block q (by have:=hU.size;omega)).trans ((hU.block q zD hq.2.1).trans (HTC.out.block q zD (nF q zD hq.2.1 zD zD)))) fun q hq=>by have:=hU.size;have:=s.below.size;omega) hlen zD zD);have et:((p:Int)-(x.val:Int)).toNat=p-x.val:=zD;rw[Gr,et] at HM;have i1:(0:Int)≤(p:Int)-(x.val:Int):=zD;have C0:=fun s:AE U=>s.cell (show U.cell? ⟨w.heap.size,0,none⟩=some (.pointer (some ⟨gs,0,none⟩)) from U0.cell 0);have C1:=fun s:AE U=>s.cell (show U.cell? ⟨w.heap.size+1,0,none⟩=some (.int .i64 (p:Int)) from U1.cell 0);have C2:=fun s:AE U=>s.cell (show U.cell? ⟨gs,0,none⟩=some (.slice sa b.length sc) from hUg.cell 0);have hsn:=QZ b p pre x;have hsnb:=H3 b p (pre++[x]);have hml:=K9 b p (p-x.val);generalize hbl:EA b p (pre++[x])=s2 at*;generalize hbl0:EA b p pre=s1 at*;generalize hmm:CP b p (p-x.val)=m at*;have HSN:=hid hsn;have HBL:=hid hbl;have HBL0:=hid hbl0;have HMM:=hid hmm;have HUt:=hid hU;have HUG:=hid hUg;have HUO:=hid UO;have HUN:=hid UN;have HU0:=hid U0;have HU1:=hid U1;clear hsn hbl hbl0 hmm et hU hUg UO UN U0 U1;have hfr:∀f,(Fence.wide.inRound l).fn f=True:=fun _=>rfl;clear k0 k2 k3;refine C4 zJ zJ zJ ?_;repeat (gi_big_quiet_step (((exact Qs (HM.out _)))))
  refine wpQuietIn_nil ?_;rintro Y ⟨⟨Y',hY⟩,rfl⟩;have Y0:=HU0.out.later hY;have Y1:=HU1.out.later hY;have YO:=HUO.out.later hY;have YN:=HUN.out.later hY;have YG:=HUG.out.later hY;have y1:Y.cell? ⟨w.heap.size+1,0,none⟩=some (.int .i64 (p:Int)):=Y1.cell 0;have yo:Y.cell? ⟨w1.heap.size,0,none⟩=some (.int .i64 (s1.1:Int)):=YO.cell 0;have yn:Y.cell? ⟨w1.heap.size+1,0,none⟩=some (.int .i64 (s1.2:Int)):=YN.cell 0;have fo:=YO.free 0;have fn:=YN.free 0;have HY0:=hid Y0;have HY1:=hid Y1;have HYO:=hid YO;have HYN:=hid YN;have HYG:=hid YG;have HYb:=hid hY;clear Y0 Y1 YO YN YG hY C0 C1 C2;have hzz:w1.heap.size≠gs:=zD;have hzz2:w1.heap.size+1≠gs:=zD;by_cases hgt:s1.2<m
  ·have b0:decide ((s1.2:Int)<(m:Int))=true:=by simp;omega
   have b0':decide (s1.2<m)=true:=zI;have hs2:s2=(p-x.val,m):=by
    rw[HSN.out];unfold Jm;rw[HMM.out,Ai hgt]
   have v1:Hid ((s2.1:Int)=(p:Int)-(x.val:Int)):=hid (by rw[hs2];simp only;omega);have v2:Hid ((s2.2:Int)=(m:Int)):=hid (by rw[hs2]);have HS2:=hid hs2;clear hs2 hgt;gi_wp2
   refine IG (fun Z=>Tch (fun q=>q=gs∨q=w1.heap.size∨q=w1.heap.size+1) V Z∧Blk Z gs 388 #[.slice sa b.length sc,.pointer (some ⟨g,0,none⟩),.int .i64 t']∧Blk Z w1.heap.size 3 #[.int .i64 (s2.1:Int)]∧Blk Z (w1.heap.size+1) 3 #[.int .i64 (s2.2:Int)]∧Blk Z w.heap.size 379 #[.pointer (some ⟨gs,0,none⟩)]∧Blk Z (w.heap.size+1) 3 #[.int .i64 (p:Int)])
    ⟨(((HUt.out.mono (G:=(fun q=>q=gs∨q=w1.heap.size∨q=w1.heap.size+1)) (fun q _ e=> .inl e)).trans (Tch.Bz (F:=(fun q=>q=gs∨q=w1.heap.size∨q=w1.heap.size+1)) HYb.out) fun _ _ h=>h).setCell (fun _=> .inr (.inl rfl)) _).setCell (fun _=> .inr (.inr rfl)) _,(HYG.out.far zH _).far zH _,by rw[v1.out];exact (HYO.out.set 0 _).far (by simp) _,by rw[v2.out];exact (HYN.out.far (by simp) _).set 0 _,(HY0.out.far zH _).far zH _,(HY1.out.far zH _).far zH _⟩ ?_
   intro Z ⟨zt,zg,zo,zn,z0,z1⟩;have D0:=fun s:AE Z=>s.cell (show Z.cell? ⟨w.heap.size,0,none⟩=some (.pointer (some ⟨gs,0,none⟩)) from z0.cell 0);have D1:=fun s:AE Z=>s.cell (show Z.cell? ⟨w.heap.size+1,0,none⟩=some (.int .i64 (p:Int)) from z1.cell 0);have D2:=fun s:AE Z=>s.cell (show Z.cell? ⟨gs,0,none⟩=some (.slice sa b.length sc) from zg.cell 0);have D3:=fun s:AE Z=>s.cell (show Z.cell? ⟨w1.heap.size+1,0,none⟩=some (.int .i64 (s2.2:Int)) from zn.cell 0);have HZT:=hid zt;have HZG:=hid zg;have HZO:=hid zo;have HZN:=hid zn;clear zt zg zo zn z0 z1;have i5:(p:Int)+(s2.2:Int)≤2097152:=zD;by_cases heq:p+s2.2=b.length
   ·have b1:((p:Int)+(s2.2:Int)==(b.length:Int))=true:=by simp;omega
    have HEQ:=hid heq;clear heq;refine C4 zJ zJ zJ ?_;repeat (gi_big_quiet_step (fail))
    refine wpQuietIn_nil ?_;rintro W6 ⟨⟨Z6,hZ6⟩,rfl⟩;have ht6:=HZT.out.trans (Tch.Bz (F:=fun q=>q=gs∨q=w1.heap.size∨q=w1.heap.size+1) hZ6) fun _ _ h=>h;have HT6:=hid ht6;clear ht6;have HZ6:=hid hZ6;clear hZ6;clear D0 D1 D2 D3;gi_wp2
    exact⟨EW HT6.out fun q hq=>by rcases hq with e | e | e<;>omega,rfl,by rw[HBL.out];exact HEQ.out,⟨t',HZG.out.later HZ6.out⟩,ZV,ZW,HTC.out.trans HT6.out fun _ _ h=>h⟩
   ·have b1:((p:Int)+(s2.2:Int)==(b.length:Int))=false:=by simp;omega
    clear heq;refine C4 zJ zJ zJ ?_;repeat (gi_big_quiet_step (fail))
    refine wpQuietIn_nil ?_;rintro W6 ⟨⟨Z6,hZ6⟩,rfl⟩;have ht6:=HZT.out.trans (Tch.Bz (F:=fun q=>q=gs∨q=w1.heap.size∨q=w1.heap.size+1) hZ6) fun _ _ h=>h;have HT6:=hid ht6;clear ht6;have HZ6:=hid hZ6;clear hZ6;clear D0 D1 D2 D3;gi_wp2
    refine⟨EW HT6.out fun q hq=>by rcases hq with e | e | e<;>omega,?_,⟨t',HZG.out.later HZ6.out⟩,ZV,ZW,HTC.out.trans HT6.out fun _ _ h=>h⟩;intro q hq;have hg5:=HS5.out.ch;have n1:=HSK.out.ne1;have n2:=HSK.out.ne2;have hzw:=HZW.out;have hz5:=HZ5.out;rcases hq with e | e | e | e | e
    ·exact HT6.out.block q zD (nF q zD zD zD zD)
    ·exact HT6.out.block q zD (nF q zD zD zD zD)
    ·have h6:=(HSK.out.ch.prev.lt _ e).2
     exact HT6.out.block q zD (nF q zD (fun e'=>HSK.out.ne3 (e' ▸ e)) zD zD)
    ·exact HT6.out.block q zD (nF q zD zD zD zD)
    ·exact HT6.out.block q zD (nF q zD zD zD zD)
  ·have b0:decide ((s1.2:Int)<(m:Int))=false:=by simp;omega
   have b0':decide (s1.2<m)=false:=zI;have hs2:s2=s1:=by
    rw[HSN.out];unfold Jm;rw[HMM.out,Ah hgt]
   have HS2:=hid hs2;clear hs2 hgt;gi_wp2
   refine IG (fun Z=>Tch (fun q=>q=gs∨q=w1.heap.size∨q=w1.heap.size+1) V Z∧Blk Z gs 388 #[.slice sa b.length sc,.pointer (some ⟨g,0,none⟩),.int .i64 t']∧Blk Z w1.heap.size 3 #[.int .i64 (s2.1:Int)]∧Blk Z (w1.heap.size+1) 3 #[.int .i64 (s2.2:Int)]∧Blk Z w.heap.size 379 #[.pointer (some ⟨gs,0,none⟩)]∧Blk Z (w.heap.size+1) 3 #[.int .i64 (p:Int)])
    ⟨((HUt.out.mono (G:=(fun q=>q=gs∨q=w1.heap.size∨q=w1.heap.size+1)) (fun q _ e=> .inl e)).trans (Tch.Bz (F:=(fun q=>q=gs∨q=w1.heap.size∨q=w1.heap.size+1)) HYb.out) fun _ _ h=>h),HYG.out,by rw[HS2.out];exact HYO.out,by rw[HS2.out];exact HYN.out,HY0.out,HY1.out⟩ ?_
   intro Z ⟨zt,zg,zo,zn,z0,z1⟩;have D0:=fun s:AE Z=>s.cell (show Z.cell? ⟨w.heap.size,0,none⟩=some (.pointer (some ⟨gs,0,none⟩)) from z0.cell 0);have D1:=fun s:AE Z=>s.cell (show Z.cell? ⟨w.heap.size+1,0,none⟩=some (.int .i64 (p:Int)) from z1.cell 0);have D2:=fun s:AE Z=>s.cell (show Z.cell? ⟨gs,0,none⟩=some (.slice sa b.length sc) from zg.cell 0);have D3:=fun s:AE Z=>s.cell (show Z.cell? ⟨w1.heap.size+1,0,none⟩=some (.int .i64 (s2.2:Int)) from zn.cell 0);have HZT:=hid zt;have HZG:=hid zg;have HZO:=hid zo;have HZN:=hid zn;clear zt zg zo zn z0 z1;have i5:(p:Int)+(s2.2:Int)≤2097152:=zD;by_cases heq:p+s2.2=b.length
   ·have b1:((p:Int)+(s2.2:Int)==(b.length:Int))=true:=by simp;omega
    have HEQ:=hid heq;clear heq;refine C4 zJ zJ zJ ?_;repeat (gi_big_quiet_step (fail))
    refine wpQuietIn_nil ?_;rintro W6 ⟨⟨Z6,hZ6⟩,rfl⟩;have ht6:=HZT.out.trans (Tch.Bz (F:=fun q=>q=gs∨q=w1.heap.size∨q=w1.heap.size+1) hZ6) fun _ _ h=>h;have HT6:=hid ht6;clear ht6;have HZ6:=hid hZ6;clear hZ6;clear D0 D1 D2 D3;gi_wp2
    exact⟨EW HT6.out fun q hq=>by rcases hq with e | e | e<;>omega,rfl,by rw[HBL.out];exact HEQ.out,⟨t',HZG.out.later HZ6.out⟩,ZV,ZW,HTC.out.trans HT6.out fun _ _ h=>h⟩
   ·have b1:((p:Int)+(s2.2:Int)==(b.length:Int))=false:=by simp;omega
    clear heq;refine C4 zJ zJ zJ ?_;repeat (gi_big_quiet_step (fail))
    refine wpQuietIn_nil ?_;rintro W6 ⟨⟨Z6,hZ6⟩,rfl⟩;have ht6:=HZT.out.trans (Tch.Bz (F:=fun q=>q=gs∨q=w1.heap.size∨q=w1.heap.size+1) hZ6) fun _ _ h=>h;have HT6:=hid ht6;clear ht6;have HZ6:=hid hZ6;clear hZ6;clear D0 D1 D2 D3;gi_wp2
    refine⟨EW HT6.out fun q hq=>by rcases hq with e | e | e<;>omega,?_,⟨t',HZG.out.later HZ6.out⟩,ZV,ZW,HTC.out.trans HT6.out fun _ _ h=>h⟩;intro q hq;have hg5:=HS5.out.ch;have n1:=HSK.out.ne1;have n2:=HSK.out.ne2;have hzw:=HZW.out;have hz5:=HZ5.out;rcases hq with e | e | e | e | e
    ·exact HT6.out.block q zD (nF q zD zD zD zD)
    ·exact HT6.out.block q zD (nF q zD zD zD zD)
    ·have h6:=(HSK.out.ch.prev.lt _ e).2
     exact HT6.out.block q zD (nF q zD (fun e'=>HSK.out.ne3 (e' ▸ e)) zD zD)
    ·exact HT6.out.block q zD (nF q zD zD zD zD)
    ·exact HT6.out.block q zD (nF q zD zD zD zD)
 case done=>
  rintro D ys V hD hys ⟨hg',h2,h3,h4⟩ hK;subst hys;have hbd:=SA b p;have hbb:=H3 b p (placesOf b p);generalize hs1:EA b p (placesOf b p)=s1 at*;have k1:V.cell? ⟨w1.heap.size,0,none⟩=some (.int .i64 (s1.1:Int)):=h2.cell 0;have k2:V.cell? ⟨w1.heap.size+1,0,none⟩=some (.int .i64 (s1.2:Int)):=h3.cell 0;have HBD:=hid hbd;have HG':=hid hg';have HT4:=hid h4;have HKK:=hid hK;clear hbd hs1 hg' h2 h3 h4 hK;go_wp2_with fail;refine (Lv _ _ _).mono ?_;rintro r w9 ⟨rfl,rfl⟩;have hif:∃v1 v2:Nat,BU b p=(v1,v2)∧(if (s1.2:Int)<4 then (0:Int) else (s1.1:Int))=(v1:Int)∧(if (s1.2:Int)<4 then (0:Int) else (s1.2:Int))=(v2:Int):=by
   by_cases h4:s1.2<4
   ·exact⟨0,0,zBj,zAm,zAm⟩
   ·exact⟨s1.1,s1.2,zBk,ZR,ZR⟩
  obtain⟨v1,v2,hv,hv1,hv2⟩:=hif;rw[hv1,hv2];have HV:=hid hv;clear hv hv1 hv2;go_wp2;refine⟨zQ,.inl ⟨_,_,rfl,run_takeDeferred HKK.out,?_⟩⟩;have hTf:Tch (fun q=>q=gs) w1 (V.putObj D (.deferred none)):=by
   have hg8:=grownBy_putObj' V D (.deferred none);have e5:=HB5.out;have ez:=HZW.out;have ez5:=HZ5.out;have hsz4:=HT4.out.size;refine⟨hg8.os.trans (HT4.out.os.trans (e5.os.trans hbW.os)),hg8.tape.trans (HT4.out.tape.trans (e5.tape.trans hbW.tape)),hg8.output.trans (HT4.out.output.trans (e5.output.trans hbW.output)),by have:=hg8.size;omega,fun q hq hne=> ?_⟩;exact (hg8.block q zD (fun e=>by have:=A5 e;omega)).trans ((HT4.out.block q zD (fun e=>by rcases e with e | e | e<;>omega)).trans ((e5.block q zD).trans (hbW.block q hq)))
  have hsf:H6 (V.putObj D (.deferred none)) gs g mb base lo hi b p sa sc ab cb a1 c1':=HSK.out.SQ hTf (by
   obtain⟨t,ht⟩:=HG'.out;exact⟨t,(World.putObj_heap_other (by have:=HZ5.out;omega)).trans ht⟩)
  have hstep:Oe w gs g mb base lo hi b n p sa sc ab cb ap cp (V.putObj D (.deferred none)):=⟨a1,c1',hsf,HTW.out.trans hTf (fun q _ e=> .inl e),HOW.out⟩;have HST:=hid hstep;clear hstep hsf hTf;refine⟨.tuple #[.int .i64 ((BU b p).1:Int),.int .i64 ((BU b p).2:Int)],?_,rfl,HST.out⟩;rw[HV.out];simp[results,Tryz.f374,go_sem]
 case stop=>
  rintro D c pre V hD hpre ⟨hc,hl,hg',h2,h3,h4⟩ hK;subst hc;have hbd:=Sz hpre hp hl;have hbb:=H3 b p pre;generalize hs1:EA b p pre=s1 at*;have k1:V.cell? ⟨w1.heap.size,0,none⟩=some (.int .i64 (s1.1:Int)):=h2.cell 0;have k2:V.cell? ⟨w1.heap.size+1,0,none⟩=some (.int .i64 (s1.2:Int)):=h3.cell 0;have HBD:=hid hbd;have HG':=hid hg';have HT4:=hid h4;have HKK:=hid hK;clear hbd hs1 hg' h2 h3 h4 hK hl;refine wpIn_wide.2 ?_;go_wp2_with fail;refine (Lv _ _ _).mono ?_;rintro r w9 ⟨rfl,rfl⟩;have hif:∃v1 v2:Nat,BU b p=(v1,v2)∧(if (s1.2:Int)<4 then (0:Int) else (s1.1:Int))=(v1:Int)∧(if (s1.2:Int)<4 then (0:Int) else (s1.2:Int))=(v2:Int):=by
   by_cases h4:s1.2<4
   ·exact⟨0,0,zBj,zAm,zAm⟩
   ·exact⟨s1.1,s1.2,zBk,ZR,ZR⟩
  obtain⟨v1,v2,hv,hv1,hv2⟩:=hif;rw[hv1,hv2];have HV:=hid hv;clear hv hv1 hv2;go_wp2;refine⟨zQ,.inl ⟨_,_,rfl,run_takeDeferred HKK.out,?_⟩⟩;have hTf:Tch (fun q=>q=gs) w1 (V.putObj D (.deferred none)):=by
   have hg8:=grownBy_putObj' V D (.deferred none);have e5:=HB5.out;have ez:=HZW.out;have ez5:=HZ5.out;have hsz4:=HT4.out.size;refine⟨hg8.os.trans (HT4.out.os.trans (e5.os.trans hbW.os)),hg8.tape.trans (HT4.out.tape.trans (e5.tape.trans hbW.tape)),hg8.output.trans (HT4.out.output.trans (e5.output.trans hbW.output)),by have:=hg8.size;omega,fun q hq hne=> ?_⟩;exact (hg8.block q zD (fun e=>by have:=A5 e;omega)).trans ((HT4.out.block q zD (fun e=>by rcases e with e | e | e<;>omega)).trans ((e5.block q zD).trans (hbW.block q hq)))
  have hsf:H6 (V.putObj D (.deferred none)) gs g mb base lo hi b p sa sc ab cb a1 c1':=HSK.out.SQ hTf (by
   obtain⟨t,ht⟩:=HG'.out;exact⟨t,(World.putObj_heap_other (by have:=HZ5.out;omega)).trans ht⟩)
  have hstep:Oe w gs g mb base lo hi b n p sa sc ab cb ap cp (V.putObj D (.deferred none)):=⟨a1,c1',hsf,HTW.out.trans hTf (fun q _ e=> .inl e),HOW.out⟩;have HST:=hid hstep;clear hstep hsf hTf;refine⟨.tuple #[.int .i64 ((BU b p).1:Int),.int .i64 ((BU b p).2:Int)],?_,rfl,HST.out⟩;rw[HV.out];simp[results,Tryz.f374,go_sem]
open Go.RowKit Go.Bs Go.Maps
def Uq(w:World)(b:List UInt8)(r:Ending)(w':World):Prop:=∃g mb ab cb,r=.returned (.pointer (some ⟨g,0,none⟩))∧Kl w' g mb w.heap.size b 0 ab cb none 0∧Below w.heap.size w w'∧w.heap.size≤g∧w.heap.size≤mb∧Ag.r (fun q=>w.heap.size≤q∧q<w'.heap.size∧q≠g∧q≠mb) w' [.slice ab b.length cb] b
theorem Sv(w:World)(b:List UInt8)(a:Option Addr)(n c:Nat)(hl:Ag.r (·<w.heap.size) w [.slice a n c] b)(hlen:b.length≤1048576):
  Calls Tryz.prog 378 #[.slice a n c] w (Uq w b):=by
 obtain⟨rfl,hm,_,_⟩:=AH hl;obtain⟨i0,hi,hz0,hz1,hz2⟩:=A1 Eu;have HS:=hid (fun (W:World) (hW:Below w.heap.size w W)=>BH (lift hl hW));have HONE:=hid (A7 b);clear hl;have hmm:=@run_makeMap Tryz.prog;go_enter Tryz.func378,Tryz.ntmps378;go_wp2_with (at_builtin;go_loud (refine AA rfl _ _ _ rfl w.heap.size 5 i0 (.int .u8 0) 1 1 AG hi hz0 hz1 hz2 rfl zO _ 0 [] rfl (D4 _ (Ap _) rfl) a b.length c (byteCells b) rfl (HS.out _ zB) HONE.out zN zD zQ ?_;intro v' w1 hown1 hgrow1 hat1;rw[Bj,A8] at hown1;obtain⟨a',c',rfl⟩:=AX hown1;have hz1':w.heap.size+1≤w1.heap.size:=(by have:=hgrow1.size;simpa using this);have HG:=hid hgrow1;have HO:=hid hown1;have HAT:=hid hat1;clear hgrow1 hown1 hat1))
 have hA:=Cg rfl HO.out;have hfin:Uq w b (.returned (.pointer (some ⟨w1.heap.size+1,0,none⟩))) ((w1.alloc (.map #[] 0)).alloc (.cells #[.slice a' b.length c',.map (some w1.heap.size),.slice none 0 0] 395)):=by
  have hsz:((w1.alloc (.map #[] 0)).alloc (.cells #[.slice a' b.length c',.map (some w1.heap.size),.slice none 0 0] 395)).heap.size=w1.heap.size+2:=zQ;have keep:∀q,q<w1.heap.size→((w1.alloc (.map #[] 0)).alloc (.cells #[.slice a' b.length c',.map (some w1.heap.size),.slice none 0 0] 395)).heap[q]? =w1.heap[q]? :=fun q hq=>(AP _ _ q zI).trans (AP _ _ q hq);refine⟨w1.heap.size+1,w1.heap.size,a',c',rfl,⟨Blk.newAt _ _ _ zQ,?_,⟨.map [],(World.ownsMap_made w1 _ _ _).alloc _,fun k _=>rfl⟩,⟨by simp[Iw],.inl ⟨rfl,rfl⟩⟩,zD,ZU,ZU,zD,At _,hlen⟩,?_,zD,zD,?_⟩
  ·exact Ag.mono (Ag.keep hA fun q hq=>keep q hq.2) fun q hq=>⟨zAp,zD,zD,ZU⟩
  ·have hb1:Below w.heap.size w w1:=Below.grown zB HG.out zQ (fun g e=>by
    have e':some w.heap.size=some g:=e;injection e' with e';omega)
   (repeat (first | exact Below.refl _ _ | assumption | (refine Au ?_ _) | (refine Below.setCell ?_ zE _) | (refine Below.drew ?_) | (refine below_drewN ?_ _) | (refine Af zM ?_)))
  ·exact Ag.mono (Ag.keep hA fun q hq=>keep q hq.2) fun q hq=>⟨hq.1,zAp,zD,zD⟩
 have HF:=hid hfin;clear hfin hA;go_ret;exact HF.out
def Up(w:World)(b:List UInt8)(r:Ending)(w':World):Prop:=∃gs g mb base sa sc ab cb,r=.returned (.pointer (some ⟨gs,0,none⟩))∧H6 w' gs g mb base w.heap.size w'.heap.size b 0 sa sc ab cb none 0∧Below w.heap.size w w'∧w.heap.size≤gs∧w.heap.size≤g∧w.heap.size≤mb∧w.heap.size≤base
theorem S3(w:World)(b:List UInt8)(a:Option Addr)(n c:Nat)(hl:Ag.r (·<w.heap.size) w [.slice a n c] b)(hlen:b.length≤1048576):
  Calls Tryz.prog 373 #[.slice a n c] w (Up w b):=by
 obtain⟨rfl,hm,_,_⟩:=AH hl;obtain⟨i0,hi,hz0,hz1,hz2⟩:=A1 Eu;have HS:=hid (fun (W:World) (hW:Below w.heap.size w W)=>BH (lift hl hW));have HONE:=hid (A7 b);have HL:=hid hl;clear hl;go_enter Tryz.func373,Tryz.ntmps373;go_wp2_with (at_builtin;go_loud (refine AA rfl _ _ _ rfl w.heap.size 5 i0 (.int .u8 0) 1 1 AG hi hz0 hz1 hz2 rfl zO _ 0 [] rfl (D4 _ (Ap _) rfl) a b.length c (byteCells b) rfl (HS.out _ zB) HONE.out zN zD zQ ?_;intro v' w1 hown1 hgrow1 hat1;rw[Bj,A8] at hown1;obtain⟨a',c',rfl⟩:=AX hown1;have hz1':w.heap.size+1≤w1.heap.size:=(by have:=hgrow1.size;simpa using this);have HG:=hid hgrow1;have HO:=hid hown1;have HAT:=hid hat1;clear hgrow1 hown1 hat1))
 have hb1:Below w.heap.size w w1:=Below.grown zB HG.out zQ (fun g e=>by
  have e':some w.heap.size=some g:=e;injection e' with e';omega)
 refine (Sv w1 b _ _ _ (lift HL.out hb1) hlen).mono ?_;rintro r w2 ⟨g,mb,ab,cb,rfl,hch,hb2,hg,hmb,hbb⟩;have hA:=Cg rfl HO.out;have hs2:=hb2.size;have hgl:=hch.blk.lt;have hml:mb<w2.heap.size:=by obtain⟨D,hD,_⟩:=hch.map;exact hD.lt
 have hsz:(w2.alloc (.cells #[.slice a' b.length c',.pointer (some ⟨g,0,none⟩),.int .i64 0] 388)).heap.size=w2.heap.size+1:=zQ;have keep:∀q,q<w2.heap.size→(w2.alloc (.cells #[.slice a' b.length c',.pointer (some ⟨g,0,none⟩),.int .i64 0] 388)).heap[q]? =w2.heap[q]? :=fun q hq=>AP _ _ q hq;have hfin:Up w b (.returned (.pointer (some ⟨w2.heap.size,0,none⟩))) (w2.alloc (.cells #[.slice a' b.length c',.pointer (some ⟨g,0,none⟩),.int .i64 0] 388)):=by
  refine⟨w2.heap.size,g,mb,w1.heap.size,a',c',ab,cb,rfl,⟨⟨0,Blk.newAt _ _ _ zQ⟩,?_,hch.later zB,?_,zD,zD,ZU,Ap _⟩,?_,zD,zD,zD,zD⟩
  ·exact Ag.mono (Ag.keep hA fun q hq=>(keep q zD).trans (hb2.block q hq.2)) fun q hq=>⟨⟨zD,zAp⟩,zD,zD,zD,ZU⟩
  ·exact Ag.mono (Ag.keep hbb fun q hq=>keep q hq.2.1) fun q hq=>⟨⟨zD,zAp⟩,zD,hq.2.2.1,hq.2.2.2,ZU⟩
  ·exact (hb1.trans (hb2.mono zD)).alloc zD _
 have HF:=hid hfin;clear hfin hA hch hbb;go_wp2;go_ret;exact HF.out
end Go.Proofs.YtfddhafbhceoaaaGreat
namespace Go.Bs
open Go.RowKit
variable{base c g i sz:Nat}{F:Nat → Prop}{e:TypeId}{v:Value}{w:World}
section
variable {w w':World} {α:Type}
def AY(F:Nat→Prop)(A:Rp α)(base:Nat)(e:TypeId)(sz:Nat)(w:World)(v:Value)(xs:List α)(cells:List (List Value)):Prop:=
 w.ownsRow base e sz v xs.length cells.flatten∧cells.length=xs.length∧(∀c∈cells,c.length=sz)∧
  ∀(i:Nat) cs x,cells[i]? =some cs→xs[i]? =some x→A.r (fun b=>F b∧v.ownBlock≠some b) w cs x
theorem AY.of{lo:Nat}{A:Rp α}{base:Nat}{e:TypeId}{sz:Nat}{v:Value}{xs:List α}{cells:List (List Value)}(h:Cd lo A base e sz w v xs cells):AY (fun b=>lo≤b∧b<w.heap.size) A base e sz w v xs cells:=
 ⟨h.1,h.2.1,h.2.2.1,fun i cs x hi hx=>A.mono (h.2.2.2 i cs x hi hx) fun b hb=>⟨⟨hb.1,hb.2.1⟩,hb.2.2⟩⟩
theorem AY.to{lo:Nat}{A:Rp α}{xs:List α}{cells:List (List Value)}(h:AY F A base e sz w v xs cells)(hF:∀b,F b→lo≤b∧b<w.heap.size):Cd lo A base e sz w v xs cells:=
 ⟨h.1,h.2.1,h.2.2.1,fun i cs x hi hx=>A.mono (h.2.2.2 i cs x hi hx) fun b hb=>⟨(hF b hb.1).1,(hF b hb.1).2,hb.2⟩⟩
theorem AY.keep{A:Rp α}{xs:List α}{cells:List (List Value)}(h:AY F A base e sz w v xs cells)(hF:∀b,F b→w'.heap[b]? =w.heap[b]?)(hv:∀g,v.ownBlock=some g→w'.heap[g]? =w.heap[g]?):AY F A base e sz w' v xs cells:=by
 obtain⟨ho,hlen,hsz,hA⟩:=h;refine⟨⟨ho.1,?_⟩,hlen,hsz,fun i cs x hi hx=>A.keep (hA i cs x hi hx) fun b hb=>hF b hb.1⟩;rcases ho.2 with h0 | ⟨g,cap,cur,h1,h2,h3,h4⟩
 ·exact .inl h0
 ·exact .inr ⟨g,cap,cur,h1,h2,by rw[hv g (by rw[h1];rfl)];exact h3,h4⟩
theorem AY.mono{F':Nat→Prop}{A:Rp α}{xs:List α}{cells:List (List Value)}(h:AY F A base e sz w v xs cells)(hF:∀b,F b→F' b):AY F' A base e sz w v xs cells:=
 ⟨h.1,h.2.1,h.2.2.1,fun i cs x hi hx=>A.mono (h.2.2.2 i cs x hi hx) fun b hb=>⟨hF b hb.1,hb.2⟩⟩
theorem AY.nil{A:Rp α}:AY F A base e sz w (.slice none 0 0) [] []:=
 ⟨⟨zQ,.inl ⟨rfl,rfl⟩⟩,rfl,zQ,fun i cs x h=>by simp at h⟩
theorem AY.push{F:Nat→Prop}{A:Rp α}{base:Nat}{e:TypeId}{sz:Nat}{v v':Value}{xs:List α}{news:List Value}{x:α}{cells:List (List Value)}(h:AY F A base e sz w v xs cells)(hF:∀b,F b→b<w.heap.size)
 (hn:news.length=sz) (hx:A.r (fun b=>F b∧v.ownBlock≠some b) w news x)
 (hown:w'.ownsRow base e sz v' (xs.length+1) (cells.flatten++news)) (hg:w.grownBy w' v.ownBlock) (hat:v'.ownBlock=v.ownBlock∨v'.ownBlock=some w.heap.size):AY F A base e sz w' v' (xs++[x]) (cells++[news]):=by
 obtain⟨ho,hlen,hsz,hA⟩:=h;have lift:∀cs y,A.r (fun b=>F b∧v.ownBlock≠some b) w cs y→A.r (fun b=>F b∧v'.ownBlock≠some b) w' cs y:=fun cs y hr=>
  A.mono (A.keep hr fun b hb=>hg.block b (hF b hb.1) (fun e=>hb.2 e.symm)) fun b hb=>⟨hb.1,fun e=>by
   rcases hat with h | h
   ·exact hb.2 (h ▸ e)
   ·rw[h] at e;have:=A5 e;have:=hF b hb.1;omega⟩
 refine⟨?_,by simp[hlen],?_,?_⟩
 ·rw[EY,Al]
  simpa using hown
 ·intro c hc
  rcases List.mem_append.1 hc with h | h
  ·exact hsz c h
  ·simp at h;subst h;exact hn
 ·intro i cs y hi hy
  by_cases hlt:i<xs.length
  ·rw[CE zD] at hi
   rw[CE hlt] at hy;exact lift _ _ (hA i cs y hi hy)
  ·have hii:i=xs.length:=by
    have:=(List.getElem?_eq_some_iff.1 hy).1;simp at this;omega
   subst hii;rw[Cr zD] at hi;rw[Cr (Ap _)] at hy;simp[hlen] at hi;simp at hy;subst hi hy;exact lift _ _ hx
theorem AY.slice{F:Nat→Prop}{A:Rp α}{v:Value}{xs:List α}{cells:List (List Value)}(h:AY F A base e sz w v xs cells):(rSl sz A).r (fun b=>F b∨v.ownBlock=some b) w [v] xs:=by
 obtain⟨hown,hlen,hsz,hA⟩:=h;rcases hown.2 with ⟨rfl,h0⟩ | ⟨g,cap,cur,rfl,hbg,hg,hn,hc,hcur,hx⟩
 ·have:xs=[]:=AS h0
  subst this;exact BL rfl (Ap _) (At _) (.inl rfl)
 ·refine BL rfl hn hc (.inr ⟨g,0,rfl,.inr rfl,fun i x hi=> ?_⟩)
  have hi':i<xs.length:=(List.getElem?_eq_some_iff.1 hi).1;have hic:i<cells.length:=zD;have hcs:cells[i]? =some cells[i]:=AM hic;refine⟨cells[i],hsz _ (AT hic),fun j v hj=> ?_,A.mono (hA i _ x hcs hi) fun b h=> .inl h.1⟩;have hj':j<sz:=ZA;have hf:=GP sz cells hsz i j _ v hcs hj;rw[Bj,Blk.cell hg (i*sz+j)];have hb:i*sz+j<xs.length*sz:=by
   have:=BG sz (show i+1≤xs.length from hi');rw[Nat.succ_mul] at this;omega
  have e1:cur[i*sz+j]? =(cur.toList.take (xs.length*sz))[i*sz+j]? :=by
   rw[Du,Ai hb];simp
  rw[e1,hx];exact hf
def rBV:Rp (Batch ⊕ (Int × Int × Value)):=
  ⟨fun S w cs x=>match x with | .inl b=>Ff.r S w cs b | .inr y=>cs=[.int .u64 y.1,.int .u64 y.2.1,y.2.2],
   fun {S w w' cs x} h hk=>by cases x with | inl b=>exact Ff.keep h hk | inr y=>exact h,
   fun {S S' w cs x} h hk=>by cases x with | inl b=>exact Ff.mono h hk | inr y=>exact h⟩
structure TQ(lo:Nat)(TB TE:TypeId)(w:World)(g c:Nat)(cells:List (List Value))(s:Nat)(bs0:List Batch)(e b:Int)(es:List Entry)(vl:Value):Prop where
 own:AY (fun x=>lo≤x∧x<s) rBV lo TB 3 w (.slice (some ⟨g,0,none⟩) (bs0.length+1) c) (bs0.map .inl++[.inr (e,b,vl)]) (cells++[[.int .u64 e,.int .u64 b,vl]])
 len:cells.length=bs0.length
 lt:g<s
 le:s≤w.heap.size
 last:AZ s NH s TE 2 w vl es
 he:0≤e∧e≤18446744073709551615
 hb:0≤b∧b≤18446744073709551615
theorem AY.inl{xs:List Batch}{cells:List (List Value)}(h:AY F Ff base e sz w v xs cells):AY F rBV base e sz w v (xs.map .inl) cells:=by
 obtain⟨ho,hlen,hsz,hA⟩:=h;refine⟨by simpa using ho,by simpa using hlen,hsz,fun i cs x hi hx=> ?_⟩;rw[DP] at hx;cases hxi:xs[i]? with
 | none=>rw [hxi] at hx;cases hx
 | some y=>rw [hxi] at hx;cases hx;exact hA i cs y hi hxi
theorem TQ.start{lo:Nat}{TB TE:TypeId}{bs:List Batch}{e b:Int}{cells:List (List Value)}(h:Cd lo Ff lo TB 3 w v bs cells)(he:0≤e∧e≤18446744073709551615)(hb:0≤b∧b≤18446744073709551615)
 (hown:w'.ownsRow lo TB 3 (.slice (some ⟨g,0,none⟩) (bs.length+1) c) (bs.length+1) (cells.flatten++[.int .u64 e,.int .u64 b,.slice none 0 0])) (hg:w.grownBy w' v.ownBlock)
 (hat:(Value.slice (some ⟨g,0,none⟩) (bs.length+1) c).ownBlock=v.ownBlock∨(Value.slice (some ⟨g,0,none⟩) (bs.length+1) c).ownBlock=some w.heap.size):
  TQ lo TB TE w' g c cells w'.heap.size bs e b [] (.slice none 0 0):=by
 have h':=(AY.of h).inl;have h2:Cd lo rBV lo TB 3 w v (bs.map .inl) cells:=h'.to fun b hb=>hb;have h3:=Cd.push (v':=.slice (some ⟨g,0,none⟩) (bs.length+1) c) (x:=(.inr (e,b,.slice none 0 0):Batch ⊕ (Int × Int × Value))) h2 rfl rfl zBz hg hat hg.size;have hlt:g<w'.heap.size:=by
  rcases hown.2 with ⟨h0,_⟩ | ⟨g',cap,cur,h1,hb,hk,_⟩
  ·cases h0
  ·simp at h1
   rw[h1.1];exact (Array.getElem?_eq_some_iff.1 hk).1
 exact⟨AY.of h3,by simpa using h.2.1,hlt,Ap _,AZ.nil,he,hb⟩
theorem TQ.keep{lo:Nat}{TB TE:TypeId}{cells:List (List Value)}{s:Nat}{bs0:List Batch}{e b:Int}{es:List Entry}{vl:Value}(h:TQ lo TB TE w g c cells s bs0 e b es vl)(p:Nat)(hp:p<lo)
 (hk:∀b,b<w.heap.size→b≠p→w'.heap[b]? =w.heap[b]?) (hs:w.heap.size≤w'.heap.size):TQ lo TB TE w' g c cells s bs0 e b es vl:=by
 obtain⟨ho,h1,h2,h3,h4,h5,h6⟩:=h;have hlo:lo≤g:=by
  rcases ho.1.2 with ⟨h0,_⟩ | ⟨g',cap,cur,hv,hb,_⟩
  ·cases h0
  ·simp at hv
   omega
 refine⟨ho.keep (fun b hb=>hk b zD zD) (fun g' hg'=>hk g' (by simp[Value.ownBlock] at hg';omega) (by simp[Value.ownBlock] at hg';omega)),h1,h2,zD,?_,h5,h6⟩;obtain⟨cs,hc⟩:=h4;have h8:=(AY.of hc).keep (w':=w') (fun b hb=>hk b hb.2 zD) (fun g' hg'=>hk g' (hc.1.lt g' hg').2 (by have:=(hc.1.lt g' hg').1;omega));exact⟨cs,h8.to fun b hb=>⟨hb.1,zD⟩⟩
end
open Go.RowKit
def FN(o:Oper):Oper:={o with op:=.move (.const (.bool true)),guard:=none}
def BD:List Oper→List Oper
 | []=>[]
 | [o]=>[FN o]
 | o::p::l=>o::BD (p::l)
theorem Ek:∀l,(BD l).length=l.length
 | []=>rfl
 | [_]=>rfl
 | _::p::l=>by simp[BD,Ek (p::l)]
theorem EF:∀(l:List Oper) (i:Nat),(BD l)[i]? =if i+1=l.length then (l[i]?).map FN else l[i]?
 | [],i=>by simp[BD]
 | [o],i=>by
  cases i with
  | zero=>simp [BD]
  | succ i=>simp [BD]
 | o::p::l,i=>by
  cases i with
  | zero=>simp [BD]
  | succ i=>
   have:=EF (p::l) i;simp only[BD,List.getElem?_cons_succ,AL] at*;rw[this];by_cases h:i+1=l.length+1
   ·rw[Ai h,Ai zD]
   ·rw[Ah h,Ah zD]
def Tj(md:Region.Mode)(l:List Oper):Bool:=
 (match l.getLast? with | none=>false | some o=>o.dst.isNone&&o.guard.isNone)&&(Region.sinkB md l.toArray (l.length-1)&&Region.chainB md l.toArray (l.length-1))&&
  (List.range l.length).all fun i=>match l[i]? with | none=>true | some o=>o.after.all fun e=>decide (e.on<i)
section
variable {P:Program} {md:Region.Mode}
theorem IT(l:List Oper)(listed:Array Bool):Region.ready md (BD l).toArray listed=Region.ready md l.toArray listed:=by
 unfold Region.ready;simp only[List.size_toArray,Ek];refine List.filter_congr fun i _=> ?_;simp only[F7,EF];by_cases h:i+1=l.length
 ·rw[Ai h]
  cases l[i]? <;>rfl
 ·rw[Ah h]
theorem Nv(l:List Oper)(t:Array Value):yielded (BD l).toArray t=yielded l.toArray t:=by
 funext j
 unfold yielded;simp only[F7,EF];by_cases h:j+1=l.length
 ·rw[Ai h]
  cases l[j]? <;>rfl
 ·rw[Ah h]
theorem PE{ops:Array Oper}{Q Q':Exit→Act→World→Prop}{K:Act→World→Prop}{a:Act}{w:World}(hQ:∀e a w,e≠ .normal→Q' e a w→Q e a w)(h:wpOp P ops Q' i K a w):wpOp P ops Q i K a w:=by
 unfold wpOp at*;split
 ·rename_i ho
  simp only[ho] at h;exact h
 ·rename_i o ho
  simp only[ho] at h;split
  ·rename_i hw
   simp only[hw,Fs] at h;have hl:LetsOut Q'→LetsOut Q:=fun ⟨a,w,h⟩=>⟨a,w,hQ _ _ _ zQ h⟩;rcases h with h | ⟨h1,h2⟩
   ·left
    unfold Oper.wp at*;generalize (execOp a.eval o).run P w=r at*;cases r with
    | ok n w'=>
     cases n<;>simp only[Oper.upon] at h ⊢
     case value u=>exact h
     case skip=>exact h
     case defer d=>exact h
     case enter f args=>
      refine Calls.mono h fun e w'' he=> ?_;cases e with
      | returned u=>exact he
      | panicked c=>exact hQ _ _ _ zQ he
      | outgrown=>exact hl he
     case row row args=>exact h
    | halt x w'=>
     cases x<;>simp only[Oper.upon] at h ⊢
     case panic u=>exact hQ _ _ _ zQ h
   ·exact .inr ⟨h1,hl h2⟩
  ·rename_i hw
   simp only[hw] at h;exact h
theorem Rx{l:List Oper}{Q:Exit→Act→World→Prop}{K:Act→World→Prop}{a:Act}(hi:i+1≠l.length)(h:wpOp P (BD l).toArray Q i K a w):wpOp P l.toArray Q i K a w:=by
 unfold wpOp at*;rw[Nv] at h;simp only[F7,EF,Ah hi] at h ⊢;exact h
def OZ(P:Program)(l:List Oper)(o:Oper)(Q:Exit→Act→World→Prop):Exit→Act→World→Prop
 | .normal,a,w=>wpList P l.toArray Q [o] a w
 | e,a,w=>Q e a w
theorem OY{l:List Oper}{o:Oper}{Q:Exit→Act→World→Prop}{e:Exit}{a:Act}(he:e≠ .normal)(h:OZ P l o Q e a w):Q e a w:=by
 cases e<;>first | exact h | exact absurd rfl he
theorem IS{ops:Array Oper}{listed:Array Bool}(hd:∀(i:Nat) (o:Oper),ops[i]? =some o→∀e∈o.after,e.on<i)(hs:listed.size=ops.size):∀(n j:Nat),j<n→j<ops.size→listed.getD j true=false→Region.ready md ops listed≠[]
 | 0,j,h,_,_=>by omega
 | n+1,j,h,hj,hl=>by
  intro h0;have hr:j∉Region.ready md ops listed:=by rw[h0];simp
  apply hr;rw[mem_ready];have ho:ops[j]? =some ops[j]:=Array.getElem?_eq_getElem hj;refine⟨hl,ops[j],ho,fun e he hb=> ?_⟩;have hlt:=hd j _ ho e he;cases hg:listed.getD e.on false with
  | true=>rfl
  | false=>exact absurd h0 (IS hd hs n e.on zD zD (getD_in zD hg))
theorem Li{l:List Oper}{o:Oper}{Q:Exit→Act→World→Prop}(hlast:l[l.length-1]? =some o)(hpos:0<l.length)(hdst:o.dst=none)(hgd:o.guard=none)
 (hs1:Region.sinkB md l.toArray (l.length-1)=true) (hc1:Region.chainB md l.toArray (l.length-1)=true) (hd:∀(i:Nat) (o:Oper),l.toArray[i]? =some o→∀e∈o.after,e.on<i):
  ∀(fuel:Nat) (listed:Array Bool) (a:Act) (w:World),HeadInv md l.toArray (l.length-1) listed→
   wpAny P md (BD l).toArray (OZ P l o Q) fuel listed a w→wpAny P md l.toArray Q fuel listed a w
 | 0,listed,a,w,inv,h=>by
  have hs:listed.size=l.length:=by simpa using inv.size
  have hl:=inv.tail (l.length-1) (Ap _) zI;exact absurd (by rw[←IT];exact h.1) (IS (md:=md) hd (by simpa using hs) _ _ (Nat.lt_succ_self _) zI hl)
 | fuel+1,listed,a,w,inv,h=>by
  have hs:listed.size=l.length:=by simpa using inv.size
  have hl:=inv.tail (l.length-1) (Ap _) zI;have hne:=IS (md:=md) hd (by simpa using hs) _ _ (Nat.lt_succ_self _) zI hl;refine⟨fun h0=>absurd h0 hne,fun i hi=> ?_⟩;have h2:=h.2 i (by rw[IT];exact hi);by_cases hin:i+1=l.length
  ·
   obtain rfl:i=l.length-1:=zD;have hr:=mem_ready.1 hi;have hall:∀j,j<l.length→(listed.setIfInBounds (l.length-1) true).getD j true=true:=by
    intro j hj;by_cases hjl:j=l.length-1
    ·subst hjl;simp[hs]
    ·rw[getD_set_ne true zD]
     cases hg:listed.getD j true with
     | true=>rfl
     | false=>exact absurd hi (tail_waits hs1 hc1 zI inv _ j rfl zD hg _ (Ap _))
   have hrd:Region.ready md l.toArray (listed.setIfInBounds (l.length-1) true)=[]:=by
    rw[List.eq_nil_iff_forall_not_mem];intro j hj;obtain⟨h1,o',ho',_⟩:=mem_ready.1 hj;have hjl:j<l.length:=by
     have:=(Array.getElem?_eq_some_iff.1 ho').1;simpa using this
    rw[hall j hjl] at h1;cases h1
   have hQ:wpList P l.toArray Q [o] a w:=by
    unfold wpOp at h2;simp only[F7,EF,Ai (show l.length-1+1=l.length by omega),hlast,Option.map_some] at h2;have hwant:Region.wanted (FN o) (yielded (BD l).toArray a.tmps)=true:=rfl;rw[Ai hwant] at h2;rcases h2 with h2 | ⟨h2,_⟩
    ·have h3:wpAny P md (BD l).toArray (OZ P l o Q) fuel (listed.setIfInBounds (l.length-1) true) (a.put (FN o).dst (.bool true)) w:=h2
     have h4:(FN o).dst=none:=hdst;rw[h4] at h3;cases fuel with
     | zero=>exact h3.2
     | succ f=>exact h3.1 (by rw[IT];exact hrd)
    ·exfalso
     simp only[Oper.asks,FN,execOp] at h2;have h5:=h2.1;have h6:noRoomEvent∈(#[]:Array Event):=h5;simp at h6
   unfold wpOp;simp only[F7,hlast];have hwant:Region.wanted o (yielded l.toArray a.tmps)=true:=by simp[Region.wanted,hgd]
   rw[Ai hwant];unfold wpList at hQ;rw[Ai hwant] at hQ;refine hQ.imp (fun h=>Oper.wp_mono (fun a' w' h'=> ?_) h) id;cases fuel with
   | zero=>exact ⟨hrd,h'⟩
   | succ f=>exact ⟨fun _=>h',by rw[hrd];simp⟩
  ·refine PE (fun e a w he h=>OY he h) (Rx hin (wpOp_mono (fun a' w' h'=> ?_) h2))
   exact Li hlast hpos hdst hgd hs1 hc1 hd fuel _ a' w' (inv.set hi (by
    have:=(mem_ready.1 hi).2;obtain⟨o',ho',_⟩:=this;have:=(Array.getElem?_eq_some_iff.1 ho').1;simp at this;omega)) h'
theorem Lh{id:Nat}{Q:Exit→Act→World→Prop}{a:Act}{w:World}{l:List Oper}(o:Oper)(hm:P.follows .mixedOrders=true)(ho:l[l.length-1]? =some o)(hB:Tj .any l=true)
 (h:wpAny P .any (BD l).toArray (OZ P l o Q) (BD l).toArray.size (Array.replicate (BD l).toArray.size false) a {w with drawn:=w.drawn+1}):(Code.region id l.toArray true).wp P Q a w:=by
 have hpos:0<l.length:=by
  rcases CZ l.length with h | h
  ·rw[AS h] at ho;simp at ho
  ·exact h
 simp only[Tj,Aq] at hB;obtain⟨⟨h1,h2,h2'⟩,h3⟩:=hB;rw[List.getLast?_eq_getElem?,ho] at h1;simp only[Aq,Option.isNone_iff_eq_none] at h1;have inv0:HeadInv .any l.toArray (l.length-1) (Array.replicate l.toArray.size false):=
  ⟨zQ,fun j oj _ hl=>(by rw[getD_replicate_false] at hl;cases hl),fun t _ ht=>getD_in (by simpa using ht) (getD_replicate_false _ _)⟩
 refine wp_region_any hm (Li ho hpos h1.1 h1.2 h2 h2' ?_ _ _ a _ inv0 (by simpa [Ek] using h));intro i o' ho' e he;have hi:i<l.length:=by
  have:=(Array.getElem?_eq_some_iff.1 ho').1;simpa using this
 have:=List.all_eq_true.1 h3 i (List.mem_range.2 hi);simp only[F7] at ho';rw[ho'] at this;have h4:=Array.all_eq_true'.1 this e he;simpa using h4
theorem CO{id:Nat}{Q:Exit→Act→World→Prop}{a:Act}{l:List Oper}(S:World→Prop)(o:Oper)(hm:P.follows .mixedOrders=true)(ho:l[l.length-1]? =some o)(hB:Tj .any l=true)
 (hS:S w.drew) (h:S w.drew→wpAnyH P .any (BD l).toArray (OZ P l o Q) S l.length (Array.replicate l.length false) a w.drew):(Code.region id l.toArray true).wp P Q a w:=
 Lh o hm ho hB (wpAny_of_held _ _ _ _ (by simpa [Ek] using h hS))
end
end Go.Bs
namespace Go.Proofs.YtfddhafbhceoaaaGreat
open Go.RowKit Go.Bs Go.Maps
variable{B b l:List UInt8}{L base c cb cp g gs hi k mb n off p sc sz:Nat}{F S:Nat → Prop}{a ab ap sa:Option Addr}{t:TypeId}{v v0 v1 v2:Value}{w w':World}
def IU:Rp Tok:=rBy (fun t=>(t.lit,t.off,t.len)) (Hd Ag (Hd (Js .i64) (Js .i64)))
def OG:Rp (List Tok):=rSl 3 IU
theorem J8{n:Int}(h: -9223372036854775808≤n∧n≤9223372036854775807):(Lit.int .i64 n).wf=true:=by
 simp[Lit.wf,IntKind.min,IntKind.max,IntKind.signed,IntKind.bits];omega
theorem SR{x:Tok}(h:Ag.r S w [v] x.lit)(h1: -9223372036854775808≤x.off∧x.off≤9223372036854775807)(h2: -9223372036854775808≤x.len∧x.len≤9223372036854775807):IU.r S w [v,.int .i64 x.off,.int .i64 x.len] x:=
 ⟨[_],[_,_],rfl,h,[_],[_],rfl,⟨rfl,J8 h1⟩,rfl,J8 h2⟩
theorem Ri:(Tryz.prog.info? 304).map (fun i=>(i.zero,i.size,i.bytes))=some (some (.agg #[.slice none 0 0,.int .i64 0,.int .i64 0]),3,40):=zJ
theorem K1{α:Type}{A:Rp α}{xs:List α}{b:Nat}(h:(rSl sz A).r S w [.slice (some ⟨b,off,none⟩) n c] xs)(hk:k≤xs.length):(rSl sz A).r S w [.slice (some ⟨b,off+k*sz,none⟩) (n-k) (c-k)] (xs.drop k):=by
 obtain⟨a',c',e,h1,h2,h3⟩:=h;simp at e;obtain⟨rfl,rfl,rfl⟩:=e;refine BL (a:=some ⟨b,off+k*sz,none⟩) (c:=c-k) zQ zI zD ?_;rcases h3 with rfl | ⟨b',off',e',hS,hr⟩
 ·exact .inl zQ
 ·simp at e'
  obtain⟨rfl,rfl⟩:=e';refine .inr ⟨b,off+k*sz,rfl,hS,fun i x hi=> ?_⟩;rw[List.getElem?_drop] at hi;obtain⟨cs,h4,h5,h6⟩:=hr (k+i) x hi;refine⟨cs,h4,fun j v hj=> ?_,h6⟩;have:=h5 j v hj;rw[show off+k*sz+i*sz+j=off+(k+i)*sz+j by rw[Nat.add_mul];omega];exact this
def Of(w:World)(bo lo:Nat)(F:Nat→Prop)(v:Value)(L':List Tok)(r:Ending)(w':World):Prop:=r=.returned (.tuple #[])∧
 ∃av' cv' cells',Blk w' bo 337 #[.slice av' L'.length cv']∧AY (fun q=>F q∨(w.heap.size≤q∧q<w'.heap.size)) IU lo 304 3 w' (.slice av' L'.length cv') L' cells'∧Tch (fun q=>q=bo∨v.ownBlock=some q) w w'∧((Value.slice av' L'.length cv').ownBlock=v.ownBlock∨∃q,(Value.slice av' L'.length cv').ownBlock=some q∧w.heap.size≤q)
theorem MR(w:World){bf bo bb lo:Nat}{F:Nat→Prop}{b:List UInt8}{a:Option Addr}{c i to:Nat}{av:Option Addr}{cv:Nat}{L:List Tok}{cells:List (List Value)}
 (hf:Blk w bf 3 #[.int .i64 (i:Int)]) (ho:Blk w bo 337 #[.slice av L.length cv]) (hb:Blk w bb 22 #[.slice a b.length c]) (hl:Ag.r (fun q=>q<w.heap.size) w [.slice a b.length c] b)
 (hown:AY F IU lo 304 3 w (.slice av L.length cv) L cells) (hF:∀q,F q→q<w.heap.size) (hFo:¬F bo) (hoo:(Value.slice av L.length cv).ownBlock≠some bo)
 (hne:bo≠bf∧bo≠bb∧(Value.slice av L.length cv).ownBlock≠some bf∧(Value.slice av L.length cv).ownBlock≠some bb) (hto:to≤b.length) (hlen:b.length≤1048576) (hL:L.length≤2097152) (hlo:lo≤w.heap.size):
  Calls Tryz.prog 372 #[.int .i64 (to:Int),.pointer (some ⟨bf,0,none⟩),.pointer (some ⟨bo,0,none⟩),.pointer (some ⟨bb,0,none⟩)] w (Of w bo lo F (.slice av L.length cv) (L++Fm b i to)):=by
 have f0:w.cell? ⟨bf,0,none⟩=some (.int .i64 (i:Int)):=hf.cell 0;by_cases hit:i<to
 ·have hlit:Fm b i to=[⟨(b.drop i).take (to-i),0,0⟩]:=by unfold Fm;rw[Ai hit]
  obtain⟨ga,oa,hA,hga,_⟩:=BJ hl (i:=i) zD;subst hA;obtain⟨_,_,hlc,hcm⟩:=AH hl;obtain⟨i0,hi0,hz0,hz1,hz2⟩:=A1 Eu;obtain⟨j0,hj0,hy0,hy1,hy2⟩:=A1 Ri;have o0:w.cell? ⟨bo,0,none⟩=some (.slice av L.length cv):=ho.cell 0;have b0:w.cell? ⟨bb,0,none⟩=some (.slice (some ⟨ga,oa,none⟩) b.length c):=hb.cell 0;have of:=ho.free 0;have lf:=hf.lt;have lo':=ho.lt;have lb:=hb.lt;have hsub:Hid (Ag.r (fun q=>q<w.heap.size) w [.slice (some ⟨ga,oa+i,none⟩) (to-i) (c-i)] ((b.drop i).take (to-i))):=hid (by
   have h1:=K1 hl (k:=i) zD;rw[DG] at h1;exact Ie h1 zI)
  have hsl':((b.drop i).take (to-i)).length=to-i:=zI;generalize hD:(b.drop i).take (to-i)=D at*;clear hD;have HLIT:=hid hlit;have HSL:=hid hsl';have hds:Hid (to-i=D.length):=hid hsl'.symm;have HS:=hid (fun (W:World) (hW:Below w.heap.size w W)=>BH (l:=D) (lift (w:=w) (A:=Ag) (by have:=hsub.out;rw[hds.out] at this;exact this) hW));have HONE:=hid (A7 D);have hsl:∀w':World,(Instr.slice 22 (.slice (some ⟨ga,oa,none⟩) b.length c) (some (.int .i64 (i:Int))) (some (.int .i64 (to:Int))) none).run Tryz.prog w'=.ok (.slice (some ⟨ga,oa+i,none⟩) D.length (c-i)) w':=fun w'=>by
   rw[←hds.out];have g1:(0:Int)≤(i:Int):=zD;have g2:(i:Int)≤(to:Int):=zD;have g3:(to:Int)≤(c:Int):=zD;have g4:¬c=i:=zD;go_simp
  have HF:=hid hF;have HFO:=hid hFo;have HOO:=hid hoo;have HOWN:=hid hown;have HHO:=hid ho;have lenD:D.length≤1048576:=zD;have g1:(0:Int)≤(i:Int):=zD;have g2:(i:Int)≤(to:Int):=zD;have g3:(to:Int)≤(c:Int):=zD;have g4:(to:Int)≤(b.length:Int):=zD;have d1:decide ((i:Int)<(to:Int))=true:=zI;have d1':decide (i<to)=true:=zI;obtain⟨ne1,ne2,ne3,ne4⟩:=hne;clear hF hFo hoo hown ho hb hl hf hlit hsl' hsub hds;go_enter Tryz.func372,Tryz.ntmps372;go_wp2_with fail;refine CO (fun w'=>w'.cell? ⟨bf,0,none⟩=some (.int .i64 (i:Int))∧w'.cell? ⟨bo,0,none⟩=some (.slice av L.length cv)∧w'.cell? ⟨bb,0,none⟩=some (.slice (some ⟨ga,oa,none⟩) b.length c)) _ zJ rfl zJ ⟨f0,o0,b0⟩ (fun hHeld=> ?_);simp only[BD,FN];refine Av (i:=0) (oi:=_) (v:=?_) rfl zF zF zF (fun _ _ _ h=>h) (Or.inl ⟨zU,?_⟩) zM ?_;rotate_left
  ·(intro w hSw;(try dsimp only at hSw);go_simp<;>with_reducible rfl)
  (try simp only[Act.put,Aa,Ab,Ac])
  refine Av (i:=2) (oi:=_) (v:=?_) rfl zF zF zF (fun _ _ _ h=>h) (Or.inl ⟨zU,?_⟩) zM ?_;rotate_left
  ·(intro w hSw;(try dsimp only at hSw);go_simp<;>with_reducible rfl)
  (try simp only[Act.put,Aa,Ab,Ac])
  refine Av (i:=3) (oi:=_) (v:=?_) rfl zF zF zF (fun _ _ _ h=>h) (Or.inl ⟨zU,?_⟩) zM ?_;rotate_left
  ·(intro w hSw;(try dsimp only at hSw);go_simp<;>with_reducible rfl)
  (try simp only[Act.put,Aa,Ab,Ac])
  refine Av (i:=4) (oi:=_) (v:=?_) rfl zF zF zF (fun _ _ _ h=>h) (Or.inl ⟨zU,?_⟩) zM ?_;rotate_left
  ·(intro w hSw;(try dsimp only at hSw);go_simp<;>with_reducible rfl)
  (try simp only[Act.put,Aa,Ab,Ac])
  refine Av (i:=5) (oi:=_) (v:=?_) rfl zF zF zF (fun _ _ _ h=>h) (Or.inl ⟨zU,?_⟩) zM ?_;rotate_left
  ·(intro w hSw;(try dsimp only at hSw);go_simp<;>with_reducible rfl)
  (try simp only[Act.put,Aa,Ab,Ac])
  refine Bq (rs:=[1]) zF zQ ?_;refine Bb (o:=_) rfl (fun K hK=> ?_) AllReadyH.nil;go_simp
  refine hK.out _ _ ?_ (fun hHeld=> ?_)
  ·((try dsimp only);refine⟨?_,?_,?_⟩<;>(first | assumption | (go_keep;done)))
  clear hK K
  (try simp only[Act.put,Aa,Ab,Ac])
  refine Bq (rs:=[6]) zF zQ ?_;refine Bb (o:=_) rfl (fun K hK=> ?_) AllReadyH.nil
  (refine CJ zU _ _ _ zU w.heap.size 5 i0 (.int .u8 0) 1 1 AG hi0 hz0 hz1 hz2 rfl zO _ 0 [] zU (D4 _ zQ zU) (some ⟨ga,oa+i,none⟩) D.length (c-i) (byteCells D) zU (HS.out _ zB) HONE.out zN zD zQ ?_;intro a5 c5 w5 hown5 hgrow5 hat5;rw[Bj] at hown5;have k5:Below w.heap.size w w5:=Below.grown zB hgrow5 zQ (fun g e=>ZO);have e0:=(k5.cell (p:=⟨bf,0,none⟩) lf).trans f0;have e1:=(k5.cell (p:=⟨bo,0,none⟩) lo').trans o0;have e2:=(k5.cell (p:=⟨bb,0,none⟩) lb).trans b0;have HK5:=hid k5;have HG5:=hid hgrow5;have HO5:=hid hown5;have HA5:=hid hat5;have hs5:w.heap.size+1≤w5.heap.size:=(by have:=hgrow5.size;simpa using this);clear hown5 hgrow5 hat5 k5)
  refine hK.out _ _ ?_ (fun hHeld=> ?_)
  ·((try dsimp only);refine⟨?_,?_,?_⟩<;>(first | assumption | (go_keep;done)))
  clear hK K
  (try simp only[Act.put,Aa,Ab,Ac])
  refine Av (i:=7) (oi:=_) (v:=?_) rfl zF zF zF (fun _ _ _ h=>h) (Or.inl ⟨zU,?_⟩) zM ?_;rotate_left
  ·(intro w hSw;(try dsimp only at hSw);go_simp<;>with_reducible rfl)
  (try simp only[Act.put,Aa,Ab,Ac])
  refine Bq (rs:=[8]) zF zQ ?_;refine Bb (o:=_) rfl (fun K hK=> ?_) AllReadyH.nil;go_simp
  refine hK.out _ _ ?_ (fun hHeld=> ?_)
  ·((try dsimp only);refine⟨?_,?_,?_⟩<;>(first | assumption | (go_keep;done)))
  clear hK K
  (try simp only[Act.put,Aa,Ab,Ac])
  refine Bq (rs:=[9]) zF zQ ?_;refine Bb (o:=_) rfl (fun K hK=> ?_) AllReadyH.nil
  (refine CJ zU _ _ _ zU lo 304 j0 (.agg #[.slice none 0 0,.int .i64 0,.int .i64 0]) 3 40 Tryz.underlying337 hj0 hy0 hy1 hy2 rfl zO (.slice av L.length cv) L.length cells.flatten zU (Bp (Bp HOWN.out.1 HK5.out) zB) (some ⟨w5.heap.size,0,none⟩) 1 1 [.slice a5 D.length c5,.int .i64 0,.int .i64 0] zU (BS w5 304 _ zU zU rfl) (by intro u hu;simp at hu;rcases hu with rfl | rfl | rfl<;>rfl) zN zD zI ?_;intro a8 c8 w8 hown8 hgrow8 hat8;have G:=fun b' (hb:b'<w.heap.size) (hne:(Value.slice av L.length cv).ownBlock≠some b')=>(hgrow8.block b' zI (fun e=>hne e.symm)).trans ((AP w5 _ b' zD).trans (HK5.out.block b' hb));have m1:=(AQ (a:=⟨bo,0,none⟩) (G bo lo' HOO.out)).trans o0;have m2:=(BE (a:=⟨bo,0,none⟩) (G bo lo' HOO.out)).trans of;have m4:=(AQ (a:=⟨bf,0,none⟩) (G bf lf ne3)).trans f0;have m5:=(AQ (a:=⟨bb,0,none⟩) (G bb lb ne4)).trans b0;have m3:bo<w8.heap.size:=Ao lo' (A6 zI hgrow8.size);have HG8:=hid hgrow8;have HO8:=hid hown8;have HA8:=hid hat8;have HGG:=hid G;clear hgrow8 hown8 hat8 G)
  refine hK.out _ _ ?_ (fun hHeld=> ?_)
  ·((try dsimp only);refine⟨?_,?_,?_⟩<;>(first | assumption | (go_keep;done)))
  clear hK K
  (try simp only[Act.put,Aa,Ab,Ac])
  refine Av (i:=10) (oi:=_) (v:=?_) rfl zF zF zF (fun _ _ _ h=>h) (Or.inl ⟨zU,?_⟩) zM ?_;rotate_left
  ·(intro w hSw;(try dsimp only at hSw);go_simp<;>with_reducible rfl)
  (try simp only[Act.put,Aa,Ab,Ac])
  refine GC zJ ?_ _;show wpList _ _ _ _ _ _
  have hA:=Cg rfl HO5.out;have keepA:∀q,q<w5.heap.size→(w5.alloc (.cells #[.slice a5 D.length c5,.int .i64 0,.int .i64 0] 304)).heap[q]? =w5.heap[q]? :=fun q hq=>AP w5 _ q hq;have OF2:=(HOWN.out.keep (w':=w5.alloc (.cells #[.slice a5 D.length c5,.int .i64 0,.int .i64 0] 304)) (fun q hq=>(keepA q (by have:=HF.out q hq;omega)).trans (HK5.out.block q (HF.out q hq))) (fun q hq=>by
   have h1:=(HOWN.out.1.lt q hq).2;exact (keepA q zD).trans (HK5.out.block q h1))).mono (F':=fun q=>F q∨(w.heap.size≤q∧q<w5.heap.size)) (fun q h=> .inl h)
  have hx:IU.r (fun q=>(F q∨(w.heap.size≤q∧q<w5.heap.size))∧(Value.slice av L.length cv).ownBlock≠some q) (w5.alloc (.cells #[.slice a5 D.length c5,.int .i64 0,.int .i64 0] 304)) [.slice a5 D.length c5,.int .i64 0,.int .i64 0] ⟨D,0,0⟩:=
   SR (x:=⟨D,0,0⟩) (Ag.mono (Ag.keep hA fun q hq=>keepA q hq.2) fun q hq=>⟨.inr hq,fun e=>by have:=(HOWN.out.1.lt q e).2;omega⟩) zQ zQ
  have OPU:=AY.push OF2 (fun q hq=>hq.elim (fun h=>by have:=HF.out q h;simp;omega) fun h=>zI) rfl hx HO8.out HG8.out HA8.out;have hs8:=HG8.out.size;have hoo':(Value.slice a8 (L.length+1) c8).ownBlock≠some bo:=fun e=>by
   rcases HA8.out with h | h
   ·rw[h] at e;exact HOO.out e
   ·rw[h] at e;simp at e;omega
  have hsz:(w8.setCell ⟨bo,0,none⟩ (.slice a8 (L.length+1) c8)).heap.size=w8.heap.size:=zY;have OP9:=(OPU.keep (w':=w8.setCell ⟨bo,0,none⟩ (.slice a8 (L.length+1) c8)) (fun q hq=>Aw _ _ _ _ (fun e=>by
   subst e;rcases hq with h | h
   ·exact HFO.out h
   ·omega)) (fun q hq=>Aw _ _ _ _ (fun e=>hoo' (by rw[hq];exact Bc some e)))).mono (F':=fun q=>F q∨(w.heap.size≤q∧q<(w8.setCell ⟨bo,0,none⟩ (.slice a8 (L.length+1) c8)).heap.size)) (fun q hq=>by
    rw[hsz];rcases hq with h | h
    ·exact .inl h
    ·simp at hs8;exact .inr ⟨h.1,zD⟩)
  have hB8:Blk w8 bo 337 #[.slice av L.length cv]:=(HGG.out bo lo' HOO.out).trans HHO.out;have htch:Tch (fun q=>q=bo∨(Value.slice av L.length cv).ownBlock=some q) w (w8.setCell ⟨bo,0,none⟩ (.slice a8 (L.length+1) c8)):=
   Tch.setCell ⟨HG8.out.os.trans HK5.out.os,HG8.out.tape.trans HK5.out.tape,HG8.out.output.trans HK5.out.output,by simp at hs8;omega,fun q hq hf=>HGG.out q hq (fun e=>hf (.inr e))⟩ (fun _=> .inl rfl) _
  have hst:Of w bo lo F (.slice av L.length cv) (L++Fm b i to) (.returned (.tuple #[])) (w8.setCell ⟨bo,0,none⟩ (.slice a8 (L.length+1) c8)):=by
   rw[HLIT.out];have hll:(L++[(⟨D,0,0⟩:Tok)]).length=L.length+1:=zQ;refine⟨rfl,a8,c8,cells++[[.slice a5 D.length c5,.int .i64 0,.int .i64 0]],?_,?_,htch,?_⟩
   ·rw[hll];exact hB8.set 0 _
   ·rw[hll];exact OP9
   ·rw[hll]
    rcases HA8.out with h | h
    ·exact .inl h
    ·exact .inr ⟨_,h,zI⟩
  have HST:=hid hst;clear hst htch OP9 OPU OF2 hx keepA hA hoo' hsz hB8;go_wp2_with fail;refine An (AO rfl _ _ _) rfl ?_;exact HST.out
 ·have hlit:Fm b i to=[]:=by unfold Fm;rw[Ah hit]
  have d1:decide ((i:Int)<(to:Int))=false:=zI;have d1':decide (i<to)=false:=zI;have hst:Of w bo lo F (.slice av L.length cv) (L++Fm b i to) (.returned (.tuple #[])) w:=by
   rw[hlit,Io];exact⟨rfl,av,cv,cells,ho,hown.mono fun q h=> .inl h,Tch.refl _ _,.inl rfl⟩
  have HST:=hid hst;clear hst hlit hown ho hb hl hf hit;go_enter Tryz.func372,Tryz.ntmps372;go_wp2;refine An (AO rfl _ _ _) rfl ?_;exact HST.out
structure Rs where
 p:Nat
 k:Int
 f:Int
def Rs.fail(s:Rs)(c at_:Int):Rs:=if s.k=0 then ⟨s.p,c,at_⟩ else s
def Rs.skip(L:Nat)(s:Rs)(n:Int):Bool × Rs:=
 if s.k=0 then (if n<0 then (false,⟨s.p,17,s.p⟩) else if (L:Int)-s.p<n then (false,⟨s.p,1,L⟩) else (true,⟨s.p+n.toNat,0,0⟩)) else (false,s)
def Rs.take(B:List UInt8)(s:Rs)(n:Int):Rs × List UInt8:=((s.skip B.length n).2,if (s.skip B.length n).1 then (B.drop s.p).take n.toNat else [])
def Rs.byte(B:List UInt8)(s:Rs):Rs × UInt8:=((s.skip B.length 1).2,if (s.skip B.length 1).1 then B.getD s.p 0 else 0)
structure Rs.ok(s:Rs)(L:Nat):Prop where
 le:s.p≤L
 zero:s.k=0→s.f=0
theorem Rs.Ce{s:Rs}(h:s.ok L){c at_:Int}(hc:c≠0):(s.fail c at_).ok L:=by
 unfold Rs.fail;split
 ·exact⟨h.le,fun e=>absurd e hc⟩
 ·exact h
theorem Rs.Rc{s:Rs}(h:s.ok L)(n:Int):(s.skip L n).2.ok L:=by
 have:=h.le;unfold Rs.skip;split
 ·split
  ·exact⟨h.le,fun e=>by simp at e⟩
  ·split
   ·exact⟨h.le,fun e=>by simp at e⟩
   ·exact⟨zH,fun _=>rfl⟩
 ·exact h
theorem Rs.S0{s:Rs}(h:s.ok L)(n:Int):s.p≤(s.skip L n).2.p:=by
 unfold Rs.skip;split
 ·split
  ·exact Ap _
  ·split
   ·exact Ap _
   ·dsimp only;omega
 ·exact Ap _
theorem Rs.EU{s:Rs}(h:s.ok B.length)(n:Int):(s.take B n).1.ok B.length:=s.Rc h n
theorem Rs.Fp{s:Rs}(h:s.ok B.length):(s.byte B).1.ok B.length:=s.Rc h 1
structure AN(w:World)(g:Nat)(B:List UInt8)(a:Option Addr)(s:Rs):Prop where
 blk:Blk w g 222 #[.slice a B.length B.length,.int .i64 (s.p:Int),.int .i64 s.k,.int .i64 s.f]
 dat:Ag.r (fun q=>q<w.heap.size∧q≠g) w [.slice a B.length B.length] B
 ok:s.ok B.length
def Ay(w:World)(g:Nat)(B:List UInt8)(a:Option Addr)(s':Rs)(w':World):Prop:=AN w' g B a s'∧Tch (·=g) w w'
section
variable {w w1 w2:World} {g:Nat} {B:List UInt8} {a:Option Addr} {s s':Rs}
theorem AN.later(h:AN w g B a s)(hb:Below w.heap.size w w1):AN w1 g B a s:=
 ⟨h.blk.later hb,Ag.mono (Ag.keep h.dat fun q hq=>hb.block q hq.1) fun q hq=>⟨Ao hq.1 hb.size,hq.2⟩,h.ok⟩
theorem AN.len(h:AN w g B a s):B.length≤9223372036854775807:=(AH h.dat).2.1
theorem Ay.later(h:AN w g B a s)(hb:Below w.heap.size w w1):Ay w g B a s w1:=⟨h.later hb,Tch.Bz hb⟩
theorem Ay.refl(h:AN w g B a s):Ay w g B a s w:=⟨h,Tch.refl _ _⟩
theorem Ay.trans(h:Tch (·=g) w w1)(k:Ay w1 g B a s' w2):Ay w g B a s' w2:=⟨k.1,h.trans k.2 fun _ _ h=>h⟩
theorem Ay.then(h:Ay w g B a s w1)(hb:Below w1.heap.size w1 w2):Ay w g B a s w2:=⟨h.1.later hb,h.2.trans (Tch.Bz (F:=(·=g)) hb) fun _ _ h=>h⟩
theorem Ay.size(h:Ay w g B a s w1):w.heap.size≤w1.heap.size:=h.2.size
theorem Ay.below{b:Nat}(h:Ay w g B a s w1)(hb:b≤w.heap.size)(hg:b≤g):Below b w w1:=h.2.Cq hb fun q _ e=>e ▸ hg
end
theorem Bl{m:Nat}(hl:l=[])(hm:m=0)(hc:c≤9223372036854775807):Ag.r S w [.slice a m c] l:=by
 subst hl hm;exact BL (xs:=[]) rfl (At _) hc (.inl rfl)
theorem Kg(h:Ag.r S w [.slice a B.length c] B){lo:Nat}(h1:lo≤hi)(h2:hi≤B.length):
  ∃A' c',(∀w':World,(Instr.slice 22 (.slice a B.length c) (some (.int .i64 (lo:Int))) (some (.int .i64 (hi:Int))) none).run Tryz.prog w'=.ok (.slice A' (hi-lo) c') w')∧Ag.r S w [.slice A' (hi-lo) c'] ((B.drop lo).take (hi-lo)):=by
 obtain⟨_,hm,hc,hcm⟩:=AH h;have g1:(0:Int)≤(lo:Int):=zD;have g2:(lo:Int)≤(hi:Int):=zD;have g3:(hi:Int)≤(c:Int):=zD;rcases Be lo hi with hlt | hge
 ·obtain⟨ga,oa,hA,hga,_⟩:=BJ h (i:=lo) zD
  subst hA;have hd:=K1 h (k:=lo) zD;rw[DG] at hd;have hsub:=Ie hd (k:=hi-lo) zI;refine⟨some ⟨ga,oa+lo,none⟩,c-lo,fun w'=> ?_,hsub⟩;have g4:¬c=lo:=zD;clear h hd hsub;go_simp
 ·obtain rfl:lo=hi:=by omega
  by_cases g4:c=lo
  ·refine⟨a,c-lo,fun w'=> ?_,Bl zQ zD zD⟩
   clear h;subst g4;go_simp
  ·refine⟨a.map (·.add (lo*1)),c-lo,fun w'=> ?_,Bl zQ zD zD⟩
   clear h;go_simp
theorem N8(h:Ag.r S w [.slice a B.length c] B){lo:Nat}(h1:lo≤B.length):
  ∃A' c',(∀w':World,(Instr.slice 22 (.slice a B.length c) (some (.int .i64 (lo:Int))) none none).run Tryz.prog w'=.ok (.slice A' (B.length-lo) c') w')∧Ag.r S w [.slice A' (B.length-lo) c'] (B.drop lo):=by
 obtain⟨_,hm,hc,hcm⟩:=AH h;have g1:(0:Int)≤(lo:Int):=zD;have g2:(lo:Int)≤(B.length:Int):=zD;rcases Be lo B.length with hlt | hge
 ·obtain⟨ga,oa,hA,hga,_⟩:=BJ h (i:=lo) zD
  subst hA;have hd:=K1 h (k:=lo) zD;rw[DG] at hd;refine⟨some ⟨ga,oa+lo,none⟩,c-lo,fun w'=> ?_,hd⟩;have g4:¬c=lo:=zD;clear h hd;go_simp
 ·obtain rfl:lo=B.length:=by omega
  by_cases g4:c=B.length
  ·refine⟨a,c-B.length,fun w'=> ?_,Bl zQ zD zD⟩
   clear h;subst g4;go_simp
  ·refine⟨a.map (·.add (B.length*1)),c-B.length,fun w'=> ?_,Bl zQ zD zD⟩
   clear h;go_simp
theorem Di(w:World)(k f:Int):Calls Tryz.prog 65 #[.agg #[.int .i64 k,.int .i64 f]] w fun r w'=>r=.returned (.bool (decide (k=0)))∧Below w.heap.size w w':=by
 go_enter Tryz.func65,Tryz.ntmps65;go_wp2;go_ret;exact⟨zAf,zB⟩
theorem L6(w:World)(k f:Int)(hk:k≠0):Calls Tryz.prog 154 #[.int .i64 k,.int .i64 f] w fun r w'=>r=.returned (.agg #[.int .i64 k,.int .i64 f])∧Below w.heap.size w w':=by
 have d1:(k==(0:Int))=false:=zA0;go_enter Tryz.func154,Tryz.ntmps154;go_wp2;refine An (v:=.agg #[.int .i64 k,.int .i64 f]) (by simp[results,Tryz.results154,go_sem]) rfl ⟨rfl,zB⟩
theorem NF(w:World)(B:List UInt8)(a:Option Addr)(n c:Nat)(hl:Ag.r (·<w.heap.size) w [.slice a n c] B):
  Calls Tryz.prog 109 #[.slice a n c] w fun r w'=>r=.returned (.pointer (some ⟨w.heap.size,0,none⟩))∧AN w' w.heap.size B a ⟨0,0,0⟩∧Below w.heap.size w w':=by
 obtain⟨rfl,hm,hc,hcm⟩:=AH hl;have hD:Ag.r (fun q=>q<w.heap.size) w [.slice a B.length B.length] B:=by
  obtain⟨a',c',e,h1,h2,h3⟩:=hl;simp at e;obtain⟨rfl,rfl⟩:=e;exact BL rfl (Ap _) (by simp[maxLen];omega) h3
 have HD:=hid hD;have g1:(B.length:Int)≤(c:Int):=zD;clear hl hD;go_enter Tryz.func109,Tryz.ntmps109;go_wp2;go_ret;refine⟨rfl,⟨zC,?_,⟨At _,fun _=>rfl⟩⟩,zB⟩;exact Ag.mono (Ag.keep HD.out fun q hq=>AP _ _ q hq) fun q hq=>⟨zI,zD⟩
theorem AK(w:World){g:Nat}{B:List UInt8}{a:Option Addr}{s:Rs}(h:AN w g B a s):Calls Tryz.prog 112 #[.pointer (some ⟨g,0,none⟩)] w fun r w'=>r=.returned (.bool (decide (s.k=0)))∧Below w.heap.size w w':=by
 have c2:w.cell? ⟨g,2,none⟩=some (.int .i64 s.k):=h.blk.cell 2;have c3:w.cell? ⟨g,3,none⟩=some (.int .i64 s.f):=h.blk.cell 3;clear h;go_enter Tryz.func112,Tryz.ntmps112;go_wp2_with fail;refine (Di w s.k s.f).mono ?_;rintro r w1 ⟨rfl,hb⟩;go_wp2;go_ret;exact⟨rfl,hb⟩
theorem Bd(w:World){g:Nat}{B:List UInt8}{a:Option Addr}{s:Rs}(h:AN w g B a s)(k f:Int)(hk:k≠0):Calls Tryz.prog 124 #[.pointer (some ⟨g,0,none⟩),.int .i64 k,.int .i64 f] w fun r w'=>r=.returned (.tuple #[])∧Ay w g B a (s.fail k f) w':=by
 have HG:=hid (AK w h);have HH:=hid h;by_cases h0:s.k=0
 ·have e:s.fail k f=⟨s.p,k,f⟩:=by unfold Rs.fail;rw[Ai h0]
  have hr:decide (s.k=0)=true:=Ad h0;rw[hr] at HG;rw[e];clear h h0 hr e;go_enter Tryz.func124,Tryz.ntmps124;go_wp2_with fail;refine HG.out.mono ?_;rintro r w1 ⟨rfl,hb⟩;go_wp2_with fail;refine (L6 w1 k f hk).mono ?_;rintro r w2 ⟨rfl,hb2⟩;have hb12:=Af hb2 hb;have h2:=HH.out.later hb12;have f2:=h2.blk.free 2;have f3:=h2.blk.free 3;have c2:=h2.blk.cell 2;have c3:=h2.blk.cell 3;have lt:=h2.blk.lt;simp at c2 c3;have H2:=hid h2;have hst:Ay w2 g B a ⟨s.p,k,f⟩ ((w2.setCell ⟨g,2,none⟩ (.int .i64 k)).setCell ⟨g,3,none⟩ (.int .i64 f)):=by
   refine⟨⟨(h2.blk.set 2 _).set 3 _,?_,h2.ok.le,fun e=>absurd e hk⟩,Tch.setCell (F:=(·=g)) (Tch.setCell (F:=(·=g)) (Tch.refl _ _) (fun _=>rfl) _) (fun _=>rfl) _⟩;refine Ag.mono (Ag.keep h2.dat fun q hq=> ?_) fun q hq=>⟨by simp[World.setCell];exact hq.1,hq.2⟩;rw[Aw _ _ _ _ (fun e=>hq.2 e),Aw _ _ _ _ (fun e=>hq.2 e)]
  have HST:=hid (Ay.trans (Tch.Bz (F:=(·=g)) hb12) hst);clear h2 hst;go_wp2;go_end0
  exact⟨rfl,HST.out⟩
 ·have e:s.fail k f=s:=by unfold Rs.fail;rw[Ah h0]
  have hr:decide (s.k=0)=false:=Ae h0;rw[hr] at HG;rw[e];clear h h0 hr e;go_enter Tryz.func124,Tryz.ntmps124;go_wp2_with fail;refine HG.out.mono ?_;rintro r w1 ⟨rfl,hb⟩;go_wp2;go_end0
  exact⟨rfl,Ay.later HH.out hb⟩
theorem FK(w:World){s:Rs}(h:AN w g B a s):Calls Tryz.prog 114 #[.pointer (some ⟨g,0,none⟩)] w fun r w'=>r=.returned (.agg #[.int .i64 s.k,.int .i64 s.f])∧Below w.heap.size w w':=by
 have c2:w.cell? ⟨g,2,none⟩=some (.int .i64 s.k):=h.blk.cell 2;have c3:w.cell? ⟨g,3,none⟩=some (.int .i64 s.f):=h.blk.cell 3;have lt:=h.blk.lt;clear h;go_enter Tryz.func114,Tryz.ntmps114;go_wp2;refine An (v:=.agg #[.int .i64 s.k,.int .i64 s.f]) (by simp[results,Tryz.results114,go_sem]) rfl ⟨rfl,zB⟩
theorem BI(w:World){s:Rs}(h:AN w g B a s):Calls Tryz.prog 173 #[.pointer (some ⟨g,0,none⟩)] w fun r w'=>r=.returned (.int .i64 (s.p:Int))∧w=w':=by
 have c1:w.cell? ⟨g,1,none⟩=some (.int .i64 (s.p:Int)):=h.blk.cell 1;clear h;go_enter Tryz.func173,Tryz.ntmps173;go_wp2;go_ret;exact⟨rfl,rfl⟩
theorem K8(w:World){B:List UInt8}{s:Rs}(h:AN w g B a s):Calls Tryz.prog 267 #[.pointer (some ⟨g,0,none⟩)] w fun r w'=>r=.returned (.int .i64 ((B.length:Int)-(s.p:Int)))∧Below w.heap.size w w':=by
 have C0:=fun s:AE w=>s.cell (h.blk.cell 0);have C1:=fun s:AE w=>s.cell (h.blk.cell 1);simp at C0 C1;have hle:=h.ok.le;have hle2:=h.len;clear h;go_enter Tryz.func267,Tryz.ntmps267;go_wp2_with fail;refine Ax zJ zJ ?_;repeat (go_big_quiet_step (fail))
 refine AI ?_;rintro W5 ⟨⟨W5',hb5⟩,rfl⟩;go_wp2;go_ret;exact⟨zAf,hb5⟩
theorem Re(w:World){g:Nat}{B:List UInt8}{a:Option Addr}{s:Rs}(h:AN w g B a s)(n:Int)(hn:n≤9223372036854775807):Calls Tryz.prog 262 #[.pointer (some ⟨g,0,none⟩),.int .i64 n] w fun r w'=>r=.returned (.bool (s.skip B.length n).1)∧Ay w g B a (s.skip B.length n).2 w':=by
 have HG:=hid (AK w h);have HH:=hid h;have hle:=h.ok.le;have hle2:=h.len;by_cases h0:s.k=0
 ·have hr:decide (s.k=0)=true:=Ad h0
  rw[hr] at HG;by_cases h1:n<0
  ·have e:s.skip B.length n=(false,⟨s.p,17,s.p⟩):=by unfold Rs.skip;rw[Ai h0,Ai h1]
   have ef:s.fail 17 s.p=⟨s.p,17,s.p⟩:=by unfold Rs.fail;rw[Ai h0]
   have d1:decide (n<(0:Int))=true:=Ad h1;rw[e];dsimp only;rw[←ef];clear h h0 hr e ef;go_enter Tryz.func262,Tryz.ntmps262;go_wp2_with fail;refine HG.out.mono ?_;rintro r w1 ⟨rfl,hb⟩;have hh1:=HH.out.later hb;have c1:=hh1.blk.cell 1;simp at c1;have HF:=hid (Bd w1 hh1 17 s.p zD);clear hh1;go_wp2_with fail;refine HF.out.mono ?_;rintro r w2 ⟨rfl,hst⟩;have HST:=hid (Ay.trans (Tch.Bz (F:=(·=g)) hb) hst);clear hst;go_wp2;go_ret;exact⟨rfl,HST.out⟩
  ·have d1:decide (n<(0:Int))=false:=Ae h1
   by_cases h2:(B.length:Int)-s.p<n
   ·have e:s.skip B.length n=(false,⟨s.p,1,B.length⟩):=by unfold Rs.skip;rw[Ai h0,Ah h1,Ai h2]
    have ef:s.fail 1 B.length=⟨s.p,1,B.length⟩:=by unfold Rs.fail;rw[Ai h0]
    have d2:decide ((B.length:Int)-(s.p:Int)<n)=true:=Ad h2;rw[e];dsimp only;rw[←ef];clear h h0 hr e ef;go_enter Tryz.func262,Tryz.ntmps262;go_wp2_with fail;refine HG.out.mono ?_;rintro r w1 ⟨rfl,hb⟩;have hh1:=HH.out.later hb;have HL:=hid (K8 w1 hh1);go_wp2_with fail;refine HL.out.mono ?_;rintro r w2 ⟨rfl,hb2⟩;have hb12:=Af hb2 hb;have hh2:=HH.out.later hb12;have c0:=hh2.blk.cell 0;simp at c0;have HF:=hid (Bd w2 hh2 1 B.length zD);clear hh1 hh2;go_wp2_with fail;refine HF.out.mono ?_;rintro r w3 ⟨rfl,hst⟩;have HST:=hid (Ay.trans (Tch.Bz (F:=(·=g)) hb12) hst);clear hst;go_wp2;go_ret;exact⟨rfl,HST.out⟩
   ·have e:s.skip B.length n=(true,⟨s.p+n.toNat,0,0⟩):=by unfold Rs.skip;rw[Ai h0,Ah h1,Ah h2]
    have d2:decide ((B.length:Int)-(s.p:Int)<n)=false:=Ae h2;have hz:=h.ok.zero h0;rw[e];obtain⟨m,rfl⟩:∃m:Nat,n=m:=⟨n.toNat,zD⟩;have e1:((m:Int)).toNat=m:=zD;rw[e1];have hle3:s.p+m≤B.length:=zD;have HZ:=hid hz;have H0:=hid h0;clear h h0 hr e e1 hz;go_enter Tryz.func262,Tryz.ntmps262;go_wp2_with fail;refine HG.out.mono ?_;rintro r w1 ⟨rfl,hb⟩;have hh1:=HH.out.later hb;have HL:=hid (K8 w1 hh1);go_wp2_with fail;refine HL.out.mono ?_;rintro r w2 ⟨rfl,hb2⟩;have hb12:=Af hb2 hb;have hh2:=HH.out.later hb12;have c1:=hh2.blk.cell 1;have f1:=hh2.blk.free 1;have lt:=hh2.blk.lt;simp at c1;have hst:Ay w2 g B a ⟨s.p+m,0,0⟩ (w2.setCell ⟨g,1,none⟩ (.int .i64 ((s.p:Int)+(m:Int)))):=by
     refine⟨⟨?_,?_,hle3,fun _=>rfl⟩,Tch.setCell (F:=(·=g)) (Tch.refl _ _) (fun _=>rfl) _⟩
     ·have:=hh2.blk.set 1 (.int .i64 ((s.p:Int)+(m:Int)))
      rw[H0.out,HZ.out] at this;simpa using this
     ·refine Ag.mono (Ag.keep hh2.dat fun q hq=> ?_) fun q hq=>⟨by simp[World.setCell];exact hq.1,hq.2⟩
      rw[Aw _ _ _ _ (fun e=>hq.2 e)]
    have HST:=hid (Ay.trans (Tch.Bz (F:=(·=g)) hb12) hst);clear hh1 hh2 hst;go_wp2;go_ret;exact⟨rfl,HST.out⟩
 ·have e:s.skip B.length n=(false,s):=by unfold Rs.skip;rw[Ah h0]
  have hr:decide (s.k=0)=false:=Ae h0;rw[hr] at HG;rw[e];clear h h0 hr e;go_enter Tryz.func262,Tryz.ntmps262;go_wp2_with fail;refine HG.out.mono ?_;rintro r w1 ⟨rfl,hb⟩;go_wp2;go_ret;exact⟨rfl,Ay.later HH.out hb⟩
theorem Rs.Fx{s:Rs}{n:Int}(h:(s.skip L n).1=true):s.k=0∧0≤n∧n≤(L:Int)-s.p∧(s.skip L n).2=⟨s.p+n.toNat,0,0⟩:=by
 unfold Rs.skip at*;split at h
 ·rename_i h0
  split at h
  ·simp at h
  ·split at h
   ·simp at h
   ·rename_i h1 h2
    exact⟨h0,zD,zD,by rw[Ai h0,Ah h1,Ah h2]⟩
 ·simp at h
theorem Rs.IM{s:Rs}{n:Int}(h:(s.skip L n).1=false):(s.skip L n).2.k≠0∧(s.skip L n).2.p=s.p:=by
 unfold Rs.skip at*;split at h
 ·rename_i h0
  split at h
  ·rename_i h1
   rw[Ai h0,Ai h1];simp
  ·rename_i h1
   split at h
   ·rename_i h2
    rw[Ai h0,Ah h1,Ai h2];simp
   ·simp at h
 ·rename_i h0
  rw[Ah h0];exact⟨h0,rfl⟩
theorem Jq(w:World){g:Nat}{B:List UInt8}{a:Option Addr}{s:Rs}(h:AN w g B a s):Calls Tryz.prog 195 #[.pointer (some ⟨g,0,none⟩)] w fun r w'=>r=.returned (.int .u8 ((s.byte B).2.toNat:Int))∧Ay w g B a (s.byte B).1 w':=by
 have HS:=hid (Re w h 1 zD);have hle2:=h.len;unfold Rs.byte;cases hk:(s.skip B.length 1).1
 ·rw[hk] at HS
  generalize (s.skip B.length 1).2=s1 at*;clear h hk;go_enter Tryz.func195,Tryz.ntmps195;go_wp2_with fail;refine HS.out.mono ?_;rintro r w1 ⟨rfl,hst⟩;have HST:=hid hst;clear hst;go_wp2;go_ret;exact⟨rfl,HST.out⟩
 ·obtain⟨h0,_,h2,h3⟩:=Rs.Fx hk
  rw[hk,h3] at HS;rw[h3];have hp:s.p<B.length:=zD;have hbd:B.getD s.p 0=B[s.p]:=by simp[hp]
  simp only[Fs];rw[hbd];generalize hx:B[s.p]=x;have HX:=hid hx;rw[show s.p+(1:Int).toNat=s.p+1 by omega] at*;clear h hk h0 h2 h3 hbd hx;go_enter Tryz.func195,Tryz.ntmps195;go_wp2_with fail;refine HS.out.mono ?_;rintro r w1 ⟨rfl,hst⟩;obtain⟨ga,oa,hA,hga,hc⟩:=BJ hst.1.dat hp;rw[HX.out] at hc;subst hA;have c1:=hst.1.blk.cell 1;simp at c1;have C0:=fun s:AE w1=>s.cell (hst.1.blk.cell 0);have C1:=fun s:AE w1=>s.cell c1;have CB:=fun s:AE w1=>s.cell hc;simp at C0;have HST:=hid hst;clear hst hc c1;have i1:(s.p:Int)<(B.length:Int):=zD;have i2:(0:Int)≤(s.p:Int):=zD;have hb1:(s.p:Int)≤9223372036854775807:=zD;go_wp2_with fail;have i3:wrap64 (s.p:Int)=s.p:=by simp only[wrap64];omega
  refine Ax zJ zJ ?_;repeat (go_big_quiet_step (fail))
  refine AI ?_;clear i3;rintro W5 ⟨⟨W5',hb5⟩,rfl⟩;go_wp2;go_ret;exact⟨rfl,HST.out.then hb5⟩
theorem Ih(w:World){g:Nat}{B:List UInt8}{a:Option Addr}{s:Rs}(h:AN w g B a s)(n:Int)(hn:n≤9223372036854775807)(hB:B.length≤1000000000000):Calls Tryz.prog 200 #[.pointer (some ⟨g,0,none⟩),.int .i64 n] w fun r w'=>∃v,r=.returned v∧Ag.r (fun q=>w.heap.size≤q∧q<w'.heap.size) w' [v] (s.take B n).2∧Ay w g B a (s.take B n).1 w':=by
 have HS:=hid (Re w h n hn);unfold Rs.take;cases hk:(s.skip B.length n).1
 ·rw[hk] at HS
  generalize (s.skip B.length n).2=s1 at*;clear h hk;go_enter Tryz.func200,Tryz.ntmps200;go_wp2_with fail;refine HS.out.mono ?_;rintro r w1 ⟨rfl,hst⟩;have HST:=hid hst;clear hst;go_wp2;go_ret;exact⟨_,rfl,Bl rfl rfl zD,HST.out⟩
 ·obtain⟨h0,h1,h2,h3⟩:=Rs.Fx hk
  rw[hk,h3] at HS;rw[h3];obtain⟨m,rfl⟩:∃m:Nat,n=m:=⟨n.toNat,zD⟩;rw[show ((m:Int)).toNat=m by omega] at*;obtain⟨i0,hi,hz0,hz1,hz2⟩:=A1 Eu;have hp:s.p+m≤B.length:=by have:=h.ok.le;omega
  simp only[Fs];clear h hk h0 h1 h2 h3;go_enter Tryz.func200,Tryz.ntmps200;go_wp2_with fail;refine HS.out.mono ?_;rintro r w1 ⟨rfl,hst⟩;obtain⟨aD,cD,hsl,hsub⟩:=Kg hst.1.dat (lo:=s.p) (hi:=s.p+m) zD hp;have hlD:((B.drop s.p).take (s.p+m-s.p)).length=m:=zI;rw[show s.p+m-s.p=m by omega] at hsl hsub hlD;generalize hDe:(B.drop s.p).take m=D at*;have HDE:=hid hDe;clear hDe;have hDm:m=D.length:=hlD.symm;obtain⟨P1,hP1⟩:∃P1:Nat,P1=s.p+m:=⟨_,rfl⟩;rw[←hP1,show (s.p:Int)=(P1:Int)-(m:Int) by omega] at hsl;have HSB:=hid (fun (W:World) (hW:Below w1.heap.size w1 W)=>BH (l:=D) (lift (w:=w1) (A:=Ag) (cs:=[.slice aD D.length cD]) zBs hW));have HONE:=hid (A7 D);have c1:=hst.1.blk.cell 1;have c0:=hst.1.blk.cell 0;simp at c0;rw[←hP1] at c1 hst hp;simp at c1;have lt:=hst.1.blk.lt;have HST:=hid hst;have HDM:=hid hDm;have hs1:=hst.size;have HP1:=hid hP1;have hPm:m≤P1:=zD;clear hst hsub hlD hDm hP1;have hb1:(P1:Int)≤9223372036854775807:=zD;go_wp2_with fail;have j1:IntKind.i64.wrap ((P1:Int)-(m:Int))=(P1:Int)-(m:Int):=IntWalk.i64_in _ zD;go_region_held3 (fun w'=>w'.cell? ⟨g,0,none⟩=some (.slice a B.length B.length)∧w'.cell? ⟨g,1,none⟩=some (.int .i64 (P1:Int))) (((try dsimp only);refine⟨?_,?_⟩<;>(first | assumption | (go_keep;done))))
   ((go_loud (refine CJ zU _ _ _ zU w1.heap.size 5 i0 (.int .u8 0) 1 1 AG hi hz0 hz1 hz2 rfl zO _ 0 [] zU (D4 _ zQ zU) aD m cD (byteCells D) zU zS HONE.out (by clear j1;simp only[maxLen];omega) (by clear j1;omega) zQ ?_;intro a5 c5 w5 hown5 hgrow5 hat5;rw[Bj] at hown5;have k5:Below w1.heap.size w1 w5:=Below.grown zB hgrow5 zQ (fun g e=>by {have e':some w1.heap.size=some g:=e;injection e' with e';clear j1;omega});have e0:=(k5.cell (p:=⟨g,0,none⟩) lt).trans c0;have e1:=(k5.cell (p:=⟨g,1,none⟩) lt).trans c1;have HK5:=hid k5;have HO5:=hid hown5;clear hown5 hgrow5 hat5 k5)))
  all_goals
   clear j1;have ho:=HO5.out;rw[A8] at ho;have hA:=Cg HDM.out ho;have HA:=hid hA;clear ho hA;go_wp2;go_ret;refine⟨_,rfl,?_,?_⟩
   ·rw[HDE.out]
    exact Ag.mono HA.out fun q hq=>⟨zD,hq.2⟩
   ·rw[←HP1.out]
    exact HST.out.then HK5.out
theorem S5(w:World){B:List UInt8}{s:Rs}(h:AN w g B a s)(at_:Nat)(hat:at_≤s.p)(hB:B.length≤1000000000000):Calls Tryz.prog 214 #[.pointer (some ⟨g,0,none⟩),.int .i64 (at_:Int)] w fun r w'=>∃v,r=.returned v∧Ag.r (fun q=>w.heap.size≤q∧q<w'.heap.size) w' [v] ((B.drop at_).take (s.p-at_))∧Below w.heap.size w w':=by
 obtain⟨i0,hi,hz0,hz1,hz2⟩:=A1 Eu;have hp:s.p≤B.length:=h.ok.le;obtain⟨aD,cD,hsl,hsub⟩:=Kg h.dat (lo:=at_) (hi:=s.p) hat hp;have hlD:((B.drop at_).take (s.p-at_)).length=s.p-at_:=zI;obtain⟨m,hm⟩:∃m:Nat,m=s.p-at_:=⟨_,rfl⟩;rw[←hm] at hsl hsub hlD ⊢;generalize (B.drop at_).take m=D at*;have hDm:m=D.length:=hlD.symm;have HSB:=hid (fun (W:World) (hW:Below w.heap.size w W)=>BH (l:=D) (lift (w:=w) (A:=Ag) (cs:=[.slice aD D.length cD]) zBs hW));have HONE:=hid (A7 D);have c1:=h.blk.cell 1;have c0:=h.blk.cell 0;simp at c0 c1;have lt:=h.blk.lt;have HDM:=hid hDm;generalize s.p=P1 at*;have d1:decide ((at_:Int)<0)=false:=Ae zD;have d2:decide ((P1:Int)<(at_:Int))=false:=Ae zD;have d3:decide (P1<at_)=false:=Ae zD;have hmB:m≤B.length:=zD;clear h hsub hlD hDm hm;go_enter Tryz.func214,Tryz.ntmps214;go_wp2_with fail;go_region_held3 (fun w'=>w'.cell? ⟨g,0,none⟩=some (.slice a B.length B.length)∧w'.cell? ⟨g,1,none⟩=some (.int .i64 (P1:Int))) (((try dsimp only);refine⟨?_,?_⟩<;>(first | assumption | (go_keep;done))))
  ((go_loud (refine CJ zU _ _ _ zU w.heap.size 5 i0 (.int .u8 0) 1 1 AG hi hz0 hz1 hz2 rfl zO _ 0 [] zU (D4 _ zQ zU) aD m cD (byteCells D) zU zS HONE.out zN zD zQ ?_;intro a5 c5 w5 hown5 hgrow5 hat5;rw[Bj] at hown5;have k5:Below w.heap.size w w5:=Below.grown zB hgrow5 zQ (fun g e=>ZO);have e0:=(k5.cell (p:=⟨g,0,none⟩) lt).trans c0;have e1:=(k5.cell (p:=⟨g,1,none⟩) lt).trans c1;have HK5:=hid k5;have HO5:=hid hown5;clear hown5 hgrow5 hat5 k5)))
 all_goals
  have ho:=HO5.out;rw[A8] at ho;have hA:=Cg HDM.out ho;have HA:=hid hA;clear ho hA;go_wp2;go_ret;exact⟨_,rfl,HA.out,HK5.out⟩
def CV(a:Option Addr)(n c:Nat)(s:Rs):Value:=.agg #[.slice a n c,.int .i64 (s.p:Int),.int .i64 s.k,.int .i64 s.f]
theorem CX{v3:Value}(h:Blk w g t #[v0,v1,v2,v3]):w.cell? ⟨g,0,none⟩=some v0∧w.cell? ⟨g,1,none⟩=some v1∧w.cell? ⟨g,2,none⟩=some v2∧w.cell? ⟨g,3,none⟩=some v3∧w.frozen? ⟨g,0,none⟩=false∧w.frozen? ⟨g,1,none⟩=false∧w.frozen? ⟨g,2,none⟩=false∧w.frozen? ⟨g,3,none⟩=false∧g<w.heap.size:=
 ⟨h.cell 0,h.cell 1,h.cell 2,h.cell 3,h.free 0,h.free 1,h.free 2,h.free 3,h.lt⟩
theorem Bg(h:Blk w g t #[v0,v1]):w.cell? ⟨g,0,none⟩=some v0∧w.cell? ⟨g,1,none⟩=some v1∧w.frozen? ⟨g,0,none⟩=false∧w.frozen? ⟨g,1,none⟩=false∧g<w.heap.size:=
 ⟨h.cell 0,h.cell 1,h.free 0,h.free 1,h.lt⟩
theorem FJ(w:World)(k f:Int)(hk:k≠0):Calls Tryz.prog 84 #[.int .i64 k,.int .i64 f] w fun r w'=>r=.returned (.agg #[.int .i64 k,.int .i64 f])∧Below w.heap.size w w':=by
 have d1:(k==(0:Int))=false:=zA0;have d2:(k !=(0:Int))=true:=zA0;go_enter Tryz.func84,Tryz.ntmps84;go_wp2;refine An (v:=.agg #[.int .i64 k,.int .i64 f]) (by simp[results,Tryz.results84,go_sem]) rfl ⟨rfl,zB⟩
theorem GH(w:World)(a:Option Addr)(n c:Nat)(s:Rs)(k f:Int)(hk:k≠0):Calls Tryz.prog 75 #[CV a n c s,.int .i64 k,.int .i64 f] w fun r w'=>r=.returned (CV a n c (s.fail k f))∧Below w.heap.size w w':=by
 unfold CV;by_cases h0:s.k=0
 ·have e:s.fail k f=⟨s.p,k,f⟩:=by unfold Rs.fail;rw[Ai h0]
  have d1:(s.k==(0:Int))=true:=by simp[h0]
  have H0:=hid h0;rw[e];clear h0 e;go_enter Tryz.func75,Tryz.ntmps75;go_wp2_with fail;refine (FJ _ k f hk).mono ?_;rintro r w1 ⟨rfl,hb⟩;have B0:Blk w1 w.heap.size 91 #[.slice a n c,.int .i64 (s.p:Int),.int .i64 s.k,.int .i64 s.f]:=Blk.later zC hb;have B1:Blk w1 (w.heap.size+1) 91 #[.slice none 0 0,.int .i64 0,.int .i64 0,.int .i64 0]:=Blk.later zC hb;have x0:=B0.cell 0;have x1:=B0.cell 1;have x2:=B0.cell 2;have x3:=B0.cell 3;have y0:=B1.cell 0;have y1:=B1.cell 1;have y2:=B1.cell 2;have y3:=B1.cell 3;simp at x0 x1 x2 x3 y0 y1 y2 y3;have f2:=B0.free 2;have f3:=B0.free 3;have g0:=B1.free 0;have g1:=B1.free 1;have g2:=B1.free 2;have g3:=B1.free 3;have l0:=B0.lt;have l1:=B1.lt;have hbw:Below w.heap.size w w1:=zB;clear B0 B1 hb;go_wp2;refine An (v:=.agg #[.slice a n c,.int .i64 (s.p:Int),.int .i64 k,.int .i64 f]) (by simp[results,Tryz.results75,go_sem,y0,y1,y2,y3,l1]) rfl ⟨rfl,zA⟩
 ·have e:s.fail k f=s:=by unfold Rs.fail;rw[Ah h0]
  have d1:(s.k==(0:Int))=false:=by simp[h0]
  have H0:=hid h0;rw[e];clear h0 e;go_enter Tryz.func75,Tryz.ntmps75;go_wp2;refine An (v:=.agg #[.slice a n c,.int .i64 (s.p:Int),.int .i64 s.k,.int .i64 s.f]) (by simp[results,Tryz.results75,go_sem]) rfl ⟨rfl,zB⟩
end Go.Proofs.YtfddhafbhceoaaaGreat
