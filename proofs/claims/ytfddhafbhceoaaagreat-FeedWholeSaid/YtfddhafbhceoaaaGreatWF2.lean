/- Mini: Needed by feedNone_walk, part 2: texts put together by shake.py; no condition. -/
import Derived.Maps.OwnOps
import Derived.Maps.Views
import Derived.Test.YtfddhafbhceoaaaGreatWF1
import Derived.Sort.QuietThIn
import Derived.Sort.BigQuietIn
import Derived.Sort.QuietTacIn
import Derived.RangeFuncNested
import Derived.RangeFuncBound
import Derived.RangeFuncCalls
import Derived.RangeFuncLeaves
import Derived.Shelf.Abstract
import Derived.Shelf.RegionOpen
import Derived.OwnWalkIn
import Derived.TacticsInMore
import Derived.LoopNIn
import Derived.LoopIn
import Derived.Maps.OwnIn
import Derived.StillTailTactics
import Derived.StillTail
import Derived.RegionTactic
import Derived.OrdersHeld
import Derived.Deep.RegionHeld
set_option linter.unusedVariables false
set_option linter.unusedSimpArgs false
set_option maxRecDepth 100000
set_option maxHeartbeats 6400000
namespace Go.Bs
variable{base c g i sz:Nat}{F:Nat → Prop}{e:TypeId}{v:Value}{W W' w:World}
theorem zB0{p:Prop}(h:p:=by rw [hkv.out, hk]):p:=h
theorem zBk{p:Prop}(h:p:=by rw [← HBD.out]; unfold PL; rw [Ai h4, Ai h4]):p:=h
theorem zBj{p:Prop}(h:p:=by rw [← HBD.out]; unfold PL; rw [Ag h4, Ag h4]):p:=h
theorem zAp{p:Prop}(h:p:=by rw [hsz]; omega):p:=h
theorem zAm{p:Prop}(h:p:=by unfold reach; omega):p:=h
theorem zAl{p:Prop}(h:p:=by rw [Ag (by omega)]; rfl):p:=h
theorem ZY{p:Prop}(h:p:=by rw [HBL.out]; exact HZN.out.later HZ6.out):p:=h
theorem ZX{p:Prop}(h:p:=by rw [HBL.out]; exact HZO.out.later HZ6.out):p:=h
theorem ZU{p:Prop}(h:p:=by simp [Value.ownBlock]):p:=h
theorem ZQ{p:Prop}(h:p:=by rw [Ai (by omega)]):p:=h
theorem ZO{p:Prop}(h:p:=by cases e):p:=h
theorem zZ{p:Prop}(h:p:=by intro u hu; simp at hu; subst hu; rfl):p:=h
theorem zU{p:Prop}(h:p:=by simp [World.setCell]):p:=h
theorem zK{p:Prop}(h:p:=by assumption):p:=h
theorem zH{p:Prop}(h:p:=by dsimp only; omega):p:=h
theorem zE{p:Prop}(h:p:=by first | omega | (simp; done) | (simp; omega)):p:=h
theorem zD{p:Prop}(h:p:=by (repeat (first | assumption | exact Blk.newAt _ _ _ (by first | (simp; done) | (simp; omega)) | refine Blk.alloc ?_ _ | refine Blk.drew ?_ | refine Blk.drewN ?_ _ | refine Blk.far ?_ (by first | (simp; done) | (simp; omega)) _))):p:=h
theorem Ax:type_of% @bodyPost_ret:=@bodyPost_ret
theorem AG:type_of% @List.nil_append:=@List.nil_append
theorem AJ:type_of% @Proofs.Tryz.underlying22:=@Proofs.Tryz.underlying22
theorem AZ:type_of% @List.length_nil:=@List.length_nil
theorem A3:type_of% @congrArg:=@congrArg
theorem A4:type_of% @results_none:=@results_none
theorem De:type_of% @List.drop_zero:=@List.drop_zero
theorem DH:type_of% @List.take_succ_cons:=@List.take_succ_cons
theorem DV:type_of% @List.cons_append:=@List.cons_append
theorem Ex:type_of% @Int.toNat_natCast:=@Int.toNat_natCast
theorem Hb:type_of% @List.getElem?_toArray:=@List.getElem?_toArray
theorem Ig:type_of% @List.take_zero:=@List.take_zero
end Go.Bs
namespace Go.Proofs.YtfddhafbhceoaaaGreat
open Go.RowKit Go.Bs Go.Maps
variable{b:List UInt8}{xs:List Value}{base cb cp g gs hi i k mb n o p sc:Nat}{F:Nat → Prop}{ab ap sa:Option Addr}{e:TypeId}{u v:Value}{w w' w1:World}
def I9(b:List UInt8)(j:Nat):Nat:=match Ds b j with | some k=>Es b k j | none=>0
def JS(b:List UInt8)(n:Nat):List Value:=(List.range n).map fun j=> .int .i64 (I9 b j:Int)
theorem SW(b:List UInt8)(n:Nat):JS b (n+1)=JS b n++[.int .i64 (I9 b n:Int)]:=by simp[JS,List.range_succ]
theorem PT(b:List UInt8)(n:Nat):(JS b n).length=n:=by simp[JS]
def Ht(D:DataW Unit)(b:List UInt8)(n:Nat):Prop:=∀k:Nat,k<4294967296→D.atKey (.int .u32 (k:Int)) (.lit (.int .i64 0))=.lit (.int .i64 (Es b k n:Int))
theorem Wk(h:k<4294967296):(Lit.int .u32 (k:Int)).wf=true:=by
 simp[Lit.wf,IntKind.min,IntKind.max,IntKind.signed,IntKind.bits];omega
theorem Nq(h:Ds b p=some k):k<4294967296:=by
 by_cases hp:p+4≤b.length
 ·rw[GJ hp] at h
  have h0:=b[p].toNat_lt;have h1:=b[p+1].toNat_lt;have h2:=b[p+2].toNat_lt;have h3:=b[p+3].toNat_lt
  simp only[BV] at h
  omega
 ·rw[Lz zC] at h;cases h
theorem Ht.none{D:DataW Unit}(h:Ht D b n)(hk:Ds b n=none):Ht D b (n+1):=fun k hlt=>by
 rw[h k hlt]
 simp only[Es]
 rw[hk,Ai zM]
theorem Ht.some{D:DataW Unit}(h:Ht D b n)(hD:IsMap D)(hk:Ds b n=some k):Ht (D.put (.int .u32 (k:Int)) (.lit (.int .i64 ((n:Int)+1)))) b (n+1):=fun k' hlt=>by
 by_cases e:k'=k
 ·subst e
  rw[atKey_put_same hD (by trivial)]
  simp only[Es]
  rw[Ag hk];simp
 ·rw[atKey_put_other zI,h k' hlt]
  simp only[Es]
  rw[Ai (by rw[hk];simp;omega)]
structure LV(w:World)(g mb base:Nat)(b:List UInt8)(n:Nat)(ab:Option Addr)(cb:Nat)(ap:Option Addr)(cp:Nat):Prop where
 blk:Blk w g 395 #[.slice ab b.length cb,.map (some mb),.slice ap n cp]
 bytes:Am.r (fun q=>q<w.heap.size∧q≠g∧q≠mb∧(Value.slice ap n cp).ownBlock≠some q) w [.slice ab b.length cb] b
 map:∃D:DataW Unit,w.ownsMap Tryz.prog 142 (plainElem Tryz.prog 3) mb n D∧Ht D b n
 prev:w.ownsRow base 3 1 (.slice ap n cp) n (JS b n)
 ne1:g≠mb
 ne2:(Value.slice ap n cp).ownBlock≠some g
 ne3:(Value.slice ap n cp).ownBlock≠some mb
 lo:base≤g
 le:n≤b.length
 len:b.length≤1048576
theorem Uo:(Tryz.prog.info? 3).map (fun i=>(i.zero,i.size,i.bytes))=some (some (.int .i64 0),1,8):=zJ
theorem Uc(w:World):(zeroValue 3).run Tryz.prog w=.ok (.int .i64 0) w:=zJ
theorem Tf:Keyed Tryz.prog 142:=int_keyed Tryz.underlying142
theorem Mp(w:World){n:Nat}(h:LV w g mb base b n ab cb ap cp):
  Calls Tryz.prog 384 #[.pointer (some ⟨g,0,none⟩)] w fun r w'=>r=.returned (.int .i64 n)∧w=w':=by
 have c2:w.cell? ⟨g,2,none⟩=some (.slice ap n cp):=h.blk.cell 2
 clear h
 go_enter Tryz.func384,Tryz.ntmps384
 go_wp2
 go_ret
 exact⟨rfl,rfl⟩
def G6(w:World)(g mb base:Nat)(b:List UInt8)(n n':Nat)(ab:Option Addr)(cb:Nat)(ap:Option Addr)(cp:Nat)(w':World):Prop:=
 ∃ap' cp',LV w' g mb base b n' ab cb ap' cp'∧Tch (fun q=>q=g∨q=mb∨(Value.slice ap n cp).ownBlock=some q) w w'∧((Value.slice ap' n' cp').ownBlock=(Value.slice ap n cp).ownBlock∨∃q,(Value.slice ap' n' cp').ownBlock=some q∧w.heap.size≤q)
def YL(w:World)(g mb base:Nat)(b:List UInt8)(n:Nat)(ab:Option Addr)(cb:Nat)(ap:Option Addr)(cp:Nat)(r:Ending)(w':World):Prop:=r=.returned (.bool true)∧G6 w g mb base b n (n+1) ab cb ap cp w'
theorem KO{K:TypeId}{R:Value→Option (DataW Unit × List MemPlace)}{m:Nat}{D:DataW Unit}(h:w.ownsMap Tryz.prog K R m n D)(e:w'.heap[m]? =w.heap[m]?):w'.ownsMap Tryz.prog K R m n D:=by
 obtain⟨es,clock,hb,F,hs,hD⟩:=h
 exact⟨es,clock,e.trans hb,F,hs,hD⟩
theorem Jb{size:Nat}(h:w.ownsRow base e size v n xs)(hv:∀g,v.ownBlock=some g→w'.heap[g]? =w.heap[g]?):w'.ownsRow base e size v n xs:=by
 refine⟨h.1,?_⟩
 rcases h.2 with h0 | ⟨g,cap,cur,h1,h2,h3,h4⟩
 ·exact .inl h0
 ·exact .inr ⟨g,cap,cur,h1,h2,by rw[hv g (by rw[h1];rfl)];exact h3,h4⟩
theorem Uz{w w0:World}{mb:Nat}{b:List UInt8}{n:Nat}{a':Option Addr}{c':Nat}{o:Obj}(h:LV w g mb base b n ab cb ap cp)(hn:n<b.length)(h0:Tch (fun q=>q=mb) w w0)
 (hmap:∃D:DataW Unit,w0.ownsMap Tryz.prog 142 (plainElem Tryz.prog 3) mb (n+1) D∧Ht D b (n+1))
 (hown:w1.ownsRow base 3 1 (.slice a' (n+1) c') (n+1) (JS b n++[.int .i64 (I9 b n:Int)])) (hgrow:(w0.alloc o).grownBy w1 (Value.slice ap n cp).ownBlock)
 (hat:(Value.slice a' (n+1) c').ownBlock=(Value.slice ap n cp).ownBlock∨(Value.slice a' (n+1) c').ownBlock=some (w0.alloc o).heap.size):
  G6 w g mb base b n (n+1) ab cb ap cp (w1.setCell ⟨g,2,none⟩ (.slice a' (n+1) c')):=by
 have hg:=h.blk.lt
 have hs0:=h0.size
 have hs1:w0.heap.size+1≤w1.heap.size:=by have:=hgrow.size;simpa using this
 have hn2:(Value.slice a' (n+1) c').ownBlock≠some g:=fun e=>by
  rcases hat with h1 | h1
  ·rw[h1] at e;exact h.ne2 e
  ·rw[h1] at e;simp at e;omega
 have hmlt:mb<w0.heap.size:=by obtain⟨D,hD,_⟩:=hmap;exact hD.lt
 have keep:∀q,q<w0.heap.size→q≠g→(Value.slice ap n cp).ownBlock≠some q→(w1.setCell ⟨g,2,none⟩ (.slice a' (n+1) c')).heap[q]? =w0.heap[q]? :=fun q hq h1 h2=>
  (At w1 _ _ q h1).trans ((hgrow.block q zI (fun e=>h2 e.symm)).trans (AN w0 _ q hq))
 have hsz:(w1.setCell ⟨g,2,none⟩ (.slice a' (n+1) c')).heap.size=w1.heap.size:=zU
 refine⟨a',c',⟨?_,?_,?_,?_,h.ne1,hn2,fun e=> ?_,h.lo,zC,h.len⟩,?_,?_⟩
 ·have B0:=h.blk.tch h0 h.ne1
  have B1:Blk w1 g _ _:=(B0.alloc o).grown hgrow (fun e=>h.ne2 e.symm)
  exact B1.set 2 _
 ·refine Am.mono (Am.keep h.bytes fun q hq=>(keep q zC hq.2.1 hq.2.2.2).trans (h0.block q hq.1 hq.2.2.1)) fun q hq=>⟨zAp,hq.2.1,hq.2.2.1,fun e=> ?_⟩
  rcases hat with h1 | h1
  ·rw[h1] at e;exact hq.2.2.2 e
  ·rw[h1] at e;simp at e;omega
 ·obtain⟨D,hD,hL⟩:=hmap
  exact⟨D,KO hD (keep mb hmlt (Ne.symm h.ne1) h.ne3),hL⟩
 ·rw[SW]
  exact Jb hown fun q hq=>At w1 _ _ q (fun e=>hn2 (by rw[hq,e]))
 ·rcases hat with h1 | h1
  ·rw[h1] at e;exact h.ne3 e
  ·rw[h1] at e;simp at e;omega
 ·exact⟨hgrow.os.trans h0.os,hgrow.tape.trans h0.tape,hgrow.output.trans h0.output,zAp,fun q hq hf=>(keep q zC (fun e=>hf (.inl e)) (fun e=>hf (.inr (.inr e)))).trans (h0.block q hq (fun e=>hf (.inr (.inl e))))⟩
 ·rcases hat with h1 | h1
  ·exact .inl h1
  ·exact .inr ⟨_,h1,zI⟩
theorem VU(w:World)(h:LV w g mb base b n ab cb ap cp)(hn:n<b.length):
  Calls Tryz.prog 385 #[.pointer (some ⟨g,0,none⟩)] w (YL w g mb base b n ab cb ap cp):=by
 have hbk:=h.blk
 have c0:w.cell? ⟨g,0,none⟩=some (.slice ab b.length cb):=h.blk.cell 0
 have c1:w.cell? ⟨g,1,none⟩=some (.map (some mb)):=h.blk.cell 1
 have c2:w.cell? ⟨g,2,none⟩=some (.slice ap n cp):=h.blk.cell 2
 have f2:=h.blk.free 2
 have hg:=h.blk.lt
 obtain⟨D,hmap,hD⟩:=h.map
 have hprev:=h.prev
 obtain⟨ne1,ne2,ne3⟩:g≠mb∧(Value.slice ap n cp).ownBlock≠some g∧(Value.slice ap n cp).ownBlock≠some mb:=⟨h.ne1,h.ne2,h.ne3⟩
 have hlen:=h.len
 have hlo:=h.lo
 have hA:=Mp w h
 have hK:=Px b n ab _ cb w (Am.mono h.bytes fun q hq=>hq.1) h.len zC
 obtain⟨i0,hi,hz0,hz1,hz2⟩:=A5 Uo
 have HH:=hid h;have HM:=hid hmap;have HD:=hid hD;have HP:=hid hprev;have HB:=hid hbk
 have HA:=hid hA;have HKE:=hid hK
 clear h hmap hD hprev hA hK hbk
 have hkv:Hid (JL b n=match Ds b n with | some k=>((k:Int),true) | none=>(0,false)):=hid rfl
 have d1:decide ((b.length:Int)≤(n:Int))=false:=zI
 have d1':decide (b.length≤n)=false:=zI
 cases hk:Ds b n with
 | none=>
  have hv:JL b n=(0,false):=zB0
  rw[hv] at HKE
  have hpn:I9 b n=0:=by unfold I9;rw[hk]
  have HK:=hid hk;have HPN:=hid hpn
  clear hk hv hkv hpn
  go_enter Tryz.func385,Tryz.ntmps385
  go_wp2_with fail
  refine HA.out.mono ?_
  rintro r w1 ⟨rfl,rfl⟩
  go_wp2_with fail
  refine HKE.out.mono ?_
  rintro r w1 ⟨rfl,rfl⟩
  go_wp2_with (at_builtin;go_loud (refine AB rfl _ _ _ rfl base 3 i0 (.int .i64 0) 1 8 Tryz.underlying176 hi hz0 hz1 hz2 rfl zL (.slice ap n cp) n _ rfl (HP.out.alloc _) (some ⟨w.heap.size,0,none⟩) 1 1 [.int .i64 0] rfl (BU w 3 _ rfl rfl rfl) zZ zO zC zI ?_;intro v' w1 hown1 hgrow1 hat1;obtain⟨a',c',rfl⟩:=AV hown1;have G:=fun q (hq:q<w.heap.size) (hne:(Value.slice ap n cp).ownBlock≠some q)=>(hgrow1.block q zI (fun e=>hne e.symm)).trans (AN w _ q hq);have hB:=HB.out.later (Below.refl _ _);have g2:=(CV (a:=⟨g,2,none⟩) (G g hg ne2)).trans f2;have e2:=(Bq (a:=⟨g,2,none⟩) (G g hg ne2)).trans c2;have hz1:g<w1.heap.size:=An hg (Bb zM hgrow1.size);have HG:=hid hgrow1;have HO:=hid hown1;have HAT:=hid hat1;have HGG:=hid G;clear hgrow1 hown1 hat1 G hB))
  have hst:=Uz HH.out hn (Tch.refl _ w) (by
   obtain⟨D,h1,h2⟩:=HH.out.map
   exact⟨D,h1.mono (Nat.le_succ n),h2.none HK.out⟩) (by rw[HPN.out];exact HO.out) HG.out HAT.out
  have HST:=hid hst;clear hst
  go_ret
  exact⟨rfl,HST.out⟩
 | some k=>
  have hv:JL b n=((k:Int),true):=zB0
  rw[hv] at HKE
  have hpn:I9 b n=Es b k n:=by unfold I9;rw[hk]
  have hklt:=Nq hk
  have HK:=hid hk;have HPN:=hid hpn
  have HW:=hid (Wk hklt)
  clear hk hv hkv hpn hklt
  go_enter Tryz.func385,Tryz.ntmps385
  go_wp2_with fail
  refine HA.out.mono ?_
  rintro r w1 ⟨rfl,rfl⟩
  go_wp2_with fail
  refine HKE.out.mono ?_
  rintro r w1 ⟨rfl,rfl⟩
  have HWF:Hid ((Lit.int .i64 ((n:Int)+1)).wf=true):=hid (by simp[Lit.wf,IntKind.min,IntKind.max,IntKind.signed,IntKind.bits];omega)
  go_wp2_with (first
   | (at_lookup;go_loud (refine wpList_lookup_own_int _ rfl _ _ 393 rfl 142 3 .i64 Tf Tryz.underlying393 Tryz.underlying3 (Uc _) mb n D rfl HM.out _ _ rfl (keyOf_int_mk Tryz.underlying142 HW.out) ?_;intro c hat hwc;have hc:c=(Es b k n:Int):=(by have:=HD.out k (by have:=HW.out;simp[Lit.wf,IntKind.max,IntKind.signed,IntKind.bits] at this;omega);rw[hat] at this;simpa using this);subst hc;clear hat hwc))
   | (at_mapUpdate;go_loud (refine wpList_mapUpdate_own _ rfl _ _ _ 393 rfl 142 3 Tf Tryz.underlying393 _ mb n _ rfl HM.out (by unfold maxLen;omega) _ _ _ rfl rfl (keyOf_int_mk Tryz.underlying142 HW.out) _ [] (plainElem_int Tryz.underlying3 HWF.out) ?_;intro w2 hown2 hgrow2;have hnm:some g≠some mb:=fun e=>ne1 (AR e);have hg2:g<w2.heap.size:=An hg hgrow2.size;have c2b:=(Bq (a:=⟨g,2,none⟩) (hgrow2.block g hg hnm)).trans c2;have f2b:=(CV (a:=⟨g,2,none⟩) (hgrow2.block g hg hnm)).trans f2;have HP2:=hid (Jb (w':=w2) HP.out fun q hq=>hgrow2.block q (HP.out.lt q hq).2 (fun e=>ne3 (hq.trans e)));have HG2:=hid hgrow2;have HM2:=hid hown2;clear hown2 hgrow2 hnm))
   | (at_builtin;go_loud (refine AB rfl _ _ _ rfl base 3 i0 (.int .i64 0) 1 8 Tryz.underlying176 hi hz0 hz1 hz2 rfl zL (.slice ap n cp) n _ rfl (HP2.out.alloc _) (some ⟨w2.heap.size,0,none⟩) 1 1 [.int .i64 (Es b k n:Int)] rfl (BU w2 3 _ rfl rfl rfl) zZ zO zC zI ?_;intro v' w1 hown1 hgrow1 hat1;obtain⟨a',c',rfl⟩:=AV hown1;have G:=fun q (hq:q<w2.heap.size) (hne:(Value.slice ap n cp).ownBlock≠some q)=>(hgrow1.block q zI (fun e=>hne e.symm)).trans (AN w2 _ q hq);have g2:=(CV (a:=⟨g,2,none⟩) (G g hg2 ne2)).trans f2b;have e2:=(Bq (a:=⟨g,2,none⟩) (G g hg2 ne2)).trans c2b;have hz1:g<w1.heap.size:=An hg2 (Bb zM hgrow1.size);have HG:=hid hgrow1;have HO:=hid hown1;have HAT:=hid hat1;have HGG:=hid G;clear hgrow1 hown1 hat1 G)))
  have hst:=Uz HH.out hn ((Tch.GR HG2.out).mono fun q _ e=>(AR e).symm) ⟨_,HM2.out,HD.out.some HM.out.isMap HK.out⟩ (by rw[HPN.out];exact HO.out) HG.out HAT.out
  have HST:=hid hst;clear hst
  go_ret
  exact⟨rfl,HST.out⟩
theorem G6.trans{w w1 w2:World}{g mb:Nat}{n m:Nat}{ap a1:Option Addr}{cp c1:Nat}(h:Tch (fun q=>q=g∨q=mb∨(Value.slice ap n cp).ownBlock=some q) w w1)
 (ho:(Value.slice a1 m c1).ownBlock=(Value.slice ap n cp).ownBlock∨∃q,(Value.slice a1 m c1).ownBlock=some q∧w.heap.size≤q) (k':G6 w1 g mb base b m k ab cb a1 c1 w2):G6 w g mb base b n k ab cb ap cp w2:=by
 obtain⟨a2,c2,h1,h2,h3⟩:=k'
 refine⟨a2,c2,h1,h.trans h2 fun q hq e=> ?_,?_⟩
 ·rcases e with e | e | e
  ·exact .inl e
  ·exact .inr (.inl e)
  ·rcases ho with ho | ⟨q',hq',hlt⟩
   ·exact .inr (.inr (ho ▸ e))
   ·rw[hq'] at e;have:=AR e;omega
 ·rcases h3 with h3 | ⟨q',hq',hlt⟩
  ·rcases ho with ho | ⟨q',hq',hlt⟩
   ·exact .inl (h3.trans ho)
   ·exact .inr ⟨q',h3.trans hq',hlt⟩
  ·exact .inr ⟨q',hq',Bb h.size hlt⟩
theorem G6.refl(h:LV w g mb base b n ab cb ap cp):G6 w g mb base b n n ab cb ap cp w:=⟨ap,cp,h,Tch.refl _ _,.inl rfl⟩
def We(w:World)(g mb base:Nat)(b:List UInt8)(n m:Nat)(ab:Option Addr)(cb:Nat)(ap:Option Addr)(cp:Nat)(r:Ending)(w':World):Prop:=r=.returned (.int .i64 ((m:Int)-n))∧G6 w g mb base b n m ab cb ap cp w'
theorem Sf(w:World)(h:LV w g mb base b n ab cb ap cp)(m:Nat)(hn:n≤m)(hm:m≤b.length):
  Calls Tryz.prog 379 #[.pointer (some ⟨g,0,none⟩),.int .i64 m] w (We w g mb base b n m ab cb ap cp):=by
 have hlen:=h.len
 have HS:=hid (G6.refl h)
 clear h
 go_enter Tryz.func379,Tryz.ntmps379
 go_wp2_with fail
 go_loopw [5] (fun i wr=>∃k:Nat,n+k≤m∧i=.int .i64 k∧Hid (G6 w g mb base b n (n+k) ab cb ap cp wr)) (fun i _=>m-(intOf i).toNat)
 case atStart=>exact ⟨0,hn,rfl,HS⟩
 case round=>
  obtain⟨k,hk,rfl,hst⟩:=hrel
  clear HS
  obtain⟨a1,c1,h1,h2,h3⟩:=hst.out
  have HA:=hid (Mp wr h1)
  have HT:=hid h2;have HO:=hid h3;have H1:=hid h1
  clear h1 h2 h3
  by_cases hlt:n+k<m
  ·have hAdd:=hid (VU wr H1.out zC)
   have d1:decide (((n+k:Nat):Int)<(m:Int))=true:=zI
   have d2:decide ((n:Int)+(k:Int)<(m:Int))=true:=zI
   have d3:decide (n+k<m)=true:=zI
   go_wp2_with fail
   refine HA.out.mono ?_
   rintro r w1 ⟨rfl,rfl⟩
   go_wp2_with fail
   refine hAdd.out.mono ?_
   rintro r w1 ⟨rfl,hs1⟩
   have HS1:=hid (G6.trans HT.out HO.out hs1)
   clear hs1
   go_wp2
   go_roundw
   case rel=>first | exact⟨k+1,zC,zT,HS1⟩ | ((repeat apply Exists.intro);refine⟨?_,?_⟩;rotate_left;rfl;exact⟨k+1,zC,zT,HS1⟩)
   case measure=>simp [intOf];omega
  ·obtain rfl:m=n+k:=by omega
   have d1:decide (((n+k:Nat):Int)<((n+k:Nat):Int))=false:=zM
   have d2:decide ((n:Int)+(k:Int)<(n:Int)+(k:Int))=false:=zM
   have hff:Hid (((n+k:Nat):Int)-(n:Int)=(k:Int)):=hid zC
   go_wp2_with fail
   refine HA.out.mono ?_
   rintro r w1 ⟨rfl,rfl⟩
   go_wp2
   go_ret
   exact⟨zP,hst.out⟩
end Go.Proofs.YtfddhafbhceoaaaGreat
namespace Go.Bs
open Go.RowKit
variable{base c g i sz:Nat}{F:Nat → Prop}{e:TypeId}{v:Value}{W W' w:World}
def Gz(o:Oper):Bool:=match o.op with | .defer _=>false | _=>true
section
variable {F:Fence} {n:Nat} {P:Program} {ops:Array Oper} {md:Region.Mode} {C:World→Prop}
theorem P9{o:Oper}(h:Gz o=true):∀c,o.op≠ .defer c:=fun c e=>by
 unfold Gz at h
 rw[e] at h
 cases h
theorem Mw{o:Oper}{a:Act}{K:Act→Prop}{K':Act→World→Prop}{Q':Exit→Act→World→Prop}(hd:Gz o=true)(hw:C w)(h:∀a w',C w'→K a→K' a w')
 (ha:o.askedIn F P a C) (hh:o.quietIn F n P a C K):o.wpIn F n P a w K' Q':=by
 obtain⟨v,h1,h2⟩:=hh
 have h3:=h1 w hw
 unfold Oper.quietAtIn at h3
 unfold Oper.wpIn
 refine⟨ha w hw,?_⟩
 rw[Oper.semAt_eq _ _ _ (P9 hd)]
 generalize (execOp a.eval o).run P w=r at*
 cases r with
 | ok x w'=>
  cases x<;>simp only[Oper.quietUponIn] at h3<;>simp only[Oper.uponIn]
  case value u=>
   obtain⟨e1,e2⟩:=h3
   rw[e1,e2]
   exact h _ _ hw h2
  case skip=>
   obtain⟨e1,e2⟩:=h3
   rw[e1,←e2]
   exact h _ _ hw h2
  case enter f args=>
   obtain⟨e1,hd,hc⟩:=h3
   rw[e1]
   exact⟨hd,hc.mono fun e w'' ⟨he,hw''⟩=>by subst he;exact h _ _ hw'' h2⟩
 | halt x w'=>simp only[Oper.quietUponIn] at h3
theorem Kw{a:Act}{K:Act→Prop}{K':Act→World→Prop}{Q':Exit→Act→World→Prop}(hd:ops.all Gz=true)(hC:C w)(h:∀a w',C w'→K a→K' a w')
 (hh:qOpIn F n P ops C i K a):wpOpIn F n P ops Q' i K' a w:=by
 unfold qOpIn at hh
 unfold wpOpIn
 split
 ·rename_i ho;simp only[ho] at hh;exact h _ _ hC hh
 ·rename_i o ho
  have hdo:Gz o=true:=by
   have:=Array.all_eq_true'.1 hd o (Array.mem_of_getElem? ho)
   exact this
  simp only[ho] at hh
  obtain⟨ha,hh⟩:=hh
  split
  ·rename_i hw;simp only[hw,IL] at hh;exact Mw hdo hC h ha hh
  ·rename_i hw;simp only[hw] at hh;exact⟨ha w hC,h _ _ hC hh⟩
theorem GM{Q:Act→Prop}{Q':Exit→Act→World→Prop}(hd:ops.all Gz=true)(hQ:∀a w,C w→Q a→Q' .normal a w):∀(fuel:Nat) (listed:Array Bool) (a:Act) (w:World),C w→
  wpAnyQIn F n P md ops C Q fuel listed a→wpAnyIn F n P md ops Q' fuel listed a w
 | 0,_,_,_,hw,h=>⟨h.1,hQ _ _ hw h.2⟩
 | fuel+1,_,_,_,hw,h=>⟨fun h0=>hQ _ _ hw (h.1 h0),fun i hi=>Kw hd hw (fun a' w' hw'=>GM hd hQ fuel _ a' w' hw') (h.2 i hi)⟩
theorem Hc{id:Nat}{Q:Exit→Act→World→Prop}{a:Act}{l:List Oper}(C:World→Prop)(hm:P.follows .mixedOrders=true)(hd:l.toArray.all Gz=true)(hB:Region.lexB .any l.toArray=true)(hC:C w.drew)
 (h:wpQuietIn F n P l.toArray C (fun a'=>∀w',C w'→Q .normal a' w') l a):(Code.region id l.toArray true).wpIn F n P Q a w:=by
 simp only[Region.lexB,Ap] at hB
 refine wpIn_region_any hm (GM (Q:=fun a'=>∀w',C w'→Q .normal a' w') hd (fun _ w' hw' h=>h w' hw') _ _ _ _ hC ?_)
 have:=wpAnyQIn_lex (F:=F) (n:=n) (C:=C) (md:=.any) hB.1 l 0 (Array.replicate l.toArray.size false) a zM (by simpa using hB.2) h
 simpa using this
theorem Di{id:Nat}{Q:Exit→Act→World→Prop}{a:Act}{w:World}{l:List Oper}(hm:P.follows .mixedOrders=true)(hd:l.toArray.all Gz=true)(hB:Region.lexB .any l.toArray=true)
 (h:wpQuietIn F n P l.toArray (fun w'=>∃s:AM w,w'=s.at_) (fun a'=>∀w',(∃s:AM w,w'=s.at_)→Q .normal a' w') l a):(Code.region id l.toArray true).wpIn F n P Q a w:=
 Hc _ hm hd hB ⟨⟨w.drew,(Below.refl _ _).drew⟩,rfl⟩ h
theorem J4{id:Nat}{Q:Exit→Act→World→Prop}{a:Act}{l:List Oper}(hm:P.follows .mixedOrders=true)(hd:l.toArray.all Gz=true)(hB:Region.lexB .any l.toArray=true)
 (h:wpQuietIn F n P l.toArray (fun w'=>∃n,w'=w.drewN n) (fun a'=>∀w',(∃n,w'=w.drewN n)→Q .normal a' w') l a):(Code.region id l.toArray true).wpIn F n P Q a w:=
 Hc _ hm hd hB ⟨1,rfl⟩ h
theorem Wf{p:Prop}(h:Fence.wide.depth.isSome=true):p:=by simp[Fence.wide] at h
theorem Tl{n:Nat}{f:FuncId}{args:Array Value}{w:World}{s:AM w}{v:Value}{l:Nat}
 (h:Calls P f args s.at_ fun e w'=>e=.returned v∧Below s.at_.heap.size s.at_ w'):CallsIn (Fence.wide.inRound l) n P f args s.at_ fun e w''=>e=.returned v∧∃s':AM w,w''=s'.at_:=
 CallsIn.inRound l (callsIn_wide.2 (CH h))
theorem Gk{id:Nat}{Q:Exit→Act→World→Prop}{a:Act}{w:World}{l:List Oper}(n:Nat)(hm:P.follows .mixedOrders=true)(hB:Region.lexTailB .any l.toArray n=true)
 (h:wpStill P l.toArray w.drew (fun a'=>wpList P l.toArray Q (l.drop n) a' w.drew) (l.take n) a):(Code.region id l.toArray true).wp P Q a w:=wp_region_still_tail n hm hB h
theorem J3{c:Code}{Q:Exit→Act→World→Prop}{a:Act}(G:World→Prop)(hG:G w)(h:∀W,G W→c.wpIn F n P Q a W):c.wpIn F n P Q a w:=h w hG
theorem Gi{B:Nat}{G:Nat→Prop}(h:Tch G W W')(hF:∀q,G q→q<B):KeepsFrom B W W':=
 ⟨h.size,fun k o hB hk _=>(h.block k (Array.getElem?_eq_some_iff.1 hk).1 (fun e=>by have:=hF k e;omega)).trans hk⟩
end
end Go.Bs
namespace Go.Proofs.YtfddhafbhceoaaaGreat
open Go.RowKit Go.Bs Go.Maps Go.Shelf
variable{b:List UInt8}{xs:List Value}{base cb cp g gs hi i k mb n o p sc:Nat}{F:Nat → Prop}{ab ap sa:Option Addr}{e:TypeId}{u v:Value}{w w' w1:World}
def GQ(b:List UInt8)(k m:Nat):Nat→List (Fin m)
 | 0=>[]
 | j+1=>if h:j<m then (if Ds b j=some k then ⟨j,h⟩::GQ b k m j else GQ b k m j) else GQ b k m j
theorem OU(b:List UInt8)(k m:Nat):∀j,Es b k j=0→GQ b k m j=[]
 | 0,_=>rfl
 | j+1,h=>by
  simp only[Es] at h
  split at h
  ·omega
  ·rename_i hk
   have ih:=OU b k m j h
   simp only[GQ]
   split
   ·first | exact ih | (rw[Ai hk];exact ih)
   ·exact ih
theorem OT(b:List UInt8)(k m:Nat):∀(j i:Nat) (hi:i<m),Es b k j=i+1→GQ b k m j=⟨i,hi⟩::GQ b k m i
 | 0,i,hi,h=>by simp[Es] at h
 | j+1,i,hi,h=>by
  simp only[Es] at h
  split at h
  ·rename_i hk
   obtain rfl:j=i:=zC
   simp only[GQ]
   rw[dif_pos hi,Ag hk]
  ·rename_i hk
   have ih:=OT b k m j i hi h
   simp only[GQ]
   split
   ·first | exact ih | (rw[Ai hk];exact ih)
   ·exact ih
def H9(p:Nat)(q:Fin p):Bool:=decide (p-q.val≤65536)
def placesOf(b:List UInt8)(p:Nat):List (Fin p):=match Ds b p with | none=>[] | some k=>(GQ b k p p).takeWhile (H9 p)
theorem Tm(b:List UInt8)(k j i:Nat)(h:Es b k j=i+1):Ds b i=some k∧i<j:=by
 have h1:=O8 b k j zC
 have h2:=KR b k j
 rw[h] at h1 h2
 exact⟨zBe,zC⟩
theorem SX(h:Ds b i=some k):I9 b i=Es b k i:=by unfold I9;rw[h]
theorem S0(h:w.ownsRow base e 1 v n xs)(hi:xs[i]? =some u)(hn:n=xs.length):∃gp c,v=.slice (some ⟨gp,0,none⟩) n c∧w.cell? ⟨gp,i,none⟩=some u∧gp<w.heap.size:=by
 have hlt:=(List.getElem?_eq_some_iff.1 hi).1
 rcases h.2 with ⟨_,h0⟩ | ⟨g,cap,cur,h1,h2,h3,h4,h5,h6,h7⟩
 ·omega
 ·refine⟨g,cap,h1,?_,(Array.getElem?_eq_some_iff.1 h3).1⟩
  rw[Blk.cell h3 i]
  have e1:cur[i]? =(cur.toList.take (n*1))[i]? :=by
   rw[DS,Ag zC];simp
  rw[e1,h7];exact hi
theorem WA(h:i<n):(JS b n)[i]? =some (.int .i64 (I9 b i:Int)):=by simp[JS,h]
def KpC(Q:Nat→Prop)(w w':World):Prop:=∀q,Q q→w'.heap[q]? =w.heap[q]?
theorem KpC.trans{Q:Nat→Prop}{w'':World}(h:KpC Q w w')(k:KpC Q w' w''):KpC Q w w'':=fun q hq=>(k q hq).trans (h q hq)
theorem TU(w:World)(n:Nat):w.grownBy (w.drewN n) none:=⟨rfl,rfl,rfl,As _,fun _ _ _=>rfl⟩
theorem PW(w:World){g mb:Nat}{b:List UInt8}{p:Nat}{ap:Option Addr}{cp:Nat}{bc ba:Nat}(h:LV w g mb base b p ab cb ap cp)(hc:Blk w bc 385 #[.pointer (some ⟨g,0,none⟩)])(ha:Blk w ba 3 #[.int .i64 (p:Int)]):
  SeqStopsK Fence.wide n Tryz.prog 386 #[.pointer (some ⟨bc,0,none⟩),.pointer (some ⟨ba,0,none⟩)] (fun x:Fin p=>#[.int .i64 (x.val:Int)]) (KpC fun q=>q=g∨q=mb∨(Value.slice ap p cp).ownBlock=some q∨q=bc∨q=ba)
   (fun xs=>xs=placesOf b p) (fun pre=>pre<+:placesOf b p) (placesOf b p).length w:=by
 intro l J Jx W hW hJ hJx hY h0
 have hlen:=h.len
 have hle:=h.le
 have hK0:KpC (fun q=>q=g∨q=mb∨(Value.slice ap p cp).ownBlock=some q∨q=bc∨q=ba) w W:=fun q hq=>by
  rcases hq with rfl | rfl | hq | rfl | rfl
  ·exact hW.block _ h.blk.lt
  ·obtain⟨D,hD,_⟩:=h.map;exact hW.block _ hD.lt
  ·exact hW.block _ (h.prev.lt _ hq).2
  ·exact hW.block _ hc.lt
  ·exact hW.block _ ha.lt
 have hkey:=fun (nq:Nat)=>Px b p ab b.length cb (W.drewN nq) (Am.mono (Am.keep h.bytes fun q hq=>hW.block q hq.1) fun q hq=>An hq.1 hW.size) hlen zC
 have hg0:=h.blk;have hmap:=h.map;have hprev:=h.prev
 have HG0:=hid hg0;have HMAP:=hid hmap;have HPREV:=hid hprev;have HC:=hid hc;have HAA:=hid ha
 have HY:=hid hY;have HJ:=hid hJ;have HJX:=hid hJx
 have HWs:=hid hW
 have HKEY:=hid hkey
 clear h hg0 hmap hprev hc ha hY hJ hJx hW hkey
 have c1:W.cell? ⟨bc,0,none⟩=some (.pointer (some ⟨g,0,none⟩)):=(Blk.later HC.out HWs.out).cell 0
 have c2:W.cell? ⟨ba,0,none⟩=some (.int .i64 (p:Int)):=(Blk.later HAA.out HWs.out).cell 0
 have c3:W.cell? ⟨g,0,none⟩=some (.slice ab b.length cb):=(Blk.later HG0.out HWs.out).cell 0
 have c4:W.cell? ⟨g,1,none⟩=some (.map (some mb)):=(Blk.later HG0.out HWs.out).cell 1
 refine callsIn_of_wp Tryz.func386 rfl trivial ?_ rfl
 simp only[Tryz.ntmps386,List.size_toArray,Ay,AZ,Nat.reduceAdd,Nat.reduceSub,Array.replicate_succ,Array.replicate_zero,List.push_toArray,List.append_toArray,AG,DV]
 have hfw:∀f,Fence.wide.fn f=True:=fun _=>rfl
 gi_wp2
 refine J4 zJ zJ zJ ?_
 repeat (gi_big_quiet_step ((refine⟨Wf,callsIn_wide.2 ((HKEY.out _).mono fun e w' ⟨he,hw⟩=>⟨he,_,hw.symm⟩)⟩)))
 refine wpQuietIn_nil ?_
 intro _ hw'
 obtain⟨nq,rfl⟩:=hw'
 have h1:Hid (J [] (W.drewN nq)):=hid (HJ.out [] W _ none h0 (TU W nq) (fun r e=>ZO))
 have hkv:Hid (JL b p=match Ds b p with | some k=>((k:Int),true) | none=>(0,false)):=hid rfl
 have hpo:Hid (placesOf b p=match Ds b p with | none=>[] | some k=>(GQ b k p p).takeWhile (H9 p)):=hid rfl
 cases hk:Ds b p with
 | none=>
  have hv:JL b p=(0,false):=zB0
  have hp0:Hid (placesOf b p=[]):=hid (by rw[hpo.out,hk])
  rw[hv]
  clear hv hk hkv hpo
  gi_wp2
  refine Ax (A4 rfl _ _ _) rfl ?_
  exact⟨⟨_,rfl⟩,.inl ⟨[],hp0.out.symm,h1.out⟩⟩
 | some k=>
  have hv:JL b p=((k:Int),true):=zB0
  have hp0:Hid (placesOf b p=(GQ b k p p).takeWhile (H9 p)):=hid (by rw[hpo.out,hk])
  have hW:=hid (Wk (Nq hk))
  have hklt:=hid (Nq hk)
  rw[hv]
  clear hv hk hkv hpo
  obtain⟨D,hD,hL⟩:=HMAP.out
  have hD2:=hid (KO (w':=W.drewN nq) hD (HWs.out.block _ hD.lt))
  have HL:=hid hL
  clear hD hL
  gi_wp2_with (gi_at_lookup;go_loud (refine wpListIn_lookup_own_int _ rfl _ _ 393 rfl 142 3 .i64 Tf Tryz.underlying393 Tryz.underlying3 (Uc _) mb p D rfl hD2.out _ _ rfl (keyOf_int_mk Tryz.underlying142 hW.out) ?_;intro c hat hwc;have hc:c=(Es b k p:Int):=(by have:=HL.out k hklt.out;rw[hat] at this;simpa using this);subst hc;clear hat hwc))
  gi_loopw [6] (fun kk wr=>∃(pre:List (Fin p)) (j:Nat),j≤p∧kk=.int .i64 (Es b k j:Int)∧Hid (placesOf b p=pre++(GQ b k p j).takeWhile (H9 p))∧Hid (J pre wr)∧Hid (KpC (fun q=>q=g∨q=mb∨(Value.slice ap p cp).ownBlock=some q∨q=bc∨q=ba) w wr)) (fun kk _=>(intOf kk).toNat)
  case atStart=>exact ⟨[],p,As _,rfl,hid (by rw[hp0.out];rfl),h1,hid (KpC.trans hK0 fun q hq=>rfl)⟩
  case round=>
   obtain⟨pre,j,hj,rfl,hx,hJs,hKs⟩:=hrel
   have hle2:=KR b k j
   cases hlj:Es b k j with
   | zero=>
    have hend:Hid (placesOf b p=pre):=hid (by rw[hx.out,OU b k p j hlj];simp)
    clear hlj
    gi_wp2
    go_end0
    exact⟨⟨_,rfl⟩,.inl ⟨pre,hend.out.symm,hJs.out⟩⟩
   | succ i=>
    obtain⟨hki,hij⟩:=Tm b k j i hlj
    have hip:i<p:=zC
    have hstep:(GQ b k p j).takeWhile (H9 p)=if H9 p ⟨i,hip⟩ then ⟨i,hip⟩::(GQ b k p i).takeWhile (H9 p) else []:=by
     rw[OT b k p j i hip hlj,List.takeWhile_cons]
    have hpn:=SX hki
    have HS:=hid hstep;have HPN:=hid hpn
    clear hlj hki hstep hpn
    have B1:=(hKs.out bc (.inr (.inr (.inr (.inl rfl))))).trans HC.out
    have B2:=(hKs.out ba (.inr (.inr (.inr (.inr rfl))))).trans HAA.out
    have r1:wr.cell? ⟨bc,0,none⟩=some (.pointer (some ⟨g,0,none⟩)):=Blk.cell B1 0
    have r2:wr.cell? ⟨ba,0,none⟩=some (.int .i64 (p:Int)):=Blk.cell B2 0
    clear B1 B2
    have t0:(0:Int)<((i+1:Nat):Int):=zC
    by_cases hnr:p-i≤65536
    ·have hn2:H9 p ⟨i,hip⟩=true:=by simp[H9,hnr]
     have hx2:Hid (placesOf b p=pre++⟨i,hip⟩::(GQ b k p i).takeWhile (H9 p)):=hid (by rw[hx.out,HS.out,hn2,Ag rfl])
     obtain⟨fn,tmps,assign,body,hy,hR⟩:=HY.out pre ⟨i,hip⟩ wr hJs.out (by rw[hx2.out];simp)
     have d1:decide ((65536:Int)<(p:Int)-(i:Int))=false:=zI
     have d2:decide ((i:Int)<(p:Int))=true:=zI
     have d2':decide (i<p)=true:=zI
     dsimp only at hy
     have HR:=hid hR;clear hR hn2
     gi_wp2
     refine⟨Wf,?_⟩
     refine HR.out.mono ?_
     rintro e W3 (⟨rfl,hJ3,hk3⟩ | ⟨rfl,hJx3⟩)
     ·have hK3:=KpC.trans hKs.out hk3
      have HJ3:=hid hJ3;have HK3:=hid hK3
      clear hJ3 hk3 hK3
      have B1:=(HK3.out bc (.inr (.inr (.inr (.inl rfl))))).trans HC.out
      have B3:=(HK3.out g (.inl rfl)).trans HG0.out
      obtain⟨gp,cp2,hvp,hcp,hgp⟩:=S0 HPREV.out (WA (b:=b) hip) (PT b p).symm
      simp only[Value.slice.injEq,true_and] at hvp
      obtain⟨rfl,rfl⟩:=hvp
      have q1:W3.cell? ⟨bc,0,none⟩=some (.pointer (some ⟨g,0,none⟩)):=Blk.cell B1 0
      have q3:W3.cell? ⟨g,2,none⟩=some (.slice (some ⟨gp,0,none⟩) p cp):=Blk.cell B3 2
      have q4:W3.cell? ⟨gp,i,none⟩=some (.int .i64 (I9 b i:Int)):=(Bq (a:=⟨gp,i,none⟩) (HK3.out gp (.inr (.inr (.inl rfl))))).trans hcp
      rw[HPN.out] at q4
      have i1:(i:Int)<(p:Int):=zC
      have i2:(0:Int)≤(i:Int):=zC
      clear hcp B1 B3
      gi_wp2
      go_roundw
      case rel=>exact ⟨pre++[⟨i,hip⟩],i,zC,rfl,hid (by rw[hx2.out];simp),HJ3,HK3⟩
      case measure=>
       have:=KR b k i
       simp[intOf];omega
     ·have HJX3:=hid hJx3;clear hJx3
      gi_wp2
      refine Ax (A4 rfl _ _ _) rfl ?_
      exact⟨⟨_,rfl⟩,.inr ⟨pre++[⟨i,hip⟩],⟨(GQ b k p i).takeWhile (H9 p),by rw[hx2.out];simp⟩,HJX3.out⟩⟩
    ·have hn2:H9 p ⟨i,hip⟩=false:=by simp[H9];omega
     have hend:Hid (placesOf b p=pre):=hid (by rw[hx.out,HS.out,hn2];simp)
     have d1:decide ((65536:Int)<(p:Int)-(i:Int))=true:=zI
     clear hn2
     gi_wp2
     refine Ax (A4 rfl _ _ _) rfl ?_
     exact⟨⟨_,rfl⟩,.inl ⟨pre,hend.out.symm,hJs.out⟩⟩
open Go.RowKit Go.Bs
def KD(b:List UInt8)(p:Nat)(s:Nat × Nat)(q:Fin p):Nat × Nat:=if s.2<Dc b p (p-q.val) then (p-q.val,Dc b p (p-q.val)) else s
def Fz(b:List UInt8)(p:Nat)(l:List (Fin p)):Nat × Nat:=l.foldl (KD b p) (0,0)
theorem T7(b:List UInt8)(p:Nat)(l:List (Fin p))(q:Fin p):Fz b p (l++[q])=KD b p (Fz b p l) q:=by simp[Fz]
def PL(s:Nat × Nat):Nat × Nat:=(if s.2<4 then 0 else s.1,if s.2<4 then 0 else s.2)
theorem KI(b:List UInt8)(k m:Nat):∀j,j≤m→∀q:Fin m,q∈GQ b k m j↔q.val<j∧Ds b q.val=some k
 | 0,_,q=>by simp[GQ]
 | j+1,hj,q=>by
  have ih:=KI b k m j zC q
  simp only[GQ]
  rw[dif_pos zC]
  by_cases hk:Ds b j=some k
  ·rw[Ag hk,List.mem_cons,ih]
   constructor
   ·rintro (rfl | ⟨h1,h2⟩)
    ·exact⟨zM,hk⟩
    ·exact⟨zC,h2⟩
   ·rintro⟨h1,h2⟩
    by_cases e:q.val=j
    ·exact .inl (Fin.ext e)
    ·exact .inr ⟨zC,h2⟩
  ·rw[Ai hk,ih]
   constructor
   ·rintro⟨h1,h2⟩;exact⟨zC,h2⟩
   ·rintro⟨h1,h2⟩
    refine⟨?_,h2⟩
    by_cases e:q.val=j
    ·rw[e] at h2;exact absurd h2 hk
    ·omega
theorem Lq(b:List UInt8)(k m:Nat):∀j,j≤m→(GQ b k m j).Pairwise (fun x y=>y.val<x.val)
 | 0,_=>by simp[GQ]
 | j+1,hj=>by
  have ih:=Lq b k m j zC
  simp only[GQ]
  rw[dif_pos zC]
  split
  ·refine List.pairwise_cons.2 ⟨fun q hq=> ?_,ih⟩
   exact ((KI b k m j zC q).1 hq).1
  ·exact ih
theorem Pv{p:Nat}:∀{l:List (Fin p)},l.Pairwise (fun x y=>y.val<x.val)→∀q,q∈l→H9 p q=true→q∈l.takeWhile (H9 p)
 | [],_,q,h,_=>by cases h
 | x::l,hd,q,h,hn=>by
  obtain⟨h1,h2⟩:=List.pairwise_cons.1 hd
  have hx:H9 p x=true:=by
   rcases List.mem_cons.1 h with rfl | h
   ·exact hn
   ·have:=h1 q h
    simp only[H9,Ao] at hn ⊢
    omega
  rw[List.takeWhile_cons,Ag hx]
  rcases List.mem_cons.1 h with rfl | h
  ·exact Fl ..
  ·exact FR _ (Pv h2 q h hn)
theorem I0{α:Type}{f:α→Bool}:∀{l:List α} {q:α},q∈l.takeWhile f→f q=true
 | [],q,h=>by simp at h
 | x::l,q,h=>by
  rw[List.takeWhile_cons] at h
  split at h
  ·rename_i hx
   rcases List.mem_cons.1 h with e | h
   ·rw[e];exact hx
   ·exact I0 h
  ·cases h
theorem JT(b:List UInt8)(p:Nat):(placesOf b p).Pairwise (fun x y=>y.val<x.val):=by
 unfold placesOf
 split
 ·exact List.Pairwise.nil
 ·exact (Lq b _ p p (As _)).sublist (List.takeWhile_sublist _)
theorem Gx(q:Fin p):q∈placesOf b p↔(∃k,Ds b p=some k∧Ds b q.val=some k)∧p-q.val≤65536:=by
 unfold placesOf
 cases hk:Ds b p with
 | none=>simp
 | some k=>
  simp only[BV,exists_eq_left']
  constructor
  ·intro h
   have h1:=(KI b k p p (As _) q).1 ((List.takeWhile_sublist _).subset h)
   have h2:H9 p q=true:=I0 h
   exact⟨h1.2,by simpa [H9] using h2⟩
  ·rintro⟨h1,h2⟩
   exact Pv (Lq b k p p (As _)) q ((KI b k p p (As _) q).2 ⟨q.isLt,h1⟩) (by simp[H9,h2])
theorem Jd{q:Fin p}(h1:Ds b p=some k)(h2:Ds b q.val=some k):4≤Dc b p (p-q.val):=by
 have hq:=q.isLt
 have hp:p+4≤b.length:=by
  rcases Bl b.length (p+4) with h | h
  ·rw[Lz h] at h1;cases h1
  ·exact h
 rw[GJ hp] at h1
 rw[GJ (show q.val+4≤b.length by omega)] at h2
 simp only[BV] at h1 h2
 have a0:=b[p].toNat_lt;have a1:=b[p+1].toNat_lt;have a2:=b[p+2].toNat_lt;have a3:=b[p+3].toNat_lt
 have c0:=b[q.val].toNat_lt;have c1:=b[q.val+1].toNat_lt;have c2:=b[q.val+2].toNat_lt;have c3:=b[q.val+3].toNat_lt
 have e0:b[p]=b[q.val]:=UInt8.toNat_inj.1 zC
 have e1:b[p+1]=b[q.val+1]:=UInt8.toNat_inj.1 zC
 have e2:b[p+2]=b[q.val+2]:=UInt8.toNat_inj.1 zC
 have e3:b[p+3]=b[q.val+3]:=UInt8.toNat_inj.1 zC
 refine Yi zC zC zC fun j hj=>⟨zC,?_⟩
 rw[show p+j-(p-q.val)=q.val+j by omega]
 rw[AF (show p+j<b.length by omega),AF (show q.val+j<b.length by omega)]
 have hj4:j=0∨j=1∨j=2∨j=3:=zC
 rcases hj4 with rfl | rfl | rfl | rfl
 ·exact A3 some e0
 ·exact A3 some e1
 ·exact A3 some e2
 ·exact A3 some e3
theorem Rq(h:4≤Dc b p o):∃k,Ds b p=some k∧Ds b (p-o)=some k:=by
 obtain⟨h1,h2,h3,_⟩:=Lw (show 3<Dc b p o by omega)
 have hs:=fun j (hj:j<4)=>(Lw (show j<Dc b p o by omega)).2.2.2
 have e:∀j,j<4→b[p+j]? =b[p-o+j]? :=fun j hj=>by
  have:=hs j hj
  rwa [show p+j-o=p-o+j by omega] at this
 refine⟨_,GJ zC,?_⟩
 have:=GJ (b:=b) (p:=p) zC
 rw[←this]
 unfold Ds
 have g0:=e 0 zC
 simp only[Ed] at g0
 rw[g0,e 1 zC,e 2 zC,e 3 zC]
structure Found(b:List UInt8)(p:Nat)(pre:List (Fin p))(s:Nat × Nat):Prop where
 all:∀q∈pre,Dc b p (p-q.val)≤s.2
 is:pre=[]∧s=(0,0)∨∃q0∈pre,s.1=p-q0.val∧s.2=Dc b p (p-q0.val)∧∀q∈pre,q0.val<q.val→Dc b p (p-q.val)<s.2
theorem Pe{p:Nat}:∀(r pre:List (Fin p)) (s:Nat × Nat),(pre++r).Pairwise (fun x y=>y.val<x.val)→(∀q∈pre++r,4≤Dc b p (p-q.val))→Found b p pre s→Found b p (pre++r) (r.foldl (KD b p) s)
 | [],pre,s,_,_,h=>by simpa using h
 | q::r,pre,s,hd,hm,h=>by
  have e:pre++q::r=(pre++[q])++r:=zM
  rw[e] at hd hm ⊢
  rw[List.foldl_cons]
  refine Pe r (pre++[q]) _ hd hm ?_
  have hlt:∀x∈pre,q.val<x.val:=fun x hx=>by
   have:=(List.pairwise_append.1 hd).1
   exact (List.pairwise_append.1 this).2.2 x hx q zM
  have h4:=hm q zM
  unfold KD
  by_cases hs:s.2<Dc b p (p-q.val)
  ·rw[Ag hs]
   refine⟨fun x hx=> ?_,.inr ⟨q,zM,rfl,rfl,fun x hx hlt'=> ?_⟩⟩
   ·rcases List.mem_append.1 hx with hx | hx
    ·have:=h.all x hx
     show _≤Dc b p (p-q.val)
     omega
    ·simp at hx;subst hx;exact As _
   ·rcases List.mem_append.1 hx with hx | hx
    ·have:=h.all x hx
     show _<Dc b p (p-q.val)
     omega
    ·simp at hx;subst hx;omega
  ·rw[Ai hs]
   rcases h.is with ⟨rfl,rfl⟩ | ⟨q0,hq0,h1,h2,h3⟩
   ·simp only at hs;omega
   ·refine⟨fun x hx=> ?_,.inr ⟨q0,by simp[hq0],h1,h2,fun x hx hlt'=> ?_⟩⟩
    ·rcases List.mem_append.1 hx with hx | hx
     ·exact h.all x hx
     ·simp at hx;subst hx;omega
    ·rcases List.mem_append.1 hx with hx | hx
     ·exact h3 x hx hlt'
     ·simp at hx;subst hx;have:=hlt q0 hq0;omega
theorem Pd{pre:List (Fin p)}(h:pre<+:placesOf b p):Found b p pre (Fz b p pre):=by
 have:=Pe (b:=b) pre [] (0,0) (by
  simp only[AG]
  exact (JT b p).sublist h.sublist) (fun q hq=>by
   simp only[AG] at hq
   obtain⟨⟨k,h1,h2⟩,_⟩:=(Gx q).1 (h.subset hq)
   exact Jd h1 h2) ⟨fun q hq=>(by cases hq),.inl ⟨rfl,rfl⟩⟩
 simpa [Fz] using this
theorem few{p j:Nat}(h1:1≤j)(h2:j≤reach p)(h:∀q:Fin p,q∈placesOf b p→q.val≠p-j):Dc b p j<4:=by
 rcases Bl (Dc b p j) 4 with h' | h'
 ·exact h'
 ·exfalso
  unfold reach at h2
  obtain⟨k,g1,g2⟩:=Rq h'
  exact h ⟨p-j,zC⟩ ((Gx _).2 ⟨⟨k,g1,g2⟩,zBz⟩) rfl
theorem V3(b:List UInt8)(p:Nat):PL (Fz b p (placesOf b p))=Ci b p:=by
 have hf:=Pd (List.prefix_refl (placesOf b p))
 rcases hf.is with ⟨h1,h2⟩ | ⟨q0,hq0,h1,h2,h3⟩
 ·have hn:Ci b p=(0,0):=T6 fun j j1 j2=>few j1 j2 fun q hq=>(by rw[h1] at hq;cases hq)
  rw[hn,h2];rfl
 ·obtain⟨⟨k,g1,g2⟩,g3⟩:=(Gx q0).1 hq0
  have h4:=Jd g1 g2
  have hq:=q0.isLt
  have:Ci b p=(p-q0.val,Dc b p (p-q0.val)):=by
   refine N6 zC zAm h4 rfl (fun j j1 j2=> ?_) (fun j j1 j2=> ?_)
   ·by_cases hx:∃q:Fin p,q∈placesOf b p∧q.val=p-j
    ·obtain⟨q,hq1,hq2⟩:=hx
     have:=hf.all q hq1
     rw[h2,hq2,show p-(p-j)=j by unfold reach at j2;omega] at this
     exact this
    ·have:=few (b:=b) j1 j2 fun q hq1 hq2=>hx ⟨q,hq1,hq2⟩
     omega
   ·by_cases hx:∃q:Fin p,q∈placesOf b p∧q.val=p-j
    ·obtain⟨q,hq1,hq2⟩:=hx
     have:=h3 q hq1 zC
     rw[h2,hq2,show p-(p-j)=j by omega] at this
     exact this
    ·have:=few (b:=b) j1 zAm fun q hq1 hq2=>hx ⟨q,hq1,hq2⟩
     omega
  rw[this]
  unfold PL
  rw[h2,h1,Ai zC,Ai zC]
theorem V2{pre:List (Fin p)}(h:pre<+:placesOf b p)(hp:p<b.length)(he:p+(Fz b p pre).2=b.length):PL (Fz b p pre)=Ci b p:=by
 have hf:=Pd h
 rcases hf.is with ⟨h1,h2⟩ | ⟨q0,hq0,h1,h2,h3⟩
 ·rw[h2] at he;simp only at he;omega
 ·obtain⟨⟨k,g1,g2⟩,g3⟩:=(Gx q0).1 (h.subset hq0)
  have h4:=Jd g1 g2
  have hq:=q0.isLt
  have:Ci b p=(p-q0.val,Dc b p (p-q0.val)):=by
   refine N6 zC zAm h4 rfl (fun j j1 j2=> ?_) (fun j j1 j2=> ?_)
   ·have:=KL b p j
    rw[←h2];omega
   ·by_cases hx:∃q:Fin p,q∈placesOf b p∧q.val=p-j
    ·obtain⟨q,hq1,hq2⟩:=hx
     have hin:q∈pre:=by
      obtain⟨r,hr⟩:=h
      rw[←hr] at hq1
      rcases List.mem_append.1 hq1 with h' | h'
      ·exact h'
      ·have hd:=JT b p
       rw[←hr] at hd
       have:=(List.pairwise_append.1 hd).2.2 q0 hq0 q h'
       omega
     have:=h3 q hin zC
     rw[h2,hq2,show p-(p-j)=j by omega] at this
     exact this
    ·have:=few (b:=b) j1 zAm fun q hq1 hq2=>hx ⟨q,hq1,hq2⟩
     omega
  rw[this]
  unfold PL
  rw[h2,h1,Ai zC,Ai zC]
theorem Jw(b:List UInt8)(p:Nat)(pre:List (Fin p)):(Fz b p pre).1≤p∧(Fz b p pre).2≤b.length-p:=by
 unfold Fz
 have:∀(l:List (Fin p)) (s:Nat × Nat),s.1≤p∧s.2≤b.length-p→(l.foldl (KD b p) s).1≤p∧(l.foldl (KD b p) s).2≤b.length-p:=by
  intro l
  induction l with
  | nil=>intro s h;exact h
  | cons q l ih=>
   intro s h
   rw[List.foldl_cons]
   refine ih _ ?_
   unfold KD
   split
   ·exact⟨zBz,KL b p _⟩
   ·exact h
 exact this pre (0,0) ⟨Ar _,Ar _⟩
attribute [local go_sem] Oper.semAt_some
structure JB(w:World)(gs g mb base lo hi:Nat)(b:List UInt8)(n:Nat)(sa:Option Addr)(sc:Nat)(ab:Option Addr)(cb:Nat)(ap:Option Addr)(cp:Nat):Prop where
 blk:∃t:Int,Blk w gs 388 #[.slice sa b.length sc,.pointer (some ⟨g,0,none⟩),.int .i64 t]
 bytes:Am.r (fun q=>(lo≤q∧q<hi)∧q≠gs∧q≠g∧q≠mb∧(Value.slice ap n cp).ownBlock≠some q) w [.slice sa b.length sc] b
 ch:LV w g mb base b n ab cb ap cp
 bytes2:Am.r (fun q=>(lo≤q∧q<hi)∧q≠gs∧q≠g∧q≠mb∧(Value.slice ap n cp).ownBlock≠some q) w [.slice ab b.length cb] b
 ne1:gs≠g
 ne2:gs≠mb
 ne3:(Value.slice ap n cp).ownBlock≠some gs
 top:hi≤w.heap.size
def QH(w:World)(gs g mb base lo hi:Nat)(b:List UInt8)(n n':Nat)(sa:Option Addr)(sc:Nat)(ab:Option Addr)(cb:Nat)(ap:Option Addr)(cp:Nat)(w':World):Prop:=
 ∃ap' cp',JB w' gs g mb base lo hi b n' sa sc ab cb ap' cp'∧Tch (fun q=>q=gs∨q=g∨q=mb∨(Value.slice ap n cp).ownBlock=some q) w w'∧((Value.slice ap' n' cp').ownBlock=(Value.slice ap n cp).ownBlock∨∃q,(Value.slice ap' n' cp').ownBlock=some q∧w.heap.size≤q)
def XQ(w:World)(gs g mb base lo hi:Nat)(b:List UInt8)(n p:Nat)(sa:Option Addr)(sc:Nat)(ab:Option Addr)(cb:Nat)(ap:Option Addr)(cp:Nat)(r:Ending)(w':World):Prop:=
 r=.returned (.tuple #[.int .i64 ((Ci b p).1:Int),.int .i64 ((Ci b p).2:Int)])∧QH w gs g mb base lo hi b n p sa sc ab cb ap cp w'
theorem LV.later(h:LV w g mb base b n ab cb ap cp)(hb:Below w.heap.size w w'):LV w' g mb base b n ab cb ap cp:=by
 have hs:=hb.size
 obtain⟨D,hD,hL⟩:=h.map
 exact⟨h.blk.later hb,Am.mono (Am.keep h.bytes fun q hq=>hb.block q hq.1) fun q hq=>⟨zC,hq.2⟩,⟨D,KO hD (hb.block _ hD.lt),hL⟩,Jb h.prev fun q hq=>hb.block q (h.prev.lt q hq).2,h.ne1,h.ne2,h.ne3,h.lo,h.le,h.len⟩
theorem JB.later{lo:Nat}(h:JB w gs g mb base lo hi b n sa sc ab cb ap cp)(hb:Below w.heap.size w w'):JB w' gs g mb base lo hi b n sa sc ab cb ap cp:=by
 have hs:=hb.size
 obtain⟨t,ht⟩:=h.blk
 exact⟨⟨t,ht.later hb⟩,Am.keep h.bytes fun q hq=>hb.block q (An hq.1.2 h.top),h.ch.later hb,Am.keep h.bytes2 fun q hq=>hb.block q (An hq.1.2 h.top),h.ne1,h.ne2,h.ne3,Bb h.top hs⟩
theorem AaE{w W0 w1:World}{gs g mb lo:Nat}{n p:Nat}{ap:Option Addr}{cp:Nat}{a1:Option Addr}{c1:Nat}(h:JB w gs g mb base lo hi b n sa sc ab cb ap cp)(hb:Below w.heap.size w W0)
 (h1:LV w1 g mb base b p ab cb a1 c1) (h2:Tch (fun q=>q=g∨q=mb∨(Value.slice ap n cp).ownBlock=some q) W0 w1) (h3:(Value.slice a1 p c1).ownBlock=(Value.slice ap n cp).ownBlock∨∃q,(Value.slice a1 p c1).ownBlock=some q∧W0.heap.size≤q):
  JB w1 gs g mb base lo hi b p sa sc ab cb a1 c1∧Tch (fun q=>q=gs∨q=g∨q=mb∨(Value.slice ap n cp).ownBlock=some q) w w1∧((Value.slice a1 p c1).ownBlock=(Value.slice ap n cp).ownBlock∨∃q,(Value.slice a1 p c1).ownBlock=some q∧w.heap.size≤q):=by
 have hs:=hb.size
 have hs2:=h2.size
 obtain⟨t,ht⟩:=h.blk
 have hn:∀q,q<w.heap.size→(Value.slice ap n cp).ownBlock≠some q→(Value.slice a1 p c1).ownBlock≠some q:=fun q hq hne e=>by
  rcases h3 with h3 | ⟨q',hq',hlt⟩
  ·rw[h3] at e;exact hne e
  ·rw[hq'] at e;have:=AR e;omega
 have keep:∀q,q<w.heap.size→q≠g→q≠mb→(Value.slice ap n cp).ownBlock≠some q→w1.heap[q]? =w.heap[q]? :=fun q hq k1 k2 k3=>
  (h2.block q zC (fun e=>by rcases e with e | e | e<;>contradiction)).trans (hb.block q hq)
 refine⟨⟨⟨t,(keep gs ht.lt h.ne1 h.ne2 h.ne3).trans ht⟩,?_,h1,?_,h.ne1,h.ne2,hn gs ht.lt h.ne3,by have:=h.top;omega⟩,⟨h2.os.trans hb.os,h2.tape.trans hb.tape,h2.output.trans hb.output,zC,fun q hq hf=>keep q hq (fun e=>hf (.inr (.inl e))) (fun e=>hf (.inr (.inr (.inl e)))) (fun e=>hf (.inr (.inr (.inr e))))⟩,?_⟩
 ·exact Am.mono (Am.keep h.bytes fun q hq=>keep q (An hq.1.2 h.top) hq.2.2.1 hq.2.2.2.1 hq.2.2.2.2) fun q hq=>⟨hq.1,hq.2.1,hq.2.2.1,hq.2.2.2.1,hn q (An hq.1.2 h.top) hq.2.2.2.2⟩
 ·exact Am.mono (Am.keep h.bytes2 fun q hq=>keep q (An hq.1.2 h.top) hq.2.2.1 hq.2.2.2.1 hq.2.2.2.2) fun q hq=>⟨hq.1,hq.2.1,hq.2.2.1,hq.2.2.2.1,hn q (An hq.1.2 h.top) hq.2.2.2.2⟩
 ·rcases h3 with h3 | ⟨q',hq',hlt⟩
  ·exact .inl h3
  ·exact .inr ⟨q',hq',zC⟩
theorem JB.tch{lo:Nat}(h:JB w gs g mb base lo hi b n sa sc ab cb ap cp)(hT:Tch F w w')(h1:¬F g)(h2:¬F mb)(h3:∀q,(Value.slice ap n cp).ownBlock=some q→¬F q)(h4:∀q,lo≤q→q<hi→q≠gs→¬F q)
 (hb:∃t:Int,Blk w' gs 388 #[.slice sa b.length sc,.pointer (some ⟨g,0,none⟩),.int .i64 t]):JB w' gs g mb base lo hi b n sa sc ab cb ap cp:=by
 have hs:=hT.size
 have ht:=h.top
 obtain⟨D,hD,hL⟩:=h.ch.map
 exact⟨hb,Am.keep h.bytes fun q hq=>hT.block q zC (h4 q hq.1.1 hq.1.2 hq.2.1),⟨h.ch.blk.tch hT h1,Am.mono (Am.keep h.bytes2 fun q hq=>hT.block q zC (h4 q hq.1.1 hq.1.2 hq.2.1)) fun q hq=>⟨zC,hq.2.2⟩,⟨D,KO hD (hT.block _ hD.lt h2),hL⟩,
  Jb h.ch.prev fun q hq=>hT.block q (h.ch.prev.lt q hq).2 (h3 q hq),h.ch.ne1,h.ch.ne2,h.ch.ne3,h.ch.lo,h.ch.le,h.ch.len⟩,Am.keep h.bytes2 fun q hq=>hT.block q zC (h4 q hq.1.1 hq.1.2 hq.2.1),h.ne1,h.ne2,h.ne3,zC⟩
theorem JB.Wl{w w':World}{gs lo:Nat}(h:JB w gs g mb base lo hi b n sa sc ab cb ap cp)(hT:Tch (fun q=>q=gs) w w')
 (hb:∃t:Int,Blk w' gs 388 #[.slice sa b.length sc,.pointer (some ⟨g,0,none⟩),.int .i64 t]):JB w' gs g mb base lo hi b n sa sc ab cb ap cp:=
 h.tch hT (Ne.symm h.ne1) (Ne.symm h.ne2) (fun q hq e=>h.ne3 (e ▸ hq)) (fun q _ _ h e=>h e) hb
theorem QC(w:World)(g p:Nat):Calls Tryz.prog 380 #[.pointer (some ⟨g,0,none⟩),.int .i64 (p:Int)] w fun r w'=>
  r=.returned (.func (.func 386) #[] #[.pointer (some ⟨w.heap.size,0,none⟩),.pointer (some ⟨w.heap.size+1,0,none⟩)])∧w'=(w.alloc (.cells #[.pointer (some ⟨g,0,none⟩)] 385)).alloc (.cells #[.int .i64 (p:Int)] 3):=by
 go_enter Tryz.func380,Tryz.ntmps380
 go_wp2
 go_ret
 exact⟨rfl,rfl⟩
theorem UY(w:World){lo:Nat}(h:JB w gs g mb base lo hi b n sa sc ab cb ap cp)(hn:n≤p)(hp:p<b.length):
  Calls Tryz.prog 374 #[.pointer (some ⟨gs,0,none⟩),.int .i64 (p:Int)] w (XQ w gs g mb base lo hi b n p sa sc ab cb ap cp):=by
 obtain⟨t0,hblk⟩:=h.blk
 have hlen:=h.ch.len
 have hgs:=hblk.lt
 have c0:w.cell? ⟨gs,0,none⟩=some (.slice sa b.length sc):=hblk.cell 0
 have c1:w.cell? ⟨gs,1,none⟩=some (.pointer (some ⟨g,0,none⟩)):=hblk.cell 1
 have e1:min (p:Int) (b.length:Int)=(p:Int):=zC
 have hpl:(p:Int)<(b.length:Int):=zC
 have hfw:∀f,Fence.wide.fn f=True:=fun _=>rfl
 have H:=hid h;have HB:=hid hblk
 clear h hblk
 refine (callsIn_wide (n:=5)).1 ?_
 refine callsIn_of_wp_marks Tryz.func374 rfl trivial ?_ rfl
 simp only[Tryz.ntmps374,List.size_toArray,Ay,AZ,Nat.reduceAdd,Nat.reduceSub,Array.replicate_succ,Array.replicate_zero,List.push_toArray,List.append_toArray,AG,DV]
 have hmx:Tryz.prog.follows .mixedOrders=true:=zJ
 refine wpIn_wide.2 ?_
 go_wp2
 refine Gk 11 zJ zJ ?_
 simp only[DH,Ig,List.drop_succ_cons,De]
 repeat still_step
 refine wpStill_nil ?_
 go_wp2_with fail
 refine (Sf _ (H.out.ch.later zB) p hn zC).mono ?_
 rintro r w1 ⟨rfl,a1,c1',hch,htch,hown⟩
 obtain⟨hsk,htw,howw⟩:=AaE H.out zB hch htch hown
 have z1:w.heap.size+1<w1.heap.size:=by have:=htch.size;simp at this;omega
 have P0:Blk w1 w.heap.size 379 #[.pointer (some ⟨gs,0,none⟩)]:=Blk.tch zD htch (fun e=>by
  have h1:=H.out.ch.blk.lt
  obtain⟨D,hD,_⟩:=H.out.ch.map
  have h2:=hD.lt
  rcases e with e | e | e
  ·omega
  ·omega
  ·have:=(H.out.ch.prev.lt _ e).2;omega)
 have P1:Blk w1 (w.heap.size+1) 3 #[.int .i64 (p:Int)]:=Blk.tch zD htch (fun e=>by
  have h1:=H.out.ch.blk.lt
  obtain⟨D,hD,_⟩:=H.out.ch.map
  have h2:=hD.lt
  rcases e with e | e | e
  ·omega
  ·omega
  ·have:=(H.out.ch.prev.lt _ e).2;omega)
 have HSK:=hid hsk;have HTW:=hid htw;have HOW:=hid howw;have HP0:=hid P0;have HP1:=hid P1
 clear hsk htw howw P0 P1 hch htch hown c0 c1
 go_wp2_with fail
 refine Ee (fun W=>Below w1.heap.size w1 W∧W.heap.size=w1.heap.size+2∧Blk W w1.heap.size 3 #[.int .i64 0]∧Blk W (w1.heap.size+1) 3 #[.int .i64 0]) ⟨zB,zM,zD,zD⟩ ?_
 intro W ⟨hbW,hzW,Q0,Q1⟩
 have HZW:=hid hzW;clear hzW
 have HSW:=hid (HSK.out.later hbW)
 have HPW0:=hid (HP0.out.later hbW)
 have HPW1:=hid (HP1.out.later hbW)
 obtain⟨t1,hb1⟩:=HSW.out.blk
 have c1:W.cell? ⟨gs,1,none⟩=some (.pointer (some ⟨g,0,none⟩)):=hb1.cell 1
 have c2:W.cell? ⟨w.heap.size,0,none⟩=some (.pointer (some ⟨gs,0,none⟩)):=HPW0.out.cell 0
 have c3:W.cell? ⟨w.heap.size+1,0,none⟩=some (.int .i64 (p:Int)):=HPW1.out.cell 0
 have HQ0:=hid Q0;have HQ1:=hid Q1
 clear hb1 Q0 Q1
 refine Gk 5 zJ zJ ?_
 simp only[DH,Ig,List.drop_succ_cons,De]
 repeat still_step
 refine wpStill_nil ?_
 go_wp2_with fail
 refine (QC _ g p).mono ?_
 rintro r w5 ⟨rfl,hw5⟩
 have hb5:Below W.heap.size W w5:=by rw[hw5];(repeat (first | exact Below.refl _ _ | assumption | (refine Aw ?_ _) | (refine Below.setCell ?_ zE _) | (refine Below.drew ?_) | (refine below_drewN ?_ _) | (refine Aj zK ?_)))
 have BC:Blk w5 W.heap.size 385 #[.pointer (some ⟨g,0,none⟩)]:=by rw[hw5];exact Blk.alloc (Blk.newAt _ _ _ zM) _
 have BA:Blk w5 (W.heap.size+1) 3 #[.int .i64 (p:Int)]:=by rw[hw5];exact Blk.newAt _ _ _ zM
 have hz5:w5.heap.size=W.heap.size+2:=by rw[hw5];simp
 have HS5:=hid (HSW.out.later hb5)
 have HB5:=hid hb5;have HBC:=hid BC;have HBA:=hid BA
 clear hw5 hb5 BC BA
 go_wp2_with fail
 have hgs1:=HSK.out.blk.choose_spec.lt
 have hg1:=HSK.out.ch.blk.lt
 have htop:=HSK.out.top
 have hm1:mb<w1.heap.size:=by obtain⟨D,hD,_⟩:=HSK.out.ch.map;exact hD.lt
 have hz5':w5.heap.size=w1.heap.size+4:=by have:=HZW.out;omega
 have HZ5:=hid hz5';clear hz5 hz5'
 have hlt5:w1.heap.size+1<w5.heap.size:=by have:=HZ5.out;omega
 have BO:Blk w5 w1.heap.size 3 #[.int .i64 0]:=HQ0.out.later HB5.out
 have BN:Blk w5 (w1.heap.size+1) 3 #[.int .i64 0]:=HQ1.out.later HB5.out
 have P0:Blk w5 w.heap.size 379 #[.pointer (some ⟨gs,0,none⟩)]:=HPW0.out.later HB5.out
 have P1:Blk w5 (w.heap.size+1) 3 #[.int .i64 (p:Int)]:=HPW1.out.later HB5.out
 have hby:=Am.keep HSK.out.bytes (w':=w5) fun q hq=>(HB5.out.block q (by have:=HZW.out;have:=HSK.out.top;omega)).trans (hbW.block q (An hq.1.2 HSK.out.top))
 have HBY:=hid hby;have HBO:=hid BO;have HBN:=hid BN;have HPP0:=hid P0;have HPP1:=hid P1
 clear BO BN P0 P1 hby c1 c2 c3
 have hgsz:gs<w.heap.size:=hgs
 refine (wpIn_wide (n:=5)).1 ?_
 refine wpIn_rangeFunc_ownG rfl zL (gf:=386) (lb:=#[.pointer (some ⟨W.heap.size,0,none⟩),.pointer (some ⟨W.heap.size+1,0,none⟩)]) rfl trivial (enters_of Tryz.func386 zJ rfl)
  (PW w5 HS5.out.ch HBC.out HBA.out) (fun h k=>h.trans k) ?hKb (Below.refl _ _) (fun _=>rfl)
  (fun pre V=>(∃t:Int,Blk V gs 388 #[.slice sa b.length sc,.pointer (some ⟨g,0,none⟩),.int .i64 t])∧Blk V w1.heap.size 3 #[.int .i64 ((Fz b p pre).1:Int)]∧Blk V (w1.heap.size+1) 3 #[.int .i64 ((Fz b p pre).2:Int)]∧Tch (fun q=>q=gs∨q=w1.heap.size∨q=w1.heap.size+1) w5 V)
  (fun c pre V=>c=.exit 0∧p+(Fz b p pre).2=b.length∧(∃t:Int,Blk V gs 388 #[.slice sa b.length sc,.pointer (some ⟨g,0,none⟩),.int .i64 t])∧Blk V w1.heap.size 3 #[.int .i64 ((Fz b p pre).1:Int)]∧Blk V (w1.heap.size+1) 3 #[.int .i64 ((Fz b p pre).2:Int)]∧Tch (fun q=>q=gs∨q=w1.heap.size∨q=w1.heap.size+1) w5 V)
  ?hI ?hIx ?h0
  (fun x=>{tmps:=#[.pointer (some ⟨gs,0,none⟩),.int .i64 (p:Int),.pointer (some ⟨w.heap.size,0,none⟩),.pointer (some ⟨w.heap.size+1,0,none⟩),.int .i64 0,.int .i64 0,.pointer (some ⟨w1.heap.size,0,none⟩),.pointer (some ⟨w1.heap.size+1,0,none⟩),.int .i64 (x.val:Int),undef,
   .pointer (some ⟨gs,0,none⟩),.bool false,.pointer (some ⟨gs,0,none⟩),.pointer (some ⟨gs,0,none⟩),.pointer (some ⟨gs,1,none⟩),.pointer (some ⟨g,0,none⟩),.int .i64 (p:Int),.pointer (some ⟨gs,0,none⟩),.pointer (some ⟨gs,0,none⟩),.pointer (some ⟨gs,0,none⟩),.slice sa b.length sc,.int .i64 (b.length:Int),.int .i64 (p:Int),.int .i64 ((p:Int)-(n:Int)),
   .pointer (some ⟨gs,0,none⟩),.pointer (some ⟨gs,0,none⟩),.pointer (some ⟨gs,1,none⟩),.pointer (some ⟨g,0,none⟩),.int .i64 (p:Int),.func (.func 386) #[] #[.pointer (some ⟨W.heap.size,0,none⟩),.pointer (some ⟨W.heap.size+1,0,none⟩)],.int .i64 (x.val:Int),
   undef,undef,undef,undef,undef,undef,undef,undef,undef,undef,undef,undef,undef,undef,undef,undef,undef,undef,undef,undef,undef,undef,undef,undef,undef,undef,undef,undef,undef,undef,undef,undef,undef,undef,undef,undef,undef],defers:=[]}) ?assign ?body ?done ?stop
 case hKb=>
  intro V l o o' hl ho _ _ q hq
  refine World.putObj_heap_other ?_
  have:=HZ5.out
  have hz:=HZW.out
  have hs:=HB5.out.size
  rcases hq with e | e | e | e | e
  ·omega
  ·omega
  ·have:=(HSK.out.ch.prev.lt _ e).2;omega
  ·omega
  ·omega
 case hI=>
  rintro pre X Y row ⟨⟨t,h1⟩,h2,h3,h4⟩ hg' hr
  have hne:∀q,q<w5.heap.size→Y.heap[q]? =X.heap[q]? :=fun q hq=>hg'.block q (An hq h4.size) (fun e=>by have:=(hr q e.symm).1;omega)
  exact⟨⟨t,(hne gs zC).trans h1⟩,(hne _ zC).trans h2,(hne _ hlt5).trans h3,⟨hg'.os.trans h4.os,hg'.tape.trans h4.tape,hg'.output.trans h4.output,Bb h4.size hg'.size,fun q hq hf=>(hne q hq).trans (h4.block q hq hf)⟩⟩
 case hIx=>
  rintro c pre X Y row ⟨hc,hl,⟨t,h1⟩,h2,h3,h4⟩ hg' hr
  have hne:∀q,q<w5.heap.size→Y.heap[q]? =X.heap[q]? :=fun q hq=>hg'.block q (An hq h4.size) (fun e=>by have:=(hr q e.symm).1;omega)
  exact⟨hc,hl,⟨t,(hne gs zC).trans h1⟩,(hne _ zC).trans h2,(hne _ hlt5).trans h3,⟨hg'.os.trans h4.os,hg'.tape.trans h4.tape,hg'.output.trans h4.output,Bb h4.size hg'.size,fun q hq hf=>(hne q hq).trans (h4.block q hq hf)⟩⟩
 case h0=>exact ⟨HS5.out.blk,HBO.out,HBN.out,Tch.refl _ _⟩
 case assign=>
  intro l x V K hK
  gi_wp2
  exact hK
 case body=>
  rintro l pre x V ⟨⟨t,hbg⟩,hbo,hbn,htc⟩ hN
  have hxp:=x.isLt
  have nF:∀q,q<w5.heap.size→q≠gs→q≠w1.heap.size→q≠w1.heap.size+1→¬(q=gs∨q=w1.heap.size∨q=w1.heap.size+1):=fun q _ h1 h2 h3 e=>by rcases e with e | e | e<;>contradiction
  have V0:Blk V w.heap.size 379 #[.pointer (some ⟨gs,0,none⟩)]:=HPP0.out.tch htc (nF _ zC zC zC zC)
  have V1:Blk V (w.heap.size+1) 3 #[.int .i64 (p:Int)]:=HPP1.out.tch htc (nF _ zC zC zC zC)
  have k0:V.cell? ⟨w.heap.size,0,none⟩=some (.pointer (some ⟨gs,0,none⟩)):=V0.cell 0
  have k2:V.cell? ⟨gs,2,none⟩=some (.int .i64 t):=hbg.cell 2
  have k3:=hbg.free 2
  have HBG:=hid hbg;have HBO2:=hid hbo;have HBN2:=hid hbn;have HTC:=hid htc;have HV0:=hid V0;have HV1:=hid V1
  clear hbg hbo hbn htc V0 V1
  have hV5:w5.heap.size≤V.heap.size:=HTC.out.size
  gi_wp2
  refine J3 (fun U=>Tch (fun q=>q=gs) V U∧∃t':Int,Blk U gs 388 #[.slice sa b.length sc,.pointer (some ⟨g,0,none⟩),.int .i64 t']) ⟨Tch.setCell (F:=fun q=>q=gs) (Tch.refl _ _) (fun _=>rfl) _,_,HBG.out.set 2 _⟩ ?_
  intro U ⟨hU,t',hUg⟩
  have U0:=HV0.out.tch hU zC
  have U1:=HV1.out.tch hU zC
  have UO:=HBO2.out.tch hU zC
  have UN:=HBN2.out.tch hU zC
  have HM:=hid (fun s:AM U=>SN b (p:Int) ((p:Int)-(x.val:Int)) zC zC sa b.length sc s.at_ (Am.mono (Am.keep HBY.out fun q hq=>(s.below.block q (by have:=hU.size;omega)).trans ((hU.block q zC hq.2.1).trans (HTC.out.block q zC (nF q zC hq.2.1 zC zC)))) fun q hq=>by have:=hU.size;have:=s.below.size;omega) hlen zC zC)
  have et:((p:Int)-(x.val:Int)).toNat=p-x.val:=zC
  rw[Ex,et] at HM
  have i1:(0:Int)≤(p:Int)-(x.val:Int):=zC
  have C0:=fun s:AM U=>s.cell (show U.cell? ⟨w.heap.size,0,none⟩=some (.pointer (some ⟨gs,0,none⟩)) from U0.cell 0)
  have C1:=fun s:AM U=>s.cell (show U.cell? ⟨w.heap.size+1,0,none⟩=some (.int .i64 (p:Int)) from U1.cell 0)
  have C2:=fun s:AM U=>s.cell (show U.cell? ⟨gs,0,none⟩=some (.slice sa b.length sc) from hUg.cell 0)
  have hsn:=T7 b p pre x
  have hsnb:=Jw b p (pre++[x])
  have hml:=KL b p (p-x.val)
  generalize hbl:Fz b p (pre++[x])=s2 at*
  generalize hbl0:Fz b p pre=s1 at*
  generalize hmm:Dc b p (p-x.val)=m at*
  have HSN:=hid hsn;have HBL:=hid hbl;have HBL0:=hid hbl0;have HMM:=hid hmm
  have HUt:=hid hU;have HUG:=hid hUg;have HUO:=hid UO;have HUN:=hid UN;have HU0:=hid U0;have HU1:=hid U1
  clear hsn hbl hbl0 hmm et hU hUg UO UN U0 U1
  have hfr:∀f,(Fence.wide.inRound l).fn f=True:=fun _=>rfl
  clear k0 k2 k3
  refine Di zJ zJ zJ ?_
  repeat (gi_big_quiet_step (((exact Tl (HM.out _)))))
  refine wpQuietIn_nil ?_
  rintro Y ⟨⟨Y',hY⟩,rfl⟩
  have Y0:=HU0.out.later hY
  have Y1:=HU1.out.later hY
  have YO:=HUO.out.later hY
  have YN:=HUN.out.later hY
  have YG:=HUG.out.later hY
  have y1:Y.cell? ⟨w.heap.size+1,0,none⟩=some (.int .i64 (p:Int)):=Y1.cell 0
  have yo:Y.cell? ⟨w1.heap.size,0,none⟩=some (.int .i64 (s1.1:Int)):=YO.cell 0
  have yn:Y.cell? ⟨w1.heap.size+1,0,none⟩=some (.int .i64 (s1.2:Int)):=YN.cell 0
  have fo:=YO.free 0
  have fn:=YN.free 0
  have HY0:=hid Y0;have HY1:=hid Y1;have HYO:=hid YO;have HYN:=hid YN;have HYG:=hid YG
  have HYb:=hid hY
  clear Y0 Y1 YO YN YG hY C0 C1 C2
  have hzz:w1.heap.size≠gs:=zC
  have hzz2:w1.heap.size+1≠gs:=zC
  by_cases hgt:s1.2<m
  ·have b0:decide ((s1.2:Int)<(m:Int))=true:=by simp;omega
   have b0':decide (s1.2<m)=true:=zI
   have hs2:s2=(p-x.val,m):=by
    rw[HSN.out];unfold KD;rw[HMM.out,Ag hgt]
   have v1:Hid ((s2.1:Int)=(p:Int)-(x.val:Int)):=hid (by rw[hs2];simp only;omega)
   have v2:Hid ((s2.2:Int)=(m:Int)):=hid (by rw[hs2])
   have HS2:=hid hs2;clear hs2 hgt
   gi_wp2
   refine J3 (fun Z=>Tch (fun q=>q=gs∨q=w1.heap.size∨q=w1.heap.size+1) V Z∧Blk Z gs 388 #[.slice sa b.length sc,.pointer (some ⟨g,0,none⟩),.int .i64 t']∧Blk Z w1.heap.size 3 #[.int .i64 (s2.1:Int)]∧Blk Z (w1.heap.size+1) 3 #[.int .i64 (s2.2:Int)]∧Blk Z w.heap.size 379 #[.pointer (some ⟨gs,0,none⟩)]∧Blk Z (w.heap.size+1) 3 #[.int .i64 (p:Int)])
    ⟨(((HUt.out.mono (G:=(fun q=>q=gs∨q=w1.heap.size∨q=w1.heap.size+1)) (fun q _ e=> .inl e)).trans (Tch.AW (F:=(fun q=>q=gs∨q=w1.heap.size∨q=w1.heap.size+1)) HYb.out) fun _ _ h=>h).setCell (fun _=> .inr (.inl rfl)) _).setCell (fun _=> .inr (.inr rfl)) _,(HYG.out.far zH _).far zH _,by rw[v1.out];exact (HYO.out.set 0 _).far (by simp) _,by rw[v2.out];exact (HYN.out.far (by simp) _).set 0 _,(HY0.out.far zH _).far zH _,(HY1.out.far zH _).far zH _⟩ ?_
   intro Z ⟨zt,zg,zo,zn,z0,z1⟩
   have D0:=fun s:AM Z=>s.cell (show Z.cell? ⟨w.heap.size,0,none⟩=some (.pointer (some ⟨gs,0,none⟩)) from z0.cell 0)
   have D1:=fun s:AM Z=>s.cell (show Z.cell? ⟨w.heap.size+1,0,none⟩=some (.int .i64 (p:Int)) from z1.cell 0)
   have D2:=fun s:AM Z=>s.cell (show Z.cell? ⟨gs,0,none⟩=some (.slice sa b.length sc) from zg.cell 0)
   have D3:=fun s:AM Z=>s.cell (show Z.cell? ⟨w1.heap.size+1,0,none⟩=some (.int .i64 (s2.2:Int)) from zn.cell 0)
   have HZT:=hid zt;have HZG:=hid zg;have HZO:=hid zo;have HZN:=hid zn
   clear zt zg zo zn z0 z1
   have i5:(p:Int)+(s2.2:Int)≤2097152:=zC
   by_cases heq:p+s2.2=b.length
   ·have b1:((p:Int)+(s2.2:Int)==(b.length:Int))=true:=by simp;omega
    have HEQ:=hid heq;clear heq
    refine Di zJ zJ zJ ?_
    repeat (gi_big_quiet_step (fail))
    refine wpQuietIn_nil ?_
    rintro W6 ⟨⟨Z6,hZ6⟩,rfl⟩
    have ht6:=HZT.out.trans (Tch.AW (F:=fun q=>q=gs∨q=w1.heap.size∨q=w1.heap.size+1) hZ6) fun _ _ h=>h
    have HT6:=hid ht6;clear ht6
    have HZ6:=hid hZ6;clear hZ6
    clear D0 D1 D2 D3
    gi_wp2
    exact⟨Gi HT6.out fun q hq=>by rcases hq with e | e | e<;>omega,rfl,by rw[HBL.out];exact HEQ.out,⟨t',HZG.out.later HZ6.out⟩,ZX,ZY,HTC.out.trans HT6.out fun _ _ h=>h⟩
   ·have b1:((p:Int)+(s2.2:Int)==(b.length:Int))=false:=by simp;omega
    clear heq
    refine Di zJ zJ zJ ?_
    repeat (gi_big_quiet_step (fail))
    refine wpQuietIn_nil ?_
    rintro W6 ⟨⟨Z6,hZ6⟩,rfl⟩
    have ht6:=HZT.out.trans (Tch.AW (F:=fun q=>q=gs∨q=w1.heap.size∨q=w1.heap.size+1) hZ6) fun _ _ h=>h
    have HT6:=hid ht6;clear ht6
    have HZ6:=hid hZ6;clear hZ6
    clear D0 D1 D2 D3
    gi_wp2
    refine⟨Gi HT6.out fun q hq=>by rcases hq with e | e | e<;>omega,?_,⟨t',HZG.out.later HZ6.out⟩,ZX,ZY,HTC.out.trans HT6.out fun _ _ h=>h⟩
    intro q hq
    have hg5:=HS5.out.ch
    have n1:=HSK.out.ne1
    have n2:=HSK.out.ne2
    have hzw:=HZW.out
    have hz5:=HZ5.out
    rcases hq with e | e | e | e | e
    ·exact HT6.out.block q zC (nF q zC zC zC zC)
    ·exact HT6.out.block q zC (nF q zC zC zC zC)
    ·have h6:=(HSK.out.ch.prev.lt _ e).2
     exact HT6.out.block q zC (nF q zC (fun e'=>HSK.out.ne3 (e' ▸ e)) zC zC)
    ·exact HT6.out.block q zC (nF q zC zC zC zC)
    ·exact HT6.out.block q zC (nF q zC zC zC zC)
  ·have b0:decide ((s1.2:Int)<(m:Int))=false:=by simp;omega
   have b0':decide (s1.2<m)=false:=zI
   have hs2:s2=s1:=by
    rw[HSN.out];unfold KD;rw[HMM.out,Ai hgt]
   have HS2:=hid hs2;clear hs2 hgt
   gi_wp2
   refine J3 (fun Z=>Tch (fun q=>q=gs∨q=w1.heap.size∨q=w1.heap.size+1) V Z∧Blk Z gs 388 #[.slice sa b.length sc,.pointer (some ⟨g,0,none⟩),.int .i64 t']∧Blk Z w1.heap.size 3 #[.int .i64 (s2.1:Int)]∧Blk Z (w1.heap.size+1) 3 #[.int .i64 (s2.2:Int)]∧Blk Z w.heap.size 379 #[.pointer (some ⟨gs,0,none⟩)]∧Blk Z (w.heap.size+1) 3 #[.int .i64 (p:Int)])
    ⟨((HUt.out.mono (G:=(fun q=>q=gs∨q=w1.heap.size∨q=w1.heap.size+1)) (fun q _ e=> .inl e)).trans (Tch.AW (F:=(fun q=>q=gs∨q=w1.heap.size∨q=w1.heap.size+1)) HYb.out) fun _ _ h=>h),HYG.out,by rw[HS2.out];exact HYO.out,by rw[HS2.out];exact HYN.out,HY0.out,HY1.out⟩ ?_
   intro Z ⟨zt,zg,zo,zn,z0,z1⟩
   have D0:=fun s:AM Z=>s.cell (show Z.cell? ⟨w.heap.size,0,none⟩=some (.pointer (some ⟨gs,0,none⟩)) from z0.cell 0)
   have D1:=fun s:AM Z=>s.cell (show Z.cell? ⟨w.heap.size+1,0,none⟩=some (.int .i64 (p:Int)) from z1.cell 0)
   have D2:=fun s:AM Z=>s.cell (show Z.cell? ⟨gs,0,none⟩=some (.slice sa b.length sc) from zg.cell 0)
   have D3:=fun s:AM Z=>s.cell (show Z.cell? ⟨w1.heap.size+1,0,none⟩=some (.int .i64 (s2.2:Int)) from zn.cell 0)
   have HZT:=hid zt;have HZG:=hid zg;have HZO:=hid zo;have HZN:=hid zn
   clear zt zg zo zn z0 z1
   have i5:(p:Int)+(s2.2:Int)≤2097152:=zC
   by_cases heq:p+s2.2=b.length
   ·have b1:((p:Int)+(s2.2:Int)==(b.length:Int))=true:=by simp;omega
    have HEQ:=hid heq;clear heq
    refine Di zJ zJ zJ ?_
    repeat (gi_big_quiet_step (fail))
    refine wpQuietIn_nil ?_
    rintro W6 ⟨⟨Z6,hZ6⟩,rfl⟩
    have ht6:=HZT.out.trans (Tch.AW (F:=fun q=>q=gs∨q=w1.heap.size∨q=w1.heap.size+1) hZ6) fun _ _ h=>h
    have HT6:=hid ht6;clear ht6
    have HZ6:=hid hZ6;clear hZ6
    clear D0 D1 D2 D3
    gi_wp2
    exact⟨Gi HT6.out fun q hq=>by rcases hq with e | e | e<;>omega,rfl,by rw[HBL.out];exact HEQ.out,⟨t',HZG.out.later HZ6.out⟩,ZX,ZY,HTC.out.trans HT6.out fun _ _ h=>h⟩
   ·have b1:((p:Int)+(s2.2:Int)==(b.length:Int))=false:=by simp;omega
    clear heq
    refine Di zJ zJ zJ ?_
    repeat (gi_big_quiet_step (fail))
    refine wpQuietIn_nil ?_
    rintro W6 ⟨⟨Z6,hZ6⟩,rfl⟩
    have ht6:=HZT.out.trans (Tch.AW (F:=fun q=>q=gs∨q=w1.heap.size∨q=w1.heap.size+1) hZ6) fun _ _ h=>h
    have HT6:=hid ht6;clear ht6
    have HZ6:=hid hZ6;clear hZ6
    clear D0 D1 D2 D3
    gi_wp2
    refine⟨Gi HT6.out fun q hq=>by rcases hq with e | e | e<;>omega,?_,⟨t',HZG.out.later HZ6.out⟩,ZX,ZY,HTC.out.trans HT6.out fun _ _ h=>h⟩
    intro q hq
    have hg5:=HS5.out.ch
    have n1:=HSK.out.ne1
    have n2:=HSK.out.ne2
    have hzw:=HZW.out
    have hz5:=HZ5.out
    rcases hq with e | e | e | e | e
    ·exact HT6.out.block q zC (nF q zC zC zC zC)
    ·exact HT6.out.block q zC (nF q zC zC zC zC)
    ·have h6:=(HSK.out.ch.prev.lt _ e).2
     exact HT6.out.block q zC (nF q zC (fun e'=>HSK.out.ne3 (e' ▸ e)) zC zC)
    ·exact HT6.out.block q zC (nF q zC zC zC zC)
    ·exact HT6.out.block q zC (nF q zC zC zC zC)
 case done=>
  rintro D ys V hD hys ⟨hg',h2,h3,h4⟩ hK
  subst hys
  have hbd:=V3 b p
  have hbb:=Jw b p (placesOf b p)
  generalize hs1:Fz b p (placesOf b p)=s1 at*
  have k1:V.cell? ⟨w1.heap.size,0,none⟩=some (.int .i64 (s1.1:Int)):=h2.cell 0
  have k2:V.cell? ⟨w1.heap.size+1,0,none⟩=some (.int .i64 (s1.2:Int)):=h3.cell 0
  have HBD:=hid hbd;have HG':=hid hg';have HT4:=hid h4;have HKK:=hid hK
  clear hbd hs1 hg' h2 h3 h4 hK
  go_wp2_with fail
  refine (M0 _ _ _).mono ?_
  rintro r w9 ⟨rfl,rfl⟩
  have hif:∃v1 v2:Nat,Ci b p=(v1,v2)∧(if (s1.2:Int)<4 then (0:Int) else (s1.1:Int))=(v1:Int)∧(if (s1.2:Int)<4 then (0:Int) else (s1.2:Int))=(v2:Int):=by
   by_cases h4:s1.2<4
   ·exact⟨0,0,zBj,zAl,zAl⟩
   ·exact⟨s1.1,s1.2,zBk,ZQ,ZQ⟩
  obtain⟨v1,v2,hv,hv1,hv2⟩:=hif
  rw[hv1,hv2]
  have HV:=hid hv;clear hv hv1 hv2
  go_wp2
  refine⟨zM,.inl ⟨_,_,rfl,run_takeDeferred HKK.out,?_⟩⟩
  have hTf:Tch (fun q=>q=gs) w1 (V.putObj D (.deferred none)):=by
   have hg8:=grownBy_putObj' V D (.deferred none)
   have e5:=HB5.out
   have ez:=HZW.out
   have ez5:=HZ5.out
   have hsz4:=HT4.out.size
   refine⟨hg8.os.trans (HT4.out.os.trans (e5.os.trans hbW.os)),hg8.tape.trans (HT4.out.tape.trans (e5.tape.trans hbW.tape)),hg8.output.trans (HT4.out.output.trans (e5.output.trans hbW.output)),by have:=hg8.size;omega,fun q hq hne=> ?_⟩
   exact (hg8.block q zC (fun e=>by have:=AR e;omega)).trans ((HT4.out.block q zC (fun e=>by rcases e with e | e | e<;>omega)).trans ((e5.block q zC).trans (hbW.block q hq)))
  have hsf:JB (V.putObj D (.deferred none)) gs g mb base lo hi b p sa sc ab cb a1 c1':=HSK.out.Wl hTf (by
   obtain⟨t,ht⟩:=HG'.out
   exact⟨t,(World.putObj_heap_other (by have:=HZ5.out;omega)).trans ht⟩)
  have hstep:QH w gs g mb base lo hi b n p sa sc ab cb ap cp (V.putObj D (.deferred none)):=⟨a1,c1',hsf,HTW.out.trans hTf (fun q _ e=> .inl e),HOW.out⟩
  have HST:=hid hstep;clear hstep hsf hTf
  refine⟨.tuple #[.int .i64 ((Ci b p).1:Int),.int .i64 ((Ci b p).2:Int)],?_,rfl,HST.out⟩
  rw[HV.out]
  simp[results,Tryz.f374,go_sem]
 case stop=>
  rintro D c pre V hD hpre ⟨hc,hl,hg',h2,h3,h4⟩ hK
  subst hc
  have hbd:=V2 hpre hp hl
  have hbb:=Jw b p pre
  generalize hs1:Fz b p pre=s1 at*
  have k1:V.cell? ⟨w1.heap.size,0,none⟩=some (.int .i64 (s1.1:Int)):=h2.cell 0
  have k2:V.cell? ⟨w1.heap.size+1,0,none⟩=some (.int .i64 (s1.2:Int)):=h3.cell 0
  have HBD:=hid hbd;have HG':=hid hg';have HT4:=hid h4;have HKK:=hid hK
  clear hbd hs1 hg' h2 h3 h4 hK hl
  refine wpIn_wide.2 ?_
  go_wp2_with fail
  refine (M0 _ _ _).mono ?_
  rintro r w9 ⟨rfl,rfl⟩
  have hif:∃v1 v2:Nat,Ci b p=(v1,v2)∧(if (s1.2:Int)<4 then (0:Int) else (s1.1:Int))=(v1:Int)∧(if (s1.2:Int)<4 then (0:Int) else (s1.2:Int))=(v2:Int):=by
   by_cases h4:s1.2<4
   ·exact⟨0,0,zBj,zAl,zAl⟩
   ·exact⟨s1.1,s1.2,zBk,ZQ,ZQ⟩
  obtain⟨v1,v2,hv,hv1,hv2⟩:=hif
  rw[hv1,hv2]
  have HV:=hid hv;clear hv hv1 hv2
  go_wp2
  refine⟨zM,.inl ⟨_,_,rfl,run_takeDeferred HKK.out,?_⟩⟩
  have hTf:Tch (fun q=>q=gs) w1 (V.putObj D (.deferred none)):=by
   have hg8:=grownBy_putObj' V D (.deferred none)
   have e5:=HB5.out
   have ez:=HZW.out
   have ez5:=HZ5.out
   have hsz4:=HT4.out.size
   refine⟨hg8.os.trans (HT4.out.os.trans (e5.os.trans hbW.os)),hg8.tape.trans (HT4.out.tape.trans (e5.tape.trans hbW.tape)),hg8.output.trans (HT4.out.output.trans (e5.output.trans hbW.output)),by have:=hg8.size;omega,fun q hq hne=> ?_⟩
   exact (hg8.block q zC (fun e=>by have:=AR e;omega)).trans ((HT4.out.block q zC (fun e=>by rcases e with e | e | e<;>omega)).trans ((e5.block q zC).trans (hbW.block q hq)))
  have hsf:JB (V.putObj D (.deferred none)) gs g mb base lo hi b p sa sc ab cb a1 c1':=HSK.out.Wl hTf (by
   obtain⟨t,ht⟩:=HG'.out
   exact⟨t,(World.putObj_heap_other (by have:=HZ5.out;omega)).trans ht⟩)
  have hstep:QH w gs g mb base lo hi b n p sa sc ab cb ap cp (V.putObj D (.deferred none)):=⟨a1,c1',hsf,HTW.out.trans hTf (fun q _ e=> .inl e),HOW.out⟩
  have HST:=hid hstep;clear hstep hsf hTf
  refine⟨.tuple #[.int .i64 ((Ci b p).1:Int),.int .i64 ((Ci b p).2:Int)],?_,rfl,HST.out⟩
  rw[HV.out]
  simp[results,Tryz.f374,go_sem]
open Go.RowKit Go.Bs Go.Maps
def YZ(w:World)(b:List UInt8)(r:Ending)(w':World):Prop:=∃g mb ab cb,r=.returned (.pointer (some ⟨g,0,none⟩))∧LV w' g mb w.heap.size b 0 ab cb none 0∧Below w.heap.size w w'∧w.heap.size≤g∧w.heap.size≤mb∧Am.r (fun q=>w.heap.size≤q∧q<w'.heap.size∧q≠g∧q≠mb) w' [.slice ab b.length cb] b
theorem VS(w:World)(b:List UInt8)(a:Option Addr)(n c:Nat)(hl:Am.r (·<w.heap.size) w [.slice a n c] b)(hlen:b.length≤1048576):
  Calls Tryz.prog 378 #[.slice a n c] w (YZ w b):=by
 obtain⟨rfl,hm,_,_⟩:=AL hl
 obtain⟨i0,hi,hz0,hz1,hz2⟩:=A5 FL
 have HS:=hid (fun (W:World) (hW:Below w.heap.size w W)=>Cm (lift hl hW))
 have HONE:=hid (Bi b)
 clear hl
 have hmm:=@run_makeMap Tryz.prog
 go_enter Tryz.func378,Tryz.ntmps378
 go_wp2_with (at_builtin;go_loud (refine AB rfl _ _ _ rfl w.heap.size 5 i0 (.int .u8 0) 1 1 AJ hi hz0 hz1 hz2 rfl zL _ 0 [] rfl (EO _ (As _) rfl) a b.length c (byteCells b) rfl (HS.out _ zB) HONE.out zO zC zM ?_;intro v' w1 hown1 hgrow1 hat1;rw[A7,AG] at hown1;obtain⟨a',c',rfl⟩:=AV hown1;have hz1':w.heap.size+1≤w1.heap.size:=(by have:=hgrow1.size;simpa using this);have HG:=hid hgrow1;have HO:=hid hown1;have HAT:=hid hat1;clear hgrow1 hown1 hat1))
 have hA:=CG rfl HO.out
 have hfin:YZ w b (.returned (.pointer (some ⟨w1.heap.size+1,0,none⟩))) ((w1.alloc (.map #[] 0)).alloc (.cells #[.slice a' b.length c',.map (some w1.heap.size),.slice none 0 0] 395)):=by
  have hsz:((w1.alloc (.map #[] 0)).alloc (.cells #[.slice a' b.length c',.map (some w1.heap.size),.slice none 0 0] 395)).heap.size=w1.heap.size+2:=zM
  have keep:∀q,q<w1.heap.size→((w1.alloc (.map #[] 0)).alloc (.cells #[.slice a' b.length c',.map (some w1.heap.size),.slice none 0 0] 395)).heap[q]? =w1.heap[q]? :=fun q hq=>(AN _ _ q zI).trans (AN _ _ q hq)
  refine⟨w1.heap.size+1,w1.heap.size,a',c',rfl,⟨Blk.newAt _ _ _ zM,?_,⟨.map [],(World.ownsMap_made w1 _ _ _).alloc _,fun k _=>rfl⟩,⟨by simp[JS],.inl ⟨rfl,rfl⟩⟩,zC,ZU,ZU,zC,Ar _,hlen⟩,?_,zC,zC,?_⟩
  ·exact Am.mono (Am.keep hA fun q hq=>keep q hq.2) fun q hq=>⟨zAp,zC,zC,ZU⟩
  ·have hb1:Below w.heap.size w w1:=Below.grown zB HG.out zM (fun g e=>by
    have e':some w.heap.size=some g:=e
    injection e' with e'
    omega)
   (repeat (first | exact Below.refl _ _ | assumption | (refine Aw ?_ _) | (refine Below.setCell ?_ zE _) | (refine Below.drew ?_) | (refine below_drewN ?_ _) | (refine Aj zK ?_)))
  ·exact Am.mono (Am.keep hA fun q hq=>keep q hq.2) fun q hq=>⟨hq.1,zAp,zC,zC⟩
 have HF:=hid hfin;clear hfin hA
 go_ret
 exact HF.out
def YY(w:World)(b:List UInt8)(r:Ending)(w':World):Prop:=∃gs g mb base sa sc ab cb,r=.returned (.pointer (some ⟨gs,0,none⟩))∧JB w' gs g mb base w.heap.size w'.heap.size b 0 sa sc ab cb none 0∧Below w.heap.size w w'∧w.heap.size≤gs∧w.heap.size≤g∧w.heap.size≤mb∧w.heap.size≤base
theorem Ww(w:World)(b:List UInt8)(a:Option Addr)(n c:Nat)(hl:Am.r (·<w.heap.size) w [.slice a n c] b)(hlen:b.length≤1048576):
  Calls Tryz.prog 373 #[.slice a n c] w (YY w b):=by
 obtain⟨rfl,hm,_,_⟩:=AL hl
 obtain⟨i0,hi,hz0,hz1,hz2⟩:=A5 FL
 have HS:=hid (fun (W:World) (hW:Below w.heap.size w W)=>Cm (lift hl hW))
 have HONE:=hid (Bi b)
 have HL:=hid hl
 clear hl
 go_enter Tryz.func373,Tryz.ntmps373
 go_wp2_with (at_builtin;go_loud (refine AB rfl _ _ _ rfl w.heap.size 5 i0 (.int .u8 0) 1 1 AJ hi hz0 hz1 hz2 rfl zL _ 0 [] rfl (EO _ (As _) rfl) a b.length c (byteCells b) rfl (HS.out _ zB) HONE.out zO zC zM ?_;intro v' w1 hown1 hgrow1 hat1;rw[A7,AG] at hown1;obtain⟨a',c',rfl⟩:=AV hown1;have hz1':w.heap.size+1≤w1.heap.size:=(by have:=hgrow1.size;simpa using this);have HG:=hid hgrow1;have HO:=hid hown1;have HAT:=hid hat1;clear hgrow1 hown1 hat1))
 have hb1:Below w.heap.size w w1:=Below.grown zB HG.out zM (fun g e=>by
  have e':some w.heap.size=some g:=e
  injection e' with e'
  omega)
 refine (VS w1 b _ _ _ (lift HL.out hb1) hlen).mono ?_
 rintro r w2 ⟨g,mb,ab,cb,rfl,hch,hb2,hg,hmb,hbb⟩
 have hA:=CG rfl HO.out
 have hs2:=hb2.size
 have hgl:=hch.blk.lt
 have hml:mb<w2.heap.size:=by obtain⟨D,hD,_⟩:=hch.map;exact hD.lt
 have hsz:(w2.alloc (.cells #[.slice a' b.length c',.pointer (some ⟨g,0,none⟩),.int .i64 0] 388)).heap.size=w2.heap.size+1:=zM
 have keep:∀q,q<w2.heap.size→(w2.alloc (.cells #[.slice a' b.length c',.pointer (some ⟨g,0,none⟩),.int .i64 0] 388)).heap[q]? =w2.heap[q]? :=fun q hq=>AN _ _ q hq
 have hfin:YY w b (.returned (.pointer (some ⟨w2.heap.size,0,none⟩))) (w2.alloc (.cells #[.slice a' b.length c',.pointer (some ⟨g,0,none⟩),.int .i64 0] 388)):=by
  refine⟨w2.heap.size,g,mb,w1.heap.size,a',c',ab,cb,rfl,⟨⟨0,Blk.newAt _ _ _ zM⟩,?_,hch.later zB,?_,zC,zC,ZU,As _⟩,?_,zC,zC,zC,zC⟩
  ·exact Am.mono (Am.keep hA fun q hq=>(keep q zC).trans (hb2.block q hq.2)) fun q hq=>⟨⟨zC,zAp⟩,zC,zC,zC,ZU⟩
  ·exact Am.mono (Am.keep hbb fun q hq=>keep q hq.2.1) fun q hq=>⟨⟨zC,zAp⟩,zC,hq.2.2.1,hq.2.2.2,ZU⟩
  ·exact (hb1.trans (hb2.mono zC)).alloc zC _
 have HF:=hid hfin;clear hfin hA hch hbb
 go_wp2
 go_ret
 exact HF.out
end Go.Proofs.YtfddhafbhceoaaaGreat
namespace Go.Bs
open Go.RowKit
variable{base c g i sz:Nat}{F:Nat → Prop}{e:TypeId}{v:Value}{W W' w:World}
section
variable {w w':World} {α:Type}
theorem Jn(sz:Nat):∀(l:List (List Value)),(∀c∈l,c.length=sz)→l.flatten.length=l.length*sz
 | [],_=>by simp
 | a::l,h=>by
  rw[FU,Al,h a zM,Jn sz l fun c hc=>h c (by simp[hc]),Ay,Nat.succ_mul]
  omega
def AY(F:Nat→Prop)(A:Rp α)(base:Nat)(e:TypeId)(sz:Nat)(w:World)(v:Value)(xs:List α)(cells:List (List Value)):Prop:=
 w.ownsRow base e sz v xs.length cells.flatten∧cells.length=xs.length∧(∀c∈cells,c.length=sz)∧
  ∀(i:Nat) cs x,cells[i]? =some cs→xs[i]? =some x→A.r (fun b=>F b∧v.ownBlock≠some b) w cs x
theorem AY.of{lo:Nat}{A:Rp α}{base:Nat}{e:TypeId}{sz:Nat}{v:Value}{xs:List α}{cells:List (List Value)}(h:Dd lo A base e sz w v xs cells):AY (fun b=>lo≤b∧b<w.heap.size) A base e sz w v xs cells:=
 ⟨h.1,h.2.1,h.2.2.1,fun i cs x hi hx=>A.mono (h.2.2.2 i cs x hi hx) fun b hb=>⟨⟨hb.1,hb.2.1⟩,hb.2.2⟩⟩
theorem AY.to{lo:Nat}{A:Rp α}{xs:List α}{cells:List (List Value)}(h:AY F A base e sz w v xs cells)(hF:∀b,F b→lo≤b∧b<w.heap.size):Dd lo A base e sz w v xs cells:=
 ⟨h.1,h.2.1,h.2.2.1,fun i cs x hi hx=>A.mono (h.2.2.2 i cs x hi hx) fun b hb=>⟨(hF b hb.1).1,(hF b hb.1).2,hb.2⟩⟩
theorem AY.keep{A:Rp α}{xs:List α}{cells:List (List Value)}(h:AY F A base e sz w v xs cells)(hF:∀b,F b→w'.heap[b]? =w.heap[b]?)(hv:∀g,v.ownBlock=some g→w'.heap[g]? =w.heap[g]?):AY F A base e sz w' v xs cells:=by
 obtain⟨ho,hlen,hsz,hA⟩:=h
 refine⟨⟨ho.1,?_⟩,hlen,hsz,fun i cs x hi hx=>A.keep (hA i cs x hi hx) fun b hb=>hF b hb.1⟩
 rcases ho.2 with h0 | ⟨g,cap,cur,h1,h2,h3,h4⟩
 ·exact .inl h0
 ·exact .inr ⟨g,cap,cur,h1,h2,by rw[hv g (by rw[h1];rfl)];exact h3,h4⟩
theorem AY.mono{F':Nat→Prop}{A:Rp α}{xs:List α}{cells:List (List Value)}(h:AY F A base e sz w v xs cells)(hF:∀b,F b→F' b):AY F' A base e sz w v xs cells:=
 ⟨h.1,h.2.1,h.2.2.1,fun i cs x hi hx=>A.mono (h.2.2.2 i cs x hi hx) fun b hb=>⟨hF b hb.1,hb.2⟩⟩
theorem AY.nil{A:Rp α}:AY F A base e sz w (.slice none 0 0) [] []:=
 ⟨⟨zM,.inl ⟨rfl,rfl⟩⟩,rfl,zM,fun i cs x h=>by simp at h⟩
theorem AY.push{F:Nat→Prop}{A:Rp α}{base:Nat}{e:TypeId}{sz:Nat}{v v':Value}{xs:List α}{news:List Value}{x:α}{cells:List (List Value)}(h:AY F A base e sz w v xs cells)(hF:∀b,F b→b<w.heap.size)
 (hn:news.length=sz) (hx:A.r (fun b=>F b∧v.ownBlock≠some b) w news x)
 (hown:w'.ownsRow base e sz v' (xs.length+1) (cells.flatten++news)) (hg:w.grownBy w' v.ownBlock) (hat:v'.ownBlock=v.ownBlock∨v'.ownBlock=some w.heap.size):AY F A base e sz w' v' (xs++[x]) (cells++[news]):=by
 obtain⟨ho,hlen,hsz,hA⟩:=h
 have lift:∀cs y,A.r (fun b=>F b∧v.ownBlock≠some b) w cs y→A.r (fun b=>F b∧v'.ownBlock≠some b) w' cs y:=fun cs y hr=>
  A.mono (A.keep hr fun b hb=>hg.block b (hF b hb.1) (fun e=>hb.2 e.symm)) fun b hb=>⟨hb.1,fun e=>by
   rcases hat with h | h
   ·exact hb.2 (h ▸ e)
   ·rw[h] at e;have:=AR e;have:=hF b hb.1;omega⟩
 refine⟨?_,by simp[hlen],?_,?_⟩
 ·rw[EK,Al]
  simpa using hown
 ·intro c hc
  rcases List.mem_append.1 hc with h | h
  ·exact hsz c h
  ·simp at h;subst h;exact hn
 ·intro i cs y hi hy
  by_cases hlt:i<xs.length
  ·rw[Cp zC] at hi
   rw[Cp hlt] at hy
   exact lift _ _ (hA i cs y hi hy)
  ·have hii:i=xs.length:=by
    have:=(List.getElem?_eq_some_iff.1 hy).1
    simp at this
    omega
   subst hii
   rw[CP zC] at hi
   rw[CP (As _)] at hy
   simp[hlen] at hi
   simp at hy
   subst hi hy
   exact lift _ _ hx
theorem AY.slice{F:Nat→Prop}{A:Rp α}{v:Value}{xs:List α}{cells:List (List Value)}(h:AY F A base e sz w v xs cells):(rSl sz A).r (fun b=>F b∨v.ownBlock=some b) w [v] xs:=by
 obtain⟨hown,hlen,hsz,hA⟩:=h
 rcases hown.2 with ⟨rfl,h0⟩ | ⟨g,cap,cur,rfl,hbg,hg,hn,hc,hcur,hx⟩
 ·have:xs=[]:=AQ h0
  subst this
  exact Bv rfl (As _) (Ar _) (.inl rfl)
 ·refine Bv rfl hn hc (.inr ⟨g,0,rfl,.inr rfl,fun i x hi=> ?_⟩)
  have hi':i<xs.length:=(List.getElem?_eq_some_iff.1 hi).1
  have hic:i<cells.length:=zC
  have hcs:cells[i]? =some cells[i]:=AF hic
  refine⟨cells[i],hsz _ (A0 hic),fun j v hj=> ?_,A.mono (hA i _ x hcs hi) fun b h=> .inl h.1⟩
  have hj':j<sz:=ZC
  have hf:=GX sz cells hsz i j _ v hcs hj
  rw[A7,Blk.cell hg (i*sz+j)]
  have hb:i*sz+j<xs.length*sz:=by
   have:=CO sz (show i+1≤xs.length from hi')
   rw[Nat.succ_mul] at this
   omega
  have e1:cur[i*sz+j]? =(cur.toList.take (xs.length*sz))[i*sz+j]? :=by
   rw[DS,Ag hb];simp
  rw[e1,hx];exact hf
def rBV:Rp (Batch ⊕ (Int × Int × Value)):=
  ⟨fun S w cs x=>match x with | .inl b=>Gv.r S w cs b | .inr y=>cs=[.int .u64 y.1,.int .u64 y.2.1,y.2.2],
   fun {S w w' cs x} h hk=>by cases x with | inl b=>exact Gv.keep h hk | inr y=>exact h,
   fun {S S' w cs x} h hk=>by cases x with | inl b=>exact Gv.mono h hk | inr y=>exact h⟩
structure Aaz(lo:Nat)(TB TE:TypeId)(w:World)(g c:Nat)(cells:List (List Value))(s:Nat)(bs0:List Batch)(e b:Int)(es:List Entry)(vl:Value):Prop where
 own:AY (fun x=>lo≤x∧x<s) rBV lo TB 3 w (.slice (some ⟨g,0,none⟩) (bs0.length+1) c) (bs0.map .inl++[.inr (e,b,vl)]) (cells++[[.int .u64 e,.int .u64 b,vl]])
 len:cells.length=bs0.length
 lt:g<s
 le:s≤w.heap.size
 last:A8 s M7 s TE 2 w vl es
 he:0≤e∧e≤18446744073709551615
 hb:0≤b∧b≤18446744073709551615
theorem AY.inl{xs:List Batch}{cells:List (List Value)}(h:AY F Gv base e sz w v xs cells):AY F rBV base e sz w v (xs.map .inl) cells:=by
 obtain⟨ho,hlen,hsz,hA⟩:=h
 refine⟨by simpa using ho,by simpa using hlen,hsz,fun i cs x hi hx=> ?_⟩
 rw[FT] at hx
 cases hxi:xs[i]? with
 | none=>rw [hxi] at hx;cases hx
 | some y=>rw [hxi] at hx;cases hx;exact hA i cs y hi hxi
theorem Aaz.keep{lo:Nat}{TB TE:TypeId}{cells:List (List Value)}{s:Nat}{bs0:List Batch}{e b:Int}{es:List Entry}{vl:Value}(h:Aaz lo TB TE w g c cells s bs0 e b es vl)(p:Nat)(hp:p<lo)
 (hk:∀b,b<w.heap.size→b≠p→w'.heap[b]? =w.heap[b]?) (hs:w.heap.size≤w'.heap.size):Aaz lo TB TE w' g c cells s bs0 e b es vl:=by
 obtain⟨ho,h1,h2,h3,h4,h5,h6⟩:=h
 have hlo:lo≤g:=by
  rcases ho.1.2 with ⟨h0,_⟩ | ⟨g',cap,cur,hv,hb,_⟩
  ·cases h0
  ·simp at hv
   omega
 refine⟨ho.keep (fun b hb=>hk b zC zC) (fun g' hg'=>hk g' (by simp[Value.ownBlock] at hg';omega) (by simp[Value.ownBlock] at hg';omega)),h1,h2,zC,?_,h5,h6⟩
 obtain⟨cs,hc⟩:=h4
 have h8:=(AY.of hc).keep (w':=w') (fun b hb=>hk b hb.2 zC) (fun g' hg'=>hk g' (hc.1.lt g' hg').2 (by have:=(hc.1.lt g' hg').1;omega))
 exact⟨cs,h8.to fun b hb=>⟨hb.1,zC⟩⟩
end
open Go.RowKit
def FG(o:Oper):Oper:={o with op:=.move (.const (.bool true)),guard:=none}
def BD:List Oper→List Oper
 | []=>[]
 | [o]=>[FG o]
 | o::p::l=>o::BD (p::l)
theorem Fs:∀l,(BD l).length=l.length
 | []=>rfl
 | [_]=>rfl
 | _::p::l=>by simp[BD,Fs (p::l)]
theorem FH:∀(l:List Oper) (i:Nat),(BD l)[i]? =if i+1=l.length then (l[i]?).map FG else l[i]?
 | [],i=>by simp[BD]
 | [o],i=>by
  cases i with
  | zero=>simp [BD]
  | succ i=>simp [BD]
 | o::p::l,i=>by
  cases i with
  | zero=>simp [BD]
  | succ i=>
   have:=FH (p::l) i
   simp only[BD,List.getElem?_cons_succ,Ay] at*
   rw[this]
   by_cases h:i+1=l.length+1
   ·rw[Ag h,Ag zC]
   ·rw[Ai h,Ai zC]
def WU(md:Region.Mode)(l:List Oper):Bool:=
 (match l.getLast? with | none=>false | some o=>o.dst.isNone&&o.guard.isNone)&&(Region.sinkB md l.toArray (l.length-1)&&Region.chainB md l.toArray (l.length-1))&&
  (List.range l.length).all fun i=>match l[i]? with | none=>true | some o=>o.after.all fun e=>decide (e.on<i)
section
variable {P:Program} {md:Region.Mode}
theorem Kd(l:List Oper)(listed:Array Bool):Region.ready md (BD l).toArray listed=Region.ready md l.toArray listed:=by
 unfold Region.ready
 simp only[List.size_toArray,Fs]
 refine List.filter_congr fun i _=> ?_
 simp only[Hb,FH]
 by_cases h:i+1=l.length
 ·rw[Ag h]
  cases l[i]? <;>rfl
 ·rw[Ai h]
theorem PE(l:List Oper)(t:Array Value):yielded (BD l).toArray t=yielded l.toArray t:=by
 funext j
 unfold yielded
 simp only[Hb,FH]
 by_cases h:j+1=l.length
 ·rw[Ag h]
  cases l[j]? <;>rfl
 ·rw[Ai h]
theorem Sx{ops:Array Oper}{Q Q':Exit→Act→World→Prop}{K:Act→World→Prop}{a:Act}{w:World}(hQ:∀e a w,e≠ .normal→Q' e a w→Q e a w)(h:wpOp P ops Q' i K a w):wpOp P ops Q i K a w:=by
 unfold wpOp at*
 split
 ·rename_i ho
  simp only[ho] at h
  exact h
 ·rename_i o ho
  simp only[ho] at h
  split
  ·rename_i hw
   simp only[hw,IL] at h
   have hl:LetsOut Q'→LetsOut Q:=fun ⟨a,w,h⟩=>⟨a,w,hQ _ _ _ zM h⟩
   rcases h with h | ⟨h1,h2⟩
   ·left
    unfold Oper.wp at*
    generalize (execOp a.eval o).run P w=r at*
    cases r with
    | ok n w'=>
     cases n<;>simp only[Oper.upon] at h ⊢
     case value u=>exact h
     case skip=>exact h
     case defer d=>exact h
     case enter f args=>
      refine Calls.mono h fun e w'' he=> ?_
      cases e with
      | returned u=>exact he
      | panicked c=>exact hQ _ _ _ zM he
      | outgrown=>exact hl he
     case row row args=>exact h
    | halt x w'=>
     cases x<;>simp only[Oper.upon] at h ⊢
     case panic u=>exact hQ _ _ _ zM h
   ·exact .inr ⟨h1,hl h2⟩
  ·rename_i hw
   simp only[hw] at h
   exact h
theorem UE{l:List Oper}{Q:Exit→Act→World→Prop}{K:Act→World→Prop}{a:Act}(hi:i+1≠l.length)(h:wpOp P (BD l).toArray Q i K a w):wpOp P l.toArray Q i K a w:=by
 unfold wpOp at*
 rw[PE] at h
 simp only[Hb,FH,Ai hi] at h ⊢
 exact h
def Ro(P:Program)(l:List Oper)(o:Oper)(Q:Exit→Act→World→Prop):Exit→Act→World→Prop
 | .normal,a,w=>wpList P l.toArray Q [o] a w
 | e,a,w=>Q e a w
theorem Rn{l:List Oper}{o:Oper}{Q:Exit→Act→World→Prop}{e:Exit}{a:Act}(he:e≠ .normal)(h:Ro P l o Q e a w):Q e a w:=by
 cases e<;>first | exact h | exact absurd rfl he
theorem Kc{ops:Array Oper}{listed:Array Bool}(hd:∀(i:Nat) (o:Oper),ops[i]? =some o→∀e∈o.after,e.on<i)(hs:listed.size=ops.size):∀(n j:Nat),j<n→j<ops.size→listed.getD j true=false→Region.ready md ops listed≠[]
 | 0,j,h,_,_=>by omega
 | n+1,j,h,hj,hl=>by
  intro h0
  have hr:j∉Region.ready md ops listed:=by rw[h0];simp
  apply hr
  rw[mem_ready]
  have ho:ops[j]? =some ops[j]:=Array.getElem?_eq_getElem hj
  refine⟨hl,ops[j],ho,fun e he hb=> ?_⟩
  have hlt:=hd j _ ho e he
  cases hg:listed.getD e.on false with
  | true=>rfl
  | false=>exact absurd h0 (Kc hd hs n e.on zC zC (getD_in zC hg))
theorem MP{l:List Oper}{o:Oper}{Q:Exit→Act→World→Prop}(hlast:l[l.length-1]? =some o)(hpos:0<l.length)(hdst:o.dst=none)(hgd:o.guard=none)
 (hs1:Region.sinkB md l.toArray (l.length-1)=true) (hc1:Region.chainB md l.toArray (l.length-1)=true) (hd:∀(i:Nat) (o:Oper),l.toArray[i]? =some o→∀e∈o.after,e.on<i):
  ∀(fuel:Nat) (listed:Array Bool) (a:Act) (w:World),HeadInv md l.toArray (l.length-1) listed→
   wpAny P md (BD l).toArray (Ro P l o Q) fuel listed a w→wpAny P md l.toArray Q fuel listed a w
 | 0,listed,a,w,inv,h=>by
  have hs:listed.size=l.length:=by simpa using inv.size
  have hl:=inv.tail (l.length-1) (As _) zI
  exact absurd (by rw[←Kd];exact h.1) (Kc (md:=md) hd (by simpa using hs) _ _ (Nat.lt_succ_self _) zI hl)
 | fuel+1,listed,a,w,inv,h=>by
  have hs:listed.size=l.length:=by simpa using inv.size
  have hl:=inv.tail (l.length-1) (As _) zI
  have hne:=Kc (md:=md) hd (by simpa using hs) _ _ (Nat.lt_succ_self _) zI hl
  refine⟨fun h0=>absurd h0 hne,fun i hi=> ?_⟩
  have h2:=h.2 i (by rw[Kd];exact hi)
  by_cases hin:i+1=l.length
  ·
   obtain rfl:i=l.length-1:=zC
   have hr:=mem_ready.1 hi
   have hall:∀j,j<l.length→(listed.setIfInBounds (l.length-1) true).getD j true=true:=by
    intro j hj
    by_cases hjl:j=l.length-1
    ·subst hjl;simp[hs]
    ·rw[getD_set_ne true zC]
     cases hg:listed.getD j true with
     | true=>rfl
     | false=>exact absurd hi (tail_waits hs1 hc1 zI inv _ j rfl zC hg _ (As _))
   have hrd:Region.ready md l.toArray (listed.setIfInBounds (l.length-1) true)=[]:=by
    rw[List.eq_nil_iff_forall_not_mem]
    intro j hj
    obtain⟨h1,o',ho',_⟩:=mem_ready.1 hj
    have hjl:j<l.length:=by
     have:=(Array.getElem?_eq_some_iff.1 ho').1
     simpa using this
    rw[hall j hjl] at h1
    cases h1
   have hQ:wpList P l.toArray Q [o] a w:=by
    unfold wpOp at h2
    simp only[Hb,FH,Ag (show l.length-1+1=l.length by omega),hlast,Option.map_some] at h2
    have hwant:Region.wanted (FG o) (yielded (BD l).toArray a.tmps)=true:=rfl
    rw[Ag hwant] at h2
    rcases h2 with h2 | ⟨h2,_⟩
    ·have h3:wpAny P md (BD l).toArray (Ro P l o Q) fuel (listed.setIfInBounds (l.length-1) true) (a.put (FG o).dst (.bool true)) w:=h2
     have h4:(FG o).dst=none:=hdst
     rw[h4] at h3
     cases fuel with
     | zero=>exact h3.2
     | succ f=>exact h3.1 (by rw[Kd];exact hrd)
    ·exfalso
     simp only[Oper.asks,FG,execOp] at h2
     have h5:=h2.1
     have h6:noRoomEvent∈(#[]:Array Event):=h5
     simp at h6
   unfold wpOp
   simp only[Hb,hlast]
   have hwant:Region.wanted o (yielded l.toArray a.tmps)=true:=by simp[Region.wanted,hgd]
   rw[Ag hwant]
   unfold wpList at hQ
   rw[Ag hwant] at hQ
   refine hQ.imp (fun h=>Oper.wp_mono (fun a' w' h'=> ?_) h) id
   cases fuel with
   | zero=>exact ⟨hrd,h'⟩
   | succ f=>exact ⟨fun _=>h',by rw[hrd];simp⟩
  ·refine Sx (fun e a w he h=>Rn he h) (UE hin (wpOp_mono (fun a' w' h'=> ?_) h2))
   exact MP hlast hpos hdst hgd hs1 hc1 hd fuel _ a' w' (inv.set hi (by
    have:=(mem_ready.1 hi).2
    obtain⟨o',ho',_⟩:=this
    have:=(Array.getElem?_eq_some_iff.1 ho').1
    simp at this
    omega)) h'
theorem MO{id:Nat}{Q:Exit→Act→World→Prop}{a:Act}{w:World}{l:List Oper}(o:Oper)(hm:P.follows .mixedOrders=true)(ho:l[l.length-1]? =some o)(hB:WU .any l=true)
 (h:wpAny P .any (BD l).toArray (Ro P l o Q) (BD l).toArray.size (Array.replicate (BD l).toArray.size false) a {w with drawn:=w.drawn+1}):(Code.region id l.toArray true).wp P Q a w:=by
 have hpos:0<l.length:=by
  rcases DR l.length with h | h
  ·rw[AQ h] at ho;simp at ho
  ·exact h
 simp only[WU,Ap] at hB
 obtain⟨⟨h1,h2,h2'⟩,h3⟩:=hB
 rw[List.getLast?_eq_getElem?,ho] at h1
 simp only[Ap,Option.isNone_iff_eq_none] at h1
 have inv0:HeadInv .any l.toArray (l.length-1) (Array.replicate l.toArray.size false):=
  ⟨zM,fun j oj _ hl=>(by rw[getD_replicate_false] at hl;cases hl),fun t _ ht=>getD_in (by simpa using ht) (getD_replicate_false _ _)⟩
 refine wp_region_any hm (MP ho hpos h1.1 h1.2 h2 h2' ?_ _ _ a _ inv0 (by simpa [Fs] using h))
 intro i o' ho' e he
 have hi:i<l.length:=by
  have:=(Array.getElem?_eq_some_iff.1 ho').1
  simpa using this
 have:=List.all_eq_true.1 h3 i (List.mem_range.2 hi)
 simp only[Hb] at ho'
 rw[ho'] at this
 have h4:=Array.all_eq_true'.1 this e he
 simpa using h4
theorem BQ{id:Nat}{Q:Exit→Act→World→Prop}{a:Act}{l:List Oper}(S:World→Prop)(o:Oper)(hm:P.follows .mixedOrders=true)(ho:l[l.length-1]? =some o)(hB:WU .any l=true)
 (hS:S w.drew) (h:S w.drew→wpAnyH P .any (BD l).toArray (Ro P l o Q) S l.length (Array.replicate l.length false) a w.drew):(Code.region id l.toArray true).wp P Q a w:=
 MO o hm ho hB (wpAny_of_held _ _ _ _ (by simpa [Fs] using h hS))
end
end Go.Bs
