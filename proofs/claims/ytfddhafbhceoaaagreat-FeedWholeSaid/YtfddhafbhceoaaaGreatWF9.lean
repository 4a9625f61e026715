/- Mini: Needed by feedNone_walk, part 9: texts put together by shake.py; no condition. -/
import Derived.Test.YtfddhafbhceoaaaGreatWF8
import Derived.Test.YtfddhafbhceoaaaGreatWF5
import Derived.Test.YtfddhafbhceoaaaGreatWF7
import Derived.Deep.Cut
import Derived.Deep.RegionHeld3
import Derived.Test.YtfddhafbhceoaaaGreatWF2
import Derived.Test.YtfddhafbhceoaaaGreatWF4
import Derived.Test.YtfddhafbhceoaaaGreatWF3
import Derived.Deep.CutRange
import Derived.Scope
import Derived.Test.YtfddhafbhceoaaaGreatProg
import Derived.WalkKit
import Derived.Deep.WholeRow
import Derived.BigQuiet
import Derived.Test.YtfddhafbhceoaaaGreatWF1
import Derived.Test.YtfddhafbhceoaaaGreatWF6
import Derived.Lib.SlBytesConst
set_option linter.unusedVariables false
set_option linter.unusedSimpArgs false
set_option maxRecDepth 100000
set_option maxHeartbeats 6400000
namespace Go.Bs
variable{cs:List Value}{c i n:Nat}{S:Nat → Prop}{a:Option Addr}{w:World}
theorem zBg{p:Prop}(h:p:=by simp [results, Tryz.results117, go_sem, y0, y1, g0, g1, l1]):p:=h
theorem zA7{p:Prop}(h:p:=by have := (HFN.out h hh).2.1; omega):p:=h
theorem zAs{p:Prop}(h:p:=by simp only [Dh, d0, d1, d2, d3, d4, d5, d6, Dz, Ii]):p:=h
theorem zAq{p:Prop}(h:p:=by have := (HFN.out h hh).2.2 z hz; omega):p:=h
theorem zAd{p:Prop}(h:p:=by have := hb.1; omega):p:=h
theorem ZA{p:Prop}(h:p:=by simp [results, Tryz.results127, go_sem, v0, v1, v2, lF]):p:=h
theorem Ii:type_of% @Bool.false_and:=@Bool.false_and
theorem JF:type_of% @Proofs.Tryz.ntmps325:=@Proofs.Tryz.ntmps325
theorem Li:type_of% @Proofs.Tryz.func325:=@Proofs.Tryz.func325
end Go.Bs
namespace Go.Proofs.YtfddhafbhceoaaaGreat
open Go.RowKit Go.Bs Go.Maps
variable{m pos:Int}{B D J P rest:List UInt8}{xs:List Value}{L base c c1 c2 c3 c4 g n p sz:Nat}{S:Nat → Prop}{a a1 a2 a3 a4:Option Addr}{s:Rs}{e:TypeId}{v v1 v2:Value}{W W' w w1:World}
structure MK(w:World)(g:Nat)(B:List UInt8)(a:Option Addr)(fn:Nat)(caps:Array Value)(blk:Rs→Rs × List UInt8 × Bool)(K:Nat→Prop)(X:World→Bool→Prop):Prop where
 lt:∀b,K b→b<w.heap.size
 own:K g
 st:∀W W' q,X W q→w.heap.size≤W.heap.size→Tch (fun b=>b=g∨w.heap.size≤b) W W'→X W' q
 call:∀W t,AS W g B a t→X W false→w.heap.size≤W.heap.size→Tch K w W→Calls Tryz.prog fn caps W fun r W'=>∃v,r=.returned v∧Am.r (Ie W W') W' [v] (blk t).2.1∧AS W' g B a (blk t).1∧Tch K W W'∧X W' (blk t).2.2
 size:∀t,(blk t).2.1.length≤1048576
 dat:Am.r (fun q=>q<w.heap.size∧¬K q) w [.slice a B.length B.length] B
 ent:∀(xs:Array Value) (W:World),(callFunc fn xs).run Tryz.prog W=.ok (.enter fn xs) W
theorem MK.rd{fn:Nat}{caps:Array Value}{blk:Rs→Rs × List UInt8 × Bool}{K:Nat→Prop}{X:World→Bool→Prop}(hU:MK w g B a fn caps blk K X){s:Rs}(ht:Tch K w W)
 (hb:Blk W g 222 #[.slice a B.length B.length,.int .i64 (s.p:Int),.int .i64 s.k,.int .i64 s.f]) (hs:s.ok B.length):AS W g B a s:=
 ⟨hb,Am.mono (Am.keep hU.dat fun q hq=>ht.block q hq.1 hq.2) fun q hq=>⟨An hq.1 ht.size,fun e=>hq.2 (e ▸ hU.own)⟩,hs⟩
def YI(h:List Be × Nat):Prop:=h.2≤1048576∧h.1.length≤16∧∀z∈h.1,z.backs.length≤4
theorem Rs.Pp{B:List UInt8}:∀(n:Nat) (s:Rs) (below:Int) (out:List Int),(Rs.Eh B n s below out).2.length≤n+out.length
 | 0,s,below,out=>by simp[Rs.Eh]
 | n+1,s,below,out=>by
  simp only[Rs.Eh]
  split
  ·split
   ·simp
   ·have:=Rs.Pp (B:=B) n (s.num B).1 (below-(s.num B).2-1) (out++[below-(s.num B).2-1])
    simp at this
    omega
  ·simp
theorem Rs.VM{below most:Int}:(s.delta B below most).2.length≤most.toNat:=by
 have:=Rs.Pp (B:=B) (s.int B most).2 (s.int B most).1 below []
 have h2:=Rs.E6 (B:=B) (s:=s) (m:=most)
 unfold Rs.delta
 simp at this
 omega
theorem Rs.Mb{B:List UInt8}{pos:Int}:∀(n:Nat) (s:Rs) (prev:Option Int) (out:List Be),(∀z∈out,z.backs.length≤4)→(Rs.C3 B pos n s prev out).2.length≤n+out.length∧∀z∈(Rs.C3 B pos n s prev out).2,z.backs.length≤4
 | 0,s,prev,out,h=>by simpa [Rs.C3] using h
 | n+1,s,prev,out,h=>by
  simp only[Rs.C3]
  split
  ·have:=Rs.Mb (B:=B) (pos:=pos) n ((s.stream B prev).1.delta B pos 4).1 (some (s.stream B prev).2) (out++[⟨(s.stream B prev).2,((s.stream B prev).1.delta B pos 4).2⟩]) (fun z hz=>by
    rw[G7,B8] at hz
    rcases hz with hz | rfl
    ·exact h z hz
    ·exact Rs.VM (most:=4))
   refine⟨?_,this.2⟩
   have h1:=this.1
   simp at h1
   omega
  ·simp
theorem Rs.TT{most:Int}(hm:most≤1048576):YI (s.Cq B pos most).2:=by
 have h1:=Rs.Mb (B:=B) (pos:=pos) (s.int B 16).2 (s.int B 16).1 none [] zM
 have h2:=Rs.E6 (B:=B) (s:=s) (m:=16)
 have h3:=Rs.E6 (B:=B) (s:=(s.links B pos).1) (m:=most)
 unfold Rs.Cq
 split
 ·refine⟨zH,?_,h1.2⟩
  have:=h1.1
  simp at this
  show (s.links B pos).2.length≤16
  unfold Rs.links
  omega
 ·exact⟨Ar _,Ar _,zM⟩
theorem Rs.Nx{B:List UInt8}:∀(n:Nat) (s:Rs) (pos left:Int) (out:List (List Be × Nat)),left≤1048576→(∀h∈out,YI h)→(Rs.Dt B n s pos left out).2.length≤n+out.length∧∀h∈(Rs.Dt B n s pos left out).2,YI h
 | 0,s,pos,left,out,hl,h=>by simpa [Rs.Dt] using h
 | n+1,s,pos,left,out,hl,h=>by
  simp only[Rs.Dt]
  split
  ·have:=Rs.Nx (B:=B) n (s.Cq B pos left).1 (pos+1) (left-(s.Cq B pos left).2.2) (out++[(s.Cq B pos left).2]) zC (fun z hz=>by
    rw[G7,B8] at hz
    rcases hz with hz | rfl
    ·exact h z hz
    ·exact Rs.TT hl)
   refine⟨?_,this.2⟩
   have h1:=this.1
   simp at h1
   omega
  ·simp
theorem CM.ints{lo:Nat}{W:World}{u:Value}{J:List (List Be × Nat)}(h:CM lo W v u J)(hJ:∀h∈J,YI h):KH.r (fun b=>lo≤b∧b<W.heap.size) W [u] (J.map fun h=>(h.2:Int)):=by
 refine PX (A:=F6 .i64) (Value.int .i64) (fun S x hx=> ?_) zM (e:=3) (n:=J.length) ?_
 ·obtain⟨h,hm,rfl⟩:=List.mem_map.1 hx
  have:=(hJ h hm).1
  exact⟨rfl,IA zC⟩
 ·have:=h.szs
  simpa [Fw,List.map_map,Function.comp_def] using this
theorem N7(w:World)(h:AS w g B a s)(hB:B.length≤1000000000)(fn:Nat)(caps:Array Value)(blk:Rs→Rs × List UInt8 × Bool)(K:Nat→Prop)(X:World→Bool→Prop)(hU:MK w g B a fn caps blk K X)(hX:X w false):
  Calls Tryz.prog 127 #[.pointer (some ⟨g,0,none⟩),.func (Fn.func fn) #[] caps] w fun r w'=>∃v q,r=.returned (.agg #[.int .u64 (Rs.batch B blk s).2.1.epoch,.int .u64 (Rs.batch B blk s).2.1.base,v])∧CK.r (Ie w w') w' [v] (Rs.batch B blk s).2.1.entries∧AS w' g B a (Rs.batch B blk s).1∧Tch K w w'∧X w' q∧((Rs.batch B blk s).1.k=0→q=(Rs.batch B blk s).2.2):=by
 have hlt:=h.blk.lt
 have HIN:=hid (CS.refl h)
 have HU:=hid hU
 have HX:=hid hX
 have HEP:=hid (fun (W:World) (hW:AS W g B a s)=>Kp W hW hB)
 have HPO:=hid (fun (W:World) (hW:AS W g B a (s.ep B).1)=>JZ W hW hB)
 have HIT:=hid (fun (W:World) (hW:AS W g B a ((s.ep B).1.po B).1)=>CE W hW zC 16 zC)
 have hn16:=Rs.E6 (B:=B) (s:=((s.ep B).1.po B).1) (m:=16)
 have hpb:(((s.ep B).1.po B).2:Int)≤18446744073709551615:=by
  have:=Rs.ET (B:=B) (s:=(s.ep B).1)
  unfold Rs.po
  split
  ·split
   ·omega
   ·simp
  ·simp
 have hok2:=(Rs.Q8 (B:=B) (Rs.RY (B:=B) h.ok)).le
 unfold Rs.batch Rs.Cf
 clear h hU hX
 generalize s.ep B=E at*
 obtain⟨s1,e⟩:=E
 dsimp only at*
 generalize s1.po B=P at*
 obtain⟨s2,p⟩:=P
 dsimp only at*
 generalize s2.int B 16=I at*
 obtain⟨s3,n⟩:=I
 dsimp only at*
 have hn:n≤16:=zC
 have hp1:(0:Int)≤(p:Int)∧(p:Int)≤18446744073709551615:=zC
 have hp2:0≤(s2.p:Int)∧(s2.p:Int)≤9223372036854775807:=zC
 clear hn16 hpb hok2
 by_cases hfit:Fi (p:Int) n=true
 ·rw[Ag hfit]
  have HF:=hid (fun (W:World)=>(by have:=Ku (p:Int) n W hp1 zC;rw[hfit] at this;exact this:Calls Tryz.prog 204 #[.int .u64 (p:Int),.int .i64 n] W fun r w'=>r=.returned (.bool true)∧W=w'))
  have hfit':=hfit
  simp only[Fi,Ao] at hfit'
  have hpn:(0:Int)≤(p:Int)∧(p:Int)+n≤18446744073709551615:=zC
  clear hfit hfit'
  by_cases hk3:s3.k=0
  ·rw[Ag hk3]
   have HG:=hid (fun (W:World) (hW:AS W g B a s3)=>(by have:=AK W hW;rw[Ad hk3] at this;exact this:Calls Tryz.prog 112 #[.pointer (some ⟨g,0,none⟩)] W fun r w'=>r=.returned (.bool true)∧Below W.heap.size W w'))
   have HHD:=hid (fun (W:World) (hW:AS W g B a s3)=>Sq W hW hB (p:Int) n hn hpn)
   have hfine:=Rs.Nx (B:=B) n s3 (p:Int) 1048576 [] zC zM
   clear hk3
   generalize Rs.Dt B n s3 (p:Int) 1048576 []=HD at*
   obtain⟨s4,H⟩:=HD
   dsimp only at*
   have hHl:H.length≤16:=by have:=hfine.1;simp at this;omega
   have HFN:=hid hfine.2
   clear hfine
   have hUc:=fun (W:World) (hW:AS W g B a s4)=>HU.out.call W s4 hW
   have hDl:=HU.out.size s4
   unfold Rs.II
   dsimp only
   generalize blk s4=T at*
   obtain⟨s5,D,q⟩:=T
   dsimp only at*
   have HUC:=hid hUc
   clear hUc
   have hDF:=Sb H D []
   by_cases hok:D6 H=D.length
   ·rw[Ag hok] at hDF
    simp only[Ag hok]
    rw[AG] at hDF
    by_cases hk5:s5.k=0
    ·simp only[Ag hk5]
     have HG5:=hid (fun (W:World) (hW:AS W g B a s5)=>(by have:=AK W hW;rw[Ad hk5] at this;exact this:Calls Tryz.prog 112 #[.pointer (some ⟨g,0,none⟩)] W fun r w'=>r=.returned (.bool true)∧Below W.heap.size W w'))
     have HDL:=hid (fun (W:World) (x1 x2 x3 y1 y2 y3 z1 z2 z3)=>Kq H D x1 x2 x3 y1 y2 y3 z1 z2 z3 W)
     rw[hDF] at HDL
     simp only[Option.isSome_some,Option.isSome_none,Option.getD_some,Option.getD_none] at HDL
     clear hDF hok hk5
     generalize hdl:Gs H D=EN at*
     clear hdl
     go_enter Tryz.func127,Tryz.ntmps127
     go_wp2_with fail
     refine (HEP.out _ (HIN.out.row zA).rd).mono ?_
     rintro r w1 ⟨rfl,hst1⟩
     have R1:Blk w1 w.heap.size 48 #[.int .u64 0,.int .u64 0,.slice none 0 0]:=Blk.tch zD hst1.2 zC
     have HIN1:=hid ((HIN.out.row zA).step hst1)
     have hz1:=HIN1.out.tch.size
     clear hst1
     go_wp2_with fail
     refine (HPO.out _ HIN1.out.rd).mono ?_
     rintro r w2 ⟨rfl,hst2⟩
     have R2:Blk w2 w.heap.size 48 #[.int .u64 0,.int .u64 0,.slice none 0 0]:=Blk.tch R1 hst2.2 zC
     have HIN2:=hid (HIN1.out.step hst2)
     have hz2:=HIN2.out.tch.size
     have hr2:=R2.lt
     clear hst2 R1
     go_wp2_with fail
     refine (Cd _ (HIN2.out.row ((by (repeat (first | with_reducible exact Below.refl _ _ | with_reducible assumption | (with_reducible refine Aw ?_ _) | (with_reducible refine Below.setCell ?_ zE _) | (with_reducible refine Below.drew ?_) | (with_reducible refine below_drewN ?_ _) | (refine Aj zG ?_))):Below w2.heap.size w2 _).mono hz2)).rd).mono ?_
     rintro r w3 ⟨rfl,rfl⟩
     go_wp2_with fail
     refine (HIT.out _ (HIN2.out.row ((by (repeat (first | with_reducible exact Below.refl _ _ | with_reducible assumption | (with_reducible refine Aw ?_ _) | (with_reducible refine Below.setCell ?_ zE _) | (with_reducible refine Below.drew ?_) | (with_reducible refine below_drewN ?_ _) | (refine Aj zG ?_))):Below w2.heap.size w2 _).mono hz2)).rd).mono ?_
     rintro r w4 ⟨rfl,hst4⟩
     have R4:Blk w4 w.heap.size 48 #[.int .u64 0,.int .u64 0,.slice none 0 0]:=Blk.tch (Blk.later R2 (by (repeat (first | with_reducible exact Below.refl _ _ | with_reducible assumption | (with_reducible refine Aw ?_ _) | (with_reducible refine Below.setCell ?_ zE _) | (with_reducible refine Below.drew ?_) | (with_reducible refine below_drewN ?_ _) | (refine Aj zG ?_))):Below w2.heap.size w2 _)) hst4.2 zC
     have B4:Blk w4 w2.heap.size 48 #[.int .u64 (e:Int),.int .u64 (p:Int),.slice none 0 0]:=Blk.tch zD hst4.2 zC
     have HIN4:=hid ((HIN2.out.row ((by (repeat (first | with_reducible exact Below.refl _ _ | with_reducible assumption | (with_reducible refine Aw ?_ _) | (with_reducible refine Below.setCell ?_ zE _) | (with_reducible refine Below.drew ?_) | (with_reducible refine below_drewN ?_ _) | (refine Aj zG ?_))):Below w2.heap.size w2 _).mono hz2)).step hst4)
     have hz4:=HIN4.out.tch.size
     have hs4:=hst4.2.size
     simp at hs4
     obtain⟨x0,x1,x2,_,_,_,l4⟩:=Dv B4
     clear hst4
     go_wp2_with fail
     refine (HF.out _).mono ?_
     rintro r w5 ⟨rfl,rfl⟩
     go_wp2_with fail
     refine (HG.out _ HIN4.out.rd).mono ?_
     rintro r w6 ⟨rfl,hb6⟩
     have B6:=B4.later hb6
     have R6:=R4.later hb6
     have HIN6:=hid (HIN4.out.row (hb6.mono hz4))
     have hz6:=HIN6.out.tch.size
     have hl6:=B6.lt
     obtain⟨y0,y1,y2,_,_,_,_⟩:=Dv B6
     clear hb6
     go_wp2_with fail
     refine (HHD.out _ HIN6.out.rd).mono ?_
     rintro r w7 ⟨vv,uu,rfl,hH7,hst7⟩
     obtain⟨av,cv,rfl⟩:=CM.Us hH7
     obtain⟨au,cu,rfl⟩:=AV hH7.szs
     have B7:Blk w7 w2.heap.size 48 #[.int .u64 (e:Int),.int .u64 (p:Int),.slice none 0 0]:=Blk.tch B6 hst7.2 zC
     have R7:Blk w7 w.heap.size 48 #[.int .u64 0,.int .u64 0,.slice none 0 0]:=Blk.tch R6 hst7.2 zC
     have HIN7:=hid (HIN6.out.step hst7)
     have hz7:=HIN7.out.tch.size
     have HV7:=hid hH7.out
     have HU7:=hid (hH7.ints HFN.out)
     have hz67:=hst7.2.size
     clear hH7 hst7
     go_wp2_with fail
     refine (Cd _ HIN7.out.rd).mono ?_
     rintro r w8 ⟨rfl,rfl⟩
     go_wp2_with fail
     have HX7:=hid (HU.out.st _ _ _ HX.out (As _) (HIN7.out.tch.mono fun b _ e=> .inl e))
     rw[HU.out.ent]
     refine (HUC.out _ HIN7.out.rd HX7.out hz7 (HIN7.out.tch.mono fun b _ e=>e ▸ HU.out.own)).mono ?_
     rintro r w9 ⟨v9,rfl,hD9,hRD9,hT9,hX9⟩
     obtain⟨ad,cd,hfv,hD9',_⟩:=AH hD9
     simp only[Av,AI] at hfv
     subst hfv
     have hnk:∀b,w.heap.size≤b→¬K b:=fun b hb hk=>by have:=HU.out.lt b hk;omega
     have B9:Blk w9 w2.heap.size 48 #[.int .u64 (e:Int),.int .u64 (p:Int),.slice none 0 0]:=Blk.tch B7 hT9 (hnk _ hz2)
     have R9:Blk w9 w.heap.size 48 #[.int .u64 0,.int .u64 0,.slice none 0 0]:=Blk.tch R7 hT9 (hnk _ (As _))
     have hz9:w7.heap.size≤w9.heap.size:=hT9.size
     have HT9:=hid ((HIN7.out.tch.mono fun b _ e=>e ▸ HU.out.own:Tch K w w7).trans hT9 fun b _ e=>e)
     have HH9:=hid (Cu (CK.mono (CK.keep HV7.out (w':=w9) fun b hb=>hT9.block b hb.2 (hnk b zC)) (S':=(·<w9.heap.size)) fun b hb=>zC))
     have HS9:=hid (KH.mono (KH.keep HU7.out (w':=w9) fun b hb=>hT9.block b hb.2 (hnk b zC)) (S':=(·<w9.heap.size)) fun b hb=>zC)
     have HD9:=hid (Am.mono hD9' (S':=(·<w9.heap.size)) fun b hb=>hb.2)
     have HX9:=hid hX9
     have hIN9:CS w9 w9 g B a s5:=CS.refl hRD9
     have HIN9:=hid hIN9
     clear hD9 hD9' hRD9 hT9 hX9 hIN9 HV7 HU7 B7 R7
     go_wp2_with fail
     refine (HDL.out _ av au ad _ _ _ cv cu cd HH9.out HS9.out HD9.out zC zC (fun h hh=>⟨zA7,fun z hz=>zAq⟩)).mono ?_
     rintro r w10 ⟨v10,rfl,hE10,hb10⟩
     obtain⟨ae,ce,hfe,_,_⟩:=AH (Cu hE10)
     simp only[Av,AI] at hfe
     subst hfe
     have B10:=B9.later hb10
     have R10:=R9.later hb10
     have HIN10:=hid (HIN9.out.row hb10)
     have HE10:=hid hE10
     have hs10:=hb10.size
     have HB10:=hid hb10
     clear hE10 hb10 B9 R9
     go_wp2_with fail
     refine (HG5.out _ HIN10.out.rd).mono ?_
     rintro r w11 ⟨rfl,hb11⟩
     have B11:=B10.later hb11
     have R11:=R10.later hb11
     have RD11:=HIN10.out.rd.blk.later hb11
     have HRO:=hid HIN10.out.rd.ok
     have HB11:=hid hb11
     have hs11:=hb11.size
     obtain⟨x0',x1',x2',e0,e1,e2,l11⟩:=Dv B11
     obtain⟨z0',z1',z2',f0,f1,f2,m11⟩:=Dv R11
     clear hb11
     go_wp2
     have RF:Blk ((((w11.setCell ⟨w2.heap.size,2,none⟩ (.slice ae EN.length ce)).setCell ⟨w.heap.size,0,none⟩ (.int .u64 (e:Int))).setCell ⟨w.heap.size,1,none⟩ (.int .u64 (p:Int))).setCell ⟨w.heap.size,2,none⟩ (.slice ae EN.length ce)) w.heap.size 48 #[.int .u64 (e:Int),.int .u64 (p:Int),.slice ae EN.length ce]:=(((Blk.far R11 zH _).set 0 _).set 1 _).set 2 _
     obtain⟨v0,v1,v2,_,_,_,lF⟩:=Dv RF
     have hTF:Tch (fun b=>w.heap.size≤b) w9 ((((w11.setCell ⟨w2.heap.size,2,none⟩ (.slice ae EN.length ce)).setCell ⟨w.heap.size,0,none⟩ (.int .u64 (e:Int))).setCell ⟨w.heap.size,1,none⟩ (.int .u64 (p:Int))).setCell ⟨w.heap.size,2,none⟩ (.slice ae EN.length ce)):=((((Tch.trans (Tch.Ef (HB10.out.mono (by omega:w.heap.size≤w9.heap.size))) (Tch.Ef (HB11.out.mono (by omega:w.heap.size≤w10.heap.size))) fun b _ h=>h).setCell (fun _=>zH) _).setCell (fun _=>zH) _).setCell (fun _=>zH) _).setCell (fun _=>zH) _
     have hTK:Tch K w ((((w11.setCell ⟨w2.heap.size,2,none⟩ (.slice ae EN.length ce)).setCell ⟨w.heap.size,0,none⟩ (.int .u64 (e:Int))).setCell ⟨w.heap.size,1,none⟩ (.int .u64 (p:Int))).setCell ⟨w.heap.size,2,none⟩ (.slice ae EN.length ce)):=HT9.out.trans hTF fun b hb hle=>by omega
     have hrd:AS ((((w11.setCell ⟨w2.heap.size,2,none⟩ (.slice ae EN.length ce)).setCell ⟨w.heap.size,0,none⟩ (.int .u64 (e:Int))).setCell ⟨w.heap.size,1,none⟩ (.int .u64 (p:Int))).setCell ⟨w.heap.size,2,none⟩ (.slice ae EN.length ce)) g B a s5:=HU.out.rd hTK (Blk.far (Blk.far (Blk.far (Blk.far RD11 zH _) zH _) zH _) zH _) HRO.out
     have hXF:X ((((w11.setCell ⟨w2.heap.size,2,none⟩ (.slice ae EN.length ce)).setCell ⟨w.heap.size,0,none⟩ (.int .u64 (e:Int))).setCell ⟨w.heap.size,1,none⟩ (.int .u64 (p:Int))).setCell ⟨w.heap.size,2,none⟩ (.slice ae EN.length ce)) q:=HU.out.st _ _ _ HX9.out zC (hTF.mono fun b _ hle=> .inr hle)
     have hvF:CK.r (Ie w ((((w11.setCell ⟨w2.heap.size,2,none⟩ (.slice ae EN.length ce)).setCell ⟨w.heap.size,0,none⟩ (.int .u64 (e:Int))).setCell ⟨w.heap.size,1,none⟩ (.int .u64 (p:Int))).setCell ⟨w.heap.size,2,none⟩ (.slice ae EN.length ce))) ((((w11.setCell ⟨w2.heap.size,2,none⟩ (.slice ae EN.length ce)).setCell ⟨w.heap.size,0,none⟩ (.int .u64 (e:Int))).setCell ⟨w.heap.size,1,none⟩ (.int .u64 (p:Int))).setCell ⟨w.heap.size,2,none⟩ (.slice ae EN.length ce)) [.slice ae EN.length ce] EN:=CK.mono (CK.keep HE10.out (w':=((((w11.setCell ⟨w2.heap.size,2,none⟩ (.slice ae EN.length ce)).setCell ⟨w.heap.size,0,none⟩ (.int .u64 (e:Int))).setCell ⟨w.heap.size,1,none⟩ (.int .u64 (p:Int))).setCell ⟨w.heap.size,2,none⟩ (.slice ae EN.length ce))) fun b hb=>by
      have h1:w9.heap.size≤b:=hb.1
      have h2:b<w10.heap.size:=hb.2
      refine Eq.trans ?_ (HB11.out.block b h2)
      repeat rw[At _ _ _ _ zH]) fun b hb=>⟨zAd,by have:=hb.2;simp;omega⟩
     refine Ax (v:=.agg #[.int .u64 (e:Int),.int .u64 (p:Int),.slice ae EN.length ce]) ZA rfl ⟨_,q,rfl,hvF,hrd,hTK,hXF,fun _=>rfl⟩
    ·simp only[Ai hk5]
     have HG5:=hid (fun (W:World) (hW:AS W g B a s5)=>(by have:=AK W hW;rw[Ae hk5] at this;exact this:Calls Tryz.prog 112 #[.pointer (some ⟨g,0,none⟩)] W fun r w'=>r=.returned (.bool false)∧Below W.heap.size W w'))
     have HDL:=hid (fun (W:World) (x1 x2 x3 y1 y2 y3 z1 z2 z3)=>Kq H D x1 x2 x3 y1 y2 y3 z1 z2 z3 W)
     rw[hDF] at HDL
     simp only[Option.isSome_some,Option.isSome_none,Option.getD_some,Option.getD_none] at HDL
     have HK5:=hid hk5
     clear hDF hok hk5
     generalize hdl:Gs H D=EN at*
     clear hdl
     go_enter Tryz.func127,Tryz.ntmps127
     go_wp2_with fail
     refine (HEP.out _ (HIN.out.row zA).rd).mono ?_
     rintro r w1 ⟨rfl,hst1⟩
     have R1:Blk w1 w.heap.size 48 #[.int .u64 0,.int .u64 0,.slice none 0 0]:=Blk.tch zD hst1.2 zC
     have HIN1:=hid ((HIN.out.row zA).step hst1)
     have hz1:=HIN1.out.tch.size
     clear hst1
     go_wp2_with fail
     refine (HPO.out _ HIN1.out.rd).mono ?_
     rintro r w2 ⟨rfl,hst2⟩
     have R2:Blk w2 w.heap.size 48 #[.int .u64 0,.int .u64 0,.slice none 0 0]:=Blk.tch R1 hst2.2 zC
     have HIN2:=hid (HIN1.out.step hst2)
     have hz2:=HIN2.out.tch.size
     have hr2:=R2.lt
     clear hst2 R1
     go_wp2_with fail
     refine (Cd _ (HIN2.out.row ((by (repeat (first | with_reducible exact Below.refl _ _ | with_reducible assumption | (with_reducible refine Aw ?_ _) | (with_reducible refine Below.setCell ?_ zE _) | (with_reducible refine Below.drew ?_) | (with_reducible refine below_drewN ?_ _) | (refine Aj zG ?_))):Below w2.heap.size w2 _).mono hz2)).rd).mono ?_
     rintro r w3 ⟨rfl,rfl⟩
     go_wp2_with fail
     refine (HIT.out _ (HIN2.out.row ((by (repeat (first | with_reducible exact Below.refl _ _ | with_reducible assumption | (with_reducible refine Aw ?_ _) | (with_reducible refine Below.setCell ?_ zE _) | (with_reducible refine Below.drew ?_) | (with_reducible refine below_drewN ?_ _) | (refine Aj zG ?_))):Below w2.heap.size w2 _).mono hz2)).rd).mono ?_
     rintro r w4 ⟨rfl,hst4⟩
     have R4:Blk w4 w.heap.size 48 #[.int .u64 0,.int .u64 0,.slice none 0 0]:=Blk.tch (Blk.later R2 (by (repeat (first | with_reducible exact Below.refl _ _ | with_reducible assumption | (with_reducible refine Aw ?_ _) | (with_reducible refine Below.setCell ?_ zE _) | (with_reducible refine Below.drew ?_) | (with_reducible refine below_drewN ?_ _) | (refine Aj zG ?_))):Below w2.heap.size w2 _)) hst4.2 zC
     have B4:Blk w4 w2.heap.size 48 #[.int .u64 (e:Int),.int .u64 (p:Int),.slice none 0 0]:=Blk.tch zD hst4.2 zC
     have HIN4:=hid ((HIN2.out.row ((by (repeat (first | with_reducible exact Below.refl _ _ | with_reducible assumption | (with_reducible refine Aw ?_ _) | (with_reducible refine Below.setCell ?_ zE _) | (with_reducible refine Below.drew ?_) | (with_reducible refine below_drewN ?_ _) | (refine Aj zG ?_))):Below w2.heap.size w2 _).mono hz2)).step hst4)
     have hz4:=HIN4.out.tch.size
     have hs4:=hst4.2.size
     simp at hs4
     obtain⟨x0,x1,x2,_,_,_,l4⟩:=Dv B4
     clear hst4
     go_wp2_with fail
     refine (HF.out _).mono ?_
     rintro r w5 ⟨rfl,rfl⟩
     go_wp2_with fail
     refine (HG.out _ HIN4.out.rd).mono ?_
     rintro r w6 ⟨rfl,hb6⟩
     have B6:=B4.later hb6
     have R6:=R4.later hb6
     have HIN6:=hid (HIN4.out.row (hb6.mono hz4))
     have hz6:=HIN6.out.tch.size
     have hl6:=B6.lt
     obtain⟨y0,y1,y2,_,_,_,_⟩:=Dv B6
     clear hb6
     go_wp2_with fail
     refine (HHD.out _ HIN6.out.rd).mono ?_
     rintro r w7 ⟨vv,uu,rfl,hH7,hst7⟩
     obtain⟨av,cv,rfl⟩:=CM.Us hH7
     obtain⟨au,cu,rfl⟩:=AV hH7.szs
     have B7:Blk w7 w2.heap.size 48 #[.int .u64 (e:Int),.int .u64 (p:Int),.slice none 0 0]:=Blk.tch B6 hst7.2 zC
     have R7:Blk w7 w.heap.size 48 #[.int .u64 0,.int .u64 0,.slice none 0 0]:=Blk.tch R6 hst7.2 zC
     have HIN7:=hid (HIN6.out.step hst7)
     have hz7:=HIN7.out.tch.size
     have HV7:=hid hH7.out
     have HU7:=hid (hH7.ints HFN.out)
     have hz67:=hst7.2.size
     clear hH7 hst7
     go_wp2_with fail
     refine (Cd _ HIN7.out.rd).mono ?_
     rintro r w8 ⟨rfl,rfl⟩
     go_wp2_with fail
     have HX7:=hid (HU.out.st _ _ _ HX.out (As _) (HIN7.out.tch.mono fun b _ e=> .inl e))
     rw[HU.out.ent]
     refine (HUC.out _ HIN7.out.rd HX7.out hz7 (HIN7.out.tch.mono fun b _ e=>e ▸ HU.out.own)).mono ?_
     rintro r w9 ⟨v9,rfl,hD9,hRD9,hT9,hX9⟩
     obtain⟨ad,cd,hfv,hD9',_⟩:=AH hD9
     simp only[Av,AI] at hfv
     subst hfv
     have hnk:∀b,w.heap.size≤b→¬K b:=fun b hb hk=>by have:=HU.out.lt b hk;omega
     have B9:Blk w9 w2.heap.size 48 #[.int .u64 (e:Int),.int .u64 (p:Int),.slice none 0 0]:=Blk.tch B7 hT9 (hnk _ hz2)
     have R9:Blk w9 w.heap.size 48 #[.int .u64 0,.int .u64 0,.slice none 0 0]:=Blk.tch R7 hT9 (hnk _ (As _))
     have hz9:w7.heap.size≤w9.heap.size:=hT9.size
     have HT9:=hid ((HIN7.out.tch.mono fun b _ e=>e ▸ HU.out.own:Tch K w w7).trans hT9 fun b _ e=>e)
     have HH9:=hid (Cu (CK.mono (CK.keep HV7.out (w':=w9) fun b hb=>hT9.block b hb.2 (hnk b zC)) (S':=(·<w9.heap.size)) fun b hb=>zC))
     have HS9:=hid (KH.mono (KH.keep HU7.out (w':=w9) fun b hb=>hT9.block b hb.2 (hnk b zC)) (S':=(·<w9.heap.size)) fun b hb=>zC)
     have HD9:=hid (Am.mono hD9' (S':=(·<w9.heap.size)) fun b hb=>hb.2)
     have HX9:=hid hX9
     have hIN9:CS w9 w9 g B a s5:=CS.refl hRD9
     have HIN9:=hid hIN9
     clear hD9 hD9' hRD9 hT9 hX9 hIN9 HV7 HU7 B7 R7
     go_wp2_with fail
     refine (HDL.out _ av au ad _ _ _ cv cu cd HH9.out HS9.out HD9.out zC zC (fun h hh=>⟨zA7,fun z hz=>zAq⟩)).mono ?_
     rintro r w10 ⟨v10,rfl,hE10,hb10⟩
     obtain⟨ae,ce,hfe,_,_⟩:=AH (Cu hE10)
     simp only[Av,AI] at hfe
     subst hfe
     have B10:=B9.later hb10
     have R10:=R9.later hb10
     have HIN10:=hid (HIN9.out.row hb10)
     have HE10:=hid hE10
     have hs10:=hb10.size
     have HB10:=hid hb10
     clear hE10 hb10 B9 R9
     have HTX:Hid (Tch (fun b=>b=g∨w.heap.size≤b) w9 w10):=hid ((Tch.Ef (HB10.out.mono (by omega:w.heap.size≤w9.heap.size))).mono fun b _ h=> .inr h)
     go_wp2_with fail
     refine (HG5.out _ HIN10.out.rd).mono ?_
     rintro r w11 ⟨rfl,hb11⟩
     have HB11:=hid hb11
     have R11:=R10.later hb11
     have RD11:=HIN10.out.rd.blk.later hb11
     have HRO:=hid HIN10.out.rd.ok
     have hs11:=hb11.size
     obtain⟨z0',z1',z2',f0,f1,f2,m11⟩:=Dv R11
     clear hb11
     go_wp2
     have RF:Blk (((w11.setCell ⟨w.heap.size,0,none⟩ (.int .u64 0)).setCell ⟨w.heap.size,1,none⟩ (.int .u64 0)).setCell ⟨w.heap.size,2,none⟩ (.slice none 0 0)) w.heap.size 48 #[.int .u64 0,.int .u64 0,.slice none 0 0]:=((R11.set 0 _).set 1 _).set 2 _
     obtain⟨v0,v1,v2,_,_,_,lF⟩:=Dv RF
     have hTF:Tch (fun b=>b=g∨w.heap.size≤b) w9 (((w11.setCell ⟨w.heap.size,0,none⟩ (.int .u64 0)).setCell ⟨w.heap.size,1,none⟩ (.int .u64 0)).setCell ⟨w.heap.size,2,none⟩ (.slice none 0 0)):=((((Tch.trans (HTX.out) (Tch.Ef (HB11.out.mono (by omega:w.heap.size≤w10.heap.size))) fun b _ h=> .inr h).setCell (fun _=> .inr zH) _).setCell (fun _=> .inr zH) _).setCell (fun _=> .inr zH) _)
     have hTK:Tch K w (((w11.setCell ⟨w.heap.size,0,none⟩ (.int .u64 0)).setCell ⟨w.heap.size,1,none⟩ (.int .u64 0)).setCell ⟨w.heap.size,2,none⟩ (.slice none 0 0)):=HT9.out.trans hTF fun b hb hle=>by
      rcases hle with rfl | hle
      ·exact HU.out.own
      ·omega
     have hrd:AS (((w11.setCell ⟨w.heap.size,0,none⟩ (.int .u64 0)).setCell ⟨w.heap.size,1,none⟩ (.int .u64 0)).setCell ⟨w.heap.size,2,none⟩ (.slice none 0 0)) g B a s5:=HU.out.rd hTK (Blk.far (Blk.far (Blk.far RD11 zH _) zH _) zH _) HRO.out
     have hXF:X (((w11.setCell ⟨w.heap.size,0,none⟩ (.int .u64 0)).setCell ⟨w.heap.size,1,none⟩ (.int .u64 0)).setCell ⟨w.heap.size,2,none⟩ (.slice none 0 0)) q:=HU.out.st _ _ _ HX9.out zC hTF
     refine Ax (v:=.agg #[.int .u64 0,.int .u64 0,.slice none 0 0]) ZA rfl ⟨_,q,rfl,⟨none,0,rfl,As _,Ar _,.inl rfl⟩,hrd,hTK,hXF,fun h0=>absurd h0 HK5.out⟩
   ·rw[Ai hok] at hDF
    simp only[Ai hok]
    have hk5:(s5.fail 3 (s4.p:Int)).k≠0:=Rs.BI zC
    simp only[Ai hk5]
    have HG5:=hid (fun (W:World) (hW:AS W g B a (s5.fail 3 (s4.p:Int)))=>(by have:=AK W hW;rw[Ae hk5] at this;exact this:Calls Tryz.prog 112 #[.pointer (some ⟨g,0,none⟩)] W fun r w'=>r=.returned (.bool false)∧Below W.heap.size W w'))
    have HDL:=hid (fun (W:World) (x1 x2 x3 y1 y2 y3 z1 z2 z3)=>Kq H D x1 x2 x3 y1 y2 y3 z1 z2 z3 W)
    rw[hDF] at HDL
    simp only[Option.isSome_some,Option.isSome_none,Option.getD_some,Option.getD_none] at HDL
    have HK5:=hid hk5
    clear hDF hok hk5
    go_enter Tryz.func127,Tryz.ntmps127
    go_wp2_with fail
    refine (HEP.out _ (HIN.out.row zA).rd).mono ?_
    rintro r w1 ⟨rfl,hst1⟩
    have R1:Blk w1 w.heap.size 48 #[.int .u64 0,.int .u64 0,.slice none 0 0]:=Blk.tch zD hst1.2 zC
    have HIN1:=hid ((HIN.out.row zA).step hst1)
    have hz1:=HIN1.out.tch.size
    clear hst1
    go_wp2_with fail
    refine (HPO.out _ HIN1.out.rd).mono ?_
    rintro r w2 ⟨rfl,hst2⟩
    have R2:Blk w2 w.heap.size 48 #[.int .u64 0,.int .u64 0,.slice none 0 0]:=Blk.tch R1 hst2.2 zC
    have HIN2:=hid (HIN1.out.step hst2)
    have hz2:=HIN2.out.tch.size
    have hr2:=R2.lt
    clear hst2 R1
    go_wp2_with fail
    refine (Cd _ (HIN2.out.row ((by (repeat (first | with_reducible exact Below.refl _ _ | with_reducible assumption | (with_reducible refine Aw ?_ _) | (with_reducible refine Below.setCell ?_ zE _) | (with_reducible refine Below.drew ?_) | (with_reducible refine below_drewN ?_ _) | (refine Aj zG ?_))):Below w2.heap.size w2 _).mono hz2)).rd).mono ?_
    rintro r w3 ⟨rfl,rfl⟩
    go_wp2_with fail
    refine (HIT.out _ (HIN2.out.row ((by (repeat (first | with_reducible exact Below.refl _ _ | with_reducible assumption | (with_reducible refine Aw ?_ _) | (with_reducible refine Below.setCell ?_ zE _) | (with_reducible refine Below.drew ?_) | (with_reducible refine below_drewN ?_ _) | (refine Aj zG ?_))):Below w2.heap.size w2 _).mono hz2)).rd).mono ?_
    rintro r w4 ⟨rfl,hst4⟩
    have R4:Blk w4 w.heap.size 48 #[.int .u64 0,.int .u64 0,.slice none 0 0]:=Blk.tch (Blk.later R2 (by (repeat (first | with_reducible exact Below.refl _ _ | with_reducible assumption | (with_reducible refine Aw ?_ _) | (with_reducible refine Below.setCell ?_ zE _) | (with_reducible refine Below.drew ?_) | (with_reducible refine below_drewN ?_ _) | (refine Aj zG ?_))):Below w2.heap.size w2 _)) hst4.2 zC
    have B4:Blk w4 w2.heap.size 48 #[.int .u64 (e:Int),.int .u64 (p:Int),.slice none 0 0]:=Blk.tch zD hst4.2 zC
    have HIN4:=hid ((HIN2.out.row ((by (repeat (first | with_reducible exact Below.refl _ _ | with_reducible assumption | (with_reducible refine Aw ?_ _) | (with_reducible refine Below.setCell ?_ zE _) | (with_reducible refine Below.drew ?_) | (with_reducible refine below_drewN ?_ _) | (refine Aj zG ?_))):Below w2.heap.size w2 _).mono hz2)).step hst4)
    have hz4:=HIN4.out.tch.size
    have hs4:=hst4.2.size
    simp at hs4
    obtain⟨x0,x1,x2,_,_,_,l4⟩:=Dv B4
    clear hst4
    go_wp2_with fail
    refine (HF.out _).mono ?_
    rintro r w5 ⟨rfl,rfl⟩
    go_wp2_with fail
    refine (HG.out _ HIN4.out.rd).mono ?_
    rintro r w6 ⟨rfl,hb6⟩
    have B6:=B4.later hb6
    have R6:=R4.later hb6
    have HIN6:=hid (HIN4.out.row (hb6.mono hz4))
    have hz6:=HIN6.out.tch.size
    have hl6:=B6.lt
    obtain⟨y0,y1,y2,_,_,_,_⟩:=Dv B6
    clear hb6
    go_wp2_with fail
    refine (HHD.out _ HIN6.out.rd).mono ?_
    rintro r w7 ⟨vv,uu,rfl,hH7,hst7⟩
    obtain⟨av,cv,rfl⟩:=CM.Us hH7
    obtain⟨au,cu,rfl⟩:=AV hH7.szs
    have B7:Blk w7 w2.heap.size 48 #[.int .u64 (e:Int),.int .u64 (p:Int),.slice none 0 0]:=Blk.tch B6 hst7.2 zC
    have R7:Blk w7 w.heap.size 48 #[.int .u64 0,.int .u64 0,.slice none 0 0]:=Blk.tch R6 hst7.2 zC
    have HIN7:=hid (HIN6.out.step hst7)
    have hz7:=HIN7.out.tch.size
    have HV7:=hid hH7.out
    have HU7:=hid (hH7.ints HFN.out)
    have hz67:=hst7.2.size
    clear hH7 hst7
    go_wp2_with fail
    refine (Cd _ HIN7.out.rd).mono ?_
    rintro r w8 ⟨rfl,rfl⟩
    go_wp2_with fail
    have HX7:=hid (HU.out.st _ _ _ HX.out (As _) (HIN7.out.tch.mono fun b _ e=> .inl e))
    rw[HU.out.ent]
    refine (HUC.out _ HIN7.out.rd HX7.out hz7 (HIN7.out.tch.mono fun b _ e=>e ▸ HU.out.own)).mono ?_
    rintro r w9 ⟨v9,rfl,hD9,hRD9,hT9,hX9⟩
    obtain⟨ad,cd,hfv,hD9',_⟩:=AH hD9
    simp only[Av,AI] at hfv
    subst hfv
    have hnk:∀b,w.heap.size≤b→¬K b:=fun b hb hk=>by have:=HU.out.lt b hk;omega
    have B9:Blk w9 w2.heap.size 48 #[.int .u64 (e:Int),.int .u64 (p:Int),.slice none 0 0]:=Blk.tch B7 hT9 (hnk _ hz2)
    have R9:Blk w9 w.heap.size 48 #[.int .u64 0,.int .u64 0,.slice none 0 0]:=Blk.tch R7 hT9 (hnk _ (As _))
    have hz9:w7.heap.size≤w9.heap.size:=hT9.size
    have HT9:=hid ((HIN7.out.tch.mono fun b _ e=>e ▸ HU.out.own:Tch K w w7).trans hT9 fun b _ e=>e)
    have HH9:=hid (Cu (CK.mono (CK.keep HV7.out (w':=w9) fun b hb=>hT9.block b hb.2 (hnk b zC)) (S':=(·<w9.heap.size)) fun b hb=>zC))
    have HS9:=hid (KH.mono (KH.keep HU7.out (w':=w9) fun b hb=>hT9.block b hb.2 (hnk b zC)) (S':=(·<w9.heap.size)) fun b hb=>zC)
    have HD9:=hid (Am.mono hD9' (S':=(·<w9.heap.size)) fun b hb=>hb.2)
    have HX9:=hid hX9
    have hIN9:CS w9 w9 g B a s5:=CS.refl hRD9
    have HIN9:=hid hIN9
    clear hD9 hD9' hRD9 hT9 hX9 hIN9 HV7 HU7 B7 R7
    go_wp2_with fail
    refine (HDL.out _ av au ad _ _ _ cv cu cd HH9.out HS9.out HD9.out zC zC (fun h hh=>⟨zA7,fun z hz=>zAq⟩)).mono ?_
    rintro r w10 ⟨v10,rfl,hE10,hb10⟩
    obtain⟨ae,ce,hfe,_,_⟩:=AH (Cu hE10)
    simp only[Av,AI] at hfe
    subst hfe
    have B10:=B9.later hb10
    have R10:=R9.later hb10
    have HIN10:=hid (HIN9.out.row hb10)
    have HE10:=hid hE10
    have hs10:=hb10.size
    have HB10:=hid hb10
    clear hE10 hb10 B9 R9
    go_wp2_with fail
    refine (Bx _ HIN10.out.rd 3 (s4.p:Int) zC).mono ?_
    rintro r w12 ⟨rfl,hst12⟩
    have HTX:Hid (Tch (fun b=>b=g∨w.heap.size≤b) w9 w12):=hid (((Tch.Ef (HB10.out.mono (by omega:w.heap.size≤w9.heap.size))).mono fun b _ h=> .inr h).trans hst12.2 fun b _ h=> .inl h)
    have R12:Blk w12 w.heap.size 48 #[.int .u64 0,.int .u64 0,.slice none 0 0]:=Blk.tch R10 hst12.2 zC
    have HIN12:=hid (HIN10.out.step hst12)
    have hs12:=hst12.2.size
    clear hst12
    go_wp2_with fail
    refine (HG5.out _ HIN12.out.rd).mono ?_
    rintro r w11 ⟨rfl,hb11⟩
    have HB11:=hid hb11
    have R11:=R12.later hb11
    have RD11:=HIN12.out.rd.blk.later hb11
    have HRO:=hid HIN12.out.rd.ok
    have hs11:=hb11.size
    obtain⟨z0',z1',z2',f0,f1,f2,m11⟩:=Dv R11
    clear hb11
    go_wp2
    have RF:Blk (((w11.setCell ⟨w.heap.size,0,none⟩ (.int .u64 0)).setCell ⟨w.heap.size,1,none⟩ (.int .u64 0)).setCell ⟨w.heap.size,2,none⟩ (.slice none 0 0)) w.heap.size 48 #[.int .u64 0,.int .u64 0,.slice none 0 0]:=((R11.set 0 _).set 1 _).set 2 _
    obtain⟨v0,v1,v2,_,_,_,lF⟩:=Dv RF
    have hTF:Tch (fun b=>b=g∨w.heap.size≤b) w9 (((w11.setCell ⟨w.heap.size,0,none⟩ (.int .u64 0)).setCell ⟨w.heap.size,1,none⟩ (.int .u64 0)).setCell ⟨w.heap.size,2,none⟩ (.slice none 0 0)):=((((Tch.trans (HTX.out) (Tch.Ef (HB11.out.mono (by omega:w.heap.size≤w12.heap.size))) fun b _ h=> .inr h).setCell (fun _=> .inr zH) _).setCell (fun _=> .inr zH) _).setCell (fun _=> .inr zH) _)
    have hTK:Tch K w (((w11.setCell ⟨w.heap.size,0,none⟩ (.int .u64 0)).setCell ⟨w.heap.size,1,none⟩ (.int .u64 0)).setCell ⟨w.heap.size,2,none⟩ (.slice none 0 0)):=HT9.out.trans hTF fun b hb hle=>by
     rcases hle with rfl | hle
     ·exact HU.out.own
     ·omega
    have hrd:AS (((w11.setCell ⟨w.heap.size,0,none⟩ (.int .u64 0)).setCell ⟨w.heap.size,1,none⟩ (.int .u64 0)).setCell ⟨w.heap.size,2,none⟩ (.slice none 0 0)) g B a (s5.fail 3 (s4.p:Int)):=HU.out.rd hTK (Blk.far (Blk.far (Blk.far RD11 zH _) zH _) zH _) HRO.out
    have hXF:X (((w11.setCell ⟨w.heap.size,0,none⟩ (.int .u64 0)).setCell ⟨w.heap.size,1,none⟩ (.int .u64 0)).setCell ⟨w.heap.size,2,none⟩ (.slice none 0 0)) q:=HU.out.st _ _ _ HX9.out zC hTF
    refine Ax (v:=.agg #[.int .u64 0,.int .u64 0,.slice none 0 0]) ZA rfl ⟨_,q,rfl,⟨none,0,rfl,As _,Ar _,.inl rfl⟩,hrd,hTK,hXF,fun h0=>absurd h0 HK5.out⟩
  ·rw[Ai hk3]
   have HG:=hid (fun (W:World) (hW:AS W g B a s3)=>(by have:=AK W hW;rw[Ae hk3] at this;exact this:Calls Tryz.prog 112 #[.pointer (some ⟨g,0,none⟩)] W fun r w'=>r=.returned (.bool false)∧Below W.heap.size W w'))
   have HK5:=hid hk3
   clear hk3
   go_enter Tryz.func127,Tryz.ntmps127
   go_wp2_with fail
   refine (HEP.out _ (HIN.out.row zA).rd).mono ?_
   rintro r w1 ⟨rfl,hst1⟩
   have R1:Blk w1 w.heap.size 48 #[.int .u64 0,.int .u64 0,.slice none 0 0]:=Blk.tch zD hst1.2 zC
   have HIN1:=hid ((HIN.out.row zA).step hst1)
   have hz1:=HIN1.out.tch.size
   clear hst1
   go_wp2_with fail
   refine (HPO.out _ HIN1.out.rd).mono ?_
   rintro r w2 ⟨rfl,hst2⟩
   have R2:Blk w2 w.heap.size 48 #[.int .u64 0,.int .u64 0,.slice none 0 0]:=Blk.tch R1 hst2.2 zC
   have HIN2:=hid (HIN1.out.step hst2)
   have hz2:=HIN2.out.tch.size
   have hr2:=R2.lt
   clear hst2 R1
   go_wp2_with fail
   refine (Cd _ (HIN2.out.row ((by (repeat (first | with_reducible exact Below.refl _ _ | with_reducible assumption | (with_reducible refine Aw ?_ _) | (with_reducible refine Below.setCell ?_ zE _) | (with_reducible refine Below.drew ?_) | (with_reducible refine below_drewN ?_ _) | (refine Aj zG ?_))):Below w2.heap.size w2 _).mono hz2)).rd).mono ?_
   rintro r w3 ⟨rfl,rfl⟩
   go_wp2_with fail
   refine (HIT.out _ (HIN2.out.row ((by (repeat (first | with_reducible exact Below.refl _ _ | with_reducible assumption | (with_reducible refine Aw ?_ _) | (with_reducible refine Below.setCell ?_ zE _) | (with_reducible refine Below.drew ?_) | (with_reducible refine below_drewN ?_ _) | (refine Aj zG ?_))):Below w2.heap.size w2 _).mono hz2)).rd).mono ?_
   rintro r w4 ⟨rfl,hst4⟩
   have R4:Blk w4 w.heap.size 48 #[.int .u64 0,.int .u64 0,.slice none 0 0]:=Blk.tch (Blk.later R2 (by (repeat (first | with_reducible exact Below.refl _ _ | with_reducible assumption | (with_reducible refine Aw ?_ _) | (with_reducible refine Below.setCell ?_ zE _) | (with_reducible refine Below.drew ?_) | (with_reducible refine below_drewN ?_ _) | (refine Aj zG ?_))):Below w2.heap.size w2 _)) hst4.2 zC
   have B4:Blk w4 w2.heap.size 48 #[.int .u64 (e:Int),.int .u64 (p:Int),.slice none 0 0]:=Blk.tch zD hst4.2 zC
   have HIN4:=hid ((HIN2.out.row ((by (repeat (first | with_reducible exact Below.refl _ _ | with_reducible assumption | (with_reducible refine Aw ?_ _) | (with_reducible refine Below.setCell ?_ zE _) | (with_reducible refine Below.drew ?_) | (with_reducible refine below_drewN ?_ _) | (refine Aj zG ?_))):Below w2.heap.size w2 _).mono hz2)).step hst4)
   have hz4:=HIN4.out.tch.size
   have hs4:=hst4.2.size
   simp at hs4
   obtain⟨x0,x1,x2,_,_,_,l4⟩:=Dv B4
   clear hst4
   go_wp2_with fail
   refine (HF.out _).mono ?_
   rintro r w5 ⟨rfl,rfl⟩
   go_wp2_with fail
   refine (HG.out _ HIN4.out.rd).mono ?_
   rintro r w6 ⟨rfl,hb6⟩
   have B6:=B4.later hb6
   have R6:=R4.later hb6
   have HIN6:=hid (HIN4.out.row (hb6.mono hz4))
   obtain⟨y0,y1,y2,f0,f1,f2,l6⟩:=Dv R6
   clear hb6
   go_wp2
   obtain⟨v0,v1,v2,_,_,_,lF⟩:=Dv (((R6.set 0 (.int .u64 0)).set 1 (.int .u64 0)).set 2 (.slice none 0 0))
   have hbF:Below w.heap.size w6 (((w6.setCell ⟨w.heap.size,0,none⟩ (.int .u64 0)).setCell ⟨w.heap.size,1,none⟩ (.int .u64 0)).setCell ⟨w.heap.size,2,none⟩ (.slice none 0 0)):=zA
   have HINF:=HIN6.out.row hbF
   refine Ax (v:=.agg #[.int .u64 0,.int .u64 0,.slice none 0 0]) ZA rfl ⟨_,false,rfl,⟨none,0,rfl,As _,Ar _,.inl rfl⟩,HINF.rd,HINF.tch.mono (fun b _ e=>e ▸ HU.out.own),HU.out.st _ _ _ HX.out (As _) (HINF.tch.mono fun b _ e=> .inl e),fun e=>absurd e HK5.out⟩
 ·rw[Ai hfit]
  have HF:=hid (fun (W:World)=>(by have:=Ku (p:Int) n W hp1 zC;rw[Bool.eq_false_iff.2 hfit] at this;exact this:Calls Tryz.prog 204 #[.int .u64 (p:Int),.int .i64 n] W fun r w'=>r=.returned (.bool false)∧W=w'))
  have hk3:(s3.fail 3 (s2.p:Int)).k≠0:=Rs.BI zC
  rw[Ai hk3]
  have HG:=hid (fun (W:World) (hW:AS W g B a (s3.fail 3 (s2.p:Int)))=>(by have:=AK W hW;rw[Ae hk3] at this;exact this:Calls Tryz.prog 112 #[.pointer (some ⟨g,0,none⟩)] W fun r w'=>r=.returned (.bool false)∧Below W.heap.size W w'))
  have HK5:=hid hk3
  clear hk3 hfit
  go_enter Tryz.func127,Tryz.ntmps127
  go_wp2_with fail
  refine (HEP.out _ (HIN.out.row zA).rd).mono ?_
  rintro r w1 ⟨rfl,hst1⟩
  have R1:Blk w1 w.heap.size 48 #[.int .u64 0,.int .u64 0,.slice none 0 0]:=Blk.tch zD hst1.2 zC
  have HIN1:=hid ((HIN.out.row zA).step hst1)
  have hz1:=HIN1.out.tch.size
  clear hst1
  go_wp2_with fail
  refine (HPO.out _ HIN1.out.rd).mono ?_
  rintro r w2 ⟨rfl,hst2⟩
  have R2:Blk w2 w.heap.size 48 #[.int .u64 0,.int .u64 0,.slice none 0 0]:=Blk.tch R1 hst2.2 zC
  have HIN2:=hid (HIN1.out.step hst2)
  have hz2:=HIN2.out.tch.size
  have hr2:=R2.lt
  clear hst2 R1
  go_wp2_with fail
  refine (Cd _ (HIN2.out.row ((by (repeat (first | with_reducible exact Below.refl _ _ | with_reducible assumption | (with_reducible refine Aw ?_ _) | (with_reducible refine Below.setCell ?_ zE _) | (with_reducible refine Below.drew ?_) | (with_reducible refine below_drewN ?_ _) | (refine Aj zG ?_))):Below w2.heap.size w2 _).mono hz2)).rd).mono ?_
  rintro r w3 ⟨rfl,rfl⟩
  go_wp2_with fail
  refine (HIT.out _ (HIN2.out.row ((by (repeat (first | with_reducible exact Below.refl _ _ | with_reducible assumption | (with_reducible refine Aw ?_ _) | (with_reducible refine Below.setCell ?_ zE _) | (with_reducible refine Below.drew ?_) | (with_reducible refine below_drewN ?_ _) | (refine Aj zG ?_))):Below w2.heap.size w2 _).mono hz2)).rd).mono ?_
  rintro r w4 ⟨rfl,hst4⟩
  have R4:Blk w4 w.heap.size 48 #[.int .u64 0,.int .u64 0,.slice none 0 0]:=Blk.tch (Blk.later R2 (by (repeat (first | with_reducible exact Below.refl _ _ | with_reducible assumption | (with_reducible refine Aw ?_ _) | (with_reducible refine Below.setCell ?_ zE _) | (with_reducible refine Below.drew ?_) | (with_reducible refine below_drewN ?_ _) | (refine Aj zG ?_))):Below w2.heap.size w2 _)) hst4.2 zC
  have B4:Blk w4 w2.heap.size 48 #[.int .u64 (e:Int),.int .u64 (p:Int),.slice none 0 0]:=Blk.tch zD hst4.2 zC
  have HIN4:=hid ((HIN2.out.row ((by (repeat (first | with_reducible exact Below.refl _ _ | with_reducible assumption | (with_reducible refine Aw ?_ _) | (with_reducible refine Below.setCell ?_ zE _) | (with_reducible refine Below.drew ?_) | (with_reducible refine below_drewN ?_ _) | (refine Aj zG ?_))):Below w2.heap.size w2 _).mono hz2)).step hst4)
  have hz4:=HIN4.out.tch.size
  have hs4:=hst4.2.size
  simp at hs4
  obtain⟨x0,x1,x2,_,_,_,l4⟩:=Dv B4
  clear hst4
  go_wp2_with fail
  refine (HF.out _).mono ?_
  rintro r w5 ⟨rfl,rfl⟩
  go_wp2_with fail
  refine (Bx _ HIN4.out.rd 3 (s2.p:Int) zC).mono ?_
  rintro r w7 ⟨rfl,hst7⟩
  have R7:Blk w7 w.heap.size 48 #[.int .u64 0,.int .u64 0,.slice none 0 0]:=Blk.tch R4 hst7.2 zC
  have B7:Blk w7 w2.heap.size 48 #[.int .u64 (e:Int),.int .u64 (p:Int),.slice none 0 0]:=Blk.tch B4 hst7.2 zC
  have HIN7:=hid (HIN4.out.step hst7)
  clear hst7
  go_wp2_with fail
  refine (HG.out _ HIN7.out.rd).mono ?_
  rintro r w6 ⟨rfl,hb6⟩
  have B6:=B7.later hb6
  have R6:=R7.later hb6
  have HIN6:=hid (HIN7.out.row (hb6.mono HIN7.out.tch.size))
  obtain⟨y0,y1,y2,f0,f1,f2,l6⟩:=Dv R6
  clear hb6
  go_wp2
  obtain⟨v0,v1,v2,_,_,_,lF⟩:=Dv (((R6.set 0 (.int .u64 0)).set 1 (.int .u64 0)).set 2 (.slice none 0 0))
  have hbF:Below w.heap.size w6 (((w6.setCell ⟨w.heap.size,0,none⟩ (.int .u64 0)).setCell ⟨w.heap.size,1,none⟩ (.int .u64 0)).setCell ⟨w.heap.size,2,none⟩ (.slice none 0 0)):=zA
  have HINF:=HIN6.out.row hbF
  refine Ax (v:=.agg #[.int .u64 0,.int .u64 0,.slice none 0 0]) ZA rfl ⟨_,false,rfl,⟨none,0,rfl,As _,Ar _,.inl rfl⟩,HINF.rd,HINF.tch.mono (fun b _ e=>e ▸ HU.out.own),HU.out.st _ _ _ HX.out (As _) (HINF.tch.mono fun b _ e=> .inl e),fun e=>absurd e HK5.out⟩
theorem Rs.take_len{n:Int}:(s.take B n).2.length≤n.toNat:=by
 unfold Rs.take
 split
 ·simp;omega
 ·simp
theorem Rs.Vd:(s.loose B m).2.1.length≤1048576:=by
 have h1:=Rs.E6 (B:=B) (s:=s) (m:=min m 1048576)
 unfold Rs.loose
 split
 ·split
  ·split
   ·have:=Rs.take_len (B:=B) (s:=((s.int B (min m 1048576)).1.byte B).1) (n:=((s.int B (min m 1048576)).2:Int))
    dsimp only
    omega
   ·simp
  ·split
   ·split
    ·have:=Rs.Ud (B:=B) (s:=((s.int B (min m 1048576)).1.byte B).1) (s.int B (min m 1048576)).2
     dsimp only
     omega
    ·simp
   ·simp
 ·simp
theorem So(t:Rs):(Eb B t).2.1.length≤1048576:=by
 have:=Rs.Vd (B:=B) (s:=t) (m:=1048576)
 unfold Eb Rs.strict
 dsimp only
 split
 ·split
  ·exact this
  ·simp
 ·simp
theorem Rs.N8{blk:Rs→Rs × List UInt8 × Bool}(h:(Rs.batch B blk s).1.k≠0):(Rs.batch B blk s).2=(Dp,false):=by
 unfold Rs.batch at*
 dsimp only at*
 by_cases h1:(s.Cf B).1.k=0
 ·simp only[Ag h1] at h ⊢
  generalize Rs.II blk (Rs.Dt B (s.Cf B).2.2.2 (s.Cf B).1 ((s.Cf B).2.2.1:Int) 1048576 [])=U at*
  by_cases h2:U.1.k=0
  ·simp only[Ag h2] at h ⊢
   exact absurd h2 h
  ·simp only[Ai h2]
 ·simp only[Ai h1]
theorem Sp(w:World)(h:AS w g B a s)(hB:B.length≤1000000000)(hp:Blk w p 112 #[.pointer (some ⟨g,0,none⟩)]):
  Calls Tryz.prog 128 #[.pointer (some ⟨p,0,none⟩)] w fun r w'=>∃v,r=.returned v∧Am.r (Ie w w') w' [v] (Eb B s).2.1∧AE w g B a (Eb B s).1 w':=by
 have HB:=hid (T4 w h hB 1048576 zC)
 have x0:w.cell? ⟨p,0,none⟩=some (.pointer (some ⟨g,0,none⟩)):=hp.cell 0
 unfold Eb
 dsimp only
 generalize Rs.strict (s.loose B 1048576)=T at*
 obtain⟨s1,D⟩:=T
 dsimp only at*
 clear h hp
 go_enter Tryz.func128,Tryz.ntmps128
 go_wp2_with fail
 refine HB.out.mono ?_
 rintro r w1 ⟨v,rfl,hv,hst⟩
 obtain⟨a1,c1,hfv,hv2,_⟩:=AH hv
 simp only[Av,AI] at hfv
 subst hfv
 have HV:=hid hv2
 have HS:=hid hst
 clear hv hv2 hst
 go_wp2
 go_ret
 exact⟨_,rfl,HV.out,HS.out⟩
theorem T9(w:World)(h:AS w g B a s)(hB:B.length≤1000000000):
  Calls Tryz.prog 73 #[.pointer (some ⟨g,0,none⟩)] w fun r w'=>∃v,r=.returned (.agg #[.int .u64 (Rs.batch B (Eb B) s).2.1.epoch,.int .u64 (Rs.batch B (Eb B) s).2.1.base,v])∧CK.r (Ie w w') w' [v] (Rs.batch B (Eb B) s).2.1.entries∧AE w g B a (Rs.batch B (Eb B) s).1 w':=by
 have hlt:=h.blk.lt
 have HIN:=hid (CS.refl h)
 clear h
 generalize hZ:Rs.batch B (Eb B) s=Z
 have HZ:=hid hZ
 clear hZ
 obtain⟨s1,b,q⟩:=Z
 obtain⟨e,p,E⟩:=b
 dsimp only at*
 go_enter Tryz.func73,Tryz.ntmps73
 go_wp2_with fail
 have hbw:Below w.heap.size w ((w.alloc (.cells #[.pointer (some ⟨g,0,none⟩)] 112)).alloc (.cells #[.int .u64 0,.int .u64 0,.slice none 0 0] 48)):=zA
 have R0:Blk ((w.alloc (.cells #[.pointer (some ⟨g,0,none⟩)] 112)).alloc (.cells #[.int .u64 0,.int .u64 0,.slice none 0 0] 48)) (w.heap.size+1) 48 #[.int .u64 0,.int .u64 0,.slice none 0 0]:=zD
 have P0:Blk ((w.alloc (.cells #[.pointer (some ⟨g,0,none⟩)] 112)).alloc (.cells #[.int .u64 0,.int .u64 0,.slice none 0 0] 48)) w.heap.size 112 #[.pointer (some ⟨g,0,none⟩)]:=zD
 have HIN0:=hid (HIN.out.row hbw)
 have hsz:((w.alloc (.cells #[.pointer (some ⟨g,0,none⟩)] 112)).alloc (.cells #[.int .u64 0,.int .u64 0,.slice none 0 0] 48)).heap.size=w.heap.size+2:=zM
 have HBW:=hid hbw
 clear hbw
 generalize ((w.alloc (.cells #[.pointer (some ⟨g,0,none⟩)] 112)).alloc (.cells #[.int .u64 0,.int .u64 0,.slice none 0 0] 48))=W at*
 have hU:MK W g B a 128 #[.pointer (some ⟨w.heap.size,0,none⟩)] (Eb B) (·=g) (fun V _=>Blk V w.heap.size 112 #[.pointer (some ⟨g,0,none⟩)]):={
  lt:=fun b e=>by omega
  own:=rfl
  st:=fun V V' q hv hs ht=>Blk.tch hv ht zC
  call:=fun V t hV hX hs ht=>(Sp V hV hB hX).mono fun r V' ⟨v,h1,h2,h3⟩=>⟨v,h1,h2,h3.1,h3.2,Blk.tch hX h3.2 zC⟩
  size:=So
  dat:=HIN0.out.rd.dat
  ent:=fun xs V=>by go_simp}
 have hC:=N7 W HIN0.out.rd hB _ _ _ _ _ hU P0
 rw[HZ.out] at hC
 have HC:=hid hC
 clear hU P0 hC
 refine HC.out.mono ?_
 rintro r w1 ⟨v,q1,rfl,hv,hrd,ht,_,_⟩
 obtain⟨a1,c1,hfv,_,_⟩:=AH (Cu hv)
 simp only[Av,AI] at hfv
 subst hfv
 have R1:=R0.tch ht zC
 have hs1:=ht.size
 have HIN1:=hid (HIN0.out.step ⟨hrd,ht⟩)
 have HV:=hid hv
 obtain⟨x0,x1,x2,f0,f1,f2,l1⟩:=Dv R1
 clear hv hrd ht
 go_wp2
 obtain⟨v0,v1,v2,_,_,_,lF⟩:=Dv (((R1.set 0 (.int .u64 e)).set 1 (.int .u64 p)).set 2 (.slice a1 E.length c1))
 have hbF:Below w.heap.size w1 (((w1.setCell ⟨w.heap.size+1,0,none⟩ (.int .u64 e)).setCell ⟨w.heap.size+1,1,none⟩ (.int .u64 p)).setCell ⟨w.heap.size+1,2,none⟩ (.slice a1 E.length c1)):=zA
 refine Ax (v:=.agg #[.int .u64 e,.int .u64 p,.slice a1 E.length c1]) (by simp[results,Tryz.results73,go_sem,v0,v1,v2,lF]) rfl ⟨_,rfl,?_,(HIN1.out.row hbF).to⟩
 refine CK.mono (CK.keep HV.out fun b hb=> ?_) fun b hb=>⟨zAd,by have:=hb.2;simp;omega⟩
 have:=hb.1
 repeat rw[At _ _ _ _ zH]
structure QJ(w W:World)(B:List UInt8)(a:Option Addr)(c:Nat)(s sf:Rs)(ge:Nat)(D:List UInt8)(aD:Option Addr)(cD:Nat):Prop where
 b0:Blk W w.heap.size 91 #[.slice a B.length c,.int .i64 (s.p:Int),.int .i64 s.k,.int .i64 s.f]
 b1:Blk W (w.heap.size+1) 91 #[.slice none 0 0,.int .i64 0,.int .i64 0,.int .i64 0]
 be:Blk W ge 91 #[.slice a B.length c,.int .i64 (sf.p:Int),.int .i64 sf.k,.int .i64 sf.f]
 lo:w.heap.size+1<ge
 dat:Am.r (fun q=>ge<q∧q<W.heap.size) W [.slice aD D.length cD] D
 bel:Below w.heap.size w W
theorem QJ.later{V V':World}{sf:Rs}{ge:Nat}{aD:Option Addr}{cD:Nat}(h:QJ w V B a c s sf ge D aD cD)(hb:Below V.heap.size V V'):QJ w V' B a c s sf ge D aD cD:=
 ⟨h.b0.later hb,h.b1.later hb,h.be.later hb,h.lo,Am.mono (Am.keep h.dat fun q hq=>hb.block q hq.2) fun q hq=>⟨hq.1,An hq.2 hb.size⟩,Aj hb h.bel⟩
theorem QJ.data{w V:World}{B:List UInt8}{a:Option Addr}{c:Nat}{s sf:Rs}{ge:Nat}{D':List UInt8}{aD aD':Option Addr}{cD cD':Nat}(h:QJ w V B a c s sf ge D aD cD)(hd:Am.r (fun q=>ge<q∧q<V.heap.size) V [.slice aD' D'.length cD'] D'):QJ w V B a c s sf ge D' aD' cD':=
 ⟨h.b0,h.b1,h.be,h.lo,hd,h.bel⟩
theorem QJ.set{V:World}{sf:Rs}{ge:Nat}{aD:Option Addr}{cD:Nat}(h:QJ w V B a c s sf ge D aD cD)(t:Rs):
  QJ w ((((V.setCell ⟨ge,0,none⟩ (.slice a B.length c)).setCell ⟨ge,1,none⟩ (.int .i64 (t.p:Int))).setCell ⟨ge,2,none⟩ (.int .i64 t.k)).setCell ⟨ge,3,none⟩ (.int .i64 t.f)) B a c s t ge D aD cD:=by
 have hlo:=h.lo
 refine⟨?_,?_,?_,hlo,?_,?_⟩
 ·exact Blk.far (Blk.far (Blk.far (Blk.far h.b0 zH _) zH _) zH _) zH _
 ·exact Blk.far (Blk.far (Blk.far (Blk.far h.b1 zH _) zH _) zH _) zH _
 ·exact Blk.set (Blk.set (Blk.set (Blk.set h.be 0 _) 1 _) 2 _) 3 _
 ·refine Am.mono (Am.keep h.dat fun q hq=> ?_) fun q hq=>⟨hq.1,by have:=hq.2;simp[World.setCell];omega⟩
  have hq1:=hq.1
  repeat (rw[At _ _ _ _ zH])
 ·have hb:=h.bel
  (repeat (first | with_reducible exact Below.refl _ _ | with_reducible assumption | (with_reducible refine Aw ?_ _) | (with_reducible refine Below.setCell ?_ zE _) | (with_reducible refine Below.drew ?_) | (with_reducible refine below_drewN ?_ _) | (refine Aj zG ?_)))
structure Aaw(w:World)(B:List UInt8)(a:Option Addr)(c:Nat)(m:Msg)(v1 v2 v3 v4:Value)(s:Rs)(W:World):Prop where
 d:Blk W w.heap.size 91 #[.slice a B.length c,.int .i64 (s.p:Int),.int .i64 s.k,.int .i64 s.f]
 r6:Blk W (w.heap.size+1) 91 #[.slice none 0 0,.int .i64 0,.int .i64 0,.int .i64 0]
 r7:Blk W (w.heap.size+1+1) 45 zeroCells
 pm:Blk W (w.heap.size+1+1+1) 45 (Sj m v1 v2 v3 v4)
 ok:s.ok B.length
 bel:Below w.heap.size w W
 low:w.heap.size+1+1+1+1≤W.heap.size
 st:Cb.r (fun b=>w.heap.size+1+1+1+1≤b∧b<W.heap.size) W [v1] m.streams
 ln:Cx.r (fun b=>w.heap.size+1+1+1+1≤b∧b<W.heap.size) W [v2] m.links
 da:Am.r (fun b=>w.heap.size+1+1+1+1≤b∧b<W.heap.size) W [v3] m.data
 sp:Fc.r (fun b=>w.heap.size+1+1+1+1≤b∧b<W.heap.size) W [v4] m.proj.stripes
theorem Aaw.later{m:Msg}{v3 v4:Value}(h:Aaw w B a c m v1 v2 v3 v4 s W)(hb:Below W.heap.size W W'):Aaw w B a c m v1 v2 v3 v4 s W':=by
 have hk:∀b,w.heap.size+1+1+1+1≤b∧b<W.heap.size→W'.heap[b]? =W.heap[b]? :=fun b hb'=>hb.block b hb'.2
 have hm:∀b,w.heap.size+1+1+1+1≤b∧b<W.heap.size→w.heap.size+1+1+1+1≤b∧b<W'.heap.size:=fun b hb'=>⟨hb'.1,An hb'.2 hb.size⟩
 exact⟨h.d.later hb,h.r6.later hb,h.r7.later hb,h.pm.later hb,h.ok,Aj hb h.bel,Bb h.low hb.size,Cb.mono (Cb.keep h.st hk) hm,Cx.mono (Cx.keep h.ln hk) hm,Am.mono (Am.keep h.da hk) hm,Fc.mono (Fc.keep h.sp hk) hm⟩
def Rs.fin(L:Nat)(s:Rs):Rs:=if s.p<L then s.fail 9 s.p else s
theorem SV(w:World){g:Nat}{B:List UInt8}{a:Option Addr}{s:Rs}(h:AS w g B a s):Calls Tryz.prog 203 #[.pointer (some ⟨g,0,none⟩)] w fun r w'=>r=.returned (.tuple #[])∧AE w g B a (s.fin B.length) w':=by
 have HLF:=hid (MC w h)
 have HH:=hid h
 have hln:=h.len
 have hle:=h.ok.le
 unfold Rs.fin
 clear h
 by_cases hp:s.p<B.length
 ·rw[Ag hp]
  have d1:decide ((0:Int)<(B.length:Int)-(s.p:Int))=true:=Ad zC
  have d2:decide (s.p<B.length)=true:=Ad hp
  clear hp
  go_enter Tryz.func203,Tryz.ntmps203
  go_wp2_with fail
  refine HLF.out.mono ?_
  rintro r w1 ⟨rfl,hb1⟩
  have HH1:=hid (HH.out.later hb1)
  have x1:=HH1.out.blk.cell 1
  simp at x1
  go_wp2_with fail
  refine (Bx w1 HH1.out 9 (s.p:Int) zC).mono ?_
  rintro r w2 ⟨rfl,hst⟩
  have HST:=hid (AE.trans (s':=s.fail 9 s.p) (Tch.AW (F:=(·=g)) hb1) hst)
  clear hst x1
  go_wp2
  first | go_end0 | refine Ax (A4 rfl _ _ _) rfl ?_
  exact⟨rfl,HST.out⟩
 ·rw[Ai hp]
  have d1:decide ((0:Int)<(B.length:Int)-(s.p:Int))=false:=Ae zC
  have d2:decide (s.p<B.length)=false:=Ae hp
  clear hp
  go_enter Tryz.func203,Tryz.ntmps203
  go_wp2_with fail
  refine HLF.out.mono ?_
  rintro r w1 ⟨rfl,hb1⟩
  have HST:=hid (AE.later HH.out hb1)
  go_wp2
  first | go_end0 | refine Ax (A4 rfl _ _ _) rfl ?_
  exact⟨rfl,HST.out⟩
theorem Rs.S9{most:Int}(h:(s.loose B most).1.k≠0):(s.loose B most).2.1=[]∧(s.loose B most).2.2=false:=by
 unfold Rs.loose at*
 by_cases h1:((s.int B (min most 1048576)).1.byte B).1.k=0
 ·rw[Ag h1] at h ⊢
  by_cases h2:((s.int B (min most 1048576)).1.byte B).2.toNat=0
  ·rw[Ag h2] at h ⊢
   by_cases h3:(((s.int B (min most 1048576)).1.byte B).1.take B ((s.int B (min most 1048576)).2:Int)).1.k=0
   ·rw[Ag h3] at h;exact absurd h3 h
   ·rw[Ai h3];exact⟨rfl,rfl⟩
  ·rw[Ai h2] at h ⊢
   by_cases h4:((s.int B (min most 1048576)).1.byte B).2.toNat=1
   ·rw[Ag h4] at h ⊢
    by_cases h3:(((s.int B (min most 1048576)).1.byte B).1.unp B (s.int B (min most 1048576)).2).1.k=0
    ·rw[Ag h3] at h;exact absurd h3 h
    ·rw[Ai h3];exact⟨rfl,rfl⟩
   ·rw[Ai h4];exact⟨rfl,rfl⟩
 ·rw[Ai h1];exact⟨rfl,rfl⟩
theorem Rs.Ni(h:(s.loose B m).2.2=true):Bj (s.loose B m).2.1=(B.drop s.p).take ((s.loose B m).1.p-s.p):=by
 unfold Rs.loose at*
 by_cases h1:((s.int B (min m 1048576)).1.byte B).1.k=0
 ·simp only[Ag h1] at h ⊢
  by_cases h2:((s.int B (min m 1048576)).1.byte B).2.toNat=0
  ·simp only[Ag h2] at h ⊢
   by_cases h3:(((s.int B (min m 1048576)).1.byte B).1.take B ((s.int B (min m 1048576)).2:Int)).1.k=0
   ·simp only[Ag h3] at h ⊢
    exact C8 h
   ·simp only[Ai h3] at h;cases h
  ·simp only[Ai h2] at h ⊢
   by_cases h4:((s.int B (min m 1048576)).1.byte B).2.toNat=1
   ·simp only[Ag h4] at h ⊢
    by_cases h3:(((s.int B (min m 1048576)).1.byte B).1.unp B (s.int B (min m 1048576)).2).1.k=0
    ·simp only[Ag h3] at h ⊢
     exact C8 h
    ·simp only[Ai h3] at h;cases h
   ·simp only[Ai h4] at h;cases h
 ·simp only[Ai h1] at h;cases h
theorem YC(t:Rs):((Eb B t).1=(Le B t).1∧(Eb B t).2.1=(Le B t).2.1∧((Le B t).1.k=0→(Le B t).2.2=true))∨((Eb B t).1.k=12∧(Le B t).1.k=0∧(Le B t).2.2=false):=by
 have hb:=Rs.S9 (B:=B) (s:=t) (most:=1048576)
 unfold Eb Le Rs.strict
 generalize t.loose B 1048576=L at*
 obtain⟨s,D,q⟩:=L
 dsimp only at*
 by_cases h:s.k=0
 ·rw[Ag h]
  cases q
  ·right
   refine⟨?_,h,rfl⟩
   simp[Rs.fail,h]
  ·left
   simp
 ·rw[Ai h]
  left
  exact⟨rfl,(hb h).1.symm,fun e=>absurd e h⟩
theorem Ut(h:(s.fin L).k=0):s.k=0∧L≤s.p∧s.fin L=s:=by
 unfold Rs.fin at*
 by_cases h1:s.p<L
 ·rw[Ag h1] at h;exact absurd h (Rs.BI zC)
 ·rw[Ai h1] at h ⊢;exact⟨h,zC,rfl⟩
theorem Aau(t:Rs)(h:(Eb B t).1.k=0):t.k=0:=by
 by_cases hk:t.k=0
 ·exact hk
 ·have:(Eb B t).1=t:=by
   unfold Eb
   rw[Rs.Qc hk]
   unfold Rs.strict
   rw[Ai hk]
  rw[this] at h
  exact h
theorem Qf{b:Batch}(hR:Bg b=true):(BM b.entries).length≤1048576:=by
 simp only[Bg,Ap,Ao] at hR
 rw[DJ]
 exact hR.2.2.1
theorem XE{b:Batch}(hR:Bg b=true)(B rest:List UInt8)(q:Nat)(h1:q≤B.length)(h2:B.drop q=Bj (BM b.entries)++rest):Le B ⟨q,0,0⟩=(⟨q+(Bj (BM b.entries)).length,0,0⟩,BM b.entries,true):=by
 have hj:=Qf hR
 exact Rs.Rf h2 h1 hj zC
theorem XA{b:Batch}(hR:Bg b=true)(B rest:List UInt8)(q:Nat)(h1:q≤B.length)(h2:B.drop q=Bj (BM b.entries)++rest):Eb B ⟨q,0,0⟩=(⟨q+(Bj (BM b.entries)).length,0,0⟩,BM b.entries,true):=by
 have:=XE hR B rest q h1 h2
 unfold Le at this
 unfold Eb
 rw[this]
 rfl
theorem Rs.AaO:inU ((s.ep B).2:Int):=by
 have:=Rs.ET (B:=B) (s:=s)
 unfold Rs.ep inU
 split
 ·split
  ·omega
  ·simp
 ·simp
theorem DC:inU 0:=⟨Int.le_refl _,zL⟩
theorem Nv:inI 0:=⟨zL,zL⟩
structure YF(m:Msg):Prop where
 kind:inI m.kind
 epoch:inU m.epoch
 seq:inU m.seq
 pos:inU m.pos
 count:inI m.count
 state:inI m.state
 sealE:inU m.sea.epoch
 sealN:inU m.sea.node
 sealT:inU m.sea.tail
 projE:inU m.proj.epoch
theorem YF.none:YF WO:=⟨Nv,DC,DC,DC,Nv,Nv,DC,DC,DC,DC⟩
theorem YF.to{m:Msg}(h:YF m){S:Nat→Prop}{W:World}{a1:Option Addr}{c1:Nat}{a2:Option Addr}{c2:Nat}{a3:Option Addr}{c3:Nat}{a4:Option Addr}{c4:Nat}(h1:Cb.r S W [.slice a1 m.streams.length c1] m.streams)(h2:Cx.r S W [.slice a2 m.links.length c2] m.links)(h3:Am.r S W [.slice a3 m.data.length c3] m.data)(h4:Fc.r S W [.slice a4 m.proj.stripes.length c4] m.proj.stripes):
  FZ S W m a1 c1 a2 c2 a3 c3 a4 c4:=⟨h.kind,h.epoch,h.seq,h.pos,h.count,h.state,h.sealE,h.sealN,h.sealT,h.projE,h1,h2,h3,h4⟩
theorem Nc:FZ S w WO none 0 none 0 none 0 none 0:=
 ⟨⟨zL,zL⟩,DC,DC,DC,⟨zL,zL⟩,⟨zL,zL⟩,DC,DC,DC,DC,Bv (xs:=[]) rfl (Ar _) (Ar _) (.inl rfl),Bv (xs:=[]) rfl (Ar _) (Ar _) (.inl rfl),Bv (xs:=[]) rfl (Ar _) (Ar _) (.inl rfl),Bv (xs:=[]) rfl (Ar _) (Ar _) (.inl rfl)⟩
theorem FZ.put{m:Msg}{e n:Int}(h:FZ S w m a1 c1 a2 c2 a3 c3 a4 c4)(he:inU e)(hn:inU n):FZ S w ⟨m.kind,e,n,m.pos,m.count,m.state,m.streams,m.links,m.data,m.sea,m.proj⟩ a1 c1 a2 c2 a3 c3 a4 c4:=
 ⟨h.kind,he,hn,h.pos,h.count,h.state,h.sealE,h.sealN,h.sealT,h.projE,h.streams,h.links,h.data,h.stripes⟩
structure Wa(w:World)(B:List UInt8)(a:Option Addr)(s:Rs)(W:World):Prop where
 rd:AS W (w.heap.size+1+1) B a s
 mb:Blk W w.heap.size 45 zeroCells
 fb:Blk W (w.heap.size+1) 65 #[.int .i64 0,.int .i64 0]
 bl:Below w.heap.size w W
section
variable {w W W':World} {B:List UInt8} {a:Option Addr} {s s':Rs}
theorem Wa.step(h:Wa w B a s W)(k:AE W (w.heap.size+1+1) B a s' W'):Wa w B a s' W':=
 ⟨k.1,h.mb.tch k.2 zC,h.fb.tch k.2 zC,h.bl.trans (k.2.Ch h.bl.size fun b hb e=>zC)⟩
theorem Wa.row(h:Wa w B a s W)(hb:Below W.heap.size W W'):Wa w B a s W':=
 ⟨h.rd.later hb,h.mb.later hb,h.fb.later hb,h.bl.trans (hb.mono h.bl.size)⟩
end
theorem Tt:(Qk ((⟨0,0,0⟩:Rs).frame B m)).2.1≤B.length∧(Qk ((⟨0,0,0⟩:Rs).frame B m)).1.length≤2097152:=by
 have h0:(⟨0,0,0⟩:Rs).ok B.length:=⟨Ar _,fun _=>rfl⟩
 have h1:=Rs.IH h0 (min m 2097152)
 have h2:=Rs.Gf h1 4
 have h3:=Rs.E6 (B:=B) (s:=⟨0,0,0⟩) (m:=min m 2097152)
 have h4:((⟨0,0,0⟩:Rs).Ct B (min m 2097152)).2.length≤2097152:=by
  unfold Rs.Ct
  have:=Rs.take_len (B:=B) (s:=((⟨0,0,0⟩:Rs).int B (min m 2097152)).1) (n:=(((⟨0,0,0⟩:Rs).int B (min m 2097152)).2:Int))
  omega
 have h5:((⟨0,0,0⟩:Rs).frame B m).1.ok B.length:=by
  unfold Rs.frame
  dsimp only
  split
  ·exact h2
  ·exact Rs.Ck h2 zC
 have h6:((⟨0,0,0⟩:Rs).frame B m).2.length≤2097152:=by
  unfold Rs.frame
  dsimp only
  generalize (if Cc (Rs.Ct B ⟨0,0,0⟩ (min m 2097152)).2=_ then _ else _:Rs)=r
  by_cases hr:r.k=0
  ·rw[Ag hr];exact h4
  ·rw[Ai hr];simp
 unfold Qk
 split
 ·exact⟨h5.le,h6⟩
 ·exact⟨Ar _,zM⟩
theorem IF(w:World)(k f b:Int)(hk:k≠0):Calls Tryz.prog 117 #[.agg #[.int .i64 k,.int .i64 f],.int .i64 b] w fun r w'=>r=.returned (.agg #[.int .i64 k,.int .i64 (wrap64 (f+b))])∧Below w.heap.size w w':=by
 obtain⟨v,hv⟩:∃v,wrap64 (f+b)=v:=⟨_,rfl⟩
 rw[hv]
 have HV:=hid hv
 clear hv
 go_enter Tryz.func117,Tryz.ntmps117
 go_wp2_with fail
 rw[HV.out]
 refine (Gp _ k v hk).mono ?_
 rintro r w1 ⟨rfl,hb1⟩
 have B1:Blk w1 (w.heap.size+1) 65 #[.int .i64 0,.int .i64 0]:=Blk.later zD hb1
 obtain⟨y0,y1,g0,g1,l1⟩:=Bd B1
 have hbw:Below w.heap.size w w1:=zA
 clear B1 hb1
 go_wp2
 refine Ax (v:=.agg #[.int .i64 k,.int .i64 v]) zBg rfl ⟨rfl,zA⟩
structure Wb(w W:World):Prop where
 mb:Blk W w.heap.size 45 zeroCells
 fb:Blk W (w.heap.size+1) 65 #[.int .i64 0,.int .i64 0]
 bl:Below w.heap.size w W
section
variable {w W W':World}
theorem Wb.row(h:Wb w W)(hb:Below W.heap.size W W'):Wb w W':=
 ⟨h.mb.later hb,h.fb.later hb,h.bl.trans (hb.mono h.bl.size)⟩
theorem Wb.tch(h:Wb w W)(hg:w.heap.size+1<g)(hb:Tch (·=g) W W'):Wb w W':=
 ⟨h.mb.tch hb zC,h.fb.tch hb zC,h.bl.trans (hb.Ch h.bl.size fun b hb e=>zC)⟩
end
theorem Rs.WS{t:Rs}(ht:t.ok B.length):t.p≤(t.loose B m).1.p:=by
 have h1:=Rs.WX (B:=B) (s:=t) (m:=min m 1048576)
 have o1:=Rs.Eo (B:=B) (m:=min m 1048576) ht
 have h2:=Rs.NV (B:=B) o1
 have o2:=Rs.Hp (B:=B) o1
 have h3:=Rs.SE (B:=B) o2 ((t.int B (min m 1048576)).2:Int)
 have h4:=Rs.YQ (B:=B) o2 (t.int B (min m 1048576)).2
 unfold Rs.loose
 split
 ·split
  ·split<;>(dsimp only;omega)
  ·split
   ·split<;>(dsimp only;omega)
   ·dsimp only
    rw[Rs.NL]
    omega
 ·dsimp only
  omega
theorem XF(t:Rs)(ht:t.ok B.length)(h:(Le B t).1.k=0)(hf:(Le B t).2.2=true):B.drop t.p=Bj (Le B t).2.1++B.drop (Le B t).1.p:=by
 have h1:=Rs.Ni (B:=B) (s:=t) (m:=1048576) hf
 have h2:=Rs.WS (B:=B) ht (m:=1048576)
 unfold Le at*
 rw[h1]
 have:B.drop (t.loose B 1048576).1.p=(B.drop t.p).drop ((t.loose B 1048576).1.p-t.p):=by
  rw[Fm]
  congr 1
  omega
 rw[this,Bn]
theorem XD(t:Rs)(ht:t.ok B.length)(h:(Eb B t).1.k=0)(hf:(Eb B t).2.2=true):B.drop t.p=Bj (Eb B t).2.1++B.drop (Eb B t).1.p:=by
 rcases YC (B:=B) t with ⟨h1,h2,h3⟩ | ⟨h1,h2,h3⟩
 ·rw[h1] at h ⊢
  rw[h2]
  exact XF t ht h (h3 h)
 ·omega
theorem XB{t:Rs}(h:t.ok B.length):(Eb B t).1.ok B.length:=by
 unfold Eb Rs.strict
 dsimp only
 split
 ·split
  ·exact Rs.Nj h 1048576
  ·exact Rs.Ck (Rs.Nj h 1048576) zC
 ·exact Rs.Nj h 1048576
theorem BP{lo:Nat}(h:W.ownsRow lo e sz v n xs):∀b,v.ownBlock=some b→lo≤b∧b<W.heap.size:=fun b hv=>h.lt b hv
theorem Rs.GK(h:B.drop p=BJ P++rest)(hp:p≤B.length)(hP:P.length≤2097152):(⟨p,0,0⟩:Rs).frame B 2097152=(⟨p+(BJ P).length,0,0⟩,P):=by
 unfold BJ at h
 rw[Au] at h
 have h1:=Rs.Sm (m:=min 2097152 2097152) zC h hp zC
 have h2:=A2 h
 have hr:=AX h hp
 have h3:=Rs.GO h2 zC
 rw[Da] at h3
 have h4:(⟨p+(Ei P).length,0,0⟩:Rs).take B 4=(⟨p+(Ei P).length+4,0,0⟩,BE 4 (Cc P)):=h3
 have h5:Cc P=EC (BE 4 (Cc P)):=by
  rw[Jp]
  have:=Gd P
  omega
 unfold Rs.frame
 rw[h1]
 dsimp only
 rw[h4]
 dsimp only
 rw[Ag h5,Ag rfl,Dk,Cl]
theorem Rs.MG(h:s.k≠0):s.fin L=s:=by
 unfold Rs.fin
 split
 ·exact Rs.Bt h
 ·rfl
end Go.Proofs.YtfddhafbhceoaaaGreat
namespace Go.Bs
open Go.RowKit
variable{cs:List Value}{c i n:Nat}{S:Nat → Prop}{a:Option Addr}{w:World}
structure AP where
 pos:Int
 count:Int
 at_:Int
def JQ:Rp AP:=rBy (fun m=>(m.pos,m.count,m.at_)) (Dr (F6 .u64) (Dr (F6 .i64) (F6 .i64)))
def Bw:Rp (List AP):=rSl 3 JQ
structure G5(m:AP):Prop where
 p:0≤m.pos∧m.pos≤18446744073709551615
 c: -9223372036854775808≤m.count∧m.count≤9223372036854775807
 a: -9223372036854775808≤m.at_∧m.at_≤9223372036854775807
theorem IA{n:Int}(h: -9223372036854775808≤n∧n≤9223372036854775807):(Lit.int .i64 n).wf=true:=by
 simp[Lit.wf,IntKind.min,IntKind.max,IntKind.signed,IntKind.bits];omega
theorem Nh{x:AP}(h:JQ.r S w cs x):cs=[.int .u64 x.pos,.int .i64 x.count,.int .i64 x.at_]∧G5 x:=by
 obtain⟨c1,c2,rfl,⟨rfl,hw⟩,d1,d2,rfl,⟨rfl,hw2⟩,⟨rfl,hw3⟩⟩:=h
 exact⟨rfl,FV hw,bounds_i64 hw2,bounds_i64 hw3⟩
theorem KN{x:AP}(h:G5 x):JQ.r S w [.int .u64 x.pos,.int .i64 x.count,.int .i64 x.at_] x:=
 ⟨[_],[_,_],rfl,⟨rfl,F0 h.p⟩,[_],[_],rfl,⟨rfl,IA h.c⟩,⟨rfl,IA h.a⟩⟩
theorem Hi{xs:List AP}(h:Bw.r S w [.slice a n c] xs)(hi:i<xs.length):∃b off,a=some ⟨b,off,none⟩∧S b∧w.cell? ⟨b,off+i*3,none⟩=some (.int .u64 xs[i].pos)∧w.cell? ⟨b,off+i*3+1,none⟩=some (.int .i64 xs[i].count)∧w.cell? ⟨b,off+i*3+2,none⟩=some (.int .i64 xs[i].at_)∧G5 xs[i]:=by
 obtain⟨b,off,e,hS,cs,_,hc,hA⟩:=I5 h hi
 obtain⟨rfl,hn⟩:=Nh hA
 exact⟨b,off,e,hS,hc 0 _ rfl,hc 1 _ rfl,hc 2 _ rfl,hn⟩
def Dh(m:AP)(pos at_:Int):Bool:=decide (1≤m.count)&&(decide (m.count≤16)&&(decide (pos≤m.pos)&&(decide (m.pos<4611686018427387904)&&(decide (m.pos+m.count≤4611686018427387904)&&(decide (at_<m.at_)&&decide (m.at_≤1099511627775))))))
def DZ:Int→Int→List AP→Bool
 | _,_,[]=>true
 | p,a,m::l=>Dh m p a&&DZ (m.pos+m.count) m.at_ l
def Cs(l:List AP):Bool:=DZ 0 0 l&&decide (l.length≤16)
theorem D4{m:AP}{p a:Int}(h:Dh m p a=true):1≤m.count∧m.count≤16∧p≤m.pos∧m.pos<4611686018427387904∧m.pos+m.count≤4611686018427387904∧a<m.at_∧m.at_≤1099511627775:=by
 simpa only[Dh,Ap,Ao] using h
end Go.Bs
namespace Go.Proofs.YtfddhafbhceoaaaGreat
open Go.RowKit Go.Bs Go.Maps
variable{m pos:Int}{B D J P rest:List UInt8}{xs:List Value}{L base c c1 c2 c3 c4 g n p sz:Nat}{S:Nat → Prop}{a a1 a2 a3 a4:Option Addr}{s:Rs}{e:TypeId}{v v1 v2:Value}{W W' w w1:World}
theorem Fy(m:AP)(hp:0≤m.pos)(hc:0≤m.count∧m.count≤9223372036854775807)(hs:m.pos+m.count≤18446744073709551615)(w:World):
  Calls Tryz.prog 283 #[.agg #[.int .u64 m.pos,.int .i64 m.count,.int .i64 m.at_]] w fun r w'=>r=.returned (.int .u64 (m.pos+m.count))∧Below w.heap.size w w':=by
 obtain⟨p,c,a⟩:=m
 dsimp only at*
 have e1:c%18446744073709551616=c:=zC
 go_enter Tryz.func283,Tryz.ntmps283
 go_wp2
 go_ret
 exact⟨rfl,zB⟩
theorem Nt(m:AP)(hN:G5 m)(pos a:Int)(w:World):
  Calls Tryz.prog 325 #[.agg #[.int .u64 m.pos,.int .i64 m.count,.int .i64 m.at_],.int .u64 pos,.int .i64 a] w fun r w'=>r=.returned (.bool (Dh m pos a))∧Below w.heap.size w w':=by
 by_cases h0:1≤m.count
 ·by_cases h1:m.count≤16
  ·by_cases h2:pos≤m.pos
   ·by_cases h3:m.pos<4611686018427387904
    ·by_cases h4:m.pos+m.count≤4611686018427387904
     ·by_cases h5:a<m.at_
      ·by_cases h6:m.at_≤1099511627775
       ·have d0:decide (1≤m.count)=true:=Ad h0
        have d1:decide (m.count≤16)=true:=Ad h1
        have d2:decide (pos≤m.pos)=true:=Ad h2
        have d3:decide (m.pos<4611686018427387904)=true:=Ad h3
        have d4:decide (m.pos+m.count≤4611686018427387904)=true:=Ad h4
        have d5:decide (a<m.at_)=true:=Ad h5
        have d6:decide (m.at_≤1099511627775)=true:=Ad h6
        have hff:Hid (Dh m pos a=true):=hid zAs
        have HE:=hid (fun W:World=>Fy m hN.p.1 ⟨zC,zC⟩ zC W)
        clear h0 h1 h2 h3 h4 h5 h6 hN
        obtain⟨mp,mc,ma⟩:=m
        dsimp only at*
        go_enter Li,JF
        go_wp2_with fail
        refine (HE.out _).mono ?_
        rintro r w1 ⟨rfl,hb1⟩
        have hbox:=(Blk.new w 88 #[.int .u64 mp,.int .i64 mc,.int .i64 ma]).later hb1
        have c2:w1.cell? ⟨w.heap.size,2,none⟩=some (.int .i64 ma):=hbox.cell 2
        clear hbox
        go_wp2
        go_ret
        exact⟨zP,zB⟩
       ·have d0:decide (1≤m.count)=true:=Ad h0
        have d1:decide (m.count≤16)=true:=Ad h1
        have d2:decide (pos≤m.pos)=true:=Ad h2
        have d3:decide (m.pos<4611686018427387904)=true:=Ad h3
        have d4:decide (m.pos+m.count≤4611686018427387904)=true:=Ad h4
        have d5:decide (a<m.at_)=true:=Ad h5
        have d6:decide (m.at_≤1099511627775)=false:=Ae h6
        have hff:Hid (Dh m pos a=false):=hid zAs
        have HE:=hid (fun W:World=>Fy m hN.p.1 ⟨zC,zC⟩ zC W)
        clear h0 h1 h2 h3 h4 h5 h6 hN
        obtain⟨mp,mc,ma⟩:=m
        dsimp only at*
        go_enter Li,JF
        go_wp2_with fail
        refine (HE.out _).mono ?_
        rintro r w1 ⟨rfl,hb1⟩
        have hbox:=(Blk.new w 88 #[.int .u64 mp,.int .i64 mc,.int .i64 ma]).later hb1
        have c2:w1.cell? ⟨w.heap.size,2,none⟩=some (.int .i64 ma):=hbox.cell 2
        clear hbox
        go_wp2
        go_ret
        exact⟨zP,zB⟩
      ·have d0:decide (1≤m.count)=true:=Ad h0
       have d1:decide (m.count≤16)=true:=Ad h1
       have d2:decide (pos≤m.pos)=true:=Ad h2
       have d3:decide (m.pos<4611686018427387904)=true:=Ad h3
       have d4:decide (m.pos+m.count≤4611686018427387904)=true:=Ad h4
       have d5:decide (a<m.at_)=false:=Ae h5
       have hff:Hid (Dh m pos a=false):=hid (by simp only[Dh,d0,d1,d2,d3,d4,d5,Dz,Ii])
       have HE:=hid (fun W:World=>Fy m hN.p.1 ⟨zC,zC⟩ zC W)
       clear h0 h1 h2 h3 h4 h5 hN
       obtain⟨mp,mc,ma⟩:=m
       dsimp only at*
       go_enter Li,JF
       go_wp2_with fail
       refine (HE.out _).mono ?_
       rintro r w1 ⟨rfl,hb1⟩
       have hbox:=(Blk.new w 88 #[.int .u64 mp,.int .i64 mc,.int .i64 ma]).later hb1
       have c2:w1.cell? ⟨w.heap.size,2,none⟩=some (.int .i64 ma):=hbox.cell 2
       clear hbox
       go_wp2
       go_ret
       exact⟨zP,zB⟩
     ·have d0:decide (1≤m.count)=true:=Ad h0
      have d1:decide (m.count≤16)=true:=Ad h1
      have d2:decide (pos≤m.pos)=true:=Ad h2
      have d3:decide (m.pos<4611686018427387904)=true:=Ad h3
      have d4:decide (m.pos+m.count≤4611686018427387904)=false:=Ae h4
      have hff:Hid (Dh m pos a=false):=hid (by simp only[Dh,d0,d1,d2,d3,d4,Dz,Ii])
      have HE:=hid (fun W:World=>Fy m hN.p.1 ⟨zC,zC⟩ zC W)
      clear h0 h1 h2 h3 h4 hN
      obtain⟨mp,mc,ma⟩:=m
      dsimp only at*
      go_enter Li,JF
      go_wp2_with fail
      refine (HE.out _).mono ?_
      rintro r w1 ⟨rfl,hb1⟩
      have hbox:=(Blk.new w 88 #[.int .u64 mp,.int .i64 mc,.int .i64 ma]).later hb1
      have c2:w1.cell? ⟨w.heap.size,2,none⟩=some (.int .i64 ma):=hbox.cell 2
      clear hbox
      go_wp2
      go_ret
      exact⟨zP,zB⟩
    ·have d0:decide (1≤m.count)=true:=Ad h0
     have d1:decide (m.count≤16)=true:=Ad h1
     have d2:decide (pos≤m.pos)=true:=Ad h2
     have d3:decide (m.pos<4611686018427387904)=false:=Ae h3
     have hff:Hid (Dh m pos a=false):=hid (by simp only[Dh,d0,d1,d2,d3,Dz,Ii])
     clear h0 h1 h2 h3 hN
     obtain⟨mp,mc,ma⟩:=m
     dsimp only at*
     go_enter Li,JF
     go_wp2
     go_ret
     exact⟨zP,zB⟩
   ·have d0:decide (1≤m.count)=true:=Ad h0
    have d1:decide (m.count≤16)=true:=Ad h1
    have d2:decide (pos≤m.pos)=false:=Ae h2
    have hff:Hid (Dh m pos a=false):=hid (by simp only[Dh,d0,d1,d2,Dz,Ii])
    clear h0 h1 h2 hN
    obtain⟨mp,mc,ma⟩:=m
    dsimp only at*
    go_enter Li,JF
    go_wp2
    go_ret
    exact⟨zP,zB⟩
  ·have d0:decide (1≤m.count)=true:=Ad h0
   have d1:decide (m.count≤16)=false:=Ae h1
   have hff:Hid (Dh m pos a=false):=hid (by simp only[Dh,d0,d1,Dz,Ii])
   clear h0 h1 hN
   obtain⟨mp,mc,ma⟩:=m
   dsimp only at*
   go_enter Li,JF
   go_wp2
   go_ret
   exact⟨zP,zB⟩
 ·have d0:decide (1≤m.count)=false:=Ae h0
  have hff:Hid (Dh m pos a=false):=hid (by simp only[Dh,d0,Dz,Ii])
  clear h0 hN
  obtain⟨mp,mc,ma⟩:=m
  dsimp only at*
  go_enter Li,JF
  go_wp2
  go_ret
  exact⟨zP,zB⟩
theorem M5(p a:Int)(l:List AP)(k:Nat)(h:k<l.length):DZ p a (l.drop k)=(Dh l[k] p a&&DZ (l[k].pos+l[k].count) l[k].at_ (l.drop (k+1))):=by
 rw[AO h];rfl
theorem Jg(l:List AP)(al:Option Addr)(nl cl:Nat)(w:World)(hl:Bw.r (·<w.heap.size) w [.slice al nl cl] l):
  Calls Tryz.prog 282 #[.slice al nl cl] w fun r w'=>r=.returned (.bool (Cs l))∧Below w.heap.size w w':=by
 obtain⟨rfl,hm,_,_⟩:=AL hl
 have HL:=hid hl;clear hl
 go_enter Tryz.func282,Tryz.ntmps282
 go_wp2_with fail
 go_loopw [3,4,9] (fun p a i wr=>∃(k:Nat) (pp aa:Int),k≤l.length∧i=.int .i64 k∧p=.int .u64 pp∧a=.int .i64 aa∧Hid (DZ 0 0 l=DZ pp aa (l.drop k))∧Below w.heap.size w wr) (fun _ _ i _=>l.length-(intOf i).toNat)
 case atStart=>exact ⟨0,0,0,Ar _,rfl,rfl,rfl,hid rfl,Below.refl _ _⟩
 case round=>
  obtain⟨k,pp,aa,hk,rfl,rfl,rfl,hf,hb⟩:=hrel
  by_cases hlt:k<l.length
  ·obtain⟨b,o,hA,hbb,x0,x1,x2,hN⟩:=Hi (lift HL.out hb) hlt
   subst hA
   have hst:=hid (M5 pp aa l k hlt)
   have i1:(k:Int)<(l.length:Int):=zC
   generalize l[k]=m at*
   have HF:=hid (fun W:World=>Nt m hN pp aa W)
   go_wp2_with fail
   refine (HF.out _).mono ?_
   rintro r w1 ⟨rfl,hb1⟩
   have hbox:=(Blk.new wr 88 #[.int .u64 m.pos,.int .i64 m.count,.int .i64 m.at_]).later hb1
   have hb2:Below w.heap.size w w1:=Aj (Aj hb1 zB) hb
   cases hfm:Dh m pp aa
   ·have hff:Hid (Cs l=false):=hid (by unfold Cs;rw[hf.out,hst.out,hfm];rfl)
    clear hfm hbox
    go_wp2
    go_ret
    exact⟨zP,hb2⟩
   ·obtain⟨g1,g2,g3,g4,g5,g6,g7⟩:=D4 hfm
    have hff:Hid (DZ 0 0 l=DZ (m.pos+m.count) m.at_ (l.drop (k+1))):=hid (by rw[hf.out,hst.out,hfm];rfl)
    have HE:=hid (fun s:AM w1=>Fy m hN.p.1 ⟨zC,zC⟩ zC s.at_)
    have Y0:=fun s:AM w1=>s.cell (hbox.cell 0)
    have Y1:=fun s:AM w1=>s.cell (hbox.cell 1)
    have Y2:=fun s:AM w1=>s.cell (hbox.cell 2)
    simp at Y0 Y1 Y2
    clear hfm hbox g1 g2 g3 g4 g5 g6 g7 hN
    go_wp2_with fail
    refine Az zJ zJ ?_
    repeat (go_big_quiet_step ((go_at_call 283;exact CH (HE.out _))))
    refine AT ?_
    rintro W5 ⟨⟨W5',hb5⟩,rfl⟩
    go_wp2
    go_roundw
    case rel=>exact ⟨k+1,_,_,zC,zT,rfl,rfl,hff,Aj hb5 hb2⟩
    case measure=>simp [intOf];omega
  ·obtain rfl:k=l.length:=by omega
   have hff:Hid (Cs l=decide ((l.length:Int)≤16)):=hid (by unfold Cs;rw[hf.out,IP];simp only[DZ,Dz,decide_eq_decide];omega)
   go_wp2
   go_ret
   exact⟨zP,hb⟩
end Go.Proofs.YtfddhafbhceoaaaGreat
namespace Go.Bs
open Go.RowKit
variable{cs:List Value}{c i n:Nat}{S:Nat → Prop}{a:Option Addr}{w:World}
def DO:Int→Int→List AP→List UInt8
 | _,_,[]=>[]
 | p,a,m::l=>AD (m.pos-p).toNat++(AD m.count.toNat++(AD (m.at_-a-1).toNat++DO (m.pos+m.count) m.at_ l))
def A6(l:List AP):List UInt8:=AD l.length++DO 0 0 l
theorem Iv:∀(l:List AP) (p a:Int),(DO p a l).length≤30*l.length
 | [],_,_=>by simp[DO]
 | m::l,p,a=>by
  have h1:=(A1 (m.pos-p).toNat).1
  have h2:=(A1 m.count.toNat).1
  have h3:=(A1 (m.at_-a-1).toNat).1
  have h4:=Iv l (m.pos+m.count) m.at_
  simp only[DO,Al,Ay]
  omega
theorem Rd(p a:Int)(l:List AP)(k:Nat)(h:k<l.length):DO p a (l.drop k)=AD (l[k].pos-p).toNat++(AD l[k].count.toNat++(AD (l[k].at_-a-1).toNat++DO (l[k].pos+l[k].count) l[k].at_ (l.drop (k+1)))):=by
 rw[AO h];rfl
def Df(l:List AP):Int:=(l.map AP.count).sum
theorem Sd(l:List AP)(k:Nat)(h:k<l.length):Df (l.take (k+1))=Df (l.take k)+l[k].count:=by
 rw[AU h];simp only[Df,Cv,List.sum_append,Ca,List.map_nil,List.sum_cons,List.sum_nil];omega
theorem JG:∀(l:List AP) (p a:Int),DZ p a l=true→∀m∈l,1≤m.count∧m.count≤16∧m.pos+m.count≤4611686018427387904
 | [],_,_,_,m,hm=>by cases hm
 | x::l,p,a,h,m,hm=>by
  simp only[DZ,Ap] at h
  rcases List.mem_cons.1 hm with rfl | hm
  ·obtain⟨h1,h2,_,_,h5,_⟩:=D4 h.1
   exact⟨h1,h2,h5⟩
  ·exact JG l _ _ h.2 m hm
theorem VR(l:List AP)(h:∀m∈l,1≤m.count∧m.count≤16):(l.length:Int)≤Df l∧Df l≤16*l.length:=by
 induction l with
 | nil=>simp [Df]
 | cons m l ih=>
  have h1:=h m (Fl ..)
  have h2:=ih fun x hx=>h x (FR _ hx)
  simp only[Df,Ca,List.sum_cons,Ay] at h2 ⊢
  omega
end Go.Bs
namespace Go.Proofs.YtfddhafbhceoaaaGreat
open Go.RowKit Go.Bs Go.Maps
variable{m pos:Int}{B D J P rest:List UInt8}{xs:List Value}{L base c c1 c2 c3 c4 g n p sz:Nat}{S:Nat → Prop}{a a1 a2 a3 a4:Option Addr}{s:Rs}{e:TypeId}{v v1 v2:Value}{W W' w w1:World}
theorem Hd(w:World){g base most:Nat}{J:List UInt8}{a:Option Addr}(h:BG w g base most J a c)(x:Int)(hx:0≤x∧x≤18446744073709551615)(hfit:J.length+(AD x.toNat).length≤most)(hlen:J.length+(AD x.toNat).length≤100000000000000):
  Calls Tryz.prog 163 #[.pointer (some ⟨g,0,none⟩),.int .u64 x] w fun r w'=>r=.returned (.tuple #[])∧AA w g base most (J++AD x.toNat) a w':=by
 have:=CD w h x.toNat zC hfit hlen
 rw[Int.toNat_of_nonneg hx.1] at this
 exact this
theorem AA.at{most:Nat}(h:AA w1 g base most J a w):∃a' c',BG w g base most J a' c'∧(∀(J':List UInt8) (w':World),AA w g base most J' a' w'→AA w1 g base most J' a w'):=by
 obtain⟨a',c',h1,h2,h3⟩:=h
 exact⟨a',c',h1,fun J' w' k=>AA.trans (J:=J) h2 h3 k⟩
theorem AA.blk{most:Nat}(h:AA w1 g base most J a w){b:Nat}{t:TypeId}{cs:Array Value}(hB:Blk w1 b t cs)(hn:¬Dm g a b):Blk w b t cs:=by
 obtain⟨a',c',h1,h2,h3⟩:=h
 exact hB.tch h2 hn
theorem AA.tch{most:Nat}(h:AA w1 g base most J a w):Tch (Dm g a) w1 w:=by
 obtain⟨a',c',h1,h2,h3⟩:=h
 exact h2
theorem Vn(w:World){g base most:Nat}{J:List UInt8}{a:Option Addr}(h:BG w g base most J a c)(l:List AP)(al:Option Addr)(nl cl:Nat)
 (hl:Bw.r (fun q=>q<w.heap.size∧¬Dm g a q) w [.slice al nl cl] l) (hR:Cs l=true) (hfit:J.length+(A6 l).length≤most) (hlen:J.length+(A6 l).length≤100000000000000):
  Calls Tryz.prog 223 #[.pointer (some ⟨g,0,none⟩),.slice al nl cl] w fun r w'=>r=.returned (.tuple #[])∧AA w g base most (J++A6 l) a w':=by
 obtain⟨rfl,hm,_,_⟩:=AL hl
 have HR:=hid (Jg l al _ cl w (Bw.mono hl fun q hq=>hq.1))
 rw[hR] at HR
 simp only[Cs,Ap,Ao] at hR
 have hix:Hid (A6 l=AD l.length++DO 0 0 l):=hid rfl
 have HLN:Hid (∀D E:List UInt8,A6 l=D++E→J.length+D.length+E.length≤most∧J.length+D.length+E.length≤100000000000000):=hid fun D E e=>by rw[e,Al] at hfit hlen;omega
 have HV:=hid (fun (W:World) (hW:Below w.heap.size w W)=>by
  have h0:=HLN.out _ _ hix.out
  exact CD W (h.later hW) l.length zC zC zC)
 have HL:=hid hl
 have HRI:=hid hR.1
 have HP:=hid h
 have hl16:=hR.2
 clear h hl hR hfit hlen
 go_enter Tryz.func223,Tryz.ntmps223
 go_wp2_with fail
 refine HR.out.mono ?_
 rintro r w1 ⟨rfl,hb1⟩
 go_wp2_with fail
 refine (HV.out _ hb1).mono ?_
 rintro r w2 ⟨rfl,hs2⟩
 have HS2:=hid (AA.later hb1 hs2)
 clear hs2
 go_wp2_with fail
 go_loopw [4,5,20] (fun p at_ i wr=>∃(k:Nat) (pp aa:Int) (D:List UInt8),k≤l.length∧i=.int .i64 k∧p=.int .u64 pp∧at_=.int .i64 aa∧0≤pp∧0≤aa∧Hid (DZ pp aa (l.drop k)=true)∧Hid (A6 l=D++DO pp aa (l.drop k))∧Hid (AA w g base most (J++D) a wr)) (fun _ _ i _=>l.length-(intOf i).toNat)
 case atStart=>exact ⟨0,0,0,_,Ar _,rfl,rfl,rfl,zC,zC,HRI,hix,HS2⟩
 case round=>
  obtain⟨k,pp,aa,D,hk,rfl,rfl,rfl,hp0,ha0,hri,hD,HST⟩:=hrel
  by_cases hlt:k<l.length
  ·have hrT:=HST.out.tch
   have hsz:=hrT.size
   obtain⟨b,o,hA,hbb,x0,x1,x2,hN⟩:=Hi (Bw.keep HL.out fun q hq=>hrT.block q hq.1 hq.2) hlt
   subst hA
   have hst:=M5 pp aa l k hlt
   have hms:=hid (Rd pp aa l k hlt)
   rw[hri.out] at hst
   generalize l[k]=m at*
   simp only[eq_comm (a:=true),Ap] at hst
   obtain⟨g1,g2,g3,g4,g5,g6,g7⟩:=D4 hst.1
   have HRI2:=hid hst.2
   clear hst
   have i1:(k:Int)<(l.length:Int):=zC
   have i2:=hbb.1
   have hN1:=hN.p
   obtain⟨a3,c3,p3,k3⟩:=HST.out.at
   have K3:=hid k3
   have hno:¬Dm g a3 wr.heap.size:=fun hf=>by
    rw[Gy] at hf
    rcases hf with e | e
    ·have:=p3.blk.lt;omega
    ·have:=(p3.BH (Gy.2 (.inr e))).2;omega
   have P3:=hid p3
   have HNO:=hid hno
   have hlen:=HLN.out _ _ (hD.out.trans (A3 (D++ ·) hms.out))
   simp only[Al] at hlen
   clear k3 p3 hno hrT
   go_wp2_with fail
   have hW:Below wr.heap.size wr (wr.alloc (.cells #[.int .u64 m.pos,.int .i64 m.count,.int .i64 m.at_] 88)):=zB
   have hBX:=Blk.new wr 88 #[.int .u64 m.pos,.int .i64 m.count,.int .i64 m.at_]
   generalize wr.alloc (.cells #[.int .u64 m.pos,.int .i64 m.count,.int .i64 m.at_] 88)=W1 at*
   have HBX:=hid hBX
   refine (Hd W1 (P3.out.later hW) (m.pos-pp) zC zQ zQ).mono ?_
   rintro r w4 ⟨rfl,hs4⟩
   have HW:=hid hW
   have B4:=hs4.blk HBX.out HNO.out
   have HS4:=hid hs4
   have y1:w4.cell? ⟨wr.heap.size,1,none⟩=some (.int .i64 m.count):=B4.cell 1
   have e1:m.count%18446744073709551616=m.count:=zC
   clear hs4 B4 hW hBX
   go_wp2_with fail
   obtain⟨a4,c4,p4,k4⟩:=HS4.out.at
   refine (Hd w4 p4 m.count zC zQ zQ).mono ?_
   rintro r w5 ⟨rfl,hs5⟩
   have hs5:=k4 _ _ hs5
   have B5:=hs5.blk HBX.out HNO.out
   have HS5:=hid hs5
   have y2:w5.cell? ⟨wr.heap.size,2,none⟩=some (.int .i64 m.at_):=B5.cell 2
   have e2:(m.at_-aa-1)%18446744073709551616=m.at_-aa-1:=zC
   clear hs5 B5 p4 k4 y1
   go_wp2_with fail
   obtain⟨a5,c5,p5,k5⟩:=HS5.out.at
   refine (Hd w5 p5 (m.at_-aa-1) zC zQ zQ).mono ?_
   rintro r w6 ⟨rfl,hs6⟩
   have hs6:=k5 _ _ hs6
   have hbox:=hs6.blk HBX.out HNO.out
   have HS6:=hid (K3.out _ _ (AA.later HW.out hs6))
   have HE:=hid (fun s:AM w6=>Fy m hN.p.1 ⟨zC,zC⟩ zC s.at_)
   have Y0:=fun s:AM w6=>s.cell (hbox.cell 0)
   have Y1:=fun s:AM w6=>s.cell (hbox.cell 1)
   have Y2:=fun s:AM w6=>s.cell (hbox.cell 2)
   simp at Y0 Y1 Y2
   have hx0:0≤m.pos+m.count:=zC
   have hx1:0≤m.at_:=zC
   clear hs6 hbox p5 k5 y2 e2 e1 hlen hN
   go_wp2_with fail
   refine Az zJ zJ ?_
   repeat (go_big_quiet_step ((go_at_call 283;exact CH (HE.out _))))
   refine AT ?_
   rintro W5 ⟨⟨W5',hb5⟩,rfl⟩
   go_wp2
   have hst7:=HS6.out.at
   obtain⟨a7,c7,p7,k7⟩:=hst7
   have HS7:=hid (k7 _ _ (AA.refl (p7.later hb5) |>fun h=>AA.later hb5 h))
   go_roundw
   case rel=>exact ⟨k+1,_,_,D++(AD (m.pos-pp).toNat++(AD m.count.toNat++AD (m.at_-aa-1).toNat)),zC,zT,rfl,rfl,hx0,hx1,HRI2,hid (by rw[hD.out,hms.out];simp),by simpa using HS7⟩
   case measure=>simp [intOf];omega
  ·obtain rfl:k=l.length:=by omega
   have hff:Hid (A6 l=D):=hid (by rw[hD.out,IP];simp[DO])
   go_wp2
   first | go_end0 | refine Ax (A4 rfl _ _ _) rfl ?_
   exact⟨rfl,by rw[hff.out];exact HST.out⟩
end Go.Proofs.YtfddhafbhceoaaaGreat
namespace Go.Bs
open Go.RowKit
variable{cs:List Value}{c i n:Nat}{S:Nat → Prop}{a:Option Addr}{w:World}
def Ew(l:List AP):Int × Int:=match l.head?,l.getLast? with
 | some a,some b=>(a.pos,b.pos+b.count)
 | _,_=>(0,0)
theorem Kr{l:List AP}(h:0<l.length):Ew l=(l[0].pos,(l[l.length-1]'zC).pos+(l[l.length-1]'zC).count):=by
 unfold Ew
 rw[List.head?_eq_getElem?,List.getLast?_eq_getElem?,AF h,AF zC]
end Go.Bs
namespace Go.Proofs.YtfddhafbhceoaaaGreat
open Go.RowKit Go.Bs Go.Maps
variable{m pos:Int}{B D J P rest:List UInt8}{xs:List Value}{L base c c1 c2 c3 c4 g n p sz:Nat}{S:Nat → Prop}{a a1 a2 a3 a4:Option Addr}{s:Rs}{e:TypeId}{v v1 v2:Value}{W W' w w1:World}
theorem Md(w:World)(l:List AP)(al:Option Addr)(nl cl:Nat)(hl:Bw.r (·<w.heap.size) w [.slice al nl cl] l)(hR:Cs l=true):
  Calls Tryz.prog 148 #[.slice al nl cl] w fun r w'=>∃x,r=.returned (.tuple #[x,.int .i64 0])∧Am.r (fun q=>w.heap.size≤q∧q<w'.heap.size) w' [x] (A6 l)∧Below w.heap.size w w':=by
 obtain⟨rfl,_,_,_⟩:=AL hl
 have hlb:(A6 l).length≤1024:=by
  have h1:=(A1 l.length).1
  have h2:=Iv l 0 0
  have h3:=hR
  simp only[Cs,Ap,Ao] at h3
  simp only[A6,Al]
  omega
 have HN:=hid (fun W:World=>Gh W 1024 zC)
 have HP:=hid (fun (W:World) (g:Nat) (h:BG W g g 1024 [] none 0) (h1:Bw.r (fun q=>q<W.heap.size∧¬Dm g none q) W [.slice al l.length cl] l)=>Vn W h l al _ cl h1 hR (by simpa using hlb) zI)
 have HD:=hid hl
 generalize A6 l=K at*
 clear hl hR
 go_enter Tryz.func148,Tryz.ntmps148
 go_wp2_with fail
 refine (HN.out w).mono ?_
 rintro r w2 ⟨rfl,hp2,hb2⟩
 have hz2:=hb2.size
 have HQ:=hid (HP.out w2 _ hp2 (Bw.mono (Bw.keep HD.out fun q hq=>hb2.block q hq) fun q hq=>⟨zC,by rw[Gy];rintro (e | e);omega;cases e⟩))
 clear hp2
 go_wp2_with fail
 refine HQ.out.mono ?_
 rintro r w3 ⟨rfl,hs3⟩
 have K3:Hid (Ej w2 w.heap.size 1024 K w3):=hid hs3
 clear hs3 HQ
 go_wp2_with fail
 obtain⟨a7,b7,p7,k7,_⟩:=K3.out.at
 refine (Fx w3 p7).mono ?_
 rintro r w8 ⟨x,rfl,hr,hb8⟩
 have hbw:=K3.out.below hb2 zC
 have HR:=hid hr
 clear hr k7 p7
 go_wp2
 go_ret2
 exact⟨_,rfl,Am.mono HR.out fun q hq=>⟨ZD,hq.2⟩,Aj hb8 hbw⟩
theorem JX(w:World)(l:List AP)(al:Option Addr)(nl cl:Nat)(hl:Bw.r (·<w.heap.size) w [.slice al nl cl] l)(hR:Cs l=true):
  Calls Tryz.prog 224 #[.slice al nl cl] w fun r w'=>r=.returned (.int .i64 (Df l))∧Below w.heap.size w w':=by
 obtain⟨rfl,hm,_,_⟩:=AL hl
 have HR:=hid (Jg l al _ cl w hl)
 rw[hR] at HR
 simp only[Cs,Ap,Ao] at hR
 have HM:=hid (fun m hm=>JG l 0 0 hR.1 m hm)
 have HL:=hid hl
 have h16:=hR.2
 clear hl hR
 go_enter Tryz.func224,Tryz.ntmps224
 go_wp2_with fail
 refine HR.out.mono ?_
 rintro r w1 ⟨rfl,hb1⟩
 go_wp2_with fail
 go_loopw [3,11] (fun n i wr=>∃(k:Nat) (s:Int),k≤l.length∧i=.int .i64 k∧n=.int .i64 s∧Hid (Df (l.take k)=s)∧0≤s∧s≤16*k∧Below w.heap.size w wr) (fun _ i _=>l.length-(intOf i).toNat)
 case atStart=>exact ⟨0,0,Ar _,rfl,rfl,hid rfl,zC,zC,hb1⟩
 case round=>
  obtain⟨k,s,hk,rfl,rfl,hf,hs0,hs1,hb⟩:=hrel
  by_cases hlt:k<l.length
  ·obtain⟨b,o,hA,hbb,x0,x1,x2,hN⟩:=Hi (lift HL.out hb) hlt
   subst hA
   have hst:=hid (Sd l k hlt)
   obtain⟨g1,g2,_⟩:=HM.out _ (A0 hlt)
   generalize l[k]=m at*
   have i1:(k:Int)<(l.length:Int):=zC
   go_wp2
   go_roundw
   case rel=>exact ⟨k+1,_,zC,zT,rfl,hid (by rw[hst.out,hf.out]),zC,zC,zB⟩
   case measure=>simp [intOf];omega
  ·obtain rfl:k=l.length:=by omega
   have hff:Hid (Df l=s):=hid (by rw[←hf.out,Cj])
   go_wp2
   go_ret
   exact⟨zP,hb⟩
theorem Nu(w:World)(l:List AP)(al:Option Addr)(nl cl:Nat)(hl:Bw.r (·<w.heap.size) w [.slice al nl cl] l)(hR:Cs l=true):
  Calls Tryz.prog 225 #[.slice al nl cl] w fun r w'=>r=.returned (.tuple #[.int .u64 (Ew l).1,.int .u64 (Ew l).2])∧Below w.heap.size w w':=by
 obtain⟨rfl,hm,_,_⟩:=AL hl
 rcases DR l.length with h0 | h0
 ·obtain rfl:=AQ h0
  clear hl h0
  go_enter Tryz.func225,Tryz.ntmps225
  go_wp2
  go_ret2
  exact⟨rfl,zB⟩
 ·have HR:=hid (Jg l al _ cl w hl)
  rw[hR] at HR
  simp only[Cs,Ap,Ao] at hR
  have HL:=hid hl
  have hen:=hid (Kr h0)
  obtain⟨b,o,hA,hbb,x0,_,_,hN⟩:=Hi hl h0
  obtain⟨b2,o2,hA2,hbb2,z0,z1,z2,hN2⟩:=Hi (i:=l.length-1) hl zC
  subst hA
  simp only[BV,Addr.mk.injEq,AI] at hA2
  obtain⟨rfl,rfl⟩:=hA2
  obtain⟨g1,g2,g3⟩:=JG l 0 0 hR.1 _ (A0 (show l.length-1<l.length by omega))
  generalize l[0]=m0 at*
  generalize l[l.length-1]=m1 at*
  simp only[Nat.zero_mul,Ed] at x0
  obtain⟨n,hn⟩:∃n,l.length=n+1:=⟨l.length-1,zC⟩
  generalize Ew l=E at*
  clear hl hR hbb2 HL
  generalize l.length=L at*
  subst hn
  simp only[Nat.add_sub_cancel] at z0 z1 z2
  have hE:=hen.out
  subst hE
  dsimp only
  have d0:(((n+1:Nat):Int)==0)=false:=beq_eq_false_iff_ne.2 zC
  have d1:((n+1:Nat):Int)=(n:Int)+1:=zC
  rw[d1] at d0
  have hw:wrap64 (n:Int)=n:=by
   unfold wrap64;omega
  have i1:(n:Int)<(n:Int)+1:=zC
  have i0:(0:Int)<(n:Int)+1:=zC
  clear hen
  go_enter Tryz.func225,Tryz.ntmps225
  go_wp2_with fail
  refine HR.out.mono ?_
  rintro r w1 ⟨rfl,hb1⟩
  have HE:=hid (fun s:AM w1=>Fy m1 hN2.p.1 ⟨zC,zC⟩ zC s.at_)
  have Y0:=fun s:AM w1=>s.cell ((hb1.cell (p:=⟨b,o,none⟩) hbb).trans x0)
  have Y1:=fun s:AM w1=>s.cell ((hb1.cell (p:=⟨b,o+n*3,none⟩) hbb).trans z0)
  have Y2:=fun s:AM w1=>s.cell ((hb1.cell (p:=⟨b,o+n*3+1,none⟩) hbb).trans z1)
  have Y3:=fun s:AM w1=>s.cell ((hb1.cell (p:=⟨b,o+n*3+2,none⟩) hbb).trans z2)
  go_wp2_with fail
  refine Az zJ zJ ?_
  repeat (go_big_quiet_step ((go_at_call 283;exact CH (HE.out _))))
  refine AT ?_
  rintro W5 ⟨⟨W5',hb5⟩,rfl⟩
  go_wp2
  go_ret2
  exact⟨rfl,Aj hb5 hb1⟩
end Go.Proofs.YtfddhafbhceoaaaGreat
