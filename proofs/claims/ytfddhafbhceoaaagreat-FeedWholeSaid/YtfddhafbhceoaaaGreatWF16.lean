/- Mini: Needed by feedNone_walk, part 16: texts put together by shake.py; no condition. -/
import Derived.Test.YtfddhafbhceoaaaGreatWF14
import Derived.Test.YtfddhafbhceoaaaGreatWF1
import Derived.Test.YtfddhafbhceoaaaGreatWF15
import Derived.BigQuiet
import Derived.Test.YtfddhafbhceoaaaGreatWF12
import Derived.Test.YtfddhafbhceoaaaGreatWF13
import Derived.Deep.Cut
import Derived.Test.YtfddhafbhceoaaaGreatWF11
import Derived.Test.YtfddhafbhceoaaaGreatWF10
import Derived.Deep.CutRange
import Derived.Test.YtfddhafbhceoaaaGreatWF3
import Derived.Test.YtfddhafbhceoaaaGreatWF5
import Derived.Test.YtfddhafbhceoaaaGreatWF7
import Derived.Test.YtfddhafbhceoaaaGreatWF2
import Derived.Test.YtfddhafbhceoaaaGreatWF8
import Derived.Test.YtfddhafbhceoaaaGreatWF4
import Derived.Test.YtfddhafbhceoaaaGreatWF9
import Derived.Test.YtfddhafbhceoaaaGreatWF6
set_option linter.unusedVariables false
set_option linter.unusedSimpArgs false
set_option maxRecDepth 100000
set_option maxHeartbeats 6400000
namespace Go.Bs
theorem zBs{p:Prop}(h:p:=by have := hv _ e.symm; omega):p:=h
end Go.Bs
namespace Go.Proofs.YtfddhafbhceoaaaGreat
open Go.RowKit Go.Bs Go.Maps
variable{base c c3 cb g k n p sz:Nat}{F S:Nat → Prop}{a a3 ab:Option Addr}{t1:Rs}{e:TypeId}{v v1 vm vo:Value}{W W' w w' w1:World}
theorem TJ(σ:FSt):Dl σ []=(σ,[]):=by
 unfold Dl
 split
 ·rfl
 ·rfl
theorem K8{σ:FSt}(h:σ.ended≠0)(l:List UInt8):Dl σ l=(σ,[]):=Ai h
theorem RP{σ:FSt}(h:σ.ended=0)(b:UInt8)(l:List UInt8):Dl σ (b::l)=((Dl (ER σ b).1 l).1,(ER σ b).2++(Dl (ER σ b).1 l).2):=by
 unfold Dl
 rw[Ag h,Ft]
 by_cases h1:(ER σ b).1.ended=0
 ·rw[Ag h1,Ag h1]
 ·rw[Ai h1,Ai h1]
  simp
structure Mv(w:World)(g:Nat)(v vm:Value)(σ:FSt)(E:List EvX)(W:World):Prop where
 at_:∃D v' vm' vo' L,By W g D v' vm' vo' L σ E∧DG w v v'∧DG w vm vm'∧(∀q,vo'.ownBlock=some q→w.heap.size≤q)
 tc:Tch (fun q=>q=g∨v.ownBlock=some q∨vm.ownBlock=some q) w W
theorem Mv.step{w W W':World}{g:Nat}{v vm v' vm' vo':Value}{σ:FSt}{E:List EvX}{x:UInt8}{r:Ending}(h1:DG w v v')(h2:DG w vm vm')(h3:∀q,vo'.ownBlock=some q→w.heap.size≤q)(ht:Tch (fun q=>q=g∨v.ownBlock=some q∨vm.ownBlock=some q) w W)(h:AaR W g v' vm' vo' σ E x r W'):Mv w g v vm (ER σ x).1 (E++(ER σ x).2.map EvB.x) W':=by
 obtain⟨_,D2,v2,vm2,vo2,L2,h5,h6,h7,h8,h9⟩:=h
 have hs:=ht.size
 refine⟨⟨D2,v2,vm2,vo2,L2,h5,fun q e=> ?_,fun q e=> ?_,fun q e=> ?_⟩,ht.trans h9 fun q hq e=> ?_⟩
 ·rcases h6 q e with e | e
  ·exact h1 q e
  ·exact .inr zC
 ·rcases h7 q e with e | e
  ·exact h2 q e
  ·exact .inr zC
 ·rcases h8 q e with e | e
  ·exact h3 q e
  ·omega
 ·rcases e with e | e | e | e
  ·exact .inl e
  ·exact .inr (.inl ((h1 q e).resolve_right zC))
  ·exact .inr (.inr ((h2 q e).resolve_right zC))
  ·have:=h3 q e
   omega
def Sw(w:World)(g:Nat)(v vm:Value)(S':FSt)(EE:List EvX)(r:Ending)(w':World):Prop:=
 ∃D' v' vm' vo' L',r=.returned vo'∧By w' g D' v' vm' (.slice none 0 0) L' S' []∧FOk S'∧(∃cells,AY (fun q=>g+1≤q∧q<w'.heap.size∧v'.ownBlock≠some q∧vm'.ownBlock≠some q) IV (g+1) 50 20 w' vo' EE cells)∧(∀q,vo'.ownBlock=some q→w.heap.size≤q∧v'.ownBlock≠some q∧vm'.ownBlock≠some q)∧DG w v v'∧DG w vm vm'∧Tch (fun q=>q=g∨v.ownBlock=some q∨vm.ownBlock=some q) w w'
theorem Mv.fin{w W:World}{g:Nat}{D:Nat→Prop}{v vm vm1 vo1:Value}{L:C7}{σ:FSt}{E:List EvX}(h:By W g D v1 vm1 vo1 L σ E)(hok:FOk σ)(h1:DG w v v1)(h2:DG w vm vm1)(h3:∀q,vo1.ownBlock=some q→w.heap.size≤q)(ht:Tch (fun q=>q=g∨v.ownBlock=some q∨vm.ownBlock=some q) w W):Sw w g v vm σ E (.returned vo1) (W.setCell ⟨g,18,none⟩ (.slice none 0 0)):=by
 obtain⟨cells,hc⟩:=h.out
 have hz:(W.setCell ⟨g,18,none⟩ (.slice none 0 0)).heap.size=W.heap.size:=zU
 refine⟨D,v1,vm1,vo1,L,rfl,h.AaI,hok,⟨cells,(hc.keep (w':=W.setCell ⟨g,18,none⟩ (.slice none 0 0)) (fun b e=>At _ _ _ _ (by have:=e.1;dsimp only;omega)) (fun q e=>At _ _ _ _ (by have:=(h.oq q e).1;dsimp only;omega))).mono fun b e=>⟨e.1,by rw[hz];exact h.dl b e.2.1,e.2.2⟩⟩,fun q e=>⟨h3 q e,fun e2=>h.Wg q e2 e,fun e2=>h.WR q e2 e⟩,h1,h2,ht.setCell (p:=⟨g,18,none⟩) (fun _=> .inl rfl) _⟩
set_option maxHeartbeats 12800000 in
theorem Pk(w:World){g:Nat}{D:Nat→Prop}{v vm:Value}{L:C7}{σ:FSt}{E:List EvX}(h:By w g D v vm vo L σ E)(hok:FOk σ)(B:List UInt8)(a:Option Addr)(n c:Nat)(hl:Am.r (fun q=>q<w.heap.size∧q≠g∧v.ownBlock≠some q∧vm.ownBlock≠some q) w [.slice a n c] B)(hfe:σ.fed+B.length≤100000000):
  Calls Tryz.prog 45 #[.pointer (some ⟨g,0,none⟩),.slice a n c] w fun r w'=>Sw w g v vm (Dl σ B).1 ((Dl σ B).2.map EvB.x) r w':=by
 obtain⟨rfl,hmx,hcc,hcm⟩:=AL hl
 have hgl:=h.gl
 obtain⟨S',hS'⟩:∃S',S'=(Dl σ B).1:=⟨_,rfl⟩
 obtain⟨EE,hEE⟩:∃EE,EE=(Dl σ B).2.map EvB.x:=⟨_,rfl⟩
 rw[←hS',←hEE]
 have hst:(Dl σ (B.drop 0)).1=S'∧[]++(Dl σ (B.drop 0)).2.map EvB.x=EE:=by
  rw[De,AG]
  exact⟨hS'.symm,hEE.symm⟩
 have HST:=hid hst
 have HL:=hid hl
 have HI0:Hid (Mv w g v vm σ [] (w.setCell ⟨g,18,none⟩ (.slice none 0 0))):=hid ⟨⟨D,v,vm,.slice none 0 0,L,h.AaI,DG.refl,DG.refl,fun q e=>ZO⟩,(Tch.refl _ _).setCell (p:=⟨g,18,none⟩) (fun _=> .inl rfl) _⟩
 obtain⟨y0,y1,y2,y3,y4,y5,y6,y7,y8,y9,y10,y11,y12,y13,y14,y15,y16,y17,y18,ly⟩:=Bo h.blk
 obtain⟨z0,z1,z2,z3,z4,z5,z6,z7,z8,z9,z10,z11,z12,z13,z14,z15,z16,z17,z18⟩:=Cw h.blk
 clear h hl hst hS' hEE
 go_enter Tryz.func45,Tryz.ntmps45
 go_upto_region 4 with (fail)
 clear y0 y1 y2 y3 y4 y5 y6 y7 y8 y9 y10 y11 y12 y13 y14 y15 y16 y17 y18 ly z0 z1 z2 z3 z4 z5 z6 z7 z8 z9 z10 z11 z12 z13 z14 z15 z16 z17 z18
 generalize w.setCell ⟨g,18,none⟩ (.slice none 0 0)=w0 at*
 go_wp2_with fail
 go_loopw [5] (fun iv wr=>∃(k:Nat) (σk:FSt) (Ek:List EvX),k≤B.length∧iv=.int .i64 (k:Int)∧Mv w g v vm σk Ek wr∧FOk σk∧σk.fed≤σ.fed+k∧Ek.length≤k∧Hid ((Dl σk (B.drop k)).1=S'∧Ek++(Dl σk (B.drop k)).2.map EvB.x=EE)) (fun iv _=>B.length-(intOf iv).toNat)
 case atStart=>exact ⟨0,σ,[],Ar _,rfl,HI0.out,hok,zC,As _,HST⟩
 case round=>
  obtain⟨k,σk,Ek,hk,rfl,hI,hokk,hfk,hek,hH⟩:=hrel
  have HI:=hid hI
  have HOKK:=hid hokk
  obtain⟨D1,v1,vm1,vo1,L1,hA1,hv1,hvm1,hvo1⟩:=hI.at_
  have HA:=hid hA1
  have HV:=hid hv1
  have HVM:=hid hvm1
  have HVO:=hid hvo1
  have HOP:=hid (Pj wr hA1.blk)
  clear hI hokk hA1 hv1 hvm1 hvo1
  by_cases hlt:k<B.length
  ·have d1:decide ((k:Int)<(B.length:Int))=true:=Ad zC
   have d1':decide (k<B.length)=true:=Ad hlt
   by_cases he:σk.ended=0
   ·rw[Ad he] at HOP
    have HLK:=hid (Am.keep HL.out (w':=wr) fun q e=>HI.out.tc.block q e.1 (fun e2=>by
     rcases e2 with e2 | e2 | e2
     ·exact e.2.1 e2
     ·exact e.2.2.1 e2
     ·exact e.2.2.2 e2))
    obtain⟨bb,oo,rfl,_,hc⟩:=Dg HLK.out (i:=k) hlt
    have HON:=hid (Xg wr HA.out HOKK.out zC zC B[k])
    have hfc:Dl σk (B.drop k)=((Dl (ER σk B[k]).1 (B.drop (k+1))).1,(ER σk B[k]).2++(Dl (ER σk B[k]).1 (B.drop (k+1))).2):=by
     rw[AO hlt]
     exact RP he _ _
    have hH2:=hH.out
    rw[hfc] at hH2
    have HH2:=hid hH2
    have HO1:=hid (Uk HOKK.out B[k])
    clear hfc hH2 hH he HA
    go_wp2_with fail
    refine HOP.out.mono ?_
    rintro r wo ⟨rfl,rfl⟩
    go_wp2_with fail
    refine HON.out.mono ?_
    rintro r w2 hR
    have hr1:=hR.1
    subst hr1
    have HI2:=hid (Mv.step HV.out HVM.out HVO.out HI.out.tc hR)
    clear hR hc
    go_wp2_with fail
    go_roundw
    case rel=>
     have h1:=HO1.out
     exact⟨k+1,(ER σk B[k]).1,Ek++(ER σk B[k]).2.map EvB.x,zC,zT,HI2.out,h1.1,zC,by rw[Al,FA];omega,hid ⟨HH2.out.1,by rw[←HH2.out.2];simp⟩⟩
    case measure=>(simp[intOf];try omega)
   ·rw[Ae he] at HOP
    have hH2:=hH.out
    rw[K8 he] at hH2
    have HH2:=hid hH2
    clear hH2 hH he
    have HE1:=hid (show σk=S' from HH2.out.1)
    have HE2:=hid (show Ek=EE by simpa using HH2.out.2)
    obtain⟨aO,cO,rfl⟩:∃a c,vo1=.slice a Ek.length c:=by
     obtain⟨cells,hc⟩:=HA.out.out
     exact AV hc.1
    have HFIN:=hid (Mv.fin HA.out HOKK.out HV.out HVM.out HVO.out HI.out.tc)
    obtain⟨y0,y1,y2,y3,y4,y5,y6,y7,y8,y9,y10,y11,y12,y13,y14,y15,y16,y17,y18,ly⟩:=Bo HA.out.blk
    obtain⟨z0,z1,z2,z3,z4,z5,z6,z7,z8,z9,z10,z11,z12,z13,z14,z15,z16,z17,z18⟩:=Cw HA.out.blk
    clear HH2 HA
    go_wp2_with fail
    refine HOP.out.mono ?_
    rintro r wo ⟨rfl,rfl⟩
    go_wp2_with fail
    go_ret
    rw[←HE1.out,←HE2.out]
    exact HFIN.out
  ·have d1:decide ((k:Int)<(B.length:Int))=false:=Ae zC
   have d1':decide (k<B.length)=false:=Ae hlt
   have hH2:=hH.out
   rw[GG zC,TJ] at hH2
   have HH2:=hid hH2
   clear hH2 hH
   have HE1:=hid (show σk=S' from HH2.out.1)
   have HE2:=hid (show Ek=EE by simpa using HH2.out.2)
   obtain⟨aO,cO,rfl⟩:∃a c,vo1=.slice a Ek.length c:=by
    obtain⟨cells,hc⟩:=HA.out.out
    exact AV hc.1
   have HFIN:=hid (Mv.fin HA.out HOKK.out HV.out HVM.out HVO.out HI.out.tc)
   obtain⟨y0,y1,y2,y3,y4,y5,y6,y7,y8,y9,y10,y11,y12,y13,y14,y15,y16,y17,y18,ly⟩:=Bo HA.out.blk
   obtain⟨z0,z1,z2,z3,z4,z5,z6,z7,z8,z9,z10,z11,z12,z13,z14,z15,z16,z17,z18⟩:=Cw HA.out.blk
   clear HH2 HA
   go_wp2_with fail
   go_ret
   rw[←HE1.out,←HE2.out]
   exact HFIN.out
theorem Yt(cs:List Value)(x:EvX)(h:IV.r S w cs x):∀u∈cs,u.oneCell'=true:=by
 obtain⟨a1,c1,a2,c2,a3,c3,a4,c4,a5,c5,rfl,_⟩:=RU h
 exact Qx
theorem Mu.tch{w2:World}{vb:Value}{E:List EvX}(h:Mu w vb w1 vo E)(ht:Tch F w1 w2)(hF:∀q,w.heap.size≤q→q<w1.heap.size→¬F q):Mu w vb w2 vo E:=by
 obtain⟨cells,hc⟩:=h.own
 exact⟨⟨cells,(hc.keep (fun b e=>ht.block b e.2.1 (hF b e.1 e.2.1)) (fun q e=>ht.block q (BP hc.1 q e).2 (hF q (BP hc.1 q e).1 (BP hc.1 q e).2))).mono fun b e=>⟨e.1,An e.2.1 ht.size,e.2.2⟩⟩,h.ne⟩
def QB(σ:FSt):FSt:=if σ.ended=0 then {σ with ended:=if σ.whole then 2 else 3,buf:=[]} else σ
def Aay(w:World)(g:Nat)(D:Nat→Prop)(v vm vo:Value)(L:C7)(σ:FSt)(E:List EvX)(r:Ending)(w':World):Prop:=
 ∃v' vo',r=.returned vo'∧Mx.r (fun q=>w.heap.size≤q∧q<w'.heap.size) w' [vo'] ((Ge σ).map EvB.x)∧By w' g D v' vm vo L (QB σ) E∧(v'=v∨v'=.slice none 0 0)∧Tch (·=g) w w'
set_option maxHeartbeats 12800000 in
theorem NH(w:World){g:Nat}{D:Nat→Prop}{v vm vo:Value}{L:C7}{σ:FSt}{E:List EvX}(h:By w g D v vm vo L σ E)(hok:FOk σ)(hfe:σ.fed≤100000000):
  Calls Tryz.prog 46 #[.pointer (some ⟨g,0,none⟩)] w fun r w'=>Aay w g D v vm vo L σ E r w':=by
 have HOP:=hid (Pj w h.blk)
 have HA0:=hid h
 have hgl:=h.gl
 have HDL:=hid h.dl
 obtain⟨aJ,cJ,rfl⟩:=h.buf.form
 by_cases he:σ.ended=0
 ·rw[Ad he] at HOP
  obtain⟨kd,hkd⟩:∃kd:Int,kd=(if σ.whole then 2 else 3):=⟨_,rfl⟩
  obtain⟨cd,hcd⟩:∃cd:Int,cd=(if σ.whole then 0 else 1):=⟨_,rfl⟩
  have hcl:Ge σ=[⟨kd,σ.fed,cd,Dp⟩]∧QB σ={σ with ended:=kd,buf:=[]}:=by
   unfold Ge QB
   rw[Ag he,Ag he,hkd,hcd]
   by_cases hw:σ.whole
   ·rw[Ag hw,Ag hw,Ag hw];exact⟨rfl,rfl⟩
   ·rw[Ai hw,Ai hw,Ai hw];exact⟨rfl,rfl⟩
  have hwh:decide (0<σ.foot∧σ.buf.length=0∧(σ.fed:Int)=σ.want.at_+σ.want.size+σ.foot+12)=decide σ.whole:=decide_eq_decide.2 ⟨fun ⟨h1,h2,h3⟩=>⟨h1,AQ h2,h3⟩,fun ⟨h1,h2,h3⟩=>⟨h1,by rw[h2];rfl,h3⟩⟩
  obtain⟨wb,hwb⟩:∃wb:Bool,decide σ.whole=wb:=⟨_,rfl⟩
  rw[hwb] at hwh
  have HWB:=hid hwb
  have HWH:=hid (fun (V:World) (hV:Blk V g 83 #[nxF σ.ph,.slice aJ σ.buf.length cJ,.int .i64 (σ.first:Int),.int .i64 (σ.fed:Int),.int .i64 σ.ended,.int .u64 σ.ep,.int .u64 L.e,.int .u64 L.b,.slice L.a L.n L.c,vm,.int .u64 σ.want.ep,.int .i64 σ.want.n,.int .i64 σ.want.en,.int .u64 σ.want.first,.int .u64 σ.want.fin,.int .i64 σ.want.at_,.int .i64 σ.want.size,.int .i64 (σ.foot:Int),vo])=>(by have h0:=RC V hV zC (by have:=hok.ft;omega) (by have:=hok.wa;omega) (by have:=hok.ws;omega);rw[hwh] at h0;exact h0:Calls Tryz.prog 95 #[.pointer (some ⟨g,0,none⟩)] V fun r w'=>r=.returned (.bool wb)∧Below V.heap.size V w'))
  have HCL:=hid hcl
  have HKD:=hid hkd
  have HCD:=hid hcd
  have HI:=hid (show (Tryz.prog.info? 50).map (·.size)=some (#[.int .i64 3,.int .i64 (σ.fed:Int),.int .i64 1,.int .i64 0,.int .u64 0,.int .u64 0,.int .u64 0,.int .i64 0,.int .i64 0,.slice none 0 0,.slice none 0 0,.slice none 0 0,.int .u64 0,.int .u64 0,.int .u64 0,.int .u64 0,.slice none 0 0,.int .u64 0,.int .u64 0,.slice none 0 0]:Array Value).size from (zero_of_info WY).2)
  have HONE:=hid (show (#[.int .i64 3,.int .i64 (σ.fed:Int),.int .i64 1,.int .i64 0,.int .u64 0,.int .u64 0,.int .u64 0,.int .i64 0,.int .i64 0,.slice none 0 0,.slice none 0 0,.slice none 0 0,.int .u64 0,.int .u64 0,.int .u64 0,.int .u64 0,.slice none 0 0,.int .u64 0,.int .u64 0,.slice none 0 0]:Array Value).all (·.oneCell')=true by simp[Value.oneCell'])
  obtain⟨y0,y1,y2,y3,y4,y5,y6,y7,y8,y9,y10,y11,y12,y13,y14,y15,y16,y17,y18,ly⟩:=Bo h.blk
  clear h hcl hkd hcd hwh he hwb
  go_enter Tryz.func46,Tryz.ntmps46
  go_wp2_with fail
  refine HOP.out.mono ?_
  rintro r w0 ⟨rfl,rfl⟩
  go_upto_region 4 with (refine wpList_store_row rfl 50 _ _ rfl w.heap.size #[.int .i64 3,.int .i64 (σ.fed:Int),.int .i64 1,.int .i64 0,.int .u64 0,.int .u64 0,.int .u64 0,.int .i64 0,.int .i64 0,.slice none 0 0,.slice none 0 0,.slice none 0 0,.int .u64 0,.int .u64 0,.int .u64 0,.int .u64 0,.slice none 0 0,.int .u64 0,.int .u64 0,.slice none 0 0] rfl rfl 50 #[.int .i64 0,.int .i64 0,.int .i64 0,.int .i64 0,.int .u64 0,.int .u64 0,.int .u64 0,.int .i64 0,.int .i64 0,.slice none 0 0,.slice none 0 0,.slice none 0 0,.int .u64 0,.int .u64 0,.int .u64 0,.int .u64 0,.slice none 0 0,.int .u64 0,.int .u64 0,.slice none 0 0] (heap_alloc_last _ _) HI.out rfl HONE.out ?_;rw[World.setRow_alloc_new])
  have HA1:=hid (HA0.out.later (show Below w.heap.size w (w.alloc (.cells #[.int .i64 3,.int .i64 (σ.fed:Int),.int .i64 1,.int .i64 0,.int .u64 0,.int .u64 0,.int .u64 0,.int .i64 0,.int .i64 0,.slice none 0 0,.slice none 0 0,.slice none 0 0,.int .u64 0,.int .u64 0,.int .u64 0,.int .u64 0,.slice none 0 0,.int .u64 0,.int .u64 0,.slice none 0 0] 50)) by (repeat (first | with_reducible exact Below.refl _ _ | with_reducible assumption | (with_reducible refine Aw ?_ _) | (with_reducible refine Below.setCell ?_ zE _) | (with_reducible refine Below.drew ?_) | (with_reducible refine below_drewN ?_ _) | (refine Aj zG ?_)))))
  have HE1:Hid (Blk (w.alloc (.cells #[.int .i64 3,.int .i64 (σ.fed:Int),.int .i64 1,.int .i64 0,.int .u64 0,.int .u64 0,.int .u64 0,.int .i64 0,.int .i64 0,.slice none 0 0,.slice none 0 0,.slice none 0 0,.int .u64 0,.int .u64 0,.int .u64 0,.int .u64 0,.slice none 0 0,.int .u64 0,.int .u64 0,.slice none 0 0] 50)) w.heap.size 50 #[.int .i64 3,.int .i64 (σ.fed:Int),.int .i64 1,.int .i64 0,.int .u64 0,.int .u64 0,.int .u64 0,.int .i64 0,.int .i64 0,.slice none 0 0,.slice none 0 0,.slice none 0 0,.int .u64 0,.int .u64 0,.int .u64 0,.int .u64 0,.slice none 0 0,.int .u64 0,.int .u64 0,.slice none 0 0]):=hid (Blk.new _ _ _)
  have HT1:Hid (Tch (·=g) w (w.alloc (.cells #[.int .i64 3,.int .i64 (σ.fed:Int),.int .i64 1,.int .i64 0,.int .u64 0,.int .u64 0,.int .u64 0,.int .i64 0,.int .i64 0,.slice none 0 0,.slice none 0 0,.slice none 0 0,.int .u64 0,.int .u64 0,.int .u64 0,.int .u64 0,.slice none 0 0,.int .u64 0,.int .u64 0,.slice none 0 0] 50))):=hid ((Tch.refl (·=g) w).alloc _)
  clear y0 y1 y2 y3 y4 y5 y6 y7 y8 y9 y10 y11 y12 y13 y14 y15 y16 y17 y18 ly HA0
  generalize w.alloc (.cells #[.int .i64 3,.int .i64 (σ.fed:Int),.int .i64 1,.int .i64 0,.int .u64 0,.int .u64 0,.int .u64 0,.int .i64 0,.int .i64 0,.slice none 0 0,.slice none 0 0,.slice none 0 0,.int .u64 0,.int .u64 0,.int .u64 0,.int .u64 0,.slice none 0 0,.int .u64 0,.int .u64 0,.slice none 0 0] 50)=w1 at*
  obtain⟨y0,y1,y2,y3,y4,y5,y6,y7,y8,y9,y10,y11,y12,y13,y14,y15,y16,y17,y18,ly⟩:=Bo HA1.out.blk
  have HWH1:=hid (HWH.out w1 HA1.out.blk)
  go_wp2_with fail
  refine HWH1.out.mono ?_
  rintro r w2 ⟨rfl,hb2⟩
  have HA2:=hid (HA1.out.later hb2)
  have HE2:=hid (HE1.out.later hb2)
  have HT2:=hid (HT1.out.trans (Tch.AW (F:=fun _=>False) hb2) fun _ _ e=>e.elim)
  clear hb2 y0 y1 y2 y3 y4 y5 y6 y7 y8 y9 y10 y11 y12 y13 y14 y15 y16 y17 y18 ly HA1 HE1 HT1 HWH HWH1
  obtain⟨n0,n1,n2,n3,n4,n5,n6,n7,n8,n9,n10,n11,n12,n13,n14,n15,n16,n17,n18,n19,ln⟩:=Xq HE2.out
  obtain⟨g0,g1,g2,g3,g4,g5,g6,g7,g8,g9,g10,g11,g12,g13,g14,g15,g16,g17,g18,g19⟩:=Yw HE2.out
  go_upto_if 13 with (fail)
  go_cut [] from 14 to 15 (fun V=>Hid (By V g D (.slice aJ σ.buf.length cJ) vm vo L σ E)∧Hid (Blk V w.heap.size 50 #[.int .i64 kd,.int .i64 (σ.fed:Int),.int .i64 cd,.int .i64 0,.int .u64 0,.int .u64 0,.int .u64 0,.int .i64 0,.int .i64 0,.slice none 0 0,.slice none 0 0,.slice none 0 0,.int .u64 0,.int .u64 0,.int .u64 0,.int .u64 0,.slice none 0 0,.int .u64 0,.int .u64 0,.slice none 0 0])∧Hid (Tch (·=g) w V))
  case first=>
   cases wb
   ·have hw:=GD HWB.out
    have e1:=HKD.out
    have e2:=HCD.out
    rw[Ai hw] at e1 e2
    obtain rfl:=e1
    obtain rfl:=e2
    go_wp2_with fail
    go_meet
    case rel=>exact ⟨HA2,HE2,HT2⟩
   ·have hw:=C8 HWB.out
    have e1:=HKD.out
    have e2:=HCD.out
    rw[Ag hw] at e1 e2
    obtain rfl:=e1
    obtain rfl:=e2
    have hts:Tch (fun q=>q=w.heap.size) w2 ((w2.setCell ⟨w.heap.size,0,none⟩ (.int .i64 2)).setCell ⟨w.heap.size,2,none⟩ (.int .i64 0)):=((Tch.refl (fun q=>q=w.heap.size) w2).setCell (p:=⟨w.heap.size,0,none⟩) (fun _=>rfl) (.int .i64 2)).setCell (p:=⟨w.heap.size,2,none⟩) (fun _=>rfl) (.int .i64 0)
    have hdl:=HDL.out
    have HF:=hid (HA2.out.side hts ZZ (fun q _ hq _ e=>by have:=hdl q hq;have e2:q=w.heap.size:=e;omega))
    have HEE:Hid (Blk ((w2.setCell ⟨w.heap.size,0,none⟩ (.int .i64 2)).setCell ⟨w.heap.size,2,none⟩ (.int .i64 0)) w.heap.size 50 #[.int .i64 2,.int .i64 (σ.fed:Int),.int .i64 0,.int .i64 0,.int .u64 0,.int .u64 0,.int .u64 0,.int .i64 0,.int .i64 0,.slice none 0 0,.slice none 0 0,.slice none 0 0,.int .u64 0,.int .u64 0,.int .u64 0,.int .u64 0,.slice none 0 0,.int .u64 0,.int .u64 0,.slice none 0 0]):=hid ((HE2.out.set 0 (.int .i64 2)).set 2 (.int .i64 0))
    have HTT:=hid (HT2.out.trans hts fun q hq e=>by have e2:q=w.heap.size:=e;omega)
    clear hts
    go_wp2_with fail
    go_meet
    case rel=>exact ⟨HF,HEE,HTT⟩
  case rest=>
   obtain⟨HA3,HE3,HT3⟩:=hcut
   clear HA2 HE2 HT2 n0 n1 n2 n3 n4 n5 n6 n7 n8 n9 n10 n11 n12 n13 n14 n15 n16 n17 n18 n19 ln g0 g1 g2 g3 g4 g5 g6 g7 g8 g9 g10 g11 g12 g13 g14 g15 g16 g17 g18 g19
   generalize wc=w3 at*
   obtain⟨y0,y1,y2,y3,y4,y5,y6,y7,y8,y9,y10,y11,y12,y13,y14,y15,y16,y17,y18,ly⟩:=Bo HA3.out.blk
   obtain⟨z0,z1,z2,z3,z4,z5,z6,z7,z8,z9,z10,z11,z12,z13,z14,z15,z16,z17,z18⟩:=Cw HA3.out.blk
   obtain⟨n0,n1,n2,n3,n4,n5,n6,n7,n8,n9,n10,n11,n12,n13,n14,n15,n16,n17,n18,n19,ln⟩:=Xq HE3.out
   go_upto_region 7 with (fail)
   have I1:=HA3.out.Oo (τ:={σ with ended:=kd}) 4 (.int .i64 kd) (by have:=HA3.out.blk.set 4 (.int .i64 kd);exact this) rfl rfl rfl
   have HA4:=hid I1.drop
   have HE4:=hid ((HE3.out.far (p:=⟨g,4,none⟩) zH (.int .i64 kd)).far (p:=⟨g,1,none⟩) zH (.slice none 0 0))
   have HT4:=hid ((HT3.out.setCell (p:=⟨g,4,none⟩) (fun _=>rfl) (.int .i64 kd)).setCell (p:=⟨g,1,none⟩) (fun _=>rfl) (.slice none 0 0))
   clear I1 HA3 HE3 HT3 y0 y1 y2 y3 y4 y5 y6 y7 y8 y9 y10 y11 y12 y13 y14 y15 y16 y17 y18 ly z0 z1 z2 z3 z4 z5 z6 z7 z8 z9 z10 z11 z12 z13 z14 z15 z16 z17 z18 n0 n1 n2 n3 n4 n5 n6 n7 n8 n9 n10 n11 n12 n13 n14 n15 n16 n17 n18 n19 ln
   generalize (w3.setCell ⟨g,4,none⟩ (.int .i64 kd)).setCell ⟨g,1,none⟩ (.slice none 0 0)=w4 at*
   go_wp2_with (refine wpList_load_row rfl 50 _ rfl w.heap.size rfl 50 _ (0,0) _ HE4.out Tryz.underlying50 rfl (zero_of_info WY).2 ?_)
   go_ret
   have hz4:=HT4.out.size
   refine⟨.slice none 0 0,_,rfl,?_,?_,.inr rfl,HT4.out.alloc _⟩
   ·rw[HCL.out.1]
    exact Yu (x:=EvB.x ⟨kd,(σ.fed:Int),cd,Dp⟩) (a1:=none) (c1:=0) (a2:=none) (c2:=0) (a3:=none) (c3:=0) (a4:=none) (c4:=0) (a5:=none) (c5:=0) (Blk.new w4 50 #[.int .i64 kd,.int .i64 (σ.fed:Int),.int .i64 cd,.int .i64 0,.int .u64 0,.int .u64 0,.int .u64 0,.int .i64 0,.int .i64 0,.slice none 0 0,.slice none 0 0,.slice none 0 0,.int .u64 0,.int .u64 0,.int .u64 0,.int .u64 0,.slice none 0 0,.int .u64 0,.int .u64 0,.slice none 0 0]) ⟨zC,zM⟩ ⟨Nc,(Up:inU (0:Int)),(Up:inU (0:Int)),Bv (xs:=[]) rfl (As _) (Ar _) (.inl rfl)⟩
   ·rw[HCL.out.2]
    exact HA4.out.later zA
 ·rw[Ae he] at HOP
  have hcl:Ge σ=[]∧QB σ=σ:=⟨Ai he,Ai he⟩
  have HCL:=hid hcl
  clear h hcl he
  go_enter Tryz.func46,Tryz.ntmps46
  go_wp2_with fail
  refine HOP.out.mono ?_
  rintro r w0 ⟨rfl,rfl⟩
  go_wp2_with fail
  go_ret
  refine⟨_,.slice none 0 0,rfl,?_,by rw[HCL.out.2];exact HA0.out,.inl rfl,Tch.refl _ _⟩
  rw[HCL.out.1]
  exact Yv
theorem NJ:∀(l:List UInt8) (σ:FSt),FOk σ→FOk (Bh σ l).1∧(Bh σ l).1.fed≤σ.fed+l.length∧(Bh σ l).2.length≤l.length
 | [],σ,h=>⟨h,As _,As _⟩
 | b::l,σ,h=>by
  have h1:=Uk h b
  rw[Ft]
  split
  ·have h2:=NJ l (ER σ b).1 h1.1
   refine⟨h2.1,?_,?_⟩
   ·have:=h2.2.1
    simp only[Ay]
    omega
   ·have:=h2.2.2
    simp only[Al,Ay]
    omega
  ·refine⟨h1.1,?_,?_⟩
   ·simp only[Ay]
    omega
   ·simp only[Ay]
    omega
theorem TZ(τ:FSt):(Ge τ).length≤1:=by
 unfold Ge
 split
 ·simp
 ·simp
theorem VG(w:World)(B:List UInt8)(a:Option Addr)(n c:Nat)(hl:Am.r (·<w.heap.size) w [.slice a n c] B)(hB:B.length≤100000000):
  Calls Tryz.prog 43 #[.slice a n c] w fun r w'=>∃vo,r=.returned vo∧Mx.r (fun q=>w.heap.size≤q∧q<w'.heap.size) w' [vo] ((OB B true).map EvB.x)∧Below w.heap.size w w':=by
 obtain⟨rfl,hmx,hcc,hcm⟩:=AL hl
 obtain⟨j0,hj,hy0,hy1,hy2⟩:=A5 Qg
 have HL:=hid hl
 have HN:=hid (RI w)
 have hfk:=NJ B Db Qa
 have hcl:=TZ (Bh Db B).1
 have hal:=hid (show (OB B true).map EvB.x=(Bh Db B).2.map EvB.x++(Ge (Bh Db B).1).map EvB.x by rw[←(Pm B zC).2,Cv])
 have HF:=hid (fun (W:World) (h:By W w.heap.size (fun _=>False) (.slice none 0 0) (.slice none 0 0) (.slice none 0 0) ⟨0,0,none,0,0⟩ Db []) (hb:Am.r (fun q=>q<W.heap.size∧q≠w.heap.size∧(Value.slice none 0 0).ownBlock≠some q∧(Value.slice none 0 0).ownBlock≠some q) W [.slice a B.length c] B)=>Pk W h Qa B a _ c hb (by show 0+B.length≤100000000;omega))
 have hfo:Dl Db B=Bh Db B:=Ag rfl
 rw[hfo] at HF
 have hf0:Db.fed=0:=rfl
 rw[hf0] at hfk
 generalize Bh Db B=R at*
 obtain⟨s1,E1⟩:=R
 dsimp only at hfk hcl hal HF
 generalize hC2:Ge s1=E2 at*
 have hl1:(E1.map EvB.x).length≤B.length:=by rw[FA];exact hfk.2.2
 have hl2:(E2.map EvB.x).length≤1:=by rw[FA];exact hcl
 have hfd:s1.fed≤100000000:=zC
 generalize hL1:E1.map EvB.x=L1 at*
 generalize hL2:E2.map EvB.x=L2 at*
 have HC2:Hid ((Ge s1).map EvB.x=L2):=hid (by rw[hC2,hL2])
 clear hl hfk hcl hfo hf0 hC2 hL1 hL2
 go_enter Tryz.func43,Tryz.ntmps43
 go_wp2_with fail
 refine HN.out.mono ?_
 rintro r w1 ⟨rfl,hp1,hb1⟩
 have hz1:w.heap.size<w1.heap.size:=hp1.gl
 have HD:=hid (show Am.r (fun q=>q<w1.heap.size∧q≠w.heap.size∧(Value.slice none 0 0).ownBlock≠some q∧(Value.slice none 0 0).ownBlock≠some q) w1 [.slice a B.length c] B from Am.mono (Am.keep HL.out fun q hq=>hb1.block q hq) fun q hq=>⟨zC,zC,(fun e=>ZO),(fun e=>ZO)⟩)
 have HP1:=hid hp1
 have HB1:=hid hb1
 clear hp1 hb1
 go_wp2_with fail
 refine (HF.out w1 HP1.out HD.out).mono ?_
 rintro r w2 ⟨D2,v2,vm2,vo2,L2x,rfl,hA2,hok2,⟨cells,hc2⟩,hv2,hg1,hg2,ht2⟩
 obtain⟨aO,cO,rfl⟩:=AV hc2.1
 have HC2o:=hid hc2
 have HV2:=hid hv2
 have hz2:=ht2.size
 have HB2:=hid (HB1.out.trans (ht2.Ch HB1.out.size fun b hb e=>by rcases e with e | e | e<;>first | omega | cases e))
 have HCL:=hid (NH w2 hA2 hok2 hfd)
 clear hc2 hv2 hA2 hok2 hg1 hg2 ht2 HF HP1 HD
 go_wp2_with fail
 refine HCL.out.mono ?_
 rintro r w3 ⟨v3,vc,rfl,hr3,hA3,hv3,ht3⟩
 rw[HC2.out] at hr3
 have hz3:=ht3.size
 have HB3:=hid (HB2.out.trans (ht3.Ch HB2.out.size fun b hb e=>zC))
 obtain⟨aC,cC,hfv,hr3',_⟩:=AH hr3
 simp only[Av,AI] at hfv
 subst hfv
 have hlo2:=BP HC2o.out.1
 have HC3:=hid ((HC2o.out.mono (F':=fun q=>w.heap.size≤q∧q<w3.heap.size∧q<w2.heap.size∧q≠w.heap.size) (fun b e=>⟨zX,by have:=e.2.1;omega,e.2.1,zX⟩)).keep (w':=w3) (fun b e=>ht3.block b e.2.2.1 e.2.2.2) (fun q e=>ht3.block q (hlo2 q e).2 (by have:=(hlo2 q e).1;show ¬q=w.heap.size;omega)))
 have hlo:=hid (fun q e=>hlo2 q e)
 obtain⟨news,n1,n2,n3,n4,n5⟩:=Wt hr3' (fun cs x h=>Yt cs x h)
 have HN1:=hid n1
 have HN2:=hid n2
 have HN3:=hid n3
 have HN4:=hid (n4 w3 (fun q _=>rfl))
 have HN5:=hid n5
 clear n1 n2 n3 n4 n5 hr3 hr3' hA3 hv3 ht3 hlo2 HC2o HCL
 go_wp2_with (at_builtin;go_loud (refine AB rfl _ _ _ rfl (w.heap.size+1) 50 j0 (.agg #[.int .i64 0,.int .i64 0,.int .i64 0,.int .i64 0,.int .u64 0,.int .u64 0,.int .u64 0,.int .i64 0,.int .i64 0,.slice none 0 0,.slice none 0 0,.slice none 0 0,.int .u64 0,.int .u64 0,.int .u64 0,.int .u64 0,.slice none 0 0,.int .u64 0,.int .u64 0,.slice none 0 0]) 20 240 Tryz.underlying25 hj hy0 hy1 hy2 rfl zL (.slice aO L1.length cO) L1.length cells.flatten rfl HC3.out.1 aC L2.length cC news.flatten rfl HN4.out HN5.out zO zC zC ?_;intro v5 w5 hown5 hgrow5 hat5;have HO5:=hid (AY.app (F:=fun q=>w.heap.size≤q∧q<w3.heap.size) (HC3.out.mono fun b e=>⟨e.1,e.2.1⟩) (fun b e=>e.2) HN1.out HN2.out (fun i cs y h1 h2=>IV.mono (HN3.out i cs y h1 h2) fun b e=>⟨⟨zC,e.2⟩,fun e2=>by have:=(hlo.out b e2).2;have:=e.1;omega⟩) hown5 hgrow5 hat5);have hz5:=hgrow5.size;have HB5:=hid (Below.grown HB3.out hgrow5 HB3.out.size (fun g e=>by have:=(hlo.out g e).1;omega));clear hown5 hgrow5 hat5))
 go_ret
 rw[hal.out]
 exact⟨_,rfl,Mx.mono HO5.out.slice fun b e=>by
  rcases e with e | e
  ·omega
  ·have:=BP HO5.out.1 b e
   omega,HB5.out⟩
theorem RH{S:List UInt8}(h2:(Bh Db S).2=[])(he:(Bh Db S).1.ended=0)(k:Nat):(Bh Db (S.take k)).2=[]∧(Bh Db (S.take k)).1.ended=0:=by
 have h:=NK (S.take k) (S.drop k)
 rw[Bn] at h
 have e2:=h.2
 rw[h2] at e2
 refine⟨(List.append_eq_nil_iff.1 e2).1,?_⟩
 by_cases h0:(Bh Db (S.take k)).1.ended=0
 ·exact h0
 ·have e1:=h.1
  rw[K8 h0] at e1
  rw[←e1] at he
  exact he
theorem Vz{S:List UInt8}(h2:(Bh Db S).2=[])(he:(Bh Db S).1.ended=0)(hk:k<S.length):Dl (Bh Db (S.take k)).1 [S[k]]=((Bh Db (S.take (k+1))).1,[]):=by
 have h:=NK (S.take k) [S[k]]
 rw[←AU hk] at h
 have e2:=h.2
 rw[(RH h2 he (k+1)).1] at e2
 exact Prod.ext h.1 (List.append_eq_nil_iff.1 e2).2
theorem VD:(Bh Db (Dw 5 [])).2=[]∧(Bh Db (Dw 5 [])).1.ended=0∧Ge (Bh Db (Dw 5 [])).1=[⟨2,42,0,Dp⟩]:=by
 have hl:(Dw 5 []).length=42:=by rw[Ip];rfl
 have hw:=KY (ep:=5) (l:=[]) zL (fun b hb=>by cases hb)
 rw[show EA [] (Ha 5 []).2=[] from rfl,AG,hl] at hw
 have hd:=Pm (Dw 5 []) (by rw[hl];decide)
 have hf:OB (Dw 5 []) false=[]:=by
  unfold OB at hw ⊢
  generalize EA (Ez (Dw 5 [])).2.2.1 (Ez (Dw 5 [])).2.2.2.1=I at*
  have hlast:∀y:EvB,I++[y]=[⟨2,((42:Nat):Int),0,Dp⟩]→I=[]∧y.kind=2:=fun y h=>by
   cases I with
   | nil=>
    simp at h
    exact⟨rfl,by rw[h]⟩
   | cons a t=>
    have:=A3 List.length h
    simp at this
  split at hw
  ·rename_i h0
   rw[Ag h0]
   rw[Ag rfl] at hw
   rw[(hlast _ hw).1]
   rfl
  ·rename_i h0
   rw[Ai h0]
   split at hw
   ·rename_i h1
    rw[Ag rfl] at hw
    have:=(hlast _ hw).2
    exact absurd this zL
   ·have:=(hlast _ hw).2
    exact absurd this (by unfold Ep;decide)
 have h1:=hd.1.trans hf
 have h2:=hd.2
 rw[h1,AG,hw] at h2
 refine⟨h1,?_,h2⟩
 by_cases h0:(Bh Db (Dw 5 [])).1.ended=0
 ·exact h0
 ·unfold Ge at h2
  rw[Ai h0] at h2
  cases h2
set_option maxHeartbeats 12800000 in
theorem Aak(w:World):Calls Tryz.prog 41 #[] w fun r w'=>r=.returned (.bool true)∧Below w.heap.size w w':=by
 have HSB:=hid (SH w)
 rw[←Ip] at HSB
 have hl:(Dw 5 []).length=42:=by rw[Ip];rfl
 have hlive:=VD
 have HFK:=hid (fun k=>NJ ((Dw 5 []).take k) Db Qa)
 generalize Dw 5 []=S at*
 have HLV:=hid hlive
 have HLEN:=hid hl
 clear hlive hl
 go_enter Tryz.func41,Tryz.ntmps41
 go_wp2_with fail
 refine HSB.out.mono ?_
 rintro r w1 ⟨v1,rfl,hr1,hb1⟩
 obtain⟨aS,cS,hv1,hs1,_⟩:=AH hr1
 simp only[Av,AI] at hv1
 subst hv1
 have HS1:=hid hs1
 have HB1:=hid hb1
 have HNEW:=hid (RI w1)
 have hc1:=(AL hs1).2.2
 clear hr1 hs1 hb1 HSB
 go_wp2_with fail
 refine HNEW.out.mono ?_
 rintro r w2 ⟨rfl,hA2,hb2⟩
 have HI2:Hid (∃D v' vm' L,By w2 w1.heap.size D v' vm' (.slice none 0 0) L (Bh Db (S.take 0)).1 []∧Below w1.heap.size w1 w2):=hid ⟨_,_,_,_,hA2,hb2⟩
 clear hA2 hb2 HNEW
 go_wp2_with fail
 go_loopw [4] (fun iv wr=>∃k:Nat,k≤S.length∧iv=.int .i64 (k:Int)∧Hid (∃D v' vm' L,By wr w1.heap.size D v' vm' (.slice none 0 0) L (Bh Db (S.take k)).1 []∧Below w1.heap.size w1 wr)) (fun iv _=>S.length-(intOf iv).toNat)
 case atStart=>exact ⟨0,Ar _,rfl,HI2⟩
 case round=>
  obtain⟨k,hk,rfl,hI⟩:=hrel
  obtain⟨D,v1,vm1,L1,hA,hbr⟩:=hI.out
  have hfk:=HFK.out k
  have htl:(S.take k).length≤42:=by rw[E8,HLEN.out];omega
  have hf0:Db.fed=0:=rfl
  rw[hf0] at hfk
  by_cases hlt:k<S.length
  ·have d1:decide ((k:Int)<(S.length:Int))=true:=Ad zC
   have d1':decide (k<S.length)=true:=Ad hlt
   obtain⟨A',c',hcut,hrd⟩:=LP (Am.keep HS1.out fun q e=>hbr.block q e.2) (lo:=k) (hi:=k+1) zC zC
   rw[show k+1-k=1 by omega] at hcut hrd
   rw[show (((k+1:Nat)):Int)=(k:Int)+1 from zC] at hcut
   have hone:(S.drop k).take 1=[S[k]]:=by rw[AO hlt,DH,Ig]
   rw[hone] at hrd
   have hzr:=hbr.size
   have HFE:=hid (by
    have:=Pk wr hA hfk.1 [S[k]] A' 1 c' (Am.mono hrd fun q e=>⟨zV,zV,fun e2=>by have:=(hA.vq q e2).1;have:=e.2;omega,fun e2=>by have:=(hA.mq q e2).1;have:=e.2;omega⟩) (by have:=hfk.2.1;simp only[Ay,AZ];omega)
    rw[Vz HLV.out.1 HLV.out.2.1 hlt] at this
    exact this:Calls Tryz.prog 45 #[.pointer (some ⟨w1.heap.size,0,none⟩),.slice A' 1 c'] wr fun r w'=>Sw wr w1.heap.size v1 vm1 (Bh Db (S.take (k+1))).1 ([]:List EvX) r w')
   have HBR:=hid hbr
   have HVQ:=hid hA.vq
   have HMQ:=hid hA.mq
   clear hrd hone hA hI hbr hfk htl
   go_wp2_with fail
   refine HFE.out.mono ?_
   rintro r w3 ⟨D3,v3,vm3,vo3,L3,rfl,hA3,_,⟨cells3,hc3⟩,_,hg1,hg2,ht3⟩
   obtain⟨a3,c3,rfl⟩:=AV hc3.1
   have HA3:=hid hA3
   have HB3:=hid (HBR.out.trans (ht3.Ch HBR.out.size fun b hb e=>by
    rcases e with e | e | e
    ·omega
    ·have:=(HVQ.out b e).1
     omega
    ·have:=(HMQ.out b e).1
     omega))
   clear hA3 hc3 hg1 hg2 ht3 HFE hcut
   go_wp2_with fail
   go_roundw
   case rel=>exact ⟨k+1,zC,zT,hid ⟨D3,v3,vm3,L3,HA3.out,HB3.out⟩⟩
   case measure=>(simp[intOf];try omega)
  ·have d1:decide ((k:Int)<(S.length:Int))=false:=Ae zC
   have d1':decide (k<S.length)=false:=Ae hlt
   rw[Bp zC] at hA hfk
   have HCL:=hid (NH wr hA hfk.1 (by have:=hfk.2.1;have:=HLEN.out;omega))
   have HBR:=hid hbr
   clear hA hI hbr htl
   go_wp2_with fail
   refine HCL.out.mono ?_
   rintro r w3 ⟨v3,vc,rfl,hr3,hA3,hv3,ht3⟩
   rw[HLV.out.2.2] at hr3
   obtain⟨aC,cC,hfv,hr3',_⟩:=AH hr3
   simp only[Av,AI] at hfv
   subst hfv
   obtain⟨eb,eo,hE,_,_,_,_,_,_,_,_,_,_,_,hc,_⟩:=YV hr3' (i:=0) (by show 0<1;decide)
   subst hE
   have x0:w3.cell? ⟨eb,eo,none⟩=some (.int .i64 2):=hc.1
   have x1:w3.cell? ⟨eb,eo+1,none⟩=some (.int .i64 42):=hc.2.1
   have HB3:=hid (HBR.out.trans (ht3.Ch HBR.out.size fun b hb e=>zC))
   have hll:([⟨2,42,0,Dp⟩]:List EvB).length=1:=rfl
   clear hr3 hr3' hc hA3 hv3 ht3 HCL
   go_wp2_with fail
   go_ret
   exact⟨rfl,HB1.out.trans (HB3.out.mono HB1.out.size)⟩
structure Og(B:List UInt8)(ep:Int)(blk:List UInt8→Rs→Rs × List UInt8 × Bool)(RES:Rs × Nat × List Batch × List AP × Bool)(s:Rs)(l:List Batch)(M:List AP)(q:Bool):Prop where
 go:s.k=0→∃n,Dj B ep blk n s l M q=RES∧B.length-s.p<n∧s.fit B.length∧l.length≤16∧M.length=l.length∧∀p∈l,p.base+p.entries.length≤18446744073709551615
 stop:s.k≠0→RES.1=s
section
variable {B:List UInt8} {ep:Int} {blk:List UInt8→Rs→Rs × List UInt8 × Bool} {RES:Rs × Nat × List Batch × List AP × Bool} {s t:Rs} {l:List Batch} {M:List AP} {q:Bool} {P:List UInt8}
theorem Og.short(h:Og B ep blk RES s l M q)(hk:s.k=0)(hF:s.frame B 2097152=(t,P))(ht:t.k≠0):RES.1=t:=by
 obtain⟨n,hr,hn,hf,_⟩:=h.go hk
 obtain⟨m,rfl⟩:∃m,n=m+1:=⟨n-1,zC⟩
 rw[DY B ep blk m s l M q hF,Ai ht] at hr
 rw[←hr]
theorem Og.bad(h:Og B ep blk RES s l M q)(hk:s.k=0)(hF:s.frame B 2097152=(t,P))(ht:t.k=0)(hP:P≠[])(h1:P.headD 0≠1)(h2:P.headD 0≠2):Og B ep blk RES (t.fail 7 ((t.p:Int)-4-(P.length:Int))) l M q:=by
 obtain⟨n,hr,hn,hf,_⟩:=h.go hk
 obtain⟨m,rfl⟩:∃m,n=m+1:=⟨n-1,zC⟩
 rw[DY B ep blk m s l M q hF,Ag ht,Ai hP,Ai h1,Ai h2] at hr
 refine⟨fun e=>absurd e (Rs.BI zL),fun _=>by rw[←hr]⟩
theorem Og.none(h:Og B ep blk RES s l M q)(hk:s.k=0)(hF:s.frame B 2097152=(t,[]))(ht:t.k=0):Og B ep blk RES (t.fail 1 ((t.p:Int)-4-((0:Nat):Int))) l M q:=by
 obtain⟨n,hr,hn,hf,_⟩:=h.go hk
 obtain⟨m,rfl⟩:∃m,n=m+1:=⟨n-1,zC⟩
 rw[DY B ep blk m s l M q hF,Ag ht,Ag rfl] at hr
 refine⟨fun e=>absurd e (Rs.BI zL),fun _=>by rw[←hr];rfl⟩
theorem Og.batch(h:Og B ep blk RES s l M q)(hb:Wc blk)(hk:s.k=0)(hF:s.frame B 2097152=(t,P))(ht:t.k=0)(hP:P≠[])(h1:P.headD 0=1){u:Rs}{x:Batch}{bq:Bool}(hm:Rs.batch P (blk P) ⟨1,0,0⟩=(t1,x,bq))(hu:t.within (t1.fin P.length).k (t1.fin P.length).f ((t.p:Int)-4-(P.length:Int))=u):Og B ep blk RES (Oc u l ep x s.p) (if (Oc u l ep x s.p).k=0 then l++[x] else l) (if (Oc u l ep x s.p).k=0 then M++[⟨x.base,x.entries.length,(s.p:Int)⟩] else M) (if (Oc u l ep x s.p).k=0 then (q&&bq) else q):=by
 obtain⟨n,hr,hn,hf,h16,hM16,hbs⟩:=h.go hk
 obtain⟨m,rfl⟩:∃m,n=m+1:=⟨n-1,zC⟩
 obtain⟨c1,c2,c3,c4,c5⟩:=Rs.Jk hf hF ht
 have hlow:=Km P
 have htf:=Rs.Ga hf 2097152
 rw[hF] at htf
 have hPl:1≤P.length:=List.length_pos_iff.2 hP
 have hw:=XG hb (P:=P) (s:=⟨1,0,0⟩) ⟨hPl,fun _=>rfl⟩
 rw[hm] at hw
 dsimp only at hw htf
 rw[DY B ep blk m s l M q hF,Ag ht,Ai hP,Ag h1] at hr
 dsimp only at hr
 rw[hm] at hr
 dsimp only at hr
 rw[hu] at hr
 unfold Oc
 by_cases hku:u.k=0
 ·rw[Ag hku] at hr ⊢
  by_cases hl:l.length=16
  ·rw[Ag hl] at hr ⊢
   have hne:(u.fail 2 (s.p:Int)).k≠0:=Rs.BI zL
   rw[Ai hne,Ai hne,Ai hne]
   exact⟨fun e=>absurd e hne,fun _=>by rw[←hr]⟩
  ·rw[Ai hl] at hr ⊢
   by_cases hmay:EU ep (Ce l l.length) x=true
   ·rw[Ag hmay] at hr ⊢
    rw[Ag hku,Ag hku,Ag hku]
    have hut:u=t:=by
     have:=Oi (hu ▸ hku)
     rw[←hu,this]
     exact Rs.DA
    subst hut
    refine⟨fun _=>⟨m,hr,zC,htf,by rw[Al];simp only[Ay,AZ];omega,by rw[Al,Al,hM16];rfl,fun p hp=> ?_⟩,fun e=>absurd hku e⟩
    rcases List.mem_append.1 hp with h3 | h3
    ·exact hbs p h3
    ·rw[List.mem_singleton.1 h3]
     exact hw
   ·rw[Ai hmay] at hr ⊢
    have hne:(u.fail 13 (s.p:Int)).k≠0:=Rs.BI zL
    rw[Ai hne,Ai hne,Ai hne]
    exact⟨fun e=>absurd e hne,fun _=>by rw[←hr]⟩
 ·rw[Ai hku] at hr ⊢
  rw[Ai hku,Ai hku,Ai hku]
  exact⟨fun e=>absurd e hku,fun _=>by rw[←hr]⟩
end
open Go.RowKit Go.Bs
structure Wd(w W:World)(ep:Int)(a:Option Addr)(n c:Nat)(b:Batch)(ab:Option Addr)(nb cb:Nat):Prop where
 below:Below w.heap.size w W
 g:Blk W w.heap.size 63 #[.int .u64 ep,.slice a n c]
 x:Blk W (w.heap.size+1) 48 #[.int .u64 b.epoch,.int .u64 b.base,.slice ab nb cb]
 r:Blk W (w.heap.size+1+1) 63 #[.int .u64 0,.slice none 0 0]
theorem Wd.later{ep:Int}{b:Batch}{nb:Nat}(h:Wd w W ep a n c b ab nb cb)(hb:Below W.heap.size W W'):Wd w W' ep a n c b ab nb cb:=
 ⟨Aj hb h.below,h.g.later hb,h.x.later hb,h.r.later hb⟩
theorem Wd.grown{ep:Int}{b:Batch}{nb:Nat}(h:Wd w W ep a n c b ab nb cb)(hg:W.grownBy W' v.ownBlock)(hv:∀g,v.ownBlock=some g→w.heap.size+3≤g):Wd w W' ep a n c b ab nb cb:=
 ⟨h.below.grown hg h.below.size (fun g e=>by have:=hv g e;omega),h.g.grown hg (fun e=>zBs),h.x.grown hg (fun e=>zBs),h.r.grown hg (fun e=>zBs)⟩
structure YH(w W:World)(ep:Int)(a:Option Addr)(n c:Nat)(b:Batch)(ab:Option Addr)(nb cb:Nat):Prop where
 below:Below w.heap.size w W
 g:Blk W w.heap.size 63 #[.int .u64 ep,.slice a n c]
 x:Blk W (w.heap.size+1) 48 #[.int .u64 b.epoch,.int .u64 b.base,.slice ab nb cb]
theorem YH.later{ep:Int}{b:Batch}{nb:Nat}(h:YH w W ep a n c b ab nb cb)(hb:Below W.heap.size W W'):YH w W' ep a n c b ab nb cb:=
 ⟨Aj hb h.below,h.g.later hb,h.x.later hb⟩
structure Aax(w w4 W:World)(ep:Int)(a:Option Addr)(n c:Nat)(b:Batch)(ab:Option Addr)(nb cb:Nat)(gh:Nat)(e3:Int)(a3:Option Addr)(n3 c3:Nat):Prop extends YH w W ep a n c b ab nb cb where
 later4:Below w4.heap.size w4 W
 h:Blk W gh 63 #[.int .u64 e3,.slice a3 n3 c3]
theorem Aax.later{w4:World}{ep:Int}{b:Batch}{nb:Nat}{gh:Nat}{e3:Int}{n3:Nat}(h:Aax w w4 W ep a n c b ab nb cb gh e3 a3 n3 c3)(hb:Below W.heap.size W W'):Aax w w4 W' ep a n c b ab nb cb gh e3 a3 n3 c3:=
 ⟨h.toYH.later hb,Aj hb h.later4,h.h.later hb⟩
end Go.Proofs.YtfddhafbhceoaaaGreat
