/- Mini: Needed by feedNone_walk, part 14: texts put together by shake.py; no condition. -/
import Derived.Test.YtfddhafbhceoaaaGreatWF12
import Derived.Test.YtfddhafbhceoaaaGreatWF6
import Derived.Test.YtfddhafbhceoaaaGreatWF4
import Derived.Test.YtfddhafbhceoaaaGreatWF3
import Derived.Test.YtfddhafbhceoaaaGreatWF2
import Derived.Test.YtfddhafbhceoaaaGreatWF1
import Derived.Deep.Cut
import Derived.Test.YtfddhafbhceoaaaGreatWF13
import Derived.Test.YtfddhafbhceoaaaGreatWF9
set_option linter.unusedVariables false
set_option linter.unusedSimpArgs false
set_option maxRecDepth 100000
set_option maxHeartbeats 6400000
namespace Go.Bs
theorem zBx{p:Prop}(h:p:=by (rw [HRI.out.1]; try rfl)):p:=h
theorem zA4{p:Prop}(h:p:=by have := HI4.out.at_; rw [HRR.out.2.1, HRR.out.2.2]; simpa using this):p:=h
theorem zA0{p:Prop}(h:p:=by have := hDT b h2; omega):p:=h
theorem zAr{p:Prop}(h:p:=by (rw [HRR.out.1]; try rfl)):p:=h
theorem zAk{p:Prop}(h:p:=by show ¬ g = gp; omega):p:=h
theorem Z1{p:Prop}(h:p:=by { rcases hat9 with h | h; { exact .inl (h ▸ e) }; { rw [h] at e; have := AR e; simp at this; omega } }):p:=h
theorem ZM{p:Prop}(h:p:=by have := hok.fb; omega):p:=h
theorem zV{p:Prop}(h:p:=by have := e.2; omega):p:=h
end Go.Bs
namespace Go.Proofs.YtfddhafbhceoaaaGreat
open Go.RowKit Go.Bs Go.Maps
variable{P:List UInt8}{c1 g gp:Nat}{a1 ap:Option Addr}{t1:Rs}{v vm vo:Value}{w:World}
def IK(σ:FSt)(e:Rs)(x:Batch):Int × FSt × List EvB:=
 if e.k≠0 then (0,σ,[]) else if σ.l.length=16 then (2,σ,[])
 else if EU σ.ep (Ce σ.l σ.l.length) x=true then (0,{σ with l:=σ.l++[x],M:=σ.M++[⟨x.base,x.entries.length,(σ.first:Int)⟩]},[evB σ.first x]) else (13,σ,[])
theorem Ql{l:List Batch}{p:Batch}(h:l.getLast? =some p):Ce l l.length=some p:=by
 cases l with
 | nil=>cases h
 | cons a t=>
  unfold Ce
  rw[Ai zM]
  rw[List.getLast?_eq_getElem?] at h
  exact h
theorem Va{σ:FSt}(hlm:σ.l.length=σ.M.length){L:C7}(hL:∀x,σ.l.getLast? =some x→L.e=x.epoch∧L.b=x.base∧L.n=x.entries.length)(hgd:∀b∈σ.l,Bg b=true)(hnb:∀b∈σ.l,0≤b.base)(x:Batch):
  (decide (σ.ep<x.epoch)=true∧EU σ.ep (Ce σ.l σ.l.length) x=false)∨
  (decide (σ.ep<x.epoch)=false∧decide ((0:Int)<(σ.M.length:Int))=false∧EU σ.ep (Ce σ.l σ.l.length) x=true)∨
  (decide (σ.ep<x.epoch)=false∧decide ((0:Int)<(σ.M.length:Int))=true∧decide (x.epoch<L.e)=true∧EU σ.ep (Ce σ.l σ.l.length) x=false)∨
  (decide (σ.ep<x.epoch)=false∧decide ((0:Int)<(σ.M.length:Int))=true∧decide (x.epoch<L.e)=false∧decide (x.base<L.b+(L.n:Int))=(!EU σ.ep (Ce σ.l σ.l.length) x)∧0≤L.b∧L.b+(L.n:Int)≤4611686018427387904):=by
 by_cases h1:σ.ep<x.epoch
 ·refine .inl ⟨Ad h1,?_⟩
  unfold EU
  rw[Ae zC,Ii]
 ·refine .inr ?_
  have d1:decide (x.epoch≤σ.ep)=true:=Ad zC
  by_cases h0:σ.l=[]
  ·refine .inl ⟨Ae h1,?_,?_⟩
   ·rw[←hlm,h0];rfl
   ·unfold EU
    rw[d1,h0]
    rfl
  ·refine .inr ?_
   obtain⟨p,hp⟩:∃p,σ.l.getLast? =some p:=by
    cases hq:σ.l.getLast? with
    | none=>exact absurd (List.getLast?_eq_none_iff.1 hq) h0
    | some p=>exact ⟨p,rfl⟩
   have hpos:0<σ.l.length:=List.length_pos_iff.2 h0
   obtain⟨e1,e2,e3⟩:=hL p hp
   have hpm:p∈σ.l:=List.mem_of_getLast? hp
   have hb4:=(EY (hgd p hpm)).2.2.2.2.1
   have hb0:=hnb p hpm
   have hm:EU σ.ep (Ce σ.l σ.l.length) x=(decide (p.epoch≤x.epoch)&&decide (p.base+p.entries.length≤x.base)):=by
    rw[Ql hp]
    unfold EU
    rw[d1,Dz]
   rw[hm,e1,e2,e3]
   by_cases h2:x.epoch<p.epoch
   ·exact .inl ⟨Ae h1,Ad zC,Ad h2,by rw[Ae (by omega),Ii]⟩
   ·refine .inr ⟨Ae h1,Ad zC,Ae h2,?_,hb0,zC⟩
    rw[Ad (by omega:p.epoch≤x.epoch),Dz,←decide_not,decide_eq_decide]
    omega
def AaT(w:World)(g gp:Nat)(D:Nat→Prop)(v vm vo:Value)(P:List UInt8)(ap:Option Addr)(t2:Rs)(cd:Int)(σ9:FSt)(E9:List EvX)(r:Ending)(w':World):Prop:=
 r=.returned (.int .i64 cd)∧AS w' gp P ap t2∧∃D' vm' vo' L',By w' g D' v vm' vo' L' σ9 E9∧(∀q,D' q→D q∨(gp<q∧q<w'.heap.size))∧DG w vm vm'∧DG w vo vo'∧Tch (fun q=>q=g∨q=gp∨vm.ownBlock=some q∨vo.ownBlock=some q) w w'
theorem N9{x:Batch}{bq:Bool}(hpk:(⟨1,0,0⟩:Rs).ok P.length)(hb:Rs.batch P (Eb P) ⟨1,0,0⟩=(t1,x,bq))(h:(t1.fin P.length).k=0):Bg x=true∧0≤x.base:=by
 have hk:(Rs.batch P (Eb P) ⟨1,0,0⟩).1.k=0:=by rw[hb];exact (Ut h).1
 obtain⟨h1,h2,_⟩:=Rs.Hs hpk hk (fun t=>YE.k P t) (fun t=>YE.len P t)
 rw[hb] at h1 h2
 exact⟨h1,h2.2.1.1⟩
theorem Uj{a b:Int}{s t:FSt}{l m:List EvB}(h:(a,s,l)=(b,t,m)):Hid (a=b∧s=t∧l=m):=by
 simp only[BF] at h
 exact hid h
structure XR(w:World)(g T:Nat)(D:Nat→Prop)(gp gb:Nat)(v vm vo:Value)(L:C7)(σ:FSt)(E:List EvX)(P:List UInt8)(ap:Option Addr)(t2:Rs)(x:Batch)(a1:Option Addr)(c1:Nat)(V:World):Prop where
 at_:By V g D v vm vo L σ E
 bb:Blk V gb 48 #[.int .u64 x.epoch,.int .u64 x.base,.slice a1 x.entries.length c1]
 be:Br.r (fun q=>w.heap.size≤q∧q<gb) V [.slice a1 x.entries.length c1] x.entries
 rd:AS V gp P ap t2
 tc:Tch (fun q=>q=gp) w V
 pd:Am.r (fun q=>T≤q∧q<gp) V [.slice ap P.length P.length] P
 gpl:gp<V.heap.size
theorem XR.later{V V':World}{T:Nat}{D:Nat→Prop}{gb:Nat}{L:C7}{σ:FSt}{E:List EvX}{t2:Rs}{x:Batch}(h:XR w g T D gp gb v vm vo L σ E P ap t2 x a1 c1 V)(hb:Below V.heap.size V V'):XR w g T D gp gb v vm vo L σ E P ap t2 x a1 c1 V':=
 ⟨h.at_.later hb,h.bb.later hb,Br.keep h.be fun q e=>hb.block q (by have:=h.bb.lt;have:=e.2;omega),h.rd.later hb,h.tc.trans (Tch.AW (F:=fun q=>q=gp) hb) fun _ _ e=>e,Am.keep h.pd fun q e=>hb.block q (by have:=h.gpl;have:=e.2;omega),An h.gpl hb.size⟩
set_option maxHeartbeats 12800000 in
theorem TH(w:World){g T:Nat}{D:Nat→Prop}{v vm vo:Value}{L:C7}{σ:FSt}{E:List EvX}(h:By w g D v vm vo L σ E)(hDT:∀q,D q→q<T)(hgT:g<T)(hok:FOk σ)(hfe:σ.fed≤1000000000)(hEl:E.length≤1000000000){gp:Nat}{P:List UInt8}{ap:Option Addr}(hgp:T≤gp)(hp:AS w gp P ap ⟨1,0,0⟩)(hPl:P.length≤1000000000)(hpd:Am.r (fun q=>T≤q∧q<gp) w [.slice ap P.length P.length] P){t1:Rs}{x:Batch}{bq:Bool}(hb:Rs.batch P (Eb P) ⟨1,0,0⟩=(t1,x,bq)):
  Calls Tryz.prog 230 #[.pointer (some ⟨g,0,none⟩),.pointer (some ⟨gp,0,none⟩)] w fun r w'=>AaT w g gp D v vm vo P ap (t1.fin P.length) (IK σ (t1.fin P.length) x).1 (IK σ (t1.fin P.length) x).2.1 (E++(IK σ (t1.fin P.length) x).2.2.map EvB.x) r w':=by
 obtain⟨i0,hi,iz0,iz1,iz2⟩:=A5 Qg
 obtain⟨j0,hj,hy0,hy1,hy2⟩:=A5 Ns
 obtain⟨k0,hk,hx0,hx1,hx2⟩:=A5 LA
 have hpk:=hp.ok
 have HC:=hid (T9 w hp hPl)
 have hxu:=YD (blk:=fun P=>Eb P) YE (P:=P) (s:=⟨1,0,0⟩) hpk
 rw[hb] at HC hxu
 dsimp only at HC hxu
 have HH:=hid h
 have hgpl:=hp.blk.lt
 have HPD:=hid hpd
 have HOQ:=hid h.oq
 have HVQ:=hid h.vq
 have hmc:=Va hok.lm h.last hok.good hok.nb x
 have hgood:=hok.good
 have hlast:=h.last
 have HEN:=hid (fun (V:World) (hV:AS V gp P ap t1)=>SV V hV)
 have hbg:=N9 hpk hb
 generalize hte:t1.fin P.length=t2 at*
 have HGD:=hid (fun (V:World) (hV:AS V gp P ap t2)=>AK V hV)
 have HMC:=hid hmc
 obtain⟨R9,hR9⟩:∃R9,R9=IK σ t2 x:=⟨_,rfl⟩
 rw[←hR9]
 obtain⟨cd,σ9,ev9⟩:=R9
 have HR9:=hid hR9
 dsimp only
 clear h hp hb hte hpk hmc hpd hR9
 go_enter Tryz.func230,Tryz.ntmps230
 go_wp2_with fail
 refine HC.out.mono ?_
 rintro r w1 ⟨v1,rfl,hr1,hst1⟩
 obtain⟨a1,c1,hfv,hr1',hel⟩:=AH (Cu hr1)
 simp only[Av,AI] at hfv
 subst hfv
 have hz1:=hst1.2.size
 have hba:Below w1.heap.size w1 (w1.alloc (.cells #[.int .u64 x.epoch,.int .u64 x.base,.slice a1 x.entries.length c1] 48)):=zA
 have HA2:=hid ((HH.out.side hst1.2 zAk (fun b h1 h2 h3 e=>zA0)).later hba)
 have HP2:=hid (hst1.1.later hba)
 have HB2:Hid (Blk (w1.alloc (.cells #[.int .u64 x.epoch,.int .u64 x.base,.slice a1 x.entries.length c1] 48)) w1.heap.size 48 #[.int .u64 x.epoch,.int .u64 x.base,.slice a1 x.entries.length c1]):=hid (Blk.new _ _ _)
 have HE2:Hid (Br.r (fun q=>w.heap.size≤q∧q<w1.heap.size) (w1.alloc (.cells #[.int .u64 x.epoch,.int .u64 x.base,.slice a1 x.entries.length c1] 48)) [.slice a1 x.entries.length c1] x.entries):=hid (Br.keep hr1' fun q e=>AN _ _ q e.2)
 have HT2:=hid (hst1.2.trans (Tch.AW (F:=fun q=>q=gp) hba) fun _ _ e=>e)
 go_upto_region 2 with (fail)
 have hgb:w.heap.size≤w1.heap.size:=hz1
 have hgbl:w1.heap.size<(w1.alloc (.cells #[.int .u64 x.epoch,.int .u64 x.base,.slice a1 x.entries.length c1] 48)).heap.size:=zM
 generalize w1.alloc (.cells #[.int .u64 x.epoch,.int .u64 x.base,.slice a1 x.entries.length c1] 48)=w2 at*
 generalize w1.heap.size=gb at*
 clear hr1 hr1' hst1 hba HC hz1
 go_wp2_with fail
 refine (HEN.out _ HP2.out).mono ?_
 rintro r w3 ⟨rfl,hst3⟩
 have HI3:Hid (XR w g T D gp gb v vm vo L σ E P ap t2 x a1 c1 w3):=hid ⟨HA2.out.side hst3.2 zAk (fun b h1 h2 h3 e=>zA0),HB2.out.tch hst3.2 zC,Br.keep HE2.out fun q e=>hst3.2.block q zV zX,hst3.1,HT2.out.trans hst3.2 fun _ _ e=>e,Am.keep HPD.out fun q e=>(HT2.out.trans hst3.2 fun _ _ e=>e).block q zV zV,by have:=hst3.1.blk.lt;exact this⟩
 have hgb3:gb<w3.heap.size:=HI3.out.bb.lt
 clear hst3 HA2 HP2 HB2 HE2 HT2 HEN hgbl
 by_cases hk2:t2.k=0
 ·rw[Ad hk2] at HGD
  have h16x:=(EY (hbg hk2).1).2.2.2.1
  have hbt:IK σ t2 x=(if σ.l.length=16 then (2,σ,[]) else if EU σ.ep (Ce σ.l σ.l.length) x=true then (0,{σ with l:=σ.l++[x],M:=σ.M++[⟨x.base,x.entries.length,(σ.first:Int)⟩]},[evB σ.first x]) else (13,σ,[])):=Ai (fun e=>e hk2)
  have HBT:=hid (HR9.out.trans hbt)
  clear hk2 hbt HR9
  go_wp2_with fail
  refine (HGD.out _ HI3.out.rd).mono ?_
  rintro r w4 ⟨rfl,hb4⟩
  have HI4:=hid (HI3.out.later hb4)
  have hgb4:=An hgb3 hb4.size
  clear hb4 HI3
  obtain⟨aM,cM,rfl⟩:=AV HI4.out.at_.mks.own
  have hlm:=hok.lm
  obtain⟨y0,y1,y2,y3,y4,y5,y6,y7,y8,y9,y10,y11,y12,y13,y14,y15,y16,y17,y18,ly⟩:=Bo HI4.out.at_.blk
  by_cases h16:σ.l.length=16
  ·have HRR:=Uj (HBT.out.trans (Ag h16))
   have d16:((σ.M.length:Int)==(16:Int))=true:=by rw[←hlm,h16];rfl
   clear h16
   go_wp2_with fail
   go_ret
   exact⟨zAr,HI4.out.rd,D,_,vo,L,zA4,fun q e=> .inl e,DG.refl,DG.refl,HI4.out.tc.mono fun _ _ e=> .inr (.inl e)⟩
  ·have HBT2:=hid (HBT.out.trans (Ai h16))
   have d16:((σ.M.length:Int)==(16:Int))=false:=by rw[←hlm,BL];omega
   obtain⟨mv,hmv⟩:∃mv,EU σ.ep (Ce σ.l σ.l.length) x=mv:=⟨_,rfl⟩
   rw[hmv] at HMC HBT2
   clear hmv
   obtain⟨x0,x1,x2,lx⟩:=E5 HI4.out.bb
   go_upto_region 8 with (fail)
   have Y5:=fun s:AM w4=>s.cell y5
   have Y6:=fun s:AM w4=>s.cell y6
   have Y7:=fun s:AM w4=>s.cell y7
   have Y8:=fun s:AM w4=>s.cell y8
   have X0:=fun s:AM w4=>s.cell x0
   have X1:=fun s:AM w4=>s.cell x1
   clear y0 y1 y2 y3 y4 y5 y6 y7 y8 y9 y10 y11 y12 y13 y14 y15 y16 y17 y18 ly x0 x1 x2 lx
   go_cut [22] from 23 to 53 (fun s22 V=>s22=.bool (!mv)∧Hid (XR w g T D gp gb v (.slice aM σ.M.length cM) vo L σ E P ap t2 x a1 c1 V))
   case first=>
    rcases HMC.out with ⟨d1,rfl⟩ | ⟨d1,d2,rfl⟩ | ⟨d1,d2,d3,rfl⟩ | ⟨d1,d2,d3,d4,hl0,hl1⟩
    ·go_wp2_with fail
     refine Az zJ zJ ?_
     repeat (go_big_quiet_step ((fail)))
     refine AT ?_
     rintro w5 ⟨⟨w5x,hb5⟩,rfl⟩
     go_wp2_with fail
     go_meet
     case rel=>exact ⟨rfl,hid (HI4.out.later hb5)⟩
    ·have d2':decide (0<σ.M.length)=false:=Ae (by have:=GD d2;omega)
     go_wp2_with fail
     refine Az zJ zJ ?_
     repeat (go_big_quiet_step ((fail)))
     refine AT ?_
     rintro w5 ⟨⟨w5x,hb5⟩,rfl⟩
     go_wp2_with fail
     go_meet
     case rel=>exact ⟨rfl,hid (HI4.out.later hb5)⟩
    ·have d2':decide (0<σ.M.length)=true:=Ad (by have:=C8 d2;omega)
     go_wp2_with fail
     refine Az zJ zJ ?_
     repeat (go_big_quiet_step ((fail)))
     refine AT ?_
     rintro w5 ⟨⟨w5x,hb5⟩,rfl⟩
     go_wp2_with fail
     go_meet
     case rel=>exact ⟨rfl,hid (HI4.out.later hb5)⟩
    ·have d2':decide (0<σ.M.length)=true:=Ad (by have:=C8 d2;omega)
     have HBE:=hid (fun W:World=>PB L.e L.b L.a L.n L.c W hl0 zC zC)
     go_wp2_with fail
     refine Az zJ zJ ?_
     repeat (go_big_quiet_step (((go_at_call 218;exact CH (HBE.out _)))))
     refine AT ?_
     rintro w5 ⟨⟨w5x,hb5⟩,rfl⟩
     go_wp2_with fail
     go_meet
     case rel=>exact ⟨rfl,hid (HI4.out.later hb5)⟩
   case rest=>
    obtain⟨rfl,HI5⟩:=hcut
    clear Y5 Y6 Y7 Y8 X0 X1
    cases mv
    ·have HRR:=Uj (HBT2.out.trans (Ai zL))
     go_wp2_with fail
     go_ret
     exact⟨zAr,HI5.out.rd,D,_,vo,L,by have:=HI5.out.at_;rw[HRR.out.2.1,HRR.out.2.2];simpa using this,fun q e=> .inl e,DG.refl,DG.refl,HI5.out.tc.mono fun _ _ e=> .inr (.inl e)⟩
    ·have HRR:=Uj (HBT2.out.trans (Ag rfl))
     generalize wc=W5 at*
     clear HMC HPD HGD
     have hb5l:gb<W5.heap.size:=HI5.out.bb.lt
     have hgp5:gp<W5.heap.size:=HI5.out.gpl
     have hfst:σ.first≤1000000000:=ZM
     have HMN:=hid (show G5 ⟨x.base,x.entries.length,(σ.first:Int)⟩ from ⟨hxu.2,zH,zH⟩)
     have HMQ:=hid HI5.out.at_.mq
     have hml:σ.M.length≤16:=by rw[←hlm];exact hok.l16
     have HRB:=hid HI5.out.rd.blk
     have HRO:=hid HI5.out.rd.ok
     have HBE5:=hid HI5.out.be
     have HPD5:=hid HI5.out.pd
     have HTC5:=hid (HI5.out.tc.mono (G:=(fun q=>q=g∨q=gp∨(Value.slice aM σ.M.length cM).ownBlock=some q∨vo.ownBlock=some q)) fun _ _ e=> .inr (.inl e))
     have HXU:=hid hxu
     obtain⟨y0,y1,y2,y3,y4,y5,y6,y7,y8,y9,y10,y11,y12,y13,y14,y15,y16,y17,y18,ly⟩:=Bo HI5.out.at_.blk
     obtain⟨z0,z1,z2,z3,z4,z5,z6,z7,z8,z9,z10,z11,z12,z13,z14,z15,z16,z17,z18⟩:=Cw HI5.out.at_.blk
     obtain⟨x0,x1,x2,lx⟩:=E5 HI5.out.bb
     have HOM:=hid (fun (V:World) (hV:Below W5.heap.size W5 V)=>Bz HI5.out.at_.mks.own hV)
     have SK:=hid (fun (w':World) (h1:Blk w' g 83 #[nxF σ.ph,v,.int .i64 (σ.first:Int),.int .i64 (σ.fed:Int),.int .i64 σ.ended,.int .u64 σ.ep,.int .u64 L.e,.int .u64 L.b,.slice L.a L.n L.c,.slice aM σ.M.length cM,.int .u64 σ.want.ep,.int .i64 σ.want.n,.int .i64 σ.want.en,.int .u64 σ.want.first,.int .u64 σ.want.fin,.int .i64 σ.want.at_,.int .i64 σ.want.size,.int .i64 (σ.foot:Int),vo]) (h2:Blk w' gb 48 #[.int .u64 x.epoch,.int .u64 x.base,.slice a1 x.entries.length c1])=>(⟨h1.cell 9,h2.cell 1,h2.cell 2,h1.cell 2⟩:w'.cell? ⟨g,9,none⟩=some (.slice aM σ.M.length cM)∧w'.cell? ⟨gb,1,none⟩=some (.int .u64 x.base)∧w'.cell? ⟨gb,2,none⟩=some (.slice a1 x.entries.length c1)∧w'.cell? ⟨g,2,none⟩=some (.int .i64 (σ.first:Int))))
     have hP5:Blk W5 g 83 #[nxF σ.ph,v,.int .i64 (σ.first:Int),.int .i64 (σ.fed:Int),.int .i64 σ.ended,.int .u64 σ.ep,.int .u64 L.e,.int .u64 L.b,.slice L.a L.n L.c,.slice aM σ.M.length cM,.int .u64 σ.want.ep,.int .i64 σ.want.n,.int .i64 σ.want.en,.int .u64 σ.want.first,.int .u64 σ.want.fin,.int .i64 σ.want.at_,.int .i64 σ.want.size,.int .i64 (σ.foot:Int),vo]:=HI5.out.at_.blk
     have hB5:Blk W5 gb 48 #[.int .u64 x.epoch,.int .u64 x.base,.slice a1 x.entries.length c1]:=HI5.out.bb
     have hPd:Blk W5.drew g 83 #[nxF σ.ph,v,.int .i64 (σ.first:Int),.int .i64 (σ.fed:Int),.int .i64 σ.ended,.int .u64 σ.ep,.int .u64 L.e,.int .u64 L.b,.slice L.a L.n L.c,.slice aM σ.M.length cM,.int .u64 σ.want.ep,.int .i64 σ.want.n,.int .i64 σ.want.en,.int .u64 σ.want.first,.int .u64 σ.want.fin,.int .i64 σ.want.at_,.int .i64 σ.want.size,.int .i64 (σ.foot:Int),vo]:=hP5.drew
     have hBd:Blk W5.drew gb 48 #[.int .u64 x.epoch,.int .u64 x.base,.slice a1 x.entries.length c1]:=hB5.drew
     go_upto_region 10 with (fail)
     refine BQ (fun w'=>w'.cell? ⟨g,9,none⟩=some (.slice aM σ.M.length cM)∧w'.cell? ⟨gb,1,none⟩=some (.int .u64 x.base)∧w'.cell? ⟨gb,2,none⟩=some (.slice a1 x.entries.length c1)∧w'.cell? ⟨g,2,none⟩=some (.int .i64 (σ.first:Int))) _ zJ rfl zJ ⟨y9,x1,x2,y2⟩ (fun hHeld=> ?_)
     simp only[BD,FG]
     refine Aq (i:=0) (oi:=_) (v:=?_) rfl zF zF zF (fun _ _ _ h=>h) (Or.inl ⟨zR,?_⟩) zK ?_
     rotate_left
     ·(intro w hSw;(try dsimp only at hSw);go_simp<;>with_reducible rfl)
     (try simp only[Act.put,Aa,Ab,Ac])
     (try simp only[Ak,Ah,Af,Act.put,Aa,Ab,Ac])
     refine Aq (i:=1) (oi:=_) (v:=?_) rfl zF zF zF (fun _ _ _ h=>h) (Or.inl ⟨zR,?_⟩) zK ?_
     rotate_left
     ·(intro w hSw;(try dsimp only at hSw);go_simp<;>with_reducible rfl)
     (try simp only[Act.put,Aa,Ab,Ac])
     (try simp only[Ak,Ah,Af,Act.put,Aa,Ab,Ac])
     refine Aq (i:=2) (oi:=_) (v:=?_) rfl zF zF zF (fun _ _ _ h=>h) (Or.inl ⟨zR,?_⟩) zK ?_
     rotate_left
     ·(intro w hSw;(try dsimp only at hSw);go_simp<;>with_reducible rfl)
     (try simp only[Act.put,Aa,Ab,Ac])
     (try simp only[Ak,Ah,Af,Act.put,Aa,Ab,Ac])
     refine Aq (i:=3) (oi:=_) (v:=?_) rfl zF zF zF (fun _ _ _ h=>h) (Or.inl ⟨zR,?_⟩) zK ?_
     rotate_left
     ·(intro w hSw;(try dsimp only at hSw);go_simp<;>with_reducible rfl)
     (try simp only[Act.put,Aa,Ab,Ac])
     (try simp only[Ak,Ah,Af,Act.put,Aa,Ab,Ac])
     refine Aq (i:=4) (oi:=_) (v:=?_) rfl zF zF zF (fun _ _ _ h=>h) (Or.inl ⟨zR,?_⟩) zK ?_
     rotate_left
     ·(intro w hSw;(try dsimp only at hSw);go_simp<;>with_reducible rfl)
     (try simp only[Act.put,Aa,Ab,Ac])
     (try simp only[Ak,Ah,Af,Act.put,Aa,Ab,Ac])
     refine Aq (i:=5) (oi:=_) (v:=?_) rfl zF zF zF (fun _ _ _ h=>h) (Or.inl ⟨zR,?_⟩) zK ?_
     rotate_left
     ·(intro w hSw;(try dsimp only at hSw);go_simp<;>with_reducible rfl)
     (try simp only[Act.put,Aa,Ab,Ac])
     (try simp only[Ak,Ah,Af,Act.put,Aa,Ab,Ac])
     refine Aq (i:=6) (oi:=_) (v:=?_) rfl zF zF zF (fun _ _ _ h=>h) (Or.inl ⟨zR,?_⟩) zK ?_
     rotate_left
     ·(intro w hSw;(try dsimp only at hSw);go_simp<;>with_reducible rfl)
     (try simp only[Act.put,Aa,Ab,Ac])
     (try simp only[Ak,Ah,Af,Act.put,Aa,Ab,Ac])
     refine Aq (i:=7) (oi:=_) (v:=?_) rfl zF zF zF (fun _ _ _ h=>h) (Or.inl ⟨zR,?_⟩) zK ?_
     rotate_left
     ·(intro w hSw;(try dsimp only at hSw);go_simp<;>with_reducible rfl)
     (try simp only[Act.put,Aa,Ab,Ac])
     (try simp only[Ak,Ah,Af,Act.put,Aa,Ab,Ac])
     refine Aq (i:=8) (oi:=_) (v:=?_) rfl zF zF zF (fun _ _ _ h=>h) (Or.inl ⟨zR,?_⟩) zK ?_
     rotate_left
     ·(intro w hSw;(try dsimp only at hSw);go_simp<;>with_reducible rfl)
     (try simp only[Act.put,Aa,Ab,Ac])
     (try simp only[Ak,Ah,Af,Act.put,Aa,Ab,Ac])
     refine Aq (i:=9) (oi:=_) (v:=?_) rfl zF zF zF (fun _ _ _ h=>h) (Or.inl ⟨zR,?_⟩) zK ?_
     rotate_left
     ·(intro w hSw;(try dsimp only at hSw);go_simp<;>with_reducible rfl)
     (try simp only[Act.put,Aa,Ab,Ac])
     (try simp only[Ak,Ah,Af,Act.put,Aa,Ab,Ac])
     refine Aq (i:=10) (oi:=_) (v:=?_) rfl zF zF zF (fun _ _ _ h=>h) (Or.inl ⟨zR,?_⟩) zK ?_
     rotate_left
     ·(intro w hSw;(try dsimp only at hSw);go_simp<;>with_reducible rfl)
     (try simp only[Act.put,Aa,Ab,Ac])
     (try simp only[Ak,Ah,Af,Act.put,Aa,Ab,Ac])
     refine Aq (i:=11) (oi:=_) (v:=?_) rfl zF zF zF (fun _ _ _ h=>h) (Or.inl ⟨zR,?_⟩) zK ?_
     rotate_left
     ·(intro w hSw;(try dsimp only at hSw);go_simp<;>with_reducible rfl)
     (try simp only[Act.put,Aa,Ab,Ac])
     (try simp only[Ak,Ah,Af,Act.put,Aa,Ab,Ac])
     refine Aq (i:=12) (oi:=_) (v:=?_) rfl zF zF zF (fun _ _ _ h=>h) (Or.inl ⟨zR,?_⟩) zK ?_
     rotate_left
     ·(intro w hSw;(try dsimp only at hSw);go_simp<;>with_reducible rfl)
     (try simp only[Act.put,Aa,Ab,Ac])
     (try simp only[Ak,Ah,Af,Act.put,Aa,Ab,Ac])
     refine Aq (i:=13) (oi:=_) (v:=?_) rfl zF zF zF (fun _ _ _ h=>h) (Or.inl ⟨zR,?_⟩) zK ?_
     rotate_left
     ·(intro w hSw;(try dsimp only at hSw);go_simp<;>with_reducible rfl)
     (try simp only[Act.put,Aa,Ab,Ac])
     (try simp only[Ak,Ah,Af,Act.put,Aa,Ab,Ac])
     refine Aq (i:=14) (oi:=_) (v:=?_) rfl zF zF zF (fun _ _ _ h=>h) (Or.inl ⟨zR,?_⟩) zK ?_
     rotate_left
     ·(intro w hSw;(try dsimp only at hSw);go_simp<;>with_reducible rfl)
     (try simp only[Act.put,Aa,Ab,Ac])
     (try simp only[Ak,Ah,Af,Act.put,Aa,Ab,Ac])
     refine Bk (rs:=[15]) zF zM ?_
     refine Ba (o:=_) rfl (fun K hK=> ?_) AllReadyH.nil
     go_simp
     refine hK.out _ _ ?_ (fun hHeld=> ?_)
     ·((try dsimp only);refine SK.out _ ?_ ?_<;>(repeat (first | with_reducible assumption | with_reducible refine Blk.drew ?_ | with_reducible refine Blk.alloc ?_ _ | with_reducible refine Blk.far ?_ zH _)))
     clear hK K
     (try simp only[Act.put,Aa,Ab,Ac])
     refine Bk (rs:=[16]) zF zM ?_
     refine Ba (o:=_) rfl (fun K hK=> ?_) AllReadyH.nil
     (refine CL zR _ _ _ zR (g+1) 88 j0 (.agg #[.int .u64 0,.int .i64 0,.int .i64 0]) 3 24 Tryz.underlying79 hj hy0 hy1 hy2 rfl zL (.slice aM σ.M.length cM) σ.M.length (σ.M.map JW).flatten zR (HOM.out _ zB) (some ⟨W5.heap.size,0,none⟩) 1 1 [.int .u64 x.base,.int .i64 x.entries.length,.int .i64 (σ.first:Int)] zR (BU W5.drew 88 _ zR zM rfl) (by intro u hu;simp at hu;rcases hu with rfl | rfl | rfl<;>rfl) zO zC zI ?_;intro a8 c8 w8 hown8 hgrow8 hat8;have hg8:W5.heap.size+1≤w8.heap.size:=(by have h0:=hgrow8.size;simpa using h0);have HV5:=hid (HI5.out.later (show Below W5.heap.size W5 (W5.drew.alloc (.cells #[.int .u64 x.base,.int .i64 x.entries.length,.int .i64 (σ.first:Int)] 88)) by (repeat (first | with_reducible exact Below.refl _ _ | with_reducible assumption | (with_reducible refine Aw ?_ _) | (with_reducible refine Below.setCell ?_ zE _) | (with_reducible refine Below.drew ?_) | (with_reducible refine below_drewN ?_ _) | (refine Aj zG ?_)))));have hPg:=HV5.out.at_.blk.grown hgrow8 (fun e=>by have:=(HMQ.out g e.symm).1;omega);have hBg:=HV5.out.bb.grown hgrow8 (fun e=>by have:=hDT _ (HMQ.out gb e.symm).2;omega);have HG8:=hid hgrow8;have hV5z:(W5.drew.alloc (.cells #[.int .u64 x.base,.int .i64 x.entries.length,.int .i64 (σ.first:Int)] 88)).heap.size=W5.heap.size+1:=zM;have HA6:=hid ((HV5.out.at_.mark HMN.out hown8 hgrow8 hat8).up (D':=fun q=>D q∨(gp<q∧q<w8.heap.size)) (fun q e=>e.elim .inl fun e=> .inr ⟨zX,e.2⟩) (fun q e=>by {have hs:(w8.setCell ⟨g,9,none⟩ (.slice a8 (σ.M.length+1) c8)).heap.size=w8.heap.size:=(by simp[World.setCell]);rw[hs];clear hs;rcases e with e | e;{have:=hDT q e;omega};{exact e.2}}));have HQ8:=hid (show ∀q,(Value.slice a8 (σ.M.length+1) c8).ownBlock=some q→(Value.slice aM σ.M.length cM).ownBlock=some q∨gb<q from fun q e=>by {rcases hat8 with h | h;{exact .inl (h ▸ e)};{rw [h] at e;have:=AR e;simp at this;omega}});obtain⟨y0,y1,y2,y3,y4,y5,y6,y7,y8,y9,y10,y11,y12,y13,y14,y15,y16,y17,y18,ly⟩:=Bo hPg;obtain⟨z0,z1,z2,z3,z4,z5,z6,z7,z8,z9,z10,z11,z12,z13,z14,z15,z16,z17,z18⟩:=Cw hPg;clear hown8 hgrow8 hat8)
     refine hK.out _ _ ?_ (fun hHeld=> ?_)
     ·((try dsimp only);refine SK.out _ ?_ ?_<;>(repeat (first | with_reducible assumption | with_reducible refine Blk.drew ?_ | with_reducible refine Blk.alloc ?_ _ | with_reducible refine Blk.far ?_ zH _)))
     clear hK K
     (try simp only[Act.put,Aa,Ab,Ac])
     refine Aq (i:=17) (oi:=_) (v:=?_) rfl zF zF zF (fun _ _ _ h=>h) (Or.inl ⟨zR,?_⟩) zK ?_
     rotate_left
     ·(intro w hSw;(try dsimp only at hSw);go_simp<;>with_reducible rfl)
     (try simp only[Act.put,Aa,Ab,Ac])
     (try simp only[Ak,Ah,Af,Act.put,Aa,Ab,Ac])
     refine Aq (i:=18) (oi:=_) (v:=?_) rfl zF zF zF (fun _ _ _ h=>h) (Or.inl ⟨zR,?_⟩) zK ?_
     rotate_left
     ·(intro w hSw;(try dsimp only at hSw);go_simp<;>with_reducible rfl)
     (try simp only[Act.put,Aa,Ab,Ac])
     (try simp only[Ak,Ah,Af,Act.put,Aa,Ab,Ac])
     refine Aq (i:=19) (oi:=_) (v:=?_) rfl zF zF zF (fun _ _ _ h=>h) (Or.inl ⟨zR,?_⟩) zK ?_
     rotate_left
     ·(intro w hSw;(try dsimp only at hSw);go_simp<;>with_reducible rfl)
     (try simp only[Act.put,Aa,Ab,Ac])
     (try simp only[Ak,Ah,Af,Act.put,Aa,Ab,Ac])
     refine FP zJ ?_ _
     show wpList _ _ _ _ _ _
     go_upto_region 11 with (fail)
     have hz8:W5.heap.size<w8.heap.size:=zC
     have hs6:(w8.setCell ⟨g,9,none⟩ (.slice a8 (σ.M.length+1) c8)).heap.size=w8.heap.size:=zU
     have HK6:Hid (∀b,b<W5.heap.size→b≠g→(Value.slice aM σ.M.length cM).ownBlock≠some b→(w8.setCell ⟨g,9,none⟩ (.slice a8 (σ.M.length+1) c8)).heap[b]? =W5.heap[b]?):=hid fun b h1 h2 h3=>(At _ _ _ _ zH).trans ((HG8.out.block b zI (fun e=>h3 e.symm)).trans (AN W5.drew _ b h1))
     have HT6:Hid (Tch (fun q=>q=g∨q=gp∨(Value.slice aM σ.M.length cM).ownBlock=some q∨vo.ownBlock=some q) w (w8.setCell ⟨g,9,none⟩ (.slice a8 (σ.M.length+1) c8))):=hid (Tch.setCell ((((HTC5.out.drew).alloc (.cells #[.int .u64 x.base,.int .i64 x.entries.length,.int .i64 (σ.first:Int)] 88)).trans (Tch.GR HG8.out) fun _ _ e=> .inr (.inr (.inl e)))) (fun _=> .inl rfl) _)
     have HB6:Hid (Blk (w8.setCell ⟨g,9,none⟩ (.slice a8 (σ.M.length+1) c8)) gb 48 #[.int .u64 x.epoch,.int .u64 x.base,.slice a1 x.entries.length c1]):=hid (hBg.far zH _)
     have HA6:Hid (By (w8.setCell ⟨g,9,none⟩ (.slice a8 (σ.M.length+1) c8)) g (fun q=>D q∨(gp<q∧q<w8.heap.size)) v (.slice a8 (σ.M.length+1) c8) vo L {σ with M:=σ.M++[⟨x.base,x.entries.length,(σ.first:Int)⟩]} E):=HA6
     clear y0 y1 y2 y3 y4 y5 y6 y7 y8 y9 y10 y11 y12 y13 y14 y15 y16 y17 y18 ly z0 z1 z2 z3 z4 z5 z6 z7 z8 z9 z10 z11 z12 z13 z14 z15 z16 z17 z18 x0 x1 x2 lx HV5 hPg hBg hPd hBd hP5 hB5 SK HOM HG8 hHeld
     generalize w8.setCell ⟨g,9,none⟩ (.slice a8 (σ.M.length+1) c8)=W6 at*
     rw[←hs6] at HA6
     have hs68:W5.heap.size<W6.heap.size:=zC
     clear hs6 hz8
     have hmk:∀W:World,(Instr.makeSlice 46 (.int .i64 (x.entries.length:Int)) (.int .i64 (x.entries.length:Int))).run Tryz.prog W=.ok (.slice (some ⟨W.heap.size,0,none⟩) x.entries.length x.entries.length) (W.alloc (.cells (madeCells #[.slice none 0 0,.slice none 0 0] (x.entries.length*2)) 180)):=fun W=>by
      have:=run_make (P:=Tryz.prog) (w:=W) 46 180 k0 _ Tryz.underlying46 hk hx0 .i64 .i64 (x.entries.length:Int) (x.entries.length:Int) zC zC (by rw[hx2];omega) zC
      simp only[Ex,hx1] at this
      exact this
     have hB6:Blk W6 g 83 #[nxF σ.ph,v,.int .i64 (σ.first:Int),.int .i64 (σ.fed:Int),.int .i64 σ.ended,.int .u64 σ.ep,.int .u64 L.e,.int .u64 L.b,.slice L.a L.n L.c,.slice a8 (σ.M.length+1) c8,.int .u64 σ.want.ep,.int .i64 σ.want.n,.int .i64 σ.want.en,.int .u64 σ.want.first,.int .u64 σ.want.fin,.int .i64 σ.want.at_,.int .i64 σ.want.size,.int .i64 (σ.foot:Int),vo]:=HA6.out.blk
     obtain⟨y0,y1,y2,y3,y4,y5,y6,y7,y8,y9,y10,y11,y12,y13,y14,y15,y16,y17,y18,ly⟩:=Bo hB6
     obtain⟨z0,z1,z2,z3,z4,z5,z6,z7,z8,z9,z10,z11,z12,z13,z14,z15,z16,z17,z18⟩:=Cw hB6
     obtain⟨x0,x1,x2,lx⟩:=E5 HB6.out
     have SK:=hid (fun (w':World) (h1:Blk w' g 83 #[nxF σ.ph,v,.int .i64 (σ.first:Int),.int .i64 (σ.fed:Int),.int .i64 σ.ended,.int .u64 σ.ep,.int .u64 L.e,.int .u64 L.b,.slice L.a L.n L.c,.slice a8 (σ.M.length+1) c8,.int .u64 σ.want.ep,.int .i64 σ.want.n,.int .i64 σ.want.en,.int .u64 σ.want.first,.int .u64 σ.want.fin,.int .i64 σ.want.at_,.int .i64 σ.want.size,.int .i64 (σ.foot:Int),vo]) (h2:Blk w' gb 48 #[.int .u64 x.epoch,.int .u64 x.base,.slice a1 x.entries.length c1])=>(⟨h2.cell 0,h2.cell 1,h2.cell 2⟩:w'.cell? ⟨gb,0,none⟩=some (.int .u64 x.epoch)∧w'.cell? ⟨gb,1,none⟩=some (.int .u64 x.base)∧w'.cell? ⟨gb,2,none⟩=some (.slice a1 x.entries.length c1)))
     have hB6b:Blk W6 gb 48 #[.int .u64 x.epoch,.int .u64 x.base,.slice a1 x.entries.length c1]:=HB6.out
     have hPd:=hB6.drew
     have hBd:=hB6b.drew
     refine BQ (fun w'=>w'.cell? ⟨gb,0,none⟩=some (.int .u64 x.epoch)∧w'.cell? ⟨gb,1,none⟩=some (.int .u64 x.base)∧w'.cell? ⟨gb,2,none⟩=some (.slice a1 x.entries.length c1)) _ zJ rfl zJ ⟨x0,x1,x2⟩ (fun hHeld=> ?_)
     simp only[BD,FG]
     refine Aq (i:=0) (oi:=_) (v:=?_) rfl zF zF zF (fun _ _ _ h=>h) (Or.inl ⟨zR,?_⟩) zK ?_
     rotate_left
     ·(intro w hSw;(try dsimp only at hSw);go_simp<;>with_reducible rfl)
     (try simp only[Act.put,Aa,Ab,Ac])
     (try simp only[Ak,Ah,Af,Act.put,Aa,Ab,Ac])
     refine Aq (i:=1) (oi:=_) (v:=?_) rfl zF zF zF (fun _ _ _ h=>h) (Or.inl ⟨zR,?_⟩) zK ?_
     rotate_left
     ·(intro w hSw;(try dsimp only at hSw);go_simp<;>with_reducible rfl)
     (try simp only[Act.put,Aa,Ab,Ac])
     (try simp only[Ak,Ah,Af,Act.put,Aa,Ab,Ac])
     refine Aq (i:=2) (oi:=_) (v:=?_) rfl zF zF zF (fun _ _ _ h=>h) (Or.inl ⟨zR,?_⟩) zK ?_
     rotate_left
     ·(intro w hSw;(try dsimp only at hSw);go_simp<;>with_reducible rfl)
     (try simp only[Act.put,Aa,Ab,Ac])
     (try simp only[Ak,Ah,Af,Act.put,Aa,Ab,Ac])
     refine Aq (i:=3) (oi:=_) (v:=?_) rfl zF zF zF (fun _ _ _ h=>h) (Or.inl ⟨zR,?_⟩) zK ?_
     rotate_left
     ·(intro w hSw;(try dsimp only at hSw);go_simp<;>with_reducible rfl)
     (try simp only[Act.put,Aa,Ab,Ac])
     (try simp only[Ak,Ah,Af,Act.put,Aa,Ab,Ac])
     refine Aq (i:=4) (oi:=_) (v:=?_) rfl zF zF zF (fun _ _ _ h=>h) (Or.inl ⟨zR,?_⟩) zK ?_
     rotate_left
     ·(intro w hSw;(try dsimp only at hSw);go_simp<;>with_reducible rfl)
     (try simp only[Act.put,Aa,Ab,Ac])
     (try simp only[Ak,Ah,Af,Act.put,Aa,Ab,Ac])
     refine Aq (i:=5) (oi:=_) (v:=?_) rfl zF zF zF (fun _ _ _ h=>h) (Or.inl ⟨zR,?_⟩) zK ?_
     rotate_left
     ·(intro w hSw;(try dsimp only at hSw);go_simp<;>with_reducible rfl)
     (try simp only[Act.put,Aa,Ab,Ac])
     (try simp only[Ak,Ah,Af,Act.put,Aa,Ab,Ac])
     refine Aq (i:=6) (oi:=_) (v:=?_) rfl zF zF zF (fun _ _ _ h=>h) (Or.inl ⟨zR,?_⟩) zK ?_
     rotate_left
     ·(intro w hSw;(try dsimp only at hSw);go_simp<;>with_reducible rfl)
     (try simp only[Act.put,Aa,Ab,Ac])
     (try simp only[Ak,Ah,Af,Act.put,Aa,Ab,Ac])
     refine Aq (i:=7) (oi:=_) (v:=?_) rfl zF zF zF (fun _ _ _ h=>h) (Or.inl ⟨zR,?_⟩) zK ?_
     rotate_left
     ·(intro w hSw;(try dsimp only at hSw);go_simp<;>with_reducible rfl)
     (try simp only[Act.put,Aa,Ab,Ac])
     (try simp only[Ak,Ah,Af,Act.put,Aa,Ab,Ac])
     refine Bk (rs:=[8]) zF zM ?_
     refine Ba (o:=_) rfl (fun K hK=> ?_) AllReadyH.nil
     go_simp
     refine hK.out _ _ ?_ (fun hHeld=> ?_)
     ·((try dsimp only);refine SK.out _ ?_ ?_<;>(repeat (first | with_reducible assumption | with_reducible refine Blk.drew ?_ | with_reducible refine Blk.alloc ?_ _ | with_reducible refine Blk.far ?_ zH _)))
     clear hK K
     (try simp only[Act.put,Aa,Ab,Ac])
     (try simp only[Ak,Ah,Af,Act.put,Aa,Ab,Ac])
     refine Aq (i:=9) (oi:=_) (v:=?_) rfl zF zF zF (fun _ _ _ h=>h) (Or.inl ⟨zR,?_⟩) zK ?_
     rotate_left
     ·(intro w hSw;(try dsimp only at hSw);go_simp<;>with_reducible rfl)
     (try simp only[Act.put,Aa,Ab,Ac])
     (try simp only[Ak,Ah,Af,Act.put,Aa,Ab,Ac])
     refine Aq (i:=10) (oi:=_) (v:=?_) rfl zF zF zF (fun _ _ _ h=>h) (Or.inl ⟨zR,?_⟩) zK ?_
     rotate_left
     ·(intro w hSw;(try dsimp only at hSw);go_simp<;>with_reducible rfl)
     (try simp only[Act.put,Aa,Ab,Ac])
     (try simp only[Ak,Ah,Af,Act.put,Aa,Ab,Ac])
     refine Aq (i:=11) (oi:=_) (v:=?_) rfl zF zF zF (fun _ _ _ h=>h) (Or.inl ⟨zR,?_⟩) zK ?_
     rotate_left
     ·(intro w hSw;(try dsimp only at hSw);go_simp<;>with_reducible rfl)
     (try simp only[Act.put,Aa,Ab,Ac])
     (try simp only[Ak,Ah,Af,Act.put,Aa,Ab,Ac])
     refine Aq (i:=12) (oi:=_) (v:=?_) rfl zF zF zF (fun _ _ _ h=>h) (Or.inl ⟨zR,?_⟩) zK ?_
     rotate_left
     ·(intro w hSw;(try dsimp only at hSw);go_simp<;>with_reducible rfl)
     (try simp only[Act.put,Aa,Ab,Ac])
     (try simp only[Ak,Ah,Af,Act.put,Aa,Ab,Ac])
     refine FP zJ ?_ _
     show wpList _ _ _ _ _ _
     have hb67:Below (((W6.setCell ⟨g,6,none⟩ (.int .u64 x.epoch)).setCell ⟨g,7,none⟩ (.int .u64 x.base)).setCell ⟨g,8,none⟩ (.slice (some ⟨W6.heap.size,0,none⟩) x.entries.length x.entries.length)).heap.size (((W6.setCell ⟨g,6,none⟩ (.int .u64 x.epoch)).setCell ⟨g,7,none⟩ (.int .u64 x.base)).setCell ⟨g,8,none⟩ (.slice (some ⟨W6.heap.size,0,none⟩) x.entries.length x.entries.length)) (((((W6.setCell ⟨g,6,none⟩ (.int .u64 x.epoch)).setCell ⟨g,7,none⟩ (.int .u64 x.base)).setCell ⟨g,8,none⟩ (.slice (some ⟨W6.heap.size,0,none⟩) x.entries.length x.entries.length)).alloc (.cells (madeCells #[.slice none 0 0,.slice none 0 0] (x.entries.length*2)) 180)).drew):=zA
     have HA7:=hid ((HA6.out.XU x (some ⟨W6.heap.size,0,none⟩) x.entries.length).later hb67)
     have HB7:=hid ((((HB6.out.far (p:=⟨g,6,none⟩) zH (.int .u64 x.epoch)).far (p:=⟨g,7,none⟩) zH (.int .u64 x.base)).far (p:=⟨g,8,none⟩) zH (.slice (some ⟨W6.heap.size,0,none⟩) x.entries.length x.entries.length)).later hb67)
     have HT7:=hid ((((HT6.out.setCell (p:=⟨g,6,none⟩) (fun _=> .inl rfl) (.int .u64 x.epoch)).setCell (p:=⟨g,7,none⟩) (fun _=> .inl rfl) (.int .u64 x.base)).setCell (p:=⟨g,8,none⟩) (fun _=> .inl rfl) (.slice (some ⟨W6.heap.size,0,none⟩) x.entries.length x.entries.length)).trans (Tch.AW (F:=fun _=>False) hb67) (fun _ _ e=>e.elim))
     have hs7:(((((W6.setCell ⟨g,6,none⟩ (.int .u64 x.epoch)).setCell ⟨g,7,none⟩ (.int .u64 x.base)).setCell ⟨g,8,none⟩ (.slice (some ⟨W6.heap.size,0,none⟩) x.entries.length x.entries.length)).alloc (.cells (madeCells #[.slice none 0 0,.slice none 0 0] (x.entries.length*2)) 180)).drew).heap.size=W6.heap.size+1:=zU
     have hs7c:(((W6.setCell ⟨g,6,none⟩ (.int .u64 x.epoch)).setCell ⟨g,7,none⟩ (.int .u64 x.base)).setCell ⟨g,8,none⟩ (.slice (some ⟨W6.heap.size,0,none⟩) x.entries.length x.entries.length)).heap.size=W6.heap.size:=zU
     have HK7:Hid (∀b,b<W5.heap.size→b≠g→(Value.slice aM σ.M.length cM).ownBlock≠some b→(((((W6.setCell ⟨g,6,none⟩ (.int .u64 x.epoch)).setCell ⟨g,7,none⟩ (.int .u64 x.base)).setCell ⟨g,8,none⟩ (.slice (some ⟨W6.heap.size,0,none⟩) x.entries.length x.entries.length)).alloc (.cells (madeCells #[.slice none 0 0,.slice none 0 0] (x.entries.length*2)) 180)).drew).heap[b]? =W5.heap[b]?):=hid fun b h1 h2 h3=>by
      rw[hb67.block b zC,At _ _ _ _ zH,At _ _ _ _ zH,At _ _ _ _ zH]
      exact HK6.out b h1 h2 h3
     go_upto_region 12 with (fail)
     clear y0 y1 y2 y3 y4 y5 y6 y7 y8 y9 y10 y11 y12 y13 y14 y15 y16 y17 y18 ly z0 z1 z2 z3 z4 z5 z6 z7 z8 z9 z10 z11 z12 z13 z14 z15 z16 z17 z18 x0 x1 x2 lx hPd hBd SK hHeld hB6 hB6b hmk hb67 hs7c
     generalize (((((W6.setCell ⟨g,6,none⟩ (.int .u64 x.epoch)).setCell ⟨g,7,none⟩ (.int .u64 x.base)).setCell ⟨g,8,none⟩ (.slice (some ⟨W6.heap.size,0,none⟩) x.entries.length x.entries.length)).alloc (.cells (madeCells #[.slice none 0 0,.slice none 0 0] (x.entries.length*2)) 180)).drew)=W7 at*
     have hz7:W6.heap.size<W7.heap.size:=zC
     clear hs7
     have HA7:=hid (HA7.out.up (D':=fun q=>D q∨(gp<q∧q<W7.heap.size)) (fun q e=>e.elim .inl fun e=> .inr ⟨e.1,zV⟩) (fun q e=>by {rcases e with e | e;{have:=hDT q e;omega};{exact e.2}}))
     have hoo:∀q,vo.ownBlock=some q→D q:=fun q e=>(HOQ.out q e).2
     obtain⟨cells,hcO⟩:∃cs,AY (fun q=>g+1≤q∧(D q∨(gp<q∧q<W7.heap.size))∧v.ownBlock≠some q∧(Value.slice a8 (σ.M.length+1) c8).ownBlock≠some q) IV (g+1) 50 20 W7 vo E cs:=HA7.out.out
     obtain⟨aO,cO,rfl⟩:=AV hcO.1
     have HCO:=hid hcO
     have HOO:=hid hoo
     have HOE:=hid (fun (V:World) (hV:Below W7.heap.size W7 V)=>Bz hcO.1 hV)
     clear hcO hoo
     have hB7:Blk W7 g 83 #[nxF σ.ph,v,.int .i64 (σ.first:Int),.int .i64 (σ.fed:Int),.int .i64 σ.ended,.int .u64 σ.ep,.int .u64 (C7.mk x.epoch x.base (some ⟨W6.heap.size,0,none⟩) x.entries.length x.entries.length).e,.int .u64 (C7.mk x.epoch x.base (some ⟨W6.heap.size,0,none⟩) x.entries.length x.entries.length).b,.slice (C7.mk x.epoch x.base (some ⟨W6.heap.size,0,none⟩) x.entries.length x.entries.length).a (C7.mk x.epoch x.base (some ⟨W6.heap.size,0,none⟩) x.entries.length x.entries.length).n (C7.mk x.epoch x.base (some ⟨W6.heap.size,0,none⟩) x.entries.length x.entries.length).c,.slice a8 (σ.M.length+1) c8,.int .u64 σ.want.ep,.int .i64 σ.want.n,.int .i64 σ.want.en,.int .u64 σ.want.first,.int .u64 σ.want.fin,.int .i64 σ.want.at_,.int .i64 σ.want.size,.int .i64 (σ.foot:Int),.slice aO E.length cO]:=HA7.out.blk
     obtain⟨y0,y1,y2,y3,y4,y5,y6,y7,y8,y9,y10,y11,y12,y13,y14,y15,y16,y17,y18,ly⟩:=Bo hB7
     obtain⟨z0,z1,z2,z3,z4,z5,z6,z7,z8,z9,z10,z11,z12,z13,z14,z15,z16,z17,z18⟩:=Cw hB7
     obtain⟨x0,x1,x2,lx⟩:=E5 HB7.out
     have SK:=hid (fun (w':World) (h1:Blk w' g 83 #[nxF σ.ph,v,.int .i64 (σ.first:Int),.int .i64 (σ.fed:Int),.int .i64 σ.ended,.int .u64 σ.ep,.int .u64 (C7.mk x.epoch x.base (some ⟨W6.heap.size,0,none⟩) x.entries.length x.entries.length).e,.int .u64 (C7.mk x.epoch x.base (some ⟨W6.heap.size,0,none⟩) x.entries.length x.entries.length).b,.slice (C7.mk x.epoch x.base (some ⟨W6.heap.size,0,none⟩) x.entries.length x.entries.length).a (C7.mk x.epoch x.base (some ⟨W6.heap.size,0,none⟩) x.entries.length x.entries.length).n (C7.mk x.epoch x.base (some ⟨W6.heap.size,0,none⟩) x.entries.length x.entries.length).c,.slice a8 (σ.M.length+1) c8,.int .u64 σ.want.ep,.int .i64 σ.want.n,.int .i64 σ.want.en,.int .u64 σ.want.first,.int .u64 σ.want.fin,.int .i64 σ.want.at_,.int .i64 σ.want.size,.int .i64 (σ.foot:Int),.slice aO E.length cO]) (h2:Blk w' gb 48 #[.int .u64 x.epoch,.int .u64 x.base,.slice a1 x.entries.length c1])=>(⟨h1.cell 18,h1.cell 2,h2.cell 0,h2.cell 1,h2.cell 2⟩:w'.cell? ⟨g,18,none⟩=some (.slice aO E.length cO)∧w'.cell? ⟨g,2,none⟩=some (.int .i64 (σ.first:Int))∧w'.cell? ⟨gb,0,none⟩=some (.int .u64 x.epoch)∧w'.cell? ⟨gb,1,none⟩=some (.int .u64 x.base)∧w'.cell? ⟨gb,2,none⟩=some (.slice a1 x.entries.length c1)))
     have hB7b:Blk W7 gb 48 #[.int .u64 x.epoch,.int .u64 x.base,.slice a1 x.entries.length c1]:=HB7.out
     have hPd:=hB7.drew
     have hBd:=hB7b.drew
     have HBE7:=hid (Br.keep HBE5.out (w':=W7) fun q e=>HK7.out q zV zX (fun e2=>by have:=hDT _ (HMQ.out q e2).2;have:=e.1;omega))
     refine BQ (fun w'=>w'.cell? ⟨g,18,none⟩=some (.slice aO E.length cO)∧w'.cell? ⟨g,2,none⟩=some (.int .i64 (σ.first:Int))∧w'.cell? ⟨gb,0,none⟩=some (.int .u64 x.epoch)∧w'.cell? ⟨gb,1,none⟩=some (.int .u64 x.base)∧w'.cell? ⟨gb,2,none⟩=some (.slice a1 x.entries.length c1)) _ zJ rfl zJ ⟨y18,y2,x0,x1,x2⟩ (fun hHeld=> ?_)
     simp only[BD,FG]
     refine Aq (i:=0) (oi:=_) (v:=?_) rfl zF zF zF (fun _ _ _ h=>h) (Or.inl ⟨zR,?_⟩) zK ?_
     rotate_left
     ·(intro w hSw;(try dsimp only at hSw);go_simp<;>with_reducible rfl)
     (try simp only[Act.put,Aa,Ab,Ac])
     (try simp only[Ak,Ah,Af,Act.put,Aa,Ab,Ac])
     refine Aq (i:=1) (oi:=_) (v:=?_) rfl zF zF zF (fun _ _ _ h=>h) (Or.inl ⟨zR,?_⟩) zK ?_
     rotate_left
     ·(intro w hSw;(try dsimp only at hSw);go_simp<;>with_reducible rfl)
     (try simp only[Act.put,Aa,Ab,Ac])
     (try simp only[Ak,Ah,Af,Act.put,Aa,Ab,Ac])
     refine Aq (i:=2) (oi:=_) (v:=?_) rfl zF zF zF (fun _ _ _ h=>h) (Or.inl ⟨zR,?_⟩) zK ?_
     rotate_left
     ·(intro w hSw;(try dsimp only at hSw);go_simp<;>with_reducible rfl)
     (try simp only[Act.put,Aa,Ab,Ac])
     (try simp only[Ak,Ah,Af,Act.put,Aa,Ab,Ac])
     refine Aq (i:=3) (oi:=_) (v:=?_) rfl zF zF zF (fun _ _ _ h=>h) (Or.inl ⟨zR,?_⟩) zK ?_
     rotate_left
     ·(intro w hSw;(try dsimp only at hSw);go_simp<;>with_reducible rfl)
     (try simp only[Act.put,Aa,Ab,Ac])
     (try simp only[Ak,Ah,Af,Act.put,Aa,Ab,Ac])
     refine Aq (i:=4) (oi:=_) (v:=?_) rfl zF zF zF (fun _ _ _ h=>h) (Or.inl ⟨zR,?_⟩) zK ?_
     rotate_left
     ·(intro w hSw;(try dsimp only at hSw);go_simp<;>with_reducible rfl)
     (try simp only[Act.put,Aa,Ab,Ac])
     (try simp only[Ak,Ah,Af,Act.put,Aa,Ab,Ac])
     refine Aq (i:=5) (oi:=_) (v:=?_) rfl zF zF zF (fun _ _ _ h=>h) (Or.inl ⟨zR,?_⟩) zK ?_
     rotate_left
     ·(intro w hSw;(try dsimp only at hSw);go_simp<;>with_reducible rfl)
     (try simp only[Act.put,Aa,Ab,Ac])
     (try simp only[Ak,Ah,Af,Act.put,Aa,Ab,Ac])
     refine Aq (i:=6) (oi:=_) (v:=?_) rfl zF zF zF (fun _ _ _ h=>h) (Or.inl ⟨zR,?_⟩) zK ?_
     rotate_left
     ·(intro w hSw;(try dsimp only at hSw);go_simp<;>with_reducible rfl)
     (try simp only[Act.put,Aa,Ab,Ac])
     (try simp only[Ak,Ah,Af,Act.put,Aa,Ab,Ac])
     refine Aq (i:=7) (oi:=_) (v:=?_) rfl zF zF zF (fun _ _ _ h=>h) (Or.inl ⟨zR,?_⟩) zK ?_
     rotate_left
     ·(intro w hSw;(try dsimp only at hSw);go_simp<;>with_reducible rfl)
     (try simp only[Act.put,Aa,Ab,Ac])
     (try simp only[Ak,Ah,Af,Act.put,Aa,Ab,Ac])
     refine Aq (i:=8) (oi:=_) (v:=?_) rfl zF zF zF (fun _ _ _ h=>h) (Or.inl ⟨zR,?_⟩) zK ?_
     rotate_left
     ·(intro w hSw;(try dsimp only at hSw);go_simp<;>with_reducible rfl)
     (try simp only[Act.put,Aa,Ab,Ac])
     (try simp only[Ak,Ah,Af,Act.put,Aa,Ab,Ac])
     refine Aq (i:=9) (oi:=_) (v:=?_) rfl zF zF zF (fun _ _ _ h=>h) (Or.inl ⟨zR,?_⟩) zK ?_
     rotate_left
     ·(intro w hSw;(try dsimp only at hSw);go_simp<;>with_reducible rfl)
     (try simp only[Act.put,Aa,Ab,Ac])
     (try simp only[Ak,Ah,Af,Act.put,Aa,Ab,Ac])
     refine Aq (i:=10) (oi:=_) (v:=?_) rfl zF zF zF (fun _ _ _ h=>h) (Or.inl ⟨zR,?_⟩) zK ?_
     rotate_left
     ·(intro w hSw;(try dsimp only at hSw);go_simp<;>with_reducible rfl)
     (try simp only[Act.put,Aa,Ab,Ac])
     (try simp only[Ak,Ah,Af,Act.put,Aa,Ab,Ac])
     refine Bk (rs:=[11]) zF zM ?_
     refine Ba (o:=_) rfl (fun K hK=> ?_) AllReadyH.nil
     go_simp
     refine hK.out _ _ ?_ (fun hHeld=> ?_)
     ·((try dsimp only);refine SK.out _ ?_ ?_<;>(repeat (first | with_reducible assumption | with_reducible refine Blk.drew ?_ | with_reducible refine Blk.alloc ?_ _ | with_reducible refine Blk.far ?_ zH _)))
     clear hK K
     (try simp only[Act.put,Aa,Ab,Ac])
     (try simp only[Ak,Ah,Af,Act.put,Aa,Ab,Ac])
     refine Bk (rs:=[12]) zF zM ?_
     refine Ba (o:=_) rfl (fun K hK=> ?_) AllReadyH.nil
     (refine CL zR _ _ _ zR (g+1) 50 i0 (.agg #[.int .i64 0,.int .i64 0,.int .i64 0,.int .i64 0,.int .u64 0,.int .u64 0,.int .u64 0,.int .i64 0,.int .i64 0,.slice none 0 0,.slice none 0 0,.slice none 0 0,.int .u64 0,.int .u64 0,.int .u64 0,.int .u64 0,.slice none 0 0,.int .u64 0,.int .u64 0,.slice none 0 0]) 20 240 Tryz.underlying25 hi iz0 iz1 iz2 rfl zL (.slice aO E.length cO) E.length cells.flatten zR (HOE.out _ zB) (some ⟨W7.heap.size,0,none⟩) 1 1 (CJ (EvB.x (evB σ.first x)) none 0 none 0 none 0 none 0 a1 c1) zR (BU W7.drew 50 _ zR zM rfl) Qx zO zC zI ?_;intro a9 c9 w9 hown9 hgrow9 hat9;have hg9:W7.heap.size+1≤w9.heap.size:=(by have h0:=hgrow9.size;simpa using h0);have HV7:=hid (HA7.out.later (show Below W7.heap.size W7 (W7.drew.alloc (.cells (CJ (EvB.x (evB σ.first x)) none 0 none 0 none 0 none 0 a1 c1).toArray 50)) by (repeat (first | with_reducible exact Below.refl _ _ | with_reducible assumption | (with_reducible refine Aw ?_ _) | (with_reducible refine Below.setCell ?_ zE _) | (with_reducible refine Below.drew ?_) | (with_reducible refine below_drewN ?_ _) | (refine Aj zG ?_)))));have HBV:=hid (HB7.out.later (show Below W7.heap.size W7 (W7.drew.alloc (.cells (CJ (EvB.x (evB σ.first x)) none 0 none 0 none 0 none 0 a1 c1).toArray 50)) by (repeat (first | with_reducible exact Below.refl _ _ | with_reducible assumption | (with_reducible refine Aw ?_ _) | (with_reducible refine Below.setCell ?_ zE _) | (with_reducible refine Below.drew ?_) | (with_reducible refine below_drewN ?_ _) | (refine Aj zG ?_)))));have hPg:=HV7.out.blk.grown hgrow9 (fun e=>by have:=(HV7.out.oq g e.symm).1;omega);have hBg:=HBV.out.grown hgrow9 (fun e=>by have:=hDT _ (HOO.out gb e.symm);omega);have HG9:=hid hgrow9;have hV7z:(W7.drew.alloc (.cells (CJ (EvB.x (evB σ.first x)) none 0 none 0 none 0 none 0 a1 c1).toArray 50)).heap.size=W7.heap.size+1:=zM;have HX7:=hid (show IV.r (fun q=>(g+1≤q∧(D q∨(gp<q∧q<W7.heap.size))∧v.ownBlock≠some q∧(Value.slice a8 (σ.M.length+1) c8).ownBlock≠some q)∧(Value.slice aO E.length cO).ownBlock≠some q) (W7.drew.alloc (.cells (CJ (EvB.x (evB σ.first x)) none 0 none 0 none 0 none 0 a1 c1).toArray 50)) (CJ (EvB.x (evB σ.first x)) none 0 none 0 none 0 none 0 a1 c1) (EvB.x (evB σ.first x)) from IV.mono (Xp ⟨Nc,HXU.out.1,HXU.out.2,Br.keep HBE7.out (w':=W7.drew.alloc (.cells (CJ (EvB.x (evB σ.first x)) none 0 none 0 none 0 none 0 a1 c1).toArray 50)) fun q e=>AN W7.drew _ q (by have:=e.2;show q<W7.heap.size;omega)⟩) fun q e=>⟨⟨zX,.inr ⟨zX,zV⟩,fun e2=>by have:=hDT _ (HVQ.out q e2).2;have:=e.1;omega,fun e2=>by {have h9:=HQ8.out q e2;have:=e.1;have:=e.2;rcases h9 with h9 | h9;{have:=hDT _ (HMQ.out q h9).2;omega};{omega}}⟩,fun e2=>by have:=hDT _ (HOO.out q e2);have:=e.1;omega⟩);have HA8:=hid (HV7.out.tell ((HCO.out.keep (w':=W7.drew.alloc (.cells (CJ (EvB.x (evB σ.first x)) none 0 none 0 none 0 none 0 a1 c1).toArray 50)) (fun b e=>AN W7.drew _ b (by have:=HA7.out.dl b e.2.1;exact this)) (fun q e=>AN W7.drew _ q (by have:=hDT _ (HOO.out q e);show q<W7.heap.size;omega)))) rfl HX7.out hown9 hgrow9 hat9);have HQ9:=hid (show ∀q,(Value.slice a9 (E.length+1) c9).ownBlock=some q→(Value.slice aO E.length cO).ownBlock=some q∨gb<q from fun q e=>Z1);obtain⟨y0,y1,y2,y3,y4,y5,y6,y7,y8,y9,y10,y11,y12,y13,y14,y15,y16,y17,y18,ly⟩:=Bo hPg;obtain⟨z0,z1,z2,z3,z4,z5,z6,z7,z8,z9,z10,z11,z12,z13,z14,z15,z16,z17,z18⟩:=Cw hPg;clear hown9 hgrow9 hat9)
     refine hK.out _ _ ?_ (fun hHeld=> ?_)
     ·((try dsimp only);refine SK.out _ ?_ ?_<;>(repeat (first | with_reducible assumption | with_reducible refine Blk.drew ?_ | with_reducible refine Blk.alloc ?_ _ | with_reducible refine Blk.far ?_ zH _)))
     clear hK K
     (try simp only[Act.put,Aa,Ab,Ac])
     (try simp only[Ak,Ah,Af,Act.put,Aa,Ab,Ac])
     refine Aq (i:=13) (oi:=_) (v:=?_) rfl zF zF zF (fun _ _ _ h=>h) (Or.inl ⟨zR,?_⟩) zK ?_
     rotate_left
     ·(intro w hSw;(try dsimp only at hSw);go_simp<;>with_reducible rfl)
     (try simp only[Act.put,Aa,Ab,Ac])
     (try simp only[Ak,Ah,Af,Act.put,Aa,Ab,Ac])
     refine Aq (i:=14) (oi:=_) (v:=?_) rfl zF zF zF (fun _ _ _ h=>h) (Or.inl ⟨zR,?_⟩) zK ?_
     rotate_left
     ·(intro w hSw;(try dsimp only at hSw);go_simp<;>with_reducible rfl)
     (try simp only[Act.put,Aa,Ab,Ac])
     (try simp only[Ak,Ah,Af,Act.put,Aa,Ab,Ac])
     refine Aq (i:=15) (oi:=_) (v:=?_) rfl zF zF zF (fun _ _ _ h=>h) (Or.inl ⟨zR,?_⟩) zK ?_
     rotate_left
     ·(intro w hSw;(try dsimp only at hSw);go_simp<;>with_reducible rfl)
     (try simp only[Act.put,Aa,Ab,Ac])
     (try simp only[Ak,Ah,Af,Act.put,Aa,Ab,Ac])
     refine FP zJ ?_ _
     show wpList _ _ _ _ _ _
     go_wp2_with fail
     go_ret
     have hs9:(w9.setCell ⟨g,18,none⟩ (.slice a9 (E.length+1) c9)).heap.size=w9.heap.size:=zU
     have HT9:Tch (fun q=>q=g∨q=gp∨(Value.slice aM σ.M.length cM).ownBlock=some q∨(Value.slice aO E.length cO).ownBlock=some q) w (w9.setCell ⟨g,18,none⟩ (.slice a9 (E.length+1) c9)):=Tch.setCell ((((HT7.out.drew).alloc (.cells (CJ (EvB.x (evB σ.first x)) none 0 none 0 none 0 none 0 a1 c1).toArray 50)).trans (Tch.GR HG9.out) fun _ _ e=> .inr (.inr (.inr e)))) (fun _=> .inl rfl) _
     have hK9:∀b,b<W5.heap.size→b≠g→(Value.slice aM σ.M.length cM).ownBlock≠some b→(Value.slice aO E.length cO).ownBlock≠some b→(w9.setCell ⟨g,18,none⟩ (.slice a9 (E.length+1) c9)).heap[b]? =W5.heap[b]? :=fun b h1 h2 h3 h4=>(At _ _ _ _ zH).trans ((HG9.out.block b zI (fun e=>h4 e.symm)).trans ((AN W7.drew _ b (by show b<W7.heap.size;omega)).trans (HK7.out b h1 h2 h3)))
     have hnD:∀b,T≤b→(Value.slice aM σ.M.length cM).ownBlock≠some b∧(Value.slice aO E.length cO).ownBlock≠some b:=fun b hb=>⟨fun e=>by have:=hDT _ (HMQ.out b e).2;omega,fun e=>by have:=hDT _ (HOO.out b e);omega⟩
     have hp:=hnD gp hgp
     rw[HRR.out.2.1,HRR.out.2.2]
     refine⟨zAr,⟨(hK9 gp hgp5 zC hp.1 hp.2).trans HRB.out,Am.mono (Am.keep HPD5.out fun q e=>hK9 q zV zX (hnD q e.1).1 (hnD q e.1).2) (fun q e=>⟨by have:=e.2;rw[hs9];omega,zV⟩),HRO.out⟩,_,_,_,_,HA8.out,fun q e=> ?_,fun q e=> ?_,fun q e=> ?_,HT9⟩
     ·rw[hs9]
      have hs9':W7.heap.size≤w9.heap.size:=zC
      rcases e with e | e
      ·rcases e with e | e
       ·exact .inl e
       ·exact .inr ⟨e.1,zV⟩
      ·refine .inr ⟨?_,e.2⟩
       have h7:(W7.drew.alloc (.cells (CJ (EvB.x (evB σ.first x)) none 0 none 0 none 0 none 0 a1 c1).toArray 50)).heap.size=W7.heap.size+1:=zM
       have:=e.1
       omega
     ·rcases HQ8.out q e with e | e
      ·exact .inl e
      ·exact .inr zC
     ·rcases HQ9.out q e with e | e
      ·exact .inl e
      ·exact .inr zC
 ·rw[Ae hk2] at HGD
  have hbt:IK σ t2 x=(0,σ,[]):=Ag hk2
  have HRR:=Uj (HR9.out.trans hbt)
  clear hk2 hbt HR9
  go_wp2_with fail
  refine (HGD.out _ HI3.out.rd).mono ?_
  rintro r w4 ⟨rfl,hb4⟩
  have HI4:=hid (HI3.out.later hb4)
  go_wp2_with fail
  go_ret
  exact⟨zAr,HI4.out.rd,D,vm,vo,L,zA4,fun q e=> .inl e,DG.refl,DG.refl,HI4.out.tc.mono fun _ _ e=> .inr (.inl e)⟩
def KS(σ:FSt)(e:Rs)(l:List AP):Int × FSt:=
 if e.k≠0 then (0,σ) else if l≠σ.M then (12,σ) else (0,{σ with ph:=2,want:=DE σ.ep σ.M σ.first σ.buf.length})
def AaS(w:World)(g gp:Nat)(D:Nat→Prop)(v vm vo:Value)(P:List UInt8)(ap:Option Addr)(t2:Rs)(L:C7)(E:List EvX)(cd:Int)(σ9:FSt)(r:Ending)(w':World):Prop:=
 r=.returned (.int .i64 cd)∧AS w' gp P ap t2∧By w' g D v vm vo L σ9 E∧Tch (fun q=>q=g∨q=gp) w w'
theorem WZ{a b:Int}{s t:FSt}(h:(a,s)=(b,t)):Hid (a=b∧s=t):=by
 simp only[BF] at h
 exact hid h
set_option maxHeartbeats 12800000 in
theorem TC(w:World){g T:Nat}{D:Nat→Prop}{v vm vo:Value}{L:C7}{σ:FSt}{E:List EvX}(h:By w g D v vm vo L σ E)(hDT:∀q,D q→q<T)(hgT:g<T)(hok:FOk σ)(hfe:σ.fed≤1000000000){gp:Nat}{P:List UInt8}{ap:Option Addr}(hgp:T≤gp)(hp:AS w gp P ap ⟨1,0,0⟩)(hPl:P.length≤1000000000)(hpd:Am.r (fun q=>T≤q∧q<gp) w [.slice ap P.length P.length] P){t1:Rs}{l:List AP}(hm:(⟨1,0,0⟩:Rs).Cr P=(t1,l)):
  Calls Tryz.prog 231 #[.pointer (some ⟨g,0,none⟩),.pointer (some ⟨gp,0,none⟩)] w fun r w'=>AaS w g gp D v vm vo P ap (t1.fin P.length) L E (KS σ (t1.fin P.length) l).1 (KS σ (t1.fin P.length) l).2 r w':=by
 have hpk:=hp.ok
 have HC:=hid (Tp w hp hPl)
 have hmc:=Rs.Ma (B:=P) (s:=⟨1,0,0⟩) hpk
 rw[hm] at HC hmc
 dsimp only at HC hmc
 have hmR:(t1.fin P.length).k=0→Cs l=true:=fun e=>(hmc (Ut e).1).1
 have HH:=hid h
 have hgpl:=hp.blk.lt
 have HPD:=hid hpd
 have HEN:=hid (fun (V:World) (hV:AS V gp P ap t1)=>SV V hV)
 have hz0:σ.first≤1000000000:=ZM
 have hzb:σ.buf.length≤1000000000:=ZM
 have hml:σ.M.length≤16:=by rw[←hok.lm];exact hok.l16
 generalize hte:t1.fin P.length=t2 at*
 have HGD:=hid (fun (V:World) (hV:AS V gp P ap t2)=>AK V hV)
 have HMR:=hid hmR
 obtain⟨R9,hR9⟩:∃R9,R9=KS σ t2 l:=⟨_,rfl⟩
 rw[←hR9]
 obtain⟨cd,σ9⟩:=R9
 have HR9:=hid hR9
 dsimp only
 clear h hp hm hte hpk hpd hmc hmR hR9
 go_enter Tryz.func231,Tryz.ntmps231
 go_wp2_with fail
 refine HC.out.mono ?_
 rintro r w1 ⟨v1,rfl,hr1,hst1⟩
 obtain⟨a1,c1,hfv,hr1',hel⟩:=AH hr1
 simp only[Av,AI] at hfv
 subst hfv
 have hz1:=hst1.2.size
 have HA1:=hid (HH.out.side hst1.2 zAk (fun b h1 h2 h3 e=>zA0))
 have HP1:=hid hst1.1
 have HT1:=hid hst1.2
 have HL1:=hid hr1'
 clear hr1 hr1' hst1 HC HH
 go_wp2_with fail
 refine (HEN.out _ HP1.out).mono ?_
 rintro r w2 ⟨rfl,hst2⟩
 have hz2:=hst2.2.size
 have HA2:=hid (HA1.out.side hst2.2 zAk (fun b h1 h2 h3 e=>zA0))
 have HP2:=hid hst2.1
 have HT2:=hid (HT1.out.trans hst2.2 fun _ _ e=>e)
 have HL2:=hid (Bw.keep HL1.out (w':=w2) fun q e=>hst2.2.block q e.2 zX)
 have hz1':=hz1
 clear hst2 HA1 HP1 HT1 HL1 HEN
 by_cases hk2:t2.k=0
 ·rw[Ad hk2] at HGD
  have hbt:KS σ t2 l=(if l≠σ.M then (12,σ) else (0,{σ with ph:=2,want:=DE σ.ep σ.M σ.first σ.buf.length})):=Ai (fun e=>e hk2)
  have HRR:=hid (HMR.out hk2)
  have HBT:=hid (HR9.out.trans hbt)
  clear hk2 hbt HMR HR9
  go_wp2_with fail
  refine (HGD.out _ HP2.out).mono ?_
  rintro r w3 ⟨rfl,hb3⟩
  have HA3:=hid (HA2.out.later hb3)
  have HP3:=hid (HP2.out.later hb3)
  have HT3:=hid (HT2.out.trans (Tch.AW (F:=fun _=>False) hb3) fun _ _ e=>e.elim)
  have HL3b:=hid (Bw.keep HL2.out (w':=w3) fun q e=>hb3.block q zV)
  have HL3:=hid (Bw.mono (Bw.keep HL2.out (w':=w3) fun q e=>hb3.block q zV) (S':=(·<w3.heap.size)) fun q e=>by have:=e.2;have:=hb3.size;omega)
  have hz3:=hb3.size
  clear hb3 HA2 HP2 HT2 HL2 HGD
  obtain⟨aM,cM,rfl⟩:=AV HA3.out.mks.own
  have HSM:=hid (To l σ.M a1 aM _ c1 _ cM w3 HL3.out (Bw.mono HA3.out.mks.read fun q e=>e.2))
  obtain⟨y0,y1,y2,y3,y4,y5,y6,y7,y8,y9,y10,y11,y12,y13,y14,y15,y16,y17,y18,ly⟩:=Bo HA3.out.blk
  by_cases hls:l=σ.M
  ·have HRI:=WZ (HBT.out.trans (Ai (fun e=>e hls)))
   rw[Ad hls] at HSM
   have HIE:=hid (fun (V:World) (hV:Bw.r (·<V.heap.size) V [.slice a1 l.length c1] l)=>JX V l a1 _ c1 hV HRR.out)
   have HID:=hid (fun (V:World) (hV:Bw.r (·<V.heap.size) V [.slice a1 l.length c1] l)=>Nu V l a1 _ c1 hV HRR.out)
   subst hls
   clear HRR
   go_wp2_with fail
   refine HSM.out.mono ?_
   rintro r w4 ⟨rfl,hb4⟩
   have HA4:=hid (HA3.out.later hb4)
   have HP4:=hid (HP3.out.later hb4)
   have HT4:=hid (HT3.out.trans (Tch.AW (F:=fun _=>False) hb4) fun _ _ e=>e.elim)
   have HL4:=hid (Bw.keep HL3b.out (w':=w4) fun q e=>hb4.block q zV)
   have hz34:=hb4.size
   clear hb4 HA3 HP3 HT3 HL3 HL3b HSM y0 y1 y2 y3 y4 y5 y6 y7 y8 y9 y10 y11 y12 y13 y14 y15 y16 y17 y18 ly
   obtain⟨aJ,cJ,rfl⟩:=HA4.out.buf.form
   obtain⟨y0,y1,y2,y3,y4,y5,y6,y7,y8,y9,y10,y11,y12,y13,y14,y15,y16,y17,y18,ly⟩:=Bo HA4.out.blk
   obtain⟨z0,z1,z2,z3,z4,z5,z6,z7,z8,z9,z10,z11,z12,z13,z14,z15,z16,z17,z18⟩:=Cw HA4.out.blk
   have SK:=hid (fun (w':World) (h:Blk w' g 83 #[nxF σ.ph,.slice aJ σ.buf.length cJ,.int .i64 (σ.first:Int),.int .i64 (σ.fed:Int),.int .i64 σ.ended,.int .u64 σ.ep,.int .u64 L.e,.int .u64 L.b,.slice L.a L.n L.c,.slice aM σ.M.length cM,.int .u64 σ.want.ep,.int .i64 σ.want.n,.int .i64 σ.want.en,.int .u64 σ.want.first,.int .u64 σ.want.fin,.int .i64 σ.want.at_,.int .i64 σ.want.size,.int .i64 (σ.foot:Int),vo])=>(⟨h.cell 5,h.cell 2,h.cell 1⟩:w'.cell? ⟨g,5,none⟩=some (.int .u64 σ.ep)∧w'.cell? ⟨g,2,none⟩=some (.int .i64 (σ.first:Int))∧w'.cell? ⟨g,1,none⟩=some (.slice aJ σ.buf.length cJ)))
   have hP4:Blk w4 g 83 #[nxF σ.ph,.slice aJ σ.buf.length cJ,.int .i64 (σ.first:Int),.int .i64 (σ.fed:Int),.int .i64 σ.ended,.int .u64 σ.ep,.int .u64 L.e,.int .u64 L.b,.slice L.a L.n L.c,.slice aM σ.M.length cM,.int .u64 σ.want.ep,.int .i64 σ.want.n,.int .i64 σ.want.en,.int .u64 σ.want.first,.int .u64 σ.want.fin,.int .i64 σ.want.at_,.int .i64 σ.want.size,.int .i64 (σ.foot:Int),vo]:=HA4.out.blk
   have hPd:Blk w4.drew g 83 #[nxF σ.ph,.slice aJ σ.buf.length cJ,.int .i64 (σ.first:Int),.int .i64 (σ.fed:Int),.int .i64 σ.ended,.int .u64 σ.ep,.int .u64 L.e,.int .u64 L.b,.slice L.a L.n L.c,.slice aM σ.M.length cM,.int .u64 σ.want.ep,.int .i64 σ.want.n,.int .i64 σ.want.en,.int .u64 σ.want.first,.int .u64 σ.want.fin,.int .i64 σ.want.at_,.int .i64 σ.want.size,.int .i64 (σ.foot:Int),vo]:=hP4.drew
   go_upto_region 7 with (fail)
   refine BQ (fun w'=>w'.cell? ⟨g,5,none⟩=some (.int .u64 σ.ep)∧w'.cell? ⟨g,2,none⟩=some (.int .i64 (σ.first:Int))∧w'.cell? ⟨g,1,none⟩=some (.slice aJ σ.buf.length cJ)) _ zJ rfl zJ ⟨y5,y2,y1⟩ (fun hHeld=> ?_)
   simp only[BD,FG]
   refine Aq (i:=0) (oi:=_) (v:=?_) rfl zF zF zF (fun _ _ _ h=>h) (Or.inl ⟨zR,?_⟩) zK ?_
   rotate_left
   ·(intro w hSw;(try dsimp only at hSw);go_simp<;>with_reducible rfl)
   (try simp only[Act.put,Aa,Ab,Ac])
   (try simp only[Ak,Ah,Af,Act.put,Aa,Ab,Ac])
   refine Aq (i:=1) (oi:=_) (v:=?_) rfl zF zF zF (fun _ _ _ h=>h) (Or.inl ⟨zR,?_⟩) zK ?_
   rotate_left
   ·(intro w hSw;(try dsimp only at hSw);go_simp<;>with_reducible rfl)
   (try simp only[Act.put,Aa,Ab,Ac])
   (try simp only[Ak,Ah,Af,Act.put,Aa,Ab,Ac])
   refine Aq (i:=2) (oi:=_) (v:=?_) rfl zF zF zF (fun _ _ _ h=>h) (Or.inl ⟨zR,?_⟩) zK ?_
   rotate_left
   ·(intro w hSw;(try dsimp only at hSw);go_simp<;>with_reducible rfl)
   (try simp only[Act.put,Aa,Ab,Ac])
   (try simp only[Ak,Ah,Af,Act.put,Aa,Ab,Ac])
   refine Aq (i:=3) (oi:=_) (v:=?_) rfl zF zF zF (fun _ _ _ h=>h) (Or.inl ⟨zR,?_⟩) zK ?_
   rotate_left
   ·(intro w hSw;(try dsimp only at hSw);go_simp<;>with_reducible rfl)
   (try simp only[Act.put,Aa,Ab,Ac])
   (try simp only[Ak,Ah,Af,Act.put,Aa,Ab,Ac])
   refine Aq (i:=4) (oi:=_) (v:=?_) rfl zF zF zF (fun _ _ _ h=>h) (Or.inl ⟨zR,?_⟩) zK ?_
   rotate_left
   ·(intro w hSw;(try dsimp only at hSw);go_simp<;>with_reducible rfl)
   (try simp only[Act.put,Aa,Ab,Ac])
   (try simp only[Ak,Ah,Af,Act.put,Aa,Ab,Ac])
   refine Aq (i:=5) (oi:=_) (v:=?_) rfl zF zF zF (fun _ _ _ h=>h) (Or.inl ⟨zR,?_⟩) zK ?_
   rotate_left
   ·(intro w hSw;(try dsimp only at hSw);go_simp<;>with_reducible rfl)
   (try simp only[Act.put,Aa,Ab,Ac])
   (try simp only[Ak,Ah,Af,Act.put,Aa,Ab,Ac])
   refine Aq (i:=6) (oi:=_) (v:=?_) rfl zF zF zF (fun _ _ _ h=>h) (Or.inl ⟨zR,?_⟩) zK ?_
   rotate_left
   ·(intro w hSw;(try dsimp only at hSw);go_simp<;>with_reducible rfl)
   (try simp only[Act.put,Aa,Ab,Ac])
   (try simp only[Ak,Ah,Af,Act.put,Aa,Ab,Ac])
   refine Aq (i:=7) (oi:=_) (v:=?_) rfl zF zF zF (fun _ _ _ h=>h) (Or.inl ⟨zR,?_⟩) zK ?_
   rotate_left
   ·(intro w hSw;(try dsimp only at hSw);go_simp<;>with_reducible rfl)
   (try simp only[Act.put,Aa,Ab,Ac])
   (try simp only[Ak,Ah,Af,Act.put,Aa,Ab,Ac])
   refine Aq (i:=9) (oi:=_) (v:=?_) rfl zF zF zF (fun _ _ _ h=>h) (Or.inl ⟨zR,?_⟩) zK ?_
   rotate_left
   ·(intro w hSw;(try dsimp only at hSw);go_simp<;>with_reducible rfl)
   (try simp only[Act.put,Aa,Ab,Ac])
   (try simp only[Ak,Ah,Af,Act.put,Aa,Ab,Ac])
   refine Aq (i:=10) (oi:=_) (v:=?_) rfl zF zF zF (fun _ _ _ h=>h) (Or.inl ⟨zR,?_⟩) zK ?_
   rotate_left
   ·(intro w hSw;(try dsimp only at hSw);go_simp<;>with_reducible rfl)
   (try simp only[Act.put,Aa,Ab,Ac])
   (try simp only[Ak,Ah,Af,Act.put,Aa,Ab,Ac])
   refine Aq (i:=11) (oi:=_) (v:=?_) rfl zF zF zF (fun _ _ _ h=>h) (Or.inl ⟨zR,?_⟩) zK ?_
   rotate_left
   ·(intro w hSw;(try dsimp only at hSw);go_simp<;>with_reducible rfl)
   (try simp only[Act.put,Aa,Ab,Ac])
   (try simp only[Ak,Ah,Af,Act.put,Aa,Ab,Ac])
   refine Aq (i:=12) (oi:=_) (v:=?_) rfl zF zF zF (fun _ _ _ h=>h) (Or.inl ⟨zR,?_⟩) zK ?_
   rotate_left
   ·(intro w hSw;(try dsimp only at hSw);go_simp<;>with_reducible rfl)
   (try simp only[Act.put,Aa,Ab,Ac])
   (try simp only[Ak,Ah,Af,Act.put,Aa,Ab,Ac])
   refine Aq (i:=13) (oi:=_) (v:=?_) rfl zF zF zF (fun _ _ _ h=>h) (Or.inl ⟨zR,?_⟩) zK ?_
   rotate_left
   ·(intro w hSw;(try dsimp only at hSw);go_simp<;>with_reducible rfl)
   (try simp only[Act.put,Aa,Ab,Ac])
   (try simp only[Ak,Ah,Af,Act.put,Aa,Ab,Ac])
   refine Aq (i:=14) (oi:=_) (v:=?_) rfl zF zF zF (fun _ _ _ h=>h) (Or.inl ⟨zR,?_⟩) zK ?_
   rotate_left
   ·(intro w hSw;(try dsimp only at hSw);go_simp<;>with_reducible rfl)
   (try simp only[Act.put,Aa,Ab,Ac])
   (try simp only[Ak,Ah,Af,Act.put,Aa,Ab,Ac])
   refine Aq (i:=15) (oi:=_) (v:=?_) rfl zF zF zF (fun _ _ _ h=>h) (Or.inl ⟨zR,?_⟩) zK ?_
   rotate_left
   ·(intro w hSw;(try dsimp only at hSw);go_simp<;>with_reducible rfl)
   (try simp only[Act.put,Aa,Ab,Ac])
   (try simp only[Ak,Ah,Af,Act.put,Aa,Ab,Ac])
   refine Aq (i:=16) (oi:=_) (v:=?_) rfl zF zF zF (fun _ _ _ h=>h) (Or.inl ⟨zR,?_⟩) zK ?_
   rotate_left
   ·(intro w hSw;(try dsimp only at hSw);go_simp<;>with_reducible rfl)
   (try simp only[Act.put,Aa,Ab,Ac])
   (try simp only[Ak,Ah,Af,Act.put,Aa,Ab,Ac])
   refine Aq (i:=17) (oi:=_) (v:=?_) rfl zF zF zF (fun _ _ _ h=>h) (Or.inl ⟨zR,?_⟩) zK ?_
   rotate_left
   ·(intro w hSw;(try dsimp only at hSw);go_simp<;>with_reducible rfl)
   (try simp only[Act.put,Aa,Ab,Ac])
   (try simp only[Ak,Ah,Af,Act.put,Aa,Ab,Ac])
   have HLd:=hid (Bw.mono (Bw.keep HL4.out (w':=w4.drew) fun q e=>rfl) (S':=(·<w4.drew.heap.size)) fun q e=>by have:=e.2;show q<w4.heap.size;omega)
   refine Bk (rs:=[8]) zF zM ?_
   refine Ba (o:=_) rfl (fun K hK=> ?_) AllReadyH.nil
   (go_simp;go_at_call 224;refine (HIE.out _ HLd.out).mono ?_;rintro r wq ⟨rfl,hbq⟩;have hPq:=hPd.later hbq;have HBq:=hid (show Below w4.heap.size w4 wq from Aj hbq zA);obtain⟨y0,y1,y2,y3,y4,y5,y6,y7,y8,y9,y10,y11,y12,y13,y14,y15,y16,y17,y18,ly⟩:=Bo hPq;obtain⟨z0,z1,z2,z3,z4,z5,z6,z7,z8,z9,z10,z11,z12,z13,z14,z15,z16,z17,z18⟩:=Cw hPq)
   refine hK.out _ _ ?_ (fun hHeld=> ?_)
   ·((try dsimp only);refine SK.out _ ?_<;>(repeat (first | with_reducible assumption | with_reducible refine Blk.drew ?_ | with_reducible refine Blk.alloc ?_ _ | with_reducible refine Blk.far ?_ zH _)))
   clear hK K
   (try simp only[Act.put,Aa,Ab,Ac])
   (try simp only[Ak,Ah,Af,Act.put,Aa,Ab,Ac])
   refine Aq (i:=18) (oi:=_) (v:=?_) rfl zF zF zF (fun _ _ _ h=>h) (Or.inl ⟨zR,?_⟩) zK ?_
   rotate_left
   ·(intro w hSw;(try dsimp only at hSw);go_simp<;>with_reducible rfl)
   (try simp only[Act.put,Aa,Ab,Ac])
   (try simp only[Ak,Ah,Af,Act.put,Aa,Ab,Ac])
   refine Aq (i:=19) (oi:=_) (v:=?_) rfl zF zF zF (fun _ _ _ h=>h) (Or.inl ⟨zR,?_⟩) zK ?_
   rotate_left
   ·(intro w hSw;(try dsimp only at hSw);go_simp<;>with_reducible rfl)
   (try simp only[Act.put,Aa,Ab,Ac])
   (try simp only[Ak,Ah,Af,Act.put,Aa,Ab,Ac])
   refine Aq (i:=20) (oi:=_) (v:=?_) rfl zF zF zF (fun _ _ _ h=>h) (Or.inl ⟨zR,?_⟩) zK ?_
   rotate_left
   ·(intro w hSw;(try dsimp only at hSw);go_simp<;>with_reducible rfl)
   (try simp only[Act.put,Aa,Ab,Ac])
   (try simp only[Ak,Ah,Af,Act.put,Aa,Ab,Ac])
   refine Aq (i:=21) (oi:=_) (v:=?_) rfl zF zF zF (fun _ _ _ h=>h) (Or.inl ⟨zR,?_⟩) zK ?_
   rotate_left
   ·(intro w hSw;(try dsimp only at hSw);go_simp<;>with_reducible rfl)
   (try simp only[Act.put,Aa,Ab,Ac])
   (try simp only[Ak,Ah,Af,Act.put,Aa,Ab,Ac])
   refine FP zJ ?_ _
   show wpList _ _ _ _ _ _
   go_upto_region 8 with (fail)
   have g1:=hPq.set 10 (.int .u64 σ.ep)
   simp only[Aa,Ab,Ac] at g1
   have g2:=g1.set 11 (.int .i64 (σ.M.length:Int))
   simp only[Aa,Ab,Ac] at g2
   have g3:=g2.set 12 (.int .i64 (Df σ.M))
   simp only[Aa,Ab,Ac] at g3
   have g4:=g3.set 13 (.int .u64 0)
   simp only[Aa,Ab,Ac] at g4
   have g5:=g4.set 14 (.int .u64 0)
   simp only[Aa,Ab,Ac] at g5
   have g6:=g5.set 15 (.int .i64 (σ.first:Int))
   simp only[Aa,Ab,Ac] at g6
   have g7:=g6.set 16 (.int .i64 (σ.buf.length:Int))
   simp only[Aa,Ab,Ac] at g7
   have HG5:Hid (Blk (((((((wq.setCell ⟨g,10,none⟩ (.int .u64 σ.ep)).setCell ⟨g,11,none⟩ (.int .i64 (σ.M.length:Int))).setCell ⟨g,12,none⟩ (.int .i64 (Df σ.M))).setCell ⟨g,13,none⟩ (.int .u64 0)).setCell ⟨g,14,none⟩ (.int .u64 0)).setCell ⟨g,15,none⟩ (.int .i64 (σ.first:Int))).setCell ⟨g,16,none⟩ (.int .i64 (σ.buf.length:Int))) g 83 #[nxF σ.ph,.slice aJ σ.buf.length cJ,.int .i64 (σ.first:Int),.int .i64 (σ.fed:Int),.int .i64 σ.ended,.int .u64 σ.ep,.int .u64 L.e,.int .u64 L.b,.slice L.a L.n L.c,.slice aM σ.M.length cM,.int .u64 σ.ep,.int .i64 (σ.M.length:Int),.int .i64 (Df σ.M),.int .u64 0,.int .u64 0,.int .i64 (σ.first:Int),.int .i64 (σ.buf.length:Int),.int .i64 (σ.foot:Int),vo]):=hid g7
   have HT5:Hid (Tch (·=g) w4 (((((((wq.setCell ⟨g,10,none⟩ (.int .u64 σ.ep)).setCell ⟨g,11,none⟩ (.int .i64 (σ.M.length:Int))).setCell ⟨g,12,none⟩ (.int .i64 (Df σ.M))).setCell ⟨g,13,none⟩ (.int .u64 0)).setCell ⟨g,14,none⟩ (.int .u64 0)).setCell ⟨g,15,none⟩ (.int .i64 (σ.first:Int))).setCell ⟨g,16,none⟩ (.int .i64 (σ.buf.length:Int)))):=hid (((((((((Tch.AW (F:=fun q=>q=g) (show Below w4.heap.size w4 wq from HBq.out)).setCell (p:=⟨g,10,none⟩) (fun _=>rfl) (.int .u64 σ.ep)).setCell (p:=⟨g,11,none⟩) (fun _=>rfl) (.int .i64 (σ.M.length:Int))).setCell (p:=⟨g,12,none⟩) (fun _=>rfl) (.int .i64 (Df σ.M))).setCell (p:=⟨g,13,none⟩) (fun _=>rfl) (.int .u64 0)).setCell (p:=⟨g,14,none⟩) (fun _=>rfl) (.int .u64 0)).setCell (p:=⟨g,15,none⟩) (fun _=>rfl) (.int .i64 (σ.first:Int))).setCell (p:=⟨g,16,none⟩) (fun _=>rfl) (.int .i64 (σ.buf.length:Int))))
   have hs5:(((((((wq.setCell ⟨g,10,none⟩ (.int .u64 σ.ep)).setCell ⟨g,11,none⟩ (.int .i64 (σ.M.length:Int))).setCell ⟨g,12,none⟩ (.int .i64 (Df σ.M))).setCell ⟨g,13,none⟩ (.int .u64 0)).setCell ⟨g,14,none⟩ (.int .u64 0)).setCell ⟨g,15,none⟩ (.int .i64 (σ.first:Int))).setCell ⟨g,16,none⟩ (.int .i64 (σ.buf.length:Int))).heap.size=wq.heap.size:=zU
   have hsq:w4.heap.size≤wq.heap.size:=HBq.out.size
   clear g1 g2 g3 g4 g5 g6 g7 y0 y1 y2 y3 y4 y5 y6 y7 y8 y9 y10 y11 y12 y13 y14 y15 y16 y17 y18 ly z0 z1 z2 z3 z4 z5 z6 z7 z8 z9 z10 z11 z12 z13 z14 z15 z16 z17 z18 hP4 hPd hPq SK hHeld
   generalize (((((((wq.setCell ⟨g,10,none⟩ (.int .u64 σ.ep)).setCell ⟨g,11,none⟩ (.int .i64 (σ.M.length:Int))).setCell ⟨g,12,none⟩ (.int .i64 (Df σ.M))).setCell ⟨g,13,none⟩ (.int .u64 0)).setCell ⟨g,14,none⟩ (.int .u64 0)).setCell ⟨g,15,none⟩ (.int .i64 (σ.first:Int))).setCell ⟨g,16,none⟩ (.int .i64 (σ.buf.length:Int)))=W5 at*
   have HL5:=hid (Bw.mono (Bw.keep HL4.out (w':=W5) fun q e=>HT5.out.block q zV (by have:=e.1;show ¬q=g;omega)) (S':=(·<W5.heap.size)) fun q e=>zV)
   obtain⟨y0,y1,y2,y3,y4,y5,y6,y7,y8,y9,y10,y11,y12,y13,y14,y15,y16,y17,y18,ly⟩:=Bo HG5.out
   obtain⟨z0,z1,z2,z3,z4,z5,z6,z7,z8,z9,z10,z11,z12,z13,z14,z15,z16,z17,z18⟩:=Cw HG5.out
   go_wp2_with fail
   refine (HID.out _ HL5.out).mono ?_
   rintro r w6 ⟨rfl,hb6⟩
   have HG6:=hid (HG5.out.later hb6)
   have HT6:=hid (HT5.out.trans (Tch.AW (F:=fun _=>False) hb6) fun _ _ e=>e.elim)
   clear y0 y1 y2 y3 y4 y5 y6 y7 y8 y9 y10 y11 y12 y13 y14 y15 y16 y17 y18 ly z0 z1 z2 z3 z4 z5 z6 z7 z8 z9 z10 z11 z12 z13 z14 z15 z16 z17 z18 hb6
   obtain⟨y0,y1,y2,y3,y4,y5,y6,y7,y8,y9,y10,y11,y12,y13,y14,y15,y16,y17,y18,ly⟩:=Bo HG6.out
   obtain⟨z0,z1,z2,z3,z4,z5,z6,z7,z8,z9,z10,z11,z12,z13,z14,z15,z16,z17,z18⟩:=Cw HG6.out
   go_wp2_with fail
   go_ret
   have k1:=HG6.out.set 13 (.int .u64 (Ew σ.M).1)
   simp only[Aa,Ab,Ac] at k1
   have k2:=k1.set 14 (.int .u64 (Ew σ.M).2)
   simp only[Aa,Ab,Ac] at k2
   have k3:=k2.set 0 (nxF 2)
   simp only[Aa,Ab,Ac] at k3
   have ht:Tch (·=g) w4 (((w6.setCell ⟨g,13,none⟩ (.int .u64 (Ew σ.M).1)).setCell ⟨g,14,none⟩ (.int .u64 (Ew σ.M).2)).setCell ⟨g,0,none⟩ (nxF 2)):=((HT6.out.setCell (p:=⟨g,13,none⟩) (fun _=>rfl) (.int .u64 (Ew σ.M).1)).setCell (p:=⟨g,14,none⟩) (fun _=>rfl) (.int .u64 (Ew σ.M).2)).setCell (p:=⟨g,0,none⟩) (fun _=>rfl) (nxF 2)
   have hgg:gp≠g:=zC
   have htw:Tch (fun q=>q=g∨q=gp) w (((w6.setCell ⟨g,13,none⟩ (.int .u64 (Ew σ.M).1)).setCell ⟨g,14,none⟩ (.int .u64 (Ew σ.M).2)).setCell ⟨g,0,none⟩ (nxF 2)):=(HT4.out.mono fun _ _ e=> .inr e).trans ht fun b hb e=> .inl e
   have hsz:=htw.size
   rw[HRI.out.2]
   refine⟨zBx,⟨HP4.out.blk.tch ht (by show ¬gp=g;omega),Am.mono (Am.keep HPD.out fun q e=>htw.block q zV (by have:=e.1;have:=e.2;omega)) (fun q e=>⟨An (show q<w.heap.size by have:=e.2;omega) htw.size,by have:=e.2;omega⟩),HP4.out.ok⟩,HA4.out.gto (τ:={σ with ph:=2,want:=DE σ.ep σ.M σ.first σ.buf.length}) ht k3 rfl rfl rfl,htw⟩
  ·have HRI:=WZ (HBT.out.trans (Ag hls))
   rw[Ae hls] at HSM
   clear hls
   go_wp2_with fail
   refine HSM.out.mono ?_
   rintro r w4 ⟨rfl,hb4⟩
   have HA4:=hid (HA3.out.later hb4)
   have HP4:=hid (HP3.out.later hb4)
   have HT4:=hid (HT3.out.trans (Tch.AW (F:=fun _=>False) hb4) fun _ _ e=>e.elim)
   go_wp2_with fail
   go_ret
   exact⟨zBx,HP4.out,by rw[HRI.out.2];exact HA4.out,HT4.out.mono fun _ _ e=> .inr e⟩
 ·rw[Ae hk2] at HGD
  have hbt:KS σ t2 l=(0,σ):=Ag hk2
  have HRI:=WZ (HR9.out.trans hbt)
  clear hk2 hbt HR9
  go_wp2_with fail
  refine (HGD.out _ HP2.out).mono ?_
  rintro r w3 ⟨rfl,hb3⟩
  have HA3:=hid (HA2.out.later hb3)
  have HP3:=hid (HP2.out.later hb3)
  have HT3:=hid (HT2.out.trans (Tch.AW (F:=fun _=>False) hb3) fun _ _ e=>e.elim)
  go_wp2_with fail
  go_ret
  exact⟨zBx,HP3.out,by rw[HRI.out.2];exact HA3.out,HT3.out.mono fun _ _ e=> .inr e⟩
end Go.Proofs.YtfddhafbhceoaaaGreat
