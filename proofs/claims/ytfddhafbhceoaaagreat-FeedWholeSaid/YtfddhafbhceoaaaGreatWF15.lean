/- Mini: Needed by feedNone_walk, part 15: texts put together by shake.py; no condition. -/
import Derived.Test.YtfddhafbhceoaaaGreatWF13
import Derived.Test.YtfddhafbhceoaaaGreatWF6
import Derived.Test.YtfddhafbhceoaaaGreatWF5
import Derived.Test.YtfddhafbhceoaaaGreatWF4
import Derived.Test.YtfddhafbhceoaaaGreatWF3
import Derived.Test.YtfddhafbhceoaaaGreatWF2
import Derived.Test.YtfddhafbhceoaaaGreatWF1
import Derived.Deep.Cut
import Derived.Deep.CutBlock
import Derived.Test.YtfddhafbhceoaaaGreatWF14
import Derived.Test.YtfddhafbhceoaaaGreatWF11
import Derived.Test.YtfddhafbhceoaaaGreatWF10
import Derived.Test.YtfddhafbhceoaaaGreatWF7
import Derived.Test.YtfddhafbhceoaaaGreatWF9
import Derived.Test.YtfddhafbhceoaaaGreatWF12
set_option linter.unusedVariables false
set_option linter.unusedSimpArgs false
set_option maxRecDepth 100000
set_option maxHeartbeats 6400000
namespace Go.Bs
theorem zB4{p:Prop}(h:p:=by rw [HF1.out, Ai (fun e => e.elim hk0 hk1)]):p:=h
theorem zBn{p:Prop}(h:p:=by rw [HN.out, Ai (by omega), Ai (fun e => e hk0)]):p:=h
theorem zBc{p:Prop}(h:p:=by subst h2; simp):p:=h
theorem zA1{p:Prop}(h:p:=by unfold FSt.hold; dsimp only; omega):p:=h
theorem zAi{p:Prop}(h:p:=by simp [results, Tryz.results199, go_sem, m0, m1', m2', m3', m4', m5', m6', q0, q1, lm, lq]):p:=h
theorem ZK{p:Prop}(h:p:=by simp [results, Tryz.results155, go_sem, q0, q1, lq]):p:=h
theorem ZJ{p:Prop}(h:p:=by simp [results, Tryz.results285, go_sem, q0, q1, lq]):p:=h
theorem IQ:type_of% @Eq.symm:=@Eq.symm
end Go.Bs
namespace Go.Proofs.YtfddhafbhceoaaaGreat
open Go.RowKit Go.Bs Go.Maps
variable{f:Int}{B P:List UInt8}{c g gp n:Nat}{S:Nat → Prop}{a:Option Addr}{t1:Rs}{t:TypeId}{v v0 v1 v2 vm vo:Value}{W W' w w':World}
theorem VY(hl:Am.r S w [.slice a n c] B):Am.r S w [.slice a B.length B.length] B:=by
 obtain⟨rfl,hm,hc,hcm⟩:=AL hl
 obtain⟨a',c',e,h1,h2,h3⟩:=hl
 simp at e
 obtain⟨rfl,rfl⟩:=e
 exact Bv rfl (As _) (by simp[maxLen];omega) h3
structure Ub(w:World)(g gp:Nat)(v vm vo:Value)(P:List UInt8)(va:Option Addr)(e9:Rs)(σ9:FSt)(E9:List EvX)(W:World):Prop where
 at_:∃D9 vm9 vo9 L9,By W g D9 v vm9 vo9 L9 σ9 E9∧(∀q,D9 q→q≠w.heap.size)∧DG w vm vm9∧DG w vo vo9
 rd:AS W gp P va e9
 res:Blk W w.heap.size 65 #[.int .i64 0,.int .i64 0]
 tc:Tch (fun q=>q=g∨vm.ownBlock=some q∨vo.ownBlock=some q) w W
theorem Ub.later{va:Option Addr}{e9:Rs}{σ9:FSt}{E9:List EvX}(h:Ub w g gp v vm vo P va e9 σ9 E9 W)(hb:Below W.heap.size W W'):Ub w g gp v vm vo P va e9 σ9 E9 W':=by
 obtain⟨D9,vm9,vo9,L9,h1,h2,h3,h4⟩:=h.at_
 exact⟨⟨D9,vm9,vo9,L9,h1.later hb,h2,h3,h4⟩,h.rd.later hb,h.res.later hb,h.tc.trans (Tch.AW (F:=fun _=>False) hb) fun _ _ e=>e.elim⟩
def Tk3(tk:Tk)(σ:FSt)(E:List EvX)(A code:Int)(e9:Rs)(σ9:FSt)(E9:List EvX):Prop:=
 (e9.k≠0→XJ tk σ E false e9.k (wrap64 (e9.f+A)) σ9 E9)∧(e9.k=0→code=0→XJ tk σ E true 0 0 σ9 E9)∧(e9.k=0→code≠0→XJ tk σ E false code 0 σ9 E9)
theorem NW:(⟨0,0,0⟩:Rs).byte []=(⟨0,1,0⟩,0):=by simp[Rs.byte,Rs.skip]
theorem LS(y:UInt8)(P:List UInt8):(⟨0,0,0⟩:Rs).byte (y::P)=(⟨1,0,0⟩,y):=by
 have h:¬((P.length:Int)+1<1):=zC
 simp[Rs.byte,Rs.skip,h]
theorem UQ{σ:FSt}{E:List EvX}{y:UInt8}{A:Int}{x:Batch}{bq:Bool}(hy:y=1)(hb:Rs.batch (y::P) (Eb (y::P)) ⟨1,0,0⟩=(t1,x,bq))(hlm:σ.l.length=σ.M.length):
  Tk3 (IU σ (y::P) A) σ E A (IK σ (t1.fin (y::P).length) x).1 (t1.fin (y::P).length) (IK σ (t1.fin (y::P).length) x).2.1 (E++(IK σ (t1.fin (y::P).length) x).2.2.map EvB.x):=by
 subst hy
 have hr:IU σ ((1:UInt8)::P) A=(let e:=t1.fin ((1:UInt8)::P).length;if e.k≠0 then .bad e.k (wrap64 (e.f+A)) else if σ.l.length=16 then .bad 2 0 else if EU σ.ep (Ce σ.l σ.l.length) x=true then .take {σ with l:=σ.l++[x],M:=σ.M++[⟨x.base,x.entries.length,σ.first⟩]} [evB σ.first x] else .bad 13 0):=by
  unfold IU
  rw[Ai zM,Ag (show ((1:UInt8)::P).headD 0=1 from rfl),hb]
 rw[hr]
 dsimp only
 generalize t1.fin ((1:UInt8)::P).length=e
 by_cases h:e.k≠0
 ·have hB:IK σ e x=(0,σ,[]):=Ag h
  rw[hB,Ag h]
  exact⟨fun _=>⟨rfl,h,rfl,rfl,rfl,zM⟩,fun h0=>absurd h0 h,fun h0=>absurd h0 h⟩
 ·have h0:e.k=0:=by omega
  rw[Ai h]
  by_cases h16:σ.l.length=16
  ·have hB:IK σ e x=(2,σ,[]):=by unfold IK;rw[Ai h,Ag h16]
   rw[hB,Ag h16]
   exact⟨fun q=>absurd q h,fun _ q=>absurd (show (2:Int)=0 from q) zL,fun _ _=>⟨rfl,zL,rfl,rfl,rfl,zM⟩⟩
  ·rw[Ai h16]
   by_cases hm:EU σ.ep (Ce σ.l σ.l.length) x=true
   ·have hB:IK σ e x=(0,{σ with l:=σ.l++[x],M:=σ.M++[⟨x.base,x.entries.length,(σ.first:Int)⟩]},[evB σ.first x]):=by unfold IK;rw[Ai h,Ai h16,Ag hm]
    rw[hB,Ag hm]
    exact⟨fun q=>absurd q h,fun _ _=>⟨rfl,rfl,rfl,rfl,rfl⟩,fun _ q=>absurd rfl q⟩
   ·have hB:IK σ e x=(13,σ,[]):=by unfold IK;rw[Ai h,Ai h16,Ai hm]
    rw[hB,Ai hm]
    exact⟨fun q=>absurd q h,fun _ q=>absurd (show (13:Int)=0 from q) zL,fun _ _=>⟨rfl,zL,rfl,rfl,rfl,zM⟩⟩
theorem UP{σ:FSt}{E:List EvX}{y:UInt8}{A:Int}{l:List AP}(hy:y=2)(hm:(⟨1,0,0⟩:Rs).Cr (y::P)=(t1,l)):
  Tk3 (IU σ (y::P) A) σ E A (KS σ (t1.fin (y::P).length) l).1 (t1.fin (y::P).length) (KS σ (t1.fin (y::P).length) l).2 E:=by
 subst hy
 have hr:IU σ ((2:UInt8)::P) A=(let e:=t1.fin ((2:UInt8)::P).length;if e.k≠0 then .bad e.k (wrap64 (e.f+A)) else if l≠σ.M then .bad 12 0 else .take {σ with ph:=2,want:=DE σ.ep σ.M σ.first σ.buf.length} []):=by
  unfold IU
  rw[Ai zM,Ai (show ¬((2:UInt8)::P).headD 0=1 from by show ¬(2:UInt8)=1;decide),Ag (show ((2:UInt8)::P).headD 0=2 from rfl),hm]
 rw[hr]
 dsimp only
 generalize t1.fin ((2:UInt8)::P).length=e
 by_cases h:e.k≠0
 ·have hB:KS σ e l=(0,σ):=Ag h
  rw[hB,Ag h]
  exact⟨fun _=>⟨rfl,h,rfl,rfl,rfl,rfl⟩,fun h0=>absurd h0 h,fun h0=>absurd h0 h⟩
 ·have h0:e.k=0:=by omega
  rw[Ai h]
  by_cases hl:l≠σ.M
  ·have hB:KS σ e l=(12,σ):=by unfold KS;rw[Ai h,Ag hl]
   rw[hB,Ag hl]
   exact⟨fun q=>absurd q h,fun _ q=>absurd (show (12:Int)=0 from q) zL,fun _ _=>⟨rfl,zL,rfl,rfl,rfl,rfl⟩⟩
  ·have hB:KS σ e l=(0,{σ with ph:=2,want:=DE σ.ep σ.M σ.first σ.buf.length}):=by unfold KS;rw[Ai h,Ai hl]
   rw[hB,Ai hl]
   exact⟨fun q=>absurd q h,fun _ _=>⟨rfl,rfl,rfl,rfl,zM⟩,fun _ q=>absurd rfl q⟩
theorem Wp{σ:FSt}{E:List EvX}{A:Int}{t:Rs}{y:UInt8}(hb:(⟨0,0,0⟩:Rs).byte P=(t,y))(h1:y≠1)(h2:y≠2)(hA:wrap64 (0+A)=A):
  Tk3 (IU σ P A) σ E A 0 (t.fail 7 0) σ E∧(t.fail 7 0).k≠0:=by
 cases P with
 | nil=>
  rw[NW] at hb
  simp only[BF] at hb
  obtain⟨rfl,rfl⟩:=hb
  have hr:IU σ [] A=.bad 1 A:=by unfold IU;rw[Ag rfl]
  rw[hr]
  refine⟨⟨fun _=>⟨rfl,zL,rfl,hA,rfl,rfl⟩,fun h=>absurd h zL,fun h=>absurd h zL⟩,zL⟩
 | cons z P=>
  rw[LS] at hb
  simp only[BF] at hb
  obtain⟨rfl,rfl⟩:=hb
  have hr:IU σ (z::P) A=.bad 7 A:=by
   unfold IU
   rw[Ai zM,Ai (show ¬(z::P).headD 0=1 from h1),Ai (show ¬(z::P).headD 0=2 from h2)]
  rw[hr]
  refine⟨⟨fun _=>⟨rfl,zL,rfl,hA,rfl,rfl⟩,fun h=>absurd h zL,fun h=>absurd h zL⟩,zL⟩
def XM(w:World)(g gp:Nat)(v vm vo:Value)(σ:FSt)(E:List EvX)(P:List UInt8)(va:Option Addr)(A:Int)(r:Ending)(w':World):Prop:=
 ∃(code:Int) (e9:Rs) (σ9:FSt) (E9:List EvX),r=.returned (.int .i64 code)∧Ub w g gp v vm vo P va e9 σ9 E9 w'∧Tk3 (Bm σ) σ E A code e9 σ9 E9
theorem Ub.fin{σ:FSt}{E:List EvX}{va:Option Addr}{e9:Rs}{σ9:FSt}{E9:List EvX}(h:Ub w g gp v vm vo P va e9 σ9 E9 W)(hg:g<w.heap.size){b:Bool}{k:Int}(ht:XJ (Bm σ) σ E b k f σ9 E9)(u u':Value):
  EZ w g v vm vo σ E ((W.setCell ⟨w.heap.size,0,none⟩ u).setCell ⟨w.heap.size,1,none⟩ u') b k f:=by
 obtain⟨D9,vm9,vo9,L9,h1,h2,h3,h4⟩:=h.at_
 have hts:Tch (fun q=>q=w.heap.size) W ((W.setCell ⟨w.heap.size,0,none⟩ u).setCell ⟨w.heap.size,1,none⟩ u'):=((Tch.refl (fun q=>q=w.heap.size) W).setCell (p:=⟨w.heap.size,0,none⟩) (fun _=>rfl) u).setCell (p:=⟨w.heap.size,1,none⟩) (fun _=>rfl) u'
 exact⟨D9,vm9,vo9,L9,σ9,E9,h1.side hts ZZ (fun q _ hq _ e=>h2 q hq e),h3,h4,h.tc.trans hts (fun q hq e=>by have e2:q=w.heap.size:=e;omega),ht⟩
theorem PS{w4:World}{D:Nat→Prop}{σ:FSt}{E:List EvX}{va:Option Addr}{A:Int}{e9:Rs}{cd:Int}{σ9:FSt}{E9:List EvX}{r:Ending}(hB:Below w.heap.size w w4)(hR:Blk w4 w.heap.size 65 #[.int .i64 0,.int .i64 0])(hD:∀q,D q→q<w.heap.size)(hg:g<w.heap.size)(hgp:w.heap.size<gp)(hv:∀q,vm.ownBlock=some q→D q)(hv2:∀q,vo.ownBlock=some q→D q)(h:AaT w4 g gp D v vm vo P va e9 cd σ9 E9 r w')(ht:Tk3 (Bm σ) σ E A cd e9 σ9 E9):XM w g gp v vm vo σ E P va A r w':=by
 obtain⟨h1,h2,D',vm',vo',L',h3,h4,h5,h6,h7⟩:=h
 have hs:=hB.size
 exact⟨cd,e9,σ9,E9,h1,⟨⟨D',vm',vo',L',h3,fun q e=>by
   rcases h4 q e with e | e
   ·have:=hD q e;omega
   ·omega,fun q e=>(h5 q e).imp id fun e=>zC,fun q e=>(h6 q e).imp id fun e=>zC⟩,h2,hR.tch h7 (fun e=>by
   rcases e with e | e | e | e
   ·omega
   ·omega
   ·have:=hD _ (hv _ e);omega
   ·have:=hD _ (hv2 _ e);omega),(Tch.AW (F:=fun q=>q=g∨vm.ownBlock=some q∨vo.ownBlock=some q) hB).trans h7 (fun q hq e=>by
   rcases e with e | e | e | e
   ·exact .inl e
   ·omega
   ·exact .inr (.inl e)
   ·exact .inr (.inr e))⟩,ht⟩
theorem PR{w4:World}{D:Nat→Prop}{L:C7}{σ:FSt}{E:List EvX}{va:Option Addr}{A:Int}{e9:Rs}{cd:Int}{σ9:FSt}{r:Ending}(hB:Below w.heap.size w w4)(hR:Blk w4 w.heap.size 65 #[.int .i64 0,.int .i64 0])(hD:∀q,D q→q<w.heap.size)(hg:g<w.heap.size)(hgp:w.heap.size<gp)(h:AaS w4 g gp D v vm vo P va e9 L E cd σ9 r w')(ht:Tk3 (Bm σ) σ E A cd e9 σ9 E):XM w g gp v vm vo σ E P va A r w':=by
 obtain⟨h1,h2,h3,h7⟩:=h
 exact⟨cd,e9,σ9,E,h1,⟨⟨D,vm,vo,L,h3,fun q e=>by have:=hD q e;omega,DG.refl,DG.refl⟩,h2,hR.tch h7 (fun e=>by
   rcases e with e | e
   ·omega
   ·omega),(Tch.AW (F:=fun q=>q=g∨vm.ownBlock=some q∨vo.ownBlock=some q) hB).trans h7 (fun q hq e=>by
   rcases e with e | e
   ·exact .inl e
   ·omega)⟩,ht⟩
theorem VB(w:World)(x:Value):Calls Tryz.prog 229 #[x] w fun r w'=>r=.returned (.int .i64 0)∧w=w':=by
 go_enter Tryz.func229,Tryz.ntmps229
 go_wp2_with fail
 go_ret
 exact⟨rfl,rfl⟩
set_option maxHeartbeats 12800000 in
theorem RG(w:World){D:Nat→Prop}{L:C7}{σ:FSt}{E:List EvX}(h:By w g D v vm vo L σ E)(hph:σ.ph=1)(hok:FOk σ)(hfe:σ.fed≤100000000)(hEl:E.length≤1000000000):
  Calls Tryz.prog 155 #[.pointer (some ⟨g,0,none⟩)] w fun r w'=>∃(b:Bool) (k f:Int),r=.returned (.tuple #[.bool b,.agg #[.int .i64 k,.int .i64 f]])∧EZ w g v vm vo σ E w' b k f:=by
 have hB:σ.buf.length≤100000000:=ZM
 obtain⟨R,hR⟩:∃R,R=(⟨0,0,0⟩:Rs).frame σ.buf 2097152:=⟨_,rfl⟩
 obtain⟨s,P⟩:=R
 obtain⟨A,hA⟩:∃A:Int,A=(s.p:Int)-4-(P.length:Int):=⟨_,rfl⟩
 have hn:Bm σ=(if s.k=1 then .wait else if s.k≠0 then .bad s.k s.f else IU σ P A):=by
  unfold Bm
  rw[Ai zC,Ag hph]
  unfold FM
  rw[←hR,hA]
 have HP:=hid (KZ (w.alloc (.cells #[.int .i64 0,.int .i64 0] 65)) (h.later zA) zC hR.symm)
 have hdl:=Rs.Kl (B:=σ.buf) (s:=⟨0,0,0⟩) (m:=2097152)
 have hpB:=(Rs.Ga (B:=σ.buf) (m:=2097152) (Rs.FC σ.buf.length)).ok.le
 rw[←hR] at hdl hpB
 dsimp only at hdl hpB
 have hAw:wrap64 (0+A)=A:=ZV
 have hgl:=h.gl
 have HH:=hid h
 have HN:=hid hn
 obtain⟨K1,hK1⟩:∃K1:Int,K1=(if s.k=1 then 0 else s.k):=⟨_,rfl⟩
 obtain⟨F1,hF1⟩:∃F1:Int,F1=(if s.k=0∨s.k=1 then 0 else s.f):=⟨_,rfl⟩
 rw[←hK1,←hF1] at HP
 have HK1:=hid hK1
 have HF1:=hid hF1
 have HA:=hid hA
 have HAW:=hid hAw
 clear h hn hR hK1 hF1 hA hAw
 have hz0:w.heap.size<(w.alloc (.cells #[.int .i64 0,.int .i64 0] 65)).heap.size:=zM
 have hba0:Below w.heap.size w (w.alloc (.cells #[.int .i64 0,.int .i64 0] 65)):=zA
 have hR0:Blk (w.alloc (.cells #[.int .i64 0,.int .i64 0] 65)) w.heap.size 65 #[.int .i64 0,.int .i64 0]:=Blk.new _ _ _
 by_cases hk0:s.k=0
 ·rw[Ad hk0] at HP
  have hn1:Bm σ=IU σ P A:=zBn
  have hKF:K1=0∧F1=0:=⟨by rw[HK1.out,Ai (by omega),hk0],by rw[HF1.out,Ag (.inl hk0)]⟩
  obtain⟨rfl,rfl⟩:=hKF
  have HN1:=hid hn1
  clear hn1 HN HK1 HF1
  go_enter Tryz.func155,Tryz.ntmps155
  go_wp2_with fail
  refine HP.out.mono ?_
  rintro r w1 ⟨va,na,ca,at_,rfl,hat,hb1⟩
  obtain⟨hat2,hrd⟩:=hat hk0
  have hatA:at_=A:=by rw[HA.out,hat2]
  clear hat hat2
  obtain rfl:=hatA
  obtain⟨rfl,_,_,_⟩:=AL hrd
  have hz1:=hb1.size
  have hba1:Below w1.heap.size w1 (w1.alloc (.cells #[.int .i64 0,.int .i64 0] 65)):=zA
  have HB2:=hid (Aw (Aj hb1 hba0) (.cells #[.int .i64 0,.int .i64 0] 65))
  have HR2:=hid ((hR0.later hb1).later hba1)
  have HRD2:=hid (Am.keep hrd (w':=w1.alloc (.cells #[.int .i64 0,.int .i64 0] 65)) fun q e=>AN _ _ q e.2)
  have hz2:w1.heap.size<(w1.alloc (.cells #[.int .i64 0,.int .i64 0] 65)).heap.size:=zM
  clear hb1 hrd hba1 hba0 hR0 HP
  go_upto_region 4 with (fail)
  generalize w1.alloc (.cells #[.int .i64 0,.int .i64 0] 65)=w2 at*
  have HNW:=hid (Lo w2 P va _ ca (Am.mono HRD2.out fun q e=>zV))
  go_wp2_with fail
  refine HNW.out.mono ?_
  rintro r w3 ⟨rfl,hrd3,hb3⟩
  have HRD3:=hid hrd3
  have hz3:=hb3.size
  have HPD3:=hid (VY (Am.mono (Am.keep HRD2.out (w':=w3) fun q e=>hb3.block q zV) (S':=fun q=>w.heap.size+1≤q∧q<w2.heap.size) fun q e=>⟨zX,zV⟩))
  have HB3:=hid (Aj hb3 HB2.out)
  have HR3:=hid (HR2.out.later hb3)
  have hgpl:=hrd3.blk.lt
  generalize hgp:w2.heap.size=gp at*
  clear hb3 hrd3 HRD2 HNW HB2 HR2
  obtain⟨BY,hBY⟩:∃BY,BY=(⟨0,0,0⟩:Rs).byte P:=⟨_,rfl⟩
  obtain⟨t,y⟩:=BY
  have HBY:=hid (by have:=KG w3 HRD3.out;rw[←hBY] at this;exact this:Calls Tryz.prog 195 #[.pointer (some ⟨gp,0,none⟩)] w3 fun r w'=>r=.returned (.int .u8 (y.toNat:Int))∧AE w3 gp P va t w')
  have HBQ:=hid hBY.symm
  clear hBY
  go_wp2_with fail
  refine HBY.out.mono ?_
  rintro r w4 ⟨rfl,hst4⟩
  have HB4:=hid (HB3.out.trans (hst4.below zC zC))
  have HR4:=hid (HR3.out.tch hst4.2 (by show ¬w.heap.size=gp;omega))
  have HRD4:=hid hst4.1
  have HPD4:=hid (Am.keep HPD3.out (w':=w4) fun q e=>hst4.2.block q zV (by show ¬q=gp;have:=e.2;omega))
  have hgp4:=hst4.1.blk.lt
  clear hst4 HBY HRD3 HB3 HR3 HPD3
  have HA4:=hid (HH.out.later HB4.out)
  have HDT:=hid HH.out.dl
  have HMT:=hid HH.out.mT
  have HOT:=hid HH.out.oT
  have hPl:P.length≤1000000000:=zC
  go_upto_block 0 with (fail)
  go_cut [9] from 26 to 35 (fun s9 V=>(s9=.func (Fn.func 229) #[] #[]∧Hid (Calls Tryz.prog 229 #[.pointer (some ⟨gp,0,none⟩)] V fun r w'=>XM w g gp v vm vo σ E P va at_ r w'))∨(s9=.func (Fn.func 230) #[.pointer (some ⟨g,0,none⟩)] #[]∧Hid (Calls Tryz.prog 230 #[.pointer (some ⟨g,0,none⟩),.pointer (some ⟨gp,0,none⟩)] V fun r w'=>XM w g gp v vm vo σ E P va at_ r w'))∨(s9=.func (Fn.func 231) #[.pointer (some ⟨g,0,none⟩)] #[]∧Hid (Calls Tryz.prog 231 #[.pointer (some ⟨g,0,none⟩),.pointer (some ⟨gp,0,none⟩)] V fun r w'=>XM w g gp v vm vo σ E P va at_ r w')))
  case first=>
   by_cases h1:y=1
   ·have d1:((y.toNat:Int)==(1:Int))=true:=by rw[h1];rfl
    have hPP:∃P',P=y::P'∧t=⟨1,0,0⟩:=by
     have hq:=HBQ.out
     cases P with
     | nil=>
      rw[NW] at hq
      simp only[BF] at hq
      rw[←hq.2] at h1
      exact absurd h1 zL
     | cons z P'=>
      rw[LS] at hq
      simp only[BF] at hq
      exact⟨P',by rw[hq.2],hq.1.symm⟩
    obtain⟨P',hPe,hte⟩:=hPP
    subst hte
    obtain⟨BB,hBB⟩:∃BB,BB=Rs.batch P (Eb P) ⟨1,0,0⟩:=⟨_,rfl⟩
    obtain⟨t1,x,bq⟩:=BB
    have HC:=hid (TH w4 HA4.out HDT.out hgl hok zC hEl zC HRD4.out hPl (Am.mono HPD4.out fun q e=>⟨zX,e.2⟩) hBB.symm)
    have hT3:Tk3 (Bm σ) σ E at_ (IK σ (t1.fin P.length) x).1 (t1.fin P.length) (IK σ (t1.fin P.length) x).2.1 (E++(IK σ (t1.fin P.length) x).2.2.map EvB.x):=by
     rw[HN1.out]
     have:=UQ (σ:=σ) (E:=E) (A:=at_) (y:=y) (P:=P') (t1:=t1) (x:=x) (bq:=bq) h1 (by rw[hPe] at hBB;exact hBB.symm) hok.lm
     rw[←hPe] at this
     exact this
    have HT3:=hid hT3
    clear hT3 hBB h1 hPe
    go_wp2_with fail
    go_meet
    case rel=>exact .inr (.inl ⟨rfl,hid (HC.out.mono fun r w' hr=>PS HB4.out HR4.out HDT.out hgl zC HMT.out HOT.out hr HT3.out)⟩)
   ·have d1:((y.toNat:Int)==(1:Int))=false:=by rw[BL];intro e;exact h1 (UInt8.toNat_inj.1 (by have e2:((1:UInt8).toNat:Int)=1:=rfl;omega))
    by_cases h2:y=2
    ·have d2:((y.toNat:Int)==(2:Int))=true:=by rw[h2];rfl
     have hPP:∃P',P=y::P'∧t=⟨1,0,0⟩:=by
      have hq:=HBQ.out
      cases P with
      | nil=>
       rw[NW] at hq
       simp only[BF] at hq
       rw[←hq.2] at h2
       exact absurd h2 zL
      | cons z P'=>
       rw[LS] at hq
       simp only[BF] at hq
       exact⟨P',by rw[hq.2],hq.1.symm⟩
     obtain⟨P',hPe,hte⟩:=hPP
     subst hte
     obtain⟨BB,hBB⟩:∃BB,BB=(⟨1,0,0⟩:Rs).Cr P:=⟨_,rfl⟩
     obtain⟨t1,l⟩:=BB
     have HC:=hid (TC w4 HA4.out HDT.out hgl hok zC zC HRD4.out hPl (Am.mono HPD4.out fun q e=>⟨zX,e.2⟩) hBB.symm)
     have hT3:Tk3 (Bm σ) σ E at_ (KS σ (t1.fin P.length) l).1 (t1.fin P.length) (KS σ (t1.fin P.length) l).2 E:=by
      rw[HN1.out]
      have:=UP (σ:=σ) (E:=E) (A:=at_) (y:=y) (P:=P') (t1:=t1) (l:=l) h2 (by rw[hPe] at hBB;exact hBB.symm)
      rw[←hPe] at this
      exact this
     have HT3:=hid hT3
     clear hT3 hBB h2 hPe
     go_wp2_with fail
     go_meet
     case rel=>exact .inr (.inr ⟨rfl,hid (HC.out.mono fun r w' hr=>PR HB4.out HR4.out HDT.out hgl zC hr HT3.out)⟩)
    ·have d2:((y.toNat:Int)==(2:Int))=false:=by rw[BL];intro e;exact h2 (UInt8.toNat_inj.1 (by have e2:((2:UInt8).toNat:Int)=2:=rfl;omega))
     have HN3:=hid (Wp (σ:=σ) (E:=E) HBQ.out h1 h2 HAW.out)
     rw[←HN1.out] at HN3
     have HFL:=hid (Bx w4 HRD4.out 7 0 zL)
     clear h1 h2
     go_wp2_with fail
     refine HFL.out.mono ?_
     rintro r w5 ⟨rfl,hst5⟩
     have HC:=hid (VB w5 (.pointer (some ⟨gp,0,none⟩)))
     have HI5:Hid (Ub w g gp v vm vo P va (t.fail 7 0) σ E w5):=hid ⟨⟨D,vm,vo,L,HA4.out.side hst5.2 zAk (fun q _ hq _ e=>by have:=HDT.out q hq;have e2:q=gp:=e;omega),fun q e=>by have:=HDT.out q e;omega,DG.refl,DG.refl⟩,hst5.1,HR4.out.tch hst5.2 (by show ¬w.heap.size=gp;omega),(Tch.AW (F:=fun q=>q=g∨vm.ownBlock=some q∨vo.ownBlock=some q) HB4.out).trans hst5.2 fun q hq e=>by have e2:q=gp:=e;omega⟩
     go_wp2_with fail
     go_meet
     case rel=>exact .inl ⟨rfl,hid (HC.out.mono fun r w' hr=>⟨0,t.fail 7 0,σ,E,hr.1,hr.2 ▸ HI5.out,HN3.out.1⟩)⟩
  case rest=>
   clear HA4 HRD4 HPD4 HBQ HR4 HB4 HH
   rcases hcut with ⟨rfl,HC⟩ | ⟨rfl,HC⟩ | ⟨rfl,HC⟩
   all_goals
    go_wp2_with fail
    refine HC.out.mono ?_
    rintro r w6 ⟨code,e9,σ9,E9,rfl,hI,h1,h2,h3⟩
    have HI6:=hid hI
    have HFA:=hid (H7 w6 hI.rd)
    clear hI HC
    have hRl:w.heap.size<w6.heap.size:=HI6.out.res.lt
    by_cases hk:e9.k=0
    ·have HSH:=hid (fun V:World=>Qt V e9.f at_)
     have HFG:=hid (fun V:World=>(by have:=BK V 0 0;exact this:Calls Tryz.prog 65 #[.agg #[.int .i64 0,.int .i64 0]] V fun r w'=>r=.returned (.bool true)∧Below V.heap.size V w'))
     rw[hk] at HFA
     have HT2:=hid (h2 hk)
     have HT3:=hid (h3 hk)
     clear h1 h2 h3 hk
     go_wp2_with fail
     refine HFA.out.mono ?_
     rintro r w7 ⟨rfl,hb7⟩
     go_wp2_with fail
     refine (HSH.out _).mono ?_
     rintro r w8 ⟨rfl,hb8⟩
     have hba:Below w8.heap.size w8 (w8.alloc (.cells #[.int .i64 0,.int .i64 0] 65)):=zA
     have HI9:=hid (((HI6.out.later hb7).later hb8).later hba)
     have hG9:Blk (w8.alloc (.cells #[.int .i64 0,.int .i64 0] 65)) w8.heap.size 65 #[.int .i64 0,.int .i64 0]:=Blk.new _ _ _
     obtain⟨p0,p1,p2,p3,lp⟩:=Bd hG9
     clear hb7 hb8 hba HI6 HFA HSH
     go_wp2_with fail
     refine (HFG.out _).mono ?_
     rintro r w10 ⟨rfl,hb10⟩
     have HI10:=hid (HI9.out.later hb10)
     clear hb10 HI9 p0 p1 p2 p3 lp hG9 HFG
     by_cases hc:code=0
     ·have dc:(code==(0:Int))=true:=by simp[hc]
      have HAT:=hid (fun V:World=>Pn V 0)
      have HTK:=hid (HT2.out hc)
      subst hc
      obtain⟨q0,q1,q2,q3,lq⟩:=Bd HI10.out.res
      go_wp2_with fail
      refine (HAT.out _).mono ?_
      rintro r w11 ⟨rfl,hb11⟩
      have HI11:=hid (HI10.out.later hb11)
      clear hb11 HI10 q0 q1 q2 q3 lq
      obtain⟨q0,q1,q2,q3,lq⟩:=Bd HI11.out.res
      go_wp2_with fail
      refine Ax (v:=.tuple #[.bool true,.agg #[.int .i64 0,.int .i64 0]]) ZK rfl (EJ.mk (HI11.out.fin hgl HTK.out _ _))
     ·have dc:(code==(0:Int))=false:=by simp[hc]
      have HAT:=hid (fun V:World=>Gp V code 0 hc)
      have HTK:=hid (HT3.out hc)
      clear hc
      obtain⟨q0,q1,q2,q3,lq⟩:=Bd HI10.out.res
      go_wp2_with fail
      refine (HAT.out _).mono ?_
      rintro r w11 ⟨rfl,hb11⟩
      have HI11:=hid (HI10.out.later hb11)
      clear hb11 HI10 q0 q1 q2 q3 lq
      obtain⟨q0,q1,q2,q3,lq⟩:=Bd HI11.out.res
      go_wp2_with fail
      refine Ax (v:=.tuple #[.bool false,.agg #[.int .i64 code,.int .i64 0]]) ZK rfl (EJ.mk (HI11.out.fin hgl HTK.out _ _))
    ·have HSH0:=hid (fun V:World=>IF V e9.k e9.f at_ hk)
     obtain⟨VV,hVV⟩:∃VV:Int,VV=wrap64 (e9.f+at_):=⟨_,rfl⟩
     rw[←hVV] at HSH0
     have HTK:=hid (h1 hk)
     rw[←hVV] at HTK
     have HFG:=hid (fun V:World=>(by have:=BK V e9.k VV;rw[Ae hk] at this;exact this:Calls Tryz.prog 65 #[.agg #[.int .i64 e9.k,.int .i64 VV]] V fun r w'=>r=.returned (.bool false)∧Below V.heap.size V w'))
     clear h1 h2 h3 hk hVV
     go_wp2_with fail
     refine HFA.out.mono ?_
     rintro r w7 ⟨rfl,hb7⟩
     go_wp2_with fail
     refine (HSH0.out _).mono ?_
     rintro r w8 ⟨rfl,hb8⟩
     have hba:Below w8.heap.size w8 (w8.alloc (.cells #[.int .i64 e9.k,.int .i64 VV] 65)):=zA
     have HI9:=hid (((HI6.out.later hb7).later hb8).later hba)
     have HG9:Hid (Blk (w8.alloc (.cells #[.int .i64 e9.k,.int .i64 VV] 65)) w8.heap.size 65 #[.int .i64 e9.k,.int .i64 VV]):=hid (Blk.new _ _ _)
     obtain⟨p0,p1,p2,p3,lp⟩:=Bd HG9.out
     clear hb7 hb8 hba HI6 HFA HSH0
     go_wp2_with fail
     refine (HFG.out _).mono ?_
     rintro r w10 ⟨rfl,hb10⟩
     have HI10:=hid (HI9.out.later hb10)
     have hG10:=HG9.out.later hb10
     clear hb10 HI9 p0 p1 p2 p3 lp HG9 HFG
     obtain⟨p0,p1,p2,p3,lp⟩:=Bd hG10
     obtain⟨q0,q1,q2,q3,lq⟩:=Bd HI10.out.res
     go_wp2_with fail
     go_region
     all_goals
      go_wp2
      refine Ax (v:=.tuple #[.bool false,.agg #[.int .i64 e9.k,.int .i64 VV]]) ZK rfl (EJ.mk ?_)
      first | exact HI10.out.fin hgl HTK.out _ _ | exact (HI10.out.later (show Below w10.heap.size w10 w10.drew by (repeat (first | with_reducible exact Below.refl _ _ | with_reducible assumption | (with_reducible refine Aw ?_ _) | (with_reducible refine Below.setCell ?_ zE _) | (with_reducible refine Below.drew ?_) | (with_reducible refine below_drewN ?_ _) | (refine Aj zG ?_))))).fin hgl HTK.out _ _
 ·rw[Ae hk0] at HP
  have hfin:∀W',Below w.heap.size w W'→EZ w g v vm vo σ E W' false K1 F1:=fun W' hW=>by
   by_cases hk1:s.k=1
   ·have e1:K1=0:=by rw[HK1.out,Ag hk1]
    have e2:F1=0:=by rw[HF1.out,Ag (.inr hk1)]
    rw[e1,e2]
    exact EZ.wait HH.out hW zB3
   ·have e1:K1=s.k:=by rw[HK1.out,Ai hk1]
    have e2:F1=s.f:=zB4
    rw[e1,e2]
    exact EZ.bad HH.out hW hk0 (by rw[HN.out,Ai hk1,Ag hk0])
  have HFIN:=hid hfin
  have HR0:=hid hR0
  have HBA0:=hid hba0
  clear hfin HN HK1 HF1 HA HAW hk0 hR0 hba0
  go_enter Tryz.func155,Tryz.ntmps155
  go_wp2_with fail
  refine HP.out.mono ?_
  rintro r w1 ⟨va,na,ca,at_,rfl,hat,hb1⟩
  have hR2:=(HR0.out.later hb1).alloc (.cells #[.int .i64 K1,.int .i64 F1] 65)
  have hG2:Blk (w1.alloc (.cells #[.int .i64 K1,.int .i64 F1] 65)) w1.heap.size 65 #[.int .i64 K1,.int .i64 F1]:=Blk.new _ _ _
  have hbw:=Aw (Aj hb1 HBA0.out) (.cells #[.int .i64 K1,.int .i64 F1] 65)
  obtain⟨p0,p1,p2,p3,lp⟩:=Bd hG2
  obtain⟨q0,q1,q2,q3,lq⟩:=Bd hR2
  clear hat hb1 hR2 hG2 HR0 HP
  go_wp2_with fail
  go_region
  all_goals
   go_wp2
   refine Ax (v:=.tuple #[.bool false,.agg #[.int .i64 K1,.int .i64 F1]]) ZK rfl (EJ.mk (HFIN.out _ zA))
structure UC(f:BX):Prop where
 ep:inU f.ep
 n:0≤f.n∧f.n≤65536
 en:0≤f.en∧f.en≤65536
 fi:inU f.first
 fe:inU f.fin
 a:0≤f.at_∧f.at_≤1099511627776
 s:0≤f.size∧f.size≤1099511627776
def Ln(f:BX):Bool:=if f.n=0 then decide (f.first=0)&&decide (f.fin=0) else decide (f.first<f.fin)&&(decide (f.fin≤4611686018427387904)&&decide (f.en≤f.fin-f.first))
theorem Qp{f:BX}(h:UC f):Ko f=(epR f.ep&&((decide (0≤f.n)&&(decide (f.n≤16)&&(decide (f.n≤f.en)&&decide (f.en≤f.n*16))))&&((decide (1≤f.at_)&&(decide (f.at_≤1099511627775)&&(decide (1≤f.size)&&decide (f.size≤2097152))))&&Ln f))):=by
 have h0:=h.fi.1
 rw[Bool.eq_iff_iff]
 unfold Ko Ln
 by_cases hn:f.n=0
 ·simp only[Ag hn,Ap,Ao]
  constructor
  ·rintro⟨e,h⟩
   exact⟨e,zC⟩
  ·rintro⟨e,h⟩
   exact⟨e,zC⟩
 ·simp only[Ai hn,Ap,Ao]
  constructor
  ·rintro⟨e,h⟩
   exact⟨e,zC⟩
  ·rintro⟨e,h⟩
   exact⟨e,zC⟩
theorem Ot(f:BX)(hN:UC f)(w:World):
  Calls Tryz.prog 327 #[.agg f.val] w fun r w'=>r=.returned (.bool (Ln f))∧Below w.heap.size w w':=by
 obtain⟨ep,n,en,fi,fe,a,s⟩:=f
 obtain⟨⟨e0,e1⟩,⟨n0,n1⟩,⟨m0,m1⟩,⟨f0,f1⟩,⟨g0,g1⟩,_,_⟩:=hN
 dsimp only[BX.val] at*
 have hb0:Below w.heap.size w (w.alloc (.cells #[.int .u64 ep,.int .i64 n,.int .i64 en,.int .u64 fi,.int .u64 fe,.int .i64 a,.int .i64 s] 81)):=zA
 obtain⟨R,hR⟩:∃R,R=Ln ⟨ep,n,en,fi,fe,a,s⟩:=⟨_,rfl⟩
 rw[←hR]
 unfold Ln at hR
 dsimp only at hR
 have hem:en%18446744073709551616=en:=zC
 by_cases hn:n=0
 ·have dn:(n==(0:Int))=true:=by simp[hn]
  rw[Ag hn] at hR
  have HR:=hid hR
  clear hR hn
  by_cases q1:fi=0
  ·have dq1:(fi==0)=true:=(by simp[q1]);have eq1:=hid (Ad q1);clear q1
   by_cases q2:fe=0
   ·have dq2:(fe==0)=true:=(by simp[q2]);have eq2:=hid (Ad q2);clear q2
    go_enter IM,G8
    go_wp2_with fail
    go_ret
    exact⟨A3 (fun q=>Ending.returned (Value.bool q)) (IQ (by rw[HR.out,eq1.out,eq2.out];rfl)),hb0⟩
   ·have dq2:(fe==0)=false:=(by simp[q2]);have eq2:=hid (Ae q2);clear q2
    go_enter IM,G8
    go_wp2_with fail
    go_ret
    exact⟨A3 (fun q=>Ending.returned (Value.bool q)) (IQ (by rw[HR.out,eq1.out,eq2.out];rfl)),hb0⟩
  ·have dq1:(fi==0)=false:=(by simp[q1]);have eq1:=hid (Ae q1);clear q1
   go_enter IM,G8
   go_wp2_with fail
   go_ret
   exact⟨A3 (fun q=>Ending.returned (Value.bool q)) (IQ (by rw[HR.out,eq1.out];rfl)),hb0⟩
 ·have dn:(n==(0:Int))=false:=by simp[hn]
  rw[Ai hn] at hR
  have HR:=hid hR
  clear hR hn
  by_cases q1:fi<fe
  ·have dq1:decide (fi<fe)=true:=Ad q1
   by_cases q2:fe≤4611686018427387904
   ·have dq2:decide (fe≤4611686018427387904)=true:=Ad q2
    by_cases q3:en≤fe-fi
    ·have dq3:decide (en≤fe-fi)=true:=Ad q3
     go_enter IM,G8
     go_wp2_with fail
     go_ret
     exact⟨A3 (fun q=>Ending.returned (Value.bool q)) (IQ (by rw[HR.out,dq1,dq2,dq3];rfl)),hb0⟩
    ·have dq3:decide (en≤fe-fi)=false:=Ae q3
     go_enter IM,G8
     go_wp2_with fail
     go_ret
     exact⟨A3 (fun q=>Ending.returned (Value.bool q)) (IQ (by rw[HR.out,dq1,dq2,dq3];rfl)),hb0⟩
   ·have dq2:decide (fe≤4611686018427387904)=false:=Ae q2
    go_enter IM,G8
    go_wp2_with fail
    go_ret
    exact⟨A3 (fun q=>Ending.returned (Value.bool q)) (IQ (by rw[HR.out,dq1,dq2];rfl)),hb0⟩
  ·have dq1:decide (fi<fe)=false:=Ae q1
   go_enter IM,G8
   go_wp2_with fail
   go_ret
   exact⟨A3 (fun q=>Ending.returned (Value.bool q)) (IQ (by rw[HR.out,dq1];rfl)),hb0⟩
theorem Ou(f:BX)(hN:UC f)(w:World):
  Calls Tryz.prog 265 #[.agg f.val] w fun r w'=>r=.returned (.bool (Ko f))∧Below w.heap.size w w':=by
 have HS:=hid (fun W:World=>Ot f hN W)
 rw[Qp hN]
 obtain⟨SP,hSP⟩:∃SP,SP=Ln f:=⟨_,rfl⟩
 rw[←hSP] at HS ⊢
 obtain⟨ep,n,en,fi,fe,a,s⟩:=f
 obtain⟨⟨e0,e1⟩,⟨n0,n1⟩,⟨m0,m1⟩,⟨f0,f1⟩,⟨g0,g1⟩,⟨a0,a1⟩,s0,s1⟩:=hN
 dsimp only[BX.val] at*
 obtain⟨CT,hCT⟩:∃CT,CT=(decide (0≤n)&&(decide (n≤16)&&(decide (n≤en)&&decide (en≤n*16)))):=⟨_,rfl⟩
 obtain⟨PLT,hPT⟩:∃PLT,PLT=(decide (1≤a)&&(decide (a≤1099511627775)&&(decide (1≤s)&&decide (s≤2097152)))):=⟨_,rfl⟩
 rw[←hCT,←hPT]
 have HCT:=hid hCT
 have HPT:=hid hPT
 have HE:=hid (ED ep)
 generalize epR ep=EP at*
 have hb0:Below w.heap.size w (w.alloc (.cells #[.int .u64 ep,.int .i64 n,.int .i64 en,.int .u64 fi,.int .u64 fe,.int .i64 a,.int .i64 s] 81)):=zA
 have HX:Hid (Blk (w.alloc (.cells #[.int .u64 ep,.int .i64 n,.int .i64 en,.int .u64 fi,.int .u64 fe,.int .i64 a,.int .i64 s] 81)) w.heap.size 81 #[.int .u64 ep,.int .i64 n,.int .i64 en,.int .u64 fi,.int .u64 fe,.int .i64 a,.int .i64 s]):=hid (Blk.new _ _ _)
 clear hCT hPT hSP
 go_enter Tryz.func265,Tryz.ntmps265
 go_upto_region 1 with (fail)
 generalize (w.alloc (.cells #[.int .u64 ep,.int .i64 n,.int .i64 en,.int .u64 fi,.int .u64 fe,.int .i64 a,.int .i64 s] 81))=w0 at*
 have x0:w0.cell? ⟨w.heap.size,0,none⟩=some (.int .u64 ep):=HX.out.cell 0
 have x1:w0.cell? ⟨w.heap.size,1,none⟩=some (.int .i64 n):=HX.out.cell 1
 have x2:w0.cell? ⟨w.heap.size,2,none⟩=some (.int .i64 en):=HX.out.cell 2
 have x3:w0.cell? ⟨w.heap.size,3,none⟩=some (.int .u64 fi):=HX.out.cell 3
 have x4:w0.cell? ⟨w.heap.size,4,none⟩=some (.int .u64 fe):=HX.out.cell 4
 have x5:w0.cell? ⟨w.heap.size,5,none⟩=some (.int .i64 a):=HX.out.cell 5
 have x6:w0.cell? ⟨w.heap.size,6,none⟩=some (.int .i64 s):=HX.out.cell 6
 go_cut [3] from 5 to 27 (fun v V=>v=.bool CT∧w0=V)
 case first=>
  by_cases h1:0≤n
  ·have dh1:decide (0≤n)=true:=Ad h1
   by_cases h2:n≤16
   ·have dh2:decide (n≤16)=true:=Ad h2
    by_cases h3:n≤en
    ·have dh3:decide (n≤en)=true:=Ad h3
     by_cases h4:en≤n*16
     ·have dh4:decide (en≤n*16)=true:=Ad h4
      go_wp2_with fail
      go_meet
      case rel=>exact ⟨A3 Value.bool (IQ (by rw[HCT.out,dh1,dh2,dh3,dh4];rfl)),rfl⟩
     ·have dh4:decide (en≤n*16)=false:=Ae h4
      go_wp2_with fail
      go_meet
      case rel=>exact ⟨A3 Value.bool (IQ (by rw[HCT.out,dh1,dh2,dh3,dh4];rfl)),rfl⟩
    ·have dh3:decide (n≤en)=false:=Ae h3
     go_wp2_with fail
     go_meet
     case rel=>exact ⟨A3 Value.bool (IQ (by rw[HCT.out,dh1,dh2,dh3];rfl)),rfl⟩
   ·have dh2:decide (n≤16)=false:=Ae h2
    go_wp2_with fail
    go_meet
    case rel=>exact ⟨A3 Value.bool (IQ (by rw[HCT.out,dh1,dh2];rfl)),rfl⟩
  ·exact absurd n0 h1
 case rest=>
  obtain⟨rfl,rfl⟩:=hcut
  go_upto_region 2 with (fail)
  go_cut [4] from 28 to 45 (fun v V=>v=.bool PLT∧w0=V)
  case first=>
   by_cases h5:1≤a
   ·have dh5:decide (1≤a)=true:=Ad h5
    by_cases h6:a≤1099511627775
    ·have dh6:decide (a≤1099511627775)=true:=Ad h6
     by_cases h7:1≤s
     ·have dh7:decide (1≤s)=true:=Ad h7
      by_cases h8:s≤2097152
      ·have dh8:decide (s≤2097152)=true:=Ad h8
       go_wp2_with fail
       go_meet
       case rel=>exact ⟨A3 Value.bool (IQ (by rw[HPT.out,dh5,dh6,dh7,dh8];rfl)),rfl⟩
      ·have dh8:decide (s≤2097152)=false:=Ae h8
       go_wp2_with fail
       go_meet
       case rel=>exact ⟨A3 Value.bool (IQ (by rw[HPT.out,dh5,dh6,dh7,dh8];rfl)),rfl⟩
     ·have dh7:decide (1≤s)=false:=Ae h7
      go_wp2_with fail
      go_meet
      case rel=>exact ⟨A3 Value.bool (IQ (by rw[HPT.out,dh5,dh6,dh7];rfl)),rfl⟩
    ·have dh6:decide (a≤1099511627775)=false:=Ae h6
     go_wp2_with fail
     go_meet
     case rel=>exact ⟨A3 Value.bool (IQ (by rw[HPT.out,dh5,dh6];rfl)),rfl⟩
   ·have dh5:decide (1≤a)=false:=Ae h5
    go_wp2_with fail
    go_meet
    case rel=>exact ⟨A3 Value.bool (IQ (by rw[HPT.out,dh5];rfl)),rfl⟩
  case rest=>
   obtain⟨rfl,rfl⟩:=hcut
   clear HCT HPT
   go_wp2_with fail
   refine (HE.out _).mono ?_
   rintro r w1 ⟨rfl,rfl⟩
   cases EP
   ·go_wp2_with fail
    go_ret
    exact⟨rfl,hb0⟩
   ·cases CT
    ·go_wp2_with fail
     go_ret
     exact⟨rfl,hb0⟩
    ·cases PLT
     ·go_wp2_with fail
      go_ret
      exact⟨rfl,hb0⟩
     ·go_wp2_with fail
      refine (HS.out _).mono ?_
      rintro r w2 ⟨rfl,hb2⟩
      have hb3:=Aj hb2 hb0
      go_wp2_with fail
      go_ret
      exact⟨zM,hb3⟩
structure FtI(w w1:World)(g:Nat)(P:List UInt8)(a:Option Addr)(s:Rs)(W:World):Prop where
 inv:CS w1 W g P a s
 mb:Blk W w.heap.size 81 #[.int .u64 0,.int .i64 0,.int .i64 0,.int .u64 0,.int .u64 0,.int .i64 0,.int .i64 0]
 fb:Blk W (w.heap.size+1) 65 #[.int .i64 0,.int .i64 0]
 bl:Below w.heap.size w W
 lz:w.heap.size+1<g
section
variable {w w1 W W':World} {g:Nat} {P:List UInt8} {a:Option Addr} {s s':Rs}
theorem FtI.step(h:FtI w w1 g P a s W)(k:AE W g P a s' W'):FtI w w1 g P a s' W':=by
 have h1:=h.lz
 exact⟨h.inv.step k,h.mb.tch k.2 zC,h.fb.tch k.2 zC,h.bl.trans (k.2.Ch h.bl.size fun b hb e=>zC),h1⟩
theorem FtI.row(h:FtI w w1 g P a s W)(hb:Below w1.heap.size W W'):FtI w w1 g P a s W':=by
 have h1:=h.lz
 have h2:=h.inv.lt
 exact⟨h.inv.row hb,h.mb.below hb zC,h.fb.below hb zC,h.bl.trans (hb.mono zC),h1⟩
theorem FtI.later(h:FtI w w1 g P a s W)(hb:Below W.heap.size W W'):FtI w w1 g P a s W':=h.row (hb.mono h.inv.tch.size)
theorem Jq{v3 v4 v5 v6:Value}(h:Blk W g t #[v0,v1,v2,v3,v4,v5,v6]):W.cell? ⟨g,0,none⟩=some v0∧W.cell? ⟨g,1,none⟩=some v1∧W.cell? ⟨g,2,none⟩=some v2∧W.cell? ⟨g,3,none⟩=some v3∧W.cell? ⟨g,4,none⟩=some v4∧W.cell? ⟨g,5,none⟩=some v5∧W.cell? ⟨g,6,none⟩=some v6∧g<W.heap.size:=
 ⟨h.cell 0,h.cell 1,h.cell 2,h.cell 3,h.cell 4,h.cell 5,h.cell 6,h.lt⟩
theorem K9{cs:Array Value}(h:Blk W g t cs):W.frozen? ⟨g,0,none⟩=false∧W.frozen? ⟨g,1,none⟩=false∧W.frozen? ⟨g,2,none⟩=false∧W.frozen? ⟨g,3,none⟩=false∧W.frozen? ⟨g,4,none⟩=false∧W.frozen? ⟨g,5,none⟩=false∧W.frozen? ⟨g,6,none⟩=false:=
 ⟨h.free 0,h.free 1,h.free 2,h.free 3,h.free 4,h.free 5,h.free 6⟩
end
set_option maxHeartbeats 12800000 in
theorem Kn(w:World)(P:List UInt8)(a:Option Addr)(n c:Nat)(hl:Am.r (·<w.heap.size) w [.slice a n c] P)(hP:P.length≤1000000000):
  Calls Tryz.prog 199 #[.slice a n c] w fun r w'=>r=.returned (.tuple #[.agg (Gb P).1.val,.agg #[.int .i64 (Gb P).2.1,.int .i64 (Gb P).2.2]])∧Below w.heap.size w w':=by
 obtain⟨rfl,hmx,hcc,hcm⟩:=AL hl
 have HN:=hid (fun (W:World) (hW:Below w.heap.size w W)=>Lo W P a _ c (lift hl hW))
 have hFN:UC (Hk P).2:=by
  unfold Hk
  dsimp only
  have hI:∀(s:Rs) (m:Nat),0≤((s.int P (m:Int)).2:Int)∧((s.int P (m:Int)).2:Int)≤(m:Int):=fun s m=>by
   have:=Rs.E6 (B:=P) (s:=s) (m:=(m:Int))
   omega
  have hU:∀s:Rs,inU ((s.num P).2:Int):=fun s=>by
   have:=Rs.ET (B:=P) (s:=s)
   unfold inU
   omega
  exact⟨Rs.AaO,hI _ 65536,hI _ 65536,hU _,hU _,hI _ 1099511627776,hI _ 1099511627776⟩
 have HRT:=hid (fun (W:World)=>Ou (Hk P).2 hFN W)
 clear hFN
 unfold Gb Ml
 obtain⟨FB,hFB⟩:∃FB,FB=Ko (Hk P).2:=⟨_,rfl⟩
 rw[←hFB] at HRT ⊢
 clear hFB
 generalize hfs:Hk P=FS at*
 unfold Hk at hfs
 dsimp only at hfs
 have HB:=hid (fun (W:World) (g:Nat) (hW:AS W g P a ⟨0,0,0⟩)=>KG W hW)
 generalize (⟨0,0,0⟩:Rs).byte P=U at*
 obtain⟨s1,y⟩:=U
 dsimp only at*
 have hy:=y.toNat_lt
 have HF1:=hid (fun (W:World) (g:Nat) (hW:AS W g P a s1)=>Bx W hW 7 0 zL)
 have hy3:(y=3)=(y.toNat=3):=by
  apply propext
  constructor
  ·rintro rfl
   rfl
  ·intro h
   exact UInt8.toNat_inj.1 h
 simp only[hy3] at hfs
 clear hy3
 generalize y.toNat=yn at*
 generalize hs2:(if yn=3 then s1 else s1.fail 7 0)=s2 at*
 have HS2:=hid hs2
 clear hs2
 have HE:=hid (fun (W:World) (g:Nat) (hW:AS W g P a s2)=>Kp W hW hP)
 generalize s2.ep P=X2 at*
 obtain⟨s3,e⟩:=X2
 dsimp only at*
 have HM1:=hid (fun (W:World) (g:Nat) (hW:AS W g P a s3)=>CE W hW zC 65536 zL)
 generalize s3.int P 65536=X3 at*
 obtain⟨s4,m1⟩:=X3
 dsimp only at*
 have HM2:=hid (fun (W:World) (g:Nat) (hW:AS W g P a s4)=>CE W hW zC 65536 zL)
 generalize s4.int P 65536=X4 at*
 obtain⟨s5,m2⟩:=X4
 dsimp only at*
 have HM3:=hid (fun (W:World) (g:Nat) (hW:AS W g P a s5)=>CW W hW zC)
 generalize s5.num P=X5 at*
 obtain⟨s6,m3⟩:=X5
 dsimp only at*
 have HM4:=hid (fun (W:World) (g:Nat) (hW:AS W g P a s6)=>CW W hW zC)
 generalize s6.num P=X6 at*
 obtain⟨s7,m4⟩:=X6
 dsimp only at*
 have HM5:=hid (fun (W:World) (g:Nat) (hW:AS W g P a s7)=>CE W hW zC 1099511627776 zL)
 generalize s7.int P 1099511627776=X7 at*
 obtain⟨s8,m5⟩:=X7
 dsimp only at*
 have HM6:=hid (fun (W:World) (g:Nat) (hW:AS W g P a s8)=>CE W hW zC 1099511627776 zL)
 generalize s8.int P 1099511627776=X8 at*
 obtain⟨s9,m6⟩:=X8
 dsimp only at*
 subst hfs
 dsimp only[BX.val] at*
 have HFL9:=hid (fun (W:World) (g:Nat) (hW:AS W g P a s9)=>Bx W hW 3 0 zL)
 obtain⟨s10,hs10⟩:∃s10,s10=if FB=true then s9 else s9.fail 3 0:=⟨_,rfl⟩
 rw[←hs10]
 have HS10:=hid hs10
 have HEND:=hid (fun (W:World) (g:Nat) (hW:AS W g P a s10)=>SV W hW)
 generalize s10.fin P.length=s11 at*
 have HFT:=hid (fun (W:World) (g:Nat) (hW:AS W g P a s11)=>H7 W hW)
 have HGD:=hid (fun (W:World)=>BK W s11.k s11.f)
 obtain⟨R,hR⟩:∃R:BX × Int × Int,R=(if s11.k=0 then ((⟨e,m1,m2,m3,m4,m5,m6⟩:BX),0,0) else (Qo,s11.k,s11.f)):=⟨_,rfl⟩
 rw[←hR]
 have HRS:=hid hR
 clear hl hs10 hR
 go_enter Tryz.func199,Tryz.ntmps199
 go_upto_region 1 with (fail)
 have hM0:Blk ((w.alloc (.cells #[.int .u64 0,.int .i64 0,.int .i64 0,.int .u64 0,.int .u64 0,.int .i64 0,.int .i64 0] 81)).alloc (.cells #[.int .i64 0,.int .i64 0] 65)) w.heap.size 81 #[.int .u64 0,.int .i64 0,.int .i64 0,.int .u64 0,.int .u64 0,.int .i64 0,.int .i64 0]:=zD
 have hF0:Blk ((w.alloc (.cells #[.int .u64 0,.int .i64 0,.int .i64 0,.int .u64 0,.int .u64 0,.int .i64 0,.int .i64 0] 81)).alloc (.cells #[.int .i64 0,.int .i64 0] 65)) (w.heap.size+1) 65 #[.int .i64 0,.int .i64 0]:=zD
 have hb0:Below w.heap.size w ((w.alloc (.cells #[.int .u64 0,.int .i64 0,.int .i64 0,.int .u64 0,.int .u64 0,.int .i64 0,.int .i64 0] 81)).alloc (.cells #[.int .i64 0,.int .i64 0] 65)):=zA
 have hz0:w.heap.size+1<((w.alloc (.cells #[.int .u64 0,.int .i64 0,.int .i64 0,.int .u64 0,.int .u64 0,.int .i64 0,.int .i64 0] 81)).alloc (.cells #[.int .i64 0,.int .i64 0] 65)).heap.size:=zM
 generalize ((w.alloc (.cells #[.int .u64 0,.int .i64 0,.int .i64 0,.int .u64 0,.int .u64 0,.int .i64 0,.int .i64 0] 81)).alloc (.cells #[.int .i64 0,.int .i64 0] 65))=w0 at*
 go_wp2_with fail
 refine (HN.out w0 hb0).mono ?_
 rintro r w1 ⟨rfl,hrd,hb1⟩
 have hI1:FtI w w1 w0.heap.size P a ⟨0,0,0⟩ w1:=⟨CS.refl hrd,hM0.later hb1,hF0.later hb1,Aj hb1 hb0,hz0⟩
 have HI1:=hid hI1
 generalize w0.heap.size=g at*
 clear hI1 hM0 hF0 hb0 hz0 hrd hb1 HN
 go_wp2_with fail
 refine (HB.out _ _ HI1.out.inv.rd).mono ?_
 rintro r w2 ⟨rfl,hst2⟩
 have HI2:=hid (HI1.out.step hst2)
 clear hst2 HI1 HB
 go_upto_if 11 with (fail)
 go_cut [] from 11 to 13 (fun V=>Hid (FtI w w1 g P a s2 V))
 case first=>
  by_cases hyn:yn=3
  ·have hs2:=HS2.out
   rw[Ag hyn] at hs2
   have d1:((yn:Int) !=(3:Int))=false:=by simp[hyn]
   subst hs2
   clear hyn
   go_wp2_with fail
   go_meet
   case rel=>exact HI2
  ·have hs2:=HS2.out
   rw[Ai hyn] at hs2
   have d1:((yn:Int) !=(3:Int))=true:=zI
   rw[hs2] at HF1
   clear hyn
   go_wp2_with fail
   refine (HF1.out _ _ HI2.out.inv.rd).mono ?_
   rintro r w3 ⟨rfl,hst3⟩
   have HI3:=hid (HI2.out.step hst3)
   go_wp2_with fail
   go_meet
   case rel=>exact HI3
 case rest=>
  have HI3:=hcut
  clear HI2 HF1 HS2
  go_wp2_with fail
  refine (HE.out _ _ HI3.out.inv.rd).mono ?_
  rintro r w4 ⟨rfl,hst4⟩
  have HI4:=hid (HI3.out.step hst4)
  have HI5:=hid (HI4.out.later (show Below w4.heap.size w4 (w4.alloc (.cells #[.int .u64 (e:Int),.int .i64 0,.int .i64 0,.int .u64 0,.int .u64 0,.int .i64 0,.int .i64 0] 81)) by (repeat (first | with_reducible exact Below.refl _ _ | with_reducible assumption | (with_reducible refine Aw ?_ _) | (with_reducible refine Below.setCell ?_ zE _) | (with_reducible refine Below.drew ?_) | (with_reducible refine below_drewN ?_ _) | (refine Aj zG ?_)))))
  have HG5:Hid (Blk (w4.alloc (.cells #[.int .u64 (e:Int),.int .i64 0,.int .i64 0,.int .u64 0,.int .u64 0,.int .i64 0,.int .i64 0] 81)) w4.heap.size 81 #[.int .u64 (e:Int),.int .i64 0,.int .i64 0,.int .u64 0,.int .u64 0,.int .i64 0,.int .i64 0]):=hid (Blk.new _ _ _)
  have hgf:w1.heap.size≤w4.heap.size:=HI4.out.inv.tch.size
  have hgl:g<w1.heap.size:=HI4.out.inv.lt
  have hlz:w.heap.size+1<g:=HI4.out.lz
  go_upto_region 5 with (fail)
  generalize (w4.alloc (.cells #[.int .u64 (e:Int),.int .i64 0,.int .i64 0,.int .u64 0,.int .u64 0,.int .i64 0,.int .i64 0] 81))=w5 at*
  generalize w4.heap.size=gf at*
  clear HI3 HI4 hst4
  go_wp2_with fail
  refine (HM1.out _ _ HI5.out.inv.rd).mono ?_
  rintro r u1 ⟨rfl,hst⟩
  have HJ:=hid (HI5.out.step hst)
  have HK:=hid (HG5.out.tch hst.2 zC)
  clear hst HI5 HG5
  go_wp2_with fail
  refine (HM2.out _ _ HJ.out.inv.rd).mono ?_
  rintro r u2 ⟨rfl,hst⟩
  have HJ2:=hid (HJ.out.step hst)
  have HK2:=hid (HK.out.tch hst.2 zC)
  obtain⟨y0,y1,y2,y3,y4,y5,y6,ly⟩:=Jq HK2.out
  obtain⟨z0,z1,z2,z3,z4,z5,z6⟩:=K9 HK2.out
  clear hst HJ HK
  go_upto_region 6 with (fail)
  have HI6:=hid (HJ2.out.row (show Below w1.heap.size u2 ((u2.setCell ⟨gf,1,none⟩ (.int .i64 (m1:Int))).setCell ⟨gf,2,none⟩ (.int .i64 (m2:Int))) from (Below.refl _ _ |>.setCell zH _).setCell zH _))
  have HG6:Hid (Blk ((u2.setCell ⟨gf,1,none⟩ (.int .i64 (m1:Int))).setCell ⟨gf,2,none⟩ (.int .i64 (m2:Int))) gf 81 #[.int .u64 (e:Int),.int .i64 (m1:Int),.int .i64 (m2:Int),.int .u64 0,.int .u64 0,.int .i64 0,.int .i64 0]):=hid ((HK2.out.set 1 _).set 2 _)
  generalize ((u2.setCell ⟨gf,1,none⟩ (.int .i64 (m1:Int))).setCell ⟨gf,2,none⟩ (.int .i64 (m2:Int)))=w6 at*
  clear y0 y1 y2 y3 y4 y5 y6 ly z0 z1 z2 z3 z4 z5 z6 HJ2 HK2
  go_wp2_with fail
  refine (HM3.out _ _ HI6.out.inv.rd).mono ?_
  rintro r u1 ⟨rfl,hst⟩
  have HJ:=hid (HI6.out.step hst)
  have HK:=hid (HG6.out.tch hst.2 zC)
  clear hst HI6 HG6
  go_wp2_with fail
  refine (HM4.out _ _ HJ.out.inv.rd).mono ?_
  rintro r u2 ⟨rfl,hst⟩
  have HJ2:=hid (HJ.out.step hst)
  have HK2:=hid (HK.out.tch hst.2 zC)
  obtain⟨y0,y1,y2,y3,y4,y5,y6,ly⟩:=Jq HK2.out
  obtain⟨z0,z1,z2,z3,z4,z5,z6⟩:=K9 HK2.out
  clear hst HJ HK
  go_upto_region 7 with (fail)
  have HI7:=hid (HJ2.out.row (show Below w1.heap.size u2 ((u2.setCell ⟨gf,3,none⟩ (.int .u64 (m3:Int))).setCell ⟨gf,4,none⟩ (.int .u64 (m4:Int))) from (Below.refl _ _ |>.setCell zH _).setCell zH _))
  have HG7:Hid (Blk ((u2.setCell ⟨gf,3,none⟩ (.int .u64 (m3:Int))).setCell ⟨gf,4,none⟩ (.int .u64 (m4:Int))) gf 81 #[.int .u64 (e:Int),.int .i64 (m1:Int),.int .i64 (m2:Int),.int .u64 (m3:Int),.int .u64 (m4:Int),.int .i64 0,.int .i64 0]):=hid ((HK2.out.set 3 _).set 4 _)
  generalize ((u2.setCell ⟨gf,3,none⟩ (.int .u64 (m3:Int))).setCell ⟨gf,4,none⟩ (.int .u64 (m4:Int)))=w7 at*
  clear y0 y1 y2 y3 y4 y5 y6 ly z0 z1 z2 z3 z4 z5 z6 HJ2 HK2
  go_wp2_with fail
  refine (HM5.out _ _ HI7.out.inv.rd).mono ?_
  rintro r u1 ⟨rfl,hst⟩
  have HJ:=hid (HI7.out.step hst)
  have HK:=hid (HG7.out.tch hst.2 zC)
  clear hst HI7 HG7
  go_wp2_with fail
  refine (HM6.out _ _ HJ.out.inv.rd).mono ?_
  rintro r u2 ⟨rfl,hst⟩
  have HJ2:=hid (HJ.out.step hst)
  have HK2:=hid (HK.out.tch hst.2 zC)
  obtain⟨y0,y1,y2,y3,y4,y5,y6,ly⟩:=Jq HK2.out
  obtain⟨z0,z1,z2,z3,z4,z5,z6⟩:=K9 HK2.out
  clear hst HJ HK
  go_upto_region 8 with (fail)
  have HI8:=hid (HJ2.out.row (show Below w1.heap.size u2 ((u2.setCell ⟨gf,5,none⟩ (.int .i64 (m5:Int))).setCell ⟨gf,6,none⟩ (.int .i64 (m6:Int))) from (Below.refl _ _ |>.setCell zH _).setCell zH _))
  have HG8:Hid (Blk ((u2.setCell ⟨gf,5,none⟩ (.int .i64 (m5:Int))).setCell ⟨gf,6,none⟩ (.int .i64 (m6:Int))) gf 81 #[.int .u64 (e:Int),.int .i64 (m1:Int),.int .i64 (m2:Int),.int .u64 (m3:Int),.int .u64 (m4:Int),.int .i64 (m5:Int),.int .i64 (m6:Int)]):=hid ((HK2.out.set 5 _).set 6 _)
  generalize ((u2.setCell ⟨gf,5,none⟩ (.int .i64 (m5:Int))).setCell ⟨gf,6,none⟩ (.int .i64 (m6:Int)))=w8 at*
  clear y0 y1 y2 y3 y4 y5 y6 ly z0 z1 z2 z3 z4 z5 z6 HJ2 HK2
  obtain⟨y0,y1,y2,y3,y4,y5,y6,ly⟩:=Jq HG8.out
  go_wp2_with fail
  refine (HRT.out _).mono ?_
  rintro r w9 ⟨rfl,hb9⟩
  have HI9:=hid (HI8.out.later hb9)
  have HG9:=hid (HG8.out.later hb9)
  clear y0 y1 y2 y3 y4 y5 y6 ly hb9 HI8 HG8 HRT
  go_upto_if 37 with (fail)
  go_cut [] from 38 to 39 (fun V=>Hid (FtI w w1 g P a s10 V)∧Hid (Blk V gf 81 #[.int .u64 (e:Int),.int .i64 (m1:Int),.int .i64 (m2:Int),.int .u64 (m3:Int),.int .u64 (m4:Int),.int .i64 (m5:Int),.int .i64 (m6:Int)]))
  case first=>
   cases FB
   ·have hs10:=HS10.out
    simp only[Bool.false_eq_true,if_false] at hs10
    rw[←hs10] at HFL9
    go_wp2_with fail
    refine (HFL9.out _ _ HI9.out.inv.rd).mono ?_
    rintro r w10 ⟨rfl,hst10⟩
    have HI10:=hid (HI9.out.step hst10)
    have HG10:=hid (HG9.out.tch hst10.2 zC)
    go_wp2_with fail
    go_meet
    case rel=>exact ⟨HI10,HG10⟩
   ·have hs10:=HS10.out
    simp only[IL] at hs10
    subst hs10
    go_wp2_with fail
    go_meet
    case rel=>exact ⟨HI9,HG9⟩
  case rest=>
   obtain⟨HI10,HG10⟩:=hcut
   clear HI9 HG9 HFL9 HS10
   go_wp2_with fail
   refine (HEND.out _ _ HI10.out.inv.rd).mono ?_
   rintro r w11 ⟨rfl,hst11⟩
   have HI11:=hid (HI10.out.step hst11)
   have HG11:=hid (HG10.out.tch hst11.2 zC)
   clear hst11 HI10 HG10
   go_wp2_with fail
   refine (HFT.out _ _ HI11.out.inv.rd).mono ?_
   rintro r w12 ⟨rfl,hb12⟩
   have hb13:Below w12.heap.size w12 (w12.alloc (.cells #[.int .i64 s11.k,.int .i64 s11.f] 65)):=zA
   have HI13:=hid ((HI11.out.later hb12).later hb13)
   have HG13:=hid ((HG11.out.later hb12).later hb13)
   have HX13:Hid (Blk (w12.alloc (.cells #[.int .i64 s11.k,.int .i64 s11.f] 65)) w12.heap.size 65 #[.int .i64 s11.k,.int .i64 s11.f]):=hid (Blk.new _ _ _)
   have hx12:w1.heap.size≤w12.heap.size:=by have:=HI11.out.inv.tch.size;have:=hb12.size;omega
   clear HI11 HG11 hb12 hb13
   go_upto_region 12 with (fail)
   generalize (w12.alloc (.cells #[.int .i64 s11.k,.int .i64 s11.f] 65))=w13 at*
   generalize w12.heap.size=gx at*
   obtain⟨x0,x1,x2,x3,lx⟩:=Bd HX13.out
   by_cases hk:s11.k=0
   ·rw[Ad hk] at HGD
    have hr:=HRS.out
    rw[Ag hk] at hr
    subst hr
    (try dsimp only)
    clear hk
    go_wp2_with fail
    refine (HGD.out _).mono ?_
    rintro r w14 ⟨rfl,hb14⟩
    have HI14:=HI13.out.later hb14
    have HG14:=HG13.out.later hb14
    obtain⟨y0,y1,y2,y3,y4,y5,y6,ly⟩:=Jq HG14
    obtain⟨m0,m1',m2',m3',m4',m5',m6',lm⟩:=Jq HI14.mb
    obtain⟨z0,z1,z2,z3,z4,z5,z6⟩:=K9 HI14.mb
    obtain⟨q0,q1,q2,q3,lq⟩:=Bd HI14.fb
    have hbl:=HI14.bl
    clear hb14 x0 x1 x2 x3 lx HI14 HG14
    go_wp2_with fail
    refine Ax (v:=.tuple #[.agg #[.int .u64 (e:Int),.int .i64 (m1:Int),.int .i64 (m2:Int),.int .u64 (m3:Int),.int .u64 (m4:Int),.int .i64 (m5:Int),.int .i64 (m6:Int)],.agg #[.int .i64 0,.int .i64 0]]) zAi rfl ⟨rfl,zA⟩
   ·rw[Ae hk] at HGD
    have hr:=HRS.out
    rw[Ai hk] at hr
    subst hr
    (try dsimp only[Qo])
    clear hk
    go_wp2_with fail
    refine (HGD.out _).mono ?_
    rintro r w14 ⟨rfl,hb14⟩
    have HI14:=HI13.out.later hb14
    have HX14:=HX13.out.later hb14
    clear x0 x1 x2 x3 lx
    obtain⟨x0,x1,x2,x3,lx⟩:=Bd HX14
    obtain⟨m0,m1',m2',m3',m4',m5',m6',lm⟩:=Jq HI14.mb
    obtain⟨z0,z1,z2,z3,z4,z5,z6⟩:=K9 HI14.mb
    obtain⟨q0,q1,q2,q3,lq⟩:=Bd HI14.fb
    have hbl:=HI14.bl
    clear hb14 HI14 HX14
    go_wp2_with fail
    go_region
    all_goals
     go_wp2
     refine Ax (v:=.tuple #[.agg #[.int .u64 0,.int .i64 0,.int .i64 0,.int .u64 0,.int .u64 0,.int .i64 0,.int .i64 0],.agg #[.int .i64 s11.k,.int .i64 s11.f]]) zAi rfl ⟨rfl,zA⟩
structure XP(w:World)(g gk gf:Nat)(D:Nat→Prop)(v vm vo:Value)(L:C7)(σ:FSt)(E:List EvX)(fk ff:Int)(f:BX)(V:World):Prop where
 at_:By V g D v vm vo L σ E
 bl:Below w.heap.size w V
 res:Blk V w.heap.size 65 #[.int .i64 0,.int .i64 0]
 fb:Blk V gk 65 #[.int .i64 fk,.int .i64 ff]
 ob:Blk V gf 81 #[.int .u64 f.ep,.int .i64 f.n,.int .i64 f.en,.int .u64 f.first,.int .u64 f.fin,.int .i64 f.at_,.int .i64 f.size]
theorem XP.later{V V':World}{gk gf:Nat}{D:Nat→Prop}{L:C7}{σ:FSt}{E:List EvX}{fk ff:Int}{f:BX}(h:XP w g gk gf D v vm vo L σ E fk ff f V)(hb:Below V.heap.size V V'):XP w g gk gf D v vm vo L σ E fk ff f V':=
 ⟨h.at_.later hb,Aj hb h.bl,h.res.later hb,h.fb.later hb,h.ob.later hb⟩
set_option maxHeartbeats 12800000 in
theorem RK(w:World){g:Nat}{D:Nat→Prop}{v vm vo:Value}{L:C7}{σ:FSt}{E:List EvX}(h:By w g D v vm vo L σ E)(hph:σ.ph=2)(hok:FOk σ)(hfe:σ.fed≤100000000):
  Calls Tryz.prog 285 #[.pointer (some ⟨g,0,none⟩)] w fun r w'=>EJ w g v vm vo σ E r w':=by
 have hB:σ.buf.length≤100000000:=ZM
 obtain⟨R,hR⟩:∃R,R=(⟨0,0,0⟩:Rs).frame σ.buf 2097152:=⟨_,rfl⟩
 obtain⟨s,P⟩:=R
 obtain⟨A,hA⟩:∃A:Int,A=(s.p:Int)-4-(P.length:Int):=⟨_,rfl⟩
 have hn:Bm σ=(if s.k=1 then .wait else if s.k≠0 then .bad s.k s.f else Mk σ P A):=by
  unfold Bm
  rw[Ai zC,Ai zC,Ag hph]
  unfold FM
  rw[←hR,hA]
 have HP:=hid (KZ (w.alloc (.cells #[.int .i64 0,.int .i64 0] 65)) (h.later zA) zC hR.symm)
 have hdl:=Rs.Kl (B:=σ.buf) (s:=⟨0,0,0⟩) (m:=2097152)
 have hpB:=(Rs.Ga (B:=σ.buf) (m:=2097152) (Rs.FC σ.buf.length)).ok.le
 rw[←hR] at hdl hpB
 dsimp only at hdl hpB
 have hAw:wrap64 (0+A)=A:=ZV
 have hgl:=h.gl
 have HH:=hid h
 have HN:=hid hn
 obtain⟨K1,hK1⟩:∃K1:Int,K1=(if s.k=1 then 0 else s.k):=⟨_,rfl⟩
 obtain⟨F1,hF1⟩:∃F1:Int,F1=(if s.k=0∨s.k=1 then 0 else s.f):=⟨_,rfl⟩
 rw[←hK1,←hF1] at HP
 have HK1:=hid hK1
 have HF1:=hid hF1
 have HA:=hid hA
 have HAW:=hid hAw
 clear h hn hR hK1 hF1 hA hAw
 have hz0:w.heap.size<(w.alloc (.cells #[.int .i64 0,.int .i64 0] 65)).heap.size:=zM
 have hba0:Below w.heap.size w (w.alloc (.cells #[.int .i64 0,.int .i64 0] 65)):=zA
 have hR0:Blk (w.alloc (.cells #[.int .i64 0,.int .i64 0] 65)) w.heap.size 65 #[.int .i64 0,.int .i64 0]:=Blk.new _ _ _
 by_cases hk0:s.k=0
 ·rw[Ad hk0] at HP
  have hn1:Bm σ=Mk σ P A:=zBn
  have hKF:K1=0∧F1=0:=⟨by rw[HK1.out,Ai (by omega),hk0],by rw[HF1.out,Ag (.inl hk0)]⟩
  obtain⟨rfl,rfl⟩:=hKF
  have HN1:=hid hn1
  clear hn1 HN HK1 HF1
  obtain⟨RD,hRD⟩:∃RD,RD=Gb P:=⟨_,rfl⟩
  obtain⟨f,fk,ff⟩:=RD
  have hn2:Bm σ=(if fk≠0 then .bad fk (wrap64 (ff+A)) else if f≠σ.want then .bad 12 0 else .take {σ with ph:=3,foot:=σ.buf.length} []):=by
   rw[HN1.out]
   unfold Mk
   rw[←hRD]
  have HN2:=hid hn2
  have HRP:=hid (fun (V:World) (va:Option Addr) (n ca:Nat) (hV:Am.r (·<V.heap.size) V [.slice va n ca] P)=>(by have:=Kn V P va n ca hV zC;rw[←hRD] at this;exact this:Calls Tryz.prog 199 #[.slice va n ca] V fun r w'=>r=.returned (.tuple #[.agg f.val,.agg #[.int .i64 fk,.int .i64 ff]])∧Below V.heap.size V w'))
  clear hn2 hRD HN1
  go_enter Tryz.func285,Tryz.ntmps285
  go_wp2_with fail
  refine HP.out.mono ?_
  rintro r w1 ⟨va,na,ca,at_,rfl,hat,hb1⟩
  obtain⟨hat2,hrd⟩:=hat hk0
  have hatA:at_=A:=by rw[HA.out,hat2]
  clear hat hat2
  obtain rfl:=hatA
  obtain⟨rfl,_,_,_⟩:=AL hrd
  have hz1:=hb1.size
  have hba1:Below w1.heap.size w1 (w1.alloc (.cells #[.int .i64 0,.int .i64 0] 65)):=zA
  have HB2:=hid (Aw (Aj hb1 hba0) (.cells #[.int .i64 0,.int .i64 0] 65))
  have HR2:=hid ((hR0.later hb1).later hba1)
  have HK2:Hid (Blk (w1.alloc (.cells #[.int .i64 0,.int .i64 0] 65)) w1.heap.size 65 #[.int .i64 0,.int .i64 0]):=hid (Blk.new _ _ _)
  have HRD2:=hid (Am.keep hrd (w':=w1.alloc (.cells #[.int .i64 0,.int .i64 0] 65)) fun q e=>AN _ _ q e.2)
  have hz2:w1.heap.size<(w1.alloc (.cells #[.int .i64 0,.int .i64 0] 65)).heap.size:=zM
  clear hb1 hrd hba1 hba0 hR0 HP
  go_upto_region 4 with (fail)
  generalize w1.alloc (.cells #[.int .i64 0,.int .i64 0] 65)=w2 at*
  generalize w1.heap.size=gk at*
  have HRPd:=hid (HRP.out w2 va _ ca (Am.mono HRD2.out fun q e=>zV))
  go_wp2_with fail
  refine HRPd.out.mono ?_
  rintro r w3 ⟨rfl,hb3⟩
  unfold BX.val
  have HB3:=hid (Aj hb3 HB2.out)
  have HR3:=hid (HR2.out.later hb3)
  have hK3:=HK2.out.later hb3
  have HK3:=hid hK3
  obtain⟨k0,k1,k2,k3,lk⟩:=Bd hK3
  have hz3:=hb3.size
  clear hb3 hK3 HB2 HR2 HK2 HRD2 HRP HRPd
  go_upto_region 5 with (fail)
  have hbx:Below w.heap.size w (((w3.setCell ⟨gk,0,none⟩ (.int .i64 fk)).setCell ⟨gk,1,none⟩ (.int .i64 ff)).alloc (.cells #[.int .u64 f.ep,.int .i64 f.n,.int .i64 f.en,.int .u64 f.first,.int .u64 f.fin,.int .i64 f.at_,.int .i64 f.size] 81)):=by
   have:=HB3.out
   (repeat (first | with_reducible exact Below.refl _ _ | with_reducible assumption | (with_reducible refine Aw ?_ _) | (with_reducible refine Below.setCell ?_ zE _) | (with_reducible refine Below.drew ?_) | (with_reducible refine below_drewN ?_ _) | (refine Aj zG ?_)))
  have HI5:Hid (XP w g gk w3.heap.size D v vm vo L σ E fk ff f (((w3.setCell ⟨gk,0,none⟩ (.int .i64 fk)).setCell ⟨gk,1,none⟩ (.int .i64 ff)).alloc (.cells #[.int .u64 f.ep,.int .i64 f.n,.int .i64 f.en,.int .u64 f.first,.int .u64 f.fin,.int .i64 f.at_,.int .i64 f.size] 81))):=hid ⟨HH.out.later hbx,hbx,((HR3.out.far zH _).far zH _).alloc _,((HK3.out.set 0 (.int .i64 fk)).set 1 (.int .i64 ff)).alloc _,Blk.newAt _ _ _ zU⟩
  have HH0:=hid HH.out
  clear hbx HB3 HR3 HK3 k0 k1 k2 k3 lk
  generalize (((w3.setCell ⟨gk,0,none⟩ (.int .i64 fk)).setCell ⟨gk,1,none⟩ (.int .i64 ff)).alloc (.cells #[.int .u64 f.ep,.int .i64 f.n,.int .i64 f.en,.int .u64 f.first,.int .u64 f.fin,.int .i64 f.at_,.int .i64 f.size] 81))=w5 at*
  generalize w3.heap.size=gf at*
  obtain⟨k0,k1,k2,k3,lk⟩:=Bd HI5.out.fb
  by_cases hfk:fk=0
  ·have HFG:=hid (fun V:World=>(by have:=BK V fk ff;rw[Ad hfk] at this;exact this:Calls Tryz.prog 65 #[.agg #[.int .i64 fk,.int .i64 ff]] V fun r w'=>r=.returned (.bool true)∧Below V.heap.size V w'))
   have HN3:Hid (Bm σ=(if f≠σ.want then .bad 12 0 else .take {σ with ph:=3,foot:=σ.buf.length} [])):=hid (by rw[HN2.out,Ai (fun e=>e hfk)])
   clear hfk HN2
   go_wp2_with fail
   refine (HFG.out _).mono ?_
   rintro r w6 ⟨rfl,hb6⟩
   have HI:=hid (HI5.out.later hb6)
   clear hb6 HI5 HFG k0 k1 k2 k3 lk
   obtain⟨p0,p1,p2,p3,p4,p5,p6,lp⟩:=Jq HI.out.ob
   obtain⟨y0,y1,y2,y3,y4,y5,y6,y7,y8,y9,y10,y11,y12,y13,y14,y15,y16,y17,y18,ly⟩:=Bo HI.out.at_.blk
   obtain⟨nb,hnb⟩:∃nb:Bool,decide (f≠σ.want)=nb:=⟨_,rfl⟩
   have HNB:=hid hnb
   clear hnb
   go_upto_region 7 with (fail)
   have P0:=fun s:AM w6=>s.cell p0
   have P1:=fun s:AM w6=>s.cell p1
   have P2:=fun s:AM w6=>s.cell p2
   have P3:=fun s:AM w6=>s.cell p3
   have P4:=fun s:AM w6=>s.cell p4
   have P5:=fun s:AM w6=>s.cell p5
   have P6:=fun s:AM w6=>s.cell p6
   have Q0:=fun s:AM w6=>s.cell y10
   have Q1:=fun s:AM w6=>s.cell y11
   have Q2:=fun s:AM w6=>s.cell y12
   have Q3:=fun s:AM w6=>s.cell y13
   have Q4:=fun s:AM w6=>s.cell y14
   have Q5:=fun s:AM w6=>s.cell y15
   have Q6:=fun s:AM w6=>s.cell y16
   clear y0 y1 y2 y3 y4 y5 y6 y7 y8 y9 y10 y11 y12 y13 y14 y15 y16 y17 y18 ly p0 p1 p2 p3 p4 p5 p6 lp
   go_cut [31] from 32 to 37 (fun s31 V=>s31=.bool nb∧Hid (XP w g gk gf D v vm vo L σ E fk ff f V))
   case first=>
    by_cases h0:f.ep=σ.want.ep
    ·have d0:(f.ep==σ.want.ep)=true:=by simp[h0]
     by_cases h1:f.n=σ.want.n
     ·have d1:(f.n==σ.want.n)=true:=by simp[h1]
      by_cases h2:f.en=σ.want.en
      ·have d2:(f.en==σ.want.en)=true:=by simp[h2]
       by_cases h3:f.first=σ.want.first
       ·have d3:(f.first==σ.want.first)=true:=by simp[h3]
        by_cases h4:f.fin=σ.want.fin
        ·have d4:(f.fin==σ.want.fin)=true:=by simp[h4]
         by_cases h5:f.at_=σ.want.at_
         ·have d5:(f.at_==σ.want.at_)=true:=by simp[h5]
          by_cases h6:f.size=σ.want.size
          ·have d6:(f.size==σ.want.size)=true:=by simp[h6]
           have hbF:nb=false:=by rw[←HNB.out];exact Ae (fun x=>x (by cases f;cases hw:σ.want;simp_all))
           go_wp2_with fail
           refine Az zJ zJ ?_
           repeat (go_big_quiet_step ((fail)))
           refine AT ?_
           rintro w9 ⟨⟨w9x,hb9⟩,rfl⟩
           go_wp2_with fail
           go_meet
           case rel=>exact ⟨A3 Value.bool hbF.symm,hid (HI.out.later hb9)⟩
          ·have d6:(f.size==σ.want.size)=false:=by simp[h6]
           have hbT:nb=true:=by rw[←HNB.out];exact Ad (fun x:f=σ.want=>h6 (by rw[x]))
           go_wp2_with fail
           refine Az zJ zJ ?_
           repeat (go_big_quiet_step ((fail)))
           refine AT ?_
           rintro w9 ⟨⟨w9x,hb9⟩,rfl⟩
           go_wp2_with fail
           go_meet
           case rel=>exact ⟨A3 Value.bool hbT.symm,hid (HI.out.later hb9)⟩
         ·have d5:(f.at_==σ.want.at_)=false:=by simp[h5]
          have hbT:nb=true:=by rw[←HNB.out];exact Ad (fun x:f=σ.want=>h5 (by rw[x]))
          go_wp2_with fail
          refine Az zJ zJ ?_
          repeat (go_big_quiet_step ((fail)))
          refine AT ?_
          rintro w9 ⟨⟨w9x,hb9⟩,rfl⟩
          go_wp2_with fail
          go_meet
          case rel=>exact ⟨A3 Value.bool hbT.symm,hid (HI.out.later hb9)⟩
        ·have d4:(f.fin==σ.want.fin)=false:=by simp[h4]
         have hbT:nb=true:=by rw[←HNB.out];exact Ad (fun x:f=σ.want=>h4 (by rw[x]))
         go_wp2_with fail
         refine Az zJ zJ ?_
         repeat (go_big_quiet_step ((fail)))
         refine AT ?_
         rintro w9 ⟨⟨w9x,hb9⟩,rfl⟩
         go_wp2_with fail
         go_meet
         case rel=>exact ⟨A3 Value.bool hbT.symm,hid (HI.out.later hb9)⟩
       ·have d3:(f.first==σ.want.first)=false:=by simp[h3]
        have hbT:nb=true:=by rw[←HNB.out];exact Ad (fun x:f=σ.want=>h3 (by rw[x]))
        go_wp2_with fail
        refine Az zJ zJ ?_
        repeat (go_big_quiet_step ((fail)))
        refine AT ?_
        rintro w9 ⟨⟨w9x,hb9⟩,rfl⟩
        go_wp2_with fail
        go_meet
        case rel=>exact ⟨A3 Value.bool hbT.symm,hid (HI.out.later hb9)⟩
      ·have d2:(f.en==σ.want.en)=false:=by simp[h2]
       have hbT:nb=true:=by rw[←HNB.out];exact Ad (fun x:f=σ.want=>h2 (by rw[x]))
       go_wp2_with fail
       refine Az zJ zJ ?_
       repeat (go_big_quiet_step ((fail)))
       refine AT ?_
       rintro w9 ⟨⟨w9x,hb9⟩,rfl⟩
       go_wp2_with fail
       go_meet
       case rel=>exact ⟨A3 Value.bool hbT.symm,hid (HI.out.later hb9)⟩
     ·have d1:(f.n==σ.want.n)=false:=by simp[h1]
      have hbT:nb=true:=by rw[←HNB.out];exact Ad (fun x:f=σ.want=>h1 (by rw[x]))
      go_wp2_with fail
      refine Az zJ zJ ?_
      repeat (go_big_quiet_step ((fail)))
      refine AT ?_
      rintro w9 ⟨⟨w9x,hb9⟩,rfl⟩
      go_wp2_with fail
      go_meet
      case rel=>exact ⟨A3 Value.bool hbT.symm,hid (HI.out.later hb9)⟩
    ·have d0:(f.ep==σ.want.ep)=false:=by simp[h0]
     have hbT:nb=true:=by rw[←HNB.out];exact Ad (fun x:f=σ.want=>h0 (by rw[x]))
     go_wp2_with fail
     refine Az zJ zJ ?_
     repeat (go_big_quiet_step ((fail)))
     refine AT ?_
     rintro w9 ⟨⟨w9x,hb9⟩,rfl⟩
     go_wp2_with fail
     go_meet
     case rel=>exact ⟨A3 Value.bool hbT.symm,hid (HI.out.later hb9)⟩
   case rest=>
    obtain⟨rfl,HI7⟩:=hcut
    clear HI P0 P1 P2 P3 P4 P5 P6 Q0 Q1 Q2 Q3 Q4 Q5 Q6
    obtain⟨q0,q1,q2,q3,lq⟩:=Bd HI7.out.res
    cases nb
    ·have HN4:Hid (Bm σ=.take {σ with ph:=3,foot:=σ.buf.length} []):=hid (by rw[HN3.out,Ai (GD HNB.out)])
     clear HN3 HNB
     obtain⟨aJ,cJ,rfl⟩:=HI7.out.at_.buf.form
     obtain⟨y0,y1,y2,y3,y4,y5,y6,y7,y8,y9,y10,y11,y12,y13,y14,y15,y16,y17,y18,ly⟩:=Bo HI7.out.at_.blk
     obtain⟨z0,z1,z2,z3,z4,z5,z6,z7,z8,z9,z10,z11,z12,z13,z14,z15,z16,z17,z18⟩:=Cw HI7.out.at_.blk
     go_wp2_with fail
     have I1:=HI7.out.at_.Oo (τ:={σ with foot:=σ.buf.length}) 17 (.int .i64 (σ.buf.length:Int)) (by have:=HI7.out.at_.blk.set 17 (.int .i64 (σ.buf.length:Int));exact this) rfl rfl rfl
     have I2:=I1.Oo (τ:={σ with ph:=3,foot:=σ.buf.length}) 0 (nxF 3) (by have:=I1.blk.set 0 (nxF 3);exact this) rfl rfl rfl
     have I3:=I2.side (((Tch.refl (fun q=>q=w.heap.size) _).setCell (p:=⟨w.heap.size,0,none⟩) (fun _=>rfl) (.int .i64 0)).setCell (p:=⟨w.heap.size,1,none⟩) (fun _=>rfl) (.int .i64 0)) ZZ (fun b h1 h2 h3 e=>by have:=HH0.out.dl b h2;have e2:b=w.heap.size:=e;omega)
     refine Ax (v:=.tuple #[.bool true,.agg #[.int .i64 0,.int .i64 0]]) ZJ rfl (EJ.mk ⟨D,vm,vo,L,_,E,I3,DG.refl,DG.refl,?_,by rw[HN4.out];exact⟨rfl,rfl,rfl,rfl,by simp⟩⟩)
     refine Tch.setCell (Tch.setCell (Tch.setCell (Tch.setCell (Tch.AW HI7.out.bl) (p:=⟨g,17,none⟩) (fun _=> .inl rfl) _) (p:=⟨g,0,none⟩) (fun _=> .inl rfl) _) (p:=⟨w.heap.size,0,none⟩) (fun h=>ZR) _) (p:=⟨w.heap.size,1,none⟩) (fun h=>ZR) _
    ·have HN4:Hid (Bm σ=.bad 12 0):=hid (by rw[HN3.out,Ag (C8 HNB.out)])
     have HAT:=hid (fun V:World=>Gp V 12 0 zL)
     clear HN3 HNB
     go_wp2_with fail
     refine (HAT.out _).mono ?_
     rintro r w8 ⟨rfl,hb8⟩
     obtain⟨q0,q1,q2,q3,lq⟩:=Bd (HI7.out.res.later hb8)
     have hbw8:=Aj hb8 HI7.out.bl
     go_wp2_with fail
     refine Ax (v:=.tuple #[.bool false,.agg #[.int .i64 12,.int .i64 0]]) ZJ rfl (EJ.mk (EZ.bad HH0.out zA zL HN4.out))
  ·have HFG:=hid (fun V:World=>(by have:=BK V fk ff;rw[Ae hfk] at this;exact this:Calls Tryz.prog 65 #[.agg #[.int .i64 fk,.int .i64 ff]] V fun r w'=>r=.returned (.bool false)∧Below V.heap.size V w'))
   have HSH0:=hid (fun V:World=>IF V fk ff at_ hfk)
   obtain⟨VV,hVV⟩:∃VV:Int,VV=wrap64 (ff+at_):=⟨_,rfl⟩
   rw[←hVV] at HSH0
   have HN3:Hid (Bm σ=.bad fk VV):=hid (by rw[HN2.out,Ag hfk,hVV])
   have HFK:=hid hfk
   clear hfk HN2 hVV
   go_wp2_with fail
   refine (HFG.out _).mono ?_
   rintro r w6 ⟨rfl,hb6⟩
   have HI:=hid (HI5.out.later hb6)
   clear hb6 HI5 HFG k0 k1 k2 k3 lk
   obtain⟨k0,k1,k2,k3,lk⟩:=Bd HI.out.fb
   go_wp2_with fail
   refine (HSH0.out _).mono ?_
   rintro r w7 ⟨rfl,hb7⟩
   obtain⟨q0,q1,q2,q3,lq⟩:=Bd (HI.out.res.later hb7)
   have hbw7:=Aj hb7 HI.out.bl
   go_wp2_with fail
   refine Ax (v:=.tuple #[.bool false,.agg #[.int .i64 fk,.int .i64 VV]]) ZJ rfl (EJ.mk (EZ.bad HH0.out zA HFK.out HN3.out))
 ·rw[Ae hk0] at HP
  have hfin:∀W',Below w.heap.size w W'→EZ w g v vm vo σ E W' false K1 F1:=fun W' hW=>by
   by_cases hk1:s.k=1
   ·have e1:K1=0:=by rw[HK1.out,Ag hk1]
    have e2:F1=0:=by rw[HF1.out,Ag (.inr hk1)]
    rw[e1,e2]
    exact EZ.wait HH.out hW zB3
   ·have e1:K1=s.k:=by rw[HK1.out,Ai hk1]
    have e2:F1=s.f:=zB4
    rw[e1,e2]
    exact EZ.bad HH.out hW hk0 (by rw[HN.out,Ai hk1,Ag hk0])
  have HFIN:=hid hfin
  have HR0:=hid hR0
  have HBA0:=hid hba0
  clear hfin HN HK1 HF1 HA HAW hk0 hR0 hba0
  go_enter Tryz.func285,Tryz.ntmps285
  go_wp2_with fail
  refine HP.out.mono ?_
  rintro r w1 ⟨va,na,ca,at_,rfl,hat,hb1⟩
  have hR2:=(HR0.out.later hb1).alloc (.cells #[.int .i64 K1,.int .i64 F1] 65)
  have hG2:Blk (w1.alloc (.cells #[.int .i64 K1,.int .i64 F1] 65)) w1.heap.size 65 #[.int .i64 K1,.int .i64 F1]:=Blk.new _ _ _
  have hbw:=Aw (Aj hb1 HBA0.out) (.cells #[.int .i64 K1,.int .i64 F1] 65)
  obtain⟨p0,p1,p2,p3,lp⟩:=Bd hG2
  obtain⟨q0,q1,q2,q3,lq⟩:=Bd hR2
  clear hat hb1 hR2 hG2 HR0 HP
  go_wp2_with fail
  go_region
  all_goals
   go_wp2
   refine Ax (v:=.tuple #[.bool false,.agg #[.int .i64 K1,.int .i64 F1]]) ZJ rfl (EJ.mk (HFIN.out _ zA))
theorem Nb{σ τ:FSt}{ev:List EvB}(hok:FOk σ)(h:Bm σ=.take τ ev):FOk {τ with first:=σ.fed,buf:=[]}∧τ.ended=σ.ended∧τ.fed=σ.fed∧ev.length≤1:=by
 obtain⟨o1,o2,o3,o4,o5,o6,o7,o8⟩:=hok
 unfold Bm at h
 by_cases h0:σ.ph=0
 ·rw[Ag h0] at h
  dsimp only at h
  split at h
  ·cases h
  ·split at h
   ·cases h
   ·split at h
    ·injection h with h1 h2
     subst h1
     exact⟨⟨o1,o2,o3,o4,zM,o6,o7,o8⟩,rfl,rfl,zBc⟩
    ·cases h
 ·rw[Ai h0] at h
  by_cases h1:σ.ph=1
  ·rw[Ag h1] at h
   unfold FM at h
   dsimp only at h
   split at h
   ·cases h
   ·split at h
    ·cases h
    ·generalize ((⟨0,0,0⟩:Rs).frame σ.buf 2097152).2=P at h
     generalize ((((⟨0,0,0⟩:Rs).frame σ.buf 2097152).1.p:Int)-4-(P.length:Int))=A at h
     unfold IU at h
     dsimp only at h
     split at h
     ·cases h
     ·rename_i hP
      have hpk:(⟨1,0,0⟩:Rs).ok P.length:=⟨List.length_pos_iff.2 hP,fun _=>rfl⟩
      split at h
      ·split at h
       ·cases h
       ·rename_i hek
        split at h
        ·cases h
        ·rename_i h16
         split at h
         ·injection h with h1 h2
          subst h1
          obtain⟨g1,g2⟩:=N9 (bq:=(Rs.batch P (Eb P) ⟨1,0,0⟩).2.2) hpk rfl (Decidable.not_not.1 hek)
          refine⟨⟨by simp[o1],zI,fun b hb=> ?_,fun b hb=> ?_,zM,o6,o7,o8⟩,rfl,rfl,zBc⟩
          ·rcases List.mem_append.1 hb with hb | hb
           ·exact o3 b hb
           ·rw[B8] at hb;subst hb;exact g1
          ·rcases List.mem_append.1 hb with hb | hb
           ·exact o4 b hb
           ·rw[B8] at hb;subst hb;exact g2
         ·cases h
      ·split at h
       ·split at h
        ·cases h
        ·split at h
         ·cases h
         ·injection h with h1 h2
          subst h1
          exact⟨⟨o1,o2,o3,o4,zM,o6,⟨by simp[DE],by simp[DE];omega⟩,⟨by simp[DE],by simp[DE];omega⟩⟩,rfl,rfl,zBc⟩
       ·cases h
  ·rw[Ai h1] at h
   by_cases h2:σ.ph=2
   ·rw[Ag h2] at h
    unfold FM at h
    dsimp only at h
    split at h
    ·cases h
    ·split at h
     ·cases h
     ·unfold Mk at h
      dsimp only at h
      split at h
      ·cases h
      ·split at h
       ·cases h
       ·injection h with h1 h2
        subst h1
        exact⟨⟨o1,o2,o3,o4,zM,zH,o7,o8⟩,rfl,rfl,zBc⟩
   ·rw[Ai h2] at h
    split at h
    ·split at h
     ·cases h
     ·split at h
      ·injection h with h1 h2
       subst h1
       exact⟨⟨o1,o2,o3,o4,zM,o6,o7,o8⟩,rfl,rfl,zBc⟩
      ·cases h
    ·cases h
theorem Uq{σ:FSt}(hok:FOk σ)(x:UInt8):FOk (σ.hold [x]):=by
 obtain⟨o1,o2,o3,o4,o5,o6,o7,o8⟩:=hok
 exact⟨o1,o2,o3,o4,by unfold FSt.hold;simp;omega,zA1,zA1,zA1⟩
theorem Wi{σ:FSt}(hok:FOk σ):FOk (Fu σ).1∧(Fu σ).1.fed=σ.fed∧(Fu σ).2.length≤1:=by
 cases h:Bm σ with
 | wait=>
  rw[MS h]
  exact⟨hok,rfl,zM⟩
 | take τ ev=>
  rw[Ij h]
  have h2:=Nb hok h
  exact⟨h2.1,h2.2.2.1,h2.2.2.2⟩
 | bad k f=>
  rw[Ll h]
  obtain⟨o1,o2,o3,o4,o5,o6,o7,o8⟩:=hok
  exact⟨⟨o1,o2,o3,o4,zI,o6,o7,o8⟩,rfl,zM⟩
theorem Uk{σ:FSt}(hok:FOk σ)(x:UInt8):FOk (ER σ x).1∧(ER σ x).1.fed=σ.fed+1∧(ER σ x).2.length≤1:=Wi (Uq hok x)
theorem Xi(ph:Nat)(xs:Array Value)(W:World):(callFunc (nxN ph) xs).run Tryz.prog W=.ok (.enter (nxN ph) xs) W:=by
 unfold nxN
 split
 ·go_simp
 ·split
  ·go_simp
  ·split
   ·go_simp
   ·split
    ·go_simp
    ·go_simp
theorem VC(w:World){g:Nat}{D:Nat→Prop}{v vm vo:Value}{L:C7}{σ:FSt}{E:List EvX}(h:By w g D v vm vo L σ E)(hok:FOk σ)(hfe:σ.fed≤100000000)(hEl:E.length≤1000000000):
  Calls Tryz.prog (nxN σ.ph) #[.pointer (some ⟨g,0,none⟩)] w fun r w'=>EJ w g v vm vo σ E r w':=by
 have hB:σ.buf.length≤100000000:=ZM
 by_cases h0:σ.ph=0
 ·rw[show nxN σ.ph=92 by rw[h0];rfl]
  exact RJ w h h0 zC
 ·by_cases h1:σ.ph=1
  ·rw[show nxN σ.ph=155 by rw[h1];rfl]
   exact RG w h h1 hok hfe hEl
  ·by_cases h2:σ.ph=2
   ·rw[show nxN σ.ph=285 by rw[h2];rfl]
    exact RK w h h2 hok hfe
   ·by_cases h3:σ.ph=3
    ·rw[show nxN σ.ph=339 by rw[h3];rfl]
     exact Qs w h h3 zC (by have:=hok.ft;omega)
    ·rw[show nxN σ.ph=358 by unfold nxN;rw[Ai h0,Ai h1,Ai h2,Ai h3]]
     exact VA w h (by unfold Bm;rw[Ai h0,Ai h1,Ai h2,Ai h3])
def AaR(w:World)(g:Nat)(v vm vo:Value)(σ:FSt)(E:List EvX)(x:UInt8)(r:Ending)(w':World):Prop:=
 r=.returned (.tuple #[])∧∃D' v' vm' vo' L',By w' g D' v' vm' vo' L' (ER σ x).1 (E++(ER σ x).2.map EvB.x)∧DG w v v'∧DG w vm vm'∧DG w vo vo'∧Tch (fun q=>q=g∨v.ownBlock=some q∨vm.ownBlock=some q∨vo.ownBlock=some q) w w'
set_option maxHeartbeats 12800000 in
theorem Xg(w:World){g:Nat}{D:Nat→Prop}{v vm vo:Value}{L:C7}{σ:FSt}{E:List EvX}(h:By w g D v vm vo L σ E)(hok:FOk σ)(hfe:σ.fed<100000000)(hEl:E.length≤100000000)(x:UInt8):
  Calls Tryz.prog 94 #[.pointer (some ⟨g,0,none⟩),.int .u8 (x.toNat:Int)] w fun r w'=>AaR w g v vm vo σ E x r w':=by
 obtain⟨i0,hi,hz0,hz1,hz2⟩:=A5 FL
 obtain⟨j0,hj,hy0,hy1,hy2⟩:=A5 Qg
 have hB:σ.buf.length≤100000000:=ZM
 have hfst:σ.first≤100000000:=ZM
 obtain⟨aJ,cJ,rfl⟩:=h.buf.form
 have hb1:Below w.heap.size w (w.alloc (.cells #[.int .u8 (x.toNat:Int)] 5)):=zA
 have HA1:=hid (h.later hb1)
 have hgl:=h.gl
 have HVQ:=hid h.vq
 have HDL:=hid h.dl
 have HONE:=hid (JI σ x)
 have HOK1:=hid (Uq hok x)
 obtain⟨y0,y1,y2,y3,y4,y5,y6,y7,y8,y9,y10,y11,y12,y13,y14,y15,y16,y17,y18,ly⟩:=Bo h.blk
 clear h
 go_enter Tryz.func94,Tryz.ntmps94
 go_upto_region 1 with (at_builtin;go_loud (refine AB rfl _ _ _ rfl (g+1) 5 i0 (.int .u8 0) 1 1 AJ hi hz0 hz1 hz2 rfl zL (.slice aJ σ.buf.length cJ) σ.buf.length (byteCells σ.buf) rfl HA1.out.buf (some ⟨w.heap.size,0,none⟩) 1 1 [.int .u8 (x.toNat:Int)] rfl (BU w 5 _ rfl rfl rfl) zZ zO zC zI ?_;intro v5 w5 hown5 hgrow5 hat5;obtain⟨a5,c5,rfl⟩:=AV hown5;have hPg:=HA1.out.blk.grown hgrow5 (fun e=>by have:=(HVQ.out g e.symm).1;omega);have HA5:=hid (HA1.out.put hown5 hgrow5 hat5);have HG5:=hid hgrow5;have HQ5:=hid hat5;clear y0 y1 y2 y3 y4 y5 y6 y7 y8 y9 y10 y11 y12 y13 y14 y15 y16 y17 y18 ly;obtain⟨y0,y1,y2,y3,y4,y5,y6,y7,y8,y9,y10,y11,y12,y13,y14,y15,y16,y17,y18,ly⟩:=Bo hPg;obtain⟨z0,z1,z2,z3,z4,z5,z6,z7,z8,z9,z10,z11,z12,z13,z14,z15,z16,z17,z18⟩:=Cw hPg;clear hown5 hgrow5 hat5))
 have HQv:Hid (DG w (.slice aJ σ.buf.length cJ) (.slice a5 (σ.buf.length+1) c5)):=hid fun q e=>by
  rcases HQ5.out with h | h
  ·exact .inl (h ▸ e)
  ·rw[h] at e
   have:=AR e
   exact .inr (by simp at this;omega)
 have HT5:Hid (Tch (fun q=>q=g∨(Value.slice aJ σ.buf.length cJ).ownBlock=some q∨vm.ownBlock=some q∨vo.ownBlock=some q) w (w5.setCell ⟨g,1,none⟩ (.slice a5 (σ.buf.length+1) c5))):=hid (((Tch.AW hb1).trans (Tch.GR HG5.out) fun _ _ e=> .inr (.inl e)).setCell (p:=⟨g,1,none⟩) (fun _=> .inl rfl) _)
 have HM0:=hid (fun q (e:vm.ownBlock=some q)=>HDL.out q (HA1.out.mT q e))
 have HO0:=hid (fun q (e:vo.ownBlock=some q)=>HDL.out q (HA1.out.oT q e))
 clear HVQ HG5 HQ5 HA1 hb1 HDL y0 y1 y2 y3 y4 y5 y6 y7 y8 y9 y10 y11 y12 y13 y14 y15 y16 y17 y18 ly z0 z1 z2 z3 z4 z5 z6 z7 z8 z9 z10 z11 z12 z13 z14 z15 z16 z17 z18 hPg
 generalize (Value.slice a5 (σ.buf.length+1) c5)=v5 at*
 generalize w5.setCell ⟨g,1,none⟩ v5=W5 at*
 obtain⟨y0,y1,y2,y3,y4,y5,y6,y7,y8,y9,y10,y11,y12,y13,y14,y15,y16,y17,y18,ly⟩:=Bo HA5.out.blk
 obtain⟨z0,z1,z2,z3,z4,z5,z6,z7,z8,z9,z10,z11,z12,z13,z14,z15,z16,z17,z18⟩:=Cw HA5.out.blk
 go_upto_region 2 with (fail)
 have HA6:=hid (HA5.out.Oo (τ:=σ.hold [x]) 3 (.int .i64 ((σ.fed:Int)+1)) (by have:=HA5.out.blk.set 3 (.int .i64 ((σ.fed:Int)+1));exact this) rfl rfl rfl)
 have HT6:=hid (HT5.out.setCell (p:=⟨g,3,none⟩) (fun _=> .inl rfl) (.int .i64 ((σ.fed:Int)+1)))
 have hf1:(σ.hold [x]).fed≤100000000:=by unfold FSt.hold;dsimp only[List.length_cons,List.length_nil];omega
 have hph1:(σ.hold [x]).ph=σ.ph:=rfl
 rw[←hph1] at y0
 clear HA5 HT5 y1 y2 y3 y4 y5 y6 y7 y8 y9 y10 y11 y12 y13 y14 y15 y16 y17 y18 ly z0 z1 z2 z3 z4 z5 z6 z7 z8 z9 z10 z11 z12 z13 z14 z15 z16 z17 z18
 generalize W5.setCell ⟨g,3,none⟩ (.int .i64 ((σ.fed:Int)+1))=W6 at*
 obtain⟨σ1,hσ1⟩:∃s1,s1=σ.hold [x]:=⟨_,rfl⟩
 rw[←hσ1] at HA6 HONE HOK1 hf1
 clear hσ1 hph1 y0
 obtain⟨y0,y1,y2,y3,y4,y5,y6,y7,y8,y9,y10,y11,y12,y13,y14,y15,y16,y17,y18,ly⟩:=Bo HA6.out.blk
 have HNX:=hid (VC W6 HA6.out HOK1.out hf1 zC)
 go_wp2_with fail
 rw[Xi]
 refine HNX.out.mono ?_
 rintro r w7 ⟨bb,k,f,rfl,D7,vm7,vo7,L7,σ7,E7,hA7,hGm,hGo,hT7,hTk⟩
 have hba:Below w7.heap.size w7 (w7.alloc (.cells #[.int .i64 k,.int .i64 f] 65)):=zA
 have HA8:=hid (hA7.later hba)
 have HK8:Hid (Blk (w7.alloc (.cells #[.int .i64 k,.int .i64 f] 65)) w7.heap.size 65 #[.int .i64 k,.int .i64 f]):=hid (Blk.new _ _ _)
 have HD7:=hid hA7.dl
 have hz6:=hT7.size
 have hs6w:=HT6.out.size
 have HGM:Hid (DG w vm vm7):=hid fun q e=>(hGm q e).imp id fun e=>by omega
 have HGO:Hid (DG w vo vo7):=hid fun q e=>(hGo q e).imp id fun e=>by omega
 have HT8:=hid ((HT6.out.trans hT7 (fun q hq e=>by
  rcases e with e | e | e
  ·exact .inl e
  ·exact .inr (.inr (.inl e))
  ·exact .inr (.inr (.inr e)))).trans (Tch.AW (F:=fun _=>False) hba) fun _ _ e=>e.elim)
 have hg7:g<w7.heap.size:=hA7.gl
 have HTK:=hid hTk
 clear hA7 hba hGm hGo hT7 hTk HNX y0 y1 y2 y3 y4 y5 y6 y7 y8 y9 y10 y11 y12 y13 y14 y15 y16 y17 y18 ly HA6 HT6
 go_upto_region 3 with (fail)
 have hgk8:w7.heap.size<(w7.alloc (.cells #[.int .i64 k,.int .i64 f] 65)).heap.size:=zM
 generalize w7.alloc (.cells #[.int .i64 k,.int .i64 f] 65)=w8 at*
 generalize w7.heap.size=gk at*
 obtain⟨k0,k1,k2,k3,lk⟩:=Bd HK8.out
 cases hnx:Bm σ1 with
 | wait=>
  have htk:=HTK.out
  rw[hnx] at htk
  obtain⟨rfl,rfl,rfl,rfl,rfl⟩:=htk
  have HNXX:=hid hnx
  have HFG:=hid (fun V:World=>(by have:=BK V 0 0;exact this:Calls Tryz.prog 65 #[.agg #[.int .i64 0,.int .i64 0]] V fun r w'=>r=.returned (.bool true)∧Below V.heap.size V w'))
  clear hnx HTK
  go_wp2_with fail
  refine (HFG.out _).mono ?_
  rintro r w9 ⟨rfl,hb9⟩
  have HA9:=hid (HA8.out.later hb9)
  have HT9:=hid (HT8.out.trans (Tch.AW (F:=fun _=>False) hb9) fun _ _ e=>e.elim)
  go_wp2_with fail
  first | go_end0 | refine Ax (A4 rfl _ _ _) rfl ?_
  refine⟨rfl,D7,v5,vm7,vo7,L7,?_,HQv.out,HGM.out,HGO.out,HT9.out⟩
  rw[HONE.out,MS HNXX.out]
  have:=HA9.out
  simpa using this
 | take τ ev=>
  have htk:=HTK.out
  rw[hnx] at htk
  obtain⟨rfl,rfl,rfl,rfl,rfl⟩:=htk
  have HNXX:=hid hnx
  have HTF:=hid (Nb HOK1.out hnx)
  have HFG:=hid (fun V:World=>(by have:=BK V 0 0;exact this:Calls Tryz.prog 65 #[.agg #[.int .i64 0,.int .i64 0]] V fun r w'=>r=.returned (.bool true)∧Below V.heap.size V w'))
  clear hnx HTK
  go_wp2_with fail
  refine (HFG.out _).mono ?_
  rintro r w9 ⟨rfl,hb9⟩
  have HA9:=hid (HA8.out.later hb9)
  have HT9:=hid (HT8.out.trans (Tch.AW (F:=fun _=>False) hb9) fun _ _ e=>e.elim)
  clear hb9 HA8 HT8 HFG k0 k1 k2 k3 lk HK8
  obtain⟨y0,y1,y2,y3,y4,y5,y6,y7,y8,y9,y10,y11,y12,y13,y14,y15,y16,y17,y18,ly⟩:=Bo HA9.out.blk
  obtain⟨z0,z1,z2,z3,z4,z5,z6,z7,z8,z9,z10,z11,z12,z13,z14,z15,z16,z17,z18⟩:=Cw HA9.out.blk
  go_wp2_with fail
  first | go_end0 | refine Ax (A4 rfl _ _ _) rfl ?_
  have I1:=HA9.out.Oo (τ:={σ7 with first:=σ7.fed}) 2 (.int .i64 (σ7.fed:Int)) (by have:=HA9.out.blk.set 2 (.int .i64 (σ7.fed:Int));exact this) rfl rfl rfl
  have I2:=I1.drop
  refine⟨rfl,D7,.slice none 0 0,vm7,vo7,L7,?_,(fun q e=>ZO),HGM.out,HGO.out,(HT9.out.setCell (p:=⟨g,2,none⟩) (fun _=> .inl rfl) _).setCell (p:=⟨g,1,none⟩) (fun _=> .inl rfl) _⟩
  rw[HONE.out,Ij HNXX.out]
  have e1:=HTF.out.2.2.1
  rw[←e1]
  exact I2
 | bad k' f'=>
  have htk:=HTK.out
  rw[hnx] at htk
  obtain⟨rfl,hk,rfl,rfl,rfl,rfl⟩:=htk
  have HNXX:=hid hnx
  have HFG:=hid (fun V:World=>(by have:=BK V k f;rw[Ae hk] at this;exact this:Calls Tryz.prog 65 #[.agg #[.int .i64 k,.int .i64 f]] V fun r w'=>r=.returned (.bool false)∧Below V.heap.size V w'))
  obtain⟨VV,hVV⟩:∃VV:Int,VV=wrap64 (f+(σ7.first:Int)):=⟨_,rfl⟩
  have HSH:=hid (fun V:World=>(by have:=IF V k f (σ7.first:Int) hk;rw[←hVV] at this;exact this:Calls Tryz.prog 117 #[.agg #[.int .i64 k,.int .i64 f],.int .i64 (σ7.first:Int)] V fun r w'=>r=.returned (.agg #[.int .i64 k,.int .i64 VV])∧Below V.heap.size V w'))
  have HVV:=hid hVV
  clear hnx HTK hVV
  go_wp2_with fail
  refine (HFG.out _).mono ?_
  rintro r w9 ⟨rfl,hb9⟩
  have HA9:=hid (HA8.out.later hb9)
  have hK9:=HK8.out.later hb9
  have HT9:=hid (HT8.out.trans (Tch.AW (F:=fun _=>False) hb9) fun _ _ e=>e.elim)
  have hz9:=hb9.size
  clear hb9 HA8 HT8 HFG k0 k1 k2 k3 lk HK8
  obtain⟨aO,cO,rfl⟩:∃a c,vo7=.slice a E7.length c:=by
   obtain⟨cells,hc⟩:=HA9.out.out
   exact AV hc.1
  have hP9:Blk w9 g 83 #[nxF σ7.ph,v5,.int .i64 (σ7.first:Int),.int .i64 (σ7.fed:Int),.int .i64 σ7.ended,.int .u64 σ7.ep,.int .u64 L7.e,.int .u64 L7.b,.slice L7.a L7.n L7.c,vm7,.int .u64 σ7.want.ep,.int .i64 σ7.want.n,.int .i64 σ7.want.en,.int .u64 σ7.want.first,.int .u64 σ7.want.fin,.int .i64 σ7.want.at_,.int .i64 σ7.want.size,.int .i64 (σ7.foot:Int),.slice aO E7.length cO]:=HA9.out.blk
  have hPd:Blk w9.drew g 83 #[nxF σ7.ph,v5,.int .i64 (σ7.first:Int),.int .i64 (σ7.fed:Int),.int .i64 σ7.ended,.int .u64 σ7.ep,.int .u64 L7.e,.int .u64 L7.b,.slice L7.a L7.n L7.c,vm7,.int .u64 σ7.want.ep,.int .i64 σ7.want.n,.int .i64 σ7.want.en,.int .u64 σ7.want.first,.int .u64 σ7.want.fin,.int .i64 σ7.want.at_,.int .i64 σ7.want.size,.int .i64 (σ7.foot:Int),.slice aO E7.length cO]:=hP9.drew
  have hKd:Blk w9.drew gk 65 #[.int .i64 k,.int .i64 f]:=hK9.drew
  obtain⟨y0,y1,y2,y3,y4,y5,y6,y7,y8,y9,y10,y11,y12,y13,y14,y15,y16,y17,y18,ly⟩:=Bo hP9
  obtain⟨k0,k1,k2,k3,lk⟩:=Bd hK9
  have SK:=hid (fun (w':World) (h1:Blk w' g 83 #[nxF σ7.ph,v5,.int .i64 (σ7.first:Int),.int .i64 (σ7.fed:Int),.int .i64 σ7.ended,.int .u64 σ7.ep,.int .u64 L7.e,.int .u64 L7.b,.slice L7.a L7.n L7.c,vm7,.int .u64 σ7.want.ep,.int .i64 σ7.want.n,.int .i64 σ7.want.en,.int .u64 σ7.want.first,.int .u64 σ7.want.fin,.int .i64 σ7.want.at_,.int .i64 σ7.want.size,.int .i64 (σ7.foot:Int),.slice aO E7.length cO]) (h2:Blk w' gk 65 #[.int .i64 k,.int .i64 f])=>(⟨h2.cell 0,h2.cell 1,h1.cell 2⟩:w'.cell? ⟨gk,0,none⟩=some (.int .i64 k)∧w'.cell? ⟨gk,1,none⟩=some (.int .i64 f)∧w'.cell? ⟨g,2,none⟩=some (.int .i64 (σ7.first:Int))))
  go_upto_region 4 with (fail)
  refine BQ (fun w'=>w'.cell? ⟨gk,0,none⟩=some (.int .i64 k)∧w'.cell? ⟨gk,1,none⟩=some (.int .i64 f)∧w'.cell? ⟨g,2,none⟩=some (.int .i64 (σ7.first:Int))) _ zJ rfl zJ ⟨k0,k1,y2⟩ (fun hHeld=> ?_)
  simp only[BD,FG]
  refine Aq (i:=0) (oi:=_) (v:=?_) rfl zF zF zF (fun _ _ _ h=>h) (Or.inl ⟨zR,?_⟩) zK ?_
  rotate_left
  ·(intro w hSw;(try dsimp only at hSw);go_simp<;>with_reducible rfl)
  (try simp only[Act.put,Aa,Ab,Ac])
  (try simp only[Ak,Ah,Af,Act.put,Aa,Ab,Ac])
  refine Aq (i:=1) (oi:=_) (v:=?_) rfl zF zF zF (fun _ _ _ h=>h) (Or.inl ⟨zR,?_⟩) zK ?_
  rotate_left
  ·(intro w hSw;(try dsimp only at hSw);go_simp<;>with_reducible rfl)
  (try simp only[Act.put,Aa,Ab,Ac])
  (try simp only[Ak,Ah,Af,Act.put,Aa,Ab,Ac])
  refine Aq (i:=2) (oi:=_) (v:=?_) rfl zF zF zF (fun _ _ _ h=>h) (Or.inl ⟨zR,?_⟩) zK ?_
  rotate_left
  ·(intro w hSw;(try dsimp only at hSw);go_simp<;>with_reducible rfl)
  (try simp only[Act.put,Aa,Ab,Ac])
  (try simp only[Ak,Ah,Af,Act.put,Aa,Ab,Ac])
  refine Aq (i:=3) (oi:=_) (v:=?_) rfl zF zF zF (fun _ _ _ h=>h) (Or.inl ⟨zR,?_⟩) zK ?_
  rotate_left
  ·(intro w hSw;(try dsimp only at hSw);go_simp<;>with_reducible rfl)
  (try simp only[Act.put,Aa,Ab,Ac])
  (try simp only[Ak,Ah,Af,Act.put,Aa,Ab,Ac])
  refine Aq (i:=4) (oi:=_) (v:=?_) rfl zF zF zF (fun _ _ _ h=>h) (Or.inl ⟨zR,?_⟩) zK ?_
  rotate_left
  ·(intro w hSw;(try dsimp only at hSw);go_simp<;>with_reducible rfl)
  (try simp only[Act.put,Aa,Ab,Ac])
  (try simp only[Ak,Ah,Af,Act.put,Aa,Ab,Ac])
  have HAd:=hid (show By w9.drew g D7 v5 vm7 (.slice aO E7.length cO) L7 σ7 E7 from HA9.out.later zA)
  have HTd:=hid (HT9.out.drew)
  have hzd:w9.heap.size≤w9.drew.heap.size:=As _
  generalize w9.drew=wd at*
  refine Bk (rs:=[5]) zF zM ?_
  refine Ba (o:=_) rfl (fun K hK=> ?_) AllReadyH.nil
  (go_simp;go_at_call 117;refine (HSH.out _).mono ?_;rintro r w10 ⟨rfl,hbq⟩;have hPq:=hPd.later hbq;have hKq:=hKd.later hbq;have HA10:=hid (HAd.out.later hbq);have HT10:=hid (HTd.out.trans (Tch.AW (F:=fun _=>False) hbq) fun _ _ e=>e.elim);have hzq:=hbq.size;obtain⟨k0,k1,k2,k3,lk⟩:=Bd hKq)
  refine hK.out _ _ ?_ (fun hHeld=> ?_)
  ·((try dsimp only);refine SK.out _ ?_ ?_<;>(repeat (first | with_reducible assumption | with_reducible refine Blk.drew ?_ | with_reducible refine Blk.alloc ?_ _ | with_reducible refine Blk.far ?_ zH _)))
  clear hK K
  (try simp only[Act.put,Aa,Ab,Ac])
  (try simp only[Ak,Ah,Af,Act.put,Aa,Ab,Ac])
  refine Aq (i:=6) (oi:=_) (v:=?_) rfl zF zF zF (fun _ _ _ h=>h) (Or.inl ⟨zR,?_⟩) zK ?_
  rotate_left
  ·(intro w hSw;(try dsimp only at hSw);go_simp<;>with_reducible rfl)
  (try simp only[Act.put,Aa,Ab,Ac])
  (try simp only[Ak,Ah,Af,Act.put,Aa,Ab,Ac])
  refine FP zJ ?_ _
  show wpList _ _ _ _ _ _
  go_upto_region 5 with (fail)
  have HA11:Hid (By ((w10.setCell ⟨gk,0,none⟩ (.int .i64 k)).setCell ⟨gk,1,none⟩ (.int .i64 VV)) g D7 v5 vm7 (.slice aO E7.length cO) L7 σ7 E7):=hid (HA10.out.side (((Tch.refl (fun q=>q=gk) w10).setCell (p:=⟨gk,0,none⟩) (fun _=>rfl) (.int .i64 k)).setCell (p:=⟨gk,1,none⟩) (fun _=>rfl) (.int .i64 VV)) (by show ¬g=gk;omega) (fun q _ hq _ e=>by have:=HD7.out q hq;have e2:q=gk:=e;omega))
  have HT11:Hid (Tch (fun q=>q=g∨(Value.slice aJ σ.buf.length cJ).ownBlock=some q∨vm.ownBlock=some q∨vo.ownBlock=some q) w ((w10.setCell ⟨gk,0,none⟩ (.int .i64 k)).setCell ⟨gk,1,none⟩ (.int .i64 VV))):=hid ((HT10.out.setCell (p:=⟨gk,0,none⟩) (fun e=>zA5) (.int .i64 k)).setCell (p:=⟨gk,1,none⟩) (fun e=>zA5) (.int .i64 VV))
  have hK11:Blk ((w10.setCell ⟨gk,0,none⟩ (.int .i64 k)).setCell ⟨gk,1,none⟩ (.int .i64 VV)) gk 65 #[.int .i64 k,.int .i64 VV]:=((hKq.set 0 (.int .i64 k)).set 1 (.int .i64 VV))
  clear HA10 HT10 HAd HTd hPq hKq hPd hKd hP9 hK9 SK y0 y1 y2 y3 y4 y5 y6 y7 y8 y9 y10 y11 y12 y13 y14 y15 y16 y17 y18 ly k0 k1 k2 k3 lk hHeld HA9 HT9 HSH
  have hz11:((w10.setCell ⟨gk,0,none⟩ (.int .i64 k)).setCell ⟨gk,1,none⟩ (.int .i64 VV)).heap.size=w10.heap.size:=zU
  have hgk11:gk<((w10.setCell ⟨gk,0,none⟩ (.int .i64 k)).setCell ⟨gk,1,none⟩ (.int .i64 VV)).heap.size:=zC
  clear hz11
  generalize ((w10.setCell ⟨gk,0,none⟩ (.int .i64 k)).setCell ⟨gk,1,none⟩ (.int .i64 VV))=w11 at*
  obtain⟨cells,hcO⟩:=HA11.out.out
  have HCO:=hid hcO
  have HOE:=hid (fun (V:World) (hV:Below w11.heap.size w11 V)=>Bz hcO.1 hV)
  clear hcO
  have hP11:Blk w11 g 83 #[nxF σ7.ph,v5,.int .i64 (σ7.first:Int),.int .i64 (σ7.fed:Int),.int .i64 σ7.ended,.int .u64 σ7.ep,.int .u64 L7.e,.int .u64 L7.b,.slice L7.a L7.n L7.c,vm7,.int .u64 σ7.want.ep,.int .i64 σ7.want.n,.int .i64 σ7.want.en,.int .u64 σ7.want.first,.int .u64 σ7.want.fin,.int .i64 σ7.want.at_,.int .i64 σ7.want.size,.int .i64 (σ7.foot:Int),.slice aO E7.length cO]:=HA11.out.blk
  have hPd:Blk w11.drew g 83 #[nxF σ7.ph,v5,.int .i64 (σ7.first:Int),.int .i64 (σ7.fed:Int),.int .i64 σ7.ended,.int .u64 σ7.ep,.int .u64 L7.e,.int .u64 L7.b,.slice L7.a L7.n L7.c,vm7,.int .u64 σ7.want.ep,.int .i64 σ7.want.n,.int .i64 σ7.want.en,.int .u64 σ7.want.first,.int .u64 σ7.want.fin,.int .i64 σ7.want.at_,.int .i64 σ7.want.size,.int .i64 (σ7.foot:Int),.slice aO E7.length cO]:=hP11.drew
  have hKd:Blk w11.drew gk 65 #[.int .i64 k,.int .i64 VV]:=hK11.drew
  obtain⟨y0,y1,y2,y3,y4,y5,y6,y7,y8,y9,y10,y11,y12,y13,y14,y15,y16,y17,y18,ly⟩:=Bo hP11
  obtain⟨z0,z1,z2,z3,z4,z5,z6,z7,z8,z9,z10,z11,z12,z13,z14,z15,z16,z17,z18⟩:=Cw hP11
  obtain⟨k0,k1,k2,k3,lk⟩:=Bd hK11
  have SK:=hid (fun (w':World) (h1:Blk w' g 83 #[nxF σ7.ph,v5,.int .i64 (σ7.first:Int),.int .i64 (σ7.fed:Int),.int .i64 σ7.ended,.int .u64 σ7.ep,.int .u64 L7.e,.int .u64 L7.b,.slice L7.a L7.n L7.c,vm7,.int .u64 σ7.want.ep,.int .i64 σ7.want.n,.int .i64 σ7.want.en,.int .u64 σ7.want.first,.int .u64 σ7.want.fin,.int .i64 σ7.want.at_,.int .i64 σ7.want.size,.int .i64 (σ7.foot:Int),.slice aO E7.length cO]) (h2:Blk w' gk 65 #[.int .i64 k,.int .i64 VV])=>(⟨h1.cell 18,h2.cell 0,h2.cell 1⟩:w'.cell? ⟨g,18,none⟩=some (.slice aO E7.length cO)∧w'.cell? ⟨gk,0,none⟩=some (.int .i64 k)∧w'.cell? ⟨gk,1,none⟩=some (.int .i64 VV)))
  refine BQ (fun w'=>w'.cell? ⟨g,18,none⟩=some (.slice aO E7.length cO)∧w'.cell? ⟨gk,0,none⟩=some (.int .i64 k)∧w'.cell? ⟨gk,1,none⟩=some (.int .i64 VV)) _ zJ rfl zJ ⟨y18,k0,k1⟩ (fun hHeld=> ?_)
  simp only[BD,FG]
  refine Aq (i:=0) (oi:=_) (v:=?_) rfl zF zF zF (fun _ _ _ h=>h) (Or.inl ⟨zR,?_⟩) zK ?_
  rotate_left
  ·(intro w hSw;(try dsimp only at hSw);go_simp<;>with_reducible rfl)
  (try simp only[Act.put,Aa,Ab,Ac])
  (try simp only[Ak,Ah,Af,Act.put,Aa,Ab,Ac])
  refine Aq (i:=1) (oi:=_) (v:=?_) rfl zF zF zF (fun _ _ _ h=>h) (Or.inl ⟨zR,?_⟩) zK ?_
  rotate_left
  ·(intro w hSw;(try dsimp only at hSw);go_simp<;>with_reducible rfl)
  (try simp only[Act.put,Aa,Ab,Ac])
  (try simp only[Ak,Ah,Af,Act.put,Aa,Ab,Ac])
  refine Aq (i:=2) (oi:=_) (v:=?_) rfl zF zF zF (fun _ _ _ h=>h) (Or.inl ⟨zR,?_⟩) zK ?_
  rotate_left
  ·(intro w hSw;(try dsimp only at hSw);go_simp<;>with_reducible rfl)
  (try simp only[Act.put,Aa,Ab,Ac])
  (try simp only[Ak,Ah,Af,Act.put,Aa,Ab,Ac])
  refine Aq (i:=3) (oi:=_) (v:=?_) rfl zF zF zF (fun _ _ _ h=>h) (Or.inl ⟨zR,?_⟩) zK ?_
  rotate_left
  ·(intro w hSw;(try dsimp only at hSw);go_simp<;>with_reducible rfl)
  (try simp only[Act.put,Aa,Ab,Ac])
  (try simp only[Ak,Ah,Af,Act.put,Aa,Ab,Ac])
  refine Aq (i:=4) (oi:=_) (v:=?_) rfl zF zF zF (fun _ _ _ h=>h) (Or.inl ⟨zR,?_⟩) zK ?_
  rotate_left
  ·(intro w hSw;(try dsimp only at hSw);go_simp<;>with_reducible rfl)
  (try simp only[Act.put,Aa,Ab,Ac])
  (try simp only[Ak,Ah,Af,Act.put,Aa,Ab,Ac])
  refine Aq (i:=5) (oi:=_) (v:=?_) rfl zF zF zF (fun _ _ _ h=>h) (Or.inl ⟨zR,?_⟩) zK ?_
  rotate_left
  ·(intro w hSw;(try dsimp only at hSw);go_simp<;>with_reducible rfl)
  (try simp only[Act.put,Aa,Ab,Ac])
  (try simp only[Ak,Ah,Af,Act.put,Aa,Ab,Ac])
  refine Aq (i:=6) (oi:=_) (v:=?_) rfl zF zF zF (fun _ _ _ h=>h) (Or.inl ⟨zR,?_⟩) zK ?_
  rotate_left
  ·(intro w hSw;(try dsimp only at hSw);go_simp<;>with_reducible rfl)
  (try simp only[Act.put,Aa,Ab,Ac])
  (try simp only[Ak,Ah,Af,Act.put,Aa,Ab,Ac])
  refine Aq (i:=7) (oi:=_) (v:=?_) rfl zF zF zF (fun _ _ _ h=>h) (Or.inl ⟨zR,?_⟩) zK ?_
  rotate_left
  ·(intro w hSw;(try dsimp only at hSw);go_simp<;>with_reducible rfl)
  (try simp only[Act.put,Aa,Ab,Ac])
  (try simp only[Ak,Ah,Af,Act.put,Aa,Ab,Ac])
  refine Aq (i:=8) (oi:=_) (v:=?_) rfl zF zF zF (fun _ _ _ h=>h) (Or.inl ⟨zR,?_⟩) zK ?_
  rotate_left
  ·(intro w hSw;(try dsimp only at hSw);go_simp<;>with_reducible rfl)
  (try simp only[Act.put,Aa,Ab,Ac])
  (try simp only[Ak,Ah,Af,Act.put,Aa,Ab,Ac])
  refine Aq (i:=9) (oi:=_) (v:=?_) rfl zF zF zF (fun _ _ _ h=>h) (Or.inl ⟨zR,?_⟩) zK ?_
  rotate_left
  ·(intro w hSw;(try dsimp only at hSw);go_simp<;>with_reducible rfl)
  (try simp only[Act.put,Aa,Ab,Ac])
  (try simp only[Ak,Ah,Af,Act.put,Aa,Ab,Ac])
  refine Bk (rs:=[10]) zF zM ?_
  refine Ba (o:=_) rfl (fun K hK=> ?_) AllReadyH.nil
  go_simp
  refine hK.out _ _ ?_ (fun hHeld=> ?_)
  ·((try dsimp only);refine SK.out _ ?_ ?_<;>(repeat (first | with_reducible assumption | with_reducible refine Blk.drew ?_ | with_reducible refine Blk.alloc ?_ _ | with_reducible refine Blk.far ?_ zH _)))
  clear hK K
  (try simp only[Act.put,Aa,Ab,Ac])
  (try simp only[Ak,Ah,Af,Act.put,Aa,Ab,Ac])
  refine Bk (rs:=[11]) zF zM ?_
  refine Ba (o:=_) rfl (fun K hK=> ?_) AllReadyH.nil
  (refine CL zR _ _ _ zR (g+1) 50 j0 (.agg #[.int .i64 0,.int .i64 0,.int .i64 0,.int .i64 0,.int .u64 0,.int .u64 0,.int .u64 0,.int .i64 0,.int .i64 0,.slice none 0 0,.slice none 0 0,.slice none 0 0,.int .u64 0,.int .u64 0,.int .u64 0,.int .u64 0,.slice none 0 0,.int .u64 0,.int .u64 0,.slice none 0 0]) 20 240 Tryz.underlying25 hj hy0 hy1 hy2 rfl zL (.slice aO E7.length cO) E7.length cells.flatten zR (HOE.out _ zB) (some ⟨w11.heap.size,0,none⟩) 1 1 (CJ (EvB.x (Ep VV k)) none 0 none 0 none 0 none 0 none 0) zR (BU w11.drew 50 _ zR zM rfl) Qx zO zC zI ?_;intro a9 c9 w12 hown9 hgrow9 hat9;have hg9:w11.heap.size+1≤w12.heap.size:=(by have h0:=hgrow9.size;simpa using h0);have HV:=hid (HA11.out.later (show Below w11.heap.size w11 (w11.drew.alloc (.cells (CJ (EvB.x (Ep VV k)) none 0 none 0 none 0 none 0 none 0).toArray 50)) by (repeat (first | with_reducible exact Below.refl _ _ | with_reducible assumption | (with_reducible refine Aw ?_ _) | (with_reducible refine Below.setCell ?_ zE _) | (with_reducible refine Below.drew ?_) | (with_reducible refine below_drewN ?_ _) | (refine Aj zG ?_)))));have hKV:=(hK11.drew).alloc (.cells (CJ (EvB.x (Ep VV k)) none 0 none 0 none 0 none 0 none 0).toArray 50);have HOQ:=hid HV.out.oq;have hPg:=HV.out.blk.grown hgrow9 (fun e=>by have:=(HOQ.out g e.symm).1;omega);have hKg:=hKV.grown hgrow9 (fun e=>by have:=HD7.out gk (HOQ.out gk e.symm).2;omega);have HG9:=hid hgrow9;have HX:=hid (show IV.r (fun q=>(g+1≤q∧D7 q∧v5.ownBlock≠some q∧vm7.ownBlock≠some q)∧(Value.slice aO E7.length cO).ownBlock≠some q) (w11.drew.alloc (.cells (CJ (EvB.x (Ep VV k)) none 0 none 0 none 0 none 0 none 0).toArray 50)) (CJ (EvB.x (Ep VV k)) none 0 none 0 none 0 none 0 none 0) (EvB.x (Ep VV k)) from Xp ⟨Nc,(Up:inU (0:Int)),(Up:inU (0:Int)),Bv (xs:=[]) rfl (As _) (Ar _) (.inl rfl)⟩);have HA12:=hid (HV.out.tell (HCO.out.keep (w':=w11.drew.alloc (.cells (CJ (EvB.x (Ep VV k)) none 0 none 0 none 0 none 0 none 0).toArray 50)) (fun b e=>AN w11.drew _ b (by have:=HA11.out.dl b e.2.1;exact this)) (fun q e=>AN w11.drew _ q (by have:=HA11.out.dl q (HA11.out.oT q e);exact this))) rfl HX.out hown9 hgrow9 hat9);have HQ9:=hid (show ∀q,(Value.slice a9 (E7.length+1) c9).ownBlock=some q→(Value.slice aO E7.length cO).ownBlock=some q∨w.heap.size≤q from fun q e=>Z1);obtain⟨y0,y1,y2,y3,y4,y5,y6,y7,y8,y9,y10,y11,y12,y13,y14,y15,y16,y17,y18,ly⟩:=Bo hPg;obtain⟨z0,z1,z2,z3,z4,z5,z6,z7,z8,z9,z10,z11,z12,z13,z14,z15,z16,z17,z18⟩:=Cw hPg;clear hown9 hgrow9 hat9)
  refine hK.out _ _ ?_ (fun hHeld=> ?_)
  ·((try dsimp only);refine SK.out _ ?_ ?_<;>(repeat (first | with_reducible assumption | with_reducible refine Blk.drew ?_ | with_reducible refine Blk.alloc ?_ _ | with_reducible refine Blk.far ?_ zH _)))
  clear hK K
  (try simp only[Act.put,Aa,Ab,Ac])
  (try simp only[Ak,Ah,Af,Act.put,Aa,Ab,Ac])
  refine Aq (i:=12) (oi:=_) (v:=?_) rfl zF zF zF (fun _ _ _ h=>h) (Or.inl ⟨zR,?_⟩) zK ?_
  rotate_left
  ·(intro w hSw;(try dsimp only at hSw);go_simp<;>with_reducible rfl)
  (try simp only[Act.put,Aa,Ab,Ac])
  (try simp only[Ak,Ah,Af,Act.put,Aa,Ab,Ac])
  refine Aq (i:=13) (oi:=_) (v:=?_) rfl zF zF zF (fun _ _ _ h=>h) (Or.inl ⟨zR,?_⟩) zK ?_
  rotate_left
  ·(intro w hSw;(try dsimp only at hSw);go_simp<;>with_reducible rfl)
  (try simp only[Act.put,Aa,Ab,Ac])
  (try simp only[Ak,Ah,Af,Act.put,Aa,Ab,Ac])
  refine Aq (i:=14) (oi:=_) (v:=?_) rfl zF zF zF (fun _ _ _ h=>h) (Or.inl ⟨zR,?_⟩) zK ?_
  rotate_left
  ·(intro w hSw;(try dsimp only at hSw);go_simp<;>with_reducible rfl)
  (try simp only[Act.put,Aa,Ab,Ac])
  (try simp only[Ak,Ah,Af,Act.put,Aa,Ab,Ac])
  refine FP zJ ?_ _
  show wpList _ _ _ _ _ _
  go_upto_region 6 with (fail)
  have HT12:Hid (Tch (fun q=>q=g∨(Value.slice aJ σ.buf.length cJ).ownBlock=some q∨vm.ownBlock=some q∨vo.ownBlock=some q) w (w12.setCell ⟨g,18,none⟩ (.slice a9 (E7.length+1) c9))):=hid (Tch.setCell ((((HT11.out.drew).alloc (.cells (CJ (EvB.x (Ep VV k)) none 0 none 0 none 0 none 0 none 0).toArray 50)).trans (Tch.GR HG9.out) fun q hq e=> .inr (.inr (.inr ((HGO.out q e).resolve_right zC))))) (p:=⟨g,18,none⟩) (fun _=> .inl rfl) _)
  clear y0 y1 y2 y3 y4 y5 y6 y7 y8 y9 y10 y11 y12 y13 y14 y15 y16 y17 y18 ly z0 z1 z2 z3 z4 z5 z6 z7 z8 z9 z10 z11 z12 z13 z14 z15 z16 z17 z18 HV hKV hPg hKg HG9 HX HOE HCO SK hPd hKd k0 k1 k2 k3 lk hHeld hK11 hP11 HA11 HT11
  generalize w12.setCell ⟨g,18,none⟩ (.slice a9 (E7.length+1) c9)=w13 at*
  obtain⟨D12,hA12⟩:∃D',By w13 g D' v5 vm7 (.slice a9 (E7.length+1) c9) L7 σ7 (E7++[EvB.x (Ep VV k)]):=⟨_,HA12.out⟩
  clear HA12
  have HA12:=hid hA12
  obtain⟨y0,y1,y2,y3,y4,y5,y6,y7,y8,y9,y10,y11,y12,y13,y14,y15,y16,y17,y18,ly⟩:=Bo HA12.out.blk
  obtain⟨z0,z1,z2,z3,z4,z5,z6,z7,z8,z9,z10,z11,z12,z13,z14,z15,z16,z17,z18⟩:=Cw HA12.out.blk
  go_wp2_with fail
  first | go_end0 | refine Ax (A4 rfl _ _ _) rfl ?_
  have I1:=HA12.out.Oo (τ:={σ7 with ended:=4}) 4 (.int .i64 4) (by have:=HA12.out.blk.set 4 (.int .i64 4);exact this) rfl rfl rfl
  have I2:=I1.drop
  refine⟨rfl,D12,.slice none 0 0,vm7,.slice a9 (E7.length+1) c9,L7,?_,(fun q e=>ZO),HGM.out,fun q e=> ?_,(HT12.out.setCell (p:=⟨g,4,none⟩) (fun _=> .inl rfl) _).setCell (p:=⟨g,1,none⟩) (fun _=> .inl rfl) _⟩
  ·rw[HONE.out,Ll HNXX.out,←HVV.out]
   exact I2
  ·rcases HQ9.out q e with h | h
   ·exact HGO.out q h
   ·exact .inr h
end Go.Proofs.YtfddhafbhceoaaaGreat
