/- Mini: Needed by segmentOnce_walk, part 11: texts put together by shake.py; no condition. -/
import Derived.Test.YtfddhafbhceoaaaGreatWC2
import Derived.Test.YtfddhafbhceoaaaGreatWC10
import Derived.Test.YtfddhafbhceoaaaGreatWC9
import Derived.Test.YtfddhafbhceoaaaGreatWC1
import Derived.Test.YtfddhafbhceoaaaGreatWC7
import Derived.Test.YtfddhafbhceoaaaGreatWC8
import Derived.Test.YtfddhafbhceoaaaGreatWC3
import Derived.Test.YtfddhafbhceoaaaGreatWC6
import Derived.Deep.CutRange
import Derived.Scope
import Derived.Deep.RegionHeld3
import Derived.Test.YtfddhafbhceoaaaGreatProg
import Derived.WalkKit
import Derived.Deep.Cut
import Derived.Deep.WholeRow
import Derived.BigQuiet
import Derived.Test.YtfddhafbhceoaaaGreatWC5
import Derived.Test.YtfddhafbhceoaaaGreatWC4
set_option linter.unusedVariables false
set_option linter.unusedSimpArgs false
set_option maxRecDepth 100000
set_option maxHeartbeats 6400000
namespace Go.Bs
theorem zBt{p:Prop}(h:p:=by have := HSI2.out.br.lt; have := HSI2.out.x.lt; omega):p:=h
theorem zA7{p:Prop}(h:p:=by have h9 := (Bo HJ4.out q e.symm).2; have h8 := hq.1; omega):p:=h
theorem zAx{p:Prop}(h:p:=by rw [Al]; simp; omega):p:=h
theorem zAl{p:Prop}(h:p:=by rw [HRR.out]; exact BL (xs := []) rfl (Ap _) (At _) (.inl rfl)):p:=h
theorem Z9{p:Prop}(h:p:=by simp [results, Tryz.results88, go_sem, World.cell?_setCell_far, q0, q1, q2, q3, q4, q5, q6, q7, q8]):p:=h
theorem Z1{p:Prop}(h:p:=by simp [results, Tryz.results54, go_sem, y0, y1, y2, y3, l1]):p:=h
open Go.RowKit
def Iq:Int→List AU→Int
 | p,[]=>p
 | _,m::l=>Iq (m.pos+m.count) l
def Pg:Int→List AU→Int
 | a,[]=>a
 | _,m::l=>Pg m.at_ l
theorem Ke:∀(M:List AU) (p:Int) (m:AU),Iq p (M++[m])=m.pos+m.count
 | [],_,_=>rfl
 | x::M,p,m=>Ke M _ m
theorem Nj:∀(M:List AU) (p:Int) (m:AU),Pg p (M++[m])=m.at_
 | [],_,_=>rfl
 | x::M,p,m=>Nj M _ m
theorem LA:∀(M:List AU) (p a:Int) (m:AU),DM p a (M++[m])=(DM p a M&&CU m (Iq p M) (Pg a M))
 | [],p,a,m=>by simp[DM,Iq,Pg]
 | x::M,p,a,m=>by
  simp only[K0,DM,Iq,Pg];rw[LA M _ _ m,Bool.and_assoc]
theorem Ro:∀(M:List AU) (p a:Int),DM p a M=true→p+DX M≤Iq p M∧(M≠[]→Iq p M≤4611686018427387904)
 | [],p,a,_=>by simp[DX,Iq]
 | x::M,p,a,h=>by
  simp only[DM,Aq] at h;obtain⟨h1,h2,h3,h4,h5,h6,h7⟩:=DV h.1;have h8:=Ro M (x.pos+x.count) x.at_ h.2;simp only[DX,DA,List.sum_cons,Iq] at h8 ⊢;refine⟨zD,fun _=> ?_⟩;cases M with
  | nil=>simpa [Iq] using h5
  | cons y M=>exact h8.2 zQ
theorem Tx:∀(M:List AU) (p:Int),M≠[]→(Fi M).2=Iq p M:=by
 intro M p h;have h0:0<M.length:=List.length_pos_iff.2 h;rw[I7 h0];dsimp only;have e2:=Ke M.dropLast p (M.getLast h);rw[List.dropLast_concat_getLast] at e2;rw[e2,List.getLast_eq_getElem]
theorem QF{ep:Int}{M:List AU}{at_ size:Int}(he:epR ep=true)(hM:Cv M=true)(hn:∀m∈M,Gn m)(ha:1≤at_∧at_≤1099511627775)(hs:1≤size∧size≤2097152):Ia ⟨ep,M.length,DX M,(Fi M).1,(Fi M).2,at_,size⟩:=by
 have hM':=hM;simp only[Cv,Aq,Ar] at hM';have hc:=Su M fun m hm=>by obtain⟨h1,h2,_⟩:=Ig M 0 0 hM'.1 m hm;exact⟨h1,h2⟩
 refine⟨he,zQ,zH,hc.1,zH,ha.1,ha.2,hs.1,hs.2,?_⟩;dsimp only;cases M with
 | nil=>simp [Fi]
 | cons x M=>
  rw[Ah zI];have h0:=hM'.1;simp only[DM,Aq] at h0;obtain⟨h1,h2,h3,h4,h5,h6,h7⟩:=DV h0.1;have hr:DM x.pos 0 (x::M)=true:=by
   simp only[DM,Aq];exact⟨by simp only[CU,Aq,Ar];omega,h0.2⟩
  have h8:=Ro (x::M) x.pos 0 hr;have h9:=Tx (x::M) x.pos zQ;have h10:(Fi (x::M)).1=x.pos:=by rw[I7 zQ];rfl
  rw[h9,h10];have h11:=(hn x (List.mem_cons_self ..)).p.1;have h12:=h8.2 zQ;have h13:=hc.1;simp only[AL] at h13;refine⟨h11,zD,h12,zD⟩
end Go.Bs
namespace Go.Proofs.YtfddhafbhceoaaaGreat
open Go.RowKit Go.Bs Go.Maps
variable{f m:Int}{B D J P:List UInt8}{xs:List Value}{L base c n sz:Nat}{F:Nat → Prop}{a:Option Addr}{s:Rs}{e:TypeId}{v:Value}{W W' w w':World}
theorem Fq{b:Batch}(h:A4 b=true):1≤b.epoch∧b.epoch<4611686018427387904∧1≤b.entries.length∧b.entries.length≤16∧b.base+b.entries.length≤4611686018427387904∧total b.entries≤1048576:=by
 simp only[A4,epR,Dc,Aq,Ar] at h;exact⟨h.1.1,h.1.2,h.2.1.1,h.2.1.2.1,h.2.1.2.2.2,h.2.2.1⟩
theorem Mf{e:Int}:∀{p:Option Batch} {l:List Batch},DL e p l=true→∀b∈l,A4 b=true
 | _,[],_,b,hb=>by cases hb
 | p,x::l,h,b,hb=>by
  simp only[DL,Aq] at h;rcases List.mem_cons.1 hb with rfl | hb
  ·exact h.1
  ·exact Mf h.2.2 b hb
theorem GG{g:Seg}(h:Df g=true):(1≤g.epoch∧g.epoch<4611686018427387904)∧g.batches.length≤16∧∀b∈g.batches,A4 b=true:=by
 simp only[Df,epR,Aq,Ar] at h;exact⟨h.1,h.2.1,Mf h.2.2⟩
def Ee:List UInt8→List AU→List Batch→List UInt8 × List AU
 | J,M,[]=>(J,M)
 | J,M,b::l=>Ee (J++Em 1 (Co b)) (M++[⟨b.base,b.entries.length,J.length⟩]) l
def G8(ep:Int)(l:List Batch):List UInt8 × List AU:=Ee (Cw 3 ep.toNat 0) [] l
def Ow(ep:Int)(l:List Batch):List UInt8:=Em 2 (Bx (G8 ep l).2)
def EC(ep:Int)(l:List Batch):Cj:=Ge ep (G8 ep l).2 (G8 ep l).1.length (Ow ep l).length
def KT(ep:Int)(l:List Batch):List UInt8:=(G8 ep l).1++Ow ep l++Fh (EC ep l)
theorem PN(J:List UInt8)(M:List AU)(l:List Batch)(k:Nat)(h:k<l.length):Ee J M (l.drop k)=Ee (J++Em 1 (Co l[k])) (M++[⟨l[k].base,l[k].entries.length,J.length⟩]) (l.drop (k+1)):=by
 rw[AD h];rfl
theorem Nt{b:Batch}(h:A4 b=true):(Co b).length≤1100000:=by
 have h1:=(Mr h).2;have h2:=(A3 (total b.entries)).1;have h3:=(Fq h).2.2.2.2.2;omega
theorem Hc(k:UInt8)(D:List UInt8):(Em k D).length≤D.length+15∧1≤(Em k D).length:=by
 have:=A3 (k::D).length;simp only[Em,Eo,Ez,AL] at this ⊢;omega
theorem I2{v ep bs:Nat}(h1:ep<4611686018427387904)(h2:bs<4611686018427387904):(Cw v ep bs).length≤27∧5≤(Cw v ep bs).length:=by
 have:=M7 (v:=v) (Fw (x:=ep) zD) (Fw (x:=bs) zD);simp only[Cw,Al,Dz];simp only[Dw,Al,AL] at this ⊢;omega
theorem Kq{e:Int}:∀(l:List Batch) (J:List UInt8) (M:List AU) (p:Option Batch),DM 0 0 M=true→(∀m∈M,Gn m)→(match p with | none=>Iq 0 M=0 | some b=>Iq 0 M=b.base+b.entries.length)→Pg 0 M<J.length→J.length+1200000*l.length≤1000000000→M.length+l.length≤16→(∀b∈l,EK b)→DL e p l=true→
  Cv (Ee J M l).2=true∧(Ee J M l).1.length≤J.length+1200000*l.length∧J.length≤(Ee J M l).1.length∧∀m∈(Ee J M l).2,Gn m
 | [],J,M,p,hM,hN,_,_,_,hl,_,_=>by
  refine⟨?_,by simp[Ee],by simp[Ee],hN⟩;simp only[Ee,Cv,hM,D7];exact Ad zBb
 | b::l,J,M,p,hM,hN,hp,hA,hJ,hl,hbn,hc=>by
  simp only[DL,Aq] at hc;obtain⟨hb,hm,hc⟩:=hc;have hB:=Nt hb;have hr:=Hc 1 (Co b);obtain⟨f1,f2,f3,f4,f5,f6⟩:=Fq hb;have hbn0:=(hbn b (List.mem_cons_self ..)).2.1;simp only[AL] at hJ hl;have hfit:CU ⟨b.base,b.entries.length,J.length⟩ (Iq 0 M) (Pg 0 M)=true:=by
   simp only[CU,Aq,Ar];refine⟨zD,zD,?_,zD,zD,hA,zD⟩;cases p with
   | none=>rw [show Iq 0 M=0 from hp];omega
   | some q=>
    simp only[En,Aq,Ar] at hm;rw[show Iq 0 M=q.base+q.entries.length from hp];exact hm.2.2
  have hr2:=Kq (e:=e) l (J++Em 1 (Co b)) (M++[⟨b.base,b.entries.length,J.length⟩]) (some b) (by rw[LA,hM,hfit];rfl)
   (fun m hm=>by
    rcases List.mem_append.1 hm with hm | hm
    ·exact hN m hm
    ·rw[C3] at hm;subst hm;exact⟨hbn0,zH,zH⟩)
   (by dsimp only;rw[Ke]) (by rw[Nj];simp;omega) (by rw[Al];omega) zAx (fun x hx=>hbn x (List.mem_cons_of_mem _ hx)) hc
  simp only[Ee];refine⟨hr2.1,?_,?_,hr2.2.2.2⟩
  ·have:=hr2.2.1;rw[Al] at this;simp only[AL];omega
  ·have:=hr2.2.2.1;rw[Al] at this;omega
theorem Ls{ep:Int}{l:List Batch}(hR:Df ⟨ep,l⟩=true)(hbn:∀b∈l,EK b):Cv (G8 ep l).2=true∧5≤(G8 ep l).1.length∧(G8 ep l).1.length≤20000000∧∀m∈(G8 ep l).2,Gn m:=by
 obtain⟨h1,h2,_⟩:=GG hR;simp only[Df,Aq,Ar] at hR;have h1':1≤ep∧ep<4611686018427387904:=h1;have h2':l.length≤16:=h2;have hh:=I2 (v:=3) (ep:=ep.toNat) (bs:=0) zD zD;have:=Kq (e:=ep) l (Cw 3 ep.toNat 0) [] none rfl zQ rfl (by simp only[Pg];omega) zD (by simpa using h2') hbn hR.2.2;unfold G8;exact⟨this.1,zD,zD,this.2.2.2⟩
theorem I1{M:List AU}(h:Cv M=true):(Bx M).length≤490:=by
 simp only[Cv,Aq,Ar] at h;have h1:=(A3 M.length).1;have h2:=IY M 0 0;simp only[Bx,Al];omega
theorem Lu{ep:Int}{l:List Batch}(hR:Df ⟨ep,l⟩=true)(hbn:∀b∈l,EK b):Ia (EC ep l):=by
 obtain⟨h1,h2,h3,h4⟩:=Ls hR hbn;have h5:=I1 h1;have h6:=Hc 2 (Bx (G8 ep l).2);simp only[Df,Aq] at hR;exact QF hR.1 h1 h4 zD (by unfold Ow;omega)
def Ov:List Value:=[.int .u64 0,.int .i64 0,.int .i64 0,.int .u64 0,.int .u64 0,.int .i64 0,.int .i64 0]
structure C9(w W:World)(ep:Int)(a:Option Addr)(n c:Nat)(J:List UInt8)(M:List AU)(aJ:Option Addr)(cJ:Nat)(aM:Option Addr)(cM:Nat):Prop where
 below:Below w.heap.size w W
 bx:Blk W w.heap.size 63 #[.int .u64 ep,.slice a n c]
 br:Blk W (w.heap.size+1) 135 (.slice none 0 0:: .slice none 0 0::Ov).toArray
 x:Blk W (w.heap.size+2) 135 (.slice aJ J.length cJ:: .slice aM M.length cM::Ov).toArray
 j:DQ W (w.heap.size+3) (.slice aJ J.length cJ) J
 m:El W (w.heap.size+3) (.slice aM M.length cM) M
section
variable {w W:World} {ep:Int} {a:Option Addr} {n c:Nat} {J:List UInt8} {M:List AU} {aJ:Option Addr} {cJ:Nat} {aM:Option Addr} {cM:Nat}
theorem El.below{b:Nat}{M:List AU}(h:El W b v M)(hb:Below W.heap.size W W'):El W' b v M:=⟨Bp h.own hb,h.nat⟩
theorem C9.later(h:C9 w W ep a n c J M aJ cJ aM cM)(hb:Below W.heap.size W W'):C9 w W' ep a n c J M aJ cJ aM cM:=
 ⟨Af hb h.below,h.bx.later hb,h.br.later hb,h.x.later hb,Bp h.j hb,h.m.below hb⟩
theorem C9.ne(h:C9 w W ep a n c J M aJ cJ aM cM):∀b,(Value.slice aJ J.length cJ).ownBlock=some b→(Value.slice aM M.length cM).ownBlock≠some b:=Qe h.j h.m.own zO
theorem C9.far{u:Nat}(h:W.ownsRow (w.heap.size+3) e sz v u xs){b:Nat}(hb:b<w.heap.size+3):v.ownBlock≠some b:=fun e=>by have:=(Bo h b e).1;omega
theorem C9.mark(h:C9 w W ep a n c J M aJ cJ aM cM){W2:World}{m:AU}(hm:Gn m){aM':Option Addr}{cM':Nat}
 (hown:W2.ownsRow (w.heap.size+3) 88 3 (.slice aM' (M.length+1) cM') (M.length+1) ((M.map LM).flatten++LM m)) (hg:W.grownBy W2 (Value.slice aM M.length cM).ownBlock):
  C9 w (W2.setCell ⟨w.heap.size+2,1,none⟩ (.slice aM' (M.length+1) cM')) ep a n c J (M++[m]) aJ cJ aM' cM':=by
 have hl:(M++[m]).length=M.length+1:=zQ;have hb2:Below w.heap.size w W2:=h.below.grown hg h.below.size (fun g e=>by have:=(Bo h.m.own g e).1;omega);have f2:(Value.slice aM' (M.length+1) cM').ownBlock≠some (w.heap.size+2):=C9.far hown zD;refine⟨hb2.setCell zH _,?_,?_,?_,?_,?_,?_⟩
 ·exact (h.bx.grown hg (fun e=>C9.far h.m.own zD e.symm)).far zH _
 ·exact (h.br.grown hg (fun e=>C9.far h.m.own zD e.symm)).far zH _
 ·rw[hl]
  exact (h.x.grown hg (fun e=>C9.far h.m.own zD e.symm)).set 1 _
 ·refine Cu (Cu h.j fun b hv hl=>hg.block b hl (fun e=>h.ne b hv e.symm)) fun b hv hl=>Aw _ _ _ _ (fun e=> ?_)
  have:=(Bo h.j b hv).1;dsimp only at e;omega
 ·rw[hl,Cs,EY]
  simp only[DA,List.map_nil,List.flatten_cons,List.flatten_nil,Io];exact Cu hown fun b hv hl=>Aw _ _ _ _ (fun e=>f2 (by rw[hv,e]))
 ·intro x hx
  rcases List.mem_append.1 hx with hx | hx
  ·exact h.m.nat x hx
  ·rw[C3] at hx;subst hx;exact hm
theorem C9.more(h:C9 w W ep a n c J M aJ cJ aM cM){W2:World}{aJ':Option Addr}{cJ':Nat}
 (hown:W2.ownsRow (w.heap.size+3) 5 1 (.slice aJ' (J.length+D.length) cJ') (J.length+D.length) (byteCells J++byteCells D)) (hg:W.grownBy W2 (Value.slice aJ J.length cJ).ownBlock):
  C9 w (W2.setCell ⟨w.heap.size+2,0,none⟩ (.slice aJ' (J.length+D.length) cJ')) ep a n c (J++D) M aJ' cJ' aM cM:=by
 have hl:(J++D).length=J.length+D.length:=zQ;have hb2:Below w.heap.size w W2:=h.below.grown hg h.below.size (fun g e=>by have:=(Bo h.j g e).1;omega);have f2:(Value.slice aJ' (J.length+D.length) cJ').ownBlock≠some (w.heap.size+2):=C9.far hown zD;refine⟨hb2.setCell zH _,?_,?_,?_,?_,?_,h.m.nat⟩
 ·exact (h.bx.grown hg (fun e=>C9.far h.j zD e.symm)).far zH _
 ·exact (h.br.grown hg (fun e=>C9.far h.j zD e.symm)).far zH _
 ·rw[hl]
  exact (h.x.grown hg (fun e=>C9.far h.j zD e.symm)).set 0 _
 ·have ho:DQ W2 (w.heap.size+3) (.slice aJ' (J.length+D.length) cJ') (J++D):=DQ.app hown
  rw[hl];exact Cu ho fun b hv hl=>Aw _ _ _ _ (fun e=>f2 (by rw[hv,e]))
 ·refine Cu (Cu h.m.own fun b hv hl=>hg.block b hl (fun e=>h.ne b e.symm hv)) fun b hv hl=>Aw _ _ _ _ (fun e=> ?_)
  have:=(Bo h.m.own b hv).1;dsimp only at e;omega
end
theorem UG(w:World)(g:Nat)(v2 v3 v4 v5 v6 v7 v8:Value):Tch (·=g) w ((((((((w).setCell ⟨g,2,none⟩ v2).setCell ⟨g,3,none⟩ v3).setCell ⟨g,4,none⟩ v4).setCell ⟨g,5,none⟩ v5).setCell ⟨g,6,none⟩ v6).setCell ⟨g,7,none⟩ v7).setCell ⟨g,8,none⟩ v8):=
 Tch.setCell (F:=(·=g)) (Tch.setCell (F:=(·=g)) (Tch.setCell (F:=(·=g)) (Tch.setCell (F:=(·=g)) (Tch.setCell (F:=(·=g)) (Tch.setCell (F:=(·=g)) (Tch.setCell (F:=(·=g)) (Tch.refl (·=g) w) (p:=⟨g,2,none⟩) (fun _=>rfl) v2) (p:=⟨g,3,none⟩) (fun _=>rfl) v3) (p:=⟨g,4,none⟩) (fun _=>rfl) v4) (p:=⟨g,5,none⟩) (fun _=>rfl) v5) (p:=⟨g,6,none⟩) (fun _=>rfl) v6) (p:=⟨g,7,none⟩) (fun _=>rfl) v7) (p:=⟨g,8,none⟩) (fun _=>rfl) v8
theorem Ul(w:World)(x r:Nat)(u v0 v1 v2 v3 v4 v5 v6 v7 v8:Value):Tch (fun b=>b=x∨b=r) w (((((((((((w.setCell ⟨x,0,none⟩ u)).setCell ⟨r,0,none⟩ v0).setCell ⟨r,1,none⟩ v1).setCell ⟨r,2,none⟩ v2).setCell ⟨r,3,none⟩ v3).setCell ⟨r,4,none⟩ v4).setCell ⟨r,5,none⟩ v5).setCell ⟨r,6,none⟩ v6).setCell ⟨r,7,none⟩ v7).setCell ⟨r,8,none⟩ v8):=
 Tch.setCell (F:=fun b=>b=x∨b=r) (Tch.setCell (F:=fun b=>b=x∨b=r) (Tch.setCell (F:=fun b=>b=x∨b=r) (Tch.setCell (F:=fun b=>b=x∨b=r) (Tch.setCell (F:=fun b=>b=x∨b=r) (Tch.setCell (F:=fun b=>b=x∨b=r) (Tch.setCell (F:=fun b=>b=x∨b=r) (Tch.setCell (F:=fun b=>b=x∨b=r) (Tch.setCell (F:=fun b=>b=x∨b=r) (Tch.setCell (F:=fun b=>b=x∨b=r) (Tch.refl _ w) (p:=⟨x,0,none⟩) (fun _=> .inl rfl) u) (p:=⟨r,0,none⟩) (fun _=> .inr rfl) v0) (p:=⟨r,1,none⟩) (fun _=> .inr rfl) v1) (p:=⟨r,2,none⟩) (fun _=> .inr rfl) v2) (p:=⟨r,3,none⟩) (fun _=> .inr rfl) v3) (p:=⟨r,4,none⟩) (fun _=> .inr rfl) v4) (p:=⟨r,5,none⟩) (fun _=> .inr rfl) v5) (p:=⟨r,6,none⟩) (fun _=> .inr rfl) v6) (p:=⟨r,7,none⟩) (fun _=> .inr rfl) v7) (p:=⟨r,8,none⟩) (fun _=> .inr rfl) v8
theorem Jk(w:World)(t1 t2 t3:TypeId)(s1 s2 s3:Array Value)(hb:Below (((w.alloc (.cells s1 t1)).alloc (.cells s2 t2)).alloc (.cells s3 t3)).heap.size (((w.alloc (.cells s1 t1)).alloc (.cells s2 t2)).alloc (.cells s3 t3)) w'):
  Blk w' w.heap.size t1 s1∧Blk w' (w.heap.size+1) t2 s2∧Blk w' (w.heap.size+2) t3 s3∧Below w.heap.size w w'∧w.heap.size+3≤w'.heap.size:=
 ⟨(((Blk.new w t1 s1).alloc _).alloc _).later hb,((Blk.Uv w _ t2 s2).alloc _).later hb,(Blk.newAt _ t3 s3 zQ).later hb,Af hb (Au (Au (Au (Below.refl _ _) _) _) _),by have:=hb.size;simpa using this⟩
theorem PL(ep:Int)(he:epR ep=true)(w:World):
  Calls Tryz.prog 88 #[.agg #[.int .u64 ep,.slice none 0 0]] w fun r w'=>∃v u f0 f1 f2 f3 f4 f5 f6,r=.returned (.agg #[v,u,f0,f1,f2,f3,f4,f5,f6])∧Ag.r (fun q=>w.heap.size≤q∧q<w'.heap.size) w' [v] (KT ep [])∧Below w.heap.size w w':=by
 obtain⟨i0,hi,hz0,hz1,hz2⟩:=A1 Eu;have hR:Df ⟨ep,[]⟩=true:=by simp[Df,he,DL]
 have hFR:=Lu hR zQ;have HFB:=hid (fun W:World=>JJ (EC ep []) hFR W);have he':=he;simp only[epR,Ar] at he';have hte:(ep.toNat:Int)=ep:=zD;have HH:=hid (fun W:World=>(by
  have:=JI W 3 ep.toNat 0 (by simp only[KV,hte,he,poR];decide);rw[hte] at this;exact this:Calls Tryz.prog 145 #[.agg #[.int .i64 3,.int .u64 ep,.int .u64 0]] W fun r w'=>∃x,r=.returned (.tuple #[x,.int .i64 0])∧DQ w' W.heap.size x (Cw 3 ep.toNat 0)∧Below W.heap.size W w'))
 have hhl:=I2 (v:=3) (ep:=ep.toNat) (bs:=0) zD zD;have HI:=hid (fun W:World=>KD W [] none 0 0 (BL (xs:=[]) rfl (Ap _) (At _) (.inl rfl)) rfl);have hil:=I1 (M:=[]) rfl;have HRC:=hid (fun (W:World) (a:Option Addr) (n c:Nat) h=>IN 2 zO (Bx []) a n c W h zD);have hxl:=Hc 2 (Bx []);have hfe:Hid (EC ep []=Ge ep [] (Cw 3 ep.toNat 0).length (Em 2 (Bx [])).length):=hid rfl;have HFO:=hid (fun (W:World)=>IP ep [] (Cw 3 ep.toNat 0).length (Em 2 (Bx [])).length none 0 0 W (BL (xs:=[]) rfl (Ap _) (At _) (.inl rfl)) rfl);rw[←hfe.out] at HFO;have hse:Hid (KT ep []=Cw 3 ep.toNat 0++Em 2 (Bx [])++Fh (EC ep [])):=hid rfl;have hfl:(Fh (EC ep [])).length≤200:=by
  simp only[Fh,Al,IJ,Eo,Ez];have h1:=Ik (EC ep []);have h2:=(A3 (Eg (EC ep [])).length).1;omega
 have HON1:=hid (A7 (Em 2 (Bx [])));have HON2:=hid (A7 (Fh (EC ep [])));generalize KT ep []=K at*;generalize Fh (EC ep [])=FB at*;generalize Cw 3 ep.toNat 0=H at*;generalize (EC ep [])=F at*;obtain⟨f0,f1,f2,f3,f4,f5,f6⟩:=F;simp only[Cj.val] at HFB HFO;generalize Bx []=IB at*;generalize hrx:Em 2 IB=RX at*;clear hR hFR hfe he hte hrx;go_enter Tryz.func88,Tryz.ntmps88;go_wp2_with fail;refine (HH.out _).mono ?_;rintro r w1 ⟨v1,rfl,ho1,hb1⟩;obtain⟨a1,c1,rfl⟩:=ho1.form;obtain⟨p0,p1,p2,hb0,hz3⟩:=Jk w _ _ _ _ _ _ hb1;have ho1':DQ w1 (w.heap.size+3) (.slice a1 H.length c1) H:=ho1.low zQ;have k0:w1.cell? ⟨w.heap.size+1+1,0,none⟩=some (.slice none 0 0):=p2.cell 0;have k1:w1.frozen? ⟨w.heap.size+1+1,0,none⟩=false:=p2.free 0;have hSI:C9 w (w1.setCell ⟨w.heap.size+2,0,none⟩ (.slice a1 H.length c1)) ep none 0 0 H [] a1 c1 none 0:=by
  have h2:(Value.slice a1 H.length c1).ownBlock≠some (w.heap.size+2):=C9.far ho1' zD;exact⟨hb0.setCell zH _,p0.far zH _,p1.far zH _,p2.set 0 _,Cu ho1' fun b hv hl=>Aw _ _ _ _ (fun e=>h2 (by rw[hv,e])),El.nil⟩
 have HSI:=hid hSI;have hz21:w.heap.size+2<w1.heap.size:=p2.lt;have HBX:=hid p0;clear ho1 ho1' p0 p1 p2 hSI hb1 hb0;have b1:w1.cell? ⟨w.heap.size,1,none⟩=some (.slice none 0 0):=HBX.out.cell 1;go_wp2_with fail;refine Dm (fun W=>C9 w W ep none 0 0 H [] a1 c1 none 0) HSI.out ?_;intro W hSI;have HSI:=hid hSI;clear k0 k1 b1 hSI;go_loopw [24] (fun i wr=>i=.int .i64 0∧wr=W) (fun _ _=>0)
 case atStart=>exact ⟨rfl,rfl⟩
 case round=>
  obtain⟨rfl,rfl⟩:=hrel;have y1:wr.cell? ⟨w.heap.size+1+1,1,none⟩=some (.slice none 0 0):=HSI.out.x.cell 1;go_wp2_with fail;refine (HI.out _).mono ?_;rintro r w2 ⟨v2,rfl,hr2,hb2⟩;obtain⟨a2,c2,hv2,hr2',_⟩:=AJ hr2;simp only[As,AF] at hv2;subst hv2;have HSI2:=hid (HSI.out.later hb2);go_wp2_with fail;refine (HRC.out w2 a2 _ c2 (Ag.mono hr2' fun q hq=>hq.2)).mono ?_;rintro r w3 ⟨v3,rfl,ho3,hb3⟩;obtain⟨a3,c3,rfl⟩:=ho3.form;have HSI3:=hid (HSI2.out.later hb3);have HO3:=hid ho3;have x3:w3.cell? ⟨w.heap.size,0,none⟩=some (.int .u64 ep):=HSI3.out.bx.cell 0;have y3:w3.cell? ⟨w.heap.size+1+1,1,none⟩=some (.slice none 0 0):=HSI3.out.x.cell 1;have z3:w3.cell? ⟨w.heap.size+1+1,0,none⟩=some (.slice a1 H.length c1):=HSI3.out.x.cell 0;clear ho3 hr2 hr2' y1;go_wp2_with fail;refine (HFO.out w3).mono ?_;rintro r w4 ⟨rfl,hb4⟩;have HSI4:=hid (HSI3.out.later hb4);have HO4:=hid (Bp HO3.out hb4);have m0:w4.cell? ⟨w.heap.size+1+1,2,none⟩=some (.int .u64 0):=HSI4.out.x.cell 2;have n0:w4.frozen? ⟨w.heap.size+1+1,2,none⟩=false:=HSI4.out.x.free 2;have m1:w4.cell? ⟨w.heap.size+1+1,3,none⟩=some (.int .i64 0):=HSI4.out.x.cell 3;have n1:w4.frozen? ⟨w.heap.size+1+1,3,none⟩=false:=HSI4.out.x.free 3;have m2:w4.cell? ⟨w.heap.size+1+1,4,none⟩=some (.int .i64 0):=HSI4.out.x.cell 4;have n2:w4.frozen? ⟨w.heap.size+1+1,4,none⟩=false:=HSI4.out.x.free 4;have m3:w4.cell? ⟨w.heap.size+1+1,5,none⟩=some (.int .u64 0):=HSI4.out.x.cell 5;have n3:w4.frozen? ⟨w.heap.size+1+1,5,none⟩=false:=HSI4.out.x.free 5;have m4:w4.cell? ⟨w.heap.size+1+1,6,none⟩=some (.int .u64 0):=HSI4.out.x.cell 6;have n4:w4.frozen? ⟨w.heap.size+1+1,6,none⟩=false:=HSI4.out.x.free 6;have m5:w4.cell? ⟨w.heap.size+1+1,7,none⟩=some (.int .i64 0):=HSI4.out.x.cell 7;have n5:w4.frozen? ⟨w.heap.size+1+1,7,none⟩=false:=HSI4.out.x.free 7;have m6:w4.cell? ⟨w.heap.size+1+1,8,none⟩=some (.int .i64 0):=HSI4.out.x.cell 8;have n6:w4.frozen? ⟨w.heap.size+1+1,8,none⟩=false:=HSI4.out.x.free 8;have hz4:w.heap.size+1+1<w4.heap.size:=HSI4.out.x.lt;clear x3 y3 z3;go_wp2_with fail;refine (HFB.out _).mono ?_;rintro r w5 ⟨v5,rfl,ho5,hb5⟩;obtain⟨a5,c5,rfl⟩:=ho5.form;have hx4:Blk w4 (w.heap.size+1+1) 135 (.slice a1 H.length c1:: .slice none 0 0::Ov).toArray:=HSI4.out.x;have hX:=((((((((hx4).set 2 (.int .u64 f0)).set 3 (.int .i64 f1)).set 4 (.int .i64 f2)).set 5 (.int .u64 f3)).set 6 (.int .u64 f4)).set 7 (.int .i64 f5)).set 8 (.int .i64 f6)).later hb5;have hQ:Tch (·=w.heap.size+1+1) w4 w5:=(UG w4 (w.heap.size+1+1) _ _ _ _ _ _ _).trans (Tch.Bz (F:=(·=w.heap.size+1+1)) hb5) fun _ _ h=>h;simp only[Ov,Aa,Ab,Ac] at hX;have hj5:w5.ownsRow (w.heap.size+3) 5 1 (.slice a1 H.length c1) H.length (byteCells H):=Cu HSI4.out.j fun b hv hl=>hQ.block b hl (by have:=(Bo HSI4.out.j b hv).1;omega);have hs2:w.heap.size+3≤w2.heap.size:=zBt;have ho5r:w5.ownsRow w2.heap.size 5 1 (.slice a3 RX.length c3) RX.length (byteCells RX):=Cu HO4.out fun b hv hl=>hQ.block b hl (by have:=(Bo HO4.out b hv).1;omega);have HS5:=hid (BH (Et rfl ho5r));have hr5:Blk w5 (w.heap.size+1) 135 (.slice none 0 0:: .slice none 0 0::Ov).toArray:=HSI4.out.br.tch hQ zD;have hb05:Below w.heap.size w w5:=HSI4.out.below.trans (hQ.Cq HSI4.out.below.size fun b _ e=>zD);have hfb:Ag.r (fun q=>w4.heap.size≤q∧q<w5.heap.size) w5 [.slice a5 FB.length c5] FB:=Ag.mono ho5.read fun q hq=>⟨by have:=hq.1;simpa using this,hq.2⟩;have hz45:=hQ.size;have HJ5:=hid hj5;have HJ4:=hid HSI4.out.j;have HX5:=hid hX;have HR5:=hid hr5;have HFBR:=hid hfb;have HB05:=hid hb05;have hz15:=hb05.size;have hz05:w.heap.size+3≤w5.heap.size:=by have:=hX.lt;omega
  clear hj5 ho5r hX hr5 hfb hQ hx4 ho5 hb5 hb05;clear m0 n0 m1 n1 m2 n2 m3 n3 m4 n4 m5 n5 m6 n6;have x0:w5.cell? ⟨w.heap.size+1+1,0,none⟩=some (.slice a1 H.length c1):=HX5.out.cell 0;go_wp2_with (first | (at_builtin;(refine AA rfl _ _ _ rfl (w.heap.size+3) 5 i0 (.int .u8 0) 1 1 AG hi hz0 hz1 hz2 rfl zO (.slice a1 H.length c1) H.length (byteCells H) rfl HJ5.out a3 RX.length c3 (byteCells RX) rfl HS5.out HON1.out zN zD zD ?_;intro v6 w6 hown6 hgrow6 hat6;obtain⟨a6,c6,rfl⟩:=AX hown6;have HG6:=hid hgrow6;have HO6:=hid hown6;have HS6:=hid (BH (Ag.mono (S':=(·<w6.heap.size)) (Ag.keep HFBR.out fun q hq=>hgrow6.block q hq.2 (fun e=>zA7)) fun q hq=>Ao hq.2 hgrow6.size));have hz6:=hgrow6.size;clear hgrow6 hown6 hat6)) | (at_builtin;(refine AA rfl _ _ _ rfl (w.heap.size+3) 5 i0 (.int .u8 0) 1 1 AG hi hz0 hz1 hz2 rfl zO (.slice a6 (H.length+RX.length) c6) (H.length+RX.length) (byteCells H++byteCells RX) rfl HO6.out a5 FB.length c5 (byteCells FB) rfl HS6.out HON2.out zN zD zD ?_;intro v7 w7 hown7 hgrow7 hat7;obtain⟨a7,c7,rfl⟩:=AX hown7;have HX7:=hid ((HX5.out.grown HG6.out (fun e=>C9.far HJ5.out zD e.symm)).grown hgrow7 (fun e=>C9.far HO6.out zD e.symm));have HR7:=hid ((HR5.out.grown HG6.out (fun e=>C9.far HJ5.out zD e.symm)).grown hgrow7 (fun e=>C9.far HO6.out zD e.symm));have HB7:=hid ((HB05.out.grown HG6.out hz15 (fun g e=>by have:=(Bo HJ5.out g e).1;omega)).grown hgrow7 zD (fun g e=>by have:=(Bo HO6.out g e).1;omega));have HO7:=hid hown7;clear hgrow7 hown7 hat7;have p0:w7.cell? ⟨w.heap.size+1+1,0,none⟩=some (.slice a1 H.length c1):=HX7.out.cell 0;have q0:w7.cell? ⟨w.heap.size+1,0,none⟩=some (.slice none 0 0):=HR7.out.cell 0;have r0:=HR7.out.free 0;have p1:w7.cell? ⟨w.heap.size+1+1,1,none⟩=some (.slice none 0 0):=HX7.out.cell 1;have q1:w7.cell? ⟨w.heap.size+1,1,none⟩=some (.slice none 0 0):=HR7.out.cell 1;have r1:=HR7.out.free 1;have p2:w7.cell? ⟨w.heap.size+1+1,2,none⟩=some (.int .u64 f0):=HX7.out.cell 2;have q2:w7.cell? ⟨w.heap.size+1,2,none⟩=some (.int .u64 0):=HR7.out.cell 2;have r2:=HR7.out.free 2;have p3:w7.cell? ⟨w.heap.size+1+1,3,none⟩=some (.int .i64 f1):=HX7.out.cell 3;have q3:w7.cell? ⟨w.heap.size+1,3,none⟩=some (.int .i64 0):=HR7.out.cell 3;have r3:=HR7.out.free 3;have p4:w7.cell? ⟨w.heap.size+1+1,4,none⟩=some (.int .i64 f2):=HX7.out.cell 4;have q4:w7.cell? ⟨w.heap.size+1,4,none⟩=some (.int .i64 0):=HR7.out.cell 4;have r4:=HR7.out.free 4;have p5:w7.cell? ⟨w.heap.size+1+1,5,none⟩=some (.int .u64 f3):=HX7.out.cell 5;have q5:w7.cell? ⟨w.heap.size+1,5,none⟩=some (.int .u64 0):=HR7.out.cell 5;have r5:=HR7.out.free 5;have p6:w7.cell? ⟨w.heap.size+1+1,6,none⟩=some (.int .u64 f4):=HX7.out.cell 6;have q6:w7.cell? ⟨w.heap.size+1,6,none⟩=some (.int .u64 0):=HR7.out.cell 6;have r6:=HR7.out.free 6;have p7:w7.cell? ⟨w.heap.size+1+1,7,none⟩=some (.int .i64 f5):=HX7.out.cell 7;have q7:w7.cell? ⟨w.heap.size+1,7,none⟩=some (.int .i64 0):=HR7.out.cell 7;have r7:=HR7.out.free 7;have p8:w7.cell? ⟨w.heap.size+1+1,8,none⟩=some (.int .i64 f6):=HX7.out.cell 8;have q8:w7.cell? ⟨w.heap.size+1,8,none⟩=some (.int .i64 0):=HR7.out.cell 8;have r8:=HR7.out.free 8;have px:=HX7.out.free 0;have hz7:w.heap.size+1+1<w7.heap.size:=HX7.out.lt)))
  have hT:=Ul w7 (w.heap.size+1+1) (w.heap.size+1) (.slice a7 (H.length+RX.length+FB.length) c7) (.slice a7 (H.length+RX.length+FB.length) c7) (.slice none 0 0) (.int .u64 f0) (.int .i64 f1) (.int .i64 f2) (.int .u64 f3) (.int .u64 f4) (.int .i64 f5) (.int .i64 f6);have hO:DQ w7 (w.heap.size+3) (.slice a7 (H.length+RX.length+FB.length) c7) K:=by
   rw[hse.out];unfold DQ;rw[Al,Al,←EX,←EX];exact HO7.out
  refine An (v:=.agg #[.slice a7 (H.length+RX.length+FB.length) c7,.slice none 0 0,.int .u64 f0,.int .i64 f1,.int .i64 f2,.int .u64 f3,.int .u64 f4,.int .i64 f5,.int .i64 f6]) Z9 rfl ?_;refine⟨_,_,_,_,_,_,_,_,_,rfl,?_,HB7.out.trans (hT.Cq HB7.out.size fun b _ e=>zD)⟩;exact Ag.mono (Ag.keep hO.read fun b hb=>hT.block b hb.2 ZQ) fun b hb=>⟨ZQ,Ao hb.2 hT.size⟩
theorem PO:KT 5 []=[84,72,79,76,3,5,95,99,255,253,2,2,0,60,71,36,214,8,3,5,0,0,0,0,10,7,71,75,20,244,13,0,0,0,106,179,68,24,76,79,72,84]:=zF
theorem MK(W:World)(x u f0 f1 f2 f3 f4 f5 f6:Value):(Instr.field 135 (.agg #[x,u,f0,f1,f2,f3,f4,f5,f6]) 0).run Tryz.prog W=.ok x W:=zJ
theorem PM(w:World):
  Calls Tryz.prog 39 #[.agg #[.int .u64 5,.slice none 0 0]] w fun r w'=>∃v,r=.returned (.tuple #[v,.int .i64 0])∧Ag.r (fun q=>w.heap.size≤q∧q<w'.heap.size) w' [v] [84,72,79,76,3,5,95,99,255,253,2,2,0,60,71,36,214,8,3,5,0,0,0,0,10,7,71,75,20,244,13,0,0,0,106,179,68,24,76,79,72,84]∧Below w.heap.size w w':=by
 have HR:=hid (fun W:World=>Iu 5 [] none 0 0 W zD (BL (xs:=[]) rfl (Ap _) (At _) (.inl rfl)) zQ);rw[show Df ⟨5,[]⟩=true by decide] at HR;have HW:=hid (fun W:World=>PL 5 zO W);rw[PO] at HW;have kf:=MK;go_enter Tryz.func39,Tryz.ntmps39;go_wp2_with fail;refine (HR.out _).mono ?_;rintro r w1 ⟨rfl,hb1⟩;have hB:=(Blk.new w 63 #[.int .u64 5,.slice none 0 0]).later hb1;have c0:w1.cell? ⟨w.heap.size,0,none⟩=some (.int .u64 5):=hB.cell 0;have c1:w1.cell? ⟨w.heap.size,1,none⟩=some (.slice none 0 0):=hB.cell 1;have hbw:Below w.heap.size w w1:=zB;clear hB;go_wp2_with fail;refine (HW.out w1).mono ?_;rintro r w2 ⟨v,u,f0,f1,f2,f3,f4,f5,f6,rfl,hr,hb2⟩;obtain⟨a2,c2,hv2,hr2,_⟩:=AJ hr;simp only[As,AF] at hv2;subst hv2;have HV:=hid hr2;clear hr hr2;go_wp2;go_ret2
 exact⟨_,rfl,Ag.mono HV.out fun q hq=>⟨ZI,hq.2⟩,Af hb2 hbw⟩
theorem C9.UU{ep:Int}{M:List AU}{aJ:Option Addr}{cJ:Nat}{aM:Option Addr}{cM:Nat}(h:C9 w W ep a n c J M aJ cJ aM cM){W2:World}{m:AU}(hm:Gn m){aM':Option Addr}{cM':Nat}
 (hown:W2.ownsRow (w.heap.size+3) 88 3 (.slice aM' (M.length+1) cM') (M.length+1) ((M.map LM).flatten++LM m)) (hg:W.grownBy W2 (Value.slice aM M.length cM).ownBlock):
  C9 w (W2.setCell ⟨w.heap.size+1+1,1,none⟩ (.slice aM' (M.length+1) cM')) ep a n c J (M++[m]) aJ cJ aM' cM':=C9.mark h hm hown hg
theorem C9.UT{ep:Int}{M:List AU}{aJ:Option Addr}{cJ:Nat}{aM:Option Addr}{cM:Nat}(h:C9 w W ep a n c J M aJ cJ aM cM){W2:World}{aJ':Option Addr}{cJ':Nat}
 (hown:W2.ownsRow (w.heap.size+3) 5 1 (.slice aJ' (J.length+D.length) cJ') (J.length+D.length) (byteCells J++byteCells D)) (hg:W.grownBy W2 (Value.slice aJ J.length cJ).ownBlock):
  C9 w (W2.setCell ⟨w.heap.size+1+1,0,none⟩ (.slice aJ' (J.length+D.length) cJ')) ep a n c (J++D) M aJ' cJ' aM cM:=C9.more h hown hg
theorem El.row{w:World}{v:Value}{M:List AU}(h:El w base v M):Bk.r (fun q=>v.ownBlock=some q) w [v] M:=by
 have hF:AY (fun _=>False) He base 88 3 w v M (M.map LM):=⟨h.own,zQ,zA4,fun i cs x hi hx=>by
  rw[DP,hx] at hi;simp at hi;subst hi;exact Jy (h.nat x (List.mem_of_getElem? hx))⟩
 exact Bk.mono (AY.slice hF) fun q hq=>hq.resolve_left id
theorem RI(ep:Int)(l:List Batch)(a:Option Addr)(n c:Nat)(w:World)(hl:Bf.r (·<w.heap.size) w [.slice a n c] l)(hR:Df ⟨ep,l⟩=true)(hbn:∀b∈l,EK b)(htm:∀b∈l,IF b.entries):
  Calls Tryz.prog 88 #[.agg #[.int .u64 ep,.slice a n c]] w fun r w'=>∃v u,r=.returned (.agg #[v,u,.int .u64 (EC ep l).ep,.int .i64 (EC ep l).n,.int .i64 (EC ep l).en,.int .u64 (EC ep l).first,.int .u64 (EC ep l).fin,.int .i64 (EC ep l).at_,.int .i64 (EC ep l).size])∧Ag.r (fun q=>w.heap.size≤q∧q<w'.heap.size) w' [v] (KT ep l)∧Bk.r (fun q=>w.heap.size≤q∧q<w'.heap.size) w' [u] (G8 ep l).2∧Below w.heap.size w w':=by
 obtain⟨rfl,hm,_,_⟩:=AH hl;obtain⟨i0,hi,hz0,hz1,hz2⟩:=A1 Eu;obtain⟨j0,hj,hy0,hy1,hy2⟩:=A1 LU;have hl16:l.length≤16:=(GG hR).2.1;have HBR:=hid (GG hR).2.2;have HBN:=hid hbn;have HTM:=hid htm;have HL:=hid hl;have HRR:=hid hR;have he:epR ep=true:=by simp only[Df,Aq] at hR;exact hR.1
 have he':=he;simp only[epR,Ar] at he';have hte:(ep.toNat:Int)=ep:=zD;have HH:=hid (fun W:World=>(by
  have:=JI W 3 ep.toNat 0 (by simp only[KV,hte,he,poR];decide);rw[hte] at this;exact this:Calls Tryz.prog 145 #[.agg #[.int .i64 3,.int .u64 ep,.int .u64 0]] W fun r w'=>∃x,r=.returned (.tuple #[x,.int .i64 0])∧DQ w' W.heap.size x (Cw 3 ep.toNat 0)∧Below W.heap.size W w'))
 have hhl:=I2 (v:=3) (ep:=ep.toNat) (bs:=0) zD zD;have HW0:Hid (G8 ep l=Ee (Cw 3 ep.toNat 0) [] l):=hid rfl;generalize Cw 3 ep.toNat 0=H at*;clear hR hbn htm hl he hte;go_enter Tryz.func88,Tryz.ntmps88;go_wp2_with fail;refine (HH.out _).mono ?_;rintro r w1 ⟨v1,rfl,ho1,hb1⟩;obtain⟨a1,c1,rfl⟩:=ho1.form;obtain⟨p0,p1,p2,hb0,hz3⟩:=Jk w _ _ _ _ _ _ hb1;have ho1':DQ w1 (w.heap.size+3) (.slice a1 H.length c1) H:=ho1.low zQ;have k0:w1.cell? ⟨w.heap.size+1+1,0,none⟩=some (.slice none 0 0):=p2.cell 0;have k1:w1.frozen? ⟨w.heap.size+1+1,0,none⟩=false:=p2.free 0;have hSI:C9 w (w1.setCell ⟨w.heap.size+2,0,none⟩ (.slice a1 H.length c1)) ep a l.length c H [] a1 c1 none 0:=by
  have h2:(Value.slice a1 H.length c1).ownBlock≠some (w.heap.size+2):=C9.far ho1' zD;exact⟨hb0.setCell zH _,p0.far zH _,p1.far zH _,p2.set 0 _,Cu ho1' fun b hv hl=>Aw _ _ _ _ (fun e=>h2 (by rw[hv,e])),El.nil⟩
 have HSI:=hid hSI;have hz21:w.heap.size+2<w1.heap.size:=p2.lt;have HBX:=hid p0;clear ho1 ho1' p0 p1 p2 hSI hb1 hb0;have b1:w1.cell? ⟨w.heap.size,1,none⟩=some (.slice a l.length c):=HBX.out.cell 1;go_wp2_with fail;refine Dm (fun W=>C9 w W ep a l.length c H [] a1 c1 none 0) HSI.out ?_;intro W hSI;have HSI:=hid hSI;clear k0 k1 b1 hSI;go_loopw [24] (fun i wr=>∃(k:Nat) (J:List UInt8) (M:List AU) (aJ:Option Addr) (cJ:Nat) (aM:Option Addr) (cM:Nat),k≤l.length∧i=.int .i64 k∧C9 w wr ep a l.length c J M aJ cJ aM cM∧Hid (G8 ep l=Ee J M (l.drop k))∧M.length≤k∧J.length≤27+1200000*k) (fun i _=>l.length-(intOf i).toNat)
 case atStart=>exact ⟨0,H,[],a1,c1,none,0,At _,rfl,HSI.out,hid HW0.out,Ap _,zD⟩
 case round=>
  obtain⟨k,J,M,aJ,cJ,aM,cM,hk,rfl,hsi,hgo,hMk,hJk⟩:=hrel;have HSI:=hid hsi;have hzx:=hsi.x.lt;have hzr:=hsi.bx.lt;by_cases hlt:k<l.length
  ·obtain⟨b,o,hA,hbb,a1,c1,x0,x1,x2,n0,n1,hd⟩:=F3 (lift HL.out hsi.below) hlt
   subst hA;have hmem:=AT hlt;have hbr:=HBR.out _ hmem;have hbn:=HBN.out _ hmem;have htm:=HTM.out _ hmem;have hst:=hid (PN J M l k hlt);obtain⟨_,_,e1,e2,e3,_⟩:=Fq hbr;have hble:=Nt hbr;have HRD:=hid hd;generalize l[k]=z at*;have HBB:=hid (fun (W:World) (hW:Below wr.heap.size wr W)=>(by have:=PA W z a1 _ c1 hbn (lift HRD.out hW) htm;unfold GS at this;rw[Ai hbr] at this;exact this:Calls Tryz.prog 146 #[.agg #[.int .u64 z.epoch,.int .u64 z.base,.slice a1 z.entries.length c1]] W fun r w'=>∃v,r=.returned (.tuple #[v,.int .i64 0])∧Ag.r (fun q=>W.heap.size≤q∧q<w'.heap.size) w' [v] (Co z)∧Below W.heap.size W w'));have HRC1:=hid (fun (W:World) (a:Option Addr) (n c:Nat) h=>IN 1 zO (Co z) a n c W h zD);have hrl:=Hc 1 (Co z);have hMN:Gn ⟨z.base,z.entries.length,J.length⟩:=⟨n1,zH,zH⟩;have HON:=hid (A7 (Em 1 (Co z)));have i1:(k:Int)<(l.length:Int):=zD;generalize hre:Em 1 (Co z)=RB at*;have HRE:=hid hre;generalize Co z=BZ at*;have HMN:=hid hMN;clear hd hmem hbr hbn htm hsi hre hMN;go_wp2_with fail;refine (HBB.out _ zA).mono ?_;rintro r w1 ⟨v1,rfl,hr1,hb1⟩;obtain⟨a6,c6,hv6,hr6,_⟩:=AJ hr1;simp only[As,AF] at hv6;subst hv6;have hbx:=(Blk.new wr 48 #[.int .u64 z.epoch,.int .u64 z.base,.slice a1 z.entries.length c1]).later hb1;have hb1':Below wr.heap.size wr w1:=Af hb1 zA;have HSI1:=hid (HSI.out.later hb1');have HR6:=hid (Ag.mono (S':=fun q=>wr.heap.size<q∧q<w1.heap.size) hr6 fun q hq=>⟨ZH,hq.2⟩);have HML:Hid (∀q,(Value.slice aM M.length cM).ownBlock=some q→w.heap.size+3≤q∧q<wr.heap.size):=hid fun q e=>Bo HSI.out.m.own q e;have y1:w1.cell? ⟨wr.heap.size,1,none⟩=some (.int .u64 z.base):=hbx.cell 1;have y2:w1.cell? ⟨wr.heap.size,2,none⟩=some (.slice a1 z.entries.length c1):=hbx.cell 2;have p1:w1.cell? ⟨w.heap.size+1+1,1,none⟩=some (.slice aM M.length cM):=HSI1.out.x.cell 1;have p0:w1.cell? ⟨w.heap.size+1+1,0,none⟩=some (.slice aJ J.length cJ):=HSI1.out.x.cell 0;have hzwr:wr.heap.size<w1.heap.size:=hbx.lt;have hx1:w.heap.size+1+1<w1.heap.size:=HSI1.out.x.lt;have HB1:=hid hb1';clear hr1 hr6 hb1 hb1' hbx x0 x1 x2;go_wp2_with (at_builtin;(have hb12:Below w1.heap.size w1 (w1.alloc (.cells #[.int .u64 z.base,.int .i64 z.entries.length,.int .i64 J.length] 88)):=Au (Below.refl _ _) _;have HSI2:=hid (HSI1.out.later hb12);refine AA rfl _ _ _ rfl (w.heap.size+3) 88 j0 (.agg #[.int .u64 0,.int .i64 0,.int .i64 0]) 3 24 Tryz.underlying79 hj hy0 hy1 hy2 rfl zO (.slice aM M.length cM) M.length _ rfl HSI2.out.m.own (some ⟨w1.heap.size,0,none⟩) 1 1 [.int .u64 z.base,.int .i64 z.entries.length,.int .i64 J.length] rfl (BS w1 88 _ rfl rfl rfl) (by intro u hu;simp at hu;rcases hu with rfl | rfl | rfl<;>rfl) zN zD (by have:=HSI2.out.x.lt;omega) ?_;intro v2 w2 hown2 hgrow2 hat2;obtain⟨a2,c2,rfl⟩:=AX hown2;have HSI3:=hid (HSI2.out.UU HMN.out hown2 hgrow2);have hXg:=HSI2.out.x.grown hgrow2 (fun e=>C9.far HSI2.out.m.own zD e.symm);have q1:w2.cell? ⟨w.heap.size+1+1,1,none⟩=some (.slice aM M.length cM):=hXg.cell 1;have q2:w2.frozen? ⟨w.heap.size+1+1,1,none⟩=false:=hXg.free 1;have q0:w2.cell? ⟨w.heap.size+1+1,0,none⟩=some (.slice aJ J.length cJ):=hXg.cell 0;have HR7:=hid (Ag.mono (S':=fun q=>wr.heap.size<q∧q<w2.heap.size) (Ag.keep HR6.out fun q hq=>(hgrow2.block q (by have:=hb12.size;omega) (fun e=>by have:=(HML.out q e.symm).2;omega)).trans (hb12.block q hq.2)) fun q hq=>by have:=hgrow2.size;have:=hb12.size;omega);clear hown2 hgrow2 hat2 hXg hb12))
   have HR8:Hid (Ag.r (fun q=>wr.heap.size<q∧q<(w2.setCell ⟨w.heap.size+1+1,1,none⟩ (.slice a2 (M.length+1) c2)).heap.size) (w2.setCell ⟨w.heap.size+1+1,1,none⟩ (.slice a2 (M.length+1) c2)) [.slice a6 BZ.length c6] BZ):=hid (Ag.mono (Ag.keep HR7.out fun q hq=>Aw _ _ _ _ (by have:=hq.1;first | omega | (dsimp only;omega))) fun q hq=>by simpa using hq);have hq8:(w2.setCell ⟨w.heap.size+1+1,1,none⟩ (.slice a2 (M.length+1) c2)).cell? ⟨w.heap.size+1+1,0,none⟩=some (.slice aJ J.length cJ):=HSI3.out.x.cell 0;clear q0 q1 q2 p0 p1 y1 y2;generalize (w2.setCell ⟨w.heap.size+1+1,1,none⟩ (.slice a2 (M.length+1) c2))=W8 at*;refine CO (fun w'=>w'.cell? ⟨w.heap.size+1+1,0,none⟩=some (.slice aJ J.length cJ)) _ zJ rfl zJ hq8 (fun hHeld=> ?_);simp only[BD,FN];refine Av (i:=0) (oi:=_) (v:=?_) rfl zF zF zF (fun _ _ _ h=>h) (Or.inl ⟨zU,?_⟩) zM ?_;rotate_left
   ·(intro w hSw;(try dsimp only at hSw);go_simp<;>with_reducible rfl)
   (try simp only[Act.put,Aa,Ab,Ac])
   refine Av (i:=1) (oi:=_) (v:=?_) rfl zF zF zF (fun _ _ _ h=>h) (Or.inl ⟨zU,?_⟩) zM ?_;rotate_left
   ·(intro w hSw;(try dsimp only at hSw);go_simp<;>with_reducible rfl)
   (try simp only[Act.put,Aa,Ab,Ac])
   refine Av (i:=2) (oi:=_) (v:=?_) rfl zF zF zF (fun _ _ _ h=>h) (Or.inl ⟨zU,?_⟩) zM ?_;rotate_left
   ·(intro w hSw;(try dsimp only at hSw);go_simp<;>with_reducible rfl)
   (try simp only[Act.put,Aa,Ab,Ac])
   refine Bq (rs:=[3]) zF zQ ?_;refine Bb (o:=_) rfl (fun K hK=> ?_) AllReadyH.nil
   (go_simp;go_at_call 147;refine (HRC1.out W8.drew a6 _ c6 (Ag.mono (S':=(·<W8.drew.heap.size)) HR8.out fun q hq=>hq.2)).mono ?_;rintro e1 w3 ⟨v3,rfl,ho3,hb3⟩;have ho3':DQ w3 W8.drew.heap.size v3 RB:=ho3;obtain⟨a7,c7,rfl⟩:=ho3'.form;have hb83:Below W8.heap.size W8 w3:=Af hb3 (Below.refl _ _).drew;have HSI4:=hid (HSI3.out.later hb83);have HS7:=hid (BH (Et rfl ho3'));have k0:w3.cell? ⟨w.heap.size+1+1,0,none⟩=some (.slice aJ J.length cJ):=HSI4.out.x.cell 0;clear ho3 ho3' hb3 hb83;(try dsimp only))
   refine hK.out _ _ ?_ (fun hHeld=> ?_)
   ·((try dsimp only);first | assumption | (go_keep;done))
   clear hK K
   (try simp only[Act.put,Aa,Ab,Ac])
   refine Bq (rs:=[4]) zF zQ ?_;refine Bb (o:=_) rfl (fun K hK=> ?_) AllReadyH.nil
   (refine CJ zU _ _ _ zU (w.heap.size+3) 5 i0 (.int .u8 0) 1 1 AG hi hz0 hz1 hz2 rfl zO (.slice aJ J.length cJ) J.length (byteCells J) zU HSI4.out.j a7 RB.length c7 (byteCells RB) zU HS7.out HON.out zN zD (by have:=HSI4.out.x.lt;omega) ?_;intro a8 c8 w8 hown8 hgrow8 hat8;have HSI5:=hid (HSI4.out.UT hown8 hgrow8);have hXg:=HSI4.out.x.grown hgrow8 (fun e=>C9.far HSI4.out.j zD e.symm);have m0:w8.cell? ⟨w.heap.size+1+1,0,none⟩=some (.slice aJ J.length cJ):=hXg.cell 0;have m1:w8.frozen? ⟨w.heap.size+1+1,0,none⟩=false:=hXg.free 0;clear hown8 hgrow8 hat8 hXg)
   refine hK.out _ _ ?_ (fun hHeld=> ?_)
   ·((try dsimp only);first | assumption | (go_keep;done))
   clear hK K
   (try simp only[Act.put,Aa,Ab,Ac])
   refine Av (i:=5) (oi:=_) (v:=?_) rfl zF zF zF (fun _ _ _ h=>h) (Or.inl ⟨zU,?_⟩) zM ?_;rotate_left
   ·(intro w hSw;(try dsimp only at hSw);go_simp<;>with_reducible rfl)
   (try simp only[Act.put,Aa,Ab,Ac])
   refine Av (i:=6) (oi:=_) (v:=?_) rfl zF zF zF (fun _ _ _ h=>h) (Or.inl ⟨zU,?_⟩) zM ?_;rotate_left
   ·(intro w hSw;(try dsimp only at hSw);go_simp<;>with_reducible rfl)
   (try simp only[Act.put,Aa,Ab,Ac])
   refine GC zJ ?_ _;show wpList _ _ _ _ _ _
   go_wp2_with fail;go_roundw
   case rel=>exact ⟨k+1,J++RB,M++[⟨z.base,z.entries.length,J.length⟩],a8,c8,a2,c2,zD,zT,HSI5.out,hid (hgo.out.trans hst.out),zAx,by rw[Al];omega⟩
   case measure=>simp [intOf];omega
  ·obtain rfl:k=l.length:=by omega
   have hJM:G8 ep l=(J,M):=by have:=hgo.out;rw[Cy] at this;exact this
   obtain⟨hMR,hJ5,hJ20,hMN⟩:=Ls HRR.out HBN.out;have hFR:=Lu HRR.out HBN.out;have hX:Ow ep l=Em 2 (Bx M):=by unfold Ow;rw[hJM]
   have hF:EC ep l=Ge ep M J.length (Em 2 (Bx M)).length:=by unfold EC;rw[hJM,hX]
   have hB:KT ep l=J++Em 2 (Bx M)++Fh (EC ep l):=by unfold KT;rw[hJM,hX]
   rw[hJM] at hMR hJ20 ⊢;dsimp only at hMR hJ20 ⊢;have HFB:=hid (fun W:World=>JJ (EC ep l) hFR W);have HI:=hid (fun (W:World) h=>KD W M aM M.length cM h hMR);have hil:=I1 hMR;have HRC:=hid (fun (W:World) (a:Option Addr) (n c:Nat) h=>IN 2 zO (Bx M) a n c W h zD);have hxl:=Hc 2 (Bx M);have HFO:=hid (fun (W:World) h=>IP ep M J.length (Em 2 (Bx M)).length aM M.length cM W h hMR);rw[←hF] at HFO;have hse:=hid hB;have hfl:(Fh (EC ep l)).length≤200:=by
    simp only[Fh,Al,IJ,Eo,Ez];have h1:=Ik (EC ep l);have h2:=(A3 (Eg (EC ep l)).length).1;omega
   have HON1:=hid (A7 (Em 2 (Bx M)));have HON2:=hid (A7 (Fh (EC ep l)));generalize hKE:KT ep l=K at*;have HKE:=hid hKE;generalize Fh (EC ep l)=FB at*;generalize hFE:(EC ep l)=F at*;obtain⟨f0,f1,f2,f3,f4,f5,f6⟩:=F;have HFE:=hid hFE;clear hKE hFE;simp only[Cj.val] at HFB HFO;generalize Bx M=IB at*;generalize hrx:Em 2 IB=RX at*;have HJM:=hid hJM;clear hFR hX hF hB hrx hJM hMN hgo hMk hsi;have y1:wr.cell? ⟨w.heap.size+1+1,1,none⟩=some (.slice aM M.length cM):=HSI.out.x.cell 1;go_wp2_with fail;refine (HI.out _ (Bk.mono HSI.out.m.read fun q hq=>hq.2)).mono ?_;rintro r w2 ⟨v2,rfl,hr2,hb2⟩;obtain⟨a2,c2,hv2,hr2',_⟩:=AJ hr2;simp only[As,AF] at hv2;subst hv2;have HSI2:=hid (HSI.out.later hb2);go_wp2_with fail;refine (HRC.out w2 a2 _ c2 (Ag.mono hr2' fun q hq=>hq.2)).mono ?_;rintro r w3 ⟨v3,rfl,ho3,hb3⟩;obtain⟨a3,c3,rfl⟩:=ho3.form;have HSI3:=hid (HSI2.out.later hb3);have HO3:=hid ho3;have x3:w3.cell? ⟨w.heap.size,0,none⟩=some (.int .u64 ep):=HSI3.out.bx.cell 0;have y3:w3.cell? ⟨w.heap.size+1+1,1,none⟩=some (.slice aM M.length cM):=HSI3.out.x.cell 1;have z3:w3.cell? ⟨w.heap.size+1+1,0,none⟩=some (.slice aJ J.length cJ):=HSI3.out.x.cell 0;clear ho3 hr2 hr2' y1;go_wp2_with fail;refine (HFO.out w3 (Bk.mono HSI3.out.m.read fun q hq=>hq.2)).mono ?_;rintro r w4 ⟨rfl,hb4⟩;have HSI4:=hid (HSI3.out.later hb4);have HO4:=hid (Bp HO3.out hb4);have m0:w4.cell? ⟨w.heap.size+1+1,2,none⟩=some (.int .u64 0):=HSI4.out.x.cell 2;have n0:w4.frozen? ⟨w.heap.size+1+1,2,none⟩=false:=HSI4.out.x.free 2;have m1:w4.cell? ⟨w.heap.size+1+1,3,none⟩=some (.int .i64 0):=HSI4.out.x.cell 3;have n1:w4.frozen? ⟨w.heap.size+1+1,3,none⟩=false:=HSI4.out.x.free 3;have m2:w4.cell? ⟨w.heap.size+1+1,4,none⟩=some (.int .i64 0):=HSI4.out.x.cell 4;have n2:w4.frozen? ⟨w.heap.size+1+1,4,none⟩=false:=HSI4.out.x.free 4;have m3:w4.cell? ⟨w.heap.size+1+1,5,none⟩=some (.int .u64 0):=HSI4.out.x.cell 5;have n3:w4.frozen? ⟨w.heap.size+1+1,5,none⟩=false:=HSI4.out.x.free 5;have m4:w4.cell? ⟨w.heap.size+1+1,6,none⟩=some (.int .u64 0):=HSI4.out.x.cell 6;have n4:w4.frozen? ⟨w.heap.size+1+1,6,none⟩=false:=HSI4.out.x.free 6;have m5:w4.cell? ⟨w.heap.size+1+1,7,none⟩=some (.int .i64 0):=HSI4.out.x.cell 7;have n5:w4.frozen? ⟨w.heap.size+1+1,7,none⟩=false:=HSI4.out.x.free 7;have m6:w4.cell? ⟨w.heap.size+1+1,8,none⟩=some (.int .i64 0):=HSI4.out.x.cell 8;have n6:w4.frozen? ⟨w.heap.size+1+1,8,none⟩=false:=HSI4.out.x.free 8;have hz4:w.heap.size+1+1<w4.heap.size:=HSI4.out.x.lt;clear x3 y3 z3;go_wp2_with fail;refine (HFB.out _).mono ?_;rintro r w5 ⟨v5,rfl,ho5,hb5⟩;obtain⟨a5,c5,rfl⟩:=ho5.form;have hx4:Blk w4 (w.heap.size+1+1) 135 (.slice aJ J.length cJ:: .slice aM M.length cM::Ov).toArray:=HSI4.out.x;have hX:=((((((((hx4).set 2 (.int .u64 f0)).set 3 (.int .i64 f1)).set 4 (.int .i64 f2)).set 5 (.int .u64 f3)).set 6 (.int .u64 f4)).set 7 (.int .i64 f5)).set 8 (.int .i64 f6)).later hb5;have hQ:Tch (·=w.heap.size+1+1) w4 w5:=(UG w4 (w.heap.size+1+1) _ _ _ _ _ _ _).trans (Tch.Bz (F:=(·=w.heap.size+1+1)) hb5) fun _ _ h=>h;simp only[Ov,Aa,Ab,Ac] at hX;have hj5:w5.ownsRow (w.heap.size+3) 5 1 (.slice aJ J.length cJ) J.length (byteCells J):=Cu HSI4.out.j fun b hv hl=>hQ.block b hl (by have:=(Bo HSI4.out.j b hv).1;omega);have hs2:w.heap.size+3≤w2.heap.size:=zBt;have ho5r:w5.ownsRow w2.heap.size 5 1 (.slice a3 RX.length c3) RX.length (byteCells RX):=Cu HO4.out fun b hv hl=>hQ.block b hl (by have:=(Bo HO4.out b hv).1;omega);have HS5:=hid (BH (Et rfl ho5r));have hr5:Blk w5 (w.heap.size+1) 135 (.slice none 0 0:: .slice none 0 0::Ov).toArray:=HSI4.out.br.tch hQ zD;have hb05:Below w.heap.size w w5:=HSI4.out.below.trans (hQ.Cq HSI4.out.below.size fun b _ e=>zD);have hfb:Ag.r (fun q=>w4.heap.size≤q∧q<w5.heap.size) w5 [.slice a5 FB.length c5] FB:=Ag.mono ho5.read fun q hq=>⟨by have:=hq.1;simpa using this,hq.2⟩;have hz45:=hQ.size;have HJ5:=hid hj5;have HQ:=hid hQ;have HJ4:=hid HSI4.out.j;have HX5:=hid hX;have HR5:=hid hr5;have HFBR:=hid hfb;have HB05:=hid hb05;have hz15:=hb05.size;have hz05:w.heap.size+3≤w5.heap.size:=by have:=hX.lt;omega
   clear hj5 ho5r hX hr5 hfb hQ hx4 ho5 hb5 hb05;clear m0 n0 m1 n1 m2 n2 m3 n3 m4 n4 m5 n5 m6 n6;have x0:w5.cell? ⟨w.heap.size+1+1,0,none⟩=some (.slice aJ J.length cJ):=HX5.out.cell 0;go_wp2_with (first | (at_builtin;(refine AA rfl _ _ _ rfl (w.heap.size+3) 5 i0 (.int .u8 0) 1 1 AG hi hz0 hz1 hz2 rfl zO (.slice aJ J.length cJ) J.length (byteCells J) rfl HJ5.out a3 RX.length c3 (byteCells RX) rfl HS5.out HON1.out zN zD zD ?_;intro v6 w6 hown6 hgrow6 hat6;obtain⟨a6,c6,rfl⟩:=AX hown6;have HG6:=hid hgrow6;have HO6:=hid hown6;have HS6:=hid (BH (Ag.mono (S':=(·<w6.heap.size)) (Ag.keep HFBR.out fun q hq=>hgrow6.block q hq.2 (fun e=>zA7)) fun q hq=>Ao hq.2 hgrow6.size));have hz6:=hgrow6.size;have HA6:=hid hat6;clear hgrow6 hown6 hat6)) | (at_builtin;(refine AA rfl _ _ _ rfl (w.heap.size+3) 5 i0 (.int .u8 0) 1 1 AG hi hz0 hz1 hz2 rfl zO (.slice a6 (J.length+RX.length) c6) (J.length+RX.length) (byteCells J++byteCells RX) rfl HO6.out a5 FB.length c5 (byteCells FB) rfl HS6.out HON2.out zN zD zD ?_;intro v7 w7 hown7 hgrow7 hat7;obtain⟨a7,c7,rfl⟩:=AX hown7;have HX7:=hid ((HX5.out.grown HG6.out (fun e=>C9.far HJ5.out zD e.symm)).grown hgrow7 (fun e=>C9.far HO6.out zD e.symm));have HR7:=hid ((HR5.out.grown HG6.out (fun e=>C9.far HJ5.out zD e.symm)).grown hgrow7 (fun e=>C9.far HO6.out zD e.symm));have HB7:=hid ((HB05.out.grown HG6.out hz15 (fun g e=>by have:=(Bo HJ5.out g e).1;omega)).grown hgrow7 zD (fun g e=>by have:=(Bo HO6.out g e).1;omega));have HO7:=hid hown7;have HG7:=hid hgrow7;clear hgrow7 hown7 hat7;have p0:w7.cell? ⟨w.heap.size+1+1,0,none⟩=some (.slice aJ J.length cJ):=HX7.out.cell 0;have q0:w7.cell? ⟨w.heap.size+1,0,none⟩=some (.slice none 0 0):=HR7.out.cell 0;have r0:=HR7.out.free 0;have p1:w7.cell? ⟨w.heap.size+1+1,1,none⟩=some (.slice aM M.length cM):=HX7.out.cell 1;have q1:w7.cell? ⟨w.heap.size+1,1,none⟩=some (.slice none 0 0):=HR7.out.cell 1;have r1:=HR7.out.free 1;have p2:w7.cell? ⟨w.heap.size+1+1,2,none⟩=some (.int .u64 f0):=HX7.out.cell 2;have q2:w7.cell? ⟨w.heap.size+1,2,none⟩=some (.int .u64 0):=HR7.out.cell 2;have r2:=HR7.out.free 2;have p3:w7.cell? ⟨w.heap.size+1+1,3,none⟩=some (.int .i64 f1):=HX7.out.cell 3;have q3:w7.cell? ⟨w.heap.size+1,3,none⟩=some (.int .i64 0):=HR7.out.cell 3;have r3:=HR7.out.free 3;have p4:w7.cell? ⟨w.heap.size+1+1,4,none⟩=some (.int .i64 f2):=HX7.out.cell 4;have q4:w7.cell? ⟨w.heap.size+1,4,none⟩=some (.int .i64 0):=HR7.out.cell 4;have r4:=HR7.out.free 4;have p5:w7.cell? ⟨w.heap.size+1+1,5,none⟩=some (.int .u64 f3):=HX7.out.cell 5;have q5:w7.cell? ⟨w.heap.size+1,5,none⟩=some (.int .u64 0):=HR7.out.cell 5;have r5:=HR7.out.free 5;have p6:w7.cell? ⟨w.heap.size+1+1,6,none⟩=some (.int .u64 f4):=HX7.out.cell 6;have q6:w7.cell? ⟨w.heap.size+1,6,none⟩=some (.int .u64 0):=HR7.out.cell 6;have r6:=HR7.out.free 6;have p7:w7.cell? ⟨w.heap.size+1+1,7,none⟩=some (.int .i64 f5):=HX7.out.cell 7;have q7:w7.cell? ⟨w.heap.size+1,7,none⟩=some (.int .i64 0):=HR7.out.cell 7;have r7:=HR7.out.free 7;have p8:w7.cell? ⟨w.heap.size+1+1,8,none⟩=some (.int .i64 f6):=HX7.out.cell 8;have q8:w7.cell? ⟨w.heap.size+1,8,none⟩=some (.int .i64 0):=HR7.out.cell 8;have r8:=HR7.out.free 8;have px:=HX7.out.free 0;have hz7:w.heap.size+1+1<w7.heap.size:=HX7.out.lt)))
   have hT:=Ul w7 (w.heap.size+1+1) (w.heap.size+1) (.slice a7 (J.length+RX.length+FB.length) c7) (.slice a7 (J.length+RX.length+FB.length) c7) (.slice aM M.length cM) (.int .u64 f0) (.int .i64 f1) (.int .i64 f2) (.int .u64 f3) (.int .u64 f4) (.int .i64 f5) (.int .i64 f6);have hO:DQ w7 (w.heap.size+3) (.slice a7 (J.length+RX.length+FB.length) c7) K:=by
    rw[hse.out];unfold DQ;rw[Al,Al,←EX,←EX];exact HO7.out
   refine An (v:=.agg #[.slice a7 (J.length+RX.length+FB.length) c7,.slice aM M.length cM,.int .u64 f0,.int .i64 f1,.int .i64 f2,.int .u64 f3,.int .u64 f4,.int .i64 f5,.int .i64 f6]) Z9 rfl ?_;refine⟨_,_,by rw[HFE.out],?_,?_,HB7.out.trans (hT.Cq HB7.out.size fun b _ e=>zD)⟩
   ·rw[HKE.out]
    exact Ag.mono (Ag.keep hO.read fun b hb=>hT.block b hb.2 ZQ) fun b hb=>⟨ZQ,Ao hb.2 hT.size⟩
   ·have hml:∀q,(Value.slice aM M.length cM).ownBlock=some q→w.heap.size+3≤q∧q<w4.heap.size:=fun q e=>Bo HSI4.out.m.own q e
    have hs7:=HG7.out.size;rw[HJM.out];show Bk.r _ _ _ M
    refine Bk.mono (Bk.keep HSI4.out.m.row fun q e=> ?_) fun q e=>⟨by have:=hml q e;omega,by have:=hml q e;have:=hT.size;omega⟩;have h1:=hml q e;have n1:(Value.slice aJ J.length cJ).ownBlock≠some q:=fun e2=>HSI4.out.ne q e2 e;have n2:(Value.slice a6 (J.length+RX.length) c6).ownBlock≠some q:=fun e2=>by
     rcases HA6.out with h | h
     ·exact n1 (h.symm.trans e2)
     ·have:=A5 (e2.symm.trans h);omega
    exact (hT.block q zD zD).trans ((HG7.out.block q zD (fun e3=>n2 e3.symm)).trans ((HG6.out.block q zD (fun e3=>n1 e3.symm)).trans (HQ.out.block q h1.2 zD)))
theorem My(ep:Int)(l:List Batch)(a:Option Addr)(n c:Nat)(w:World)(h0:0≤ep∧ep≤18446744073709551615)(hl:Bf.r (·<w.heap.size) w [.slice a n c] l)(hbn:∀b∈l,EK b)(htm:∀b∈l,IF b.entries):
  Calls Tryz.prog 39 #[.agg #[.int .u64 ep,.slice a n c]] w fun r w'=>∃v,r=.returned (.tuple #[v,.int .i64 (if Df ⟨ep,l⟩=true then 0 else 3)])∧Ag.r (fun q=>w.heap.size≤q∧q<w'.heap.size) w' [v] (if Df ⟨ep,l⟩=true then KT ep l else [])∧Below w.heap.size w w':=by
 obtain⟨rfl,hm,_,_⟩:=AH hl;have HR:=hid (fun (W:World) (hW:Below w.heap.size w W)=>Iu ep l a _ c W h0 (lift hl hW) (fun x hx=>(htm x hx).fair));have HL:=hid hl;have kf:=MK;clear hl;cases hs:Df ⟨ep,l⟩
 ·rw[hs] at HR
  simp only[Bool.false_eq_true,if_false];clear hs;go_enter Tryz.func39,Tryz.ntmps39;go_wp2_with fail;refine (HR.out _ zB).mono ?_;rintro r w1 ⟨rfl,hb1⟩;have hbw:Below w.heap.size w w1:=zB;go_wp2;go_ret2
  exact⟨_,rfl,BL (xs:=[]) rfl (Ap _) (At _) (.inl rfl),hbw⟩
 ·rw[hs] at HR
  simp only[Fs];have HW:=hid (fun (W:World) (hW:Below w.heap.size w W)=>RI ep l a _ c W (lift HL.out hW) hs hbn htm);clear hs;go_enter Tryz.func39,Tryz.ntmps39;go_wp2_with fail;refine (HR.out _ zB).mono ?_;rintro r w1 ⟨rfl,hb1⟩;have hB:=(Blk.new w 63 #[.int .u64 ep,.slice a l.length c]).later hb1;have c0:w1.cell? ⟨w.heap.size,0,none⟩=some (.int .u64 ep):=hB.cell 0;have c1:w1.cell? ⟨w.heap.size,1,none⟩=some (.slice a l.length c):=hB.cell 1;have hbw:Below w.heap.size w w1:=zB;clear hB;go_wp2_with fail;refine (HW.out w1 hbw).mono ?_;rintro r w2 ⟨v,u,rfl,hr,_,hb2⟩;obtain⟨a2,c2,hv2,hr2,_⟩:=AJ hr;simp only[As,AF] at hv2;subst hv2;have HV:=hid hr2;clear hr hr2;go_wp2;go_ret2
  exact⟨_,rfl,Ag.mono HV.out fun q hq=>⟨ZI,hq.2⟩,Af hb2 hbw⟩
theorem P4(c:Nat)(hc:c<4294967296)(x:UInt8)(w:World):
  Calls Tryz.prog 232 #[.int .u32 c,.int .u8 (x.toNat:Int)] w fun r w'=>r=.returned (.int .u32 (Gi c x:Nat))∧w=w':=by
 have e1:=O1 hc x;have hcb:Hid (Gi c x=GY 8 (c^^^x.toNat)):=hid rfl;have hy:c^^^x.toNat<4294967296:=Jf hc zBw;generalize c^^^x.toNat=y at*;go_enter Tryz.func232,Tryz.ntmps232;go_wp2_with fail;go_loopw [0,5] (fun s i wr=>∃k:Nat,k≤8∧i=.int .i64 k∧s=.int .u32 (GY k y:Nat)∧wr=w) (fun _ i _=>8-(intOf i).toNat)
 case atStart=>exact ⟨0,zD,rfl,rfl,rfl⟩
 case round=>
  obtain⟨k,hk,rfl,rfl,rfl⟩:=hrel;by_cases hlt:k<8
  ·have hd:=LS hy k
   have hst:Hid (GY (k+1) y=CH (GY k y)):=hid rfl;have i1:(k:Int)<8:=zD;generalize GY k y=d at*;by_cases h1:d%2=1
   ·have d1:((d:Int)%2==1)=true:=by simp;omega
    have hff:Hid (((CH d:Nat):Int)=bits BinOp.xor IntKind.u32 ((d:Int)/2) 2197175160):=hid (by rw[OI hd];unfold CH;rw[Ai h1]);clear h1;go_wp2;go_roundw
    case rel=>exact ⟨k+1,zD,zT,by rw[hst.out,hff.out],trivial⟩
    case measure=>simp [intOf];omega
   ·have d1:((d:Int)%2==1)=false:=beq_eq_false_iff_ne.2 zD
    have hff:Hid (((CH d:Nat):Int)=(d:Int)/2):=hid (by unfold CH;rw[Ah h1];rfl);clear h1;go_wp2;go_roundw
    case rel=>exact ⟨k+1,zD,zT,by rw[hst.out,hff.out],trivial⟩
    case measure=>simp [intOf];omega
  ·obtain rfl:k=8:=by omega
   go_wp2;go_ret;exact⟨by rw[hcb.out];rfl,rfl⟩
theorem RS(D:List UInt8)(ad:Option Addr)(nd cd:Nat)(w:World)(hD:Ag.r (·<w.heap.size) w [.slice ad nd cd] D):
  Calls Tryz.prog 98 #[.slice ad nd cd] w fun r w'=>r=.returned (.int .u32 (B8 D:Nat))∧w=w':=by
 obtain⟨rfl,hm,_,_⟩:=AH hD;have HD:=hid hD;clear hD;have hlt:=Kh D (c:=4294967295) zO;have hff:Hid (B8 D=4294967295-DJ 4294967295 D):=hid rfl;have HA:Hid (Calls Tryz.prog 157 #[.int .u32 4294967295,.slice ad D.length cd] w fun r w'=>r=.returned (.int .u32 (DJ 4294967295 D:Nat))∧w=w'):=hid (by
  clear hff hlt;go_enter Tryz.func157,Tryz.ntmps157;go_wp2_with fail;go_loopw [0,5] (fun s i wr=>∃(k d:Nat),k≤D.length∧i=.int .i64 k∧s=.int .u32 d∧d<4294967296∧Hid (DJ 4294967295 D=DJ d (D.drop k))∧wr=w) (fun _ i _=>D.length-(intOf i).toNat)
  case atStart=>exact ⟨0,4294967295,At _,rfl,rfl,zO,hid rfl,rfl⟩
  case round=>
   obtain⟨k,d,hk,rfl,rfl,hd,hf,rfl⟩:=hrel;by_cases hlt:k<D.length
   ·obtain⟨b,o,hA,hbb,hx⟩:=BJ HD.out hlt
    subst hA;have hst:=hid (show DJ d (D.drop k)=DJ (Gi d D[k]) (D.drop (k+1)) by rw[AD hlt];rfl);generalize D[k]=x at*;have i1:(k:Int)<(D.length:Int):=zD;have hb1:=I9 (x:=x) hd;have HI:=hid (P4 d hd x wr);generalize Gi d x=q at*;go_wp2_with fail;refine HI.out.mono ?_;rintro r w1 ⟨rfl,rfl⟩;go_wp2;go_roundw
    case rel=>exact ⟨k+1,q,zD,zT,rfl,hb1,hid (by rw[hf.out,hst.out]),trivial⟩
    case measure=>simp [intOf];omega
   ·obtain rfl:k=D.length:=by omega
    have hff:Hid (DJ 4294967295 D=d):=hid ZG;go_wp2;go_ret;exact⟨zK,rfl⟩)
 generalize DJ 4294967295 D=s at*;go_enter Tryz.func98,Tryz.ntmps98;go_wp2_with fail;refine HA.out.mono ?_;rintro r w1 ⟨rfl,rfl⟩;have e2:0≤4294967295-(s:Int):=zD;go_wp2;go_ret;exact⟨by rw[hff.out];simp;omega,rfl⟩
theorem Sj(hk:((⟨0,0,0⟩:Rs).frame B m).1.k=0):4≤((⟨0,0,0⟩:Rs).frame B m).1.p:=by
 unfold Rs.frame at hk ⊢;dsimp only at hk ⊢;have hf:∀s:Rs,(s.take B 4).1.k=0→(s.take B 4).1.p=s.p+4:=fun s h=>by
  unfold Rs.take Rs.skip at h ⊢;by_cases h0:s.k=0
  ·rw[Ai h0,Ah zO] at h ⊢
   by_cases h1:(B.length:Int)-s.p<4
   ·rw[Ai h1] at h
    exact absurd h (show ¬(1:Int)=0 by decide)
   ·rw[Ah h1]
    rfl
  ·rw[Ah h0] at h
   exact absurd h h0
 split at hk
 ·rename_i hc
  rw[Ai hc];have:=hf _ hk;omega
 ·exact absurd hk (Rs.A0 zD)
theorem FU(P:List UInt8):5≤(Ck P).length:=by
 have:=(A3 P.length).2;rw[Eo,Ez];omega
theorem OE(w:World)(a:Option Addr)(c:Nat)(B:List UInt8)(hl:Ag.r (·<w.heap.size) w [.slice a B.length c] B)(s:Rs)(hs:s.ok B.length)(hB:B.length≤1000000000000)(n:Nat)(hn:n≤8):
  Calls Tryz.prog 97 #[CV a B.length c s,.int .i64 (n:Int)] w fun r w'=>r=.returned (.tuple #[CV a B.length c (s.take B n).1,.int .u64 ((DC (s.take B n).2:Nat):Int)])∧Below w.heap.size w w':=by
 have HT:=hid (fun (W:World) (hW:Below w.heap.size w W)=>LF W a c B (lift hl hW) s hs (n:Int) zD hB);have hlen:(s.take B n).2.length≤n:=by
  unfold Rs.take;split
  ·simp;omega
  ·simp
 generalize s.take B (n:Int)=T at*;obtain⟨s1,L⟩:=T;dsimp only at*;have n0:(0:Int)≤(n:Int):=zD;have n8:(n:Int)≤8:=zD;clear hl hs;unfold CV at*;go_enter Tryz.func97,Tryz.ntmps97;go_wp2_with fail;refine (HT.out _ zA).mono ?_;rintro r w1 ⟨v,rfl,hr,hb⟩;obtain⟨a1,c1,hv1,hr2,_⟩:=AJ hr;simp only[As,AF] at hv1;subst hv1;have E2:Blk (w1.alloc (.cells #[.slice a B.length c,.int .i64 (s1.p:Int),.int .i64 s1.k,.int .i64 s1.f] 91)) w1.heap.size 91 #[.slice a B.length c,.int .i64 (s1.p:Int),.int .i64 s1.k,.int .i64 s1.f]:=zC;have hb2:Below w1.heap.size w1 (w1.alloc (.cells #[.slice a B.length c,.int .i64 (s1.p:Int),.int .i64 s1.k,.int .i64 s1.f] 91)):=zA;have B1:Blk w1 (w.heap.size+1) 91 #[.slice none 0 0,.int .i64 0,.int .i64 0,.int .i64 0]:=Blk.later zC hb;have HZ:=hid (B1.later hb2);have HV:=hid (lift (Ag.mono hr2 (S':=(·<w1.heap.size)) fun q hq=>hq.2) hb2);have hbw:Below w.heap.size w (w1.alloc (.cells #[.slice a B.length c,.int .i64 (s1.p:Int),.int .i64 s1.k,.int .i64 s1.f] 91)):=zA;have HE:=hid E2;clear hr hr2 hb hb2 B1 E2;go_wp2_with fail;generalize w1.alloc (.cells #[.slice a B.length c,.int .i64 (s1.p:Int),.int .i64 s1.k,.int .i64 s1.f] 91)=w2 at*;go_loopw [8,9] (fun x i wr=>∃j:Nat,j≤L.length∧i=.int .i64 ((j:Int)-1)∧x=.int .u64 ((DC (L.drop j):Nat):Int)∧w2=wr) (fun _ i _=>(intOf i+1).toNat)
 case atStart=>exact ⟨L.length,Ap _,rfl,by rw[Cy];rfl,rfl⟩
 case round=>
  obtain⟨j,hj,rfl,rfl,rfl⟩:=hrel;by_cases h0:1≤j
  ·obtain⟨m,rfl⟩:∃m,j=m+1:=⟨j-1,zD⟩
   have hm1:((m+1:Nat):Int)-1=(m:Int):=zD;rw[hm1];clear hm1 h0;have d1:decide ((0:Int)≤(m:Int))=true:=Ad zD;have i1:(m:Int)<(L.length:Int):=zD;obtain⟨b,o,rfl,_,hc⟩:=BJ HV.out (i:=m) zD;have hy:=L[m].toNat_lt;have hff:((DC (L.drop m):Nat):Int)=256*((DC (L.drop (m+1)):Nat):Int)+(L[m].toNat:Int):=by
    rw[AD (by omega:m<L.length)];simp only[DC];omega
   have hX:DC (L.drop (m+1))<72057594037927936:=by
    refine Ao (Lb _) (A6 (DF zO (show _≤7 by simp;omega)) zO)
   have HFF:=hid hff;clear hff;generalize L[m].toNat=y at*;generalize DC (L.drop (m+1))=X at*;go_wp2_with fail;go_roundw
   case rel=>exact ⟨m,zD,zT,by rw[HFF.out],by trivial⟩
   case measure=>(simp[intOf];try omega)
  ·obtain rfl:j=0:=by omega
   have hm1:((0:Nat):Int)-1=(-1:Int):=rfl;rw[hm1,DH];clear hm1 h0;have d1:decide ((0:Int)≤-1)=false:=rfl;obtain⟨x0,x1,x2,x3,e0,e1,e2,e3,l0⟩:=CX HE.out;obtain⟨y0,y1,y2,y3,g0,g1,g2,g3,l1⟩:=CX HZ.out;go_wp2_with fail;refine An (v:=.tuple #[.agg #[.slice a B.length c,.int .i64 (s1.p:Int),.int .i64 s1.k,.int .i64 s1.f],.int .u64 ((DC L:Nat):Int)]) (by simp[results,Tryz.results97,go_sem,y0,y1,y2,y3,l1]) rfl ⟨rfl,zA⟩
theorem PZ(w:World)(a:Option Addr)(c:Nat)(B:List UInt8)(hl:Ag.r (·<w.heap.size) w [.slice a B.length c] B)(s:Rs)(hs:s.ok B.length)(hB:B.length≤1000000000000)(m:Int)(hm: -9223372036854775808≤m∧m≤2097152):
  Calls Tryz.prog 54 #[CV a B.length c s,.int .i64 m] w fun r w'=>∃v,r=.returned (.tuple #[CV a B.length c (s.frame B m).1,v])∧Ag.r (fun q=>w.heap.size≤q∧q<w'.heap.size) w' [v] (s.frame B m).2∧Below w.heap.size w w':=by
 have d0:decide ((2097152:Int)<m)=false:=Ae zD;have hmin:min m 2097152=m:=zD;unfold Rs.frame;rw[hmin];have HB:=hid (fun (W:World) (hW:Below w.heap.size w W)=>P5 W a c B (lift hl hW) s hs hB m zD);have hok:=Rs.Gk hs m;dsimp only;generalize s.Dk B m=T at*;obtain⟨s1,D⟩:=T;dsimp only at*;have HX:=hid (fun (W:World) (hW:Below w.heap.size w W)=>(by have:=OE W a c B (lift hl hW) s1 hok hB 4 zD;exact this:Calls Tryz.prog 97 #[CV a B.length c s1,.int .i64 4] W fun r w'=>r=.returned (.tuple #[CV a B.length c (s1.take B 4).1,.int .u64 ((DC (s1.take B 4).2:Nat):Int)])∧Below W.heap.size W w'));have HFL:=hid (fun (W:World) (t:Rs)=>GH W a B.length c t 6 s1.p zD);have hq:=FA D;generalize s1.take B 4=U at*;obtain⟨s2,F⟩:=U;dsimp only at*;generalize DC F=x at*;generalize hS3:(if B8 D=x then s2 else s2.fail 6 (s1.p:Int))=s3 at*;generalize hRES:(if s3.k=0 then D else [])=RES at*;have HS3:=hid hS3;have HRES:=hid hRES;clear hl hs hok hmin hS3 hRES;unfold CV at*;go_enter Tryz.func54,Tryz.ntmps54;go_wp2_with fail;refine (HB.out _ zA).mono ?_;rintro r w1 ⟨v,rfl,hr,hb⟩;obtain⟨a1,c1,hv1,hr2,_⟩:=AJ hr;simp only[As,AF] at hv1;subst hv1;have hz1:=hb.size;simp at hz1;have E2:Blk (w1.alloc (.cells #[.slice a B.length c,.int .i64 (s1.p:Int),.int .i64 s1.k,.int .i64 s1.f] 91)) w1.heap.size 91 #[.slice a B.length c,.int .i64 (s1.p:Int),.int .i64 s1.k,.int .i64 s1.f]:=zC;have hb2:Below w1.heap.size w1 (w1.alloc (.cells #[.slice a B.length c,.int .i64 (s1.p:Int),.int .i64 s1.k,.int .i64 s1.f] 91)):=zA;have B1:Blk w1 (w.heap.size+1) 91 #[.slice none 0 0,.int .i64 0,.int .i64 0,.int .i64 0]:=Blk.later zC hb;have HZ2:=hid (B1.later hb2);have HV2:=hid (Ag.mono (Ag.keep hr2 fun q hq=>hb2.block q hq.2) (S':=fun q=>w.heap.size+1<q∧q<w1.heap.size) fun q hq=>⟨ZH,hq.2⟩);have hbw2:Below w.heap.size w (w1.alloc (.cells #[.slice a B.length c,.int .i64 (s1.p:Int),.int .i64 s1.k,.int .i64 s1.f] 91)):=zA;have hz2:w1.heap.size<(w1.alloc (.cells #[.slice a B.length c,.int .i64 (s1.p:Int),.int .i64 s1.k,.int .i64 s1.f] 91)).heap.size:=zQ;have HE2:=hid E2;obtain⟨x0,x1,x2,x3,e0,e1,e2,e3,l0⟩:=CX E2;clear hr hr2 hb hb2 B1 E2;go_wp2_with fail;generalize w1.alloc (.cells #[.slice a B.length c,.int .i64 (s1.p:Int),.int .i64 s1.k,.int .i64 s1.f] 91)=w2 at*;refine (HX.out _ hbw2).mono ?_;rintro r w3 ⟨rfl,hb3⟩;have HZ3:=hid (HZ2.out.later hb3);have HE3:=hid (HE2.out.later hb3);have HV3:=hid (Ag.keep HV2.out fun q hq=>hb3.block q zD);have hbw3:=Af hb3 hbw2;have hz3:=Ao hz2 hb3.size;have E4:Blk (w3.alloc (.cells #[.slice a B.length c,.int .i64 (s2.p:Int),.int .i64 s2.k,.int .i64 s2.f] 91)) w3.heap.size 91 #[.slice a B.length c,.int .i64 (s2.p:Int),.int .i64 s2.k,.int .i64 s2.f]:=zC;have hb4:Below w3.heap.size w3 (w3.alloc (.cells #[.slice a B.length c,.int .i64 (s2.p:Int),.int .i64 s2.k,.int .i64 s2.f] 91)):=zA;have HZ4:=hid (HZ3.out.later hb4);have HE4:=hid (HE3.out.later hb4);have HV4:=hid (Ag.mono (Ag.keep HV3.out fun q hq=>hb4.block q zD) (S':=fun q=>w.heap.size+1<q∧q<w3.heap.size) fun q hq=>⟨hq.1,zD⟩);have hbw4:=Af hb4 hbw3;have hz4:w3.heap.size<(w3.alloc (.cells #[.slice a B.length c,.int .i64 (s2.p:Int),.int .i64 s2.k,.int .i64 s2.f] 91)).heap.size:=zQ;clear HZ2 HE2 HV2 hbw2 hb3 HZ3 HE3 HV3 hbw3 hb4 x0 x1 x2 x3 e0 e1 e2 e3 l0;have HE5:=hid E4;obtain⟨x0,x1,x2,x3,e0,e1,e2,e3,l0⟩:=CX E4;clear E4;go_upto_region 5 with (fail);generalize w3.alloc (.cells #[.slice a B.length c,.int .i64 (s2.p:Int),.int .i64 s2.k,.int .i64 s2.f] 91)=w4 at*;by_cases hk:s2.k=0
 ·have dk1:(s2.k==(0:Int))=true:=by simp[hk]
  have dk2:(s2.k !=(0:Int))=false:=zA0;have HS:=hid (RS D a1 _ c1 w4 (Ag.mono HV4.out fun q hq=>zD));by_cases hx:B8 D=x
  ·have e3:s3=s2:=by rw[←HS3.out,Ai hx]
   have HE3:=hid e3;have HRR:Hid (RES=D):=hid (by rw[←HRES.out,e3,Ai hk]);have dx:((x:Int) !=(B8 D:Int))=false:=by rw[hx];simp
   obtain⟨y0,y1,y2,y3,g0,g1,g2,g3,l1⟩:=CX HZ4.out;clear e3 HS3 HRES;generalize B8 D=q at*;clear hk hx;go_wp2_with fail;refine HS.out.mono ?_;rintro r w5 ⟨rfl,rfl⟩;go_wp2_with fail;refine An (v:=.tuple #[.agg #[.slice a B.length c,.int .i64 (s2.p:Int),.int .i64 s2.k,.int .i64 s2.f],.slice a1 D.length c1]) Z1 rfl ⟨_,by rw[HE3.out],?_,zA⟩;rw[HRR.out];refine Ag.mono (Ag.keep HV4.out fun q hq=> ?_) fun q hq=>⟨zD,by simp[World.setCell];omega⟩;repeat (rw[Aw _ _ _ _ zH])
  ·have hf3:s2.fail 6 (s1.p:Int)=⟨s2.p,6,s1.p⟩:=by unfold Rs.fail;rw[Ai hk]
   have e3:s3=⟨s2.p,6,s1.p⟩:=by rw[←HS3.out,Ah hx,hf3]
   have HE3:=hid e3;have HRR:Hid (RES=[]):=hid (by rw[←HRES.out,e3,Ah (by dsimp only;decide)]);have HFF:=hid (fun (W:World)=>HFL.out W s2);rw[hf3] at HFF;have dx:((x:Int) !=(B8 D:Int))=true:=zI;obtain⟨y0,y1,y2,y3,g0,g1,g2,g3,l1⟩:=CX HZ4.out;obtain⟨z0,z1,z2,z3,h0,h1,h2,h3,lz⟩:=CX HE4.out;clear e3 HS3 HRES;generalize B8 D=q at*;clear hk hx hf3 HFL;go_wp2_with fail;refine HS.out.mono ?_;rintro r w5 ⟨rfl,rfl⟩;go_wp2_with fail;refine (HFF.out _).mono ?_;rintro r w6 ⟨rfl,hb6⟩;have Z6:=HZ4.out.later hb6;have E6:=HE5.out.later hb6;have hbw6:=Af hb6 hbw4;have hz6:=hb6.size;clear x0 x1 x2 x3 e0 e1 e2 e3 l0 y0 y1 y2 y3 g0 g1 g2 g3 l1 z0 z1 z2 z3 h0 h1 h2 h3 lz hb6;obtain⟨x0,x1,x2,x3,e0,e1,e2,e3,l0⟩:=CX E6;obtain⟨y0,y1,y2,y3,g0,g1,g2,g3,l1⟩:=CX Z6;go_wp2_with fail;refine An (v:=.tuple #[.agg #[.slice a B.length c,.int .i64 (s2.p:Int),.int .i64 6,.int .i64 (s1.p:Int)],.slice none 0 0]) Z1 rfl ⟨_,by rw[HE3.out],zAl,zA⟩
 ·have hf3:(if B8 D=x then s2 else s2.fail 6 (s1.p:Int))=s2:=by
   split
   ·rfl
   ·exact Rs.CW hk
  have e3:s3=s2:=by rw[←HS3.out,hf3]
  have HE3:=hid e3;have HRR:Hid (RES=[]):=hid (by rw[←HRES.out,e3,Ah hk]);have dk1:(s2.k==(0:Int))=false:=zA0;have dk2:(s2.k !=(0:Int))=true:=zA0;obtain⟨y0,y1,y2,y3,g0,g1,g2,g3,l1⟩:=CX HZ4.out;clear hk hf3 HFL e3 HS3 HRES;go_wp2_with fail;refine An (v:=.tuple #[.agg #[.slice a B.length c,.int .i64 (s2.p:Int),.int .i64 s2.k,.int .i64 s2.f],.slice none 0 0]) Z1 rfl ⟨_,by rw[HE3.out],zAl,zA⟩
structure SG(w:World)(B:List UInt8)(a:Option Addr)(c g:Nat)(s:Rs)(W:World):Prop where
 cb:Blk W g 91 #[.slice a B.length c,.int .i64 (s.p:Int),.int .i64 s.k,.int .i64 s.f]
 mb:Blk W w.heap.size 45 zeroCells
 fb:Blk W (w.heap.size+1) 65 #[.int .i64 0,.int .i64 0]
 bl:Below w.heap.size w W
 ok:s.ok B.length
 lg:w.heap.size+1<g
section
variable {w W W':World} {B:List UInt8} {a:Option Addr} {c g:Nat} {s s':Rs}
theorem Lq:Tch (·=g) W ((((W.setCell ⟨g,0,none⟩ (.slice a B.length c)).setCell ⟨g,1,none⟩ (.int .i64 (s'.p:Int))).setCell ⟨g,2,none⟩ (.int .i64 s'.k)).setCell ⟨g,3,none⟩ (.int .i64 s'.f)):=
 Tch.setCell (F:=(·=g)) (p:=⟨g,3,none⟩) (Tch.setCell (F:=(·=g)) (p:=⟨g,2,none⟩) (Tch.setCell (F:=(·=g)) (p:=⟨g,1,none⟩) (Tch.setCell (F:=(·=g)) (p:=⟨g,0,none⟩) (Tch.refl _ _) (fun _=>rfl) _) (fun _=>rfl) _) (fun _=>rfl) _) (fun _=>rfl) _
theorem SG.row(h:SG w B a c g s W)(hb:Below W.heap.size W W'):SG w B a c g s W':=
 ⟨h.cb.later hb,h.mb.later hb,h.fb.later hb,Af hb h.bl,h.ok,h.lg⟩
theorem SG.set(h:SG w B a c g s W)(ok:s'.ok B.length):SG w B a c g s' ((((W.setCell ⟨g,0,none⟩ (.slice a B.length c)).setCell ⟨g,1,none⟩ (.int .i64 (s'.p:Int))).setCell ⟨g,2,none⟩ (.int .i64 s'.k)).setCell ⟨g,3,none⟩ (.int .i64 s'.f)):=by
 have hl:=h.lg;exact⟨(((h.cb.set 0 _).set 1 _).set 2 _).set 3 _,h.mb.tch Lq zD,h.fb.tch Lq zD,h.bl.trans (Lq.Cq h.bl.size fun b hb e=>zD),ok,h.lg⟩
end
theorem To:((⟨0,0,0⟩:Rs).frame B m).1.p≤B.length:=by
 have h0:(⟨0,0,0⟩:Rs).ok B.length:=⟨At _,fun _=>rfl⟩;have h2:=Rs.EU (Rs.Gk h0 (min m 2097152)) 4;unfold Rs.frame;dsimp only;split
 ·exact h2.le
 ·exact (Rs.Ce h2 zD).le
theorem Sk:((⟨0,0,0⟩:Rs).frame B m).2.length≤2097152:=by
 have h:=(QB (B:=B) (m:=m)).2;unfold Uc at h;by_cases hk:((⟨0,0,0⟩:Rs).frame B m).1.k=0
 ·rw[Ai hk] at h
  exact h
 ·unfold Rs.frame at hk ⊢
  dsimp only at hk ⊢;rw[Ah hk];simp
structure Ev where
 kind:Int
 at_:Int
 code:Int
 msg:Msg
 deriving DecidableEq
structure PSt where
 buf:List UInt8
 first:Nat
 fed:Nat
 need:Nat
 ended:Int
theorem least(P:Nat→Prop)[DecidablePred P]:∀n,P n→∃j,j≤n∧P j∧∀i,i<j→¬P i
 | 0,h=>⟨0,Ap _,h,fun i hi=>absurd hi (Nat.not_lt_zero _)⟩
 | n+1,h=>by
  by_cases hq:∃i,i≤n∧P i
  ·obtain⟨i,hi,hp⟩:=hq
   obtain⟨j,h1,h2,h3⟩:=least P i hp;exact⟨j,zD,h2,h3⟩
  ·exact⟨n+1,Ap _,h,fun i hi hp=>hq ⟨i,zD,hp⟩⟩
structure Rs.fit(s:Rs)(L:Nat):Prop where
 ok:s.ok L
 inn:s.inn L
theorem Rs.E3{t:Rs}(h:t.fit L){c:Int}(hs:s.fit L)(hc:c≠0):(t.fail c s.p).fit L:=⟨Rs.Ce h.ok hc,Rs.GQ h.inn zD (by have:=hs.ok.le;omega)⟩
variable {B:List UInt8} {s:Rs}
theorem Rs.GL(h:s.fit B.length):(s.num B).1.fit B.length:=⟨Rs.Cn h.ok,Rs.Qh h.ok h.inn⟩
theorem Rs.Jl(h:s.fit B.length)(n:Int):(s.take B n).1.fit B.length:=⟨Rs.EU h.ok n,Rs.ND h.ok h.inn n⟩
theorem Rs.Pr(h:s.fit B.length):(s.byte B).1.fit B.length:=⟨Rs.Fp h.ok,Rs.ND h.ok h.inn 1⟩
theorem Rs.Tg(h:s.fit B.length){m:Nat}:(s.most B m).1.fit B.length:=by
 unfold Rs.most;split
 ·exact Rs.E3 (Rs.GL h) h zD
 ·exact Rs.GL h
theorem Rs.JG(h:s.fit B.length):(s.int B m).1.fit B.length:=by
 unfold Rs.int;split
 ·exact Rs.Tg h
 ·exact Rs.E3 (Rs.GL h) h zD
theorem Rs.TD(h:s.fit B.length)(m:Int):(s.Dk B m).1.fit B.length:=Rs.Jl (Rs.JG h) _
theorem Rs.Tv(h:s.fit B.length):(s.ep B).1.fit B.length:=by
 have h2:=Rs.GL h;unfold Rs.ep;split
 ·split
  ·exact h2
  ·exact Rs.E3 h2 h zD
 ·exact h2
theorem Rs.Ur(h:s.fit B.length):(s.po B).1.fit B.length:=by
 have h2:=Rs.GL h;unfold Rs.po;split
 ·split
  ·exact h2
  ·exact Rs.E3 h2 h zD
 ·exact h2
theorem Rs.Le(L:Nat):(⟨0,0,0⟩:Rs).fit L:=⟨⟨At _,fun _=>rfl⟩,⟨zQ,zQ⟩⟩
theorem Rs.Gz(h:s.fit B.length)(m:Int):(s.frame B m).1.fit B.length:=by
 have h1:=Rs.TD h (min m 2097152);have h2:=Rs.Jl h1 4;unfold Rs.frame;dsimp only;split
 ·exact h2
 ·exact Rs.E3 h2 h1 zD
theorem Rs.FH{n:Int}(h:(s.take B n).1.k=0):B.drop s.p=(s.take B n).2++B.drop (s.take B n).1.p∧(s.take B n).1.p=s.p+n.toNat∧((s.take B n).2.length=n.toNat):=by
 have h0:=(Rs.DI h).2.2;unfold Rs.take at h h0 ⊢;cases hk:(s.skip B.length n).1
 ·exact absurd h (Rs.IM hk).1
 ·have h3:=Rs.Fx hk
  rw[hk] at h0;rw[h3.2.2.2];refine⟨?_,rfl,h0⟩;dsimp only;rw[Ai rfl,←List.drop_drop,Dr]
def Rs.CN(B:List UInt8)(s:Rs):Rs × Nat:=
 let t:=s.take B 4
 let v:=(if t.2=[84,72,79,76] then t.1 else t.1.fail 14 s.p).byte B
 let u:=if 1≤v.2.toNat∧v.2.toNat≤3 then v.1 else v.1.fail 8 ((v.1.p:Int)-1)
 (u,if u.k=0 then v.2.toNat else 0)
def Rs.hdr(B:List UInt8)(s:Rs):Rs × Nat × Nat × Nat:=
 let v:=s.CN B
 let e:=v.1.ep B
 let b:=if v.2=1 then e.1.po B else (e.1,0)
 let f:=b.1.take B 4
 if f.1.k=0 then (if DC f.2=B8 (Dw v.2 e.2 b.2) then (f.1,v.2,e.2,b.2) else (f.1.fail 6 b.1.p,0,0,0)) else (f.1,0,0,0)
theorem Rs.Mp(h:s.ok B.length):(s.CN B).1.ok B.length:=by
 have h1:=Rs.EU h 4;unfold Rs.CN;dsimp only;have h2:(if (s.take B 4).2=[84,72,79,76] then (s.take B 4).1 else (s.take B 4).1.fail 14 s.p).ok B.length:=by
  split
  ·exact h1
  ·exact Rs.Ce h1 zD
 generalize (if (s.take B 4).2=[84,72,79,76] then (s.take B 4).1 else (s.take B 4).1.fail 14 s.p)=u at*;split
 ·exact Rs.Fp h2
 ·exact Rs.Ce (Rs.Fp h2) zD
theorem Rs.SB(h:s.fit B.length):(s.CN B).1.fit B.length:=by
 have h1:=Rs.Jl h 4;unfold Rs.CN;dsimp only;have h2:(if (s.take B 4).2=[84,72,79,76] then (s.take B 4).1 else (s.take B 4).1.fail 14 s.p).fit B.length:=by
  split
  ·exact h1
  ·exact Rs.E3 h1 h zD
 generalize (if (s.take B 4).2=[84,72,79,76] then (s.take B 4).1 else (s.take B 4).1.fail 14 s.p)=u at*;have h3:=Rs.Pr h2;have hle:=h3.ok.le;by_cases hk:(u.byte B).1.k=0
 ·have hp:1≤(u.byte B).1.p:=by
   have:=Rs.Ja h2.ok hk;have:=Bc List.length this.1;simp at this;omega
  split
  ·exact h3
  ·exact⟨Rs.Ce h3.ok zD,Rs.GQ h3.inn zD zD⟩
 ·rw[Rs.CW hk]
  split<;>exact h3
theorem Rs.KP(hs:s.ok B.length)(h:(s.CN B).1.k=0):(1≤(s.CN B).2∧(s.CN B).2≤3)∧B.drop s.p=[84,72,79,76,UInt8.ofNat (s.CN B).2]++B.drop (s.CN B).1.p∧s.k=0:=by
 unfold Rs.CN at h ⊢;have h1:=Rs.EU hs 4;dsimp only at h ⊢;by_cases ht:(s.take B 4).2=[84,72,79,76]
 ·rw[Ai ht] at h ⊢
  by_cases hv:1≤((s.take B 4).1.byte B).2.toNat∧((s.take B 4).1.byte B).2.toNat≤3
  ·rw[Ai hv] at h ⊢
   rw[Ai h];obtain⟨b1,b2⟩:=Rs.Ja h1 h;obtain⟨t1,t2,t3⟩:=Rs.FH b2;refine⟨hv,?_,(Rs.DI b2).2.1⟩;rw[t1,ht,b1];simp
  ·rw[Ah hv] at h
   exact absurd h (Rs.A0 zD)
 ·rw[Ah ht] at h
  have hb:((s.take B 4).1.fail 14 s.p).k≠0:=Rs.A0 zD;rw[Rs.Hx hb] at h;dsimp only at h;split at h
  ·exact absurd h hb
  ·exact absurd h (Rs.A0 zD)
theorem Rs.Rk(h:s.fit B.length):(s.hdr B).1.fit B.length:=by
 have h1:=Rs.SB h;have h2:=Rs.Tv (B:=B) h1;unfold Rs.hdr;dsimp only;have h3:(if (s.CN B).2=1 then ((s.CN B).1.ep B).1.po B else (((s.CN B).1.ep B).1,0)).1.fit B.length:=by
  split
  ·exact Rs.Ur h2
  ·exact h2
 generalize (if (s.CN B).2=1 then ((s.CN B).1.ep B).1.po B else (((s.CN B).1.ep B).1,0))=b at*;have h4:=Rs.Jl h3 4;split
 ·split
  ·exact h4
  ·exact Rs.E3 h4 h3 zD
 ·exact h4
theorem Rs.Sg(hs:s.ok B.length)(h:(s.hdr B).1.k=0):
  KV ((s.hdr B).2.1:Int) ((s.hdr B).2.2.1:Int) ((s.hdr B).2.2.2:Int)=true∧B.drop s.p=Cw (s.hdr B).2.1 (s.hdr B).2.2.1 (s.hdr B).2.2.2++B.drop (s.hdr B).1.p:=by
 have ok1:=Rs.Mp hs;have ok2:=Rs.QK (B:=B) ok1;have cB:=Rs.KP (B:=B) hs;unfold Rs.hdr at h ⊢;generalize s.CN B=v at*;obtain⟨u,v⟩:=v;dsimp only at*;have cE:=Rs.JN (B:=B) ok1;generalize u.ep B=e at*;obtain⟨e1,e⟩:=e;dsimp only at*;have cP:∀b:Rs × Nat,(if v=1 then e1.po B else (e1,0))=b→b.1.k=0→poR (b.2:Int)=true∧(v=1∨b.2=0)∧B.drop e1.p=(if v=1 then AV b.2 else [])++B.drop b.1.p∧e1.k=0:=fun b hb hk=>by
  by_cases hv:v=1
  ·rw[Ai hv] at hb
   rw[Ai hv];subst hb;obtain⟨p1,p2,p3⟩:=Rs.LI (B:=B) ok2 hk;exact⟨p1,.inl hv,p2,p3⟩
  ·rw[Ah hv] at hb
   rw[Ah hv];subst hb;exact⟨by simp[poR],.inr rfl,rfl,hk⟩
 generalize hb:(if v=1 then e1.po B else (e1,0))=b at*;have cP:=cP b rfl;obtain⟨b1,b⟩:=b;dsimp only at*;by_cases hf:(b1.take B 4).1.k=0
 ·rw[Ai hf] at h ⊢
  by_cases hc:DC (b1.take B 4).2=B8 (Dw v e b)
  ·rw[Ai hc] at h ⊢
   dsimp only at h ⊢;obtain⟨f1,f2,f3⟩:=Rs.FH hf;obtain⟨p1,p2,p3,p4⟩:=cP (Rs.DI hf).2.1;obtain⟨e2,e3,e4⟩:=cE p4;obtain⟨g1,g2,g3⟩:=cB e4;have hfx:Ci 4 (B8 (Dw v e b))=(b1.take B 4).2:=by
    rw[←hc];have:(b1.take B 4).2.length=4:=f3;rw[←this];exact Hq _
   refine⟨?_,?_⟩
   ·unfold KV
    rw[e2,p1];have:(1≤(v:Int)∧(v:Int)≤3):=zD;have h2:(v:Int)=1∨(b:Int)=0:=zD;simp[this];omega
   ·unfold Cw
    rw[hfx];unfold Dw;rw[g2,e3,p3,f1];simp only[AB]
  ·rw[Ah hc] at h
   exact absurd h (Rs.A0 zD)
 ·rw[Ah hf] at h
  exact absurd h hf
theorem Qz{v e b:Nat}(h:KV (v:Int) (e:Int) (b:Int)=true):(1≤v∧v≤3)∧epR (e:Int)=true∧poR (b:Int)=true∧(v=1∨b=0):=by
 unfold KV at h;simp only[Aq,BR,Ar] at h;exact⟨zD,h.2.1,h.2.2.1,zD⟩
def Rs.Gt(B:List UInt8):Nat→Rs→Int→Int→List AU→Rs × List AU
 | 0,s,_,_,out=>(s,out)
 | n+1,s,pos,a,out=>
  let x:=s.num B
  let c:=x.1.int B 16
  let o:=c.1.int B 1099511627775
  let m:AU:=⟨pos+(x.2:Int),(c.2:Int),a+1+(o.2:Int)⟩
  if o.1.k=0 then (if CU m pos a=true then Rs.Gt B n o.1 (m.pos+m.count) m.at_ (out++[m]) else (o.1.fail 3 s.p,[])) else (o.1,[])
def Rs.CK(B:List UInt8)(s:Rs):Rs × List AU:=Rs.Gt B (s.int B 16).2 (s.int B 16).1 0 0 []
theorem Rs.Kz(B:List UInt8)(n:Nat)(s:Rs)(pos a:Int)(out:List AU):Rs.Gt B (n+1) s pos a out=
  (if (((s.num B).1.int B 16).1.int B 1099511627775).1.k=0 then (if CU ⟨pos+((s.num B).2:Int),(((s.num B).1.int B 16).2:Int),a+1+((((s.num B).1.int B 16).1.int B 1099511627775).2:Int)⟩ pos a=true then
   Rs.Gt B n (((s.num B).1.int B 16).1.int B 1099511627775).1 (pos+((s.num B).2:Int)+(((s.num B).1.int B 16).2:Int)) (a+1+((((s.num B).1.int B 16).1.int B 1099511627775).2:Int)) (out++[⟨pos+((s.num B).2:Int),(((s.num B).1.int B 16).2:Int),a+1+((((s.num B).1.int B 16).1.int B 1099511627775).2:Int)⟩])
   else ((((s.num B).1.int B 16).1.int B 1099511627775).1.fail 3 s.p,[])) else ((((s.num B).1.int B 16).1.int B 1099511627775).1,[])):=rfl
theorem Rs.Jw:∀(n:Nat) (s:Rs) (pos a:Int) (out:List AU),s.ok B.length→(Rs.Gt B n s pos a out).1.k=0→
  ∃t,(Rs.Gt B n s pos a out).2=out++t∧t.length=n∧DM pos a t=true∧B.drop s.p=Fg pos a t++B.drop (Rs.Gt B n s pos a out).1.p∧s.k=0
 | 0,s,pos,a,out,hs,h=>⟨[],by simp[Rs.Gt],rfl,rfl,rfl,h⟩
 | n+1,s,pos,a,out,hs,h=>by
  have ok1:=Rs.Cn (B:=B) hs;have ok2:=Rs.Dp (B:=B) ok1 (m:=16);have ok3:=Rs.Dp (B:=B) ok2 (m:=1099511627775);have c1:=Rs.D6 (B:=B) hs;have c2:=Rs.Da (B:=B) (m:=16) ok1;have c3:=Rs.Da (B:=B) (m:=1099511627775) ok2;have m1:=fun h=>(Rs.DB (B:=B) (s:=s) h).2;rw[Rs.Kz] at h ⊢;generalize s.num B=x at*;obtain⟨x1,x⟩:=x;dsimp only at*;generalize x1.int B 16=c at*;obtain⟨cs,c⟩:=c;dsimp only at*;generalize cs.int B 1099511627775=o at*;obtain⟨os,o⟩:=o;dsimp only at*;by_cases hk:os.k=0
  ·rw[Ai hk] at h ⊢
   obtain⟨d3,e3,f3⟩:=c3 hk;obtain⟨d2,e2,f2⟩:=c2 f3;obtain⟨d1,e1⟩:=c1 f2;by_cases hf:CU ⟨pos+(x:Int),(c:Int),a+1+(o:Int)⟩ pos a=true
   ·rw[Ai hf] at h ⊢
    obtain⟨t,i1,i2,i3,i4,i5⟩:=Rs.Jw n os _ _ _ ok3 h;refine⟨⟨pos+(x:Int),(c:Int),a+1+(o:Int)⟩::t,by rw[i1,AB];rfl,by rw[AL,i2],?_,?_,m1 f2⟩
    ·unfold DM
     rw[hf];exact i3
    ·unfold Fg
     dsimp only;rw[show (pos+(x:Int)-pos).toNat=x by omega,show ((c:Int)).toNat=c by omega,show (a+1+(o:Int)-a-1).toNat=o by omega,d1,d2,d3,i4];simp only[AB]
   ·rw[Ah hf] at h
    exact absurd h (Rs.A0 zD)
  ·rw[Ah hk] at h
   exact absurd h hk
theorem Rs.OM(hs:s.ok B.length)(h:(s.CK B).1.k=0):Cv (s.CK B).2=true∧B.drop s.p=Bx (s.CK B).2++B.drop (s.CK B).1.p:=by
 unfold Rs.CK at h ⊢;obtain⟨t,i1,i2,i3,i4,i5⟩:=Rs.Jw _ _ _ _ _ (Rs.Dp hs) h;obtain⟨c1,c2,_⟩:=Rs.Da (B:=B) (m:=16) hs i5;rw[i1,A8];refine⟨?_,?_⟩
 ·unfold Cv
  rw[i3,D7,Ar];omega
 ·unfold Bx
  rw[i2,c1,i4,AB]
def Hp(f:Cj):Bool:=epR f.ep&&decide (0≤f.n∧f.n≤16∧f.n≤f.en∧f.en≤f.n*16∧1≤f.at_∧f.at_≤1099511627775∧1≤f.size∧f.size≤2097152∧
 (if f.n=0 then f.first=0∧f.fin=0 else 0≤f.first∧f.first<f.fin∧f.fin≤4611686018427387904∧f.en≤f.fin-f.first))
theorem QH{f:Cj}:Hp f=true↔Ia f:=by
 unfold Hp;rw[Aq,Ar];exact⟨fun ⟨h0,h1,h2,h3,h4,h5,h6,h7,h8,h9⟩=>⟨h0,h1,h2,h3,h4,h5,h6,h7,h8,h9⟩,fun ⟨h0,h1,h2,h3,h4,h5,h6,h7,h8,h9⟩=>⟨h0,h1,h2,h3,h4,h5,h6,h7,h8,h9⟩⟩
def QG:Cj:=⟨0,0,0,0,0,0,0⟩
def Gd(P:List UInt8):Rs × Cj:=
 let b:=(⟨0,0,0⟩:Rs).byte P
 let e:=(if b.2=3 then b.1 else b.1.fail 7 0).ep P
 let n:=e.1.int P 65536
 let m:=n.1.int P 65536
 let f:=m.1.num P
 let g:=f.1.num P
 let a:=g.1.int P 1099511627776
 let z:=a.1.int P 1099511627776
 (z.1,⟨(e.2:Int),(n.2:Int),(m.2:Int),(f.2:Int),(g.2:Int),(a.2:Int),(z.2:Int)⟩)
def Na(P:List UInt8):Rs:=(if Hp (Gd P).2=true then (Gd P).1 else (Gd P).1.fail 3 0).fin P.length
def FW(P:List UInt8):Cj × Int × Int:=if (Na P).k=0 then ((Gd P).2,0,0) else (QG,(Na P).k,(Na P).f)
theorem Sl(P:List UInt8):(Gd P).1.fit P.length:=by
 have h0:=Rs.Le P.length;have h1:=Rs.Pr (B:=P) h0;unfold Gd;dsimp only;generalize (⟨0,0,0⟩:Rs).byte P=U at*;have h2:(if U.2=3 then U.1 else U.1.fail 7 0).fit P.length:=by
  split
  ·exact h1
  ·exact Rs.E3 (s:=⟨0,0,0⟩) h1 h0 zD
 exact Rs.JG (Rs.JG (Rs.GL (Rs.GL (Rs.JG (Rs.JG (Rs.Tv h2))))))
theorem NX(h:(FW P).2.1=0):Ia (FW P).1∧P=Eg (FW P).1:=by
 have hfit:=Sl P;unfold FW at h ⊢;by_cases hk:(Na P).k=0
 ·rw[Ai hk]
  unfold Na at hk;by_cases hR:Hp (Gd P).2=true
  ·rw[Ai hR] at hk
   obtain⟨z1,z2⟩:=Rs.Tq hfit.ok hk;refine⟨QH.1 hR,?_⟩;have ok0:(⟨0,0,0⟩:Rs).ok P.length:=⟨At _,fun _=>rfl⟩;clear hR hk h;unfold Gd at z1 z2 hfit ⊢;have okb:=Rs.Fp (B:=P) ok0;have cb:=Rs.Ja (B:=P) ok0;generalize (⟨0,0,0⟩:Rs).byte P=b at*;obtain⟨b1,b⟩:=b;dsimp only at*;have okb2:(if b=3 then b1 else b1.fail 7 0).ok P.length:=by
    split
    ·exact okb
    ·exact Rs.Ce okb zD
   have cb2:(if b=3 then b1 else b1.fail 7 0).k=0→b=3∧P=[3]++P.drop (if b=3 then b1 else b1.fail 7 0).p:=fun hk=>by
    by_cases h3:b=3
    ·rw[Ai h3] at hk ⊢
     have:=(cb hk).1;rw[DH,h3] at this;exact⟨h3,this⟩
    ·rw[Ah h3] at hk
     exact absurd hk (Rs.A0 zD)
   generalize (if b=3 then b1 else b1.fail 7 0)=u at*;have oke:=Rs.QK (B:=P) okb2;have ce:=Rs.JN (B:=P) okb2;generalize u.ep P=e at*;obtain⟨e1,e⟩:=e;dsimp only at*;have okn:=Rs.Dp (B:=P) oke (m:=65536);have cn:=Rs.Da (B:=P) (m:=65536) oke;generalize e1.int P 65536=n at*;obtain⟨n1,n⟩:=n;dsimp only at*;have okm:=Rs.Dp (B:=P) okn (m:=65536);have cm:=Rs.Da (B:=P) (m:=65536) okn;generalize n1.int P 65536=m at*;obtain⟨m1,m⟩:=m;dsimp only at*;have okf:=Rs.Cn (B:=P) okm;have cf:=Rs.D6 (B:=P) okm;have mf:=fun h=>(Rs.DB (B:=P) (s:=m1) h).2;generalize m1.num P=f at*;obtain⟨f1,f⟩:=f;dsimp only at*;have okg:=Rs.Cn (B:=P) okf;have cg:=Rs.D6 (B:=P) okf;have mg:=fun h=>(Rs.DB (B:=P) (s:=f1) h).2;generalize f1.num P=g at*;obtain⟨g1,g⟩:=g;dsimp only at*;have oka:=Rs.Dp (B:=P) okg (m:=1099511627776);have ca:=Rs.Da (B:=P) (m:=1099511627776) okg;generalize g1.int P 1099511627776=a at*;obtain⟨a1,a⟩:=a;dsimp only at*;have cz:=Rs.Da (B:=P) (m:=1099511627776) oka;generalize a1.int P 1099511627776=z at*;obtain⟨zz,z⟩:=z;dsimp only at*;obtain⟨dz,_,ka⟩:=cz z1;obtain⟨da,_,kg⟩:=ca ka;have dg:=(cg kg).1;have kf:=mg kg;have df:=(cf kf).1;have km:=mf kf;obtain⟨dm,_,kn⟩:=cm km;obtain⟨dn,_,ke⟩:=cn kn;obtain⟨_,de,ku⟩:=ce ke;obtain⟨_,db⟩:=cb2 ku;have dend:P.drop zz.p=[]:=by rw[z2,Cy]
   unfold Eg Cj.Gx CG;simp only[Gr,DA,List.map_nil,List.flatten_cons,List.flatten_nil];rw[dend] at dz;rw[←dz,←da,←dg,←df,←dm,←dn,AB,←de];exact db
  ·rw[Ah hR,Rs.NZ (Rs.A0 zD)] at hk
   exact absurd hk (Rs.A0 zD)
 ·rw[Ah hk] at h
  exact absurd h hk
deriving instance DecidableEq for AU
deriving instance DecidableEq for Cj
theorem Rs.Ex{t:Rs}(hs:s.fit B.length)(h:s.frame B 2097152=(t,P))(hk:t.k=0):B.drop s.p=Ck P++B.drop t.p∧t.p=s.p+(Ck P).length∧P.length≤2097152∧t.p≤B.length∧s.k=0:=by
 have hok:=(Rs.Gz hs 2097152).ok;have hso:=hs.ok;have hsl:=hs.ok.le;rw[h] at hok;have hle:=hok.le;unfold Rs.frame at h;dsimp only at h;by_cases hc:B8 (s.Dk B (min 2097152 2097152)).2=DC ((s.Dk B (min 2097152 2097152)).1.take B 4).2
 ·rw[Ai hc] at h
  by_cases hz:((s.Dk B (min 2097152 2097152)).1.take B 4).1.k=0
  ·rw[Ai hz] at h
   obtain⟨f1,f2,f3⟩:=Rs.FH hz;have hb:=(Rs.DI hz).2.1;cases h;dsimp only at hk hle;unfold Rs.Dk at hk hle hb f1 f2 f3 hc ⊢;have hi:=(Rs.DI hb).2.1;obtain⟨b1,b2,b3⟩:=Rs.FH hb;obtain⟨i1,i2,i3⟩:=Rs.Da (B:=B) (s:=s) hso hi;generalize s.int B (min 2097152 2097152)=I at*;obtain⟨u,n⟩:=I;dsimp only at*;generalize u.take B (n:Int)=J at*;obtain⟨v,D⟩:=J;dsimp only at*;generalize v.take B 4=K at*;obtain⟨x,C⟩:=K;dsimp only at*;have hn:D.length=n:=zD;have h4:C.length=4:=zD;have hC:Ci 4 (B8 D)=C:=by
    rw[hc,←h4];exact Hq C
   have hB:B.drop s.p=Ck D++B.drop x.p:=by
    unfold Ck F0;rw[hn,hC,AB,AB,←f1,←b1];exact i1
   refine⟨hB,?_,zD,hle,i3⟩;have:=Bc List.length hB;rw[Al,Ea,Ea] at this;have h5:=FU D;omega
  ·rw[Ah hz] at h
   cases h;exact absurd hk hz
 ·rw[Ah hc] at h
  cases h;exact absurd hk (Rs.A0 zD)
def Rs.within(s:Rs)(k f at_:Int):Rs:=if k=0 then s else s.fail k (wrap64 (f+at_))
theorem Rs.CS{at_:Int}:s.within 0 f at_=s:=Ai rfl
def Bt(B:List UInt8)(ep:Int)(blk:List UInt8→Rs→Rs × List UInt8 × Bool):Nat→Rs→List Batch→List AU→Bool→Rs × Nat × List Batch × List AU × Bool
 | 0,s,l,M,q=>(s,0,l,M,q)
 | n+1,s,l,M,q=>
  let F:=s.frame B 2097152
  let a:Int:=(F.1.p:Int)-4-(F.2.length:Int)
  if F.1.k=0 then
   if F.2=[] then (F.1.fail 1 a,s.p,l,M,q)
   else if F.2.headD 0=1 then
    let b:=Rs.batch F.2 (blk F.2) ⟨1,0,0⟩
    let e:=b.1.fin F.2.length
    let u:=F.1.within e.k e.f a
    if u.k=0 then
     if l.length=16 then (u.fail 2 s.p,s.p,l,M,q)
     else if En ep (BM l l.length) b.2.1=true then Bt B ep blk n u (l++[b.2.1]) (M++[⟨b.2.1.base,b.2.1.entries.length,s.p⟩]) (q&&b.2.2)
     else (u.fail 13 s.p,s.p,l,M,q)
    else (u,s.p,l,M,q)
   else if F.2.headD 0=2 then
    let m:=(⟨1,0,0⟩:Rs).CK F.2
    let e:=m.1.fin F.2.length
    let u:=F.1.within e.k e.f a
    (if u.k=0∧m.2≠M then u.fail 12 s.p else u,s.p,l,M,q)
   else (F.1.fail 7 a,s.p,l,M,q)
  else (F.1,s.p,l,M,q)
def Fc(B:List UInt8)(s:Rs)(first:Nat)(ep:Int)(M:List AU):Rs:=
 let F:=s.frame B 2097152
 if F.1.k=0 then
  let f:=FW F.2
  let u:=F.1.within f.2.1 f.2.2 ((F.1.p:Int)-4-(F.2.length:Int))
  let v:=if f.1=Ge ep M first ((s.p:Int)-first) then u else u.fail 12 s.p
  let t:=v.take B 12
  (if t.2=DR (v.p-s.p) then t.1 else t.1.fail 12 v.p).fin B.length
 else F.1
def MW:Seg:=⟨0,[]⟩
def Hv(B:List UInt8)(blk:List UInt8→Rs→Rs × List UInt8 × Bool):Seg × Bool × Int × Int:=
 let h:=(⟨0,0,0⟩:Rs).hdr B
 let s:=if h.2.1=3 then h.1 else h.1.fail 8 4
 let r:=if s.k=0 then Bt B (h.2.2.1:Int) blk (B.length+1) s [] [] true else (s,0,[],[],true)
 let z:=if r.1.k=0 then Fc B r.1 r.2.1 (h.2.2.1:Int) r.2.2.2.1 else r.1
 if z.k=0 then (⟨(h.2.2.1:Int),r.2.2.1⟩,r.2.2.2.2,0,0) else (MW,false,z.k,z.f)
abbrev bS:=fun P:List UInt8=>C8 P
abbrev bL:=fun P:List UInt8=>DD P
def Md(B:List UInt8):=Hv B bS
def Me(B:List UInt8):=Hv B bL
end Go.Proofs.YtfddhafbhceoaaaGreat
namespace Go.Bs
open Go.RowKit
structure EvX where
 kind:Int
 at_:Int
 code:Int
 msg:Msg
 batch:Batch
section
variable {S S':Nat→Prop} {w w':World} {cs:List Value}
end
end Go.Bs
namespace Go.Proofs.YtfddhafbhceoaaaGreat
open Go.RowKit Go.Bs Go.Maps
variable{f m:Int}{B D J P:List UInt8}{xs:List Value}{L base c n sz:Nat}{F:Nat → Prop}{a:Option Addr}{s:Rs}{e:TypeId}{v:Value}{W W' w w':World}
theorem Kx{size:Nat}(h:w.ownsRow base e size v n xs)(hk:∀g,v.ownBlock=some g→w'.heap[g]? =w.heap[g]?):w'.ownsRow base e size v n xs:=by
 refine⟨h.1,?_⟩;rcases h.2 with h0 | ⟨g,cap,cur,h1,h2,h3,h4⟩
 ·exact .inl h0
 ·exact .inr ⟨g,cap,cur,h1,h2,by rw[hk g (by rw[h1];rfl)];exact h3,h4⟩
theorem DQ.Un{b:Nat}{L:List UInt8}(h:DQ w b v L)(hk:∀g,v.ownBlock=some g→w'.heap[g]? =w.heap[g]?):DQ w' b v L:=Kx h hk
theorem DQ.nil{b:Nat}:DQ w b (.slice none 0 0) []:=⟨rfl,.inl ⟨rfl,rfl⟩⟩
theorem DQ.at_{b:Nat}{L:List UInt8}(h:DQ w b v L):∀q,v.ownBlock=some q→b≤q∧q<w.heap.size:=Gc h
structure KR(w:World)(g:Nat)(v:Value)(s:PSt):Prop where
 blk:Blk w g 60 #[.bool true,v,.int .i64 (s.first:Int),.int .i64 (s.fed:Int),.int .i64 (s.need:Int),.int .i64 s.ended]
 buf:DQ w (g+1) v s.buf
section
variable {w w':World} {g:Nat} {v:Value} {s:PSt}
theorem KR.tch(h:KR w g v s)(ht:Tch F w w')(hg:¬F g)(hv:∀q,v.ownBlock=some q→¬F q):KR w' g v s:=
 ⟨h.blk.tch ht hg,h.buf.Un fun q e=>ht.block q (h.buf.at_ q e).2 (hv q e)⟩
theorem KR.later(h:KR w g v s)(hb:Below w.heap.size w w'):KR w' g v s:=
 ⟨h.blk.later hb,h.buf.Un fun q e=>hb.block q (h.buf.at_ q e).2⟩
theorem KR.at_(h:KR w g v s):∀q,v.ownBlock=some q→g<q∧q<w.heap.size:=fun q e=>h.buf.at_ q e
end
end Go.Proofs.YtfddhafbhceoaaaGreat
