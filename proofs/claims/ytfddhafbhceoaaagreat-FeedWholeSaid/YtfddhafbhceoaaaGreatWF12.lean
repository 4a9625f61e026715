/- Mini: Needed by feedNone_walk, part 12: texts put together by shake.py; no condition. -/
import Derived.Deep.WholeRow
import Derived.Test.YtfddhafbhceoaaaGreatWF11
import Derived.Test.YtfddhafbhceoaaaGreatWF8
import Derived.Test.YtfddhafbhceoaaaGreatWF7
import Derived.Deep.Cut
import Derived.Deep.CutRange
import Derived.Scope
import Derived.Deep.RegionHeld3
import Derived.Test.YtfddhafbhceoaaaGreatProg
import Derived.WalkKit
import Derived.BigQuiet
import Derived.Test.YtfddhafbhceoaaaGreatWF2
import Derived.Test.YtfddhafbhceoaaaGreatWF3
import Derived.Test.YtfddhafbhceoaaaGreatWF1
import Derived.Test.YtfddhafbhceoaaaGreatWF6
import Derived.Test.YtfddhafbhceoaaaGreatWF4
import Derived.Test.YtfddhafbhceoaaaGreatWF5
import Derived.Laws.EntriesVeiled
import Derived.Test.YtfddhafbhceoaaaGreatWF10
import Derived.Test.YtfddhafbhceoaaaGreatWF9
set_option linter.unusedVariables false
set_option linter.unusedSimpArgs false
set_option maxRecDepth 100000
set_option maxHeartbeats 6400000
namespace Go.Bs
theorem zBb{p:Prop}(h:p:=by dsimp only; have := e.1; omega):p:=h
theorem zAv{p:Prop}(h:p:=by simpa [World.setCell] using h.dl q e):p:=h
theorem zAt{p:Prop}(h:p:=by rw [hfin.out]; rfl):p:=h
theorem zAf{p:Prop}(h:p:=by dsimp only; have := (BP hc.1 q e).1; omega):p:=h
theorem Z5{p:Prop}(h:p:=by simp [results, Tryz.results123, go_sem, m0, m1, m2, lm]):p:=h
theorem zX{p:Prop}(h:p:=by have := e.1; omega):p:=h
end Go.Bs
namespace Go.Proofs.YtfddhafbhceoaaaGreat
open Go.RowKit Go.Bs Go.Maps
variable{m:Int}{B:List UInt8}{xs:List Value}{base c c1 c2 c3 c4 g n:Nat}{F S:Nat → Prop}{a a1 a2 a3 a4:Option Addr}{s:Rs}{e t:TypeId}{v v0 v1 v2 x0 x1 x10 x11 x12 x13 x14 x15 x16 x17 x18 x2 x3 x4 x5 x6 x7 x8 x9:Value}{W w w':World}
theorem Qg:(Tryz.prog.info? 50).map (fun i=>(i.zero,i.size,i.bytes))=some (some (.agg #[.int .i64 0,.int .i64 0,.int .i64 0,.int .i64 0,.int .u64 0,.int .u64 0,.int .u64 0,.int .i64 0,.int .i64 0,.slice none 0 0,.slice none 0 0,.slice none 0 0,.int .u64 0,.int .u64 0,.int .u64 0,.int .u64 0,.slice none 0 0,.int .u64 0,.int .u64 0,.slice none 0 0]),20,240):=zJ
def Ev.x(e:Ev):EvX:=⟨e.kind,e.at_,e.code,e.msg,Dp⟩
theorem Xp{x:EvX}{a5:Option Addr}{c5:Nat}(h:YJ S w x a1 c1 a2 c2 a3 c3 a4 c4 a5 c5):IV.r S w (CJ x a1 c1 a2 c2 a3 c3 a4 c4 a5 c5) x:=
 ⟨[_],_,rfl,rfl,[_],_,rfl,rfl,[_],_,rfl,rfl,Nd x.msg a1 c1 a2 c2 a3 c3 a4 c4,_,rfl,Aaj h.msg,XH h.epoch h.base h.ents⟩
theorem WY:(Tryz.prog.info? 50).map (fun i=>(i.zero,i.size))=some (some (.agg #[.int .i64 0,.int .i64 0,.int .i64 0,.int .i64 0,.int .u64 0,.int .u64 0,.int .u64 0,.int .i64 0,.int .i64 0,.slice none 0 0,.slice none 0 0,.slice none 0 0,.int .u64 0,.int .u64 0,.int .u64 0,.int .u64 0,.slice none 0 0,.int .u64 0,.int .u64 0,.slice none 0 0]),20):=zJ
theorem Up:inU 0:=⟨zL,zL⟩
theorem Yu{x:EvX}{a5:Option Addr}{c5:Nat}{b:Nat}(hb:Blk w b t (CJ x a1 c1 a2 c2 a3 c3 a4 c4 a5 c5).toArray)(hS:S b)(h:YJ S w x a1 c1 a2 c2 a3 c3 a4 c4 a5 c5):Mx.r S w [.slice (some ⟨b,0,none⟩) 1 1] [x]:=by
 refine Bv rfl (As _) zL (.inr ⟨b,0,rfl,hS,fun i y hi=> ?_⟩)
 have h0:i=0:=by
  have:=(List.getElem?_eq_some_iff.1 hi).1
  simp at this
  exact this
 subst h0
 simp at hi
 subst hi
 refine⟨CJ x a1 c1 a2 c2 a3 c3 a4 c4 a5 c5,rfl,fun j u hj=> ?_,Xp h⟩
 rw[Nat.zero_mul,A7,hb.cell j]
 simpa using hj
theorem Yv:Mx.r S w [.slice none 0 0] []:=Bv (xs:=[]) rfl (As _) (Ar _) (.inl rfl)
theorem Blk.row{E:Nat}{cs:Array Value}(ds:Array Value)(h:Blk W E t cs):Blk (W.setRow E ds) E t ds:=setRow_heap W E cs ds t (0,0) h
theorem Tch.row(W:World)(E:Nat)(ds:Array Value):Tch (·=E) W (W.setRow E ds):=⟨rfl,rfl,rfl,zM,fun b _ hf=>setRow_other W E b ds hf⟩
end Go.Proofs.YtfddhafbhceoaaaGreat
namespace Go.Bs
open Go.RowKit
section
variable {P:Program} {a:Act} {w:World} {Q:Exit→Act→World→Prop}
end
end Go.Bs
namespace Go.Proofs.YtfddhafbhceoaaaGreat
open Go.RowKit Go.Bs Go.Maps
variable{m:Int}{B:List UInt8}{xs:List Value}{base c c1 c2 c3 c4 g n:Nat}{F S:Nat → Prop}{a a1 a2 a3 a4:Option Addr}{s:Rs}{e t:TypeId}{v v0 v1 v2 x0 x1 x10 x11 x12 x13 x14 x15 x16 x17 x18 x2 x3 x4 x5 x6 x7 x8 x9:Value}{W w w':World}
theorem S3{base':Nat}{size:Nat}(h:w.ownsRow base e size v n xs)(hb:base'≤base):w.ownsRow base' e size v n xs:=by
 refine⟨h.1,?_⟩
 rcases h.2 with h0 | ⟨g,cap,cur,h1,h2,h3⟩
 ·exact .inl h0
 ·exact .inr ⟨g,cap,cur,h1,Bb hb h2,h3⟩
structure Mu(w:World)(vb:Value)(w':World)(vo:Value)(E:List EvX):Prop where
 own:∃cells,AY (fun q=>w.heap.size≤q∧q<w'.heap.size∧vb.ownBlock≠some q) IV w.heap.size 50 20 w' vo E cells
 ne:∀q,vo.ownBlock=some q→vb.ownBlock≠some q
theorem Mu.read{w w':World}{vb vo:Value}{E:List EvX}(h:Mu w vb w' vo E):Mx.r (fun q=>w.heap.size≤q∧q<w'.heap.size∧vb.ownBlock≠some q) w' [vo] E:=by
 obtain⟨cells,hc⟩:=h.own
 refine Mx.mono hc.slice fun b e=> ?_
 rcases e with e | e
 ·exact e
 ·have:=BP hc.1 b e
  exact⟨this.1,this.2,h.ne b e⟩
theorem Mu.nil{vb:Value}:Mu w vb w' (.slice none 0 0) []:=⟨⟨[],AY.nil⟩,fun q e=>ZO⟩
structure E0(w:World)(g:Nat)(v0:Value)(B:List UInt8)(a:Option Addr)(c:Nat)(s:PSt)(v:Value)(E:List EvX)(vo:Value)(W:World):Prop where
 par:J1 W g v s
 vb:v.ownBlock=v0.ownBlock∨∀q,v.ownBlock=some q→w.heap.size+2≤q
 own:∃cells,AY (fun q=>w.heap.size+2≤q∧q<W.heap.size∧v.ownBlock≠some q) IV (w.heap.size+2) 50 20 W vo E cells
 ne:∀q,vo.ownBlock=some q→v.ownBlock≠some q
 mb:∃u0 u1 u2 u3 u4 u5 u6 u7 u8 u9 u10 u11 u12 u13:Value,Blk W w.heap.size 45 #[u0,u1,u2,u3,u4,u5,u6,u7,u8,u9,u10,u11,u12,u13]
 fb:∃k f:Int,Blk W (w.heap.size+1) 65 #[.int .i64 k,.int .i64 f]
 dat:Am.r (fun q=>q<w.heap.size∧q≠g∧v0.ownBlock≠some q) W [.slice a B.length c] B
 tch:Tch (fun q=>q=g∨v0.ownBlock=some q) w W
 sz:w.heap.size+2≤W.heap.size
 gl:g<w.heap.size
 v0l:∀q,v0.ownBlock=some q→q<w.heap.size
section
variable {w W W':World} {g:Nat} {v0 v v' vo vo':Value} {B:List UInt8} {a:Option Addr} {c:Nat} {s s':PSt} {E:List EvX}
theorem E0.vq(h:E0 w g v0 B a c s v E vo W):∀q,v.ownBlock=some q→q≠g∧q<W.heap.size∧(v0.ownBlock=some q∨w.heap.size+2≤q):=fun q e=>by
 have:=h.par.at_ q e
 refine⟨zC,this.2,?_⟩
 rcases h.vb with hv | hv
 ·exact .inl (hv ▸ e)
 ·exact .inr (hv q e)
theorem E0.later(h:E0 w g v0 B a c s v E vo W)(hb:Below W.heap.size W W'):E0 w g v0 B a c s v E vo W':=by
 obtain⟨cells,hc⟩:=h.own
 obtain⟨u0,u1,u2,u3,u4,u5,u6,u7,u8,u9,u10,u11,u12,u13,hm⟩:=h.mb
 obtain⟨k,f,hf⟩:=h.fb
 exact⟨h.par.later hb,h.vb,⟨cells,(hc.keep (fun b e=>hb.block b e.2.1) (fun q e=>hb.block q (BP hc.1 q e).2)).mono fun b e=>⟨e.1,An e.2.1 hb.size,e.2.2⟩⟩,h.ne,
  ⟨u0,u1,u2,u3,u4,u5,u6,u7,u8,u9,u10,u11,u12,u13,hm.later hb⟩,⟨k,f,hf.later hb⟩,Am.keep h.dat fun q hq=>hb.block q (An hq.1 h.tch.size),h.tch.trans (Tch.AW (F:=fun q=>q=g∨v0.ownBlock=some q) hb) fun _ _ e=>e,Bb h.sz hb.size,h.gl,h.v0l⟩
theorem E0.Oo(h:E0 w g v0 B a c s v E vo W)(i:Nat)(u:Value)(hb:Blk (W.setCell ⟨g,i,none⟩ u) g 60 #[.bool true,v,.int .i64 (s'.first:Int),.int .i64 (s'.fed:Int),.int .i64 (s'.need:Int),.int .i64 s'.ended])(hs:s'.buf=s.buf):E0 w g v0 B a c s' v E vo (W.setCell ⟨g,i,none⟩ u):=by
 obtain⟨cells,hc⟩:=h.own
 obtain⟨u0,u1,u2,u3,u4,u5,u6,u7,u8,u9,u10,u11,u12,u13,hm⟩:=h.mb
 obtain⟨k,f,hf⟩:=h.fb
 have hg:=h.gl
 have hz:(W.setCell ⟨g,i,none⟩ u).heap.size=W.heap.size:=zU
 refine⟨⟨hb,?_⟩,h.vb,⟨cells,(hc.keep (fun b e=>At _ _ _ _ zBb) (fun q e=>At _ _ _ _ zAf)).mono fun b e=>⟨e.1,zC,e.2.2⟩⟩,h.ne,
  ⟨u0,u1,u2,u3,u4,u5,u6,u7,u8,u9,u10,u11,u12,u13,hm.far zH _⟩,⟨k,f,hf.far zH _⟩,Am.keep h.dat fun q hq=>At _ _ _ _ hq.2.1,h.tch.setCell (p:=⟨g,i,none⟩) (fun _=> .inl rfl) _,by rw[hz];exact h.sz,h.gl,h.v0l⟩
 rw[hs]
 exact h.par.buf.Fg fun q e=>At _ _ _ _ (h.vq q e).1
theorem E0.drop(h:E0 w g v0 B a c s v E vo W):E0 w g v0 B a c ⟨[],s.first,s.fed,s.need,s.ended⟩ (.slice none 0 0) E vo (W.setCell ⟨g,1,none⟩ (.slice none 0 0)):=by
 obtain⟨cells,hc⟩:=h.own
 obtain⟨u0,u1,u2,u3,u4,u5,u6,u7,u8,u9,u10,u11,u12,u13,hm⟩:=h.mb
 obtain⟨k,f,hf⟩:=h.fb
 have hg:=h.gl
 have hz:(W.setCell ⟨g,1,none⟩ (.slice none 0 0)).heap.size=W.heap.size:=zU
 exact⟨⟨by have:=h.par.blk.set 1 (.slice none 0 0);exact this,DF.nil⟩,.inr (fun q e=>ZO),⟨cells,(hc.keep (fun b e=>At _ _ _ _ zBb) (fun q e=>At _ _ _ _ zAf)).mono fun b e=>⟨e.1,zC,(fun e2=>by cases e2)⟩⟩,(fun q _ e=>ZO),
  ⟨u0,u1,u2,u3,u4,u5,u6,u7,u8,u9,u10,u11,u12,u13,hm.far zH _⟩,⟨k,f,hf.far zH _⟩,Am.keep h.dat fun q hq=>At _ _ _ _ hq.2.1,h.tch.setCell (p:=⟨g,1,none⟩) (fun _=> .inl rfl) _,by rw[hz];exact h.sz,h.gl,h.v0l⟩
theorem E0.bad(h:E0 w g v0 B a c s v E vo W)(hp:J1 W' g (.slice none 0 0) s')(ht:Tch (·=g) W W'):E0 w g v0 B a c s' (.slice none 0 0) E vo W':=by
 obtain⟨cells,hc⟩:=h.own
 obtain⟨u0,u1,u2,u3,u4,u5,u6,u7,u8,u9,u10,u11,u12,u13,hm⟩:=h.mb
 obtain⟨k,f,hf⟩:=h.fb
 have hg:=h.gl
 exact⟨hp,.inr (fun q e=>ZO),⟨cells,(hc.keep (fun b e=>ht.block b e.2.1 zX) (fun q e=>ht.block q (BP hc.1 q e).2 (by have:=(BP hc.1 q e).1;omega))).mono fun b e=>⟨e.1,An e.2.1 ht.size,(fun e2=>by cases e2)⟩⟩,(fun q _ e=>ZO),
  ⟨u0,u1,u2,u3,u4,u5,u6,u7,u8,u9,u10,u11,u12,u13,hm.tch ht zC⟩,⟨k,f,hf.tch ht zC⟩,Am.keep h.dat fun q hq=>ht.block q (An hq.1 h.tch.size) hq.2.1,h.tch.trans ht fun b hb e=> .inl e,Bb h.sz ht.size,h.gl,h.v0l⟩
theorem E0.put(h:E0 w g v0 B a c s v E vo W){x:UInt8}(hown:W'.ownsRow (g+1) 5 1 v' (s.buf.length+1) (byteCells s.buf++[.int .u8 (x.toNat:Int)]))(hgr:W.grownBy W' v.ownBlock)(hat:v'.ownBlock=v.ownBlock∨v'.ownBlock=some W.heap.size):
  E0 w g v0 B a c ⟨s.buf++[x],s.first,s.fed,s.need,s.ended⟩ v' E vo (W'.setCell ⟨g,1,none⟩ v'):=by
 obtain⟨cells,hc⟩:=h.own
 obtain⟨u0,u1,u2,u3,u4,u5,u6,u7,u8,u9,u10,u11,u12,u13,hm⟩:=h.mb
 obtain⟨k,f,hf⟩:=h.fb
 have hg:=h.gl
 have hsz:=h.sz
 have hgs:=hgr.size
 have hz:(W'.setCell ⟨g,1,none⟩ v').heap.size=W'.heap.size:=zU
 have hvm:∀q,q=w.heap.size∨q=w.heap.size+1→some q≠v.ownBlock:=fun q hq e=>by
  rcases (h.vq q e.symm).2.2 with h1 | h1
  ·have:=h.v0l q h1
   omega
  ·omega
 have hb':DF W' (g+1) v' (s.buf++[x]):=by
  unfold DF
  rw[Al]
  have:byteCells (s.buf++[x])=byteCells s.buf++[.int .u8 (x.toNat:Int)]:=ZS
  rw[this]
  exact hown
 refine⟨⟨by have:=(h.par.blk.grown hgr (fun e=>(h.vq g e.symm).1 rfl)).set 1 v';exact this,hb'.Fg fun q e=>At _ _ _ _ (by dsimp only;have:=(hb'.at_ q e).1;omega)⟩,?_,⟨cells,(hc.keep (fun b e=>(At _ _ _ _ zBb).trans (hgr.block b e.2.1 (fun e2=>e.2.2 e2.symm))) (fun q e=>(At _ _ _ _ zAf).trans (hgr.block q (BP hc.1 q e).2 (fun e2=>h.ne q e e2.symm)))).mono fun b e=>⟨e.1,zC,fun e2=> ?_⟩⟩,fun q e e2=> ?_,
  ⟨u0,u1,u2,u3,u4,u5,u6,u7,u8,u9,u10,u11,u12,u13,(hm.grown hgr (hvm _ (.inl rfl))).far zH _⟩,⟨k,f,(hf.grown hgr (hvm _ (.inr rfl))).far zH _⟩,Am.keep h.dat fun q hq=>(At _ _ _ _ hq.2.1).trans (hgr.block q (An hq.1 h.tch.size) (fun e=> ?_)),(h.tch.trans (Tch.GR hgr) fun b hb e=> ?_).setCell (p:=⟨g,1,none⟩) (fun _=> .inl rfl) _,zC,h.gl,h.v0l⟩
 ·rcases hat with h1 | h1
  ·rw[h1]
   exact h.vb
  ·refine .inr fun q e=> ?_
   rw[h1] at e
   have:=AR e
   omega
 ·rcases hat with h1 | h1
  ·exact e.2.2 (h1 ▸ e2)
  ·rw[h1] at e2
   have:=AR e2
   have:=e.2.1
   omega
 ·rcases hat with h1 | h1
  ·exact h.ne q e (h1 ▸ e2)
  ·rw[h1] at e2
   have:=AR e2
   have:=(BP hc.1 q e).2
   omega
 ·rcases (h.vq q e.symm).2.2 with h1 | h1
  ·exact hq.2.2 h1
  ·have:=hq.1
   omega
 ·rcases (h.vq b e).2.2 with h1 | h1
  ·exact .inr h1
  ·omega
theorem E0.tell(h:E0 w g v0 B a c s v E vo W){cells:List (List Value)}(hc:AY (fun q=>w.heap.size+2≤q∧q<W.heap.size∧v.ownBlock≠some q) IV (w.heap.size+2) 50 20 W vo E cells){news:List Value}{x:EvX}(hn:news.length=20)
 (hx:IV.r (fun q=>(w.heap.size+2≤q∧q<W.heap.size∧v.ownBlock≠some q)∧vo.ownBlock≠some q) W news x)
 (hown:W'.ownsRow (w.heap.size+2) 50 20 vo' (E.length+1) (cells.flatten++news)) (hgr:W.grownBy W' vo.ownBlock) (hat:vo'.ownBlock=vo.ownBlock∨vo'.ownBlock=some W.heap.size):E0 w g v0 B a c s v (E++[x]) vo' W':=by
 obtain⟨u0,u1,u2,u3,u4,u5,u6,u7,u8,u9,u10,u11,u12,u13,hm⟩:=h.mb
 obtain⟨k,f,hf⟩:=h.fb
 have hg:=h.gl
 have hsz:=h.sz
 have hgs:=hgr.size
 have hlo:=BP hc.1
 refine⟨⟨h.par.blk.grown hgr (fun e=>by have:=(hlo g e.symm).1;omega),h.par.buf.Fg fun q e=>hgr.block q (h.vq q e).2.1 (fun e2=>h.ne q e2.symm e)⟩,h.vb,⟨_,(hc.push (fun b e=>e.2.1) hn hx hown hgr hat).mono fun b e=>⟨e.1,zC,e.2.2⟩⟩,fun q e=> ?_,
  ⟨u0,u1,u2,u3,u4,u5,u6,u7,u8,u9,u10,u11,u12,u13,hm.grown hgr (fun e=>by have:=(hlo _ e.symm).1;omega)⟩,⟨k,f,hf.grown hgr (fun e=>by have:=(hlo _ e.symm).1;omega)⟩,Am.keep h.dat fun q hq=>hgr.block q (An hq.1 h.tch.size) (fun e=>by have:=(hlo q e.symm).1;have:=hq.1;omega),h.tch.trans (Tch.GR hgr) fun b hb e=>by have:=(hlo b e).1;omega,zC,h.gl,h.v0l⟩
 rcases hat with h1 | h1
 ·exact h.ne q (h1 ▸ e)
 ·rw[h1] at e
  have:=AR e
  intro e2
  have:=(h.vq q e2).2.1
  omega
theorem E0.told(h:E0 w g v0 B a c s v E vo W):Mu w v W vo E:=by
 obtain⟨cells,hc⟩:=h.own
 exact⟨⟨cells,⟨S3 hc.1 zC,hc.2.1,hc.2.2.1,fun i cs x h1 h2=>IV.mono (hc.2.2.2 i cs x h1 h2) fun b e=>⟨⟨zC,e.1.2⟩,e.2⟩⟩⟩,h.ne⟩
end
def EvB.x(e:EvB):EvX:=⟨e.kind,e.at_,e.code,WO,e.batch⟩
def nxN(ph:Nat):Nat:=if ph=0 then 92 else if ph=1 then 155 else if ph=2 then 285 else if ph=3 then 339 else 358
abbrev nxF(ph:Nat):Value:=.func (Fn.func (nxN ph)) #[] #[]
structure C7 where
 e:Int
 b:Int
 a:Option Addr
 n:Nat
 c:Nat
structure FOk(σ:FSt):Prop where
 lm:σ.l.length=σ.M.length
 l16:σ.l.length≤16
 good:∀b∈σ.l,Bg b=true
 nb:∀b∈σ.l,0≤b.base
 fb:σ.first+σ.buf.length≤σ.fed
 ft:σ.foot≤σ.fed
 wa:0≤σ.want.at_∧σ.want.at_≤σ.fed
 ws:0≤σ.want.size∧σ.want.size≤σ.fed
structure By(w:World)(g:Nat)(D:Nat→Prop)(v vm vo:Value)(L:C7)(σ:FSt)(E:List EvX):Prop where
 blk:Blk w g 83 #[nxF σ.ph,v,.int .i64 (σ.first:Int),.int .i64 (σ.fed:Int),.int .i64 σ.ended,.int .u64 σ.ep,.int .u64 L.e,.int .u64 L.b,.slice L.a L.n L.c,vm,.int .u64 σ.want.ep,.int .i64 σ.want.n,.int .i64 σ.want.en,.int .u64 σ.want.first,.int .u64 σ.want.fin,.int .i64 σ.want.at_,.int .i64 σ.want.size,.int .i64 (σ.foot:Int),vo]
 last:∀x,σ.l.getLast? =some x→L.e=x.epoch∧L.b=x.base∧L.n=x.entries.length
 buf:DF w (g+1) v σ.buf
 mks:Dq w (g+1) vm σ.M
 out:∃cells,AY (fun q=>g+1≤q∧D q∧v.ownBlock≠some q∧vm.ownBlock≠some q) IV (g+1) 50 20 w vo E cells
 dl:∀q,D q→q<w.heap.size
 vT:∀q,v.ownBlock=some q→D q
 mT:∀q,vm.ownBlock=some q→D q
 oT:∀q,vo.ownBlock=some q→D q
section
variable {w w':World} {g:Nat} {D:Nat→Prop} {v vm vo:Value} {L:C7} {σ τ:FSt} {E:List EvX}
theorem Bo(h:Blk w g t #[x0,x1,x2,x3,x4,x5,x6,x7,x8,x9,x10,x11,x12,x13,x14,x15,x16,x17,x18]):w.cell? ⟨g,0,none⟩=some x0∧w.cell? ⟨g,1,none⟩=some x1∧w.cell? ⟨g,2,none⟩=some x2∧w.cell? ⟨g,3,none⟩=some x3∧w.cell? ⟨g,4,none⟩=some x4∧w.cell? ⟨g,5,none⟩=some x5∧w.cell? ⟨g,6,none⟩=some x6∧w.cell? ⟨g,7,none⟩=some x7∧w.cell? ⟨g,8,none⟩=some x8∧w.cell? ⟨g,9,none⟩=some x9∧w.cell? ⟨g,10,none⟩=some x10∧w.cell? ⟨g,11,none⟩=some x11∧w.cell? ⟨g,12,none⟩=some x12∧w.cell? ⟨g,13,none⟩=some x13∧w.cell? ⟨g,14,none⟩=some x14∧w.cell? ⟨g,15,none⟩=some x15∧w.cell? ⟨g,16,none⟩=some x16∧w.cell? ⟨g,17,none⟩=some x17∧w.cell? ⟨g,18,none⟩=some x18∧g<w.heap.size:=
 ⟨h.cell 0,h.cell 1,h.cell 2,h.cell 3,h.cell 4,h.cell 5,h.cell 6,h.cell 7,h.cell 8,h.cell 9,h.cell 10,h.cell 11,h.cell 12,h.cell 13,h.cell 14,h.cell 15,h.cell 16,h.cell 17,h.cell 18,h.lt⟩
theorem Cw{cs:Array Value}(h:Blk w g t cs):w.frozen? ⟨g,0,none⟩=false∧w.frozen? ⟨g,1,none⟩=false∧w.frozen? ⟨g,2,none⟩=false∧w.frozen? ⟨g,3,none⟩=false∧w.frozen? ⟨g,4,none⟩=false∧w.frozen? ⟨g,5,none⟩=false∧w.frozen? ⟨g,6,none⟩=false∧w.frozen? ⟨g,7,none⟩=false∧w.frozen? ⟨g,8,none⟩=false∧w.frozen? ⟨g,9,none⟩=false∧w.frozen? ⟨g,10,none⟩=false∧w.frozen? ⟨g,11,none⟩=false∧w.frozen? ⟨g,12,none⟩=false∧w.frozen? ⟨g,13,none⟩=false∧w.frozen? ⟨g,14,none⟩=false∧w.frozen? ⟨g,15,none⟩=false∧w.frozen? ⟨g,16,none⟩=false∧w.frozen? ⟨g,17,none⟩=false∧w.frozen? ⟨g,18,none⟩=false:=
 ⟨h.free 0,h.free 1,h.free 2,h.free 3,h.free 4,h.free 5,h.free 6,h.free 7,h.free 8,h.free 9,h.free 10,h.free 11,h.free 12,h.free 13,h.free 14,h.free 15,h.free 16,h.free 17,h.free 18⟩
theorem By.gl(h:By w g D v vm vo L σ E):g<w.heap.size:=h.blk.lt
theorem By.vq(h:By w g D v vm vo L σ E):∀q,v.ownBlock=some q→g<q∧D q:=fun q e=>⟨(BP h.buf q e).1,h.vT q e⟩
theorem By.mq(h:By w g D v vm vo L σ E):∀q,vm.ownBlock=some q→g<q∧D q:=fun q e=>⟨(BP h.mks.own q e).1,h.mT q e⟩
theorem By.oq(h:By w g D v vm vo L σ E):∀q,vo.ownBlock=some q→g<q∧D q:=fun q e=>by
 obtain⟨cells,hc⟩:=h.out
 exact⟨(BP hc.1 q e).1,h.oT q e⟩
theorem By.YM(h:By w g D v vm vo L σ E):∀b,v.ownBlock=some b→vm.ownBlock≠some b:=Ls h.buf h.mks.own zL
theorem By.Wg(h:By w g D v vm vo L σ E):∀b,v.ownBlock=some b→vo.ownBlock≠some b:=by
 obtain⟨cells,hc⟩:=h.out
 exact Ls h.buf hc.1 zL
theorem By.WR(h:By w g D v vm vo L σ E):∀b,vm.ownBlock=some b→vo.ownBlock≠some b:=by
 obtain⟨cells,hc⟩:=h.out
 exact Ls h.mks.own hc.1 zL
theorem Dq.Fg{b:Nat}{M:List AP}(h:Dq w b v M)(hk:∀g,v.ownBlock=some g→w'.heap[g]? =w.heap[g]?):Dq w' b v M:=⟨Jc h.own hk,h.nat⟩
theorem By.side(h:By w g D v vm vo L σ E)(ht:Tch F w w')(hg:¬F g)(hF:∀b,g<b→D b→b<w.heap.size→¬F b):By w' g D v vm vo L σ E:=by
 obtain⟨cells,hc⟩:=h.out
 have hk:∀b,g<b→D b→w'.heap[b]? =w.heap[b]? :=fun b h1 h2=>ht.block b (h.dl b h2) (hF b h1 h2 (h.dl b h2))
 exact⟨h.blk.tch ht hg,h.last,h.buf.Fg fun q e=>hk q (h.vq q e).1 (h.vT q e),h.mks.Fg fun q e=>hk q (h.mq q e).1 (h.mT q e),
  ⟨cells,hc.keep (fun b e=>hk b e.1 e.2.1) (fun q e=>hk q (h.oq q e).1 (h.oT q e))⟩,fun q e=>An (h.dl q e) ht.size,h.vT,h.mT,h.oT⟩
theorem By.later(h:By w g D v vm vo L σ E)(hb:Below w.heap.size w w'):By w' g D v vm vo L σ E:=h.side (Tch.AW (F:=fun _=>False) hb) (fun e=>e) fun _ _ _ _ e=>e
theorem By.up(h:By w g D v vm vo L σ E){D':Nat→Prop}(h1:∀q,D q→D' q)(h2:∀q,D' q→q<w.heap.size):By w g D' v vm vo L σ E:=by
 obtain⟨cells,hc⟩:=h.out
 exact⟨h.blk,h.last,h.buf,h.mks,⟨cells,hc.mono fun b e=>⟨e.1,h1 b e.2.1,e.2.2⟩⟩,h2,fun q e=>h1 q (h.vT q e),fun q e=>h1 q (h.mT q e),fun q e=>h1 q (h.oT q e)⟩
theorem By.gto(h:By w g D v vm vo L σ E)(ht:Tch (·=g) w w')(hb:Blk w' g 83 #[nxF τ.ph,v,.int .i64 (τ.first:Int),.int .i64 (τ.fed:Int),.int .i64 τ.ended,.int .u64 τ.ep,.int .u64 L.e,.int .u64 L.b,.slice L.a L.n L.c,vm,.int .u64 τ.want.ep,.int .i64 τ.want.n,.int .i64 τ.want.en,.int .u64 τ.want.first,.int .u64 τ.want.fin,.int .i64 τ.want.at_,.int .i64 τ.want.size,.int .i64 (τ.foot:Int),vo])(h1:τ.buf=σ.buf)(h2:τ.M=σ.M)(h3:τ.l=σ.l):By w' g D v vm vo L τ E:=by
 obtain⟨cells,hc⟩:=h.out
 have hk:∀b,g<b→D b→w'.heap[b]? =w.heap[b]? :=fun b hb hT=>ht.block b (h.dl b hT) zC
 refine⟨hb,by rw[h3];exact h.last,?_,?_,⟨cells,hc.keep (fun b e=>hk b e.1 e.2.1) (fun q e=>hk q (h.oq q e).1 (h.oT q e))⟩,fun q e=>An (h.dl q e) ht.size,h.vT,h.mT,h.oT⟩
 ·rw[h1]
  exact h.buf.Fg fun q e=>hk q (h.vq q e).1 (h.vT q e)
 ·rw[h2]
  exact h.mks.Fg fun q e=>hk q (h.mq q e).1 (h.mT q e)
theorem By.Oo(h:By w g D v vm vo L σ E)(i:Nat)(u:Value)(hb:Blk (w.setCell ⟨g,i,none⟩ u) g 83 #[nxF τ.ph,v,.int .i64 (τ.first:Int),.int .i64 (τ.fed:Int),.int .i64 τ.ended,.int .u64 τ.ep,.int .u64 L.e,.int .u64 L.b,.slice L.a L.n L.c,vm,.int .u64 τ.want.ep,.int .i64 τ.want.n,.int .i64 τ.want.en,.int .u64 τ.want.first,.int .u64 τ.want.fin,.int .i64 τ.want.at_,.int .i64 τ.want.size,.int .i64 (τ.foot:Int),vo])(h1:τ.buf=σ.buf)(h2:τ.M=σ.M)(h3:τ.l=σ.l):By (w.setCell ⟨g,i,none⟩ u) g D v vm vo L τ E:=
 h.gto ((Tch.refl (fun q=>q=g) w).setCell (p:=⟨g,i,none⟩) (fun _=>rfl) u) hb h1 h2 h3
theorem By.drop(h:By w g D v vm vo L σ E):By (w.setCell ⟨g,1,none⟩ (.slice none 0 0)) g D (.slice none 0 0) vm vo L {σ with buf:=[]} E:=by
 obtain⟨cells,hc⟩:=h.out
 have hk:∀b,g<b→(w.setCell ⟨g,1,none⟩ (.slice none 0 0)).heap[b]? =w.heap[b]? :=fun b hb=>At _ _ _ _ zH
 exact⟨by have:=h.blk.set 1 (.slice none 0 0);exact this,h.last,DF.nil,h.mks.Fg fun q e=>hk q (h.mq q e).1,⟨cells,(hc.keep (fun b e=>hk b e.1) (fun q e=>hk q (h.oq q e).1)).mono fun b e=>⟨e.1,e.2.1,(fun e2=>by cases e2),e.2.2.2⟩⟩,fun q e=>zAv,(fun q e=>ZO),h.mT,h.oT⟩
theorem By.AaI(h:By w g D v vm vo L σ E):By (w.setCell ⟨g,18,none⟩ (.slice none 0 0)) g D v vm (.slice none 0 0) L σ []:=by
 have hk:∀b,g<b→(w.setCell ⟨g,18,none⟩ (.slice none 0 0)).heap[b]? =w.heap[b]? :=fun b hb=>At _ _ _ _ zH
 exact⟨by have:=h.blk.set 18 (.slice none 0 0);exact this,h.last,h.buf.Fg fun q e=>hk q (h.vq q e).1,h.mks.Fg fun q e=>hk q (h.mq q e).1,⟨[],AY.nil⟩,fun q e=>zAv,h.vT,h.mT,(fun q e=>ZO)⟩
theorem By.put(h:By w g D v vm vo L σ E){x:UInt8}{v':Value}(hown:w'.ownsRow (g+1) 5 1 v' (σ.buf.length+1) (byteCells σ.buf++[.int .u8 (x.toNat:Int)]))(hgr:w.grownBy w' v.ownBlock)(hat:v'.ownBlock=v.ownBlock∨v'.ownBlock=some w.heap.size):
  By (w'.setCell ⟨g,1,none⟩ v') g (fun q=>D q∨(w.heap.size≤q∧q<w'.heap.size)) v' vm vo L {σ with buf:=σ.buf++[x]} E:=by
 obtain⟨cells,hc⟩:=h.out
 have hgs:=hgr.size
 have hk:∀b,g<b→D b→v.ownBlock≠some b→(w'.setCell ⟨g,1,none⟩ v').heap[b]? =w.heap[b]? :=fun b h1 h2 h3=>
  (At _ _ _ _ zH).trans (hgr.block b (h.dl b h2) (fun e=>h3 e.symm))
 have hb':DF w' (g+1) v' (σ.buf++[x]):=by
  unfold DF
  rw[Al]
  have:byteCells (σ.buf++[x])=byteCells σ.buf++[.int .u8 (x.toNat:Int)]:=ZS
  rw[this]
  exact hown
 have hn:∀b,D b→v.ownBlock≠some b→v'.ownBlock≠some b:=fun b h1 h2 e=>by
  rcases hat with e1 | e1
  ·exact h2 (e1 ▸ e)
  ·rw[e1] at e
   have:=AR e
   have:=h.dl b h1
   omega
 refine⟨?_,h.last,?_,?_,⟨cells,(hc.keep (fun b e=>hk b e.1 e.2.1 e.2.2.1) (fun q e=>hk q (h.oq q e).1 (h.oT q e) (fun e2=>h.Wg q e2 e))).mono fun b e=>⟨e.1,.inl e.2.1,hn b e.2.1 e.2.2.1,e.2.2.2⟩⟩,?_,?_,fun q e=> .inl (h.mT q e),fun q e=> .inl (h.oT q e)⟩
 ·have hgb:some g≠v.ownBlock:=fun e=>by have:=(h.vq g e.symm).1;omega
  have:=((h.blk.grown hgr hgb).set 1 v')
  exact this
 ·exact hb'.Fg fun q e=>At _ _ _ _ (by have:=(BP hb' q e).1;dsimp only;omega)
 ·exact h.mks.Fg fun q e=>hk q (h.mq q e).1 (h.mT q e) (fun e2=>h.YM q e2 e)
 ·intro q e
  have hz:(w'.setCell ⟨g,1,none⟩ v').heap.size=w'.heap.size:=zU
  rw[hz]
  rcases e with e | e
  ·exact An (h.dl q e) hgs
  ·exact e.2
 ·intro q e
  rcases hat with e1 | e1
  ·exact .inl (h.vT q (e1 ▸ e))
  ·have:=(BP hb' q e).2
   rw[e1] at e
   have:=AR e
   exact .inr ⟨zC,zC⟩
end
theorem Ys(W:World)(fn:Fn):(binOp BinOp.neq 78 (.func fn #[] #[]) .nilFunc).run Tryz.prog W=.ok (.bool true) W:=zJ
theorem Yr(W:World):(binOp BinOp.neq 78 .nilFunc .nilFunc).run Tryz.prog W=.ok (.bool false) W:=zJ
theorem Pj(w:World){fn:Fn}{e:Int}(h:Blk w g 83 #[.func fn #[] #[],x1,x2,x3,.int .i64 e,x5,x6,x7,x8,x9,x10,x11,x12,x13,x14,x15,x16,x17,x18]):
  Calls Tryz.prog 93 #[.pointer (some ⟨g,0,none⟩)] w fun r w'=>r=.returned (.bool (decide (e=0)))∧w=w':=by
 obtain⟨y0,y1,y2,y3,y4,y5,y6,y7,y8,y9,y10,y11,y12,y13,y14,y15,y16,y17,y18,ly⟩:=Bo h
 have hnf:=fun W:World=>Ys W fn
 clear h
 by_cases he:e=0
 ·subst he
  go_enter Tryz.func93,Tryz.ntmps93
  go_wp2_with fail
  go_ret
  exact⟨rfl,rfl⟩
 ·have d:(e==(0:Int))=false:=by simp[he]
  rw[Ae he]
  clear he
  go_enter Tryz.func93,Tryz.ntmps93
  go_wp2_with fail
  go_ret
  exact⟨rfl,rfl⟩
theorem NG(w:World)(h:Blk w g 83 #[.nilFunc,x1,x2,x3,x4,x5,x6,x7,x8,x9,x10,x11,x12,x13,x14,x15,x16,x17,x18]):
  Calls Tryz.prog 93 #[.pointer (some ⟨g,0,none⟩)] w fun r w'=>r=.returned (.bool false)∧w=w':=by
 obtain⟨y0,y1,y2,y3,y4,y5,y6,y7,y8,y9,y10,y11,y12,y13,y14,y15,y16,y17,y18,ly⟩:=Bo h
 have hnf:=Yr
 clear h
 go_enter Tryz.func93,Tryz.ntmps93
 go_wp2_with fail
 go_ret
 exact⟨rfl,rfl⟩
theorem TA(w:World):Calls Tryz.prog 93 #[.pointer none] w fun r w'=>r=.returned (.bool false)∧w=w':=by
 go_enter Tryz.func93,Tryz.ntmps93
 go_wp2_with fail
 go_ret
 exact⟨rfl,rfl⟩
theorem Xh(w:World){n:Int}(h:Blk w g 83 #[x0,x1,x2,.int .i64 n,x4,x5,x6,x7,x8,x9,x10,x11,x12,x13,x14,x15,x16,x17,x18]):Calls Tryz.prog 50 #[.pointer (some ⟨g,0,none⟩)] w fun r w'=>r=.returned (.int .i64 n)∧w=w':=by
 obtain⟨y0,y1,y2,y3,y4,y5,y6,y7,y8,y9,y10,y11,y12,y13,y14,y15,y16,y17,y18,ly⟩:=Bo h
 clear h
 go_enter Tryz.func50,Tryz.ntmps50
 go_wp2_with fail
 go_ret
 exact⟨rfl,rfl⟩
theorem VF(w:World):Calls Tryz.prog 50 #[.pointer none] w fun r w'=>r=.returned (.int .i64 0)∧w=w':=by
 go_enter Tryz.func50,Tryz.ntmps50
 go_wp2_with fail
 go_ret
 exact⟨rfl,rfl⟩
theorem Tz(w:World){n:Int}(h:Blk w g 83 #[x0,x1,x2,x3,.int .i64 n,x5,x6,x7,x8,x9,x10,x11,x12,x13,x14,x15,x16,x17,x18]):Calls Tryz.prog 49 #[.pointer (some ⟨g,0,none⟩)] w fun r w'=>r=.returned (.int .i64 n)∧w=w':=by
 obtain⟨y0,y1,y2,y3,y4,y5,y6,y7,y8,y9,y10,y11,y12,y13,y14,y15,y16,y17,y18,ly⟩:=Bo h
 clear h
 go_enter Tryz.func49,Tryz.ntmps49
 go_wp2_with fail
 go_ret
 exact⟨rfl,rfl⟩
theorem RE(w:World):Calls Tryz.prog 49 #[.pointer none] w fun r w'=>r=.returned (.int .i64 0)∧w=w':=by
 go_enter Tryz.func49,Tryz.ntmps49
 go_wp2_with fail
 go_ret
 exact⟨rfl,rfl⟩
theorem TG(w:World){n:Int}(h:Blk w g 83 #[x0,x1,x2,x3,x4,.int .u64 n,x6,x7,x8,x9,x10,x11,x12,x13,x14,x15,x16,x17,x18]):Calls Tryz.prog 52 #[.pointer (some ⟨g,0,none⟩)] w fun r w'=>r=.returned (.int .u64 n)∧w=w':=by
 obtain⟨y0,y1,y2,y3,y4,y5,y6,y7,y8,y9,y10,y11,y12,y13,y14,y15,y16,y17,y18,ly⟩:=Bo h
 clear h
 go_enter Tryz.func52,Tryz.ntmps52
 go_wp2_with fail
 go_ret
 exact⟨rfl,rfl⟩
theorem RM(w:World):Calls Tryz.prog 52 #[.pointer none] w fun r w'=>r=.returned (.int .u64 0)∧w=w':=by
 go_enter Tryz.func52,Tryz.ntmps52
 go_wp2_with fail
 go_ret
 exact⟨rfl,rfl⟩
theorem Ov(w:World){n:Nat}(h:Blk w g 83 #[x0,.slice a n c,x2,x3,x4,x5,x6,x7,x8,x9,x10,x11,x12,x13,x14,x15,x16,x17,x18]):Calls Tryz.prog 48 #[.pointer (some ⟨g,0,none⟩)] w fun r w'=>r=.returned (.int .i64 (n:Int))∧w=w':=by
 obtain⟨y0,y1,y2,y3,y4,y5,y6,y7,y8,y9,y10,y11,y12,y13,y14,y15,y16,y17,y18,ly⟩:=Bo h
 clear h
 go_enter Tryz.func48,Tryz.ntmps48
 go_wp2_with fail
 go_ret
 exact⟨rfl,rfl⟩
theorem NI(w:World):Calls Tryz.prog 48 #[.pointer none] w fun r w'=>r=.returned (.int .i64 0)∧w=w':=by
 go_enter Tryz.func48,Tryz.ntmps48
 go_wp2_with fail
 go_ret
 exact⟨rfl,rfl⟩
theorem Qa:FOk Db:=⟨rfl,zL,by simp[Db],by simp[Db],zL,zL,⟨zL,zL⟩,⟨zL,zL⟩⟩
theorem RI(w:World):Calls Tryz.prog 44 #[] w fun r w'=>r=.returned (.pointer (some ⟨w.heap.size,0,none⟩))∧By w' w.heap.size (fun _=>False) (.slice none 0 0) (.slice none 0 0) (.slice none 0 0) ⟨0,0,none,0,0⟩ Db []∧Below w.heap.size w w':=by
 go_enter Tryz.func44,Tryz.ntmps44
 go_wp2_with fail
 go_ret
 exact⟨rfl,⟨zD,(fun x e=>ZO),DF.nil,Dq.nil,⟨[],AY.nil⟩,(fun q e=>e.elim),(fun q e=>ZO),(fun q e=>ZO),(fun q e=>ZO)⟩,zA⟩
theorem RC(w:World){foot nb:Nat}{fed:Nat}{at_ size:Int}(h:Blk w g 83 #[x0,.slice a nb c,x2,.int .i64 (fed:Int),x4,x5,x6,x7,x8,x9,x10,x11,x12,x13,x14,.int .i64 at_,.int .i64 size,.int .i64 (foot:Int),x18])(h1:fed≤1000000000)(h2:foot≤1000000000)(h3:0≤at_∧at_≤1000000000)(h4:0≤size∧size≤1000000000):
  Calls Tryz.prog 95 #[.pointer (some ⟨g,0,none⟩)] w fun r w'=>r=.returned (.bool (decide (0<foot∧nb=0∧(fed:Int)=at_+size+foot+12)))∧Below w.heap.size w w':=by
 obtain⟨y0,y1,y2,y3,y4,y5,y6,y7,y8,y9,y10,y11,y12,y13,y14,y15,y16,y17,y18,ly⟩:=Bo h
 have Y1:=fun s:AM w=>s.cell y1
 have Y3:=fun s:AM w=>s.cell y3
 have Y15:=fun s:AM w=>s.cell y15
 have Y16:=fun s:AM w=>s.cell y16
 have Y17:=fun s:AM w=>s.cell y17
 have HS:=hid (fun W:World=>Jm W)
 clear h
 by_cases hf:0<foot
 ·have d1:decide ((0:Int)<(foot:Int))=true:=Ad zC
  have d1':decide (0<foot)=true:=Ad hf
  by_cases hn:nb=0
  ·subst hn
   have d2:(((0:Nat):Int)==(0:Int))=true:=rfl
   obtain⟨s1,hs1⟩:∃s1:Int,s1=at_+size:=⟨_,rfl⟩
   obtain⟨s2,hs2⟩:∃s2:Int,s2=s1+foot:=⟨_,rfl⟩
   obtain⟨s3,hs3⟩:∃s3:Int,s3=s2+12:=⟨_,rfl⟩
   have e:decide (0<foot∧0=0∧(fed:Int)=at_+size+foot+12)=((fed:Int)==s3):=by
    rw[←hs1,←hs2,←hs3,Bool.eq_iff_iff]
    simp only[Ao,beq_iff_eq]
    exact⟨fun h=>h.2.2,fun h=>⟨hf,trivial,h⟩⟩
   rw[e]
   have HS3:Hid (s3=at_+size+foot+12):=hid zC
   clear hs1 hs2 hs3
   clear e hf
   go_enter Tryz.func95,Tryz.ntmps95
   go_wp2_with fail
   refine Az zJ zJ ?_
   repeat (go_big_quiet_step (((go_at_call 156;exact GW (HS.out _)))))
   refine AT ?_
   rintro w2 ⟨⟨w2x,hb2⟩,rfl⟩
   go_wp2_with fail
   go_ret
   exact⟨by rw[HS3.out];rfl,hb2⟩
  ·have d2:((nb:Int)==(0:Int))=false:=by rw[BL];omega
   have d2':(nb==0)=false:=by rw[BL];omega
   rw[Ae (fun e=>hn e.2.1)]
   clear hf
   go_enter Tryz.func95,Tryz.ntmps95
   go_wp2_with fail
   refine Az zJ zJ ?_
   repeat (go_big_quiet_step (((go_at_call 156;exact GW (HS.out _)))))
   refine AT ?_
   rintro w2 ⟨⟨w2x,hb2⟩,rfl⟩
   go_wp2_with fail
   go_ret
   exact⟨rfl,hb2⟩
 ·have d1:decide ((0:Int)<(foot:Int))=false:=Ae zC
  have d1':decide (0<foot)=false:=Ae hf
  rw[Ae (fun e=>hf e.1)]
  clear hf
  go_enter Tryz.func95,Tryz.ntmps95
  go_wp2_with fail
  refine Az zJ zJ ?_
  repeat (go_big_quiet_step (((go_at_call 156;exact GW (HS.out _)))))
  refine AT ?_
  rintro w2 ⟨⟨w2x,hb2⟩,rfl⟩
  go_wp2_with fail
  go_ret
  exact⟨rfl,hb2⟩
theorem Qi(w:World){g:Nat}{B:List UInt8}{a:Option Addr}{s:Rs}(h:AS w g B a s)(hB:B.length≤1000000000):
  Calls Tryz.prog 187 #[.pointer (some ⟨g,0,none⟩)] w fun r w'=>r=.returned (.int .i64 ((s.A9 B).2:Int))∧AE w g B a (s.A9 B).1 w':=by
 have hlt:=h.blk.lt
 have hok:=h.ok
 have HAT:=hid (Cd w h)
 have HTK:=hid (KF w h 4 zL zC)
 unfold Rs.A9
 dsimp only
 have hok1:=Rs.Gf hok 4
 generalize s.take B 4=T at*
 obtain⟨s1,D⟩:=T
 dsimp only at*
 have HFM:=hid (fun (W:World) (hW:AS W g B a s1)=>Bx W hW 14 (s.p:Int) zL)
 obtain⟨M,hM⟩:∃M:Bool,M=decide (D=[84,72,79,76]):=⟨_,rfl⟩
 have hs2:(if D=[84,72,79,76] then s1 else s1.fail 14 s.p)=if M=true then s1 else s1.fail 14 s.p:=by
  rw[hM]
  simp only[Ao]
 rw[hs2]
 have hok2:(if M=true then s1 else s1.fail 14 s.p).ok B.length:=by
  split
  ·exact hok1
  ·exact Rs.Ck hok1 zL
 generalize hS2:(if M=true then s1 else s1.fail 14 s.p)=s2 at*
 have HB:=hid (fun (W:World) (hW:AS W g B a s2)=>KG W hW)
 have hok3:=Rs.Hp hok2
 generalize s2.byte B=U at*
 obtain⟨s3,y⟩:=U
 dsimp only at*
 have hy:=y.toNat_lt
 have HA3:=hid (fun (W:World) (hW:AS W g B a s3)=>Cd W hW)
 have HFV:=hid (fun (W:World) (hW:AS W g B a s3)=>Bx W hW 8 ((s3.p:Int)-1) zL)
 have hp3:=hok3.le
 generalize hs4:(if 1≤y.toNat∧y.toNat≤3 then s3 else s3.fail 8 ((s3.p:Int)-1))=s4 at*
 generalize y.toNat=v at*
 have HG:=hid (fun (W:World) (hW:AS W g B a s4)=>AK W hW)
 have HS2:=hid hS2
 have HS4:=hid hs4
 have HH:=hid h
 obtain⟨RV,hRV⟩:∃RV:Nat,RV=if s4.k=0 then v else 0:=⟨_,rfl⟩
 rw[←hRV]
 have HRV:=hid hRV
 have hdm:(M=true→D=[84,72,79,76])∧(M=false→(D==[84,72,79,76])=false):=by
  refine⟨fun e=>C8 (hM.symm.trans e),fun e=> ?_⟩
  rw[BL]
  exact GD (hM.symm.trans e)
 have HDM:=hid hdm
 clear h hok hok1 hok2 hok3 hS2 hs4 hs2 hRV hdm hM
 go_enter Tryz.func187,Tryz.ntmps187
 go_wp2_with fail
 refine HAT.out.mono ?_
 rintro r w0 ⟨rfl,rfl⟩
 go_wp2_with fail
 refine HTK.out.mono ?_
 rintro r w1 ⟨vv,rfl,hr1,hst1⟩
 obtain⟨a1,c1,hfv,hr1',_⟩:=AH hr1
 simp only[Av,AI] at hfv
 subst hfv
 have kc:=fun (W:World) (hW:Am.r (fun q=>w.heap.size≤q∧q<w1.heap.size) W [.slice a1 D.length c1] D)=>LQ (P:=Tryz.prog) 22 9 5 AJ Tryz.underlying5 Tryz.underlying9 hW
 have kd:=kc w1 hr1'
 have HST1:=hid hst1
 clear hr1 hr1' hst1 kc
 go_upto_if 10 with (fail)
 go_cut [] from 10 to 13 (fun V=>Hid (AE w g B a s2 V))
 case first=>
  cases M
  ·have hne0:=HDM.out.2 rfl
   have hne:(!(D==[84,72,79,76]))=true:=by rw[hne0];rfl
   clear hne0
   have hs2:=HS2.out
   simp only[Bool.false_eq_true,if_false] at hs2
   rw[hs2] at HFM
   go_wp2_with fail
   case false=>exact absurd (hne.symm.trans zK) zL
   refine (HFM.out _ HST1.out.1).mono ?_
   rintro r w2 ⟨rfl,hst2⟩
   have HST2:=hid (AE.trans HST1.out.2 hst2)
   go_wp2_with fail
   go_meet
   case rel=>exact HST2
  ·have he:=HDM.out.1 rfl
   subst he
   have hs2:=HS2.out
   simp only[IL] at hs2
   go_wp2_with fail
   go_meet
   case rel=>exact hid (by rw[←hs2];exact HST1.out)
 case rest=>
  have HST2:=hcut
  go_wp2_with fail
  refine (HB.out _ HST2.out.1).mono ?_
  rintro r w3 ⟨rfl,hst3⟩
  have HST3:=hid (AE.trans HST2.out.2 hst3)
  clear hst3
  by_cases hv:1≤v∧v≤3
  ·have d1:decide ((v:Int)<1)=false:=Ae zC
   have d2:decide ((3:Int)<(v:Int))=false:=Ae zC
   have hs4:=HS4.out
   rw[Ag hv] at hs4
   replace HST3:Hid (AE w g B a s4 w3):=hid (hs4 ▸ HST3.out)
   have hrv:=HRV.out
   by_cases hk:s4.k=0
   ·rw[Ag hk] at hrv
    rw[Ad hk] at HG
    subst hrv
    clear hk
    go_wp2_with fail
    refine (HG.out _ HST3.out.1).mono ?_
    rintro r w9 ⟨rfl,hb9⟩
    have HE:=hid (HST3.out.then hb9)
    go_wp2_with fail
    go_ret
    exact⟨rfl,HE.out⟩
   ·rw[Ai hk] at hrv
    rw[Ae hk] at HG
    subst hrv
    clear hk
    go_wp2_with fail
    refine (HG.out _ HST3.out.1).mono ?_
    rintro r w9 ⟨rfl,hb9⟩
    have HE:=hid (HST3.out.then hb9)
    go_wp2_with fail
    go_ret
    exact⟨rfl,HE.out⟩
  ·have hs4:=HS4.out
   rw[Ai hv] at hs4
   rw[hs4] at HFV
   rcases Bl v 1 with h0 | h0
   ·have d1:decide ((v:Int)<1)=true:=Ad zC
    clear hv hs4
    go_wp2_with fail
    refine (HA3.out _ HST3.out.1).mono ?_
    rintro r w3' ⟨rfl,rfl⟩
    go_wp2_with fail
    refine (HFV.out _ HST3.out.1).mono ?_
    rintro r w4 ⟨rfl,hst4⟩
    replace HST3:=hid (AE.trans HST3.out.2 hst4)
    clear hst4
    have hrv:=HRV.out
    by_cases hk:s4.k=0
    ·rw[Ag hk] at hrv
     rw[Ad hk] at HG
     subst hrv
     clear hk
     go_wp2_with fail
     refine (HG.out _ HST3.out.1).mono ?_
     rintro r w9 ⟨rfl,hb9⟩
     have HE:=hid (HST3.out.then hb9)
     go_wp2_with fail
     go_ret
     exact⟨rfl,HE.out⟩
    ·rw[Ai hk] at hrv
     rw[Ae hk] at HG
     subst hrv
     clear hk
     go_wp2_with fail
     refine (HG.out _ HST3.out.1).mono ?_
     rintro r w9 ⟨rfl,hb9⟩
     have HE:=hid (HST3.out.then hb9)
     go_wp2_with fail
     go_ret
     exact⟨rfl,HE.out⟩
   ·have d1:decide ((v:Int)<1)=false:=Ae zC
    have d2:decide ((3:Int)<(v:Int))=true:=Ad zC
    clear hv hs4
    go_wp2_with fail
    refine (HA3.out _ HST3.out.1).mono ?_
    rintro r w3' ⟨rfl,rfl⟩
    go_wp2_with fail
    refine (HFV.out _ HST3.out.1).mono ?_
    rintro r w4 ⟨rfl,hst4⟩
    replace HST3:=hid (AE.trans HST3.out.2 hst4)
    clear hst4
    have hrv:=HRV.out
    by_cases hk:s4.k=0
    ·rw[Ag hk] at hrv
     rw[Ad hk] at HG
     subst hrv
     clear hk
     go_wp2_with fail
     refine (HG.out _ HST3.out.1).mono ?_
     rintro r w9 ⟨rfl,hb9⟩
     have HE:=hid (HST3.out.then hb9)
     go_wp2_with fail
     go_ret
     exact⟨rfl,HE.out⟩
    ·rw[Ai hk] at hrv
     rw[Ae hk] at HG
     subst hrv
     clear hk
     go_wp2_with fail
     refine (HG.out _ HST3.out.1).mono ?_
     rintro r w9 ⟨rfl,hb9⟩
     have HE:=hid (HST3.out.then hb9)
     go_wp2_with fail
     go_ret
     exact⟨rfl,HE.out⟩
theorem Rs.Vq{B:List UInt8}{s e1 b1:Rs}{v e b:Nat}(hs:s.ok B.length)(hE:(s.A9 B).1.ep B=(e1,e))(hv:(s.A9 B).2=v)(hb:(if v=1 then e1.po B else (e1,0))=(b1,b))(hk:(b1.take B 4).1.k=0):
  (1≤v∧v≤3)∧epR (e:Int)=true∧poR (b:Int)=true:=by
 have ok1:=Rs.Lf hs
 have ok2:=Rs.TO (B:=B) ok1
 have cB:=Rs.Mr (B:=B) hs
 have cE:=Rs.NN (B:=B) ok1
 rw[hE] at cE ok2
 rw[hv] at cB
 dsimp only at*
 have h0:=(Rs.EL hk).2.1
 have hP:poR (b:Int)=true∧e1.k=0:=by
  by_cases h1:v=1
  ·rw[Ag h1] at hb
   have cp:=Rs.Na (B:=B) ok2
   rw[hb] at cp
   obtain⟨p1,p2,p3⟩:=cp h0
   exact⟨p1,p3⟩
  ·rw[Ai h1] at hb
   obtain⟨rfl,rfl⟩:=Prod.mk.inj hb
   exact⟨by simp[poR],h0⟩
 obtain⟨e2,e3,e4⟩:=cE hP.2
 exact⟨(cB e4).1,e2,hP.1⟩
structure JC(w:World)(g:Nat)(B:List UInt8)(a:Option Addr)(s:Rs)(gh:Nat)(v e b:Nat)(W:World):Prop where
 inv:CS w W g B a s
 mb:Blk W w.heap.size 167 #[.int .i64 0,.int .u64 0,.int .u64 0]
 hb:Blk W gh 167 #[.int .i64 (v:Int),.int .u64 (e:Int),.int .u64 (b:Int)]
 gm:w.heap.size<gh
section
variable {w W W':World} {g gh:Nat} {B:List UInt8} {a:Option Addr} {s s':Rs} {v e b:Nat}
theorem JC.step(h:JC w g B a s gh v e b W)(k:AE W g B a s' W'):JC w g B a s' gh v e b W':=by
 have h1:=h.inv.lt
 have h2:=h.gm
 exact⟨h.inv.step k,h.mb.tch k.2 zC,h.hb.tch k.2 zC,h2⟩
theorem JC.later(h:JC w g B a s gh v e b W)(hb:Below W.heap.size W W'):JC w g B a s gh v e b W':=
 ⟨h.inv.row (hb.mono h.inv.tch.size),h.mb.later hb,h.hb.later hb,h.gm⟩
theorem JC.set(h:JC w g B a s gh v e b W)(i:Nat)(u:Value){v' e' b':Nat}(hb:Blk (W.setCell ⟨gh,i,none⟩ u) gh 167 #[.int .i64 (v':Int),.int .u64 (e':Int),.int .u64 (b':Int)]):JC w g B a s gh v' e' b' (W.setCell ⟨gh,i,none⟩ u):=by
 have h2:=h.gm
 exact⟨h.inv.row (Below.setCell (Below.refl _ _) zH _),h.mb.far zH _,hb,h2⟩
theorem JC.AaX(h:JC w g B a s gh v e b W)(e':Nat):JC w g B a s gh v e' b (W.setCell ⟨gh,1,none⟩ (.int .u64 (e':Int))):=h.set 1 _ (h.hb.set 1 _)
theorem JC.AaW(h:JC w g B a s gh v e b W)(b':Nat):JC w g B a s gh v e b' (W.setCell ⟨gh,2,none⟩ (.int .u64 (b':Int))):=h.set 2 _ (h.hb.set 2 _)
theorem KV(h:Blk w g t #[v0,v1,v2]):w.cell? ⟨g,0,none⟩=some v0∧w.cell? ⟨g,1,none⟩=some v1∧w.cell? ⟨g,2,none⟩=some v2∧w.frozen? ⟨g,0,none⟩=false∧w.frozen? ⟨g,1,none⟩=false∧w.frozen? ⟨g,2,none⟩=false∧g<w.heap.size:=
 ⟨h.cell 0,h.cell 1,h.cell 2,h.free 0,h.free 1,h.free 2,h.lt⟩
end
theorem Rx(w:World){B:List UInt8}{s:Rs}(h:AS w g B a s)(hB:B.length≤1000000000):
  Calls Tryz.prog 123 #[.pointer (some ⟨g,0,none⟩)] w fun r w'=>r=.returned (.agg #[.int .i64 ((s.hdr B).2.1:Int),.int .u64 ((s.hdr B).2.2.1:Int),.int .u64 ((s.hdr B).2.2.2:Int)])∧AE w g B a (s.hdr B).1 w':=by
 have hlt:=h.blk.lt
 have hok:=h.ok
 have HP0:=@Rs.Vq B s
 have HIN:=hid (CS.refl h)
 have HBG:=hid (fun (W:World) (hW:AS W g B a s)=>Qi W hW hB)
 unfold Rs.hdr
 dsimp only
 generalize hbg:s.A9 B=V at*
 obtain⟨s1,v⟩:=V
 dsimp only at*
 have HEP:=hid (fun (W:World) (hW:AS W g B a s1)=>Kp W hW hB)
 have hvu:v≤255∧s1.ok B.length:=by
  have h1:=Rs.Lf hok
  rw[hbg] at h1
  refine⟨?_,h1⟩
  unfold Rs.A9 at hbg
  dsimp only at hbg
  generalize (if (s.take B 4).2=[84,72,79,76] then (s.take B 4).1 else (s.take B 4).1.fail 14 s.p).byte B=Q at hbg
  have hq:=Q.2.toNat_lt
  have h9:∀q:Rs,(if q.k=0 then Q.2.toNat else 0)≤255:=fun q=>by split<;>omega
  rw[←(Prod.mk.inj hbg).2]
  exact h9 _
 have heu:inU ((s1.ep B).2:Int):=Rs.AaO
 generalize hep:s1.ep B=E at*
 obtain⟨s2,e⟩:=E
 dsimp only at*
 have HPO:=hid (fun (W:World) (hW:AS W g B a s2)=>JZ W hW hB)
 generalize hbb:(if v=1 then s2.po B else (s2,0))=BB at*
 obtain⟨s3,b⟩:=BB
 dsimp only at*
 have HBB:=hid hbb
 have HAT:=hid (fun (W:World) (hW:AS W g B a s3)=>Cd W hW)
 have HFX:=hid (fun (W:World) (hW:AS W g B a s3)=>(by have:=Jv W hW hB 4 zC;exact this:Calls Tryz.prog 191 #[.pointer (some ⟨g,0,none⟩),.int .i64 4] W fun r w'=>r=.returned (.int .u64 ((EC (s3.take B 4).2:Nat):Int))∧AE W g B a (s3.take B 4).1 w'))
 have HPT:=fun hk=>HP0 hok rfl rfl hbb hk
 have hx:EC (s3.take B 4).2<18446744073709551616:=by
  have h1:=Qq (s3.take B 4).2
  have h2:=Rs.take_len (B:=B) (s:=s3) (n:=4)
  exact An h1 (Bb (Nat.pow_le_pow_right zL (show _≤8 by omega)) zL)
 generalize s3.take B 4=T at*
 obtain⟨s4,F⟩:=T
 dsimp only at*
 generalize EC F=x at*
 have HGD:=hid (fun (W:World) (hW:AS W g B a s4)=>AK W hW)
 have HFL:=hid (fun (W:World) (hW:AS W g B a s4)=>Bx W hW 6 (s3.p:Int) zL)
 have HCR:=hid (fun (W:World) (ap:Option Addr) (cp:Nat) (hD:Am.r (·<W.heap.size) W [.slice ap (CR v e b).length cp] (CR v e b))=>Lc (CR v e b) ap _ cp W hD)
 have hq:=Gd (CR v e b)
 generalize Cc (CR v e b)=q at*
 obtain⟨R,hR⟩:∃R:Rs × Nat × Nat × Nat,R=(if s4.k=0 then (if x=q then (s4,v,e,b) else (s4.fail 6 s3.p,0,0,0)) else (s4,0,0,0)):=⟨_,rfl⟩
 rw[←hR]
 have HRR:=hid hR
 clear h hbg hep hbb hok HP0 hR
 go_enter Tryz.func123,Tryz.ntmps123
 go_wp2_with fail
 have hI0:CS w (w.alloc (.cells #[.int .i64 0,.int .u64 0,.int .u64 0] 167)) g B a s:=HIN.out.row zA
 have hM0:Blk (w.alloc (.cells #[.int .i64 0,.int .u64 0,.int .u64 0] 167)) w.heap.size 167 #[.int .i64 0,.int .u64 0,.int .u64 0]:=Blk.new _ _ _
 refine (HBG.out _ hI0.rd).mono ?_
 rintro r w1 ⟨rfl,hst1⟩
 have hI2:=(hI0.step hst1).row (show Below w.heap.size w1 (w1.alloc (.cells #[.int .i64 (v:Int),.int .u64 0,.int .u64 0] 167)) from (Below.refl _ _).alloc (by have:=hst1.size;simp at this;omega) _)
 have hgm:w.heap.size<w1.heap.size:=by have:=hst1.size;simp at this;omega
 have HI2:Hid (JC w g B a s1 w1.heap.size v 0 0 (w1.alloc (.cells #[.int .i64 (v:Int),.int .u64 0,.int .u64 0] 167))):=hid ⟨hI2,(hM0.tch hst1.2 zC).alloc _,Blk.new _ _ _,hgm⟩
 clear hI0 hM0 hst1 hI2
 go_upto_region 2 with (fail)
 generalize hgh:w1.heap.size=gh at*
 generalize (w1.alloc (.cells #[.int .i64 (v:Int),.int .u64 0,.int .u64 0] 167))=w2 at*
 go_wp2_with fail
 refine (HEP.out _ HI2.out.inv.rd).mono ?_
 rintro r w3 ⟨rfl,hst3⟩
 have HI3:=hid (HI2.out.step hst3)
 obtain⟨y0,y1,y2,z0,z1,z2,ly⟩:=KV HI3.out.hb
 clear hst3 HI2 hgh
 go_upto_region 3 with (fail)
 have HI4:=hid (HI3.out.AaX e)
 generalize w3.setCell ⟨gh,1,none⟩ (.int .u64 (e:Int))=w4 at*
 clear y0 y1 y2 z0 z1 z2 ly HI3
 obtain⟨y0,y1,y2,z0,z1,z2,ly⟩:=KV HI4.out.hb
 obtain⟨EB,hEB⟩:∃EB,EB=decide ((v:Int)=1):=⟨_,rfl⟩
 have HBS:=hid (fun (W:World)=>IC (v:Int) W)
 rw[←hEB] at HBS
 have HEB:=hid hEB
 clear hEB
 go_wp2_with fail
 refine (HBS.out _).mono ?_
 rintro r w5 ⟨rfl,rfl⟩
 go_upto_if 14 with (fail)
 go_cut [] from 15 to 17 (fun V=>Hid (JC w g B a s3 gh v e b V))
 case first=>
  cases EB
  ·have hv:¬v=1:=fun h=>by
    have:=GD HEB.out.symm
    omega
   have hbb:=HBB.out
   rw[Ai hv] at hbb
   obtain⟨rfl,rfl⟩:=Prod.mk.inj hbb
   clear hv hbb
   go_wp2_with fail
   go_meet
   case rel=>exact HI4
  ·have hv:v=1:=by
    have:=C8 HEB.out.symm
    omega
   have hbb:=HBB.out
   rw[Ag hv] at hbb
   rw[hbb] at HPO
   clear hv hbb
   go_wp2_with fail
   refine (HPO.out _ HI4.out.inv.rd).mono ?_
   rintro r w6 ⟨rfl,hst6⟩
   have HI6:=hid (HI4.out.step hst6)
   clear y0 y1 y2 z0 z1 z2 ly
   obtain⟨y0,y1,y2,z0,z1,z2,ly⟩:=KV HI6.out.hb
   have HI7:=hid (HI6.out.AaW b)
   go_wp2_with fail
   go_meet
   case rel=>exact HI7
 case rest=>
  have HI5:=hcut
  clear y0 y1 y2 z0 z1 z2 ly HI4
  go_wp2_with fail
  refine (HAT.out _ HI5.out.inv.rd).mono ?_
  rintro r w6 ⟨rfl,rfl⟩
  go_wp2_with fail
  refine (HFX.out _ HI5.out.inv.rd).mono ?_
  rintro r w7 ⟨rfl,hst7⟩
  have HI7:=hid (HI5.out.step hst7)
  clear hst7 HI5
  by_cases hk:s4.k=0
  ·obtain⟨p1,p2,p3⟩:=HPT hk
   have HPL:=hid (fun (W:World)=>KT v p1 e b p2 p3 W)
   have hr:=HRR.out
   rw[Ag hk] at hr
   rw[Ad hk] at HGD
   clear hk HPT p2 p3
   obtain⟨y0,y1,y2,z0,z1,z2,ly⟩:=KV HI7.out.hb
   go_wp2_with fail
   refine (HGD.out _ HI7.out.inv.rd).mono ?_
   rintro r w8 ⟨rfl,hb8⟩
   have HI8:=hid (HI7.out.later hb8)
   clear y0 y1 y2 z0 z1 z2 ly hb8 HI7
   obtain⟨y0,y1,y2,z0,z1,z2,ly⟩:=KV HI8.out.hb
   go_wp2_with fail
   refine (HPL.out _).mono ?_
   rintro r w9 ⟨vp,rfl,hrp,hb9⟩
   obtain⟨ap,cp,hfv,hrp',_⟩:=AH hrp
   simp only[Av,AI] at hfv
   subst hfv
   have HC:=hid (HCR.out w9 ap cp (Am.mono hrp' fun q hq=>hq.2))
   have HI9:=hid (HI8.out.later hb9)
   clear hrp hrp' hb9 y0 y1 y2 z0 z1 z2 ly HI8 HPL
   by_cases hqx:x=q
   ·rw[Ag hqx] at hr
    subst hr
    subst hqx
    have d1:((x:Int) !=(x:Int))=false:=zM
    go_wp2_with fail
    refine HC.out.mono ?_
    rintro r w10 ⟨rfl,hb10⟩
    have HI10:=hid (HI9.out.later hb10)
    obtain⟨y0,y1,y2,z0,z1,z2,ly⟩:=KV HI10.out.hb
    obtain⟨m0,m1,m2,f0,f1,f2,lm⟩:=KV HI10.out.mb
    have hgm2:=HI10.out.gm
    have hgl2:=HI10.out.inv.lt
    have HE:=hid (HI10.out.inv.row (show Below w.heap.size w10 (((w10.setCell ⟨w.heap.size,0,none⟩ (.int .i64 (v:Int))).setCell ⟨w.heap.size,1,none⟩ (.int .u64 (e:Int))).setCell ⟨w.heap.size,2,none⟩ (.int .u64 (b:Int))) by (repeat (first | with_reducible exact Below.refl _ _ | with_reducible assumption | (with_reducible refine Aw ?_ _) | (with_reducible refine Below.setCell ?_ zE _) | (with_reducible refine Below.drew ?_) | (with_reducible refine below_drewN ?_ _) | (refine Aj zG ?_)))))
    go_wp2_with fail
    refine Ax (v:=.agg #[.int .i64 (v:Int),.int .u64 (e:Int),.int .u64 (b:Int)]) Z5 rfl ⟨rfl,HE.out.to⟩
   ·rw[Ai hqx] at hr
    subst hr
    have d1:((x:Int) !=(q:Int))=true:=zI
    go_wp2_with fail
    refine HC.out.mono ?_
    rintro r w10 ⟨rfl,hb10⟩
    have HI10:=hid (HI9.out.later hb10)
    go_wp2_with fail
    refine (HFL.out _ HI10.out.inv.rd).mono ?_
    rintro r w11 ⟨rfl,hst11⟩
    have HI11:=hid (HI10.out.step hst11)
    obtain⟨m0,m1,m2,f0,f1,f2,lm⟩:=KV HI11.out.mb
    have hgl2:=HI11.out.inv.lt
    have HE:=hid (HI11.out.inv.row (show Below w.heap.size w11 (((w11.setCell ⟨w.heap.size,0,none⟩ (.int .i64 0)).setCell ⟨w.heap.size,1,none⟩ (.int .u64 0)).setCell ⟨w.heap.size,2,none⟩ (.int .u64 0)) by (repeat (first | with_reducible exact Below.refl _ _ | with_reducible assumption | (with_reducible refine Aw ?_ _) | (with_reducible refine Below.setCell ?_ zE _) | (with_reducible refine Below.drew ?_) | (with_reducible refine below_drewN ?_ _) | (refine Aj zG ?_)))))
    go_wp2_with fail
    refine Ax (v:=.agg #[.int .i64 0,.int .u64 0,.int .u64 0]) Z5 rfl ⟨rfl,HE.out.to⟩
  ·have hr:=HRR.out
   rw[Ai hk] at hr
   subst hr
   rw[Ae hk] at HGD
   clear hk HPT
   go_wp2_with fail
   refine (HGD.out _ HI7.out.inv.rd).mono ?_
   rintro r w8 ⟨rfl,hb8⟩
   have HI8:=hid (HI7.out.later hb8)
   obtain⟨m0,m1,m2,f0,f1,f2,lm⟩:=KV HI8.out.mb
   have hgl2:=HI8.out.inv.lt
   have HE:=hid (HI8.out.inv.row (show Below w.heap.size w8 (((w8.setCell ⟨w.heap.size,0,none⟩ (.int .i64 0)).setCell ⟨w.heap.size,1,none⟩ (.int .u64 0)).setCell ⟨w.heap.size,2,none⟩ (.int .u64 0)) by (repeat (first | with_reducible exact Below.refl _ _ | with_reducible assumption | (with_reducible refine Aw ?_ _) | (with_reducible refine Below.setCell ?_ zE _) | (with_reducible refine Below.drew ?_) | (with_reducible refine below_drewN ?_ _) | (refine Aj zG ?_)))))
   go_wp2_with fail
   refine Ax (v:=.agg #[.int .i64 0,.int .u64 0,.int .u64 0]) Z5 rfl ⟨rfl,HE.out.to⟩
theorem Xe{x:Nat}{c a pos at_:Int}(hp:0≤pos)(h:4611686018427387904≤x):Dh ⟨pos+(x:Int),c,a⟩ pos at_=false:=by
 rcases h2:Dh ⟨pos+(x:Int),c,a⟩ pos at_ with _ | _
 ·rfl
 ·have:=(D4 h2).2.2.2.1
  dsimp only at this
  omega
structure Sv(w:World)(g:Nat)(B:List UInt8)(a:Option Addr)(s:Rs)(v:Value)(M:List AP)(W:World):Prop where
 inv:CS w W g B a s
 own:A8 w.heap.size JQ w.heap.size 88 3 W v M
section
variable {w W W':World} {g:Nat} {B:List UInt8} {a:Option Addr} {s s':Rs} {v v':Value} {M:List AP}
theorem Sv.step(h:Sv w g B a s v M W)(k:AE W g B a s' W'):Sv w g B a s' v M W':=
 ⟨h.inv.step k,A8.UR h.own (k.2.mono fun b _ e=> .inl e) h.inv.lt⟩
theorem Sv.later(h:Sv w g B a s v M W)(hb:Below W.heap.size W W'):Sv w g B a s v M W':=
 ⟨h.inv.row (hb.mono h.inv.tch.size),h.own.below hb⟩
end
theorem E5(h:Blk w g t #[v0,v1,v2]):w.cell? ⟨g,0,none⟩=some v0∧w.cell? ⟨g,1,none⟩=some v1∧w.cell? ⟨g,2,none⟩=some v2∧g<w.heap.size:=
 ⟨h.cell 0,h.cell 1,h.cell 2,h.lt⟩
theorem S8{m:AP}:∀u∈[(.int .u64 m.pos:Value),.int .i64 m.count,.int .i64 m.at_],u.oneCell'=true:=by
 intro u hu
 simp at hu
 rcases hu with rfl | rfl | rfl<;>rfl
theorem Tp(w:World){g:Nat}{B:List UInt8}{a:Option Addr}{s:Rs}(h:AS w g B a s)(hB:B.length≤1000000000):
  Calls Tryz.prog 263 #[.pointer (some ⟨g,0,none⟩)] w fun r w'=>∃v,r=.returned v∧Bw.r (fun q=>w.heap.size≤q∧q<w'.heap.size) w' [v] (s.Cr B).2∧AE w g B a (s.Cr B).1 w':=by
 obtain⟨j0,hj,hy0,hy1,hy2⟩:=A5 Ns
 have HIN:=hid (CS.refl h)
 have HN0:=hid (CE w h zC 16 zL)
 have hn16:=Rs.E6 (B:=B) (s:=s) (m:=16)
 unfold Rs.Cr
 generalize s.int B 16=T0 at*
 obtain⟨s0,n⟩:=T0
 dsimp only at*
 obtain⟨RES,hRES⟩:∃RES,RES=Rs.F9 B n s0 0 0 []:=⟨_,rfl⟩
 rw[←hRES]
 have HR0:=hid hRES.symm
 obtain⟨sF,MF⟩:=RES
 have hn16':n≤16:=zC
 clear h hRES
 dsimp only
 go_enter Tryz.func263,Tryz.ntmps263
 go_wp2_with fail
 refine HN0.out.mono ?_
 rintro r w1 ⟨rfl,hst1⟩
 have HI1:Hid (Sv w g B a s0 (.slice none 0 0) [] w1):=hid ⟨HIN.out.step hst1,A8.nil⟩
 clear hst1 HIN HN0
 go_wp2_with fail
 go_loopw [3,4,5,12] (fun v p at_ i wr=>∃(k:Nat) (t:Rs) (M:List AP) (pos b:Int),k≤n∧i=.int .i64 k∧p=.int .u64 pos∧at_=.int .i64 b∧Hid (M.length=k)∧(0≤pos∧pos≤4611686018427387904)∧(0≤b∧b≤1099511627775)∧Sv w g B a t v M wr∧Hid (Rs.F9 B (n-k) t pos b M=(sF,MF))) (fun _ _ _ i _=>n-(intOf i).toNat)
 case atStart=>exact ⟨0,s0,[],0,0,Ar _,rfl,rfl,rfl,hid rfl,⟨zL,zL⟩,⟨zL,zL⟩,HI1.out,hid (by rw[Nat.sub_zero];exact HR0.out)⟩
 case round=>
  obtain⟨k,t,M,pos,b,hk,rfl,rfl,rfl,hMk,hpos,hbb,hI,hsp⟩:=hrel
  obtain⟨cells0,hca⟩:=hI.own
  obtain⟨aM,cM,rfl⟩:=AV hca.1
  have HI:=hid hI
  have hML:M.length≤16:=by have:=hMk.out;omega
  clear hca hI
  by_cases hlt:k<n
  ·have i1:(k:Int)<(n:Int):=by omega
   have d1:decide ((k:Int)<(n:Int))=true:=Ad i1
   obtain⟨mm,hmm⟩:∃mm,n-k=mm+1:=⟨n-k-1,zC⟩
   have hst:=hsp.out
   rw[hmm,Rs.Hh] at hst
   have HAT:=hid (fun (W:World) (hW:AS W g B a t)=>Cd W hW)
   have HX:=hid (fun (W:World) (hW:AS W g B a t)=>CW W hW zC)
   have hxu:=Rs.ET (B:=B) (s:=t)
   have hfar:=@Xe (t.num B).2
   generalize t.num B=X at*
   obtain⟨t1,x⟩:=X
   dsimp only at*
   have HC:=hid (fun (W:World) (hW:AS W g B a t1)=>CE W hW zC 16 zL)
   have hcu:=Rs.E6 (B:=B) (s:=t1) (m:=16)
   generalize t1.int B 16=C at*
   obtain⟨t2,c⟩:=C
   dsimp only at*
   have HO:=hid (fun (W:World) (hW:AS W g B a t2)=>CE W hW zC 1099511627775 zL)
   have hou:=Rs.E6 (B:=B) (s:=t2) (m:=1099511627775)
   generalize t2.int B 1099511627775=O at*
   obtain⟨t3,o⟩:=O
   dsimp only at*
   have hcu':c≤16:=zC
   have hou':o≤1099511627775:=zC
   clear hcu hou
   replace hfar:=@hfar (c:Int) (b+1+(o:Int)) pos b hpos.1
   obtain⟨y,hy⟩:∃y,IntKind.u64.wrap (pos+(x:Int))=y:=⟨_,rfl⟩
   have hyu:=MM (pos+(x:Int))
   rw[hy] at hyu
   have hyx:x<4611686018427387904→y=pos+(x:Int):=fun h=>by
    rw[←hy,IntKind.wrap_u64,Int.emod_eq_of_lt zC zC]
   have HY:=hid hy
   have HFI:=hid (fun (W:World)=>(by have:=Nt ⟨y,(c:Int),b+1+(o:Int)⟩ ⟨hyu,⟨zH,zH⟩,⟨zH,zH⟩⟩ pos b W;exact this:Calls Tryz.prog 325 #[.agg #[.int .u64 y,.int .i64 (c:Int),.int .i64 (b+1+(o:Int))],.int .u64 pos,.int .i64 b] W fun r w'=>r=.returned (.bool (Dh ⟨y,(c:Int),b+1+(o:Int)⟩ pos b))∧Below W.heap.size W w'))
   have HFL:=hid (fun (W:World) (hW:AS W g B a t3)=>Bx W hW 3 (t.p:Int) zL)
   have hHF:=@D4 ⟨pos+(x:Int),(c:Int),b+1+(o:Int)⟩ pos b
   have HST:=hid hst
   clear hy hst hsp
   go_wp2_with fail
   refine (HAT.out _ HI.out.inv.rd).mono ?_
   rintro r w2 ⟨rfl,rfl⟩
   go_wp2_with fail
   refine (HX.out _ HI.out.inv.rd).mono ?_
   rintro r w3 ⟨rfl,hst3⟩
   have HI3:=hid (HI.out.step hst3)
   clear hst3 HI
   go_wp2_with fail
   refine (HC.out _ HI3.out.inv.rd).mono ?_
   rintro r w4 ⟨rfl,hst4⟩
   have HI4:=hid (HI3.out.step hst4)
   clear hst4 HI3
   go_wp2_with fail
   refine (HO.out _ HI4.out.inv.rd).mono ?_
   rintro r w5 ⟨rfl,hst5⟩
   have HI5:=hid (HI4.out.step hst5)
   clear hst5 HI4
   go_upto_region 10 with (fail)
   (try rw[HY.out])
   have HI6:=hid (HI5.out.later (show Below w5.heap.size w5 (w5.alloc (.cells #[.int .u64 y,.int .i64 (c:Int),.int .i64 (b+1+(o:Int))] 88)) by (repeat (first | with_reducible exact Below.refl _ _ | with_reducible assumption | (with_reducible refine Aw ?_ _) | (with_reducible refine Below.setCell ?_ zE _) | (with_reducible refine Below.drew ?_) | (with_reducible refine below_drewN ?_ _) | (refine Aj zG ?_)))))
   have HB6:Hid (Blk (w5.alloc (.cells #[.int .u64 y,.int .i64 (c:Int),.int .i64 (b+1+(o:Int))] 88)) w5.heap.size 88 #[.int .u64 y,.int .i64 (c:Int),.int .i64 (b+1+(o:Int))]):=hid (Blk.new _ _ _)
   generalize (w5.alloc (.cells #[.int .u64 y,.int .i64 (c:Int),.int .i64 (b+1+(o:Int))] 88))=w6 at*
   have hOw:Hid (∀q,(Value.slice aM M.length cM).ownBlock=some q→q<w5.heap.size):=hid fun q e=>by
    obtain⟨_,h⟩:=HI5.out.own
    exact (h.1.lt q e).2
   generalize w5.heap.size=gm at*
   clear HI5
   obtain⟨y0,y1,y2,ly⟩:=E5 HB6.out
   by_cases hF:Dh ⟨pos+(x:Int),(c:Int),b+1+(o:Int)⟩ pos b=true
   ·have hx:x<4611686018427387904:=by
     rcases Bl x 4611686018427387904 with h | h
     ·exact h
     ·rw[hfar h] at hF
      cases hF
    have hyy:=hyx hx
    subst hyy
    have d2:decide ((4611686018427387904:Int)≤(x:Int))=false:=Ae zC
    have hff:=hHF hF
    rw[hF] at HFI
    go_wp2_with fail
    refine (HFI.out _).mono ?_
    rintro r w7 ⟨rfl,hb7⟩
    have HI7:=hid (HI6.out.later hb7)
    have HB7:=HB6.out.later hb7
    clear y0 y1 y2 ly hb7 HI6 HB6
    obtain⟨y0,y1,y2,ly⟩:=E5 HB7
    by_cases hk3:t3.k=0
    ·have hs:=HST.out
     rw[Ag hk3,Ag hF] at hs
     have HS:=hid hs
     have HG:=hid (fun (W:World) (hW:AS W g B a t3)=>(by have:=AK W hW;rw[Ad hk3] at this;exact this:Calls Tryz.prog 112 #[.pointer (some ⟨g,0,none⟩)] W fun r w'=>r=.returned (.bool true)∧Below W.heap.size W w'))
     clear hs hk3 HST hF hfar hHF hyx hyu
     go_wp2_with fail
     refine (HG.out _ HI7.out.inv.rd).mono ?_
     rintro r w8 ⟨rfl,hb8⟩
     have HI8:=hid (HI7.out.later hb8)
     have HB8:=hid (HB7.later hb8)
     clear y0 y1 y2 ly hb8 HI7 HB7
     obtain⟨y0,y1,y2,ly⟩:=E5 HB8.out
     have HI9:=hid (HI8.out.later (show Below w8.heap.size w8 (w8.alloc (.cells #[.int .u64 (pos+(x:Int)),.int .i64 (c:Int),.int .i64 (b+1+(o:Int))] 88)) by (repeat (first | with_reducible exact Below.refl _ _ | with_reducible assumption | (with_reducible refine Aw ?_ _) | (with_reducible refine Below.setCell ?_ zE _) | (with_reducible refine Below.drew ?_) | (with_reducible refine below_drewN ?_ _) | (refine Aj zG ?_)))))
     obtain⟨cells9,hc9⟩:=HI9.out.own
     have HC9:=hid hc9
     have hz9:w.heap.size≤(w8.alloc (.cells #[.int .u64 (pos+(x:Int)),.int .i64 (c:Int),.int .i64 (b+1+(o:Int))] 88)).heap.size:=HI9.out.inv.tch.size
     have HB9:=HB8.out.alloc (.cells #[.int .u64 (pos+(x:Int)),.int .i64 (c:Int),.int .i64 (b+1+(o:Int))] 88)
     clear hc9
     have HEN:=hid (fun (W:World)=>(by have:=Fy ⟨pos+(x:Int),(c:Int),b+1+(o:Int)⟩ zH ⟨zH,zH⟩ zH W;exact this:Calls Tryz.prog 283 #[.agg #[.int .u64 (pos+(x:Int)),.int .i64 (c:Int),.int .i64 (b+1+(o:Int))]] W fun r w'=>r=.returned (.int .u64 (pos+(x:Int)+(c:Int)))∧Below W.heap.size W w'))
     go_wp2_with (at_builtin;go_loud (refine AB rfl _ _ _ rfl w.heap.size 88 j0 (.agg #[.int .u64 0,.int .i64 0,.int .i64 0]) 3 24 Tryz.underlying79 hj hy0 hy1 hy2 rfl zL (.slice aM M.length cM) M.length cells9.flatten rfl HC9.out.1 (some ⟨w8.heap.size,0,none⟩) 1 1 [.int .u64 (pos+(x:Int)),.int .i64 (c:Int),.int .i64 (b+1+(o:Int))] rfl (BU w8 88 _ rfl rfl rfl) (S8 (m:=⟨pos+(x:Int),(c:Int),b+1+(o:Int)⟩)) zO zC hz9 ?_;intro v10 w10 hown10 hgrow10 hat10;obtain⟨a10,c10,rfl⟩:=AV hown10;have HO10:=hid (A8.push HC9.out (x:=(⟨pos+(x:Int),(c:Int),b+1+(o:Int)⟩:AP)) rfl (KN ⟨⟨zH,zH⟩,⟨zH,zH⟩,⟨zH,zH⟩⟩) hown10 hgrow10 hat10 hgrow10.size);have HIV:=hid (HI9.out.inv.row (Below.grown (Below.refl _ _) hgrow10 hz9 (fun g e=>(BP HC9.out.1 g e).1)));have HB10:=HB9.grown hgrow10 (fun e=>Nat.lt_irrefl _ (hOw.out _ e.symm));obtain⟨y0',y1',y2',ly'⟩:=E5 HB10;clear hown10 hgrow10 hat10))
     clear y0 y1 y2 ly HB9 HB8 HI8 HI9 HC9 hz9
     have Y0:=fun s:AM w10=>s.cell y0'
     have Y1:=fun s:AM w10=>s.cell y1'
     have Y2:=fun s:AM w10=>s.cell y2'
     clear y0' y1' y2' ly' HB10
     go_wp2_with fail
     refine Az zJ zJ ?_
     repeat (go_big_quiet_step (((go_at_call 283;exact CH (HEN.out _)))))
     refine AT ?_
     rintro W11 ⟨⟨W11',hb11⟩,rfl⟩
     go_wp2_with fail
     go_roundw
     case rel=>exact ⟨k+1,t3,M++[⟨pos+(x:Int),(c:Int),b+1+(o:Int)⟩],pos+(x:Int)+(c:Int),b+1+(o:Int),zC,zT,rfl,rfl,hid (by rw[Al,hMk.out];rfl),⟨zC,zC⟩,⟨zC,zC⟩,⟨HIV.out.row (hb11.mono HIV.out.tch.size),HO10.out.below hb11⟩,hid (by rw[show n-(k+1)=mm by omega];exact HS.out)⟩
     case measure=>(simp[intOf];try omega)
    ·have hs:=HST.out
     rw[Ai hk3] at hs
     simp only[BF] at hs
     obtain⟨rfl,rfl⟩:=hs
     have HG:=hid (fun (W:World) (hW:AS W g B a t3)=>(by have:=AK W hW;rw[Ae hk3] at this;exact this:Calls Tryz.prog 112 #[.pointer (some ⟨g,0,none⟩)] W fun r w'=>r=.returned (.bool false)∧Below W.heap.size W w'))
     clear hk3 HST hF hfar hHF hyx hyu
     go_wp2_with fail
     refine (HG.out _ HI7.out.inv.rd).mono ?_
     rintro r w8 ⟨rfl,hb8⟩
     have HI8:=hid (HI7.out.later hb8)
     go_wp2_with fail
     go_ret
     exact⟨_,rfl,Bv (xs:=[]) rfl (As _) (Ar _) (.inl rfl),HI8.out.inv.to⟩
   ·have hF':Dh ⟨pos+(x:Int),(c:Int),b+1+(o:Int)⟩ pos b=false:=by simpa using hF
    have hs:=HST.out
    have hend:(t3.fail 3 (t.p:Int),([]:List AP))=(sF,MF):=by
     by_cases hk3:t3.k=0
     ·rw[Ag hk3,Ai hF] at hs
      exact hs
     ·rw[Ai hk3] at hs
      rw[Rs.Bt hk3]
      exact hs
    simp only[BF] at hend
    obtain⟨rfl,rfl⟩:=hend
    have HG:=hid (fun (W:World) (hW:AS W g B a (t3.fail 3 (t.p:Int)))=>(by have:=AK W hW;rw[Ae (Rs.BI zL)] at this;exact this:Calls Tryz.prog 112 #[.pointer (some ⟨g,0,none⟩)] W fun r w'=>r=.returned (.bool false)∧Below W.heap.size W w'))
    by_cases hx:x<4611686018427387904
    ·have hyy:=hyx hx
     subst hyy
     have d2:decide ((4611686018427387904:Int)≤(x:Int))=false:=Ae zC
     rw[hF'] at HFI
     clear HST hF hF' hfar hHF hyx hyu hs HR0
     go_wp2_with fail
     refine (HFI.out _).mono ?_
     rintro r w7 ⟨rfl,hb7⟩
     have HI7:=hid (HI6.out.later hb7)
     go_wp2_with fail
     refine (HFL.out _ HI7.out.inv.rd).mono ?_
     rintro r w8 ⟨rfl,hst8⟩
     have HI8:=hid (HI7.out.step hst8)
     go_wp2_with fail
     refine (HG.out _ HI8.out.inv.rd).mono ?_
     rintro r w9 ⟨rfl,hb9⟩
     have HI9:=hid (HI8.out.later hb9)
     go_wp2_with fail
     go_ret
     exact⟨_,rfl,Bv (xs:=[]) rfl (As _) (Ar _) (.inl rfl),HI9.out.inv.to⟩
    ·have d2:decide ((4611686018427387904:Int)≤(x:Int))=true:=Ad zC
     clear HST hF hF' hfar hHF hyx hyu hs HR0
     go_wp2_with fail
     refine (HFL.out _ HI6.out.inv.rd).mono ?_
     rintro r w8 ⟨rfl,hst8⟩
     have HI8:=hid (HI6.out.step hst8)
     go_wp2_with fail
     refine (HG.out _ HI8.out.inv.rd).mono ?_
     rintro r w9 ⟨rfl,hb9⟩
     have HI9:=hid (HI8.out.later hb9)
     go_wp2_with fail
     go_ret
     exact⟨_,rfl,Bv (xs:=[]) rfl (As _) (Ar _) (.inl rfl),HI9.out.inv.to⟩
  ·obtain rfl:k=n:=by omega
   have d1:decide ((k:Int)<(k:Int))=false:=Ae zC
   have hs:=hsp.out
   rw[Nat.sub_self] at hs
   have hs2:(t,M)=(sF,MF):=hs
   simp only[BF] at hs2
   obtain⟨rfl,rfl⟩:=hs2
   clear hsp hs HR0
   go_wp2_with fail
   go_ret
   exact⟨_,rfl,HI.out.own.slice (As _),HI.out.inv.to⟩
theorem RW(xs ys:List AP)(a a':Option Addr)(n c n' c':Nat)(w:World)(hl:Bw.r (·<w.heap.size) w [.slice a n c] xs)(hl':Bw.r (·<w.heap.size) w [.slice a' n' c'] ys):
  Calls Tryz.prog 326 #[.slice a n c,.slice a' n' c'] w fun r w'=>r=.returned (.bool (decide (xs=ys)))∧Below w.heap.size w w':=by
 obtain⟨rfl,hm,_,_⟩:=AL hl
 obtain⟨rfl,hm',_,_⟩:=AL hl'
 have HL:=hid hl;have HL':=hid hl';clear hl hl'
 by_cases hlen:xs.length=ys.length
 ·have e0:((xs.length:Int) !=(ys.length:Int))=false:=by rw[hlen];simp
  have HLN:=hid hlen;clear hlen
  go_enter Tryz.func326,Tryz.ntmps326
  go_wp2_with fail
  go_loopw [13] (fun i wr=>∃k:Nat,k≤xs.length∧i=.int .i64 k∧Hid (xs.take k=ys.take k)∧Below w.heap.size w wr) (fun i _=>xs.length-(intOf i).toNat)
  case atStart=>exact ⟨0,Ar _,rfl,hid rfl,Below.refl _ _⟩
  case round=>
   obtain⟨k,hk,rfl,heq,hb⟩:=hrel
   rcases Bl k xs.length with hlt | hge
   ·have hlt':k<ys.length:=by rw[←HLN.out];exact hlt
    obtain⟨b,o,hA,hbb,x0,x1,x2,_⟩:=Hi (lift HL.out hb) hlt
    obtain⟨b',o',hA',hbb',y0,y1,y2,_⟩:=Hi (lift HL'.out hb) hlt'
    subst hA
    subst hA'
    have X0:=fun s:AM wr=>s.cell x0
    have X1:=fun s:AM wr=>s.cell x1
    have X2:=fun s:AM wr=>s.cell x2
    have Y0:=fun s:AM wr=>s.cell y0
    have Y1:=fun s:AM wr=>s.cell y1
    have Y2:=fun s:AM wr=>s.cell y2
    have hno:=hid (AaP hlt hlt')
    have hyes:=hid (TS heq.out hlt hlt')
    clear x0 y0 x1 x2 y1 y2
    generalize xs[k]=x at*
    generalize ys[k]=y at*
    obtain⟨xp,xc,xa⟩:=x
    obtain⟨yp,yc,ya⟩:=y
    dsimp only at X0 X1 X2 Y0 Y1 Y2
    have i1:(k:Int)<(xs.length:Int):=zC
    have i2:(k:Int)<(ys.length:Int):=zC
    have d1:decide ((k:Int)<(xs.length:Int))=true:=Ad i1
    have d1':decide (k<xs.length)=true:=Ad hlt
    by_cases hxy:(⟨xp,xc,xa⟩:AP)=⟨yp,yc,ya⟩
    ·have hnx:Hid (xs.take (k+1)=ys.take (k+1)):=hid (hyes.out hxy)
     simp only[AP.mk.injEq] at hxy
     obtain⟨rfl,rfl,rfl⟩:=hxy
     have e2:(xp==xp)=true:=zM
     have e3:(xc==xc)=true:=zM
     have e4:(xa==xa)=true:=zM
     clear hno hyes
     go_wp2_with fail
     refine Az zJ zJ ?_
     repeat (go_big_quiet_step (fail))
     refine AT ?_
     rintro W5 ⟨⟨W5',hb5⟩,rfl⟩
     go_wp2
     go_roundw
     case rel=>exact ⟨k+1,zC,zT,hnx,Aj hb5 hb⟩
     case measure=>simp [intOf];omega
    ·have hfin:Hid (decide (xs=ys)=false):=hid (Ae (hno.out hxy))
     clear hno hyes
     by_cases h1:xp=yp
     ·have e1:(xp==yp)=true:=by simp[h1]
      by_cases h2:xc=yc
      ·have e2:(xc==yc)=true:=by simp[h2]
       have e3:(xa==ya)=false:=by
        rw[BL]
        exact fun h3=>hxy (by rw[h1,h2,h3])
       clear hxy h1 h2
       go_wp2_with fail
       refine Az zJ zJ ?_
       repeat (go_big_quiet_step (fail))
       refine AT ?_
       rintro W5 ⟨⟨W5',hb5⟩,rfl⟩
       go_wp2
       go_ret
       exact⟨zAt,Aj hb5 hb⟩
      ·have e2:(xc==yc)=false:=by simp[h2]
       clear hxy h1 h2
       go_wp2_with fail
       refine Az zJ zJ ?_
       repeat (go_big_quiet_step (fail))
       refine AT ?_
       rintro W5 ⟨⟨W5',hb5⟩,rfl⟩
       go_wp2
       go_ret
       exact⟨zAt,Aj hb5 hb⟩
     ·have e1:(xp==yp)=false:=by simp[h1]
      clear hxy h1
      go_wp2_with fail
      refine Az zJ zJ ?_
      repeat (go_big_quiet_step (fail))
      refine AT ?_
      rintro W5 ⟨⟨W5',hb5⟩,rfl⟩
      go_wp2
      go_ret
      exact⟨zAt,Aj hb5 hb⟩
   ·obtain rfl:k=xs.length:=by omega
    have hfin:Hid (decide (xs=ys)=true):=hid (Ad (by have h:=heq.out;rw[Cj,HLN.out,Cj] at h;exact h))
    go_wp2
    go_ret
    exact⟨zAt,hb⟩
 ·have e0:((xs.length:Int) !=(ys.length:Int))=true:=by simp;omega
  have hfin:Hid (decide (xs=ys)=false):=hid (Ae (fun h=>hlen (by rw[h])))
  clear hlen
  go_enter Tryz.func326,Tryz.ntmps326
  go_wp2
  go_ret
  exact⟨zAt,Below.refl _ _⟩
theorem To(xs ys:List AP)(a a':Option Addr)(n c n' c':Nat)(w:World)(hl:Bw.r (·<w.heap.size) w [.slice a n c] xs)(hl':Bw.r (·<w.heap.size) w [.slice a' n' c'] ys):
  Calls Tryz.prog 264 #[.slice a n c,.slice a' n' c'] w fun r w'=>r=.returned (.bool (decide (xs=ys)))∧Below w.heap.size w w':=by
 have HB:=hid (RW xs ys a a' n c n' c' w hl hl')
 go_enter Tryz.func264,Tryz.ntmps264
 go_wp2_with fail
 refine HB.out.mono ?_
 rintro r w1 ⟨rfl,hb1⟩
 go_wp2
 go_ret
 exact⟨rfl,hb1⟩
theorem Pn(w:World)(f:Int):Calls Tryz.prog 154 #[.int .i64 0,.int .i64 f] w fun r w'=>r=.returned (.agg #[.int .i64 0,.int .i64 0])∧Below w.heap.size w w':=by
 go_enter Tryz.func154,Tryz.ntmps154
 go_wp2
 refine Ax (v:=.agg #[.int .i64 0,.int .i64 0]) (by simp[results,Tryz.results154,go_sem]) rfl ⟨rfl,zB⟩
theorem Qt(w:World)(f b:Int):Calls Tryz.prog 117 #[.agg #[.int .i64 0,.int .i64 f],.int .i64 b] w fun r w'=>r=.returned (.agg #[.int .i64 0,.int .i64 0])∧Below w.heap.size w w':=by
 obtain⟨v,hv⟩:∃v,wrap64 (f+b)=v:=⟨_,rfl⟩
 have HV:=hid hv
 clear hv
 go_enter Tryz.func117,Tryz.ntmps117
 go_wp2_with fail
 rw[HV.out]
 refine (Pn _ v).mono ?_
 rintro r w1 ⟨rfl,hb1⟩
 have B1:Blk w1 (w.heap.size+1) 65 #[.int .i64 0,.int .i64 0]:=Blk.later zD hb1
 obtain⟨y0,y1,g0,g1,l1⟩:=Bd B1
 have hbw:Below w.heap.size w w1:=zA
 clear B1 hb1
 go_wp2
 refine Ax (v:=.agg #[.int .i64 0,.int .i64 0]) zBg rfl ⟨rfl,zA⟩
theorem Kh{lo:Nat}{M:List AP}{cells:List (List Value)}(h:Dd lo JQ base e 3 w v M cells)(hk:∀g,v.ownBlock=some g→w'.heap[g]? =w.heap[g]?):Dd lo JQ base e 3 w' v M cells:=
 ⟨Jc h.1 hk,h.2.1,h.2.2.1,fun i cs x h1 h2=>by
  obtain⟨rfl,hn⟩:=Nh (h.2.2.2 i cs x h1 h2)
  exact KN hn⟩
structure EI(w:World)(gr gc:Nat)(B:List UInt8)(a:Option Addr)(s:Rs)(ep:Int)(vL:Value)(l:List Batch)(vM:Value)(M:List AP)(q:Bool)(fi:Int)(T:Nat)(W:World):Prop where
 inv:CS w W gc B a s
 rb:Blk W gr 166 #[.pointer (some ⟨gc,0,none⟩),.int .u64 ep,vL,vM,.bool q,.int .i64 fi]
 gl:w.heap.size≤gr
 ownL:∃cells,AY (fun b=>gr<b∧b<T∧vM.ownBlock≠some b) Gv (gr+1) 48 3 W vL l cells
 ownM:∃cells,Dd (gr+1) JQ (gr+1) 88 3 W vM M cells
 ne:∀b,vL.ownBlock=some b→vM.ownBlock≠some b
 lL:∀b,vL.ownBlock=some b→b<T
 lM:∀b,vM.ownBlock=some b→b<T
 t1:gr<T
 t2:T≤W.heap.size
section
variable {w W W':World} {gr gc:Nat} {B:List UInt8} {a:Option Addr} {s s':Rs} {ep:Int} {vL vL' vM vM':Value} {l:List Batch} {M:List AP} {q q':Bool} {fi fi':Int} {T T':Nat}
theorem EI.lo(h:EI w gr gc B a s ep vL l vM M q fi T W):(∀b,vL.ownBlock=some b→gr<b∧b<T)∧(∀b,vM.ownBlock=some b→gr<b∧b<T):=by
 obtain⟨cells,hc⟩:=h.ownL
 obtain⟨cells2,hc2⟩:=h.ownM
 exact⟨fun b e=>⟨(BP hc.1 b e).1,h.lL b e⟩,fun b e=>⟨(BP hc2.1 b e).1,h.lM b e⟩⟩
theorem EI.AaB(h:EI w gr gc B a s ep vL l vM M q fi T W)(hi:CS w W' gc B a s')(hz:W.heap.size≤W'.heap.size)(hk:∀b,gr≤b→b<T→W'.heap[b]? =W.heap[b]?):EI w gr gc B a s' ep vL l vM M q fi T W':=by
 obtain⟨cells,hc⟩:=h.ownL
 obtain⟨cells2,hc2⟩:=h.ownM
 exact⟨hi,(hk gr (As _) h.t1).trans h.rb,h.gl,⟨cells,hc.keep (fun b e=>hk b zX e.2.1) (fun b e=>hk b (by have:=(h.lo.1 b e).1;omega) (h.lo.1 b e).2)⟩,⟨cells2,Kh hc2 fun b e=>hk b (by have:=(h.lo.2 b e).1;omega) (h.lo.2 b e).2⟩,h.ne,h.lL,h.lM,h.t1,Bb h.t2 hz⟩
theorem EI.step(h:EI w gr gc B a s ep vL l vM M q fi T W)(k:AE W gc B a s' W'):EI w gr gc B a s' ep vL l vM M q fi T W':=by
 have h1:=h.gl
 have h2:=h.inv.lt
 have h3:=h.t2
 exact h.AaB (h.inv.step k) k.2.size fun b e1 e2=>k.2.block b zC zC
theorem EI.side(h:EI w gr gc B a s ep vL l vM M q fi T W)(ht:Tch F W W')(hF:∀b,b<T→¬F b):EI w gr gc B a s ep vL l vM M q fi T W':=by
 have h1:=h.gl
 have h2:=h.inv.tch.size
 have h3:=h.t2
 have h4:=h.t1
 refine h.AaB (h.inv.row (ht.Ch zC fun b hb e=> ?_)) ht.size fun b e1 e2=>ht.block b zC (hF b e2)
 rcases Bl b T with h5 | h5
 ·exact absurd e (hF b h5)
 ·omega
theorem EI.later(h:EI w gr gc B a s ep vL l vM M q fi T W)(hb:Below W.heap.size W W'):EI w gr gc B a s ep vL l vM M q fi T W':=
 h.side (F:=fun _=>False) (Tch.AW hb) fun _ _ e=>e
theorem EI.up(h:EI w gr gc B a s ep vL l vM M q fi T W)(h1:T≤T')(h2:T'≤W.heap.size):EI w gr gc B a s ep vL l vM M q fi T' W:=by
 obtain⟨cells,hc⟩:=h.ownL
 have:=h.t1
 exact⟨h.inv,h.rb,h.gl,⟨cells,hc.mono fun b e=>⟨e.1,zC,e.2.2⟩⟩,h.ownM,h.ne,fun b e=>An (h.lL b e) h1,fun b e=>An (h.lM b e) h1,zC,h2⟩
theorem EI.mark(h:EI w gr gc B a s ep vL l vM M q fi T W){cells:List (List Value)}(hc:Dd (gr+1) JQ (gr+1) 88 3 W vM M cells){m:AP}(hm:G5 m)
 (hown:W'.ownsRow (gr+1) 88 3 vM' (M.length+1) (cells.flatten++[.int .u64 m.pos,.int .i64 m.count,.int .i64 m.at_])) (hgr:W.grownBy W' vM.ownBlock) (hat:vM'.ownBlock=vM.ownBlock∨vM'.ownBlock=some W.heap.size):
  EI w gr gc B a s ep vL l vM' (M++[m]) q fi W'.heap.size (W'.setCell ⟨gr,3,none⟩ vM'):=by
 have h1:=h.gl
 have h2:=h.rb.lt
 have ht1:=h.t1
 have ht2:=h.t2
 have hgs:=hgr.size
 obtain⟨cl,hcl⟩:=h.ownL
 have hlo:=h.lo
 have hz:(W'.setCell ⟨gr,3,none⟩ vM').heap.size=W'.heap.size:=zU
 obtain⟨c2,hO⟩:∃c2,Dd (gr+1) JQ (gr+1) 88 3 W' vM' (M++[m]) c2:=A8.push hc (x:=m) rfl (KN hm) hown hgr hat hgr.size
 have hbg:Below (gr+1) W W':=Below.grown (Below.refl _ _) hgr zC (fun g e=>(hlo.2 g e).1)
 have hk:∀b,gr<b→(W'.setCell ⟨gr,3,none⟩ vM').heap[b]? =W'.heap[b]? :=fun b e=>At _ _ _ _ zH
 have hv':∀b,vM'.ownBlock=some b→vM.ownBlock=some b∨b=W.heap.size:=fun b e=>by
  rcases hat with h | h
  ·exact .inl (h ▸ e)
  ·rw[h] at e;exact .inr (AR e).symm
 refine⟨(h.inv.row (hbg.mono zC)).row (Below.setCell (Below.refl _ _) zH _),(h.rb.below hbg zC).set 3 _,h1,⟨cl,(hcl.keep (fun b e=>(hk b e.1).trans (hgr.block b (by have:=e.2.1;omega) (fun e2=>e.2.2 e2.symm))) (fun b e=>(hk b (hlo.1 b e).1).trans (hgr.block b (by have:=(hlo.1 b e).2;omega) (fun e2=>h.ne b e e2.symm)))).mono fun b e=>⟨e.1,zC,fun e2=> ?_⟩⟩,⟨c2,Kh hO fun b e=>hk b (BP hO.1 b e).1⟩,fun b e e2=> ?_,fun b e=>by have:=(hlo.1 b e).2;omega,fun b e=>(BP hO.1 b e).2,zC,zC⟩
 ·rcases hv' b e2 with e3 | e3
  ·exact e.2.2 e3
  ·have:=e.2.1
   omega
 ·rcases hv' b e2 with e3 | e3
  ·exact h.ne b e e3
  ·have:=(hlo.1 b e).2
   omega
theorem EI.more(h:EI w gr gc B a s ep vL l vM M q fi T W){cells:List (List Value)}(hc:AY (fun b=>gr<b∧b<W.heap.size∧vM.ownBlock≠some b) Gv (gr+1) 48 3 W vL l cells){x:Batch}{news:List Value}(hn:news.length=3)
 (hx:Gv.r (fun b=>(gr<b∧b<W.heap.size∧vM.ownBlock≠some b)∧vL.ownBlock≠some b) W news x)
 (hown:W'.ownsRow (gr+1) 48 3 vL' (l.length+1) (cells.flatten++news)) (hgr:W.grownBy W' vL.ownBlock) (hat:vL'.ownBlock=vL.ownBlock∨vL'.ownBlock=some W.heap.size):
  EI w gr gc B a s ep vL' (l++[x]) vM M q fi W'.heap.size (W'.setCell ⟨gr,2,none⟩ vL'):=by
 have h1:=h.gl
 have h2:=h.rb.lt
 have ht1:=h.t1
 have ht2:=h.t2
 have hgs:=hgr.size
 have hlo:=h.lo
 have hz:(W'.setCell ⟨gr,2,none⟩ vL').heap.size=W'.heap.size:=zU
 have hO:=hc.push (fun b e=>e.2.1) hn hx hown hgr hat
 have hbg:Below (gr+1) W W':=Below.grown (Below.refl _ _) hgr zC (fun g e=>(hlo.1 g e).1)
 have hk:∀b,gr<b→(W'.setCell ⟨gr,2,none⟩ vL').heap[b]? =W'.heap[b]? :=fun b e=>At _ _ _ _ zH
 have hv':∀b,vL'.ownBlock=some b→vL.ownBlock=some b∨b=W.heap.size:=fun b e=>by
  rcases hat with h | h
  ·exact .inl (h ▸ e)
  ·rw[h] at e;exact .inr (AR e).symm
 obtain⟨cm,hm⟩:=h.ownM
 refine⟨(h.inv.row (hbg.mono zC)).row (Below.setCell (Below.refl _ _) zH _),(h.rb.below hbg zC).set 2 _,h1,⟨_,(hO.keep (fun b e=>hk b e.1) (fun b e=>hk b (BP hO.1 b e).1)).mono fun b e=>⟨e.1,by have:=e.2.1;omega,e.2.2⟩⟩,⟨cm,Kh hm fun b e=>(hk b (hlo.2 b e).1).trans (hgr.block b (by have:=(hlo.2 b e).2;omega) (fun e2=>h.ne b e2.symm e))⟩,fun b e e2=> ?_,fun b e=>(BP hO.1 b e).2,fun b e=>by have:=(hlo.2 b e).2;omega,zC,zC⟩
 rcases hv' b e with e3 | e3
 ·exact h.ne b e3 e2
 ·have:=(hlo.2 b e2).2
  omega
end
theorem Rs.Kl:(s.frame B m).2.length≤B.length:=by
 have h:(s.Ct B (min m 2097152)).2.length≤B.length:=by
  unfold Rs.Ct Rs.take
  dsimp only
  split
  ·rw[E8,CA]
   omega
  ·exact Ar _
 have aux:∀(c:Prop) [Decidable c],(if c then (s.Ct B (min m 2097152)).2 else []).length≤B.length:=fun c _=>by
  by_cases hc:c
  ·rw[Ag hc]
   exact h
  ·rw[Ai hc]
   exact Ar _
 unfold Rs.frame
 dsimp only
 exact aux _
end Go.Proofs.YtfddhafbhceoaaaGreat
