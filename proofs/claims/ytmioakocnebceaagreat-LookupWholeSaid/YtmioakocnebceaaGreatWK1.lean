/- Mini: Needed by lookupWhole_walk, part 1: texts put together by shake.py; no condition. -/
import Derived.WalkKit
import Derived.WalkLawsBesides
import Derived.WalkSpells
import Derived.Outline
import Derived.BigQuiet
import Derived.Deep.QuietTactic
import Derived.ProofKit
import Derived.OpenShut
import Derived.Deep.Slices
import Derived.Lib.SmallJoins
import Derived.Test.YtmioakocnebceaaGreatRows
import Derived.Deep.AppendLies
import Derived.Laws.IdiomStrings
import Derived.Laws.BytesArg
import Derived.Maps.AppendAt
set_option linter.unusedVariables false
set_option linter.unusedSimpArgs false
set_option maxRecDepth 100000
set_option maxHeartbeats 6400000
namespace Go.Bs
open Go.RowKit
theorem hid{p:Prop}(h:p):Hid p:=h
theorem below_alloc{a W:World}(h:Below a.heap.size a W)(o:Obj):Below a.heap.size a (W.alloc o):=h.alloc h.size _
theorem below_drewN{B:Nat}{a w:World}(h:Below B a w)(n:Nat):Below B a (w.drewN n):=⟨h.os,h.tape,h.output,h.size,h.block⟩
theorem below_then{a W w':World}(hb:Below W.heap.size W w')(h:Below a.heap.size a W):Below a.heap.size a w':=h.trans (hb.mono h.size)
def Blk(w:World)(g:Nat)(t:TypeId)(cs:Array Value):Prop:=w.heap[g]? =some (.cells cs t (0,0))
section
variable {w w':World} {g:Nat} {t:TypeId} {cs:Array Value}
theorem Blk.lt(h:Blk w g t cs):g<w.heap.size:=by
 rcases Nat.lt_or_ge g w.heap.size with h' | h'
 ·exact h'
 ·unfold Blk at h;rw[Array.getElem?_eq_none h'] at h;cases h
theorem Blk.cell(h:Blk w g t cs)(i:Nat):w.cell? ⟨g,i,none⟩=cs[i]? :=by unfold Blk at h;simp[World.cell?,h]
theorem Blk.free(h:Blk w g t cs)(i:Nat):w.frozen? ⟨g,i,none⟩=false:=by unfold Blk at h;simp[World.frozen?,h]
theorem Blk.new(w:World)(t:TypeId)(cs:Array Value):Blk (w.alloc (.cells cs t)) w.heap.size t cs:=by
 unfold Blk;show (w.heap.push _)[w.heap.size]? =_;simp
theorem Blk.newAt(w:World)(t:TypeId)(cs:Array Value){g:Nat}(h:g=w.heap.size):Blk (w.alloc (.cells cs t)) g t cs:=h ▸ Blk.new w t cs
theorem Blk.new1(w:World)(o:Obj)(t:TypeId)(cs:Array Value):Blk ((w.alloc o).alloc (.cells cs t)) (w.heap.size+1) t cs:=by
 have:=Blk.new (w.alloc o) t cs
 simpa using this
theorem Blk.alloc(h:Blk w g t cs)(o:Obj):Blk (w.alloc o) g t cs:=(Below.heap_alloc w o g h.lt).trans h
theorem Blk.drewN(h:Blk w g t cs)(n:Nat):Blk (w.drewN n) g t cs:=h
theorem Blk.drew(h:Blk w g t cs):Blk w.drew g t cs:=h
theorem Blk.set(h:Blk w g t cs)(i:Nat)(u:Value):Blk (w.setCell ⟨g,i,none⟩ u) g t (cs.setIfInBounds i u):=by
 unfold Blk at h ⊢
 simp[World.setCell,Array.getElem?_modify,h]
theorem Blk.far(h:Blk w g t cs){p:Addr}(hp:g≠p.block)(u:Value):Blk (w.setCell p u) g t cs:=(Below.heap_setCell w p u g hp).trans h
theorem Blk.below{B:Nat}(h:Blk w g t cs)(hb:Below B w w')(hg:g<B):Blk w' g t cs:=(hb.block g hg).trans h
theorem Blk.later(h:Blk w g t cs)(hb:Below w.heap.size w w'):Blk w' g t cs:=h.below hb h.lt
theorem Blk.grown{row:Option Nat}(h:Blk w g t cs)(hb:w.grownBy w' row)(hg:some g≠row):Blk w' g t cs:=(hb.block g h.lt hg).trans h
end
structure Later(w:World) where
 at_:World
 below:Below w.heap.size w at_
instance (w:World):Inhabited (Later w):=⟨⟨w,Below.refl _ _⟩⟩
theorem Later.cell{w:World}{b o:Nat}{v:Value}(h:w.cell? ⟨b,o,none⟩=some v)(s:Later w):s.at_.cell? ⟨b,o,none⟩=some v:=by
 have hlt:=World.block_lt_of_cell? w _ h
 rw[s.below.cell (p:=⟨b,o,none⟩) hlt];exact h
theorem bcell{W w1:World}(hb:Below W.heap.size W w1):(∀b o,b<W.heap.size→w1.cell? ⟨b,o,none⟩=W.cell? ⟨b,o,none⟩)∧(∀b o,b<W.heap.size→w1.frozen? ⟨b,o,none⟩=W.frozen? ⟨b,o,none⟩):=
 ⟨fun b o h=>hb.cell (p:=⟨b,o,none⟩) h,fun b o h=>hb.frozen (p:=⟨b,o,none⟩) h⟩
section
variable {P:Program}
theorem wp_world{c:Code}{Q:Exit→Act→World→Prop}{a:Act}{w:World}(F:World→Prop)(hF:F w)(h:∀W,F W→c.wp P Q a W):c.wp P Q a w:=h w hF
theorem wp_region_later{id:Nat}{Q:Exit→Act→World→Prop}{a:Act}{w:World}{l:List Oper}(hm:P.follows .mixedOrders=true)(hB:Region.lexB .any l.toArray=true)
  (h:wpQuiet P l.toArray (fun w'=>∃s:Later w,w'=s.at_) (fun a'=>∀w',(∃s:Later w,w'=s.at_)→Q .normal a' w') l a):(Code.region id l.toArray true).wp P Q a w:=
 wp_region_quiet (C:=fun w'=>∃s:Later w,w'=s.at_) hm hB ⟨⟨w.drew,(Below.refl _ _).drew⟩,rfl⟩ (by simpa using h)
theorem later_of{f:FuncId}{args:Array Value}{w:World}{s:Later w}{v:Value}
  (h:Calls P f args s.at_ fun e w'=>e=.returned v∧Below s.at_.heap.size s.at_ w'):Calls P f args s.at_ fun e w''=>e=.returned v∧∃s':Later w,w''=s'.at_:=
 h.mono fun _ w' ⟨he,hb⟩=>⟨he,⟨w',s.below.trans (hb.mono s.below.size)⟩,rfl⟩
end
open Go.RowKit
structure Rp(α:Type) where
 r:(Nat→Prop)→World→List Value→α→Prop
 keep:∀{S:Nat→Prop} {w w':World} {cs:List Value} {x:α},r S w cs x→(∀b,S b→w'.heap[b]? =w.heap[b]?)→r S w' cs x
 mono:∀{S S':Nat→Prop} {w:World} {cs:List Value} {x:α},r S w cs x→(∀b,S b→S' b)→r S' w cs x
def rInt(k:IntKind):Rp Int:=⟨fun _ _ cs n=>cs=[.int k n]∧(Lit.int k n).wf=true,fun h _=>h,fun h _=>h⟩
def rByte:Rp UInt8:=⟨fun _ _ cs b=>cs=[.int .u8 (b.toNat:Int)],fun h _=>h,fun h _=>h⟩
def rPair{α β:Type}(A:Rp α)(B:Rp β):Rp (α × β):=
  ⟨fun S w cs x=>∃c d,cs=c++d∧A.r S w c x.1∧B.r S w d x.2,
   fun ⟨c,d,h,h1,h2⟩ hk=>⟨c,d,h,A.keep h1 hk,B.keep h2 hk⟩,fun ⟨c,d,h,h1,h2⟩ hk=>⟨c,d,h,A.mono h1 hk,B.mono h2 hk⟩⟩
def rBy{α β:Type}(f:α→β)(B:Rp β):Rp α:=⟨fun S w cs x=>B.r S w cs (f x),fun h hk=>B.keep h hk,fun h hk=>B.mono h hk⟩
def RRow{α:Type}(sz:Nat)(A:Rp α)(S:Nat→Prop)(w:World)(b off:Nat)(xs:List α):Prop:=
 S b∧∀i x,xs[i]? =some x→∃cs:List Value,cs.length=sz∧(∀j v,cs[j]? =some v→w.cell? ⟨b,off+i*sz+j,none⟩=some v)∧A.r S w cs x
def rSl{α:Type}(sz:Nat)(A:Rp α):Rp (List α):=
  ⟨fun S w cs xs=>∃a c,cs=[.slice a xs.length c]∧xs.length≤c∧c≤maxLen∧(xs=[]∨∃b off,a=some ⟨b,off,none⟩∧RRow sz A S w b off xs),
   fun ⟨a,c,h,h1,h2,h3⟩ hk=>⟨a,c,h,h1,h2,h3.imp id fun ⟨b,off,e,hb,hr⟩=>⟨b,off,e,hb,fun i x hi=>
     let ⟨cs,hl,hc,hA⟩:=hr i x hi
     ⟨cs,hl,fun j v hj=>(World.cell?_of_block (a:=⟨b,off+i*sz+j,none⟩) (hk b hb)).trans (hc j v hj),A.keep hA hk⟩⟩⟩,
   fun ⟨a,c,h,h1,h2,h3⟩ hk=>⟨a,c,h,h1,h2,h3.imp id fun ⟨b,off,e,hb,hr⟩=>⟨b,off,e,hk b hb,fun i x hi=>
     let ⟨cs,hl,hc,hA⟩:=hr i x hi
     ⟨cs,hl,hc,A.mono hA hk⟩⟩⟩⟩
theorem rSl_mk{α:Type}{sz:Nat}{A:Rp α}{S:Nat→Prop}{w:World}{cs:List Value}{xs:List α}{a:Option Addr}{c:Nat}(h:cs=[.slice a xs.length c])(h1:xs.length≤c)(h2:c≤maxLen)
  (h3:xs=[]∨∃b off,a=some ⟨b,off,none⟩∧RRow sz A S w b off xs):(rSl sz A).r S w cs xs:=⟨a,c,h,h1,h2,h3⟩
theorem choose_list{α:Type}(n:Nat)(Q:Nat→α→Prop)(h:∀i,i<n→∃y,Q i y):∃ys:List α,ys.length=n∧∀i y,ys[i]? =some y→Q i y:=by
 induction n with
 | zero=>exact ⟨[],rfl,fun i y h=>by simp at h⟩
 | succ n ih=>
  obtain⟨ys,h1,h2⟩:=ih fun i hi=>h i (by omega)
  obtain⟨y,hy⟩:=h n (by omega)
  refine⟨ys++[y],by simp[h1],fun i z hz=> ?_⟩
  rcases Nat.lt_or_ge i ys.length with hi | hi
  ·rw[List.getElem?_append_left hi] at hz
   exact h2 i z hz
  ·rw[List.getElem?_append_right hi] at hz
   have h0:i-ys.length=0:=by
    rcases Nat.eq_zero_or_pos (i-ys.length) with h | h
    ·exact h
    ·rw[List.getElem?_eq_none (by simp;omega)] at hz;cases hz
   rw[h0] at hz
   simp at hz
   subst hz
   have:i=n:=by omega
   subst this
   exact hy
theorem Rp.below{α:Type}(A:Rp α){w w':World}{B:Nat}{cs:List Value}{x:α}(h:A.r (·<B) w cs x)(hb:Below B w w'):A.r (·<B) w' cs x:=A.keep h hb.block
section
variable {P:Program}
def Opens(P:Program)(t:TypeId){α:Type}(A:Rp α):Prop:=
 ∀{H:Type} (enc:TypeId × Value→H) (w:World) (fuel:Nat) (cs:List Value) (x:DataW H × List MemPlace),DataW.trod enc P w 0 (fun _=>true) true fuel t cs=some x→∃y,A.r (·<w.heap.size) w cs y
theorem opens_int{t:TypeId}{k:IntKind}(ht:P.underlying t=some (.int k)):Opens P t (rInt k):=fun enc w fuel cs x h=>by
 obtain⟨n,rfl,_,hw⟩:=DataW.trod_int ht h
 exact⟨n,rfl,hw⟩
theorem opens_byte{t:TypeId}(ht:P.underlying t=some (.int .u8)):Opens P t rByte:=fun enc w fuel cs x h=>by
 obtain⟨n,rfl,_,hw⟩:=DataW.trod_int ht h
 have:=bounds_u8 hw
 refine⟨UInt8.ofNat n.toNat,?_⟩
 show _=_
 have e:((UInt8.ofNat n.toNat).toNat:Int)=n:=by
  simp[UInt8.toNat_ofNat'];omega
 rw[e]
theorem add_none{a:Addr}{b:Nat}{n:Nat}{v:Value}{w:World}(h:w.cell? (a.add n)=some v):n=0→a.spot=none:=by
 rintro rfl
 unfold Addr.add at h
 simp only[if_true] at h
 unfold World.cell? at h
 cases hs:a.spot with
 | none=>rfl
 | some s=>
  rw[hs] at h
  split at h<;>simp at h
theorem opens_slice{t e:TypeId}{sz:Nat}{α:Type}{A:Rp α}(ht:P.underlying t=some (.slice e))(hs:P.cellsOf e=sz)(hsz:0<sz)(hA:Opens P e A):Opens P t (rSl sz A):=fun enc w fuel cs x h=>by
 rcases Deep.open_slice ht h with ⟨rfl,rfl⟩ | ⟨a,len,cap,m,n,D,Pl,rfl,hb,hl,hm,hmm,_,hel⟩
 ·exact⟨[],rSl_mk rfl (Nat.le_refl _) (Nat.zero_le _) (.inl rfl)⟩
 ·have hlm:len≤m:=by simp at hmm;omega
  rw[hs] at hel
  have hy:∀i,i<len→∃y,∃cs':List Value,cs'.length=sz∧(∀j v,cs'[j]? =some v→w.cell? ((a.add (i*sz)).add j)=some v)∧A.r (·<w.heap.size) w cs' y:=by
   intro i hi
   obtain⟨cs',hc,ht'⟩:=hel i (by omega)
   obtain⟨y,hy⟩:=hA enc w n cs' _ ht'
   obtain⟨_,h1,h2⟩:=World.cells?_some hc
   exact⟨y,cs',h1,fun j v hj=>by
    have hj':j<sz:=by rw[←h1];exact (List.getElem?_eq_some_iff.1 hj).1
    rw[h2 j hj'];exact hj,hy⟩
  by_cases h0:len=0
  ·subst h0
   exact⟨[],rSl_mk rfl (Nat.zero_le _) hm (.inl rfl)⟩
  have hspot:a.spot=none:=by
   obtain⟨y,cs',h1,h2,_⟩:=hy 0 (by omega)
   obtain⟨v,hv⟩:∃v,cs'[0]? =some v:=⟨cs'[0],List.getElem?_eq_getElem (by omega)⟩
   have:=h2 0 v hv
   have e1:(a.add (0*sz)).add 0=a.add 0:=by simp[Addr.add]
   rw[e1] at this
   exact add_none (b:=0) this rfl
  obtain⟨ys,hys⟩:∃ys:List α,ys.length=len∧∀i y,ys[i]? =some y→∃cs':List Value,cs'.length=sz∧(∀j v,cs'[j]? =some v→w.cell? ((a.add (i*sz)).add j)=some v)∧A.r (·<w.heap.size) w cs' y:=by
   exact choose_list len _ hy
  obtain⟨hlen,hys⟩:=hys
  refine⟨ys,rSl_mk (a:=some a) (c:=cap) (by rw[hlen]) (by omega) hm (.inr ⟨a.block,a.off,by cases a;simp at hspot;rw[hspot],?_,?_⟩)⟩
  ·obtain⟨y,cs',h1,h2,_⟩:=hy 0 (by omega)
   obtain⟨v,hv⟩:∃v,cs'[0]? =some v:=⟨cs'[0],List.getElem?_eq_getElem (by omega)⟩
   have:=World.block_lt_of_cell? w _ (h2 0 v hv)
   simpa [Addr.add] using this
  ·intro i y hiy
   obtain⟨cs',h1,h2,h3⟩:=hys i y hiy
   refine⟨cs',h1,fun j v hj=> ?_,h3⟩
   rw[←h2 j v hj]
   congr 1
   cases a with
   | mk ab ao asp=>
    simp at hspot
    subst hspot
    unfold Addr.add
    split<;>split<;>simp_all
theorem trod_fields{H:Type}{enc:TypeId × Value→H}{w:World}{fuel:Nat}{t:TypeId}{cs:List Value}{x:DataW H × List MemPlace}{fs:Array Field}(ht:P.underlying t=some (.struct fs))(h:DataW.trod enc P w 0 (fun _=>true) true fuel t cs=some x):
  cs.length=P.cellsOf t∧∃n,∀(i:Nat) (f:Field),fs[i]? =some f→∃y,DataW.trod enc P w 0 (fun _=>true) true n f.type ((cs.drop f.offset).take (P.cellsOf f.type))=some y:=by
 obtain⟨xs,n,_,_,h1,h2,h3⟩:=DataW.trod_struct ht h
 refine⟨h1,n,fun i f hf=> ?_⟩
 have hi:i<fs.size:=(Array.getElem?_eq_some_iff.1 hf).1
 rw[h3 i f hf,List.getElem?_eq_getElem (by omega)]
 exact⟨_,rfl⟩
theorem pair_step{α β:Type}{A:Rp α}{B:Rp β}{S:Nat→Prop}{w:World}{cs:List Value}{o s o':Nat}{x:α}{y:β}(ho:o+s=o')(h1:A.r S w ((cs.drop o).take s) x)(h2:B.r S w (cs.drop o') y):(rPair A B).r S w (cs.drop o) (x,y):=
 ⟨_,_,by subst ho;rw[←List.drop_drop,List.take_append_drop],h1,h2⟩
theorem last_step{β:Type}{B:Rp β}{S:Nat→Prop}{w:World}{cs:List Value}{o s:Nat}{y:β}(hl:cs.length=o+s)(h2:B.r S w ((cs.drop o).take s) y):B.r S w (cs.drop o) y:=by
 rwa [List.take_of_length_le (by simp;omega)] at h2
end
open Go.RowKit
structure Link where
 stream:Int
 backs:List Int
structure Entry where
 links:List Link
 data:List UInt8
structure Batch where
 epoch:Int
 base:Int
 entries:List Entry
structure Seg where
 epoch:Int
 batches:List Batch
def rU64s:Rp (List Int):=rSl 1 (rInt .u64)
def rBytes:Rp (List UInt8):=rSl 1 rByte
def rLink:Rp Link:=rBy (fun l=>(l.stream,l.backs)) (rPair (rInt .u64) rU64s)
def rLinks:Rp (List Link):=rSl 2 rLink
def rEntry:Rp Entry:=rBy (fun e=>(e.links,e.data)) (rPair rLinks rBytes)
def rEntries:Rp (List Entry):=rSl 2 rEntry
def rBatch:Rp Batch:=rBy (fun b=>(b.epoch,b.base,b.entries)) (rPair (rInt .u64) (rPair (rInt .u64) rEntries))
def rBatches:Rp (List Batch):=rSl 3 rBatch
def rSeg:Rp Seg:=rBy (fun g=>(g.epoch,g.batches)) (rPair (rInt .u64) rBatches)
section
variable {S:Nat→Prop} {w:World} {cs:List Value}
theorem sl_form{α:Type}{sz:Nat}{A:Rp α}{xs:List α}(h:(rSl sz A).r S w cs xs):∃a c,cs=[.slice a xs.length c]∧(rSl sz A).r S w [.slice a xs.length c] xs∧xs.length≤9223372036854775807:=by
 obtain⟨a,c,rfl,h1,h2,h3⟩:=h
 exact⟨a,c,rfl,⟨a,c,rfl,h1,h2,h3⟩,by unfold maxLen at h2;omega⟩
theorem sl_len{α:Type}{sz:Nat}{A:Rp α}{xs:List α}{a:Option Addr}{n c:Nat}(h:(rSl sz A).r S w [.slice a n c] xs):n=xs.length∧xs.length≤9223372036854775807∧n≤c∧c≤9223372036854775807:=by
 obtain⟨a',c',e,h1,h2,h3⟩:=h
 simp at e
 obtain⟨_,rfl,rfl⟩:=e
 exact⟨rfl,by unfold maxLen at h2;omega,h1,h2⟩
theorem sl_at{α:Type}{sz:Nat}{A:Rp α}{xs:List α}{a:Option Addr}{n c:Nat}(h:(rSl sz A).r S w [.slice a n c] xs){i:Nat}(hi:i<xs.length):
  ∃b off,a=some ⟨b,off,none⟩∧S b∧∃cs:List Value,cs.length=sz∧(∀j v,cs[j]? =some v→w.cell? ⟨b,off+i*sz+j,none⟩=some v)∧A.r S w cs xs[i]:=by
 obtain⟨a',c',e,h1,h2,h3⟩:=h
 simp at e
 obtain⟨rfl,rfl,rfl⟩:=e
 rcases h3 with rfl | ⟨b,off,rfl,hS,hr⟩
 ·simp at hi
 ·obtain⟨cs,hl,hc,hA⟩:=hr i xs[i] (List.getElem?_eq_getElem hi)
  exact⟨b,off,rfl,hS,cs,hl,hc,hA⟩
theorem link_cells{x:Link}(h:rLink.r S w cs x):∃a c,cs=[.int .u64 x.stream,.slice a x.backs.length c]∧(0≤x.stream∧x.stream≤18446744073709551615)∧rU64s.r S w [.slice a x.backs.length c] x.backs:=by
 obtain⟨c1,c2,rfl,⟨rfl,hw⟩,h2⟩:=h
 obtain⟨a,c,rfl,h3,_⟩:=sl_form h2
 exact⟨a,c,rfl,bounds_u64 hw,h3⟩
theorem entry_cells{x:Entry}(h:rEntry.r S w cs x):∃a c a' c',cs=[.slice a x.links.length c,.slice a' x.data.length c']∧rLinks.r S w [.slice a x.links.length c] x.links∧rBytes.r S w [.slice a' x.data.length c'] x.data:=by
 obtain⟨c1,c2,rfl,h1,h2⟩:=h
 obtain⟨a,c,rfl,h3,_⟩:=sl_form h1
 obtain⟨a',c',rfl,h4,_⟩:=sl_form h2
 exact⟨a,c,a',c',rfl,h3,h4⟩
theorem batch_cells{x:Batch}(h:rBatch.r S w cs x):∃a c,cs=[.int .u64 x.epoch,.int .u64 x.base,.slice a x.entries.length c]∧(0≤x.epoch∧x.epoch≤18446744073709551615)∧(0≤x.base∧x.base≤18446744073709551615)∧rEntries.r S w [.slice a x.entries.length c] x.entries:=by
 obtain⟨c1,c2,rfl,⟨rfl,hw⟩,d1,d2,rfl,⟨rfl,hw2⟩,h2⟩:=h
 obtain⟨a,c,rfl,h3,_⟩:=sl_form h2
 exact⟨a,c,rfl,bounds_u64 hw,bounds_u64 hw2,h3⟩
theorem seg_cells{x:Seg}(h:rSeg.r S w cs x):∃a c,cs=[.int .u64 x.epoch,.slice a x.batches.length c]∧(0≤x.epoch∧x.epoch≤18446744073709551615)∧rBatches.r S w [.slice a x.batches.length c] x.batches:=by
 obtain⟨c1,c2,rfl,⟨rfl,hw⟩,h2⟩:=h
 obtain⟨a,c,rfl,h3,_⟩:=sl_form h2
 exact⟨a,c,rfl,bounds_u64 hw,h3⟩
theorem u64_wf{n:Int}(h:0≤n∧n≤18446744073709551615):(Lit.int .u64 n).wf=true:=by
 simp[Lit.wf,IntKind.min,IntKind.max,IntKind.signed,IntKind.bits];omega
theorem link_mk{x:Link}{a:Option Addr}{n c:Nat}(h0:0≤x.stream∧x.stream≤18446744073709551615)(h:rU64s.r S w [.slice a n c] x.backs):rLink.r S w [.int .u64 x.stream,.slice a n c] x:=⟨[_],[_],rfl,⟨rfl,u64_wf h0⟩,h⟩
theorem u64_at{xs:List Int}{a:Option Addr}{n c:Nat}(h:rU64s.r S w [.slice a n c] xs){i:Nat}(hi:i<xs.length):∃b off,a=some ⟨b,off,none⟩∧S b∧w.cell? ⟨b,off+i,none⟩=some (.int .u64 xs[i])∧0≤xs[i]∧xs[i]≤18446744073709551615:=by
 obtain⟨b,off,e,hS,cs,_,hc,rfl,hw⟩:=sl_at h hi
 have:=hc 0 _ rfl
 rw[Nat.mul_one,Nat.add_zero] at this
 exact⟨b,off,e,hS,this,bounds_u64 hw⟩
theorem byte_at{xs:List UInt8}{a:Option Addr}{n c:Nat}(h:rBytes.r S w [.slice a n c] xs){i:Nat}(hi:i<xs.length):∃b off,a=some ⟨b,off,none⟩∧S b∧w.cell? ⟨b,off+i,none⟩=some (.int .u8 (xs[i].toNat:Int)):=by
 obtain⟨b,off,e,hS,cs,_,hc,rfl⟩:=sl_at h hi
 have:=hc 0 _ rfl
 rw[Nat.mul_one,Nat.add_zero] at this
 exact⟨b,off,e,hS,this⟩
theorem link_at{xs:List Link}{a:Option Addr}{n c:Nat}(h:rLinks.r S w [.slice a n c] xs){i:Nat}(hi:i<xs.length):∃b off,a=some ⟨b,off,none⟩∧S b∧∃a' c',w.cell? ⟨b,off+i*2,none⟩=some (.int .u64 xs[i].stream)∧w.cell? ⟨b,off+i*2+1,none⟩=some (.slice a' xs[i].backs.length c')∧
  (0≤xs[i].stream∧xs[i].stream≤18446744073709551615)∧rU64s.r S w [.slice a' xs[i].backs.length c'] xs[i].backs:=by
 obtain⟨b,off,e,hS,cs,_,hc,hA⟩:=sl_at h hi
 obtain⟨a',c',rfl,h1,h2⟩:=link_cells hA
 exact⟨b,off,e,hS,a',c',hc 0 _ rfl,hc 1 _ rfl,h1,h2⟩
theorem entry_at{xs:List Entry}{a:Option Addr}{n c:Nat}(h:rEntries.r S w [.slice a n c] xs){i:Nat}(hi:i<xs.length):∃b off,a=some ⟨b,off,none⟩∧S b∧∃a1 c1 a2 c2,w.cell? ⟨b,off+i*2,none⟩=some (.slice a1 xs[i].links.length c1)∧w.cell? ⟨b,off+i*2+1,none⟩=some (.slice a2 xs[i].data.length c2)∧
  rLinks.r S w [.slice a1 xs[i].links.length c1] xs[i].links∧rBytes.r S w [.slice a2 xs[i].data.length c2] xs[i].data:=by
 obtain⟨b,off,e,hS,cs,_,hc,hA⟩:=sl_at h hi
 obtain⟨a1,c1,a2,c2,rfl,h1,h2⟩:=entry_cells hA
 exact⟨b,off,e,hS,a1,c1,a2,c2,hc 0 _ rfl,hc 1 _ rfl,h1,h2⟩
theorem batch_at{xs:List Batch}{a:Option Addr}{n c:Nat}(h:rBatches.r S w [.slice a n c] xs){i:Nat}(hi:i<xs.length):∃b off,a=some ⟨b,off,none⟩∧S b∧∃a' c',w.cell? ⟨b,off+i*3,none⟩=some (.int .u64 xs[i].epoch)∧w.cell? ⟨b,off+i*3+1,none⟩=some (.int .u64 xs[i].base)∧w.cell? ⟨b,off+i*3+2,none⟩=some (.slice a' xs[i].entries.length c')∧
  (0≤xs[i].epoch∧xs[i].epoch≤18446744073709551615)∧(0≤xs[i].base∧xs[i].base≤18446744073709551615)∧rEntries.r S w [.slice a' xs[i].entries.length c'] xs[i].entries:=by
 obtain⟨b,off,e,hS,cs,_,hc,hA⟩:=sl_at h hi
 obtain⟨a',c',rfl,h1,h2,h3⟩:=batch_cells hA
 exact⟨b,off,e,hS,a',c',hc 0 _ rfl,hc 1 _ rfl,hc 2 _ rfl,h1,h2,h3⟩
end
theorem lift{α:Type}{A:Rp α}{w w':World}{cs:List Value}{x:α}(h:A.r (·<w.heap.size) w cs x)(hb:Below w.heap.size w w'):A.r (·<w'.heap.size) w' cs x:=
 A.mono (A.below h hb) fun b hlt=>Nat.lt_of_lt_of_le hlt hb.size
def epR(e:Int):Bool:=decide (1≤e∧e<4611686018427387904)
def poR(e:Int):Bool:=decide (e<4611686018427387904)
def fallsB:Int→List Int→Bool
 | _,[]=>true
 | b,x::l=>decide (x<b)&&fallsB x l
def risesB:List Int→Bool
 | []=>true
 | [_]=>true
 | x::y::l=>decide (x<y)&&risesB (y::l)
def linkR(pos:Int)(x:Link):Bool:=decide (x.backs.length≤4)&&fallsB pos x.backs
def linksR(pos:Int)(l:List Link):Bool:=decide (l.length≤16)&&(risesB (l.map Link.stream)&&l.all (linkR pos))
def entryR(pos:Int)(e:Entry):Bool:=linksR pos e.links&&decide (e.data.length≤1048576)
def total(l:List Entry):Nat:=(l.map fun e=>e.data.length).sum
def entriesR:Int→List Entry→Bool
 | _,[]=>true
 | p,e::l=>entryR p e&&entriesR (p+1) l
def fitsR(base:Int)(n:Nat):Bool:=decide (1≤n∧n≤16∧base<4611686018427387904∧base+n≤4611686018427387904)
def batchR(b:Batch):Bool:=epR b.epoch&&(fitsR b.base b.entries.length&&(decide (total b.entries≤1048576)&&entriesR b.base b.entries))
end Go.Bs
namespace Go.Proofs.YtmioakocnebceaaGreat
open Go.RowKit Go.Bs
theorem epoch_right(e:Int)(w:World):Calls Tryz.prog 205 #[.int .u64 e] w fun r w'=>r=.returned (.bool (epR e))∧w=w':=by
 by_cases h1:1≤e
 ·by_cases h2:e<4611686018427387904
  ·have:epR e=true:=by simp[epR,h1,h2]
   rw[this]
   have d1:decide (1≤e)=true:=by simpa using h1
   have d2:decide (e<4611686018427387904)=true:=by simpa using h2
   clear this h1 h2
   go_enter Tryz.func205,Tryz.ntmps205
   go_wp2
   go_ret
   exact⟨rfl,rfl⟩
  ·have:epR e=false:=by simp[epR,h2]
   rw[this]
   have d1:decide (1≤e)=true:=by simpa using h1
   have d2:decide (e<4611686018427387904)=false:=by simpa using h2
   clear this h1 h2
   go_enter Tryz.func205,Tryz.ntmps205
   go_wp2
   go_ret
   exact⟨rfl,rfl⟩
 ·have:epR e=false:=by simp[epR,h1]
  rw[this]
  have d1:decide (1≤e)=false:=by simpa using h1
  clear this h1
  go_enter Tryz.func205,Tryz.ntmps205
  go_wp2
  go_ret
  exact⟨rfl,rfl⟩
theorem epoch_pos(e:Int)(w:World):Calls Tryz.prog 311 #[.int .u64 e] w fun r w'=>r=.returned (.bool (poR e))∧w=w':=by
 go_enter Tryz.func311,Tryz.ntmps311
 go_wp2
 go_ret
 exact⟨rfl,rfl⟩
theorem infoU:(Tryz.prog.info? 25).map (fun i=>(i.zero,i.size,i.bytes))=some (some (.int .u64 0),1,8):=by kernel_rfl
def stepsL:Int→List Int→List Int
 | _,[]=>[]
 | b,x::l=>(b-x-1)::stepsL x l
def ahead(b:Int)(l:List Int)(k:Nat):Int:=if k=0 then b else l.getD (k-1) 0
theorem ahead_succ(b:Int)(l:List Int)(k:Nat)(h:k<l.length):ahead b l (k+1)=l[k]:=by
 unfold ahead;rw[if_neg (by omega)];simp[h]
def StepsRet(below:Int)(l:List Int)(w:World)(e:Ending)(w':World):Prop:=
 ∃v,e=.returned (.tuple #[v,.bool (fallsB below l)])∧rU64s.r (·<w'.heap.size) w' [v] (if fallsB below l then stepsL below l else [])∧Below w.heap.size w w'
theorem own_u64s{w:World}{base:Nat}{e:TypeId}{v:Value}{xs:List Int}(h:w.ownsRow base e 1 v xs.length (xs.map (Value.int .u64)))(hb:∀x∈xs,0≤x∧x≤18446744073709551615)(hm:xs.length≤maxLen):rU64s.r (·<w.heap.size) w [v] xs:=by
 rcases h.2 with ⟨rfl,h0⟩ | ⟨g,cap,cur,rfl,hbg,hg,hn,hc,hcur,hx⟩
 ·have:xs=[]:=List.eq_nil_of_length_eq_zero h0
  subst this
  exact rSl_mk rfl (Nat.le_refl _) (Nat.zero_le _) (.inl rfl)
 ·refine rSl_mk rfl hn hc (.inr ⟨g,0,rfl,Blk.lt hg,fun i x hi=>⟨[.int .u64 x],rfl,fun j v hj=> ?_,rfl,u64_wf (hb x (List.mem_of_getElem? hi))⟩⟩)
  have hj0:j=0:=by
   rcases j with _ | j
   ·rfl
   ·simp at hj
  subst hj0
  simp at hj
  subst hj
  have hi':i<xs.length:=(List.getElem?_eq_some_iff.1 hi).1
  rw[Nat.zero_add,Nat.mul_one,Nat.add_zero,Blk.cell hg i]
  have e1:cur[i]? =(cur.toList.take (xs.length*1))[i]? :=by
   rw[List.getElem?_take,if_pos (by omega)];simp
  rw[e1,hx,List.getElem?_map,hi];rfl
theorem steps_any(below:Int)(l:List Int)(a:Option Addr)(n c:Nat)(w:World)(hb0:0≤below∧below≤18446744073709551615)(hl:rU64s.r (·<w.heap.size) w [.slice a n c] l)(hlen:l.length≤1000000000000):
  Calls Tryz.prog 377 #[.int .u64 below,.slice a n c] w (StepsRet below l w):=by
 obtain⟨rfl,hm,_,_⟩:=sl_len hl
 obtain⟨i0,hi,hz0,hz1,hz2⟩:=info_parts infoU
 have HL:=hid hl;clear hl
 go_enter Tryz.func377,Tryz.ntmps377
 go_wp2
 go_loopw [0,6,11] (fun b v i wr=>∃k:Nat,k≤l.length∧i=.int .i64 k∧b=.int .u64 (ahead below l k)∧0≤ahead below l k∧ahead below l k≤18446744073709551615∧Hid (fallsB below l=fallsB (ahead below l k) (l.drop k))∧
   (∃xs:List Int,Hid (xs.length=k∧(∀x∈xs,0≤x∧x≤18446744073709551615)∧stepsL below l=xs++stepsL (ahead below l k) (l.drop k))∧wr.ownsRow w.heap.size 25 1 v k (xs.map (Value.int .u64)))∧Below w.heap.size w wr) (fun _ _ i _=>l.length-(intOf i).toNat)
 case atStart=>exact ⟨0,Nat.zero_le _,rfl,rfl,hb0.1,hb0.2,hid rfl,⟨[],hid ⟨rfl,by simp,rfl⟩,⟨rfl,.inl ⟨rfl,rfl⟩⟩⟩,Below.refl _ _⟩
 case round=>
  obtain⟨k,hk,rfl,rfl,ha0,ha1,hf,⟨xs,hxs,hown⟩,hb⟩:=hrel
  by_cases hlt:k<l.length
  ·obtain⟨b,o,hA,hbb,hc,hx0,hx1⟩:=u64_at HL.out hlt
   subst hA
   have q:=(hb.cell (p:=⟨b,o+k,none⟩) hbb).trans hc
   clear hc
   have hd:=hid (List.drop_eq_getElem_cons hlt)
   have hsu:=hid (ahead_succ below l k hlt)
   generalize hlk:l[k]=x at*
   clear hlk
   generalize ahead below l k=p at*
   by_cases hge:p≤x
   ·have hff:Hid (fallsB below l=false):=by
     rw[hf.out,hd.out];exact hid (by simp[fallsB];omega)
    go_wp2
    go_ret2
    exact⟨.slice none 0 0,by rw[hff.out];rfl,by rw[hff.out];exact rSl_mk rfl (Nat.le_refl _) (Nat.zero_le _) (.inl rfl),hb⟩
   ·have hbs:=hb.size
    have w1:0≤p-x:=by omega
    have w2:0≤p-x-1:=by omega
    go_wp2_with (at_builtin;refine wpList_append_lies _ rfl _ _ _ rfl w.heap.size 25 i0 (.int .u64 0) 1 8 Tryz.underlying49 hi hz0 hz1 hz2 rfl (by decide) _ k _ rfl (hown.alloc _) ⟨wr.heap.size,0,none⟩ 1 1 [.int .u64 (p-x-1)] rfl rfl (World.news_of_block (Blk.new _ _ _)) (by simp[Value.oneCell']) (by decide) (by simp only[maxLen];omega) (by omega) (by simp;omega) _ rfl ?_;intro g1 cap1 w1' hown1 hgrow1 hat1 hlt1)
    go_roundw
    case rel=>
     refine⟨k+1,by omega,by go_num,by rw[hsu.out],by rw[hsu.out];exact hx0,by rw[hsu.out];exact hx1,?_,⟨xs++[p-x-1],?_,?_⟩,?_⟩
     ·rw[hf.out,hd.out,hsu.out]
      exact hid (by simp only[fallsB];rw[decide_eq_true (by omega)];rfl)
     ·refine hid ⟨by simp[hxs.out.1],?_,?_⟩
      ·intro y hy
       rw[List.mem_append,List.mem_singleton] at hy
       rcases hy with hy | rfl
       ·exact hxs.out.2.1 y hy
       ·omega
      ·rw[hsu.out,hxs.out.2.2,hd.out]
       simp[stepsL]
     ·rw[List.map_append];exact hown1
     ·refine Below.grown ?_ hgrow1 (by simp;omega) (fun g e=>(hown.lt g e).1)
      exact hb.alloc hbs _
    case measure=>simp [intOf];omega
  ·obtain rfl:k=l.length:=by omega
   have hff:Hid (fallsB below l=true):=by
    rw[hf.out,List.drop_length];exact hid rfl
   have hxl:=hxs.out.1
   have hst:Hid (stepsL below l=xs):=hid (by rw[hxs.out.2.2,List.drop_length];simp[stepsL])
   have hv:rU64s.r (·<wr.heap.size) wr [u6] xs:=own_u64s (by rw[hxl];exact hown) hxs.out.2.1 (by unfold maxLen;omega)
   have HV:=hid hv;clear hv hxl
   go_wp2
   go_ret2
   exact⟨u6,by rw[hff.out];rfl,by rw[hff.out,if_pos rfl,hst.out];exact HV.out,hb⟩
theorem delta_falls(below:Int)(l:List Int)(a:Option Addr)(n c:Nat)(w:World)(hb0:0≤below∧below≤18446744073709551615)(hl:rU64s.r (·<w.heap.size) w [.slice a n c] l)(hlen:l.length≤1000000000000):
  Calls Tryz.prog 376 #[.int .u64 below,.slice a n c] w fun r w'=>r=.returned (.bool (fallsB below l))∧Below w.heap.size w w':=by
 have HL:=hid hl;clear hl
 go_enter Tryz.func376,Tryz.ntmps376
 go_wp2_with fail
 refine (steps_any below l a n c _ hb0 HL.out hlen).mono ?_
 rintro e w1 ⟨v,rfl,_,hb1⟩
 go_wp2
 go_ret
 exact⟨rfl,hb1⟩
end Go.Proofs.YtmioakocnebceaaGreat
namespace Go.Bs
open Go.RowKit
deriving instance DecidableEq for Link,Entry,Batch,Seg
theorem bytes_str{P:Program}{S:Nat→Prop}{w:World}{a:Option Addr}{n c:Nat}{l:List UInt8}(src dst e:TypeId)(hs:P.underlying src=some (.slice e))(he:P.underlying e=some (.int .u8))(hd:P.underlying dst=some .string)
  (h:rBytes.r S w [.slice a n c] l):(convert src dst (.slice a l.length c)).run P w=.ok (.string ⟨l.toArray⟩) w:=by
 obtain⟨rfl,_,_,_⟩:=sl_len h
 rcases a with _ | ad
 ·have h0:l=[]:=by
   rcases l with _ | ⟨x,l⟩
   ·rfl
   ·obtain⟨b,off,e,_⟩:=byte_at h (i:=0) (by simp)
    cases e
  subst h0
  exact run_convert_bytes_nil w src e hs he _ _ dst hd
 ·refine run_convert_bytes_back w src dst e ad c l hs he hd fun j hj=> ?_
  obtain⟨b,off,e,_,hc⟩:=byte_at h hj
  simp at e
  subst e
  rw[←hc]
  congr 1
  unfold Addr.add
  split
  ·rename_i h0;subst h0;rfl
  ·rfl
end Go.Bs
namespace Go.Proofs.YtmioakocnebceaaGreat
open Go.RowKit Go.Bs
theorem same_bytes(x y:List UInt8)(a a':Option Addr)(n c n' c':Nat)(w:World)(hx:rBytes.r (·<w.heap.size) w [.slice a n c] x)(hy:rBytes.r (·<w.heap.size) w [.slice a' n' c'] y):
  Calls Tryz.prog 37 #[.slice a n c,.slice a' n' c'] w fun r w'=>r=.returned (.bool (decide (x=y)))∧w=w':=by
 obtain⟨rfl,_,_,_⟩:=sl_len hx
 obtain⟨rfl,_,_,_⟩:=sl_len hy
 have h1:=bytes_str (P:=Tryz.prog) 22 9 5 Tryz.underlying22 Tryz.underlying5 Tryz.underlying9 hx
 have h2:=bytes_str (P:=Tryz.prog) 22 9 5 Tryz.underlying22 Tryz.underlying5 Tryz.underlying9 hy
 have he:(x==y)=decide (x=y):=by
  by_cases h:x=y
  ·simp[h]
  ·simp[h]
 have HE:=hid he;clear he hx hy
 go_enter Tryz.func37,Tryz.ntmps37
 go_wp2
 go_ret
 refine⟨?_,rfl⟩
 rw[←HE.out]
 simp[go_sem]
theorem drop_eq_step{α:Type}[DecidableEq α](x y:List α)(k:Nat)(hx:k<x.length)(hy:k<y.length):decide (x.drop k=y.drop k)=(decide (x[k]=y[k])&&decide (x.drop (k+1)=y.drop (k+1))):=by
 rw[List.drop_eq_getElem_cons hx,List.drop_eq_getElem_cons hy,Bool.eq_iff_iff,decide_eq_true_iff,Bool.and_eq_true,decide_eq_true_iff,decide_eq_true_iff,List.cons.injEq]
theorem same_u64s(x y:List Int)(a a':Option Addr)(n c n' c':Nat)(w:World)(hx:rU64s.r (·<w.heap.size) w [.slice a n c] x)(hy:rU64s.r (·<w.heap.size) w [.slice a' n' c'] y):
  Calls Tryz.prog 170 #[.slice a n c,.slice a' n' c'] w fun r w'=>r=.returned (.bool (decide (x=y)))∧Below w.heap.size w w':=by
 obtain⟨rfl,hm,_,_⟩:=sl_len hx
 obtain⟨rfl,hm',_,_⟩:=sl_len hy
 by_cases hl:x.length=y.length
 ·have HX:=hid hx;clear hx
  have HY:=hid hy;clear hy
  have HL:=hid hl
  have e1:((x.length:Int) !=(y.length:Int))=false:=by simp[hl]
  clear hl
  go_enter Tryz.func170,Tryz.ntmps170
  go_wp2
  go_loopw [5] (fun i wr=>∃k:Nat,k≤x.length∧i=.int .i64 k∧Hid (decide (x=y)=decide (x.drop k=y.drop k))∧Below w.heap.size w wr) (fun i _=>x.length-(intOf i).toNat)
  case atStart=>exact ⟨0,Nat.zero_le _,rfl,hid rfl,Below.refl _ _⟩
  case round=>
   obtain⟨k,hk,rfl,hf,hb⟩:=hrel
   by_cases hlt:k<x.length
   ·have hlt':k<y.length:=by rw[←HL.out];exact hlt
    obtain⟨b,o,hA,hbb,hc,_,_⟩:=u64_at HX.out hlt
    obtain⟨b',o',hA',hbb',hc',_,_⟩:=u64_at HY.out hlt'
    have hst:=hid (drop_eq_step x y k hlt hlt')
    subst hA hA'
    have X0:=fun s:Later wr=>s.cell ((hb.cell (p:=⟨b,o+k,none⟩) hbb).trans hc)
    have X1:=fun s:Later wr=>s.cell ((hb.cell (p:=⟨b',o'+k,none⟩) hbb').trans hc')
    clear hc hc'
    generalize hlk:x[k]=u at*
    generalize hlm:y[k]=v at*
    clear hlk hlm
    have i0:(0:Int)≤(k:Int):=by omega
    have i1:(k:Int)<(x.length:Int):=by omega
    have i2:(k:Int)<(y.length:Int):=by omega
    by_cases huv:u=v
    ·have d1:(u !=v)=false:=by simp[huv]
     have hst':Hid (decide (x.drop k=y.drop k)=decide (x.drop (k+1)=y.drop (k+1))):=hid (by rw[hst.out];simp[huv])
     clear huv
     go_wp2_with fail
     refine wp_region_later (by kernel_rfl) (by kernel_rfl) ?_
     repeat (go_big_quiet_step (fail))
     refine wpQuiet_nil ?_
     rintro W5 ⟨⟨W5',hb5⟩,rfl⟩
     go_wp2
     go_roundw
     case rel=>exact ⟨k+1,by omega,by go_num,hid (by rw[hf.out,hst'.out]),below_then hb5 hb⟩
     case measure=>simp [intOf];omega
    ·have d1:(u !=v)=true:=by simp[huv]
     have hff:Hid (decide (x=y)=false):=hid (by rw[hf.out,hst.out];simp[huv])
     clear huv
     go_wp2_with fail
     refine wp_region_later (by kernel_rfl) (by kernel_rfl) ?_
     repeat (go_big_quiet_step (fail))
     refine wpQuiet_nil ?_
     rintro W5 ⟨⟨W5',hb5⟩,rfl⟩
     go_wp2
     go_ret
     exact⟨by rw[hff.out];rfl,below_then hb5 hb⟩
   ·obtain rfl:k=x.length:=by omega
    have hff:Hid (decide (x=y)=true):=hid (by rw[hf.out,List.drop_length,List.drop_of_length_le (by rw[HL.out];exact Nat.le_refl _)];rfl)
    go_wp2
    go_ret
    exact⟨by rw[hff.out];rfl,hb⟩
 ·have hff:Hid (decide (x=y)=false):=hid (by simp;rintro rfl;exact hl rfl)
  have e1:((x.length:Int) !=(y.length:Int))=true:=by simp;omega
  clear hl hx hy
  go_enter Tryz.func170,Tryz.ntmps170
  go_wp2
  go_ret
  exact⟨by rw[hff.out];rfl,Below.refl _ _⟩
def risesAt(l:List Int)(k:Nat):Bool:=if k=0 then risesB l else risesB (l.drop (k-1))
theorem risesAt_one(l:List Int):risesAt l 1=risesAt l 0:=by simp[risesAt]
theorem risesAt_step(l:List Int)(m:Nat)(h:m+1<l.length):risesAt l (m+1)=(decide (l[m]<l[m+1])&&risesAt l (m+2)):=by
 have e1:l.drop m=l[m]::l[m+1]::l.drop (m+2):=by
  rw[List.drop_eq_getElem_cons (show m<l.length by omega),List.drop_eq_getElem_cons h]
 have e2:l.drop (m+1)=l[m+1]::l.drop (m+2):=List.drop_eq_getElem_cons h
 show risesB (l.drop m)=(_&&risesB (l.drop (m+1)))
 rw[e1,e2];rfl
theorem risesAt_end(l:List Int):risesAt l l.length=true:=by
 unfold risesAt
 split
 ·rename_i h;rw[List.eq_nil_of_length_eq_zero h];rfl
 ·rename_i h
  have e:l.drop (l.length-1)=[l[l.length-1]]:=by
   rw[List.drop_eq_getElem_cons (show l.length-1<l.length by omega),List.drop_of_length_le (by omega)]
  rw[e];rfl
theorem link_stream(s:Int)(v:Value)(h1:v.oneCell'=true)(w:World):Calls Tryz.prog 374 #[.agg #[.int .u64 s,v]] w fun r w'=>r=.returned (.int .u64 s)∧Below w.heap.size w w':=by
 go_enter Tryz.func374,Tryz.ntmps374
 go_wp2
 go_ret
 exact⟨rfl,by (repeat (first | exact Below.refl _ _ | assumption | (refine below_alloc ?_ _) | (refine Below.setCell ?_ (by first | omega | (simp;done) | (simp;omega)) _) | (refine Below.drew ?_) | (refine below_drewN ?_ _) | (refine below_then (by assumption) ?_)))⟩
theorem link_rises(l:List Link)(a:Option Addr)(n c:Nat)(w:World)(hl:rLinks.r (·<w.heap.size) w [.slice a n c] l):
  Calls Tryz.prog 373 #[.slice a n c,.func (.func 374) #[] #[]] w fun r w'=>r=.returned (.bool (risesB (l.map Link.stream)))∧Below w.heap.size w w':=by
 obtain⟨rfl,hm,_,_⟩:=sl_len hl
 have HL:=hid hl;clear hl
 go_enter Tryz.func373,Tryz.ntmps373
 go_wp2
 go_loopw [8] (fun i wr=>∃k:Nat,k≤l.length∧i=.int .i64 k∧Hid (risesB (l.map Link.stream)=risesAt (l.map Link.stream) k)∧Below w.heap.size w wr) (fun i _=>l.length-(intOf i).toNat)
 case atStart=>exact ⟨0,Nat.zero_le _,rfl,hid rfl,Below.refl _ _⟩
 case round=>
  obtain⟨k,hk,rfl,hf,hb⟩:=hrel
  by_cases hlt:k<l.length
  ·obtain⟨b,o,hA,hbb,a1,c1,hc0,hc1,_,_⟩:=link_at HL.out hlt
   have hlt':(k:Int)<(l.length:Int):=by omega
   rcases k with _ | m
   ·have h1:=hid (risesAt_one (l.map Link.stream))
    go_wp2_with fail
    refine wp_region_later (by kernel_rfl) (by kernel_rfl) ?_
    repeat (go_big_quiet_step (fail))
    refine wpQuiet_nil ?_
    rintro W5 ⟨⟨W5',hb5⟩,rfl⟩
    go_wp2
    go_roundw
    case rel=>exact ⟨1,by omega,rfl,hid (by rw[hf.out,h1.out]),below_then hb5 hb⟩
    case measure=>simp [intOf];omega
   ·obtain⟨b',o',hA',hbb',a2,c2,hd0,hd1,_,_⟩:=link_at HL.out (show m<l.length by omega)
    have hst:=hid (risesAt_step (l.map Link.stream) m (by simpa using hlt))
    subst hA
    obtain⟨rfl,rfl⟩:b'=b∧o'=o:=by simp at hA';exact⟨hA'.1.symm,hA'.2.symm⟩
    clear hA'
    have X0:=fun s:Later wr=>s.cell ((hb.cell (p:=⟨b',o'+(m+1)*2,none⟩) hbb).trans hc0)
    have X1:=fun s:Later wr=>s.cell ((hb.cell (p:=⟨b',o'+(m+1)*2+1,none⟩) hbb).trans hc1)
    have Y0:=fun s:Later wr=>s.cell ((hb.cell (p:=⟨b',o'+m*2,none⟩) hbb).trans hd0)
    have Y1:=fun s:Later wr=>s.cell ((hb.cell (p:=⟨b',o'+m*2+1,none⟩) hbb).trans hd1)
    clear hc0 hc1 hd0 hd1
    simp only[List.getElem_map] at hst
    generalize l[m+1].stream=x at*
    generalize l[m].stream=y at*
    generalize l[m+1].backs.length=n1 at*
    generalize l[m].backs.length=n2 at*
    rw[show ((m+1:Nat):Int)=(m:Int)+1 from by omega]
    have k1:(0:Int)<(m:Int)+1:=by omega
    have k2:(0:Int)≤(m:Int)+1-1:=by omega
    have k3:(m:Int)+1<(l.length:Int):=by omega
    have k4:(m:Int)<(l.length:Int):=by omega
    by_cases hge:x≤y
    ·have d1:decide (x≤y)=true:=by simpa using hge
     have hff:Hid (risesB (l.map Link.stream)=false):=hid (by rw[hf.out,hst.out];simp;omega)
     clear hge
     go_wp2_with fail
     refine wp_region_later (by kernel_rfl) (by kernel_rfl) ?_
     repeat (go_big_quiet_step (((go_at_call 374;exact later_of (link_stream _ _ rfl _)))))
     refine wpQuiet_nil ?_
     rintro W5 ⟨⟨W5',hb5⟩,rfl⟩
     go_wp2
     go_ret
     exact⟨by rw[hff.out];rfl,below_then hb5 hb⟩
    ·have d1:decide (x≤y)=false:=by simpa using hge
     have hst':Hid (risesAt (l.map Link.stream) (m+1)=risesAt (l.map Link.stream) (m+2)):=hid (by rw[hst.out,decide_eq_true (by omega)];rfl)
     clear hge
     go_wp2_with fail
     refine wp_region_later (by kernel_rfl) (by kernel_rfl) ?_
     repeat (go_big_quiet_step (((go_at_call 374;exact later_of (link_stream _ _ rfl _)))))
     refine wpQuiet_nil ?_
     rintro W5 ⟨⟨W5',hb5⟩,rfl⟩
     go_wp2
     go_roundw
     case rel=>exact ⟨m+2,by omega,by go_num,hid (by rw[hf.out,hst'.out]),below_then hb5 hb⟩
     case measure=>simp [intOf];omega
  ·obtain rfl:k=l.length:=by omega
   have hff:Hid (risesB (l.map Link.stream)=true):=hid (by
    have:=risesAt_end (l.map Link.stream)
    rw[List.length_map] at this
    rw[hf.out,this])
   go_wp2
   go_ret
   exact⟨by rw[hff.out];rfl,hb⟩
theorem link_wrong(pos:Int)(x:Link)(a:Option Addr)(n c:Nat)(blk:Nat)(w:World)(hpos:0≤pos∧pos≤18446744073709551615)(hx:rU64s.r (·<w.heap.size) w [.slice a n c] x.backs)(hlen:x.backs.length≤1000000000000)
  (hc:w.cell? ⟨blk,0,none⟩=some (.int .u64 pos)):
  Calls Tryz.prog 375 #[.agg #[.int .u64 x.stream,.slice a n c],.pointer (some ⟨blk,0,none⟩)] w fun r w'=>r=.returned (.bool (!linkR pos x))∧Below w.heap.size w w':=by
 obtain⟨rfl,hm,_,_⟩:=sl_len hx
 have hlt:=World.block_lt_of_cell? w _ hc
 have X0:=(Later.mk _ ((Below.refl w.heap.size w).alloc (Nat.le_refl _) (.cells #[.int .u64 x.stream,.slice a x.backs.length c] 184))).cell hc
 by_cases h4:4<x.backs.length
 ·have hff:linkR pos x=false:=by simp[linkR];omega
  rw[hff]
  clear hff hx hc
  go_enter Tryz.func375,Tryz.ntmps375
  go_wp2
  go_ret
  exact⟨rfl,by (repeat (first | exact Below.refl _ _ | assumption | (refine below_alloc ?_ _) | (refine Below.setCell ?_ (by first | omega | (simp;done) | (simp;omega)) _) | (refine Below.drew ?_) | (refine below_drewN ?_ _) | (refine below_then (by assumption) ?_)))⟩
 ·have hff:linkR pos x=fallsB pos x.backs:=by simp only[linkR];rw[decide_eq_true (by omega)];rfl
  rw[hff]
  have d4:decide (4<(x.backs.length:Int))=false:=by simp;omega
  have HX:=hid hx;clear hx hff
  go_enter Tryz.func375,Tryz.ntmps375
  go_wp2_with fail
  refine (delta_falls pos x.backs _ _ _ _ hpos (lift HX.out (by (repeat (first | exact Below.refl _ _ | assumption | (refine below_alloc ?_ _) | (refine Below.setCell ?_ (by first | omega | (simp;done) | (simp;omega)) _) | (refine Below.drew ?_) | (refine below_drewN ?_ _) | (refine below_then (by assumption) ?_))))) hlen).mono ?_
  rintro e w1 ⟨rfl,hb1⟩
  go_wp2
  go_ret
  exact⟨rfl,by (repeat (first | exact Below.refl _ _ | assumption | (refine below_alloc ?_ _) | (refine Below.setCell ?_ (by first | omega | (simp;done) | (simp;omega)) _) | (refine Below.drew ?_) | (refine below_drewN ?_ _) | (refine below_then (by assumption) ?_)))⟩
theorem takeWhile_step{α:Type}(p:α→Bool)(l:List α)(k:Nat)(h:k<l.length):(l.drop k).takeWhile p=if p l[k] then l[k]::(l.drop (k+1)).takeWhile p else []:=by
 rw[List.drop_eq_getElem_cons h,List.takeWhile_cons]
theorem takeWhile_all{α:Type}(p:α→Bool)(l:List α):decide ((l.takeWhile p).length=l.length)=l.all p:=by
 induction l with
 | nil=>rfl
 | cons x l ih=>
  rw[List.takeWhile_cons,List.all_cons]
  cases h:p x
  ·simp
  ·simp only[if_true,List.length_cons,Nat.add_right_cancel_iff,Bool.true_and];exact ih
theorem link_place(pos:Int)(l:List Link)(a:Option Addr)(n c:Nat)(blk:Nat)(w:World)(hpos:0≤pos∧pos≤18446744073709551615)(hl:rLinks.r (·<w.heap.size) w [.slice a n c] l)(hbk:∀x∈l,x.backs.length≤1000000000000)
  (hc:w.cell? ⟨blk,0,none⟩=some (.int .u64 pos)):
  Calls Tryz.prog 346 #[.slice a n c,.func (.func 375) #[] #[.pointer (some ⟨blk,0,none⟩)]] w fun r w'=>r=.returned (.int .i64 ((l.takeWhile (linkR pos)).length:Nat))∧Below w.heap.size w w':=by
 obtain⟨rfl,hm,_,_⟩:=sl_len hl
 have HL:=hid hl;clear hl
 have HB:=hid hbk;clear hbk
 have hblk:=World.block_lt_of_cell? w _ hc
 have HC:=hid hc;clear hc
 go_enter Tryz.func346,Tryz.ntmps346
 go_wp2
 go_loopw [9] (fun i wr=>∃k:Nat,k≤l.length∧i=.int .i64 k∧Hid ((l.takeWhile (linkR pos)).length=k+((l.drop k).takeWhile (linkR pos)).length)∧Below w.heap.size w wr) (fun i _=>l.length-(intOf i).toNat)
 case atStart=>exact ⟨0,Nat.zero_le _,rfl,hid (by simp),Below.refl _ _⟩
 case round=>
  obtain⟨k,hk,rfl,hf,hb⟩:=hrel
  by_cases hlt:k<l.length
  ·obtain⟨b,o,hA,hbb,a1,c1,hc0,hc1,_,hbs⟩:=link_at HL.out hlt
   subst hA
   have X0:=(hb.cell (p:=⟨b,o+k*2,none⟩) hbb).trans hc0
   have X1:=(hb.cell (p:=⟨b,o+k*2+1,none⟩) hbb).trans hc1
   clear hc0 hc1
   have hbl:=HB.out _ (List.getElem_mem hlt)
   have hst:=hid (takeWhile_step (linkR pos) l k hlt)
   have HBS:=hid hbs;clear hbs
   generalize hlk:l[k]=x at*
   clear hlk
   have hzz:=hb.size
   go_wp2_with fail
   refine (link_wrong pos x _ _ _ blk _ hpos (lift HBS.out (by (repeat (first | exact Below.refl _ _ | assumption | (refine below_alloc ?_ _) | (refine Below.setCell ?_ (by first | omega | (simp;done) | (simp;omega)) _) | (refine Below.drew ?_) | (refine below_drewN ?_ _) | (refine below_then (by assumption) ?_))))) hbl ?_).mono ?_
   ·have:=(Later.mk wr hb).cell HC.out
    exact (Later.mk _ ((Below.refl wr.heap.size wr).alloc (Nat.le_refl _) _)).cell this
   rintro e w1 ⟨rfl,hb1⟩
   have hb2:Below w.heap.size w w1:=by (repeat (first | exact Below.refl _ _ | assumption | (refine below_alloc ?_ _) | (refine Below.setCell ?_ (by first | omega | (simp;done) | (simp;omega)) _) | (refine Below.drew ?_) | (refine below_drewN ?_ _) | (refine below_then (by assumption) ?_)))
   cases hr:linkR pos x
   ·have hff:Hid ((l.takeWhile (linkR pos)).length=k):=hid (by rw[hf.out,hst.out,hr];simp)
    clear hr
    go_wp2
    go_ret
    exact⟨by rw[hff.out];rfl,hb2⟩
   ·have hff:Hid ((l.takeWhile (linkR pos)).length=(k+1)+((l.drop (k+1)).takeWhile (linkR pos)).length):=hid (by rw[hf.out,hst.out,hr];simp;omega)
    clear hr
    go_wp2
    go_roundw
    case rel=>exact ⟨k+1,by omega,by go_num,hff,hb2⟩
    case measure=>simp [intOf];omega
  ·obtain rfl:k=l.length:=by omega
   have hff:Hid ((l.takeWhile (linkR pos)).length=l.length):=hid (by rw[hf.out,List.drop_length];simp)
   go_wp2
   go_ret
   exact⟨by rw[hff.out];rfl,hb⟩
theorem link_right(pos:Int)(l:List Link)(a:Option Addr)(n c:Nat)(w:World)(hpos:0≤pos∧pos≤18446744073709551615)(hl:rLinks.r (·<w.heap.size) w [.slice a n c] l)(hbk:∀x∈l,x.backs.length≤1000000000000):
  Calls Tryz.prog 323 #[.int .u64 pos,.slice a n c] w fun r w'=>r=.returned (.bool (linksR pos l))∧Below w.heap.size w w':=by
 obtain⟨rfl,hm,_,_⟩:=sl_len hl
 have HL:=hid hl;clear hl
 have HB:=hid hbk;clear hbk
 by_cases h16:16<l.length
 ·have hff:Hid (linksR pos l=false):=hid (by simp[linksR];omega)
  go_enter Tryz.func323,Tryz.ntmps323
  go_wp2
  go_ret
  exact⟨by rw[hff.out];rfl,by (repeat (first | exact Below.refl _ _ | assumption | (refine below_alloc ?_ _) | (refine Below.setCell ?_ (by first | omega | (simp;done) | (simp;omega)) _) | (refine Below.drew ?_) | (refine below_drewN ?_ _) | (refine below_then (by assumption) ?_)))⟩
 ·have hff:Hid (linksR pos l=(risesB (l.map Link.stream)&&l.all (linkR pos))):=hid (by simp only[linksR];rw[decide_eq_true (by omega)];rfl)
  have hta:=hid (takeWhile_all (linkR pos) l)
  go_enter Tryz.func323,Tryz.ntmps323
  go_wp2_with fail
  refine (link_rises l _ _ _ _ (lift HL.out (by (repeat (first | exact Below.refl _ _ | assumption | (refine below_alloc ?_ _) | (refine Below.setCell ?_ (by first | omega | (simp;done) | (simp;omega)) _) | (refine Below.drew ?_) | (refine below_drewN ?_ _) | (refine below_then (by assumption) ?_)))))).mono ?_
  rintro e w1 ⟨rfl,hb1⟩
  have hb2:Below w.heap.size w w1:=by (repeat (first | exact Below.refl _ _ | assumption | (refine below_alloc ?_ _) | (refine Below.setCell ?_ (by first | omega | (simp;done) | (simp;omega)) _) | (refine Below.drew ?_) | (refine below_drewN ?_ _) | (refine below_then (by assumption) ?_)))
  cases hr:risesB (l.map Link.stream)
  ·have hf2:Hid (linksR pos l=false):=hid (by rw[hff.out,hr];rfl)
   clear hr
   go_wp2
   go_ret
   exact⟨by rw[hf2.out];rfl,hb2⟩
  ·have hf2:Hid (linksR pos l=l.all (linkR pos)):=hid (by rw[hff.out,hr];rfl)
   clear hr
   go_wp2_with fail
   refine (link_place pos l _ _ _ w.heap.size _ hpos (lift HL.out hb2) HB.out ?_).mono ?_
   ·exact (Later.mk w1 hb1).cell (by go_simp)
   rintro e w3 ⟨rfl,hb3⟩
   have hlt:=(List.takeWhile_sublist (l:=l) (linkR pos)).length_le
   generalize hg:(l.takeWhile (linkR pos)).length=t at*
   have hg':=hid hg;clear hg
   go_wp2
   go_ret
   refine⟨?_,by (repeat (first | exact Below.refl _ _ | assumption | (refine below_alloc ?_ _) | (refine Below.setCell ?_ (by first | omega | (simp;done) | (simp;omega)) _) | (refine Below.drew ?_) | (refine below_drewN ?_ _) | (refine below_then (by assumption) ?_)))⟩
   rw[hf2.out,←hta.out]
   by_cases h:t=l.length
   ·subst h;simp
   ·have:¬((t:Int)=(l.length:Int)):=by omega
    simp[h,this]
theorem ref23_one(x y:Link)(a a':Option Addr)(n c n' c':Nat)(w:World)(hx:rU64s.r (·<w.heap.size) w [.slice a n c] x.backs)(hy:rU64s.r (·<w.heap.size) w [.slice a' n' c'] y.backs):
  Calls Tryz.prog 239 #[.agg #[.int .u64 x.stream,.slice a n c],.agg #[.int .u64 y.stream,.slice a' n' c']] w fun r w'=>r=.returned (.bool (decide (x=y)))∧Below w.heap.size w w':=by
 have he:decide (x=y)=(decide (x.stream=y.stream)&&decide (x.backs=y.backs)):=by
  rw[Bool.eq_iff_iff];cases x;cases y;simp
 have HE:=hid he;clear he
 have HX:=hid hx;clear hx
 have HY:=hid hy;clear hy
 by_cases h:x.stream=y.stream
 ·have e1:(x.stream==y.stream)=true:=by simp[h]
  have hff:Hid (decide (x=y)=decide (x.backs=y.backs)):=hid (by rw[HE.out];simp[h])
  clear h
  go_enter Tryz.func239,Tryz.ntmps239
  go_wp2_with fail
  refine (same_u64s x.backs y.backs _ _ _ _ _ _ _ (lift HX.out (by (repeat (first | exact Below.refl _ _ | assumption | (refine below_alloc ?_ _) | (refine Below.setCell ?_ (by first | omega | (simp;done) | (simp;omega)) _) | (refine Below.drew ?_) | (refine below_drewN ?_ _) | (refine below_then (by assumption) ?_))))) (lift HY.out (by (repeat (first | exact Below.refl _ _ | assumption | (refine below_alloc ?_ _) | (refine Below.setCell ?_ (by first | omega | (simp;done) | (simp;omega)) _) | (refine Below.drew ?_) | (refine below_drewN ?_ _) | (refine below_then (by assumption) ?_)))))).mono ?_
  rintro e w1 ⟨rfl,hb1⟩
  go_wp2
  go_ret
  exact⟨by rw[hff.out];rfl,by (repeat (first | exact Below.refl _ _ | assumption | (refine below_alloc ?_ _) | (refine Below.setCell ?_ (by first | omega | (simp;done) | (simp;omega)) _) | (refine Below.drew ?_) | (refine below_drewN ?_ _) | (refine below_then (by assumption) ?_)))⟩
 ·have e1:(x.stream==y.stream)=false:=by simp[h]
  have hff:Hid (decide (x=y)=false):=hid (by rw[HE.out];simp[h])
  clear h
  go_enter Tryz.func239,Tryz.ntmps239
  go_wp2
  go_ret
  exact⟨by rw[hff.out];rfl,by (repeat (first | exact Below.refl _ _ | assumption | (refine below_alloc ?_ _) | (refine Below.setCell ?_ (by first | omega | (simp;done) | (simp;omega)) _) | (refine Below.drew ?_) | (refine below_drewN ?_ _) | (refine below_then (by assumption) ?_)))⟩
theorem ref23_same(x y:List Link)(a a':Option Addr)(n c n' c':Nat)(w:World)(hx:rLinks.r (·<w.heap.size) w [.slice a n c] x)(hy:rLinks.r (·<w.heap.size) w [.slice a' n' c'] y):
  Calls Tryz.prog 125 #[.slice a n c,.slice a' n' c'] w fun r w'=>r=.returned (.bool (decide (x=y)))∧Below w.heap.size w w':=by
 obtain⟨rfl,hm,_,_⟩:=sl_len hx
 obtain⟨rfl,hm',_,_⟩:=sl_len hy
 by_cases hl:x.length=y.length
 ·have HX:=hid hx;clear hx
  have HY:=hid hy;clear hy
  have HL:=hid hl
  have e1:((x.length:Int) !=(y.length:Int))=false:=by simp[hl]
  clear hl
  go_enter Tryz.func125,Tryz.ntmps125
  go_wp2
  go_loopw [5] (fun i wr=>∃k:Nat,k≤x.length∧i=.int .i64 k∧Hid (decide (x=y)=decide (x.drop k=y.drop k))∧Below w.heap.size w wr) (fun i _=>x.length-(intOf i).toNat)
  case atStart=>exact ⟨0,Nat.zero_le _,rfl,hid rfl,Below.refl _ _⟩
  case round=>
   obtain⟨k,hk,rfl,hf,hb⟩:=hrel
   by_cases hlt:k<x.length
   ·have hlt':k<y.length:=by rw[←HL.out];exact hlt
    obtain⟨b,o,hA,hbb,a1,c1,hc0,hc1,_,hr1⟩:=link_at HX.out hlt
    obtain⟨b',o',hA',hbb',a2,c2,hd0,hd1,_,hr2⟩:=link_at HY.out hlt'
    have hst:=hid (drop_eq_step x y k hlt hlt')
    subst hA hA'
    have X0:=fun s:Later wr=>s.cell ((hb.cell (p:=⟨b,o+k*2,none⟩) hbb).trans hc0)
    have X1:=fun s:Later wr=>s.cell ((hb.cell (p:=⟨b,o+k*2+1,none⟩) hbb).trans hc1)
    have Y0:=fun s:Later wr=>s.cell ((hb.cell (p:=⟨b',o'+k*2,none⟩) hbb').trans hd0)
    have Y1:=fun s:Later wr=>s.cell ((hb.cell (p:=⟨b',o'+k*2+1,none⟩) hbb').trans hd1)
    clear hc0 hc1 hd0 hd1
    generalize hlk:x[k]=u at*
    generalize hlm:y[k]=v at*
    clear hlk hlm
    have hs1:=hid (lift hr1 hb)
    have hs2:=hid (lift hr2 hb)
    clear hr1 hr2
    have hO:=fun s:Later wr=>ref23_one u v a1 a2 _ c1 _ c2 s.at_ (lift hs1.out s.below) (lift hs2.out s.below)
    have i0:(0:Int)≤(k:Int):=by omega
    have i1:(k:Int)<(x.length:Int):=by omega
    have i2:(k:Int)<(y.length:Int):=by omega
    by_cases huv:u=v
    ·rw[decide_eq_true huv] at hO
     have HO:=hid hO;clear hO
     have hst':Hid (decide (x.drop k=y.drop k)=decide (x.drop (k+1)=y.drop (k+1))):=hid (by rw[hst.out];simp[huv])
     clear huv
     go_wp2_with fail
     refine wp_region_later (by kernel_rfl) (by kernel_rfl) ?_
     repeat (go_big_quiet_step (((go_at_call 239;exact later_of (HO.out _)))))
     refine wpQuiet_nil ?_
     rintro W5 ⟨⟨W5',hb5⟩,rfl⟩
     go_wp2
     go_roundw
     case rel=>exact ⟨k+1,by omega,by go_num,hid (by rw[hf.out,hst'.out]),below_then hb5 hb⟩
     case measure=>simp [intOf];omega
    ·rw[decide_eq_false huv] at hO
     have HO:=hid hO;clear hO
     have hff:Hid (decide (x=y)=false):=hid (by rw[hf.out,hst.out];simp[huv])
     clear huv
     go_wp2_with fail
     refine wp_region_later (by kernel_rfl) (by kernel_rfl) ?_
     repeat (go_big_quiet_step (((go_at_call 239;exact later_of (HO.out _)))))
     refine wpQuiet_nil ?_
     rintro W5 ⟨⟨W5',hb5⟩,rfl⟩
     go_wp2
     go_ret
     exact⟨by rw[hff.out];rfl,below_then hb5 hb⟩
   ·obtain rfl:k=x.length:=by omega
    have hff:Hid (decide (x=y)=true):=hid (by rw[hf.out,List.drop_length,List.drop_of_length_le (by rw[HL.out];exact Nat.le_refl _)];rfl)
    go_wp2
    go_ret
    exact⟨by rw[hff.out];rfl,hb⟩
 ·have hff:Hid (decide (x=y)=false):=hid (by simp;rintro rfl;exact hl rfl)
  have e1:((x.length:Int) !=(y.length:Int))=true:=by simp;omega
  clear hl hx hy
  go_enter Tryz.func125,Tryz.ntmps125
  go_wp2
  go_ret
  exact⟨by rw[hff.out];rfl,Below.refl _ _⟩
theorem ref24_same(x y:Entry)(a1 a2 a3 a4:Option Addr)(n1 c1 n2 c2 n3 c3 n4 c4:Nat)(w:World)(hx:rLinks.r (·<w.heap.size) w [.slice a1 n1 c1] x.links)(hx':rBytes.r (·<w.heap.size) w [.slice a3 n3 c3] x.data)
  (hy:rLinks.r (·<w.heap.size) w [.slice a2 n2 c2] y.links) (hy':rBytes.r (·<w.heap.size) w [.slice a4 n4 c4] y.data):
  Calls Tryz.prog 50 #[.agg #[.slice a1 n1 c1,.slice a3 n3 c3],.agg #[.slice a2 n2 c2,.slice a4 n4 c4]] w fun r w'=>r=.returned (.bool (decide (x=y)))∧Below w.heap.size w w':=by
 have he:decide (x=y)=(decide (x.links=y.links)&&decide (x.data=y.data)):=by
  rw[Bool.eq_iff_iff];cases x;cases y;simp
 have HE:=hid he;clear he
 have HX:=hid hx;clear hx
 have HY:=hid hy;clear hy
 have HX':=hid hx';clear hx'
 have HY':=hid hy';clear hy'
 go_enter Tryz.func50,Tryz.ntmps50
 go_wp2_with fail
 refine (ref23_same x.links y.links _ _ _ _ _ _ _ (lift HX.out (by (repeat (first | exact Below.refl _ _ | assumption | (refine below_alloc ?_ _) | (refine Below.setCell ?_ (by first | omega | (simp;done) | (simp;omega)) _) | (refine Below.drew ?_) | (refine below_drewN ?_ _) | (refine below_then (by assumption) ?_))))) (lift HY.out (by (repeat (first | exact Below.refl _ _ | assumption | (refine below_alloc ?_ _) | (refine Below.setCell ?_ (by first | omega | (simp;done) | (simp;omega)) _) | (refine Below.drew ?_) | (refine below_drewN ?_ _) | (refine below_then (by assumption) ?_)))))).mono ?_
 rintro e w1 ⟨rfl,hb1⟩
 have hb2:Below w.heap.size w w1:=by (repeat (first | exact Below.refl _ _ | assumption | (refine below_alloc ?_ _) | (refine Below.setCell ?_ (by first | omega | (simp;done) | (simp;omega)) _) | (refine Below.drew ?_) | (refine below_drewN ?_ _) | (refine below_then (by assumption) ?_)))
 obtain⟨hc1,hf1⟩:=bcell hb1
 by_cases h:x.links=y.links
 ·have hff:Hid (decide (x=y)=decide (x.data=y.data)):=hid (by rw[HE.out,decide_eq_true h];rfl)
  rw[decide_eq_true h]
  clear h
  go_wp2_with fail
  refine (same_bytes x.data y.data _ _ _ _ _ _ _ (lift HX'.out hb2) (lift HY'.out hb2)).mono ?_
  rintro e w' ⟨rfl,rfl⟩
  go_wp2
  go_ret
  exact⟨by rw[hff.out];rfl,hb2⟩
 ·have hff:Hid (decide (x=y)=false):=hid (by rw[HE.out,decide_eq_false h];rfl)
  rw[decide_eq_false h]
  clear h
  go_wp2
  go_ret
  exact⟨by rw[hff.out];rfl,hb2⟩
theorem entry_right(pos:Int)(x:Entry)(a1 a3:Option Addr)(n1 c1 n3 c3:Nat)(w:World)(hpos:0≤pos∧pos≤18446744073709551615)(hbk:∀l∈x.links,l.backs.length≤1000000000000)(hx:rLinks.r (·<w.heap.size) w [.slice a1 n1 c1] x.links)(hx':rBytes.r (·<w.heap.size) w [.slice a3 n3 c3] x.data):
  Calls Tryz.prog 253 #[.int .u64 pos,.agg #[.slice a1 n1 c1,.slice a3 n3 c3]] w fun r w'=>r=.returned (.bool (entryR pos x))∧Below w.heap.size w w':=by
 obtain⟨rfl,hm,_,_⟩:=sl_len hx'
 have HX:=hid hx;clear hx hx'
 go_enter Tryz.func253,Tryz.ntmps253
 go_wp2_with fail
 refine (link_right pos x.links _ _ _ _ hpos (lift HX.out (by (repeat (first | exact Below.refl _ _ | assumption | (refine below_alloc ?_ _) | (refine Below.setCell ?_ (by first | omega | (simp;done) | (simp;omega)) _) | (refine Below.drew ?_) | (refine below_drewN ?_ _) | (refine below_then (by assumption) ?_))))) hbk).mono ?_
 rintro e w1 ⟨rfl,hb1⟩
 have hb2:Below w.heap.size w w1:=by (repeat (first | exact Below.refl _ _ | assumption | (refine below_alloc ?_ _) | (refine Below.setCell ?_ (by first | omega | (simp;done) | (simp;omega)) _) | (refine Below.drew ?_) | (refine below_drewN ?_ _) | (refine below_then (by assumption) ?_)))
 obtain⟨hc1,hf1⟩:=bcell hb1
 cases h:linksR pos x.links
 ·have hff:Hid (entryR pos x=false):=hid (by simp[entryR,h])
  clear h
  go_wp2
  go_ret
  exact⟨by rw[hff.out];rfl,hb2⟩
 ·have hff:Hid (entryR pos x=decide (x.data.length≤1048576)):=hid (by simp[entryR,h])
  clear h
  go_wp2
  go_ret
  refine⟨?_,hb2⟩
  rw[hff.out]
  by_cases h:x.data.length≤1048576
  ·rw[decide_eq_true h];simp;omega
  ·rw[decide_eq_false h];simp;omega
end Go.Proofs.YtmioakocnebceaaGreat
namespace Go.Bs
open Go.RowKit
section
variable {P:Program} {w:World}
def Src(w:World)(A:Option Addr)(m sz:Nat)(news:List Value):Prop:=
 news.length=m*sz∧(m=0∨∃b o,A=some ⟨b,o,none⟩∧∀j u,news[j]? =some u→w.cell? ⟨b,o+j,none⟩=some u)
theorem run_append_nilsrc(base:Nat)(t ty e:TypeId)(i:TypeInfo)(size:Nat)(ht:P.underlying t=some (.slice e))(hi:P.info? e=some i)
  (v:Value) (n:Nat) (xs:List Value) (hown:w.ownsRow base e size v n xs) (c:Nat):(Builtin.append_ #[t,t] ty #[v,.slice none 0 c]).run P w=.ok v w:=by
 rcases hown.2 with ⟨rfl,rfl⟩ | ⟨g,cap,cur,rfl,_,_,hnc,_⟩
 ·simp[Builtin.append_,run_underlying ht,sizeOf,typeInfo,hi,Builtin.lenOf,Builtin.firstCells]
 ·simp[Builtin.append_,run_underlying ht,sizeOf,typeInfo,hi,Builtin.lenOf,Builtin.firstCells,hnc,storeCells]
theorem add_plain(b o j:Nat):(⟨b,o,none⟩:Addr).add j=⟨b,o+j,none⟩:=by
 unfold Addr.add
 split
 ·rename_i h;subst h;rfl
 ·rfl
theorem run_append_src(base:Nat)(t ty e:TypeId)(i:TypeInfo)(z:Value)(size bytes:Nat)(ht:P.underlying t=some (.slice e))(hi:P.info? e=some i)(hz:i.zero=some z)
  (hsize:i.size=size) (hby:i.bytes=bytes) (hzs:z.cells.size=size) (hsz:0<size)
  (v:Value) (n:Nat) (xs:List Value) (hown:w.ownsRow base e size v n xs) (A:Option Addr) (m c:Nat) (news:List Value) (hs:Src w A m size news) (h1:∀u∈news,u.oneCell'=true)
  (h63:n+m≤maxLen) (hbytes:(n+m)*bytes≤140737488355328) (hbase:base≤w.heap.size):
  ∃v' w',(Builtin.append_ #[t,t] ty #[v,.slice A m c]).run P w=.ok v' w'∧w'.ownsRow base e size v' (n+m) (xs++news)∧w.grownBy w' v.ownBlock∧(v'.ownBlock=v.ownBlock∨v'.ownBlock=some w.heap.size):=by
 obtain⟨hl,hs⟩:=hs
 rcases A with _ | ad
 ·have hm:m=0:=by
   rcases hs with h | ⟨b,o,h,_⟩
   ·exact h
   ·cases h
  subst hm
  have hn:news=[]:=List.eq_nil_of_length_eq_zero (by simpa using hl)
  subst hn
  exact⟨v,w,run_append_nilsrc base t ty e i size ht hi v n xs hown c,by simpa using hown,World.grownBy.refl w _,.inl rfl⟩
 ·have hcells:∀j u,news[j]? =some u→w.cell? (ad.add j)=some u:=by
   intro j u hu
   rcases hs with h | ⟨b,o,h,hc⟩
   ·subst h
    have hn:news=[]:=List.eq_nil_of_length_eq_zero (by simpa using hl)
    subst hn
    simp at hu
   ·injection h with h
    subst h
    rw[add_plain];exact hc j u hu
  obtain⟨v',w',hrun,h2,h3,_,h5⟩:=run_append_own_at (P:=P) w base t ty e i z size bytes ht hi hz hsize hby hzs hsz v n xs hown ad m c news hl hcells h1 h63 hbytes hbase
  exact⟨v',w',hrun,h2,h3,h5⟩
theorem wpList_append_src{ops:Array Oper}{rest:List Oper}{o:Oper}{a:Act}{Q:Exit→Act→World→Prop}(hgd:o.guard=none)(s x:Operand)(t:TypeId)
  (ho:o.op=.call {callee:=.builtin .append,args:=#[s,x],argTypes:=#[t,t]})
  (base:Nat) (e:TypeId) (i:TypeInfo) (z:Value) (size bytes:Nat) (ht:P.underlying t=some (.slice e)) (hi:P.info? e=some i) (hz:i.zero=some z)
  (hsize:i.size=size) (hby:i.bytes=bytes) (hzs:z.cells.size=size) (hsz:0<size)
  (v:Value) (n:Nat) (xs:List Value) (hs:a.eval s=v) (hown:w.ownsRow base e size v n xs)
  (A:Option Addr) (m c:Nat) (news:List Value) (hx:a.eval x=.slice A m c) (hsrc:Src w A m size news) (h1:∀u∈news,u.oneCell'=true)
  (h63:n+m≤maxLen) (hbytes:(n+m)*bytes≤140737488355328) (hbase:base≤w.heap.size)
  (h:∀v' w',w'.ownsRow base e size v' (n+m) (xs++news)→w.grownBy w' v.ownBlock→(v'.ownBlock=v.ownBlock∨v'.ownBlock=some w.heap.size)→wpList P ops Q rest (a.put o.dst v') w'):wpList P ops Q (o::rest) a w:=
 wpList_plain hgd fun _ hK=>by
  obtain⟨v',w',hrun,h2,h3,h4⟩:=run_append_src (P:=P) base t o.type e i z size bytes ht hi hz hsize hby hzs hsz v n xs hown A m c news hsrc h1 h63 hbytes hbase
  unfold Oper.wp execOp
  simp only[ho,resolve,invoke,builtin,Sem.run_bind,Sem.run_pure,Result.andThen_ok,List.map_toArray,List.map_cons,List.map_nil,hs,hx,hrun]
  exact hK _ _ (h v' w' h2 h3 h4)
def byteCells(l:List UInt8):List Value:=l.map fun b=> .int .u8 (b.toNat:Int)
theorem byteCells_one(l:List UInt8):∀u∈byteCells l,u.oneCell'=true:=by
 intro u hu
 obtain⟨b,_,rfl⟩:=List.mem_map.1 hu
 rfl
theorem src_bytes{S:Nat→Prop}{a:Option Addr}{n c:Nat}{l:List UInt8}(h:rBytes.r S w [.slice a n c] l):Src w a l.length 1 (byteCells l):=by
 refine⟨by simp[byteCells],?_⟩
 rcases l with _ | ⟨x,l⟩
 ·exact .inl rfl
 ·right
  obtain⟨b,o,e,_⟩:=byte_at h (i:=0) (by simp)
  refine⟨b,o,e,fun j u hu=> ?_⟩
  have hj:j<(x::l).length:=by
   have:=(List.getElem?_eq_some_iff.1 hu).1
   simpa [byteCells] using this
  obtain⟨b',o',e',_,hc⟩:=byte_at h hj
  rw[e] at e'
  simp at e'
  obtain⟨rfl,rfl⟩:=e'
  have:u=.int .u8 (((x::l)[j]).toNat:Int):=by
   simp only[byteCells,List.getElem?_map,List.getElem?_eq_getElem hj,Option.map_some,Option.some.injEq] at hu
   exact hu.symm
  rw[this];exact hc
theorem own_bytes{base:Nat}{e:TypeId}{v:Value}{l:List UInt8}{n:Nat}(hn:n=l.length)(h:w.ownsRow base e 1 v n (byteCells l)):rBytes.r (·<w.heap.size) w [v] l:=by
 subst hn
 rcases h.2 with ⟨rfl,h0⟩ | ⟨g,cap,cur,rfl,hbg,hg,hn,hc,hcur,hx⟩
 ·have:l=[]:=List.eq_nil_of_length_eq_zero h0
  subst this
  exact rSl_mk rfl (Nat.le_refl _) (Nat.zero_le _) (.inl rfl)
 ·refine rSl_mk rfl hn hc (.inr ⟨g,0,rfl,Blk.lt hg,fun i x hi=>⟨[.int .u8 (x.toNat:Int)],rfl,fun j v hj=> ?_,rfl⟩⟩)
  have hj0:j=0:=by
   rcases j with _ | j
   ·rfl
   ·simp at hj
  subst hj0
  simp at hj
  subst hj
  have hi':i<l.length:=(List.getElem?_eq_some_iff.1 hi).1
  rw[Nat.zero_add,Nat.mul_one,Nat.add_zero,Blk.cell hg i]
  have e1:cur[i]? =(cur.toList.take (l.length*1))[i]? :=by
   rw[List.getElem?_take,if_pos (by omega)];simp
  rw[e1,hx,byteCells,List.getElem?_map,hi];rfl
end
end Go.Bs
namespace Go.Proofs.YtmioakocnebceaaGreat
open Go.RowKit Go.Bs
theorem info8:(Tryz.prog.info? 5).map (fun i=>(i.zero,i.size,i.bytes))=some (some (.int .u8 0),1,1):=by kernel_rfl
theorem total_step(l:List Entry)(k:Nat)(h:k<l.length):total (l.take (k+1))=total (l.take k)+l[k].data.length:=by
 unfold total
 rw[List.take_succ_eq_append_getElem h,List.map_append,List.sum_append]
 simp
theorem total_take_le(l:List Entry)(k:Nat):total (l.take k)≤total l:=by
 have:total l=total (l.take k)+total (l.drop k):=by
  unfold total
  rw[←List.sum_append,←List.map_append,List.take_append_drop]
 omega
theorem entry_total(l:List Entry)(a:Option Addr)(n c:Nat)(w:World)(hl:rEntries.r (·<w.heap.size) w [.slice a n c] l)(ht:total l≤1000000000000):
  Calls Tryz.prog 252 #[.slice a n c] w fun r w'=>r=.returned (.int .i64 (total l:Nat))∧Below w.heap.size w w':=by
 obtain⟨rfl,hm,_,_⟩:=sl_len hl
 have HL:=hid hl;clear hl
 go_enter Tryz.func252,Tryz.ntmps252
 go_wp2
 go_loopw [3,8] (fun s i wr=>∃k:Nat,k≤l.length∧i=.int .i64 k∧s=.int .i64 (total (l.take k):Nat)∧Below w.heap.size w wr) (fun _ i _=>l.length-(intOf i).toNat)
 case atStart=>exact ⟨0,Nat.zero_le _,rfl,rfl,Below.refl _ _⟩
 case round=>
  obtain⟨k,hk,rfl,rfl,hb⟩:=hrel
  by_cases hlt:k<l.length
  ·obtain⟨b,o,hA,hbb,a1,c1,a2,c2,hc0,hc1,_,_⟩:=entry_at HL.out hlt
   subst hA
   have X0:=(hb.cell (p:=⟨b,o+k*2,none⟩) hbb).trans hc0
   have X1:=(hb.cell (p:=⟨b,o+k*2+1,none⟩) hbb).trans hc1
   clear hc0 hc1
   have hs:=hid (total_step l k hlt)
   have h1:=total_take_le l (k+1)
   rw[hs.out] at h1
   generalize l[k].links.length=n1 at*
   generalize l[k].data.length=n2 at*
   generalize total (l.take k)=t at*
   go_wp2
   go_roundw
   case rel=>exact ⟨k+1,by omega,by go_num,by rw[hs.out];simp only[Int.natCast_add],hb.alloc hb.size _⟩
   case measure=>simp [intOf];omega
  ·obtain rfl:k=l.length:=by omega
   rw[List.take_length]
   go_wp2
   go_ret
   exact⟨rfl,hb⟩
def joined(l:List Entry):List UInt8:=l.flatMap Entry.data
theorem joined_length(l:List Entry):(joined l).length=total l:=by
 unfold joined total
 rw[List.length_flatMap]
theorem joined_step(l:List Entry)(k:Nat)(h:k<l.length):joined (l.take (k+1))=joined (l.take k)++l[k].data:=by
 unfold joined
 rw[List.take_succ_eq_append_getElem h,List.flatMap_append]
 simp
theorem batch_fits(base:Int)(n:Nat)(w:World)(h0:0≤base∧base≤18446744073709551615)(hn:n≤1000000000000):
  Calls Tryz.prog 251 #[.int .u64 base,.int .i64 n] w fun r w'=>r=.returned (.bool (fitsR base n))∧w=w':=by
 by_cases c1:1≤n
 ·have d1:decide ((1:Int)≤(n:Int))=true:=by simp;omega
  by_cases c2:n≤16
  ·have d2:decide ((n:Int)≤16)=true:=by simp;omega
   by_cases c3:base<4611686018427387904
   ·have hp:poR base=true:=by simp[poR,c3]
    have hc:=epoch_pos base
    rw[hp] at hc
    have HC:=hid hc;clear hc hp
    by_cases c4:base+n≤4611686018427387904
    ·have hff:Hid (fitsR base n=true):=hid (by simp[fitsR];omega)
     have d4:decide (base+(n:Int)≤4611686018427387904)=true:=by simp;omega
     clear c1 c2
     go_enter Tryz.func251,Tryz.ntmps251
     go_wp2_with (go_at_call 311;refine (HC.out _).mono ?_;rintro e w' ⟨rfl,rfl⟩)
     go_ret
     exact⟨by rw[hff.out];rfl,rfl⟩
    ·have hff:Hid (fitsR base n=false):=hid (by simp[fitsR];omega)
     have d4:decide (base+(n:Int)≤4611686018427387904)=false:=by simp;omega
     go_enter Tryz.func251,Tryz.ntmps251
     go_wp2_with (go_at_call 311;refine (HC.out _).mono ?_;rintro e w' ⟨rfl,rfl⟩)
     go_ret
     exact⟨by rw[hff.out];rfl,rfl⟩
   ·have hff:Hid (fitsR base n=false):=hid (by simp[fitsR];omega)
    have hp:poR base=false:=by simp[poR];omega
    have hc:=epoch_pos base
    rw[hp] at hc
    have HC:=hid hc;clear hc hp
    go_enter Tryz.func251,Tryz.ntmps251
    go_wp2_with (go_at_call 311;refine (HC.out _).mono ?_;rintro e w' ⟨rfl,rfl⟩)
    go_ret
    exact⟨by rw[hff.out];rfl,rfl⟩
  ·have hff:Hid (fitsR base n=false):=hid (by simp[fitsR];omega)
   have d2:decide ((n:Int)≤16)=false:=by simp;omega
   go_enter Tryz.func251,Tryz.ntmps251
   go_wp2
   go_ret
   exact⟨by rw[hff.out];rfl,rfl⟩
 ·have hff:Hid (fitsR base n=false):=hid (by simp[fitsR];omega)
  have d1:decide ((1:Int)≤(n:Int))=false:=by simp;omega
  go_enter Tryz.func251,Tryz.ntmps251
  go_wp2
  go_ret
  exact⟨by rw[hff.out];rfl,rfl⟩
theorem entriesR_step(base:Int)(l:List Entry)(k:Nat)(h:k<l.length):entriesR (base+k) (l.drop k)=(entryR (base+k) l[k]&&entriesR (base+(k+1:Nat)) (l.drop (k+1))):=by
 rw[List.drop_eq_getElem_cons h]
 show (_&&_)=_
 rw[show base+(k:Int)+1=base+((k+1:Nat):Int) from by omega]
def Fair(l:List Entry):Prop:=total l≤1000000000000∧l.length≤1000000000000∧∀e∈l,∀x∈e.links,x.backs.length≤1000000000000
theorem batch_right(x:Batch)(a:Option Addr)(n c:Nat)(w:World)(h0:0≤x.epoch∧x.epoch≤18446744073709551615)(h1:0≤x.base∧x.base≤18446744073709551615)(hl:rEntries.r (·<w.heap.size) w [.slice a n c] x.entries)(hfair:Fair x.entries):
  Calls Tryz.prog 134 #[.agg #[.int .u64 x.epoch,.int .u64 x.base,.slice a n c]] w fun r w'=>r=.returned (.bool (batchR x))∧Below w.heap.size w w':=by
 obtain⟨rfl,hm,_,_⟩:=sl_len hl
 obtain⟨ft,fl,fb⟩:=hfair
 have FB:=hid fb;clear fb
 have HL:=hid hl;clear hl
 go_enter Tryz.func134,Tryz.ntmps134
 go_wp2_with fail
 refine (epoch_right x.epoch _).mono ?_
 rintro e w' ⟨rfl,rfl⟩
 cases he:epR x.epoch
 ·have hff:Hid (batchR x=false):=hid (by simp[batchR,he])
  clear he
  go_wp2
  go_ret
  exact⟨by rw[hff.out];rfl,by (repeat (first | exact Below.refl _ _ | assumption | (refine below_alloc ?_ _) | (refine Below.setCell ?_ (by first | omega | (simp;done) | (simp;omega)) _) | (refine Below.drew ?_) | (refine below_drewN ?_ _) | (refine below_then (by assumption) ?_)))⟩
 ·go_wp2_with fail
  refine (batch_fits x.base x.entries.length _ h1 fl).mono ?_
  rintro e w' ⟨rfl,rfl⟩
  cases hf:fitsR x.base x.entries.length
  ·have hff:Hid (batchR x=false):=hid (by simp[batchR,hf])
   clear hf he
   go_wp2
   go_ret
   exact⟨by rw[hff.out];rfl,by (repeat (first | exact Below.refl _ _ | assumption | (refine below_alloc ?_ _) | (refine Below.setCell ?_ (by first | omega | (simp;done) | (simp;omega)) _) | (refine Below.drew ?_) | (refine below_drewN ?_ _) | (refine below_then (by assumption) ?_)))⟩
  ·have hfit:1≤x.entries.length∧x.entries.length≤16∧x.base<4611686018427387904∧x.base+x.entries.length≤4611686018427387904:=by simpa [fitsR] using hf
   obtain⟨q1,q2,q3,q4⟩:=hfit
   have hff:Hid (batchR x=(decide (total x.entries≤1048576)&&entriesR x.base x.entries)):=hid (by simp[batchR,hf,he])
   clear hf he
   go_wp2_with fail
   refine (entry_total x.entries _ _ _ _ (lift HL.out (by (repeat (first | exact Below.refl _ _ | assumption | (refine below_alloc ?_ _) | (refine Below.setCell ?_ (by first | omega | (simp;done) | (simp;omega)) _) | (refine Below.drew ?_) | (refine below_drewN ?_ _) | (refine below_then (by assumption) ?_))))) ft).mono ?_
   rintro e w1 ⟨rfl,hb1⟩
   have hb2:Below w.heap.size w w1:=by (repeat (first | exact Below.refl _ _ | assumption | (refine below_alloc ?_ _) | (refine Below.setCell ?_ (by first | omega | (simp;done) | (simp;omega)) _) | (refine Below.drew ?_) | (refine below_drewN ?_ _) | (refine below_then (by assumption) ?_)))
   obtain⟨hc1,hf1⟩:=bcell hb1
   by_cases ht:total x.entries≤1048576
   ·have hf2:Hid (batchR x=entriesR (x.base+(0:Nat)) (x.entries.drop 0)):=hid (by rw[hff.out,decide_eq_true ht];simp)
    have d5:decide (1048576<(total x.entries:Int))=false:=by simp;omega
    have s0:w1.cell? ⟨w.heap.size,0,none⟩=some (.int .u64 x.epoch):=(hc1 w.heap.size 0 (by simp)).trans (by go_simp)
    have s1:w1.cell? ⟨w.heap.size,1,none⟩=some (.int .u64 x.base):=(hc1 w.heap.size 1 (by simp)).trans (by go_simp)
    have s2:w1.cell? ⟨w.heap.size,2,none⟩=some (.slice a x.entries.length c):=(hc1 w.heap.size 2 (by simp)).trans (by go_simp)
    clear hc1 hf1
    have hzb:w.heap.size<w1.heap.size:=by have:=hb1.size;simp at this;omega
    go_wp2_with fail
    go_loopw [27] (fun i wr=>∃k:Nat,k≤x.entries.length∧i=.int .i64 k∧Hid (batchR x=entriesR (x.base+k) (x.entries.drop k))∧Below w1.heap.size w1 wr) (fun i _=>x.entries.length-(intOf i).toNat)
    case atStart=>exact ⟨0,Nat.zero_le _,rfl,hf2,Below.refl _ _⟩
    case round=>
     obtain⟨k,hk,rfl,hf,hb⟩:=hrel
     have hb3:=below_then hb hb2
     have t0:wr.cell? ⟨w.heap.size,0,none⟩=some (.int .u64 x.epoch):=(Later.mk wr hb).cell s0
     have t1:wr.cell? ⟨w.heap.size,1,none⟩=some (.int .u64 x.base):=(Later.mk wr hb).cell s1
     have t2:wr.cell? ⟨w.heap.size,2,none⟩=some (.slice a x.entries.length c):=(Later.mk wr hb).cell s2
     have hz3:w.heap.size<wr.heap.size:=by have:=hb.size;omega
     by_cases hlt:k<x.entries.length
     ·obtain⟨b,o,hA,hbb,a1,c1,a2,c2,hd0,hd1,hr1,hr2⟩:=entry_at HL.out hlt
      subst hA
      have hst:=hid (entriesR_step x.base x.entries k hlt)
      have hbk:=FB.out _ (List.getElem_mem hlt)
      have X0:=(hb3.cell (p:=⟨b,o+k*2,none⟩) hbb).trans hd0
      have X1:=(hb3.cell (p:=⟨b,o+k*2+1,none⟩) hbb).trans hd1
      clear hd0 hd1
      have R1:=hid (lift hr1 hb3)
      have R2:=hid (lift hr2 hb3)
      clear hr1 hr2
      generalize hz:x.entries[k]=z at*
      clear hz
      have HBK:=hid hbk;clear hbk
      have i1:(k:Int)<(x.entries.length:Int):=by omega
      have p0:0≤x.base+(k:Int):=by omega
      have p1:x.base+(k:Int)≤18446744073709551615:=by omega
      go_wp2_with fail
      refine (entry_right (x.base+(k:Int)) z _ _ _ _ _ _ _ ⟨p0,p1⟩ HBK.out (lift R1.out (by (repeat (first | exact Below.refl _ _ | assumption | (refine below_alloc ?_ _) | (refine Below.setCell ?_ (by first | omega | (simp;done) | (simp;omega)) _) | (refine Below.drew ?_) | (refine below_drewN ?_ _) | (refine below_then (by assumption) ?_))))) (lift R2.out (by (repeat (first | exact Below.refl _ _ | assumption | (refine below_alloc ?_ _) | (refine Below.setCell ?_ (by first | omega | (simp;done) | (simp;omega)) _) | (refine Below.drew ?_) | (refine below_drewN ?_ _) | (refine below_then (by assumption) ?_)))))).mono ?_
      rintro e w4 ⟨rfl,hb4⟩
      have hb5:Below w1.heap.size w1 w4:=by (repeat (first | exact Below.refl _ _ | assumption | (refine below_alloc ?_ _) | (refine Below.setCell ?_ (by first | omega | (simp;done) | (simp;omega)) _) | (refine Below.drew ?_) | (refine below_drewN ?_ _) | (refine below_then (by assumption) ?_)))
      cases hr:entryR (x.base+(k:Int)) z
      ·have hf3:Hid (batchR x=false):=hid (by rw[hf.out,hst.out,hr];rfl)
       clear hr
       go_wp2
       go_ret
       exact⟨by rw[hf3.out];rfl,below_then hb5 hb2⟩
      ·have hf3:Hid (batchR x=entriesR (x.base+(k+1:Nat)) (x.entries.drop (k+1))):=hid (by rw[hf.out,hst.out,hr];rfl)
       clear hr
       go_wp2
       go_roundw
       case rel=>exact ⟨k+1,by omega,by go_num,hf3,hb5⟩
       case measure=>simp [intOf];omega
     ·obtain rfl:k=x.entries.length:=by omega
      have hf3:Hid (batchR x=true):=hid (by rw[hf.out,List.drop_length];rfl)
      go_wp2
      go_ret
      exact⟨by rw[hf3.out];rfl,hb3⟩
   ·have hf2:Hid (batchR x=false):=hid (by rw[hff.out,decide_eq_false ht];rfl)
    have d5:decide (1048576<(total x.entries:Int))=true:=by simp;omega
    go_wp2
    go_ret
    exact⟨by rw[hf2.out];rfl,hb2⟩
def mayR(e:Int)(prev:Option Batch)(b:Batch):Bool:=decide (b.epoch≤e)&&(match prev with | none=>true | some p=>decide (p.epoch≤b.epoch)&&decide (p.base+p.entries.length≤b.base))
def chainR(e:Int):Option Batch→List Batch→Bool
 | _,[]=>true
 | p,b::l=>batchR b&&(mayR e p b&&chainR e (some b) l)
def segR(g:Seg):Bool:=epR g.epoch&&(decide (g.batches.length≤16)&&chainR g.epoch none g.batches)
def prevB(l:List Batch)(k:Nat):Option Batch:=if k=0 then none else l[k-1]?
theorem chainR_step(e:Int)(l:List Batch)(k:Nat)(h:k<l.length):chainR e (prevB l k) (l.drop k)=(batchR l[k]&&(mayR e (prevB l k) l[k]&&chainR e (prevB l (k+1)) (l.drop (k+1)))):=by
 rw[List.drop_eq_getElem_cons h]
 have:prevB l (k+1)=some l[k]:=by unfold prevB;rw[if_neg (by omega)];simp[h]
 rw[this];rfl
theorem sl_take{α:Type}{sz:Nat}{A:Rp α}{S:Nat→Prop}{w:World}{xs:List α}{a:Option Addr}{n c k:Nat}(h:(rSl sz A).r S w [.slice a n c] xs)(hk:k≤xs.length):(rSl sz A).r S w [.slice a k c] (xs.take k):=by
 obtain⟨a',c',e,h1,h2,h3⟩:=h
 simp at e
 obtain⟨rfl,rfl,rfl⟩:=e
 have hl:(xs.take k).length=k:=by simp;omega
 refine rSl_mk (by rw[hl]) (by omega) h2 ?_
 rcases h3 with rfl | ⟨b,off,rfl,hS,hr⟩
 ·exact .inl (by simp)
 ·refine .inr ⟨b,off,rfl,hS,fun i x hi=>hr i x ?_⟩
  rw[List.getElem?_take] at hi
  split at hi
  ·exact hi
  ·cases hi
theorem batch_end(e b:Int)(a:Option Addr)(n c:Nat)(w:World)(h0:0≤b)(h:b+n≤18446744073709551615)(hn:n≤9223372036854775807):
  Calls Tryz.prog 237 #[.agg #[.int .u64 e,.int .u64 b,.slice a n c]] w fun r w'=>r=.returned (.int .u64 (b+n))∧Below w.heap.size w w':=by
 go_enter Tryz.func237,Tryz.ntmps237
 go_wp2
 go_ret
 exact⟨rfl,by (repeat (first | exact Below.refl _ _ | assumption | (refine below_alloc ?_ _) | (refine Below.setCell ?_ (by first | omega | (simp;done) | (simp;omega)) _) | (refine Below.drew ?_) | (refine below_drewN ?_ _) | (refine below_then (by assumption) ?_)))⟩
theorem seg_follows(e:Int)(l:List Batch)(x:Batch)(a a':Option Addr)(n c n' c':Nat)(w:World)(hl:rBatches.r (·<w.heap.size) w [.slice a n c] l)(hp:∀p∈l,p.base+p.entries.length≤18446744073709551615):
  Calls Tryz.prog 241 #[.agg #[.int .u64 e,.slice a n c],.agg #[.int .u64 x.epoch,.int .u64 x.base,.slice a' n' c']] w fun r w'=>r=.returned (.bool (mayR e (prevB l l.length) x))∧Below w.heap.size w w':=by
 obtain⟨rfl,hm,_,_⟩:=sl_len hl
 have HL:=hid hl;clear hl
 have HP:=hid hp;clear hp
 by_cases h1:e<x.epoch
 ·have hff:Hid (mayR e (prevB l l.length) x=false):=hid (by simp only[mayR];rw[decide_eq_false (by omega)];rfl)
  go_enter Tryz.func241,Tryz.ntmps241
  go_wp2
  go_ret
  exact⟨by rw[hff.out];rfl,by (repeat (first | exact Below.refl _ _ | assumption | (refine below_alloc ?_ _) | (refine Below.setCell ?_ (by first | omega | (simp;done) | (simp;omega)) _) | (refine Below.drew ?_) | (refine below_drewN ?_ _) | (refine below_then (by assumption) ?_)))⟩
 ·by_cases h2:l.length=0
  ·have hff:Hid (mayR e (prevB l l.length) x=true):=hid (by simp only[mayR];rw[decide_eq_true (by omega),h2];rfl)
   have e2:((l.length:Int)==0)=true:=by simp[h2]
   clear h2
   go_enter Tryz.func241,Tryz.ntmps241
   go_wp2_with fail
   go_quiet (fail)
   go_wp2
   go_ret
   exact⟨by rw[hff.out];rfl,by (repeat (first | exact Below.refl _ _ | assumption | (refine below_alloc ?_ _) | (refine Below.setCell ?_ (by first | omega | (simp;done) | (simp;omega)) _) | (refine Below.drew ?_) | (refine below_drewN ?_ _) | (refine below_then (by assumption) ?_)))⟩
  ·obtain⟨m,hmm⟩:∃m,l.length=m+1:=⟨l.length-1,by omega⟩
   obtain⟨b,o,hA,hbb,a1,c1,hd0,hd1,hd2,r0,r1,hd⟩:=batch_at HL.out (show m<l.length by omega)
   have hpm:=HP.out _ (List.getElem_mem (show m<l.length by omega))
   obtain⟨_,hm2,_,_⟩:=sl_len hd
   have hprev:prevB l (m+1)=some l[m]:=by unfold prevB;rw[if_neg (by omega)];simp[show m<l.length by omega]
   generalize hz:l[m]=z at*
   clear hz hd
   have hff:Hid (mayR e (prevB l l.length) x=(decide (z.epoch≤x.epoch)&&decide (z.base+z.entries.length≤x.base))):=hid (by simp only[mayR];rw[decide_eq_true (by omega),hmm,hprev];rfl)
   subst hA
   have i4:wrap64 (m:Int)=m:=by simp only[wrap64];omega
   have HMM:=hid hmm
   rw[hmm]
   clear h2 hprev hmm
   have e2:((m:Int)+1==0)=false:=by simp;omega
   have i2:(0:Int)≤(m:Int):=by omega
   have i3:(m:Int)<(m:Int)+1:=by omega
   have F:Below w.heap.size w ((w.alloc (.cells #[.int .u64 e,.slice (some ⟨b,o,none⟩) (m+1) c] 28)).alloc (.cells #[.int .u64 x.epoch,.int .u64 x.base,.slice a' n' c'] 60)):=by (repeat (first | exact Below.refl _ _ | assumption | (refine below_alloc ?_ _) | (refine Below.setCell ?_ (by first | omega | (simp;done) | (simp;omega)) _) | (refine Below.drew ?_) | (refine below_drewN ?_ _) | (refine below_then (by assumption) ?_)))
   have X0:=fun s:Later ((w.alloc (.cells #[.int .u64 e,.slice (some ⟨b,o,none⟩) (m+1) c] 28)).alloc (.cells #[.int .u64 x.epoch,.int .u64 x.base,.slice a' n' c'] 60))=>s.cell ((F.cell (p:=⟨b,o+m*3,none⟩) hbb).trans hd0)
   have X1:=fun s:Later ((w.alloc (.cells #[.int .u64 e,.slice (some ⟨b,o,none⟩) (m+1) c] 28)).alloc (.cells #[.int .u64 x.epoch,.int .u64 x.base,.slice a' n' c'] 60))=>s.cell ((F.cell (p:=⟨b,o+m*3+1,none⟩) hbb).trans hd1)
   have X2:=fun s:Later ((w.alloc (.cells #[.int .u64 e,.slice (some ⟨b,o,none⟩) (m+1) c] 28)).alloc (.cells #[.int .u64 x.epoch,.int .u64 x.base,.slice a' n' c'] 60))=>s.cell ((F.cell (p:=⟨b,o+m*3+2,none⟩) hbb).trans hd2)
   have Y0:=fun s:Later ((w.alloc (.cells #[.int .u64 e,.slice (some ⟨b,o,none⟩) (m+1) c] 28)).alloc (.cells #[.int .u64 x.epoch,.int .u64 x.base,.slice a' n' c'] 60))=>s.cell (v:=.slice (some ⟨b,o,none⟩) (m+1) c) (b:=w.heap.size) (o:=1) (by go_simp)
   have Y1:=fun s:Later ((w.alloc (.cells #[.int .u64 e,.slice (some ⟨b,o,none⟩) (m+1) c] 28)).alloc (.cells #[.int .u64 x.epoch,.int .u64 x.base,.slice a' n' c'] 60))=>s.cell (v:=.int .u64 x.epoch) (b:=w.heap.size+1) (o:=0) (by go_simp)
   have Y2:=fun s:Later ((w.alloc (.cells #[.int .u64 e,.slice (some ⟨b,o,none⟩) (m+1) c] 28)).alloc (.cells #[.int .u64 x.epoch,.int .u64 x.base,.slice a' n' c'] 60))=>s.cell (v:=.int .u64 x.base) (b:=w.heap.size+1) (o:=1) (by go_simp)
   clear hd0 hd1 hd2
   have FF:=hid F;clear F
   have hE:=fun s:Later ((w.alloc (.cells #[.int .u64 e,.slice (some ⟨b,o,none⟩) (m+1) c] 28)).alloc (.cells #[.int .u64 x.epoch,.int .u64 x.base,.slice a' n' c'] 60))=>batch_end z.epoch z.base a1 z.entries.length c1 s.at_ r1.1 hpm hm2
   have HE:=hid hE;clear hE
   by_cases g1:z.epoch≤x.epoch
   ·have d1:decide (z.epoch≤x.epoch)=true:=by simpa using g1
    have hf2:Hid (mayR e (prevB l l.length) x=decide (z.base+z.entries.length≤x.base)):=hid (by rw[hff.out,d1];rfl)
    go_enter Tryz.func241,Tryz.ntmps241
    go_wp2_with fail
    refine wp_region_later (by kernel_rfl) (by kernel_rfl) ?_
    repeat (go_big_quiet_step (((go_at_call 237;exact later_of (HE.out _)))))
    refine wpQuiet_nil ?_
    rintro W5 ⟨⟨W5',hb5⟩,rfl⟩
    go_wp2
    go_ret
    have FO:=FF.out
    refine⟨?_,by (repeat (first | exact Below.refl _ _ | assumption | (refine below_alloc ?_ _) | (refine Below.setCell ?_ (by first | omega | (simp;done) | (simp;omega)) _) | (refine Below.drew ?_) | (refine below_drewN ?_ _) | (refine below_then (by assumption) ?_)))⟩
    rw[←HMM.out,hf2.out];rfl
   ·have d1:decide (z.epoch≤x.epoch)=false:=by simpa using g1
    have hf2:Hid (mayR e (prevB l l.length) x=false):=hid (by rw[hff.out,d1];rfl)
    clear g1
    go_enter Tryz.func241,Tryz.ntmps241
    go_wp2_with fail
    refine wp_region_later (by kernel_rfl) (by kernel_rfl) ?_
    repeat (go_big_quiet_step (fail))
    refine wpQuiet_nil ?_
    rintro W5 ⟨⟨W5',hb5⟩,rfl⟩
    go_wp2
    go_ret
    have FO:=FF.out
    refine⟨?_,by (repeat (first | exact Below.refl _ _ | assumption | (refine below_alloc ?_ _) | (refine Below.setCell ?_ (by first | omega | (simp;done) | (simp;omega)) _) | (refine Below.drew ?_) | (refine below_drewN ?_ _) | (refine below_then (by assumption) ?_)))⟩
    rw[←HMM.out,hf2.out];rfl
end Go.Proofs.YtmioakocnebceaaGreat
namespace Go.Bs
def runLen(b:List UInt8)(off:Nat):Nat→Nat→Nat
 | 0,_=>0
 | f+1,p=>if p<b.length∧b[p]? =b[p-off]? then runLen b off f (p+1)+1 else 0
def mlen(b:List UInt8)(p off:Nat):Nat:=if p<b.length∧1≤off∧off≤p then runLen b off (b.length-p) p else 0
theorem runLen_le(b:List UInt8)(off:Nat):∀f p,runLen b off f p≤f
 | 0,_=>Nat.le_refl _
 | f+1,p=>by
  unfold runLen
  split
  ·have:=runLen_le b off f (p+1);omega
  ·omega
theorem mlen_le(b:List UInt8)(p off:Nat):mlen b p off≤b.length-p:=by
 unfold mlen
 split
 ·exact runLen_le ..
 ·omega
theorem runLen_same(b:List UInt8)(off:Nat):∀f p k,k<runLen b off f p→p+k<b.length∧b[p+k]? =b[p+k-off]?
 | 0,_,k,h=>by simp[runLen] at h
 | f+1,p,k,h=>by
  unfold runLen at h
  split at h
  ·rename_i hc
   cases k with
   | zero=>exact hc
   | succ k=>
    have:=runLen_same b off f (p+1) k (by omega)
    rw[show p+(k+1)=p+1+k by omega]
    exact this
  ·omega
theorem runLen_ge(b:List UInt8)(off:Nat):∀f p k,k≤f→(∀j,j<k→p+j<b.length∧b[p+j]? =b[p+j-off]?)→k≤runLen b off f p
 | _,_,0,_,_=>Nat.zero_le _
 | 0,_,k+1,h,_=>by omega
 | f+1,p,k+1,h,hs=>by
  unfold runLen
  rw[if_pos (by simpa using hs 0 (by omega))]
  have:=runLen_ge b off f (p+1) k (by omega) fun j hj=>by
   have:=hs (j+1) (by omega)
   rw[show p+(j+1)=p+1+j by omega] at this
   exact this
  omega
theorem mlen_ge{b:List UInt8}{p off k:Nat}(h1:1≤off)(h2:off≤p)(hp:p<b.length)(h:∀j,j<k→p+j<b.length∧b[p+j]? =b[p+j-off]?):k≤mlen b p off:=by
 unfold mlen
 rw[if_pos ⟨hp,h1,h2⟩]
 refine runLen_ge _ _ _ _ _ ?_ h
 rcases Nat.eq_zero_or_pos k with rfl | h0
 ·exact Nat.zero_le _
 ·have:=(h (k-1) (by omega)).1;omega
theorem mlen_same{b:List UInt8}{p off k:Nat}(h:k<mlen b p off):1≤off∧off≤p∧p+k<b.length∧b[p+k]? =b[p+k-off]? :=by
 unfold mlen at h
 split at h
 ·rename_i hc
  exact⟨hc.2.1,hc.2.2,runLen_same _ _ _ _ _ h⟩
 ·omega
def maxM(b:List UInt8)(p:Nat):Nat→Nat
 | 0=>0
 | k+1=>max (maxM b p k) (mlen b p (k+1))
def firstM(b:List UInt8)(p m:Nat):Nat→Nat→Nat
 | 0,_=>0
 | f+1,o=>if mlen b p o=m then o else firstM b p m f (o+1)
theorem maxM_ge(b:List UInt8)(p:Nat):∀k o,1≤o→o≤k→mlen b p o≤maxM b p k
 | 0,o,h1,h2=>by omega
 | k+1,o,h1,h2=>by
  simp only[maxM]
  by_cases h:o=k+1
  ·subst h;omega
  ·have:=maxM_ge b p k o h1 (by omega);omega
theorem maxM_is(b:List UInt8)(p:Nat):∀k,maxM b p k=0∨∃o,1≤o∧o≤k∧mlen b p o=maxM b p k
 | 0=> .inl rfl
 | k+1=>by
  simp only[maxM]
  rcases Nat.le_total (maxM b p k) (mlen b p (k+1)) with h | h
  ·rw[Nat.max_eq_right h]
   exact .inr ⟨k+1,by omega,Nat.le_refl _,rfl⟩
  ·rw[Nat.max_eq_left h]
   rcases maxM_is b p k with h0 | ⟨o,h1,h2,h3⟩
   ·exact .inl h0
   ·exact .inr ⟨o,h1,by omega,h3⟩
theorem firstM_is(b:List UInt8)(p m:Nat):∀f o o',o≤o'→o'<o+f→mlen b p o'=m→(∀j,o≤j→j<o'→mlen b p j≠m)→firstM b p m f o=o'
 | 0,o,o',h1,h2,_,_=>by omega
 | f+1,o,o',h1,h2,h3,h4=>by
  unfold firstM
  by_cases h:o=o'
  ·subst h;rw[if_pos h3]
  ·rw[if_neg (h4 o (Nat.le_refl _) (by omega))]
   exact firstM_is b p m f (o+1) o' (by omega) (by omega) h3 fun j h5 h6=>h4 j (by omega) h6
def reach(p:Nat):Nat:=min p 65536
def bestR(b:List UInt8)(p:Nat):Nat × Nat:=
 if 4≤maxM b p (reach p) then (firstM b p (maxM b p (reach p)) (reach p) 1,maxM b p (reach p)) else (0,0)
theorem least_is(b:List UInt8)(p m:Nat):∀k,(∃o,1≤o∧o≤k∧mlen b p o=m)→∃o,1≤o∧o≤k∧mlen b p o=m∧∀j,1≤j→j<o→mlen b p j≠m
 | 0,⟨o,h1,h2,_⟩=>by omega
 | k+1,⟨o,h1,h2,h3⟩=>by
  by_cases h:∃o,1≤o∧o≤k∧mlen b p o=m
  ·obtain⟨o,g1,g2,g3,g4⟩:=least_is b p m k h
   exact⟨o,g1,by omega,g3,g4⟩
  ·refine⟨o,h1,h2,h3,fun j j1 j2 j3=>h ⟨j,j1,by omega,j3⟩⟩
theorem bestR_is{b:List UInt8}{p o m:Nat}(h1:1≤o)(h2:o≤reach p)(h4:4≤m)(hm:mlen b p o=m)(hall:∀j,1≤j→j≤reach p→mlen b p j≤m)(hlt:∀j,1≤j→j<o→mlen b p j<m):bestR b p=(o,m):=by
 have e:maxM b p (reach p)=m:=by
  have:=maxM_ge b p (reach p) o h1 h2
  rcases maxM_is b p (reach p) with h | ⟨o',g1,g2,g3⟩
  ·omega
  ·have:=hall o' g1 g2;omega
 unfold bestR
 rw[e,if_pos h4,firstM_is b p m (reach p) 1 o h1 (by omega) hm fun j j1 j2=>by have:=hlt j j1 j2;omega]
theorem bestR_none{b:List UInt8}{p:Nat}(h:∀j,1≤j→j≤reach p→mlen b p j<4):bestR b p=(0,0):=by
 unfold bestR
 rw[if_neg]
 rcases maxM_is b p (reach p) with h0 | ⟨o',g1,g2,g3⟩
 ·omega
 ·have:=h o' g1 g2;omega
theorem bestR_facts(b:List UInt8)(p:Nat):bestR b p=(0,0)∨∃o m,bestR b p=(o,m)∧1≤o∧o≤reach p∧4≤m∧mlen b p o=m∧(∀j,1≤j→j≤reach p→mlen b p j≤m)∧∀j,1≤j→j<o→mlen b p j<m:=by
 by_cases h:4≤maxM b p (reach p)
 ·right
  rcases maxM_is b p (reach p) with h0 | hx
  ·omega
  ·obtain⟨o,g1,g2,g3,g4⟩:=least_is b p _ _ hx
   have hall:=fun j (j1:1≤j) (j2:j≤reach p)=>maxM_ge b p _ j j1 j2
   have hlt:∀j,1≤j→j<o→mlen b p j<maxM b p (reach p):=fun j j1 j2=>by
    have:=hall j j1 (by omega)
    have:=g4 j j1 j2
    omega
   exact⟨o,_,bestR_is g1 g2 h g3 hall hlt,g1,g2,h,g3,hall,hlt⟩
 ·left
  unfold bestR
  rw[if_neg h]
theorem bestR_room(b:List UInt8)(p:Nat):(bestR b p).2≤b.length-p∧(bestR b p).1≤p:=by
 rcases bestR_facts b p with h | ⟨o,m,h,_,h2,_,h4,_⟩
 ·rw[h];exact⟨Nat.zero_le _,Nat.zero_le _⟩
 ·rw[h]
  have:=mlen_le b p o
  simp only[reach] at h2
  exact⟨by simp only;omega,by simp only;omega⟩
structure Tok where
 lit:List UInt8
 off:Int
 len:Int
 deriving DecidableEq
def litT(b:List UInt8)(i j:Nat):List Tok:=if i<j then [⟨(b.drop i).take (j-i),0,0⟩] else []
def toksF(b:List UInt8):Nat→Nat→Nat→List Tok
  | 0,_,i=>litT b i b.length
  | f+1,p,i=>if p<b.length then
      (if (bestR b p).2=0 then toksF b f (p+1) i
       else litT b i p++⟨[],(bestR b p).1,(bestR b p).2⟩::toksF b f (p+(bestR b p).2) (p+(bestR b p).2))
      else litT b i b.length
def toksR(b:List UInt8):List Tok:=toksF b b.length 0 0
theorem toksF_more(b:List UInt8):∀f g p i,b.length≤p+f→b.length≤p+g→toksF b f p i=toksF b g p i
 | 0,0,_,_,_,_=>rfl
 | 0,g+1,p,i,h,_=>by
  simp only[toksF]
  rw[if_neg (by omega)]
 | f+1,0,p,i,_,h=>by
  simp only[toksF]
  rw[if_neg (by omega)]
 | f+1,g+1,p,i,h1,h2=>by
  simp only[toksF]
  split
  ·split
   ·exact toksF_more b f g (p+1) i (by omega) (by omega)
   ·rename_i hn
    rw[toksF_more b f g (p+(bestR b p).2) (p+(bestR b p).2) (by omega) (by omega)]
  ·rfl
def toksA(b:List UInt8)(p i:Nat):List Tok:=toksF b (b.length-p) p i
theorem toksA_none{b:List UInt8}{p i:Nat}(hp:p<b.length)(h:(bestR b p).2=0):toksA b p i=toksA b (p+1) i:=by
 unfold toksA
 obtain⟨f,hf⟩:∃f,b.length-p=f+1:=⟨b.length-p-1,by omega⟩
 rw[hf]
 simp only[toksF]
 rw[if_pos hp,if_pos h]
 exact toksF_more b _ _ _ _ (by omega) (by omega)
theorem toksA_some{b:List UInt8}{p i:Nat}(hp:p<b.length)(h:(bestR b p).2≠0):toksA b p i=litT b i p++⟨[],(bestR b p).1,(bestR b p).2⟩::toksA b (p+(bestR b p).2) (p+(bestR b p).2):=by
 unfold toksA
 obtain⟨f,hf⟩:∃f,b.length-p=f+1:=⟨b.length-p-1,by omega⟩
 rw[hf]
 simp only[toksF]
 rw[if_pos hp,if_neg h]
 congr 2
 exact toksF_more b _ _ _ _ (by omega) (by omega)
theorem toksA_end{b:List UInt8}{p i:Nat}(hp:b.length≤p):toksA b p i=litT b i b.length:=by
 unfold toksA
 rw[show b.length-p=0 by omega];rfl
def keyAt(b:List UInt8)(p:Nat):Option Nat:=
 match b[p]?,b[p+1]?,b[p+2]?,b[p+3]? with
 | some a,some c,some d,some e=>some (a.toNat+256*c.toNat+65536*d.toNat+16777216*e.toNat)
 | _,_,_,_=>none
def lastP(b:List UInt8)(k:Nat):Nat→Nat
 | 0=>0
 | j+1=>if keyAt b j=some k then j+1 else lastP b k j
theorem lastP_le(b:List UInt8)(k:Nat):∀j,lastP b k j≤j
 | 0=>Nat.le_refl _
 | j+1=>by
  unfold lastP
  split
  ·omega
  ·have:=lastP_le b k j;omega
theorem lastP_key(b:List UInt8)(k:Nat):∀j,lastP b k j≠0→keyAt b (lastP b k j-1)=some k
 | 0,h=>absurd rfl h
 | j+1,h=>by
  unfold lastP at h ⊢
  split
  ·rename_i hk;simpa using hk
  ·rename_i hk
   rw[if_neg hk] at h
   exact lastP_key b k j h
open Go.RowKit
section
variable {w w':World} {α:Type}
def OwnElsAt(lo:Nat)(A:Rp α)(base:Nat)(e:TypeId)(sz:Nat)(w:World)(v:Value)(xs:List α)(cells:List (List Value)):Prop:=
 w.ownsRow base e sz v xs.length cells.flatten∧cells.length=xs.length∧(∀c∈cells,c.length=sz)∧
  ∀(i:Nat) cs x,cells[i]? =some cs→xs[i]? =some x→A.r (fun b=>lo≤b∧b<w.heap.size∧v.ownBlock≠some b) w cs x
def OwnEls(lo:Nat)(A:Rp α)(base:Nat)(e:TypeId)(sz:Nat)(w:World)(v:Value)(xs:List α):Prop:=∃cells,OwnElsAt lo A base e sz w v xs cells
theorem flatten_at(sz:Nat):∀(l:List (List Value)),(∀c∈l,c.length=sz)→∀(i j:Nat) cs v,l[i]? =some cs→cs[j]? =some v→l.flatten[i*sz+j]? =some v
 | [],_,i,j,cs,v,h,_=>by simp at h
 | c::l,hl,i,j,cs,v,h,hj=>by
  have hc:=hl c (List.mem_cons_self ..)
  rw[List.flatten_cons]
  cases i with
  | zero=>
   simp at h
   subst h
   have:=(List.getElem?_eq_some_iff.1 hj).1
   rw[Nat.zero_mul,Nat.zero_add,List.getElem?_append_left (by omega)]
   exact hj
  | succ i=>
   simp at h
   rw[List.getElem?_append_right (by rw[hc,Nat.succ_mul];omega),hc,show (i+1)*sz+j-sz=i*sz+j by rw[Nat.succ_mul];omega]
   exact flatten_at sz l (fun c h=>hl c (List.mem_cons_of_mem _ h)) i j cs v h hj
theorem OwnEls.nil{lo:Nat}{A:Rp α}{base:Nat}{e:TypeId}{sz:Nat}:OwnEls lo A base e sz w (.slice none 0 0) []:=
 ⟨[],⟨by simp,.inl ⟨rfl,rfl⟩⟩,rfl,(by simp),fun i cs x h=>by simp at h⟩
theorem OwnEls.slice{lo:Nat}{A:Rp α}{base:Nat}{e:TypeId}{sz:Nat}{v:Value}{xs:List α}(hlo:lo≤base)(h:OwnEls lo A base e sz w v xs):(rSl sz A).r (fun b=>lo≤b∧b<w.heap.size) w [v] xs:=by
 obtain⟨cells,hown,hlen,hsz,hA⟩:=h
 rcases hown.2 with ⟨rfl,h0⟩ | ⟨g,cap,cur,rfl,hbg,hg,hn,hc,hcur,hx⟩
 ·have:xs=[]:=List.eq_nil_of_length_eq_zero h0
  subst this
  exact rSl_mk rfl (Nat.le_refl _) (Nat.zero_le _) (.inl rfl)
 ·refine rSl_mk rfl hn hc (.inr ⟨g,0,rfl,⟨Nat.le_trans hlo hbg,(Array.getElem?_eq_some_iff.1 hg).1⟩,fun i x hi=> ?_⟩)
  have hi':i<xs.length:=(List.getElem?_eq_some_iff.1 hi).1
  have hic:i<cells.length:=by omega
  have hcs:cells[i]? =some cells[i]:=List.getElem?_eq_getElem hic
  refine⟨cells[i],hsz _ (List.getElem_mem hic),fun j v hj=> ?_,A.mono (hA i _ x hcs hi) fun b h=>⟨h.1,h.2.1⟩⟩
  have hj':j<sz:=by have:=(List.getElem?_eq_some_iff.1 hj).1;rw[hsz _ (List.getElem_mem hic)] at this;exact this
  have hf:=flatten_at sz cells hsz i j _ v hcs hj
  rw[Nat.zero_add,show (⟨g,i*sz+j,none⟩:Addr)=⟨g,i*sz+j,none⟩ from rfl,Blk.cell hg (i*sz+j)]
  have hb:i*sz+j<xs.length*sz:=by
   have:=Nat.mul_le_mul_right sz (show i+1≤xs.length from hi')
   rw[Nat.succ_mul] at this
   omega
  have e1:cur[i*sz+j]? =(cur.toList.take (xs.length*sz))[i*sz+j]? :=by
   rw[List.getElem?_take,if_pos hb];simp
  rw[e1,hx];exact hf
def rSlW{α:Type}(sz:Nat)(A:Rp α):Rp (List α):=
  ⟨fun S w cs xs=>∃a c,cs=[.slice a xs.length c]∧xs.length≤c∧c≤maxLen∧(xs=[]∨∃b off,a=some ⟨b,off,none⟩∧S b∧∀(i:Nat) x,xs[i]? =some x→∃cs:List Value,cs.length=sz∧
      (∀(j:Nat) v,cs[j]? =some v→w.cell? ⟨b,off+i*sz+j,none⟩=some v∧w.frozen? ⟨b,off+i*sz+j,none⟩=false)∧A.r (fun q=>S q∧q≠b) w cs x),
   fun ⟨a,c,h,h1,h2,h3⟩ hk=>⟨a,c,h,h1,h2,h3.imp id fun ⟨b,off,e,hb,hr⟩=>⟨b,off,e,hb,fun i x hi=>
     let ⟨cs,hl,hc,hA⟩:=hr i x hi
     ⟨cs,hl,fun j v hj=>⟨(World.cell?_of_block (a:=⟨b,off+i*sz+j,none⟩) (hk b hb)).trans (hc j v hj).1,(World.frozen?_of_block (a:=⟨b,off+i*sz+j,none⟩) (hk b hb)).trans (hc j v hj).2⟩,A.keep hA fun q hq=>hk q hq.1⟩⟩⟩,
   fun ⟨a,c,h,h1,h2,h3⟩ hk=>⟨a,c,h,h1,h2,h3.imp id fun ⟨b,off,e,hb,hr⟩=>⟨b,off,e,hk b hb,fun i x hi=>
     let ⟨cs,hl,hc,hA⟩:=hr i x hi
     ⟨cs,hl,hc,A.mono hA fun q hq=>⟨hk q hq.1,hq.2⟩⟩⟩⟩⟩
theorem slW_sl{sz:Nat}{A:Rp α}{S:Nat→Prop}{cs:List Value}{xs:List α}(h:(rSlW sz A).r S w cs xs):(rSl sz A).r S w cs xs:=by
 obtain⟨a,c,h1,h2,h3,h4⟩:=h
 refine⟨a,c,h1,h2,h3,h4.imp id fun ⟨b,off,e,hb,hr⟩=>⟨b,off,e,hb,fun i x hi=> ?_⟩⟩
 obtain⟨cs,h5,h6,h7⟩:=hr i x hi
 exact⟨cs,h5,fun j v hj=>(h6 j v hj).1,A.mono h7 fun q hq=>hq.1⟩
theorem rSl_imp{sz:Nat}{A A':Rp α}{S:Nat→Prop}{cs:List Value}{xs:List α}(hA:∀S cs x,A.r S w cs x→A'.r S w cs x)(h:(rSl sz A).r S w cs xs):(rSl sz A').r S w cs xs:=by
 obtain⟨a,c,h1,h2,h3,h4⟩:=h
 refine⟨a,c,h1,h2,h3,h4.imp id fun ⟨b,off,e,hb,hr⟩=>⟨b,off,e,hb,fun i x hi=> ?_⟩⟩
 obtain⟨cs,h5,h6,h7⟩:=hr i x hi
 exact⟨cs,h5,h6,hA _ _ _ h7⟩
def rLinksW:Rp (List Link):=rSlW 2 rLink
def rEntryW:Rp Entry:=rBy (fun e=>(e.links,e.data)) (rPair rLinksW rBytes)
def rEntriesW:Rp (List Entry):=rSlW 2 rEntryW
theorem linksW_links{S:Nat→Prop}{cs:List Value}{x:List Link}(h:rLinksW.r S w cs x):rLinks.r S w cs x:=slW_sl h
theorem entryW_entry{S:Nat→Prop}{cs:List Value}{x:Entry}(h:rEntryW.r S w cs x):rEntry.r S w cs x:=
 let ⟨c,d,e,h1,h2⟩:=h
 ⟨c,d,e,linksW_links h1,h2⟩
theorem entriesW_entries{S:Nat→Prop}{cs:List Value}{x:List Entry}(h:rEntriesW.r S w cs x):rEntries.r S w cs x:=rSl_imp (fun _ _ _=>entryW_entry) (slW_sl h)
theorem entryW_mk{S:Nat→Prop}{x:Entry}{v v':Value}(h1:rLinksW.r S w [v] x.links)(h2:rBytes.r S w [v'] x.data):rEntryW.r S w [v,v'] x:=⟨[_],[_],rfl,h1,h2⟩
theorem OwnEls.sliceW{lo:Nat}{A:Rp α}{base:Nat}{e:TypeId}{sz:Nat}{v:Value}{xs:List α}(hlo:lo≤base)(h:OwnEls lo A base e sz w v xs):(rSlW sz A).r (fun b=>lo≤b∧b<w.heap.size) w [v] xs:=by
 obtain⟨cells,hown,hlen,hsz,hA⟩:=h
 rcases hown.2 with ⟨rfl,h0⟩ | ⟨g,cap,cur,rfl,hbg,hg,hn,hc,hcur,hx⟩
 ·have:xs=[]:=List.eq_nil_of_length_eq_zero h0
  subst this
  exact⟨none,0,rfl,Nat.le_refl _,Nat.zero_le _,.inl rfl⟩
 ·refine⟨_,cap,rfl,hn,hc,.inr ⟨g,0,rfl,⟨Nat.le_trans hlo hbg,(Array.getElem?_eq_some_iff.1 hg).1⟩,fun i x hi=> ?_⟩⟩
  have hi':i<xs.length:=(List.getElem?_eq_some_iff.1 hi).1
  have hic:i<cells.length:=by omega
  have hcs:cells[i]? =some cells[i]:=List.getElem?_eq_getElem hic
  refine⟨cells[i],hsz _ (List.getElem_mem hic),fun j v hj=>⟨?_,Blk.free hg _⟩,A.mono (hA i _ x hcs hi) fun b h=>⟨⟨h.1,h.2.1⟩,fun e=>h.2.2 (by rw[e];rfl)⟩⟩
  have hj':j<sz:=by have:=(List.getElem?_eq_some_iff.1 hj).1;rw[hsz _ (List.getElem_mem hic)] at this;exact this
  have hf:=flatten_at sz cells hsz i j _ v hcs hj
  rw[Nat.zero_add,show (⟨g,i*sz+j,none⟩:Addr)=⟨g,i*sz+j,none⟩ from rfl,Blk.cell hg (i*sz+j)]
  have hb:i*sz+j<xs.length*sz:=by
   have:=Nat.mul_le_mul_right sz (show i+1≤xs.length from hi')
   rw[Nat.succ_mul] at this
   omega
  have e1:cur[i*sz+j]? =(cur.toList.take (xs.length*sz))[i*sz+j]? :=by
   rw[List.getElem?_take,if_pos hb];simp
  rw[e1,hx];exact hf
theorem OwnElsAt.push{lo:Nat}{A:Rp α}{base:Nat}{e:TypeId}{sz:Nat}{v v':Value}{xs:List α}{news:List Value}{x:α}{cells:List (List Value)}(h:OwnElsAt lo A base e sz w v xs cells)
  (hn:news.length=sz) (hx:A.r (fun b=>lo≤b∧b<w.heap.size∧v.ownBlock≠some b) w news x)
  (hown:w'.ownsRow base e sz v' (xs.length+1) (cells.flatten++news)) (hg:w.grownBy w' v.ownBlock) (hat:v'.ownBlock=v.ownBlock∨v'.ownBlock=some w.heap.size) (hsz':w.heap.size≤w'.heap.size):OwnElsAt lo A base e sz w' v' (xs++[x]) (cells++[news]):=by
 obtain⟨ho,hlen,hsz,hA⟩:=h
 have lift:∀cs y,A.r (fun b=>lo≤b∧b<w.heap.size∧v.ownBlock≠some b) w cs y→A.r (fun b=>lo≤b∧b<w'.heap.size∧v'.ownBlock≠some b) w' cs y:=fun cs y hr=>
  A.mono (A.keep hr fun b hb=>hg.block b hb.2.1 (fun e=>hb.2.2 e.symm)) fun b hb=>⟨hb.1,Nat.lt_of_lt_of_le hb.2.1 hsz',fun e=>by
   rcases hat with h | h
   ·exact hb.2.2 (h ▸ e)
   ·rw[h] at e;have:=Option.some.inj e;have:=hb.2.1;omega⟩
 refine⟨?_,by simp[hlen],?_,?_⟩
 ·rw[List.flatten_append,List.length_append]
  simpa using hown
 ·intro c hc
  rcases List.mem_append.1 hc with h | h
  ·exact hsz c h
  ·simp at h;subst h;exact hn
 ·intro i cs y hi hy
  by_cases hlt:i<xs.length
  ·rw[List.getElem?_append_left (by omega)] at hi
   rw[List.getElem?_append_left hlt] at hy
   exact lift _ _ (hA i cs y hi hy)
  ·have hii:i=xs.length:=by
    have:=(List.getElem?_eq_some_iff.1 hy).1
    simp at this
    omega
   subst hii
   rw[List.getElem?_append_right (by omega)] at hi
   rw[List.getElem?_append_right (Nat.le_refl _)] at hy
   simp[hlen] at hi
   simp at hy
   subst hi hy
   exact lift _ _ hx
theorem OwnEls.push{lo:Nat}{A:Rp α}{base:Nat}{e:TypeId}{sz:Nat}{v v':Value}{xs:List α}{news:List Value}{x:α}{cells:List (List Value)}(h:OwnElsAt lo A base e sz w v xs cells)
  (hn:news.length=sz) (hx:A.r (fun b=>lo≤b∧b<w.heap.size∧v.ownBlock≠some b) w news x)
  (hown:w'.ownsRow base e sz v' (xs.length+1) (cells.flatten++news)) (hg:w.grownBy w' v.ownBlock) (hat:v'.ownBlock=v.ownBlock∨v'.ownBlock=some w.heap.size) (hsz':w.heap.size≤w'.heap.size):OwnEls lo A base e sz w' v' (xs++[x]):=
 ⟨_,OwnElsAt.push h hn hx hown hg hat hsz'⟩
theorem OwnEls.below{lo:Nat}{A:Rp α}{base:Nat}{e:TypeId}{sz:Nat}{v:Value}{xs:List α}(h:OwnEls lo A base e sz w v xs)(hb:Below w.heap.size w w'):OwnEls lo A base e sz w' v xs:=by
 obtain⟨cells,ho,hlen,hsz,hA⟩:=h
 refine⟨cells,⟨ho.1,?_⟩,hlen,hsz,fun i cs x hi hx=>A.mono (A.keep (hA i cs x hi hx) fun b h=>hb.block b h.2.1) fun b h=>⟨h.1,Nat.lt_of_lt_of_le h.2.1 hb.size,h.2.2⟩⟩
 rcases ho.2 with h0 | ⟨g,cap,cur,h1,h2,h3,h4⟩
 ·exact .inl h0
 ·exact .inr ⟨g,cap,cur,h1,h2,by rw[hb.block g (Array.getElem?_eq_some_iff.1 h3).1];exact h3,h4⟩
theorem OwnElsAt.below{lo:Nat}{A:Rp α}{base:Nat}{e:TypeId}{sz:Nat}{v:Value}{xs:List α}{cells:List (List Value)}(h:OwnElsAt lo A base e sz w v xs cells)(hb:Below w.heap.size w w'):OwnElsAt lo A base e sz w' v xs cells:=by
 obtain⟨ho,hlen,hsz,hA⟩:=h
 refine⟨⟨ho.1,?_⟩,hlen,hsz,fun i cs x hi hx=>A.mono (A.keep (hA i cs x hi hx) fun b h=>hb.block b h.2.1) fun b h=>⟨h.1,Nat.lt_of_lt_of_le h.2.1 hb.size,h.2.2⟩⟩
 rcases ho.2 with h0 | ⟨g,cap,cur,h1,h2,h3,h4⟩
 ·exact .inl h0
 ·exact .inr ⟨g,cap,cur,h1,h2,by rw[hb.block g (Array.getElem?_eq_some_iff.1 h3).1];exact h3,h4⟩
theorem own_empty{base:Nat}{e:TypeId}{size:Nat}(W:World)(hb:base≤W.heap.size){g:Nat}(hg:g=W.heap.size):(W.alloc (.cells #[] e)).ownsRow base e size (.slice (some ⟨g,0,none⟩) 0 0) 0 []:=by
 subst hg
 exact⟨by simp,.inr ⟨_,0,#[],rfl,hb,(MapKept.heap_alloc W _).1,Nat.le_refl _,Nat.zero_le _,by simp,by simp⟩⟩
theorem own_form{base:Nat}{e:TypeId}{size:Nat}{v:Value}{n:Nat}{xs:List Value}(h:w.ownsRow base e size v n xs):∃a c,v=.slice a n c:=by
 rcases h.2 with ⟨rfl,rfl⟩ | ⟨g,cap,cur,rfl,_⟩
 ·exact⟨_,_,rfl⟩
 ·exact⟨_,_,rfl⟩
theorem own_one{base:Nat}{e:TypeId}{v:Value}{A:Rp α}(f:α→Value){l:List α}{n:Nat}(hf:∀(S:Nat→Prop) x,x∈l→A.r S w [f x] x)(hn:n=l.length)(h:w.ownsRow base e 1 v n (l.map f)):(rSl 1 A).r (fun b=>base≤b∧b<w.heap.size) w [v] l:=by
 subst hn
 rcases h.2 with ⟨rfl,h0⟩ | ⟨g,cap,cur,rfl,hbg,hg,hn,hc,hcur,hx⟩
 ·have:l=[]:=List.eq_nil_of_length_eq_zero h0
  subst this
  exact rSl_mk rfl (Nat.le_refl _) (Nat.zero_le _) (.inl rfl)
 ·refine rSl_mk rfl hn hc (.inr ⟨g,0,rfl,⟨hbg,Blk.lt hg⟩,fun i x hi=>⟨[f x],rfl,fun j v hj=> ?_,hf _ x (List.mem_of_getElem? hi)⟩⟩)
  have hj0:j=0:=by
   rcases j with _ | j
   ·rfl
   ·simp at hj
  subst hj0
  simp at hj
  subst hj
  have hi':i<l.length:=(List.getElem?_eq_some_iff.1 hi).1
  rw[Nat.zero_add,Nat.mul_one,Nat.add_zero,Blk.cell hg i]
  have e1:cur[i]? =(cur.toList.take (l.length*1))[i]? :=by
   rw[List.getElem?_take,if_pos (by omega)];simp
  rw[e1,hx,List.getElem?_map,hi];rfl
theorem src_one{S:Nat→Prop}{a:Option Addr}{n c:Nat}{A:Rp α}(f:α→Value){l:List α}(hf:∀(S:Nat→Prop) cs x,A.r S w cs x→cs=[f x])(h:(rSl 1 A).r S w [.slice a n c] l):Src w a l.length 1 (l.map f):=by
 refine⟨by simp,?_⟩
 rcases Nat.eq_zero_or_pos l.length with h0 | h0
 ·exact .inl h0
 ·right
  obtain⟨b,o,e,_⟩:=sl_at h (i:=0) h0
  refine⟨b,o,e,fun j u hu=> ?_⟩
  have hj:j<l.length:=by
   have:=(List.getElem?_eq_some_iff.1 hu).1
   simpa using this
  obtain⟨b',o',e',_,cs,_,hc,hA⟩:=sl_at h hj
  rw[e] at e'
  simp at e'
  obtain⟨rfl,rfl⟩:=e'
  have hcs:=hf _ _ _ hA
  subst hcs
  have:=hc 0 _ rfl
  rw[Nat.mul_one,Nat.add_zero] at this
  simp only[List.getElem?_map,List.getElem?_eq_getElem hj,Option.map_some,Option.some.injEq] at hu
  rw[←hu];exact this
def u64Cells(l:List Int):List Value:=l.map fun n=> .int .u64 n
theorem u64Cells_one(l:List Int):∀u∈u64Cells l,u.oneCell'=true:=by
 intro u hu
 obtain⟨b,_,rfl⟩:=List.mem_map.1 hu
 rfl
theorem src_u64s{S:Nat→Prop}{a:Option Addr}{n c:Nat}{l:List Int}(h:rU64s.r S w [.slice a n c] l):Src w a l.length 1 (u64Cells l):=src_one (A:=rInt .u64) (fun n=> .int .u64 n) (fun _ _ _ h=>h.1) h
theorem own_ints64{base:Nat}{e:TypeId}{v:Value}{l:List Int}{n:Nat}(hw:∀x∈l,0≤x∧x≤18446744073709551615)(hn:n=l.length)(h:w.ownsRow base e 1 v n (u64Cells l)):rU64s.r (fun b=>base≤b∧b<w.heap.size) w [v] l:=
 own_one _ (fun _ x hx=>⟨rfl,u64_wf (hw x hx)⟩) hn h
theorem own_bytes2{base:Nat}{e:TypeId}{v:Value}{l:List UInt8}{n:Nat}(hn:n=l.length)(h:w.ownsRow base e 1 v n (byteCells l)):rBytes.r (fun b=>base≤b∧b<w.heap.size) w [v] l:=
 own_one _ (fun _ x _=>rfl) hn h
theorem own_below{base:Nat}{e:TypeId}{size:Nat}{v:Value}{n:Nat}{xs:List Value}(h:w.ownsRow base e size v n xs)(hb:Below w.heap.size w w'):w'.ownsRow base e size v n xs:=by
 refine⟨h.1,?_⟩
 rcases h.2 with h0 | ⟨g,cap,cur,h1,h2,h3,h4⟩
 ·exact .inl h0
 ·exact .inr ⟨g,cap,cur,h1,h2,by rw[hb.block g (Array.getElem?_eq_some_iff.1 h3).1];exact h3,h4⟩
theorem step_append_src{P:Program}{ops:Array Oper}{o:Oper}{a:Act}{K:Act→World→Prop}{Q:Exit→Act→World→Prop}{E:Prop}(hgd:o.guard=none)(s x:Operand)(t:TypeId)
  (ho:o.op=.call {callee:=.builtin .append,args:=#[s,x],argTypes:=#[t,t]})
  (base:Nat) (e:TypeId) (i:TypeInfo) (z:Value) (size bytes:Nat) (ht:P.underlying t=some (.slice e)) (hi:P.info? e=some i) (hz:i.zero=some z)
  (hsize:i.size=size) (hby:i.bytes=bytes) (hzs:z.cells.size=size) (hsz:0<size)
  (v:Value) (n:Nat) (xs:List Value) (hs:a.eval s=v) (hown:w.ownsRow base e size v n xs)
  (A:Option Addr) (m c:Nat) (news:List Value) (hx:a.eval x=.slice A m c) (hsrc:Src w A m size news) (h1:∀u∈news,u.oneCell'=true)
  (h63:n+m≤maxLen) (hbytes:(n+m)*bytes≤140737488355328) (hbase:base≤w.heap.size)
  (h:∀a' c' w',w'.ownsRow base e size (.slice a' (n+m) c') (n+m) (xs++news)→w.grownBy w' v.ownBlock→((Value.slice a' (n+m) c').ownBlock=v.ownBlock∨(Value.slice a' (n+m) c').ownBlock=some w.heap.size)→K (a.put o.dst (.slice a' (n+m) c')) w'):
  if Region.wanted o (yielded ops a.tmps)=true then Oper.wp P o a w K Q else E:=by
 have hw:Region.wanted o (yielded ops a.tmps)=true:=by simp[Region.wanted,hgd]
 rw[if_pos hw]
 obtain⟨v',w',hrun,h2,h3,h4⟩:=run_append_src (P:=P) base t o.type e i z size bytes ht hi hz hsize hby hzs hsz v n xs hown A m c news hsrc h1 h63 hbytes hbase
 obtain⟨a',c',rfl⟩:=own_form h2
 unfold Oper.wp execOp
 simp only[ho,resolve,invoke,builtin,Sem.run_bind,Sem.run_pure,Result.andThen_ok,List.map_toArray,List.map_cons,List.map_nil,hs,hx,hrun]
 exact h a' c' w' h2 h3 h4
end
end Go.Bs
namespace Go.Proofs.YtmioakocnebceaaGreat
open Go.RowKit Go.Bs
def same1(b:List UInt8)(p q:Nat):Bool:=decide (p<b.length)&&decide (b[p]? =b[q]?)
theorem same1_at{b:List UInt8}{p q:Nat}(hp:p<b.length)(hq:q<b.length):same1 b p q=((b[p].toNat:Int)==(b[q].toNat:Int)):=by
 unfold same1
 rw[decide_eq_true hp,Bool.true_and,List.getElem?_eq_getElem hp,List.getElem?_eq_getElem hq,Bool.eq_iff_iff]
 simp only[decide_eq_true_eq,Option.some.injEq,beq_iff_eq]
 constructor
 ·intro h;rw[h]
 ·intro h;exact UInt8.toNat_inj.1 (by omega)
end Go.Proofs.YtmioakocnebceaaGreat
