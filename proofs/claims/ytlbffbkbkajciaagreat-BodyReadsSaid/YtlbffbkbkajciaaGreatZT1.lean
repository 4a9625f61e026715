/- Mini: Needed by bodyReads_walk, part 1: texts put together by shake.py; no condition. -/
import Derived.WalkKit
import Derived.WalkLawsBesides
import Derived.WalkSpells
import Derived.Outline
import Derived.BigQuiet
import Derived.Deep.QuietTactic
import Derived.ProofKit
import Derived.OpenShut
import Derived.Deep.Slices
import Derived.Lib.SmallJoins
import Derived.Maps.AppendAt
import Derived.Deep.AppendLies
import Derived.Test.YtlbffbkbkajciaaGreatRows
import Derived.Laws.IdiomStrings
import Derived.Laws.BytesArg
set_option linter.unusedVariables false
set_option linter.unusedSimpArgs false
set_option maxRecDepth 100000
set_option maxHeartbeats 6400000
namespace Go.Bs
theorem zCt{p:Prop}(h:p:=by simp only; omega):p:=h
theorem zCs{p:Prop}(h:p:=by simpa using hlen):p:=h
theorem zCl{p:Prop}(h:p:=by rw [Bb (by omega), h1]; simp):p:=h
theorem zCk{p:Prop}(h:p:=by rw [hf.out, hend.out]; rfl):p:=h
theorem zBy{p:Prop}(h:p:=by simp [Value.ownBlock] at hg'; omega):p:=h
theorem zBt{p:Prop}(h:p:=by rw [hst.out]; simp [huv]):p:=h
theorem zBs{p:Prop}(h:p:=by simpa using h2):p:=h
theorem zBn{p:Prop}(h:p:=by rw [A7 (by simpa using hlt), H8, hx]; rfl):p:=h
theorem zBc{p:Prop}(h:p:=by rw [hf.out, hst.out]; simp [huv]):p:=h
theorem zA3{p:Prop}(h:p:=by simp [byteCells]):p:=h
theorem zAz{p:Prop}(h:p:=by rw [hf.out, hst'.out]):p:=h
theorem zAj{p:Prop}(h:p:=by simpa using h1):p:=h
theorem zAi{p:Prop}(h:p:=by rw [hb.block g (Array.getElem?_eq_some_iff.1 h3).1]; exact h3):p:=h
theorem Z3{p:Prop}(h:p:=by simp [Value.oneCell']):p:=h
theorem ZV{p:Prop}(h:p:=by have := (List.getElem?_eq_some_iff.1 hj).1; rw [hsz _ (CL hic)] at this; exact this):p:=h
theorem ZS{p:Prop}(h:p:=by simp [World.setCell]):p:=h
theorem ZN{p:Prop}(h:p:=by rw [hf.out, List.drop_length, List.drop_of_length_le (by rw [HL.out]; exact Ai _)]; rfl):p:=h
theorem ZB{p:Prop}(h:p:=by go_num):p:=h
theorem zS{p:Prop}(h:p:=by decide):p:=h
theorem zR{p:Prop}(h:p:=by simp):p:=h
theorem zQ{p:Prop}(h:p:=by simp only [maxLen]; omega):p:=h
theorem zP{p:Prop}(h:p:=by rw [hff.out]; rfl):p:=h
theorem zK{p:Prop}(h:p:=by simp; omega):p:=h
theorem zJ{p:Prop}(h:p:=by kernel_rfl):p:=h
theorem zF{p:Prop}(h:p:=by dsimp only; omega):p:=h
theorem zD{p:Prop}(h:p:=by omega):p:=h
theorem zC{p:Prop}(h:p:=by (repeat (first | exact Below.refl _ _ | assumption | (refine As ?_ _) | (refine Below.setCell ?_ (by first | omega | (simp; done) | (simp; omega)) _) | (refine Below.drew ?_) | (refine below_drewN ?_ _) | (refine Af (by assumption) ?_)))):p:=h
theorem Ad:type_of% @decide_eq_false:=@decide_eq_false
theorem Ae:type_of% @decide_eq_true:=@decide_eq_true
theorem Ai:type_of% @Nat.le_refl:=@Nat.le_refl
theorem Aj:type_of% @List.cons.injEq:=@List.cons.injEq
theorem Ak:type_of% @if_neg:=@if_neg
theorem Al:type_of% @if_pos:=@if_pos
theorem Am:type_of% @Nat.zero_le:=@Nat.zero_le
theorem An:type_of% @Nat.lt_of_lt_of_le:=@Nat.lt_of_lt_of_le
theorem Ar:type_of% @List.length_append:=@List.length_append
theorem At:type_of% @and_true:=@and_true
theorem AD:type_of% @Bool.and_eq_true:=@Bool.and_eq_true
theorem AF:type_of% @decide_eq_true_eq:=@decide_eq_true_eq
theorem AG:type_of% @List.eq_nil_of_length_eq_zero:=@List.eq_nil_of_length_eq_zero
theorem AH:type_of% @List.getElem?_eq_getElem:=@List.getElem?_eq_getElem
theorem AL:type_of% @List.drop_eq_getElem_cons:=@List.drop_eq_getElem_cons
theorem AN:type_of% @wpQuiet_nil:=@wpQuiet_nil
theorem AU:type_of% @wpList_plain:=@wpList_plain
theorem AV:type_of% @Nat.le_trans:=@Nat.le_trans
theorem A7:type_of% @List.getElem?_append_left:=@List.getElem?_append_left
theorem A8:type_of% @info_parts:=@info_parts
theorem Ba:type_of% @Nat.lt_or_ge:=@Nat.lt_or_ge
theorem Bb:type_of% @List.getElem?_append_right:=@List.getElem?_append_right
theorem Bd:type_of% @World.cell?_of_block:=@World.cell?_of_block
theorem Bf:type_of% @List.mem_singleton:=@List.mem_singleton
theorem Bo:type_of% @Option.some.inj:=@Option.some.inj
theorem Bw:type_of% @List.length_cons:=@List.length_cons
theorem BK:type_of% @List.mem_append:=@List.mem_append
theorem BP:type_of% @Nat.zero_add:=@Nat.zero_add
theorem Cc:type_of% @Option.some.injEq:=@Option.some.injEq
theorem Cd:type_of% @Bool.true_and:=@Bool.true_and
theorem Cf:type_of% @Nat.mul_le_mul_right:=@Nat.mul_le_mul_right
theorem Cg:type_of% @World.frozen?_of_block:=@World.frozen?_of_block
theorem Co:type_of% @List.getElem?_take:=@List.getElem?_take
theorem Cs:type_of% @Nat.add_zero:=@Nat.add_zero
theorem CL:type_of% @List.getElem_mem:=@List.getElem_mem
theorem C6:type_of% @Nat.eq_zero_or_pos:=@Nat.eq_zero_or_pos
theorem Dl:type_of% @World.block_lt_of_cell?:=@World.block_lt_of_cell?
theorem Dm:type_of% @Int.eq_ofNat_of_zero_le:=@Int.eq_ofNat_of_zero_le
theorem Dx:type_of% @if_true:=@if_true
theorem DB:type_of% @Nat.mul_one:=@Nat.mul_one
theorem Ea:type_of% @Bool.eq_iff_iff:=@Bool.eq_iff_iff
theorem Gy:type_of% @Addr.mk.injEq:=@Addr.mk.injEq
theorem H8:type_of% @List.getElem?_map:=@List.getElem?_map
open Go.RowKit
theorem hid{p:Prop}(h:p):Hid p:=h
theorem As{a W:World}(h:Below a.heap.size a W)(o:Obj):Below a.heap.size a (W.alloc o):=h.alloc h.size _
theorem below_drewN{B:Nat}{a w:World}(h:Below B a w)(n:Nat):Below B a (w.drewN n):=⟨h.os,h.tape,h.output,h.size,h.block⟩
theorem Af{a W w':World}(hb:Below W.heap.size W w')(h:Below a.heap.size a W):Below a.heap.size a w':=h.trans (hb.mono h.size)
def Blk(w:World)(g:Nat)(t:TypeId)(cs:Array Value):Prop:=w.heap[g]? =some (.cells cs t (0,0))
section
variable {w w':World} {g:Nat} {t:TypeId} {cs:Array Value}
theorem Blk.lt(h:Blk w g t cs):g<w.heap.size:=by
 rcases Ba g w.heap.size with h' | h'
 ·exact h'
 ·unfold Blk at h;rw[Array.getElem?_eq_none h'] at h;cases h
theorem Blk.cell(h:Blk w g t cs)(i:Nat):w.cell? ⟨g,i,none⟩=cs[i]? :=by unfold Blk at h;simp[World.cell?,h]
theorem Blk.free(h:Blk w g t cs)(i:Nat):w.frozen? ⟨g,i,none⟩=false:=by unfold Blk at h;simp[World.frozen?,h]
theorem Blk.new(w:World)(t:TypeId)(cs:Array Value):Blk (w.alloc (.cells cs t)) w.heap.size t cs:=by
 unfold Blk;show (w.heap.push _)[w.heap.size]? =_;simp
theorem Blk.newAt(w:World)(t:TypeId)(cs:Array Value){g:Nat}(h:g=w.heap.size):Blk (w.alloc (.cells cs t)) g t cs:=h ▸ Blk.new w t cs
theorem Blk.Se(w:World)(o:Obj)(t:TypeId)(cs:Array Value):Blk ((w.alloc o).alloc (.cells cs t)) (w.heap.size+1) t cs:=by
 have:=Blk.new (w.alloc o) t cs
 simpa using this
theorem Blk.alloc(h:Blk w g t cs)(o:Obj):Blk (w.alloc o) g t cs:=(Below.heap_alloc w o g h.lt).trans h
theorem Blk.drewN(h:Blk w g t cs)(n:Nat):Blk (w.drewN n) g t cs:=h
theorem Blk.drew(h:Blk w g t cs):Blk w.drew g t cs:=h
theorem Blk.set(h:Blk w g t cs)(i:Nat)(u:Value):Blk (w.setCell ⟨g,i,none⟩ u) g t (cs.setIfInBounds i u):=by
 unfold Blk at h ⊢;simp[World.setCell,Array.getElem?_modify,h]
theorem Blk.far(h:Blk w g t cs){p:Addr}(hp:g≠p.block)(u:Value):Blk (w.setCell p u) g t cs:=(Below.heap_setCell w p u g hp).trans h
theorem Blk.below{B:Nat}(h:Blk w g t cs)(hb:Below B w w')(hg:g<B):Blk w' g t cs:=(hb.block g hg).trans h
theorem Blk.later(h:Blk w g t cs)(hb:Below w.heap.size w w'):Blk w' g t cs:=h.below hb h.lt
theorem Blk.grown{row:Option Nat}(h:Blk w g t cs)(hb:w.grownBy w' row)(hg:some g≠row):Blk w' g t cs:=(hb.block g h.lt hg).trans h
end
structure Ay(w:World) where
 at_:World
 below:Below w.heap.size w at_
instance (w:World):Inhabited (Ay w):=⟨⟨w,Below.refl _ _⟩⟩
theorem Ay.cell{w:World}{b o:Nat}{v:Value}(h:w.cell? ⟨b,o,none⟩=some v)(s:Ay w):s.at_.cell? ⟨b,o,none⟩=some v:=by
 have hlt:=Dl w _ h
 rw[s.below.cell (p:=⟨b,o,none⟩) hlt];exact h
section
variable {P:Program}
theorem CC{c:Code}{Q:Exit→Act→World→Prop}{a:Act}{w:World}(F:World→Prop)(hF:F w)(h:∀W,F W→c.wp P Q a W):c.wp P Q a w:=h w hF
theorem Aw{id:Nat}{Q:Exit→Act→World→Prop}{a:Act}{w:World}{l:List Oper}(hm:P.follows .mixedOrders=true)(hB:Region.lexB .any l.toArray=true)
  (h:wpQuiet P l.toArray (fun w'=>∃s:Ay w,w'=s.at_) (fun a'=>∀w',(∃s:Ay w,w'=s.at_)→Q .normal a' w') l a):(Code.region id l.toArray true).wp P Q a w:=
 wp_region_quiet (C:=fun w'=>∃s:Ay w,w'=s.at_) hm hB ⟨⟨w.drew,(Below.refl _ _).drew⟩,rfl⟩ (by simpa using h)
theorem AZ{f:FuncId}{args:Array Value}{w:World}{s:Ay w}{v:Value}
  (h:Calls P f args s.at_ fun e w'=>e=.returned v∧Below s.at_.heap.size s.at_ w'):Calls P f args s.at_ fun e w''=>e=.returned v∧∃s':Ay w,w''=s'.at_:=
 h.mono fun _ w' ⟨he,hb⟩=>⟨he,⟨w',s.below.trans (hb.mono s.below.size)⟩,rfl⟩
theorem CY{f:FuncId}{args:Array Value}{w:World}{s:Ay w}{v:Value}
  (h:Calls P f args s.at_ fun e w'=>e=.returned v∧s.at_=w'):Calls P f args s.at_ fun e w''=>e=.returned v∧∃s':Ay w,w''=s'.at_:=
 h.mono fun _ _ ⟨he,hb⟩=>⟨he,s,hb.symm⟩
end
open Go.RowKit
structure Rp(α:Type) where
 r:(Nat→Prop)→World→List Value→α→Prop
 keep:∀{S:Nat→Prop} {w w':World} {cs:List Value} {x:α},r S w cs x→(∀b,S b→w'.heap[b]? =w.heap[b]?)→r S w' cs x
 mono:∀{S S':Nat→Prop} {w:World} {cs:List Value} {x:α},r S w cs x→(∀b,S b→S' b)→r S' w cs x
def Le(k:IntKind):Rp Int:=⟨fun _ _ cs n=>cs=[.int k n]∧(Lit.int k n).wf=true,fun h _=>h,fun h _=>h⟩
def Rl:Rp UInt8:=⟨fun _ _ cs b=>cs=[.int .u8 (b.toNat:Int)],fun h _=>h,fun h _=>h⟩
def IQ{α β:Type}(A:Rp α)(B:Rp β):Rp (α × β):=
  ⟨fun S w cs x=>∃c d,cs=c++d∧A.r S w c x.1∧B.r S w d x.2,
   fun ⟨c,d,h,h1,h2⟩ hk=>⟨c,d,h,A.keep h1 hk,B.keep h2 hk⟩,fun ⟨c,d,h,h1,h2⟩ hk=>⟨c,d,h,A.mono h1 hk,B.mono h2 hk⟩⟩
def rBy{α β:Type}(f:α→β)(B:Rp β):Rp α:=⟨fun S w cs x=>B.r S w cs (f x),fun h hk=>B.keep h hk,fun h hk=>B.mono h hk⟩
def RY{α:Type}(sz:Nat)(A:Rp α)(S:Nat→Prop)(w:World)(b off:Nat)(xs:List α):Prop:=
 S b∧∀i x,xs[i]? =some x→∃cs:List Value,cs.length=sz∧(∀j v,cs[j]? =some v→w.cell? ⟨b,off+i*sz+j,none⟩=some v)∧A.r S w cs x
def rSl{α:Type}(sz:Nat)(A:Rp α):Rp (List α):=
  ⟨fun S w cs xs=>∃a c,cs=[.slice a xs.length c]∧xs.length≤c∧c≤maxLen∧(xs=[]∨∃b off,a=some ⟨b,off,none⟩∧RY sz A S w b off xs),
   fun ⟨a,c,h,h1,h2,h3⟩ hk=>⟨a,c,h,h1,h2,h3.imp id fun ⟨b,off,e,hb,hr⟩=>⟨b,off,e,hb,fun i x hi=>
     let ⟨cs,hl,hc,hA⟩:=hr i x hi
     ⟨cs,hl,fun j v hj=>(Bd (a:=⟨b,off+i*sz+j,none⟩) (hk b hb)).trans (hc j v hj),A.keep hA hk⟩⟩⟩,
   fun ⟨a,c,h,h1,h2,h3⟩ hk=>⟨a,c,h,h1,h2,h3.imp id fun ⟨b,off,e,hb,hr⟩=>⟨b,off,e,hk b hb,fun i x hi=>
     let ⟨cs,hl,hc,hA⟩:=hr i x hi
     ⟨cs,hl,hc,A.mono hA hk⟩⟩⟩⟩
theorem AM{α:Type}{sz:Nat}{A:Rp α}{S:Nat→Prop}{w:World}{cs:List Value}{xs:List α}{a:Option Addr}{c:Nat}(h:cs=[.slice a xs.length c])(h1:xs.length≤c)(h2:c≤maxLen)
  (h3:xs=[]∨∃b off,a=some ⟨b,off,none⟩∧RY sz A S w b off xs):(rSl sz A).r S w cs xs:=⟨a,c,h,h1,h2,h3⟩
theorem MA{α:Type}(n:Nat)(Q:Nat→α→Prop)(h:∀i,i<n→∃y,Q i y):∃ys:List α,ys.length=n∧∀i y,ys[i]? =some y→Q i y:=by
 induction n with
 | zero=>exact ⟨[],rfl,fun i y h=>by simp at h⟩
 | succ n ih=>
  obtain⟨ys,h1,h2⟩:=ih fun i hi=>h i zD
  obtain⟨y,hy⟩:=h n zD
  refine⟨ys++[y],by simp[h1],fun i z hz=> ?_⟩
  rcases Ba i ys.length with hi | hi
  ·rw[A7 hi] at hz
   exact h2 i z hz
  ·rw[Bb hi] at hz
   have h0:i-ys.length=0:=by
    rcases C6 (i-ys.length) with h | h
    ·exact h
    ·rw[List.getElem?_eq_none zK] at hz;cases hz
   rw[h0] at hz
   simp at hz
   subst hz;have:i=n:=zD
   subst this;exact hy
theorem Rp.below{α:Type}(A:Rp α){w w':World}{B:Nat}{cs:List Value}{x:α}(h:A.r (·<B) w cs x)(hb:Below B w w'):A.r (·<B) w' cs x:=A.keep h hb.block
section
variable {P:Program}
def MO(P:Program)(t:TypeId){α:Type}(A:Rp α):Prop:=
 ∀{H:Type} (enc:TypeId × Value→H) (w:World) (fuel:Nat) (cs:List Value) (x:DataW H × List MemPlace),DataW.trod enc P w 0 (fun _=>true) true fuel t cs=some x→∃y,A.r (·<w.heap.size) w cs y
theorem O6{t:TypeId}{k:IntKind}(ht:P.underlying t=some (.int k)):MO P t (Le k):=fun enc w fuel cs x h=>by
 obtain⟨n,rfl,_,hw⟩:=DataW.trod_int ht h
 exact⟨n,rfl,hw⟩
theorem NB{t:TypeId}(ht:P.underlying t=some (.int .u8)):MO P t Rl:=fun enc w fuel cs x h=>by
 obtain⟨n,rfl,_,hw⟩:=DataW.trod_int ht h
 have:=bounds_u8 hw
 refine⟨UInt8.ofNat n.toNat,?_⟩
 show _=_
 have e:((UInt8.ofNat n.toNat).toNat:Int)=n:=by
  simp[UInt8.toNat_ofNat'];omega
 rw[e]
theorem QL{a:Addr}{b:Nat}{n:Nat}{v:Value}{w:World}(h:w.cell? (a.add n)=some v):n=0→a.spot=none:=by
 rintro rfl;unfold Addr.add at h;simp only[Dx] at h
 unfold World.cell? at h;cases hs:a.spot with
 | none=>rfl
 | some s=>
  rw[hs] at h
  split at h<;>simp at h
theorem Md{t e:TypeId}{sz:Nat}{α:Type}{A:Rp α}(ht:P.underlying t=some (.slice e))(hs:P.cellsOf e=sz)(hsz:0<sz)(hA:MO P e A):MO P t (rSl sz A):=fun enc w fuel cs x h=>by
 rcases Deep.open_slice ht h with ⟨rfl,rfl⟩ | ⟨a,len,cap,m,n,D,Pl,rfl,hb,hl,hm,hmm,_,hel⟩
 ·exact⟨[],AM rfl (Ai _) (Am _) (.inl rfl)⟩
 ·have hlm:len≤m:=by simp at hmm;omega
  rw[hs] at hel
  have hy:∀i,i<len→∃y,∃cs':List Value,cs'.length=sz∧(∀j v,cs'[j]? =some v→w.cell? ((a.add (i*sz)).add j)=some v)∧A.r (·<w.heap.size) w cs' y:=by
   intro i hi;obtain⟨cs',hc,ht'⟩:=hel i zD
   obtain⟨y,hy⟩:=hA enc w n cs' _ ht'
   obtain⟨_,h1,h2⟩:=World.cells?_some hc
   exact⟨y,cs',h1,fun j v hj=>by
    have hj':j<sz:=by rw[←h1];exact (List.getElem?_eq_some_iff.1 hj).1
    rw[h2 j hj'];exact hj,hy⟩
  by_cases h0:len=0
  ·subst h0
   exact⟨[],AM rfl (Am _) hm (.inl rfl)⟩
  have hspot:a.spot=none:=by
   obtain⟨y,cs',h1,h2,_⟩:=hy 0 zD
   obtain⟨v,hv⟩:∃v,cs'[0]? =some v:=⟨cs'[0],AH zD⟩
   have:=h2 0 v hv
   have e1:(a.add (0*sz)).add 0=a.add 0:=by simp[Addr.add]
   rw[e1] at this
   exact QL (b:=0) this rfl
  obtain⟨ys,hys⟩:∃ys:List α,ys.length=len∧∀i y,ys[i]? =some y→∃cs':List Value,cs'.length=sz∧(∀j v,cs'[j]? =some v→w.cell? ((a.add (i*sz)).add j)=some v)∧A.r (·<w.heap.size) w cs' y:=by
   exact MA len _ hy
  obtain⟨hlen,hys⟩:=hys
  refine⟨ys,AM (a:=some a) (c:=cap) (by rw[hlen]) zD hm (.inr ⟨a.block,a.off,by cases a;simp at hspot;rw[hspot],?_,?_⟩)⟩
  ·obtain⟨y,cs',h1,h2,_⟩:=hy 0 zD
   obtain⟨v,hv⟩:∃v,cs'[0]? =some v:=⟨cs'[0],AH zD⟩
   have:=Dl w _ (h2 0 v hv)
   simpa [Addr.add] using this
  ·intro i y hiy
   obtain⟨cs',h1,h2,h3⟩:=hys i y hiy
   refine⟨cs',h1,fun j v hj=> ?_,h3⟩
   rw[←h2 j v hj]
   congr 1
   cases a with
   | mk ab ao asp=>
    simp at hspot
    subst hspot;unfold Addr.add;split<;>split<;>simp_all
end
open Go.RowKit
structure Bv where
 stream:Int
 backs:List Int
structure Entry where
 links:List Bv
 data:List UInt8
structure Batch where
 epoch:Int
 base:Int
 entries:List Entry
structure Seg where
 epoch:Int
 batches:List Batch
def AK:Rp (List Int):=rSl 1 (Le .u64)
def Ah:Rp (List UInt8):=rSl 1 Rl
def Fv:Rp Bv:=rBy (fun l=>(l.stream,l.backs)) (IQ (Le .u64) AK)
def BE:Rp (List Bv):=rSl 2 Fv
def Ns:Rp Entry:=rBy (fun e=>(e.links,e.data)) (IQ BE Ah)
def Jz:Rp (List Entry):=rSl 2 Ns
def FE:Rp Batch:=rBy (fun b=>(b.epoch,b.base,b.entries)) (IQ (Le .u64) (IQ (Le .u64) Jz))
section
variable {S:Nat→Prop} {w:World} {cs:List Value}
theorem Au{α:Type}{sz:Nat}{A:Rp α}{xs:List α}(h:(rSl sz A).r S w cs xs):∃a c,cs=[.slice a xs.length c]∧(rSl sz A).r S w [.slice a xs.length c] xs∧xs.length≤9223372036854775807:=by
 obtain⟨a,c,rfl,h1,h2,h3⟩:=h
 exact⟨a,c,rfl,⟨a,c,rfl,h1,h2,h3⟩,by unfold maxLen at h2;omega⟩
theorem AW{α:Type}{sz:Nat}{A:Rp α}{xs:List α}{a:Option Addr}{n c:Nat}(h:(rSl sz A).r S w [.slice a n c] xs):n=xs.length∧xs.length≤9223372036854775807∧n≤c∧c≤9223372036854775807:=by
 obtain⟨a',c',e,h1,h2,h3⟩:=h
 simp at e
 obtain⟨_,rfl,rfl⟩:=e
 exact⟨rfl,by unfold maxLen at h2;omega,h1,h2⟩
theorem Kk{α:Type}{sz:Nat}{A:Rp α}{xs:List α}{a:Option Addr}{n c:Nat}(h:(rSl sz A).r S w [.slice a n c] xs){i:Nat}(hi:i<xs.length):
  ∃b off,a=some ⟨b,off,none⟩∧S b∧∃cs:List Value,cs.length=sz∧(∀j v,cs[j]? =some v→w.cell? ⟨b,off+i*sz+j,none⟩=some v)∧A.r S w cs xs[i]:=by
 obtain⟨a',c',e,h1,h2,h3⟩:=h
 simp at e
 obtain⟨rfl,rfl,rfl⟩:=e
 rcases h3 with rfl | ⟨b,off,rfl,hS,hr⟩
 ·simp at hi
 ·obtain⟨cs,hl,hc,hA⟩:=hr i xs[i] (AH hi)
  exact⟨b,off,rfl,hS,cs,hl,hc,hA⟩
theorem NJ{x:Bv}(h:Fv.r S w cs x):∃a c,cs=[.int .u64 x.stream,.slice a x.backs.length c]∧(0≤x.stream∧x.stream≤18446744073709551615)∧AK.r S w [.slice a x.backs.length c] x.backs:=by
 obtain⟨c1,c2,rfl,⟨rfl,hw⟩,h2⟩:=h
 obtain⟨a,c,rfl,h3,_⟩:=Au h2
 exact⟨a,c,rfl,bounds_u64 hw,h3⟩
theorem GX{n:Int}(h:0≤n∧n≤18446744073709551615):(Lit.int .u64 n).wf=true:=by
 simp[Lit.wf,IntKind.min,IntKind.max,IntKind.signed,IntKind.bits];omega
theorem FL{x:Bv}{a:Option Addr}{n c:Nat}(h0:0≤x.stream∧x.stream≤18446744073709551615)(h:AK.r S w [.slice a n c] x.backs):Fv.r S w [.int .u64 x.stream,.slice a n c] x:=⟨[_],[_],rfl,⟨rfl,GX h0⟩,h⟩
theorem QK{x:Batch}{v:Value}(h0:0≤x.epoch∧x.epoch≤18446744073709551615)(h1:0≤x.base∧x.base≤18446744073709551615)(h:Jz.r S w [v] x.entries):FE.r S w [.int .u64 x.epoch,.int .u64 x.base,v] x:=
 ⟨[_],[_,_],rfl,⟨rfl,GX h0⟩,[_],[_],rfl,⟨rfl,GX h1⟩,h⟩
theorem DP{xs:List Int}{a:Option Addr}{n c:Nat}(h:AK.r S w [.slice a n c] xs){i:Nat}(hi:i<xs.length):∃b off,a=some ⟨b,off,none⟩∧S b∧w.cell? ⟨b,off+i,none⟩=some (.int .u64 xs[i])∧0≤xs[i]∧xs[i]≤18446744073709551615:=by
 obtain⟨b,off,e,hS,cs,_,hc,rfl,hw⟩:=Kk h hi
 have:=hc 0 _ rfl
 rw[DB,Cs] at this
 exact⟨b,off,e,hS,this,bounds_u64 hw⟩
theorem Bq{xs:List UInt8}{a:Option Addr}{n c:Nat}(h:Ah.r S w [.slice a n c] xs){i:Nat}(hi:i<xs.length):∃b off,a=some ⟨b,off,none⟩∧S b∧w.cell? ⟨b,off+i,none⟩=some (.int .u8 (xs[i].toNat:Int)):=by
 obtain⟨b,off,e,hS,cs,_,hc,rfl⟩:=Kk h hi
 have:=hc 0 _ rfl
 rw[DB,Cs] at this
 exact⟨b,off,e,hS,this⟩
theorem FM{xs:List Bv}{a:Option Addr}{n c:Nat}(h:BE.r S w [.slice a n c] xs){i:Nat}(hi:i<xs.length):∃b off,a=some ⟨b,off,none⟩∧S b∧∃a' c',w.cell? ⟨b,off+i*2,none⟩=some (.int .u64 xs[i].stream)∧w.cell? ⟨b,off+i*2+1,none⟩=some (.slice a' xs[i].backs.length c')∧
  (0≤xs[i].stream∧xs[i].stream≤18446744073709551615)∧AK.r S w [.slice a' xs[i].backs.length c'] xs[i].backs:=by
 obtain⟨b,off,e,hS,cs,_,hc,hA⟩:=Kk h hi
 obtain⟨a',c',rfl,h1,h2⟩:=NJ hA
 exact⟨b,off,e,hS,a',c',hc 0 _ rfl,hc 1 _ rfl,h1,h2⟩
end
theorem lift{α:Type}{A:Rp α}{w w':World}{cs:List Value}{x:α}(h:A.r (·<w.heap.size) w cs x)(hb:Below w.heap.size w w'):A.r (·<w'.heap.size) w' cs x:=
 A.mono (A.below h hb) fun b hlt=>An hlt hb.size
def epR(e:Int):Bool:=decide (1≤e∧e<4611686018427387904)
def poR(e:Int):Bool:=decide (e<4611686018427387904)
def DS:Int→List Int→Bool
 | _,[]=>true
 | b,x::l=>decide (x<b)&&DS x l
def BQ:List Int→Bool
 | []=>true
 | [_]=>true
 | x::y::l=>decide (x<y)&&BQ (y::l)
def Dy(pos:Int)(x:Bv):Bool:=decide (x.backs.length≤4)&&DS pos x.backs
def Df(pos:Int)(l:List Bv):Bool:=decide (l.length≤16)&&(BQ (l.map Bv.stream)&&l.all (Dy pos))
open Go.RowKit
section
variable {P:Program} {w:World}
def Src(w:World)(A:Option Addr)(m sz:Nat)(news:List Value):Prop:=
 news.length=m*sz∧(m=0∨∃b o,A=some ⟨b,o,none⟩∧∀j u,news[j]? =some u→w.cell? ⟨b,o+j,none⟩=some u)
theorem Hj(base:Nat)(t ty e:TypeId)(i:TypeInfo)(size:Nat)(ht:P.underlying t=some (.slice e))(hi:P.info? e=some i)
  (v:Value) (n:Nat) (xs:List Value) (hown:w.ownsRow base e size v n xs) (c:Nat):(Builtin.append_ #[t,t] ty #[v,.slice none 0 c]).run P w=.ok v w:=by
 rcases hown.2 with ⟨rfl,rfl⟩ | ⟨g,cap,cur,rfl,_,_,hnc,_⟩
 ·simp[Builtin.append_,run_underlying ht,sizeOf,typeInfo,hi,Builtin.lenOf,Builtin.firstCells]
 ·simp[Builtin.append_,run_underlying ht,sizeOf,typeInfo,hi,Builtin.lenOf,Builtin.firstCells,hnc,storeCells]
theorem add_plain(b o j:Nat):(⟨b,o,none⟩:Addr).add j=⟨b,o+j,none⟩:=by
 unfold Addr.add;split
 ·rename_i h;subst h;rfl
 ·rfl
theorem Ge(base:Nat)(t ty e:TypeId)(i:TypeInfo)(z:Value)(size bytes:Nat)(ht:P.underlying t=some (.slice e))(hi:P.info? e=some i)(hz:i.zero=some z)
  (hsize:i.size=size) (hby:i.bytes=bytes) (hzs:z.cells.size=size) (hsz:0<size)
  (v:Value) (n:Nat) (xs:List Value) (hown:w.ownsRow base e size v n xs) (A:Option Addr) (m c:Nat) (news:List Value) (hs:Src w A m size news) (h1:∀u∈news,u.oneCell'=true)
  (h63:n+m≤maxLen) (hbytes:(n+m)*bytes≤140737488355328) (hbase:base≤w.heap.size):
  ∃v' w',(Builtin.append_ #[t,t] ty #[v,.slice A m c]).run P w=.ok v' w'∧w'.ownsRow base e size v' (n+m) (xs++news)∧w.grownBy w' v.ownBlock∧(v'.ownBlock=v.ownBlock∨v'.ownBlock=some w.heap.size):=by
 obtain⟨hl,hs⟩:=hs
 rcases A with _ | ad
 ·have hm:m=0:=by
   rcases hs with h | ⟨b,o,h,_⟩
   ·exact h
   ·cases h
  subst hm;have hn:news=[]:=AG (by simpa using hl)
  subst hn;exact⟨v,w,Hj base t ty e i size ht hi v n xs hown c,by simpa using hown,World.grownBy.refl w _,.inl rfl⟩
 ·have hcells:∀j u,news[j]? =some u→w.cell? (ad.add j)=some u:=by
   intro j u hu;rcases hs with h | ⟨b,o,h,hc⟩
   ·subst h
    have hn:news=[]:=AG (by simpa using hl)
    subst hn;simp at hu
   ·injection h with h
    subst h;rw[add_plain];exact hc j u hu
  obtain⟨v',w',hrun,h2,h3,_,h5⟩:=run_append_own_at (P:=P) w base t ty e i z size bytes ht hi hz hsize hby hzs hsz v n xs hown ad m c news hl hcells h1 h63 hbytes hbase
  exact⟨v',w',hrun,h2,h3,h5⟩
theorem Aq{ops:Array Oper}{rest:List Oper}{o:Oper}{a:Act}{Q:Exit→Act→World→Prop}(hgd:o.guard=none)(s x:Operand)(t:TypeId)
  (ho:o.op=.call {callee:=.builtin .append,args:=#[s,x],argTypes:=#[t,t]})
  (base:Nat) (e:TypeId) (i:TypeInfo) (z:Value) (size bytes:Nat) (ht:P.underlying t=some (.slice e)) (hi:P.info? e=some i) (hz:i.zero=some z)
  (hsize:i.size=size) (hby:i.bytes=bytes) (hzs:z.cells.size=size) (hsz:0<size)
  (v:Value) (n:Nat) (xs:List Value) (hs:a.eval s=v) (hown:w.ownsRow base e size v n xs)
  (A:Option Addr) (m c:Nat) (news:List Value) (hx:a.eval x=.slice A m c) (hsrc:Src w A m size news) (h1:∀u∈news,u.oneCell'=true)
  (h63:n+m≤maxLen) (hbytes:(n+m)*bytes≤140737488355328) (hbase:base≤w.heap.size)
  (h:∀v' w',w'.ownsRow base e size v' (n+m) (xs++news)→w.grownBy w' v.ownBlock→(v'.ownBlock=v.ownBlock∨v'.ownBlock=some w.heap.size)→wpList P ops Q rest (a.put o.dst v') w'):wpList P ops Q (o::rest) a w:=
 AU hgd fun _ hK=>by
  obtain⟨v',w',hrun,h2,h3,h4⟩:=Ge (P:=P) base t o.type e i z size bytes ht hi hz hsize hby hzs hsz v n xs hown A m c news hsrc h1 h63 hbytes hbase
  unfold Oper.wp execOp;simp only[ho,resolve,invoke,builtin,Sem.run_bind,Sem.run_pure,Result.andThen_ok,List.map_toArray,List.map_cons,List.map_nil,hs,hx,hrun]
  exact hK _ _ (h v' w' h2 h3 h4)
def byteCells(l:List UInt8):List Value:=l.map fun b=> .int .u8 (b.toNat:Int)
theorem A2(l:List UInt8):∀u∈byteCells l,u.oneCell'=true:=by
 intro u hu;obtain⟨b,_,rfl⟩:=List.mem_map.1 hu
 rfl
theorem BI{S:Nat→Prop}{a:Option Addr}{n c:Nat}{l:List UInt8}(h:Ah.r S w [.slice a n c] l):Src w a l.length 1 (byteCells l):=by
 refine⟨zA3,?_⟩
 rcases l with _ | ⟨x,l⟩
 ·exact .inl rfl
 ·right
  obtain⟨b,o,e,_⟩:=Bq h (i:=0) zR
  refine⟨b,o,e,fun j u hu=> ?_⟩
  have hj:j<(x::l).length:=by
   have:=(List.getElem?_eq_some_iff.1 hu).1
   simpa [byteCells] using this
  obtain⟨b',o',e',_,hc⟩:=Bq h hj
  rw[e] at e'
  simp at e'
  obtain⟨rfl,rfl⟩:=e'
  have:u=.int .u8 (((x::l)[j]).toNat:Int):=by
   simp only[byteCells,H8,AH hj,Option.map_some,Cc] at hu
   exact hu.symm
  rw[this];exact hc
theorem GB{base:Nat}{e:TypeId}{v:Value}{l:List UInt8}{n:Nat}(hn:n=l.length)(h:w.ownsRow base e 1 v n (byteCells l)):Ah.r (·<w.heap.size) w [v] l:=by
 subst hn;rcases h.2 with ⟨rfl,h0⟩ | ⟨g,cap,cur,rfl,hbg,hg,hn,hc,hcur,hx⟩
 ·have:l=[]:=AG h0
  subst this;exact AM rfl (Ai _) (Am _) (.inl rfl)
 ·refine AM rfl hn hc (.inr ⟨g,0,rfl,Blk.lt hg,fun i x hi=>⟨[.int .u8 (x.toNat:Int)],rfl,fun j v hj=> ?_,rfl⟩⟩)
  have hj0:j=0:=by
   rcases j with _ | j
   ·rfl
   ·simp at hj
  subst hj0;simp at hj
  subst hj;have hi':i<l.length:=(List.getElem?_eq_some_iff.1 hi).1
  rw[BP,DB,Cs,Blk.cell hg i]
  have e1:cur[i]? =(cur.toList.take (l.length*1))[i]? :=by
   rw[Co,Al zD];simp
  rw[e1,hx,byteCells,H8,hi];rfl
end
open Go.RowKit
section
variable {w w':World} {α:Type}
def Cn(lo:Nat)(A:Rp α)(base:Nat)(e:TypeId)(sz:Nat)(w:World)(v:Value)(xs:List α)(cells:List (List Value)):Prop:=
 w.ownsRow base e sz v xs.length cells.flatten∧cells.length=xs.length∧(∀c∈cells,c.length=sz)∧
  ∀(i:Nat) cs x,cells[i]? =some cs→xs[i]? =some x→A.r (fun b=>lo≤b∧b<w.heap.size∧v.ownBlock≠some b) w cs x
def Ax(lo:Nat)(A:Rp α)(base:Nat)(e:TypeId)(sz:Nat)(w:World)(v:Value)(xs:List α):Prop:=∃cells,Cn lo A base e sz w v xs cells
theorem El(sz:Nat):∀(l:List (List Value)),(∀c∈l,c.length=sz)→∀(i j:Nat) cs v,l[i]? =some cs→cs[j]? =some v→l.flatten[i*sz+j]? =some v
 | [],_,i,j,cs,v,h,_=>by simp at h
 | c::l,hl,i,j,cs,v,h,hj=>by
  have hc:=hl c (List.mem_cons_self ..)
  rw[List.flatten_cons]
  cases i with
  | zero=>
   simp at h
   subst h;have:=(List.getElem?_eq_some_iff.1 hj).1
   rw[Nat.zero_mul,BP,A7 zD]
   exact hj
  | succ i=>
   simp at h
   rw[Bb (by rw[hc,Nat.succ_mul];omega),hc,show (i+1)*sz+j-sz=i*sz+j by rw[Nat.succ_mul];omega]
   exact El sz l (fun c h=>hl c (List.mem_cons_of_mem _ h)) i j cs v h hj
theorem Ax.nil{lo:Nat}{A:Rp α}{base:Nat}{e:TypeId}{sz:Nat}:Ax lo A base e sz w (.slice none 0 0) []:=
 ⟨[],⟨zR,.inl ⟨rfl,rfl⟩⟩,rfl,zR,fun i cs x h=>by simp at h⟩
theorem Ax.slice{lo:Nat}{A:Rp α}{base:Nat}{e:TypeId}{sz:Nat}{v:Value}{xs:List α}(hlo:lo≤base)(h:Ax lo A base e sz w v xs):(rSl sz A).r (fun b=>lo≤b∧b<w.heap.size) w [v] xs:=by
 obtain⟨cells,hown,hlen,hsz,hA⟩:=h
 rcases hown.2 with ⟨rfl,h0⟩ | ⟨g,cap,cur,rfl,hbg,hg,hn,hc,hcur,hx⟩
 ·have:xs=[]:=AG h0
  subst this;exact AM rfl (Ai _) (Am _) (.inl rfl)
 ·refine AM rfl hn hc (.inr ⟨g,0,rfl,⟨AV hlo hbg,(Array.getElem?_eq_some_iff.1 hg).1⟩,fun i x hi=> ?_⟩)
  have hi':i<xs.length:=(List.getElem?_eq_some_iff.1 hi).1
  have hic:i<cells.length:=zD
  have hcs:cells[i]? =some cells[i]:=AH hic
  refine⟨cells[i],hsz _ (CL hic),fun j v hj=> ?_,A.mono (hA i _ x hcs hi) fun b h=>⟨h.1,h.2.1⟩⟩
  have hj':j<sz:=ZV
  have hf:=El sz cells hsz i j _ v hcs hj
  rw[BP,show (⟨g,i*sz+j,none⟩:Addr)=⟨g,i*sz+j,none⟩ from rfl,Blk.cell hg (i*sz+j)]
  have hb:i*sz+j<xs.length*sz:=by
   have:=Cf sz (show i+1≤xs.length from hi')
   rw[Nat.succ_mul] at this
   omega
  have e1:cur[i*sz+j]? =(cur.toList.take (xs.length*sz))[i*sz+j]? :=by
   rw[Co,Al hb];simp
  rw[e1,hx];exact hf
def Rw{α:Type}(sz:Nat)(A:Rp α):Rp (List α):=
  ⟨fun S w cs xs=>∃a c,cs=[.slice a xs.length c]∧xs.length≤c∧c≤maxLen∧(xs=[]∨∃b off,a=some ⟨b,off,none⟩∧S b∧∀(i:Nat) x,xs[i]? =some x→∃cs:List Value,cs.length=sz∧
      (∀(j:Nat) v,cs[j]? =some v→w.cell? ⟨b,off+i*sz+j,none⟩=some v∧w.frozen? ⟨b,off+i*sz+j,none⟩=false)∧A.r (fun q=>S q∧q≠b) w cs x),
   fun ⟨a,c,h,h1,h2,h3⟩ hk=>⟨a,c,h,h1,h2,h3.imp id fun ⟨b,off,e,hb,hr⟩=>⟨b,off,e,hb,fun i x hi=>
     let ⟨cs,hl,hc,hA⟩:=hr i x hi
     ⟨cs,hl,fun j v hj=>⟨(Bd (a:=⟨b,off+i*sz+j,none⟩) (hk b hb)).trans (hc j v hj).1,(Cg (a:=⟨b,off+i*sz+j,none⟩) (hk b hb)).trans (hc j v hj).2⟩,A.keep hA fun q hq=>hk q hq.1⟩⟩⟩,
   fun ⟨a,c,h,h1,h2,h3⟩ hk=>⟨a,c,h,h1,h2,h3.imp id fun ⟨b,off,e,hb,hr⟩=>⟨b,off,e,hk b hb,fun i x hi=>
     let ⟨cs,hl,hc,hA⟩:=hr i x hi
     ⟨cs,hl,hc,A.mono hA fun q hq=>⟨hk q hq.1,hq.2⟩⟩⟩⟩⟩
theorem Rr{sz:Nat}{A:Rp α}{S:Nat→Prop}{cs:List Value}{xs:List α}(h:(Rw sz A).r S w cs xs):(rSl sz A).r S w cs xs:=by
 obtain⟨a,c,h1,h2,h3,h4⟩:=h
 refine⟨a,c,h1,h2,h3,h4.imp id fun ⟨b,off,e,hb,hr⟩=>⟨b,off,e,hb,fun i x hi=> ?_⟩⟩
 obtain⟨cs,h5,h6,h7⟩:=hr i x hi
 exact⟨cs,h5,fun j v hj=>(h6 j v hj).1,A.mono h7 fun q hq=>hq.1⟩
def GA:Rp (List Bv):=Rw 2 Fv
theorem Hw{S:Nat→Prop}{cs:List Value}{x:List Bv}(h:GA.r S w cs x):BE.r S w cs x:=Rr h
theorem Ax.G1{lo:Nat}{A:Rp α}{base:Nat}{e:TypeId}{sz:Nat}{v:Value}{xs:List α}(hlo:lo≤base)(h:Ax lo A base e sz w v xs):(Rw sz A).r (fun b=>lo≤b∧b<w.heap.size) w [v] xs:=by
 obtain⟨cells,hown,hlen,hsz,hA⟩:=h
 rcases hown.2 with ⟨rfl,h0⟩ | ⟨g,cap,cur,rfl,hbg,hg,hn,hc,hcur,hx⟩
 ·have:xs=[]:=AG h0
  subst this;exact⟨none,0,rfl,Ai _,Am _,.inl rfl⟩
 ·refine⟨_,cap,rfl,hn,hc,.inr ⟨g,0,rfl,⟨AV hlo hbg,(Array.getElem?_eq_some_iff.1 hg).1⟩,fun i x hi=> ?_⟩⟩
  have hi':i<xs.length:=(List.getElem?_eq_some_iff.1 hi).1
  have hic:i<cells.length:=zD
  have hcs:cells[i]? =some cells[i]:=AH hic
  refine⟨cells[i],hsz _ (CL hic),fun j v hj=>⟨?_,Blk.free hg _⟩,A.mono (hA i _ x hcs hi) fun b h=>⟨⟨h.1,h.2.1⟩,fun e=>h.2.2 (by rw[e];rfl)⟩⟩
  have hj':j<sz:=ZV
  have hf:=El sz cells hsz i j _ v hcs hj
  rw[BP,show (⟨g,i*sz+j,none⟩:Addr)=⟨g,i*sz+j,none⟩ from rfl,Blk.cell hg (i*sz+j)]
  have hb:i*sz+j<xs.length*sz:=by
   have:=Cf sz (show i+1≤xs.length from hi')
   rw[Nat.succ_mul] at this
   omega
  have e1:cur[i*sz+j]? =(cur.toList.take (xs.length*sz))[i*sz+j]? :=by
   rw[Co,Al hb];simp
  rw[e1,hx];exact hf
theorem Cn.push{lo:Nat}{A:Rp α}{base:Nat}{e:TypeId}{sz:Nat}{v v':Value}{xs:List α}{news:List Value}{x:α}{cells:List (List Value)}(h:Cn lo A base e sz w v xs cells)
  (hn:news.length=sz) (hx:A.r (fun b=>lo≤b∧b<w.heap.size∧v.ownBlock≠some b) w news x)
  (hown:w'.ownsRow base e sz v' (xs.length+1) (cells.flatten++news)) (hg:w.grownBy w' v.ownBlock) (hat:v'.ownBlock=v.ownBlock∨v'.ownBlock=some w.heap.size) (hsz':w.heap.size≤w'.heap.size):Cn lo A base e sz w' v' (xs++[x]) (cells++[news]):=by
 obtain⟨ho,hlen,hsz,hA⟩:=h
 have lift:∀cs y,A.r (fun b=>lo≤b∧b<w.heap.size∧v.ownBlock≠some b) w cs y→A.r (fun b=>lo≤b∧b<w'.heap.size∧v'.ownBlock≠some b) w' cs y:=fun cs y hr=>
  A.mono (A.keep hr fun b hb=>hg.block b hb.2.1 (fun e=>hb.2.2 e.symm)) fun b hb=>⟨hb.1,An hb.2.1 hsz',fun e=>by
   rcases hat with h | h
   ·exact hb.2.2 (h ▸ e)
   ·rw[h] at e;have:=Bo e;have:=hb.2.1;omega⟩
 refine⟨?_,by simp[hlen],?_,?_⟩
 ·rw[List.flatten_append,Ar]
  simpa using hown
 ·intro c hc
  rcases List.mem_append.1 hc with h | h
  ·exact hsz c h
  ·simp at h;subst h;exact hn
 ·intro i cs y hi hy
  by_cases hlt:i<xs.length
  ·rw[A7 zD] at hi
   rw[A7 hlt] at hy
   exact lift _ _ (hA i cs y hi hy)
  ·have hii:i=xs.length:=by
    have:=(List.getElem?_eq_some_iff.1 hy).1
    simp at this
    omega
   subst hii;rw[Bb zD] at hi
   rw[Bb (Ai _)] at hy
   simp[hlen] at hi
   simp at hy
   subst hi hy;exact lift _ _ hx
theorem Ax.push{lo:Nat}{A:Rp α}{base:Nat}{e:TypeId}{sz:Nat}{v v':Value}{xs:List α}{news:List Value}{x:α}{cells:List (List Value)}(h:Cn lo A base e sz w v xs cells)
  (hn:news.length=sz) (hx:A.r (fun b=>lo≤b∧b<w.heap.size∧v.ownBlock≠some b) w news x)
  (hown:w'.ownsRow base e sz v' (xs.length+1) (cells.flatten++news)) (hg:w.grownBy w' v.ownBlock) (hat:v'.ownBlock=v.ownBlock∨v'.ownBlock=some w.heap.size) (hsz':w.heap.size≤w'.heap.size):Ax lo A base e sz w' v' (xs++[x]):=
 ⟨_,Cn.push h hn hx hown hg hat hsz'⟩
theorem Ax.below{lo:Nat}{A:Rp α}{base:Nat}{e:TypeId}{sz:Nat}{v:Value}{xs:List α}(h:Ax lo A base e sz w v xs)(hb:Below w.heap.size w w'):Ax lo A base e sz w' v xs:=by
 obtain⟨cells,ho,hlen,hsz,hA⟩:=h
 refine⟨cells,⟨ho.1,?_⟩,hlen,hsz,fun i cs x hi hx=>A.mono (A.keep (hA i cs x hi hx) fun b h=>hb.block b h.2.1) fun b h=>⟨h.1,An h.2.1 hb.size,h.2.2⟩⟩
 rcases ho.2 with h0 | ⟨g,cap,cur,h1,h2,h3,h4⟩
 ·exact .inl h0
 ·exact .inr ⟨g,cap,cur,h1,h2,zAi,h4⟩
theorem Cn.below{lo:Nat}{A:Rp α}{base:Nat}{e:TypeId}{sz:Nat}{v:Value}{xs:List α}{cells:List (List Value)}(h:Cn lo A base e sz w v xs cells)(hb:Below w.heap.size w w'):Cn lo A base e sz w' v xs cells:=by
 obtain⟨ho,hlen,hsz,hA⟩:=h
 refine⟨⟨ho.1,?_⟩,hlen,hsz,fun i cs x hi hx=>A.mono (A.keep (hA i cs x hi hx) fun b h=>hb.block b h.2.1) fun b h=>⟨h.1,An h.2.1 hb.size,h.2.2⟩⟩
 rcases ho.2 with h0 | ⟨g,cap,cur,h1,h2,h3,h4⟩
 ·exact .inl h0
 ·exact .inr ⟨g,cap,cur,h1,h2,zAi,h4⟩
theorem EL{base:Nat}{e:TypeId}{size:Nat}(W:World)(hb:base≤W.heap.size){g:Nat}(hg:g=W.heap.size):(W.alloc (.cells #[] e)).ownsRow base e size (.slice (some ⟨g,0,none⟩) 0 0) 0 []:=by
 subst hg;exact⟨zR,.inr ⟨_,0,#[],rfl,hb,(MapKept.heap_alloc W _).1,Ai _,Am _,zR,zR⟩⟩
theorem AP{base:Nat}{e:TypeId}{size:Nat}{v:Value}{n:Nat}{xs:List Value}(h:w.ownsRow base e size v n xs):∃a c,v=.slice a n c:=by
 rcases h.2 with ⟨rfl,rfl⟩ | ⟨g,cap,cur,rfl,_⟩
 ·exact⟨_,_,rfl⟩
 ·exact⟨_,_,rfl⟩
theorem Qd{base:Nat}{e:TypeId}{size:Nat}{v:Value}{n:Nat}{xs:List Value}(h:w.ownsRow base e size v (n+1) xs):∃g c,v=.slice (some ⟨g,0,none⟩) (n+1) c:=by
 rcases h.2 with ⟨_,h0⟩ | ⟨g,cap,cur,rfl,_⟩
 ·cases h0
 ·exact⟨_,_,rfl⟩
theorem Ox{base:Nat}{e:TypeId}{v:Value}{A:Rp α}(f:α→Value){l:List α}{n:Nat}(hf:∀(S:Nat→Prop) x,x∈l→A.r S w [f x] x)(hn:n=l.length)(h:w.ownsRow base e 1 v n (l.map f)):(rSl 1 A).r (fun b=>base≤b∧b<w.heap.size) w [v] l:=by
 subst hn;rcases h.2 with ⟨rfl,h0⟩ | ⟨g,cap,cur,rfl,hbg,hg,hn,hc,hcur,hx⟩
 ·have:l=[]:=AG h0
  subst this;exact AM rfl (Ai _) (Am _) (.inl rfl)
 ·refine AM rfl hn hc (.inr ⟨g,0,rfl,⟨hbg,Blk.lt hg⟩,fun i x hi=>⟨[f x],rfl,fun j v hj=> ?_,hf _ x (List.mem_of_getElem? hi)⟩⟩)
  have hj0:j=0:=by
   rcases j with _ | j
   ·rfl
   ·simp at hj
  subst hj0;simp at hj
  subst hj;have hi':i<l.length:=(List.getElem?_eq_some_iff.1 hi).1
  rw[BP,DB,Cs,Blk.cell hg i]
  have e1:cur[i]? =(cur.toList.take (l.length*1))[i]? :=by
   rw[Co,Al zD];simp
  rw[e1,hx,H8,hi];rfl
def Be(l:List Int):List Value:=l.map fun n=> .int .u64 n
theorem EX{base:Nat}{e:TypeId}{v:Value}{l:List Int}{n:Nat}(hw:∀x∈l,0≤x∧x≤18446744073709551615)(hn:n=l.length)(h:w.ownsRow base e 1 v n (Be l)):AK.r (fun b=>base≤b∧b<w.heap.size) w [v] l:=
 Ox _ (fun _ x hx=>⟨rfl,GX (hw x hx)⟩) hn h
theorem BU{base:Nat}{e:TypeId}{v:Value}{l:List UInt8}{n:Nat}(hn:n=l.length)(h:w.ownsRow base e 1 v n (byteCells l)):Ah.r (fun b=>base≤b∧b<w.heap.size) w [v] l:=
 Ox _ (fun _ x _=>rfl) hn h
theorem AI{base:Nat}{e:TypeId}{size:Nat}{v:Value}{n:Nat}{xs:List Value}(h:w.ownsRow base e size v n xs)(hb:Below w.heap.size w w'):w'.ownsRow base e size v n xs:=by
 refine⟨h.1,?_⟩
 rcases h.2 with h0 | ⟨g,cap,cur,h1,h2,h3,h4⟩
 ·exact .inl h0
 ·exact .inr ⟨g,cap,cur,h1,h2,zAi,h4⟩
theorem CO{P:Program}{ops:Array Oper}{o:Oper}{a:Act}{K:Act→World→Prop}{Q:Exit→Act→World→Prop}{E:Prop}(hgd:o.guard=none)(s x:Operand)(t:TypeId)
  (ho:o.op=.call {callee:=.builtin .append,args:=#[s,x],argTypes:=#[t,t]})
  (base:Nat) (e:TypeId) (i:TypeInfo) (z:Value) (size bytes:Nat) (ht:P.underlying t=some (.slice e)) (hi:P.info? e=some i) (hz:i.zero=some z)
  (hsize:i.size=size) (hby:i.bytes=bytes) (hzs:z.cells.size=size) (hsz:0<size)
  (v:Value) (n:Nat) (xs:List Value) (hs:a.eval s=v) (hown:w.ownsRow base e size v n xs)
  (A:Option Addr) (m c:Nat) (news:List Value) (hx:a.eval x=.slice A m c) (hsrc:Src w A m size news) (h1:∀u∈news,u.oneCell'=true)
  (h63:n+m≤maxLen) (hbytes:(n+m)*bytes≤140737488355328) (hbase:base≤w.heap.size)
  (h:∀a' c' w',w'.ownsRow base e size (.slice a' (n+m) c') (n+m) (xs++news)→w.grownBy w' v.ownBlock→((Value.slice a' (n+m) c').ownBlock=v.ownBlock∨(Value.slice a' (n+m) c').ownBlock=some w.heap.size)→K (a.put o.dst (.slice a' (n+m) c')) w'):
  if Region.wanted o (yielded ops a.tmps)=true then Oper.wp P o a w K Q else E:=by
 have hw:Region.wanted o (yielded ops a.tmps)=true:=by simp[Region.wanted,hgd]
 rw[Al hw]
 obtain⟨v',w',hrun,h2,h3,h4⟩:=Ge (P:=P) base t o.type e i z size bytes ht hi hz hsize hby hzs hsz v n xs hown A m c news hsrc h1 h63 hbytes hbase
 obtain⟨a',c',rfl⟩:=AP h2
 unfold Oper.wp execOp;simp only[ho,resolve,invoke,builtin,Sem.run_bind,Sem.run_pure,Result.andThen_ok,List.map_toArray,List.map_cons,List.map_nil,hs,hx,hrun]
 exact h a' c' w' h2 h3 h4
end
open Go.RowKit
section
variable {w w':World} {α:Type}
theorem Gr(sz:Nat):∀(l:List (List Value)),(∀c∈l,c.length=sz)→l.flatten.length=l.length*sz
 | [],_=>by simp
 | a::l,h=>by
  rw[List.flatten_cons,Ar,h a zR,Gr sz l fun c hc=>h c (by simp[hc]),Bw,Nat.succ_mul]
  omega
def A5(F:Nat→Prop)(A:Rp α)(base:Nat)(e:TypeId)(sz:Nat)(w:World)(v:Value)(xs:List α)(cells:List (List Value)):Prop:=
 w.ownsRow base e sz v xs.length cells.flatten∧cells.length=xs.length∧(∀c∈cells,c.length=sz)∧
  ∀(i:Nat) cs x,cells[i]? =some cs→xs[i]? =some x→A.r (fun b=>F b∧v.ownBlock≠some b) w cs x
theorem A5.of{lo:Nat}{A:Rp α}{base:Nat}{e:TypeId}{sz:Nat}{v:Value}{xs:List α}{cells:List (List Value)}(h:Cn lo A base e sz w v xs cells):A5 (fun b=>lo≤b∧b<w.heap.size) A base e sz w v xs cells:=
 ⟨h.1,h.2.1,h.2.2.1,fun i cs x hi hx=>A.mono (h.2.2.2 i cs x hi hx) fun b hb=>⟨⟨hb.1,hb.2.1⟩,hb.2.2⟩⟩
theorem A5.to{F:Nat→Prop}{lo:Nat}{A:Rp α}{base:Nat}{e:TypeId}{sz:Nat}{v:Value}{xs:List α}{cells:List (List Value)}(h:A5 F A base e sz w v xs cells)(hF:∀b,F b→lo≤b∧b<w.heap.size):Cn lo A base e sz w v xs cells:=
 ⟨h.1,h.2.1,h.2.2.1,fun i cs x hi hx=>A.mono (h.2.2.2 i cs x hi hx) fun b hb=>⟨(hF b hb.1).1,(hF b hb.1).2,hb.2⟩⟩
theorem A5.keep{F:Nat→Prop}{A:Rp α}{base:Nat}{e:TypeId}{sz:Nat}{v:Value}{xs:List α}{cells:List (List Value)}(h:A5 F A base e sz w v xs cells)(hF:∀b,F b→w'.heap[b]? =w.heap[b]?)(hv:∀g,v.ownBlock=some g→w'.heap[g]? =w.heap[g]?):A5 F A base e sz w' v xs cells:=by
 obtain⟨ho,hlen,hsz,hA⟩:=h
 refine⟨⟨ho.1,?_⟩,hlen,hsz,fun i cs x hi hx=>A.keep (hA i cs x hi hx) fun b hb=>hF b hb.1⟩
 rcases ho.2 with h0 | ⟨g,cap,cur,h1,h2,h3,h4⟩
 ·exact .inl h0
 ·exact .inr ⟨g,cap,cur,h1,h2,by rw[hv g (by rw[h1];rfl)];exact h3,h4⟩
theorem A5.mono{F F':Nat→Prop}{A:Rp α}{base:Nat}{e:TypeId}{sz:Nat}{v:Value}{xs:List α}{cells:List (List Value)}(h:A5 F A base e sz w v xs cells)(hF:∀b,F b→F' b):A5 F' A base e sz w v xs cells:=
 ⟨h.1,h.2.1,h.2.2.1,fun i cs x hi hx=>A.mono (h.2.2.2 i cs x hi hx) fun b hb=>⟨hF b hb.1,hb.2⟩⟩
theorem A5.nil{F:Nat→Prop}{A:Rp α}{base:Nat}{e:TypeId}{sz:Nat}:A5 F A base e sz w (.slice none 0 0) [] []:=
 ⟨⟨zR,.inl ⟨rfl,rfl⟩⟩,rfl,zR,fun i cs x h=>by simp at h⟩
theorem A5.push{F:Nat→Prop}{A:Rp α}{base:Nat}{e:TypeId}{sz:Nat}{v v':Value}{xs:List α}{news:List Value}{x:α}{cells:List (List Value)}(h:A5 F A base e sz w v xs cells)(hF:∀b,F b→b<w.heap.size)
  (hn:news.length=sz) (hx:A.r (fun b=>F b∧v.ownBlock≠some b) w news x)
  (hown:w'.ownsRow base e sz v' (xs.length+1) (cells.flatten++news)) (hg:w.grownBy w' v.ownBlock) (hat:v'.ownBlock=v.ownBlock∨v'.ownBlock=some w.heap.size):A5 F A base e sz w' v' (xs++[x]) (cells++[news]):=by
 obtain⟨ho,hlen,hsz,hA⟩:=h
 have lift:∀cs y,A.r (fun b=>F b∧v.ownBlock≠some b) w cs y→A.r (fun b=>F b∧v'.ownBlock≠some b) w' cs y:=fun cs y hr=>
  A.mono (A.keep hr fun b hb=>hg.block b (hF b hb.1) (fun e=>hb.2 e.symm)) fun b hb=>⟨hb.1,fun e=>by
   rcases hat with h | h
   ·exact hb.2 (h ▸ e)
   ·rw[h] at e;have:=Bo e;have:=hF b hb.1;omega⟩
 refine⟨?_,by simp[hlen],?_,?_⟩
 ·rw[List.flatten_append,Ar]
  simpa using hown
 ·intro c hc
  rcases List.mem_append.1 hc with h | h
  ·exact hsz c h
  ·simp at h;subst h;exact hn
 ·intro i cs y hi hy
  by_cases hlt:i<xs.length
  ·rw[A7 zD] at hi
   rw[A7 hlt] at hy
   exact lift _ _ (hA i cs y hi hy)
  ·have hii:i=xs.length:=by
    have:=(List.getElem?_eq_some_iff.1 hy).1
    simp at this
    omega
   subst hii;rw[Bb zD] at hi
   rw[Bb (Ai _)] at hy
   simp[hlen] at hi
   simp at hy
   subst hi hy;exact lift _ _ hx
theorem A5.slice{F:Nat→Prop}{A:Rp α}{base:Nat}{e:TypeId}{sz:Nat}{v:Value}{xs:List α}{cells:List (List Value)}(h:A5 F A base e sz w v xs cells):(rSl sz A).r (fun b=>F b∨v.ownBlock=some b) w [v] xs:=by
 obtain⟨hown,hlen,hsz,hA⟩:=h
 rcases hown.2 with ⟨rfl,h0⟩ | ⟨g,cap,cur,rfl,hbg,hg,hn,hc,hcur,hx⟩
 ·have:xs=[]:=AG h0
  subst this;exact AM rfl (Ai _) (Am _) (.inl rfl)
 ·refine AM rfl hn hc (.inr ⟨g,0,rfl,.inr rfl,fun i x hi=> ?_⟩)
  have hi':i<xs.length:=(List.getElem?_eq_some_iff.1 hi).1
  have hic:i<cells.length:=zD
  have hcs:cells[i]? =some cells[i]:=AH hic
  refine⟨cells[i],hsz _ (CL hic),fun j v hj=> ?_,A.mono (hA i _ x hcs hi) fun b h=> .inl h.1⟩
  have hj':j<sz:=ZV
  have hf:=El sz cells hsz i j _ v hcs hj
  rw[BP,Blk.cell hg (i*sz+j)]
  have hb:i*sz+j<xs.length*sz:=by
   have:=Cf sz (show i+1≤xs.length from hi')
   rw[Nat.succ_mul] at this
   omega
  have e1:cur[i*sz+j]? =(cur.toList.take (xs.length*sz))[i*sz+j]? :=by
   rw[Co,Al hb];simp
  rw[e1,hx];exact hf
theorem A5.Ou{F:Nat→Prop}{A:Rp α}{base:Nat}{e:TypeId}{sz:Nat}{g n c:Nat}{xs:List α}{x x':α}{cells:List (List Value)}{cs:List Value}{j:Nat}{u:Value}
  (h:A5 F A base e sz w (.slice (some ⟨g,0,none⟩) n c) (xs++[x]) (cells++[cs])) (hl:cells.length=xs.length) (hj:j<sz)
  (hx:A.r (fun b=>F b∧g≠b) w (cs.set j u) x'):
  A5 F A base e sz (w.setCell ⟨g,xs.length*sz+j,none⟩ u) (.slice (some ⟨g,0,none⟩) n c) (xs++[x']) (cells++[cs.set j u]):=by
 obtain⟨ho,hlen,hsz,hA⟩:=h
 have hcs:cs.length=sz:=hsz cs zR
 have hsz2:∀c'∈cells++[cs.set j u],c'.length=sz:=by
  intro c' hc';rcases List.mem_append.1 hc' with h | h
  ·exact hsz c' (by simp[h])
  ·simp at h;subst h;simpa using hcs
 refine⟨⟨by rw[Gr sz _ hsz2];simp[hl],?_⟩,by simp[hl],hsz2,?_⟩
 ·rcases ho.2 with ⟨h0,_⟩ | ⟨g',cap,cur,h1,h2,h3,h4,h5,h6,h7⟩
  ·cases h0
  ·simp at h1
   obtain⟨rfl,rfl,rfl⟩:=h1
   refine .inr ⟨g,c,cur.setIfInBounds (xs.length*sz+j) u,zR,h2,?_,by simpa using h4,h5,by simpa using h6,?_⟩
   ·exact Blk.set h3 _ _
   ·have hfl:cells.flatten.length=xs.length*sz:=by rw[Gr sz cells fun c hc=>hsz c (by simp[hc]),hl]
    have e2:(cells++[cs.set j u]).flatten=(cells++[cs]).flatten.set (xs.length*sz+j) u:=by
     simp only[List.flatten_append,List.flatten_cons,List.flatten_nil,List.append_nil]
     rw[List.set_append,Ak zD,hfl]
     congr 2
     omega
    have e3:(xs++[x']).length=(xs++[x]).length:=zR
    rw[e2,←h7,e3]
    simp only[Array.toList_setIfInBounds]
    rw[List.take_set]
 ·intro i cs' y hi hy
  have keep:∀b,b≠g→(w.setCell ⟨g,xs.length*sz+j,none⟩ u).heap[b]? =w.heap[b]? :=fun b hb=>Below.heap_setCell _ _ _ _ hb
  have hsame:(w.setCell ⟨g,xs.length*sz+j,none⟩ u).heap.size=w.heap.size:=ZS
  by_cases hlt:i<xs.length
  ·rw[A7 zD] at hi
   rw[A7 hlt] at hy
   have:=hA i cs' y (by rw[A7 (by omega)];exact hi) (by rw[A7 hlt];exact hy)
   exact A.keep this fun b hb=>keep b fun e=>hb.2 (by rw[e];rfl)
  ·have hii:i=xs.length:=by
    have:=(List.getElem?_eq_some_iff.1 hy).1
    simp at this
    omega
   subst hii;rw[Bb zD] at hi
   rw[Bb (Ai _)] at hy
   simp[hl] at hi
   simp at hy
   subst hi hy;exact A.mono (A.keep hx fun b hb=>keep b fun e=>hb.2 e.symm) fun b hb=>⟨hb.1,fun e=>hb.2 (by simpa [Value.ownBlock] using e)⟩
def rBV:Rp (Batch ⊕ (Int × Int × Value)):=
  ⟨fun S w cs x=>match x with | .inl b=>FE.r S w cs b | .inr y=>cs=[.int .u64 y.1,.int .u64 y.2.1,y.2.2],
   fun {S w w' cs x} h hk=>by cases x with | inl b=>exact FE.keep h hk | inr y=>exact h,
   fun {S S' w cs x} h hk=>by cases x with | inl b=>exact FE.mono h hk | inr y=>exact h⟩
structure Iz(lo:Nat)(TB TE:TypeId)(w:World)(g c:Nat)(cells:List (List Value))(s:Nat)(bs0:List Batch)(e b:Int)(es:List Entry)(vl:Value):Prop where
 own:A5 (fun x=>lo≤x∧x<s) rBV lo TB 3 w (.slice (some ⟨g,0,none⟩) (bs0.length+1) c) (bs0.map .inl++[.inr (e,b,vl)]) (cells++[[.int .u64 e,.int .u64 b,vl]])
 len:cells.length=bs0.length
 lt:g<s
 le:s≤w.heap.size
 last:Ax s Ns s TE 2 w vl es
 he:0≤e∧e≤18446744073709551615
 hb:0≤b∧b≤18446744073709551615
def Bld(lo:Nat)(TB TE:TypeId)(w:World)(v:Value)(bs:List Batch):Prop:=
 (bs=[]∧v=.slice none 0 0)∨∃g c cells s bs0 e b es vl,v=.slice (some ⟨g,0,none⟩) (bs0.length+1) c∧bs=bs0++[⟨e,b,es⟩]∧Iz lo TB TE w g c cells s bs0 e b es vl
theorem A5.inl{F:Nat→Prop}{base:Nat}{e:TypeId}{sz:Nat}{v:Value}{xs:List Batch}{cells:List (List Value)}(h:A5 F FE base e sz w v xs cells):A5 F rBV base e sz w v (xs.map .inl) cells:=by
 obtain⟨ho,hlen,hsz,hA⟩:=h
 refine⟨by simpa using ho,zCs,hsz,fun i cs x hi hx=> ?_⟩
 rw[H8] at hx
 cases hxi:xs[i]? with
 | none=>rw [hxi] at hx;cases hx
 | some y=>rw [hxi] at hx;cases hx;exact hA i cs y hi hxi
theorem Iz.close{lo:Nat}{TB TE:TypeId}{g c:Nat}{cells:List (List Value)}{s:Nat}{bs0:List Batch}{e b:Int}{es:List Entry}{vl:Value}(h:Iz lo TB TE w g c cells s bs0 e b es vl)(hlo:lo≤s):
  Ax lo FE lo TB 3 w (.slice (some ⟨g,0,none⟩) (bs0.length+1) c) (bs0++[⟨e,b,es⟩]):=by
 obtain⟨⟨ho,hlen,hsz,hA⟩,h1,h2,h3,h4,h5,h6⟩:=h
 refine⟨cells++[[.int .u64 e,.int .u64 b,vl]],by simpa using ho,zCs,hsz,fun i cs x hi hx=> ?_⟩
 by_cases hlt:i<bs0.length
 ·rw[A7 hlt] at hx
  have:=hA i cs (.inl x) hi zBn
  exact FE.mono this fun b hb=>⟨hb.1.1,An hb.1.2 h3,hb.2⟩
 ·have hii:i=bs0.length:=by
   have:=(List.getElem?_eq_some_iff.1 hx).1
   simp at this
   omega
  subst hii;rw[Bb zD] at hi
  rw[Bb (Ai _)] at hx
  simp[h1] at hi
  simp at hx
  subst hi hx;have hv:=Ax.slice (Ai _) h4
  exact QK (x:=⟨e,b,es⟩) h5 h6 (Jz.mono hv fun b hb=>⟨zD,hb.2,by simp[Value.ownBlock];omega⟩)
theorem Bld.close{lo:Nat}{TB TE:TypeId}{v:Value}{bs:List Batch}(h:Bld lo TB TE w v bs):Ax lo FE lo TB 3 w v bs:=by
 rcases h with ⟨rfl,rfl⟩ | ⟨g,c,cells,s,bs0,e,b,es,vl,rfl,rfl,h⟩
 ·exact Ax.nil
 ·refine h.close ?_
  obtain⟨⟨ho,_⟩,_,h2,_⟩:=h
  rcases ho.2 with ⟨h0,_⟩ | ⟨g',cap,cur,h1,hb,_⟩
  ·cases h0
  ·simp at h1
   omega
theorem Iz.start{lo:Nat}{TB TE:TypeId}{g c:Nat}{v:Value}{bs:List Batch}{e b:Int}{cells:List (List Value)}(h:Cn lo FE lo TB 3 w v bs cells)(he:0≤e∧e≤18446744073709551615)(hb:0≤b∧b≤18446744073709551615)
  (hown:w'.ownsRow lo TB 3 (.slice (some ⟨g,0,none⟩) (bs.length+1) c) (bs.length+1) (cells.flatten++[.int .u64 e,.int .u64 b,.slice none 0 0])) (hg:w.grownBy w' v.ownBlock)
  (hat:(Value.slice (some ⟨g,0,none⟩) (bs.length+1) c).ownBlock=v.ownBlock∨(Value.slice (some ⟨g,0,none⟩) (bs.length+1) c).ownBlock=some w.heap.size):
  Iz lo TB TE w' g c cells w'.heap.size bs e b [] (.slice none 0 0):=by
 have h':=(A5.of h).inl
 have h2:Cn lo rBV lo TB 3 w v (bs.map .inl) cells:=h'.to fun b hb=>hb
 have h3:=Cn.push (v':=.slice (some ⟨g,0,none⟩) (bs.length+1) c) (x:=(.inr (e,b,.slice none 0 0):Batch ⊕ (Int × Int × Value))) h2 rfl rfl (by simpa using hown) hg hat hg.size
 have hlt:g<w'.heap.size:=by
  rcases hown.2 with ⟨h0,_⟩ | ⟨g',cap,cur,h1,hb,hk,_⟩
  ·cases h0
  ·simp at h1
   rw[h1.1]
   exact (Array.getElem?_eq_some_iff.1 hk).1
 exact⟨A5.of h3,by simpa using h.2.1,hlt,Ai _,Ax.nil,he,hb⟩
theorem Iz.grow{lo:Nat}{TB TE:TypeId}{g c:Nat}{cells:List (List Value)}{s:Nat}{bs0:List Batch}{e b:Int}{es es':List Entry}{vl vl':Value}(h:Iz lo TB TE w g c cells s bs0 e b es vl)
  (hk:∀b,b<s→w'.heap[b]? =w.heap[b]?) (hs:w.heap.size≤w'.heap.size) (hl:Ax s Ns s TE 2 w' vl' es'):
  Iz lo TB TE (w'.setCell ⟨g,bs0.length*3+2,none⟩ vl') g c cells s bs0 e b es' vl':=by
 obtain⟨ho,h1,h2,h3,h4,h5,h6⟩:=h
 have hsame:(w'.setCell ⟨g,bs0.length*3+2,none⟩ vl').heap.size=w'.heap.size:=ZS
 have ho':=ho.keep (w':=w') (fun b hb=>hk b hb.2) (fun g' hg'=>hk g' zBy)
 have h7:=A5.Ou (x':=(.inr (e,b,vl'):Batch ⊕ (Int × Int × Value))) (j:=2) (u:=vl') ho' zAj zD (show _=_ from rfl)
 refine⟨by simpa using h7,h1,h2,by rw[hsame];omega,?_,h5,h6⟩
 obtain⟨cs,hc⟩:=hl
 have h8:=(A5.of hc).keep (w':=w'.setCell ⟨g,bs0.length*3+2,none⟩ vl') (fun b hb=>Below.heap_setCell _ _ _ _ zF) (fun g' hg'=>Below.heap_setCell _ _ _ _ (by
  have:=(hc.1.lt g' hg').1
  dsimp only;omega))
 exact⟨cs,h8.to fun b hb=>by rw[hsame];exact hb⟩
theorem Iz.keep{lo:Nat}{TB TE:TypeId}{g c:Nat}{cells:List (List Value)}{s:Nat}{bs0:List Batch}{e b:Int}{es:List Entry}{vl:Value}(h:Iz lo TB TE w g c cells s bs0 e b es vl)(p:Nat)(hp:p<lo)
  (hk:∀b,b<w.heap.size→b≠p→w'.heap[b]? =w.heap[b]?) (hs:w.heap.size≤w'.heap.size):Iz lo TB TE w' g c cells s bs0 e b es vl:=by
 obtain⟨ho,h1,h2,h3,h4,h5,h6⟩:=h
 have hlo:lo≤g:=by
  rcases ho.1.2 with ⟨h0,_⟩ | ⟨g',cap,cur,hv,hb,_⟩
  ·cases h0
  ·simp at hv
   omega
 refine⟨ho.keep (fun b hb=>hk b zD zD) (fun g' hg'=>hk g' zBy zBy),h1,h2,zD,?_,h5,h6⟩
 obtain⟨cs,hc⟩:=h4
 have h8:=(A5.of hc).keep (w':=w') (fun b hb=>hk b hb.2 zD) (fun g' hg'=>hk g' (hc.1.lt g' hg').2 (by have:=(hc.1.lt g' hg').1;omega))
 exact⟨cs,h8.to fun b hb=>⟨hb.1,zD⟩⟩
theorem Iz.place{lo:Nat}{TB TE:TypeId}{g c:Nat}{cells:List (List Value)}{s:Nat}{bs0:List Batch}{e b:Int}{es:List Entry}{vl:Value}(h:Iz lo TB TE w g c cells s bs0 e b es vl):
  w.cell? ⟨g,bs0.length*3+2,none⟩=some vl∧w.frozen? ⟨g,bs0.length*3+2,none⟩=false:=by
 obtain⟨⟨ho,hlen,hsz,hA⟩,h1,_⟩:=h
 rcases ho.2 with ⟨h0,_⟩ | ⟨g',cap,cur,hv,hbg,hg,hn,hc,hcur,hx⟩
 ·cases h0
 ·simp at hv
  obtain⟨rfl,rfl⟩:=hv
  refine⟨?_,Blk.free hg _⟩
  rw[Blk.cell hg]
  have hf:=El 3 (cells++[[.int .u64 e,.int .u64 b,vl]]) hsz bs0.length 2 [.int .u64 e,.int .u64 b,vl] vl zCl rfl
  rw[←hx,Co] at hf
  split at hf
  ·simpa using hf
  ·cases hf
end
end Go.Bs
namespace Go.Proofs.YtlbffbkbkajciaaGreat
open Go.RowKit Go.Bs
theorem Q9:MO Tryz.prog 25 Ah:=Md (sz:=1) Tryz.underlying25 zJ zS (NB Tryz.underlying5)
theorem Gt(e:Int)(w:World):Calls Tryz.prog 113 #[.int .u64 e] w fun r w'=>r=.returned (.bool (epR e))∧w=w':=by
 by_cases h1:1≤e
 ·by_cases h2:e<4611686018427387904
  ·have:epR e=true:=by simp[epR,h1,h2]
   rw[this]
   have d1:decide (1≤e)=true:=zAj
   have d2:decide (e<4611686018427387904)=true:=zBs
   clear this h1 h2;go_enter Tryz.func113,Tryz.ntmps113
   go_wp2;go_ret;exact⟨rfl,rfl⟩
  ·have:epR e=false:=by simp[epR,h2]
   rw[this]
   have d1:decide (1≤e)=true:=zAj
   have d2:decide (e<4611686018427387904)=false:=zBs
   clear this h1 h2;go_enter Tryz.func113,Tryz.ntmps113
   go_wp2;go_ret;exact⟨rfl,rfl⟩
 ·have:epR e=false:=by simp[epR,h1]
  rw[this]
  have d1:decide (1≤e)=false:=zAj
  clear this h1;go_enter Tryz.func113,Tryz.ntmps113
  go_wp2;go_ret;exact⟨rfl,rfl⟩
theorem It(e:Int)(w:World):Calls Tryz.prog 82 #[.int .u64 e] w fun r w'=>r=.returned (.bool (poR e))∧w=w':=by
 go_enter Tryz.func82,Tryz.ntmps82
 go_wp2;go_ret;exact⟨rfl,rfl⟩
theorem IK(e:Int)(h0:0≤e)(w:World):Calls Tryz.prog 114 #[.int .u64 e] w fun r w'=>r=.returned (.bool (epR e))∧w=w':=by
 by_cases h1:0<e
 ·by_cases h2:e≤4611686018427387903
  ·have:epR e=true:=by simp[epR];omega
   rw[this]
   have d1:decide (0<e)=true:=zAj
   have d2:decide (e≤4611686018427387903)=true:=zBs
   clear this h1 h2;go_enter Tryz.func114,Tryz.ntmps114
   go_wp2;go_ret;exact⟨rfl,rfl⟩
  ·have:epR e=false:=by simp[epR];omega
   rw[this]
   have d1:decide (0<e)=true:=zAj
   have d2:decide (e≤4611686018427387903)=false:=zBs
   clear this h1 h2;go_enter Tryz.func114,Tryz.ntmps114
   go_wp2;go_ret;exact⟨rfl,rfl⟩
 ·have:epR e=false:=by simp[epR];omega
  rw[this]
  have d1:decide (0<e)=false:=zAj
  clear this h1;go_enter Tryz.func114,Tryz.ntmps114
  go_wp2;go_ret;exact⟨rfl,rfl⟩
theorem Kr(e:Int)(w:World):Calls Tryz.prog 89 #[.int .u64 e] w fun r w'=>r=.returned (.bool (poR e))∧w=w':=by
 have:poR e=decide (e≤4611686018427387903):=by simp only[poR,decide_eq_decide];omega
 rw[this]
 clear this;go_enter Tryz.func89,Tryz.ntmps89
 go_wp2;go_ret;exact⟨rfl,rfl⟩
theorem Mp:(Tryz.prog.info? 22).map (fun i=>(i.zero,i.size,i.bytes))=some (some (.int .u64 0),1,8):=zJ
def Ec:Int→List Int→List Int
 | _,[]=>[]
 | b,x::l=>(b-x-1)::Ec x l
def ahead(b:Int)(l:List Int)(k:Nat):Int:=if k=0 then b else l.getD (k-1) 0
theorem Oi(b:Int)(l:List Int)(k:Nat)(h:k<l.length):ahead b l (k+1)=l[k]:=by
 unfold ahead;rw[Ak zD];simp[h]
def QN(below:Int)(l:List Int)(w:World)(e:Ending)(w':World):Prop:=
 ∃v,e=.returned (.tuple #[v,.bool (DS below l)])∧AK.r (·<w'.heap.size) w' [v] (if DS below l then Ec below l else [])∧Below w.heap.size w w'
theorem Qc{w:World}{base:Nat}{e:TypeId}{v:Value}{xs:List Int}(h:w.ownsRow base e 1 v xs.length (xs.map (Value.int .u64)))(hb:∀x∈xs,0≤x∧x≤18446744073709551615)(hm:xs.length≤maxLen):AK.r (·<w.heap.size) w [v] xs:=by
 rcases h.2 with ⟨rfl,h0⟩ | ⟨g,cap,cur,rfl,hbg,hg,hn,hc,hcur,hx⟩
 ·have:xs=[]:=AG h0
  subst this;exact AM rfl (Ai _) (Am _) (.inl rfl)
 ·refine AM rfl hn hc (.inr ⟨g,0,rfl,Blk.lt hg,fun i x hi=>⟨[.int .u64 x],rfl,fun j v hj=> ?_,rfl,GX (hb x (List.mem_of_getElem? hi))⟩⟩)
  have hj0:j=0:=by
   rcases j with _ | j
   ·rfl
   ·simp at hj
  subst hj0;simp at hj
  subst hj;have hi':i<xs.length:=(List.getElem?_eq_some_iff.1 hi).1
  rw[BP,DB,Cs,Blk.cell hg i]
  have e1:cur[i]? =(cur.toList.take (xs.length*1))[i]? :=by
   rw[Co,Al zD];simp
  rw[e1,hx,H8,hi];rfl
theorem ON(below:Int)(l:List Int)(a:Option Addr)(n c:Nat)(w:World)(hb0:0≤below∧below≤18446744073709551615)(hl:AK.r (·<w.heap.size) w [.slice a n c] l)(hlen:l.length≤1000000000000):
  Calls Tryz.prog 215 #[.int .u64 below,.slice a n c] w (QN below l w):=by
 obtain⟨rfl,hm,_,_⟩:=AW hl
 obtain⟨i0,hi,hz0,hz1,hz2⟩:=A8 Mp
 have HL:=hid hl;clear hl
 go_enter Tryz.func215,Tryz.ntmps215
 go_wp2;go_loopw [0,6,11] (fun b v i wr=>∃k:Nat,k≤l.length∧i=.int .i64 k∧b=.int .u64 (ahead below l k)∧0≤ahead below l k∧ahead below l k≤18446744073709551615∧Hid (DS below l=DS (ahead below l k) (l.drop k))∧
   (∃xs:List Int,Hid (xs.length=k∧(∀x∈xs,0≤x∧x≤18446744073709551615)∧Ec below l=xs++Ec (ahead below l k) (l.drop k))∧wr.ownsRow w.heap.size 22 1 v k (xs.map (Value.int .u64)))∧Below w.heap.size w wr) (fun _ _ i _=>l.length-(intOf i).toNat)
 case atStart=>exact ⟨0,Am _,rfl,rfl,hb0.1,hb0.2,hid rfl,⟨[],hid ⟨rfl,zR,rfl⟩,⟨rfl,.inl ⟨rfl,rfl⟩⟩⟩,Below.refl _ _⟩
 case round=>
  obtain⟨k,hk,rfl,rfl,ha0,ha1,hf,⟨xs,hxs,hown⟩,hb⟩:=hrel
  by_cases hlt:k<l.length
  ·obtain⟨b,o,hA,hbb,hc,hx0,hx1⟩:=DP HL.out hlt
   subst hA;have q:=(hb.cell (p:=⟨b,o+k,none⟩) hbb).trans hc
   clear hc;have hd:=hid (AL hlt)
   have hsu:=hid (Oi below l k hlt)
   generalize hlk:l[k]=x at*
   clear hlk;generalize ahead below l k=p at*
   by_cases hge:p≤x
   ·have hff:Hid (DS below l=false):=by
     rw[hf.out,hd.out];exact hid (by simp[DS];omega)
    go_wp2;go_ret2
    exact⟨.slice none 0 0,zP,by rw[hff.out];exact AM rfl (Ai _) (Am _) (.inl rfl),hb⟩
   ·have hbs:=hb.size
    have w1:0≤p-x:=zD
    have w2:0≤p-x-1:=zD
    go_wp2_with (at_builtin;refine wpList_append_lies _ rfl _ _ _ rfl w.heap.size 22 i0 (.int .u64 0) 1 8 Tryz.underlying23 hi hz0 hz1 hz2 rfl zS _ k _ rfl (hown.alloc _) ⟨wr.heap.size,0,none⟩ 1 1 [.int .u64 (p-x-1)] rfl rfl (World.news_of_block (Blk.new _ _ _)) Z3 zS zQ zD zK _ rfl ?_;intro g1 cap1 w1' hown1 hgrow1 hat1 hlt1)
    go_roundw
    case rel=>
     refine⟨k+1,zD,ZB,by rw[hsu.out],by rw[hsu.out];exact hx0,by rw[hsu.out];exact hx1,?_,⟨xs++[p-x-1],?_,?_⟩,?_⟩
     ·rw[hf.out,hd.out,hsu.out]
      exact hid (by simp only[DS];rw[Ae (by omega)];rfl)
     ·refine hid ⟨by simp[hxs.out.1],?_,?_⟩
      ·intro y hy
       rw[BK,Bf] at hy
       rcases hy with hy | rfl
       ·exact hxs.out.2.1 y hy
       ·omega
      ·rw[hsu.out,hxs.out.2.2,hd.out]
       simp[Ec]
     ·rw[List.map_append];exact hown1
     ·refine Below.grown ?_ hgrow1 zK (fun g e=>(hown.lt g e).1)
      exact hb.alloc hbs _
    case measure=>simp [intOf];omega
  ·obtain rfl:k=l.length:=by omega
   have hff:Hid (DS below l=true):=by
    rw[hf.out,List.drop_length];exact hid rfl
   have hxl:=hxs.out.1
   have hst:Hid (Ec below l=xs):=hid (by rw[hxs.out.2.2,List.drop_length];simp[Ec])
   have hv:AK.r (·<wr.heap.size) wr [u6] xs:=Qc (by rw[hxl];exact hown) hxs.out.2.1 (by unfold maxLen;omega)
   have HV:=hid hv;clear hv hxl
   go_wp2;go_ret2
   exact⟨u6,zP,by rw[hff.out,Al rfl,hst.out];exact HV.out,hb⟩
theorem My(below:Int)(l:List Int)(a:Option Addr)(n c:Nat)(w:World)(hb0:0≤below∧below≤18446744073709551615)(hl:AK.r (·<w.heap.size) w [.slice a n c] l)(hlen:l.length≤1000000000000):
  Calls Tryz.prog 159 #[.int .u64 below,.slice a n c] w fun r w'=>r=.returned (.bool (DS below l))∧Below w.heap.size w w':=by
 have HL:=hid hl;clear hl
 go_enter Tryz.func159,Tryz.ntmps159
 go_wp2_with fail;refine (ON below l a n c _ hb0 HL.out hlen).mono ?_
 rintro e w1 ⟨v,rfl,_,hb1⟩;go_wp2;go_ret;exact⟨rfl,hb1⟩
end Go.Proofs.YtlbffbkbkajciaaGreat
namespace Go.Bs
open Go.RowKit
deriving instance DecidableEq for Bv,Entry,Batch,Seg
theorem GI{P:Program}{S:Nat→Prop}{w:World}{a:Option Addr}{n c:Nat}{l:List UInt8}(src dst e:TypeId)(hs:P.underlying src=some (.slice e))(he:P.underlying e=some (.int .u8))(hd:P.underlying dst=some .string)
  (h:Ah.r S w [.slice a n c] l):(convert src dst (.slice a l.length c)).run P w=.ok (.string ⟨l.toArray⟩) w:=by
 obtain⟨rfl,_,_,_⟩:=AW h
 rcases a with _ | ad
 ·have h0:l=[]:=by
   rcases l with _ | ⟨x,l⟩
   ·rfl
   ·obtain⟨b,off,e,_⟩:=Bq h (i:=0) zR
    cases e
  subst h0;exact run_convert_bytes_nil w src e hs he _ _ dst hd
 ·refine run_convert_bytes_back w src dst e ad c l hs he hd fun j hj=> ?_
  obtain⟨b,off,e,_,hc⟩:=Bq h hj
  simp at e
  subst e;rw[←hc]
  congr 1
  unfold Addr.add;split
  ·rename_i h0;subst h0;rfl
  ·rfl
end Go.Bs
namespace Go.Proofs.YtlbffbkbkajciaaGreat
open Go.RowKit Go.Bs
theorem ER(x y:List UInt8)(a a':Option Addr)(n c n' c':Nat)(w:World)(hx:Ah.r (·<w.heap.size) w [.slice a n c] x)(hy:Ah.r (·<w.heap.size) w [.slice a' n' c'] y):
  Calls Tryz.prog 18 #[.slice a n c,.slice a' n' c'] w fun r w'=>r=.returned (.bool (decide (x=y)))∧w=w':=by
 obtain⟨rfl,_,_,_⟩:=AW hx
 obtain⟨rfl,_,_,_⟩:=AW hy
 have h1:=GI (P:=Tryz.prog) 25 9 5 Tryz.underlying25 Tryz.underlying5 Tryz.underlying9 hx
 have h2:=GI (P:=Tryz.prog) 25 9 5 Tryz.underlying25 Tryz.underlying5 Tryz.underlying9 hy
 have he:(x==y)=decide (x=y):=by
  by_cases h:x=y
  ·simp[h]
  ·simp[h]
 have HE:=hid he;clear he hx hy
 go_enter Tryz.func18,Tryz.ntmps18
 go_wp2;go_ret;refine⟨?_,rfl⟩
 rw[←HE.out]
 simp[go_sem]
theorem EI{α:Type}[DecidableEq α](x y:List α)(k:Nat)(hx:k<x.length)(hy:k<y.length):decide (x.drop k=y.drop k)=(decide (x[k]=y[k])&&decide (x.drop (k+1)=y.drop (k+1))):=by
 rw[AL hx,AL hy,Ea,decide_eq_true_iff,AD,decide_eq_true_iff,decide_eq_true_iff,Aj]
theorem Ie(x y:List Int)(a a':Option Addr)(n c n' c':Nat)(w:World)(hx:AK.r (·<w.heap.size) w [.slice a n c] x)(hy:AK.r (·<w.heap.size) w [.slice a' n' c'] y):
  Calls Tryz.prog 99 #[.slice a n c,.slice a' n' c'] w fun r w'=>r=.returned (.bool (decide (x=y)))∧Below w.heap.size w w':=by
 obtain⟨rfl,hm,_,_⟩:=AW hx
 obtain⟨rfl,hm',_,_⟩:=AW hy
 by_cases hl:x.length=y.length
 ·have HX:=hid hx;clear hx
  have HY:=hid hy;clear hy
  have HL:=hid hl
  have e1:((x.length:Int) !=(y.length:Int))=false:=by simp[hl]
  clear hl;go_enter Tryz.func99,Tryz.ntmps99
  go_wp2;go_loopw [5] (fun i wr=>∃k:Nat,k≤x.length∧i=.int .i64 k∧Hid (decide (x=y)=decide (x.drop k=y.drop k))∧Below w.heap.size w wr) (fun i _=>x.length-(intOf i).toNat)
  case atStart=>exact ⟨0,Am _,rfl,hid rfl,Below.refl _ _⟩
  case round=>
   obtain⟨k,hk,rfl,hf,hb⟩:=hrel
   by_cases hlt:k<x.length
   ·have hlt':k<y.length:=by rw[←HL.out];exact hlt
    obtain⟨b,o,hA,hbb,hc,_,_⟩:=DP HX.out hlt
    obtain⟨b',o',hA',hbb',hc',_,_⟩:=DP HY.out hlt'
    have hst:=hid (EI x y k hlt hlt')
    subst hA hA';have X0:=fun s:Ay wr=>s.cell ((hb.cell (p:=⟨b,o+k,none⟩) hbb).trans hc)
    have X1:=fun s:Ay wr=>s.cell ((hb.cell (p:=⟨b',o'+k,none⟩) hbb').trans hc')
    clear hc hc';generalize hlk:x[k]=u at*
    generalize hlm:y[k]=v at*
    clear hlk hlm;have i0:(0:Int)≤(k:Int):=zD
    have i1:(k:Int)<(x.length:Int):=zD
    have i2:(k:Int)<(y.length:Int):=zD
    by_cases huv:u=v
    ·have d1:(u !=v)=false:=by simp[huv]
     have hst':Hid (decide (x.drop k=y.drop k)=decide (x.drop (k+1)=y.drop (k+1))):=hid zBt
     clear huv;go_wp2_with fail;refine Aw zJ zJ ?_
     repeat (go_big_quiet_step (fail))
     refine AN ?_
     rintro W5 ⟨⟨W5',hb5⟩,rfl⟩;go_wp2;go_roundw
     case rel=>exact ⟨k+1,zD,ZB,hid zAz,Af hb5 hb⟩
     case measure=>simp [intOf];omega
    ·have d1:(u !=v)=true:=by simp[huv]
     have hff:Hid (decide (x=y)=false):=hid zBc
     clear huv;go_wp2_with fail;refine Aw zJ zJ ?_
     repeat (go_big_quiet_step (fail))
     refine AN ?_
     rintro W5 ⟨⟨W5',hb5⟩,rfl⟩;go_wp2;go_ret;exact⟨zP,Af hb5 hb⟩
   ·obtain rfl:k=x.length:=by omega
    have hff:Hid (decide (x=y)=true):=hid ZN
    go_wp2;go_ret;exact⟨zP,hb⟩
 ·have hff:Hid (decide (x=y)=false):=hid (by simp;rintro rfl;exact hl rfl)
  have e1:((x.length:Int) !=(y.length:Int))=true:=zK
  clear hl hx hy;go_enter Tryz.func99,Tryz.ntmps99
  go_wp2;go_ret;exact⟨zP,Below.refl _ _⟩
def Dw(l:List Int)(k:Nat):Bool:=if k=0 then BQ l else BQ (l.drop (k-1))
theorem IH(l:List Int):Dw l 1=Dw l 0:=by simp[Dw]
theorem Hm(l:List Int)(m:Nat)(h:m+1<l.length):Dw l (m+1)=(decide (l[m]<l[m+1])&&Dw l (m+2)):=by
 have e1:l.drop m=l[m]::l[m+1]::l.drop (m+2):=by
  rw[AL (show m<l.length by omega),AL h]
 have e2:l.drop (m+1)=l[m+1]::l.drop (m+2):=AL h
 show BQ (l.drop m)=(_&&BQ (l.drop (m+1)))
 rw[e1,e2];rfl
theorem II(l:List Int):Dw l l.length=true:=by
 unfold Dw;split
 ·rename_i h;rw[AG h];rfl
 ·rename_i h
  have e:l.drop (l.length-1)=[l[l.length-1]]:=by
   rw[AL (show l.length-1<l.length by omega),List.drop_of_length_le zD]
  rw[e];rfl
theorem IV(s:Int)(v:Value)(h1:v.oneCell'=true)(w:World):Calls Tryz.prog 157 #[.agg #[.int .u64 s,v]] w fun r w'=>r=.returned (.int .u64 s)∧Below w.heap.size w w':=by
 go_enter Tryz.func157,Tryz.ntmps157
 go_wp2;go_ret;exact⟨rfl,zC⟩
theorem NG(l:List Bv)(a:Option Addr)(n c:Nat)(w:World)(hl:BE.r (·<w.heap.size) w [.slice a n c] l):
  Calls Tryz.prog 156 #[.slice a n c,.func (.func 157) #[] #[]] w fun r w'=>r=.returned (.bool (BQ (l.map Bv.stream)))∧Below w.heap.size w w':=by
 obtain⟨rfl,hm,_,_⟩:=AW hl
 have HL:=hid hl;clear hl
 go_enter Tryz.func156,Tryz.ntmps156
 go_wp2;go_loopw [8] (fun i wr=>∃k:Nat,k≤l.length∧i=.int .i64 k∧Hid (BQ (l.map Bv.stream)=Dw (l.map Bv.stream) k)∧Below w.heap.size w wr) (fun i _=>l.length-(intOf i).toNat)
 case atStart=>exact ⟨0,Am _,rfl,hid rfl,Below.refl _ _⟩
 case round=>
  obtain⟨k,hk,rfl,hf,hb⟩:=hrel
  by_cases hlt:k<l.length
  ·obtain⟨b,o,hA,hbb,a1,c1,hc0,hc1,_,_⟩:=FM HL.out hlt
   have hlt':(k:Int)<(l.length:Int):=zD
   rcases k with _ | m
   ·have h1:=hid (IH (l.map Bv.stream))
    go_wp2_with fail;refine Aw zJ zJ ?_
    repeat (go_big_quiet_step (fail))
    refine AN ?_
    rintro W5 ⟨⟨W5',hb5⟩,rfl⟩;go_wp2;go_roundw
    case rel=>exact ⟨1,zD,rfl,hid (by rw[hf.out,h1.out]),Af hb5 hb⟩
    case measure=>simp [intOf];omega
   ·obtain⟨b',o',hA',hbb',a2,c2,hd0,hd1,_,_⟩:=FM HL.out (show m<l.length by omega)
    have hst:=hid (Hm (l.map Bv.stream) m (by simpa using hlt))
    subst hA;obtain⟨rfl,rfl⟩:b'=b∧o'=o:=by simp at hA';exact⟨hA'.1.symm,hA'.2.symm⟩
    clear hA';have X0:=fun s:Ay wr=>s.cell ((hb.cell (p:=⟨b',o'+(m+1)*2,none⟩) hbb).trans hc0)
    have X1:=fun s:Ay wr=>s.cell ((hb.cell (p:=⟨b',o'+(m+1)*2+1,none⟩) hbb).trans hc1)
    have Y0:=fun s:Ay wr=>s.cell ((hb.cell (p:=⟨b',o'+m*2,none⟩) hbb).trans hd0)
    have Y1:=fun s:Ay wr=>s.cell ((hb.cell (p:=⟨b',o'+m*2+1,none⟩) hbb).trans hd1)
    clear hc0 hc1 hd0 hd1;simp only[List.getElem_map] at hst
    generalize l[m+1].stream=x at*
    generalize l[m].stream=y at*
    generalize l[m+1].backs.length=n1 at*
    generalize l[m].backs.length=n2 at*
    rw[show ((m+1:Nat):Int)=(m:Int)+1 from zD]
    have k1:(0:Int)<(m:Int)+1:=zD
    have k2:(0:Int)≤(m:Int)+1-1:=zD
    have k3:(m:Int)+1<(l.length:Int):=zD
    have k4:(m:Int)<(l.length:Int):=zD
    by_cases hge:x≤y
    ·have d1:decide (x≤y)=true:=by simpa using hge
     have hff:Hid (BQ (l.map Bv.stream)=false):=hid (by rw[hf.out,hst.out];simp;omega)
     clear hge;go_wp2_with fail;refine Aw zJ zJ ?_
     repeat (go_big_quiet_step (((go_at_call 157;exact AZ (IV _ _ rfl _)))))
     refine AN ?_
     rintro W5 ⟨⟨W5',hb5⟩,rfl⟩;go_wp2;go_ret;exact⟨zP,Af hb5 hb⟩
    ·have d1:decide (x≤y)=false:=by simpa using hge
     have hst':Hid (Dw (l.map Bv.stream) (m+1)=Dw (l.map Bv.stream) (m+2)):=hid (by rw[hst.out,Ae (by omega)];rfl)
     clear hge;go_wp2_with fail;refine Aw zJ zJ ?_
     repeat (go_big_quiet_step (((go_at_call 157;exact AZ (IV _ _ rfl _)))))
     refine AN ?_
     rintro W5 ⟨⟨W5',hb5⟩,rfl⟩;go_wp2;go_roundw
     case rel=>exact ⟨m+2,zD,ZB,hid zAz,Af hb5 hb⟩
     case measure=>simp [intOf];omega
  ·obtain rfl:k=l.length:=by omega
   have hff:Hid (BQ (l.map Bv.stream)=true):=hid (by
    have:=II (l.map Bv.stream)
    rw[List.length_map] at this
    rw[hf.out,this])
   go_wp2;go_ret;exact⟨zP,hb⟩
theorem NF(pos:Int)(x:Bv)(a:Option Addr)(n c:Nat)(blk:Nat)(w:World)(hpos:0≤pos∧pos≤18446744073709551615)(hx:AK.r (·<w.heap.size) w [.slice a n c] x.backs)(hlen:x.backs.length≤1000000000000)
  (hc:w.cell? ⟨blk,0,none⟩=some (.int .u64 pos)):
  Calls Tryz.prog 158 #[.agg #[.int .u64 x.stream,.slice a n c],.pointer (some ⟨blk,0,none⟩)] w fun r w'=>r=.returned (.bool (!Dy pos x))∧Below w.heap.size w w':=by
 obtain⟨rfl,hm,_,_⟩:=AW hx
 have hlt:=Dl w _ hc
 have X0:=(Ay.mk _ ((Below.refl w.heap.size w).alloc (Ai _) (.cells #[.int .u64 x.stream,.slice a x.backs.length c] 151))).cell hc
 by_cases h4:4<x.backs.length
 ·have hff:Dy pos x=false:=by simp[Dy];omega
  rw[hff]
  clear hff hx hc;go_enter Tryz.func158,Tryz.ntmps158
  go_wp2;go_ret;exact⟨rfl,zC⟩
 ·have hff:Dy pos x=DS pos x.backs:=by simp only[Dy];rw[Ae zD];rfl
  rw[hff]
  have d4:decide (4<(x.backs.length:Int))=false:=zK
  have HX:=hid hx;clear hx hff
  go_enter Tryz.func158,Tryz.ntmps158
  go_wp2_with fail;refine (My pos x.backs _ _ _ _ hpos (lift HX.out zC) hlen).mono ?_
  rintro e w1 ⟨rfl,hb1⟩;go_wp2;go_ret;exact⟨rfl,zC⟩
theorem Jl{α:Type}(p:α→Bool)(l:List α)(k:Nat)(h:k<l.length):(l.drop k).takeWhile p=if p l[k] then l[k]::(l.drop (k+1)).takeWhile p else []:=by
 rw[AL h,List.takeWhile_cons]
theorem J3{α:Type}(p:α→Bool)(l:List α):decide ((l.takeWhile p).length=l.length)=l.all p:=by
 induction l with
 | nil=>rfl
 | cons x l ih=>
  rw[List.takeWhile_cons,List.all_cons]
  cases h:p x
  ·simp
  ·simp only[Dx,Bw,Nat.add_right_cancel_iff,Cd];exact ih
theorem NI(pos:Int)(l:List Bv)(a:Option Addr)(n c:Nat)(blk:Nat)(w:World)(hpos:0≤pos∧pos≤18446744073709551615)(hl:BE.r (·<w.heap.size) w [.slice a n c] l)(hbk:∀x∈l,x.backs.length≤1000000000000)
  (hc:w.cell? ⟨blk,0,none⟩=some (.int .u64 pos)):
  Calls Tryz.prog 160 #[.slice a n c,.func (.func 158) #[] #[.pointer (some ⟨blk,0,none⟩)]] w fun r w'=>r=.returned (.int .i64 ((l.takeWhile (Dy pos)).length:Nat))∧Below w.heap.size w w':=by
 obtain⟨rfl,hm,_,_⟩:=AW hl
 have HL:=hid hl;clear hl
 have HB:=hid hbk;clear hbk
 have hblk:=Dl w _ hc
 have HC:=hid hc;clear hc
 go_enter Tryz.func160,Tryz.ntmps160
 go_wp2;go_loopw [9] (fun i wr=>∃k:Nat,k≤l.length∧i=.int .i64 k∧Hid ((l.takeWhile (Dy pos)).length=k+((l.drop k).takeWhile (Dy pos)).length)∧Below w.heap.size w wr) (fun i _=>l.length-(intOf i).toNat)
 case atStart=>exact ⟨0,Am _,rfl,hid zR,Below.refl _ _⟩
 case round=>
  obtain⟨k,hk,rfl,hf,hb⟩:=hrel
  by_cases hlt:k<l.length
  ·obtain⟨b,o,hA,hbb,a1,c1,hc0,hc1,_,hbs⟩:=FM HL.out hlt
   subst hA;have X0:=(hb.cell (p:=⟨b,o+k*2,none⟩) hbb).trans hc0
   have X1:=(hb.cell (p:=⟨b,o+k*2+1,none⟩) hbb).trans hc1
   clear hc0 hc1;have hbl:=HB.out _ (CL hlt)
   have hst:=hid (Jl (Dy pos) l k hlt)
   have HBS:=hid hbs;clear hbs
   generalize hlk:l[k]=x at*
   clear hlk;have hzz:=hb.size
   go_wp2_with fail;refine (NF pos x _ _ _ blk _ hpos (lift HBS.out zC) hbl ?_).mono ?_
   ·have:=(Ay.mk wr hb).cell HC.out
    exact (Ay.mk _ ((Below.refl wr.heap.size wr).alloc (Ai _) _)).cell this
   rintro e w1 ⟨rfl,hb1⟩;have hb2:Below w.heap.size w w1:=zC
   cases hr:Dy pos x
   ·have hff:Hid ((l.takeWhile (Dy pos)).length=k):=hid (by rw[hf.out,hst.out,hr];simp)
    clear hr;go_wp2;go_ret;exact⟨zP,hb2⟩
   ·have hff:Hid ((l.takeWhile (Dy pos)).length=(k+1)+((l.drop (k+1)).takeWhile (Dy pos)).length):=hid (by rw[hf.out,hst.out,hr];simp;omega)
    clear hr;go_wp2;go_roundw
    case rel=>exact ⟨k+1,zD,ZB,hff,hb2⟩
    case measure=>simp [intOf];omega
  ·obtain rfl:k=l.length:=by omega
   have hff:Hid ((l.takeWhile (Dy pos)).length=l.length):=hid (by rw[hf.out,List.drop_length];simp)
   go_wp2;go_ret;exact⟨zP,hb⟩
theorem NH(pos:Int)(l:List Bv)(a:Option Addr)(n c:Nat)(w:World)(hpos:0≤pos∧pos≤18446744073709551615)(hl:BE.r (·<w.heap.size) w [.slice a n c] l)(hbk:∀x∈l,x.backs.length≤1000000000000):
  Calls Tryz.prog 85 #[.int .u64 pos,.slice a n c] w fun r w'=>r=.returned (.bool (Df pos l))∧Below w.heap.size w w':=by
 obtain⟨rfl,hm,_,_⟩:=AW hl
 have HL:=hid hl;clear hl
 have HB:=hid hbk;clear hbk
 by_cases h16:16<l.length
 ·have hff:Hid (Df pos l=false):=hid (by simp[Df];omega)
  go_enter Tryz.func85,Tryz.ntmps85
  go_wp2;go_ret;exact⟨zP,zC⟩
 ·have hff:Hid (Df pos l=(BQ (l.map Bv.stream)&&l.all (Dy pos))):=hid (by simp only[Df];rw[Ae (by omega)];rfl)
  have hta:=hid (J3 (Dy pos) l)
  go_enter Tryz.func85,Tryz.ntmps85
  go_wp2_with fail;refine (NG l _ _ _ _ (lift HL.out zC)).mono ?_
  rintro e w1 ⟨rfl,hb1⟩;have hb2:Below w.heap.size w w1:=zC
  cases hr:BQ (l.map Bv.stream)
  ·have hf2:Hid (Df pos l=false):=hid (by rw[hff.out,hr];rfl)
   clear hr;go_wp2;go_ret;exact⟨by rw[hf2.out];rfl,hb2⟩
  ·have hf2:Hid (Df pos l=l.all (Dy pos)):=hid (by rw[hff.out,hr];rfl)
   clear hr;go_wp2_with fail;refine (NI pos l _ _ _ w.heap.size _ hpos (lift HL.out hb2) HB.out ?_).mono ?_
   ·exact (Ay.mk w1 hb1).cell (by go_simp)
   rintro e w3 ⟨rfl,hb3⟩;have hlt:=(List.takeWhile_sublist (l:=l) (Dy pos)).length_le
   generalize hg:(l.takeWhile (Dy pos)).length=t at*
   have hg':=hid hg;clear hg
   go_wp2;go_ret;refine⟨?_,zC⟩
   rw[hf2.out,←hta.out]
   by_cases h:t=l.length
   ·subst h;simp
   ·have:¬((t:Int)=(l.length:Int)):=by omega
    simp[h,this]
theorem OW(x y:Bv)(a a':Option Addr)(n c n' c':Nat)(w:World)(hx:AK.r (·<w.heap.size) w [.slice a n c] x.backs)(hy:AK.r (·<w.heap.size) w [.slice a' n' c'] y.backs):
  Calls Tryz.prog 169 #[.agg #[.int .u64 x.stream,.slice a n c],.agg #[.int .u64 y.stream,.slice a' n' c']] w fun r w'=>r=.returned (.bool (decide (x=y)))∧Below w.heap.size w w':=by
 have he:decide (x=y)=(decide (x.stream=y.stream)&&decide (x.backs=y.backs)):=by
  rw[Ea];cases x;cases y;simp
 have HE:=hid he;clear he
 have HX:=hid hx;clear hx
 have HY:=hid hy;clear hy
 by_cases h:x.stream=y.stream
 ·have e1:(x.stream==y.stream)=true:=by simp[h]
  have hff:Hid (decide (x=y)=decide (x.backs=y.backs)):=hid (by rw[HE.out];simp[h])
  clear h;go_enter Tryz.func169,Tryz.ntmps169
  go_wp2_with fail;refine (Ie x.backs y.backs _ _ _ _ _ _ _ (lift HX.out zC) (lift HY.out zC)).mono ?_
  rintro e w1 ⟨rfl,hb1⟩;go_wp2;go_ret;exact⟨zP,zC⟩
 ·have e1:(x.stream==y.stream)=false:=by simp[h]
  have hff:Hid (decide (x=y)=false):=hid (by rw[HE.out];simp[h])
  clear h;go_enter Tryz.func169,Tryz.ntmps169
  go_wp2;go_ret;exact⟨zP,zC⟩
theorem Nb(x y:List Bv)(a a':Option Addr)(n c n' c':Nat)(w:World)(hx:BE.r (·<w.heap.size) w [.slice a n c] x)(hy:BE.r (·<w.heap.size) w [.slice a' n' c'] y):
  Calls Tryz.prog 100 #[.slice a n c,.slice a' n' c'] w fun r w'=>r=.returned (.bool (decide (x=y)))∧Below w.heap.size w w':=by
 obtain⟨rfl,hm,_,_⟩:=AW hx
 obtain⟨rfl,hm',_,_⟩:=AW hy
 by_cases hl:x.length=y.length
 ·have HX:=hid hx;clear hx
  have HY:=hid hy;clear hy
  have HL:=hid hl
  have e1:((x.length:Int) !=(y.length:Int))=false:=by simp[hl]
  clear hl;go_enter Tryz.func100,Tryz.ntmps100
  go_wp2;go_loopw [5] (fun i wr=>∃k:Nat,k≤x.length∧i=.int .i64 k∧Hid (decide (x=y)=decide (x.drop k=y.drop k))∧Below w.heap.size w wr) (fun i _=>x.length-(intOf i).toNat)
  case atStart=>exact ⟨0,Am _,rfl,hid rfl,Below.refl _ _⟩
  case round=>
   obtain⟨k,hk,rfl,hf,hb⟩:=hrel
   by_cases hlt:k<x.length
   ·have hlt':k<y.length:=by rw[←HL.out];exact hlt
    obtain⟨b,o,hA,hbb,a1,c1,hc0,hc1,_,hr1⟩:=FM HX.out hlt
    obtain⟨b',o',hA',hbb',a2,c2,hd0,hd1,_,hr2⟩:=FM HY.out hlt'
    have hst:=hid (EI x y k hlt hlt')
    subst hA hA';have X0:=fun s:Ay wr=>s.cell ((hb.cell (p:=⟨b,o+k*2,none⟩) hbb).trans hc0)
    have X1:=fun s:Ay wr=>s.cell ((hb.cell (p:=⟨b,o+k*2+1,none⟩) hbb).trans hc1)
    have Y0:=fun s:Ay wr=>s.cell ((hb.cell (p:=⟨b',o'+k*2,none⟩) hbb').trans hd0)
    have Y1:=fun s:Ay wr=>s.cell ((hb.cell (p:=⟨b',o'+k*2+1,none⟩) hbb').trans hd1)
    clear hc0 hc1 hd0 hd1;generalize hlk:x[k]=u at*
    generalize hlm:y[k]=v at*
    clear hlk hlm;have hs1:=hid (lift hr1 hb)
    have hs2:=hid (lift hr2 hb)
    clear hr1 hr2;have hO:=fun s:Ay wr=>OW u v a1 a2 _ c1 _ c2 s.at_ (lift hs1.out s.below) (lift hs2.out s.below)
    have i0:(0:Int)≤(k:Int):=zD
    have i1:(k:Int)<(x.length:Int):=zD
    have i2:(k:Int)<(y.length:Int):=zD
    by_cases huv:u=v
    ·rw[Ae huv] at hO
     have HO:=hid hO;clear hO
     have hst':Hid (decide (x.drop k=y.drop k)=decide (x.drop (k+1)=y.drop (k+1))):=hid zBt
     clear huv;go_wp2_with fail;refine Aw zJ zJ ?_
     repeat (go_big_quiet_step (((go_at_call 169;exact AZ (HO.out _)))))
     refine AN ?_
     rintro W5 ⟨⟨W5',hb5⟩,rfl⟩;go_wp2;go_roundw
     case rel=>exact ⟨k+1,zD,ZB,hid zAz,Af hb5 hb⟩
     case measure=>simp [intOf];omega
    ·rw[Ad huv] at hO
     have HO:=hid hO;clear hO
     have hff:Hid (decide (x=y)=false):=hid zBc
     clear huv;go_wp2_with fail;refine Aw zJ zJ ?_
     repeat (go_big_quiet_step (((go_at_call 169;exact AZ (HO.out _)))))
     refine AN ?_
     rintro W5 ⟨⟨W5',hb5⟩,rfl⟩;go_wp2;go_ret;exact⟨zP,Af hb5 hb⟩
   ·obtain rfl:k=x.length:=by omega
    have hff:Hid (decide (x=y)=true):=hid ZN
    go_wp2;go_ret;exact⟨zP,hb⟩
 ·have hff:Hid (decide (x=y)=false):=hid (by simp;rintro rfl;exact hl rfl)
  have e1:((x.length:Int) !=(y.length:Int))=true:=zK
  clear hl hx hy;go_enter Tryz.func100,Tryz.ntmps100
  go_wp2;go_ret;exact⟨zP,Below.refl _ _⟩
theorem Eh:(Tryz.prog.info? 5).map (fun i=>(i.zero,i.size,i.bytes))=some (some (.int .u8 0),1,1):=zJ
theorem Ff{α:Type}{sz:Nat}{A:Rp α}{S:Nat→Prop}{w:World}{xs:List α}{a:Option Addr}{n c k:Nat}(h:(rSl sz A).r S w [.slice a n c] xs)(hk:k≤xs.length):(rSl sz A).r S w [.slice a k c] (xs.take k):=by
 obtain⟨a',c',e,h1,h2,h3⟩:=h
 simp at e
 obtain⟨rfl,rfl,rfl⟩:=e
 have hl:(xs.take k).length=k:=zK
 refine AM (by rw[hl]) zD h2 ?_
 rcases h3 with rfl | ⟨b,off,rfl,hS,hr⟩
 ·exact .inl zR
 ·refine .inr ⟨b,off,rfl,hS,fun i x hi=>hr i x ?_⟩
  rw[Co] at hi
  split at hi
  ·exact hi
  ·cases hi
end Go.Proofs.YtlbffbkbkajciaaGreat
namespace Go.Bs
def Ez(b:List UInt8)(off:Nat):Nat→Nat→Nat
 | 0,_=>0
 | f+1,p=>if p<b.length∧b[p]? =b[p-off]? then Ez b off f (p+1)+1 else 0
def Cj(b:List UInt8)(p off:Nat):Nat:=if p<b.length∧1≤off∧off≤p then Ez b off (b.length-p) p else 0
theorem Ko(b:List UInt8)(off:Nat):∀f p,Ez b off f p≤f
 | 0,_=>Ai _
 | f+1,p=>by
  unfold Ez;split
  ·have:=Ko b off f (p+1);omega
  ·omega
theorem Hq(b:List UInt8)(p off:Nat):Cj b p off≤b.length-p:=by
 unfold Cj;split
 ·exact Ko ..
 ·omega
theorem IG(b:List UInt8)(off:Nat):∀f p k,k<Ez b off f p→p+k<b.length∧b[p+k]? =b[p+k-off]?
 | 0,_,k,h=>by simp[Ez] at h
 | f+1,p,k,h=>by
  unfold Ez at h;split at h
  ·rename_i hc
   cases k with
   | zero=>exact hc
   | succ k=>
    have:=IG b off f (p+1) k zD
    rw[show p+(k+1)=p+1+k by omega]
    exact this
  ·omega
theorem Kp(b:List UInt8)(off:Nat):∀f p k,k≤f→(∀j,j<k→p+j<b.length∧b[p+j]? =b[p+j-off]?)→k≤Ez b off f p
 | _,_,0,_,_=>Am _
 | 0,_,k+1,h,_=>by omega
 | f+1,p,k+1,h,hs=>by
  unfold Ez;rw[Al (by simpa using hs 0 (by omega))]
  have:=Kp b off f (p+1) k zD fun j hj=>by
   have:=hs (j+1) zD
   rw[show p+(j+1)=p+1+j by omega] at this
   exact this
  omega
theorem Rb{b:List UInt8}{p off k:Nat}(h1:1≤off)(h2:off≤p)(hp:p<b.length)(h:∀j,j<k→p+j<b.length∧b[p+j]? =b[p+j-off]?):k≤Cj b p off:=by
 unfold Cj;rw[Al ⟨hp,h1,h2⟩]
 refine Kp _ _ _ _ _ ?_ h
 rcases C6 k with rfl | h0
 ·exact Am _
 ·have:=(h (k-1) zD).1;omega
theorem KC{b:List UInt8}{p off k:Nat}(h:k<Cj b p off):1≤off∧off≤p∧p+k<b.length∧b[p+k]? =b[p+k-off]? :=by
 unfold Cj at h;split at h
 ·rename_i hc
  exact⟨hc.2.1,hc.2.2,IG _ _ _ _ _ h⟩
 ·omega
def EA(b:List UInt8)(p:Nat):Nat→Nat
 | 0=>0
 | k+1=>max (EA b p k) (Cj b p (k+1))
def firstM(b:List UInt8)(p m:Nat):Nat→Nat→Nat
 | 0,_=>0
 | f+1,o=>if Cj b p o=m then o else firstM b p m f (o+1)
theorem Jc(b:List UInt8)(p:Nat):∀k o,1≤o→o≤k→Cj b p o≤EA b p k
 | 0,o,h1,h2=>by omega
 | k+1,o,h1,h2=>by
  simp only[EA]
  by_cases h:o=k+1
  ·subst h;omega
  ·have:=Jc b p k o h1 zD;omega
theorem Hr(b:List UInt8)(p:Nat):∀k,EA b p k=0∨∃o,1≤o∧o≤k∧Cj b p o=EA b p k
 | 0=> .inl rfl
 | k+1=>by
  simp only[EA]
  rcases Nat.le_total (EA b p k) (Cj b p (k+1)) with h | h
  ·rw[Nat.max_eq_right h]
   exact .inr ⟨k+1,zD,Ai _,rfl⟩
  ·rw[Nat.max_eq_left h]
   rcases Hr b p k with h0 | ⟨o,h1,h2,h3⟩
   ·exact .inl h0
   ·exact .inr ⟨o,h1,zD,h3⟩
theorem Iq(b:List UInt8)(p m:Nat):∀f o o',o≤o'→o'<o+f→Cj b p o'=m→(∀j,o≤j→j<o'→Cj b p j≠m)→firstM b p m f o=o'
 | 0,o,o',h1,h2,_,_=>by omega
 | f+1,o,o',h1,h2,h3,h4=>by
  unfold firstM;by_cases h:o=o'
  ·subst h;rw[Al h3]
  ·rw[Ak (h4 o (Ai _) zD)]
   exact Iq b p m f (o+1) o' zD zD h3 fun j h5 h6=>h4 j zD h6
def reach(p:Nat):Nat:=min p 65536
def Bt(b:List UInt8)(p:Nat):Nat × Nat:=
 if 4≤EA b p (reach p) then (firstM b p (EA b p (reach p)) (reach p) 1,EA b p (reach p)) else (0,0)
theorem Mi(b:List UInt8)(p m:Nat):∀k,(∃o,1≤o∧o≤k∧Cj b p o=m)→∃o,1≤o∧o≤k∧Cj b p o=m∧∀j,1≤j→j<o→Cj b p j≠m
 | 0,⟨o,h1,h2,_⟩=>by omega
 | k+1,⟨o,h1,h2,h3⟩=>by
  by_cases h:∃o,1≤o∧o≤k∧Cj b p o=m
  ·obtain⟨o,g1,g2,g3,g4⟩:=Mi b p m k h
   exact⟨o,g1,zD,g3,g4⟩
  ·refine⟨o,h1,h2,h3,fun j j1 j2 j3=>h ⟨j,j1,zD,j3⟩⟩
theorem JX{b:List UInt8}{p o m:Nat}(h1:1≤o)(h2:o≤reach p)(h4:4≤m)(hm:Cj b p o=m)(hall:∀j,1≤j→j≤reach p→Cj b p j≤m)(hlt:∀j,1≤j→j<o→Cj b p j<m):Bt b p=(o,m):=by
 have e:EA b p (reach p)=m:=by
  have:=Jc b p (reach p) o h1 h2
  rcases Hr b p (reach p) with h | ⟨o',g1,g2,g3⟩
  ·omega
  ·have:=hall o' g1 g2;omega
 unfold Bt;rw[e,Al h4,Iq b p m (reach p) 1 o h1 zD hm fun j j1 j2=>by have:=hlt j j1 j2;omega]
theorem JW{b:List UInt8}{p:Nat}(h:∀j,1≤j→j≤reach p→Cj b p j<4):Bt b p=(0,0):=by
 unfold Bt;rw[Ak]
 rcases Hr b p (reach p) with h0 | ⟨o',g1,g2,g3⟩
 ·omega
 ·have:=h o' g1 g2;omega
theorem Ex(b:List UInt8)(p:Nat):Bt b p=(0,0)∨∃o m,Bt b p=(o,m)∧1≤o∧o≤reach p∧4≤m∧Cj b p o=m∧(∀j,1≤j→j≤reach p→Cj b p j≤m)∧∀j,1≤j→j<o→Cj b p j<m:=by
 by_cases h:4≤EA b p (reach p)
 ·right
  rcases Hr b p (reach p) with h0 | hx
  ·omega
  ·obtain⟨o,g1,g2,g3,g4⟩:=Mi b p _ _ hx
   have hall:=fun j (j1:1≤j) (j2:j≤reach p)=>Jc b p _ j j1 j2
   have hlt:∀j,1≤j→j<o→Cj b p j<EA b p (reach p):=fun j j1 j2=>by
    have:=hall j j1 zD
    have:=g4 j j1 j2
    omega
   exact⟨o,_,JX g1 g2 h g3 hall hlt,g1,g2,h,g3,hall,hlt⟩
 ·left
  unfold Bt;rw[Ak h]
theorem FR(b:List UInt8)(p:Nat):(Bt b p).2≤b.length-p∧(Bt b p).1≤p:=by
 rcases Ex b p with h | ⟨o,m,h,_,h2,_,h4,_⟩
 ·rw[h];exact⟨Am _,Am _⟩
 ·rw[h]
  have:=Hq b p o
  simp only[reach] at h2
  exact⟨zCt,zCt⟩
structure Tok where
 lit:List UInt8
 off:Int
 len:Int
 deriving DecidableEq
def Dt(b:List UInt8)(i j:Nat):List Tok:=if i<j then [⟨(b.drop i).take (j-i),0,0⟩] else []
def DG(b:List UInt8):Nat→Nat→Nat→List Tok
  | 0,_,i=>Dt b i b.length
  | f+1,p,i=>if p<b.length then
      (if (Bt b p).2=0 then DG b f (p+1) i
       else Dt b i p++⟨[],(Bt b p).1,(Bt b p).2⟩::DG b f (p+(Bt b p).2) (p+(Bt b p).2))
      else Dt b i b.length
def C7(b:List UInt8):List Tok:=DG b b.length 0 0
theorem FB(b:List UInt8):∀f g p i,b.length≤p+f→b.length≤p+g→DG b f p i=DG b g p i
 | 0,0,_,_,_,_=>rfl
 | 0,g+1,p,i,h,_=>by
  simp only[DG]
  rw[Ak zD]
 | f+1,0,p,i,_,h=>by
  simp only[DG]
  rw[Ak zD]
 | f+1,g+1,p,i,h1,h2=>by
  simp only[DG]
  split
  ·split
   ·exact FB b f g (p+1) i zD zD
   ·rename_i hn
    rw[FB b f g (p+(Bt b p).2) (p+(Bt b p).2) zD zD]
  ·rfl
def GN(b:List UInt8)(p i:Nat):List Tok:=DG b (b.length-p) p i
theorem MS{b:List UInt8}{p i:Nat}(hp:p<b.length)(h:(Bt b p).2=0):GN b p i=GN b (p+1) i:=by
 unfold GN;obtain⟨f,hf⟩:∃f,b.length-p=f+1:=⟨b.length-p-1,zD⟩
 rw[hf]
 simp only[DG]
 rw[Al hp,Al h]
 exact FB b _ _ _ _ zD zD
theorem MR{b:List UInt8}{p i:Nat}(hp:p<b.length)(h:(Bt b p).2≠0):GN b p i=Dt b i p++⟨[],(Bt b p).1,(Bt b p).2⟩::GN b (p+(Bt b p).2) (p+(Bt b p).2):=by
 unfold GN;obtain⟨f,hf⟩:∃f,b.length-p=f+1:=⟨b.length-p-1,zD⟩
 rw[hf]
 simp only[DG]
 rw[Al hp,Ak h]
 congr 2
 exact FB b _ _ _ _ zD zD
theorem OJ{b:List UInt8}{p i:Nat}(hp:b.length≤p):GN b p i=Dt b i b.length:=by
 unfold GN;rw[show b.length-p=0 by omega];rfl
def CM(b:List UInt8)(p:Nat):Option Nat:=
 match b[p]?,b[p+1]?,b[p+2]?,b[p+3]? with
 | some a,some c,some d,some e=>some (a.toNat+256*c.toNat+65536*d.toNat+16777216*e.toNat)
 | _,_,_,_=>none
def Dk(b:List UInt8)(k:Nat):Nat→Nat
 | 0=>0
 | j+1=>if CM b j=some k then j+1 else Dk b k j
theorem Hz(b:List UInt8)(k:Nat):∀j,Dk b k j≤j
 | 0=>Ai _
 | j+1=>by
  unfold Dk;split
  ·omega
  ·have:=Hz b k j;omega
theorem KH(b:List UInt8)(k:Nat):∀j,Dk b k j≠0→CM b (Dk b k j-1)=some k
 | 0,h=>absurd rfl h
 | j+1,h=>by
  unfold Dk at h ⊢;split
  ·rename_i hk;simpa using hk
  ·rename_i hk
   rw[Ak hk] at h
   exact KH b k j h
end Go.Bs
namespace Go.Proofs.YtlbffbkbkajciaaGreat
open Go.RowKit Go.Bs
def ET(b:List UInt8)(p q:Nat):Bool:=decide (p<b.length)&&decide (b[p]? =b[q]?)
theorem LX{b:List UInt8}{p q:Nat}(hp:p<b.length)(hq:q<b.length):ET b p q=((b[p].toNat:Int)==(b[q].toNat:Int)):=by
 unfold ET;rw[Ae hp,Cd,AH hp,AH hq,Ea]
 simp only[AF,Cc,beq_iff_eq]
 constructor
 ·intro h;rw[h]
 ·intro h;exact UInt8.toNat_inj.1 zD
theorem L6(b:List UInt8)(p q:Nat)(hq:q≤p)(a:Option Addr)(n c:Nat)(w:World)(hl:Ah.r (·<w.heap.size) w [.slice a n c] b)(hp:p≤4611686018427387904):
  Calls Tryz.prog 278 #[.slice a n c,.int .i64 p,.int .i64 q,.int .i64 1] w fun r w'=>r=.returned (.bool (ET b p q))∧Below w.heap.size w w':=by
 obtain⟨rfl,hm,_,_⟩:=AW hl
 by_cases hlt:p<b.length
 ·have hqt:q<b.length:=by omega
  obtain⟨g,o,hA,hg,hc⟩:=Bq hl hlt
  obtain⟨g',o',hA',hg',hc'⟩:=Bq hl hqt
  rw[hA] at hA'
  simp only[Cc,Gy,At] at hA'
  obtain⟨rfl,rfl⟩:=hA'
  subst hA;have hff:=hid (LX hlt hqt)
  generalize b[p]=x at*
  generalize b[q]=y at*
  have HL:=hid hl;clear hl
  have d1:decide ((b.length:Int)<(p:Int)+1)=false:=zK
  have d2:decide ((b.length:Int)<(q:Int)+1)=false:=zK
  go_enter Tryz.func278,Tryz.ntmps278
  go_wp2_with fail;refine wp_loop_rounds 2 ?_
  rw[rounds_succ]
  have C1:=fun s:Ay w=>s.cell hc
  have C2:=fun s:Ay w=>s.cell hc'
  cases he:((x.toNat:Int)==(y.toNat:Int))
  ·have e1:((x.toNat:Int) !=(y.toNat:Int))=true:=by simp only[bne,he,Bool.not_false]
   rw[he] at hff
   clear he;go_wp2_with fail;refine Aw zJ zJ ?_
   repeat (go_big_quiet_step (fail))
   refine AN ?_
   rintro W5 ⟨⟨W5',hb5⟩,rfl⟩;go_wp2;go_ret;exact⟨zP,hb5⟩
  ·have e1:((x.toNat:Int) !=(y.toNat:Int))=false:=by simp only[bne,he,Bool.not_true]
   rw[he] at hff
   clear he;go_wp2_with fail;refine Aw zJ zJ ?_
   repeat (go_big_quiet_step (fail))
   refine AN ?_
   rintro W5 ⟨⟨W5',hb5⟩,rfl⟩;go_wp2_with fail;rw[rounds_succ]
   go_wp2;go_ret;exact⟨zP,hb5⟩
 ·have hff:Hid (ET b p q=false):=hid (by simp[ET,hlt])
  clear hl;go_enter Tryz.func278,Tryz.ntmps278
  go_wp2;go_ret;exact⟨zP,zC⟩
theorem Nm(b:List UInt8)(p q:Int)(h0:0≤q)(hq:q≤p)(a:Option Addr)(n c:Nat)(w:World)(hl:Ah.r (·<w.heap.size) w [.slice a n c] b)(hp:p≤4611686018427387904):
  Calls Tryz.prog 278 #[.slice a n c,.int .i64 p,.int .i64 q,.int .i64 1] w fun r w'=>r=.returned (.bool (ET b p.toNat q.toNat))∧Below w.heap.size w w':=by
 obtain⟨p',rfl⟩:=Dm (show 0≤p by omega)
 obtain⟨q',rfl⟩:=Dm h0
 exact L6 b p' q' zD a n c w hl zD
def FI(b:List UInt8)(p off k:Nat):Nat:=k+Ez b off (b.length-p-k) (p+k)
theorem IU{b:List UInt8}{p off:Nat}(h:p<b.length∧1≤off∧off≤p):Cj b p off=FI b p off 0:=by
 unfold Cj FI;rw[Al h];simp
theorem JF{b:List UInt8}{p off k:Nat}(h:ET b (p+k) (p+k-off)=true):FI b p off k=FI b p off (k+1)∧p+k<b.length:=by
 simp only[ET,AD,AF] at h
 refine⟨?_,h.1⟩
 unfold FI;obtain⟨f,hf⟩:∃f,b.length-p-k=f+1:=⟨b.length-p-k-1,zD⟩
 rw[hf,show b.length-p-(k+1)=f by omega]
 simp only[Ez]
 rw[Al h,show p+(k+1)=p+k+1 by omega]
 omega
theorem Il{b:List UInt8}{p off k:Nat}(h:ET b (p+k) (p+k-off)=false):FI b p off k=k:=by
 unfold FI;rcases C6 (b.length-p-k) with h0 | h0
 ·rw[h0];rfl
 ·obtain⟨f,hf⟩:∃f,b.length-p-k=f+1:=⟨b.length-p-k-1,zD⟩
  rw[hf]
  simp only[Ez]
  rw[Ak]
  ·omega
  ·rintro⟨h1,h2⟩
   have:ET b (p+k) (p+k-off)=true:=by unfold ET;rw[Ae h1,Ae h2];rfl
   rw[this] at h;cases h
theorem EM{b:List UInt8}{p off:Nat}(h:¬(p<b.length∧1≤off∧off≤p)):Cj b p off=0:=by
 unfold Cj;rw[Ak h]
theorem La(b:List UInt8)(p off:Nat)(a:Option Addr)(n c:Nat)(w:World)(hl:Ah.r (·<w.heap.size) w [.slice a n c] b)(hlen:b.length≤1048576)(hp:p≤1048576)(ho:off≤1048577):
  Calls Tryz.prog 270 #[.slice a n c,.int .i64 p,.int .i64 off] w fun r w'=>r=.returned (.int .i64 (Cj b p off))∧Below w.heap.size w w':=by
 obtain⟨rfl,hm,_,_⟩:=AW hl
 have HL:=hid hl;clear hl
 by_cases h1:p<b.length
 ·have d0:decide ((p:Int)<0)=false:=by simp
  have d1:decide ((b.length:Int)≤(p:Int))=false:=zK
  have d1':decide (b.length≤p)=false:=zK
  by_cases h2:1≤off
  ·have d2:decide ((off:Int)<1)=false:=by simp;omega
   by_cases h3:off≤p
   ·have d3:decide ((p:Int)<(off:Int))=false:=by simp;omega
    have d3':decide (p<off)=false:=zK
    have hff:=hid (IU (off:=off) ⟨h1,h2,h3⟩)
    go_enter Tryz.func270,Tryz.ntmps270
    go_wp2_with fail;go_loopw [7] (fun i wr=>∃k:Nat,k≤b.length-p∧i=.int .i64 k∧Hid (Cj b p off=FI b p off k)∧Below w.heap.size w wr) (fun i _=>b.length-(intOf i).toNat)
    case atStart=>exact ⟨0,Am _,rfl,hff,Below.refl _ _⟩
    case round=>
     obtain⟨k,hk,rfl,hf,hb⟩:=hrel
     clear hff;have d4:decide ((k:Int)<1048576)=true:=zK
     have hS:=Nm b ((p:Int)+(k:Int)) ((p:Int)+(k:Int)-(off:Int)) zD zD a b.length c wr (lift HL.out hb) zD
     have e1:((p:Int)+(k:Int)).toNat=p+k:=zD
     have e2:((p:Int)+(k:Int)-(off:Int)).toNat=p+k-off:=zD
     rw[e1,e2] at hS
     clear e1 e2;cases hs:ET b (p+k) (p+k-off)
     ·have hend:=hid (Il hs)
      rw[hs] at hS
      have HS:=hid hS;clear hS hs
      go_wp2_with fail;refine HS.out.mono ?_
      rintro r w2 ⟨rfl,hb2⟩;go_wp2;go_ret;exact⟨zCk,Af hb2 hb⟩
     ·obtain⟨hn,hlt⟩:=JF hs
      have HN:=hid hn
      rw[hs] at hS
      have HS:=hid hS;clear hS hs hn
      go_wp2_with fail;refine HS.out.mono ?_
      rintro r w2 ⟨rfl,hb2⟩;go_wp2;go_roundw
      case rel=>exact ⟨k+1,zD,ZB,hid (by rw[hf.out,HN.out]),Af hb2 hb⟩
      case measure=>simp [intOf];omega
   ·have d3:decide ((p:Int)<(off:Int))=true:=by simp;omega
    have hff:=hid (EM (b:=b) (p:=p) (off:=off) zD)
    go_enter Tryz.func270,Tryz.ntmps270
    go_wp2;go_ret;exact⟨zP,zC⟩
  ·have d2:decide ((off:Int)<1)=true:=by simp;omega
   have hff:=hid (EM (b:=b) (p:=p) (off:=off) zD)
   go_enter Tryz.func270,Tryz.ntmps270
   go_wp2;go_ret;exact⟨zP,zC⟩
 ·have d1:decide ((b.length:Int)≤(p:Int))=true:=by simp;omega
  have hff:=hid (EM (b:=b) (p:=p) (off:=off) zD)
  go_enter Tryz.func270,Tryz.ntmps270
  go_wp2;go_ret;exact⟨zP,zC⟩
theorem IN(b:List UInt8)(p off:Int)(h0:0≤p)(h1:0≤off)(a:Option Addr)(n c:Nat)(w:World)(hl:Ah.r (·<w.heap.size) w [.slice a n c] b)(hlen:b.length≤1048576)(hp:p≤1048576)(ho:off≤1048577):
  Calls Tryz.prog 270 #[.slice a n c,.int .i64 p,.int .i64 off] w fun r w'=>r=.returned (.int .i64 (Cj b p.toNat off.toNat))∧Below w.heap.size w w':=by
 obtain⟨p',rfl⟩:=Dm h0
 obtain⟨q',rfl⟩:=Dm h1
 exact La b p' q' a n c w hl hlen zD zD
theorem LW(b:List UInt8)(p off:Nat)(a:Option Addr)(n c:Nat)(w:World)(hl:Ah.r (·<w.heap.size) w [.slice a n c] b)(hlen:b.length≤1048576)(hp:p≤1048576)(ho:off≤1048577):
  Calls Tryz.prog 275 #[.slice a n c,.int .i64 p,.int .i64 off] w fun r w'=>r=.returned (.int .i64 (Cj b p off))∧Below w.heap.size w w':=by
 obtain⟨rfl,hm,_,_⟩:=AW hl
 by_cases h1:p<b.length
 ·have d0:decide ((p:Int)<0)=false:=by simp
  have d1:decide ((b.length:Int)≤(p:Int))=false:=zK
  have d1':decide (b.length≤p)=false:=zK
  by_cases h2:1≤off
  ·have d2:decide ((off:Int)<1)=false:=by simp;omega
   by_cases h3:off≤p
   ·have d3:decide ((p:Int)<(off:Int))=false:=by simp;omega
    have d3':decide (p<off)=false:=zK
    have hff:=hid (IU (off:=off) ⟨h1,h2,h3⟩)
    obtain⟨g,o,hA,hg,_⟩:=Bq hl h1
    subst hA;have HL:=hid hl;clear hl
    go_enter Tryz.func275,Tryz.ntmps275
    go_wp2_with fail;go_loopw [7] (fun i wr=>∃k:Nat,k≤b.length-p∧i=.int .i64 k∧Hid (Cj b p off=FI b p off k)∧Below w.heap.size w wr) (fun i _=>b.length-(intOf i).toNat)
    case atStart=>exact ⟨0,Am _,rfl,hff,Below.refl _ _⟩
    case round=>
     obtain⟨k,hk,rfl,hf,hb⟩:=hrel
     clear hff;have d4:decide ((k:Int)<1048576)=true:=zK
     by_cases hlt:p+k<b.length
     ·have d5:decide ((p:Int)+(k:Int)<(b.length:Int))=true:=by simp;omega
      have hlq:p+k-off<b.length:=zD
      obtain⟨g1,o1,hA1,_,hc⟩:=Bq HL.out hlt
      obtain⟨g2,o2,hA2,_,hc'⟩:=Bq HL.out hlq
      simp only[Cc,Gy,At] at hA1 hA2
      obtain⟨rfl,rfl⟩:=hA1
      obtain⟨rfl,rfl⟩:=hA2
      have C1:=fun s:Ay wr=>s.cell ((hb.cell (p:=⟨g,o+(p+k),none⟩) hg).trans hc)
      have C2:=fun s:Ay wr=>s.cell ((hb.cell (p:=⟨g,o+(p+k-off),none⟩) hg).trans hc')
      have hsa:=LX hlt hlq
      generalize b[p+k]=x at*
      generalize b[p+k-off]=y at*
      clear hc hc';have i1:(0:Int)≤(p:Int)+(k:Int):=zD
      have i2:(0:Int)≤(p:Int)+(k:Int)-(off:Int):=zD
      have i3:(p:Int)+(k:Int)-(off:Int)<(b.length:Int):=zD
      have i4:(p:Int)+(k:Int)<(b.length:Int):=zD
      have t1:((p:Int)+(k:Int)).toNat=p+k:=zD
      have t2:((p:Int)+(k:Int)-(off:Int)).toNat=p+k-off:=zD
      cases hs:ET b (p+k) (p+k-off)
      ·have hend:=hid (Il hs)
       rw[hs] at hsa
       have e1:((x.toNat:Int)==(y.toNat:Int))=false:=hsa.symm
       clear hs hsa;go_wp2_with fail;refine Aw zJ zJ ?_
       repeat (go_big_quiet_step (fail))
       refine AN ?_
       rintro W5 ⟨⟨W5',hb5⟩,rfl⟩;go_wp2;go_ret;exact⟨zCk,Af hb5 hb⟩
      ·obtain⟨hn,_⟩:=JF hs
       have HN:=hid hn
       rw[hs] at hsa
       have e1:((x.toNat:Int)==(y.toNat:Int))=true:=hsa.symm
       clear hs hsa hn;go_wp2_with fail;refine Aw zJ zJ ?_
       repeat (go_big_quiet_step (fail))
       refine AN ?_
       rintro W5 ⟨⟨W5',hb5⟩,rfl⟩;clear t1 t2;go_wp2;go_roundw
       case rel=>exact ⟨k+1,zD,ZB,hid (by rw[hf.out,HN.out]),Af hb5 hb⟩
       case measure=>simp [intOf];omega
     ·have d5:decide ((p:Int)+(k:Int)<(b.length:Int))=false:=by simp;omega
      have hs:ET b (p+k) (p+k-off)=false:=by simp[ET,hlt]
      have hend:=hid (Il hs)
      clear hs;go_wp2_with fail;refine Aw zJ zJ ?_
      repeat (go_big_quiet_step (fail))
      refine AN ?_
      rintro W5 ⟨⟨W5',hb5⟩,rfl⟩;go_wp2;go_ret;exact⟨zCk,Af hb5 hb⟩
   ·have d3:decide ((p:Int)<(off:Int))=true:=by simp;omega
    have hff:=hid (EM (b:=b) (p:=p) (off:=off) zD)
    go_enter Tryz.func275,Tryz.ntmps275
    go_wp2;go_ret;exact⟨zP,zC⟩
  ·have d2:decide ((off:Int)<1)=true:=by simp;omega
   have hff:=hid (EM (b:=b) (p:=p) (off:=off) zD)
   go_enter Tryz.func275,Tryz.ntmps275
   go_wp2;go_ret;exact⟨zP,zC⟩
 ·have d1:decide ((b.length:Int)≤(p:Int))=true:=by simp;omega
  have hff:=hid (EM (b:=b) (p:=p) (off:=off) zD)
  go_enter Tryz.func275,Tryz.ntmps275
  go_wp2;go_ret;exact⟨zP,zC⟩
theorem M4(b:List UInt8)(p off:Int)(h0:0≤p)(h1:0≤off)(a:Option Addr)(n c:Nat)(w:World)(hl:Ah.r (·<w.heap.size) w [.slice a n c] b)(hlen:b.length≤1048576)(hp:p≤1048576)(ho:off≤1048577):
  Calls Tryz.prog 275 #[.slice a n c,.int .i64 p,.int .i64 off] w fun r w'=>r=.returned (.int .i64 (Cj b p.toNat off.toNat))∧Below w.heap.size w w':=by
 obtain⟨p',rfl⟩:=Dm h0
 obtain⟨q',rfl⟩:=Dm h1
 exact LW b p' q' a n c w hl hlen zD zD
theorem Jr(o n:Int)(w:World):Calls Tryz.prog 276 #[.int .i64 o,.int .i64 n] w fun r w'=>r=.returned (.tuple #[.int .i64 (if n<4 then 0 else o),.int .i64 (if n<4 then 0 else n)])∧w=w':=by
 by_cases h:n<4
 ·rw[Al h,Al h]
  have d1:decide (n<4)=true:=by simpa using h
  clear h;go_enter Tryz.func276,Tryz.ntmps276
  go_wp2;go_ret2
  exact⟨rfl,rfl⟩
 ·rw[Ak h,Ak h]
  have d1:decide (n<4)=false:=by simpa using h
  clear h;go_enter Tryz.func276,Tryz.ntmps276
  go_wp2;go_ret2
  exact⟨rfl,rfl⟩
end Go.Proofs.YtlbffbkbkajciaaGreat
