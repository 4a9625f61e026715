/- Mini: Needed by rpcReads_walk, part 1: texts put together by shake.py; no condition. -/
import Derived.WalkKit
import Derived.WalkLawsBesides
import Derived.WalkSpells
import Derived.Outline
import Derived.BigQuiet
import Derived.Deep.QuietTactic
import Derived.ProofKit
import Derived.OpenShut
import Derived.Deep.Slices
import Derived.Lib.SmallJoins
import Derived.Test.YtlbffbkbkajciaaGreatRows
import Derived.Deep.AppendLies
import Derived.Laws.IdiomStrings
import Derived.Laws.BytesArg
import Derived.Maps.AppendAt
set_option linter.unusedVariables false
set_option linter.unusedSimpArgs false
set_option maxRecDepth 100000
set_option maxHeartbeats 6400000
namespace Go.Bs
variable{cells:List (List Value)}{b l:List UInt8}{cs xs:List Value}{base c g i lo n o off p size sz:Nat}{S:Nat → Prop}{a:Option Addr}{e t:TypeId}{v:Value}{W w w':World}
theorem zC7{p:Prop}(h:p:=by simp only; omega):p:=h
theorem zCw{p:Prop}(h:p:=by rw [hf.out, hend.out]; rfl):p:=h
theorem zCu{p:Prop}(h:p:=by go_simp):p:=h
theorem zB4{p:Prop}(h:p:=by rw [hst.out]; simp [huv]):p:=h
theorem zB3{p:Prop}(h:p:=by simpa using h2):p:=h
theorem zBw{p:Prop}(h:p:=by unfold reach; omega):p:=h
theorem zBl{p:Prop}(h:p:=by rw [hf.out, hst.out]; simp [huv]):p:=h
theorem zBe{p:Prop}(h:p:=by simp [byteCells]):p:=h
theorem zBb{p:Prop}(h:p:=by rw [hf.out, hst'.out]):p:=h
theorem zAw{p:Prop}(h:p:=by simpa using h1):p:=h
theorem zAv{p:Prop}(h:p:=by rw [hb.block g (Array.getElem?_eq_some_iff.1 h3).1]; exact h3):p:=h
theorem zAf{p:Prop}(h:p:=by simp [Value.oneCell']):p:=h
theorem Z4{p:Prop}(h:p:=by have := (List.getElem?_eq_some_iff.1 hj).1; rw [hsz _ (Da hic)] at this; exact this):p:=h
theorem ZN{p:Prop}(h:p:=by rw [hf.out, KH, List.drop_of_length_le (by rw [HL.out]; exact Aj _)]; rfl):p:=h
theorem zZ{p:Prop}(h:p:=by go_num):p:=h
theorem zS{p:Prop}(h:p:=by decide):p:=h
theorem zR{p:Prop}(h:p:=by simp only [maxLen]; omega):p:=h
theorem zQ{p:Prop}(h:p:=by rw [hff.out]; rfl):p:=h
theorem zP{p:Prop}(h:p:=by simp):p:=h
theorem zM{p:Prop}(h:p:=by simp; omega):p:=h
theorem zL{p:Prop}(h:p:=by kernel_rfl):p:=h
theorem zD{p:Prop}(h:p:=by omega):p:=h
theorem zC{p:Prop}(h:p:=by (repeat (first | exact Below.refl _ _ | assumption | (refine Aw ?_ _) | (refine Below.setCell ?_ (by first | omega | (simp; done) | (simp; omega)) _) | (refine Below.drew ?_) | (refine below_drewN ?_ _) | (refine Ag (by assumption) ?_)))):p:=h
theorem Ad:type_of% @decide_eq_false:=@decide_eq_false
theorem Ae:type_of% @decide_eq_true:=@decide_eq_true
theorem Ai:type_of% @List.cons.injEq:=@List.cons.injEq
theorem Aj:type_of% @Nat.le_refl:=@Nat.le_refl
theorem Ak:type_of% @if_neg:=@if_neg
theorem Am:type_of% @Nat.lt_of_lt_of_le:=@Nat.lt_of_lt_of_le
theorem An:type_of% @if_pos:=@if_pos
theorem Ao:type_of% @Nat.zero_le:=@Nat.zero_le
theorem Ap:type_of% @RowKit.Below.heap_setCell:=@RowKit.Below.heap_setCell
theorem As:type_of% @and_true:=@and_true
theorem Au:type_of% @List.length_append:=@List.length_append
theorem AK:type_of% @Proofs.Tryz.underlying25:=@Proofs.Tryz.underlying25
theorem AL:type_of% @Bool.and_eq_true:=@Bool.and_eq_true
theorem AN:type_of% @decide_eq_true_eq:=@decide_eq_true_eq
theorem AO:type_of% @List.drop_eq_getElem_cons:=@List.drop_eq_getElem_cons
theorem AP:type_of% @List.eq_nil_of_length_eq_zero:=@List.eq_nil_of_length_eq_zero
theorem AQ:type_of% @List.getElem?_eq_getElem:=@List.getElem?_eq_getElem
theorem A2:type_of% @RowKit.Below.heap_alloc:=@RowKit.Below.heap_alloc
theorem A4:type_of% @Nat.le_trans:=@Nat.le_trans
theorem A6:type_of% @wpList_plain:=@wpList_plain
theorem A7:type_of% @Prod.mk.injEq:=@Prod.mk.injEq
theorem A8:type_of% @wpQuiet_nil:=@wpQuiet_nil
theorem Bc:type_of% @info_parts:=@info_parts
theorem Bi:type_of% @List.getElem?_append_left:=@List.getElem?_append_left
theorem Bm:type_of% @Nat.lt_or_ge:=@Nat.lt_or_ge
theorem Bn:type_of% @List.getElem?_append_right:=@List.getElem?_append_right
theorem Bo:type_of% @List.length_cons:=@List.length_cons
theorem Bq:type_of% @World.cell?_of_block:=@World.cell?_of_block
theorem Bw:type_of% @List.mem_singleton:=@List.mem_singleton
theorem By:type_of% @Option.some.inj:=@Option.some.inj
theorem Cb:type_of% @Nat.zero_add:=@Nat.zero_add
theorem Ci:type_of% @List.mem_append:=@List.mem_append
theorem Cj:type_of% @Nat.mul_le_mul_right:=@Nat.mul_le_mul_right
theorem Cv:type_of% @Option.some.injEq:=@Option.some.injEq
theorem Cw:type_of% @Bool.true_and:=@Bool.true_and
theorem Cx:type_of% @World.frozen?_of_block:=@World.frozen?_of_block
theorem CE:type_of% @Nat.add_zero:=@Nat.add_zero
theorem CK:type_of% @List.getElem?_take:=@List.getElem?_take
theorem Da:type_of% @List.getElem_mem:=@List.getElem_mem
theorem Dg:type_of% @Nat.sub_self:=@Nat.sub_self
theorem Dq:type_of% @Nat.mod_eq_of_lt:=@Nat.mod_eq_of_lt
theorem Dr:type_of% @Nat.eq_zero_or_pos:=@Nat.eq_zero_or_pos
theorem DE:type_of% @if_true:=@if_true
theorem DK:type_of% @World.block_lt_of_cell?:=@World.block_lt_of_cell?
theorem DN:type_of% @Proofs.Tryz.underlying23:=@Proofs.Tryz.underlying23
theorem DO:type_of% @Int.eq_ofNat_of_zero_le:=@Int.eq_ofNat_of_zero_le
theorem Ef:type_of% @Nat.mul_one:=@Nat.mul_one
theorem ED:type_of% @Bool.eq_iff_iff:=@Bool.eq_iff_iff
theorem GF:type_of% @bounds_u64:=@bounds_u64
theorem Ic:type_of% @Addr.mk.injEq:=@Addr.mk.injEq
theorem JA:type_of% @List.getElem?_map:=@List.getElem?_map
theorem KH:type_of% @List.drop_length:=@List.drop_length
open Go.RowKit
theorem hid{p:Prop}(h:p):Hid p:=h
theorem Aw{a:World}(h:Below a.heap.size a W)(o:Obj):Below a.heap.size a (W.alloc o):=h.alloc h.size _
theorem below_drewN{B:Nat}{a:World}(h:Below B a w)(n:Nat):Below B a (w.drewN n):=⟨h.os,h.tape,h.output,h.size,h.block⟩
theorem Ag{a:World}(hb:Below W.heap.size W w')(h:Below a.heap.size a W):Below a.heap.size a w':=h.trans (hb.mono h.size)
def Blk(w:World)(g:Nat)(t:TypeId)(cs:Array Value):Prop:=w.heap[g]? =some (.cells cs t (0,0))
section
variable {w w':World} {g:Nat} {t:TypeId} {cs:Array Value}
theorem Blk.lt(h:Blk w g t cs):g<w.heap.size:=by
 rcases Bm g w.heap.size with h' | h'
 ·exact h'
 ·unfold Blk at h;rw[Array.getElem?_eq_none h'] at h;cases h
theorem Blk.cell(h:Blk w g t cs)(i:Nat):w.cell? ⟨g,i,none⟩=cs[i]? :=by unfold Blk at h;simp[World.cell?,h]
theorem Blk.free(h:Blk w g t cs)(i:Nat):w.frozen? ⟨g,i,none⟩=false:=by unfold Blk at h;simp[World.frozen?,h]
theorem Blk.new(w:World)(t:TypeId)(cs:Array Value):Blk (w.alloc (.cells cs t)) w.heap.size t cs:=by
 unfold Blk;show (w.heap.push _)[w.heap.size]? =_;simp
theorem Blk.newAt(w:World)(t:TypeId)(cs:Array Value)(h:g=w.heap.size):Blk (w.alloc (.cells cs t)) g t cs:=h ▸ Blk.new w t cs
theorem Blk.Vh(w:World)(o:Obj)(t:TypeId)(cs:Array Value):Blk ((w.alloc o).alloc (.cells cs t)) (w.heap.size+1) t cs:=by
 have:=Blk.new (w.alloc o) t cs;simpa using this
theorem Blk.alloc(h:Blk w g t cs)(o:Obj):Blk (w.alloc o) g t cs:=(A2 w o g h.lt).trans h
theorem Blk.drewN(h:Blk w g t cs)(n:Nat):Blk (w.drewN n) g t cs:=h
theorem Blk.drew(h:Blk w g t cs):Blk w.drew g t cs:=h
theorem Blk.set(h:Blk w g t cs)(i:Nat)(u:Value):Blk (w.setCell ⟨g,i,none⟩ u) g t (cs.setIfInBounds i u):=by
 unfold Blk at h ⊢;simp[World.setCell,Array.getElem?_modify,h]
theorem Blk.far(h:Blk w g t cs){p:Addr}(hp:g≠p.block)(u:Value):Blk (w.setCell p u) g t cs:=(Ap w p u g hp).trans h
theorem Blk.below{B:Nat}(h:Blk w g t cs)(hb:Below B w w')(hg:g<B):Blk w' g t cs:=(hb.block g hg).trans h
theorem Blk.later(h:Blk w g t cs)(hb:Below w.heap.size w w'):Blk w' g t cs:=h.below hb h.lt
theorem Blk.grown{row:Option Nat}(h:Blk w g t cs)(hb:w.grownBy w' row)(hg:some g≠row):Blk w' g t cs:=(hb.block g h.lt hg).trans h
end
structure AS(w:World) where
 at_:World
 below:Below w.heap.size w at_
instance (w:World):Inhabited (AS w):=⟨⟨w,Below.refl _ _⟩⟩
theorem AS.cell{b:Nat}(h:w.cell? ⟨b,o,none⟩=some v)(s:AS w):s.at_.cell? ⟨b,o,none⟩=some v:=by
 have hlt:=DK w _ h;rw[s.below.cell (p:=⟨b,o,none⟩) hlt];exact h
section
variable {P:Program}
theorem Cm{c:Code}{Q:Exit→Act→World→Prop}{a:Act}(F:World→Prop)(hF:F w)(h:∀W,F W→c.wp P Q a W):c.wp P Q a w:=h w hF
theorem AI{id:Nat}{Q:Exit→Act→World→Prop}{a:Act}{w:World}{l:List Oper}(hm:P.follows .mixedOrders=true)(hB:Region.lexB .any l.toArray=true)
 (h:wpQuiet P l.toArray (fun w'=>∃s:AS w,w'=s.at_) (fun a'=>∀w',(∃s:AS w,w'=s.at_)→Q .normal a' w') l a):(Code.region id l.toArray true).wp P Q a w:=
 wp_region_quiet (C:=fun w'=>∃s:AS w,w'=s.at_) hm hB ⟨⟨w.drew,(Below.refl _ _).drew⟩,rfl⟩ (by simpa using h)
theorem Bv{f:FuncId}{args:Array Value}{w:World}{s:AS w}{v:Value}
 (h:Calls P f args s.at_ fun e w'=>e=.returned v∧Below s.at_.heap.size s.at_ w'):Calls P f args s.at_ fun e w''=>e=.returned v∧∃s':AS w,w''=s'.at_:=
 h.mono fun _ w' ⟨he,hb⟩=>⟨he,⟨w',s.below.trans (hb.mono s.below.size)⟩,rfl⟩
theorem Lo{f:FuncId}{args:Array Value}{w:World}{s:AS w}{v:Value}
 (h:Calls P f args s.at_ fun e w'=>e=.returned v∧s.at_=w'):Calls P f args s.at_ fun e w''=>e=.returned v∧∃s':AS w,w''=s'.at_:=
 h.mono fun _ _ ⟨he,hb⟩=>⟨he,s,hb.symm⟩
end
open Go.RowKit
structure Rp(α:Type) where
 r:(Nat→Prop)→World→List Value→α→Prop
 keep:∀{S:Nat→Prop} {w w':World} {cs:List Value} {x:α},r S w cs x→(∀b,S b→w'.heap[b]? =w.heap[b]?)→r S w' cs x
 mono:∀{S S':Nat→Prop} {w:World} {cs:List Value} {x:α},r S w cs x→(∀b,S b→S' b)→r S' w cs x
def Hb(k:IntKind):Rp Int:=⟨fun _ _ cs n=>cs=[.int k n]∧(Lit.int k n).wf=true,fun h _=>h,fun h _=>h⟩
def UF:Rp UInt8:=⟨fun _ _ cs b=>cs=[.int .u8 (b.toNat:Int)],fun h _=>h,fun h _=>h⟩
def Ek{α β:Type}(A:Rp α)(B:Rp β):Rp (α × β):=
  ⟨fun S w cs x=>∃c d,cs=c++d∧A.r S w c x.1∧B.r S w d x.2,
   fun ⟨c,d,h,h1,h2⟩ hk=>⟨c,d,h,A.keep h1 hk,B.keep h2 hk⟩,fun ⟨c,d,h,h1,h2⟩ hk=>⟨c,d,h,A.mono h1 hk,B.mono h2 hk⟩⟩
def rBy{α β:Type}(f:α→β)(B:Rp β):Rp α:=⟨fun S w cs x=>B.r S w cs (f x),fun h hk=>B.keep h hk,fun h hk=>B.mono h hk⟩
def Vn{α:Type}(sz:Nat)(A:Rp α)(S:Nat→Prop)(w:World)(b off:Nat)(xs:List α):Prop:=
 S b∧∀i x,xs[i]? =some x→∃cs:List Value,cs.length=sz∧(∀j v,cs[j]? =some v→w.cell? ⟨b,off+i*sz+j,none⟩=some v)∧A.r S w cs x
def rSl{α:Type}(sz:Nat)(A:Rp α):Rp (List α):=
  ⟨fun S w cs xs=>∃a c,cs=[.slice a xs.length c]∧xs.length≤c∧c≤maxLen∧(xs=[]∨∃b off,a=some ⟨b,off,none⟩∧Vn sz A S w b off xs),
   fun ⟨a,c,h,h1,h2,h3⟩ hk=>⟨a,c,h,h1,h2,h3.imp id fun ⟨b,off,e,hb,hr⟩=>⟨b,off,e,hb,fun i x hi=>
     let ⟨cs,hl,hc,hA⟩:=hr i x hi
     ⟨cs,hl,fun j v hj=>(Bq (a:=⟨b,off+i*sz+j,none⟩) (hk b hb)).trans (hc j v hj),A.keep hA hk⟩⟩⟩,
   fun ⟨a,c,h,h1,h2,h3⟩ hk=>⟨a,c,h,h1,h2,h3.imp id fun ⟨b,off,e,hb,hr⟩=>⟨b,off,e,hk b hb,fun i x hi=>
     let ⟨cs,hl,hc,hA⟩:=hr i x hi
     ⟨cs,hl,hc,A.mono hA hk⟩⟩⟩⟩
theorem AZ{α:Type}{A:Rp α}{xs:List α}(h:cs=[.slice a xs.length c])(h1:xs.length≤c)(h2:c≤maxLen)
 (h3:xs=[]∨∃b off,a=some ⟨b,off,none⟩∧Vn sz A S w b off xs):(rSl sz A).r S w cs xs:=⟨a,c,h,h1,h2,h3⟩
theorem ON{α:Type}(n:Nat)(Q:Nat→α→Prop)(h:∀i,i<n→∃y,Q i y):∃ys:List α,ys.length=n∧∀i y,ys[i]? =some y→Q i y:=by
 induction n with
 | zero=>exact ⟨[],rfl,fun i y h=>by simp at h⟩
 | succ n ih=>
  obtain⟨ys,h1,h2⟩:=ih fun i hi=>h i zD;obtain⟨y,hy⟩:=h n zD;refine⟨ys++[y],by simp[h1],fun i z hz=> ?_⟩;rcases Bm i ys.length with hi | hi
  ·rw[Bi hi] at hz
   exact h2 i z hz
  ·rw[Bn hi] at hz
   have h0:i-ys.length=0:=by
    rcases Dr (i-ys.length) with h | h
    ·exact h
    ·rw[List.getElem?_eq_none zM] at hz;cases hz
   rw[h0] at hz;simp at hz;subst hz;have:i=n:=zD;subst this;exact hy
theorem Rp.below{α:Type}(A:Rp α){w w':World}{B:Nat}{cs:List Value}{x:α}(h:A.r (·<B) w cs x)(hb:Below B w w'):A.r (·<B) w' cs x:=A.keep h hb.block
section
variable {P:Program}
def Rn(P:Program)(t:TypeId){α:Type}(A:Rp α):Prop:=
 ∀{H:Type} (enc:TypeId × Value→H) (w:World) (fuel:Nat) (cs:List Value) (x:DataW H × List MemPlace),DataW.trod enc P w 0 (fun _=>true) true fuel t cs=some x→∃y,A.r (·<w.heap.size) w cs y
theorem PZ(ht:P.underlying t=some (.int .u8)):Rn P t UF:=fun enc w fuel cs x h=>by
 obtain⟨n,rfl,_,hw⟩:=DataW.trod_int ht h;have:=bounds_u8 hw;refine⟨UInt8.ofNat n.toNat,?_⟩;show _=_
 have e:((UInt8.ofNat n.toNat).toNat:Int)=n:=by
  simp[UInt8.toNat_ofNat'];omega
 rw[e]
theorem T3{a:Addr}{b:Nat}(h:w.cell? (a.add n)=some v):n=0→a.spot=none:=by
 rintro rfl;unfold Addr.add at h;simp only[DE] at h;unfold World.cell? at h;cases hs:a.spot with
 | none=>rfl
 | some s=>
  rw[hs] at h;split at h<;>simp at h
theorem Og{α:Type}{A:Rp α}(ht:P.underlying t=some (.slice e))(hs:P.cellsOf e=sz)(hsz:0<sz)(hA:Rn P e A):Rn P t (rSl sz A):=fun enc w fuel cs x h=>by
 rcases Deep.open_slice ht h with ⟨rfl,rfl⟩ | ⟨a,len,cap,m,n,D,Pl,rfl,hb,hl,hm,hmm,_,hel⟩
 ·exact⟨[],AZ rfl (Aj _) (Ao _) (.inl rfl)⟩
 ·have hlm:len≤m:=by simp at hmm;omega
  rw[hs] at hel;have hy:∀i,i<len→∃y,∃cs':List Value,cs'.length=sz∧(∀j v,cs'[j]? =some v→w.cell? ((a.add (i*sz)).add j)=some v)∧A.r (·<w.heap.size) w cs' y:=by
   intro i hi;obtain⟨cs',hc,ht'⟩:=hel i zD;obtain⟨y,hy⟩:=hA enc w n cs' _ ht';obtain⟨_,h1,h2⟩:=World.cells?_some hc;exact⟨y,cs',h1,fun j v hj=>by
    have hj':j<sz:=by rw[←h1];exact (List.getElem?_eq_some_iff.1 hj).1
    rw[h2 j hj'];exact hj,hy⟩
  by_cases h0:len=0
  ·subst h0
   exact⟨[],AZ rfl (Ao _) hm (.inl rfl)⟩
  have hspot:a.spot=none:=by
   obtain⟨y,cs',h1,h2,_⟩:=hy 0 zD;obtain⟨v,hv⟩:∃v,cs'[0]? =some v:=⟨cs'[0],AQ zD⟩;have:=h2 0 v hv;have e1:(a.add (0*sz)).add 0=a.add 0:=by simp[Addr.add]
   rw[e1] at this;exact T3 (b:=0) this rfl
  obtain⟨ys,hys⟩:∃ys:List α,ys.length=len∧∀i y,ys[i]? =some y→∃cs':List Value,cs'.length=sz∧(∀j v,cs'[j]? =some v→w.cell? ((a.add (i*sz)).add j)=some v)∧A.r (·<w.heap.size) w cs' y:=by
   exact ON len _ hy
  obtain⟨hlen,hys⟩:=hys;refine⟨ys,AZ (a:=some a) (c:=cap) (by rw[hlen]) zD hm (.inr ⟨a.block,a.off,by cases a;simp at hspot;rw[hspot],?_,?_⟩)⟩
  ·obtain⟨y,cs',h1,h2,_⟩:=hy 0 zD
   obtain⟨v,hv⟩:∃v,cs'[0]? =some v:=⟨cs'[0],AQ zD⟩;have:=DK w _ (h2 0 v hv);simpa [Addr.add] using this
  ·intro i y hiy
   obtain⟨cs',h1,h2,h3⟩:=hys i y hiy;refine⟨cs',h1,fun j v hj=> ?_,h3⟩;rw[←h2 j v hj];congr 1
   cases a with
   | mk ab ao asp=>
    simp at hspot;subst hspot;unfold Addr.add;split<;>split<;>simp_all
end
open Go.RowKit
structure BS where
 stream:Int
 backs:List Int
structure Entry where
 links:List BS
 data:List UInt8
structure Batch where
 epoch:Int
 base:Int
 entries:List Entry
structure Seg where
 epoch:Int
 batches:List Batch
def AV:Rp (List Int):=rSl 1 (Hb .u64)
def Ah:Rp (List UInt8):=rSl 1 UF
def Gx:Rp BS:=rBy (fun l=>(l.stream,l.backs)) (Ek (Hb .u64) AV)
def B6:Rp (List BS):=rSl 2 Gx
def PN:Rp Entry:=rBy (fun e=>(e.links,e.data)) (Ek B6 Ah)
def Li:Rp (List Entry):=rSl 2 PN
def GN:Rp Batch:=rBy (fun b=>(b.epoch,b.base,b.entries)) (Ek (Hb .u64) (Ek (Hb .u64) Li))
section
variable {S:Nat→Prop} {w:World} {cs:List Value}
theorem At{α:Type}{A:Rp α}{xs:List α}(h:(rSl sz A).r S w cs xs):∃a c,cs=[.slice a xs.length c]∧(rSl sz A).r S w [.slice a xs.length c] xs∧xs.length≤9223372036854775807:=by
 obtain⟨a,c,rfl,h1,h2,h3⟩:=h;exact⟨a,c,rfl,⟨a,c,rfl,h1,h2,h3⟩,by unfold maxLen at h2;omega⟩
theorem AU{α:Type}{A:Rp α}{xs:List α}(h:(rSl sz A).r S w [.slice a n c] xs):n=xs.length∧xs.length≤9223372036854775807∧n≤c∧c≤9223372036854775807:=by
 obtain⟨a',c',e,h1,h2,h3⟩:=h;simp at e;obtain⟨_,rfl,rfl⟩:=e;exact⟨rfl,by unfold maxLen at h2;omega,h1,h2⟩
theorem Ka{α:Type}{A:Rp α}{xs:List α}(h:(rSl sz A).r S w [.slice a n c] xs)(hi:i<xs.length):
  ∃b off,a=some ⟨b,off,none⟩∧S b∧∃cs:List Value,cs.length=sz∧(∀j v,cs[j]? =some v→w.cell? ⟨b,off+i*sz+j,none⟩=some v)∧A.r S w cs xs[i]:=by
 obtain⟨a',c',e,h1,h2,h3⟩:=h;simp at e;obtain⟨rfl,rfl,rfl⟩:=e;rcases h3 with rfl | ⟨b,off,rfl,hS,hr⟩
 ·simp at hi
 ·obtain⟨cs,hl,hc,hA⟩:=hr i xs[i] (AQ hi)
  exact⟨b,off,rfl,hS,cs,hl,hc,hA⟩
theorem Qg{x:BS}(h:Gx.r S w cs x):∃a c,cs=[.int .u64 x.stream,.slice a x.backs.length c]∧(0≤x.stream∧x.stream≤18446744073709551615)∧AV.r S w [.slice a x.backs.length c] x.backs:=by
 obtain⟨c1,c2,rfl,⟨rfl,hw⟩,h2⟩:=h;obtain⟨a,c,rfl,h3,_⟩:=At h2;exact⟨a,c,rfl,GF hw,h3⟩
theorem EF{n:Int}(h:0≤n∧n≤18446744073709551615):(Lit.int .u64 n).wf=true:=by
 simp[Lit.wf,IntKind.min,IntKind.max,IntKind.signed,IntKind.bits];omega
theorem GS{x:BS}(h0:0≤x.stream∧x.stream≤18446744073709551615)(h:AV.r S w [.slice a n c] x.backs):Gx.r S w [.int .u64 x.stream,.slice a n c] x:=⟨[_],[_],rfl,⟨rfl,EF h0⟩,h⟩
theorem TZ{x:Batch}(h0:0≤x.epoch∧x.epoch≤18446744073709551615)(h1:0≤x.base∧x.base≤18446744073709551615)(h:Li.r S w [v] x.entries):GN.r S w [.int .u64 x.epoch,.int .u64 x.base,v] x:=
 ⟨[_],[_,_],rfl,⟨rfl,EF h0⟩,[_],[_],rfl,⟨rfl,EF h1⟩,h⟩
theorem Ep{xs:List Int}(h:AV.r S w [.slice a n c] xs)(hi:i<xs.length):∃b off,a=some ⟨b,off,none⟩∧S b∧w.cell? ⟨b,off+i,none⟩=some (.int .u64 xs[i])∧0≤xs[i]∧xs[i]≤18446744073709551615:=by
 obtain⟨b,off,e,hS,cs,_,hc,rfl,hw⟩:=Ka h hi;have:=hc 0 _ rfl;rw[Ef,CE] at this;exact⟨b,off,e,hS,this,GF hw⟩
theorem Bt{xs:List UInt8}(h:Ah.r S w [.slice a n c] xs)(hi:i<xs.length):∃b off,a=some ⟨b,off,none⟩∧S b∧w.cell? ⟨b,off+i,none⟩=some (.int .u8 (xs[i].toNat:Int)):=by
 obtain⟨b,off,e,hS,cs,_,hc,rfl⟩:=Ka h hi;have:=hc 0 _ rfl;rw[Ef,CE] at this;exact⟨b,off,e,hS,this⟩
theorem GU{xs:List BS}(h:B6.r S w [.slice a n c] xs)(hi:i<xs.length):∃b off,a=some ⟨b,off,none⟩∧S b∧∃a' c',w.cell? ⟨b,off+i*2,none⟩=some (.int .u64 xs[i].stream)∧w.cell? ⟨b,off+i*2+1,none⟩=some (.slice a' xs[i].backs.length c')∧
  (0≤xs[i].stream∧xs[i].stream≤18446744073709551615)∧AV.r S w [.slice a' xs[i].backs.length c'] xs[i].backs:=by
 obtain⟨b,off,e,hS,cs,_,hc,hA⟩:=Ka h hi;obtain⟨a',c',rfl,h1,h2⟩:=Qg hA;exact⟨b,off,e,hS,a',c',hc 0 _ rfl,hc 1 _ rfl,h1,h2⟩
end
theorem lift{α:Type}{A:Rp α}{x:α}(h:A.r (·<w.heap.size) w cs x)(hb:Below w.heap.size w w'):A.r (·<w'.heap.size) w' cs x:=
 A.mono (A.below h hb) fun b hlt=>Am hlt hb.size
def epR(e:Int):Bool:=decide (1≤e∧e<4611686018427387904)
def poR(e:Int):Bool:=decide (e<4611686018427387904)
def Ev:Int→List Int→Bool
 | _,[]=>true
 | b,x::l=>decide (x<b)&&Ev x l
def Ck:List Int→Bool
 | []=>true
 | [_]=>true
 | x::y::l=>decide (x<y)&&Ck (y::l)
def Ec(pos:Int)(x:BS):Bool:=decide (x.backs.length≤4)&&Ev pos x.backs
def Dz(pos:Int)(l:List BS):Bool:=decide (l.length≤16)&&(Ck (l.map BS.stream)&&l.all (Ec pos))
end Go.Bs
namespace Go.Proofs.YtlbffbkbkajciaaGreat
open Go.RowKit Go.Bs
variable{b:List UInt8}{base c n o off p sz:Nat}{S:Nat → Prop}{a:Option Addr}{e:TypeId}{v:Value}{w:World}
theorem Fm(e:Int)(w:World):Calls Tryz.prog 113 #[.int .u64 e] w fun r w'=>r=.returned (.bool (epR e))∧w=w':=by
 by_cases h1:1≤e
 ·by_cases h2:e<4611686018427387904
  ·have:epR e=true:=by simp[epR,h1,h2]
   rw[this];have d1:decide (1≤e)=true:=zAw;have d2:decide (e<4611686018427387904)=true:=zB3;clear this h1 h2;go_enter Tryz.func113,Tryz.ntmps113;go_wp2;go_ret;exact⟨rfl,rfl⟩
  ·have:epR e=false:=by simp[epR,h2]
   rw[this];have d1:decide (1≤e)=true:=zAw;have d2:decide (e<4611686018427387904)=false:=zB3;clear this h1 h2;go_enter Tryz.func113,Tryz.ntmps113;go_wp2;go_ret;exact⟨rfl,rfl⟩
 ·have:epR e=false:=by simp[epR,h1]
  rw[this];have d1:decide (1≤e)=false:=zAw;clear this h1;go_enter Tryz.func113,Tryz.ntmps113;go_wp2;go_ret;exact⟨rfl,rfl⟩
theorem JU(e:Int)(w:World):Calls Tryz.prog 82 #[.int .u64 e] w fun r w'=>r=.returned (.bool (poR e))∧w=w':=by
 go_enter Tryz.func82,Tryz.ntmps82;go_wp2;go_ret;exact⟨rfl,rfl⟩
theorem Kf(e:Int)(h0:0≤e)(w:World):Calls Tryz.prog 114 #[.int .u64 e] w fun r w'=>r=.returned (.bool (epR e))∧w=w':=by
 by_cases h1:0<e
 ·by_cases h2:e≤4611686018427387903
  ·have:epR e=true:=by simp[epR];omega
   rw[this];have d1:decide (0<e)=true:=zAw;have d2:decide (e≤4611686018427387903)=true:=zB3;clear this h1 h2;go_enter Tryz.func114,Tryz.ntmps114;go_wp2;go_ret;exact⟨rfl,rfl⟩
  ·have:epR e=false:=by simp[epR];omega
   rw[this];have d1:decide (0<e)=true:=zAw;have d2:decide (e≤4611686018427387903)=false:=zB3;clear this h1 h2;go_enter Tryz.func114,Tryz.ntmps114;go_wp2;go_ret;exact⟨rfl,rfl⟩
 ·have:epR e=false:=by simp[epR];omega
  rw[this];have d1:decide (0<e)=false:=zAw;clear this h1;go_enter Tryz.func114,Tryz.ntmps114;go_wp2;go_ret;exact⟨rfl,rfl⟩
theorem Mo(e:Int)(w:World):Calls Tryz.prog 89 #[.int .u64 e] w fun r w'=>r=.returned (.bool (poR e))∧w=w':=by
 have:poR e=decide (e≤4611686018427387903):=by simp only[poR,decide_eq_decide];omega
 rw[this];clear this;go_enter Tryz.func89,Tryz.ntmps89;go_wp2;go_ret;exact⟨rfl,rfl⟩
theorem Oz:(Tryz.prog.info? 22).map (fun i=>(i.zero,i.size,i.bytes))=some (some (.int .u64 0),1,8):=zL
def EH:Int→List Int→List Int
 | _,[]=>[]
 | b,x::l=>(b-x-1)::EH x l
def ahead(b:Int)(l:List Int)(k:Nat):Int:=if k=0 then b else l.getD (k-1) 0
theorem QO(b:Int)(l:List Int)(k:Nat)(h:k<l.length):ahead b l (k+1)=l[k]:=by
 unfold ahead;rw[Ak zD];simp[h]
def T8(below:Int)(l:List Int)(w:World)(e:Ending)(w':World):Prop:=
 ∃v,e=.returned (.tuple #[v,.bool (Ev below l)])∧AV.r (·<w'.heap.size) w' [v] (if Ev below l then EH below l else [])∧Below w.heap.size w w'
theorem Tl{xs:List Int}(h:w.ownsRow base e 1 v xs.length (xs.map (Value.int .u64)))(hb:∀x∈xs,0≤x∧x≤18446744073709551615)(hm:xs.length≤maxLen):AV.r (·<w.heap.size) w [v] xs:=by
 rcases h.2 with ⟨rfl,h0⟩ | ⟨g,cap,cur,rfl,hbg,hg,hn,hc,hcur,hx⟩
 ·have:xs=[]:=AP h0
  subst this;exact AZ rfl (Aj _) (Ao _) (.inl rfl)
 ·refine AZ rfl hn hc (.inr ⟨g,0,rfl,Blk.lt hg,fun i x hi=>⟨[.int .u64 x],rfl,fun j v hj=> ?_,rfl,EF (hb x (List.mem_of_getElem? hi))⟩⟩)
  have hj0:j=0:=by
   rcases j with _ | j
   ·rfl
   ·simp at hj
  subst hj0;simp at hj;subst hj;have hi':i<xs.length:=(List.getElem?_eq_some_iff.1 hi).1;rw[Cb,Ef,CE,Blk.cell hg i];have e1:cur[i]? =(cur.toList.take (xs.length*1))[i]? :=by
   rw[CK,An zD];simp
  rw[e1,hx,JA,hi];rfl
theorem Rx(below:Int)(l:List Int)(a:Option Addr)(n c:Nat)(w:World)(hb0:0≤below∧below≤18446744073709551615)(hl:AV.r (·<w.heap.size) w [.slice a n c] l)(hlen:l.length≤1000000000000):
  Calls Tryz.prog 215 #[.int .u64 below,.slice a n c] w (T8 below l w):=by
 obtain⟨rfl,hm,_,_⟩:=AU hl;obtain⟨i0,hi,hz0,hz1,hz2⟩:=Bc Oz;have HL:=hid hl;clear hl;go_enter Tryz.func215,Tryz.ntmps215;go_wp2;go_loopw [0,6,11] (fun b v i wr=>∃k:Nat,k≤l.length∧i=.int .i64 k∧b=.int .u64 (ahead below l k)∧0≤ahead below l k∧ahead below l k≤18446744073709551615∧Hid (Ev below l=Ev (ahead below l k) (l.drop k))∧
   (∃xs:List Int,Hid (xs.length=k∧(∀x∈xs,0≤x∧x≤18446744073709551615)∧EH below l=xs++EH (ahead below l k) (l.drop k))∧wr.ownsRow w.heap.size 22 1 v k (xs.map (Value.int .u64)))∧Below w.heap.size w wr) (fun _ _ i _=>l.length-(intOf i).toNat)
 case atStart=>exact ⟨0,Ao _,rfl,rfl,hb0.1,hb0.2,hid rfl,⟨[],hid ⟨rfl,zP,rfl⟩,⟨rfl,.inl ⟨rfl,rfl⟩⟩⟩,Below.refl _ _⟩
 case round=>
  obtain⟨k,hk,rfl,rfl,ha0,ha1,hf,⟨xs,hxs,hown⟩,hb⟩:=hrel;by_cases hlt:k<l.length
  ·obtain⟨b,o,hA,hbb,hc,hx0,hx1⟩:=Ep HL.out hlt
   subst hA;have q:=(hb.cell (p:=⟨b,o+k,none⟩) hbb).trans hc;clear hc;have hd:=hid (AO hlt);have hsu:=hid (QO below l k hlt);generalize hlk:l[k]=x at*;clear hlk;generalize ahead below l k=p at*;by_cases hge:p≤x
   ·have hff:Hid (Ev below l=false):=by
     rw[hf.out,hd.out];exact hid (by simp[Ev];omega)
    go_wp2;go_ret2
    exact⟨.slice none 0 0,zQ,by rw[hff.out];exact AZ rfl (Aj _) (Ao _) (.inl rfl),hb⟩
   ·have hbs:=hb.size
    have w1:0≤p-x:=zD;have w2:0≤p-x-1:=zD;go_wp2_with (at_builtin;refine wpList_append_lies _ rfl _ _ _ rfl w.heap.size 22 i0 (.int .u64 0) 1 8 DN hi hz0 hz1 hz2 rfl zS _ k _ rfl (hown.alloc _) ⟨wr.heap.size,0,none⟩ 1 1 [.int .u64 (p-x-1)] rfl rfl (World.news_of_block (Blk.new _ _ _)) zAf zS zR zD zM _ rfl ?_;intro g1 cap1 w1' hown1 hgrow1 hat1 hlt1)
    go_roundw
    case rel=>
     refine⟨k+1,zD,zZ,by rw[hsu.out],by rw[hsu.out];exact hx0,by rw[hsu.out];exact hx1,?_,⟨xs++[p-x-1],?_,?_⟩,?_⟩
     ·rw[hf.out,hd.out,hsu.out]
      exact hid (by simp only[Ev];rw[Ae (by omega)];rfl)
     ·refine hid ⟨by simp[hxs.out.1],?_,?_⟩
      ·intro y hy
       rw[Ci,Bw] at hy;rcases hy with hy | rfl
       ·exact hxs.out.2.1 y hy
       ·omega
      ·rw[hsu.out,hxs.out.2.2,hd.out]
       simp[EH]
     ·rw[List.map_append];exact hown1
     ·refine Below.grown ?_ hgrow1 zM (fun g e=>(hown.lt g e).1)
      exact hb.alloc hbs _
    case measure=>simp [intOf];omega
  ·obtain rfl:k=l.length:=by omega
   have hff:Hid (Ev below l=true):=by
    rw[hf.out,KH];exact hid rfl
   have hxl:=hxs.out.1;have hst:Hid (EH below l=xs):=hid (by rw[hxs.out.2.2,KH];simp[EH]);have hv:AV.r (·<wr.heap.size) wr [u6] xs:=Tl (by rw[hxl];exact hown) hxs.out.2.1 (by unfold maxLen;omega);have HV:=hid hv;clear hv hxl;go_wp2;go_ret2
   exact⟨u6,zQ,by rw[hff.out,An rfl,hst.out];exact HV.out,hb⟩
theorem OL(below:Int)(l:List Int)(a:Option Addr)(n c:Nat)(w:World)(hb0:0≤below∧below≤18446744073709551615)(hl:AV.r (·<w.heap.size) w [.slice a n c] l)(hlen:l.length≤1000000000000):
  Calls Tryz.prog 159 #[.int .u64 below,.slice a n c] w fun r w'=>r=.returned (.bool (Ev below l))∧Below w.heap.size w w':=by
 have HL:=hid hl;clear hl;go_enter Tryz.func159,Tryz.ntmps159;go_wp2_with fail;refine (Rx below l a n c _ hb0 HL.out hlen).mono ?_;rintro e w1 ⟨v,rfl,_,hb1⟩;go_wp2;go_ret;exact⟨rfl,hb1⟩
end Go.Proofs.YtlbffbkbkajciaaGreat
namespace Go.Bs
open Go.RowKit
variable{cells:List (List Value)}{b l:List UInt8}{cs xs:List Value}{base c g i lo n o off p size sz:Nat}{S:Nat → Prop}{a:Option Addr}{e t:TypeId}{v:Value}{W w w':World}
deriving instance DecidableEq for BS,Entry,Batch,Seg
theorem Io{P:Program}(src dst e:TypeId)(hs:P.underlying src=some (.slice e))(he:P.underlying e=some (.int .u8))(hd:P.underlying dst=some .string)
 (h:Ah.r S w [.slice a n c] l):(convert src dst (.slice a l.length c)).run P w=.ok (.string ⟨l.toArray⟩) w:=by
 obtain⟨rfl,_,_,_⟩:=AU h;rcases a with _ | ad
 ·have h0:l=[]:=by
   rcases l with _ | ⟨x,l⟩
   ·rfl
   ·obtain⟨b,off,e,_⟩:=Bt h (i:=0) zP
    cases e
  subst h0;exact run_convert_bytes_nil w src e hs he _ _ dst hd
 ·refine run_convert_bytes_back w src dst e ad c l hs he hd fun j hj=> ?_
  obtain⟨b,off,e,_,hc⟩:=Bt h hj;simp at e;subst e;rw[←hc];congr 1
  unfold Addr.add;split
  ·rename_i h0;subst h0;rfl
  ·rfl
end Go.Bs
namespace Go.Proofs.YtlbffbkbkajciaaGreat
open Go.RowKit Go.Bs
variable{b:List UInt8}{base c n o off p sz:Nat}{S:Nat → Prop}{a:Option Addr}{e:TypeId}{v:Value}{w:World}
theorem GL(x y:List UInt8)(a a':Option Addr)(n c n' c':Nat)(w:World)(hx:Ah.r (·<w.heap.size) w [.slice a n c] x)(hy:Ah.r (·<w.heap.size) w [.slice a' n' c'] y):
  Calls Tryz.prog 18 #[.slice a n c,.slice a' n' c'] w fun r w'=>r=.returned (.bool (decide (x=y)))∧w=w':=by
 obtain⟨rfl,_,_,_⟩:=AU hx;obtain⟨rfl,_,_,_⟩:=AU hy;have h1:=Io (P:=Tryz.prog) 25 9 5 AK Tryz.underlying5 Tryz.underlying9 hx;have h2:=Io (P:=Tryz.prog) 25 9 5 AK Tryz.underlying5 Tryz.underlying9 hy;have he:(x==y)=decide (x=y):=by
  by_cases h:x=y
  ·simp[h]
  ·simp[h]
 have HE:=hid he;clear he hx hy;go_enter Tryz.func18,Tryz.ntmps18;go_wp2;go_ret;refine⟨?_,rfl⟩;rw[←HE.out];simp[go_sem]
theorem FA{α:Type}[DecidableEq α](x y:List α)(k:Nat)(hx:k<x.length)(hy:k<y.length):decide (x.drop k=y.drop k)=(decide (x[k]=y[k])&&decide (x.drop (k+1)=y.drop (k+1))):=by
 rw[AO hx,AO hy,ED,decide_eq_true_iff,AL,decide_eq_true_iff,decide_eq_true_iff,Ai]
theorem JF(x y:List Int)(a a':Option Addr)(n c n' c':Nat)(w:World)(hx:AV.r (·<w.heap.size) w [.slice a n c] x)(hy:AV.r (·<w.heap.size) w [.slice a' n' c'] y):
  Calls Tryz.prog 99 #[.slice a n c,.slice a' n' c'] w fun r w'=>r=.returned (.bool (decide (x=y)))∧Below w.heap.size w w':=by
 obtain⟨rfl,hm,_,_⟩:=AU hx;obtain⟨rfl,hm',_,_⟩:=AU hy;by_cases hl:x.length=y.length
 ·have HX:=hid hx;clear hx
  have HY:=hid hy;clear hy;have HL:=hid hl;have e1:((x.length:Int) !=(y.length:Int))=false:=by simp[hl]
  clear hl;go_enter Tryz.func99,Tryz.ntmps99;go_wp2;go_loopw [5] (fun i wr=>∃k:Nat,k≤x.length∧i=.int .i64 k∧Hid (decide (x=y)=decide (x.drop k=y.drop k))∧Below w.heap.size w wr) (fun i _=>x.length-(intOf i).toNat)
  case atStart=>exact ⟨0,Ao _,rfl,hid rfl,Below.refl _ _⟩
  case round=>
   obtain⟨k,hk,rfl,hf,hb⟩:=hrel;by_cases hlt:k<x.length
   ·have hlt':k<y.length:=by rw[←HL.out];exact hlt
    obtain⟨b,o,hA,hbb,hc,_,_⟩:=Ep HX.out hlt;obtain⟨b',o',hA',hbb',hc',_,_⟩:=Ep HY.out hlt';have hst:=hid (FA x y k hlt hlt');subst hA hA';have X0:=fun s:AS wr=>s.cell ((hb.cell (p:=⟨b,o+k,none⟩) hbb).trans hc);have X1:=fun s:AS wr=>s.cell ((hb.cell (p:=⟨b',o'+k,none⟩) hbb').trans hc');clear hc hc';generalize hlk:x[k]=u at*;generalize hlm:y[k]=v at*;clear hlk hlm;have i0:(0:Int)≤(k:Int):=zD;have i1:(k:Int)<(x.length:Int):=zD;have i2:(k:Int)<(y.length:Int):=zD;by_cases huv:u=v
    ·have d1:(u !=v)=false:=by simp[huv]
     have hst':Hid (decide (x.drop k=y.drop k)=decide (x.drop (k+1)=y.drop (k+1))):=hid zB4;clear huv;go_wp2_with fail;refine AI zL zL ?_;repeat (go_big_quiet_step (fail))
     refine A8 ?_;rintro W5 ⟨⟨W5',hb5⟩,rfl⟩;go_wp2;go_roundw
     case rel=>exact ⟨k+1,zD,zZ,hid zBb,Ag hb5 hb⟩
     case measure=>simp [intOf];omega
    ·have d1:(u !=v)=true:=by simp[huv]
     have hff:Hid (decide (x=y)=false):=hid zBl;clear huv;go_wp2_with fail;refine AI zL zL ?_;repeat (go_big_quiet_step (fail))
     refine A8 ?_;rintro W5 ⟨⟨W5',hb5⟩,rfl⟩;go_wp2;go_ret;exact⟨zQ,Ag hb5 hb⟩
   ·obtain rfl:k=x.length:=by omega
    have hff:Hid (decide (x=y)=true):=hid ZN;go_wp2;go_ret;exact⟨zQ,hb⟩
 ·have hff:Hid (decide (x=y)=false):=hid (by simp;rintro rfl;exact hl rfl)
  have e1:((x.length:Int) !=(y.length:Int))=true:=zM;clear hl hx hy;go_enter Tryz.func99,Tryz.ntmps99;go_wp2;go_ret;exact⟨zQ,Below.refl _ _⟩
def Ea(l:List Int)(k:Nat):Bool:=if k=0 then Ck l else Ck (l.drop (k-1))
theorem Kd(l:List Int):Ea l 1=Ea l 0:=by simp[Ea]
theorem I8(l:List Int)(m:Nat)(h:m+1<l.length):Ea l (m+1)=(decide (l[m]<l[m+1])&&Ea l (m+2)):=by
 have e1:l.drop m=l[m]::l[m+1]::l.drop (m+2):=by
  rw[AO (show m<l.length by omega),AO h]
 have e2:l.drop (m+1)=l[m+1]::l.drop (m+2):=AO h;show Ck (l.drop m)=(_&&Ck (l.drop (m+1)))
 rw[e1,e2];rfl
theorem Ke(l:List Int):Ea l l.length=true:=by
 unfold Ea;split
 ·rename_i h;rw[AP h];rfl
 ·rename_i h
  have e:l.drop (l.length-1)=[l[l.length-1]]:=by
   rw[AO (show l.length-1<l.length by omega),List.drop_of_length_le zD]
  rw[e];rfl
theorem Kn(s:Int)(v:Value)(h1:v.oneCell'=true)(w:World):Calls Tryz.prog 157 #[.agg #[.int .u64 s,v]] w fun r w'=>r=.returned (.int .u64 s)∧Below w.heap.size w w':=by
 go_enter Tryz.func157,Tryz.ntmps157;go_wp2;go_ret;exact⟨rfl,zC⟩
theorem Qd(l:List BS)(a:Option Addr)(n c:Nat)(w:World)(hl:B6.r (·<w.heap.size) w [.slice a n c] l):
  Calls Tryz.prog 156 #[.slice a n c,.func (.func 157) #[] #[]] w fun r w'=>r=.returned (.bool (Ck (l.map BS.stream)))∧Below w.heap.size w w':=by
 obtain⟨rfl,hm,_,_⟩:=AU hl;have HL:=hid hl;clear hl;go_enter Tryz.func156,Tryz.ntmps156;go_wp2;go_loopw [8] (fun i wr=>∃k:Nat,k≤l.length∧i=.int .i64 k∧Hid (Ck (l.map BS.stream)=Ea (l.map BS.stream) k)∧Below w.heap.size w wr) (fun i _=>l.length-(intOf i).toNat)
 case atStart=>exact ⟨0,Ao _,rfl,hid rfl,Below.refl _ _⟩
 case round=>
  obtain⟨k,hk,rfl,hf,hb⟩:=hrel;by_cases hlt:k<l.length
  ·obtain⟨b,o,hA,hbb,a1,c1,hc0,hc1,_,_⟩:=GU HL.out hlt
   have hlt':(k:Int)<(l.length:Int):=zD;rcases k with _ | m
   ·have h1:=hid (Kd (l.map BS.stream))
    go_wp2_with fail;refine AI zL zL ?_;repeat (go_big_quiet_step (fail))
    refine A8 ?_;rintro W5 ⟨⟨W5',hb5⟩,rfl⟩;go_wp2;go_roundw
    case rel=>exact ⟨1,zD,rfl,hid (by rw[hf.out,h1.out]),Ag hb5 hb⟩
    case measure=>simp [intOf];omega
   ·obtain⟨b',o',hA',hbb',a2,c2,hd0,hd1,_,_⟩:=GU HL.out (show m<l.length by omega)
    have hst:=hid (I8 (l.map BS.stream) m (by simpa using hlt));subst hA;obtain⟨rfl,rfl⟩:b'=b∧o'=o:=by simp at hA';exact⟨hA'.1.symm,hA'.2.symm⟩
    clear hA';have X0:=fun s:AS wr=>s.cell ((hb.cell (p:=⟨b',o'+(m+1)*2,none⟩) hbb).trans hc0);have X1:=fun s:AS wr=>s.cell ((hb.cell (p:=⟨b',o'+(m+1)*2+1,none⟩) hbb).trans hc1);have Y0:=fun s:AS wr=>s.cell ((hb.cell (p:=⟨b',o'+m*2,none⟩) hbb).trans hd0);have Y1:=fun s:AS wr=>s.cell ((hb.cell (p:=⟨b',o'+m*2+1,none⟩) hbb).trans hd1);clear hc0 hc1 hd0 hd1;simp only[List.getElem_map] at hst;generalize l[m+1].stream=x at*;generalize l[m].stream=y at*;generalize l[m+1].backs.length=n1 at*;generalize l[m].backs.length=n2 at*;rw[show ((m+1:Nat):Int)=(m:Int)+1 from zD];have k1:(0:Int)<(m:Int)+1:=zD;have k2:(0:Int)≤(m:Int)+1-1:=zD;have k3:(m:Int)+1<(l.length:Int):=zD;have k4:(m:Int)<(l.length:Int):=zD;by_cases hge:x≤y
    ·have d1:decide (x≤y)=true:=by simpa using hge
     have hff:Hid (Ck (l.map BS.stream)=false):=hid (by rw[hf.out,hst.out];simp;omega);clear hge;go_wp2_with fail;refine AI zL zL ?_;repeat (go_big_quiet_step (((go_at_call 157;exact Bv (Kn _ _ rfl _)))))
     refine A8 ?_;rintro W5 ⟨⟨W5',hb5⟩,rfl⟩;go_wp2;go_ret;exact⟨zQ,Ag hb5 hb⟩
    ·have d1:decide (x≤y)=false:=by simpa using hge
     have hst':Hid (Ea (l.map BS.stream) (m+1)=Ea (l.map BS.stream) (m+2)):=hid (by rw[hst.out,Ae (by omega)];rfl);clear hge;go_wp2_with fail;refine AI zL zL ?_;repeat (go_big_quiet_step (((go_at_call 157;exact Bv (Kn _ _ rfl _)))))
     refine A8 ?_;rintro W5 ⟨⟨W5',hb5⟩,rfl⟩;go_wp2;go_roundw
     case rel=>exact ⟨m+2,zD,zZ,hid zBb,Ag hb5 hb⟩
     case measure=>simp [intOf];omega
  ·obtain rfl:k=l.length:=by omega
   have hff:Hid (Ck (l.map BS.stream)=true):=hid (by
    have:=Ke (l.map BS.stream);rw[List.length_map] at this;rw[hf.out,this])
   go_wp2;go_ret;exact⟨zQ,hb⟩
theorem Qc(pos:Int)(x:BS)(a:Option Addr)(n c:Nat)(blk:Nat)(w:World)(hpos:0≤pos∧pos≤18446744073709551615)(hx:AV.r (·<w.heap.size) w [.slice a n c] x.backs)(hlen:x.backs.length≤1000000000000)
 (hc:w.cell? ⟨blk,0,none⟩=some (.int .u64 pos)):
  Calls Tryz.prog 158 #[.agg #[.int .u64 x.stream,.slice a n c],.pointer (some ⟨blk,0,none⟩)] w fun r w'=>r=.returned (.bool (!Ec pos x))∧Below w.heap.size w w':=by
 obtain⟨rfl,hm,_,_⟩:=AU hx;have hlt:=DK w _ hc;have X0:=(AS.mk _ ((Below.refl w.heap.size w).alloc (Aj _) (.cells #[.int .u64 x.stream,.slice a x.backs.length c] 151))).cell hc;by_cases h4:4<x.backs.length
 ·have hff:Ec pos x=false:=by simp[Ec];omega
  rw[hff];clear hff hx hc;go_enter Tryz.func158,Tryz.ntmps158;go_wp2;go_ret;exact⟨rfl,zC⟩
 ·have hff:Ec pos x=Ev pos x.backs:=by simp only[Ec];rw[Ae zD];rfl
  rw[hff];have d4:decide (4<(x.backs.length:Int))=false:=zM;have HX:=hid hx;clear hx hff;go_enter Tryz.func158,Tryz.ntmps158;go_wp2_with fail;refine (OL pos x.backs _ _ _ _ hpos (lift HX.out zC) hlen).mono ?_;rintro e w1 ⟨rfl,hb1⟩;go_wp2;go_ret;exact⟨rfl,zC⟩
theorem K0{α:Type}(p:α→Bool)(l:List α)(k:Nat)(h:k<l.length):(l.drop k).takeWhile p=if p l[k] then l[k]::(l.drop (k+1)).takeWhile p else []:=by
 rw[AO h,List.takeWhile_cons]
theorem LU{α:Type}(p:α→Bool)(l:List α):decide ((l.takeWhile p).length=l.length)=l.all p:=by
 induction l with
 | nil=>rfl
 | cons x l ih=>
  rw[List.takeWhile_cons,List.all_cons];cases h:p x
  ·simp
  ·simp only[DE,Bo,Nat.add_right_cancel_iff,Cw];exact ih
theorem Qf(pos:Int)(l:List BS)(a:Option Addr)(n c:Nat)(blk:Nat)(w:World)(hpos:0≤pos∧pos≤18446744073709551615)(hl:B6.r (·<w.heap.size) w [.slice a n c] l)(hbk:∀x∈l,x.backs.length≤1000000000000)
 (hc:w.cell? ⟨blk,0,none⟩=some (.int .u64 pos)):
  Calls Tryz.prog 160 #[.slice a n c,.func (.func 158) #[] #[.pointer (some ⟨blk,0,none⟩)]] w fun r w'=>r=.returned (.int .i64 ((l.takeWhile (Ec pos)).length:Nat))∧Below w.heap.size w w':=by
 obtain⟨rfl,hm,_,_⟩:=AU hl;have HL:=hid hl;clear hl;have HB:=hid hbk;clear hbk;have hblk:=DK w _ hc;have HC:=hid hc;clear hc;go_enter Tryz.func160,Tryz.ntmps160;go_wp2;go_loopw [9] (fun i wr=>∃k:Nat,k≤l.length∧i=.int .i64 k∧Hid ((l.takeWhile (Ec pos)).length=k+((l.drop k).takeWhile (Ec pos)).length)∧Below w.heap.size w wr) (fun i _=>l.length-(intOf i).toNat)
 case atStart=>exact ⟨0,Ao _,rfl,hid zP,Below.refl _ _⟩
 case round=>
  obtain⟨k,hk,rfl,hf,hb⟩:=hrel;by_cases hlt:k<l.length
  ·obtain⟨b,o,hA,hbb,a1,c1,hc0,hc1,_,hbs⟩:=GU HL.out hlt
   subst hA;have X0:=(hb.cell (p:=⟨b,o+k*2,none⟩) hbb).trans hc0;have X1:=(hb.cell (p:=⟨b,o+k*2+1,none⟩) hbb).trans hc1;clear hc0 hc1;have hbl:=HB.out _ (Da hlt);have hst:=hid (K0 (Ec pos) l k hlt);have HBS:=hid hbs;clear hbs;generalize hlk:l[k]=x at*;clear hlk;have hzz:=hb.size;go_wp2_with fail;refine (Qc pos x _ _ _ blk _ hpos (lift HBS.out zC) hbl ?_).mono ?_
   ·have:=(AS.mk wr hb).cell HC.out
    exact (AS.mk _ ((Below.refl wr.heap.size wr).alloc (Aj _) _)).cell this
   rintro e w1 ⟨rfl,hb1⟩;have hb2:Below w.heap.size w w1:=zC;cases hr:Ec pos x
   ·have hff:Hid ((l.takeWhile (Ec pos)).length=k):=hid (by rw[hf.out,hst.out,hr];simp)
    clear hr;go_wp2;go_ret;exact⟨zQ,hb2⟩
   ·have hff:Hid ((l.takeWhile (Ec pos)).length=(k+1)+((l.drop (k+1)).takeWhile (Ec pos)).length):=hid (by rw[hf.out,hst.out,hr];simp;omega)
    clear hr;go_wp2;go_roundw
    case rel=>exact ⟨k+1,zD,zZ,hff,hb2⟩
    case measure=>simp [intOf];omega
  ·obtain rfl:k=l.length:=by omega
   have hff:Hid ((l.takeWhile (Ec pos)).length=l.length):=hid (by rw[hf.out,KH];simp);go_wp2;go_ret;exact⟨zQ,hb⟩
theorem Qe(pos:Int)(l:List BS)(a:Option Addr)(n c:Nat)(w:World)(hpos:0≤pos∧pos≤18446744073709551615)(hl:B6.r (·<w.heap.size) w [.slice a n c] l)(hbk:∀x∈l,x.backs.length≤1000000000000):
  Calls Tryz.prog 85 #[.int .u64 pos,.slice a n c] w fun r w'=>r=.returned (.bool (Dz pos l))∧Below w.heap.size w w':=by
 obtain⟨rfl,hm,_,_⟩:=AU hl;have HL:=hid hl;clear hl;have HB:=hid hbk;clear hbk;by_cases h16:16<l.length
 ·have hff:Hid (Dz pos l=false):=hid (by simp[Dz];omega)
  go_enter Tryz.func85,Tryz.ntmps85;go_wp2;go_ret;exact⟨zQ,zC⟩
 ·have hff:Hid (Dz pos l=(Ck (l.map BS.stream)&&l.all (Ec pos))):=hid (by simp only[Dz];rw[Ae (by omega)];rfl)
  have hta:=hid (LU (Ec pos) l);go_enter Tryz.func85,Tryz.ntmps85;go_wp2_with fail;refine (Qd l _ _ _ _ (lift HL.out zC)).mono ?_;rintro e w1 ⟨rfl,hb1⟩;have hb2:Below w.heap.size w w1:=zC;cases hr:Ck (l.map BS.stream)
  ·have hf2:Hid (Dz pos l=false):=hid (by rw[hff.out,hr];rfl)
   clear hr;go_wp2;go_ret;exact⟨by rw[hf2.out];rfl,hb2⟩
  ·have hf2:Hid (Dz pos l=l.all (Ec pos)):=hid (by rw[hff.out,hr];rfl)
   clear hr;go_wp2_with fail;refine (Qf pos l _ _ _ w.heap.size _ hpos (lift HL.out hb2) HB.out ?_).mono ?_
   ·exact (AS.mk w1 hb1).cell zCu
   rintro e w3 ⟨rfl,hb3⟩;have hlt:=(List.takeWhile_sublist (l:=l) (Ec pos)).length_le;generalize hg:(l.takeWhile (Ec pos)).length=t at*;have hg':=hid hg;clear hg;go_wp2;go_ret;refine⟨?_,zC⟩;rw[hf2.out,←hta.out];by_cases h:t=l.length
   ·subst h;simp
   ·have:¬((t:Int)=(l.length:Int)):=by omega
    simp[h,this]
theorem RI(x y:BS)(a a':Option Addr)(n c n' c':Nat)(w:World)(hx:AV.r (·<w.heap.size) w [.slice a n c] x.backs)(hy:AV.r (·<w.heap.size) w [.slice a' n' c'] y.backs):
  Calls Tryz.prog 169 #[.agg #[.int .u64 x.stream,.slice a n c],.agg #[.int .u64 y.stream,.slice a' n' c']] w fun r w'=>r=.returned (.bool (decide (x=y)))∧Below w.heap.size w w':=by
 have he:decide (x=y)=(decide (x.stream=y.stream)&&decide (x.backs=y.backs)):=by
  rw[ED];cases x;cases y;simp
 have HE:=hid he;clear he;have HX:=hid hx;clear hx;have HY:=hid hy;clear hy;by_cases h:x.stream=y.stream
 ·have e1:(x.stream==y.stream)=true:=by simp[h]
  have hff:Hid (decide (x=y)=decide (x.backs=y.backs)):=hid (by rw[HE.out];simp[h]);clear h;go_enter Tryz.func169,Tryz.ntmps169;go_wp2_with fail;refine (JF x.backs y.backs _ _ _ _ _ _ _ (lift HX.out zC) (lift HY.out zC)).mono ?_;rintro e w1 ⟨rfl,hb1⟩;go_wp2;go_ret;exact⟨zQ,zC⟩
 ·have e1:(x.stream==y.stream)=false:=by simp[h]
  have hff:Hid (decide (x=y)=false):=hid (by rw[HE.out];simp[h]);clear h;go_enter Tryz.func169,Tryz.ntmps169;go_wp2;go_ret;exact⟨zQ,zC⟩
theorem Pw(x y:List BS)(a a':Option Addr)(n c n' c':Nat)(w:World)(hx:B6.r (·<w.heap.size) w [.slice a n c] x)(hy:B6.r (·<w.heap.size) w [.slice a' n' c'] y):
  Calls Tryz.prog 100 #[.slice a n c,.slice a' n' c'] w fun r w'=>r=.returned (.bool (decide (x=y)))∧Below w.heap.size w w':=by
 obtain⟨rfl,hm,_,_⟩:=AU hx;obtain⟨rfl,hm',_,_⟩:=AU hy;by_cases hl:x.length=y.length
 ·have HX:=hid hx;clear hx
  have HY:=hid hy;clear hy;have HL:=hid hl;have e1:((x.length:Int) !=(y.length:Int))=false:=by simp[hl]
  clear hl;go_enter Tryz.func100,Tryz.ntmps100;go_wp2;go_loopw [5] (fun i wr=>∃k:Nat,k≤x.length∧i=.int .i64 k∧Hid (decide (x=y)=decide (x.drop k=y.drop k))∧Below w.heap.size w wr) (fun i _=>x.length-(intOf i).toNat)
  case atStart=>exact ⟨0,Ao _,rfl,hid rfl,Below.refl _ _⟩
  case round=>
   obtain⟨k,hk,rfl,hf,hb⟩:=hrel;by_cases hlt:k<x.length
   ·have hlt':k<y.length:=by rw[←HL.out];exact hlt
    obtain⟨b,o,hA,hbb,a1,c1,hc0,hc1,_,hr1⟩:=GU HX.out hlt;obtain⟨b',o',hA',hbb',a2,c2,hd0,hd1,_,hr2⟩:=GU HY.out hlt';have hst:=hid (FA x y k hlt hlt');subst hA hA';have X0:=fun s:AS wr=>s.cell ((hb.cell (p:=⟨b,o+k*2,none⟩) hbb).trans hc0);have X1:=fun s:AS wr=>s.cell ((hb.cell (p:=⟨b,o+k*2+1,none⟩) hbb).trans hc1);have Y0:=fun s:AS wr=>s.cell ((hb.cell (p:=⟨b',o'+k*2,none⟩) hbb').trans hd0);have Y1:=fun s:AS wr=>s.cell ((hb.cell (p:=⟨b',o'+k*2+1,none⟩) hbb').trans hd1);clear hc0 hc1 hd0 hd1;generalize hlk:x[k]=u at*;generalize hlm:y[k]=v at*;clear hlk hlm;have hs1:=hid (lift hr1 hb);have hs2:=hid (lift hr2 hb);clear hr1 hr2;have hO:=fun s:AS wr=>RI u v a1 a2 _ c1 _ c2 s.at_ (lift hs1.out s.below) (lift hs2.out s.below);have i0:(0:Int)≤(k:Int):=zD;have i1:(k:Int)<(x.length:Int):=zD;have i2:(k:Int)<(y.length:Int):=zD;by_cases huv:u=v
    ·rw[Ae huv] at hO
     have HO:=hid hO;clear hO;have hst':Hid (decide (x.drop k=y.drop k)=decide (x.drop (k+1)=y.drop (k+1))):=hid zB4;clear huv;go_wp2_with fail;refine AI zL zL ?_;repeat (go_big_quiet_step (((go_at_call 169;exact Bv (HO.out _)))))
     refine A8 ?_;rintro W5 ⟨⟨W5',hb5⟩,rfl⟩;go_wp2;go_roundw
     case rel=>exact ⟨k+1,zD,zZ,hid zBb,Ag hb5 hb⟩
     case measure=>simp [intOf];omega
    ·rw[Ad huv] at hO
     have HO:=hid hO;clear hO;have hff:Hid (decide (x=y)=false):=hid zBl;clear huv;go_wp2_with fail;refine AI zL zL ?_;repeat (go_big_quiet_step (((go_at_call 169;exact Bv (HO.out _)))))
     refine A8 ?_;rintro W5 ⟨⟨W5',hb5⟩,rfl⟩;go_wp2;go_ret;exact⟨zQ,Ag hb5 hb⟩
   ·obtain rfl:k=x.length:=by omega
    have hff:Hid (decide (x=y)=true):=hid ZN;go_wp2;go_ret;exact⟨zQ,hb⟩
 ·have hff:Hid (decide (x=y)=false):=hid (by simp;rintro rfl;exact hl rfl)
  have e1:((x.length:Int) !=(y.length:Int))=true:=zM;clear hl hx hy;go_enter Tryz.func100,Tryz.ntmps100;go_wp2;go_ret;exact⟨zQ,Below.refl _ _⟩
end Go.Proofs.YtlbffbkbkajciaaGreat
namespace Go.Bs
open Go.RowKit
variable{cells:List (List Value)}{b l:List UInt8}{cs xs:List Value}{base c g i lo n o off p size sz:Nat}{S:Nat → Prop}{a:Option Addr}{e t:TypeId}{v:Value}{W w w':World}
section
variable {P:Program} {w:World}
def Src(w:World)(A:Option Addr)(m sz:Nat)(news:List Value):Prop:=
 news.length=m*sz∧(m=0∨∃b o,A=some ⟨b,o,none⟩∧∀j u,news[j]? =some u→w.cell? ⟨b,o+j,none⟩=some u)
theorem I3(base:Nat)(t ty e:TypeId)(i:TypeInfo)(size:Nat)(ht:P.underlying t=some (.slice e))(hi:P.info? e=some i)
 (v:Value) (n:Nat) (xs:List Value) (hown:w.ownsRow base e size v n xs) (c:Nat):(Builtin.append_ #[t,t] ty #[v,.slice none 0 c]).run P w=.ok v w:=by
 rcases hown.2 with ⟨rfl,rfl⟩ | ⟨g,cap,cur,rfl,_,_,hnc,_⟩
 ·simp[Builtin.append_,run_underlying ht,sizeOf,typeInfo,hi,Builtin.lenOf,Builtin.firstCells]
 ·simp[Builtin.append_,run_underlying ht,sizeOf,typeInfo,hi,Builtin.lenOf,Builtin.firstCells,hnc,storeCells]
theorem add_plain(b o j:Nat):(⟨b,o,none⟩:Addr).add j=⟨b,o+j,none⟩:=by
 unfold Addr.add;split
 ·rename_i h;subst h;rfl
 ·rfl
theorem Hl(base:Nat)(t ty e:TypeId)(i:TypeInfo)(z:Value)(size bytes:Nat)(ht:P.underlying t=some (.slice e))(hi:P.info? e=some i)(hz:i.zero=some z)
 (hsize:i.size=size) (hby:i.bytes=bytes) (hzs:z.cells.size=size) (hsz:0<size)
 (v:Value) (n:Nat) (xs:List Value) (hown:w.ownsRow base e size v n xs) (A:Option Addr) (m c:Nat) (news:List Value) (hs:Src w A m size news) (h1:∀u∈news,u.oneCell'=true)
 (h63:n+m≤maxLen) (hbytes:(n+m)*bytes≤140737488355328) (hbase:base≤w.heap.size):
  ∃v' w',(Builtin.append_ #[t,t] ty #[v,.slice A m c]).run P w=.ok v' w'∧w'.ownsRow base e size v' (n+m) (xs++news)∧w.grownBy w' v.ownBlock∧(v'.ownBlock=v.ownBlock∨v'.ownBlock=some w.heap.size):=by
 obtain⟨hl,hs⟩:=hs;rcases A with _ | ad
 ·have hm:m=0:=by
   rcases hs with h | ⟨b,o,h,_⟩
   ·exact h
   ·cases h
  subst hm;have hn:news=[]:=AP (by simpa using hl);subst hn;exact⟨v,w,I3 base t ty e i size ht hi v n xs hown c,by simpa using hown,World.grownBy.refl w _,.inl rfl⟩
 ·have hcells:∀j u,news[j]? =some u→w.cell? (ad.add j)=some u:=by
   intro j u hu;rcases hs with h | ⟨b,o,h,hc⟩
   ·subst h
    have hn:news=[]:=AP (by simpa using hl);subst hn;simp at hu
   ·injection h with h
    subst h;rw[add_plain];exact hc j u hu
  obtain⟨v',w',hrun,h2,h3,_,h5⟩:=run_append_own_at (P:=P) w base t ty e i z size bytes ht hi hz hsize hby hzs hsz v n xs hown ad m c news hl hcells h1 h63 hbytes hbase;exact⟨v',w',hrun,h2,h3,h5⟩
theorem Ar{ops:Array Oper}{rest:List Oper}{o:Oper}{a:Act}{Q:Exit→Act→World→Prop}(hgd:o.guard=none)(s x:Operand)(t:TypeId)
 (ho:o.op=.call {callee:=.builtin .append,args:=#[s,x],argTypes:=#[t,t]})
 (base:Nat) (e:TypeId) (i:TypeInfo) (z:Value) (size bytes:Nat) (ht:P.underlying t=some (.slice e)) (hi:P.info? e=some i) (hz:i.zero=some z)
 (hsize:i.size=size) (hby:i.bytes=bytes) (hzs:z.cells.size=size) (hsz:0<size)
 (v:Value) (n:Nat) (xs:List Value) (hs:a.eval s=v) (hown:w.ownsRow base e size v n xs)
 (A:Option Addr) (m c:Nat) (news:List Value) (hx:a.eval x=.slice A m c) (hsrc:Src w A m size news) (h1:∀u∈news,u.oneCell'=true)
 (h63:n+m≤maxLen) (hbytes:(n+m)*bytes≤140737488355328) (hbase:base≤w.heap.size)
 (h:∀v' w',w'.ownsRow base e size v' (n+m) (xs++news)→w.grownBy w' v.ownBlock→(v'.ownBlock=v.ownBlock∨v'.ownBlock=some w.heap.size)→wpList P ops Q rest (a.put o.dst v') w'):wpList P ops Q (o::rest) a w:=
 A6 hgd fun _ hK=>by
  obtain⟨v',w',hrun,h2,h3,h4⟩:=Hl (P:=P) base t o.type e i z size bytes ht hi hz hsize hby hzs hsz v n xs hown A m c news hsrc h1 h63 hbytes hbase;unfold Oper.wp execOp;simp only[ho,resolve,invoke,builtin,Sem.run_bind,Sem.run_pure,Result.andThen_ok,List.map_toArray,List.map_cons,List.map_nil,hs,hx,hrun];exact hK _ _ (h v' w' h2 h3 h4)
def byteCells(l:List UInt8):List Value:=l.map fun b=> .int .u8 (b.toNat:Int)
theorem Bd(l:List UInt8):∀u∈byteCells l,u.oneCell'=true:=by
 intro u hu;obtain⟨b,_,rfl⟩:=List.mem_map.1 hu;rfl
theorem BZ(h:Ah.r S w [.slice a n c] l):Src w a l.length 1 (byteCells l):=by
 refine⟨zBe,?_⟩;rcases l with _ | ⟨x,l⟩
 ·exact .inl rfl
 ·right
  obtain⟨b,o,e,_⟩:=Bt h (i:=0) zP;refine⟨b,o,e,fun j u hu=> ?_⟩;have hj:j<(x::l).length:=by
   have:=(List.getElem?_eq_some_iff.1 hu).1;simpa [byteCells] using this
  obtain⟨b',o',e',_,hc⟩:=Bt h hj;rw[e] at e';simp at e';obtain⟨rfl,rfl⟩:=e';have:u=.int .u8 (((x::l)[j]).toNat:Int):=by
   simp only[byteCells,JA,AQ hj,Option.map_some,Cv] at hu;exact hu.symm
  rw[this];exact hc
theorem GA(hn:n=l.length)(h:w.ownsRow base e 1 v n (byteCells l)):Ah.r (·<w.heap.size) w [v] l:=by
 subst hn;rcases h.2 with ⟨rfl,h0⟩ | ⟨g,cap,cur,rfl,hbg,hg,hn,hc,hcur,hx⟩
 ·have:l=[]:=AP h0
  subst this;exact AZ rfl (Aj _) (Ao _) (.inl rfl)
 ·refine AZ rfl hn hc (.inr ⟨g,0,rfl,Blk.lt hg,fun i x hi=>⟨[.int .u8 (x.toNat:Int)],rfl,fun j v hj=> ?_,rfl⟩⟩)
  have hj0:j=0:=by
   rcases j with _ | j
   ·rfl
   ·simp at hj
  subst hj0;simp at hj;subst hj;have hi':i<l.length:=(List.getElem?_eq_some_iff.1 hi).1;rw[Cb,Ef,CE,Blk.cell hg i];have e1:cur[i]? =(cur.toList.take (l.length*1))[i]? :=by
   rw[CK,An zD];simp
  rw[e1,hx,byteCells,JA,hi];rfl
end
end Go.Bs
namespace Go.Proofs.YtlbffbkbkajciaaGreat
open Go.RowKit Go.Bs
variable{b:List UInt8}{base c n o off p sz:Nat}{S:Nat → Prop}{a:Option Addr}{e:TypeId}{v:Value}{w:World}
theorem Ey:(Tryz.prog.info? 5).map (fun i=>(i.zero,i.size,i.bytes))=some (some (.int .u8 0),1,1):=zL
theorem GJ{α:Type}{A:Rp α}{xs:List α}{k:Nat}(h:(rSl sz A).r S w [.slice a n c] xs)(hk:k≤xs.length):(rSl sz A).r S w [.slice a k c] (xs.take k):=by
 obtain⟨a',c',e,h1,h2,h3⟩:=h;simp at e;obtain⟨rfl,rfl,rfl⟩:=e;have hl:(xs.take k).length=k:=zM;refine AZ (by rw[hl]) zD h2 ?_;rcases h3 with rfl | ⟨b,off,rfl,hS,hr⟩
 ·exact .inl zP
 ·refine .inr ⟨b,off,rfl,hS,fun i x hi=>hr i x ?_⟩
  rw[CK] at hi;split at hi
  ·exact hi
  ·cases hi
end Go.Proofs.YtlbffbkbkajciaaGreat
namespace Go.Bs
variable{cells:List (List Value)}{b l:List UInt8}{cs xs:List Value}{base c g i lo n o off p size sz:Nat}{S:Nat → Prop}{a:Option Addr}{e t:TypeId}{v:Value}{W w w':World}
def Fq(b:List UInt8)(off:Nat):Nat→Nat→Nat
 | 0,_=>0
 | f+1,p=>if p<b.length∧b[p]? =b[p-off]? then Fq b off f (p+1)+1 else 0
def Cz(b:List UInt8)(p off:Nat):Nat:=if p<b.length∧1≤off∧off≤p then Fq b off (b.length-p) p else 0
theorem Mk(b:List UInt8)(off:Nat):∀f p,Fq b off f p≤f
 | 0,_=>Aj _
 | f+1,p=>by
  unfold Fq;split
  ·have:=Mk b off f (p+1);omega
  ·omega
theorem Jh(b:List UInt8)(p off:Nat):Cz b p off≤b.length-p:=by
 unfold Cz;split
 ·exact Mk ..
 ·omega
theorem Kc(b:List UInt8)(off:Nat):∀f p k,k<Fq b off f p→p+k<b.length∧b[p+k]? =b[p+k-off]?
 | 0,_,k,h=>by simp[Fq] at h
 | f+1,p,k,h=>by
  unfold Fq at h;split at h
  ·rename_i hc
   cases k with
   | zero=>exact hc
   | succ k=>
    have:=Kc b off f (p+1) k zD;rw[show p+(k+1)=p+1+k by omega];exact this
  ·omega
theorem Ml(b:List UInt8)(off:Nat):∀f p k,k≤f→(∀j,j<k→p+j<b.length∧b[p+j]? =b[p+j-off]?)→k≤Fq b off f p
 | _,_,0,_,_=>Ao _
 | 0,_,k+1,h,_=>by omega
 | f+1,p,k+1,h,hs=>by
  unfold Fq;rw[An (by simpa using hs 0 (by omega))];have:=Ml b off f (p+1) k zD fun j hj=>by
   have:=hs (j+1) zD;rw[show p+(j+1)=p+1+j by omega] at this;exact this
  omega
theorem Up{k:Nat}(h1:1≤off)(h2:off≤p)(hp:p<b.length)(h:∀j,j<k→p+j<b.length∧b[p+j]? =b[p+j-off]?):k≤Cz b p off:=by
 unfold Cz;rw[An ⟨hp,h1,h2⟩];refine Ml _ _ _ _ _ ?_ h;rcases Dr k with rfl | h0
 ·exact Ao _
 ·have:=(h (k-1) zD).1;omega
theorem Mz{k:Nat}(h:k<Cz b p off):1≤off∧off≤p∧p+k<b.length∧b[p+k]? =b[p+k-off]? :=by
 unfold Cz at h;split at h
 ·rename_i hc
  exact⟨hc.2.1,hc.2.2,Kc _ _ _ _ _ h⟩
 ·omega
def Fs(b:List UInt8)(p:Nat):Nat→Nat
 | 0=>0
 | k+1=>max (Fs b p k) (Cz b p (k+1))
def firstM(b:List UInt8)(p m:Nat):Nat→Nat→Nat
 | 0,_=>0
 | f+1,o=>if Cz b p o=m then o else firstM b p m f (o+1)
theorem KP(b:List UInt8)(p:Nat):∀k o,1≤o→o≤k→Cz b p o≤Fs b p k
 | 0,o,h1,h2=>by omega
 | k+1,o,h1,h2=>by
  simp only[Fs];by_cases h:o=k+1
  ·subst h;omega
  ·have:=KP b p k o h1 zD;omega
theorem Ji(b:List UInt8)(p:Nat):∀k,Fs b p k=0∨∃o,1≤o∧o≤k∧Cz b p o=Fs b p k
 | 0=> .inl rfl
 | k+1=>by
  simp only[Fs];rcases Nat.le_total (Fs b p k) (Cz b p (k+1)) with h | h
  ·rw[Nat.max_eq_right h]
   exact .inr ⟨k+1,zD,Aj _,rfl⟩
  ·rw[Nat.max_eq_left h]
   rcases Ji b p k with h0 | ⟨o,h1,h2,h3⟩
   ·exact .inl h0
   ·exact .inr ⟨o,h1,zD,h3⟩
theorem JR(b:List UInt8)(p m:Nat):∀f o o',o≤o'→o'<o+f→Cz b p o'=m→(∀j,o≤j→j<o'→Cz b p j≠m)→firstM b p m f o=o'
 | 0,o,o',h1,h2,_,_=>by omega
 | f+1,o,o',h1,h2,h3,h4=>by
  unfold firstM;by_cases h:o=o'
  ·subst h;rw[An h3]
  ·rw[Ak (h4 o (Aj _) zD)]
   exact JR b p m f (o+1) o' zD zD h3 fun j h5 h6=>h4 j zD h6
def reach(p:Nat):Nat:=min p 65536
def BP(b:List UInt8)(p:Nat):Nat × Nat:=
 if 4≤Fs b p (reach p) then (firstM b p (Fs b p (reach p)) (reach p) 1,Fs b p (reach p)) else (0,0)
theorem Oo(b:List UInt8)(p m:Nat):∀k,(∃o,1≤o∧o≤k∧Cz b p o=m)→∃o,1≤o∧o≤k∧Cz b p o=m∧∀j,1≤j→j<o→Cz b p j≠m
 | 0,⟨o,h1,h2,_⟩=>by omega
 | k+1,⟨o,h1,h2,h3⟩=>by
  by_cases h:∃o,1≤o∧o≤k∧Cz b p o=m
  ·obtain⟨o,g1,g2,g3,g4⟩:=Oo b p m k h
   exact⟨o,g1,zD,g3,g4⟩
  ·refine⟨o,h1,h2,h3,fun j j1 j2 j3=>h ⟨j,j1,zD,j3⟩⟩
theorem LN{m:Nat}(h1:1≤o)(h2:o≤reach p)(h4:4≤m)(hm:Cz b p o=m)(hall:∀j,1≤j→j≤reach p→Cz b p j≤m)(hlt:∀j,1≤j→j<o→Cz b p j<m):BP b p=(o,m):=by
 have e:Fs b p (reach p)=m:=by
  have:=KP b p (reach p) o h1 h2;rcases Ji b p (reach p) with h | ⟨o',g1,g2,g3⟩
  ·omega
  ·have:=hall o' g1 g2;omega
 unfold BP;rw[e,An h4,JR b p m (reach p) 1 o h1 zD hm fun j j1 j2=>by have:=hlt j j1 j2;omega]
theorem LM(h:∀j,1≤j→j≤reach p→Cz b p j<4):BP b p=(0,0):=by
 unfold BP;rw[Ak];rcases Ji b p (reach p) with h0 | ⟨o',g1,g2,g3⟩
 ·omega
 ·have:=h o' g1 g2;omega
theorem Fo(b:List UInt8)(p:Nat):BP b p=(0,0)∨∃o m,BP b p=(o,m)∧1≤o∧o≤reach p∧4≤m∧Cz b p o=m∧(∀j,1≤j→j≤reach p→Cz b p j≤m)∧∀j,1≤j→j<o→Cz b p j<m:=by
 by_cases h:4≤Fs b p (reach p)
 ·right
  rcases Ji b p (reach p) with h0 | hx
  ·omega
  ·obtain⟨o,g1,g2,g3,g4⟩:=Oo b p _ _ hx
   have hall:=fun j (j1:1≤j) (j2:j≤reach p)=>KP b p _ j j1 j2;have hlt:∀j,1≤j→j<o→Cz b p j<Fs b p (reach p):=fun j j1 j2=>by
    have:=hall j j1 zD;have:=g4 j j1 j2;omega
   exact⟨o,_,LN g1 g2 h g3 hall hlt,g1,g2,h,g3,hall,hlt⟩
 ·left
  unfold BP;rw[Ak h]
theorem G0(b:List UInt8)(p:Nat):(BP b p).2≤b.length-p∧(BP b p).1≤p:=by
 rcases Fo b p with h | ⟨o,m,h,_,h2,_,h4,_⟩
 ·rw[h];exact⟨Ao _,Ao _⟩
 ·rw[h]
  have:=Jh b p o;simp only[reach] at h2;exact⟨zC7,zC7⟩
structure Tok where
 lit:List UInt8
 off:Int
 len:Int
 deriving DecidableEq
def DY(b:List UInt8)(i j:Nat):List Tok:=if i<j then [⟨(b.drop i).take (j-i),0,0⟩] else []
def Ei(b:List UInt8):Nat→Nat→Nat→List Tok
  | 0,_,i=>DY b i b.length
  | f+1,p,i=>if p<b.length then
      (if (BP b p).2=0 then Ei b f (p+1) i
       else DY b i p++⟨[],(BP b p).1,(BP b p).2⟩::Ei b f (p+(BP b p).2) (p+(BP b p).2))
      else DY b i b.length
def Ds(b:List UInt8):List Tok:=Ei b b.length 0 0
theorem GH(b:List UInt8):∀f g p i,b.length≤p+f→b.length≤p+g→Ei b f p i=Ei b g p i
 | 0,0,_,_,_,_=>rfl
 | 0,g+1,p,i,h,_=>by
  simp only[Ei];rw[Ak zD]
 | f+1,0,p,i,_,h=>by
  simp only[Ei];rw[Ak zD]
 | f+1,g+1,p,i,h1,h2=>by
  simp only[Ei];split
  ·split
   ·exact GH b f g (p+1) i zD zD
   ·rename_i hn
    rw[GH b f g (p+(BP b p).2) (p+(BP b p).2) zD zD]
  ·rfl
def Iq(b:List UInt8)(p i:Nat):List Tok:=Ei b (b.length-p) p i
theorem O8(hp:p<b.length)(h:(BP b p).2=0):Iq b p i=Iq b (p+1) i:=by
 unfold Iq;obtain⟨f,hf⟩:∃f,b.length-p=f+1:=⟨b.length-p-1,zD⟩;rw[hf];simp only[Ei];rw[An hp,An h];exact GH b _ _ _ _ zD zD
theorem O6(hp:p<b.length)(h:(BP b p).2≠0):Iq b p i=DY b i p++⟨[],(BP b p).1,(BP b p).2⟩::Iq b (p+(BP b p).2) (p+(BP b p).2):=by
 unfold Iq;obtain⟨f,hf⟩:∃f,b.length-p=f+1:=⟨b.length-p-1,zD⟩;rw[hf];simp only[Ei];rw[An hp,Ak h];congr 2
 exact GH b _ _ _ _ zD zD
theorem Rt(hp:b.length≤p):Iq b p i=DY b i b.length:=by
 unfold Iq;rw[show b.length-p=0 by omega];rfl
def Db(b:List UInt8)(p:Nat):Option Nat:=
 match b[p]?,b[p+1]?,b[p+2]?,b[p+3]? with
 | some a,some c,some d,some e=>some (a.toNat+256*c.toNat+65536*d.toNat+16777216*e.toNat)
 | _,_,_,_=>none
def DJ(b:List UInt8)(k:Nat):Nat→Nat
 | 0=>0
 | j+1=>if Db b j=some k then j+1 else DJ b k j
theorem Jp(b:List UInt8)(k:Nat):∀j,DJ b k j≤j
 | 0=>Aj _
 | j+1=>by
  unfold DJ;split
  ·omega
  ·have:=Jp b k j;omega
theorem MD(b:List UInt8)(k:Nat):∀j,DJ b k j≠0→Db b (DJ b k j-1)=some k
 | 0,h=>absurd rfl h
 | j+1,h=>by
  unfold DJ at h ⊢;split
  ·rename_i hk;simpa using hk
  ·rename_i hk
   rw[Ak hk] at h;exact MD b k j h
open Go.RowKit
section
variable {w w':World} {α:Type}
def CJ(lo:Nat)(A:Rp α)(base:Nat)(e:TypeId)(sz:Nat)(w:World)(v:Value)(xs:List α)(cells:List (List Value)):Prop:=
 w.ownsRow base e sz v xs.length cells.flatten∧cells.length=xs.length∧(∀c∈cells,c.length=sz)∧
  ∀(i:Nat) cs x,cells[i]? =some cs→xs[i]? =some x→A.r (fun b=>lo≤b∧b<w.heap.size∧v.ownBlock≠some b) w cs x
def AD(lo:Nat)(A:Rp α)(base:Nat)(e:TypeId)(sz:Nat)(w:World)(v:Value)(xs:List α):Prop:=∃cells,CJ lo A base e sz w v xs cells
theorem EX(sz:Nat):∀(l:List (List Value)),(∀c∈l,c.length=sz)→∀(i j:Nat) cs v,l[i]? =some cs→cs[j]? =some v→l.flatten[i*sz+j]? =some v
 | [],_,i,j,cs,v,h,_=>by simp at h
 | c::l,hl,i,j,cs,v,h,hj=>by
  have hc:=hl c (List.mem_cons_self ..);rw[List.flatten_cons];cases i with
  | zero=>
   simp at h;subst h;have:=(List.getElem?_eq_some_iff.1 hj).1;rw[Nat.zero_mul,Cb,Bi zD];exact hj
  | succ i=>
   simp at h;rw[Bn (by rw[hc,Nat.succ_mul];omega),hc,show (i+1)*sz+j-sz=i*sz+j by rw[Nat.succ_mul];omega];exact EX sz l (fun c h=>hl c (List.mem_cons_of_mem _ h)) i j cs v h hj
theorem AD.nil{A:Rp α}:AD lo A base e sz w (.slice none 0 0) []:=
 ⟨[],⟨zP,.inl ⟨rfl,rfl⟩⟩,rfl,zP,fun i cs x h=>by simp at h⟩
theorem AD.slice{lo:Nat}{A:Rp α}{v:Value}{xs:List α}(hlo:lo≤base)(h:AD lo A base e sz w v xs):(rSl sz A).r (fun b=>lo≤b∧b<w.heap.size) w [v] xs:=by
 obtain⟨cells,hown,hlen,hsz,hA⟩:=h;rcases hown.2 with ⟨rfl,h0⟩ | ⟨g,cap,cur,rfl,hbg,hg,hn,hc,hcur,hx⟩
 ·have:xs=[]:=AP h0
  subst this;exact AZ rfl (Aj _) (Ao _) (.inl rfl)
 ·refine AZ rfl hn hc (.inr ⟨g,0,rfl,⟨A4 hlo hbg,(Array.getElem?_eq_some_iff.1 hg).1⟩,fun i x hi=> ?_⟩)
  have hi':i<xs.length:=(List.getElem?_eq_some_iff.1 hi).1;have hic:i<cells.length:=zD;have hcs:cells[i]? =some cells[i]:=AQ hic;refine⟨cells[i],hsz _ (Da hic),fun j v hj=> ?_,A.mono (hA i _ x hcs hi) fun b h=>⟨h.1,h.2.1⟩⟩;have hj':j<sz:=Z4;have hf:=EX sz cells hsz i j _ v hcs hj;rw[Cb,show (⟨g,i*sz+j,none⟩:Addr)=⟨g,i*sz+j,none⟩ from rfl,Blk.cell hg (i*sz+j)];have hb:i*sz+j<xs.length*sz:=by
   have:=Cj sz (show i+1≤xs.length from hi');rw[Nat.succ_mul] at this;omega
  have e1:cur[i*sz+j]? =(cur.toList.take (xs.length*sz))[i*sz+j]? :=by
   rw[CK,An hb];simp
  rw[e1,hx];exact hf
def UT{α:Type}(sz:Nat)(A:Rp α):Rp (List α):=
  ⟨fun S w cs xs=>∃a c,cs=[.slice a xs.length c]∧xs.length≤c∧c≤maxLen∧(xs=[]∨∃b off,a=some ⟨b,off,none⟩∧S b∧∀(i:Nat) x,xs[i]? =some x→∃cs:List Value,cs.length=sz∧
      (∀(j:Nat) v,cs[j]? =some v→w.cell? ⟨b,off+i*sz+j,none⟩=some v∧w.frozen? ⟨b,off+i*sz+j,none⟩=false)∧A.r (fun q=>S q∧q≠b) w cs x),
   fun ⟨a,c,h,h1,h2,h3⟩ hk=>⟨a,c,h,h1,h2,h3.imp id fun ⟨b,off,e,hb,hr⟩=>⟨b,off,e,hb,fun i x hi=>
     let ⟨cs,hl,hc,hA⟩:=hr i x hi
     ⟨cs,hl,fun j v hj=>⟨(Bq (a:=⟨b,off+i*sz+j,none⟩) (hk b hb)).trans (hc j v hj).1,(Cx (a:=⟨b,off+i*sz+j,none⟩) (hk b hb)).trans (hc j v hj).2⟩,A.keep hA fun q hq=>hk q hq.1⟩⟩⟩,
   fun ⟨a,c,h,h1,h2,h3⟩ hk=>⟨a,c,h,h1,h2,h3.imp id fun ⟨b,off,e,hb,hr⟩=>⟨b,off,e,hk b hb,fun i x hi=>
     let ⟨cs,hl,hc,hA⟩:=hr i x hi
     ⟨cs,hl,hc,A.mono hA fun q hq=>⟨hk q hq.1,hq.2⟩⟩⟩⟩⟩
theorem UM{A:Rp α}{xs:List α}(h:(UT sz A).r S w cs xs):(rSl sz A).r S w cs xs:=by
 obtain⟨a,c,h1,h2,h3,h4⟩:=h;refine⟨a,c,h1,h2,h3,h4.imp id fun ⟨b,off,e,hb,hr⟩=>⟨b,off,e,hb,fun i x hi=> ?_⟩⟩;obtain⟨cs,h5,h6,h7⟩:=hr i x hi;exact⟨cs,h5,fun j v hj=>(h6 j v hj).1,A.mono h7 fun q hq=>hq.1⟩
def Ig:Rp (List BS):=UT 2 Gx
theorem Jm{x:List BS}(h:Ig.r S w cs x):B6.r S w cs x:=UM h
theorem AD.ID{lo:Nat}{A:Rp α}{v:Value}{xs:List α}(hlo:lo≤base)(h:AD lo A base e sz w v xs):(UT sz A).r (fun b=>lo≤b∧b<w.heap.size) w [v] xs:=by
 obtain⟨cells,hown,hlen,hsz,hA⟩:=h;rcases hown.2 with ⟨rfl,h0⟩ | ⟨g,cap,cur,rfl,hbg,hg,hn,hc,hcur,hx⟩
 ·have:xs=[]:=AP h0
  subst this;exact⟨none,0,rfl,Aj _,Ao _,.inl rfl⟩
 ·refine⟨_,cap,rfl,hn,hc,.inr ⟨g,0,rfl,⟨A4 hlo hbg,(Array.getElem?_eq_some_iff.1 hg).1⟩,fun i x hi=> ?_⟩⟩
  have hi':i<xs.length:=(List.getElem?_eq_some_iff.1 hi).1;have hic:i<cells.length:=zD;have hcs:cells[i]? =some cells[i]:=AQ hic;refine⟨cells[i],hsz _ (Da hic),fun j v hj=>⟨?_,Blk.free hg _⟩,A.mono (hA i _ x hcs hi) fun b h=>⟨⟨h.1,h.2.1⟩,fun e=>h.2.2 (by rw[e];rfl)⟩⟩;have hj':j<sz:=Z4;have hf:=EX sz cells hsz i j _ v hcs hj;rw[Cb,show (⟨g,i*sz+j,none⟩:Addr)=⟨g,i*sz+j,none⟩ from rfl,Blk.cell hg (i*sz+j)];have hb:i*sz+j<xs.length*sz:=by
   have:=Cj sz (show i+1≤xs.length from hi');rw[Nat.succ_mul] at this;omega
  have e1:cur[i*sz+j]? =(cur.toList.take (xs.length*sz))[i*sz+j]? :=by
   rw[CK,An hb];simp
  rw[e1,hx];exact hf
theorem CJ.push{lo:Nat}{A:Rp α}{base:Nat}{e:TypeId}{sz:Nat}{v v':Value}{xs:List α}{news:List Value}{x:α}{cells:List (List Value)}(h:CJ lo A base e sz w v xs cells)
 (hn:news.length=sz) (hx:A.r (fun b=>lo≤b∧b<w.heap.size∧v.ownBlock≠some b) w news x)
 (hown:w'.ownsRow base e sz v' (xs.length+1) (cells.flatten++news)) (hg:w.grownBy w' v.ownBlock) (hat:v'.ownBlock=v.ownBlock∨v'.ownBlock=some w.heap.size) (hsz':w.heap.size≤w'.heap.size):CJ lo A base e sz w' v' (xs++[x]) (cells++[news]):=by
 obtain⟨ho,hlen,hsz,hA⟩:=h;have lift:∀cs y,A.r (fun b=>lo≤b∧b<w.heap.size∧v.ownBlock≠some b) w cs y→A.r (fun b=>lo≤b∧b<w'.heap.size∧v'.ownBlock≠some b) w' cs y:=fun cs y hr=>
  A.mono (A.keep hr fun b hb=>hg.block b hb.2.1 (fun e=>hb.2.2 e.symm)) fun b hb=>⟨hb.1,Am hb.2.1 hsz',fun e=>by
   rcases hat with h | h
   ·exact hb.2.2 (h ▸ e)
   ·rw[h] at e;have:=By e;have:=hb.2.1;omega⟩
 refine⟨?_,by simp[hlen],?_,?_⟩
 ·rw[List.flatten_append,Au]
  simpa using hown
 ·intro c hc
  rcases List.mem_append.1 hc with h | h
  ·exact hsz c h
  ·simp at h;subst h;exact hn
 ·intro i cs y hi hy
  by_cases hlt:i<xs.length
  ·rw[Bi zD] at hi
   rw[Bi hlt] at hy;exact lift _ _ (hA i cs y hi hy)
  ·have hii:i=xs.length:=by
    have:=(List.getElem?_eq_some_iff.1 hy).1;simp at this;omega
   subst hii;rw[Bn zD] at hi;rw[Bn (Aj _)] at hy;simp[hlen] at hi;simp at hy;subst hi hy;exact lift _ _ hx
theorem AD.push{lo:Nat}{A:Rp α}{base:Nat}{e:TypeId}{sz:Nat}{v v':Value}{xs:List α}{news:List Value}{x:α}{cells:List (List Value)}(h:CJ lo A base e sz w v xs cells)
 (hn:news.length=sz) (hx:A.r (fun b=>lo≤b∧b<w.heap.size∧v.ownBlock≠some b) w news x)
 (hown:w'.ownsRow base e sz v' (xs.length+1) (cells.flatten++news)) (hg:w.grownBy w' v.ownBlock) (hat:v'.ownBlock=v.ownBlock∨v'.ownBlock=some w.heap.size) (hsz':w.heap.size≤w'.heap.size):AD lo A base e sz w' v' (xs++[x]):=
 ⟨_,CJ.push h hn hx hown hg hat hsz'⟩
theorem AD.below{A:Rp α}{xs:List α}(h:AD lo A base e sz w v xs)(hb:Below w.heap.size w w'):AD lo A base e sz w' v xs:=by
 obtain⟨cells,ho,hlen,hsz,hA⟩:=h;refine⟨cells,⟨ho.1,?_⟩,hlen,hsz,fun i cs x hi hx=>A.mono (A.keep (hA i cs x hi hx) fun b h=>hb.block b h.2.1) fun b h=>⟨h.1,Am h.2.1 hb.size,h.2.2⟩⟩;rcases ho.2 with h0 | ⟨g,cap,cur,h1,h2,h3,h4⟩
 ·exact .inl h0
 ·exact .inr ⟨g,cap,cur,h1,h2,zAv,h4⟩
theorem CJ.below{A:Rp α}{xs:List α}(h:CJ lo A base e sz w v xs cells)(hb:Below w.heap.size w w'):CJ lo A base e sz w' v xs cells:=by
 obtain⟨ho,hlen,hsz,hA⟩:=h;refine⟨⟨ho.1,?_⟩,hlen,hsz,fun i cs x hi hx=>A.mono (A.keep (hA i cs x hi hx) fun b h=>hb.block b h.2.1) fun b h=>⟨h.1,Am h.2.1 hb.size,h.2.2⟩⟩;rcases ho.2 with h0 | ⟨g,cap,cur,h1,h2,h3,h4⟩
 ·exact .inl h0
 ·exact .inr ⟨g,cap,cur,h1,h2,zAv,h4⟩
theorem EW(W:World)(hb:base≤W.heap.size)(hg:g=W.heap.size):(W.alloc (.cells #[] e)).ownsRow base e size (.slice (some ⟨g,0,none⟩) 0 0) 0 []:=by
 subst hg;exact⟨zP,.inr ⟨_,0,#[],rfl,hb,(MapKept.heap_alloc W _).1,Aj _,Ao _,zP,zP⟩⟩
theorem AX(h:w.ownsRow base e size v n xs):∃a c,v=.slice a n c:=by
 rcases h.2 with ⟨rfl,rfl⟩ | ⟨g,cap,cur,rfl,_⟩
 ·exact⟨_,_,rfl⟩
 ·exact⟨_,_,rfl⟩
theorem Tm(h:w.ownsRow base e size v (n+1) xs):∃g c,v=.slice (some ⟨g,0,none⟩) (n+1) c:=by
 rcases h.2 with ⟨_,h0⟩ | ⟨g,cap,cur,rfl,_⟩
 ·cases h0
 ·exact⟨_,_,rfl⟩
theorem Rd{base:Nat}{v:Value}{A:Rp α}(f:α→Value){l:List α}(hf:∀(S:Nat→Prop) x,x∈l→A.r S w [f x] x)(hn:n=l.length)(h:w.ownsRow base e 1 v n (l.map f)):(rSl 1 A).r (fun b=>base≤b∧b<w.heap.size) w [v] l:=by
 subst hn;rcases h.2 with ⟨rfl,h0⟩ | ⟨g,cap,cur,rfl,hbg,hg,hn,hc,hcur,hx⟩
 ·have:l=[]:=AP h0
  subst this;exact AZ rfl (Aj _) (Ao _) (.inl rfl)
 ·refine AZ rfl hn hc (.inr ⟨g,0,rfl,⟨hbg,Blk.lt hg⟩,fun i x hi=>⟨[f x],rfl,fun j v hj=> ?_,hf _ x (List.mem_of_getElem? hi)⟩⟩)
  have hj0:j=0:=by
   rcases j with _ | j
   ·rfl
   ·simp at hj
  subst hj0;simp at hj;subst hj;have hi':i<l.length:=(List.getElem?_eq_some_iff.1 hi).1;rw[Cb,Ef,CE,Blk.cell hg i];have e1:cur[i]? =(cur.toList.take (l.length*1))[i]? :=by
   rw[CK,An zD];simp
  rw[e1,hx,JA,hi];rfl
def Bu(l:List Int):List Value:=l.map fun n=> .int .u64 n
theorem FT{base:Nat}{v:Value}{l:List Int}(hw:∀x∈l,0≤x∧x≤18446744073709551615)(hn:n=l.length)(h:w.ownsRow base e 1 v n (Bu l)):AV.r (fun b=>base≤b∧b<w.heap.size) w [v] l:=
 Rd _ (fun _ x hx=>⟨rfl,EF (hw x hx)⟩) hn h
theorem B9{base:Nat}{v:Value}{l:List UInt8}(hn:n=l.length)(h:w.ownsRow base e 1 v n (byteCells l)):Ah.r (fun b=>base≤b∧b<w.heap.size) w [v] l:=
 Rd _ (fun _ x _=>rfl) hn h
theorem AR(h:w.ownsRow base e size v n xs)(hb:Below w.heap.size w w'):w'.ownsRow base e size v n xs:=by
 refine⟨h.1,?_⟩;rcases h.2 with h0 | ⟨g,cap,cur,h1,h2,h3,h4⟩
 ·exact .inl h0
 ·exact .inr ⟨g,cap,cur,h1,h2,zAv,h4⟩
theorem Dd{P:Program}{ops:Array Oper}{o:Oper}{a:Act}{K:Act→World→Prop}{Q:Exit→Act→World→Prop}{E:Prop}(hgd:o.guard=none)(s x:Operand)(t:TypeId)
 (ho:o.op=.call {callee:=.builtin .append,args:=#[s,x],argTypes:=#[t,t]})
 (base:Nat) (e:TypeId) (i:TypeInfo) (z:Value) (size bytes:Nat) (ht:P.underlying t=some (.slice e)) (hi:P.info? e=some i) (hz:i.zero=some z)
 (hsize:i.size=size) (hby:i.bytes=bytes) (hzs:z.cells.size=size) (hsz:0<size)
 (v:Value) (n:Nat) (xs:List Value) (hs:a.eval s=v) (hown:w.ownsRow base e size v n xs)
 (A:Option Addr) (m c:Nat) (news:List Value) (hx:a.eval x=.slice A m c) (hsrc:Src w A m size news) (h1:∀u∈news,u.oneCell'=true)
 (h63:n+m≤maxLen) (hbytes:(n+m)*bytes≤140737488355328) (hbase:base≤w.heap.size)
 (h:∀a' c' w',w'.ownsRow base e size (.slice a' (n+m) c') (n+m) (xs++news)→w.grownBy w' v.ownBlock→((Value.slice a' (n+m) c').ownBlock=v.ownBlock∨(Value.slice a' (n+m) c').ownBlock=some w.heap.size)→K (a.put o.dst (.slice a' (n+m) c')) w'):
  if Region.wanted o (yielded ops a.tmps)=true then Oper.wp P o a w K Q else E:=by
 have hw:Region.wanted o (yielded ops a.tmps)=true:=by simp[Region.wanted,hgd]
 rw[An hw];obtain⟨v',w',hrun,h2,h3,h4⟩:=Hl (P:=P) base t o.type e i z size bytes ht hi hz hsize hby hzs hsz v n xs hown A m c news hsrc h1 h63 hbytes hbase;obtain⟨a',c',rfl⟩:=AX h2;unfold Oper.wp execOp;simp only[ho,resolve,invoke,builtin,Sem.run_bind,Sem.run_pure,Result.andThen_ok,List.map_toArray,List.map_cons,List.map_nil,hs,hx,hrun];exact h a' c' w' h2 h3 h4
end
end Go.Bs
namespace Go.Proofs.YtlbffbkbkajciaaGreat
open Go.RowKit Go.Bs
variable{b:List UInt8}{base c n o off p sz:Nat}{S:Nat → Prop}{a:Option Addr}{e:TypeId}{v:Value}{w:World}
def FO(b:List UInt8)(p q:Nat):Bool:=decide (p<b.length)&&decide (b[p]? =b[q]?)
theorem NY{q:Nat}(hp:p<b.length)(hq:q<b.length):FO b p q=((b[p].toNat:Int)==(b[q].toNat:Int)):=by
 unfold FO;rw[Ae hp,Cw,AQ hp,AQ hq,ED];simp only[AN,Cv,beq_iff_eq];constructor
 ·intro h;rw[h]
 ·intro h;exact UInt8.toNat_inj.1 zD
theorem N8(b:List UInt8)(p q:Nat)(hq:q≤p)(a:Option Addr)(n c:Nat)(w:World)(hl:Ah.r (·<w.heap.size) w [.slice a n c] b)(hp:p≤4611686018427387904):
  Calls Tryz.prog 278 #[.slice a n c,.int .i64 p,.int .i64 q,.int .i64 1] w fun r w'=>r=.returned (.bool (FO b p q))∧Below w.heap.size w w':=by
 obtain⟨rfl,hm,_,_⟩:=AU hl;by_cases hlt:p<b.length
 ·have hqt:q<b.length:=by omega
  obtain⟨g,o,hA,hg,hc⟩:=Bt hl hlt;obtain⟨g',o',hA',hg',hc'⟩:=Bt hl hqt;rw[hA] at hA';simp only[Cv,Ic,As] at hA';obtain⟨rfl,rfl⟩:=hA';subst hA;have hff:=hid (NY hlt hqt);generalize b[p]=x at*;generalize b[q]=y at*;have HL:=hid hl;clear hl;have d1:decide ((b.length:Int)<(p:Int)+1)=false:=zM;have d2:decide ((b.length:Int)<(q:Int)+1)=false:=zM;go_enter Tryz.func278,Tryz.ntmps278;go_wp2_with fail;refine wp_loop_rounds 2 ?_;rw[rounds_succ];have C1:=fun s:AS w=>s.cell hc;have C2:=fun s:AS w=>s.cell hc';cases he:((x.toNat:Int)==(y.toNat:Int))
  ·have e1:((x.toNat:Int) !=(y.toNat:Int))=true:=by simp only[bne,he,Bool.not_false]
   rw[he] at hff;clear he;go_wp2_with fail;refine AI zL zL ?_;repeat (go_big_quiet_step (fail))
   refine A8 ?_;rintro W5 ⟨⟨W5',hb5⟩,rfl⟩;go_wp2;go_ret;exact⟨zQ,hb5⟩
  ·have e1:((x.toNat:Int) !=(y.toNat:Int))=false:=by simp only[bne,he,Bool.not_true]
   rw[he] at hff;clear he;go_wp2_with fail;refine AI zL zL ?_;repeat (go_big_quiet_step (fail))
   refine A8 ?_;rintro W5 ⟨⟨W5',hb5⟩,rfl⟩;go_wp2_with fail;rw[rounds_succ];go_wp2;go_ret;exact⟨zQ,hb5⟩
 ·have hff:Hid (FO b p q=false):=hid (by simp[FO,hlt])
  clear hl;go_enter Tryz.func278,Tryz.ntmps278;go_wp2;go_ret;exact⟨zQ,zC⟩
theorem PG(b:List UInt8)(p q:Int)(h0:0≤q)(hq:q≤p)(a:Option Addr)(n c:Nat)(w:World)(hl:Ah.r (·<w.heap.size) w [.slice a n c] b)(hp:p≤4611686018427387904):
  Calls Tryz.prog 278 #[.slice a n c,.int .i64 p,.int .i64 q,.int .i64 1] w fun r w'=>r=.returned (.bool (FO b p.toNat q.toNat))∧Below w.heap.size w w':=by
 obtain⟨p',rfl⟩:=DO (show 0≤p by omega);obtain⟨q',rfl⟩:=DO h0;exact N8 b p' q' zD a n c w hl zD
def GP(b:List UInt8)(p off k:Nat):Nat:=k+Fq b off (b.length-p-k) (p+k)
theorem Km(h:p<b.length∧1≤off∧off≤p):Cz b p off=GP b p off 0:=by
 unfold Cz GP;rw[An h];simp
theorem Ln{k:Nat}(h:FO b (p+k) (p+k-off)=true):GP b p off k=GP b p off (k+1)∧p+k<b.length:=by
 simp only[FO,AL,AN] at h;refine⟨?_,h.1⟩;unfold GP;obtain⟨f,hf⟩:∃f,b.length-p-k=f+1:=⟨b.length-p-k-1,zD⟩;rw[hf,show b.length-p-(k+1)=f by omega];simp only[Fq];rw[An h,show p+(k+1)=p+k+1 by omega];omega
theorem JM{k:Nat}(h:FO b (p+k) (p+k-off)=false):GP b p off k=k:=by
 unfold GP;rcases Dr (b.length-p-k) with h0 | h0
 ·rw[h0];rfl
 ·obtain⟨f,hf⟩:∃f,b.length-p-k=f+1:=⟨b.length-p-k-1,zD⟩
  rw[hf];simp only[Fq];rw[Ak]
  ·omega
  ·rintro⟨h1,h2⟩
   have:FO b (p+k) (p+k-off)=true:=by unfold FO;rw[Ae h1,Ae h2];rfl
   rw[this] at h;cases h
theorem FI(h:¬(p<b.length∧1≤off∧off≤p)):Cz b p off=0:=by
 unfold Cz;rw[Ak h]
theorem Ng(b:List UInt8)(p off:Nat)(a:Option Addr)(n c:Nat)(w:World)(hl:Ah.r (·<w.heap.size) w [.slice a n c] b)(hlen:b.length≤1048576)(hp:p≤1048576)(ho:off≤1048577):
  Calls Tryz.prog 270 #[.slice a n c,.int .i64 p,.int .i64 off] w fun r w'=>r=.returned (.int .i64 (Cz b p off))∧Below w.heap.size w w':=by
 obtain⟨rfl,hm,_,_⟩:=AU hl;have HL:=hid hl;clear hl;by_cases h1:p<b.length
 ·have d0:decide ((p:Int)<0)=false:=by simp
  have d1:decide ((b.length:Int)≤(p:Int))=false:=zM;have d1':decide (b.length≤p)=false:=zM;by_cases h2:1≤off
  ·have d2:decide ((off:Int)<1)=false:=by simp;omega
   by_cases h3:off≤p
   ·have d3:decide ((p:Int)<(off:Int))=false:=by simp;omega
    have d3':decide (p<off)=false:=zM;have hff:=hid (Km (off:=off) ⟨h1,h2,h3⟩);go_enter Tryz.func270,Tryz.ntmps270;go_wp2_with fail;go_loopw [7] (fun i wr=>∃k:Nat,k≤b.length-p∧i=.int .i64 k∧Hid (Cz b p off=GP b p off k)∧Below w.heap.size w wr) (fun i _=>b.length-(intOf i).toNat)
    case atStart=>exact ⟨0,Ao _,rfl,hff,Below.refl _ _⟩
    case round=>
     obtain⟨k,hk,rfl,hf,hb⟩:=hrel;clear hff;have d4:decide ((k:Int)<1048576)=true:=zM;have hS:=PG b ((p:Int)+(k:Int)) ((p:Int)+(k:Int)-(off:Int)) zD zD a b.length c wr (lift HL.out hb) zD;have e1:((p:Int)+(k:Int)).toNat=p+k:=zD;have e2:((p:Int)+(k:Int)-(off:Int)).toNat=p+k-off:=zD;rw[e1,e2] at hS;clear e1 e2;cases hs:FO b (p+k) (p+k-off)
     ·have hend:=hid (JM hs)
      rw[hs] at hS;have HS:=hid hS;clear hS hs;go_wp2_with fail;refine HS.out.mono ?_;rintro r w2 ⟨rfl,hb2⟩;go_wp2;go_ret;exact⟨zCw,Ag hb2 hb⟩
     ·obtain⟨hn,hlt⟩:=Ln hs
      have HN:=hid hn;rw[hs] at hS;have HS:=hid hS;clear hS hs hn;go_wp2_with fail;refine HS.out.mono ?_;rintro r w2 ⟨rfl,hb2⟩;go_wp2;go_roundw
      case rel=>exact ⟨k+1,zD,zZ,hid (by rw[hf.out,HN.out]),Ag hb2 hb⟩
      case measure=>simp [intOf];omega
   ·have d3:decide ((p:Int)<(off:Int))=true:=by simp;omega
    have hff:=hid (FI (b:=b) (p:=p) (off:=off) zD);go_enter Tryz.func270,Tryz.ntmps270;go_wp2;go_ret;exact⟨zQ,zC⟩
  ·have d2:decide ((off:Int)<1)=true:=by simp;omega
   have hff:=hid (FI (b:=b) (p:=p) (off:=off) zD);go_enter Tryz.func270,Tryz.ntmps270;go_wp2;go_ret;exact⟨zQ,zC⟩
 ·have d1:decide ((b.length:Int)≤(p:Int))=true:=by simp;omega
  have hff:=hid (FI (b:=b) (p:=p) (off:=off) zD);go_enter Tryz.func270,Tryz.ntmps270;go_wp2;go_ret;exact⟨zQ,zC⟩
theorem Ki(b:List UInt8)(p off:Int)(h0:0≤p)(h1:0≤off)(a:Option Addr)(n c:Nat)(w:World)(hl:Ah.r (·<w.heap.size) w [.slice a n c] b)(hlen:b.length≤1048576)(hp:p≤1048576)(ho:off≤1048577):
  Calls Tryz.prog 270 #[.slice a n c,.int .i64 p,.int .i64 off] w fun r w'=>r=.returned (.int .i64 (Cz b p.toNat off.toNat))∧Below w.heap.size w w':=by
 obtain⟨p',rfl⟩:=DO h0;obtain⟨q',rfl⟩:=DO h1;exact Ng b p' q' a n c w hl hlen zD zD
theorem NX(b:List UInt8)(p off:Nat)(a:Option Addr)(n c:Nat)(w:World)(hl:Ah.r (·<w.heap.size) w [.slice a n c] b)(hlen:b.length≤1048576)(hp:p≤1048576)(ho:off≤1048577):
  Calls Tryz.prog 275 #[.slice a n c,.int .i64 p,.int .i64 off] w fun r w'=>r=.returned (.int .i64 (Cz b p off))∧Below w.heap.size w w':=by
 obtain⟨rfl,hm,_,_⟩:=AU hl;by_cases h1:p<b.length
 ·have d0:decide ((p:Int)<0)=false:=by simp
  have d1:decide ((b.length:Int)≤(p:Int))=false:=zM;have d1':decide (b.length≤p)=false:=zM;by_cases h2:1≤off
  ·have d2:decide ((off:Int)<1)=false:=by simp;omega
   by_cases h3:off≤p
   ·have d3:decide ((p:Int)<(off:Int))=false:=by simp;omega
    have d3':decide (p<off)=false:=zM;have hff:=hid (Km (off:=off) ⟨h1,h2,h3⟩);obtain⟨g,o,hA,hg,_⟩:=Bt hl h1;subst hA;have HL:=hid hl;clear hl;go_enter Tryz.func275,Tryz.ntmps275;go_wp2_with fail;go_loopw [7] (fun i wr=>∃k:Nat,k≤b.length-p∧i=.int .i64 k∧Hid (Cz b p off=GP b p off k)∧Below w.heap.size w wr) (fun i _=>b.length-(intOf i).toNat)
    case atStart=>exact ⟨0,Ao _,rfl,hff,Below.refl _ _⟩
    case round=>
     obtain⟨k,hk,rfl,hf,hb⟩:=hrel;clear hff;have d4:decide ((k:Int)<1048576)=true:=zM;by_cases hlt:p+k<b.length
     ·have d5:decide ((p:Int)+(k:Int)<(b.length:Int))=true:=by simp;omega
      have hlq:p+k-off<b.length:=zD;obtain⟨g1,o1,hA1,_,hc⟩:=Bt HL.out hlt;obtain⟨g2,o2,hA2,_,hc'⟩:=Bt HL.out hlq;simp only[Cv,Ic,As] at hA1 hA2;obtain⟨rfl,rfl⟩:=hA1;obtain⟨rfl,rfl⟩:=hA2;have C1:=fun s:AS wr=>s.cell ((hb.cell (p:=⟨g,o+(p+k),none⟩) hg).trans hc);have C2:=fun s:AS wr=>s.cell ((hb.cell (p:=⟨g,o+(p+k-off),none⟩) hg).trans hc');have hsa:=NY hlt hlq;generalize b[p+k]=x at*;generalize b[p+k-off]=y at*;clear hc hc';have i1:(0:Int)≤(p:Int)+(k:Int):=zD;have i2:(0:Int)≤(p:Int)+(k:Int)-(off:Int):=zD;have i3:(p:Int)+(k:Int)-(off:Int)<(b.length:Int):=zD;have i4:(p:Int)+(k:Int)<(b.length:Int):=zD;have t1:((p:Int)+(k:Int)).toNat=p+k:=zD;have t2:((p:Int)+(k:Int)-(off:Int)).toNat=p+k-off:=zD;cases hs:FO b (p+k) (p+k-off)
      ·have hend:=hid (JM hs)
       rw[hs] at hsa;have e1:((x.toNat:Int)==(y.toNat:Int))=false:=hsa.symm;clear hs hsa;go_wp2_with fail;refine AI zL zL ?_;repeat (go_big_quiet_step (fail))
       refine A8 ?_;rintro W5 ⟨⟨W5',hb5⟩,rfl⟩;go_wp2;go_ret;exact⟨zCw,Ag hb5 hb⟩
      ·obtain⟨hn,_⟩:=Ln hs
       have HN:=hid hn;rw[hs] at hsa;have e1:((x.toNat:Int)==(y.toNat:Int))=true:=hsa.symm;clear hs hsa hn;go_wp2_with fail;refine AI zL zL ?_;repeat (go_big_quiet_step (fail))
       refine A8 ?_;rintro W5 ⟨⟨W5',hb5⟩,rfl⟩;clear t1 t2;go_wp2;go_roundw
       case rel=>exact ⟨k+1,zD,zZ,hid (by rw[hf.out,HN.out]),Ag hb5 hb⟩
       case measure=>simp [intOf];omega
     ·have d5:decide ((p:Int)+(k:Int)<(b.length:Int))=false:=by simp;omega
      have hs:FO b (p+k) (p+k-off)=false:=by simp[FO,hlt]
      have hend:=hid (JM hs);clear hs;go_wp2_with fail;refine AI zL zL ?_;repeat (go_big_quiet_step (fail))
      refine A8 ?_;rintro W5 ⟨⟨W5',hb5⟩,rfl⟩;go_wp2;go_ret;exact⟨zCw,Ag hb5 hb⟩
   ·have d3:decide ((p:Int)<(off:Int))=true:=by simp;omega
    have hff:=hid (FI (b:=b) (p:=p) (off:=off) zD);go_enter Tryz.func275,Tryz.ntmps275;go_wp2;go_ret;exact⟨zQ,zC⟩
  ·have d2:decide ((off:Int)<1)=true:=by simp;omega
   have hff:=hid (FI (b:=b) (p:=p) (off:=off) zD);go_enter Tryz.func275,Tryz.ntmps275;go_wp2;go_ret;exact⟨zQ,zC⟩
 ·have d1:decide ((b.length:Int)≤(p:Int))=true:=by simp;omega
  have hff:=hid (FI (b:=b) (p:=p) (off:=off) zD);go_enter Tryz.func275,Tryz.ntmps275;go_wp2;go_ret;exact⟨zQ,zC⟩
theorem Ph(b:List UInt8)(p off:Int)(h0:0≤p)(h1:0≤off)(a:Option Addr)(n c:Nat)(w:World)(hl:Ah.r (·<w.heap.size) w [.slice a n c] b)(hlen:b.length≤1048576)(hp:p≤1048576)(ho:off≤1048577):
  Calls Tryz.prog 275 #[.slice a n c,.int .i64 p,.int .i64 off] w fun r w'=>r=.returned (.int .i64 (Cz b p.toNat off.toNat))∧Below w.heap.size w w':=by
 obtain⟨p',rfl⟩:=DO h0;obtain⟨q',rfl⟩:=DO h1;exact NX b p' q' a n c w hl hlen zD zD
theorem K7(o n:Int)(w:World):Calls Tryz.prog 276 #[.int .i64 o,.int .i64 n] w fun r w'=>r=.returned (.tuple #[.int .i64 (if n<4 then 0 else o),.int .i64 (if n<4 then 0 else n)])∧w=w':=by
 by_cases h:n<4
 ·rw[An h,An h]
  have d1:decide (n<4)=true:=by simpa using h
  clear h;go_enter Tryz.func276,Tryz.ntmps276;go_wp2;go_ret2
  exact⟨rfl,rfl⟩
 ·rw[Ak h,Ak h]
  have d1:decide (n<4)=false:=by simpa using h
  clear h;go_enter Tryz.func276,Tryz.ntmps276;go_wp2;go_ret2
  exact⟨rfl,rfl⟩
def Ft(b:List UInt8)(p m f o:Nat):Nat × Nat:=if 4≤m then (if firstM b p m f o=0 then (0,0) else (firstM b p m f o,m)) else (0,0)
theorem O0(b:List UInt8)(p:Nat):BP b p=Ft b p (Fs b p (reach p)) (reach p) 1:=by
 unfold Ft;rcases Fo b p with h | ⟨o,m,h,h1,h2,h4,hm,hall,hlt⟩
 ·rw[h]
  by_cases h4:4≤Fs b p (reach p)
  ·have:=h
   unfold BP at this;rw[An h4] at this;simp only[A7] at this;omega
  ·rw[Ak h4]
 ·have e:Fs b p (reach p)=m:=by
   have g1:=KP b p (reach p) o h1 h2;rcases Ji b p (reach p) with h | ⟨o',g1,g2,g3⟩
   ·omega
   ·have:=hall o' g1 g2;omega
  have e2:firstM b p m (reach p) 1=o:=JR b p m _ 1 o h1 zD hm fun j j1 j2=>by have:=hlt j j1 j2;omega
  rw[h,e,An h4,e2,Ak zD]
theorem QM{m f:Nat}(h4:4≤m)(ho:1≤o)(h:Cz b p o=m):Ft b p m (f+1) o=(o,m):=by
 have e:firstM b p m (f+1) o=o:=by simp[firstM,h]
 unfold Ft;rw[An h4,e,Ak zD]
theorem MU{m f:Nat}(h:¬(4≤m∧Cz b p o=m)):Ft b p m (f+1) o=Ft b p m f (o+1):=by
 unfold Ft;by_cases h4:4≤m
 ·have e:firstM b p m (f+1) o=firstM b p m f (o+1):=by
   simp only[firstM];rw[Ak (fun e=>h ⟨h4,e⟩)]
  rw[e]
 ·rw[Ak h4,Ak h4]
theorem QN(b:List UInt8)(p m o:Nat):Ft b p m 0 o=(0,0):=by
 unfold Ft;split<;>simp [firstM]
theorem N9(b:List UInt8)(p:Nat)(a:Option Addr)(n c:Nat)(w:World)(hl:Ah.r (·<w.heap.size) w [.slice a n c] b)(hlen:b.length≤1048576):
  Calls Tryz.prog 253 #[.slice a n c,.int .i64 p] w fun r w'=>r=.returned (.tuple #[.int .i64 (BP b p).1,.int .i64 (BP b p).2])∧Below w.heap.size w w':=by
 obtain⟨rfl,hm,_,_⟩:=AU hl;have HL:=hid hl;clear hl;have d0:decide ((p:Int)<0)=false:=zP;by_cases h1:p<b.length
 ·have d1:decide ((b.length:Int)≤(p:Int))=false:=by simp;omega
  have d1':decide (b.length≤p)=false:=zM;have hff:=hid (O0 b p);go_enter Tryz.func253,Tryz.ntmps253;go_wp2_with fail;go_loopw [6,7] (fun m i wr=>∃k:Nat,k≤reach p∧i=.int .i64 (k+1:Nat)∧m=.int .i64 (Fs b p k)∧Below w.heap.size w wr) (fun _ i _=>p+1-(intOf i).toNat)
  case atStart=>exact ⟨0,Ao _,rfl,rfl,Below.refl _ _⟩
  case round=>
   obtain⟨k,hk,rfl,rfl,hb⟩:=hrel;have hrp:reach p≤p∧reach p≤65536:=zBw;by_cases hlt:k<reach p
   ·have d2:decide (((k+1:Nat):Int)≤(p:Int))=true:=by simp;omega
    have d3:decide (((k+1:Nat):Int)≤65536)=true:=zM;have d2':decide ((k+1:Nat)≤p)=true:=zM;have d2'':decide ((k:Int)+1≤(p:Int))=true:=zM;have d3'':decide ((k:Int)+1≤65536)=true:=zM;have hM:=Ki b (p:Int) ((k+1:Nat):Int) zD zD a b.length c wr (lift HL.out hb) hlen zD zD;rw[Int.toNat_natCast,Int.toNat_natCast] at hM;have HM:=hid hM;clear hM;go_wp2_with fail;refine HM.out.mono ?_;rintro r w2 ⟨rfl,hb2⟩;have e1:max (Fs b p k:Int) (Cz b p (k+1):Int)=(Fs b p (k+1):Nat):=by simp only[Fs];omega
    go_wp2;go_roundw
    case rel=>exact ⟨k+1,zD,zZ,(by have:(if Fs b p k<Cz b p (k+1) then (Cz b p (k+1):Int) else (Fs b p k:Int))=((Fs b p (k+1):Nat):Int):=(by simp only[Fs];split<;>omega);rw[this]),Ag hb2 hb⟩
    case measure=>simp [intOf];omega
   ·obtain rfl:k=reach p:=by omega
    have hbw:=hb;have hexit:(decide ((reach p:Int)+1≤(p:Int))=false)∨(decide ((reach p:Int)+1≤(p:Int))=true∧decide ((reach p:Int)+1≤65536)=false):=by
     unfold reach;by_cases h6:p≤65536
     ·left;simp;omega
     ·right;constructor<;>simp<;>omega
    generalize hM:Fs b p (reach p)=M at*;generalize hR:reach p=R at*;have HM:=hid hM;have HR:=hid hR;clear hM hR;rcases hexit with d2 | ⟨d2,d3⟩;all_goals
     go_wp2_with fail;go_loopw [4,5,8] (fun _ _ i wr=>∃k:Nat,k≤R∧i=.int .i64 (k+1:Nat)∧Hid (BP b p=Ft b p M (R-k) (k+1))∧Below w.heap.size w wr) (fun _ _ i _=>p+1-(intOf i).toNat)
     case atStart=>exact ⟨0,Ao _,rfl,hff,hbw⟩
     case round=>
      obtain⟨j,hj,rfl,hf,hb⟩:=hrel;clear hff hbw;by_cases hlt:j<R
      ·have d4:decide ((j:Int)+1≤(p:Int))=true:=by simp;omega
       have d5:decide ((j:Int)+1≤65536)=true:=zM;obtain⟨f,hfe⟩:∃f,R-j=f+1:=⟨R-j-1,zD⟩;by_cases h4:4≤M
       ·have d6:decide ((4:Int)≤(M:Int))=true:=by simp;omega
        have hMc:=Ki b (p:Int) ((j+1:Nat):Int) zD zD a b.length c wr (lift HL.out hb) hlen zD zD;rw[Int.toNat_natCast,Int.toNat_natCast] at hMc;by_cases he:Cz b p (j+1)=M
        ·have hend:Hid (BP b p=(j+1,M)):=hid (by rw[hf.out,hfe,QM h4 (by omega) he])
         rw[he] at hMc;have HMc:=hid hMc;clear hMc he hfe;have e1:((M:Int)==(M:Int))=true:=zP;go_wp2_with fail;refine HMc.out.mono ?_;rintro r w2 ⟨rfl,hb2⟩;go_wp2;go_ret2
         exact⟨by rw[hend.out];rfl,Ag hb2 hb⟩
        ·have hend:Hid (BP b p=Ft b p M (R-(j+1)) (j+1+1)):=hid (by rw[hf.out,hfe,MU (fun e=>he e.2),show R-(j+1)=f by omega])
         generalize Cz b p (j+1)=m at*;have HMc:=hid hMc;clear hMc hfe;have e1:((m:Int)==(M:Int))=false:=zM;have e2:(m==M)=false:=zM;clear he;have e3:decide (m=M)=false:=by simp;simpa using e2
         go_wp2_with fail;refine HMc.out.mono ?_;rintro r w2 ⟨rfl,hb2⟩;go_wp2;go_roundw
         case rel=>(repeat apply Exists.intro);refine⟨?_,?_⟩;rotate_left;rfl;exact⟨j+1,zD,zZ,hend,Ag hb2 hb⟩
         case measure=>simp [intOf];omega
       ·have d6:decide ((4:Int)≤(M:Int))=false:=by simp;omega
        have hend:Hid (BP b p=Ft b p M (R-(j+1)) (j+1+1)):=hid (by rw[hf.out,hfe,MU (fun e=>h4 e.1),show R-(j+1)=f by omega]);clear hfe;go_wp2;go_roundw
        case rel=>exact ⟨j+1,zD,zZ,hend,hb⟩
        case measure=>simp [intOf];omega
      ·obtain rfl:j=R:=by omega
       have hend:Hid (BP b p=(0,0)):=hid (by rw[hf.out,Dg,QN]);go_wp2;go_ret2
       exact⟨by rw[hend.out];rfl,hb⟩
 ·have d1:decide ((b.length:Int)≤(p:Int))=true:=by simp;omega
  have d1':decide (b.length≤p)=true:=zM;have hff:Hid (BP b p=(0,0)):=hid (LM fun j _ _=>by have:=Jh b p j;omega);go_enter Tryz.func253,Tryz.ntmps253;go_wp2;go_ret2
  exact⟨zQ,zC⟩
theorem KC(a b:Nat)(ha:a<4294967296)(hb:b<4294967296):bits .or .u32 (a:Int) (b:Int)=((a ||| b:Nat):Int):=by
 have hx:a ||| b<2^32:=Nat.or_lt_two_pow zD zD;have h1:(BitVec.ofInt 32 (a:Int)).toNat=a:=by
  rw[BitVec.ofInt_natCast,BitVec.toNat_ofNat];exact Dq zD
 have h2:(BitVec.ofInt 32 (b:Int)).toNat=b:=by
  rw[BitVec.ofInt_natCast,BitVec.toNat_ofNat];exact Dq zD
 show IntKind.u32.wrap ((BitVec.ofInt 32 (a:Int) ||| BitVec.ofInt 32 (b:Int)).toNat:Int)=_
 rw[BitVec.toNat_or,h1,h2,IntKind.wrap_u32];omega
theorem UZ(a c k:Nat)(h:a<2^k):a ||| (c*2^k)=a+c*2^k:=by
 rw[Nat.or_comm,←Nat.shiftLeft_eq,←Nat.shiftLeft_add_eq_or_of_lt h,Nat.add_comm]
theorem Nm(a c k m:Nat)(hm:2^k=m)(h:a<m)(hc:c*m<4294967296)(ha:a<4294967296):bits .or .u32 (a:Int) ((c:Int)*(m:Int))=(a:Int)+c*m:=by
 have e:((c:Int)*(m:Int))=((c*m:Nat):Int):=zP;rw[e,KC a (c*m) ha hc,←hm,UZ a c k (by rw[hm];exact h)];simp
theorem Tx(x0 x1 x2 x3:UInt8):bits .or .u32 (bits .or .u32 (bits .or .u32 (bits .or .u32 0 ((x0.toNat:Int)%4294967296)) ((x1.toNat:Int)%4294967296*256%4294967296)) ((x2.toNat:Int)%4294967296*65536%4294967296)) ((x3.toNat:Int)%4294967296*16777216%4294967296)=((x0.toNat+256*x1.toNat+65536*x2.toNat+16777216*x3.toNat:Nat):Int):=by
 have h0:=x0.toNat_lt;have h1:=x1.toNat_lt;have h2:=x2.toNat_lt;have h3:=x3.toNat_lt;have e0:(x0.toNat:Int)%4294967296=((x0.toNat:Nat):Int)*((1:Nat):Int):=zD;have e1:(x1.toNat:Int)%4294967296*256%4294967296=(x1.toNat:Int)*((256:Nat):Int):=zD;have e2:(x2.toNat:Int)%4294967296*65536%4294967296=(x2.toNat:Int)*((65536:Nat):Int):=zD;have e3:(x3.toNat:Int)%4294967296*16777216%4294967296=(x3.toNat:Int)*((16777216:Nat):Int):=zD;have ez:(0:Int)=((0:Nat):Int):=rfl;rw[e0,e1,e2,e3,ez,Nm 0 x0.toNat 0 1 zS zD zD zD];have f0:((0:Nat):Int)+(x0.toNat:Int)*((1:Nat):Int)=((x0.toNat:Nat):Int):=zD;rw[f0,Nm x0.toNat x1.toNat 8 256 zS zD zD zD];have f1:(x0.toNat:Int)+(x1.toNat:Int)*((256:Nat):Int)=((x0.toNat+256*x1.toNat:Nat):Int):=zD;rw[f1,Nm (x0.toNat+256*x1.toNat) x2.toNat 16 65536 zS zD zD zD];have f2:((x0.toNat+256*x1.toNat:Nat):Int)+(x2.toNat:Int)*((65536:Nat):Int)=((x0.toNat+256*x1.toNat+65536*x2.toNat:Nat):Int):=zD;rw[f2,Nm (x0.toNat+256*x1.toNat+65536*x2.toNat) x3.toNat 24 16777216 zS zD zD zD];omega
def Ip(b:List UInt8)(p:Nat):Int × Bool:=match Db b p with | some k=>(k,true) | none=>(0,false)
theorem FJ(hp:p+4≤b.length):Db b p=some (b[p].toNat+256*b[p+1].toNat+65536*b[p+2].toNat+16777216*b[p+3].toNat):=by
 unfold Db;rw[AQ (show p<b.length by omega),AQ (show p+1<b.length by omega),AQ (show p+2<b.length by omega),AQ (show p+3<b.length by omega)]
theorem JN(hp:b.length<p+4):Db b p=none:=by
 unfold Db;rw[List.getElem?_eq_none (show b.length≤p+3 by omega)];split<;>simp_all
theorem Qy(b:List UInt8)(p:Nat)(a:Option Addr)(n c:Nat)(w:World)(hl:Ah.r (·<w.heap.size) w [.slice a n c] b)(hlen:b.length≤1048576)(hp:p+4≤b.length):
  Calls Tryz.prog 282 #[.slice a n c,.int .i64 p] w fun r w'=>r=.returned (.tuple #[.int .u32 (Ip b p).1,.bool (Ip b p).2])∧w=w':=by
 have hff:Hid (Ip b p=(((b[p].toNat+256*b[p+1].toNat+65536*b[p+2].toNat+16777216*b[p+3].toNat:Nat):Int),true)):=hid (by unfold Ip;rw[FJ hp]);obtain⟨rfl,hm,_,_⟩:=AU hl;obtain⟨g,o,hA,hg,c0⟩:=Bt hl (i:=p) zD;obtain⟨g1,o1,hA1,_,c1⟩:=Bt hl (i:=p+1) zD;obtain⟨g2,o2,hA2,_,c2⟩:=Bt hl (i:=p+2) zD;obtain⟨g3,o3,hA3,_,c3⟩:=Bt hl (i:=p+3) zD;subst hA;simp only[Cv,Ic,As] at hA1 hA2 hA3;obtain⟨rfl,rfl⟩:=hA1;obtain⟨rfl,rfl⟩:=hA2;obtain⟨rfl,rfl⟩:=hA3;have HL:=hid hl;clear hl;have d0:decide ((p:Int)<0)=false:=zP;have d1:decide ((b.length:Int)-4<(p:Int))=false:=zM;generalize b[p]=x0 at*;generalize b[p+1]=x1 at*;generalize b[p+2]=x2 at*;generalize b[p+3]=x3 at*;have i0:(0:Int)≤(p:Int):=zD;have i1:(p:Int)+3<(b.length:Int):=zD;have i2:(p:Int)+2<(b.length:Int):=zD;have i3:(p:Int)+1<(b.length:Int):=zD;have i4:(p:Int)<(b.length:Int):=zD;go_enter Tryz.func282,Tryz.ntmps282;go_wp2_with fail;refine wp_loop_rounds 5 ?_;rw[rounds_succ];go_wp2_with fail;rw[rounds_succ];go_wp2_with fail;rw[rounds_succ];go_wp2_with fail;rw[rounds_succ];go_wp2_with fail;rw[rounds_succ];go_wp2_with fail;go_ret2
 exact⟨by rw[hff.out,←Tx];rfl,rfl⟩
theorem Qz(b:List UInt8)(p:Nat)(a:Option Addr)(n c:Nat)(w:World)(hl:Ah.r (·<w.heap.size) w [.slice a n c] b)(hlen:b.length≤1048576)(hp:b.length<p+4)(hp2:p≤1048576):
  Calls Tryz.prog 282 #[.slice a n c,.int .i64 p] w fun r w'=>r=.returned (.tuple #[.int .u32 (Ip b p).1,.bool (Ip b p).2])∧w=w':=by
 have hff:Hid (Ip b p=(0,false)):=hid (by unfold Ip;rw[JN hp]);obtain⟨rfl,hm,_,_⟩:=AU hl;clear hl;have d0:decide ((p:Int)<0)=false:=zP;have d1:decide ((b.length:Int)-4<(p:Int))=true:=zM;go_enter Tryz.func282,Tryz.ntmps282;go_wp2;go_ret2
 exact⟨zQ,rfl⟩
theorem MQ(b:List UInt8)(p:Nat)(a:Option Addr)(n c:Nat)(w:World)(hl:Ah.r (·<w.heap.size) w [.slice a n c] b)(hlen:b.length≤1048576)(hp:p≤1048576):
  Calls Tryz.prog 282 #[.slice a n c,.int .i64 p] w fun r w'=>r=.returned (.tuple #[.int .u32 (Ip b p).1,.bool (Ip b p).2])∧w=w':=by
 by_cases h:p+4≤b.length
 ·exact Qy b p a n c w hl hlen h
 ·exact Qz b p a n c w hl hlen zD hp
end Go.Proofs.YtlbffbkbkajciaaGreat
namespace Go.Bs
open Go.RowKit
variable{cells:List (List Value)}{b l:List UInt8}{cs xs:List Value}{base c g i lo n o off p size sz:Nat}{S:Nat → Prop}{a:Option Addr}{e t:TypeId}{v:Value}{W w w':World}
structure Tch(F:Nat→Prop)(w w':World):Prop where
 os:w'.os=w.os
 tape:w'.tape=w.tape
 output:w'.output=w.output
 size:w.heap.size≤w'.heap.size
 block:∀b,b<w.heap.size→¬F b→w'.heap[b]? =w.heap[b]?
section
variable {F G:Nat→Prop} {w w' w'':World}
theorem Tch.refl(F:Nat→Prop)(w:World):Tch F w w:=⟨rfl,rfl,rfl,Aj _,fun _ _ _=>rfl⟩
theorem Tch.trans(h:Tch F w w')(k:Tch G w' w'')(hG:∀b,b<w.heap.size→G b→F b):Tch F w w'':=
 ⟨k.os.trans h.os,k.tape.trans h.tape,k.output.trans h.output,A4 h.size k.size,fun b hb hF=>(k.block b (Am hb h.size) (fun hg=>hF (hG b hb hg))).trans (h.block b hb hF)⟩
theorem Tch.mono(h:Tch F w w')(hF:∀b,b<w.heap.size→F b→G b):Tch G w w':=⟨h.os,h.tape,h.output,h.size,fun b hb hg=>h.block b hb (fun hf=>hg (hF b hb hf))⟩
theorem Tch.FU{B:Nat}(h:Below B w w'):Tch (fun b=>B≤b) w w':=⟨h.os,h.tape,h.output,h.size,fun b hb hf=>h.block b zD⟩
theorem Tch.Ce(h:Below w.heap.size w w'):Tch F w w':=⟨h.os,h.tape,h.output,h.size,fun b hb _=>h.block b hb⟩
theorem Tch.To{row:Option Nat}(h:w.grownBy w' row):Tch (fun b=>row=some b) w w':=⟨h.os,h.tape,h.output,h.size,fun b hb hf=>h.block b hb (fun e=>hf e.symm)⟩
theorem Tch.alloc(h:Tch F w w')(o:Obj):Tch F w (w'.alloc o):=h.trans (Tch.Ce (F:=F) ((Below.refl _ _).alloc (Aj _) o)) fun _ _ h=>h
theorem Tch.drew(h:Tch F w w'):Tch F w w'.drew:=⟨h.os,h.tape,h.output,h.size,h.block⟩
theorem Tch.drewN(h:Tch F w w')(n:Nat):Tch F w (w'.drewN n):=⟨h.os,h.tape,h.output,h.size,h.block⟩
theorem Tch.setCell(h:Tch F w w'){p:Addr}(hp:p.block<w.heap.size→F p.block)(u:Value):Tch F w (w'.setCell p u):=
 ⟨h.os,h.tape,h.output,by simpa [World.setCell] using h.size,fun b hb hf=>(Ap w' p u b (fun e=>hf (e ▸ hp (e ▸ hb)))).trans (h.block b hb hf)⟩
theorem Tch.below{B:Nat}(h:Tch F w w')(hF:∀b,b<w.heap.size→F b→B≤b):Below B w w'∨w.heap.size<B:=by
 by_cases hB:B≤w.heap.size
 ·exact .inl ⟨h.os,h.tape,h.output,h.size,fun b hb=>h.block b zD (fun hf=>by have:=hF b (by omega) hf;omega)⟩
 ·exact .inr zD
theorem Tch.Ba{B:Nat}(h:Tch F w w')(hB:B≤w.heap.size)(hF:∀b,b<w.heap.size→F b→B≤b):Below B w w':=(h.below hF).resolve_right zD
theorem Tch.cell(h:Tch F w w'){p:Addr}(hb:p.block<w.heap.size)(hf:¬F p.block):w'.cell? p=w.cell? p:=Bq (h.block _ hb hf)
theorem Tch.frozen(h:Tch F w w'){p:Addr}(hb:p.block<w.heap.size)(hf:¬F p.block):w'.frozen? p=w.frozen? p:=Cx (h.block _ hb hf)
theorem Blk.tch{cs:Array Value}(h:Blk w g t cs)(k:Tch F w w')(hf:¬F g):Blk w' g t cs:=(k.block g h.lt hf).trans h
theorem Bf(W:World)(e:TypeId)(cs:List Value)(hB:w=W.alloc (.cells cs.toArray e))(hg:g=W.heap.size)(hs:cs.length=sz):Src w (some ⟨g,0,none⟩) 1 sz cs:=by
 subst hB hg;refine⟨zD,.inr ⟨_,0,rfl,fun j u hu=> ?_⟩⟩;rw[Cb,Blk.cell (Blk.new W e cs.toArray)];simpa using hu
end
end Go.Bs
