/- Mini: Needed by feedNone_walk, part 1: texts put together by shake.py; no condition. -/
import Derived.WalkKit
import Derived.WalkLawsBesides
import Derived.WalkSpells
import Derived.Outline
import Derived.BigQuiet
import Derived.Deep.QuietTactic
import Derived.ProofKit
import Derived.OpenShut
import Derived.Deep.Slices
import Derived.Lib.SmallJoins
import Derived.Test.YtfddhafbhceoaaaGreatRows
import Derived.Deep.AppendLies
import Derived.Laws.IdiomStrings
import Derived.Laws.BytesArg
import Derived.Maps.AppendAt
set_option linter.unusedVariables false
set_option linter.unusedSimpArgs false
set_option maxRecDepth 100000
set_option maxHeartbeats 6400000
namespace Go.Bs
variable{b l:List UInt8}{cs xs:List Value}{base c g i k n o off p sz:Nat}{S:Nat → Prop}{a:Option Addr}{e t:TypeId}{v v':Value}{W w w' w1:World}
theorem zB2{p:Prop}(h:p:=by rw [hff.out, Ag rfl, hst.out]; exact HV.out):p:=h
theorem zB1{p:Prop}(h:p:=by rw [hxs.out.2.2, IP]; simp [BS]):p:=h
theorem zBz{p:Prop}(h:p:=by simp only; omega):p:=h
theorem zBm{p:Prop}(h:p:=by simp only [Cz]; rw [Ad (by omega)]; rfl):p:=h
theorem zBh{p:Prop}(h:p:=by rw [hf.out, hst.out, hr]; rfl):p:=h
theorem zBe{p:Prop}(h:p:=by simpa using h1):p:=h
theorem zBd{p:Prop}(h:p:=by simpa using hl):p:=h
theorem zA8{p:Prop}(h:p:=by simpa using hlt):p:=h
theorem zA2{p:Prop}(h:p:=by rw [hf.out, IP]; rfl):p:=h
theorem zAy{p:Prop}(h:p:=by rw [hf3.out]; rfl):p:=h
theorem zAw{p:Prop}(h:p:=by rw [hff.out]; exact Bv rfl (As _) (Ar _) (.inl rfl)):p:=h
theorem zAu{p:Prop}(h:p:=by have := hb1.size; simp at this; omega):p:=h
theorem zAo{p:Prop}(h:p:=by simp [Fi]; omega):p:=h
theorem zAj{p:Prop}(h:p:=by simp [Value.oneCell']):p:=h
theorem Z3{p:Prop}(h:p:=by have := hb.size; omega):p:=h
theorem Z0{p:Prop}(h:p:=by rw [hb.block g (Array.getElem?_eq_some_iff.1 h3).1]; exact h3):p:=h
theorem ZW{p:Prop}(h:p:=by go_simp):p:=h
theorem ZV{p:Prop}(h:p:=by simp only [wrap64]; omega):p:=h
theorem ZS{p:Prop}(h:p:=by simp [byteCells]):p:=h
theorem ZL{p:Prop}(h:p:=by simpa using h):p:=h
theorem ZC{p:Prop}(h:p:=by have := (List.getElem?_eq_some_iff.1 hj).1; rw [hsz _ (A0 hic)] at this; exact this):p:=h
theorem zT{p:Prop}(h:p:=by go_num):p:=h
theorem zP{p:Prop}(h:p:=by rw [hff.out]; rfl):p:=h
theorem zO{p:Prop}(h:p:=by simp only [maxLen]; omega):p:=h
theorem zM{p:Prop}(h:p:=by simp):p:=h
theorem zL{p:Prop}(h:p:=by decide):p:=h
theorem zJ{p:Prop}(h:p:=by kernel_rfl):p:=h
theorem zI{p:Prop}(h:p:=by simp; omega):p:=h
theorem zC{p:Prop}(h:p:=by omega):p:=h
theorem zB{p:Prop}(h:p:=by (repeat (first | exact Below.refl _ _ | assumption | (refine Aw ?_ _) | (refine Below.setCell ?_ (by first | omega | (simp; done) | (simp; omega)) _) | (refine Below.drew ?_) | (refine below_drewN ?_ _) | (refine Aj (by assumption) ?_)))):p:=h
theorem Ad:type_of% @decide_eq_true:=@decide_eq_true
theorem Ae:type_of% @decide_eq_false:=@decide_eq_false
theorem Ag:type_of% @if_pos:=@if_pos
theorem Ai:type_of% @if_neg:=@if_neg
theorem Al:type_of% @List.length_append:=@List.length_append
theorem An:type_of% @Nat.lt_of_lt_of_le:=@Nat.lt_of_lt_of_le
theorem Ao:type_of% @decide_eq_true_eq:=@decide_eq_true_eq
theorem Ap:type_of% @Bool.and_eq_true:=@Bool.and_eq_true
theorem Ar:type_of% @Nat.zero_le:=@Nat.zero_le
theorem As:type_of% @Nat.le_refl:=@Nat.le_refl
theorem At:type_of% @RowKit.Below.heap_setCell:=@RowKit.Below.heap_setCell
theorem Ay:type_of% @List.length_cons:=@List.length_cons
theorem AF:type_of% @List.getElem?_eq_getElem:=@List.getElem?_eq_getElem
theorem AI:type_of% @and_true:=@and_true
theorem AN:type_of% @RowKit.Below.heap_alloc:=@RowKit.Below.heap_alloc
theorem AO:type_of% @List.drop_eq_getElem_cons:=@List.drop_eq_getElem_cons
theorem AQ:type_of% @List.eq_nil_of_length_eq_zero:=@List.eq_nil_of_length_eq_zero
theorem AR:type_of% @Option.some.inj:=@Option.some.inj
theorem AT:type_of% @wpQuiet_nil:=@wpQuiet_nil
theorem AU:type_of% @List.take_succ_eq_append_getElem:=@List.take_succ_eq_append_getElem
theorem A0:type_of% @List.getElem_mem:=@List.getElem_mem
theorem A5:type_of% @info_parts:=@info_parts
theorem A7:type_of% @Nat.zero_add:=@Nat.zero_add
theorem Bb:type_of% @Nat.le_trans:=@Nat.le_trans
theorem Bl:type_of% @Nat.lt_or_ge:=@Nat.lt_or_ge
theorem Bn:type_of% @List.take_append_drop:=@List.take_append_drop
theorem Bp:type_of% @List.take_of_length_le:=@List.take_of_length_le
theorem Bq:type_of% @World.cell?_of_block:=@World.cell?_of_block
theorem BV:type_of% @Option.some.injEq:=@Option.some.injEq
theorem B8:type_of% @List.mem_singleton:=@List.mem_singleton
theorem Ca:type_of% @List.map_cons:=@List.map_cons
theorem Cj:type_of% @List.take_length:=@List.take_length
theorem Cp:type_of% @List.getElem?_append_left:=@List.getElem?_append_left
theorem Cv:type_of% @List.map_append:=@List.map_append
theorem CO:type_of% @Nat.mul_le_mul_right:=@Nat.mul_le_mul_right
theorem CP:type_of% @List.getElem?_append_right:=@List.getElem?_append_right
theorem CV:type_of% @World.frozen?_of_block:=@World.frozen?_of_block
theorem Dn:type_of% @World.block_lt_of_cell?:=@World.block_lt_of_cell?
theorem Dz:type_of% @Bool.true_and:=@Bool.true_and
theorem DR:type_of% @Nat.eq_zero_or_pos:=@Nat.eq_zero_or_pos
theorem DS:type_of% @List.getElem?_take:=@List.getElem?_take
theorem Ed:type_of% @Nat.add_zero:=@Nat.add_zero
theorem EK:type_of% @List.flatten_append:=@List.flatten_append
theorem E3:type_of% @Nat.mul_one:=@Nat.mul_one
theorem Fl:type_of% @List.mem_cons_self:=@List.mem_cons_self
theorem Fm:type_of% @List.drop_drop:=@List.drop_drop
theorem FA:type_of% @List.length_map:=@List.length_map
theorem FR:type_of% @List.mem_cons_of_mem:=@List.mem_cons_of_mem
theorem FT:type_of% @List.getElem?_map:=@List.getElem?_map
theorem FU:type_of% @List.flatten_cons:=@List.flatten_cons
theorem FV:type_of% @bounds_u64:=@bounds_u64
theorem G7:type_of% @List.mem_append:=@List.mem_append
theorem Hu:type_of% @Proofs.Tryz.underlying37:=@Proofs.Tryz.underlying37
theorem IL:type_of% @if_true:=@if_true
theorem IN:type_of% @Nat.mod_eq_of_lt:=@Nat.mod_eq_of_lt
theorem IP:type_of% @List.drop_length:=@List.drop_length
open Go.RowKit
theorem hid{p:Prop}(h:p):Hid p:=h
theorem Aw{a:World}(h:Below a.heap.size a W)(o:Obj):Below a.heap.size a (W.alloc o):=h.alloc h.size _
theorem below_drewN{B:Nat}{a:World}(h:Below B a w)(n:Nat):Below B a (w.drewN n):=⟨h.os,h.tape,h.output,h.size,h.block⟩
theorem Aj{a:World}(hb:Below W.heap.size W w')(h:Below a.heap.size a W):Below a.heap.size a w':=h.trans (hb.mono h.size)
def Blk(w:World)(g:Nat)(t:TypeId)(cs:Array Value):Prop:=w.heap[g]? =some (.cells cs t (0,0))
section
variable {w w':World} {g:Nat} {t:TypeId} {cs:Array Value}
theorem Blk.lt(h:Blk w g t cs):g<w.heap.size:=by
 rcases Bl g w.heap.size with h' | h'
 ·exact h'
 ·unfold Blk at h;rw[Array.getElem?_eq_none h'] at h;cases h
theorem Blk.cell(h:Blk w g t cs)(i:Nat):w.cell? ⟨g,i,none⟩=cs[i]? :=by unfold Blk at h;simp[World.cell?,h]
theorem Blk.free(h:Blk w g t cs)(i:Nat):w.frozen? ⟨g,i,none⟩=false:=by unfold Blk at h;simp[World.frozen?,h]
theorem Blk.new(w:World)(t:TypeId)(cs:Array Value):Blk (w.alloc (.cells cs t)) w.heap.size t cs:=by
 unfold Blk;show (w.heap.push _)[w.heap.size]? =_;simp
theorem Blk.newAt(w:World)(t:TypeId)(cs:Array Value)(h:g=w.heap.size):Blk (w.alloc (.cells cs t)) g t cs:=h ▸ Blk.new w t cs
theorem Blk.Aai(w:World)(o:Obj)(t:TypeId)(cs:Array Value):Blk ((w.alloc o).alloc (.cells cs t)) (w.heap.size+1) t cs:=by
 have:=Blk.new (w.alloc o) t cs
 simpa using this
theorem Blk.alloc(h:Blk w g t cs)(o:Obj):Blk (w.alloc o) g t cs:=(AN w o g h.lt).trans h
theorem Blk.drewN(h:Blk w g t cs)(n:Nat):Blk (w.drewN n) g t cs:=h
theorem Blk.drew(h:Blk w g t cs):Blk w.drew g t cs:=h
theorem Blk.set(h:Blk w g t cs)(i:Nat)(u:Value):Blk (w.setCell ⟨g,i,none⟩ u) g t (cs.setIfInBounds i u):=by
 unfold Blk at h ⊢
 simp[World.setCell,Array.getElem?_modify,h]
theorem Blk.far(h:Blk w g t cs){p:Addr}(hp:g≠p.block)(u:Value):Blk (w.setCell p u) g t cs:=(At w p u g hp).trans h
theorem Blk.below{B:Nat}(h:Blk w g t cs)(hb:Below B w w')(hg:g<B):Blk w' g t cs:=(hb.block g hg).trans h
theorem Blk.later(h:Blk w g t cs)(hb:Below w.heap.size w w'):Blk w' g t cs:=h.below hb h.lt
theorem Blk.grown{row:Option Nat}(h:Blk w g t cs)(hb:w.grownBy w' row)(hg:some g≠row):Blk w' g t cs:=(hb.block g h.lt hg).trans h
end
structure AM(w:World) where
 at_:World
 below:Below w.heap.size w at_
instance (w:World):Inhabited (AM w):=⟨⟨w,Below.refl _ _⟩⟩
theorem AM.cell{w:World}{b o:Nat}{v:Value}(h:w.cell? ⟨b,o,none⟩=some v)(s:AM w):s.at_.cell? ⟨b,o,none⟩=some v:=by
 have hlt:=Dn w _ h
 rw[s.below.cell (p:=⟨b,o,none⟩) hlt];exact h
theorem YX(hb:Below W.heap.size W w1):(∀b o,b<W.heap.size→w1.cell? ⟨b,o,none⟩=W.cell? ⟨b,o,none⟩)∧(∀b o,b<W.heap.size→w1.frozen? ⟨b,o,none⟩=W.frozen? ⟨b,o,none⟩):=
 ⟨fun b o h=>hb.cell (p:=⟨b,o,none⟩) h,fun b o h=>hb.frozen (p:=⟨b,o,none⟩) h⟩
section
variable {P:Program}
theorem Ee{c:Code}{Q:Exit→Act→World→Prop}{a:Act}(F:World→Prop)(hF:F w)(h:∀W,F W→c.wp P Q a W):c.wp P Q a w:=h w hF
theorem Az{id:Nat}{Q:Exit→Act→World→Prop}{a:Act}{w:World}{l:List Oper}(hm:P.follows .mixedOrders=true)(hB:Region.lexB .any l.toArray=true)
 (h:wpQuiet P l.toArray (fun w'=>∃s:AM w,w'=s.at_) (fun a'=>∀w',(∃s:AM w,w'=s.at_)→Q .normal a' w') l a):(Code.region id l.toArray true).wp P Q a w:=
 wp_region_quiet (C:=fun w'=>∃s:AM w,w'=s.at_) hm hB ⟨⟨w.drew,(Below.refl _ _).drew⟩,rfl⟩ ZL
theorem CH{f:FuncId}{args:Array Value}{w:World}{s:AM w}{v:Value}
 (h:Calls P f args s.at_ fun e w'=>e=.returned v∧Below s.at_.heap.size s.at_ w'):Calls P f args s.at_ fun e w''=>e=.returned v∧∃s':AM w,w''=s'.at_:=
 h.mono fun _ w' ⟨he,hb⟩=>⟨he,⟨w',s.below.trans (hb.mono s.below.size)⟩,rfl⟩
theorem GW{f:FuncId}{args:Array Value}{w:World}{s:AM w}{v:Value}
 (h:Calls P f args s.at_ fun e w'=>e=.returned v∧s.at_=w'):Calls P f args s.at_ fun e w''=>e=.returned v∧∃s':AM w,w''=s'.at_:=
 h.mono fun _ _ ⟨he,hb⟩=>⟨he,s,hb.symm⟩
end
open Go.RowKit
structure Rp(α:Type) where
 r:(Nat→Prop)→World→List Value→α→Prop
 keep:∀{S:Nat→Prop} {w w':World} {cs:List Value} {x:α},r S w cs x→(∀b,S b→w'.heap[b]? =w.heap[b]?)→r S w' cs x
 mono:∀{S S':Nat→Prop} {w:World} {cs:List Value} {x:α},r S w cs x→(∀b,S b→S' b)→r S' w cs x
def F6(k:IntKind):Rp Int:=⟨fun _ _ cs n=>cs=[.int k n]∧(Lit.int k n).wf=true,fun h _=>h,fun h _=>h⟩
def YT:Rp UInt8:=⟨fun _ _ cs b=>cs=[.int .u8 (b.toNat:Int)],fun h _=>h,fun h _=>h⟩
def Dr{α β:Type}(A:Rp α)(B:Rp β):Rp (α × β):=
  ⟨fun S w cs x=>∃c d,cs=c++d∧A.r S w c x.1∧B.r S w d x.2,
   fun ⟨c,d,h,h1,h2⟩ hk=>⟨c,d,h,A.keep h1 hk,B.keep h2 hk⟩,fun ⟨c,d,h,h1,h2⟩ hk=>⟨c,d,h,A.mono h1 hk,B.mono h2 hk⟩⟩
def rBy{α β:Type}(f:α→β)(B:Rp β):Rp α:=⟨fun S w cs x=>B.r S w cs (f x),fun h hk=>B.keep h hk,fun h hk=>B.mono h hk⟩
def AaQ{α:Type}(sz:Nat)(A:Rp α)(S:Nat→Prop)(w:World)(b off:Nat)(xs:List α):Prop:=
 S b∧∀i x,xs[i]? =some x→∃cs:List Value,cs.length=sz∧(∀j v,cs[j]? =some v→w.cell? ⟨b,off+i*sz+j,none⟩=some v)∧A.r S w cs x
def rSl{α:Type}(sz:Nat)(A:Rp α):Rp (List α):=
  ⟨fun S w cs xs=>∃a c,cs=[.slice a xs.length c]∧xs.length≤c∧c≤maxLen∧(xs=[]∨∃b off,a=some ⟨b,off,none⟩∧AaQ sz A S w b off xs),
   fun ⟨a,c,h,h1,h2,h3⟩ hk=>⟨a,c,h,h1,h2,h3.imp id fun ⟨b,off,e,hb,hr⟩=>⟨b,off,e,hb,fun i x hi=>
     let ⟨cs,hl,hc,hA⟩:=hr i x hi
     ⟨cs,hl,fun j v hj=>(Bq (a:=⟨b,off+i*sz+j,none⟩) (hk b hb)).trans (hc j v hj),A.keep hA hk⟩⟩⟩,
   fun ⟨a,c,h,h1,h2,h3⟩ hk=>⟨a,c,h,h1,h2,h3.imp id fun ⟨b,off,e,hb,hr⟩=>⟨b,off,e,hk b hb,fun i x hi=>
     let ⟨cs,hl,hc,hA⟩:=hr i x hi
     ⟨cs,hl,hc,A.mono hA hk⟩⟩⟩⟩
theorem Bv{α:Type}{A:Rp α}{xs:List α}(h:cs=[.slice a xs.length c])(h1:xs.length≤c)(h2:c≤maxLen)
 (h3:xs=[]∨∃b off,a=some ⟨b,off,none⟩∧AaQ sz A S w b off xs):(rSl sz A).r S w cs xs:=⟨a,c,h,h1,h2,h3⟩
theorem Se{α:Type}(n:Nat)(Q:Nat→α→Prop)(h:∀i,i<n→∃y,Q i y):∃ys:List α,ys.length=n∧∀i y,ys[i]? =some y→Q i y:=by
 induction n with
 | zero=>exact ⟨[],rfl,fun i y h=>by simp at h⟩
 | succ n ih=>
  obtain⟨ys,h1,h2⟩:=ih fun i hi=>h i zC
  obtain⟨y,hy⟩:=h n zC
  refine⟨ys++[y],by simp[h1],fun i z hz=> ?_⟩
  rcases Bl i ys.length with hi | hi
  ·rw[Cp hi] at hz
   exact h2 i z hz
  ·rw[CP hi] at hz
   have h0:i-ys.length=0:=by
    rcases DR (i-ys.length) with h | h
    ·exact h
    ·rw[List.getElem?_eq_none zI] at hz;cases hz
   rw[h0] at hz
   simp at hz
   subst hz
   have:i=n:=zC
   subst this
   exact hy
theorem Rp.below{α:Type}(A:Rp α){w w':World}{B:Nat}{cs:List Value}{x:α}(h:A.r (·<B) w cs x)(hb:Below B w w'):A.r (·<B) w' cs x:=A.keep h hb.block
section
variable {P:Program}
def G4(P:Program)(t:TypeId){α:Type}(A:Rp α):Prop:=
 ∀{H:Type} (enc:TypeId × Value→H) (w:World) (fuel:Nat) (cs:List Value) (x:DataW H × List MemPlace),DataW.trod enc P w 0 (fun _=>true) true fuel t cs=some x→∃y,A.r (·<w.heap.size) w cs y
theorem U3{k:IntKind}(ht:P.underlying t=some (.int k)):G4 P t (F6 k):=fun enc w fuel cs x h=>by
 obtain⟨n,rfl,_,hw⟩:=DataW.trod_int ht h
 exact⟨n,rfl,hw⟩
theorem S4(ht:P.underlying t=some (.int .u8)):G4 P t YT:=fun enc w fuel cs x h=>by
 obtain⟨n,rfl,_,hw⟩:=DataW.trod_int ht h
 have:=bounds_u8 hw
 refine⟨UInt8.ofNat n.toNat,?_⟩
 show _=_
 have e:((UInt8.ofNat n.toNat).toNat:Int)=n:=by
  simp[UInt8.toNat_ofNat'];omega
 rw[e]
theorem XI{a:Addr}{b:Nat}(h:w.cell? (a.add n)=some v):n=0→a.spot=none:=by
 rintro rfl
 unfold Addr.add at h
 simp only[IL] at h
 unfold World.cell? at h
 cases hs:a.spot with
 | none=>rfl
 | some s=>
  rw[hs] at h
  split at h<;>simp at h
theorem Gn{α:Type}{A:Rp α}(ht:P.underlying t=some (.slice e))(hs:P.cellsOf e=sz)(hsz:0<sz)(hA:G4 P e A):G4 P t (rSl sz A):=fun enc w fuel cs x h=>by
 rcases Deep.open_slice ht h with ⟨rfl,rfl⟩ | ⟨a,len,cap,m,n,D,Pl,rfl,hb,hl,hm,hmm,_,hel⟩
 ·exact⟨[],Bv rfl (As _) (Ar _) (.inl rfl)⟩
 ·have hlm:len≤m:=by simp at hmm;omega
  rw[hs] at hel
  have hy:∀i,i<len→∃y,∃cs':List Value,cs'.length=sz∧(∀j v,cs'[j]? =some v→w.cell? ((a.add (i*sz)).add j)=some v)∧A.r (·<w.heap.size) w cs' y:=by
   intro i hi
   obtain⟨cs',hc,ht'⟩:=hel i zC
   obtain⟨y,hy⟩:=hA enc w n cs' _ ht'
   obtain⟨_,h1,h2⟩:=World.cells?_some hc
   exact⟨y,cs',h1,fun j v hj=>by
    have hj':j<sz:=by rw[←h1];exact (List.getElem?_eq_some_iff.1 hj).1
    rw[h2 j hj'];exact hj,hy⟩
  by_cases h0:len=0
  ·subst h0
   exact⟨[],Bv rfl (Ar _) hm (.inl rfl)⟩
  have hspot:a.spot=none:=by
   obtain⟨y,cs',h1,h2,_⟩:=hy 0 zC
   obtain⟨v,hv⟩:∃v,cs'[0]? =some v:=⟨cs'[0],AF zC⟩
   have:=h2 0 v hv
   have e1:(a.add (0*sz)).add 0=a.add 0:=by simp[Addr.add]
   rw[e1] at this
   exact XI (b:=0) this rfl
  obtain⟨ys,hys⟩:∃ys:List α,ys.length=len∧∀i y,ys[i]? =some y→∃cs':List Value,cs'.length=sz∧(∀j v,cs'[j]? =some v→w.cell? ((a.add (i*sz)).add j)=some v)∧A.r (·<w.heap.size) w cs' y:=by
   exact Se len _ hy
  obtain⟨hlen,hys⟩:=hys
  refine⟨ys,Bv (a:=some a) (c:=cap) (by rw[hlen]) zC hm (.inr ⟨a.block,a.off,by cases a;simp at hspot;rw[hspot],?_,?_⟩)⟩
  ·obtain⟨y,cs',h1,h2,_⟩:=hy 0 zC
   obtain⟨v,hv⟩:∃v,cs'[0]? =some v:=⟨cs'[0],AF zC⟩
   have:=Dn w _ (h2 0 v hv)
   simpa [Addr.add] using this
  ·intro i y hiy
   obtain⟨cs',h1,h2,h3⟩:=hys i y hiy
   refine⟨cs',h1,fun j v hj=> ?_,h3⟩
   rw[←h2 j v hj]
   congr 1
   cases a with
   | mk ab ao asp=>
    simp at hspot
    subst hspot
    unfold Addr.add
    split<;>split<;>simp_all
theorem Hf{H:Type}{enc:TypeId × Value→H}{fuel:Nat}{t:TypeId}{cs:List Value}{x:DataW H × List MemPlace}{fs:Array Field}(ht:P.underlying t=some (.struct fs))(h:DataW.trod enc P w 0 (fun _=>true) true fuel t cs=some x):
  cs.length=P.cellsOf t∧∃n,∀(i:Nat) (f:Field),fs[i]? =some f→∃y,DataW.trod enc P w 0 (fun _=>true) true n f.type ((cs.drop f.offset).take (P.cellsOf f.type))=some y:=by
 obtain⟨xs,n,_,_,h1,h2,h3⟩:=DataW.trod_struct ht h
 refine⟨h1,n,fun i f hf=> ?_⟩
 have hi:i<fs.size:=(Array.getElem?_eq_some_iff.1 hf).1
 rw[h3 i f hf,AF zC]
 exact⟨_,rfl⟩
theorem OX{α β:Type}{A:Rp α}{B:Rp β}{s o':Nat}{x:α}{y:β}(ho:o+s=o')(h1:A.r S w ((cs.drop o).take s) x)(h2:B.r S w (cs.drop o') y):(Dr A B).r S w (cs.drop o) (x,y):=
 ⟨_,_,by subst ho;rw[←Fm,Bn],h1,h2⟩
theorem Vl{β:Type}{B:Rp β}{s:Nat}{y:β}(hl:cs.length=o+s)(h2:B.r S w ((cs.drop o).take s) y):B.r S w (cs.drop o) y:=by
 rwa [Bp zI] at h2
end
open Go.RowKit
structure Be where
 stream:Int
 backs:List Int
structure Entry where
 links:List Be
 data:List UInt8
structure Batch where
 epoch:Int
 base:Int
 entries:List Entry
structure Seg where
 epoch:Int
 batches:List Batch
def Cb:Rp (List Int):=rSl 1 (F6 .u64)
def Am:Rp (List UInt8):=rSl 1 YT
def JR:Rp Be:=rBy (fun l=>(l.stream,l.backs)) (Dr (F6 .u64) Cb)
def Cx:Rp (List Be):=rSl 2 JR
def M7:Rp Entry:=rBy (fun e=>(e.links,e.data)) (Dr Cx Am)
def Br:Rp (List Entry):=rSl 2 M7
def Gv:Rp Batch:=rBy (fun b=>(b.epoch,b.base,b.entries)) (Dr (F6 .u64) (Dr (F6 .u64) Br))
def DN:Rp (List Batch):=rSl 3 Gv
def AaH:Rp Seg:=rBy (fun g=>(g.epoch,g.batches)) (Dr (F6 .u64) DN)
section
variable {S:Nat→Prop} {w:World} {cs:List Value}
theorem AH{α:Type}{A:Rp α}{xs:List α}(h:(rSl sz A).r S w cs xs):∃a c,cs=[.slice a xs.length c]∧(rSl sz A).r S w [.slice a xs.length c] xs∧xs.length≤9223372036854775807:=by
 obtain⟨a,c,rfl,h1,h2,h3⟩:=h
 exact⟨a,c,rfl,⟨a,c,rfl,h1,h2,h3⟩,by unfold maxLen at h2;omega⟩
theorem AL{α:Type}{A:Rp α}{xs:List α}(h:(rSl sz A).r S w [.slice a n c] xs):n=xs.length∧xs.length≤9223372036854775807∧n≤c∧c≤9223372036854775807:=by
 obtain⟨a',c',e,h1,h2,h3⟩:=h
 simp at e
 obtain⟨_,rfl,rfl⟩:=e
 exact⟨rfl,by unfold maxLen at h2;omega,h1,h2⟩
theorem I5{α:Type}{A:Rp α}{xs:List α}(h:(rSl sz A).r S w [.slice a n c] xs)(hi:i<xs.length):
  ∃b off,a=some ⟨b,off,none⟩∧S b∧∃cs:List Value,cs.length=sz∧(∀j v,cs[j]? =some v→w.cell? ⟨b,off+i*sz+j,none⟩=some v)∧A.r S w cs xs[i]:=by
 obtain⟨a',c',e,h1,h2,h3⟩:=h
 simp at e
 obtain⟨rfl,rfl,rfl⟩:=e
 rcases h3 with rfl | ⟨b,off,rfl,hS,hr⟩
 ·simp at hi
 ·obtain⟨cs,hl,hc,hA⟩:=hr i xs[i] (AF hi)
  exact⟨b,off,rfl,hS,cs,hl,hc,hA⟩
theorem Te{x:Be}(h:JR.r S w cs x):∃a c,cs=[.int .u64 x.stream,.slice a x.backs.length c]∧(0≤x.stream∧x.stream≤18446744073709551615)∧Cb.r S w [.slice a x.backs.length c] x.backs:=by
 obtain⟨c1,c2,rfl,⟨rfl,hw⟩,h2⟩:=h
 obtain⟨a,c,rfl,h3,_⟩:=AH h2
 exact⟨a,c,rfl,FV hw,h3⟩
theorem RZ{x:Entry}(h:M7.r S w cs x):∃a c a' c',cs=[.slice a x.links.length c,.slice a' x.data.length c']∧Cx.r S w [.slice a x.links.length c] x.links∧Am.r S w [.slice a' x.data.length c'] x.data:=by
 obtain⟨c1,c2,rfl,h1,h2⟩:=h
 obtain⟨a,c,rfl,h3,_⟩:=AH h1
 obtain⟨a',c',rfl,h4,_⟩:=AH h2
 exact⟨a,c,a',c',rfl,h3,h4⟩
theorem Ms{x:Batch}(h:Gv.r S w cs x):∃a c,cs=[.int .u64 x.epoch,.int .u64 x.base,.slice a x.entries.length c]∧(0≤x.epoch∧x.epoch≤18446744073709551615)∧(0≤x.base∧x.base≤18446744073709551615)∧Br.r S w [.slice a x.entries.length c] x.entries:=by
 obtain⟨c1,c2,rfl,⟨rfl,hw⟩,d1,d2,rfl,⟨rfl,hw2⟩,h2⟩:=h
 obtain⟨a,c,rfl,h3,_⟩:=AH h2
 exact⟨a,c,rfl,FV hw,FV hw2,h3⟩
theorem UW{x:Seg}(h:AaH.r S w cs x):∃a c,cs=[.int .u64 x.epoch,.slice a x.batches.length c]∧(0≤x.epoch∧x.epoch≤18446744073709551615)∧DN.r S w [.slice a x.batches.length c] x.batches:=by
 obtain⟨c1,c2,rfl,⟨rfl,hw⟩,h2⟩:=h
 obtain⟨a,c,rfl,h3,_⟩:=AH h2
 exact⟨a,c,rfl,FV hw,h3⟩
theorem F0{n:Int}(h:0≤n∧n≤18446744073709551615):(Lit.int .u64 n).wf=true:=by
 simp[Lit.wf,IntKind.min,IntKind.max,IntKind.signed,IntKind.bits];omega
theorem Qe{x:Be}(h0:0≤x.stream∧x.stream≤18446744073709551615)(h:Cb.r S w [.slice a n c] x.backs):JR.r S w [.int .u64 x.stream,.slice a n c] x:=⟨[_],[_],rfl,⟨rfl,F0 h0⟩,h⟩
theorem XH{x:Batch}(h0:0≤x.epoch∧x.epoch≤18446744073709551615)(h1:0≤x.base∧x.base≤18446744073709551615)(h:Br.r S w [v] x.entries):Gv.r S w [.int .u64 x.epoch,.int .u64 x.base,v] x:=
 ⟨[_],[_,_],rfl,⟨rfl,F0 h0⟩,[_],[_],rfl,⟨rfl,F0 h1⟩,h⟩
theorem J5{xs:List Int}(h:Cb.r S w [.slice a n c] xs)(hi:i<xs.length):∃b off,a=some ⟨b,off,none⟩∧S b∧w.cell? ⟨b,off+i,none⟩=some (.int .u64 xs[i])∧0≤xs[i]∧xs[i]≤18446744073709551615:=by
 obtain⟨b,off,e,hS,cs,_,hc,rfl,hw⟩:=I5 h hi
 have:=hc 0 _ rfl
 rw[E3,Ed] at this
 exact⟨b,off,e,hS,this,FV hw⟩
theorem Dg{xs:List UInt8}(h:Am.r S w [.slice a n c] xs)(hi:i<xs.length):∃b off,a=some ⟨b,off,none⟩∧S b∧w.cell? ⟨b,off+i,none⟩=some (.int .u8 (xs[i].toNat:Int)):=by
 obtain⟨b,off,e,hS,cs,_,hc,rfl⟩:=I5 h hi
 have:=hc 0 _ rfl
 rw[E3,Ed] at this
 exact⟨b,off,e,hS,this⟩
theorem FK{xs:List Be}(h:Cx.r S w [.slice a n c] xs)(hi:i<xs.length):∃b off,a=some ⟨b,off,none⟩∧S b∧∃a' c',w.cell? ⟨b,off+i*2,none⟩=some (.int .u64 xs[i].stream)∧w.cell? ⟨b,off+i*2+1,none⟩=some (.slice a' xs[i].backs.length c')∧
  (0≤xs[i].stream∧xs[i].stream≤18446744073709551615)∧Cb.r S w [.slice a' xs[i].backs.length c'] xs[i].backs:=by
 obtain⟨b,off,e,hS,cs,_,hc,hA⟩:=I5 h hi
 obtain⟨a',c',rfl,h1,h2⟩:=Te hA
 exact⟨b,off,e,hS,a',c',hc 0 _ rfl,hc 1 _ rfl,h1,h2⟩
theorem Fj{xs:List Entry}(h:Br.r S w [.slice a n c] xs)(hi:i<xs.length):∃b off,a=some ⟨b,off,none⟩∧S b∧∃a1 c1 a2 c2,w.cell? ⟨b,off+i*2,none⟩=some (.slice a1 xs[i].links.length c1)∧w.cell? ⟨b,off+i*2+1,none⟩=some (.slice a2 xs[i].data.length c2)∧
  Cx.r S w [.slice a1 xs[i].links.length c1] xs[i].links∧Am.r S w [.slice a2 xs[i].data.length c2] xs[i].data:=by
 obtain⟨b,off,e,hS,cs,_,hc,hA⟩:=I5 h hi
 obtain⟨a1,c1,a2,c2,rfl,h1,h2⟩:=RZ hA
 exact⟨b,off,e,hS,a1,c1,a2,c2,hc 0 _ rfl,hc 1 _ rfl,h1,h2⟩
theorem Jz{xs:List Batch}(h:DN.r S w [.slice a n c] xs)(hi:i<xs.length):∃b off,a=some ⟨b,off,none⟩∧S b∧∃a' c',w.cell? ⟨b,off+i*3,none⟩=some (.int .u64 xs[i].epoch)∧w.cell? ⟨b,off+i*3+1,none⟩=some (.int .u64 xs[i].base)∧w.cell? ⟨b,off+i*3+2,none⟩=some (.slice a' xs[i].entries.length c')∧
  (0≤xs[i].epoch∧xs[i].epoch≤18446744073709551615)∧(0≤xs[i].base∧xs[i].base≤18446744073709551615)∧Br.r S w [.slice a' xs[i].entries.length c'] xs[i].entries:=by
 obtain⟨b,off,e,hS,cs,_,hc,hA⟩:=I5 h hi
 obtain⟨a',c',rfl,h1,h2,h3⟩:=Ms hA
 exact⟨b,off,e,hS,a',c',hc 0 _ rfl,hc 1 _ rfl,hc 2 _ rfl,h1,h2,h3⟩
end
theorem lift{α:Type}{A:Rp α}{x:α}(h:A.r (·<w.heap.size) w cs x)(hb:Below w.heap.size w w'):A.r (·<w'.heap.size) w' cs x:=
 A.mono (A.below h hb) fun b hlt=>An hlt hb.size
def epR(e:Int):Bool:=decide (1≤e∧e<4611686018427387904)
def poR(e:Int):Bool:=decide (e<4611686018427387904)
def Cz:Int→List Int→Bool
 | _,[]=>true
 | b,x::l=>decide (x<b)&&Cz x l
def C9:List Int→Bool
 | []=>true
 | [_]=>true
 | x::y::l=>decide (x<y)&&C9 (y::l)
def DL(pos:Int)(x:Be):Bool:=decide (x.backs.length≤4)&&Cz pos x.backs
def DI(pos:Int)(l:List Be):Bool:=decide (l.length≤16)&&(C9 (l.map Be.stream)&&l.all (DL pos))
def D8(pos:Int)(e:Entry):Bool:=DI pos e.links&&decide (e.data.length≤1048576)
def total(l:List Entry):Nat:=(l.map fun e=>e.data.length).sum
def C5:Int→List Entry→Bool
 | _,[]=>true
 | p,e::l=>D8 p e&&C5 (p+1) l
def Fi(base:Int)(n:Nat):Bool:=decide (1≤n∧n≤16∧base<4611686018427387904∧base+n≤4611686018427387904)
def Bg(b:Batch):Bool:=epR b.epoch&&(Fi b.base b.entries.length&&(decide (total b.entries≤1048576)&&C5 b.base b.entries))
end Go.Bs
namespace Go.Proofs.YtfddhafbhceoaaaGreat
open Go.RowKit Go.Bs
variable{b:List UInt8}{base c k n off p sz:Nat}{S:Nat → Prop}{a:Option Addr}{e:TypeId}{v:Value}{w:World}
theorem ED(e:Int)(w:World):Calls Tryz.prog 142 #[.int .u64 e] w fun r w'=>r=.returned (.bool (epR e))∧w=w':=by
 by_cases h1:1≤e
 ·by_cases h2:e<4611686018427387904
  ·have:epR e=true:=by simp[epR,h1,h2]
   rw[this]
   have d1:decide (1≤e)=true:=zBe
   have d2:decide (e<4611686018427387904)=true:=by simpa using h2
   clear this h1 h2
   go_enter Tryz.func142,Tryz.ntmps142
   go_wp2
   go_ret
   exact⟨rfl,rfl⟩
  ·have:epR e=false:=by simp[epR,h2]
   rw[this]
   have d1:decide (1≤e)=true:=zBe
   have d2:decide (e<4611686018427387904)=false:=by simpa using h2
   clear this h1 h2
   go_enter Tryz.func142,Tryz.ntmps142
   go_wp2
   go_ret
   exact⟨rfl,rfl⟩
 ·have:epR e=false:=by simp[epR,h1]
  rw[this]
  have d1:decide (1≤e)=false:=zBe
  clear this h1
  go_enter Tryz.func142,Tryz.ntmps142
  go_wp2
  go_ret
  exact⟨rfl,rfl⟩
theorem Ic(e:Int)(w:World):Calls Tryz.prog 256 #[.int .u64 e] w fun r w'=>r=.returned (.bool (poR e))∧w=w':=by
 go_enter Tryz.func256,Tryz.ntmps256
 go_wp2
 go_ret
 exact⟨rfl,rfl⟩
theorem Um:(Tryz.prog.info? 36).map (fun i=>(i.zero,i.size,i.bytes))=some (some (.int .u64 0),1,8):=zJ
def BS:Int→List Int→List Int
 | _,[]=>[]
 | b,x::l=>(b-x-1)::BS x l
def ahead(b:Int)(l:List Int)(k:Nat):Int:=if k=0 then b else l.getD (k-1) 0
theorem Ob(b:Int)(l:List Int)(k:Nat)(h:k<l.length):ahead b l (k+1)=l[k]:=by
 unfold ahead;rw[Ai zC];simp[h]
def XL(below:Int)(l:List Int)(w:World)(e:Ending)(w':World):Prop:=
 ∃v,e=.returned (.tuple #[v,.bool (Cz below l)])∧Cb.r (·<w'.heap.size) w' [v] (if Cz below l then BS below l else [])∧Below w.heap.size w w'
theorem WH{xs:List Int}(h:w.ownsRow base e 1 v xs.length (xs.map (Value.int .u64)))(hb:∀x∈xs,0≤x∧x≤18446744073709551615)(hm:xs.length≤maxLen):Cb.r (·<w.heap.size) w [v] xs:=by
 rcases h.2 with ⟨rfl,h0⟩ | ⟨g,cap,cur,rfl,hbg,hg,hn,hc,hcur,hx⟩
 ·have:xs=[]:=AQ h0
  subst this
  exact Bv rfl (As _) (Ar _) (.inl rfl)
 ·refine Bv rfl hn hc (.inr ⟨g,0,rfl,Blk.lt hg,fun i x hi=>⟨[.int .u64 x],rfl,fun j v hj=> ?_,rfl,F0 (hb x (List.mem_of_getElem? hi))⟩⟩)
  have hj0:j=0:=by
   rcases j with _ | j
   ·rfl
   ·simp at hj
  subst hj0
  simp at hj
  subst hj
  have hi':i<xs.length:=(List.getElem?_eq_some_iff.1 hi).1
  rw[A7,E3,Ed,Blk.cell hg i]
  have e1:cur[i]? =(cur.toList.take (xs.length*1))[i]? :=by
   rw[DS,Ag zC];simp
  rw[e1,hx,FT,hi];rfl
theorem UT(below:Int)(l:List Int)(a:Option Addr)(n c:Nat)(w:World)(hb0:0≤below∧below≤18446744073709551615)(hl:Cb.r (·<w.heap.size) w [.slice a n c] l)(hlen:l.length≤1000000000000):
  Calls Tryz.prog 356 #[.int .u64 below,.slice a n c] w (XL below l w):=by
 obtain⟨rfl,hm,_,_⟩:=AL hl
 obtain⟨i0,hi,hz0,hz1,hz2⟩:=A5 Um
 have HL:=hid hl;clear hl
 go_enter Tryz.func356,Tryz.ntmps356
 go_wp2
 go_loopw [0,6,11] (fun b v i wr=>∃k:Nat,k≤l.length∧i=.int .i64 k∧b=.int .u64 (ahead below l k)∧0≤ahead below l k∧ahead below l k≤18446744073709551615∧Hid (Cz below l=Cz (ahead below l k) (l.drop k))∧
   (∃xs:List Int,Hid (xs.length=k∧(∀x∈xs,0≤x∧x≤18446744073709551615)∧BS below l=xs++BS (ahead below l k) (l.drop k))∧wr.ownsRow w.heap.size 36 1 v k (xs.map (Value.int .u64)))∧Below w.heap.size w wr) (fun _ _ i _=>l.length-(intOf i).toNat)
 case atStart=>exact ⟨0,Ar _,rfl,rfl,hb0.1,hb0.2,hid rfl,⟨[],hid ⟨rfl,zM,rfl⟩,⟨rfl,.inl ⟨rfl,rfl⟩⟩⟩,Below.refl _ _⟩
 case round=>
  obtain⟨k,hk,rfl,rfl,ha0,ha1,hf,⟨xs,hxs,hown⟩,hb⟩:=hrel
  by_cases hlt:k<l.length
  ·obtain⟨b,o,hA,hbb,hc,hx0,hx1⟩:=J5 HL.out hlt
   subst hA
   have q:=(hb.cell (p:=⟨b,o+k,none⟩) hbb).trans hc
   clear hc
   have hd:=hid (AO hlt)
   have hsu:=hid (Ob below l k hlt)
   generalize hlk:l[k]=x at*
   clear hlk
   generalize ahead below l k=p at*
   by_cases hge:p≤x
   ·have hff:Hid (Cz below l=false):=by
     rw[hf.out,hd.out];exact hid (by simp[Cz];omega)
    go_wp2
    go_ret2
    exact⟨.slice none 0 0,zP,zAw,hb⟩
   ·have hbs:=hb.size
    have w1:0≤p-x:=zC
    have w2:0≤p-x-1:=zC
    go_wp2_with (at_builtin;refine wpList_append_lies _ rfl _ _ _ rfl w.heap.size 36 i0 (.int .u64 0) 1 8 Hu hi hz0 hz1 hz2 rfl zL _ k _ rfl (hown.alloc _) ⟨wr.heap.size,0,none⟩ 1 1 [.int .u64 (p-x-1)] rfl rfl (World.news_of_block (Blk.new _ _ _)) zAj zL zO zC zI _ rfl ?_;intro g1 cap1 w1' hown1 hgrow1 hat1 hlt1)
    go_roundw
    case rel=>
     refine⟨k+1,zC,zT,by rw[hsu.out],by rw[hsu.out];exact hx0,by rw[hsu.out];exact hx1,?_,⟨xs++[p-x-1],?_,?_⟩,?_⟩
     ·rw[hf.out,hd.out,hsu.out]
      exact hid zBm
     ·refine hid ⟨by simp[hxs.out.1],?_,?_⟩
      ·intro y hy
       rw[G7,B8] at hy
       rcases hy with hy | rfl
       ·exact hxs.out.2.1 y hy
       ·omega
      ·rw[hsu.out,hxs.out.2.2,hd.out]
       simp[BS]
     ·rw[Cv];exact hown1
     ·refine Below.grown ?_ hgrow1 zI (fun g e=>(hown.lt g e).1)
      exact hb.alloc hbs _
    case measure=>simp [intOf];omega
  ·obtain rfl:k=l.length:=by omega
   have hff:Hid (Cz below l=true):=by
    rw[hf.out,IP];exact hid rfl
   have hxl:=hxs.out.1
   have hst:Hid (BS below l=xs):=hid zB1
   have hv:Cb.r (·<wr.heap.size) wr [u6] xs:=WH (by rw[hxl];exact hown) hxs.out.2.1 (by unfold maxLen;omega)
   have HV:=hid hv;clear hv hxl
   go_wp2
   go_ret2
   exact⟨u6,zP,zB2,hb⟩
theorem Sa(below:Int)(l:List Int)(a:Option Addr)(n c:Nat)(w:World)(hb0:0≤below∧below≤18446744073709551615)(hl:Cb.r (·<w.heap.size) w [.slice a n c] l)(hlen:l.length≤1000000000000):
  Calls Tryz.prog 336 #[.int .u64 below,.slice a n c] w fun r w'=>r=.returned (.bool (Cz below l))∧Below w.heap.size w w':=by
 have HL:=hid hl;clear hl
 go_enter Tryz.func336,Tryz.ntmps336
 go_wp2_with fail
 refine (UT below l a n c _ hb0 HL.out hlen).mono ?_
 rintro e w1 ⟨v,rfl,_,hb1⟩
 go_wp2
 go_ret
 exact⟨rfl,hb1⟩
end Go.Proofs.YtfddhafbhceoaaaGreat
namespace Go.Bs
open Go.RowKit
variable{b l:List UInt8}{cs xs:List Value}{base c g i k n o off p sz:Nat}{S:Nat → Prop}{a:Option Addr}{e t:TypeId}{v v':Value}{W w w' w1:World}
deriving instance DecidableEq for Be,Entry,Batch,Seg
theorem LQ{P:Program}(src dst e:TypeId)(hs:P.underlying src=some (.slice e))(he:P.underlying e=some (.int .u8))(hd:P.underlying dst=some .string)
 (h:Am.r S w [.slice a n c] l):(convert src dst (.slice a l.length c)).run P w=.ok (.string ⟨l.toArray⟩) w:=by
 obtain⟨rfl,_,_,_⟩:=AL h
 rcases a with _ | ad
 ·have h0:l=[]:=by
   rcases l with _ | ⟨x,l⟩
   ·rfl
   ·obtain⟨b,off,e,_⟩:=Dg h (i:=0) zM
    cases e
  subst h0
  exact run_convert_bytes_nil w src e hs he _ _ dst hd
 ·refine run_convert_bytes_back w src dst e ad c l hs he hd fun j hj=> ?_
  obtain⟨b,off,e,_,hc⟩:=Dg h hj
  simp at e
  subst e
  rw[←hc]
  congr 1
  unfold Addr.add
  split
  ·rename_i h0;subst h0;rfl
  ·rfl
end Go.Bs
namespace Go.Proofs.YtfddhafbhceoaaaGreat
open Go.RowKit Go.Bs
variable{b:List UInt8}{base c k n off p sz:Nat}{S:Nat → Prop}{a:Option Addr}{e:TypeId}{v:Value}{w:World}
def Gg(l:List Int)(k:Nat):Bool:=if k=0 then C9 l else C9 (l.drop (k-1))
theorem QW(l:List Int):Gg l 1=Gg l 0:=by simp[Gg]
theorem PQ(l:List Int)(m:Nat)(h:m+1<l.length):Gg l (m+1)=(decide (l[m]<l[m+1])&&Gg l (m+2)):=by
 have e1:l.drop m=l[m]::l[m+1]::l.drop (m+2):=by
  rw[AO (show m<l.length by omega),AO h]
 have e2:l.drop (m+1)=l[m+1]::l.drop (m+2):=AO h
 show C9 (l.drop m)=(_&&C9 (l.drop (m+1)))
 rw[e1,e2];rfl
theorem QX(l:List Int):Gg l l.length=true:=by
 unfold Gg
 split
 ·rename_i h;rw[AQ h];rfl
 ·rename_i h
  have e:l.drop (l.length-1)=[l[l.length-1]]:=by
   rw[AO (show l.length-1<l.length by omega),List.drop_of_length_le zC]
  rw[e];rfl
theorem Mc(s:Int)(v:Value)(h1:v.oneCell'=true)(w:World):Calls Tryz.prog 334 #[.agg #[.int .u64 s,v]] w fun r w'=>r=.returned (.int .u64 s)∧Below w.heap.size w w':=by
 go_enter Tryz.func334,Tryz.ntmps334
 go_wp2
 go_ret
 exact⟨rfl,zB⟩
theorem Tb(l:List Be)(a:Option Addr)(n c:Nat)(w:World)(hl:Cx.r (·<w.heap.size) w [.slice a n c] l):
  Calls Tryz.prog 333 #[.slice a n c,.func (.func 334) #[] #[]] w fun r w'=>r=.returned (.bool (C9 (l.map Be.stream)))∧Below w.heap.size w w':=by
 obtain⟨rfl,hm,_,_⟩:=AL hl
 have HL:=hid hl;clear hl
 go_enter Tryz.func333,Tryz.ntmps333
 go_wp2
 go_loopw [8] (fun i wr=>∃k:Nat,k≤l.length∧i=.int .i64 k∧Hid (C9 (l.map Be.stream)=Gg (l.map Be.stream) k)∧Below w.heap.size w wr) (fun i _=>l.length-(intOf i).toNat)
 case atStart=>exact ⟨0,Ar _,rfl,hid rfl,Below.refl _ _⟩
 case round=>
  obtain⟨k,hk,rfl,hf,hb⟩:=hrel
  by_cases hlt:k<l.length
  ·obtain⟨b,o,hA,hbb,a1,c1,hc0,hc1,_,_⟩:=FK HL.out hlt
   have hlt':(k:Int)<(l.length:Int):=zC
   rcases k with _ | m
   ·have h1:=hid (QW (l.map Be.stream))
    go_wp2_with fail
    refine Az zJ zJ ?_
    repeat (go_big_quiet_step (fail))
    refine AT ?_
    rintro W5 ⟨⟨W5',hb5⟩,rfl⟩
    go_wp2
    go_roundw
    case rel=>exact ⟨1,zC,rfl,hid (by rw[hf.out,h1.out]),Aj hb5 hb⟩
    case measure=>simp [intOf];omega
   ·obtain⟨b',o',hA',hbb',a2,c2,hd0,hd1,_,_⟩:=FK HL.out (show m<l.length by omega)
    have hst:=hid (PQ (l.map Be.stream) m zA8)
    subst hA
    obtain⟨rfl,rfl⟩:b'=b∧o'=o:=by simp at hA';exact⟨hA'.1.symm,hA'.2.symm⟩
    clear hA'
    have X0:=fun s:AM wr=>s.cell ((hb.cell (p:=⟨b',o'+(m+1)*2,none⟩) hbb).trans hc0)
    have X1:=fun s:AM wr=>s.cell ((hb.cell (p:=⟨b',o'+(m+1)*2+1,none⟩) hbb).trans hc1)
    have Y0:=fun s:AM wr=>s.cell ((hb.cell (p:=⟨b',o'+m*2,none⟩) hbb).trans hd0)
    have Y1:=fun s:AM wr=>s.cell ((hb.cell (p:=⟨b',o'+m*2+1,none⟩) hbb).trans hd1)
    clear hc0 hc1 hd0 hd1
    simp only[List.getElem_map] at hst
    generalize l[m+1].stream=x at*
    generalize l[m].stream=y at*
    generalize l[m+1].backs.length=n1 at*
    generalize l[m].backs.length=n2 at*
    rw[show ((m+1:Nat):Int)=(m:Int)+1 from zC]
    have k1:(0:Int)<(m:Int)+1:=zC
    have k2:(0:Int)≤(m:Int)+1-1:=zC
    have k3:(m:Int)+1<(l.length:Int):=zC
    have k4:(m:Int)<(l.length:Int):=zC
    by_cases hge:x≤y
    ·have d1:decide (x≤y)=true:=by simpa using hge
     have hff:Hid (C9 (l.map Be.stream)=false):=hid (by rw[hf.out,hst.out];simp;omega)
     clear hge
     go_wp2_with fail
     refine Az zJ zJ ?_
     repeat (go_big_quiet_step (((go_at_call 334;exact CH (Mc _ _ rfl _)))))
     refine AT ?_
     rintro W5 ⟨⟨W5',hb5⟩,rfl⟩
     go_wp2
     go_ret
     exact⟨zP,Aj hb5 hb⟩
    ·have d1:decide (x≤y)=false:=by simpa using hge
     have hst':Hid (Gg (l.map Be.stream) (m+1)=Gg (l.map Be.stream) (m+2)):=hid (by rw[hst.out,Ad (by omega)];rfl)
     clear hge
     go_wp2_with fail
     refine Az zJ zJ ?_
     repeat (go_big_quiet_step (((go_at_call 334;exact CH (Mc _ _ rfl _)))))
     refine AT ?_
     rintro W5 ⟨⟨W5',hb5⟩,rfl⟩
     go_wp2
     go_roundw
     case rel=>exact ⟨m+2,zC,zT,hid (by rw[hf.out,hst'.out]),Aj hb5 hb⟩
     case measure=>simp [intOf];omega
  ·obtain rfl:k=l.length:=by omega
   have hff:Hid (C9 (l.map Be.stream)=true):=hid (by
    have:=QX (l.map Be.stream)
    rw[FA] at this
    rw[hf.out,this])
   go_wp2
   go_ret
   exact⟨zP,hb⟩
theorem Ta(pos:Int)(x:Be)(a:Option Addr)(n c:Nat)(blk:Nat)(w:World)(hpos:0≤pos∧pos≤18446744073709551615)(hx:Cb.r (·<w.heap.size) w [.slice a n c] x.backs)(hlen:x.backs.length≤1000000000000)
 (hc:w.cell? ⟨blk,0,none⟩=some (.int .u64 pos)):
  Calls Tryz.prog 335 #[.agg #[.int .u64 x.stream,.slice a n c],.pointer (some ⟨blk,0,none⟩)] w fun r w'=>r=.returned (.bool (!DL pos x))∧Below w.heap.size w w':=by
 obtain⟨rfl,hm,_,_⟩:=AL hx
 have hlt:=Dn w _ hc
 have X0:=(AM.mk _ ((Below.refl w.heap.size w).alloc (As _) (.cells #[.int .u64 x.stream,.slice a x.backs.length c] 215))).cell hc
 by_cases h4:4<x.backs.length
 ·have hff:DL pos x=false:=by simp[DL];omega
  rw[hff]
  clear hff hx hc
  go_enter Tryz.func335,Tryz.ntmps335
  go_wp2
  go_ret
  exact⟨rfl,zB⟩
 ·have hff:DL pos x=Cz pos x.backs:=by simp only[DL];rw[Ad zC];rfl
  rw[hff]
  have d4:decide (4<(x.backs.length:Int))=false:=zI
  have HX:=hid hx;clear hx hff
  go_enter Tryz.func335,Tryz.ntmps335
  go_wp2_with fail
  refine (Sa pos x.backs _ _ _ _ hpos (lift HX.out zB) hlen).mono ?_
  rintro e w1 ⟨rfl,hb1⟩
  go_wp2
  go_ret
  exact⟨rfl,zB⟩
theorem MW{α:Type}(p:α→Bool)(l:List α)(k:Nat)(h:k<l.length):(l.drop k).takeWhile p=if p l[k] then l[k]::(l.drop (k+1)).takeWhile p else []:=by
 rw[AO h,List.takeWhile_cons]
theorem Ok{α:Type}(p:α→Bool)(l:List α):decide ((l.takeWhile p).length=l.length)=l.all p:=by
 induction l with
 | nil=>rfl
 | cons x l ih=>
  rw[List.takeWhile_cons,List.all_cons]
  cases h:p x
  ·simp
  ·simp only[IL,Ay,Nat.add_right_cancel_iff,Dz];exact ih
theorem Tc(pos:Int)(l:List Be)(a:Option Addr)(n c:Nat)(blk:Nat)(w:World)(hpos:0≤pos∧pos≤18446744073709551615)(hl:Cx.r (·<w.heap.size) w [.slice a n c] l)(hbk:∀x∈l,x.backs.length≤1000000000000)
 (hc:w.cell? ⟨blk,0,none⟩=some (.int .u64 pos)):
  Calls Tryz.prog 337 #[.slice a n c,.func (.func 335) #[] #[.pointer (some ⟨blk,0,none⟩)]] w fun r w'=>r=.returned (.int .i64 ((l.takeWhile (DL pos)).length:Nat))∧Below w.heap.size w w':=by
 obtain⟨rfl,hm,_,_⟩:=AL hl
 have HL:=hid hl;clear hl
 have HB:=hid hbk;clear hbk
 have hblk:=Dn w _ hc
 have HC:=hid hc;clear hc
 go_enter Tryz.func337,Tryz.ntmps337
 go_wp2
 go_loopw [9] (fun i wr=>∃k:Nat,k≤l.length∧i=.int .i64 k∧Hid ((l.takeWhile (DL pos)).length=k+((l.drop k).takeWhile (DL pos)).length)∧Below w.heap.size w wr) (fun i _=>l.length-(intOf i).toNat)
 case atStart=>exact ⟨0,Ar _,rfl,hid zM,Below.refl _ _⟩
 case round=>
  obtain⟨k,hk,rfl,hf,hb⟩:=hrel
  by_cases hlt:k<l.length
  ·obtain⟨b,o,hA,hbb,a1,c1,hc0,hc1,_,hbs⟩:=FK HL.out hlt
   subst hA
   have X0:=(hb.cell (p:=⟨b,o+k*2,none⟩) hbb).trans hc0
   have X1:=(hb.cell (p:=⟨b,o+k*2+1,none⟩) hbb).trans hc1
   clear hc0 hc1
   have hbl:=HB.out _ (A0 hlt)
   have hst:=hid (MW (DL pos) l k hlt)
   have HBS:=hid hbs;clear hbs
   generalize hlk:l[k]=x at*
   clear hlk
   have hzz:=hb.size
   go_wp2_with fail
   refine (Ta pos x _ _ _ blk _ hpos (lift HBS.out zB) hbl ?_).mono ?_
   ·have:=(AM.mk wr hb).cell HC.out
    exact (AM.mk _ ((Below.refl wr.heap.size wr).alloc (As _) _)).cell this
   rintro e w1 ⟨rfl,hb1⟩
   have hb2:Below w.heap.size w w1:=zB
   cases hr:DL pos x
   ·have hff:Hid ((l.takeWhile (DL pos)).length=k):=hid (by rw[hf.out,hst.out,hr];simp)
    clear hr
    go_wp2
    go_ret
    exact⟨zP,hb2⟩
   ·have hff:Hid ((l.takeWhile (DL pos)).length=(k+1)+((l.drop (k+1)).takeWhile (DL pos)).length):=hid (by rw[hf.out,hst.out,hr];simp;omega)
    clear hr
    go_wp2
    go_roundw
    case rel=>exact ⟨k+1,zC,zT,hff,hb2⟩
    case measure=>simp [intOf];omega
  ·obtain rfl:k=l.length:=by omega
   have hff:Hid ((l.takeWhile (DL pos)).length=l.length):=hid (by rw[hf.out,IP];simp)
   go_wp2
   go_ret
   exact⟨zP,hb⟩
theorem Kj(pos:Int)(l:List Be)(a:Option Addr)(n c:Nat)(w:World)(hpos:0≤pos∧pos≤18446744073709551615)(hl:Cx.r (·<w.heap.size) w [.slice a n c] l)(hbk:∀x∈l,x.backs.length≤1000000000000):
  Calls Tryz.prog 277 #[.int .u64 pos,.slice a n c] w fun r w'=>r=.returned (.bool (DI pos l))∧Below w.heap.size w w':=by
 obtain⟨rfl,hm,_,_⟩:=AL hl
 have HL:=hid hl;clear hl
 have HB:=hid hbk;clear hbk
 by_cases h16:16<l.length
 ·have hff:Hid (DI pos l=false):=hid (by simp[DI];omega)
  go_enter Tryz.func277,Tryz.ntmps277
  go_wp2
  go_ret
  exact⟨zP,zB⟩
 ·have hff:Hid (DI pos l=(C9 (l.map Be.stream)&&l.all (DL pos))):=hid (by simp only[DI];rw[Ad (by omega)];rfl)
  have hta:=hid (Ok (DL pos) l)
  go_enter Tryz.func277,Tryz.ntmps277
  go_wp2_with fail
  refine (Tb l _ _ _ _ (lift HL.out zB)).mono ?_
  rintro e w1 ⟨rfl,hb1⟩
  have hb2:Below w.heap.size w w1:=zB
  cases hr:C9 (l.map Be.stream)
  ·have hf2:Hid (DI pos l=false):=hid (by rw[hff.out,hr];rfl)
   clear hr
   go_wp2
   go_ret
   exact⟨by rw[hf2.out];rfl,hb2⟩
  ·have hf2:Hid (DI pos l=l.all (DL pos)):=hid (by rw[hff.out,hr];rfl)
   clear hr
   go_wp2_with fail
   refine (Tc pos l _ _ _ w.heap.size _ hpos (lift HL.out hb2) HB.out ?_).mono ?_
   ·exact (AM.mk w1 hb1).cell ZW
   rintro e w3 ⟨rfl,hb3⟩
   have hlt:=(List.takeWhile_sublist (l:=l) (DL pos)).length_le
   generalize hg:(l.takeWhile (DL pos)).length=t at*
   have hg':=hid hg;clear hg
   go_wp2
   go_ret
   refine⟨?_,zB⟩
   rw[hf2.out,←hta.out]
   by_cases h:t=l.length
   ·subst h;simp
   ·have:¬((t:Int)=(l.length:Int)):=by omega
    simp[h,this]
theorem Js(pos:Int)(x:Entry)(a1 a3:Option Addr)(n1 c1 n3 c3:Nat)(w:World)(hpos:0≤pos∧pos≤18446744073709551615)(hbk:∀l∈x.links,l.backs.length≤1000000000000)(hx:Cx.r (·<w.heap.size) w [.slice a1 n1 c1] x.links)(hx':Am.r (·<w.heap.size) w [.slice a3 n3 c3] x.data):
  Calls Tryz.prog 217 #[.int .u64 pos,.agg #[.slice a1 n1 c1,.slice a3 n3 c3]] w fun r w'=>r=.returned (.bool (D8 pos x))∧Below w.heap.size w w':=by
 obtain⟨rfl,hm,_,_⟩:=AL hx'
 have HX:=hid hx;clear hx hx'
 go_enter Tryz.func217,Tryz.ntmps217
 go_wp2_with fail
 refine (Kj pos x.links _ _ _ _ hpos (lift HX.out zB) hbk).mono ?_
 rintro e w1 ⟨rfl,hb1⟩
 have hb2:Below w.heap.size w w1:=zB
 obtain⟨hc1,hf1⟩:=YX hb1
 cases h:DI pos x.links
 ·have hff:Hid (D8 pos x=false):=hid (by simp[D8,h])
  clear h
  go_wp2
  go_ret
  exact⟨zP,hb2⟩
 ·have hff:Hid (D8 pos x=decide (x.data.length≤1048576)):=hid (by simp[D8,h])
  clear h
  go_wp2
  go_ret
  refine⟨?_,hb2⟩
  rw[hff.out]
  by_cases h:x.data.length≤1048576
  ·rw[Ad h];simp;omega
  ·rw[Ae h];simp;omega
end Go.Proofs.YtfddhafbhceoaaaGreat
namespace Go.Bs
open Go.RowKit
variable{b l:List UInt8}{cs xs:List Value}{base c g i k n o off p sz:Nat}{S:Nat → Prop}{a:Option Addr}{e t:TypeId}{v v':Value}{W w w' w1:World}
section
variable {P:Program} {w:World}
def Src(w:World)(A:Option Addr)(m sz:Nat)(news:List Value):Prop:=
 news.length=m*sz∧(m=0∨∃b o,A=some ⟨b,o,none⟩∧∀j u,news[j]? =some u→w.cell? ⟨b,o+j,none⟩=some u)
theorem KE(base:Nat)(t ty e:TypeId)(i:TypeInfo)(size:Nat)(ht:P.underlying t=some (.slice e))(hi:P.info? e=some i)
 (v:Value) (n:Nat) (xs:List Value) (hown:w.ownsRow base e size v n xs) (c:Nat):(Builtin.append_ #[t,t] ty #[v,.slice none 0 c]).run P w=.ok v w:=by
 rcases hown.2 with ⟨rfl,rfl⟩ | ⟨g,cap,cur,rfl,_,_,hnc,_⟩
 ·simp[Builtin.append_,run_underlying ht,sizeOf,typeInfo,hi,Builtin.lenOf,Builtin.firstCells]
 ·simp[Builtin.append_,run_underlying ht,sizeOf,typeInfo,hi,Builtin.lenOf,Builtin.firstCells,hnc,storeCells]
theorem add_plain(b o j:Nat):(⟨b,o,none⟩:Addr).add j=⟨b,o+j,none⟩:=by
 unfold Addr.add
 split
 ·rename_i h;subst h;rfl
 ·rfl
theorem I6(base:Nat)(t ty e:TypeId)(i:TypeInfo)(z:Value)(size bytes:Nat)(ht:P.underlying t=some (.slice e))(hi:P.info? e=some i)(hz:i.zero=some z)
 (hsize:i.size=size) (hby:i.bytes=bytes) (hzs:z.cells.size=size) (hsz:0<size)
 (v:Value) (n:Nat) (xs:List Value) (hown:w.ownsRow base e size v n xs) (A:Option Addr) (m c:Nat) (news:List Value) (hs:Src w A m size news) (h1:∀u∈news,u.oneCell'=true)
 (h63:n+m≤maxLen) (hbytes:(n+m)*bytes≤140737488355328) (hbase:base≤w.heap.size):
  ∃v' w',(Builtin.append_ #[t,t] ty #[v,.slice A m c]).run P w=.ok v' w'∧w'.ownsRow base e size v' (n+m) (xs++news)∧w.grownBy w' v.ownBlock∧(v'.ownBlock=v.ownBlock∨v'.ownBlock=some w.heap.size):=by
 obtain⟨hl,hs⟩:=hs
 rcases A with _ | ad
 ·have hm:m=0:=by
   rcases hs with h | ⟨b,o,h,_⟩
   ·exact h
   ·cases h
  subst hm
  have hn:news=[]:=AQ zBd
  subst hn
  exact⟨v,w,KE base t ty e i size ht hi v n xs hown c,by simpa using hown,World.grownBy.refl w _,.inl rfl⟩
 ·have hcells:∀j u,news[j]? =some u→w.cell? (ad.add j)=some u:=by
   intro j u hu
   rcases hs with h | ⟨b,o,h,hc⟩
   ·subst h
    have hn:news=[]:=AQ zBd
    subst hn
    simp at hu
   ·injection h with h
    subst h
    rw[add_plain];exact hc j u hu
  obtain⟨v',w',hrun,h2,h3,_,h5⟩:=run_append_own_at (P:=P) w base t ty e i z size bytes ht hi hz hsize hby hzs hsz v n xs hown ad m c news hl hcells h1 h63 hbytes hbase
  exact⟨v',w',hrun,h2,h3,h5⟩
theorem AB{ops:Array Oper}{rest:List Oper}{o:Oper}{a:Act}{Q:Exit→Act→World→Prop}(hgd:o.guard=none)(s x:Operand)(t:TypeId)
 (ho:o.op=.call {callee:=.builtin .append,args:=#[s,x],argTypes:=#[t,t]})
 (base:Nat) (e:TypeId) (i:TypeInfo) (z:Value) (size bytes:Nat) (ht:P.underlying t=some (.slice e)) (hi:P.info? e=some i) (hz:i.zero=some z)
 (hsize:i.size=size) (hby:i.bytes=bytes) (hzs:z.cells.size=size) (hsz:0<size)
 (v:Value) (n:Nat) (xs:List Value) (hs:a.eval s=v) (hown:w.ownsRow base e size v n xs)
 (A:Option Addr) (m c:Nat) (news:List Value) (hx:a.eval x=.slice A m c) (hsrc:Src w A m size news) (h1:∀u∈news,u.oneCell'=true)
 (h63:n+m≤maxLen) (hbytes:(n+m)*bytes≤140737488355328) (hbase:base≤w.heap.size)
 (h:∀v' w',w'.ownsRow base e size v' (n+m) (xs++news)→w.grownBy w' v.ownBlock→(v'.ownBlock=v.ownBlock∨v'.ownBlock=some w.heap.size)→wpList P ops Q rest (a.put o.dst v') w'):wpList P ops Q (o::rest) a w:=
 wpList_plain hgd fun _ hK=>by
  obtain⟨v',w',hrun,h2,h3,h4⟩:=I6 (P:=P) base t o.type e i z size bytes ht hi hz hsize hby hzs hsz v n xs hown A m c news hsrc h1 h63 hbytes hbase
  unfold Oper.wp execOp
  simp only[ho,resolve,invoke,builtin,Sem.run_bind,Sem.run_pure,Result.andThen_ok,List.map_toArray,Ca,List.map_nil,hs,hx,hrun]
  exact hK _ _ (h v' w' h2 h3 h4)
def byteCells(l:List UInt8):List Value:=l.map fun b=> .int .u8 (b.toNat:Int)
theorem Bi(l:List UInt8):∀u∈byteCells l,u.oneCell'=true:=by
 intro u hu
 obtain⟨b,_,rfl⟩:=List.mem_map.1 hu
 rfl
theorem Cm(h:Am.r S w [.slice a n c] l):Src w a l.length 1 (byteCells l):=by
 refine⟨ZS,?_⟩
 rcases l with _ | ⟨x,l⟩
 ·exact .inl rfl
 ·right
  obtain⟨b,o,e,_⟩:=Dg h (i:=0) zM
  refine⟨b,o,e,fun j u hu=> ?_⟩
  have hj:j<(x::l).length:=by
   have:=(List.getElem?_eq_some_iff.1 hu).1
   simpa [byteCells] using this
  obtain⟨b',o',e',_,hc⟩:=Dg h hj
  rw[e] at e'
  simp at e'
  obtain⟨rfl,rfl⟩:=e'
  have:u=.int .u8 (((x::l)[j]).toNat:Int):=by
   simp only[byteCells,FT,AF hj,Option.map_some,BV] at hu
   exact hu.symm
  rw[this];exact hc
theorem F7(hn:n=l.length)(h:w.ownsRow base e 1 v n (byteCells l)):Am.r (·<w.heap.size) w [v] l:=by
 subst hn
 rcases h.2 with ⟨rfl,h0⟩ | ⟨g,cap,cur,rfl,hbg,hg,hn,hc,hcur,hx⟩
 ·have:l=[]:=AQ h0
  subst this
  exact Bv rfl (As _) (Ar _) (.inl rfl)
 ·refine Bv rfl hn hc (.inr ⟨g,0,rfl,Blk.lt hg,fun i x hi=>⟨[.int .u8 (x.toNat:Int)],rfl,fun j v hj=> ?_,rfl⟩⟩)
  have hj0:j=0:=by
   rcases j with _ | j
   ·rfl
   ·simp at hj
  subst hj0
  simp at hj
  subst hj
  have hi':i<l.length:=(List.getElem?_eq_some_iff.1 hi).1
  rw[A7,E3,Ed,Blk.cell hg i]
  have e1:cur[i]? =(cur.toList.take (l.length*1))[i]? :=by
   rw[DS,Ag zC];simp
  rw[e1,hx,byteCells,FT,hi];rfl
end
end Go.Bs
namespace Go.Proofs.YtfddhafbhceoaaaGreat
open Go.RowKit Go.Bs
variable{b:List UInt8}{base c k n off p sz:Nat}{S:Nat → Prop}{a:Option Addr}{e:TypeId}{v:Value}{w:World}
theorem FL:(Tryz.prog.info? 5).map (fun i=>(i.zero,i.size,i.bytes))=some (some (.int .u8 0),1,1):=zJ
theorem J6(l:List Entry)(k:Nat)(h:k<l.length):total (l.take (k+1))=total (l.take k)+l[k].data.length:=by
 unfold total
 rw[AU h,Cv,List.sum_append]
 simp
theorem Hw(l:List Entry)(k:Nat):total (l.take k)≤total l:=by
 have:total l=total (l.take k)+total (l.drop k):=by
  unfold total
  rw[←List.sum_append,←Cv,Bn]
 omega
theorem Jr(l:List Entry)(a:Option Addr)(n c:Nat)(w:World)(hl:Br.r (·<w.heap.size) w [.slice a n c] l)(ht:total l≤1000000000000):
  Calls Tryz.prog 216 #[.slice a n c] w fun r w'=>r=.returned (.int .i64 (total l:Nat))∧Below w.heap.size w w':=by
 obtain⟨rfl,hm,_,_⟩:=AL hl
 have HL:=hid hl;clear hl
 go_enter Tryz.func216,Tryz.ntmps216
 go_wp2
 go_loopw [3,8] (fun s i wr=>∃k:Nat,k≤l.length∧i=.int .i64 k∧s=.int .i64 (total (l.take k):Nat)∧Below w.heap.size w wr) (fun _ i _=>l.length-(intOf i).toNat)
 case atStart=>exact ⟨0,Ar _,rfl,rfl,Below.refl _ _⟩
 case round=>
  obtain⟨k,hk,rfl,rfl,hb⟩:=hrel
  by_cases hlt:k<l.length
  ·obtain⟨b,o,hA,hbb,a1,c1,a2,c2,hc0,hc1,_,_⟩:=Fj HL.out hlt
   subst hA
   have X0:=(hb.cell (p:=⟨b,o+k*2,none⟩) hbb).trans hc0
   have X1:=(hb.cell (p:=⟨b,o+k*2+1,none⟩) hbb).trans hc1
   clear hc0 hc1
   have hs:=hid (J6 l k hlt)
   have h1:=Hw l (k+1)
   rw[hs.out] at h1
   generalize l[k].links.length=n1 at*
   generalize l[k].data.length=n2 at*
   generalize total (l.take k)=t at*
   go_wp2
   go_roundw
   case rel=>exact ⟨k+1,zC,zT,by rw[hs.out];simp only[Int.natCast_add],hb.alloc hb.size _⟩
   case measure=>simp [intOf];omega
  ·obtain rfl:k=l.length:=by omega
   rw[Cj]
   go_wp2
   go_ret
   exact⟨rfl,hb⟩
def BM(l:List Entry):List UInt8:=l.flatMap Entry.data
theorem DJ(l:List Entry):(BM l).length=total l:=by
 unfold BM total
 rw[List.length_flatMap]
theorem Rr(l:List Entry)(k:Nat)(h:k<l.length):BM (l.take (k+1))=BM (l.take k)++l[k].data:=by
 unfold BM
 rw[AU h,List.flatMap_append]
 simp
theorem Ku(base:Int)(n:Nat)(w:World)(h0:0≤base∧base≤18446744073709551615)(hn:n≤1000000000000):
  Calls Tryz.prog 204 #[.int .u64 base,.int .i64 n] w fun r w'=>r=.returned (.bool (Fi base n))∧w=w':=by
 by_cases c1:1≤n
 ·have d1:decide ((1:Int)≤(n:Int))=true:=by simp;omega
  by_cases c2:n≤16
  ·have d2:decide ((n:Int)≤16)=true:=by simp;omega
   by_cases c3:base<4611686018427387904
   ·have hp:poR base=true:=by simp[poR,c3]
    have hc:=Ic base
    rw[hp] at hc
    have HC:=hid hc;clear hc hp
    by_cases c4:base+n≤4611686018427387904
    ·have hff:Hid (Fi base n=true):=hid zAo
     have d4:decide (base+(n:Int)≤4611686018427387904)=true:=zI
     clear c1 c2
     go_enter Tryz.func204,Tryz.ntmps204
     go_wp2_with (go_at_call 256;refine (HC.out _).mono ?_;rintro e w' ⟨rfl,rfl⟩)
     go_ret
     exact⟨zP,rfl⟩
    ·have hff:Hid (Fi base n=false):=hid zAo
     have d4:decide (base+(n:Int)≤4611686018427387904)=false:=zI
     go_enter Tryz.func204,Tryz.ntmps204
     go_wp2_with (go_at_call 256;refine (HC.out _).mono ?_;rintro e w' ⟨rfl,rfl⟩)
     go_ret
     exact⟨zP,rfl⟩
   ·have hff:Hid (Fi base n=false):=hid zAo
    have hp:poR base=false:=by simp[poR];omega
    have hc:=Ic base
    rw[hp] at hc
    have HC:=hid hc;clear hc hp
    go_enter Tryz.func204,Tryz.ntmps204
    go_wp2_with (go_at_call 256;refine (HC.out _).mono ?_;rintro e w' ⟨rfl,rfl⟩)
    go_ret
    exact⟨zP,rfl⟩
  ·have hff:Hid (Fi base n=false):=hid zAo
   have d2:decide ((n:Int)≤16)=false:=zI
   go_enter Tryz.func204,Tryz.ntmps204
   go_wp2
   go_ret
   exact⟨zP,rfl⟩
 ·have hff:Hid (Fi base n=false):=hid zAo
  have d1:decide ((1:Int)≤(n:Int))=false:=zI
  go_enter Tryz.func204,Tryz.ntmps204
  go_wp2
  go_ret
  exact⟨zP,rfl⟩
theorem Oz(base:Int)(l:List Entry)(k:Nat)(h:k<l.length):C5 (base+k) (l.drop k)=(D8 (base+k) l[k]&&C5 (base+(k+1:Nat)) (l.drop (k+1))):=by
 rw[AO h]
 show (_&&_)=_
 rw[show base+(k:Int)+1=base+((k+1:Nat):Int) from zC]
def Fair(l:List Entry):Prop:=total l≤1000000000000∧l.length≤1000000000000∧∀e∈l,∀x∈e.links,x.backs.length≤1000000000000
theorem Jy(x:Batch)(a:Option Addr)(n c:Nat)(w:World)(h0:0≤x.epoch∧x.epoch≤18446744073709551615)(h1:0≤x.base∧x.base≤18446744073709551615)(hl:Br.r (·<w.heap.size) w [.slice a n c] x.entries)(hfair:Fair x.entries):
  Calls Tryz.prog 143 #[.agg #[.int .u64 x.epoch,.int .u64 x.base,.slice a n c]] w fun r w'=>r=.returned (.bool (Bg x))∧Below w.heap.size w w':=by
 obtain⟨rfl,hm,_,_⟩:=AL hl
 obtain⟨ft,fl,fb⟩:=hfair
 have FB:=hid fb;clear fb
 have HL:=hid hl;clear hl
 go_enter Tryz.func143,Tryz.ntmps143
 go_wp2_with fail
 refine (ED x.epoch _).mono ?_
 rintro e w' ⟨rfl,rfl⟩
 cases he:epR x.epoch
 ·have hff:Hid (Bg x=false):=hid (by simp[Bg,he])
  clear he
  go_wp2
  go_ret
  exact⟨zP,zB⟩
 ·go_wp2_with fail
  refine (Ku x.base x.entries.length _ h1 fl).mono ?_
  rintro e w' ⟨rfl,rfl⟩
  cases hf:Fi x.base x.entries.length
  ·have hff:Hid (Bg x=false):=hid (by simp[Bg,hf])
   clear hf he
   go_wp2
   go_ret
   exact⟨zP,zB⟩
  ·have hfit:1≤x.entries.length∧x.entries.length≤16∧x.base<4611686018427387904∧x.base+x.entries.length≤4611686018427387904:=by simpa [Fi] using hf
   obtain⟨q1,q2,q3,q4⟩:=hfit
   have hff:Hid (Bg x=(decide (total x.entries≤1048576)&&C5 x.base x.entries)):=hid (by simp[Bg,hf,he])
   clear hf he
   go_wp2_with fail
   refine (Jr x.entries _ _ _ _ (lift HL.out zB) ft).mono ?_
   rintro e w1 ⟨rfl,hb1⟩
   have hb2:Below w.heap.size w w1:=zB
   obtain⟨hc1,hf1⟩:=YX hb1
   by_cases ht:total x.entries≤1048576
   ·have hf2:Hid (Bg x=C5 (x.base+(0:Nat)) (x.entries.drop 0)):=hid (by rw[hff.out,Ad ht];simp)
    have d5:decide (1048576<(total x.entries:Int))=false:=zI
    have s0:w1.cell? ⟨w.heap.size,0,none⟩=some (.int .u64 x.epoch):=(hc1 w.heap.size 0 zM).trans ZW
    have s1:w1.cell? ⟨w.heap.size,1,none⟩=some (.int .u64 x.base):=(hc1 w.heap.size 1 zM).trans ZW
    have s2:w1.cell? ⟨w.heap.size,2,none⟩=some (.slice a x.entries.length c):=(hc1 w.heap.size 2 zM).trans ZW
    clear hc1 hf1
    have hzb:w.heap.size<w1.heap.size:=zAu
    go_wp2_with fail
    go_loopw [27] (fun i wr=>∃k:Nat,k≤x.entries.length∧i=.int .i64 k∧Hid (Bg x=C5 (x.base+k) (x.entries.drop k))∧Below w1.heap.size w1 wr) (fun i _=>x.entries.length-(intOf i).toNat)
    case atStart=>exact ⟨0,Ar _,rfl,hf2,Below.refl _ _⟩
    case round=>
     obtain⟨k,hk,rfl,hf,hb⟩:=hrel
     have hb3:=Aj hb hb2
     have t0:wr.cell? ⟨w.heap.size,0,none⟩=some (.int .u64 x.epoch):=(AM.mk wr hb).cell s0
     have t1:wr.cell? ⟨w.heap.size,1,none⟩=some (.int .u64 x.base):=(AM.mk wr hb).cell s1
     have t2:wr.cell? ⟨w.heap.size,2,none⟩=some (.slice a x.entries.length c):=(AM.mk wr hb).cell s2
     have hz3:w.heap.size<wr.heap.size:=Z3
     by_cases hlt:k<x.entries.length
     ·obtain⟨b,o,hA,hbb,a1,c1,a2,c2,hd0,hd1,hr1,hr2⟩:=Fj HL.out hlt
      subst hA
      have hst:=hid (Oz x.base x.entries k hlt)
      have hbk:=FB.out _ (A0 hlt)
      have X0:=(hb3.cell (p:=⟨b,o+k*2,none⟩) hbb).trans hd0
      have X1:=(hb3.cell (p:=⟨b,o+k*2+1,none⟩) hbb).trans hd1
      clear hd0 hd1
      have R1:=hid (lift hr1 hb3)
      have R2:=hid (lift hr2 hb3)
      clear hr1 hr2
      generalize hz:x.entries[k]=z at*
      clear hz
      have HBK:=hid hbk;clear hbk
      have i1:(k:Int)<(x.entries.length:Int):=zC
      have p0:0≤x.base+(k:Int):=zC
      have p1:x.base+(k:Int)≤18446744073709551615:=zC
      go_wp2_with fail
      refine (Js (x.base+(k:Int)) z _ _ _ _ _ _ _ ⟨p0,p1⟩ HBK.out (lift R1.out zB) (lift R2.out zB)).mono ?_
      rintro e w4 ⟨rfl,hb4⟩
      have hb5:Below w1.heap.size w1 w4:=zB
      cases hr:D8 (x.base+(k:Int)) z
      ·have hf3:Hid (Bg x=false):=hid zBh
       clear hr
       go_wp2
       go_ret
       exact⟨zAy,Aj hb5 hb2⟩
      ·have hf3:Hid (Bg x=C5 (x.base+(k+1:Nat)) (x.entries.drop (k+1))):=hid zBh
       clear hr
       go_wp2
       go_roundw
       case rel=>exact ⟨k+1,zC,zT,hf3,hb5⟩
       case measure=>simp [intOf];omega
     ·obtain rfl:k=x.entries.length:=by omega
      have hf3:Hid (Bg x=true):=hid zA2
      go_wp2
      go_ret
      exact⟨zAy,hb3⟩
   ·have hf2:Hid (Bg x=false):=hid (by rw[hff.out,Ae ht];rfl)
    have d5:decide (1048576<(total x.entries:Int))=true:=zI
    go_wp2
    go_ret
    exact⟨by rw[hf2.out];rfl,hb2⟩
def EU(e:Int)(prev:Option Batch)(b:Batch):Bool:=decide (b.epoch≤e)&&(match prev with | none=>true | some p=>decide (p.epoch≤b.epoch)&&decide (p.base+p.entries.length≤b.base))
def EF(e:Int):Option Batch→List Batch→Bool
 | _,[]=>true
 | p,b::l=>Bg b&&(EU e p b&&EF e (some b) l)
def Ey(g:Seg):Bool:=epR g.epoch&&(decide (g.batches.length≤16)&&EF g.epoch none g.batches)
def Ce(l:List Batch)(k:Nat):Option Batch:=if k=0 then none else l[k-1]?
theorem Sg(e:Int)(l:List Batch)(k:Nat)(h:k<l.length):EF e (Ce l k) (l.drop k)=(Bg l[k]&&(EU e (Ce l k) l[k]&&EF e (Ce l (k+1)) (l.drop (k+1)))):=by
 rw[AO h]
 have:Ce l (k+1)=some l[k]:=by unfold Ce;rw[Ai zC];simp[h]
 rw[this];rfl
theorem MA{α:Type}{A:Rp α}{xs:List α}(h:(rSl sz A).r S w [.slice a n c] xs)(hk:k≤xs.length):(rSl sz A).r S w [.slice a k c] (xs.take k):=by
 obtain⟨a',c',e,h1,h2,h3⟩:=h
 simp at e
 obtain⟨rfl,rfl,rfl⟩:=e
 have hl:(xs.take k).length=k:=zI
 refine Bv (by rw[hl]) zC h2 ?_
 rcases h3 with rfl | ⟨b,off,rfl,hS,hr⟩
 ·exact .inl zM
 ·refine .inr ⟨b,off,rfl,hS,fun i x hi=>hr i x ?_⟩
  rw[DS] at hi
  split at hi
  ·exact hi
  ·cases hi
theorem PB(e b:Int)(a:Option Addr)(n c:Nat)(w:World)(h0:0≤b)(h:b+n≤18446744073709551615)(hn:n≤9223372036854775807):
  Calls Tryz.prog 218 #[.agg #[.int .u64 e,.int .u64 b,.slice a n c]] w fun r w'=>r=.returned (.int .u64 (b+n))∧Below w.heap.size w w':=by
 go_enter Tryz.func218,Tryz.ntmps218
 go_wp2
 go_ret
 exact⟨rfl,zB⟩
theorem QS(e:Int)(l:List Batch)(x:Batch)(a a':Option Addr)(n c n' c':Nat)(w:World)(hl:DN.r (·<w.heap.size) w [.slice a n c] l)(hp:∀p∈l,p.base+p.entries.length≤18446744073709551615):
  Calls Tryz.prog 144 #[.agg #[.int .u64 e,.slice a n c],.agg #[.int .u64 x.epoch,.int .u64 x.base,.slice a' n' c']] w fun r w'=>r=.returned (.bool (EU e (Ce l l.length) x))∧Below w.heap.size w w':=by
 obtain⟨rfl,hm,_,_⟩:=AL hl
 have HL:=hid hl;clear hl
 have HP:=hid hp;clear hp
 by_cases h1:e<x.epoch
 ·have hff:Hid (EU e (Ce l l.length) x=false):=hid (by simp only[EU];rw[Ae (by omega)];rfl)
  go_enter Tryz.func144,Tryz.ntmps144
  go_wp2
  go_ret
  exact⟨zP,zB⟩
 ·by_cases h2:l.length=0
  ·have hff:Hid (EU e (Ce l l.length) x=true):=hid (by simp only[EU];rw[Ad (by omega),h2];rfl)
   have e2:((l.length:Int)==0)=true:=by simp[h2]
   clear h2
   go_enter Tryz.func144,Tryz.ntmps144
   go_wp2_with fail
   go_quiet (fail)
   go_wp2
   go_ret
   exact⟨zP,zB⟩
  ·obtain⟨m,hmm⟩:∃m,l.length=m+1:=⟨l.length-1,zC⟩
   obtain⟨b,o,hA,hbb,a1,c1,hd0,hd1,hd2,r0,r1,hd⟩:=Jz HL.out (show m<l.length by omega)
   have hpm:=HP.out _ (A0 (show m<l.length by omega))
   obtain⟨_,hm2,_,_⟩:=AL hd
   have hprev:Ce l (m+1)=some l[m]:=by unfold Ce;rw[Ai zC];simp[show m<l.length by omega]
   generalize hz:l[m]=z at*
   clear hz hd
   have hff:Hid (EU e (Ce l l.length) x=(decide (z.epoch≤x.epoch)&&decide (z.base+z.entries.length≤x.base))):=hid (by simp only[EU];rw[Ad (by omega),hmm,hprev];rfl)
   subst hA
   have i4:wrap64 (m:Int)=m:=ZV
   have HMM:=hid hmm
   rw[hmm]
   clear h2 hprev hmm
   have e2:((m:Int)+1==0)=false:=zI
   have i2:(0:Int)≤(m:Int):=zC
   have i3:(m:Int)<(m:Int)+1:=zC
   have F:Below w.heap.size w ((w.alloc (.cells #[.int .u64 e,.slice (some ⟨b,o,none⟩) (m+1) c] 63)).alloc (.cells #[.int .u64 x.epoch,.int .u64 x.base,.slice a' n' c'] 48)):=zB
   have X0:=fun s:AM ((w.alloc (.cells #[.int .u64 e,.slice (some ⟨b,o,none⟩) (m+1) c] 63)).alloc (.cells #[.int .u64 x.epoch,.int .u64 x.base,.slice a' n' c'] 48))=>s.cell ((F.cell (p:=⟨b,o+m*3,none⟩) hbb).trans hd0)
   have X1:=fun s:AM ((w.alloc (.cells #[.int .u64 e,.slice (some ⟨b,o,none⟩) (m+1) c] 63)).alloc (.cells #[.int .u64 x.epoch,.int .u64 x.base,.slice a' n' c'] 48))=>s.cell ((F.cell (p:=⟨b,o+m*3+1,none⟩) hbb).trans hd1)
   have X2:=fun s:AM ((w.alloc (.cells #[.int .u64 e,.slice (some ⟨b,o,none⟩) (m+1) c] 63)).alloc (.cells #[.int .u64 x.epoch,.int .u64 x.base,.slice a' n' c'] 48))=>s.cell ((F.cell (p:=⟨b,o+m*3+2,none⟩) hbb).trans hd2)
   have Y0:=fun s:AM ((w.alloc (.cells #[.int .u64 e,.slice (some ⟨b,o,none⟩) (m+1) c] 63)).alloc (.cells #[.int .u64 x.epoch,.int .u64 x.base,.slice a' n' c'] 48))=>s.cell (v:=.slice (some ⟨b,o,none⟩) (m+1) c) (b:=w.heap.size) (o:=1) ZW
   have Y1:=fun s:AM ((w.alloc (.cells #[.int .u64 e,.slice (some ⟨b,o,none⟩) (m+1) c] 63)).alloc (.cells #[.int .u64 x.epoch,.int .u64 x.base,.slice a' n' c'] 48))=>s.cell (v:=.int .u64 x.epoch) (b:=w.heap.size+1) (o:=0) ZW
   have Y2:=fun s:AM ((w.alloc (.cells #[.int .u64 e,.slice (some ⟨b,o,none⟩) (m+1) c] 63)).alloc (.cells #[.int .u64 x.epoch,.int .u64 x.base,.slice a' n' c'] 48))=>s.cell (v:=.int .u64 x.base) (b:=w.heap.size+1) (o:=1) ZW
   clear hd0 hd1 hd2
   have FF:=hid F;clear F
   have hE:=fun s:AM ((w.alloc (.cells #[.int .u64 e,.slice (some ⟨b,o,none⟩) (m+1) c] 63)).alloc (.cells #[.int .u64 x.epoch,.int .u64 x.base,.slice a' n' c'] 48))=>PB z.epoch z.base a1 z.entries.length c1 s.at_ r1.1 hpm hm2
   have HE:=hid hE;clear hE
   by_cases g1:z.epoch≤x.epoch
   ·have d1:decide (z.epoch≤x.epoch)=true:=by simpa using g1
    have hf2:Hid (EU e (Ce l l.length) x=decide (z.base+z.entries.length≤x.base)):=hid (by rw[hff.out,d1];rfl)
    go_enter Tryz.func144,Tryz.ntmps144
    go_wp2_with fail
    refine Az zJ zJ ?_
    repeat (go_big_quiet_step (((go_at_call 218;exact CH (HE.out _)))))
    refine AT ?_
    rintro W5 ⟨⟨W5',hb5⟩,rfl⟩
    go_wp2
    go_ret
    have FO:=FF.out
    refine⟨?_,zB⟩
    rw[←HMM.out,hf2.out];rfl
   ·have d1:decide (z.epoch≤x.epoch)=false:=by simpa using g1
    have hf2:Hid (EU e (Ce l l.length) x=false):=hid (by rw[hff.out,d1];rfl)
    clear g1
    go_enter Tryz.func144,Tryz.ntmps144
    go_wp2_with fail
    refine Az zJ zJ ?_
    repeat (go_big_quiet_step (fail))
    refine AT ?_
    rintro W5 ⟨⟨W5',hb5⟩,rfl⟩
    go_wp2
    go_ret
    have FO:=FF.out
    refine⟨?_,zB⟩
    rw[←HMM.out,hf2.out];rfl
end Go.Proofs.YtfddhafbhceoaaaGreat
namespace Go.Bs
variable{b l:List UInt8}{cs xs:List Value}{base c g i k n o off p sz:Nat}{S:Nat → Prop}{a:Option Addr}{e t:TypeId}{v v':Value}{W w w' w1:World}
def Gu(b:List UInt8)(off:Nat):Nat→Nat→Nat
 | 0,_=>0
 | f+1,p=>if p<b.length∧b[p]? =b[p-off]? then Gu b off f (p+1)+1 else 0
def Dc(b:List UInt8)(p off:Nat):Nat:=if p<b.length∧1≤off∧off≤p then Gu b off (b.length-p) p else 0
theorem ON(b:List UInt8)(off:Nat):∀f p,Gu b off f p≤f
 | 0,_=>As _
 | f+1,p=>by
  unfold Gu
  split
  ·have:=ON b off f (p+1);omega
  ·omega
theorem KL(b:List UInt8)(p off:Nat):Dc b p off≤b.length-p:=by
 unfold Dc
 split
 ·exact ON ..
 ·omega
theorem L5(b:List UInt8)(off:Nat):∀f p k,k<Gu b off f p→p+k<b.length∧b[p+k]? =b[p+k-off]?
 | 0,_,k,h=>by simp[Gu] at h
 | f+1,p,k,h=>by
  unfold Gu at h
  split at h
  ·rename_i hc
   cases k with
   | zero=>exact hc
   | succ k=>
    have:=L5 b off f (p+1) k zC
    rw[show p+(k+1)=p+1+k by omega]
    exact this
  ·omega
theorem OO(b:List UInt8)(off:Nat):∀f p k,k≤f→(∀j,j<k→p+j<b.length∧b[p+j]? =b[p+j-off]?)→k≤Gu b off f p
 | _,_,0,_,_=>Ar _
 | 0,_,k+1,h,_=>by omega
 | f+1,p,k+1,h,hs=>by
  unfold Gu
  rw[Ag (by simpa using hs 0 (by omega))]
  have:=OO b off f (p+1) k zC fun j hj=>by
   have:=hs (j+1) zC
   rw[show p+(j+1)=p+1+j by omega] at this
   exact this
  omega
theorem Yi(h1:1≤off)(h2:off≤p)(hp:p<b.length)(h:∀j,j<k→p+j<b.length∧b[p+j]? =b[p+j-off]?):k≤Dc b p off:=by
 unfold Dc
 rw[Ag ⟨hp,h1,h2⟩]
 refine OO _ _ _ _ _ ?_ h
 rcases DR k with rfl | h0
 ·exact Ar _
 ·have:=(h (k-1) zC).1;omega
theorem Lw(h:k<Dc b p off):1≤off∧off≤p∧p+k<b.length∧b[p+k]? =b[p+k-off]? :=by
 unfold Dc at h
 split at h
 ·rename_i hc
  exact⟨hc.2.1,hc.2.2,L5 _ _ _ _ _ h⟩
 ·omega
def Lx(b:List UInt8)(p:Nat):Nat→Nat
 | 0=>0
 | k+1=>max (Lx b p k) (Dc b p (k+1))
def firstM(b:List UInt8)(p m:Nat):Nat→Nat→Nat
 | 0,_=>0
 | f+1,o=>if Dc b p o=m then o else firstM b p m f (o+1)
theorem Qb(b:List UInt8)(p:Nat):∀k o,1≤o→o≤k→Dc b p o≤Lx b p k
 | 0,o,h1,h2=>by omega
 | k+1,o,h1,h2=>by
  simp only[Lx]
  by_cases h:o=k+1
  ·subst h;omega
  ·have:=Qb b p k o h1 zC;omega
theorem MD(b:List UInt8)(p:Nat):∀k,Lx b p k=0∨∃o,1≤o∧o≤k∧Dc b p o=Lx b p k
 | 0=> .inl rfl
 | k+1=>by
  simp only[Lx]
  rcases Nat.le_total (Lx b p k) (Dc b p (k+1)) with h | h
  ·rw[Nat.max_eq_right h]
   exact .inr ⟨k+1,zC,As _,rfl⟩
  ·rw[Nat.max_eq_left h]
   rcases MD b p k with h0 | ⟨o,h1,h2,h3⟩
   ·exact .inl h0
   ·exact .inr ⟨o,h1,zC,h3⟩
theorem Ph(b:List UInt8)(p m:Nat):∀f o o',o≤o'→o'<o+f→Dc b p o'=m→(∀j,o≤j→j<o'→Dc b p j≠m)→firstM b p m f o=o'
 | 0,o,o',h1,h2,_,_=>by omega
 | f+1,o,o',h1,h2,h3,h4=>by
  unfold firstM
  by_cases h:o=o'
  ·subst h;rw[Ag h3]
  ·rw[Ai (h4 o (As _) zC)]
   exact Ph b p m f (o+1) o' zC zC h3 fun j h5 h6=>h4 j zC h6
def reach(p:Nat):Nat:=min p 65536
def Ci(b:List UInt8)(p:Nat):Nat × Nat:=
 if 4≤Lx b p (reach p) then (firstM b p (Lx b p (reach p)) (reach p) 1,Lx b p (reach p)) else (0,0)
theorem Rm(b:List UInt8)(p m:Nat):∀k,(∃o,1≤o∧o≤k∧Dc b p o=m)→∃o,1≤o∧o≤k∧Dc b p o=m∧∀j,1≤j→j<o→Dc b p j≠m
 | 0,⟨o,h1,h2,_⟩=>by omega
 | k+1,⟨o,h1,h2,h3⟩=>by
  by_cases h:∃o,1≤o∧o≤k∧Dc b p o=m
  ·obtain⟨o,g1,g2,g3,g4⟩:=Rm b p m k h
   exact⟨o,g1,zC,g3,g4⟩
  ·refine⟨o,h1,h2,h3,fun j j1 j2 j3=>h ⟨j,j1,zC,j3⟩⟩
theorem N6{m:Nat}(h1:1≤o)(h2:o≤reach p)(h4:4≤m)(hm:Dc b p o=m)(hall:∀j,1≤j→j≤reach p→Dc b p j≤m)(hlt:∀j,1≤j→j<o→Dc b p j<m):Ci b p=(o,m):=by
 have e:Lx b p (reach p)=m:=by
  have:=Qb b p (reach p) o h1 h2
  rcases MD b p (reach p) with h | ⟨o',g1,g2,g3⟩
  ·omega
  ·have:=hall o' g1 g2;omega
 unfold Ci
 rw[e,Ag h4,Ph b p m (reach p) 1 o h1 zC hm fun j j1 j2=>by have:=hlt j j1 j2;omega]
theorem T6(h:∀j,1≤j→j≤reach p→Dc b p j<4):Ci b p=(0,0):=by
 unfold Ci
 rw[Ai]
 rcases MD b p (reach p) with h0 | ⟨o',g1,g2,g3⟩
 ·omega
 ·have:=h o' g1 g2;omega
theorem Hr(b:List UInt8)(p:Nat):Ci b p=(0,0)∨∃o m,Ci b p=(o,m)∧1≤o∧o≤reach p∧4≤m∧Dc b p o=m∧(∀j,1≤j→j≤reach p→Dc b p j≤m)∧∀j,1≤j→j<o→Dc b p j<m:=by
 by_cases h:4≤Lx b p (reach p)
 ·right
  rcases MD b p (reach p) with h0 | hx
  ·omega
  ·obtain⟨o,g1,g2,g3,g4⟩:=Rm b p _ _ hx
   have hall:=fun j (j1:1≤j) (j2:j≤reach p)=>Qb b p _ j j1 j2
   have hlt:∀j,1≤j→j<o→Dc b p j<Lx b p (reach p):=fun j j1 j2=>by
    have:=hall j j1 zC
    have:=g4 j j1 j2
    omega
   exact⟨o,_,N6 g1 g2 h g3 hall hlt,g1,g2,h,g3,hall,hlt⟩
 ·left
  unfold Ci
  rw[Ai h]
theorem Kt(b:List UInt8)(p:Nat):(Ci b p).2≤b.length-p∧(Ci b p).1≤p:=by
 rcases Hr b p with h | ⟨o,m,h,_,h2,_,h4,_⟩
 ·rw[h];exact⟨Ar _,Ar _⟩
 ·rw[h]
  have:=KL b p o
  simp only[reach] at h2
  exact⟨zBz,zBz⟩
structure Tok where
 lit:List UInt8
 off:Int
 len:Int
 deriving DecidableEq
def GA(b:List UInt8)(i j:Nat):List Tok:=if i<j then [⟨(b.drop i).take (j-i),0,0⟩] else []
def Fb(b:List UInt8):Nat→Nat→Nat→List Tok
  | 0,_,i=>GA b i b.length
  | f+1,p,i=>if p<b.length then
      (if (Ci b p).2=0 then Fb b f (p+1) i
       else GA b i p++⟨[],(Ci b p).1,(Ci b p).2⟩::Fb b f (p+(Ci b p).2) (p+(Ci b p).2))
      else GA b i b.length
def Fa(b:List UInt8):List Tok:=Fb b b.length 0 0
theorem Ik(b:List UInt8):∀f g p i,b.length≤p+f→b.length≤p+g→Fb b f p i=Fb b g p i
 | 0,0,_,_,_,_=>rfl
 | 0,g+1,p,i,h,_=>by
  simp only[Fb]
  rw[Ai zC]
 | f+1,0,p,i,_,h=>by
  simp only[Fb]
  rw[Ai zC]
 | f+1,g+1,p,i,h1,h2=>by
  simp only[Fb]
  split
  ·split
   ·exact Ik b f g (p+1) i zC zC
   ·rename_i hn
    rw[Ik b f g (p+(Ci b p).2) (p+(Ci b p).2) zC zC]
  ·rfl
def JN(b:List UInt8)(p i:Nat):List Tok:=Fb b (b.length-p) p i
theorem SB(hp:p<b.length)(h:(Ci b p).2=0):JN b p i=JN b (p+1) i:=by
 unfold JN
 obtain⟨f,hf⟩:∃f,b.length-p=f+1:=⟨b.length-p-1,zC⟩
 rw[hf]
 simp only[Fb]
 rw[Ag hp,Ag h]
 exact Ik b _ _ _ _ zC zC
theorem SA(hp:p<b.length)(h:(Ci b p).2≠0):JN b p i=GA b i p++⟨[],(Ci b p).1,(Ci b p).2⟩::JN b (p+(Ci b p).2) (p+(Ci b p).2):=by
 unfold JN
 obtain⟨f,hf⟩:∃f,b.length-p=f+1:=⟨b.length-p-1,zC⟩
 rw[hf]
 simp only[Fb]
 rw[Ag hp,Ai h]
 congr 2
 exact Ik b _ _ _ _ zC zC
theorem UL(hp:b.length≤p):JN b p i=GA b i b.length:=by
 unfold JN
 rw[show b.length-p=0 by omega];rfl
def Ds(b:List UInt8)(p:Nat):Option Nat:=
 match b[p]?,b[p+1]?,b[p+2]?,b[p+3]? with
 | some a,some c,some d,some e=>some (a.toNat+256*c.toNat+65536*d.toNat+16777216*e.toNat)
 | _,_,_,_=>none
def Es(b:List UInt8)(k:Nat):Nat→Nat
 | 0=>0
 | j+1=>if Ds b j=some k then j+1 else Es b k j
theorem KR(b:List UInt8)(k:Nat):∀j,Es b k j≤j
 | 0=>As _
 | j+1=>by
  unfold Es
  split
  ·omega
  ·have:=KR b k j;omega
theorem O8(b:List UInt8)(k:Nat):∀j,Es b k j≠0→Ds b (Es b k j-1)=some k
 | 0,h=>absurd rfl h
 | j+1,h=>by
  unfold Es at h ⊢
  split
  ·rename_i hk;simpa using hk
  ·rename_i hk
   rw[Ai hk] at h
   exact O8 b k j h
open Go.RowKit
section
variable {w w':World} {α:Type}
def Dd(lo:Nat)(A:Rp α)(base:Nat)(e:TypeId)(sz:Nat)(w:World)(v:Value)(xs:List α)(cells:List (List Value)):Prop:=
 w.ownsRow base e sz v xs.length cells.flatten∧cells.length=xs.length∧(∀c∈cells,c.length=sz)∧
  ∀(i:Nat) cs x,cells[i]? =some cs→xs[i]? =some x→A.r (fun b=>lo≤b∧b<w.heap.size∧v.ownBlock≠some b) w cs x
def A8(lo:Nat)(A:Rp α)(base:Nat)(e:TypeId)(sz:Nat)(w:World)(v:Value)(xs:List α):Prop:=∃cells,Dd lo A base e sz w v xs cells
theorem GX(sz:Nat):∀(l:List (List Value)),(∀c∈l,c.length=sz)→∀(i j:Nat) cs v,l[i]? =some cs→cs[j]? =some v→l.flatten[i*sz+j]? =some v
 | [],_,i,j,cs,v,h,_=>by simp at h
 | c::l,hl,i,j,cs,v,h,hj=>by
  have hc:=hl c (Fl ..)
  rw[FU]
  cases i with
  | zero=>
   simp at h
   subst h
   have:=(List.getElem?_eq_some_iff.1 hj).1
   rw[Nat.zero_mul,A7,Cp zC]
   exact hj
  | succ i=>
   simp at h
   rw[CP (by rw[hc,Nat.succ_mul];omega),hc,show (i+1)*sz+j-sz=i*sz+j by rw[Nat.succ_mul];omega]
   exact GX sz l (fun c h=>hl c (FR _ h)) i j cs v h hj
theorem A8.nil{lo:Nat}{A:Rp α}:A8 lo A base e sz w (.slice none 0 0) []:=
 ⟨[],⟨zM,.inl ⟨rfl,rfl⟩⟩,rfl,zM,fun i cs x h=>by simp at h⟩
theorem A8.slice{lo:Nat}{A:Rp α}{v:Value}{xs:List α}(hlo:lo≤base)(h:A8 lo A base e sz w v xs):(rSl sz A).r (fun b=>lo≤b∧b<w.heap.size) w [v] xs:=by
 obtain⟨cells,hown,hlen,hsz,hA⟩:=h
 rcases hown.2 with ⟨rfl,h0⟩ | ⟨g,cap,cur,rfl,hbg,hg,hn,hc,hcur,hx⟩
 ·have:xs=[]:=AQ h0
  subst this
  exact Bv rfl (As _) (Ar _) (.inl rfl)
 ·refine Bv rfl hn hc (.inr ⟨g,0,rfl,⟨Bb hlo hbg,(Array.getElem?_eq_some_iff.1 hg).1⟩,fun i x hi=> ?_⟩)
  have hi':i<xs.length:=(List.getElem?_eq_some_iff.1 hi).1
  have hic:i<cells.length:=zC
  have hcs:cells[i]? =some cells[i]:=AF hic
  refine⟨cells[i],hsz _ (A0 hic),fun j v hj=> ?_,A.mono (hA i _ x hcs hi) fun b h=>⟨h.1,h.2.1⟩⟩
  have hj':j<sz:=ZC
  have hf:=GX sz cells hsz i j _ v hcs hj
  rw[A7,show (⟨g,i*sz+j,none⟩:Addr)=⟨g,i*sz+j,none⟩ from rfl,Blk.cell hg (i*sz+j)]
  have hb:i*sz+j<xs.length*sz:=by
   have:=CO sz (show i+1≤xs.length from hi')
   rw[Nat.succ_mul] at this
   omega
  have e1:cur[i*sz+j]? =(cur.toList.take (xs.length*sz))[i*sz+j]? :=by
   rw[DS,Ag hb];simp
  rw[e1,hx];exact hf
def XY{α:Type}(sz:Nat)(A:Rp α):Rp (List α):=
  ⟨fun S w cs xs=>∃a c,cs=[.slice a xs.length c]∧xs.length≤c∧c≤maxLen∧(xs=[]∨∃b off,a=some ⟨b,off,none⟩∧S b∧∀(i:Nat) x,xs[i]? =some x→∃cs:List Value,cs.length=sz∧
      (∀(j:Nat) v,cs[j]? =some v→w.cell? ⟨b,off+i*sz+j,none⟩=some v∧w.frozen? ⟨b,off+i*sz+j,none⟩=false)∧A.r (fun q=>S q∧q≠b) w cs x),
   fun ⟨a,c,h,h1,h2,h3⟩ hk=>⟨a,c,h,h1,h2,h3.imp id fun ⟨b,off,e,hb,hr⟩=>⟨b,off,e,hb,fun i x hi=>
     let ⟨cs,hl,hc,hA⟩:=hr i x hi
     ⟨cs,hl,fun j v hj=>⟨(Bq (a:=⟨b,off+i*sz+j,none⟩) (hk b hb)).trans (hc j v hj).1,(CV (a:=⟨b,off+i*sz+j,none⟩) (hk b hb)).trans (hc j v hj).2⟩,A.keep hA fun q hq=>hk q hq.1⟩⟩⟩,
   fun ⟨a,c,h,h1,h2,h3⟩ hk=>⟨a,c,h,h1,h2,h3.imp id fun ⟨b,off,e,hb,hr⟩=>⟨b,off,e,hk b hb,fun i x hi=>
     let ⟨cs,hl,hc,hA⟩:=hr i x hi
     ⟨cs,hl,hc,A.mono hA fun q hq=>⟨hk q hq.1,hq.2⟩⟩⟩⟩⟩
theorem Wu{A:Rp α}{xs:List α}(h:(XY sz A).r S w cs xs):(rSl sz A).r S w cs xs:=by
 obtain⟨a,c,h1,h2,h3,h4⟩:=h
 refine⟨a,c,h1,h2,h3,h4.imp id fun ⟨b,off,e,hb,hr⟩=>⟨b,off,e,hb,fun i x hi=> ?_⟩⟩
 obtain⟨cs,h5,h6,h7⟩:=hr i x hi
 exact⟨cs,h5,fun j v hj=>(h6 j v hj).1,A.mono h7 fun q hq=>hq.1⟩
theorem XX{A A':Rp α}{S:Nat→Prop}{cs:List Value}{xs:List α}(hA:∀S cs x,A.r S w cs x→A'.r S w cs x)(h:(rSl sz A).r S w cs xs):(rSl sz A').r S w cs xs:=by
 obtain⟨a,c,h1,h2,h3,h4⟩:=h
 refine⟨a,c,h1,h2,h3,h4.imp id fun ⟨b,off,e,hb,hr⟩=>⟨b,off,e,hb,fun i x hi=> ?_⟩⟩
 obtain⟨cs,h5,h6,h7⟩:=hr i x hi
 exact⟨cs,h5,h6,hA _ _ _ h7⟩
def EM:Rp (List Be):=XY 2 JR
def FD:Rp Entry:=rBy (fun e=>(e.links,e.data)) (Dr EM Am)
def CK:Rp (List Entry):=XY 2 FD
theorem FJ{x:List Be}(h:EM.r S w cs x):Cx.r S w cs x:=Wu h
theorem Qy{x:Entry}(h:FD.r S w cs x):M7.r S w cs x:=
 let ⟨c,d,e,h1,h2⟩:=h
 ⟨c,d,e,FJ h1,h2⟩
theorem Cu{x:List Entry}(h:CK.r S w cs x):Br.r S w cs x:=XX (fun _ _ _=>Qy) (Wu h)
theorem Ps{x:Entry}(h1:EM.r S w [v] x.links)(h2:Am.r S w [v'] x.data):FD.r S w [v,v'] x:=⟨[_],[_],rfl,h1,h2⟩
theorem A8.I4{lo:Nat}{A:Rp α}{v:Value}{xs:List α}(hlo:lo≤base)(h:A8 lo A base e sz w v xs):(XY sz A).r (fun b=>lo≤b∧b<w.heap.size) w [v] xs:=by
 obtain⟨cells,hown,hlen,hsz,hA⟩:=h
 rcases hown.2 with ⟨rfl,h0⟩ | ⟨g,cap,cur,rfl,hbg,hg,hn,hc,hcur,hx⟩
 ·have:xs=[]:=AQ h0
  subst this
  exact⟨none,0,rfl,As _,Ar _,.inl rfl⟩
 ·refine⟨_,cap,rfl,hn,hc,.inr ⟨g,0,rfl,⟨Bb hlo hbg,(Array.getElem?_eq_some_iff.1 hg).1⟩,fun i x hi=> ?_⟩⟩
  have hi':i<xs.length:=(List.getElem?_eq_some_iff.1 hi).1
  have hic:i<cells.length:=zC
  have hcs:cells[i]? =some cells[i]:=AF hic
  refine⟨cells[i],hsz _ (A0 hic),fun j v hj=>⟨?_,Blk.free hg _⟩,A.mono (hA i _ x hcs hi) fun b h=>⟨⟨h.1,h.2.1⟩,fun e=>h.2.2 (by rw[e];rfl)⟩⟩
  have hj':j<sz:=ZC
  have hf:=GX sz cells hsz i j _ v hcs hj
  rw[A7,show (⟨g,i*sz+j,none⟩:Addr)=⟨g,i*sz+j,none⟩ from rfl,Blk.cell hg (i*sz+j)]
  have hb:i*sz+j<xs.length*sz:=by
   have:=CO sz (show i+1≤xs.length from hi')
   rw[Nat.succ_mul] at this
   omega
  have e1:cur[i*sz+j]? =(cur.toList.take (xs.length*sz))[i*sz+j]? :=by
   rw[DS,Ag hb];simp
  rw[e1,hx];exact hf
theorem Dd.push{lo:Nat}{A:Rp α}{base:Nat}{e:TypeId}{sz:Nat}{v v':Value}{xs:List α}{news:List Value}{x:α}{cells:List (List Value)}(h:Dd lo A base e sz w v xs cells)
 (hn:news.length=sz) (hx:A.r (fun b=>lo≤b∧b<w.heap.size∧v.ownBlock≠some b) w news x)
 (hown:w'.ownsRow base e sz v' (xs.length+1) (cells.flatten++news)) (hg:w.grownBy w' v.ownBlock) (hat:v'.ownBlock=v.ownBlock∨v'.ownBlock=some w.heap.size) (hsz':w.heap.size≤w'.heap.size):Dd lo A base e sz w' v' (xs++[x]) (cells++[news]):=by
 obtain⟨ho,hlen,hsz,hA⟩:=h
 have lift:∀cs y,A.r (fun b=>lo≤b∧b<w.heap.size∧v.ownBlock≠some b) w cs y→A.r (fun b=>lo≤b∧b<w'.heap.size∧v'.ownBlock≠some b) w' cs y:=fun cs y hr=>
  A.mono (A.keep hr fun b hb=>hg.block b hb.2.1 (fun e=>hb.2.2 e.symm)) fun b hb=>⟨hb.1,An hb.2.1 hsz',fun e=>by
   rcases hat with h | h
   ·exact hb.2.2 (h ▸ e)
   ·rw[h] at e;have:=AR e;have:=hb.2.1;omega⟩
 refine⟨?_,by simp[hlen],?_,?_⟩
 ·rw[EK,Al]
  simpa using hown
 ·intro c hc
  rcases List.mem_append.1 hc with h | h
  ·exact hsz c h
  ·simp at h;subst h;exact hn
 ·intro i cs y hi hy
  by_cases hlt:i<xs.length
  ·rw[Cp zC] at hi
   rw[Cp hlt] at hy
   exact lift _ _ (hA i cs y hi hy)
  ·have hii:i=xs.length:=by
    have:=(List.getElem?_eq_some_iff.1 hy).1
    simp at this
    omega
   subst hii
   rw[CP zC] at hi
   rw[CP (As _)] at hy
   simp[hlen] at hi
   simp at hy
   subst hi hy
   exact lift _ _ hx
theorem A8.push{lo:Nat}{A:Rp α}{base:Nat}{e:TypeId}{sz:Nat}{v v':Value}{xs:List α}{news:List Value}{x:α}{cells:List (List Value)}(h:Dd lo A base e sz w v xs cells)
 (hn:news.length=sz) (hx:A.r (fun b=>lo≤b∧b<w.heap.size∧v.ownBlock≠some b) w news x)
 (hown:w'.ownsRow base e sz v' (xs.length+1) (cells.flatten++news)) (hg:w.grownBy w' v.ownBlock) (hat:v'.ownBlock=v.ownBlock∨v'.ownBlock=some w.heap.size) (hsz':w.heap.size≤w'.heap.size):A8 lo A base e sz w' v' (xs++[x]):=
 ⟨_,Dd.push h hn hx hown hg hat hsz'⟩
theorem A8.below{lo:Nat}{A:Rp α}{xs:List α}(h:A8 lo A base e sz w v xs)(hb:Below w.heap.size w w'):A8 lo A base e sz w' v xs:=by
 obtain⟨cells,ho,hlen,hsz,hA⟩:=h
 refine⟨cells,⟨ho.1,?_⟩,hlen,hsz,fun i cs x hi hx=>A.mono (A.keep (hA i cs x hi hx) fun b h=>hb.block b h.2.1) fun b h=>⟨h.1,An h.2.1 hb.size,h.2.2⟩⟩
 rcases ho.2 with h0 | ⟨g,cap,cur,h1,h2,h3,h4⟩
 ·exact .inl h0
 ·exact .inr ⟨g,cap,cur,h1,h2,Z0,h4⟩
theorem Dd.below{lo:Nat}{A:Rp α}{xs:List α}{cells:List (List Value)}(h:Dd lo A base e sz w v xs cells)(hb:Below w.heap.size w w'):Dd lo A base e sz w' v xs cells:=by
 obtain⟨ho,hlen,hsz,hA⟩:=h
 refine⟨⟨ho.1,?_⟩,hlen,hsz,fun i cs x hi hx=>A.mono (A.keep (hA i cs x hi hx) fun b h=>hb.block b h.2.1) fun b h=>⟨h.1,An h.2.1 hb.size,h.2.2⟩⟩
 rcases ho.2 with h0 | ⟨g,cap,cur,h1,h2,h3,h4⟩
 ·exact .inl h0
 ·exact .inr ⟨g,cap,cur,h1,h2,Z0,h4⟩
theorem EO{size:Nat}(W:World)(hb:base≤W.heap.size)(hg:g=W.heap.size):(W.alloc (.cells #[] e)).ownsRow base e size (.slice (some ⟨g,0,none⟩) 0 0) 0 []:=by
 subst hg
 exact⟨zM,.inr ⟨_,0,#[],rfl,hb,(MapKept.heap_alloc W _).1,As _,Ar _,zM,zM⟩⟩
theorem AV{size:Nat}(h:w.ownsRow base e size v n xs):∃a c,v=.slice a n c:=by
 rcases h.2 with ⟨rfl,rfl⟩ | ⟨g,cap,cur,rfl,_⟩
 ·exact⟨_,_,rfl⟩
 ·exact⟨_,_,rfl⟩
theorem PX{base:Nat}{v:Value}{A:Rp α}(f:α→Value){l:List α}(hf:∀(S:Nat→Prop) x,x∈l→A.r S w [f x] x)(hn:n=l.length)(h:w.ownsRow base e 1 v n (l.map f)):(rSl 1 A).r (fun b=>base≤b∧b<w.heap.size) w [v] l:=by
 subst hn
 rcases h.2 with ⟨rfl,h0⟩ | ⟨g,cap,cur,rfl,hbg,hg,hn,hc,hcur,hx⟩
 ·have:l=[]:=AQ h0
  subst this
  exact Bv rfl (As _) (Ar _) (.inl rfl)
 ·refine Bv rfl hn hc (.inr ⟨g,0,rfl,⟨hbg,Blk.lt hg⟩,fun i x hi=>⟨[f x],rfl,fun j v hj=> ?_,hf _ x (List.mem_of_getElem? hi)⟩⟩)
  have hj0:j=0:=by
   rcases j with _ | j
   ·rfl
   ·simp at hj
  subst hj0
  simp at hj
  subst hj
  have hi':i<l.length:=(List.getElem?_eq_some_iff.1 hi).1
  rw[A7,E3,Ed,Blk.cell hg i]
  have e1:cur[i]? =(cur.toList.take (l.length*1))[i]? :=by
   rw[DS,Ag zC];simp
  rw[e1,hx,FT,hi];rfl
theorem XT{S:Nat→Prop}{A:Rp α}(f:α→Value){l:List α}(hf:∀(S:Nat→Prop) cs x,A.r S w cs x→cs=[f x])(h:(rSl 1 A).r S w [.slice a n c] l):Src w a l.length 1 (l.map f):=by
 refine⟨zM,?_⟩
 rcases DR l.length with h0 | h0
 ·exact .inl h0
 ·right
  obtain⟨b,o,e,_⟩:=I5 h (i:=0) h0
  refine⟨b,o,e,fun j u hu=> ?_⟩
  have hj:j<l.length:=by
   have:=(List.getElem?_eq_some_iff.1 hu).1
   simpa using this
  obtain⟨b',o',e',_,cs,_,hc,hA⟩:=I5 h hj
  rw[e] at e'
  simp at e'
  obtain⟨rfl,rfl⟩:=e'
  have hcs:=hf _ _ _ hA
  subst hcs
  have:=hc 0 _ rfl
  rw[E3,Ed] at this
  simp only[FT,AF hj,Option.map_some,BV] at hu
  rw[←hu];exact this
def CX(l:List Int):List Value:=l.map fun n=> .int .u64 n
theorem PI(l:List Int):∀u∈CX l,u.oneCell'=true:=by
 intro u hu
 obtain⟨b,_,rfl⟩:=List.mem_map.1 hu
 rfl
theorem Ws{l:List Int}(h:Cb.r S w [.slice a n c] l):Src w a l.length 1 (CX l):=XT (A:=F6 .u64) (fun n=> .int .u64 n) (fun _ _ _ h=>h.1) h
theorem Is{base:Nat}{v:Value}{l:List Int}(hw:∀x∈l,0≤x∧x≤18446744073709551615)(hn:n=l.length)(h:w.ownsRow base e 1 v n (CX l)):Cb.r (fun b=>base≤b∧b<w.heap.size) w [v] l:=
 PX _ (fun _ x hx=>⟨rfl,F0 (hw x hx)⟩) hn h
theorem CG{base:Nat}{v:Value}{l:List UInt8}(hn:n=l.length)(h:w.ownsRow base e 1 v n (byteCells l)):Am.r (fun b=>base≤b∧b<w.heap.size) w [v] l:=
 PX _ (fun _ x _=>rfl) hn h
theorem Bz{size:Nat}(h:w.ownsRow base e size v n xs)(hb:Below w.heap.size w w'):w'.ownsRow base e size v n xs:=by
 refine⟨h.1,?_⟩
 rcases h.2 with h0 | ⟨g,cap,cur,h1,h2,h3,h4⟩
 ·exact .inl h0
 ·exact .inr ⟨g,cap,cur,h1,h2,Z0,h4⟩
theorem CL{P:Program}{ops:Array Oper}{o:Oper}{a:Act}{K:Act→World→Prop}{Q:Exit→Act→World→Prop}{E:Prop}(hgd:o.guard=none)(s x:Operand)(t:TypeId)
 (ho:o.op=.call {callee:=.builtin .append,args:=#[s,x],argTypes:=#[t,t]})
 (base:Nat) (e:TypeId) (i:TypeInfo) (z:Value) (size bytes:Nat) (ht:P.underlying t=some (.slice e)) (hi:P.info? e=some i) (hz:i.zero=some z)
 (hsize:i.size=size) (hby:i.bytes=bytes) (hzs:z.cells.size=size) (hsz:0<size)
 (v:Value) (n:Nat) (xs:List Value) (hs:a.eval s=v) (hown:w.ownsRow base e size v n xs)
 (A:Option Addr) (m c:Nat) (news:List Value) (hx:a.eval x=.slice A m c) (hsrc:Src w A m size news) (h1:∀u∈news,u.oneCell'=true)
 (h63:n+m≤maxLen) (hbytes:(n+m)*bytes≤140737488355328) (hbase:base≤w.heap.size)
 (h:∀a' c' w',w'.ownsRow base e size (.slice a' (n+m) c') (n+m) (xs++news)→w.grownBy w' v.ownBlock→((Value.slice a' (n+m) c').ownBlock=v.ownBlock∨(Value.slice a' (n+m) c').ownBlock=some w.heap.size)→K (a.put o.dst (.slice a' (n+m) c')) w'):
  if Region.wanted o (yielded ops a.tmps)=true then Oper.wp P o a w K Q else E:=by
 have hw:Region.wanted o (yielded ops a.tmps)=true:=by simp[Region.wanted,hgd]
 rw[Ag hw]
 obtain⟨v',w',hrun,h2,h3,h4⟩:=I6 (P:=P) base t o.type e i z size bytes ht hi hz hsize hby hzs hsz v n xs hown A m c news hsrc h1 h63 hbytes hbase
 obtain⟨a',c',rfl⟩:=AV h2
 unfold Oper.wp execOp
 simp only[ho,resolve,invoke,builtin,Sem.run_bind,Sem.run_pure,Result.andThen_ok,List.map_toArray,Ca,List.map_nil,hs,hx,hrun]
 exact h a' c' w' h2 h3 h4
end
end Go.Bs
namespace Go.Proofs.YtfddhafbhceoaaaGreat
open Go.RowKit Go.Bs
variable{b:List UInt8}{base c k n off p sz:Nat}{S:Nat → Prop}{a:Option Addr}{e:TypeId}{v:Value}{w:World}
def JP(b:List UInt8)(p q:Nat):Bool:=decide (p<b.length)&&decide (b[p]? =b[q]?)
theorem Wx{q:Nat}(hp:p<b.length)(hq:q<b.length):JP b p q=((b[p].toNat:Int)==(b[q].toNat:Int)):=by
 unfold JP
 rw[Ad hp,Dz,AF hp,AF hq,Bool.eq_iff_iff]
 simp only[Ao,BV,beq_iff_eq]
 constructor
 ·intro h;rw[h]
 ·intro h;exact UInt8.toNat_inj.1 zC
def Je(b:List UInt8)(p off k:Nat):Nat:=k+Gu b off (b.length-p-k) (p+k)
theorem Rc(h:p<b.length∧1≤off∧off≤p):Dc b p off=Je b p off 0:=by
 unfold Dc Je
 rw[Ag h];simp
theorem S7(h:JP b (p+k) (p+k-off)=true):Je b p off k=Je b p off (k+1)∧p+k<b.length:=by
 simp only[JP,Ap,Ao] at h
 refine⟨?_,h.1⟩
 unfold Je
 obtain⟨f,hf⟩:∃f,b.length-p-k=f+1:=⟨b.length-p-k-1,zC⟩
 rw[hf,show b.length-p-(k+1)=f by omega]
 simp only[Gu]
 rw[Ag h,show p+(k+1)=p+k+1 by omega]
 omega
theorem OZ(h:JP b (p+k) (p+k-off)=false):Je b p off k=k:=by
 unfold Je
 rcases DR (b.length-p-k) with h0 | h0
 ·rw[h0];rfl
 ·obtain⟨f,hf⟩:∃f,b.length-p-k=f+1:=⟨b.length-p-k-1,zC⟩
  rw[hf]
  simp only[Gu]
  rw[Ai]
  ·omega
  ·rintro⟨h1,h2⟩
   have:JP b (p+k) (p+k-off)=true:=by unfold JP;rw[Ad h1,Ad h2];rfl
   rw[this] at h;cases h
theorem Lv(h:¬(p<b.length∧1≤off∧off≤p)):Dc b p off=0:=by
 unfold Dc;rw[Ai h]
theorem QV(b:List UInt8)(p off:Nat)(a:Option Addr)(n c:Nat)(w:World)(hl:Am.r (·<w.heap.size) w [.slice a n c] b)(hlen:b.length≤1048576)(hp:p≤1048576)(ho:off≤1048577):
  Calls Tryz.prog 381 #[.slice a n c,.int .i64 p,.int .i64 off] w fun r w'=>r=.returned (.int .i64 (Dc b p off))∧Below w.heap.size w w':=by
 obtain⟨rfl,hm,_,_⟩:=AL hl
 by_cases h1:p<b.length
 ·have d0:decide ((p:Int)<0)=false:=by simp
  have d1:decide ((b.length:Int)≤(p:Int))=false:=zI
  have d1':decide (b.length≤p)=false:=zI
  by_cases h2:1≤off
  ·have d2:decide ((off:Int)<1)=false:=by simp;omega
   by_cases h3:off≤p
   ·have d3:decide ((p:Int)<(off:Int))=false:=by simp;omega
    have d3':decide (p<off)=false:=zI
    have hff:=hid (Rc (off:=off) ⟨h1,h2,h3⟩)
    obtain⟨g,o,hA,hg,_⟩:=Dg hl h1
    subst hA
    have HL:=hid hl;clear hl
    go_enter Tryz.func381,Tryz.ntmps381
    go_wp2_with fail
    go_loopw [7] (fun i wr=>∃k:Nat,k≤b.length-p∧i=.int .i64 k∧Hid (Dc b p off=Je b p off k)∧Below w.heap.size w wr) (fun i _=>b.length-(intOf i).toNat)
    case atStart=>exact ⟨0,Ar _,rfl,hff,Below.refl _ _⟩
    case round=>
     obtain⟨k,hk,rfl,hf,hb⟩:=hrel
     clear hff
     have d4:decide ((k:Int)<1048576)=true:=zI
     by_cases hlt:p+k<b.length
     ·have d5:decide ((p:Int)+(k:Int)<(b.length:Int))=true:=by simp;omega
      have hlq:p+k-off<b.length:=zC
      obtain⟨g1,o1,hA1,_,hc⟩:=Dg HL.out hlt
      obtain⟨g2,o2,hA2,_,hc'⟩:=Dg HL.out hlq
      simp only[BV,Addr.mk.injEq,AI] at hA1 hA2
      obtain⟨rfl,rfl⟩:=hA1
      obtain⟨rfl,rfl⟩:=hA2
      have C1:=fun s:AM wr=>s.cell ((hb.cell (p:=⟨g,o+(p+k),none⟩) hg).trans hc)
      have C2:=fun s:AM wr=>s.cell ((hb.cell (p:=⟨g,o+(p+k-off),none⟩) hg).trans hc')
      have hsa:=Wx hlt hlq
      generalize b[p+k]=x at*
      generalize b[p+k-off]=y at*
      clear hc hc'
      have i1:(0:Int)≤(p:Int)+(k:Int):=zC
      have i2:(0:Int)≤(p:Int)+(k:Int)-(off:Int):=zC
      have i3:(p:Int)+(k:Int)-(off:Int)<(b.length:Int):=zC
      have i4:(p:Int)+(k:Int)<(b.length:Int):=zC
      have t1:((p:Int)+(k:Int)).toNat=p+k:=zC
      have t2:((p:Int)+(k:Int)-(off:Int)).toNat=p+k-off:=zC
      cases hs:JP b (p+k) (p+k-off)
      ·have hend:=hid (OZ hs)
       rw[hs] at hsa
       have e1:((x.toNat:Int)==(y.toNat:Int))=false:=hsa.symm
       clear hs hsa
       go_wp2_with fail
       refine Az zJ zJ ?_
       repeat (go_big_quiet_step (fail))
       refine AT ?_
       rintro W5 ⟨⟨W5',hb5⟩,rfl⟩
       go_wp2
       go_ret
       exact⟨by rw[hf.out,hend.out];rfl,Aj hb5 hb⟩
      ·obtain⟨hn,_⟩:=S7 hs
       have HN:=hid hn
       rw[hs] at hsa
       have e1:((x.toNat:Int)==(y.toNat:Int))=true:=hsa.symm
       clear hs hsa hn
       go_wp2_with fail
       refine Az zJ zJ ?_
       repeat (go_big_quiet_step (fail))
       refine AT ?_
       rintro W5 ⟨⟨W5',hb5⟩,rfl⟩
       clear t1 t2
       go_wp2
       go_roundw
       case rel=>exact ⟨k+1,zC,zT,hid (by rw[hf.out,HN.out]),Aj hb5 hb⟩
       case measure=>simp [intOf];omega
     ·have d5:decide ((p:Int)+(k:Int)<(b.length:Int))=false:=by simp;omega
      have hs:JP b (p+k) (p+k-off)=false:=by simp[JP,hlt]
      have hend:=hid (OZ hs)
      clear hs
      go_wp2_with fail
      refine Az zJ zJ ?_
      repeat (go_big_quiet_step (fail))
      refine AT ?_
      rintro W5 ⟨⟨W5',hb5⟩,rfl⟩
      go_wp2
      go_ret
      exact⟨by rw[hf.out,hend.out];rfl,Aj hb5 hb⟩
   ·have d3:decide ((p:Int)<(off:Int))=true:=by simp;omega
    have hff:=hid (Lv (b:=b) (p:=p) (off:=off) zC)
    go_enter Tryz.func381,Tryz.ntmps381
    go_wp2
    go_ret
    exact⟨zP,zB⟩
  ·have d2:decide ((off:Int)<1)=true:=by simp;omega
   have hff:=hid (Lv (b:=b) (p:=p) (off:=off) zC)
   go_enter Tryz.func381,Tryz.ntmps381
   go_wp2
   go_ret
   exact⟨zP,zB⟩
 ·have d1:decide ((b.length:Int)≤(p:Int))=true:=by simp;omega
  have hff:=hid (Lv (b:=b) (p:=p) (off:=off) zC)
  go_enter Tryz.func381,Tryz.ntmps381
  go_wp2
  go_ret
  exact⟨zP,zB⟩
theorem SN(b:List UInt8)(p off:Int)(h0:0≤p)(h1:0≤off)(a:Option Addr)(n c:Nat)(w:World)(hl:Am.r (·<w.heap.size) w [.slice a n c] b)(hlen:b.length≤1048576)(hp:p≤1048576)(ho:off≤1048577):
  Calls Tryz.prog 381 #[.slice a n c,.int .i64 p,.int .i64 off] w fun r w'=>r=.returned (.int .i64 (Dc b p.toNat off.toNat))∧Below w.heap.size w w':=by
 obtain⟨p',rfl⟩:=Int.eq_ofNat_of_zero_le h0
 obtain⟨q',rfl⟩:=Int.eq_ofNat_of_zero_le h1
 exact QV b p' q' a n c w hl hlen zC zC
theorem M0(o n:Int)(w:World):Calls Tryz.prog 382 #[.int .i64 o,.int .i64 n] w fun r w'=>r=.returned (.tuple #[.int .i64 (if n<4 then 0 else o),.int .i64 (if n<4 then 0 else n)])∧w=w':=by
 by_cases h:n<4
 ·rw[Ag h,Ag h]
  have d1:decide (n<4)=true:=ZL
  clear h
  go_enter Tryz.func382,Tryz.ntmps382
  go_wp2
  go_ret2
  exact⟨rfl,rfl⟩
 ·rw[Ai h,Ai h]
  have d1:decide (n<4)=false:=ZL
  clear h
  go_enter Tryz.func382,Tryz.ntmps382
  go_wp2
  go_ret2
  exact⟨rfl,rfl⟩
theorem My(a b:Nat)(ha:a<4294967296)(hb:b<4294967296):bits .or .u32 (a:Int) (b:Int)=((a ||| b:Nat):Int):=by
 have hx:a ||| b<2^32:=Nat.or_lt_two_pow zC zC
 have h1:(BitVec.ofInt 32 (a:Int)).toNat=a:=by
  rw[BitVec.ofInt_natCast,BitVec.toNat_ofNat];exact IN zC
 have h2:(BitVec.ofInt 32 (b:Int)).toNat=b:=by
  rw[BitVec.ofInt_natCast,BitVec.toNat_ofNat];exact IN zC
 show IntKind.u32.wrap ((BitVec.ofInt 32 (a:Int) ||| BitVec.ofInt 32 (b:Int)).toNat:Int)=_
 rw[BitVec.toNat_or,h1,h2,IntKind.wrap_u32]
 omega
theorem Aad(a c k:Nat)(h:a<2^k):a ||| (c*2^k)=a+c*2^k:=by
 rw[Nat.or_comm,←Nat.shiftLeft_eq,←Nat.shiftLeft_add_eq_or_of_lt h,Nat.add_comm]
theorem PY(a c k m:Nat)(hm:2^k=m)(h:a<m)(hc:c*m<4294967296)(ha:a<4294967296):bits .or .u32 (a:Int) ((c:Int)*(m:Int))=(a:Int)+c*m:=by
 have e:((c:Int)*(m:Int))=((c*m:Nat):Int):=zM
 rw[e,My a (c*m) ha hc,←hm,Aad a c k (by rw[hm];exact h)]
 simp
theorem WV(x0 x1 x2 x3:UInt8):bits .or .u32 (bits .or .u32 (bits .or .u32 (bits .or .u32 0 ((x0.toNat:Int)%4294967296)) ((x1.toNat:Int)%4294967296*256%4294967296)) ((x2.toNat:Int)%4294967296*65536%4294967296)) ((x3.toNat:Int)%4294967296*16777216%4294967296)=((x0.toNat+256*x1.toNat+65536*x2.toNat+16777216*x3.toNat:Nat):Int):=by
 have h0:=x0.toNat_lt;have h1:=x1.toNat_lt;have h2:=x2.toNat_lt;have h3:=x3.toNat_lt
 have e0:(x0.toNat:Int)%4294967296=((x0.toNat:Nat):Int)*((1:Nat):Int):=zC
 have e1:(x1.toNat:Int)%4294967296*256%4294967296=(x1.toNat:Int)*((256:Nat):Int):=zC
 have e2:(x2.toNat:Int)%4294967296*65536%4294967296=(x2.toNat:Int)*((65536:Nat):Int):=zC
 have e3:(x3.toNat:Int)%4294967296*16777216%4294967296=(x3.toNat:Int)*((16777216:Nat):Int):=zC
 have ez:(0:Int)=((0:Nat):Int):=rfl
 rw[e0,e1,e2,e3,ez,PY 0 x0.toNat 0 1 zL zC zC zC]
 have f0:((0:Nat):Int)+(x0.toNat:Int)*((1:Nat):Int)=((x0.toNat:Nat):Int):=zC
 rw[f0,PY x0.toNat x1.toNat 8 256 zL zC zC zC]
 have f1:(x0.toNat:Int)+(x1.toNat:Int)*((256:Nat):Int)=((x0.toNat+256*x1.toNat:Nat):Int):=zC
 rw[f1,PY (x0.toNat+256*x1.toNat) x2.toNat 16 65536 zL zC zC zC]
 have f2:((x0.toNat+256*x1.toNat:Nat):Int)+(x2.toNat:Int)*((65536:Nat):Int)=((x0.toNat+256*x1.toNat+65536*x2.toNat:Nat):Int):=zC
 rw[f2,PY (x0.toNat+256*x1.toNat+65536*x2.toNat) x3.toNat 24 16777216 zL zC zC zC]
 omega
def JL(b:List UInt8)(p:Nat):Int × Bool:=match Ds b p with | some k=>(k,true) | none=>(0,false)
theorem GJ(hp:p+4≤b.length):Ds b p=some (b[p].toNat+256*b[p+1].toNat+65536*b[p+2].toNat+16777216*b[p+3].toNat):=by
 unfold Ds
 rw[AF (show p<b.length by omega),AF (show p+1<b.length by omega),AF (show p+2<b.length by omega),AF (show p+3<b.length by omega)]
theorem Lz(hp:b.length<p+4):Ds b p=none:=by
 unfold Ds
 rw[List.getElem?_eq_none (show b.length≤p+3 by omega)]
 split<;>simp_all
theorem T2(b:List UInt8)(p:Nat)(a:Option Addr)(n c:Nat)(w:World)(hl:Am.r (·<w.heap.size) w [.slice a n c] b)(hlen:b.length≤1048576)(hp:p+4≤b.length):
  Calls Tryz.prog 387 #[.slice a n c,.int .i64 p] w fun r w'=>r=.returned (.tuple #[.int .u32 (JL b p).1,.bool (JL b p).2])∧w=w':=by
 have hff:Hid (JL b p=(((b[p].toNat+256*b[p+1].toNat+65536*b[p+2].toNat+16777216*b[p+3].toNat:Nat):Int),true)):=hid (by unfold JL;rw[GJ hp])
 obtain⟨rfl,hm,_,_⟩:=AL hl
 obtain⟨g,o,hA,hg,c0⟩:=Dg hl (i:=p) zC
 obtain⟨g1,o1,hA1,_,c1⟩:=Dg hl (i:=p+1) zC
 obtain⟨g2,o2,hA2,_,c2⟩:=Dg hl (i:=p+2) zC
 obtain⟨g3,o3,hA3,_,c3⟩:=Dg hl (i:=p+3) zC
 subst hA
 simp only[BV,Addr.mk.injEq,AI] at hA1 hA2 hA3
 obtain⟨rfl,rfl⟩:=hA1
 obtain⟨rfl,rfl⟩:=hA2
 obtain⟨rfl,rfl⟩:=hA3
 have HL:=hid hl;clear hl
 have d0:decide ((p:Int)<0)=false:=zM
 have d1:decide ((b.length:Int)-4<(p:Int))=false:=zI
 generalize b[p]=x0 at*
 generalize b[p+1]=x1 at*
 generalize b[p+2]=x2 at*
 generalize b[p+3]=x3 at*
 have i0:(0:Int)≤(p:Int):=zC
 have i1:(p:Int)+3<(b.length:Int):=zC
 have i2:(p:Int)+2<(b.length:Int):=zC
 have i3:(p:Int)+1<(b.length:Int):=zC
 have i4:(p:Int)<(b.length:Int):=zC
 go_enter Tryz.func387,Tryz.ntmps387
 go_wp2_with fail
 refine wp_loop_rounds 5 ?_
 rw[rounds_succ]
 go_wp2_with fail
 rw[rounds_succ]
 go_wp2_with fail
 rw[rounds_succ]
 go_wp2_with fail
 rw[rounds_succ]
 go_wp2_with fail
 rw[rounds_succ]
 go_wp2_with fail
 go_ret2
 exact⟨by rw[hff.out,←WV];rfl,rfl⟩
theorem T3(b:List UInt8)(p:Nat)(a:Option Addr)(n c:Nat)(w:World)(hl:Am.r (·<w.heap.size) w [.slice a n c] b)(hlen:b.length≤1048576)(hp:b.length<p+4)(hp2:p≤1048576):
  Calls Tryz.prog 387 #[.slice a n c,.int .i64 p] w fun r w'=>r=.returned (.tuple #[.int .u32 (JL b p).1,.bool (JL b p).2])∧w=w':=by
 have hff:Hid (JL b p=(0,false)):=hid (by unfold JL;rw[Lz hp])
 obtain⟨rfl,hm,_,_⟩:=AL hl
 clear hl
 have d0:decide ((p:Int)<0)=false:=zM
 have d1:decide ((b.length:Int)-4<(p:Int))=true:=zI
 go_enter Tryz.func387,Tryz.ntmps387
 go_wp2
 go_ret2
 exact⟨zP,rfl⟩
theorem Px(b:List UInt8)(p:Nat)(a:Option Addr)(n c:Nat)(w:World)(hl:Am.r (·<w.heap.size) w [.slice a n c] b)(hlen:b.length≤1048576)(hp:p≤1048576):
  Calls Tryz.prog 387 #[.slice a n c,.int .i64 p] w fun r w'=>r=.returned (.tuple #[.int .u32 (JL b p).1,.bool (JL b p).2])∧w=w':=by
 by_cases h:p+4≤b.length
 ·exact T2 b p a n c w hl hlen h
 ·exact T3 b p a n c w hl hlen zC hp
end Go.Proofs.YtfddhafbhceoaaaGreat
namespace Go.Bs
open Go.RowKit
variable{b l:List UInt8}{cs xs:List Value}{base c g i k n o off p sz:Nat}{S:Nat → Prop}{a:Option Addr}{e t:TypeId}{v v':Value}{W w w' w1:World}
structure Tch(F:Nat→Prop)(w w':World):Prop where
 os:w'.os=w.os
 tape:w'.tape=w.tape
 output:w'.output=w.output
 size:w.heap.size≤w'.heap.size
 block:∀b,b<w.heap.size→¬F b→w'.heap[b]? =w.heap[b]?
section
variable {F G:Nat→Prop} {w w' w'':World}
theorem Tch.refl(F:Nat→Prop)(w:World):Tch F w w:=⟨rfl,rfl,rfl,As _,fun _ _ _=>rfl⟩
theorem Tch.trans(h:Tch F w w')(k:Tch G w' w'')(hG:∀b,b<w.heap.size→G b→F b):Tch F w w'':=
 ⟨k.os.trans h.os,k.tape.trans h.tape,k.output.trans h.output,Bb h.size k.size,fun b hb hF=>(k.block b (An hb h.size) (fun hg=>hF (hG b hb hg))).trans (h.block b hb hF)⟩
theorem Tch.mono(h:Tch F w w')(hF:∀b,b<w.heap.size→F b→G b):Tch G w w':=⟨h.os,h.tape,h.output,h.size,fun b hb hg=>h.block b hb (fun hf=>hg (hF b hb hf))⟩
theorem Tch.Ef{B:Nat}(h:Below B w w'):Tch (fun b=>B≤b) w w':=⟨h.os,h.tape,h.output,h.size,fun b hb hf=>h.block b zC⟩
theorem Tch.AW(h:Below w.heap.size w w'):Tch F w w':=⟨h.os,h.tape,h.output,h.size,fun b hb _=>h.block b hb⟩
theorem Tch.GR{row:Option Nat}(h:w.grownBy w' row):Tch (fun b=>row=some b) w w':=⟨h.os,h.tape,h.output,h.size,fun b hb hf=>h.block b hb (fun e=>hf e.symm)⟩
theorem Tch.alloc(h:Tch F w w')(o:Obj):Tch F w (w'.alloc o):=h.trans (Tch.AW (F:=F) ((Below.refl _ _).alloc (As _) o)) fun _ _ h=>h
theorem Tch.drew(h:Tch F w w'):Tch F w w'.drew:=⟨h.os,h.tape,h.output,h.size,h.block⟩
theorem Tch.drewN(h:Tch F w w')(n:Nat):Tch F w (w'.drewN n):=⟨h.os,h.tape,h.output,h.size,h.block⟩
theorem Tch.setCell(h:Tch F w w'){p:Addr}(hp:p.block<w.heap.size→F p.block)(u:Value):Tch F w (w'.setCell p u):=
 ⟨h.os,h.tape,h.output,by simpa [World.setCell] using h.size,fun b hb hf=>(At w' p u b (fun e=>hf (e ▸ hp (e ▸ hb)))).trans (h.block b hb hf)⟩
theorem Tch.below{B:Nat}(h:Tch F w w')(hF:∀b,b<w.heap.size→F b→B≤b):Below B w w'∨w.heap.size<B:=by
 by_cases hB:B≤w.heap.size
 ·exact .inl ⟨h.os,h.tape,h.output,h.size,fun b hb=>h.block b zC (fun hf=>by have:=hF b (by omega) hf;omega)⟩
 ·exact .inr zC
theorem Tch.Ch{B:Nat}(h:Tch F w w')(hB:B≤w.heap.size)(hF:∀b,b<w.heap.size→F b→B≤b):Below B w w':=(h.below hF).resolve_right zC
theorem Tch.cell(h:Tch F w w'){p:Addr}(hb:p.block<w.heap.size)(hf:¬F p.block):w'.cell? p=w.cell? p:=Bq (h.block _ hb hf)
theorem Tch.frozen(h:Tch F w w'){p:Addr}(hb:p.block<w.heap.size)(hf:¬F p.block):w'.frozen? p=w.frozen? p:=CV (h.block _ hb hf)
theorem Blk.tch{cs:Array Value}(h:Blk w g t cs)(k:Tch F w w')(hf:¬F g):Blk w' g t cs:=(k.block g h.lt hf).trans h
theorem BU(W:World)(e:TypeId)(cs:List Value)(hB:w=W.alloc (.cells cs.toArray e))(hg:g=W.heap.size)(hs:cs.length=sz):Src w (some ⟨g,0,none⟩) 1 sz cs:=by
 subst hB hg
 refine⟨zC,.inr ⟨_,0,rfl,fun j u hu=> ?_⟩⟩
 rw[A7,Blk.cell (Blk.new W e cs.toArray)]
 simpa using hu
end
end Go.Bs
