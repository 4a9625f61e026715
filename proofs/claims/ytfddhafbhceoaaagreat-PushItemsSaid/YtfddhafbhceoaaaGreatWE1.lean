/- Mini: Needed by pushItems_walk, part 1: texts put together by shake.py; no condition. -/
import Derived.WalkKit
import Derived.WalkLawsBesides
import Derived.WalkSpells
import Derived.Outline
import Derived.BigQuiet
import Derived.Deep.QuietTactic
import Derived.ProofKit
import Derived.OpenShut
import Derived.Deep.Slices
import Derived.Lib.SmallJoins
import Derived.Test.YtfddhafbhceoaaaGreatRows
import Derived.Deep.AppendLies
import Derived.Laws.IdiomStrings
import Derived.Laws.BytesArg
import Derived.Maps.AppendAt
set_option linter.unusedVariables false
set_option linter.unusedSimpArgs false
set_option maxRecDepth 100000
set_option maxHeartbeats 6400000
namespace Go.Bs
variable{b l:List UInt8}{cs xs:List Value}{base c g i lo n o off p sz:Nat}{S:Nat → Prop}{a:Option Addr}{e t:TypeId}{v:Value}{W w w':World}
theorem zCy{p:Prop}(h:p:=by rw [hff.out, Ai rfl, hst.out]; exact HV.out):p:=h
theorem zCw{p:Prop}(h:p:=by rw [hxs.out.2.2, GM]; simp [BU]):p:=h
theorem zCt{p:Prop}(h:p:=by simp only; omega):p:=h
theorem zCr{p:Prop}(h:p:=by simpa using hown):p:=h
theorem zCi{p:Prop}(h:p:=by rw [hf.out, hend.out]; rfl):p:=h
theorem zCe{p:Prop}(h:p:=by simp only [CI]; rw [Ad (by omega)]; rfl):p:=h
theorem zBp{p:Prop}(h:p:=by rw [hff.out]; exact Bt rfl (An _) (Am _) (.inl rfl)):p:=h
theorem zBn{p:Prop}(h:p:=by rw [hst.out]; simp [huv]):p:=h
theorem zBm{p:Prop}(h:p:=by simpa using h1):p:=h
theorem zA2{p:Prop}(h:p:=by rw [hf.out, hst.out]; simp [huv]):p:=h
theorem zAw{p:Prop}(h:p:=by unfold reach; omega):p:=h
theorem zAu{p:Prop}(h:p:=by rw [hf.out, hst'.out]):p:=h
theorem zAm{p:Prop}(h:p:=by simp [byteCells]):p:=h
theorem zAh{p:Prop}(h:p:=by rw [hb.block g (Array.getElem?_eq_some_iff.1 h3).1]; exact h3):p:=h
theorem zAe{p:Prop}(h:p:=by simpa using h):p:=h
theorem ZU{p:Prop}(h:p:=by have := (List.getElem?_eq_some_iff.1 hj).1; rw [hsz _ (Bi hic)] at this; exact this):p:=h
theorem ZO{p:Prop}(h:p:=by simp [Value.oneCell']):p:=h
theorem ZF{p:Prop}(h:p:=by rw [hf.out, GM, List.drop_of_length_le (by rw [HL.out]; exact An _)]; rfl):p:=h
theorem zV{p:Prop}(h:p:=by go_num):p:=h
theorem zO{p:Prop}(h:p:=by decide):p:=h
theorem zN{p:Prop}(h:p:=by simp):p:=h
theorem zM{p:Prop}(h:p:=by rw [hff.out]; rfl):p:=h
theorem zK{p:Prop}(h:p:=by simp only [maxLen]; omega):p:=h
theorem zI{p:Prop}(h:p:=by kernel_rfl):p:=h
theorem zH{p:Prop}(h:p:=by simp; omega):p:=h
theorem zD{p:Prop}(h:p:=by omega):p:=h
theorem zB{p:Prop}(h:p:=by (repeat (first | exact Below.refl _ _ | assumption | (refine AH ?_ _) | (refine Below.setCell ?_ (by first | omega | (simp; done) | (simp; omega)) _) | (refine Below.drew ?_) | (refine below_drewN ?_ _) | (refine Af (by assumption) ?_)))):p:=h
theorem Ad:type_of% @decide_eq_true:=@decide_eq_true
theorem Ae:type_of% @decide_eq_false:=@decide_eq_false
theorem Ag:type_of% @List.length_append:=@List.length_append
theorem Ai:type_of% @if_pos:=@if_pos
theorem Aj:type_of% @Nat.lt_of_lt_of_le:=@Nat.lt_of_lt_of_le
theorem Ak:type_of% @if_neg:=@if_neg
theorem Am:type_of% @Nat.zero_le:=@Nat.zero_le
theorem An:type_of% @Nat.le_refl:=@Nat.le_refl
theorem Aq:type_of% @Bool.and_eq_true:=@Bool.and_eq_true
theorem As:type_of% @List.cons.injEq:=@List.cons.injEq
theorem Au:type_of% @Proofs.Tryz.underlying22:=@Proofs.Tryz.underlying22
theorem Av:type_of% @decide_eq_true_eq:=@decide_eq_true_eq
theorem AB:type_of% @RowKit.Below.heap_setCell:=@RowKit.Below.heap_setCell
theorem AJ:type_of% @List.getElem?_eq_getElem:=@List.getElem?_eq_getElem
theorem AM:type_of% @and_true:=@and_true
theorem AO:type_of% @List.length_cons:=@List.length_cons
theorem AS:type_of% @List.drop_eq_getElem_cons:=@List.drop_eq_getElem_cons
theorem A1:type_of% @Nat.zero_add:=@Nat.zero_add
theorem A2:type_of% @List.eq_nil_of_length_eq_zero:=@List.eq_nil_of_length_eq_zero
theorem A3:type_of% @info_parts:=@info_parts
theorem A4:type_of% @Nat.le_trans:=@Nat.le_trans
theorem A5:type_of% @List.getElem?_append_left:=@List.getElem?_append_left
theorem A7:type_of% @Option.some.inj:=@Option.some.inj
theorem Bd:type_of% @Option.some.injEq:=@Option.some.injEq
theorem Bg:type_of% @wpList_plain:=@wpList_plain
theorem Bh:type_of% @Nat.lt_or_ge:=@Nat.lt_or_ge
theorem Bi:type_of% @List.getElem_mem:=@List.getElem_mem
theorem Bm:type_of% @wpQuiet_nil:=@wpQuiet_nil
theorem Bn:type_of% @World.cell?_of_block:=@World.cell?_of_block
theorem Bo:type_of% @List.getElem?_append_right:=@List.getElem?_append_right
theorem Bx:type_of% @RowKit.Below.heap_alloc:=@RowKit.Below.heap_alloc
theorem BX:type_of% @List.map_append:=@List.map_append
theorem BY:type_of% @Bool.true_and:=@Bool.true_and
theorem Cc:type_of% @Int.toNat_natCast:=@Int.toNat_natCast
theorem Ce:type_of% @List.take_append_drop:=@List.take_append_drop
theorem Cf:type_of% @Nat.eq_zero_or_pos:=@Nat.eq_zero_or_pos
theorem Cu:type_of% @Nat.add_zero:=@Nat.add_zero
theorem CE:type_of% @Nat.mul_le_mul_right:=@Nat.mul_le_mul_right
theorem CF:type_of% @List.take_of_length_le:=@List.take_of_length_le
theorem CK:type_of% @List.flatten_append:=@List.flatten_append
theorem CN:type_of% @World.block_lt_of_cell?:=@World.block_lt_of_cell?
theorem CR:type_of% @Prod.mk.injEq:=@Prod.mk.injEq
theorem CT:type_of% @World.frozen?_of_block:=@World.frozen?_of_block
theorem CZ:type_of% @Addr.mk.injEq:=@Addr.mk.injEq
theorem C7:type_of% @Proofs.Tryz.underlying37:=@Proofs.Tryz.underlying37
theorem De:type_of% @List.mem_singleton:=@List.mem_singleton
theorem Df:type_of% @List.getElem?_take:=@List.getElem?_take
theorem Dg:type_of% @List.map_cons:=@List.map_cons
theorem Du:type_of% @List.flatten_cons:=@List.flatten_cons
theorem Ee:type_of% @List.getElem?_map:=@List.getElem?_map
theorem Eu:type_of% @Nat.mod_eq_of_lt:=@Nat.mod_eq_of_lt
theorem EN:type_of% @Int.eq_ofNat_of_zero_le:=@Int.eq_ofNat_of_zero_le
theorem EO:type_of% @List.mem_append:=@List.mem_append
theorem EP:type_of% @List.length_map:=@List.length_map
theorem Fi:type_of% @Nat.mul_one:=@Nat.mul_one
theorem Fx:type_of% @if_true:=@if_true
theorem F9:type_of% @bounds_u64:=@bounds_u64
theorem GM:type_of% @List.drop_length:=@List.drop_length
theorem H5:type_of% @Bool.eq_iff_iff:=@Bool.eq_iff_iff
theorem Lx:type_of% @Nat.sub_self:=@Nat.sub_self
theorem Lz:type_of% @List.map_nil:=@List.map_nil
theorem LA:type_of% @List.drop_drop:=@List.drop_drop
open Go.RowKit
theorem hid{p:Prop}(h:p):Hid p:=h
theorem AH{a:World}(h:Below a.heap.size a W)(o:Obj):Below a.heap.size a (W.alloc o):=h.alloc h.size _
theorem below_drewN{B:Nat}{a:World}(h:Below B a w)(n:Nat):Below B a (w.drewN n):=⟨h.os,h.tape,h.output,h.size,h.block⟩
theorem Af{a:World}(hb:Below W.heap.size W w')(h:Below a.heap.size a W):Below a.heap.size a w':=h.trans (hb.mono h.size)
def Blk(w:World)(g:Nat)(t:TypeId)(cs:Array Value):Prop:=w.heap[g]? =some (.cells cs t (0,0))
section
variable {w w':World} {g:Nat} {t:TypeId} {cs:Array Value}
theorem Blk.lt(h:Blk w g t cs):g<w.heap.size:=by
 rcases Bh g w.heap.size with h' | h'
 ·exact h'
 ·unfold Blk at h;rw[Array.getElem?_eq_none h'] at h;cases h
theorem Blk.cell(h:Blk w g t cs)(i:Nat):w.cell? ⟨g,i,none⟩=cs[i]? :=by unfold Blk at h;simp[World.cell?,h]
theorem Blk.free(h:Blk w g t cs)(i:Nat):w.frozen? ⟨g,i,none⟩=false:=by unfold Blk at h;simp[World.frozen?,h]
theorem Blk.new(w:World)(t:TypeId)(cs:Array Value):Blk (w.alloc (.cells cs t)) w.heap.size t cs:=by
 unfold Blk;show (w.heap.push _)[w.heap.size]? =_;simp
theorem Blk.newAt(w:World)(t:TypeId)(cs:Array Value)(h:g=w.heap.size):Blk (w.alloc (.cells cs t)) g t cs:=h ▸ Blk.new w t cs
theorem Blk.Ab8(w:World)(o:Obj)(t:TypeId)(cs:Array Value):Blk ((w.alloc o).alloc (.cells cs t)) (w.heap.size+1) t cs:=by
 have:=Blk.new (w.alloc o) t cs;simpa using this
theorem Blk.alloc(h:Blk w g t cs)(o:Obj):Blk (w.alloc o) g t cs:=(Bx w o g h.lt).trans h
theorem Blk.drewN(h:Blk w g t cs)(n:Nat):Blk (w.drewN n) g t cs:=h
theorem Blk.drew(h:Blk w g t cs):Blk w.drew g t cs:=h
theorem Blk.set(h:Blk w g t cs)(i:Nat)(u:Value):Blk (w.setCell ⟨g,i,none⟩ u) g t (cs.setIfInBounds i u):=by
 unfold Blk at h ⊢;simp[World.setCell,Array.getElem?_modify,h]
theorem Blk.far(h:Blk w g t cs){p:Addr}(hp:g≠p.block)(u:Value):Blk (w.setCell p u) g t cs:=(AB w p u g hp).trans h
theorem Blk.below{B:Nat}(h:Blk w g t cs)(hb:Below B w w')(hg:g<B):Blk w' g t cs:=(hb.block g hg).trans h
theorem Blk.later(h:Blk w g t cs)(hb:Below w.heap.size w w'):Blk w' g t cs:=h.below hb h.lt
theorem Blk.grown{row:Option Nat}(h:Blk w g t cs)(hb:w.grownBy w' row)(hg:some g≠row):Blk w' g t cs:=(hb.block g h.lt hg).trans h
end
structure AX(w:World) where
 at_:World
 below:Below w.heap.size w at_
instance (w:World):Inhabited (AX w):=⟨⟨w,Below.refl _ _⟩⟩
theorem AX.cell{w:World}{b o:Nat}{v:Value}(h:w.cell? ⟨b,o,none⟩=some v)(s:AX w):s.at_.cell? ⟨b,o,none⟩=some v:=by
 have hlt:=CN w _ h;rw[s.below.cell (p:=⟨b,o,none⟩) hlt];exact h
section
variable {P:Program}
theorem Gs{c:Code}{Q:Exit→Act→World→Prop}{a:Act}(F:World→Prop)(hF:F w)(h:∀W,F W→c.wp P Q a W):c.wp P Q a w:=h w hF
theorem AR{id:Nat}{Q:Exit→Act→World→Prop}{a:Act}{w:World}{l:List Oper}(hm:P.follows .mixedOrders=true)(hB:Region.lexB .any l.toArray=true)
 (h:wpQuiet P l.toArray (fun w'=>∃s:AX w,w'=s.at_) (fun a'=>∀w',(∃s:AX w,w'=s.at_)→Q .normal a' w') l a):(Code.region id l.toArray true).wp P Q a w:=
 wp_region_quiet (C:=fun w'=>∃s:AX w,w'=s.at_) hm hB ⟨⟨w.drew,(Below.refl _ _).drew⟩,rfl⟩ zAe
theorem BZ{f:FuncId}{args:Array Value}{w:World}{s:AX w}{v:Value}
 (h:Calls P f args s.at_ fun e w'=>e=.returned v∧Below s.at_.heap.size s.at_ w'):Calls P f args s.at_ fun e w''=>e=.returned v∧∃s':AX w,w''=s'.at_:=
 h.mono fun _ w' ⟨he,hb⟩=>⟨he,⟨w',s.below.trans (hb.mono s.below.size)⟩,rfl⟩
theorem Og{f:FuncId}{args:Array Value}{w:World}{s:AX w}{v:Value}
 (h:Calls P f args s.at_ fun e w'=>e=.returned v∧s.at_=w'):Calls P f args s.at_ fun e w''=>e=.returned v∧∃s':AX w,w''=s'.at_:=
 h.mono fun _ _ ⟨he,hb⟩=>⟨he,s,hb.symm⟩
end
open Go.RowKit
structure Rp(α:Type) where
 r:(Nat→Prop)→World→List Value→α→Prop
 keep:∀{S:Nat→Prop} {w w':World} {cs:List Value} {x:α},r S w cs x→(∀b,S b→w'.heap[b]? =w.heap[b]?)→r S w' cs x
 mono:∀{S S':Nat→Prop} {w:World} {cs:List Value} {x:α},r S w cs x→(∀b,S b→S' b)→r S' w cs x
def GZ(k:IntKind):Rp Int:=⟨fun _ _ cs n=>cs=[.int k n]∧(Lit.int k n).wf=true,fun h _=>h,fun h _=>h⟩
def Aa5:Rp UInt8:=⟨fun _ _ cs b=>cs=[.int .u8 (b.toNat:Int)],fun h _=>h,fun h _=>h⟩
def Eb{α β:Type}(A:Rp α)(B:Rp β):Rp (α × β):=
  ⟨fun S w cs x=>∃c d,cs=c++d∧A.r S w c x.1∧B.r S w d x.2,
   fun ⟨c,d,h,h1,h2⟩ hk=>⟨c,d,h,A.keep h1 hk,B.keep h2 hk⟩,fun ⟨c,d,h,h1,h2⟩ hk=>⟨c,d,h,A.mono h1 hk,B.mono h2 hk⟩⟩
def rBy{α β:Type}(f:α→β)(B:Rp β):Rp α:=⟨fun S w cs x=>B.r S w cs (f x),fun h hk=>B.keep h hk,fun h hk=>B.mono h hk⟩
def Ach{α:Type}(sz:Nat)(A:Rp α)(S:Nat→Prop)(w:World)(b off:Nat)(xs:List α):Prop:=
 S b∧∀i x,xs[i]? =some x→∃cs:List Value,cs.length=sz∧(∀j v,cs[j]? =some v→w.cell? ⟨b,off+i*sz+j,none⟩=some v)∧A.r S w cs x
def rSl{α:Type}(sz:Nat)(A:Rp α):Rp (List α):=
  ⟨fun S w cs xs=>∃a c,cs=[.slice a xs.length c]∧xs.length≤c∧c≤maxLen∧(xs=[]∨∃b off,a=some ⟨b,off,none⟩∧Ach sz A S w b off xs),
   fun ⟨a,c,h,h1,h2,h3⟩ hk=>⟨a,c,h,h1,h2,h3.imp id fun ⟨b,off,e,hb,hr⟩=>⟨b,off,e,hb,fun i x hi=>
     let ⟨cs,hl,hc,hA⟩:=hr i x hi
     ⟨cs,hl,fun j v hj=>(Bn (a:=⟨b,off+i*sz+j,none⟩) (hk b hb)).trans (hc j v hj),A.keep hA hk⟩⟩⟩,
   fun ⟨a,c,h,h1,h2,h3⟩ hk=>⟨a,c,h,h1,h2,h3.imp id fun ⟨b,off,e,hb,hr⟩=>⟨b,off,e,hk b hb,fun i x hi=>
     let ⟨cs,hl,hc,hA⟩:=hr i x hi
     ⟨cs,hl,hc,A.mono hA hk⟩⟩⟩⟩
theorem Bt{α:Type}{A:Rp α}{xs:List α}(h:cs=[.slice a xs.length c])(h1:xs.length≤c)(h2:c≤maxLen)
 (h3:xs=[]∨∃b off,a=some ⟨b,off,none⟩∧Ach sz A S w b off xs):(rSl sz A).r S w cs xs:=⟨a,c,h,h1,h2,h3⟩
theorem SB{α:Type}(n:Nat)(Q:Nat→α→Prop)(h:∀i,i<n→∃y,Q i y):∃ys:List α,ys.length=n∧∀i y,ys[i]? =some y→Q i y:=by
 induction n with
 | zero=>exact ⟨[],rfl,fun i y h=>by simp at h⟩
 | succ n ih=>
  obtain⟨ys,h1,h2⟩:=ih fun i hi=>h i zD;obtain⟨y,hy⟩:=h n zD;refine⟨ys++[y],by simp[h1],fun i z hz=> ?_⟩;rcases Bh i ys.length with hi | hi
  ·rw[A5 hi] at hz
   exact h2 i z hz
  ·rw[Bo hi] at hz
   have h0:i-ys.length=0:=by
    rcases Cf (i-ys.length) with h | h
    ·exact h
    ·rw[List.getElem?_eq_none zH] at hz;cases hz
   rw[h0] at hz;simp at hz;subst hz;have:i=n:=zD;subst this;exact hy
theorem Rp.below{α:Type}(A:Rp α){w w':World}{B:Nat}{cs:List Value}{x:α}(h:A.r (·<B) w cs x)(hb:Below B w w'):A.r (·<B) w' cs x:=A.keep h hb.block
section
variable {P:Program}
def FY(P:Program)(t:TypeId){α:Type}(A:Rp α):Prop:=
 ∀{H:Type} (enc:TypeId × Value→H) (w:World) (fuel:Nat) (cs:List Value) (x:DataW H × List MemPlace),DataW.trod enc P w 0 (fun _=>true) true fuel t cs=some x→∃y,A.r (·<w.heap.size) w cs y
theorem PB{k:IntKind}(ht:P.underlying t=some (.int k)):FY P t (GZ k):=fun enc w fuel cs x h=>by
 obtain⟨n,rfl,_,hw⟩:=DataW.trod_int ht h;exact⟨n,rfl,hw⟩
theorem T2(ht:P.underlying t=some (.int .u8)):FY P t Aa5:=fun enc w fuel cs x h=>by
 obtain⟨n,rfl,_,hw⟩:=DataW.trod_int ht h;have:=bounds_u8 hw;refine⟨UInt8.ofNat n.toNat,?_⟩;show _=_
 have e:((UInt8.ofNat n.toNat).toNat:Int)=n:=by
  simp[UInt8.toNat_ofNat'];omega
 rw[e]
theorem Aae{a:Addr}{b:Nat}(h:w.cell? (a.add n)=some v):n=0→a.spot=none:=by
 rintro rfl;unfold Addr.add at h;simp only[Fx] at h;unfold World.cell? at h;cases hs:a.spot with
 | none=>rfl
 | some s=>
  rw[hs] at h;split at h<;>simp at h
theorem FJ{α:Type}{A:Rp α}(ht:P.underlying t=some (.slice e))(hs:P.cellsOf e=sz)(hsz:0<sz)(hA:FY P e A):FY P t (rSl sz A):=fun enc w fuel cs x h=>by
 rcases Deep.open_slice ht h with ⟨rfl,rfl⟩ | ⟨a,len,cap,m,n,D,Pl,rfl,hb,hl,hm,hmm,_,hel⟩
 ·exact⟨[],Bt rfl (An _) (Am _) (.inl rfl)⟩
 ·have hlm:len≤m:=by simp at hmm;omega
  rw[hs] at hel;have hy:∀i,i<len→∃y,∃cs':List Value,cs'.length=sz∧(∀j v,cs'[j]? =some v→w.cell? ((a.add (i*sz)).add j)=some v)∧A.r (·<w.heap.size) w cs' y:=by
   intro i hi;obtain⟨cs',hc,ht'⟩:=hel i zD;obtain⟨y,hy⟩:=hA enc w n cs' _ ht';obtain⟨_,h1,h2⟩:=World.cells?_some hc;exact⟨y,cs',h1,fun j v hj=>by
    have hj':j<sz:=by rw[←h1];exact (List.getElem?_eq_some_iff.1 hj).1
    rw[h2 j hj'];exact hj,hy⟩
  by_cases h0:len=0
  ·subst h0
   exact⟨[],Bt rfl (Am _) hm (.inl rfl)⟩
  have hspot:a.spot=none:=by
   obtain⟨y,cs',h1,h2,_⟩:=hy 0 zD;obtain⟨v,hv⟩:∃v,cs'[0]? =some v:=⟨cs'[0],AJ zD⟩;have:=h2 0 v hv;have e1:(a.add (0*sz)).add 0=a.add 0:=by simp[Addr.add]
   rw[e1] at this;exact Aae (b:=0) this rfl
  obtain⟨ys,hys⟩:∃ys:List α,ys.length=len∧∀i y,ys[i]? =some y→∃cs':List Value,cs'.length=sz∧(∀j v,cs'[j]? =some v→w.cell? ((a.add (i*sz)).add j)=some v)∧A.r (·<w.heap.size) w cs' y:=by
   exact SB len _ hy
  obtain⟨hlen,hys⟩:=hys;refine⟨ys,Bt (a:=some a) (c:=cap) (by rw[hlen]) zD hm (.inr ⟨a.block,a.off,by cases a;simp at hspot;rw[hspot],?_,?_⟩)⟩
  ·obtain⟨y,cs',h1,h2,_⟩:=hy 0 zD
   obtain⟨v,hv⟩:∃v,cs'[0]? =some v:=⟨cs'[0],AJ zD⟩;have:=CN w _ (h2 0 v hv);simpa [Addr.add] using this
  ·intro i y hiy
   obtain⟨cs',h1,h2,h3⟩:=hys i y hiy;refine⟨cs',h1,fun j v hj=> ?_,h3⟩;rw[←h2 j v hj];congr 1
   cases a with
   | mk ab ao asp=>
    simp at hspot;subst hspot;unfold Addr.add;split<;>split<;>simp_all
theorem Gv{H:Type}{enc:TypeId × Value→H}{fuel:Nat}{t:TypeId}{cs:List Value}{x:DataW H × List MemPlace}{fs:Array Field}(ht:P.underlying t=some (.struct fs))(h:DataW.trod enc P w 0 (fun _=>true) true fuel t cs=some x):
  cs.length=P.cellsOf t∧∃n,∀(i:Nat) (f:Field),fs[i]? =some f→∃y,DataW.trod enc P w 0 (fun _=>true) true n f.type ((cs.drop f.offset).take (P.cellsOf f.type))=some y:=by
 obtain⟨xs,n,_,_,h1,h2,h3⟩:=DataW.trod_struct ht h;refine⟨h1,n,fun i f hf=> ?_⟩;have hi:i<fs.size:=(Array.getElem?_eq_some_iff.1 hf).1;rw[h3 i f hf,AJ zD];exact⟨_,rfl⟩
theorem ED{α β:Type}{A:Rp α}{B:Rp β}{s o':Nat}{x:α}{y:β}(ho:o+s=o')(h1:A.r S w ((cs.drop o).take s) x)(h2:B.r S w (cs.drop o') y):(Eb A B).r S w (cs.drop o) (x,y):=
 ⟨_,_,by subst ho;rw[←LA,Ce],h1,h2⟩
theorem Wo{β:Type}{B:Rp β}{s:Nat}{y:β}(hl:cs.length=o+s)(h2:B.r S w ((cs.drop o).take s) y):B.r S w (cs.drop o) y:=by
 rwa [CF zH] at h2
end
open Go.RowKit
structure BH where
 stream:Int
 backs:List Int
structure Entry where
 links:List BH
 data:List UInt8
structure Batch where
 epoch:Int
 base:Int
 entries:List Entry
structure Seg where
 epoch:Int
 batches:List Batch
def Bb:Rp (List Int):=rSl 1 (GZ .u64)
def Ah:Rp (List UInt8):=rSl 1 Aa5
def ME:Rp BH:=rBy (fun l=>(l.stream,l.backs)) (Eb (GZ .u64) Bb)
def Cm:Rp (List BH):=rSl 2 ME
def TN:Rp Entry:=rBy (fun e=>(e.links,e.data)) (Eb Cm Ah)
def Hl:Rp (List Entry):=rSl 2 TN
def Hm:Rp Batch:=rBy (fun b=>(b.epoch,b.base,b.entries)) (Eb (GZ .u64) (Eb (GZ .u64) Hl))
section
variable {S:Nat→Prop} {w:World} {cs:List Value}
theorem AN{α:Type}{A:Rp α}{xs:List α}(h:(rSl sz A).r S w cs xs):∃a c,cs=[.slice a xs.length c]∧(rSl sz A).r S w [.slice a xs.length c] xs∧xs.length≤9223372036854775807:=by
 obtain⟨a,c,rfl,h1,h2,h3⟩:=h;exact⟨a,c,rfl,⟨a,c,rfl,h1,h2,h3⟩,by unfold maxLen at h2;omega⟩
theorem AT{α:Type}{A:Rp α}{xs:List α}(h:(rSl sz A).r S w [.slice a n c] xs):n=xs.length∧xs.length≤9223372036854775807∧n≤c∧c≤9223372036854775807:=by
 obtain⟨a',c',e,h1,h2,h3⟩:=h;simp at e;obtain⟨_,rfl,rfl⟩:=e;exact⟨rfl,by unfold maxLen at h2;omega,h1,h2⟩
theorem Kg{α:Type}{A:Rp α}{xs:List α}(h:(rSl sz A).r S w [.slice a n c] xs)(hi:i<xs.length):
  ∃b off,a=some ⟨b,off,none⟩∧S b∧∃cs:List Value,cs.length=sz∧(∀j v,cs[j]? =some v→w.cell? ⟨b,off+i*sz+j,none⟩=some v)∧A.r S w cs xs[i]:=by
 obtain⟨a',c',e,h1,h2,h3⟩:=h;simp at e;obtain⟨rfl,rfl,rfl⟩:=e;rcases h3 with rfl | ⟨b,off,rfl,hS,hr⟩
 ·simp at hi
 ·obtain⟨cs,hl,hc,hA⟩:=hr i xs[i] (AJ hi)
  exact⟨b,off,rfl,hS,cs,hl,hc,hA⟩
theorem Uc{x:BH}(h:ME.r S w cs x):∃a c,cs=[.int .u64 x.stream,.slice a x.backs.length c]∧(0≤x.stream∧x.stream≤18446744073709551615)∧Bb.r S w [.slice a x.backs.length c] x.backs:=by
 obtain⟨c1,c2,rfl,⟨rfl,hw⟩,h2⟩:=h;obtain⟨a,c,rfl,h3,_⟩:=AN h2;exact⟨a,c,rfl,F9 hw,h3⟩
theorem SY{x:Batch}(h:Hm.r S w cs x):∃a c,cs=[.int .u64 x.epoch,.int .u64 x.base,.slice a x.entries.length c]∧(0≤x.epoch∧x.epoch≤18446744073709551615)∧(0≤x.base∧x.base≤18446744073709551615)∧Hl.r S w [.slice a x.entries.length c] x.entries:=by
 obtain⟨c1,c2,rfl,⟨rfl,hw⟩,d1,d2,rfl,⟨rfl,hw2⟩,h2⟩:=h;obtain⟨a,c,rfl,h3,_⟩:=AN h2;exact⟨a,c,rfl,F9 hw,F9 hw2,h3⟩
theorem Fj{n:Int}(h:0≤n∧n≤18446744073709551615):(Lit.int .u64 n).wf=true:=by
 simp[Lit.wf,IntKind.min,IntKind.max,IntKind.signed,IntKind.bits];omega
theorem Vn{x:BH}(h0:0≤x.stream∧x.stream≤18446744073709551615)(h:Bb.r S w [.slice a n c] x.backs):ME.r S w [.int .u64 x.stream,.slice a n c] x:=⟨[_],[_],rfl,⟨rfl,Fj h0⟩,h⟩
theorem SX{x:Batch}(h0:0≤x.epoch∧x.epoch≤18446744073709551615)(h1:0≤x.base∧x.base≤18446744073709551615)(h:Hl.r S w [v] x.entries):Hm.r S w [.int .u64 x.epoch,.int .u64 x.base,v] x:=
 ⟨[_],[_,_],rfl,⟨rfl,Fj h0⟩,[_],[_],rfl,⟨rfl,Fj h1⟩,h⟩
theorem Dv{xs:List Int}(h:Bb.r S w [.slice a n c] xs)(hi:i<xs.length):∃b off,a=some ⟨b,off,none⟩∧S b∧w.cell? ⟨b,off+i,none⟩=some (.int .u64 xs[i])∧0≤xs[i]∧xs[i]≤18446744073709551615:=by
 obtain⟨b,off,e,hS,cs,_,hc,rfl,hw⟩:=Kg h hi;have:=hc 0 _ rfl;rw[Fi,Cu] at this;exact⟨b,off,e,hS,this,F9 hw⟩
theorem Cs{xs:List UInt8}(h:Ah.r S w [.slice a n c] xs)(hi:i<xs.length):∃b off,a=some ⟨b,off,none⟩∧S b∧w.cell? ⟨b,off+i,none⟩=some (.int .u8 (xs[i].toNat:Int)):=by
 obtain⟨b,off,e,hS,cs,_,hc,rfl⟩:=Kg h hi;have:=hc 0 _ rfl;rw[Fi,Cu] at this;exact⟨b,off,e,hS,this⟩
theorem EK{xs:List BH}(h:Cm.r S w [.slice a n c] xs)(hi:i<xs.length):∃b off,a=some ⟨b,off,none⟩∧S b∧∃a' c',w.cell? ⟨b,off+i*2,none⟩=some (.int .u64 xs[i].stream)∧w.cell? ⟨b,off+i*2+1,none⟩=some (.slice a' xs[i].backs.length c')∧
  (0≤xs[i].stream∧xs[i].stream≤18446744073709551615)∧Bb.r S w [.slice a' xs[i].backs.length c'] xs[i].backs:=by
 obtain⟨b,off,e,hS,cs,_,hc,hA⟩:=Kg h hi;obtain⟨a',c',rfl,h1,h2⟩:=Uc hA;exact⟨b,off,e,hS,a',c',hc 0 _ rfl,hc 1 _ rfl,h1,h2⟩
end
theorem lift{α:Type}{A:Rp α}{x:α}(h:A.r (·<w.heap.size) w cs x)(hb:Below w.heap.size w w'):A.r (·<w'.heap.size) w' cs x:=
 A.mono (A.below h hb) fun b hlt=>Aj hlt hb.size
def epR(e:Int):Bool:=decide (1≤e∧e<4611686018427387904)
def poR(e:Int):Bool:=decide (e<4611686018427387904)
def CI:Int→List Int→Bool
 | _,[]=>true
 | b,x::l=>decide (x<b)&&CI x l
def Bj:List Int→Bool
 | []=>true
 | [_]=>true
 | x::y::l=>decide (x<y)&&Bj (y::l)
def Ec(pos:Int)(x:BH):Bool:=decide (x.backs.length≤4)&&CI pos x.backs
def CH(pos:Int)(l:List BH):Bool:=decide (l.length≤16)&&(Bj (l.map BH.stream)&&l.all (Ec pos))
def Acb(base:Int)(n:Nat):Bool:=decide (1≤n∧n≤16∧base<4611686018427387904∧base+n≤4611686018427387904)
end Go.Bs
namespace Go.Proofs.YtfddhafbhceoaaaGreat
open Go.RowKit Go.Bs
variable{b:List UInt8}{base c n o off p sz:Nat}{S:Nat → Prop}{a:Option Addr}{e:TypeId}{v:Value}{w:World}
theorem GK(e:Int)(w:World):Calls Tryz.prog 142 #[.int .u64 e] w fun r w'=>r=.returned (.bool (epR e))∧w=w':=by
 by_cases h1:1≤e
 ·by_cases h2:e<4611686018427387904
  ·have:epR e=true:=by simp[epR,h1,h2]
   rw[this];have d1:decide (1≤e)=true:=zBm;have d2:decide (e<4611686018427387904)=true:=by simpa using h2
   clear this h1 h2;go_enter Tryz.func142,Tryz.ntmps142;go_wp2;go_ret;exact⟨rfl,rfl⟩
  ·have:epR e=false:=by simp[epR,h2]
   rw[this];have d1:decide (1≤e)=true:=zBm;have d2:decide (e<4611686018427387904)=false:=by simpa using h2
   clear this h1 h2;go_enter Tryz.func142,Tryz.ntmps142;go_wp2;go_ret;exact⟨rfl,rfl⟩
 ·have:epR e=false:=by simp[epR,h1]
  rw[this];have d1:decide (1≤e)=false:=zBm;clear this h1;go_enter Tryz.func142,Tryz.ntmps142;go_wp2;go_ret;exact⟨rfl,rfl⟩
theorem Me(e:Int)(w:World):Calls Tryz.prog 256 #[.int .u64 e] w fun r w'=>r=.returned (.bool (poR e))∧w=w':=by
 go_enter Tryz.func256,Tryz.ntmps256;go_wp2;go_ret;exact⟨rfl,rfl⟩
theorem Ok:(Tryz.prog.info? 36).map (fun i=>(i.zero,i.size,i.bytes))=some (some (.int .u64 0),1,8):=zI
def BU:Int→List Int→List Int
 | _,[]=>[]
 | b,x::l=>(b-x-1)::BU x l
def ahead(b:Int)(l:List Int)(k:Nat):Int:=if k=0 then b else l.getD (k-1) 0
theorem ahead_zero(b:Int)(l:List Int):ahead b l 0=b:=rfl
theorem KN(b:Int)(l:List Int)(k:Nat)(h:k<l.length):ahead b l (k+1)=l[k]:=by
 unfold ahead;rw[Ak zD];simp[h]
def Aaf(below:Int)(l:List Int)(w:World)(e:Ending)(w':World):Prop:=
 ∃v,e=.returned (.tuple #[v,.bool (CI below l)])∧Bb.r (·<w'.heap.size) w' [v] (if CI below l then BU below l else [])∧Below w.heap.size w w'
theorem Yc{xs:List Int}(h:w.ownsRow base e 1 v xs.length (xs.map (Value.int .u64)))(hb:∀x∈xs,0≤x∧x≤18446744073709551615)(hm:xs.length≤maxLen):Bb.r (·<w.heap.size) w [v] xs:=by
 rcases h.2 with ⟨rfl,h0⟩ | ⟨g,cap,cur,rfl,hbg,hg,hn,hc,hcur,hx⟩
 ·have:xs=[]:=A2 h0
  subst this;exact Bt rfl (An _) (Am _) (.inl rfl)
 ·refine Bt rfl hn hc (.inr ⟨g,0,rfl,Blk.lt hg,fun i x hi=>⟨[.int .u64 x],rfl,fun j v hj=> ?_,rfl,Fj (hb x (List.mem_of_getElem? hi))⟩⟩)
  have hj0:j=0:=by
   rcases j with _ | j
   ·rfl
   ·simp at hj
  subst hj0;simp at hj;subst hj;have hi':i<xs.length:=(List.getElem?_eq_some_iff.1 hi).1;rw[A1,Fi,Cu,Blk.cell hg i];have e1:cur[i]? =(cur.toList.take (xs.length*1))[i]? :=by
   rw[Df,Ai zD];simp
  rw[e1,hx,Ee,hi];rfl
theorem VV(below:Int)(l:List Int)(a:Option Addr)(n c:Nat)(w:World)(hb0:0≤below∧below≤18446744073709551615)(hl:Bb.r (·<w.heap.size) w [.slice a n c] l)(hlen:l.length≤1000000000000):
  Calls Tryz.prog 356 #[.int .u64 below,.slice a n c] w (Aaf below l w):=by
 obtain⟨rfl,hm,_,_⟩:=AT hl;obtain⟨i0,hi,hz0,hz1,hz2⟩:=A3 Ok;have HL:=hid hl;clear hl;go_enter Tryz.func356,Tryz.ntmps356;go_wp2;go_loopw [0,6,11] (fun b v i wr=>∃k:Nat,k≤l.length∧i=.int .i64 k∧b=.int .u64 (ahead below l k)∧0≤ahead below l k∧ahead below l k≤18446744073709551615∧Hid (CI below l=CI (ahead below l k) (l.drop k))∧
   (∃xs:List Int,Hid (xs.length=k∧(∀x∈xs,0≤x∧x≤18446744073709551615)∧BU below l=xs++BU (ahead below l k) (l.drop k))∧wr.ownsRow w.heap.size 36 1 v k (xs.map (Value.int .u64)))∧Below w.heap.size w wr) (fun _ _ i _=>l.length-(intOf i).toNat)
 case atStart=>exact ⟨0,Am _,rfl,rfl,hb0.1,hb0.2,hid rfl,⟨[],hid ⟨rfl,zN,rfl⟩,⟨rfl,.inl ⟨rfl,rfl⟩⟩⟩,Below.refl _ _⟩
 case round=>
  obtain⟨k,hk,rfl,rfl,ha0,ha1,hf,⟨xs,hxs,hown⟩,hb⟩:=hrel;by_cases hlt:k<l.length
  ·obtain⟨b,o,hA,hbb,hc,hx0,hx1⟩:=Dv HL.out hlt
   subst hA;have q:=(hb.cell (p:=⟨b,o+k,none⟩) hbb).trans hc;clear hc;have hd:=hid (AS hlt);have hsu:=hid (KN below l k hlt);generalize hlk:l[k]=x at*;clear hlk;generalize ahead below l k=p at*;by_cases hge:p≤x
   ·have hff:Hid (CI below l=false):=by
     rw[hf.out,hd.out];exact hid (by simp[CI];omega)
    go_wp2;go_ret2
    exact⟨.slice none 0 0,zM,zBp,hb⟩
   ·have hbs:=hb.size
    have w1:0≤p-x:=zD;have w2:0≤p-x-1:=zD;go_wp2_with (at_builtin;refine wpList_append_lies _ rfl _ _ _ rfl w.heap.size 36 i0 (.int .u64 0) 1 8 C7 hi hz0 hz1 hz2 rfl zO _ k _ rfl (hown.alloc _) ⟨wr.heap.size,0,none⟩ 1 1 [.int .u64 (p-x-1)] rfl rfl (World.news_of_block (Blk.new _ _ _)) ZO zO zK zD zH _ rfl ?_;intro g1 cap1 w1' hown1 hgrow1 hat1 hlt1)
    go_roundw
    case rel=>
     refine⟨k+1,zD,zV,by rw[hsu.out],by rw[hsu.out];exact hx0,by rw[hsu.out];exact hx1,?_,⟨xs++[p-x-1],?_,?_⟩,?_⟩
     ·rw[hf.out,hd.out,hsu.out]
      exact hid zCe
     ·refine hid ⟨by simp[hxs.out.1],?_,?_⟩
      ·intro y hy
       rw[EO,De] at hy;rcases hy with hy | rfl
       ·exact hxs.out.2.1 y hy
       ·omega
      ·rw[hsu.out,hxs.out.2.2,hd.out]
       simp[BU]
     ·rw[BX];exact hown1
     ·refine Below.grown ?_ hgrow1 zH (fun g e=>(hown.lt g e).1)
      exact hb.alloc hbs _
    case measure=>simp [intOf];omega
  ·obtain rfl:k=l.length:=by omega
   have hff:Hid (CI below l=true):=by
    rw[hf.out,GM];exact hid rfl
   have hxl:=hxs.out.1;have hst:Hid (BU below l=xs):=hid zCw;have hv:Bb.r (·<wr.heap.size) wr [u6] xs:=Yc (by rw[hxl];exact hown) hxs.out.2.1 (by unfold maxLen;omega);have HV:=hid hv;clear hv hxl;go_wp2;go_ret2
   exact⟨u6,zM,zCy,hb⟩
theorem SA(below:Int)(l:List Int)(a:Option Addr)(n c:Nat)(w:World)(hb0:0≤below∧below≤18446744073709551615)(hl:Bb.r (·<w.heap.size) w [.slice a n c] l)(hlen:l.length≤1000000000000):
  Calls Tryz.prog 336 #[.int .u64 below,.slice a n c] w fun r w'=>r=.returned (.bool (CI below l))∧Below w.heap.size w w':=by
 have HL:=hid hl;clear hl;go_enter Tryz.func336,Tryz.ntmps336;go_wp2_with fail;refine (VV below l a n c _ hb0 HL.out hlen).mono ?_;rintro e w1 ⟨v,rfl,_,hb1⟩;go_wp2;go_ret;exact⟨rfl,hb1⟩
end Go.Proofs.YtfddhafbhceoaaaGreat
namespace Go.Bs
open Go.RowKit
variable{b l:List UInt8}{cs xs:List Value}{base c g i lo n o off p sz:Nat}{S:Nat → Prop}{a:Option Addr}{e t:TypeId}{v:Value}{W w w':World}
deriving instance DecidableEq for BH,Entry,Batch,Seg
theorem JZ{P:Program}(src dst e:TypeId)(hs:P.underlying src=some (.slice e))(he:P.underlying e=some (.int .u8))(hd:P.underlying dst=some .string)
 (h:Ah.r S w [.slice a n c] l):(convert src dst (.slice a l.length c)).run P w=.ok (.string ⟨l.toArray⟩) w:=by
 obtain⟨rfl,_,_,_⟩:=AT h;rcases a with _ | ad
 ·have h0:l=[]:=by
   rcases l with _ | ⟨x,l⟩
   ·rfl
   ·obtain⟨b,off,e,_⟩:=Cs h (i:=0) zN
    cases e
  subst h0;exact run_convert_bytes_nil w src e hs he _ _ dst hd
 ·refine run_convert_bytes_back w src dst e ad c l hs he hd fun j hj=> ?_
  obtain⟨b,off,e,_,hc⟩:=Cs h hj;simp at e;subst e;rw[←hc];congr 1
  unfold Addr.add;split
  ·rename_i h0;subst h0;rfl
  ·rfl
end Go.Bs
namespace Go.Proofs.YtfddhafbhceoaaaGreat
open Go.RowKit Go.Bs
variable{b:List UInt8}{base c n o off p sz:Nat}{S:Nat → Prop}{a:Option Addr}{e:TypeId}{v:Value}{w:World}
theorem NP(x y:List UInt8)(a a':Option Addr)(n c n' c':Nat)(w:World)(hx:Ah.r (·<w.heap.size) w [.slice a n c] x)(hy:Ah.r (·<w.heap.size) w [.slice a' n' c'] y):
  Calls Tryz.prog 24 #[.slice a n c,.slice a' n' c'] w fun r w'=>r=.returned (.bool (decide (x=y)))∧w=w':=by
 obtain⟨rfl,_,_,_⟩:=AT hx;obtain⟨rfl,_,_,_⟩:=AT hy;have h1:=JZ (P:=Tryz.prog) 22 9 5 Au Tryz.underlying5 Tryz.underlying9 hx;have h2:=JZ (P:=Tryz.prog) 22 9 5 Au Tryz.underlying5 Tryz.underlying9 hy;have he:(x==y)=decide (x=y):=by
  by_cases h:x=y
  ·simp[h]
  ·simp[h]
 have HE:=hid he;clear he hx hy;go_enter Tryz.func24,Tryz.ntmps24;go_wp2;go_ret;refine⟨?_,rfl⟩;rw[←HE.out];simp[go_sem]
theorem G5{α:Type}[DecidableEq α](x y:List α)(k:Nat)(hx:k<x.length)(hy:k<y.length):decide (x.drop k=y.drop k)=(decide (x[k]=y[k])&&decide (x.drop (k+1)=y.drop (k+1))):=by
 rw[AS hx,AS hy,H5,decide_eq_true_iff,Aq,decide_eq_true_iff,decide_eq_true_iff,As]
theorem LI(x y:List Int)(a a':Option Addr)(n c n' c':Nat)(w:World)(hx:Bb.r (·<w.heap.size) w [.slice a n c] x)(hy:Bb.r (·<w.heap.size) w [.slice a' n' c'] y):
  Calls Tryz.prog 105 #[.slice a n c,.slice a' n' c'] w fun r w'=>r=.returned (.bool (decide (x=y)))∧Below w.heap.size w w':=by
 obtain⟨rfl,hm,_,_⟩:=AT hx;obtain⟨rfl,hm',_,_⟩:=AT hy;by_cases hl:x.length=y.length
 ·have HX:=hid hx;clear hx
  have HY:=hid hy;clear hy;have HL:=hid hl;have e1:((x.length:Int) !=(y.length:Int))=false:=by simp[hl]
  clear hl;go_enter Tryz.func105,Tryz.ntmps105;go_wp2;go_loopw [5] (fun i wr=>∃k:Nat,k≤x.length∧i=.int .i64 k∧Hid (decide (x=y)=decide (x.drop k=y.drop k))∧Below w.heap.size w wr) (fun i _=>x.length-(intOf i).toNat)
  case atStart=>exact ⟨0,Am _,rfl,hid rfl,Below.refl _ _⟩
  case round=>
   obtain⟨k,hk,rfl,hf,hb⟩:=hrel;by_cases hlt:k<x.length
   ·have hlt':k<y.length:=by rw[←HL.out];exact hlt
    obtain⟨b,o,hA,hbb,hc,_,_⟩:=Dv HX.out hlt;obtain⟨b',o',hA',hbb',hc',_,_⟩:=Dv HY.out hlt';have hst:=hid (G5 x y k hlt hlt');subst hA hA';have X0:=fun s:AX wr=>s.cell ((hb.cell (p:=⟨b,o+k,none⟩) hbb).trans hc);have X1:=fun s:AX wr=>s.cell ((hb.cell (p:=⟨b',o'+k,none⟩) hbb').trans hc');clear hc hc';generalize hlk:x[k]=u at*;generalize hlm:y[k]=v at*;clear hlk hlm;have i0:(0:Int)≤(k:Int):=zD;have i1:(k:Int)<(x.length:Int):=zD;have i2:(k:Int)<(y.length:Int):=zD;by_cases huv:u=v
    ·have d1:(u !=v)=false:=by simp[huv]
     have hst':Hid (decide (x.drop k=y.drop k)=decide (x.drop (k+1)=y.drop (k+1))):=hid zBn;clear huv;go_wp2_with fail;refine AR zI zI ?_;repeat (go_big_quiet_step (fail))
     refine Bm ?_;rintro W5 ⟨⟨W5',hb5⟩,rfl⟩;go_wp2;go_roundw
     case rel=>exact ⟨k+1,zD,zV,hid zAu,Af hb5 hb⟩
     case measure=>simp [intOf];omega
    ·have d1:(u !=v)=true:=by simp[huv]
     have hff:Hid (decide (x=y)=false):=hid zA2;clear huv;go_wp2_with fail;refine AR zI zI ?_;repeat (go_big_quiet_step (fail))
     refine Bm ?_;rintro W5 ⟨⟨W5',hb5⟩,rfl⟩;go_wp2;go_ret;exact⟨zM,Af hb5 hb⟩
   ·obtain rfl:k=x.length:=by omega
    have hff:Hid (decide (x=y)=true):=hid ZF;go_wp2;go_ret;exact⟨zM,hb⟩
 ·have hff:Hid (decide (x=y)=false):=hid (by simp;rintro rfl;exact hl rfl)
  have e1:((x.length:Int) !=(y.length:Int))=true:=zH;clear hl hx hy;go_enter Tryz.func105,Tryz.ntmps105;go_wp2;go_ret;exact⟨zM,Below.refl _ _⟩
def Fc(l:List Int)(k:Nat):Bool:=if k=0 then Bj l else Bj (l.drop (k-1))
theorem Mx(l:List Int):Fc l 1=Fc l 0:=by simp[Fc]
theorem K2(l:List Int)(m:Nat)(h:m+1<l.length):Fc l (m+1)=(decide (l[m]<l[m+1])&&Fc l (m+2)):=by
 have e1:l.drop m=l[m]::l[m+1]::l.drop (m+2):=by
  rw[AS (show m<l.length by omega),AS h]
 have e2:l.drop (m+1)=l[m+1]::l.drop (m+2):=AS h;show Bj (l.drop m)=(_&&Bj (l.drop (m+1)))
 rw[e1,e2];rfl
theorem My(l:List Int):Fc l l.length=true:=by
 unfold Fc;split
 ·rename_i h;rw[A2 h];rfl
 ·rename_i h
  have e:l.drop (l.length-1)=[l[l.length-1]]:=by
   rw[AS (show l.length-1<l.length by omega),List.drop_of_length_le zD]
  rw[e];rfl
theorem MJ(s:Int)(v:Value)(h1:v.oneCell'=true)(w:World):Calls Tryz.prog 334 #[.agg #[.int .u64 s,v]] w fun r w'=>r=.returned (.int .u64 s)∧Below w.heap.size w w':=by
 go_enter Tryz.func334,Tryz.ntmps334;go_wp2;go_ret;exact⟨rfl,zB⟩
theorem T9(l:List BH)(a:Option Addr)(n c:Nat)(w:World)(hl:Cm.r (·<w.heap.size) w [.slice a n c] l):
  Calls Tryz.prog 333 #[.slice a n c,.func (.func 334) #[] #[]] w fun r w'=>r=.returned (.bool (Bj (l.map BH.stream)))∧Below w.heap.size w w':=by
 obtain⟨rfl,hm,_,_⟩:=AT hl;have HL:=hid hl;clear hl;go_enter Tryz.func333,Tryz.ntmps333;go_wp2;go_loopw [8] (fun i wr=>∃k:Nat,k≤l.length∧i=.int .i64 k∧Hid (Bj (l.map BH.stream)=Fc (l.map BH.stream) k)∧Below w.heap.size w wr) (fun i _=>l.length-(intOf i).toNat)
 case atStart=>exact ⟨0,Am _,rfl,hid rfl,Below.refl _ _⟩
 case round=>
  obtain⟨k,hk,rfl,hf,hb⟩:=hrel;by_cases hlt:k<l.length
  ·obtain⟨b,o,hA,hbb,a1,c1,hc0,hc1,_,_⟩:=EK HL.out hlt
   have hlt':(k:Int)<(l.length:Int):=zD;rcases k with _ | m
   ·have h1:=hid (Mx (l.map BH.stream))
    go_wp2_with fail;refine AR zI zI ?_;repeat (go_big_quiet_step (fail))
    refine Bm ?_;rintro W5 ⟨⟨W5',hb5⟩,rfl⟩;go_wp2;go_roundw
    case rel=>exact ⟨1,zD,rfl,hid (by rw[hf.out,h1.out]),Af hb5 hb⟩
    case measure=>simp [intOf];omega
   ·obtain⟨b',o',hA',hbb',a2,c2,hd0,hd1,_,_⟩:=EK HL.out (show m<l.length by omega)
    have hst:=hid (K2 (l.map BH.stream) m (by simpa using hlt));subst hA;obtain⟨rfl,rfl⟩:b'=b∧o'=o:=by simp at hA';exact⟨hA'.1.symm,hA'.2.symm⟩
    clear hA';have X0:=fun s:AX wr=>s.cell ((hb.cell (p:=⟨b',o'+(m+1)*2,none⟩) hbb).trans hc0);have X1:=fun s:AX wr=>s.cell ((hb.cell (p:=⟨b',o'+(m+1)*2+1,none⟩) hbb).trans hc1);have Y0:=fun s:AX wr=>s.cell ((hb.cell (p:=⟨b',o'+m*2,none⟩) hbb).trans hd0);have Y1:=fun s:AX wr=>s.cell ((hb.cell (p:=⟨b',o'+m*2+1,none⟩) hbb).trans hd1);clear hc0 hc1 hd0 hd1;simp only[List.getElem_map] at hst;generalize l[m+1].stream=x at*;generalize l[m].stream=y at*;generalize l[m+1].backs.length=n1 at*;generalize l[m].backs.length=n2 at*;rw[show ((m+1:Nat):Int)=(m:Int)+1 from zD];have k1:(0:Int)<(m:Int)+1:=zD;have k2:(0:Int)≤(m:Int)+1-1:=zD;have k3:(m:Int)+1<(l.length:Int):=zD;have k4:(m:Int)<(l.length:Int):=zD;by_cases hge:x≤y
    ·have d1:decide (x≤y)=true:=by simpa using hge
     have hff:Hid (Bj (l.map BH.stream)=false):=hid (by rw[hf.out,hst.out];simp;omega);clear hge;go_wp2_with fail;refine AR zI zI ?_;repeat (go_big_quiet_step (((go_at_call 334;exact BZ (MJ _ _ rfl _)))))
     refine Bm ?_;rintro W5 ⟨⟨W5',hb5⟩,rfl⟩;go_wp2;go_ret;exact⟨zM,Af hb5 hb⟩
    ·have d1:decide (x≤y)=false:=by simpa using hge
     have hst':Hid (Fc (l.map BH.stream) (m+1)=Fc (l.map BH.stream) (m+2)):=hid (by rw[hst.out,Ad (by omega)];rfl);clear hge;go_wp2_with fail;refine AR zI zI ?_;repeat (go_big_quiet_step (((go_at_call 334;exact BZ (MJ _ _ rfl _)))))
     refine Bm ?_;rintro W5 ⟨⟨W5',hb5⟩,rfl⟩;go_wp2;go_roundw
     case rel=>exact ⟨m+2,zD,zV,hid zAu,Af hb5 hb⟩
     case measure=>simp [intOf];omega
  ·obtain rfl:k=l.length:=by omega
   have hff:Hid (Bj (l.map BH.stream)=true):=hid (by
    have:=My (l.map BH.stream);rw[EP] at this;rw[hf.out,this])
   go_wp2;go_ret;exact⟨zM,hb⟩
theorem T7(pos:Int)(x:BH)(a:Option Addr)(n c:Nat)(blk:Nat)(w:World)(hpos:0≤pos∧pos≤18446744073709551615)(hx:Bb.r (·<w.heap.size) w [.slice a n c] x.backs)(hlen:x.backs.length≤1000000000000)
 (hc:w.cell? ⟨blk,0,none⟩=some (.int .u64 pos)):
  Calls Tryz.prog 335 #[.agg #[.int .u64 x.stream,.slice a n c],.pointer (some ⟨blk,0,none⟩)] w fun r w'=>r=.returned (.bool (!Ec pos x))∧Below w.heap.size w w':=by
 obtain⟨rfl,hm,_,_⟩:=AT hx;have hlt:=CN w _ hc;have X0:=(AX.mk _ ((Below.refl w.heap.size w).alloc (An _) (.cells #[.int .u64 x.stream,.slice a x.backs.length c] 215))).cell hc;by_cases h4:4<x.backs.length
 ·have hff:Ec pos x=false:=by simp[Ec];omega
  rw[hff];clear hff hx hc;go_enter Tryz.func335,Tryz.ntmps335;go_wp2;go_ret;exact⟨rfl,zB⟩
 ·have hff:Ec pos x=CI pos x.backs:=by simp only[Ec];rw[Ad zD];rfl
  rw[hff];have d4:decide (4<(x.backs.length:Int))=false:=zH;have HX:=hid hx;clear hx hff;go_enter Tryz.func335,Tryz.ntmps335;go_wp2_with fail;refine (SA pos x.backs _ _ _ _ hpos (lift HX.out zB) hlen).mono ?_;rintro e w1 ⟨rfl,hb1⟩;go_wp2;go_ret;exact⟨rfl,zB⟩
theorem Nx{α:Type}(p:α→Bool)(l:List α)(k:Nat)(h:k<l.length):(l.drop k).takeWhile p=if p l[k] then l[k]::(l.drop (k+1)).takeWhile p else []:=by
 rw[AS h,List.takeWhile_cons]
theorem OR{α:Type}(p:α→Bool)(l:List α):decide ((l.takeWhile p).length=l.length)=l.all p:=by
 induction l with
 | nil=>rfl
 | cons x l ih=>
  rw[List.takeWhile_cons,List.all_cons];cases h:p x
  ·simp
  ·simp only[Fx,AO,Nat.add_right_cancel_iff,BY];exact ih
theorem Ua(pos:Int)(l:List BH)(a:Option Addr)(n c:Nat)(blk:Nat)(w:World)(hpos:0≤pos∧pos≤18446744073709551615)(hl:Cm.r (·<w.heap.size) w [.slice a n c] l)(hbk:∀x∈l,x.backs.length≤1000000000000)
 (hc:w.cell? ⟨blk,0,none⟩=some (.int .u64 pos)):
  Calls Tryz.prog 337 #[.slice a n c,.func (.func 335) #[] #[.pointer (some ⟨blk,0,none⟩)]] w fun r w'=>r=.returned (.int .i64 ((l.takeWhile (Ec pos)).length:Nat))∧Below w.heap.size w w':=by
 obtain⟨rfl,hm,_,_⟩:=AT hl;have HL:=hid hl;clear hl;have HB:=hid hbk;clear hbk;have hblk:=CN w _ hc;have HC:=hid hc;clear hc;go_enter Tryz.func337,Tryz.ntmps337;go_wp2;go_loopw [9] (fun i wr=>∃k:Nat,k≤l.length∧i=.int .i64 k∧Hid ((l.takeWhile (Ec pos)).length=k+((l.drop k).takeWhile (Ec pos)).length)∧Below w.heap.size w wr) (fun i _=>l.length-(intOf i).toNat)
 case atStart=>exact ⟨0,Am _,rfl,hid zN,Below.refl _ _⟩
 case round=>
  obtain⟨k,hk,rfl,hf,hb⟩:=hrel;by_cases hlt:k<l.length
  ·obtain⟨b,o,hA,hbb,a1,c1,hc0,hc1,_,hbs⟩:=EK HL.out hlt
   subst hA;have X0:=(hb.cell (p:=⟨b,o+k*2,none⟩) hbb).trans hc0;have X1:=(hb.cell (p:=⟨b,o+k*2+1,none⟩) hbb).trans hc1;clear hc0 hc1;have hbl:=HB.out _ (Bi hlt);have hst:=hid (Nx (Ec pos) l k hlt);have HBS:=hid hbs;clear hbs;generalize hlk:l[k]=x at*;clear hlk;have hzz:=hb.size;go_wp2_with fail;refine (T7 pos x _ _ _ blk _ hpos (lift HBS.out zB) hbl ?_).mono ?_
   ·have:=(AX.mk wr hb).cell HC.out
    exact (AX.mk _ ((Below.refl wr.heap.size wr).alloc (An _) _)).cell this
   rintro e w1 ⟨rfl,hb1⟩;have hb2:Below w.heap.size w w1:=zB;cases hr:Ec pos x
   ·have hff:Hid ((l.takeWhile (Ec pos)).length=k):=hid (by rw[hf.out,hst.out,hr];simp)
    clear hr;go_wp2;go_ret;exact⟨zM,hb2⟩
   ·have hff:Hid ((l.takeWhile (Ec pos)).length=(k+1)+((l.drop (k+1)).takeWhile (Ec pos)).length):=hid (by rw[hf.out,hst.out,hr];simp;omega)
    clear hr;go_wp2;go_roundw
    case rel=>exact ⟨k+1,zD,zV,hff,hb2⟩
    case measure=>simp [intOf];omega
  ·obtain rfl:k=l.length:=by omega
   have hff:Hid ((l.takeWhile (Ec pos)).length=l.length):=hid (by rw[hf.out,GM];simp);go_wp2;go_ret;exact⟨zM,hb⟩
theorem Of(pos:Int)(l:List BH)(a:Option Addr)(n c:Nat)(w:World)(hpos:0≤pos∧pos≤18446744073709551615)(hl:Cm.r (·<w.heap.size) w [.slice a n c] l)(hbk:∀x∈l,x.backs.length≤1000000000000):
  Calls Tryz.prog 277 #[.int .u64 pos,.slice a n c] w fun r w'=>r=.returned (.bool (CH pos l))∧Below w.heap.size w w':=by
 obtain⟨rfl,hm,_,_⟩:=AT hl;have HL:=hid hl;clear hl;have HB:=hid hbk;clear hbk;by_cases h16:16<l.length
 ·have hff:Hid (CH pos l=false):=hid (by simp[CH];omega)
  go_enter Tryz.func277,Tryz.ntmps277;go_wp2;go_ret;exact⟨zM,zB⟩
 ·have hff:Hid (CH pos l=(Bj (l.map BH.stream)&&l.all (Ec pos))):=hid (by simp only[CH];rw[Ad (by omega)];rfl)
  have hta:=hid (OR (Ec pos) l);go_enter Tryz.func277,Tryz.ntmps277;go_wp2_with fail;refine (T9 l _ _ _ _ (lift HL.out zB)).mono ?_;rintro e w1 ⟨rfl,hb1⟩;have hb2:Below w.heap.size w w1:=zB;cases hr:Bj (l.map BH.stream)
  ·have hf2:Hid (CH pos l=false):=hid (by rw[hff.out,hr];rfl)
   clear hr;go_wp2;go_ret;exact⟨by rw[hf2.out];rfl,hb2⟩
  ·have hf2:Hid (CH pos l=l.all (Ec pos)):=hid (by rw[hff.out,hr];rfl)
   clear hr;go_wp2_with fail;refine (Ua pos l _ _ _ w.heap.size _ hpos (lift HL.out hb2) HB.out ?_).mono ?_
   ·exact (AX.mk w1 hb1).cell (by go_simp)
   rintro e w3 ⟨rfl,hb3⟩;have hlt:=(List.takeWhile_sublist (l:=l) (Ec pos)).length_le;generalize hg:(l.takeWhile (Ec pos)).length=t at*;have hg':=hid hg;clear hg;go_wp2;go_ret;refine⟨?_,zB⟩;rw[hf2.out,←hta.out];by_cases h:t=l.length
   ·subst h;simp
   ·have:¬((t:Int)=(l.length:Int)):=by omega
    simp[h,this]
theorem V6(x y:BH)(a a':Option Addr)(n c n' c':Nat)(w:World)(hx:Bb.r (·<w.heap.size) w [.slice a n c] x.backs)(hy:Bb.r (·<w.heap.size) w [.slice a' n' c'] y.backs):
  Calls Tryz.prog 169 #[.agg #[.int .u64 x.stream,.slice a n c],.agg #[.int .u64 y.stream,.slice a' n' c']] w fun r w'=>r=.returned (.bool (decide (x=y)))∧Below w.heap.size w w':=by
 have he:decide (x=y)=(decide (x.stream=y.stream)&&decide (x.backs=y.backs)):=by
  rw[H5];cases x;cases y;simp
 have HE:=hid he;clear he;have HX:=hid hx;clear hx;have HY:=hid hy;clear hy;by_cases h:x.stream=y.stream
 ·have e1:(x.stream==y.stream)=true:=by simp[h]
  have hff:Hid (decide (x=y)=decide (x.backs=y.backs)):=hid (by rw[HE.out];simp[h]);clear h;go_enter Tryz.func169,Tryz.ntmps169;go_wp2_with fail;refine (LI x.backs y.backs _ _ _ _ _ _ _ (lift HX.out zB) (lift HY.out zB)).mono ?_;rintro e w1 ⟨rfl,hb1⟩;go_wp2;go_ret;exact⟨zM,zB⟩
 ·have e1:(x.stream==y.stream)=false:=by simp[h]
  have hff:Hid (decide (x=y)=false):=hid (by rw[HE.out];simp[h]);clear h;go_enter Tryz.func169,Tryz.ntmps169;go_wp2;go_ret;exact⟨zM,zB⟩
theorem Tz(x y:List BH)(a a':Option Addr)(n c n' c':Nat)(w:World)(hx:Cm.r (·<w.heap.size) w [.slice a n c] x)(hy:Cm.r (·<w.heap.size) w [.slice a' n' c'] y):
  Calls Tryz.prog 106 #[.slice a n c,.slice a' n' c'] w fun r w'=>r=.returned (.bool (decide (x=y)))∧Below w.heap.size w w':=by
 obtain⟨rfl,hm,_,_⟩:=AT hx;obtain⟨rfl,hm',_,_⟩:=AT hy;by_cases hl:x.length=y.length
 ·have HX:=hid hx;clear hx
  have HY:=hid hy;clear hy;have HL:=hid hl;have e1:((x.length:Int) !=(y.length:Int))=false:=by simp[hl]
  clear hl;go_enter Tryz.func106,Tryz.ntmps106;go_wp2;go_loopw [5] (fun i wr=>∃k:Nat,k≤x.length∧i=.int .i64 k∧Hid (decide (x=y)=decide (x.drop k=y.drop k))∧Below w.heap.size w wr) (fun i _=>x.length-(intOf i).toNat)
  case atStart=>exact ⟨0,Am _,rfl,hid rfl,Below.refl _ _⟩
  case round=>
   obtain⟨k,hk,rfl,hf,hb⟩:=hrel;by_cases hlt:k<x.length
   ·have hlt':k<y.length:=by rw[←HL.out];exact hlt
    obtain⟨b,o,hA,hbb,a1,c1,hc0,hc1,_,hr1⟩:=EK HX.out hlt;obtain⟨b',o',hA',hbb',a2,c2,hd0,hd1,_,hr2⟩:=EK HY.out hlt';have hst:=hid (G5 x y k hlt hlt');subst hA hA';have X0:=fun s:AX wr=>s.cell ((hb.cell (p:=⟨b,o+k*2,none⟩) hbb).trans hc0);have X1:=fun s:AX wr=>s.cell ((hb.cell (p:=⟨b,o+k*2+1,none⟩) hbb).trans hc1);have Y0:=fun s:AX wr=>s.cell ((hb.cell (p:=⟨b',o'+k*2,none⟩) hbb').trans hd0);have Y1:=fun s:AX wr=>s.cell ((hb.cell (p:=⟨b',o'+k*2+1,none⟩) hbb').trans hd1);clear hc0 hc1 hd0 hd1;generalize hlk:x[k]=u at*;generalize hlm:y[k]=v at*;clear hlk hlm;have hs1:=hid (lift hr1 hb);have hs2:=hid (lift hr2 hb);clear hr1 hr2;have hO:=fun s:AX wr=>V6 u v a1 a2 _ c1 _ c2 s.at_ (lift hs1.out s.below) (lift hs2.out s.below);have i0:(0:Int)≤(k:Int):=zD;have i1:(k:Int)<(x.length:Int):=zD;have i2:(k:Int)<(y.length:Int):=zD;by_cases huv:u=v
    ·rw[Ad huv] at hO
     have HO:=hid hO;clear hO;have hst':Hid (decide (x.drop k=y.drop k)=decide (x.drop (k+1)=y.drop (k+1))):=hid zBn;clear huv;go_wp2_with fail;refine AR zI zI ?_;repeat (go_big_quiet_step (((go_at_call 169;exact BZ (HO.out _)))))
     refine Bm ?_;rintro W5 ⟨⟨W5',hb5⟩,rfl⟩;go_wp2;go_roundw
     case rel=>exact ⟨k+1,zD,zV,hid zAu,Af hb5 hb⟩
     case measure=>simp [intOf];omega
    ·rw[Ae huv] at hO
     have HO:=hid hO;clear hO;have hff:Hid (decide (x=y)=false):=hid zA2;clear huv;go_wp2_with fail;refine AR zI zI ?_;repeat (go_big_quiet_step (((go_at_call 169;exact BZ (HO.out _)))))
     refine Bm ?_;rintro W5 ⟨⟨W5',hb5⟩,rfl⟩;go_wp2;go_ret;exact⟨zM,Af hb5 hb⟩
   ·obtain rfl:k=x.length:=by omega
    have hff:Hid (decide (x=y)=true):=hid ZF;go_wp2;go_ret;exact⟨zM,hb⟩
 ·have hff:Hid (decide (x=y)=false):=hid (by simp;rintro rfl;exact hl rfl)
  have e1:((x.length:Int) !=(y.length:Int))=true:=zH;clear hl hx hy;go_enter Tryz.func106,Tryz.ntmps106;go_wp2;go_ret;exact⟨zM,Below.refl _ _⟩
end Go.Proofs.YtfddhafbhceoaaaGreat
namespace Go.Bs
open Go.RowKit
variable{b l:List UInt8}{cs xs:List Value}{base c g i lo n o off p sz:Nat}{S:Nat → Prop}{a:Option Addr}{e t:TypeId}{v:Value}{W w w':World}
section
variable {P:Program} {w:World}
def Src(w:World)(A:Option Addr)(m sz:Nat)(news:List Value):Prop:=
 news.length=m*sz∧(m=0∨∃b o,A=some ⟨b,o,none⟩∧∀j u,news[j]? =some u→w.cell? ⟨b,o+j,none⟩=some u)
theorem K0(base:Nat)(t ty e:TypeId)(i:TypeInfo)(size:Nat)(ht:P.underlying t=some (.slice e))(hi:P.info? e=some i)
 (v:Value) (n:Nat) (xs:List Value) (hown:w.ownsRow base e size v n xs) (c:Nat):(Builtin.append_ #[t,t] ty #[v,.slice none 0 c]).run P w=.ok v w:=by
 rcases hown.2 with ⟨rfl,rfl⟩ | ⟨g,cap,cur,rfl,_,_,hnc,_⟩
 ·simp[Builtin.append_,run_underlying ht,sizeOf,typeInfo,hi,Builtin.lenOf,Builtin.firstCells]
 ·simp[Builtin.append_,run_underlying ht,sizeOf,typeInfo,hi,Builtin.lenOf,Builtin.firstCells,hnc,storeCells]
theorem add_plain(b o j:Nat):(⟨b,o,none⟩:Addr).add j=⟨b,o+j,none⟩:=by
 unfold Addr.add;split
 ·rename_i h;subst h;rfl
 ·rfl
theorem Jw(base:Nat)(t ty e:TypeId)(i:TypeInfo)(z:Value)(size bytes:Nat)(ht:P.underlying t=some (.slice e))(hi:P.info? e=some i)(hz:i.zero=some z)
 (hsize:i.size=size) (hby:i.bytes=bytes) (hzs:z.cells.size=size) (hsz:0<size)
 (v:Value) (n:Nat) (xs:List Value) (hown:w.ownsRow base e size v n xs) (A:Option Addr) (m c:Nat) (news:List Value) (hs:Src w A m size news) (h1:∀u∈news,u.oneCell'=true)
 (h63:n+m≤maxLen) (hbytes:(n+m)*bytes≤140737488355328) (hbase:base≤w.heap.size):
  ∃v' w',(Builtin.append_ #[t,t] ty #[v,.slice A m c]).run P w=.ok v' w'∧w'.ownsRow base e size v' (n+m) (xs++news)∧w.grownBy w' v.ownBlock∧(v'.ownBlock=v.ownBlock∨v'.ownBlock=some w.heap.size):=by
 obtain⟨hl,hs⟩:=hs;rcases A with _ | ad
 ·have hm:m=0:=by
   rcases hs with h | ⟨b,o,h,_⟩
   ·exact h
   ·cases h
  subst hm;have hn:news=[]:=A2 (by simpa using hl);subst hn;exact⟨v,w,K0 base t ty e i size ht hi v n xs hown c,zCr,World.grownBy.refl w _,.inl rfl⟩
 ·have hcells:∀j u,news[j]? =some u→w.cell? (ad.add j)=some u:=by
   intro j u hu;rcases hs with h | ⟨b,o,h,hc⟩
   ·subst h
    have hn:news=[]:=A2 (by simpa using hl);subst hn;simp at hu
   ·injection h with h
    subst h;rw[add_plain];exact hc j u hu
  obtain⟨v',w',hrun,h2,h3,_,h5⟩:=run_append_own_at (P:=P) w base t ty e i z size bytes ht hi hz hsize hby hzs hsz v n xs hown ad m c news hl hcells h1 h63 hbytes hbase;exact⟨v',w',hrun,h2,h3,h5⟩
theorem Ar{ops:Array Oper}{rest:List Oper}{o:Oper}{a:Act}{Q:Exit→Act→World→Prop}(hgd:o.guard=none)(s x:Operand)(t:TypeId)
 (ho:o.op=.call {callee:=.builtin .append,args:=#[s,x],argTypes:=#[t,t]})
 (base:Nat) (e:TypeId) (i:TypeInfo) (z:Value) (size bytes:Nat) (ht:P.underlying t=some (.slice e)) (hi:P.info? e=some i) (hz:i.zero=some z)
 (hsize:i.size=size) (hby:i.bytes=bytes) (hzs:z.cells.size=size) (hsz:0<size)
 (v:Value) (n:Nat) (xs:List Value) (hs:a.eval s=v) (hown:w.ownsRow base e size v n xs)
 (A:Option Addr) (m c:Nat) (news:List Value) (hx:a.eval x=.slice A m c) (hsrc:Src w A m size news) (h1:∀u∈news,u.oneCell'=true)
 (h63:n+m≤maxLen) (hbytes:(n+m)*bytes≤140737488355328) (hbase:base≤w.heap.size)
 (h:∀v' w',w'.ownsRow base e size v' (n+m) (xs++news)→w.grownBy w' v.ownBlock→(v'.ownBlock=v.ownBlock∨v'.ownBlock=some w.heap.size)→wpList P ops Q rest (a.put o.dst v') w'):wpList P ops Q (o::rest) a w:=
 Bg hgd fun _ hK=>by
  obtain⟨v',w',hrun,h2,h3,h4⟩:=Jw (P:=P) base t o.type e i z size bytes ht hi hz hsize hby hzs hsz v n xs hown A m c news hsrc h1 h63 hbytes hbase;unfold Oper.wp execOp;simp only[ho,resolve,invoke,builtin,Sem.run_bind,Sem.run_pure,Result.andThen_ok,List.map_toArray,Dg,Lz,hs,hx,hrun];exact hK _ _ (h v' w' h2 h3 h4)
def byteCells(l:List UInt8):List Value:=l.map fun b=> .int .u8 (b.toNat:Int)
theorem AI(l:List UInt8):∀u∈byteCells l,u.oneCell'=true:=by
 intro u hu;obtain⟨b,_,rfl⟩:=List.mem_map.1 hu;rfl
theorem A8(h:Ah.r S w [.slice a n c] l):Src w a l.length 1 (byteCells l):=by
 refine⟨zAm,?_⟩;rcases l with _ | ⟨x,l⟩
 ·exact .inl rfl
 ·right
  obtain⟨b,o,e,_⟩:=Cs h (i:=0) zN;refine⟨b,o,e,fun j u hu=> ?_⟩;have hj:j<(x::l).length:=by
   have:=(List.getElem?_eq_some_iff.1 hu).1;simpa [byteCells] using this
  obtain⟨b',o',e',_,hc⟩:=Cs h hj;rw[e] at e';simp at e';obtain⟨rfl,rfl⟩:=e';have:u=.int .u8 (((x::l)[j]).toNat:Int):=by
   simp only[byteCells,Ee,AJ hj,Option.map_some,Bd] at hu;exact hu.symm
  rw[this];exact hc
theorem BM(hn:n=l.length)(h:w.ownsRow base e 1 v n (byteCells l)):Ah.r (·<w.heap.size) w [v] l:=by
 subst hn;rcases h.2 with ⟨rfl,h0⟩ | ⟨g,cap,cur,rfl,hbg,hg,hn,hc,hcur,hx⟩
 ·have:l=[]:=A2 h0
  subst this;exact Bt rfl (An _) (Am _) (.inl rfl)
 ·refine Bt rfl hn hc (.inr ⟨g,0,rfl,Blk.lt hg,fun i x hi=>⟨[.int .u8 (x.toNat:Int)],rfl,fun j v hj=> ?_,rfl⟩⟩)
  have hj0:j=0:=by
   rcases j with _ | j
   ·rfl
   ·simp at hj
  subst hj0;simp at hj;subst hj;have hi':i<l.length:=(List.getElem?_eq_some_iff.1 hi).1;rw[A1,Fi,Cu,Blk.cell hg i];have e1:cur[i]? =(cur.toList.take (l.length*1))[i]? :=by
   rw[Df,Ai zD];simp
  rw[e1,hx,byteCells,Ee,hi];rfl
end
end Go.Bs
namespace Go.Proofs.YtfddhafbhceoaaaGreat
open Go.RowKit Go.Bs
variable{b:List UInt8}{base c n o off p sz:Nat}{S:Nat → Prop}{a:Option Addr}{e:TypeId}{v:Value}{w:World}
theorem DH:(Tryz.prog.info? 5).map (fun i=>(i.zero,i.size,i.bytes))=some (some (.int .u8 0),1,1):=zI
theorem Ic{α:Type}{A:Rp α}{xs:List α}{k:Nat}(h:(rSl sz A).r S w [.slice a n c] xs)(hk:k≤xs.length):(rSl sz A).r S w [.slice a k c] (xs.take k):=by
 obtain⟨a',c',e,h1,h2,h3⟩:=h;simp at e;obtain⟨rfl,rfl,rfl⟩:=e;have hl:(xs.take k).length=k:=zH;refine Bt (by rw[hl]) zD h2 ?_;rcases h3 with rfl | ⟨b,off,rfl,hS,hr⟩
 ·exact .inl zN
 ·refine .inr ⟨b,off,rfl,hS,fun i x hi=>hr i x ?_⟩
  rw[Df] at hi;split at hi
  ·exact hi
  ·cases hi
end Go.Proofs.YtfddhafbhceoaaaGreat
namespace Go.Bs
variable{b l:List UInt8}{cs xs:List Value}{base c g i lo n o off p sz:Nat}{S:Nat → Prop}{a:Option Addr}{e t:TypeId}{v:Value}{W w w':World}
def GR(b:List UInt8)(off:Nat):Nat→Nat→Nat
 | 0,_=>0
 | f+1,p=>if p<b.length∧b[p]? =b[p-off]? then GR b off f (p+1)+1 else 0
def C4(b:List UInt8)(p off:Nat):Nat:=if p<b.length∧1≤off∧off≤p then GR b off (b.length-p) p else 0
theorem Pj(b:List UInt8)(off:Nat):∀f p,GR b off f p≤f
 | 0,_=>An _
 | f+1,p=>by
  unfold GR;split
  ·have:=Pj b off f (p+1);omega
  ·omega
theorem JT(b:List UInt8)(p off:Nat):C4 b p off≤b.length-p:=by
 unfold C4;split
 ·exact Pj ..
 ·omega
theorem Mw(b:List UInt8)(off:Nat):∀f p k,k<GR b off f p→p+k<b.length∧b[p+k]? =b[p+k-off]?
 | 0,_,k,h=>by simp[GR] at h
 | f+1,p,k,h=>by
  unfold GR at h;split at h
  ·rename_i hc
   cases k with
   | zero=>exact hc
   | succ k=>
    have:=Mw b off f (p+1) k zD;rw[show p+(k+1)=p+1+k by omega];exact this
  ·omega
theorem Pk(b:List UInt8)(off:Nat):∀f p k,k≤f→(∀j,j<k→p+j<b.length∧b[p+j]? =b[p+j-off]?)→k≤GR b off f p
 | _,_,0,_,_=>Am _
 | 0,_,k+1,h,_=>by omega
 | f+1,p,k+1,h,hs=>by
  unfold GR;rw[Ai (by simpa using hs 0 (by omega))];have:=Pk b off f (p+1) k zD fun j hj=>by
   have:=hs (j+1) zD;rw[show p+(j+1)=p+1+j by omega] at this;exact this
  omega
theorem AaE{k:Nat}(h1:1≤off)(h2:off≤p)(hp:p<b.length)(h:∀j,j<k→p+j<b.length∧b[p+j]? =b[p+j-off]?):k≤C4 b p off:=by
 unfold C4;rw[Ai ⟨hp,h1,h2⟩];refine Pk _ _ _ _ _ ?_ h;rcases Cf k with rfl | h0
 ·exact Am _
 ·have:=(h (k-1) zD).1;omega
theorem LV{k:Nat}(h:k<C4 b p off):1≤off∧off≤p∧p+k<b.length∧b[p+k]? =b[p+k-off]? :=by
 unfold C4 at h;split at h
 ·rename_i hc
  exact⟨hc.2.1,hc.2.2,Mw _ _ _ _ _ h⟩
 ·omega
def GV(b:List UInt8)(p:Nat):Nat→Nat
 | 0=>0
 | k+1=>max (GV b p k) (C4 b p (k+1))
def firstM(b:List UInt8)(p m:Nat):Nat→Nat→Nat
 | 0,_=>0
 | f+1,o=>if C4 b p o=m then o else firstM b p m f (o+1)
theorem Nf(b:List UInt8)(p:Nat):∀k o,1≤o→o≤k→C4 b p o≤GV b p k
 | 0,o,h1,h2=>by omega
 | k+1,o,h1,h2=>by
  simp only[GV];by_cases h:o=k+1
  ·subst h;omega
  ·have:=Nf b p k o h1 zD;omega
theorem Lb(b:List UInt8)(p:Nat):∀k,GV b p k=0∨∃o,1≤o∧o≤k∧C4 b p o=GV b p k
 | 0=> .inl rfl
 | k+1=>by
  simp only[GV];rcases Nat.le_total (GV b p k) (C4 b p (k+1)) with h | h
  ·rw[Nat.max_eq_right h]
   exact .inr ⟨k+1,zD,An _,rfl⟩
  ·rw[Nat.max_eq_left h]
   rcases Lb b p k with h0 | ⟨o,h1,h2,h3⟩
   ·exact .inl h0
   ·exact .inr ⟨o,h1,zD,h3⟩
theorem L9(b:List UInt8)(p m:Nat):∀f o o',o≤o'→o'<o+f→C4 b p o'=m→(∀j,o≤j→j<o'→C4 b p j≠m)→firstM b p m f o=o'
 | 0,o,o',h1,h2,_,_=>by omega
 | f+1,o,o',h1,h2,h3,h4=>by
  unfold firstM;by_cases h:o=o'
  ·subst h;rw[Ai h3]
  ·rw[Ak (h4 o (An _) zD)]
   exact L9 b p m f (o+1) o' zD zD h3 fun j h5 h6=>h4 j zD h6
def reach(p:Nat):Nat:=min p 65536
def Ck(b:List UInt8)(p:Nat):Nat × Nat:=
 if 4≤GV b p (reach p) then (firstM b p (GV b p (reach p)) (reach p) 1,GV b p (reach p)) else (0,0)
theorem Sg(b:List UInt8)(p m:Nat):∀k,(∃o,1≤o∧o≤k∧C4 b p o=m)→∃o,1≤o∧o≤k∧C4 b p o=m∧∀j,1≤j→j<o→C4 b p j≠m
 | 0,⟨o,h1,h2,_⟩=>by omega
 | k+1,⟨o,h1,h2,h3⟩=>by
  by_cases h:∃o,1≤o∧o≤k∧C4 b p o=m
  ·obtain⟨o,g1,g2,g3,g4⟩:=Sg b p m k h
   exact⟨o,g1,zD,g3,g4⟩
  ·refine⟨o,h1,h2,h3,fun j j1 j2 j3=>h ⟨j,j1,zD,j3⟩⟩
theorem ON{m:Nat}(h1:1≤o)(h2:o≤reach p)(h4:4≤m)(hm:C4 b p o=m)(hall:∀j,1≤j→j≤reach p→C4 b p j≤m)(hlt:∀j,1≤j→j<o→C4 b p j<m):Ck b p=(o,m):=by
 have e:GV b p (reach p)=m:=by
  have:=Nf b p (reach p) o h1 h2;rcases Lb b p (reach p) with h | ⟨o',g1,g2,g3⟩
  ·omega
  ·have:=hall o' g1 g2;omega
 unfold Ck;rw[e,Ai h4,L9 b p m (reach p) 1 o h1 zD hm fun j j1 j2=>by have:=hlt j j1 j2;omega]
theorem OM(h:∀j,1≤j→j≤reach p→C4 b p j<4):Ck b p=(0,0):=by
 unfold Ck;rw[Ak];rcases Lb b p (reach p) with h0 | ⟨o',g1,g2,g3⟩
 ·omega
 ·have:=h o' g1 g2;omega
theorem FM(b:List UInt8)(p:Nat):Ck b p=(0,0)∨∃o m,Ck b p=(o,m)∧1≤o∧o≤reach p∧4≤m∧C4 b p o=m∧(∀j,1≤j→j≤reach p→C4 b p j≤m)∧∀j,1≤j→j<o→C4 b p j<m:=by
 by_cases h:4≤GV b p (reach p)
 ·right
  rcases Lb b p (reach p) with h0 | hx
  ·omega
  ·obtain⟨o,g1,g2,g3,g4⟩:=Sg b p _ _ hx
   have hall:=fun j (j1:1≤j) (j2:j≤reach p)=>Nf b p _ j j1 j2;have hlt:∀j,1≤j→j<o→C4 b p j<GV b p (reach p):=fun j j1 j2=>by
    have:=hall j j1 zD;have:=g4 j j1 j2;omega
   exact⟨o,_,ON g1 g2 h g3 hall hlt,g1,g2,h,g3,hall,hlt⟩
 ·left
  unfold Ck;rw[Ak h]
theorem Ji(b:List UInt8)(p:Nat):(Ck b p).2≤b.length-p∧(Ck b p).1≤p:=by
 rcases FM b p with h | ⟨o,m,h,_,h2,_,h4,_⟩
 ·rw[h];exact⟨Am _,Am _⟩
 ·rw[h]
  have:=JT b p o;simp only[reach] at h2;exact⟨zCt,zCt⟩
structure Tok where
 lit:List UInt8
 off:Int
 len:Int
 deriving DecidableEq
def EV(b:List UInt8)(i j:Nat):List Tok:=if i<j then [⟨(b.drop i).take (j-i),0,0⟩] else []
def Fl(b:List UInt8):Nat→Nat→Nat→List Tok
  | 0,_,i=>EV b i b.length
  | f+1,p,i=>if p<b.length then
      (if (Ck b p).2=0 then Fl b f (p+1) i
       else EV b i p++⟨[],(Ck b p).1,(Ck b p).2⟩::Fl b f (p+(Ck b p).2) (p+(Ck b p).2))
      else EV b i b.length
def Ex(b:List UInt8):List Tok:=Fl b b.length 0 0
theorem IQ(b:List UInt8):∀f g p i,b.length≤p+f→b.length≤p+g→Fl b f p i=Fl b g p i
 | 0,0,_,_,_,_=>rfl
 | 0,g+1,p,i,h,_=>by
  simp only[Fl];rw[Ak zD]
 | f+1,0,p,i,_,h=>by
  simp only[Fl];rw[Ak zD]
 | f+1,g+1,p,i,h1,h2=>by
  simp only[Fl];split
  ·split
   ·exact IQ b f g (p+1) i zD zD
   ·rename_i hn
    rw[IQ b f g (p+(Ck b p).2) (p+(Ck b p).2) zD zD]
  ·rfl
def Kc(b:List UInt8)(p i:Nat):List Tok:=Fl b (b.length-p) p i
theorem Td(hp:p<b.length)(h:(Ck b p).2=0):Kc b p i=Kc b (p+1) i:=by
 unfold Kc;obtain⟨f,hf⟩:∃f,b.length-p=f+1:=⟨b.length-p-1,zD⟩;rw[hf];simp only[Fl];rw[Ai hp,Ai h];exact IQ b _ _ _ _ zD zD
theorem Tc(hp:p<b.length)(h:(Ck b p).2≠0):Kc b p i=EV b i p++⟨[],(Ck b p).1,(Ck b p).2⟩::Kc b (p+(Ck b p).2) (p+(Ck b p).2):=by
 unfold Kc;obtain⟨f,hf⟩:∃f,b.length-p=f+1:=⟨b.length-p-1,zD⟩;rw[hf];simp only[Fl];rw[Ai hp,Ak h];congr 2
 exact IQ b _ _ _ _ zD zD
theorem VP(hp:b.length≤p):Kc b p i=EV b i b.length:=by
 unfold Kc;rw[show b.length-p=0 by omega];rfl
def D6(b:List UInt8)(p:Nat):Option Nat:=
 match b[p]?,b[p+1]?,b[p+2]?,b[p+3]? with
 | some a,some c,some d,some e=>some (a.toNat+256*c.toNat+65536*d.toNat+16777216*e.toNat)
 | _,_,_,_=>none
def EL(b:List UInt8)(k:Nat):Nat→Nat
 | 0=>0
 | j+1=>if D6 b j=some k then j+1 else EL b k j
theorem Ll(b:List UInt8)(k:Nat):∀j,EL b k j≤j
 | 0=>An _
 | j+1=>by
  unfold EL;split
  ·omega
  ·have:=Ll b k j;omega
theorem PM(b:List UInt8)(k:Nat):∀j,EL b k j≠0→D6 b (EL b k j-1)=some k
 | 0,h=>absurd rfl h
 | j+1,h=>by
  unfold EL at h ⊢;split
  ·rename_i hk;simpa using hk
  ·rename_i hk
   rw[Ak hk] at h;exact PM b k j h
open Go.RowKit
section
variable {w w':World} {α:Type}
def Dd(lo:Nat)(A:Rp α)(base:Nat)(e:TypeId)(sz:Nat)(w:World)(v:Value)(xs:List α)(cells:List (List Value)):Prop:=
 w.ownsRow base e sz v xs.length cells.flatten∧cells.length=xs.length∧(∀c∈cells,c.length=sz)∧
  ∀(i:Nat) cs x,cells[i]? =some cs→xs[i]? =some x→A.r (fun b=>lo≤b∧b<w.heap.size∧v.ownBlock≠some b) w cs x
def Ba(lo:Nat)(A:Rp α)(base:Nat)(e:TypeId)(sz:Nat)(w:World)(v:Value)(xs:List α):Prop:=∃cells,Dd lo A base e sz w v xs cells
theorem FC(sz:Nat):∀(l:List (List Value)),(∀c∈l,c.length=sz)→∀(i j:Nat) cs v,l[i]? =some cs→cs[j]? =some v→l.flatten[i*sz+j]? =some v
 | [],_,i,j,cs,v,h,_=>by simp at h
 | c::l,hl,i,j,cs,v,h,hj=>by
  have hc:=hl c (List.mem_cons_self ..);rw[Du];cases i with
  | zero=>
   simp at h;subst h;have:=(List.getElem?_eq_some_iff.1 hj).1;rw[Nat.zero_mul,A1,A5 zD];exact hj
  | succ i=>
   simp at h;rw[Bo (by rw[hc,Nat.succ_mul];omega),hc,show (i+1)*sz+j-sz=i*sz+j by rw[Nat.succ_mul];omega];exact FC sz l (fun c h=>hl c (List.mem_cons_of_mem _ h)) i j cs v h hj
theorem Ba.nil{A:Rp α}:Ba lo A base e sz w (.slice none 0 0) []:=
 ⟨[],⟨zN,.inl ⟨rfl,rfl⟩⟩,rfl,zN,fun i cs x h=>by simp at h⟩
theorem Ba.slice{lo:Nat}{A:Rp α}{v:Value}{xs:List α}(hlo:lo≤base)(h:Ba lo A base e sz w v xs):(rSl sz A).r (fun b=>lo≤b∧b<w.heap.size) w [v] xs:=by
 obtain⟨cells,hown,hlen,hsz,hA⟩:=h;rcases hown.2 with ⟨rfl,h0⟩ | ⟨g,cap,cur,rfl,hbg,hg,hn,hc,hcur,hx⟩
 ·have:xs=[]:=A2 h0
  subst this;exact Bt rfl (An _) (Am _) (.inl rfl)
 ·refine Bt rfl hn hc (.inr ⟨g,0,rfl,⟨A4 hlo hbg,(Array.getElem?_eq_some_iff.1 hg).1⟩,fun i x hi=> ?_⟩)
  have hi':i<xs.length:=(List.getElem?_eq_some_iff.1 hi).1;have hic:i<cells.length:=zD;have hcs:cells[i]? =some cells[i]:=AJ hic;refine⟨cells[i],hsz _ (Bi hic),fun j v hj=> ?_,A.mono (hA i _ x hcs hi) fun b h=>⟨h.1,h.2.1⟩⟩;have hj':j<sz:=ZU;have hf:=FC sz cells hsz i j _ v hcs hj;rw[A1,show (⟨g,i*sz+j,none⟩:Addr)=⟨g,i*sz+j,none⟩ from rfl,Blk.cell hg (i*sz+j)];have hb:i*sz+j<xs.length*sz:=by
   have:=CE sz (show i+1≤xs.length from hi');rw[Nat.succ_mul] at this;omega
  have e1:cur[i*sz+j]? =(cur.toList.take (xs.length*sz))[i*sz+j]? :=by
   rw[Df,Ai hb];simp
  rw[e1,hx];exact hf
def Aau{α:Type}(sz:Nat)(A:Rp α):Rp (List α):=
  ⟨fun S w cs xs=>∃a c,cs=[.slice a xs.length c]∧xs.length≤c∧c≤maxLen∧(xs=[]∨∃b off,a=some ⟨b,off,none⟩∧S b∧∀(i:Nat) x,xs[i]? =some x→∃cs:List Value,cs.length=sz∧
      (∀(j:Nat) v,cs[j]? =some v→w.cell? ⟨b,off+i*sz+j,none⟩=some v∧w.frozen? ⟨b,off+i*sz+j,none⟩=false)∧A.r (fun q=>S q∧q≠b) w cs x),
   fun ⟨a,c,h,h1,h2,h3⟩ hk=>⟨a,c,h,h1,h2,h3.imp id fun ⟨b,off,e,hb,hr⟩=>⟨b,off,e,hb,fun i x hi=>
     let ⟨cs,hl,hc,hA⟩:=hr i x hi
     ⟨cs,hl,fun j v hj=>⟨(Bn (a:=⟨b,off+i*sz+j,none⟩) (hk b hb)).trans (hc j v hj).1,(CT (a:=⟨b,off+i*sz+j,none⟩) (hk b hb)).trans (hc j v hj).2⟩,A.keep hA fun q hq=>hk q hq.1⟩⟩⟩,
   fun ⟨a,c,h,h1,h2,h3⟩ hk=>⟨a,c,h,h1,h2,h3.imp id fun ⟨b,off,e,hb,hr⟩=>⟨b,off,e,hk b hb,fun i x hi=>
     let ⟨cs,hl,hc,hA⟩:=hr i x hi
     ⟨cs,hl,hc,A.mono hA fun q hq=>⟨hk q hq.1,hq.2⟩⟩⟩⟩⟩
theorem Abj{A:Rp α}{xs:List α}(h:(Aau sz A).r S w cs xs):(rSl sz A).r S w cs xs:=by
 obtain⟨a,c,h1,h2,h3,h4⟩:=h;refine⟨a,c,h1,h2,h3,h4.imp id fun ⟨b,off,e,hb,hr⟩=>⟨b,off,e,hb,fun i x hi=> ?_⟩⟩;obtain⟨cs,h5,h6,h7⟩:=hr i x hi;exact⟨cs,h5,fun j v hj=>(h6 j v hj).1,A.mono h7 fun q hq=>hq.1⟩
def QG:Rp (List BH):=Aau 2 ME
def K5:Rp Entry:=rBy (fun e=>(e.links,e.data)) (Eb QG Ah)
def V9:Rp (List Entry):=Aau 2 K5
theorem QQ{x:List BH}(h:QG.r S w cs x):Cm.r S w cs x:=Abj h
theorem Ba.NG{lo:Nat}{A:Rp α}{v:Value}{xs:List α}(hlo:lo≤base)(h:Ba lo A base e sz w v xs):(Aau sz A).r (fun b=>lo≤b∧b<w.heap.size) w [v] xs:=by
 obtain⟨cells,hown,hlen,hsz,hA⟩:=h;rcases hown.2 with ⟨rfl,h0⟩ | ⟨g,cap,cur,rfl,hbg,hg,hn,hc,hcur,hx⟩
 ·have:xs=[]:=A2 h0
  subst this;exact⟨none,0,rfl,An _,Am _,.inl rfl⟩
 ·refine⟨_,cap,rfl,hn,hc,.inr ⟨g,0,rfl,⟨A4 hlo hbg,(Array.getElem?_eq_some_iff.1 hg).1⟩,fun i x hi=> ?_⟩⟩
  have hi':i<xs.length:=(List.getElem?_eq_some_iff.1 hi).1;have hic:i<cells.length:=zD;have hcs:cells[i]? =some cells[i]:=AJ hic;refine⟨cells[i],hsz _ (Bi hic),fun j v hj=>⟨?_,Blk.free hg _⟩,A.mono (hA i _ x hcs hi) fun b h=>⟨⟨h.1,h.2.1⟩,fun e=>h.2.2 (by rw[e];rfl)⟩⟩;have hj':j<sz:=ZU;have hf:=FC sz cells hsz i j _ v hcs hj;rw[A1,show (⟨g,i*sz+j,none⟩:Addr)=⟨g,i*sz+j,none⟩ from rfl,Blk.cell hg (i*sz+j)];have hb:i*sz+j<xs.length*sz:=by
   have:=CE sz (show i+1≤xs.length from hi');rw[Nat.succ_mul] at this;omega
  have e1:cur[i*sz+j]? =(cur.toList.take (xs.length*sz))[i*sz+j]? :=by
   rw[Df,Ai hb];simp
  rw[e1,hx];exact hf
theorem Dd.push{lo:Nat}{A:Rp α}{base:Nat}{e:TypeId}{sz:Nat}{v v':Value}{xs:List α}{news:List Value}{x:α}{cells:List (List Value)}(h:Dd lo A base e sz w v xs cells)
 (hn:news.length=sz) (hx:A.r (fun b=>lo≤b∧b<w.heap.size∧v.ownBlock≠some b) w news x)
 (hown:w'.ownsRow base e sz v' (xs.length+1) (cells.flatten++news)) (hg:w.grownBy w' v.ownBlock) (hat:v'.ownBlock=v.ownBlock∨v'.ownBlock=some w.heap.size) (hsz':w.heap.size≤w'.heap.size):Dd lo A base e sz w' v' (xs++[x]) (cells++[news]):=by
 obtain⟨ho,hlen,hsz,hA⟩:=h;have lift:∀cs y,A.r (fun b=>lo≤b∧b<w.heap.size∧v.ownBlock≠some b) w cs y→A.r (fun b=>lo≤b∧b<w'.heap.size∧v'.ownBlock≠some b) w' cs y:=fun cs y hr=>
  A.mono (A.keep hr fun b hb=>hg.block b hb.2.1 (fun e=>hb.2.2 e.symm)) fun b hb=>⟨hb.1,Aj hb.2.1 hsz',fun e=>by
   rcases hat with h | h
   ·exact hb.2.2 (h ▸ e)
   ·rw[h] at e;have:=A7 e;have:=hb.2.1;omega⟩
 refine⟨?_,by simp[hlen],?_,?_⟩
 ·rw[CK,Ag]
  simpa using hown
 ·intro c hc
  rcases List.mem_append.1 hc with h | h
  ·exact hsz c h
  ·simp at h;subst h;exact hn
 ·intro i cs y hi hy
  by_cases hlt:i<xs.length
  ·rw[A5 zD] at hi
   rw[A5 hlt] at hy;exact lift _ _ (hA i cs y hi hy)
  ·have hii:i=xs.length:=by
    have:=(List.getElem?_eq_some_iff.1 hy).1;simp at this;omega
   subst hii;rw[Bo zD] at hi;rw[Bo (An _)] at hy;simp[hlen] at hi;simp at hy;subst hi hy;exact lift _ _ hx
theorem Ba.push{lo:Nat}{A:Rp α}{base:Nat}{e:TypeId}{sz:Nat}{v v':Value}{xs:List α}{news:List Value}{x:α}{cells:List (List Value)}(h:Dd lo A base e sz w v xs cells)
 (hn:news.length=sz) (hx:A.r (fun b=>lo≤b∧b<w.heap.size∧v.ownBlock≠some b) w news x)
 (hown:w'.ownsRow base e sz v' (xs.length+1) (cells.flatten++news)) (hg:w.grownBy w' v.ownBlock) (hat:v'.ownBlock=v.ownBlock∨v'.ownBlock=some w.heap.size) (hsz':w.heap.size≤w'.heap.size):Ba lo A base e sz w' v' (xs++[x]):=
 ⟨_,Dd.push h hn hx hown hg hat hsz'⟩
theorem Ba.below{A:Rp α}{xs:List α}(h:Ba lo A base e sz w v xs)(hb:Below w.heap.size w w'):Ba lo A base e sz w' v xs:=by
 obtain⟨cells,ho,hlen,hsz,hA⟩:=h;refine⟨cells,⟨ho.1,?_⟩,hlen,hsz,fun i cs x hi hx=>A.mono (A.keep (hA i cs x hi hx) fun b h=>hb.block b h.2.1) fun b h=>⟨h.1,Aj h.2.1 hb.size,h.2.2⟩⟩;rcases ho.2 with h0 | ⟨g,cap,cur,h1,h2,h3,h4⟩
 ·exact .inl h0
 ·exact .inr ⟨g,cap,cur,h1,h2,zAh,h4⟩
theorem Dd.below{A:Rp α}{xs:List α}{cells:List (List Value)}(h:Dd lo A base e sz w v xs cells)(hb:Below w.heap.size w w'):Dd lo A base e sz w' v xs cells:=by
 obtain⟨ho,hlen,hsz,hA⟩:=h;refine⟨⟨ho.1,?_⟩,hlen,hsz,fun i cs x hi hx=>A.mono (A.keep (hA i cs x hi hx) fun b h=>hb.block b h.2.1) fun b h=>⟨h.1,Aj h.2.1 hb.size,h.2.2⟩⟩;rcases ho.2 with h0 | ⟨g,cap,cur,h1,h2,h3,h4⟩
 ·exact .inl h0
 ·exact .inr ⟨g,cap,cur,h1,h2,zAh,h4⟩
theorem Gk{size:Nat}(W:World)(hb:base≤W.heap.size)(hg:g=W.heap.size):(W.alloc (.cells #[] e)).ownsRow base e size (.slice (some ⟨g,0,none⟩) 0 0) 0 []:=by
 subst hg;exact⟨zN,.inr ⟨_,0,#[],rfl,hb,(MapKept.heap_alloc W _).1,An _,Am _,zN,zN⟩⟩
theorem OV{size:Nat}(h:Blk W g e #[])(hb:base≤g):W.ownsRow base e size (.slice (some ⟨g,0,none⟩) 0 0) 0 []:=
 ⟨zN,.inr ⟨g,0,#[],rfl,hb,h,An _,Am _,zN,zN⟩⟩
theorem AD{size:Nat}(h:w.ownsRow base e size v n xs):∃a c,v=.slice a n c:=by
 rcases h.2 with ⟨rfl,rfl⟩ | ⟨g,cap,cur,rfl,_⟩
 ·exact⟨_,_,rfl⟩
 ·exact⟨_,_,rfl⟩
theorem Yd{size:Nat}(h:w.ownsRow base e size v (n+1) xs):∃g c,v=.slice (some ⟨g,0,none⟩) (n+1) c:=by
 rcases h.2 with ⟨_,h0⟩ | ⟨g,cap,cur,rfl,_⟩
 ·cases h0
 ·exact⟨_,_,rfl⟩
theorem Vj{base:Nat}{v:Value}{A:Rp α}(f:α→Value){l:List α}(hf:∀(S:Nat→Prop) x,x∈l→A.r S w [f x] x)(hn:n=l.length)(h:w.ownsRow base e 1 v n (l.map f)):(rSl 1 A).r (fun b=>base≤b∧b<w.heap.size) w [v] l:=by
 subst hn;rcases h.2 with ⟨rfl,h0⟩ | ⟨g,cap,cur,rfl,hbg,hg,hn,hc,hcur,hx⟩
 ·have:l=[]:=A2 h0
  subst this;exact Bt rfl (An _) (Am _) (.inl rfl)
 ·refine Bt rfl hn hc (.inr ⟨g,0,rfl,⟨hbg,Blk.lt hg⟩,fun i x hi=>⟨[f x],rfl,fun j v hj=> ?_,hf _ x (List.mem_of_getElem? hi)⟩⟩)
  have hj0:j=0:=by
   rcases j with _ | j
   ·rfl
   ·simp at hj
  subst hj0;simp at hj;subst hj;have hi':i<l.length:=(List.getElem?_eq_some_iff.1 hi).1;rw[A1,Fi,Cu,Blk.cell hg i];have e1:cur[i]? =(cur.toList.take (l.length*1))[i]? :=by
   rw[Df,Ai zD];simp
  rw[e1,hx,Ee,hi];rfl
def BS(l:List Int):List Value:=l.map fun n=> .int .u64 n
theorem FA{base:Nat}{v:Value}{l:List Int}(hw:∀x∈l,0≤x∧x≤18446744073709551615)(hn:n=l.length)(h:w.ownsRow base e 1 v n (BS l)):Bb.r (fun b=>base≤b∧b<w.heap.size) w [v] l:=
 Vj _ (fun _ x hx=>⟨rfl,Fj (hw x hx)⟩) hn h
theorem Cg{base:Nat}{v:Value}{l:List UInt8}(hn:n=l.length)(h:w.ownsRow base e 1 v n (byteCells l)):Ah.r (fun b=>base≤b∧b<w.heap.size) w [v] l:=
 Vj _ (fun _ x _=>rfl) hn h
theorem AF{size:Nat}(h:w.ownsRow base e size v n xs)(hb:Below w.heap.size w w'):w'.ownsRow base e size v n xs:=by
 refine⟨h.1,?_⟩;rcases h.2 with h0 | ⟨g,cap,cur,h1,h2,h3,h4⟩
 ·exact .inl h0
 ·exact .inr ⟨g,cap,cur,h1,h2,zAh,h4⟩
theorem BG{P:Program}{ops:Array Oper}{o:Oper}{a:Act}{K:Act→World→Prop}{Q:Exit→Act→World→Prop}{E:Prop}(hgd:o.guard=none)(s x:Operand)(t:TypeId)
 (ho:o.op=.call {callee:=.builtin .append,args:=#[s,x],argTypes:=#[t,t]})
 (base:Nat) (e:TypeId) (i:TypeInfo) (z:Value) (size bytes:Nat) (ht:P.underlying t=some (.slice e)) (hi:P.info? e=some i) (hz:i.zero=some z)
 (hsize:i.size=size) (hby:i.bytes=bytes) (hzs:z.cells.size=size) (hsz:0<size)
 (v:Value) (n:Nat) (xs:List Value) (hs:a.eval s=v) (hown:w.ownsRow base e size v n xs)
 (A:Option Addr) (m c:Nat) (news:List Value) (hx:a.eval x=.slice A m c) (hsrc:Src w A m size news) (h1:∀u∈news,u.oneCell'=true)
 (h63:n+m≤maxLen) (hbytes:(n+m)*bytes≤140737488355328) (hbase:base≤w.heap.size)
 (h:∀a' c' w',w'.ownsRow base e size (.slice a' (n+m) c') (n+m) (xs++news)→w.grownBy w' v.ownBlock→((Value.slice a' (n+m) c').ownBlock=v.ownBlock∨(Value.slice a' (n+m) c').ownBlock=some w.heap.size)→K (a.put o.dst (.slice a' (n+m) c')) w'):
  if Region.wanted o (yielded ops a.tmps)=true then Oper.wp P o a w K Q else E:=by
 have hw:Region.wanted o (yielded ops a.tmps)=true:=by simp[Region.wanted,hgd]
 rw[Ai hw];obtain⟨v',w',hrun,h2,h3,h4⟩:=Jw (P:=P) base t o.type e i z size bytes ht hi hz hsize hby hzs hsz v n xs hown A m c news hsrc h1 h63 hbytes hbase;obtain⟨a',c',rfl⟩:=AD h2;unfold Oper.wp execOp;simp only[ho,resolve,invoke,builtin,Sem.run_bind,Sem.run_pure,Result.andThen_ok,List.map_toArray,Dg,Lz,hs,hx,hrun];exact h a' c' w' h2 h3 h4
end
end Go.Bs
namespace Go.Proofs.YtfddhafbhceoaaaGreat
open Go.RowKit Go.Bs
variable{b:List UInt8}{base c n o off p sz:Nat}{S:Nat → Prop}{a:Option Addr}{e:TypeId}{v:Value}{w:World}
def Hh(b:List UInt8)(p q:Nat):Bool:=decide (p<b.length)&&decide (b[p]? =b[q]?)
theorem Rz{q:Nat}(hp:p<b.length)(hq:q<b.length):Hh b p q=((b[p].toNat:Int)==(b[q].toNat:Int)):=by
 unfold Hh;rw[Ad hp,BY,AJ hp,AJ hq,H5];simp only[Av,Bd,beq_iff_eq];constructor
 ·intro h;rw[h]
 ·intro h;exact UInt8.toNat_inj.1 zD
theorem RL(b:List UInt8)(p q:Nat)(hq:q≤p)(a:Option Addr)(n c:Nat)(w:World)(hl:Ah.r (·<w.heap.size) w [.slice a n c] b)(hp:p≤4611686018427387904):
  Calls Tryz.prog 371 #[.slice a n c,.int .i64 p,.int .i64 q,.int .i64 1] w fun r w'=>r=.returned (.bool (Hh b p q))∧Below w.heap.size w w':=by
 obtain⟨rfl,hm,_,_⟩:=AT hl;by_cases hlt:p<b.length
 ·have hqt:q<b.length:=by omega
  obtain⟨g,o,hA,hg,hc⟩:=Cs hl hlt;obtain⟨g',o',hA',hg',hc'⟩:=Cs hl hqt;rw[hA] at hA';simp only[Bd,CZ,AM] at hA';obtain⟨rfl,rfl⟩:=hA';subst hA;have hff:=hid (Rz hlt hqt);generalize b[p]=x at*;generalize b[q]=y at*;have HL:=hid hl;clear hl;have d1:decide ((b.length:Int)<(p:Int)+1)=false:=zH;have d2:decide ((b.length:Int)<(q:Int)+1)=false:=zH;go_enter Tryz.func371,Tryz.ntmps371;go_wp2_with fail;refine wp_loop_rounds 2 ?_;rw[rounds_succ];have C1:=fun s:AX w=>s.cell hc;have C2:=fun s:AX w=>s.cell hc';cases he:((x.toNat:Int)==(y.toNat:Int))
  ·have e1:((x.toNat:Int) !=(y.toNat:Int))=true:=by simp only[bne,he,Bool.not_false]
   rw[he] at hff;clear he;go_wp2_with fail;refine AR zI zI ?_;repeat (go_big_quiet_step (fail))
   refine Bm ?_;rintro W5 ⟨⟨W5',hb5⟩,rfl⟩;go_wp2;go_ret;exact⟨zM,hb5⟩
  ·have e1:((x.toNat:Int) !=(y.toNat:Int))=false:=by simp only[bne,he,Bool.not_true]
   rw[he] at hff;clear he;go_wp2_with fail;refine AR zI zI ?_;repeat (go_big_quiet_step (fail))
   refine Bm ?_;rintro W5 ⟨⟨W5',hb5⟩,rfl⟩;go_wp2_with fail;rw[rounds_succ];go_wp2;go_ret;exact⟨zM,hb5⟩
 ·have hff:Hid (Hh b p q=false):=hid (by simp[Hh,hlt])
  clear hl;go_enter Tryz.func371,Tryz.ntmps371;go_wp2;go_ret;exact⟨zM,zB⟩
theorem TD(b:List UInt8)(p q:Int)(h0:0≤q)(hq:q≤p)(a:Option Addr)(n c:Nat)(w:World)(hl:Ah.r (·<w.heap.size) w [.slice a n c] b)(hp:p≤4611686018427387904):
  Calls Tryz.prog 371 #[.slice a n c,.int .i64 p,.int .i64 q,.int .i64 1] w fun r w'=>r=.returned (.bool (Hh b p.toNat q.toNat))∧Below w.heap.size w w':=by
 obtain⟨p',rfl⟩:=EN (show 0≤p by omega);obtain⟨q',rfl⟩:=EN h0;exact RL b p' q' zD a n c w hl zD
def I5(b:List UInt8)(p off k:Nat):Nat:=k+GR b off (b.length-p-k) (p+k)
theorem MH(h:p<b.length∧1≤off∧off≤p):C4 b p off=I5 b p off 0:=by
 unfold C4 I5;rw[Ai h];simp
theorem Oa{k:Nat}(h:Hh b (p+k) (p+k-off)=true):I5 b p off k=I5 b p off (k+1)∧p+k<b.length:=by
 simp only[Hh,Aq,Av] at h;refine⟨?_,h.1⟩;unfold I5;obtain⟨f,hf⟩:∃f,b.length-p-k=f+1:=⟨b.length-p-k-1,zD⟩;rw[hf,show b.length-p-(k+1)=f by omega];simp only[GR];rw[Ai h,show p+(k+1)=p+k+1 by omega];omega
theorem LW{k:Nat}(h:Hh b (p+k) (p+k-off)=false):I5 b p off k=k:=by
 unfold I5;rcases Cf (b.length-p-k) with h0 | h0
 ·rw[h0];rfl
 ·obtain⟨f,hf⟩:∃f,b.length-p-k=f+1:=⟨b.length-p-k-1,zD⟩
  rw[hf];simp only[GR];rw[Ak]
  ·omega
  ·rintro⟨h1,h2⟩
   have:Hh b (p+k) (p+k-off)=true:=by unfold Hh;rw[Ad h1,Ad h2];rfl
   rw[this] at h;cases h
theorem Hd(h:¬(p<b.length∧1≤off∧off≤p)):C4 b p off=0:=by
 unfold C4;rw[Ak h]
theorem QE(b:List UInt8)(p off:Nat)(a:Option Addr)(n c:Nat)(w:World)(hl:Ah.r (·<w.heap.size) w [.slice a n c] b)(hlen:b.length≤1048576)(hp:p≤1048576)(ho:off≤1048577):
  Calls Tryz.prog 366 #[.slice a n c,.int .i64 p,.int .i64 off] w fun r w'=>r=.returned (.int .i64 (C4 b p off))∧Below w.heap.size w w':=by
 obtain⟨rfl,hm,_,_⟩:=AT hl;have HL:=hid hl;clear hl;by_cases h1:p<b.length
 ·have d0:decide ((p:Int)<0)=false:=by simp
  have d1:decide ((b.length:Int)≤(p:Int))=false:=zH;have d1':decide (b.length≤p)=false:=zH;by_cases h2:1≤off
  ·have d2:decide ((off:Int)<1)=false:=by simp;omega
   by_cases h3:off≤p
   ·have d3:decide ((p:Int)<(off:Int))=false:=by simp;omega
    have d3':decide (p<off)=false:=zH;have hff:=hid (MH (off:=off) ⟨h1,h2,h3⟩);go_enter Tryz.func366,Tryz.ntmps366;go_wp2_with fail;go_loopw [7] (fun i wr=>∃k:Nat,k≤b.length-p∧i=.int .i64 k∧Hid (C4 b p off=I5 b p off k)∧Below w.heap.size w wr) (fun i _=>b.length-(intOf i).toNat)
    case atStart=>exact ⟨0,Am _,rfl,hff,Below.refl _ _⟩
    case round=>
     obtain⟨k,hk,rfl,hf,hb⟩:=hrel;clear hff;have d4:decide ((k:Int)<1048576)=true:=zH;have hS:=TD b ((p:Int)+(k:Int)) ((p:Int)+(k:Int)-(off:Int)) zD zD a b.length c wr (lift HL.out hb) zD;have e1:((p:Int)+(k:Int)).toNat=p+k:=zD;have e2:((p:Int)+(k:Int)-(off:Int)).toNat=p+k-off:=zD;rw[e1,e2] at hS;clear e1 e2;cases hs:Hh b (p+k) (p+k-off)
     ·have hend:=hid (LW hs)
      rw[hs] at hS;have HS:=hid hS;clear hS hs;go_wp2_with fail;refine HS.out.mono ?_;rintro r w2 ⟨rfl,hb2⟩;go_wp2;go_ret;exact⟨zCi,Af hb2 hb⟩
     ·obtain⟨hn,hlt⟩:=Oa hs
      have HN:=hid hn;rw[hs] at hS;have HS:=hid hS;clear hS hs hn;go_wp2_with fail;refine HS.out.mono ?_;rintro r w2 ⟨rfl,hb2⟩;go_wp2;go_roundw
      case rel=>exact ⟨k+1,zD,zV,hid (by rw[hf.out,HN.out]),Af hb2 hb⟩
      case measure=>simp [intOf];omega
   ·have d3:decide ((p:Int)<(off:Int))=true:=by simp;omega
    have hff:=hid (Hd (b:=b) (p:=p) (off:=off) zD);go_enter Tryz.func366,Tryz.ntmps366;go_wp2;go_ret;exact⟨zM,zB⟩
  ·have d2:decide ((off:Int)<1)=true:=by simp;omega
   have hff:=hid (Hd (b:=b) (p:=p) (off:=off) zD);go_enter Tryz.func366,Tryz.ntmps366;go_wp2;go_ret;exact⟨zM,zB⟩
 ·have d1:decide ((b.length:Int)≤(p:Int))=true:=by simp;omega
  have hff:=hid (Hd (b:=b) (p:=p) (off:=off) zD);go_enter Tryz.func366,Tryz.ntmps366;go_wp2;go_ret;exact⟨zM,zB⟩
theorem MB(b:List UInt8)(p off:Int)(h0:0≤p)(h1:0≤off)(a:Option Addr)(n c:Nat)(w:World)(hl:Ah.r (·<w.heap.size) w [.slice a n c] b)(hlen:b.length≤1048576)(hp:p≤1048576)(ho:off≤1048577):
  Calls Tryz.prog 366 #[.slice a n c,.int .i64 p,.int .i64 off] w fun r w'=>r=.returned (.int .i64 (C4 b p.toNat off.toNat))∧Below w.heap.size w w':=by
 obtain⟨p',rfl⟩:=EN h0;obtain⟨q',rfl⟩:=EN h1;exact QE b p' q' a n c w hl hlen zD zD
theorem Rx(b:List UInt8)(p off:Nat)(a:Option Addr)(n c:Nat)(w:World)(hl:Ah.r (·<w.heap.size) w [.slice a n c] b)(hlen:b.length≤1048576)(hp:p≤1048576)(ho:off≤1048577):
  Calls Tryz.prog 381 #[.slice a n c,.int .i64 p,.int .i64 off] w fun r w'=>r=.returned (.int .i64 (C4 b p off))∧Below w.heap.size w w':=by
 obtain⟨rfl,hm,_,_⟩:=AT hl;by_cases h1:p<b.length
 ·have d0:decide ((p:Int)<0)=false:=by simp
  have d1:decide ((b.length:Int)≤(p:Int))=false:=zH;have d1':decide (b.length≤p)=false:=zH;by_cases h2:1≤off
  ·have d2:decide ((off:Int)<1)=false:=by simp;omega
   by_cases h3:off≤p
   ·have d3:decide ((p:Int)<(off:Int))=false:=by simp;omega
    have d3':decide (p<off)=false:=zH;have hff:=hid (MH (off:=off) ⟨h1,h2,h3⟩);obtain⟨g,o,hA,hg,_⟩:=Cs hl h1;subst hA;have HL:=hid hl;clear hl;go_enter Tryz.func381,Tryz.ntmps381;go_wp2_with fail;go_loopw [7] (fun i wr=>∃k:Nat,k≤b.length-p∧i=.int .i64 k∧Hid (C4 b p off=I5 b p off k)∧Below w.heap.size w wr) (fun i _=>b.length-(intOf i).toNat)
    case atStart=>exact ⟨0,Am _,rfl,hff,Below.refl _ _⟩
    case round=>
     obtain⟨k,hk,rfl,hf,hb⟩:=hrel;clear hff;have d4:decide ((k:Int)<1048576)=true:=zH;by_cases hlt:p+k<b.length
     ·have d5:decide ((p:Int)+(k:Int)<(b.length:Int))=true:=by simp;omega
      have hlq:p+k-off<b.length:=zD;obtain⟨g1,o1,hA1,_,hc⟩:=Cs HL.out hlt;obtain⟨g2,o2,hA2,_,hc'⟩:=Cs HL.out hlq;simp only[Bd,CZ,AM] at hA1 hA2;obtain⟨rfl,rfl⟩:=hA1;obtain⟨rfl,rfl⟩:=hA2;have C1:=fun s:AX wr=>s.cell ((hb.cell (p:=⟨g,o+(p+k),none⟩) hg).trans hc);have C2:=fun s:AX wr=>s.cell ((hb.cell (p:=⟨g,o+(p+k-off),none⟩) hg).trans hc');have hsa:=Rz hlt hlq;generalize b[p+k]=x at*;generalize b[p+k-off]=y at*;clear hc hc';have i1:(0:Int)≤(p:Int)+(k:Int):=zD;have i2:(0:Int)≤(p:Int)+(k:Int)-(off:Int):=zD;have i3:(p:Int)+(k:Int)-(off:Int)<(b.length:Int):=zD;have i4:(p:Int)+(k:Int)<(b.length:Int):=zD;have t1:((p:Int)+(k:Int)).toNat=p+k:=zD;have t2:((p:Int)+(k:Int)-(off:Int)).toNat=p+k-off:=zD;cases hs:Hh b (p+k) (p+k-off)
      ·have hend:=hid (LW hs)
       rw[hs] at hsa;have e1:((x.toNat:Int)==(y.toNat:Int))=false:=hsa.symm;clear hs hsa;go_wp2_with fail;refine AR zI zI ?_;repeat (go_big_quiet_step (fail))
       refine Bm ?_;rintro W5 ⟨⟨W5',hb5⟩,rfl⟩;go_wp2;go_ret;exact⟨zCi,Af hb5 hb⟩
      ·obtain⟨hn,_⟩:=Oa hs
       have HN:=hid hn;rw[hs] at hsa;have e1:((x.toNat:Int)==(y.toNat:Int))=true:=hsa.symm;clear hs hsa hn;go_wp2_with fail;refine AR zI zI ?_;repeat (go_big_quiet_step (fail))
       refine Bm ?_;rintro W5 ⟨⟨W5',hb5⟩,rfl⟩;clear t1 t2;go_wp2;go_roundw
       case rel=>exact ⟨k+1,zD,zV,hid (by rw[hf.out,HN.out]),Af hb5 hb⟩
       case measure=>simp [intOf];omega
     ·have d5:decide ((p:Int)+(k:Int)<(b.length:Int))=false:=by simp;omega
      have hs:Hh b (p+k) (p+k-off)=false:=by simp[Hh,hlt]
      have hend:=hid (LW hs);clear hs;go_wp2_with fail;refine AR zI zI ?_;repeat (go_big_quiet_step (fail))
      refine Bm ?_;rintro W5 ⟨⟨W5',hb5⟩,rfl⟩;go_wp2;go_ret;exact⟨zCi,Af hb5 hb⟩
   ·have d3:decide ((p:Int)<(off:Int))=true:=by simp;omega
    have hff:=hid (Hd (b:=b) (p:=p) (off:=off) zD);go_enter Tryz.func381,Tryz.ntmps381;go_wp2;go_ret;exact⟨zM,zB⟩
  ·have d2:decide ((off:Int)<1)=true:=by simp;omega
   have hff:=hid (Hd (b:=b) (p:=p) (off:=off) zD);go_enter Tryz.func381,Tryz.ntmps381;go_wp2;go_ret;exact⟨zM,zB⟩
 ·have d1:decide ((b.length:Int)≤(p:Int))=true:=by simp;omega
  have hff:=hid (Hd (b:=b) (p:=p) (off:=off) zD);go_enter Tryz.func381,Tryz.ntmps381;go_wp2;go_ret;exact⟨zM,zB⟩
theorem Tq(b:List UInt8)(p off:Int)(h0:0≤p)(h1:0≤off)(a:Option Addr)(n c:Nat)(w:World)(hl:Ah.r (·<w.heap.size) w [.slice a n c] b)(hlen:b.length≤1048576)(hp:p≤1048576)(ho:off≤1048577):
  Calls Tryz.prog 381 #[.slice a n c,.int .i64 p,.int .i64 off] w fun r w'=>r=.returned (.int .i64 (C4 b p.toNat off.toNat))∧Below w.heap.size w w':=by
 obtain⟨p',rfl⟩:=EN h0;obtain⟨q',rfl⟩:=EN h1;exact Rx b p' q' a n c w hl hlen zD zD
theorem NM(o n:Int)(w:World):Calls Tryz.prog 382 #[.int .i64 o,.int .i64 n] w fun r w'=>r=.returned (.tuple #[.int .i64 (if n<4 then 0 else o),.int .i64 (if n<4 then 0 else n)])∧w=w':=by
 by_cases h:n<4
 ·rw[Ai h,Ai h]
  have d1:decide (n<4)=true:=zAe;clear h;go_enter Tryz.func382,Tryz.ntmps382;go_wp2;go_ret2
  exact⟨rfl,rfl⟩
 ·rw[Ak h,Ak h]
  have d1:decide (n<4)=false:=zAe;clear h;go_enter Tryz.func382,Tryz.ntmps382;go_wp2;go_ret2
  exact⟨rfl,rfl⟩
def GW(b:List UInt8)(p m f o:Nat):Nat × Nat:=if 4≤m then (if firstM b p m f o=0 then (0,0) else (firstM b p m f o,m)) else (0,0)
theorem SW(b:List UInt8)(p:Nat):Ck b p=GW b p (GV b p (reach p)) (reach p) 1:=by
 unfold GW;rcases FM b p with h | ⟨o,m,h,h1,h2,h4,hm,hall,hlt⟩
 ·rw[h]
  by_cases h4:4≤GV b p (reach p)
  ·have:=h
   unfold Ck at this;rw[Ai h4] at this;simp only[CR] at this;omega
  ·rw[Ak h4]
 ·have e:GV b p (reach p)=m:=by
   have g1:=Nf b p (reach p) o h1 h2;rcases Lb b p (reach p) with h | ⟨o',g1,g2,g3⟩
   ·omega
   ·have:=hall o' g1 g2;omega
  have e2:firstM b p m (reach p) 1=o:=L9 b p m _ 1 o h1 zD hm fun j j1 j2=>by have:=hlt j j1 j2;omega
  rw[h,e,Ai h4,e2,Ak zD]
theorem US{m f:Nat}(h4:4≤m)(ho:1≤o)(h:C4 b p o=m):GW b p m (f+1) o=(o,m):=by
 have e:firstM b p m (f+1) o=o:=by simp[firstM,h]
 unfold GW;rw[Ai h4,e,Ak zD]
theorem Qh{m f:Nat}(h:¬(4≤m∧C4 b p o=m)):GW b p m (f+1) o=GW b p m f (o+1):=by
 unfold GW;by_cases h4:4≤m
 ·have e:firstM b p m (f+1) o=firstM b p m f (o+1):=by
   simp only[firstM];rw[Ak (fun e=>h ⟨h4,e⟩)]
  rw[e]
 ·rw[Ak h4,Ak h4]
theorem UT(b:List UInt8)(p m o:Nat):GW b p m 0 o=(0,0):=by
 unfold GW;split<;>simp [firstM]
theorem RM(b:List UInt8)(p:Nat)(a:Option Addr)(n c:Nat)(w:World)(hl:Ah.r (·<w.heap.size) w [.slice a n c] b)(hlen:b.length≤1048576):
  Calls Tryz.prog 353 #[.slice a n c,.int .i64 p] w fun r w'=>r=.returned (.tuple #[.int .i64 (Ck b p).1,.int .i64 (Ck b p).2])∧Below w.heap.size w w':=by
 obtain⟨rfl,hm,_,_⟩:=AT hl;have HL:=hid hl;clear hl;have d0:decide ((p:Int)<0)=false:=zN;by_cases h1:p<b.length
 ·have d1:decide ((b.length:Int)≤(p:Int))=false:=by simp;omega
  have d1':decide (b.length≤p)=false:=zH;have hff:=hid (SW b p);go_enter Tryz.func353,Tryz.ntmps353;go_wp2_with fail;go_loopw [6,7] (fun m i wr=>∃k:Nat,k≤reach p∧i=.int .i64 (k+1:Nat)∧m=.int .i64 (GV b p k)∧Below w.heap.size w wr) (fun _ i _=>p+1-(intOf i).toNat)
  case atStart=>exact ⟨0,Am _,rfl,rfl,Below.refl _ _⟩
  case round=>
   obtain⟨k,hk,rfl,rfl,hb⟩:=hrel;have hrp:reach p≤p∧reach p≤65536:=zAw;by_cases hlt:k<reach p
   ·have d2:decide (((k+1:Nat):Int)≤(p:Int))=true:=by simp;omega
    have d3:decide (((k+1:Nat):Int)≤65536)=true:=zH;have d2':decide ((k+1:Nat)≤p)=true:=zH;have d2'':decide ((k:Int)+1≤(p:Int))=true:=zH;have d3'':decide ((k:Int)+1≤65536)=true:=zH;have hM:=MB b (p:Int) ((k+1:Nat):Int) zD zD a b.length c wr (lift HL.out hb) hlen zD zD;rw[Cc,Cc] at hM;have HM:=hid hM;clear hM;go_wp2_with fail;refine HM.out.mono ?_;rintro r w2 ⟨rfl,hb2⟩;have e1:max (GV b p k:Int) (C4 b p (k+1):Int)=(GV b p (k+1):Nat):=by simp only[GV];omega
    go_wp2;go_roundw
    case rel=>exact ⟨k+1,zD,zV,(by have:(if GV b p k<C4 b p (k+1) then (C4 b p (k+1):Int) else (GV b p k:Int))=((GV b p (k+1):Nat):Int):=(by simp only[GV];split<;>omega);rw[this]),Af hb2 hb⟩
    case measure=>simp [intOf];omega
   ·obtain rfl:k=reach p:=by omega
    have hbw:=hb;have hexit:(decide ((reach p:Int)+1≤(p:Int))=false)∨(decide ((reach p:Int)+1≤(p:Int))=true∧decide ((reach p:Int)+1≤65536)=false):=by
     unfold reach;by_cases h6:p≤65536
     ·left;simp;omega
     ·right;constructor<;>simp<;>omega
    generalize hM:GV b p (reach p)=M at*;generalize hR:reach p=R at*;have HM:=hid hM;have HR:=hid hR;clear hM hR;rcases hexit with d2 | ⟨d2,d3⟩;all_goals
     go_wp2_with fail;go_loopw [4,5,8] (fun _ _ i wr=>∃k:Nat,k≤R∧i=.int .i64 (k+1:Nat)∧Hid (Ck b p=GW b p M (R-k) (k+1))∧Below w.heap.size w wr) (fun _ _ i _=>p+1-(intOf i).toNat)
     case atStart=>exact ⟨0,Am _,rfl,hff,hbw⟩
     case round=>
      obtain⟨j,hj,rfl,hf,hb⟩:=hrel;clear hff hbw;by_cases hlt:j<R
      ·have d4:decide ((j:Int)+1≤(p:Int))=true:=by simp;omega
       have d5:decide ((j:Int)+1≤65536)=true:=zH;obtain⟨f,hfe⟩:∃f,R-j=f+1:=⟨R-j-1,zD⟩;by_cases h4:4≤M
       ·have d6:decide ((4:Int)≤(M:Int))=true:=by simp;omega
        have hMc:=MB b (p:Int) ((j+1:Nat):Int) zD zD a b.length c wr (lift HL.out hb) hlen zD zD;rw[Cc,Cc] at hMc;by_cases he:C4 b p (j+1)=M
        ·have hend:Hid (Ck b p=(j+1,M)):=hid (by rw[hf.out,hfe,US h4 (by omega) he])
         rw[he] at hMc;have HMc:=hid hMc;clear hMc he hfe;have e1:((M:Int)==(M:Int))=true:=zN;go_wp2_with fail;refine HMc.out.mono ?_;rintro r w2 ⟨rfl,hb2⟩;go_wp2;go_ret2
         exact⟨by rw[hend.out];rfl,Af hb2 hb⟩
        ·have hend:Hid (Ck b p=GW b p M (R-(j+1)) (j+1+1)):=hid (by rw[hf.out,hfe,Qh (fun e=>he e.2),show R-(j+1)=f by omega])
         generalize C4 b p (j+1)=m at*;have HMc:=hid hMc;clear hMc hfe;have e1:((m:Int)==(M:Int))=false:=zH;have e2:(m==M)=false:=zH;clear he;have e3:decide (m=M)=false:=by simp;simpa using e2
         go_wp2_with fail;refine HMc.out.mono ?_;rintro r w2 ⟨rfl,hb2⟩;go_wp2;go_roundw
         case rel=>(repeat apply Exists.intro);refine⟨?_,?_⟩;rotate_left;rfl;exact⟨j+1,zD,zV,hend,Af hb2 hb⟩
         case measure=>simp [intOf];omega
       ·have d6:decide ((4:Int)≤(M:Int))=false:=by simp;omega
        have hend:Hid (Ck b p=GW b p M (R-(j+1)) (j+1+1)):=hid (by rw[hf.out,hfe,Qh (fun e=>h4 e.1),show R-(j+1)=f by omega]);clear hfe;go_wp2;go_roundw
        case rel=>exact ⟨j+1,zD,zV,hend,hb⟩
        case measure=>simp [intOf];omega
      ·obtain rfl:j=R:=by omega
       have hend:Hid (Ck b p=(0,0)):=hid (by rw[hf.out,Lx,UT]);go_wp2;go_ret2
       exact⟨by rw[hend.out];rfl,hb⟩
 ·have d1:decide ((b.length:Int)≤(p:Int))=true:=by simp;omega
  have d1':decide (b.length≤p)=true:=zH;have hff:Hid (Ck b p=(0,0)):=hid (OM fun j _ _=>by have:=JT b p j;omega);go_enter Tryz.func353,Tryz.ntmps353;go_wp2;go_ret2
  exact⟨zM,zB⟩
theorem M5(a b:Nat)(ha:a<4294967296)(hb:b<4294967296):bits .or .u32 (a:Int) (b:Int)=((a ||| b:Nat):Int):=by
 have hx:a ||| b<2^32:=Nat.or_lt_two_pow zD zD;have h1:(BitVec.ofInt 32 (a:Int)).toNat=a:=by
  rw[BitVec.ofInt_natCast,BitVec.toNat_ofNat];exact Eu zD
 have h2:(BitVec.ofInt 32 (b:Int)).toNat=b:=by
  rw[BitVec.ofInt_natCast,BitVec.toNat_ofNat];exact Eu zD
 show IntKind.u32.wrap ((BitVec.ofInt 32 (a:Int) ||| BitVec.ofInt 32 (b:Int)).toNat:Int)=_
 rw[BitVec.toNat_or,h1,h2,IntKind.wrap_u32];omega
theorem Abt(a c k:Nat)(h:a<2^k):a ||| (c*2^k)=a+c*2^k:=by
 rw[Nat.or_comm,←Nat.shiftLeft_eq,←Nat.shiftLeft_add_eq_or_of_lt h,Nat.add_comm]
theorem QL(a c k m:Nat)(hm:2^k=m)(h:a<m)(hc:c*m<4294967296)(ha:a<4294967296):bits .or .u32 (a:Int) ((c:Int)*(m:Int))=(a:Int)+c*m:=by
 have e:((c:Int)*(m:Int))=((c*m:Nat):Int):=zN;rw[e,M5 a (c*m) ha hc,←hm,Abt a c k (by rw[hm];exact h)];simp
theorem Yv(x0 x1 x2 x3:UInt8):bits .or .u32 (bits .or .u32 (bits .or .u32 (bits .or .u32 0 ((x0.toNat:Int)%4294967296)) ((x1.toNat:Int)%4294967296*256%4294967296)) ((x2.toNat:Int)%4294967296*65536%4294967296)) ((x3.toNat:Int)%4294967296*16777216%4294967296)=((x0.toNat+256*x1.toNat+65536*x2.toNat+16777216*x3.toNat:Nat):Int):=by
 have h0:=x0.toNat_lt;have h1:=x1.toNat_lt;have h2:=x2.toNat_lt;have h3:=x3.toNat_lt;have e0:(x0.toNat:Int)%4294967296=((x0.toNat:Nat):Int)*((1:Nat):Int):=zD;have e1:(x1.toNat:Int)%4294967296*256%4294967296=(x1.toNat:Int)*((256:Nat):Int):=zD;have e2:(x2.toNat:Int)%4294967296*65536%4294967296=(x2.toNat:Int)*((65536:Nat):Int):=zD;have e3:(x3.toNat:Int)%4294967296*16777216%4294967296=(x3.toNat:Int)*((16777216:Nat):Int):=zD;have ez:(0:Int)=((0:Nat):Int):=rfl;rw[e0,e1,e2,e3,ez,QL 0 x0.toNat 0 1 zO zD zD zD];have f0:((0:Nat):Int)+(x0.toNat:Int)*((1:Nat):Int)=((x0.toNat:Nat):Int):=zD;rw[f0,QL x0.toNat x1.toNat 8 256 zO zD zD zD];have f1:(x0.toNat:Int)+(x1.toNat:Int)*((256:Nat):Int)=((x0.toNat+256*x1.toNat:Nat):Int):=zD;rw[f1,QL (x0.toNat+256*x1.toNat) x2.toNat 16 65536 zO zD zD zD];have f2:((x0.toNat+256*x1.toNat:Nat):Int)+(x2.toNat:Int)*((65536:Nat):Int)=((x0.toNat+256*x1.toNat+65536*x2.toNat:Nat):Int):=zD;rw[f2,QL (x0.toNat+256*x1.toNat+65536*x2.toNat) x3.toNat 24 16777216 zO zD zD zD];omega
def J9(b:List UInt8)(p:Nat):Int × Bool:=match D6 b p with | some k=>(k,true) | none=>(0,false)
theorem He(hp:p+4≤b.length):D6 b p=some (b[p].toNat+256*b[p+1].toNat+65536*b[p+2].toNat+16777216*b[p+3].toNat):=by
 unfold D6;rw[AJ (show p<b.length by omega),AJ (show p+1<b.length by omega),AJ (show p+2<b.length by omega),AJ (show p+3<b.length by omega)]
theorem LX(hp:b.length<p+4):D6 b p=none:=by
 unfold D6;rw[List.getElem?_eq_none (show b.length≤p+3 by omega)];split<;>simp_all
theorem UC(b:List UInt8)(p:Nat)(a:Option Addr)(n c:Nat)(w:World)(hl:Ah.r (·<w.heap.size) w [.slice a n c] b)(hlen:b.length≤1048576)(hp:p+4≤b.length):
  Calls Tryz.prog 387 #[.slice a n c,.int .i64 p] w fun r w'=>r=.returned (.tuple #[.int .u32 (J9 b p).1,.bool (J9 b p).2])∧w=w':=by
 have hff:Hid (J9 b p=(((b[p].toNat+256*b[p+1].toNat+65536*b[p+2].toNat+16777216*b[p+3].toNat:Nat):Int),true)):=hid (by unfold J9;rw[He hp]);obtain⟨rfl,hm,_,_⟩:=AT hl;obtain⟨g,o,hA,hg,c0⟩:=Cs hl (i:=p) zD;obtain⟨g1,o1,hA1,_,c1⟩:=Cs hl (i:=p+1) zD;obtain⟨g2,o2,hA2,_,c2⟩:=Cs hl (i:=p+2) zD;obtain⟨g3,o3,hA3,_,c3⟩:=Cs hl (i:=p+3) zD;subst hA;simp only[Bd,CZ,AM] at hA1 hA2 hA3;obtain⟨rfl,rfl⟩:=hA1;obtain⟨rfl,rfl⟩:=hA2;obtain⟨rfl,rfl⟩:=hA3;have HL:=hid hl;clear hl;have d0:decide ((p:Int)<0)=false:=zN;have d1:decide ((b.length:Int)-4<(p:Int))=false:=zH;generalize b[p]=x0 at*;generalize b[p+1]=x1 at*;generalize b[p+2]=x2 at*;generalize b[p+3]=x3 at*;have i0:(0:Int)≤(p:Int):=zD;have i1:(p:Int)+3<(b.length:Int):=zD;have i2:(p:Int)+2<(b.length:Int):=zD;have i3:(p:Int)+1<(b.length:Int):=zD;have i4:(p:Int)<(b.length:Int):=zD;go_enter Tryz.func387,Tryz.ntmps387;go_wp2_with fail;refine wp_loop_rounds 5 ?_;rw[rounds_succ];go_wp2_with fail;rw[rounds_succ];go_wp2_with fail;rw[rounds_succ];go_wp2_with fail;rw[rounds_succ];go_wp2_with fail;rw[rounds_succ];go_wp2_with fail;go_ret2
 exact⟨by rw[hff.out,←Yv];rfl,rfl⟩
theorem UD(b:List UInt8)(p:Nat)(a:Option Addr)(n c:Nat)(w:World)(hl:Ah.r (·<w.heap.size) w [.slice a n c] b)(hlen:b.length≤1048576)(hp:b.length<p+4)(hp2:p≤1048576):
  Calls Tryz.prog 387 #[.slice a n c,.int .i64 p] w fun r w'=>r=.returned (.tuple #[.int .u32 (J9 b p).1,.bool (J9 b p).2])∧w=w':=by
 have hff:Hid (J9 b p=(0,false)):=hid (by unfold J9;rw[LX hp]);obtain⟨rfl,hm,_,_⟩:=AT hl;clear hl;have d0:decide ((p:Int)<0)=false:=zN;have d1:decide ((b.length:Int)-4<(p:Int))=true:=zH;go_enter Tryz.func387,Tryz.ntmps387;go_wp2;go_ret2
 exact⟨zM,rfl⟩
theorem Qd(b:List UInt8)(p:Nat)(a:Option Addr)(n c:Nat)(w:World)(hl:Ah.r (·<w.heap.size) w [.slice a n c] b)(hlen:b.length≤1048576)(hp:p≤1048576):
  Calls Tryz.prog 387 #[.slice a n c,.int .i64 p] w fun r w'=>r=.returned (.tuple #[.int .u32 (J9 b p).1,.bool (J9 b p).2])∧w=w':=by
 by_cases h:p+4≤b.length
 ·exact UC b p a n c w hl hlen h
 ·exact UD b p a n c w hl hlen zD hp
end Go.Proofs.YtfddhafbhceoaaaGreat
namespace Go.Bs
open Go.RowKit
variable{b l:List UInt8}{cs xs:List Value}{base c g i lo n o off p sz:Nat}{S:Nat → Prop}{a:Option Addr}{e t:TypeId}{v:Value}{W w w':World}
structure Tch(F:Nat→Prop)(w w':World):Prop where
 os:w'.os=w.os
 tape:w'.tape=w.tape
 output:w'.output=w.output
 size:w.heap.size≤w'.heap.size
 block:∀b,b<w.heap.size→¬F b→w'.heap[b]? =w.heap[b]?
section
variable {F G:Nat→Prop} {w w' w'':World}
theorem Tch.refl(F:Nat→Prop)(w:World):Tch F w w:=⟨rfl,rfl,rfl,An _,fun _ _ _=>rfl⟩
theorem Tch.trans(h:Tch F w w')(k:Tch G w' w'')(hG:∀b,b<w.heap.size→G b→F b):Tch F w w'':=
 ⟨k.os.trans h.os,k.tape.trans h.tape,k.output.trans h.output,A4 h.size k.size,fun b hb hF=>(k.block b (Aj hb h.size) (fun hg=>hF (hG b hb hg))).trans (h.block b hb hF)⟩
theorem Tch.mono(h:Tch F w w')(hF:∀b,b<w.heap.size→F b→G b):Tch G w w':=⟨h.os,h.tape,h.output,h.size,fun b hb hg=>h.block b hb (fun hf=>hg (hF b hb hf))⟩
theorem Tch.JB{B:Nat}(h:Below B w w'):Tch (fun b=>B≤b) w w':=⟨h.os,h.tape,h.output,h.size,fun b hb hf=>h.block b zD⟩
theorem Tch.Cx(h:Below w.heap.size w w'):Tch F w w':=⟨h.os,h.tape,h.output,h.size,fun b hb _=>h.block b hb⟩
theorem Tch.N7{row:Option Nat}(h:w.grownBy w' row):Tch (fun b=>row=some b) w w':=⟨h.os,h.tape,h.output,h.size,fun b hb hf=>h.block b hb (fun e=>hf e.symm)⟩
theorem Tch.alloc(h:Tch F w w')(o:Obj):Tch F w (w'.alloc o):=h.trans (Tch.Cx (F:=F) ((Below.refl _ _).alloc (An _) o)) fun _ _ h=>h
theorem Tch.drew(h:Tch F w w'):Tch F w w'.drew:=⟨h.os,h.tape,h.output,h.size,h.block⟩
theorem Tch.drewN(h:Tch F w w')(n:Nat):Tch F w (w'.drewN n):=⟨h.os,h.tape,h.output,h.size,h.block⟩
theorem Tch.setCell(h:Tch F w w'){p:Addr}(hp:p.block<w.heap.size→F p.block)(u:Value):Tch F w (w'.setCell p u):=
 ⟨h.os,h.tape,h.output,by simpa [World.setCell] using h.size,fun b hb hf=>(AB w' p u b (fun e=>hf (e ▸ hp (e ▸ hb)))).trans (h.block b hb hf)⟩
theorem Tch.below{B:Nat}(h:Tch F w w')(hF:∀b,b<w.heap.size→F b→B≤b):Below B w w'∨w.heap.size<B:=by
 by_cases hB:B≤w.heap.size
 ·exact .inl ⟨h.os,h.tape,h.output,h.size,fun b hb=>h.block b zD (fun hf=>by have:=hF b (by omega) hf;omega)⟩
 ·exact .inr zD
theorem Tch.Cw{B:Nat}(h:Tch F w w')(hB:B≤w.heap.size)(hF:∀b,b<w.heap.size→F b→B≤b):Below B w w':=(h.below hF).resolve_right zD
theorem Tch.cell(h:Tch F w w'){p:Addr}(hb:p.block<w.heap.size)(hf:¬F p.block):w'.cell? p=w.cell? p:=Bn (h.block _ hb hf)
theorem Tch.frozen(h:Tch F w w'){p:Addr}(hb:p.block<w.heap.size)(hf:¬F p.block):w'.frozen? p=w.frozen? p:=CT (h.block _ hb hf)
theorem Blk.tch{cs:Array Value}(h:Blk w g t cs)(k:Tch F w w')(hf:¬F g):Blk w' g t cs:=(k.block g h.lt hf).trans h
theorem By(W:World)(e:TypeId)(cs:List Value)(hB:w=W.alloc (.cells cs.toArray e))(hg:g=W.heap.size)(hs:cs.length=sz):Src w (some ⟨g,0,none⟩) 1 sz cs:=by
 subst hB hg;refine⟨zD,.inr ⟨_,0,rfl,fun j u hu=> ?_⟩⟩;rw[A1,Blk.cell (Blk.new W e cs.toArray)];simpa using hu
end
end Go.Bs
