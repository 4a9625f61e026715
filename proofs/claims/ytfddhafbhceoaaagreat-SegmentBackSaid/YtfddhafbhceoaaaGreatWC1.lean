/- Mini: Needed by segmentOnce_walk, part 1: texts put together by shake.py; no condition. -/
import Derived.WalkKit
import Derived.WalkLawsBesides
import Derived.WalkSpells
import Derived.Outline
import Derived.BigQuiet
import Derived.Deep.QuietTactic
import Derived.ProofKit
import Derived.OpenShut
import Derived.Deep.Slices
import Derived.Lib.SmallJoins
import Derived.Test.YtfddhafbhceoaaaGreatRows
import Derived.Deep.AppendLies
import Derived.Laws.IdiomStrings
import Derived.Laws.BytesArg
import Derived.Maps.AppendAt
set_option linter.unusedVariables false
set_option linter.unusedSimpArgs false
set_option maxRecDepth 100000
set_option maxHeartbeats 6400000
namespace Go.Bs
variable{l:List UInt8}{cs:List Value}{base c g i n o sz:Nat}{S:Nat → Prop}{a:Option Addr}{e t:TypeId}{v:Value}{W w w' w1:World}
theorem zB5{p:Prop}(h:p:=by rw [hff.out, Ai rfl, hst.out]; exact HV.out):p:=h
theorem zB4{p:Prop}(h:p:=by rw [hxs.out.2.2, Cy]; simp [BX]):p:=h
theorem zB3{p:Prop}(h:p:=by simp only [BP]; rw [Ad hlt2]; rfl):p:=h
theorem zB1{p:Prop}(h:p:=by simp [Dq, h]):p:=h
theorem zBz{p:Prop}(h:p:=by simpa using hown):p:=h
theorem zBp{p:Prop}(h:p:=by simp only [En]; rw [Ae (by omega)]; rfl):p:=h
theorem zBn{p:Prop}(h:p:=by simp only [BP]; rw [Ad (by omega)]; rfl):p:=h
theorem zBm{p:Prop}(h:p:=by simp only [BY]; rw [Ad (by omega)]; rfl):p:=h
theorem zBl{p:Prop}(h:p:=by simp only [En]; rw [Ad (by omega), h2]; rfl):p:=h
theorem zBf{p:Prop}(h:p:=by rw [hf.out, hdr.out, hlR, Ae (by omega)]; simp):p:=h
theorem zBb{p:Prop}(h:p:=by simpa using hl):p:=h
theorem zA8{p:Prop}(h:p:=by simp; rintro rfl; exact hl rfl):p:=h
theorem zA6{p:Prop}(h:p:=by simp [BP]; omega):p:=h
theorem zAy{p:Prop}(h:p:=by unfold BM; rw [Ah (by omega)]; simp [show m < l.length by omega]):p:=h
theorem zAw{p:Prop}(h:p:=by rw [hff.out]; exact BL rfl (Ap _) (At _) (.inl rfl)):p:=h
theorem zAv{p:Prop}(h:p:=by rw [hst.out]; simp [huv]):p:=h
theorem zAu{p:Prop}(h:p:=by simpa using h2):p:=h
theorem zAn{p:Prop}(h:p:=by simpa using hlt):p:=h
theorem zAk{p:Prop}(h:p:=by rw [hf.out, hst'.out]):p:=h
theorem zAj{p:Prop}(h:p:=by simp [Value.oneCell']):p:=h
theorem zAh{p:Prop}(h:p:=by simpa using h1):p:=h
theorem zAe{p:Prop}(h:p:=by simp at hA'; exact ⟨hA'.1.symm, hA'.2.symm⟩):p:=h
theorem zAd{p:Prop}(h:p:=by rw [hf.out, hst.out]; simp [huv]):p:=h
theorem Z7{p:Prop}(h:p:=by simp [byteCells]):p:=h
theorem Z4{p:Prop}(h:p:=by have := hb1.size; simp at this; omega):p:=h
theorem ZS{p:Prop}(h:p:=by have := hb.size; omega):p:=h
theorem ZP{p:Prop}(h:p:=by simpa using h):p:=h
theorem ZN{p:Prop}(h:p:=by rw [hf.out, hst.out, hr]; rfl):p:=h
theorem ZK{p:Prop}(h:p:=by rw [hf3.out]; rfl):p:=h
theorem ZJ{p:Prop}(h:p:=by go_simp):p:=h
theorem ZG{p:Prop}(h:p:=by rw [hf.out, Cy]; rfl):p:=h
theorem ZE{p:Prop}(h:p:=by simp [Dc]; omega):p:=h
theorem zW{p:Prop}(h:p:=by rw [hf.out, Cy, List.drop_of_length_le (by rw [HL.out]; exact Ap _)]; rfl):p:=h
theorem zT{p:Prop}(h:p:=by go_num):p:=h
theorem zQ{p:Prop}(h:p:=by simp):p:=h
theorem zO{p:Prop}(h:p:=by decide):p:=h
theorem zN{p:Prop}(h:p:=by simp only [maxLen]; omega):p:=h
theorem zK{p:Prop}(h:p:=by rw [hff.out]; rfl):p:=h
theorem zJ{p:Prop}(h:p:=by kernel_rfl):p:=h
theorem zI{p:Prop}(h:p:=by simp; omega):p:=h
theorem zD{p:Prop}(h:p:=by omega):p:=h
theorem zB{p:Prop}(h:p:=by (repeat (first | exact Below.refl _ _ | assumption | (refine Au ?_ _) | (refine Below.setCell ?_ (by first | omega | (simp; done) | (simp; omega)) _) | (refine Below.drew ?_) | (refine below_drewN ?_ _) | (refine Af (by assumption) ?_)))):p:=h
theorem Ad:type_of% @decide_eq_true:=@decide_eq_true
theorem Ae:type_of% @decide_eq_false:=@decide_eq_false
theorem Ah:type_of% @if_neg:=@if_neg
theorem Ai:type_of% @if_pos:=@if_pos
theorem Ao:type_of% @Nat.lt_of_lt_of_le:=@Nat.lt_of_lt_of_le
theorem Ap:type_of% @Nat.le_refl:=@Nat.le_refl
theorem Aq:type_of% @Bool.and_eq_true:=@Bool.and_eq_true
theorem As:type_of% @List.cons.injEq:=@List.cons.injEq
theorem At:type_of% @Nat.zero_le:=@Nat.zero_le
theorem Aw:type_of% @RowKit.Below.heap_setCell:=@RowKit.Below.heap_setCell
theorem AD:type_of% @List.drop_eq_getElem_cons:=@List.drop_eq_getElem_cons
theorem AF:type_of% @and_true:=@and_true
theorem AG:type_of% @Proofs.Tryz.underlying22:=@Proofs.Tryz.underlying22
theorem AI:type_of% @wpQuiet_nil:=@wpQuiet_nil
theorem AL:type_of% @List.length_cons:=@List.length_cons
theorem AM:type_of% @List.getElem?_eq_getElem:=@List.getElem?_eq_getElem
theorem AP:type_of% @RowKit.Below.heap_alloc:=@RowKit.Below.heap_alloc
theorem AQ:type_of% @World.cell?_of_block:=@World.cell?_of_block
theorem AR:type_of% @List.take_succ_eq_append_getElem:=@List.take_succ_eq_append_getElem
theorem AS:type_of% @List.eq_nil_of_length_eq_zero:=@List.eq_nil_of_length_eq_zero
theorem AT:type_of% @List.getElem_mem:=@List.getElem_mem
theorem A1:type_of% @info_parts:=@info_parts
theorem Be:type_of% @Nat.lt_or_ge:=@Nat.lt_or_ge
theorem Bh:type_of% @Option.some.injEq:=@Option.some.injEq
theorem Bj:type_of% @Nat.zero_add:=@Nat.zero_add
theorem BV:type_of% @World.block_lt_of_cell?:=@World.block_lt_of_cell?
theorem BW:type_of% @List.take_length:=@List.take_length
theorem Cr:type_of% @List.getElem?_append_right:=@List.getElem?_append_right
theorem Cs:type_of% @List.map_append:=@List.map_append
theorem Cy:type_of% @List.drop_length:=@List.drop_length
theorem CE:type_of% @List.getElem?_append_left:=@List.getElem?_append_left
theorem CR:type_of% @Nat.add_zero:=@Nat.add_zero
theorem CZ:type_of% @Nat.eq_zero_or_pos:=@Nat.eq_zero_or_pos
theorem C3:type_of% @List.mem_singleton:=@List.mem_singleton
theorem Dr:type_of% @List.take_append_drop:=@List.take_append_drop
theorem Du:type_of% @List.getElem?_take:=@List.getElem?_take
theorem DA:type_of% @List.map_cons:=@List.map_cons
theorem DG:type_of% @Nat.mul_one:=@Nat.mul_one
theorem DP:type_of% @List.getElem?_map:=@List.getElem?_map
theorem D7:type_of% @Bool.true_and:=@Bool.true_and
theorem E9:type_of% @Proofs.Tryz.underlying5:=@Proofs.Tryz.underlying5
theorem Fs:type_of% @if_true:=@if_true
theorem F5:type_of% @List.mem_append:=@List.mem_append
theorem GV:type_of% @Proofs.Tryz.underlying9:=@Proofs.Tryz.underlying9
theorem JQ:type_of% @Proofs.Tryz.underlying37:=@Proofs.Tryz.underlying37
open Go.RowKit
theorem hid{p:Prop}(h:p):Hid p:=h
theorem Au{a:World}(h:Below a.heap.size a W)(o:Obj):Below a.heap.size a (W.alloc o):=h.alloc h.size _
theorem below_drewN{B:Nat}{a:World}(h:Below B a w)(n:Nat):Below B a (w.drewN n):=⟨h.os,h.tape,h.output,h.size,h.block⟩
theorem Af{a:World}(hb:Below W.heap.size W w')(h:Below a.heap.size a W):Below a.heap.size a w':=h.trans (hb.mono h.size)
def Blk(w:World)(g:Nat)(t:TypeId)(cs:Array Value):Prop:=w.heap[g]? =some (.cells cs t (0,0))
section
variable {w w':World} {g:Nat} {t:TypeId} {cs:Array Value}
theorem Blk.lt(h:Blk w g t cs):g<w.heap.size:=by
 rcases Be g w.heap.size with h' | h'
 ·exact h'
 ·unfold Blk at h;rw[Array.getElem?_eq_none h'] at h;cases h
theorem Blk.cell(h:Blk w g t cs)(i:Nat):w.cell? ⟨g,i,none⟩=cs[i]? :=by unfold Blk at h;simp[World.cell?,h]
theorem Blk.free(h:Blk w g t cs)(i:Nat):w.frozen? ⟨g,i,none⟩=false:=by unfold Blk at h;simp[World.frozen?,h]
theorem Blk.new(w:World)(t:TypeId)(cs:Array Value):Blk (w.alloc (.cells cs t)) w.heap.size t cs:=by
 unfold Blk;show (w.heap.push _)[w.heap.size]? =_;simp
theorem Blk.newAt(w:World)(t:TypeId)(cs:Array Value)(h:g=w.heap.size):Blk (w.alloc (.cells cs t)) g t cs:=h ▸ Blk.new w t cs
theorem Blk.Uv(w:World)(o:Obj)(t:TypeId)(cs:Array Value):Blk ((w.alloc o).alloc (.cells cs t)) (w.heap.size+1) t cs:=by
 have:=Blk.new (w.alloc o) t cs;simpa using this
theorem Blk.alloc(h:Blk w g t cs)(o:Obj):Blk (w.alloc o) g t cs:=(AP w o g h.lt).trans h
theorem Blk.drewN(h:Blk w g t cs)(n:Nat):Blk (w.drewN n) g t cs:=h
theorem Blk.drew(h:Blk w g t cs):Blk w.drew g t cs:=h
theorem Blk.set(h:Blk w g t cs)(i:Nat)(u:Value):Blk (w.setCell ⟨g,i,none⟩ u) g t (cs.setIfInBounds i u):=by
 unfold Blk at h ⊢;simp[World.setCell,Array.getElem?_modify,h]
theorem Blk.far(h:Blk w g t cs){p:Addr}(hp:g≠p.block)(u:Value):Blk (w.setCell p u) g t cs:=(Aw w p u g hp).trans h
theorem Blk.below{B:Nat}(h:Blk w g t cs)(hb:Below B w w')(hg:g<B):Blk w' g t cs:=(hb.block g hg).trans h
theorem Blk.later(h:Blk w g t cs)(hb:Below w.heap.size w w'):Blk w' g t cs:=h.below hb h.lt
theorem Blk.grown{row:Option Nat}(h:Blk w g t cs)(hb:w.grownBy w' row)(hg:some g≠row):Blk w' g t cs:=(hb.block g h.lt hg).trans h
end
structure AE(w:World) where
 at_:World
 below:Below w.heap.size w at_
instance (w:World):Inhabited (AE w):=⟨⟨w,Below.refl _ _⟩⟩
theorem AE.cell{b:Nat}(h:w.cell? ⟨b,o,none⟩=some v)(s:AE w):s.at_.cell? ⟨b,o,none⟩=some v:=by
 have hlt:=BV w _ h;rw[s.below.cell (p:=⟨b,o,none⟩) hlt];exact h
theorem Pv(hb:Below W.heap.size W w1):(∀b o,b<W.heap.size→w1.cell? ⟨b,o,none⟩=W.cell? ⟨b,o,none⟩)∧(∀b o,b<W.heap.size→w1.frozen? ⟨b,o,none⟩=W.frozen? ⟨b,o,none⟩):=
 ⟨fun b o h=>hb.cell (p:=⟨b,o,none⟩) h,fun b o h=>hb.frozen (p:=⟨b,o,none⟩) h⟩
section
variable {P:Program}
theorem Dm{c:Code}{Q:Exit→Act→World→Prop}{a:Act}(F:World→Prop)(hF:F w)(h:∀W,F W→c.wp P Q a W):c.wp P Q a w:=h w hF
theorem Ax{id:Nat}{Q:Exit→Act→World→Prop}{a:Act}{w:World}{l:List Oper}(hm:P.follows .mixedOrders=true)(hB:Region.lexB .any l.toArray=true)
 (h:wpQuiet P l.toArray (fun w'=>∃s:AE w,w'=s.at_) (fun a'=>∀w',(∃s:AE w,w'=s.at_)→Q .normal a' w') l a):(Code.region id l.toArray true).wp P Q a w:=
 wp_region_quiet (C:=fun w'=>∃s:AE w,w'=s.at_) hm hB ⟨⟨w.drew,(Below.refl _ _).drew⟩,rfl⟩ ZP
theorem A9{f:FuncId}{args:Array Value}{w:World}{s:AE w}{v:Value}
 (h:Calls P f args s.at_ fun e w'=>e=.returned v∧Below s.at_.heap.size s.at_ w'):Calls P f args s.at_ fun e w''=>e=.returned v∧∃s':AE w,w''=s'.at_:=
 h.mono fun _ w' ⟨he,hb⟩=>⟨he,⟨w',s.below.trans (hb.mono s.below.size)⟩,rfl⟩
end
open Go.RowKit
structure Rp(α:Type) where
 r:(Nat→Prop)→World→List Value→α→Prop
 keep:∀{S:Nat→Prop} {w w':World} {cs:List Value} {x:α},r S w cs x→(∀b,S b→w'.heap[b]? =w.heap[b]?)→r S w' cs x
 mono:∀{S S':Nat→Prop} {w:World} {cs:List Value} {x:α},r S w cs x→(∀b,S b→S' b)→r S' w cs x
def Js(k:IntKind):Rp Int:=⟨fun _ _ cs n=>cs=[.int k n]∧(Lit.int k n).wf=true,fun h _=>h,fun h _=>h⟩
def Um:Rp UInt8:=⟨fun _ _ cs b=>cs=[.int .u8 (b.toNat:Int)],fun h _=>h,fun h _=>h⟩
def Hd{α β:Type}(A:Rp α)(B:Rp β):Rp (α × β):=
  ⟨fun S w cs x=>∃c d,cs=c++d∧A.r S w c x.1∧B.r S w d x.2,
   fun ⟨c,d,h,h1,h2⟩ hk=>⟨c,d,h,A.keep h1 hk,B.keep h2 hk⟩,fun ⟨c,d,h,h1,h2⟩ hk=>⟨c,d,h,A.mono h1 hk,B.mono h2 hk⟩⟩
def rBy{α β:Type}(f:α→β)(B:Rp β):Rp α:=⟨fun S w cs x=>B.r S w cs (f x),fun h hk=>B.keep h hk,fun h hk=>B.mono h hk⟩
def U2{α:Type}(sz:Nat)(A:Rp α)(S:Nat→Prop)(w:World)(b off:Nat)(xs:List α):Prop:=
 S b∧∀i x,xs[i]? =some x→∃cs:List Value,cs.length=sz∧(∀j v,cs[j]? =some v→w.cell? ⟨b,off+i*sz+j,none⟩=some v)∧A.r S w cs x
def rSl{α:Type}(sz:Nat)(A:Rp α):Rp (List α):=
  ⟨fun S w cs xs=>∃a c,cs=[.slice a xs.length c]∧xs.length≤c∧c≤maxLen∧(xs=[]∨∃b off,a=some ⟨b,off,none⟩∧U2 sz A S w b off xs),
   fun ⟨a,c,h,h1,h2,h3⟩ hk=>⟨a,c,h,h1,h2,h3.imp id fun ⟨b,off,e,hb,hr⟩=>⟨b,off,e,hb,fun i x hi=>
     let ⟨cs,hl,hc,hA⟩:=hr i x hi
     ⟨cs,hl,fun j v hj=>(AQ (a:=⟨b,off+i*sz+j,none⟩) (hk b hb)).trans (hc j v hj),A.keep hA hk⟩⟩⟩,
   fun ⟨a,c,h,h1,h2,h3⟩ hk=>⟨a,c,h,h1,h2,h3.imp id fun ⟨b,off,e,hb,hr⟩=>⟨b,off,e,hk b hb,fun i x hi=>
     let ⟨cs,hl,hc,hA⟩:=hr i x hi
     ⟨cs,hl,hc,A.mono hA hk⟩⟩⟩⟩
theorem BL{α:Type}{A:Rp α}{xs:List α}(h:cs=[.slice a xs.length c])(h1:xs.length≤c)(h2:c≤maxLen)
 (h3:xs=[]∨∃b off,a=some ⟨b,off,none⟩∧U2 sz A S w b off xs):(rSl sz A).r S w cs xs:=⟨a,c,h,h1,h2,h3⟩
theorem Po{α:Type}(n:Nat)(Q:Nat→α→Prop)(h:∀i,i<n→∃y,Q i y):∃ys:List α,ys.length=n∧∀i y,ys[i]? =some y→Q i y:=by
 induction n with
 | zero=>exact ⟨[],rfl,fun i y h=>by simp at h⟩
 | succ n ih=>
  obtain⟨ys,h1,h2⟩:=ih fun i hi=>h i zD;obtain⟨y,hy⟩:=h n zD;refine⟨ys++[y],by simp[h1],fun i z hz=> ?_⟩;rcases Be i ys.length with hi | hi
  ·rw[CE hi] at hz
   exact h2 i z hz
  ·rw[Cr hi] at hz
   have h0:i-ys.length=0:=by
    rcases CZ (i-ys.length) with h | h
    ·exact h
    ·rw[List.getElem?_eq_none zI] at hz;cases hz
   rw[h0] at hz;simp at hz;subst hz;have:i=n:=zD;subst this;exact hy
theorem Rp.below{α:Type}(A:Rp α){w w':World}{B:Nat}{cs:List Value}{x:α}(h:A.r (·<B) w cs x)(hb:Below B w w'):A.r (·<B) w' cs x:=A.keep h hb.block
section
variable {P:Program}
def Rv(P:Program)(t:TypeId){α:Type}(A:Rp α):Prop:=
 ∀{H:Type} (enc:TypeId × Value→H) (w:World) (fuel:Nat) (cs:List Value) (x:DataW H × List MemPlace),DataW.trod enc P w 0 (fun _=>true) true fuel t cs=some x→∃y,A.r (·<w.heap.size) w cs y
theorem Qf(ht:P.underlying t=some (.int .u8)):Rv P t Um:=fun enc w fuel cs x h=>by
 obtain⟨n,rfl,_,hw⟩:=DataW.trod_int ht h;have:=bounds_u8 hw;refine⟨UInt8.ofNat n.toNat,?_⟩;show _=_
 have e:((UInt8.ofNat n.toNat).toNat:Int)=n:=by
  simp[UInt8.toNat_ofNat'];omega
 rw[e]
theorem TL{a:Addr}{b:Nat}(h:w.cell? (a.add n)=some v):n=0→a.spot=none:=by
 rintro rfl;unfold Addr.add at h;simp only[Fs] at h;unfold World.cell? at h;cases hs:a.spot with
 | none=>rfl
 | some s=>
  rw[hs] at h;split at h<;>simp at h
theorem OK{α:Type}{A:Rp α}(ht:P.underlying t=some (.slice e))(hs:P.cellsOf e=sz)(hsz:0<sz)(hA:Rv P e A):Rv P t (rSl sz A):=fun enc w fuel cs x h=>by
 rcases Deep.open_slice ht h with ⟨rfl,rfl⟩ | ⟨a,len,cap,m,n,D,Pl,rfl,hb,hl,hm,hmm,_,hel⟩
 ·exact⟨[],BL rfl (Ap _) (At _) (.inl rfl)⟩
 ·have hlm:len≤m:=by simp at hmm;omega
  rw[hs] at hel;have hy:∀i,i<len→∃y,∃cs':List Value,cs'.length=sz∧(∀j v,cs'[j]? =some v→w.cell? ((a.add (i*sz)).add j)=some v)∧A.r (·<w.heap.size) w cs' y:=by
   intro i hi;obtain⟨cs',hc,ht'⟩:=hel i zD;obtain⟨y,hy⟩:=hA enc w n cs' _ ht';obtain⟨_,h1,h2⟩:=World.cells?_some hc;exact⟨y,cs',h1,fun j v hj=>by
    have hj':j<sz:=by rw[←h1];exact (List.getElem?_eq_some_iff.1 hj).1
    rw[h2 j hj'];exact hj,hy⟩
  by_cases h0:len=0
  ·subst h0
   exact⟨[],BL rfl (At _) hm (.inl rfl)⟩
  have hspot:a.spot=none:=by
   obtain⟨y,cs',h1,h2,_⟩:=hy 0 zD;obtain⟨v,hv⟩:∃v,cs'[0]? =some v:=⟨cs'[0],AM zD⟩;have:=h2 0 v hv;have e1:(a.add (0*sz)).add 0=a.add 0:=by simp[Addr.add]
   rw[e1] at this;exact TL (b:=0) this rfl
  obtain⟨ys,hys⟩:∃ys:List α,ys.length=len∧∀i y,ys[i]? =some y→∃cs':List Value,cs'.length=sz∧(∀j v,cs'[j]? =some v→w.cell? ((a.add (i*sz)).add j)=some v)∧A.r (·<w.heap.size) w cs' y:=by
   exact Po len _ hy
  obtain⟨hlen,hys⟩:=hys;refine⟨ys,BL (a:=some a) (c:=cap) (by rw[hlen]) zD hm (.inr ⟨a.block,a.off,by cases a;simp at hspot;rw[hspot],?_,?_⟩)⟩
  ·obtain⟨y,cs',h1,h2,_⟩:=hy 0 zD
   obtain⟨v,hv⟩:∃v,cs'[0]? =some v:=⟨cs'[0],AM zD⟩;have:=BV w _ (h2 0 v hv);simpa [Addr.add] using this
  ·intro i y hiy
   obtain⟨cs',h1,h2,h3⟩:=hys i y hiy;refine⟨cs',h1,fun j v hj=> ?_,h3⟩;rw[←h2 j v hj];congr 1
   cases a with
   | mk ab ao asp=>
    simp at hspot;subst hspot;unfold Addr.add;split<;>split<;>simp_all
end
open Go.RowKit
structure Ba where
 stream:Int
 backs:List Int
structure Entry where
 links:List Ba
 data:List UInt8
structure Batch where
 epoch:Int
 base:Int
 entries:List Entry
structure Seg where
 epoch:Int
 batches:List Batch
def Bw:Rp (List Int):=rSl 1 (Js .u64)
def Ag:Rp (List UInt8):=rSl 1 Um
def Jr:Rp Ba:=rBy (fun l=>(l.stream,l.backs)) (Hd (Js .u64) Bw)
def Cb:Rp (List Ba):=rSl 2 Jr
def NH:Rp Entry:=rBy (fun e=>(e.links,e.data)) (Hd Cb Ag)
def AW:Rp (List Entry):=rSl 2 NH
def Ff:Rp Batch:=rBy (fun b=>(b.epoch,b.base,b.entries)) (Hd (Js .u64) (Hd (Js .u64) AW))
def Bf:Rp (List Batch):=rSl 3 Ff
section
variable {S:Nat→Prop} {w:World} {cs:List Value}
theorem AJ{α:Type}{A:Rp α}{xs:List α}(h:(rSl sz A).r S w cs xs):∃a c,cs=[.slice a xs.length c]∧(rSl sz A).r S w [.slice a xs.length c] xs∧xs.length≤9223372036854775807:=by
 obtain⟨a,c,rfl,h1,h2,h3⟩:=h;exact⟨a,c,rfl,⟨a,c,rfl,h1,h2,h3⟩,by unfold maxLen at h2;omega⟩
theorem AH{α:Type}{A:Rp α}{xs:List α}(h:(rSl sz A).r S w [.slice a n c] xs):n=xs.length∧xs.length≤9223372036854775807∧n≤c∧c≤9223372036854775807:=by
 obtain⟨a',c',e,h1,h2,h3⟩:=h;simp at e;obtain⟨_,rfl,rfl⟩:=e;exact⟨rfl,by unfold maxLen at h2;omega,h1,h2⟩
theorem It{α:Type}{A:Rp α}{xs:List α}(h:(rSl sz A).r S w [.slice a n c] xs)(hi:i<xs.length):
  ∃b off,a=some ⟨b,off,none⟩∧S b∧∃cs:List Value,cs.length=sz∧(∀j v,cs[j]? =some v→w.cell? ⟨b,off+i*sz+j,none⟩=some v)∧A.r S w cs xs[i]:=by
 obtain⟨a',c',e,h1,h2,h3⟩:=h;simp at e;obtain⟨rfl,rfl,rfl⟩:=e;rcases h3 with rfl | ⟨b,off,rfl,hS,hr⟩
 ·simp at hi
 ·obtain⟨cs,hl,hc,hA⟩:=hr i xs[i] (AM hi)
  exact⟨b,off,rfl,hS,cs,hl,hc,hA⟩
theorem Qq{x:Ba}(h:Jr.r S w cs x):∃a c,cs=[.int .u64 x.stream,.slice a x.backs.length c]∧(0≤x.stream∧x.stream≤18446744073709551615)∧Bw.r S w [.slice a x.backs.length c] x.backs:=by
 obtain⟨c1,c2,rfl,⟨rfl,hw⟩,h2⟩:=h;obtain⟨a,c,rfl,h3,_⟩:=AJ h2;exact⟨a,c,rfl,bounds_u64 hw,h3⟩
theorem Pf{x:Entry}(h:NH.r S w cs x):∃a c a' c',cs=[.slice a x.links.length c,.slice a' x.data.length c']∧Cb.r S w [.slice a x.links.length c] x.links∧Ag.r S w [.slice a' x.data.length c'] x.data:=by
 obtain⟨c1,c2,rfl,h1,h2⟩:=h;obtain⟨a,c,rfl,h3,_⟩:=AJ h1;obtain⟨a',c',rfl,h4,_⟩:=AJ h2;exact⟨a,c,a',c',rfl,h3,h4⟩
theorem Pz{x:Batch}(h:Ff.r S w cs x):∃a c,cs=[.int .u64 x.epoch,.int .u64 x.base,.slice a x.entries.length c]∧(0≤x.epoch∧x.epoch≤18446744073709551615)∧(0≤x.base∧x.base≤18446744073709551615)∧AW.r S w [.slice a x.entries.length c] x.entries:=by
 obtain⟨c1,c2,rfl,⟨rfl,hw⟩,d1,d2,rfl,⟨rfl,hw2⟩,h2⟩:=h;obtain⟨a,c,rfl,h3,_⟩:=AJ h2;exact⟨a,c,rfl,bounds_u64 hw,bounds_u64 hw2,h3⟩
theorem JV{n:Int}(h:0≤n∧n≤18446744073709551615):(Lit.int .u64 n).wf=true:=by
 simp[Lit.wf,IntKind.min,IntKind.max,IntKind.signed,IntKind.bits];omega
theorem NS{x:Ba}(h0:0≤x.stream∧x.stream≤18446744073709551615)(h:Bw.r S w [.slice a n c] x.backs):Jr.r S w [.int .u64 x.stream,.slice a n c] x:=⟨[_],[_],rfl,⟨rfl,JV h0⟩,h⟩
theorem TI{x:Batch}(h0:0≤x.epoch∧x.epoch≤18446744073709551615)(h1:0≤x.base∧x.base≤18446744073709551615)(h:AW.r S w [v] x.entries):Ff.r S w [.int .u64 x.epoch,.int .u64 x.base,v] x:=
 ⟨[_],[_,_],rfl,⟨rfl,JV h0⟩,[_],[_],rfl,⟨rfl,JV h1⟩,h⟩
theorem FG{xs:List Int}(h:Bw.r S w [.slice a n c] xs)(hi:i<xs.length):∃b off,a=some ⟨b,off,none⟩∧S b∧w.cell? ⟨b,off+i,none⟩=some (.int .u64 xs[i])∧0≤xs[i]∧xs[i]≤18446744073709551615:=by
 obtain⟨b,off,e,hS,cs,_,hc,rfl,hw⟩:=It h hi;have:=hc 0 _ rfl;rw[DG,CR] at this;exact⟨b,off,e,hS,this,bounds_u64 hw⟩
theorem BJ{xs:List UInt8}(h:Ag.r S w [.slice a n c] xs)(hi:i<xs.length):∃b off,a=some ⟨b,off,none⟩∧S b∧w.cell? ⟨b,off+i,none⟩=some (.int .u8 (xs[i].toNat:Int)):=by
 obtain⟨b,off,e,hS,cs,_,hc,rfl⟩:=It h hi;have:=hc 0 _ rfl;rw[DG,CR] at this;exact⟨b,off,e,hS,this⟩
theorem DN{xs:List Ba}(h:Cb.r S w [.slice a n c] xs)(hi:i<xs.length):∃b off,a=some ⟨b,off,none⟩∧S b∧∃a' c',w.cell? ⟨b,off+i*2,none⟩=some (.int .u64 xs[i].stream)∧w.cell? ⟨b,off+i*2+1,none⟩=some (.slice a' xs[i].backs.length c')∧
  (0≤xs[i].stream∧xs[i].stream≤18446744073709551615)∧Bw.r S w [.slice a' xs[i].backs.length c'] xs[i].backs:=by
 obtain⟨b,off,e,hS,cs,_,hc,hA⟩:=It h hi;obtain⟨a',c',rfl,h1,h2⟩:=Qq hA;exact⟨b,off,e,hS,a',c',hc 0 _ rfl,hc 1 _ rfl,h1,h2⟩
theorem Eh{xs:List Entry}(h:AW.r S w [.slice a n c] xs)(hi:i<xs.length):∃b off,a=some ⟨b,off,none⟩∧S b∧∃a1 c1 a2 c2,w.cell? ⟨b,off+i*2,none⟩=some (.slice a1 xs[i].links.length c1)∧w.cell? ⟨b,off+i*2+1,none⟩=some (.slice a2 xs[i].data.length c2)∧
  Cb.r S w [.slice a1 xs[i].links.length c1] xs[i].links∧Ag.r S w [.slice a2 xs[i].data.length c2] xs[i].data:=by
 obtain⟨b,off,e,hS,cs,_,hc,hA⟩:=It h hi;obtain⟨a1,c1,a2,c2,rfl,h1,h2⟩:=Pf hA;exact⟨b,off,e,hS,a1,c1,a2,c2,hc 0 _ rfl,hc 1 _ rfl,h1,h2⟩
theorem F3{xs:List Batch}(h:Bf.r S w [.slice a n c] xs)(hi:i<xs.length):∃b off,a=some ⟨b,off,none⟩∧S b∧∃a' c',w.cell? ⟨b,off+i*3,none⟩=some (.int .u64 xs[i].epoch)∧w.cell? ⟨b,off+i*3+1,none⟩=some (.int .u64 xs[i].base)∧w.cell? ⟨b,off+i*3+2,none⟩=some (.slice a' xs[i].entries.length c')∧
  (0≤xs[i].epoch∧xs[i].epoch≤18446744073709551615)∧(0≤xs[i].base∧xs[i].base≤18446744073709551615)∧AW.r S w [.slice a' xs[i].entries.length c'] xs[i].entries:=by
 obtain⟨b,off,e,hS,cs,_,hc,hA⟩:=It h hi;obtain⟨a',c',rfl,h1,h2,h3⟩:=Pz hA;exact⟨b,off,e,hS,a',c',hc 0 _ rfl,hc 1 _ rfl,hc 2 _ rfl,h1,h2,h3⟩
end
theorem lift{α:Type}{A:Rp α}{x:α}(h:A.r (·<w.heap.size) w cs x)(hb:Below w.heap.size w w'):A.r (·<w'.heap.size) w' cs x:=
 A.mono (A.below h hb) fun b hlt=>Ao hlt hb.size
def epR(e:Int):Bool:=decide (1≤e∧e<4611686018427387904)
def poR(e:Int):Bool:=decide (e<4611686018427387904)
def BP:Int→List Int→Bool
 | _,[]=>true
 | b,x::l=>decide (x<b)&&BP x l
def Dn:List Int→Bool
 | []=>true
 | [_]=>true
 | x::y::l=>decide (x<y)&&Dn (y::l)
def CD(pos:Int)(x:Ba):Bool:=decide (x.backs.length≤4)&&BP pos x.backs
def BY(pos:Int)(l:List Ba):Bool:=decide (l.length≤16)&&(Dn (l.map Ba.stream)&&l.all (CD pos))
def Dq(pos:Int)(e:Entry):Bool:=BY pos e.links&&decide (e.data.length≤1048576)
def total(l:List Entry):Nat:=(l.map fun e=>e.data.length).sum
def Cc:Int→List Entry→Bool
 | _,[]=>true
 | p,e::l=>Dq p e&&Cc (p+1) l
def Dc(base:Int)(n:Nat):Bool:=decide (1≤n∧n≤16∧base<4611686018427387904∧base+n≤4611686018427387904)
def A4(b:Batch):Bool:=epR b.epoch&&(Dc b.base b.entries.length&&(decide (total b.entries≤1048576)&&Cc b.base b.entries))
end Go.Bs
namespace Go.Proofs.YtfddhafbhceoaaaGreat
open Go.RowKit Go.Bs
variable{base c k n sz:Nat}{S:Nat → Prop}{a:Option Addr}{e:TypeId}{v:Value}{w:World}
theorem DW(e:Int)(w:World):Calls Tryz.prog 142 #[.int .u64 e] w fun r w'=>r=.returned (.bool (epR e))∧w=w':=by
 by_cases h1:1≤e
 ·by_cases h2:e<4611686018427387904
  ·have:epR e=true:=by simp[epR,h1,h2]
   rw[this];have d1:decide (1≤e)=true:=zAh;have d2:decide (e<4611686018427387904)=true:=zAu;clear this h1 h2;go_enter Tryz.func142,Tryz.ntmps142;go_wp2;go_ret;exact⟨rfl,rfl⟩
  ·have:epR e=false:=by simp[epR,h2]
   rw[this];have d1:decide (1≤e)=true:=zAh;have d2:decide (e<4611686018427387904)=false:=zAu;clear this h1 h2;go_enter Tryz.func142,Tryz.ntmps142;go_wp2;go_ret;exact⟨rfl,rfl⟩
 ·have:epR e=false:=by simp[epR,h1]
  rw[this];have d1:decide (1≤e)=false:=zAh;clear this h1;go_enter Tryz.func142,Tryz.ntmps142;go_wp2;go_ret;exact⟨rfl,rfl⟩
theorem GA(e:Int)(w:World):Calls Tryz.prog 256 #[.int .u64 e] w fun r w'=>r=.returned (.bool (poR e))∧w=w':=by
 go_enter Tryz.func256,Tryz.ntmps256;go_wp2;go_ret;exact⟨rfl,rfl⟩
theorem Kv(e:Int)(h0:0≤e)(w:World):Calls Tryz.prog 89 #[.int .u64 e] w fun r w'=>r=.returned (.bool (epR e))∧w=w':=by
 by_cases h1:0<e
 ·by_cases h2:e≤4611686018427387903
  ·have:epR e=true:=by simp[epR];omega
   rw[this];have d1:decide (0<e)=true:=zAh;have d2:decide (e≤4611686018427387903)=true:=zAu;clear this h1 h2;go_enter Tryz.func89,Tryz.ntmps89;go_wp2;go_ret;exact⟨rfl,rfl⟩
  ·have:epR e=false:=by simp[epR];omega
   rw[this];have d1:decide (0<e)=true:=zAh;have d2:decide (e≤4611686018427387903)=false:=zAu;clear this h1 h2;go_enter Tryz.func89,Tryz.ntmps89;go_wp2;go_ret;exact⟨rfl,rfl⟩
 ·have:epR e=false:=by simp[epR];omega
  rw[this];have d1:decide (0<e)=false:=zAh;clear this h1;go_enter Tryz.func89,Tryz.ntmps89;go_wp2;go_ret;exact⟨rfl,rfl⟩
theorem MQ(e:Int)(w:World):Calls Tryz.prog 208 #[.int .u64 e] w fun r w'=>r=.returned (.bool (poR e))∧w=w':=by
 have:poR e=decide (e≤4611686018427387903):=by simp only[poR,decide_eq_decide];omega
 rw[this];clear this;go_enter Tryz.func208,Tryz.ntmps208;go_wp2;go_ret;exact⟨rfl,rfl⟩
theorem Rh:(Tryz.prog.info? 36).map (fun i=>(i.zero,i.size,i.bytes))=some (some (.int .u64 0),1,8):=zJ
def BX:Int→List Int→List Int
 | _,[]=>[]
 | b,x::l=>(b-x-1)::BX x l
def ahead(b:Int)(l:List Int)(k:Nat):Int:=if k=0 then b else l.getD (k-1) 0
theorem ahead_zero(b:Int)(l:List Int):ahead b l 0=b:=rfl
theorem GU(b:Int)(l:List Int)(k:Nat)(h:k<l.length):ahead b l (k+1)=l[k]:=by
 unfold ahead;rw[Ah zD];simp[h]
def TM(below:Int)(l:List Int)(w:World)(e:Ending)(w':World):Prop:=
 ∃v,e=.returned (.tuple #[v,.bool (BP below l)])∧Bw.r (·<w'.heap.size) w' [v] (if BP below l then BX below l else [])∧Below w.heap.size w w'
theorem Ta{xs:List Int}(h:w.ownsRow base e 1 v xs.length (xs.map (Value.int .u64)))(hb:∀x∈xs,0≤x∧x≤18446744073709551615)(hm:xs.length≤maxLen):Bw.r (·<w.heap.size) w [v] xs:=by
 rcases h.2 with ⟨rfl,h0⟩ | ⟨g,cap,cur,rfl,hbg,hg,hn,hc,hcur,hx⟩
 ·have:xs=[]:=AS h0
  subst this;exact BL rfl (Ap _) (At _) (.inl rfl)
 ·refine BL rfl hn hc (.inr ⟨g,0,rfl,Blk.lt hg,fun i x hi=>⟨[.int .u64 x],rfl,fun j v hj=> ?_,rfl,JV (hb x (List.mem_of_getElem? hi))⟩⟩)
  have hj0:j=0:=by
   rcases j with _ | j
   ·rfl
   ·simp at hj
  subst hj0;simp at hj;subst hj;have hi':i<xs.length:=(List.getElem?_eq_some_iff.1 hi).1;rw[Bj,DG,CR,Blk.cell hg i];have e1:cur[i]? =(cur.toList.take (xs.length*1))[i]? :=by
   rw[Du,Ai zD];simp
  rw[e1,hx,DP,hi];rfl
theorem RH(below:Int)(l:List Int)(a:Option Addr)(n c:Nat)(w:World)(hb0:0≤below∧below≤18446744073709551615)(hl:Bw.r (·<w.heap.size) w [.slice a n c] l)(hlen:l.length≤1000000000000):
  Calls Tryz.prog 356 #[.int .u64 below,.slice a n c] w (TM below l w):=by
 obtain⟨rfl,hm,_,_⟩:=AH hl;obtain⟨i0,hi,hz0,hz1,hz2⟩:=A1 Rh;have HL:=hid hl;clear hl;go_enter Tryz.func356,Tryz.ntmps356;go_wp2;go_loopw [0,6,11] (fun b v i wr=>∃k:Nat,k≤l.length∧i=.int .i64 k∧b=.int .u64 (ahead below l k)∧0≤ahead below l k∧ahead below l k≤18446744073709551615∧Hid (BP below l=BP (ahead below l k) (l.drop k))∧
   (∃xs:List Int,Hid (xs.length=k∧(∀x∈xs,0≤x∧x≤18446744073709551615)∧BX below l=xs++BX (ahead below l k) (l.drop k))∧wr.ownsRow w.heap.size 36 1 v k (xs.map (Value.int .u64)))∧Below w.heap.size w wr) (fun _ _ i _=>l.length-(intOf i).toNat)
 case atStart=>exact ⟨0,At _,rfl,rfl,hb0.1,hb0.2,hid rfl,⟨[],hid ⟨rfl,zQ,rfl⟩,⟨rfl,.inl ⟨rfl,rfl⟩⟩⟩,Below.refl _ _⟩
 case round=>
  obtain⟨k,hk,rfl,rfl,ha0,ha1,hf,⟨xs,hxs,hown⟩,hb⟩:=hrel;by_cases hlt:k<l.length
  ·obtain⟨b,o,hA,hbb,hc,hx0,hx1⟩:=FG HL.out hlt
   subst hA;have q:=(hb.cell (p:=⟨b,o+k,none⟩) hbb).trans hc;clear hc;have hd:=hid (AD hlt);have hsu:=hid (GU below l k hlt);generalize hlk:l[k]=x at*;clear hlk;generalize ahead below l k=p at*;by_cases hge:p≤x
   ·have hff:Hid (BP below l=false):=by
     rw[hf.out,hd.out];exact hid zA6
    go_wp2;go_ret2
    exact⟨.slice none 0 0,zK,zAw,hb⟩
   ·have hbs:=hb.size
    have w1:0≤p-x:=zD;have w2:0≤p-x-1:=zD;go_wp2_with (at_builtin;refine wpList_append_lies _ rfl _ _ _ rfl w.heap.size 36 i0 (.int .u64 0) 1 8 JQ hi hz0 hz1 hz2 rfl zO _ k _ rfl (hown.alloc _) ⟨wr.heap.size,0,none⟩ 1 1 [.int .u64 (p-x-1)] rfl rfl (World.news_of_block (Blk.new _ _ _)) zAj zO zN zD zI _ rfl ?_;intro g1 cap1 w1' hown1 hgrow1 hat1 hlt1)
    go_roundw
    case rel=>
     refine⟨k+1,zD,zT,by rw[hsu.out],by rw[hsu.out];exact hx0,by rw[hsu.out];exact hx1,?_,⟨xs++[p-x-1],?_,?_⟩,?_⟩
     ·rw[hf.out,hd.out,hsu.out]
      exact hid zBn
     ·refine hid ⟨by simp[hxs.out.1],?_,?_⟩
      ·intro y hy
       rw[F5,C3] at hy;rcases hy with hy | rfl
       ·exact hxs.out.2.1 y hy
       ·omega
      ·rw[hsu.out,hxs.out.2.2,hd.out]
       simp[BX]
     ·rw[Cs];exact hown1
     ·refine Below.grown ?_ hgrow1 zI (fun g e=>(hown.lt g e).1)
      exact hb.alloc hbs _
    case measure=>simp [intOf];omega
  ·obtain rfl:k=l.length:=by omega
   have hff:Hid (BP below l=true):=by
    rw[hf.out,Cy];exact hid rfl
   have hxl:=hxs.out.1;have hst:Hid (BX below l=xs):=hid zB4;have hv:Bw.r (·<wr.heap.size) wr [u6] xs:=Ta (by rw[hxl];exact hown) hxs.out.2.1 (by unfold maxLen;omega);have HV:=hid hv;clear hv hxl;go_wp2;go_ret2
   exact⟨u6,zK,zB5,hb⟩
theorem Pj(below:Int)(l:List Int)(a:Option Addr)(n c:Nat)(w:World)(hb0:0≤below∧below≤18446744073709551615)(hl:Bw.r (·<w.heap.size) w [.slice a n c] l)(hlen:l.length≤1000000000000):
  Calls Tryz.prog 336 #[.int .u64 below,.slice a n c] w fun r w'=>r=.returned (.bool (BP below l))∧Below w.heap.size w w':=by
 have HL:=hid hl;clear hl;go_enter Tryz.func336,Tryz.ntmps336;go_wp2_with fail;refine (RH below l a n c _ hb0 HL.out hlen).mono ?_;rintro e w1 ⟨v,rfl,_,hb1⟩;go_wp2;go_ret;exact⟨rfl,hb1⟩
theorem OD(below:Int)(l:List Int)(a:Option Addr)(n c:Nat)(w:World)(hl:Bw.r (·<w.heap.size) w [.slice a n c] l):
  Calls Tryz.prog 284 #[.int .u64 below,.slice a n c] w fun r w'=>r=.returned (.bool (BP below l))∧Below w.heap.size w w':=by
 obtain⟨rfl,hm,_,_⟩:=AH hl;have HL:=hid hl;clear hl;go_enter Tryz.func284,Tryz.ntmps284;go_wp2;go_loopw [5] (fun i wr=>∃k:Nat,k≤l.length∧i=.int .i64 k∧Hid (BP below l=BP (ahead below l k) (l.drop k))∧Below w.heap.size w wr) (fun i _=>l.length-(intOf i).toNat)
 case atStart=>exact ⟨0,At _,rfl,hid rfl,Below.refl _ _⟩
 case round=>
  obtain⟨k,hk,rfl,hf,hb⟩:=hrel;by_cases hlt:k<l.length
  ·obtain⟨b,o,hA,hbb,hc,hx0,hx1⟩:=FG HL.out hlt
   have hd:=hid (AD hlt);have hsu:=hid (GU below l k hlt);have hlt':(k:Int)<(l.length:Int):=zD;rcases k with _ | m
   ·subst hA
    have X0:=fun s:AE wr=>s.cell ((hb.cell (p:=⟨b,o+0,none⟩) hbb).trans hc);simp only[CR] at X0;clear hc;generalize hlk:l[0]=x at*;clear hlk;rw[ahead_zero] at hf;by_cases hge:below≤x
    ·have d1:decide (below≤x)=true:=by simpa using hge
     have hff:Hid (BP below l=false):=by
      rw[hf.out,hd.out];exact hid zA6
     clear hge;go_wp2_with fail;refine Ax zJ zJ ?_;repeat (go_big_quiet_step (fail))
     refine AI ?_;rintro W5 ⟨⟨W5',hb5⟩,rfl⟩;go_wp2;go_ret;exact⟨zK,Af hb5 hb⟩
    ·have d1:decide (below≤x)=false:=by simpa using hge
     clear hge;have hlt2:x<below:=by simpa using d1
     go_wp2_with fail;refine Ax zJ zJ ?_;repeat (go_big_quiet_step (fail))
     refine AI ?_;rintro W5 ⟨⟨W5',hb5⟩,rfl⟩;go_wp2;go_roundw
     case rel=>
      refine⟨1,zD,rfl,?_,Af hb5 hb⟩;rw[hsu.out,hf.out,hd.out];exact hid zB3
     case measure=>simp [intOf];omega
   ·obtain⟨b',o',hA',hbb',hc',_,_⟩:=FG HL.out (show m<l.length by omega)
    have hp:=hid (GU below l m zD);subst hA;obtain⟨rfl,rfl⟩:b'=b∧o'=o:=zAe;clear hA';have X0:=fun s:AE wr=>s.cell ((hb.cell (p:=⟨b',o'+(m+1),none⟩) hbb).trans hc);have X1:=fun s:AE wr=>s.cell ((hb.cell (p:=⟨b',o'+m,none⟩) hbb).trans hc');clear hc hc';generalize hlk:l[m+1]=x at*;generalize hlm:l[m]=y at*;clear hlk hlm;rw[hp.out] at hf;rw[show ((m+1:Nat):Int)=(m:Int)+1 from zD];have k0:((m:Int)+1==0)=false:=zI;have k1:(0:Int)<(m:Int)+1:=zD;have k2:(0:Int)≤(m:Int)+1-1:=zD;have k3:(m:Int)+1<(l.length:Int):=zD;by_cases hge:y≤x
    ·have d1:decide (y≤x)=true:=by simpa using hge
     have hff:Hid (BP below l=false):=by
      rw[hf.out,hd.out];exact hid zA6
     clear hge;go_wp2_with fail;refine Ax zJ zJ ?_;repeat (go_big_quiet_step (fail))
     refine AI ?_;rintro W5 ⟨⟨W5',hb5⟩,rfl⟩;go_wp2;go_ret;exact⟨zK,Af hb5 hb⟩
    ·have d1:decide (y≤x)=false:=by simpa using hge
     clear hge;have hlt2:x<y:=by simpa using d1
     go_wp2_with fail;refine Ax zJ zJ ?_;repeat (go_big_quiet_step (fail))
     refine AI ?_;rintro W5 ⟨⟨W5',hb5⟩,rfl⟩;go_wp2;go_roundw
     case rel=>
      refine⟨m+1+1,zD,zT,?_,Af hb5 hb⟩;rw[hsu.out,hf.out,hd.out];exact hid zB3
     case measure=>simp [intOf];omega
  ·obtain rfl:k=l.length:=by omega
   have hff:Hid (BP below l=true):=by
    rw[hf.out,Cy];exact hid rfl
   go_wp2;go_ret;exact⟨zK,hb⟩
end Go.Proofs.YtfddhafbhceoaaaGreat
namespace Go.Bs
open Go.RowKit
variable{l:List UInt8}{cs:List Value}{base c g i n o sz:Nat}{S:Nat → Prop}{a:Option Addr}{e t:TypeId}{v:Value}{W w w' w1:World}
deriving instance DecidableEq for Ba,Entry,Batch,Seg
theorem FC{P:Program}(src dst e:TypeId)(hs:P.underlying src=some (.slice e))(he:P.underlying e=some (.int .u8))(hd:P.underlying dst=some .string)
 (h:Ag.r S w [.slice a n c] l):(convert src dst (.slice a l.length c)).run P w=.ok (.string ⟨l.toArray⟩) w:=by
 obtain⟨rfl,_,_,_⟩:=AH h;rcases a with _ | ad
 ·have h0:l=[]:=by
   rcases l with _ | ⟨x,l⟩
   ·rfl
   ·obtain⟨b,off,e,_⟩:=BJ h (i:=0) zQ
    cases e
  subst h0;exact run_convert_bytes_nil w src e hs he _ _ dst hd
 ·refine run_convert_bytes_back w src dst e ad c l hs he hd fun j hj=> ?_
  obtain⟨b,off,e,_,hc⟩:=BJ h hj;simp at e;subst e;rw[←hc];congr 1
  unfold Addr.add;split
  ·rename_i h0;subst h0;rfl
  ·rfl
end Go.Bs
namespace Go.Proofs.YtfddhafbhceoaaaGreat
open Go.RowKit Go.Bs
variable{base c k n sz:Nat}{S:Nat → Prop}{a:Option Addr}{e:TypeId}{v:Value}{w:World}
theorem IQ(x y:List UInt8)(a a':Option Addr)(n c n' c':Nat)(w:World)(hx:Ag.r (·<w.heap.size) w [.slice a n c] x)(hy:Ag.r (·<w.heap.size) w [.slice a' n' c'] y):
  Calls Tryz.prog 24 #[.slice a n c,.slice a' n' c'] w fun r w'=>r=.returned (.bool (decide (x=y)))∧w=w':=by
 obtain⟨rfl,_,_,_⟩:=AH hx;obtain⟨rfl,_,_,_⟩:=AH hy;have h1:=FC (P:=Tryz.prog) 22 9 5 AG E9 GV hx;have h2:=FC (P:=Tryz.prog) 22 9 5 AG E9 GV hy;have he:(x==y)=decide (x=y):=by
  by_cases h:x=y
  ·simp[h]
  ·simp[h]
 have HE:=hid he;clear he hx hy;go_enter Tryz.func24,Tryz.ntmps24;go_wp2;go_ret;refine⟨?_,rfl⟩;rw[←HE.out];simp[go_sem]
theorem Fo{α:Type}[DecidableEq α](x y:List α)(k:Nat)(hx:k<x.length)(hy:k<y.length):decide (x.drop k=y.drop k)=(decide (x[k]=y[k])&&decide (x.drop (k+1)=y.drop (k+1))):=by
 rw[AD hx,AD hy,Bool.eq_iff_iff,decide_eq_true_iff,Aq,decide_eq_true_iff,decide_eq_true_iff,As]
theorem RO(x y:List Int)(a a':Option Addr)(n c n' c':Nat)(w:World)(hx:Bw.r (·<w.heap.size) w [.slice a n c] x)(hy:Bw.r (·<w.heap.size) w [.slice a' n' c'] y):
  Calls Tryz.prog 105 #[.slice a n c,.slice a' n' c'] w fun r w'=>r=.returned (.bool (decide (x=y)))∧Below w.heap.size w w':=by
 obtain⟨rfl,hm,_,_⟩:=AH hx;obtain⟨rfl,hm',_,_⟩:=AH hy;by_cases hl:x.length=y.length
 ·have HX:=hid hx;clear hx
  have HY:=hid hy;clear hy;have HL:=hid hl;have e1:((x.length:Int) !=(y.length:Int))=false:=by simp[hl]
  clear hl;go_enter Tryz.func105,Tryz.ntmps105;go_wp2;go_loopw [5] (fun i wr=>∃k:Nat,k≤x.length∧i=.int .i64 k∧Hid (decide (x=y)=decide (x.drop k=y.drop k))∧Below w.heap.size w wr) (fun i _=>x.length-(intOf i).toNat)
  case atStart=>exact ⟨0,At _,rfl,hid rfl,Below.refl _ _⟩
  case round=>
   obtain⟨k,hk,rfl,hf,hb⟩:=hrel;by_cases hlt:k<x.length
   ·have hlt':k<y.length:=by rw[←HL.out];exact hlt
    obtain⟨b,o,hA,hbb,hc,_,_⟩:=FG HX.out hlt;obtain⟨b',o',hA',hbb',hc',_,_⟩:=FG HY.out hlt';have hst:=hid (Fo x y k hlt hlt');subst hA hA';have X0:=fun s:AE wr=>s.cell ((hb.cell (p:=⟨b,o+k,none⟩) hbb).trans hc);have X1:=fun s:AE wr=>s.cell ((hb.cell (p:=⟨b',o'+k,none⟩) hbb').trans hc');clear hc hc';generalize hlk:x[k]=u at*;generalize hlm:y[k]=v at*;clear hlk hlm;have i0:(0:Int)≤(k:Int):=zD;have i1:(k:Int)<(x.length:Int):=zD;have i2:(k:Int)<(y.length:Int):=zD;by_cases huv:u=v
    ·have d1:(u !=v)=false:=by simp[huv]
     have hst':Hid (decide (x.drop k=y.drop k)=decide (x.drop (k+1)=y.drop (k+1))):=hid zAv;clear huv;go_wp2_with fail;refine Ax zJ zJ ?_;repeat (go_big_quiet_step (fail))
     refine AI ?_;rintro W5 ⟨⟨W5',hb5⟩,rfl⟩;go_wp2;go_roundw
     case rel=>exact ⟨k+1,zD,zT,hid zAk,Af hb5 hb⟩
     case measure=>simp [intOf];omega
    ·have d1:(u !=v)=true:=by simp[huv]
     have hff:Hid (decide (x=y)=false):=hid zAd;clear huv;go_wp2_with fail;refine Ax zJ zJ ?_;repeat (go_big_quiet_step (fail))
     refine AI ?_;rintro W5 ⟨⟨W5',hb5⟩,rfl⟩;go_wp2;go_ret;exact⟨zK,Af hb5 hb⟩
   ·obtain rfl:k=x.length:=by omega
    have hff:Hid (decide (x=y)=true):=hid zW;go_wp2;go_ret;exact⟨zK,hb⟩
 ·have hff:Hid (decide (x=y)=false):=hid zA8
  have e1:((x.length:Int) !=(y.length:Int))=true:=zI;clear hl hx hy;go_enter Tryz.func105,Tryz.ntmps105;go_wp2;go_ret;exact⟨zK,Below.refl _ _⟩
def Dy(l:List Int)(k:Nat):Bool:=if k=0 then Dn l else Dn (l.drop (k-1))
theorem Ks(l:List Int):Dy l 1=Dy l 0:=by simp[Dy]
theorem Jp(l:List Int)(m:Nat)(h:m+1<l.length):Dy l (m+1)=(decide (l[m]<l[m+1])&&Dy l (m+2)):=by
 have e1:l.drop m=l[m]::l[m+1]::l.drop (m+2):=by
  rw[AD (show m<l.length by omega),AD h]
 have e2:l.drop (m+1)=l[m+1]::l.drop (m+2):=AD h;show Dn (l.drop m)=(_&&Dn (l.drop (m+1)))
 rw[e1,e2];rfl
theorem Kt(l:List Int):Dy l l.length=true:=by
 unfold Dy;split
 ·rename_i h;rw[AS h];rfl
 ·rename_i h
  have e:l.drop (l.length-1)=[l[l.length-1]]:=by
   rw[AD (show l.length-1<l.length by omega),List.drop_of_length_le zD]
  rw[e];rfl
theorem KB(s:Int)(v:Value)(h1:v.oneCell'=true)(w:World):Calls Tryz.prog 334 #[.agg #[.int .u64 s,v]] w fun r w'=>r=.returned (.int .u64 s)∧Below w.heap.size w w':=by
 go_enter Tryz.func334,Tryz.ntmps334;go_wp2;go_ret;exact⟨rfl,zB⟩
theorem Qn(l:List Ba)(a:Option Addr)(n c:Nat)(w:World)(hl:Cb.r (·<w.heap.size) w [.slice a n c] l):
  Calls Tryz.prog 333 #[.slice a n c,.func (.func 334) #[] #[]] w fun r w'=>r=.returned (.bool (Dn (l.map Ba.stream)))∧Below w.heap.size w w':=by
 obtain⟨rfl,hm,_,_⟩:=AH hl;have HL:=hid hl;clear hl;go_enter Tryz.func333,Tryz.ntmps333;go_wp2;go_loopw [8] (fun i wr=>∃k:Nat,k≤l.length∧i=.int .i64 k∧Hid (Dn (l.map Ba.stream)=Dy (l.map Ba.stream) k)∧Below w.heap.size w wr) (fun i _=>l.length-(intOf i).toNat)
 case atStart=>exact ⟨0,At _,rfl,hid rfl,Below.refl _ _⟩
 case round=>
  obtain⟨k,hk,rfl,hf,hb⟩:=hrel;by_cases hlt:k<l.length
  ·obtain⟨b,o,hA,hbb,a1,c1,hc0,hc1,_,_⟩:=DN HL.out hlt
   have hlt':(k:Int)<(l.length:Int):=zD;rcases k with _ | m
   ·have h1:=hid (Ks (l.map Ba.stream))
    go_wp2_with fail;refine Ax zJ zJ ?_;repeat (go_big_quiet_step (fail))
    refine AI ?_;rintro W5 ⟨⟨W5',hb5⟩,rfl⟩;go_wp2;go_roundw
    case rel=>exact ⟨1,zD,rfl,hid (by rw[hf.out,h1.out]),Af hb5 hb⟩
    case measure=>simp [intOf];omega
   ·obtain⟨b',o',hA',hbb',a2,c2,hd0,hd1,_,_⟩:=DN HL.out (show m<l.length by omega)
    have hst:=hid (Jp (l.map Ba.stream) m zAn);subst hA;obtain⟨rfl,rfl⟩:b'=b∧o'=o:=zAe;clear hA';have X0:=fun s:AE wr=>s.cell ((hb.cell (p:=⟨b',o'+(m+1)*2,none⟩) hbb).trans hc0);have X1:=fun s:AE wr=>s.cell ((hb.cell (p:=⟨b',o'+(m+1)*2+1,none⟩) hbb).trans hc1);have Y0:=fun s:AE wr=>s.cell ((hb.cell (p:=⟨b',o'+m*2,none⟩) hbb).trans hd0);have Y1:=fun s:AE wr=>s.cell ((hb.cell (p:=⟨b',o'+m*2+1,none⟩) hbb).trans hd1);clear hc0 hc1 hd0 hd1;simp only[List.getElem_map] at hst;generalize l[m+1].stream=x at*;generalize l[m].stream=y at*;generalize l[m+1].backs.length=n1 at*;generalize l[m].backs.length=n2 at*;rw[show ((m+1:Nat):Int)=(m:Int)+1 from zD];have k1:(0:Int)<(m:Int)+1:=zD;have k2:(0:Int)≤(m:Int)+1-1:=zD;have k3:(m:Int)+1<(l.length:Int):=zD;have k4:(m:Int)<(l.length:Int):=zD;by_cases hge:x≤y
    ·have d1:decide (x≤y)=true:=by simpa using hge
     have hff:Hid (Dn (l.map Ba.stream)=false):=hid (by rw[hf.out,hst.out];simp;omega);clear hge;go_wp2_with fail;refine Ax zJ zJ ?_;repeat (go_big_quiet_step (((go_at_call 334;exact A9 (KB _ _ rfl _)))))
     refine AI ?_;rintro W5 ⟨⟨W5',hb5⟩,rfl⟩;go_wp2;go_ret;exact⟨zK,Af hb5 hb⟩
    ·have d1:decide (x≤y)=false:=by simpa using hge
     have hst':Hid (Dy (l.map Ba.stream) (m+1)=Dy (l.map Ba.stream) (m+2)):=hid (by rw[hst.out,Ad (by omega)];rfl);clear hge;go_wp2_with fail;refine Ax zJ zJ ?_;repeat (go_big_quiet_step (((go_at_call 334;exact A9 (KB _ _ rfl _)))))
     refine AI ?_;rintro W5 ⟨⟨W5',hb5⟩,rfl⟩;go_wp2;go_roundw
     case rel=>exact ⟨m+2,zD,zT,hid zAk,Af hb5 hb⟩
     case measure=>simp [intOf];omega
  ·obtain rfl:k=l.length:=by omega
   have hff:Hid (Dn (l.map Ba.stream)=true):=hid (by
    have:=Kt (l.map Ba.stream);rw[List.length_map] at this;rw[hf.out,this])
   go_wp2;go_ret;exact⟨zK,hb⟩
theorem Qm(pos:Int)(x:Ba)(a:Option Addr)(n c:Nat)(blk:Nat)(w:World)(hpos:0≤pos∧pos≤18446744073709551615)(hx:Bw.r (·<w.heap.size) w [.slice a n c] x.backs)(hlen:x.backs.length≤1000000000000)
 (hc:w.cell? ⟨blk,0,none⟩=some (.int .u64 pos)):
  Calls Tryz.prog 335 #[.agg #[.int .u64 x.stream,.slice a n c],.pointer (some ⟨blk,0,none⟩)] w fun r w'=>r=.returned (.bool (!CD pos x))∧Below w.heap.size w w':=by
 obtain⟨rfl,hm,_,_⟩:=AH hx;have hlt:=BV w _ hc;have X0:=(AE.mk _ ((Below.refl w.heap.size w).alloc (Ap _) (.cells #[.int .u64 x.stream,.slice a x.backs.length c] 215))).cell hc;by_cases h4:4<x.backs.length
 ·have hff:CD pos x=false:=by simp[CD];omega
  rw[hff];clear hff hx hc;go_enter Tryz.func335,Tryz.ntmps335;go_wp2;go_ret;exact⟨rfl,zB⟩
 ·have hff:CD pos x=BP pos x.backs:=by simp only[CD];rw[Ad zD];rfl
  rw[hff];have d4:decide (4<(x.backs.length:Int))=false:=zI;have HX:=hid hx;clear hx hff;go_enter Tryz.func335,Tryz.ntmps335;go_wp2_with fail;refine (Pj pos x.backs _ _ _ _ hpos (lift HX.out zB) hlen).mono ?_;rintro e w1 ⟨rfl,hb1⟩;go_wp2;go_ret;exact⟨rfl,zB⟩
theorem Lp{α:Type}(p:α→Bool)(l:List α)(k:Nat)(h:k<l.length):(l.drop k).takeWhile p=if p l[k] then l[k]::(l.drop (k+1)).takeWhile p else []:=by
 rw[AD h,List.takeWhile_cons]
theorem Mx{α:Type}(p:α→Bool)(l:List α):decide ((l.takeWhile p).length=l.length)=l.all p:=by
 induction l with
 | nil=>rfl
 | cons x l ih=>
  rw[List.takeWhile_cons,List.all_cons];cases h:p x
  ·simp
  ·simp only[Fs,AL,Nat.add_right_cancel_iff,D7];exact ih
theorem Qo(pos:Int)(l:List Ba)(a:Option Addr)(n c:Nat)(blk:Nat)(w:World)(hpos:0≤pos∧pos≤18446744073709551615)(hl:Cb.r (·<w.heap.size) w [.slice a n c] l)(hbk:∀x∈l,x.backs.length≤1000000000000)
 (hc:w.cell? ⟨blk,0,none⟩=some (.int .u64 pos)):
  Calls Tryz.prog 337 #[.slice a n c,.func (.func 335) #[] #[.pointer (some ⟨blk,0,none⟩)]] w fun r w'=>r=.returned (.int .i64 ((l.takeWhile (CD pos)).length:Nat))∧Below w.heap.size w w':=by
 obtain⟨rfl,hm,_,_⟩:=AH hl;have HL:=hid hl;clear hl;have HB:=hid hbk;clear hbk;have hblk:=BV w _ hc;have HC:=hid hc;clear hc;go_enter Tryz.func337,Tryz.ntmps337;go_wp2;go_loopw [9] (fun i wr=>∃k:Nat,k≤l.length∧i=.int .i64 k∧Hid ((l.takeWhile (CD pos)).length=k+((l.drop k).takeWhile (CD pos)).length)∧Below w.heap.size w wr) (fun i _=>l.length-(intOf i).toNat)
 case atStart=>exact ⟨0,At _,rfl,hid zQ,Below.refl _ _⟩
 case round=>
  obtain⟨k,hk,rfl,hf,hb⟩:=hrel;by_cases hlt:k<l.length
  ·obtain⟨b,o,hA,hbb,a1,c1,hc0,hc1,_,hbs⟩:=DN HL.out hlt
   subst hA;have X0:=(hb.cell (p:=⟨b,o+k*2,none⟩) hbb).trans hc0;have X1:=(hb.cell (p:=⟨b,o+k*2+1,none⟩) hbb).trans hc1;clear hc0 hc1;have hbl:=HB.out _ (AT hlt);have hst:=hid (Lp (CD pos) l k hlt);have HBS:=hid hbs;clear hbs;generalize hlk:l[k]=x at*;clear hlk;have hzz:=hb.size;go_wp2_with fail;refine (Qm pos x _ _ _ blk _ hpos (lift HBS.out zB) hbl ?_).mono ?_
   ·have:=(AE.mk wr hb).cell HC.out
    exact (AE.mk _ ((Below.refl wr.heap.size wr).alloc (Ap _) _)).cell this
   rintro e w1 ⟨rfl,hb1⟩;have hb2:Below w.heap.size w w1:=zB;cases hr:CD pos x
   ·have hff:Hid ((l.takeWhile (CD pos)).length=k):=hid (by rw[hf.out,hst.out,hr];simp)
    clear hr;go_wp2;go_ret;exact⟨zK,hb2⟩
   ·have hff:Hid ((l.takeWhile (CD pos)).length=(k+1)+((l.drop (k+1)).takeWhile (CD pos)).length):=hid (by rw[hf.out,hst.out,hr];simp;omega)
    clear hr;go_wp2;go_roundw
    case rel=>exact ⟨k+1,zD,zT,hff,hb2⟩
    case measure=>simp [intOf];omega
  ·obtain rfl:k=l.length:=by omega
   have hff:Hid ((l.takeWhile (CD pos)).length=l.length):=hid (by rw[hf.out,Cy];simp);go_wp2;go_ret;exact⟨zK,hb⟩
theorem I0(pos:Int)(l:List Ba)(a:Option Addr)(n c:Nat)(w:World)(hpos:0≤pos∧pos≤18446744073709551615)(hl:Cb.r (·<w.heap.size) w [.slice a n c] l)(hbk:∀x∈l,x.backs.length≤1000000000000):
  Calls Tryz.prog 277 #[.int .u64 pos,.slice a n c] w fun r w'=>r=.returned (.bool (BY pos l))∧Below w.heap.size w w':=by
 obtain⟨rfl,hm,_,_⟩:=AH hl;have HL:=hid hl;clear hl;have HB:=hid hbk;clear hbk;by_cases h16:16<l.length
 ·have hff:Hid (BY pos l=false):=hid (by simp[BY];omega)
  go_enter Tryz.func277,Tryz.ntmps277;go_wp2;go_ret;exact⟨zK,zB⟩
 ·have hff:Hid (BY pos l=(Dn (l.map Ba.stream)&&l.all (CD pos))):=hid zBm
  have hta:=hid (Mx (CD pos) l);go_enter Tryz.func277,Tryz.ntmps277;go_wp2_with fail;refine (Qn l _ _ _ _ (lift HL.out zB)).mono ?_;rintro e w1 ⟨rfl,hb1⟩;have hb2:Below w.heap.size w w1:=zB;cases hr:Dn (l.map Ba.stream)
  ·have hf2:Hid (BY pos l=false):=hid (by rw[hff.out,hr];rfl)
   clear hr;go_wp2;go_ret;exact⟨by rw[hf2.out];rfl,hb2⟩
  ·have hf2:Hid (BY pos l=l.all (CD pos)):=hid (by rw[hff.out,hr];rfl)
   clear hr;go_wp2_with fail;refine (Qo pos l _ _ _ w.heap.size _ hpos (lift HL.out hb2) HB.out ?_).mono ?_
   ·exact (AE.mk w1 hb1).cell ZJ
   rintro e w3 ⟨rfl,hb3⟩;have hlt:=(List.takeWhile_sublist (l:=l) (CD pos)).length_le;generalize hg:(l.takeWhile (CD pos)).length=t at*;have hg':=hid hg;clear hg;go_wp2;go_ret;refine⟨?_,zB⟩;rw[hf2.out,←hta.out];by_cases h:t=l.length
   ·subst h;simp
   ·have:¬((t:Int)=(l.length:Int)):=by omega
    simp[h,this]
theorem OC(pos:Int)(l:List Ba)(a:Option Addr)(n c:Nat)(w:World)(hl:Cb.r (·<w.heap.size) w [.slice a n c] l):
  Calls Tryz.prog 227 #[.int .u64 pos,.slice a n c] w fun r w'=>r=.returned (.bool (BY pos l))∧Below w.heap.size w w':=by
 obtain⟨rfl,hm,_,_⟩:=AH hl;have HL:=hid hl;clear hl;by_cases h16:16<l.length
 ·have hff:Hid (BY pos l=false):=hid (by simp[BY];omega)
  go_enter Tryz.func227,Tryz.ntmps227;go_wp2;go_ret;exact⟨zK,zB⟩
 ·have hff:Hid (BY pos l=(Dn (l.map Ba.stream)&&l.all (CD pos))):=hid zBm
  go_enter Tryz.func227,Tryz.ntmps227;go_wp2_with fail;go_loopw [5] (fun i wr=>∃k:Nat,k≤l.length∧i=.int .i64 k∧Hid (BY pos l=(Dy (l.map Ba.stream) k&&(l.drop k).all (CD pos)))∧Below w.heap.size w wr) (fun i _=>l.length-(intOf i).toNat)
  case atStart=>exact ⟨0,At _,rfl,hid zK,Below.refl _ _⟩
  case round=>
   obtain⟨k,hk,rfl,hf,hb⟩:=hrel;clear hff;by_cases hlt:k<l.length
   ·obtain⟨b,o,hA,hbb,a1,c1,hc0,hc1,_,hbs⟩:=DN HL.out hlt
    have hlt':(k:Int)<(l.length:Int):=zD;have hlR:CD pos l[k]=(decide (l[k].backs.length≤4)&&BP pos l[k].backs):=rfl;have hdr:=hid (show (l.drop k).all (CD pos)=(CD pos l[k]&&(l.drop (k+1)).all (CD pos)) by rw[AD hlt];rfl);obtain⟨z,hz⟩:∃z,l[k]=z:=⟨_,rfl⟩;rw[hz] at hc0 hc1 hbs hlR hdr;have HZ:=hid hz;clear hz;have HBS:=hid (lift hbs hb);have HFA:=fun (s:AE wr)=>OD pos z.backs a1 _ c1 s.at_ (lift HBS.out s.below);have HF:=hid HFA;clear HFA hbs;rcases k with _ | m
    ·have h1:=hid (Ks (l.map Ba.stream))
     have X1:=fun s:AE wr=>s.cell ((hb.cell (p:=⟨b,o+0*2+1,none⟩) hbb).trans hc1);subst hA;simp only[Nat.zero_mul,CR] at X1;clear hc0 hc1;by_cases h4:4<z.backs.length
     ·have hff:Hid (BY pos l=false):=hid zBf
      have d4:decide (4<(z.backs.length:Int))=true:=zI;clear hlR;go_wp2_with fail;refine Ax zJ zJ ?_;repeat (go_big_quiet_step (fail))
      refine AI ?_;rintro W5 ⟨⟨W5',hb5⟩,rfl⟩;go_wp2;go_ret;exact⟨zK,Af hb5 hb⟩
     ·have d4:decide (4<(z.backs.length:Int))=false:=by simp;omega
      cases hfa:BP pos z.backs
      ·have hff:Hid (BY pos l=false):=hid (by rw[hf.out,hdr.out,hlR,hfa];simp)
       rw[hfa] at HF;clear hlR hfa;go_wp2_with fail;refine Ax zJ zJ ?_;repeat (go_big_quiet_step (((go_at_call 284;exact A9 (HF.out _)))))
       refine AI ?_;rintro W5 ⟨⟨W5',hb5⟩,rfl⟩;go_wp2;go_ret;exact⟨zK,Af hb5 hb⟩
      ·have hff:Hid (BY pos l=(Dy (l.map Ba.stream) (1)&&(l.drop (1)).all (CD pos))):=hid (by rw[hf.out,hdr.out,hlR,hfa,←h1.out,Ad (by omega)];simp)
       rw[hfa] at HF;clear hlR hfa;go_wp2_with fail;refine Ax zJ zJ ?_;repeat (go_big_quiet_step (((go_at_call 284;exact A9 (HF.out _)))))
       refine AI ?_;rintro W5 ⟨⟨W5',hb5⟩,rfl⟩;go_wp2;go_roundw
       case rel=>exact ⟨1,zD,rfl,hff,Af hb5 hb⟩
       case measure=>simp [intOf];omega
    ·obtain⟨b',o',hA',hbb',a2,c2,hd0,hd1,_,_⟩:=DN HL.out (show m<l.length by omega)
     have hst:=hid (Jp (l.map Ba.stream) m zAn);subst hA;obtain⟨rfl,rfl⟩:b'=b∧o'=o:=zAe;clear hA';have X0:=fun s:AE wr=>s.cell ((hb.cell (p:=⟨b',o'+(m+1)*2,none⟩) hbb).trans hc0);have X1:=fun s:AE wr=>s.cell ((hb.cell (p:=⟨b',o'+(m+1)*2+1,none⟩) hbb).trans hc1);have Y0:=fun s:AE wr=>s.cell ((hb.cell (p:=⟨b',o'+m*2,none⟩) hbb).trans hd0);clear hc0 hc1 hd0 hd1;simp only[List.getElem_map] at hst;rw[HZ.out] at hst;generalize hy:l[m].stream=y at*;clear hy;generalize hx:z.stream=x at*;clear hx;rw[show ((m+1:Nat):Int)=(m:Int)+1 from zD];have k1:(0:Int)<(m:Int)+1:=zD;have k2:(0:Int)≤(m:Int)+1-1:=zD;have k3:(m:Int)+1<(l.length:Int):=zD;have k4:(m:Int)<(l.length:Int):=zD;by_cases hge:x≤y
     ·have d1:decide (x≤y)=true:=by simpa using hge
      have hff:Hid (BY pos l=false):=hid (by rw[hf.out,hst.out,Ae (by omega)];rfl);clear hge hlR;go_wp2_with fail;refine Ax zJ zJ ?_;repeat (go_big_quiet_step (fail))
      refine AI ?_;rintro W5 ⟨⟨W5',hb5⟩,rfl⟩;go_wp2;go_ret;exact⟨zK,Af hb5 hb⟩
     ·have d1:decide (x≤y)=false:=by simpa using hge
      have hst':Hid (Dy (l.map Ba.stream) (m+1)=Dy (l.map Ba.stream) (m+2)):=hid (by rw[hst.out,Ad (by omega)];rfl);clear hge;by_cases h4:4<z.backs.length
      ·have hff:Hid (BY pos l=false):=hid zBf
       have d4:decide (4<(z.backs.length:Int))=true:=zI;clear hlR;go_wp2_with fail;refine Ax zJ zJ ?_;repeat (go_big_quiet_step (fail))
       refine AI ?_;rintro W5 ⟨⟨W5',hb5⟩,rfl⟩;go_wp2;go_ret;exact⟨zK,Af hb5 hb⟩
      ·have d4:decide (4<(z.backs.length:Int))=false:=by simp;omega
       cases hfa:BP pos z.backs
       ·have hff:Hid (BY pos l=false):=hid (by rw[hf.out,hdr.out,hlR,hfa];simp)
        rw[hfa] at HF;clear hlR hfa;go_wp2_with fail;refine Ax zJ zJ ?_;repeat (go_big_quiet_step (((go_at_call 284;exact A9 (HF.out _)))))
        refine AI ?_;rintro W5 ⟨⟨W5',hb5⟩,rfl⟩;go_wp2;go_ret;exact⟨zK,Af hb5 hb⟩
       ·have hff:Hid (BY pos l=(Dy (l.map Ba.stream) (m+2)&&(l.drop (m+2)).all (CD pos))):=hid (by rw[hf.out,hdr.out,hlR,hfa,hst'.out,Ad (by omega)];simp)
        rw[hfa] at HF;clear hlR hfa;go_wp2_with fail;refine Ax zJ zJ ?_;repeat (go_big_quiet_step (((go_at_call 284;exact A9 (HF.out _)))))
        refine AI ?_;rintro W5 ⟨⟨W5',hb5⟩,rfl⟩;go_wp2;go_roundw
        case rel=>exact ⟨m+2,zD,zT,hff,Af hb5 hb⟩
        case measure=>simp [intOf];omega
   ·obtain rfl:k=l.length:=by omega
    have hff:Hid (BY pos l=true):=hid (by
     have:=Kt (l.map Ba.stream);rw[List.length_map] at this;rw[hf.out,this,Cy];rfl)
    go_wp2;go_ret;exact⟨zK,hb⟩
theorem RR(x y:Ba)(a a':Option Addr)(n c n' c':Nat)(w:World)(hx:Bw.r (·<w.heap.size) w [.slice a n c] x.backs)(hy:Bw.r (·<w.heap.size) w [.slice a' n' c'] y.backs):
  Calls Tryz.prog 169 #[.agg #[.int .u64 x.stream,.slice a n c],.agg #[.int .u64 y.stream,.slice a' n' c']] w fun r w'=>r=.returned (.bool (decide (x=y)))∧Below w.heap.size w w':=by
 have he:decide (x=y)=(decide (x.stream=y.stream)&&decide (x.backs=y.backs)):=by
  rw[Bool.eq_iff_iff];cases x;cases y;simp
 have HE:=hid he;clear he;have HX:=hid hx;clear hx;have HY:=hid hy;clear hy;by_cases h:x.stream=y.stream
 ·have e1:(x.stream==y.stream)=true:=by simp[h]
  have hff:Hid (decide (x=y)=decide (x.backs=y.backs)):=hid (by rw[HE.out];simp[h]);clear h;go_enter Tryz.func169,Tryz.ntmps169;go_wp2_with fail;refine (RO x.backs y.backs _ _ _ _ _ _ _ (lift HX.out zB) (lift HY.out zB)).mono ?_;rintro e w1 ⟨rfl,hb1⟩;go_wp2;go_ret;exact⟨zK,zB⟩
 ·have e1:(x.stream==y.stream)=false:=by simp[h]
  have hff:Hid (decide (x=y)=false):=hid (by rw[HE.out];simp[h]);clear h;go_enter Tryz.func169,Tryz.ntmps169;go_wp2;go_ret;exact⟨zK,zB⟩
theorem PY(x y:List Ba)(a a':Option Addr)(n c n' c':Nat)(w:World)(hx:Cb.r (·<w.heap.size) w [.slice a n c] x)(hy:Cb.r (·<w.heap.size) w [.slice a' n' c'] y):
  Calls Tryz.prog 106 #[.slice a n c,.slice a' n' c'] w fun r w'=>r=.returned (.bool (decide (x=y)))∧Below w.heap.size w w':=by
 obtain⟨rfl,hm,_,_⟩:=AH hx;obtain⟨rfl,hm',_,_⟩:=AH hy;by_cases hl:x.length=y.length
 ·have HX:=hid hx;clear hx
  have HY:=hid hy;clear hy;have HL:=hid hl;have e1:((x.length:Int) !=(y.length:Int))=false:=by simp[hl]
  clear hl;go_enter Tryz.func106,Tryz.ntmps106;go_wp2;go_loopw [5] (fun i wr=>∃k:Nat,k≤x.length∧i=.int .i64 k∧Hid (decide (x=y)=decide (x.drop k=y.drop k))∧Below w.heap.size w wr) (fun i _=>x.length-(intOf i).toNat)
  case atStart=>exact ⟨0,At _,rfl,hid rfl,Below.refl _ _⟩
  case round=>
   obtain⟨k,hk,rfl,hf,hb⟩:=hrel;by_cases hlt:k<x.length
   ·have hlt':k<y.length:=by rw[←HL.out];exact hlt
    obtain⟨b,o,hA,hbb,a1,c1,hc0,hc1,_,hr1⟩:=DN HX.out hlt;obtain⟨b',o',hA',hbb',a2,c2,hd0,hd1,_,hr2⟩:=DN HY.out hlt';have hst:=hid (Fo x y k hlt hlt');subst hA hA';have X0:=fun s:AE wr=>s.cell ((hb.cell (p:=⟨b,o+k*2,none⟩) hbb).trans hc0);have X1:=fun s:AE wr=>s.cell ((hb.cell (p:=⟨b,o+k*2+1,none⟩) hbb).trans hc1);have Y0:=fun s:AE wr=>s.cell ((hb.cell (p:=⟨b',o'+k*2,none⟩) hbb').trans hd0);have Y1:=fun s:AE wr=>s.cell ((hb.cell (p:=⟨b',o'+k*2+1,none⟩) hbb').trans hd1);clear hc0 hc1 hd0 hd1;generalize hlk:x[k]=u at*;generalize hlm:y[k]=v at*;clear hlk hlm;have hs1:=hid (lift hr1 hb);have hs2:=hid (lift hr2 hb);clear hr1 hr2;have hO:=fun s:AE wr=>RR u v a1 a2 _ c1 _ c2 s.at_ (lift hs1.out s.below) (lift hs2.out s.below);have i0:(0:Int)≤(k:Int):=zD;have i1:(k:Int)<(x.length:Int):=zD;have i2:(k:Int)<(y.length:Int):=zD;by_cases huv:u=v
    ·rw[Ad huv] at hO
     have HO:=hid hO;clear hO;have hst':Hid (decide (x.drop k=y.drop k)=decide (x.drop (k+1)=y.drop (k+1))):=hid zAv;clear huv;go_wp2_with fail;refine Ax zJ zJ ?_;repeat (go_big_quiet_step (((go_at_call 169;exact A9 (HO.out _)))))
     refine AI ?_;rintro W5 ⟨⟨W5',hb5⟩,rfl⟩;go_wp2;go_roundw
     case rel=>exact ⟨k+1,zD,zT,hid zAk,Af hb5 hb⟩
     case measure=>simp [intOf];omega
    ·rw[Ae huv] at hO
     have HO:=hid hO;clear hO;have hff:Hid (decide (x=y)=false):=hid zAd;clear huv;go_wp2_with fail;refine Ax zJ zJ ?_;repeat (go_big_quiet_step (((go_at_call 169;exact A9 (HO.out _)))))
     refine AI ?_;rintro W5 ⟨⟨W5',hb5⟩,rfl⟩;go_wp2;go_ret;exact⟨zK,Af hb5 hb⟩
   ·obtain rfl:k=x.length:=by omega
    have hff:Hid (decide (x=y)=true):=hid zW;go_wp2;go_ret;exact⟨zK,hb⟩
 ·have hff:Hid (decide (x=y)=false):=hid zA8
  have e1:((x.length:Int) !=(y.length:Int))=true:=zI;clear hl hx hy;go_enter Tryz.func106,Tryz.ntmps106;go_wp2;go_ret;exact⟨zK,Below.refl _ _⟩
theorem PW(x y:Entry)(a1 a2 a3 a4:Option Addr)(n1 c1 n2 c2 n3 c3 n4 c4:Nat)(w:World)(hx:Cb.r (·<w.heap.size) w [.slice a1 n1 c1] x.links)(hx':Ag.r (·<w.heap.size) w [.slice a3 n3 c3] x.data)
 (hy:Cb.r (·<w.heap.size) w [.slice a2 n2 c2] y.links) (hy':Ag.r (·<w.heap.size) w [.slice a4 n4 c4] y.data):
  Calls Tryz.prog 171 #[.agg #[.slice a1 n1 c1,.slice a3 n3 c3],.agg #[.slice a2 n2 c2,.slice a4 n4 c4]] w fun r w'=>r=.returned (.bool (decide (x=y)))∧Below w.heap.size w w':=by
 have he:decide (x=y)=(decide (x.links=y.links)&&decide (x.data=y.data)):=by
  rw[Bool.eq_iff_iff];cases x;cases y;simp
 have HE:=hid he;clear he;have HX:=hid hx;clear hx;have HY:=hid hy;clear hy;have HX':=hid hx';clear hx';have HY':=hid hy';clear hy';go_enter Tryz.func171,Tryz.ntmps171;go_wp2_with fail;refine (PY x.links y.links _ _ _ _ _ _ _ (lift HX.out zB) (lift HY.out zB)).mono ?_;rintro e w1 ⟨rfl,hb1⟩;have hb2:Below w.heap.size w w1:=zB;obtain⟨hc1,hf1⟩:=Pv hb1;by_cases h:x.links=y.links
 ·have hff:Hid (decide (x=y)=decide (x.data=y.data)):=hid (by rw[HE.out,Ad h];rfl)
  rw[Ad h];clear h;go_wp2_with fail;refine (IQ x.data y.data _ _ _ _ _ _ _ (lift HX'.out hb2) (lift HY'.out hb2)).mono ?_;rintro e w' ⟨rfl,rfl⟩;go_wp2;go_ret;exact⟨zK,hb2⟩
 ·have hff:Hid (decide (x=y)=false):=hid (by rw[HE.out,Ae h];rfl)
  rw[Ae h];clear h;go_wp2;go_ret;exact⟨zK,hb2⟩
theorem RQ(x y:List Entry)(a a':Option Addr)(n c n' c':Nat)(w:World)(hx:AW.r (·<w.heap.size) w [.slice a n c] x)(hy:AW.r (·<w.heap.size) w [.slice a' n' c'] y):
  Calls Tryz.prog 108 #[.slice a n c,.slice a' n' c'] w fun r w'=>r=.returned (.bool (decide (x=y)))∧Below w.heap.size w w':=by
 obtain⟨rfl,hm,_,_⟩:=AH hx;obtain⟨rfl,hm',_,_⟩:=AH hy;by_cases hl:x.length=y.length
 ·have HX:=hid hx;clear hx
  have HY:=hid hy;clear hy;have HL:=hid hl;have e1:((x.length:Int) !=(y.length:Int))=false:=by simp[hl]
  clear hl;go_enter Tryz.func108,Tryz.ntmps108;go_wp2;go_loopw [5] (fun i wr=>∃k:Nat,k≤x.length∧i=.int .i64 k∧Hid (decide (x=y)=decide (x.drop k=y.drop k))∧Below w.heap.size w wr) (fun i _=>x.length-(intOf i).toNat)
  case atStart=>exact ⟨0,At _,rfl,hid rfl,Below.refl _ _⟩
  case round=>
   obtain⟨k,hk,rfl,hf,hb⟩:=hrel;by_cases hlt:k<x.length
   ·have hlt':k<y.length:=by rw[←HL.out];exact hlt
    obtain⟨b,o,hA,hbb,a1,c1,a3,c3,hc0,hc1,hr1,hr3⟩:=Eh HX.out hlt;obtain⟨b',o',hA',hbb',a2,c2,a4,c4,hd0,hd1,hr2,hr4⟩:=Eh HY.out hlt';have hst:=hid (Fo x y k hlt hlt');subst hA hA';have X0:=fun s:AE wr=>s.cell ((hb.cell (p:=⟨b,o+k*2,none⟩) hbb).trans hc0);have X1:=fun s:AE wr=>s.cell ((hb.cell (p:=⟨b,o+k*2+1,none⟩) hbb).trans hc1);have Y0:=fun s:AE wr=>s.cell ((hb.cell (p:=⟨b',o'+k*2,none⟩) hbb').trans hd0);have Y1:=fun s:AE wr=>s.cell ((hb.cell (p:=⟨b',o'+k*2+1,none⟩) hbb').trans hd1);clear hc0 hc1 hd0 hd1;generalize hlk:x[k]=u at*;generalize hlm:y[k]=v at*;clear hlk hlm;have hs1:=hid (lift hr1 hb);have hs2:=hid (lift hr2 hb);have hs3:=hid (lift hr3 hb);have hs4:=hid (lift hr4 hb);clear hr1 hr2 hr3 hr4;have hO:=fun s:AE wr=>PW u v a1 a2 a3 a4 _ c1 _ c2 _ c3 _ c4 s.at_ (lift hs1.out s.below) (lift hs3.out s.below) (lift hs2.out s.below) (lift hs4.out s.below);have i0:(0:Int)≤(k:Int):=zD;have i1:(k:Int)<(x.length:Int):=zD;have i2:(k:Int)<(y.length:Int):=zD;by_cases huv:u=v
    ·rw[Ad huv] at hO
     have HO:=hid hO;clear hO;have hst':Hid (decide (x.drop k=y.drop k)=decide (x.drop (k+1)=y.drop (k+1))):=hid zAv;clear huv;go_wp2_with fail;refine Ax zJ zJ ?_;repeat (go_big_quiet_step (((go_at_call 171;exact A9 (HO.out _)))))
     refine AI ?_;rintro W5 ⟨⟨W5',hb5⟩,rfl⟩;go_wp2;go_roundw
     case rel=>exact ⟨k+1,zD,zT,hid zAk,Af hb5 hb⟩
     case measure=>simp [intOf];omega
    ·rw[Ae huv] at hO
     have HO:=hid hO;clear hO;have hff:Hid (decide (x=y)=false):=hid zAd;clear huv;go_wp2_with fail;refine Ax zJ zJ ?_;repeat (go_big_quiet_step (((go_at_call 171;exact A9 (HO.out _)))))
     refine AI ?_;rintro W5 ⟨⟨W5',hb5⟩,rfl⟩;go_wp2;go_ret;exact⟨zK,Af hb5 hb⟩
   ·obtain rfl:k=x.length:=by omega
    have hff:Hid (decide (x=y)=true):=hid zW;go_wp2;go_ret;exact⟨zK,hb⟩
 ·have hff:Hid (decide (x=y)=false):=hid zA8
  have e1:((x.length:Int) !=(y.length:Int))=true:=zI;clear hl hx hy;go_enter Tryz.func108,Tryz.ntmps108;go_wp2;go_ret;exact⟨zK,Below.refl _ _⟩
theorem Ht(pos:Int)(x:Entry)(a1 a3:Option Addr)(n1 c1 n3 c3:Nat)(w:World)(hpos:0≤pos∧pos≤18446744073709551615)(hbk:∀l∈x.links,l.backs.length≤1000000000000)(hx:Cb.r (·<w.heap.size) w [.slice a1 n1 c1] x.links)(hx':Ag.r (·<w.heap.size) w [.slice a3 n3 c3] x.data):
  Calls Tryz.prog 217 #[.int .u64 pos,.agg #[.slice a1 n1 c1,.slice a3 n3 c3]] w fun r w'=>r=.returned (.bool (Dq pos x))∧Below w.heap.size w w':=by
 obtain⟨rfl,hm,_,_⟩:=AH hx';have HX:=hid hx;clear hx hx';go_enter Tryz.func217,Tryz.ntmps217;go_wp2_with fail;refine (I0 pos x.links _ _ _ _ hpos (lift HX.out zB) hbk).mono ?_;rintro e w1 ⟨rfl,hb1⟩;have hb2:Below w.heap.size w w1:=zB;obtain⟨hc1,hf1⟩:=Pv hb1;cases h:BY pos x.links
 ·have hff:Hid (Dq pos x=false):=hid zB1
  clear h;go_wp2;go_ret;exact⟨zK,hb2⟩
 ·have hff:Hid (Dq pos x=decide (x.data.length≤1048576)):=hid zB1
  clear h;go_wp2;go_ret;refine⟨?_,hb2⟩;rw[hff.out];by_cases h:x.data.length≤1048576
  ·rw[Ad h];simp;omega
  ·rw[Ae h];simp;omega
theorem OB(pos:Int)(x:Entry)(a1 a3:Option Addr)(n1 c1 n3 c3:Nat)(w:World)(hx:Cb.r (·<w.heap.size) w [.slice a1 n1 c1] x.links)(hx':Ag.r (·<w.heap.size) w [.slice a3 n3 c3] x.data):
  Calls Tryz.prog 152 #[.int .u64 pos,.agg #[.slice a1 n1 c1,.slice a3 n3 c3]] w fun r w'=>r=.returned (.bool (Dq pos x))∧Below w.heap.size w w':=by
 obtain⟨rfl,hm,_,_⟩:=AH hx';have HX:=hid hx;clear hx hx';go_enter Tryz.func152,Tryz.ntmps152;go_wp2_with fail;refine (OC pos x.links _ _ _ _ (lift HX.out zB)).mono ?_;rintro e w1 ⟨rfl,hb1⟩;have hb2:Below w.heap.size w w1:=zB;obtain⟨hc1,hf1⟩:=Pv hb1;cases h:BY pos x.links
 ·have hff:Hid (Dq pos x=false):=hid zB1
  clear h;go_wp2;go_ret;exact⟨zK,hb2⟩
 ·have hff:Hid (Dq pos x=decide (x.data.length≤1048576)):=hid zB1
  clear h;go_wp2;go_ret;refine⟨?_,hb2⟩;rw[hff.out];by_cases h:x.data.length≤1048576
  ·rw[Ad h];simp;omega
  ·rw[Ae h];simp;omega
end Go.Proofs.YtfddhafbhceoaaaGreat
namespace Go.Bs
open Go.RowKit
variable{l:List UInt8}{cs:List Value}{base c g i n o sz:Nat}{S:Nat → Prop}{a:Option Addr}{e t:TypeId}{v:Value}{W w w' w1:World}
section
variable {P:Program} {w:World}
def Src(w:World)(A:Option Addr)(m sz:Nat)(news:List Value):Prop:=
 news.length=m*sz∧(m=0∨∃b o,A=some ⟨b,o,none⟩∧∀j u,news[j]? =some u→w.cell? ⟨b,o+j,none⟩=some u)
theorem Jo(base:Nat)(t ty e:TypeId)(i:TypeInfo)(size:Nat)(ht:P.underlying t=some (.slice e))(hi:P.info? e=some i)
 (v:Value) (n:Nat) (xs:List Value) (hown:w.ownsRow base e size v n xs) (c:Nat):(Builtin.append_ #[t,t] ty #[v,.slice none 0 c]).run P w=.ok v w:=by
 rcases hown.2 with ⟨rfl,rfl⟩ | ⟨g,cap,cur,rfl,_,_,hnc,_⟩
 ·simp[Builtin.append_,run_underlying ht,sizeOf,typeInfo,hi,Builtin.lenOf,Builtin.firstCells]
 ·simp[Builtin.append_,run_underlying ht,sizeOf,typeInfo,hi,Builtin.lenOf,Builtin.firstCells,hnc,storeCells]
theorem add_plain(b o j:Nat):(⟨b,o,none⟩:Addr).add j=⟨b,o+j,none⟩:=by
 unfold Addr.add;split
 ·rename_i h;subst h;rfl
 ·rfl
theorem G9(base:Nat)(t ty e:TypeId)(i:TypeInfo)(z:Value)(size bytes:Nat)(ht:P.underlying t=some (.slice e))(hi:P.info? e=some i)(hz:i.zero=some z)
 (hsize:i.size=size) (hby:i.bytes=bytes) (hzs:z.cells.size=size) (hsz:0<size)
 (v:Value) (n:Nat) (xs:List Value) (hown:w.ownsRow base e size v n xs) (A:Option Addr) (m c:Nat) (news:List Value) (hs:Src w A m size news) (h1:∀u∈news,u.oneCell'=true)
 (h63:n+m≤maxLen) (hbytes:(n+m)*bytes≤140737488355328) (hbase:base≤w.heap.size):
  ∃v' w',(Builtin.append_ #[t,t] ty #[v,.slice A m c]).run P w=.ok v' w'∧w'.ownsRow base e size v' (n+m) (xs++news)∧w.grownBy w' v.ownBlock∧(v'.ownBlock=v.ownBlock∨v'.ownBlock=some w.heap.size):=by
 obtain⟨hl,hs⟩:=hs;rcases A with _ | ad
 ·have hm:m=0:=by
   rcases hs with h | ⟨b,o,h,_⟩
   ·exact h
   ·cases h
  subst hm;have hn:news=[]:=AS zBb;subst hn;exact⟨v,w,Jo base t ty e i size ht hi v n xs hown c,zBz,World.grownBy.refl w _,.inl rfl⟩
 ·have hcells:∀j u,news[j]? =some u→w.cell? (ad.add j)=some u:=by
   intro j u hu;rcases hs with h | ⟨b,o,h,hc⟩
   ·subst h
    have hn:news=[]:=AS zBb;subst hn;simp at hu
   ·injection h with h
    subst h;rw[add_plain];exact hc j u hu
  obtain⟨v',w',hrun,h2,h3,_,h5⟩:=run_append_own_at (P:=P) w base t ty e i z size bytes ht hi hz hsize hby hzs hsz v n xs hown ad m c news hl hcells h1 h63 hbytes hbase;exact⟨v',w',hrun,h2,h3,h5⟩
theorem AA{ops:Array Oper}{rest:List Oper}{o:Oper}{a:Act}{Q:Exit→Act→World→Prop}(hgd:o.guard=none)(s x:Operand)(t:TypeId)
 (ho:o.op=.call {callee:=.builtin .append,args:=#[s,x],argTypes:=#[t,t]})
 (base:Nat) (e:TypeId) (i:TypeInfo) (z:Value) (size bytes:Nat) (ht:P.underlying t=some (.slice e)) (hi:P.info? e=some i) (hz:i.zero=some z)
 (hsize:i.size=size) (hby:i.bytes=bytes) (hzs:z.cells.size=size) (hsz:0<size)
 (v:Value) (n:Nat) (xs:List Value) (hs:a.eval s=v) (hown:w.ownsRow base e size v n xs)
 (A:Option Addr) (m c:Nat) (news:List Value) (hx:a.eval x=.slice A m c) (hsrc:Src w A m size news) (h1:∀u∈news,u.oneCell'=true)
 (h63:n+m≤maxLen) (hbytes:(n+m)*bytes≤140737488355328) (hbase:base≤w.heap.size)
 (h:∀v' w',w'.ownsRow base e size v' (n+m) (xs++news)→w.grownBy w' v.ownBlock→(v'.ownBlock=v.ownBlock∨v'.ownBlock=some w.heap.size)→wpList P ops Q rest (a.put o.dst v') w'):wpList P ops Q (o::rest) a w:=
 wpList_plain hgd fun _ hK=>by
  obtain⟨v',w',hrun,h2,h3,h4⟩:=G9 (P:=P) base t o.type e i z size bytes ht hi hz hsize hby hzs hsz v n xs hown A m c news hsrc h1 h63 hbytes hbase;unfold Oper.wp execOp;simp only[ho,resolve,invoke,builtin,Sem.run_bind,Sem.run_pure,Result.andThen_ok,List.map_toArray,DA,List.map_nil,hs,hx,hrun];exact hK _ _ (h v' w' h2 h3 h4)
def byteCells(l:List UInt8):List Value:=l.map fun b=> .int .u8 (b.toNat:Int)
theorem A7(l:List UInt8):∀u∈byteCells l,u.oneCell'=true:=by
 intro u hu;obtain⟨b,_,rfl⟩:=List.mem_map.1 hu;rfl
theorem BH(h:Ag.r S w [.slice a n c] l):Src w a l.length 1 (byteCells l):=by
 refine⟨Z7,?_⟩;rcases l with _ | ⟨x,l⟩
 ·exact .inl rfl
 ·right
  obtain⟨b,o,e,_⟩:=BJ h (i:=0) zQ;refine⟨b,o,e,fun j u hu=> ?_⟩;have hj:j<(x::l).length:=by
   have:=(List.getElem?_eq_some_iff.1 hu).1;simpa [byteCells] using this
  obtain⟨b',o',e',_,hc⟩:=BJ h hj;rw[e] at e';simp at e';obtain⟨rfl,rfl⟩:=e';have:u=.int .u8 (((x::l)[j]).toNat:Int):=by
   simp only[byteCells,DP,AM hj,Option.map_some,Bh] at hu;exact hu.symm
  rw[this];exact hc
theorem Et(hn:n=l.length)(h:w.ownsRow base e 1 v n (byteCells l)):Ag.r (·<w.heap.size) w [v] l:=by
 subst hn;rcases h.2 with ⟨rfl,h0⟩ | ⟨g,cap,cur,rfl,hbg,hg,hn,hc,hcur,hx⟩
 ·have:l=[]:=AS h0
  subst this;exact BL rfl (Ap _) (At _) (.inl rfl)
 ·refine BL rfl hn hc (.inr ⟨g,0,rfl,Blk.lt hg,fun i x hi=>⟨[.int .u8 (x.toNat:Int)],rfl,fun j v hj=> ?_,rfl⟩⟩)
  have hj0:j=0:=by
   rcases j with _ | j
   ·rfl
   ·simp at hj
  subst hj0;simp at hj;subst hj;have hi':i<l.length:=(List.getElem?_eq_some_iff.1 hi).1;rw[Bj,DG,CR,Blk.cell hg i];have e1:cur[i]? =(cur.toList.take (l.length*1))[i]? :=by
   rw[Du,Ai zD];simp
  rw[e1,hx,byteCells,DP,hi];rfl
end
end Go.Bs
namespace Go.Proofs.YtfddhafbhceoaaaGreat
open Go.RowKit Go.Bs
variable{base c k n sz:Nat}{S:Nat → Prop}{a:Option Addr}{e:TypeId}{v:Value}{w:World}
theorem Eu:(Tryz.prog.info? 5).map (fun i=>(i.zero,i.size,i.bytes))=some (some (.int .u8 0),1,1):=zJ
theorem IK(l:List Entry)(k:Nat)(h:k<l.length):total (l.take (k+1))=total (l.take k)+l[k].data.length:=by
 unfold total;rw[AR h,Cs,List.sum_append];simp
theorem Gs(l:List Entry)(k:Nat):total (l.take k)≤total l:=by
 have:total l=total (l.take k)+total (l.drop k):=by
  unfold total;rw[←List.sum_append,←Cs,Dr]
 omega
theorem Hs(l:List Entry)(a:Option Addr)(n c:Nat)(w:World)(hl:AW.r (·<w.heap.size) w [.slice a n c] l)(ht:total l≤1000000000000):
  Calls Tryz.prog 216 #[.slice a n c] w fun r w'=>r=.returned (.int .i64 (total l:Nat))∧Below w.heap.size w w':=by
 obtain⟨rfl,hm,_,_⟩:=AH hl;have HL:=hid hl;clear hl;go_enter Tryz.func216,Tryz.ntmps216;go_wp2;go_loopw [3,8] (fun s i wr=>∃k:Nat,k≤l.length∧i=.int .i64 k∧s=.int .i64 (total (l.take k):Nat)∧Below w.heap.size w wr) (fun _ i _=>l.length-(intOf i).toNat)
 case atStart=>exact ⟨0,At _,rfl,rfl,Below.refl _ _⟩
 case round=>
  obtain⟨k,hk,rfl,rfl,hb⟩:=hrel;by_cases hlt:k<l.length
  ·obtain⟨b,o,hA,hbb,a1,c1,a2,c2,hc0,hc1,_,_⟩:=Eh HL.out hlt
   subst hA;have X0:=(hb.cell (p:=⟨b,o+k*2,none⟩) hbb).trans hc0;have X1:=(hb.cell (p:=⟨b,o+k*2+1,none⟩) hbb).trans hc1;clear hc0 hc1;have hs:=hid (IK l k hlt);have h1:=Gs l (k+1);rw[hs.out] at h1;generalize l[k].links.length=n1 at*;generalize l[k].data.length=n2 at*;generalize total (l.take k)=t at*;go_wp2;go_roundw
   case rel=>exact ⟨k+1,zD,zT,by rw[hs.out];simp only[Int.natCast_add],hb.alloc hb.size _⟩
   case measure=>simp [intOf];omega
  ·obtain rfl:k=l.length:=by omega
   rw[BW];go_wp2;go_ret;exact⟨rfl,hb⟩
def CQ(l:List Entry):List UInt8:=l.flatMap Entry.data
theorem Dh(l:List Entry):(CQ l).length=total l:=by
 unfold CQ total;rw[List.length_flatMap]
theorem KC(l:List Entry)(k:Nat)(h:k<l.length):CQ (l.take (k+1))=CQ (l.take k)++l[k].data:=by
 unfold CQ;rw[AR h,List.flatMap_append];simp
def TP(l:List UInt8)(w:World)(e:Ending)(w':World):Prop:=∃v,e=.returned v∧Ag.r (·<w'.heap.size) w' [v] l∧Below w.heap.size w w'
theorem PX(l:List Entry)(a:Option Addr)(n c:Nat)(w:World)(hl:AW.r (·<w.heap.size) w [.slice a n c] l)(ht:total l≤1000000000000):
  Calls Tryz.prog 151 #[.slice a n c] w (TP (CQ l) w):=by
 obtain⟨rfl,hm,_,_⟩:=AH hl;obtain⟨i0,hi,hz0,hz1,hz2⟩:=A1 Eu;have HL:=hid hl;clear hl;go_enter Tryz.func151,Tryz.ntmps151;go_wp2;go_loopw [3,4] (fun v i wr=>∃k:Nat,k≤l.length∧i=.int .i64 k∧wr.ownsRow w.heap.size 5 1 v (total (l.take k)) (byteCells (CQ (l.take k)))∧Below w.heap.size w wr) (fun _ i _=>l.length-(intOf i).toNat)
 case atStart=>exact ⟨0,At _,rfl,⟨rfl,.inl ⟨rfl,rfl⟩⟩,Below.refl _ _⟩
 case round=>
  obtain⟨k,hk,rfl,hown,hb⟩:=hrel;by_cases hlt:k<l.length
  ·obtain⟨b,o,hA,hbb,a1,c1,a2,c2,hc0,hc1,_,hd⟩:=Eh HL.out hlt
   subst hA;have X1:=(hb.cell (p:=⟨b,o+k*2+1,none⟩) hbb).trans hc1;clear hc0 hc1;have hs:=hid (IK l k hlt);have hj:=hid (KC l k hlt);have h1:=Gs l (k+1);rw[hs.out] at h1;have hsrc:=BH (lift hd hb);have hone:=A7 l[k].data;generalize l[k].data=D at*;generalize CQ (l.take k)=J at*;generalize total (l.take k)=t at*;have HSRC:=hid hsrc;clear hsrc hd;have HONE:=hid hone;clear hone;have hbs:=hb.size;have i1:(k:Int)<(l.length:Int):=zD;go_wp2_with (at_builtin;refine AA rfl _ _ _ rfl w.heap.size 5 i0 (.int .u8 0) 1 1 AG hi hz0 hz1 hz2 rfl zO _ t _ rfl hown a2 D.length c2 (byteCells D) rfl HSRC.out HONE.out zN zD hbs ?_;intro v1 w1 hown1 hgrow1 hat1)
   go_roundw
   case rel=>
    refine⟨k+1,zD,zT,?_,?_⟩
    ·rw[hs.out,hj.out,byteCells,Cs];exact hown1
    ·exact hb.grown hgrow1 hbs (fun g e=>(hown.lt g e).1)
   case measure=>simp [intOf];omega
  ·obtain rfl:k=l.length:=by omega
   rw[BW] at hown;have hv:=Et (Dh l).symm hown;have HV:=hid hv;clear hv;go_wp2;go_ret;exact⟨_,rfl,HV.out,hb⟩
theorem Jd(base:Int)(n:Nat)(w:World)(h0:0≤base∧base≤18446744073709551615)(hn:n≤1000000000000):
  Calls Tryz.prog 204 #[.int .u64 base,.int .i64 n] w fun r w'=>r=.returned (.bool (Dc base n))∧w=w':=by
 by_cases c1:1≤n
 ·have d1:decide ((1:Int)≤(n:Int))=true:=by simp;omega
  by_cases c2:n≤16
  ·have d2:decide ((n:Int)≤16)=true:=by simp;omega
   by_cases c3:base<4611686018427387904
   ·have hp:poR base=true:=by simp[poR,c3]
    have hc:=GA base;rw[hp] at hc;have HC:=hid hc;clear hc hp;by_cases c4:base+n≤4611686018427387904
    ·have hff:Hid (Dc base n=true):=hid ZE
     have d4:decide (base+(n:Int)≤4611686018427387904)=true:=zI;clear c1 c2;go_enter Tryz.func204,Tryz.ntmps204;go_wp2_with (go_at_call 256;refine (HC.out _).mono ?_;rintro e w' ⟨rfl,rfl⟩)
     go_ret;exact⟨zK,rfl⟩
    ·have hff:Hid (Dc base n=false):=hid ZE
     have d4:decide (base+(n:Int)≤4611686018427387904)=false:=zI;go_enter Tryz.func204,Tryz.ntmps204;go_wp2_with (go_at_call 256;refine (HC.out _).mono ?_;rintro e w' ⟨rfl,rfl⟩)
     go_ret;exact⟨zK,rfl⟩
   ·have hff:Hid (Dc base n=false):=hid ZE
    have hp:poR base=false:=by simp[poR];omega
    have hc:=GA base;rw[hp] at hc;have HC:=hid hc;clear hc hp;go_enter Tryz.func204,Tryz.ntmps204;go_wp2_with (go_at_call 256;refine (HC.out _).mono ?_;rintro e w' ⟨rfl,rfl⟩)
    go_ret;exact⟨zK,rfl⟩
  ·have hff:Hid (Dc base n=false):=hid ZE
   have d2:decide ((n:Int)≤16)=false:=zI;go_enter Tryz.func204,Tryz.ntmps204;go_wp2;go_ret;exact⟨zK,rfl⟩
 ·have hff:Hid (Dc base n=false):=hid ZE
  have d1:decide ((1:Int)≤(n:Int))=false:=zI;go_enter Tryz.func204,Tryz.ntmps204;go_wp2;go_ret;exact⟨zK,rfl⟩
theorem PV(base:Int)(n:Nat)(w:World)(h0:0≤base∧base≤18446744073709551615)(hn:n≤1000000000000):
  Calls Tryz.prog 132 #[.int .u64 base,.int .i64 n] w fun r w'=>r=.returned (.bool (Dc base n))∧w=w':=by
 by_cases c1:1≤n
 ·have d1:decide ((1:Int)≤(n:Int))=true:=by simp;omega
  by_cases c2:n≤16
  ·have d2:decide ((n:Int)≤16)=true:=by simp;omega
   by_cases c3:base<4611686018427387904
   ·have hp:poR base=true:=by simp[poR,c3]
    have hc:=MQ base;rw[hp] at hc;have HC:=hid hc;clear hc hp;by_cases c4:base+n≤4611686018427387904
    ·have hff:Hid (Dc base n=true):=hid ZE
     have d4:decide ((n:Int)≤4611686018427387904-base)=true:=zI;clear c1 c2;go_enter Tryz.func132,Tryz.ntmps132;go_wp2_with (go_at_call 208;refine (HC.out _).mono ?_;rintro e w' ⟨rfl,rfl⟩)
     go_ret;exact⟨zK,rfl⟩
    ·have hff:Hid (Dc base n=false):=hid ZE
     have d4:decide ((n:Int)≤4611686018427387904-base)=false:=zI;go_enter Tryz.func132,Tryz.ntmps132;go_wp2_with (go_at_call 208;refine (HC.out _).mono ?_;rintro e w' ⟨rfl,rfl⟩)
     go_ret;exact⟨zK,rfl⟩
   ·have hff:Hid (Dc base n=false):=hid ZE
    have hp:poR base=false:=by simp[poR];omega
    have hc:=MQ base;rw[hp] at hc;have HC:=hid hc;clear hc hp;go_enter Tryz.func132,Tryz.ntmps132;go_wp2_with (go_at_call 208;refine (HC.out _).mono ?_;rintro e w' ⟨rfl,rfl⟩)
    go_ret;exact⟨zK,rfl⟩
  ·have hff:Hid (Dc base n=false):=hid ZE
   have d2:decide ((n:Int)≤16)=false:=zI;go_enter Tryz.func132,Tryz.ntmps132;go_wp2;go_ret;exact⟨zK,rfl⟩
 ·have hff:Hid (Dc base n=false):=hid ZE
  have d1:decide ((1:Int)≤(n:Int))=false:=zI;go_enter Tryz.func132,Tryz.ntmps132;go_wp2;go_ret;exact⟨zK,rfl⟩
theorem IE(base:Int)(l:List Entry)(k:Nat)(h:k<l.length):Cc (base+k) (l.drop k)=(Dq (base+k) l[k]&&Cc (base+(k+1:Nat)) (l.drop (k+1))):=by
 rw[AD h];show (_&&_)=_
 rw[show base+(k:Int)+1=base+((k+1:Nat):Int) from zD]
def Fair(l:List Entry):Prop:=total l≤1000000000000∧l.length≤1000000000000∧∀e∈l,∀x∈e.links,x.backs.length≤1000000000000
theorem H4(x:Batch)(a:Option Addr)(n c:Nat)(w:World)(h0:0≤x.epoch∧x.epoch≤18446744073709551615)(h1:0≤x.base∧x.base≤18446744073709551615)(hl:AW.r (·<w.heap.size) w [.slice a n c] x.entries)(hfair:Fair x.entries):
  Calls Tryz.prog 143 #[.agg #[.int .u64 x.epoch,.int .u64 x.base,.slice a n c]] w fun r w'=>r=.returned (.bool (A4 x))∧Below w.heap.size w w':=by
 obtain⟨rfl,hm,_,_⟩:=AH hl;obtain⟨ft,fl,fb⟩:=hfair;have FB:=hid fb;clear fb;have HL:=hid hl;clear hl;go_enter Tryz.func143,Tryz.ntmps143;go_wp2_with fail;refine (DW x.epoch _).mono ?_;rintro e w' ⟨rfl,rfl⟩;cases he:epR x.epoch
 ·have hff:Hid (A4 x=false):=hid (by simp[A4,he])
  clear he;go_wp2;go_ret;exact⟨zK,zB⟩
 ·go_wp2_with fail
  refine (Jd x.base x.entries.length _ h1 fl).mono ?_;rintro e w' ⟨rfl,rfl⟩;cases hf:Dc x.base x.entries.length
  ·have hff:Hid (A4 x=false):=hid (by simp[A4,hf])
   clear hf he;go_wp2;go_ret;exact⟨zK,zB⟩
  ·have hfit:1≤x.entries.length∧x.entries.length≤16∧x.base<4611686018427387904∧x.base+x.entries.length≤4611686018427387904:=by simpa [Dc] using hf
   obtain⟨q1,q2,q3,q4⟩:=hfit;have hff:Hid (A4 x=(decide (total x.entries≤1048576)&&Cc x.base x.entries)):=hid (by simp[A4,hf,he]);clear hf he;go_wp2_with fail;refine (Hs x.entries _ _ _ _ (lift HL.out zB) ft).mono ?_;rintro e w1 ⟨rfl,hb1⟩;have hb2:Below w.heap.size w w1:=zB;obtain⟨hc1,hf1⟩:=Pv hb1;by_cases ht:total x.entries≤1048576
   ·have hf2:Hid (A4 x=Cc (x.base+(0:Nat)) (x.entries.drop 0)):=hid (by rw[hff.out,Ad ht];simp)
    have d5:decide (1048576<(total x.entries:Int))=false:=zI;have s0:w1.cell? ⟨w.heap.size,0,none⟩=some (.int .u64 x.epoch):=(hc1 w.heap.size 0 zQ).trans ZJ;have s1:w1.cell? ⟨w.heap.size,1,none⟩=some (.int .u64 x.base):=(hc1 w.heap.size 1 zQ).trans ZJ;have s2:w1.cell? ⟨w.heap.size,2,none⟩=some (.slice a x.entries.length c):=(hc1 w.heap.size 2 zQ).trans ZJ;clear hc1 hf1;have hzb:w.heap.size<w1.heap.size:=Z4;go_wp2_with fail;go_loopw [27] (fun i wr=>∃k:Nat,k≤x.entries.length∧i=.int .i64 k∧Hid (A4 x=Cc (x.base+k) (x.entries.drop k))∧Below w1.heap.size w1 wr) (fun i _=>x.entries.length-(intOf i).toNat)
    case atStart=>exact ⟨0,At _,rfl,hf2,Below.refl _ _⟩
    case round=>
     obtain⟨k,hk,rfl,hf,hb⟩:=hrel;have hb3:=Af hb hb2;have t0:wr.cell? ⟨w.heap.size,0,none⟩=some (.int .u64 x.epoch):=(AE.mk wr hb).cell s0;have t1:wr.cell? ⟨w.heap.size,1,none⟩=some (.int .u64 x.base):=(AE.mk wr hb).cell s1;have t2:wr.cell? ⟨w.heap.size,2,none⟩=some (.slice a x.entries.length c):=(AE.mk wr hb).cell s2;have hz3:w.heap.size<wr.heap.size:=ZS;by_cases hlt:k<x.entries.length
     ·obtain⟨b,o,hA,hbb,a1,c1,a2,c2,hd0,hd1,hr1,hr2⟩:=Eh HL.out hlt
      subst hA;have hst:=hid (IE x.base x.entries k hlt);have hbk:=FB.out _ (AT hlt);have X0:=(hb3.cell (p:=⟨b,o+k*2,none⟩) hbb).trans hd0;have X1:=(hb3.cell (p:=⟨b,o+k*2+1,none⟩) hbb).trans hd1;clear hd0 hd1;have R1:=hid (lift hr1 hb3);have R2:=hid (lift hr2 hb3);clear hr1 hr2;generalize hz:x.entries[k]=z at*;clear hz;have HBK:=hid hbk;clear hbk;have i1:(k:Int)<(x.entries.length:Int):=zD;have p0:0≤x.base+(k:Int):=zD;have p1:x.base+(k:Int)≤18446744073709551615:=zD;go_wp2_with fail;refine (Ht (x.base+(k:Int)) z _ _ _ _ _ _ _ ⟨p0,p1⟩ HBK.out (lift R1.out zB) (lift R2.out zB)).mono ?_;rintro e w4 ⟨rfl,hb4⟩;have hb5:Below w1.heap.size w1 w4:=zB;cases hr:Dq (x.base+(k:Int)) z
      ·have hf3:Hid (A4 x=false):=hid ZN
       clear hr;go_wp2;go_ret;exact⟨ZK,Af hb5 hb2⟩
      ·have hf3:Hid (A4 x=Cc (x.base+(k+1:Nat)) (x.entries.drop (k+1))):=hid ZN
       clear hr;go_wp2;go_roundw
       case rel=>exact ⟨k+1,zD,zT,hf3,hb5⟩
       case measure=>simp [intOf];omega
     ·obtain rfl:k=x.entries.length:=by omega
      have hf3:Hid (A4 x=true):=hid ZG;go_wp2;go_ret;exact⟨ZK,hb3⟩
   ·have hf2:Hid (A4 x=false):=hid (by rw[hff.out,Ae ht];rfl)
    have d5:decide (1048576<(total x.entries:Int))=true:=zI;go_wp2;go_ret;exact⟨by rw[hf2.out];rfl,hb2⟩
theorem Oz(x:Batch)(a:Option Addr)(n c:Nat)(w:World)(h0:0≤x.epoch∧x.epoch≤18446744073709551615)(h1:0≤x.base∧x.base≤18446744073709551615)(hl:AW.r (·<w.heap.size) w [.slice a n c] x.entries)(hfair:Fair x.entries):
  Calls Tryz.prog 90 #[.agg #[.int .u64 x.epoch,.int .u64 x.base,.slice a n c]] w fun r w'=>r=.returned (.bool (A4 x))∧Below w.heap.size w w':=by
 obtain⟨rfl,hm,_,_⟩:=AH hl;obtain⟨ft,fl,fb⟩:=hfair;have FB:=hid fb;clear fb;have HL:=hid hl;clear hl;go_enter Tryz.func90,Tryz.ntmps90;go_wp2_with fail;refine (Kv x.epoch h0.1 _).mono ?_;rintro e w' ⟨rfl,rfl⟩;cases he:epR x.epoch
 ·have hff:Hid (A4 x=false):=hid (by simp[A4,he])
  clear he;go_wp2;go_ret;exact⟨zK,zB⟩
 ·go_wp2_with fail
  refine (PV x.base x.entries.length _ h1 fl).mono ?_;rintro e w' ⟨rfl,rfl⟩;cases hf:Dc x.base x.entries.length
  ·have hff:Hid (A4 x=false):=hid (by simp[A4,hf])
   clear hf he;go_wp2;go_ret;exact⟨zK,zB⟩
  ·have hfit:1≤x.entries.length∧x.entries.length≤16∧x.base<4611686018427387904∧x.base+x.entries.length≤4611686018427387904:=by simpa [Dc] using hf
   obtain⟨q1,q2,q3,q4⟩:=hfit;have hff:Hid (A4 x=(decide (total x.entries≤1048576)&&Cc x.base x.entries)):=hid (by simp[A4,hf,he]);clear hf he;go_wp2_with fail;refine (PX x.entries _ _ _ _ (lift HL.out zB) ft).mono ?_;rintro e w1 ⟨v,rfl,hvr,hb1⟩;obtain⟨av,cv,hv,_,_⟩:=AJ hvr;simp only[As,AF] at hv;subst hv;rw[Dh];clear hvr;have hb2:Below w.heap.size w w1:=zB;obtain⟨hc1,hf1⟩:=Pv hb1;by_cases ht:total x.entries≤1048576
   ·have hf2:Hid (A4 x=Cc (x.base+(0:Nat)) (x.entries.drop 0)):=hid (by rw[hff.out,Ad ht];simp)
    have d5:decide (1048576<(total x.entries:Int))=false:=zI;have s0:w1.cell? ⟨w.heap.size,0,none⟩=some (.int .u64 x.epoch):=(hc1 w.heap.size 0 zQ).trans ZJ;have s1:w1.cell? ⟨w.heap.size,1,none⟩=some (.int .u64 x.base):=(hc1 w.heap.size 1 zQ).trans ZJ;have s2:w1.cell? ⟨w.heap.size,2,none⟩=some (.slice a x.entries.length c):=(hc1 w.heap.size 2 zQ).trans ZJ;clear hc1 hf1;have hzb:w.heap.size<w1.heap.size:=Z4;go_wp2_with fail;go_loopw [3] (fun i wr=>∃k:Nat,k≤x.entries.length∧i=.int .i64 k∧Hid (A4 x=Cc (x.base+k) (x.entries.drop k))∧Below w1.heap.size w1 wr) (fun i _=>x.entries.length-(intOf i).toNat)
    case atStart=>exact ⟨0,At _,rfl,hf2,Below.refl _ _⟩
    case round=>
     obtain⟨k,hk,rfl,hf,hb⟩:=hrel;have hb3:=Af hb hb2;have t0:wr.cell? ⟨w.heap.size,0,none⟩=some (.int .u64 x.epoch):=(AE.mk wr hb).cell s0;have t1:wr.cell? ⟨w.heap.size,1,none⟩=some (.int .u64 x.base):=(AE.mk wr hb).cell s1;have t2:wr.cell? ⟨w.heap.size,2,none⟩=some (.slice a x.entries.length c):=(AE.mk wr hb).cell s2;have hz3:w.heap.size<wr.heap.size:=ZS;by_cases hlt:k<x.entries.length
     ·obtain⟨b,o,hA,hbb,a1,c1,a2,c2,hd0,hd1,hr1,hr2⟩:=Eh HL.out hlt
      subst hA;have hst:=hid (IE x.base x.entries k hlt);have hbk:=FB.out _ (AT hlt);have X0:=(hb3.cell (p:=⟨b,o+k*2,none⟩) hbb).trans hd0;have X1:=(hb3.cell (p:=⟨b,o+k*2+1,none⟩) hbb).trans hd1;clear hd0 hd1;have R1:=hid (lift hr1 hb3);have R2:=hid (lift hr2 hb3);clear hr1 hr2;generalize hz:x.entries[k]=z at*;clear hz;have HBK:=hid hbk;clear hbk;have i1:(k:Int)<(x.entries.length:Int):=zD;have p0:0≤x.base+(k:Int):=zD;have p1:x.base+(k:Int)≤18446744073709551615:=zD;have T1:=fun s:AE wr=>s.cell t1;have T2:=fun s:AE wr=>s.cell t2;have Y0:=fun s:AE wr=>s.cell X0;have Y1:=fun s:AE wr=>s.cell X1;have hE:=fun s:AE wr=>OB (x.base+(k:Int)) z a1 a2 _ c1 _ c2 s.at_ (lift R1.out s.below) (lift R2.out s.below);cases hr:Dq (x.base+(k:Int)) z
      ·have hf3:Hid (A4 x=false):=hid ZN
       rw[hr] at hE;have HE:=hid hE;clear hE hr;go_wp2_with fail;refine Ax zJ zJ ?_;repeat (go_big_quiet_step (((go_at_call 152;exact A9 (HE.out _)))))
       refine AI ?_;rintro W5 ⟨⟨W5',hb5⟩,rfl⟩;go_wp2;go_ret;exact⟨ZK,Af hb5 hb3⟩
      ·have hf3:Hid (A4 x=Cc (x.base+(k+1:Nat)) (x.entries.drop (k+1))):=hid ZN
       rw[hr] at hE;have HE:=hid hE;clear hE hr;go_wp2_with fail;refine Ax zJ zJ ?_;repeat (go_big_quiet_step (((go_at_call 152;exact A9 (HE.out _)))))
       refine AI ?_;rintro W5 ⟨⟨W5',hb5⟩,rfl⟩;go_wp2;go_roundw
       case rel=>exact ⟨k+1,zD,zT,hf3,Af hb5 hb⟩
       case measure=>simp [intOf];omega
     ·obtain rfl:k=x.entries.length:=by omega
      have hf3:Hid (A4 x=true):=hid ZG;go_wp2;go_ret;exact⟨ZK,hb3⟩
   ·have hf2:Hid (A4 x=false):=hid (by rw[hff.out,Ae ht];rfl)
    have d5:decide (1048576<(total x.entries:Int))=true:=zI;go_wp2;go_ret;exact⟨by rw[hf2.out];rfl,hb2⟩
def En(e:Int)(prev:Option Batch)(b:Batch):Bool:=decide (b.epoch≤e)&&(match prev with | none=>true | some p=>decide (p.epoch≤b.epoch)&&decide (p.base+p.entries.length≤b.base))
def DL(e:Int):Option Batch→List Batch→Bool
 | _,[]=>true
 | p,b::l=>A4 b&&(En e p b&&DL e (some b) l)
def Df(g:Seg):Bool:=epR g.epoch&&(decide (g.batches.length≤16)&&DL g.epoch none g.batches)
def BM(l:List Batch)(k:Nat):Option Batch:=if k=0 then none else l[k-1]?
theorem KM(e:Int)(l:List Batch)(k:Nat)(h:k<l.length):DL e (BM l k) (l.drop k)=(A4 l[k]&&(En e (BM l k) l[k]&&DL e (BM l (k+1)) (l.drop (k+1)))):=by
 rw[AD h];have:BM l (k+1)=some l[k]:=by unfold BM;rw[Ah zD];simp[h]
 rw[this];rfl
theorem Ie{α:Type}{A:Rp α}{xs:List α}(h:(rSl sz A).r S w [.slice a n c] xs)(hk:k≤xs.length):(rSl sz A).r S w [.slice a k c] (xs.take k):=by
 obtain⟨a',c',e,h1,h2,h3⟩:=h;simp at e;obtain⟨rfl,rfl,rfl⟩:=e;have hl:(xs.take k).length=k:=zI;refine BL (by rw[hl]) zD h2 ?_;rcases h3 with rfl | ⟨b,off,rfl,hS,hr⟩
 ·exact .inl zQ
 ·refine .inr ⟨b,off,rfl,hS,fun i x hi=>hr i x ?_⟩
  rw[Du] at hi;split at hi
  ·exact hi
  ·cases hi
theorem SE(e b:Int)(a:Option Addr)(n c:Nat)(w:World)(h0:0≤b)(h:b+n≤18446744073709551615)(hn:n≤9223372036854775807):
  Calls Tryz.prog 218 #[.agg #[.int .u64 e,.int .u64 b,.slice a n c]] w fun r w'=>r=.returned (.int .u64 (b+n))∧Below w.heap.size w w':=by
 go_enter Tryz.func218,Tryz.ntmps218;go_wp2;go_ret;exact⟨rfl,zB⟩
theorem Kp(e:Int)(l:List Batch)(x:Batch)(a a':Option Addr)(n c n' c':Nat)(w:World)(hl:Bf.r (·<w.heap.size) w [.slice a n c] l)(hp:∀p∈l,p.base+p.entries.length≤18446744073709551615):
  Calls Tryz.prog 144 #[.agg #[.int .u64 e,.slice a n c],.agg #[.int .u64 x.epoch,.int .u64 x.base,.slice a' n' c']] w fun r w'=>r=.returned (.bool (En e (BM l l.length) x))∧Below w.heap.size w w':=by
 obtain⟨rfl,hm,_,_⟩:=AH hl;have HL:=hid hl;clear hl;have HP:=hid hp;clear hp;by_cases h1:e<x.epoch
 ·have hff:Hid (En e (BM l l.length) x=false):=hid zBp
  go_enter Tryz.func144,Tryz.ntmps144;go_wp2;go_ret;exact⟨zK,zB⟩
 ·by_cases h2:l.length=0
  ·have hff:Hid (En e (BM l l.length) x=true):=hid zBl
   have e2:((l.length:Int)==0)=true:=by simp[h2]
   clear h2;go_enter Tryz.func144,Tryz.ntmps144;go_wp2_with fail;go_quiet (fail)
   go_wp2;go_ret;exact⟨zK,zB⟩
  ·obtain⟨m,hmm⟩:∃m,l.length=m+1:=⟨l.length-1,zD⟩
   obtain⟨b,o,hA,hbb,a1,c1,hd0,hd1,hd2,r0,r1,hd⟩:=F3 HL.out (show m<l.length by omega);have hpm:=HP.out _ (AT (show m<l.length by omega));obtain⟨_,hm2,_,_⟩:=AH hd;have hprev:BM l (m+1)=some l[m]:=zAy;generalize hz:l[m]=z at*;clear hz hd;have hff:Hid (En e (BM l l.length) x=(decide (z.epoch≤x.epoch)&&decide (z.base+z.entries.length≤x.base))):=hid (by simp only[En];rw[Ad (by omega),hmm,hprev];rfl);subst hA;have i4:wrap64 (m:Int)=m:=by simp only[wrap64];omega
   have HMM:=hid hmm;rw[hmm];clear h2 hprev hmm;have e2:((m:Int)+1==0)=false:=zI;have i2:(0:Int)≤(m:Int):=zD;have i3:(m:Int)<(m:Int)+1:=zD;have F:Below w.heap.size w ((w.alloc (.cells #[.int .u64 e,.slice (some ⟨b,o,none⟩) (m+1) c] 63)).alloc (.cells #[.int .u64 x.epoch,.int .u64 x.base,.slice a' n' c'] 48)):=zB;have X0:=fun s:AE ((w.alloc (.cells #[.int .u64 e,.slice (some ⟨b,o,none⟩) (m+1) c] 63)).alloc (.cells #[.int .u64 x.epoch,.int .u64 x.base,.slice a' n' c'] 48))=>s.cell ((F.cell (p:=⟨b,o+m*3,none⟩) hbb).trans hd0);have X1:=fun s:AE ((w.alloc (.cells #[.int .u64 e,.slice (some ⟨b,o,none⟩) (m+1) c] 63)).alloc (.cells #[.int .u64 x.epoch,.int .u64 x.base,.slice a' n' c'] 48))=>s.cell ((F.cell (p:=⟨b,o+m*3+1,none⟩) hbb).trans hd1);have X2:=fun s:AE ((w.alloc (.cells #[.int .u64 e,.slice (some ⟨b,o,none⟩) (m+1) c] 63)).alloc (.cells #[.int .u64 x.epoch,.int .u64 x.base,.slice a' n' c'] 48))=>s.cell ((F.cell (p:=⟨b,o+m*3+2,none⟩) hbb).trans hd2);have Y0:=fun s:AE ((w.alloc (.cells #[.int .u64 e,.slice (some ⟨b,o,none⟩) (m+1) c] 63)).alloc (.cells #[.int .u64 x.epoch,.int .u64 x.base,.slice a' n' c'] 48))=>s.cell (v:=.slice (some ⟨b,o,none⟩) (m+1) c) (b:=w.heap.size) (o:=1) ZJ;have Y1:=fun s:AE ((w.alloc (.cells #[.int .u64 e,.slice (some ⟨b,o,none⟩) (m+1) c] 63)).alloc (.cells #[.int .u64 x.epoch,.int .u64 x.base,.slice a' n' c'] 48))=>s.cell (v:=.int .u64 x.epoch) (b:=w.heap.size+1) (o:=0) ZJ;have Y2:=fun s:AE ((w.alloc (.cells #[.int .u64 e,.slice (some ⟨b,o,none⟩) (m+1) c] 63)).alloc (.cells #[.int .u64 x.epoch,.int .u64 x.base,.slice a' n' c'] 48))=>s.cell (v:=.int .u64 x.base) (b:=w.heap.size+1) (o:=1) ZJ;clear hd0 hd1 hd2;have FF:=hid F;clear F;have hE:=fun s:AE ((w.alloc (.cells #[.int .u64 e,.slice (some ⟨b,o,none⟩) (m+1) c] 63)).alloc (.cells #[.int .u64 x.epoch,.int .u64 x.base,.slice a' n' c'] 48))=>SE z.epoch z.base a1 z.entries.length c1 s.at_ r1.1 hpm hm2;have HE:=hid hE;clear hE;by_cases g1:z.epoch≤x.epoch
   ·have d1:decide (z.epoch≤x.epoch)=true:=by simpa using g1
    have hf2:Hid (En e (BM l l.length) x=decide (z.base+z.entries.length≤x.base)):=hid (by rw[hff.out,d1];rfl);go_enter Tryz.func144,Tryz.ntmps144;go_wp2_with fail;refine Ax zJ zJ ?_;repeat (go_big_quiet_step (((go_at_call 218;exact A9 (HE.out _)))))
    refine AI ?_;rintro W5 ⟨⟨W5',hb5⟩,rfl⟩;go_wp2;go_ret;have FO:=FF.out;refine⟨?_,zB⟩;rw[←HMM.out,hf2.out];rfl
   ·have d1:decide (z.epoch≤x.epoch)=false:=by simpa using g1
    have hf2:Hid (En e (BM l l.length) x=false):=hid (by rw[hff.out,d1];rfl);clear g1;go_enter Tryz.func144,Tryz.ntmps144;go_wp2_with fail;refine Ax zJ zJ ?_;repeat (go_big_quiet_step (fail))
    refine AI ?_;rintro W5 ⟨⟨W5',hb5⟩,rfl⟩;go_wp2;go_ret;have FO:=FF.out;refine⟨?_,zB⟩;rw[←HMM.out,hf2.out];rfl
end Go.Proofs.YtfddhafbhceoaaaGreat
