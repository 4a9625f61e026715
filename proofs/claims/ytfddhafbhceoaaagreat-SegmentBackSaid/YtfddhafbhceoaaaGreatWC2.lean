/- Mini: Needed by segmentOnce_walk, part 2: texts put together by shake.py; no condition. -/
import Derived.Test.YtfddhafbhceoaaaGreatWC1
import Derived.Test.YtfddhafbhceoaaaGreatRows
import Derived.Deep.AppendLies
import Derived.Maps.OwnOps
import Derived.Maps.Views
import Derived.Sort.QuietThIn
import Derived.Sort.BigQuietIn
import Derived.Sort.QuietTacIn
import Derived.RangeFuncNested
import Derived.RangeFuncBound
import Derived.RangeFuncCalls
import Derived.RangeFuncLeaves
import Derived.Shelf.Abstract
import Derived.Shelf.RegionOpen
import Derived.OwnWalkIn
import Derived.TacticsInMore
import Derived.LoopNIn
import Derived.LoopIn
import Derived.Maps.OwnIn
import Derived.StillTailTactics
set_option linter.unusedVariables false
set_option linter.unusedSimpArgs false
set_option maxRecDepth 100000
set_option maxHeartbeats 6400000
namespace Go.Bs
variable{b:List UInt8}{cs xs:List Value}{base c g i k n o off p sz:Nat}{S:Nat → Prop}{a:Option Addr}{e t:TypeId}{v v':Value}{W W' w:World}
theorem zB2{p:Prop}(h:p:=by rw [hkv.out, hk]):p:=h
theorem zB0{p:Prop}(h:p:=by simp only; omega):p:=h
theorem zBa{p:Prop}(h:p:=by unfold reach; omega):p:=h
theorem zAp{p:Prop}(h:p:=by rw [hsz]; omega):p:=h
theorem ZX{p:Prop}(h:p:=by rw [hb.block g (Array.getElem?_eq_some_iff.1 h3).1]; exact h3):p:=h
theorem ZB{p:Prop}(h:p:=by intro u hu; simp at hu; subst hu; rfl):p:=h
theorem ZA{p:Prop}(h:p:=by have := (List.getElem?_eq_some_iff.1 hj).1; rw [hsz _ (AT hic)] at this; exact this):p:=h
theorem zY{p:Prop}(h:p:=by simp [World.setCell]):p:=h
theorem Al:type_of% @List.length_append:=@List.length_append
theorem An:type_of% @bodyPost_ret:=@bodyPost_ret
theorem Ar:type_of% @decide_eq_true_eq:=@decide_eq_true_eq
theorem AO:type_of% @results_none:=@results_none
theorem A5:type_of% @Option.some.inj:=@Option.some.inj
theorem A6:type_of% @Nat.le_trans:=@Nat.le_trans
theorem A8:type_of% @List.nil_append:=@List.nil_append
theorem Bc:type_of% @congrArg:=@congrArg
theorem By:type_of% @List.length_nil:=@List.length_nil
theorem BE:type_of% @World.frozen?_of_block:=@World.frozen?_of_block
theorem BG:type_of% @Nat.mul_le_mul_right:=@Nat.mul_le_mul_right
theorem Dt:type_of% @Nat.mod_eq_of_lt:=@Nat.mod_eq_of_lt
theorem EY:type_of% @List.flatten_append:=@List.flatten_append
theorem Ic:type_of% @Addr.mk.injEq:=@Addr.mk.injEq
theorem K0:type_of% @List.cons_append:=@List.cons_append
def Fe(b:List UInt8)(off:Nat):Nat→Nat→Nat
 | 0,_=>0
 | f+1,p=>if p<b.length∧b[p]? =b[p-off]? then Fe b off f (p+1)+1 else 0
def CP(b:List UInt8)(p off:Nat):Nat:=if p<b.length∧1≤off∧off≤p then Fe b off (b.length-p) p else 0
theorem MO(b:List UInt8)(off:Nat):∀f p,Fe b off f p≤f
 | 0,_=>Ap _
 | f+1,p=>by
  unfold Fe;split
  ·have:=MO b off f (p+1);omega
  ·omega
theorem K9(b:List UInt8)(p off:Nat):CP b p off≤b.length-p:=by
 unfold CP;split
 ·exact MO ..
 ·omega
theorem Kr(b:List UInt8)(off:Nat):∀f p k,k<Fe b off f p→p+k<b.length∧b[p+k]? =b[p+k-off]?
 | 0,_,k,h=>by simp[Fe] at h
 | f+1,p,k,h=>by
  unfold Fe at h;split at h
  ·rename_i hc
   cases k with
   | zero=>exact hc
   | succ k=>
    have:=Kr b off f (p+1) k zD;rw[show p+(k+1)=p+1+k by omega];exact this
  ·omega
theorem MP(b:List UInt8)(off:Nat):∀f p k,k≤f→(∀j,j<k→p+j<b.length∧b[p+j]? =b[p+j-off]?)→k≤Fe b off f p
 | _,_,0,_,_=>At _
 | 0,_,k+1,h,_=>by omega
 | f+1,p,k+1,h,hs=>by
  unfold Fe;rw[Ai (by simpa using hs 0 (by omega))];have:=MP b off f (p+1) k zD fun j hj=>by
   have:=hs (j+1) zD;rw[show p+(j+1)=p+1+j by omega] at this;exact this
  omega
theorem Ua(h1:1≤off)(h2:off≤p)(hp:p<b.length)(h:∀j,j<k→p+j<b.length∧b[p+j]? =b[p+j-off]?):k≤CP b p off:=by
 unfold CP;rw[Ai ⟨hp,h1,h2⟩];refine MP _ _ _ _ _ ?_ h;rcases CZ k with rfl | h0
 ·exact At _
 ·have:=(h (k-1) zD).1;omega
theorem MX(h:k<CP b p off):1≤off∧off≤p∧p+k<b.length∧b[p+k]? =b[p+k-off]? :=by
 unfold CP at h;split at h
 ·rename_i hc
  exact⟨hc.2.1,hc.2.2,Kr _ _ _ _ _ h⟩
 ·omega
def J4(b:List UInt8)(p:Nat):Nat→Nat
 | 0=>0
 | k+1=>max (J4 b p k) (CP b p (k+1))
def firstM(b:List UInt8)(p m:Nat):Nat→Nat→Nat
 | 0,_=>0
 | f+1,o=>if CP b p o=m then o else firstM b p m f (o+1)
theorem NQ(b:List UInt8)(p:Nat):∀k o,1≤o→o≤k→CP b p o≤J4 b p k
 | 0,o,h1,h2=>by omega
 | k+1,o,h1,h2=>by
  simp only[J4];by_cases h:o=k+1
  ·subst h;omega
  ·have:=NQ b p k o h1 zD;omega
theorem La(b:List UInt8)(p:Nat):∀k,J4 b p k=0∨∃o,1≤o∧o≤k∧CP b p o=J4 b p k
 | 0=> .inl rfl
 | k+1=>by
  simp only[J4];rcases Nat.le_total (J4 b p k) (CP b p (k+1)) with h | h
  ·rw[Nat.max_eq_right h]
   exact .inr ⟨k+1,zD,Ap _,rfl⟩
  ·rw[Nat.max_eq_left h]
   rcases La b p k with h0 | ⟨o,h1,h2,h3⟩
   ·exact .inl h0
   ·exact .inr ⟨o,h1,zD,h3⟩
theorem Nd(b:List UInt8)(p m:Nat):∀f o o',o≤o'→o'<o+f→CP b p o'=m→(∀j,o≤j→j<o'→CP b p j≠m)→firstM b p m f o=o'
 | 0,o,o',h1,h2,_,_=>by omega
 | f+1,o,o',h1,h2,h3,h4=>by
  unfold firstM;by_cases h:o=o'
  ·subst h;rw[Ai h3]
  ·rw[Ah (h4 o (Ap _) zD)]
   exact Nd b p m f (o+1) o' zD zD h3 fun j h5 h6=>h4 j zD h6
def reach(p:Nat):Nat:=min p 65536
def BU(b:List UInt8)(p:Nat):Nat × Nat:=
 if 4≤J4 b p (reach p) then (firstM b p (J4 b p (reach p)) (reach p) 1,J4 b p (reach p)) else (0,0)
theorem OU(b:List UInt8)(p m:Nat):∀k,(∃o,1≤o∧o≤k∧CP b p o=m)→∃o,1≤o∧o≤k∧CP b p o=m∧∀j,1≤j→j<o→CP b p j≠m
 | 0,⟨o,h1,h2,_⟩=>by omega
 | k+1,⟨o,h1,h2,h3⟩=>by
  by_cases h:∃o,1≤o∧o≤k∧CP b p o=m
  ·obtain⟨o,g1,g2,g3,g4⟩:=OU b p m k h
   exact⟨o,g1,zD,g3,g4⟩
  ·refine⟨o,h1,h2,h3,fun j j1 j2 j3=>h ⟨j,j1,zD,j3⟩⟩
theorem Mo{m:Nat}(h1:1≤o)(h2:o≤reach p)(h4:4≤m)(hm:CP b p o=m)(hall:∀j,1≤j→j≤reach p→CP b p j≤m)(hlt:∀j,1≤j→j<o→CP b p j<m):BU b p=(o,m):=by
 have e:J4 b p (reach p)=m:=by
  have:=NQ b p (reach p) o h1 h2;rcases La b p (reach p) with h | ⟨o',g1,g2,g3⟩
  ·omega
  ·have:=hall o' g1 g2;omega
 unfold BU;rw[e,Ai h4,Nd b p m (reach p) 1 o h1 zD hm fun j j1 j2=>by have:=hlt j j1 j2;omega]
theorem QY(h:∀j,1≤j→j≤reach p→CP b p j<4):BU b p=(0,0):=by
 unfold BU;rw[Ah];rcases La b p (reach p) with h0 | ⟨o',g1,g2,g3⟩
 ·omega
 ·have:=h o' g1 g2;omega
theorem Hz(b:List UInt8)(p:Nat):BU b p=(0,0)∨∃o m,BU b p=(o,m)∧1≤o∧o≤reach p∧4≤m∧CP b p o=m∧(∀j,1≤j→j≤reach p→CP b p j≤m)∧∀j,1≤j→j<o→CP b p j<m:=by
 by_cases h:4≤J4 b p (reach p)
 ·right
  rcases La b p (reach p) with h0 | hx
  ·omega
  ·obtain⟨o,g1,g2,g3,g4⟩:=OU b p _ _ hx
   have hall:=fun j (j1:1≤j) (j2:j≤reach p)=>NQ b p _ j j1 j2;have hlt:∀j,1≤j→j<o→CP b p j<J4 b p (reach p):=fun j j1 j2=>by
    have:=hall j j1 zD;have:=g4 j j1 j2;omega
   exact⟨o,_,Mo g1 g2 h g3 hall hlt,g1,g2,h,g3,hall,hlt⟩
 ·left
  unfold BU;rw[Ah h]
theorem Jb(b:List UInt8)(p:Nat):(BU b p).2≤b.length-p∧(BU b p).1≤p:=by
 rcases Hz b p with h | ⟨o,m,h,_,h2,_,h4,_⟩
 ·rw[h];exact⟨At _,At _⟩
 ·rw[h]
  have:=K9 b p o;simp only[reach] at h2;exact⟨zB0,zB0⟩
structure Tok where
 lit:List UInt8
 off:Int
 len:Int
 deriving DecidableEq
def Fm(b:List UInt8)(i j:Nat):List Tok:=if i<j then [⟨(b.drop i).take (j-i),0,0⟩] else []
def Ed(b:List UInt8):Nat→Nat→Nat→List Tok
  | 0,_,i=>Fm b i b.length
  | f+1,p,i=>if p<b.length then
      (if (BU b p).2=0 then Ed b f (p+1) i
       else Fm b i p++⟨[],(BU b p).1,(BU b p).2⟩::Ed b f (p+(BU b p).2) (p+(BU b p).2))
      else Fm b i b.length
def Ec(b:List UInt8):List Tok:=Ed b b.length 0 0
theorem GD(b:List UInt8):∀f g p i,b.length≤p+f→b.length≤p+g→Ed b f p i=Ed b g p i
 | 0,0,_,_,_,_=>rfl
 | 0,g+1,p,i,h,_=>by
  simp only[Ed];rw[Ah zD]
 | f+1,0,p,i,_,h=>by
  simp only[Ed];rw[Ah zD]
 | f+1,g+1,p,i,h1,h2=>by
  simp only[Ed];split
  ·split
   ·exact GD b f g (p+1) i zD zD
   ·rename_i hn
    rw[GD b f g (p+(BU b p).2) (p+(BU b p).2) zD zD]
  ·rfl
def Ir(b:List UInt8)(p i:Nat):List Tok:=Ed b (b.length-p) p i
theorem PH(hp:p<b.length)(h:(BU b p).2=0):Ir b p i=Ir b (p+1) i:=by
 unfold Ir;obtain⟨f,hf⟩:∃f,b.length-p=f+1:=⟨b.length-p-1,zD⟩;rw[hf];simp only[Ed];rw[Ai hp,Ai h];exact GD b _ _ _ _ zD zD
theorem PG(hp:p<b.length)(h:(BU b p).2≠0):Ir b p i=Fm b i p++⟨[],(BU b p).1,(BU b p).2⟩::Ir b (p+(BU b p).2) (p+(BU b p).2):=by
 unfold Ir;obtain⟨f,hf⟩:∃f,b.length-p=f+1:=⟨b.length-p-1,zD⟩;rw[hf];simp only[Ed];rw[Ai hp,Ah h];congr 2
 exact GD b _ _ _ _ zD zD
theorem RC(hp:b.length≤p):Ir b p i=Fm b i b.length:=by
 unfold Ir;rw[show b.length-p=0 by omega];rfl
def C6(b:List UInt8)(p:Nat):Option Nat:=
 match b[p]?,b[p+1]?,b[p+2]?,b[p+3]? with
 | some a,some c,some d,some e=>some (a.toNat+256*c.toNat+65536*d.toNat+16777216*e.toNat)
 | _,_,_,_=>none
def DO(b:List UInt8)(k:Nat):Nat→Nat
 | 0=>0
 | j+1=>if C6 b j=some k then j+1 else DO b k j
theorem JF(b:List UInt8)(k:Nat):∀j,DO b k j≤j
 | 0=>Ap _
 | j+1=>by
  unfold DO;split
  ·omega
  ·have:=JF b k j;omega
theorem M4(b:List UInt8)(k:Nat):∀j,DO b k j≠0→C6 b (DO b k j-1)=some k
 | 0,h=>absurd rfl h
 | j+1,h=>by
  unfold DO at h ⊢;split
  ·rename_i hk;simpa using hk
  ·rename_i hk
   rw[Ah hk] at h;exact M4 b k j h
open Go.RowKit
section
variable {w w':World} {α:Type}
def Cd(lo:Nat)(A:Rp α)(base:Nat)(e:TypeId)(sz:Nat)(w:World)(v:Value)(xs:List α)(cells:List (List Value)):Prop:=
 w.ownsRow base e sz v xs.length cells.flatten∧cells.length=xs.length∧(∀c∈cells,c.length=sz)∧
  ∀(i:Nat) cs x,cells[i]? =some cs→xs[i]? =some x→A.r (fun b=>lo≤b∧b<w.heap.size∧v.ownBlock≠some b) w cs x
def AZ(lo:Nat)(A:Rp α)(base:Nat)(e:TypeId)(sz:Nat)(w:World)(v:Value)(xs:List α):Prop:=∃cells,Cd lo A base e sz w v xs cells
theorem GP(sz:Nat):∀(l:List (List Value)),(∀c∈l,c.length=sz)→∀(i j:Nat) cs v,l[i]? =some cs→cs[j]? =some v→l.flatten[i*sz+j]? =some v
 | [],_,i,j,cs,v,h,_=>by simp at h
 | c::l,hl,i,j,cs,v,h,hj=>by
  have hc:=hl c (List.mem_cons_self ..);rw[List.flatten_cons];cases i with
  | zero=>
   simp at h;subst h;have:=(List.getElem?_eq_some_iff.1 hj).1;rw[Nat.zero_mul,Bj,CE zD];exact hj
  | succ i=>
   simp at h;rw[Cr (by rw[hc,Nat.succ_mul];omega),hc,show (i+1)*sz+j-sz=i*sz+j by rw[Nat.succ_mul];omega];exact GP sz l (fun c h=>hl c (List.mem_cons_of_mem _ h)) i j cs v h hj
theorem AZ.nil{lo:Nat}{A:Rp α}:AZ lo A base e sz w (.slice none 0 0) []:=
 ⟨[],⟨zQ,.inl ⟨rfl,rfl⟩⟩,rfl,zQ,fun i cs x h=>by simp at h⟩
theorem AZ.slice{lo:Nat}{A:Rp α}{v:Value}{xs:List α}(hlo:lo≤base)(h:AZ lo A base e sz w v xs):(rSl sz A).r (fun b=>lo≤b∧b<w.heap.size) w [v] xs:=by
 obtain⟨cells,hown,hlen,hsz,hA⟩:=h;rcases hown.2 with ⟨rfl,h0⟩ | ⟨g,cap,cur,rfl,hbg,hg,hn,hc,hcur,hx⟩
 ·have:xs=[]:=AS h0
  subst this;exact BL rfl (Ap _) (At _) (.inl rfl)
 ·refine BL rfl hn hc (.inr ⟨g,0,rfl,⟨A6 hlo hbg,(Array.getElem?_eq_some_iff.1 hg).1⟩,fun i x hi=> ?_⟩)
  have hi':i<xs.length:=(List.getElem?_eq_some_iff.1 hi).1;have hic:i<cells.length:=zD;have hcs:cells[i]? =some cells[i]:=AM hic;refine⟨cells[i],hsz _ (AT hic),fun j v hj=> ?_,A.mono (hA i _ x hcs hi) fun b h=>⟨h.1,h.2.1⟩⟩;have hj':j<sz:=ZA;have hf:=GP sz cells hsz i j _ v hcs hj;rw[Bj,show (⟨g,i*sz+j,none⟩:Addr)=⟨g,i*sz+j,none⟩ from rfl,Blk.cell hg (i*sz+j)];have hb:i*sz+j<xs.length*sz:=by
   have:=BG sz (show i+1≤xs.length from hi');rw[Nat.succ_mul] at this;omega
  have e1:cur[i*sz+j]? =(cur.toList.take (xs.length*sz))[i*sz+j]? :=by
   rw[Du,Ai hb];simp
  rw[e1,hx];exact hf
def TY{α:Type}(sz:Nat)(A:Rp α):Rp (List α):=
  ⟨fun S w cs xs=>∃a c,cs=[.slice a xs.length c]∧xs.length≤c∧c≤maxLen∧(xs=[]∨∃b off,a=some ⟨b,off,none⟩∧S b∧∀(i:Nat) x,xs[i]? =some x→∃cs:List Value,cs.length=sz∧
      (∀(j:Nat) v,cs[j]? =some v→w.cell? ⟨b,off+i*sz+j,none⟩=some v∧w.frozen? ⟨b,off+i*sz+j,none⟩=false)∧A.r (fun q=>S q∧q≠b) w cs x),
   fun ⟨a,c,h,h1,h2,h3⟩ hk=>⟨a,c,h,h1,h2,h3.imp id fun ⟨b,off,e,hb,hr⟩=>⟨b,off,e,hb,fun i x hi=>
     let ⟨cs,hl,hc,hA⟩:=hr i x hi
     ⟨cs,hl,fun j v hj=>⟨(AQ (a:=⟨b,off+i*sz+j,none⟩) (hk b hb)).trans (hc j v hj).1,(BE (a:=⟨b,off+i*sz+j,none⟩) (hk b hb)).trans (hc j v hj).2⟩,A.keep hA fun q hq=>hk q hq.1⟩⟩⟩,
   fun ⟨a,c,h,h1,h2,h3⟩ hk=>⟨a,c,h,h1,h2,h3.imp id fun ⟨b,off,e,hb,hr⟩=>⟨b,off,e,hk b hb,fun i x hi=>
     let ⟨cs,hl,hc,hA⟩:=hr i x hi
     ⟨cs,hl,hc,A.mono hA fun q hq=>⟨hk q hq.1,hq.2⟩⟩⟩⟩⟩
theorem SZ{A:Rp α}{xs:List α}(h:(TY sz A).r S w cs xs):(rSl sz A).r S w cs xs:=by
 obtain⟨a,c,h1,h2,h3,h4⟩:=h;refine⟨a,c,h1,h2,h3,h4.imp id fun ⟨b,off,e,hb,hr⟩=>⟨b,off,e,hb,fun i x hi=> ?_⟩⟩;obtain⟨cs,h5,h6,h7⟩:=hr i x hi;exact⟨cs,h5,fun j v hj=>(h6 j v hj).1,A.mono h7 fun q hq=>hq.1⟩
theorem TX{A A':Rp α}{S:Nat→Prop}{cs:List Value}{xs:List α}(hA:∀S cs x,A.r S w cs x→A'.r S w cs x)(h:(rSl sz A).r S w cs xs):(rSl sz A').r S w cs xs:=by
 obtain⟨a,c,h1,h2,h3,h4⟩:=h;refine⟨a,c,h1,h2,h3,h4.imp id fun ⟨b,off,e,hb,hr⟩=>⟨b,off,e,hb,fun i x hi=> ?_⟩⟩;obtain⟨cs,h5,h6,h7⟩:=hr i x hi;exact⟨cs,h5,h6,hA _ _ _ h7⟩
def DZ:Rp (List Ba):=TY 2 Jr
def ED:Rp Entry:=rBy (fun e=>(e.links,e.data)) (Hd DZ Ag)
def Bu:Rp (List Entry):=TY 2 ED
theorem EI{x:List Ba}(h:DZ.r S w cs x):Cb.r S w cs x:=SZ h
theorem N6{x:Entry}(h:ED.r S w cs x):NH.r S w cs x:=
 let ⟨c,d,e,h1,h2⟩:=h
 ⟨c,d,e,EI h1,h2⟩
theorem Bv{x:List Entry}(h:Bu.r S w cs x):AW.r S w cs x:=TX (fun _ _ _=>N6) (SZ h)
theorem Ni{x:Entry}(h1:DZ.r S w [v] x.links)(h2:Ag.r S w [v'] x.data):ED.r S w [v,v'] x:=⟨[_],[_],rfl,h1,h2⟩
theorem AZ.G7{lo:Nat}{A:Rp α}{v:Value}{xs:List α}(hlo:lo≤base)(h:AZ lo A base e sz w v xs):(TY sz A).r (fun b=>lo≤b∧b<w.heap.size) w [v] xs:=by
 obtain⟨cells,hown,hlen,hsz,hA⟩:=h;rcases hown.2 with ⟨rfl,h0⟩ | ⟨g,cap,cur,rfl,hbg,hg,hn,hc,hcur,hx⟩
 ·have:xs=[]:=AS h0
  subst this;exact⟨none,0,rfl,Ap _,At _,.inl rfl⟩
 ·refine⟨_,cap,rfl,hn,hc,.inr ⟨g,0,rfl,⟨A6 hlo hbg,(Array.getElem?_eq_some_iff.1 hg).1⟩,fun i x hi=> ?_⟩⟩
  have hi':i<xs.length:=(List.getElem?_eq_some_iff.1 hi).1;have hic:i<cells.length:=zD;have hcs:cells[i]? =some cells[i]:=AM hic;refine⟨cells[i],hsz _ (AT hic),fun j v hj=>⟨?_,Blk.free hg _⟩,A.mono (hA i _ x hcs hi) fun b h=>⟨⟨h.1,h.2.1⟩,fun e=>h.2.2 (by rw[e];rfl)⟩⟩;have hj':j<sz:=ZA;have hf:=GP sz cells hsz i j _ v hcs hj;rw[Bj,show (⟨g,i*sz+j,none⟩:Addr)=⟨g,i*sz+j,none⟩ from rfl,Blk.cell hg (i*sz+j)];have hb:i*sz+j<xs.length*sz:=by
   have:=BG sz (show i+1≤xs.length from hi');rw[Nat.succ_mul] at this;omega
  have e1:cur[i*sz+j]? =(cur.toList.take (xs.length*sz))[i*sz+j]? :=by
   rw[Du,Ai hb];simp
  rw[e1,hx];exact hf
theorem Cd.push{lo:Nat}{A:Rp α}{base:Nat}{e:TypeId}{sz:Nat}{v v':Value}{xs:List α}{news:List Value}{x:α}{cells:List (List Value)}(h:Cd lo A base e sz w v xs cells)
 (hn:news.length=sz) (hx:A.r (fun b=>lo≤b∧b<w.heap.size∧v.ownBlock≠some b) w news x)
 (hown:w'.ownsRow base e sz v' (xs.length+1) (cells.flatten++news)) (hg:w.grownBy w' v.ownBlock) (hat:v'.ownBlock=v.ownBlock∨v'.ownBlock=some w.heap.size) (hsz':w.heap.size≤w'.heap.size):Cd lo A base e sz w' v' (xs++[x]) (cells++[news]):=by
 obtain⟨ho,hlen,hsz,hA⟩:=h;have lift:∀cs y,A.r (fun b=>lo≤b∧b<w.heap.size∧v.ownBlock≠some b) w cs y→A.r (fun b=>lo≤b∧b<w'.heap.size∧v'.ownBlock≠some b) w' cs y:=fun cs y hr=>
  A.mono (A.keep hr fun b hb=>hg.block b hb.2.1 (fun e=>hb.2.2 e.symm)) fun b hb=>⟨hb.1,Ao hb.2.1 hsz',fun e=>by
   rcases hat with h | h
   ·exact hb.2.2 (h ▸ e)
   ·rw[h] at e;have:=A5 e;have:=hb.2.1;omega⟩
 refine⟨?_,by simp[hlen],?_,?_⟩
 ·rw[EY,Al]
  simpa using hown
 ·intro c hc
  rcases List.mem_append.1 hc with h | h
  ·exact hsz c h
  ·simp at h;subst h;exact hn
 ·intro i cs y hi hy
  by_cases hlt:i<xs.length
  ·rw[CE zD] at hi
   rw[CE hlt] at hy;exact lift _ _ (hA i cs y hi hy)
  ·have hii:i=xs.length:=by
    have:=(List.getElem?_eq_some_iff.1 hy).1;simp at this;omega
   subst hii;rw[Cr zD] at hi;rw[Cr (Ap _)] at hy;simp[hlen] at hi;simp at hy;subst hi hy;exact lift _ _ hx
theorem AZ.push{lo:Nat}{A:Rp α}{base:Nat}{e:TypeId}{sz:Nat}{v v':Value}{xs:List α}{news:List Value}{x:α}{cells:List (List Value)}(h:Cd lo A base e sz w v xs cells)
 (hn:news.length=sz) (hx:A.r (fun b=>lo≤b∧b<w.heap.size∧v.ownBlock≠some b) w news x)
 (hown:w'.ownsRow base e sz v' (xs.length+1) (cells.flatten++news)) (hg:w.grownBy w' v.ownBlock) (hat:v'.ownBlock=v.ownBlock∨v'.ownBlock=some w.heap.size) (hsz':w.heap.size≤w'.heap.size):AZ lo A base e sz w' v' (xs++[x]):=
 ⟨_,Cd.push h hn hx hown hg hat hsz'⟩
theorem AZ.below{lo:Nat}{A:Rp α}{xs:List α}(h:AZ lo A base e sz w v xs)(hb:Below w.heap.size w w'):AZ lo A base e sz w' v xs:=by
 obtain⟨cells,ho,hlen,hsz,hA⟩:=h;refine⟨cells,⟨ho.1,?_⟩,hlen,hsz,fun i cs x hi hx=>A.mono (A.keep (hA i cs x hi hx) fun b h=>hb.block b h.2.1) fun b h=>⟨h.1,Ao h.2.1 hb.size,h.2.2⟩⟩;rcases ho.2 with h0 | ⟨g,cap,cur,h1,h2,h3,h4⟩
 ·exact .inl h0
 ·exact .inr ⟨g,cap,cur,h1,h2,ZX,h4⟩
theorem Cd.below{lo:Nat}{A:Rp α}{xs:List α}{cells:List (List Value)}(h:Cd lo A base e sz w v xs cells)(hb:Below w.heap.size w w'):Cd lo A base e sz w' v xs cells:=by
 obtain⟨ho,hlen,hsz,hA⟩:=h;refine⟨⟨ho.1,?_⟩,hlen,hsz,fun i cs x hi hx=>A.mono (A.keep (hA i cs x hi hx) fun b h=>hb.block b h.2.1) fun b h=>⟨h.1,Ao h.2.1 hb.size,h.2.2⟩⟩;rcases ho.2 with h0 | ⟨g,cap,cur,h1,h2,h3,h4⟩
 ·exact .inl h0
 ·exact .inr ⟨g,cap,cur,h1,h2,ZX,h4⟩
theorem D4{size:Nat}(W:World)(hb:base≤W.heap.size)(hg:g=W.heap.size):(W.alloc (.cells #[] e)).ownsRow base e size (.slice (some ⟨g,0,none⟩) 0 0) 0 []:=by
 subst hg;exact⟨zQ,.inr ⟨_,0,#[],rfl,hb,(MapKept.heap_alloc W _).1,Ap _,At _,zQ,zQ⟩⟩
theorem AX{size:Nat}(h:w.ownsRow base e size v n xs):∃a c,v=.slice a n c:=by
 rcases h.2 with ⟨rfl,rfl⟩ | ⟨g,cap,cur,rfl,_⟩
 ·exact⟨_,_,rfl⟩
 ·exact⟨_,_,rfl⟩
theorem NM{base:Nat}{v:Value}{A:Rp α}(f:α→Value){l:List α}(hf:∀(S:Nat→Prop) x,x∈l→A.r S w [f x] x)(hn:n=l.length)(h:w.ownsRow base e 1 v n (l.map f)):(rSl 1 A).r (fun b=>base≤b∧b<w.heap.size) w [v] l:=by
 subst hn;rcases h.2 with ⟨rfl,h0⟩ | ⟨g,cap,cur,rfl,hbg,hg,hn,hc,hcur,hx⟩
 ·have:l=[]:=AS h0
  subst this;exact BL rfl (Ap _) (At _) (.inl rfl)
 ·refine BL rfl hn hc (.inr ⟨g,0,rfl,⟨hbg,Blk.lt hg⟩,fun i x hi=>⟨[f x],rfl,fun j v hj=> ?_,hf _ x (List.mem_of_getElem? hi)⟩⟩)
  have hj0:j=0:=by
   rcases j with _ | j
   ·rfl
   ·simp at hj
  subst hj0;simp at hj;subst hj;have hi':i<l.length:=(List.getElem?_eq_some_iff.1 hi).1;rw[Bj,DG,CR,Blk.cell hg i];have e1:cur[i]? =(cur.toList.take (l.length*1))[i]? :=by
   rw[Du,Ai zD];simp
  rw[e1,hx,DP,hi];rfl
theorem TV{S:Nat→Prop}{A:Rp α}(f:α→Value){l:List α}(hf:∀(S:Nat→Prop) cs x,A.r S w cs x→cs=[f x])(h:(rSl 1 A).r S w [.slice a n c] l):Src w a l.length 1 (l.map f):=by
 refine⟨zQ,?_⟩;rcases CZ l.length with h0 | h0
 ·exact .inl h0
 ·right
  obtain⟨b,o,e,_⟩:=It h (i:=0) h0;refine⟨b,o,e,fun j u hu=> ?_⟩;have hj:j<l.length:=by
   have:=(List.getElem?_eq_some_iff.1 hu).1;simpa using this
  obtain⟨b',o',e',_,cs,_,hc,hA⟩:=It h hj;rw[e] at e';simp at e';obtain⟨rfl,rfl⟩:=e';have hcs:=hf _ _ _ hA;subst hcs;have:=hc 0 _ rfl;rw[DG,CR] at this;simp only[DP,AM hj,Option.map_some,Bh] at hu;rw[←hu];exact this
def CA(l:List Int):List Value:=l.map fun n=> .int .u64 n
theorem Ny(l:List Int):∀u∈CA l,u.oneCell'=true:=by
 intro u hu;obtain⟨b,_,rfl⟩:=List.mem_map.1 hu;rfl
theorem SY{l:List Int}(h:Bw.r S w [.slice a n c] l):Src w a l.length 1 (CA l):=TV (A:=Js .u64) (fun n=> .int .u64 n) (fun _ _ _ h=>h.1) h
theorem GJ{base:Nat}{v:Value}{l:List Int}(hw:∀x∈l,0≤x∧x≤18446744073709551615)(hn:n=l.length)(h:w.ownsRow base e 1 v n (CA l)):Bw.r (fun b=>base≤b∧b<w.heap.size) w [v] l:=
 NM _ (fun _ x hx=>⟨rfl,JV (hw x hx)⟩) hn h
theorem Cg{base:Nat}{v:Value}{l:List UInt8}(hn:n=l.length)(h:w.ownsRow base e 1 v n (byteCells l)):Ag.r (fun b=>base≤b∧b<w.heap.size) w [v] l:=
 NM _ (fun _ x _=>rfl) hn h
theorem Bp{size:Nat}(h:w.ownsRow base e size v n xs)(hb:Below w.heap.size w w'):w'.ownsRow base e size v n xs:=by
 refine⟨h.1,?_⟩;rcases h.2 with h0 | ⟨g,cap,cur,h1,h2,h3,h4⟩
 ·exact .inl h0
 ·exact .inr ⟨g,cap,cur,h1,h2,ZX,h4⟩
theorem CJ{P:Program}{ops:Array Oper}{o:Oper}{a:Act}{K:Act→World→Prop}{Q:Exit→Act→World→Prop}{E:Prop}(hgd:o.guard=none)(s x:Operand)(t:TypeId)
 (ho:o.op=.call {callee:=.builtin .append,args:=#[s,x],argTypes:=#[t,t]})
 (base:Nat) (e:TypeId) (i:TypeInfo) (z:Value) (size bytes:Nat) (ht:P.underlying t=some (.slice e)) (hi:P.info? e=some i) (hz:i.zero=some z)
 (hsize:i.size=size) (hby:i.bytes=bytes) (hzs:z.cells.size=size) (hsz:0<size)
 (v:Value) (n:Nat) (xs:List Value) (hs:a.eval s=v) (hown:w.ownsRow base e size v n xs)
 (A:Option Addr) (m c:Nat) (news:List Value) (hx:a.eval x=.slice A m c) (hsrc:Src w A m size news) (h1:∀u∈news,u.oneCell'=true)
 (h63:n+m≤maxLen) (hbytes:(n+m)*bytes≤140737488355328) (hbase:base≤w.heap.size)
 (h:∀a' c' w',w'.ownsRow base e size (.slice a' (n+m) c') (n+m) (xs++news)→w.grownBy w' v.ownBlock→((Value.slice a' (n+m) c').ownBlock=v.ownBlock∨(Value.slice a' (n+m) c').ownBlock=some w.heap.size)→K (a.put o.dst (.slice a' (n+m) c')) w'):
  if Region.wanted o (yielded ops a.tmps)=true then Oper.wp P o a w K Q else E:=by
 have hw:Region.wanted o (yielded ops a.tmps)=true:=by simp[Region.wanted,hgd]
 rw[Ai hw];obtain⟨v',w',hrun,h2,h3,h4⟩:=G9 (P:=P) base t o.type e i z size bytes ht hi hz hsize hby hzs hsz v n xs hown A m c news hsrc h1 h63 hbytes hbase;obtain⟨a',c',rfl⟩:=AX h2;unfold Oper.wp execOp;simp only[ho,resolve,invoke,builtin,Sem.run_bind,Sem.run_pure,Result.andThen_ok,List.map_toArray,DA,List.map_nil,hs,hx,hrun];exact h a' c' w' h2 h3 h4
end
end Go.Bs
namespace Go.Proofs.YtfddhafbhceoaaaGreat
open Go.RowKit Go.Bs
variable{b:List UInt8}{xs:List Value}{base cb cp g i k mb n o off p:Nat}{ab ap:Option Addr}{e:TypeId}{u v:Value}{w w' w1:World}
def Iv(b:List UInt8)(p q:Nat):Bool:=decide (p<b.length)&&decide (b[p]? =b[q]?)
theorem S4{q:Nat}(hp:p<b.length)(hq:q<b.length):Iv b p q=((b[p].toNat:Int)==(b[q].toNat:Int)):=by
 unfold Iv;rw[Ad hp,D7,AM hp,AM hq,Bool.eq_iff_iff];simp only[Ar,Bh,beq_iff_eq];constructor
 ·intro h;rw[h]
 ·intro h;exact UInt8.toNat_inj.1 zD
def Hi(b:List UInt8)(p off k:Nat):Nat:=k+Fe b off (b.length-p-k) (p+k)
theorem OL(h:p<b.length∧1≤off∧off≤p):CP b p off=Hi b p off 0:=by
 unfold CP Hi;rw[Ai h];simp
theorem Qi(h:Iv b (p+k) (p+k-off)=true):Hi b p off k=Hi b p off (k+1)∧p+k<b.length:=by
 simp only[Iv,Aq,Ar] at h;refine⟨?_,h.1⟩;unfold Hi;obtain⟨f,hf⟩:∃f,b.length-p-k=f+1:=⟨b.length-p-k-1,zD⟩;rw[hf,show b.length-p-(k+1)=f by omega];simp only[Fe];rw[Ai h,show p+(k+1)=p+k+1 by omega];omega
theorem MY(h:Iv b (p+k) (p+k-off)=false):Hi b p off k=k:=by
 unfold Hi;rcases CZ (b.length-p-k) with h0 | h0
 ·rw[h0];rfl
 ·obtain⟨f,hf⟩:∃f,b.length-p-k=f+1:=⟨b.length-p-k-1,zD⟩
  rw[hf];simp only[Fe];rw[Ah]
  ·omega
  ·rintro⟨h1,h2⟩
   have:Iv b (p+k) (p+k-off)=true:=by unfold Iv;rw[Ad h1,Ad h2];rfl
   rw[this] at h;cases h
theorem J3(h:¬(p<b.length∧1≤off∧off≤p)):CP b p off=0:=by
 unfold CP;rw[Ah h]
theorem Oy(b:List UInt8)(p off:Nat)(a:Option Addr)(n c:Nat)(w:World)(hl:Ag.r (·<w.heap.size) w [.slice a n c] b)(hlen:b.length≤1048576)(hp:p≤1048576)(ho:off≤1048577):
  Calls Tryz.prog 381 #[.slice a n c,.int .i64 p,.int .i64 off] w fun r w'=>r=.returned (.int .i64 (CP b p off))∧Below w.heap.size w w':=by
 obtain⟨rfl,hm,_,_⟩:=AH hl;by_cases h1:p<b.length
 ·have d0:decide ((p:Int)<0)=false:=by simp
  have d1:decide ((b.length:Int)≤(p:Int))=false:=zI;have d1':decide (b.length≤p)=false:=zI;by_cases h2:1≤off
  ·have d2:decide ((off:Int)<1)=false:=by simp;omega
   by_cases h3:off≤p
   ·have d3:decide ((p:Int)<(off:Int))=false:=by simp;omega
    have d3':decide (p<off)=false:=zI;have hff:=hid (OL (off:=off) ⟨h1,h2,h3⟩);obtain⟨g,o,hA,hg,_⟩:=BJ hl h1;subst hA;have HL:=hid hl;clear hl;go_enter Tryz.func381,Tryz.ntmps381;go_wp2_with fail;go_loopw [7] (fun i wr=>∃k:Nat,k≤b.length-p∧i=.int .i64 k∧Hid (CP b p off=Hi b p off k)∧Below w.heap.size w wr) (fun i _=>b.length-(intOf i).toNat)
    case atStart=>exact ⟨0,At _,rfl,hff,Below.refl _ _⟩
    case round=>
     obtain⟨k,hk,rfl,hf,hb⟩:=hrel;clear hff;have d4:decide ((k:Int)<1048576)=true:=zI;by_cases hlt:p+k<b.length
     ·have d5:decide ((p:Int)+(k:Int)<(b.length:Int))=true:=by simp;omega
      have hlq:p+k-off<b.length:=zD;obtain⟨g1,o1,hA1,_,hc⟩:=BJ HL.out hlt;obtain⟨g2,o2,hA2,_,hc'⟩:=BJ HL.out hlq;simp only[Bh,Ic,AF] at hA1 hA2;obtain⟨rfl,rfl⟩:=hA1;obtain⟨rfl,rfl⟩:=hA2;have C1:=fun s:AE wr=>s.cell ((hb.cell (p:=⟨g,o+(p+k),none⟩) hg).trans hc);have C2:=fun s:AE wr=>s.cell ((hb.cell (p:=⟨g,o+(p+k-off),none⟩) hg).trans hc');have hsa:=S4 hlt hlq;generalize b[p+k]=x at*;generalize b[p+k-off]=y at*;clear hc hc';have i1:(0:Int)≤(p:Int)+(k:Int):=zD;have i2:(0:Int)≤(p:Int)+(k:Int)-(off:Int):=zD;have i3:(p:Int)+(k:Int)-(off:Int)<(b.length:Int):=zD;have i4:(p:Int)+(k:Int)<(b.length:Int):=zD;have t1:((p:Int)+(k:Int)).toNat=p+k:=zD;have t2:((p:Int)+(k:Int)-(off:Int)).toNat=p+k-off:=zD;cases hs:Iv b (p+k) (p+k-off)
      ·have hend:=hid (MY hs)
       rw[hs] at hsa;have e1:((x.toNat:Int)==(y.toNat:Int))=false:=hsa.symm;clear hs hsa;go_wp2_with fail;refine Ax zJ zJ ?_;repeat (go_big_quiet_step (fail))
       refine AI ?_;rintro W5 ⟨⟨W5',hb5⟩,rfl⟩;go_wp2;go_ret;exact⟨by rw[hf.out,hend.out];rfl,Af hb5 hb⟩
      ·obtain⟨hn,_⟩:=Qi hs
       have HN:=hid hn;rw[hs] at hsa;have e1:((x.toNat:Int)==(y.toNat:Int))=true:=hsa.symm;clear hs hsa hn;go_wp2_with fail;refine Ax zJ zJ ?_;repeat (go_big_quiet_step (fail))
       refine AI ?_;rintro W5 ⟨⟨W5',hb5⟩,rfl⟩;clear t1 t2;go_wp2;go_roundw
       case rel=>exact ⟨k+1,zD,zT,hid (by rw[hf.out,HN.out]),Af hb5 hb⟩
       case measure=>simp [intOf];omega
     ·have d5:decide ((p:Int)+(k:Int)<(b.length:Int))=false:=by simp;omega
      have hs:Iv b (p+k) (p+k-off)=false:=by simp[Iv,hlt]
      have hend:=hid (MY hs);clear hs;go_wp2_with fail;refine Ax zJ zJ ?_;repeat (go_big_quiet_step (fail))
      refine AI ?_;rintro W5 ⟨⟨W5',hb5⟩,rfl⟩;go_wp2;go_ret;exact⟨by rw[hf.out,hend.out];rfl,Af hb5 hb⟩
   ·have d3:decide ((p:Int)<(off:Int))=true:=by simp;omega
    have hff:=hid (J3 (b:=b) (p:=p) (off:=off) zD);go_enter Tryz.func381,Tryz.ntmps381;go_wp2;go_ret;exact⟨zK,zB⟩
  ·have d2:decide ((off:Int)<1)=true:=by simp;omega
   have hff:=hid (J3 (b:=b) (p:=p) (off:=off) zD);go_enter Tryz.func381,Tryz.ntmps381;go_wp2;go_ret;exact⟨zK,zB⟩
 ·have d1:decide ((b.length:Int)≤(p:Int))=true:=by simp;omega
  have hff:=hid (J3 (b:=b) (p:=p) (off:=off) zD);go_enter Tryz.func381,Tryz.ntmps381;go_wp2;go_ret;exact⟨zK,zB⟩
theorem PQ(b:List UInt8)(p off:Int)(h0:0≤p)(h1:0≤off)(a:Option Addr)(n c:Nat)(w:World)(hl:Ag.r (·<w.heap.size) w [.slice a n c] b)(hlen:b.length≤1048576)(hp:p≤1048576)(ho:off≤1048577):
  Calls Tryz.prog 381 #[.slice a n c,.int .i64 p,.int .i64 off] w fun r w'=>r=.returned (.int .i64 (CP b p.toNat off.toNat))∧Below w.heap.size w w':=by
 obtain⟨p',rfl⟩:=Int.eq_ofNat_of_zero_le h0;obtain⟨q',rfl⟩:=Int.eq_ofNat_of_zero_le h1;exact Oy b p' q' a n c w hl hlen zD zD
theorem Lv(o n:Int)(w:World):Calls Tryz.prog 382 #[.int .i64 o,.int .i64 n] w fun r w'=>r=.returned (.tuple #[.int .i64 (if n<4 then 0 else o),.int .i64 (if n<4 then 0 else n)])∧w=w':=by
 by_cases h:n<4
 ·rw[Ai h,Ai h]
  have d1:decide (n<4)=true:=ZP;clear h;go_enter Tryz.func382,Tryz.ntmps382;go_wp2;go_ret2
  exact⟨rfl,rfl⟩
 ·rw[Ah h,Ah h]
  have d1:decide (n<4)=false:=ZP;clear h;go_enter Tryz.func382,Tryz.ntmps382;go_wp2;go_ret2
  exact⟨rfl,rfl⟩
theorem KX(a b:Nat)(ha:a<4294967296)(hb:b<4294967296):bits .or .u32 (a:Int) (b:Int)=((a ||| b:Nat):Int):=by
 have hx:a ||| b<2^32:=Nat.or_lt_two_pow zD zD;have h1:(BitVec.ofInt 32 (a:Int)).toNat=a:=by
  rw[BitVec.ofInt_natCast,BitVec.toNat_ofNat];exact Dt zD
 have h2:(BitVec.ofInt 32 (b:Int)).toNat=b:=by
  rw[BitVec.ofInt_natCast,BitVec.toNat_ofNat];exact Dt zD
 show IntKind.u32.wrap ((BitVec.ofInt 32 (a:Int) ||| BitVec.ofInt 32 (b:Int)).toNat:Int)=_
 rw[BitVec.toNat_or,h1,h2,IntKind.wrap_u32];omega
theorem Ut(a c k:Nat)(h:a<2^k):a ||| (c*2^k)=a+c*2^k:=by
 rw[Nat.or_comm,←Nat.shiftLeft_eq,←Nat.shiftLeft_add_eq_or_of_lt h,Nat.add_comm]
theorem NN(a c k m:Nat)(hm:2^k=m)(h:a<m)(hc:c*m<4294967296)(ha:a<4294967296):bits .or .u32 (a:Int) ((c:Int)*(m:Int))=(a:Int)+c*m:=by
 have e:((c:Int)*(m:Int))=((c*m:Nat):Int):=zQ;rw[e,KX a (c*m) ha hc,←hm,Ut a c k (by rw[hm];exact h)];simp
theorem Tk(x0 x1 x2 x3:UInt8):bits .or .u32 (bits .or .u32 (bits .or .u32 (bits .or .u32 0 ((x0.toNat:Int)%4294967296)) ((x1.toNat:Int)%4294967296*256%4294967296)) ((x2.toNat:Int)%4294967296*65536%4294967296)) ((x3.toNat:Int)%4294967296*16777216%4294967296)=((x0.toNat+256*x1.toNat+65536*x2.toNat+16777216*x3.toNat:Nat):Int):=by
 have h0:=x0.toNat_lt;have h1:=x1.toNat_lt;have h2:=x2.toNat_lt;have h3:=x3.toNat_lt;have e0:(x0.toNat:Int)%4294967296=((x0.toNat:Nat):Int)*((1:Nat):Int):=zD;have e1:(x1.toNat:Int)%4294967296*256%4294967296=(x1.toNat:Int)*((256:Nat):Int):=zD;have e2:(x2.toNat:Int)%4294967296*65536%4294967296=(x2.toNat:Int)*((65536:Nat):Int):=zD;have e3:(x3.toNat:Int)%4294967296*16777216%4294967296=(x3.toNat:Int)*((16777216:Nat):Int):=zD;have ez:(0:Int)=((0:Nat):Int):=rfl;rw[e0,e1,e2,e3,ez,NN 0 x0.toNat 0 1 zO zD zD zD];have f0:((0:Nat):Int)+(x0.toNat:Int)*((1:Nat):Int)=((x0.toNat:Nat):Int):=zD;rw[f0,NN x0.toNat x1.toNat 8 256 zO zD zD zD];have f1:(x0.toNat:Int)+(x1.toNat:Int)*((256:Nat):Int)=((x0.toNat+256*x1.toNat:Nat):Int):=zD;rw[f1,NN (x0.toNat+256*x1.toNat) x2.toNat 16 65536 zO zD zD zD];have f2:((x0.toNat+256*x1.toNat:Nat):Int)+(x2.toNat:Int)*((65536:Nat):Int)=((x0.toNat+256*x1.toNat+65536*x2.toNat:Nat):Int):=zD;rw[f2,NN (x0.toNat+256*x1.toNat+65536*x2.toNat) x3.toNat 24 16777216 zO zD zD zD];omega
def Ip(b:List UInt8)(p:Nat):Int × Bool:=match C6 b p with | some k=>(k,true) | none=>(0,false)
theorem Fz(hp:p+4≤b.length):C6 b p=some (b[p].toNat+256*b[p+1].toNat+65536*b[p+2].toNat+16777216*b[p+3].toNat):=by
 unfold C6;rw[AM (show p<b.length by omega),AM (show p+1<b.length by omega),AM (show p+2<b.length by omega),AM (show p+3<b.length by omega)]
theorem J7(hp:b.length<p+4):C6 b p=none:=by
 unfold C6;rw[List.getElem?_eq_none (show b.length≤p+3 by omega)];split<;>simp_all
theorem QU(b:List UInt8)(p:Nat)(a:Option Addr)(n c:Nat)(w:World)(hl:Ag.r (·<w.heap.size) w [.slice a n c] b)(hlen:b.length≤1048576)(hp:p+4≤b.length):
  Calls Tryz.prog 387 #[.slice a n c,.int .i64 p] w fun r w'=>r=.returned (.tuple #[.int .u32 (Ip b p).1,.bool (Ip b p).2])∧w=w':=by
 have hff:Hid (Ip b p=(((b[p].toNat+256*b[p+1].toNat+65536*b[p+2].toNat+16777216*b[p+3].toNat:Nat):Int),true)):=hid (by unfold Ip;rw[Fz hp]);obtain⟨rfl,hm,_,_⟩:=AH hl;obtain⟨g,o,hA,hg,c0⟩:=BJ hl (i:=p) zD;obtain⟨g1,o1,hA1,_,c1⟩:=BJ hl (i:=p+1) zD;obtain⟨g2,o2,hA2,_,c2⟩:=BJ hl (i:=p+2) zD;obtain⟨g3,o3,hA3,_,c3⟩:=BJ hl (i:=p+3) zD;subst hA;simp only[Bh,Ic,AF] at hA1 hA2 hA3;obtain⟨rfl,rfl⟩:=hA1;obtain⟨rfl,rfl⟩:=hA2;obtain⟨rfl,rfl⟩:=hA3;have HL:=hid hl;clear hl;have d0:decide ((p:Int)<0)=false:=zQ;have d1:decide ((b.length:Int)-4<(p:Int))=false:=zI;generalize b[p]=x0 at*;generalize b[p+1]=x1 at*;generalize b[p+2]=x2 at*;generalize b[p+3]=x3 at*;have i0:(0:Int)≤(p:Int):=zD;have i1:(p:Int)+3<(b.length:Int):=zD;have i2:(p:Int)+2<(b.length:Int):=zD;have i3:(p:Int)+1<(b.length:Int):=zD;have i4:(p:Int)<(b.length:Int):=zD;go_enter Tryz.func387,Tryz.ntmps387;go_wp2_with fail;refine wp_loop_rounds 5 ?_;rw[rounds_succ];go_wp2_with fail;rw[rounds_succ];go_wp2_with fail;rw[rounds_succ];go_wp2_with fail;rw[rounds_succ];go_wp2_with fail;rw[rounds_succ];go_wp2_with fail;go_ret2
 exact⟨by rw[hff.out,←Tk];rfl,rfl⟩
theorem QV(b:List UInt8)(p:Nat)(a:Option Addr)(n c:Nat)(w:World)(hl:Ag.r (·<w.heap.size) w [.slice a n c] b)(hlen:b.length≤1048576)(hp:b.length<p+4)(hp2:p≤1048576):
  Calls Tryz.prog 387 #[.slice a n c,.int .i64 p] w fun r w'=>r=.returned (.tuple #[.int .u32 (Ip b p).1,.bool (Ip b p).2])∧w=w':=by
 have hff:Hid (Ip b p=(0,false)):=hid (by unfold Ip;rw[J7 hp]);obtain⟨rfl,hm,_,_⟩:=AH hl;clear hl;have d0:decide ((p:Int)<0)=false:=zQ;have d1:decide ((b.length:Int)-4<(p:Int))=true:=zI;go_enter Tryz.func387,Tryz.ntmps387;go_wp2;go_ret2
 exact⟨zK,rfl⟩
theorem No(b:List UInt8)(p:Nat)(a:Option Addr)(n c:Nat)(w:World)(hl:Ag.r (·<w.heap.size) w [.slice a n c] b)(hlen:b.length≤1048576)(hp:p≤1048576):
  Calls Tryz.prog 387 #[.slice a n c,.int .i64 p] w fun r w'=>r=.returned (.tuple #[.int .u32 (Ip b p).1,.bool (Ip b p).2])∧w=w':=by
 by_cases h:p+4≤b.length
 ·exact QU b p a n c w hl hlen h
 ·exact QV b p a n c w hl hlen zD hp
end Go.Proofs.YtfddhafbhceoaaaGreat
namespace Go.Bs
open Go.RowKit
variable{b:List UInt8}{cs xs:List Value}{base c g i k n o off p sz:Nat}{S:Nat → Prop}{a:Option Addr}{e t:TypeId}{v v':Value}{W W' w:World}
structure Tch(F:Nat→Prop)(w w':World):Prop where
 os:w'.os=w.os
 tape:w'.tape=w.tape
 output:w'.output=w.output
 size:w.heap.size≤w'.heap.size
 block:∀b,b<w.heap.size→¬F b→w'.heap[b]? =w.heap[b]?
section
variable {F G:Nat→Prop} {w w' w'':World}
theorem Tch.refl(F:Nat→Prop)(w:World):Tch F w w:=⟨rfl,rfl,rfl,Ap _,fun _ _ _=>rfl⟩
theorem Tch.trans(h:Tch F w w')(k:Tch G w' w'')(hG:∀b,b<w.heap.size→G b→F b):Tch F w w'':=
 ⟨k.os.trans h.os,k.tape.trans h.tape,k.output.trans h.output,A6 h.size k.size,fun b hb hF=>(k.block b (Ao hb h.size) (fun hg=>hF (hG b hb hg))).trans (h.block b hb hF)⟩
theorem Tch.mono(h:Tch F w w')(hF:∀b,b<w.heap.size→F b→G b):Tch G w w':=⟨h.os,h.tape,h.output,h.size,fun b hb hg=>h.block b hb (fun hf=>hg (hF b hb hf))⟩
theorem Tch.Db{B:Nat}(h:Below B w w'):Tch (fun b=>B≤b) w w':=⟨h.os,h.tape,h.output,h.size,fun b hb hf=>h.block b zD⟩
theorem Tch.Bz(h:Below w.heap.size w w'):Tch F w w':=⟨h.os,h.tape,h.output,h.size,fun b hb _=>h.block b hb⟩
theorem Tch.Te{row:Option Nat}(h:w.grownBy w' row):Tch (fun b=>row=some b) w w':=⟨h.os,h.tape,h.output,h.size,fun b hb hf=>h.block b hb (fun e=>hf e.symm)⟩
theorem Tch.alloc(h:Tch F w w')(o:Obj):Tch F w (w'.alloc o):=h.trans (Tch.Bz (F:=F) ((Below.refl _ _).alloc (Ap _) o)) fun _ _ h=>h
theorem Tch.drew(h:Tch F w w'):Tch F w w'.drew:=⟨h.os,h.tape,h.output,h.size,h.block⟩
theorem Tch.drewN(h:Tch F w w')(n:Nat):Tch F w (w'.drewN n):=⟨h.os,h.tape,h.output,h.size,h.block⟩
theorem Tch.setCell(h:Tch F w w'){p:Addr}(hp:p.block<w.heap.size→F p.block)(u:Value):Tch F w (w'.setCell p u):=
 ⟨h.os,h.tape,h.output,by simpa [World.setCell] using h.size,fun b hb hf=>(Aw w' p u b (fun e=>hf (e ▸ hp (e ▸ hb)))).trans (h.block b hb hf)⟩
theorem Tch.below{B:Nat}(h:Tch F w w')(hF:∀b,b<w.heap.size→F b→B≤b):Below B w w'∨w.heap.size<B:=by
 by_cases hB:B≤w.heap.size
 ·exact .inl ⟨h.os,h.tape,h.output,h.size,fun b hb=>h.block b zD (fun hf=>by have:=hF b (by omega) hf;omega)⟩
 ·exact .inr zD
theorem Tch.Cq{B:Nat}(h:Tch F w w')(hB:B≤w.heap.size)(hF:∀b,b<w.heap.size→F b→B≤b):Below B w w':=(h.below hF).resolve_right zD
theorem Tch.cell(h:Tch F w w'){p:Addr}(hb:p.block<w.heap.size)(hf:¬F p.block):w'.cell? p=w.cell? p:=AQ (h.block _ hb hf)
theorem Tch.frozen(h:Tch F w w'){p:Addr}(hb:p.block<w.heap.size)(hf:¬F p.block):w'.frozen? p=w.frozen? p:=BE (h.block _ hb hf)
theorem Blk.tch{cs:Array Value}(h:Blk w g t cs)(k:Tch F w w')(hf:¬F g):Blk w' g t cs:=(k.block g h.lt hf).trans h
theorem BS(W:World)(e:TypeId)(cs:List Value)(hB:w=W.alloc (.cells cs.toArray e))(hg:g=W.heap.size)(hs:cs.length=sz):Src w (some ⟨g,0,none⟩) 1 sz cs:=by
 subst hB hg;refine⟨zD,.inr ⟨_,0,rfl,fun j u hu=> ?_⟩⟩;rw[Bj,Blk.cell (Blk.new W e cs.toArray)];simpa using hu
end
end Go.Bs
namespace Go.Proofs.YtfddhafbhceoaaaGreat
open Go.RowKit Go.Bs Go.Maps
variable{b:List UInt8}{xs:List Value}{base cb cp g i k mb n o off p:Nat}{ab ap:Option Addr}{e:TypeId}{u v:Value}{w w' w1:World}
def Hf(b:List UInt8)(j:Nat):Nat:=match C6 b j with | some k=>DO b k j | none=>0
def Iw(b:List UInt8)(n:Nat):List Value:=(List.range n).map fun j=> .int .i64 (Hf b j:Int)
theorem P9(b:List UInt8)(n:Nat):Iw b (n+1)=Iw b n++[.int .i64 (Hf b n:Int)]:=by simp[Iw,List.range_succ]
theorem NI(b:List UInt8)(n:Nat):(Iw b n).length=n:=by simp[Iw]
def Gp(D:DataW Unit)(b:List UInt8)(n:Nat):Prop:=∀k:Nat,k<4294967296→D.atKey (.int .u32 (k:Int)) (.lit (.int .i64 0))=.lit (.int .i64 (DO b k n:Int))
theorem SO(h:k<4294967296):(Lit.int .u32 (k:Int)).wf=true:=by
 simp[Lit.wf,IntKind.min,IntKind.max,IntKind.signed,IntKind.bits];omega
theorem LR(h:C6 b p=some k):k<4294967296:=by
 by_cases hp:p+4≤b.length
 ·rw[Fz hp] at h
  have h0:=b[p].toNat_lt;have h1:=b[p+1].toNat_lt;have h2:=b[p+2].toNat_lt;have h3:=b[p+3].toNat_lt;simp only[Bh] at h;omega
 ·rw[J7 zD] at h;cases h
theorem Gp.none{D:DataW Unit}(h:Gp D b n)(hk:C6 b n=none):Gp D b (n+1):=fun k hlt=>by
 rw[h k hlt];simp only[DO];rw[hk,Ah zQ]
theorem Gp.some{D:DataW Unit}(h:Gp D b n)(hD:IsMap D)(hk:C6 b n=some k):Gp (D.put (.int .u32 (k:Int)) (.lit (.int .i64 ((n:Int)+1)))) b (n+1):=fun k' hlt=>by
 by_cases e:k'=k
 ·subst e
  rw[atKey_put_same hD (by trivial)];simp only[DO];rw[Ai hk];simp
 ·rw[atKey_put_other zI,h k' hlt]
  simp only[DO];rw[Ah (by rw[hk];simp;omega)]
structure Kl(w:World)(g mb base:Nat)(b:List UInt8)(n:Nat)(ab:Option Addr)(cb:Nat)(ap:Option Addr)(cp:Nat):Prop where
 blk:Blk w g 395 #[.slice ab b.length cb,.map (some mb),.slice ap n cp]
 bytes:Ag.r (fun q=>q<w.heap.size∧q≠g∧q≠mb∧(Value.slice ap n cp).ownBlock≠some q) w [.slice ab b.length cb] b
 map:∃D:DataW Unit,w.ownsMap Tryz.prog 142 (plainElem Tryz.prog 3) mb n D∧Gp D b n
 prev:w.ownsRow base 3 1 (.slice ap n cp) n (Iw b n)
 ne1:g≠mb
 ne2:(Value.slice ap n cp).ownBlock≠some g
 ne3:(Value.slice ap n cp).ownBlock≠some mb
 lo:base≤g
 le:n≤b.length
 len:b.length≤1048576
theorem Rj:(Tryz.prog.info? 3).map (fun i=>(i.zero,i.size,i.bytes))=some (some (.int .i64 0),1,8):=zJ
theorem Q9(w:World):(zeroValue 3).run Tryz.prog w=.ok (.int .i64 0) w:=zJ
theorem Qr:Keyed Tryz.prog 142:=int_keyed Tryz.underlying142
theorem KL(w:World){n:Nat}(h:Kl w g mb base b n ab cb ap cp):
  Calls Tryz.prog 384 #[.pointer (some ⟨g,0,none⟩)] w fun r w'=>r=.returned (.int .i64 n)∧w=w':=by
 have c2:w.cell? ⟨g,2,none⟩=some (.slice ap n cp):=h.blk.cell 2;clear h;go_enter Tryz.func384,Tryz.ntmps384;go_wp2;go_ret;exact⟨rfl,rfl⟩
def F4(w:World)(g mb base:Nat)(b:List UInt8)(n n':Nat)(ab:Option Addr)(cb:Nat)(ap:Option Addr)(cp:Nat)(w':World):Prop:=
 ∃ap' cp',Kl w' g mb base b n' ab cb ap' cp'∧Tch (fun q=>q=g∨q=mb∨(Value.slice ap n cp).ownBlock=some q) w w'∧((Value.slice ap' n' cp').ownBlock=(Value.slice ap n cp).ownBlock∨∃q,(Value.slice ap' n' cp').ownBlock=some q∧w.heap.size≤q)
def Uj(w:World)(g mb base:Nat)(b:List UInt8)(n:Nat)(ab:Option Addr)(cb:Nat)(ap:Option Addr)(cp:Nat)(r:Ending)(w':World):Prop:=r=.returned (.bool true)∧F4 w g mb base b n (n+1) ab cb ap cp w'
theorem Jz{K:TypeId}{R:Value→Option (DataW Unit × List MemPlace)}{m:Nat}{D:DataW Unit}(h:w.ownsMap Tryz.prog K R m n D)(e:w'.heap[m]? =w.heap[m]?):w'.ownsMap Tryz.prog K R m n D:=by
 obtain⟨es,clock,hb,F,hs,hD⟩:=h;exact⟨es,clock,e.trans hb,F,hs,hD⟩
theorem Hg{size:Nat}(h:w.ownsRow base e size v n xs)(hv:∀g,v.ownBlock=some g→w'.heap[g]? =w.heap[g]?):w'.ownsRow base e size v n xs:=by
 refine⟨h.1,?_⟩;rcases h.2 with h0 | ⟨g,cap,cur,h1,h2,h3,h4⟩
 ·exact .inl h0
 ·exact .inr ⟨g,cap,cur,h1,h2,by rw[hv g (by rw[h1];rfl)];exact h3,h4⟩
theorem Rr{w w0:World}{mb:Nat}{b:List UInt8}{n:Nat}{a':Option Addr}{c':Nat}{o:Obj}(h:Kl w g mb base b n ab cb ap cp)(hn:n<b.length)(h0:Tch (fun q=>q=mb) w w0)
 (hmap:∃D:DataW Unit,w0.ownsMap Tryz.prog 142 (plainElem Tryz.prog 3) mb (n+1) D∧Gp D b (n+1))
 (hown:w1.ownsRow base 3 1 (.slice a' (n+1) c') (n+1) (Iw b n++[.int .i64 (Hf b n:Int)])) (hgrow:(w0.alloc o).grownBy w1 (Value.slice ap n cp).ownBlock)
 (hat:(Value.slice a' (n+1) c').ownBlock=(Value.slice ap n cp).ownBlock∨(Value.slice a' (n+1) c').ownBlock=some (w0.alloc o).heap.size):
  F4 w g mb base b n (n+1) ab cb ap cp (w1.setCell ⟨g,2,none⟩ (.slice a' (n+1) c')):=by
 have hg:=h.blk.lt;have hs0:=h0.size;have hs1:w0.heap.size+1≤w1.heap.size:=by have:=hgrow.size;simpa using this
 have hn2:(Value.slice a' (n+1) c').ownBlock≠some g:=fun e=>by
  rcases hat with h1 | h1
  ·rw[h1] at e;exact h.ne2 e
  ·rw[h1] at e;simp at e;omega
 have hmlt:mb<w0.heap.size:=by obtain⟨D,hD,_⟩:=hmap;exact hD.lt
 have keep:∀q,q<w0.heap.size→q≠g→(Value.slice ap n cp).ownBlock≠some q→(w1.setCell ⟨g,2,none⟩ (.slice a' (n+1) c')).heap[q]? =w0.heap[q]? :=fun q hq h1 h2=>
  (Aw w1 _ _ q h1).trans ((hgrow.block q zI (fun e=>h2 e.symm)).trans (AP w0 _ q hq))
 have hsz:(w1.setCell ⟨g,2,none⟩ (.slice a' (n+1) c')).heap.size=w1.heap.size:=zY;refine⟨a',c',⟨?_,?_,?_,?_,h.ne1,hn2,fun e=> ?_,h.lo,zD,h.len⟩,?_,?_⟩
 ·have B0:=h.blk.tch h0 h.ne1
  have B1:Blk w1 g _ _:=(B0.alloc o).grown hgrow (fun e=>h.ne2 e.symm);exact B1.set 2 _
 ·refine Ag.mono (Ag.keep h.bytes fun q hq=>(keep q zD hq.2.1 hq.2.2.2).trans (h0.block q hq.1 hq.2.2.1)) fun q hq=>⟨zAp,hq.2.1,hq.2.2.1,fun e=> ?_⟩
  rcases hat with h1 | h1
  ·rw[h1] at e;exact hq.2.2.2 e
  ·rw[h1] at e;simp at e;omega
 ·obtain⟨D,hD,hL⟩:=hmap
  exact⟨D,Jz hD (keep mb hmlt (Ne.symm h.ne1) h.ne3),hL⟩
 ·rw[P9]
  exact Hg hown fun q hq=>Aw w1 _ _ q (fun e=>hn2 (by rw[hq,e]))
 ·rcases hat with h1 | h1
  ·rw[h1] at e;exact h.ne3 e
  ·rw[h1] at e;simp at e;omega
 ·exact⟨hgrow.os.trans h0.os,hgrow.tape.trans h0.tape,hgrow.output.trans h0.output,zAp,fun q hq hf=>(keep q zD (fun e=>hf (.inl e)) (fun e=>hf (.inr (.inr e)))).trans (h0.block q hq (fun e=>hf (.inr (.inl e))))⟩
 ·rcases hat with h1 | h1
  ·exact .inl h1
  ·exact .inr ⟨_,h1,zI⟩
theorem Sw(w:World)(h:Kl w g mb base b n ab cb ap cp)(hn:n<b.length):
  Calls Tryz.prog 385 #[.pointer (some ⟨g,0,none⟩)] w (Uj w g mb base b n ab cb ap cp):=by
 have hbk:=h.blk;have c0:w.cell? ⟨g,0,none⟩=some (.slice ab b.length cb):=h.blk.cell 0;have c1:w.cell? ⟨g,1,none⟩=some (.map (some mb)):=h.blk.cell 1;have c2:w.cell? ⟨g,2,none⟩=some (.slice ap n cp):=h.blk.cell 2;have f2:=h.blk.free 2;have hg:=h.blk.lt;obtain⟨D,hmap,hD⟩:=h.map;have hprev:=h.prev;obtain⟨ne1,ne2,ne3⟩:g≠mb∧(Value.slice ap n cp).ownBlock≠some g∧(Value.slice ap n cp).ownBlock≠some mb:=⟨h.ne1,h.ne2,h.ne3⟩;have hlen:=h.len;have hlo:=h.lo;have hA:=KL w h;have hK:=No b n ab _ cb w (Ag.mono h.bytes fun q hq=>hq.1) h.len zD;obtain⟨i0,hi,hz0,hz1,hz2⟩:=A1 Rj;have HH:=hid h;have HM:=hid hmap;have HD:=hid hD;have HP:=hid hprev;have HB:=hid hbk;have HA:=hid hA;have HKE:=hid hK;clear h hmap hD hprev hA hK hbk;have hkv:Hid (Ip b n=match C6 b n with | some k=>((k:Int),true) | none=>(0,false)):=hid rfl;have d1:decide ((b.length:Int)≤(n:Int))=false:=zI;have d1':decide (b.length≤n)=false:=zI;cases hk:C6 b n with
 | none=>
  have hv:Ip b n=(0,false):=zB2;rw[hv] at HKE;have hpn:Hf b n=0:=by unfold Hf;rw[hk]
  have HK:=hid hk;have HPN:=hid hpn;clear hk hv hkv hpn;go_enter Tryz.func385,Tryz.ntmps385;go_wp2_with fail;refine HA.out.mono ?_;rintro r w1 ⟨rfl,rfl⟩;go_wp2_with fail;refine HKE.out.mono ?_;rintro r w1 ⟨rfl,rfl⟩;go_wp2_with (at_builtin;go_loud (refine AA rfl _ _ _ rfl base 3 i0 (.int .i64 0) 1 8 Tryz.underlying176 hi hz0 hz1 hz2 rfl zO (.slice ap n cp) n _ rfl (HP.out.alloc _) (some ⟨w.heap.size,0,none⟩) 1 1 [.int .i64 0] rfl (BS w 3 _ rfl rfl rfl) ZB zN zD zI ?_;intro v' w1 hown1 hgrow1 hat1;obtain⟨a',c',rfl⟩:=AX hown1;have G:=fun q (hq:q<w.heap.size) (hne:(Value.slice ap n cp).ownBlock≠some q)=>(hgrow1.block q zI (fun e=>hne e.symm)).trans (AP w _ q hq);have hB:=HB.out.later (Below.refl _ _);have g2:=(BE (a:=⟨g,2,none⟩) (G g hg ne2)).trans f2;have e2:=(AQ (a:=⟨g,2,none⟩) (G g hg ne2)).trans c2;have hz1:g<w1.heap.size:=Ao hg (A6 zQ hgrow1.size);have HG:=hid hgrow1;have HO:=hid hown1;have HAT:=hid hat1;have HGG:=hid G;clear hgrow1 hown1 hat1 G hB))
  have hst:=Rr HH.out hn (Tch.refl _ w) (by
   obtain⟨D,h1,h2⟩:=HH.out.map;exact⟨D,h1.mono (Nat.le_succ n),h2.none HK.out⟩) (by rw[HPN.out];exact HO.out) HG.out HAT.out
  have HST:=hid hst;clear hst;go_ret;exact⟨rfl,HST.out⟩
 | some k=>
  have hv:Ip b n=((k:Int),true):=zB2;rw[hv] at HKE;have hpn:Hf b n=DO b k n:=by unfold Hf;rw[hk]
  have hklt:=LR hk;have HK:=hid hk;have HPN:=hid hpn;have HW:=hid (SO hklt);clear hk hv hkv hpn hklt;go_enter Tryz.func385,Tryz.ntmps385;go_wp2_with fail;refine HA.out.mono ?_;rintro r w1 ⟨rfl,rfl⟩;go_wp2_with fail;refine HKE.out.mono ?_;rintro r w1 ⟨rfl,rfl⟩;have HWF:Hid ((Lit.int .i64 ((n:Int)+1)).wf=true):=hid (by simp[Lit.wf,IntKind.min,IntKind.max,IntKind.signed,IntKind.bits];omega);go_wp2_with (first
   | (at_lookup;go_loud (refine wpList_lookup_own_int _ rfl _ _ 393 rfl 142 3 .i64 Qr Tryz.underlying393 Tryz.underlying3 (Q9 _) mb n D rfl HM.out _ _ rfl (keyOf_int_mk Tryz.underlying142 HW.out) ?_;intro c hat hwc;have hc:c=(DO b k n:Int):=(by have:=HD.out k (by have:=HW.out;simp[Lit.wf,IntKind.max,IntKind.signed,IntKind.bits] at this;omega);rw[hat] at this;simpa using this);subst hc;clear hat hwc))
   | (at_mapUpdate;go_loud (refine wpList_mapUpdate_own _ rfl _ _ _ 393 rfl 142 3 Qr Tryz.underlying393 _ mb n _ rfl HM.out (by unfold maxLen;omega) _ _ _ rfl rfl (keyOf_int_mk Tryz.underlying142 HW.out) _ [] (plainElem_int Tryz.underlying3 HWF.out) ?_;intro w2 hown2 hgrow2;have hnm:some g≠some mb:=fun e=>ne1 (A5 e);have hg2:g<w2.heap.size:=Ao hg hgrow2.size;have c2b:=(AQ (a:=⟨g,2,none⟩) (hgrow2.block g hg hnm)).trans c2;have f2b:=(BE (a:=⟨g,2,none⟩) (hgrow2.block g hg hnm)).trans f2;have HP2:=hid (Hg (w':=w2) HP.out fun q hq=>hgrow2.block q (HP.out.lt q hq).2 (fun e=>ne3 (hq.trans e)));have HG2:=hid hgrow2;have HM2:=hid hown2;clear hown2 hgrow2 hnm))
   | (at_builtin;go_loud (refine AA rfl _ _ _ rfl base 3 i0 (.int .i64 0) 1 8 Tryz.underlying176 hi hz0 hz1 hz2 rfl zO (.slice ap n cp) n _ rfl (HP2.out.alloc _) (some ⟨w2.heap.size,0,none⟩) 1 1 [.int .i64 (DO b k n:Int)] rfl (BS w2 3 _ rfl rfl rfl) ZB zN zD zI ?_;intro v' w1 hown1 hgrow1 hat1;obtain⟨a',c',rfl⟩:=AX hown1;have G:=fun q (hq:q<w2.heap.size) (hne:(Value.slice ap n cp).ownBlock≠some q)=>(hgrow1.block q zI (fun e=>hne e.symm)).trans (AP w2 _ q hq);have g2:=(BE (a:=⟨g,2,none⟩) (G g hg2 ne2)).trans f2b;have e2:=(AQ (a:=⟨g,2,none⟩) (G g hg2 ne2)).trans c2b;have hz1:g<w1.heap.size:=Ao hg2 (A6 zQ hgrow1.size);have HG:=hid hgrow1;have HO:=hid hown1;have HAT:=hid hat1;have HGG:=hid G;clear hgrow1 hown1 hat1 G)))
  have hst:=Rr HH.out hn ((Tch.Te HG2.out).mono fun q _ e=>(A5 e).symm) ⟨_,HM2.out,HD.out.some HM.out.isMap HK.out⟩ (by rw[HPN.out];exact HO.out) HG.out HAT.out;have HST:=hid hst;clear hst;go_ret;exact⟨rfl,HST.out⟩
theorem F4.trans{w w1 w2:World}{g mb:Nat}{n m:Nat}{ap a1:Option Addr}{cp c1:Nat}(h:Tch (fun q=>q=g∨q=mb∨(Value.slice ap n cp).ownBlock=some q) w w1)
 (ho:(Value.slice a1 m c1).ownBlock=(Value.slice ap n cp).ownBlock∨∃q,(Value.slice a1 m c1).ownBlock=some q∧w.heap.size≤q) (k':F4 w1 g mb base b m k ab cb a1 c1 w2):F4 w g mb base b n k ab cb ap cp w2:=by
 obtain⟨a2,c2,h1,h2,h3⟩:=k';refine⟨a2,c2,h1,h.trans h2 fun q hq e=> ?_,?_⟩
 ·rcases e with e | e | e
  ·exact .inl e
  ·exact .inr (.inl e)
  ·rcases ho with ho | ⟨q',hq',hlt⟩
   ·exact .inr (.inr (ho ▸ e))
   ·rw[hq'] at e;have:=A5 e;omega
 ·rcases h3 with h3 | ⟨q',hq',hlt⟩
  ·rcases ho with ho | ⟨q',hq',hlt⟩
   ·exact .inl (h3.trans ho)
   ·exact .inr ⟨q',h3.trans hq',hlt⟩
  ·exact .inr ⟨q',hq',A6 h.size hlt⟩
theorem F4.refl(h:Kl w g mb base b n ab cb ap cp):F4 w g mb base b n n ab cb ap cp w:=⟨ap,cp,h,Tch.refl _ _,.inl rfl⟩
def SJ(w:World)(g mb base:Nat)(b:List UInt8)(n m:Nat)(ab:Option Addr)(cb:Nat)(ap:Option Addr)(cp:Nat)(r:Ending)(w':World):Prop:=r=.returned (.int .i64 ((m:Int)-n))∧F4 w g mb base b n m ab cb ap cp w'
theorem Pp(w:World)(h:Kl w g mb base b n ab cb ap cp)(m:Nat)(hn:n≤m)(hm:m≤b.length):
  Calls Tryz.prog 379 #[.pointer (some ⟨g,0,none⟩),.int .i64 m] w (SJ w g mb base b n m ab cb ap cp):=by
 have hlen:=h.len;have HS:=hid (F4.refl h);clear h;go_enter Tryz.func379,Tryz.ntmps379;go_wp2_with fail;go_loopw [5] (fun i wr=>∃k:Nat,n+k≤m∧i=.int .i64 k∧Hid (F4 w g mb base b n (n+k) ab cb ap cp wr)) (fun i _=>m-(intOf i).toNat)
 case atStart=>exact ⟨0,hn,rfl,HS⟩
 case round=>
  obtain⟨k,hk,rfl,hst⟩:=hrel;clear HS;obtain⟨a1,c1,h1,h2,h3⟩:=hst.out;have HA:=hid (KL wr h1);have HT:=hid h2;have HO:=hid h3;have H1:=hid h1;clear h1 h2 h3;by_cases hlt:n+k<m
  ·have hAdd:=hid (Sw wr H1.out zD)
   have d1:decide (((n+k:Nat):Int)<(m:Int))=true:=zI;have d2:decide ((n:Int)+(k:Int)<(m:Int))=true:=zI;have d3:decide (n+k<m)=true:=zI;go_wp2_with fail;refine HA.out.mono ?_;rintro r w1 ⟨rfl,rfl⟩;go_wp2_with fail;refine hAdd.out.mono ?_;rintro r w1 ⟨rfl,hs1⟩;have HS1:=hid (F4.trans HT.out HO.out hs1);clear hs1;go_wp2;go_roundw
   case rel=>first | exact⟨k+1,zD,zT,HS1⟩ | ((repeat apply Exists.intro);refine⟨?_,?_⟩;rotate_left;rfl;exact⟨k+1,zD,zT,HS1⟩)
   case measure=>simp [intOf];omega
  ·obtain rfl:m=n+k:=by omega
   have d1:decide (((n+k:Nat):Int)<((n+k:Nat):Int))=false:=zQ;have d2:decide ((n:Int)+(k:Int)<(n:Int)+(k:Int))=false:=zQ;have hff:Hid (((n+k:Nat):Int)-(n:Int)=(k:Int)):=hid zD;go_wp2_with fail;refine HA.out.mono ?_;rintro r w1 ⟨rfl,rfl⟩;go_wp2;go_ret;exact⟨zK,hst.out⟩
end Go.Proofs.YtfddhafbhceoaaaGreat
namespace Go.Bs
open Go.RowKit
variable{b:List UInt8}{cs xs:List Value}{base c g i k n o off p sz:Nat}{S:Nat → Prop}{a:Option Addr}{e t:TypeId}{v v':Value}{W W' w:World}
def Fl(o:Oper):Bool:=match o.op with | .defer _=>false | _=>true
section
variable {F:Fence} {n:Nat} {P:Program} {ops:Array Oper} {md:Region.Mode} {C:World→Prop}
theorem NP{o:Oper}(h:Fl o=true):∀c,o.op≠ .defer c:=fun c e=>by
 unfold Fl at h;rw[e] at h;cases h
theorem KS{o:Oper}{a:Act}{K:Act→Prop}{K':Act→World→Prop}{Q':Exit→Act→World→Prop}(hd:Fl o=true)(hw:C w)(h:∀a w',C w'→K a→K' a w')
 (ha:o.askedIn F P a C) (hh:o.quietIn F n P a C K):o.wpIn F n P a w K' Q':=by
 obtain⟨v,h1,h2⟩:=hh;have h3:=h1 w hw;unfold Oper.quietAtIn at h3;unfold Oper.wpIn;refine⟨ha w hw,?_⟩;rw[Oper.semAt_eq _ _ _ (NP hd)];generalize (execOp a.eval o).run P w=r at*;cases r with
 | ok x w'=>
  cases x<;>simp only[Oper.quietUponIn] at h3<;>simp only[Oper.uponIn]
  case value u=>
   obtain⟨e1,e2⟩:=h3;rw[e1,e2];exact h _ _ hw h2
  case skip=>
   obtain⟨e1,e2⟩:=h3;rw[e1,←e2];exact h _ _ hw h2
  case enter f args=>
   obtain⟨e1,hd,hc⟩:=h3;rw[e1];exact⟨hd,hc.mono fun e w'' ⟨he,hw''⟩=>by subst he;exact h _ _ hw'' h2⟩
 | halt x w'=>simp only[Oper.quietUponIn] at h3
theorem Jg{a:Act}{K:Act→Prop}{K':Act→World→Prop}{Q':Exit→Act→World→Prop}(hd:ops.all Fl=true)(hC:C w)(h:∀a w',C w'→K a→K' a w')
 (hh:qOpIn F n P ops C i K a):wpOpIn F n P ops Q' i K' a w:=by
 unfold qOpIn at hh;unfold wpOpIn;split
 ·rename_i ho;simp only[ho] at hh;exact h _ _ hC hh
 ·rename_i o ho
  have hdo:Fl o=true:=by
   have:=Array.all_eq_true'.1 hd o (Array.mem_of_getElem? ho);exact this
  simp only[ho] at hh;obtain⟨ha,hh⟩:=hh;split
  ·rename_i hw;simp only[hw,Fs] at hh;exact KS hdo hC h ha hh
  ·rename_i hw;simp only[hw] at hh;exact⟨ha w hC,h _ _ hC hh⟩
theorem FD{Q:Act→Prop}{Q':Exit→Act→World→Prop}(hd:ops.all Fl=true)(hQ:∀a w,C w→Q a→Q' .normal a w):∀(fuel:Nat) (listed:Array Bool) (a:Act) (w:World),C w→
  wpAnyQIn F n P md ops C Q fuel listed a→wpAnyIn F n P md ops Q' fuel listed a w
 | 0,_,_,_,hw,h=>⟨h.1,hQ _ _ hw h.2⟩
 | fuel+1,_,_,_,hw,h=>⟨fun h0=>hQ _ _ hw (h.1 h0),fun i hi=>Jg hd hw (fun a' w' hw'=>FD hd hQ fuel _ a' w' hw') (h.2 i hi)⟩
theorem F8{id:Nat}{Q:Exit→Act→World→Prop}{a:Act}{l:List Oper}(C:World→Prop)(hm:P.follows .mixedOrders=true)(hd:l.toArray.all Fl=true)(hB:Region.lexB .any l.toArray=true)(hC:C w.drew)
 (h:wpQuietIn F n P l.toArray C (fun a'=>∀w',C w'→Q .normal a' w') l a):(Code.region id l.toArray true).wpIn F n P Q a w:=by
 simp only[Region.lexB,Aq] at hB;refine wpIn_region_any hm (FD (Q:=fun a'=>∀w',C w'→Q .normal a' w') hd (fun _ w' hw' h=>h w' hw') _ _ _ _ hC ?_);have:=wpAnyQIn_lex (F:=F) (n:=n) (C:=C) (md:=.any) hB.1 l 0 (Array.replicate l.toArray.size false) a zQ (by simpa using hB.2) h;simpa using this
theorem C4{id:Nat}{Q:Exit→Act→World→Prop}{a:Act}{w:World}{l:List Oper}(hm:P.follows .mixedOrders=true)(hd:l.toArray.all Fl=true)(hB:Region.lexB .any l.toArray=true)
 (h:wpQuietIn F n P l.toArray (fun w'=>∃s:AE w,w'=s.at_) (fun a'=>∀w',(∃s:AE w,w'=s.at_)→Q .normal a' w') l a):(Code.region id l.toArray true).wpIn F n P Q a w:=
 F8 _ hm hd hB ⟨⟨w.drew,(Below.refl _ _).drew⟩,rfl⟩ h
theorem IH{id:Nat}{Q:Exit→Act→World→Prop}{a:Act}{l:List Oper}(hm:P.follows .mixedOrders=true)(hd:l.toArray.all Fl=true)(hB:Region.lexB .any l.toArray=true)
 (h:wpQuietIn F n P l.toArray (fun w'=>∃n,w'=w.drewN n) (fun a'=>∀w',(∃n,w'=w.drewN n)→Q .normal a' w') l a):(Code.region id l.toArray true).wpIn F n P Q a w:=
 F8 _ hm hd hB ⟨1,rfl⟩ h
theorem SL{p:Prop}(h:Fence.wide.depth.isSome=true):p:=by simp[Fence.wide] at h
theorem Qs{n:Nat}{f:FuncId}{args:Array Value}{w:World}{s:AE w}{v:Value}{l:Nat}
 (h:Calls P f args s.at_ fun e w'=>e=.returned v∧Below s.at_.heap.size s.at_ w'):CallsIn (Fence.wide.inRound l) n P f args s.at_ fun e w''=>e=.returned v∧∃s':AE w,w''=s'.at_:=
 CallsIn.inRound l (callsIn_wide.2 (A9 h))
theorem BK{id:Nat}{Q:Exit→Act→World→Prop}{a:Act}{w:World}{l:List Oper}(n:Nat)(hm:P.follows .mixedOrders=true)(hB:Region.lexTailB .any l.toArray n=true)
 (h:wpStill P l.toArray w.drew (fun a'=>wpList P l.toArray Q (l.drop n) a' w.drew) (l.take n) a):(Code.region id l.toArray true).wp P Q a w:=wp_region_still_tail n hm hB h
theorem IG{c:Code}{Q:Exit→Act→World→Prop}{a:Act}(G:World→Prop)(hG:G w)(h:∀W,G W→c.wpIn F n P Q a W):c.wpIn F n P Q a w:=h w hG
theorem EW{B:Nat}{G:Nat→Prop}(h:Tch G W W')(hF:∀q,G q→q<B):KeepsFrom B W W':=
 ⟨h.size,fun k o hB hk _=>(h.block k (Array.getElem?_eq_some_iff.1 hk).1 (fun e=>by have:=hF k e;omega)).trans hk⟩
end
end Go.Bs
namespace Go.Proofs.YtfddhafbhceoaaaGreat
open Go.RowKit Go.Bs Go.Maps Go.Shelf
variable{b:List UInt8}{xs:List Value}{base cb cp g i k mb n o off p:Nat}{ab ap:Option Addr}{e:TypeId}{u v:Value}{w w' w1:World}
def FM(b:List UInt8)(k m:Nat):Nat→List (Fin m)
 | 0=>[]
 | j+1=>if h:j<m then (if C6 b j=some k then ⟨j,h⟩::FM b k m j else FM b k m j) else FM b k m j
theorem MT(b:List UInt8)(k m:Nat):∀j,DO b k j=0→FM b k m j=[]
 | 0,_=>rfl
 | j+1,h=>by
  simp only[DO] at h;split at h
  ·omega
  ·rename_i hk
   have ih:=MT b k m j h;simp only[FM];split
   ·first | exact ih | (rw[Ah hk];exact ih)
   ·exact ih
theorem MS(b:List UInt8)(k m:Nat):∀(j i:Nat) (hi:i<m),DO b k j=i+1→FM b k m j=⟨i,hi⟩::FM b k m i
 | 0,i,hi,h=>by simp[DO] at h
 | j+1,i,hi,h=>by
  simp only[DO] at h;split at h
  ·rename_i hk
   obtain rfl:j=i:=zD;simp only[FM];rw[dif_pos hi,Ai hk]
  ·rename_i hk
   have ih:=MS b k m j i hi h;simp only[FM];split
   ·first | exact ih | (rw[Ah hk];exact ih)
   ·exact ih
def Gy(p:Nat)(q:Fin p):Bool:=decide (p-q.val≤65536)
def placesOf(b:List UInt8)(p:Nat):List (Fin p):=match C6 b p with | none=>[] | some k=>(FM b k p p).takeWhile (Gy p)
theorem Qt(b:List UInt8)(k j i:Nat)(h:DO b k j=i+1):C6 b i=some k∧i<j:=by
 have h1:=M4 b k j zD;have h2:=JF b k j;rw[h] at h1 h2;exact⟨zAh,zD⟩
theorem Qa(h:C6 b i=some k):Hf b i=DO b k i:=by unfold Hf;rw[h]
theorem Qd(h:w.ownsRow base e 1 v n xs)(hi:xs[i]? =some u)(hn:n=xs.length):∃gp c,v=.slice (some ⟨gp,0,none⟩) n c∧w.cell? ⟨gp,i,none⟩=some u∧gp<w.heap.size:=by
 have hlt:=(List.getElem?_eq_some_iff.1 hi).1;rcases h.2 with ⟨_,h0⟩ | ⟨g,cap,cur,h1,h2,h3,h4,h5,h6,h7⟩
 ·omega
 ·refine⟨g,cap,h1,?_,(Array.getElem?_eq_some_iff.1 h3).1⟩
  rw[Blk.cell h3 i];have e1:cur[i]? =(cur.toList.take (n*1))[i]? :=by
   rw[Du,Ai zD];simp
  rw[e1,h7];exact hi
theorem S6(h:i<n):(Iw b n)[i]? =some (.int .i64 (Hf b i:Int)):=by simp[Iw,h]
def KpC(Q:Nat→Prop)(w w':World):Prop:=∀q,Q q→w'.heap[q]? =w.heap[q]?
theorem KpC.trans{Q:Nat→Prop}{w'':World}(h:KpC Q w w')(k:KpC Q w' w''):KpC Q w w'':=fun q hq=>(k q hq).trans (h q hq)
theorem QO(w:World)(n:Nat):w.grownBy (w.drewN n) none:=⟨rfl,rfl,rfl,Ap _,fun _ _ _=>rfl⟩
theorem NL(w:World){g mb:Nat}{b:List UInt8}{p:Nat}{ap:Option Addr}{cp:Nat}{bc ba:Nat}(h:Kl w g mb base b p ab cb ap cp)(hc:Blk w bc 385 #[.pointer (some ⟨g,0,none⟩)])(ha:Blk w ba 3 #[.int .i64 (p:Int)]):
  SeqStopsK Fence.wide n Tryz.prog 386 #[.pointer (some ⟨bc,0,none⟩),.pointer (some ⟨ba,0,none⟩)] (fun x:Fin p=>#[.int .i64 (x.val:Int)]) (KpC fun q=>q=g∨q=mb∨(Value.slice ap p cp).ownBlock=some q∨q=bc∨q=ba)
   (fun xs=>xs=placesOf b p) (fun pre=>pre<+:placesOf b p) (placesOf b p).length w:=by
 intro l J Jx W hW hJ hJx hY h0;have hlen:=h.len;have hle:=h.le;have hK0:KpC (fun q=>q=g∨q=mb∨(Value.slice ap p cp).ownBlock=some q∨q=bc∨q=ba) w W:=fun q hq=>by
  rcases hq with rfl | rfl | hq | rfl | rfl
  ·exact hW.block _ h.blk.lt
  ·obtain⟨D,hD,_⟩:=h.map;exact hW.block _ hD.lt
  ·exact hW.block _ (h.prev.lt _ hq).2
  ·exact hW.block _ hc.lt
  ·exact hW.block _ ha.lt
 have hkey:=fun (nq:Nat)=>No b p ab b.length cb (W.drewN nq) (Ag.mono (Ag.keep h.bytes fun q hq=>hW.block q hq.1) fun q hq=>Ao hq.1 hW.size) hlen zD;have hg0:=h.blk;have hmap:=h.map;have hprev:=h.prev;have HG0:=hid hg0;have HMAP:=hid hmap;have HPREV:=hid hprev;have HC:=hid hc;have HAA:=hid ha;have HY:=hid hY;have HJ:=hid hJ;have HJX:=hid hJx;have HWs:=hid hW;have HKEY:=hid hkey;clear h hg0 hmap hprev hc ha hY hJ hJx hW hkey;have c1:W.cell? ⟨bc,0,none⟩=some (.pointer (some ⟨g,0,none⟩)):=(Blk.later HC.out HWs.out).cell 0;have c2:W.cell? ⟨ba,0,none⟩=some (.int .i64 (p:Int)):=(Blk.later HAA.out HWs.out).cell 0;have c3:W.cell? ⟨g,0,none⟩=some (.slice ab b.length cb):=(Blk.later HG0.out HWs.out).cell 0;have c4:W.cell? ⟨g,1,none⟩=some (.map (some mb)):=(Blk.later HG0.out HWs.out).cell 1;refine callsIn_of_wp Tryz.func386 rfl trivial ?_ rfl;simp only[Tryz.ntmps386,List.size_toArray,AL,By,Nat.reduceAdd,Nat.reduceSub,Array.replicate_succ,Array.replicate_zero,List.push_toArray,List.append_toArray,A8,K0];have hfw:∀f,Fence.wide.fn f=True:=fun _=>rfl;gi_wp2
 refine IH zJ zJ zJ ?_;repeat (gi_big_quiet_step ((refine⟨SL,callsIn_wide.2 ((HKEY.out _).mono fun e w' ⟨he,hw⟩=>⟨he,_,hw.symm⟩)⟩)))
 refine wpQuietIn_nil ?_;intro _ hw';obtain⟨nq,rfl⟩:=hw';have h1:Hid (J [] (W.drewN nq)):=hid (HJ.out [] W _ none h0 (QO W nq) (fun r e=>by cases e));have hkv:Hid (Ip b p=match C6 b p with | some k=>((k:Int),true) | none=>(0,false)):=hid rfl;have hpo:Hid (placesOf b p=match C6 b p with | none=>[] | some k=>(FM b k p p).takeWhile (Gy p)):=hid rfl;cases hk:C6 b p with
 | none=>
  have hv:Ip b p=(0,false):=zB2;have hp0:Hid (placesOf b p=[]):=hid (by rw[hpo.out,hk]);rw[hv];clear hv hk hkv hpo;gi_wp2
  refine An (AO rfl _ _ _) rfl ?_;exact⟨⟨_,rfl⟩,.inl ⟨[],hp0.out.symm,h1.out⟩⟩
 | some k=>
  have hv:Ip b p=((k:Int),true):=zB2;have hp0:Hid (placesOf b p=(FM b k p p).takeWhile (Gy p)):=hid (by rw[hpo.out,hk]);have hW:=hid (SO (LR hk));have hklt:=hid (LR hk);rw[hv];clear hv hk hkv hpo;obtain⟨D,hD,hL⟩:=HMAP.out;have hD2:=hid (Jz (w':=W.drewN nq) hD (HWs.out.block _ hD.lt));have HL:=hid hL;clear hD hL;gi_wp2_with (gi_at_lookup;go_loud (refine wpListIn_lookup_own_int _ rfl _ _ 393 rfl 142 3 .i64 Qr Tryz.underlying393 Tryz.underlying3 (Q9 _) mb p D rfl hD2.out _ _ rfl (keyOf_int_mk Tryz.underlying142 hW.out) ?_;intro c hat hwc;have hc:c=(DO b k p:Int):=(by have:=HL.out k hklt.out;rw[hat] at this;simpa using this);subst hc;clear hat hwc))
  gi_loopw [6] (fun kk wr=>∃(pre:List (Fin p)) (j:Nat),j≤p∧kk=.int .i64 (DO b k j:Int)∧Hid (placesOf b p=pre++(FM b k p j).takeWhile (Gy p))∧Hid (J pre wr)∧Hid (KpC (fun q=>q=g∨q=mb∨(Value.slice ap p cp).ownBlock=some q∨q=bc∨q=ba) w wr)) (fun kk _=>(intOf kk).toNat)
  case atStart=>exact ⟨[],p,Ap _,rfl,hid (by rw[hp0.out];rfl),h1,hid (KpC.trans hK0 fun q hq=>rfl)⟩
  case round=>
   obtain⟨pre,j,hj,rfl,hx,hJs,hKs⟩:=hrel;have hle2:=JF b k j;cases hlj:DO b k j with
   | zero=>
    have hend:Hid (placesOf b p=pre):=hid (by rw[hx.out,MT b k p j hlj];simp);clear hlj;gi_wp2
    go_end0
    exact⟨⟨_,rfl⟩,.inl ⟨pre,hend.out.symm,hJs.out⟩⟩
   | succ i=>
    obtain⟨hki,hij⟩:=Qt b k j i hlj;have hip:i<p:=zD;have hstep:(FM b k p j).takeWhile (Gy p)=if Gy p ⟨i,hip⟩ then ⟨i,hip⟩::(FM b k p i).takeWhile (Gy p) else []:=by
     rw[MS b k p j i hip hlj,List.takeWhile_cons]
    have hpn:=Qa hki;have HS:=hid hstep;have HPN:=hid hpn;clear hlj hki hstep hpn;have B1:=(hKs.out bc (.inr (.inr (.inr (.inl rfl))))).trans HC.out;have B2:=(hKs.out ba (.inr (.inr (.inr (.inr rfl))))).trans HAA.out;have r1:wr.cell? ⟨bc,0,none⟩=some (.pointer (some ⟨g,0,none⟩)):=Blk.cell B1 0;have r2:wr.cell? ⟨ba,0,none⟩=some (.int .i64 (p:Int)):=Blk.cell B2 0;clear B1 B2;have t0:(0:Int)<((i+1:Nat):Int):=zD;by_cases hnr:p-i≤65536
    ·have hn2:Gy p ⟨i,hip⟩=true:=by simp[Gy,hnr]
     have hx2:Hid (placesOf b p=pre++⟨i,hip⟩::(FM b k p i).takeWhile (Gy p)):=hid (by rw[hx.out,HS.out,hn2,Ai rfl]);obtain⟨fn,tmps,assign,body,hy,hR⟩:=HY.out pre ⟨i,hip⟩ wr hJs.out (by rw[hx2.out];simp);have d1:decide ((65536:Int)<(p:Int)-(i:Int))=false:=zI;have d2:decide ((i:Int)<(p:Int))=true:=zI;have d2':decide (i<p)=true:=zI;dsimp only at hy;have HR:=hid hR;clear hR hn2;gi_wp2
     refine⟨SL,?_⟩;refine HR.out.mono ?_;rintro e W3 (⟨rfl,hJ3,hk3⟩ | ⟨rfl,hJx3⟩)
     ·have hK3:=KpC.trans hKs.out hk3
      have HJ3:=hid hJ3;have HK3:=hid hK3;clear hJ3 hk3 hK3;have B1:=(HK3.out bc (.inr (.inr (.inr (.inl rfl))))).trans HC.out;have B3:=(HK3.out g (.inl rfl)).trans HG0.out;obtain⟨gp,cp2,hvp,hcp,hgp⟩:=Qd HPREV.out (S6 (b:=b) hip) (NI b p).symm;simp only[Value.slice.injEq,true_and] at hvp;obtain⟨rfl,rfl⟩:=hvp;have q1:W3.cell? ⟨bc,0,none⟩=some (.pointer (some ⟨g,0,none⟩)):=Blk.cell B1 0;have q3:W3.cell? ⟨g,2,none⟩=some (.slice (some ⟨gp,0,none⟩) p cp):=Blk.cell B3 2;have q4:W3.cell? ⟨gp,i,none⟩=some (.int .i64 (Hf b i:Int)):=(AQ (a:=⟨gp,i,none⟩) (HK3.out gp (.inr (.inr (.inl rfl))))).trans hcp;rw[HPN.out] at q4;have i1:(i:Int)<(p:Int):=zD;have i2:(0:Int)≤(i:Int):=zD;clear hcp B1 B3;gi_wp2
      go_roundw
      case rel=>exact ⟨pre++[⟨i,hip⟩],i,zD,rfl,hid (by rw[hx2.out];simp),HJ3,HK3⟩
      case measure=>
       have:=JF b k i;simp[intOf];omega
     ·have HJX3:=hid hJx3;clear hJx3
      gi_wp2
      refine An (AO rfl _ _ _) rfl ?_;exact⟨⟨_,rfl⟩,.inr ⟨pre++[⟨i,hip⟩],⟨(FM b k p i).takeWhile (Gy p),by rw[hx2.out];simp⟩,HJX3.out⟩⟩
    ·have hn2:Gy p ⟨i,hip⟩=false:=by simp[Gy];omega
     have hend:Hid (placesOf b p=pre):=hid (by rw[hx.out,HS.out,hn2];simp);have d1:decide ((65536:Int)<(p:Int)-(i:Int))=true:=zI;clear hn2;gi_wp2
     refine An (AO rfl _ _ _) rfl ?_;exact⟨⟨_,rfl⟩,.inl ⟨pre,hend.out.symm,hJs.out⟩⟩
open Go.RowKit Go.Bs
def Jm(b:List UInt8)(p:Nat)(s:Nat × Nat)(q:Fin p):Nat × Nat:=if s.2<CP b p (p-q.val) then (p-q.val,CP b p (p-q.val)) else s
def EA(b:List UInt8)(p:Nat)(l:List (Fin p)):Nat × Nat:=l.foldl (Jm b p) (0,0)
theorem QZ(b:List UInt8)(p:Nat)(l:List (Fin p))(q:Fin p):EA b p (l++[q])=Jm b p (EA b p l) q:=by simp[EA]
def NB(s:Nat × Nat):Nat × Nat:=(if s.2<4 then 0 else s.1,if s.2<4 then 0 else s.2)
theorem Ju(b:List UInt8)(k m:Nat):∀j,j≤m→∀q:Fin m,q∈FM b k m j↔q.val<j∧C6 b q.val=some k
 | 0,_,q=>by simp[FM]
 | j+1,hj,q=>by
  have ih:=Ju b k m j zD q;simp only[FM];rw[dif_pos zD];by_cases hk:C6 b j=some k
  ·rw[Ai hk,List.mem_cons,ih]
   constructor
   ·rintro (rfl | ⟨h1,h2⟩)
    ·exact⟨zQ,hk⟩
    ·exact⟨zD,h2⟩
   ·rintro⟨h1,h2⟩
    by_cases e:q.val=j
    ·exact .inl (Fin.ext e)
    ·exact .inr ⟨zD,h2⟩
  ·rw[Ah hk,ih]
   constructor
   ·rintro⟨h1,h2⟩;exact⟨zD,h2⟩
   ·rintro⟨h1,h2⟩
    refine⟨?_,h2⟩;by_cases e:q.val=j
    ·rw[e] at h2;exact absurd h2 hk
    ·omega
theorem JY(b:List UInt8)(k m:Nat):∀j,j≤m→(FM b k m j).Pairwise (fun x y=>y.val<x.val)
 | 0,_=>by simp[FM]
 | j+1,hj=>by
  have ih:=JY b k m j zD;simp only[FM];rw[dif_pos zD];split
  ·refine List.pairwise_cons.2 ⟨fun q hq=> ?_,ih⟩
   exact ((Ju b k m j zD q).1 hq).1
  ·exact ih
theorem Nm{p:Nat}:∀{l:List (Fin p)},l.Pairwise (fun x y=>y.val<x.val)→∀q,q∈l→Gy p q=true→q∈l.takeWhile (Gy p)
 | [],_,q,h,_=>by cases h
 | x::l,hd,q,h,hn=>by
  obtain⟨h1,h2⟩:=List.pairwise_cons.1 hd;have hx:Gy p x=true:=by
   rcases List.mem_cons.1 h with rfl | h
   ·exact hn
   ·have:=h1 q h
    simp only[Gy,Ar] at hn ⊢;omega
  rw[List.takeWhile_cons,Ai hx];rcases List.mem_cons.1 h with rfl | h
  ·exact List.mem_cons_self ..
  ·exact List.mem_cons_of_mem _ (Nm h2 q h hn)
theorem G6{α:Type}{f:α→Bool}:∀{l:List α} {q:α},q∈l.takeWhile f→f q=true
 | [],q,h=>by simp at h
 | x::l,q,h=>by
  rw[List.takeWhile_cons] at h;split at h
  ·rename_i hx
   rcases List.mem_cons.1 h with e | h
   ·rw[e];exact hx
   ·exact G6 h
  ·cases h
theorem Ix(b:List UInt8)(p:Nat):(placesOf b p).Pairwise (fun x y=>y.val<x.val):=by
 unfold placesOf;split
 ·exact List.Pairwise.nil
 ·exact (JY b _ p p (Ap _)).sublist (List.takeWhile_sublist _)
theorem Fj(q:Fin p):q∈placesOf b p↔(∃k,C6 b p=some k∧C6 b q.val=some k)∧p-q.val≤65536:=by
 unfold placesOf;cases hk:C6 b p with
 | none=>simp
 | some k=>
  simp only[Bh,exists_eq_left'];constructor
  ·intro h
   have h1:=(Ju b k p p (Ap _) q).1 ((List.takeWhile_sublist _).subset h);have h2:Gy p q=true:=G6 h;exact⟨h1.2,by simpa [Gy] using h2⟩
  ·rintro⟨h1,h2⟩
   exact Nm (JY b k p p (Ap _)) q ((Ju b k p p (Ap _) q).2 ⟨q.isLt,h1⟩) (by simp[Gy,h2])
theorem Hh{q:Fin p}(h1:C6 b p=some k)(h2:C6 b q.val=some k):4≤CP b p (p-q.val):=by
 have hq:=q.isLt;have hp:p+4≤b.length:=by
  rcases Be b.length (p+4) with h | h
  ·rw[J7 h] at h1;cases h1
  ·exact h
 rw[Fz hp] at h1;rw[Fz (show q.val+4≤b.length by omega)] at h2;simp only[Bh] at h1 h2;have a0:=b[p].toNat_lt;have a1:=b[p+1].toNat_lt;have a2:=b[p+2].toNat_lt;have a3:=b[p+3].toNat_lt;have c0:=b[q.val].toNat_lt;have c1:=b[q.val+1].toNat_lt;have c2:=b[q.val+2].toNat_lt;have c3:=b[q.val+3].toNat_lt;have e0:b[p]=b[q.val]:=UInt8.toNat_inj.1 zD;have e1:b[p+1]=b[q.val+1]:=UInt8.toNat_inj.1 zD;have e2:b[p+2]=b[q.val+2]:=UInt8.toNat_inj.1 zD;have e3:b[p+3]=b[q.val+3]:=UInt8.toNat_inj.1 zD;refine Ua zD zD zD fun j hj=>⟨zD,?_⟩;rw[show p+j-(p-q.val)=q.val+j by omega];rw[AM (show p+j<b.length by omega),AM (show q.val+j<b.length by omega)];have hj4:j=0∨j=1∨j=2∨j=3:=zD;rcases hj4 with rfl | rfl | rfl | rfl
 ·exact Bc some e0
 ·exact Bc some e1
 ·exact Bc some e2
 ·exact Bc some e3
theorem O0(h:4≤CP b p o):∃k,C6 b p=some k∧C6 b (p-o)=some k:=by
 obtain⟨h1,h2,h3,_⟩:=MX (show 3<CP b p o by omega);have hs:=fun j (hj:j<4)=>(MX (show j<CP b p o by omega)).2.2.2;have e:∀j,j<4→b[p+j]? =b[p-o+j]? :=fun j hj=>by
  have:=hs j hj;rwa [show p+j-o=p-o+j by omega] at this
 refine⟨_,Fz zD,?_⟩;have:=Fz (b:=b) (p:=p) zD;rw[←this];unfold C6;have g0:=e 0 zD;simp only[CR] at g0;rw[g0,e 1 zD,e 2 zD,e 3 zD]
structure Found(b:List UInt8)(p:Nat)(pre:List (Fin p))(s:Nat × Nat):Prop where
 all:∀q∈pre,CP b p (p-q.val)≤s.2
 is:pre=[]∧s=(0,0)∨∃q0∈pre,s.1=p-q0.val∧s.2=CP b p (p-q0.val)∧∀q∈pre,q0.val<q.val→CP b p (p-q.val)<s.2
theorem M9{p:Nat}:∀(r pre:List (Fin p)) (s:Nat × Nat),(pre++r).Pairwise (fun x y=>y.val<x.val)→(∀q∈pre++r,4≤CP b p (p-q.val))→Found b p pre s→Found b p (pre++r) (r.foldl (Jm b p) s)
 | [],pre,s,_,_,h=>by simpa using h
 | q::r,pre,s,hd,hm,h=>by
  have e:pre++q::r=(pre++[q])++r:=zQ;rw[e] at hd hm ⊢;rw[List.foldl_cons];refine M9 r (pre++[q]) _ hd hm ?_;have hlt:∀x∈pre,q.val<x.val:=fun x hx=>by
   have:=(List.pairwise_append.1 hd).1;exact (List.pairwise_append.1 this).2.2 x hx q zQ
  have h4:=hm q zQ;unfold Jm;by_cases hs:s.2<CP b p (p-q.val)
  ·rw[Ai hs]
   refine⟨fun x hx=> ?_,.inr ⟨q,zQ,rfl,rfl,fun x hx hlt'=> ?_⟩⟩
   ·rcases List.mem_append.1 hx with hx | hx
    ·have:=h.all x hx
     show _≤CP b p (p-q.val)
     omega
    ·simp at hx;subst hx;exact Ap _
   ·rcases List.mem_append.1 hx with hx | hx
    ·have:=h.all x hx
     show _<CP b p (p-q.val)
     omega
    ·simp at hx;subst hx;omega
  ·rw[Ah hs]
   rcases h.is with ⟨rfl,rfl⟩ | ⟨q0,hq0,h1,h2,h3⟩
   ·simp only at hs;omega
   ·refine⟨fun x hx=> ?_,.inr ⟨q0,by simp[hq0],h1,h2,fun x hx hlt'=> ?_⟩⟩
    ·rcases List.mem_append.1 hx with hx | hx
     ·exact h.all x hx
     ·simp at hx;subst hx;omega
    ·rcases List.mem_append.1 hx with hx | hx
     ·exact h3 x hx hlt'
     ·simp at hx;subst hx;have:=hlt q0 hq0;omega
theorem M8{pre:List (Fin p)}(h:pre<+:placesOf b p):Found b p pre (EA b p pre):=by
 have:=M9 (b:=b) pre [] (0,0) (by
  simp only[A8];exact (Ix b p).sublist h.sublist) (fun q hq=>by
   simp only[A8] at hq;obtain⟨⟨k,h1,h2⟩,_⟩:=(Fj q).1 (h.subset hq);exact Hh h1 h2) ⟨fun q hq=>(by cases hq),.inl ⟨rfl,rfl⟩⟩
 simpa [EA] using this
theorem few{p j:Nat}(h1:1≤j)(h2:j≤reach p)(h:∀q:Fin p,q∈placesOf b p→q.val≠p-j):CP b p j<4:=by
 rcases Be (CP b p j) 4 with h' | h'
 ·exact h'
 ·exfalso
  unfold reach at h2;obtain⟨k,g1,g2⟩:=O0 h';exact h ⟨p-j,zD⟩ ((Fj _).2 ⟨⟨k,g1,g2⟩,zB0⟩) rfl
theorem SA(b:List UInt8)(p:Nat):NB (EA b p (placesOf b p))=BU b p:=by
 have hf:=M8 (List.prefix_refl (placesOf b p));rcases hf.is with ⟨h1,h2⟩ | ⟨q0,hq0,h1,h2,h3⟩
 ·have hn:BU b p=(0,0):=QY fun j j1 j2=>few j1 j2 fun q hq=>(by rw[h1] at hq;cases hq)
  rw[hn,h2];rfl
 ·obtain⟨⟨k,g1,g2⟩,g3⟩:=(Fj q0).1 hq0
  have h4:=Hh g1 g2;have hq:=q0.isLt;have:BU b p=(p-q0.val,CP b p (p-q0.val)):=by
   refine Mo zD zBa h4 rfl (fun j j1 j2=> ?_) (fun j j1 j2=> ?_)
   ·by_cases hx:∃q:Fin p,q∈placesOf b p∧q.val=p-j
    ·obtain⟨q,hq1,hq2⟩:=hx
     have:=hf.all q hq1;rw[h2,hq2,show p-(p-j)=j by unfold reach at j2;omega] at this;exact this
    ·have:=few (b:=b) j1 j2 fun q hq1 hq2=>hx ⟨q,hq1,hq2⟩
     omega
   ·by_cases hx:∃q:Fin p,q∈placesOf b p∧q.val=p-j
    ·obtain⟨q,hq1,hq2⟩:=hx
     have:=h3 q hq1 zD;rw[h2,hq2,show p-(p-j)=j by omega] at this;exact this
    ·have:=few (b:=b) j1 zBa fun q hq1 hq2=>hx ⟨q,hq1,hq2⟩
     omega
  rw[this];unfold NB;rw[h2,h1,Ah zD,Ah zD]
theorem Sz{pre:List (Fin p)}(h:pre<+:placesOf b p)(hp:p<b.length)(he:p+(EA b p pre).2=b.length):NB (EA b p pre)=BU b p:=by
 have hf:=M8 h;rcases hf.is with ⟨h1,h2⟩ | ⟨q0,hq0,h1,h2,h3⟩
 ·rw[h2] at he;simp only at he;omega
 ·obtain⟨⟨k,g1,g2⟩,g3⟩:=(Fj q0).1 (h.subset hq0)
  have h4:=Hh g1 g2;have hq:=q0.isLt;have:BU b p=(p-q0.val,CP b p (p-q0.val)):=by
   refine Mo zD zBa h4 rfl (fun j j1 j2=> ?_) (fun j j1 j2=> ?_)
   ·have:=K9 b p j
    rw[←h2];omega
   ·by_cases hx:∃q:Fin p,q∈placesOf b p∧q.val=p-j
    ·obtain⟨q,hq1,hq2⟩:=hx
     have hin:q∈pre:=by
      obtain⟨r,hr⟩:=h;rw[←hr] at hq1;rcases List.mem_append.1 hq1 with h' | h'
      ·exact h'
      ·have hd:=Ix b p
       rw[←hr] at hd;have:=(List.pairwise_append.1 hd).2.2 q0 hq0 q h';omega
     have:=h3 q hin zD;rw[h2,hq2,show p-(p-j)=j by omega] at this;exact this
    ·have:=few (b:=b) j1 zBa fun q hq1 hq2=>hx ⟨q,hq1,hq2⟩
     omega
  rw[this];unfold NB;rw[h2,h1,Ah zD,Ah zD]
theorem H3(b:List UInt8)(p:Nat)(pre:List (Fin p)):(EA b p pre).1≤p∧(EA b p pre).2≤b.length-p:=by
 unfold EA;have:∀(l:List (Fin p)) (s:Nat × Nat),s.1≤p∧s.2≤b.length-p→(l.foldl (Jm b p) s).1≤p∧(l.foldl (Jm b p) s).2≤b.length-p:=by
  intro l;induction l with
  | nil=>intro s h;exact h
  | cons q l ih=>
   intro s h;rw[List.foldl_cons];refine ih _ ?_;unfold Jm;split
   ·exact⟨zB0,K9 b p _⟩
   ·exact h
 exact this pre (0,0) ⟨At _,At _⟩
end Go.Proofs.YtfddhafbhceoaaaGreat
