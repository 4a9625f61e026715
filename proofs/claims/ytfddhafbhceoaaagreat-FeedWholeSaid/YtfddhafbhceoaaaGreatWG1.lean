/- Mini: Needed by feedWhole_walk, part 1: texts put together by shake.py; no condition. -/
import Derived.Test.YtfddhafbhceoaaaGreatWF16
import Derived.Laws.IdiomStrings
import Derived.Laws.BytesArg
import Derived.Test.YtfddhafbhceoaaaGreatRows
import Derived.Deep.AppendLies
import Derived.ProofKit
import Derived.OpenShut
import Derived.Deep.Slices
import Derived.Lib.SmallJoins
import Derived.WalkKit
import Derived.WalkLawsBesides
import Derived.WalkSpells
import Derived.Outline
import Derived.BigQuiet
import Derived.Deep.QuietTactic
import Derived.Maps.AppendAt
import Derived.Deep.RegionHeld3
import Derived.IntWalk
import Derived.StillTailTactics
import Derived.Maps.OwnOps
import Derived.Maps.Views
import Derived.Sort.QuietThIn
import Derived.Sort.BigQuietIn
import Derived.Sort.QuietTacIn
import Derived.RangeFuncNested
import Derived.RangeFuncBound
import Derived.RangeFuncCalls
import Derived.RangeFuncLeaves
import Derived.Shelf.Abstract
import Derived.Shelf.RegionOpen
import Derived.OwnWalkIn
import Derived.TacticsInMore
import Derived.LoopNIn
import Derived.LoopIn
import Derived.Maps.OwnIn
import Derived.StillTail
import Derived.RegionTactic
import Derived.OrdersHeld
import Derived.Deep.RegionHeld
import Derived.ScopeJumps
import Derived.WalkMore
import Derived.Deep.Cut
import Derived.Lib.SlBytesConst
import Derived.Deep.RegionLaw
import Derived.Laws.Bits64
import Derived.BigRegion
import Derived.Laws.MakeOwn
import Derived.Lib.ConvBytes
import Derived.Laws.AppendOwn
import Derived.Laws.BitsAllLaws
import Derived.Deep.CutRange
import Derived.Scope
import Derived.Test.YtfddhafbhceoaaaGreatProg
import Derived.Deep.WholeRow
set_option linter.unusedVariables false
set_option linter.unusedSimpArgs false
set_option maxRecDepth 100000
set_option maxHeartbeats 6400000
namespace Go.Bs
theorem zCk{p:Prop}(h:p:=by simp [results, Tryz.results58, go_sem, y0, y1, y2, y3, l1]):p:=h
theorem zCi{p:Prop}(h:p:=by simp [results, Tryz.results102, go_sem, y0, y1, y2, y3, l1]):p:=h
theorem zCg{p:Prop}(h:p:=by simp; rintro rfl; exact hl rfl):p:=h
theorem zCe{p:Prop}(h:p:=by first | trivial | rfl):p:=h
theorem zCd{p:Prop}(h:p:=by rw [hf.out, hst'.out]):p:=h
theorem zCc{p:Prop}(h:p:=by rw [hst.out]; simp [huv]):p:=h
theorem zB9{p:Prop}(h:p:=by rw [hf.out, hst.out]; simp [huv]):p:=h
theorem zB7{p:Prop}(h:p:=by rw [GG (by simp; omega)]; rfl):p:=h
theorem zB5{p:Prop}(h:p:=by rw [Acp (by rw [hn1.out]; omega), HTK.out m (by omega)]):p:=h
theorem z9{p:Prop}(h:p:=by simp [results, Tryz.results103, go_sem, y0, y1, y2, y3, l1]):p:=h
theorem z8{p:Prop}(h:p:=by simp [results, Tryz.results137, go_sem, y0, y1, y2, y3, l1]):p:=h
theorem z7{p:Prop}(h:p:=by rw [hf.out, IP, List.drop_of_length_le (by rw [HL.out]; exact As _)]; rfl):p:=h
theorem z6{p:Prop}(h:p:=by simp [results, Tryz.results167, go_sem, y0, y1, l1]):p:=h
theorem Aa2:type_of% @RowKit.Below.refl:=@RowKit.Below.refl
theorem Aa3:type_of% @RowKit.Below.setCell:=@RowKit.Below.setCell
theorem Aa4:type_of% @below_drewN:=@below_drewN
theorem Aa5:type_of% @RowKit.Below.drew:=@RowKit.Below.drew
theorem Abf:type_of% @List.drop_succ_cons:=@List.drop_succ_cons
open Go.RowKit
deriving instance DecidableEq for Be,Entry,Batch,Seg
end Go.Bs
namespace Go.Proofs.YtfddhafbhceoaaaGreat
open Go.RowKit Go.Bs
variable{B:List UInt8}{w:World}
theorem AbH(x y:List UInt8)(a a':Option Addr)(n c n' c':Nat)(w:World)(hx:Am.r (·<w.heap.size) w [.slice a n c] x)(hy:Am.r (·<w.heap.size) w [.slice a' n' c'] y):
  Calls Tryz.prog 24 #[.slice a n c,.slice a' n' c'] w fun r w'=>r=.returned (.bool (decide (x=y)))∧w=w':=by
 obtain⟨rfl,_,_,_⟩:=AL hx;obtain⟨rfl,_,_,_⟩:=AL hy;have h1:=LQ (P:=Tryz.prog) 22 9 5 AJ Tryz.underlying5 Tryz.underlying9 hx;have h2:=LQ (P:=Tryz.prog) 22 9 5 AJ Tryz.underlying5 Tryz.underlying9 hy;have he:(x==y)=decide (x=y):=by
  by_cases h:x=y
  ·simp[h]
  ·simp[h]
 have HE:=hid he;clear he hx hy;go_enter Tryz.func24,Tryz.ntmps24;go_wp2;go_ret;refine⟨?_,rfl⟩;rw[←HE.out];simp[go_sem]
theorem Aba{α:Type}[DecidableEq α](x y:List α)(k:Nat)(hx:k<x.length)(hy:k<y.length):decide (x.drop k=y.drop k)=(decide (x[k]=y[k])&&decide (x.drop (k+1)=y.drop (k+1))):=by
 rw[AO hx,AO hy,Bool.eq_iff_iff,decide_eq_true_iff,Ap,decide_eq_true_iff,decide_eq_true_iff,Av]
theorem Ab0(x y:List Int)(a a':Option Addr)(n c n' c':Nat)(w:World)(hx:Cb.r (·<w.heap.size) w [.slice a n c] x)(hy:Cb.r (·<w.heap.size) w [.slice a' n' c'] y):
  Calls Tryz.prog 105 #[.slice a n c,.slice a' n' c'] w fun r w'=>r=.returned (.bool (decide (x=y)))∧Below w.heap.size w w':=by
 obtain⟨rfl,hm,_,_⟩:=AL hx;obtain⟨rfl,hm',_,_⟩:=AL hy;by_cases hl:x.length=y.length
 ·have HX:=hid hx;clear hx
  have HY:=hid hy;clear hy;have HL:=hid hl;have e1:((x.length:Int) !=(y.length:Int))=false:=by simp[hl]
  clear hl;go_enter Tryz.func105,Tryz.ntmps105;go_wp2;go_loopw [5] (fun i wr=>∃k:Nat,k≤x.length∧i=.int .i64 k∧Hid (decide (x=y)=decide (x.drop k=y.drop k))∧Below w.heap.size w wr) (fun i _=>x.length-(intOf i).toNat)
  case atStart=>exact ⟨0,Ar _,rfl,hid rfl,Aa2 _ _⟩
  case round=>
   obtain⟨k,hk,rfl,hf,hb⟩:=hrel;by_cases hlt:k<x.length
   ·have hlt':k<y.length:=by rw[←HL.out];exact hlt
    obtain⟨b,o,hA,hbb,hc,_,_⟩:=J5 HX.out hlt;obtain⟨b',o',hA',hbb',hc',_,_⟩:=J5 HY.out hlt';have hst:=hid (Aba x y k hlt hlt');subst hA hA';have X0:=fun s:AM wr=>s.cell ((hb.cell (p:=⟨b,o+k,none⟩) hbb).trans hc);have X1:=fun s:AM wr=>s.cell ((hb.cell (p:=⟨b',o'+k,none⟩) hbb').trans hc');clear hc hc';generalize hlk:x[k]=u at*;generalize hlm:y[k]=v at*;clear hlk hlm;have i0:(0:Int)≤(k:Int):=zC;have i1:(k:Int)<(x.length:Int):=zC;have i2:(k:Int)<(y.length:Int):=zC;by_cases huv:u=v
    ·have d1:(u !=v)=false:=by simp[huv]
     have hst':Hid (decide (x.drop k=y.drop k)=decide (x.drop (k+1)=y.drop (k+1))):=hid zCc;clear huv;go_wp2_with fail;refine Az zJ zJ ?_;repeat (go_big_quiet_step (fail))
     refine AT ?_;rintro W5 ⟨⟨W5',hb5⟩,rfl⟩;go_wp2;go_roundw
     case rel=>exact ⟨k+1,zC,zT,hid zCd,Aj hb5 hb⟩
     case measure=>simp [intOf];omega
    ·have d1:(u !=v)=true:=by simp[huv]
     have hff:Hid (decide (x=y)=false):=hid zB9;clear huv;go_wp2_with fail;refine Az zJ zJ ?_;repeat (go_big_quiet_step (fail))
     refine AT ?_;rintro W5 ⟨⟨W5',hb5⟩,rfl⟩;go_wp2;go_ret;exact⟨zP,Aj hb5 hb⟩
   ·obtain rfl:k=x.length:=by omega
    have hff:Hid (decide (x=y)=true):=hid z7;go_wp2;go_ret;exact⟨zP,hb⟩
 ·have hff:Hid (decide (x=y)=false):=hid zCg
  have e1:((x.length:Int) !=(y.length:Int))=true:=zI;clear hl hx hy;go_enter Tryz.func105,Tryz.ntmps105;go_wp2;go_ret;exact⟨zP,Aa2 _ _⟩
theorem Ab2(x y:Be)(a a':Option Addr)(n c n' c':Nat)(w:World)(hx:Cb.r (·<w.heap.size) w [.slice a n c] x.backs)(hy:Cb.r (·<w.heap.size) w [.slice a' n' c'] y.backs):
  Calls Tryz.prog 169 #[.agg #[.int .u64 x.stream,.slice a n c],.agg #[.int .u64 y.stream,.slice a' n' c']] w fun r w'=>r=.returned (.bool (decide (x=y)))∧Below w.heap.size w w':=by
 have he:decide (x=y)=(decide (x.stream=y.stream)&&decide (x.backs=y.backs)):=by
  rw[Bool.eq_iff_iff];cases x;cases y;simp
 have HE:=hid he;clear he;have HX:=hid hx;clear hx;have HY:=hid hy;clear hy;by_cases h:x.stream=y.stream
 ·have e1:(x.stream==y.stream)=true:=by simp[h]
  have hff:Hid (decide (x=y)=decide (x.backs=y.backs)):=hid (by rw[HE.out];simp[h]);clear h;go_enter Tryz.func169,Tryz.ntmps169;go_wp2_with fail;refine (Ab0 x.backs y.backs _ _ _ _ _ _ _ (lift HX.out zB) (lift HY.out zB)).mono ?_;rintro e w1 ⟨rfl,hb1⟩;go_wp2;go_ret;exact⟨zP,zB⟩
 ·have e1:(x.stream==y.stream)=false:=by simp[h]
  have hff:Hid (decide (x=y)=false):=hid (by rw[HE.out];simp[h]);clear h;go_enter Tryz.func169,Tryz.ntmps169;go_wp2;go_ret;exact⟨zP,zB⟩
theorem AbL(x y:List Be)(a a':Option Addr)(n c n' c':Nat)(w:World)(hx:Cx.r (·<w.heap.size) w [.slice a n c] x)(hy:Cx.r (·<w.heap.size) w [.slice a' n' c'] y):
  Calls Tryz.prog 106 #[.slice a n c,.slice a' n' c'] w fun r w'=>r=.returned (.bool (decide (x=y)))∧Below w.heap.size w w':=by
 obtain⟨rfl,hm,_,_⟩:=AL hx;obtain⟨rfl,hm',_,_⟩:=AL hy;by_cases hl:x.length=y.length
 ·have HX:=hid hx;clear hx
  have HY:=hid hy;clear hy;have HL:=hid hl;have e1:((x.length:Int) !=(y.length:Int))=false:=by simp[hl]
  clear hl;go_enter Tryz.func106,Tryz.ntmps106;go_wp2;go_loopw [5] (fun i wr=>∃k:Nat,k≤x.length∧i=.int .i64 k∧Hid (decide (x=y)=decide (x.drop k=y.drop k))∧Below w.heap.size w wr) (fun i _=>x.length-(intOf i).toNat)
  case atStart=>exact ⟨0,Ar _,rfl,hid rfl,Aa2 _ _⟩
  case round=>
   obtain⟨k,hk,rfl,hf,hb⟩:=hrel;by_cases hlt:k<x.length
   ·have hlt':k<y.length:=by rw[←HL.out];exact hlt
    obtain⟨b,o,hA,hbb,a1,c1,hc0,hc1,_,hr1⟩:=FK HX.out hlt;obtain⟨b',o',hA',hbb',a2,c2,hd0,hd1,_,hr2⟩:=FK HY.out hlt';have hst:=hid (Aba x y k hlt hlt');subst hA hA';have X0:=fun s:AM wr=>s.cell ((hb.cell (p:=⟨b,o+k*2,none⟩) hbb).trans hc0);have X1:=fun s:AM wr=>s.cell ((hb.cell (p:=⟨b,o+k*2+1,none⟩) hbb).trans hc1);have Y0:=fun s:AM wr=>s.cell ((hb.cell (p:=⟨b',o'+k*2,none⟩) hbb').trans hd0);have Y1:=fun s:AM wr=>s.cell ((hb.cell (p:=⟨b',o'+k*2+1,none⟩) hbb').trans hd1);clear hc0 hc1 hd0 hd1;generalize hlk:x[k]=u at*;generalize hlm:y[k]=v at*;clear hlk hlm;have hs1:=hid (lift hr1 hb);have hs2:=hid (lift hr2 hb);clear hr1 hr2;have hO:=fun s:AM wr=>Ab2 u v a1 a2 _ c1 _ c2 s.at_ (lift hs1.out s.below) (lift hs2.out s.below);have i0:(0:Int)≤(k:Int):=zC;have i1:(k:Int)<(x.length:Int):=zC;have i2:(k:Int)<(y.length:Int):=zC;by_cases huv:u=v
    ·rw[Ad huv] at hO
     have HO:=hid hO;clear hO;have hst':Hid (decide (x.drop k=y.drop k)=decide (x.drop (k+1)=y.drop (k+1))):=hid zCc;clear huv;go_wp2_with fail;refine Az zJ zJ ?_;repeat (go_big_quiet_step (((go_at_call 169;exact CH (HO.out _)))))
     refine AT ?_;rintro W5 ⟨⟨W5',hb5⟩,rfl⟩;go_wp2;go_roundw
     case rel=>exact ⟨k+1,zC,zT,hid zCd,Aj hb5 hb⟩
     case measure=>simp [intOf];omega
    ·rw[Ae huv] at hO
     have HO:=hid hO;clear hO;have hff:Hid (decide (x=y)=false):=hid zB9;clear huv;go_wp2_with fail;refine Az zJ zJ ?_;repeat (go_big_quiet_step (((go_at_call 169;exact CH (HO.out _)))))
     refine AT ?_;rintro W5 ⟨⟨W5',hb5⟩,rfl⟩;go_wp2;go_ret;exact⟨zP,Aj hb5 hb⟩
   ·obtain rfl:k=x.length:=by omega
    have hff:Hid (decide (x=y)=true):=hid z7;go_wp2;go_ret;exact⟨zP,hb⟩
 ·have hff:Hid (decide (x=y)=false):=hid zCg
  have e1:((x.length:Int) !=(y.length:Int))=true:=zI;clear hl hx hy;go_enter Tryz.func106,Tryz.ntmps106;go_wp2;go_ret;exact⟨zP,Aa2 _ _⟩
theorem AbK(x y:Entry)(a1 a2 a3 a4:Option Addr)(n1 c1 n2 c2 n3 c3 n4 c4:Nat)(w:World)(hx:Cx.r (·<w.heap.size) w [.slice a1 n1 c1] x.links)(hx':Am.r (·<w.heap.size) w [.slice a3 n3 c3] x.data)
 (hy:Cx.r (·<w.heap.size) w [.slice a2 n2 c2] y.links) (hy':Am.r (·<w.heap.size) w [.slice a4 n4 c4] y.data):
  Calls Tryz.prog 171 #[.agg #[.slice a1 n1 c1,.slice a3 n3 c3],.agg #[.slice a2 n2 c2,.slice a4 n4 c4]] w fun r w'=>r=.returned (.bool (decide (x=y)))∧Below w.heap.size w w':=by
 have he:decide (x=y)=(decide (x.links=y.links)&&decide (x.data=y.data)):=by
  rw[Bool.eq_iff_iff];cases x;cases y;simp
 have HE:=hid he;clear he;have HX:=hid hx;clear hx;have HY:=hid hy;clear hy;have HX':=hid hx';clear hx';have HY':=hid hy';clear hy';go_enter Tryz.func171,Tryz.ntmps171;go_wp2_with fail;refine (AbL x.links y.links _ _ _ _ _ _ _ (lift HX.out zB) (lift HY.out zB)).mono ?_;rintro e w1 ⟨rfl,hb1⟩;have hb2:Below w.heap.size w w1:=zB;obtain⟨hc1,hf1⟩:=YX hb1;by_cases h:x.links=y.links
 ·have hff:Hid (decide (x=y)=decide (x.data=y.data)):=hid (by rw[HE.out,Ad h];rfl)
  rw[Ad h];clear h;go_wp2_with fail;refine (AbH x.data y.data _ _ _ _ _ _ _ (lift HX'.out hb2) (lift HY'.out hb2)).mono ?_;rintro e w' ⟨rfl,rfl⟩;go_wp2;go_ret;exact⟨zP,hb2⟩
 ·have hff:Hid (decide (x=y)=false):=hid (by rw[HE.out,Ae h];rfl)
  rw[Ae h];clear h;go_wp2;go_ret;exact⟨zP,hb2⟩
theorem Ab1(x y:List Entry)(a a':Option Addr)(n c n' c':Nat)(w:World)(hx:Br.r (·<w.heap.size) w [.slice a n c] x)(hy:Br.r (·<w.heap.size) w [.slice a' n' c'] y):
  Calls Tryz.prog 108 #[.slice a n c,.slice a' n' c'] w fun r w'=>r=.returned (.bool (decide (x=y)))∧Below w.heap.size w w':=by
 obtain⟨rfl,hm,_,_⟩:=AL hx;obtain⟨rfl,hm',_,_⟩:=AL hy;by_cases hl:x.length=y.length
 ·have HX:=hid hx;clear hx
  have HY:=hid hy;clear hy;have HL:=hid hl;have e1:((x.length:Int) !=(y.length:Int))=false:=by simp[hl]
  clear hl;go_enter Tryz.func108,Tryz.ntmps108;go_wp2;go_loopw [5] (fun i wr=>∃k:Nat,k≤x.length∧i=.int .i64 k∧Hid (decide (x=y)=decide (x.drop k=y.drop k))∧Below w.heap.size w wr) (fun i _=>x.length-(intOf i).toNat)
  case atStart=>exact ⟨0,Ar _,rfl,hid rfl,Aa2 _ _⟩
  case round=>
   obtain⟨k,hk,rfl,hf,hb⟩:=hrel;by_cases hlt:k<x.length
   ·have hlt':k<y.length:=by rw[←HL.out];exact hlt
    obtain⟨b,o,hA,hbb,a1,c1,a3,c3,hc0,hc1,hr1,hr3⟩:=Fj HX.out hlt;obtain⟨b',o',hA',hbb',a2,c2,a4,c4,hd0,hd1,hr2,hr4⟩:=Fj HY.out hlt';have hst:=hid (Aba x y k hlt hlt');subst hA hA';have X0:=fun s:AM wr=>s.cell ((hb.cell (p:=⟨b,o+k*2,none⟩) hbb).trans hc0);have X1:=fun s:AM wr=>s.cell ((hb.cell (p:=⟨b,o+k*2+1,none⟩) hbb).trans hc1);have Y0:=fun s:AM wr=>s.cell ((hb.cell (p:=⟨b',o'+k*2,none⟩) hbb').trans hd0);have Y1:=fun s:AM wr=>s.cell ((hb.cell (p:=⟨b',o'+k*2+1,none⟩) hbb').trans hd1);clear hc0 hc1 hd0 hd1;generalize hlk:x[k]=u at*;generalize hlm:y[k]=v at*;clear hlk hlm;have hs1:=hid (lift hr1 hb);have hs2:=hid (lift hr2 hb);have hs3:=hid (lift hr3 hb);have hs4:=hid (lift hr4 hb);clear hr1 hr2 hr3 hr4;have hO:=fun s:AM wr=>AbK u v a1 a2 a3 a4 _ c1 _ c2 _ c3 _ c4 s.at_ (lift hs1.out s.below) (lift hs3.out s.below) (lift hs2.out s.below) (lift hs4.out s.below);have i0:(0:Int)≤(k:Int):=zC;have i1:(k:Int)<(x.length:Int):=zC;have i2:(k:Int)<(y.length:Int):=zC;by_cases huv:u=v
    ·rw[Ad huv] at hO
     have HO:=hid hO;clear hO;have hst':Hid (decide (x.drop k=y.drop k)=decide (x.drop (k+1)=y.drop (k+1))):=hid zCc;clear huv;go_wp2_with fail;refine Az zJ zJ ?_;repeat (go_big_quiet_step (((go_at_call 171;exact CH (HO.out _)))))
     refine AT ?_;rintro W5 ⟨⟨W5',hb5⟩,rfl⟩;go_wp2;go_roundw
     case rel=>exact ⟨k+1,zC,zT,hid zCd,Aj hb5 hb⟩
     case measure=>simp [intOf];omega
    ·rw[Ae huv] at hO
     have HO:=hid hO;clear hO;have hff:Hid (decide (x=y)=false):=hid zB9;clear huv;go_wp2_with fail;refine Az zJ zJ ?_;repeat (go_big_quiet_step (((go_at_call 171;exact CH (HO.out _)))))
     refine AT ?_;rintro W5 ⟨⟨W5',hb5⟩,rfl⟩;go_wp2;go_ret;exact⟨zP,Aj hb5 hb⟩
   ·obtain rfl:k=x.length:=by omega
    have hff:Hid (decide (x=y)=true):=hid z7;go_wp2;go_ret;exact⟨zP,hb⟩
 ·have hff:Hid (decide (x=y)=false):=hid zCg
  have e1:((x.length:Int) !=(y.length:Int))=true:=zI;clear hl hx hy;go_enter Tryz.func108,Tryz.ntmps108;go_wp2;go_ret;exact⟨zP,Aa2 _ _⟩
end Go.Proofs.YtfddhafbhceoaaaGreat
namespace Go.Bs
open Go.RowKit
section
variable {w w':World} {α:Type}
theorem Aaz.start{lo:Nat}{TB TE:TypeId}{g c:Nat}{v:Value}{bs:List Batch}{e b:Int}{cells:List (List Value)}(h:Dd lo Gv lo TB 3 w v bs cells)(he:0≤e∧e≤18446744073709551615)(hb:0≤b∧b≤18446744073709551615)
 (hown:w'.ownsRow lo TB 3 (.slice (some ⟨g,0,none⟩) (bs.length+1) c) (bs.length+1) (cells.flatten++[.int .u64 e,.int .u64 b,.slice none 0 0])) (hg:w.grownBy w' v.ownBlock)
 (hat:(Value.slice (some ⟨g,0,none⟩) (bs.length+1) c).ownBlock=v.ownBlock∨(Value.slice (some ⟨g,0,none⟩) (bs.length+1) c).ownBlock=some w.heap.size):
  Aaz lo TB TE w' g c cells w'.heap.size bs e b [] (.slice none 0 0):=by
 have h':=(AY.of h).inl;have h2:Dd lo rBV lo TB 3 w v (bs.map .inl) cells:=h'.to fun b hb=>hb;have h3:=Dd.push (v':=.slice (some ⟨g,0,none⟩) (bs.length+1) c) (x:=(.inr (e,b,.slice none 0 0):Batch ⊕ (Int × Int × Value))) h2 rfl rfl (by simpa using hown) hg hat hg.size;have hlt:g<w'.heap.size:=by
  rcases hown.2 with ⟨h0,_⟩ | ⟨g',cap,cur,h1,hb,hk,_⟩
  ·cases h0
  ·simp at h1
   rw[h1.1];exact (Array.getElem?_eq_some_iff.1 hk).1
 exact⟨AY.of h3,by simpa using h.2.1,hlt,As _,A8.nil,he,hb⟩
end
end Go.Bs
namespace Go.Proofs.YtfddhafbhceoaaaGreat
open Go.RowKit Go.Bs Go.Maps
variable{B:List UInt8}{w:World}
def CV(a:Option Addr)(n c:Nat)(s:Rs):Value:=.agg #[.slice a n c,.int .i64 (s.p:Int),.int .i64 s.k,.int .i64 s.f]
theorem Aa8{g:Nat}{t:TypeId}{v0 v1 v2 v3:Value}(h:Blk w g t #[v0,v1,v2,v3]):w.cell? ⟨g,0,none⟩=some v0∧w.cell? ⟨g,1,none⟩=some v1∧w.cell? ⟨g,2,none⟩=some v2∧w.cell? ⟨g,3,none⟩=some v3∧w.frozen? ⟨g,0,none⟩=false∧w.frozen? ⟨g,1,none⟩=false∧w.frozen? ⟨g,2,none⟩=false∧w.frozen? ⟨g,3,none⟩=false∧g<w.heap.size:=
 ⟨h.cell 0,h.cell 1,h.cell 2,h.cell 3,h.free 0,h.free 1,h.free 2,h.free 3,h.lt⟩
theorem Abc(w:World)(k f:Int)(hk:k≠0):Calls Tryz.prog 84 #[.int .i64 k,.int .i64 f] w fun r w'=>r=.returned (.agg #[.int .i64 k,.int .i64 f])∧Below w.heap.size w w':=by
 have d1:(k==(0:Int))=false:=by simp[hk]
 have d2:(k !=(0:Int))=true:=by simp[hk]
 go_enter Tryz.func84,Tryz.ntmps84;go_wp2;refine Ax (v:=.agg #[.int .i64 k,.int .i64 f]) (by simp[results,Tryz.results84,go_sem]) rfl ⟨rfl,zB⟩
theorem Abe(w:World)(a:Option Addr)(n c:Nat)(s:Rs)(k f:Int)(hk:k≠0):Calls Tryz.prog 75 #[CV a n c s,.int .i64 k,.int .i64 f] w fun r w'=>r=.returned (CV a n c (s.fail k f))∧Below w.heap.size w w':=by
 unfold CV;by_cases h0:s.k=0
 ·have e:s.fail k f=⟨s.p,k,f⟩:=by unfold Rs.fail;rw[Ag h0]
  have d1:(s.k==(0:Int))=true:=by simp[h0]
  have H0:=hid h0;rw[e];clear h0 e;go_enter Tryz.func75,Tryz.ntmps75;go_wp2_with fail;refine (Abc _ k f hk).mono ?_;rintro r w1 ⟨rfl,hb⟩;have B0:Blk w1 w.heap.size 91 #[.slice a n c,.int .i64 (s.p:Int),.int .i64 s.k,.int .i64 s.f]:=Blk.later zD hb;have B1:Blk w1 (w.heap.size+1) 91 #[.slice none 0 0,.int .i64 0,.int .i64 0,.int .i64 0]:=Blk.later zD hb;have x0:=B0.cell 0;have x1:=B0.cell 1;have x2:=B0.cell 2;have x3:=B0.cell 3;have y0:=B1.cell 0;have y1:=B1.cell 1;have y2:=B1.cell 2;have y3:=B1.cell 3;simp at x0 x1 x2 x3 y0 y1 y2 y3;have f2:=B0.free 2;have f3:=B0.free 3;have g0:=B1.free 0;have g1:=B1.free 1;have g2:=B1.free 2;have g3:=B1.free 3;have l0:=B0.lt;have l1:=B1.lt;have hbw:Below w.heap.size w w1:=zB;clear B0 B1 hb;go_wp2;refine Ax (v:=.agg #[.slice a n c,.int .i64 (s.p:Int),.int .i64 k,.int .i64 f]) (by simp[results,Tryz.results75,go_sem,y0,y1,y2,y3,l1]) rfl ⟨rfl,zA⟩
 ·have e:s.fail k f=s:=by unfold Rs.fail;rw[Ai h0]
  have d1:(s.k==(0:Int))=false:=by simp[h0]
  have H0:=hid h0;rw[e];clear h0 e;go_enter Tryz.func75,Tryz.ntmps75;go_wp2;refine Ax (v:=.agg #[.slice a n c,.int .i64 (s.p:Int),.int .i64 s.k,.int .i64 s.f]) (by simp[results,Tryz.results75,go_sem]) rfl ⟨rfl,zB⟩
theorem Abq(w:World)(a:Option Addr)(c:Nat)(B:List UInt8)(hl:Am.r (·<w.heap.size) w [.slice a B.length c] B)(s:Rs)(hs:s.ok B.length)(n:Int)(hn:n≤9223372036854775807)(hB:B.length≤1000000000000):
  Calls Tryz.prog 137 #[CV a B.length c s,.int .i64 n] w fun r w'=>∃v,r=.returned (.tuple #[CV a B.length c (s.take B n).1,v])∧Am.r (fun q=>w.heap.size≤q∧q<w'.heap.size) w' [v] (s.take B n).2∧Below w.heap.size w w':=by
 obtain⟨i0,hi,hz0,hz1,hz2⟩:=A5 FL;unfold Rs.take;have hle:=hs.le;by_cases h0:s.k=0
 ·have d0:(s.k !=(0:Int))=false:=by simp[h0]
  have hF:=hid (fun (W:World) (k f:Int) (hk:k≠0)=>Abe W a B.length c s k f hk);by_cases h1:n<0
  ·have e:s.skip B.length n=(false,s.fail 17 s.p):=by unfold Rs.skip Rs.fail;rw[Ag h0,Ag h1,Ag h0]
   have d1:decide (n<(0:Int))=true:=Ad h1;rw[e];generalize hs1:s.fail 17 s.p=s1;have HF:=hid (fun (W:World)=>hF.out W 17 s.p zC);rw[hs1] at HF;clear hl hs h0 e hF;unfold CV at*;go_enter Tryz.func137,Tryz.ntmps137;go_wp2_with fail;refine (HF.out _).mono ?_;rintro r w1 ⟨rfl,hb⟩;have B1:Blk w1 (w.heap.size+1) 91 #[.slice none 0 0,.int .i64 0,.int .i64 0,.int .i64 0]:=Blk.later zD hb;obtain⟨y0,y1,y2,y3,g0,g1,g2,g3,l1⟩:=Aa8 B1;have hbw:Below w.heap.size w w1:=zA;clear B1 hb;go_wp2;refine Ax (v:=.tuple #[.agg #[.slice a B.length c,.int .i64 (s1.p:Int),.int .i64 s1.k,.int .i64 s1.f],.slice none 0 0]) z8 rfl ⟨_,rfl,BR rfl rfl zC,zA⟩
  ·have d1:decide (n<(0:Int))=false:=Ae h1
   by_cases h2:(B.length:Int)-s.p<n
   ·have e:s.skip B.length n=(false,s.fail 1 B.length):=by unfold Rs.skip Rs.fail;rw[Ag h0,Ai h1,Ag h2,Ag h0]
    have d2:decide ((B.length:Int)-(s.p:Int)<n)=true:=Ad h2;rw[e];generalize hs1:s.fail 1 B.length=s1;have HF:=hid (fun (W:World)=>hF.out W 1 B.length zC);rw[hs1] at HF;clear hl hs h0 e hF;unfold CV at*;go_enter Tryz.func137,Tryz.ntmps137;go_wp2_with fail;refine (HF.out _).mono ?_;rintro r w1 ⟨rfl,hb⟩;have B1:Blk w1 (w.heap.size+1) 91 #[.slice none 0 0,.int .i64 0,.int .i64 0,.int .i64 0]:=Blk.later zD hb;obtain⟨y0,y1,y2,y3,g0,g1,g2,g3,l1⟩:=Aa8 B1;have hbw:Below w.heap.size w w1:=zA;clear B1 hb;go_wp2;refine Ax (v:=.tuple #[.agg #[.slice a B.length c,.int .i64 (s1.p:Int),.int .i64 s1.k,.int .i64 s1.f],.slice none 0 0]) z8 rfl ⟨_,rfl,BR rfl rfl zC,zA⟩
   ·have e:s.skip B.length n=(true,⟨s.p+n.toNat,0,0⟩):=by unfold Rs.skip;rw[Ag h0,Ai h1,Ai h2]
    have d2:decide ((B.length:Int)-(s.p:Int)<n)=false:=Ae h2;have hz:=hs.zero h0;rw[e];obtain⟨m,rfl⟩:∃m:Nat,n=m:=⟨n.toNat,zC⟩;rw[show ((m:Int)).toNat=m by omega];have hp:s.p+m≤B.length:=zC;simp only[IL];obtain⟨aD,cD,hsl,hsub⟩:=LP hl (lo:=s.p) (hi:=s.p+m) zC hp;have hlD:((B.drop s.p).take (s.p+m-s.p)).length=m:=zI;rw[show s.p+m-s.p=m by omega] at hsl hsub hlD;rw[show ((s.p+m:Nat):Int)=(s.p:Int)+(m:Int) by omega] at hsl;generalize (B.drop s.p).take m=D at*;have hDm:m=D.length:=hlD.symm;have HSB:=hid (fun (W:World) (hW:Below w.heap.size w W)=>Cm (l:=D) (lift (w:=w) (A:=Am) (cs:=[.slice aD D.length cD]) (by rw[←hDm];exact hsub) hW));have HONE:=hid (Bi D);have HDM:=hid hDm;have H0:=hid h0;have HZ:=hid hz;clear hl hs h0 hz e hsub hlD hDm;unfold CV;go_enter Tryz.func137,Tryz.ntmps137;go_wp2_with (at_builtin;go_loud (refine AB rfl _ _ _ rfl (w.heap.size+2) 5 i0 (.int .u8 0) 1 1 AJ hi hz0 hz1 hz2 rfl zL (.slice none 0 0) 0 [] rfl ⟨rfl,.inl ⟨rfl,rfl⟩⟩ aD m cD (byteCells D) rfl zW HONE.out zO zC zE ?_;intro v' w2 hown2 hgrow2 hat2;rw[A7,AG] at hown2;obtain⟨a2,c2,rfl⟩:=AV hown2;have k2:=Below.grown (Aa2 _ _) hgrow2 (As _) (fun g e=>ZO);have B0:Blk w2 w.heap.size 91 #[.slice a B.length c,.int .i64 (s.p:Int),.int .i64 s.k,.int .i64 s.f]:=Blk.later zD k2;have B1:Blk w2 (w.heap.size+1) 91 #[.slice none 0 0,.int .i64 0,.int .i64 0,.int .i64 0]:=Blk.later zD k2;obtain⟨x0,x1,x2,x3,e0,e1,e2,e3,l0⟩:=Aa8 B0;obtain⟨y0,y1,y2,y3,g0,g1,g2,g3,l1⟩:=Aa8 B1;have hbw:Below w.heap.size w w2:=by {(repeat (first | with_reducible exact Aa2 _ _ | with_reducible assumption | (with_reducible refine Aw ?_ _) | (with_reducible refine Aa3 ?_ (by first | omega | (simp;done) | (simp;omega)) _) | (with_reducible refine Aa5 ?_) | (with_reducible refine Aa4 ?_ _) | (refine Aj (by with_reducible assumption) ?_)))};have HO:=hid hown2;clear hown2 hgrow2 hat2 B0 B1 k2))
    have hA:=CG HDM.out HO.out;have HA:=hid hA;clear hA;refine Ax (v:=.tuple #[.agg #[.slice a B.length c,.int .i64 ((s.p:Int)+(m:Int)),.int .i64 s.k,.int .i64 s.f],.slice a2 m c2]) z8 rfl ⟨_,by rw[H0.out,HZ.out],?_,zA⟩;refine Am.mono (Am.keep HA.out fun q hq=> ?_) fun q hq=>⟨zC,by simp[World.setCell];exact hq.2⟩;repeat (rw[At _ _ _ _ zH])
 ·have d0:(s.k !=(0:Int))=true:=by simp[h0]
  have e:s.skip B.length n=(false,s):=by unfold Rs.skip;rw[Ai h0]
  rw[e];clear hl hs h0 e;unfold CV;go_enter Tryz.func137,Tryz.ntmps137;go_wp2;refine Ax (v:=.tuple #[.agg #[.slice a B.length c,.int .i64 (s.p:Int),.int .i64 s.k,.int .i64 s.f],.slice none 0 0]) (by simp[results,Tryz.results137,go_sem]) rfl ⟨_,rfl,BR rfl rfl zC,zA⟩
def Aa9:List UInt8→Nat
 | []=>0
 | c::l=>c.toNat%128+128*Aa9 l
theorem Abv:∀(l:List UInt8) (c:UInt8),Aa9 (l++[c])=Aa9 l+c.toNat%128*128^l.length
 | [],c=>by simp[Aa9]
 | d::l,c=>by
  simp only[DV,Aa9,Abv l c,Ay,FQ];rw[Nat.mul_add,Lj (128^l.length) 128,Nat.mul_left_comm];omega
theorem AbW:∀l:List UInt8,Aa9 l<128^l.length
 | []=>by simp[Aa9]
 | c::l=>by
  have:=AbW l;simp only[Aa9,Ay,FQ];omega
theorem Abh:∀(l:List UInt8) (k:Nat),Aa9 (l.drop k)≤Aa9 l
 | [],k=>by simp
 | c::l,0=>by simp
 | c::l,k+1=>by
  have:=Abh l k;simp only[Abf,Aa9];omega
theorem Acp{l:List UInt8}{m:Nat}(h:m<l.length):Aa9 (l.drop m)=l[m].toNat%128+128*Aa9 (l.drop (m+1)):=by
 rw[AO h];rfl
theorem Abu{l:List UInt8}{n:Nat}(h:n<l.length):Aa9 (l.take (n+1))=Aa9 (l.take n)+l[n].toNat%128*128^n:=by
 rw[AU h,Abv,E8,Nat.min_eq_left zC]
theorem Abd(l:List UInt8)(n:Nat):Aa9 (l.take n)<128^n:=An (AbW _) (Nat.pow_le_pow_right zC zI)
theorem Abl{i X c:Nat}(hi:i≤9)(hX:X<128^i)(h:i=9→c≤1):X+c%128*128^i<18446744073709551616:=by
 by_cases h9:i=9
 ·subst h9
  have h1:(128:Nat)^9=9223372036854775808:=zL;rw[h1] at*;have:=h rfl;have h2:c%128*9223372036854775808≤1*9223372036854775808:=CO _ zC;omega
 ·have h1:(128:Nat)^i≤128^8:=Nat.pow_le_pow_right zC zC
  have h3:(128:Nat)^8=72057594037927936:=zL;have h2:c%128*128^i≤127*128^i:=CO _ zC;omega
def Abo(L:Nat)(r:Nat × Nat × Int):Nat × Nat × Int × Int:=
 if r.2.2=0 then (r.1,r.2.1,0,0) else if r.2.2=1 then (0,0,1,(L:Int)) else (0,0,r.2.2,(r.2.1:Int)-1)
def Ab7(b:List UInt8):Nat × Nat × Int × Int:=Abo b.length (Cn 0 0 b)
theorem Acg{b:List UInt8}{n:Nat}(h:n<b.length):Cn n (Aa9 (b.take n)) (b.drop n)=
  if n=9∧1<b[n].toNat then (0,n+1,5) else if 0<n∧b[n].toNat=0 then (0,n+1,4) else if b[n].toNat<128 then (Aa9 (b.take n)+b[n].toNat*128^n,n+1,0) else Cn (n+1) (Aa9 (b.take (n+1))) (b.drop (n+1)):=by
 rw[AO h,UG,Abu h]
theorem Ab5(w:World)(b:List UInt8)(a:Option Addr)(n c:Nat)(hl:Am.r (·<w.heap.size) w [.slice a n c] b)(hB:b.length≤1000000000000):
  Calls Tryz.prog 167 #[.slice a n c] w fun r w'=>r=.returned (.tuple #[.int .u64 ((Ab7 b).1:Int),.int .i64 ((Ab7 b).2.1:Int),.agg #[.int .i64 (Ab7 b).2.2.1,.int .i64 (Ab7 b).2.2.2]])∧Below w.heap.size w w':=by
 obtain⟨rfl,hm,_,_⟩:=AL hl;have HL:=hid hl;clear hl;go_enter Tryz.func167,Tryz.ntmps167;go_wp2_with fail;refine Ee (fun W=>Blk W w.heap.size 65 #[.int .i64 0,.int .i64 0]∧Below w.heap.size w W) ⟨zD,zA⟩ ?_;intro W ⟨hF,hbW⟩;go_loopw [5] (fun i wr=>∃n:Nat,n≤b.length∧n≤9∧i=.int .i64 n∧Hid (Ab7 b=Abo b.length (Cn n (Aa9 (b.take n)) (b.drop n)))∧wr=W) (fun i _=>b.length-(intOf i).toNat)
 case atStart=>exact ⟨0,Ar _,zC,rfl,hid rfl,rfl⟩
 case round=>
  obtain⟨n,hn,hn9,rfl,hg,rfl⟩:=hrel;rcases Bl n b.length with hlt | hge
  ·obtain⟨ga,oa,hA,hga,hc⟩:=Dg (lift HL.out hbW) hlt
   subst hA;have d0:decide ((n:Int)<(b.length:Int))=true:=Ad zC;have d0':decide (n<b.length)=true:=Ad hlt;have i1:(n:Int)<(b.length:Int):=zC;have hgv:=hg.out;have hvat:=Acg hlt;have hdt:=Abu hlt;generalize b[n]=e at hvat hdt hc;have hc255:=e.toNat_lt;by_cases h9:n=9
   ·have d1:((n:Int)==9)=true:=by rw[h9];rfl
    have d3:decide ((0:Int)<(n:Int))=true:=Ad zC;have d3':decide (0<n)=true:=Ad zC;by_cases hc1:1<e.toNat
    ·have d2:decide ((1:Int)<(e.toNat:Int))=true:=Ad zC
     have d2':decide (1<e.toNat)=true:=Ad zC;rw[hvat,Ag ⟨h9,hc1⟩] at hgv;have HG:=hid hgv;clear hgv hg hvat hdt
     (try clear h9);(try clear hc0);(try clear hc1);(try clear hn0);(try clear hc7)
     go_wp2_with fail;refine (Abc wr 5 n zC).mono ?_;rintro r w1 ⟨rfl,hb1⟩;obtain⟨y0,y1,g0,g1,l1⟩:=Bd (hF.later hb1);have hbw1:=Aj hb1 hbW;go_wp2;refine Ax (v:=.tuple #[.int .u64 0,.int .i64 0,.agg #[.int .i64 5,.int .i64 n]]) z6 rfl ⟨?_,zA⟩;rw[HG.out];simp[Abo]
    ·have d2:decide ((1:Int)<(e.toNat:Int))=false:=Ae zC
     have d2':decide (1<e.toNat)=false:=Ae zC;by_cases hc0:e.toNat=0
     ·have d4:((e.toNat:Int)==0)=true:=by rw[hc0];rfl
      rw[hvat,Ai (fun e=>hc1 e.2),Ag ⟨zC,hc0⟩] at hgv;have HG:=hid hgv;clear hgv hg hvat hdt
      (try clear h9);(try clear hc0);(try clear hc1);(try clear hn0);(try clear hc7)
      go_wp2_with fail;refine (Abc wr 4 n zC).mono ?_;rintro r w1 ⟨rfl,hb1⟩;obtain⟨y0,y1,g0,g1,l1⟩:=Bd (hF.later hb1);have hbw1:=Aj hb1 hbW;go_wp2;refine Ax (v:=.tuple #[.int .u64 0,.int .i64 0,.agg #[.int .i64 4,.int .i64 n]]) z6 rfl ⟨?_,zA⟩;rw[HG.out];simp[Abo]
     ·have d4:((e.toNat:Int)==0)=false:=by rw[BL];omega
      have d5:decide ((e.toNat:Int)<128)=true:=Ad zC;have d5':decide (e.toNat<128)=true:=Ad zC;have hfit:=IG hn9 (Abd b n) (c:=e.toNat) (fun _=>zC);have hmod:e.toNat%128=e.toNat:=IN zC;rw[hvat,Ai (fun e=>hc1 e.2),Ai (fun e=>hc0 e.2),Ag zC] at hgv;have HDT:=hid hdt;have hL:Aa9 (b.take (n+1))<18446744073709551616:=by
       rw[HDT.out];exact Abl hn9 (Abd b n) (fun _=>zC)
      rw[←hmod,←HDT.out] at hgv;have HG:=hid hgv;have hn1:Hid ((b.take (n+1)).length=n+1):=hid zI;have HTK:Hid (∀m,(h:m<n+1)→(b.take (n+1))[m]'(by rw[hn1.out];exact h)=b[m]'zC):=hid (fun m h=>zM);have hd0:Hid (Aa9 ((b.take (n+1)).drop (n+1))=0):=hid zB7;generalize b.take (n+1)=L at*;clear hgv hg hfit hmod HDT hvat hdt;have H9:=hid h9;have h9n:n≤9∧9≤n:=zC;have d09:decide ((9:Int)<(b.length:Int))=true:=Ad zC;have d09':decide (9<b.length)=true:=Ad zC;have i19:(9:Int)<(b.length:Int):=zC;have hc9:=hc;rw[show oa+n=oa+9 by omega] at hc9
      (try clear h9);(try clear hc0);(try clear hc1);(try clear hn0);(try clear hc7)
      go_wp2_with fail;go_loopw [6,7] (fun x i w2=>∃(k:Nat) (j:Int),k≤n+1∧Hid (j=(k:Int)-1)∧-1≤j∧j≤n∧i=.int .i64 j∧x=.int .u64 ((Aa9 (L.drop k):Nat):Int)∧w2=wr) (fun _ i _=>(intOf i+1).toNat)
      case atStart=>exact ⟨n+1,n,zC,hid zC,zC,zC,rfl,by rw[hd0.out];rfl,rfl⟩
      case round=>
       obtain⟨k,j,hk,hj,hj1,hj2,rfl,rfl,rfl⟩:=hrel;rcases DR k with hk0 | hk0
       ·have e1:j=-1:=by have:=hj.out;omega
        subst e1;subst hk0;have e2:Hid (L.drop 0=L):=hid rfl;rw[e2.out];obtain⟨y0,y1,g0,g1,l1⟩:=Bd hF;go_wp2;refine Ax (v:=.tuple #[.int .u64 ((Aa9 L:Nat):Int),.int .i64 (10),.agg #[.int .i64 0,.int .i64 0]]) z6 rfl ⟨?_,zA⟩;rw[HG.out];simp[Abo,H9.out]
       ·obtain⟨m,rfl⟩:∃m,k=m+1:=⟨k-1,zC⟩
        obtain rfl:j=(m:Int):=by have:=hj.out;omega
        have hmb:m<b.length:=zC;obtain⟨gb,ob,hA,_,hcm⟩:=Dg (lift HL.out hbW) hmb;simp only[BV,Addr.mk.injEq,AI] at hA;obtain⟨rfl,rfl⟩:=hA;have HS:Hid (Aa9 (L.drop m)=b[m].toNat%128+128*Aa9 (L.drop (m+1))):=hid zB5;have hle:Aa9 (L.drop m)<18446744073709551616:=Nat.lt_of_le_of_lt (Abh L m) hL;rw[HS.out] at hle;generalize Aa9 (L.drop (m+1))=X at*;generalize b[m]=d at*;have i1:(m:Int)<(b.length:Int):=zC;have i2:(0:Int)≤(m:Int):=zC;have hd:=d.toNat_lt;have hle2:128*(X:Int)+(d.toNat:Int)%128≤18446744073709551615:=zC;have hle3:128*(X:Int)≤18446744073709551615:=zC;have HSM:=hid hj;clear hj;go_wp2;go_roundw
        case rel=>exact ⟨m,(m:Int)-1,zC,hid rfl,zC,zC,zT,by rw[HS.out];go_num,zCe⟩
        case measure=>simp [intOf]
   ·have d1:((n:Int)==9)=false:=by rw[BL];omega
    by_cases hc0:e.toNat=0
    ·have d4:((e.toNat:Int)==0)=true:=by rw[hc0];rfl
     by_cases hn0:0<n
     ·have d3:decide ((0:Int)<(n:Int))=true:=Ad zC
      have d3':decide (0<n)=true:=Ad zC;rw[hvat,Ai (fun e=>h9 e.1),Ag ⟨hn0,hc0⟩] at hgv;have HG:=hid hgv;clear hgv hg hvat hdt
      (try clear h9);(try clear hc0);(try clear hc1);(try clear hn0);(try clear hc7)
      go_wp2_with fail;refine (Abc wr 4 n zC).mono ?_;rintro r w1 ⟨rfl,hb1⟩;obtain⟨y0,y1,g0,g1,l1⟩:=Bd (hF.later hb1);have hbw1:=Aj hb1 hbW;go_wp2;refine Ax (v:=.tuple #[.int .u64 0,.int .i64 0,.agg #[.int .i64 4,.int .i64 n]]) z6 rfl ⟨?_,zA⟩;rw[HG.out];simp[Abo]
     ·have d3:decide ((0:Int)<(n:Int))=false:=Ae zC
      have d3':decide (0<n)=false:=Ae zC;have d5:decide ((e.toNat:Int)<128)=true:=Ad zC;have d5':decide (e.toNat<128)=true:=Ad zC;have hfit:=IG hn9 (Abd b n) (c:=e.toNat) (fun e=>absurd e h9);have hmod:e.toNat%128=e.toNat:=IN zC;rw[hvat,Ai (fun e=>h9 e.1),Ai (fun e=>hn0 e.1),Ag zC] at hgv;have HDT:=hid hdt;have hL:Aa9 (b.take (n+1))<18446744073709551616:=by
       rw[HDT.out];exact Abl hn9 (Abd b n) (fun e=>absurd e h9)
      rw[←hmod,←HDT.out] at hgv;have HG:=hid hgv;have hn1:Hid ((b.take (n+1)).length=n+1):=hid zI;have HTK:Hid (∀m,(h:m<n+1)→(b.take (n+1))[m]'(by rw[hn1.out];exact h)=b[m]'zC):=hid (fun m h=>zM);have hd0:Hid (Aa9 ((b.take (n+1)).drop (n+1))=0):=hid zB7;generalize b.take (n+1)=L at*;clear hgv hg hfit hmod HDT hvat hdt
      (try clear h9);(try clear hc0);(try clear hc1);(try clear hn0);(try clear hc7)
      go_wp2_with fail;go_loopw [6,7] (fun x i w2=>∃(k:Nat) (j:Int),k≤n+1∧Hid (j=(k:Int)-1)∧-1≤j∧j≤n∧i=.int .i64 j∧x=.int .u64 ((Aa9 (L.drop k):Nat):Int)∧w2=wr) (fun _ i _=>(intOf i+1).toNat)
      case atStart=>exact ⟨n+1,n,zC,hid zC,zC,zC,rfl,by rw[hd0.out];rfl,rfl⟩
      case round=>
       obtain⟨k,j,hk,hj,hj1,hj2,rfl,rfl,rfl⟩:=hrel;rcases DR k with hk0 | hk0
       ·have e1:j=-1:=by have:=hj.out;omega
        subst e1;subst hk0;have e2:Hid (L.drop 0=L):=hid rfl;rw[e2.out];obtain⟨y0,y1,g0,g1,l1⟩:=Bd hF;go_wp2;refine Ax (v:=.tuple #[.int .u64 ((Aa9 L:Nat):Int),.int .i64 ((n:Int)+1),.agg #[.int .i64 0,.int .i64 0]]) z6 rfl ⟨?_,zA⟩;rw[HG.out];simp[Abo]
       ·obtain⟨m,rfl⟩:∃m,k=m+1:=⟨k-1,zC⟩
        obtain rfl:j=(m:Int):=by have:=hj.out;omega
        have hmb:m<b.length:=zC;obtain⟨gb,ob,hA,_,hcm⟩:=Dg (lift HL.out hbW) hmb;simp only[BV,Addr.mk.injEq,AI] at hA;obtain⟨rfl,rfl⟩:=hA;have HS:Hid (Aa9 (L.drop m)=b[m].toNat%128+128*Aa9 (L.drop (m+1))):=hid zB5;have hle:Aa9 (L.drop m)<18446744073709551616:=Nat.lt_of_le_of_lt (Abh L m) hL;rw[HS.out] at hle;generalize Aa9 (L.drop (m+1))=X at*;generalize b[m]=d at*;have i1:(m:Int)<(b.length:Int):=zC;have i2:(0:Int)≤(m:Int):=zC;have hd:=d.toNat_lt;have hle2:128*(X:Int)+(d.toNat:Int)%128≤18446744073709551615:=zC;have hle3:128*(X:Int)≤18446744073709551615:=zC;have HSM:=hid hj;clear hj;go_wp2;go_roundw
        case rel=>exact ⟨m,(m:Int)-1,zC,hid rfl,zC,zC,zT,by rw[HS.out];go_num,zCe⟩
        case measure=>simp [intOf]
    ·have d4:((e.toNat:Int)==0)=false:=by rw[BL];omega
     by_cases hc7:e.toNat<128
     ·have d5:decide ((e.toNat:Int)<128)=true:=Ad zC
      have d5':decide (e.toNat<128)=true:=Ad zC;have HN0:∃q,decide ((0:Int)<(n:Int))=q∧decide (0<n)=q:=⟨_,rfl,zM⟩;obtain⟨q,d3,d3'⟩:=HN0;cases q;all_goals
       have hfit:=IG hn9 (Abd b n) (c:=e.toNat) (fun e=>absurd e h9);have hmod:e.toNat%128=e.toNat:=IN zC;rw[hvat,Ai (fun e=>h9 e.1),Ai (fun e=>hc0 e.2),Ag hc7] at hgv;have HDT:=hid hdt;have hL:Aa9 (b.take (n+1))<18446744073709551616:=by
        rw[HDT.out];exact Abl hn9 (Abd b n) (fun e=>absurd e h9)
       rw[←hmod,←HDT.out] at hgv;have HG:=hid hgv;have hn1:Hid ((b.take (n+1)).length=n+1):=hid zI;have HTK:Hid (∀m,(h:m<n+1)→(b.take (n+1))[m]'(by rw[hn1.out];exact h)=b[m]'zC):=hid (fun m h=>zM);have hd0:Hid (Aa9 ((b.take (n+1)).drop (n+1))=0):=hid zB7;generalize b.take (n+1)=L at*;clear hgv hg hfit hmod HDT hvat hdt
       (try clear h9);(try clear hc0);(try clear hc1);(try clear hn0);(try clear hc7)
       go_wp2_with fail;go_loopw [6,7] (fun x i w2=>∃(k:Nat) (j:Int),k≤n+1∧Hid (j=(k:Int)-1)∧-1≤j∧j≤n∧i=.int .i64 j∧x=.int .u64 ((Aa9 (L.drop k):Nat):Int)∧w2=wr) (fun _ i _=>(intOf i+1).toNat)
       case atStart=>exact ⟨n+1,n,zC,hid zC,zC,zC,rfl,by rw[hd0.out];rfl,rfl⟩
       case round=>
        obtain⟨k,j,hk,hj,hj1,hj2,rfl,rfl,rfl⟩:=hrel;rcases DR k with hk0 | hk0
        ·have e1:j=-1:=by have:=hj.out;omega
         subst e1;subst hk0;have e2:Hid (L.drop 0=L):=hid rfl;rw[e2.out];obtain⟨y0,y1,g0,g1,l1⟩:=Bd hF;go_wp2;refine Ax (v:=.tuple #[.int .u64 ((Aa9 L:Nat):Int),.int .i64 ((n:Int)+1),.agg #[.int .i64 0,.int .i64 0]]) z6 rfl ⟨?_,zA⟩;rw[HG.out];simp[Abo]
        ·obtain⟨m,rfl⟩:∃m,k=m+1:=⟨k-1,zC⟩
         obtain rfl:j=(m:Int):=by have:=hj.out;omega
         have hmb:m<b.length:=zC;obtain⟨gb,ob,hA,_,hcm⟩:=Dg (lift HL.out hbW) hmb;simp only[BV,Addr.mk.injEq,AI] at hA;obtain⟨rfl,rfl⟩:=hA;have HS:Hid (Aa9 (L.drop m)=b[m].toNat%128+128*Aa9 (L.drop (m+1))):=hid zB5;have hle:Aa9 (L.drop m)<18446744073709551616:=Nat.lt_of_le_of_lt (Abh L m) hL;rw[HS.out] at hle;generalize Aa9 (L.drop (m+1))=X at*;generalize b[m]=d at*;have i1:(m:Int)<(b.length:Int):=zC;have i2:(0:Int)≤(m:Int):=zC;have hd:=d.toNat_lt;have hle2:128*(X:Int)+(d.toNat:Int)%128≤18446744073709551615:=zC;have hle3:128*(X:Int)≤18446744073709551615:=zC;have HSM:=hid hj;clear hj;go_wp2;go_roundw
         case rel=>exact ⟨m,(m:Int)-1,zC,hid rfl,zC,zC,zT,by rw[HS.out];go_num,zCe⟩
         case measure=>simp [intOf]
     ·have d5:decide ((e.toNat:Int)<128)=false:=Ae zC
      have d5':decide (e.toNat<128)=false:=Ae zC;rw[hvat,Ai (fun e=>h9 e.1),Ai (fun e=>hc0 e.2),Ai hc7] at hgv;have HG:=hid hgv;have hn8:n+1≤9:=zC;clear hgv hg h9 hc0 hc7 hvat hdt;have HN0:∃q,decide ((0:Int)<(n:Int))=q∧decide (0<n)=q:=⟨_,rfl,zM⟩;obtain⟨q,d3,d3'⟩:=HN0;cases q;all_goals
       go_wp2;go_roundw
       case rel=>exact ⟨n+1,zC,hn8,zT,HG,zCe⟩
       case measure=>simp [intOf];omega
  ·obtain rfl:n=b.length:=by omega
   have hgv:=hg.out;rw[IP] at hgv;have HG:=hid hgv;have d0:decide ((b.length:Int)<(b.length:Int))=false:=Ae zC;clear hgv hg;go_wp2_with fail;refine (Abc wr 1 b.length zC).mono ?_;rintro r w1 ⟨rfl,hb1⟩;obtain⟨y0,y1,g0,g1,l1⟩:=Bd (hF.later hb1);have hbw1:=Aj hb1 hbW;go_wp2;refine Ax (v:=.tuple #[.int .u64 0,.int .i64 0,.agg #[.int .i64 1,.int .i64 b.length]]) z6 rfl ⟨?_,zA⟩;rw[HG.out];simp[Abo,Cn]
theorem Abw:∀(l:List UInt8) (i x:Nat),(Cn i x l).2.2≠0→(Cn i x l).1=0
 | [],i,x,_=>rfl
 | c::l,i,x,h=>by
  rw[UG] at h ⊢;by_cases h1:i=9∧1<c.toNat
  ·rw[Ag h1]
  ·rw[Ai h1] at h ⊢
   by_cases h2:0<i∧c.toNat=0
   ·rw[Ag h2]
   ·rw[Ai h2] at h ⊢
    by_cases h3:c.toNat<128
    ·rw[Ag h3] at h;simp at h
    ·rw[Ai h3] at h ⊢
     exact Abw l _ _ h
theorem Abp(w:World)(a:Option Addr)(c:Nat)(B:List UInt8)(hl:Am.r (·<w.heap.size) w [.slice a B.length c] B)(s:Rs)(hs:s.ok B.length)(hB:B.length≤1000000000000):
  Calls Tryz.prog 103 #[CV a B.length c s] w fun r w'=>r=.returned (.tuple #[CV a B.length c (s.num B).1,.int .u64 ((s.num B).2:Int)])∧Below w.heap.size w w':=by
 have hle:=hs.le;by_cases h0:s.k=0
 ·have d0:(s.k !=(0:Int))=false:=by simp[h0]
  obtain⟨aD,cD,hsl,hsub⟩:=Aar hl (lo:=s.p) hle;have hu:=H4 (B.drop s.p) 0 0;have hln:(B.drop s.p).length=B.length-s.p:=zM;have hGET:=hid (fun (W:World) (hW:Below w.heap.size w W)=>Ab5 W (B.drop s.p) aD _ cD (lift hsub hW) zC);have hnum:s.num B=(⟨s.p+(Cn 0 0 (B.drop s.p)).2.1,(Cn 0 0 (B.drop s.p)).2.2,if (Cn 0 0 (B.drop s.p)).2.2=0 then 0 else if (Cn 0 0 (B.drop s.p)).2.2=1 then B.length else s.p+(Cn 0 0 (B.drop s.p)).2.1-1⟩,(Cn 0 0 (B.drop s.p)).1):=by
   unfold Rs.num;rw[Ag h0]
  unfold Ab7 at hGET;rw[hnum];have hsm:=MQ (B.drop s.p) 0 0 zC zM;have hvx:=Abw (B.drop s.p) 0 0;generalize B.drop s.p=D at*;generalize Cn 0 0 D=R at*;obtain⟨x,u,k⟩:=R;dsimp only at*;have hz:=hs.zero h0;have H0:=hid h0;have HZ:=hid hz;clear hl hs h0 hz hsub hnum;unfold CV;by_cases hk0:k=0
  ·subst hk0
   simp only[Abo,IL] at hGET ⊢;go_enter Tryz.func103,Tryz.ntmps103;go_wp2_with fail;refine (hGET.out _ zA).mono ?_;rintro r w1 ⟨rfl,hb⟩;have B0:Blk w1 w.heap.size 91 #[.slice a B.length c,.int .i64 (s.p:Int),.int .i64 s.k,.int .i64 s.f]:=Blk.later zD hb;have B1:Blk w1 (w.heap.size+1) 91 #[.slice none 0 0,.int .i64 0,.int .i64 0,.int .i64 0]:=Blk.later zD hb;obtain⟨x0,x1,x2,x3,e0,e1,e2,e3,l0⟩:=Aa8 B0;obtain⟨y0,y1,y2,y3,g0,g1,g2,g3,l1⟩:=Aa8 B1;have hbw:Below w.heap.size w w1:=zA;clear B0 B1 hb;go_wp2;refine Ax (v:=.tuple #[.agg #[.slice a B.length c,.int .i64 ((s.p:Int)+(u:Int)),.int .i64 s.k,.int .i64 s.f],.int .u64 (x:Int)]) z9 rfl ⟨?_,zA⟩;rw[H0.out,HZ.out];rfl
  ·by_cases hk1:k=1
   ·subst hk1
    have hu1:=hu.2.2.2.1 rfl;have hx0:x=0:=by have:=hvx;exact hvx zC
    subst hx0;have HP:Hid (((s.p+u:Nat):Int)=(B.length:Int)):=hid zC;simp only[Abo,IL,show ¬((1:Int)=0) by omega,if_false] at hGET ⊢;rw[HP.out];go_enter Tryz.func103,Tryz.ntmps103;go_wp2_with fail;refine (hGET.out _ zA).mono ?_;rintro r w1 ⟨rfl,hb⟩;have B0:Blk w1 w.heap.size 91 #[.slice a B.length c,.int .i64 (s.p:Int),.int .i64 s.k,.int .i64 s.f]:=Blk.later zD hb;have B1:Blk w1 (w.heap.size+1) 91 #[.slice none 0 0,.int .i64 0,.int .i64 0,.int .i64 0]:=Blk.later zD hb;have hbw:Below w.heap.size w w1:=zA;obtain⟨x0,x1,x2,x3,e0,e1,e2,e3,l0⟩:=Aa8 B0;obtain⟨y0,y1,y2,y3,g0,g1,g2,g3,l1⟩:=Aa8 B1;clear hb;go_wp2_with fail;refine (Abc _ 1 B.length zC).mono ?_;rintro r w2 ⟨rfl,hb2⟩;have B0':Blk w2 w.heap.size 91 #[.slice a B.length c,.int .i64 (B.length:Int),.int .i64 s.k,.int .i64 s.f]:=Blk.later (Blk.alloc (Blk.set B0 1 (.int .i64 (B.length:Int))) _) hb2;have B1':Blk w2 (w.heap.size+1) 91 #[.slice none 0 0,.int .i64 0,.int .i64 0,.int .i64 0]:=Blk.later (Blk.alloc (Blk.far B1 zM _) _) hb2;have BF:Blk w2 w1.heap.size 65 #[.int .i64 1,.int .i64 ((B.length-s.p:Nat):Int)]:=Blk.later (Blk.newAt _ _ _ zU) hb2;have hbw2:Below w.heap.size w w2:=zA;clear x0 x1 x2 x3 e0 e1 e2 e3 l0 y0 y1 y2 y3 g0 g1 g2 g3 l1 B0 B1 hb2;obtain⟨x0,x1,x2,x3,e0,e1,e2,e3,l0⟩:=Aa8 B0';obtain⟨y0,y1,y2,y3,g0,g1,g2,g3,l1⟩:=Aa8 B1';obtain⟨z0,z1,f0,f1,lz⟩:=Bd BF;clear B0' B1' BF;go_wp2;refine Ax (v:=.tuple #[.agg #[.slice a B.length c,.int .i64 (B.length:Int),.int .i64 1,.int .i64 (B.length:Int)],.int .u64 0]) z9 rfl ⟨rfl,zA⟩
   ·have hk4:k≠0∧k≠1:=⟨hk0,hk1⟩
    have hu5:=hu.2.2.2.2 hk1;have d2:(k==(0:Int))=false:=by simp[hk0]
    have d3:(k==(1:Int))=false:=by simp[hk1]
    have d4:(k !=(1:Int))=true:=by simp[hk1]
    have hx0:x=0:=hvx hk0;subst hx0;simp only[Abo,hk0,hk1,if_false] at hGET ⊢;go_enter Tryz.func103,Tryz.ntmps103;go_wp2_with fail;refine (hGET.out _ zA).mono ?_;rintro r w1 ⟨rfl,hb⟩;have B0:Blk w1 w.heap.size 91 #[.slice a B.length c,.int .i64 (s.p:Int),.int .i64 s.k,.int .i64 s.f]:=Blk.later zD hb;have B1:Blk w1 (w.heap.size+1) 91 #[.slice none 0 0,.int .i64 0,.int .i64 0,.int .i64 0]:=Blk.later zD hb;have hbw:Below w.heap.size w w1:=zA;obtain⟨x0,x1,x2,x3,e0,e1,e2,e3,l0⟩:=Aa8 B0;obtain⟨y0,y1,y2,y3,g0,g1,g2,g3,l1⟩:=Aa8 B1;clear hb;go_wp2_with fail;refine (Abc _ k _ hk0).mono ?_;rintro r w2 ⟨rfl,hb2⟩;have B0':Blk w2 w.heap.size 91 #[.slice a B.length c,.int .i64 ((s.p:Int)+((u:Int)-1)+1),.int .i64 s.k,.int .i64 s.f]:=Blk.later (Blk.alloc (Blk.set B0 1 (.int .i64 ((s.p:Int)+((u:Int)-1)+1))) _) hb2;have B1':Blk w2 (w.heap.size+1) 91 #[.slice none 0 0,.int .i64 0,.int .i64 0,.int .i64 0]:=Blk.later (Blk.alloc (Blk.far B1 zM _) _) hb2;have BF:Blk w2 w1.heap.size 65 #[.int .i64 k,.int .i64 ((u:Int)-1)]:=Blk.later (Blk.newAt _ _ _ zU) hb2;have hbw2:Below w.heap.size w w2:=zA;clear x0 x1 x2 x3 e0 e1 e2 e3 l0 y0 y1 y2 y3 g0 g1 g2 g3 l1 B0 B1 hb2;have HB0:=hid B0';have HB1:=hid B1';obtain⟨x0,x1,x2,x3,e0,e1,e2,e3,l0⟩:=Aa8 B0';obtain⟨z0,z1,f0,f1,lz⟩:=Bd BF;clear B0' B1' BF;have hK0:=hid hk0;clear hk4 hk0 hk1;go_upto_region 13 with (fail);refine Ee (fun W=>Blk W w.heap.size 91 #[.slice a B.length c,.int .i64 ((s.p:Int)+((u:Int)-1)+1),.int .i64 k,.int .i64 ((s.p:Int)+((u:Int)-1))]∧Blk W (w.heap.size+1) 91 #[.slice none 0 0,.int .i64 0,.int .i64 0,.int .i64 0]∧Below w.heap.size w W) ⟨?_,?_,zA⟩ ?_
    ·exact Blk.set (Blk.set (Blk.set HB0.out 2 _) 3 _) 3 _
    ·exact Blk.far (Blk.far (Blk.far HB1.out zM _) zM _) zM _
    rintro W ⟨B0,B1,hbW⟩;clear x0 x1 x2 x3 e0 e1 e2 e3 l0 z0 z1 f0 f1 lz;obtain⟨x0,x1,x2,x3,e0,e1,e2,e3,l0⟩:=Aa8 B0;obtain⟨y0,y1,y2,y3,g0,g1,g2,g3,l1⟩:=Aa8 B1;clear B0 B1;go_wp2;refine Ax (v:=.tuple #[.agg #[.slice a B.length c,.int .i64 ((s.p:Int)+((u:Int)-1)+1),.int .i64 k,.int .i64 ((s.p:Int)+((u:Int)-1))],.int .u64 0]) z9 rfl ⟨by rw[show ((s.p:Int)+((u:Int)-1)+1)=((s.p+u:Nat):Int) by omega,show (s.p:Int)+((u:Int)-1)=(s.p:Int)+(u:Int)-1 by omega];rfl,by (repeat (first | with_reducible exact Aa2 _ _ | with_reducible assumption | (with_reducible refine Aw ?_ _) | (with_reducible refine Aa3 ?_ zE _) | (with_reducible refine Aa5 ?_) | (with_reducible refine Aa4 ?_ _) | (refine Aj zG ?_)))⟩
 ·have d0:(s.k !=(0:Int))=true:=by simp[h0]
  have hnum:s.num B=(s,0):=by unfold Rs.num;rw[Ai h0]
  rw[hnum];clear hl hs h0 hnum;unfold CV;go_enter Tryz.func103,Tryz.ntmps103;go_wp2;refine Ax (v:=.tuple #[.agg #[.slice a B.length c,.int .i64 (s.p:Int),.int .i64 s.k,.int .i64 s.f],.int .u64 0]) (by simp[results,Tryz.results103,go_sem]) rfl ⟨rfl,zA⟩
theorem AbP(w:World)(a:Option Addr)(c:Nat)(B:List UInt8)(hl:Am.r (·<w.heap.size) w [.slice a B.length c] B)(s:Rs)(hs:s.ok B.length)(hB:B.length≤1000000000000)(m:Nat):
  Calls Tryz.prog 102 #[CV a B.length c s,.int .u64 (m:Int)] w fun r w'=>r=.returned (.tuple #[CV a B.length c (s.most B m).1,.int .u64 ((s.most B m).2:Int)])∧Below w.heap.size w w':=by
 have hR:=hid (fun (W:World) (hW:Below w.heap.size w W)=>Abp W a c B (lift hl hW) s hs hB);have hF:=hid (fun (W:World) (t:Rs)=>Abe W a B.length c t 2 s.p zC);unfold Rs.most;generalize s.num B=N at*;obtain⟨s1,x⟩:=N;dsimp only at*;clear hl hs;unfold CV at*;by_cases hm:m<x
 ·have d1:decide (m<x)=true:=Ad hm
  have d1':decide ((m:Int)<(x:Int))=true:=Ad zC;rw[Ag hm];have HF:=hid (fun (W:World)=>hF.out W s1);dsimp only;generalize s1.fail 2 s.p=s2 at*;clear hm hF;go_enter Tryz.func102,Tryz.ntmps102;go_wp2_with fail;refine (hR.out _ zA).mono ?_;rintro r w1 ⟨rfl,hb⟩;have B1:Blk w1 (w.heap.size+1) 91 #[.slice none 0 0,.int .i64 0,.int .i64 0,.int .i64 0]:=Blk.later zD hb;have hbw:Below w.heap.size w w1:=zA;clear hb;go_wp2_with fail;refine (HF.out _).mono ?_;rintro r w2 ⟨rfl,hb2⟩;have B1':Blk w2 (w.heap.size+1) 91 #[.slice none 0 0,.int .i64 0,.int .i64 0,.int .i64 0]:=Blk.later zD hb2;have hbw2:Below w.heap.size w w2:=zA;obtain⟨y0,y1,y2,y3,g0,g1,g2,g3,l1⟩:=Aa8 B1';clear hb2 B1 B1';go_wp2;refine Ax (v:=.tuple #[.agg #[.slice a B.length c,.int .i64 (s2.p:Int),.int .i64 s2.k,.int .i64 s2.f],.int .u64 0]) zCi rfl ⟨rfl,zA⟩
 ·have d1:decide (m<x)=false:=Ae hm
  have d1':decide ((m:Int)<(x:Int))=false:=Ae zC;rw[Ai hm];dsimp only;clear hm hF;go_enter Tryz.func102,Tryz.ntmps102;go_wp2_with fail;refine (hR.out _ zA).mono ?_;rintro r w1 ⟨rfl,hb⟩;have B1:Blk w1 (w.heap.size+1) 91 #[.slice none 0 0,.int .i64 0,.int .i64 0,.int .i64 0]:=Blk.later zD hb;have hbw:Below w.heap.size w w1:=zA;obtain⟨y0,y1,y2,y3,g0,g1,g2,g3,l1⟩:=Aa8 B1;clear hb B1;go_wp2;refine Ax (v:=.tuple #[.agg #[.slice a B.length c,.int .i64 (s1.p:Int),.int .i64 s1.k,.int .i64 s1.f],.int .u64 (x:Int)]) zCi rfl ⟨rfl,zA⟩
theorem Ab4(w:World)(a:Option Addr)(c:Nat)(B:List UInt8)(hl:Am.r (·<w.heap.size) w [.slice a B.length c] B)(s:Rs)(hs:s.ok B.length)(hB:B.length≤1000000000000)(m:Int)(hm: -9223372036854775808≤m∧m≤9223372036854775807):
  Calls Tryz.prog 58 #[CV a B.length c s,.int .i64 m] w fun r w'=>r=.returned (.tuple #[CV a B.length c (s.int B m).1,.int .i64 ((s.int B m).2:Int)])∧Below w.heap.size w w':=by
 by_cases h0:0≤m
 ·obtain⟨n,rfl⟩:∃n:Nat,m=n:=⟨m.toNat,zC⟩
  have hM:=hid (fun (W:World) (hW:Below w.heap.size w W)=>AbP W a c B (lift hl hW) s hs hB n);have hle:(s.int B n).2≤9223372036854775807:=by have:=Rs.E6 (B:=B) (s:=s) (m:=(n:Int));omega
  have e:s.int B n=s.most B n:=by unfold Rs.int;rw[Ag h0];rfl
  rw[e] at hle ⊢;have d1:decide ((0:Int)≤(n:Int))=true:=Ad h0;generalize s.most B n=N at*;obtain⟨s1,x⟩:=N;dsimp only at*;clear hl hs e;unfold CV at*;go_enter Tryz.func58,Tryz.ntmps58;go_wp2_with fail;refine (hM.out _ zA).mono ?_;rintro r w1 ⟨rfl,hb⟩;have B1:Blk w1 (w.heap.size+1) 91 #[.slice none 0 0,.int .i64 0,.int .i64 0,.int .i64 0]:=Blk.later zD hb;have hbw:Below w.heap.size w w1:=zA;obtain⟨y0,y1,y2,y3,g0,g1,g2,g3,l1⟩:=Aa8 B1;clear hb B1;go_wp2;refine Ax (v:=.tuple #[.agg #[.slice a B.length c,.int .i64 (s1.p:Int),.int .i64 s1.k,.int .i64 s1.f],.int .i64 (x:Int)]) zCk rfl ⟨rfl,zA⟩
 ·have hR:=hid (fun (W:World) (hW:Below w.heap.size w W)=>Abp W a c B (lift hl hW) s hs hB)
  have e:s.int B m=((s.num B).1.fail 2 s.p,0):=by unfold Rs.int;rw[Ai h0]
  have hF:=hid (fun (W:World)=>Abe W a B.length c (s.num B).1 2 s.p zC);rw[e];have d1:decide ((0:Int)≤m)=false:=Ae h0;dsimp only at*;generalize (s.num B).1.fail 2 s.p=s2 at*;generalize s.num B=N at*;obtain⟨s1,x⟩:=N;dsimp only at*;clear hl hs e h0;unfold CV at*;go_enter Tryz.func58,Tryz.ntmps58;go_wp2_with fail;refine (hR.out _ zA).mono ?_;rintro r w1 ⟨rfl,hb⟩;have B0:Blk w1 w.heap.size 91 #[.slice a B.length c,.int .i64 (s.p:Int),.int .i64 s.k,.int .i64 s.f]:=Blk.later zD hb;have B1:Blk w1 (w.heap.size+1) 91 #[.slice none 0 0,.int .i64 0,.int .i64 0,.int .i64 0]:=Blk.later zD hb;have hbw:Below w.heap.size w w1:=zA;obtain⟨x0,x1,x2,x3,e0,e1,e2,e3,l0⟩:=Aa8 B0;clear hb;go_wp2_with fail;refine (hF.out _).mono ?_;rintro r w2 ⟨rfl,hb2⟩;have B1':Blk w2 (w.heap.size+1) 91 #[.slice none 0 0,.int .i64 0,.int .i64 0,.int .i64 0]:=Blk.later zD hb2;have hbw2:Below w.heap.size w w2:=zA;obtain⟨y0,y1,y2,y3,g0,g1,g2,g3,l1⟩:=Aa8 B1';clear hb2 B1 B1' B0;go_wp2;refine Ax (v:=.tuple #[.agg #[.slice a B.length c,.int .i64 (s2.p:Int),.int .i64 s2.k,.int .i64 s2.f],.int .i64 0]) zCk rfl ⟨rfl,zA⟩
theorem AbO(w:World)(a:Option Addr)(c:Nat)(B:List UInt8)(hl:Am.r (·<w.heap.size) w [.slice a B.length c] B)(s:Rs)(hs:s.ok B.length)(hB:B.length≤1000000000000)(m:Int)(hm: -9223372036854775808≤m∧m≤9223372036854775807):
  Calls Tryz.prog 96 #[CV a B.length c s,.int .i64 m] w fun r w'=>∃v,r=.returned (.tuple #[CV a B.length c (s.Ct B m).1,v])∧Am.r (fun q=>w.heap.size≤q∧q<w'.heap.size) w' [v] (s.Ct B m).2∧Below w.heap.size w w':=by
 have hI:=hid (fun (W:World) (hW:Below w.heap.size w W)=>Ab4 W a c B (lift hl hW) s hs hB m hm);have hok:=Rs.Eo (B:=B) hs (m:=m);have hle:((s.int B m).2:Int)≤9223372036854775807:=by have:=Rs.E6 (B:=B) (s:=s) (m:=m);omega
 have hT:=hid (fun (W:World) (hW:Below w.heap.size w W)=>Abq W a c B (lift hl hW) (s.int B m).1 hok ((s.int B m).2:Int) hle hB);unfold Rs.Ct;generalize (s.int B m).1.take B ((s.int B m).2:Int)=T at*;generalize s.int B m=N at*;obtain⟨s1,x⟩:=N;obtain⟨s2,D⟩:=T;dsimp only at*;clear hl hs hok;unfold CV at*;go_enter Tryz.func96,Tryz.ntmps96;go_wp2_with fail;refine (hI.out _ zA).mono ?_;rintro r w1 ⟨rfl,hb⟩;have B1:Blk w1 (w.heap.size+1) 91 #[.slice none 0 0,.int .i64 0,.int .i64 0,.int .i64 0]:=Blk.later zD hb;have hbw:Below w.heap.size w w1:=zA;have hs1:=hb.size;simp at hs1;clear hb;go_wp2_with fail;refine (hT.out _ zA).mono ?_;rintro r w2 ⟨v,rfl,hr,hb2⟩;have B1':Blk w2 (w.heap.size+1) 91 #[.slice none 0 0,.int .i64 0,.int .i64 0,.int .i64 0]:=Blk.later zD hb2;have hbw2:Below w.heap.size w w2:=zA;obtain⟨y0,y1,y2,y3,g0,g1,g2,g3,l1⟩:=Aa8 B1';obtain⟨a1,c1,hv1,hr2,_⟩:=AH hr;simp only[Av,AI] at hv1;subst hv1;have HR:=hid hr2;clear hr hr2 hb2 B1 B1';go_wp2;refine Ax (v:=.tuple #[.agg #[.slice a B.length c,.int .i64 (s2.p:Int),.int .i64 s2.k,.int .i64 s2.f],.slice a1 D.length c1]) (by simp[results,Tryz.results96,go_sem,y0,y1,y2,y3,l1]) rfl ⟨_,rfl,?_,zA⟩;refine Am.mono (Am.keep HR.out fun q hq=> ?_) fun q hq=>⟨Z9,by simp[World.setCell];exact hq.2⟩;have:=hq.1;simp at this;repeat (rw[At _ _ _ _ zH])
end Go.Proofs.YtfddhafbhceoaaaGreat
namespace Go.Bs
open Go.RowKit
end Go.Bs
namespace Go.Proofs.YtfddhafbhceoaaaGreat
open Go.RowKit Go.Bs Go.Maps
variable{B:List UInt8}{w:World}
theorem Ach{F:Nat→Prop}{base:Nat}{e:TypeId}{sz:Nat}{v:Value}{xs:List Tok}{cells:List (List Value)}(h:AY F Lp base e sz w v xs cells):AY F rTV base e sz w v (xs.map .inl) cells:=by
 obtain⟨ho,hlen,hsz,hA⟩:=h;refine⟨by simpa using ho,by simpa using hlen,hsz,fun i cs x hi hx=> ?_⟩;rw[FT] at hx;cases hxi:xs[i]? with
 | none=>rw [hxi] at hx;cases hx
 | some y=>rw [hxi] at hx;cases hx;exact hA i cs y hi hxi
theorem XK.start{lo:Nat}{w':World}{g c:Nat}{v:Value}{ts:List Tok}{y:UInt8}{cells:List (List Value)}(hlo:lo≤w.heap.size)(h:Dd lo Lp lo 304 3 w v ts cells)
 (hown:w'.ownsRow lo 304 3 (.slice (some ⟨g,0,none⟩) (ts.length+1) c) (ts.length+1) (cells.flatten++[.slice (some ⟨w.heap.size,0,none⟩) 1 1,.int .i64 0,.int .i64 0]))
 (hg:((w.alloc (.cells #[.int .u8 (y.toNat:Int)] 5)).alloc (.cells #[.slice (some ⟨w.heap.size,0,none⟩) 1 1,.int .i64 0,.int .i64 0] 304)).grownBy w' v.ownBlock)
 (hat:(Value.slice (some ⟨g,0,none⟩) (ts.length+1) c).ownBlock=v.ownBlock∨(Value.slice (some ⟨g,0,none⟩) (ts.length+1) c).ownBlock=some ((w.alloc (.cells #[.int .u8 (y.toNat:Int)] 5)).alloc (.cells #[.slice (some ⟨w.heap.size,0,none⟩) 1 1,.int .i64 0,.int .i64 0] 304)).heap.size):
  XK lo w' g c cells ts [y] (.slice (some ⟨w.heap.size,0,none⟩) 1 1):=by
 have hv:=fun q (hq:v.ownBlock=some q)=>(h.1.lt q hq).2;generalize hW:(w.alloc (.cells #[.int .u8 (y.toNat:Int)] 5)).alloc (.cells #[.slice (some ⟨w.heap.size,0,none⟩) 1 1,.int .i64 0,.int .i64 0] 304)=W at*;have keep:∀b,b<w.heap.size→W.heap[b]? =w.heap[b]? :=fun b hb=>by
  rw[←hW,AN _ _ _ zI,AN _ _ _ hb]
 have hs:W.heap.size=w.heap.size+2:=by rw[←hW];simp
 have hnew:W.heap[w.heap.size]? =some (.cells #[.int .u8 (y.toNat:Int)] 5 (0,0)):=by
  rw[←hW,AN _ _ _ zM];exact World.alloc_heap_new w _
 have hgw:g≠w.heap.size:=fun e=>by
  rcases hat with h1 | h1
  ·have:=hv g (by rw[←h1];rfl);omega
  ·have:=AR h1;simp at this;omega
 have hs':=hg.size;have h1:=Ach (((AY.of h).keep (w':=W) (fun b hb=>keep b hb.2) (fun q hq=>keep q (hv q hq))).mono (F':=fun x=>lo≤x∧x<W.heap.size∧x≠w.heap.size) fun b hb=>⟨hb.1,zC,zC⟩);have h2:=AY.push (v':=.slice (some ⟨g,0,none⟩) (ts.length+1) c) (x:=(.inr (.slice (some ⟨w.heap.size,0,none⟩) 1 1):Tok ⊕ Value)) h1 (fun b hb=>hb.2.1) (news:=[.slice (some ⟨w.heap.size,0,none⟩) 1 1,.int .i64 0,.int .i64 0]) rfl rfl (by simpa using hown) hg hat;refine⟨h2.mono fun b hb=>⟨hb.1,zC,fun e=>hb.2.2 (AR e).symm⟩,h.2.1,?_,fun e=>hgw (AR e).symm⟩;refine Ra hlo ((hg.block w.heap.size zC (fun e=> ?_)).trans hnew);have:=hv w.heap.size e.symm;omega
open Go.RowKit Go.Bs
theorem AbJ(x y:Batch)(a a':Option Addr)(n c n' c':Nat)(w:World)(hx:Br.r (·<w.heap.size) w [.slice a n c] x.entries)(hy:Br.r (·<w.heap.size) w [.slice a' n' c'] y.entries):
  Calls Tryz.prog 61 #[.agg #[.int .u64 x.epoch,.int .u64 x.base,.slice a n c],.agg #[.int .u64 y.epoch,.int .u64 y.base,.slice a' n' c']] w fun r w'=>r=.returned (.bool (decide (x=y)))∧Below w.heap.size w w':=by
 obtain⟨xe,xb,xl⟩:=x;obtain⟨ye,yb,yl⟩:=y;dsimp only at*;have HX:=hid hx;clear hx;have HY:=hid hy;clear hy;by_cases h1:xe=ye
 ·by_cases h2:xb=yb
  ·have hff:Hid (decide ((⟨xe,xb,xl⟩:Batch)=⟨ye,yb,yl⟩)=decide (xl=yl)):=hid (by simp[h1,h2])
   have d1:(xe==ye)=true:=by simp[h1]
   have d2:(xb==yb)=true:=by simp[h2]
   clear h1 h2;go_enter Tryz.func61,Tryz.ntmps61;go_wp2_with fail;refine (Ab1 xl yl _ _ _ _ _ _ _ (lift HX.out zB) (lift HY.out zB)).mono ?_;rintro e w1 ⟨rfl,hb1⟩;have hb2:Below w.heap.size w w1:=zB;go_wp2;go_ret;exact⟨zP,hb2⟩
  ·have hff:Hid (decide ((⟨xe,xb,xl⟩:Batch)=⟨ye,yb,yl⟩)=false):=hid (by simp[h1,h2])
   have d1:(xe==ye)=true:=by simp[h1]
   have d2:(xb==yb)=false:=by simp[h2]
   clear h1 h2;go_enter Tryz.func61,Tryz.ntmps61;go_wp2;go_ret;exact⟨zP,zB⟩
 ·have hff:Hid (decide ((⟨xe,xb,xl⟩:Batch)=⟨ye,yb,yl⟩)=false):=hid (by simp[h1])
  have d1:(xe==ye)=false:=by simp[h1]
  clear h1;go_enter Tryz.func61,Tryz.ntmps61;go_wp2;go_ret;exact⟨zP,zB⟩
theorem AbI(ex ey:Int)(x y:List Batch)(a a':Option Addr)(n c n' c':Nat)(w:World)(hx:DN.r (·<w.heap.size) w [.slice a n c] x)(hy:DN.r (·<w.heap.size) w [.slice a' n' c'] y):
  Calls Tryz.prog 37 #[.agg #[.int .u64 ex,.slice a n c],.agg #[.int .u64 ey,.slice a' n' c']] w fun r w'=>r=.returned (.bool (decide ((⟨ex,x⟩:Seg)=⟨ey,y⟩)))∧Below w.heap.size w w':=by
 obtain⟨rfl,hm,_,_⟩:=AL hx;obtain⟨rfl,hm',_,_⟩:=AL hy;by_cases he:ex=ey
 ·have d0:(ex !=ey)=false:=by simp[he]
  by_cases hl:x.length=y.length
  ·have HX:=hid hx;clear hx
   have HY:=hid hy;clear hy;have HL:=hid hl;have e1:((x.length:Int) !=(y.length:Int))=false:=by simp[hl]
   have h0:Hid (decide ((⟨ex,x⟩:Seg)=⟨ey,y⟩)=decide (x.drop 0=y.drop 0)):=hid (by simp[he]);clear hl he;go_enter Tryz.func37,Tryz.ntmps37;go_wp2_with fail;refine Ee (fun W=>Below w.heap.size w W∧w.heap.size+1<W.heap.size∧W.cell? ⟨w.heap.size,1,none⟩=some (.slice a x.length c)∧W.cell? ⟨w.heap.size+1,1,none⟩=some (.slice a' y.length c')) ⟨zB,zM,ZW,ZW⟩ ?_;intro w1 ⟨hb2,hzb,s0,s1⟩;go_loopw [5] (fun i wr=>∃k:Nat,k≤x.length∧i=.int .i64 k∧Hid (decide ((⟨ex,x⟩:Seg)=⟨ey,y⟩)=decide (x.drop k=y.drop k))∧Below w1.heap.size w1 wr) (fun i _=>x.length-(intOf i).toNat)
   case atStart=>exact ⟨0,Ar _,rfl,h0,Aa2 _ _⟩
   case round=>
    obtain⟨k,hk,rfl,hf,hb7⟩:=hrel;have hb:=Aj hb7 hb2;have t0:wr.cell? ⟨w.heap.size,1,none⟩=some (.slice a x.length c):=(AM.mk wr hb7).cell s0;have t1:wr.cell? ⟨w.heap.size+1,1,none⟩=some (.slice a' y.length c'):=(AM.mk wr hb7).cell s1;have hz3:w.heap.size+1<wr.heap.size:=by have:=hb7.size;omega
    by_cases hlt:k<x.length
    ·have hlt':k<y.length:=by rw[←HL.out];exact hlt
     obtain⟨b,o,hA,hbb,a1,c1,hc0,hc1,hc2,_,_,hr1⟩:=Jz HX.out hlt;obtain⟨b',o',hA',hbb',a2,c2,hd0,hd1,hd2,_,_,hr2⟩:=Jz HY.out hlt';have hst:=hid (Aba x y k hlt hlt');subst hA hA';have T0:=fun s:AM wr=>s.cell t0;have T1:=fun s:AM wr=>s.cell t1;have X0:=fun s:AM wr=>s.cell ((hb.cell (p:=⟨b,o+k*3,none⟩) hbb).trans hc0);have X1:=fun s:AM wr=>s.cell ((hb.cell (p:=⟨b,o+k*3+1,none⟩) hbb).trans hc1);have X2:=fun s:AM wr=>s.cell ((hb.cell (p:=⟨b,o+k*3+2,none⟩) hbb).trans hc2);have Y0:=fun s:AM wr=>s.cell ((hb.cell (p:=⟨b',o'+k*3,none⟩) hbb').trans hd0);have Y1:=fun s:AM wr=>s.cell ((hb.cell (p:=⟨b',o'+k*3+1,none⟩) hbb').trans hd1);have Y2:=fun s:AM wr=>s.cell ((hb.cell (p:=⟨b',o'+k*3+2,none⟩) hbb').trans hd2);clear hc0 hc1 hc2 hd0 hd1 hd2;generalize hlk:x[k]=u at*;generalize hlm:y[k]=v at*;clear hlk hlm;have hs1:=hid (lift hr1 hb);have hs2:=hid (lift hr2 hb);clear hr1 hr2;have hO:=fun s:AM wr=>AbJ u v a1 a2 _ c1 _ c2 s.at_ (lift hs1.out s.below) (lift hs2.out s.below);have i0:(0:Int)≤(k:Int):=zC;have i1:(k:Int)<(x.length:Int):=zC;have i2:(k:Int)<(y.length:Int):=zC;by_cases huv:u=v
     ·rw[Ad huv] at hO
      have HO:=hid hO;clear hO;have hst':Hid (decide (x.drop k=y.drop k)=decide (x.drop (k+1)=y.drop (k+1))):=hid zCc;clear huv;go_wp2_with fail;refine Az zJ zJ ?_;repeat (go_big_quiet_step (((go_at_call 61;exact CH (HO.out _)))))
      refine AT ?_;rintro W5 ⟨⟨W5',hb5⟩,rfl⟩;go_wp2;go_roundw
      case rel=>exact ⟨k+1,zC,zT,hid zCd,Aj hb5 hb7⟩
      case measure=>simp [intOf];omega
     ·rw[Ae huv] at hO
      have HO:=hid hO;clear hO;have hff:Hid (decide ((⟨ex,x⟩:Seg)=⟨ey,y⟩)=false):=hid zB9;clear huv;go_wp2_with fail;refine Az zJ zJ ?_;repeat (go_big_quiet_step (((go_at_call 61;exact CH (HO.out _)))))
      refine AT ?_;rintro W5 ⟨⟨W5',hb5⟩,rfl⟩;go_wp2;go_ret;exact⟨zP,Aj hb5 hb⟩
    ·obtain rfl:k=x.length:=by omega
     have hff:Hid (decide ((⟨ex,x⟩:Seg)=⟨ey,y⟩)=true):=hid z7;go_wp2;go_ret;exact⟨zP,hb⟩
  ·have hff:Hid (decide ((⟨ex,x⟩:Seg)=⟨ey,y⟩)=false):=hid (by simp;rintro _ rfl;exact hl rfl)
   have e1:((x.length:Int) !=(y.length:Int))=true:=zI;clear hl hx hy he;go_enter Tryz.func37,Tryz.ntmps37;go_wp2;go_ret;exact⟨zP,zB⟩
 ·have hff:Hid (decide ((⟨ex,x⟩:Seg)=⟨ey,y⟩)=false):=hid (by simp[he])
  have d0:(ex !=ey)=true:=by simp[he]
  clear he hx hy;go_enter Tryz.func37,Tryz.ntmps37;go_wp2;go_ret;exact⟨zP,zB⟩
theorem Abt:(Tryz.prog.info? 48).map (fun i=>(i.zero,i.size,i.bytes))=some (some (.agg #[.int .u64 0,.int .u64 0,.slice none 0 0]),3,40):=zJ
theorem AbB(w:World)(B:List UInt8)(a:Option Addr)(n c:Nat)(hl:Am.r (·<w.heap.size) w [.slice a n c] B)(hB:B.length≤1000000000):
  Calls Tryz.prog 55 #[.slice a n c] w fun r w'=>∃q:Bool,r=.returned (.bool q)∧w=w':=by
 obtain⟨rfl,hm,_,_⟩:=AL hl;have HL:=hid hl;clear hl;go_enter Tryz.func55,Tryz.ntmps55;go_wp2;go_loop [3] (fun i=>∃k:Nat,k≤B.length∧i=.int .i64 k) (fun i=>B.length+1-(intOf i).toNat)
 case atStart=>exact ⟨0,Ar _,rfl⟩
 case round=>
  obtain⟨k,hk,rfl⟩:=hrel;by_cases h1:k+1<B.length
  ·obtain⟨b1,o1,hA1,hb1,hx1⟩:=Dg HL.out (i:=k) zC
   obtain⟨b2,o2,hA2,hb2,hx2⟩:=Dg HL.out (i:=k+1) h1;subst hA1;simp only[BV,Addr.mk.injEq,AI] at hA2;obtain⟨rfl,rfl⟩:=hA2;have e1:decide ((k:Int)+1<(B.length:Int))=true:=Ad zC;have i1:(k:Int)<(B.length:Int):=zC;have i2:(k:Int)+1<(B.length:Int):=zC;generalize B[k].toNat=x at*;generalize B[k+1].toNat=y at*;by_cases c1:128≤x
   ·have d1:decide ((128:Int)≤(x:Int))=true:=Ad zC
    have d1':decide (128≤x)=true:=Ad c1;by_cases c2:3≤y
    ·have d2:decide ((3:Int)≤(y:Int))=true:=Ad zC
     have d2':decide (3≤y)=true:=Ad c2;go_wp2;go_ret;first | exact⟨.inl rfl,rfl⟩ | exact⟨.inr rfl,rfl⟩
    ·have d2:decide ((3:Int)≤(y:Int))=false:=Ae zC
     have d2':decide (3≤y)=false:=Ae c2;go_wp2;go_round
     case rel=>exact ⟨k+1,zC,zT⟩
     case measure=>simp [intOf];omega
   ·have d1:decide ((128:Int)≤(x:Int))=false:=Ae zC
    have d1':decide (128≤x)=false:=Ae c1;go_wp2;go_round
    case rel=>exact ⟨k+1,zC,zT⟩
    case measure=>simp [intOf];omega
  ·have e1:decide ((k:Int)+1<(B.length:Int))=false:=Ae zC
   go_wp2;go_ret;first | exact⟨.inl rfl,rfl⟩ | exact⟨.inr rfl,rfl⟩
theorem AbN(c:Nat)(hc:c<4294967296)(x:UInt8)(w:World):
  Calls Tryz.prog 232 #[.int .u32 c,.int .u8 (x.toNat:Int)] w fun r w'=>r=.returned (.int .u32 (MI c x:Nat))∧w=w':=by
 have e1:=WW hc x;have hcb:Hid (MI c x=Nr 8 (c^^^x.toNat)):=hid rfl;have hy:c^^^x.toNat<4294967296:=ML hc (by have:=x.toNat_lt;omega);generalize c^^^x.toNat=y at*;go_enter Tryz.func232,Tryz.ntmps232;go_wp2_with fail;go_loopw [0,5] (fun s i wr=>∃k:Nat,k≤8∧i=.int .i64 k∧s=.int .u32 (Nr k y:Nat)∧wr=w) (fun _ i _=>8-(intOf i).toNat)
 case atStart=>exact ⟨0,zC,rfl,rfl,rfl⟩
 case round=>
  obtain⟨k,hk,rfl,rfl,rfl⟩:=hrel;by_cases hlt:k<8
  ·have hd:=Rt hy k
   have hst:Hid (Nr (k+1) y=Ea (Nr k y)):=hid rfl;have i1:(k:Int)<8:=zC;generalize Nr k y=d at*;by_cases h1:d%2=1
   ·have d1:((d:Int)%2==1)=true:=by simp;omega
    have hff:Hid (((Ea d:Nat):Int)=bits BinOp.xor IntKind.u32 ((d:Int)/2) 2197175160):=hid (by rw[WB hd];unfold Ea;rw[Ag h1]);clear h1;go_wp2;go_roundw
    case rel=>exact ⟨k+1,zC,zT,by rw[hst.out,hff.out],trivial⟩
    case measure=>simp [intOf];omega
   ·have d1:((d:Int)%2==1)=false:=beq_eq_false_iff_ne.2 zC
    have hff:Hid (((Ea d:Nat):Int)=(d:Int)/2):=hid (by unfold Ea;rw[Ai h1];rfl);clear h1;go_wp2;go_roundw
    case rel=>exact ⟨k+1,zC,zT,by rw[hst.out,hff.out],trivial⟩
    case measure=>simp [intOf];omega
  ·obtain rfl:k=8:=by omega
   go_wp2;go_ret;exact⟨by rw[hcb.out];rfl,rfl⟩
theorem Ab3(D:List UInt8)(ad:Option Addr)(nd cd:Nat)(w:World)(hD:Am.r (·<w.heap.size) w [.slice ad nd cd] D):
  Calls Tryz.prog 98 #[.slice ad nd cd] w fun r w'=>r=.returned (.int .u32 (Cc D:Nat))∧w=w':=by
 obtain⟨rfl,hm,_,_⟩:=AL hD;have HD:=hid hD;clear hD;have hlt:=Pw D (c:=4294967295) zL;have hff:Hid (Cc D=4294967295-H3 4294967295 D):=hid rfl;have HA:Hid (Calls Tryz.prog 157 #[.int .u32 4294967295,.slice ad D.length cd] w fun r w'=>r=.returned (.int .u32 (H3 4294967295 D:Nat))∧w=w'):=hid (by
  clear hff hlt;go_enter Tryz.func157,Tryz.ntmps157;go_wp2_with fail;go_loopw [0,5] (fun s i wr=>∃(k d:Nat),k≤D.length∧i=.int .i64 k∧s=.int .u32 d∧d<4294967296∧Hid (H3 4294967295 D=H3 d (D.drop k))∧wr=w) (fun _ i _=>D.length-(intOf i).toNat)
  case atStart=>exact ⟨0,4294967295,Ar _,rfl,rfl,zL,hid rfl,rfl⟩
  case round=>
   obtain⟨k,d,hk,rfl,rfl,hd,hf,rfl⟩:=hrel;by_cases hlt:k<D.length
   ·obtain⟨b,o,hA,hbb,hx⟩:=Dg HD.out hlt
    subst hA;have hst:=hid (show H3 d (D.drop k)=H3 (MI d D[k]) (D.drop (k+1)) by rw[AO hlt];rfl);generalize D[k]=x at*;have i1:(k:Int)<(D.length:Int):=zC;have hb1:=NS (x:=x) hd;have HI:=hid (AbN d hd x wr);generalize MI d x=q at*;go_wp2_with fail;refine HI.out.mono ?_;rintro r w1 ⟨rfl,rfl⟩;go_wp2;go_roundw
    case rel=>exact ⟨k+1,q,zC,zT,rfl,hb1,hid (by rw[hf.out,hst.out]),trivial⟩
    case measure=>simp [intOf];omega
   ·obtain rfl:k=D.length:=by omega
    have hff:Hid (H3 4294967295 D=d):=hid zA2;go_wp2;go_ret;exact⟨zP,rfl⟩)
 generalize H3 4294967295 D=s at*;go_enter Tryz.func98,Tryz.ntmps98;go_wp2_with fail;refine HA.out.mono ?_;rintro r w1 ⟨rfl,rfl⟩;have e2:0≤4294967295-(s:Int):=zC;go_wp2;go_ret;exact⟨by rw[hff.out];simp;omega,rfl⟩
theorem Ab8{m:Int}(hk:((⟨0,0,0⟩:Rs).frame B m).1.k=0):4≤((⟨0,0,0⟩:Rs).frame B m).1.p:=by
 unfold Rs.frame at hk ⊢;dsimp only at hk ⊢;have hf:∀s:Rs,(s.take B 4).1.k=0→(s.take B 4).1.p=s.p+4:=fun s h=>by
  unfold Rs.take Rs.skip at h ⊢;by_cases h0:s.k=0
  ·rw[Ag h0,Ai zL] at h ⊢
   by_cases h1:(B.length:Int)-s.p<4
   ·rw[Ag h1] at h
    exact absurd h (show ¬(1:Int)=0 by decide)
   ·rw[Ai h1]
    rfl
  ·rw[Ai h0] at h
   exact absurd h h0
 split at hk
 ·rename_i hc
  rw[Ag hc];have:=hf _ hk;omega
 ·exact absurd hk (Rs.BI zC)
end Go.Proofs.YtfddhafbhceoaaaGreat
