/- Mini: Needed by feedWhole_walk, part 2: texts put together by shake.py; no condition. -/
import Derived.Test.YtfddhafbhceoaaaGreatWF16
import Derived.RegionTactic
import Derived.BigRegion
import Derived.Lib.SlBytesConst
import Derived.Laws.BitsAllLaws
import Derived.Maps.AppendAt
import Derived.Deep.AppendLies
import Derived.ProofKit
import Derived.OpenShut
import Derived.Deep.Slices
import Derived.Lib.SmallJoins
import Derived.WalkKit
import Derived.WalkLawsBesides
import Derived.WalkSpells
import Derived.Outline
import Derived.BigQuiet
import Derived.Deep.QuietTactic
import Derived.Test.YtfddhafbhceoaaaGreatRows
import Derived.Lib.ConvBytes
import Derived.Laws.AppendOwn
import Derived.Laws.MakeOwn
import Derived.Test.YtfddhafbhceoaaaGreatWG1
import Derived.Deep.Cut
import Derived.Deep.CutRange
import Derived.Laws.Bits64
import Derived.ScopeJumps
import Derived.WalkMore
import Derived.Deep.RegionLaw
import Derived.Maps.OwnOps
import Derived.Maps.Views
import Derived.Deep.RegionHeld3
import Derived.StillTail
import Derived.OrdersHeld
import Derived.Deep.RegionHeld
import Derived.Scope
import Derived.Test.YtfddhafbhceoaaaGreatProg
import Derived.Deep.WholeRow
import Derived.Deep.CutBlock
import Derived.IntWalk
import Derived.StillTailTactics
import Derived.Sort.QuietThIn
import Derived.Sort.BigQuietIn
import Derived.Sort.QuietTacIn
import Derived.RangeFuncNested
import Derived.RangeFuncBound
import Derived.RangeFuncCalls
import Derived.RangeFuncLeaves
import Derived.Shelf.Abstract
import Derived.Shelf.RegionOpen
import Derived.OwnWalkIn
import Derived.TacticsInMore
import Derived.LoopNIn
import Derived.LoopIn
import Derived.Maps.OwnIn
set_option linter.unusedVariables false
set_option linter.unusedSimpArgs false
set_option maxRecDepth 100000
set_option maxHeartbeats 6400000
namespace Go.Bs
theorem zCh{p:Prop}(h:p:=by have := e.2; have := HB6.out.lt; show b < w6.heap.size; omega):p:=h
theorem zCb{p:Prop}(h:p:=by have := hne8 b e.1; dsimp only; omega):p:=h
theorem zCa{p:Prop}(h:p:=by rw [HRR.out]; exact Bv (xs := []) rfl (As _) (Ar _) (.inl rfl)):p:=h
theorem zB6{p:Prop}(h:p:=by simp [results, Tryz.results54, go_sem, y0, y1, y2, y3, l1]):p:=h
theorem Aa7:type_of% @AllReadyH.nil:=@AllReadyH.nil
end Go.Bs
namespace Go.Proofs.YtfddhafbhceoaaaGreat
open Go.RowKit Go.Bs Go.Maps
variable{q:Bool}{ep f k:Int}{B:List UInt8}{gc gr:Nat}{a:Option Addr}{s:Rs}{w:World}
theorem Abz(w:World)(a:Option Addr)(c:Nat)(B:List UInt8)(hl:Am.r (·<w.heap.size) w [.slice a B.length c] B)(s:Rs)(hs:s.ok B.length)(hB:B.length≤1000000000000)(n:Nat)(hn:n≤8):
  Calls Tryz.prog 97 #[CV a B.length c s,.int .i64 (n:Int)] w fun r w'=>r=.returned (.tuple #[CV a B.length c (s.take B n).1,.int .u64 ((EC (s.take B n).2:Nat):Int)])∧Below w.heap.size w w':=by
 have HT:=hid (fun (W:World) (hW:Below w.heap.size w W)=>Abq W a c B (lift hl hW) s hs (n:Int) zC hB);have hlen:(s.take B n).2.length≤n:=by
  unfold Rs.take;split
  ·simp;omega
  ·simp
 generalize s.take B (n:Int)=T at*;obtain⟨s1,L⟩:=T;dsimp only at*;have n0:(0:Int)≤(n:Int):=zC;have n8:(n:Int)≤8:=zC;clear hl hs;unfold CV at*;go_enter Tryz.func97,Tryz.ntmps97;go_wp2_with fail;refine (HT.out _ zA).mono ?_;rintro r w1 ⟨v,rfl,hr,hb⟩;obtain⟨a1,c1,hv1,hr2,_⟩:=AH hr;simp only[Av,AI] at hv1;subst hv1;have E2:Blk (w1.alloc (.cells #[.slice a B.length c,.int .i64 (s1.p:Int),.int .i64 s1.k,.int .i64 s1.f] 91)) w1.heap.size 91 #[.slice a B.length c,.int .i64 (s1.p:Int),.int .i64 s1.k,.int .i64 s1.f]:=zD;have hb2:Below w1.heap.size w1 (w1.alloc (.cells #[.slice a B.length c,.int .i64 (s1.p:Int),.int .i64 s1.k,.int .i64 s1.f] 91)):=zA;have B1:Blk w1 (w.heap.size+1) 91 #[.slice none 0 0,.int .i64 0,.int .i64 0,.int .i64 0]:=Blk.later zD hb;have HZ:=hid (B1.later hb2);have HV:=hid (lift (Am.mono hr2 (S':=(·<w1.heap.size)) fun q hq=>hq.2) hb2);have hbw:Below w.heap.size w (w1.alloc (.cells #[.slice a B.length c,.int .i64 (s1.p:Int),.int .i64 s1.k,.int .i64 s1.f] 91)):=zA;have HE:=hid E2;clear hr hr2 hb hb2 B1 E2;go_wp2_with fail;generalize w1.alloc (.cells #[.slice a B.length c,.int .i64 (s1.p:Int),.int .i64 s1.k,.int .i64 s1.f] 91)=w2 at*;go_loopw [8,9] (fun x i wr=>∃j:Nat,j≤L.length∧i=.int .i64 ((j:Int)-1)∧x=.int .u64 ((EC (L.drop j):Nat):Int)∧w2=wr) (fun _ i _=>(intOf i+1).toNat)
 case atStart=>exact ⟨L.length,As _,rfl,by rw[IP];rfl,rfl⟩
 case round=>
  obtain⟨j,hj,rfl,rfl,rfl⟩:=hrel;by_cases h0:1≤j
  ·obtain⟨m,rfl⟩:∃m,j=m+1:=⟨j-1,zC⟩
   have hm1:((m+1:Nat):Int)-1=(m:Int):=zC;rw[hm1];clear hm1 h0;have d1:decide ((0:Int)≤(m:Int))=true:=Ad zC;have i1:(m:Int)<(L.length:Int):=zC;obtain⟨b,o,rfl,_,hc⟩:=Dg HV.out (i:=m) zC;have hy:=L[m].toNat_lt;have hff:((EC (L.drop m):Nat):Int)=256*((EC (L.drop (m+1)):Nat):Int)+(L[m].toNat:Int):=by
    rw[AO (by omega:m<L.length)];simp only[EC];omega
   have hX:EC (L.drop (m+1))<72057594037927936:=by
    refine An (Qq _) (Bb (Nat.pow_le_pow_right zL (show _≤7 by simp;omega)) zL)
   have HFF:=hid hff;clear hff;generalize L[m].toNat=y at*;generalize EC (L.drop (m+1))=X at*;go_wp2_with fail;go_roundw
   case rel=>exact ⟨m,zC,zT,by rw[HFF.out],by trivial⟩
   case measure=>(simp[intOf];try omega)
  ·obtain rfl:j=0:=by omega
   have hm1:((0:Nat):Int)-1=(-1:Int):=rfl;rw[hm1,De];clear hm1 h0;have d1:decide ((0:Int)≤-1)=false:=rfl;obtain⟨x0,x1,x2,x3,e0,e1,e2,e3,l0⟩:=Aa8 HE.out;obtain⟨y0,y1,y2,y3,g0,g1,g2,g3,l1⟩:=Aa8 HZ.out;go_wp2_with fail;refine Ax (v:=.tuple #[.agg #[.slice a B.length c,.int .i64 (s1.p:Int),.int .i64 s1.k,.int .i64 s1.f],.int .u64 ((EC L:Nat):Int)]) (by simp[results,Tryz.results97,go_sem,y0,y1,y2,y3,l1]) rfl ⟨rfl,zA⟩
theorem AbM(w:World)(a:Option Addr)(c:Nat)(B:List UInt8)(hl:Am.r (·<w.heap.size) w [.slice a B.length c] B)(s:Rs)(hs:s.ok B.length)(hB:B.length≤1000000000000)(m:Int)(hm: -9223372036854775808≤m∧m≤2097152):
  Calls Tryz.prog 54 #[CV a B.length c s,.int .i64 m] w fun r w'=>∃v,r=.returned (.tuple #[CV a B.length c (s.frame B m).1,v])∧Am.r (fun q=>w.heap.size≤q∧q<w'.heap.size) w' [v] (s.frame B m).2∧Below w.heap.size w w':=by
 have d0:decide ((2097152:Int)<m)=false:=Ae zC;have hmin:min m 2097152=m:=zC;unfold Rs.frame;rw[hmin];have HB:=hid (fun (W:World) (hW:Below w.heap.size w W)=>AbO W a c B (lift hl hW) s hs hB m zC);have hok:=Rs.IH hs m;dsimp only;generalize s.Ct B m=T at*;obtain⟨s1,D⟩:=T;dsimp only at*;have HX:=hid (fun (W:World) (hW:Below w.heap.size w W)=>(by have:=Abz W a c B (lift hl hW) s1 hok hB 4 zC;exact this:Calls Tryz.prog 97 #[CV a B.length c s1,.int .i64 4] W fun r w'=>r=.returned (.tuple #[CV a B.length c (s1.take B 4).1,.int .u64 ((EC (s1.take B 4).2:Nat):Int)])∧Below W.heap.size W w'));have HFL:=hid (fun (W:World) (t:Rs)=>Abe W a B.length c t 6 s1.p zC);have hq:=Gd D;generalize s1.take B 4=U at*;obtain⟨s2,F⟩:=U;dsimp only at*;generalize EC F=x at*;generalize hS3:(if Cc D=x then s2 else s2.fail 6 (s1.p:Int))=s3 at*;generalize hRES:(if s3.k=0 then D else [])=RES at*;have HS3:=hid hS3;have HRES:=hid hRES;clear hl hs hok hmin hS3 hRES;unfold CV at*;go_enter Tryz.func54,Tryz.ntmps54;go_wp2_with fail;refine (HB.out _ zA).mono ?_;rintro r w1 ⟨v,rfl,hr,hb⟩;obtain⟨a1,c1,hv1,hr2,_⟩:=AH hr;simp only[Av,AI] at hv1;subst hv1;have hz1:=hb.size;simp at hz1;have E2:Blk (w1.alloc (.cells #[.slice a B.length c,.int .i64 (s1.p:Int),.int .i64 s1.k,.int .i64 s1.f] 91)) w1.heap.size 91 #[.slice a B.length c,.int .i64 (s1.p:Int),.int .i64 s1.k,.int .i64 s1.f]:=zD;have hb2:Below w1.heap.size w1 (w1.alloc (.cells #[.slice a B.length c,.int .i64 (s1.p:Int),.int .i64 s1.k,.int .i64 s1.f] 91)):=zA;have B1:Blk w1 (w.heap.size+1) 91 #[.slice none 0 0,.int .i64 0,.int .i64 0,.int .i64 0]:=Blk.later zD hb;have HZ2:=hid (B1.later hb2);have HV2:=hid (Am.mono (Am.keep hr2 fun q hq=>hb2.block q hq.2) (S':=fun q=>w.heap.size+1<q∧q<w1.heap.size) fun q hq=>⟨Z9,hq.2⟩);have hbw2:Below w.heap.size w (w1.alloc (.cells #[.slice a B.length c,.int .i64 (s1.p:Int),.int .i64 s1.k,.int .i64 s1.f] 91)):=zA;have hz2:w1.heap.size<(w1.alloc (.cells #[.slice a B.length c,.int .i64 (s1.p:Int),.int .i64 s1.k,.int .i64 s1.f] 91)).heap.size:=zM;have HE2:=hid E2;obtain⟨x0,x1,x2,x3,e0,e1,e2,e3,l0⟩:=Aa8 E2;clear hr hr2 hb hb2 B1 E2;go_wp2_with fail;generalize w1.alloc (.cells #[.slice a B.length c,.int .i64 (s1.p:Int),.int .i64 s1.k,.int .i64 s1.f] 91)=w2 at*;refine (HX.out _ hbw2).mono ?_;rintro r w3 ⟨rfl,hb3⟩;have HZ3:=hid (HZ2.out.later hb3);have HE3:=hid (HE2.out.later hb3);have HV3:=hid (Am.keep HV2.out fun q hq=>hb3.block q zC);have hbw3:=Aj hb3 hbw2;have hz3:=An hz2 hb3.size;have E4:Blk (w3.alloc (.cells #[.slice a B.length c,.int .i64 (s2.p:Int),.int .i64 s2.k,.int .i64 s2.f] 91)) w3.heap.size 91 #[.slice a B.length c,.int .i64 (s2.p:Int),.int .i64 s2.k,.int .i64 s2.f]:=zD;have hb4:Below w3.heap.size w3 (w3.alloc (.cells #[.slice a B.length c,.int .i64 (s2.p:Int),.int .i64 s2.k,.int .i64 s2.f] 91)):=zA;have HZ4:=hid (HZ3.out.later hb4);have HE4:=hid (HE3.out.later hb4);have HV4:=hid (Am.mono (Am.keep HV3.out fun q hq=>hb4.block q zC) (S':=fun q=>w.heap.size+1<q∧q<w3.heap.size) fun q hq=>⟨hq.1,zC⟩);have hbw4:=Aj hb4 hbw3;have hz4:w3.heap.size<(w3.alloc (.cells #[.slice a B.length c,.int .i64 (s2.p:Int),.int .i64 s2.k,.int .i64 s2.f] 91)).heap.size:=zM;clear HZ2 HE2 HV2 hbw2 hb3 HZ3 HE3 HV3 hbw3 hb4 x0 x1 x2 x3 e0 e1 e2 e3 l0;have HE5:=hid E4;obtain⟨x0,x1,x2,x3,e0,e1,e2,e3,l0⟩:=Aa8 E4;clear E4;go_upto_region 5 with (fail);generalize w3.alloc (.cells #[.slice a B.length c,.int .i64 (s2.p:Int),.int .i64 s2.k,.int .i64 s2.f] 91)=w4 at*;by_cases hk:s2.k=0
 ·have dk1:(s2.k==(0:Int))=true:=by simp[hk]
  have dk2:(s2.k !=(0:Int))=false:=by simp[hk]
  have HS:=hid (Ab3 D a1 _ c1 w4 (Am.mono HV4.out fun q hq=>zC));by_cases hx:Cc D=x
  ·have e3:s3=s2:=by rw[←HS3.out,Ag hx]
   have HE3:=hid e3;have HRR:Hid (RES=D):=hid (by rw[←HRES.out,e3,Ag hk]);have dx:((x:Int) !=(Cc D:Int))=false:=by rw[hx];simp
   obtain⟨y0,y1,y2,y3,g0,g1,g2,g3,l1⟩:=Aa8 HZ4.out;clear e3 HS3 HRES;generalize Cc D=q at*;clear hk hx;go_wp2_with fail;refine HS.out.mono ?_;rintro r w5 ⟨rfl,rfl⟩;go_wp2_with fail;refine Ax (v:=.tuple #[.agg #[.slice a B.length c,.int .i64 (s2.p:Int),.int .i64 s2.k,.int .i64 s2.f],.slice a1 D.length c1]) zB6 rfl ⟨_,by rw[HE3.out],?_,zA⟩;rw[HRR.out];refine Am.mono (Am.keep HV4.out fun q hq=> ?_) fun q hq=>⟨zC,by simp[World.setCell];omega⟩;repeat (rw[At _ _ _ _ zH])
  ·have hf3:s2.fail 6 (s1.p:Int)=⟨s2.p,6,s1.p⟩:=by unfold Rs.fail;rw[Ag hk]
   have e3:s3=⟨s2.p,6,s1.p⟩:=by rw[←HS3.out,Ai hx,hf3]
   have HE3:=hid e3;have HRR:Hid (RES=[]):=hid (by rw[←HRES.out,e3,Ai (by dsimp only;decide)]);have HFF:=hid (fun (W:World)=>HFL.out W s2);rw[hf3] at HFF;have dx:((x:Int) !=(Cc D:Int))=true:=zI;obtain⟨y0,y1,y2,y3,g0,g1,g2,g3,l1⟩:=Aa8 HZ4.out;obtain⟨z0,z1,z2,z3,h0,h1,h2,h3,lz⟩:=Aa8 HE4.out;clear e3 HS3 HRES;generalize Cc D=q at*;clear hk hx hf3 HFL;go_wp2_with fail;refine HS.out.mono ?_;rintro r w5 ⟨rfl,rfl⟩;go_wp2_with fail;refine (HFF.out _).mono ?_;rintro r w6 ⟨rfl,hb6⟩;have Z6:=HZ4.out.later hb6;have E6:=HE5.out.later hb6;have hbw6:=Aj hb6 hbw4;have hz6:=hb6.size;clear x0 x1 x2 x3 e0 e1 e2 e3 l0 y0 y1 y2 y3 g0 g1 g2 g3 l1 z0 z1 z2 z3 h0 h1 h2 h3 lz hb6;obtain⟨x0,x1,x2,x3,e0,e1,e2,e3,l0⟩:=Aa8 E6;obtain⟨y0,y1,y2,y3,g0,g1,g2,g3,l1⟩:=Aa8 Z6;go_wp2_with fail;refine Ax (v:=.tuple #[.agg #[.slice a B.length c,.int .i64 (s2.p:Int),.int .i64 6,.int .i64 (s1.p:Int)],.slice none 0 0]) zB6 rfl ⟨_,by rw[HE3.out],zCa,zA⟩
 ·have hf3:(if Cc D=x then s2 else s2.fail 6 (s1.p:Int))=s2:=by
   split
   ·rfl
   ·exact Rs.Bt hk
  have e3:s3=s2:=by rw[←HS3.out,hf3]
  have HE3:=hid e3;have HRR:Hid (RES=[]):=hid (by rw[←HRES.out,e3,Ai hk]);have dk1:(s2.k==(0:Int))=false:=by simp[hk]
  have dk2:(s2.k !=(0:Int))=true:=by simp[hk]
  obtain⟨y0,y1,y2,y3,g0,g1,g2,g3,l1⟩:=Aa8 HZ4.out;clear hk hf3 HFL e3 HS3 HRES;go_wp2_with fail;refine Ax (v:=.tuple #[.agg #[.slice a B.length c,.int .i64 (s2.p:Int),.int .i64 s2.k,.int .i64 s2.f],.slice none 0 0]) zB6 rfl ⟨_,by rw[HE3.out],zCa,zA⟩
theorem Ace{m:Int}:((⟨0,0,0⟩:Rs).frame B m).1.p≤B.length:=by
 have h0:(⟨0,0,0⟩:Rs).ok B.length:=⟨Ar _,fun _=>rfl⟩;have h2:=Rs.Gf (Rs.IH h0 (min m 2097152)) 4;unfold Rs.frame;dsimp only;split
 ·exact h2.le
 ·exact (Rs.Ck h2 zC).le
theorem Ab9{m:Int}:((⟨0,0,0⟩:Rs).frame B m).2.length≤2097152:=by
 have h:=(Tt (B:=B) (m:=m)).2;unfold Qk at h;by_cases hk:((⟨0,0,0⟩:Rs).frame B m).1.k=0
 ·rw[Ag hk] at h
  exact h
 ·unfold Rs.frame at hk ⊢
  dsimp only at hk ⊢;rw[Ai hk];simp
theorem AbG{blk:List UInt8→Rs→Rs × List UInt8 × Bool}(n:Nat):∀(s:Rs) (l:List Batch) (M:List AP) (q:Bool),l.length=M.length→(Dj B ep blk n s l M q).2.2.1.length=(Dj B ep blk n s l M q).2.2.2.1.length:=by
 induction n with
 | zero=>exact fun s l M q h=>h
 | succ n ih=>
  intro s l M q h;rw[DY B ep blk n s l M q rfl];split
  ·split
   ·exact h
   ·split
    ·split
     ·split
      ·exact h
      ·split
       ·exact ih _ _ _ _ (by rw[Al,Al,h];rfl)
       ·exact h
     ·exact h
    ·split
     ·exact h
     ·exact h
  ·exact h
theorem AbQ(S:List UInt8):(Ez S).2.2.1.length=(Ez S).2.2.2.1.length:=by
 unfold Ez;dsimp only;generalize (⟨0,0,0⟩:Rs).hdr S=h;generalize (if h.2.1=3 then h.1 else h.1.fail 8 4)=s;by_cases hk:s.k=0
 ·rw[Ag hk]
  exact AbG _ _ _ _ _ rfl
 ·rw[Ai hk]
  rfl
theorem Abk:∀(l:List Batch) (M:List AP),l.length=M.length→(EA l M).map EvB.batch=l∧∀e∈EA l M,e.kind=1
 | [],[],_=>⟨rfl,fun e h=>absurd h (by simp[EA])⟩
 | [],_::_,h=>absurd h zM
 | _::_,[],h=>absurd h zM
 | b::l,m::M,h=>by
  obtain⟨h1,h2⟩:=Abk l M ZL;have e:EA (b::l) (m::M)=⟨1,m.at_,0,b⟩::EA l M:=rfl;rw[e];refine⟨by rw[Ca,h1],fun x hx=> ?_⟩;rcases List.mem_cons.1 hx with rfl | hx
  ·rfl
  ·exact h2 x hx
theorem AbT(S:List UInt8){g:Seg}(h:TY S=(g,q,k,f)):
  ∃(L:List EvB) (e:EvB),OB S true=L++[e]∧(k=0→L.map EvB.batch=g.batches∧(∀x∈L,x.kind=1)∧e=⟨2,S.length,0,Dp⟩)∧(k≠0→3≤e.kind∧e.code=k∧e.at_=f):=by
 rw[Xu] at h;have hI:=Abk _ _ (AbQ S);unfold OB;by_cases hk:(Gr S).k=0
 ·rw[Ag hk] at h
  rw[Ag hk,Ag rfl];cases h;exact⟨_,_,rfl,fun _=>⟨hI.1,hI.2,rfl⟩,fun hh=>absurd rfl hh⟩
 ·rw[Ai hk] at h
  rw[Ai hk];cases h;by_cases hs:(Gr S).k=1∧(Gr S).f=S.length
  ·rw[Ag hs,Ag rfl]
   exact⟨_,_,rfl,fun hh=>absurd hh hk,fun _=>⟨Int.le_refl _,hs.1.symm,hs.2.symm⟩⟩
  ·rw[Ai hs]
   exact⟨_,_,rfl,fun hh=>absurd hh hk,fun _=>⟨by show (3:Int)≤4;decide,rfl,rfl⟩⟩
theorem Aa6{g:Nat}{t:TypeId}{v0 v1 v2 v3 v4 v5:Value}(h:Blk w g t #[v0,v1,v2,v3,v4,v5]):w.cell? ⟨g,0,none⟩=some v0∧w.cell? ⟨g,1,none⟩=some v1∧w.cell? ⟨g,2,none⟩=some v2∧w.cell? ⟨g,3,none⟩=some v3∧w.cell? ⟨g,4,none⟩=some v4∧w.cell? ⟨g,5,none⟩=some v5∧g<w.heap.size:=
 ⟨h.cell 0,h.cell 1,h.cell 2,h.cell 3,h.cell 4,h.cell 5,h.lt⟩
theorem Abr{g:Nat}{t:TypeId}{cs:Array Value}(h:Blk w g t cs):w.frozen? ⟨g,0,none⟩=false∧w.frozen? ⟨g,1,none⟩=false∧w.frozen? ⟨g,2,none⟩=false∧w.frozen? ⟨g,3,none⟩=false∧w.frozen? ⟨g,4,none⟩=false∧w.frozen? ⟨g,5,none⟩=false:=
 ⟨h.free 0,h.free 1,h.free 2,h.free 3,h.free 4,h.free 5⟩
theorem Abb(w:World){gc:Nat}{B:List UInt8}{a:Option Addr}{s:Rs}(h:AS w gc B a s)(x0:w.cell? ⟨gr,0,none⟩=some (.pointer (some ⟨gc,0,none⟩)))(k f at_:Int):
  Calls Tryz.prog 198 #[.pointer (some ⟨gr,0,none⟩),.agg #[.int .i64 k,.int .i64 f],.int .i64 at_] w fun r w'=>r=.returned (.tuple #[])∧AE w gc B a (s.within k f at_) w':=by
 have HIN:=hid (CS.refl h);have hgr:gr<w.heap.size:=Dn _ _ x0;have hb0:Below w.heap.size w (w.alloc (.cells #[.int .i64 k,.int .i64 f] 65)):=zA;have hF0:Blk (w.alloc (.cells #[.int .i64 k,.int .i64 f] 65)) w.heap.size 65 #[.int .i64 k,.int .i64 f]:=Blk.new _ _ _;have x1:(w.alloc (.cells #[.int .i64 k,.int .i64 f] 65)).cell? ⟨gr,0,none⟩=some (.pointer (some ⟨gc,0,none⟩)):=(AM.mk _ hb0).cell x0;by_cases hk:k=0
 ·subst hk
  rw[Rs.DA];have HSH:=hid (fun (W:World)=>Qt W f at_);have HG:=hid (fun (W:World)=>(by have:=BK W 0 0;exact this:Calls Tryz.prog 65 #[.agg #[.int .i64 0,.int .i64 0]] W fun r w'=>r=.returned (.bool true)∧Below W.heap.size W w'));clear h x0;go_enter Tryz.func198,Tryz.ntmps198;go_upto_region 1 with (fail);generalize (w.alloc (.cells #[.int .i64 0,.int .i64 f] 65))=w0 at*;obtain⟨y0,y1,y2,y3,ly⟩:=Bd hF0;have HF0:=hid hF0;clear hF0;go_wp2_with fail;refine (HSH.out _).mono ?_;rintro r w1 ⟨rfl,hb1⟩;have HF1:=HF0.out.later hb1;have hbw1:=Aj hb1 hb0;clear y0 y1 y2 y3 ly hb1;obtain⟨y0,y1,y2,y3,ly⟩:=Bd HF1;have HIS:=hid (HIN.out.row (show Below w.heap.size w ((w1.setCell ⟨w.heap.size,0,none⟩ (.int .i64 0)).setCell ⟨w.heap.size,1,none⟩ (.int .i64 0)) by (repeat (first | with_reducible exact Aa2 _ _ | with_reducible assumption | (with_reducible refine Aw ?_ _) | (with_reducible refine Aa3 ?_ zE _) | (with_reducible refine Aa5 ?_) | (with_reducible refine Aa4 ?_ _) | (refine Aj zG ?_)))));go_wp2_with fail;refine (HG.out _).mono ?_;rintro r w2 ⟨rfl,hb2⟩;have HI2:=hid (HIS.out.row (hb2.mono HIS.out.tch.size));go_wp2_with fail;first | go_end0 | refine Ax (A4 rfl _ _ _) rfl ?_
  exact⟨rfl,HI2.out.to⟩
 ·have hw:s.within k f at_=s.fail k (wrap64 (f+at_)):=Ai hk
  rw[hw];clear hw;have HSH:=hid (fun (W:World)=>IF W k f at_ hk);generalize wrap64 (f+at_)=FV at*;have HG:=hid (fun (W:World)=>(by have:=BK W k FV;rw[Ae hk] at this;exact this:Calls Tryz.prog 65 #[.agg #[.int .i64 k,.int .i64 FV]] W fun r w'=>r=.returned (.bool false)∧Below W.heap.size W w'));have HFL:=hid (fun (W:World) (hW:AS W gc B a s)=>Bx W hW k FV hk);clear h x0 hk;go_enter Tryz.func198,Tryz.ntmps198;go_upto_region 1 with (fail);generalize (w.alloc (.cells #[.int .i64 k,.int .i64 f] 65))=w0 at*;obtain⟨y0,y1,y2,y3,ly⟩:=Bd hF0;have HF0:=hid hF0;clear hF0;go_wp2_with fail;refine (HSH.out _).mono ?_;rintro r w1 ⟨rfl,hb1⟩;have HF1:=HF0.out.later hb1;have hbw1:=Aj hb1 hb0;have x2:w1.cell? ⟨gr,0,none⟩=some (.pointer (some ⟨gc,0,none⟩)):=(AM.mk _ hb1).cell x1;clear y0 y1 y2 y3 ly hb1;obtain⟨y0,y1,y2,y3,ly⟩:=Bd HF1;have hbs:Below w.heap.size w ((w1.setCell ⟨w.heap.size,0,none⟩ (.int .i64 k)).setCell ⟨w.heap.size,1,none⟩ (.int .i64 FV)):=zA;have HIS:=hid (HIN.out.row hbs);have HFS:=hid ((HF1.set 0 (.int .i64 k)).set 1 (.int .i64 FV));have x3:((w1.setCell ⟨w.heap.size,0,none⟩ (.int .i64 k)).setCell ⟨w.heap.size,1,none⟩ (.int .i64 FV)).cell? ⟨gr,0,none⟩=some (.pointer (some ⟨gc,0,none⟩)):=by
   exact (Bq (a:=⟨gr,0,none⟩) ((At _ _ _ _ zH).trans (At _ _ _ _ zH))).trans x2
  go_upto_region 2 with (fail);generalize ((w1.setCell ⟨w.heap.size,0,none⟩ (.int .i64 k)).setCell ⟨w.heap.size,1,none⟩ (.int .i64 FV))=w2 at*;clear y0 y1 y2 y3 ly x1 x2;obtain⟨y0,y1,y2,y3,ly⟩:=Bd HFS.out;go_wp2_with fail;refine (HG.out _).mono ?_;rintro r w3 ⟨rfl,hb3⟩;have HI3:=hid (HIS.out.row (hb3.mono HIS.out.tch.size));have HF3:=HFS.out.later hb3;have x4:w3.cell? ⟨gr,0,none⟩=some (.pointer (some ⟨gc,0,none⟩)):=(AM.mk _ hb3).cell x3;clear y0 y1 y2 y3 ly hb3 x3;obtain⟨y0,y1,y2,y3,ly⟩:=Bd HF3;go_wp2_with fail;refine Gk 8 zJ zJ ?_;simp only[DH,Ig,Abf,De];repeat still_step
  refine wpStill_nil ?_;go_wp2_with fail;refine (HFL.out _ (HI3.out.rd.later zA)).mono ?_;rintro r w5 ⟨rfl,hst5⟩;have HI5:=hid ((HI3.out.row (show Below w.heap.size w3 w3.drew by (repeat (first | with_reducible exact Aa2 _ _ | with_reducible assumption | (with_reducible refine Aw ?_ _) | (with_reducible refine Aa3 ?_ zE _) | (with_reducible refine Aa5 ?_) | (with_reducible refine Aa4 ?_ _) | (refine Aj zG ?_))))).step hst5);go_wp2_with fail;first | go_end0 | refine Ax (A4 rfl _ _ _) rfl ?_
  exact⟨rfl,HI5.out.to⟩
section
variable {w W W':World} {gr gc:Nat} {B:List UInt8} {a:Option Addr} {s s':Rs} {ep:Int} {vL vL' vM vM':Value} {l:List Batch} {M:List AP} {q q':Bool} {fi fi':Int} {T T':Nat}
theorem EI.Aco(h:EI w gr gc B a s ep vL l vM M q fi T W)(i:Nat)(u:Value)(hb:Blk (W.setCell ⟨gr,i,none⟩ u) gr 166 #[.pointer (some ⟨gc,0,none⟩),.int .u64 ep,vL,vM,.bool q',.int .i64 fi']):EI w gr gc B a s ep vL l vM M q' fi' T (W.setCell ⟨gr,i,none⟩ u):=by
 have h1:=h.gl;obtain⟨cells,hc⟩:=h.ownL;obtain⟨cells2,hc2⟩:=h.ownM;have hz:(W.setCell ⟨gr,i,none⟩ u).heap.size=W.heap.size:=zU;have hk:∀b,gr<b→(W.setCell ⟨gr,i,none⟩ u).heap[b]? =W.heap[b]? :=fun b e=>At _ _ _ _ zH;exact⟨h.inv.row (Aa3 (Aa2 _ _) zH _),hb,h1,⟨cells,hc.keep (fun b e=>hk b e.1) (fun b e=>hk b (h.lo.1 b e).1)⟩,⟨cells2,Kh hc2 fun b e=>hk b (h.lo.2 b e).1⟩,h.ne,h.lL,h.lM,h.t1,by rw[hz];exact h.t2⟩
theorem EI.Acn(h:EI w gr gc B a s ep vL l vM M q fi T W)(x:Int):EI w gr gc B a s ep vL l vM M q x T (W.setCell ⟨gr,5,none⟩ (.int .i64 x)):=h.Aco 5 _ (h.rb.set 5 _)
theorem EI.Acm(h:EI w gr gc B a s ep vL l vM M q fi T W)(x:Bool):EI w gr gc B a s ep vL l vM M x fi T (W.setCell ⟨gr,4,none⟩ (.bool x)):=h.Aco 4 _ (h.rb.set 4 _)
end
theorem Abm(W:World){w:World}{gr gc:Nat}{B:List UInt8}{a:Option Addr}{s:Rs}{ep:Int}{vL vM:Value}{l:List Batch}{M:List AP}{q:Bool}{fi:Int}{T:Nat}(h:EI w gr gc B a s ep vL l vM M q fi T W)(hB:B.length≤1000000000){t:Rs}{D:List UInt8}(hF:s.frame B 2097152=(t,D)):
  Calls Tryz.prog 194 #[.pointer (some ⟨gr,0,none⟩)] W fun r W'=>∃ap cp,r=.returned (.tuple #[.slice ap D.length cp,.int .i64 ((t.p:Int)-4-(D.length:Int))])∧Am.r (fun x=>W.heap.size≤x∧x<W'.heap.size) W' [.slice ap D.length cp] D∧EI w gr gc B a t ep vL l vM M q (s.p:Int) T W'∧W.heap.size≤W'.heap.size∧Tch (fun b=>b=gc∨b=gr) W W':=by
 have HI:=hid h;have hgc:gc<gr:=An h.inv.lt h.gl;have hp:=h.inv.rd.ok.le;have hdl:D.length≤B.length:=by
  have:=Rs.Kl (B:=B) (s:=s) (m:=2097152);rw[hF] at this;exact this
 have HAT:=hid (Cd W h.inv.rd);have HFR:=hid (fun (V:World) (hV:AS V gc B a s)=>(by have:=Tu V hV hB 2097152 zL;rw[hF] at this;exact this:Calls Tryz.prog 246 #[.pointer (some ⟨gc,0,none⟩),.int .i64 2097152] V fun r w'=>∃v,r=.returned v∧Am.r (fun q=>V.heap.size≤q∧q<w'.heap.size) w' [v] D∧AE V gc B a t w'));have HAT2:=hid (fun (V:World) (hV:AS V gc B a t)=>Cd V hV);obtain⟨y0,y1,y2,y3,y4,y5,ly⟩:=Aa6 h.rb;obtain⟨z0,z1,z2,z3,z4,z5⟩:=Abr h.rb;clear h hF;go_enter Tryz.func194,Tryz.ntmps194;go_wp2_with fail;refine HAT.out.mono ?_;rintro r w1 ⟨rfl,rfl⟩;go_upto_region 2 with (fail);have HI1:=hid (HI.out.Acn (s.p:Int));have hz1:(W.setCell ⟨gr,5,none⟩ (.int .i64 (s.p:Int))).heap.size=W.heap.size:=zU;have ht1:Tch (fun b=>b=gc∨b=gr) W (W.setCell ⟨gr,5,none⟩ (.int .i64 (s.p:Int))):=(Tch.refl _ _).setCell (fun _=> .inr rfl) _;have HT1:=hid ht1;clear ht1;generalize (W.setCell ⟨gr,5,none⟩ (.int .i64 (s.p:Int)))=w2 at*;clear y0 y1 y2 y3 y4 y5 ly z0 z1 z2 z3 z4 z5;obtain⟨y0,y1,y2,y3,y4,y5,ly⟩:=Aa6 HI1.out.rb;go_wp2_with fail;refine (HFR.out w2 HI1.out.inv.rd).mono ?_;rintro r w3 ⟨v3,rfl,hr3,hst3⟩;obtain⟨ap,cp,hfv,hr3',hDl⟩:=AH hr3;simp only[Av,AI] at hfv;subst hfv;have HI3:=hid (HI1.out.step hst3);have HR3:=hid hr3';have HTC:=hid (HT1.out.trans hst3.2 fun b _ e=> .inl e);have hz3:=hst3.2.size;have hp3:=hst3.1.ok.le;clear hr3 hr3' hst3 y0 y1 y2 y3 y4 y5 ly;obtain⟨y0,y1,y2,y3,y4,y5,ly⟩:=Aa6 HI3.out.rb;go_wp2_with fail;refine (HAT2.out w3 HI3.out.inv.rd).mono ?_;rintro r w4 ⟨rfl,rfl⟩;go_wp2_with fail;refine Ax (v:=.tuple #[.slice ap D.length cp,.int .i64 ((t.p:Int)-4-(D.length:Int))]) (by simp[results,Tryz.results194,go_sem]) rfl ?_;exact⟨ap,cp,rfl,Am.mono HR3.out fun x hx=>⟨zC,hx.2⟩,HI3.out,zC,HTC.out⟩
structure Acj(fn:Nat)(blk:List UInt8→Rs→Rs × List UInt8 × Bool):Prop where
 ent:∀(xs:Array Value) (W:World),(callFunc fn xs).run Tryz.prog W=.ok (.enter fn xs) W
 call:∀(W:World) (g:Nat) (P:List UInt8) (a:Option Addr) (s:Rs),P.length≤1000000000→AS W g P a s→Calls Tryz.prog fn #[.pointer (some ⟨g,0,none⟩)] W fun r w'=>∃v qv,r=.returned (.tuple #[.agg #[.int .u64 (Rs.batch P (blk P) s).2.1.epoch,.int .u64 (Rs.batch P (blk P) s).2.1.base,v],.bool qv])∧Br.r (Ie W w') w' [v] (Rs.batch P (blk P) s).2.1.entries∧((Rs.batch P (blk P) s).1.k=0→qv=(Rs.batch P (blk P) s).2.2)∧AE W g P a (Rs.batch P (blk P) s).1 w'
 f:Wc blk
theorem Abs{e b:Int}{n c:Nat}:∀u∈[(.int .u64 e:Value),.int .u64 b,.slice a n c],u.oneCell'=true:=by
 intro u hu;simp at hu;rcases hu with rfl | rfl | rfl<;>rfl
theorem AbD{u:Rs}{l:List Batch}{x:Batch}{fi:Nat}(h:(Oc u l ep x fi).k=0):Oc u l ep x fi=u∧u.k=0:=by
 unfold Oc at h ⊢;by_cases hku:u.k=0
 ·rw[Ag hku] at h ⊢
  by_cases hl:l.length=16
  ·rw[Ag hl] at h
   exact absurd h (Rs.BI zL)
  ·rw[Ai hl] at h ⊢
   by_cases hmay:EU ep (Ce l l.length) x=true
   ·rw[Ag hmay]
    exact⟨rfl,hku⟩
   ·rw[Ai hmay] at h
    exact absurd h (Rs.BI zL)
 ·rw[Ai hku] at h
  exact absurd h hku
set_option maxHeartbeats 12800000 in
theorem AbZ(W:World){gp:Nat}{P:List UInt8}{ap:Option Addr}{vL vM:Value}{l:List Batch}{M:List AP}{fi:Nat}{T:Nat}(h:EI w gr gc B a s ep vL l vM M q (fi:Int) T W)(hT:T≤gp)(hp:AS W gp P ap ⟨1,0,0⟩)(hPl:P.length≤1000000000)(at_:Int){fn:Nat}{blk:List UInt8→Rs→Rs × List UInt8 × Bool}(hR:Acj fn blk)(hfi:fi≤1000000000)(hll:l.length≤1000000)(hML:M.length≤1000000)(hlb:∀p∈l,p.base+p.entries.length≤18446744073709551615){t1:Rs}{x:Batch}{bq:Bool}(hb:Rs.batch P (blk P) ⟨1,0,0⟩=(t1,x,bq)){u:Rs}(hu:s.within (t1.fin P.length).k (t1.fin P.length).f at_=u):
  Calls Tryz.prog 196 #[.pointer (some ⟨gr,0,none⟩),.pointer (some ⟨gp,0,none⟩),.int .i64 at_,.func (Fn.func fn) #[] #[]] W fun r W'=>r=.returned (.tuple #[])∧(∃vL' vM' l' M' q' T',EI w gr gc B a (Oc u l ep x fi) ep vL' l' vM' M' q' (fi:Int) T' W'∧((Oc u l ep x fi).k=0→l'=l++[x]∧M'=M++[⟨x.base,x.entries.length,(fi:Int)⟩]∧q'=(q&&bq)))∧W.heap.size≤W'.heap.size:=by
 obtain⟨i0,hi,iz0,iz1,iz2⟩:=A5 Abt;obtain⟨j0,hj,hy0,hy1,hy2⟩:=A5 Ns;have hpk:=hp.ok;have HC:=hid (hR.call W gp P ap ⟨1,0,0⟩ hPl hp);have hxu:=YD hR.f (P:=P) (s:=⟨1,0,0⟩) hpk;rw[hb] at HC hxu;dsimp only at HC hxu;have HI:=hid h;have hgc:gc<gr:=An h.inv.lt h.gl;have hgp:=hp.blk.lt;have ht1:=h.t1;have ht2:=h.t2;have HRR:=hid hR;have HEN:=hid (fun (V:World) (hV:AS V gp P ap t1)=>SV V hV);have hq0:u.k=0→t1.k=0:=fun e=>(Ut (Oi (hu ▸ e))).1;have hbw:=XG hR.f (P:=P) (s:=⟨1,0,0⟩) hpk;rw[hb] at hbw;dsimp only at hbw;have HT1:Hid ((Rs.batch P (blk P) ⟨1,0,0⟩).1=t1∧(Rs.batch P (blk P) ⟨1,0,0⟩).2.2=bq):=hid (by rw[hb];exact⟨rfl,rfl⟩);generalize hte:t1.fin P.length=t2 at*;have HFT:=hid (fun (V:World) (hV:AS V gp P ap t2)=>H7 V hV);have HWI:=hid (fun (V:World) (hV:AS V gc B a s) (x0:V.cell? ⟨gr,0,none⟩=some (.pointer (some ⟨gc,0,none⟩)))=>(by have:=Abb V hV x0 t2.k t2.f at_;rw[hu] at this;exact this:Calls Tryz.prog 198 #[.pointer (some ⟨gr,0,none⟩),.agg #[.int .i64 t2.k,.int .i64 t2.f],.int .i64 at_] V fun r w'=>r=.returned (.tuple #[])∧AE V gc B a u w'));have HGD:=hid (fun (V:World) (hV:AS V gc B a u)=>AK V hV);obtain⟨sF,hsF⟩:∃sF,sF=Oc u l ep x fi:=⟨_,rfl⟩;rw[←hsF];unfold Oc at hsF;clear h hp hR hb hu hte hpk;go_enter Tryz.func196,Tryz.ntmps196;go_wp2_with fail;rw[HRR.out.ent];refine HC.out.mono ?_;rintro r w1 ⟨v,qv,rfl,hr1,hqv,hst1⟩;obtain⟨a1,c1,hfv,hr1',hel⟩:=AH hr1;simp only[Av,AI] at hfv;subst hfv;have hgp1:=hst1.1.blk.lt;have hz1:=hst1.2.size;have HI2:=hid ((HI.out.side hst1.2 (fun b e1 e2=>zC)).later (show Below w1.heap.size w1 (w1.alloc (.cells #[.int .u64 x.epoch,.int .u64 x.base,.slice a1 x.entries.length c1] 48)) by (repeat (first | with_reducible exact Aa2 _ _ | with_reducible assumption | (with_reducible refine Aw ?_ _) | (with_reducible refine Aa3 ?_ zE _) | (with_reducible refine Aa5 ?_) | (with_reducible refine Aa4 ?_ _) | (refine Aj zG ?_)))));have HP2:=hid (hst1.1.later (show Below w1.heap.size w1 (w1.alloc (.cells #[.int .u64 x.epoch,.int .u64 x.base,.slice a1 x.entries.length c1] 48)) by (repeat (first | with_reducible exact Aa2 _ _ | with_reducible assumption | (with_reducible refine Aw ?_ _) | (with_reducible refine Aa3 ?_ zE _) | (with_reducible refine Aa5 ?_) | (with_reducible refine Aa4 ?_ _) | (refine Aj zG ?_)))));have HB2:Hid (Blk (w1.alloc (.cells #[.int .u64 x.epoch,.int .u64 x.base,.slice a1 x.entries.length c1] 48)) w1.heap.size 48 #[.int .u64 x.epoch,.int .u64 x.base,.slice a1 x.entries.length c1]):=hid (Blk.new _ _ _);have HR2:=hid (Br.keep hr1' (w':=w1.alloc (.cells #[.int .u64 x.epoch,.int .u64 x.base,.slice a1 x.entries.length c1] 48)) fun b e=>AN _ _ b e.2);have HQV:=hid hqv;go_upto_region 1 with (fail);generalize (w1.alloc (.cells #[.int .u64 x.epoch,.int .u64 x.base,.slice a1 x.entries.length c1] 48))=w2 at*;generalize hgb:w1.heap.size=gb at*;have hgbw:w1.heap.size≤gb:=zC;have hgb1:gp<gb:=zC;have hgb2:W.heap.size≤gb:=zC;clear hr1 hr1' hst1 hqv HC HI hgb;go_wp2_with fail;refine (HEN.out _ HP2.out).mono ?_;rintro r w3 ⟨rfl,hst3⟩;have HI3:=hid (HI2.out.side hst3.2 (fun b e1 e2=>zC));have HB3:=hid (HB2.out.tch hst3.2 zC);have HR3:=hid (Br.keep HR2.out (w':=w3) fun b e=>hst3.2.block b (by have:=e.2;have:=HB2.out.lt;omega) zX);have HP3:=hid hst3.1;clear hst3 HI2 HB2 HR2 HP2 HEN;go_wp2_with fail;refine (HFT.out _ HP3.out).mono ?_;rintro r w4 ⟨rfl,hb4⟩;have HI4:=hid (HI3.out.later hb4);have HB4:=hid (HB3.out.later hb4);have HR4:=hid (Br.keep HR3.out (w':=w4) fun b e=>hb4.block b (by have:=e.2;have:=HB3.out.lt;omega));clear hb4 HI3 HB3 HR3 HP3 HFT;obtain⟨y0,y1,y2,y3,y4,y5,ly⟩:=Aa6 HI4.out.rb;go_wp2_with fail;refine (HWI.out _ HI4.out.inv.rd y0).mono ?_;rintro r w5 ⟨rfl,hst5⟩;have HI5:=hid (HI4.out.step hst5);have HB5:=hid (HB4.out.tch hst5.2 zC);have HR5:=hid (Br.keep HR4.out (w':=w5) fun b e=>hst5.2.block b (by have:=e.2;have:=HB4.out.lt;omega) zX);clear hst5 HI4 HB4 HR4 HWI y0 y1 y2 y3 y4 y5 ly;obtain⟨y0,y1,y2,y3,y4,y5,ly⟩:=Aa6 HI5.out.rb;obtain⟨cl,hcl⟩:=HI5.out.ownL;obtain⟨aL,cL,rfl⟩:=AV hcl.1;clear hcl;have hq1:sF.k=0→t1.k=0:=fun e=>hq0 (by rw[hsF] at e;exact (AbD (show (Oc u l ep x fi).k=0 from e)).2);have HQ1:=hid hq1;have HSF:=hid hsF;clear hq1 hsF;have hLB:∀V:World,(∃s',EI w gr gc B a s' ep (.slice aL l.length cL) l vM M q (fi:Int) T V)→DN.r (·<V.heap.size) V [.slice aL l.length cL] l:=fun V hV=>by
  obtain⟨s',hV⟩:=hV;obtain⟨c2,h2⟩:=hV.ownL;have ht2:=hV.t2;refine DN.mono h2.slice fun b e=> ?_;rcases e with e | e
  ·exact An e.2.1 ht2
  ·exact An (hV.lL b e) ht2
 have HLB:=hid hLB;clear hLB;go_upto_block 0 with (fail)
 go_cut [] from 23 to 63 (fun V=>Hid (EI w gr gc B a sF ep (.slice aL l.length cL) l vM M q (fi:Int) T V)∧Hid (Blk V gb 48 #[.int .u64 x.epoch,.int .u64 x.base,.slice a1 x.entries.length c1])∧Hid (Br.r (fun b=>W.heap.size≤b∧b<gb) V [.slice a1 x.entries.length c1] x.entries))
 case first=>
  by_cases hk:u.k=0
  ·have hsF:=HSF.out
   rw[Ag hk] at hsF;rw[Ad hk] at HGD;clear hk;go_wp2_with fail;refine (HGD.out _ HI5.out.inv.rd).mono ?_;rintro r w6 ⟨rfl,hb6⟩;have HI6:=hid (HI5.out.later hb6);have HB6:=hid (HB5.out.later hb6);have HR6:=hid (Br.keep HR5.out (w':=w6) fun b e=>hb6.block b (by have:=e.2;have:=HB5.out.lt;omega));clear hb6 HI5 HB5 HR5 HGD y0 y1 y2 y3 y4 y5 ly;obtain⟨y0,y1,y2,y3,y4,y5,ly⟩:=Aa6 HI6.out.rb;have HVL:=hid (show DN.r (·<w6.heap.size) w6 [.slice aL l.length cL] l from HLB.out w6 ⟨_,HI6.out⟩);have HSF:=hid hsF;clear hsF;have hsF:=HSF.out;by_cases h16:l.length=16
   ·rw[Ag h16] at hsF
    have d1:((l.length:Int)==(16:Int))=true:=by simp[h16]
    have HFL:=hid (fun (V:World) (hV:AS V gc B a u)=>(by have:=Bx V hV 2 (fi:Int) zL;rw[←hsF] at this;exact this:Calls Tryz.prog 124 #[.pointer (some ⟨gc,0,none⟩),.int .i64 2,.int .i64 (fi:Int)] V fun r w'=>r=.returned (.tuple #[])∧AE V gc B a sF w'));clear h16 hsF;go_wp2_with fail;refine Gk 8 zJ zJ ?_;simp only[DH,Ig,Abf,De];repeat still_step
    refine wpStill_nil ?_;go_wp2_with fail;refine (HFL.out _ (HI6.out.inv.rd.later zA)).mono ?_;rintro r w7 ⟨rfl,hst7⟩;have HI7:=hid ((HI6.out.later (show Below w6.heap.size w6 w6.drew by (repeat (first | with_reducible exact Aa2 _ _ | with_reducible assumption | (with_reducible refine Aw ?_ _) | (with_reducible refine Aa3 ?_ zE _) | (with_reducible refine Aa5 ?_) | (with_reducible refine Aa4 ?_ _) | (refine Aj zG ?_))))).step hst7);have HB7:=hid ((HB6.out.drew).tch hst7.2 zC);have HR7:=hid (Br.keep HR6.out (w':=w7) fun b e=>(hst7.2.block b zCh zX));go_wp2_with fail;go_meet
    case rel=>exact ⟨HI7,HB7,hid (Br.mono HR7.out fun b e=>⟨e.1,zV⟩)⟩
   ·rw[Ai h16] at hsF
    have d1:((l.length:Int)==(16:Int))=false:=by rw[BL];omega
    go_upto_region 6 with (fail);have Y1:=fun s:AM w6=>s.cell y1;have Y2:=fun s:AM w6=>s.cell y2;obtain⟨x0,x1,x2,lx⟩:=E5 HB6.out;have X0:=fun s:AM w6=>s.cell x0;have X1:=fun s:AM w6=>s.cell x1;have X2:=fun s:AM w6=>s.cell x2;have HFO:=hid (fun s:AM w6=>QS ep l x aL a1 _ cL x.entries.length c1 s.at_ (lift HVL.out s.below) hlb);clear h16 y1 y2 x0 x1 x2 lx;by_cases hm:EU ep (Ce l l.length) x=true
    ·rw[Ag hm] at hsF
     rw[hm] at HFO;clear hm;subst hsF;go_wp2_with fail;refine Az zJ zJ ?_;repeat (go_big_quiet_step (((go_at_call 144;exact CH (HFO.out _)))))
     refine AT ?_;rintro W7 ⟨⟨W7',hb7⟩,rfl⟩;have HI7:=hid (HI6.out.later hb7);have HB7:=hid (HB6.out.later hb7);have HR7:=hid (Br.keep HR6.out (w':=W7) fun b e=>hb7.block b (by have:=e.2;have:=HB6.out.lt;omega));go_wp2_with fail;go_meet
     case rel=>exact ⟨HI7,HB7,hid (Br.mono HR7.out fun b e=>⟨e.1,zV⟩)⟩
    ·rw[Ai hm] at hsF
     have hm':EU ep (Ce l l.length) x=false:=by simpa using hm
     rw[hm'] at HFO;have HFL:=hid (fun (V:World) (hV:AS V gc B a u)=>(by have:=Bx V hV 13 (fi:Int) zL;rw[←hsF] at this;exact this:Calls Tryz.prog 124 #[.pointer (some ⟨gc,0,none⟩),.int .i64 13,.int .i64 (fi:Int)] V fun r w'=>r=.returned (.tuple #[])∧AE V gc B a sF w'));clear hm hm' hsF;go_wp2_with fail;refine Az zJ zJ ?_;repeat (go_big_quiet_step (((go_at_call 144;exact CH (HFO.out _)))))
     refine AT ?_;rintro W7 ⟨⟨W7',hb7⟩,rfl⟩;replace HI6:=hid (HI6.out.later hb7);replace HR6:=hid (Br.keep HR6.out (w':=W7) fun b e=>hb7.block b (by have:=e.2;have:=HB6.out.lt;omega));replace HB6:=hid (HB6.out.later hb7);clear y0 y3 y4 y5 ly Y1 Y2 X0 X1 X2 HVL HFO;obtain⟨y0,y1,y2,y3,y4,y5,ly⟩:=Aa6 HI6.out.rb;generalize W7=w6 at*;go_wp2_with fail;refine Gk 8 zJ zJ ?_;simp only[DH,Ig,Abf,De];repeat still_step
     refine wpStill_nil ?_;go_wp2_with fail;refine (HFL.out _ (HI6.out.inv.rd.later zA)).mono ?_;rintro r w7 ⟨rfl,hst7⟩;have HI7:=hid ((HI6.out.later (show Below w6.heap.size w6 w6.drew by (repeat (first | with_reducible exact Aa2 _ _ | with_reducible assumption | (with_reducible refine Aw ?_ _) | (with_reducible refine Aa3 ?_ zE _) | (with_reducible refine Aa5 ?_) | (with_reducible refine Aa4 ?_ _) | (refine Aj zG ?_))))).step hst7);have HB7:=hid ((HB6.out.drew).tch hst7.2 zC);have HR7:=hid (Br.keep HR6.out (w':=w7) fun b e=>(hst7.2.block b zCh zX));go_wp2_with fail;go_meet
     case rel=>exact ⟨HI7,HB7,hid (Br.mono HR7.out fun b e=>⟨e.1,zV⟩)⟩
  ·have hsF:=HSF.out
   rw[Ai hk] at hsF;rw[Ae hk] at HGD;subst hsF;have HK:=hid hk;clear hk;go_wp2_with fail;refine (HGD.out _ HI5.out.inv.rd).mono ?_;rintro r w6 ⟨rfl,hb6⟩;have HI6:=hid (HI5.out.later hb6);have hz6:=hb6.size;have hz5:=HB5.out.lt;go_wp2_with fail;first | go_end0 | refine Ax (A4 rfl _ _ _) rfl ?_
   exact⟨rfl,⟨_,vM,l,M,q,T,HI6.out,fun e=>absurd e HK.out⟩,zC⟩
 case rest=>
  obtain⟨HI7,HB7,HR7⟩:=hcut;clear HI5 HB5 HR5 HGD HSF HLB y0 y1 y2 y3 y4 y5 ly;obtain⟨y0,y1,y2,y3,y4,y5,ly⟩:=Aa6 HI7.out.rb;obtain⟨z0,z1,z2,z3,z4,z5⟩:=Abr HI7.out.rb;have hne8:∀b,W.heap.size≤b→b≠gr:=fun b e=>by omega
  go_upto_region 8 with (fail);go_cut [] from 64 to 73 (fun V=>Hid (EI w gr gc B a sF ep (.slice aL l.length cL) l vM M (q&&qv) (fi:Int) T V)∧Hid (Blk V gb 48 #[.int .u64 x.epoch,.int .u64 x.base,.slice a1 x.entries.length c1])∧Hid (Br.r (fun b=>W.heap.size≤b∧b<gb) V [.slice a1 x.entries.length c1] x.entries))
  case first=>
   cases q
   ·go_wp2_with fail
    go_meet
    case rel=>exact ⟨hid (HI7.out.Acm false),hid (HB7.out.far zH _),hid (Br.keep HR7.out fun b e=>At _ _ _ _ zCb)⟩
   ·go_wp2_with fail
    go_meet
    case rel=>exact ⟨hid (HI7.out.Acm qv),hid (HB7.out.far zH _),hid (Br.keep HR7.out fun b e=>At _ _ _ _ zCb)⟩
  case rest=>
   obtain⟨HI8,HB8,HR8⟩:=hcut;clear HI7 HB7 HR7 y0 y1 y2 y3 y4 y5 ly z0 z1 z2 z3 z4 z5;have hq9:sF.k=0→(q&&qv)=(q&&bq):=fun e=>by rw[HQV.out (HQ1.out e)]
   have HQ9:=hid hq9;generalize (q&&qv)=q2 at*;have ht81:=HI8.out.t1;have ht82:=HI8.out.t2;have hloM:=hid HI8.out.lo.2;have HLT:=hid HI8.out.lo.1;obtain⟨cMs,hcM⟩:=HI8.out.ownM;obtain⟨aM,cM,rfl⟩:=AV hcM.1;have HCM:=hid hcM;have HOM:=hid (fun (W4:World) (h4:Below wc.heap.size wc W4)=>Bz hcM.1 h4);clear hcM hq9 HQV hq0 HT1 HQ1;obtain⟨y0,y1,y2,y3,y4,y5,ly⟩:=Aa6 HI8.out.rb;obtain⟨z0,z1,z2,z3,z4,z5⟩:=Abr HI8.out.rb;obtain⟨x0,x1,x2,lx⟩:=E5 HB8.out;have HMN:=hid (show G5 ⟨x.base,x.entries.length,(fi:Int)⟩ from ⟨hxu.2,zH,zH⟩);generalize hW8:wc=W8 at*;go_upto_region 9 with (fail);go_cut [] from 74 to 92 (fun V=>∃vM',Hid (EI w gr gc B a sF ep (.slice aL l.length cL) l vM' (M++[⟨x.base,x.entries.length,(fi:Int)⟩]) q2 (fi:Int) V.heap.size V)∧Hid (Blk V gb 48 #[.int .u64 x.epoch,.int .u64 x.base,.slice a1 x.entries.length c1])∧Hid (Br.r (fun b=>W.heap.size≤b∧b<gb) V [.slice a1 x.entries.length c1] x.entries)∧Hid (∀b,vM'.ownBlock=some b→b<T∨gb<b))
   case first=>
    refine BQ (fun w'=>w'.cell? ⟨gr,3,none⟩=some (.slice aM M.length cM)∧w'.cell? ⟨gr,5,none⟩=some (.int .i64 (fi:Int))∧w'.cell? ⟨gb,1,none⟩=some (.int .u64 x.base)∧w'.cell? ⟨gb,2,none⟩=some (.slice a1 x.entries.length c1)) _ zJ rfl zJ ⟨y3,y5,x1,x2⟩ (fun hHeld=> ?_);simp only[BD,FG];refine Aq (i:=0) (oi:=_) (v:=?_) rfl zF zF zF (fun _ _ _ h=>h) (Or.inl ⟨zR,?_⟩) zK ?_;rotate_left
    ·(intro w hSw;(try dsimp only at hSw);go_simp<;>with_reducible rfl)
    (try simp only[Act.put,Aa,Ab,Ac])
    (try simp only[Ak,Ah,Af,Act.put,Aa,Ab,Ac])
    refine Aq (i:=1) (oi:=_) (v:=?_) rfl zF zF zF (fun _ _ _ h=>h) (Or.inl ⟨zR,?_⟩) zK ?_;rotate_left
    ·(intro w hSw;(try dsimp only at hSw);go_simp<;>with_reducible rfl)
    (try simp only[Act.put,Aa,Ab,Ac])
    (try simp only[Ak,Ah,Af,Act.put,Aa,Ab,Ac])
    refine Aq (i:=2) (oi:=_) (v:=?_) rfl zF zF zF (fun _ _ _ h=>h) (Or.inl ⟨zR,?_⟩) zK ?_;rotate_left
    ·(intro w hSw;(try dsimp only at hSw);go_simp<;>with_reducible rfl)
    (try simp only[Act.put,Aa,Ab,Ac])
    (try simp only[Ak,Ah,Af,Act.put,Aa,Ab,Ac])
    refine Aq (i:=3) (oi:=_) (v:=?_) rfl zF zF zF (fun _ _ _ h=>h) (Or.inl ⟨zR,?_⟩) zK ?_;rotate_left
    ·(intro w hSw;(try dsimp only at hSw);go_simp<;>with_reducible rfl)
    (try simp only[Act.put,Aa,Ab,Ac])
    (try simp only[Ak,Ah,Af,Act.put,Aa,Ab,Ac])
    refine Aq (i:=4) (oi:=_) (v:=?_) rfl zF zF zF (fun _ _ _ h=>h) (Or.inl ⟨zR,?_⟩) zK ?_;rotate_left
    ·(intro w hSw;(try dsimp only at hSw);go_simp<;>with_reducible rfl)
    (try simp only[Act.put,Aa,Ab,Ac])
    (try simp only[Ak,Ah,Af,Act.put,Aa,Ab,Ac])
    refine Aq (i:=5) (oi:=_) (v:=?_) rfl zF zF zF (fun _ _ _ h=>h) (Or.inl ⟨zR,?_⟩) zK ?_;rotate_left
    ·(intro w hSw;(try dsimp only at hSw);go_simp<;>with_reducible rfl)
    (try simp only[Act.put,Aa,Ab,Ac])
    (try simp only[Ak,Ah,Af,Act.put,Aa,Ab,Ac])
    refine Aq (i:=6) (oi:=_) (v:=?_) rfl zF zF zF (fun _ _ _ h=>h) (Or.inl ⟨zR,?_⟩) zK ?_;rotate_left
    ·(intro w hSw;(try dsimp only at hSw);go_simp<;>with_reducible rfl)
    (try simp only[Act.put,Aa,Ab,Ac])
    (try simp only[Ak,Ah,Af,Act.put,Aa,Ab,Ac])
    refine Aq (i:=7) (oi:=_) (v:=?_) rfl zF zF zF (fun _ _ _ h=>h) (Or.inl ⟨zR,?_⟩) zK ?_;rotate_left
    ·(intro w hSw;(try dsimp only at hSw);go_simp<;>with_reducible rfl)
    (try simp only[Act.put,Aa,Ab,Ac])
    (try simp only[Ak,Ah,Af,Act.put,Aa,Ab,Ac])
    refine Aq (i:=8) (oi:=_) (v:=?_) rfl zF zF zF (fun _ _ _ h=>h) (Or.inl ⟨zR,?_⟩) zK ?_;rotate_left
    ·(intro w hSw;(try dsimp only at hSw);go_simp<;>with_reducible rfl)
    (try simp only[Act.put,Aa,Ab,Ac])
    (try simp only[Ak,Ah,Af,Act.put,Aa,Ab,Ac])
    refine Aq (i:=9) (oi:=_) (v:=?_) rfl zF zF zF (fun _ _ _ h=>h) (Or.inl ⟨zR,?_⟩) zK ?_;rotate_left
    ·(intro w hSw;(try dsimp only at hSw);go_simp<;>with_reducible rfl)
    (try simp only[Act.put,Aa,Ab,Ac])
    (try simp only[Ak,Ah,Af,Act.put,Aa,Ab,Ac])
    refine Aq (i:=10) (oi:=_) (v:=?_) rfl zF zF zF (fun _ _ _ h=>h) (Or.inl ⟨zR,?_⟩) zK ?_;rotate_left
    ·(intro w hSw;(try dsimp only at hSw);go_simp<;>with_reducible rfl)
    (try simp only[Act.put,Aa,Ab,Ac])
    (try simp only[Ak,Ah,Af,Act.put,Aa,Ab,Ac])
    refine Aq (i:=11) (oi:=_) (v:=?_) rfl zF zF zF (fun _ _ _ h=>h) (Or.inl ⟨zR,?_⟩) zK ?_;rotate_left
    ·(intro w hSw;(try dsimp only at hSw);go_simp<;>with_reducible rfl)
    (try simp only[Act.put,Aa,Ab,Ac])
    (try simp only[Ak,Ah,Af,Act.put,Aa,Ab,Ac])
    refine Aq (i:=12) (oi:=_) (v:=?_) rfl zF zF zF (fun _ _ _ h=>h) (Or.inl ⟨zR,?_⟩) zK ?_;rotate_left
    ·(intro w hSw;(try dsimp only at hSw);go_simp<;>with_reducible rfl)
    (try simp only[Act.put,Aa,Ab,Ac])
    (try simp only[Ak,Ah,Af,Act.put,Aa,Ab,Ac])
    refine Aq (i:=13) (oi:=_) (v:=?_) rfl zF zF zF (fun _ _ _ h=>h) (Or.inl ⟨zR,?_⟩) zK ?_;rotate_left
    ·(intro w hSw;(try dsimp only at hSw);go_simp<;>with_reducible rfl)
    (try simp only[Act.put,Aa,Ab,Ac])
    (try simp only[Ak,Ah,Af,Act.put,Aa,Ab,Ac])
    refine Aq (i:=14) (oi:=_) (v:=?_) rfl zF zF zF (fun _ _ _ h=>h) (Or.inl ⟨zR,?_⟩) zK ?_;rotate_left
    ·(intro w hSw;(try dsimp only at hSw);go_simp<;>with_reducible rfl)
    (try simp only[Act.put,Aa,Ab,Ac])
    (try simp only[Ak,Ah,Af,Act.put,Aa,Ab,Ac])
    refine Bk (rs:=[15]) zF zM ?_;refine Ba (o:=_) rfl (fun K hK=> ?_) Aa7;go_simp
    refine hK.out _ _ ?_ (fun hHeld=> ?_)
    ·((try dsimp only);refine⟨?_,?_,?_,?_⟩<;>(first | with_reducible assumption | (go_keep;done)))
    clear hK K
    (try simp only[Act.put,Aa,Ab,Ac])
    refine Bk (rs:=[16]) zF zM ?_;refine Ba (o:=_) rfl (fun K hK=> ?_) Aa7
    (refine CL zR _ _ _ zR (gr+1) 88 j0 (.agg #[.int .u64 0,.int .i64 0,.int .i64 0]) 3 24 Tryz.underlying79 hj hy0 hy1 hy2 rfl zL (.slice aM M.length cM) M.length cMs.flatten zR (HOM.out _ zB) (some ⟨W8.heap.size,0,none⟩) 1 1 [.int .u64 x.base,.int .i64 x.entries.length,.int .i64 (fi:Int)] zR (BU W8.drew 88 _ zR zM rfl) (by intro u hu;simp at hu;rcases hu with rfl | rfl | rfl<;>rfl) zO zC zI ?_;intro a8 c8 w8 hown8 hgrow8 hat8;have G:=fun b' (hb:b'<W8.heap.size) (hne:(Value.slice aM M.length cM).ownBlock≠some b')=>(hgrow8.block b' zI (fun e=>hne e.symm)).trans (AN W8.drew _ b' (by exact hb));have neb:(Value.slice aM M.length cM).ownBlock≠some gr:=fun e=>by {have:=(hloM.out _ e).1;omega};have nec:(Value.slice aM M.length cM).ownBlock≠some gb:=fun e=>by {have:=(hloM.out _ e).2;omega};have m1:=(Bq (a:=⟨gr,3,none⟩) (G gr ly neb)).trans y3;have m2:=(World.frozen?_of_block (a:=⟨gr,3,none⟩) (G gr ly neb)).trans z3;have m3:=(Bq (a:=⟨gr,5,none⟩) (G gr ly neb)).trans y5;have n1:=(Bq (a:=⟨gb,1,none⟩) (G gb lx nec)).trans x1;have n2:=(Bq (a:=⟨gb,2,none⟩) (G gb lx nec)).trans x2;have HB9:=hid (show Blk w8 gb 48 #[.int .u64 x.epoch,.int .u64 x.base,.slice a1 x.entries.length c1] from (G gb lx nec).trans HB8.out);have HR9:=hid (Br.keep HR8.out (w':=w8) fun b e=>G b zV (fun e2=>by {have:=(hloM.out _ e2).2;have:=e.1;omega}));have HA8:=hid (show ∀b,(Value.slice a8 (M.length+1) c8).ownBlock=some b→b<T∨gb<b from fun b e=>by {rcases hat8 with h | h;{rw [h] at e;exact .inl (hloM.out b e).2};{rw [h] at e;have:=AR e;simp at this;omega}});have HI9:=hid (EI.mark (HI8.out.later (show Below W8.heap.size W8 (W8.drew.alloc (.cells #[.int .u64 x.base,.int .i64 x.entries.length,.int .i64 (fi:Int)] 88)) by (repeat (first | with_reducible exact Aa2 _ _ | with_reducible assumption | (with_reducible refine Aw ?_ _) | (with_reducible refine Aa3 ?_ zE _) | (with_reducible refine Aa5 ?_) | (with_reducible refine Aa4 ?_ _) | (refine Aj zG ?_))))) (Kh HCM.out fun b e=>AN W8.drew _ b (by have:=(hloM.out b e).2;show b<W8.heap.size;omega)) HMN.out hown8 hgrow8 hat8);have ly8:gr<w8.heap.size:=HI9.out.t1;clear G hown8 hgrow8 hat8)
    refine hK.out _ _ ?_ (fun hHeld=> ?_)
    ·((try dsimp only);refine⟨?_,?_,?_,?_⟩<;>(first | with_reducible assumption | (go_keep;done)))
    clear hK K
    (try simp only[Act.put,Aa,Ab,Ac])
    refine Aq (i:=17) (oi:=_) (v:=?_) rfl zF zF zF (fun _ _ _ h=>h) (Or.inl ⟨zR,?_⟩) zK ?_;rotate_left
    ·(intro w hSw;(try dsimp only at hSw);go_simp<;>with_reducible rfl)
    (try simp only[Act.put,Aa,Ab,Ac])
    (try simp only[Ak,Ah,Af,Act.put,Aa,Ab,Ac])
    refine Aq (i:=18) (oi:=_) (v:=?_) rfl zF zF zF (fun _ _ _ h=>h) (Or.inl ⟨zR,?_⟩) zK ?_;rotate_left
    ·(intro w hSw;(try dsimp only at hSw);go_simp<;>with_reducible rfl)
    (try simp only[Act.put,Aa,Ab,Ac])
    (try simp only[Ak,Ah,Af,Act.put,Aa,Ab,Ac])
    refine Aq (i:=19) (oi:=_) (v:=?_) rfl zF zF zF (fun _ _ _ h=>h) (Or.inl ⟨zR,?_⟩) zK ?_;rotate_left
    ·(intro w hSw;(try dsimp only at hSw);go_simp<;>with_reducible rfl)
    (try simp only[Act.put,Aa,Ab,Ac])
    (try simp only[Ak,Ah,Af,Act.put,Aa,Ab,Ac])
    refine FP zJ ?_ _;show wpList _ _ _ _ _ _
    go_wp2_with fail;go_meet
    case rel=>
     refine⟨_,hid (HI9.out.up zU (As _)),hid (HB9.out.far zH _),hid (Br.keep HR9.out fun b e=>At _ _ _ _ zCb),HA8⟩
   case rest=>
    obtain⟨vM2,HI9,HB9,HR9,HA9⟩:=hcut;clear HI8 HB8 HR8 HCM HOM HMN y0 y1 y2 y3 y4 y5 ly z0 z1 z2 z3 z4 z5 x0 x1 x2 lx;generalize hW9:wc=W9 at*;have ht91:=HI9.out.t1;have hloL:=hid HI9.out.lo.1;obtain⟨cLs,hcL⟩:=HI9.out.ownL;have HCL:=hid hcL;have HOL:=hid (fun (W4:World) (h4:Below W9.heap.size W9 W4)=>Bz hcL.1 h4);clear hcL;obtain⟨y0,y1,y2,y3,y4,y5,ly⟩:=Aa6 HI9.out.rb;obtain⟨z0,z1,z2,z3,z4,z5⟩:=Abr HI9.out.rb;obtain⟨x0,x1,x2,lx⟩:=E5 HB9.out;have hgb9:gb<W9.heap.size:=HB9.out.lt;have HNE:=hid HI9.out.ne;have HXU:=hid hxu;go_upto_region 10 with (fail);refine BQ (fun w'=>w'.cell? ⟨gr,2,none⟩=some (.slice aL l.length cL)∧w'.cell? ⟨gb,0,none⟩=some (.int .u64 x.epoch)∧w'.cell? ⟨gb,1,none⟩=some (.int .u64 x.base)∧w'.cell? ⟨gb,2,none⟩=some (.slice a1 x.entries.length c1)) _ zJ rfl zJ ⟨y2,x0,x1,x2⟩ (fun hHeld=> ?_);simp only[BD,FG];refine Aq (i:=0) (oi:=_) (v:=?_) rfl zF zF zF (fun _ _ _ h=>h) (Or.inl ⟨zR,?_⟩) zK ?_;rotate_left
    ·(intro w hSw;(try dsimp only at hSw);go_simp<;>with_reducible rfl)
    (try simp only[Act.put,Aa,Ab,Ac])
    (try simp only[Ak,Ah,Af,Act.put,Aa,Ab,Ac])
    refine Aq (i:=1) (oi:=_) (v:=?_) rfl zF zF zF (fun _ _ _ h=>h) (Or.inl ⟨zR,?_⟩) zK ?_;rotate_left
    ·(intro w hSw;(try dsimp only at hSw);go_simp<;>with_reducible rfl)
    (try simp only[Act.put,Aa,Ab,Ac])
    (try simp only[Ak,Ah,Af,Act.put,Aa,Ab,Ac])
    refine Aq (i:=2) (oi:=_) (v:=?_) rfl zF zF zF (fun _ _ _ h=>h) (Or.inl ⟨zR,?_⟩) zK ?_;rotate_left
    ·(intro w hSw;(try dsimp only at hSw);go_simp<;>with_reducible rfl)
    (try simp only[Act.put,Aa,Ab,Ac])
    (try simp only[Ak,Ah,Af,Act.put,Aa,Ab,Ac])
    refine Aq (i:=3) (oi:=_) (v:=?_) rfl zF zF zF (fun _ _ _ h=>h) (Or.inl ⟨zR,?_⟩) zK ?_;rotate_left
    ·(intro w hSw;(try dsimp only at hSw);go_simp<;>with_reducible rfl)
    (try simp only[Act.put,Aa,Ab,Ac])
    (try simp only[Ak,Ah,Af,Act.put,Aa,Ab,Ac])
    refine Aq (i:=4) (oi:=_) (v:=?_) rfl zF zF zF (fun _ _ _ h=>h) (Or.inl ⟨zR,?_⟩) zK ?_;rotate_left
    ·(intro w hSw;(try dsimp only at hSw);go_simp<;>with_reducible rfl)
    (try simp only[Act.put,Aa,Ab,Ac])
    (try simp only[Ak,Ah,Af,Act.put,Aa,Ab,Ac])
    refine Aq (i:=5) (oi:=_) (v:=?_) rfl zF zF zF (fun _ _ _ h=>h) (Or.inl ⟨zR,?_⟩) zK ?_;rotate_left
    ·(intro w hSw;(try dsimp only at hSw);go_simp<;>with_reducible rfl)
    (try simp only[Act.put,Aa,Ab,Ac])
    (try simp only[Ak,Ah,Af,Act.put,Aa,Ab,Ac])
    refine Aq (i:=6) (oi:=_) (v:=?_) rfl zF zF zF (fun _ _ _ h=>h) (Or.inl ⟨zR,?_⟩) zK ?_;rotate_left
    ·(intro w hSw;(try dsimp only at hSw);go_simp<;>with_reducible rfl)
    (try simp only[Act.put,Aa,Ab,Ac])
    (try simp only[Ak,Ah,Af,Act.put,Aa,Ab,Ac])
    refine Bk (rs:=[7]) zF zM ?_;refine Ba (o:=_) rfl (fun K hK=> ?_) Aa7;go_simp
    refine hK.out _ _ ?_ (fun hHeld=> ?_)
    ·((try dsimp only);refine⟨?_,?_,?_,?_⟩<;>(first | with_reducible assumption | (go_keep;done)))
    clear hK K
    (try simp only[Act.put,Aa,Ab,Ac])
    refine Bk (rs:=[8]) zF zM ?_;refine Ba (o:=_) rfl (fun K hK=> ?_) Aa7
    (refine CL zR _ _ _ zR (gr+1) 48 i0 (.agg #[.int .u64 0,.int .u64 0,.slice none 0 0]) 3 40 Tryz.underlying61 hi iz0 iz1 iz2 rfl zL (.slice aL l.length cL) l.length cLs.flatten zR (HOL.out _ zB) (some ⟨W9.heap.size,0,none⟩) 1 1 [.int .u64 x.epoch,.int .u64 x.base,.slice a1 x.entries.length c1] zR (BU W9.drew 48 _ zR zM rfl) Abs zO zC zI ?_;intro a8 c8 w8 hown8 hgrow8 hat8;have G:=fun b' (hb:b'<W9.heap.size) (hne:(Value.slice aL l.length cL).ownBlock≠some b')=>(hgrow8.block b' zI (fun e=>hne e.symm)).trans (AN W9.drew _ b' (by exact hb));have neb:(Value.slice aL l.length cL).ownBlock≠some gr:=fun e=>by {have:=(hloL.out _ e).1;omega};have nec:(Value.slice aL l.length cL).ownBlock≠some gb:=fun e=>by {have:=(HLT.out _ e).2;omega};have m1:=(Bq (a:=⟨gr,2,none⟩) (G gr ly neb)).trans y2;have m2:=(World.frozen?_of_block (a:=⟨gr,2,none⟩) (G gr ly neb)).trans z2;have n0:=(Bq (a:=⟨gb,0,none⟩) (G gb lx nec)).trans x0;have n1:=(Bq (a:=⟨gb,1,none⟩) (G gb lx nec)).trans x1;have n2:=(Bq (a:=⟨gb,2,none⟩) (G gb lx nec)).trans x2;have HI10:=hid (EI.more (news:=[.int .u64 x.epoch,.int .u64 x.base,.slice a1 x.entries.length c1]) (x:=x) (HI9.out.later (show Below W9.heap.size W9 (W9.drew.alloc (.cells #[.int .u64 x.epoch,.int .u64 x.base,.slice a1 x.entries.length c1] 48)) by (repeat (first | with_reducible exact Aa2 _ _ | with_reducible assumption | (with_reducible refine Aw ?_ _) | (with_reducible refine Aa3 ?_ zE _) | (with_reducible refine Aa5 ?_) | (with_reducible refine Aa4 ?_ _) | (refine Aj zG ?_))))) ((HCL.out.keep (fun b e=>AN W9.drew _ b (by have:=e.2.1;exact this)) (fun b e=>AN W9.drew _ b (by have:=(hloL.out b e).2;exact this))).mono fun b e=>⟨e.1,by have:=e.2.1;simp;omega,e.2.2⟩) rfl (Gv.mono (XH HXU.out.1 HXU.out.2 (Br.keep HR9.out fun b e=>AN W9.drew _ b (by have:=e.2;show b<W9.heap.size;omega))) fun b e=>⟨⟨zX,by have:=e.2;simp;omega,fun e2=>by have:=HA9.out b e2;have:=e.1;have:=e.2;omega⟩,fun e2=>by have:=(HLT.out b e2).2;have:=e.1;omega⟩) hown8 hgrow8 hat8);have hs8:=hgrow8.size;have ly8:gr<w8.heap.size:=HI10.out.t1;have hgb8:gb<w8.heap.size:=Dn _ _ n0;have hW8:W.heap.size≤w8.heap.size:=zC;clear G hown8 hgrow8 hat8 hs8)
    refine hK.out _ _ ?_ (fun hHeld=> ?_)
    ·((try dsimp only);refine⟨?_,?_,?_,?_⟩<;>(first | with_reducible assumption | (go_keep;done)))
    clear hK K
    (try simp only[Act.put,Aa,Ab,Ac])
    refine Aq (i:=9) (oi:=_) (v:=?_) rfl zF zF zF (fun _ _ _ h=>h) (Or.inl ⟨zR,?_⟩) zK ?_;rotate_left
    ·(intro w hSw;(try dsimp only at hSw);go_simp<;>with_reducible rfl)
    (try simp only[Act.put,Aa,Ab,Ac])
    (try simp only[Ak,Ah,Af,Act.put,Aa,Ab,Ac])
    refine Aq (i:=10) (oi:=_) (v:=?_) rfl zF zF zF (fun _ _ _ h=>h) (Or.inl ⟨zR,?_⟩) zK ?_;rotate_left
    ·(intro w hSw;(try dsimp only at hSw);go_simp<;>with_reducible rfl)
    (try simp only[Act.put,Aa,Ab,Ac])
    (try simp only[Ak,Ah,Af,Act.put,Aa,Ab,Ac])
    refine Aq (i:=11) (oi:=_) (v:=?_) rfl zF zF zF (fun _ _ _ h=>h) (Or.inl ⟨zR,?_⟩) zK ?_;rotate_left
    ·(intro w hSw;(try dsimp only at hSw);go_simp<;>with_reducible rfl)
    (try simp only[Act.put,Aa,Ab,Ac])
    (try simp only[Ak,Ah,Af,Act.put,Aa,Ab,Ac])
    refine Aq (i:=12) (oi:=_) (v:=?_) rfl zF zF zF (fun _ _ _ h=>h) (Or.inl ⟨zR,?_⟩) zK ?_;rotate_left
    ·(intro w hSw;(try dsimp only at hSw);go_simp<;>with_reducible rfl)
    (try simp only[Act.put,Aa,Ab,Ac])
    (try simp only[Ak,Ah,Af,Act.put,Aa,Ab,Ac])
    refine FP zJ ?_ _;show wpList _ _ _ _ _ _
    go_wp2_with fail;first | go_end0 | refine Ax (A4 rfl _ _ _) rfl ?_
    refine⟨rfl,⟨_,vM2,_,_,q2,_,HI10.out,fun e=>⟨rfl,rfl,HQ9.out e⟩⟩,by simp[World.setCell];omega⟩
set_option maxHeartbeats 12800000 in
theorem AbY(W:World){w:World}{gr gc gp:Nat}{B P:List UInt8}{a ap:Option Addr}{ep:Int}{vL vM:Value}{l:List Batch}{M:List AP}{q:Bool}{fi:Nat}{T:Nat}(h:EI w gr gc B a s ep vL l vM M q (fi:Int) T W)(hT:T≤gp)(hp:AS W gp P ap ⟨1,0,0⟩)(hPl:P.length≤1000000000)(at_:Int)(hfi:fi≤1000000000){t1:Rs}{M1:List AP}(hb:(⟨1,0,0⟩:Rs).Cr P=(t1,M1)){u:Rs}(hu:s.within (t1.fin P.length).k (t1.fin P.length).f at_=u):
  Calls Tryz.prog 197 #[.pointer (some ⟨gr,0,none⟩),.pointer (some ⟨gp,0,none⟩),.int .i64 at_] W fun r W'=>r=.returned (.tuple #[])∧EI w gr gc B a (if u.k=0∧M1≠M then u.fail 12 fi else u) ep vL l vM M q (fi:Int) T W'∧W.heap.size≤W'.heap.size:=by
 have HC:=hid (Tp W hp hPl);rw[hb] at HC;dsimp only at HC;have HI:=hid h;have hgc:gc<gr:=An h.inv.lt h.gl;have hgp:=hp.blk.lt;have ht1:=h.t1;have ht2:=h.t2;have HEN:=hid (fun (V:World) (hV:AS V gp P ap t1)=>SV V hV);generalize hte:t1.fin P.length=t2 at*;have HFT:=hid (fun (V:World) (hV:AS V gp P ap t2)=>H7 V hV);have HWI:=hid (fun (V:World) (hV:AS V gc B a s) (x0:V.cell? ⟨gr,0,none⟩=some (.pointer (some ⟨gc,0,none⟩)))=>(by have:=Abb V hV x0 t2.k t2.f at_;rw[hu] at this;exact this:Calls Tryz.prog 198 #[.pointer (some ⟨gr,0,none⟩),.agg #[.int .i64 t2.k,.int .i64 t2.f],.int .i64 at_] V fun r w'=>r=.returned (.tuple #[])∧AE V gc B a u w'));have HGD:=hid (fun (V:World) (hV:AS V gc B a u)=>AK V hV);have HFL:=hid (fun (V:World) (hV:AS V gc B a u)=>Bx V hV 12 (fi:Int) zL);obtain⟨cMs,hcM⟩:=h.ownM;obtain⟨aM,cM,rfl⟩:=AV hcM.1;clear hcM;obtain⟨sF,hsF⟩:∃sF,sF=(if u.k=0∧M1≠M then u.fail 12 fi else u):=⟨_,rfl⟩;rw[←hsF];have hmr:∀V:World,(∃s',EI w gr gc B a s' ep vL l (.slice aM M.length cM) M q (fi:Int) T V)→Bw.r (·<V.heap.size) V [.slice aM M.length cM] M:=fun V hV=>by
  obtain⟨s',hV⟩:=hV;obtain⟨c2,h2⟩:=hV.ownM;exact Bw.mono (A8.slice (As _) ⟨c2,h2⟩) fun b e=>e.2
 have HMR:=hid hmr;clear h hp hb hu hte hmr;go_enter Tryz.func197,Tryz.ntmps197;go_wp2_with fail;refine HC.out.mono ?_;rintro r w1 ⟨v,rfl,hr1,hst1⟩;obtain⟨a1,c1,hfv,hr1',hel⟩:=AH hr1;simp only[Av,AI] at hfv;subst hfv;have hgp1:=hst1.1.blk.lt;have hz1:=hst1.2.size;have HI1:=hid (HI.out.side hst1.2 (fun b e1 e2=>zC));have HP1:=hid hst1.1;obtain⟨gb,hgb⟩:∃gb,gb=w1.heap.size:=⟨_,rfl⟩;have HR1:=hid (show Bw.r (fun b=>W.heap.size≤b∧b<gb) w1 [.slice a1 M1.length c1] M1 from by rw[hgb];exact hr1');have hgbl:gb≤w1.heap.size:=zC;clear hr1 hr1' hst1 HC HI hgb;go_wp2_with fail;refine (HEN.out _ HP1.out).mono ?_;rintro r w3 ⟨rfl,hst3⟩;have HI3:=hid (HI1.out.side hst3.2 (fun b e1 e2=>zC));have HR3:=hid (Bw.keep HR1.out (w':=w3) fun b e=>hst3.2.block b zV zX);have HP3:=hid hst3.1;have hg3:=hst3.2.size;clear hst3 HI1 HR1 HP1 HEN;go_wp2_with fail;refine (HFT.out _ HP3.out).mono ?_;rintro r w4 ⟨rfl,hb4⟩;have HI4:=hid (HI3.out.later hb4);have HR4:=hid (Bw.keep HR3.out (w':=w4) fun b e=>hb4.block b zV);have hg4:=hb4.size;clear hb4 HI3 HR3 HP3 HFT;obtain⟨y0,y1,y2,y3,y4,y5,ly⟩:=Aa6 HI4.out.rb;go_wp2_with fail;refine (HWI.out _ HI4.out.inv.rd y0).mono ?_;rintro r w5 ⟨rfl,hst5⟩;have HI5:=hid (HI4.out.step hst5);have HR5:=hid (Bw.keep HR4.out (w':=w5) fun b e=>hst5.2.block b zV zX);have hg5:=hst5.2.size;clear hst5 HI4 HR4 HWI y0 y1 y2 y3 y4 y5 ly;obtain⟨y0,y1,y2,y3,y4,y5,ly⟩:=Aa6 HI5.out.rb;by_cases hk:u.k=0
 ·rw[Ad hk] at HGD
  by_cases hM:M1=M
  ·rw[Ai (fun e=>e.2 hM)] at hsF
   subst hsF hM;have HSM:=hid (fun (V:World) (h1:Bw.r (·<V.heap.size) V [.slice a1 M1.length c1] M1) (h2:Bw.r (·<V.heap.size) V [.slice aM M1.length cM] M1)=>(by have:=To M1 M1 a1 aM _ c1 _ cM V h1 h2;rw[Ad rfl] at this;exact this:Calls Tryz.prog 264 #[.slice a1 M1.length c1,.slice aM M1.length cM] V fun r w'=>r=.returned (.bool true)∧Below V.heap.size V w'));clear hk;go_wp2_with fail;refine (HGD.out _ HI5.out.inv.rd).mono ?_;rintro r w6 ⟨rfl,hb6⟩;have HI6:=hid (HI5.out.later hb6);have HR6:=hid (Bw.mono (S':=(·<w6.heap.size)) (Bw.keep HR5.out (w':=w6) fun b e=>hb6.block b zV) fun b e=>by have:=e.2;have:=hb6.size;omega);have hg6:=hb6.size;clear hb6 HI5 HR5 HGD y0 y1 y2 y3 y4 y5 ly;obtain⟨y0,y1,y2,y3,y4,y5,ly⟩:=Aa6 HI6.out.rb;go_wp2_with fail;refine (HSM.out _ HR6.out (HMR.out _ ⟨_,HI6.out⟩)).mono ?_;rintro r w7 ⟨rfl,hb7⟩;have HI7:=hid (HI6.out.later hb7);have hg7:=hb7.size;clear hb7;go_wp2_with fail;first | go_end0 | refine Ax (A4 rfl _ _ _) rfl ?_
   exact⟨rfl,HI7.out,zC⟩
  ·rw[Ag ⟨hk,hM⟩] at hsF
   have HSM:=hid (fun (V:World) (h1:Bw.r (·<V.heap.size) V [.slice a1 M1.length c1] M1) (h2:Bw.r (·<V.heap.size) V [.slice aM M.length cM] M)=>(by have:=To M1 M a1 aM _ c1 _ cM V h1 h2;rw[Ae hM] at this;exact this:Calls Tryz.prog 264 #[.slice a1 M1.length c1,.slice aM M.length cM] V fun r w'=>r=.returned (.bool false)∧Below V.heap.size V w'));rw[←hsF] at HFL;clear hk hM hsF;go_wp2_with fail;refine (HGD.out _ HI5.out.inv.rd).mono ?_;rintro r w6 ⟨rfl,hb6⟩;have HI6:=hid (HI5.out.later hb6);have HR6:=hid (Bw.mono (S':=(·<w6.heap.size)) (Bw.keep HR5.out (w':=w6) fun b e=>hb6.block b zV) fun b e=>by have:=e.2;have:=hb6.size;omega);have hg6:=hb6.size;clear hb6 HI5 HR5 HGD y0 y1 y2 y3 y4 y5 ly;obtain⟨y0,y1,y2,y3,y4,y5,ly⟩:=Aa6 HI6.out.rb;go_wp2_with fail;refine (HSM.out _ HR6.out (HMR.out _ ⟨_,HI6.out⟩)).mono ?_;rintro r w7 ⟨rfl,hb7⟩;have HI7:=hid (HI6.out.later hb7);have hg7:=hb7.size;clear hb7 HI6 HR6 y0 y1 y2 y3 y4 y5 ly;obtain⟨y0,y1,y2,y3,y4,y5,ly⟩:=Aa6 HI7.out.rb;go_wp2_with fail;refine Gk 8 zJ zJ ?_;simp only[DH,Ig,Abf,De];repeat still_step
   refine wpStill_nil ?_;go_wp2_with fail;refine (HFL.out _ (HI7.out.inv.rd.later zA)).mono ?_;rintro r w8 ⟨rfl,hst8⟩;have HI8:=hid ((HI7.out.later (show Below w7.heap.size w7 w7.drew by (repeat (first | with_reducible exact Aa2 _ _ | with_reducible assumption | (with_reducible refine Aw ?_ _) | (with_reducible refine Aa3 ?_ zE _) | (with_reducible refine Aa5 ?_) | (with_reducible refine Aa4 ?_ _) | (refine Aj zG ?_))))).step hst8);have hg8:=hst8.2.size;have hg8':w7.heap.size≤w8.heap.size:=hg8;go_wp2_with fail;first | go_end0 | refine Ax (A4 rfl _ _ _) rfl ?_
   exact⟨rfl,HI8.out,zC⟩
 ·rw[Ae hk] at HGD
  rw[Ai (fun e=>hk e.1)] at hsF;subst hsF;clear hk;go_wp2_with fail;refine (HGD.out _ HI5.out.inv.rd).mono ?_;rintro r w6 ⟨rfl,hb6⟩;have HI6:=hid (HI5.out.later hb6);have hg6:=hb6.size;go_wp2_with fail;first | go_end0 | refine Ax (A4 rfl _ _ _) rfl ?_
  exact⟨rfl,HI6.out,zC⟩
theorem Aca:(⟨0,0,0⟩:Rs).byte []=(⟨0,1,0⟩,0):=rfl
theorem AbV{P:List UInt8}(h:P≠[]):(⟨0,0,0⟩:Rs).byte P=(⟨1,0,0⟩,P.headD 0):=by
 cases P with
 | nil=>exact absurd rfl h
 | cons x l=>
  have h1:¬((x::l).length:Int)-((0:Nat):Int)<1:=by simp only[Ay];omega
  unfold Rs.byte Rs.skip;dsimp only;rw[Ag rfl,Ai zL,Ai h1];rfl
def AbR(gc L:Nat)(W:World):Nat:=match W.cell? ⟨gc,2,none⟩,W.cell? ⟨gc,1,none⟩ with
 | some (.int _ k),some (.int _ p)=>if k=0 then L+1-p.toNat else 0
 | _,_=>0
theorem Abg{W:World}{L:Nat}(h:AS W gc B a s):AbR gc L W=if s.k=0 then L+1-s.p else 0:=by
 have h1:W.cell? ⟨gc,1,none⟩=some (.int .i64 (s.p:Int)):=h.blk.cell 1;have h2:W.cell? ⟨gc,2,none⟩=some (.int .i64 s.k):=h.blk.cell 2;unfold AbR;rw[h1,h2];simp
def Abn(B:List UInt8)(ep:Int)(blk:List UInt8→Rs→Rs × List UInt8 × Bool)(s:Rs):Rs × Nat × List Batch × List AP × Bool:=if s.k=0 then Dj B ep blk (B.length+1) s [] [] true else (s,0,[],[],true)
theorem Og.start{blk:List UInt8→Rs→Rs × List UInt8 × Bool}(hf:s.k=0→s.fit B.length):Og B ep blk (Abn B ep blk s) s [] [] true:=
 ⟨fun h=>⟨B.length+1,by unfold Abn;rw[Ag h],zC,hf h,Ar _,rfl,fun p hp=>absurd hp List.not_mem_nil⟩,fun h=>by unfold Abn;rw[Ai h]⟩
section
variable {B:List UInt8} {ep:Int} {blk:List UInt8→Rs→Rs × List UInt8 × Bool} {RES:Rs × Nat × List Batch × List AP × Bool} {s t:Rs} {l:List Batch} {M:List AP} {q:Bool} {P:List UInt8}
theorem Og.index(h:Og B ep blk RES s l M q)(hk:s.k=0)(hF:s.frame B 2097152=(t,P))(ht:t.k=0)(hP:P≠[])(h2:P.headD 0=2){t1 u:Rs}{M1:List AP}(hm:(⟨1,0,0⟩:Rs).Cr P=(t1,M1))(hu:t.within (t1.fin P.length).k (t1.fin P.length).f ((t.p:Int)-4-(P.length:Int))=u):RES=(if u.k=0∧M1≠M then u.fail 12 s.p else u,s.p,l,M,q):=by
 obtain⟨n,hr,hn,hf,_⟩:=h.go hk;obtain⟨m,rfl⟩:∃m,n=m+1:=⟨n-1,zC⟩;rw[DY B ep blk m s l M q hF,Ag ht,Ai hP,Ai (by rw[h2];decide),Ag h2] at hr;rw[←hr];dsimp only;rw[hm];dsimp only;rw[hu]
end
set_option maxHeartbeats 12800000 in
theorem Abx(W:World){s0:Rs}{fi0:Int}{T0:Nat}(h:EI w gr gc B a s0 ep (.slice none 0 0) [] (.slice none 0 0) [] true fi0 T0 W)(hB:B.length≤1000000000)(hf0:s0.k=0→s0.fit B.length){fn:Nat}{blk:List UInt8→Rs→Rs × List UInt8 × Bool}(hR:Acj fn blk){RES:Rs × Nat × List Batch × List AP × Bool}(hres:Abn B ep blk s0=RES):
  Calls Tryz.prog 125 #[.pointer (some ⟨gr,0,none⟩),.func (Fn.func fn) #[] #[]] W fun r W'=>r=.returned (.tuple #[])∧(∃vL l vM M q fi T,EI w gr gc B a RES.1 ep vL l vM M q fi T W'∧(RES.1.k=0→fi=(RES.2.1:Int)∧l=RES.2.2.1∧M=RES.2.2.2.1∧q=RES.2.2.2.2))∧W.heap.size≤W'.heap.size:=by
 have HI:=hid h;have HRR:=hid hR;have HRI:=hid (Og.start (ep:=ep) (blk:=blk) hf0);rw[hres] at HRI;clear h hR hres hf0;go_enter Tryz.func125,Tryz.ntmps125;go_wp2_with fail;go_loopw [4] (fun _ wr=>∃(s:Rs) (vL:Value) (l:List Batch) (vM:Value) (M:List AP) (q:Bool) (fi:Int) (T:Nat),EI w gr gc B a s ep vL l vM M q fi T wr∧Og B ep blk RES s l M q∧W.heap.size≤wr.heap.size) (fun _ wr=>AbR gc B.length wr)
 case atStart=>exact ⟨s0,_,_,_,_,_,fi0,T0,HI.out,HRI.out,As _⟩
 case round=>
  obtain⟨s,vL,l,vM,M,q,fi,T,hi,hri,hzw⟩:=hrel;clear HI HRI;have HI:=hid hi;have HRI:=hid hri;have HGD:=hid (fun (V:World) (hV:AS V gc B a s)=>AK V hV);obtain⟨y0,y1,y2,y3,y4,y5,ly⟩:=Aa6 hi.rb;have hmu:=Abg (L:=B.length) hi.inv.rd;have HMU:=hid hmu;clear hmu;by_cases hk:s.k=0
  ·rw[Ad hk] at HGD
   have HK:=hid hk;generalize hF:s.frame B 2097152=F at*;obtain⟨t,D⟩:=F;obtain⟨n,_,hn,hfit,h16,hM16,hlb⟩:=hri.go hk;have htf:=Rs.Ga hfit 2097152;rw[hF] at htf;dsimp only at htf;have hcan:=fun h0:t.k=0=>Rs.Jk hfit hF h0;have hsp:=hfit.ok.le;have HPA:=hid (fun (V:World) (hV:EI w gr gc B a s ep vL l vM M q fi T V)=>Abm V hV hB hF);have HGT:=hid (fun (V:World) (hV:AS V gc B a t)=>AK V hV);have HF:=hid hF;have HLB:=hid hlb;have HTF:=hid htf;clear hk hF hlb hi hri htf hfit;go_wp2_with fail;refine (HGD.out _ HI.out.inv.rd).mono ?_;rintro r w1 ⟨rfl,hb1⟩;have HI1:=hid (HI.out.later hb1);have hz1:=hb1.size;clear hb1 HI y0 y1 y2 y3 y4 y5 ly HGD;go_wp2_with fail;refine (HPA.out _ HI1.out).mono ?_;rintro r w2 ⟨ap,cp,rfl,hD2,hi2,hz2,_⟩;have HI2:=hid hi2;have HD2:=hid hD2;obtain⟨y0,y1,y2,y3,y4,y5,ly⟩:=Aa6 hi2.rb;clear hD2 hi2 HPA HI1;by_cases ht:t.k=0
   ·rw[Ad ht] at HGT
    obtain⟨c1,c2,c3,c4,c5⟩:=hcan ht;have hlow:=Km D;generalize hA:((t.p:Int)-4-(D.length:Int))=A at*;have hA1: -9000000≤A∧A≤1000000000:=zC;have HA:=hid hA;clear hA;have HT:=hid ht;clear hcan ht c1 c5;generalize (BJ D).length=fl at*;go_wp2_with fail;refine (HGT.out _ HI2.out.inv.rd).mono ?_;rintro r w3 ⟨rfl,hb3⟩;have HI3:=hid (HI2.out.later hb3);have HD3:=hid (show Am.r (·<w3.heap.size) w3 [.slice ap D.length cp] D from Am.mono (Am.keep HD2.out (w':=w3) fun b e=>hb3.block b e.2) fun b e=>by have:=e.2;have:=hb3.size;omega);have hz3:=hb3.size;have hdl:=(AL HD3.out).2.1;clear hb3 HI2 HD2 HGT y0 y1 y2 y3 y4 y5 ly;have HNW:=hid (Lo w3 D ap _ cp HD3.out);go_wp2_with fail;refine HNW.out.mono ?_;rintro r w4 ⟨rfl,hp4,hb4⟩;have HI4:=hid (HI3.out.later hb4);have HP4:=hid hp4;have hT4:=HI3.out.t2;have hz4:=hp4.blk.lt;clear hb4 hp4 HI3 HD3 HNW;obtain⟨gp,hgp⟩:∃gp,gp=w3.heap.size:=⟨_,rfl⟩;rw[←hgp] at hT4 HP4 hz4;generalize w3.heap.size=gq at*;subst hgp;have HBY:=hid (fun (V:World) (hV:AS V gp D ap ⟨0,0,0⟩)=>KG V hV);by_cases hD:D=[]
    ·subst hD
     rw[Aca] at HBY;dsimp only at HBY;have hA0:(t.p:Int)-4-((0:Nat):Int)=A:=HA.out;have HRB:=hid (by have h0:=HRI.out.none HK.out HF.out HT.out;rw[hA0] at h0;exact h0);clear hA0;have HBADP:=hid (show ((⟨0,1,0⟩:Rs).fail 7 0)=⟨0,1,0⟩ from rfl);have HWI:=hid (fun (V:World) (hV:AS V gc B a t) (x0:V.cell? ⟨gr,0,none⟩=some (.pointer (some ⟨gc,0,none⟩)))=>(by have:=Abb V hV x0 1 0 A;exact this));have hwt:t.within 1 0 A=t.fail 1 A:=by
      unfold Rs.within;rw[Ai zL];rw[show wrap64 (0+A)=A by simp only[wrap64];omega]
     rw[hwt] at HWI;clear hwt;have hne:(t.fail 1 A).k≠0:=Rs.BI zL;generalize (t.fail 1 A)=z at*;have HPB:=hid (fun (V:World) (hV:AS V gp [] ap ⟨0,1,0⟩)=>Bx V hV 7 0 zL);rw[HBADP.out] at HPB;have HPF:=hid (fun (V:World) (hV:AS V gp [] ap ⟨0,1,0⟩)=>H7 V hV);have HZ:=hid hne;clear hne HRI;go_wp2_with fail;refine (HBY.out _ HP4.out).mono ?_;rintro r w5 ⟨rfl,hst5⟩;have HP5:=hid hst5.1;have HI5:=hid (HI4.out.side hst5.2 (fun b e1 e2=>zC));have hz5:=hst5.2.size;clear hst5 HP4 HI4 HBY;go_wp2_with fail;refine (HPB.out _ HP5.out).mono ?_;rintro r w6 ⟨rfl,hst6⟩;have HP6:=hid hst6.1;have HI6:=hid (HI5.out.side hst6.2 (fun b e1 e2=>zC));have hz6:=hst6.2.size;clear hst6 HP5 HI5 HPB;go_wp2_with fail;refine (HPF.out _ HP6.out).mono ?_;rintro r w7 ⟨rfl,hb7⟩;have HI7:=hid (HI6.out.later hb7);have hz7:=hb7.size;clear hb7 HI6 HP6 HPF;obtain⟨y0,y1,y2,y3,y4,y5,ly⟩:=Aa6 HI7.out.rb;go_wp2_with fail;refine (HWI.out _ HI7.out.inv.rd y0).mono ?_;rintro r w8 ⟨rfl,hst8⟩;have HI8:=hid (HI7.out.step hst8);have hz8:=hst8.2.size;clear hst8 HI7 HWI y0 y1 y2 y3 y4 y5 ly;go_wp2_with fail;go_roundw
     case rel=>exact ⟨z,vL,l,vM,M,q,_,T,HI8.out,HRB.out,zC⟩
     case measure=>
      rw[Abg HI8.out.inv.rd,HMU.out,Ag HK.out,Ai HZ.out];omega
    ·rw[AbV hD] at HBY
     dsimp only at HBY;by_cases hd1:D.headD 0=1
     ·rw[hd1] at HBY
      obtain⟨tb,htb⟩:∃tb,tb=Rs.batch D (blk D) ⟨1,0,0⟩:=⟨_,rfl⟩;obtain⟨t1,x,bq⟩:=tb;obtain⟨u,hu⟩:∃u,t.within (t1.fin D.length).k (t1.fin D.length).f A=u:=⟨_,rfl⟩;have hu':t.within (t1.fin D.length).k (t1.fin D.length).f ((t.p:Int)-4-(D.length:Int))=u:=by rw[HA.out];exact hu
      have HBT:=hid (fun (V:World) (T':Nat) (hV:EI w gr gc B a t ep vL l vM M q (s.p:Int) T' V) (hT':T'≤gp) (hp:AS V gp D ap ⟨1,0,0⟩)=>AbZ V hV hT' hp zC A HRR.out zC zC zC HLB.out htb.symm hu);have HRB:=hid (HRI.out.batch HRR.out.f HK.out HF.out HT.out hD hd1 htb.symm hu');have hut:(Oc u l ep x s.p).k=0→(Oc u l ep x s.p).p=t.p:=fun e=>by
       obtain⟨e1,e2⟩:=AbD e;have e3:=Oi (hu ▸ e2);rw[e1,←hu,e3,Rs.DA]
      generalize Oc u l ep x s.p=z at*;clear htb hu hu' HRI hD hd1;go_wp2_with fail;refine (HBY.out _ HP4.out).mono ?_;rintro r w5 ⟨rfl,hst5⟩;have HP5:=hid hst5.1;have HI5:=hid (HI4.out.side hst5.2 (fun b e1 e2=>zC));have hz5:=hst5.2.size;clear hst5 HP4 HI4 HBY;go_wp2_with fail;refine (HBT.out _ _ HI5.out hT4 HP5.out).mono ?_;rintro r w6 ⟨rfl,⟨vL6,vM6,l6,M6,q6,T6,hi6,he6⟩,hz6⟩;have HI6:=hid hi6;clear HI5 HP5 HBT hi6;go_wp2_with fail;go_roundw
      case rel=>
       refine⟨z,vL6,l6,vM6,M6,q6,_,T6,HI6.out,?_,zC⟩;by_cases hz:z.k=0
       ·obtain⟨e1,e2,e3⟩:=he6 hz
        have:=HRB.out;rw[Ag hz,Ag hz,Ag hz] at this;rw[e1,e2,e3];exact this
       ·exact⟨fun e=>absurd e hz,HRB.out.stop⟩
      case measure=>
       rw[Abg HI6.out.inv.rd,HMU.out,Ag HK.out];split
       ·rename_i hz
        have:=hut hz;omega
       ·omega
     ·by_cases hd2:D.headD 0=2
      ·rw[hd2] at HBY
       obtain⟨tb,htb⟩:∃tb,tb=(⟨1,0,0⟩:Rs).Cr D:=⟨_,rfl⟩;obtain⟨t1,M1⟩:=tb;obtain⟨u,hu⟩:∃u,t.within (t1.fin D.length).k (t1.fin D.length).f A=u:=⟨_,rfl⟩;have hu':t.within (t1.fin D.length).k (t1.fin D.length).f ((t.p:Int)-4-(D.length:Int))=u:=by rw[HA.out];exact hu
       have HBT:=hid (fun (V:World) (T':Nat) (hV:EI w gr gc B a t ep vL l vM M q (s.p:Int) T' V) (hT':T'≤gp) (hp:AS V gp D ap ⟨1,0,0⟩)=>AbY V hV hT' hp zC A zC htb.symm hu);have HRB:=hid (HRI.out.index HK.out HF.out HT.out hD hd2 htb.symm hu');generalize (if u.k=0∧M1≠M then u.fail 12 (s.p:Int) else u)=z at*;clear htb hu hu' HRI hD hd1 hd2;go_wp2_with fail;refine (HBY.out _ HP4.out).mono ?_;rintro r w5 ⟨rfl,hst5⟩;have HP5:=hid hst5.1;have HI5:=hid (HI4.out.side hst5.2 (fun b e1 e2=>zC));have hz5:=hst5.2.size;clear hst5 HP4 HI4 HBY;go_wp2_with fail;refine (HBT.out _ _ HI5.out hT4 HP5.out).mono ?_;rintro r w6 ⟨rfl,hi6,hz6⟩;have HI6:=hid hi6;clear HI5 HP5 HBT hi6;go_wp2_with fail;first | go_end0 | refine Ax (A4 rfl _ _ _) rfl ?_
       rw[HRB.out];exact⟨rfl,⟨vL,l,vM,M,q,_,T,HI6.out,fun _=>⟨rfl,rfl,rfl,rfl⟩⟩,zC⟩
      ·have HRB:=hid (by have h0:=HRI.out.bad HK.out HF.out HT.out hD hd1 hd2;rw[HA.out] at h0;exact h0)
       have HBADP:=hid (show ((⟨1,0,0⟩:Rs).fail 7 0)=⟨1,7,0⟩ from rfl);have HWI:=hid (fun (V:World) (hV:AS V gc B a t) (x0:V.cell? ⟨gr,0,none⟩=some (.pointer (some ⟨gc,0,none⟩)))=>(by have:=Abb V hV x0 7 0 A;exact this));have hwt:t.within 7 0 A=t.fail 7 A:=by
        unfold Rs.within;rw[Ai zL];rw[show wrap64 (0+A)=A by simp only[wrap64];omega]
       rw[hwt] at HWI;clear hwt;have hne:(t.fail 7 A).k≠0:=Rs.BI zL;generalize (t.fail 7 A)=z at*;have HPB:=hid (fun (V:World) (hV:AS V gp D ap ⟨1,0,0⟩)=>Bx V hV 7 0 zL);rw[HBADP.out] at HPB;have HPF:=hid (fun (V:World) (hV:AS V gp D ap ⟨1,7,0⟩)=>H7 V hV);have d1:(((D.headD 0).toNat:Int)==(1:Int))=false:=by
        rw[BL];intro e;apply hd1;have:(D.headD 0).toNat=1:=zC;exact UInt8.toNat_inj.1 this
       have d2:(((D.headD 0).toNat:Int)==(2:Int))=false:=by
        rw[BL];intro e;apply hd2;have:(D.headD 0).toNat=2:=zC;exact UInt8.toNat_inj.1 this
       generalize ((D.headD 0).toNat:Int)=dh at*;clear hd1 hd2 hD;have HZ:=hid hne;clear hne HRI;go_wp2_with fail;refine (HBY.out _ HP4.out).mono ?_;rintro r w5 ⟨rfl,hst5⟩;have HP5:=hid hst5.1;have HI5:=hid (HI4.out.side hst5.2 (fun b e1 e2=>zC));have hz5:=hst5.2.size;clear hst5 HP4 HI4 HBY;go_wp2_with fail;refine (HPB.out _ HP5.out).mono ?_;rintro r w6 ⟨rfl,hst6⟩;have HP6:=hid hst6.1;have HI6:=hid (HI5.out.side hst6.2 (fun b e1 e2=>zC));have hz6:=hst6.2.size;clear hst6 HP5 HI5 HPB;go_wp2_with fail;refine (HPF.out _ HP6.out).mono ?_;rintro r w7 ⟨rfl,hb7⟩;have HI7:=hid (HI6.out.later hb7);have hz7:=hb7.size;clear hb7 HI6 HP6 HPF;obtain⟨y0,y1,y2,y3,y4,y5,ly⟩:=Aa6 HI7.out.rb;go_wp2_with fail;refine (HWI.out _ HI7.out.inv.rd y0).mono ?_;rintro r w8 ⟨rfl,hst8⟩;have HI8:=hid (HI7.out.step hst8);have hz8:=hst8.2.size;clear hst8 HI7 HWI y0 y1 y2 y3 y4 y5 ly;go_wp2_with fail;go_roundw
       case rel=>exact ⟨z,vL,l,vM,M,q,_,T,HI8.out,HRB.out,zC⟩
       case measure=>
        rw[Abg HI8.out.inv.rd,HMU.out,Ag HK.out,Ai HZ.out];omega
   ·have hst:=HRI.out.short HK.out HF.out ht
    rw[Ae ht] at HGT;have HST:=hid hst;clear hst hcan;have HT:=hid ht;clear ht;go_wp2_with fail;refine (HGT.out _ HI2.out.inv.rd).mono ?_;rintro r w3 ⟨rfl,hb3⟩;have HI3:=hid (HI2.out.later hb3);have hz3:=hb3.size;go_wp2_with fail;first | go_end0 | refine Ax (A4 rfl _ _ _) rfl ?_
    rw[HST.out];exact⟨rfl,⟨vL,l,vM,M,q,_,T,HI3.out,fun e=>absurd e HT.out⟩,zC⟩
  ·rw[Ae hk] at HGD
   have HST:=hid (hri.stop hk);have HK:=hid hk;clear hi hri hk;go_wp2_with fail;refine (HGD.out _ HI.out.inv.rd).mono ?_;rintro r w1 ⟨rfl,hb1⟩;have HI1:=hid (HI.out.later hb1);have hz1:=hb1.size;go_wp2_with fail;first | go_end0 | refine Ax (A4 rfl _ _ _) rfl ?_
   rw[HST.out];exact⟨rfl,⟨vL,l,vM,M,q,fi,T,HI1.out,fun e=>absurd e HK.out⟩,zC⟩
end Go.Proofs.YtfddhafbhceoaaaGreat
