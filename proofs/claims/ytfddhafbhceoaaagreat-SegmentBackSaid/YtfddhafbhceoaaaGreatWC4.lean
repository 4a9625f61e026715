/- Mini: Needed by segmentOnce_walk, part 4: texts put together by shake.py; no condition. -/
import Derived.Test.YtfddhafbhceoaaaGreatWC2
import Derived.Test.YtfddhafbhceoaaaGreatWC3
import Derived.ScopeJumps
import Derived.WalkMore
import Derived.Test.YtfddhafbhceoaaaGreatWC1
import Derived.Deep.Cut
set_option linter.unusedVariables false
set_option linter.unusedSimpArgs false
set_option maxRecDepth 100000
set_option maxHeartbeats 6400000
namespace Go.Bs
theorem zBx{p:Prop}(h:p:=by have := Rs.EJ (B := B) (s := s) (m := m); omega):p:=h
theorem zBi{p:Prop}(h:p:=by simp [results, Tryz.results58, go_sem, y0, y1, y2, y3, l1]):p:=h
theorem zBh{p:Prop}(h:p:=by have := HBP.out HK.out; omega):p:=h
theorem zBg{p:Prop}(h:p:=by have := Rs.EJ (B := B) (s := s) (m := (n : Int)); omega):p:=h
theorem zBe{p:Prop}(h:p:=by simp [results, Tryz.results102, go_sem, y0, y1, y2, y3, l1]):p:=h
theorem zA3{p:Prop}(h:p:=by first | trivial | rfl):p:=h
theorem zA2{p:Prop}(h:p:=by simp [World.setCell]; exact hq.2):p:=h
theorem zAc{p:Prop}(h:p:=by rw [List.drop_eq_nil_of_le (by simp; omega)]; rfl):p:=h
theorem Z0{p:Prop}(h:p:=by rw [U5 (by rw [hn1.out]; omega), HTK.out m (by omega)]):p:=h
theorem ZZ{p:Prop}(h:p:=by simp [results, Tryz.results103, go_sem, y0, y1, y2, y3, l1]):p:=h
theorem ZY{p:Prop}(h:p:=by simp [results, Tryz.results137, go_sem, y0, y1, y2, y3, l1]):p:=h
theorem ZH{p:Prop}(h:p:=by have := hq.1; simp at this; omega):p:=h
theorem zV{p:Prop}(h:p:=by simp [results, Tryz.results167, go_sem, y0, y1, l1]):p:=h
theorem zG{p:Prop}(h:p:=by with_reducible assumption):p:=h
abbrev Vo(h:Array Value:=by exact #[.slice a B.length c,.int .i64 ((s.p:Int)+((u:Int)-1)+1),.int .i64 k,.int .i64 ((s.p:Int)+((u:Int)-1))]):=h
theorem Br:type_of% @beq_eq_false_iff_ne:=@beq_eq_false_iff_ne
theorem DF:type_of% @Nat.pow_le_pow_right:=@Nat.pow_le_pow_right
theorem EL:type_of% @Nat.pow_succ:=@Nat.pow_succ
end Go.Bs
namespace Go.Proofs.YtfddhafbhceoaaaGreat
open Go.RowKit Go.Bs Go.Maps
variable{bound m:Int}{B b l:List UInt8}{L X base c g i n:Nat}{a:Option Addr}{s:Rs}
theorem LF(w:World)(a:Option Addr)(c:Nat)(B:List UInt8)(hl:Ag.r (·<w.heap.size) w [.slice a B.length c] B)(s:Rs)(hs:s.ok B.length)(n:Int)(hn:n≤9223372036854775807)(hB:B.length≤1000000000000):
  Calls Tryz.prog 137 #[CV a B.length c s,.int .i64 n] w fun r w'=>∃v,r=.returned (.tuple #[CV a B.length c (s.take B n).1,v])∧Ag.r (fun q=>w.heap.size≤q∧q<w'.heap.size) w' [v] (s.take B n).2∧Below w.heap.size w w':=by
 obtain⟨i0,hi,hz0,hz1,hz2⟩:=A1 Eu;unfold Rs.take;have hle:=hs.le;by_cases h0:s.k=0
 ·have d0:(s.k !=(0:Int))=false:=by simp[h0]
  have hF:=hid (fun (W:World) (k f:Int) (hk:k≠0)=>GH W a B.length c s k f hk);by_cases h1:n<0
  ·have e:s.skip B.length n=(false,s.fail 17 s.p):=by unfold Rs.skip Rs.fail;rw[Ai h0,Ai h1,Ai h0]
   have d1:decide (n<(0:Int))=true:=Ad h1;rw[e];generalize hs1:s.fail 17 s.p=s1;have HF:=hid (fun (W:World)=>hF.out W 17 s.p zD);rw[hs1] at HF;clear hl hs h0 e hF;unfold CV at*;go_enter Tryz.func137,Tryz.ntmps137;go_wp2_with fail;refine (HF.out _).mono ?_;rintro r w1 ⟨rfl,hb⟩;have B1:Blk w1 (w.heap.size+1) 91 #[.slice none 0 0,.int .i64 0,.int .i64 0,.int .i64 0]:=Blk.later zC hb;obtain⟨y0,y1,y2,y3,g0,g1,g2,g3,l1⟩:=CX B1;have hbw:Below w.heap.size w w1:=zA;clear B1 hb;go_wp2;refine An (v:=.tuple #[.agg #[.slice a B.length c,.int .i64 (s1.p:Int),.int .i64 s1.k,.int .i64 s1.f],.slice none 0 0]) ZY rfl ⟨_,rfl,Bl rfl rfl zD,zA⟩
  ·have d1:decide (n<(0:Int))=false:=Ae h1
   by_cases h2:(B.length:Int)-s.p<n
   ·have e:s.skip B.length n=(false,s.fail 1 B.length):=by unfold Rs.skip Rs.fail;rw[Ai h0,Ah h1,Ai h2,Ai h0]
    have d2:decide ((B.length:Int)-(s.p:Int)<n)=true:=Ad h2;rw[e];generalize hs1:s.fail 1 B.length=s1;have HF:=hid (fun (W:World)=>hF.out W 1 B.length zD);rw[hs1] at HF;clear hl hs h0 e hF;unfold CV at*;go_enter Tryz.func137,Tryz.ntmps137;go_wp2_with fail;refine (HF.out _).mono ?_;rintro r w1 ⟨rfl,hb⟩;have B1:Blk w1 (w.heap.size+1) 91 #[.slice none 0 0,.int .i64 0,.int .i64 0,.int .i64 0]:=Blk.later zC hb;obtain⟨y0,y1,y2,y3,g0,g1,g2,g3,l1⟩:=CX B1;have hbw:Below w.heap.size w w1:=zA;clear B1 hb;go_wp2;refine An (v:=.tuple #[.agg #[.slice a B.length c,.int .i64 (s1.p:Int),.int .i64 s1.k,.int .i64 s1.f],.slice none 0 0]) ZY rfl ⟨_,rfl,Bl rfl rfl zD,zA⟩
   ·have e:s.skip B.length n=(true,⟨s.p+n.toNat,0,0⟩):=by unfold Rs.skip;rw[Ai h0,Ah h1,Ah h2]
    have d2:decide ((B.length:Int)-(s.p:Int)<n)=false:=Ae h2;have hz:=hs.zero h0;rw[e];obtain⟨m,rfl⟩:∃m:Nat,n=m:=⟨n.toNat,zD⟩;rw[show ((m:Int)).toNat=m by omega];have hp:s.p+m≤B.length:=zD;simp only[Fs];obtain⟨aD,cD,hsl,hsub⟩:=Kg hl (lo:=s.p) (hi:=s.p+m) zD hp;have hlD:((B.drop s.p).take (s.p+m-s.p)).length=m:=zI;rw[show s.p+m-s.p=m by omega] at hsl hsub hlD;rw[show ((s.p+m:Nat):Int)=(s.p:Int)+(m:Int) by omega] at hsl;generalize (B.drop s.p).take m=D at*;have hDm:m=D.length:=hlD.symm;have HSB:=hid (fun (W:World) (hW:Below w.heap.size w W)=>BH (l:=D) (lift (w:=w) (A:=Ag) (cs:=[.slice aD D.length cD]) (by rw[←hDm];exact hsub) hW));have HONE:=hid (A7 D);have HDM:=hid hDm;have H0:=hid h0;have HZ:=hid hz;clear hl hs h0 hz e hsub hlD hDm;unfold CV;go_enter Tryz.func137,Tryz.ntmps137;go_wp2_with (at_builtin;go_loud (refine AA rfl _ _ _ rfl (w.heap.size+2) 5 i0 (.int .u8 0) 1 1 AG hi hz0 hz1 hz2 rfl zO (.slice none 0 0) 0 [] rfl ⟨rfl,.inl ⟨rfl,rfl⟩⟩ aD m cD (byteCells D) rfl zS HONE.out zN zD zE ?_;intro v' w2 hown2 hgrow2 hat2;rw[Bj,A8] at hown2;obtain⟨a2,c2,rfl⟩:=AX hown2;have k2:=Below.grown (Below.refl _ _) hgrow2 (Ap _) (fun g e=>by cases e);have B0:Blk w2 w.heap.size 91 #[.slice a B.length c,.int .i64 (s.p:Int),.int .i64 s.k,.int .i64 s.f]:=Blk.later zC k2;have B1:Blk w2 (w.heap.size+1) 91 #[.slice none 0 0,.int .i64 0,.int .i64 0,.int .i64 0]:=Blk.later zC k2;obtain⟨x0,x1,x2,x3,e0,e1,e2,e3,l0⟩:=CX B0;obtain⟨y0,y1,y2,y3,g0,g1,g2,g3,l1⟩:=CX B1;have hbw:Below w.heap.size w w2:=by {(repeat (first | with_reducible exact Below.refl _ _ | with_reducible assumption | (with_reducible refine Au ?_ _) | (with_reducible refine Below.setCell ?_ (by first | omega | (simp;done) | (simp;omega)) _) | (with_reducible refine Below.drew ?_) | (with_reducible refine below_drewN ?_ _) | (refine Af (by with_reducible assumption) ?_)))};have HO:=hid hown2;clear hown2 hgrow2 hat2 B0 B1 k2))
    have hA:=Cg HDM.out HO.out;have HA:=hid hA;clear hA;refine An (v:=.tuple #[.agg #[.slice a B.length c,.int .i64 ((s.p:Int)+(m:Int)),.int .i64 s.k,.int .i64 s.f],.slice a2 m c2]) ZY rfl ⟨_,by rw[H0.out,HZ.out],?_,zA⟩;refine Ag.mono (Ag.keep HA.out fun q hq=> ?_) fun q hq=>⟨zD,zA2⟩;repeat (rw[Aw _ _ _ _ zH])
 ·have d0:(s.k !=(0:Int))=true:=by simp[h0]
  have e:s.skip B.length n=(false,s):=by unfold Rs.skip;rw[Ah h0]
  rw[e];clear hl hs h0 e;unfold CV;go_enter Tryz.func137,Tryz.ntmps137;go_wp2;refine An (v:=.tuple #[.agg #[.slice a B.length c,.int .i64 (s.p:Int),.int .i64 s.k,.int .i64 s.f],.slice none 0 0]) (by simp[results,Tryz.results137,go_sem]) rfl ⟨_,rfl,Bl rfl rfl zD,zA⟩
def CY:Nat→Nat→List UInt8→Nat × Nat × Int
 | i,x,[]=>(0,i,1)
 | i,x,c::l=>
  if i=9∧1<c.toNat then (0,i+1,5)
  else if 0<i∧c.toNat=0 then (0,i+1,4)
  else if c.toNat<128 then (x+c.toNat*128^i,i+1,0)
  else CY (i+1) (x+c.toNat%128*128^i) l
def Rs.num(B:List UInt8)(s:Rs):Rs × Nat:=
 if s.k=0 then
  let r:=CY 0 0 (B.drop s.p)
  (⟨s.p+r.2.1,r.2.2,if r.2.2=0 then 0 else if r.2.2=1 then B.length else s.p+r.2.1-1⟩,r.1)
 else (s,0)
theorem Fv:∀(l:List UInt8) (i x:Nat),(CY i x l).2.1≤i+l.length∧i≤(CY i x l).2.1∧((CY i x l).2.2=0∨(CY i x l).2.2=1∨(CY i x l).2.2=4∨(CY i x l).2.2=5)∧((CY i x l).2.2=1→(CY i x l).2.1=i+l.length)∧((CY i x l).2.2≠1→i<(CY i x l).2.1)
 | [],i,x=>by simp[CY]
 | c::l,i,x=>by
  unfold CY;split
  ·simp
  ·split
   ·simp
   ·split
    ·simp
    ·have:=Fv l (i+1) (x+c.toNat%128*128^i)
     refine⟨zI,zD,this.2.2.1,fun h=>by have:=this.2.2.2.1 h;simp;omega,fun h=>by have:=this.2.2.2.2 h;omega⟩
theorem Rs.Cn(h:s.ok B.length):(s.num B).1.ok B.length:=by
 unfold Rs.num;split
 ·have:=Fv (B.drop s.p) 0 0
  have hl:(B.drop s.p).length=B.length-s.p:=zQ;refine⟨by dsimp only;have:=h.le;omega,fun e=>by dsimp only at e ⊢;rw[Ai e]⟩
 ·exact h
theorem Rs.Tf:s.p≤(s.num B).1.p:=by
 unfold Rs.num;split
 ·dsimp only;omega
 ·exact Ap _
theorem Rs.NO(h:(s.num B).1.k≠0):(s.num B).2=0:=by
 have key:∀(l:List UInt8) (i x:Nat),(CY i x l).2.2≠0→(CY i x l).1=0:=by
  intro l;induction l with
  | nil=>intro i x h;rfl
  | cons c l ih=>
   intro i x h;unfold CY at h ⊢;split
   ·rfl
   ·rename_i h1
    rw[Ah h1] at h;split
    ·rfl
    ·rename_i h2
     rw[Ah h2] at h;split
     ·rename_i h3
      rw[Ai h3] at h;simp at h
     ·rename_i h3
      rw[Ah h3] at h;exact ih _ _ h
 unfold Rs.num at*;split
 ·rename_i h0
  rw[Ai h0] at h;exact key _ _ _ h
 ·rfl
theorem II:∀(l:List UInt8) (i x:Nat),i≤9→x<128^i→(CY i x l).1<18446744073709551616
 | [],i,x,_,_=>by simp[CY]
 | c::l,i,x,hi,hx=>by
  unfold CY;have hc:=c.toNat_lt;split
  ·simp
  ·rename_i h9
   split
   ·simp
   ·split
    ·rename_i h3
     dsimp only;by_cases h:i=9
     ·subst h
      have:c.toNat≤1:=zD;have h1:c.toNat*128^9≤1*128^9:=BG _ this;have h2:(128:Nat)^9=9223372036854775808:=zO;rw[h2] at*;omega
     ·have h1:c.toNat*128^i≤127*128^i:=BG _ zD
      have h2:(128:Nat)^i≤128^8:=DF zD zD;have h3:(128:Nat)^8=72057594037927936:=zO;rw[h3] at h2;omega
    ·rename_i h3
     have h9':i≠9:=fun e=>h9 ⟨e,zD⟩;refine II l (i+1) _ zD ?_;have h1:c.toNat%128*128^i≤127*128^i:=BG _ zD;rw[EL];omega
theorem Rs.D5:(s.num B).2<18446744073709551616:=by
 unfold Rs.num;split
 ·exact II _ 0 0 zD zQ
 ·simp
end Go.Proofs.YtfddhafbhceoaaaGreat
namespace Go.Bs
open Go.RowKit
def MZ(J:Nat→Act→World→Prop)(Q:Exit→Act→World→Prop):Exit→Act→World→Prop
 | .goto l,a,w=>J l a w
 | e,a,w=>Q e a w
section
variable {P:Program} {a:Act} {w:World} {Q:Exit→Act→World→Prop}
theorem Mv{c:Code}(J:Nat→Act→World→Prop)(μ:Nat→Act→World→Nat)
 (pass:∀l a w,J l a w→∃rest,findLabel c l=some rest∧rest.wp P (MZ (fun l' a' w'=>J l' a' w'∧μ l' a' w'<μ l a w) Q) a w)
 (first:c.wp P (MZ J Q) a w):(Code.scope c).wp P Q a w:=by
 intro b k cs;have hg:∀{l rest},findLabel c l=some rest→gotoIn l (.inScope c::k)=some (.code rest:: .inScope c::k):=fun hf=>by simp[gotoIn,hf]
 have key:∀n l a w rest,findLabel c l=some rest→μ l a w=n→J l a w→∃e a' w',Q e a' w'∧Arrives P (lone (b.at a (.code rest:: .inScope c::k)) cs w) b k cs e a' w':=by
  intro n;induction n using Nat.strongRecOn with
  | _ n ih=>
   intro l a w rest hf hn hJ;obtain⟨rest',hf',hp⟩:=pass l a w hJ;obtain rfl:rest'=rest:=A5 (hf'.symm.trans hf);obtain⟨e,a₁,w₁,hq,harr⟩:=hp b (.inScope c::k) cs;cases e with
   | normal=>exact ⟨.normal,a₁,w₁,hq,Steps.trans harr (.one step_inScope)⟩
   | exit id=>exact ⟨.exit id,a₁,w₁,hq,fun k' hk=>harr k' (by simp[exitTo,hk])⟩
   | goto l'=>
    obtain⟨hJ',hlt⟩:=hq;obtain⟨rest2,hf2,_⟩:=pass l' a₁ w₁ hJ';obtain⟨e₂,a₂,w₂,hq₂,harr₂⟩:=ih _ zD l' a₁ w₁ rest2 hf2 rfl hJ';exact⟨e₂,a₂,w₂,hq₂,.of_steps (harr _ (hg hf2)) harr₂⟩
   | ret=>exact ⟨_,a₁,w₁,hq,harr⟩
   | panic ch=>exact ⟨_,a₁,w₁,hq,harr⟩
   | outgrown=>exact ⟨_,a₁,w₁,hq,harr⟩
 obtain⟨e,a₁,w₁,hq,harr⟩:=first b (.inScope c::k) cs
 cases e with
 | normal=>exact ⟨.normal,a₁,w₁,hq,.head step_scope (Steps.trans harr (.one step_inScope))⟩
 | exit id=>exact ⟨.exit id,a₁,w₁,hq,fun k' hk=> .head step_scope (harr k' (by simp[exitTo,hk]))⟩
 | goto l'=>
  obtain⟨rest2,hf2,_⟩:=pass l' a₁ w₁ hq;obtain⟨e₂,a₂,w₂,hq₂,harr₂⟩:=key _ l' a₁ w₁ rest2 hf2 rfl hq;exact⟨e₂,a₂,w₂,hq₂,.of_steps (.head step_scope (harr _ (hg hf2))) harr₂⟩
 | ret=>exact ⟨_,a₁,w₁,hq,.of_steps (.one step_scope) harr⟩
 | panic ch=>exact ⟨_,a₁,w₁,hq,.of_steps (.one step_scope) harr⟩
 | outgrown=>exact ⟨_,a₁,w₁,hq,.of_steps (.one step_scope) harr⟩
theorem G3{c:Code}(h:c.wp P Q a w):(Code.skip.seq c).wp P Q a w:=wp_seq (wp_skip h)
theorem Lg{c rest:Code}(l:Nat)(J:Act→World→Prop)(μ:Act→World→Nat)(hf:findLabel c l=some (Code.skip.seq rest))
 (pass:∀a w,J a w→rest.wp P (Exit.jump l (fun a' w'=>J a' w'∧μ a' w'<μ a w) Q) a w)
 (first:∀K:Exit→Act→World→Prop,(∀a w,J a w→rest.wp P K a w)→c.wp P K a w):(Code.scope c).wp P Q a w:=
 wp_scope_jumps l J μ hf (first _ fun a w h=>wp_mono (pass a w h) fun e a' w' hq=>by
  cases e<;>first | exact hq | exact⟨hq.1,hq.2.1⟩) fun a w h=>G3 (pass a w h)
theorem Nw{c rest rest2:Code}(l m:Nat)(hlm:l≠m)(J J2:Act→World→Prop)(μ:Act→World→Nat)(hf:findLabel c l=some (Code.skip.seq rest))(hf2:findLabel c m=some (Code.skip.seq rest2))
 (pass:∀a w,J a w→rest.wp P (MZ (fun l' a' w'=>(l'=l∧J a' w'∧μ a' w'<μ a w)∨(l'=m∧J2 a' w')) Q) a w)
 (last:∀a w,J2 a w→rest2.wp P (MZ (fun _ _ _=>False) Q) a w)
 (first:∀K:Exit→Act→World→Prop,(∀a w,J a w→rest.wp P K a w)→c.wp P K a w):(Code.scope c).wp P Q a w:=by
 refine Mv (fun l' a w=>(l'=l∧J a w)∨(l'=m∧J2 a w)) (fun l' a w=>if l'=l then μ a w+1 else 0) ?_ ?_
 ·rintro l' a w (⟨rfl,h⟩ | ⟨rfl,h⟩)
  ·refine⟨_,hf,G3 (wp_mono (pass a w h) fun e a' w' hq=> ?_)⟩
   cases e<;>first | exact hq | skip
   rcases hq with ⟨rfl,h1,h2⟩ | ⟨rfl,h1⟩
   ·exact⟨.inl ⟨rfl,h1⟩,zI⟩
   ·exact⟨.inr ⟨rfl,h1⟩,by simp[Ne.symm hlm]⟩
  ·refine⟨_,hf2,G3 (wp_mono (last a w h) fun e a' w' hq=> ?_)⟩
   cases e<;>first | exact hq | exact hq.elim
 ·refine first _ fun a w h=>wp_mono (pass a w h) fun e a' w' hq=> ?_
  cases e<;>first | exact hq | skip
  rcases hq with ⟨rfl,h1,_⟩ | ⟨rfl,h1⟩
  ·exact .inl ⟨rfl,h1⟩
  ·exact .inr ⟨rfl,h1⟩
end
end Go.Bs
namespace Go.Proofs.YtfddhafbhceoaaaGreat
open Go.RowKit Go.Bs Go.Maps
variable{bound m:Int}{B b l:List UInt8}{L X base c g i n:Nat}{a:Option Addr}{s:Rs}
def PF(L p i:Nat)(r:Nat × Nat × Int):Rs × Nat:=(⟨p+r.2.1-i,r.2.2,if r.2.2=0 then 0 else if r.2.2=1 then L else ((p+r.2.1-i:Nat):Int)-1⟩,r.1)
def vgo(B:List UInt8)(i X:Nat)(s:Rs):Rs × Nat:=if s.k=0 then PF B.length s.p i (CY i X (B.drop s.p)) else (s,0)
theorem TS(B:List UInt8)(s:Rs):vgo B 0 0 s=s.num B:=by
 unfold vgo Rs.num PF;simp
theorem JT(i x:Nat)(c:UInt8)(l:List UInt8):CY i x (c::l)=if i=9∧1<c.toNat then (0,i+1,5) else if 0<i∧c.toNat=0 then (0,i+1,4) else if c.toNat<128 then (x+c.toNat*128^i,i+1,0) else CY (i+1) (x+c.toNat%128*128^i) l:=by rw[CY]
theorem SM(hs:s.ok B.length)(i X:Nat):vgo B i X s=
  if (s.byte B).1.k=0 then
   (if i=9∧1<(s.byte B).2.toNat then ((s.byte B).1.fail 5 ((s.byte B).1.p-1),0)
   else if 0<i∧(s.byte B).2.toNat=0 then ((s.byte B).1.fail 4 ((s.byte B).1.p-1),0)
   else if (s.byte B).2.toNat<128 then ((s.byte B).1,X+(s.byte B).2.toNat*128^i)
   else vgo B (i+1) (X+(s.byte B).2.toNat%128*128^i) (s.byte B).1)
  else ((s.byte B).1,0):=by
 have hle:=hs.le;unfold Rs.byte;by_cases h0:s.k=0
 ·by_cases h1:s.p<B.length
  ·have e:s.skip B.length 1=(true,⟨s.p+1,0,0⟩):=by
    unfold Rs.skip;rw[Ai h0,Ah zD,Ah zD];simp
   rw[e];have hd:B.drop s.p=B.getD s.p 0::B.drop (s.p+1):=by
    rw[AD h1];simp[h1]
   simp only[Fs];unfold vgo;rw[Ai h0,hd,JT];have hu:=(Fv (B.drop (s.p+1)) (i+1) (X+(B.getD s.p 0).toNat%128*128^i)).2.1;have e1:s.p+(i+1)-i=s.p+1:=zD;split
   ·simp[PF,Rs.fail,e1]
   ·split
    ·simp[PF,Rs.fail,e1]
    ·split
     ·simp[PF,e1]
     ·generalize CY (i+1) (X+(B.getD s.p 0).toNat%128*128^i) (B.drop (s.p+1))=r at*
      simp only[Fs,PF];rw[show s.p+r.2.1-i=s.p+1+r.2.1-(i+1) by omega]
  ·have e:s.skip B.length 1=(false,⟨s.p,1,B.length⟩):=by
    unfold Rs.skip;rw[Ai h0,Ah zD,Ai zD]
   rw[e];have hd:B.drop s.p=[]:=List.drop_eq_nil_of_le zD;unfold vgo;rw[Ai h0,hd];simp[CY,PF]
 ·have e:s.skip B.length 1=(false,s):=by unfold Rs.skip;rw[Ah h0]
  rw[e];unfold vgo;rw[Ah h0];simp[h0]
theorem Td{m:Nat}(hX:X<128^i)(hx:X<18446744073709551616)(hm:m*128^i<18446744073709551616):bits .or .u64 (X:Int) ((m*128^i:Nat):Int)=((X+m*128^i:Nat):Int):=by
 rw[bits_or_u64_nat _ _ hx hm];have h1:(128:Nat)^i=2^(7*i):=by rw[Nat.pow_mul]
 rw[h1] at hX ⊢;rw[Nat.or_comm,←Nat.shiftLeft_eq,←Nat.shiftLeft_add_eq_or_of_lt hX,Nat.add_comm]
theorem Ij(hX:X<128^i)(hx:X<18446744073709551616)(hm:c%128*128^i<18446744073709551616):bits .or .u64 (X:Int) (IntKind.u64.wrap ((c:Int)%128*2^(7*i)))=((X+c%128*128^i:Nat):Int):=by
 have e:(c:Int)%128*2^(7*i)=((c%128*128^i:Nat):Int):=by
  rw[show (128:Nat)^i=2^(7*i) by rw[Nat.pow_mul]];simp
 rw[e,IntKind.wrap_u64,Int.emod_eq_of_lt zD zD];exact Td hX hx hm
theorem QP(hX:X<128^i):X+c%128*128^i<128^(i+1):=by
 have h1:c%128*128^i≤127*128^i:=BG _ zD;rw[EL];omega
theorem Ep(hi:i≤9)(hX:X<128^i)(h:i=9→c≤1):c%128*128^i<18446744073709551616∧X<18446744073709551616:=by
 by_cases h9:i=9
 ·subst h9
  have h1:(128:Nat)^9=9223372036854775808:=zO;rw[h1] at*;have:=h rfl;have h2:c%128*9223372036854775808≤1*9223372036854775808:=BG _ zD;omega
 ·have h1:(128:Nat)^i≤128^8:=DF zD zD
  have h3:(128:Nat)^8=72057594037927936:=zO;have h2:c%128*128^i≤127*128^i:=BG _ zD;omega
theorem Mh{q:Nat}(hp:s.p=q)(h:(s.byte B).1.k=0):(s.byte B).1.p=q+1:=by
 have h':(s.skip B.length 1).2.k=0:=h;cases hk:(s.skip B.length 1).1
 ·exact absurd h' (Rs.IM hk).1
 ·have:=(Rs.Fx hk).2.2.2
  show (s.skip B.length 1).2.p=_
  rw[this,hp];rfl
theorem Cz(w:World){g:Nat}{B:List UInt8}{a:Option Addr}{s:Rs}(h:AN w g B a s)(hB:B.length≤1000000000000):Calls Tryz.prog 174 #[.pointer (some ⟨g,0,none⟩)] w fun r w'=>r=.returned (.int .u64 ((s.num B).2:Int))∧Ay w g B a (s.num B).1 w':=by
 have HH:=hid h;have HA:=hid (BI w h);have hpL:=h.ok.le;clear h;go_enter Tryz.func174,Tryz.ntmps174;go_wp2;refine Lg 0 (fun a' W=>∃(i X:Nat) (s':Rs) (rest:Hid (vgo B i X s'=s.num B)) (u1 u4 u7 u8 u9 u10 u11 u12 u13 u14 u15 u16 u17 u18 u19 u20 u21 u22 u23 u24 u25 u26 u27 u28 u29 u30 u31 u32 u33 u34 u35 u36 u37 u38 u39 u40 u41 u42 u43 u44 u45 u46 u47 u48 u49 u50 u51 u52 u53:Value),Ay w g B a s' W∧s'.p=s.p+i∧i≤9∧X<128^i∧a'={tmps:=#[.pointer (some ⟨g,0,none⟩),u1,.int .u64 0,.int .u64 (X:Int),u4,.int .i64 (7*(i:Int)),.int .i64 (s.p:Int),u7,u8,u9,u10,u11,u12,u13,u14,u15,u16,u17,u18,u19,u20,u21,u22,u23,u24,u25,u26,u27,u28,u29,u30,u31,u32,u33,u34,u35,u36,u37,u38,u39,u40,u41,u42,u43,u44,u45,u46,u47,u48,u49,u50,u51,u52,u53],defers:=[]}) (fun a' _=>70-(intOf (a'.tmps.getD 5 undef)).toNat) rfl ?_ ?_
 ·rintro a' W ⟨i,X,s',hrest,u1,u4,u7,u8,u9,u10,u11,u12,u13,u14,u15,u16,u17,u18,u19,u20,u21,u22,u23,u24,u25,u26,u27,u28,u29,u30,u31,u32,u33,u34,u35,u36,u37,u38,u39,u40,u41,u42,u43,u44,u45,u46,u47,u48,u49,u50,u51,u52,u53,hst,hp,hi,hX,rfl⟩
  have hk:=hst.1;have hB1:=hid (Jq W hk);have hvs:=hid (SM hk.ok i X);have hbok:=Rs.Fp hk.ok;have HBP:Hid ((s'.byte B).1.k=0→(s'.byte B).1.p=s.p+i+1):=hid (Mh hp);rw[hrest.out] at hvs;clear hrest;generalize s'.byte B=b at*;obtain⟨b1,c⟩:=b;dsimp only at hB1 hvs hbok;go_wp2_with fail;refine hB1.out.mono ?_;rintro r w1 ⟨rfl,hst1⟩;have hstW:=hst;by_cases hbk:b1.k=0
  ·have hG:=AK w1 hst1.1
   rw[Ad hbk] at hG;have HG:=hid hG;have HK:=hid hbk;have hc:=c.toNat_lt;have hbge:1≤b1.p:=by have:=HBP.out hbk;omega
   have hpl:=hbok.le;clear hG hbk;go_wp2_with fail;refine HG.out.mono ?_;rintro r w2 ⟨rfl,hb2⟩;by_cases h9:i=9
   ·have d1:((7*(i:Int))==63)=true:=by rw[h9];rfl
    by_cases hc1:1<c.toNat
    ·have d2:decide ((1:Int)<(c.toNat:Int))=true:=Ad zD
     have HF:=hid (Bd w2 (hst1.1.later hb2) 5 ((b1.p:Int)-1) zD);have HAT:=hid (BI w2 (hst1.1.later hb2));replace hvs:=hvs.out;rw[Ai HK.out,Ai ⟨h9,hc1⟩] at hvs;have HN:=hid hvs;clear hvs
     (try clear h9);(try clear hc0);(try clear hc1);(try clear hi0);(try clear hc7)
     have HST1:=hid hst1;clear hst1 hst hk hbok;go_wp2_with fail;refine HAT.out.mono ?_;rintro r w2' ⟨rfl,rfl⟩;go_wp2_with fail;refine HF.out.mono ?_;rintro r w3 ⟨rfl,hst3⟩;have HST3:=hid (Ay.trans HST1.out.2 (Ay.trans (Tch.Bz (F:=(·=g)) hb2) hst3));have HSTW:=hid hstW;clear hst3 hstW;go_wp2;simp only[Exit.jump];go_ret;rw[HN.out];exact⟨rfl,Ay.trans HSTW.out.2 HST3.out⟩
    ·have d2:decide ((1:Int)<(c.toNat:Int))=false:=Ae zD
     have d5:decide ((128:Int)≤(c.toNat:Int))=false:=Ae zD;by_cases hc0:c.toNat=0
     ·have d3:((c.toNat:Int)==0)=true:=by rw[hc0];rfl
      have d4:decide ((s.p:Int)<(b1.p:Int)-1)=true:=Ad zBh;have HF:=hid (Bd w2 (hst1.1.later hb2) 4 ((b1.p:Int)-1) zD);have HAT:=hid (BI w2 (hst1.1.later hb2));replace hvs:=hvs.out;rw[Ai HK.out,Ah (fun e=>hc1 e.2),Ai ⟨zD,hc0⟩] at hvs;have HN:=hid hvs;clear hvs
      (try clear h9);(try clear hc0);(try clear hc1);(try clear hi0);(try clear hc7)
      have HST1:=hid hst1;clear hst1 hst hk hbok;go_wp2_with fail;refine HAT.out.mono ?_;rintro r w2' ⟨rfl,rfl⟩;go_wp2_with fail;refine HAT.out.mono ?_;rintro r w2' ⟨rfl,rfl⟩;go_wp2_with fail;refine HF.out.mono ?_;rintro r w3 ⟨rfl,hst3⟩;have HST3:=hid (Ay.trans HST1.out.2 (Ay.trans (Tch.Bz (F:=(·=g)) hb2) hst3));have HSTW:=hid hstW;clear hst3 hstW;go_wp2;simp only[Exit.jump];go_ret;rw[HN.out];exact⟨rfl,Ay.trans HSTW.out.2 HST3.out⟩
     ·have d3:((c.toNat:Int)==0)=false:=by simp[hc0]
      have HAT:=hid (BI w2 (hst1.1.later hb2));replace hvs:=hvs.out;rw[Ai HK.out,Ah (fun e=>hc1 e.2),Ah (fun e=>hc0 e.2),Ai zD] at hvs;have HN:=hid hvs;clear hvs;have HC7:Hid (c.toNat%128=c.toNat):=hid (Dt zD);have HSTW:=hid hstW;have hmul:c.toNat%128*128^i<18446744073709551616∧X<18446744073709551616:=Ep hi hX zD;have E1:=hid (Ij (c:=c.toNat) hX hmul.2 hmul.1);clear hmul;clear hstW;(try clear h9);(try clear hc0);(try clear hc1);(try clear hi0);(try clear hc7);have HST1:=hid hst1;clear hst1 hst hk hbok;go_wp2_with fail;go_wp2;simp only[Exit.jump];go_ret;rw[HN.out];refine⟨?_,Ay.trans HSTW.out.2 (HST1.out.then hb2)⟩;show Ending.returned (Value.int .u64 _)=_
      rw[E1.out,HC7.out]
   ·have d1:((7*(i:Int))==63)=false:=by rw[Br];omega
    by_cases hc0:c.toNat=0
    ·have d3:((c.toNat:Int)==0)=true:=by rw[hc0];rfl
     by_cases hi0:0<i
     ·have d4:decide ((s.p:Int)<(b1.p:Int)-1)=true:=Ad zBh
      have HF:=hid (Bd w2 (hst1.1.later hb2) 4 ((b1.p:Int)-1) zD);have HAT:=hid (BI w2 (hst1.1.later hb2));replace hvs:=hvs.out;rw[Ai HK.out,Ah (fun e=>h9 e.1),Ai ⟨hi0,hc0⟩] at hvs;have HN:=hid hvs;clear hvs
      (try clear h9);(try clear hc0);(try clear hc1);(try clear hi0);(try clear hc7)
      have HST1:=hid hst1;clear hst1 hst hk hbok;go_wp2_with fail;refine HAT.out.mono ?_;rintro r w2' ⟨rfl,rfl⟩;go_wp2_with fail;refine HAT.out.mono ?_;rintro r w2' ⟨rfl,rfl⟩;go_wp2_with fail;refine HF.out.mono ?_;rintro r w3 ⟨rfl,hst3⟩;have HST3:=hid (Ay.trans HST1.out.2 (Ay.trans (Tch.Bz (F:=(·=g)) hb2) hst3));have HSTW:=hid hstW;clear hst3 hstW;go_wp2;simp only[Exit.jump];go_ret;rw[HN.out];exact⟨rfl,Ay.trans HSTW.out.2 HST3.out⟩
     ·have d4:decide ((s.p:Int)<(b1.p:Int)-1)=false:=Ae zBh
      have d5:decide ((128:Int)≤(c.toNat:Int))=false:=Ae zD;have HAT:=hid (BI w2 (hst1.1.later hb2));replace hvs:=hvs.out;rw[Ai HK.out,Ah (fun e=>h9 e.1),Ah (fun e=>hi0 e.1),Ai zD] at hvs;have HN:=hid hvs;clear hvs;have HC7:Hid (c.toNat%128=c.toNat):=hid (Dt zD);have HSTW:=hid hstW;have hmul:c.toNat%128*128^i<18446744073709551616∧X<18446744073709551616:=Ep hi hX zD;have E1:=hid (Ij (c:=c.toNat) hX hmul.2 hmul.1);clear hmul;clear hstW;(try clear h9);(try clear hc0);(try clear hc1);(try clear hi0);(try clear hc7);have HST1:=hid hst1;clear hst1 hst hk hbok;go_wp2_with fail;refine HAT.out.mono ?_;rintro r w2' ⟨rfl,rfl⟩;go_wp2_with fail;go_wp2;simp only[Exit.jump];go_ret;rw[HN.out];refine⟨?_,Ay.trans HSTW.out.2 (HST1.out.then hb2)⟩;show Ending.returned (Value.int .u64 _)=_
      rw[E1.out,HC7.out]
    ·have d3:((c.toNat:Int)==0)=false:=by simp[hc0]
     by_cases hc7:c.toNat<128
     ·have d5:decide ((128:Int)≤(c.toNat:Int))=false:=Ae zD
      have HAT:=hid (BI w2 (hst1.1.later hb2));replace hvs:=hvs.out;rw[Ai HK.out,Ah (fun e=>h9 e.1),Ah (fun e=>hc0 e.2),Ai hc7] at hvs;have HN:=hid hvs;clear hvs;have HC7:Hid (c.toNat%128=c.toNat):=hid (Dt zD);have HSTW:=hid hstW;have hmul:c.toNat%128*128^i<18446744073709551616∧X<18446744073709551616:=Ep hi hX zD;have E1:=hid (Ij (c:=c.toNat) hX hmul.2 hmul.1);clear hmul;clear hstW;(try clear h9);(try clear hc0);(try clear hc1);(try clear hi0);(try clear hc7);have HST1:=hid hst1;clear hst1 hst hk hbok;go_wp2_with fail;go_wp2;simp only[Exit.jump];go_ret;rw[HN.out];refine⟨?_,Ay.trans HSTW.out.2 (HST1.out.then hb2)⟩;show Ending.returned (Value.int .u64 _)=_
      rw[E1.out,HC7.out]
     ·have d5:decide ((128:Int)≤(c.toNat:Int))=true:=Ad zD
      have HAT:=hid (BI w2 (hst1.1.later hb2));replace hvs:=hvs.out;rw[Ai HK.out,Ah (fun e=>h9 e.1),Ah (fun e=>hc0 e.2),Ah hc7] at hvs;have HN:=hid hvs;clear hvs;have hi8:i+1≤9:=zD;have HX8:=hid (QP (c:=c.toNat) hX);have HSTW:=hid hstW;have hmul:c.toNat%128*128^i<18446744073709551616∧X<18446744073709551616:=Ep hi hX (fun e=>absurd e h9);have E1:=hid (Ij (c:=c.toNat) hX hmul.2 hmul.1);clear hmul;clear hstW;(try clear h9);(try clear hc0);(try clear hc1);(try clear hi0);(try clear hc7);have HST1:=hid hst1;clear hst1 hst hk hbok;go_wp2_with fail;go_step3
      rw[E1.out,show 7*(i:Int)+7=7*((i+1:Nat):Int) by omega];refine⟨rfl,⟨i+1,_,b1,hid HN.out.symm,_,_,_,_,_,_,_,_,_,_,_,_,_,_,_,_,_,_,_,_,_,_,_,_,_,_,_,_,_,_,_,_,_,_,_,_,_,_,_,_,_,_,_,_,_,_,_,_,_,Ay.trans HSTW.out.2 (HST1.out.then hb2),HBP.out HK.out,hi8,HX8.out,rfl⟩,?_⟩;simp[intOf];omega
  ·have hG:=AK w1 hst1.1
   rw[Ae hbk] at hG;have HG:=hid hG;replace hvs:=hvs.out;rw[Ah hbk] at hvs;have HN:=hid hvs;clear hvs;have HST1:=hid hst1;have HSTW:=hid hstW;clear hG hbk hst1 hst hk hbok hstW;go_wp2_with fail;refine HG.out.mono ?_;rintro r w2 ⟨rfl,hb2⟩;go_wp2;simp only[Exit.jump];go_ret;rw[HN.out];exact⟨rfl,Ay.trans HSTW.out.2 (HST1.out.then hb2)⟩
 ·intro K hK
  go_wp2_with fail;refine HA.out.mono ?_;rintro r w1 ⟨rfl,rfl⟩;go_wp2;go_step3
  rename_i hkk
  exact hkk _ _ (hK _ _ ⟨0,0,s,hid (TS B s),_,_,_,_,_,_,_,_,_,_,_,_,_,_,_,_,_,_,_,_,_,_,_,_,_,_,_,_,_,_,_,_,_,_,_,_,_,_,_,_,_,_,_,_,_,_,_,_,_,Ay.refl HH.out,zD,zD,zQ,rfl⟩)
def Rs.most(B:List UInt8)(s:Rs)(m:Nat):Rs × Nat:=if m<(s.num B).2 then ((s.num B).1.fail 2 s.p,0) else s.num B
def Rs.int(B:List UInt8)(s:Rs)(m:Int):Rs × Nat:=if 0≤m then s.most B m.toNat else ((s.num B).1.fail 2 s.p,0)
def Rs.head(B:List UInt8)(s:Rs):Rs × Bool × Nat:=
 if (s.num B).1.k=0 then
  (if (s.num B).2%2=1 then (if 1048572<(s.num B).2/2 then ((s.num B).1.fail 2 s.p,false,0) else ((s.num B).1,true,(s.num B).2/2+4))
  else (if 1048575<(s.num B).2/2 then ((s.num B).1.fail 2 s.p,false,0) else ((s.num B).1,false,(s.num B).2/2+1)))
 else ((s.num B).1,false,0)
def Rs.offset(B:List UInt8)(s:Rs):Rs × Nat:=
 let t:=if 65536≤(s.num B).2 then (s.num B).1.fail 10 s.p else (s.num B).1
 (t,if t.k=0 then (s.num B).2+1 else 0)
theorem Rs.T8(h:s.ok B.length){m:Nat}:(s.most B m).1.ok B.length:=by
 unfold Rs.most;split
 ·exact Rs.Ce (Rs.Cn h) zD
 ·exact Rs.Cn h
theorem Rs.Dp(h:s.ok B.length):(s.int B m).1.ok B.length:=by
 unfold Rs.int;split
 ·exact Rs.T8 h
 ·exact Rs.Ce (Rs.Cn h) zD
theorem Rs.GO(h:s.ok B.length):(s.head B).1.ok B.length:=by
 unfold Rs.head;split
 ·split
  ·split
   ·exact Rs.Ce (Rs.Cn h) zD
   ·exact Rs.Cn h
  ·split
   ·exact Rs.Ce (Rs.Cn h) zD
   ·exact Rs.Cn h
 ·exact Rs.Cn h
theorem Rs.J0(h:s.ok B.length):(s.offset B).1.ok B.length:=by
 unfold Rs.offset;dsimp only;split
 ·exact Rs.Ce (Rs.Cn h) zD
 ·exact Rs.Cn h
theorem Rs.EJ:(s.int B m).2≤m.toNat:=by
 unfold Rs.int Rs.most;split
 ·split
  ·simp
  ·omega
 ·simp
theorem Ok(w:World){g:Nat}{B:List UInt8}{a:Option Addr}{s:Rs}(h:AN w g B a s)(hB:B.length≤1000000000000)(m:Nat):Calls Tryz.prog 172 #[.pointer (some ⟨g,0,none⟩),.int .u64 (m:Int)] w fun r w'=>r=.returned (.int .u64 ((s.most B m).2:Int))∧Ay w g B a (s.most B m).1 w':=by
 have HA:=hid (BI w h);have HN:=hid (Cz w h hB);unfold Rs.most;generalize s.num B=N at*;obtain⟨s1,x⟩:=N;dsimp only at*;clear h;by_cases hm:m<x
 ·have d1:decide (m<x)=true:=Ad hm
  have d1':decide ((m:Int)<(x:Int))=true:=Ad zD;rw[Ai hm];clear hm;go_enter Tryz.func172,Tryz.ntmps172;go_wp2_with fail;refine HA.out.mono ?_;rintro r w' ⟨rfl,rfl⟩;go_wp2_with fail;refine HN.out.mono ?_;rintro r w1 ⟨rfl,hst⟩;have HF:=hid (Bd w1 hst.1 2 s.p zD);have HST:=hid hst;clear hst;go_wp2_with fail;refine HF.out.mono ?_;rintro r w2 ⟨rfl,hst2⟩;have HST2:=hid hst2;clear hst2;go_wp2;go_ret;exact⟨rfl,Ay.trans HST.out.2 HST2.out⟩
 ·have d1:decide (m<x)=false:=Ae hm
  have d1':decide ((m:Int)<(x:Int))=false:=Ae zD;rw[Ah hm];clear hm;go_enter Tryz.func172,Tryz.ntmps172;go_wp2_with fail;refine HA.out.mono ?_;rintro r w' ⟨rfl,rfl⟩;go_wp2_with fail;refine HN.out.mono ?_;rintro r w1 ⟨rfl,hst⟩;have HST:=hid hst;clear hst;go_wp2;go_ret;exact⟨rfl,HST.out⟩
theorem Ct(w:World){g:Nat}{B:List UInt8}{a:Option Addr}{s:Rs}(h:AN w g B a s)(hB:B.length≤1000000000000)(m:Int)(hm: -9223372036854775808≤m∧m≤9223372036854775807):Calls Tryz.prog 110 #[.pointer (some ⟨g,0,none⟩),.int .i64 m] w fun r w'=>r=.returned (.int .i64 ((s.int B m).2:Int))∧Ay w g B a (s.int B m).1 w':=by
 by_cases h0:0≤m
 ·obtain⟨n,rfl⟩:∃n:Nat,m=n:=⟨m.toNat,zD⟩
  have HM:=hid (Ok w h hB n);have hle:(s.int B n).2≤9223372036854775807:=zBg;have e:s.int B n=s.most B n:=by unfold Rs.int;rw[Ai h0];rfl
  rw[e] at hle ⊢;have d1:decide ((0:Int)≤(n:Int))=true:=Ad h0;generalize s.most B n=N at*;obtain⟨s1,x⟩:=N;dsimp only at*;clear h e;go_enter Tryz.func110,Tryz.ntmps110;go_wp2_with fail;refine HM.out.mono ?_;rintro r w1 ⟨rfl,hst⟩;have HST:=hid hst;clear hst;go_wp2;go_ret;exact⟨rfl,HST.out⟩
 ·have HA:=hid (BI w h)
  have HN:=hid (Cz w h hB);have e:s.int B m=((s.num B).1.fail 2 s.p,0):=by unfold Rs.int;rw[Ah h0]
  rw[e];have d1:decide ((0:Int)≤m)=false:=Ae h0;generalize s.num B=N at*;obtain⟨s1,x⟩:=N;dsimp only at*;clear h e h0;go_enter Tryz.func110,Tryz.ntmps110;go_wp2_with fail;refine HA.out.mono ?_;rintro r w' ⟨rfl,rfl⟩;go_wp2_with fail;refine HN.out.mono ?_;rintro r w1 ⟨rfl,hst⟩;have HF:=hid (Bd w1 hst.1 2 s.p zD);have HST:=hid hst;clear hst;go_wp2_with fail;refine HF.out.mono ?_;rintro r w2 ⟨rfl,hst2⟩;have HST2:=hid hst2;clear hst2;go_wp2;go_ret;exact⟨rfl,Ay.trans HST.out.2 HST2.out⟩
theorem PJ(w:World){B:List UInt8}{s:Rs}(h:AN w g B a s)(hB:B.length≤1000000000000):Calls Tryz.prog 329 #[.pointer (some ⟨g,0,none⟩)] w fun r w'=>r=.returned (.tuple #[.bool (s.head B).2.1,.int .i64 ((s.head B).2.2:Int)])∧Ay w g B a (s.head B).1 w':=by
 have HA:=hid (BI w h);have HN:=hid (Cz w h hB);have hsm:=Rs.D5 (B:=B) (s:=s);unfold Rs.head;generalize s.num B=N at*;obtain⟨s1,x⟩:=N;dsimp only at*;clear h;by_cases hk:s1.k=0
 ·rw[Ai hk]
  by_cases h2:x%2=1
  ·have d2:(((x:Int)%2)==1)=true:=by rw[beq_iff_eq];omega
   rw[Ai h2];by_cases hl:1048572<x/2
   ·have d3:decide ((1048572:Int)<(x:Int)/2)=true:=Ad zD
    rw[Ai hl];have dk:decide (s1.k=0)=true:=Ad hk;clear hk h2 hl;go_enter Tryz.func329,Tryz.ntmps329;go_wp2_with fail;refine HA.out.mono ?_;rintro r w' ⟨rfl,rfl⟩;go_wp2_with fail;refine HN.out.mono ?_;rintro r w1 ⟨rfl,hst⟩;have HG:=hid (AK w1 hst.1);rw[dk] at HG;have HST:=hid hst;clear hst dk;go_wp2_with fail;refine HG.out.mono ?_;rintro r w2 ⟨rfl,hb2⟩;have HF:=hid (Bd w2 (HST.out.1.later hb2) 2 s.p zD);go_wp2_with fail;refine HF.out.mono ?_;rintro r w3 ⟨rfl,hst3⟩;have HST3:=hid hst3;clear hst3;go_wp2;go_ret2
    exact⟨rfl,Ay.trans (HST.out.then hb2).2 HST3.out⟩
   ·have d3:decide ((1048572:Int)<(x:Int)/2)=false:=Ae zD
    rw[Ah hl];have dk:decide (s1.k=0)=true:=Ad hk;clear hk h2;go_enter Tryz.func329,Tryz.ntmps329;go_wp2_with fail;refine HA.out.mono ?_;rintro r w' ⟨rfl,rfl⟩;go_wp2_with fail;refine HN.out.mono ?_;rintro r w1 ⟨rfl,hst⟩;have HG:=hid (AK w1 hst.1);rw[dk] at HG;have HST:=hid hst;clear hst dk;go_wp2_with fail;refine HG.out.mono ?_;rintro r w2 ⟨rfl,hb2⟩;go_wp2;go_ret2
    exact⟨zQ,HST.out.then hb2⟩
  ·have d2:(((x:Int)%2)==1)=false:=by rw[Br];omega
   rw[Ah h2];by_cases hl:1048575<x/2
   ·have d3:decide ((1048575:Int)<(x:Int)/2)=true:=Ad zD
    rw[Ai hl];have dk:decide (s1.k=0)=true:=Ad hk;clear hk h2 hl;go_enter Tryz.func329,Tryz.ntmps329;go_wp2_with fail;refine HA.out.mono ?_;rintro r w' ⟨rfl,rfl⟩;go_wp2_with fail;refine HN.out.mono ?_;rintro r w1 ⟨rfl,hst⟩;have HG:=hid (AK w1 hst.1);rw[dk] at HG;have HST:=hid hst;clear hst dk;go_wp2_with fail;refine HG.out.mono ?_;rintro r w2 ⟨rfl,hb2⟩;have HF:=hid (Bd w2 (HST.out.1.later hb2) 2 s.p zD);go_wp2_with fail;refine HF.out.mono ?_;rintro r w3 ⟨rfl,hst3⟩;have HST3:=hid hst3;clear hst3;go_wp2;go_ret2
    exact⟨rfl,Ay.trans (HST.out.then hb2).2 HST3.out⟩
   ·have d3:decide ((1048575:Int)<(x:Int)/2)=false:=Ae zD
    rw[Ah hl];have dk:decide (s1.k=0)=true:=Ad hk;clear hk h2;go_enter Tryz.func329,Tryz.ntmps329;go_wp2_with fail;refine HA.out.mono ?_;rintro r w' ⟨rfl,rfl⟩;go_wp2_with fail;refine HN.out.mono ?_;rintro r w1 ⟨rfl,hst⟩;have HG:=hid (AK w1 hst.1);rw[dk] at HG;have HST:=hid hst;clear hst dk;go_wp2_with fail;refine HG.out.mono ?_;rintro r w2 ⟨rfl,hb2⟩;go_wp2;go_ret2
    exact⟨zQ,HST.out.then hb2⟩
 ·rw[Ah hk]
  have dk:decide (s1.k=0)=false:=Ae hk;clear hk;go_enter Tryz.func329,Tryz.ntmps329;go_wp2_with fail;refine HA.out.mono ?_;rintro r w' ⟨rfl,rfl⟩;go_wp2_with fail;refine HN.out.mono ?_;rintro r w1 ⟨rfl,hst⟩;have HG:=hid (AK w1 hst.1);rw[dk] at HG;have HST:=hid hst;clear hst dk;go_wp2_with fail;refine HG.out.mono ?_;rintro r w2 ⟨rfl,hb2⟩;go_wp2;go_ret2
  exact⟨rfl,HST.out.then hb2⟩
theorem NA(w:World){g:Nat}{B:List UInt8}{a:Option Addr}{s:Rs}(h:AN w g B a s)(hB:B.length≤1000000000000):Calls Tryz.prog 330 #[.pointer (some ⟨g,0,none⟩)] w fun r w'=>r=.returned (.int .i64 ((s.offset B).2:Int))∧Ay w g B a (s.offset B).1 w':=by
 have HA:=hid (BI w h);have HN:=hid (Cz w h hB);have hsm:=Rs.D5 (B:=B) (s:=s);unfold Rs.offset;dsimp only;generalize s.num B=N at*;obtain⟨s1,x⟩:=N;dsimp only at*;clear h;by_cases hl:65536≤x
 ·have d1:decide ((65536:Int)≤(x:Int))=true:=Ad zD
  have hnk:(s1.fail 10 s.p).k≠0:=by unfold Rs.fail;split<;>simp_all
  rw[Ai hl,Ah hnk];have dk:decide ((s1.fail 10 s.p).k=0)=false:=Ae hnk;have HFF:=hid (fun (W:World) (h:AN W g B a s1)=>Bd W h 10 s.p zD);generalize s1.fail 10 s.p=s2 at*;clear hl hnk;go_enter Tryz.func330,Tryz.ntmps330;go_wp2_with fail;refine HA.out.mono ?_;rintro r w' ⟨rfl,rfl⟩;go_wp2_with fail;refine HN.out.mono ?_;rintro r w1 ⟨rfl,hst⟩;have HF:=hid (HFF.out w1 hst.1);have HST:=hid hst;clear hst;go_wp2_with fail;refine HF.out.mono ?_;rintro r w2 ⟨rfl,hst2⟩;have HG:=hid (AK w2 hst2.1);rw[dk] at HG;have HST2:=hid hst2;clear hst2 dk;go_wp2_with fail;refine HG.out.mono ?_;rintro r w3 ⟨rfl,hb3⟩;go_wp2;go_ret;exact⟨rfl,Ay.trans HST.out.2 (HST2.out.then hb3)⟩
 ·have d1:decide ((65536:Int)≤(x:Int))=false:=Ae zD
  rw[Ah hl];by_cases hk:s1.k=0
  all_goals
   first | rw[Ai hk] | rw[Ah hk]
   first | have dk:decide (s1.k=0)=true:=Ad hk | have dk:decide (s1.k=0)=false:=Ae hk
   clear hk;go_enter Tryz.func330,Tryz.ntmps330;go_wp2_with fail;refine HA.out.mono ?_;rintro r w' ⟨rfl,rfl⟩;go_wp2_with fail;refine HN.out.mono ?_;rintro r w1 ⟨rfl,hst⟩;have HG:=hid (AK w1 hst.1);rw[dk] at HG;have HST:=hid hst;clear hst dk;go_wp2_with fail;refine HG.out.mono ?_;rintro r w3 ⟨rfl,hb3⟩;go_wp2;go_ret;exact⟨zAf,HST.out.then hb3⟩
def Dd:List UInt8→Nat
 | []=>0
 | c::l=>c.toNat%128+128*Dd l
theorem Nl:∀(l:List UInt8) (c:UInt8),Dd (l++[c])=Dd l+c.toNat%128*128^l.length
 | [],c=>by simp[Dd]
 | d::l,c=>by
  simp only[K0,Dd,Nl l c,AL,EL];rw[Nat.mul_add,Nat.mul_comm (128^l.length) 128,Nat.mul_left_comm];omega
theorem Rq:∀l:List UInt8,Dd l<128^l.length
 | []=>by simp[Dd]
 | c::l=>by
  have:=Rq l;simp only[Dd,AL,EL];omega
theorem Il:∀(l:List UInt8) (k:Nat),Dd (l.drop k)≤Dd l
 | [],k=>by simp
 | c::l,0=>by simp
 | c::l,k+1=>by
  have:=Il l k;simp only[De,Dd];omega
theorem U5{m:Nat}(h:m<l.length):Dd (l.drop m)=l[m].toNat%128+128*Dd (l.drop (m+1)):=by
 rw[AD h];rfl
theorem Nk(h:n<l.length):Dd (l.take (n+1))=Dd (l.take n)+l[n].toNat%128*128^n:=by
 rw[AR h,Nl,List.length_take,Nat.min_eq_left zD]
theorem GB(l:List UInt8)(n:Nat):Dd (l.take n)<128^n:=Ao (Rq _) (DF zD zI)
theorem Kf(hi:i≤9)(hX:X<128^i)(h:i=9→c≤1):X+c%128*128^i<18446744073709551616:=by
 by_cases h9:i=9
 ·subst h9
  have h1:(128:Nat)^9=9223372036854775808:=zO;rw[h1] at*;have:=h rfl;have h2:c%128*9223372036854775808≤1*9223372036854775808:=BG _ zD;omega
 ·have h1:(128:Nat)^i≤128^8:=DF zD zD
  have h3:(128:Nat)^8=72057594037927936:=zO;have h2:c%128*128^i≤127*128^i:=BG _ zD;omega
def KW(L:Nat)(r:Nat × Nat × Int):Nat × Nat × Int × Int:=
 if r.2.2=0 then (r.1,r.2.1,0,0) else if r.2.2=1 then (0,0,1,(L:Int)) else (0,0,r.2.2,(r.2.1:Int)-1)
def Sh(b:List UInt8):Nat × Nat × Int × Int:=KW b.length (CY 0 0 b)
theorem TT(h:n<b.length):CY n (Dd (b.take n)) (b.drop n)=
  if n=9∧1<b[n].toNat then (0,n+1,5) else if 0<n∧b[n].toNat=0 then (0,n+1,4) else if b[n].toNat<128 then (Dd (b.take n)+b[n].toNat*128^n,n+1,0) else CY (n+1) (Dd (b.take (n+1))) (b.drop (n+1)):=by
 rw[AD h,JT,Nk h]
theorem RU(w:World)(b:List UInt8)(a:Option Addr)(n c:Nat)(hl:Ag.r (·<w.heap.size) w [.slice a n c] b)(hB:b.length≤1000000000000):
  Calls Tryz.prog 167 #[.slice a n c] w fun r w'=>r=.returned (.tuple #[.int .u64 ((Sh b).1:Int),.int .i64 ((Sh b).2.1:Int),.agg #[.int .i64 (Sh b).2.2.1,.int .i64 (Sh b).2.2.2]])∧Below w.heap.size w w':=by
 obtain⟨rfl,hm,_,_⟩:=AH hl;have HL:=hid hl;clear hl;go_enter Tryz.func167,Tryz.ntmps167;go_wp2_with fail;refine Dm (fun W=>Blk W w.heap.size 65 #[.int .i64 0,.int .i64 0]∧Below w.heap.size w W) ⟨zC,zA⟩ ?_;intro W ⟨hF,hbW⟩;go_loopw [5] (fun i wr=>∃n:Nat,n≤b.length∧n≤9∧i=.int .i64 n∧Hid (Sh b=KW b.length (CY n (Dd (b.take n)) (b.drop n)))∧wr=W) (fun i _=>b.length-(intOf i).toNat)
 case atStart=>exact ⟨0,At _,zD,rfl,hid rfl,rfl⟩
 case round=>
  obtain⟨n,hn,hn9,rfl,hg,rfl⟩:=hrel;rcases Be n b.length with hlt | hge
  ·obtain⟨ga,oa,hA,hga,hc⟩:=BJ (lift HL.out hbW) hlt
   subst hA;have d0:decide ((n:Int)<(b.length:Int))=true:=Ad zD;have d0':decide (n<b.length)=true:=Ad hlt;have i1:(n:Int)<(b.length:Int):=zD;have hgv:=hg.out;have hvat:=TT hlt;have hdt:=Nk hlt;generalize b[n]=e at hvat hdt hc;have hc255:=e.toNat_lt;by_cases h9:n=9
   ·have d1:((n:Int)==9)=true:=by rw[h9];rfl
    have d3:decide ((0:Int)<(n:Int))=true:=Ad zD;have d3':decide (0<n)=true:=Ad zD;by_cases hc1:1<e.toNat
    ·have d2:decide ((1:Int)<(e.toNat:Int))=true:=Ad zD
     have d2':decide (1<e.toNat)=true:=Ad zD;rw[hvat,Ai ⟨h9,hc1⟩] at hgv;have HG:=hid hgv;clear hgv hg hvat hdt
     (try clear h9);(try clear hc0);(try clear hc1);(try clear hn0);(try clear hc7)
     go_wp2_with fail;refine (FJ wr 5 n zD).mono ?_;rintro r w1 ⟨rfl,hb1⟩;obtain⟨y0,y1,g0,g1,l1⟩:=Bg (hF.later hb1);have hbw1:=Af hb1 hbW;go_wp2;refine An (v:=.tuple #[.int .u64 0,.int .i64 0,.agg #[.int .i64 5,.int .i64 n]]) zV rfl ⟨?_,zA⟩;rw[HG.out];simp[KW]
    ·have d2:decide ((1:Int)<(e.toNat:Int))=false:=Ae zD
     have d2':decide (1<e.toNat)=false:=Ae zD;by_cases hc0:e.toNat=0
     ·have d4:((e.toNat:Int)==0)=true:=by rw[hc0];rfl
      rw[hvat,Ah (fun e=>hc1 e.2),Ai ⟨zD,hc0⟩] at hgv;have HG:=hid hgv;clear hgv hg hvat hdt
      (try clear h9);(try clear hc0);(try clear hc1);(try clear hn0);(try clear hc7)
      go_wp2_with fail;refine (FJ wr 4 n zD).mono ?_;rintro r w1 ⟨rfl,hb1⟩;obtain⟨y0,y1,g0,g1,l1⟩:=Bg (hF.later hb1);have hbw1:=Af hb1 hbW;go_wp2;refine An (v:=.tuple #[.int .u64 0,.int .i64 0,.agg #[.int .i64 4,.int .i64 n]]) zV rfl ⟨?_,zA⟩;rw[HG.out];simp[KW]
     ·have d4:((e.toNat:Int)==0)=false:=by rw[Br];omega
      have d5:decide ((e.toNat:Int)<128)=true:=Ad zD;have d5':decide (e.toNat<128)=true:=Ad zD;have hfit:=Ep hn9 (GB b n) (c:=e.toNat) (fun _=>zD);have hmod:e.toNat%128=e.toNat:=Dt zD;rw[hvat,Ah (fun e=>hc1 e.2),Ah (fun e=>hc0 e.2),Ai zD] at hgv;have HDT:=hid hdt;have hL:Dd (b.take (n+1))<18446744073709551616:=by
       rw[HDT.out];exact Kf hn9 (GB b n) (fun _=>zD)
      rw[←hmod,←HDT.out] at hgv;have HG:=hid hgv;have hn1:Hid ((b.take (n+1)).length=n+1):=hid zI;have HTK:Hid (∀m,(h:m<n+1)→(b.take (n+1))[m]'(by rw[hn1.out];exact h)=b[m]'zD):=hid (fun m h=>zQ);have hd0:Hid (Dd ((b.take (n+1)).drop (n+1))=0):=hid zAc;generalize b.take (n+1)=L at*;clear hgv hg hfit hmod HDT hvat hdt;have H9:=hid h9;have h9n:n≤9∧9≤n:=zD;have d09:decide ((9:Int)<(b.length:Int))=true:=Ad zD;have d09':decide (9<b.length)=true:=Ad zD;have i19:(9:Int)<(b.length:Int):=zD;have hc9:=hc;rw[show oa+n=oa+9 by omega] at hc9
      (try clear h9);(try clear hc0);(try clear hc1);(try clear hn0);(try clear hc7)
      go_wp2_with fail;go_loopw [6,7] (fun x i w2=>∃(k:Nat) (j:Int),k≤n+1∧Hid (j=(k:Int)-1)∧-1≤j∧j≤n∧i=.int .i64 j∧x=.int .u64 ((Dd (L.drop k):Nat):Int)∧w2=wr) (fun _ i _=>(intOf i+1).toNat)
      case atStart=>exact ⟨n+1,n,zD,hid zD,zD,zD,rfl,by rw[hd0.out];rfl,rfl⟩
      case round=>
       obtain⟨k,j,hk,hj,hj1,hj2,rfl,rfl,rfl⟩:=hrel;rcases CZ k with hk0 | hk0
       ·have e1:j=-1:=by have:=hj.out;omega
        subst e1;subst hk0;have e2:Hid (L.drop 0=L):=hid rfl;rw[e2.out];obtain⟨y0,y1,g0,g1,l1⟩:=Bg hF;go_wp2;refine An (v:=.tuple #[.int .u64 ((Dd L:Nat):Int),.int .i64 (10),.agg #[.int .i64 0,.int .i64 0]]) zV rfl ⟨?_,zA⟩;rw[HG.out];simp[KW,H9.out]
       ·obtain⟨m,rfl⟩:∃m,k=m+1:=⟨k-1,zD⟩
        obtain rfl:j=(m:Int):=by have:=hj.out;omega
        have hmb:m<b.length:=zD;obtain⟨gb,ob,hA,_,hcm⟩:=BJ (lift HL.out hbW) hmb;simp only[Bh,Ic,AF] at hA;obtain⟨rfl,rfl⟩:=hA;have HS:Hid (Dd (L.drop m)=b[m].toNat%128+128*Dd (L.drop (m+1))):=hid Z0;have hle:Dd (L.drop m)<18446744073709551616:=Nat.lt_of_le_of_lt (Il L m) hL;rw[HS.out] at hle;generalize Dd (L.drop (m+1))=X at*;generalize b[m]=d at*;have i1:(m:Int)<(b.length:Int):=zD;have i2:(0:Int)≤(m:Int):=zD;have hd:=d.toNat_lt;have hle2:128*(X:Int)+(d.toNat:Int)%128≤18446744073709551615:=zD;have hle3:128*(X:Int)≤18446744073709551615:=zD;have HSM:=hid hj;clear hj;go_wp2;go_roundw
        case rel=>exact ⟨m,(m:Int)-1,zD,hid rfl,zD,zD,zT,by rw[HS.out];go_num,zA3⟩
        case measure=>simp [intOf]
   ·have d1:((n:Int)==9)=false:=by rw[Br];omega
    by_cases hc0:e.toNat=0
    ·have d4:((e.toNat:Int)==0)=true:=by rw[hc0];rfl
     by_cases hn0:0<n
     ·have d3:decide ((0:Int)<(n:Int))=true:=Ad zD
      have d3':decide (0<n)=true:=Ad zD;rw[hvat,Ah (fun e=>h9 e.1),Ai ⟨hn0,hc0⟩] at hgv;have HG:=hid hgv;clear hgv hg hvat hdt
      (try clear h9);(try clear hc0);(try clear hc1);(try clear hn0);(try clear hc7)
      go_wp2_with fail;refine (FJ wr 4 n zD).mono ?_;rintro r w1 ⟨rfl,hb1⟩;obtain⟨y0,y1,g0,g1,l1⟩:=Bg (hF.later hb1);have hbw1:=Af hb1 hbW;go_wp2;refine An (v:=.tuple #[.int .u64 0,.int .i64 0,.agg #[.int .i64 4,.int .i64 n]]) zV rfl ⟨?_,zA⟩;rw[HG.out];simp[KW]
     ·have d3:decide ((0:Int)<(n:Int))=false:=Ae zD
      have d3':decide (0<n)=false:=Ae zD;have d5:decide ((e.toNat:Int)<128)=true:=Ad zD;have d5':decide (e.toNat<128)=true:=Ad zD;have hfit:=Ep hn9 (GB b n) (c:=e.toNat) (fun e=>absurd e h9);have hmod:e.toNat%128=e.toNat:=Dt zD;rw[hvat,Ah (fun e=>h9 e.1),Ah (fun e=>hn0 e.1),Ai zD] at hgv;have HDT:=hid hdt;have hL:Dd (b.take (n+1))<18446744073709551616:=by
       rw[HDT.out];exact Kf hn9 (GB b n) (fun e=>absurd e h9)
      rw[←hmod,←HDT.out] at hgv;have HG:=hid hgv;have hn1:Hid ((b.take (n+1)).length=n+1):=hid zI;have HTK:Hid (∀m,(h:m<n+1)→(b.take (n+1))[m]'(by rw[hn1.out];exact h)=b[m]'zD):=hid (fun m h=>zQ);have hd0:Hid (Dd ((b.take (n+1)).drop (n+1))=0):=hid zAc;generalize b.take (n+1)=L at*;clear hgv hg hfit hmod HDT hvat hdt
      (try clear h9);(try clear hc0);(try clear hc1);(try clear hn0);(try clear hc7)
      go_wp2_with fail;go_loopw [6,7] (fun x i w2=>∃(k:Nat) (j:Int),k≤n+1∧Hid (j=(k:Int)-1)∧-1≤j∧j≤n∧i=.int .i64 j∧x=.int .u64 ((Dd (L.drop k):Nat):Int)∧w2=wr) (fun _ i _=>(intOf i+1).toNat)
      case atStart=>exact ⟨n+1,n,zD,hid zD,zD,zD,rfl,by rw[hd0.out];rfl,rfl⟩
      case round=>
       obtain⟨k,j,hk,hj,hj1,hj2,rfl,rfl,rfl⟩:=hrel;rcases CZ k with hk0 | hk0
       ·have e1:j=-1:=by have:=hj.out;omega
        subst e1;subst hk0;have e2:Hid (L.drop 0=L):=hid rfl;rw[e2.out];obtain⟨y0,y1,g0,g1,l1⟩:=Bg hF;go_wp2;refine An (v:=.tuple #[.int .u64 ((Dd L:Nat):Int),.int .i64 ((n:Int)+1),.agg #[.int .i64 0,.int .i64 0]]) zV rfl ⟨?_,zA⟩;rw[HG.out];simp[KW]
       ·obtain⟨m,rfl⟩:∃m,k=m+1:=⟨k-1,zD⟩
        obtain rfl:j=(m:Int):=by have:=hj.out;omega
        have hmb:m<b.length:=zD;obtain⟨gb,ob,hA,_,hcm⟩:=BJ (lift HL.out hbW) hmb;simp only[Bh,Ic,AF] at hA;obtain⟨rfl,rfl⟩:=hA;have HS:Hid (Dd (L.drop m)=b[m].toNat%128+128*Dd (L.drop (m+1))):=hid Z0;have hle:Dd (L.drop m)<18446744073709551616:=Nat.lt_of_le_of_lt (Il L m) hL;rw[HS.out] at hle;generalize Dd (L.drop (m+1))=X at*;generalize b[m]=d at*;have i1:(m:Int)<(b.length:Int):=zD;have i2:(0:Int)≤(m:Int):=zD;have hd:=d.toNat_lt;have hle2:128*(X:Int)+(d.toNat:Int)%128≤18446744073709551615:=zD;have hle3:128*(X:Int)≤18446744073709551615:=zD;have HSM:=hid hj;clear hj;go_wp2;go_roundw
        case rel=>exact ⟨m,(m:Int)-1,zD,hid rfl,zD,zD,zT,by rw[HS.out];go_num,zA3⟩
        case measure=>simp [intOf]
    ·have d4:((e.toNat:Int)==0)=false:=by rw[Br];omega
     by_cases hc7:e.toNat<128
     ·have d5:decide ((e.toNat:Int)<128)=true:=Ad zD
      have d5':decide (e.toNat<128)=true:=Ad zD;have HN0:∃q,decide ((0:Int)<(n:Int))=q∧decide (0<n)=q:=⟨_,rfl,zQ⟩;obtain⟨q,d3,d3'⟩:=HN0;cases q;all_goals
       have hfit:=Ep hn9 (GB b n) (c:=e.toNat) (fun e=>absurd e h9);have hmod:e.toNat%128=e.toNat:=Dt zD;rw[hvat,Ah (fun e=>h9 e.1),Ah (fun e=>hc0 e.2),Ai hc7] at hgv;have HDT:=hid hdt;have hL:Dd (b.take (n+1))<18446744073709551616:=by
        rw[HDT.out];exact Kf hn9 (GB b n) (fun e=>absurd e h9)
       rw[←hmod,←HDT.out] at hgv;have HG:=hid hgv;have hn1:Hid ((b.take (n+1)).length=n+1):=hid zI;have HTK:Hid (∀m,(h:m<n+1)→(b.take (n+1))[m]'(by rw[hn1.out];exact h)=b[m]'zD):=hid (fun m h=>zQ);have hd0:Hid (Dd ((b.take (n+1)).drop (n+1))=0):=hid zAc;generalize b.take (n+1)=L at*;clear hgv hg hfit hmod HDT hvat hdt
       (try clear h9);(try clear hc0);(try clear hc1);(try clear hn0);(try clear hc7)
       go_wp2_with fail;go_loopw [6,7] (fun x i w2=>∃(k:Nat) (j:Int),k≤n+1∧Hid (j=(k:Int)-1)∧-1≤j∧j≤n∧i=.int .i64 j∧x=.int .u64 ((Dd (L.drop k):Nat):Int)∧w2=wr) (fun _ i _=>(intOf i+1).toNat)
       case atStart=>exact ⟨n+1,n,zD,hid zD,zD,zD,rfl,by rw[hd0.out];rfl,rfl⟩
       case round=>
        obtain⟨k,j,hk,hj,hj1,hj2,rfl,rfl,rfl⟩:=hrel;rcases CZ k with hk0 | hk0
        ·have e1:j=-1:=by have:=hj.out;omega
         subst e1;subst hk0;have e2:Hid (L.drop 0=L):=hid rfl;rw[e2.out];obtain⟨y0,y1,g0,g1,l1⟩:=Bg hF;go_wp2;refine An (v:=.tuple #[.int .u64 ((Dd L:Nat):Int),.int .i64 ((n:Int)+1),.agg #[.int .i64 0,.int .i64 0]]) zV rfl ⟨?_,zA⟩;rw[HG.out];simp[KW]
        ·obtain⟨m,rfl⟩:∃m,k=m+1:=⟨k-1,zD⟩
         obtain rfl:j=(m:Int):=by have:=hj.out;omega
         have hmb:m<b.length:=zD;obtain⟨gb,ob,hA,_,hcm⟩:=BJ (lift HL.out hbW) hmb;simp only[Bh,Ic,AF] at hA;obtain⟨rfl,rfl⟩:=hA;have HS:Hid (Dd (L.drop m)=b[m].toNat%128+128*Dd (L.drop (m+1))):=hid Z0;have hle:Dd (L.drop m)<18446744073709551616:=Nat.lt_of_le_of_lt (Il L m) hL;rw[HS.out] at hle;generalize Dd (L.drop (m+1))=X at*;generalize b[m]=d at*;have i1:(m:Int)<(b.length:Int):=zD;have i2:(0:Int)≤(m:Int):=zD;have hd:=d.toNat_lt;have hle2:128*(X:Int)+(d.toNat:Int)%128≤18446744073709551615:=zD;have hle3:128*(X:Int)≤18446744073709551615:=zD;have HSM:=hid hj;clear hj;go_wp2;go_roundw
         case rel=>exact ⟨m,(m:Int)-1,zD,hid rfl,zD,zD,zT,by rw[HS.out];go_num,zA3⟩
         case measure=>simp [intOf]
     ·have d5:decide ((e.toNat:Int)<128)=false:=Ae zD
      have d5':decide (e.toNat<128)=false:=Ae zD;rw[hvat,Ah (fun e=>h9 e.1),Ah (fun e=>hc0 e.2),Ah hc7] at hgv;have HG:=hid hgv;have hn8:n+1≤9:=zD;clear hgv hg h9 hc0 hc7 hvat hdt;have HN0:∃q,decide ((0:Int)<(n:Int))=q∧decide (0<n)=q:=⟨_,rfl,zQ⟩;obtain⟨q,d3,d3'⟩:=HN0;cases q;all_goals
       go_wp2;go_roundw
       case rel=>exact ⟨n+1,zD,hn8,zT,HG,zA3⟩
       case measure=>simp [intOf];omega
  ·obtain rfl:n=b.length:=by omega
   have hgv:=hg.out;rw[Cy] at hgv;have HG:=hid hgv;have d0:decide ((b.length:Int)<(b.length:Int))=false:=Ae zD;clear hgv hg;go_wp2_with fail;refine (FJ wr 1 b.length zD).mono ?_;rintro r w1 ⟨rfl,hb1⟩;obtain⟨y0,y1,g0,g1,l1⟩:=Bg (hF.later hb1);have hbw1:=Af hb1 hbW;go_wp2;refine An (v:=.tuple #[.int .u64 0,.int .i64 0,.agg #[.int .i64 1,.int .i64 b.length]]) zV rfl ⟨?_,zA⟩;rw[HG.out];simp[KW,CY]
theorem Oj:∀(l:List UInt8) (i x:Nat),(CY i x l).2.2≠0→(CY i x l).1=0
 | [],i,x,_=>rfl
 | c::l,i,x,h=>by
  rw[JT] at h ⊢;by_cases h1:i=9∧1<c.toNat
  ·rw[Ai h1]
  ·rw[Ah h1] at h ⊢
   by_cases h2:0<i∧c.toNat=0
   ·rw[Ai h2]
   ·rw[Ah h2] at h ⊢
    by_cases h3:c.toNat<128
    ·rw[Ai h3] at h;simp at h
    ·rw[Ah h3] at h ⊢
     exact Oj l _ _ h
theorem LD(w:World)(a:Option Addr)(c:Nat)(B:List UInt8)(hl:Ag.r (·<w.heap.size) w [.slice a B.length c] B)(s:Rs)(hs:s.ok B.length)(hB:B.length≤1000000000000):
  Calls Tryz.prog 103 #[CV a B.length c s] w fun r w'=>r=.returned (.tuple #[CV a B.length c (s.num B).1,.int .u64 ((s.num B).2:Int)])∧Below w.heap.size w w':=by
 have hle:=hs.le;by_cases h0:s.k=0
 ·have d0:(s.k !=(0:Int))=false:=by simp[h0]
  obtain⟨aD,cD,hsl,hsub⟩:=N8 hl (lo:=s.p) hle;have hu:=Fv (B.drop s.p) 0 0;have hln:(B.drop s.p).length=B.length-s.p:=zQ;have hGET:=hid (fun (W:World) (hW:Below w.heap.size w W)=>RU W (B.drop s.p) aD _ cD (lift hsub hW) zD);have hnum:s.num B=(⟨s.p+(CY 0 0 (B.drop s.p)).2.1,(CY 0 0 (B.drop s.p)).2.2,if (CY 0 0 (B.drop s.p)).2.2=0 then 0 else if (CY 0 0 (B.drop s.p)).2.2=1 then B.length else s.p+(CY 0 0 (B.drop s.p)).2.1-1⟩,(CY 0 0 (B.drop s.p)).1):=by
   unfold Rs.num;rw[Ai h0]
  unfold Sh at hGET;rw[hnum];have hsm:=II (B.drop s.p) 0 0 zD zQ;have hvx:=Oj (B.drop s.p) 0 0;generalize B.drop s.p=D at*;generalize CY 0 0 D=R at*;obtain⟨x,u,k⟩:=R;dsimp only at*;have hz:=hs.zero h0;have H0:=hid h0;have HZ:=hid hz;clear hl hs h0 hz hsub hnum;unfold CV;by_cases hk0:k=0
  ·subst hk0
   simp only[KW,Fs] at hGET ⊢;go_enter Tryz.func103,Tryz.ntmps103;go_wp2_with fail;refine (hGET.out _ zA).mono ?_;rintro r w1 ⟨rfl,hb⟩;have B0:Blk w1 w.heap.size 91 #[.slice a B.length c,.int .i64 (s.p:Int),.int .i64 s.k,.int .i64 s.f]:=Blk.later zC hb;have B1:Blk w1 (w.heap.size+1) 91 #[.slice none 0 0,.int .i64 0,.int .i64 0,.int .i64 0]:=Blk.later zC hb;obtain⟨x0,x1,x2,x3,e0,e1,e2,e3,l0⟩:=CX B0;obtain⟨y0,y1,y2,y3,g0,g1,g2,g3,l1⟩:=CX B1;have hbw:Below w.heap.size w w1:=zA;clear B0 B1 hb;go_wp2;refine An (v:=.tuple #[.agg #[.slice a B.length c,.int .i64 ((s.p:Int)+(u:Int)),.int .i64 s.k,.int .i64 s.f],.int .u64 (x:Int)]) ZZ rfl ⟨?_,zA⟩;rw[H0.out,HZ.out];rfl
  ·by_cases hk1:k=1
   ·subst hk1
    have hu1:=hu.2.2.2.1 rfl;have hx0:x=0:=by have:=hvx;exact hvx zD
    subst hx0;have HP:Hid (((s.p+u:Nat):Int)=(B.length:Int)):=hid zD;simp only[KW,Fs,show ¬((1:Int)=0) by omega,if_false] at hGET ⊢;rw[HP.out];go_enter Tryz.func103,Tryz.ntmps103;go_wp2_with fail;refine (hGET.out _ zA).mono ?_;rintro r w1 ⟨rfl,hb⟩;have B0:Blk w1 w.heap.size 91 #[.slice a B.length c,.int .i64 (s.p:Int),.int .i64 s.k,.int .i64 s.f]:=Blk.later zC hb;have B1:Blk w1 (w.heap.size+1) 91 #[.slice none 0 0,.int .i64 0,.int .i64 0,.int .i64 0]:=Blk.later zC hb;have hbw:Below w.heap.size w w1:=zA;obtain⟨x0,x1,x2,x3,e0,e1,e2,e3,l0⟩:=CX B0;obtain⟨y0,y1,y2,y3,g0,g1,g2,g3,l1⟩:=CX B1;clear hb;go_wp2_with fail;refine (FJ _ 1 B.length zD).mono ?_;rintro r w2 ⟨rfl,hb2⟩;have B0':Blk w2 w.heap.size 91 #[.slice a B.length c,.int .i64 (B.length:Int),.int .i64 s.k,.int .i64 s.f]:=Blk.later (Blk.alloc (Blk.set B0 1 (.int .i64 (B.length:Int))) _) hb2;have B1':Blk w2 (w.heap.size+1) 91 #[.slice none 0 0,.int .i64 0,.int .i64 0,.int .i64 0]:=Blk.later (Blk.alloc (Blk.far B1 zQ _) _) hb2;have BF:Blk w2 w1.heap.size 65 #[.int .i64 1,.int .i64 ((B.length-s.p:Nat):Int)]:=Blk.later (Blk.newAt _ _ _ zY) hb2;have hbw2:Below w.heap.size w w2:=zA;clear x0 x1 x2 x3 e0 e1 e2 e3 l0 y0 y1 y2 y3 g0 g1 g2 g3 l1 B0 B1 hb2;obtain⟨x0,x1,x2,x3,e0,e1,e2,e3,l0⟩:=CX B0';obtain⟨y0,y1,y2,y3,g0,g1,g2,g3,l1⟩:=CX B1';obtain⟨z0,z1,f0,f1,lz⟩:=Bg BF;clear B0' B1' BF;go_wp2;refine An (v:=.tuple #[.agg #[.slice a B.length c,.int .i64 (B.length:Int),.int .i64 1,.int .i64 (B.length:Int)],.int .u64 0]) ZZ rfl ⟨rfl,zA⟩
   ·have hk4:k≠0∧k≠1:=⟨hk0,hk1⟩
    have hu5:=hu.2.2.2.2 hk1;have d2:(k==(0:Int))=false:=by simp[hk0]
    have d3:(k==(1:Int))=false:=by simp[hk1]
    have d4:(k !=(1:Int))=true:=by simp[hk1]
    have hx0:x=0:=hvx hk0;subst hx0;simp only[KW,hk0,hk1,if_false] at hGET ⊢;go_enter Tryz.func103,Tryz.ntmps103;go_wp2_with fail;refine (hGET.out _ zA).mono ?_;rintro r w1 ⟨rfl,hb⟩;have B0:Blk w1 w.heap.size 91 #[.slice a B.length c,.int .i64 (s.p:Int),.int .i64 s.k,.int .i64 s.f]:=Blk.later zC hb;have B1:Blk w1 (w.heap.size+1) 91 #[.slice none 0 0,.int .i64 0,.int .i64 0,.int .i64 0]:=Blk.later zC hb;have hbw:Below w.heap.size w w1:=zA;obtain⟨x0,x1,x2,x3,e0,e1,e2,e3,l0⟩:=CX B0;obtain⟨y0,y1,y2,y3,g0,g1,g2,g3,l1⟩:=CX B1;clear hb;go_wp2_with fail;refine (FJ _ k _ hk0).mono ?_;rintro r w2 ⟨rfl,hb2⟩;have B0':Blk w2 w.heap.size 91 #[.slice a B.length c,.int .i64 ((s.p:Int)+((u:Int)-1)+1),.int .i64 s.k,.int .i64 s.f]:=Blk.later (Blk.alloc (Blk.set B0 1 (.int .i64 ((s.p:Int)+((u:Int)-1)+1))) _) hb2;have B1':Blk w2 (w.heap.size+1) 91 #[.slice none 0 0,.int .i64 0,.int .i64 0,.int .i64 0]:=Blk.later (Blk.alloc (Blk.far B1 zQ _) _) hb2;have BF:Blk w2 w1.heap.size 65 #[.int .i64 k,.int .i64 ((u:Int)-1)]:=Blk.later (Blk.newAt _ _ _ zY) hb2;have hbw2:Below w.heap.size w w2:=zA;clear x0 x1 x2 x3 e0 e1 e2 e3 l0 y0 y1 y2 y3 g0 g1 g2 g3 l1 B0 B1 hb2;have HB0:=hid B0';have HB1:=hid B1';obtain⟨x0,x1,x2,x3,e0,e1,e2,e3,l0⟩:=CX B0';obtain⟨z0,z1,f0,f1,lz⟩:=Bg BF;clear B0' B1' BF;have hK0:=hid hk0;clear hk4 hk0 hk1;go_upto_region 13 with (fail);refine Dm (fun W=>Blk W w.heap.size 91 #[.slice a B.length c,.int .i64 ((s.p:Int)+((u:Int)-1)+1),.int .i64 k,.int .i64 ((s.p:Int)+((u:Int)-1))]∧Blk W (w.heap.size+1) 91 #[.slice none 0 0,.int .i64 0,.int .i64 0,.int .i64 0]∧Below w.heap.size w W) ⟨?_,?_,zA⟩ ?_
    ·exact Blk.set (Blk.set (Blk.set HB0.out 2 _) 3 _) 3 _
    ·exact Blk.far (Blk.far (Blk.far HB1.out zQ _) zQ _) zQ _
    rintro W ⟨B0,B1,hbW⟩;clear x0 x1 x2 x3 e0 e1 e2 e3 l0 z0 z1 f0 f1 lz;obtain⟨x0,x1,x2,x3,e0,e1,e2,e3,l0⟩:=CX B0;obtain⟨y0,y1,y2,y3,g0,g1,g2,g3,l1⟩:=CX B1;clear B0 B1;go_wp2;refine An (v:=.tuple #[.agg Vo,.int .u64 0]) ZZ rfl ⟨by rw[show ((s.p:Int)+((u:Int)-1)+1)=((s.p+u:Nat):Int) by omega,show (s.p:Int)+((u:Int)-1)=(s.p:Int)+(u:Int)-1 by omega];rfl,by (repeat (first | with_reducible exact Below.refl _ _ | with_reducible assumption | (with_reducible refine Au ?_ _) | (with_reducible refine Below.setCell ?_ zE _) | (with_reducible refine Below.drew ?_) | (with_reducible refine below_drewN ?_ _) | (refine Af zG ?_)))⟩
 ·have d0:(s.k !=(0:Int))=true:=by simp[h0]
  have hnum:s.num B=(s,0):=by unfold Rs.num;rw[Ah h0]
  rw[hnum];clear hl hs h0 hnum;unfold CV;go_enter Tryz.func103,Tryz.ntmps103;go_wp2;refine An (v:=.tuple #[.agg #[.slice a B.length c,.int .i64 (s.p:Int),.int .i64 s.k,.int .i64 s.f],.int .u64 0]) (by simp[results,Tryz.results103,go_sem]) rfl ⟨rfl,zA⟩
theorem P6(w:World)(a:Option Addr)(c:Nat)(B:List UInt8)(hl:Ag.r (·<w.heap.size) w [.slice a B.length c] B)(s:Rs)(hs:s.ok B.length)(hB:B.length≤1000000000000)(m:Nat):
  Calls Tryz.prog 102 #[CV a B.length c s,.int .u64 (m:Int)] w fun r w'=>r=.returned (.tuple #[CV a B.length c (s.most B m).1,.int .u64 ((s.most B m).2:Int)])∧Below w.heap.size w w':=by
 have hR:=hid (fun (W:World) (hW:Below w.heap.size w W)=>LD W a c B (lift hl hW) s hs hB);have hF:=hid (fun (W:World) (t:Rs)=>GH W a B.length c t 2 s.p zD);unfold Rs.most;generalize s.num B=N at*;obtain⟨s1,x⟩:=N;dsimp only at*;clear hl hs;unfold CV at*;by_cases hm:m<x
 ·have d1:decide (m<x)=true:=Ad hm
  have d1':decide ((m:Int)<(x:Int))=true:=Ad zD;rw[Ai hm];have HF:=hid (fun (W:World)=>hF.out W s1);dsimp only;generalize s1.fail 2 s.p=s2 at*;clear hm hF;go_enter Tryz.func102,Tryz.ntmps102;go_wp2_with fail;refine (hR.out _ zA).mono ?_;rintro r w1 ⟨rfl,hb⟩;have B1:Blk w1 (w.heap.size+1) 91 #[.slice none 0 0,.int .i64 0,.int .i64 0,.int .i64 0]:=Blk.later zC hb;have hbw:Below w.heap.size w w1:=zA;clear hb;go_wp2_with fail;refine (HF.out _).mono ?_;rintro r w2 ⟨rfl,hb2⟩;have B1':Blk w2 (w.heap.size+1) 91 #[.slice none 0 0,.int .i64 0,.int .i64 0,.int .i64 0]:=Blk.later zC hb2;have hbw2:Below w.heap.size w w2:=zA;obtain⟨y0,y1,y2,y3,g0,g1,g2,g3,l1⟩:=CX B1';clear hb2 B1 B1';go_wp2;refine An (v:=.tuple #[.agg #[.slice a B.length c,.int .i64 (s2.p:Int),.int .i64 s2.k,.int .i64 s2.f],.int .u64 0]) zBe rfl ⟨rfl,zA⟩
 ·have d1:decide (m<x)=false:=Ae hm
  have d1':decide ((m:Int)<(x:Int))=false:=Ae zD;rw[Ah hm];dsimp only;clear hm hF;go_enter Tryz.func102,Tryz.ntmps102;go_wp2_with fail;refine (hR.out _ zA).mono ?_;rintro r w1 ⟨rfl,hb⟩;have B1:Blk w1 (w.heap.size+1) 91 #[.slice none 0 0,.int .i64 0,.int .i64 0,.int .i64 0]:=Blk.later zC hb;have hbw:Below w.heap.size w w1:=zA;obtain⟨y0,y1,y2,y3,g0,g1,g2,g3,l1⟩:=CX B1;clear hb B1;go_wp2;refine An (v:=.tuple #[.agg #[.slice a B.length c,.int .i64 (s1.p:Int),.int .i64 s1.k,.int .i64 s1.f],.int .u64 (x:Int)]) zBe rfl ⟨rfl,zA⟩
theorem RT(w:World)(a:Option Addr)(c:Nat)(B:List UInt8)(hl:Ag.r (·<w.heap.size) w [.slice a B.length c] B)(s:Rs)(hs:s.ok B.length)(hB:B.length≤1000000000000)(m:Int)(hm: -9223372036854775808≤m∧m≤9223372036854775807):
  Calls Tryz.prog 58 #[CV a B.length c s,.int .i64 m] w fun r w'=>r=.returned (.tuple #[CV a B.length c (s.int B m).1,.int .i64 ((s.int B m).2:Int)])∧Below w.heap.size w w':=by
 by_cases h0:0≤m
 ·obtain⟨n,rfl⟩:∃n:Nat,m=n:=⟨m.toNat,zD⟩
  have hM:=hid (fun (W:World) (hW:Below w.heap.size w W)=>P6 W a c B (lift hl hW) s hs hB n);have hle:(s.int B n).2≤9223372036854775807:=zBg;have e:s.int B n=s.most B n:=by unfold Rs.int;rw[Ai h0];rfl
  rw[e] at hle ⊢;have d1:decide ((0:Int)≤(n:Int))=true:=Ad h0;generalize s.most B n=N at*;obtain⟨s1,x⟩:=N;dsimp only at*;clear hl hs e;unfold CV at*;go_enter Tryz.func58,Tryz.ntmps58;go_wp2_with fail;refine (hM.out _ zA).mono ?_;rintro r w1 ⟨rfl,hb⟩;have B1:Blk w1 (w.heap.size+1) 91 #[.slice none 0 0,.int .i64 0,.int .i64 0,.int .i64 0]:=Blk.later zC hb;have hbw:Below w.heap.size w w1:=zA;obtain⟨y0,y1,y2,y3,g0,g1,g2,g3,l1⟩:=CX B1;clear hb B1;go_wp2;refine An (v:=.tuple #[.agg #[.slice a B.length c,.int .i64 (s1.p:Int),.int .i64 s1.k,.int .i64 s1.f],.int .i64 (x:Int)]) zBi rfl ⟨rfl,zA⟩
 ·have hR:=hid (fun (W:World) (hW:Below w.heap.size w W)=>LD W a c B (lift hl hW) s hs hB)
  have e:s.int B m=((s.num B).1.fail 2 s.p,0):=by unfold Rs.int;rw[Ah h0]
  have hF:=hid (fun (W:World)=>GH W a B.length c (s.num B).1 2 s.p zD);rw[e];have d1:decide ((0:Int)≤m)=false:=Ae h0;dsimp only at*;generalize (s.num B).1.fail 2 s.p=s2 at*;generalize s.num B=N at*;obtain⟨s1,x⟩:=N;dsimp only at*;clear hl hs e h0;unfold CV at*;go_enter Tryz.func58,Tryz.ntmps58;go_wp2_with fail;refine (hR.out _ zA).mono ?_;rintro r w1 ⟨rfl,hb⟩;have B0:Blk w1 w.heap.size 91 #[.slice a B.length c,.int .i64 (s.p:Int),.int .i64 s.k,.int .i64 s.f]:=Blk.later zC hb;have B1:Blk w1 (w.heap.size+1) 91 #[.slice none 0 0,.int .i64 0,.int .i64 0,.int .i64 0]:=Blk.later zC hb;have hbw:Below w.heap.size w w1:=zA;obtain⟨x0,x1,x2,x3,e0,e1,e2,e3,l0⟩:=CX B0;clear hb;go_wp2_with fail;refine (hF.out _).mono ?_;rintro r w2 ⟨rfl,hb2⟩;have B1':Blk w2 (w.heap.size+1) 91 #[.slice none 0 0,.int .i64 0,.int .i64 0,.int .i64 0]:=Blk.later zC hb2;have hbw2:Below w.heap.size w w2:=zA;obtain⟨y0,y1,y2,y3,g0,g1,g2,g3,l1⟩:=CX B1';clear hb2 B1 B1' B0;go_wp2;refine An (v:=.tuple #[.agg #[.slice a B.length c,.int .i64 (s2.p:Int),.int .i64 s2.k,.int .i64 s2.f],.int .i64 0]) zBi rfl ⟨rfl,zA⟩
def Rs.Dk(B:List UInt8)(s:Rs)(m:Int):Rs × List UInt8:=(s.int B m).1.take B ((s.int B m).2:Int)
theorem P5(w:World)(a:Option Addr)(c:Nat)(B:List UInt8)(hl:Ag.r (·<w.heap.size) w [.slice a B.length c] B)(s:Rs)(hs:s.ok B.length)(hB:B.length≤1000000000000)(m:Int)(hm: -9223372036854775808≤m∧m≤9223372036854775807):
  Calls Tryz.prog 96 #[CV a B.length c s,.int .i64 m] w fun r w'=>∃v,r=.returned (.tuple #[CV a B.length c (s.Dk B m).1,v])∧Ag.r (fun q=>w.heap.size≤q∧q<w'.heap.size) w' [v] (s.Dk B m).2∧Below w.heap.size w w':=by
 have hI:=hid (fun (W:World) (hW:Below w.heap.size w W)=>RT W a c B (lift hl hW) s hs hB m hm);have hok:=Rs.Dp (B:=B) hs (m:=m);have hle:((s.int B m).2:Int)≤9223372036854775807:=zBx;have hT:=hid (fun (W:World) (hW:Below w.heap.size w W)=>LF W a c B (lift hl hW) (s.int B m).1 hok ((s.int B m).2:Int) hle hB);unfold Rs.Dk;generalize (s.int B m).1.take B ((s.int B m).2:Int)=T at*;generalize s.int B m=N at*;obtain⟨s1,x⟩:=N;obtain⟨s2,D⟩:=T;dsimp only at*;clear hl hs hok;unfold CV at*;go_enter Tryz.func96,Tryz.ntmps96;go_wp2_with fail;refine (hI.out _ zA).mono ?_;rintro r w1 ⟨rfl,hb⟩;have B1:Blk w1 (w.heap.size+1) 91 #[.slice none 0 0,.int .i64 0,.int .i64 0,.int .i64 0]:=Blk.later zC hb;have hbw:Below w.heap.size w w1:=zA;have hs1:=hb.size;simp at hs1;clear hb;go_wp2_with fail;refine (hT.out _ zA).mono ?_;rintro r w2 ⟨v,rfl,hr,hb2⟩;have B1':Blk w2 (w.heap.size+1) 91 #[.slice none 0 0,.int .i64 0,.int .i64 0,.int .i64 0]:=Blk.later zC hb2;have hbw2:Below w.heap.size w w2:=zA;obtain⟨y0,y1,y2,y3,g0,g1,g2,g3,l1⟩:=CX B1';obtain⟨a1,c1,hv1,hr2,_⟩:=AJ hr;simp only[As,AF] at hv1;subst hv1;have HR:=hid hr2;clear hr hr2 hb2 B1 B1';go_wp2;refine An (v:=.tuple #[.agg #[.slice a B.length c,.int .i64 (s2.p:Int),.int .i64 s2.k,.int .i64 s2.f],.slice a1 D.length c1]) (by simp[results,Tryz.results96,go_sem,y0,y1,y2,y3,l1]) rfl ⟨_,rfl,?_,zA⟩;refine Ag.mono (Ag.keep HR.out fun q hq=> ?_) fun q hq=>⟨ZH,zA2⟩;have:=hq.1;simp at this;repeat (rw[Aw _ _ _ _ zH])
theorem Nq(w:World){g:Nat}{B:List UInt8}{a:Option Addr}{s:Rs}(h:AN w g B a s)(hB:B.length≤1000000000000)(m:Int)(hm: -9223372036854775808≤m∧m≤9223372036854775807):Calls Tryz.prog 274 #[.pointer (some ⟨g,0,none⟩),.int .i64 m] w fun r w'=>∃v,r=.returned v∧Ag.r (fun q=>w.heap.size≤q∧q<w'.heap.size) w' [v] (s.Dk B m).2∧Ay w g B a (s.Dk B m).1 w':=by
 have HI:=hid (Ct w h hB m hm);have hle:((s.int B m).2:Int)≤9223372036854775807:=zBx;have hT:=hid (fun (W:World) (h:AN W g B a (s.int B m).1)=>Ih W h ((s.int B m).2:Int) hle hB);unfold Rs.Dk;generalize (s.int B m).1.take B ((s.int B m).2:Int)=T at*;generalize s.int B m=N at*;obtain⟨s1,x⟩:=N;obtain⟨s2,D⟩:=T;dsimp only at*;clear h;go_enter Tryz.func274,Tryz.ntmps274;go_wp2_with fail;refine HI.out.mono ?_;rintro r w1 ⟨rfl,hst⟩;have HST:=hid hst;have hs1:=hst.size;have HT:=hid (hT.out w1 hst.1);clear hst;go_wp2_with fail;refine HT.out.mono ?_;rintro r w2 ⟨v,rfl,hr,hst2⟩;obtain⟨a1,c1,hv1,hr2,_⟩:=AJ hr;simp only[As,AF] at hv1;subst hv1;have HR:=hid hr2;have HST2:=hid hst2;clear hr hr2 hst2;go_wp2;go_ret;exact⟨_,rfl,Ag.mono HR.out fun q hq=>⟨zD,hq.2⟩,Ay.trans HST.out.2 HST2.out⟩
def Gu(off:Nat):Nat→List UInt8→List UInt8
 | 0,out=>out
 | n+1,out=>Gu off n (out++[out.getD (out.length-off) 0])
theorem Je(off:Nat):∀(n:Nat) (out:List UInt8),(Gu off n out).length=out.length+n
 | 0,out=>rfl
 | n+1,out=>by simp only[Gu,Je off n];simp;omega
def CL(B:List UInt8)(bound:Int)(s:Rs)(out:List UInt8):Rs × List UInt8:=
 if bound-out.length<(s.head B).2.2 then ((s.head B).1.fail 11 s.p,out)
 else if (s.head B).2.1=false then (((s.head B).1.take B ((s.head B).2.2:Int)).1,out++((s.head B).1.take B ((s.head B).2.2:Int)).2)
 else
  if out.length<((s.head B).1.offset B).2 then (((s.head B).1.offset B).1.fail 10 (s.head B).1.p,out)
  else if ((s.head B).1.offset B).1.k=0 then (((s.head B).1.offset B).1,Gu ((s.head B).1.offset B).2 (s.head B).2.2 out) else (((s.head B).1.offset B).1,out)
def exF(B:List UInt8)(bound:Int):Nat→Rs→List UInt8→Rs × List UInt8
 | 0,s,out=>(s,out)
 | f+1,s,out=>if s.p<B.length∧s.k=0 then exF B bound f (CL B bound s out).1 (CL B bound s out).2 else (s,out)
def exB(B:List UInt8)(bound:Int):List UInt8 × Int × Int:=
 if (exF B bound B.length ⟨0,0,0⟩ []).1.k=0 then ((exF B bound B.length ⟨0,0,0⟩ []).2,0,0) else ([],(exF B bound B.length ⟨0,0,0⟩ []).1.k,(exF B bound B.length ⟨0,0,0⟩ []).1.f)
theorem Rs.A0{c at_:Int}(hc:c≠0):(s.fail c at_).k≠0:=by
 unfold Rs.fail;split
 ·exact hc
 ·assumption
theorem Rs.Hr{c at_:Int}:(s.fail c at_).p=s.p:=by unfold Rs.fail;split<;>rfl
theorem Rs.DB(h:(s.num B).1.k=0):s.p<(s.num B).1.p∧s.k=0:=by
 unfold Rs.num at*;split
 ·rename_i h0
  rw[Ai h0] at h;have:=(Fv (B.drop s.p) 0 0).2.2.2.2 (by dsimp only at h;omega);dsimp only;omega
 ·rename_i h0;rw[Ah h0] at h;exact absurd h h0
theorem Rs.J9(h:(s.head B).1.k=0):s.p<(s.head B).1.p∧s.k=0∧(s.num B).1.k=0∧1≤(s.head B).2.2∧(s.head B).2.2≤1048576:=by
 unfold Rs.head at*;by_cases h0:(s.num B).1.k=0
 ·have hm:=Rs.DB h0
  rw[Ai h0] at h ⊢;by_cases h1:(s.num B).2%2=1
  ·rw[Ai h1] at h ⊢
   by_cases h2:1048572<(s.num B).2/2
   ·rw[Ai h2] at h;exact absurd h (Rs.A0 zD)
   ·rw[Ah h2];exact⟨hm.1,hm.2,h0,zH,zH⟩
  ·rw[Ah h1] at h ⊢
   by_cases h2:1048575<(s.num B).2/2
   ·rw[Ai h2] at h;exact absurd h (Rs.A0 zD)
   ·rw[Ah h2];exact⟨hm.1,hm.2,h0,zH,zH⟩
 ·rw[Ah h0] at h;exact absurd h h0
theorem Rs.Tm(h:(s.head B).1.k≠0):(s.head B).2.1=false∧(s.head B).2.2=0:=by
 unfold Rs.head at*;by_cases h0:(s.num B).1.k=0
 ·rw[Ai h0] at h ⊢
  by_cases h1:(s.num B).2%2=1
  ·rw[Ai h1] at h ⊢
   by_cases h2:1048572<(s.num B).2/2
   ·rw[Ai h2];exact⟨rfl,rfl⟩
   ·rw[Ah h2] at h;exact absurd h0 h
  ·rw[Ah h1] at h ⊢
   by_cases h2:1048575<(s.num B).2/2
   ·rw[Ai h2];exact⟨rfl,rfl⟩
   ·rw[Ah h2] at h;exact absurd h0 h
 ·rw[Ah h0];exact⟨rfl,rfl⟩
theorem Rs.DI{n:Int}(h:(s.take B n).1.k=0):s.p≤(s.take B n).1.p∧s.k=0∧(s.take B n).2.length=n.toNat:=by
 unfold Rs.take at*;cases hk:(s.skip B.length n).1
 ·exact absurd h (Rs.IM hk).1
 ·have:=Rs.Fx hk
  rw[this.2.2.2];refine⟨zH,this.1,?_⟩;simp;omega
theorem Rs.Ln{n:Int}(h:(s.take B n).1.k≠0):(s.take B n).2=[]:=by
 unfold Rs.take at*;cases hk:(s.skip B.length n).1
 ·simp
 ·have:=Rs.Fx hk
  rw[this.2.2.2] at h;exact absurd rfl h
theorem Rs.Ky(h:(s.offset B).1.k=0):s.p<(s.offset B).1.p∧s.k=0∧(s.num B).1.k=0∧(s.offset B).2=(s.num B).2+1∧(s.num B).2<65536:=by
 unfold Rs.offset at*;dsimp only at*;by_cases h1:65536≤(s.num B).2
 ·rw[Ai h1] at h;exact absurd h (Rs.A0 zD)
 ·rw[Ah h1] at h ⊢
  have:=Rs.DB h;exact⟨this.1,this.2,h,by rw[Ai h],zD⟩
theorem Rs.Qg(h:s.k≠0):s.num B=(s,0):=by unfold Rs.num;rw[Ah h]
theorem Rs.Oo{n:Int}(h:s.k≠0):s.skip L n=(false,s):=by unfold Rs.skip;rw[Ah h]
theorem Rs.CW{c a:Int}(h:s.k≠0):s.fail c a=s:=by unfold Rs.fail;rw[Ah h]
theorem Kc{out:List UInt8}(h:s.ok B.length):(CL B bound s out).1.ok B.length:=by
 unfold CL;split
 ·exact Rs.Ce (Rs.GO h) zD
 ·split
  ·exact Rs.EU (Rs.GO h) _
  ·split
   ·exact Rs.Ce (Rs.J0 (Rs.GO h)) zD
   ·split
    ·exact Rs.J0 (Rs.GO h)
    ·exact Rs.J0 (Rs.GO h)
theorem Gf{out:List UInt8}(h:(CL B bound s out).1.k=0):s.p<(CL B bound s out).1.p∧((CL B bound s out).2.length:Int)≤bound:=by
 unfold CL at*;by_cases h1:bound-out.length<(s.head B).2.2
 ·rw[Ai h1] at h;exact absurd h (Rs.A0 zD)
 ·rw[Ah h1] at h ⊢
  by_cases h2:(s.head B).2.1=false
  ·rw[Ai h2] at h ⊢
   have ht:=Rs.DI h;have hh:=Rs.J9 ht.2.1;refine⟨zH,?_⟩;simp only[Al,ht.2.2];omega
  ·rw[Ah h2] at h ⊢
   by_cases h3:out.length<((s.head B).1.offset B).2
   ·rw[Ai h3] at h;exact absurd h (Rs.A0 zD)
   ·rw[Ah h3] at h ⊢
    by_cases h4:((s.head B).1.offset B).1.k=0
    ·rw[Ai h4]
     have ho:=Rs.Ky h4;have hh:=Rs.J9 ho.2.1;refine⟨zH,?_⟩;simp only[Je];omega
    ·rw[Ah h4] at h;exact absurd h h4
theorem QI{out:List UInt8}(h:(CL B bound s out).1.k≠0):(CL B bound s out).2=out:=by
 unfold CL at*;split
 ·rfl
 ·rename_i h1
  rw[Ah h1] at h;split
  ·rename_i h2
   rw[Ai h2] at h;rw[Rs.Ln h];simp
  ·rename_i h2
   rw[Ah h2] at h;split
   ·rfl
   ·rename_i h3
    rw[Ah h3] at h;split
    ·rename_i h4
     rw[Ai h4] at h;exact absurd h4 h
    ·rfl
theorem Tt:∀(f:Nat) (s:Rs) (out:List UInt8),s.ok B.length→B.length≤s.p+f→s.p<B.length→s.k=0→exF B bound f s out=exF B bound (f-1) (CL B bound s out).1 (CL B bound s out).2
 | 0,s,out,_,h1,h2,_=>by omega
 | f+1,s,out,_,_,h2,h3=>by simp only[exF];rw[Ai ⟨h2,h3⟩];rfl
theorem FX:∀(f:Nat) (s:Rs) (out:List UInt8),¬(s.p<B.length∧s.k=0)→exF B bound f s out=(s,out)
 | 0,s,out,_=>rfl
 | f+1,s,out,h=>by simp only[exF];rw[Ah h]
theorem Rn:∀(f g:Nat) (s:Rs) (out:List UInt8),s.ok B.length→B.length≤s.p+f→B.length≤s.p+g→exF B bound f s out=exF B bound g s out
 | 0,g,s,out,h,h1,h2=>by rw[FX g s out (by have:=h.le;omega)];rfl
 | f+1,0,s,out,h,h1,h2=>by rw[FX (f+1) s out (by have:=h.le;omega)];rfl
 | f+1,g+1,s,out,h,h1,h2=>by
  simp only[exF];by_cases hc:s.p<B.length∧s.k=0
  ·rw[Ai hc,Ai hc]
   by_cases hk:(CL B bound s out).1.k=0
   ·have:=(Gf hk).1
    exact Rn f g _ _ (Kc h) zD zD
   ·rw[FX f _ _ (fun e=>hk e.2),FX g _ _ (fun e=>hk e.2)]
  ·rw[Ah hc,Ah hc]
def exR(B:List UInt8)(bound:Int)(s:Rs)(out:List UInt8):Rs × List UInt8:=exF B bound (B.length-s.p) s out
theorem Uy{out:List UInt8}(h:s.ok B.length)(h1:s.p<B.length)(h2:s.k=0):exR B bound s out=exR B bound (CL B bound s out).1 (CL B bound s out).2:=by
 unfold exR;rw[Tt _ s out h zD h1 h2];by_cases hk:(CL B bound s out).1.k=0
 ·have:=(Gf hk).1
  exact Rn _ _ _ _ (Kc h) zD zD
 ·rw[FX _ _ _ (fun e=>hk e.2),FX _ _ _ (fun e=>hk e.2)]
theorem L7{out:List UInt8}(h:¬(s.p<B.length∧s.k=0)):exR B bound s out=(s,out):=FX _ _ _ h
theorem Uz(B:List UInt8)(bound:Int):exB B bound=if (exR B bound ⟨0,0,0⟩ []).1.k=0 then ((exR B bound ⟨0,0,0⟩ []).2,0,0) else ([],(exR B bound ⟨0,0,0⟩ []).1.k,(exR B bound ⟨0,0,0⟩ []).1.f):=rfl
theorem Mi(x:UInt8):∀u∈[Value.int .u8 (x.toNat:Int)],u.oneCell'=true:=by
 intro u hu;simp at hu;subst hu;rfl
theorem DY(l:List UInt8)(x:UInt8):byteCells l++[Value.int .u8 (x.toNat:Int)]=byteCells (l++[x]):=Z7
theorem N5(w:World)(out:List UInt8)(hown:w.ownsRow base 5 1 (.slice a out.length c) out.length (byteCells out))(hbase:base≤w.heap.size)(off n:Nat)(h1:1≤off)(h2:off≤out.length)(hn:out.length+n≤1000000000000):
  Calls Tryz.prog 331 #[.slice a out.length c,.int .i64 (off:Int),.int .i64 (n:Int)] w fun r w'=>∃a' c',r=.returned (.slice a' (out.length+n) c')∧w'.ownsRow base 5 1 (.slice a' (out.length+n) c') (out.length+n) (byteCells (Gu off n out))∧Below base w w':=by
 obtain⟨i0,hi,hz0,hz1,hz2⟩:=A1 Eu;have HO:=hid hown;clear hown;go_enter Tryz.func331,Tryz.ntmps331;go_wp2_with fail;go_loopw [0,8] (fun o i wr=>∃(k:Nat) (J:List UInt8) (aJ:Option Addr) (cJ:Nat),k≤n∧i=.int .i64 k∧o=.slice aJ J.length cJ∧wr.ownsRow base 5 1 (.slice aJ J.length cJ) J.length (byteCells J)∧Hid (Gu off n out=Gu off (n-k) J)∧Hid (J.length=out.length+k)∧Below base w wr∧base≤wr.heap.size) (fun _ i _=>n-(intOf i).toNat)
 case atStart=>exact ⟨0,out,a,c,At _,rfl,rfl,HO.out,hid rfl,hid rfl,Below.refl _ _,hbase⟩
 case round=>
  obtain⟨k,J,aJ,cJ,hk,rfl,rfl,ho,hJ,hln,hb,hbs⟩:=hrel;have HJO:=hid ho;rcases Be k n with hlt | hge
  ·have d1:decide ((k:Int)<(n:Int))=true:=Ad zD
   have d1':decide (k<n)=true:=Ad hlt;have hml:off≤J.length:=by have:=hln.out;omega
   have hJm:J.length+1≤1000000000000:=by have:=hln.out;omega
   have hst:Hid (Gu off (n-k) J=Gu off (n-(k+1)) (J++[J.getD (J.length-off) 0])):=hid (by rw[show n-k=(n-(k+1))+1 by omega];rfl);have hgd:J.getD (J.length-off) 0=J[J.length-off]'zD:=by rw[List.getD_eq_getElem?_getD,AM zD];rfl
   rw[hgd] at hst;obtain⟨gb,ob,hA,hgb,hc⟩:=BJ (Et rfl ho) (i:=J.length-off) zD;subst hA;obtain⟨m,hm⟩:∃m,m=J.length-off:=⟨_,rfl⟩;have e1:(J.length:Int)-(off:Int)=(m:Int):=zD;generalize J[J.length-off]'zD=x at*;rw[←hm] at hc;have i1:(m:Int)<(J.length:Int):=zD;have i2:(0:Int)≤(m:Int):=zD;clear ho hgd hm;go_wp2_with (at_builtin;go_loud (refine AA rfl _ _ _ rfl base 5 i0 (.int .u8 0) 1 1 AG hi hz0 hz1 hz2 rfl zO (.slice (some ⟨gb,ob,none⟩) J.length cJ) J.length (byteCells J) rfl (Bp HJO.out zB) (some ⟨wr.heap.size,0,none⟩) 1 1 [.int .u8 (x.toNat:Int)] rfl (BS wr 5 _ rfl rfl rfl) (Mi x) zN zD zI ?_;intro v' w3 hown3 hgrow3 hat3;obtain⟨a3,c3,rfl⟩:=AX hown3;have HO3:=hid hown3;have HG3:=hid hgrow3;clear hown3 hgrow3 hat3))
   have ho3:=HO3.out;rw[DY,show J.length+1=(J++[x]).length by simp] at ho3;have hb3:Below base wr w3:=(Below.grown (Below.refl _ _) HG3.out zI (fun g e=>(HJO.out.lt g e).1)) |>(fun h=>(Au (Below.refl _ _) _ |>.mono hbs).trans h);have HO4:=hid ho3;have hs3:=hb3.size;clear ho3 hc;go_roundw
   case rel=>exact ⟨k+1,J++[x],a3,c3,zD,zT,zQ,HO4.out,hid (hJ.out.trans hst.out),hid (by simp;have:=hln.out;omega),hb.trans hb3,zD⟩
   case measure=>simp [intOf];omega
  ·obtain rfl:k=n:=by omega
   have d1:decide ((k:Int)<(k:Int))=false:=Ae zD;have hfin:Hid (Gu off k out=J):=hid (by rw[hJ.out,Nat.sub_self];rfl);clear ho;go_wp2;go_ret;have hl:J.length=out.length+k:=hln.out;rw[hfin.out,←hl];exact⟨_,_,rfl,HJO.out,hb⟩
end Go.Proofs.YtfddhafbhceoaaaGreat
