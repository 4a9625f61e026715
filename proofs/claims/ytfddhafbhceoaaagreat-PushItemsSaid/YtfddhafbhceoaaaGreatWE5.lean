/- Mini: Needed by pushItems_walk, part 5: texts put together by shake.py; no condition. -/
import Derived.Test.YtfddhafbhceoaaaGreatWE3
import Derived.Test.YtfddhafbhceoaaaGreatWE2
import Derived.Test.YtfddhafbhceoaaaGreatWE1
import Derived.Test.YtfddhafbhceoaaaGreatWE4
set_option linter.unusedVariables false
set_option linter.unusedSimpArgs false
set_option maxRecDepth 100000
set_option maxHeartbeats 6400000
namespace Go.Bs
variable{base n:Nat}{e:TypeId}
theorem zCn{p:Prop}(h:p:=by rw [hst.out]; simp only [Ag]; omega):p:=h
theorem zBy{p:Prop}(h:p:=by have := (hp2.En hf).1; omega):p:=h
theorem zAz{p:Prop}(h:p:=by rw [Ag]; have := hfit'.out; omega):p:=h
theorem zAy{p:Prop}(h:p:=by rw [Ag]; have := hlen'.out; omega):p:=h
theorem ZW{p:Prop}(h:p:=by have := HFIT.out; rw [HK.out] at this; simp at this ⊢; omega):p:=h
theorem ZV{p:Prop}(h:p:=by have := HLEN.out; rw [HK.out] at this; simp at this ⊢; omega):p:=h
theorem Ao:type_of% @List.append_assoc:=@List.append_assoc
theorem Bc:type_of% @of_decide_eq_true:=@of_decide_eq_true
theorem Dh:type_of% @Bool.or_eq_true:=@Bool.or_eq_true
theorem DX:type_of% @List.take_length:=@List.take_length
theorem Ga:type_of% @Proofs.Tryz.ntmps383:=@Proofs.Tryz.ntmps383
theorem G8:type_of% @Proofs.Tryz.func383:=@Proofs.Tryz.func383
end Go.Bs
namespace Go.Proofs.YtfddhafbhceoaaaGreat
open Go.RowKit Go.Bs Go.Maps
variable{D J J' b:List UInt8}{base c g i lo n o p sz:Nat}{F:Nat → Prop}{a a1:Option Addr}{e:TypeId}{v vl:Value}{w w' w1:World}
structure BQ(w:World)(g base most:Nat)(J:List UInt8)(a:Option Addr)(c:Nat):Prop where
 blk:Blk w g 276 #[.int .i64 most,.slice a J.length c,.int .i64 0]
 own:w.ownsRow base 5 1 (.slice a J.length c) J.length (byteCells J)
 ne:(Value.slice a J.length c).ownBlock≠some g
 lo:base≤g
 le:J.length≤most
 most:most≤4611686018427387904
 len:J.length≤100000000000000
def Dr(g:Nat)(a:Option Addr)(q:Nat):Prop:=q=g∨∃p,a=some p∧p.block=q
theorem LP:(Value.slice a n c).ownBlock=a.map Addr.block:=by cases a<;>rfl
def At(w:World)(g base most:Nat)(J':List UInt8)(a:Option Addr)(w':World):Prop:=
 ∃a' c',BQ w' g base most J' a' c'∧Tch (Dr g a) w w'∧(a'.map Addr.block=a.map Addr.block∨∃q,a'.map Addr.block=some q∧w.heap.size≤q)
theorem At.refl{most:Nat}(h:BQ w g base most J a c):At w g base most J a w:=⟨a,c,h,Tch.refl _ _,.inl rfl⟩
theorem Fv{q:Nat}:Dr g a q↔q=g∨a.map Addr.block=some q:=by unfold Dr;simp
theorem At.trans{w2:World}{most:Nat}{J:List UInt8}(h1:Tch (Dr g a) w w1)(h2:a1.map Addr.block=a.map Addr.block∨∃q,a1.map Addr.block=some q∧w.heap.size≤q)(k:At w1 g base most J' a1 w2):At w g base most J' a w2:=by
 obtain⟨a2,c2,k1,k2,k3⟩:=k;have hs:=h1.size;refine⟨a2,c2,k1,h1.trans k2 fun q hq e=> ?_,?_⟩
 ·rw[Fv] at e ⊢
  rcases e with e | e
  ·exact .inl e
  ·rcases h2 with h2 | ⟨q',h2,h3⟩
   ·exact .inr (h2 ▸ e)
   ·rw[h2] at e;simp at e;omega
 ·rcases k3 with k3 | ⟨q,k3,k4⟩
  ·rcases h2 with h2 | ⟨q',h2,h3⟩
   ·exact .inl (k3.trans h2)
   ·exact .inr ⟨q',k3.trans h2,h3⟩
  ·exact .inr ⟨q,k3,zD⟩
theorem At.later{w2:World}{most:Nat}(h:Below w.heap.size w w1)(k:At w1 g base most J' a w2):At w g base most J' a w2:=At.trans (J:=J') (Tch.Cx h) (.inl rfl) k
theorem BQ.later{most:Nat}(h:BQ w g base most J a c)(hb:Below w.heap.size w w1):BQ w1 g base most J a c:=
 ⟨h.blk.later hb,AF h.own hb,h.ne,h.lo,h.le,h.most,h.len⟩
theorem BQ.new(w:World)(most:Nat)(hm:most≤4611686018427387904):BQ (w.alloc (.cells #[.int .i64 most,.slice none 0 0,.int .i64 0] 276)) w.heap.size w.heap.size most [] none 0:=
 ⟨Blk.new w _ _,⟨rfl,.inl ⟨rfl,rfl⟩⟩,zAc,An _,Am _,hm,Am _⟩
theorem K7(w:World){most:Nat}(h:BQ w g base most J a c):
  Calls Tryz.prog 235 #[.pointer (some ⟨g,0,none⟩)] w fun r w'=>r=.returned (.int .i64 0)∧w=w':=by
 have c2:w.cell? ⟨g,2,none⟩=some (.int .i64 0):=h.blk.cell 2;clear h;go_enter Tryz.func235,Tryz.ntmps235;go_wp2;go_ret;exact⟨rfl,rfl⟩
theorem XS(w:World){most:Nat}{J:List UInt8}(h:BQ w g base most J a c):
  Calls Tryz.prog 236 #[.pointer (some ⟨g,0,none⟩)] w fun r w'=>r=.returned (.int .i64 ((most:Int)-J.length))∧Below w.heap.size w w':=by
 have C0:=fun s:AX w=>s.cell (h.blk.cell 0);have C1:=fun s:AX w=>s.cell (h.blk.cell 1);simp at C0 C1;have hle:=h.le;have hmo:=h.most;clear h;go_enter Tryz.func236,Tryz.ntmps236;go_wp2_with fail;refine AR zI zI ?_;repeat (go_big_quiet_step (fail))
 refine Bm ?_;rintro W5 ⟨⟨W5',hb5⟩,rfl⟩;go_wp2;go_ret;exact⟨zA7,hb5⟩
theorem I2(w:World)(most:Nat)(hm:most≤4611686018427387904):
  Calls Tryz.prog 160 #[.int .i64 most] w fun r w'=>r=.returned (.pointer (some ⟨w.heap.size,0,none⟩))∧BQ w' w.heap.size w.heap.size most [] none 0∧Below w.heap.size w w':=by
 have hN:=hid (BQ.new w most hm);have d1:max (most:Int) 0=most:=zD;have d2:(if (most:Int)<0 then (0:Int) else most)=most:=ZY;go_enter Tryz.func160,Tryz.ntmps160;go_wp2;go_ret;exact⟨rfl,hN.out,zB⟩
theorem XT{w2:World}{most:Nat}{a':Option Addr}{c':Nat}(h:BQ w1 g base most J a c)(hfit:J.length+D.length≤most)(hlen:J.length+D.length≤100000000000000)
 (hown:w2.ownsRow base 5 1 (.slice a' (J.length+D.length) c') (J.length+D.length) (byteCells J++byteCells D)) (hgrow:w1.grownBy w2 (Value.slice a J.length c).ownBlock)
 (hat:(Value.slice a' (J.length+D.length) c').ownBlock=(Value.slice a J.length c).ownBlock∨(Value.slice a' (J.length+D.length) c').ownBlock=some w1.heap.size):
  At w1 g base most (J++D) a (w2.setCell ⟨g,1,none⟩ (.slice a' (J.length+D.length) c')):=by
 have hg:=h.blk.lt;have hs:=hgrow.size;have hn2:(Value.slice a' (J.length+D.length) c').ownBlock≠some g:=fun e=>by
  rcases hat with h1 | h1
  ·rw[h1] at e;exact h.ne e
  ·rw[h1] at e;simp at e;omega
 have hsz:(w2.setCell ⟨g,1,none⟩ (.slice a' (J.length+D.length) c')).heap.size=w2.heap.size:=ZK;have hll:(J++D).length=J.length+D.length:=Ag;have hbb:byteCells (J++D)=byteCells J++byteCells D:=zAm;refine⟨a',c',⟨?_,?_,?_,h.lo,zD,h.most,zD⟩,?_,?_⟩
 ·rw[hll]
  exact (h.blk.grown hgrow (fun e=>h.ne e.symm)).set 1 _
 ·rw[hll,hbb]
  exact Hq hown fun q hq=>AB w2 _ _ q (fun e=>hn2 (by rw[hq,e]))
 ·rw[hll];exact hn2
 ·refine⟨hgrow.os,hgrow.tape,hgrow.output,by rw[hsz];exact hs,fun q hq hf=> ?_⟩
  rw[Fv] at hf;exact (AB w2 _ _ q (fun e=>hf (.inl e))).trans (hgrow.block q hq (fun e=>hf (.inr (by rw[LP] at e;exact e.symm))))
 ·rw[LP,LP] at hat
  rcases hat with h1 | h1
  ·exact .inl h1
  ·exact .inr ⟨_,h1,An _⟩
theorem Fu(w:World){g base most:Nat}{J:List UInt8}{a:Option Addr}(h:BQ w g base most J a c)(D:List UInt8)(ad:Option Addr)(nd cd:Nat)(hD:Ah.r (·<w.heap.size) w [.slice ad nd cd] D)(hfit:J.length+D.length≤most)(hlen:J.length+D.length≤100000000000000):
  Calls Tryz.prog 161 #[.pointer (some ⟨g,0,none⟩),.slice ad nd cd] w fun r w'=>r=.returned (.tuple #[])∧At w g base most (J++D) a w':=by
 obtain⟨rfl,hm,_,_⟩:=AT hD;obtain⟨i0,hi,hz0,hz1,hz2⟩:=A3 DH;have HC:=hid (K7 w h);have HR:=hid (XS w h);have HP:=hid h;have HD:=hid hD;have HONE:=hid (AI D);have hmo:=h.most;have d1:decide ((most:Int)-(J.length:Int)<(D.length:Int))=false:=zH;clear h hD;go_enter Tryz.func161,Tryz.ntmps161;go_wp2_with fail;refine HC.out.mono ?_;rintro r w0 ⟨rfl,rfl⟩;go_wp2_with fail;refine HR.out.mono ?_;rintro r w1 ⟨rfl,hb1⟩;have hP1:=HP.out.later hb1;have c1:w1.cell? ⟨g,1,none⟩=some (.slice a J.length c):=hP1.blk.cell 1;have hg1:=hP1.blk.lt;have f1:=hP1.blk.free 1;have hne:=hP1.ne;have hlo:=hP1.lo;have HP1:=hid hP1;have HS:=hid (A8 (lift HD.out hb1));clear hP1;go_wp2_with (at_builtin;go_loud (refine Ar rfl _ _ _ rfl base 5 i0 (.int .u8 0) 1 1 Au hi hz0 hz1 hz2 rfl zO (.slice a J.length c) J.length (byteCells J) rfl HP1.out.own ad D.length cd (byteCells D) rfl HS.out HONE.out zK zD zD ?_;intro v' w2 hown2 hgrow2 hat2;obtain⟨a',c',rfl⟩:=AD hown2;have f2:=(CT (a:=⟨g,1,none⟩) (hgrow2.block g hg1 (fun e=>hne e.symm))).trans f1;have e2:=(Bn (a:=⟨g,1,none⟩) (hgrow2.block g hg1 (fun e=>hne e.symm))).trans c1;have hz2':g<w2.heap.size:=Aj hg1 hgrow2.size;have HG:=hid hgrow2;have HO:=hid hown2;have HAT:=hid hat2;clear hgrow2 hown2 hat2))
 have hst:=At.later hb1 (XT HP1.out hfit hlen HO.out HG.out HAT.out);have HST:=hid hst;clear hst;go_wp2;go_end0
 exact⟨rfl,HST.out⟩
theorem Hb(w:World){most:Nat}{J:List UInt8}(h:BQ w g base most J a c):
  Calls Tryz.prog 165 #[.pointer (some ⟨g,0,none⟩)] w fun r w'=>∃v,r=.returned (.tuple #[v,.int .i64 0])∧Ah.r (fun q=>w.heap.size≤q∧q<w'.heap.size) w' [v] J∧Below w.heap.size w w':=by
 obtain⟨i0,hi,hz0,hz1,hz2⟩:=A3 DH;have HC:=hid (K7 w h);have hB:=Cg rfl h.own;obtain⟨_,hm,_,_⟩:=AT hB;have HD:=hid (Ah.mono hB (S':=(·<w.heap.size)) fun q hq=>hq.2);have HONE:=hid (AI J);have c1:w.cell? ⟨g,1,none⟩=some (.slice a J.length c):=h.blk.cell 1;have hg1:=h.blk.lt;have hle:=h.le;have hmo:=h.most;have hle14:=h.len;clear h hB;go_enter Tryz.func165,Tryz.ntmps165;go_wp2_with fail;refine HC.out.mono ?_;rintro r w0 ⟨rfl,rfl⟩;go_wp2_with (at_builtin;go_loud (refine Ar rfl _ _ _ rfl w.heap.size 5 i0 (.int .u8 0) 1 1 Au hi hz0 hz1 hz2 rfl zO _ 0 [] rfl (Gk _ (An _) rfl) a J.length c (byteCells J) rfl (A8 (lift HD.out zB)) HONE.out zK zD zN ?_;intro v' w1 hown1 hgrow1 hat1;rw[A1,AV] at hown1;obtain⟨a',c',rfl⟩:=AD hown1;have HG:=hid hgrow1;have HO:=hid hown1;clear hgrow1 hown1 hat1))
 have hA:=Cg rfl HO.out;have hb1:Below w.heap.size w w1:=Below.grown zB HG.out zN (fun g e=>by
  have e':some w.heap.size=some g:=e;injection e' with e';omega)
 have HA:=hid hA;clear hA;go_ret2
 exact⟨_,rfl,HA.out,hb1⟩
def CP(t:Tok):Bool:=F7 t || Ip t
theorem Mp(x:Tok)(a:Option Addr)(c:Nat)(w:World)(hl:x.lit.length≤9223372036854775807)(h1: -9223372036854775808≤x.off∧x.off≤9223372036854775807)(h2: -9223372036854775808≤x.len∧x.len≤9223372036854775807):
  Calls Tryz.prog 383 #[.agg #[.slice a x.lit.length c,.int .i64 x.off,.int .i64 x.len]] w fun r w'=>r=.returned (.bool (CP x))∧Below w.heap.size w w':=by
 obtain⟨D,o,m⟩:=x;dsimp only at*;by_cases k0:o=0
 ·skip
  have k0_0:(o==0)=true:=beq_iff_eq.2 zD;by_cases k1:m=0
  ·skip
   have k1_0:(m==0)=true:=beq_iff_eq.2 zD;by_cases k2:1≤D.length
   ·skip
    have k2_0:decide ((1:Int)≤(D.length:Int))=true:=Ad zD;have k2_1:decide (1≤D.length)=true:=Ad zD;by_cases k3:D.length≤1048576
    ·skip
     have k3_0:decide ((D.length:Int)≤1048576)=true:=Ad zD;have k3_1:decide (D.length≤1048576)=true:=Ad zD;have hff:Hid (CP ⟨D,o,m⟩=true):=hid (by simp only[CP,F7,Ip,Dh,Aq,Av];first | omega | (simp;omega));clear hl h1 h2;go_enter G8,Ga;go_wp2;go_ret;exact⟨zM,zB⟩
    ·skip
     have k3_0:decide ((D.length:Int)≤1048576)=false:=Ae zD;have k3_1:decide (D.length≤1048576)=false:=Ae zD;have hff:Hid (CP ⟨D,o,m⟩=false):=hid (by rw[←GN];simp only[CP,F7,Ip,Dh,Aq,Av];first | omega | (simp;omega));clear hl h1 h2;go_enter G8,Ga;go_wp2;go_ret;exact⟨zM,zB⟩
   ·skip
    have k2_0:decide ((1:Int)≤(D.length:Int))=false:=Ae zD;have k2_1:decide (1≤D.length)=false:=Ae zD;have hff:Hid (CP ⟨D,o,m⟩=false):=hid (by rw[←GN];simp only[CP,F7,Ip,Dh,Aq,Av];first | omega | (simp;omega));clear hl h1 h2;go_enter G8,Ga;go_wp2;go_ret;exact⟨zM,zB⟩
  ·skip
   have k1_0:(m==0)=false:=beq_eq_false_iff_ne.2 zD;have hff:Hid (CP ⟨D,o,m⟩=false):=hid (by rw[←GN];simp only[CP,F7,Ip,Dh,Aq,Av];first | omega | (simp;omega));clear hl h1 h2;go_enter G8,Ga;go_wp2;go_ret;exact⟨zM,zB⟩
 ·skip
  have k0_0:(o==0)=false:=beq_eq_false_iff_ne.2 zD;by_cases k4:0<D.length
  ·skip
   have k4_0:decide ((0:Int)<(D.length:Int))=true:=Ad zD;have k4_1:decide (0<D.length)=true:=Ad zD;have hff:Hid (CP ⟨D,o,m⟩=false):=hid (by rw[←GN];simp only[CP,F7,Ip,Dh,Aq,Av];first | omega | (simp;omega));clear hl h1 h2;go_enter G8,Ga;go_wp2;go_ret;exact⟨zM,zB⟩
  ·skip
   obtain rfl:D=[]:=A2 zD;simp only[Bp] at*;by_cases k5:o<0
   ·skip
    have k5_0:decide (o<0)=true:=Ad zD;have hff:Hid (CP ⟨[],o,m⟩=false):=hid (by rw[←GN];simp only[CP,F7,Ip,Dh,Aq,Av,Bp];first | omega | (simp;omega));clear hl h1 h2;go_enter G8,Ga;go_wp2;go_ret;exact⟨zM,zB⟩
   ·skip
    have k5_0:decide (o<0)=false:=Ae zD;by_cases k6:65536<o
    ·skip
     have k6_0:decide ((65536:Int)<o)=true:=Ad zD;have hff:Hid (CP ⟨[],o,m⟩=false):=hid (by rw[←GN];simp only[CP,F7,Ip,Dh,Aq,Av,Bp];first | omega | (simp;omega));clear hl h1 h2;go_enter G8,Ga;go_wp2;go_ret;exact⟨zM,zB⟩
    ·skip
     have k6_0:decide ((65536:Int)<o)=false:=Ae zD;by_cases k7:4≤m
     ·skip
      have k7_0:decide ((4:Int)≤m)=true:=Ad zD;by_cases k8:m≤1048576
      ·skip
       have k8_0:decide (m≤1048576)=true:=Ad zD;have hff:Hid (CP ⟨[],o,m⟩=true):=hid (by simp only[CP,F7,Ip,Dh,Aq,Av,Bp];first | omega | (simp;omega));clear hl h1 h2;go_enter G8,Ga;go_wp2;go_ret;exact⟨zM,zB⟩
      ·skip
       have k8_0:decide (m≤1048576)=false:=Ae zD;have hff:Hid (CP ⟨[],o,m⟩=false):=hid (by rw[←GN];simp only[CP,F7,Ip,Dh,Aq,Av,Bp];first | omega | (simp;omega));clear hl h1 h2;go_enter G8,Ga;go_wp2;go_ret;exact⟨zM,zB⟩
     ·skip
      have k7_0:decide ((4:Int)≤m)=false:=Ae zD;have hff:Hid (CP ⟨[],o,m⟩=false):=hid (by rw[←GN];simp only[CP,F7,Ip,Dh,Aq,Av,Bp];first | omega | (simp;omega));clear hl h1 h2;go_enter G8,Ga;go_wp2;go_ret;exact⟨zM,zB⟩
theorem Cl(w:World){g base most:Nat}{J:List UInt8}{a:Option Addr}(h:BQ w g base most J a c)(x:Nat)(hx:x<18446744073709551616)(hfit:J.length+(Az x).length≤most)(hlen:J.length+(Az x).length≤100000000000000):
  Calls Tryz.prog 163 #[.pointer (some ⟨g,0,none⟩),.int .u64 x] w fun r w'=>r=.returned (.tuple #[])∧At w g base most (J++Az x) a w':=by
 have HV:=hid (Qn x hx w);have HP:=hid h;clear h;go_enter Tryz.func163,Tryz.ntmps163;go_wp2_with fail;refine HV.out.mono ?_;rintro r w1 ⟨v,rfl,hr,hb1⟩;obtain⟨a1,c1,hv,hr2,_⟩:=AN hr;simp only[As,AM] at hv;subst hv;have HQ:=hid (Fu w1 (HP.out.later hb1) (Az x) a1 _ c1 (Ah.mono hr2 fun q hq=>hq.2) hfit hlen);clear hr hr2;go_wp2_with fail;refine HQ.out.mono ?_;rintro r w2 ⟨rfl,hst⟩;have HST:=hid (At.later hb1 hst);clear hst;go_wp2;first | go_end0 | refine Al (Ax rfl _ _ _) rfl ?_
 exact⟨rfl,HST.out⟩
def Ks(t:Tok):List UInt8:=if F7 t then Az (2*t.lit.length-2)++t.lit else Az (2*t.len.toNat-7)++Az (t.off.toNat-1)
theorem Nu(D:List UInt8)(h1:1≤D.length)(h2:D.length≤1048576):Ks ⟨D,0,0⟩=Az (2*D.length-2)++D:=by
 unfold Ks;rw[Ai];simp[F7];omega
theorem LG(o m:Nat)(h1:1≤o):Ks ⟨[],(o:Int),(m:Int)⟩=Az (2*m-7)++Az (o-1):=by
 unfold Ks;rw[Ak]
 ·simp
 ·simp[F7]
theorem BQ.En{most:Nat}(h:BQ w g base most J a c){q:Nat}(hq:Dr g a q):base≤q∧q<w.heap.size:=by
 rcases hq with rfl | ⟨p,hp,rfl⟩
 ·exact⟨h.lo,h.blk.lt⟩
 ·subst hp
  exact h.own.lt _ rfl
theorem OQ(w:World){g base most:Nat}{J:List UInt8}{a:Option Addr}(h:BQ w g base most J a c)(D:List UInt8)(h1:1≤D.length)(h2:D.length≤1048576)(ad:Option Addr)(cd:Nat)
 (hD:Ah.r (fun q=>q<w.heap.size∧¬Dr g a q) w [.slice ad D.length cd] D) (hfit:J.length+(Ks ⟨D,0,0⟩).length≤most) (hlen:J.length+(Ks ⟨D,0,0⟩).length≤100000000000000):
  Calls Tryz.prog 376 #[.pointer (some ⟨g,0,none⟩),.agg #[.slice ad D.length cd,.int .i64 0,.int .i64 0]] w fun r w'=>r=.returned (.tuple #[])∧At w g base most (J++Ks ⟨D,0,0⟩) a w':=by
 have HR:=hid (fun (W:World)=>Mp ⟨D,0,0⟩ ad cd W zJ ⟨zN,zN⟩ ⟨zN,zN⟩);have hr:CP ⟨D,0,0⟩=true:=by simp[CP,F7];omega
 rw[hr] at HR;have hT:=Nu D h1 h2;rw[hT] at hfit hlen ⊢;rw[Ag] at hfit hlen;have HV:=hid (fun (W:World) (hW:Below w.heap.size w W)=>Cl W (h.later hW) (2*D.length-2) zD zD zD);have hno:=fun q (hq:Dr g a q)=>(h.En hq).2;have HNO:=hid hno;have HD:=hid hD;have hfit':=hid hfit;have hlen':=hid hlen;have e0:(((2*D.length-2:Nat)):Int)=((D.length:Int)-1)*2:=zD;rw[e0] at HV;clear hr hT h hD hno hfit hlen;go_enter Tryz.func376,Tryz.ntmps376;go_wp2_with fail;refine (HR.out _).mono ?_;rintro r w1 ⟨rfl,hb1⟩;have B1:Blk w1 w.heap.size 304 #[.slice ad D.length cd,.int .i64 0,.int .i64 0]:=(Blk.new w _ _).later hb1;have x0:w1.cell? ⟨w.heap.size,0,none⟩=some (.slice ad D.length cd):=B1.cell 0;have x1:w1.cell? ⟨w.heap.size,1,none⟩=some (.int .i64 0):=B1.cell 1;have hbw1:Below w.heap.size w w1:=zB;go_wp2_with fail;refine (HV.out _ hbw1).mono ?_;rintro r w2 ⟨rfl,a2,c2,hp2,ht2,ha2⟩;have B2:=B1.tch ht2 (fun hf=>by have:=HNO.out _ hf;omega);have y0:w2.cell? ⟨w.heap.size,0,none⟩=some (.slice ad D.length cd):=B2.cell 0;have hs1:=hbw1.size;have hD2:Ah.r (·<w2.heap.size) w2 [.slice ad D.length cd] D:=Ah.mono (Ah.keep HD.out fun q hq=>(ht2.block q zD hq.2).trans (hbw1.block q hq.1)) fun q hq=>Aj hq.1 (by have:=ht2.size;omega);have HQ:=hid (Fu w2 hp2 D ad _ cd hD2 zAz zAy);clear x0 x1 hD2;go_wp2_with fail;refine HQ.out.mono ?_;rintro r w3 ⟨rfl,hst⟩;have hst2:=At.later hbw1 (At.trans (J:=J) ht2 ha2 hst);rw[Ao] at hst2;have HST:=hid hst2;clear hst hst2;go_wp2;first | go_end0 | refine Al (Ax rfl _ _ _) rfl ?_
 exact⟨rfl,HST.out⟩
theorem Nt(w:World){g base most:Nat}{J:List UInt8}(h:BQ w g base most J a c)(o m:Nat)(h1:1≤o)(h2:o≤65536)(h3:4≤m)(h4:m≤1048576)(ad:Option Addr)(cd:Nat)
 (hfit:J.length+(Ks ⟨[],(o:Int),(m:Int)⟩).length≤most) (hlen:J.length+(Ks ⟨[],(o:Int),(m:Int)⟩).length≤100000000000000):
  Calls Tryz.prog 376 #[.pointer (some ⟨g,0,none⟩),.agg #[.slice ad 0 cd,.int .i64 o,.int .i64 m]] w fun r w'=>r=.returned (.tuple #[])∧At w g base most (J++Ks ⟨[],(o:Int),(m:Int)⟩) a w':=by
 have HR:=hid (fun (W:World)=>Mp ⟨[],(o:Int),(m:Int)⟩ ad cd W zN zJ zJ);have hr:CP ⟨[],(o:Int),(m:Int)⟩=true:=by simp[CP,Ip];omega
 rw[hr] at HR;have hT:=LG o m h1;rw[hT] at hfit hlen ⊢;rw[Ag] at hfit hlen;have HV:=hid (fun (W:World) (hW:Below w.heap.size w W)=>Cl W (h.later hW) (2*m-7) zD zD zD);have hno:=fun q (hq:Dr g a q)=>(h.En hq).2;have HNO:=hid hno;have hfit':=hid hfit;have hlen':=hid hlen;have e0:(((2*m-7:Nat)):Int)=((m:Int)-4)*2+1:=zD;rw[e0] at HV;have d1:((o:Int)==0)=false:=zH;have d2:(o==0)=false:=zH;simp only[Bp] at HR;clear hr hT h hno hfit hlen;go_enter Tryz.func376,Tryz.ntmps376;go_wp2_with fail;refine (HR.out _).mono ?_;rintro r w1 ⟨rfl,hb1⟩;have B1:Blk w1 w.heap.size 304 #[.slice ad 0 cd,.int .i64 o,.int .i64 m]:=(Blk.new w _ _).later hb1;have x1:w1.cell? ⟨w.heap.size,1,none⟩=some (.int .i64 o):=B1.cell 1;have x2:w1.cell? ⟨w.heap.size,2,none⟩=some (.int .i64 m):=B1.cell 2;have hbw1:Below w.heap.size w w1:=zB;go_wp2_with fail;refine (HV.out _ hbw1).mono ?_;rintro r w2 ⟨rfl,a2,c2,hp2,ht2,ha2⟩;have B2:=B1.tch ht2 (fun hf=>by have:=HNO.out _ hf;omega);have y1:w2.cell? ⟨w.heap.size,1,none⟩=some (.int .i64 o):=B2.cell 1;have HQ:=hid (Cl w2 hp2 (o-1) zD zAz zAy);rw[show ((o-1:Nat):Int)=(o:Int)-1 by omega] at HQ;clear x1 x2;go_wp2_with fail;refine HQ.out.mono ?_;rintro r w3 ⟨rfl,hst⟩;have hst2:=At.later hbw1 (At.trans (J:=J) ht2 ha2 hst);rw[Ao] at hst2;have HST:=hid hst2;clear hst hst2;go_wp2;first | go_end0 | refine Al (Ax rfl _ _ _) rfl ?_
 exact⟨rfl,HST.out⟩
def Gw(xs:List Tok):Nat:=(xs.map fun t=>t.lit.length+20).sum
def Cn(xs:List Tok):List UInt8:=(xs.map Ks).flatten
theorem NQ(xs:List Tok)(k:Nat)(h:k<xs.length):Gw (xs.take (k+1))=Gw (xs.take k)+(xs[k].lit.length+20):=by
 unfold Gw;rw[AW h,BX,List.sum_append];simp
theorem KV(xs:List Tok)(k:Nat)(h:k<xs.length):Cn (xs.take (k+1))=Cn (xs.take k)++Ks xs[k]:=by
 unfold Cn;rw[AW h,BX,CK];simp
theorem K1(xs:List Tok)(hL:∀t∈xs,t.lit.length≤1048576)(k:Nat)(hk:k≤xs.length):Gw (xs.take k)≤k*1048596:=by
 induction k with
 | zero=>simp [Gw]
 | succ k ih=>
  rw[NQ xs k zD];have:=ih zD;have:=hL _ (Bi (show k<xs.length by omega));omega
theorem Tw(xs:List Tok)(k:Nat):Gw (xs.take k)≤Gw xs:=by
 have:Gw xs=Gw (xs.take k)+Gw (xs.drop k):=by
  unfold Gw;conv=>lhs;rw[←Ce k xs]
  rw[BX,List.sum_append]
 omega
theorem Xh(t:Tok):(Ks t).length≤t.lit.length+20:=by
 unfold Ks;split
 ·rw[Ag];have:=AZ (2*t.lit.length-2);omega
 ·rw[Ag];have:=AZ (2*t.len.toNat-7);have:=AZ (t.off.toNat-1);omega
theorem Ju(xs:List Tok):(Cn xs).length≤Gw xs:=by
 unfold Cn Gw;induction xs with
 | nil=>simp
 | cons t xs ih=>simp only[Dg,Du,Ag,List.sum_cons];have:=Xh t;omega
theorem VM:(Az 18446744073709551615).length=10:=zE
theorem Gx{t:Tok}(h:CP t=true):(∃D,t=⟨D,0,0⟩∧1≤D.length∧D.length≤1048576)∨∃o m:Nat,t=⟨[],(o:Int),(m:Int)⟩∧1≤o∧o≤65536∧4≤m∧m≤1048576:=by
 obtain⟨D,o,m⟩:=t;simp only[CP,F7,Ip,Dh,Aq,Av] at h;rcases h with ⟨rfl,rfl,h1,h2⟩ | ⟨h0,h1,h2,h3,h4⟩
 ·exact .inl ⟨D,rfl,h1,h2⟩
 ·refine .inr ⟨o.toNat,m.toNat,?_,zD,zD,zD,zD⟩
  rw[A2 h0,Int.toNat_of_nonneg zD,Int.toNat_of_nonneg zD]
theorem Te(xs:List Tok)(a:Option Addr)(n c:Nat)(w:World)(hl:MD.r (·<w.heap.size) w [.slice a n c] xs)(hx:xs.length≤10000000)(hL:∀t∈xs,t.lit.length≤1048576):
  Calls Tryz.prog 375 #[.slice a n c] w fun r w'=>r=.returned (.int .i64 (Gw xs))∧Below w.heap.size w w':=by
 obtain⟨rfl,hm,_,_⟩:=AT hl;have HL:=hid hl;clear hl;go_enter Tryz.func375,Tryz.ntmps375;go_wp2_with fail;go_loopw [3,8] (fun s i wr=>∃k:Nat,k≤xs.length∧i=.int .i64 k∧(∃t:Nat,s=.int .i64 t∧Hid (t=Gw (xs.take k)))∧Below w.heap.size w wr) (fun _ i _=>xs.length-(intOf i).toNat)
 case atStart=>exact ⟨0,Am _,rfl,⟨0,rfl,hid (by simp[Gw])⟩,Below.refl _ _⟩
 case round=>
  obtain⟨k,hk,rfl,⟨t,rfl,ht⟩,hb⟩:=hrel;rcases Bh k xs.length with hlt | hge
  ·obtain⟨b,o,hA,hbb,a2,c2,x0,x1,x2,_,_,_⟩:=Qq HL.out hlt
   subst hA;have X0:=(hb.cell (p:=⟨b,o+k*3,none⟩) hbb).trans x0;have X1:=(hb.cell (p:=⟨b,o+k*3+1,none⟩) hbb).trans x1;have X2:=(hb.cell (p:=⟨b,o+k*3+2,none⟩) hbb).trans x2;have hn:=hid (NQ xs k hlt);have hle:=K1 xs hL k zD;have hD:=hL _ (Bi hlt);rw[←ht.out] at hle;clear x0 x1 x2;generalize xs[k]=y at*;obtain⟨D,yo,ym⟩:=y;dsimp only at*;have hbs:=hb.size;have i1:(k:Int)<(xs.length:Int):=zD;go_wp2_with fail;refine Gs (fun W=>Below wr.heap.size wr W∧wr.heap.size<W.heap.size∧W.cell? ⟨wr.heap.size,0,none⟩=some (.slice a2 D.length c2)) ⟨zB,zN,by go_simp⟩ ?_;intro W ⟨hbW,hzW,u0⟩;have U0:=fun s:AX W=>s.cell u0;have HS:=hid (fun s:AX W=>Mm 18446744073709551615 zD s.at_);rw[VM] at HS;have hbw:=Af hbW hb;clear X0 X1 X2 u0;refine AR zI zI ?_;repeat (go_big_quiet_step (((go_at_call 245;exact BZ (HS.out _)))))
   refine Bm ?_;rintro W5 ⟨⟨W5',hb5⟩,rfl⟩;go_wp2;go_roundw
   case rel=>exact ⟨k+1,zD,zV,⟨t+(D.length+20),zV,hid (by rw[hn.out,ht.out])⟩,Af hb5 hbw⟩
   case measure=>simp [intOf];omega
  ·obtain rfl:k=xs.length:=by omega
   rw[DX] at ht;go_wp2;go_ret;exact⟨by rw[←ht.out];rfl,hb⟩
theorem BQ.below{most:Nat}{B:Nat}(h:BQ w g base most J a c)(hB:B≤base)(hB2:B≤w.heap.size)(k:At w g base most J' a w'):Below B w w':=by
 obtain⟨a',c',k1,k2,k3⟩:=k;exact k2.Cw hB2 fun b _ hb=>A4 hB (h.En hb).1
theorem Rm(xs:List Tok)(a:Option Addr)(n c:Nat)(w:World)(hl:MD.r (·<w.heap.size) w [.slice a n c] xs)(hx:xs.length≤10000000)(hR:∀t∈xs,CP t=true):
  Calls Tryz.prog 368 #[.slice a n c] w fun r w'=>∃v,r=.returned (.tuple #[v,.int .i64 0])∧Ah.r (fun q=>w.heap.size≤q∧q<w'.heap.size) w' [v] (Cn xs)∧Below w.heap.size w w':=by
 obtain⟨rfl,hm,_,_⟩:=AT hl;have hL:∀t∈xs,t.lit.length≤1048576:=fun t ht=>by
  rcases Gx (hR t ht) with ⟨D,rfl,h1,h2⟩ | ⟨o,m,rfl,_⟩
  ·exact h2
  ·simp
 have HRM:=hid (Te xs a _ c w hl hx hL);have hrl:=K1 xs hL xs.length (An _);rw[DX] at hrl;have HMO:=hid (fun k=>Tw xs k);have HL:=hid hl;have HR:=hid hR;clear hl hR hL;generalize hM:Gw xs=M at*;have hMM:=hid hM;clear hM;go_enter Tryz.func368,Tryz.ntmps368;go_wp2_with fail;refine HRM.out.mono ?_;rintro r w1 ⟨rfl,hb1⟩;have HN:=hid (I2 w1 M zD);go_wp2_with fail;refine HN.out.mono ?_;rintro r w2 ⟨rfl,hp2,hb2⟩;have hs1:=hb1.size;have hs2:=hb2.size;have HP2:=hid hp2;have hbw2:=Af hb2 hb1;clear hp2;generalize hg:w1.heap.size=g at*;go_wp2_with fail;go_loopw [12] (fun i wr=>∃k:Nat,k≤xs.length∧i=.int .i64 k∧Hid (∃ap cp,BQ wr g g M (Cn (xs.take k)) ap cp)∧Below g w2 wr) (fun i _=>xs.length-(intOf i).toNat)
 case atStart=>exact ⟨0,Am _,rfl,hid ⟨_,_,by simpa [Cn] using HP2.out⟩,Below.refl _ _⟩
 case round=>
  obtain⟨k,hk,rfl,hpen,hb⟩:=hrel;obtain⟨ap,cp,hP⟩:=hpen.out;have hbw:Below w.heap.size w wr:=⟨hb.os.trans hbw2.os,hb.tape.trans hbw2.tape,hb.output.trans hbw2.output,by have:=hb.size;omega,fun q hq=>(hb.block q zD).trans (hbw2.block q hq)⟩;have hgl:=hP.blk.lt;rcases Bh k xs.length with hlt | hge
  ·obtain⟨b,o,hA,hbb,a2,c2,x0,x1,x2,_,_,xl⟩:=Qq HL.out hlt
   subst hA;have X0:=(hbw.cell (p:=⟨b,o+k*3,none⟩) hbb).trans x0;have X1:=(hbw.cell (p:=⟨b,o+k*3+1,none⟩) hbb).trans x1;have X2:=(hbw.cell (p:=⟨b,o+k*3+2,none⟩) hbb).trans x2;have hst:=KV xs k hlt;have hfit:(Cn (xs.take k)).length+(Ks xs[k]).length≤M:=by
    have h1:=Ju (xs.take (k+1));rw[hst,Ag] at h1;have h2:=HMO.out (k+1);omega
   have hr:=HR.out _ (Bi hlt);have HST:=hid hst;have HXL:=hid xl;have HFIT:=hid hfit;clear x0 x1 x2 xl hst hfit;generalize xs[k]=y at*;generalize Cn (xs.take k)=J at*;have hbs:=hb.size;have i1:(k:Int)<(xs.length:Int):=zD;have HP:=hid hP;clear hP hpen;rcases Gx hr with ⟨D,rfl,k1,k2⟩ | ⟨yo,ym,rfl,k1,k2,k3,k4⟩
   ·dsimp only at X0 X1 X2 HXL
    clear hr;go_wp2_with fail;have hbW:Below wr.heap.size wr (wr.alloc (.cells #[.slice a2 D.length c2,.int .i64 0,.int .i64 0] 304)):=zB;generalize wr.alloc (.cells #[.slice a2 D.length c2,.int .i64 0,.int .i64 0] 304)=W at*;have hzW:=hbW.size;have hPW:=HP.out.later hbW;have HQ:=hid (OQ W hPW D k1 k2 a2 c2 (Ah.mono (Ah.keep HXL.out fun q hq=>(Af hbW hbw).block q hq) fun q hq=>⟨Aj hq (by have:=hbw.size;omega),fun hf=>by have:=(hPW.En hf).1;have hq':q<w.heap.size:=hq;omega⟩) HFIT.out (by have:=HFIT.out;omega));have HPW:=hid hPW;clear X0 X1 X2 hPW;refine HQ.out.mono ?_;rintro r w5 ⟨rfl,hps⟩;have hb5:Below g w2 w5:=by
     have e1:Below g W w5:=HPW.out.below (An _) zD hps;exact (hb.trans (hbW.mono zD)).trans e1
    obtain⟨a5,c5,hP5,_,_⟩:=hps;have HP5:=hid (⟨a5,c5,by rw[HST.out];exact hP5⟩:∃ap cp,BQ w5 g g M (Cn (xs.take (k+1))) ap cp);clear hP5;go_wp2;go_roundw
    case rel=>exact ⟨k+1,zD,zV,HP5,hb5⟩
    case measure=>simp [intOf];omega
   ·dsimp only[Bp] at X0 X1 X2 HXL
    clear hr;go_wp2_with fail;have hbW:Below wr.heap.size wr (wr.alloc (.cells #[.slice a2 0 c2,.int .i64 yo,.int .i64 ym] 304)):=zB;generalize wr.alloc (.cells #[.slice a2 0 c2,.int .i64 yo,.int .i64 ym] 304)=W at*;have hzW:=hbW.size;have hPW:=HP.out.later hbW;have HQ:=hid (Nt W hPW yo ym k1 k2 k3 k4 a2 c2 HFIT.out (by have:=HFIT.out;omega));have HPW:=hid hPW;clear X0 X1 X2 hPW;refine HQ.out.mono ?_;rintro r w5 ⟨rfl,hps⟩;have hb5:Below g w2 w5:=by
     have e1:Below g W w5:=HPW.out.below (An _) zD hps;exact (hb.trans (hbW.mono zD)).trans e1
    obtain⟨a5,c5,hP5,_,_⟩:=hps;have HP5:=hid (⟨a5,c5,by rw[HST.out];exact hP5⟩:∃ap cp,BQ w5 g g M (Cn (xs.take (k+1))) ap cp);clear hP5;go_wp2;go_roundw
    case rel=>exact ⟨k+1,zD,zV,HP5,hb5⟩
    case measure=>simp [intOf];omega
  ·obtain rfl:k=xs.length:=by omega
   rw[DX] at hP;have HB:=hid (Hb wr hP);clear hP hpen;go_wp2_with fail;refine HB.out.mono ?_;rintro r w5 ⟨v,rfl,hv,hb5⟩;have hbe:=Af hb5 hbw;have HV:=hid (Ah.mono (S':=fun q=>w.heap.size≤q∧q<w5.heap.size) hv fun q hq=>⟨by have:=hq.1;have:=hbw.size;omega,hq.2⟩);clear hv;go_wp2;go_ret2
   exact⟨_,rfl,HV.out,hbe⟩
theorem Dl(J D:List UInt8):byteCells J++byteCells D=byteCells (J++D):=zAm
theorem RN(xs:List Tok)(a:Option Addr)(n c:Nat)(w:World)(hl:MD.r (·<w.heap.size) w [.slice a n c] xs)(hx:xs.length≤10000000)(hR:∀t∈xs,CP t=true):
  Calls Tryz.prog 322 #[.slice a n c] w fun r w'=>∃v,r=.returned v∧Ah.r (fun q=>w.heap.size≤q∧q<w'.heap.size) w' [v] (Cn xs)∧Below w.heap.size w w':=by
 obtain⟨rfl,hm,_,_⟩:=AT hl;obtain⟨i0,hi,hz0,hz1,hz2⟩:=A3 DH;have hL:∀t∈xs,t.lit.length≤1048576:=fun t ht=>by
  rcases Gx (hR t ht) with ⟨D,rfl,h1,h2⟩ | ⟨o,m,rfl,_⟩
  ·exact h2
  ·simp
 have HRL:=hid (fun k (hk:k≤xs.length)=>A4 (Ju (xs.take k)) (K1 xs hL k hk));have HL:=hid hl;have HR:=hid hR;clear hl hR hL;go_enter Tryz.func322,Tryz.ntmps322;go_wp2_with fail;go_loopw [3,4] (fun v i wr=>∃k:Nat,k≤xs.length∧i=.int .i64 k∧wr.ownsRow w.heap.size 5 1 v (Cn (xs.take k)).length (byteCells (Cn (xs.take k)))∧Below w.heap.size w wr) (fun _ i _=>xs.length-(intOf i).toNat)
 case atStart=>exact ⟨0,Am _,rfl,⟨rfl,.inl ⟨rfl,rfl⟩⟩,Below.refl _ _⟩
 case round=>
  obtain⟨k,hk,rfl,hown,hb⟩:=hrel;have hbs:=hb.size;rcases Bh k xs.length with hlt | hge
  ·obtain⟨b,o,hA,hbb,a2,c2,x0,x1,x2,_,_,xl⟩:=Qq HL.out hlt
   subst hA;have X0:=(hb.cell (p:=⟨b,o+k*3,none⟩) hbb).trans x0;have X1:=(hb.cell (p:=⟨b,o+k*3+1,none⟩) hbb).trans x1;have X2:=(hb.cell (p:=⟨b,o+k*3+2,none⟩) hbb).trans x2;have hst:=hid (KV xs k hlt);have hle:=HRL.out (k+1) hlt;rw[hst.out,Ag] at hle;have hr:=HR.out _ (Bi hlt);have HXL:=hid xl;have HX:=hid (And.intro x0 (And.intro x1 x2));clear x0 x1 x2 xl;obtain⟨aJ,cJ,rfl⟩:=AD hown;generalize xs[k]=y at*;generalize Cn (xs.take k)=J at*;have i1:(k:Int)<(xs.length:Int):=zD;have HO:=hid hown;clear hown;rcases Gx hr with ⟨D,rfl,k1,k2⟩ | ⟨yo,ym,rfl,k1,k2,k3,k4⟩
   ·have hrun:F7 ⟨D,0,0⟩=true:=by simp[F7];omega
    have HRUN:=hid (Pp ⟨D,0,0⟩ a2 c2 wr zJ ⟨zN,zN⟩ ⟨zN,zN⟩);rw[hrun] at HRUN;have hT:=Nu D k1 k2;rw[hT] at hle hst;rw[Ag] at hle;have HV:=hid (fun (W:World)=>Jy (2*D.length-2) zD W);rw[show (((2*D.length-2:Nat)):Int)=2*(D.length:Int)-2 by omega] at HV;dsimp only at X0 X1 X2 HXL HX;clear hr hrun hT;go_wp2_with fail;refine HRUN.out.mono ?_;rintro r w1 ⟨rfl,hb1⟩;have hbw1:=Af hb1 hb;have Y0:=(hbw1.cell (p:=⟨b,o+k*3,none⟩) hbb).trans HX.out.1;have hs1:=hb1.size;clear X0 X1 X2;go_wp2_with fail;refine (HV.out _).mono ?_;rintro r w2 ⟨v2,rfl,hv2,hb2⟩;obtain⟨a3,c3,hv3,hr3,_⟩:=AN hv2;simp only[As,AM] at hv3;subst hv3;have hs2:=hb2.size;have hb12:=Af hb2 hb1;have hbw2:=Af hb2 hbw1;have HO2:=hid (AF (AF HO.out hb1) hb2);have HS:=hid (A8 (Ah.mono (S':=(·<w2.heap.size)) hr3 fun q hq=>hq.2));generalize Az (2*D.length-2)=E at*;have HONE:=hid (AI E);clear hv2 hr3 Y0;go_wp2_with (first
     | (at_builtin;go_loud (refine Ar rfl _ _ _ rfl w.heap.size 5 i0 (.int .u8 0) 1 1 Au hi hz0 hz1 hz2 rfl zO (.slice aJ J.length cJ) J.length (byteCells J) rfl HO2.out a3 E.length c3 (byteCells E) rfl HS.out HONE.out zK zD zD ?_;intro v' w3 hown3 hgrow3 hat3;obtain⟨a4,c4,rfl⟩:=AD hown3;have HG3:=hid hgrow3;have HO3:=hid hown3;have hbw3:Below w.heap.size w w3:=(Below.grown hbw2 hgrow3 zD (fun g e=>(HO.out.lt g e).1));have Z0:=(hbw3.cell (p:=⟨b,o+k*3,none⟩) hbb).trans HX.out.1;have hs3:=hgrow3.size;have HS3:=hid (A8 (lift HXL.out hbw3));have HONE3:=hid (AI D);clear hgrow3 hown3 hat3))
     | (at_builtin;go_loud (refine Ar rfl _ _ _ rfl w.heap.size 5 i0 (.int .u8 0) 1 1 Au hi hz0 hz1 hz2 rfl zO (.slice a4 (J.length+E.length) c4) (J.length+E.length) (byteCells J++byteCells E) rfl HO3.out a2 D.length c2 (byteCells D) rfl HS3.out HONE3.out zK zD zD ?_;intro v' w5 hown5 hgrow5 hat5;have HG5:=hid hgrow5;have HO5:=hid hown5;clear hgrow5 hown5 hat5)))
    have ho:=HO5.out;rw[Dl,Dl,Ao,←hst.out] at ho;have hln:J.length+E.length+D.length=(Cn (xs.take (k+1))).length:=zCn;rw[hln] at ho;have HOF:=hid ho;have hbF:Below w.heap.size w w5:=Below.grown hbw3 HG5.out zD (fun g e=>(HO3.out.lt g e).1);clear ho hln Z0;go_wp2;go_roundw
    case rel=>exact ⟨k+1,zD,zV,HOF.out,hbF⟩
    case measure=>simp [intOf];omega
   ·have hrun:F7 ⟨[],(yo:Int),(ym:Int)⟩=false:=by simp[F7]
    have HRUN:=hid (Pp ⟨[],(yo:Int),(ym:Int)⟩ a2 c2 wr zN zJ zJ);rw[hrun] at HRUN;have hT:=LG yo ym k1;rw[hT] at hle hst;rw[Ag] at hle;have HV:=hid (fun (W:World)=>Jy (2*ym-7) zD W);have HV2:=hid (fun (W:World)=>Jy (yo-1) zD W);rw[show (((2*ym-7:Nat)):Int)=2*(ym:Int)-7 by omega] at HV;rw[show (((yo-1:Nat)):Int)=(yo:Int)-1 by omega] at HV2;dsimp only[Bp] at X0 X1 X2 HXL HX HRUN;clear hr hrun hT;go_wp2_with fail;refine HRUN.out.mono ?_;rintro r w1 ⟨rfl,hb1⟩;have hbw1:=Af hb1 hb;have Y2:=(hbw1.cell (p:=⟨b,o+k*3+2,none⟩) hbb).trans HX.out.2.2;have hs1:=hb1.size;clear X0 X1 X2;go_wp2_with fail;refine (HV.out _).mono ?_;rintro r w2 ⟨v2,rfl,hv2,hb2⟩;obtain⟨a3,c3,hv3,hr3,_⟩:=AN hv2;simp only[As,AM] at hv3;subst hv3;have hs2:=hb2.size;have hb12:=Af hb2 hb1;have hbw2:=Af hb2 hbw1;have HO2:=hid (AF (AF HO.out hb1) hb2);have HS:=hid (A8 (Ah.mono (S':=(·<w2.heap.size)) hr3 fun q hq=>hq.2));generalize Az (2*ym-7)=E at*;have HONE:=hid (AI E);clear hv2 hr3 Y2;go_wp2_with (at_builtin;go_loud (refine Ar rfl _ _ _ rfl w.heap.size 5 i0 (.int .u8 0) 1 1 Au hi hz0 hz1 hz2 rfl zO (.slice aJ J.length cJ) J.length (byteCells J) rfl HO2.out a3 E.length c3 (byteCells E) rfl HS.out HONE.out zK zD zD ?_;intro v' w3 hown3 hgrow3 hat3;obtain⟨a4,c4,rfl⟩:=AD hown3;have HG3:=hid hgrow3;have HO3:=hid hown3;have hbw3:Below w.heap.size w w3:=(Below.grown hbw2 hgrow3 zD (fun g e=>(HO.out.lt g e).1));have Z1:=(hbw3.cell (p:=⟨b,o+k*3+1,none⟩) hbb).trans HX.out.2.1;have hs3:=hgrow3.size;clear hgrow3 hown3 hat3))
    refine (HV2.out _).mono ?_;rintro r w4 ⟨v4,rfl,hv4,hb4⟩;obtain⟨a5,c5,hv5,hr5,_⟩:=AN hv4;simp only[As,AM] at hv5;subst hv5;have hs4:=hb4.size;have hbw4:=Af hb4 hbw3;have HO4:=hid (AF HO3.out hb4);have HS4:=hid (A8 (Ah.mono (S':=(·<w4.heap.size)) hr5 fun q hq=>hq.2));generalize Az (yo-1)=E2 at*;have HONE4:=hid (AI E2);clear hv4 hr5;go_wp2_with (at_builtin;go_loud (refine Ar rfl _ _ _ rfl w.heap.size 5 i0 (.int .u8 0) 1 1 Au hi hz0 hz1 hz2 rfl zO (.slice a4 (J.length+E.length) c4) (J.length+E.length) (byteCells J++byteCells E) rfl HO4.out a5 E2.length c5 (byteCells E2) rfl HS4.out HONE4.out zK zD zD ?_;intro v' w5 hown5 hgrow5 hat5;have HG5:=hid hgrow5;have HO5:=hid hown5;clear hgrow5 hown5 hat5))
    have ho:=HO5.out;rw[Dl,Dl,Ao,←hst.out] at ho;have hln:J.length+E.length+E2.length=(Cn (xs.take (k+1))).length:=zCn;rw[hln] at ho;have HOF:=hid ho;have hbF:Below w.heap.size w w5:=Below.grown hbw4 HG5.out zD (fun g e=>(HO4.out.lt g e).1);clear ho hln Z1;go_wp2;go_roundw
    case rel=>exact ⟨k+1,zD,zV,HOF.out,hbF⟩
    case measure=>simp [intOf];omega
  ·obtain rfl:k=xs.length:=by omega
   rw[DX] at hown;have hV:=Cg rfl hown;have HV:=hid hV;clear hV hown;go_wp2;go_ret;exact⟨_,rfl,HV.out,hb⟩
end Go.Proofs.YtfddhafbhceoaaaGreat
namespace Go.Bs
open Go.RowKit
variable{base n:Nat}{e:TypeId}
theorem TY{w:World}{v:Value}{l:List UInt8}(hn:n=l.length)(h:w.ownsRow base e 1 v n (byteCells l)):Ah.r (fun b=>v.ownBlock=some b) w [v] l:=by
 subst hn;rcases h.2 with ⟨rfl,h0⟩ | ⟨g,cap,cur,rfl,hbg,hg,hn,hc,hcur,hx⟩
 ·have:l=[]:=A2 h0
  subst this;exact Bt rfl (An _) (Am _) (.inl rfl)
 ·refine Bt rfl hn hc (.inr ⟨g,0,rfl,rfl,fun i x hi=>⟨[.int .u8 (x.toNat:Int)],rfl,fun j v hj=> ?_,rfl⟩⟩)
  have hj0:j=0:=by
   rcases j with _ | j
   ·rfl
   ·simp at hj
  subst hj0;simp at hj;subst hj;have hi':i<l.length:=(List.getElem?_eq_some_iff.1 hi).1;rw[A1,Fi,Cu,Blk.cell hg i];have e1:cur[i]? =(cur.toList.take (l.length*1))[i]? :=by
   rw[Df,Ai zD];simp
  rw[e1,hx];simp[byteCells,hi]
end Go.Bs
namespace Go.Proofs.YtfddhafbhceoaaaGreat
open Go.RowKit Go.Bs Go.Maps
variable{D J J' b:List UInt8}{base c g i lo n o p sz:Nat}{F:Nat → Prop}{a a1:Option Addr}{e:TypeId}{v vl:Value}{w w' w1:World}
def rTV:Rp (Tok ⊕ Value):=
  ⟨fun S w cs x=>match x with | .inl t=>IC.r S w cs t | .inr v=>cs=[v,.int .i64 0,.int .i64 0],
   fun {S w w' cs x} h hk=>by cases x with | inl b=>exact IC.keep h hk | inr y=>exact h,
   fun {S S' w cs x} h hk=>by cases x with | inl b=>exact IC.mono h hk | inr y=>exact h⟩
structure Jr(lo:Nat)(w:World)(g c:Nat)(cells:List (List Value))(ts:List Tok)(D:List UInt8)(vl:Value):Prop where
 own:AY (fun x=>lo≤x∧x<w.heap.size∧vl.ownBlock≠some x) rTV lo 304 3 w (.slice (some ⟨g,0,none⟩) (ts.length+1) c) (ts.map .inl++[.inr vl]) (cells++[[vl,.int .i64 0,.int .i64 0]])
 len:cells.length=ts.length
 last:w.ownsRow lo 5 1 vl D.length (byteCells D)
 ne:vl.ownBlock≠some g
theorem Aal{xs:List Tok}{cells:List (List Value)}(h:AY F IC base e sz w v xs cells):AY F rTV base e sz w v (xs.map .inl) cells:=by
 obtain⟨ho,hlen,hsz,hA⟩:=h;refine⟨by simpa using ho,zCs,hsz,fun i cs x hi hx=> ?_⟩;rw[Ee] at hx;cases hxi:xs[i]? with
 | none=>rw [hxi] at hx;cases hx
 | some y=>rw [hxi] at hx;cases hx;exact hA i cs y hi hxi
theorem Jr.AbG{cells:List (List Value)}{ts:List Tok}(h:Jr lo w g c cells ts D vl):lo≤g∧g<w.heap.size:=h.own.1.lt g rfl
theorem Jr.close{cells:List (List Value)}{ts:List Tok}(h:Jr lo w g c cells ts D vl):
  Dd lo IC lo 304 3 w (.slice (some ⟨g,0,none⟩) (ts.length+1) c) (ts++[⟨D,0,0⟩]) (cells++[[vl,.int .i64 0,.int .i64 0]]):=by
 obtain⟨⟨ho,hlen,hsz,hA⟩,h1,h4,h5⟩:=h;refine⟨by simpa using ho,zCs,hsz,fun i cs x hi hx=> ?_⟩;by_cases hlt:i<ts.length
 ·rw[A5 hlt] at hx
  have:=hA i cs (.inl x) hi zBj;exact IC.mono this fun b hb=>⟨hb.1.1,hb.1.2.1,hb.2⟩
 ·have hii:i=ts.length:=by
   have:=(List.getElem?_eq_some_iff.1 hx).1;simp at this;omega
  subst hii;rw[Bo zD] at hi;rw[Bo (An _)] at hx;simp[h1] at hi;simp at hx;subst hi hx;exact Qp (x:=⟨D,0,0⟩) (Ah.mono (TY rfl h4) fun b hb=>⟨(h4.lt b hb).1,(h4.lt b hb).2,fun e=>h5 (by rw[hb];exact e.symm)⟩) zN zN
theorem Jr.start{ts:List Tok}{y:UInt8}{cells:List (List Value)}(hlo:lo≤w.heap.size)(h:Dd lo IC lo 304 3 w v ts cells)
 (hown:w'.ownsRow lo 304 3 (.slice (some ⟨g,0,none⟩) (ts.length+1) c) (ts.length+1) (cells.flatten++[.slice (some ⟨w.heap.size,0,none⟩) 1 1,.int .i64 0,.int .i64 0]))
 (hg:((w.alloc (.cells #[.int .u8 (y.toNat:Int)] 5)).alloc (.cells #[.slice (some ⟨w.heap.size,0,none⟩) 1 1,.int .i64 0,.int .i64 0] 304)).grownBy w' v.ownBlock)
 (hat:(Value.slice (some ⟨g,0,none⟩) (ts.length+1) c).ownBlock=v.ownBlock∨(Value.slice (some ⟨g,0,none⟩) (ts.length+1) c).ownBlock=some ((w.alloc (.cells #[.int .u8 (y.toNat:Int)] 5)).alloc (.cells #[.slice (some ⟨w.heap.size,0,none⟩) 1 1,.int .i64 0,.int .i64 0] 304)).heap.size):
  Jr lo w' g c cells ts [y] (.slice (some ⟨w.heap.size,0,none⟩) 1 1):=by
 have hv:=fun q (hq:v.ownBlock=some q)=>(h.1.lt q hq).2;generalize hW:(w.alloc (.cells #[.int .u8 (y.toNat:Int)] 5)).alloc (.cells #[.slice (some ⟨w.heap.size,0,none⟩) 1 1,.int .i64 0,.int .i64 0] 304)=W at*;have keep:∀b,b<w.heap.size→W.heap[b]? =w.heap[b]? :=fun b hb=>by
  rw[←hW,Bx _ _ _ zH,Bx _ _ _ hb]
 have hs:W.heap.size=w.heap.size+2:=by rw[←hW];simp
 have hnew:W.heap[w.heap.size]? =some (.cells #[.int .u8 (y.toNat:Int)] 5 (0,0)):=by
  rw[←hW,Bx _ _ _ zN];exact F0 w _
 have hgw:g≠w.heap.size:=fun e=>by
  rcases hat with h1 | h1
  ·have:=hv g (by rw[←h1];rfl);omega
  ·have:=A7 h1;simp at this;omega
 have hs':=hg.size;have h1:=Aal (((AY.of h).keep (w':=W) (fun b hb=>keep b hb.2) (fun q hq=>keep q (hv q hq))).mono (F':=fun x=>lo≤x∧x<W.heap.size∧x≠w.heap.size) fun b hb=>⟨hb.1,zD,zD⟩);have h2:=AY.push (v':=.slice (some ⟨g,0,none⟩) (ts.length+1) c) (x:=(.inr (.slice (some ⟨w.heap.size,0,none⟩) 1 1):Tok ⊕ Value)) h1 (fun b hb=>hb.2.1) (news:=[.slice (some ⟨w.heap.size,0,none⟩) 1 1,.int .i64 0,.int .i64 0]) rfl rfl zCr hg hat;refine⟨h2.mono fun b hb=>⟨hb.1,zD,fun e=>hb.2.2 (A7 e).symm⟩,h.2.1,?_,fun e=>hgw (A7 e).symm⟩;refine GF hlo ((hg.block w.heap.size zD (fun e=> ?_)).trans hnew);have:=hv w.heap.size e.symm;omega
theorem Jr.grow{cells:List (List Value)}{ts:List Tok}{D':List UInt8}{vl':Value}(h:Jr lo w g c cells ts D vl)
 (hk:∀b,b<w.heap.size→vl.ownBlock≠some b→w'.heap[b]? =w.heap[b]?) (hs:w.heap.size≤w'.heap.size) (hl:w'.ownsRow lo 5 1 vl' D'.length (byteCells D'))
 (hat:vl'.ownBlock=vl.ownBlock∨∃q,vl'.ownBlock=some q∧w.heap.size≤q):
  Jr lo (w'.setCell ⟨g,ts.length*3,none⟩ vl') g c cells ts D' vl':=by
 have hgl:=h.AbG;obtain⟨ho,h1,h4,h5⟩:=h;have hsame:(w'.setCell ⟨g,ts.length*3,none⟩ vl').heap.size=w'.heap.size:=ZK;have hne':vl'.ownBlock≠some g:=fun e=>by
  rcases hat with h | ⟨q,h,hq⟩
  ·exact h5 (h ▸ e)
  ·rw[h] at e;have:=A7 e;omega
 have ho':=ho.keep (w':=w') (fun b hb=>hk b hb.2.1 hb.2.2) (fun g' hg'=>by
  have e:g=g':=by simpa [Value.ownBlock] using hg'
  subst e;exact hk g hgl.2 h5)
 have h7:=AY.Ve (x':=(.inr vl':Tok ⊕ Value)) (j:=0) (u:=vl') ho' zBm zD (show _=_ from rfl);rw[Cu,EP] at h7;have h8:AY (fun x=>lo≤x∧x<w.heap.size∧vl.ownBlock≠some x) rTV lo 304 3 (w'.setCell ⟨g,ts.length*3,none⟩ vl') (.slice (some ⟨g,0,none⟩) (ts.length+1) c) (ts.map .inl++[.inr vl']) (cells++[[vl',.int .i64 0,.int .i64 0]]):=h7;refine⟨AY.mono h8 fun b hb=>⟨hb.1,by rw[hsame];omega,fun e=> ?_⟩,h1,Hq hl fun q hq=>AB _ _ _ _ (fun e=>hne' (by rw[hq];exact GL some e)),hne'⟩;rcases hat with h | ⟨q,h,hq⟩
 ·exact hb.2.2 (h ▸ e)
 ·rw[h] at e;have:=A7 e;omega
theorem Jr.later{cells:List (List Value)}{ts:List Tok}(h:Jr lo w g c cells ts D vl)(hb:Below w.heap.size w w'):Jr lo w' g c cells ts D vl:=by
 have hgl:=h.AbG;obtain⟨ho,h1,h4,h5⟩:=h;refine⟨(ho.keep (w':=w') (fun b h=>hb.block b h.2.1) (fun g' hg'=>hb.block g' (ho.1.lt g' hg').2)).mono fun b hb'=>⟨hb'.1,by have:=hb.size;omega,hb'.2.2⟩,h1,AF h4 hb,h5⟩
theorem Jr.place{cells:List (List Value)}{ts:List Tok}(h:Jr lo w g c cells ts D vl):
  w.cell? ⟨g,ts.length*3,none⟩=some vl∧w.cell? ⟨g,ts.length*3+1,none⟩=some (.int .i64 0)∧w.frozen? ⟨g,ts.length*3,none⟩=false:=by
 obtain⟨⟨ho,hlen,hsz,hA⟩,h1,_⟩:=h;rcases ho.2 with ⟨h0,_⟩ | ⟨g',cap,cur,hv,hbg,hg,hn,hc,hcur,hx⟩
 ·cases h0
 ·simp at hv
  obtain⟨rfl,rfl⟩:=hv;have hf:∀j u,[vl,Value.int .i64 0,.int .i64 0][j]? =some u→cur[ts.length*3+j]? =some u:=fun j u hu=>by
   have hf:=FC 3 (cells++[[vl,.int .i64 0,.int .i64 0]]) hsz ts.length j [vl,.int .i64 0,.int .i64 0] u zCj hu;rw[←hx,Df] at hf;split at hf
   ·simpa using hf
   ·cases hf
  refine⟨?_,?_,Blk.free hg _⟩
  ·rw[Blk.cell hg];exact hf 0 vl rfl
  ·rw[Blk.cell hg];exact hf 1 _ rfl
def Rest(b:List UInt8)(p i:Nat)(O:List Tok):Prop:=∃f,b.length≤p+f∧Ex b=O++Fl b f p i
theorem Rest.copy{b:List UInt8}{p i o m:Nat}{O:List Tok}(h:Rest b p i O)(hp:p<b.length)(hb:Ck b p=(o,m))(hm:m≠0):Rest b (p+m) (p+m) (O++EV b i p++[⟨[],(o:Int),(m:Int)⟩]):=by
 obtain⟨f,hf,h⟩:=h;obtain⟨f,rfl⟩:∃f',f=f'+1:=⟨f-1,zD⟩;refine⟨f,zD,?_⟩;rw[h];simp only[Fl,Ai hp,hb,Ak hm];simp
theorem Rest.none{O:List Tok}(h:Rest b p i O)(hp:p<b.length)(hb:Ck b p=(o,0)):Rest b (p+1) i O:=by
 obtain⟨f,hf,h⟩:=h;obtain⟨f,rfl⟩:∃f',f=f'+1:=⟨f-1,zD⟩;refine⟨f,zD,?_⟩;rw[h];simp only[Fl,Ai hp,hb,Fx]
theorem Rest.fin{O:List Tok}(h:Rest b b.length i O):Ex b=O++EV b i b.length:=by
 obtain⟨f,hf,h⟩:=h;rw[h];cases f with
 | zero=>rfl
 | succ f=>simp only[Fl,Ak (Nat.lt_irrefl _)]
def Lv(O:List Tok):Prop:=∀n,O.length=n+1→∀t,O[n]? =some t→t.off≠0
theorem Lv.snoc(O:List Tok){m:Nat}(ho:o≠0):Lv (O++[⟨[],(o:Int),(m:Int)⟩]):=fun n hn t ht=>by
 have e:n=O.length:=by simp at hn;omega
 subst e;simp at ht;subst ht;simpa using ho
def UZ(lo:Nat)(b:List UInt8)(w:World)(v:Value)(O:List Tok)(i p:Nat):Prop:=
 (i=p∧∃cells,Dd lo IC lo 304 3 w v O cells)∨(i<p∧∃g c cells vl,v=.slice (some ⟨g,0,none⟩) (O.length+1) c∧Jr lo w g c cells O ((b.drop i).take (p-i)) vl)
theorem UZ.close{O:List Tok}(h:UZ lo b w v O i p):∃cells,Dd lo IC lo 304 3 w v (O++EV b i p) cells:=by
 rcases h with ⟨rfl,cells,h⟩ | ⟨h0,g,c,cells,vl,rfl,h⟩
 ·exact⟨cells,by simpa [EV] using h⟩
 ·exact⟨_,by have:=h.close;simpa [EV,h0] using this⟩
theorem Se(hi:i≤p)(hp:p<b.length):(b.drop i).take (p+1-i)=(b.drop i).take (p-i)++[b[p]]:=by
 rw[show p+1-i=(p-i)+1 by omega,AW zH];congr 2
 simp;congr 1
 omega
theorem QD(b:List UInt8)(a:Option Addr)(n c:Nat)(w:World)(hl:Ah.r (·<w.heap.size) w [.slice a n c] b)(hlen:b.length≤1048576):
  Calls Tryz.prog 323 #[.slice a n c] w fun r w'=>∃v,r=.returned v∧MD.r (fun q=>w.heap.size≤q∧q<w'.heap.size) w' [v] (Ex b)∧Below w.heap.size w w':=by
 obtain⟨rfl,hm,_,_⟩:=AT hl;obtain⟨i0,hi,hz0,hz1,hz2⟩:=A3 DH;obtain⟨j0,hj0,hy0,hy1,hy2⟩:=A3 QR;have HL:=hid hl;clear hl;go_enter Tryz.func323,Tryz.ntmps323;go_wp2_with fail;go_loopw [3,4] (fun v pv wr=>∃(p i:Nat) (O:List Tok),pv=.int .i64 p∧p≤b.length∧i≤p∧O.length≤i∧Hid (Rest b p i O)∧Hid (Lv O)∧Hid (UZ w.heap.size b wr v O i p)∧Below w.heap.size w wr) (fun _ pv _=>b.length-(intOf pv).toNat)
 case atStart=>exact ⟨0,0,[],rfl,Am _,An _,An _,hid ⟨b.length,zD,rfl⟩,hid (fun n hn=>by simp at hn),hid (.inl ⟨rfl,Ba.nil⟩),Below.refl _ _⟩
 case round=>
  obtain⟨p,i,O,rfl,hp,hip,hOi,hrest,hlc,hout,hb⟩:=hrel;have hbs:=hb.size;obtain⟨cells3,hcl⟩:=hout.out.close;obtain⟨av,cv,rfl⟩:=AD hcl.1;have hLL:(O++EV b i p).length≤p:=by
   unfold EV;split<;>simp<;>omega
  rcases Bh p b.length with hlt | hge
  ·have HB:=hid (RM b p a _ c wr (lift HL.out hb) hlen)
   have hfc:=hid (FM b p);have hroom:=Ji b p;generalize hom:Ck b p=om at*;obtain⟨o,m⟩:=om;dsimp only at hroom;have HOM:=hid hom;have HCL:=hid hcl;clear hom hcl;by_cases hm0:m=0
   ·subst hm0
    have hrn:=hid (hrest.out.none hlt HOM.out);have hyb:=Cs HL.out hlt;obtain⟨ab,ob,hA,hab,hcb⟩:=hyb;subst hA;have hab':ab<w.heap.size:=hab;rcases hout.out with ⟨hipe,cells,hcl0⟩ | ⟨h0,g,cg,cells,vl,hv,htb⟩
    ·subst hipe
     have hlit:EV b i i=[]:=by simp[EV]
     have HLS:=hid (Se (An i) hlt);simp only[Lx,Ly,AV] at HLS;simp only[hlit,BK] at hcl0 hLL hrn ⊢;generalize b[i]=y at*;clear hlit hout HCL;have HCB:=hid hcb;clear hcb;rcases Cf O.length with hO0 | hO0
     ·obtain rfl:O=[]:=A2 hO0
      clear hO0;simp only[Bp] at*;go_wp2_with fail;refine HB.out.mono ?_;rintro r w2 ⟨rfl,hb2⟩;have hs2:=hb2.size;have hbw2:=Af hb2 hb;have HC2:=hid (hcl0.below hb2);have Yb:=(hbw2.cell (p:=⟨ab,ob+i,none⟩) hab).trans HCB.out;have i4:(i:Int)<(b.length:Int):=zD;go_wp2_with (at_builtin;go_loud (refine Ar rfl _ _ _ rfl w.heap.size 304 j0 (.agg #[.slice none 0 0,.int .i64 0,.int .i64 0]) 3 40 Tryz.underlying337 hj0 hy0 hy1 hy2 rfl zO (.slice av 0 cv) 0 cells.flatten rfl (AF HC2.out.1 zB) (some ⟨w2.heap.size+1,0,none⟩) 1 1 [.slice (some ⟨w2.heap.size,0,none⟩) 1 1,.int .i64 0,.int .i64 0] rfl (By (w2.alloc (.cells #[.int .u8 (y.toNat:Int)] 5)) 304 _ rfl zN rfl) (by intro u hu;simp at hu;rcases hu with rfl | rfl | rfl<;>rfl) zK zD zH ?_;intro v8 w8 hown8 hgrow8 hat8;obtain⟨g8,c8,rfl⟩:=Yd hown8;have HG8:=hid hgrow8;have HO8:=hid hown8;have HA8:=hid hat8;clear hgrow8 hown8 hat8))
      have hst:=Jr.start zD HC2.out HO8.out HG8.out HA8.out;have hb8:Below w.heap.size w w8:=Below.grown zB HG8.out zH (fun g e=>(HC2.out.1.lt g e).1);have hto:UZ w.heap.size b w8 (.slice (some ⟨g8,0,none⟩) (0+1) c8) [] i (i+1):=.inr ⟨zD,g8,c8,cells,_,rfl,by rw[HLS.out];exact hst⟩;have HTO:=hid hto;clear hto hst;go_wp2_with fail;go_roundw
      case rel=>exact ⟨i+1,i,[],zV,zD,zD,zD,hrn,hlc,HTO,hb8⟩
      case measure=>simp [intOf];omega
     ·obtain⟨k,hk⟩:∃k,O.length=k+1:=⟨O.length-1,zD⟩
      obtain⟨gt,ot,hA2,hgt,at2,ct2,q0,q1,q2,zz1,zz2,zz3⟩:=Qq (xs:=O) (Ba.slice (An _) ⟨_,hcl0⟩) (i:=k) zD;have hoff:=hlc.out k hk O[k] (AJ zD);have eo:(O[k].off==0)=false:=by simpa using hoff
      have HQ1:=hid q1;have t1:((O.length:Int)-1).toNat=k:=zD;have t2:(0:Int)≤(O.length:Int)-1:=zD;have t3:(O.length:Int)-1<(O.length:Int):=zD;have d5:decide ((0:Int)≤(O.length:Int)-1)=true:=Ad t2;generalize O[k].off=of at*;have HHK:=hid hk;clear zz1 zz2 zz3 q0 q1 q2 hoff;clear hk hO0;have hgt':=hgt;subst hA2;go_wp2_with fail;refine HB.out.mono ?_;rintro r w2 ⟨rfl,hb2⟩;have hs2:=hb2.size;have hbw2:=Af hb2 hb;have HC2:=hid (hcl0.below hb2);have Q1:=(hb2.cell (p:=⟨gt,ot+k*3+1,none⟩) hgt.2).trans HQ1.out;have Yb:=(hbw2.cell (p:=⟨ab,ob+i,none⟩) hab).trans HCB.out;have i4:(i:Int)<(b.length:Int):=zD;go_wp2_with (at_builtin;go_loud (refine Ar rfl _ _ _ rfl w.heap.size 304 j0 (.agg #[.slice none 0 0,.int .i64 0,.int .i64 0]) 3 40 Tryz.underlying337 hj0 hy0 hy1 hy2 rfl zO (.slice (some ⟨gt,ot,none⟩) O.length cv) O.length cells.flatten rfl (AF HC2.out.1 zB) (some ⟨w2.heap.size+1,0,none⟩) 1 1 [.slice (some ⟨w2.heap.size,0,none⟩) 1 1,.int .i64 0,.int .i64 0] rfl (By (w2.alloc (.cells #[.int .u8 (y.toNat:Int)] 5)) 304 _ rfl zN rfl) (by intro u hu;simp at hu;rcases hu with rfl | rfl | rfl<;>rfl) zK zD zH ?_;intro v8 w8 hown8 hgrow8 hat8;obtain⟨g8,c8,rfl⟩:=Yd hown8;have HG8:=hid hgrow8;have HO8:=hid hown8;have HA8:=hid hat8;clear hgrow8 hown8 hat8))
      have hst:=Jr.start zD HC2.out HO8.out HG8.out HA8.out;have hb8:Below w.heap.size w w8:=Below.grown zB HG8.out zH (fun g e=>(HC2.out.1.lt g e).1);have hto:UZ w.heap.size b w8 (.slice (some ⟨g8,0,none⟩) (O.length+1) c8) O i (i+1):=.inr ⟨zD,g8,c8,cells,_,rfl,by rw[HLS.out];exact hst⟩;have HTO:=hid hto;clear hto hst;go_wp2_with fail;go_roundw
      case rel=>exact ⟨i+1,i,O,zV,zD,zD,zD,hrn,hlc,HTO,hb8⟩
      case measure=>simp [intOf];omega
    ·have hlt1:(O++EV b i p).length=O.length+1:=by simp[EV,h0]
     rw[hlt1] at*;have HLS:=hid (Se hip hlt);simp only[Value.slice.injEq] at hv;obtain⟨rfl,_,rfl⟩:=hv;generalize hDD:(b.drop i).take (p-i)=D at*;have hDl:D.length≤1048576:=by rw[←hDD];simp;omega
     generalize b[p]=y at*;clear hDD hlt1 hout HCL;obtain⟨al,cl,rfl⟩:=AD htb.last;have HCB:=hid hcb;have HTB:=hid htb;clear hcb htb;have d5:decide ((0:Int)≤(O.length:Int))=true:=Ad zD;have kk:(O.length:Int)+1-1=(O.length:Int):=zD;have i3:(O.length:Int)<(O.length:Int)+1:=zD;have i4:(p:Int)<(b.length:Int):=zD;have i5:(0:Int)≤(O.length:Int):=zD;go_wp2_with fail;refine HB.out.mono ?_;rintro r w2 ⟨rfl,hb2⟩;have hs2:=hb2.size;have hbw2:=Af hb2 hb;have HT2:=hid (HTB.out.later hb2);obtain⟨pl0,pl1,pl2⟩:=HT2.out.place;obtain⟨hg1,hg2⟩:=HT2.out.AbG;have hne:=HT2.out.ne;have hol:=fun q (hq:(Value.slice al D.length cl).ownBlock=some q)=>HT2.out.last.lt q hq;have HOL:=hid hol;clear hol;have Yb:=(hbw2.cell (p:=⟨ab,ob+p,none⟩) hab).trans HCB.out;have hab2:ab<w2.heap.size:=zD;go_wp2_with fail;refine C9 (fun w'=>w'.cell? ⟨g,O.length*3,none⟩=some (.slice al D.length cl)∧w'.cell? ⟨ab,ob+p,none⟩=some (.int .u8 (y.toNat:Int))) _ zI rfl zI ⟨pl0,Yb⟩ (fun hHeld=> ?_);simp only[Cy,GU];refine Ap (i:=0) (oi:=_) (v:=?_) rfl zE zE zE (fun _ _ _ h=>h) (Or.inl ⟨zS,?_⟩) zL ?_;rotate_left
     ·(intro w hSw;(try dsimp only at hSw);go_simp<;>with_reducible rfl)
     (try simp only[Act.put,Aa,Ab,Ac])
     refine Ap (i:=1) (oi:=_) (v:=?_) rfl zE zE zE (fun _ _ _ h=>h) (Or.inl ⟨zS,?_⟩) zL ?_;rotate_left
     ·(intro w hSw;(try dsimp only at hSw);go_simp<;>with_reducible rfl)
     (try simp only[Act.put,Aa,Ab,Ac])
     refine Ap (i:=2) (oi:=_) (v:=?_) rfl zE zE zE (fun _ _ _ h=>h) (Or.inl ⟨zS,?_⟩) zL ?_;rotate_left
     ·(intro w hSw;(try dsimp only at hSw);go_simp<;>with_reducible rfl)
     (try simp only[Act.put,Aa,Ab,Ac])
     refine Ap (i:=3) (oi:=_) (v:=?_) rfl zE zE zE (fun _ _ _ h=>h) (Or.inl ⟨zS,?_⟩) zL ?_;rotate_left
     ·(intro w hSw;(try dsimp only at hSw);go_simp<;>with_reducible rfl)
     (try simp only[Act.put,Aa,Ab,Ac])
     refine Ap (i:=4) (oi:=_) (v:=?_) rfl zE zE zE (fun _ _ _ h=>h) (Or.inl ⟨zS,?_⟩) zL ?_;rotate_left
     ·(intro w hSw;(try dsimp only at hSw);go_simp<;>with_reducible rfl)
     (try simp only[Act.put,Aa,Ab,Ac])
     refine Ap (i:=5) (oi:=_) (v:=?_) rfl zE zE zE (fun _ _ _ h=>h) (Or.inl ⟨zS,?_⟩) zL ?_;rotate_left
     ·(intro w hSw;(try dsimp only at hSw);go_simp<;>with_reducible rfl)
     (try simp only[Act.put,Aa,Ab,Ac])
     refine Ap (i:=6) (oi:=_) (v:=?_) rfl zE zE zE (fun _ _ _ h=>h) (Or.inl ⟨zS,?_⟩) zL ?_;rotate_left
     ·(intro w hSw;(try dsimp only at hSw);go_simp<;>with_reducible rfl)
     (try simp only[Act.put,Aa,Ab,Ac])
     refine Ap (i:=7) (oi:=_) (v:=?_) rfl zE zE zE (fun _ _ _ h=>h) (Or.inl ⟨zS,?_⟩) zL ?_;rotate_left
     ·(intro w hSw;(try dsimp only at hSw);go_simp<;>with_reducible rfl)
     (try simp only[Act.put,Aa,Ab,Ac])
     refine Ap (i:=8) (oi:=_) (v:=?_) rfl zE zE zE (fun _ _ _ h=>h) (Or.inl ⟨zS,?_⟩) zL ?_;rotate_left
     ·(intro w hSw;(try dsimp only at hSw);go_simp<;>with_reducible rfl)
     (try simp only[Act.put,Aa,Ab,Ac])
     refine Ap (i:=9) (oi:=_) (v:=?_) rfl zE zE zE (fun _ _ _ h=>h) (Or.inl ⟨zS,?_⟩) zL ?_;rotate_left
     ·(intro w hSw;(try dsimp only at hSw);go_simp<;>with_reducible rfl)
     (try simp only[Act.put,Aa,Ab,Ac])
     refine Ap (i:=10) (oi:=_) (v:=?_) rfl zE zE zE (fun _ _ _ h=>h) (Or.inl ⟨zS,?_⟩) zL ?_;rotate_left
     ·(intro w hSw;(try dsimp only at hSw);go_simp<;>with_reducible rfl)
     (try simp only[Act.put,Aa,Ab,Ac])
     refine AU (rs:=[11]) zE zN ?_;refine AK (o:=_) rfl (fun K hK=> ?_) AllReadyH.nil;go_simp
     refine hK.out _ _ ?_ (fun hHeld=> ?_)
     ·((try dsimp only);refine⟨?_,?_⟩<;>(first | assumption | (go_keep;done)))
     clear hK K
     (try simp only[Act.put,Aa,Ab,Ac])
     refine AU (rs:=[12]) zE zN ?_;refine AK (o:=_) rfl (fun K hK=> ?_) AllReadyH.nil
     (refine BG zS _ _ _ zS w.heap.size 5 i0 (.int .u8 0) 1 1 Au hi hz0 hz1 hz2 rfl zO (.slice al D.length cl) D.length (byteCells D) zS (AF HT2.out.last zB) (some ⟨w2.heap.size,0,none⟩) 1 1 [.int .u8 (y.toNat:Int)] zS (By w2.drew 5 _ zS zS rfl) zW zK zD zH ?_;intro a8 c8 w8 hown8 hgrow8 hat8;have G:=fun b' (hb:b'<w2.heap.size) (hne:(Value.slice al D.length cl).ownBlock≠some b')=>(hgrow8.block b' zH (fun e=>hne e.symm)).trans (Bx w2.drew _ b' (by exact hb));have m1:=(Bn (a:=⟨g,O.length*3,none⟩) (G g hg2 hne)).trans pl0;have m2:=(CT (a:=⟨g,O.length*3,none⟩) (G g hg2 hne)).trans pl2;have neb:(Value.slice al D.length cl).ownBlock≠some ab:=fun e=>by {have:=(HOL.out _ e).1;omega};have m3:=(Bn (a:=⟨ab,ob+p,none⟩) (G ab hab2 neb)).trans Yb;have m4:g<w8.heap.size:=Aj hg2 (A4 zN hgrow8.size);have HG8:=hid hgrow8;have HO8:=hid hown8;have HA8:=hid hat8;have HGG:=hid G;clear hgrow8 hown8 hat8 G neb)
     refine hK.out _ _ ?_ (fun hHeld=> ?_)
     ·((try dsimp only);refine⟨?_,?_⟩<;>(first | assumption | (go_keep;done)))
     clear hK K
     (try simp only[Act.put,Aa,Ab,Ac])
     refine Ap (i:=13) (oi:=_) (v:=?_) rfl zE zE zE (fun _ _ _ h=>h) (Or.inl ⟨zS,?_⟩) zL ?_;rotate_left
     ·(intro w hSw;(try dsimp only at hSw);go_simp<;>with_reducible rfl)
     (try simp only[Act.put,Aa,Ab,Ac])
     refine Ap (i:=14) (oi:=_) (v:=?_) rfl zE zE zE (fun _ _ _ h=>h) (Or.inl ⟨zS,?_⟩) zL ?_;rotate_left
     ·(intro w hSw;(try dsimp only at hSw);go_simp<;>with_reducible rfl)
     (try simp only[Act.put,Aa,Ab,Ac])
     refine Ap (i:=15) (oi:=_) (v:=?_) rfl zE zE zE (fun _ _ _ h=>h) (Or.inl ⟨zS,?_⟩) zL ?_;rotate_left
     ·(intro w hSw;(try dsimp only at hSw);go_simp<;>with_reducible rfl)
     (try simp only[Act.put,Aa,Ab,Ac])
     refine CS zI ?_ _;show wpList _ _ _ _ _ _
     have hs8:w2.heap.size+1≤w8.heap.size:=by have:=HG8.out.size;simpa using this
     have hgr:=Jr.grow (w':=w8) (D':=D++[y]) (vl':=.slice a8 (D.length+1) c8) HT2.out (fun q hq hn=>HGG.out q hq hn) zD (by rw[Ag,←DW];exact HO8.out) (by
      rcases HA8.out with h | h
      ·exact .inl h
      ·exact .inr ⟨_,h,zN⟩)
     have hb8:Below w.heap.size w w8:=Below.grown zB HG8.out zH (fun g e=>(HOL.out g e).1);have hb9:Below w.heap.size w (w8.setCell ⟨g,O.length*3,none⟩ (.slice a8 (D.length+1) c8)):=hb8.setCell hg1 _;have hto:UZ w.heap.size b (w8.setCell ⟨g,O.length*3,none⟩ (.slice a8 (D.length+1) c8)) (.slice (some ⟨g,0,none⟩) (O.length+1) cv) O i (p+1):=.inr ⟨zD,g,cv,cells,_,rfl,by rw[HLS.out];exact hgr⟩;have HTO:=hid hto;clear hto hgr;go_wp2_with fail;go_roundw
     case rel=>exact ⟨p+1,i,O,zV,zD,zD,zD,hrn,hlc,HTO,hb9⟩
     case measure=>simp [intOf];omega
   ·have hm4:1≤o∧4≤m:=by
     rcases hfc.out with h | ⟨o',m',h,h1,h2,h3,_⟩
     ·simp only[CR] at h;omega
     ·simp only[CR] at h;omega
    have hrn:=hid (hrest.out.copy hlt HOM.out hm0);have hls:=hid (Lv.snoc (O++EV b i p) (o:=o) (m:=m) zD);have d1:decide ((0:Int)<(m:Int))=true:=zH;have d1':decide (0<m)=true:=zH;generalize hL3:O++EV b i p=L3 at*;clear hL3 hm0;go_wp2_with fail;refine HB.out.mono ?_;rintro r w2 ⟨rfl,hb2⟩;have hs2:=hb2.size;have hbw2:=Af hb2 hb;have HC2:=hid (HCL.out.below hb2);go_wp2_with (at_builtin;go_loud (refine Ar rfl _ _ _ rfl w.heap.size 304 j0 (.agg #[.slice none 0 0,.int .i64 0,.int .i64 0]) 3 40 Tryz.underlying337 hj0 hy0 hy1 hy2 rfl zO (.slice av L3.length cv) L3.length cells3.flatten rfl (AF HC2.out.1 zB) (some ⟨w2.heap.size,0,none⟩) 1 1 [.slice none 0 0,.int .i64 (o:Int),.int .i64 (m:Int)] rfl (By w2 304 _ rfl rfl rfl) (by intro u hu;simp at hu;rcases hu with rfl | rfl | rfl<;>rfl) zK zD zH ?_;intro v8 w8 hown8 hgrow8 hat8;obtain⟨a8,c8,rfl⟩:=AD hown8;have HG8:=hid hgrow8;have HO8:=hid hown8;have HA8:=hid hat8;clear hgrow8 hown8 hat8))
    have hx:IC.r (fun q=>w.heap.size≤q∧q<(w2.alloc (.cells #[.slice none 0 0,.int .i64 (o:Int),.int .i64 (m:Int)] 304)).heap.size∧(Value.slice av L3.length cv).ownBlock≠some q) (w2.alloc (.cells #[.slice none 0 0,.int .i64 (o:Int),.int .i64 (m:Int)] 304)) [.slice none 0 0,.int .i64 (o:Int),.int .i64 (m:Int)] ⟨[],o,m⟩:=
     Qp (x:=⟨[],o,m⟩) (Bt rfl (An _) (Am _) (.inl rfl)) zH zH
    have hpu:=Ba.push (HC2.out.below zB) rfl hx HO8.out HG8.out HA8.out HG8.out.size;have hb8:Below w.heap.size w w8:=Below.grown zB HG8.out zH (fun g e=>(HC2.out.1.lt g e).1);have hto:UZ w.heap.size b w8 (.slice a8 (L3.length+1) c8) (L3++[⟨[],(o:Int),(m:Int)⟩]) (p+m) (p+m):=.inl ⟨rfl,hpu⟩;have HTO:=hid hto;clear hto hpu hx;go_wp2_with fail;go_roundw
    case rel=>exact ⟨p+m,p+m,L3++[⟨[],(o:Int),(m:Int)⟩],zV,zD,An _,zH,hrn,hls,HTO,hb8⟩
    case measure=>simp [intOf];omega
  ·obtain rfl:p=b.length:=by omega
   have hf:=hrest.out.fin;rw[←hf] at hcl;have hV:=Ba.slice (An _) ⟨_,hcl⟩;rw[←hf] at*;have HV:=hid hV;clear hV hcl hf;go_wp2;go_ret;exact⟨_,rfl,HV.out,hb⟩
theorem KF(hb:b.length≤1048576):∀{f:Bool} {p:Nat} {ts:List Tok},Good b f p ts→∀t∈ts,CP t=true
 | _,_,_,.nil,t,ht=>by simp at ht
 | _,_,_,.copy (p:=p) (o:=o) (m:=m) hp hbe hm hg,t,ht=>by
  rcases List.mem_cons.1 ht with rfl | ht
  ·have h1:=FM b p
   have h2:=(Ji b p).1;rw[hbe] at h1 h2;simp only at h2;rcases h1 with h1 | ⟨o',m',h1,g1,g2,g3,_⟩
   ·simp only[CR] at h1;omega
   ·simp only[CR] at h1
    unfold reach at g2;simp[CP,Ip];omega
  ·exact KF hb hg t ht
 | _,_,_,.run (p:=p) (q:=q) h1 h2 h3 hg,t,ht=>by
  rcases List.mem_cons.1 ht with rfl | ht
  ·simp[CP,F7]
   omega
  ·exact KF hb hg t ht
theorem Kr{b:List UInt8}(hb:b.length≤1048576):∀t∈Ex b,CP t=true:=KF hb (Ol b)
theorem O9(hb:b.length≤1048576):(Ex b).length≤10000000:=by
 have:=KU b b.length 0 0;unfold Ex;omega
theorem R3(w:World)(b:List UInt8)(a:Option Addr)(n c:Nat)(hl:Ah.r (·<w.heap.size) w [.slice a n c] b)(hlen:b.length≤1048576):
  Calls Tryz.prog 355 #[.slice a n c] w fun r w'=>∃v,r=.returned (.tuple #[v,.int .i64 0])∧Ah.r (fun q=>w.heap.size≤q∧q<w'.heap.size) w' [v] (Cn (Ex b))∧Below w.heap.size w w':=by
 obtain⟨rfl,hm,_,_⟩:=AT hl;have HT:=hid (QI w b a _ c hl hlen);have hri:=Kr hlen;have hl2:=O9 hlen;clear hl;generalize Ex b=T at*;go_enter Tryz.func355,Tryz.ntmps355;go_wp2_with fail;refine HT.out.mono ?_;rintro r w1 ⟨v,rfl,hr,hb1⟩;obtain⟨a1,c1,hv,hr2,_⟩:=AN hr;simp only[As,AM] at hv;subst hv;have HB:=hid (Rm T a1 _ c1 w1 (MD.mono hr2 fun q hq=>hq.2) hl2 hri);have hs1:=hb1.size;clear hr hr2;go_wp2_with fail;refine HB.out.mono ?_;rintro r w2 ⟨v2,rfl,hv2,hb2⟩;have hbe:=Af hb2 hb1;have HV:=hid (Ah.mono (S':=fun q=>w.heap.size≤q∧q<w2.heap.size) hv2 fun q hq=>⟨zY,hq.2⟩);clear hv2;go_wp2;go_ret2
 exact⟨_,rfl,HV.out,hbe⟩
theorem FH(x:Nat):∀(hx:x<18446744073709551616) (w:World),
  Calls Tryz.prog 101 #[.int .u64 x] w fun r w'=>∃v,r=.returned v∧w'.ownsRow w.heap.size 5 1 v (Az x).length (byteCells (Az x))∧Below w.heap.size w w':=by
 induction x using Nat.strongRecOn with
 | ind x ih=>
 intro hx w;obtain⟨i0,hi,hz0,hz1,hz2⟩:=A3 DH;by_cases h:x<128
 ·have d1:decide ((x:Int)<128)=true:=by simp;omega
  have hfin:Hid (Az x=[UInt8.ofNat x]):=hid (Gd h);have hby:Hid ((x:Int)=((UInt8.ofNat x).toNat:Int)):=hid (Ej zD);have HIH:=hid ih;clear ih;go_enter Tryz.func101,Tryz.ntmps101;go_wp2_with fail;have e0:[Value.int .u8 (x:Int)]=byteCells (Az x):=by rw[hfin.out,hby.out];rfl
  have ho:(w.alloc (.cells #[.int .u8 (x:Int)] 5)).ownsRow w.heap.size 5 1 (.slice (some ⟨w.heap.size,0,none⟩) 1 1) 1 (byteCells (Az x)):=e0 ▸ GF (w:=w.alloc (.cells #[.int .u8 (x:Int)] 5)) (base:=w.heap.size) (e:=5) (An _) (F0 w _);have HL1:Hid ((Az x).length=1):=hid ZC;have HV:=hid ho;clear ho e0;go_ret;exact⟨_,rfl,by rw[HL1.out];exact HV.out,zB⟩
 ·have d1:decide ((x:Int)<128)=false:=by simp;omega
  have HIH:=hid (fun (W:World)=>ih (x/128) zD zD W);clear ih;rw[show ((x/128:Nat):Int)=(x:Int)/128 by omega] at HIH;have hfin:Hid (Az x=[UInt8.ofNat (128+x%128)]++Az (x/128)):=hid (by rw[JQ h (by omega)];rfl);have hby:Hid (128+(x:Int)%128=((UInt8.ofNat (128+x%128)).toNat:Int)):=hid zBk;have hlb:=AZ (x/128);go_enter Tryz.func101,Tryz.ntmps101;go_wp2_with fail;refine (HIH.out _).mono ?_;rintro r w1 ⟨v1,rfl,hr1,hb1⟩;have ho:=GF (w:=w.alloc (.cells #[.int .u8 (128+(x:Int)%128)] 5)) (base:=w.heap.size) (e:=5) (An _) (F0 w _);have ho1:=AF ho hb1;obtain⟨a1,c1,rfl⟩:=AD hr1;have hr3:=A8 (Ah.mono (Cg rfl hr1) (S':=(·<w1.heap.size)) fun b hb=>hb.2);have HS:=hid hr3;have HO:=hid ho1;have HONE:=hid (AI (Az (x/128)));have hz1w:w.heap.size+1≤w1.heap.size:=zBt;have hbw1:Below w.heap.size w w1:=zB;clear hr1 hr3 ho ho1;go_wp2_with (at_builtin;go_loud (refine Ar rfl _ _ _ rfl w.heap.size 5 i0 (.int .u8 0) 1 1 Au hi hz0 hz1 hz2 rfl zO (.slice (some ⟨w.heap.size,0,none⟩) 1 1) 1 _ rfl HO.out a1 (Az (x/128)).length c1 (byteCells (Az (x/128))) rfl HS.out HONE.out zK zD zD ?_;intro v' w2 hown2 hgrow2 hat2;have HG:=hid hgrow2;have HO2:=hid hown2;clear hgrow2 hown2 hat2))
  have ho:=HO2.out;rw[hby.out,show [Value.int .u8 ((UInt8.ofNat (128+x%128)).toNat:Int)]=byteCells [UInt8.ofNat (128+x%128)] from rfl,byteCells,byteCells,←BX,←hfin.out] at ho;rw[show 1+(Az (x/128)).length=(Az x).length by rw[hfin.out];simp;omega] at ho;have hB:Below w.heap.size w w2:=Below.grown hbw1 HG.out zD (fun g e=>(HO.out.lt g e).1);have HV:=hid ho;clear ho;go_ret;exact⟨_,rfl,HV.out,hB⟩
def C3(D:List UInt8):List UInt8:=Az D.length++D
theorem D8(D:List UInt8):(C3 D).length=(Az D.length).length+D.length:=by simp[C3]
theorem Mj(n:Nat)(hn:n≤100000000000000)(w:World):
  Calls Tryz.prog 175 #[.int .i64 n] w fun r w'=>r=.returned (.int .i64 ((Az n).length+n:Nat))∧Below w.heap.size w w':=by
 have HS:=hid (fun (W:World)=>Mm n zD W);have hl:=AZ n;generalize (Az n).length=k at*;go_enter Tryz.func175,Tryz.ntmps175;go_wp2_with fail;refine (HS.out _).mono ?_;rintro r w1 ⟨rfl,hb1⟩;go_wp2;go_ret;exact⟨zA7,hb1⟩
theorem SO(w:World){g base most:Nat}{J:List UInt8}{a:Option Addr}(h:BQ w g base most J a c)(D:List UInt8)(ad:Option Addr)(nd cd:Nat)
 (hD:Ah.r (fun q=>q<w.heap.size∧¬Dr g a q) w [.slice ad nd cd] D) (hfit:J.length+(C3 D).length≤most) (hlen:J.length+(C3 D).length≤100000000000000):
  Calls Tryz.prog 239 #[.pointer (some ⟨g,0,none⟩),.slice ad nd cd] w fun r w'=>r=.returned (.tuple #[])∧At w g base most (J++C3 D) a w':=by
 obtain⟨rfl,hm,_,_⟩:=AT hD;rw[D8] at hfit hlen;have HV:=hid (Cl w h D.length zD zD zD);have HD:=hid hD;have hfit':=hid hfit;have hlen':=hid hlen;clear h hD hfit hlen;go_enter Tryz.func239,Tryz.ntmps239;go_wp2_with fail;refine HV.out.mono ?_;rintro r w2 ⟨rfl,a2,c2,hp2,ht2,ha2⟩;have hs2:=ht2.size;have HQ:=hid (Fu w2 hp2 D ad _ cd (Ah.mono (Ah.keep HD.out fun q hq=>ht2.block q hq.1 hq.2) fun q hq=>Aj hq.1 hs2) zAz zAy);go_wp2_with fail;refine HQ.out.mono ?_;rintro r w3 ⟨rfl,hst⟩;have hst2:=At.trans (J:=J) ht2 ha2 hst;rw[Ao] at hst2;have HST:=hid hst2;clear hst hst2;go_wp2;first | go_end0 | refine Al (Ax rfl _ _ _) rfl ?_
 exact⟨rfl,HST.out⟩
theorem LJ(w:World)(D:List UInt8)(a:Option Addr)(n c:Nat)(hl:Ah.r (·<w.heap.size) w [.slice a n c] D)(hlen:D.length≤10000000000000):
  Calls Tryz.prog 120 #[.slice a n c] w fun r w'=>∃v,r=.returned v∧w'.ownsRow w.heap.size 5 1 v (C3 D).length (byteCells (C3 D))∧Below w.heap.size w w':=by
 obtain⟨rfl,hm,_,_⟩:=AT hl;obtain⟨i0,hi,hz0,hz1,hz2⟩:=A3 DH;have HL:=hid hl;have HV:=hid (FH D.length zD w);have HONE:=hid (AI D);have hvl:=AZ D.length;have hbl:=hid (D8 D);have hbd:Hid (C3 D=Az D.length++D):=hid rfl;clear hl;generalize Az D.length=E at*;go_enter Tryz.func120,Tryz.ntmps120;go_wp2_with fail;refine HV.out.mono ?_;rintro r w1 ⟨v,rfl,ho,hb1⟩;obtain⟨a1,c1,rfl⟩:=AD ho;have hs1:=hb1.size;have HO:=hid ho;have HS:=hid (A8 (lift HL.out hb1));clear ho;go_wp2_with (at_builtin;go_loud (refine Ar rfl _ _ _ rfl w.heap.size 5 i0 (.int .u8 0) 1 1 Au hi hz0 hz1 hz2 rfl zO (.slice a1 E.length c1) E.length (byteCells E) rfl HO.out a D.length c (byteCells D) rfl HS.out HONE.out zK zD zD ?_;intro v' w2 hown2 hgrow2 hat2;have HG:=hid hgrow2;have HO2:=hid hown2;clear hgrow2 hown2 hat2))
 have ho:=HO2.out;rw[Dl,←hbd.out,show E.length+D.length=(C3 D).length from hbl.out.symm] at ho;have hB:Below w.heap.size w w2:=Below.grown hb1 HG.out zD (fun g e=>(HO.out.lt g e).1);have HV2:=hid ho;clear ho;go_ret;exact⟨_,rfl,HV2.out,hB⟩
theorem MA(w:World)(b:List UInt8)(a:Option Addr)(n c:Nat)(hl:Ah.r (·<w.heap.size) w [.slice a n c] b)(hlen:b.length≤1048576):
  Calls Tryz.prog 253 #[.slice a n c] w fun r w'=>∃v,r=.returned v∧Ah.r (fun q=>w.heap.size≤q∧q<w'.heap.size) w' [v] (Cn (Ex b))∧Below w.heap.size w w':=by
 obtain⟨rfl,hm,_,_⟩:=AT hl;have HT:=hid (QD b a _ c w hl hlen);have hri:=Kr hlen;have hl2:=O9 hlen;clear hl;generalize Ex b=T at*;go_enter Tryz.func253,Tryz.ntmps253;go_wp2_with fail;refine HT.out.mono ?_;rintro r w1 ⟨v,rfl,hr,hb1⟩;obtain⟨a1,c1,hv,hr2,_⟩:=AN hr;simp only[As,AM] at hv;subst hv;have HB:=hid (RN T a1 _ c1 w1 (MD.mono hr2 fun q hq=>hq.2) hl2 hri);have hs1:=hb1.size;clear hr hr2;go_wp2_with fail;refine HB.out.mono ?_;rintro r w2 ⟨v2,rfl,hv2,hb2⟩;have hbe:=Af hb2 hb1;have HV:=hid (Ah.mono (S':=fun q=>w.heap.size≤q∧q<w2.heap.size) hv2 fun q hq=>⟨zY,hq.2⟩);clear hv2;go_wp2;go_ret;exact⟨_,rfl,HV.out,hbe⟩
def Dm(p:List UInt8):List UInt8:=Cn (Ex p)
def GC(p:List UInt8):Bool:=decide ((C3 (Dm p)).length<p.length)
def Bk(p:List UInt8):List UInt8:=Az p.length++(if GC p then 1::C3 (Dm p) else 0::p)
theorem IZ(hb:b.length≤1048576):(Dm b).length≤10000000000000:=by
 have hL:∀t∈Ex b,t.lit.length≤1048576:=fun t ht=>by
  rcases Gx (Kr hb t ht) with ⟨D,rfl,h1,h2⟩ | ⟨o,m,rfl,_⟩
  ·exact h2
  ·simp
 have h1:=Ju (Ex b);have h2:=K1 (Ex b) hL (Ex b).length (An _);rw[DX] at h2;have h3:=KU b b.length 0 0;unfold Dm;unfold Ex at*;omega
theorem QC(w:World)(p:List UInt8)(a:Option Addr)(n c:Nat)(hl:Ah.r (·<w.heap.size) w [.slice a n c] p)(hlen:p.length≤1048576):
  Calls Tryz.prog 252 #[.slice a n c] w fun r w'=>r=.returned (.bool (GC p))∧Below w.heap.size w w':=by
 obtain⟨rfl,hm,_,_⟩:=AT hl;have HT:=hid (MA w p a _ c hl hlen);have hsm:=IZ hlen;have hpk:Hid (GC p=decide ((C3 (Dm p)).length<p.length)):=hid rfl;have hpI:Hid (decide (((C3 (Dm p)).length:Int)<(p.length:Int))=GC p):=hid (by rw[hpk.out];by_cases h:(C3 (Dm p)).length<p.length<;>simp [h]);clear hl;rw[show Cn (Ex p)=Dm p from rfl] at HT;generalize Dm p=E at*;generalize GC p=R at*;have HB:=hid (fun (W:World) (a1:Option Addr) (c1:Nat) (h:Ah.r (·<W.heap.size) W [.slice a1 E.length c1] E)=>LJ W E a1 _ c1 h hsm);generalize C3 E=G at*;clear hpk;go_enter Tryz.func252,Tryz.ntmps252;go_wp2_with fail;refine HT.out.mono ?_;rintro r w1 ⟨v,rfl,hr,hb1⟩;obtain⟨a1,c1,hv,hr2,_⟩:=AN hr;simp only[As,AM] at hv;subst hv;have HR:=hid (Ah.mono hr2 (S':=(·<w1.heap.size)) fun q hq=>hq.2);clear hr hr2;go_wp2_with fail;refine (HB.out _ a1 c1 HR.out).mono ?_;rintro r w2 ⟨v2,rfl,ho,hb2⟩;obtain⟨a2,c2,rfl⟩:=AD ho;have hbe:=Af hb2 hb1;clear ho;have hpI':=hpI.out;clear hpI;cases R
 ·have d1:decide ((G.length:Int)<(p.length:Int))=false:=hpI'
  have d1':decide (G.length<p.length)=false:=by simp at d1;simp;omega
  clear hpI';go_wp2;go_ret;exact⟨rfl,hbe⟩
 ·have d1:decide ((G.length:Int)<(p.length:Int))=true:=hpI'
  have d1':decide (G.length<p.length)=true:=by simp at d1;simp;omega
  clear hpI';go_wp2;go_ret;exact⟨rfl,hbe⟩
theorem Ra(w:World)(p:List UInt8)(a:Option Addr)(n c:Nat)(hl:Ah.r (·<w.heap.size) w [.slice a n c] p)(hlen:p.length≤1048576):
  Calls Tryz.prog 332 #[.slice a n c] w fun r w'=>∃v,r=.returned (.tuple #[v,.bool (GC p)])∧(GC p=true→Ah.r (fun q=>w.heap.size≤q∧q<w'.heap.size) w' [v] (Dm p))∧(GC p=false→v=.slice none 0 0)∧Below w.heap.size w w':=by
 obtain⟨rfl,hm,_,_⟩:=AT hl;have HT:=hid (R3 w p a _ c hl hlen);have hsm:=IZ hlen;have hbl:=D8 (Dm p);have hpk:Hid (GC p=decide ((C3 (Dm p)).length<p.length)):=hid rfl;clear hl;rw[show Cn (Ex p)=Dm p from rfl] at HT;generalize Dm p=E at*;rw[hbl] at hpk;generalize GC p=R at*;have HS:=hid (fun (W:World)=>Mj E.length zD W);have hvl:=AZ E.length;clear hbl;generalize (Az E.length).length=k at*;go_enter Tryz.func332,Tryz.ntmps332;go_wp2_with fail;refine HT.out.mono ?_;rintro r w1 ⟨v,rfl,hr,hb1⟩;obtain⟨a1,c1,hv,hr2,_⟩:=AN hr;simp only[As,AM] at hv;subst hv;have HR:=hid hr2;have hs1:=hb1.size;clear hr hr2;go_wp2_with fail;refine (HS.out _).mono ?_;rintro r w2 ⟨rfl,hb2⟩;have hbe:=Af hb2 hb1;have hs2:=hb2.size;have HR2:=hid (Ah.mono (S':=fun q=>w.heap.size≤q∧q<w2.heap.size) (Ah.keep HR.out fun q hq=>hb2.block q hq.2) fun q hq=>⟨hq.1,zD⟩);have hpk':=hpk.out;clear hpk;cases R
 ·have hle:¬k+E.length<p.length:=of_decide_eq_false hpk'.symm
  have d1:decide ((p.length:Int)≤(k:Int)+(E.length:Int))=true:=Ad zD;have d1':decide ((p.length:Int)≤((k+E.length:Nat):Int))=true:=Ad zD;have d1'':decide (p.length≤k+E.length)=true:=Ad zD;clear hpk' hle;go_wp2;go_ret2
  exact⟨_,rfl,rfl,hbe⟩
 ·have hle:k+E.length<p.length:=Bc hpk'.symm
  have d1:decide ((p.length:Int)≤(k:Int)+(E.length:Int))=false:=Ae zD;have d1':decide ((p.length:Int)≤((k+E.length:Nat):Int))=false:=Ae zD;have d1'':decide (p.length≤k+E.length)=false:=Ae zD;clear hpk' hle;go_wp2;go_ret2
  exact⟨_,rfl,HR2.out,hbe⟩
theorem RK(w:World)(p:List UInt8)(a:Option Addr)(n c:Nat)(hl:Ah.r (·<w.heap.size) w [.slice a n c] p)(hlen:p.length≤1048576):
  Calls Tryz.prog 184 #[.slice a n c] w fun r w'=>∃v,r=.returned v∧Ah.r (fun q=>w.heap.size≤q∧q<w'.heap.size) w' [v] (Bk p)∧Below w.heap.size w w':=by
 obtain⟨rfl,hm,_,_⟩:=AT hl;obtain⟨i0,hi,hz0,hz1,hz2⟩:=A3 DH;have HL:=hid hl;have HV:=hid (FH p.length zD w);have HPK:=hid (fun (W:World) (hW:Below w.heap.size w W)=>QC W p a _ c (lift HL.out hW) hlen);have HPB:=hid (fun (W:World) (hW:Below w.heap.size w W)=>MA W p a _ c (lift HL.out hW) hlen);have hsm:=IZ hlen;have hbk:Hid (Bk p=Az p.length++(if GC p then 1::C3 (Dm p) else 0::p)):=hid rfl;have hvl:=AZ p.length;have HONE:=hid (AI p);clear hl;rw[show Cn (Ex p)=Dm p from rfl] at HPB;generalize Dm p=E at*;have HB:=hid (fun (W:World) (av:Option Addr) (cv:Nat) (h:Ah.r (·<W.heap.size) W [.slice av E.length cv] E)=>LJ W E av _ cv h hsm);have hgl:=D8 E;have hvE:=AZ E.length;have hG:(C3 E).length≤20000000000000:=zD;clear hgl hvE;generalize C3 E=G at*;generalize Az p.length=V at*;generalize GC p=R at*;generalize Bk p=K at*;cases R
 ·have hK:K=V++(0::p):=hbk.out
  have HK:=hid hK;clear hK hbk;go_enter Tryz.func184,Tryz.ntmps184;go_wp2_with fail;refine HV.out.mono ?_;rintro r w1 ⟨v,rfl,ho1,hb1⟩;obtain⟨a1,c1,rfl⟩:=AD ho1;have HO1:=hid ho1;clear ho1;go_wp2_with fail;refine (HPK.out _ hb1).mono ?_;rintro r w2 ⟨rfl,hb2⟩;have hs1:=hb1.size;have hs2:=hb2.size;have hbw2:=Af hb2 hb1;have HO2:=hid (AF HO1.out hb2);go_wp2_with (first
   | (at_builtin;go_loud (refine Ar rfl _ _ _ rfl w.heap.size 5 i0 (.int .u8 0) 1 1 Au hi hz0 hz1 hz2 rfl zO (.slice a1 V.length c1) V.length (byteCells V) rfl (AF HO2.out zB) (some ⟨w2.heap.size,0,none⟩) 1 1 [.int .u8 0] rfl (By w2 5 _ rfl rfl rfl) zW zK zD zH ?_;intro v' w3 hown3 hgrow3 hat3;obtain⟨a3,c3,rfl⟩:=AD hown3;have HO3:=hid hown3;have hbw3:Below w.heap.size w w3:=(Below.grown zB hgrow3 zH (fun g e=>(HO2.out.lt g e).1));have hs3:w2.heap.size≤w3.heap.size:=(A4 zN hgrow3.size);have HS3:=hid (A8 (lift HL.out hbw3));clear hgrow3 hown3 hat3))
   | (at_builtin;go_loud (refine Ar rfl _ _ _ rfl w.heap.size 5 i0 (.int .u8 0) 1 1 Au hi hz0 hz1 hz2 rfl zO (.slice a3 (V.length+1) c3) (V.length+1) (byteCells V++[.int .u8 0]) rfl HO3.out a p.length c (byteCells p) rfl HS3.out HONE.out zK zD zD ?_;intro v' w5 hown5 hgrow5 hat5;have HG5:=hid hgrow5;have HO5:=hid hown5;clear hgrow5 hown5 hat5)))
  have ho:=HO5.out;rw[show [Value.int .u8 0]=byteCells [0] from rfl,Dl,Dl,Ao,show [(0:UInt8)]++p=0::p from rfl,←HK.out] at ho;have hln:V.length+1+p.length=K.length:=by rw[HK.out];simp;omega
  have hV5:=Cg hln ho;have hbF:Below w.heap.size w w5:=Below.grown hbw3 HG5.out zD (fun g e=>(HO3.out.lt g e).1);have HV5:=hid hV5;clear ho hln hV5;go_ret;exact⟨_,rfl,HV5.out,hbF⟩
 ·have hK:K=V++(1::G):=hbk.out
  have HK:=hid hK;clear hK hbk;go_enter Tryz.func184,Tryz.ntmps184;go_wp2_with fail;refine HV.out.mono ?_;rintro r w1 ⟨v,rfl,ho1,hb1⟩;obtain⟨a1,c1,rfl⟩:=AD ho1;have HO1:=hid ho1;clear ho1;go_wp2_with fail;refine (HPK.out _ hb1).mono ?_;rintro r w2 ⟨rfl,hb2⟩;have hs1:=hb1.size;have hs2:=hb2.size;have hbw2:=Af hb2 hb1;have HO2:=hid (AF HO1.out hb2);go_wp2_with (at_builtin;go_loud (refine Ar rfl _ _ _ rfl w.heap.size 5 i0 (.int .u8 0) 1 1 Au hi hz0 hz1 hz2 rfl zO (.slice a1 V.length c1) V.length (byteCells V) rfl (AF HO2.out zB) (some ⟨w2.heap.size,0,none⟩) 1 1 [.int .u8 1] rfl (By w2 5 _ rfl rfl rfl) zW zK zD zH ?_;intro v' w3 hown3 hgrow3 hat3;obtain⟨a3,c3,rfl⟩:=AD hown3;have HO3:=hid hown3;have hbw3:Below w.heap.size w w3:=(Below.grown zB hgrow3 zH (fun g e=>(HO2.out.lt g e).1));have hs3:w2.heap.size≤w3.heap.size:=(A4 zN hgrow3.size);have HS3:=hid (A8 (lift HL.out hbw3));clear hgrow3 hown3 hat3))
  refine (HPB.out _ hbw3).mono ?_;rintro r w4 ⟨v4,rfl,hr4,hb4⟩;obtain⟨a4,c4,hv4,hr4',_⟩:=AN hr4;simp only[As,AM] at hv4;subst hv4;have HR4:=hid (Ah.mono hr4' (S':=(·<w4.heap.size)) fun q hq=>hq.2);clear hr4 hr4';go_wp2_with fail;refine (HB.out _ a4 c4 HR4.out).mono ?_;rintro r w5 ⟨v5,rfl,ho5,hb5⟩;obtain⟨a5,c5,rfl⟩:=AD ho5;have hs4:=hb4.size;have hs5:=hb5.size;have hb35:=Af hb5 hb4;have hbw5:=Af hb35 hbw3;have HS5:=hid (A8 (BM rfl ho5));have HO5:=hid (AF HO3.out hb35);have HONE5:=hid (AI G);clear ho5;go_wp2_with (at_builtin;go_loud (refine Ar rfl _ _ _ rfl w.heap.size 5 i0 (.int .u8 0) 1 1 Au hi hz0 hz1 hz2 rfl zO (.slice a3 (V.length+1) c3) (V.length+1) (byteCells V++[.int .u8 1]) rfl HO5.out a5 G.length c5 (byteCells G) rfl HS5.out HONE5.out zK zD zD ?_;intro v' w6 hown6 hgrow6 hat6;have HG6:=hid hgrow6;have HO6:=hid hown6;clear hgrow6 hown6 hat6))
  have ho:=HO6.out;rw[show [Value.int .u8 1]=byteCells [1] from rfl,Dl,Dl,Ao,show [(1:UInt8)]++G=1::G from rfl,←HK.out] at ho;have hln:V.length+1+G.length=K.length:=by rw[HK.out];simp;omega
  have hV6:=Cg hln ho;have hbF:Below w.heap.size w w6:=Below.grown hbw5 HG6.out zD (fun g e=>(HO5.out.lt g e).1);have HV6:=hid hV6;clear ho hln hV6;go_ret;exact⟨_,rfl,HV6.out,hbF⟩
theorem EC(h:a1.map Addr.block=a.map Addr.block∨∃q,a1.map Addr.block=some q∧w.heap.size≤q){q:Nat}(hq:q<w.heap.size)(hn:¬Dr g a q):¬Dr g a1 q:=by
 rw[Fv] at hn ⊢;intro e;rcases e with e | e
 ·exact hn (.inl e)
 ·rcases h with h | ⟨q',h,h2⟩
  ·exact hn (.inr (h ▸ e))
  ·rw[h] at e;have:=A7 e;omega
theorem Lg(w:World)(y:UInt8):Ah.r (·<(w.alloc (.cells #[.int .u8 (y.toNat:Int)] 5)).heap.size) (w.alloc (.cells #[.int .u8 (y.toNat:Int)] 5)) [.slice (some ⟨w.heap.size,0,none⟩) 1 1] [y]:=
 BM (l:=[y]) rfl (GF (base:=0) (Am _) (F0 w _))
theorem Qf(w:World){g base most:Nat}{J:List UInt8}{a:Option Addr}(h:BQ w g base most J a c)(p:List UInt8)(ad:Option Addr)(nd cd:Nat)
 (hD:Ah.r (fun q=>q<w.heap.size∧¬Dr g a q) w [.slice ad nd cd] p) (hp:p.length≤1048576) (hfit:J.length+(Bk p).length≤most) (hlen:J.length+(Bk p).length≤100000000000000):
  Calls Tryz.prog 276 #[.pointer (some ⟨g,0,none⟩),.slice ad nd cd] w fun r w'=>r=.returned (.tuple #[])∧At w g base most (J++Bk p) a w':=by
 obtain⟨rfl,hm,_,_⟩:=AT hD;have d1:decide ((1048576:Int)<(p.length:Int))=false:=Ae zD;have hbk:Hid (Bk p=Az p.length++(if GC p then 1::C3 (Dm p) else 0::p)):=hid rfl;have hvl:(Az p.length).length≤(Bk p).length:=by rw[hbk.out];simp
 have HV:=hid (Cl w h p.length zD zD zD);have HPK:=hid (fun (W:World) (hl:Ah.r (·<W.heap.size) W [.slice ad p.length cd] p)=>Ra W p ad _ cd hl hp);have HD:=hid hD;have HFIT:=hid hfit;have HLEN:=hid hlen;clear h hD hfit hlen hvl;generalize GC p=R at*;generalize Dm p=E at*;generalize Az p.length=V at*;generalize Bk p=K at*;cases R
 ·have HK:Hid (K=V++(0::p)):=hid hbk.out
  clear hbk;go_enter Tryz.func276,Tryz.ntmps276;go_wp2_with fail;refine HV.out.mono ?_;rintro r w1 ⟨rfl,a1,c1,hp1,ht1,ha1⟩;have hs1:=ht1.size;have hD1:Ah.r (fun q=>q<w1.heap.size∧¬Dr g a1 q) w1 [.slice ad p.length cd] p:=Ah.mono (Ah.keep HD.out fun q hq=>ht1.block q hq.1 hq.2) fun q hq=>⟨zD,EC ha1 hq.1 hq.2⟩;have HD1:=hid hD1;clear hD1;go_wp2_with fail;refine (HPK.out _ (Ah.mono HD1.out fun q hq=>hq.1)).mono ?_;rintro r w2 ⟨v2,rfl,_,hv2,hb2⟩;obtain rfl:=hv2 trivial;have hs2:=hb2.size;have hp2:=hp1.later hb2;go_wp2_with fail;have hbW:Below w2.heap.size w2 (w2.alloc (.cells #[.int .u8 0] 5)):=zB;have hlit:Ah.r (·<(w2.alloc (.cells #[.int .u8 0] 5)).heap.size) (w2.alloc (.cells #[.int .u8 0] 5)) [.slice (some ⟨w2.heap.size,0,none⟩) 1 1] [0]:=Lg w2 0;generalize w2.alloc (.cells #[.int .u8 0] 5)=W at*;have hsW:=hbW.size;refine (Fu W (hp2.later hbW) [0] (some ⟨w2.heap.size,0,none⟩) 1 1 hlit ZW ZV).mono ?_;rintro r w3 ⟨rfl,a3,c3,hp3,ht3,ha3⟩;have hs3:=ht3.size;have hD3:Ah.r (·<w3.heap.size) w3 [.slice ad p.length cd] p:=Ah.mono (Ah.keep HD1.out fun q hq=>(ht3.block q zD hq.2).trans ((hbW.block q zD).trans (hb2.block q hq.1))) fun q hq=>by omega
  have HQ:=hid (Fu w3 hp3 p ad _ cd hD3 ZW ZV);clear hD3 hlit;go_wp2_with fail;refine HQ.out.mono ?_;rintro r w4 ⟨rfl,hst⟩;have hst2:=At.trans (J:=J) ht1 ha1 (At.later hb2 (At.later hbW (At.trans (J:=J) ht3 ha3 hst)));have HST:Hid (At w g base most (J++K) a w4):=hid (by rw[HK.out];simpa using hst2);clear hst hst2;go_wp2;first | go_end0 | refine Al (Ax rfl _ _ _) rfl ?_
  exact⟨rfl,HST.out⟩
 ·have HK:Hid (K=V++(1::C3 E)):=hid hbk.out
  clear hbk;go_enter Tryz.func276,Tryz.ntmps276;go_wp2_with fail;refine HV.out.mono ?_;rintro r w1 ⟨rfl,a1,c1,hp1,ht1,ha1⟩;have hs1:=ht1.size;have hD1:Ah.r (fun q=>q<w1.heap.size∧¬Dr g a1 q) w1 [.slice ad p.length cd] p:=Ah.mono (Ah.keep HD.out fun q hq=>ht1.block q hq.1 hq.2) fun q hq=>⟨zD,EC ha1 hq.1 hq.2⟩;have HD1:=hid hD1;clear hD1;go_wp2_with fail;refine (HPK.out _ (Ah.mono HD1.out fun q hq=>hq.1)).mono ?_;rintro r w2 ⟨v2,rfl,hv2,_,hb2⟩;obtain⟨a2,c2,hve,hr2,_⟩:=AN (hv2 trivial);simp only[As,AM] at hve;subst hve;have HE:=hid hr2;clear hv2 hr2;have hs2:=hb2.size;have hp2:=hp1.later hb2;go_wp2_with fail;have hbW:Below w2.heap.size w2 (w2.alloc (.cells #[.int .u8 1] 5)):=zB;have hlit:Ah.r (·<(w2.alloc (.cells #[.int .u8 1] 5)).heap.size) (w2.alloc (.cells #[.int .u8 1] 5)) [.slice (some ⟨w2.heap.size,0,none⟩) 1 1] [1]:=Lg w2 1;generalize w2.alloc (.cells #[.int .u8 1] 5)=W at*;have hsW:=hbW.size;refine (Fu W (hp2.later hbW) [1] (some ⟨w2.heap.size,0,none⟩) 1 1 hlit ZW ZV).mono ?_;rintro r w3 ⟨rfl,a3,c3,hp3,ht3,ha3⟩;have hs3:=ht3.size;have hno:∀q,w1.heap.size≤q→¬Dr g a1 q:=fun q hq hf=>by have:=(hp1.En hf).2;omega
  have hE3:Ah.r (fun q=>q<w3.heap.size∧¬Dr g a3 q) w3 [.slice a2 E.length c2] E:=Ah.mono (Ah.keep HE.out fun q hq=>(ht3.block q zD (hno q hq.1)).trans (hbW.block q zD)) fun q hq=>⟨zD,EC ha3 zD (hno q hq.1)⟩;have HQ:=hid (SO w3 hp3 E a2 _ c2 hE3 ZW ZV);clear hE3 hlit hno;go_wp2_with fail;refine HQ.out.mono ?_;rintro r w4 ⟨rfl,hst⟩;have hst2:=At.trans (J:=J) ht1 ha1 (At.later hb2 (At.later hbW (At.trans (J:=J) ht3 ha3 hst)));have HST:Hid (At w g base most (J++K) a w4):=hid (by rw[HK.out];simpa using hst2);clear hst hst2;go_wp2;first | go_end0 | refine Al (Ax rfl _ _ _) rfl ?_
  exact⟨rfl,HST.out⟩
theorem KM(p:List UInt8):(Bk p).length≤(Az p.length).length+p.length+1:=by
 unfold Bk;by_cases h:GC p=true
 ·have h2:=h
  unfold GC at h2;have h3:=Bc h2;rw[Ai h];simp;omega
 ·rw[Ak h]
  simp;omega
theorem MW(w:World)(p:List UInt8)(a:Option Addr)(n c:Nat)(hl:Ah.r (·<w.heap.size) w [.slice a n c] p)(hp:p.length≤1048576):
  Calls Tryz.prog 213 #[.slice a n c] w fun r w'=>∃v,r=.returned (.tuple #[v,.int .i64 0])∧Ah.r (fun q=>w.heap.size≤q∧q<w'.heap.size) w' [v] (Bk p)∧Below w.heap.size w w':=by
 obtain⟨rfl,hm,_,_⟩:=AT hl;have HS:=hid (Mj p.length zD w);have hbl:=KM p;have hvl:=AZ p.length;have HL:=hid hl;clear hl;generalize (Az p.length).length=k at*;have hbK:=hid hbl;clear hbl;go_enter Tryz.func213,Tryz.ntmps213;go_wp2_with fail;refine HS.out.mono ?_;rintro r w1 ⟨rfl,hb1⟩;have HN:=hid (I2 w1 (k+p.length+1) zD);rw[show ((k+p.length+1:Nat):Int)=(k:Int)+(p.length:Int)+1 by omega] at HN;have hs1:=hb1.size;go_wp2_with fail;refine HN.out.mono ?_;rintro r w2 ⟨rfl,hp2,hb2⟩;have hs2:=hb2.size;have hbw2:=Af hb2 hb1;have HQ:=hid (Qf w2 hp2 p a _ c (Ah.mono (Ah.keep HL.out fun q hq=>hbw2.block q hq) fun q hq=>⟨zD,fun hf=>zBy⟩) hp (by have:=hbK.out;simp;omega) (by have:=hbK.out;simp;omega));have HP2:=hid hp2;clear hp2;go_wp2_with fail;refine HQ.out.mono ?_;rintro r w3 ⟨rfl,hst⟩;have hb3:Below w1.heap.size w2 w3:=HP2.out.below (An _) zD hst;obtain⟨a3,c3,hp3,_,_⟩:=hst;rw[AV] at hp3;have hs3:=hb3.size;have hbw3:Below w.heap.size w w3:=hbw2.trans (hb3.mono zD);have HB:=hid (Hb w3 hp3);clear hp3;go_wp2_with fail;refine HB.out.mono ?_;rintro r w4 ⟨v,rfl,hv,hb4⟩;have hbe:=Af hb4 hbw3;have HV:=hid (Ah.mono (S':=fun q=>w.heap.size≤q∧q<w4.heap.size) hv fun q hq=>⟨zY,hq.2⟩);clear hv;go_wp2;go_ret2
 exact⟨_,rfl,HV.out,hbe⟩
end Go.Proofs.YtfddhafbhceoaaaGreat
