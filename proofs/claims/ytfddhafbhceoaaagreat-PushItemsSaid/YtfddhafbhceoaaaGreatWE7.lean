/- Mini: Needed by pushItems_walk, part 7: texts put together by shake.py; no condition. -/
import Derived.Test.YtfddhafbhceoaaaGreatWE2
import Derived.Test.YtfddhafbhceoaaaGreatWE1
import Derived.Test.YtfddhafbhceoaaaGreatWE6
import Derived.Test.YtfddhafbhceoaaaGreatWE5
import Derived.Lib.ConvBytes
import Derived.Laws.AppendOwn
import Derived.Test.YtfddhafbhceoaaaGreatWE4
import Derived.Test.YtfddhafbhceoaaaGreatWE3
set_option linter.unusedVariables false
set_option linter.unusedSimpArgs false
set_option maxRecDepth 100000
set_option maxHeartbeats 6400000
namespace Go.Bs
theorem zCm{p:Prop}(h:p:=by simp [results, Tryz.results176, go_sem, y0, y1, l1]):p:=h
theorem zBl{p:Prop}(h:p:=by have := GL List.length hJ.out; rw [Ag] at this; omega):p:=h
theorem zA8{p:Prop}(h:p:=by have := hJ.out; rwa [DX] at this):p:=h
theorem ZB{p:Prop}(h:p:=by rw [Ag]):p:=h
theorem Bu:type_of% @Nat.add_assoc:=@Nat.add_assoc
theorem H6:type_of% @Proofs.Tryz.ntmps255:=@Proofs.Tryz.ntmps255
theorem Jk:type_of% @Proofs.Tryz.func255:=@Proofs.Tryz.func255
end Go.Bs
namespace Go.Proofs.YtfddhafbhceoaaaGreat
open Go.RowKit Go.Bs Go.Maps
variable{bound pos:Int}{B D J J' b rest:List UInt8}{xs:List Value}{base c g i n o p:Nat}{a:Option Addr}{s:Rs}{e:TypeId}{v:Value}{w w' w1:World}
theorem NF:∀(l:List Int) (p:Int) (k:Nat) (h:k<l.length),(BU p l)[k]'(by rw[Gf];exact h)=ahead p l k-l[k]-1
 | [],p,k,h=>by simp at h
 | x::l,p,0,h=>by simp[BU,ahead]
 | x::l,p,k+1,h=>by
  simp only[BU,Aw];rw[NF l x k zAe];congr 2
  unfold ahead;cases k with
  | zero=>simp
  | succ k=>simp
theorem Sv:∀(l:List Int) (p:Int) (k:Nat) (h:k<l.length),CI p l=true→l[k]<ahead p l k
 | [],p,k,h,_=>by simp at h
 | x::l,p,0,h,hf=>by simp only[CI,Aq,Av] at hf;simpa [ahead] using hf.1
 | x::l,p,k+1,h,hf=>by
  simp only[CI,Aq,Av] at hf;have:=Sv l x k zAe hf.2;rw[Aw];unfold ahead at this ⊢;cases k with
  | zero=>simpa using this
  | succ k=>simpa using this
theorem RF(w:World)(pos:Int)(hpos:0≤pos∧pos≤18446744073709551615)(l:List Int)(al:Option Addr)(nl cl:Nat)(hl:Bb.r (·<w.heap.size) w [.slice al nl cl] l)(hf:CI pos l=true)(hlen:l.length≤1000000):
  Calls Tryz.prog 321 #[.int .u64 pos,.slice al nl cl] w fun r w'=>∃v,r=.returned v∧Bb.r (fun q=>w.heap.size≤q∧q<w'.heap.size) w' [v] (BU pos l)∧Below w.heap.size w w':=by
 obtain⟨rfl,hm,_,_⟩:=AT hl;obtain⟨i0,hi,hz0,hz1,hz2⟩:=A3 Ok;have HL:=hid hl;have hxs:=Ew hl;have hul:=Gf pos l;have HU:=hid (fun (k:Nat) (h:k<l.length)=>NF l pos k h);have HF:=hid (fun (k:Nat) (h:k<l.length)=>Sv l pos k h hf);have HXB:=hid (fun (k:Nat) (h:k<l.length)=>hxs l[k] (Bi h));clear hl hf hxs;go_enter Tryz.func321,Tryz.ntmps321;go_wp2_with fail;go_loopw [5,6] (fun v i wr=>∃k:Nat,k≤l.length∧i=.int .i64 k∧wr.ownsRow w.heap.size 36 1 v k (BS ((BU pos l).take k))∧Hid (∀x∈(BU pos l).take k,0≤x∧x≤18446744073709551615)∧Below w.heap.size w wr) (fun _ i _=>l.length-(intOf i).toNat)
 case atStart=>exact ⟨0,Am _,rfl,⟨rfl,.inl ⟨rfl,rfl⟩⟩,hid zN,Below.refl _ _⟩
 case round=>
  obtain⟨k,hk,rfl,hown,hbd,hb⟩:=hrel;obtain⟨av,cv,rfl⟩:=AD hown;rcases Bh k l.length with hlt | hge
  ·obtain⟨b,o,hA,hbb,x0,hx⟩:=Dv (lift HL.out hb) hlt
   subst hA;have hu:=HU.out k hlt;have hfa:=HF.out k hlt;have i1:(k:Int)<(l.length:Int):=zD;have d1:decide ((k:Int)<(l.length:Int))=true:=Ad i1;have htk:BS ((BU pos l).take (k+1))=BS ((BU pos l).take k)++[.int .u64 ((BU pos l)[k]'zD)]:=by
    rw[AW zD];unfold BS;rw[BX];rfl
   have hnb:∀y:Int,(BU pos l)[k]'zD=y→(0≤y∧y≤18446744073709551615)→∀x∈(BU pos l).take (k+1),0≤x∧x≤18446744073709551615:=fun y e hy x hx=>by
    rw[AW zD,EO,De] at hx;rcases hx with hx | rfl
    ·exact hbd.out x hx
    ·rw[e];exact hy
   have HTK:=hid htk;have HNB:=hid hnb;have HO:=hid hown;have hz:=hb.size;rw[hu] at HTK;rcases Cf k with rfl | hk0
   ·rw[ahead_zero] at hu hfa HTK
    have HBD:=hid (HNB.out _ hu zD);simp only[Nat.zero_mul,Cu,A1] at x0;generalize l[0]=y at*;have w1:0≤pos-1-y:=zD;have w2:0≤pos-1:=zD;rw[show pos-y-1=pos-1-y by omega] at HTK;clear hu htk hnb hbd hown;go_wp2_with (at_builtin;go_loud (refine Ar rfl _ _ _ rfl w.heap.size 36 i0 (.int .u64 0) 1 8 C7 hi hz0 hz1 hz2 rfl zO (.slice av 0 cv) 0 _ rfl (AF HO.out zA) (some ⟨wr.heap.size,0,none⟩) 1 1 [.int .u64 (pos-1-y)] rfl (By _ 36 _ rfl zN rfl) ZO zK zD zH ?_;intro v' w3 hown3 hgrow3 hat3;obtain⟨a3,c3,rfl⟩:=AD hown3;have HO3:=hid hown3;have hb3:Below w.heap.size wr w3:=(Below.grown ((by (repeat (first | with_reducible exact Below.refl _ _ | with_reducible assumption | (with_reducible refine AH ?_ _) | (with_reducible refine Below.setCell ?_ zF _) | (with_reducible refine Below.drew ?_) | (with_reducible refine below_drewN ?_ _) | (refine Af zG ?_))):Below wr.heap.size wr _).mono hz) hgrow3 zH (fun g e=>(HO.out.lt g e).1));clear hown3 hgrow3 hat3))
    have ho3:=HO3.out;rw[←HTK.out] at ho3;have HO4:=hid ho3;clear ho3 x0;go_roundw
    case rel=>exact ⟨1,zD,zV,by simpa using HO4.out,HBD,hb.trans hb3⟩
    case measure=>simp [intOf];omega
   ·obtain⟨m,rfl⟩:∃m,k=m+1:=⟨k-1,zD⟩
    obtain⟨b',o',hA',hbb',y0,hy⟩:=Dv (lift HL.out hb) (show m<l.length by omega);simp only[Bd,CZ] at hA';obtain⟨rfl,rfl,_⟩:=hA';rw[KN pos l m zD] at hu hfa HTK;have hm0:=HXB.out m zD;have hm1:=HXB.out (m+1) hlt;have HBD:=hid (HNB.out _ hu zD);have i1':(m:Int)+1<(l.length:Int):=zD;have i2:(m:Int)<(l.length:Int):=zD;have d2:decide ((m:Int)+1<(l.length:Int))=true:=Ad i1';have d3:decide (m+1<l.length)=true:=Ad hlt;generalize l[m+1]=y at*;generalize l[m]'zD=z at*;have w1:0≤z-1-y:=zD;have w2:0≤z-1:=zD;rw[show z-y-1=z-1-y by omega] at HTK;clear hu htk hnb hbd hown;go_wp2_with (at_builtin;go_loud (refine Ar rfl _ _ _ rfl w.heap.size 36 i0 (.int .u64 0) 1 8 C7 hi hz0 hz1 hz2 rfl zO (.slice av (m+1) cv) (m+1) _ rfl (AF HO.out zA) (some ⟨wr.heap.size,0,none⟩) 1 1 [.int .u64 (z-1-y)] rfl (By _ 36 _ rfl zN rfl) ZO zK zD zH ?_;intro v' w3 hown3 hgrow3 hat3;obtain⟨a3,c3,rfl⟩:=AD hown3;have HO3:=hid hown3;have hb3:Below w.heap.size wr w3:=(Below.grown ((by (repeat (first | with_reducible exact Below.refl _ _ | with_reducible assumption | (with_reducible refine AH ?_ _) | (with_reducible refine Below.setCell ?_ zF _) | (with_reducible refine Below.drew ?_) | (with_reducible refine below_drewN ?_ _) | (refine Af zG ?_))):Below wr.heap.size wr _).mono hz) hgrow3 zH (fun g e=>(HO.out.lt g e).1));clear hown3 hgrow3 hat3))
    have ho3:=HO3.out;rw[←HTK.out] at ho3;have HO4:=hid ho3;clear ho3 x0 y0;go_roundw
    case rel=>exact ⟨m+1+1,zD,zV,HO4.out,HBD,hb.trans hb3⟩
    case measure=>simp [intOf];omega
  ·obtain rfl:k=l.length:=by omega
   have d1:decide ((l.length:Int)<(l.length:Int))=false:=Ae zD;have hv:=hown;rw[CF zD] at hv hbd;have HV:=hid (FA hbd.out zD hv);clear hv hown;go_wp2;go_ret;exact⟨_,rfl,HV.out,hb⟩
def BD(w:World)(base:Nat)(v:Value)(L:List UInt8):Prop:=w.ownsRow base 5 1 v L.length (byteCells L)
theorem Es(l l':List UInt8):byteCells l++byteCells l'=byteCells (l++l'):=zAm
theorem BD.app{L:List UInt8}(h:w.ownsRow base 5 1 v (L.length+D.length) (byteCells L++byteCells D)):BD w base v (L++D):=by
 unfold BD;rw[Ag,←Es];exact h
theorem RG(w:World)(pos:Int)(hpos:0≤pos∧pos≤18446744073709551615)(l:List Int)(al:Option Addr)(nl cl:Nat)(hl:Bb.r (·<w.heap.size) w [.slice al nl cl] l)(hf:CI pos l=true)(hlen:l.length≤1000000):
  Calls Tryz.prog 251 #[.int .u64 pos,.slice al nl cl] w fun r w'=>∃v,r=.returned v∧BD w' w.heap.size v (Dp pos l)∧Below w.heap.size w w':=by
 obtain⟨rfl,hm,_,_⟩:=AT hl;obtain⟨i0,hi,hz0,hz1,hz2⟩:=A3 DH;have HS:=hid (fun (W:World) (hW:Below w.heap.size w W)=>RF W pos hpos l al _ cl (lift hl hW) hf hlen);have HV:=hid (FH l.length zD w);have hsl:=Gf pos l;have hnb:=Hc (BU pos l);have hvl:=(AZ l.length).1;unfold Dp;have HMO:=hid (fun k=>Fo (BU pos l) k);have HNS:=hid (fun (k:Nat) (h:k<(BU pos l).length)=>Hr (BU pos l) k h);generalize BU pos l=T at*;generalize Az l.length=V at*;clear hl hf;go_enter Tryz.func251,Tryz.ntmps251;go_wp2_with fail;refine HV.out.mono ?_;rintro r w1 ⟨v1,rfl,hv1,hb1⟩;obtain⟨a1,c1,rfl⟩:=AD hv1;have HO1:=hid hv1;clear hv1;go_wp2_with fail;refine (HS.out _ hb1).mono ?_;rintro r w2 ⟨v2,rfl,hr2,hb2⟩;obtain⟨a2,c2,hv2,hr2',_⟩:=AN hr2;simp only[As,AM] at hv2;subst hv2;have HT:=hid (Bb.mono (S':=fun q=>w1.heap.size≤q∧q<w2.heap.size) hr2' fun q hq=>hq);have HO2:=hid (AF HO1.out hb2);have hbw2:=Af hb2 hb1;have hsz2:=hb2.size;clear hr2 hr2';go_wp2_with fail;go_loopw [5,7] (fun v i wr=>∃(k:Nat) (J:List UInt8),k≤T.length∧i=.int .i64 k∧BD wr w.heap.size v J∧Hid (J=V++CG (T.take k))∧(∃aJ cJ,v=.slice aJ J.length cJ)∧Below w.heap.size w wr∧w2.heap.size≤wr.heap.size∧Bb.r (fun q=>w1.heap.size≤q∧q<w2.heap.size) wr [.slice a2 T.length c2] T∧Hid (∀q,v.ownBlock=some q→¬(w1.heap.size≤q∧q<w2.heap.size))) (fun _ i _=>T.length-(intOf i).toNat)
 case atStart=>exact ⟨0,V,Am _,rfl,HO2.out,hid (by simp[CG]),⟨_,_,rfl⟩,hbw2,An _,HT.out,hid (fun q e h=>by have:=(HO1.out.lt q e).2;omega)⟩
 case round=>
  obtain⟨k,J,hk,rfl,hown,hJ,⟨aJ,cJ,rfl⟩,hb,hsz,hT,hav⟩:=hrel;rcases Bh k T.length with hlt | hge
  ·obtain⟨b,o,hA,hbb,x0,hx0,hx1⟩:=Dv hT hlt
   subst hA;have hst:=HNS.out k hlt;have hmo:=HMO.out (k+1);rw[hst,Ag] at hmo;have hJl:J.length+(Az T[k].toNat).length≤20000000:=zBl;have HN:=hid (fun (W:World)=>(by have:=FH T[k].toNat zD W;rw[toNat_cast hx0] at this;exact this:Calls Tryz.prog 101 #[.int .u64 T[k]] W fun r w'=>∃v,r=.returned v∧w'.ownsRow W.heap.size 5 1 v (Az T[k].toNat).length (byteCells (Az T[k].toNat))∧Below W.heap.size W w'));have HJ1:Hid (J++Az T[k].toNat=V++CG (T.take (k+1))):=hid (by rw[hst,hJ.out,Ao]);have HO:=hid hown;have HTT:=hid hT;have i1:(k:Int)<(T.length:Int):=zD;have d1:decide ((k:Int)<(T.length:Int))=true:=Ad i1;generalize Az T[k].toNat=VK at*;have HONE:=hid (AI VK);generalize T[k]=y at*;clear hst hmo hJ hown hT;go_wp2_with fail;refine (HN.out _).mono ?_;rintro r w3 ⟨v3,rfl,hv3,hb3⟩;obtain⟨a3,c3,rfl⟩:=AD hv3;have HS3:=hid (A8 (BM rfl hv3));have HO3:=hid (AF HO.out hb3);have hz:=hb.size;have hz3:=hb3.size;clear hv3;go_wp2_with (at_builtin;go_loud (refine Ar rfl _ _ _ rfl w.heap.size 5 i0 (.int .u8 0) 1 1 Au hi hz0 hz1 hz2 rfl zO (.slice aJ J.length cJ) J.length (byteCells J) rfl HO3.out a3 VK.length c3 (byteCells VK) rfl HS3.out HONE.out zK zD zD ?_;intro v' w4 hown4 hgrow4 hat4;obtain⟨a4,c4,rfl⟩:=AD hown4;have HO4:=hid hown4;have HGR4:=hid hgrow4;have HA4:=hid hat4;clear hown4 hgrow4 hat4))
   have ho4:=BD.app HO4.out;have hb4:Below w.heap.size w3 w4:=(Below.grown (Below.refl _ _) HGR4.out zD (fun g e=>(HO3.out.lt g e).1));have hg4:Bb.r (fun q=>w1.heap.size≤q∧q<w2.heap.size) w4 [.slice (some ⟨b,o,none⟩) T.length c2] T:=Bb.keep HTT.out fun q hq=>by
    have hq':w1.heap.size≤q∧q<w2.heap.size:=hq;exact (HGR4.out.block q zD (fun e=>hav.out q e.symm hq')).trans (hb3.block q zD)
   have HO5:=hid ho4;have HG4:=hid hg4;clear ho4 hg4;go_roundw
   case rel=>exact ⟨k+1,J++VK,zD,zV,HO5.out,HJ1,⟨_,_,ZB⟩,hb.trans ((hb3.mono hb.size).trans hb4),by have:=hb4.size;omega,HG4.out,hid (fun q e h=>by
    rcases HA4.out with h1 | h1
    ·exact hav.out q (h1 ▸ e) h
    ·rw[h1] at e;simp at e;omega)⟩
   case measure=>simp [intOf];omega
  ·obtain rfl:k=T.length:=by omega
   have d1:decide ((T.length:Int)<(T.length:Int))=false:=Ae zD;have hfin:Hid (J=V++CG T):=hid zA8;have HO:=hid hown;clear hown hJ;go_wp2;go_ret;rw[←hfin.out];exact⟨_,rfl,HO.out,hb⟩
theorem BD.low{b b':Nat}{L:List UInt8}(h:BD w b v L)(hb:b'≤b):BD w b' v L:=by
 obtain⟨h1,h2⟩:=h;refine⟨h1,?_⟩;rcases h2 with h2 | ⟨g,cap,cur,e1,e2,e3⟩
 ·exact .inl h2
 ·exact .inr ⟨g,cap,cur,e1,zD,e3⟩
theorem BD.read{w:World}{b:Nat}{v:Value}{L:List UInt8}(h:BD w b v L):Ah.r (fun q=>b≤q∧q<w.heap.size) w [v] L:=Cg rfl h
theorem BD.form{b:Nat}{L:List UInt8}(h:BD w b v L):∃a c,v=.slice a L.length c:=AD h
theorem OT(w:World){most:Nat}(h:BQ w g base most J a c):
  Calls Tryz.prog 165 #[.pointer (some ⟨g,0,none⟩)] w fun r w'=>∃v,r=.returned (.tuple #[v,.int .i64 0])∧BD w' w.heap.size v J∧Below w.heap.size w w':=by
 obtain⟨i0,hi,hz0,hz1,hz2⟩:=A3 DH;have HC:=hid (K7 w h);have hB:=Cg rfl h.own;obtain⟨_,hm,_,_⟩:=AT hB;have HD:=hid (Ah.mono hB (S':=(·<w.heap.size)) fun q hq=>hq.2);have HONE:=hid (AI J);have c1:w.cell? ⟨g,1,none⟩=some (.slice a J.length c):=h.blk.cell 1;have hg1:=h.blk.lt;have hle:=h.le;have hmo:=h.most;have hle14:=h.len;clear h hB;go_enter Tryz.func165,Tryz.ntmps165;go_wp2_with fail;refine HC.out.mono ?_;rintro r w0 ⟨rfl,rfl⟩;go_wp2_with (at_builtin;go_loud (refine Ar rfl _ _ _ rfl w.heap.size 5 i0 (.int .u8 0) 1 1 Au hi hz0 hz1 hz2 rfl zO _ 0 [] rfl (Gk _ (An _) rfl) a J.length c (byteCells J) rfl (A8 (lift HD.out zB)) HONE.out zK zD zN ?_;intro v' w1 hown1 hgrow1 hat1;rw[A1,AV] at hown1;obtain⟨a',c',rfl⟩:=AD hown1;have HG:=hid hgrow1;have HO:=hid hown1;clear hgrow1 hown1 hat1))
 have hb1:Below w.heap.size w w1:=Below.grown zB HG.out zN (fun g e=>by
  have e':some w.heap.size=some g:=e;injection e' with e';omega)
 go_ret2
 exact⟨_,rfl,HO.out,hb1⟩
end Go.Proofs.YtfddhafbhceoaaaGreat
namespace Go.Bs
open Go.RowKit
end Go.Bs
namespace Go.Proofs.YtfddhafbhceoaaaGreat
open Go.RowKit Go.Bs Go.Maps
variable{bound pos:Int}{B D J J' b rest:List UInt8}{xs:List Value}{base c g i n o p:Nat}{a:Option Addr}{s:Rs}{e:TypeId}{v:Value}{w w' w1:World}
def Gb(w1:World)(g most:Nat)(J:List UInt8)(w:World):Prop:=At w1 g g most J none w
theorem Gb.new{most:Nat}(h:BQ w g g most [] none 0):Gb w g most [] w:=At.refl h
theorem Gb.step{most:Nat}(h:Gb w1 g most J w)(k:∀a c,BQ w g g most J a c→At w g g most J' a w'):Gb w1 g most J' w':=by
 obtain⟨a,c,h1,h2,h3⟩:=h;exact At.trans (J:=J) h2 h3 (k a c h1)
theorem Gb.at{most:Nat}(h:Gb w1 g most J w):∃a c,BQ w g g most J a c∧(∀{J':List UInt8} {w':World},At w g g most J' a w'→Gb w1 g most J' w')∧(∀q,q<w1.heap.size→q≠g→¬Dr g a q):=by
 obtain⟨a,c,h1,h2,h3⟩:=h;refine⟨a,c,h1,fun k=>At.trans (J:=J) h2 h3 k,fun q hq hn e=> ?_⟩;rw[Fv] at e;rcases e with e | e
 ·exact hn e
 ·rcases h3 with h3 | ⟨q',h3,h4⟩
  ·rw[h3] at e;cases e
  ·rw[h3] at e;have:=A7 e;omega
theorem Gb.later{most:Nat}(h:Gb w1 g most J w)(hb:Below w.heap.size w w'):Gb w1 g most J w':=by
 obtain⟨a,c,h1,k,_⟩:=h.at;exact k ⟨a,c,h1.later hb,Tch.Cx hb,.inl rfl⟩
theorem Gb.tch{most:Nat}(h:Gb w1 g most J w):Tch (·=g) w1 w:=by
 obtain⟨a,c,h1,h2,h3⟩:=h;refine h2.mono fun q _ e=> ?_;rw[Fv] at e;rcases e with e | e
 ·exact e
 ·cases e
theorem Gb.blk{most:Nat}(h:Gb w1 g most J w){b:Nat}{t:TypeId}{cs:Array Value}(hB:Blk w1 b t cs)(hn:b≠g):Blk w b t cs:=hB.tch h.tch hn
theorem Gb.below{w0:World}{most:Nat}(h:Gb w1 g most J w)(h0:Below w0.heap.size w0 w1)(hg:w0.heap.size≤g):Below w0.heap.size w0 w:=
 h0.trans (h.tch.Cw h0.size fun b _ e=>zD)
end Go.Proofs.YtfddhafbhceoaaaGreat
namespace Go.Bs
open Go.RowKit
end Go.Bs
namespace Go.Proofs.YtfddhafbhceoaaaGreat
open Go.RowKit Go.Bs Go.Maps
variable{bound pos:Int}{B D J J' b rest:List UInt8}{xs:List Value}{base c g i n o p:Nat}{a:Option Addr}{s:Rs}{e:TypeId}{v:Value}{w w' w1:World}
def Bf(p:List UInt8):List UInt8:=C3 p++CW 4 (CQ p)
theorem EX(p:List UInt8):(Bf p).length=(C3 p).length+4:=by simp[Bf,Hu]
theorem Oo(n:Nat)(hn:n≤100000000000000)(w:World):
  Calls Tryz.prog 113 #[.int .i64 n] w fun r w'=>r=.returned (.int .i64 ((Az n).length+n+4:Nat))∧Below w.heap.size w w':=by
 have HS:=hid (Mj n hn w);have hl:=AZ n;generalize (Az n).length=k at*;go_enter Tryz.func113,Tryz.ntmps113;go_wp2_with fail;refine HS.out.mono ?_;rintro r w1 ⟨rfl,hb1⟩;go_wp2;go_ret;exact⟨zA7,hb1⟩
theorem L8(w:World){g base most:Nat}{J:List UInt8}{a:Option Addr}(h:BQ w g base most J a c)(D:List UInt8)(ad:Option Addr)(nd cd:Nat)
 (hD:Ah.r (fun q=>q<w.heap.size∧¬Dr g a q) w [.slice ad nd cd] D) (hm:D.length≤2097152) (hfit:J.length+(Bf D).length≤most) (hlen:J.length+(Bf D).length≤100000000000000):
  Calls Tryz.prog 166 #[.pointer (some ⟨g,0,none⟩),.slice ad nd cd] w fun r w'=>r=.returned (.tuple #[])∧At w g base most (J++Bf D) a w':=by
 obtain⟨rfl,_,_,_⟩:=AT hD;rw[EX] at hfit hlen;have d1:decide ((2097152:Int)<(D.length:Int))=false:=Ae zD;have HB:=hid (SO w h D ad _ cd hD zD zD);have HC:=hid (fun (W:World) h=>Vz D ad D.length cd W h);have HL:=IH D;have hb:Hid (Bf D=C3 D++CW 4 (CQ D)):=hid rfl;have HD:=hid hD;generalize Bf D=K at*;generalize CQ D=s at*;generalize C3 D=E at*;clear h hD;go_enter Tryz.func166,Tryz.ntmps166;go_wp2_with fail;refine HB.out.mono ?_;rintro r w3 ⟨rfl,a3,c3,p3,t3,h3⟩;have hs3:=t3.size;have HD3:=hid (Ah.keep HD.out fun q hq=>t3.block q hq.1 hq.2);have HST:=hid (fun (J':List UInt8) (W:World) (k:At w3 g base most J' a3 W)=>At.trans (J:=J++E) t3 h3 k);have P3:=hid p3;clear p3 t3 h3;go_wp2_with fail;refine (HC.out w3 (Ah.mono HD3.out fun q hq=>zY)).mono ?_;rintro r w4 ⟨rfl,hb4⟩;have e1:(s:Int)%18446744073709551616=s:=zD;go_wp2_with fail;refine (TV w4 (P3.out.later hb4) s zD 4 zD zH zH).mono ?_;rintro r w5 ⟨rfl,hs5⟩;have hst:=HST.out _ _ (At.later hb4 hs5);rw[Ao,←hb.out] at hst;have HST2:=hid hst;clear hst hs5;go_wp2;first | go_end0 | refine Al (Ax rfl _ _ _) rfl ?_
 exact⟨rfl,HST2.out⟩
theorem MN(w:World)(D:List UInt8)(ad:Option Addr)(nd cd:Nat)(hD:Ah.r (·<w.heap.size) w [.slice ad nd cd] D)(hm:D.length≤2097152):
  Calls Tryz.prog 100 #[.slice ad nd cd] w fun r w'=>∃x,r=.returned (.tuple #[x,.int .i64 0])∧BD w' w.heap.size x (Bf D)∧Below w.heap.size w w':=by
 obtain⟨rfl,_,_,_⟩:=AT hD;have HS:=hid (Oo D.length zD w);have hvl:=AZ D.length;have hl:(Bf D).length=(Az D.length).length+D.length+4:=by rw[EX,D8]
 have HN:=hid (fun W:World=>I2 W ((Az D.length).length+D.length+4) zD);have HP:=hid (fun (W:World) (g:Nat) (h:BQ W g g ((Az D.length).length+D.length+4) [] none 0) (h1:Ah.r (fun q=>q<W.heap.size∧¬Dr g none q) W [.slice ad D.length cd] D)=>L8 W h D ad _ cd h1 hm zH zH);have HD:=hid hD;generalize Bf D=K at*;generalize (Az D.length).length+D.length+4=M at*;clear hD;go_enter Tryz.func100,Tryz.ntmps100;go_wp2_with fail;refine HS.out.mono ?_;rintro r w1 ⟨rfl,hb1⟩;go_wp2_with fail;refine (HN.out w1).mono ?_;rintro r w2 ⟨rfl,hp2,hb2⟩;have hbw2:Below w.heap.size w w2:=Af hb2 hb1;have hz1:=hb1.size;have hz2:=hb2.size;have HQ:=hid (HP.out w2 _ hp2 (Ah.mono (Ah.keep HD.out fun q hq=>hbw2.block q hq) fun q hq=>⟨zD,by rw[Fv];rintro (e | e);omega;cases e⟩));clear hp2;go_wp2_with fail;refine HQ.out.mono ?_;rintro r w3 ⟨rfl,hs3⟩;have K3:Hid (Gb w2 w1.heap.size M K w3):=hid hs3;clear hs3 HQ;go_wp2_with fail;obtain⟨a7,b7,p7,k7,_⟩:=K3.out.at;refine (OT w3 p7).mono ?_;rintro r w8 ⟨x,rfl,hr,hb8⟩;have hbw:=K3.out.below hbw2 zD;have HR:=hid hr;clear hr k7 p7;go_wp2;go_ret2
 exact⟨_,rfl,HR.out.low hbw.size,Af hb8 hbw⟩
def EF:List UInt8→Nat
 | []=>0
 | b::l=>b.toNat+256*EF l
theorem QT:∀l:List UInt8,EF l<256^l.length
 | []=>by decide
 | b::l=>by
  have h1:=QT l;have h2:=b.toNat_lt;simp only[EF,AO,Ff];omega
theorem PU:∀(l:List UInt8) (b:UInt8),EF (l++[b])=EF l+b.toNat*256^l.length
 | [],b=>by simp[EF]
 | x::l,b=>by
  simp only[DY,EF,AO,PU l b,Ff,Nat.mul_add,Bu];congr 1
  congr 1
  rw[Jl 256,Nat.mul_assoc]
theorem MQ:∀(n x:Nat),EF (CW n x)=x%256^n
 | 0,x=>by simp[CW,EF,Nat.mod_one]
 | n+1,x=>by
  have h:(UInt8.ofNat (x%256)).toNat=x%256:=by rw[UInt8.toNat_ofNat'];omega
  simp only[CW,EF,h,MQ n (x/256)];rw[Ff,Jl (256^n) 256,Nat.mod_mul]
theorem MP:∀(l:List UInt8),CW l.length (EF l)=l
 | []=>rfl
 | b::l=>by
  have h1:=b.toNat_lt;have e1:(b.toNat+256*EF l)%256=b.toNat:=zD;have e2:(b.toNat+256*EF l)/256=EF l:=zD;simp only[AO,CW,EF,e1,e2,MP l];rw[UInt8.ofNat_toNat]
theorem Aaz{X:Nat}(hX:X<256^i)(hi:i≤7)(hc:c<256):bits .or .u64 (X:Int) (IntKind.u64.wrap ((c:Int)*2^(8*i)))=((X+c*256^i:Nat):Int):=by
 have h1:(256:Nat)^i=2^(8*i):=by rw[Nat.pow_mul]
 have h2:(256:Nat)^i≤256^7:=F6 zO hi;have h3:(256:Nat)^7=72057594037927936:=zO;have h4:c*256^i≤255*256^i:=CE _ zD;have e:(c:Int)*2^(8*i)=((c*256^i:Nat):Int):=by
  rw[h1];simp
 rw[e,Jn,Int.emod_eq_of_lt zD zD,bits_or_u64_nat _ _ zD zD];rw[h1] at hX ⊢;rw[Nat.or_comm,←Nat.shiftLeft_eq,←Nat.shiftLeft_add_eq_or_of_lt hX,Nat.add_comm]
theorem OL(w:World){g:Nat}{B:List UInt8}{a:Option Addr}{s:Rs}(h:A6 w g B a s)(hB:B.length≤1000000000)(n:Nat)(hn:n≤8):
  Calls Tryz.prog 191 #[.pointer (some ⟨g,0,none⟩),.int .i64 (n:Int)] w fun r w'=>r=.returned (.int .u64 (EF (s.take B n).2:Nat))∧AG w g B a (s.take B n).1 w':=by
 have HT:=hid (Nb w h (n:Int) zD zD);have hlen:(s.take B n).2.length≤n:=by
  unfold Rs.take;split
  ·simp;omega
  ·simp
 have hlt:=h.blk.lt;generalize s.take B (n:Int)=T at*;obtain⟨s1,L⟩:=T;dsimp only at*;have n0:(0:Int)≤(n:Int):=zD;have n8:(n:Int)≤8:=zD;clear h;go_enter Tryz.func191,Tryz.ntmps191;go_wp2_with fail;refine HT.out.mono ?_;rintro r w1 ⟨v,rfl,hv,hst⟩;obtain⟨a1,c1,hfv,hv2,_⟩:=AN hv;simp only[As,AM] at hfv;subst hfv;have HV:=hid hv2;have HST:=hid hst;clear hv hv2 hst;go_wp2_with fail;go_loopw [5,14] (fun x i wr=>∃j:Nat,j≤L.length∧i=.int .i64 j∧x=.int .u64 ((EF (L.take j):Nat):Int)∧w1=wr) (fun _ i _=>L.length-(intOf i).toNat)
 case atStart=>exact ⟨0,Am _,rfl,rfl,rfl⟩
 case round=>
  obtain⟨j,hj,rfl,rfl,rfl⟩:=hrel;by_cases hlt2:j<L.length
  ·have d1:decide ((j:Int)<(L.length:Int))=true:=Ad zD
   have i1:(j:Int)<(L.length:Int):=zD;obtain⟨b,o,rfl,_,hc⟩:=Cs HV.out hlt2;have hff:=hid (show EF (L.take (j+1))=EF (L.take j)+L[j].toNat*256^j by
    rw[AW hlt2,PU];congr 3
    simp;omega)
   have hX:EF (L.take j)<256^j:=by
    have:=QT (L.take j);rwa [M9,Nat.min_eq_left hj] at this
   have hb:=L[j].toNat_lt;have E:=hid (Aaz (c:=L[j].toNat) hX zD zD);have hXb:EF (L.take j)<18446744073709551616:=Aj hX (A4 (F6 zO (show j≤7 by omega)) zO);generalize L[j].toNat=y at*;generalize EF (L.take j)=X at*;clear hX;have m0:(0:Int)≤8*(j:Int):=zD;have m1:8*(j:Int)≤64:=zD;go_wp2_with fail;go_roundw
   case rel=>exact ⟨j+1,zD,zV,by rw[E.out,hff.out],zCd⟩
   case measure=>(simp[intOf];try omega)
  ·obtain rfl:j=L.length:=by omega
   have d1:decide ((L.length:Int)<(L.length:Int))=false:=Ae zD;rw[DX];go_wp2_with fail;go_ret;exact⟨rfl,HST.out⟩
theorem MO(m:Int)(w:World):Calls Tryz.prog 111 #[.int .i64 m] w fun r w'=>r=.returned (.int .i64 (min m 2097152))∧w=w':=by
 by_cases h:m≤2097152
 ·have e:min m 2097152=m:=by omega
  rw[e];clear e;go_enter Tryz.func111,Tryz.ntmps111;go_wp2_with fail;go_ret;exact⟨rfl,rfl⟩
 ·have e:min m 2097152=2097152:=by omega
  have h':2097152<m:=zD;rw[e];clear e;go_enter Tryz.func111,Tryz.ntmps111;go_wp2_with fail;go_ret;exact⟨rfl,rfl⟩
theorem OY{w:World}{g:Nat}{B:List UInt8}{a:Option Addr}{s:Rs}(h:A6 w g B a s)(D:List UInt8)(ad:Option Addr)(cd:Nat)(hD:Ah.r (·<w.heap.size) w [.slice ad D.length cd] D)(v:Nat)(p:Int):
  Calls Tryz.prog 306 #[.slice ad D.length cd,.int .u64 (v:Int),.func (Fn.func 124) #[.pointer (some ⟨g,0,none⟩)] #[],.int .i64 p] w fun r w'=>r=.returned (.tuple #[])∧AG w g B a (if CQ D=v then s else s.fail 6 p) w':=by
 have HC:=hid (Vz D ad _ cd w hD);have hlt:=IH D;have HH:=hid h;clear h hD;generalize CQ D=q at*;by_cases hq:q=v
 ·rw[Ai hq]
  subst hq;have d1:((q:Int) !=(q:Int))=false:=zN;go_enter Tryz.func306,Tryz.ntmps306;go_wp2_with fail;refine HC.out.mono ?_;rintro r w1 ⟨rfl,hb⟩;have HST:=hid (AG.later HH.out hb);clear hb;go_wp2_with fail;first | go_end0 | refine Al (Ax rfl _ _ _) rfl ?_
  exact⟨rfl,HST.out⟩
 ·rw[Ak hq]
  have d1:((q:Int) !=(v:Int))=true:=zH;clear hq;go_enter Tryz.func306,Tryz.ntmps306;go_wp2_with fail;refine HC.out.mono ?_;rintro r w1 ⟨rfl,hb⟩;have HST:=hid (AG.later HH.out hb);have HF:=hid (BP w1 HST.out.1 6 p zD);clear hb;go_wp2_with fail;refine HF.out.mono ?_;rintro r w2 ⟨rfl,hst⟩;have HS2:=hid (AG.trans HST.out.2 hst);clear hst;go_wp2_with fail;first | go_end0 | refine Al (Ax rfl _ _ _) rfl ?_
  exact⟨rfl,HS2.out⟩
def Rs.frame(B:List UInt8)(s:Rs)(m:Int):Rs × List UInt8:=
 let b:=s.D5 B (min m 2097152)
 let f:=b.1.take B 4
 let r:=if CQ b.2=EF f.2 then f.1 else f.1.fail 6 b.1.p
 (r,if r.k=0 then b.2 else [])
theorem Us(w:World){g:Nat}{B:List UInt8}{a:Option Addr}{s:Rs}(h:A6 w g B a s)(hB:B.length≤1000000000)(m:Int)(hm: -9223372036854775808≤m∧m≤9223372036854775807):
  Calls Tryz.prog 246 #[.pointer (some ⟨g,0,none⟩),.int .i64 m] w fun r w'=>∃v,r=.returned v∧Ah.r (fun q=>w.heap.size≤q∧q<w'.heap.size) w' [v] (s.frame B m).2∧AG w g B a (s.frame B m).1 w':=by
 have hlt:=h.blk.lt;have HBD:=hid (MO m w);have HBL:=hid (Qg w h zD (min m 2097152) zD);unfold Rs.frame;dsimp only;generalize s.D5 B (min m 2097152)=P at*;obtain⟨s1,D⟩:=P;dsimp only at*;have HFX:=hid (fun (W:World) (hW:A6 W g B a s1)=>(by have:=OL W hW hB 4 zD;exact this:Calls Tryz.prog 191 #[.pointer (some ⟨g,0,none⟩),.int .i64 4] W fun r w'=>r=.returned (.int .u64 ((EF (s1.take B 4).2:Nat):Int))∧AG W g B a (s1.take B 4).1 w'));have HAT:=hid (fun (W:World) (hW:A6 W g B a s1)=>Cv W hW);generalize s1.take B 4=T at*;obtain⟨s2,F⟩:=T;dsimp only at*;generalize EF F=v at*;have HCK:=hid (fun (W:World) (hW:A6 W g B a s2) (ad:Option Addr) (cd:Nat) (hD:Ah.r (·<W.heap.size) W [.slice ad D.length cd] D)=>OY hW D ad cd hD v (s1.p:Int));generalize (if CQ D=v then s2 else s2.fail 6 (s1.p:Int))=s3 at*;generalize hRS:(if s3.k=0 then D else [])=RES;have HRS:=hid hRS;generalize min m 2097152=mm at*;clear h hRS;by_cases hk:s3.k=0
 ·have HG:=hid (fun (V:World) (hV:A6 V g B a s3)=>(by have:=AL V hV;rw[Ad hk] at this;exact this:Calls Tryz.prog 112 #[.pointer (some ⟨g,0,none⟩)] V fun r w'=>r=.returned (.bool true)∧Below V.heap.size V w'))
  have HR2:Hid (RES=D):=hid (by rw[←HRS.out];exact Ai hk);clear hk;go_enter Tryz.func246,Tryz.ntmps246;go_wp2_with fail;refine HBD.out.mono ?_;rintro r w0 ⟨rfl,rfl⟩;go_wp2_with fail;refine HBL.out.mono ?_;rintro r w1 ⟨v1,rfl,hv1,hst1⟩;obtain⟨ad,cd,hfv,hv2,_⟩:=AN hv1;simp only[As,AM] at hfv;subst hfv;have HV1:=hid hv2;have HS1:=hid hst1;have hz1:=hst1.2.size;clear hv1 hv2 hst1;go_wp2_with fail;refine (HAT.out w1 HS1.out.1).mono ?_;rintro r w1' ⟨rfl,rfl⟩;go_wp2_with fail;refine (HFX.out w1 HS1.out.1).mono ?_;rintro r w3 ⟨rfl,hst3⟩;have HV3:=hid (Ah.mono (Ah.keep HV1.out (w':=w3) fun q hq=>hst3.2.block q hq.2 zY) (S':=fun q=>w.heap.size≤q∧q<w3.heap.size) fun q hq=>⟨hq.1,Aj hq.2 hst3.2.size⟩);have HS3:=hid (AG.trans HS1.out.2 hst3);clear hst3;go_wp2_with fail;refine (HCK.out w3 HS3.out.1 ad cd (Ah.mono HV3.out fun q hq=>hq.2)).mono ?_;rintro r w4 ⟨rfl,hst4⟩;have HV4:=hid (Ah.mono (Ah.keep HV3.out (w':=w4) fun q hq=>hst4.2.block q hq.2 zY) (S':=fun q=>w.heap.size≤q∧q<w4.heap.size) fun q hq=>⟨hq.1,Aj hq.2 hst4.2.size⟩);have HS4:=hid (AG.trans HS3.out.2 hst4);clear hst4;go_wp2_with fail;refine (HG.out w4 HS4.out.1).mono ?_;rintro r w5 ⟨rfl,hb5⟩;have HSE:=hid (HS4.out.then hb5);have HVF:=hid (show Ah.r (fun q=>w.heap.size≤q∧q<w5.heap.size) w5 [.slice ad D.length cd] D from Ah.mono (Ah.keep HV4.out fun q hq=>hb5.block q hq.2) fun q hq=>⟨hq.1,Aj hq.2 hb5.size⟩);clear hb5;go_wp2_with fail;go_ret;rw[HR2.out];exact⟨_,rfl,HVF.out,HSE.out⟩
 ·have HG:=hid (fun (V:World) (hV:A6 V g B a s3)=>(by have:=AL V hV;rw[Ae hk] at this;exact this:Calls Tryz.prog 112 #[.pointer (some ⟨g,0,none⟩)] V fun r w'=>r=.returned (.bool false)∧Below V.heap.size V w'))
  have HR2:Hid (RES=[]):=hid (by rw[←HRS.out];exact Ak hk);clear hk;go_enter Tryz.func246,Tryz.ntmps246;go_wp2_with fail;refine HBD.out.mono ?_;rintro r w0 ⟨rfl,rfl⟩;go_wp2_with fail;refine HBL.out.mono ?_;rintro r w1 ⟨v1,rfl,hv1,hst1⟩;obtain⟨ad,cd,hfv,hv2,_⟩:=AN hv1;simp only[As,AM] at hfv;subst hfv;have HV1:=hid hv2;have HS1:=hid hst1;have hz1:=hst1.2.size;clear hv1 hv2 hst1;go_wp2_with fail;refine (HAT.out w1 HS1.out.1).mono ?_;rintro r w1' ⟨rfl,rfl⟩;go_wp2_with fail;refine (HFX.out w1 HS1.out.1).mono ?_;rintro r w3 ⟨rfl,hst3⟩;have HV3:=hid (Ah.mono (Ah.keep HV1.out (w':=w3) fun q hq=>hst3.2.block q hq.2 zY) (S':=fun q=>w.heap.size≤q∧q<w3.heap.size) fun q hq=>⟨hq.1,Aj hq.2 hst3.2.size⟩);have HS3:=hid (AG.trans HS1.out.2 hst3);clear hst3;go_wp2_with fail;refine (HCK.out w3 HS3.out.1 ad cd (Ah.mono HV3.out fun q hq=>hq.2)).mono ?_;rintro r w4 ⟨rfl,hst4⟩;have HV4:=hid (Ah.mono (Ah.keep HV3.out (w':=w4) fun q hq=>hst4.2.block q hq.2 zY) (S':=fun q=>w.heap.size≤q∧q<w4.heap.size) fun q hq=>⟨hq.1,Aj hq.2 hst4.2.size⟩);have HS4:=hid (AG.trans HS3.out.2 hst4);clear hst4;go_wp2_with fail;refine (HG.out w4 HS4.out.1).mono ?_;rintro r w5 ⟨rfl,hb5⟩;have HSE:=hid (HS4.out.then hb5);clear hb5;go_wp2_with fail;go_ret;rw[HR2.out];exact⟨_,rfl,Bt (xs:=[]) rfl (An _) (Am _) (.inl rfl),HSE.out⟩
theorem Wy(w:World)(B:List UInt8)(a:Option Addr)(n c:Nat)(hl:Ah.r (·<w.heap.size) w [.slice a n c] B)(hB:B.length≤1000000000)(most:Int)(hm: -9223372036854775808≤most∧most≤9223372036854775807):
  Calls Tryz.prog 176 #[.slice a n c,.int .i64 most] w fun r w'=>∃v,r=.returned (.tuple #[v,.int .i64 ((Lm (((⟨0,0,0⟩:Rs).frame B most))).2.1:Int),.agg #[.int .i64 (Lm (((⟨0,0,0⟩:Rs).frame B most))).2.2.1,.int .i64 (Lm (((⟨0,0,0⟩:Rs).frame B most))).2.2.2]])∧Ah.r (fun q=>w.heap.size≤q∧q<w'.heap.size) w' [v] (Lm (((⟨0,0,0⟩:Rs).frame B most))).1∧Below w.heap.size w w':=by
 obtain⟨rfl,hmx,hcc,hcm⟩:=AT hl;have HN:=hid (NW (w.alloc (.cells #[.int .i64 0,.int .i64 0] 65)) B a _ c (lift hl zA));have hLS:=hid (fun (W:World) (h:A6 W (w.heap.size+1) B a ⟨0,0,0⟩)=>Us W h hB most hm);unfold Lm;generalize ((⟨0,0,0⟩:Rs).frame B most)=L at*;obtain⟨s1,D⟩:=L;dsimp only at*;clear hl;by_cases hk:s1.k=0
 ·rw[Ai hk]
  have d1:decide (s1.k=0)=true:=Ad hk;clear hk;dsimp only;go_enter Tryz.func176,Tryz.ntmps176;go_wp2_with fail;refine HN.out.mono ?_;rintro r w1 ⟨rfl,hrd,hb1⟩;have F1:Blk w1 w.heap.size 65 #[.int .i64 0,.int .i64 0]:=Blk.later zC hb1;have hbw1:Below w.heap.size w w1:=zA;have hgl:=hrd.blk.lt;simp at hrd hgl;have HRD:=hid hrd;have HLS:=hid (hLS.out w1 hrd);clear hrd hb1;go_wp2_with fail;refine HLS.out.mono ?_;rintro r w2 ⟨v,rfl,hr,hst⟩;obtain⟨aD,cD,hv,hr2,_⟩:=AN hr;simp only[As,AM] at hv;subst hv;have HST:=hid hst;have HR:=hid hr2;have hs2:=hst.size;have F2:=F1.tch hst.2 zD;have hbw2:Below w.heap.size w w2:=hbw1.trans (hst.below zD zD);have HFA:=hid (Hk w2 hst.1);clear hr hr2 hst F1;go_wp2_with fail;refine HFA.out.mono ?_;rintro r w3 ⟨rfl,hb3⟩;have F3:=F2.later hb3;have hG:=CX (w3.alloc (.cells #[.int .i64 s1.k,.int .i64 s1.f] 65)) s1.k s1.f;rw[d1] at hG;have HG:=hid hG;have hbw3:=Af hb3 hbw2;clear hG d1;go_wp2_with fail;refine HG.out.mono ?_;rintro r w4 ⟨rfl,hb4⟩;have F4:=(F3.alloc _).later hb4;obtain⟨y0,y1,g0,g1,l1⟩:=B6 F4;have hb24:Below w2.heap.size w2 w4:=zA;have hbw4:=Af hb24 hbw2;have HST4:=hid (HST.out.then hb24);have hs4:=hb24.size;have HAT:=hid (Cv w4 HST4.out.1);have HRK:=hid (Ah.mono (S':=fun q=>w.heap.size+1<q∧q<w4.heap.size) (Ah.keep HR.out fun q hq=>hb24.block q hq.2) fun q hq=>⟨zD,zD⟩);clear F2 F3 F4;go_wp2_with fail;refine HAT.out.mono ?_;rintro r w4' ⟨rfl,rfl⟩;go_wp2;refine Al (v:=.tuple #[.slice aD D.length cD,.int .i64 (s1.p:Int),.agg #[.int .i64 0,.int .i64 0]]) zCm rfl ⟨_,rfl,?_,zA⟩;refine Ah.mono (Ah.keep HRK.out fun q hq=> ?_) fun q hq=>⟨zD,zA1⟩;repeat (rw[AB _ _ _ _ zJ])
 ·rw[Ak hk]
  have d1:decide (s1.k=0)=false:=Ae hk;clear hk;dsimp only;go_enter Tryz.func176,Tryz.ntmps176;go_wp2_with fail;refine HN.out.mono ?_;rintro r w1 ⟨rfl,hrd,hb1⟩;have F1:Blk w1 w.heap.size 65 #[.int .i64 0,.int .i64 0]:=Blk.later zC hb1;have hbw1:Below w.heap.size w w1:=zA;have hgl:=hrd.blk.lt;simp at hrd hgl;have HRD:=hid hrd;have HLS:=hid (hLS.out w1 hrd);clear hrd hb1;go_wp2_with fail;refine HLS.out.mono ?_;rintro r w2 ⟨v,rfl,hr,hst⟩;obtain⟨aD,cD,hv,hr2,_⟩:=AN hr;simp only[As,AM] at hv;subst hv;have HST:=hid hst;have HR:=hid hr2;have hs2:=hst.size;have F2:=F1.tch hst.2 zD;have hbw2:Below w.heap.size w w2:=hbw1.trans (hst.below zD zD);have HFA:=hid (Hk w2 hst.1);clear hr hr2 hst F1;go_wp2_with fail;refine HFA.out.mono ?_;rintro r w3 ⟨rfl,hb3⟩;have F3:=F2.later hb3;have hG:=CX (w3.alloc (.cells #[.int .i64 s1.k,.int .i64 s1.f] 65)) s1.k s1.f;rw[d1] at hG;have HG:=hid hG;have hbw3:=Af hb3 hbw2;clear hG d1;go_wp2_with fail;refine HG.out.mono ?_;rintro r w4 ⟨rfl,hb4⟩;have F4:=(F3.alloc _).later hb4;obtain⟨y0,y1,g0,g1,l1⟩:=B6 F4;have hb24:Below w2.heap.size w2 w4:=zA;have hbw4:=Af hb24 hbw2;have HST4:=hid (HST.out.then hb24);have hs4:=hb24.size;obtain⟨z0,z1,e0,e1,l2⟩:=B6 (Blk.later (Blk.newAt w3 _ _ rfl) hb4);clear F2 F3 F4;go_wp2_with fail;go_region
  all_goals
   go_wp2;refine Al (v:=.tuple #[.slice none 0 0,.int .i64 0,.agg #[.int .i64 s1.k,.int .i64 s1.f]]) zCm rfl ⟨_,rfl,Cj rfl rfl zD,zA⟩
theorem Rs.JG(h:s.ok B.length)(most:Int):(s.loose B most).1.ok B.length:=by
 have hb:=Rs.Iq (B:=B) (Rs.FU h (m:=min most 1048576));unfold Rs.loose;split
 ·split
  ·split
   ·exact Rs.IS hb _
   ·exact Rs.IS hb _
  ·split
   ·split
    ·exact Rs.Xe hb _
    ·exact Rs.Xe hb _
   ·exact Rs.Co hb zD
 ·exact hb
theorem O6(rest:List UInt8):∀(f i x y:Nat),f+i=9→(0<i→0<x)→x*128^i<18446744073709551616→Cp i y (Gc f x++rest)=(y+x*128^i,i+(Gc f x).length,0)
 | 0,i,x,y,h,hp,hx=>by
  obtain rfl:i=9:=zD;have hx2:x<2:=zD;have ht:(UInt8.ofNat x).toNat=x:=zH;have:=hp zD;simp only[Gc,DY,AV,AO,Bp];unfold Cp;rw[ht,Ak zD,Ak zD,Ai zD]
 | f+1,i,x,y,h,hp,hx=>by
  simp only[Gc];by_cases h128:x<128
  ·rw[Ai h128]
   have ht:(UInt8.ofNat x).toNat=x:=zH;simp only[DY,AV,AO,Bp];unfold Cp;rw[ht,Ak zD,Ak zD,Ai zD]
  ·rw[Ak h128]
   have ht:(UInt8.ofNat (128+x%128)).toNat=128+x%128:=zH;simp only[DY,AO];unfold Cp;rw[ht,Ak zD,Ak zD,Ak zD];have hdm:x=128*(x/128)+x%128:=(Nat.div_add_mod x 128).symm;have he:x/128*128^(i+1)+x%128*128^i=x*128^i:=by
    rw[Ff];generalize 128^i=k;conv=>rhs;rw[hdm]
    rw[Nat.add_mul,Jl k 128,←Nat.mul_assoc,Jl 128]
   rw[O6 rest f (i+1) (x/128) _ zD (fun _=>zD) zD];refine Prod.ext ?_ (Prod.ext ?_ rfl)
   ·dsimp only
    rw[show (128+x%128)%128=x%128 by omega];omega
   ·dsimp only;omega
theorem VJ(x:Nat)(rest:List UInt8)(hx:x<18446744073709551616):Cp 0 0 (Az x++rest)=(x,(Az x).length,0):=by
 have:=O6 rest 9 0 x 0 rfl (fun h=>zD) (by simpa using hx);unfold Az;rw[this];simp
theorem Rs.DR{x:Nat}(hx:x<18446744073709551616)(h:B.drop p=Az x++rest):(⟨p,0,0⟩:Rs).num B=(⟨p+(Az x).length,0,0⟩,x):=by
 unfold Rs.num;rw[Ai rfl];dsimp only;rw[h,VJ x rest hx];rfl
theorem Br(h:B.drop p=D++rest):B.drop (p+D.length)=rest:=by
 rw[←LA,h];simp
theorem Bl(h:B.drop p=D++rest)(hp:p≤B.length):p+D.length+rest.length=B.length:=by
 have:=GL List.length h;simp at this;omega
theorem Rs.KW(h:B.drop p=D++rest)(hp:p≤B.length):(⟨p,0,0⟩:Rs).take B (D.length:Int)=(⟨p+D.length,0,0⟩,D):=by
 have hr:=Bl h hp;unfold Rs.take Rs.skip;rw[Ai rfl,Ak zD,Ak zJ];simp[h]
theorem Rs.Ls{x:UInt8}(h:B.drop p=x::rest)(hp:p≤B.length):(⟨p,0,0⟩:Rs).byte B=(⟨p+1,0,0⟩,x):=by
 have hr:=Bl (D:=[x]) h hp;simp at hr;have hx:B.getD p 0=x:=by
  have:(B.drop p)[0]? =some x:=by rw[h];rfl
  simp at this;simp[List.getD,this]
 unfold Rs.byte Rs.skip;rw[Ai rfl,Ak zD,Ak zJ];dsimp only;rw[Ai rfl,hx];rfl
theorem Rs.FT{x:Nat}{m:Int}(hx:x<18446744073709551616)(h:B.drop p=Az x++rest)(hm:(x:Int)≤m):(⟨p,0,0⟩:Rs).int B m=(⟨p+(Az x).length,0,0⟩,x):=by
 unfold Rs.int Rs.most;rw[Ai zD,Rs.DR hx h,Ak zJ]
theorem Rs.SP{D:List UInt8}{m:Int}(hx:D.length<18446744073709551616)(h:B.drop p=C3 D++rest)(hp:p≤B.length)(hm:(D.length:Int)≤m):(⟨p,0,0⟩:Rs).D5 B m=(⟨p+(C3 D).length,0,0⟩,D):=by
 unfold C3 at h;rw[Ao] at h;have h2:=Br h;have hr:=Bl h hp;unfold Rs.D5;rw[Rs.FT hx h hm];dsimp only;rw[Rs.KW h2 zD];simp[C3,Bu]
theorem MX:∀(m p:Nat),p+m≤b.length→1≤o→o≤p→(∀k,k<m→b[p+k]? =b[p+k-o]?)→GX o m (b.take p)=b.take (p+m)
 | 0,p,_,_,_,_=>rfl
 | m+1,p,h,h1,h2,hs=>by
  have h0:=hs 0 zD;have hb:b[p]? =some b[p]:=zN;simp only[Cu] at h0;have e:b.take p++[(b.take p).getD ((b.take p).length-o) 0]=b.take (p+1):=by
   rw[M9,Nat.min_eq_left zD];have:(b.take p).getD (p-o) 0=b[p]:=by
    have:(b.take p)[p-o]? =some b[p]:=by rw[List.getElem?_take_of_lt zD,←h0,hb]
    simp[List.getD,this]
   rw[this];rw[List.take_add_one,hb];rfl
  simp only[GX];rw[e,MX m (p+1) zD h1 zD (fun k hk=>by
   have:=hs (k+1) zD;rw[show p+1+k=p+(k+1) by omega];exact this)]
  rw[show p+1+m=p+(m+1) by omega]
theorem YE{b:List UInt8}(hb:b.length≤1048576)(hbd:(b.length:Int)≤bound){f:Bool}{ts:List Tok}(hg:Good b f p ts):p≤b.length→∀q,q≤B.length→B.drop q=Cn ts→exR B bound ⟨q,0,0⟩ (b.take p)=(⟨B.length,0,0⟩,b):=by
 induction hg with
 | nil=>
  intro _ q hq h;have:B.length≤q:=by simpa [Cn] using h
  obtain rfl:q=B.length:=zD;rw[Lq zN];simp
 | @copy f p o m rest hp hbe hm hg ih=>
  intro _ q hq h;rcases FM b p with h0 | ⟨o',m',he,h1,h2,h4,hml,_,_⟩
  ·rw[hbe] at h0;simp at h0;omega
  ·rw[hbe] at he
   simp only[CR] at he;obtain⟨rfl,rfl⟩:=he;have hmb:=JT b p o;have hre:reach p≤p∧reach p≤65536:=zAw;have ht:Cn (⟨[],(o:Int),(m:Int)⟩::rest)=Az (2*m-7)++(Az (o-1)++Cn rest):=by
    simp only[Cn,Dg,Du];rw[LG o m h1,Ao]
   rw[ht] at h;have hd1:=Br h;have hr1:=Bl h hq;have hd2:=Br hd1;have hr2:=Bl hd1 zD;have hl1:=(AZ (2*m-7)).2;have hN:=Rs.DR zD h;have hN2:=Rs.DR (p:=q+(Az (2*m-7)).length) zD hd1;have hH:(⟨q,0,0⟩:Rs).head B=(⟨q+(Az (2*m-7)).length,0,0⟩,true,m):=by
    unfold Rs.head;rw[hN];dsimp only;rw[Ai rfl,Ai zD,Ak zD,show (2*m-7)/2+4=m by omega]
   have hO:(⟨q+(Az (2*m-7)).length,0,0⟩:Rs).offset B=(⟨q+(Az (2*m-7)).length+(Az (o-1)).length,0,0⟩,o):=by
    unfold Rs.offset;rw[hN2];dsimp only;rw[Ak zD,Ai rfl,show o-1+1=o by omega]
   have hlen:(b.take p).length=p:=zH;have hS:C6 B bound ⟨q,0,0⟩ (b.take p)=(⟨q+(Az (2*m-7)).length+(Az (o-1)).length,0,0⟩,b.take (p+m)):=by
    unfold C6;rw[hH];dsimp only;rw[hlen,Ak zD,Ak zN,hO];dsimp only;rw[Ak zD,Ai rfl,MX m p zD h1 zD (fun k hk=>(LV zD).2.2.2)]
   rw[Uu ⟨hq,fun _=>rfl⟩ zJ rfl,hS];exact ih zD _ zD hd2
 | @run p q' rest hlt hle hno hg ih=>
  intro _ q hq h;have hD:((b.drop p).take (q'-p)).length=q'-p:=zH;generalize hDe:(b.drop p).take (q'-p)=D at*;have ht:Cn (⟨D,0,0⟩::rest)=Az (2*D.length-2)++(D++Cn rest):=by
   simp only[Cn,Dg,Du];rw[Nu D zD zD,Ao]
  rw[ht] at h;have hd1:=Br h;have hr1:=Bl h hq;have hd2:=Br hd1;have hr2:=Bl hd1 zD;have hl1:=(AZ (2*D.length-2)).2;have hN:=Rs.DR zD h;have hH:(⟨q,0,0⟩:Rs).head B=(⟨q+(Az (2*D.length-2)).length,0,0⟩,false,D.length):=by
   unfold Rs.head;rw[hN];dsimp only;rw[Ai rfl,Ak zD,Ak zD,show (2*D.length-2)/2+1=D.length by omega]
  have hlen:(b.take p).length=p:=zH;have hS:C6 B bound ⟨q,0,0⟩ (b.take p)=(⟨q+(Az (2*D.length-2)).length+D.length,0,0⟩,b.take q'):=by
   unfold C6;rw[hH];dsimp only;rw[hlen,Ak zD,Ai rfl,Rs.KW hd1 zD];rw[←hDe];refine Prod.ext rfl ?_;dsimp only;have:b.take q'=b.take p++(b.drop p).take (q'-p):=by
    rw[←Ce p (b.take q'),List.take_take,Nat.min_eq_left zD,List.drop_take]
   exact this.symm
  rw[Uu ⟨hq,fun _=>rfl⟩ zJ rfl,hS];exact ih zD _ zD hd2
theorem WA{b:List UInt8}(hb:b.length≤1048576)(hbd:(b.length:Int)≤bound):exB (Dm b) bound=(b,0,0):=by
 have:=YE (B:=Dm b) hb hbd (Ol b) zD 0 zD rfl;rw[YJ];simp only[Ly] at this;rw[this,Ai rfl]
theorem Rs.Sc{D:List UInt8}{most:Int}(h:B.drop p=Bk D++rest)(hp:p≤B.length)(hD:D.length≤1048576)(hm:(D.length:Int)≤most):
  (⟨p,0,0⟩:Rs).loose B most=(⟨p+(Bk D).length,0,0⟩,D,true):=by
 have htk:(B.drop p).take (Bk D).length=Bk D:=by rw[h];simp
 have h':=h;unfold Bk at h;rw[Ao] at h;have hd1:=Br h;have hr1:=Bl h hp;have hI:=Rs.FT (m:=min most 1048576) zD h zD;unfold Rs.loose;rw[hI];dsimp only;cases hpk:GC D
 ·rw[hpk] at hd1
  rw[Ak zN] at hd1;have hd2:=Br (D:=[0]) hd1;have hr2:=Bl (D:=[0]) hd1 zD;simp only[AO,Bp,A1] at hd2 hr2;rw[Rs.Ls hd1 zD];dsimp only;rw[Ai rfl,Ai zS,Rs.KW hd2 zD];dsimp only;rw[Ai rfl];have hl:(Bk D).length=(Az D.length).length+(1+D.length):=by simp[Bk,hpk];omega
  rw[show p+(Az D.length).length+1+D.length=p+(Bk D).length by omega,show p+(Bk D).length-p=(Bk D).length by omega,htk];simp
 ·have hpl:(C3 (Dm D)).length<D.length:=Bc hpk
  have hpl2:=D8 (Dm D);rw[hpk] at hd1;rw[Ai rfl] at hd1;have hd2:=Br (D:=[1]) hd1;have hr2:=Bl (D:=[1]) hd1 zD;simp only[AO,Bp,A1] at hd2 hr2;rw[Rs.Ls hd1 zD];dsimp only;rw[Ai rfl,Ak zO,Ai zS];have hB:=Rs.SP (m:=1048576) zD hd2 zD zD;have hU:(⟨p+(Az D.length).length+1,0,0⟩:Rs).unp B D.length=(⟨p+(Az D.length).length+1+(C3 (Dm D)).length,0,0⟩,D):=by
   unfold Rs.unp;rw[hB];dsimp only;rw[WA hD (Int.le_refl _)];dsimp only;rw[Ai rfl,Ai rfl,Ak zD]
  rw[hU];dsimp only;rw[Ai rfl];have hl:(Bk D).length=(Az D.length).length+(1+(C3 (Dm D)).length):=by simp[Bk,hpk];omega
  rw[show p+(Az D.length).length+1+(C3 (Dm D)).length=p+(Bk D).length by omega,show p+(Bk D).length-p=(Bk D).length by omega,htk];simp
def Rs.Fg(B:List UInt8):Nat→Rs→Int→List Int→Rs × List Int
 | 0,s,_,out=>(s,out)
 | n+1,s,below,out=>
  if (s.num B).1.k=0 then
   (if below≤((s.num B).2:Int) then ((s.num B).1.fail 13 s.p,[]) else Rs.Fg B n (s.num B).1 (below-(s.num B).2-1) (out++[below-(s.num B).2-1]))
  else ((s.num B).1,[])
def Rs.delta(B:List UInt8)(s:Rs)(below:Int)(most:Int):Rs × List Int:=Rs.Fg B (s.int B most).2 (s.int B most).1 below []
def Rs.stream(B:List UInt8)(s:Rs)(prev:Option Int):Rs × Int:=
 match prev with
 | none=>((s.num B).1,((s.num B).2:Int))
 | some q=>(if 18446744073709551615-q≤((s.num B).2:Int) then (s.num B).1.fail 13 s.p else (s.num B).1,((s.num B).2:Int)+q+1)
def Rs.DS(B:List UInt8)(pos:Int):Nat→Rs→Option Int→List BH→Rs × List BH
 | 0,s,_,out=>(s,out)
 | n+1,s,prev,out=>
  if ((s.stream B prev).1.delta B pos 4).1.k=0 then Rs.DS B pos n ((s.stream B prev).1.delta B pos 4).1 (some (s.stream B prev).2) (out++[⟨(s.stream B prev).2,((s.stream B prev).1.delta B pos 4).2⟩])
  else (((s.stream B prev).1.delta B pos 4).1,[])
def Rs.links(B:List UInt8)(s:Rs)(pos:Int):Rs × List BH:=Rs.DS B pos (s.int B 16).2 (s.int B 16).1 none []
def Rs.Sz(B:List UInt8)(s:Rs)(pos most:Int):Rs × List BH × Nat:=
 if ((s.links B pos).1.int B most).1.k=0 then (((s.links B pos).1.int B most).1,(s.links B pos).2,((s.links B pos).1.int B most).2) else (((s.links B pos).1.int B most).1,[],0)
def Rs.Aa8(B:List UInt8):Nat→Rs→Int→Int→List (List BH × Nat)→Rs × List (List BH × Nat)
 | 0,s,_,_,out=>(s,out)
 | n+1,s,pos,left,out=>
  if (s.Sz B pos left).1.k=0 then Rs.Aa8 B n (s.Sz B pos left).1 (pos+1) (left-(s.Sz B pos left).2.2) (out++[(s.Sz B pos left).2]) else ((s.Sz B pos left).1,[])
def Abk(l:List (List BH × Nat)):Nat:=(l.map Prod.snd).sum
def Aa9:List (List BH × Nat)→List UInt8→List Entry
 | [],_=>[]
 | (l,n)::r,D=>⟨l,D.take n⟩::Aa9 r (D.drop n)
def Rs.ep(B:List UInt8)(s:Rs):Rs × Nat:=if (s.num B).1.k=0 then (if epR ((s.num B).2:Int)=true then s.num B else ((s.num B).1.fail 3 s.p,0)) else ((s.num B).1,0)
def Rs.po(B:List UInt8)(s:Rs):Rs × Nat:=if (s.num B).1.k=0 then (if poR ((s.num B).2:Int)=true then s.num B else ((s.num B).1.fail 3 s.p,0)) else ((s.num B).1,0)
def Rs.AbP(B:List UInt8)(s:Rs):Rs × Nat × Nat × Nat:=
 ((if Acb (((s.ep B).1.po B).2:Int) (((s.ep B).1.po B).1.int B 16).2=true then (((s.ep B).1.po B).1.int B 16).1 else (((s.ep B).1.po B).1.int B 16).1.fail 3 ((s.ep B).1.po B).1.p),(s.ep B).2,((s.ep B).1.po B).2,(((s.ep B).1.po B).1.int B 16).2)
def Rs.AbQ(blk:Rs→Rs × List UInt8 × Bool)(h:Rs × List (List BH × Nat)):Rs × List Entry × Bool:=
 let p:=blk h.1
 let u:Rs:=if Abk h.2=p.2.1.length then p.1 else p.1.fail 3 h.1.p
 (u,Aa9 h.2 p.2.1,p.2.2)
def QO:Batch:=⟨0,0,[]⟩
def Rs.batch(B:List UInt8)(blk:Rs→Rs × List UInt8 × Bool)(s:Rs):Rs × Batch × Bool:=
 let f:=s.AbP B
 if f.1.k=0 then
  let u:=Rs.AbQ blk (Rs.Aa8 B f.2.2.2 f.1 (f.2.2.1:Int) 1048576 [])
  if u.1.k=0 then (u.1,⟨(f.2.1:Int),(f.2.2.1:Int),u.2.1⟩,u.2.2) else (u.1,QO,false)
 else (f.1,QO,false)
def Db(B:List UInt8)(s:Rs):Rs × List UInt8 × Bool:=((Rs.strict (s.loose B 1048576)).1,(Rs.strict (s.loose B 1048576)).2,true)
def F8(B:List UInt8)(s:Rs):Rs × List UInt8 × Bool:=s.loose B 1048576
theorem Rs.PY:∀(l:List Int) (below:Int) (p:Nat) (out:List Int),CI below l=true→(∀x∈l,0≤x)→below≤18446744073709551615→B.drop p=CG (BU below l)++rest→p≤B.length→
  Rs.Fg B l.length ⟨p,0,0⟩ below out=(⟨p+(CG (BU below l)).length,0,0⟩,out++l)
 | [],below,p,out,_,_,_,_,_=>by simp[Rs.Fg,BU,CG]
 | x::l,below,p,out,hf,hx,hb,h,hp=>by
  simp only[CI,Aq,Av] at hf;have h0:=hx x zN;simp only[BU] at h ⊢;rw[Eh,Ao] at h;have hn:(below-x-1).toNat<18446744073709551616:=zD;have hN:=Rs.DR hn h;have hd:=Br h;have hr:=Bl h hp;simp only[AO,Rs.Fg];rw[hN];dsimp only;rw[Ai rfl,toNat_cast zD,Ak zD,show below-(below-x-1)-1=x by omega,Rs.PY l x _ _ hf.2 (fun y hy=>hx y (by simp[hy])) zD hd zD,Eh,Ag];simp[Bu]
theorem Rs.Mh{l:List Int}{most:Int}(hf:CI pos l=true)(hx:∀x∈l,0≤x)(hb:pos≤18446744073709551615)(h:B.drop p=Dp pos l++rest)(hp:p≤B.length)(hm:(l.length:Int)≤most)(hl:l.length<18446744073709551616):
  (⟨p,0,0⟩:Rs).delta B pos most=(⟨p+(Dp pos l).length,0,0⟩,l):=by
 unfold Dp at h ⊢;rw[Ao] at h;have hd:=Br h;have hr:=Bl h hp;unfold Rs.delta;rw[Rs.FT hl h hm];dsimp only;rw[Rs.PY l pos _ _ hf hx hb hd zD];simp[Bu]
theorem Rs.Od(hpos:pos≤18446744073709551615):∀(l:List BH) (prev:Option Int) (p:Nat) (out:List BH),(∀x∈l,Ec pos x=true∧(0≤x.stream∧x.stream≤18446744073709551615)∧∀y∈x.backs,0≤y)→(∀q,prev=some q→0≤q∧Bj (q::l.map BH.stream)=true)→Bj (l.map BH.stream)=true→B.drop p=Ix pos prev l++rest→p≤B.length→
  Rs.DS B pos l.length ⟨p,0,0⟩ prev out=(⟨p+(Ix pos prev l).length,0,0⟩,out++l)
 | [],prev,p,out,_,_,_,_,_=>by simp[Rs.DS,Ix]
 | x::l,prev,p,out,hx,hq,hri,h,hp=>by
  obtain⟨hr1,hs,hbk⟩:=hx x zN;simp only[Ec,Aq,Av] at hr1;have hnext:∀q,some x.stream=some q→0≤q∧Bj (q::l.map BH.stream)=true:=fun q e=>by
   simp only[Bd] at e;subst e;exact⟨hs.1,hri⟩
  have hri2:Bj (l.map BH.stream)=true:=by
   simp only[Dg] at hri;cases hl:l.map BH.stream with
   | nil=>rfl
   | cons y r=>rw [hl] at hri;simp only[Bj,Aq] at hri;exact hri.2
  have key:∃y:Int,0≤y∧y≤18446744073709551615∧Ix pos prev (x::l)=Az y.toNat++(Dp pos x.backs++Ix pos (some x.stream) l)∧(B.drop p=Az y.toNat++((Dp pos x.backs++Ix pos (some x.stream) l)++rest)→(⟨p,0,0⟩:Rs).stream B prev=(⟨p+(Az y.toNat).length,0,0⟩,x.stream)):=by
   cases prev with
   | none=>
    refine⟨x.stream,hs.1,hs.2,by simp[Ix],fun h=> ?_⟩;unfold Rs.stream;dsimp only;rw[Rs.DR zD h];dsimp only;rw[toNat_cast hs.1]
   | some q=>
    obtain⟨h0,hq1⟩:=hq q rfl;simp only[Dg,Bj,Aq,Av] at hq1;refine⟨x.stream-q-1,zD,zD,by simp[Ix],fun h=> ?_⟩;unfold Rs.stream;dsimp only;rw[Rs.DR zD h];dsimp only;rw[toNat_cast zD,Ak zD];refine Prod.ext rfl ?_;dsimp only;omega
  obtain⟨y,hy0,hy1,he,hst⟩:=key;rw[he] at h ⊢;rw[Ao] at h;have hS:=hst h;have hd:=Br h;have hr:=Bl h hp;rw[Ao] at hd;have hD:=Rs.Mh (most:=4) hr1.2 hbk hpos hd zD zD zD;have hd2:=Br hd;have hr2:=Bl hd zD;simp only[AO,Rs.DS];rw[hS];dsimp only;rw[hD];dsimp only;rw[Ai rfl,Rs.Od hpos l (some x.stream) _ _ (fun z hz=>hx z (by simp[hz])) hnext hri2 hd2 zD];simp[Bu]
theorem Rs.Wm{l:List BH}(hpos:pos≤18446744073709551615)(hR:CH pos l=true)(hx:∀x∈l,(0≤x.stream∧x.stream≤18446744073709551615)∧∀y∈x.backs,0≤y)(h:B.drop p=Ci pos l++rest)(hp:p≤B.length):
  (⟨p,0,0⟩:Rs).links B pos=(⟨p+(Ci pos l).length,0,0⟩,l):=by
 simp only[CH,Aq,Av,Na] at hR;unfold Ci at h ⊢;rw[Ao] at h;have hd:=Br h;have hr:=Bl h hp;unfold Rs.links;rw[Rs.FT zD h zD];dsimp only;rw[Rs.Od hpos l none _ _ (fun x h=>⟨hR.2.2 x h,hx x h⟩) (fun q e=>zAd) hR.2.1 hd zD];simp[Bu]
theorem KC{c:UInt8}(h:n=c.toNat):UInt8.ofNat n=c:=by
 subst h;exact UInt8.ofNat_toNat
theorem Nr:∀(l:List UInt8) (i x v u:Nat),i≤9→Cp i x l=(v,u,0)→∃y,v=x+y*128^i∧(0<i→0<y)∧l.take (u-i)=Gc (9-i) y∧i<u∧u-i≤l.length
 | [],i,x,v,u,_,h=>by simp[Cp] at h
 | c::l,i,x,v,u,hi,h=>by
  have hc:=c.toNat_lt;unfold Cp at h;by_cases h1:i=9∧1<c.toNat
  ·rw[Ai h1] at h;simp at h
  ·rw[Ak h1] at h
   by_cases h2:0<i∧c.toNat=0
   ·rw[Ai h2] at h;simp at h
   ·rw[Ak h2] at h
    by_cases h3:c.toNat<128
    ·rw[Ai h3] at h
     simp only[CR,AM] at h;obtain⟨rfl,rfl⟩:=h;refine⟨c.toNat,rfl,fun h=>zD,?_,zD,by rw[AO];omega⟩;rw[show i+1-i=1 by omega,Gr,Ly];obtain⟨f,hf⟩:∃f,f=9-i:=⟨_,rfl⟩;rw[←hf];cases f with
     | zero=>simp only[Gc];rw[KC rfl]
     | succ f=>simp only[Gc];rw[Ai h3,KC rfl]
    ·rw[Ak h3] at h
     have hi9:i<9:=by
      rcases Bh i 9 with h | h
      ·exact h
      ·exact absurd ⟨zD,zD⟩ h1
     obtain⟨y,hv,hy,ht,hu,hlu⟩:=Nr l (i+1) _ v u zD h;have hy0:=hy zD;refine⟨c.toNat%128+128*y,?_,fun _=>zD,?_,zD,by rw[AO];omega⟩
     ·rw[hv,Ff,Nat.add_mul]
      generalize 128^i=k;rw[Jl k 128,←Nat.mul_assoc y 128 k,Jl y 128];omega
     ·rw[show u-i=(u-(i+1))+1 by omega,Gr,ht,show 9-i=(9-(i+1))+1 by omega]
      simp only[Gc];rw[Ak zD,KC (c:=c) zD,show (c.toNat%128+128*y)/128=y by omega]
theorem Rs.Eo(hs:s.ok B.length)(h:(s.num B).1.k=0):B.drop s.p=Az (s.num B).2++B.drop (s.num B).1.p∧(s.num B).1.f=0:=by
 have hm:=Rs.Fp h;have hle:=hs.le;unfold Rs.num at*;rw[Ai hm.2] at*;dsimp only at h ⊢;obtain⟨y,hv,_,ht,hu,hlu⟩:=Nr (B.drop s.p) 0 0 _ _ zD (show Cp 0 0 (B.drop s.p)=((Cp 0 0 (B.drop s.p)).1,(Cp 0 0 (B.drop s.p)).2.1,0) from by rw[←h]);simp only[Nat.pow_zero,Fi,A1,Nat.sub_zero] at hv ht;refine⟨?_,by rw[Ai h]⟩;have:Az (Cp 0 0 (B.drop s.p)).1=(B.drop s.p).take (Cp 0 0 (B.drop s.p)).2.1:=by rw[ht,hv];rfl
 rw[this,←LA,Ce]
theorem Rs.Hf{m:Int}(hs:s.ok B.length)(h:(s.int B m).1.k=0):B.drop s.p=Az (s.int B m).2++B.drop (s.int B m).1.p∧((s.int B m).2:Int)≤m∧s.k=0:=by
 unfold Rs.int Rs.most at*;by_cases h0:0≤m
 ·rw[Ai h0] at h ⊢
  by_cases h1:m.toNat<(s.num B).2
  ·rw[Ai h1] at h;exact absurd h (Rs.BE zD)
  ·rw[Ak h1] at h ⊢
   exact⟨(Rs.Eo hs h).1,zD,(Rs.Fp h).2⟩
 ·rw[Ak h0] at h;exact absurd h (Rs.BE zD)
theorem Rs.Su:∀(n:Nat) (s:Rs) (below:Int) (out:List Int),s.ok B.length→(Rs.Fg B n s below out).1.ok B.length
 | 0,s,below,out,h=>h
 | n+1,s,below,out,h=>by
  simp only[Rs.Fg];split
  ·split
   ·exact Rs.Co (Rs.Dn h) zD
   ·exact Rs.Su n _ _ _ (Rs.Dn h)
  ·exact Rs.Dn h
theorem Rs.OB{below most:Int}(h:s.ok B.length):(s.delta B below most).1.ok B.length:=Rs.Su _ _ _ _ (Rs.FU h)
theorem Rs.IA{prev:Option Int}(h:s.ok B.length):(s.stream B prev).1.ok B.length:=by
 unfold Rs.stream;cases prev with
 | none=>exact Rs.Dn h
 | some q=>
  dsimp only;split
  ·exact Rs.Co (Rs.Dn h) zD
  ·exact Rs.Dn h
theorem Rs.PI:∀(n:Nat) (s:Rs) (prev:Option Int) (out:List BH),s.ok B.length→(Rs.DS B pos n s prev out).1.ok B.length
 | 0,s,prev,out,h=>h
 | n+1,s,prev,out,h=>by
  simp only[Rs.DS];split
  ·exact Rs.PI n _ _ _ (Rs.OB (Rs.IA h))
  ·exact Rs.OB (Rs.IA h)
theorem Rs.Yr(h:s.ok B.length):(s.links B pos).1.ok B.length:=Rs.PI _ _ _ _ (Rs.FU h)
theorem Rs.MR:∀(n:Nat) (s:Rs) (below:Int) (out:List Int),s.ok B.length→below≤18446744073709551615→(Rs.Fg B n s below out).1.k=0→
  ∃l:List Int,(Rs.Fg B n s below out).2=out++l∧l.length=n∧CI below l=true∧(∀x∈l,0≤x)∧B.drop s.p=CG (BU below l)++B.drop (Rs.Fg B n s below out).1.p∧s.k=0
 | 0,s,below,out,hs,_,h=>⟨[],by simp[Rs.Fg],rfl,rfl,zN,by simp[Rs.Fg,BU,CG],h⟩
 | n+1,s,below,out,hs,hb,h=>by
  simp only[Rs.Fg] at h ⊢;by_cases h1:(s.num B).1.k=0
  ·rw[Ai h1] at h ⊢
   by_cases h2:below≤((s.num B).2:Int)
   ·rw[Ai h2] at h;exact absurd h (Rs.BE zD)
   ·rw[Ak h2] at h ⊢
    obtain⟨l,e1,e2,e3,e4,e5,_⟩:=Rs.MR n _ _ _ (Rs.Dn hs) zD h;have hc:=(Rs.Eo hs h1).1;refine⟨(below-(s.num B).2-1)::l,?_,by simp[e2],?_,?_,?_,(Rs.Fp h1).2⟩
    ·rw[e1];simp
    ·simp only[CI];rw[e3,Bool.and_true];exact Ad zD
    ·intro x hx
     rcases List.mem_cons.1 hx with rfl | hx
     ·omega
     ·exact e4 x hx
    ·simp only[BU]
     rw[Eh,Ao,←e5,show (below-(below-((s.num B).2:Int)-1)-1).toNat=(s.num B).2 by omega];exact hc
  ·rw[Ak h1] at h;exact absurd h h1
theorem Rs.MS{B:List UInt8}{s:Rs}{below most:Int}(hs:s.ok B.length)(hb:below≤18446744073709551615)(h:(s.delta B below most).1.k=0):
  CI below (s.delta B below most).2=true∧((s.delta B below most).2.length:Int)≤most∧(∀x∈(s.delta B below most).2,0≤x)∧B.drop s.p=Dp below (s.delta B below most).2++B.drop (s.delta B below most).1.p∧s.k=0:=by
 unfold Rs.delta at*;obtain⟨l,e1,e2,e3,e4,e5,e6⟩:=Rs.MR _ _ _ _ (Rs.FU hs) hb h;have hi:=Rs.Hf hs e6;rw[AV] at e1;rw[e1];refine⟨e3,by rw[e2];exact hi.2.1,e4,?_,hi.2.2⟩;unfold Dp;rw[Ao,←e5,e2];exact hi.1
theorem Rs.Qu{prev:Option Int}(hs:s.ok B.length)(hp:∀q,prev=some q→0≤q∧q≤18446744073709551615)(h:(s.stream B prev).1.k=0):
  (0≤(s.stream B prev).2∧(s.stream B prev).2≤18446744073709551615)∧(∀q,prev=some q→q<(s.stream B prev).2)∧B.drop s.p=Az (match prev with | none=>(s.stream B prev).2 | some q=>(s.stream B prev).2-q-1).toNat++B.drop (s.stream B prev).1.p∧s.k=0:=by
 have hsm:=Rs.DL (B:=B) (s:=s);unfold Rs.stream at*;cases prev with
 | none=>
  dsimp only at h ⊢;have hc:=(Rs.Eo hs h).1;exact⟨⟨zD,zD⟩,fun q e=>zAd,by rw[Cc];exact hc,(Rs.Fp h).2⟩
 | some q=>
  have hq:=hp q rfl;dsimp only at h ⊢;by_cases h1:18446744073709551615-q≤((s.num B).2:Int)
  ·rw[Ai h1] at h;exact absurd h (Rs.BE zD)
  ·rw[Ak h1] at h ⊢
   have hc:=(Rs.Eo hs h).1;refine⟨⟨zD,zD⟩,fun q' e=> ?_,?_,(Rs.Fp h).2⟩
   ·simp only[Bd] at e;omega
   ·rw[show (((s.num B).2:Int)+q+1-q-1).toNat=(s.num B).2 by omega]
    exact hc
theorem Rs.Li(hpos:pos≤18446744073709551615):∀(n:Nat) (s:Rs) (prev:Option Int) (out:List BH),s.ok B.length→(∀q,prev=some q→0≤q∧q≤18446744073709551615)→(Rs.DS B pos n s prev out).1.k=0→
  ∃l:List BH,(Rs.DS B pos n s prev out).2=out++l∧l.length=n∧Bj (l.map BH.stream)=true∧(∀q,prev=some q→Bj (q::l.map BH.stream)=true)∧(∀x∈l,Ec pos x=true∧PK x)∧B.drop s.p=Ix pos prev l++B.drop (Rs.DS B pos n s prev out).1.p∧s.k=0
 | 0,s,prev,out,hs,_,h=>⟨[],by simp[Rs.DS],rfl,rfl,fun q _=>rfl,zN,by simp[Rs.DS,Ix],h⟩
 | n+1,s,prev,out,hs,hp,h=>by
  simp only[Rs.DS] at h ⊢;by_cases h1:((s.stream B prev).1.delta B pos 4).1.k=0
  ·rw[Ai h1] at h ⊢
   obtain⟨d1,d2,d3,d4,d5⟩:=Rs.MS (Rs.IA hs) hpos h1;obtain⟨s1,s2,s3,s4⟩:=Rs.Qu hs hp d5;obtain⟨l,e1,e2,e3,e4,e5,e6,_⟩:=Rs.Li hpos n _ _ _ (Rs.OB (Rs.IA hs)) (fun q e=>by simp only[Bd] at e;subst e;exact s1) h;refine⟨⟨(s.stream B prev).2,((s.stream B prev).1.delta B pos 4).2⟩::l,?_,by simp[e2],?_,?_,?_,?_,s4⟩
   ·rw[e1];simp
   ·exact e4 _ rfl
   ·intro q hq
    have:=e4 _ rfl;simp only[Dg,Bj];rw[Aq];exact⟨Ad (s2 q hq),this⟩
   ·intro x hx
    rcases List.mem_cons.1 hx with rfl | hx
    ·refine⟨?_,s1,d3⟩
     simp only[Ec,Aq,Av];exact⟨zD,d1⟩
    ·exact e5 x hx
   ·rw[s3,d4,e6]
    cases prev<;>simp only[Ix,Ao]
  ·rw[Ak h1] at h;exact absurd h h1
theorem Rs.Ih{B:List UInt8}{s:Rs}{pos:Int}(hs:s.ok B.length)(hpos:pos≤18446744073709551615)(h:(s.links B pos).1.k=0):
  CH pos (s.links B pos).2=true∧(∀x∈(s.links B pos).2,PK x)∧B.drop s.p=Ci pos (s.links B pos).2++B.drop (s.links B pos).1.p∧s.k=0:=by
 unfold Rs.links at*;obtain⟨l,e1,e2,e3,_,e5,e6,e7⟩:=Rs.Li hpos _ _ _ _ (Rs.FU hs) (fun q e=>zAd) h;have hi:=Rs.Hf hs e7;rw[AV] at e1;rw[e1];refine⟨?_,fun x hx=>(e5 x hx).2,?_,hi.2.2⟩
 ·simp only[CH,Aq,Av,Na]
  exact⟨zD,e3,fun x hx=>(e5 x hx).1⟩
 ·unfold Ci
  rw[Ao,←e6,e2];exact hi.1
theorem Rs.Oz(hs:s.ok B.length)(h:(s.ep B).1.k=0):epR ((s.ep B).2:Int)=true∧B.drop s.p=Az (s.ep B).2++B.drop (s.ep B).1.p∧s.k=0:=by
 unfold Rs.ep at*;by_cases h1:(s.num B).1.k=0
 ·rw[Ai h1] at h ⊢
  by_cases h2:epR ((s.num B).2:Int)=true
  ·rw[Ai h2];exact⟨h2,(Rs.Eo hs h1).1,(Rs.Fp h1).2⟩
  ·rw[Ak h2] at h;exact absurd h (Rs.BE zD)
 ·rw[Ak h1] at h;exact absurd h h1
theorem Rs.XR(hs:s.ok B.length)(h:(s.po B).1.k=0):poR ((s.po B).2:Int)=true∧B.drop s.p=Az (s.po B).2++B.drop (s.po B).1.p∧s.k=0:=by
 unfold Rs.po at*;by_cases h1:(s.num B).1.k=0
 ·rw[Ai h1] at h ⊢
  by_cases h2:poR ((s.num B).2:Int)=true
  ·rw[Ai h2];exact⟨h2,(Rs.Eo hs h1).1,(Rs.Fp h1).2⟩
  ·rw[Ak h2] at h;exact absurd h (Rs.BE zD)
 ·rw[Ak h1] at h;exact absurd h h1
structure DC(w W:World)(g:Nat)(B:List UInt8)(a:Option Addr)(s:Rs):Prop where
 rd:A6 W g B a s
 dat:Ah.r (fun q=>q<w.heap.size∧q≠g) W [.slice a B.length B.length] B
 tch:Tch (·=g) w W
 lt:g<w.heap.size
section
variable {w W W':World} {g:Nat} {B:List UInt8} {a:Option Addr} {s s':Rs}
theorem DC.refl(h:A6 w g B a s):DC w w g B a s:=⟨h,h.dat,Tch.refl _ _,h.blk.lt⟩
theorem DC.step(h:DC w W g B a s)(k:AG W g B a s' W'):DC w W' g B a s':=
 ⟨k.1,Ah.keep h.dat fun q hq=>k.2.block q (Aj hq.1 h.tch.size) hq.2,h.tch.trans k.2 fun _ _ h=>h,h.lt⟩
theorem DC.row(h:DC w W g B a s)(hb:Below w.heap.size W W'):DC w W' g B a s:=by
 have hd:=Ah.keep h.dat (w':=W') fun q hq=>hb.block q hq.1;have hs:=h.tch.size;have hs2:=hb.size;exact⟨⟨h.rd.blk.below hb h.lt,Ah.mono hd fun q hq=>⟨zD,hq.2⟩,h.rd.ok⟩,hd,h.tch.trans (Tch.JB hb) (fun b hb hle=>zD),h.lt⟩
theorem DC.to(h:DC w W g B a s):AG w g B a s W:=⟨h.rd,h.tch⟩
theorem GD{size:Nat}(h:W.ownsRow base e size v n xs)(hg:g<base)(hb:Tch (·=g) W W'):W'.ownsRow base e size v n xs:=by
 refine⟨h.1,?_⟩;rcases h.2 with h0 | ⟨g',cap,cur,h1,h2,h3,h4⟩
 ·exact .inl h0
 ·exact .inr ⟨g',cap,cur,h1,h2,(hb.block _ (Blk.lt h3) zD).trans h3,h4⟩
end
theorem KK(w:World){g:Nat}{B:List UInt8}{a:Option Addr}{s:Rs}(h:A6 w g B a s)(hB:B.length≤1000000000)(below:Int)(hbl:0≤below∧below≤18446744073709551615)(most:Int)(hmo:0≤most∧most≤1000):
  Calls Tryz.prog 349 #[.pointer (some ⟨g,0,none⟩),.int .u64 below,.int .i64 most] w fun r w'=>∃v,r=.returned v∧Bb.r (fun q=>w.heap.size≤q∧q<w'.heap.size) w' [v] (s.delta B below most).2∧AG w g B a (s.delta B below most).1 w':=by
 obtain⟨i0,hi,hz0,hz1,hz2⟩:=A3 Ok;have HI:=hid (Ef w h zD most zD);have hNm:=Rs.JH (B:=B) (s:=s) (m:=most);have hlt:=h.blk.lt;have HIN:=hid (DC.refl h);unfold Rs.delta;generalize s.int B most=I at*;obtain⟨s1,N⟩:=I;dsimp only at*;have hN:N≤1000:=zD;clear h;go_enter Tryz.func349,Tryz.ntmps349;go_wp2_with fail;refine HI.out.mono ?_;rintro r w1 ⟨rfl,hst⟩;have HIN1:=hid (HIN.out.step hst);clear hst;go_wp2_with fail;go_loopw [1,7,13] (fun b v i wr=>∃(k:Nat) (bel:Int) (J:List Int) (st:Rs),k≤N∧i=.int .i64 k∧b=.int .u64 bel∧0≤bel∧bel≤18446744073709551615∧Hid (J.length=k)∧wr.ownsRow w.heap.size 36 1 v J.length (BS J)∧Hid (∀x∈J,0≤x∧x≤18446744073709551615)∧Hid (DC w wr g B a st)∧Hid (Rs.Fg B N s1 below []=Rs.Fg B (N-k) st bel J)) (fun _ _ i _=>N-(intOf i).toNat)
 case atStart=>exact ⟨0,below,[],s1,Am _,rfl,rfl,hbl.1,hbl.2,hid rfl,⟨rfl,.inl ⟨rfl,rfl⟩⟩,hid zN,HIN1,hid rfl⟩
 case round=>
  obtain⟨k,bel,J,st,hk,rfl,rfl,hb0,hb1,hJl,hown,hJb,hin,hsp⟩:=hrel;obtain⟨av,cv,rfl⟩:=AD hown;have hJ9:J.length≤1000:=by have:=hJl.out;omega
  rcases Bh k N with hlt2 | hge
  ·have HAT:=hid (Cv wr hin.out.rd)
   have HVR:=hid (Da wr hin.out.rd zD);have hx:=Rs.DL (B:=B) (s:=st);have hxb:=Rs.K9 (B:=B) (s:=st);have hstep:Rs.Fg B (N-k) st bel J=(if (st.num B).1.k=0 then (if bel≤((st.num B).2:Int) then ((st.num B).1.fail 13 st.p,[]) else Rs.Fg B (N-(k+1)) (st.num B).1 (bel-(st.num B).2-1) (J++[bel-(st.num B).2-1])) else ((st.num B).1,[])):=by
    rw[show N-k=(N-(k+1))+1 by omega];rfl
   have HO:=hid hown;have i1:(k:Int)<(N:Int):=zD;have d1:decide ((k:Int)<(N:Int))=true:=Ad i1;have d1':decide (k<N)=true:=Ad hlt2;generalize st.num B=R at*;obtain⟨st1,x⟩:=R;dsimp only at*;have HBAD:=hid hxb;clear hown hxb;by_cases hk1:st1.k=0
   ·rw[Ai hk1] at hstep
    by_cases hbx:bel≤(x:Int)
    ·rw[Ai hbx] at hstep
     have d2:decide (bel≤(x:Int))=true:=Ad hbx;have hfk:(st1.fail 13 st.p).k≠0:=Rs.BE zD;have HSP:=hid (hsp.out.trans hstep);clear hstep hsp hk1;go_wp2_with fail;refine HAT.out.mono ?_;rintro r w2 ⟨rfl,rfl⟩;go_wp2_with fail;refine HVR.out.mono ?_;rintro r w3 ⟨rfl,hst3⟩;have HIN3:=hid (hin.out.step hst3);clear hst3;go_wp2_with fail;refine (BP w3 HIN3.out.rd 13 (st.p:Int) zD).mono ?_;rintro r w4 ⟨rfl,hst4⟩;have HIN4:=hid (HIN3.out.step hst4);have hg:=AL w4 HIN4.out.rd;rw[Ae hfk] at hg;have HG:=hid hg;clear hst4 hg hfk;go_wp2_with fail;refine HG.out.mono ?_;rintro r w5 ⟨rfl,hb5⟩;have HE:=hid (HIN4.out.to.then hb5);go_wp2;go_ret;rw[HSP.out];exact⟨_,rfl,Bt (xs:=[]) rfl (An _) (Am _) (.inl rfl),HE.out⟩
    ·rw[Ak hbx] at hstep
     have d2:decide (bel≤(x:Int))=false:=Ae hbx;have HSP:=hid (hsp.out.trans hstep);have w1':0≤bel-((x:Int)+1):=zD;have w2':(x:Int)+1≤18446744073709551615:=zD;have hk1':decide (st1.k=0)=true:=Ad hk1;clear hstep hsp hk1;go_wp2_with fail;refine HAT.out.mono ?_;rintro r w2 ⟨rfl,rfl⟩;go_wp2_with fail;refine HVR.out.mono ?_;rintro r w3 ⟨rfl,hst3⟩;have HIN3:=hid (hin.out.step hst3);have HO3:=hid (GD HO.out hlt hst3.2);have hg:=AL w3 HIN3.out.rd;rw[hk1'] at hg;have HG:=hid hg;clear hst3 hg hk1';go_wp2_with fail;refine HG.out.mono ?_;rintro r w4 ⟨rfl,hb4⟩;have HIN4:=hid (HIN3.out.step (AG.later HIN3.out.rd hb4));have HO4:=hid (AF HO3.out hb4);have hsz4:=HIN4.out.tch.size;clear hb4;go_wp2_with (at_builtin;go_loud (refine Ar rfl _ _ _ rfl w.heap.size 36 i0 (.int .u64 0) 1 8 C7 hi hz0 hz1 hz2 rfl zO (.slice av J.length cv) J.length _ rfl (AF HO4.out zA) (some ⟨w4.heap.size,0,none⟩) 1 1 [.int .u64 (bel-((x:Int)+1))] rfl (By _ 36 _ rfl zN rfl) ZO zK zD zH ?_;intro v' w5 hown5 hgrow5 hat5;obtain⟨a5,c5,rfl⟩:=AD hown5;have HO5:=hid hown5;have hb5:Below w.heap.size w4 w5:=(Below.grown ((by (repeat (first | with_reducible exact Below.refl _ _ | with_reducible assumption | (with_reducible refine AH ?_ _) | (with_reducible refine Below.setCell ?_ zF _) | (with_reducible refine Below.drew ?_) | (with_reducible refine below_drewN ?_ _) | (refine Af zG ?_))):Below w4.heap.size w4 _).mono hsz4) hgrow5 zH (fun g e=>(HO4.out.lt g e).1));clear hown5 hgrow5 hat5))
     have HIN5:=hid (HIN4.out.row hb5);have ho5:w5.ownsRow w.heap.size 36 1 (.slice a5 (J.length+1) c5) (J++[bel-((x:Int)+1)]).length (BS (J++[bel-((x:Int)+1)])):=by
      have e:BS (J++[bel-((x:Int)+1)])=BS J++[.int .u64 (bel-((x:Int)+1))]:=by simp[BS]
      rw[e,Ag];exact HO5.out
     have HO6:=hid ho5;have HB6:Hid (∀y∈J++[bel-((x:Int)+1)],0≤y∧y≤18446744073709551615):=hid (fun y hy=>by
      rw[EO,De] at hy;rcases hy with hy | rfl
      ·exact hJb.out y hy
      ·omega)
     have HSP6:Hid (Rs.Fg B N s1 below []=Rs.Fg B (N-(k+1)) st1 (bel-((x:Int)+1)) (J++[bel-((x:Int)+1)])):=hid (by rw[HSP.out,show bel-(x:Int)-1=bel-((x:Int)+1) by omega]);clear ho5;go_roundw
     case rel=>exact ⟨k+1,bel-((x:Int)+1),J++[bel-((x:Int)+1)],st1,zD,zV,rfl,zD,zD,hid (by simp;exact hJl.out),HO6.out,HB6,HIN5,HSP6⟩
     case measure=>simp [intOf];omega
   ·rw[Ak hk1] at hstep
    have HSP:=hid (hsp.out.trans hstep);have hx0:=HBAD.out hk1;subst hx0;have hk1':decide (st1.k=0)=false:=Ae hk1;have hfid:st1.fail 13 st.p=st1:=Rs.Cb hk1;clear hstep hsp hk1;by_cases hbx:bel≤0
    ·have d2:decide (bel≤((0:Nat):Int))=true:=Ad zD
     have d2':decide (bel≤0)=true:=Ad hbx;go_wp2_with fail;refine HAT.out.mono ?_;rintro r w2 ⟨rfl,rfl⟩;go_wp2_with fail;refine HVR.out.mono ?_;rintro r w3 ⟨rfl,hst3⟩;have HIN3:=hid (hin.out.step hst3);clear hst3;go_wp2_with fail;refine (BP w3 HIN3.out.rd 13 (st.p:Int) zD).mono ?_;rintro r w4 ⟨rfl,hst4⟩;rw[hfid] at hst4;have HIN4:=hid (HIN3.out.step hst4);have hg:=AL w4 HIN4.out.rd;rw[hk1'] at hg;have HG:=hid hg;clear hst4 hg hk1' hfid;go_wp2_with fail;refine HG.out.mono ?_;rintro r w5 ⟨rfl,hb5⟩;have HE:=hid (HIN4.out.to.then hb5);go_wp2;go_ret;rw[HSP.out];exact⟨_,rfl,Bt (xs:=[]) rfl (An _) (Am _) (.inl rfl),HE.out⟩
    ·have d2:decide (bel≤((0:Nat):Int))=false:=Ae zD
     have d2':decide (bel≤0)=false:=Ae hbx;go_wp2_with fail;refine HAT.out.mono ?_;rintro r w2 ⟨rfl,rfl⟩;go_wp2_with fail;refine HVR.out.mono ?_;rintro r w3 ⟨rfl,hst3⟩;have HIN3:=hid (hin.out.step hst3);have hg:=AL w3 HIN3.out.rd;rw[hk1'] at hg;have HG:=hid hg;clear hst3 hg hk1' hfid;go_wp2_with fail;refine HG.out.mono ?_;rintro r w5 ⟨rfl,hb5⟩;have HE:=hid (HIN3.out.to.then hb5);go_wp2;go_ret;rw[HSP.out];exact⟨_,rfl,Bt (xs:=[]) rfl (An _) (Am _) (.inl rfl),HE.out⟩
  ·obtain rfl:k=N:=by omega
   have d1:decide ((k:Int)<(k:Int))=false:=Ae zD;have HSP:Hid (Rs.Fg B k s1 below []=(st,J)):=hid (by rw[hsp.out,Lx];rfl);have HV:=hid (FA hJb.out rfl hown);have HE:=hid hin.out.to;clear hown hsp;go_wp2;go_ret;rw[HSP.out];exact⟨_,rfl,HV.out,HE.out⟩
theorem Rs.Up{m:Int}(h:s.k≠0):s.int B m=(s,0):=by
 unfold Rs.int Rs.most;rw[Rs.Ei h];split
 ·rw[Ak zJ]
 ·rw[Rs.Cb h]
theorem Rs.MV(h:s.k≠0):s.byte B=(s,0):=by
 unfold Rs.byte;rw[Rs.Mu h];rfl
theorem Rs.I9{m:Int}(h:s.k≠0):s.loose B m=(s,[],false):=by
 unfold Rs.loose;rw[Rs.Up h];dsimp only;rw[Rs.MV h];dsimp only;rw[Ak h]
theorem O2(w:World){g:Nat}{B:List UInt8}{a:Option Addr}{s:Rs}(h:A6 w g B a s)(hB:B.length≤1000000000):
  Calls Tryz.prog 255 #[.pointer (some ⟨g,0,none⟩),.func (Fn.func 142) #[] #[]] w fun r w'=>r=.returned (.int .u64 ((s.ep B).2:Int))∧AG w g B a (s.ep B).1 w':=by
 have HAT:=hid (Cv w h);have HVR:=hid (Da w h zD);have hxb:=Rs.K9 (B:=B) (s:=s);have HIN:=hid (DC.refl h);unfold Rs.ep;generalize s.num B=R at*;obtain⟨st1,x⟩:=R;dsimp only at*;have HRT:=hid (fun (W:World)=>GK (x:Int) W);have HBAD:=hid hxb;clear h hxb;by_cases hk1:st1.k=0
 ·rw[Ai hk1]
  by_cases hr:epR (x:Int)=true
  ·rw[Ai hr]
   rw[hr] at HRT;have HK:Hid (decide (st1.k=0)=true):=hid (Ad hk1);clear hk1 hr;go_enter Jk,H6;go_wp2_with fail;refine HAT.out.mono ?_;rintro r w2 ⟨rfl,rfl⟩;go_wp2_with fail;refine HVR.out.mono ?_;rintro r w3 ⟨rfl,hst3⟩;have HIN3:=hid (HIN.out.step hst3);clear hst3;go_wp2_with fail;refine (HRT.out w3).mono ?_;rintro r w3' ⟨rfl,rfl⟩;go_wp2_with fail;refine ((by have:=AL w3 HIN3.out.rd;rw[HK.out] at this;exact this:Calls Tryz.prog 112 #[.pointer (some ⟨g,0,none⟩)] w3 fun r w'=>r=.returned (.bool true)∧Below w3.heap.size w3 w')).mono ?_;rintro r w5 ⟨rfl,hb5⟩;have HE:=hid (HIN3.out.to.then hb5);go_wp2;go_ret;exact⟨rfl,HE.out⟩
  ·rw[Ak hr]
   rw[Bool.eq_false_iff.2 hr] at HRT;have hfk:(st1.fail 3 s.p).k≠0:=Rs.BE zD;clear hk1 hr;go_enter Jk,H6;go_wp2_with fail;refine HAT.out.mono ?_;rintro r w2 ⟨rfl,rfl⟩;go_wp2_with fail;refine HVR.out.mono ?_;rintro r w3 ⟨rfl,hst3⟩;have HIN3:=hid (HIN.out.step hst3);clear hst3;go_wp2_with fail;refine (HRT.out w3).mono ?_;rintro r w3' ⟨rfl,rfl⟩;go_wp2_with fail;refine (BP w3 HIN3.out.rd 3 (s.p:Int) zD).mono ?_;rintro r w4 ⟨rfl,hst4⟩;have HIN4:=hid (HIN3.out.step hst4);have hg:=AL w4 HIN4.out.rd;rw[Ae hfk] at hg;have HG:=hid hg;clear hst4 hg hfk;go_wp2_with fail;refine HG.out.mono ?_;rintro r w5 ⟨rfl,hb5⟩;have HE:=hid (HIN4.out.to.then hb5);go_wp2;go_ret;exact⟨rfl,HE.out⟩
 ·rw[Ak hk1]
  have hx0:=HBAD.out hk1;subst hx0;have hfk:st1.k≠0:=hk1;have hfid:st1.fail 3 s.p=st1:=Rs.Cb hk1;rw[show epR ((0:Nat):Int)=false from zO] at HRT;clear hk1;go_enter Jk,H6;go_wp2_with fail;refine HAT.out.mono ?_;rintro r w2 ⟨rfl,rfl⟩;go_wp2_with fail;refine HVR.out.mono ?_;rintro r w3 ⟨rfl,hst3⟩;have HIN3:=hid (HIN.out.step hst3);clear hst3;go_wp2_with fail;refine (HRT.out w3).mono ?_;rintro r w3' ⟨rfl,rfl⟩;go_wp2_with fail;refine (BP w3 HIN3.out.rd 3 (s.p:Int) zD).mono ?_;rintro r w4 ⟨rfl,hst4⟩;rw[hfid] at hst4;clear hfid;have HIN4:=hid (HIN3.out.step hst4);have hg:=AL w4 HIN4.out.rd;rw[Ae hfk] at hg;have HG:=hid hg;clear hst4 hg hfk;go_wp2_with fail;refine HG.out.mono ?_;rintro r w5 ⟨rfl,hb5⟩;have HE:=hid (HIN4.out.to.then hb5);go_wp2;go_ret;exact⟨rfl,HE.out⟩
theorem KJ(w:World){g:Nat}{B:List UInt8}{a:Option Addr}{s:Rs}(h:A6 w g B a s)(hB:B.length≤1000000000):
  Calls Tryz.prog 188 #[.pointer (some ⟨g,0,none⟩)] w fun r w'=>r=.returned (.int .u64 ((s.ep B).2:Int))∧AG w g B a (s.ep B).1 w':=by
 have HR:=hid (O2 w h hB);generalize s.ep B=R at*;clear h;go_enter Tryz.func188,Tryz.ntmps188;go_wp2_with fail;refine HR.out.mono ?_;rintro r w1 ⟨rfl,hst⟩;have HST:=hid hst;clear hst;go_wp2;go_ret;exact⟨rfl,HST.out⟩
theorem O1(w:World){g:Nat}{B:List UInt8}{a:Option Addr}{s:Rs}(h:A6 w g B a s)(hB:B.length≤1000000000):
  Calls Tryz.prog 255 #[.pointer (some ⟨g,0,none⟩),.func (Fn.func 256) #[] #[]] w fun r w'=>r=.returned (.int .u64 ((s.po B).2:Int))∧AG w g B a (s.po B).1 w':=by
 have HAT:=hid (Cv w h);have HVR:=hid (Da w h zD);have hxb:=Rs.K9 (B:=B) (s:=s);have HIN:=hid (DC.refl h);unfold Rs.po;generalize s.num B=R at*;obtain⟨st1,x⟩:=R;dsimp only at*;have HRT:=hid (fun (W:World)=>Me (x:Int) W);have HBAD:=hid hxb;clear h hxb;by_cases hk1:st1.k=0
 ·rw[Ai hk1]
  by_cases hr:poR (x:Int)=true
  ·rw[Ai hr]
   rw[hr] at HRT;have HK:Hid (decide (st1.k=0)=true):=hid (Ad hk1);clear hk1 hr;go_enter Jk,H6;go_wp2_with fail;refine HAT.out.mono ?_;rintro r w2 ⟨rfl,rfl⟩;go_wp2_with fail;refine HVR.out.mono ?_;rintro r w3 ⟨rfl,hst3⟩;have HIN3:=hid (HIN.out.step hst3);clear hst3;go_wp2_with fail;refine (HRT.out w3).mono ?_;rintro r w3' ⟨rfl,rfl⟩;go_wp2_with fail;refine ((by have:=AL w3 HIN3.out.rd;rw[HK.out] at this;exact this:Calls Tryz.prog 112 #[.pointer (some ⟨g,0,none⟩)] w3 fun r w'=>r=.returned (.bool true)∧Below w3.heap.size w3 w')).mono ?_;rintro r w5 ⟨rfl,hb5⟩;have HE:=hid (HIN3.out.to.then hb5);go_wp2;go_ret;exact⟨rfl,HE.out⟩
  ·rw[Ak hr]
   rw[Bool.eq_false_iff.2 hr] at HRT;have hfk:(st1.fail 3 s.p).k≠0:=Rs.BE zD;clear hk1 hr;go_enter Jk,H6;go_wp2_with fail;refine HAT.out.mono ?_;rintro r w2 ⟨rfl,rfl⟩;go_wp2_with fail;refine HVR.out.mono ?_;rintro r w3 ⟨rfl,hst3⟩;have HIN3:=hid (HIN.out.step hst3);clear hst3;go_wp2_with fail;refine (HRT.out w3).mono ?_;rintro r w3' ⟨rfl,rfl⟩;go_wp2_with fail;refine (BP w3 HIN3.out.rd 3 (s.p:Int) zD).mono ?_;rintro r w4 ⟨rfl,hst4⟩;have HIN4:=hid (HIN3.out.step hst4);have hg:=AL w4 HIN4.out.rd;rw[Ae hfk] at hg;have HG:=hid hg;clear hst4 hg hfk;go_wp2_with fail;refine HG.out.mono ?_;rintro r w5 ⟨rfl,hb5⟩;have HE:=hid (HIN4.out.to.then hb5);go_wp2;go_ret;exact⟨rfl,HE.out⟩
 ·rw[Ak hk1]
  have hx0:=HBAD.out hk1;subst hx0;have hfk:st1.k≠0:=hk1;have hfid:st1.fail 3 s.p=st1:=Rs.Cb hk1;rw[show poR ((0:Nat):Int)=true from zO] at HRT;clear hk1;go_enter Jk,H6;go_wp2_with fail;refine HAT.out.mono ?_;rintro r w2 ⟨rfl,rfl⟩;go_wp2_with fail;refine HVR.out.mono ?_;rintro r w3 ⟨rfl,hst3⟩;have HIN3:=hid (HIN.out.step hst3);clear hst3;go_wp2_with fail;refine (HRT.out w3).mono ?_;rintro r w3' ⟨rfl,rfl⟩;go_wp2_with fail;refine ((by have:=AL w3 HIN3.out.rd;rw[Ae hfk] at this;exact this:Calls Tryz.prog 112 #[.pointer (some ⟨g,0,none⟩)] w3 fun r w'=>r=.returned (.bool false)∧Below w3.heap.size w3 w')).mono ?_;rintro r w5 ⟨rfl,hb5⟩;have HE:=hid (HIN3.out.to.then hb5);clear hfk hfid;go_wp2;go_ret;exact⟨rfl,HE.out⟩
theorem OZ(w:World){g:Nat}{B:List UInt8}{a:Option Addr}{s:Rs}(h:A6 w g B a s)(hB:B.length≤1000000000):
  Calls Tryz.prog 190 #[.pointer (some ⟨g,0,none⟩)] w fun r w'=>r=.returned (.int .u64 ((s.po B).2:Int))∧AG w g B a (s.po B).1 w':=by
 have HR:=hid (O1 w h hB);generalize s.po B=R at*;clear h;go_enter Tryz.func190,Tryz.ntmps190;go_wp2_with fail;refine HR.out.mono ?_;rintro r w1 ⟨rfl,hst⟩;have HST:=hid hst;clear hst;go_wp2;go_ret;exact⟨rfl,HST.out⟩
end Go.Proofs.YtfddhafbhceoaaaGreat
