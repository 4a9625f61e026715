/- Mini: Needed by pushItems_walk, part 11: texts put together by shake.py; no condition. -/
import Derived.Test.YtfddhafbhceoaaaGreatWE4
import Derived.Test.YtfddhafbhceoaaaGreatWE3
import Derived.Test.YtfddhafbhceoaaaGreatWE2
import Derived.Test.YtfddhafbhceoaaaGreatWE10
import Derived.Test.YtfddhafbhceoaaaGreatWE6
import Derived.Test.YtfddhafbhceoaaaGreatWE5
import Derived.Test.YtfddhafbhceoaaaGreatWE8
import Derived.Test.YtfddhafbhceoaaaGreatWE1
import Derived.Test.YtfddhafbhceoaaaGreatWE9
import Derived.Test.YtfddhafbhceoaaaGreatWE7
set_option linter.unusedVariables false
set_option linter.unusedSimpArgs false
set_option maxRecDepth 100000
set_option maxHeartbeats 6400000
namespace Go.Bs
theorem zCo{p:Prop}(h:p:=by rw [AO, t2]):p:=h
theorem zCf{p:Prop}(h:p:=by have := HM.out.state hh; have := Yn m.kind; omega):p:=h
theorem zBc{p:Prop}(h:p:=by (try simp only [Ag]); have := Abs (X := (Dy m.sea)) hh; omega):p:=h
theorem zBb{p:Prop}(h:p:=by (try simp only [Ag]); have := Abs (X := (Dz m.proj)) hh; omega):p:=h
theorem zBa{p:Prop}(h:p:=by (try simp only [Ag]); have := Abs (X := (Bk m.data)) hh; omega):p:=h
theorem zA9{p:Prop}(h:p:=by (try simp only [Ag]); have := Abs (X := (Dw m.streams)) hh; omega):p:=h
theorem zA4{p:Prop}(h:p:=by rw [hf.out, hst.out]; simp [h3]):p:=h
theorem zA3{p:Prop}(h:p:=by (try simp only [Ag]); have := Abs (X := (Ci m.pos m.links)) hh; omega):p:=h
theorem ZT{p:Prop}(h:p:=by have := HLT.out _ hf; omega):p:=h
theorem ZN{p:Prop}(h:p:=by rw [hf.out, Aa7 _ _ l k (.inl (by omega))]; simp only [decide_eq_decide]; omega):p:=h
theorem ZM{p:Prop}(h:p:=by rw [hf.out, Aa7 _ _ l k (.inr (by omega))]; simp only [decide_eq_decide]; omega):p:=h
theorem ZJ{p:Prop}(h:p:=by (try simp only [Ag]); have := Abs (X := (Az m.pos.toNat)) hh; omega):p:=h
theorem ZI{p:Prop}(h:p:=by rw [Ag]; omega):p:=h
theorem ZH{p:Prop}(h:p:=by (try simp only [Ag]); have := Abs (X := (Az m.count.toNat)) hh; omega):p:=h
theorem ZE{p:Prop}(h:p:=by (try simp only [Ag]); have := Abs (X := ([UInt8.ofNat m.state.toNat])) hh; omega):p:=h
end Go.Bs
namespace Go.Proofs.YtfddhafbhceoaaaGreat
open Go.RowKit Go.Bs Go.Maps
variable{h:Bool}{k:Int}{B J J' b rest:List UInt8}{m:Msg}{A L base c c1 c2 c3 c4 g p:Nat}{S:Nat → Prop}{a a1 a2 a3 a4:Option Addr}{s:Rs}{t:TypeId}{v0 v1:Value}{w w':World}
theorem Ya(h:Blk w g t #[v0,v1]):w.cell? ⟨g,0,none⟩=some v0∧w.cell? ⟨g,1,none⟩=some v1∧w.frozen? ⟨g,0,none⟩=false∧w.frozen? ⟨g,1,none⟩=false∧g<w.heap.size:=
 ⟨h.cell 0,h.cell 1,h.free 0,h.free 1,h.lt⟩
theorem Kh(l:List (List Int))(k:Nat):(Ey (l.take k)).length≤(Ey l).length:=Kl Dw l k
theorem Iz(l:List BV)(k:Nat):(Cq (l.take k)).length≤(Cq l).length:=Kl CY l k
theorem Kt(w:World){g base most:Nat}{J:List UInt8}{a:Option Addr}(h:BQ w g base most J a c)(s:BV)(al:Option Addr)(nl cl:Nat)(h0:inU s.lo)(h1:inU s.hi)
 (hl:EH.r (fun q=>q<w.heap.size∧¬Dr g a q) w [.slice al nl cl] s.sets) (hR:Dc s=true) (hfit:J.length+(CY s).length≤most) (hln2:J.length+(CY s).length≤100000000000000):
  Calls Tryz.prog 346 #[.pointer (some ⟨g,0,none⟩),.agg #[.int .u64 s.lo,.int .u64 s.hi,.slice al nl cl]] w fun r w'=>r=.returned (.tuple #[])∧At w g base most (J++CY s) a w':=by
 obtain⟨rfl,hm,_,_⟩:=AT hl;have HRT:=hid (fun (W:World) (hW:Below w.heap.size w W)=>KY s.lo s.hi s.sets al _ cl W (lift (JR hl) hW));rw[show (⟨s.lo,s.hi,s.sets⟩:BV)=s from rfl,hR] at HRT;have hR':=hR;simp only[Dc,Aq,Av] at hR';obtain⟨⟨g1,g2,g3,g4⟩,g5⟩:=hR';have hdl:(CY s).length=(Az (s.hi-s.lo-1).toNat).length+(Az s.sets.length).length+(Ey s.sets).length:=by simp only[CY,Ag]
 rw[hdl] at hfit hln2;have hbb:CY s=Az (s.hi-s.lo-1).toNat++Az s.sets.length++Ey s.sets:=rfl;rw[hbb];have HP:=hid h;have HL:=hid hl;have HNO:=hid (fun (k:Nat) (hk:k<s.sets.length)=>(by
  have:=LH g5 k hk;simp only[Dx,Aq,Av] at this;exact⟨this.1.2,this.2.1⟩:s.sets[k].length≤8∧Bj s.sets[k]=true))
 have HNS:=hid (fun (k:Nat) (hk:k<s.sets.length)=>NJ s.sets k hk);have HMO:=hid (fun k=>Kh s.sets k);obtain⟨lo,hi,l⟩:=s;dsimp only at*;have hz0:=h0.1;have v1:0≤hi-lo:=zD;have v2:0≤hi-lo-1:=zD;have v3:hi-lo-1≤18446744073709551615:=zD;have v4:hi-lo≤18446744073709551615:=zD;clear h hl hR hdl hbb g5;go_enter Tryz.func346,Tryz.ntmps346;go_wp2_with fail;refine (HRT.out _ zA).mono ?_;rintro r w1 ⟨rfl,hb1⟩;have B1:=Blk.later (Blk.newAt w 219 #[.int .u64 lo,.int .u64 hi,.slice al l.length cl] rfl) hb1;obtain⟨x0,x1,x2,_,_,_,l1⟩:=FW B1;have hbw1:Below w.heap.size w w1:=zA;have HLT:=hid (fun q (hq:Dr g a q)=>(HP.out.En hq).2);have HB1:=hid B1;have HL1:=hid (FI hbw1 HL.out);have hs1:=hbw1.size;have HP1:=hid (HP.out.later hbw1);have HV1:=hid (by have:=Cl w1 HP1.out (hi-lo-1).toNat zD zD zD;rw[toNat_cast v2] at this;exact this:Calls Tryz.prog 163 #[.pointer (some ⟨g,0,none⟩),.int .u64 (hi-lo-1)] w1 fun r w'=>r=.returned (.tuple #[])∧At w1 g base most (J++Az (hi-lo-1).toNat) a w');clear B1 hb1;go_wp2_with fail;refine HV1.out.mono ?_;rintro r w2 ⟨rfl,a2,c2,hp2,ht2,ha2⟩;have B2:=HB1.out.tch ht2 (fun hf=>ZT);obtain⟨y0,y1,y2,_,_,_,l2⟩:=FW B2;have HT2:=hid (And.intro ht2 ha2);have HL2:=hid (DQ ht2 ha2 HL1.out);have HB2:=hid B2;have HNF2:=hid (fun (hf:Dr g a2 w.heap.size)=>EC ha2 HB1.out.lt (fun hf=>ZT) hf);have hs2:=ht2.size;have HV2:=hid (Cl w2 hp2 l.length zD zT zT);clear B2 hp2 ht2 ha2 x0 x1 x2;go_wp2_with fail;refine HV2.out.mono ?_;rintro r w3 ⟨rfl,a3,c3,hp3,ht3,ha3⟩;have B3:=HB2.out.tch ht3 (fun hf=>HNF2.out hf);obtain⟨x0,x1,x2,_,_,_,l3⟩:=FW B3;have HT3:=hid (And.intro ht3 ha3);have HL3:=hid (DQ ht3 ha3 HL2.out);have HP3:=hid hp3;clear B3 hp3 ht3 ha3 y0 y1 y2;go_wp2_with fail;clear x0 x1 x2;go_loopw [28] (fun i wr=>∃k:Nat,k≤l.length∧i=.int .i64 k∧Hid (At w3 g base most (J++Az (hi-lo-1).toNat++Az l.length++Ey (l.take k)) a3 wr)) (fun i _=>l.length-(intOf i).toNat)
 case atStart=>exact ⟨0,Am _,rfl,hid (by simpa [Ey] using At.refl HP3.out)⟩
 case round=>
  obtain⟨k,hk,rfl,hp⟩:=hrel;obtain⟨a4,c4,hp4,ht4,ha4⟩:=hp.out;rcases Bh k l.length with hlt | hge
  ·have hd4:=DQ ht4 ha4 HL3.out
   obtain⟨b,o,hA,hbb,ak,ck,u0,xl⟩:=GQ hd4 hlt;subst hA;have hst:=HNS.out k hlt;have hfk:=HMO.out (k+1);rw[hst,Ag] at hfk;have hno:=HNO.out k hlt;have hsb:Dw l[k]=Az l[k].length++GO l[k]:=rfl;have hsl:(Dw l[k]).length=(Az l[k].length).length+(GO l[k]).length:=by rw[hsb,Ag]
   have HST:=hid hst;have HSB:=hid hsb;have HXL:=hid xl;have i1:(k:Int)<(l.length:Int):=zD;have d1:decide ((k:Int)<(l.length:Int))=true:=Ad i1;have HT4:=hid (And.intro ht4 ha4);generalize l[k]=X at*;have hx8:=hno.1;have HRI:=hid hno.2;have HV4:=hid (Cl wr hp4 X.length zD zT zT);clear hd4 hst hp4 ht4 ha4 hp hsb xl hno;go_wp2_with fail;refine HV4.out.mono ?_;rintro r w5 ⟨rfl,a5,c5,hp5,ht5,ha5⟩;have HZ:=hid (Ka w5 hp5 X ak _ ck (JR (DQ ht5 ha5 HXL.out)) HRI.out zD zT zT);have HT5:=hid (And.intro ht5 ha5);clear hp5 ht5 ha5 u0;go_wp2_with fail;refine HZ.out.mono ?_;rintro r w6 ⟨rfl,hst6⟩;have hn:=At.trans (J:=J) HT4.out.1 HT4.out.2 (At.trans (J:=J) HT5.out.1 HT5.out.2 hst6);rw[Ao _ (Az X.length),←HSB.out,Ao _ (Ey _),←HST.out] at hn;have HN:=hid hn;clear hst6 hn;go_wp2_with fail;go_roundw
   case rel=>exact ⟨k+1,zD,zV,HN⟩
   case measure=>(simp[intOf];try omega)
  ·obtain rfl:k=l.length:=by omega
   have d1:decide ((l.length:Int)<(l.length:Int))=false:=Ae zD;rw[DX] at hp;have hn:=At.later hbw1 (At.trans (J:=J) HT2.out.1 HT2.out.2 (At.trans (J:=J) HT3.out.1 HT3.out.2 hp.out));rw[Ao _ (Az (l.length)),Ao J,←Ao (Az (hi-lo-1).toNat)] at hn;have HN:=hid hn;clear hp hp4 ht4 ha4 hn;go_wp2_with fail;first | go_end0 | refine Al (Ax rfl _ _ _) rfl ?_
   exact⟨rfl,HN.out⟩
theorem N2(w:World){g base most:Nat}{J:List UInt8}{a:Option Addr}(h:BQ w g base most J a c)(p:EZ)(al:Option Addr)(nl cl:Nat)(h0:inU p.epoch)
 (hl:Bq.r (fun q=>q<w.heap.size∧¬Dr g a q) w [.slice al nl cl] p.stripes) (hPR:∀(W:World),Below w.heap.size w W→Calls Tryz.prog 290 #[.agg #[.int .u64 p.epoch,.slice al nl cl]] W fun r w'=>r=.returned (.bool true)∧Below W.heap.size W w') (hR:DG p=true) (hfit:J.length+(Dz p).length≤most) (hln2:J.length+(Dz p).length≤100000000000000):
  Calls Tryz.prog 304 #[.pointer (some ⟨g,0,none⟩),.agg #[.int .u64 p.epoch,.slice al nl cl]] w fun r w'=>r=.returned (.tuple #[])∧At w g base most (J++Dz p) a w':=by
 obtain⟨rfl,hm,_,_⟩:=AT hl;have HRT:=hid hPR;have hR':=hR;simp only[DG,Aq,Av] at hR';obtain⟨g1,⟨g2,g3⟩,g4⟩:=hR';have hdl:(Dz p).length=(Az p.epoch.toNat).length+(Az p.stripes.length).length+(Cq p.stripes).length:=by simp only[Dz,Ag]
 rw[hdl] at hfit hln2;have hbb:Dz p=Az p.epoch.toNat++Az p.stripes.length++Cq p.stripes:=rfl;rw[hbb];have HP:=hid h;have HL:=hid hl;have HNO:=hid (fun (k:Nat) (hk:k<p.stripes.length)=>JY _ _ g4 p.stripes[k] (Bi hk));have HNS:=hid (fun (k:Nat) (hk:k<p.stripes.length)=>Ke p.stripes k hk);have HMO:=hid (fun k=>Iz p.stripes k);obtain⟨ep,l⟩:=p;dsimp only at*;have HE:=hid (fun (W:World) (hW:Below w.heap.size w W)=>(by have:=Md W (h.later hW) ep.toNat (by rw[toNat_cast h0.1];exact g1) zD zD;rw[toNat_cast h0.1] at this;exact this:Calls Tryz.prog 162 #[.pointer (some ⟨g,0,none⟩),.int .u64 ep] W fun r w'=>r=.returned (.tuple #[])∧At W g base most (J++Az ep.toNat) a w'));clear h hl hR hdl hbb g1 g4 hPR;go_enter Tryz.func304,Tryz.ntmps304;go_wp2_with fail;refine (HRT.out _ zA).mono ?_;rintro r w1 ⟨rfl,hb1⟩;have B1:=Blk.later (Blk.newAt w 43 #[.int .u64 ep,.slice al l.length cl] rfl) hb1;obtain⟨x0,x1,_,_,l1⟩:=Ya B1;have hbw1:Below w.heap.size w w1:=zA;have HLT:=hid (fun q (hq:Dr g a q)=>(HP.out.En hq).2);have HB1:=hid B1;have HL1:=hid (FI hbw1 HL.out);have hs1:=hbw1.size;clear B1 hb1;go_wp2_with fail;refine (HE.out _ hbw1).mono ?_;rintro r w2 ⟨rfl,a2,c2,hp2,ht2,ha2⟩;have B2:=HB1.out.tch ht2 (fun hf=>ZT);obtain⟨y0,y1,_,_,l2⟩:=Ya B2;have HT2:=hid (And.intro ht2 ha2);have HL2:=hid (DQ ht2 ha2 HL1.out);have HB2:=hid B2;have HNF2:=hid (fun (hf:Dr g a2 w.heap.size)=>EC ha2 HB1.out.lt (fun hf=>ZT) hf);have hs2:=ht2.size;have HV2:=hid (Cl w2 hp2 l.length zD zT zT);clear B2 hp2 ht2 ha2 x0 x1;go_wp2_with fail;refine HV2.out.mono ?_;rintro r w3 ⟨rfl,a3,c3,hp3,ht3,ha3⟩;have B3:=HB2.out.tch ht3 (fun hf=>HNF2.out hf);obtain⟨x0,x1,_,_,l3⟩:=Ya B3;have HT3:=hid (And.intro ht3 ha3);have HL3:=hid (DQ ht3 ha3 HL2.out);have HP3:=hid hp3;clear B3 hp3 ht3 ha3 y0 y1;go_wp2_with fail;clear x0 x1;go_loopw [24] (fun i wr=>∃k:Nat,k≤l.length∧i=.int .i64 k∧Hid (At w3 g base most (J++Az ep.toNat++Az l.length++Cq (l.take k)) a3 wr)) (fun i _=>l.length-(intOf i).toNat)
 case atStart=>exact ⟨0,Am _,rfl,hid (by simpa [Cq] using At.refl HP3.out)⟩
 case round=>
  obtain⟨k,hk,rfl,hp⟩:=hrel;obtain⟨a4,c4,hp4,ht4,ha4⟩:=hp.out;rcases Bh k l.length with hlt | hge
  ·have hd4:=DQ ht4 ha4 HL3.out
   obtain⟨b,o,hA,hbb,ak,ck,u0,u1,u2,ub0,ub1,xl⟩:=Ge hd4 hlt;subst hA;have hst:=HNS.out k hlt;have hfk:=HMO.out (k+1);rw[hst,Ag] at hfk;have HRI:=hid (HNO.out k hlt);have HST:=hid hst;have HXL:=hid xl;have i1:(k:Int)<(l.length:Int):=zD;have d1:decide ((k:Int)<(l.length:Int))=true:=Ad i1;have hbl:=hbb.1;have HT4:=hid (And.intro ht4 ha4);have HP4:=hid hp4;generalize l[k]=X at*;have HU:=hid (And.intro ub0 ub1);have HZ:=hid (fun (W:World) (hW:Below wr.heap.size wr W)=>Kt W (HP4.out.later hW) X ak _ ck HU.out.1 HU.out.2 (FI hW HXL.out) HRI.out zT zT);clear hd4 hst hp4 ht4 ha4 hp xl ub0 ub1;go_wp2_with fail;refine (HZ.out _ zA).mono ?_;rintro r w6 ⟨rfl,hst6⟩;have hn:=At.trans (J:=J) HT4.out.1 HT4.out.2 (At.later zA hst6);rw[Ao _ (Cq _),←HST.out] at hn;have HN:=hid hn;clear hst6 hn u0 u1 u2;go_wp2_with fail;go_roundw
   case rel=>exact ⟨k+1,zD,zV,HN⟩
   case measure=>(simp[intOf];try omega)
  ·obtain rfl:k=l.length:=by omega
   have d1:decide ((l.length:Int)<(l.length:Int))=false:=Ae zD;rw[DX] at hp;have hn:=At.later hbw1 (At.trans (J:=J) HT2.out.1 HT2.out.2 (At.trans (J:=J) HT3.out.1 HT3.out.2 hp.out));rw[Ao _ (Az (l.length)),Ao J,←Ao (Az ep.toNat)] at hn;have HN:=hid hn;clear hp hp4 ht4 ha4 hn;go_wp2_with fail;first | go_end0 | refine Al (Ax rfl _ _ _) rfl ?_
   exact⟨rfl,HN.out⟩
theorem A9.tr{S':Nat→Prop}{a1 c1 a2 c2 a3 c3 a4 c4}(f:∀{α:Type} (A:Rp α) (cs:List Value) (x:α),A.r S w cs x→A.r S' w' cs x)(h:A9 S w m a1 c1 a2 c2 a3 c3 a4 c4):A9 S' w' m a1 c1 a2 c2 a3 c3 a4 c4:=
 ⟨h.kind,h.epoch,h.seq,h.pos,h.count,h.state,h.sealE,h.sealN,h.sealT,h.projE,f _ _ _ h.streams,f _ _ _ h.links,f _ _ _ h.data,f _ _ _ h.stripes⟩
structure GY(w:World)(g base most:Nat)(J:List UInt8)(a:Option Addr)(c A B:Nat)(m:Msg)(a1:Option Addr)(c1:Nat)(a2:Option Addr)(c2:Nat)(a3:Option Addr)(c3:Nat)(a4:Option Addr)(c4:Nat):Prop where
 pen:BQ w g base most J a c
 pa:Blk w A 202 #[.pointer (some ⟨g,0,none⟩)]
 pb:Blk w B 45 Acq
 na:¬Dr g a A
 nb:¬Dr g a B
 data:A9 (fun q=>q<w.heap.size∧¬Dr g a q) w m a1 c1 a2 c2 a3 c3 a4 c4
theorem GY.later{most:Nat}{B:Nat}(h:GY w g base most J a c A B m a1 c1 a2 c2 a3 c3 a4 c4)(hb:Below w.heap.size w w'):GY w' g base most J a c A B m a1 c1 a2 c2 a3 c3 a4 c4:=
 ⟨h.pen.later hb,h.pa.later hb,h.pb.later hb,h.na,h.nb,A9.tr (fun A cs x hx=>FI hb hx) h.data⟩
theorem GY.step{most:Nat}{B:Nat}(h:GY w g base most J a c A B m a1 c1 a2 c2 a3 c3 a4 c4)(k:At w g base most J' a w'):∃a' c',GY w' g base most J' a' c' A B m a1 c1 a2 c2 a3 c3 a4 c4∧Tch (Dr g a) w w'∧(a'.map Addr.block=a.map Addr.block∨∃q,a'.map Addr.block=some q∧w.heap.size≤q):=by
 obtain⟨a',c',k1,k2,k3⟩:=k;exact⟨a',c',⟨k1,h.pa.tch k2 h.na,h.pb.tch k2 h.nb,EC k3 h.pa.lt h.na,EC k3 h.pb.lt h.nb,A9.tr (fun A cs x hx=>DQ k2 k3 hx) h.data⟩,k2,k3⟩
theorem A9.low{g:Nat}{a:Option Addr}{w:World}{m:Msg}{a1 c1 a2 c2 a3 c3 a4 c4}(h:A9 (fun q=>q<w.heap.size∧¬Dr g a q) w m a1 c1 a2 c2 a3 c3 a4 c4):A9 (·<w.heap.size) w m a1 c1 a2 c2 a3 c3 a4 c4:=A9.tr (fun A cs x hx=>JR hx) h
theorem Vh{w:World}{g base most:Nat}{J:List UInt8}{a:Option Addr}{B:Nat}{m:Msg}(h:GY w g base most J a c A B m a1 c1 a2 c2 a3 c3 a4 c4)(hR:poR m.pos=true)(hfit:J.length+(Az m.pos.toNat).length≤most)(hln:J.length+(Az m.pos.toNat).length≤100000000000000):
  Calls Tryz.prog 294 #[.pointer (some ⟨A,0,none⟩),.pointer (some ⟨B,0,none⟩)] w fun r w'=>r=.returned (.tuple #[])∧At w g base most (J++(Az m.pos.toNat)) a w':=by
 have hp:=h.data.pos;have HV:=hid (by have:=QX w h.pen m.pos.toNat (by rw[toNat_cast hp.1];exact hR) hfit hln;rw[toNat_cast hp.1] at this;exact this:Calls Tryz.prog 261 #[.pointer (some ⟨g,0,none⟩),.int .u64 m.pos] w fun r w'=>r=.returned (.tuple #[])∧At w g base most (J++Az m.pos.toNat) a w');have p0:w.cell? ⟨A,0,none⟩=some (.pointer (some ⟨g,0,none⟩)):=h.pa.cell 0;have y3:w.cell? ⟨B,3,none⟩=some (.int .u64 m.pos):=h.pb.cell 3;clear h;go_enter Tryz.func294,Tryz.ntmps294;go_wp2_with fail;refine HV.out.mono ?_;rintro r w1 ⟨rfl,hst⟩;have HST:=hid hst;clear hst;go_wp2_with fail;first | go_end0 | refine Al (Ax rfl _ _ _) rfl ?_
 exact⟨rfl,HST.out⟩
theorem Pu{w:World}{g base most:Nat}{J:List UInt8}{a:Option Addr}{B:Nat}{m:Msg}(h:GY w g base most J a c A B m a1 c1 a2 c2 a3 c3 a4 c4)(hR:1≤m.count∧m.count≤65536)(hfit:J.length+(Az m.count.toNat).length≤most)(hln:J.length+(Az m.count.toNat).length≤100000000000000):
  Calls Tryz.prog 295 #[.pointer (some ⟨A,0,none⟩),.pointer (some ⟨B,0,none⟩)] w fun r w'=>r=.returned (.tuple #[])∧At w g base most (J++(Az m.count.toNat)) a w':=by
 have hc0:0≤m.count:=zD;have hc1:m.count≤65536:=hR.2;have HV:=hid (by have:=Cl w h.pen m.count.toNat zD hfit hln;rw[toNat_cast hc0] at this;exact this:Calls Tryz.prog 163 #[.pointer (some ⟨g,0,none⟩),.int .u64 m.count] w fun r w'=>r=.returned (.tuple #[])∧At w g base most (J++Az m.count.toNat) a w');have p0:w.cell? ⟨A,0,none⟩=some (.pointer (some ⟨g,0,none⟩)):=h.pa.cell 0;have y4:w.cell? ⟨B,4,none⟩=some (.int .i64 m.count):=h.pb.cell 4;clear h;go_enter Tryz.func295,Tryz.ntmps295;go_wp2_with fail;refine HV.out.mono ?_;rintro r w1 ⟨rfl,hst⟩;have HST:=hid hst;clear hst;go_wp2_with fail;first | go_end0 | refine Al (Ax rfl _ _ _) rfl ?_
 exact⟨rfl,HST.out⟩
theorem Pr{w:World}{g base most:Nat}{J:List UInt8}{a:Option Addr}{B:Nat}{m:Msg}(h:GY w g base most J a c A B m a1 c1 a2 c2 a3 c3 a4 c4)(hR:1≤m.state∧m.state≤20)(hfit:J.length+([UInt8.ofNat m.state.toNat]).length≤most)(hln:J.length+([UInt8.ofNat m.state.toNat]).length≤100000000000000):
  Calls Tryz.prog 296 #[.pointer (some ⟨A,0,none⟩),.pointer (some ⟨B,0,none⟩)] w fun r w'=>r=.returned (.tuple #[])∧At w g base most (J++([UInt8.ofNat m.state.toNat])) a w':=by
 have hc0:0≤m.state:=zD;have hc1:m.state≤20:=hR.2;have he:m.state=((UInt8.ofNat m.state.toNat).toNat:Int):=by
  have:=Ej (x:=m.state.toNat) zD;rw[toNat_cast hc0] at this;exact this
 have HV:=hid (fun (W:World) (hW:Below w.heap.size w W) (ad:Option Addr) (hD:Ah.r (·<W.heap.size) W [.slice ad 1 1] [UInt8.ofNat m.state.toNat])=>Fu W (h.pen.later hW) [UInt8.ofNat m.state.toNat] ad 1 1 hD hfit hln);have HL:=hid (fun W:World=>(by have:=Lg W (UInt8.ofNat m.state.toNat);rw[←he] at this;exact this:Ah.r (·<(W.alloc (.cells #[.int .u8 m.state] 5)).heap.size) (W.alloc (.cells #[.int .u8 m.state] 5)) [.slice (some ⟨W.heap.size,0,none⟩) 1 1] [UInt8.ofNat m.state.toNat]));have p0:w.cell? ⟨A,0,none⟩=some (.pointer (some ⟨g,0,none⟩)):=h.pa.cell 0;have y5:w.cell? ⟨B,5,none⟩=some (.int .i64 m.state):=h.pb.cell 5;clear h he;go_enter Tryz.func296,Tryz.ntmps296;go_wp2_with fail;refine (HV.out _ zA _ (HL.out w)).mono ?_;rintro r w1 ⟨rfl,hst⟩;have HST:=hid (At.later (w:=w) zA hst);clear hst;go_wp2_with fail;first | go_end0 | refine Al (Ax rfl _ _ _) rfl ?_
 exact⟨rfl,HST.out⟩
theorem RS{w:World}{g base most:Nat}{J:List UInt8}{a:Option Addr}{B:Nat}{m:Msg}(h:GY w g base most J a c A B m a1 c1 a2 c2 a3 c3 a4 c4)(hR:m.streams.length≤16∧Bj m.streams=true)(hfit:J.length+(Dw m.streams).length≤most)(hln:J.length+(Dw m.streams).length≤100000000000000):
  Calls Tryz.prog 297 #[.pointer (some ⟨A,0,none⟩),.pointer (some ⟨B,0,none⟩)] w fun r w'=>r=.returned (.tuple #[])∧At w g base most (J++(Dw m.streams)) a w':=by
 have hsl:(Dw m.streams).length=(Az m.streams.length).length+(GO m.streams).length:=by unfold Dw;rw[Ag]
 rw[hsl] at hfit hln;have hl16:=hR.1;have HV:=hid (Cl w h.pen m.streams.length zD zD zD);have HZ:=hid (fun (W:World) (a':Option Addr) (c':Nat) (hW:GY W g base most (J++Az m.streams.length) a' c' A B m a1 c1 a2 c2 a3 c3 a4 c4)=>Ka W hW.pen m.streams a1 _ c1 (A9.low hW.data).streams hR.2 zD ZI ZI);have HI:=hid h;have p0:w.cell? ⟨A,0,none⟩=some (.pointer (some ⟨g,0,none⟩)):=h.pa.cell 0;have y6:w.cell? ⟨B,6,none⟩=some (.slice a1 m.streams.length c1):=h.pb.cell 6;clear h;have hsb:Dw m.streams=Az m.streams.length++GO m.streams:=rfl;go_enter Tryz.func297,Tryz.ntmps297;go_wp2_with fail;refine HV.out.mono ?_;rintro r w1 ⟨rfl,hst⟩;obtain⟨a',c',hi1,ht1,ha1⟩:=HI.out.step hst;have HT:=hid (And.intro ht1 ha1);have HZ1:=hid (HZ.out _ _ _ hi1);have q0:w1.cell? ⟨A,0,none⟩=some (.pointer (some ⟨g,0,none⟩)):=hi1.pa.cell 0;have q6:w1.cell? ⟨B,6,none⟩=some (.slice a1 m.streams.length c1):=hi1.pb.cell 6;clear hst hi1 ht1 ha1 p0 y6;go_wp2_with fail;refine HZ1.out.mono ?_;rintro r w2 ⟨rfl,hst⟩;have hn:=At.trans (J:=J) HT.out.1 HT.out.2 hst;rw[Ao,←hsb] at hn;have HST:=hid hn;clear hst hn;go_wp2_with fail;first | go_end0 | refine Al (Ax rfl _ _ _) rfl ?_
 exact⟨rfl,HST.out⟩
theorem Wa{w:World}{g base most:Nat}{J:List UInt8}{a:Option Addr}{B:Nat}{m:Msg}(h:GY w g base most J a c A B m a1 c1 a2 c2 a3 c3 a4 c4)(hbk:∀x∈m.links,x.backs.length≤1000000)(hR:CH m.pos m.links=true)(hfit:J.length+(Ci m.pos m.links).length≤most)(hln:J.length+(Ci m.pos m.links).length≤100000000000000):
  Calls Tryz.prog 299 #[.pointer (some ⟨A,0,none⟩),.pointer (some ⟨B,0,none⟩)] w fun r w'=>r=.returned (.tuple #[])∧At w g base most (J++(Ci m.pos m.links)) a w':=by
 have HV:=hid (Ys w h.pen m.pos h.data.pos m.links a2 _ c2 h.data.links hR hbk hfit hln);have p0:w.cell? ⟨A,0,none⟩=some (.pointer (some ⟨g,0,none⟩)):=h.pa.cell 0;have y3:w.cell? ⟨B,3,none⟩=some (.int .u64 m.pos):=h.pb.cell 3;have y7:w.cell? ⟨B,7,none⟩=some (.slice a2 m.links.length c2):=h.pb.cell 7;clear h;go_enter Tryz.func299,Tryz.ntmps299;go_wp2_with fail;refine HV.out.mono ?_;rintro r w1 ⟨rfl,hst⟩;have HST:=hid hst;clear hst;go_wp2_with fail;first | go_end0 | refine Al (Ax rfl _ _ _) rfl ?_
 exact⟨rfl,HST.out⟩
theorem XJ{w:World}{g base most:Nat}{J:List UInt8}{a:Option Addr}{B:Nat}{m:Msg}(h:GY w g base most J a c A B m a1 c1 a2 c2 a3 c3 a4 c4)(hR:FP m.sea=true)(hfit:J.length+(Dy m.sea).length≤most)(hln:J.length+(Dy m.sea).length≤100000000000000):
  Calls Tryz.prog 301 #[.pointer (some ⟨A,0,none⟩),.pointer (some ⟨B,0,none⟩)] w fun r w'=>r=.returned (.tuple #[])∧At w g base most (J++(Dy m.sea)) a w':=by
 have HV:=hid (NO w h.pen m.sea h.data.sealE h.data.sealN h.data.sealT hR hfit hln);have p0:w.cell? ⟨A,0,none⟩=some (.pointer (some ⟨g,0,none⟩)):=h.pa.cell 0;have y9:w.cell? ⟨B,9,none⟩=some (.int .u64 m.sea.epoch):=h.pb.cell 9;have y10:w.cell? ⟨B,10,none⟩=some (.int .u64 m.sea.node):=h.pb.cell 10;have y11:w.cell? ⟨B,11,none⟩=some (.int .u64 m.sea.tail):=h.pb.cell 11;clear h;go_enter Tryz.func301,Tryz.ntmps301;go_wp2_with fail;refine HV.out.mono ?_;rintro r w1 ⟨rfl,hst⟩;have HST:=hid hst;clear hst;go_wp2_with fail;first | go_end0 | refine Al (Ax rfl _ _ _) rfl ?_
 exact⟨rfl,HST.out⟩
theorem XK{w:World}{g base most:Nat}{J:List UInt8}{a:Option Addr}{B:Nat}{m:Msg}(h:GY w g base most J a c A B m a1 c1 a2 c2 a3 c3 a4 c4)(hR:DG m.proj=true)(hfit:J.length+(Dz m.proj).length≤most)(hln:J.length+(Dz m.proj).length≤100000000000000):
  Calls Tryz.prog 303 #[.pointer (some ⟨A,0,none⟩),.pointer (some ⟨B,0,none⟩)] w fun r w'=>r=.returned (.tuple #[])∧At w g base most (J++(Dz m.proj)) a w':=by
 have hPR:=fun (W:World) (hW:Below w.heap.size w W)=>NZ m.proj.epoch m.proj.stripes a4 _ c4 W (lift (A9.low h.data).stripes hW);rw[show (⟨m.proj.epoch,m.proj.stripes⟩:EZ)=m.proj from rfl,hR] at hPR;have HV:=hid (N2 w h.pen m.proj a4 _ c4 h.data.projE h.data.stripes hPR hR hfit hln);clear hPR;have p0:w.cell? ⟨A,0,none⟩=some (.pointer (some ⟨g,0,none⟩)):=h.pa.cell 0;have y12:w.cell? ⟨B,12,none⟩=some (.int .u64 m.proj.epoch):=h.pb.cell 12;have y13:w.cell? ⟨B,13,none⟩=some (.slice a4 m.proj.stripes.length c4):=h.pb.cell 13;clear h;go_enter Tryz.func303,Tryz.ntmps303;go_wp2_with fail;refine HV.out.mono ?_;rintro r w1 ⟨rfl,hst⟩;have HST:=hid hst;clear hst;go_wp2_with fail;first | go_end0 | refine Al (Ax rfl _ _ _) rfl ?_
 exact⟨rfl,HST.out⟩
theorem RW{w:World}{g base most:Nat}{J:List UInt8}{a:Option Addr}{B:Nat}{m:Msg}(h:GY w g base most J a c A B m a1 c1 a2 c2 a3 c3 a4 c4)(X:List UInt8)(HC:AE m.kind 1=true→∀W:World,Below w.heap.size w W→Calls Tryz.prog 294 #[.pointer (some ⟨A,0,none⟩),.pointer (some ⟨B,0,none⟩)] W fun r w'=>r=.returned (.tuple #[])∧At W g base most (J++X) a w'):
  Calls Tryz.prog 292 #[.int .i64 1,.func (Fn.func 294) #[] #[.pointer (some ⟨A,0,none⟩),.pointer (some ⟨B,0,none⟩)],.pointer (some ⟨B,0,none⟩)] w fun r w'=>r=.returned (.tuple #[])∧At w g base most (J++AQ (AE m.kind 1) X) a w':=by
 have HH:=hid (DA m.kind 1 zU w);have HCC:=hid HC;have HP:=hid h.pen;have y0:w.cell? ⟨B,0,none⟩=some (.int .i64 m.kind):=h.pb.cell 0;clear h HC;generalize AE m.kind 1=H at*;go_enter Tryz.func292,Tryz.ntmps292;go_wp2_with fail;refine HH.out.mono ?_;rintro r w1 ⟨rfl,hb1⟩;have HB:=hid hb1;clear hb1;cases H
 ·go_wp2_with fail
  first | go_end0 | refine Al (Ax rfl _ _ _) rfl ?_
  refine⟨rfl,?_⟩;have:=At.later HB.out (At.refl (HP.out.later HB.out));simpa [AQ] using this
 ·have HD:=hid (HCC.out rfl w1 HB.out)
  go_wp2_with fail;refine HD.out.mono ?_;rintro r w2 ⟨rfl,hst⟩;have HST:=hid (At.later HB.out hst);clear hst;go_wp2_with fail;first | go_end0 | refine Al (Ax rfl _ _ _) rfl ?_
  exact⟨rfl,HST.out⟩
theorem RV{w:World}{g base most:Nat}{J:List UInt8}{a:Option Addr}{B:Nat}{m:Msg}(h:GY w g base most J a c A B m a1 c1 a2 c2 a3 c3 a4 c4)(X:List UInt8)(HC:AE m.kind 2=true→∀W:World,Below w.heap.size w W→Calls Tryz.prog 295 #[.pointer (some ⟨A,0,none⟩),.pointer (some ⟨B,0,none⟩)] W fun r w'=>r=.returned (.tuple #[])∧At W g base most (J++X) a w'):
  Calls Tryz.prog 292 #[.int .i64 2,.func (Fn.func 295) #[] #[.pointer (some ⟨A,0,none⟩),.pointer (some ⟨B,0,none⟩)],.pointer (some ⟨B,0,none⟩)] w fun r w'=>r=.returned (.tuple #[])∧At w g base most (J++AQ (AE m.kind 2) X) a w':=by
 have HH:=hid (DA m.kind 2 zU w);have HCC:=hid HC;have HP:=hid h.pen;have y0:w.cell? ⟨B,0,none⟩=some (.int .i64 m.kind):=h.pb.cell 0;clear h HC;generalize AE m.kind 2=H at*;go_enter Tryz.func292,Tryz.ntmps292;go_wp2_with fail;refine HH.out.mono ?_;rintro r w1 ⟨rfl,hb1⟩;have HB:=hid hb1;clear hb1;cases H
 ·go_wp2_with fail
  first | go_end0 | refine Al (Ax rfl _ _ _) rfl ?_
  refine⟨rfl,?_⟩;have:=At.later HB.out (At.refl (HP.out.later HB.out));simpa [AQ] using this
 ·have HD:=hid (HCC.out rfl w1 HB.out)
  go_wp2_with fail;refine HD.out.mono ?_;rintro r w2 ⟨rfl,hst⟩;have HST:=hid (At.later HB.out hst);clear hst;go_wp2_with fail;first | go_end0 | refine Al (Ax rfl _ _ _) rfl ?_
  exact⟨rfl,HST.out⟩
theorem RU{w:World}{g base most:Nat}{J:List UInt8}{a:Option Addr}{B:Nat}{m:Msg}(h:GY w g base most J a c A B m a1 c1 a2 c2 a3 c3 a4 c4)(X:List UInt8)(HC:AE m.kind 4=true→∀W:World,Below w.heap.size w W→Calls Tryz.prog 296 #[.pointer (some ⟨A,0,none⟩),.pointer (some ⟨B,0,none⟩)] W fun r w'=>r=.returned (.tuple #[])∧At W g base most (J++X) a w'):
  Calls Tryz.prog 292 #[.int .i64 4,.func (Fn.func 296) #[] #[.pointer (some ⟨A,0,none⟩),.pointer (some ⟨B,0,none⟩)],.pointer (some ⟨B,0,none⟩)] w fun r w'=>r=.returned (.tuple #[])∧At w g base most (J++AQ (AE m.kind 4) X) a w':=by
 have HH:=hid (DA m.kind 4 zU w);have HCC:=hid HC;have HP:=hid h.pen;have y0:w.cell? ⟨B,0,none⟩=some (.int .i64 m.kind):=h.pb.cell 0;clear h HC;generalize AE m.kind 4=H at*;go_enter Tryz.func292,Tryz.ntmps292;go_wp2_with fail;refine HH.out.mono ?_;rintro r w1 ⟨rfl,hb1⟩;have HB:=hid hb1;clear hb1;cases H
 ·go_wp2_with fail
  first | go_end0 | refine Al (Ax rfl _ _ _) rfl ?_
  refine⟨rfl,?_⟩;have:=At.later HB.out (At.refl (HP.out.later HB.out));simpa [AQ] using this
 ·have HD:=hid (HCC.out rfl w1 HB.out)
  go_wp2_with fail;refine HD.out.mono ?_;rintro r w2 ⟨rfl,hst⟩;have HST:=hid (At.later HB.out hst);clear hst;go_wp2_with fail;first | go_end0 | refine Al (Ax rfl _ _ _) rfl ?_
  exact⟨rfl,HST.out⟩
theorem RT{w:World}{g base most:Nat}{J:List UInt8}{a:Option Addr}{B:Nat}{m:Msg}(h:GY w g base most J a c A B m a1 c1 a2 c2 a3 c3 a4 c4)(X:List UInt8)(HC:AE m.kind 8=true→∀W:World,Below w.heap.size w W→Calls Tryz.prog 297 #[.pointer (some ⟨A,0,none⟩),.pointer (some ⟨B,0,none⟩)] W fun r w'=>r=.returned (.tuple #[])∧At W g base most (J++X) a w'):
  Calls Tryz.prog 292 #[.int .i64 8,.func (Fn.func 297) #[] #[.pointer (some ⟨A,0,none⟩),.pointer (some ⟨B,0,none⟩)],.pointer (some ⟨B,0,none⟩)] w fun r w'=>r=.returned (.tuple #[])∧At w g base most (J++AQ (AE m.kind 8) X) a w':=by
 have HH:=hid (DA m.kind 8 zU w);have HCC:=hid HC;have HP:=hid h.pen;have y0:w.cell? ⟨B,0,none⟩=some (.int .i64 m.kind):=h.pb.cell 0;clear h HC;generalize AE m.kind 8=H at*;go_enter Tryz.func292,Tryz.ntmps292;go_wp2_with fail;refine HH.out.mono ?_;rintro r w1 ⟨rfl,hb1⟩;have HB:=hid hb1;clear hb1;cases H
 ·go_wp2_with fail
  first | go_end0 | refine Al (Ax rfl _ _ _) rfl ?_
  refine⟨rfl,?_⟩;have:=At.later HB.out (At.refl (HP.out.later HB.out));simpa [AQ] using this
 ·have HD:=hid (HCC.out rfl w1 HB.out)
  go_wp2_with fail;refine HD.out.mono ?_;rintro r w2 ⟨rfl,hst⟩;have HST:=hid (At.later HB.out hst);clear hst;go_wp2_with fail;first | go_end0 | refine Al (Ax rfl _ _ _) rfl ?_
  exact⟨rfl,HST.out⟩
theorem Pt{w:World}{g base most:Nat}{J:List UInt8}{a:Option Addr}{B:Nat}{m:Msg}(h:GY w g base most J a c A B m a1 c1 a2 c2 a3 c3 a4 c4)(X:List UInt8)(HC:AE m.kind 16=true→∀W:World,Below w.heap.size w W→Calls Tryz.prog 299 #[.pointer (some ⟨A,0,none⟩),.pointer (some ⟨B,0,none⟩)] W fun r w'=>r=.returned (.tuple #[])∧At W g base most (J++X) a w'):
  Calls Tryz.prog 292 #[.int .i64 16,.func (Fn.func 299) #[] #[.pointer (some ⟨A,0,none⟩),.pointer (some ⟨B,0,none⟩)],.pointer (some ⟨B,0,none⟩)] w fun r w'=>r=.returned (.tuple #[])∧At w g base most (J++AQ (AE m.kind 16) X) a w':=by
 have HH:=hid (DA m.kind 16 zU w);have HCC:=hid HC;have HP:=hid h.pen;have y0:w.cell? ⟨B,0,none⟩=some (.int .i64 m.kind):=h.pb.cell 0;clear h HC;generalize AE m.kind 16=H at*;go_enter Tryz.func292,Tryz.ntmps292;go_wp2_with fail;refine HH.out.mono ?_;rintro r w1 ⟨rfl,hb1⟩;have HB:=hid hb1;clear hb1;cases H
 ·go_wp2_with fail
  first | go_end0 | refine Al (Ax rfl _ _ _) rfl ?_
  refine⟨rfl,?_⟩;have:=At.later HB.out (At.refl (HP.out.later HB.out));simpa [AQ] using this
 ·have HD:=hid (HCC.out rfl w1 HB.out)
  go_wp2_with fail;refine HD.out.mono ?_;rintro r w2 ⟨rfl,hst⟩;have HST:=hid (At.later HB.out hst);clear hst;go_wp2_with fail;first | go_end0 | refine Al (Ax rfl _ _ _) rfl ?_
  exact⟨rfl,HST.out⟩
theorem Ps{w:World}{g base most:Nat}{J:List UInt8}{a:Option Addr}{B:Nat}{m:Msg}(h:GY w g base most J a c A B m a1 c1 a2 c2 a3 c3 a4 c4)(X:List UInt8)(HC:AE m.kind 64=true→∀W:World,Below w.heap.size w W→Calls Tryz.prog 301 #[.pointer (some ⟨A,0,none⟩),.pointer (some ⟨B,0,none⟩)] W fun r w'=>r=.returned (.tuple #[])∧At W g base most (J++X) a w'):
  Calls Tryz.prog 292 #[.int .i64 64,.func (Fn.func 301) #[] #[.pointer (some ⟨A,0,none⟩),.pointer (some ⟨B,0,none⟩)],.pointer (some ⟨B,0,none⟩)] w fun r w'=>r=.returned (.tuple #[])∧At w g base most (J++AQ (AE m.kind 64) X) a w':=by
 have HH:=hid (DA m.kind 64 zU w);have HCC:=hid HC;have HP:=hid h.pen;have y0:w.cell? ⟨B,0,none⟩=some (.int .i64 m.kind):=h.pb.cell 0;clear h HC;generalize AE m.kind 64=H at*;go_enter Tryz.func292,Tryz.ntmps292;go_wp2_with fail;refine HH.out.mono ?_;rintro r w1 ⟨rfl,hb1⟩;have HB:=hid hb1;clear hb1;cases H
 ·go_wp2_with fail
  first | go_end0 | refine Al (Ax rfl _ _ _) rfl ?_
  refine⟨rfl,?_⟩;have:=At.later HB.out (At.refl (HP.out.later HB.out));simpa [AQ] using this
 ·have HD:=hid (HCC.out rfl w1 HB.out)
  go_wp2_with fail;refine HD.out.mono ?_;rintro r w2 ⟨rfl,hst⟩;have HST:=hid (At.later HB.out hst);clear hst;go_wp2_with fail;first | go_end0 | refine Al (Ax rfl _ _ _) rfl ?_
  exact⟨rfl,HST.out⟩
theorem NX{w:World}{g base most:Nat}{J:List UInt8}{a:Option Addr}{B:Nat}{m:Msg}(h:GY w g base most J a c A B m a1 c1 a2 c2 a3 c3 a4 c4)(X:List UInt8)(HC:AE m.kind 128=true→∀W:World,Below w.heap.size w W→Calls Tryz.prog 303 #[.pointer (some ⟨A,0,none⟩),.pointer (some ⟨B,0,none⟩)] W fun r w'=>r=.returned (.tuple #[])∧At W g base most (J++X) a w'):
  Calls Tryz.prog 292 #[.int .i64 128,.func (Fn.func 303) #[] #[.pointer (some ⟨A,0,none⟩),.pointer (some ⟨B,0,none⟩)],.pointer (some ⟨B,0,none⟩)] w fun r w'=>r=.returned (.tuple #[])∧At w g base most (J++AQ (AE m.kind 128) X) a w':=by
 have HH:=hid (DA m.kind 128 zU w);have HCC:=hid HC;have HP:=hid h.pen;have y0:w.cell? ⟨B,0,none⟩=some (.int .i64 m.kind):=h.pb.cell 0;clear h HC;generalize AE m.kind 128=H at*;go_enter Tryz.func292,Tryz.ntmps292;go_wp2_with fail;refine HH.out.mono ?_;rintro r w1 ⟨rfl,hb1⟩;have HB:=hid hb1;clear hb1;cases H
 ·go_wp2_with fail
  first | go_end0 | refine Al (Ax rfl _ _ _) rfl ?_
  refine⟨rfl,?_⟩;have:=At.later HB.out (At.refl (HP.out.later HB.out));simpa [AQ] using this
 ·have HD:=hid (HCC.out rfl w1 HB.out)
  go_wp2_with fail;refine HD.out.mono ?_;rintro r w2 ⟨rfl,hst⟩;have HST:=hid (At.later HB.out hst);clear hst;go_wp2_with fail;first | go_end0 | refine Al (Ax rfl _ _ _) rfl ?_
  exact⟨rfl,HST.out⟩
theorem Yn(k:Int):Em k≤20:=by unfold Em;split<;>omega
theorem Abs{X:List UInt8}(hh:h=true):(AQ h X).length=X.length:=by rw[hh];rfl
theorem OI(w:World){g base most:Nat}{J:List UInt8}{a:Option Addr}(h:BQ w g base most J a c)(m:Msg)(a1:Option Addr)(c1:Nat)(a2:Option Addr)(c2:Nat)(a3:Option Addr)(c3:Nat)(a4:Option Addr)(c4:Nat)(hd:A9 (fun q=>q<w.heap.size∧¬Dr g a q) w m a1 c1 a2 c2 a3 c3 a4 c4)
 (hbk:∀x∈m.links,x.backs.length≤1000000) (hR:Gl m=true) (hfit:J.length+(D4 m).length≤most) (hln:J.length+(D4 m).length≤100000000000000):
  Calls Tryz.prog 234 #[.pointer (some ⟨g,0,none⟩),.agg Acq] w fun r w'=>r=.returned (.tuple #[])∧At w g base most (J++D4 m) a w':=by
 have hml:(D4 m).length=(AQ (AE m.kind 1) (Az m.pos.toNat)).length+(AQ (AE m.kind 2) (Az m.count.toNat)).length+(AQ (AE m.kind 4) ([UInt8.ofNat m.state.toNat])).length+(AQ (AE m.kind 8) (Dw m.streams)).length+(AQ (AE m.kind 16) (Ci m.pos m.links)).length+(AQ (Bw m.kind m.state) (Bk m.data)).length+(AQ (AE m.kind 64) (Dy m.sea)).length+(AQ (AE m.kind 128) (Dz m.proj)).length:=by simp only[D4,Ag]
 rw[hml] at hfit hln;have hmb:D4 m=AQ (AE m.kind 1) (Az m.pos.toNat)++AQ (AE m.kind 2) (Az m.count.toNat)++AQ (AE m.kind 4) ([UInt8.ofNat m.state.toNat])++AQ (AE m.kind 8) (Dw m.streams)++AQ (AE m.kind 16) (Ci m.pos m.links)++AQ (Bw m.kind m.state) (Bk m.data)++AQ (AE m.kind 64) (Dy m.sea)++AQ (AE m.kind 128) (Dz m.proj):=rfl;have HRT:=hid (fun (W:World) (hW:Below w.heap.size w W)=>Jh m a1 c1 a2 c2 a3 c3 a4 c4 W (A9.lift (A9.low hd) hW) (fun x hx=>zA5));rw[hR] at HRT;have HHD:=hid (fun (W:World)=>G6 m a1 c1 a2 c2 a3 c3 a4 c4 W);have HM:=hid (EB hR);have HBK:=hid hbk;have HP:=hid h;have HD:=hid hd;have HLT:=hid (fun q (hq:Dr g a q)=>(h.En hq).2);have hdl:=HM.out.data;clear h hd hR hbk hml;go_enter Tryz.func234,Tryz.ntmps234;go_wp2_with fail;refine (HRT.out _ zA).mono ?_;rintro r w1 ⟨rfl,hb1⟩;have hbw1:Below w.heap.size w w1:=zA;have hI1:GY w1 g base most J a c w.heap.size (w.heap.size+1) m a1 c1 a2 c2 a3 c3 a4 c4:=⟨HP.out.later hbw1,Blk.later ((Blk.newAt w 202 #[.pointer (some ⟨g,0,none⟩)] rfl).alloc _) hb1,Blk.later (Blk.newAt _ 45 #[.int .i64 m.kind,.int .u64 m.epoch,.int .u64 m.seq,.int .u64 m.pos,.int .i64 m.count,.int .i64 m.state,.slice a1 m.streams.length c1,.slice a2 m.links.length c2,.slice a3 m.data.length c3,.int .u64 m.sea.epoch,.int .u64 m.sea.node,.int .u64 m.sea.tail,.int .u64 m.proj.epoch,.slice a4 m.proj.stripes.length c4] zN) hb1,fun hf=>ZT,fun hf=>ZT,A9.tr (fun A cs x hx=>FI hbw1 hx) HD.out⟩;have HBW1:=hid hbw1;clear hb1 hbw1;have q1_0:w1.cell? ⟨w.heap.size,0,none⟩=some (.pointer (some ⟨g,0,none⟩)):=hI1.pa.cell 0;have HC1:=hid (RW hI1 (Az m.pos.toNat) (fun hh W hW=>Vh (hI1.later hW) (HM.out.pos hh) ZJ ZJ));have HI1:=hid hI1;clear hI1;go_wp2_with fail;refine HC1.out.mono ?_;rintro r w2 ⟨rfl,hst⟩;obtain⟨a2',c2',hI2,ht,ha⟩:=HI1.out.step hst;have HT1:=hid (And.intro ht ha);clear hst ht ha;have q2_0:w2.cell? ⟨w.heap.size,0,none⟩=some (.pointer (some ⟨g,0,none⟩)):=hI2.pa.cell 0;have HC2:=hid (RV hI2 (Az m.count.toNat) (fun hh W hW=>Pu (hI2.later hW) (HM.out.count hh) ZH ZH));have HI2:=hid hI2;clear hI2;go_wp2_with fail;refine HC2.out.mono ?_;rintro r w3 ⟨rfl,hst⟩;obtain⟨a3',c3',hI3,ht,ha⟩:=HI2.out.step hst;have HT2:=hid (And.intro ht ha);clear hst ht ha;have q3_0:w3.cell? ⟨w.heap.size,0,none⟩=some (.pointer (some ⟨g,0,none⟩)):=hI3.pa.cell 0;have HC3:=hid (RU hI3 ([UInt8.ofNat m.state.toNat]) (fun hh W hW=>Pr (hI3.later hW) zCf ZE ZE));have HI3:=hid hI3;clear hI3;go_wp2_with fail;refine HC3.out.mono ?_;rintro r w4 ⟨rfl,hst⟩;obtain⟨a4',c4',hI4,ht,ha⟩:=HI3.out.step hst;have HT3:=hid (And.intro ht ha);clear hst ht ha;have q4_0:w4.cell? ⟨w.heap.size,0,none⟩=some (.pointer (some ⟨g,0,none⟩)):=hI4.pa.cell 0;have HC4:=hid (RT hI4 (Dw m.streams) (fun hh W hW=>RS (hI4.later hW) (HM.out.streams hh) zA9 zA9));have HI4:=hid hI4;clear hI4;go_wp2_with fail;refine HC4.out.mono ?_;rintro r w5 ⟨rfl,hst⟩;obtain⟨a5',c5',hI5,ht,ha⟩:=HI4.out.step hst;have HT4:=hid (And.intro ht ha);clear hst ht ha;have q5_0:w5.cell? ⟨w.heap.size,0,none⟩=some (.pointer (some ⟨g,0,none⟩)):=hI5.pa.cell 0;have HC5:=hid (Pt hI5 (Ci m.pos m.links) (fun hh W hW=>Wa (hI5.later hW) HBK.out (HM.out.links hh) zA3 zA3));have HI5:=hid hI5;clear hI5;go_wp2_with fail;refine HC5.out.mono ?_;rintro r w6 ⟨rfl,hst⟩;obtain⟨a6',c6',hI6,ht,ha⟩:=HI5.out.step hst;have HT5:=hid (And.intro ht ha);clear hst ht ha;have q6_0:w6.cell? ⟨w.heap.size,0,none⟩=some (.pointer (some ⟨g,0,none⟩)):=hI6.pa.cell 0;have z6_0:w6.cell? ⟨w.heap.size+1,0,none⟩=some (.int .i64 m.kind):=hI6.pb.cell 0;have z6_1:w6.cell? ⟨w.heap.size+1,1,none⟩=some (.int .u64 m.epoch):=hI6.pb.cell 1;have z6_2:w6.cell? ⟨w.heap.size+1,2,none⟩=some (.int .u64 m.seq):=hI6.pb.cell 2;have z6_3:w6.cell? ⟨w.heap.size+1,3,none⟩=some (.int .u64 m.pos):=hI6.pb.cell 3;have z6_4:w6.cell? ⟨w.heap.size+1,4,none⟩=some (.int .i64 m.count):=hI6.pb.cell 4;have z6_5:w6.cell? ⟨w.heap.size+1,5,none⟩=some (.int .i64 m.state):=hI6.pb.cell 5;have z6_6:w6.cell? ⟨w.heap.size+1,6,none⟩=some (.slice a1 m.streams.length c1):=hI6.pb.cell 6;have z6_7:w6.cell? ⟨w.heap.size+1,7,none⟩=some (.slice a2 m.links.length c2):=hI6.pb.cell 7;have z6_8:w6.cell? ⟨w.heap.size+1,8,none⟩=some (.slice a3 m.data.length c3):=hI6.pb.cell 8;have z6_9:w6.cell? ⟨w.heap.size+1,9,none⟩=some (.int .u64 m.sea.epoch):=hI6.pb.cell 9;have z6_10:w6.cell? ⟨w.heap.size+1,10,none⟩=some (.int .u64 m.sea.node):=hI6.pb.cell 10;have z6_11:w6.cell? ⟨w.heap.size+1,11,none⟩=some (.int .u64 m.sea.tail):=hI6.pb.cell 11;have z6_12:w6.cell? ⟨w.heap.size+1,12,none⟩=some (.int .u64 m.proj.epoch):=hI6.pb.cell 12;have z6_13:w6.cell? ⟨w.heap.size+1,13,none⟩=some (.slice a4 m.proj.stripes.length c4):=hI6.pb.cell 13;have HI6:=hid hI6;clear hI6;go_wp2_with fail;refine (HHD.out _).mono ?_;rintro r v6 ⟨rfl,hb6⟩;have hJ6:=HI6.out.later hb6;clear z6_0 z6_1 z6_2 z6_3 z6_4 z6_5 z6_6 z6_7 z6_8 z6_9 z6_10 z6_11 z6_12 z6_13;have u6_0:v6.cell? ⟨w.heap.size,0,none⟩=some (.pointer (some ⟨g,0,none⟩)):=hJ6.pa.cell 0;have u6_8:v6.cell? ⟨w.heap.size+1,8,none⟩=some (.slice a3 m.data.length c3):=hJ6.pb.cell 8;have HK6:Hid (Bw m.kind m.state=true→Calls Tryz.prog 276 #[.pointer (some ⟨g,0,none⟩),.slice a3 m.data.length c3] v6 fun r w'=>r=.returned (.tuple #[])∧At v6 g base most (J++AQ (AE m.kind 1) (Az m.pos.toNat)++AQ (AE m.kind 2) (Az m.count.toNat)++AQ (AE m.kind 4) ([UInt8.ofNat m.state.toNat])++AQ (AE m.kind 8) (Dw m.streams)++AQ (AE m.kind 16) (Ci m.pos m.links)++Bk m.data) a6' w'):=hid (fun hh=>Qf v6 hJ6.pen m.data a3 _ c3 hJ6.data.data hdl zBa zBa);have HJ6:=hid hJ6;have HB6:=hid hb6;clear hJ6 hb6;go_upto_if 27 with (fail);go_cut [27] from 28 to 31 (fun s27 V=>∃a' c',GY V g base most (J++AQ (AE m.kind 1) (Az m.pos.toNat)++AQ (AE m.kind 2) (Az m.count.toNat)++AQ (AE m.kind 4) ([UInt8.ofNat m.state.toNat])++AQ (AE m.kind 8) (Dw m.streams)++AQ (AE m.kind 16) (Ci m.pos m.links)++AQ (Bw m.kind m.state) (Bk m.data)) a' c' w.heap.size (w.heap.size+1) m a1 c1 a2 c2 a3 c3 a4 c4∧Tch (Dr g a6') v6 V∧(a'.map Addr.block=a6'.map Addr.block∨∃q,a'.map Addr.block=some q∧v6.heap.size≤q))
 case first=>
  have HK:=HK6.out;have hq:Bw m.kind m.state=true∨Bw m.kind m.state=false:=by cases Bw m.kind m.state<;>simp
  rcases hq with hq | hq
  ·have HKK:=hid (HK hq)
   clear HK;rw[hq];go_wp2_with fail;refine HKK.out.mono ?_;rintro r x1 ⟨rfl,hst⟩;obtain⟨a',c',hI,ht,ha⟩:=HJ6.out.step hst;go_wp2_with fail;go_meet
   case rel=>exact ⟨a',c',by simpa [AQ,hq] using hI,ht,ha⟩
  ·clear HK
   rw[hq];go_wp2_with fail;go_meet
   case rel=>exact ⟨a6',c6',by simpa [AQ,hq] using HJ6.out,Tch.refl _ _,.inl rfl⟩
 case rest=>
 obtain⟨a7',c7',hI7,ht,ha⟩:=hcut;obtain⟨w7,hwn⟩:∃W:World,W=wc:=⟨_,rfl⟩;subst hwn;have HT6:=hid (And.intro ht ha);clear ht ha;have q7_0:w7.cell? ⟨w.heap.size,0,none⟩=some (.pointer (some ⟨g,0,none⟩)):=hI7.pa.cell 0;have HC7:=hid (Ps hI7 (Dy m.sea) (fun hh W hW=>XJ (hI7.later hW) (HM.out.seal_ hh) zBc zBc));have HI7:=hid hI7;clear hI7;go_wp2_with fail;refine HC7.out.mono ?_;rintro r w8 ⟨rfl,hst⟩;obtain⟨a8',c8',hI8,ht,ha⟩:=HI7.out.step hst;have HT7:=hid (And.intro ht ha);clear hst ht ha;have q8_0:w8.cell? ⟨w.heap.size,0,none⟩=some (.pointer (some ⟨g,0,none⟩)):=hI8.pa.cell 0;have HC8:=hid (NX hI8 (Dz m.proj) (fun hh W hW=>XK (hI8.later hW) (HM.out.proj hh) zBb zBb));have HI8:=hid hI8;clear hI8;go_wp2_with fail;refine HC8.out.mono ?_;rintro r w9 ⟨rfl,hst⟩;obtain⟨a9',c9',hI9,ht,ha⟩:=HI8.out.step hst;have HT8:=hid (And.intro ht ha);clear hst ht ha;have hn:=At.refl hI9.pen;have hn:=At.trans (J:=J) HT8.out.1 HT8.out.2 hn;have hn:=At.trans (J:=J) HT7.out.1 HT7.out.2 hn;have hn:=At.trans (J:=J) HT6.out.1 HT6.out.2 hn;have hn:=At.later HB6.out hn;have hn:=At.trans (J:=J) HT5.out.1 HT5.out.2 hn;have hn:=At.trans (J:=J) HT4.out.1 HT4.out.2 hn;have hn:=At.trans (J:=J) HT3.out.1 HT3.out.2 hn;have hn:=At.trans (J:=J) HT2.out.1 HT2.out.2 hn;have hn:=At.trans (J:=J) HT1.out.1 HT1.out.2 hn;have hn:=At.later HBW1.out hn;have HST:=hid hn;clear hn hI9;go_wp2_with fail;first | go_end0 | refine Al (Ax rfl _ _ _) rfl ?_
 refine⟨rfl,?_⟩;have:=HST.out;rw[hmb];simpa only[Ao] using this
theorem Q8(w:World){g most:Nat}(h:BQ w g base most J a c)(m:Msg)(a1:Option Addr)(c1:Nat)(a2:Option Addr)(c2:Nat)(a3:Option Addr)(c3:Nat)(a4:Option Addr)(c4:Nat)(hd:A9 (·<w.heap.size) w m a1 c1 a2 c2 a3 c3 a4 c4)
 (hbk:∀x∈m.links,x.backs.length≤1000000) (hR:Gl m=false):
  Calls Tryz.prog 234 #[.pointer (some ⟨g,0,none⟩),.agg Acq] w fun r w'=>r=.returned (.tuple #[])∧Blk w' g 276 #[.int .i64 most,.slice a J.length c,.int .i64 3]∧Tch (·=g) w w':=by
 have HRT:=hid (fun (W:World) (hW:Below w.heap.size w W)=>Jh m a1 c1 a2 c2 a3 c3 a4 c4 W (A9.lift hd hW) (fun x hx=>zA5));rw[hR] at HRT;have HF:=hid (fun (W:World) (hW:Below w.heap.size w W)=>R5 W (h.later hW) 3);clear h hd hR hbk;go_enter Tryz.func234,Tryz.ntmps234;go_wp2_with fail;refine (HRT.out _ zA).mono ?_;rintro r w1 ⟨rfl,hb1⟩;have hbw1:Below w.heap.size w w1:=zA;have p0:=hb1.cell (p:=⟨w.heap.size,0,none⟩) zH;simp at p0;clear hb1;go_wp2_with fail;refine (HF.out _ hbw1).mono ?_;rintro r w2 ⟨rfl,hB2,hT2⟩;have HB2:=hid hB2;have HT2:=hid hT2;clear hB2 hT2 p0;go_wp2_with fail;first | go_end0 | refine Al (Ax rfl _ _ _) rfl ?_
 exact⟨rfl,HB2.out,Tch.trans (F:=(·=g)) (Tch.Cx hbw1) HT2.out (fun _ _ h=>h)⟩
def GH(m:Msg):List UInt8 × Int:=if Gl m=true then (D4 m,0) else ([],3)
theorem UP(w:World)(m:Msg)(a1:Option Addr)(c1:Nat)(a2:Option Addr)(c2:Nat)(a3:Option Addr)(c3:Nat)(a4:Option Addr)(c4:Nat)(hd:A9 (·<w.heap.size) w m a1 c1 a2 c2 a3 c3 a4 c4)(hbk:∀x∈m.links,x.backs.length≤1000000)(hln:m.data.length≤10000000000):
  Calls Tryz.prog 159 #[.agg Acq] w fun r w'=>∃v,r=.returned (.tuple #[v,.int .i64 (GH m).2])∧Ah.r (fun q=>w.heap.size≤q∧q<w'.heap.size) w' [v] (GH m).1∧Below w.heap.size w w':=by
 have HD:=hid hd;have hmo:(65536:Int)+(m.data.length:Int)=((65536+m.data.length:Nat):Int):=zD;have HN:=hid (fun W:World=>(by have:=I2 W (65536+m.data.length) zD;rw[←hmo] at this;exact this:Calls Tryz.prog 160 #[.int .i64 ((65536:Int)+(m.data.length:Int))] W fun r w'=>r=.returned (.pointer (some ⟨W.heap.size,0,none⟩))∧BQ w' W.heap.size W.heap.size (65536+m.data.length) [] none 0∧Below W.heap.size W w'));unfold GH;have HBX:Hid (Blk (w.alloc (.cells Acq 45)) w.heap.size 45 Acq):=hid (Blk.new w _ _);have hb0:Below w.heap.size w (w.alloc (.cells Acq 45)):=zB;cases hR:Gl m
 ·rw[Ak zN]
  have HPT:=hid (fun (W:World) {g base most:Nat} {a:Option Addr} {c:Nat} (h:BQ W g base most [] a c) (hW:Below w.heap.size w W)=>Q8 W h m a1 c1 a2 c2 a3 c3 a4 c4 (A9.lift HD.out hW) hbk hR);clear hd hR hbk hmo;go_enter Tryz.func159,Tryz.ntmps159;go_wp2_with fail;generalize w.alloc (.cells Acq 45)=w0 at*;refine (HN.out _).mono ?_;rintro r w2 ⟨rfl,hp2,hb2⟩;have hB2:=HBX.out.later hb2;have y0:w2.cell? ⟨w.heap.size,0,none⟩=some (.int .i64 m.kind):=hB2.cell 0;have y1:w2.cell? ⟨w.heap.size,1,none⟩=some (.int .u64 m.epoch):=hB2.cell 1;have y2:w2.cell? ⟨w.heap.size,2,none⟩=some (.int .u64 m.seq):=hB2.cell 2;have y3:w2.cell? ⟨w.heap.size,3,none⟩=some (.int .u64 m.pos):=hB2.cell 3;have y4:w2.cell? ⟨w.heap.size,4,none⟩=some (.int .i64 m.count):=hB2.cell 4;have y5:w2.cell? ⟨w.heap.size,5,none⟩=some (.int .i64 m.state):=hB2.cell 5;have y6:w2.cell? ⟨w.heap.size,6,none⟩=some (.slice a1 m.streams.length c1):=hB2.cell 6;have y7:w2.cell? ⟨w.heap.size,7,none⟩=some (.slice a2 m.links.length c2):=hB2.cell 7;have y8:w2.cell? ⟨w.heap.size,8,none⟩=some (.slice a3 m.data.length c3):=hB2.cell 8;have y9:w2.cell? ⟨w.heap.size,9,none⟩=some (.int .u64 m.sea.epoch):=hB2.cell 9;have y10:w2.cell? ⟨w.heap.size,10,none⟩=some (.int .u64 m.sea.node):=hB2.cell 10;have y11:w2.cell? ⟨w.heap.size,11,none⟩=some (.int .u64 m.sea.tail):=hB2.cell 11;have y12:w2.cell? ⟨w.heap.size,12,none⟩=some (.int .u64 m.proj.epoch):=hB2.cell 12;have y13:w2.cell? ⟨w.heap.size,13,none⟩=some (.slice a4 m.proj.stripes.length c4):=hB2.cell 13;have hbw2:=Af hb2 hb0;have hs1:=hb0.size;have HP2:=hid (HPT.out w2 hp2 hbw2);clear hp2 hB2;go_wp2_with fail;refine HP2.out.mono ?_;rintro r w3 ⟨rfl,hB3,hT3⟩;have hbw3:Below w.heap.size w w3:=hbw2.trans (hT3.Cw hbw2.size (fun q _ e=>zD));have HB:=hid (OU w3 (k:=3) zD hB3);clear hB3 hT3 y0 y1 y2 y3 y4 y5 y6 y7 y8 y9 y10 y11 y12 y13;go_wp2_with fail;refine HB.out.mono ?_;rintro r w4 ⟨rfl,rfl⟩;go_wp2_with fail;go_ret2
  exact⟨_,rfl,G4 rfl rfl zD,hbw3⟩
 ·rw[Ai rfl]
  have hbl:=IF hR;have HPT:=hid (fun (W:World) {g base most:Nat} {a:Option Addr} {c:Nat} (h:BQ W g base most [] a c) (hW:A9 (fun q=>q<W.heap.size∧¬Dr g a q) W m a1 c1 a2 c2 a3 c3 a4 c4) (hf:(D4 m).length≤most)=>OI W h m a1 c1 a2 c2 a3 c3 a4 c4 hW hbk hR (by simpa using hf) zH);have hfit:(D4 m).length≤65536+m.data.length:=zD;generalize D4 m=K at*;clear hd hR hbk hmo hbl;go_enter Tryz.func159,Tryz.ntmps159;go_wp2_with fail;generalize w.alloc (.cells Acq 45)=w0 at*;refine (HN.out _).mono ?_;rintro r w2 ⟨rfl,hp2,hb2⟩;have hB2:=HBX.out.later hb2;have y0:w2.cell? ⟨w.heap.size,0,none⟩=some (.int .i64 m.kind):=hB2.cell 0;have y1:w2.cell? ⟨w.heap.size,1,none⟩=some (.int .u64 m.epoch):=hB2.cell 1;have y2:w2.cell? ⟨w.heap.size,2,none⟩=some (.int .u64 m.seq):=hB2.cell 2;have y3:w2.cell? ⟨w.heap.size,3,none⟩=some (.int .u64 m.pos):=hB2.cell 3;have y4:w2.cell? ⟨w.heap.size,4,none⟩=some (.int .i64 m.count):=hB2.cell 4;have y5:w2.cell? ⟨w.heap.size,5,none⟩=some (.int .i64 m.state):=hB2.cell 5;have y6:w2.cell? ⟨w.heap.size,6,none⟩=some (.slice a1 m.streams.length c1):=hB2.cell 6;have y7:w2.cell? ⟨w.heap.size,7,none⟩=some (.slice a2 m.links.length c2):=hB2.cell 7;have y8:w2.cell? ⟨w.heap.size,8,none⟩=some (.slice a3 m.data.length c3):=hB2.cell 8;have y9:w2.cell? ⟨w.heap.size,9,none⟩=some (.int .u64 m.sea.epoch):=hB2.cell 9;have y10:w2.cell? ⟨w.heap.size,10,none⟩=some (.int .u64 m.sea.node):=hB2.cell 10;have y11:w2.cell? ⟨w.heap.size,11,none⟩=some (.int .u64 m.sea.tail):=hB2.cell 11;have y12:w2.cell? ⟨w.heap.size,12,none⟩=some (.int .u64 m.proj.epoch):=hB2.cell 12;have y13:w2.cell? ⟨w.heap.size,13,none⟩=some (.slice a4 m.proj.stripes.length c4):=hB2.cell 13;have hbw2:=Af hb2 hb0;have hs1:=hb0.size;have HPA:=hid hp2;have HP2:=hid (HPT.out w2 hp2 (A9.tr (fun A cs x hx=>A.mono (A.keep hx fun q hq=>hbw2.block q hq) fun q hq=>⟨by have:=hbw2.size;omega,fun hf=>zBy⟩) HD.out) hfit);clear hp2 hB2;go_wp2_with fail;refine HP2.out.mono ?_;rintro r w3 ⟨rfl,hst⟩;rw[AV] at hst;have hbw3:Below w.heap.size w w3:=hbw2.trans (HPA.out.below hs1 hbw2.size hst);obtain⟨a9,c9,hp3,_,_⟩:=hst;have HB:=hid (Hb w3 hp3);have hs3:=hbw3.size;clear hp3 y0 y1 y2 y3 y4 y5 y6 y7 y8 y9 y10 y11 y12 y13;go_wp2_with fail;refine HB.out.mono ?_;rintro r w4 ⟨v,rfl,hv,hb4⟩;have hbe:=Af hb4 hbw3;have HV:=hid (Ah.mono (S':=fun q=>w.heap.size≤q∧q<w4.heap.size) hv fun q hq=>⟨zY,hq.2⟩);clear hv;go_wp2_with fail;go_ret2
  exact⟨_,rfl,HV.out,hbe⟩
open Go.RowKit Go.Bs
def PH{α:Type}(K:Nat)(p:α→Bool)(l:List α):Bool:=decide (K<l.length) || (l.take K).any p
def Fe{α:Type}(K:Nat)(p:α→Bool)(l:List α)(k:Nat):Bool:=decide (K<l.length) || ((l.take K).drop k).any p
theorem Lf{α:Type}{K:Nat}{p:α→Bool}{l:List α}(h:PH K p l=false):l.length≤K∧∀x∈l,p x=false:=by
 simp only[PH,Bool.or_eq_false_iff,decide_eq_false_iff_not,List.any_eq_false] at h;obtain⟨h1,h2⟩:=h;rw[CF zD] at h2;exact⟨zD,fun x hx=>by simpa using h2 x hx⟩
theorem G2{α:Type}(K:Nat)(p:α→Bool)(l:List α)(k:Nat)(h:k<l.length)(h2:k<K):Fe K p l k=(p l[k] || Fe K p l (k+1)):=by
 unfold Fe;have e:(l.take K)[k]'zH=l[k]:=zN;rw[AS (show k<(l.take K).length by simp;omega),List.any_cons,e];cases decide (K<l.length)<;>cases p l[k]<;>simp
theorem Aa7{α:Type}(K:Nat)(p:α→Bool)(l:List α)(k:Nat)(h:l.length≤k∨K≤k):Fe K p l k=decide (K<l.length):=by
 unfold Fe;rw[List.drop_of_length_le zH];simp
def Ja(l:List BH):Bool:=PH 50 (fun x=>decide (50<x.backs.length)) l
theorem Ug(l:List BH)(a:Option Addr)(n c:Nat)(w:World)(hl:Cm.r (·<w.heap.size) w [.slice a n c] l):
  Calls Tryz.prog 118 #[.slice a n c] w fun r w'=>r=.returned (.bool (Ja l))∧Below w.heap.size w w':=by
 obtain⟨rfl,hm,_,_⟩:=AT hl;have HL:=hid hl;clear hl;go_enter Tryz.func118,Tryz.ntmps118;go_wp2_with fail;go_loop [3] (fun i=>∃k:Nat,k≤l.length∧k≤50∧i=.int .i64 k∧Hid (Ja l=Fe 50 (fun x=>decide (50<x.backs.length)) l k)) (fun i=>l.length-(intOf i).toNat)
 case atStart=>exact ⟨0,Am _,Am _,rfl,hid rfl⟩
 case round=>
  obtain⟨k,hk,hk2,rfl,hf⟩:=hrel;by_cases hlt:k<l.length
  ·by_cases h450:k<50
   ·obtain⟨b,o,hA,hbb,a1,c1,X0,X1,_,_⟩:=EK HL.out hlt
    subst hA;have hst:=hid (G2 50 (fun x=>decide (50<x.backs.length)) l k hlt h450);generalize l[k]=x at*;generalize x.stream=xs at*;generalize x.backs.length=n1 at*;by_cases h3:50<n1
    ·have hff:Hid (Ja l=true):=hid zA4
     have d3:decide ((50:Int)<(n1:Int))=true:=zH;clear h3;go_wp2;go_ret;exact⟨zM,zB⟩
    ·have hff:Hid (Ja l=Fe 50 (fun x=>decide (50<x.backs.length)) l (k+1)):=hid zA4
     have d3:decide ((50:Int)<(n1:Int))=false:=zH;clear h3;go_wp2;go_round
     case rel=>exact ⟨k+1,zD,zD,zV,hff⟩
     case measure=>simp [intOf];omega
   ·have hff:Hid (Ja l=decide ((50:Int)<(l.length:Int))):=hid ZM
    go_wp2;go_ret;exact⟨zM,zB⟩
  ·have hff:Hid (Ja l=decide ((50:Int)<(l.length:Int))):=hid ZN
   go_wp2;go_ret;exact⟨zM,zB⟩
def Hs(l:List (List Int)):Bool:=PH 20 (fun x=>decide (20<x.length)) l
def Jb(l:List BV):Bool:=PH 70 (fun x=>Hs x.sets) l
def Iw(m:Msg):Bool:=decide (50<m.streams.length) || (Ja m.links || (decide (300<m.data.length) || Jb m.proj.stripes))
structure Aag(m:Msg):Prop where
 streams:m.streams.length≤50
 links:m.links.length≤50
 backs:∀x∈m.links,x.backs.length≤50
 data:m.data.length≤300
 stripes:m.proj.stripes.length≤70
 sets:∀s∈m.proj.stripes,s.sets.length≤20∧∀x∈s.sets,x.length≤20
theorem Wl(h:Iw m=false):Aag m:=by
 simp only[Iw,Bool.or_eq_false_iff,decide_eq_false_iff_not] at h;obtain⟨h1,h2,h3,h4⟩:=h;obtain⟨l1,l2⟩:=Lf h2;obtain⟨s1,s2⟩:=Lf h4;refine⟨zD,l1,fun x hx=>by have:=l2 x hx;simp only[decide_eq_false_iff_not] at this;omega,zD,s1,fun s hs=> ?_⟩;obtain⟨t1,t2⟩:=Lf (s2 s hs);exact⟨t1,fun x hx=>by have:=t2 x hx;simp only[decide_eq_false_iff_not] at this;omega⟩
theorem Ui(lo hp:Int)(l:List (List Int))(a:Option Addr)(n c:Nat)(w:World)(hl:EH.r (·<w.heap.size) w [.slice a n c] l):
  Calls Tryz.prog 179 #[.agg #[.int .u64 lo,.int .u64 hp,.slice a n c]] w fun r w'=>r=.returned (.bool (Hs l))∧Below w.heap.size w w':=by
 obtain⟨rfl,hm,_,_⟩:=AT hl;have hb0:Below w.heap.size w (w.alloc (.cells #[.int .u64 lo,.int .u64 hp,.slice a l.length c] 219)):=zB;have x2:(w.alloc (.cells #[.int .u64 lo,.int .u64 hp,.slice a l.length c] 219)).cell? ⟨w.heap.size,2,none⟩=some (.slice a l.length c):=zN;go_enter Tryz.func179,Tryz.ntmps179;go_wp2_with fail;generalize w.alloc (.cells #[.int .u64 lo,.int .u64 hp,.slice a l.length c] 219)=w0 at*;have HL:=hid (lift hl hb0);clear hl;go_loop [3] (fun i=>∃k:Nat,k≤l.length∧k≤20∧i=.int .i64 k∧Hid (Hs l=Fe 20 (fun x=>decide (20<x.length)) l k)) (fun i=>l.length-(intOf i).toNat)
 case atStart=>exact ⟨0,Am _,Am _,rfl,hid rfl⟩
 case round=>
  obtain⟨k,hk,hk2,rfl,hf⟩:=hrel;by_cases hlt:k<l.length
  ·have i1:(k:Int)<(l.length:Int):=by omega
   have e1:decide ((k:Int)<(l.length:Int))=true:=Ad i1;by_cases h20:k<20
   ·have e2:decide ((k:Int)<20)=true:=Ad zD
    obtain⟨b,o,hA,hbb,ak,ck,X0,_⟩:=GQ HL.out hlt;subst hA;have hst:=hid (G2 20 (fun x=>decide (20<x.length)) l k hlt h20);generalize l[k]=x at*;generalize x.length=n1 at*;by_cases h3:20<n1
    ·have hff:Hid (Hs l=true):=hid zA4
     have d3:decide ((20:Int)<(n1:Int))=true:=Ad zD;clear h3;go_wp2_with fail;go_ret;exact⟨zM,hb0⟩
    ·have hff:Hid (Hs l=Fe 20 (fun x=>decide (20<x.length)) l (k+1)):=hid zA4
     have d3:decide ((20:Int)<(n1:Int))=false:=Ae zD;clear h3;go_wp2_with fail;go_round
     case rel=>exact ⟨k+1,zD,zD,zV,hff⟩
     case measure=>(simp[intOf];try omega)
   ·have e2:decide ((k:Int)<20)=false:=Ae zD
    have hff:Hid (Hs l=decide ((20:Int)<(l.length:Int))):=hid ZM;go_wp2_with fail;go_ret;exact⟨zM,hb0⟩
  ·have e1:decide ((k:Int)<(l.length:Int))=false:=Ae zD
   have hff:Hid (Hs l=decide ((20:Int)<(l.length:Int))):=hid ZN;go_wp2_with fail;go_ret;exact⟨zM,hb0⟩
theorem Uh(ep:Int)(l:List BV)(a:Option Addr)(n c:Nat)(w:World)(hl:Bq.r (·<w.heap.size) w [.slice a n c] l):
  Calls Tryz.prog 119 #[.agg #[.int .u64 ep,.slice a n c]] w fun r w'=>r=.returned (.bool (Jb l))∧Below w.heap.size w w':=by
 obtain⟨rfl,hm,_,_⟩:=AT hl;have hb0:Below w.heap.size w (w.alloc (.cells #[.int .u64 ep,.slice a l.length c] 43)):=zB;have x1:(w.alloc (.cells #[.int .u64 ep,.slice a l.length c] 43)).cell? ⟨w.heap.size,1,none⟩=some (.slice a l.length c):=zN;have hs0:w.heap.size<(w.alloc (.cells #[.int .u64 ep,.slice a l.length c] 43)).heap.size:=zN;go_enter Tryz.func119,Tryz.ntmps119;go_wp2_with fail;generalize w.alloc (.cells #[.int .u64 ep,.slice a l.length c] 43)=w0 at*;have HL:=hid (lift hl hb0);have HB0:=hid hb0;clear hl hb0;go_loopw [3] (fun i wr=>∃k:Nat,k≤l.length∧k≤70∧i=.int .i64 k∧Hid (Jb l=Fe 70 (fun x=>Hs x.sets) l k)∧Below w0.heap.size w0 wr) (fun i _=>l.length-(intOf i).toNat)
 case atStart=>exact ⟨0,Am _,Am _,rfl,hid rfl,Below.refl _ _⟩
 case round=>
  obtain⟨k,hk,hk2,rfl,hf,hb⟩:=hrel;have X1:=(hb.cell (p:=⟨w.heap.size,1,none⟩) hs0).trans x1;have HBE:=hid (HB0.out.trans (hb.mono HB0.out.size));by_cases hlt:k<l.length
  ·have i1:(k:Int)<(l.length:Int):=by omega
   have e1:decide ((k:Int)<(l.length:Int))=true:=Ad i1;by_cases h20:k<70
   ·have e2:decide ((k:Int)<70)=true:=Ad zD
    obtain⟨b,o,hA,hbb,ak,ck,u0,u1,u2,_,_,xl⟩:=Ge (lift HL.out hb) hlt;subst hA;have hst:=hid (G2 70 (fun x=>Hs x.sets) l k hlt h20);have HC:=hid (Ui l[k].lo l[k].hi l[k].sets ak _ ck wr xl);have HB:=hid hb;clear xl hb;generalize l[k]=x at*
    (try dsimp only at hst)
    cases h3:Hs x.sets
    ·have hff:Hid (Jb l=Fe 70 (fun x=>Hs x.sets) l (k+1)):=hid (by rw[hf.out,hst.out,h3];simp)
     rw[h3] at HC;clear h3;go_wp2_with fail;refine HC.out.mono ?_;rintro r w3 ⟨rfl,hb3⟩;have hbe:=Af hb3 HB.out;go_wp2_with fail;go_roundw
     case rel=>exact ⟨k+1,zD,zD,zV,hff,hbe⟩
     case measure=>(simp[intOf];try omega)
    ·have hff:Hid (Jb l=true):=hid (by rw[hf.out,hst.out,h3];rfl)
     rw[h3] at HC;clear h3;go_wp2_with fail;refine HC.out.mono ?_;rintro r w3 ⟨rfl,hb3⟩;have hbe:=Af hb3 HBE.out;go_wp2_with fail;go_ret;exact⟨zM,hbe⟩
   ·have e2:decide ((k:Int)<70)=false:=Ae zD
    have hff:Hid (Jb l=decide ((70:Int)<(l.length:Int))):=hid ZM;clear hb;go_wp2_with fail;go_ret;exact⟨zM,HBE.out⟩
  ·have e1:decide ((k:Int)<(l.length:Int))=false:=Ae zD
   have hff:Hid (Jb l=decide ((70:Int)<(l.length:Int))):=hid ZN;clear hb;go_wp2_with fail;go_ret;exact⟨zM,HBE.out⟩
theorem Uf(m:Msg)(a1:Option Addr)(c1:Nat)(a2:Option Addr)(c2:Nat)(a3:Option Addr)(c3:Nat)(a4:Option Addr)(c4:Nat)(w:World)(hm:A9 (·<w.heap.size) w m a1 c1 a2 c2 a3 c3 a4 c4):
  Calls Tryz.prog 68 #[.agg Acq] w fun r w'=>r=.returned (.bool (Iw m))∧Below w.heap.size w w':=by
 have H23:=hid (fun (W:World) (hW:Below w.heap.size w W)=>Ug m.links a2 _ c2 W (lift hm.links hW));have H20:=hid (fun (W:World) (hW:Below w.heap.size w W)=>Uh m.proj.epoch m.proj.stripes a4 _ c4 W (lift hm.stripes hW));have hl:Iw m=(decide (50<m.streams.length) || (Ja m.links || (decide (300<m.data.length) || Jb m.proj.stripes))):=rfl;have HBX:Hid (Blk (w.alloc (.cells Acq 45)) w.heap.size 45 Acq):=hid (Blk.new w _ _);have hb0:Below w.heap.size w (w.alloc (.cells Acq 45)):=zB;generalize Iw m=L at*;clear hm;by_cases h1:50<m.streams.length
 ·have d1:decide ((50:Int)<(m.streams.length:Int))=true:=Ad zD
  have hff:Hid (L=true):=hid (by rw[hl,Ad h1];rfl);clear hl h1;go_enter Tryz.func68,Tryz.ntmps68;go_wp2_with fail;go_ret;exact⟨zM,hb0⟩
 ·have d1:decide ((50:Int)<(m.streams.length:Int))=false:=Ae zD
  rw[Ae h1,Bool.false_or] at hl;clear h1;go_enter Tryz.func68,Tryz.ntmps68;go_wp2_with fail;generalize w.alloc (.cells Acq 45)=w0 at*;refine (H23.out _ hb0).mono ?_;rintro r w1 ⟨rfl,hb1⟩;have hb01:=Af hb1 hb0;cases h2:Ja m.links
  ·have X1:=hid (HBX.out.later hb1)
   have y8:w1.cell? ⟨w.heap.size,8,none⟩=some (.slice a3 m.data.length c3):=X1.out.cell 8;have y12:w1.cell? ⟨w.heap.size,12,none⟩=some (.int .u64 m.proj.epoch):=X1.out.cell 12;have y13:w1.cell? ⟨w.heap.size,13,none⟩=some (.slice a4 m.proj.stripes.length c4):=X1.out.cell 13;rw[h2,Bool.false_or] at hl;clear h2;by_cases h3:300<m.data.length
   ·have d3:decide ((300:Int)<(m.data.length:Int))=true:=Ad zD
    have hff:Hid (L=true):=hid (by rw[hl,Ad h3];rfl);clear hl h3;go_wp2_with fail;go_ret;exact⟨zM,hb01⟩
   ·have d3:decide ((300:Int)<(m.data.length:Int))=false:=Ae zD
    have hff:Hid (L=Jb m.proj.stripes):=hid (by rw[hl,Ae h3];rfl);clear hl h3;go_wp2_with fail;refine (H20.out _ hb01).mono ?_;rintro r w2 ⟨rfl,hb2⟩;have hbe:=Af hb2 hb01;go_wp2_with fail;go_ret;exact⟨zM,hbe⟩
  ·have hff:Hid (L=true):=hid (by rw[hl,h2];rfl)
   clear hl h2;go_wp2_with fail;go_ret;exact⟨zM,hb01⟩
def El:Msg:=⟨0,0,0,0,0,0,[],[],[],⟨0,0,0⟩,⟨0,[]⟩⟩
theorem T5(hk:inI m.kind)(he:inU m.epoch)(hs:inU m.seq)(hp:inU m.pos)(hc:inI m.count)(ht:inI m.state)(h1:m.streams=[])(h2:m.links=[])(h3:m.data=[])(h4:inU m.sea.epoch∧inU m.sea.node∧inU m.sea.tail)(h5:inU m.proj.epoch)(h6:m.proj.stripes=[]):A9 S w m none 0 none 0 none 0 none 0:=by
 refine⟨hk,he,hs,hp,hc,ht,h4.1,h4.2.1,h4.2.2,h5,?_,?_,?_,?_⟩
 ·rw[h1];exact Bt (xs:=[]) rfl (Am _) (Am _) (.inl rfl)
 ·rw[h2];exact Bt (xs:=[]) rfl (Am _) (Am _) (.inl rfl)
 ·rw[h3];exact Bt (xs:=[]) rfl (Am _) (Am _) (.inl rfl)
 ·rw[h6];exact Bt (xs:=[]) rfl (Am _) (Am _) (.inl rfl)
theorem Rs.NS:∀(l:List Int) (prev:Option Int) (p:Nat) (out:List Int),(prev=none∧out=[]∨∃q,prev=some q∧0≤q∧out≠[]∧out.getLastD 0=q∧∀x∈l.head?,q<x)→Bj l=true→(∀x∈l,0≤x∧x≤18446744073709551615)→B.drop p=CG (D9 prev l)++rest→p≤B.length→
  Rs.EA B l.length ⟨p,0,0⟩ out=(⟨p+(CG (D9 prev l)).length,0,0⟩,out++l)
 | [],prev,p,out,_,_,_,_,_=>by simp[Rs.EA,D9,CG]
 | x::l,prev,p,out,hp,hr,hx,h,hl=>by
  have h0:=hx x zN;have hr2:Bj l=true:=by
   cases l with
   | nil=>rfl
   | cons y l=>simp only[Bj,Aq] at hr;exact hr.2
  have hnx:∀y∈l.head?,x<y:=by
   cases l with
   | nil=>simp
   | cons y l=>simp only[Bj,Aq,Av] at hr;intro z hz;simp at hz;subst hz;exact hr.1
  simp only[D9] at h ⊢;rw[Eh,Ao] at h;have hd:=Br h;have hro:=Bl h hl;have hrec:=Rs.NS l (some x) _ (out++[x]) (.inr ⟨x,rfl,h0.1,zN,zN,hnx⟩) hr2 (fun y hy=>hx y (by simp[hy])) hd zD;simp only[AO,Rs.EA];rcases hp with ⟨rfl,rfl⟩ | ⟨q,rfl,hq0,hne,hq,hlt⟩
  ·dsimp only at h hrec ⊢
   have hN:=Rs.DR (x:=x.toNat) zD h;rw[hN];dsimp only;rw[Ai rfl,Ak (fun h=>h.1 rfl),Ai rfl,toNat_cast h0.1,hrec,Eh,Ag];simp[Bu]
  ·have hqx:q<x:=hlt x zN
   dsimp only at h hrec ⊢;have hN:=Rs.DR (x:=(x-q-1).toNat) zD h;rw[hN];dsimp only;rw[Ai rfl,hq,toNat_cast zD,Ak zD,Ak hne,show x-q-1+(q+1)=x by omega,hrec,Eh,Ag];simp[Bu]
theorem Rs.Aap{l:List Int}{O:List (List Int)}(hn:Dx l=true)(ha:Dq l O=true)(hx:∀x∈l,0≤x∧x≤18446744073709551615)(h:B.drop p=Dw l++rest)(hp:p≤B.length):
  (⟨p,0,0⟩:Rs).Fb B O=(⟨p+(Dw l).length,0,0⟩,l):=by
 unfold Dx at hn;simp only[Aq,Av] at hn;obtain⟨⟨h1,h8⟩,hr,hla⟩:=hn;unfold Dw GO at h ⊢;rw[Ao] at h;have hi:=Rs.FT (m:=8) zD h zD;have hd:=Br h;have hro:=Bl h hp;have hR:=Rs.NS l none _ [] (.inl ⟨rfl,rfl⟩) hr hx hd zD;unfold Rs.Fb Rs.many;rw[hi];dsimp only;rw[Ak (show ¬l.length=0 by omega),hR];dsimp only;rw[AV,Ai rfl,Ak (show ¬4294967295<l.getLastD 0 by omega),Ai ha,Ag,Bu]
theorem NI{L:List (List Int)}:∀n,BR L n=true→∀i,i<n→Iv L i=true
 | 0,_,i,hi=>absurd hi zD
 | n+1,h,i,hi=>by
  unfold BR at h;rw[Aq] at h;by_cases e:i=n
  ·subst e;exact h.2
  ·exact NI n h.1 i zD
theorem Rs.Ru:∀(l out:List (List Int)) (p:Nat),(∀i,out.length≤i→i<(out++l).length→Iv (out++l) i=true)→(∀x∈l,∀y∈x,0≤y∧y≤18446744073709551615)→B.drop p=Ey l++rest→p≤B.length→
  Rs.Ek B l.length ⟨p,0,0⟩ out=(⟨p+(Ey l).length,0,0⟩,out++l)
 | [],out,p,_,_,_,_=>by simp[Rs.Ek,Ey]
 | x::l,out,p,hs,hx,h,hp=>by
  have h1:=hs out.length (An _) zN;unfold Iv at h1;rw[show (out++x::l).getD out.length []=x by simp[IK],List.take_left,Aq] at h1;have e:Ey (x::l)=Dw x++Ey l:=by simp[Ey]
  rw[e,Ao] at h;have hS:=Rs.Aap h1.1 h1.2 (hx x zN) h hp;have hd:=Br h;have hro:=Bl h hp;have e2:out++x::l=(out++[x])++l:=zN;have hrec:=Rs.Ru l (out++[x]) _ (fun i h1 h2=>by rw[←e2];rw[←e2] at h2;exact hs i (by rw[Ag] at h1;omega) h2) (fun z hz=>hx z (by simp[hz])) hd zD;simp only[AO,Rs.Ek];rw[hS];dsimp only;rw[Ai rfl,hrec,e,e2,Ag,Bu]
theorem Rs.Kt{s:BV}(hr:Dc s=true)(h0:0≤s.lo)(hx:∀x∈s.sets,∀y∈x,0≤y∧y≤18446744073709551615)(h:B.drop p=CY s++rest)(hp:p≤B.length):
  (⟨p,0,0⟩:Rs).BB B s.lo=(⟨p+(CY s).length,0,0⟩,s):=by
 obtain⟨lo,hi,sets⟩:=s;unfold Dc at hr;simp only[Aq,Av] at hr;obtain⟨⟨a1,a2,a3,a4⟩,a5⟩:=hr;dsimp only at*;unfold CY at h ⊢;dsimp only at h ⊢;rw[Ao,Ao] at h;have hN:=Rs.DR (x:=(hi-lo-1).toNat) zD h;have hd:=Br h;have hro:=Bl h hp;have hI:=Rs.FT (m:=8) (x:=sets.length) zD hd zD;have hd2:=Br hd;have hro2:=Bl hd zD;have hS:=Rs.Ru sets [] _ (fun i _ hi=>by rw[AV] at hi ⊢;exact NI _ a5 i hi) hx hd2 zD;unfold Rs.BB Rs.span Rs.many;dsimp only;rw[Ak (show ¬4611686018427387904<lo by omega),hN];dsimp only;rw[toNat_cast zD,Ak (show ¬4611686018427387904-min lo 4611686018427387904≤hi-lo-1 by omega),hI];dsimp only;rw[Ak (show ¬sets.length=0 by omega),hS];dsimp only;rw[Ai rfl,show lo+(hi-lo-1)+1=hi by omega,AV,Ag,Ag,Bu,Bu,Bu]
theorem Rs.QY{e:Int}(h1:epR e=true)(h:B.drop p=Az e.toNat++rest):(⟨p,0,0⟩:Rs).ep B=(⟨p+(Az e.toNat).length,0,0⟩,e.toNat):=by
 have h2:=h1;simp only[epR,Av] at h2;unfold Rs.ep;rw[Rs.DR zD h];dsimp only;rw[Ai rfl,toNat_cast zD,Ai h1]
theorem Rs.Abg{e:Int}(h0:0≤e)(h1:e≤4611686018427387904)(h:B.drop p=Az e.toNat++rest):(⟨p,0,0⟩:Rs).tl B=(⟨p+(Az e.toNat).length,0,0⟩,e.toNat):=by
 unfold Rs.tl;rw[Rs.DR zD h];dsimp only;rw[Ai rfl,toNat_cast h0,Ai (show tlR e=true from Ad h1)]
theorem Rs.Ym{m:Nat}{e:Int}(h0:0≤e)(h1:e≤m)(hm:m<18446744073709551616)(h:B.drop p=Az e.toNat++rest):(⟨p,0,0⟩:Rs).most B m=(⟨p+(Az e.toNat).length,0,0⟩,e.toNat):=by
 unfold Rs.most;rw[Rs.DR zD h];dsimp only;rw[Ak (show ¬m<e.toNat by omega)]
theorem Rs.NO{s:Jj}(hr:FP s=true)(h0:0≤s.node)(h1:0≤s.tail)(h:B.drop p=Dy s++rest)(hp:p≤B.length):
  (⟨p,0,0⟩:Rs).seal_ B=(⟨p+(Dy s).length,0,0⟩,s):=by
 obtain⟨e,n,t⟩:=s;unfold FP at hr;simp only[Aq,Av] at hr;obtain⟨a1,a2,a3⟩:=hr;dsimp only at*;have a4:=a1;simp only[epR,Av] at a4;unfold Dy at h ⊢;dsimp only at h ⊢;rw[Ao,Ao] at h;have hd:=Br h;have hd2:=Br hd;unfold Rs.seal_;rw[Rs.QY a1 h];dsimp only;rw[Rs.Ym (m:=4294967295) h0 zD zD hd];dsimp only;rw[Rs.Abg h1 a3 hd2];dsimp only;rw[Ai rfl,toNat_cast zD,toNat_cast h0,toNat_cast h1,Ag,Ag,Bu,Bu,Bu]
theorem Rs.Mr:∀(l:List BV) (lo:Int) (out:List BV) (p:Nat),0≤lo→FE lo l=true→(∀s∈l,∀x∈s.sets,∀y∈x,0≤y∧y≤18446744073709551615)→B.drop p=Cq l++rest→p≤B.length→
  Rs.BJ B l.length ⟨p,0,0⟩ lo out=(⟨p+(Cq l).length,0,0⟩,4611686018427387904,out++l)
 | [],lo,out,p,_,hc,_,_,_=>by
  simp only[FE,Av] at hc;subst hc;simp[Rs.BJ,Cq]
 | s::l,lo,out,p,h0,hc,hx,h,hp=>by
  simp only[FE,Aq,Av] at hc;obtain⟨rfl,hr,hc⟩:=hc;have e:Cq (s::l)=CY s++Cq l:=by simp[Cq]
  rw[e,Ao] at h;have hS:=Rs.Kt hr h0 (hx s zN) h hp;have hd:=Br h;have hro:=Bl h hp;have h3:s.lo<s.hi:=by
   unfold Dc at hr;simp only[Aq,Av] at hr;exact hr.1.1
  have hrec:=Rs.Mr l s.hi (out++[s]) _ zD hc (fun z hz=>hx z (by simp[hz])) hd zD;simp only[AO,Rs.BJ];rw[hS];dsimp only;rw[Ai rfl,hrec,e,Ag,Bu,Ao];rfl
theorem Rs.N2{s:EZ}(hr:DG s=true)(hx:∀z∈s.stripes,∀x∈z.sets,∀y∈x,0≤y∧y≤18446744073709551615)(h:B.drop p=Dz s++rest)(hp:p≤B.length):
  (⟨p,0,0⟩:Rs).Ds B=(⟨p+(Dz s).length,0,0⟩,s):=by
 obtain⟨e,l⟩:=s;unfold DG at hr;simp only[Aq,Av] at hr;obtain⟨a1,⟨a2,a3⟩,a4⟩:=hr;dsimp only at*;have a5:=a1;simp only[epR,Av] at a5;unfold Dz at h ⊢;dsimp only at h ⊢;rw[Ao,Ao] at h;have hd:=Br h;have hro:=Bl h hp;have hI:=Rs.FT (m:=64) (x:=l.length) zD hd zD;have hd2:=Br hd;have hro2:=Bl hd zD;have hS:=Rs.Mr l 0 [] _ zD a4 hx hd2 zD;unfold Rs.Ds Rs.many;rw[Rs.QY a1 h];dsimp only;rw[hI];dsimp only;rw[Ak (show ¬l.length=0 by omega),hS];dsimp only;rw[Ai rfl,Ai rfl,AV,toNat_cast zD,Ag,Ag,Bu,Bu,Bu]
def Rs.part{α:Type}(h:Bool)(s:Rs)(f:Rs→Rs × α)(z:α):Rs × α:=if h=true then f s else (s,z)
def Rs.Fk(B:List UInt8)(s:Rs):Rs × Int:=((s.po B).1,((s.po B).2:Int))
def Rs.cnt(B:List UInt8)(s:Rs):Rs × Int:=((s.many B 65536).1,((s.many B 65536).2:Int))
def Rs.stt(B:List UInt8)(k:Int)(s:Rs):Rs × Int:=
 let x:Int:=((s.byte B).2.toNat:Int)
 (if 1≤x∧x≤Em k then (s.byte B).1 else (s.byte B).1.fail 3 s.p,x)
def Rs.GP(B:List UInt8)(s:Rs):Rs × List Int:=Rs.EA B (s.int B 16).2 (s.int B 16).1 []
structure Abf where
 pos:Int
 count:Int
 state:Int
 streams:List Int
 links:List BH
def Rs.ahead(B:List UInt8)(k:Int)(s:Rs):Rs × Abf:=
 let a:=Rs.part (AE k 1) s (Rs.Fk B) 0
 let b:=Rs.part (AE k 2) a.1 (Rs.cnt B) 0
 let c:=Rs.part (AE k 4) b.1 (Rs.stt B k) 0
 let d:=Rs.part (AE k 8) c.1 (Rs.GP B) []
 let e:=Rs.part (AE k 16) d.1 (fun t=>t.links B a.2) []
 (e.1,⟨a.2,b.2,c.2,d.2,e.2⟩)
def Rs.body(B:List UInt8)(blk:Rs→Rs × List UInt8 × Bool)(k:Int)(s:Rs):Rs × Msg × Bool:=
 if 1≤k∧k≤14 then
  let e:=s.ahead B k
  let f:=Rs.part (Bw k e.2.state) e.1 blk ([],true)
  let g:=Rs.part (AE k 64) f.1 (Rs.seal_ B) Dk
  let h:=Rs.part (AE k 128) g.1 (Rs.Ds B) DE
  if h.1.k=0 then (h.1,⟨k,0,0,e.2.pos,e.2.count,e.2.state,e.2.streams,e.2.links,f.2.1,g.2,h.2⟩,f.2.2) else (h.1,El,false)
 else (s.fail 7 s.p,El,false)
section
variable {α:Type} {B:List UInt8} {s:Rs}
theorem Rs.EI{f:Rs→Rs × α}{z:α}(hs:s.ok L)(hf:(f s).1.ok L):(Rs.part h s f z).1.ok L:=by
 unfold Rs.part;split
 ·exact hf
 ·exact hs
theorem Rs.Abp(h:s.ok B.length):(s.po B).1.ok B.length:=by
 have h2:=Rs.Dn (B:=B) h;unfold Rs.po;split
 ·split
  ·exact h2
  ·exact Rs.Co h2 zD
 ·exact h2
theorem Rs.XQ(h:s.ok B.length):(s.Fk B).1.ok B.length:=Rs.Abp h
theorem Rs.YR(h:s.ok B.length):(s.cnt B).1.ok B.length:=Rs.I6 h
theorem Rs.Xm(h:s.ok B.length):(s.stt B k).1.ok B.length:=by
 unfold Rs.stt;dsimp only;split
 ·exact Rs.Iq h
 ·exact Rs.Co (Rs.Iq h) zD
theorem Rs.U9(h:s.ok B.length):(s.GP B).1.ok B.length:=Rs.QB _ _ _ (Rs.FU h)
theorem Rs.TU(h:s.k≠0):s.po B=(s,0):=by
 unfold Rs.po;rw[Rs.Ei h,Ak h]
theorem Rs.N5(h:s.k≠0):s.Fk B=(s,0):=by
 unfold Rs.Fk;rw[Rs.TU h];rfl
theorem Rs.OC(h:s.k≠0):s.cnt B=(s,0):=by
 unfold Rs.cnt;rw[Rs.GI h];rfl
theorem Rs.Mq(h:s.k≠0):s.GP B=(s,[]):=by
 unfold Rs.GP;rw[Rs.Ij h];rfl
theorem Rs.Ny(h:s.k≠0):s.stt B k=(s,0):=by
 unfold Rs.stt Rs.byte;rw[Rs.Mu h];dsimp only;rw[Rs.Cb h];simp
theorem Rs.AbJ(h:(s.cnt B).1.k=0):1≤(s.cnt B).2∧(s.cnt B).2≤65536:=by
 have h1:=Rs.JF (B:=B) (s:=s) (m:=65536) h;have h2:(s.many B 65536).2≤65536:=Rs.I7 (m:=65536);unfold Rs.cnt;dsimp only;omega
theorem Rs.Abi(h:(s.stt B k).1.k=0):1≤(s.stt B k).2∧(s.stt B k).2≤Em k:=by
 unfold Rs.stt at h ⊢;dsimp only at h ⊢;split at h
 ·rename_i h1
  exact h1
 ·exact absurd h (Rs.BE zD)
end
theorem Rs.Gz{α:Type}{f:Rs→Rs × α}{z x:α}(hb:B.drop p=AQ h b++rest)(yes:h=true→B.drop p=b++rest→f ⟨p,0,0⟩=(⟨p+b.length,0,0⟩,x))(no:h=false→x=z):
  Rs.part h ⟨p,0,0⟩ f z=(⟨p+(AQ h b).length,0,0⟩,x):=by
 cases h with
 | false=>rw [no rfl];rfl
 | true=>exact yes rfl hb
theorem Rs.Aax{x:Int}(h0:0≤x)(h1:poR x=true)(h:B.drop p=Az x.toNat++rest):(⟨p,0,0⟩:Rs).Fk B=(⟨p+(Az x.toNat).length,0,0⟩,x):=by
 have h2:=h1;simp only[poR,Av] at h2;unfold Rs.Fk Rs.po;rw[Rs.DR zD h];dsimp only;rw[Ai rfl,toNat_cast h0,Ai h1];dsimp only;rw[toNat_cast h0]
theorem Rs.AaV{x:Int}(h0:1≤x)(h1:x≤65536)(h:B.drop p=Az x.toNat++rest):(⟨p,0,0⟩:Rs).cnt B=(⟨p+(Az x.toNat).length,0,0⟩,x):=by
 unfold Rs.cnt Rs.many;rw[Rs.FT (x:=x.toNat) (m:=65536) zD h zD];dsimp only;rw[Ak (show ¬x.toNat=0 by omega),toNat_cast zD]
theorem Rs.Xn{l:List Int}(hl:l.length≤16)(hr:Bj l=true)(hx:∀x∈l,0≤x∧x≤18446744073709551615)(h:B.drop p=Dw l++rest)(hp:p≤B.length):(⟨p,0,0⟩:Rs).GP B=(⟨p+(Dw l).length,0,0⟩,l):=by
 unfold Dw GO at h ⊢;rw[Ao] at h;have hd:=Br h;have hro:=Bl h hp;unfold Rs.GP;rw[Rs.FT (x:=l.length) (m:=16) zD h zD];dsimp only;rw[Rs.NS l none _ [] (.inl ⟨rfl,rfl⟩) hr hx hd zD,AV,Ag,Bu]
theorem Rs.S3(h:s.ok B.length):(s.ahead B k).1.ok B.length:=by
 unfold Rs.ahead;have h1:(Rs.part (AE k 1) s (Rs.Fk B) 0).1.ok B.length:=Rs.EI h (Rs.XQ h);have h2:(Rs.part (AE k 2) (Rs.part (AE k 1) s (Rs.Fk B) 0).1 (Rs.cnt B) 0).1.ok B.length:=Rs.EI h1 (Rs.YR h1);have h3:=Rs.EI (h:=AE k 4) (z:=0) h2 (Rs.Xm (k:=k) h2);have h4:=Rs.EI (h:=AE k 8) (z:=[]) h3 (Rs.U9 h3);exact Rs.EI h4 (Rs.Yr h4)
theorem Rs.VC{blk:Rs→Rs × List UInt8 × Bool}(h:s.ok B.length)(hb:∀t:Rs,t.ok B.length→(blk t).1.ok B.length):(s.body B blk k).1.ok B.length:=by
 unfold Rs.body;split
 ·have h1:=Rs.S3 (k:=k) h
  have h2:=Rs.EI (h:=Bw k (s.ahead B k).2.state) (z:=([],true)) h1 (hb _ h1);have h3:=Rs.EI (h:=AE k 64) (z:=Dk) h2 (Rs.Vf h2);have h4:=Rs.EI (h:=AE k 128) (z:=DE) h3 (Rs.Aav h3);dsimp only;split
  ·exact h4
  ·exact h4
 ·exact Rs.Co h zD
theorem Rs.Aan{x:Int}(h0:1≤x∧x≤Em k)(h:B.drop p=[UInt8.ofNat x.toNat]++rest)(hp:p≤B.length):(⟨p,0,0⟩:Rs).stt B k=(⟨p+1,0,0⟩,x):=by
 have hm:Em k≤20:=by unfold Em;split<;>omega
 have e:(((UInt8.ofNat x.toNat).toNat:Nat):Int)=x:=by
  rw[UInt8.toNat_ofNat'];omega
 unfold Rs.stt;rw[Rs.Ls (x:=UInt8.ofNat x.toNat) h hp];dsimp only;rw[e,Ai h0]
def OO(m:Msg):List UInt8:=
 AQ (AE m.kind 1) (Az m.pos.toNat)++(AQ (AE m.kind 2) (Az m.count.toNat)++(AQ (AE m.kind 4) [UInt8.ofNat m.state.toNat]++
 (AQ (AE m.kind 8) (Dw m.streams)++AQ (AE m.kind 16) (Ci m.pos m.links))))
structure M8(m:Msg):Prop where
 pos:inU m.pos
 streams:∀x∈m.streams,0≤x∧x≤18446744073709551615
 links:∀x∈m.links,(0≤x.stream∧x.stream≤18446744073709551615)∧∀y∈x.backs,0≤y
 node:0≤m.sea.node
 tail:0≤m.sea.tail
 proj:∀z∈m.proj.stripes,∀x∈z.sets,∀y∈x,0≤y∧y≤18446744073709551615
theorem Rs.WZ(hN:M8 m)
 (r1:Bv (AE m.kind 1) (poR m.pos) (decide (m.pos=0))=true) (r2:Bv (AE m.kind 2) (decide (1≤m.count∧m.count≤65536)) (decide (m.count=0))=true)
 (r3:Bv (AE m.kind 4) (decide (1≤m.state∧m.state≤Em m.kind)) (decide (m.state=0))=true) (r4:Bv (AE m.kind 8) (decide (m.streams.length≤16)&&Bj m.streams) (decide (m.streams.length=0))=true)
 (r5:Bv (AE m.kind 16) (CH m.pos m.links) (decide (m.links.length=0))=true) (h:B.drop p=OO m++rest) (hp:p≤B.length):
  (⟨p,0,0⟩:Rs).ahead B m.kind=(⟨p+(OO m).length,0,0⟩,⟨m.pos,m.count,m.state,m.streams,m.links⟩):=by
 obtain⟨n1,n2,n3,_,_,_⟩:=hN;unfold OO at h ⊢;simp only[Ao] at h;have hd1:=Br h;have o1:=Bl h hp;have hd2:=Br hd1;have o2:=Bl hd1 zD;have hd3:=Br hd2;have o3:=Bl hd2 zD;have hd4:=Br hd3;have o4:=Bl hd3 zD;have P1:=Rs.Gz (h:=AE m.kind 1) (f:=Rs.Fk B) (z:=0) (x:=m.pos) h (fun e hb=>Rs.Aax n1.1 (by rw[e] at r1;exact r1) hb) (fun e=>by rw[e] at r1;exact Bc r1);have P2:=Rs.Gz (h:=AE m.kind 2) (f:=Rs.cnt B) (z:=0) (x:=m.count) hd1 (fun e hb=>by rw[e] at r2;have:=Bc r2;exact Rs.AaV this.1 this.2 hb) (fun e=>by rw[e] at r2;exact Bc r2);have P3:=Rs.Gz (h:=AE m.kind 4) (f:=Rs.stt B m.kind) (z:=0) (x:=m.state) hd2 (fun e hb=>by rw[e] at r3;exact Rs.Aan (Bc r3) hb (by omega)) (fun e=>by rw[e] at r3;exact Bc r3);have P4:=Rs.Gz (h:=AE m.kind 8) (f:=Rs.GP B) (z:=[]) (x:=m.streams) hd3 (fun e hb=>by rw[e] at r4;have:=(Aq _ _).mp r4;exact Rs.Xn (Bc this.1) this.2 n2 hb (by omega)) (fun e=>by rw[e] at r4;exact List.length_eq_zero_iff.1 (Bc r4));have P5:=Rs.Gz (h:=AE m.kind 16) (f:=fun t=>t.links B m.pos) (z:=[]) (x:=m.links) hd4 (fun e hb=>by rw[e] at r5;exact Rs.Wm n1.2 r5 n3 hb (by omega)) (fun e=>by rw[e] at r5;exact List.length_eq_zero_iff.1 (Bc r5));unfold Rs.ahead;rw[P1];dsimp only;rw[P2];dsimp only;rw[P3];dsimp only;rw[P4];dsimp only;rw[P5];simp only[Ag,Bu]
theorem Rs.OI{blk:Rs→Rs × List UInt8 × Bool}(hN:M8 m)(hr:Gl m=true)(he:m.epoch=0)(hs:m.seq=0)(h:B.drop p=D4 m++rest)(hp:p≤B.length)
 (hblk:∀q rest',q≤B.length→B.drop q=Bk m.data++rest'→blk ⟨q,0,0⟩=(⟨q+(Bk m.data).length,0,0⟩,m.data,true)):
  Rs.body B blk m.kind ⟨p,0,0⟩=(⟨p+(D4 m).length,0,0⟩,m,true):=by
 unfold Gl at hr;simp only[Aq] at hr;obtain⟨rk,r1,r2,r3,r4,r5,r6,r7,r8⟩:=hr;have rk:=Bc rk;have e:D4 m=OO m++(AQ (Bw m.kind m.state) (Bk m.data)++(AQ (AE m.kind 64) (Dy m.sea)++AQ (AE m.kind 128) (Dz m.proj))):=by simp[D4,OO]
 rw[e] at h ⊢;simp only[Ao] at h;have hd1:=Br h;have o1:=Bl h hp;have hd2:=Br hd1;have o2:=Bl hd1 zD;have hd3:=Br hd2;have o3:=Bl hd2 zD;have hA:=Rs.WZ hN r1 r2 r3 (by simpa using r4) r5 h hp;have P1:=Rs.Gz (h:=Bw m.kind m.state) (f:=blk) (z:=([],true)) (x:=(m.data,true)) hd1 (fun _ hb=>hblk _ _ zD hb) (fun e=>by
  rw[e] at r8;have:m.data.length=0:=by simpa using r8
  rw[List.length_eq_zero_iff.1 this])
 have P2:=Rs.Gz (h:=AE m.kind 64) (f:=Rs.seal_ B) (z:=Dk) (x:=m.sea) hd2 (fun e hb=>by rw[e] at r6;exact Rs.NO r6 hN.node hN.tail hb (by omega)) (fun e=>by rw[e] at r6;exact Bc r6);have P3:=Rs.Gz (h:=AE m.kind 128) (f:=Rs.Ds B) (z:=DE) (x:=m.proj) hd3 (fun e hb=>by rw[e] at r7;exact Rs.N2 r7 hN.proj hb (by omega)) (fun e=>by
  rw[e] at r7;have h7:=(Aq _ _).mp r7;have h8:=Bc h7.1;have h9:=List.length_eq_zero_iff.1 (Bc h7.2);cases hq:m.proj with
  | mk a b=>rw [hq] at h8 h9;dsimp only at h8 h9;rw[h8,h9];rfl)
 unfold Rs.body;rw[Ai rk,hA];dsimp only;rw[P1];dsimp only;rw[P2];dsimp only;rw[P3];dsimp only;rw[Ai rfl];simp only[Ag,Bu];obtain⟨a,b,c,d,e,f,g,h,i,j,k⟩:=m;dsimp only at he hs;subst he hs;rfl
theorem Rs.IW:∀(n:Nat) (s:Rs) (prev:Option Int) (out:List Int),s.ok B.length→(prev=none∧out=[]∨∃q,prev=some q∧0≤q∧out≠[]∧out.getLastD 0=q)→(Rs.EA B n s out).1.k=0→
  ∃t,(Rs.EA B n s out).2=out++t∧t.length=n∧(∀x∈t,0≤x∧x≤18446744073709551615)∧B.drop s.p=CG (D9 prev t)++B.drop (Rs.EA B n s out).1.p
 | 0,s,prev,out,_,_,_=>⟨[],by simp[Rs.EA],rfl,zN,by simp[Rs.EA,D9,CG]⟩
 | n+1,s,prev,out,hs,hp,h=>by
  unfold Rs.EA at h ⊢;by_cases h1:(s.num B).1.k=0
  ·rw[Ai h1] at h ⊢
   have hc:=(Rs.Eo hs h1).1;have hsm:=Rs.DL (B:=B) (s:=s);have hok:=Rs.Dn (B:=B) hs;split at h
   ·exact absurd h (Rs.BE zD)
   ·rename_i h2
    rw[Ak h2];rcases hp with ⟨rfl,rfl⟩ | ⟨q,rfl,hq0,hne,hq⟩
    ·rw[Ai rfl] at h ⊢
     obtain⟨t,t1,t2,t3,t4⟩:=Rs.IW n _ (some ((s.num B).2:Int)) ([]++[((s.num B).2:Int)]) hok (.inr ⟨_,rfl,zD,zN,zN⟩) h;refine⟨((s.num B).2:Int)::t,by rw[t1];simp,zCo,fun x hx=> ?_,?_⟩
     ·rw[List.mem_cons] at hx
      rcases hx with rfl | hx
      ·omega
      ·exact t3 x hx
     ·rw[hc,t4]
      simp only[D9];rw[Eh,Cc,Ao]
    ·rw[Ak hne] at h ⊢
     rw[hq] at h h2 ⊢;have h3:((s.num B).2:Int)<18446744073709551615-q:=by
      have:¬(18446744073709551615-q≤((s.num B).2:Int)):=fun hh=>h2 ⟨hne,hh⟩;omega
     obtain⟨t,t1,t2,t3,t4⟩:=Rs.IW n _ (some (((s.num B).2:Int)+(q+1))) (out++[((s.num B).2:Int)+(q+1)]) hok (.inr ⟨_,rfl,zD,zN,zN⟩) h;refine⟨(((s.num B).2:Int)+(q+1))::t,by rw[t1];simp,zCo,fun x hx=> ?_,?_⟩
     ·rw[List.mem_cons] at hx
      rcases hx with rfl | hx
      ·omega
      ·exact t3 x hx
     ·rw[hc,t4]
      simp only[D9];rw[Eh,show ((s.num B).2:Int)+(q+1)-q-1=((s.num B).2:Int) by omega,Cc,Ao]
  ·rw[Ak h1] at h
   exact absurd h h1
theorem Rs.I8{m:Int}(hs:s.ok B.length)(h:(s.many B m).1.k=0):B.drop s.p=Az (s.many B m).2++B.drop (s.many B m).1.p:=by
 unfold Rs.many at h ⊢;dsimp only at h ⊢;split at h
 ·exact absurd h (Rs.BE zD)
 ·rename_i h1
  rw[Ak h1];exact (Rs.Hf hs h).1
theorem Rs.VY{B:List UInt8}{s:Rs}{O:List (List Int)}(hs:s.ok B.length)(h:(s.Fb B O).1.k=0):(∀x∈(s.Fb B O).2,0≤x∧x≤18446744073709551615)∧B.drop s.p=Dw (s.Fb B O).2++B.drop (s.Fb B O).1.p:=by
 unfold Rs.Fb at h ⊢;dsimp only at h ⊢;have hm:=Rs.I8 (B:=B) (s:=s) (m:=8) hs;have hb:=fun hk=>Rs.Ie (B:=B) (s:=(s.many B 8).1) (out:=[]) hk (s.many B 8).2;have hr:=Rs.IW (B:=B) (s.many B 8).2 (s.many B 8).1 none [] (Rs.I6 hs) (.inl ⟨rfl,rfl⟩);generalize Rs.EA B (s.many B 8).2 (s.many B 8).1 []=f at*;split at h
 ·rename_i h1
  rw[Ai h1];have hk1:(s.many B 8).1.k=0:=Be fun hh=>hb hh h1;obtain⟨t,t1,t2,t3,t4⟩:=hr h1;rw[AV] at t1;split at h
  ·exact absurd h (Rs.BE zD)
  ·rename_i h2
   rw[Ak h2];split at h
   ·rename_i h3
    rw[Ai h3];rw[t1];refine⟨t3,?_⟩;rw[hm hk1,t4];unfold Dw GO;rw[t2,Ao]
   ·exact absurd h (Rs.BE zD)
 ·rename_i h1
  exact absurd h h1
theorem Rs.NH:∀(n:Nat) (s:Rs) (out:List (List Int)),s.ok B.length→(Rs.Ek B n s out).1.k=0→∃t,(Rs.Ek B n s out).2=out++t∧(∀x∈t,∀y∈x,0≤y∧y≤18446744073709551615)∧B.drop s.p=Ey t++B.drop (Rs.Ek B n s out).1.p
 | 0,s,out,_,_=>⟨[],by simp[Rs.Ek],zN,by simp[Rs.Ek,Ey]⟩
 | n+1,s,out,hs,h=>by
  unfold Rs.Ek at h ⊢;split at h
  ·rename_i h1
   rw[Ai h1];obtain⟨c1,c2⟩:=Rs.VY hs h1;obtain⟨t,t1,t2,t3⟩:=Rs.NH n _ _ (Rs.Xv hs) h;refine⟨(s.Fb B out).2::t,by rw[t1];simp,fun x hx=> ?_,?_⟩
   ·rw[List.mem_cons] at hx
    rcases hx with rfl | hx
    ·exact c1
    ·exact t2 x hx
   ·rw[c2,t3]
    simp[Ey]
  ·rename_i h1
   exact absurd h h1
theorem Rs.Tm{lo:Int}(hs:s.ok B.length)(h:(s.span B lo).1.k=0):B.drop s.p=Az (s.span B lo).2++B.drop (s.span B lo).1.p:=by
 unfold Rs.span at h ⊢;dsimp only at h ⊢;by_cases hlo:4611686018427387904<lo
 ·rw[Ai hlo] at h
  have hb:(s.fail 3 s.p).k≠0:=Rs.BE zD;rw[Rs.Ei hb] at h;dsimp only at h;rw[Rs.Cb hb] at h;split at h<;>exact absurd h hb
 ·rw[Ak hlo] at h ⊢
  split at h
  ·exact absurd h (Rs.BE zD)
  ·rename_i h2
   rw[Ak h2];exact (Rs.Eo hs h).1
theorem Rs.Qt{B:List UInt8}{s:Rs}{lo:Int}(hs:s.ok B.length)(h:(s.BB B lo).1.k=0):(∀x∈(s.BB B lo).2.sets,∀y∈x,0≤y∧y≤18446744073709551615)∧B.drop s.p=CY (s.BB B lo).2++B.drop (s.BB B lo).1.p:=by
 unfold Rs.BB at h ⊢;dsimp only at h ⊢;have h0:=Rs.Qz (B:=B) ((s.span B lo).1.many B 8).2 ((s.span B lo).1.many B 8).1 [] rfl;have h1:=Rs.NH (B:=B) ((s.span B lo).1.many B 8).2 ((s.span B lo).1.many B 8).1 [] (Rs.I6 (Rs.Qv hs));have h2:=Rs.Tn (B:=B) (s:=((s.span B lo).1.many B 8).1) ((s.span B lo).1.many B 8).2 (out:=[]);have h3:=Rs.Ob (B:=B) (s:=(s.span B lo).1) (m:=8);have h4:=Rs.I8 (B:=B) (s:=(s.span B lo).1) (m:=8) (Rs.Qv hs);have h5:=Rs.Tm (B:=B) (s:=s) (lo:=lo) hs;generalize Rs.Ek B ((s.span B lo).1.many B 8).2 ((s.span B lo).1.many B 8).1 []=u at*;split at h
 ·rename_i hk
  rw[Ai hk];obtain⟨_,a2⟩:=h0 hk;obtain⟨t,t1,t2,t3⟩:=h1 hk;have hk2:=h2 hk;rw[AV] at t1;simp only[Bp,Cu] at a2;dsimp only;rw[t1] at a2 ⊢;refine⟨t2,?_⟩;rw[h5 (h3 hk2),h4 hk2,t3];unfold CY;dsimp only;rw[a2,show lo+((s.span B lo).2:Int)+1-lo-1=((s.span B lo).2:Int) by omega,Cc];simp only[Ao]
 ·rename_i hk
  exact absurd h hk
theorem Rs.Kd:∀(n:Nat) (s:Rs) (lo:Int) (out:List BV),s.ok B.length→(Rs.BJ B n s lo out).1.k=0→∃t,(Rs.BJ B n s lo out).2.2=out++t∧t.length=n∧(∀z∈t,∀x∈z.sets,∀y∈x,0≤y∧y≤18446744073709551615)∧B.drop s.p=Cq t++B.drop (Rs.BJ B n s lo out).1.p
 | 0,s,lo,out,_,_=>⟨[],by simp[Rs.BJ],rfl,zN,by simp[Rs.BJ,Cq]⟩
 | n+1,s,lo,out,hs,h=>by
  unfold Rs.BJ at h ⊢;split at h
  ·rename_i h1
   rw[Ai h1];obtain⟨c1,c2⟩:=Rs.Qt hs h1;obtain⟨t,t1,t2,t3,t4⟩:=Rs.Kd n _ _ _ (Rs.Pd hs) h;refine⟨(s.BB B lo).2::t,by rw[t1];simp,zCo,fun x hx=> ?_,?_⟩
   ·rw[List.mem_cons] at hx
    rcases hx with rfl | hx
    ·exact c1
    ·exact t3 x hx
   ·rw[c2,t4]
    simp[Cq]
  ·rename_i h1
   exact absurd h h1
theorem Rs.N4{B:List UInt8}{s:Rs}(hs:s.ok B.length)(h:(s.Ds B).1.k=0):(∀z∈(s.Ds B).2.stripes,∀x∈z.sets,∀y∈x,0≤y∧y≤18446744073709551615)∧B.drop s.p=Dz (s.Ds B).2++B.drop (s.Ds B).1.p:=by
 unfold Rs.Ds at h ⊢;dsimp only at h ⊢;have h1:=Rs.Kd (B:=B) ((s.ep B).1.many B 64).2 ((s.ep B).1.many B 64).1 0 [] (Rs.I6 (Rs.Mf hs));have h2:=Rs.Pc (B:=B) (s:=((s.ep B).1.many B 64).1) ((s.ep B).1.many B 64).2 (lo:=0) (out:=[]);have h3:=Rs.Ob (B:=B) (s:=(s.ep B).1) (m:=64);have h4:=Rs.I8 (B:=B) (s:=(s.ep B).1) (m:=64) (Rs.Mf hs);have h6:=Rs.Oz (B:=B) (s:=s) hs;generalize Rs.BJ B ((s.ep B).1.many B 64).2 ((s.ep B).1.many B 64).1 0 []=u at*;by_cases hm:u.2.1=4611686018427387904
 ·rw[Ai hm] at h ⊢
  split at h
  ·rename_i hk
   rw[Ai hk];obtain⟨t,t1,t2,t3,t4⟩:=h1 hk;have hk2:=h2 hk;rw[AV] at t1;dsimp only;rw[t1];refine⟨t3,?_⟩;rw[(h6 (h3 hk2)).2.1,h4 hk2,t4];unfold Dz;dsimp only;rw[t2,Cc];simp only[Ao]
  ·rename_i hk
   exact absurd h hk
 ·rw[Ak hm] at h ⊢
  split at h
  ·exact absurd h (Rs.BE zD)
  ·exact absurd h (Rs.BE zD)
theorem Rs.Xi(hs:s.ok B.length)(h:(s.tl B).1.k=0):B.drop s.p=Az (s.tl B).2++B.drop (s.tl B).1.p:=by
 unfold Rs.tl at h ⊢;split at h
 ·rename_i h1
  rw[Ai h1];split at h
  ·rename_i h2
   rw[Ai h2];exact (Rs.Eo hs h1).1
  ·exact absurd h (Rs.BE zD)
 ·rename_i h1
  exact absurd h h1
theorem Rs.Sb{m:Nat}(hs:s.ok B.length)(h:(s.most B m).1.k=0):B.drop s.p=Az (s.most B m).2++B.drop (s.most B m).1.p∧(s.most B m).2≤m:=by
 unfold Rs.most at h ⊢;split at h
 ·exact absurd h (Rs.BE zD)
 ·rename_i h1
  rw[Ak h1];exact⟨(Rs.Eo hs h).1,zD⟩
theorem Rs.IU(hs:s.ok B.length)(h:(s.seal_ B).1.k=0):FP (s.seal_ B).2=true∧0≤(s.seal_ B).2.node∧0≤(s.seal_ B).2.tail∧B.drop s.p=Dy (s.seal_ B).2++B.drop (s.seal_ B).1.p:=by
 unfold Rs.seal_ at h ⊢;dsimp only at h ⊢;split at h
 ·rename_i hk
  rw[Ai hk];have k2:=Rs.Acl hk;have k1:=Rs.AbA k2;have o1:=Rs.Mf (B:=B) hs;have o2:=Rs.QP (m:=4294967295) o1;obtain⟨e1,e2,_⟩:=Rs.Oz hs k1;obtain⟨m1,m2⟩:=Rs.Sb o1 k2;have t1:=Rs.Xi o2 hk;have t2:=Rs.AbZ hk;dsimp only;refine⟨?_,zD,zD,?_⟩
  ·unfold FP
   dsimp only;rw[e1,Ad zD,Ad t2];rfl
  ·unfold Dy
   dsimp only;rw[Cc,Cc,Cc,Ao,Ao,←t1,←m1,←e2]
 ·rename_i hk
  exact absurd h hk
end Go.Proofs.YtfddhafbhceoaaaGreat
