/- Mini: Needed by segmentOnce_walk, part 5: texts put together by shake.py; no condition. -/
import Derived.Test.YtfddhafbhceoaaaGreatWC2
import Derived.BigRegion
import Derived.Test.YtfddhafbhceoaaaGreatWC4
import Derived.Test.YtfddhafbhceoaaaGreatRows
import Derived.Test.YtfddhafbhceoaaaGreatWC3
import Derived.Laws.IdiomStrings
import Derived.Laws.BytesArg
import Derived.Test.YtfddhafbhceoaaaGreatWC1
import Derived.Lib.SlBytesConst
set_option linter.unusedVariables false
set_option linter.unusedSimpArgs false
set_option maxRecDepth 100000
set_option maxHeartbeats 6400000
namespace Go.Bs
variable{base g:Nat}{e:TypeId}{v:Value}{w:World}
theorem zBu{p:Prop}(h:p:=by simp [results, Tryz.results275, go_sem, y0, y1, l1]):p:=h
theorem zAb{p:Prop}(h:p:=by rw [Al]; have := hfit'.out; omega):p:=h
theorem zAa{p:Prop}(h:p:=by rw [Al]; have := hlen'.out; omega):p:=h
theorem ZT{p:Prop}(h:p:=by have := (hav _ e).1; omega):p:=h
theorem ZI{p:Prop}(h:p:=by have := hbw.size; omega):p:=h
theorem ZF{p:Prop}(h:p:=by have := hq.1; omega):p:=h
theorem AB:type_of% @List.append_assoc:=@List.append_assoc
theorem BR:type_of% @Bool.or_eq_true:=@Bool.or_eq_true
theorem EM:type_of% @Proofs.Tryz.ntmps383:=@Proofs.Tryz.ntmps383
theorem EO:type_of% @Prod.mk.injEq:=@Prod.mk.injEq
theorem Fb:type_of% @Bool.not_eq_true:=@Bool.not_eq_true
theorem Ft:type_of% @Proofs.Tryz.func383:=@Proofs.Tryz.func383
theorem Gq:type_of% @of_decide_eq_true:=@of_decide_eq_true
end Go.Bs
namespace Go.Proofs.YtfddhafbhceoaaaGreat
open Go.RowKit Go.Bs Go.Maps
variable{bound:Int}{B D J J' b l:List UInt8}{cs xs:List Value}{base c cb cp g gs i mb n o p sc sz:Nat}{F S:Nat → Prop}{a a1 ab ap sa:Option Addr}{s:Rs}{e t:TypeId}{v:Value}{w w' w1:World}
theorem Mk(l l':List UInt8):byteCells l++byteCells l'=byteCells (l++l'):=Z7
structure KZ(w W:World)(B:List UInt8)(a:Option Addr)(s:Rs)(out:List UInt8)(aO:Option Addr)(cO:Nat):Prop where
 rd:AN W (w.heap.size+1) B a s
 dat:Ag.r (·<w.heap.size) W [.slice a B.length B.length] B
 fl:Blk W w.heap.size 65 #[.int .i64 0,.int .i64 0]
 own:W.ownsRow (w.heap.size+2) 5 1 (.slice aO out.length cO) out.length (byteCells out)
 be:Below w.heap.size w W
 sz:w.heap.size+2≤W.heap.size
section
variable {w W W':World} {B:List UInt8} {a:Option Addr} {s s':Rs} {out out':List UInt8} {aO aO':Option Addr} {cO cO':Nat}
theorem KZ.later(h:KZ w W B a s out aO cO)(hb:Below W.heap.size W W'):KZ w W' B a s out aO cO:=
 ⟨h.rd.later hb,Ag.keep h.dat fun q hq=>hb.block q (by have:=h.sz;omega),h.fl.later hb,Bp h.own hb,Af hb h.be,A6 h.sz hb.size⟩
theorem TZ{size:Nat}(h:W.ownsRow base e size v n xs)(hg:g<base)(hb:Tch (·=g) W W'):W'.ownsRow base e size v n xs:=by
 refine⟨h.1,?_⟩;rcases h.2 with h0 | ⟨g',cap,cur,h1,h2,h3,h4⟩
 ·exact .inl h0
 ·exact .inr ⟨g',cap,cur,h1,h2,(hb.block _ (Blk.lt h3) zD).trans h3,h4⟩
theorem KZ.step(h:KZ w W B a s out aO cO)(k:Ay W (w.heap.size+1) B a s' W'):KZ w W' B a s' out aO cO:=
 ⟨k.1,Ag.keep h.dat fun q hq=>k.2.block q (by have:=h.sz;omega) zD,h.fl.tch k.2 zD,TZ h.own zD k.2,h.be.trans (k.below h.be.size zD),A6 h.sz k.size⟩
theorem KZ.row(h:KZ w W B a s out aO cO)(hb:Below (w.heap.size+2) W W')(ho:W'.ownsRow (w.heap.size+2) 5 1 (.slice aO' out'.length cO') out'.length (byteCells out')):KZ w W' B a s out' aO' cO':=by
 have hd:=Ag.keep h.dat (w':=W') fun q hq=>hb.block q zD;exact⟨⟨h.rd.blk.below hb zD,Ag.mono hd fun q hq=>⟨by have:=h.sz;have:=hb.size;omega,zD⟩,h.rd.ok⟩,hd,h.fl.below hb zD,ho,h.be.trans (hb.mono zD),A6 h.sz hb.size⟩
end
def Pq(W:World)(g i:Nat):Int:=intOf ((W.cell? ⟨g,i,none⟩).getD undef)
theorem AN.cells(h:AN w g B a s):Pq w g 1=s.p∧Pq w g 2=s.k:=by
 have c1:=h.blk.cell 1;have c2:=h.blk.cell 2;simp at c1 c2;unfold Pq;rw[c1,c2];exact⟨rfl,rfl⟩
def Ts(L g:Nat)(W:World):Nat:=if Pq W g 2=0 then L+1-(Pq W g 1).toNat else 0
theorem Rm(h:AN w g B a s):Ts B.length g w=if s.k=0 then B.length+1-s.p else 0:=by
 unfold Ts;rw[h.cells.1,h.cells.2];simp
theorem Lc{s':Rs}(h:AN w g B a s)(h':AN w' g B a s')(hk:s.k=0)(hp:s.p<B.length)(hs:s'.k=0→s.p<s'.p):Ts B.length g w'<Ts B.length g w:=by
 rw[Rm h,Rm h',Ai hk];split
 ·have:=hs zM;omega
 ·omega
def QJ(bound:Int)(out:List UInt8):Prop:=out=[]∨(out.length:Int)≤bound
theorem Pb{out:List UInt8}(h:QJ bound out)(hb: -9223372036854775808≤bound∧bound≤1048576):out.length≤1048576∧-9223372036854775808≤bound-(out.length:Int):=by
 rcases h with rfl | h
 ·simp;omega
 ·omega
theorem Ng{out:List UInt8}(h:QJ bound out):QJ bound (CL B bound s out).2:=by
 by_cases hk:(CL B bound s out).1.k=0
 ·exact .inr (Gf hk).2
 ·rw[QI hk];exact h
set_option maxHeartbeats 12800000 in
theorem N4(w:World)(B:List UInt8)(a:Option Addr)(n c:Nat)(hl:Ag.r (·<w.heap.size) w [.slice a n c] B)(hB:B.length≤1000000000)(bound:Int)(hbd: -9223372036854775808≤bound∧bound≤1048576):
  Calls Tryz.prog 275 #[.slice a n c,.int .i64 bound] w fun r w'=>∃v,r=.returned (.tuple #[v,.agg #[.int .i64 (exB B bound).2.1,.int .i64 (exB B bound).2.2]])∧Ag.r (fun q=>w.heap.size≤q∧q<w'.heap.size) w' [v] (exB B bound).1∧Below w.heap.size w w':=by
 obtain⟨rfl,hm,hcc,hcm⟩:=AH hl;obtain⟨i0,hi,hz0,hz1,hz2⟩:=A1 Eu;have hcap:Ag.r (·<w.heap.size) w [.slice a B.length B.length] B:=by
  obtain⟨a',c',e,h1,h2,h3⟩:=hl;simp at e;obtain⟨rfl,rfl⟩:=e;exact BL rfl (Ap _) (by simp[maxLen];omega) h3
 have HL:=hid hl;have HCAP:=hid hcap;clear hl hcap;go_enter Tryz.func275,Tryz.ntmps275;go_wp2;refine Nw 1 0 zD
  (fun a' W=>∃(s:Rs) (out:List UInt8) (aO:Option Addr) (cO:Nat) (rest:Hid (exR B bound s out=exR B bound ⟨0,0,0⟩ [])) (u2 u3 u8 u9 u10 u11 u12 u13 u14 u15 u16 u17 u18 u19 u20 u21 u22 u23 u24 u25 u26 u27 u28 u29 u30 u31 u32 u33 u34 u35 u36 u37 u38 u39 u40 u41 u42 u43 u44 u45 u46 u47 u48 u49 u50 u51 u52 u53 u54 u55 u56 u57 u58 u59 u60 u61 u62 u63 u64 u65 u66 u67 u68 u69 u70:Value),KZ w W B a s out aO cO∧QJ bound out∧a'={tmps:=#[.slice a B.length c,.int .i64 bound,u2,u3,.slice none 0 0,.pointer (some ⟨w.heap.size,0,none⟩),.pointer (some ⟨w.heap.size+1,0,none⟩),.slice aO out.length cO,u8,u9,u10,u11,u12,u13,u14,u15,u16,u17,u18,u19,u20,u21,u22,u23,u24,u25,u26,u27,u28,u29,u30,u31,u32,u33,u34,u35,u36,u37,u38,u39,u40,u41,u42,u43,u44,u45,u46,u47,u48,u49,u50,u51,u52,u53,u54,u55,u56,u57,u58,u59,u60,u61,u62,u63,u64,u65,u66,u67,u68,u69,u70],defers:=[]})
  (fun a' W=>∃(s:Rs) (out:List UInt8) (aO:Option Addr) (cO:Nat) (rest:Hid (exR B bound ⟨0,0,0⟩ []=(s,out))) (u2 u3 u8 u9 u10 u11 u12 u13 u14 u15 u16 u17 u18 u19 u20 u21 u22 u23 u24 u25 u26 u27 u28 u29 u30 u31 u32 u33 u34 u35 u36 u37 u38 u39 u40 u41 u42 u43 u44 u45 u46 u47 u48 u49 u50 u51 u52 u53 u54 u55 u56 u57 u58 u59 u60 u61 u62 u63 u64 u65 u66 u67 u68 u69 u70:Value),KZ w W B a s out aO cO∧QJ bound out∧a'={tmps:=#[.slice a B.length c,.int .i64 bound,u2,u3,.slice none 0 0,.pointer (some ⟨w.heap.size,0,none⟩),.pointer (some ⟨w.heap.size+1,0,none⟩),.slice aO out.length cO,u8,u9,u10,u11,u12,u13,u14,u15,u16,u17,u18,u19,u20,u21,u22,u23,u24,u25,u26,u27,u28,u29,u30,u31,u32,u33,u34,u35,u36,u37,u38,u39,u40,u41,u42,u43,u44,u45,u46,u47,u48,u49,u50,u51,u52,u53,u54,u55,u56,u57,u58,u59,u60,u61,u62,u63,u64,u65,u66,u67,u68,u69,u70],defers:=[]})
  (fun _ W=>Ts B.length (w.heap.size+1) W) rfl rfl ?_ ?_ ?_
 ·rintro a' W ⟨s,out,aO,cO,hex,u2,u3,u8,u9,u10,u11,u12,u13,u14,u15,u16,u17,u18,u19,u20,u21,u22,u23,u24,u25,u26,u27,u28,u29,u30,u31,u32,u33,u34,u35,u36,u37,u38,u39,u40,u41,u42,u43,u44,u45,u46,u47,u48,u49,u50,u51,u52,u53,u54,u55,u56,u57,u58,u59,u60,u61,u62,u63,u64,u65,u66,u67,u68,u69,u70,hI,hin,rfl⟩
  have hlen:=Pb hin hbd;have hok:=hI.rd.ok;have hpl:=hok.le;have HI:=hid hI;have HIN:=hid hin;have HLF:=hid (K8 W hI.rd);have hsz:=hI.sz;clear hI hin;by_cases hp:s.p<B.length
  ·have e0:(((B.length:Int)-(s.p:Int))==0)=false:=by rw[Br];omega
   by_cases hk:s.k=0
   ·have hgo:=Uy (bound:=bound) (out:=out) hok hp hk
    rw[hex.out] at hgo;have hmore:=Gf (B:=B) (bound:=bound) (s:=s) (out:=out);have hin2:=hid (Ng (B:=B) (s:=s) HIN.out);have hst2:CL B bound s out=CL B bound s out:=rfl;conv at hst2=>rhs;unfold CL
    generalize CL B bound s out=ES at*;have hhead:=hid (fun (W:World) (h:AN W (w.heap.size+1) B a s)=>PJ W h zD);have hhok:=Rs.GO (B:=B) hok;have hhle:(s.head B).2.2≤1048576:=by
     by_cases h0:(s.head B).1.k=0
     ·exact (Rs.J9 h0).2.2.2.2
     ·rw[(Rs.Tm h0).2];omega
    have hh1:(s.head B).2.1=true→1≤((s.head B).1.offset B).2∨((s.head B).1.offset B).1.k≠0:=fun _=>by
     by_cases h0:((s.head B).1.offset B).1.k=0
     ·left;rw[(Rs.Ky h0).2.2.2.1];omega
     ·right;exact h0
    have htake:=hid (fun (W:World) (h:AN W (w.heap.size+1) B a (s.head B).1)=>Ih W h ((s.head B).2.2:Int) zD zD);have htl:((s.head B).1.take B ((s.head B).2.2:Int)).2.length≤1048576:=by
     by_cases h0:((s.head B).1.take B ((s.head B).2.2:Int)).1.k=0
     ·rw[(Rs.DI h0).2.2];omega
     ·rw[Rs.Ln h0];simp
    have hoff:=hid (fun (W:World) (h:AN W (w.heap.size+1) B a (s.head B).1)=>NA W h zD);have hatp:=hid (fun (W:World) (h:AN W (w.heap.size+1) B a (s.head B).1)=>BI W h);have hfail:=hid (fun (W:World) (h:AN W (w.heap.size+1) B a (s.head B).1)=>Bd W h 11 s.p zD);have hfail2:=hid (fun (W:World) (h:AN W (w.heap.size+1) B a ((s.head B).1.offset B).1)=>Bd W h 10 (s.head B).1.p zD);have hfk:=(Rs.A0 (s:=(s.head B).1) (c:=11) (at_:=(s.p:Int)) zD);have hfk2:=(Rs.A0 (s:=((s.head B).1.offset B).1) (c:=10) (at_:=((s.head B).1.p:Int)) zD);generalize (s.head B).1.fail 11 s.p=F1 at*;generalize ((s.head B).1.offset B).1.fail 10 (s.head B).1.p=F2 at*;generalize (s.head B).1.take B ((s.head B).2.2:Int)=TK at*;generalize (s.head B).1.offset B=OF at*;generalize s.head B=H at*;obtain⟨s1,ic,m⟩:=H;obtain⟨s2,D⟩:=TK;obtain⟨s3,of⟩:=OF;dsimp only at*;have HK:=hid hk;have hG:=AK;have dk:decide (s.k=0)=true:=Ad hk;have HGO:=hid hgo;have HMORE:=hid hmore;have hpx:=hp;have HST2:=hid hst2;clear hk hgo hmore hst2 hG hok;by_cases hb1:bound-(out.length:Int)<(m:Int)
    ·have d1:decide (bound-(out.length:Int)<(m:Int))=true:=Ad hb1
     have hes:=HST2.out;rw[Ai hb1] at hes;subst hes;have HGO2:=hid (HGO.out.trans (L7 (fun e=>hfk e.2)));clear hb1 HST2;go_wp2_with fail;refine HLF.out.mono ?_;rintro r w1 ⟨rfl,hb1⟩;have hG:=AK w1 (HI.out.rd.later hb1);rw[dk] at hG;have HG:=hid hG;clear hG dk;go_wp2_with fail;refine HG.out.mono ?_;rintro r w2 ⟨rfl,hb2⟩;have HI2:=hid (HI.out.later (Af hb2 hb1));have HAT:=hid (BI w2 HI2.out.rd);go_wp2_with fail;refine HAT.out.mono ?_;rintro r w2' ⟨rfl,rfl⟩;have HHD:=hid (hhead.out w2 HI2.out.rd);go_wp2_with fail;refine HHD.out.mono ?_;rintro r w3 ⟨rfl,hst3⟩;have HI3:=hid (HI2.out.step hst3);clear hst3;have HFL:=hid (hfail.out w3 HI3.out.rd);go_wp2_with fail;refine HFL.out.mono ?_;rintro r w4 ⟨rfl,hst4⟩;have HI4:=hid (HI3.out.step hst4);clear hst4;go_wp2;go_step3
     exact .inr ⟨rfl,F1,out,aO,cO,HGO2,_,_,_,_,_,_,_,_,_,_,_,_,_,_,_,_,_,_,_,_,_,_,_,_,_,_,_,_,_,_,_,_,_,_,_,_,_,_,_,_,_,_,_,_,_,_,_,_,_,_,_,_,_,_,_,_,_,_,_,_,_,_,_,_,_,HI4.out,HIN.out,rfl⟩
    ·have d1:decide (bound-(out.length:Int)<(m:Int))=false:=Ae hb1
     have hes:=HST2.out;rw[Ah hb1] at hes;clear HST2;cases ic
     ·simp only[Fs] at hes
      subst hes;clear hb1;go_wp2_with fail;refine HLF.out.mono ?_;rintro r w1 ⟨rfl,hb1⟩;have hG:=AK w1 (HI.out.rd.later hb1);rw[dk] at hG;have HG:=hid hG;clear hG dk;go_wp2_with fail;refine HG.out.mono ?_;rintro r w2 ⟨rfl,hb2⟩;have HI2:=hid (HI.out.later (Af hb2 hb1));have HAT:=hid (BI w2 HI2.out.rd);go_wp2_with fail;refine HAT.out.mono ?_;rintro r w2' ⟨rfl,rfl⟩;have HHD:=hid (hhead.out w2 HI2.out.rd);go_wp2_with fail;refine HHD.out.mono ?_;rintro r w3 ⟨rfl,hst3⟩;have HI3:=hid (HI2.out.step hst3);clear hst3;have HTK:=hid (htake.out w3 HI3.out.rd);go_wp2_with fail;refine HTK.out.mono ?_;rintro r w4 ⟨v,rfl,hr,hst4⟩;obtain⟨aD,cD,hv,hr2,_⟩:=AJ hr;simp only[As,AF] at hv;subst hv;have HI4:=hid (HI3.out.step hst4);have HS4:=hid (BH hr2);have HONE:=hid (A7 D);have hsz4:=HI4.out.sz;clear hst4 hr hr2;go_wp2_with (at_builtin;go_loud (refine AA rfl _ _ _ rfl (w.heap.size+2) 5 i0 (.int .u8 0) 1 1 AG hi hz0 hz1 hz2 rfl zO (.slice aO out.length cO) out.length (byteCells out) rfl HI4.out.own aD D.length cD (byteCells D) rfl HS4.out HONE.out zN zD zD ?_;intro v' w5 hown5 hgrow5 hat5;obtain⟨a5,c5,rfl⟩:=AX hown5;have HO5:=hid hown5;have HG5:=hid hgrow5;clear hown5 hgrow5 hat5))
      have ho:=HO5.out;rw[Mk,show out.length+D.length=(out++D).length by simp] at ho;have hb5:Below (w.heap.size+2) w4 w5:=Below.grown (Below.refl _ _) HG5.out zD (fun g e=>(HI4.out.own.lt g e).1);have HI5:=hid (HI4.out.row hb5 ho);clear ho hb5;rw[show out.length+D.length=(out++D).length by simp];go_step3
      exact .inl ⟨rfl,⟨s2,out++D,a5,c5,hid HGO.out.symm,_,_,_,_,_,_,_,_,_,_,_,_,_,_,_,_,_,_,_,_,_,_,_,_,_,_,_,_,_,_,_,_,_,_,_,_,_,_,_,_,_,_,_,_,_,_,_,_,_,_,_,_,_,_,_,_,_,_,_,_,_,_,_,_,_,HI5.out,hin2.out,rfl⟩,Lc HI.out.rd HI5.out.rd HK.out hpx (fun h=>(HMORE.out h).1)⟩
     ·simp only[Bool.true_eq_false,if_false] at hes
      by_cases h3:out.length<of
      ·have d3:decide ((out.length:Int)<(of:Int))=true:=Ad zD
       have d3':decide (out.length<of)=true:=Ad h3;rw[Ai h3] at hes;subst hes;clear hb1;go_wp2_with fail;refine HLF.out.mono ?_;rintro r w1 ⟨rfl,hb1⟩;have hG:=AK w1 (HI.out.rd.later hb1);rw[dk] at hG;have HG:=hid hG;clear hG dk;go_wp2_with fail;refine HG.out.mono ?_;rintro r w2 ⟨rfl,hb2⟩;have HI2:=hid (HI.out.later (Af hb2 hb1));have HAT:=hid (BI w2 HI2.out.rd);go_wp2_with fail;refine HAT.out.mono ?_;rintro r w2' ⟨rfl,rfl⟩;have HHD:=hid (hhead.out w2 HI2.out.rd);go_wp2_with fail;refine HHD.out.mono ?_;rintro r w3 ⟨rfl,hst3⟩;have HI3:=hid (HI2.out.step hst3);clear hst3;have HATP:=hid (hatp.out w3 HI3.out.rd);go_wp2_with fail;refine HATP.out.mono ?_;rintro r w3' ⟨rfl,rfl⟩;have HOF:=hid (hoff.out w3 HI3.out.rd);go_wp2_with fail;refine HOF.out.mono ?_;rintro r w4 ⟨rfl,hst4⟩;have HI4:=hid (HI3.out.step hst4);clear hst4;have HFL:=hid (hfail2.out w4 HI4.out.rd);go_wp2_with fail;refine HFL.out.mono ?_;rintro r w5 ⟨rfl,hst5⟩;have HI5:=hid (HI4.out.step hst5);have hG5:=AK w5 HI5.out.rd;rw[Ae hfk2] at hG5;have HG5:=hid hG5;clear hst5 hG5;go_wp2_with fail;refine HG5.out.mono ?_;rintro r w6 ⟨rfl,hb6⟩;have HI6:=hid (HI5.out.later hb6);go_wp2;go_step3
       exact .inl ⟨rfl,⟨F2,out,aO,cO,hid HGO.out.symm,_,_,_,_,_,_,_,_,_,_,_,_,_,_,_,_,_,_,_,_,_,_,_,_,_,_,_,_,_,_,_,_,_,_,_,_,_,_,_,_,_,_,_,_,_,_,_,_,_,_,_,_,_,_,_,_,_,_,_,_,_,_,_,_,_,HI6.out,HIN.out,rfl⟩,Lc HI.out.rd HI6.out.rd HK.out hpx (fun h=>absurd h hfk2)⟩
      ·have d3:decide ((out.length:Int)<(of:Int))=false:=Ae zD
       have d3':decide (out.length<of)=false:=Ae h3;rw[Ah h3] at hes;by_cases h4:s3.k=0
       ·have d4:decide (s3.k=0)=true:=Ad h4
        rw[Ai h4] at hes;have hof1:1≤of:=by exact (hh1 rfl).elim id (absurd h4)
        subst hes;go_wp2_with fail;refine HLF.out.mono ?_;rintro r w1 ⟨rfl,hb1⟩;have hG:=AK w1 (HI.out.rd.later hb1);rw[dk] at hG;have HG:=hid hG;clear hG dk;go_wp2_with fail;refine HG.out.mono ?_;rintro r w2 ⟨rfl,hb2⟩;have HI2:=hid (HI.out.later (Af hb2 hb1));have HAT:=hid (BI w2 HI2.out.rd);go_wp2_with fail;refine HAT.out.mono ?_;rintro r w2' ⟨rfl,rfl⟩;have HHD:=hid (hhead.out w2 HI2.out.rd);go_wp2_with fail;refine HHD.out.mono ?_;rintro r w3 ⟨rfl,hst3⟩;have HI3:=hid (HI2.out.step hst3);clear hst3;have HATP:=hid (hatp.out w3 HI3.out.rd);go_wp2_with fail;refine HATP.out.mono ?_;rintro r w3' ⟨rfl,rfl⟩;have HOF:=hid (hoff.out w3 HI3.out.rd);go_wp2_with fail;refine HOF.out.mono ?_;rintro r w4 ⟨rfl,hst4⟩;have HI4:=hid (HI3.out.step hst4);clear hst4;have hG5:=AK w4 HI4.out.rd;rw[d4] at hG5;have HG5:=hid hG5;clear hG5 d4;go_wp2_with fail;refine HG5.out.mono ?_;rintro r w6 ⟨rfl,hb6⟩;have HI6:=hid (HI4.out.later hb6);have HAG:=hid (N5 w6 out HI6.out.own HI6.out.sz of m hof1 zD zD);have HAL:=hid (Je of m out);have HIN2:=hid hin2.out;clear hb1;go_wp2_with fail;refine HAG.out.mono ?_;rintro r w7 ⟨a7,c7,rfl,hown7,hb7⟩;rw[←HAL.out] at hown7;have HI7:=hid (HI6.out.row hb7 hown7);clear hown7;go_wp2;rw[←HAL.out];go_step3
        exact .inl ⟨rfl,⟨s3,_,a7,c7,hid HGO.out.symm,_,_,_,_,_,_,_,_,_,_,_,_,_,_,_,_,_,_,_,_,_,_,_,_,_,_,_,_,_,_,_,_,_,_,_,_,_,_,_,_,_,_,_,_,_,_,_,_,_,_,_,_,_,_,_,_,_,_,_,_,_,_,_,_,_,HI7.out,HIN2.out,rfl⟩,Lc HI.out.rd HI7.out.rd HK.out hpx (fun h=>(HMORE.out h).1)⟩
       ·have d4:decide (s3.k=0)=false:=Ae h4
        rw[Ah h4] at hes;subst hes;clear hb1;go_wp2_with fail;refine HLF.out.mono ?_;rintro r w1 ⟨rfl,hb1⟩;have hG:=AK w1 (HI.out.rd.later hb1);rw[dk] at hG;have HG:=hid hG;clear hG dk;go_wp2_with fail;refine HG.out.mono ?_;rintro r w2 ⟨rfl,hb2⟩;have HI2:=hid (HI.out.later (Af hb2 hb1));have HAT:=hid (BI w2 HI2.out.rd);go_wp2_with fail;refine HAT.out.mono ?_;rintro r w2' ⟨rfl,rfl⟩;have HHD:=hid (hhead.out w2 HI2.out.rd);go_wp2_with fail;refine HHD.out.mono ?_;rintro r w3 ⟨rfl,hst3⟩;have HI3:=hid (HI2.out.step hst3);clear hst3;have HATP:=hid (hatp.out w3 HI3.out.rd);go_wp2_with fail;refine HATP.out.mono ?_;rintro r w3' ⟨rfl,rfl⟩;have HOF:=hid (hoff.out w3 HI3.out.rd);go_wp2_with fail;refine HOF.out.mono ?_;rintro r w4 ⟨rfl,hst4⟩;have HI4:=hid (HI3.out.step hst4);clear hst4;have hG5:=AK w4 HI4.out.rd;rw[d4] at hG5;have HG5:=hid hG5;clear hG5 d4;go_wp2_with fail;refine HG5.out.mono ?_;rintro r w6 ⟨rfl,hb6⟩;have HI6:=hid (HI4.out.later hb6);go_wp2;go_step3
        exact .inl ⟨rfl,⟨s3,out,aO,cO,hid HGO.out.symm,_,_,_,_,_,_,_,_,_,_,_,_,_,_,_,_,_,_,_,_,_,_,_,_,_,_,_,_,_,_,_,_,_,_,_,_,_,_,_,_,_,_,_,_,_,_,_,_,_,_,_,_,_,_,_,_,_,_,_,_,_,_,_,_,_,HI6.out,HIN.out,rfl⟩,Lc HI.out.rd HI6.out.rd HK.out hpx (fun h=>absurd h h4)⟩
   ·have dk:decide (s.k=0)=false:=Ae hk
    have hst:=L7 (bound:=bound) (out:=out) (fun e=>hk e.2:¬(s.p<B.length∧s.k=0));have HEX:=hid (hex.out.symm.trans hst);clear hk hst hex;go_wp2_with fail;refine HLF.out.mono ?_;rintro r w1 ⟨rfl,hb1⟩;have hG:=AK w1 (HI.out.rd.later hb1);rw[dk] at hG;have HG:=hid hG;clear hG dk;go_wp2_with fail;refine HG.out.mono ?_;rintro r w2 ⟨rfl,hb2⟩;have HI2:=hid (HI.out.later (Af hb2 hb1));go_wp2;go_step3
    exact .inr ⟨rfl,s,out,aO,cO,HEX,_,_,_,_,_,_,_,_,_,_,_,_,_,_,_,_,_,_,_,_,_,_,_,_,_,_,_,_,_,_,_,_,_,_,_,_,_,_,_,_,_,_,_,_,_,_,_,_,_,_,_,_,_,_,_,_,_,_,_,_,_,_,_,_,_,HI2.out,HIN.out,rfl⟩
  ·have e0:(((B.length:Int)-(s.p:Int))==0)=true:=by rw[beq_iff_eq];omega
   have hst:=L7 (bound:=bound) (out:=out) (fun e=>hp e.1:¬(s.p<B.length∧s.k=0));have HEX:=hid (hex.out.symm.trans hst);clear hst hex;go_wp2_with fail;refine HLF.out.mono ?_;rintro r w1 ⟨rfl,hb1⟩;have HI2:=hid (HI.out.later hb1);go_wp2;go_step3
   exact .inr ⟨rfl,s,out,aO,cO,HEX,_,_,_,_,_,_,_,_,_,_,_,_,_,_,_,_,_,_,_,_,_,_,_,_,_,_,_,_,_,_,_,_,_,_,_,_,_,_,_,_,_,_,_,_,_,_,_,_,_,_,_,_,_,_,_,_,_,_,_,_,_,_,_,_,_,HI2.out,HIN.out,rfl⟩
 ·rintro a' W ⟨s,out,aO,cO,hex,u2,u3,u8,u9,u10,u11,u12,u13,u14,u15,u16,u17,u18,u19,u20,u21,u22,u23,u24,u25,u26,u27,u28,u29,u30,u31,u32,u33,u34,u35,u36,u37,u38,u39,u40,u41,u42,u43,u44,u45,u46,u47,u48,u49,u50,u51,u52,u53,u54,u55,u56,u57,u58,u59,u60,u61,u62,u63,u64,u65,u66,u67,u68,u69,u70,hI,hin,rfl⟩
  have HI:=hid hI;have HFA:=hid (FK W hI.rd);have hsz:=hI.sz;have hle:=Pb hin hbd;have hex2:=Uz B bound;rw[hex.out] at hex2;dsimp only at hex2;clear hin hI hex;by_cases hk:s.k=0
  ·rw[Ai hk] at hex2
   have HX:=hid hex2;have dk:decide (s.k=0)=true:=Ad hk;have HK:=hid hk;clear hk hex2;go_wp2_with fail;refine HFA.out.mono ?_;rintro r w1 ⟨rfl,hb1⟩;have hG:=Di (w1.alloc (.cells #[.int .i64 s.k,.int .i64 s.f] 65)) s.k s.f;rw[dk] at hG;have HG:=hid hG;clear hG dk;go_wp2_with fail;refine HG.out.mono ?_;rintro r w2 ⟨rfl,hb2⟩;have hb12:Below W.heap.size W w2:=Af hb2 (Au hb1 _);have HI2:=hid (HI.out.later hb12);have hfl:=HI2.out.fl;obtain⟨y0,y1,g0,g1,l1⟩:=Bg hfl;have hV:=Cg rfl HI2.out.own;have HV:=hid hV;clear hfl hV;go_wp2;simp only[MZ];refine An (v:=.tuple #[.slice aO out.length cO,.agg #[.int .i64 0,.int .i64 0]]) zBu rfl ⟨_,by rw[HX.out],?_,?_⟩
   ·rw[HX.out]
    refine Ag.mono (Ag.keep HV.out fun q hq=> ?_) fun q hq=>⟨zD,zA2⟩;repeat (rw[Aw _ _ _ _ zH])
   ·have hbe:=HI2.out.be
    (repeat (first | with_reducible exact Below.refl _ _ | with_reducible assumption | (with_reducible refine Au ?_ _) | (with_reducible refine Below.setCell ?_ zE _) | (with_reducible refine Below.drew ?_) | (with_reducible refine below_drewN ?_ _) | (refine Af zG ?_)))
  ·rw[Ah hk] at hex2
   have HX:=hid hex2;have dk:decide (s.k=0)=false:=Ae hk;have HK:=hid hk;clear hk hex2;go_wp2_with fail;refine HFA.out.mono ?_;rintro r w1 ⟨rfl,hb1⟩;have hG:=Di (w1.alloc (.cells #[.int .i64 s.k,.int .i64 s.f] 65)) s.k s.f;rw[dk] at hG;have HG:=hid hG;clear hG dk;go_wp2_with fail;refine HG.out.mono ?_;rintro r w2 ⟨rfl,hb2⟩;have hb12:Below W.heap.size W w2:=Af hb2 (Au hb1 _);have HI2:=hid (HI.out.later hb12);have hfl:=HI2.out.fl;obtain⟨y0,y1,g0,g1,l1⟩:=Bg hfl;obtain⟨z0,z1,e0,e1,l2⟩:=Bg (Blk.later (Blk.newAt _ _ _ rfl) hb2);have hbe:=HI2.out.be;clear hfl;go_wp2_with fail;go_region
   all_goals
    go_wp2;simp only[MZ];refine An (v:=.tuple #[.slice none 0 0,.agg #[.int .i64 s.k,.int .i64 s.f]]) zBu rfl ⟨_,by rw[HX.out],by rw[HX.out];exact Bl rfl rfl (by omega),?_⟩
    (repeat (first | with_reducible exact Below.refl _ _ | with_reducible assumption | (with_reducible refine Au ?_ _) | (with_reducible refine Below.setCell ?_ zE _) | (with_reducible refine Below.drew ?_) | (with_reducible refine below_drewN ?_ _) | (refine Af zG ?_)))
 ·intro K hK
  have HN:=hid (NF (w.alloc (.cells #[.int .i64 0,.int .i64 0] 65)) B a _ c (lift HL.out zA));go_wp2_with fail;refine HN.out.mono ?_;rintro r w1 ⟨rfl,hrd,hb⟩;have hI:KZ w w1 B a ⟨0,0,0⟩ [] none 0:=⟨by simpa using hrd,Ag.keep HCAP.out fun q hq=>(hb.block q zI).trans (AP _ _ q hq),Blk.later zC hb,⟨rfl,.inl ⟨rfl,rfl⟩⟩,zA,by have:=hrd.blk.lt;simp at this;omega⟩;have HI:=hid hI;clear hI hrd hb;go_wp2;go_step3
  rename_i hkk
  exact hkk _ _ (hK _ _ ⟨⟨0,0,0⟩,[],none,0,hid rfl,_,_,_,_,_,_,_,_,_,_,_,_,_,_,_,_,_,_,_,_,_,_,_,_,_,_,_,_,_,_,_,_,_,_,_,_,_,_,_,_,_,_,_,_,_,_,_,_,_,_,_,_,_,_,_,_,_,_,_,_,_,_,_,_,_,HI.out,.inl rfl,rfl⟩)
open Go.RowKit Go.Bs
theorem T4:Rv Tryz.prog 22 Ag:=OK (sz:=1) AG zJ zO (Qf E9)
structure GZ(w wr:World)(N0 N1 gs g mb base:Nat)(b:List UInt8)(sa:Option Addr)(sc:Nat)(ab:Option Addr)(cb:Nat)(a:Option Addr)(c:Nat)(p i nn:Nat)(av:Option Addr)(cv:Nat)(ap:Option Addr)(cp:Nat)(L:List Tok)(cells:List (List Value)):Prop where
 pb:p≤b.length
 ip:i≤p
 np:nn≤p
 bb:Blk wr w.heap.size 22 #[.slice a b.length c]
 bo:Blk wr (w.heap.size+1) 337 #[.slice av L.length cv]
 bf:Blk wr (w.heap.size+2) 3 #[.int .i64 (i:Int)]
 own:AY (fun q=>N1≤q∧q<wr.heap.size∧(Value.slice ap nn cp).ownBlock≠some q) IU N1 304 3 wr (.slice av L.length cv) L cells
 sk:H6 wr gs g mb base N0 N1 b nn sa sc ab cb ap cp
 apart:∀q,(Value.slice av L.length cv).ownBlock=some q→(Value.slice ap nn cp).ownBlock≠some q
 len:L.length≤p
 toks:L++Ir b p i=Ec b
 below:Below w.heap.size w wr
 n0:N0=w.heap.size+3
 n1:N0≤gs∧gs<N1∧N0≤g∧g<N1∧N0≤mb∧mb<N1∧N0≤base
theorem GZ.top{wr:World}{N0 N1:Nat}{nn:Nat}{av:Option Addr}{cv:Nat}{L:List Tok}{cells:List (List Value)}
 (h:GZ w wr N0 N1 gs g mb base b sa sc ab cb a c p i nn av cv ap cp L cells):N1≤wr.heap.size:=h.sk.top
theorem GZ.Vd{wr:World}{N0 N1:Nat}{nn m:Nat}{av:Option Addr}{cv:Nat}{L:List Tok}{cells:List (List Value)}
 (h:GZ w wr N0 N1 gs g mb base b sa sc ab cb a c p i nn av cv ap cp L cells) (hs:Oe wr gs g mb base N0 N1 b nn m sa sc ab cb ap cp w1) (hm:m≤p):
  ∃ap' cp',GZ w w1 N0 N1 gs g mb base b sa sc ab cb a c p i m av cv ap' cp' L cells:=by
 obtain⟨ap',cp',h1,h2,h3⟩:=hs;have htop:=h.top;have hn0:=h.n0;obtain⟨k1,k2,k3,k4,k5,k6,k7⟩:=h.n1;have hsz:=h2.size;have hapb:∀q,(Value.slice ap nn cp).ownBlock=some q→N0≤q∧q<wr.heap.size:=fun q hq=>by
  have:=h.sk.ch.prev.lt q hq;exact⟨zD,this.2⟩
 have hlow:∀q,q<N0→¬(q=gs∨q=g∨q=mb∨(Value.slice ap nn cp).ownBlock=some q):=fun q hq e=>by
  rcases e with e | e | e | e
  ·omega
  ·omega
  ·omega
  ·have:=(hapb q e).1;omega
 have hav:=fun q (hq:(Value.slice av L.length cv).ownBlock=some q)=>h.own.1.lt q hq;have hnew:∀q,q<wr.heap.size→(Value.slice ap nn cp).ownBlock≠some q→(Value.slice ap' m cp').ownBlock≠some q:=fun q hq hne e=>by
  rcases h3 with h3 | ⟨q',hq',hlt⟩
  ·rw[h3] at e;exact hne e
  ·rw[hq'] at e;have:=A5 e;omega
 refine⟨ap',cp',⟨h.pb,h.ip,hm,h.bb.tch h2 (hlow _ zD),h.bo.tch h2 (hlow _ zD),h.bf.tch h2 (hlow _ zD),?_,h1,fun q hq=>hnew q (hav q hq).2 (h.apart q hq),h.len,h.toks,h.below.trans (h2.Cq zD fun q hq e=> ?_),h.n0,h.n1⟩⟩
 ·refine (h.own.keep (w':=w1) (fun q hq=>h2.block q hq.2.1 (fun e=> ?_)) (fun q hq=>h2.block q (hav q hq).2 (fun e=> ?_))).mono fun q hq=>⟨hq.1,zD,hnew q hq.2.1 hq.2.2⟩
  ·rcases e with e | e | e | e
   ·omega
   ·omega
   ·omega
   ·exact hq.2.2 e
  ·have:=(hav q hq).1
   rcases e with e | e | e | e
   ·omega
   ·omega
   ·omega
   ·exact h.apart q hq e
 ·by_cases hq0:q<N0
  ·exact absurd e (hlow q hq0)
  ·omega
theorem GZ.out{w wr w1:World}{N0 N1:Nat}{nn:Nat}{av:Option Addr}{cv:Nat}{ap:Option Addr}{cp:Nat}{L:List Tok}{cells:List (List Value)}
 (h:GZ w wr N0 N1 gs g mb base b sa sc ab cb a c p i nn av cv ap cp L cells) {p' i':Nat} {av':Option Addr} {cv':Nat} {L':List Tok} {cells':List (List Value)} (hp:p'≤b.length) (hi:i'≤p') (hn:nn≤p')
 (hf:Blk w1 (w.heap.size+2) 3 #[.int .i64 (i':Int)]) (ho:Blk w1 (w.heap.size+1) 337 #[.slice av' L'.length cv'])
 (hown:AY (fun q=>(N1≤q∧q<wr.heap.size∧(Value.slice ap nn cp).ownBlock≠some q)∨(wr.heap.size≤q∧q<w1.heap.size)) IU N1 304 3 w1 (.slice av' L'.length cv') L' cells')
 (ht:Tch (fun q=>q=w.heap.size+1∨q=w.heap.size+2∨(Value.slice av L.length cv).ownBlock=some q) wr w1) (hat:(Value.slice av' L'.length cv').ownBlock=(Value.slice av L.length cv).ownBlock∨∃q,(Value.slice av' L'.length cv').ownBlock=some q∧wr.heap.size≤q)
 (hlen:L'.length≤p') (htok:L'++Ir b p' i'=Ec b):GZ w w1 N0 N1 gs g mb base b sa sc ab cb a c p' i' nn av' cv' ap cp L' cells':=by
 have htop:=h.top;have hn0:=h.n0;obtain⟨k1,k2,k3,k4,k5,k6,k7⟩:=h.n1;have hsz:=ht.size;have hapb:∀q,(Value.slice ap nn cp).ownBlock=some q→N0≤q∧q<wr.heap.size:=fun q hq=>by
  have:=h.sk.ch.prev.lt q hq;exact⟨zD,this.2⟩
 have hav:=fun q (hq:(Value.slice av L.length cv).ownBlock=some q)=>h.own.1.lt q hq;have hmid:∀q,N0≤q→q<N1→¬(q=w.heap.size+1∨q=w.heap.size+2∨(Value.slice av L.length cv).ownBlock=some q):=fun q h1 h2 e=>by
  rcases e with e | e | e
  ·omega
  ·omega
  ·have:=(hav q e).1;omega
 obtain⟨t,hgs⟩:=h.sk.blk;refine⟨hp,hi,hn,h.bb.tch ht (fun e=> ?_),ho,hf,hown.mono fun q hq=> ?_,h.sk.tch ht (hmid g k3 k4) (hmid mb k5 k6) (fun q hq e=> ?_) (fun q h1 h2 _=>hmid q h1 h2) ⟨t,hgs.tch ht (hmid gs k1 k2)⟩,fun q hq e=> ?_,hlen,htok,h.below.trans (ht.Cq h.below.size fun q hq e=> ?_),h.n0,h.n1⟩
 ·rcases e with e | e | e
  ·omega
  ·omega
  ·have:=(hav _ e).1;omega
 ·rcases hq with hq | hq
  ·exact⟨hq.1,zD,hq.2.2⟩
  ·exact⟨zD,hq.2,fun e=>by have:=(hapb q e).2;omega⟩
 ·rcases e with e | e | e
  ·have:=(hapb q hq).1;omega
  ·have:=(hapb q hq).1;omega
  ·exact h.apart q e hq
 ·rcases hat with hat | ⟨q',hq',hlt⟩
  ·rw[hat] at hq;exact h.apart q hq e
  ·rw[hq'] at hq;have:=A5 hq;have:=(hapb q e).2;omega
 ·rcases e with e | e | e
  ·omega
  ·omega
  ·have:=(hav q e).1;omega
def Ru(w:World)(L:List Tok)(r:Ending)(w':World):Prop:=∃v,r=.returned (.tuple #[v,.int .i64 0])∧OG.r (fun q=>w.heap.size≤q∧q<w'.heap.size) w' [v] L∧Below w.heap.size w w'
theorem NJ(w:World)(b:List UInt8)(a:Option Addr)(n c:Nat)(hl:Ag.r (·<w.heap.size) w [.slice a n c] b)(hlen:b.length≤1048576):
  Calls Tryz.prog 367 #[.slice a n c] w (Ru w (Ec b)):=by
 obtain⟨rfl,hm,_,_⟩:=AH hl;obtain⟨j0,hj0,hy0,hy1,hy2⟩:=A1 Ri;have HL:=hid hl;clear hl;have d1:decide ((1048576:Int)<(b.length:Int))=false:=zI;go_enter Tryz.func367,Tryz.ntmps367;go_wp2_with fail;refine (S3 _ b _ _ _ (lift HL.out zB) hlen).mono ?_;rintro r w1 ⟨gs,g,mb,base,sa,sc,ab,cb,rfl,hsk,hb1,q1,q2,q3,q4⟩;have hz1:w.heap.size+3≤w1.heap.size:=by have:=hb1.size;simpa using this
 simp only[World.size_alloc] at q1 q2 q3 q4;have hmlt:mb<w1.heap.size:=by obtain⟨D,hD,_⟩:=hsk.ch.map;exact hD.lt
 have hat0:GZ w w1 (w.heap.size+3) w1.heap.size gs g mb base b sa sc ab cb a c 0 0 0 none 0 none 0 [] []:=by
  refine⟨At _,Ap _,Ap _,Blk.later zC hb1,Blk.later zC hb1,Blk.later zC hb1,AY.nil,?_,fun q hq=>by simp[Value.ownBlock] at hq,At _,?_,zB,rfl,⟨zD,hsk.blk.choose_spec.lt,zD,hsk.ch.blk.lt,zD,hmlt,zD⟩⟩
  ·simpa using hsk
  ·rfl
 have H0:=hid hat0;clear hat0 hsk q1 q2 q3 q4 hmlt;generalize hN1:w1.heap.size=N1 at*;have HN1:=hid hN1;clear hN1;go_wp2_with fail;go_loopw [8] (fun i wr=>∃(p i0 nn:Nat) (av:Option Addr) (cv:Nat) (ap:Option Addr) (cp:Nat) (L:List Tok) (cells:List (List Value)),i=.int .i64 p∧Hid (GZ w wr (w.heap.size+3) N1 gs g mb base b sa sc ab cb a c p i0 nn av cv ap cp L cells)) (fun i _=>b.length-(intOf i).toNat)
 case atStart=>exact ⟨0,0,0,none,0,none,0,[],[],rfl,H0⟩
 case round=>
  obtain⟨p,i,nn,av,cv,ap,cp,L,cells,rfl,hT⟩:=hrel;clear H0;have hpb:=hT.out.pb;have hip:=hT.out.ip;have cb0:wr.cell? ⟨w.heap.size,0,none⟩=some (.slice a b.length c):=hT.out.bb.cell 0;by_cases hlt:p<b.length
  ·have hB:=hid (RN wr hT.out.sk hT.out.np hlt)
   have hbr:=Jb b p;have htn:=hid (fun h=>PH (b:=b) (p:=p) (i:=i) hlt h);have hts:=hid (fun h=>PG (b:=b) (p:=p) (i:=i) hlt h);have hfc:=hid (Hz b p);have dlt:decide ((p:Int)<(b.length:Int))=true:=zI;generalize hbb:BU b p=bb at*;obtain⟨o,m⟩:=bb;have HBB:=hid hbb;clear hbb;simp only at hbr;go_wp2_with fail;refine hB.out.mono ?_;rintro r w2 ⟨hr,hst⟩;rw[HBB.out] at hr;subst hr;obtain⟨ap2,cp2,hT2⟩:=hT.out.Vd hst (Ap _);have HT2:=hid hT2;clear hst hT2;by_cases hm0:m=0
   ·have e1:((m:Int)==0)=true:=by simp;omega
    have HT3:=hid (show GZ w w2 (w.heap.size+3) N1 gs g mb base b sa sc ab cb a c (p+1) i p av cv ap2 cp2 L cells from {HT2.out with pb:=zD,ip:=zD,np:=zD,len:=by have:=HT2.out.len;omega,toks:=by rw[←htn.out hm0];exact HT2.out.toks});clear hm0;go_wp2_with fail;go_roundw
    case rel=>exact ⟨p+1,i,p,av,cv,ap2,cp2,L,cells,zT,HT3⟩
    case measure=>simp [intOf];omega
   ·have e1:((m:Int)==0)=false:=by simp;omega
    have hm4:4≤m∧o≤p:=by
     rcases hfc.out with h | ⟨o',m',h,h1,h2,h3,_⟩
     ·simp only[EO] at h;omega
     ·simp only[EO] at h
      unfold reach at h2;omega
    have htop:=HT2.out.top;have hn0:=HT2.out.n1;have hav:=fun q (hq:(Value.slice av L.length cv).ownBlock=some q)=>HT2.out.own.1.lt q hq;have hRun:=MR w2 (to:=p) HT2.out.bf HT2.out.bo HT2.out.bb (Ag.mono (Ag.keep HL.out fun q hq=>HT2.out.below.block q hq) fun q hq=>Ao hq HT2.out.below.size) HT2.out.own (fun q hq=>hq.2.1) (fun hq=>ZF) (fun e=>ZT) ⟨zD,zD,fun e=>ZT,fun e=>ZT⟩ zD hlen (by have:=HT2.out.len;omega) htop;have HRun:=hid hRun;clear hRun;have HM0:=hid hm0;clear hm0;go_wp2_with fail;refine HRun.out.mono ?_;rintro r w3 ⟨rfl,av3,cv3,cells3,hbo3,hown3,ht3,hat3⟩;have hLL:(L++Fm b i p).length≤p+1:=by
     have h1:=HT2.out.len;unfold Fm;split<;>simp<;>omega
    have HHBO:=hid hbo3;have o1:w3.cell? ⟨w.heap.size+1,0,none⟩=some (.slice av3 (L++Fm b i p).length cv3):=hbo3.cell 0;have o2:=hbo3.free 0;have l1:=hbo3.lt;have HB3:=hid (HT2.out.bf.tch ht3 (fun e=>by
     rcases e with e | e
     ·omega
     ·have:=(hav _ e).1;omega))
    have l2:=HB3.out.lt;have hz3:N1≤w3.heap.size:=A6 htop ht3.size;have hav3:=fun q (hq:(Value.slice av3 (L++Fm b i p).length cv3).ownBlock=some q)=>hown3.1.lt q hq;generalize hL3:L++Fm b i p=L3 at*;have HL3:=hid hL3;have HO3:=hid hown3;have HT3:=hid ht3;have HAT3:=hid hat3;have HAV3:=hid hav3;have HAV:=hid hav;clear hL3 hown3 ht3 hat3 hbo3 hav3 hav;have f3:=HB3.out.free 0;go_wp2_with (at_builtin;go_loud (refine AA rfl _ _ _ rfl N1 304 j0 (.agg #[.slice none 0 0,.int .i64 0,.int .i64 0]) 3 40 Tryz.underlying337 hj0 hy0 hy1 hy2 rfl zO (.slice av3 L3.length cv3) L3.length cells3.flatten rfl (Bp HO3.out.1 zB) (some ⟨w3.heap.size,0,none⟩) 1 1 [.slice none 0 0,.int .i64 (o:Int),.int .i64 (m:Int)] rfl (BS w3 304 _ rfl rfl rfl) (by intro u hu;simp at hu;rcases hu with rfl | rfl | rfl<;>rfl) zN zD zI ?_;intro v8 w8 hown8 hgrow8 hat8;obtain⟨a8,c8,rfl⟩:=AX hown8;have G:=fun b' (hb:b'<w3.heap.size) (hne:(Value.slice av3 L3.length cv3).ownBlock≠some b')=>(hgrow8.block b' zI (fun e=>hne e.symm)).trans (AP w3 _ b' hb);have n1:(Value.slice av3 L3.length cv3).ownBlock≠some (w.heap.size+1):=fun e=>by {have:=(HAV3.out _ e).1;omega};have n2:(Value.slice av3 L3.length cv3).ownBlock≠some (w.heap.size+2):=fun e=>by {have:=(HAV3.out _ e).1;omega};have m1:=(AQ (a:=⟨w.heap.size+1,0,none⟩) (G _ l1 n1)).trans o1;have m2:=(BE (a:=⟨w.heap.size+1,0,none⟩) (G _ l1 n1)).trans o2;have m3:w.heap.size+1<w8.heap.size:=Ao l1 (A6 zQ hgrow8.size);have m4:=(BE (a:=⟨w.heap.size+2,0,none⟩) (G _ l2 n2)).trans f3;have m6:=(AQ (a:=⟨w.heap.size+2,0,none⟩) (G _ l2 n2)).trans (HB3.out.cell 0);have m5:w.heap.size+2<w8.heap.size:=Ao l2 (A6 zQ hgrow8.size);have HG8:=hid hgrow8;have HO8:=hid hown8;have HA8:=hid hat8;have HGG:=hid G;clear hgrow8 hown8 hat8 G))
    have hOF:=(HO3.out.keep (w':=w3.alloc (.cells #[.slice none 0 0,.int .i64 (o:Int),.int .i64 (m:Int)] 304)) (fun q hq=>AP w3 _ q (by
     have hs3:=HT3.out.size;rcases hq with h | h
     ·omega
     ·omega)) (fun q hq=>AP w3 _ q (HAV3.out q hq).2))
    have hx:IU.r (fun q=>((N1≤q∧q<w2.heap.size∧(Value.slice ap2 p cp2).ownBlock≠some q)∨(w2.heap.size≤q∧q<w3.heap.size))∧(Value.slice av3 L3.length cv3).ownBlock≠some q) (w3.alloc (.cells #[.slice none 0 0,.int .i64 (o:Int),.int .i64 (m:Int)] 304)) [.slice none 0 0,.int .i64 (o:Int),.int .i64 (m:Int)] ⟨[],o,m⟩:=
     SR (x:=⟨[],o,m⟩) (BL rfl (Ap _) (At _) (.inl rfl)) zI zI
    have OPU:=AY.push hOF (fun q hq=>by
     have hs3:=HT3.out.size;rcases hq with h | h
     ·simp;omega
     ·simp;omega) rfl hx HO8.out HG8.out HA8.out
    have hs8:=HG8.out.size;simp only[World.size_alloc] at hs8;have hs3:=HT3.out.size;have hnew8:∀q,q<N1→(Value.slice a8 (L3.length+1) c8).ownBlock≠some q:=fun q hq e=>by
     have:=(HO8.out.lt q e).1;omega
    have hll:(L3++[(⟨[],o,m⟩:Tok)]).length=L3.length+1:=zQ;have hsz:((w8.setCell ⟨w.heap.size+1,0,none⟩ (.slice a8 (L3.length+1) c8)).setCell ⟨w.heap.size+2,0,none⟩ (.int .i64 ((p:Int)+(m:Int)))).heap.size=w8.heap.size:=zY;have keep9:∀q,q≠w.heap.size+1→q≠w.heap.size+2→((w8.setCell ⟨w.heap.size+1,0,none⟩ (.slice a8 (L3.length+1) c8)).setCell ⟨w.heap.size+2,0,none⟩ (.int .i64 ((p:Int)+(m:Int)))).heap[q]? =w8.heap[q]? :=fun q k1 k2=>(Aw _ _ _ _ k2).trans (Aw _ _ _ _ k1);have OP9:=(OPU.keep (w':=(w8.setCell ⟨w.heap.size+1,0,none⟩ (.slice a8 (L3.length+1) c8)).setCell ⟨w.heap.size+2,0,none⟩ (.int .i64 ((p:Int)+(m:Int)))) (fun q hq=>keep9 q (by rcases hq with h | h<;>omega) (by rcases hq with h | h<;>omega)) (fun q hq=>keep9 q (fun e=>hnew8 q zD hq) (fun e=>hnew8 q zD hq))).mono (F':=fun q=>(N1≤q∧q<w2.heap.size∧(Value.slice ap2 p cp2).ownBlock≠some q)∨(w2.heap.size≤q∧q<((w8.setCell ⟨w.heap.size+1,0,none⟩ (.slice a8 (L3.length+1) c8)).setCell ⟨w.heap.size+2,0,none⟩ (.int .i64 ((p:Int)+(m:Int)))).heap.size)) (fun q hq=>by
     rw[hsz];rcases hq with h | h
     ·exact .inl h
     ·exact .inr ⟨h.1,zD⟩)
    have hbo8:Blk w8 (w.heap.size+1) 337 #[.slice av3 L3.length cv3]:=(HGG.out _ l1 n1).trans HHBO.out;have hbf8:Blk w8 (w.heap.size+2) 3 #[.int .i64 (i:Int)]:=(HGG.out _ l2 n2).trans HB3.out;have hfin:GZ w ((w8.setCell ⟨w.heap.size+1,0,none⟩ (.slice a8 (L3.length+1) c8)).setCell ⟨w.heap.size+2,0,none⟩ (.int .i64 ((p:Int)+(m:Int)))) (w.heap.size+3) N1 gs g mb base b sa sc ab cb a c (p+m) (p+m) p a8 c8 ap2 cp2 (L3++[⟨[],o,m⟩]) (cells3++[[.slice none 0 0,.int .i64 (o:Int),.int .i64 (m:Int)]]):=by
     refine HT2.out.out zD (Ap _) zD ?_ ?_ (by rw[hll];exact OP9) ?_ ?_ (by rw[hll];omega) ?_
     ·exact (hbf8.far zH _).set 0 _
     ·rw[hll];exact (hbo8.set 0 _).far zH _
     ·refine Tch.setCell (Tch.setCell ⟨HG8.out.os.trans HT3.out.os,HG8.out.tape.trans HT3.out.tape,HG8.out.output.trans HT3.out.output,zD,fun q hq hf=> ?_⟩ (fun _=> .inl rfl) _) (fun _=> .inr (.inl rfl)) _
      have h3:(Value.slice av3 L3.length cv3).ownBlock≠some q:=fun e=>by
       rcases HAT3.out with h | ⟨q',hq',hlt'⟩
       ·rw[h] at e;exact hf (.inr (.inr e))
       ·rw[hq'] at e;have:=A5 e;omega
      exact (HGG.out q zD h3).trans (HT3.out.block q hq (fun e=>by
       rcases e with e | e
       ·exact hf (.inl e)
       ·exact hf (.inr (.inr e))))
     ·rw[hll]
      rcases HA8.out with h | h
      ·rcases HAT3.out with h' | ⟨q',hq',hlt'⟩
       ·exact .inl (h.trans h')
       ·exact .inr ⟨q',h.trans hq',hlt'⟩
      ·exact .inr ⟨_,h,zI⟩
     ·have e1:=hts.out HM0.out
      have e2:=HT2.out.toks;rw[e1] at e2;rw[←e2,←HL3.out];simp
    have HF:=hid hfin;clear hfin OP9 OPU hx hOF keep9 hsz hbo8 hbf8 hnew8 hll;go_roundw
    case rel=>exact ⟨p+m,p+m,p,a8,c8,ap2,cp2,_,_,zT,HF⟩
    case measure=>simp [intOf];omega
  ·have hpe:p=b.length:=by omega
   subst hpe;have htop:=hT.out.top;have hn0:=hT.out.n1;have hav:=fun q (hq:(Value.slice av L.length cv).ownBlock=some q)=>hT.out.own.1.lt q hq;have hRun:=MR wr (to:=b.length) hT.out.bf hT.out.bo hT.out.bb (Ag.mono (Ag.keep HL.out fun q hq=>hT.out.below.block q hq) fun q hq=>Ao hq hT.out.below.size) hT.out.own (fun q hq=>hq.2.1) (fun hq=>ZF) (fun e=>ZT) ⟨zD,zD,fun e=>ZT,fun e=>ZT⟩ (Ap _) hlen (by have:=hT.out.len;omega) htop;have htk:=hT.out.toks;rw[RC (Ap _)] at htk;rw[htk] at hRun;have HRun:=hid hRun;clear hRun htk;have dlt:decide ((b.length:Int)<(b.length:Int))=false:=zQ;go_wp2_with fail;refine HRun.out.mono ?_;rintro r w3 ⟨rfl,av3,cv3,cells3,hbo3,hown3,ht3,hat3⟩;have o1:w3.cell? ⟨w.heap.size+1,0,none⟩=some (.slice av3 (Ec b).length cv3):=hbo3.cell 0;have hbel:Below w.heap.size w w3:=hT.out.below.trans (ht3.Cq hT.out.below.size fun q hq e=>by
    rcases e with e | e
    ·omega
    ·have:=(hav _ e).1;omega)
   have hsl:=hown3.slice;have hlt3:=hown3.1.lt;have hs3:=ht3.size;have hpost:Ru w (Ec b) (.returned (.tuple #[.slice av3 (Ec b).length cv3,.int .i64 0])) w3:=⟨_,rfl,(rSl 3 IU).mono hsl fun q hq=>by
    rcases hq with (h | h) | h
    ·exact⟨zD,zD⟩
    ·exact⟨zD,h.2⟩
    ·have:=hlt3 q h;exact⟨zD,this.2⟩,hbel⟩
   have HP:=hid hpost;clear hpost hsl hlt3 hbel hown3 ht3 hat3 hbo3;go_wp2;go_ret2
   exact HP.out
end Go.Proofs.YtfddhafbhceoaaaGreat
namespace Go.Bs
open Go.RowKit
variable{base g:Nat}{e:TypeId}{v:Value}{w:World}
end Go.Bs
namespace Go.Proofs.YtfddhafbhceoaaaGreat
open Go.RowKit Go.Bs Go.Maps
variable{bound:Int}{B D J J' b l:List UInt8}{cs xs:List Value}{base c cb cp g gs i mb n o p sc sz:Nat}{F S:Nat → Prop}{a a1 ab ap sa:Option Addr}{s:Rs}{e t:TypeId}{v:Value}{w w' w1:World}
theorem RD{x:Tok}(h:IU.r S w cs x):∃a c,cs=[.slice a x.lit.length c,.int .i64 x.off,.int .i64 x.len]∧(-9223372036854775808≤x.off∧x.off≤9223372036854775807)∧(-9223372036854775808≤x.len∧x.len≤9223372036854775807)∧Ag.r S w [.slice a x.lit.length c] x.lit:=by
 obtain⟨c1,c2,rfl,h1,c3,c4,rfl,⟨rfl,h2⟩,rfl,h3⟩:=h;obtain⟨a,c,rfl,h4,_⟩:=AJ h1;exact⟨a,c,rfl,bounds_i64 h2,bounds_i64 h3,h4⟩
theorem SS{xs:List Tok}(h:OG.r S w [.slice a n c] xs)(hi:i<xs.length):∃b off,a=some ⟨b,off,none⟩∧S b∧∃a' c',w.cell? ⟨b,off+i*3,none⟩=some (.slice a' xs[i].lit.length c')∧w.cell? ⟨b,off+i*3+1,none⟩=some (.int .i64 xs[i].off)∧w.cell? ⟨b,off+i*3+2,none⟩=some (.int .i64 xs[i].len)∧
  (-9223372036854775808≤xs[i].off∧xs[i].off≤9223372036854775807)∧(-9223372036854775808≤xs[i].len∧xs[i].len≤9223372036854775807)∧Ag.r S w [.slice a' xs[i].lit.length c'] xs[i].lit:=by
 obtain⟨b,off,e,hS,cs,_,hc,hA⟩:=It h hi;obtain⟨a',c',rfl,h1,h2,h3⟩:=RD hA;exact⟨b,off,e,hS,a',c',hc 0 _ rfl,hc 1 _ rfl,hc 2 _ rfl,h1,h2,h3⟩
def Ha(t:Tok):Bool:=decide (t.off=0)&&(decide (t.len=0)&&(decide (1≤t.lit.length)&&decide (t.lit.length≤1048576)))
def Gj(t:Tok):Bool:=decide (t.lit.length=0)&&(decide (1≤t.off)&&(decide (t.off≤65536)&&(decide (4≤t.len)&&decide (t.len≤1048576))))
inductive Good (b:List UInt8):Bool→Nat→List Tok→Prop where
 | nil {f:Bool}:Good b f b.length []
 | copy {f:Bool} {p o m:Nat} {rest:List Tok}:p<b.length→BU b p=(o,m)→m≠0→Good b false (p+m) rest→Good b f p (⟨[],(o:Int),(m:Int)⟩::rest)
 | run {p q:Nat} {rest:List Tok}:p<q→q≤b.length→(∀r,p≤r→r<q→(BU b r).2=0)→Good b true q rest→Good b false p (⟨(b.drop p).take (q-p),0,0⟩::rest)
theorem L1{rest:List Tok}(hip:i≤p)(hp:p≤b.length)(h:∀r,i≤r→r<p→(BU b r).2=0)(hg:∀f,Good b f p rest):Good b false i (Fm b i p++rest):=by
 unfold Fm;by_cases hlt:i<p
 ·rw[Ai hlt]
  exact .run hlt hp h (hg true)
 ·obtain rfl:i=p:=by omega
  rw[Ah hlt];exact hg false
theorem Ka(b:List UInt8):∀(f p i:Nat),b.length≤p+f→i≤p→p≤b.length→(∀r,i≤r→r<p→(BU b r).2=0)→Good b false i (Ed b f p i)
 | 0,p,i,h1,h2,h3,h4=>by
  obtain rfl:p=b.length:=zD;have:=L1 (rest:=[]) h2 h3 h4 fun f=> .nil;simpa [Ed] using this
 | f+1,p,i,h1,h2,h3,h4=>by
  simp only[Ed];by_cases hp:p<b.length
  ·rw[Ai hp]
   by_cases hm:(BU b p).2=0
   ·rw[Ai hm]
    refine Ka b f (p+1) i zD zD zD fun r hr1 hr2=> ?_;by_cases hrp:r=p
    ·rw[hrp];exact hm
    ·exact h4 r hr1 zD
   ·rw[Ah hm]
    have hroom:=(Jb b p).1;refine L1 h2 h3 h4 fun g=> .copy hp rfl hm ?_;exact Ka b f _ _ zD (Ap _) zD fun r h1 h2=>by omega
  ·rw[Ah hp]
   obtain rfl:p=b.length:=zD;have:=L1 (rest:=[]) h2 h3 h4 fun f=> .nil;simpa using this
theorem QA(b:List UInt8):Good b false 0 (Ec b):=Ka b b.length 0 0 zD (Ap _) (At _) fun r h1 h2=>by omega
theorem R8{fr:Nat × Nat}{cs:Array Value}(hcs:cs=(byteCells l).toArray)(hl:l.length≤1000000)(hb:w.heap[g]? =some (.cells cs t fr)):Ag.r (·<w.heap.size) w [.slice (some ⟨g,0,none⟩) l.length l.length] l:=by
 subst hcs;refine BL (xs:=l) rfl (Ap _) (by simp[maxLen];omega) (.inr ⟨g,0,rfl,(Array.getElem?_eq_some_iff.1 hb).1,fun i x hi=>⟨[.int .u8 (x.toNat:Int)],rfl,fun j v hj=> ?_,rfl⟩⟩);have hj0:j=0:=by
  rcases j with _ | j
  ·rfl
  ·simp at hj
 subst hj0;simp at hj;subst hj;rw[Bj,DG,CR];simp[World.cell?,hb,byteCells,hi]
theorem Jj(b:List UInt8):∀(f p i:Nat),(Ed b f p i).length≤2*f+1
 | 0,p,i=>by
  simp only[Ed,Fm];split<;>simp
 | f+1,p,i=>by
  simp only[Ed];split
  ·split
   ·have:=Jj b f (p+1) i;omega
   ·have:=Jj b f (p+(BU b p).2) (p+(BU b p).2)
    simp only[Al,AL,Fm];split<;>simp<;>omega
  ·simp only[Fm]
   split<;>simp
end Go.Proofs.YtfddhafbhceoaaaGreat
namespace Go.Bs
variable{base g:Nat}{e:TypeId}{v:Value}{w:World}
def G0:Nat→Nat→List UInt8
 | 0,x=>[UInt8.ofNat x]
 | f+1,x=>if x<128 then [UInt8.ofNat x] else UInt8.ofNat (128+x%128)::G0 f (x/128)
def AV(x:Nat):List UInt8:=G0 9 x
theorem ML:∀(f g x:Nat),x<128^(f+1)→f≤g→G0 f x=G0 g x
 | 0,0,_,_,_=>rfl
 | 0,g+1,x,h,_=>by
  have:x<128:=ZP;simp[G0,this]
 | f+1,0,_,_,h=>by omega
 | f+1,g+1,x,h,hg=>by
  simp only[G0];split
  ·rfl
  ·rw[ML f g (x/128) (by rw[EL] at h;omega) zD]
theorem FE{x:Nat}(h:x<128):AV x=[UInt8.ofNat x]:=by simp[AV,G0,h]
theorem JU{x:Nat}(h:¬x<128)(hx:x<2^64):AV x=UInt8.ofNat (128+x%128)::AV (x/128):=by
 have e:G0 8 (x/128)=G0 9 (x/128):=ML 8 9 _ zD zD;unfold AV;rw[←e];simp[G0,h]
theorem A3(x:Nat):(AV x).length≤10∧1≤(AV x).length:=by
 have:∀f x,(G0 f x).length≤f+1∧1≤(G0 f x).length:=by
  intro f;induction f with
  | zero=>intro x;simp[G0]
  | succ f ih=>intro x;simp only[G0];split<;>simp;exact (ih _).1
 exact this 9 x
end Go.Bs
namespace Go.Proofs.YtfddhafbhceoaaaGreat
open Go.RowKit Go.Bs Go.Maps
variable{bound:Int}{B D J J' b l:List UInt8}{cs xs:List Value}{base c cb cp g gs i mb n o p sc sz:Nat}{F S:Nat → Prop}{a a1 ab ap sa:Option Addr}{s:Rs}{e t:TypeId}{v:Value}{w w' w1:World}
theorem Dv(x:Nat)(hx:x<18446744073709551616)(w:World):
  Calls Tryz.prog 245 #[.int .u64 x] w fun r w'=>r=.returned (.int .i64 (AV x).length)∧Below w.heap.size w w':=by
 go_enter Tryz.func245,Tryz.ntmps245;go_wp2_with fail;go_loopw [0,3] (fun y n wr=>∃v k:Nat,y=.int .u64 v∧n=.int .i64 k∧v<18446744073709551616∧k≤10∧1≤k∧Hid ((AV x).length+1=k+(AV v).length)∧Below w.heap.size w wr) (fun y _ _=>(intOf y).toNat)
 case atStart=>exact ⟨x,1,rfl,rfl,hx,zD,zD,hid zD,Below.refl _ _⟩
 case round=>
  obtain⟨v,k,rfl,rfl,hv,hk,hk1,hs,hb⟩:=hrel;by_cases h:v<128
  ·have d1:decide ((128:Int)≤(v:Int))=false:=by simp;omega
   have hf:Hid ((AV x).length=k):=hid (by have:=hs.out;rw[FE h] at this;simpa using this);go_wp2;go_ret;exact⟨by rw[hf.out];rfl,hb⟩
  ·have d1:decide ((128:Int)≤(v:Int))=true:=by simp;omega
   have hn:Hid ((AV x).length+1=k+1+(AV (v/128)).length):=hid (by have:=hs.out;rw[JU h (by omega)] at this;simp at this;omega);have hk10:k+1≤10:=by have:=hn.out;have:=A3 x;have:=A3 (v/128);omega
   go_wp2_with fail;go_outline
   go_roundw
   case rel=>exact ⟨v/128,k+1,zT,zT,zD,zD,zD,hn,hb⟩
   case measure=>simp [intOf];omega
end Go.Proofs.YtfddhafbhceoaaaGreat
namespace Go.Bs
open Go.RowKit
variable{base g:Nat}{e:TypeId}{v:Value}{w:World}
theorem LJ(hb:base≤g)(h:w.heap[g]? =some (.cells #[v] e (0,0))):w.ownsRow base e 1 (.slice (some ⟨g,0,none⟩) 1 1) 1 [v]:=
 ⟨rfl,.inr ⟨g,1,#[v],rfl,hb,h,Ap _,zO,rfl,rfl⟩⟩
theorem DY(J:List UInt8)(b:UInt8):byteCells J++[.int .u8 (b.toNat:Int)]=byteCells (J++[b]):=Z7
theorem FZ{x:Nat}(h:x<256):(x:Int)=((UInt8.ofNat x).toNat:Int):=by
 simp;omega
theorem UQ:∀n:Nat,n<256→bits .or .u8 (n:Int) 128=128+(n:Int)%128:=zF
theorem Uu(v:Nat):bits .or .u8 ((v:Int)%256) 128=((UInt8.ofNat (128+v%128)).toNat:Int):=by
 have h:=UQ (v%256) zD;rw[show (((v%256:Nat)):Int)=(v:Int)%256 by omega] at h;rw[h,←FZ zD];omega
end Go.Bs
namespace Go.Proofs.YtfddhafbhceoaaaGreat
open Go.RowKit Go.Bs Go.Maps
variable{bound:Int}{B D J J' b l:List UInt8}{cs xs:List Value}{base c cb cp g gs i mb n o p sc sz:Nat}{F S:Nat → Prop}{a a1 ab ap sa:Option Addr}{s:Rs}{e t:TypeId}{v:Value}{w w' w1:World}
theorem Nx(x:Nat)(hx:x<18446744073709551616)(w:World):
  Calls Tryz.prog 238 #[.int .u64 x] w fun r w'=>∃v,r=.returned v∧Ag.r (fun b=>w.heap.size≤b∧b<w'.heap.size) w' [v] (AV x)∧Below w.heap.size w w':=by
 obtain⟨i0,hi,hz0,hz1,hz2⟩:=A1 Eu;go_enter Tryz.func238,Tryz.ntmps238;go_wp2_with fail;go_loopw [0,3] (fun y o wr=>∃(v:Nat) (J:List UInt8),y=.int .u64 v∧v<18446744073709551616∧wr.ownsRow w.heap.size 5 1 o J.length (byteCells J)∧Hid (AV x=J++AV v)∧Below w.heap.size w wr) (fun y _ _=>(intOf y).toNat)
 case atStart=>exact ⟨x,[],rfl,hx,⟨rfl,.inl ⟨rfl,rfl⟩⟩,hid rfl,Below.refl _ _⟩
 case round=>
  obtain⟨v,J,rfl,hv,hown,hs,hb⟩:=hrel;have hbs:=hb.size;have hJ:J.length≤10:=by have h1:=A3 x;rw[hs.out] at h1;simp at h1;omega
  obtain⟨aJ,cJ,rfl⟩:=AX hown;have HO:=hid hown;clear hown;by_cases h:v<128
  ·have d1:decide ((128:Int)≤(v:Int))=false:=by simp;omega
   have hfin:Hid (AV x=J++[UInt8.ofNat v]):=hid (by rw[hs.out,FE h]);have hby:Hid ((v:Int)=((UInt8.ofNat v).toNat:Int)):=hid (FZ zD);go_wp2_with (at_builtin;go_loud (refine AA rfl _ _ _ rfl w.heap.size 5 i0 (.int .u8 0) 1 1 AG hi hz0 hz1 hz2 rfl zO (.slice aJ J.length cJ) J.length (byteCells J) rfl (Bp HO.out zB) (some ⟨wr.heap.size,0,none⟩) 1 1 [.int .u8 (v:Int)] rfl (BS wr 5 _ rfl rfl rfl) ZB zN zD zI ?_;intro v' w1 hown1 hgrow1 hat1;have HG:=hid hgrow1;have HO1:=hid hown1;clear hgrow1 hown1 hat1))
   have ho:=HO1.out;rw[hby.out,DY,←hfin.out] at ho;have hlen:J.length+1=(AV x).length:=by rw[hfin.out];simp
   have hV:=Cg hlen ho;have hB:Below w.heap.size w w1:=Below.grown zB HG.out zI (fun g e=>(HO.out.lt g e).1);have HV:=hid hV;clear ho hlen hV;go_wp2;go_ret;exact⟨_,rfl,HV.out,hB⟩
  ·have d1:decide ((128:Int)≤(v:Int))=true:=by simp;omega
   have hfin:Hid (AV x=(J++[UInt8.ofNat (128+v%128)])++AV (v/128)):=hid (by rw[hs.out,JU h (by omega)];simp);have hor:=Uu v;generalize UInt8.ofNat (128+v%128)=bb at*;go_wp2_with (at_builtin;go_loud (refine AA rfl _ _ _ rfl w.heap.size 5 i0 (.int .u8 0) 1 1 AG hi hz0 hz1 hz2 rfl zO (.slice aJ J.length cJ) J.length (byteCells J) rfl (Bp HO.out zB) (some ⟨wr.heap.size,0,none⟩) 1 1 [.int .u8 (bb.toNat:Int)] rfl (BS wr 5 _ rfl rfl rfl) ZB zN zD zI ?_;intro v' w1 hown1 hgrow1 hat1;have HG:=hid hgrow1;have HO1:=hid hown1;clear hgrow1 hown1 hat1))
   have ho:=HO1.out;rw[DY] at ho;have hB:Below w.heap.size w w1:=Below.grown zB HG.out zI (fun g e=>(HO.out.lt g e).1);have HO2:=hid ho;clear ho HO1;go_wp2_with fail;go_roundw
   case rel=>exact ⟨v/128,J++[bb],zT,zD,(by rw[Al];exact HO2.out),hfin,hB⟩
   case measure=>simp [intOf];omega
structure Bn(w:World)(g base most:Nat)(J:List UInt8)(a:Option Addr)(c:Nat):Prop where
 blk:Blk w g 276 #[.int .i64 most,.slice a J.length c,.int .i64 0]
 own:w.ownsRow base 5 1 (.slice a J.length c) J.length (byteCells J)
 ne:(Value.slice a J.length c).ownBlock≠some g
 lo:base≤g
 le:J.length≤most
 most:most≤4611686018427387904
 len:J.length≤100000000000000
def C5(g:Nat)(a:Option Addr)(q:Nat):Prop:=q=g∨∃p,a=some p∧p.block=q
theorem JZ:(Value.slice a n c).ownBlock=a.map Addr.block:=by cases a<;>rfl
def Az(w:World)(g base most:Nat)(J':List UInt8)(a:Option Addr)(w':World):Prop:=
 ∃a' c',Bn w' g base most J' a' c'∧Tch (C5 g a) w w'∧(a'.map Addr.block=a.map Addr.block∨∃q,a'.map Addr.block=some q∧w.heap.size≤q)
theorem Az.refl{most:Nat}(h:Bn w g base most J a c):Az w g base most J a w:=⟨a,c,h,Tch.refl _ _,.inl rfl⟩
theorem Fk{q:Nat}:C5 g a q↔q=g∨a.map Addr.block=some q:=by unfold C5;simp
theorem Az.trans{w2:World}{most:Nat}{J:List UInt8}(h1:Tch (C5 g a) w w1)(h2:a1.map Addr.block=a.map Addr.block∨∃q,a1.map Addr.block=some q∧w.heap.size≤q)(k:Az w1 g base most J' a1 w2):Az w g base most J' a w2:=by
 obtain⟨a2,c2,k1,k2,k3⟩:=k;have hs:=h1.size;refine⟨a2,c2,k1,h1.trans k2 fun q hq e=> ?_,?_⟩
 ·rw[Fk] at e ⊢
  rcases e with e | e
  ·exact .inl e
  ·rcases h2 with h2 | ⟨q',h2,h3⟩
   ·exact .inr (h2 ▸ e)
   ·rw[h2] at e;simp at e;omega
 ·rcases k3 with k3 | ⟨q,k3,k4⟩
  ·rcases h2 with h2 | ⟨q',h2,h3⟩
   ·exact .inl (k3.trans h2)
   ·exact .inr ⟨q',k3.trans h2,h3⟩
  ·exact .inr ⟨q,k3,zD⟩
theorem Az.later{w2:World}{most:Nat}(h:Below w.heap.size w w1)(k:Az w1 g base most J' a w2):Az w g base most J' a w2:=Az.trans (J:=J') (Tch.Bz h) (.inl rfl) k
theorem Bn.later{most:Nat}(h:Bn w g base most J a c)(hb:Below w.heap.size w w1):Bn w1 g base most J a c:=
 ⟨h.blk.later hb,Bp h.own hb,h.ne,h.lo,h.le,h.most,h.len⟩
theorem Bn.new(w:World)(most:Nat)(hm:most≤4611686018427387904):Bn (w.alloc (.cells #[.int .i64 most,.slice none 0 0,.int .i64 0] 276)) w.heap.size w.heap.size most [] none 0:=
 ⟨Blk.new w _ _,⟨rfl,.inl ⟨rfl,rfl⟩⟩,ZU,Ap _,At _,hm,At _⟩
theorem Jv(w:World){most:Nat}(h:Bn w g base most J a c):
  Calls Tryz.prog 235 #[.pointer (some ⟨g,0,none⟩)] w fun r w'=>r=.returned (.int .i64 0)∧w=w':=by
 have c2:w.cell? ⟨g,2,none⟩=some (.int .i64 0):=h.blk.cell 2;clear h;go_enter Tryz.func235,Tryz.ntmps235;go_wp2;go_ret;exact⟨rfl,rfl⟩
theorem S7(w:World){most:Nat}{J:List UInt8}(h:Bn w g base most J a c):
  Calls Tryz.prog 236 #[.pointer (some ⟨g,0,none⟩)] w fun r w'=>r=.returned (.int .i64 ((most:Int)-J.length))∧Below w.heap.size w w':=by
 have C0:=fun s:AE w=>s.cell (h.blk.cell 0);have C1:=fun s:AE w=>s.cell (h.blk.cell 1);simp at C0 C1;have hle:=h.le;have hmo:=h.most;clear h;go_enter Tryz.func236,Tryz.ntmps236;go_wp2_with fail;refine Ax zJ zJ ?_;repeat (go_big_quiet_step (fail))
 refine AI ?_;rintro W5 ⟨⟨W5',hb5⟩,rfl⟩;go_wp2;go_ret;exact⟨zAf,hb5⟩
theorem EV(w:World)(most:Nat)(hm:most≤4611686018427387904):
  Calls Tryz.prog 160 #[.int .i64 most] w fun r w'=>r=.returned (.pointer (some ⟨w.heap.size,0,none⟩))∧Bn w' w.heap.size w.heap.size most [] none 0∧Below w.heap.size w w':=by
 have hN:=hid (Bn.new w most hm);have d1:max (most:Int) 0=most:=zD;have d2:(if (most:Int)<0 then (0:Int) else most)=most:=ZR;go_enter Tryz.func160,Tryz.ntmps160;go_wp2;go_ret;exact⟨rfl,hN.out,zB⟩
theorem S8{w2:World}{most:Nat}{a':Option Addr}{c':Nat}(h:Bn w1 g base most J a c)(hfit:J.length+D.length≤most)(hlen:J.length+D.length≤100000000000000)
 (hown:w2.ownsRow base 5 1 (.slice a' (J.length+D.length) c') (J.length+D.length) (byteCells J++byteCells D)) (hgrow:w1.grownBy w2 (Value.slice a J.length c).ownBlock)
 (hat:(Value.slice a' (J.length+D.length) c').ownBlock=(Value.slice a J.length c).ownBlock∨(Value.slice a' (J.length+D.length) c').ownBlock=some w1.heap.size):
  Az w1 g base most (J++D) a (w2.setCell ⟨g,1,none⟩ (.slice a' (J.length+D.length) c')):=by
 have hg:=h.blk.lt;have hs:=hgrow.size;have hn2:(Value.slice a' (J.length+D.length) c').ownBlock≠some g:=fun e=>by
  rcases hat with h1 | h1
  ·rw[h1] at e;exact h.ne e
  ·rw[h1] at e;simp at e;omega
 have hsz:(w2.setCell ⟨g,1,none⟩ (.slice a' (J.length+D.length) c')).heap.size=w2.heap.size:=zY;have hll:(J++D).length=J.length+D.length:=Al;have hbb:byteCells (J++D)=byteCells J++byteCells D:=Z7;refine⟨a',c',⟨?_,?_,?_,h.lo,zD,h.most,zD⟩,?_,?_⟩
 ·rw[hll]
  exact (h.blk.grown hgrow (fun e=>h.ne e.symm)).set 1 _
 ·rw[hll,hbb]
  exact Hg hown fun q hq=>Aw w2 _ _ q (fun e=>hn2 (by rw[hq,e]))
 ·rw[hll];exact hn2
 ·refine⟨hgrow.os,hgrow.tape,hgrow.output,by rw[hsz];exact hs,fun q hq hf=> ?_⟩
  rw[Fk] at hf;exact (Aw w2 _ _ q (fun e=>hf (.inl e))).trans (hgrow.block q hq (fun e=>hf (.inr (by rw[JZ] at e;exact e.symm))))
 ·rw[JZ,JZ] at hat
  rcases hat with h1 | h1
  ·exact .inl h1
  ·exact .inr ⟨_,h1,Ap _⟩
theorem Ej(w:World){g base most:Nat}{J:List UInt8}{a:Option Addr}(h:Bn w g base most J a c)(D:List UInt8)(ad:Option Addr)(nd cd:Nat)(hD:Ag.r (·<w.heap.size) w [.slice ad nd cd] D)(hfit:J.length+D.length≤most)(hlen:J.length+D.length≤100000000000000):
  Calls Tryz.prog 161 #[.pointer (some ⟨g,0,none⟩),.slice ad nd cd] w fun r w'=>r=.returned (.tuple #[])∧Az w g base most (J++D) a w':=by
 obtain⟨rfl,hm,_,_⟩:=AH hD;obtain⟨i0,hi,hz0,hz1,hz2⟩:=A1 Eu;have HC:=hid (Jv w h);have HR:=hid (S7 w h);have HP:=hid h;have HD:=hid hD;have HONE:=hid (A7 D);have hmo:=h.most;have d1:decide ((most:Int)-(J.length:Int)<(D.length:Int))=false:=zI;clear h hD;go_enter Tryz.func161,Tryz.ntmps161;go_wp2_with fail;refine HC.out.mono ?_;rintro r w0 ⟨rfl,rfl⟩;go_wp2_with fail;refine HR.out.mono ?_;rintro r w1 ⟨rfl,hb1⟩;have hP1:=HP.out.later hb1;have c1:w1.cell? ⟨g,1,none⟩=some (.slice a J.length c):=hP1.blk.cell 1;have hg1:=hP1.blk.lt;have f1:=hP1.blk.free 1;have hne:=hP1.ne;have hlo:=hP1.lo;have HP1:=hid hP1;have HS:=hid (BH (lift HD.out hb1));clear hP1;go_wp2_with (at_builtin;go_loud (refine AA rfl _ _ _ rfl base 5 i0 (.int .u8 0) 1 1 AG hi hz0 hz1 hz2 rfl zO (.slice a J.length c) J.length (byteCells J) rfl HP1.out.own ad D.length cd (byteCells D) rfl HS.out HONE.out zN zD zD ?_;intro v' w2 hown2 hgrow2 hat2;obtain⟨a',c',rfl⟩:=AX hown2;have f2:=(BE (a:=⟨g,1,none⟩) (hgrow2.block g hg1 (fun e=>hne e.symm))).trans f1;have e2:=(AQ (a:=⟨g,1,none⟩) (hgrow2.block g hg1 (fun e=>hne e.symm))).trans c1;have hz2':g<w2.heap.size:=Ao hg1 hgrow2.size;have HG:=hid hgrow2;have HO:=hid hown2;have HAT:=hid hat2;clear hgrow2 hown2 hat2))
 have hst:=Az.later hb1 (S8 HP1.out hfit hlen HO.out HG.out HAT.out);have HST:=hid hst;clear hst;go_wp2;go_end0
 exact⟨rfl,HST.out⟩
theorem Es(w:World){most:Nat}{J:List UInt8}(h:Bn w g base most J a c):
  Calls Tryz.prog 165 #[.pointer (some ⟨g,0,none⟩)] w fun r w'=>∃v,r=.returned (.tuple #[v,.int .i64 0])∧Ag.r (fun q=>w.heap.size≤q∧q<w'.heap.size) w' [v] J∧Below w.heap.size w w':=by
 obtain⟨i0,hi,hz0,hz1,hz2⟩:=A1 Eu;have HC:=hid (Jv w h);have hB:=Cg rfl h.own;obtain⟨_,hm,_,_⟩:=AH hB;have HD:=hid (Ag.mono hB (S':=(·<w.heap.size)) fun q hq=>hq.2);have HONE:=hid (A7 J);have c1:w.cell? ⟨g,1,none⟩=some (.slice a J.length c):=h.blk.cell 1;have hg1:=h.blk.lt;have hle:=h.le;have hmo:=h.most;have hle14:=h.len;clear h hB;go_enter Tryz.func165,Tryz.ntmps165;go_wp2_with fail;refine HC.out.mono ?_;rintro r w0 ⟨rfl,rfl⟩;go_wp2_with (at_builtin;go_loud (refine AA rfl _ _ _ rfl w.heap.size 5 i0 (.int .u8 0) 1 1 AG hi hz0 hz1 hz2 rfl zO _ 0 [] rfl (D4 _ (Ap _) rfl) a J.length c (byteCells J) rfl (BH (lift HD.out zB)) HONE.out zN zD zQ ?_;intro v' w1 hown1 hgrow1 hat1;rw[Bj,A8] at hown1;obtain⟨a',c',rfl⟩:=AX hown1;have HG:=hid hgrow1;have HO:=hid hown1;clear hgrow1 hown1 hat1))
 have hA:=Cg rfl HO.out;have hb1:Below w.heap.size w w1:=Below.grown zB HG.out zQ (fun g e=>by
  have e':some w.heap.size=some g:=e;injection e' with e';omega)
 have HA:=hid hA;clear hA;go_ret2
 exact⟨_,rfl,HA.out,hb1⟩
def Ca(t:Tok):Bool:=Ha t || Gj t
theorem Kn(x:Tok)(a:Option Addr)(c:Nat)(w:World)(hl:x.lit.length≤9223372036854775807)(h1: -9223372036854775808≤x.off∧x.off≤9223372036854775807)(h2: -9223372036854775808≤x.len∧x.len≤9223372036854775807):
  Calls Tryz.prog 383 #[.agg #[.slice a x.lit.length c,.int .i64 x.off,.int .i64 x.len]] w fun r w'=>r=.returned (.bool (Ca x))∧Below w.heap.size w w':=by
 obtain⟨D,o,m⟩:=x;dsimp only at*;by_cases k0:o=0
 ·skip
  have k0_0:(o==0)=true:=beq_iff_eq.2 zD;by_cases k1:m=0
  ·skip
   have k1_0:(m==0)=true:=beq_iff_eq.2 zD;by_cases k2:1≤D.length
   ·skip
    have k2_0:decide ((1:Int)≤(D.length:Int))=true:=Ad zD;have k2_1:decide (1≤D.length)=true:=Ad zD;by_cases k3:D.length≤1048576
    ·skip
     have k3_0:decide ((D.length:Int)≤1048576)=true:=Ad zD;have k3_1:decide (D.length≤1048576)=true:=Ad zD;have hff:Hid (Ca ⟨D,o,m⟩=true):=hid (by simp only[Ca,Ha,Gj,BR,Aq,Ar];first | omega | (simp;omega));clear hl h1 h2;go_enter Ft,EM;go_wp2;go_ret;exact⟨zK,zB⟩
    ·skip
     have k3_0:decide ((D.length:Int)≤1048576)=false:=Ae zD;have k3_1:decide (D.length≤1048576)=false:=Ae zD;have hff:Hid (Ca ⟨D,o,m⟩=false):=hid (by rw[←Fb];simp only[Ca,Ha,Gj,BR,Aq,Ar];first | omega | (simp;omega));clear hl h1 h2;go_enter Ft,EM;go_wp2;go_ret;exact⟨zK,zB⟩
   ·skip
    have k2_0:decide ((1:Int)≤(D.length:Int))=false:=Ae zD;have k2_1:decide (1≤D.length)=false:=Ae zD;have hff:Hid (Ca ⟨D,o,m⟩=false):=hid (by rw[←Fb];simp only[Ca,Ha,Gj,BR,Aq,Ar];first | omega | (simp;omega));clear hl h1 h2;go_enter Ft,EM;go_wp2;go_ret;exact⟨zK,zB⟩
  ·skip
   have k1_0:(m==0)=false:=beq_eq_false_iff_ne.2 zD;have hff:Hid (Ca ⟨D,o,m⟩=false):=hid (by rw[←Fb];simp only[Ca,Ha,Gj,BR,Aq,Ar];first | omega | (simp;omega));clear hl h1 h2;go_enter Ft,EM;go_wp2;go_ret;exact⟨zK,zB⟩
 ·skip
  have k0_0:(o==0)=false:=beq_eq_false_iff_ne.2 zD;by_cases k4:0<D.length
  ·skip
   have k4_0:decide ((0:Int)<(D.length:Int))=true:=Ad zD;have k4_1:decide (0<D.length)=true:=Ad zD;have hff:Hid (Ca ⟨D,o,m⟩=false):=hid (by rw[←Fb];simp only[Ca,Ha,Gj,BR,Aq,Ar];first | omega | (simp;omega));clear hl h1 h2;go_enter Ft,EM;go_wp2;go_ret;exact⟨zK,zB⟩
  ·skip
   obtain rfl:D=[]:=AS zD;simp only[By] at*;by_cases k5:o<0
   ·skip
    have k5_0:decide (o<0)=true:=Ad zD;have hff:Hid (Ca ⟨[],o,m⟩=false):=hid (by rw[←Fb];simp only[Ca,Ha,Gj,BR,Aq,Ar,By];first | omega | (simp;omega));clear hl h1 h2;go_enter Ft,EM;go_wp2;go_ret;exact⟨zK,zB⟩
   ·skip
    have k5_0:decide (o<0)=false:=Ae zD;by_cases k6:65536<o
    ·skip
     have k6_0:decide ((65536:Int)<o)=true:=Ad zD;have hff:Hid (Ca ⟨[],o,m⟩=false):=hid (by rw[←Fb];simp only[Ca,Ha,Gj,BR,Aq,Ar,By];first | omega | (simp;omega));clear hl h1 h2;go_enter Ft,EM;go_wp2;go_ret;exact⟨zK,zB⟩
    ·skip
     have k6_0:decide ((65536:Int)<o)=false:=Ae zD;by_cases k7:4≤m
     ·skip
      have k7_0:decide ((4:Int)≤m)=true:=Ad zD;by_cases k8:m≤1048576
      ·skip
       have k8_0:decide (m≤1048576)=true:=Ad zD;have hff:Hid (Ca ⟨[],o,m⟩=true):=hid (by simp only[Ca,Ha,Gj,BR,Aq,Ar,By];first | omega | (simp;omega));clear hl h1 h2;go_enter Ft,EM;go_wp2;go_ret;exact⟨zK,zB⟩
      ·skip
       have k8_0:decide (m≤1048576)=false:=Ae zD;have hff:Hid (Ca ⟨[],o,m⟩=false):=hid (by rw[←Fb];simp only[Ca,Ha,Gj,BR,Aq,Ar,By];first | omega | (simp;omega));clear hl h1 h2;go_enter Ft,EM;go_wp2;go_ret;exact⟨zK,zB⟩
     ·skip
      have k7_0:decide ((4:Int)≤m)=false:=Ae zD;have hff:Hid (Ca ⟨[],o,m⟩=false):=hid (by rw[←Fb];simp only[Ca,Ha,Gj,BR,Aq,Ar,By];first | omega | (simp;omega));clear hl h1 h2;go_enter Ft,EM;go_wp2;go_ret;exact⟨zK,zB⟩
theorem Cl(w:World){g base most:Nat}{J:List UInt8}{a:Option Addr}(h:Bn w g base most J a c)(x:Nat)(hx:x<18446744073709551616)(hfit:J.length+(AV x).length≤most)(hlen:J.length+(AV x).length≤100000000000000):
  Calls Tryz.prog 163 #[.pointer (some ⟨g,0,none⟩),.int .u64 x] w fun r w'=>r=.returned (.tuple #[])∧Az w g base most (J++AV x) a w':=by
 have HV:=hid (Nx x hx w);have HP:=hid h;clear h;go_enter Tryz.func163,Tryz.ntmps163;go_wp2_with fail;refine HV.out.mono ?_;rintro r w1 ⟨v,rfl,hr,hb1⟩;obtain⟨a1,c1,hv,hr2,_⟩:=AJ hr;simp only[As,AF] at hv;subst hv;have HQ:=hid (Ej w1 (HP.out.later hb1) (AV x) a1 _ c1 (Ag.mono hr2 fun q hq=>hq.2) hfit hlen);clear hr hr2;go_wp2_with fail;refine HQ.out.mono ?_;rintro r w2 ⟨rfl,hst⟩;have HST:=hid (Az.later hb1 hst);clear hst;go_wp2;first | go_end0 | refine An (AO rfl _ _ _) rfl ?_
 exact⟨rfl,HST.out⟩
def IL(t:Tok):List UInt8:=if Ha t then AV (2*t.lit.length-2)++t.lit else AV (2*t.len.toNat-7)++AV (t.off.toNat-1)
theorem SU(D:List UInt8)(h1:1≤D.length)(h2:D.length≤1048576):IL ⟨D,0,0⟩=AV (2*D.length-2)++D:=by
 unfold IL;rw[Ai];simp[Ha];omega
theorem RE(o m:Nat)(h1:1≤o):IL ⟨[],(o:Int),(m:Int)⟩=AV (2*m-7)++AV (o-1):=by
 unfold IL;rw[Ah]
 ·simp
 ·simp[Ha]
theorem Bn.Bo{most:Nat}(h:Bn w g base most J a c){q:Nat}(hq:C5 g a q):base≤q∧q<w.heap.size:=by
 rcases hq with rfl | ⟨p,hp,rfl⟩
 ·exact⟨h.lo,h.blk.lt⟩
 ·subst hp
  exact h.own.lt _ rfl
theorem Mw(w:World){g base most:Nat}{J:List UInt8}{a:Option Addr}(h:Bn w g base most J a c)(D:List UInt8)(h1:1≤D.length)(h2:D.length≤1048576)(ad:Option Addr)(cd:Nat)
 (hD:Ag.r (fun q=>q<w.heap.size∧¬C5 g a q) w [.slice ad D.length cd] D) (hfit:J.length+(IL ⟨D,0,0⟩).length≤most) (hlen:J.length+(IL ⟨D,0,0⟩).length≤100000000000000):
  Calls Tryz.prog 376 #[.pointer (some ⟨g,0,none⟩),.agg #[.slice ad D.length cd,.int .i64 0,.int .i64 0]] w fun r w'=>r=.returned (.tuple #[])∧Az w g base most (J++IL ⟨D,0,0⟩) a w':=by
 have HR:=hid (fun (W:World)=>Kn ⟨D,0,0⟩ ad cd W zH ⟨zQ,zQ⟩ ⟨zQ,zQ⟩);have hr:Ca ⟨D,0,0⟩=true:=by simp[Ca,Ha];omega
 rw[hr] at HR;have hT:=SU D h1 h2;rw[hT] at hfit hlen ⊢;rw[Al] at hfit hlen;have HV:=hid (fun (W:World) (hW:Below w.heap.size w W)=>Cl W (h.later hW) (2*D.length-2) zD zD zD);have hno:=fun q (hq:C5 g a q)=>(h.Bo hq).2;have HNO:=hid hno;have HD:=hid hD;have hfit':=hid hfit;have hlen':=hid hlen;have e0:(((2*D.length-2:Nat)):Int)=((D.length:Int)-1)*2:=zD;rw[e0] at HV;clear hr hT h hD hno hfit hlen;go_enter Tryz.func376,Tryz.ntmps376;go_wp2_with fail;refine (HR.out _).mono ?_;rintro r w1 ⟨rfl,hb1⟩;have B1:Blk w1 w.heap.size 304 #[.slice ad D.length cd,.int .i64 0,.int .i64 0]:=(Blk.new w _ _).later hb1;have x0:w1.cell? ⟨w.heap.size,0,none⟩=some (.slice ad D.length cd):=B1.cell 0;have x1:w1.cell? ⟨w.heap.size,1,none⟩=some (.int .i64 0):=B1.cell 1;have hbw1:Below w.heap.size w w1:=zB;go_wp2_with fail;refine (HV.out _ hbw1).mono ?_;rintro r w2 ⟨rfl,a2,c2,hp2,ht2,ha2⟩;have B2:=B1.tch ht2 (fun hf=>by have:=HNO.out _ hf;omega);have y0:w2.cell? ⟨w.heap.size,0,none⟩=some (.slice ad D.length cd):=B2.cell 0;have hs1:=hbw1.size;have hD2:Ag.r (·<w2.heap.size) w2 [.slice ad D.length cd] D:=Ag.mono (Ag.keep HD.out fun q hq=>(ht2.block q zD hq.2).trans (hbw1.block q hq.1)) fun q hq=>Ao hq.1 (by have:=ht2.size;omega);have HQ:=hid (Ej w2 hp2 D ad _ cd hD2 zAb zAa);clear x0 x1 hD2;go_wp2_with fail;refine HQ.out.mono ?_;rintro r w3 ⟨rfl,hst⟩;have hst2:=Az.later hbw1 (Az.trans (J:=J) ht2 ha2 hst);rw[AB] at hst2;have HST:=hid hst2;clear hst hst2;go_wp2;first | go_end0 | refine An (AO rfl _ _ _) rfl ?_
 exact⟨rfl,HST.out⟩
theorem Lm(w:World){g base most:Nat}{J:List UInt8}(h:Bn w g base most J a c)(o m:Nat)(h1:1≤o)(h2:o≤65536)(h3:4≤m)(h4:m≤1048576)(ad:Option Addr)(cd:Nat)
 (hfit:J.length+(IL ⟨[],(o:Int),(m:Int)⟩).length≤most) (hlen:J.length+(IL ⟨[],(o:Int),(m:Int)⟩).length≤100000000000000):
  Calls Tryz.prog 376 #[.pointer (some ⟨g,0,none⟩),.agg #[.slice ad 0 cd,.int .i64 o,.int .i64 m]] w fun r w'=>r=.returned (.tuple #[])∧Az w g base most (J++IL ⟨[],(o:Int),(m:Int)⟩) a w':=by
 have HR:=hid (fun (W:World)=>Kn ⟨[],(o:Int),(m:Int)⟩ ad cd W zQ zH zH);have hr:Ca ⟨[],(o:Int),(m:Int)⟩=true:=by simp[Ca,Gj];omega
 rw[hr] at HR;have hT:=RE o m h1;rw[hT] at hfit hlen ⊢;rw[Al] at hfit hlen;have HV:=hid (fun (W:World) (hW:Below w.heap.size w W)=>Cl W (h.later hW) (2*m-7) zD zD zD);have hno:=fun q (hq:C5 g a q)=>(h.Bo hq).2;have HNO:=hid hno;have hfit':=hid hfit;have hlen':=hid hlen;have e0:(((2*m-7:Nat)):Int)=((m:Int)-4)*2+1:=zD;rw[e0] at HV;have d1:((o:Int)==0)=false:=zI;have d2:(o==0)=false:=zI;simp only[By] at HR;clear hr hT h hno hfit hlen;go_enter Tryz.func376,Tryz.ntmps376;go_wp2_with fail;refine (HR.out _).mono ?_;rintro r w1 ⟨rfl,hb1⟩;have B1:Blk w1 w.heap.size 304 #[.slice ad 0 cd,.int .i64 o,.int .i64 m]:=(Blk.new w _ _).later hb1;have x1:w1.cell? ⟨w.heap.size,1,none⟩=some (.int .i64 o):=B1.cell 1;have x2:w1.cell? ⟨w.heap.size,2,none⟩=some (.int .i64 m):=B1.cell 2;have hbw1:Below w.heap.size w w1:=zB;go_wp2_with fail;refine (HV.out _ hbw1).mono ?_;rintro r w2 ⟨rfl,a2,c2,hp2,ht2,ha2⟩;have B2:=B1.tch ht2 (fun hf=>by have:=HNO.out _ hf;omega);have y1:w2.cell? ⟨w.heap.size,1,none⟩=some (.int .i64 o):=B2.cell 1;have HQ:=hid (Cl w2 hp2 (o-1) zD zAb zAa);rw[show ((o-1:Nat):Int)=(o:Int)-1 by omega] at HQ;clear x1 x2;go_wp2_with fail;refine HQ.out.mono ?_;rintro r w3 ⟨rfl,hst⟩;have hst2:=Az.later hbw1 (Az.trans (J:=J) ht2 ha2 hst);rw[AB] at hst2;have HST:=hid hst2;clear hst hst2;go_wp2;first | go_end0 | refine An (AO rfl _ _ _) rfl ?_
 exact⟨rfl,HST.out⟩
def EZ(xs:List Tok):Nat:=(xs.map fun t=>t.lit.length+20).sum
def Dx(xs:List Tok):List UInt8:=(xs.map IL).flatten
theorem Lw(xs:List Tok)(k:Nat)(h:k<xs.length):EZ (xs.take (k+1))=EZ (xs.take k)+(xs[k].lit.length+20):=by
 unfold EZ;rw[AR h,Cs,List.sum_append];simp
theorem Nz(xs:List Tok)(k:Nat)(h:k<xs.length):Dx (xs.take (k+1))=Dx (xs.take k)++IL xs[k]:=by
 unfold Dx;rw[AR h,Cs,EY];simp
theorem Lx(xs:List Tok)(hL:∀t∈xs,t.lit.length≤1048576)(k:Nat)(hk:k≤xs.length):EZ (xs.take k)≤k*1048596:=by
 induction k with
 | zero=>simp [EZ]
 | succ k ih=>
  rw[Lw xs k zD];have:=ih zD;have:=hL _ (AT (show k<xs.length by omega));omega
theorem PR(xs:List Tok)(k:Nat):EZ (xs.take k)≤EZ xs:=by
 have:EZ xs=EZ (xs.take k)+EZ (xs.drop k):=by
  unfold EZ;conv=>lhs;rw[←Dr k xs]
  rw[Cs,List.sum_append]
 omega
theorem SV(t:Tok):(IL t).length≤t.lit.length+20:=by
 unfold IL;split
 ·rw[Al];have:=A3 (2*t.lit.length-2);omega
 ·rw[Al];have:=A3 (2*t.len.toNat-7);have:=A3 (t.off.toNat-1);omega
theorem Km(xs:List Tok):(Dx xs).length≤EZ xs:=by
 unfold Dx EZ;induction xs with
 | nil=>simp
 | cons t xs ih=>simp only[DA,List.flatten_cons,Al,List.sum_cons];have:=SV t;omega
theorem Rz:(AV 18446744073709551615).length=10:=zF
theorem Hb{t:Tok}(h:Ca t=true):(∃D,t=⟨D,0,0⟩∧1≤D.length∧D.length≤1048576)∨∃o m:Nat,t=⟨[],(o:Int),(m:Int)⟩∧1≤o∧o≤65536∧4≤m∧m≤1048576:=by
 obtain⟨D,o,m⟩:=t;simp only[Ca,Ha,Gj,BR,Aq,Ar] at h;rcases h with ⟨rfl,rfl,h1,h2⟩ | ⟨h0,h1,h2,h3,h4⟩
 ·exact .inl ⟨D,rfl,h1,h2⟩
 ·refine .inr ⟨o.toNat,m.toNat,?_,zD,zD,zD,zD⟩
  rw[AS h0,Int.toNat_of_nonneg zD,Int.toNat_of_nonneg zD]
theorem PI(xs:List Tok)(a:Option Addr)(n c:Nat)(w:World)(hl:OG.r (·<w.heap.size) w [.slice a n c] xs)(hx:xs.length≤10000000)(hL:∀t∈xs,t.lit.length≤1048576):
  Calls Tryz.prog 375 #[.slice a n c] w fun r w'=>r=.returned (.int .i64 (EZ xs))∧Below w.heap.size w w':=by
 obtain⟨rfl,hm,_,_⟩:=AH hl;have HL:=hid hl;clear hl;go_enter Tryz.func375,Tryz.ntmps375;go_wp2_with fail;go_loopw [3,8] (fun s i wr=>∃k:Nat,k≤xs.length∧i=.int .i64 k∧(∃t:Nat,s=.int .i64 t∧Hid (t=EZ (xs.take k)))∧Below w.heap.size w wr) (fun _ i _=>xs.length-(intOf i).toNat)
 case atStart=>exact ⟨0,At _,rfl,⟨0,rfl,hid (by simp[EZ])⟩,Below.refl _ _⟩
 case round=>
  obtain⟨k,hk,rfl,⟨t,rfl,ht⟩,hb⟩:=hrel;rcases Be k xs.length with hlt | hge
  ·obtain⟨b,o,hA,hbb,a2,c2,x0,x1,x2,_,_,_⟩:=SS HL.out hlt
   subst hA;have X0:=(hb.cell (p:=⟨b,o+k*3,none⟩) hbb).trans x0;have X1:=(hb.cell (p:=⟨b,o+k*3+1,none⟩) hbb).trans x1;have X2:=(hb.cell (p:=⟨b,o+k*3+2,none⟩) hbb).trans x2;have hn:=hid (Lw xs k hlt);have hle:=Lx xs hL k zD;have hD:=hL _ (AT hlt);rw[←ht.out] at hle;clear x0 x1 x2;generalize xs[k]=y at*;obtain⟨D,yo,ym⟩:=y;dsimp only at*;have hbs:=hb.size;have i1:(k:Int)<(xs.length:Int):=zD;go_wp2_with fail;refine Dm (fun W=>Below wr.heap.size wr W∧wr.heap.size<W.heap.size∧W.cell? ⟨wr.heap.size,0,none⟩=some (.slice a2 D.length c2)) ⟨zB,zQ,ZJ⟩ ?_;intro W ⟨hbW,hzW,u0⟩;have U0:=fun s:AE W=>s.cell u0;have HS:=hid (fun s:AE W=>Dv 18446744073709551615 zD s.at_);rw[Rz] at HS;have hbw:=Af hbW hb;clear X0 X1 X2 u0;refine Ax zJ zJ ?_;repeat (go_big_quiet_step (((go_at_call 245;exact A9 (HS.out _)))))
   refine AI ?_;rintro W5 ⟨⟨W5',hb5⟩,rfl⟩;go_wp2;go_roundw
   case rel=>exact ⟨k+1,zD,zT,⟨t+(D.length+20),zT,hid (by rw[hn.out,ht.out])⟩,Af hb5 hbw⟩
   case measure=>simp [intOf];omega
  ·obtain rfl:k=xs.length:=by omega
   rw[BW] at ht;go_wp2;go_ret;exact⟨by rw[←ht.out];rfl,hb⟩
theorem Bn.below{most:Nat}{B:Nat}(h:Bn w g base most J a c)(hB:B≤base)(hB2:B≤w.heap.size)(k:Az w g base most J' a w'):Below B w w':=by
 obtain⟨a',c',k1,k2,k3⟩:=k;exact k2.Cq hB2 fun b _ hb=>A6 hB (h.Bo hb).1
theorem On(xs:List Tok)(a:Option Addr)(n c:Nat)(w:World)(hl:OG.r (·<w.heap.size) w [.slice a n c] xs)(hx:xs.length≤10000000)(hR:∀t∈xs,Ca t=true):
  Calls Tryz.prog 368 #[.slice a n c] w fun r w'=>∃v,r=.returned (.tuple #[v,.int .i64 0])∧Ag.r (fun q=>w.heap.size≤q∧q<w'.heap.size) w' [v] (Dx xs)∧Below w.heap.size w w':=by
 obtain⟨rfl,hm,_,_⟩:=AH hl;have hL:∀t∈xs,t.lit.length≤1048576:=fun t ht=>by
  rcases Hb (hR t ht) with ⟨D,rfl,h1,h2⟩ | ⟨o,m,rfl,_⟩
  ·exact h2
  ·simp
 have HRM:=hid (PI xs a _ c w hl hx hL);have hrl:=Lx xs hL xs.length (Ap _);rw[BW] at hrl;have HMO:=hid (fun k=>PR xs k);have HL:=hid hl;have HR:=hid hR;clear hl hR hL;generalize hM:EZ xs=M at*;have hMM:=hid hM;clear hM;go_enter Tryz.func368,Tryz.ntmps368;go_wp2_with fail;refine HRM.out.mono ?_;rintro r w1 ⟨rfl,hb1⟩;have HN:=hid (EV w1 M zD);go_wp2_with fail;refine HN.out.mono ?_;rintro r w2 ⟨rfl,hp2,hb2⟩;have hs1:=hb1.size;have hs2:=hb2.size;have HP2:=hid hp2;have hbw2:=Af hb2 hb1;clear hp2;generalize hg:w1.heap.size=g at*;go_wp2_with fail;go_loopw [12] (fun i wr=>∃k:Nat,k≤xs.length∧i=.int .i64 k∧Hid (∃ap cp,Bn wr g g M (Dx (xs.take k)) ap cp)∧Below g w2 wr) (fun i _=>xs.length-(intOf i).toNat)
 case atStart=>exact ⟨0,At _,rfl,hid ⟨_,_,by simpa [Dx] using HP2.out⟩,Below.refl _ _⟩
 case round=>
  obtain⟨k,hk,rfl,hpen,hb⟩:=hrel;obtain⟨ap,cp,hP⟩:=hpen.out;have hbw:Below w.heap.size w wr:=⟨hb.os.trans hbw2.os,hb.tape.trans hbw2.tape,hb.output.trans hbw2.output,ZS,fun q hq=>(hb.block q zD).trans (hbw2.block q hq)⟩;have hgl:=hP.blk.lt;rcases Be k xs.length with hlt | hge
  ·obtain⟨b,o,hA,hbb,a2,c2,x0,x1,x2,_,_,xl⟩:=SS HL.out hlt
   subst hA;have X0:=(hbw.cell (p:=⟨b,o+k*3,none⟩) hbb).trans x0;have X1:=(hbw.cell (p:=⟨b,o+k*3+1,none⟩) hbb).trans x1;have X2:=(hbw.cell (p:=⟨b,o+k*3+2,none⟩) hbb).trans x2;have hst:=Nz xs k hlt;have hfit:(Dx (xs.take k)).length+(IL xs[k]).length≤M:=by
    have h1:=Km (xs.take (k+1));rw[hst,Al] at h1;have h2:=HMO.out (k+1);omega
   have hr:=HR.out _ (AT hlt);have HST:=hid hst;have HXL:=hid xl;have HFIT:=hid hfit;clear x0 x1 x2 xl hst hfit;generalize xs[k]=y at*;generalize Dx (xs.take k)=J at*;have hbs:=hb.size;have i1:(k:Int)<(xs.length:Int):=zD;have HP:=hid hP;clear hP hpen;rcases Hb hr with ⟨D,rfl,k1,k2⟩ | ⟨yo,ym,rfl,k1,k2,k3,k4⟩
   ·dsimp only at X0 X1 X2 HXL
    clear hr;go_wp2_with fail;have hbW:Below wr.heap.size wr (wr.alloc (.cells #[.slice a2 D.length c2,.int .i64 0,.int .i64 0] 304)):=zB;generalize wr.alloc (.cells #[.slice a2 D.length c2,.int .i64 0,.int .i64 0] 304)=W at*;have hzW:=hbW.size;have hPW:=HP.out.later hbW;have HQ:=hid (Mw W hPW D k1 k2 a2 c2 (Ag.mono (Ag.keep HXL.out fun q hq=>(Af hbW hbw).block q hq) fun q hq=>⟨Ao hq ZI,fun hf=>by have:=(hPW.Bo hf).1;have hq':q<w.heap.size:=hq;omega⟩) HFIT.out (by have:=HFIT.out;omega));have HPW:=hid hPW;clear X0 X1 X2 hPW;refine HQ.out.mono ?_;rintro r w5 ⟨rfl,hps⟩;have hb5:Below g w2 w5:=by
     have e1:Below g W w5:=HPW.out.below (Ap _) zD hps;exact (hb.trans (hbW.mono zD)).trans e1
    obtain⟨a5,c5,hP5,_,_⟩:=hps;have HP5:=hid (⟨a5,c5,by rw[HST.out];exact hP5⟩:∃ap cp,Bn w5 g g M (Dx (xs.take (k+1))) ap cp);clear hP5;go_wp2;go_roundw
    case rel=>exact ⟨k+1,zD,zT,HP5,hb5⟩
    case measure=>simp [intOf];omega
   ·dsimp only[By] at X0 X1 X2 HXL
    clear hr;go_wp2_with fail;have hbW:Below wr.heap.size wr (wr.alloc (.cells #[.slice a2 0 c2,.int .i64 yo,.int .i64 ym] 304)):=zB;generalize wr.alloc (.cells #[.slice a2 0 c2,.int .i64 yo,.int .i64 ym] 304)=W at*;have hzW:=hbW.size;have hPW:=HP.out.later hbW;have HQ:=hid (Lm W hPW yo ym k1 k2 k3 k4 a2 c2 HFIT.out (by have:=HFIT.out;omega));have HPW:=hid hPW;clear X0 X1 X2 hPW;refine HQ.out.mono ?_;rintro r w5 ⟨rfl,hps⟩;have hb5:Below g w2 w5:=by
     have e1:Below g W w5:=HPW.out.below (Ap _) zD hps;exact (hb.trans (hbW.mono zD)).trans e1
    obtain⟨a5,c5,hP5,_,_⟩:=hps;have HP5:=hid (⟨a5,c5,by rw[HST.out];exact hP5⟩:∃ap cp,Bn w5 g g M (Dx (xs.take (k+1))) ap cp);clear hP5;go_wp2;go_roundw
    case rel=>exact ⟨k+1,zD,zT,HP5,hb5⟩
    case measure=>simp [intOf];omega
  ·obtain rfl:k=xs.length:=by omega
   rw[BW] at hP;have HB:=hid (Es wr hP);clear hP hpen;go_wp2_with fail;refine HB.out.mono ?_;rintro r w5 ⟨v,rfl,hv,hb5⟩;have hbe:=Af hb5 hbw;have HV:=hid (Ag.mono (S':=fun q=>w.heap.size≤q∧q<w5.heap.size) hv fun q hq=>⟨by have:=hq.1;have:=hbw.size;omega,hq.2⟩);clear hv;go_wp2;go_ret2
   exact⟨_,rfl,HV.out,hbe⟩
theorem EX(J D:List UInt8):byteCells J++byteCells D=byteCells (J++D):=Z7
end Go.Proofs.YtfddhafbhceoaaaGreat
namespace Go.Bs
open Go.RowKit
variable{base g:Nat}{e:TypeId}{v:Value}{w:World}
end Go.Bs
namespace Go.Proofs.YtfddhafbhceoaaaGreat
open Go.RowKit Go.Bs Go.Maps
variable{bound:Int}{B D J J' b l:List UInt8}{cs xs:List Value}{base c cb cp g gs i mb n o p sc sz:Nat}{F S:Nat → Prop}{a a1 ab ap sa:Option Addr}{s:Rs}{e t:TypeId}{v:Value}{w w' w1:World}
def rTV:Rp (Tok ⊕ Value):=
  ⟨fun S w cs x=>match x with | .inl t=>IU.r S w cs t | .inr v=>cs=[v,.int .i64 0,.int .i64 0],
   fun {S w w' cs x} h hk=>by cases x with | inl b=>exact IU.keep h hk | inr y=>exact h,
   fun {S S' w cs x} h hk=>by cases x with | inl b=>exact IU.mono h hk | inr y=>exact h⟩
structure Q6(lo:Nat)(w:World)(g c:Nat)(cells:List (List Value))(ts:List Tok)(D:List UInt8)(vl:Value):Prop where
 own:AY (fun x=>lo≤x∧x<w.heap.size∧vl.ownBlock≠some x) rTV lo 304 3 w (.slice (some ⟨g,0,none⟩) (ts.length+1) c) (ts.map .inl++[.inr vl]) (cells++[[vl,.int .i64 0,.int .i64 0]])
 len:cells.length=ts.length
 last:w.ownsRow lo 5 1 vl D.length (byteCells D)
 ne:vl.ownBlock≠some g
theorem TU{xs:List Tok}{cells:List (List Value)}(h:AY F IU base e sz w v xs cells):AY F rTV base e sz w v (xs.map .inl) cells:=by
 obtain⟨ho,hlen,hsz,hA⟩:=h;refine⟨by simpa using ho,by simpa using hlen,hsz,fun i cs x hi hx=> ?_⟩;rw[DP] at hx;cases hxi:xs[i]? with
 | none=>rw [hxi] at hx;cases hx
 | some y=>rw [hxi] at hx;cases hx;exact hA i cs y hi hxi
theorem Q6.Vc{lo:Nat}{cells:List (List Value)}{ts:List Tok}{vl:Value}(h:Q6 lo w g c cells ts D vl):lo≤g∧g<w.heap.size:=h.own.1.lt g rfl
theorem Q6.start{lo:Nat}{ts:List Tok}{y:UInt8}{cells:List (List Value)}(hlo:lo≤w.heap.size)(h:Cd lo IU lo 304 3 w v ts cells)
 (hown:w'.ownsRow lo 304 3 (.slice (some ⟨g,0,none⟩) (ts.length+1) c) (ts.length+1) (cells.flatten++[.slice (some ⟨w.heap.size,0,none⟩) 1 1,.int .i64 0,.int .i64 0]))
 (hg:((w.alloc (.cells #[.int .u8 (y.toNat:Int)] 5)).alloc (.cells #[.slice (some ⟨w.heap.size,0,none⟩) 1 1,.int .i64 0,.int .i64 0] 304)).grownBy w' v.ownBlock)
 (hat:(Value.slice (some ⟨g,0,none⟩) (ts.length+1) c).ownBlock=v.ownBlock∨(Value.slice (some ⟨g,0,none⟩) (ts.length+1) c).ownBlock=some ((w.alloc (.cells #[.int .u8 (y.toNat:Int)] 5)).alloc (.cells #[.slice (some ⟨w.heap.size,0,none⟩) 1 1,.int .i64 0,.int .i64 0] 304)).heap.size):
  Q6 lo w' g c cells ts [y] (.slice (some ⟨w.heap.size,0,none⟩) 1 1):=by
 have hv:=fun q (hq:v.ownBlock=some q)=>(h.1.lt q hq).2;generalize hW:(w.alloc (.cells #[.int .u8 (y.toNat:Int)] 5)).alloc (.cells #[.slice (some ⟨w.heap.size,0,none⟩) 1 1,.int .i64 0,.int .i64 0] 304)=W at*;have keep:∀b,b<w.heap.size→W.heap[b]? =w.heap[b]? :=fun b hb=>by
  rw[←hW,AP _ _ _ zI,AP _ _ _ hb]
 have hs:W.heap.size=w.heap.size+2:=by rw[←hW];simp
 have hnew:W.heap[w.heap.size]? =some (.cells #[.int .u8 (y.toNat:Int)] 5 (0,0)):=by
  rw[←hW,AP _ _ _ zQ];exact World.alloc_heap_new w _
 have hgw:g≠w.heap.size:=fun e=>by
  rcases hat with h1 | h1
  ·have:=hv g (by rw[←h1];rfl);omega
  ·have:=A5 h1;simp at this;omega
 have hs':=hg.size;have h1:=TU (((AY.of h).keep (w':=W) (fun b hb=>keep b hb.2) (fun q hq=>keep q (hv q hq))).mono (F':=fun x=>lo≤x∧x<W.heap.size∧x≠w.heap.size) fun b hb=>⟨hb.1,zD,zD⟩);have h2:=AY.push (v':=.slice (some ⟨g,0,none⟩) (ts.length+1) c) (x:=(.inr (.slice (some ⟨w.heap.size,0,none⟩) 1 1):Tok ⊕ Value)) h1 (fun b hb=>hb.2.1) (news:=[.slice (some ⟨w.heap.size,0,none⟩) 1 1,.int .i64 0,.int .i64 0]) rfl rfl zBz hg hat;refine⟨h2.mono fun b hb=>⟨hb.1,zD,fun e=>hb.2.2 (A5 e).symm⟩,h.2.1,?_,fun e=>hgw (A5 e).symm⟩;refine LJ hlo ((hg.block w.heap.size zD (fun e=> ?_)).trans hnew);have:=hv w.heap.size e.symm;omega
theorem Q6.later{lo:Nat}{cells:List (List Value)}{ts:List Tok}{vl:Value}(h:Q6 lo w g c cells ts D vl)(hb:Below w.heap.size w w'):Q6 lo w' g c cells ts D vl:=by
 have hgl:=h.Vc;obtain⟨ho,h1,h4,h5⟩:=h;refine⟨(ho.keep (w':=w') (fun b h=>hb.block b h.2.1) (fun g' hg'=>hb.block g' (ho.1.lt g' hg').2)).mono fun b hb'=>⟨hb'.1,ZS,hb'.2.2⟩,h1,Bp h4 hb,h5⟩
def Rest(b:List UInt8)(p i:Nat)(O:List Tok):Prop:=∃f,b.length≤p+f∧Ec b=O++Ed b f p i
theorem Rest.copy{m:Nat}{O:List Tok}(h:Rest b p i O)(hp:p<b.length)(hb:BU b p=(o,m))(hm:m≠0):Rest b (p+m) (p+m) (O++Fm b i p++[⟨[],(o:Int),(m:Int)⟩]):=by
 obtain⟨f,hf,h⟩:=h;obtain⟨f,rfl⟩:∃f',f=f'+1:=⟨f-1,zD⟩;refine⟨f,zD,?_⟩;rw[h];simp only[Ed,Ai hp,hb,Ah hm];simp
theorem Rest.none{O:List Tok}(h:Rest b p i O)(hp:p<b.length)(hb:BU b p=(o,0)):Rest b (p+1) i O:=by
 obtain⟨f,hf,h⟩:=h;obtain⟨f,rfl⟩:∃f',f=f'+1:=⟨f-1,zD⟩;refine⟨f,zD,?_⟩;rw[h];simp only[Ed,Ai hp,hb,Fs]
theorem Rest.fin{O:List Tok}(h:Rest b b.length i O):Ec b=O++Fm b i b.length:=by
 obtain⟨f,hf,h⟩:=h;rw[h];cases f with
 | zero=>rfl
 | succ f=>simp only[Ed,Ah (Nat.lt_irrefl _)]
theorem I3(hb:b.length≤1048576):∀{f:Bool} {p:Nat} {ts:List Tok},Good b f p ts→∀t∈ts,Ca t=true
 | _,_,_,.nil,t,ht=>by simp at ht
 | _,_,_,.copy (p:=p) (o:=o) (m:=m) hp hbe hm hg,t,ht=>by
  rcases List.mem_cons.1 ht with rfl | ht
  ·have h1:=Hz b p
   have h2:=(Jb b p).1;rw[hbe] at h1 h2;simp only at h2;rcases h1 with h1 | ⟨o',m',h1,g1,g2,g3,_⟩
   ·simp only[EO] at h1;omega
   ·simp only[EO] at h1
    unfold reach at g2;simp[Ca,Gj];omega
  ·exact I3 hb hg t ht
 | _,_,_,.run (p:=p) (q:=q) h1 h2 h3 hg,t,ht=>by
  rcases List.mem_cons.1 ht with rfl | ht
  ·simp[Ca,Ha]
   omega
  ·exact I3 hb hg t ht
theorem Ll{b:List UInt8}(hb:b.length≤1048576):∀t∈Ec b,Ca t=true:=I3 hb (QA b)
theorem RA(hb:b.length≤1048576):(Ec b).length≤10000000:=by
 have:=Jj b b.length 0 0;unfold Ec;omega
theorem OH(w:World)(b:List UInt8)(a:Option Addr)(n c:Nat)(hl:Ag.r (·<w.heap.size) w [.slice a n c] b)(hlen:b.length≤1048576):
  Calls Tryz.prog 355 #[.slice a n c] w fun r w'=>∃v,r=.returned (.tuple #[v,.int .i64 0])∧Ag.r (fun q=>w.heap.size≤q∧q<w'.heap.size) w' [v] (Dx (Ec b))∧Below w.heap.size w w':=by
 obtain⟨rfl,hm,_,_⟩:=AH hl;have HT:=hid (NJ w b a _ c hl hlen);have hri:=Ll hlen;have hl2:=RA hlen;clear hl;generalize Ec b=T at*;go_enter Tryz.func355,Tryz.ntmps355;go_wp2_with fail;refine HT.out.mono ?_;rintro r w1 ⟨v,rfl,hr,hb1⟩;obtain⟨a1,c1,hv,hr2,_⟩:=AJ hr;simp only[As,AF] at hv;subst hv;have HB:=hid (On T a1 _ c1 w1 (OG.mono hr2 fun q hq=>hq.2) hl2 hri);have hs1:=hb1.size;clear hr hr2;go_wp2_with fail;refine HB.out.mono ?_;rintro r w2 ⟨v2,rfl,hv2,hb2⟩;have hbe:=Af hb2 hb1;have HV:=hid (Ag.mono (S':=fun q=>w.heap.size≤q∧q<w2.heap.size) hv2 fun q hq=>⟨ZF,hq.2⟩);clear hv2;go_wp2;go_ret2
 exact⟨_,rfl,HV.out,hbe⟩
def F0(D:List UInt8):List UInt8:=AV D.length++D
theorem Ez(D:List UInt8):(F0 D).length=(AV D.length).length+D.length:=by simp[F0]
theorem Im(n:Nat)(hn:n≤100000000000000)(w:World):
  Calls Tryz.prog 175 #[.int .i64 n] w fun r w'=>r=.returned (.int .i64 ((AV n).length+n:Nat))∧Below w.heap.size w w':=by
 have HS:=hid (fun (W:World)=>Dv n zD W);have hl:=A3 n;generalize (AV n).length=k at*;go_enter Tryz.func175,Tryz.ntmps175;go_wp2_with fail;refine (HS.out _).mono ?_;rintro r w1 ⟨rfl,hb1⟩;go_wp2;go_ret;exact⟨zAf,hb1⟩
theorem Pt(w:World){g base most:Nat}{J:List UInt8}{a:Option Addr}(h:Bn w g base most J a c)(D:List UInt8)(ad:Option Addr)(nd cd:Nat)
 (hD:Ag.r (fun q=>q<w.heap.size∧¬C5 g a q) w [.slice ad nd cd] D) (hfit:J.length+(F0 D).length≤most) (hlen:J.length+(F0 D).length≤100000000000000):
  Calls Tryz.prog 239 #[.pointer (some ⟨g,0,none⟩),.slice ad nd cd] w fun r w'=>r=.returned (.tuple #[])∧Az w g base most (J++F0 D) a w':=by
 obtain⟨rfl,hm,_,_⟩:=AH hD;rw[Ez] at hfit hlen;have HV:=hid (Cl w h D.length zD zD zD);have HD:=hid hD;have hfit':=hid hfit;have hlen':=hid hlen;clear h hD hfit hlen;go_enter Tryz.func239,Tryz.ntmps239;go_wp2_with fail;refine HV.out.mono ?_;rintro r w2 ⟨rfl,a2,c2,hp2,ht2,ha2⟩;have hs2:=ht2.size;have HQ:=hid (Ej w2 hp2 D ad _ cd (Ag.mono (Ag.keep HD.out fun q hq=>ht2.block q hq.1 hq.2) fun q hq=>Ao hq.1 hs2) zAb zAa);go_wp2_with fail;refine HQ.out.mono ?_;rintro r w3 ⟨rfl,hst⟩;have hst2:=Az.trans (J:=J) ht2 ha2 hst;rw[AB] at hst2;have HST:=hid hst2;clear hst hst2;go_wp2;first | go_end0 | refine An (AO rfl _ _ _) rfl ?_
 exact⟨rfl,HST.out⟩
def FL(p:List UInt8):List UInt8:=Dx (Ec p)
def Iz(p:List UInt8):Bool:=decide ((F0 (FL p)).length<p.length)
def CM(p:List UInt8):List UInt8:=AV p.length++(if Iz p then 1::F0 (FL p) else 0::p)
theorem NK(hb:b.length≤1048576):(FL b).length≤10000000000000:=by
 have hL:∀t∈Ec b,t.lit.length≤1048576:=fun t ht=>by
  rcases Hb (Ll hb t ht) with ⟨D,rfl,h1,h2⟩ | ⟨o,m,rfl,_⟩
  ·exact h2
  ·simp
 have h1:=Km (Ec b);have h2:=Lx (Ec b) hL (Ec b).length (Ap _);rw[BW] at h2;have h3:=Jj b b.length 0 0;unfold FL;unfold Ec at*;omega
theorem Ob(w:World)(p:List UInt8)(a:Option Addr)(n c:Nat)(hl:Ag.r (·<w.heap.size) w [.slice a n c] p)(hlen:p.length≤1048576):
  Calls Tryz.prog 332 #[.slice a n c] w fun r w'=>∃v,r=.returned (.tuple #[v,.bool (Iz p)])∧(Iz p=true→Ag.r (fun q=>w.heap.size≤q∧q<w'.heap.size) w' [v] (FL p))∧(Iz p=false→v=.slice none 0 0)∧Below w.heap.size w w':=by
 obtain⟨rfl,hm,_,_⟩:=AH hl;have HT:=hid (OH w p a _ c hl hlen);have hsm:=NK hlen;have hbl:=Ez (FL p);have hpk:Hid (Iz p=decide ((F0 (FL p)).length<p.length)):=hid rfl;clear hl;rw[show Dx (Ec p)=FL p from rfl] at HT;generalize FL p=E at*;rw[hbl] at hpk;generalize Iz p=R at*;have HS:=hid (fun (W:World)=>Im E.length zD W);have hvl:=A3 E.length;clear hbl;generalize (AV E.length).length=k at*;go_enter Tryz.func332,Tryz.ntmps332;go_wp2_with fail;refine HT.out.mono ?_;rintro r w1 ⟨v,rfl,hr,hb1⟩;obtain⟨a1,c1,hv,hr2,_⟩:=AJ hr;simp only[As,AF] at hv;subst hv;have HR:=hid hr2;have hs1:=hb1.size;clear hr hr2;go_wp2_with fail;refine (HS.out _).mono ?_;rintro r w2 ⟨rfl,hb2⟩;have hbe:=Af hb2 hb1;have hs2:=hb2.size;have HR2:=hid (Ag.mono (S':=fun q=>w.heap.size≤q∧q<w2.heap.size) (Ag.keep HR.out fun q hq=>hb2.block q hq.2) fun q hq=>⟨hq.1,zD⟩);have hpk':=hpk.out;clear hpk;cases R
 ·have hle:¬k+E.length<p.length:=of_decide_eq_false hpk'.symm
  have d1:decide ((p.length:Int)≤(k:Int)+(E.length:Int))=true:=Ad zD;have d1':decide ((p.length:Int)≤((k+E.length:Nat):Int))=true:=Ad zD;have d1'':decide (p.length≤k+E.length)=true:=Ad zD;clear hpk' hle;go_wp2;go_ret2
  exact⟨_,rfl,rfl,hbe⟩
 ·have hle:k+E.length<p.length:=Gq hpk'.symm
  have d1:decide ((p.length:Int)≤(k:Int)+(E.length:Int))=false:=Ae zD;have d1':decide ((p.length:Int)≤((k+E.length:Nat):Int))=false:=Ae zD;have d1'':decide (p.length≤k+E.length)=false:=Ae zD;clear hpk' hle;go_wp2;go_ret2
  exact⟨_,rfl,HR2.out,hbe⟩
end Go.Proofs.YtfddhafbhceoaaaGreat
