/- Mini: Needed by feedNone_walk, part 4: texts put together by shake.py; no condition. -/
import Derived.BigRegion
import Derived.Test.YtfddhafbhceoaaaGreatWF3
import Derived.Test.YtfddhafbhceoaaaGreatRows
import Derived.Test.YtfddhafbhceoaaaGreatWF2
import Derived.Laws.IdiomStrings
import Derived.Laws.BytesArg
import Derived.Test.YtfddhafbhceoaaaGreatWF1
import Derived.Lib.SlBytesConst
set_option linter.unusedVariables false
set_option linter.unusedSimpArgs false
set_option maxRecDepth 100000
set_option maxHeartbeats 6400000
namespace Go.Bs
variable{base g:Nat}{e:TypeId}{v:Value}{w:World}
theorem zBu{p:Prop}(h:p:=by simp [results, Tryz.results275, go_sem, y0, y1, l1]):p:=h
theorem zAc{p:Prop}(h:p:=by rw [Al]; have := hfit'.out; omega):p:=h
theorem zAb{p:Prop}(h:p:=by rw [Al]; have := hlen'.out; omega):p:=h
theorem ZT{p:Prop}(h:p:=by have := (hav _ e).1; omega):p:=h
theorem ZG{p:Prop}(h:p:=by have := hq.1; omega):p:=h
theorem ZD{p:Prop}(h:p:=by have := hbw.size; omega):p:=h
theorem zY{p:Prop}(h:p:=by have h := OX (o := 0) (s := 1) (o' := 1) rfl r0 (Vl (s := 1) hl2 r1); rw [De] at h; exact h):p:=h
theorem zG{p:Prop}(h:p:=by with_reducible assumption):p:=h
theorem zA{p:Prop}(h:p:=by (repeat (first | with_reducible exact Below.refl _ _ | with_reducible assumption | (with_reducible refine Aw ?_ _) | (with_reducible refine Below.setCell ?_ (by first | omega | (simp; done) | (simp; omega)) _) | (with_reducible refine Below.drew ?_) | (with_reducible refine below_drewN ?_ _) | (refine Aj (by with_reducible assumption) ?_)))):p:=h
theorem Au:type_of% @List.append_assoc:=@List.append_assoc
theorem BF:type_of% @Prod.mk.injEq:=@Prod.mk.injEq
theorem Cg:type_of% @Bool.or_eq_true:=@Bool.or_eq_true
theorem C8:type_of% @of_decide_eq_true:=@of_decide_eq_true
theorem FW:type_of% @Proofs.Tryz.ntmps383:=@Proofs.Tryz.ntmps383
theorem Gt:type_of% @Bool.not_eq_true:=@Bool.not_eq_true
theorem GD:type_of% @of_decide_eq_false:=@of_decide_eq_false
theorem GF:type_of% @Proofs.Tryz.func383:=@Proofs.Tryz.func383
end Go.Bs
namespace Go.Proofs.YtfddhafbhceoaaaGreat
open Go.RowKit Go.Bs Go.Maps
variable{bound:Int}{B D J J' b:List UInt8}{cs xs:List Value}{base c cb cp g gs i mb n o p sc:Nat}{S:Nat → Prop}{a a1 ab ap sa:Option Addr}{s:Rs}{e:TypeId}{v:Value}{w w' w1:World}
theorem N3(l l':List UInt8):byteCells l++byteCells l'=byteCells (l++l'):=ZS
structure Mz(w W:World)(B:List UInt8)(a:Option Addr)(s:Rs)(out:List UInt8)(aO:Option Addr)(cO:Nat):Prop where
 rd:AS W (w.heap.size+1) B a s
 dat:Am.r (·<w.heap.size) W [.slice a B.length B.length] B
 fl:Blk W w.heap.size 65 #[.int .i64 0,.int .i64 0]
 own:W.ownsRow (w.heap.size+2) 5 1 (.slice aO out.length cO) out.length (byteCells out)
 be:Below w.heap.size w W
 sz:w.heap.size+2≤W.heap.size
section
variable {w W W':World} {B:List UInt8} {a:Option Addr} {s s':Rs} {out out':List UInt8} {aO aO':Option Addr} {cO cO':Nat}
theorem Mz.later(h:Mz w W B a s out aO cO)(hb:Below W.heap.size W W'):Mz w W' B a s out aO cO:=
 ⟨h.rd.later hb,Am.keep h.dat fun q hq=>hb.block q (by have:=h.sz;omega),h.fl.later hb,Bz h.own hb,Aj hb h.be,Bb h.sz hb.size⟩
theorem XZ{size:Nat}(h:W.ownsRow base e size v n xs)(hg:g<base)(hb:Tch (·=g) W W'):W'.ownsRow base e size v n xs:=by
 refine⟨h.1,?_⟩
 rcases h.2 with h0 | ⟨g',cap,cur,h1,h2,h3,h4⟩
 ·exact .inl h0
 ·exact .inr ⟨g',cap,cur,h1,h2,(hb.block _ (Blk.lt h3) zC).trans h3,h4⟩
theorem Mz.step(h:Mz w W B a s out aO cO)(k:AE W (w.heap.size+1) B a s' W'):Mz w W' B a s' out aO cO:=
 ⟨k.1,Am.keep h.dat fun q hq=>k.2.block q (by have:=h.sz;omega) zC,h.fl.tch k.2 zC,XZ h.own zC k.2,h.be.trans (k.below h.be.size zC),Bb h.sz k.size⟩
theorem Mz.row(h:Mz w W B a s out aO cO)(hb:Below (w.heap.size+2) W W')(ho:W'.ownsRow (w.heap.size+2) 5 1 (.slice aO' out'.length cO') out'.length (byteCells out')):Mz w W' B a s out' aO' cO':=by
 have hd:=Am.keep h.dat (w':=W') fun q hq=>hb.block q zC
 exact⟨⟨h.rd.blk.below hb zC,Am.mono hd fun q hq=>⟨by have:=h.sz;have:=hb.size;omega,zC⟩,h.rd.ok⟩,hd,h.fl.below hb zC,ho,h.be.trans (hb.mono zC),Bb h.sz hb.size⟩
end
def Sh(W:World)(g i:Nat):Int:=intOf ((W.cell? ⟨g,i,none⟩).getD undef)
theorem AS.cells(h:AS w g B a s):Sh w g 1=s.p∧Sh w g 2=s.k:=by
 have c1:=h.blk.cell 1
 have c2:=h.blk.cell 2
 simp at c1 c2
 unfold Sh
 rw[c1,c2]
 exact⟨rfl,rfl⟩
def Xl(L g:Nat)(W:World):Nat:=if Sh W g 2=0 then L+1-(Sh W g 1).toNat else 0
theorem Uu(h:AS w g B a s):Xl B.length g w=if s.k=0 then B.length+1-s.p else 0:=by
 unfold Xl
 rw[h.cells.1,h.cells.2]
 simp
theorem MH{s':Rs}(h:AS w g B a s)(h':AS w' g B a s')(hk:s.k=0)(hp:s.p<B.length)(hs:s'.k=0→s.p<s'.p):Xl B.length g w'<Xl B.length g w:=by
 rw[Uu h,Uu h',Ag hk]
 split
 ·have:=hs zK;omega
 ·omega
def TN(bound:Int)(out:List UInt8):Prop:=out=[]∨(out.length:Int)≤bound
theorem RS{out:List UInt8}(h:TN bound out)(hb: -9223372036854775808≤bound∧bound≤1048576):out.length≤1048576∧-9223372036854775808≤bound-(out.length:Int):=by
 rcases h with rfl | h
 ·simp;omega
 ·omega
theorem Pr{out:List UInt8}(h:TN bound out):TN bound (CI B bound s out).2:=by
 by_cases hk:(CI B bound s out).1.k=0
 ·exact .inr (Hl hk).2
 ·rw[TL hk];exact h
set_option maxHeartbeats 12800000 in
theorem Qv(w:World)(B:List UInt8)(a:Option Addr)(n c:Nat)(hl:Am.r (·<w.heap.size) w [.slice a n c] B)(hB:B.length≤1000000000)(bound:Int)(hbd: -9223372036854775808≤bound∧bound≤1048576):
  Calls Tryz.prog 275 #[.slice a n c,.int .i64 bound] w fun r w'=>∃v,r=.returned (.tuple #[v,.agg #[.int .i64 (exB B bound).2.1,.int .i64 (exB B bound).2.2]])∧Am.r (fun q=>w.heap.size≤q∧q<w'.heap.size) w' [v] (exB B bound).1∧Below w.heap.size w w':=by
 obtain⟨rfl,hm,hcc,hcm⟩:=AL hl
 obtain⟨i0,hi,hz0,hz1,hz2⟩:=A5 FL
 have hcap:Am.r (·<w.heap.size) w [.slice a B.length B.length] B:=by
  obtain⟨a',c',e,h1,h2,h3⟩:=hl
  simp at e
  obtain⟨rfl,rfl⟩:=e
  exact Bv rfl (As _) (by simp[maxLen];omega) h3
 have HL:=hid hl
 have HCAP:=hid hcap
 clear hl hcap
 go_enter Tryz.func275,Tryz.ntmps275
 go_wp2
 refine PF 1 0 zC
  (fun a' W=>∃(s:Rs) (out:List UInt8) (aO:Option Addr) (cO:Nat) (rest:Hid (exR B bound s out=exR B bound ⟨0,0,0⟩ [])) (u2 u3 u8 u9 u10 u11 u12 u13 u14 u15 u16 u17 u18 u19 u20 u21 u22 u23 u24 u25 u26 u27 u28 u29 u30 u31 u32 u33 u34 u35 u36 u37 u38 u39 u40 u41 u42 u43 u44 u45 u46 u47 u48 u49 u50 u51 u52 u53 u54 u55 u56 u57 u58 u59 u60 u61 u62 u63 u64 u65 u66 u67 u68 u69 u70:Value),Mz w W B a s out aO cO∧TN bound out∧a'={tmps:=#[.slice a B.length c,.int .i64 bound,u2,u3,.slice none 0 0,.pointer (some ⟨w.heap.size,0,none⟩),.pointer (some ⟨w.heap.size+1,0,none⟩),.slice aO out.length cO,u8,u9,u10,u11,u12,u13,u14,u15,u16,u17,u18,u19,u20,u21,u22,u23,u24,u25,u26,u27,u28,u29,u30,u31,u32,u33,u34,u35,u36,u37,u38,u39,u40,u41,u42,u43,u44,u45,u46,u47,u48,u49,u50,u51,u52,u53,u54,u55,u56,u57,u58,u59,u60,u61,u62,u63,u64,u65,u66,u67,u68,u69,u70],defers:=[]})
  (fun a' W=>∃(s:Rs) (out:List UInt8) (aO:Option Addr) (cO:Nat) (rest:Hid (exR B bound ⟨0,0,0⟩ []=(s,out))) (u2 u3 u8 u9 u10 u11 u12 u13 u14 u15 u16 u17 u18 u19 u20 u21 u22 u23 u24 u25 u26 u27 u28 u29 u30 u31 u32 u33 u34 u35 u36 u37 u38 u39 u40 u41 u42 u43 u44 u45 u46 u47 u48 u49 u50 u51 u52 u53 u54 u55 u56 u57 u58 u59 u60 u61 u62 u63 u64 u65 u66 u67 u68 u69 u70:Value),Mz w W B a s out aO cO∧TN bound out∧a'={tmps:=#[.slice a B.length c,.int .i64 bound,u2,u3,.slice none 0 0,.pointer (some ⟨w.heap.size,0,none⟩),.pointer (some ⟨w.heap.size+1,0,none⟩),.slice aO out.length cO,u8,u9,u10,u11,u12,u13,u14,u15,u16,u17,u18,u19,u20,u21,u22,u23,u24,u25,u26,u27,u28,u29,u30,u31,u32,u33,u34,u35,u36,u37,u38,u39,u40,u41,u42,u43,u44,u45,u46,u47,u48,u49,u50,u51,u52,u53,u54,u55,u56,u57,u58,u59,u60,u61,u62,u63,u64,u65,u66,u67,u68,u69,u70],defers:=[]})
  (fun _ W=>Xl B.length (w.heap.size+1) W) rfl rfl ?_ ?_ ?_
 ·rintro a' W ⟨s,out,aO,cO,hex,u2,u3,u8,u9,u10,u11,u12,u13,u14,u15,u16,u17,u18,u19,u20,u21,u22,u23,u24,u25,u26,u27,u28,u29,u30,u31,u32,u33,u34,u35,u36,u37,u38,u39,u40,u41,u42,u43,u44,u45,u46,u47,u48,u49,u50,u51,u52,u53,u54,u55,u56,u57,u58,u59,u60,u61,u62,u63,u64,u65,u66,u67,u68,u69,u70,hI,hin,rfl⟩
  have hlen:=RS hin hbd
  have hok:=hI.rd.ok
  have hpl:=hok.le
  have HI:=hid hI
  have HIN:=hid hin
  have HLF:=hid (MC W hI.rd)
  have hsz:=hI.sz
  clear hI hin
  by_cases hp:s.p<B.length
  ·have e0:(((B.length:Int)-(s.p:Int))==0)=false:=by rw[BL];omega
   by_cases hk:s.k=0
   ·have hgo:=TM (bound:=bound) (out:=out) hok hp hk
    rw[hex.out] at hgo
    have hmore:=Hl (B:=B) (bound:=bound) (s:=s) (out:=out)
    have hin2:=hid (Pr (B:=B) (s:=s) HIN.out)
    have hst2:CI B bound s out=CI B bound s out:=rfl
    conv at hst2=>rhs;unfold CI
    generalize CI B bound s out=ES at*
    have hhead:=hid (fun (W:World) (h:AS W (w.heap.size+1) B a s)=>SD W h zC)
    have hhok:=Rs.ID (B:=B) hok
    have hhle:(s.head B).2.2≤1048576:=by
     by_cases h0:(s.head B).1.k=0
     ·exact (Rs.LD h0).2.2.2.2
     ·rw[(Rs.W9 h0).2];omega
    have hh1:(s.head B).2.1=true→1≤((s.head B).1.offset B).2∨((s.head B).1.offset B).1.k≠0:=fun _=>by
     by_cases h0:((s.head B).1.offset B).1.k=0
     ·left;rw[(Rs.L8 h0).2.2.2.1];omega
     ·right;exact h0
    have htake:=hid (fun (W:World) (h:AS W (w.heap.size+1) B a (s.head B).1)=>KF W h ((s.head B).2.2:Int) zC zC)
    have htl:((s.head B).1.take B ((s.head B).2.2:Int)).2.length≤1048576:=by
     by_cases h0:((s.head B).1.take B ((s.head B).2.2:Int)).1.k=0
     ·rw[(Rs.EL h0).2.2];omega
     ·rw[Rs.KB h0];simp
    have hoff:=hid (fun (W:World) (h:AS W (w.heap.size+1) B a (s.head B).1)=>PK W h zC)
    have hatp:=hid (fun (W:World) (h:AS W (w.heap.size+1) B a (s.head B).1)=>Cd W h)
    have hfail:=hid (fun (W:World) (h:AS W (w.heap.size+1) B a (s.head B).1)=>Bx W h 11 s.p zC)
    have hfail2:=hid (fun (W:World) (h:AS W (w.heap.size+1) B a ((s.head B).1.offset B).1)=>Bx W h 10 (s.head B).1.p zC)
    have hfk:=(Rs.BI (s:=(s.head B).1) (c:=11) (at_:=(s.p:Int)) zC)
    have hfk2:=(Rs.BI (s:=((s.head B).1.offset B).1) (c:=10) (at_:=((s.head B).1.p:Int)) zC)
    generalize (s.head B).1.fail 11 s.p=F1 at*
    generalize ((s.head B).1.offset B).1.fail 10 (s.head B).1.p=F2 at*
    generalize (s.head B).1.take B ((s.head B).2.2:Int)=TK at*
    generalize (s.head B).1.offset B=OF at*
    generalize s.head B=H at*
    obtain⟨s1,ic,m⟩:=H
    obtain⟨s2,D⟩:=TK
    obtain⟨s3,of⟩:=OF
    dsimp only at*
    have HK:=hid hk
    have hG:=AK
    have dk:decide (s.k=0)=true:=Ad hk
    have HGO:=hid hgo
    have HMORE:=hid hmore
    have hpx:=hp
    have HST2:=hid hst2
    clear hk hgo hmore hst2 hG hok
    by_cases hb1:bound-(out.length:Int)<(m:Int)
    ·have d1:decide (bound-(out.length:Int)<(m:Int))=true:=Ad hb1
     have hes:=HST2.out
     rw[Ag hb1] at hes
     subst hes
     have HGO2:=hid (HGO.out.trans (La (fun e=>hfk e.2)))
     clear hb1 HST2
     go_wp2_with fail
     refine HLF.out.mono ?_
     rintro r w1 ⟨rfl,hb1⟩
     have hG:=AK w1 (HI.out.rd.later hb1)
     rw[dk] at hG
     have HG:=hid hG
     clear hG dk
     go_wp2_with fail
     refine HG.out.mono ?_
     rintro r w2 ⟨rfl,hb2⟩
     have HI2:=hid (HI.out.later (Aj hb2 hb1))
     have HAT:=hid (Cd w2 HI2.out.rd)
     go_wp2_with fail
     refine HAT.out.mono ?_
     rintro r w2' ⟨rfl,rfl⟩
     have HHD:=hid (hhead.out w2 HI2.out.rd)
     go_wp2_with fail
     refine HHD.out.mono ?_
     rintro r w3 ⟨rfl,hst3⟩
     have HI3:=hid (HI2.out.step hst3)
     clear hst3
     have HFL:=hid (hfail.out w3 HI3.out.rd)
     go_wp2_with fail
     refine HFL.out.mono ?_
     rintro r w4 ⟨rfl,hst4⟩
     have HI4:=hid (HI3.out.step hst4)
     clear hst4
     go_wp2
     go_step3
     exact .inr ⟨rfl,F1,out,aO,cO,HGO2,_,_,_,_,_,_,_,_,_,_,_,_,_,_,_,_,_,_,_,_,_,_,_,_,_,_,_,_,_,_,_,_,_,_,_,_,_,_,_,_,_,_,_,_,_,_,_,_,_,_,_,_,_,_,_,_,_,_,_,_,_,_,_,_,_,HI4.out,HIN.out,rfl⟩
    ·have d1:decide (bound-(out.length:Int)<(m:Int))=false:=Ae hb1
     have hes:=HST2.out
     rw[Ai hb1] at hes
     clear HST2
     cases ic
     ·simp only[IL] at hes
      subst hes
      clear hb1
      go_wp2_with fail
      refine HLF.out.mono ?_
      rintro r w1 ⟨rfl,hb1⟩
      have hG:=AK w1 (HI.out.rd.later hb1)
      rw[dk] at hG
      have HG:=hid hG
      clear hG dk
      go_wp2_with fail
      refine HG.out.mono ?_
      rintro r w2 ⟨rfl,hb2⟩
      have HI2:=hid (HI.out.later (Aj hb2 hb1))
      have HAT:=hid (Cd w2 HI2.out.rd)
      go_wp2_with fail
      refine HAT.out.mono ?_
      rintro r w2' ⟨rfl,rfl⟩
      have HHD:=hid (hhead.out w2 HI2.out.rd)
      go_wp2_with fail
      refine HHD.out.mono ?_
      rintro r w3 ⟨rfl,hst3⟩
      have HI3:=hid (HI2.out.step hst3)
      clear hst3
      have HTK:=hid (htake.out w3 HI3.out.rd)
      go_wp2_with fail
      refine HTK.out.mono ?_
      rintro r w4 ⟨v,rfl,hr,hst4⟩
      obtain⟨aD,cD,hv,hr2,_⟩:=AH hr
      simp only[Av,AI] at hv
      subst hv
      have HI4:=hid (HI3.out.step hst4)
      have HS4:=hid (Cm hr2)
      have HONE:=hid (Bi D)
      have hsz4:=HI4.out.sz
      clear hst4 hr hr2
      go_wp2_with (at_builtin;go_loud (refine AB rfl _ _ _ rfl (w.heap.size+2) 5 i0 (.int .u8 0) 1 1 AJ hi hz0 hz1 hz2 rfl zL (.slice aO out.length cO) out.length (byteCells out) rfl HI4.out.own aD D.length cD (byteCells D) rfl HS4.out HONE.out zO zC zC ?_;intro v' w5 hown5 hgrow5 hat5;obtain⟨a5,c5,rfl⟩:=AV hown5;have HO5:=hid hown5;have HG5:=hid hgrow5;clear hown5 hgrow5 hat5))
      have ho:=HO5.out
      rw[N3,show out.length+D.length=(out++D).length by simp] at ho
      have hb5:Below (w.heap.size+2) w4 w5:=Below.grown (Below.refl _ _) HG5.out zC (fun g e=>(HI4.out.own.lt g e).1)
      have HI5:=hid (HI4.out.row hb5 ho)
      clear ho hb5
      rw[show out.length+D.length=(out++D).length by simp]
      go_step3
      exact .inl ⟨rfl,⟨s2,out++D,a5,c5,hid HGO.out.symm,_,_,_,_,_,_,_,_,_,_,_,_,_,_,_,_,_,_,_,_,_,_,_,_,_,_,_,_,_,_,_,_,_,_,_,_,_,_,_,_,_,_,_,_,_,_,_,_,_,_,_,_,_,_,_,_,_,_,_,_,_,_,_,_,_,HI5.out,hin2.out,rfl⟩,MH HI.out.rd HI5.out.rd HK.out hpx (fun h=>(HMORE.out h).1)⟩
     ·simp only[Bool.true_eq_false,if_false] at hes
      by_cases h3:out.length<of
      ·have d3:decide ((out.length:Int)<(of:Int))=true:=Ad zC
       have d3':decide (out.length<of)=true:=Ad h3
       rw[Ag h3] at hes
       subst hes
       clear hb1
       go_wp2_with fail
       refine HLF.out.mono ?_
       rintro r w1 ⟨rfl,hb1⟩
       have hG:=AK w1 (HI.out.rd.later hb1)
       rw[dk] at hG
       have HG:=hid hG
       clear hG dk
       go_wp2_with fail
       refine HG.out.mono ?_
       rintro r w2 ⟨rfl,hb2⟩
       have HI2:=hid (HI.out.later (Aj hb2 hb1))
       have HAT:=hid (Cd w2 HI2.out.rd)
       go_wp2_with fail
       refine HAT.out.mono ?_
       rintro r w2' ⟨rfl,rfl⟩
       have HHD:=hid (hhead.out w2 HI2.out.rd)
       go_wp2_with fail
       refine HHD.out.mono ?_
       rintro r w3 ⟨rfl,hst3⟩
       have HI3:=hid (HI2.out.step hst3)
       clear hst3
       have HATP:=hid (hatp.out w3 HI3.out.rd)
       go_wp2_with fail
       refine HATP.out.mono ?_
       rintro r w3' ⟨rfl,rfl⟩
       have HOF:=hid (hoff.out w3 HI3.out.rd)
       go_wp2_with fail
       refine HOF.out.mono ?_
       rintro r w4 ⟨rfl,hst4⟩
       have HI4:=hid (HI3.out.step hst4)
       clear hst4
       have HFL:=hid (hfail2.out w4 HI4.out.rd)
       go_wp2_with fail
       refine HFL.out.mono ?_
       rintro r w5 ⟨rfl,hst5⟩
       have HI5:=hid (HI4.out.step hst5)
       have hG5:=AK w5 HI5.out.rd
       rw[Ae hfk2] at hG5
       have HG5:=hid hG5
       clear hst5 hG5
       go_wp2_with fail
       refine HG5.out.mono ?_
       rintro r w6 ⟨rfl,hb6⟩
       have HI6:=hid (HI5.out.later hb6)
       go_wp2
       go_step3
       exact .inl ⟨rfl,⟨F2,out,aO,cO,hid HGO.out.symm,_,_,_,_,_,_,_,_,_,_,_,_,_,_,_,_,_,_,_,_,_,_,_,_,_,_,_,_,_,_,_,_,_,_,_,_,_,_,_,_,_,_,_,_,_,_,_,_,_,_,_,_,_,_,_,_,_,_,_,_,_,_,_,_,_,HI6.out,HIN.out,rfl⟩,MH HI.out.rd HI6.out.rd HK.out hpx (fun h=>absurd h hfk2)⟩
      ·have d3:decide ((out.length:Int)<(of:Int))=false:=Ae zC
       have d3':decide (out.length<of)=false:=Ae h3
       rw[Ai h3] at hes
       by_cases h4:s3.k=0
       ·have d4:decide (s3.k=0)=true:=Ad h4
        rw[Ag h4] at hes
        have hof1:1≤of:=by exact (hh1 rfl).elim id (absurd h4)
        subst hes
        go_wp2_with fail
        refine HLF.out.mono ?_
        rintro r w1 ⟨rfl,hb1⟩
        have hG:=AK w1 (HI.out.rd.later hb1)
        rw[dk] at hG
        have HG:=hid hG
        clear hG dk
        go_wp2_with fail
        refine HG.out.mono ?_
        rintro r w2 ⟨rfl,hb2⟩
        have HI2:=hid (HI.out.later (Aj hb2 hb1))
        have HAT:=hid (Cd w2 HI2.out.rd)
        go_wp2_with fail
        refine HAT.out.mono ?_
        rintro r w2' ⟨rfl,rfl⟩
        have HHD:=hid (hhead.out w2 HI2.out.rd)
        go_wp2_with fail
        refine HHD.out.mono ?_
        rintro r w3 ⟨rfl,hst3⟩
        have HI3:=hid (HI2.out.step hst3)
        clear hst3
        have HATP:=hid (hatp.out w3 HI3.out.rd)
        go_wp2_with fail
        refine HATP.out.mono ?_
        rintro r w3' ⟨rfl,rfl⟩
        have HOF:=hid (hoff.out w3 HI3.out.rd)
        go_wp2_with fail
        refine HOF.out.mono ?_
        rintro r w4 ⟨rfl,hst4⟩
        have HI4:=hid (HI3.out.step hst4)
        clear hst4
        have hG5:=AK w4 HI4.out.rd
        rw[d4] at hG5
        have HG5:=hid hG5
        clear hG5 d4
        go_wp2_with fail
        refine HG5.out.mono ?_
        rintro r w6 ⟨rfl,hb6⟩
        have HI6:=hid (HI4.out.later hb6)
        have HAG:=hid (Qw w6 out HI6.out.own HI6.out.sz of m hof1 zC zC)
        have HAL:=hid (Kv of m out)
        have HIN2:=hid hin2.out
        clear hb1
        go_wp2_with fail
        refine HAG.out.mono ?_
        rintro r w7 ⟨a7,c7,rfl,hown7,hb7⟩
        rw[←HAL.out] at hown7
        have HI7:=hid (HI6.out.row hb7 hown7)
        clear hown7
        go_wp2
        rw[←HAL.out]
        go_step3
        exact .inl ⟨rfl,⟨s3,_,a7,c7,hid HGO.out.symm,_,_,_,_,_,_,_,_,_,_,_,_,_,_,_,_,_,_,_,_,_,_,_,_,_,_,_,_,_,_,_,_,_,_,_,_,_,_,_,_,_,_,_,_,_,_,_,_,_,_,_,_,_,_,_,_,_,_,_,_,_,_,_,_,_,HI7.out,HIN2.out,rfl⟩,MH HI.out.rd HI7.out.rd HK.out hpx (fun h=>(HMORE.out h).1)⟩
       ·have d4:decide (s3.k=0)=false:=Ae h4
        rw[Ai h4] at hes
        subst hes
        clear hb1
        go_wp2_with fail
        refine HLF.out.mono ?_
        rintro r w1 ⟨rfl,hb1⟩
        have hG:=AK w1 (HI.out.rd.later hb1)
        rw[dk] at hG
        have HG:=hid hG
        clear hG dk
        go_wp2_with fail
        refine HG.out.mono ?_
        rintro r w2 ⟨rfl,hb2⟩
        have HI2:=hid (HI.out.later (Aj hb2 hb1))
        have HAT:=hid (Cd w2 HI2.out.rd)
        go_wp2_with fail
        refine HAT.out.mono ?_
        rintro r w2' ⟨rfl,rfl⟩
        have HHD:=hid (hhead.out w2 HI2.out.rd)
        go_wp2_with fail
        refine HHD.out.mono ?_
        rintro r w3 ⟨rfl,hst3⟩
        have HI3:=hid (HI2.out.step hst3)
        clear hst3
        have HATP:=hid (hatp.out w3 HI3.out.rd)
        go_wp2_with fail
        refine HATP.out.mono ?_
        rintro r w3' ⟨rfl,rfl⟩
        have HOF:=hid (hoff.out w3 HI3.out.rd)
        go_wp2_with fail
        refine HOF.out.mono ?_
        rintro r w4 ⟨rfl,hst4⟩
        have HI4:=hid (HI3.out.step hst4)
        clear hst4
        have hG5:=AK w4 HI4.out.rd
        rw[d4] at hG5
        have HG5:=hid hG5
        clear hG5 d4
        go_wp2_with fail
        refine HG5.out.mono ?_
        rintro r w6 ⟨rfl,hb6⟩
        have HI6:=hid (HI4.out.later hb6)
        go_wp2
        go_step3
        exact .inl ⟨rfl,⟨s3,out,aO,cO,hid HGO.out.symm,_,_,_,_,_,_,_,_,_,_,_,_,_,_,_,_,_,_,_,_,_,_,_,_,_,_,_,_,_,_,_,_,_,_,_,_,_,_,_,_,_,_,_,_,_,_,_,_,_,_,_,_,_,_,_,_,_,_,_,_,_,_,_,_,_,HI6.out,HIN.out,rfl⟩,MH HI.out.rd HI6.out.rd HK.out hpx (fun h=>absurd h h4)⟩
   ·have dk:decide (s.k=0)=false:=Ae hk
    have hst:=La (bound:=bound) (out:=out) (fun e=>hk e.2:¬(s.p<B.length∧s.k=0))
    have HEX:=hid (hex.out.symm.trans hst)
    clear hk hst hex
    go_wp2_with fail
    refine HLF.out.mono ?_
    rintro r w1 ⟨rfl,hb1⟩
    have hG:=AK w1 (HI.out.rd.later hb1)
    rw[dk] at hG
    have HG:=hid hG
    clear hG dk
    go_wp2_with fail
    refine HG.out.mono ?_
    rintro r w2 ⟨rfl,hb2⟩
    have HI2:=hid (HI.out.later (Aj hb2 hb1))
    go_wp2
    go_step3
    exact .inr ⟨rfl,s,out,aO,cO,HEX,_,_,_,_,_,_,_,_,_,_,_,_,_,_,_,_,_,_,_,_,_,_,_,_,_,_,_,_,_,_,_,_,_,_,_,_,_,_,_,_,_,_,_,_,_,_,_,_,_,_,_,_,_,_,_,_,_,_,_,_,_,_,_,_,_,HI2.out,HIN.out,rfl⟩
  ·have e0:(((B.length:Int)-(s.p:Int))==0)=true:=by rw[beq_iff_eq];omega
   have hst:=La (bound:=bound) (out:=out) (fun e=>hp e.1:¬(s.p<B.length∧s.k=0))
   have HEX:=hid (hex.out.symm.trans hst)
   clear hst hex
   go_wp2_with fail
   refine HLF.out.mono ?_
   rintro r w1 ⟨rfl,hb1⟩
   have HI2:=hid (HI.out.later hb1)
   go_wp2
   go_step3
   exact .inr ⟨rfl,s,out,aO,cO,HEX,_,_,_,_,_,_,_,_,_,_,_,_,_,_,_,_,_,_,_,_,_,_,_,_,_,_,_,_,_,_,_,_,_,_,_,_,_,_,_,_,_,_,_,_,_,_,_,_,_,_,_,_,_,_,_,_,_,_,_,_,_,_,_,_,_,HI2.out,HIN.out,rfl⟩
 ·rintro a' W ⟨s,out,aO,cO,hex,u2,u3,u8,u9,u10,u11,u12,u13,u14,u15,u16,u17,u18,u19,u20,u21,u22,u23,u24,u25,u26,u27,u28,u29,u30,u31,u32,u33,u34,u35,u36,u37,u38,u39,u40,u41,u42,u43,u44,u45,u46,u47,u48,u49,u50,u51,u52,u53,u54,u55,u56,u57,u58,u59,u60,u61,u62,u63,u64,u65,u66,u67,u68,u69,u70,hI,hin,rfl⟩
  have HI:=hid hI
  have HFA:=hid (H7 W hI.rd)
  have hsz:=hI.sz
  have hle:=RS hin hbd
  have hex2:=Xo B bound
  rw[hex.out] at hex2
  dsimp only at hex2
  clear hin hI hex
  by_cases hk:s.k=0
  ·rw[Ag hk] at hex2
   have HX:=hid hex2
   have dk:decide (s.k=0)=true:=Ad hk
   have HK:=hid hk
   clear hk hex2
   go_wp2_with fail
   refine HFA.out.mono ?_
   rintro r w1 ⟨rfl,hb1⟩
   have hG:=BK (w1.alloc (.cells #[.int .i64 s.k,.int .i64 s.f] 65)) s.k s.f
   rw[dk] at hG
   have HG:=hid hG
   clear hG dk
   go_wp2_with fail
   refine HG.out.mono ?_
   rintro r w2 ⟨rfl,hb2⟩
   have hb12:Below W.heap.size W w2:=Aj hb2 (Aw hb1 _)
   have HI2:=hid (HI.out.later hb12)
   have hfl:=HI2.out.fl
   obtain⟨y0,y1,g0,g1,l1⟩:=Bd hfl
   have hV:=CG rfl HI2.out.own
   have HV:=hid hV
   clear hfl hV
   go_wp2
   simp only[O1]
   refine Ax (v:=.tuple #[.slice aO out.length cO,.agg #[.int .i64 0,.int .i64 0]]) zBu rfl ⟨_,by rw[HX.out],?_,?_⟩
   ·rw[HX.out]
    refine Am.mono (Am.keep HV.out fun q hq=> ?_) fun q hq=>⟨zC,by simp[World.setCell];exact hq.2⟩
    repeat (rw[At _ _ _ _ zH])
   ·have hbe:=HI2.out.be
    (repeat (first | with_reducible exact Below.refl _ _ | with_reducible assumption | (with_reducible refine Aw ?_ _) | (with_reducible refine Below.setCell ?_ zE _) | (with_reducible refine Below.drew ?_) | (with_reducible refine below_drewN ?_ _) | (refine Aj zG ?_)))
  ·rw[Ai hk] at hex2
   have HX:=hid hex2
   have dk:decide (s.k=0)=false:=Ae hk
   have HK:=hid hk
   clear hk hex2
   go_wp2_with fail
   refine HFA.out.mono ?_
   rintro r w1 ⟨rfl,hb1⟩
   have hG:=BK (w1.alloc (.cells #[.int .i64 s.k,.int .i64 s.f] 65)) s.k s.f
   rw[dk] at hG
   have HG:=hid hG
   clear hG dk
   go_wp2_with fail
   refine HG.out.mono ?_
   rintro r w2 ⟨rfl,hb2⟩
   have hb12:Below W.heap.size W w2:=Aj hb2 (Aw hb1 _)
   have HI2:=hid (HI.out.later hb12)
   have hfl:=HI2.out.fl
   obtain⟨y0,y1,g0,g1,l1⟩:=Bd hfl
   obtain⟨z0,z1,e0,e1,l2⟩:=Bd (Blk.later (Blk.newAt _ _ _ rfl) hb2)
   have hbe:=HI2.out.be
   clear hfl
   go_wp2_with fail
   go_region
   all_goals
    go_wp2
    simp only[O1]
    refine Ax (v:=.tuple #[.slice none 0 0,.agg #[.int .i64 s.k,.int .i64 s.f]]) zBu rfl ⟨_,by rw[HX.out],by rw[HX.out];exact BR rfl rfl (by omega),?_⟩
    (repeat (first | with_reducible exact Below.refl _ _ | with_reducible assumption | (with_reducible refine Aw ?_ _) | (with_reducible refine Below.setCell ?_ zE _) | (with_reducible refine Below.drew ?_) | (with_reducible refine below_drewN ?_ _) | (refine Aj zG ?_)))
 ·intro K hK
  have HN:=hid (Lo (w.alloc (.cells #[.int .i64 0,.int .i64 0] 65)) B a _ c (lift HL.out zA))
  go_wp2_with fail
  refine HN.out.mono ?_
  rintro r w1 ⟨rfl,hrd,hb⟩
  have hI:Mz w w1 B a ⟨0,0,0⟩ [] none 0:=⟨by simpa using hrd,Am.keep HCAP.out fun q hq=>(hb.block q zI).trans (AN _ _ q hq),Blk.later zD hb,⟨rfl,.inl ⟨rfl,rfl⟩⟩,zA,by have:=hrd.blk.lt;simp at this;omega⟩
  have HI:=hid hI
  clear hI hrd hb
  go_wp2
  go_step3
  rename_i hkk
  exact hkk _ _ (hK _ _ ⟨⟨0,0,0⟩,[],none,0,hid rfl,_,_,_,_,_,_,_,_,_,_,_,_,_,_,_,_,_,_,_,_,_,_,_,_,_,_,_,_,_,_,_,_,_,_,_,_,_,_,_,_,_,_,_,_,_,_,_,_,_,_,_,_,_,_,_,_,_,_,_,_,_,_,_,_,_,HI.out,.inl rfl,rfl⟩)
open Go.RowKit Go.Bs
theorem UA:Tryz.prog.cellsOf 36=1:=zJ
theorem YA:Tryz.prog.cellsOf 22=1:=zJ
theorem Aas:Tryz.prog.cellsOf 37=1:=zJ
theorem Yz:Tryz.prog.cellsOf 38=1:=zJ
theorem VW:Tryz.prog.cellsOf 46=1:=zJ
theorem VX:Tryz.prog.cellsOf 61=1:=zJ
theorem Rb:G4 Tryz.prog 36 (F6 .u64):=U3 Tryz.underlying36
theorem Yc:G4 Tryz.prog 22 Am:=Gn (sz:=1) AJ zJ zL (S4 Tryz.underlying5)
theorem Aaf:G4 Tryz.prog 37 Cb:=Gn (sz:=1) Hu zJ zL Rb
theorem FN{H:Type}{enc:TypeId × Value→H}{P:Program}{cs:List Value}{n:Nat}{fs:Array Field}(h:∀(i:Nat) (f:Field),fs[i]? =some f→∃y,DataW.trod enc P w 0 (fun _=>true) true n f.type ((cs.drop f.offset).take (P.cellsOf f.type))=some y)
 {α:Type} {A:Rp α} {t:TypeId} (hA:G4 P t A) (i:Nat) (f:Field) (o:Nat) (hf:fs[i]? =some f) (ht:f.type=t) (ho:f.offset=o) (hs:P.cellsOf t=1):∃x,A.r (·<w.heap.size) w ((cs.drop o).take 1) x:=by
 obtain⟨y,hy⟩:=h i f hf
 rw[ht,ho,hs] at hy
 exact hA enc w n _ _ hy
theorem Aag:G4 Tryz.prog 215 JR:=fun enc w fuel cs x h=>by
 obtain⟨hl,n,hf⟩:=Hf Tryz.underlying215 h
 have hl2:cs.length=2:=hl.trans zJ
 obtain⟨x0,r0⟩:=FN hf Rb 0 _ 0 rfl rfl rfl UA
 obtain⟨x1,r1⟩:=FN hf Aaf 1 _ 1 rfl rfl rfl Aas
 exact⟨⟨x0,x1⟩,zY⟩
theorem Ya:G4 Tryz.prog 38 Cx:=Gn (sz:=2) Tryz.underlying38 zJ zL Aag
theorem Yb:G4 Tryz.prog 180 M7:=fun enc w fuel cs x h=>by
 obtain⟨hl,n,hf⟩:=Hf Tryz.underlying180 h
 have hl2:cs.length=2:=hl.trans zJ
 obtain⟨x0,r0⟩:=FN hf Ya 0 _ 0 rfl rfl rfl Yz
 obtain⟨x1,r1⟩:=FN hf Yc 1 _ 1 rfl rfl rfl YA
 exact⟨⟨x0,x1⟩,zY⟩
theorem U4:G4 Tryz.prog 46 Br:=Gn (sz:=2) Tryz.underlying46 zJ zL Yb
theorem Yd:G4 Tryz.prog 48 Gv:=fun enc w fuel cs x h=>by
 obtain⟨hl,n,hf⟩:=Hf Tryz.underlying48 h
 have hl2:cs.length=3:=hl.trans zJ
 obtain⟨x0,r0⟩:=FN hf Rb 0 _ 0 rfl rfl rfl UA
 obtain⟨x1,r1⟩:=FN hf Rb 1 _ 1 rfl rfl rfl UA
 obtain⟨x2,r2⟩:=FN hf U4 2 _ 2 rfl rfl rfl VW
 exact⟨⟨x0,x1,x2⟩,by have h:=OX (o:=0) (s:=1) (o':=1) rfl r0 (OX (o:=1) (s:=1) (o':=2) rfl r1 (Vl (s:=1) hl2 r2));rw[De] at h;exact h⟩
theorem U5:G4 Tryz.prog 61 DN:=Gn (sz:=3) Tryz.underlying61 zJ zL Yd
theorem AaK:G4 Tryz.prog 63 AaH:=fun enc w fuel cs x h=>by
 obtain⟨hl,n,hf⟩:=Hf Tryz.underlying63 h
 have hl2:cs.length=2:=hl.trans zJ
 obtain⟨x0,r0⟩:=FN hf Rb 0 _ 0 rfl rfl rfl UA
 obtain⟨x1,r1⟩:=FN hf U5 1 _ 1 rfl rfl rfl VX
 exact⟨⟨x0,x1⟩,zY⟩
structure IS(w wr:World)(N0 N1 gs g mb base:Nat)(b:List UInt8)(sa:Option Addr)(sc:Nat)(ab:Option Addr)(cb:Nat)(a:Option Addr)(c:Nat)(p i nn:Nat)(av:Option Addr)(cv:Nat)(ap:Option Addr)(cp:Nat)(L:List Tok)(cells:List (List Value)):Prop where
 pb:p≤b.length
 ip:i≤p
 np:nn≤p
 bb:Blk wr w.heap.size 22 #[.slice a b.length c]
 bo:Blk wr (w.heap.size+1) 337 #[.slice av L.length cv]
 bf:Blk wr (w.heap.size+2) 3 #[.int .i64 (i:Int)]
 own:AY (fun q=>N1≤q∧q<wr.heap.size∧(Value.slice ap nn cp).ownBlock≠some q) Lp N1 304 3 wr (.slice av L.length cv) L cells
 sk:JB wr gs g mb base N0 N1 b nn sa sc ab cb ap cp
 apart:∀q,(Value.slice av L.length cv).ownBlock=some q→(Value.slice ap nn cp).ownBlock≠some q
 len:L.length≤p
 toks:L++JN b p i=Fa b
 below:Below w.heap.size w wr
 n0:N0=w.heap.size+3
 n1:N0≤gs∧gs<N1∧N0≤g∧g<N1∧N0≤mb∧mb<N1∧N0≤base
theorem IS.top{wr:World}{N0 N1:Nat}{nn:Nat}{av:Option Addr}{cv:Nat}{L:List Tok}{cells:List (List Value)}
 (h:IS w wr N0 N1 gs g mb base b sa sc ab cb a c p i nn av cv ap cp L cells):N1≤wr.heap.size:=h.sk.top
theorem IS.Aa0{wr:World}{N0 N1:Nat}{nn m:Nat}{av:Option Addr}{cv:Nat}{L:List Tok}{cells:List (List Value)}
 (h:IS w wr N0 N1 gs g mb base b sa sc ab cb a c p i nn av cv ap cp L cells) (hs:QH wr gs g mb base N0 N1 b nn m sa sc ab cb ap cp w1) (hm:m≤p):
  ∃ap' cp',IS w w1 N0 N1 gs g mb base b sa sc ab cb a c p i m av cv ap' cp' L cells:=by
 obtain⟨ap',cp',h1,h2,h3⟩:=hs
 have htop:=h.top
 have hn0:=h.n0
 obtain⟨k1,k2,k3,k4,k5,k6,k7⟩:=h.n1
 have hsz:=h2.size
 have hapb:∀q,(Value.slice ap nn cp).ownBlock=some q→N0≤q∧q<wr.heap.size:=fun q hq=>by
  have:=h.sk.ch.prev.lt q hq
  exact⟨zC,this.2⟩
 have hlow:∀q,q<N0→¬(q=gs∨q=g∨q=mb∨(Value.slice ap nn cp).ownBlock=some q):=fun q hq e=>by
  rcases e with e | e | e | e
  ·omega
  ·omega
  ·omega
  ·have:=(hapb q e).1;omega
 have hav:=fun q (hq:(Value.slice av L.length cv).ownBlock=some q)=>h.own.1.lt q hq
 have hnew:∀q,q<wr.heap.size→(Value.slice ap nn cp).ownBlock≠some q→(Value.slice ap' m cp').ownBlock≠some q:=fun q hq hne e=>by
  rcases h3 with h3 | ⟨q',hq',hlt⟩
  ·rw[h3] at e;exact hne e
  ·rw[hq'] at e;have:=AR e;omega
 refine⟨ap',cp',⟨h.pb,h.ip,hm,h.bb.tch h2 (hlow _ zC),h.bo.tch h2 (hlow _ zC),h.bf.tch h2 (hlow _ zC),?_,h1,fun q hq=>hnew q (hav q hq).2 (h.apart q hq),h.len,h.toks,h.below.trans (h2.Ch zC fun q hq e=> ?_),h.n0,h.n1⟩⟩
 ·refine (h.own.keep (w':=w1) (fun q hq=>h2.block q hq.2.1 (fun e=> ?_)) (fun q hq=>h2.block q (hav q hq).2 (fun e=> ?_))).mono fun q hq=>⟨hq.1,zC,hnew q hq.2.1 hq.2.2⟩
  ·rcases e with e | e | e | e
   ·omega
   ·omega
   ·omega
   ·exact hq.2.2 e
  ·have:=(hav q hq).1
   rcases e with e | e | e | e
   ·omega
   ·omega
   ·omega
   ·exact h.apart q hq e
 ·by_cases hq0:q<N0
  ·exact absurd e (hlow q hq0)
  ·omega
theorem IS.out{w wr w1:World}{N0 N1:Nat}{nn:Nat}{av:Option Addr}{cv:Nat}{ap:Option Addr}{cp:Nat}{L:List Tok}{cells:List (List Value)}
 (h:IS w wr N0 N1 gs g mb base b sa sc ab cb a c p i nn av cv ap cp L cells) {p' i':Nat} {av':Option Addr} {cv':Nat} {L':List Tok} {cells':List (List Value)} (hp:p'≤b.length) (hi:i'≤p') (hn:nn≤p')
 (hf:Blk w1 (w.heap.size+2) 3 #[.int .i64 (i':Int)]) (ho:Blk w1 (w.heap.size+1) 337 #[.slice av' L'.length cv'])
 (hown:AY (fun q=>(N1≤q∧q<wr.heap.size∧(Value.slice ap nn cp).ownBlock≠some q)∨(wr.heap.size≤q∧q<w1.heap.size)) Lp N1 304 3 w1 (.slice av' L'.length cv') L' cells')
 (ht:Tch (fun q=>q=w.heap.size+1∨q=w.heap.size+2∨(Value.slice av L.length cv).ownBlock=some q) wr w1) (hat:(Value.slice av' L'.length cv').ownBlock=(Value.slice av L.length cv).ownBlock∨∃q,(Value.slice av' L'.length cv').ownBlock=some q∧wr.heap.size≤q)
 (hlen:L'.length≤p') (htok:L'++JN b p' i'=Fa b):IS w w1 N0 N1 gs g mb base b sa sc ab cb a c p' i' nn av' cv' ap cp L' cells':=by
 have htop:=h.top
 have hn0:=h.n0
 obtain⟨k1,k2,k3,k4,k5,k6,k7⟩:=h.n1
 have hsz:=ht.size
 have hapb:∀q,(Value.slice ap nn cp).ownBlock=some q→N0≤q∧q<wr.heap.size:=fun q hq=>by
  have:=h.sk.ch.prev.lt q hq
  exact⟨zC,this.2⟩
 have hav:=fun q (hq:(Value.slice av L.length cv).ownBlock=some q)=>h.own.1.lt q hq
 have hmid:∀q,N0≤q→q<N1→¬(q=w.heap.size+1∨q=w.heap.size+2∨(Value.slice av L.length cv).ownBlock=some q):=fun q h1 h2 e=>by
  rcases e with e | e | e
  ·omega
  ·omega
  ·have:=(hav q e).1;omega
 obtain⟨t,hgs⟩:=h.sk.blk
 refine⟨hp,hi,hn,h.bb.tch ht (fun e=> ?_),ho,hf,hown.mono fun q hq=> ?_,h.sk.tch ht (hmid g k3 k4) (hmid mb k5 k6) (fun q hq e=> ?_) (fun q h1 h2 _=>hmid q h1 h2) ⟨t,hgs.tch ht (hmid gs k1 k2)⟩,fun q hq e=> ?_,hlen,htok,h.below.trans (ht.Ch h.below.size fun q hq e=> ?_),h.n0,h.n1⟩
 ·rcases e with e | e | e
  ·omega
  ·omega
  ·have:=(hav _ e).1;omega
 ·rcases hq with hq | hq
  ·exact⟨hq.1,zC,hq.2.2⟩
  ·exact⟨zC,hq.2,fun e=>by have:=(hapb q e).2;omega⟩
 ·rcases e with e | e | e
  ·have:=(hapb q hq).1;omega
  ·have:=(hapb q hq).1;omega
  ·exact h.apart q e hq
 ·rcases hat with hat | ⟨q',hq',hlt⟩
  ·rw[hat] at hq;exact h.apart q hq e
  ·rw[hq'] at hq;have:=AR hq;have:=(hapb q e).2;omega
 ·rcases e with e | e | e
  ·omega
  ·omega
  ·have:=(hav q e).1;omega
def UB(w:World)(L:List Tok)(r:Ending)(w':World):Prop:=∃v,r=.returned (.tuple #[v,.int .i64 0])∧QY.r (fun q=>w.heap.size≤q∧q<w'.heap.size) w' [v] L∧Below w.heap.size w w'
theorem PU(w:World)(b:List UInt8)(a:Option Addr)(n c:Nat)(hl:Am.r (·<w.heap.size) w [.slice a n c] b)(hlen:b.length≤1048576):
  Calls Tryz.prog 367 #[.slice a n c] w (UB w (Fa b)):=by
 obtain⟨rfl,hm,_,_⟩:=AL hl
 obtain⟨j0,hj0,hy0,hy1,hy2⟩:=A5 Un
 have HL:=hid hl;clear hl
 have d1:decide ((1048576:Int)<(b.length:Int))=false:=zI
 go_enter Tryz.func367,Tryz.ntmps367
 go_wp2_with fail
 refine (Ww _ b _ _ _ (lift HL.out zB) hlen).mono ?_
 rintro r w1 ⟨gs,g,mb,base,sa,sc,ab,cb,rfl,hsk,hb1,q1,q2,q3,q4⟩
 have hz1:w.heap.size+3≤w1.heap.size:=by have:=hb1.size;simpa using this
 simp only[World.size_alloc] at q1 q2 q3 q4
 have hmlt:mb<w1.heap.size:=by obtain⟨D,hD,_⟩:=hsk.ch.map;exact hD.lt
 have hat0:IS w w1 (w.heap.size+3) w1.heap.size gs g mb base b sa sc ab cb a c 0 0 0 none 0 none 0 [] []:=by
  refine⟨Ar _,As _,As _,Blk.later zD hb1,Blk.later zD hb1,Blk.later zD hb1,AY.nil,?_,fun q hq=>by simp[Value.ownBlock] at hq,Ar _,?_,zB,rfl,⟨zC,hsk.blk.choose_spec.lt,zC,hsk.ch.blk.lt,zC,hmlt,zC⟩⟩
  ·simpa using hsk
  ·rfl
 have H0:=hid hat0
 clear hat0 hsk q1 q2 q3 q4 hmlt
 generalize hN1:w1.heap.size=N1 at*
 have HN1:=hid hN1;clear hN1
 go_wp2_with fail
 go_loopw [8] (fun i wr=>∃(p i0 nn:Nat) (av:Option Addr) (cv:Nat) (ap:Option Addr) (cp:Nat) (L:List Tok) (cells:List (List Value)),i=.int .i64 p∧Hid (IS w wr (w.heap.size+3) N1 gs g mb base b sa sc ab cb a c p i0 nn av cv ap cp L cells)) (fun i _=>b.length-(intOf i).toNat)
 case atStart=>exact ⟨0,0,0,none,0,none,0,[],[],rfl,H0⟩
 case round=>
  obtain⟨p,i,nn,av,cv,ap,cp,L,cells,rfl,hT⟩:=hrel
  clear H0
  have hpb:=hT.out.pb
  have hip:=hT.out.ip
  have cb0:wr.cell? ⟨w.heap.size,0,none⟩=some (.slice a b.length c):=hT.out.bb.cell 0
  by_cases hlt:p<b.length
  ·have hB:=hid (UY wr hT.out.sk hT.out.np hlt)
   have hbr:=Kt b p
   have htn:=hid (fun h=>SB (b:=b) (p:=p) (i:=i) hlt h)
   have hts:=hid (fun h=>SA (b:=b) (p:=p) (i:=i) hlt h)
   have hfc:=hid (Hr b p)
   have dlt:decide ((p:Int)<(b.length:Int))=true:=zI
   generalize hbb:Ci b p=bb at*
   obtain⟨o,m⟩:=bb
   have HBB:=hid hbb;clear hbb
   simp only at hbr
   go_wp2_with fail
   refine hB.out.mono ?_
   rintro r w2 ⟨hr,hst⟩
   rw[HBB.out] at hr
   subst hr
   obtain⟨ap2,cp2,hT2⟩:=hT.out.Aa0 hst (As _)
   have HT2:=hid hT2;clear hst hT2
   by_cases hm0:m=0
   ·have e1:((m:Int)==0)=true:=by simp;omega
    have HT3:=hid (show IS w w2 (w.heap.size+3) N1 gs g mb base b sa sc ab cb a c (p+1) i p av cv ap2 cp2 L cells from {HT2.out with pb:=zC,ip:=zC,np:=zC,len:=by have:=HT2.out.len;omega,toks:=by rw[←htn.out hm0];exact HT2.out.toks})
    clear hm0
    go_wp2_with fail
    go_roundw
    case rel=>exact ⟨p+1,i,p,av,cv,ap2,cp2,L,cells,zT,HT3⟩
    case measure=>simp [intOf];omega
   ·have e1:((m:Int)==0)=false:=by simp;omega
    have hm4:4≤m∧o≤p:=by
     rcases hfc.out with h | ⟨o',m',h,h1,h2,h3,_⟩
     ·simp only[BF] at h;omega
     ·simp only[BF] at h
      unfold reach at h2
      omega
    have htop:=HT2.out.top
    have hn0:=HT2.out.n1
    have hav:=fun q (hq:(Value.slice av L.length cv).ownBlock=some q)=>HT2.out.own.1.lt q hq
    have hRun:=OS w2 (to:=p) HT2.out.bf HT2.out.bo HT2.out.bb (Am.mono (Am.keep HL.out fun q hq=>HT2.out.below.block q hq) fun q hq=>An hq HT2.out.below.size) HT2.out.own (fun q hq=>hq.2.1) (fun hq=>ZG) (fun e=>ZT) ⟨zC,zC,fun e=>ZT,fun e=>ZT⟩ zC hlen (by have:=HT2.out.len;omega) htop
    have HRun:=hid hRun;clear hRun
    have HM0:=hid hm0;clear hm0
    go_wp2_with fail
    refine HRun.out.mono ?_
    rintro r w3 ⟨rfl,av3,cv3,cells3,hbo3,hown3,ht3,hat3⟩
    have hLL:(L++GA b i p).length≤p+1:=by
     have h1:=HT2.out.len
     unfold GA
     split<;>simp<;>omega
    have HHBO:=hid hbo3
    have o1:w3.cell? ⟨w.heap.size+1,0,none⟩=some (.slice av3 (L++GA b i p).length cv3):=hbo3.cell 0
    have o2:=hbo3.free 0
    have l1:=hbo3.lt
    have HB3:=hid (HT2.out.bf.tch ht3 (fun e=>by
     rcases e with e | e
     ·omega
     ·have:=(hav _ e).1;omega))
    have l2:=HB3.out.lt
    have hz3:N1≤w3.heap.size:=Bb htop ht3.size
    have hav3:=fun q (hq:(Value.slice av3 (L++GA b i p).length cv3).ownBlock=some q)=>hown3.1.lt q hq
    generalize hL3:L++GA b i p=L3 at*
    have HL3:=hid hL3;have HO3:=hid hown3;have HT3:=hid ht3;have HAT3:=hid hat3;have HAV3:=hid hav3;have HAV:=hid hav
    clear hL3 hown3 ht3 hat3 hbo3 hav3 hav
    have f3:=HB3.out.free 0
    go_wp2_with (at_builtin;go_loud (refine AB rfl _ _ _ rfl N1 304 j0 (.agg #[.slice none 0 0,.int .i64 0,.int .i64 0]) 3 40 Tryz.underlying337 hj0 hy0 hy1 hy2 rfl zL (.slice av3 L3.length cv3) L3.length cells3.flatten rfl (Bz HO3.out.1 zB) (some ⟨w3.heap.size,0,none⟩) 1 1 [.slice none 0 0,.int .i64 (o:Int),.int .i64 (m:Int)] rfl (BU w3 304 _ rfl rfl rfl) (by intro u hu;simp at hu;rcases hu with rfl | rfl | rfl<;>rfl) zO zC zI ?_;intro v8 w8 hown8 hgrow8 hat8;obtain⟨a8,c8,rfl⟩:=AV hown8;have G:=fun b' (hb:b'<w3.heap.size) (hne:(Value.slice av3 L3.length cv3).ownBlock≠some b')=>(hgrow8.block b' zI (fun e=>hne e.symm)).trans (AN w3 _ b' hb);have n1:(Value.slice av3 L3.length cv3).ownBlock≠some (w.heap.size+1):=fun e=>by {have:=(HAV3.out _ e).1;omega};have n2:(Value.slice av3 L3.length cv3).ownBlock≠some (w.heap.size+2):=fun e=>by {have:=(HAV3.out _ e).1;omega};have m1:=(Bq (a:=⟨w.heap.size+1,0,none⟩) (G _ l1 n1)).trans o1;have m2:=(CV (a:=⟨w.heap.size+1,0,none⟩) (G _ l1 n1)).trans o2;have m3:w.heap.size+1<w8.heap.size:=An l1 (Bb zM hgrow8.size);have m4:=(CV (a:=⟨w.heap.size+2,0,none⟩) (G _ l2 n2)).trans f3;have m6:=(Bq (a:=⟨w.heap.size+2,0,none⟩) (G _ l2 n2)).trans (HB3.out.cell 0);have m5:w.heap.size+2<w8.heap.size:=An l2 (Bb zM hgrow8.size);have HG8:=hid hgrow8;have HO8:=hid hown8;have HA8:=hid hat8;have HGG:=hid G;clear hgrow8 hown8 hat8 G))
    have hOF:=(HO3.out.keep (w':=w3.alloc (.cells #[.slice none 0 0,.int .i64 (o:Int),.int .i64 (m:Int)] 304)) (fun q hq=>AN w3 _ q (by
     have hs3:=HT3.out.size
     rcases hq with h | h
     ·omega
     ·omega)) (fun q hq=>AN w3 _ q (HAV3.out q hq).2))
    have hx:Lp.r (fun q=>((N1≤q∧q<w2.heap.size∧(Value.slice ap2 p cp2).ownBlock≠some q)∨(w2.heap.size≤q∧q<w3.heap.size))∧(Value.slice av3 L3.length cv3).ownBlock≠some q) (w3.alloc (.cells #[.slice none 0 0,.int .i64 (o:Int),.int .i64 (m:Int)] 304)) [.slice none 0 0,.int .i64 (o:Int),.int .i64 (m:Int)] ⟨[],o,m⟩:=
     Wm (x:=⟨[],o,m⟩) (Bv rfl (As _) (Ar _) (.inl rfl)) zI zI
    have OPU:=AY.push hOF (fun q hq=>by
     have hs3:=HT3.out.size
     rcases hq with h | h
     ·simp;omega
     ·simp;omega) rfl hx HO8.out HG8.out HA8.out
    have hs8:=HG8.out.size
    simp only[World.size_alloc] at hs8
    have hs3:=HT3.out.size
    have hnew8:∀q,q<N1→(Value.slice a8 (L3.length+1) c8).ownBlock≠some q:=fun q hq e=>by
     have:=(HO8.out.lt q e).1;omega
    have hll:(L3++[(⟨[],o,m⟩:Tok)]).length=L3.length+1:=zM
    have hsz:((w8.setCell ⟨w.heap.size+1,0,none⟩ (.slice a8 (L3.length+1) c8)).setCell ⟨w.heap.size+2,0,none⟩ (.int .i64 ((p:Int)+(m:Int)))).heap.size=w8.heap.size:=zU
    have keep9:∀q,q≠w.heap.size+1→q≠w.heap.size+2→((w8.setCell ⟨w.heap.size+1,0,none⟩ (.slice a8 (L3.length+1) c8)).setCell ⟨w.heap.size+2,0,none⟩ (.int .i64 ((p:Int)+(m:Int)))).heap[q]? =w8.heap[q]? :=fun q k1 k2=>(At _ _ _ _ k2).trans (At _ _ _ _ k1)
    have OP9:=(OPU.keep (w':=(w8.setCell ⟨w.heap.size+1,0,none⟩ (.slice a8 (L3.length+1) c8)).setCell ⟨w.heap.size+2,0,none⟩ (.int .i64 ((p:Int)+(m:Int)))) (fun q hq=>keep9 q (by rcases hq with h | h<;>omega) (by rcases hq with h | h<;>omega)) (fun q hq=>keep9 q (fun e=>hnew8 q zC hq) (fun e=>hnew8 q zC hq))).mono (F':=fun q=>(N1≤q∧q<w2.heap.size∧(Value.slice ap2 p cp2).ownBlock≠some q)∨(w2.heap.size≤q∧q<((w8.setCell ⟨w.heap.size+1,0,none⟩ (.slice a8 (L3.length+1) c8)).setCell ⟨w.heap.size+2,0,none⟩ (.int .i64 ((p:Int)+(m:Int)))).heap.size)) (fun q hq=>by
     rw[hsz]
     rcases hq with h | h
     ·exact .inl h
     ·exact .inr ⟨h.1,zC⟩)
    have hbo8:Blk w8 (w.heap.size+1) 337 #[.slice av3 L3.length cv3]:=(HGG.out _ l1 n1).trans HHBO.out
    have hbf8:Blk w8 (w.heap.size+2) 3 #[.int .i64 (i:Int)]:=(HGG.out _ l2 n2).trans HB3.out
    have hfin:IS w ((w8.setCell ⟨w.heap.size+1,0,none⟩ (.slice a8 (L3.length+1) c8)).setCell ⟨w.heap.size+2,0,none⟩ (.int .i64 ((p:Int)+(m:Int)))) (w.heap.size+3) N1 gs g mb base b sa sc ab cb a c (p+m) (p+m) p a8 c8 ap2 cp2 (L3++[⟨[],o,m⟩]) (cells3++[[.slice none 0 0,.int .i64 (o:Int),.int .i64 (m:Int)]]):=by
     refine HT2.out.out zC (As _) zC ?_ ?_ (by rw[hll];exact OP9) ?_ ?_ (by rw[hll];omega) ?_
     ·exact (hbf8.far zH _).set 0 _
     ·rw[hll];exact (hbo8.set 0 _).far zH _
     ·refine Tch.setCell (Tch.setCell ⟨HG8.out.os.trans HT3.out.os,HG8.out.tape.trans HT3.out.tape,HG8.out.output.trans HT3.out.output,zC,fun q hq hf=> ?_⟩ (fun _=> .inl rfl) _) (fun _=> .inr (.inl rfl)) _
      have h3:(Value.slice av3 L3.length cv3).ownBlock≠some q:=fun e=>by
       rcases HAT3.out with h | ⟨q',hq',hlt'⟩
       ·rw[h] at e;exact hf (.inr (.inr e))
       ·rw[hq'] at e;have:=AR e;omega
      exact (HGG.out q zC h3).trans (HT3.out.block q hq (fun e=>by
       rcases e with e | e
       ·exact hf (.inl e)
       ·exact hf (.inr (.inr e))))
     ·rw[hll]
      rcases HA8.out with h | h
      ·rcases HAT3.out with h' | ⟨q',hq',hlt'⟩
       ·exact .inl (h.trans h')
       ·exact .inr ⟨q',h.trans hq',hlt'⟩
      ·exact .inr ⟨_,h,zI⟩
     ·have e1:=hts.out HM0.out
      have e2:=HT2.out.toks
      rw[e1] at e2
      rw[←e2,←HL3.out]
      simp
    have HF:=hid hfin
    clear hfin OP9 OPU hx hOF keep9 hsz hbo8 hbf8 hnew8 hll
    go_roundw
    case rel=>exact ⟨p+m,p+m,p,a8,c8,ap2,cp2,_,_,zT,HF⟩
    case measure=>simp [intOf];omega
  ·have hpe:p=b.length:=by omega
   subst hpe
   have htop:=hT.out.top
   have hn0:=hT.out.n1
   have hav:=fun q (hq:(Value.slice av L.length cv).ownBlock=some q)=>hT.out.own.1.lt q hq
   have hRun:=OS wr (to:=b.length) hT.out.bf hT.out.bo hT.out.bb (Am.mono (Am.keep HL.out fun q hq=>hT.out.below.block q hq) fun q hq=>An hq hT.out.below.size) hT.out.own (fun q hq=>hq.2.1) (fun hq=>ZG) (fun e=>ZT) ⟨zC,zC,fun e=>ZT,fun e=>ZT⟩ (As _) hlen (by have:=hT.out.len;omega) htop
   have htk:=hT.out.toks
   rw[UL (As _)] at htk
   rw[htk] at hRun
   have HRun:=hid hRun;clear hRun htk
   have dlt:decide ((b.length:Int)<(b.length:Int))=false:=zM
   go_wp2_with fail
   refine HRun.out.mono ?_
   rintro r w3 ⟨rfl,av3,cv3,cells3,hbo3,hown3,ht3,hat3⟩
   have o1:w3.cell? ⟨w.heap.size+1,0,none⟩=some (.slice av3 (Fa b).length cv3):=hbo3.cell 0
   have hbel:Below w.heap.size w w3:=hT.out.below.trans (ht3.Ch hT.out.below.size fun q hq e=>by
    rcases e with e | e
    ·omega
    ·have:=(hav _ e).1;omega)
   have hsl:=hown3.slice
   have hlt3:=hown3.1.lt
   have hs3:=ht3.size
   have hpost:UB w (Fa b) (.returned (.tuple #[.slice av3 (Fa b).length cv3,.int .i64 0])) w3:=⟨_,rfl,(rSl 3 Lp).mono hsl fun q hq=>by
    rcases hq with (h | h) | h
    ·exact⟨zC,zC⟩
    ·exact⟨zC,h.2⟩
    ·have:=hlt3 q h;exact⟨zC,this.2⟩,hbel⟩
   have HP:=hid hpost
   clear hpost hsl hlt3 hbel hown3 ht3 hat3 hbo3
   go_wp2
   go_ret2
   exact HP.out
end Go.Proofs.YtfddhafbhceoaaaGreat
namespace Go.Bs
open Go.RowKit
variable{base g:Nat}{e:TypeId}{v:Value}{w:World}
end Go.Bs
namespace Go.Proofs.YtfddhafbhceoaaaGreat
open Go.RowKit Go.Bs Go.Maps
variable{bound:Int}{B D J J' b:List UInt8}{cs xs:List Value}{base c cb cp g gs i mb n o p sc:Nat}{S:Nat → Prop}{a a1 ab ap sa:Option Addr}{s:Rs}{e:TypeId}{v:Value}{w w' w1:World}
theorem UM{x:Tok}(h:Lp.r S w cs x):∃a c,cs=[.slice a x.lit.length c,.int .i64 x.off,.int .i64 x.len]∧(-9223372036854775808≤x.off∧x.off≤9223372036854775807)∧(-9223372036854775808≤x.len∧x.len≤9223372036854775807)∧Am.r S w [.slice a x.lit.length c] x.lit:=by
 obtain⟨c1,c2,rfl,h1,c3,c4,rfl,⟨rfl,h2⟩,rfl,h3⟩:=h
 obtain⟨a,c,rfl,h4,_⟩:=AH h1
 exact⟨a,c,rfl,bounds_i64 h2,bounds_i64 h3,h4⟩
theorem Wn{xs:List Tok}(h:QY.r S w [.slice a n c] xs)(hi:i<xs.length):∃b off,a=some ⟨b,off,none⟩∧S b∧∃a' c',w.cell? ⟨b,off+i*3,none⟩=some (.slice a' xs[i].lit.length c')∧w.cell? ⟨b,off+i*3+1,none⟩=some (.int .i64 xs[i].off)∧w.cell? ⟨b,off+i*3+2,none⟩=some (.int .i64 xs[i].len)∧
  (-9223372036854775808≤xs[i].off∧xs[i].off≤9223372036854775807)∧(-9223372036854775808≤xs[i].len∧xs[i].len≤9223372036854775807)∧Am.r S w [.slice a' xs[i].lit.length c'] xs[i].lit:=by
 obtain⟨b,off,e,hS,cs,_,hc,hA⟩:=I5 h hi
 obtain⟨a',c',rfl,h1,h2,h3⟩:=UM hA
 exact⟨b,off,e,hS,a',c',hc 0 _ rfl,hc 1 _ rfl,hc 2 _ rfl,h1,h2,h3⟩
def I7(t:Tok):Bool:=decide (t.off=0)&&(decide (t.len=0)&&(decide (1≤t.lit.length)&&decide (t.lit.length≤1048576)))
def Ho(t:Tok):Bool:=decide (t.lit.length=0)&&(decide (1≤t.off)&&(decide (t.off≤65536)&&(decide (4≤t.len)&&decide (t.len≤1048576))))
inductive Good (b:List UInt8):Bool→Nat→List Tok→Prop where
 | nil {f:Bool}:Good b f b.length []
 | copy {f:Bool} {p o m:Nat} {rest:List Tok}:p<b.length→Ci b p=(o,m)→m≠0→Good b false (p+m) rest→Good b f p (⟨[],(o:Int),(m:Int)⟩::rest)
 | run {p q:Nat} {rest:List Tok}:p<q→q≤b.length→(∀r,p≤r→r<q→(Ci b r).2=0)→Good b true q rest→Good b false p (⟨(b.drop p).take (q-p),0,0⟩::rest)
theorem NB{rest:List Tok}(hip:i≤p)(hp:p≤b.length)(h:∀r,i≤r→r<p→(Ci b r).2=0)(hg:∀f,Good b f p rest):Good b false i (GA b i p++rest):=by
 unfold GA
 by_cases hlt:i<p
 ·rw[Ag hlt]
  exact .run hlt hp h (hg true)
 ·obtain rfl:i=p:=by omega
  rw[Ai hlt]
  exact hg false
theorem LF(b:List UInt8):∀(f p i:Nat),b.length≤p+f→i≤p→p≤b.length→(∀r,i≤r→r<p→(Ci b r).2=0)→Good b false i (Fb b f p i)
 | 0,p,i,h1,h2,h3,h4=>by
  obtain rfl:p=b.length:=zC
  have:=NB (rest:=[]) h2 h3 h4 fun f=> .nil
  simpa [Fb] using this
 | f+1,p,i,h1,h2,h3,h4=>by
  simp only[Fb]
  by_cases hp:p<b.length
  ·rw[Ag hp]
   by_cases hm:(Ci b p).2=0
   ·rw[Ag hm]
    refine LF b f (p+1) i zC zC zC fun r hr1 hr2=> ?_
    by_cases hrp:r=p
    ·rw[hrp];exact hm
    ·exact h4 r hr1 zC
   ·rw[Ai hm]
    have hroom:=(Kt b p).1
    refine NB h2 h3 h4 fun g=> .copy hp rfl hm ?_
    exact LF b f _ _ zC (As _) zC fun r h1 h2=>by omega
  ·rw[Ai hp]
   obtain rfl:p=b.length:=zC
   have:=NB (rest:=[]) h2 h3 h4 fun f=> .nil
   simpa using this
theorem NA(b:List UInt8):Good b false 0 (Fa b):=LF b b.length 0 0 zC (As _) (Ar _) fun r h1 h2=>by omega
theorem Kz(b:List UInt8):∀(f p i:Nat),(Fb b f p i).length≤2*f+1
 | 0,p,i=>by
  simp only[Fb,GA]
  split<;>simp
 | f+1,p,i=>by
  simp only[Fb]
  split
  ·split
   ·have:=Kz b f (p+1) i;omega
   ·have:=Kz b f (p+(Ci b p).2) (p+(Ci b p).2)
    simp only[Al,Ay,GA]
    split<;>simp<;>omega
  ·simp only[GA]
   split<;>simp
end Go.Proofs.YtfddhafbhceoaaaGreat
namespace Go.Bs
variable{base g:Nat}{e:TypeId}{v:Value}{w:World}
def G9:Nat→Nat→List UInt8
 | 0,x=>[UInt8.ofNat x]
 | f+1,x=>if x<128 then [UInt8.ofNat x] else UInt8.ofNat (128+x%128)::G9 f (x/128)
def AD(x:Nat):List UInt8:=G9 9 x
theorem OI:∀(f g x:Nat),x<128^(f+1)→f≤g→G9 f x=G9 g x
 | 0,0,_,_,_=>rfl
 | 0,g+1,x,h,_=>by
  have:x<128:=ZL
  simp[G9,this]
 | f+1,0,_,_,h=>by omega
 | f+1,g+1,x,h,hg=>by
  simp only[G9]
  split
  ·rfl
  ·rw[OI f g (x/128) (by rw[FQ] at h;omega) zC]
theorem GN{x:Nat}(h:x<128):AD x=[UInt8.ofNat x]:=by simp[AD,G9,h]
theorem Lm{x:Nat}(h:¬x<128)(hx:x<2^64):AD x=UInt8.ofNat (128+x%128)::AD (x/128):=by
 have e:G9 8 (x/128)=G9 9 (x/128):=OI 8 9 _ zC zC
 unfold AD
 rw[←e]
 simp[G9,h]
theorem A1(x:Nat):(AD x).length≤10∧1≤(AD x).length:=by
 have:∀f x,(G9 f x).length≤f+1∧1≤(G9 f x).length:=by
  intro f
  induction f with
  | zero=>intro x;simp[G9]
  | succ f ih=>intro x;simp only[G9];split<;>simp;exact (ih _).1
 exact this 9 x
end Go.Bs
namespace Go.Proofs.YtfddhafbhceoaaaGreat
open Go.RowKit Go.Bs Go.Maps
variable{bound:Int}{B D J J' b:List UInt8}{cs xs:List Value}{base c cb cp g gs i mb n o p sc:Nat}{S:Nat → Prop}{a a1 ab ap sa:Option Addr}{s:Rs}{e:TypeId}{v:Value}{w w' w1:World}
theorem DW(x:Nat)(hx:x<18446744073709551616)(w:World):
  Calls Tryz.prog 245 #[.int .u64 x] w fun r w'=>r=.returned (.int .i64 (AD x).length)∧Below w.heap.size w w':=by
 go_enter Tryz.func245,Tryz.ntmps245
 go_wp2_with fail
 go_loopw [0,3] (fun y n wr=>∃v k:Nat,y=.int .u64 v∧n=.int .i64 k∧v<18446744073709551616∧k≤10∧1≤k∧Hid ((AD x).length+1=k+(AD v).length)∧Below w.heap.size w wr) (fun y _ _=>(intOf y).toNat)
 case atStart=>exact ⟨x,1,rfl,rfl,hx,zC,zC,hid zC,Below.refl _ _⟩
 case round=>
  obtain⟨v,k,rfl,rfl,hv,hk,hk1,hs,hb⟩:=hrel
  by_cases h:v<128
  ·have d1:decide ((128:Int)≤(v:Int))=false:=by simp;omega
   have hf:Hid ((AD x).length=k):=hid (by have:=hs.out;rw[GN h] at this;simpa using this)
   go_wp2
   go_ret
   exact⟨by rw[hf.out];rfl,hb⟩
  ·have d1:decide ((128:Int)≤(v:Int))=true:=by simp;omega
   have hn:Hid ((AD x).length+1=k+1+(AD (v/128)).length):=hid (by have:=hs.out;rw[Lm h (by omega)] at this;simp at this;omega)
   have hk10:k+1≤10:=by have:=hn.out;have:=A1 x;have:=A1 (v/128);omega
   go_wp2_with fail
   go_outline
   go_roundw
   case rel=>exact ⟨v/128,k+1,zT,zT,zC,zC,zC,hn,hb⟩
   case measure=>simp [intOf];omega
end Go.Proofs.YtfddhafbhceoaaaGreat
namespace Go.Bs
open Go.RowKit
variable{base g:Nat}{e:TypeId}{v:Value}{w:World}
theorem Ra(hb:base≤g)(h:w.heap[g]? =some (.cells #[v] e (0,0))):w.ownsRow base e 1 (.slice (some ⟨g,0,none⟩) 1 1) 1 [v]:=
 ⟨rfl,.inr ⟨g,1,#[v],rfl,hb,h,As _,zL,rfl,rfl⟩⟩
theorem EG(J:List UInt8)(b:UInt8):byteCells J++[.int .u8 (b.toNat:Int)]=byteCells (J++[b]):=ZS
theorem G0{x:Nat}(h:x<256):(x:Int)=((UInt8.ofNat x).toNat:Int):=by
 simp;omega
theorem AaJ:∀n:Nat,n<256→bits .or .u8 (n:Int) 128=128+(n:Int)%128:=zF
theorem Aae(v:Nat):bits .or .u8 ((v:Int)%256) 128=((UInt8.ofNat (128+v%128)).toNat:Int):=by
 have h:=AaJ (v%256) zC
 rw[show (((v%256:Nat)):Int)=(v:Int)%256 by omega] at h
 rw[h,←G0 zC]
 omega
end Go.Bs
namespace Go.Proofs.YtfddhafbhceoaaaGreat
open Go.RowKit Go.Bs Go.Maps
variable{bound:Int}{B D J J' b:List UInt8}{cs xs:List Value}{base c cb cp g gs i mb n o p sc:Nat}{S:Nat → Prop}{a a1 ab ap sa:Option Addr}{s:Rs}{e:TypeId}{v:Value}{w w' w1:World}
theorem PG(x:Nat)(hx:x<18446744073709551616)(w:World):
  Calls Tryz.prog 238 #[.int .u64 x] w fun r w'=>∃v,r=.returned v∧Am.r (fun b=>w.heap.size≤b∧b<w'.heap.size) w' [v] (AD x)∧Below w.heap.size w w':=by
 obtain⟨i0,hi,hz0,hz1,hz2⟩:=A5 FL
 go_enter Tryz.func238,Tryz.ntmps238
 go_wp2_with fail
 go_loopw [0,3] (fun y o wr=>∃(v:Nat) (J:List UInt8),y=.int .u64 v∧v<18446744073709551616∧wr.ownsRow w.heap.size 5 1 o J.length (byteCells J)∧Hid (AD x=J++AD v)∧Below w.heap.size w wr) (fun y _ _=>(intOf y).toNat)
 case atStart=>exact ⟨x,[],rfl,hx,⟨rfl,.inl ⟨rfl,rfl⟩⟩,hid rfl,Below.refl _ _⟩
 case round=>
  obtain⟨v,J,rfl,hv,hown,hs,hb⟩:=hrel
  have hbs:=hb.size
  have hJ:J.length≤10:=by have h1:=A1 x;rw[hs.out] at h1;simp at h1;omega
  obtain⟨aJ,cJ,rfl⟩:=AV hown
  have HO:=hid hown
  clear hown
  by_cases h:v<128
  ·have d1:decide ((128:Int)≤(v:Int))=false:=by simp;omega
   have hfin:Hid (AD x=J++[UInt8.ofNat v]):=hid (by rw[hs.out,GN h])
   have hby:Hid ((v:Int)=((UInt8.ofNat v).toNat:Int)):=hid (G0 zC)
   go_wp2_with (at_builtin;go_loud (refine AB rfl _ _ _ rfl w.heap.size 5 i0 (.int .u8 0) 1 1 AJ hi hz0 hz1 hz2 rfl zL (.slice aJ J.length cJ) J.length (byteCells J) rfl (Bz HO.out zB) (some ⟨wr.heap.size,0,none⟩) 1 1 [.int .u8 (v:Int)] rfl (BU wr 5 _ rfl rfl rfl) zZ zO zC zI ?_;intro v' w1 hown1 hgrow1 hat1;have HG:=hid hgrow1;have HO1:=hid hown1;clear hgrow1 hown1 hat1))
   have ho:=HO1.out
   rw[hby.out,EG,←hfin.out] at ho
   have hlen:J.length+1=(AD x).length:=by rw[hfin.out];simp
   have hV:=CG hlen ho
   have hB:Below w.heap.size w w1:=Below.grown zB HG.out zI (fun g e=>(HO.out.lt g e).1)
   have HV:=hid hV
   clear ho hlen hV
   go_wp2
   go_ret
   exact⟨_,rfl,HV.out,hB⟩
  ·have d1:decide ((128:Int)≤(v:Int))=true:=by simp;omega
   have hfin:Hid (AD x=(J++[UInt8.ofNat (128+v%128)])++AD (v/128)):=hid (by rw[hs.out,Lm h (by omega)];simp)
   have hor:=Aae v
   generalize UInt8.ofNat (128+v%128)=bb at*
   go_wp2_with (at_builtin;go_loud (refine AB rfl _ _ _ rfl w.heap.size 5 i0 (.int .u8 0) 1 1 AJ hi hz0 hz1 hz2 rfl zL (.slice aJ J.length cJ) J.length (byteCells J) rfl (Bz HO.out zB) (some ⟨wr.heap.size,0,none⟩) 1 1 [.int .u8 (bb.toNat:Int)] rfl (BU wr 5 _ rfl rfl rfl) zZ zO zC zI ?_;intro v' w1 hown1 hgrow1 hat1;have HG:=hid hgrow1;have HO1:=hid hown1;clear hgrow1 hown1 hat1))
   have ho:=HO1.out
   rw[EG] at ho
   have hB:Below w.heap.size w w1:=Below.grown zB HG.out zI (fun g e=>(HO.out.lt g e).1)
   have HO2:=hid ho
   clear ho HO1
   go_wp2_with fail
   go_roundw
   case rel=>exact ⟨v/128,J++[bb],zT,zC,(by rw[Al];exact HO2.out),hfin,hB⟩
   case measure=>simp [intOf];omega
structure BG(w:World)(g base most:Nat)(J:List UInt8)(a:Option Addr)(c:Nat):Prop where
 blk:Blk w g 276 #[.int .i64 most,.slice a J.length c,.int .i64 0]
 own:w.ownsRow base 5 1 (.slice a J.length c) J.length (byteCells J)
 ne:(Value.slice a J.length c).ownBlock≠some g
 lo:base≤g
 le:J.length≤most
 most:most≤4611686018427387904
 len:J.length≤100000000000000
def Dm(g:Nat)(a:Option Addr)(q:Nat):Prop:=q=g∨∃p,a=some p∧p.block=q
theorem Lr:(Value.slice a n c).ownBlock=a.map Addr.block:=by cases a<;>rfl
def AA(w:World)(g base most:Nat)(J':List UInt8)(a:Option Addr)(w':World):Prop:=
 ∃a' c',BG w' g base most J' a' c'∧Tch (Dm g a) w w'∧(a'.map Addr.block=a.map Addr.block∨∃q,a'.map Addr.block=some q∧w.heap.size≤q)
theorem AA.refl{most:Nat}(h:BG w g base most J a c):AA w g base most J a w:=⟨a,c,h,Tch.refl _ _,.inl rfl⟩
theorem Gy{q:Nat}:Dm g a q↔q=g∨a.map Addr.block=some q:=by unfold Dm;simp
theorem AA.trans{w2:World}{most:Nat}{J:List UInt8}(h1:Tch (Dm g a) w w1)(h2:a1.map Addr.block=a.map Addr.block∨∃q,a1.map Addr.block=some q∧w.heap.size≤q)(k:AA w1 g base most J' a1 w2):AA w g base most J' a w2:=by
 obtain⟨a2,c2,k1,k2,k3⟩:=k
 have hs:=h1.size
 refine⟨a2,c2,k1,h1.trans k2 fun q hq e=> ?_,?_⟩
 ·rw[Gy] at e ⊢
  rcases e with e | e
  ·exact .inl e
  ·rcases h2 with h2 | ⟨q',h2,h3⟩
   ·exact .inr (h2 ▸ e)
   ·rw[h2] at e;simp at e;omega
 ·rcases k3 with k3 | ⟨q,k3,k4⟩
  ·rcases h2 with h2 | ⟨q',h2,h3⟩
   ·exact .inl (k3.trans h2)
   ·exact .inr ⟨q',k3.trans h2,h3⟩
  ·exact .inr ⟨q,k3,zC⟩
theorem AA.later{w2:World}{most:Nat}(h:Below w.heap.size w w1)(k:AA w1 g base most J' a w2):AA w g base most J' a w2:=AA.trans (J:=J') (Tch.AW h) (.inl rfl) k
theorem BG.later{most:Nat}(h:BG w g base most J a c)(hb:Below w.heap.size w w1):BG w1 g base most J a c:=
 ⟨h.blk.later hb,Bz h.own hb,h.ne,h.lo,h.le,h.most,h.len⟩
theorem BG.new(w:World)(most:Nat)(hm:most≤4611686018427387904):BG (w.alloc (.cells #[.int .i64 most,.slice none 0 0,.int .i64 0] 276)) w.heap.size w.heap.size most [] none 0:=
 ⟨Blk.new w _ _,⟨rfl,.inl ⟨rfl,rfl⟩⟩,ZU,As _,Ar _,hm,Ar _⟩
theorem KJ(w:World){most:Nat}(h:BG w g base most J a c):
  Calls Tryz.prog 235 #[.pointer (some ⟨g,0,none⟩)] w fun r w'=>r=.returned (.int .i64 0)∧w=w':=by
 have c2:w.cell? ⟨g,2,none⟩=some (.int .i64 0):=h.blk.cell 2
 clear h
 go_enter Tryz.func235,Tryz.ntmps235
 go_wp2
 go_ret
 exact⟨rfl,rfl⟩
theorem WD(w:World){most:Nat}{J:List UInt8}(h:BG w g base most J a c):
  Calls Tryz.prog 236 #[.pointer (some ⟨g,0,none⟩)] w fun r w'=>r=.returned (.int .i64 ((most:Int)-J.length))∧Below w.heap.size w w':=by
 have C0:=fun s:AM w=>s.cell (h.blk.cell 0)
 have C1:=fun s:AM w=>s.cell (h.blk.cell 1)
 simp at C0 C1
 have hle:=h.le;have hmo:=h.most
 clear h
 go_enter Tryz.func236,Tryz.ntmps236
 go_wp2_with fail
 refine Az zJ zJ ?_
 repeat (go_big_quiet_step (fail))
 refine AT ?_
 rintro W5 ⟨⟨W5',hb5⟩,rfl⟩
 go_wp2
 go_ret
 exact⟨zAg,hb5⟩
theorem Gh(w:World)(most:Nat)(hm:most≤4611686018427387904):
  Calls Tryz.prog 160 #[.int .i64 most] w fun r w'=>r=.returned (.pointer (some ⟨w.heap.size,0,none⟩))∧BG w' w.heap.size w.heap.size most [] none 0∧Below w.heap.size w w':=by
 have hN:=hid (BG.new w most hm)
 have d1:max (most:Int) 0=most:=zC
 have d2:(if (most:Int)<0 then (0:Int) else most)=most:=ZQ
 go_enter Tryz.func160,Tryz.ntmps160
 go_wp2
 go_ret
 exact⟨rfl,hN.out,zB⟩
theorem WE{w2:World}{most:Nat}{a':Option Addr}{c':Nat}(h:BG w1 g base most J a c)(hfit:J.length+D.length≤most)(hlen:J.length+D.length≤100000000000000)
 (hown:w2.ownsRow base 5 1 (.slice a' (J.length+D.length) c') (J.length+D.length) (byteCells J++byteCells D)) (hgrow:w1.grownBy w2 (Value.slice a J.length c).ownBlock)
 (hat:(Value.slice a' (J.length+D.length) c').ownBlock=(Value.slice a J.length c).ownBlock∨(Value.slice a' (J.length+D.length) c').ownBlock=some w1.heap.size):
  AA w1 g base most (J++D) a (w2.setCell ⟨g,1,none⟩ (.slice a' (J.length+D.length) c')):=by
 have hg:=h.blk.lt
 have hs:=hgrow.size
 have hn2:(Value.slice a' (J.length+D.length) c').ownBlock≠some g:=fun e=>by
  rcases hat with h1 | h1
  ·rw[h1] at e;exact h.ne e
  ·rw[h1] at e;simp at e;omega
 have hsz:(w2.setCell ⟨g,1,none⟩ (.slice a' (J.length+D.length) c')).heap.size=w2.heap.size:=zU
 have hll:(J++D).length=J.length+D.length:=Al
 have hbb:byteCells (J++D)=byteCells J++byteCells D:=ZS
 refine⟨a',c',⟨?_,?_,?_,h.lo,zC,h.most,zC⟩,?_,?_⟩
 ·rw[hll]
  exact (h.blk.grown hgrow (fun e=>h.ne e.symm)).set 1 _
 ·rw[hll,hbb]
  exact Jb hown fun q hq=>At w2 _ _ q (fun e=>hn2 (by rw[hq,e]))
 ·rw[hll];exact hn2
 ·refine⟨hgrow.os,hgrow.tape,hgrow.output,by rw[hsz];exact hs,fun q hq hf=> ?_⟩
  rw[Gy] at hf
  exact (At w2 _ _ q (fun e=>hf (.inl e))).trans (hgrow.block q hq (fun e=>hf (.inr (by rw[Lr] at e;exact e.symm))))
 ·rw[Lr,Lr] at hat
  rcases hat with h1 | h1
  ·exact .inl h1
  ·exact .inr ⟨_,h1,As _⟩
theorem Fp(w:World){g base most:Nat}{J:List UInt8}{a:Option Addr}(h:BG w g base most J a c)(D:List UInt8)(ad:Option Addr)(nd cd:Nat)(hD:Am.r (·<w.heap.size) w [.slice ad nd cd] D)(hfit:J.length+D.length≤most)(hlen:J.length+D.length≤100000000000000):
  Calls Tryz.prog 161 #[.pointer (some ⟨g,0,none⟩),.slice ad nd cd] w fun r w'=>r=.returned (.tuple #[])∧AA w g base most (J++D) a w':=by
 obtain⟨rfl,hm,_,_⟩:=AL hD
 obtain⟨i0,hi,hz0,hz1,hz2⟩:=A5 FL
 have HC:=hid (KJ w h)
 have HR:=hid (WD w h)
 have HP:=hid h
 have HD:=hid hD
 have HONE:=hid (Bi D)
 have hmo:=h.most
 have d1:decide ((most:Int)-(J.length:Int)<(D.length:Int))=false:=zI
 clear h hD
 go_enter Tryz.func161,Tryz.ntmps161
 go_wp2_with fail
 refine HC.out.mono ?_
 rintro r w0 ⟨rfl,rfl⟩
 go_wp2_with fail
 refine HR.out.mono ?_
 rintro r w1 ⟨rfl,hb1⟩
 have hP1:=HP.out.later hb1
 have c1:w1.cell? ⟨g,1,none⟩=some (.slice a J.length c):=hP1.blk.cell 1
 have hg1:=hP1.blk.lt
 have f1:=hP1.blk.free 1
 have hne:=hP1.ne
 have hlo:=hP1.lo
 have HP1:=hid hP1
 have HS:=hid (Cm (lift HD.out hb1))
 clear hP1
 go_wp2_with (at_builtin;go_loud (refine AB rfl _ _ _ rfl base 5 i0 (.int .u8 0) 1 1 AJ hi hz0 hz1 hz2 rfl zL (.slice a J.length c) J.length (byteCells J) rfl HP1.out.own ad D.length cd (byteCells D) rfl HS.out HONE.out zO zC zC ?_;intro v' w2 hown2 hgrow2 hat2;obtain⟨a',c',rfl⟩:=AV hown2;have f2:=(CV (a:=⟨g,1,none⟩) (hgrow2.block g hg1 (fun e=>hne e.symm))).trans f1;have e2:=(Bq (a:=⟨g,1,none⟩) (hgrow2.block g hg1 (fun e=>hne e.symm))).trans c1;have hz2':g<w2.heap.size:=An hg1 hgrow2.size;have HG:=hid hgrow2;have HO:=hid hown2;have HAT:=hid hat2;clear hgrow2 hown2 hat2))
 have hst:=AA.later hb1 (WE HP1.out hfit hlen HO.out HG.out HAT.out)
 have HST:=hid hst
 clear hst
 go_wp2
 go_end0
 exact⟨rfl,HST.out⟩
theorem Fx(w:World){most:Nat}{J:List UInt8}(h:BG w g base most J a c):
  Calls Tryz.prog 165 #[.pointer (some ⟨g,0,none⟩)] w fun r w'=>∃v,r=.returned (.tuple #[v,.int .i64 0])∧Am.r (fun q=>w.heap.size≤q∧q<w'.heap.size) w' [v] J∧Below w.heap.size w w':=by
 obtain⟨i0,hi,hz0,hz1,hz2⟩:=A5 FL
 have HC:=hid (KJ w h)
 have hB:=CG rfl h.own
 obtain⟨_,hm,_,_⟩:=AL hB
 have HD:=hid (Am.mono hB (S':=(·<w.heap.size)) fun q hq=>hq.2)
 have HONE:=hid (Bi J)
 have c1:w.cell? ⟨g,1,none⟩=some (.slice a J.length c):=h.blk.cell 1
 have hg1:=h.blk.lt
 have hle:=h.le;have hmo:=h.most;have hle14:=h.len
 clear h hB
 go_enter Tryz.func165,Tryz.ntmps165
 go_wp2_with fail
 refine HC.out.mono ?_
 rintro r w0 ⟨rfl,rfl⟩
 go_wp2_with (at_builtin;go_loud (refine AB rfl _ _ _ rfl w.heap.size 5 i0 (.int .u8 0) 1 1 AJ hi hz0 hz1 hz2 rfl zL _ 0 [] rfl (EO _ (As _) rfl) a J.length c (byteCells J) rfl (Cm (lift HD.out zB)) HONE.out zO zC zM ?_;intro v' w1 hown1 hgrow1 hat1;rw[A7,AG] at hown1;obtain⟨a',c',rfl⟩:=AV hown1;have HG:=hid hgrow1;have HO:=hid hown1;clear hgrow1 hown1 hat1))
 have hA:=CG rfl HO.out
 have hb1:Below w.heap.size w w1:=Below.grown zB HG.out zM (fun g e=>by
  have e':some w.heap.size=some g:=e
  injection e' with e'
  omega)
 have HA:=hid hA
 clear hA
 go_ret2
 exact⟨_,rfl,HA.out,hb1⟩
def Co(t:Tok):Bool:=I7 t || Ho t
theorem LY(x:Tok)(a:Option Addr)(c:Nat)(w:World)(hl:x.lit.length≤9223372036854775807)(h1: -9223372036854775808≤x.off∧x.off≤9223372036854775807)(h2: -9223372036854775808≤x.len∧x.len≤9223372036854775807):
  Calls Tryz.prog 383 #[.agg #[.slice a x.lit.length c,.int .i64 x.off,.int .i64 x.len]] w fun r w'=>r=.returned (.bool (Co x))∧Below w.heap.size w w':=by
 obtain⟨D,o,m⟩:=x
 dsimp only at*
 by_cases k0:o=0
 ·skip
  have k0_0:(o==0)=true:=beq_iff_eq.2 zC
  by_cases k1:m=0
  ·skip
   have k1_0:(m==0)=true:=beq_iff_eq.2 zC
   by_cases k2:1≤D.length
   ·skip
    have k2_0:decide ((1:Int)≤(D.length:Int))=true:=Ad zC
    have k2_1:decide (1≤D.length)=true:=Ad zC
    by_cases k3:D.length≤1048576
    ·skip
     have k3_0:decide ((D.length:Int)≤1048576)=true:=Ad zC
     have k3_1:decide (D.length≤1048576)=true:=Ad zC
     have hff:Hid (Co ⟨D,o,m⟩=true):=hid (by simp only[Co,I7,Ho,Cg,Ap,Ao];first | omega | (simp;omega))
     clear hl h1 h2
     go_enter GF,FW
     go_wp2
     go_ret
     exact⟨zP,zB⟩
    ·skip
     have k3_0:decide ((D.length:Int)≤1048576)=false:=Ae zC
     have k3_1:decide (D.length≤1048576)=false:=Ae zC
     have hff:Hid (Co ⟨D,o,m⟩=false):=hid (by rw[←Gt];simp only[Co,I7,Ho,Cg,Ap,Ao];first | omega | (simp;omega))
     clear hl h1 h2
     go_enter GF,FW
     go_wp2
     go_ret
     exact⟨zP,zB⟩
   ·skip
    have k2_0:decide ((1:Int)≤(D.length:Int))=false:=Ae zC
    have k2_1:decide (1≤D.length)=false:=Ae zC
    have hff:Hid (Co ⟨D,o,m⟩=false):=hid (by rw[←Gt];simp only[Co,I7,Ho,Cg,Ap,Ao];first | omega | (simp;omega))
    clear hl h1 h2
    go_enter GF,FW
    go_wp2
    go_ret
    exact⟨zP,zB⟩
  ·skip
   have k1_0:(m==0)=false:=beq_eq_false_iff_ne.2 zC
   have hff:Hid (Co ⟨D,o,m⟩=false):=hid (by rw[←Gt];simp only[Co,I7,Ho,Cg,Ap,Ao];first | omega | (simp;omega))
   clear hl h1 h2
   go_enter GF,FW
   go_wp2
   go_ret
   exact⟨zP,zB⟩
 ·skip
  have k0_0:(o==0)=false:=beq_eq_false_iff_ne.2 zC
  by_cases k4:0<D.length
  ·skip
   have k4_0:decide ((0:Int)<(D.length:Int))=true:=Ad zC
   have k4_1:decide (0<D.length)=true:=Ad zC
   have hff:Hid (Co ⟨D,o,m⟩=false):=hid (by rw[←Gt];simp only[Co,I7,Ho,Cg,Ap,Ao];first | omega | (simp;omega))
   clear hl h1 h2
   go_enter GF,FW
   go_wp2
   go_ret
   exact⟨zP,zB⟩
  ·skip
   obtain rfl:D=[]:=AQ zC
   simp only[AZ] at*
   by_cases k5:o<0
   ·skip
    have k5_0:decide (o<0)=true:=Ad zC
    have hff:Hid (Co ⟨[],o,m⟩=false):=hid (by rw[←Gt];simp only[Co,I7,Ho,Cg,Ap,Ao,AZ];first | omega | (simp;omega))
    clear hl h1 h2
    go_enter GF,FW
    go_wp2
    go_ret
    exact⟨zP,zB⟩
   ·skip
    have k5_0:decide (o<0)=false:=Ae zC
    by_cases k6:65536<o
    ·skip
     have k6_0:decide ((65536:Int)<o)=true:=Ad zC
     have hff:Hid (Co ⟨[],o,m⟩=false):=hid (by rw[←Gt];simp only[Co,I7,Ho,Cg,Ap,Ao,AZ];first | omega | (simp;omega))
     clear hl h1 h2
     go_enter GF,FW
     go_wp2
     go_ret
     exact⟨zP,zB⟩
    ·skip
     have k6_0:decide ((65536:Int)<o)=false:=Ae zC
     by_cases k7:4≤m
     ·skip
      have k7_0:decide ((4:Int)≤m)=true:=Ad zC
      by_cases k8:m≤1048576
      ·skip
       have k8_0:decide (m≤1048576)=true:=Ad zC
       have hff:Hid (Co ⟨[],o,m⟩=true):=hid (by simp only[Co,I7,Ho,Cg,Ap,Ao,AZ];first | omega | (simp;omega))
       clear hl h1 h2
       go_enter GF,FW
       go_wp2
       go_ret
       exact⟨zP,zB⟩
      ·skip
       have k8_0:decide (m≤1048576)=false:=Ae zC
       have hff:Hid (Co ⟨[],o,m⟩=false):=hid (by rw[←Gt];simp only[Co,I7,Ho,Cg,Ap,Ao,AZ];first | omega | (simp;omega))
       clear hl h1 h2
       go_enter GF,FW
       go_wp2
       go_ret
       exact⟨zP,zB⟩
     ·skip
      have k7_0:decide ((4:Int)≤m)=false:=Ae zC
      have hff:Hid (Co ⟨[],o,m⟩=false):=hid (by rw[←Gt];simp only[Co,I7,Ho,Cg,Ap,Ao,AZ];first | omega | (simp;omega))
      clear hl h1 h2
      go_enter GF,FW
      go_wp2
      go_ret
      exact⟨zP,zB⟩
theorem CD(w:World){g base most:Nat}{J:List UInt8}{a:Option Addr}(h:BG w g base most J a c)(x:Nat)(hx:x<18446744073709551616)(hfit:J.length+(AD x).length≤most)(hlen:J.length+(AD x).length≤100000000000000):
  Calls Tryz.prog 163 #[.pointer (some ⟨g,0,none⟩),.int .u64 x] w fun r w'=>r=.returned (.tuple #[])∧AA w g base most (J++AD x) a w':=by
 have HV:=hid (PG x hx w)
 have HP:=hid h
 clear h
 go_enter Tryz.func163,Tryz.ntmps163
 go_wp2_with fail
 refine HV.out.mono ?_
 rintro r w1 ⟨v,rfl,hr,hb1⟩
 obtain⟨a1,c1,hv,hr2,_⟩:=AH hr
 simp only[Av,AI] at hv
 subst hv
 have HQ:=hid (Fp w1 (HP.out.later hb1) (AD x) a1 _ c1 (Am.mono hr2 fun q hq=>hq.2) hfit hlen)
 clear hr hr2
 go_wp2_with fail
 refine HQ.out.mono ?_
 rintro r w2 ⟨rfl,hst⟩
 have HST:=hid (AA.later hb1 hst)
 clear hst
 go_wp2
 first | go_end0 | refine Ax (A4 rfl _ _ _) rfl ?_
 exact⟨rfl,HST.out⟩
def J7(t:Tok):List UInt8:=if I7 t then AD (2*t.lit.length-2)++t.lit else AD (2*t.len.toNat-7)++AD (t.off.toNat-1)
theorem QQ(D:List UInt8)(h1:1≤D.length)(h2:D.length≤1048576):J7 ⟨D,0,0⟩=AD (2*D.length-2)++D:=by
 unfold J7
 rw[Ag]
 simp[I7];omega
theorem OJ(o m:Nat)(h1:1≤o):J7 ⟨[],(o:Int),(m:Int)⟩=AD (2*m-7)++AD (o-1):=by
 unfold J7
 rw[Ai]
 ·simp
 ·simp[I7]
theorem BG.BH{most:Nat}(h:BG w g base most J a c){q:Nat}(hq:Dm g a q):base≤q∧q<w.heap.size:=by
 rcases hq with rfl | ⟨p,hp,rfl⟩
 ·exact⟨h.lo,h.blk.lt⟩
 ·subst hp
  exact h.own.lt _ rfl
theorem Oj(w:World){g base most:Nat}{J:List UInt8}{a:Option Addr}(h:BG w g base most J a c)(D:List UInt8)(h1:1≤D.length)(h2:D.length≤1048576)(ad:Option Addr)(cd:Nat)
 (hD:Am.r (fun q=>q<w.heap.size∧¬Dm g a q) w [.slice ad D.length cd] D) (hfit:J.length+(J7 ⟨D,0,0⟩).length≤most) (hlen:J.length+(J7 ⟨D,0,0⟩).length≤100000000000000):
  Calls Tryz.prog 376 #[.pointer (some ⟨g,0,none⟩),.agg #[.slice ad D.length cd,.int .i64 0,.int .i64 0]] w fun r w'=>r=.returned (.tuple #[])∧AA w g base most (J++J7 ⟨D,0,0⟩) a w':=by
 have HR:=hid (fun (W:World)=>LY ⟨D,0,0⟩ ad cd W zH ⟨zM,zM⟩ ⟨zM,zM⟩)
 have hr:Co ⟨D,0,0⟩=true:=by simp[Co,I7];omega
 rw[hr] at HR
 have hT:=QQ D h1 h2
 rw[hT] at hfit hlen ⊢
 rw[Al] at hfit hlen
 have HV:=hid (fun (W:World) (hW:Below w.heap.size w W)=>CD W (h.later hW) (2*D.length-2) zC zC zC)
 have hno:=fun q (hq:Dm g a q)=>(h.BH hq).2
 have HNO:=hid hno
 have HD:=hid hD
 have hfit':=hid hfit;have hlen':=hid hlen
 have e0:(((2*D.length-2:Nat)):Int)=((D.length:Int)-1)*2:=zC
 rw[e0] at HV
 clear hr hT h hD hno hfit hlen
 go_enter Tryz.func376,Tryz.ntmps376
 go_wp2_with fail
 refine (HR.out _).mono ?_
 rintro r w1 ⟨rfl,hb1⟩
 have B1:Blk w1 w.heap.size 304 #[.slice ad D.length cd,.int .i64 0,.int .i64 0]:=(Blk.new w _ _).later hb1
 have x0:w1.cell? ⟨w.heap.size,0,none⟩=some (.slice ad D.length cd):=B1.cell 0
 have x1:w1.cell? ⟨w.heap.size,1,none⟩=some (.int .i64 0):=B1.cell 1
 have hbw1:Below w.heap.size w w1:=zB
 go_wp2_with fail
 refine (HV.out _ hbw1).mono ?_
 rintro r w2 ⟨rfl,a2,c2,hp2,ht2,ha2⟩
 have B2:=B1.tch ht2 (fun hf=>by have:=HNO.out _ hf;omega)
 have y0:w2.cell? ⟨w.heap.size,0,none⟩=some (.slice ad D.length cd):=B2.cell 0
 have hs1:=hbw1.size
 have hD2:Am.r (·<w2.heap.size) w2 [.slice ad D.length cd] D:=Am.mono (Am.keep HD.out fun q hq=>(ht2.block q zC hq.2).trans (hbw1.block q hq.1)) fun q hq=>An hq.1 (by have:=ht2.size;omega)
 have HQ:=hid (Fp w2 hp2 D ad _ cd hD2 zAc zAb)
 clear x0 x1 hD2
 go_wp2_with fail
 refine HQ.out.mono ?_
 rintro r w3 ⟨rfl,hst⟩
 have hst2:=AA.later hbw1 (AA.trans (J:=J) ht2 ha2 hst)
 rw[Au] at hst2
 have HST:=hid hst2
 clear hst hst2
 go_wp2
 first | go_end0 | refine Ax (A4 rfl _ _ _) rfl ?_
 exact⟨rfl,HST.out⟩
theorem MV(w:World){g base most:Nat}{J:List UInt8}(h:BG w g base most J a c)(o m:Nat)(h1:1≤o)(h2:o≤65536)(h3:4≤m)(h4:m≤1048576)(ad:Option Addr)(cd:Nat)
 (hfit:J.length+(J7 ⟨[],(o:Int),(m:Int)⟩).length≤most) (hlen:J.length+(J7 ⟨[],(o:Int),(m:Int)⟩).length≤100000000000000):
  Calls Tryz.prog 376 #[.pointer (some ⟨g,0,none⟩),.agg #[.slice ad 0 cd,.int .i64 o,.int .i64 m]] w fun r w'=>r=.returned (.tuple #[])∧AA w g base most (J++J7 ⟨[],(o:Int),(m:Int)⟩) a w':=by
 have HR:=hid (fun (W:World)=>LY ⟨[],(o:Int),(m:Int)⟩ ad cd W zM zH zH)
 have hr:Co ⟨[],(o:Int),(m:Int)⟩=true:=by simp[Co,Ho];omega
 rw[hr] at HR
 have hT:=OJ o m h1
 rw[hT] at hfit hlen ⊢
 rw[Al] at hfit hlen
 have HV:=hid (fun (W:World) (hW:Below w.heap.size w W)=>CD W (h.later hW) (2*m-7) zC zC zC)
 have hno:=fun q (hq:Dm g a q)=>(h.BH hq).2
 have HNO:=hid hno
 have hfit':=hid hfit;have hlen':=hid hlen
 have e0:(((2*m-7:Nat)):Int)=((m:Int)-4)*2+1:=zC
 rw[e0] at HV
 have d1:((o:Int)==0)=false:=zI
 have d2:(o==0)=false:=zI
 simp only[AZ] at HR
 clear hr hT h hno hfit hlen
 go_enter Tryz.func376,Tryz.ntmps376
 go_wp2_with fail
 refine (HR.out _).mono ?_
 rintro r w1 ⟨rfl,hb1⟩
 have B1:Blk w1 w.heap.size 304 #[.slice ad 0 cd,.int .i64 o,.int .i64 m]:=(Blk.new w _ _).later hb1
 have x1:w1.cell? ⟨w.heap.size,1,none⟩=some (.int .i64 o):=B1.cell 1
 have x2:w1.cell? ⟨w.heap.size,2,none⟩=some (.int .i64 m):=B1.cell 2
 have hbw1:Below w.heap.size w w1:=zB
 go_wp2_with fail
 refine (HV.out _ hbw1).mono ?_
 rintro r w2 ⟨rfl,a2,c2,hp2,ht2,ha2⟩
 have B2:=B1.tch ht2 (fun hf=>by have:=HNO.out _ hf;omega)
 have y1:w2.cell? ⟨w.heap.size,1,none⟩=some (.int .i64 o):=B2.cell 1
 have HQ:=hid (CD w2 hp2 (o-1) zC zAc zAb)
 rw[show ((o-1:Nat):Int)=(o:Int)-1 by omega] at HQ
 clear x1 x2
 go_wp2_with fail
 refine HQ.out.mono ?_
 rintro r w3 ⟨rfl,hst⟩
 have hst2:=AA.later hbw1 (AA.trans (J:=J) ht2 ha2 hst)
 rw[Au] at hst2
 have HST:=hid hst2
 clear hst hst2
 go_wp2
 first | go_end0 | refine Ax (A4 rfl _ _ _) rfl ?_
 exact⟨rfl,HST.out⟩
def Gl(xs:List Tok):Nat:=(xs.map fun t=>t.lit.length+20).sum
def CF(xs:List Tok):List UInt8:=(xs.map J7).flatten
theorem M1(xs:List Tok)(k:Nat)(h:k<xs.length):Gl (xs.take (k+1))=Gl (xs.take k)+(xs[k].lit.length+20):=by
 unfold Gl
 rw[AU h,Cv,List.sum_append];simp
theorem PJ(xs:List Tok)(k:Nat)(h:k<xs.length):CF (xs.take (k+1))=CF (xs.take k)++J7 xs[k]:=by
 unfold CF
 rw[AU h,Cv,EK];simp
theorem M3(xs:List Tok)(hL:∀t∈xs,t.lit.length≤1048576)(k:Nat)(hk:k≤xs.length):Gl (xs.take k)≤k*1048596:=by
 induction k with
 | zero=>simp [Gl]
 | succ k ih=>
  rw[M1 xs k zC]
  have:=ih zC
  have:=hL _ (A0 (show k<xs.length by omega))
  omega
theorem SQ(xs:List Tok)(k:Nat):Gl (xs.take k)≤Gl xs:=by
 have:Gl xs=Gl (xs.take k)+Gl (xs.drop k):=by
  unfold Gl
  conv=>lhs;rw[←Bn k xs]
  rw[Cv,List.sum_append]
 omega
theorem Wo(t:Tok):(J7 t).length≤t.lit.length+20:=by
 unfold J7
 split
 ·rw[Al];have:=A1 (2*t.lit.length-2);omega
 ·rw[Al];have:=A1 (2*t.len.toNat-7);have:=A1 (t.off.toNat-1);omega
theorem LX(xs:List Tok):(CF xs).length≤Gl xs:=by
 unfold CF Gl
 induction xs with
 | nil=>simp
 | cons t xs ih=>simp only[Ca,FU,Al,List.sum_cons];have:=Wo t;omega
theorem UI:(AD 18446744073709551615).length=10:=zF
theorem I8{t:Tok}(h:Co t=true):(∃D,t=⟨D,0,0⟩∧1≤D.length∧D.length≤1048576)∨∃o m:Nat,t=⟨[],(o:Int),(m:Int)⟩∧1≤o∧o≤65536∧4≤m∧m≤1048576:=by
 obtain⟨D,o,m⟩:=t
 simp only[Co,I7,Ho,Cg,Ap,Ao] at h
 rcases h with ⟨rfl,rfl,h1,h2⟩ | ⟨h0,h1,h2,h3,h4⟩
 ·exact .inl ⟨D,rfl,h1,h2⟩
 ·refine .inr ⟨o.toNat,m.toNat,?_,zC,zC,zC,zC⟩
  rw[AQ h0,Int.toNat_of_nonneg zC,Int.toNat_of_nonneg zC]
theorem SC(xs:List Tok)(a:Option Addr)(n c:Nat)(w:World)(hl:QY.r (·<w.heap.size) w [.slice a n c] xs)(hx:xs.length≤10000000)(hL:∀t∈xs,t.lit.length≤1048576):
  Calls Tryz.prog 375 #[.slice a n c] w fun r w'=>r=.returned (.int .i64 (Gl xs))∧Below w.heap.size w w':=by
 obtain⟨rfl,hm,_,_⟩:=AL hl
 have HL:=hid hl;clear hl
 go_enter Tryz.func375,Tryz.ntmps375
 go_wp2_with fail
 go_loopw [3,8] (fun s i wr=>∃k:Nat,k≤xs.length∧i=.int .i64 k∧(∃t:Nat,s=.int .i64 t∧Hid (t=Gl (xs.take k)))∧Below w.heap.size w wr) (fun _ i _=>xs.length-(intOf i).toNat)
 case atStart=>exact ⟨0,Ar _,rfl,⟨0,rfl,hid (by simp[Gl])⟩,Below.refl _ _⟩
 case round=>
  obtain⟨k,hk,rfl,⟨t,rfl,ht⟩,hb⟩:=hrel
  rcases Bl k xs.length with hlt | hge
  ·obtain⟨b,o,hA,hbb,a2,c2,x0,x1,x2,_,_,_⟩:=Wn HL.out hlt
   subst hA
   have X0:=(hb.cell (p:=⟨b,o+k*3,none⟩) hbb).trans x0
   have X1:=(hb.cell (p:=⟨b,o+k*3+1,none⟩) hbb).trans x1
   have X2:=(hb.cell (p:=⟨b,o+k*3+2,none⟩) hbb).trans x2
   have hn:=hid (M1 xs k hlt)
   have hle:=M3 xs hL k zC
   have hD:=hL _ (A0 hlt)
   rw[←ht.out] at hle
   clear x0 x1 x2
   generalize xs[k]=y at*
   obtain⟨D,yo,ym⟩:=y
   dsimp only at*
   have hbs:=hb.size
   have i1:(k:Int)<(xs.length:Int):=zC
   go_wp2_with fail
   refine Ee (fun W=>Below wr.heap.size wr W∧wr.heap.size<W.heap.size∧W.cell? ⟨wr.heap.size,0,none⟩=some (.slice a2 D.length c2)) ⟨zB,zM,ZW⟩ ?_
   intro W ⟨hbW,hzW,u0⟩
   have U0:=fun s:AM W=>s.cell u0
   have HS:=hid (fun s:AM W=>DW 18446744073709551615 zC s.at_)
   rw[UI] at HS
   have hbw:=Aj hbW hb
   clear X0 X1 X2 u0
   refine Az zJ zJ ?_
   repeat (go_big_quiet_step (((go_at_call 245;exact CH (HS.out _)))))
   refine AT ?_
   rintro W5 ⟨⟨W5',hb5⟩,rfl⟩
   go_wp2
   go_roundw
   case rel=>exact ⟨k+1,zC,zT,⟨t+(D.length+20),zT,hid (by rw[hn.out,ht.out])⟩,Aj hb5 hbw⟩
   case measure=>simp [intOf];omega
  ·obtain rfl:k=xs.length:=by omega
   rw[Cj] at ht
   go_wp2
   go_ret
   exact⟨by rw[←ht.out];rfl,hb⟩
theorem BG.below{most:Nat}{B:Nat}(h:BG w g base most J a c)(hB:B≤base)(hB2:B≤w.heap.size)(k:AA w g base most J' a w'):Below B w w':=by
 obtain⟨a',c',k1,k2,k3⟩:=k
 exact k2.Ch hB2 fun b _ hb=>Bb hB (h.BH hb).1
theorem QP(xs:List Tok)(a:Option Addr)(n c:Nat)(w:World)(hl:QY.r (·<w.heap.size) w [.slice a n c] xs)(hx:xs.length≤10000000)(hR:∀t∈xs,Co t=true):
  Calls Tryz.prog 368 #[.slice a n c] w fun r w'=>∃v,r=.returned (.tuple #[v,.int .i64 0])∧Am.r (fun q=>w.heap.size≤q∧q<w'.heap.size) w' [v] (CF xs)∧Below w.heap.size w w':=by
 obtain⟨rfl,hm,_,_⟩:=AL hl
 have hL:∀t∈xs,t.lit.length≤1048576:=fun t ht=>by
  rcases I8 (hR t ht) with ⟨D,rfl,h1,h2⟩ | ⟨o,m,rfl,_⟩
  ·exact h2
  ·simp
 have HRM:=hid (SC xs a _ c w hl hx hL)
 have hrl:=M3 xs hL xs.length (As _)
 rw[Cj] at hrl
 have HMO:=hid (fun k=>SQ xs k)
 have HL:=hid hl;have HR:=hid hR
 clear hl hR hL
 generalize hM:Gl xs=M at*
 have hMM:=hid hM;clear hM
 go_enter Tryz.func368,Tryz.ntmps368
 go_wp2_with fail
 refine HRM.out.mono ?_
 rintro r w1 ⟨rfl,hb1⟩
 have HN:=hid (Gh w1 M zC)
 go_wp2_with fail
 refine HN.out.mono ?_
 rintro r w2 ⟨rfl,hp2,hb2⟩
 have hs1:=hb1.size
 have hs2:=hb2.size
 have HP2:=hid hp2
 have hbw2:=Aj hb2 hb1
 clear hp2
 generalize hg:w1.heap.size=g at*
 go_wp2_with fail
 go_loopw [12] (fun i wr=>∃k:Nat,k≤xs.length∧i=.int .i64 k∧Hid (∃ap cp,BG wr g g M (CF (xs.take k)) ap cp)∧Below g w2 wr) (fun i _=>xs.length-(intOf i).toNat)
 case atStart=>exact ⟨0,Ar _,rfl,hid ⟨_,_,by simpa [CF] using HP2.out⟩,Below.refl _ _⟩
 case round=>
  obtain⟨k,hk,rfl,hpen,hb⟩:=hrel
  obtain⟨ap,cp,hP⟩:=hpen.out
  have hbw:Below w.heap.size w wr:=⟨hb.os.trans hbw2.os,hb.tape.trans hbw2.tape,hb.output.trans hbw2.output,Z3,fun q hq=>(hb.block q zC).trans (hbw2.block q hq)⟩
  have hgl:=hP.blk.lt
  rcases Bl k xs.length with hlt | hge
  ·obtain⟨b,o,hA,hbb,a2,c2,x0,x1,x2,_,_,xl⟩:=Wn HL.out hlt
   subst hA
   have X0:=(hbw.cell (p:=⟨b,o+k*3,none⟩) hbb).trans x0
   have X1:=(hbw.cell (p:=⟨b,o+k*3+1,none⟩) hbb).trans x1
   have X2:=(hbw.cell (p:=⟨b,o+k*3+2,none⟩) hbb).trans x2
   have hst:=PJ xs k hlt
   have hfit:(CF (xs.take k)).length+(J7 xs[k]).length≤M:=by
    have h1:=LX (xs.take (k+1))
    rw[hst,Al] at h1
    have h2:=HMO.out (k+1)
    omega
   have hr:=HR.out _ (A0 hlt)
   have HST:=hid hst
   have HXL:=hid xl
   have HFIT:=hid hfit
   clear x0 x1 x2 xl hst hfit
   generalize xs[k]=y at*
   generalize CF (xs.take k)=J at*
   have hbs:=hb.size
   have i1:(k:Int)<(xs.length:Int):=zC
   have HP:=hid hP
   clear hP hpen
   rcases I8 hr with ⟨D,rfl,k1,k2⟩ | ⟨yo,ym,rfl,k1,k2,k3,k4⟩
   ·dsimp only at X0 X1 X2 HXL
    clear hr
    go_wp2_with fail
    have hbW:Below wr.heap.size wr (wr.alloc (.cells #[.slice a2 D.length c2,.int .i64 0,.int .i64 0] 304)):=zB
    generalize wr.alloc (.cells #[.slice a2 D.length c2,.int .i64 0,.int .i64 0] 304)=W at*
    have hzW:=hbW.size
    have hPW:=HP.out.later hbW
    have HQ:=hid (Oj W hPW D k1 k2 a2 c2 (Am.mono (Am.keep HXL.out fun q hq=>(Aj hbW hbw).block q hq) fun q hq=>⟨An hq ZD,fun hf=>by have:=(hPW.BH hf).1;have hq':q<w.heap.size:=hq;omega⟩) HFIT.out (by have:=HFIT.out;omega))
    have HPW:=hid hPW
    clear X0 X1 X2 hPW
    refine HQ.out.mono ?_
    rintro r w5 ⟨rfl,hps⟩
    have hb5:Below g w2 w5:=by
     have e1:Below g W w5:=HPW.out.below (As _) zC hps
     exact (hb.trans (hbW.mono zC)).trans e1
    obtain⟨a5,c5,hP5,_,_⟩:=hps
    have HP5:=hid (⟨a5,c5,by rw[HST.out];exact hP5⟩:∃ap cp,BG w5 g g M (CF (xs.take (k+1))) ap cp)
    clear hP5
    go_wp2
    go_roundw
    case rel=>exact ⟨k+1,zC,zT,HP5,hb5⟩
    case measure=>simp [intOf];omega
   ·dsimp only[AZ] at X0 X1 X2 HXL
    clear hr
    go_wp2_with fail
    have hbW:Below wr.heap.size wr (wr.alloc (.cells #[.slice a2 0 c2,.int .i64 yo,.int .i64 ym] 304)):=zB
    generalize wr.alloc (.cells #[.slice a2 0 c2,.int .i64 yo,.int .i64 ym] 304)=W at*
    have hzW:=hbW.size
    have hPW:=HP.out.later hbW
    have HQ:=hid (MV W hPW yo ym k1 k2 k3 k4 a2 c2 HFIT.out (by have:=HFIT.out;omega))
    have HPW:=hid hPW
    clear X0 X1 X2 hPW
    refine HQ.out.mono ?_
    rintro r w5 ⟨rfl,hps⟩
    have hb5:Below g w2 w5:=by
     have e1:Below g W w5:=HPW.out.below (As _) zC hps
     exact (hb.trans (hbW.mono zC)).trans e1
    obtain⟨a5,c5,hP5,_,_⟩:=hps
    have HP5:=hid (⟨a5,c5,by rw[HST.out];exact hP5⟩:∃ap cp,BG w5 g g M (CF (xs.take (k+1))) ap cp)
    clear hP5
    go_wp2
    go_roundw
    case rel=>exact ⟨k+1,zC,zT,HP5,hb5⟩
    case measure=>simp [intOf];omega
  ·obtain rfl:k=xs.length:=by omega
   rw[Cj] at hP
   have HB:=hid (Fx wr hP)
   clear hP hpen
   go_wp2_with fail
   refine HB.out.mono ?_
   rintro r w5 ⟨v,rfl,hv,hb5⟩
   have hbe:=Aj hb5 hbw
   have HV:=hid (Am.mono (S':=fun q=>w.heap.size≤q∧q<w5.heap.size) hv fun q hq=>⟨by have:=hq.1;have:=hbw.size;omega,hq.2⟩)
   clear hv
   go_wp2
   go_ret2
   exact⟨_,rfl,HV.out,hbe⟩
theorem Gj(J D:List UInt8):byteCells J++byteCells D=byteCells (J++D):=ZS
end Go.Proofs.YtfddhafbhceoaaaGreat
namespace Go.Bs
open Go.RowKit
variable{base g:Nat}{e:TypeId}{v:Value}{w:World}
end Go.Bs
namespace Go.Proofs.YtfddhafbhceoaaaGreat
open Go.RowKit Go.Bs Go.Maps
variable{bound:Int}{B D J J' b:List UInt8}{cs xs:List Value}{base c cb cp g gs i mb n o p sc:Nat}{S:Nat → Prop}{a a1 ab ap sa:Option Addr}{s:Rs}{e:TypeId}{v:Value}{w w' w1:World}
def rTV:Rp (Tok ⊕ Value):=
  ⟨fun S w cs x=>match x with | .inl t=>Lp.r S w cs t | .inr v=>cs=[v,.int .i64 0,.int .i64 0],
   fun {S w w' cs x} h hk=>by cases x with | inl b=>exact Lp.keep h hk | inr y=>exact h,
   fun {S S' w cs x} h hk=>by cases x with | inl b=>exact Lp.mono h hk | inr y=>exact h⟩
structure XK(lo:Nat)(w:World)(g c:Nat)(cells:List (List Value))(ts:List Tok)(D:List UInt8)(vl:Value):Prop where
 own:AY (fun x=>lo≤x∧x<w.heap.size∧vl.ownBlock≠some x) rTV lo 304 3 w (.slice (some ⟨g,0,none⟩) (ts.length+1) c) (ts.map .inl++[.inr vl]) (cells++[[vl,.int .i64 0,.int .i64 0]])
 len:cells.length=ts.length
 last:w.ownsRow lo 5 1 vl D.length (byteCells D)
 ne:vl.ownBlock≠some g
theorem XK.AaZ{lo:Nat}{cells:List (List Value)}{ts:List Tok}{vl:Value}(h:XK lo w g c cells ts D vl):lo≤g∧g<w.heap.size:=h.own.1.lt g rfl
theorem XK.later{lo:Nat}{cells:List (List Value)}{ts:List Tok}{vl:Value}(h:XK lo w g c cells ts D vl)(hb:Below w.heap.size w w'):XK lo w' g c cells ts D vl:=by
 have hgl:=h.AaZ
 obtain⟨ho,h1,h4,h5⟩:=h
 refine⟨(ho.keep (w':=w') (fun b h=>hb.block b h.2.1) (fun g' hg'=>hb.block g' (ho.1.lt g' hg').2)).mono fun b hb'=>⟨hb'.1,Z3,hb'.2.2⟩,h1,Bz h4 hb,h5⟩
def Rest(b:List UInt8)(p i:Nat)(O:List Tok):Prop:=∃f,b.length≤p+f∧Fa b=O++Fb b f p i
theorem Rest.copy{b:List UInt8}{p i o m:Nat}{O:List Tok}(h:Rest b p i O)(hp:p<b.length)(hb:Ci b p=(o,m))(hm:m≠0):Rest b (p+m) (p+m) (O++GA b i p++[⟨[],(o:Int),(m:Int)⟩]):=by
 obtain⟨f,hf,h⟩:=h
 obtain⟨f,rfl⟩:∃f',f=f'+1:=⟨f-1,zC⟩
 refine⟨f,zC,?_⟩
 rw[h]
 simp only[Fb,Ag hp,hb,Ai hm]
 simp
theorem Rest.none{O:List Tok}(h:Rest b p i O)(hp:p<b.length)(hb:Ci b p=(o,0)):Rest b (p+1) i O:=by
 obtain⟨f,hf,h⟩:=h
 obtain⟨f,rfl⟩:∃f',f=f'+1:=⟨f-1,zC⟩
 refine⟨f,zC,?_⟩
 rw[h]
 simp only[Fb,Ag hp,hb,IL]
theorem Rest.fin{O:List Tok}(h:Rest b b.length i O):Fa b=O++GA b i b.length:=by
 obtain⟨f,hf,h⟩:=h
 rw[h]
 cases f with
 | zero=>rfl
 | succ f=>simp only[Fb,Ai (Nat.lt_irrefl _)]
theorem Kk(hb:b.length≤1048576):∀{f:Bool} {p:Nat} {ts:List Tok},Good b f p ts→∀t∈ts,Co t=true
 | _,_,_,.nil,t,ht=>by simp at ht
 | _,_,_,.copy (p:=p) (o:=o) (m:=m) hp hbe hm hg,t,ht=>by
  rcases List.mem_cons.1 ht with rfl | ht
  ·have h1:=Hr b p
   have h2:=(Kt b p).1
   rw[hbe] at h1 h2
   simp only at h2
   rcases h1 with h1 | ⟨o',m',h1,g1,g2,g3,_⟩
   ·simp only[BF] at h1;omega
   ·simp only[BF] at h1
    unfold reach at g2
    simp[Co,Ho]
    omega
  ·exact Kk hb hg t ht
 | _,_,_,.run (p:=p) (q:=q) h1 h2 h3 hg,t,ht=>by
  rcases List.mem_cons.1 ht with rfl | ht
  ·simp[Co,I7]
   omega
  ·exact Kk hb hg t ht
theorem MU{b:List UInt8}(hb:b.length≤1048576):∀t∈Fa b,Co t=true:=Kk hb (NA b)
theorem UK(hb:b.length≤1048576):(Fa b).length≤10000000:=by
 have:=Kz b b.length 0 0
 unfold Fa
 omega
theorem Q7(w:World)(b:List UInt8)(a:Option Addr)(n c:Nat)(hl:Am.r (·<w.heap.size) w [.slice a n c] b)(hlen:b.length≤1048576):
  Calls Tryz.prog 355 #[.slice a n c] w fun r w'=>∃v,r=.returned (.tuple #[v,.int .i64 0])∧Am.r (fun q=>w.heap.size≤q∧q<w'.heap.size) w' [v] (CF (Fa b))∧Below w.heap.size w w':=by
 obtain⟨rfl,hm,_,_⟩:=AL hl
 have HT:=hid (PU w b a _ c hl hlen)
 have hri:=MU hlen
 have hl2:=UK hlen
 clear hl
 generalize Fa b=T at*
 go_enter Tryz.func355,Tryz.ntmps355
 go_wp2_with fail
 refine HT.out.mono ?_
 rintro r w1 ⟨v,rfl,hr,hb1⟩
 obtain⟨a1,c1,hv,hr2,_⟩:=AH hr
 simp only[Av,AI] at hv
 subst hv
 have HB:=hid (QP T a1 _ c1 w1 (QY.mono hr2 fun q hq=>hq.2) hl2 hri)
 have hs1:=hb1.size
 clear hr hr2
 go_wp2_with fail
 refine HB.out.mono ?_
 rintro r w2 ⟨v2,rfl,hv2,hb2⟩
 have hbe:=Aj hb2 hb1
 have HV:=hid (Am.mono (S':=fun q=>w.heap.size≤q∧q<w2.heap.size) hv2 fun q hq=>⟨ZG,hq.2⟩)
 clear hv2
 go_wp2
 go_ret2
 exact⟨_,rfl,HV.out,hbe⟩
def Ei(D:List UInt8):List UInt8:=AD D.length++D
theorem Dy(D:List UInt8):(Ei D).length=(AD D.length).length+D.length:=by simp[Ei]
theorem JJ(n:Nat)(hn:n≤100000000000000)(w:World):
  Calls Tryz.prog 175 #[.int .i64 n] w fun r w'=>r=.returned (.int .i64 ((AD n).length+n:Nat))∧Below w.heap.size w w':=by
 have HS:=hid (fun (W:World)=>DW n zC W)
 have hl:=A1 n
 generalize (AD n).length=k at*
 go_enter Tryz.func175,Tryz.ntmps175
 go_wp2_with fail
 refine (HS.out _).mono ?_
 rintro r w1 ⟨rfl,hb1⟩
 go_wp2
 go_ret
 exact⟨zAg,hb1⟩
theorem Sl(w:World){g base most:Nat}{J:List UInt8}{a:Option Addr}(h:BG w g base most J a c)(D:List UInt8)(ad:Option Addr)(nd cd:Nat)
 (hD:Am.r (fun q=>q<w.heap.size∧¬Dm g a q) w [.slice ad nd cd] D) (hfit:J.length+(Ei D).length≤most) (hlen:J.length+(Ei D).length≤100000000000000):
  Calls Tryz.prog 239 #[.pointer (some ⟨g,0,none⟩),.slice ad nd cd] w fun r w'=>r=.returned (.tuple #[])∧AA w g base most (J++Ei D) a w':=by
 obtain⟨rfl,hm,_,_⟩:=AL hD
 rw[Dy] at hfit hlen
 have HV:=hid (CD w h D.length zC zC zC)
 have HD:=hid hD
 have hfit':=hid hfit;have hlen':=hid hlen
 clear h hD hfit hlen
 go_enter Tryz.func239,Tryz.ntmps239
 go_wp2_with fail
 refine HV.out.mono ?_
 rintro r w2 ⟨rfl,a2,c2,hp2,ht2,ha2⟩
 have hs2:=ht2.size
 have HQ:=hid (Fp w2 hp2 D ad _ cd (Am.mono (Am.keep HD.out fun q hq=>ht2.block q hq.1 hq.2) fun q hq=>An hq.1 hs2) zAc zAb)
 go_wp2_with fail
 refine HQ.out.mono ?_
 rintro r w3 ⟨rfl,hst⟩
 have hst2:=AA.trans (J:=J) ht2 ha2 hst
 rw[Au] at hst2
 have HST:=hid hst2
 clear hst hst2
 go_wp2
 first | go_end0 | refine Ax (A4 rfl _ _ _) rfl ?_
 exact⟨rfl,HST.out⟩
def En(p:List UInt8):List UInt8:=CF (Fa p)
def Ja(p:List UInt8):Bool:=decide ((Ei (En p)).length<p.length)
def Bj(p:List UInt8):List UInt8:=AD p.length++(if Ja p then 1::Ei (En p) else 0::p)
theorem PV(hb:b.length≤1048576):(En b).length≤10000000000000:=by
 have hL:∀t∈Fa b,t.lit.length≤1048576:=fun t ht=>by
  rcases I8 (MU hb t ht) with ⟨D,rfl,h1,h2⟩ | ⟨o,m,rfl,_⟩
  ·exact h2
  ·simp
 have h1:=LX (Fa b)
 have h2:=M3 (Fa b) hL (Fa b).length (As _)
 rw[Cj] at h2
 have h3:=Kz b b.length 0 0
 unfold En
 unfold Fa at*
 omega
theorem QE(w:World)(p:List UInt8)(a:Option Addr)(n c:Nat)(hl:Am.r (·<w.heap.size) w [.slice a n c] p)(hlen:p.length≤1048576):
  Calls Tryz.prog 332 #[.slice a n c] w fun r w'=>∃v,r=.returned (.tuple #[v,.bool (Ja p)])∧(Ja p=true→Am.r (fun q=>w.heap.size≤q∧q<w'.heap.size) w' [v] (En p))∧(Ja p=false→v=.slice none 0 0)∧Below w.heap.size w w':=by
 obtain⟨rfl,hm,_,_⟩:=AL hl
 have HT:=hid (Q7 w p a _ c hl hlen)
 have hsm:=PV hlen
 have hbl:=Dy (En p)
 have hpk:Hid (Ja p=decide ((Ei (En p)).length<p.length)):=hid rfl
 clear hl
 rw[show CF (Fa p)=En p from rfl] at HT
 generalize En p=E at*
 rw[hbl] at hpk
 generalize Ja p=R at*
 have HS:=hid (fun (W:World)=>JJ E.length zC W)
 have hvl:=A1 E.length
 clear hbl
 generalize (AD E.length).length=k at*
 go_enter Tryz.func332,Tryz.ntmps332
 go_wp2_with fail
 refine HT.out.mono ?_
 rintro r w1 ⟨v,rfl,hr,hb1⟩
 obtain⟨a1,c1,hv,hr2,_⟩:=AH hr
 simp only[Av,AI] at hv
 subst hv
 have HR:=hid hr2
 have hs1:=hb1.size
 clear hr hr2
 go_wp2_with fail
 refine (HS.out _).mono ?_
 rintro r w2 ⟨rfl,hb2⟩
 have hbe:=Aj hb2 hb1
 have hs2:=hb2.size
 have HR2:=hid (Am.mono (S':=fun q=>w.heap.size≤q∧q<w2.heap.size) (Am.keep HR.out fun q hq=>hb2.block q hq.2) fun q hq=>⟨hq.1,zC⟩)
 have hpk':=hpk.out
 clear hpk
 cases R
 ·have hle:¬k+E.length<p.length:=GD hpk'.symm
  have d1:decide ((p.length:Int)≤(k:Int)+(E.length:Int))=true:=Ad zC
  have d1':decide ((p.length:Int)≤((k+E.length:Nat):Int))=true:=Ad zC
  have d1'':decide (p.length≤k+E.length)=true:=Ad zC
  clear hpk' hle
  go_wp2
  go_ret2
  exact⟨_,rfl,rfl,hbe⟩
 ·have hle:k+E.length<p.length:=C8 hpk'.symm
  have d1:decide ((p.length:Int)≤(k:Int)+(E.length:Int))=false:=Ae zC
  have d1':decide ((p.length:Int)≤((k+E.length:Nat):Int))=false:=Ae zC
  have d1'':decide (p.length≤k+E.length)=false:=Ae zC
  clear hpk' hle
  go_wp2
  go_ret2
  exact⟨_,rfl,HR2.out,hbe⟩
end Go.Proofs.YtfddhafbhceoaaaGreat
