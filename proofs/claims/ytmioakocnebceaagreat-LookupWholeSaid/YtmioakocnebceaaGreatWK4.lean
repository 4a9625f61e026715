/- Mini: Needed by lookupWhole_walk, part 4: texts put together by shake.py; no condition. -/
import Derived.BigRegion
import Derived.Test.YtmioakocnebceaaGreatWK3
import Derived.Test.YtmioakocnebceaaGreatRows
import Derived.Test.YtmioakocnebceaaGreatWK2
import Derived.Laws.IdiomStrings
import Derived.Laws.BytesArg
import Derived.Test.YtmioakocnebceaaGreatWK1
import Derived.Lib.SlBytesConst
set_option linter.unusedVariables false
set_option linter.unusedSimpArgs false
set_option maxRecDepth 100000
set_option maxHeartbeats 6400000
namespace Go.Proofs.YtmioakocnebceaaGreat
open Go.RowKit Go.Bs Go.Maps
theorem byteCells_app'(l l':List UInt8):byteCells l++byteCells l'=byteCells (l++l'):=by simp[byteCells]
structure XInv(w W:World)(B:List UInt8)(a:Option Addr)(s:Rs)(out:List UInt8)(aO:Option Addr)(cO:Nat):Prop where
 rd:RdAt W (w.heap.size+1) B a s
 dat:rBytes.r (·<w.heap.size) W [.slice a B.length B.length] B
 fl:Blk W w.heap.size 31 #[.int .i64 0,.int .i64 0]
 own:W.ownsRow (w.heap.size+2) 5 1 (.slice aO out.length cO) out.length (byteCells out)
 be:Below w.heap.size w W
 sz:w.heap.size+2≤W.heap.size
section
variable {w W W':World} {B:List UInt8} {a:Option Addr} {s s':Rs} {out out':List UInt8} {aO aO':Option Addr} {cO cO':Nat}
theorem XInv.later(h:XInv w W B a s out aO cO)(hb:Below W.heap.size W W'):XInv w W' B a s out aO cO:=
 ⟨h.rd.later hb,rBytes.keep h.dat fun q hq=>hb.block q (by have:=h.sz;omega),h.fl.later hb,own_below h.own hb,below_then hb h.be,Nat.le_trans h.sz hb.size⟩
theorem own_tch{base:Nat}{e:TypeId}{size:Nat}{v:Value}{n:Nat}{xs:List Value}{g:Nat}(h:W.ownsRow base e size v n xs)(hg:g<base)(hb:Tch (·=g) W W'):W'.ownsRow base e size v n xs:=by
 refine⟨h.1,?_⟩
 rcases h.2 with h0 | ⟨g',cap,cur,h1,h2,h3,h4⟩
 ·exact .inl h0
 ·exact .inr ⟨g',cap,cur,h1,h2,(hb.block _ (Blk.lt h3) (by omega)).trans h3,h4⟩
theorem XInv.step(h:XInv w W B a s out aO cO)(k:RdStep W (w.heap.size+1) B a s' W'):XInv w W' B a s' out aO cO:=
 ⟨k.1,rBytes.keep h.dat fun q hq=>k.2.block q (by have:=h.sz;omega) (by omega),h.fl.tch k.2 (by omega),own_tch h.own (by omega) k.2,h.be.trans (k.below h.be.size (by omega)),Nat.le_trans h.sz k.size⟩
theorem XInv.row(h:XInv w W B a s out aO cO)(hb:Below (w.heap.size+2) W W')(ho:W'.ownsRow (w.heap.size+2) 5 1 (.slice aO' out'.length cO') out'.length (byteCells out')):XInv w W' B a s out' aO' cO':=by
 have hd:=rBytes.keep h.dat (w':=W') fun q hq=>hb.block q (by omega)
 exact⟨⟨h.rd.blk.below hb (by omega),rBytes.mono hd fun q hq=>⟨by have:=h.sz;have:=hb.size;omega,by omega⟩,h.rd.ok⟩,hd,h.fl.below hb (by omega),ho,h.be.trans (hb.mono (by omega)),Nat.le_trans h.sz hb.size⟩
end
def cellI(W:World)(g i:Nat):Int:=intOf ((W.cell? ⟨g,i,none⟩).getD undef)
theorem RdAt.cells{w:World}{g:Nat}{B:List UInt8}{a:Option Addr}{s:Rs}(h:RdAt w g B a s):cellI w g 1=s.p∧cellI w g 2=s.k:=by
 have c1:=h.blk.cell 1
 have c2:=h.blk.cell 2
 simp at c1 c2
 unfold cellI
 rw[c1,c2]
 exact⟨rfl,rfl⟩
def exMu(L g:Nat)(W:World):Nat:=if cellI W g 2=0 then L+1-(cellI W g 1).toNat else 0
theorem exMu_is{w:World}{g:Nat}{B:List UInt8}{a:Option Addr}{s:Rs}(h:RdAt w g B a s):exMu B.length g w=if s.k=0 then B.length+1-s.p else 0:=by
 unfold exMu
 rw[h.cells.1,h.cells.2]
 simp
theorem exMu_lt{w w':World}{g:Nat}{B:List UInt8}{a:Option Addr}{s s':Rs}(h:RdAt w g B a s)(h':RdAt w' g B a s')(hk:s.k=0)(hp:s.p<B.length)(hs:s'.k=0→s.p<s'.p):exMu B.length g w'<exMu B.length g w:=by
 rw[exMu_is h,exMu_is h',if_pos hk]
 split
 ·have:=hs (by assumption);omega
 ·omega
def exIn(bound:Int)(out:List UInt8):Prop:=out=[]∨(out.length:Int)≤bound
theorem exIn_len{bound:Int}{out:List UInt8}(h:exIn bound out)(hb: -9223372036854775808≤bound∧bound≤1048576):out.length≤1048576∧-9223372036854775808≤bound-(out.length:Int):=by
 rcases h with rfl | h
 ·simp;omega
 ·omega
theorem exIn_step{B:List UInt8}{bound:Int}{s:Rs}{out:List UInt8}(h:exIn bound out):exIn bound (exStep B bound s out).2:=by
 by_cases hk:(exStep B bound s out).1.k=0
 ·exact .inr (exStep_more hk).2
 ·rw[exStep_len hk];exact h
set_option maxHeartbeats 12800000 in
theorem expand_bytes(w:World)(B:List UInt8)(a:Option Addr)(n c:Nat)(hl:rBytes.r (·<w.heap.size) w [.slice a n c] B)(hB:B.length≤1000000000)(bound:Int)(hbd: -9223372036854775808≤bound∧bound≤1048576):
  Calls Tryz.prog 366 #[.slice a n c,.int .i64 bound] w fun r w'=>∃v,r=.returned (.tuple #[v,.agg #[.int .i64 (exB B bound).2.1,.int .i64 (exB B bound).2.2]])∧rBytes.r (fun q=>w.heap.size≤q∧q<w'.heap.size) w' [v] (exB B bound).1∧Below w.heap.size w w':=by
 obtain⟨rfl,hm,hcc,hcm⟩:=sl_len hl
 obtain⟨i0,hi,hz0,hz1,hz2⟩:=info_parts info8
 have hcap:rBytes.r (·<w.heap.size) w [.slice a B.length B.length] B:=by
  obtain⟨a',c',e,h1,h2,h3⟩:=hl
  simp at e
  obtain⟨rfl,rfl⟩:=e
  exact rSl_mk rfl (Nat.le_refl _) (by simp[maxLen];omega) h3
 have HL:=hid hl
 have HCAP:=hid hcap
 clear hl hcap
 go_enter Tryz.func366,Tryz.ntmps366
 go_wp2
 refine wp_scope_two 1 0 (by omega)
  (fun a' W=>∃(s:Rs) (out:List UInt8) (aO:Option Addr) (cO:Nat) (rest:Hid (exR B bound s out=exR B bound ⟨0,0,0⟩ [])) (u2 u3 u8 u9 u10 u11 u12 u13 u14 u15 u16 u17 u18 u19 u20 u21 u22 u23 u24 u25 u26 u27 u28 u29 u30 u31 u32 u33 u34 u35 u36 u37 u38 u39 u40 u41 u42 u43 u44 u45 u46 u47 u48 u49 u50 u51 u52 u53 u54 u55 u56 u57 u58 u59 u60 u61 u62 u63 u64 u65 u66 u67 u68 u69 u70:Value),XInv w W B a s out aO cO∧exIn bound out∧a'={tmps:=#[.slice a B.length c,.int .i64 bound,u2,u3,.slice none 0 0,.pointer (some ⟨w.heap.size,0,none⟩),.pointer (some ⟨w.heap.size+1,0,none⟩),.slice aO out.length cO,u8,u9,u10,u11,u12,u13,u14,u15,u16,u17,u18,u19,u20,u21,u22,u23,u24,u25,u26,u27,u28,u29,u30,u31,u32,u33,u34,u35,u36,u37,u38,u39,u40,u41,u42,u43,u44,u45,u46,u47,u48,u49,u50,u51,u52,u53,u54,u55,u56,u57,u58,u59,u60,u61,u62,u63,u64,u65,u66,u67,u68,u69,u70],defers:=[]})
  (fun a' W=>∃(s:Rs) (out:List UInt8) (aO:Option Addr) (cO:Nat) (rest:Hid (exR B bound ⟨0,0,0⟩ []=(s,out))) (u2 u3 u8 u9 u10 u11 u12 u13 u14 u15 u16 u17 u18 u19 u20 u21 u22 u23 u24 u25 u26 u27 u28 u29 u30 u31 u32 u33 u34 u35 u36 u37 u38 u39 u40 u41 u42 u43 u44 u45 u46 u47 u48 u49 u50 u51 u52 u53 u54 u55 u56 u57 u58 u59 u60 u61 u62 u63 u64 u65 u66 u67 u68 u69 u70:Value),XInv w W B a s out aO cO∧exIn bound out∧a'={tmps:=#[.slice a B.length c,.int .i64 bound,u2,u3,.slice none 0 0,.pointer (some ⟨w.heap.size,0,none⟩),.pointer (some ⟨w.heap.size+1,0,none⟩),.slice aO out.length cO,u8,u9,u10,u11,u12,u13,u14,u15,u16,u17,u18,u19,u20,u21,u22,u23,u24,u25,u26,u27,u28,u29,u30,u31,u32,u33,u34,u35,u36,u37,u38,u39,u40,u41,u42,u43,u44,u45,u46,u47,u48,u49,u50,u51,u52,u53,u54,u55,u56,u57,u58,u59,u60,u61,u62,u63,u64,u65,u66,u67,u68,u69,u70],defers:=[]})
  (fun _ W=>exMu B.length (w.heap.size+1) W) rfl rfl ?_ ?_ ?_
 ·rintro a' W ⟨s,out,aO,cO,hex,u2,u3,u8,u9,u10,u11,u12,u13,u14,u15,u16,u17,u18,u19,u20,u21,u22,u23,u24,u25,u26,u27,u28,u29,u30,u31,u32,u33,u34,u35,u36,u37,u38,u39,u40,u41,u42,u43,u44,u45,u46,u47,u48,u49,u50,u51,u52,u53,u54,u55,u56,u57,u58,u59,u60,u61,u62,u63,u64,u65,u66,u67,u68,u69,u70,hI,hin,rfl⟩
  have hlen:=exIn_len hin hbd
  have hok:=hI.rd.ok
  have hpl:=hok.le
  have HI:=hid hI
  have HIN:=hid hin
  have HLF:=hid (rd_left W hI.rd)
  have hsz:=hI.sz
  clear hI hin
  by_cases hp:s.p<B.length
  ·have e0:(((B.length:Int)-(s.p:Int))==0)=false:=by rw[beq_eq_false_iff_ne];omega
   by_cases hk:s.k=0
   ·have hgo:=exR_go (bound:=bound) (out:=out) hok hp hk
    rw[hex.out] at hgo
    have hmore:=exStep_more (B:=B) (bound:=bound) (s:=s) (out:=out)
    have hin2:=hid (exIn_step (B:=B) (s:=s) HIN.out)
    have hst2:exStep B bound s out=exStep B bound s out:=rfl
    conv at hst2=>rhs;unfold exStep
    generalize exStep B bound s out=ES at*
    have hhead:=hid (fun (W:World) (h:RdAt W (w.heap.size+1) B a s)=>token_head W h (by omega))
    have hhok:=Rs.head_ok (B:=B) hok
    have hhle:(s.head B).2.2≤1048576:=by
     by_cases h0:(s.head B).1.k=0
     ·exact (Rs.head_more h0).2.2.2.2
     ·rw[(Rs.head_bad h0).2];omega
    have hh1:(s.head B).2.1=true→1≤((s.head B).1.offset B).2∨((s.head B).1.offset B).1.k≠0:=fun _=>by
     by_cases h0:((s.head B).1.offset B).1.k=0
     ·left;rw[(Rs.offset_more h0).2.2.2.1];omega
     ·right;exact h0
    have htake:=hid (fun (W:World) (h:RdAt W (w.heap.size+1) B a (s.head B).1)=>rd_take W h ((s.head B).2.2:Int) (by omega) (by omega))
    have htl:((s.head B).1.take B ((s.head B).2.2:Int)).2.length≤1048576:=by
     by_cases h0:((s.head B).1.take B ((s.head B).2.2:Int)).1.k=0
     ·rw[(Rs.take_more h0).2.2];omega
     ·rw[Rs.take_bad h0];simp
    have hoff:=hid (fun (W:World) (h:RdAt W (w.heap.size+1) B a (s.head B).1)=>token_offset W h (by omega))
    have hatp:=hid (fun (W:World) (h:RdAt W (w.heap.size+1) B a (s.head B).1)=>rd_at W h)
    have hfail:=hid (fun (W:World) (h:RdAt W (w.heap.size+1) B a (s.head B).1)=>rd_fail W h 11 s.p (by omega))
    have hfail2:=hid (fun (W:World) (h:RdAt W (w.heap.size+1) B a ((s.head B).1.offset B).1)=>rd_fail W h 10 (s.head B).1.p (by omega))
    have hfk:=(Rs.fail_k (s:=(s.head B).1) (c:=11) (at_:=(s.p:Int)) (by omega))
    have hfk2:=(Rs.fail_k (s:=((s.head B).1.offset B).1) (c:=10) (at_:=((s.head B).1.p:Int)) (by omega))
    generalize (s.head B).1.fail 11 s.p=F1 at*
    generalize ((s.head B).1.offset B).1.fail 10 (s.head B).1.p=F2 at*
    generalize (s.head B).1.take B ((s.head B).2.2:Int)=TK at*
    generalize (s.head B).1.offset B=OF at*
    generalize s.head B=H at*
    obtain⟨s1,ic,m⟩:=H
    obtain⟨s2,D⟩:=TK
    obtain⟨s3,of⟩:=OF
    dsimp only at*
    have HK:=hid hk
    have hG:=rd_good
    have dk:decide (s.k=0)=true:=decide_eq_true hk
    have HGO:=hid hgo
    have HMORE:=hid hmore
    have hpx:=hp
    have HST2:=hid hst2
    clear hk hgo hmore hst2 hG hok
    by_cases hb1:bound-(out.length:Int)<(m:Int)
    ·have d1:decide (bound-(out.length:Int)<(m:Int))=true:=decide_eq_true hb1
     have hes:=HST2.out
     rw[if_pos hb1] at hes
     subst hes
     have HGO2:=hid (HGO.out.trans (exR_stop (fun e=>hfk e.2)))
     clear hb1 HST2
     go_wp2_with fail
     refine HLF.out.mono ?_
     rintro r w1 ⟨rfl,hb1⟩
     have hG:=rd_good w1 (HI.out.rd.later hb1)
     rw[dk] at hG
     have HG:=hid hG
     clear hG dk
     go_wp2_with fail
     refine HG.out.mono ?_
     rintro r w2 ⟨rfl,hb2⟩
     have HI2:=hid (HI.out.later (below_then hb2 hb1))
     have HAT:=hid (rd_at w2 HI2.out.rd)
     go_wp2_with fail
     refine HAT.out.mono ?_
     rintro r w2' ⟨rfl,rfl⟩
     have HHD:=hid (hhead.out w2 HI2.out.rd)
     go_wp2_with fail
     refine HHD.out.mono ?_
     rintro r w3 ⟨rfl,hst3⟩
     have HI3:=hid (HI2.out.step hst3)
     clear hst3
     have HFL:=hid (hfail.out w3 HI3.out.rd)
     go_wp2_with fail
     refine HFL.out.mono ?_
     rintro r w4 ⟨rfl,hst4⟩
     have HI4:=hid (HI3.out.step hst4)
     clear hst4
     go_wp2
     go_step3
     exact .inr ⟨rfl,F1,out,aO,cO,HGO2,_,_,_,_,_,_,_,_,_,_,_,_,_,_,_,_,_,_,_,_,_,_,_,_,_,_,_,_,_,_,_,_,_,_,_,_,_,_,_,_,_,_,_,_,_,_,_,_,_,_,_,_,_,_,_,_,_,_,_,_,_,_,_,_,_,HI4.out,HIN.out,rfl⟩
    ·have d1:decide (bound-(out.length:Int)<(m:Int))=false:=decide_eq_false hb1
     have hes:=HST2.out
     rw[if_neg hb1] at hes
     clear HST2
     cases ic
     ·simp only[if_true] at hes
      subst hes
      clear hb1
      go_wp2_with fail
      refine HLF.out.mono ?_
      rintro r w1 ⟨rfl,hb1⟩
      have hG:=rd_good w1 (HI.out.rd.later hb1)
      rw[dk] at hG
      have HG:=hid hG
      clear hG dk
      go_wp2_with fail
      refine HG.out.mono ?_
      rintro r w2 ⟨rfl,hb2⟩
      have HI2:=hid (HI.out.later (below_then hb2 hb1))
      have HAT:=hid (rd_at w2 HI2.out.rd)
      go_wp2_with fail
      refine HAT.out.mono ?_
      rintro r w2' ⟨rfl,rfl⟩
      have HHD:=hid (hhead.out w2 HI2.out.rd)
      go_wp2_with fail
      refine HHD.out.mono ?_
      rintro r w3 ⟨rfl,hst3⟩
      have HI3:=hid (HI2.out.step hst3)
      clear hst3
      have HTK:=hid (htake.out w3 HI3.out.rd)
      go_wp2_with fail
      refine HTK.out.mono ?_
      rintro r w4 ⟨v,rfl,hr,hst4⟩
      obtain⟨aD,cD,hv,hr2,_⟩:=sl_form hr
      simp only[List.cons.injEq,and_true] at hv
      subst hv
      have HI4:=hid (HI3.out.step hst4)
      have HS4:=hid (src_bytes hr2)
      have HONE:=hid (byteCells_one D)
      have hsz4:=HI4.out.sz
      clear hst4 hr hr2
      go_wp2_with (at_builtin;go_loud (refine wpList_append_src rfl _ _ _ rfl (w.heap.size+2) 5 i0 (.int .u8 0) 1 1 Tryz.underlying22 hi hz0 hz1 hz2 rfl (by decide) (.slice aO out.length cO) out.length (byteCells out) rfl HI4.out.own aD D.length cD (byteCells D) rfl HS4.out HONE.out (by simp only[maxLen];omega) (by omega) (by omega) ?_;intro v' w5 hown5 hgrow5 hat5;obtain⟨a5,c5,rfl⟩:=own_form hown5;have HO5:=hid hown5;have HG5:=hid hgrow5;clear hown5 hgrow5 hat5))
      have ho:=HO5.out
      rw[byteCells_app',show out.length+D.length=(out++D).length by simp] at ho
      have hb5:Below (w.heap.size+2) w4 w5:=Below.grown (Below.refl _ _) HG5.out (by omega) (fun g e=>(HI4.out.own.lt g e).1)
      have HI5:=hid (HI4.out.row hb5 ho)
      clear ho hb5
      rw[show out.length+D.length=(out++D).length by simp]
      go_step3
      exact .inl ⟨rfl,⟨s2,out++D,a5,c5,hid HGO.out.symm,_,_,_,_,_,_,_,_,_,_,_,_,_,_,_,_,_,_,_,_,_,_,_,_,_,_,_,_,_,_,_,_,_,_,_,_,_,_,_,_,_,_,_,_,_,_,_,_,_,_,_,_,_,_,_,_,_,_,_,_,_,_,_,_,_,HI5.out,hin2.out,rfl⟩,exMu_lt HI.out.rd HI5.out.rd HK.out hpx (fun h=>(HMORE.out h).1)⟩
     ·simp only[Bool.true_eq_false,if_false] at hes
      by_cases h3:out.length<of
      ·have d3:decide ((out.length:Int)<(of:Int))=true:=decide_eq_true (by omega)
       have d3':decide (out.length<of)=true:=decide_eq_true h3
       rw[if_pos h3] at hes
       subst hes
       clear hb1
       go_wp2_with fail
       refine HLF.out.mono ?_
       rintro r w1 ⟨rfl,hb1⟩
       have hG:=rd_good w1 (HI.out.rd.later hb1)
       rw[dk] at hG
       have HG:=hid hG
       clear hG dk
       go_wp2_with fail
       refine HG.out.mono ?_
       rintro r w2 ⟨rfl,hb2⟩
       have HI2:=hid (HI.out.later (below_then hb2 hb1))
       have HAT:=hid (rd_at w2 HI2.out.rd)
       go_wp2_with fail
       refine HAT.out.mono ?_
       rintro r w2' ⟨rfl,rfl⟩
       have HHD:=hid (hhead.out w2 HI2.out.rd)
       go_wp2_with fail
       refine HHD.out.mono ?_
       rintro r w3 ⟨rfl,hst3⟩
       have HI3:=hid (HI2.out.step hst3)
       clear hst3
       have HATP:=hid (hatp.out w3 HI3.out.rd)
       go_wp2_with fail
       refine HATP.out.mono ?_
       rintro r w3' ⟨rfl,rfl⟩
       have HOF:=hid (hoff.out w3 HI3.out.rd)
       go_wp2_with fail
       refine HOF.out.mono ?_
       rintro r w4 ⟨rfl,hst4⟩
       have HI4:=hid (HI3.out.step hst4)
       clear hst4
       have HFL:=hid (hfail2.out w4 HI4.out.rd)
       go_wp2_with fail
       refine HFL.out.mono ?_
       rintro r w5 ⟨rfl,hst5⟩
       have HI5:=hid (HI4.out.step hst5)
       have hG5:=rd_good w5 HI5.out.rd
       rw[decide_eq_false hfk2] at hG5
       have HG5:=hid hG5
       clear hst5 hG5
       go_wp2_with fail
       refine HG5.out.mono ?_
       rintro r w6 ⟨rfl,hb6⟩
       have HI6:=hid (HI5.out.later hb6)
       go_wp2
       go_step3
       exact .inl ⟨rfl,⟨F2,out,aO,cO,hid HGO.out.symm,_,_,_,_,_,_,_,_,_,_,_,_,_,_,_,_,_,_,_,_,_,_,_,_,_,_,_,_,_,_,_,_,_,_,_,_,_,_,_,_,_,_,_,_,_,_,_,_,_,_,_,_,_,_,_,_,_,_,_,_,_,_,_,_,_,HI6.out,HIN.out,rfl⟩,exMu_lt HI.out.rd HI6.out.rd HK.out hpx (fun h=>absurd h hfk2)⟩
      ·have d3:decide ((out.length:Int)<(of:Int))=false:=decide_eq_false (by omega)
       have d3':decide (out.length<of)=false:=decide_eq_false h3
       rw[if_neg h3] at hes
       by_cases h4:s3.k=0
       ·have d4:decide (s3.k=0)=true:=decide_eq_true h4
        rw[if_pos h4] at hes
        have hof1:1≤of:=by exact (hh1 rfl).elim id (absurd h4)
        subst hes
        go_wp2_with fail
        refine HLF.out.mono ?_
        rintro r w1 ⟨rfl,hb1⟩
        have hG:=rd_good w1 (HI.out.rd.later hb1)
        rw[dk] at hG
        have HG:=hid hG
        clear hG dk
        go_wp2_with fail
        refine HG.out.mono ?_
        rintro r w2 ⟨rfl,hb2⟩
        have HI2:=hid (HI.out.later (below_then hb2 hb1))
        have HAT:=hid (rd_at w2 HI2.out.rd)
        go_wp2_with fail
        refine HAT.out.mono ?_
        rintro r w2' ⟨rfl,rfl⟩
        have HHD:=hid (hhead.out w2 HI2.out.rd)
        go_wp2_with fail
        refine HHD.out.mono ?_
        rintro r w3 ⟨rfl,hst3⟩
        have HI3:=hid (HI2.out.step hst3)
        clear hst3
        have HATP:=hid (hatp.out w3 HI3.out.rd)
        go_wp2_with fail
        refine HATP.out.mono ?_
        rintro r w3' ⟨rfl,rfl⟩
        have HOF:=hid (hoff.out w3 HI3.out.rd)
        go_wp2_with fail
        refine HOF.out.mono ?_
        rintro r w4 ⟨rfl,hst4⟩
        have HI4:=hid (HI3.out.step hst4)
        clear hst4
        have hG5:=rd_good w4 HI4.out.rd
        rw[d4] at hG5
        have HG5:=hid hG5
        clear hG5 d4
        go_wp2_with fail
        refine HG5.out.mono ?_
        rintro r w6 ⟨rfl,hb6⟩
        have HI6:=hid (HI4.out.later hb6)
        have HAG:=hid (expand_again w6 out HI6.out.own HI6.out.sz of m hof1 (by omega) (by omega))
        have HAL:=hid (againL_len of m out)
        have HIN2:=hid hin2.out
        clear hb1
        go_wp2_with fail
        refine HAG.out.mono ?_
        rintro r w7 ⟨a7,c7,rfl,hown7,hb7⟩
        rw[←HAL.out] at hown7
        have HI7:=hid (HI6.out.row hb7 hown7)
        clear hown7
        go_wp2
        rw[←HAL.out]
        go_step3
        exact .inl ⟨rfl,⟨s3,_,a7,c7,hid HGO.out.symm,_,_,_,_,_,_,_,_,_,_,_,_,_,_,_,_,_,_,_,_,_,_,_,_,_,_,_,_,_,_,_,_,_,_,_,_,_,_,_,_,_,_,_,_,_,_,_,_,_,_,_,_,_,_,_,_,_,_,_,_,_,_,_,_,_,HI7.out,HIN2.out,rfl⟩,exMu_lt HI.out.rd HI7.out.rd HK.out hpx (fun h=>(HMORE.out h).1)⟩
       ·have d4:decide (s3.k=0)=false:=decide_eq_false h4
        rw[if_neg h4] at hes
        subst hes
        clear hb1
        go_wp2_with fail
        refine HLF.out.mono ?_
        rintro r w1 ⟨rfl,hb1⟩
        have hG:=rd_good w1 (HI.out.rd.later hb1)
        rw[dk] at hG
        have HG:=hid hG
        clear hG dk
        go_wp2_with fail
        refine HG.out.mono ?_
        rintro r w2 ⟨rfl,hb2⟩
        have HI2:=hid (HI.out.later (below_then hb2 hb1))
        have HAT:=hid (rd_at w2 HI2.out.rd)
        go_wp2_with fail
        refine HAT.out.mono ?_
        rintro r w2' ⟨rfl,rfl⟩
        have HHD:=hid (hhead.out w2 HI2.out.rd)
        go_wp2_with fail
        refine HHD.out.mono ?_
        rintro r w3 ⟨rfl,hst3⟩
        have HI3:=hid (HI2.out.step hst3)
        clear hst3
        have HATP:=hid (hatp.out w3 HI3.out.rd)
        go_wp2_with fail
        refine HATP.out.mono ?_
        rintro r w3' ⟨rfl,rfl⟩
        have HOF:=hid (hoff.out w3 HI3.out.rd)
        go_wp2_with fail
        refine HOF.out.mono ?_
        rintro r w4 ⟨rfl,hst4⟩
        have HI4:=hid (HI3.out.step hst4)
        clear hst4
        have hG5:=rd_good w4 HI4.out.rd
        rw[d4] at hG5
        have HG5:=hid hG5
        clear hG5 d4
        go_wp2_with fail
        refine HG5.out.mono ?_
        rintro r w6 ⟨rfl,hb6⟩
        have HI6:=hid (HI4.out.later hb6)
        go_wp2
        go_step3
        exact .inl ⟨rfl,⟨s3,out,aO,cO,hid HGO.out.symm,_,_,_,_,_,_,_,_,_,_,_,_,_,_,_,_,_,_,_,_,_,_,_,_,_,_,_,_,_,_,_,_,_,_,_,_,_,_,_,_,_,_,_,_,_,_,_,_,_,_,_,_,_,_,_,_,_,_,_,_,_,_,_,_,_,HI6.out,HIN.out,rfl⟩,exMu_lt HI.out.rd HI6.out.rd HK.out hpx (fun h=>absurd h h4)⟩
   ·have dk:decide (s.k=0)=false:=decide_eq_false hk
    have hst:=exR_stop (bound:=bound) (out:=out) (fun e=>hk e.2:¬(s.p<B.length∧s.k=0))
    have HEX:=hid (hex.out.symm.trans hst)
    clear hk hst hex
    go_wp2_with fail
    refine HLF.out.mono ?_
    rintro r w1 ⟨rfl,hb1⟩
    have hG:=rd_good w1 (HI.out.rd.later hb1)
    rw[dk] at hG
    have HG:=hid hG
    clear hG dk
    go_wp2_with fail
    refine HG.out.mono ?_
    rintro r w2 ⟨rfl,hb2⟩
    have HI2:=hid (HI.out.later (below_then hb2 hb1))
    go_wp2
    go_step3
    exact .inr ⟨rfl,s,out,aO,cO,HEX,_,_,_,_,_,_,_,_,_,_,_,_,_,_,_,_,_,_,_,_,_,_,_,_,_,_,_,_,_,_,_,_,_,_,_,_,_,_,_,_,_,_,_,_,_,_,_,_,_,_,_,_,_,_,_,_,_,_,_,_,_,_,_,_,_,HI2.out,HIN.out,rfl⟩
  ·have e0:(((B.length:Int)-(s.p:Int))==0)=true:=by rw[beq_iff_eq];omega
   have hst:=exR_stop (bound:=bound) (out:=out) (fun e=>hp e.1:¬(s.p<B.length∧s.k=0))
   have HEX:=hid (hex.out.symm.trans hst)
   clear hst hex
   go_wp2_with fail
   refine HLF.out.mono ?_
   rintro r w1 ⟨rfl,hb1⟩
   have HI2:=hid (HI.out.later hb1)
   go_wp2
   go_step3
   exact .inr ⟨rfl,s,out,aO,cO,HEX,_,_,_,_,_,_,_,_,_,_,_,_,_,_,_,_,_,_,_,_,_,_,_,_,_,_,_,_,_,_,_,_,_,_,_,_,_,_,_,_,_,_,_,_,_,_,_,_,_,_,_,_,_,_,_,_,_,_,_,_,_,_,_,_,_,HI2.out,HIN.out,rfl⟩
 ·rintro a' W ⟨s,out,aO,cO,hex,u2,u3,u8,u9,u10,u11,u12,u13,u14,u15,u16,u17,u18,u19,u20,u21,u22,u23,u24,u25,u26,u27,u28,u29,u30,u31,u32,u33,u34,u35,u36,u37,u38,u39,u40,u41,u42,u43,u44,u45,u46,u47,u48,u49,u50,u51,u52,u53,u54,u55,u56,u57,u58,u59,u60,u61,u62,u63,u64,u65,u66,u67,u68,u69,u70,hI,hin,rfl⟩
  have HI:=hid hI
  have HFA:=hid (rd_fault W hI.rd)
  have hsz:=hI.sz
  have hle:=exIn_len hin hbd
  have hex2:=exB_is B bound
  rw[hex.out] at hex2
  dsimp only at hex2
  clear hin hI hex
  by_cases hk:s.k=0
  ·rw[if_pos hk] at hex2
   have HX:=hid hex2
   have dk:decide (s.k=0)=true:=decide_eq_true hk
   have HK:=hid hk
   clear hk hex2
   go_wp2_with fail
   refine HFA.out.mono ?_
   rintro r w1 ⟨rfl,hb1⟩
   have hG:=fault_good (w1.alloc (.cells #[.int .i64 s.k,.int .i64 s.f] 31)) s.k s.f
   rw[dk] at hG
   have HG:=hid hG
   clear hG dk
   go_wp2_with fail
   refine HG.out.mono ?_
   rintro r w2 ⟨rfl,hb2⟩
   have hb12:Below W.heap.size W w2:=below_then hb2 (below_alloc hb1 _)
   have HI2:=hid (HI.out.later hb12)
   have hfl:=HI2.out.fl
   obtain⟨y0,y1,g0,g1,l1⟩:=f_blk hfl
   have hV:=own_bytes2 rfl HI2.out.own
   have HV:=hid hV
   clear hfl hV
   go_wp2
   simp only[manyX]
   refine bodyPost_ret (v:=.tuple #[.slice aO out.length cO,.agg #[.int .i64 0,.int .i64 0]]) (by simp[results,Tryz.results366,go_sem,y0,y1,l1]) rfl ⟨_,by rw[HX.out],?_,?_⟩
   ·rw[HX.out]
    refine rBytes.mono (rBytes.keep HV.out fun q hq=> ?_) fun q hq=>⟨by omega,by simp[World.setCell];exact hq.2⟩
    repeat (rw[Below.heap_setCell _ _ _ _ (by dsimp only;omega)])
   ·have hbe:=HI2.out.be
    (repeat (first | with_reducible exact Below.refl _ _ | with_reducible assumption | (with_reducible refine below_alloc ?_ _) | (with_reducible refine Below.setCell ?_ (by first | omega | (simp;done) | (simp;omega)) _) | (with_reducible refine Below.drew ?_) | (with_reducible refine below_drewN ?_ _) | (refine below_then (by with_reducible assumption) ?_)))
  ·rw[if_neg hk] at hex2
   have HX:=hid hex2
   have dk:decide (s.k=0)=false:=decide_eq_false hk
   have HK:=hid hk
   clear hk hex2
   go_wp2_with fail
   refine HFA.out.mono ?_
   rintro r w1 ⟨rfl,hb1⟩
   have hG:=fault_good (w1.alloc (.cells #[.int .i64 s.k,.int .i64 s.f] 31)) s.k s.f
   rw[dk] at hG
   have HG:=hid hG
   clear hG dk
   go_wp2_with fail
   refine HG.out.mono ?_
   rintro r w2 ⟨rfl,hb2⟩
   have hb12:Below W.heap.size W w2:=below_then hb2 (below_alloc hb1 _)
   have HI2:=hid (HI.out.later hb12)
   have hfl:=HI2.out.fl
   obtain⟨y0,y1,g0,g1,l1⟩:=f_blk hfl
   obtain⟨z0,z1,e0,e1,l2⟩:=f_blk (Blk.later (Blk.newAt _ _ _ rfl) hb2)
   have hbe:=HI2.out.be
   clear hfl
   go_wp2_with fail
   go_region
   all_goals
    go_wp2
    simp only[manyX]
    refine bodyPost_ret (v:=.tuple #[.slice none 0 0,.agg #[.int .i64 s.k,.int .i64 s.f]]) (by simp[results,Tryz.results366,go_sem,y0,y1,l1]) rfl ⟨_,by rw[HX.out],by rw[HX.out];exact empty_bytes rfl rfl (by omega),?_⟩
    (repeat (first | with_reducible exact Below.refl _ _ | with_reducible assumption | (with_reducible refine below_alloc ?_ _) | (with_reducible refine Below.setCell ?_ (by first | omega | (simp;done) | (simp;omega)) _) | (with_reducible refine Below.drew ?_) | (with_reducible refine below_drewN ?_ _) | (refine below_then (by with_reducible assumption) ?_)))
 ·intro K hK
  have HN:=hid (rd_new (w.alloc (.cells #[.int .i64 0,.int .i64 0] 31)) B a _ c (lift HL.out (by (repeat (first | with_reducible exact Below.refl _ _ | with_reducible assumption | (with_reducible refine below_alloc ?_ _) | (with_reducible refine Below.setCell ?_ (by first | omega | (simp;done) | (simp;omega)) _) | (with_reducible refine Below.drew ?_) | (with_reducible refine below_drewN ?_ _) | (refine below_then (by with_reducible assumption) ?_))))))
  go_wp2_with fail
  refine HN.out.mono ?_
  rintro r w1 ⟨rfl,hrd,hb⟩
  have hI:XInv w w1 B a ⟨0,0,0⟩ [] none 0:=⟨by simpa using hrd,rBytes.keep HCAP.out fun q hq=>(hb.block q (by simp;omega)).trans (Below.heap_alloc _ _ q hq),Blk.later (by (repeat (first | assumption | exact Blk.newAt _ _ _ (by first | (simp;done) | (simp;omega)) | refine Blk.alloc ?_ _ | refine Blk.drew ?_ | refine Blk.drewN ?_ _ | refine Blk.far ?_ (by first | (simp;done) | (simp;omega)) _))) hb,⟨rfl,.inl ⟨rfl,rfl⟩⟩,by (repeat (first | with_reducible exact Below.refl _ _ | with_reducible assumption | (with_reducible refine below_alloc ?_ _) | (with_reducible refine Below.setCell ?_ (by first | omega | (simp;done) | (simp;omega)) _) | (with_reducible refine Below.drew ?_) | (with_reducible refine below_drewN ?_ _) | (refine below_then (by with_reducible assumption) ?_))),by have:=hrd.blk.lt;simp at this;omega⟩
  have HI:=hid hI
  clear hI hrd hb
  go_wp2
  go_step3
  rename_i hkk
  exact hkk _ _ (hK _ _ ⟨⟨0,0,0⟩,[],none,0,hid rfl,_,_,_,_,_,_,_,_,_,_,_,_,_,_,_,_,_,_,_,_,_,_,_,_,_,_,_,_,_,_,_,_,_,_,_,_,_,_,_,_,_,_,_,_,_,_,_,_,_,_,_,_,_,_,_,_,_,_,_,_,_,_,_,_,_,HI.out,.inl rfl,rfl⟩)
open Go.RowKit Go.Bs
theorem c_u64:Tryz.prog.cellsOf 25=1:=by kernel_rfl
theorem c_bytes:Tryz.prog.cellsOf 22=1:=by kernel_rfl
theorem c_u64s:Tryz.prog.cellsOf 49=1:=by kernel_rfl
theorem c_links:Tryz.prog.cellsOf 50=1:=by kernel_rfl
theorem c_entries:Tryz.prog.cellsOf 58=1:=by kernel_rfl
theorem c_batches:Tryz.prog.cellsOf 26=1:=by kernel_rfl
theorem o_u64:Opens Tryz.prog 25 (rInt .u64):=opens_int Tryz.underlying25
theorem o_bytes:Opens Tryz.prog 22 rBytes:=opens_slice (sz:=1) Tryz.underlying22 (by kernel_rfl) (by decide) (opens_byte Tryz.underlying5)
theorem o_u64s:Opens Tryz.prog 49 rU64s:=opens_slice (sz:=1) Tryz.underlying49 (by kernel_rfl) (by decide) o_u64
theorem field_at{H:Type}{enc:TypeId × Value→H}{P:Program}{w:World}{cs:List Value}{n:Nat}{fs:Array Field}(h:∀(i:Nat) (f:Field),fs[i]? =some f→∃y,DataW.trod enc P w 0 (fun _=>true) true n f.type ((cs.drop f.offset).take (P.cellsOf f.type))=some y)
  {α:Type} {A:Rp α} {t:TypeId} (hA:Opens P t A) (i:Nat) (f:Field) (o:Nat) (hf:fs[i]? =some f) (ht:f.type=t) (ho:f.offset=o) (hs:P.cellsOf t=1):∃x,A.r (·<w.heap.size) w ((cs.drop o).take 1) x:=by
 obtain⟨y,hy⟩:=h i f hf
 rw[ht,ho,hs] at hy
 exact hA enc w n _ _ hy
theorem o_link:Opens Tryz.prog 184 rLink:=fun enc w fuel cs x h=>by
 obtain⟨hl,n,hf⟩:=trod_fields Tryz.underlying184 h
 have hl2:cs.length=2:=hl.trans (by kernel_rfl)
 obtain⟨x0,r0⟩:=field_at hf o_u64 0 _ 0 rfl rfl rfl c_u64
 obtain⟨x1,r1⟩:=field_at hf o_u64s 1 _ 1 rfl rfl rfl c_u64s
 exact⟨⟨x0,x1⟩,by have h:=pair_step (o:=0) (s:=1) (o':=1) rfl r0 (last_step (s:=1) hl2 r1);rw[List.drop_zero] at h;exact h⟩
theorem o_links:Opens Tryz.prog 50 rLinks:=opens_slice (sz:=2) Tryz.underlying50 (by kernel_rfl) (by decide) o_link
theorem o_entry:Opens Tryz.prog 84 rEntry:=fun enc w fuel cs x h=>by
 obtain⟨hl,n,hf⟩:=trod_fields Tryz.underlying84 h
 have hl2:cs.length=2:=hl.trans (by kernel_rfl)
 obtain⟨x0,r0⟩:=field_at hf o_links 0 _ 0 rfl rfl rfl c_links
 obtain⟨x1,r1⟩:=field_at hf o_bytes 1 _ 1 rfl rfl rfl c_bytes
 exact⟨⟨x0,x1⟩,by have h:=pair_step (o:=0) (s:=1) (o':=1) rfl r0 (last_step (s:=1) hl2 r1);rw[List.drop_zero] at h;exact h⟩
theorem o_entries:Opens Tryz.prog 58 rEntries:=opens_slice (sz:=2) Tryz.underlying58 (by kernel_rfl) (by decide) o_entry
theorem o_batch:Opens Tryz.prog 60 rBatch:=fun enc w fuel cs x h=>by
 obtain⟨hl,n,hf⟩:=trod_fields Tryz.underlying60 h
 have hl2:cs.length=3:=hl.trans (by kernel_rfl)
 obtain⟨x0,r0⟩:=field_at hf o_u64 0 _ 0 rfl rfl rfl c_u64
 obtain⟨x1,r1⟩:=field_at hf o_u64 1 _ 1 rfl rfl rfl c_u64
 obtain⟨x2,r2⟩:=field_at hf o_entries 2 _ 2 rfl rfl rfl c_entries
 exact⟨⟨x0,x1,x2⟩,by have h:=pair_step (o:=0) (s:=1) (o':=1) rfl r0 (pair_step (o:=1) (s:=1) (o':=2) rfl r1 (last_step (s:=1) hl2 r2));rw[List.drop_zero] at h;exact h⟩
theorem o_batches:Opens Tryz.prog 26 rBatches:=opens_slice (sz:=3) Tryz.underlying26 (by kernel_rfl) (by decide) o_batch
theorem o_seg:Opens Tryz.prog 28 rSeg:=fun enc w fuel cs x h=>by
 obtain⟨hl,n,hf⟩:=trod_fields Tryz.underlying28 h
 have hl2:cs.length=2:=hl.trans (by kernel_rfl)
 obtain⟨x0,r0⟩:=field_at hf o_u64 0 _ 0 rfl rfl rfl c_u64
 obtain⟨x1,r1⟩:=field_at hf o_batches 1 _ 1 rfl rfl rfl c_batches
 exact⟨⟨x0,x1⟩,by have h:=pair_step (o:=0) (s:=1) (o':=1) rfl r0 (last_step (s:=1) hl2 r1);rw[List.drop_zero] at h;exact h⟩
structure TokAt(w wr:World)(N0 N1 gs g mb base:Nat)(b:List UInt8)(sa:Option Addr)(sc:Nat)(ab:Option Addr)(cb:Nat)(a:Option Addr)(c:Nat)(p i nn:Nat)(av:Option Addr)(cv:Nat)(ap:Option Addr)(cp:Nat)(L:List Tok)(cells:List (List Value)):Prop where
 pb:p≤b.length
 ip:i≤p
 np:nn≤p
 bb:Blk wr w.heap.size 22 #[.slice a b.length c]
 bo:Blk wr (w.heap.size+1) 435 #[.slice av L.length cv]
 bf:Blk wr (w.heap.size+2) 3 #[.int .i64 (i:Int)]
 own:OwnElsF (fun q=>N1≤q∧q<wr.heap.size∧(Value.slice ap nn cp).ownBlock≠some q) rTok N1 414 3 wr (.slice av L.length cv) L cells
 sk:SkAt wr gs g mb base N0 N1 b nn sa sc ab cb ap cp
 apart:∀q,(Value.slice av L.length cv).ownBlock=some q→(Value.slice ap nn cp).ownBlock≠some q
 len:L.length≤p
 toks:L++toksA b p i=toksR b
 below:Below w.heap.size w wr
 n0:N0=w.heap.size+3
 n1:N0≤gs∧gs<N1∧N0≤g∧g<N1∧N0≤mb∧mb<N1∧N0≤base
theorem TokAt.top{w wr:World}{N0 N1 gs g mb base:Nat}{b:List UInt8}{sa:Option Addr}{sc:Nat}{ab:Option Addr}{cb:Nat}{a:Option Addr}{c:Nat}{p i nn:Nat}{av:Option Addr}{cv:Nat}{ap:Option Addr}{cp:Nat}{L:List Tok}{cells:List (List Value)}
  (h:TokAt w wr N0 N1 gs g mb base b sa sc ab cb a c p i nn av cv ap cp L cells):N1≤wr.heap.size:=h.sk.top
theorem TokAt.best{w wr w1:World}{N0 N1 gs g mb base:Nat}{b:List UInt8}{sa:Option Addr}{sc:Nat}{ab:Option Addr}{cb:Nat}{a:Option Addr}{c:Nat}{p i nn m:Nat}{av:Option Addr}{cv:Nat}{ap:Option Addr}{cp:Nat}{L:List Tok}{cells:List (List Value)}
  (h:TokAt w wr N0 N1 gs g mb base b sa sc ab cb a c p i nn av cv ap cp L cells) (hs:SkStep wr gs g mb base N0 N1 b nn m sa sc ab cb ap cp w1) (hm:m≤p):
  ∃ap' cp',TokAt w w1 N0 N1 gs g mb base b sa sc ab cb a c p i m av cv ap' cp' L cells:=by
 obtain⟨ap',cp',h1,h2,h3⟩:=hs
 have htop:=h.top
 have hn0:=h.n0
 obtain⟨k1,k2,k3,k4,k5,k6,k7⟩:=h.n1
 have hsz:=h2.size
 have hapb:∀q,(Value.slice ap nn cp).ownBlock=some q→N0≤q∧q<wr.heap.size:=fun q hq=>by
  have:=h.sk.ch.prev.lt q hq
  exact⟨by omega,this.2⟩
 have hlow:∀q,q<N0→¬(q=gs∨q=g∨q=mb∨(Value.slice ap nn cp).ownBlock=some q):=fun q hq e=>by
  rcases e with e | e | e | e
  ·omega
  ·omega
  ·omega
  ·have:=(hapb q e).1;omega
 have hav:=fun q (hq:(Value.slice av L.length cv).ownBlock=some q)=>h.own.1.lt q hq
 have hnew:∀q,q<wr.heap.size→(Value.slice ap nn cp).ownBlock≠some q→(Value.slice ap' m cp').ownBlock≠some q:=fun q hq hne e=>by
  rcases h3 with h3 | ⟨q',hq',hlt⟩
  ·rw[h3] at e;exact hne e
  ·rw[hq'] at e;have:=Option.some.inj e;omega
 refine⟨ap',cp',⟨h.pb,h.ip,hm,h.bb.tch h2 (hlow _ (by omega)),h.bo.tch h2 (hlow _ (by omega)),h.bf.tch h2 (hlow _ (by omega)),?_,h1,fun q hq=>hnew q (hav q hq).2 (h.apart q hq),h.len,h.toks,h.below.trans (h2.to_below (by omega) fun q hq e=> ?_),h.n0,h.n1⟩⟩
 ·refine (h.own.keep (w':=w1) (fun q hq=>h2.block q hq.2.1 (fun e=> ?_)) (fun q hq=>h2.block q (hav q hq).2 (fun e=> ?_))).mono fun q hq=>⟨hq.1,by omega,hnew q hq.2.1 hq.2.2⟩
  ·rcases e with e | e | e | e
   ·omega
   ·omega
   ·omega
   ·exact hq.2.2 e
  ·have:=(hav q hq).1
   rcases e with e | e | e | e
   ·omega
   ·omega
   ·omega
   ·exact h.apart q hq e
 ·by_cases hq0:q<N0
  ·exact absurd e (hlow q hq0)
  ·omega
theorem TokAt.out{w wr w1:World}{N0 N1 gs g mb base:Nat}{b:List UInt8}{sa:Option Addr}{sc:Nat}{ab:Option Addr}{cb:Nat}{a:Option Addr}{c:Nat}{p i nn:Nat}{av:Option Addr}{cv:Nat}{ap:Option Addr}{cp:Nat}{L:List Tok}{cells:List (List Value)}
  (h:TokAt w wr N0 N1 gs g mb base b sa sc ab cb a c p i nn av cv ap cp L cells) {p' i':Nat} {av':Option Addr} {cv':Nat} {L':List Tok} {cells':List (List Value)} (hp:p'≤b.length) (hi:i'≤p') (hn:nn≤p')
  (hf:Blk w1 (w.heap.size+2) 3 #[.int .i64 (i':Int)]) (ho:Blk w1 (w.heap.size+1) 435 #[.slice av' L'.length cv'])
  (hown:OwnElsF (fun q=>(N1≤q∧q<wr.heap.size∧(Value.slice ap nn cp).ownBlock≠some q)∨(wr.heap.size≤q∧q<w1.heap.size)) rTok N1 414 3 w1 (.slice av' L'.length cv') L' cells')
  (ht:Tch (fun q=>q=w.heap.size+1∨q=w.heap.size+2∨(Value.slice av L.length cv).ownBlock=some q) wr w1) (hat:(Value.slice av' L'.length cv').ownBlock=(Value.slice av L.length cv).ownBlock∨∃q,(Value.slice av' L'.length cv').ownBlock=some q∧wr.heap.size≤q)
  (hlen:L'.length≤p') (htok:L'++toksA b p' i'=toksR b):TokAt w w1 N0 N1 gs g mb base b sa sc ab cb a c p' i' nn av' cv' ap cp L' cells':=by
 have htop:=h.top
 have hn0:=h.n0
 obtain⟨k1,k2,k3,k4,k5,k6,k7⟩:=h.n1
 have hsz:=ht.size
 have hapb:∀q,(Value.slice ap nn cp).ownBlock=some q→N0≤q∧q<wr.heap.size:=fun q hq=>by
  have:=h.sk.ch.prev.lt q hq
  exact⟨by omega,this.2⟩
 have hav:=fun q (hq:(Value.slice av L.length cv).ownBlock=some q)=>h.own.1.lt q hq
 have hmid:∀q,N0≤q→q<N1→¬(q=w.heap.size+1∨q=w.heap.size+2∨(Value.slice av L.length cv).ownBlock=some q):=fun q h1 h2 e=>by
  rcases e with e | e | e
  ·omega
  ·omega
  ·have:=(hav q e).1;omega
 obtain⟨t,hgs⟩:=h.sk.blk
 refine⟨hp,hi,hn,h.bb.tch ht (fun e=> ?_),ho,hf,hown.mono fun q hq=> ?_,h.sk.tch ht (hmid g k3 k4) (hmid mb k5 k6) (fun q hq e=> ?_) (fun q h1 h2 _=>hmid q h1 h2) ⟨t,hgs.tch ht (hmid gs k1 k2)⟩,fun q hq e=> ?_,hlen,htok,h.below.trans (ht.to_below h.below.size fun q hq e=> ?_),h.n0,h.n1⟩
 ·rcases e with e | e | e
  ·omega
  ·omega
  ·have:=(hav _ e).1;omega
 ·rcases hq with hq | hq
  ·exact⟨hq.1,by omega,hq.2.2⟩
  ·exact⟨by omega,hq.2,fun e=>by have:=(hapb q e).2;omega⟩
 ·rcases e with e | e | e
  ·have:=(hapb q hq).1;omega
  ·have:=(hapb q hq).1;omega
  ·exact h.apart q e hq
 ·rcases hat with hat | ⟨q',hq',hlt⟩
  ·rw[hat] at hq;exact h.apart q hq e
  ·rw[hq'] at hq;have:=Option.some.inj hq;have:=(hapb q e).2;omega
 ·rcases e with e | e | e
  ·omega
  ·omega
  ·have:=(hav q e).1;omega
def TokPost(w:World)(L:List Tok)(r:Ending)(w':World):Prop:=∃v,r=.returned (.tuple #[v,.int .i64 0])∧rToks.r (fun q=>w.heap.size≤q∧q<w'.heap.size) w' [v] L∧Below w.heap.size w w'
theorem press_tokens(w:World)(b:List UInt8)(a:Option Addr)(n c:Nat)(hl:rBytes.r (·<w.heap.size) w [.slice a n c] b)(hlen:b.length≤1048576):
  Calls Tryz.prog 409 #[.slice a n c] w (TokPost w (toksR b)):=by
 obtain⟨rfl,hm,_,_⟩:=sl_len hl
 obtain⟨j0,hj0,hy0,hy1,hy2⟩:=info_parts infoTok
 have HL:=hid hl;clear hl
 have d1:decide ((1048576:Int)<(b.length:Int))=false:=by simp;omega
 go_enter Tryz.func409,Tryz.ntmps409
 go_wp2_with fail
 refine (seek_new _ b _ _ _ (lift HL.out (by (repeat (first | exact Below.refl _ _ | assumption | (refine below_alloc ?_ _) | (refine Below.setCell ?_ (by first | omega | (simp;done) | (simp;omega)) _) | (refine Below.drew ?_) | (refine below_drewN ?_ _) | (refine below_then (by assumption) ?_))))) hlen).mono ?_
 rintro r w1 ⟨gs,g,mb,base,sa,sc,ab,cb,rfl,hsk,hb1,q1,q2,q3,q4⟩
 have hz1:w.heap.size+3≤w1.heap.size:=by have:=hb1.size;simpa using this
 simp only[World.size_alloc] at q1 q2 q3 q4
 have hmlt:mb<w1.heap.size:=by obtain⟨D,hD,_⟩:=hsk.ch.map;exact hD.lt
 have hat0:TokAt w w1 (w.heap.size+3) w1.heap.size gs g mb base b sa sc ab cb a c 0 0 0 none 0 none 0 [] []:=by
  refine⟨Nat.zero_le _,Nat.le_refl _,Nat.le_refl _,Blk.later (by (repeat (first | assumption | exact Blk.newAt _ _ _ (by first | (simp;done) | (simp;omega)) | refine Blk.alloc ?_ _ | refine Blk.drew ?_ | refine Blk.drewN ?_ _ | refine Blk.far ?_ (by first | (simp;done) | (simp;omega)) _))) hb1,Blk.later (by (repeat (first | assumption | exact Blk.newAt _ _ _ (by first | (simp;done) | (simp;omega)) | refine Blk.alloc ?_ _ | refine Blk.drew ?_ | refine Blk.drewN ?_ _ | refine Blk.far ?_ (by first | (simp;done) | (simp;omega)) _))) hb1,Blk.later (by (repeat (first | assumption | exact Blk.newAt _ _ _ (by first | (simp;done) | (simp;omega)) | refine Blk.alloc ?_ _ | refine Blk.drew ?_ | refine Blk.drewN ?_ _ | refine Blk.far ?_ (by first | (simp;done) | (simp;omega)) _))) hb1,OwnElsF.nil,?_,fun q hq=>by simp[Value.ownBlock] at hq,Nat.zero_le _,?_,by (repeat (first | exact Below.refl _ _ | assumption | (refine below_alloc ?_ _) | (refine Below.setCell ?_ (by first | omega | (simp;done) | (simp;omega)) _) | (refine Below.drew ?_) | (refine below_drewN ?_ _) | (refine below_then (by assumption) ?_))),rfl,⟨by omega,hsk.blk.choose_spec.lt,by omega,hsk.ch.blk.lt,by omega,hmlt,by omega⟩⟩
  ·simpa using hsk
  ·rfl
 have H0:=hid hat0
 clear hat0 hsk q1 q2 q3 q4 hmlt
 generalize hN1:w1.heap.size=N1 at*
 have HN1:=hid hN1;clear hN1
 go_wp2_with fail
 go_loopw [8] (fun i wr=>∃(p i0 nn:Nat) (av:Option Addr) (cv:Nat) (ap:Option Addr) (cp:Nat) (L:List Tok) (cells:List (List Value)),i=.int .i64 p∧Hid (TokAt w wr (w.heap.size+3) N1 gs g mb base b sa sc ab cb a c p i0 nn av cv ap cp L cells)) (fun i _=>b.length-(intOf i).toNat)
 case atStart=>exact ⟨0,0,0,none,0,none,0,[],[],rfl,H0⟩
 case round=>
  obtain⟨p,i,nn,av,cv,ap,cp,L,cells,rfl,hT⟩:=hrel
  clear H0
  have hpb:=hT.out.pb
  have hip:=hT.out.ip
  have cb0:wr.cell? ⟨w.heap.size,0,none⟩=some (.slice a b.length c):=hT.out.bb.cell 0
  by_cases hlt:p<b.length
  ·have hB:=hid (seek_best wr hT.out.sk hT.out.np hlt)
   have hbr:=bestR_room b p
   have htn:=hid (fun h=>toksA_none (b:=b) (p:=p) (i:=i) hlt h)
   have hts:=hid (fun h=>toksA_some (b:=b) (p:=p) (i:=i) hlt h)
   have hfc:=hid (bestR_facts b p)
   have dlt:decide ((p:Int)<(b.length:Int))=true:=by simp;omega
   generalize hbb:bestR b p=bb at*
   obtain⟨o,m⟩:=bb
   have HBB:=hid hbb;clear hbb
   simp only at hbr
   go_wp2_with fail
   refine hB.out.mono ?_
   rintro r w2 ⟨hr,hst⟩
   rw[HBB.out] at hr
   subst hr
   obtain⟨ap2,cp2,hT2⟩:=hT.out.best hst (Nat.le_refl _)
   have HT2:=hid hT2;clear hst hT2
   by_cases hm0:m=0
   ·have e1:((m:Int)==0)=true:=by simp;omega
    have HT3:=hid (show TokAt w w2 (w.heap.size+3) N1 gs g mb base b sa sc ab cb a c (p+1) i p av cv ap2 cp2 L cells from {HT2.out with pb:=by omega,ip:=by omega,np:=by omega,len:=by have:=HT2.out.len;omega,toks:=by rw[←htn.out hm0];exact HT2.out.toks})
    clear hm0
    go_wp2_with fail
    go_roundw
    case rel=>exact ⟨p+1,i,p,av,cv,ap2,cp2,L,cells,by go_num,HT3⟩
    case measure=>simp [intOf];omega
   ·have e1:((m:Int)==0)=false:=by simp;omega
    have hm4:4≤m∧o≤p:=by
     rcases hfc.out with h | ⟨o',m',h,h1,h2,h3,_⟩
     ·simp only[Prod.mk.injEq] at h;omega
     ·simp only[Prod.mk.injEq] at h
      unfold reach at h2
      omega
    have htop:=HT2.out.top
    have hn0:=HT2.out.n1
    have hav:=fun q (hq:(Value.slice av L.length cv).ownBlock=some q)=>HT2.out.own.1.lt q hq
    have hRun:=press_run w2 (to:=p) HT2.out.bf HT2.out.bo HT2.out.bb (rBytes.mono (rBytes.keep HL.out fun q hq=>HT2.out.below.block q hq) fun q hq=>Nat.lt_of_lt_of_le hq HT2.out.below.size) HT2.out.own (fun q hq=>hq.2.1) (fun hq=>by have:=hq.1;omega) (fun e=>by have:=(hav _ e).1;omega) ⟨by omega,by omega,fun e=>by have:=(hav _ e).1;omega,fun e=>by have:=(hav _ e).1;omega⟩ (by omega) hlen (by have:=HT2.out.len;omega) htop
    have HRun:=hid hRun;clear hRun
    have HM0:=hid hm0;clear hm0
    go_wp2_with fail
    refine HRun.out.mono ?_
    rintro r w3 ⟨rfl,av3,cv3,cells3,hbo3,hown3,ht3,hat3⟩
    have hLL:(L++litT b i p).length≤p+1:=by
     have h1:=HT2.out.len
     unfold litT
     split<;>simp<;>omega
    have HHBO:=hid hbo3
    have o1:w3.cell? ⟨w.heap.size+1,0,none⟩=some (.slice av3 (L++litT b i p).length cv3):=hbo3.cell 0
    have o2:=hbo3.free 0
    have l1:=hbo3.lt
    have HB3:=hid (HT2.out.bf.tch ht3 (fun e=>by
     rcases e with e | e
     ·omega
     ·have:=(hav _ e).1;omega))
    have l2:=HB3.out.lt
    have hz3:N1≤w3.heap.size:=Nat.le_trans htop ht3.size
    have hav3:=fun q (hq:(Value.slice av3 (L++litT b i p).length cv3).ownBlock=some q)=>hown3.1.lt q hq
    generalize hL3:L++litT b i p=L3 at*
    have HL3:=hid hL3;have HO3:=hid hown3;have HT3:=hid ht3;have HAT3:=hid hat3;have HAV3:=hid hav3;have HAV:=hid hav
    clear hL3 hown3 ht3 hat3 hbo3 hav3 hav
    have f3:=HB3.out.free 0
    go_wp2_with (at_builtin;go_loud (refine wpList_append_src rfl _ _ _ rfl N1 414 j0 (.agg #[.slice none 0 0,.int .i64 0,.int .i64 0]) 3 40 Tryz.underlying435 hj0 hy0 hy1 hy2 rfl (by decide) (.slice av3 L3.length cv3) L3.length cells3.flatten rfl (own_below HO3.out.1 (by (repeat (first | exact Below.refl _ _ | assumption | (refine below_alloc ?_ _) | (refine Below.setCell ?_ (by first | omega | (simp;done) | (simp;omega)) _) | (refine Below.drew ?_) | (refine below_drewN ?_ _) | (refine below_then (by assumption) ?_))))) (some ⟨w3.heap.size,0,none⟩) 1 1 [.slice none 0 0,.int .i64 (o:Int),.int .i64 (m:Int)] rfl (src_new1 w3 414 _ rfl rfl rfl) (by intro u hu;simp at hu;rcases hu with rfl | rfl | rfl<;>rfl) (by simp only[maxLen];omega) (by omega) (by simp;omega) ?_;intro v8 w8 hown8 hgrow8 hat8;obtain⟨a8,c8,rfl⟩:=own_form hown8;have G:=fun b' (hb:b'<w3.heap.size) (hne:(Value.slice av3 L3.length cv3).ownBlock≠some b')=>(hgrow8.block b' (by simp;omega) (fun e=>hne e.symm)).trans (Below.heap_alloc w3 _ b' hb);have n1:(Value.slice av3 L3.length cv3).ownBlock≠some (w.heap.size+1):=fun e=>by {have:=(HAV3.out _ e).1;omega};have n2:(Value.slice av3 L3.length cv3).ownBlock≠some (w.heap.size+2):=fun e=>by {have:=(HAV3.out _ e).1;omega};have m1:=(World.cell?_of_block (a:=⟨w.heap.size+1,0,none⟩) (G _ l1 n1)).trans o1;have m2:=(World.frozen?_of_block (a:=⟨w.heap.size+1,0,none⟩) (G _ l1 n1)).trans o2;have m3:w.heap.size+1<w8.heap.size:=Nat.lt_of_lt_of_le l1 (Nat.le_trans (by simp) hgrow8.size);have m4:=(World.frozen?_of_block (a:=⟨w.heap.size+2,0,none⟩) (G _ l2 n2)).trans f3;have m6:=(World.cell?_of_block (a:=⟨w.heap.size+2,0,none⟩) (G _ l2 n2)).trans (HB3.out.cell 0);have m5:w.heap.size+2<w8.heap.size:=Nat.lt_of_lt_of_le l2 (Nat.le_trans (by simp) hgrow8.size);have HG8:=hid hgrow8;have HO8:=hid hown8;have HA8:=hid hat8;have HGG:=hid G;clear hgrow8 hown8 hat8 G))
    have hOF:=(HO3.out.keep (w':=w3.alloc (.cells #[.slice none 0 0,.int .i64 (o:Int),.int .i64 (m:Int)] 414)) (fun q hq=>Below.heap_alloc w3 _ q (by
     have hs3:=HT3.out.size
     rcases hq with h | h
     ·omega
     ·omega)) (fun q hq=>Below.heap_alloc w3 _ q (HAV3.out q hq).2))
    have hx:rTok.r (fun q=>((N1≤q∧q<w2.heap.size∧(Value.slice ap2 p cp2).ownBlock≠some q)∨(w2.heap.size≤q∧q<w3.heap.size))∧(Value.slice av3 L3.length cv3).ownBlock≠some q) (w3.alloc (.cells #[.slice none 0 0,.int .i64 (o:Int),.int .i64 (m:Int)] 414)) [.slice none 0 0,.int .i64 (o:Int),.int .i64 (m:Int)] ⟨[],o,m⟩:=
     tok_mk (x:=⟨[],o,m⟩) (rSl_mk rfl (Nat.le_refl _) (Nat.zero_le _) (.inl rfl)) (by simp;omega) (by simp;omega)
    have OPU:=OwnElsF.push hOF (fun q hq=>by
     have hs3:=HT3.out.size
     rcases hq with h | h
     ·simp;omega
     ·simp;omega) rfl hx HO8.out HG8.out HA8.out
    have hs8:=HG8.out.size
    simp only[World.size_alloc] at hs8
    have hs3:=HT3.out.size
    have hnew8:∀q,q<N1→(Value.slice a8 (L3.length+1) c8).ownBlock≠some q:=fun q hq e=>by
     have:=(HO8.out.lt q e).1;omega
    have hll:(L3++[(⟨[],o,m⟩:Tok)]).length=L3.length+1:=by simp
    have hsz:((w8.setCell ⟨w.heap.size+1,0,none⟩ (.slice a8 (L3.length+1) c8)).setCell ⟨w.heap.size+2,0,none⟩ (.int .i64 ((p:Int)+(m:Int)))).heap.size=w8.heap.size:=by simp[World.setCell]
    have keep9:∀q,q≠w.heap.size+1→q≠w.heap.size+2→((w8.setCell ⟨w.heap.size+1,0,none⟩ (.slice a8 (L3.length+1) c8)).setCell ⟨w.heap.size+2,0,none⟩ (.int .i64 ((p:Int)+(m:Int)))).heap[q]? =w8.heap[q]? :=fun q k1 k2=>(Below.heap_setCell _ _ _ _ k2).trans (Below.heap_setCell _ _ _ _ k1)
    have OP9:=(OPU.keep (w':=(w8.setCell ⟨w.heap.size+1,0,none⟩ (.slice a8 (L3.length+1) c8)).setCell ⟨w.heap.size+2,0,none⟩ (.int .i64 ((p:Int)+(m:Int)))) (fun q hq=>keep9 q (by rcases hq with h | h<;>omega) (by rcases hq with h | h<;>omega)) (fun q hq=>keep9 q (fun e=>hnew8 q (by omega) hq) (fun e=>hnew8 q (by omega) hq))).mono (F':=fun q=>(N1≤q∧q<w2.heap.size∧(Value.slice ap2 p cp2).ownBlock≠some q)∨(w2.heap.size≤q∧q<((w8.setCell ⟨w.heap.size+1,0,none⟩ (.slice a8 (L3.length+1) c8)).setCell ⟨w.heap.size+2,0,none⟩ (.int .i64 ((p:Int)+(m:Int)))).heap.size)) (fun q hq=>by
     rw[hsz]
     rcases hq with h | h
     ·exact .inl h
     ·exact .inr ⟨h.1,by omega⟩)
    have hbo8:Blk w8 (w.heap.size+1) 435 #[.slice av3 L3.length cv3]:=(HGG.out _ l1 n1).trans HHBO.out
    have hbf8:Blk w8 (w.heap.size+2) 3 #[.int .i64 (i:Int)]:=(HGG.out _ l2 n2).trans HB3.out
    have hfin:TokAt w ((w8.setCell ⟨w.heap.size+1,0,none⟩ (.slice a8 (L3.length+1) c8)).setCell ⟨w.heap.size+2,0,none⟩ (.int .i64 ((p:Int)+(m:Int)))) (w.heap.size+3) N1 gs g mb base b sa sc ab cb a c (p+m) (p+m) p a8 c8 ap2 cp2 (L3++[⟨[],o,m⟩]) (cells3++[[.slice none 0 0,.int .i64 (o:Int),.int .i64 (m:Int)]]):=by
     refine HT2.out.out (by omega) (Nat.le_refl _) (by omega) ?_ ?_ (by rw[hll];exact OP9) ?_ ?_ (by rw[hll];omega) ?_
     ·exact (hbf8.far (by dsimp only;omega) _).set 0 _
     ·rw[hll];exact (hbo8.set 0 _).far (by dsimp only;omega) _
     ·refine Tch.setCell (Tch.setCell ⟨HG8.out.os.trans HT3.out.os,HG8.out.tape.trans HT3.out.tape,HG8.out.output.trans HT3.out.output,by omega,fun q hq hf=> ?_⟩ (fun _=> .inl rfl) _) (fun _=> .inr (.inl rfl)) _
      have h3:(Value.slice av3 L3.length cv3).ownBlock≠some q:=fun e=>by
       rcases HAT3.out with h | ⟨q',hq',hlt'⟩
       ·rw[h] at e;exact hf (.inr (.inr e))
       ·rw[hq'] at e;have:=Option.some.inj e;omega
      exact (HGG.out q (by omega) h3).trans (HT3.out.block q hq (fun e=>by
       rcases e with e | e
       ·exact hf (.inl e)
       ·exact hf (.inr (.inr e))))
     ·rw[hll]
      rcases HA8.out with h | h
      ·rcases HAT3.out with h' | ⟨q',hq',hlt'⟩
       ·exact .inl (h.trans h')
       ·exact .inr ⟨q',h.trans hq',hlt'⟩
      ·exact .inr ⟨_,h,by simp;omega⟩
     ·have e1:=hts.out HM0.out
      have e2:=HT2.out.toks
      rw[e1] at e2
      rw[←e2,←HL3.out]
      simp
    have HF:=hid hfin
    clear hfin OP9 OPU hx hOF keep9 hsz hbo8 hbf8 hnew8 hll
    go_roundw
    case rel=>exact ⟨p+m,p+m,p,a8,c8,ap2,cp2,_,_,by go_num,HF⟩
    case measure=>simp [intOf];omega
  ·have hpe:p=b.length:=by omega
   subst hpe
   have htop:=hT.out.top
   have hn0:=hT.out.n1
   have hav:=fun q (hq:(Value.slice av L.length cv).ownBlock=some q)=>hT.out.own.1.lt q hq
   have hRun:=press_run wr (to:=b.length) hT.out.bf hT.out.bo hT.out.bb (rBytes.mono (rBytes.keep HL.out fun q hq=>hT.out.below.block q hq) fun q hq=>Nat.lt_of_lt_of_le hq hT.out.below.size) hT.out.own (fun q hq=>hq.2.1) (fun hq=>by have:=hq.1;omega) (fun e=>by have:=(hav _ e).1;omega) ⟨by omega,by omega,fun e=>by have:=(hav _ e).1;omega,fun e=>by have:=(hav _ e).1;omega⟩ (Nat.le_refl _) hlen (by have:=hT.out.len;omega) htop
   have htk:=hT.out.toks
   rw[toksA_end (Nat.le_refl _)] at htk
   rw[htk] at hRun
   have HRun:=hid hRun;clear hRun htk
   have dlt:decide ((b.length:Int)<(b.length:Int))=false:=by simp
   go_wp2_with fail
   refine HRun.out.mono ?_
   rintro r w3 ⟨rfl,av3,cv3,cells3,hbo3,hown3,ht3,hat3⟩
   have o1:w3.cell? ⟨w.heap.size+1,0,none⟩=some (.slice av3 (toksR b).length cv3):=hbo3.cell 0
   have hbel:Below w.heap.size w w3:=hT.out.below.trans (ht3.to_below hT.out.below.size fun q hq e=>by
    rcases e with e | e
    ·omega
    ·have:=(hav _ e).1;omega)
   have hsl:=hown3.slice
   have hlt3:=hown3.1.lt
   have hs3:=ht3.size
   have hpost:TokPost w (toksR b) (.returned (.tuple #[.slice av3 (toksR b).length cv3,.int .i64 0])) w3:=⟨_,rfl,(rSl 3 rTok).mono hsl fun q hq=>by
    rcases hq with (h | h) | h
    ·exact⟨by omega,by omega⟩
    ·exact⟨by omega,h.2⟩
    ·have:=hlt3 q h;exact⟨by omega,this.2⟩,hbel⟩
   have HP:=hid hpost
   clear hpost hsl hlt3 hbel hown3 ht3 hat3 hbo3
   go_wp2
   go_ret2
   exact HP.out
end Go.Proofs.YtmioakocnebceaaGreat
namespace Go.Bs
open Go.RowKit
end Go.Bs
namespace Go.Proofs.YtmioakocnebceaaGreat
open Go.RowKit Go.Bs Go.Maps
theorem tok_cells{S:Nat→Prop}{w:World}{cs:List Value}{x:Tok}(h:rTok.r S w cs x):∃a c,cs=[.slice a x.lit.length c,.int .i64 x.off,.int .i64 x.len]∧(-9223372036854775808≤x.off∧x.off≤9223372036854775807)∧(-9223372036854775808≤x.len∧x.len≤9223372036854775807)∧rBytes.r S w [.slice a x.lit.length c] x.lit:=by
 obtain⟨c1,c2,rfl,h1,c3,c4,rfl,⟨rfl,h2⟩,rfl,h3⟩:=h
 obtain⟨a,c,rfl,h4,_⟩:=sl_form h1
 exact⟨a,c,rfl,bounds_i64 h2,bounds_i64 h3,h4⟩
theorem tok_at{S:Nat→Prop}{w:World}{xs:List Tok}{a:Option Addr}{n c:Nat}(h:rToks.r S w [.slice a n c] xs){i:Nat}(hi:i<xs.length):∃b off,a=some ⟨b,off,none⟩∧S b∧∃a' c',w.cell? ⟨b,off+i*3,none⟩=some (.slice a' xs[i].lit.length c')∧w.cell? ⟨b,off+i*3+1,none⟩=some (.int .i64 xs[i].off)∧w.cell? ⟨b,off+i*3+2,none⟩=some (.int .i64 xs[i].len)∧
  (-9223372036854775808≤xs[i].off∧xs[i].off≤9223372036854775807)∧(-9223372036854775808≤xs[i].len∧xs[i].len≤9223372036854775807)∧rBytes.r S w [.slice a' xs[i].lit.length c'] xs[i].lit:=by
 obtain⟨b,off,e,hS,cs,_,hc,hA⟩:=sl_at h hi
 obtain⟨a',c',rfl,h1,h2,h3⟩:=tok_cells hA
 exact⟨b,off,e,hS,a',c',hc 0 _ rfl,hc 1 _ rfl,hc 2 _ rfl,h1,h2,h3⟩
def runB(t:Tok):Bool:=decide (t.off=0)&&(decide (t.len=0)&&(decide (1≤t.lit.length)&&decide (t.lit.length≤1048576)))
def copyB(t:Tok):Bool:=decide (t.lit.length=0)&&(decide (1≤t.off)&&(decide (t.off≤65536)&&(decide (4≤t.len)&&decide (t.len≤1048576))))
inductive Good (b:List UInt8):Bool→Nat→List Tok→Prop where
 | nil {f:Bool}:Good b f b.length []
 | copy {f:Bool} {p o m:Nat} {rest:List Tok}:p<b.length→bestR b p=(o,m)→m≠0→Good b false (p+m) rest→Good b f p (⟨[],(o:Int),(m:Int)⟩::rest)
 | run {p q:Nat} {rest:List Tok}:p<q→q≤b.length→(∀r,p≤r→r<q→(bestR b r).2=0)→Good b true q rest→Good b false p (⟨(b.drop p).take (q-p),0,0⟩::rest)
theorem good_lit{b:List UInt8}{i p:Nat}{rest:List Tok}(hip:i≤p)(hp:p≤b.length)(h:∀r,i≤r→r<p→(bestR b r).2=0)(hg:∀f,Good b f p rest):Good b false i (litT b i p++rest):=by
 unfold litT
 by_cases hlt:i<p
 ·rw[if_pos hlt]
  exact .run hlt hp h (hg true)
 ·obtain rfl:i=p:=by omega
  rw[if_neg hlt]
  exact hg false
theorem good_toks(b:List UInt8):∀(f p i:Nat),b.length≤p+f→i≤p→p≤b.length→(∀r,i≤r→r<p→(bestR b r).2=0)→Good b false i (toksF b f p i)
 | 0,p,i,h1,h2,h3,h4=>by
  obtain rfl:p=b.length:=by omega
  have:=good_lit (rest:=[]) h2 h3 h4 fun f=> .nil
  simpa [toksF] using this
 | f+1,p,i,h1,h2,h3,h4=>by
  simp only[toksF]
  by_cases hp:p<b.length
  ·rw[if_pos hp]
   by_cases hm:(bestR b p).2=0
   ·rw[if_pos hm]
    refine good_toks b f (p+1) i (by omega) (by omega) (by omega) fun r hr1 hr2=> ?_
    by_cases hrp:r=p
    ·rw[hrp];exact hm
    ·exact h4 r hr1 (by omega)
   ·rw[if_neg hm]
    have hroom:=(bestR_room b p).1
    refine good_lit h2 h3 h4 fun g=> .copy hp rfl hm ?_
    exact good_toks b f _ _ (by omega) (Nat.le_refl _) (by omega) fun r h1 h2=>by omega
  ·rw[if_neg hp]
   obtain rfl:p=b.length:=by omega
   have:=good_lit (rest:=[]) h2 h3 h4 fun f=> .nil
   simpa using this
theorem good_toksR(b:List UInt8):Good b false 0 (toksR b):=good_toks b b.length 0 0 (by omega) (Nat.le_refl _) (Nat.zero_le _) fun r h1 h2=>by omega
theorem toks_len(b:List UInt8):∀(f p i:Nat),(toksF b f p i).length≤2*f+1
 | 0,p,i=>by
  simp only[toksF,litT]
  split<;>simp
 | f+1,p,i=>by
  simp only[toksF]
  split
  ·split
   ·have:=toks_len b f (p+1) i;omega
   ·have:=toks_len b f (p+(bestR b p).2) (p+(bestR b p).2)
    simp only[List.length_append,List.length_cons,litT]
    split<;>simp<;>omega
  ·simp only[litT]
   split<;>simp
end Go.Proofs.YtmioakocnebceaaGreat
namespace Go.Bs
def varF:Nat→Nat→List UInt8
 | 0,x=>[UInt8.ofNat x]
 | f+1,x=>if x<128 then [UInt8.ofNat x] else UInt8.ofNat (128+x%128)::varF f (x/128)
def varB(x:Nat):List UInt8:=varF 9 x
theorem varF_more:∀(f g x:Nat),x<128^(f+1)→f≤g→varF f x=varF g x
 | 0,0,_,_,_=>rfl
 | 0,g+1,x,h,_=>by
  have:x<128:=by simpa using h
  simp[varF,this]
 | f+1,0,_,_,h=>by omega
 | f+1,g+1,x,h,hg=>by
  simp only[varF]
  split
  ·rfl
  ·rw[varF_more f g (x/128) (by rw[Nat.pow_succ] at h;omega) (by omega)]
theorem varB_small{x:Nat}(h:x<128):varB x=[UInt8.ofNat x]:=by simp[varB,varF,h]
theorem varB_step{x:Nat}(h:¬x<128)(hx:x<2^64):varB x=UInt8.ofNat (128+x%128)::varB (x/128):=by
 have e:varF 8 (x/128)=varF 9 (x/128):=varF_more 8 9 _ (by omega) (by omega)
 unfold varB
 rw[←e]
 simp[varF,h]
theorem varB_len(x:Nat):(varB x).length≤10∧1≤(varB x).length:=by
 have:∀f x,(varF f x).length≤f+1∧1≤(varF f x).length:=by
  intro f
  induction f with
  | zero=>intro x;simp[varF]
  | succ f ih=>intro x;simp only[varF];split<;>simp;exact (ih _).1
 exact this 9 x
end Go.Bs
namespace Go.Proofs.YtmioakocnebceaaGreat
open Go.RowKit Go.Bs Go.Maps
theorem varint_size(x:Nat)(hx:x<18446744073709551616)(w:World):
  Calls Tryz.prog 312 #[.int .u64 x] w fun r w'=>r=.returned (.int .i64 (varB x).length)∧Below w.heap.size w w':=by
 go_enter Tryz.func312,Tryz.ntmps312
 go_wp2_with fail
 go_loopw [0,3] (fun y n wr=>∃v k:Nat,y=.int .u64 v∧n=.int .i64 k∧v<18446744073709551616∧k≤10∧1≤k∧Hid ((varB x).length+1=k+(varB v).length)∧Below w.heap.size w wr) (fun y _ _=>(intOf y).toNat)
 case atStart=>exact ⟨x,1,rfl,rfl,hx,by omega,by omega,hid (by omega),Below.refl _ _⟩
 case round=>
  obtain⟨v,k,rfl,rfl,hv,hk,hk1,hs,hb⟩:=hrel
  by_cases h:v<128
  ·have d1:decide ((128:Int)≤(v:Int))=false:=by simp;omega
   have hf:Hid ((varB x).length=k):=hid (by have:=hs.out;rw[varB_small h] at this;simpa using this)
   go_wp2
   go_ret
   exact⟨by rw[hf.out];rfl,hb⟩
  ·have d1:decide ((128:Int)≤(v:Int))=true:=by simp;omega
   have hn:Hid ((varB x).length+1=k+1+(varB (v/128)).length):=hid (by have:=hs.out;rw[varB_step h (by omega)] at this;simp at this;omega)
   have hk10:k+1≤10:=by have:=hn.out;have:=varB_len x;have:=varB_len (v/128);omega
   go_wp2_with fail
   go_outline
   go_roundw
   case rel=>exact ⟨v/128,k+1,by go_num,by go_num,by omega,by omega,by omega,hn,hb⟩
   case measure=>simp [intOf];omega
end Go.Proofs.YtmioakocnebceaaGreat
namespace Go.Bs
open Go.RowKit
theorem own_new1{w:World}{base g:Nat}{e:TypeId}{v:Value}(hb:base≤g)(h:w.heap[g]? =some (.cells #[v] e (0,0))):w.ownsRow base e 1 (.slice (some ⟨g,0,none⟩) 1 1) 1 [v]:=
 ⟨rfl,.inr ⟨g,1,#[v],rfl,hb,h,Nat.le_refl _,by decide,rfl,rfl⟩⟩
theorem byteCells_snoc(J:List UInt8)(b:UInt8):byteCells J++[.int .u8 (b.toNat:Int)]=byteCells (J++[b]):=by simp[byteCells]
theorem byte_small{x:Nat}(h:x<256):(x:Int)=((UInt8.ofNat x).toNat:Int):=by
 simp;omega
theorem or128:∀n:Nat,n<256→bits .or .u8 (n:Int) 128=128+(n:Int)%128:=by decide+kernel
theorem or128b(v:Nat):bits .or .u8 ((v:Int)%256) 128=((UInt8.ofNat (128+v%128)).toNat:Int):=by
 have h:=or128 (v%256) (by omega)
 rw[show (((v%256:Nat)):Int)=(v:Int)%256 by omega] at h
 rw[h,←byte_small (by omega)]
 omega
end Go.Bs
namespace Go.Proofs.YtmioakocnebceaaGreat
open Go.RowKit Go.Bs Go.Maps
theorem varint_bytes(x:Nat)(hx:x<18446744073709551616)(w:World):
  Calls Tryz.prog 114 #[.int .u64 x] w fun r w'=>∃v,r=.returned v∧rBytes.r (fun b=>w.heap.size≤b∧b<w'.heap.size) w' [v] (varB x)∧Below w.heap.size w w':=by
 obtain⟨i0,hi,hz0,hz1,hz2⟩:=info_parts info8
 go_enter Tryz.func114,Tryz.ntmps114
 go_wp2_with fail
 go_loopw [0,3] (fun y o wr=>∃(v:Nat) (J:List UInt8),y=.int .u64 v∧v<18446744073709551616∧wr.ownsRow w.heap.size 5 1 o J.length (byteCells J)∧Hid (varB x=J++varB v)∧Below w.heap.size w wr) (fun y _ _=>(intOf y).toNat)
 case atStart=>exact ⟨x,[],rfl,hx,⟨rfl,.inl ⟨rfl,rfl⟩⟩,hid rfl,Below.refl _ _⟩
 case round=>
  obtain⟨v,J,rfl,hv,hown,hs,hb⟩:=hrel
  have hbs:=hb.size
  have hJ:J.length≤10:=by have h1:=varB_len x;rw[hs.out] at h1;simp at h1;omega
  obtain⟨aJ,cJ,rfl⟩:=own_form hown
  have HO:=hid hown
  clear hown
  by_cases h:v<128
  ·have d1:decide ((128:Int)≤(v:Int))=false:=by simp;omega
   have hfin:Hid (varB x=J++[UInt8.ofNat v]):=hid (by rw[hs.out,varB_small h])
   have hby:Hid ((v:Int)=((UInt8.ofNat v).toNat:Int)):=hid (byte_small (by omega))
   go_wp2_with (at_builtin;go_loud (refine wpList_append_src rfl _ _ _ rfl w.heap.size 5 i0 (.int .u8 0) 1 1 Tryz.underlying22 hi hz0 hz1 hz2 rfl (by decide) (.slice aJ J.length cJ) J.length (byteCells J) rfl (own_below HO.out (by (repeat (first | exact Below.refl _ _ | assumption | (refine below_alloc ?_ _) | (refine Below.setCell ?_ (by first | omega | (simp;done) | (simp;omega)) _) | (refine Below.drew ?_) | (refine below_drewN ?_ _) | (refine below_then (by assumption) ?_))))) (some ⟨wr.heap.size,0,none⟩) 1 1 [.int .u8 (v:Int)] rfl (src_new1 wr 5 _ rfl rfl rfl) (by intro u hu;simp at hu;subst hu;rfl) (by simp only[maxLen];omega) (by omega) (by simp;omega) ?_;intro v' w1 hown1 hgrow1 hat1;have HG:=hid hgrow1;have HO1:=hid hown1;clear hgrow1 hown1 hat1))
   have ho:=HO1.out
   rw[hby.out,byteCells_snoc,←hfin.out] at ho
   have hlen:J.length+1=(varB x).length:=by rw[hfin.out];simp
   have hV:=own_bytes2 hlen ho
   have hB:Below w.heap.size w w1:=Below.grown (by (repeat (first | exact Below.refl _ _ | assumption | (refine below_alloc ?_ _) | (refine Below.setCell ?_ (by first | omega | (simp;done) | (simp;omega)) _) | (refine Below.drew ?_) | (refine below_drewN ?_ _) | (refine below_then (by assumption) ?_)))) HG.out (by simp;omega) (fun g e=>(HO.out.lt g e).1)
   have HV:=hid hV
   clear ho hlen hV
   go_wp2
   go_ret
   exact⟨_,rfl,HV.out,hB⟩
  ·have d1:decide ((128:Int)≤(v:Int))=true:=by simp;omega
   have hfin:Hid (varB x=(J++[UInt8.ofNat (128+v%128)])++varB (v/128)):=hid (by rw[hs.out,varB_step h (by omega)];simp)
   have hor:=or128b v
   generalize UInt8.ofNat (128+v%128)=bb at*
   go_wp2_with (at_builtin;go_loud (refine wpList_append_src rfl _ _ _ rfl w.heap.size 5 i0 (.int .u8 0) 1 1 Tryz.underlying22 hi hz0 hz1 hz2 rfl (by decide) (.slice aJ J.length cJ) J.length (byteCells J) rfl (own_below HO.out (by (repeat (first | exact Below.refl _ _ | assumption | (refine below_alloc ?_ _) | (refine Below.setCell ?_ (by first | omega | (simp;done) | (simp;omega)) _) | (refine Below.drew ?_) | (refine below_drewN ?_ _) | (refine below_then (by assumption) ?_))))) (some ⟨wr.heap.size,0,none⟩) 1 1 [.int .u8 (bb.toNat:Int)] rfl (src_new1 wr 5 _ rfl rfl rfl) (by intro u hu;simp at hu;subst hu;rfl) (by simp only[maxLen];omega) (by omega) (by simp;omega) ?_;intro v' w1 hown1 hgrow1 hat1;have HG:=hid hgrow1;have HO1:=hid hown1;clear hgrow1 hown1 hat1))
   have ho:=HO1.out
   rw[byteCells_snoc] at ho
   have hB:Below w.heap.size w w1:=Below.grown (by (repeat (first | exact Below.refl _ _ | assumption | (refine below_alloc ?_ _) | (refine Below.setCell ?_ (by first | omega | (simp;done) | (simp;omega)) _) | (refine Below.drew ?_) | (refine below_drewN ?_ _) | (refine below_then (by assumption) ?_)))) HG.out (by simp;omega) (fun g e=>(HO.out.lt g e).1)
   have HO2:=hid ho
   clear ho HO1
   go_wp2_with fail
   go_roundw
   case rel=>exact ⟨v/128,J++[bb],by go_num,by omega,(by rw[List.length_append];exact HO2.out),hfin,hB⟩
   case measure=>simp [intOf];omega
structure PenAt(w:World)(g base most:Nat)(J:List UInt8)(a:Option Addr)(c:Nat):Prop where
 blk:Blk w g 280 #[.int .i64 most,.slice a J.length c,.int .i64 0]
 own:w.ownsRow base 5 1 (.slice a J.length c) J.length (byteCells J)
 ne:(Value.slice a J.length c).ownBlock≠some g
 lo:base≤g
 le:J.length≤most
 most:most≤4611686018427387904
 len:J.length≤100000000000000
def PenF(g:Nat)(a:Option Addr)(q:Nat):Prop:=q=g∨∃p,a=some p∧p.block=q
theorem own_slice{a:Option Addr}{n c:Nat}:(Value.slice a n c).ownBlock=a.map Addr.block:=by cases a<;>rfl
def PenStep(w:World)(g base most:Nat)(J':List UInt8)(a:Option Addr)(w':World):Prop:=
 ∃a' c',PenAt w' g base most J' a' c'∧Tch (PenF g a) w w'∧(a'.map Addr.block=a.map Addr.block∨∃q,a'.map Addr.block=some q∧w.heap.size≤q)
theorem PenStep.refl{w:World}{g base most:Nat}{J:List UInt8}{a:Option Addr}{c:Nat}(h:PenAt w g base most J a c):PenStep w g base most J a w:=⟨a,c,h,Tch.refl _ _,.inl rfl⟩
theorem penF_is{g:Nat}{a:Option Addr}{q:Nat}:PenF g a q↔q=g∨a.map Addr.block=some q:=by unfold PenF;simp
theorem PenStep.trans{w w1 w2:World}{g base most:Nat}{J J':List UInt8}{a a1:Option Addr}(h1:Tch (PenF g a) w w1)(h2:a1.map Addr.block=a.map Addr.block∨∃q,a1.map Addr.block=some q∧w.heap.size≤q)(k:PenStep w1 g base most J' a1 w2):PenStep w g base most J' a w2:=by
 obtain⟨a2,c2,k1,k2,k3⟩:=k
 have hs:=h1.size
 refine⟨a2,c2,k1,h1.trans k2 fun q hq e=> ?_,?_⟩
 ·rw[penF_is] at e ⊢
  rcases e with e | e
  ·exact .inl e
  ·rcases h2 with h2 | ⟨q',h2,h3⟩
   ·exact .inr (h2 ▸ e)
   ·rw[h2] at e;simp at e;omega
 ·rcases k3 with k3 | ⟨q,k3,k4⟩
  ·rcases h2 with h2 | ⟨q',h2,h3⟩
   ·exact .inl (k3.trans h2)
   ·exact .inr ⟨q',k3.trans h2,h3⟩
  ·exact .inr ⟨q,k3,by omega⟩
theorem PenStep.later{w w1 w2:World}{g base most:Nat}{J':List UInt8}{a:Option Addr}(h:Below w.heap.size w w1)(k:PenStep w1 g base most J' a w2):PenStep w g base most J' a w2:=PenStep.trans (J:=J') (Tch.of_later h) (.inl rfl) k
theorem PenAt.later{w w1:World}{g base most:Nat}{J:List UInt8}{a:Option Addr}{c:Nat}(h:PenAt w g base most J a c)(hb:Below w.heap.size w w1):PenAt w1 g base most J a c:=
 ⟨h.blk.later hb,own_below h.own hb,h.ne,h.lo,h.le,h.most,h.len⟩
theorem PenAt.new(w:World)(most:Nat)(hm:most≤4611686018427387904):PenAt (w.alloc (.cells #[.int .i64 most,.slice none 0 0,.int .i64 0] 280)) w.heap.size w.heap.size most [] none 0:=
 ⟨Blk.new w _ _,⟨rfl,.inl ⟨rfl,rfl⟩⟩,by simp[Value.ownBlock],Nat.le_refl _,Nat.zero_le _,hm,Nat.zero_le _⟩
theorem pen_code(w:World){g base most:Nat}{J:List UInt8}{a:Option Addr}{c:Nat}(h:PenAt w g base most J a c):
  Calls Tryz.prog 212 #[.pointer (some ⟨g,0,none⟩)] w fun r w'=>r=.returned (.int .i64 0)∧w=w':=by
 have c2:w.cell? ⟨g,2,none⟩=some (.int .i64 0):=h.blk.cell 2
 clear h
 go_enter Tryz.func212,Tryz.ntmps212
 go_wp2
 go_ret
 exact⟨rfl,rfl⟩
theorem pen_room(w:World){g base most:Nat}{J:List UInt8}{a:Option Addr}{c:Nat}(h:PenAt w g base most J a c):
  Calls Tryz.prog 316 #[.pointer (some ⟨g,0,none⟩)] w fun r w'=>r=.returned (.int .i64 ((most:Int)-J.length))∧Below w.heap.size w w':=by
 have C0:=fun s:Later w=>s.cell (h.blk.cell 0)
 have C1:=fun s:Later w=>s.cell (h.blk.cell 1)
 simp at C0 C1
 have hle:=h.le;have hmo:=h.most
 clear h
 go_enter Tryz.func316,Tryz.ntmps316
 go_wp2_with fail
 refine wp_region_later (by kernel_rfl) (by kernel_rfl) ?_
 repeat (go_big_quiet_step (fail))
 refine wpQuiet_nil ?_
 rintro W5 ⟨⟨W5',hb5⟩,rfl⟩
 go_wp2
 go_ret
 exact⟨by first | rfl | simp,hb5⟩
theorem pen_new(w:World)(most:Nat)(hm:most≤4611686018427387904):
  Calls Tryz.prog 106 #[.int .i64 most] w fun r w'=>r=.returned (.pointer (some ⟨w.heap.size,0,none⟩))∧PenAt w' w.heap.size w.heap.size most [] none 0∧Below w.heap.size w w':=by
 have hN:=hid (PenAt.new w most hm)
 have d1:max (most:Int) 0=most:=by omega
 have d2:(if (most:Int)<0 then (0:Int) else most)=most:=by rw[if_neg (by omega)]
 go_enter Tryz.func106,Tryz.ntmps106
 go_wp2
 go_ret
 exact⟨rfl,hN.out,by (repeat (first | exact Below.refl _ _ | assumption | (refine below_alloc ?_ _) | (refine Below.setCell ?_ (by first | omega | (simp;done) | (simp;omega)) _) | (refine Below.drew ?_) | (refine below_drewN ?_ _) | (refine below_then (by assumption) ?_)))⟩
theorem pen_next{w1 w2:World}{g base most:Nat}{J D:List UInt8}{a:Option Addr}{c:Nat}{a':Option Addr}{c':Nat}(h:PenAt w1 g base most J a c)(hfit:J.length+D.length≤most)(hlen:J.length+D.length≤100000000000000)
  (hown:w2.ownsRow base 5 1 (.slice a' (J.length+D.length) c') (J.length+D.length) (byteCells J++byteCells D)) (hgrow:w1.grownBy w2 (Value.slice a J.length c).ownBlock)
  (hat:(Value.slice a' (J.length+D.length) c').ownBlock=(Value.slice a J.length c).ownBlock∨(Value.slice a' (J.length+D.length) c').ownBlock=some w1.heap.size):
  PenStep w1 g base most (J++D) a (w2.setCell ⟨g,1,none⟩ (.slice a' (J.length+D.length) c')):=by
 have hg:=h.blk.lt
 have hs:=hgrow.size
 have hn2:(Value.slice a' (J.length+D.length) c').ownBlock≠some g:=fun e=>by
  rcases hat with h1 | h1
  ·rw[h1] at e;exact h.ne e
  ·rw[h1] at e;simp at e;omega
 have hsz:(w2.setCell ⟨g,1,none⟩ (.slice a' (J.length+D.length) c')).heap.size=w2.heap.size:=by simp[World.setCell]
 have hll:(J++D).length=J.length+D.length:=List.length_append
 have hbb:byteCells (J++D)=byteCells J++byteCells D:=by simp[byteCells]
 refine⟨a',c',⟨?_,?_,?_,h.lo,by omega,h.most,by omega⟩,?_,?_⟩
 ·rw[hll]
  exact (h.blk.grown hgrow (fun e=>h.ne e.symm)).set 1 _
 ·rw[hll,hbb]
  exact own_keep hown fun q hq=>Below.heap_setCell w2 _ _ q (fun e=>hn2 (by rw[hq,e]))
 ·rw[hll];exact hn2
 ·refine⟨hgrow.os,hgrow.tape,hgrow.output,by rw[hsz];exact hs,fun q hq hf=> ?_⟩
  rw[penF_is] at hf
  exact (Below.heap_setCell w2 _ _ q (fun e=>hf (.inl e))).trans (hgrow.block q hq (fun e=>hf (.inr (by rw[own_slice] at e;exact e.symm))))
 ·rw[own_slice,own_slice] at hat
  rcases hat with h1 | h1
  ·exact .inl h1
  ·exact .inr ⟨_,h1,Nat.le_refl _⟩
theorem pen_put(w:World){g base most:Nat}{J:List UInt8}{a:Option Addr}{c:Nat}(h:PenAt w g base most J a c)(D:List UInt8)(ad:Option Addr)(nd cd:Nat)(hD:rBytes.r (·<w.heap.size) w [.slice ad nd cd] D)(hfit:J.length+D.length≤most)(hlen:J.length+D.length≤100000000000000):
  Calls Tryz.prog 211 #[.pointer (some ⟨g,0,none⟩),.slice ad nd cd] w fun r w'=>r=.returned (.tuple #[])∧PenStep w g base most (J++D) a w':=by
 obtain⟨rfl,hm,_,_⟩:=sl_len hD
 obtain⟨i0,hi,hz0,hz1,hz2⟩:=info_parts info8
 have HC:=hid (pen_code w h)
 have HR:=hid (pen_room w h)
 have HP:=hid h
 have HD:=hid hD
 have HONE:=hid (byteCells_one D)
 have hmo:=h.most
 have d1:decide ((most:Int)-(J.length:Int)<(D.length:Int))=false:=by simp;omega
 clear h hD
 go_enter Tryz.func211,Tryz.ntmps211
 go_wp2_with fail
 refine HC.out.mono ?_
 rintro r w0 ⟨rfl,rfl⟩
 go_wp2_with fail
 refine HR.out.mono ?_
 rintro r w1 ⟨rfl,hb1⟩
 have hP1:=HP.out.later hb1
 have c1:w1.cell? ⟨g,1,none⟩=some (.slice a J.length c):=hP1.blk.cell 1
 have hg1:=hP1.blk.lt
 have f1:=hP1.blk.free 1
 have hne:=hP1.ne
 have hlo:=hP1.lo
 have HP1:=hid hP1
 have HS:=hid (src_bytes (lift HD.out hb1))
 clear hP1
 go_wp2_with (at_builtin;go_loud (refine wpList_append_src rfl _ _ _ rfl base 5 i0 (.int .u8 0) 1 1 Tryz.underlying22 hi hz0 hz1 hz2 rfl (by decide) (.slice a J.length c) J.length (byteCells J) rfl HP1.out.own ad D.length cd (byteCells D) rfl HS.out HONE.out (by simp only[maxLen];omega) (by omega) (by omega) ?_;intro v' w2 hown2 hgrow2 hat2;obtain⟨a',c',rfl⟩:=own_form hown2;have f2:=(World.frozen?_of_block (a:=⟨g,1,none⟩) (hgrow2.block g hg1 (fun e=>hne e.symm))).trans f1;have e2:=(World.cell?_of_block (a:=⟨g,1,none⟩) (hgrow2.block g hg1 (fun e=>hne e.symm))).trans c1;have hz2':g<w2.heap.size:=Nat.lt_of_lt_of_le hg1 hgrow2.size;have HG:=hid hgrow2;have HO:=hid hown2;have HAT:=hid hat2;clear hgrow2 hown2 hat2))
 have hst:=PenStep.later hb1 (pen_next HP1.out hfit hlen HO.out HG.out HAT.out)
 have HST:=hid hst
 clear hst
 go_wp2
 go_end0
 exact⟨rfl,HST.out⟩
theorem pen_bytes(w:World){g base most:Nat}{J:List UInt8}{a:Option Addr}{c:Nat}(h:PenAt w g base most J a c):
  Calls Tryz.prog 110 #[.pointer (some ⟨g,0,none⟩)] w fun r w'=>∃v,r=.returned (.tuple #[v,.int .i64 0])∧rBytes.r (fun q=>w.heap.size≤q∧q<w'.heap.size) w' [v] J∧Below w.heap.size w w':=by
 obtain⟨i0,hi,hz0,hz1,hz2⟩:=info_parts info8
 have HC:=hid (pen_code w h)
 have hB:=own_bytes2 rfl h.own
 obtain⟨_,hm,_,_⟩:=sl_len hB
 have HD:=hid (rBytes.mono hB (S':=(·<w.heap.size)) fun q hq=>hq.2)
 have HONE:=hid (byteCells_one J)
 have c1:w.cell? ⟨g,1,none⟩=some (.slice a J.length c):=h.blk.cell 1
 have hg1:=h.blk.lt
 have hle:=h.le;have hmo:=h.most;have hle14:=h.len
 clear h hB
 go_enter Tryz.func110,Tryz.ntmps110
 go_wp2_with fail
 refine HC.out.mono ?_
 rintro r w0 ⟨rfl,rfl⟩
 go_wp2_with (at_builtin;go_loud (refine wpList_append_src rfl _ _ _ rfl w.heap.size 5 i0 (.int .u8 0) 1 1 Tryz.underlying22 hi hz0 hz1 hz2 rfl (by decide) _ 0 [] rfl (own_empty _ (Nat.le_refl _) rfl) a J.length c (byteCells J) rfl (src_bytes (lift HD.out (by (repeat (first | exact Below.refl _ _ | assumption | (refine below_alloc ?_ _) | (refine Below.setCell ?_ (by first | omega | (simp;done) | (simp;omega)) _) | (refine Below.drew ?_) | (refine below_drewN ?_ _) | (refine below_then (by assumption) ?_)))))) HONE.out (by simp only[maxLen];omega) (by omega) (by simp) ?_;intro v' w1 hown1 hgrow1 hat1;rw[Nat.zero_add,List.nil_append] at hown1;obtain⟨a',c',rfl⟩:=own_form hown1;have HG:=hid hgrow1;have HO:=hid hown1;clear hgrow1 hown1 hat1))
 have hA:=own_bytes2 rfl HO.out
 have hb1:Below w.heap.size w w1:=Below.grown (by (repeat (first | exact Below.refl _ _ | assumption | (refine below_alloc ?_ _) | (refine Below.setCell ?_ (by first | omega | (simp;done) | (simp;omega)) _) | (refine Below.drew ?_) | (refine below_drewN ?_ _) | (refine below_then (by assumption) ?_)))) HG.out (by simp) (fun g e=>by
  have e':some w.heap.size=some g:=e
  injection e' with e'
  omega)
 have HA:=hid hA
 clear hA
 go_ret2
 exact⟨_,rfl,HA.out,hb1⟩
def rightB(t:Tok):Bool:=runB t || copyB t
theorem token_right(x:Tok)(a:Option Addr)(c:Nat)(w:World)(hl:x.lit.length≤9223372036854775807)(h1: -9223372036854775808≤x.off∧x.off≤9223372036854775807)(h2: -9223372036854775808≤x.len∧x.len≤9223372036854775807):
  Calls Tryz.prog 423 #[.agg #[.slice a x.lit.length c,.int .i64 x.off,.int .i64 x.len]] w fun r w'=>r=.returned (.bool (rightB x))∧Below w.heap.size w w':=by
 obtain⟨D,o,m⟩:=x
 dsimp only at*
 by_cases k0:o=0
 ·skip
  have k0_0:(o==0)=true:=beq_iff_eq.2 (by omega)
  by_cases k1:m=0
  ·skip
   have k1_0:(m==0)=true:=beq_iff_eq.2 (by omega)
   by_cases k2:1≤D.length
   ·skip
    have k2_0:decide ((1:Int)≤(D.length:Int))=true:=decide_eq_true (by omega)
    have k2_1:decide (1≤D.length)=true:=decide_eq_true (by omega)
    by_cases k3:D.length≤1048576
    ·skip
     have k3_0:decide ((D.length:Int)≤1048576)=true:=decide_eq_true (by omega)
     have k3_1:decide (D.length≤1048576)=true:=decide_eq_true (by omega)
     have hff:Hid (rightB ⟨D,o,m⟩=true):=hid (by simp only[rightB,runB,copyB,Bool.or_eq_true,Bool.and_eq_true,decide_eq_true_eq];first | omega | (simp;omega))
     clear hl h1 h2
     go_enter Tryz.func423,Tryz.ntmps423
     go_wp2
     go_ret
     exact⟨by rw[hff.out];rfl,by (repeat (first | exact Below.refl _ _ | assumption | (refine below_alloc ?_ _) | (refine Below.setCell ?_ (by first | omega | (simp;done) | (simp;omega)) _) | (refine Below.drew ?_) | (refine below_drewN ?_ _) | (refine below_then (by assumption) ?_)))⟩
    ·skip
     have k3_0:decide ((D.length:Int)≤1048576)=false:=decide_eq_false (by omega)
     have k3_1:decide (D.length≤1048576)=false:=decide_eq_false (by omega)
     have hff:Hid (rightB ⟨D,o,m⟩=false):=hid (by rw[←Bool.not_eq_true];simp only[rightB,runB,copyB,Bool.or_eq_true,Bool.and_eq_true,decide_eq_true_eq];first | omega | (simp;omega))
     clear hl h1 h2
     go_enter Tryz.func423,Tryz.ntmps423
     go_wp2
     go_ret
     exact⟨by rw[hff.out];rfl,by (repeat (first | exact Below.refl _ _ | assumption | (refine below_alloc ?_ _) | (refine Below.setCell ?_ (by first | omega | (simp;done) | (simp;omega)) _) | (refine Below.drew ?_) | (refine below_drewN ?_ _) | (refine below_then (by assumption) ?_)))⟩
   ·skip
    have k2_0:decide ((1:Int)≤(D.length:Int))=false:=decide_eq_false (by omega)
    have k2_1:decide (1≤D.length)=false:=decide_eq_false (by omega)
    have hff:Hid (rightB ⟨D,o,m⟩=false):=hid (by rw[←Bool.not_eq_true];simp only[rightB,runB,copyB,Bool.or_eq_true,Bool.and_eq_true,decide_eq_true_eq];first | omega | (simp;omega))
    clear hl h1 h2
    go_enter Tryz.func423,Tryz.ntmps423
    go_wp2
    go_ret
    exact⟨by rw[hff.out];rfl,by (repeat (first | exact Below.refl _ _ | assumption | (refine below_alloc ?_ _) | (refine Below.setCell ?_ (by first | omega | (simp;done) | (simp;omega)) _) | (refine Below.drew ?_) | (refine below_drewN ?_ _) | (refine below_then (by assumption) ?_)))⟩
  ·skip
   have k1_0:(m==0)=false:=beq_eq_false_iff_ne.2 (by omega)
   have hff:Hid (rightB ⟨D,o,m⟩=false):=hid (by rw[←Bool.not_eq_true];simp only[rightB,runB,copyB,Bool.or_eq_true,Bool.and_eq_true,decide_eq_true_eq];first | omega | (simp;omega))
   clear hl h1 h2
   go_enter Tryz.func423,Tryz.ntmps423
   go_wp2
   go_ret
   exact⟨by rw[hff.out];rfl,by (repeat (first | exact Below.refl _ _ | assumption | (refine below_alloc ?_ _) | (refine Below.setCell ?_ (by first | omega | (simp;done) | (simp;omega)) _) | (refine Below.drew ?_) | (refine below_drewN ?_ _) | (refine below_then (by assumption) ?_)))⟩
 ·skip
  have k0_0:(o==0)=false:=beq_eq_false_iff_ne.2 (by omega)
  by_cases k4:0<D.length
  ·skip
   have k4_0:decide ((0:Int)<(D.length:Int))=true:=decide_eq_true (by omega)
   have k4_1:decide (0<D.length)=true:=decide_eq_true (by omega)
   have hff:Hid (rightB ⟨D,o,m⟩=false):=hid (by rw[←Bool.not_eq_true];simp only[rightB,runB,copyB,Bool.or_eq_true,Bool.and_eq_true,decide_eq_true_eq];first | omega | (simp;omega))
   clear hl h1 h2
   go_enter Tryz.func423,Tryz.ntmps423
   go_wp2
   go_ret
   exact⟨by rw[hff.out];rfl,by (repeat (first | exact Below.refl _ _ | assumption | (refine below_alloc ?_ _) | (refine Below.setCell ?_ (by first | omega | (simp;done) | (simp;omega)) _) | (refine Below.drew ?_) | (refine below_drewN ?_ _) | (refine below_then (by assumption) ?_)))⟩
  ·skip
   obtain rfl:D=[]:=List.eq_nil_of_length_eq_zero (by omega)
   simp only[List.length_nil] at*
   by_cases k5:o<0
   ·skip
    have k5_0:decide (o<0)=true:=decide_eq_true (by omega)
    have hff:Hid (rightB ⟨[],o,m⟩=false):=hid (by rw[←Bool.not_eq_true];simp only[rightB,runB,copyB,Bool.or_eq_true,Bool.and_eq_true,decide_eq_true_eq,List.length_nil];first | omega | (simp;omega))
    clear hl h1 h2
    go_enter Tryz.func423,Tryz.ntmps423
    go_wp2
    go_ret
    exact⟨by rw[hff.out];rfl,by (repeat (first | exact Below.refl _ _ | assumption | (refine below_alloc ?_ _) | (refine Below.setCell ?_ (by first | omega | (simp;done) | (simp;omega)) _) | (refine Below.drew ?_) | (refine below_drewN ?_ _) | (refine below_then (by assumption) ?_)))⟩
   ·skip
    have k5_0:decide (o<0)=false:=decide_eq_false (by omega)
    by_cases k6:65536<o
    ·skip
     have k6_0:decide ((65536:Int)<o)=true:=decide_eq_true (by omega)
     have hff:Hid (rightB ⟨[],o,m⟩=false):=hid (by rw[←Bool.not_eq_true];simp only[rightB,runB,copyB,Bool.or_eq_true,Bool.and_eq_true,decide_eq_true_eq,List.length_nil];first | omega | (simp;omega))
     clear hl h1 h2
     go_enter Tryz.func423,Tryz.ntmps423
     go_wp2
     go_ret
     exact⟨by rw[hff.out];rfl,by (repeat (first | exact Below.refl _ _ | assumption | (refine below_alloc ?_ _) | (refine Below.setCell ?_ (by first | omega | (simp;done) | (simp;omega)) _) | (refine Below.drew ?_) | (refine below_drewN ?_ _) | (refine below_then (by assumption) ?_)))⟩
    ·skip
     have k6_0:decide ((65536:Int)<o)=false:=decide_eq_false (by omega)
     by_cases k7:4≤m
     ·skip
      have k7_0:decide ((4:Int)≤m)=true:=decide_eq_true (by omega)
      by_cases k8:m≤1048576
      ·skip
       have k8_0:decide (m≤1048576)=true:=decide_eq_true (by omega)
       have hff:Hid (rightB ⟨[],o,m⟩=true):=hid (by simp only[rightB,runB,copyB,Bool.or_eq_true,Bool.and_eq_true,decide_eq_true_eq,List.length_nil];first | omega | (simp;omega))
       clear hl h1 h2
       go_enter Tryz.func423,Tryz.ntmps423
       go_wp2
       go_ret
       exact⟨by rw[hff.out];rfl,by (repeat (first | exact Below.refl _ _ | assumption | (refine below_alloc ?_ _) | (refine Below.setCell ?_ (by first | omega | (simp;done) | (simp;omega)) _) | (refine Below.drew ?_) | (refine below_drewN ?_ _) | (refine below_then (by assumption) ?_)))⟩
      ·skip
       have k8_0:decide (m≤1048576)=false:=decide_eq_false (by omega)
       have hff:Hid (rightB ⟨[],o,m⟩=false):=hid (by rw[←Bool.not_eq_true];simp only[rightB,runB,copyB,Bool.or_eq_true,Bool.and_eq_true,decide_eq_true_eq,List.length_nil];first | omega | (simp;omega))
       clear hl h1 h2
       go_enter Tryz.func423,Tryz.ntmps423
       go_wp2
       go_ret
       exact⟨by rw[hff.out];rfl,by (repeat (first | exact Below.refl _ _ | assumption | (refine below_alloc ?_ _) | (refine Below.setCell ?_ (by first | omega | (simp;done) | (simp;omega)) _) | (refine Below.drew ?_) | (refine below_drewN ?_ _) | (refine below_then (by assumption) ?_)))⟩
     ·skip
      have k7_0:decide ((4:Int)≤m)=false:=decide_eq_false (by omega)
      have hff:Hid (rightB ⟨[],o,m⟩=false):=hid (by rw[←Bool.not_eq_true];simp only[rightB,runB,copyB,Bool.or_eq_true,Bool.and_eq_true,decide_eq_true_eq,List.length_nil];first | omega | (simp;omega))
      clear hl h1 h2
      go_enter Tryz.func423,Tryz.ntmps423
      go_wp2
      go_ret
      exact⟨by rw[hff.out];rfl,by (repeat (first | exact Below.refl _ _ | assumption | (refine below_alloc ?_ _) | (refine Below.setCell ?_ (by first | omega | (simp;done) | (simp;omega)) _) | (refine Below.drew ?_) | (refine below_drewN ?_ _) | (refine below_then (by assumption) ?_)))⟩
theorem varint_put(w:World){g base most:Nat}{J:List UInt8}{a:Option Addr}{c:Nat}(h:PenAt w g base most J a c)(x:Nat)(hx:x<18446744073709551616)(hfit:J.length+(varB x).length≤most)(hlen:J.length+(varB x).length≤100000000000000):
  Calls Tryz.prog 108 #[.pointer (some ⟨g,0,none⟩),.int .u64 x] w fun r w'=>r=.returned (.tuple #[])∧PenStep w g base most (J++varB x) a w':=by
 have HV:=hid (varint_bytes x hx w)
 have HP:=hid h
 clear h
 go_enter Tryz.func108,Tryz.ntmps108
 go_wp2_with fail
 refine HV.out.mono ?_
 rintro r w1 ⟨v,rfl,hr,hb1⟩
 obtain⟨a1,c1,hv,hr2,_⟩:=sl_form hr
 simp only[List.cons.injEq,and_true] at hv
 subst hv
 have HQ:=hid (pen_put w1 (HP.out.later hb1) (varB x) a1 _ c1 (rBytes.mono hr2 fun q hq=>hq.2) hfit hlen)
 clear hr hr2
 go_wp2_with fail
 refine HQ.out.mono ?_
 rintro r w2 ⟨rfl,hst⟩
 have HST:=hid (PenStep.later hb1 hst)
 clear hst
 go_wp2
 first | go_end0 | refine bodyPost_ret (results_none rfl _ _ _) rfl ?_
 exact⟨rfl,HST.out⟩
def tokB(t:Tok):List UInt8:=if runB t then varB (2*t.lit.length-2)++t.lit else varB (2*t.len.toNat-7)++varB (t.off.toNat-1)
theorem tokB_run(D:List UInt8)(h1:1≤D.length)(h2:D.length≤1048576):tokB ⟨D,0,0⟩=varB (2*D.length-2)++D:=by
 unfold tokB
 rw[if_pos]
 simp[runB];omega
theorem tokB_copy(o m:Nat)(h1:1≤o):tokB ⟨[],(o:Int),(m:Int)⟩=varB (2*m-7)++varB (o-1):=by
 unfold tokB
 rw[if_neg]
 ·simp
 ·simp[runB]
theorem PenAt.own_lt{w:World}{g base most:Nat}{J:List UInt8}{a:Option Addr}{c:Nat}(h:PenAt w g base most J a c){q:Nat}(hq:PenF g a q):base≤q∧q<w.heap.size:=by
 rcases hq with rfl | ⟨p,hp,rfl⟩
 ·exact⟨h.lo,h.blk.lt⟩
 ·subst hp
  exact h.own.lt _ rfl
theorem token_put_run(w:World){g base most:Nat}{J:List UInt8}{a:Option Addr}{c:Nat}(h:PenAt w g base most J a c)(D:List UInt8)(h1:1≤D.length)(h2:D.length≤1048576)(ad:Option Addr)(cd:Nat)
  (hD:rBytes.r (fun q=>q<w.heap.size∧¬PenF g a q) w [.slice ad D.length cd] D) (hfit:J.length+(tokB ⟨D,0,0⟩).length≤most) (hlen:J.length+(tokB ⟨D,0,0⟩).length≤100000000000000):
  Calls Tryz.prog 417 #[.pointer (some ⟨g,0,none⟩),.agg #[.slice ad D.length cd,.int .i64 0,.int .i64 0]] w fun r w'=>r=.returned (.tuple #[])∧PenStep w g base most (J++tokB ⟨D,0,0⟩) a w':=by
 have HR:=hid (fun (W:World)=>token_right ⟨D,0,0⟩ ad cd W (by dsimp only;omega) ⟨by simp,by simp⟩ ⟨by simp,by simp⟩)
 have hr:rightB ⟨D,0,0⟩=true:=by simp[rightB,runB];omega
 rw[hr] at HR
 have hT:=tokB_run D h1 h2
 rw[hT] at hfit hlen ⊢
 rw[List.length_append] at hfit hlen
 have HV:=hid (fun (W:World) (hW:Below w.heap.size w W)=>varint_put W (h.later hW) (2*D.length-2) (by omega) (by omega) (by omega))
 have hno:=fun q (hq:PenF g a q)=>(h.own_lt hq).2
 have HNO:=hid hno
 have HD:=hid hD
 have hfit':=hid hfit;have hlen':=hid hlen
 have e0:(((2*D.length-2:Nat)):Int)=((D.length:Int)-1)*2:=by omega
 rw[e0] at HV
 clear hr hT h hD hno hfit hlen
 go_enter Tryz.func417,Tryz.ntmps417
 go_wp2_with fail
 refine (HR.out _).mono ?_
 rintro r w1 ⟨rfl,hb1⟩
 have B1:Blk w1 w.heap.size 414 #[.slice ad D.length cd,.int .i64 0,.int .i64 0]:=(Blk.new w _ _).later hb1
 have x0:w1.cell? ⟨w.heap.size,0,none⟩=some (.slice ad D.length cd):=B1.cell 0
 have x1:w1.cell? ⟨w.heap.size,1,none⟩=some (.int .i64 0):=B1.cell 1
 have hbw1:Below w.heap.size w w1:=by (repeat (first | exact Below.refl _ _ | assumption | (refine below_alloc ?_ _) | (refine Below.setCell ?_ (by first | omega | (simp;done) | (simp;omega)) _) | (refine Below.drew ?_) | (refine below_drewN ?_ _) | (refine below_then (by assumption) ?_)))
 go_wp2_with fail
 refine (HV.out _ hbw1).mono ?_
 rintro r w2 ⟨rfl,a2,c2,hp2,ht2,ha2⟩
 have B2:=B1.tch ht2 (fun hf=>by have:=HNO.out _ hf;omega)
 have y0:w2.cell? ⟨w.heap.size,0,none⟩=some (.slice ad D.length cd):=B2.cell 0
 have hs1:=hbw1.size
 have hD2:rBytes.r (·<w2.heap.size) w2 [.slice ad D.length cd] D:=rBytes.mono (rBytes.keep HD.out fun q hq=>(ht2.block q (by omega) hq.2).trans (hbw1.block q hq.1)) fun q hq=>Nat.lt_of_lt_of_le hq.1 (by have:=ht2.size;omega)
 have HQ:=hid (pen_put w2 hp2 D ad _ cd hD2 (by rw[List.length_append];have:=hfit'.out;omega) (by rw[List.length_append];have:=hlen'.out;omega))
 clear x0 x1 hD2
 go_wp2_with fail
 refine HQ.out.mono ?_
 rintro r w3 ⟨rfl,hst⟩
 have hst2:=PenStep.later hbw1 (PenStep.trans (J:=J) ht2 ha2 hst)
 rw[List.append_assoc] at hst2
 have HST:=hid hst2
 clear hst hst2
 go_wp2
 first | go_end0 | refine bodyPost_ret (results_none rfl _ _ _) rfl ?_
 exact⟨rfl,HST.out⟩
theorem token_put_copy(w:World){g base most:Nat}{J:List UInt8}{a:Option Addr}{c:Nat}(h:PenAt w g base most J a c)(o m:Nat)(h1:1≤o)(h2:o≤65536)(h3:4≤m)(h4:m≤1048576)(ad:Option Addr)(cd:Nat)
  (hfit:J.length+(tokB ⟨[],(o:Int),(m:Int)⟩).length≤most) (hlen:J.length+(tokB ⟨[],(o:Int),(m:Int)⟩).length≤100000000000000):
  Calls Tryz.prog 417 #[.pointer (some ⟨g,0,none⟩),.agg #[.slice ad 0 cd,.int .i64 o,.int .i64 m]] w fun r w'=>r=.returned (.tuple #[])∧PenStep w g base most (J++tokB ⟨[],(o:Int),(m:Int)⟩) a w':=by
 have HR:=hid (fun (W:World)=>token_right ⟨[],(o:Int),(m:Int)⟩ ad cd W (by simp) (by dsimp only;omega) (by dsimp only;omega))
 have hr:rightB ⟨[],(o:Int),(m:Int)⟩=true:=by simp[rightB,copyB];omega
 rw[hr] at HR
 have hT:=tokB_copy o m h1
 rw[hT] at hfit hlen ⊢
 rw[List.length_append] at hfit hlen
 have HV:=hid (fun (W:World) (hW:Below w.heap.size w W)=>varint_put W (h.later hW) (2*m-7) (by omega) (by omega) (by omega))
 have hno:=fun q (hq:PenF g a q)=>(h.own_lt hq).2
 have HNO:=hid hno
 have hfit':=hid hfit;have hlen':=hid hlen
 have e0:(((2*m-7:Nat)):Int)=((m:Int)-4)*2+1:=by omega
 rw[e0] at HV
 have d1:((o:Int)==0)=false:=by simp;omega
 have d2:(o==0)=false:=by simp;omega
 simp only[List.length_nil] at HR
 clear hr hT h hno hfit hlen
 go_enter Tryz.func417,Tryz.ntmps417
 go_wp2_with fail
 refine (HR.out _).mono ?_
 rintro r w1 ⟨rfl,hb1⟩
 have B1:Blk w1 w.heap.size 414 #[.slice ad 0 cd,.int .i64 o,.int .i64 m]:=(Blk.new w _ _).later hb1
 have x1:w1.cell? ⟨w.heap.size,1,none⟩=some (.int .i64 o):=B1.cell 1
 have x2:w1.cell? ⟨w.heap.size,2,none⟩=some (.int .i64 m):=B1.cell 2
 have hbw1:Below w.heap.size w w1:=by (repeat (first | exact Below.refl _ _ | assumption | (refine below_alloc ?_ _) | (refine Below.setCell ?_ (by first | omega | (simp;done) | (simp;omega)) _) | (refine Below.drew ?_) | (refine below_drewN ?_ _) | (refine below_then (by assumption) ?_)))
 go_wp2_with fail
 refine (HV.out _ hbw1).mono ?_
 rintro r w2 ⟨rfl,a2,c2,hp2,ht2,ha2⟩
 have B2:=B1.tch ht2 (fun hf=>by have:=HNO.out _ hf;omega)
 have y1:w2.cell? ⟨w.heap.size,1,none⟩=some (.int .i64 o):=B2.cell 1
 have HQ:=hid (varint_put w2 hp2 (o-1) (by omega) (by rw[List.length_append];have:=hfit'.out;omega) (by rw[List.length_append];have:=hlen'.out;omega))
 rw[show ((o-1:Nat):Int)=(o:Int)-1 by omega] at HQ
 clear x1 x2
 go_wp2_with fail
 refine HQ.out.mono ?_
 rintro r w3 ⟨rfl,hst⟩
 have hst2:=PenStep.later hbw1 (PenStep.trans (J:=J) ht2 ha2 hst)
 rw[List.append_assoc] at hst2
 have HST:=hid hst2
 clear hst hst2
 go_wp2
 first | go_end0 | refine bodyPost_ret (results_none rfl _ _ _) rfl ?_
 exact⟨rfl,HST.out⟩
def roomT(xs:List Tok):Nat:=(xs.map fun t=>t.lit.length+20).sum
def tokensB(xs:List Tok):List UInt8:=(xs.map tokB).flatten
theorem roomT_step(xs:List Tok)(k:Nat)(h:k<xs.length):roomT (xs.take (k+1))=roomT (xs.take k)+(xs[k].lit.length+20):=by
 unfold roomT
 rw[List.take_succ_eq_append_getElem h,List.map_append,List.sum_append];simp
theorem tokensB_step(xs:List Tok)(k:Nat)(h:k<xs.length):tokensB (xs.take (k+1))=tokensB (xs.take k)++tokB xs[k]:=by
 unfold tokensB
 rw[List.take_succ_eq_append_getElem h,List.map_append,List.flatten_append];simp
theorem roomT_le(xs:List Tok)(hL:∀t∈xs,t.lit.length≤1048576)(k:Nat)(hk:k≤xs.length):roomT (xs.take k)≤k*1048596:=by
 induction k with
 | zero=>simp [roomT]
 | succ k ih=>
  rw[roomT_step xs k (by omega)]
  have:=ih (by omega)
  have:=hL _ (List.getElem_mem (show k<xs.length by omega))
  omega
theorem roomT_mono(xs:List Tok)(k:Nat):roomT (xs.take k)≤roomT xs:=by
 have:roomT xs=roomT (xs.take k)+roomT (xs.drop k):=by
  unfold roomT
  conv=>lhs;rw[←List.take_append_drop k xs]
  rw[List.map_append,List.sum_append]
 omega
theorem tokB_len(t:Tok):(tokB t).length≤t.lit.length+20:=by
 unfold tokB
 split
 ·rw[List.length_append];have:=varB_len (2*t.lit.length-2);omega
 ·rw[List.length_append];have:=varB_len (2*t.len.toNat-7);have:=varB_len (t.off.toNat-1);omega
theorem tokensB_len(xs:List Tok):(tokensB xs).length≤roomT xs:=by
 unfold tokensB roomT
 induction xs with
 | nil=>simp
 | cons t xs ih=>simp only[List.map_cons,List.flatten_cons,List.length_append,List.sum_cons];have:=tokB_len t;omega
theorem varB_most:(varB 18446744073709551615).length=10:=by decide+kernel
theorem right_forms{t:Tok}(h:rightB t=true):(∃D,t=⟨D,0,0⟩∧1≤D.length∧D.length≤1048576)∨∃o m:Nat,t=⟨[],(o:Int),(m:Int)⟩∧1≤o∧o≤65536∧4≤m∧m≤1048576:=by
 obtain⟨D,o,m⟩:=t
 simp only[rightB,runB,copyB,Bool.or_eq_true,Bool.and_eq_true,decide_eq_true_eq] at h
 rcases h with ⟨rfl,rfl,h1,h2⟩ | ⟨h0,h1,h2,h3,h4⟩
 ·exact .inl ⟨D,rfl,h1,h2⟩
 ·refine .inr ⟨o.toNat,m.toNat,?_,by omega,by omega,by omega,by omega⟩
  rw[List.eq_nil_of_length_eq_zero h0,Int.toNat_of_nonneg (by omega),Int.toNat_of_nonneg (by omega)]
theorem token_room(xs:List Tok)(a:Option Addr)(n c:Nat)(w:World)(hl:rToks.r (·<w.heap.size) w [.slice a n c] xs)(hx:xs.length≤10000000)(hL:∀t∈xs,t.lit.length≤1048576):
  Calls Tryz.prog 416 #[.slice a n c] w fun r w'=>r=.returned (.int .i64 (roomT xs))∧Below w.heap.size w w':=by
 obtain⟨rfl,hm,_,_⟩:=sl_len hl
 have HL:=hid hl;clear hl
 go_enter Tryz.func416,Tryz.ntmps416
 go_wp2_with fail
 go_loopw [3,8] (fun s i wr=>∃k:Nat,k≤xs.length∧i=.int .i64 k∧(∃t:Nat,s=.int .i64 t∧Hid (t=roomT (xs.take k)))∧Below w.heap.size w wr) (fun _ i _=>xs.length-(intOf i).toNat)
 case atStart=>exact ⟨0,Nat.zero_le _,rfl,⟨0,rfl,hid (by simp[roomT])⟩,Below.refl _ _⟩
 case round=>
  obtain⟨k,hk,rfl,⟨t,rfl,ht⟩,hb⟩:=hrel
  rcases Nat.lt_or_ge k xs.length with hlt | hge
  ·obtain⟨b,o,hA,hbb,a2,c2,x0,x1,x2,_,_,_⟩:=tok_at HL.out hlt
   subst hA
   have X0:=(hb.cell (p:=⟨b,o+k*3,none⟩) hbb).trans x0
   have X1:=(hb.cell (p:=⟨b,o+k*3+1,none⟩) hbb).trans x1
   have X2:=(hb.cell (p:=⟨b,o+k*3+2,none⟩) hbb).trans x2
   have hn:=hid (roomT_step xs k hlt)
   have hle:=roomT_le xs hL k (by omega)
   have hD:=hL _ (List.getElem_mem hlt)
   rw[←ht.out] at hle
   clear x0 x1 x2
   generalize xs[k]=y at*
   obtain⟨D,yo,ym⟩:=y
   dsimp only at*
   have hbs:=hb.size
   have i1:(k:Int)<(xs.length:Int):=by omega
   go_wp2_with fail
   refine wp_world (fun W=>Below wr.heap.size wr W∧wr.heap.size<W.heap.size∧W.cell? ⟨wr.heap.size,0,none⟩=some (.slice a2 D.length c2)) ⟨by (repeat (first | exact Below.refl _ _ | assumption | (refine below_alloc ?_ _) | (refine Below.setCell ?_ (by first | omega | (simp;done) | (simp;omega)) _) | (refine Below.drew ?_) | (refine below_drewN ?_ _) | (refine below_then (by assumption) ?_))),by simp,by go_simp⟩ ?_
   intro W ⟨hbW,hzW,u0⟩
   have U0:=fun s:Later W=>s.cell u0
   have HS:=hid (fun s:Later W=>varint_size 18446744073709551615 (by omega) s.at_)
   rw[varB_most] at HS
   have hbw:=below_then hbW hb
   clear X0 X1 X2 u0
   refine wp_region_later (by kernel_rfl) (by kernel_rfl) ?_
   repeat (go_big_quiet_step (((go_at_call 312;exact later_of (HS.out _)))))
   refine wpQuiet_nil ?_
   rintro W5 ⟨⟨W5',hb5⟩,rfl⟩
   go_wp2
   go_roundw
   case rel=>exact ⟨k+1,by omega,by go_num,⟨t+(D.length+20),by go_num,hid (by rw[hn.out,ht.out])⟩,below_then hb5 hbw⟩
   case measure=>simp [intOf];omega
  ·obtain rfl:k=xs.length:=by omega
   rw[List.take_length] at ht
   go_wp2
   go_ret
   exact⟨by rw[←ht.out];rfl,hb⟩
theorem PenAt.below{w w':World}{g base most:Nat}{J J':List UInt8}{a:Option Addr}{c B:Nat}(h:PenAt w g base most J a c)(hB:B≤base)(hB2:B≤w.heap.size)(k:PenStep w g base most J' a w'):Below B w w':=by
 obtain⟨a',c',k1,k2,k3⟩:=k
 exact k2.to_below hB2 fun b _ hb=>Nat.le_trans hB (h.own_lt hb).1
theorem token_bytes(xs:List Tok)(a:Option Addr)(n c:Nat)(w:World)(hl:rToks.r (·<w.heap.size) w [.slice a n c] xs)(hx:xs.length≤10000000)(hR:∀t∈xs,rightB t=true):
  Calls Tryz.prog 410 #[.slice a n c] w fun r w'=>∃v,r=.returned (.tuple #[v,.int .i64 0])∧rBytes.r (fun q=>w.heap.size≤q∧q<w'.heap.size) w' [v] (tokensB xs)∧Below w.heap.size w w':=by
 obtain⟨rfl,hm,_,_⟩:=sl_len hl
 have hL:∀t∈xs,t.lit.length≤1048576:=fun t ht=>by
  rcases right_forms (hR t ht) with ⟨D,rfl,h1,h2⟩ | ⟨o,m,rfl,_⟩
  ·exact h2
  ·simp
 have HRM:=hid (token_room xs a _ c w hl hx hL)
 have hrl:=roomT_le xs hL xs.length (Nat.le_refl _)
 rw[List.take_length] at hrl
 have HMO:=hid (fun k=>roomT_mono xs k)
 have HL:=hid hl;have HR:=hid hR
 clear hl hR hL
 generalize hM:roomT xs=M at*
 have hMM:=hid hM;clear hM
 go_enter Tryz.func410,Tryz.ntmps410
 go_wp2_with fail
 refine HRM.out.mono ?_
 rintro r w1 ⟨rfl,hb1⟩
 have HN:=hid (pen_new w1 M (by omega))
 go_wp2_with fail
 refine HN.out.mono ?_
 rintro r w2 ⟨rfl,hp2,hb2⟩
 have hs1:=hb1.size
 have hs2:=hb2.size
 have HP2:=hid hp2
 have hbw2:=below_then hb2 hb1
 clear hp2
 generalize hg:w1.heap.size=g at*
 go_wp2_with fail
 go_loopw [12] (fun i wr=>∃k:Nat,k≤xs.length∧i=.int .i64 k∧Hid (∃ap cp,PenAt wr g g M (tokensB (xs.take k)) ap cp)∧Below g w2 wr) (fun i _=>xs.length-(intOf i).toNat)
 case atStart=>exact ⟨0,Nat.zero_le _,rfl,hid ⟨_,_,by simpa [tokensB] using HP2.out⟩,Below.refl _ _⟩
 case round=>
  obtain⟨k,hk,rfl,hpen,hb⟩:=hrel
  obtain⟨ap,cp,hP⟩:=hpen.out
  have hbw:Below w.heap.size w wr:=⟨hb.os.trans hbw2.os,hb.tape.trans hbw2.tape,hb.output.trans hbw2.output,by have:=hb.size;omega,fun q hq=>(hb.block q (by omega)).trans (hbw2.block q hq)⟩
  have hgl:=hP.blk.lt
  rcases Nat.lt_or_ge k xs.length with hlt | hge
  ·obtain⟨b,o,hA,hbb,a2,c2,x0,x1,x2,_,_,xl⟩:=tok_at HL.out hlt
   subst hA
   have X0:=(hbw.cell (p:=⟨b,o+k*3,none⟩) hbb).trans x0
   have X1:=(hbw.cell (p:=⟨b,o+k*3+1,none⟩) hbb).trans x1
   have X2:=(hbw.cell (p:=⟨b,o+k*3+2,none⟩) hbb).trans x2
   have hst:=tokensB_step xs k hlt
   have hfit:(tokensB (xs.take k)).length+(tokB xs[k]).length≤M:=by
    have h1:=tokensB_len (xs.take (k+1))
    rw[hst,List.length_append] at h1
    have h2:=HMO.out (k+1)
    omega
   have hr:=HR.out _ (List.getElem_mem hlt)
   have HST:=hid hst
   have HXL:=hid xl
   have HFIT:=hid hfit
   clear x0 x1 x2 xl hst hfit
   generalize xs[k]=y at*
   generalize tokensB (xs.take k)=J at*
   have hbs:=hb.size
   have i1:(k:Int)<(xs.length:Int):=by omega
   have HP:=hid hP
   clear hP hpen
   rcases right_forms hr with ⟨D,rfl,k1,k2⟩ | ⟨yo,ym,rfl,k1,k2,k3,k4⟩
   ·dsimp only at X0 X1 X2 HXL
    clear hr
    go_wp2_with fail
    have hbW:Below wr.heap.size wr (wr.alloc (.cells #[.slice a2 D.length c2,.int .i64 0,.int .i64 0] 414)):=by (repeat (first | exact Below.refl _ _ | assumption | (refine below_alloc ?_ _) | (refine Below.setCell ?_ (by first | omega | (simp;done) | (simp;omega)) _) | (refine Below.drew ?_) | (refine below_drewN ?_ _) | (refine below_then (by assumption) ?_)))
    generalize wr.alloc (.cells #[.slice a2 D.length c2,.int .i64 0,.int .i64 0] 414)=W at*
    have hzW:=hbW.size
    have hPW:=HP.out.later hbW
    have HQ:=hid (token_put_run W hPW D k1 k2 a2 c2 (rBytes.mono (rBytes.keep HXL.out fun q hq=>(below_then hbW hbw).block q hq) fun q hq=>⟨Nat.lt_of_lt_of_le hq (by have:=hbw.size;omega),fun hf=>by have:=(hPW.own_lt hf).1;have hq':q<w.heap.size:=hq;omega⟩) HFIT.out (by have:=HFIT.out;omega))
    have HPW:=hid hPW
    clear X0 X1 X2 hPW
    refine HQ.out.mono ?_
    rintro r w5 ⟨rfl,hps⟩
    have hb5:Below g w2 w5:=by
     have e1:Below g W w5:=HPW.out.below (Nat.le_refl _) (by omega) hps
     exact (hb.trans (hbW.mono (by omega))).trans e1
    obtain⟨a5,c5,hP5,_,_⟩:=hps
    have HP5:=hid (⟨a5,c5,by rw[HST.out];exact hP5⟩:∃ap cp,PenAt w5 g g M (tokensB (xs.take (k+1))) ap cp)
    clear hP5
    go_wp2
    go_roundw
    case rel=>exact ⟨k+1,by omega,by go_num,HP5,hb5⟩
    case measure=>simp [intOf];omega
   ·dsimp only[List.length_nil] at X0 X1 X2 HXL
    clear hr
    go_wp2_with fail
    have hbW:Below wr.heap.size wr (wr.alloc (.cells #[.slice a2 0 c2,.int .i64 yo,.int .i64 ym] 414)):=by (repeat (first | exact Below.refl _ _ | assumption | (refine below_alloc ?_ _) | (refine Below.setCell ?_ (by first | omega | (simp;done) | (simp;omega)) _) | (refine Below.drew ?_) | (refine below_drewN ?_ _) | (refine below_then (by assumption) ?_)))
    generalize wr.alloc (.cells #[.slice a2 0 c2,.int .i64 yo,.int .i64 ym] 414)=W at*
    have hzW:=hbW.size
    have hPW:=HP.out.later hbW
    have HQ:=hid (token_put_copy W hPW yo ym k1 k2 k3 k4 a2 c2 HFIT.out (by have:=HFIT.out;omega))
    have HPW:=hid hPW
    clear X0 X1 X2 hPW
    refine HQ.out.mono ?_
    rintro r w5 ⟨rfl,hps⟩
    have hb5:Below g w2 w5:=by
     have e1:Below g W w5:=HPW.out.below (Nat.le_refl _) (by omega) hps
     exact (hb.trans (hbW.mono (by omega))).trans e1
    obtain⟨a5,c5,hP5,_,_⟩:=hps
    have HP5:=hid (⟨a5,c5,by rw[HST.out];exact hP5⟩:∃ap cp,PenAt w5 g g M (tokensB (xs.take (k+1))) ap cp)
    clear hP5
    go_wp2
    go_roundw
    case rel=>exact ⟨k+1,by omega,by go_num,HP5,hb5⟩
    case measure=>simp [intOf];omega
  ·obtain rfl:k=xs.length:=by omega
   rw[List.take_length] at hP
   have HB:=hid (pen_bytes wr hP)
   clear hP hpen
   go_wp2_with fail
   refine HB.out.mono ?_
   rintro r w5 ⟨v,rfl,hv,hb5⟩
   have hbe:=below_then hb5 hbw
   have HV:=hid (rBytes.mono (S':=fun q=>w.heap.size≤q∧q<w5.heap.size) hv fun q hq=>⟨by have:=hq.1;have:=hbw.size;omega,hq.2⟩)
   clear hv
   go_wp2
   go_ret2
   exact⟨_,rfl,HV.out,hbe⟩
theorem byteCells_app(J D:List UInt8):byteCells J++byteCells D=byteCells (J++D):=by simp[byteCells]
end Go.Proofs.YtmioakocnebceaaGreat
namespace Go.Bs
open Go.RowKit
end Go.Bs
namespace Go.Proofs.YtmioakocnebceaaGreat
open Go.RowKit Go.Bs Go.Maps
def rTV:Rp (Tok ⊕ Value):=
  ⟨fun S w cs x=>match x with | .inl t=>rTok.r S w cs t | .inr v=>cs=[v,.int .i64 0,.int .i64 0],
   fun {S w w' cs x} h hk=>by cases x with | inl b=>exact rTok.keep h hk | inr y=>exact h,
   fun {S S' w cs x} h hk=>by cases x with | inl b=>exact rTok.mono h hk | inr y=>exact h⟩
structure TBld(lo:Nat)(w:World)(g c:Nat)(cells:List (List Value))(ts:List Tok)(D:List UInt8)(vl:Value):Prop where
 own:OwnElsF (fun x=>lo≤x∧x<w.heap.size∧vl.ownBlock≠some x) rTV lo 414 3 w (.slice (some ⟨g,0,none⟩) (ts.length+1) c) (ts.map .inl++[.inr vl]) (cells++[[vl,.int .i64 0,.int .i64 0]])
 len:cells.length=ts.length
 last:w.ownsRow lo 5 1 vl D.length (byteCells D)
 ne:vl.ownBlock≠some g
theorem TBld.g_lt{lo:Nat}{w:World}{g c:Nat}{cells:List (List Value)}{ts:List Tok}{D:List UInt8}{vl:Value}(h:TBld lo w g c cells ts D vl):lo≤g∧g<w.heap.size:=h.own.1.lt g rfl
theorem TBld.later{lo:Nat}{w w':World}{g c:Nat}{cells:List (List Value)}{ts:List Tok}{D:List UInt8}{vl:Value}(h:TBld lo w g c cells ts D vl)(hb:Below w.heap.size w w'):TBld lo w' g c cells ts D vl:=by
 have hgl:=h.g_lt
 obtain⟨ho,h1,h4,h5⟩:=h
 refine⟨(ho.keep (w':=w') (fun b h=>hb.block b h.2.1) (fun g' hg'=>hb.block g' (ho.1.lt g' hg').2)).mono fun b hb'=>⟨hb'.1,by have:=hb.size;omega,hb'.2.2⟩,h1,own_below h4 hb,h5⟩
def Rest(b:List UInt8)(p i:Nat)(O:List Tok):Prop:=∃f,b.length≤p+f∧toksR b=O++toksF b f p i
theorem Rest.copy{b:List UInt8}{p i o m:Nat}{O:List Tok}(h:Rest b p i O)(hp:p<b.length)(hb:bestR b p=(o,m))(hm:m≠0):Rest b (p+m) (p+m) (O++litT b i p++[⟨[],(o:Int),(m:Int)⟩]):=by
 obtain⟨f,hf,h⟩:=h
 obtain⟨f,rfl⟩:∃f',f=f'+1:=⟨f-1,by omega⟩
 refine⟨f,by omega,?_⟩
 rw[h]
 simp only[toksF,if_pos hp,hb,if_neg hm]
 simp
theorem Rest.none{b:List UInt8}{p i o:Nat}{O:List Tok}(h:Rest b p i O)(hp:p<b.length)(hb:bestR b p=(o,0)):Rest b (p+1) i O:=by
 obtain⟨f,hf,h⟩:=h
 obtain⟨f,rfl⟩:∃f',f=f'+1:=⟨f-1,by omega⟩
 refine⟨f,by omega,?_⟩
 rw[h]
 simp only[toksF,if_pos hp,hb,if_true]
theorem Rest.fin{b:List UInt8}{i:Nat}{O:List Tok}(h:Rest b b.length i O):toksR b=O++litT b i b.length:=by
 obtain⟨f,hf,h⟩:=h
 rw[h]
 cases f with
 | zero=>rfl
 | succ f=>simp only[toksF,if_neg (Nat.lt_irrefl _)]
theorem good_right{b:List UInt8}(hb:b.length≤1048576):∀{f:Bool} {p:Nat} {ts:List Tok},Good b f p ts→∀t∈ts,rightB t=true
 | _,_,_,.nil,t,ht=>by simp at ht
 | _,_,_,.copy (p:=p) (o:=o) (m:=m) hp hbe hm hg,t,ht=>by
  rcases List.mem_cons.1 ht with rfl | ht
  ·have h1:=bestR_facts b p
   have h2:=(bestR_room b p).1
   rw[hbe] at h1 h2
   simp only at h2
   rcases h1 with h1 | ⟨o',m',h1,g1,g2,g3,_⟩
   ·simp only[Prod.mk.injEq] at h1;omega
   ·simp only[Prod.mk.injEq] at h1
    unfold reach at g2
    simp[rightB,copyB]
    omega
  ·exact good_right hb hg t ht
 | _,_,_,.run (p:=p) (q:=q) h1 h2 h3 hg,t,ht=>by
  rcases List.mem_cons.1 ht with rfl | ht
  ·simp[rightB,runB]
   omega
  ·exact good_right hb hg t ht
theorem toks_right{b:List UInt8}(hb:b.length≤1048576):∀t∈toksR b,rightB t=true:=good_right hb (good_toksR b)
theorem toks_len2{b:List UInt8}(hb:b.length≤1048576):(toksR b).length≤10000000:=by
 have:=toks_len b b.length 0 0
 unfold toksR
 omega
theorem press_bytes(w:World)(b:List UInt8)(a:Option Addr)(n c:Nat)(hl:rBytes.r (·<w.heap.size) w [.slice a n c] b)(hlen:b.length≤1048576):
  Calls Tryz.prog 404 #[.slice a n c] w fun r w'=>∃v,r=.returned (.tuple #[v,.int .i64 0])∧rBytes.r (fun q=>w.heap.size≤q∧q<w'.heap.size) w' [v] (tokensB (toksR b))∧Below w.heap.size w w':=by
 obtain⟨rfl,hm,_,_⟩:=sl_len hl
 have HT:=hid (press_tokens w b a _ c hl hlen)
 have hri:=toks_right hlen
 have hl2:=toks_len2 hlen
 clear hl
 generalize toksR b=T at*
 go_enter Tryz.func404,Tryz.ntmps404
 go_wp2_with fail
 refine HT.out.mono ?_
 rintro r w1 ⟨v,rfl,hr,hb1⟩
 obtain⟨a1,c1,hv,hr2,_⟩:=sl_form hr
 simp only[List.cons.injEq,and_true] at hv
 subst hv
 have HB:=hid (token_bytes T a1 _ c1 w1 (rToks.mono hr2 fun q hq=>hq.2) hl2 hri)
 have hs1:=hb1.size
 clear hr hr2
 go_wp2_with fail
 refine HB.out.mono ?_
 rintro r w2 ⟨v2,rfl,hv2,hb2⟩
 have hbe:=below_then hb2 hb1
 have HV:=hid (rBytes.mono (S':=fun q=>w.heap.size≤q∧q<w2.heap.size) hv2 fun q hq=>⟨by have:=hq.1;omega,hq.2⟩)
 clear hv2
 go_wp2
 go_ret2
 exact⟨_,rfl,HV.out,hbe⟩
def blobB(D:List UInt8):List UInt8:=varB D.length++D
theorem blobB_len(D:List UInt8):(blobB D).length=(varB D.length).length+D.length:=by simp[blobB]
theorem blob_size(n:Nat)(hn:n≤100000000000000)(w:World):
  Calls Tryz.prog 320 #[.int .i64 n] w fun r w'=>r=.returned (.int .i64 ((varB n).length+n:Nat))∧Below w.heap.size w w':=by
 have HS:=hid (fun (W:World)=>varint_size n (by omega) W)
 have hl:=varB_len n
 generalize (varB n).length=k at*
 go_enter Tryz.func320,Tryz.ntmps320
 go_wp2_with fail
 refine (HS.out _).mono ?_
 rintro r w1 ⟨rfl,hb1⟩
 go_wp2
 go_ret
 exact⟨by first | rfl | simp,hb1⟩
theorem blob_put(w:World){g base most:Nat}{J:List UInt8}{a:Option Addr}{c:Nat}(h:PenAt w g base most J a c)(D:List UInt8)(ad:Option Addr)(nd cd:Nat)
  (hD:rBytes.r (fun q=>q<w.heap.size∧¬PenF g a q) w [.slice ad nd cd] D) (hfit:J.length+(blobB D).length≤most) (hlen:J.length+(blobB D).length≤100000000000000):
  Calls Tryz.prog 109 #[.pointer (some ⟨g,0,none⟩),.slice ad nd cd] w fun r w'=>r=.returned (.tuple #[])∧PenStep w g base most (J++blobB D) a w':=by
 obtain⟨rfl,hm,_,_⟩:=sl_len hD
 rw[blobB_len] at hfit hlen
 have HV:=hid (varint_put w h D.length (by omega) (by omega) (by omega))
 have HD:=hid hD
 have hfit':=hid hfit;have hlen':=hid hlen
 clear h hD hfit hlen
 go_enter Tryz.func109,Tryz.ntmps109
 go_wp2_with fail
 refine HV.out.mono ?_
 rintro r w2 ⟨rfl,a2,c2,hp2,ht2,ha2⟩
 have hs2:=ht2.size
 have HQ:=hid (pen_put w2 hp2 D ad _ cd (rBytes.mono (rBytes.keep HD.out fun q hq=>ht2.block q hq.1 hq.2) fun q hq=>Nat.lt_of_lt_of_le hq.1 hs2) (by rw[List.length_append];have:=hfit'.out;omega) (by rw[List.length_append];have:=hlen'.out;omega))
 go_wp2_with fail
 refine HQ.out.mono ?_
 rintro r w3 ⟨rfl,hst⟩
 have hst2:=PenStep.trans (J:=J) ht2 ha2 hst
 rw[List.append_assoc] at hst2
 have HST:=hid hst2
 clear hst hst2
 go_wp2
 first | go_end0 | refine bodyPost_ret (results_none rfl _ _ _) rfl ?_
 exact⟨rfl,HST.out⟩
def pressB(p:List UInt8):List UInt8:=tokensB (toksR p)
def packR(p:List UInt8):Bool:=decide ((blobB (pressB p)).length<p.length)
def blockB(p:List UInt8):List UInt8:=varB p.length++(if packR p then 1::blobB (pressB p) else 0::p)
theorem pressB_small{b:List UInt8}(hb:b.length≤1048576):(pressB b).length≤10000000000000:=by
 have hL:∀t∈toksR b,t.lit.length≤1048576:=fun t ht=>by
  rcases right_forms (toks_right hb t ht) with ⟨D,rfl,h1,h2⟩ | ⟨o,m,rfl,_⟩
  ·exact h2
  ·simp
 have h1:=tokensB_len (toksR b)
 have h2:=roomT_le (toksR b) hL (toksR b).length (Nat.le_refl _)
 rw[List.take_length] at h2
 have h3:=toks_len b b.length 0 0
 unfold pressB
 unfold toksR at*
 omega
theorem block_packed(w:World)(p:List UInt8)(a:Option Addr)(n c:Nat)(hl:rBytes.r (·<w.heap.size) w [.slice a n c] p)(hlen:p.length≤1048576):
  Calls Tryz.prog 397 #[.slice a n c] w fun r w'=>∃v,r=.returned (.tuple #[v,.bool (packR p)])∧(packR p=true→rBytes.r (fun q=>w.heap.size≤q∧q<w'.heap.size) w' [v] (pressB p))∧(packR p=false→v=.slice none 0 0)∧Below w.heap.size w w':=by
 obtain⟨rfl,hm,_,_⟩:=sl_len hl
 have HT:=hid (press_bytes w p a _ c hl hlen)
 have hsm:=pressB_small hlen
 have hbl:=blobB_len (pressB p)
 have hpk:Hid (packR p=decide ((blobB (pressB p)).length<p.length)):=hid rfl
 clear hl
 rw[show tokensB (toksR p)=pressB p from rfl] at HT
 generalize pressB p=E at*
 rw[hbl] at hpk
 generalize packR p=R at*
 have HS:=hid (fun (W:World)=>blob_size E.length (by omega) W)
 have hvl:=varB_len E.length
 clear hbl
 generalize (varB E.length).length=k at*
 go_enter Tryz.func397,Tryz.ntmps397
 go_wp2_with fail
 refine HT.out.mono ?_
 rintro r w1 ⟨v,rfl,hr,hb1⟩
 obtain⟨a1,c1,hv,hr2,_⟩:=sl_form hr
 simp only[List.cons.injEq,and_true] at hv
 subst hv
 have HR:=hid hr2
 have hs1:=hb1.size
 clear hr hr2
 go_wp2_with fail
 refine (HS.out _).mono ?_
 rintro r w2 ⟨rfl,hb2⟩
 have hbe:=below_then hb2 hb1
 have hs2:=hb2.size
 have HR2:=hid (rBytes.mono (S':=fun q=>w.heap.size≤q∧q<w2.heap.size) (rBytes.keep HR.out fun q hq=>hb2.block q hq.2) fun q hq=>⟨hq.1,by omega⟩)
 have hpk':=hpk.out
 clear hpk
 cases R
 ·have hle:¬k+E.length<p.length:=of_decide_eq_false hpk'.symm
  have d1:decide ((p.length:Int)≤(k:Int)+(E.length:Int))=true:=decide_eq_true (by omega)
  have d1':decide ((p.length:Int)≤((k+E.length:Nat):Int))=true:=decide_eq_true (by omega)
  have d1'':decide (p.length≤k+E.length)=true:=decide_eq_true (by omega)
  clear hpk' hle
  go_wp2
  go_ret2
  exact⟨_,rfl,rfl,hbe⟩
 ·have hle:k+E.length<p.length:=of_decide_eq_true hpk'.symm
  have d1:decide ((p.length:Int)≤(k:Int)+(E.length:Int))=false:=decide_eq_false (by omega)
  have d1':decide ((p.length:Int)≤((k+E.length:Nat):Int))=false:=decide_eq_false (by omega)
  have d1'':decide (p.length≤k+E.length)=false:=decide_eq_false (by omega)
  clear hpk' hle
  go_wp2
  go_ret2
  exact⟨_,rfl,HR2.out,hbe⟩
end Go.Proofs.YtmioakocnebceaaGreat
