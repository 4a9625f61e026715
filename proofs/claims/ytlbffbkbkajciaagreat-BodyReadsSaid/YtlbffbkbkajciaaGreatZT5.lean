/- Mini: Needed by bodyReads_walk, part 5: texts put together by shake.py; no condition. -/
import Derived.Test.YtlbffbkbkajciaaGreatZT3
import Derived.Test.YtlbffbkbkajciaaGreatZT2
import Derived.Test.YtlbffbkbkajciaaGreatZT1
import Derived.Test.YtlbffbkbkajciaaGreatZT4
import Derived.Deep.Cut
set_option linter.unusedVariables false
set_option linter.unusedSimpArgs false
set_option maxRecDepth 100000
set_option maxHeartbeats 6400000
namespace Go.Bs
theorem zCr{p:Prop}(h:p:=by have := Rs.Fo (B := B) (s := s) (m := m); omega):p:=h
theorem zCg{p:Prop}(h:p:=by have := HBP.out HK.out; omega):p:=h
theorem zCf{p:Prop}(h:p:=by have := Rs.Fo (B := B) (s := s) (m := (n : Int)); omega):p:=h
theorem zCc{p:Prop}(h:p:=by simp [results, Tryz.results122, go_sem, y0, y1, y2, y3, l1]):p:=h
theorem zCa{p:Prop}(h:p:=by simp [results, Tryz.results202, go_sem, y0, y1, y2, y3, l1]):p:=h
theorem zB7{p:Prop}(h:p:=by first | trivial | rfl):p:=h
theorem zBp{p:Prop}(h:p:=by simp [hk0]):p:=h
theorem zBh{p:Prop}(h:p:=by simp [hk1]):p:=h
theorem zA9{p:Prop}(h:p:=by rw [List.drop_eq_nil_of_le (by simp; omega)]; rfl):p:=h
theorem zAp{p:Prop}(h:p:=by rw [Sb (by rw [hn1.out]; omega), HTK.out m (by omega)]):p:=h
theorem zAl{p:Prop}(h:p:=by simp [results, Tryz.results139, go_sem, y0, y1, y2, y3, l1]):p:=h
theorem ZJ{p:Prop}(h:p:=by simp [results, Tryz.results212, go_sem, y0, y1, l1]):p:=h
theorem ZH{p:Prop}(h:p:=by have := hq.1; simp at this; omega):p:=h
theorem zH{p:Prop}(h:p:=by with_reducible assumption):p:=h
theorem B6:type_of% @beq_eq_false_iff_ne:=@beq_eq_false_iff_ne
end Go.Bs
namespace Go.Proofs.YtlbffbkbkajciaaGreat
open Go.RowKit Go.Bs Go.Maps
def MQ(L p i:Nat)(r:Nat × Nat × Int):Rs × Nat:=(⟨p+r.2.1-i,r.2.2,if r.2.2=0 then 0 else if r.2.2=1 then L else ((p+r.2.1-i:Nat):Int)-1⟩,r.1)
def vgo(B:List UInt8)(i X:Nat)(s:Rs):Rs × Nat:=if s.k=0 then MQ B.length s.p i (CI i X (B.drop s.p)) else (s,0)
theorem QP(B:List UInt8)(s:Rs):vgo B 0 0 s=s.num B:=by
 unfold vgo Rs.num MQ;simp
theorem Ib(i x:Nat)(c:UInt8)(l:List UInt8):CI i x (c::l)=if i=9∧1<c.toNat then (0,i+1,5) else if 0<i∧c.toNat=0 then (0,i+1,4) else if c.toNat<128 then (x+c.toNat*128^i,i+1,0) else CI (i+1) (x+c.toNat%128*128^i) l:=by rw[CI]
theorem Pv{B:List UInt8}{s:Rs}(hs:s.ok B.length)(i X:Nat):vgo B i X s=
  if (s.byte B).1.k=0 then
   (if i=9∧1<(s.byte B).2.toNat then ((s.byte B).1.fail 5 ((s.byte B).1.p-1),0)
   else if 0<i∧(s.byte B).2.toNat=0 then ((s.byte B).1.fail 4 ((s.byte B).1.p-1),0)
   else if (s.byte B).2.toNat<128 then ((s.byte B).1,X+(s.byte B).2.toNat*128^i)
   else vgo B (i+1) (X+(s.byte B).2.toNat%128*128^i) (s.byte B).1)
  else ((s.byte B).1,0):=by
 have hle:=hs.le
 unfold Rs.byte;by_cases h0:s.k=0
 ·by_cases h1:s.p<B.length
  ·have e:s.skip B.length 1=(true,⟨s.p+1,0,0⟩):=by
    unfold Rs.skip;rw[Al h0,Ak zD,Ak zD];simp
   rw[e]
   have hd:B.drop s.p=B.getD s.p 0::B.drop (s.p+1):=by
    rw[AL h1];simp[h1]
   simp only[Dx]
   unfold vgo;rw[Al h0,hd,Ib]
   have hu:=(EJ (B.drop (s.p+1)) (i+1) (X+(B.getD s.p 0).toNat%128*128^i)).2.1
   have e1:s.p+(i+1)-i=s.p+1:=zD
   split
   ·simp[MQ,Rs.fail,e1]
   ·split
    ·simp[MQ,Rs.fail,e1]
    ·split
     ·simp[MQ,e1]
     ·generalize CI (i+1) (X+(B.getD s.p 0).toNat%128*128^i) (B.drop (s.p+1))=r at*
      simp only[Dx,MQ]
      rw[show s.p+r.2.1-i=s.p+1+r.2.1-(i+1) by omega]
  ·have e:s.skip B.length 1=(false,⟨s.p,1,B.length⟩):=by
    unfold Rs.skip;rw[Al h0,Ak zD,Al zD]
   rw[e]
   have hd:B.drop s.p=[]:=List.drop_eq_nil_of_le zD
   unfold vgo;rw[Al h0,hd]
   simp[CI,MQ]
 ·have e:s.skip B.length 1=(false,s):=by unfold Rs.skip;rw[Ak h0]
  rw[e]
  unfold vgo;rw[Ak h0]
  simp[h0]
theorem Qe{i X m:Nat}(hX:X<128^i)(hx:X<18446744073709551616)(hm:m*128^i<18446744073709551616):bits .or .u64 (X:Int) ((m*128^i:Nat):Int)=((X+m*128^i:Nat):Int):=by
 rw[bits_or_u64_nat _ _ hx hm]
 have h1:(128:Nat)^i=2^(7*i):=by rw[Nat.pow_mul]
 rw[h1] at hX ⊢
 rw[Nat.or_comm,←Nat.shiftLeft_eq,←Nat.shiftLeft_add_eq_or_of_lt hX,Nat.add_comm]
theorem GC{i X c:Nat}(hX:X<128^i)(hx:X<18446744073709551616)(hm:c%128*128^i<18446744073709551616):bits .or .u64 (X:Int) (IntKind.u64.wrap ((c:Int)%128*2^(7*i)))=((X+c%128*128^i:Nat):Int):=by
 have e:(c:Int)%128*2^(7*i)=((c%128*128^i:Nat):Int):=by
  rw[show (128:Nat)^i=2^(7*i) by rw[Nat.pow_mul]]
  simp
 rw[e,IntKind.wrap_u64,Int.emod_eq_of_lt zD zD]
 exact Qe hX hx hm
theorem NV{i X c:Nat}(hX:X<128^i):X+c%128*128^i<128^(i+1):=by
 have h1:c%128*128^i≤127*128^i:=Cf _ zD
 rw[Nat.pow_succ]
 omega
theorem DV{i X c:Nat}(hi:i≤9)(hX:X<128^i)(h:i=9→c≤1):c%128*128^i<18446744073709551616∧X<18446744073709551616:=by
 by_cases h9:i=9
 ·subst h9
  have h1:(128:Nat)^9=9223372036854775808:=zS
  rw[h1] at*
  have:=h rfl
  have h2:c%128*9223372036854775808≤1*9223372036854775808:=Cf _ zD
  omega
 ·have h1:(128:Nat)^i≤128^8:=Nat.pow_le_pow_right zD zD
  have h3:(128:Nat)^8=72057594037927936:=zS
  have h2:c%128*128^i≤127*128^i:=Cf _ zD
  omega
theorem Iv{B:List UInt8}{s:Rs}{q:Nat}(hp:s.p=q)(h:(s.byte B).1.k=0):(s.byte B).1.p=q+1:=by
 have h':(s.skip B.length 1).2.k=0:=h
 cases hk:(s.skip B.length 1).1
 ·exact absurd h' (Rs.G2 hk).1
 ·have:=(Rs.EK hk).2.2.2
  show (s.skip B.length 1).2.p=_
  rw[this,hp];rfl
theorem Cu(w:World){g:Nat}{B:List UInt8}{a:Option Addr}{s:Rs}(h:AQ w g B a s)(hB:B.length≤1000000000000):Calls Tryz.prog 210 #[.pointer (some ⟨g,0,none⟩)] w fun r w'=>r=.returned (.int .u64 ((s.num B).2:Int))∧Az w g B a (s.num B).1 w':=by
 have HH:=hid h
 have HA:=hid (Bz w h)
 have hpL:=h.ok.le
 clear h;go_enter Tryz.func210,Tryz.ntmps210
 go_wp2;refine Je 0 (fun a' W=>∃(i X:Nat) (s':Rs) (rest:Hid (vgo B i X s'=s.num B)) (u1 u4 u7 u8 u9 u10 u11 u12 u13 u14 u15 u16 u17 u18 u19 u20 u21 u22 u23 u24 u25 u26 u27 u28 u29 u30 u31 u32 u33 u34 u35 u36 u37 u38 u39 u40 u41 u42 u43 u44 u45 u46 u47 u48 u49 u50 u51 u52 u53:Value),Az w g B a s' W∧s'.p=s.p+i∧i≤9∧X<128^i∧a'={tmps:=#[.pointer (some ⟨g,0,none⟩),u1,.int .u64 0,.int .u64 (X:Int),u4,.int .i64 (7*(i:Int)),.int .i64 (s.p:Int),u7,u8,u9,u10,u11,u12,u13,u14,u15,u16,u17,u18,u19,u20,u21,u22,u23,u24,u25,u26,u27,u28,u29,u30,u31,u32,u33,u34,u35,u36,u37,u38,u39,u40,u41,u42,u43,u44,u45,u46,u47,u48,u49,u50,u51,u52,u53],defers:=[]}) (fun a' _=>70-(intOf (a'.tmps.getD 5 undef)).toNat) rfl ?_ ?_
 ·rintro a' W ⟨i,X,s',hrest,u1,u4,u7,u8,u9,u10,u11,u12,u13,u14,u15,u16,u17,u18,u19,u20,u21,u22,u23,u24,u25,u26,u27,u28,u29,u30,u31,u32,u33,u34,u35,u36,u37,u38,u39,u40,u41,u42,u43,u44,u45,u46,u47,u48,u49,u50,u51,u52,u53,hst,hp,hi,hX,rfl⟩
  have hk:=hst.1
  have hB1:=hid (Ld W hk)
  have hvs:=hid (Pv hk.ok i X)
  have hbok:=Rs.FP hk.ok
  have HBP:Hid ((s'.byte B).1.k=0→(s'.byte B).1.p=s.p+i+1):=hid (Iv hp)
  rw[hrest.out] at hvs
  clear hrest;generalize s'.byte B=b at*
  obtain⟨b1,c⟩:=b
  dsimp only at hB1 hvs hbok;go_wp2_with fail;refine hB1.out.mono ?_
  rintro r w1 ⟨rfl,hst1⟩;have hstW:=hst
  by_cases hbk:b1.k=0
  ·have hG:=AA w1 hst1.1
   rw[Ae hbk] at hG
   have HG:=hid hG
   have HK:=hid hbk
   have hc:=c.toNat_lt
   have hbge:1≤b1.p:=by have:=HBP.out hbk;omega
   have hpl:=hbok.le
   clear hG hbk;go_wp2_with fail;refine HG.out.mono ?_
   rintro r w2 ⟨rfl,hb2⟩;by_cases h9:i=9
   ·have d1:((7*(i:Int))==63)=true:=by rw[h9];rfl
    by_cases hc1:1<c.toNat
    ·have d2:decide ((1:Int)<(c.toNat:Int))=true:=Ae zD
     have HF:=hid (Bj w2 (hst1.1.later hb2) 5 ((b1.p:Int)-1) zD)
     have HAT:=hid (Bz w2 (hst1.1.later hb2))
     replace hvs:=hvs.out
     rw[Al HK.out,Al ⟨h9,hc1⟩] at hvs
     have HN:=hid hvs
     clear hvs
     (try clear h9);(try clear hc0);(try clear hc1);(try clear hi0);(try clear hc7)
     have HST1:=hid hst1
     clear hst1 hst hk hbok;go_wp2_with fail;refine HAT.out.mono ?_
     rintro r w2' ⟨rfl,rfl⟩;go_wp2_with fail;refine HF.out.mono ?_
     rintro r w3 ⟨rfl,hst3⟩;have HST3:=hid (Az.trans HST1.out.2 (Az.trans (Tch.BV (F:=(·=g)) hb2) hst3))
     have HSTW:=hid hstW
     clear hst3 hstW;go_wp2;simp only[Exit.jump]
     go_ret;rw[HN.out];exact⟨rfl,Az.trans HSTW.out.2 HST3.out⟩
    ·have d2:decide ((1:Int)<(c.toNat:Int))=false:=Ad zD
     have d5:decide ((128:Int)≤(c.toNat:Int))=false:=Ad zD
     by_cases hc0:c.toNat=0
     ·have d3:((c.toNat:Int)==0)=true:=by rw[hc0];rfl
      have d4:decide ((s.p:Int)<(b1.p:Int)-1)=true:=Ae zCg
      have HF:=hid (Bj w2 (hst1.1.later hb2) 4 ((b1.p:Int)-1) zD)
      have HAT:=hid (Bz w2 (hst1.1.later hb2))
      replace hvs:=hvs.out
      rw[Al HK.out,Ak (fun e=>hc1 e.2),Al ⟨zD,hc0⟩] at hvs
      have HN:=hid hvs
      clear hvs
      (try clear h9);(try clear hc0);(try clear hc1);(try clear hi0);(try clear hc7)
      have HST1:=hid hst1
      clear hst1 hst hk hbok;go_wp2_with fail;refine HAT.out.mono ?_
      rintro r w2' ⟨rfl,rfl⟩;go_wp2_with fail;refine HAT.out.mono ?_
      rintro r w2' ⟨rfl,rfl⟩;go_wp2_with fail;refine HF.out.mono ?_
      rintro r w3 ⟨rfl,hst3⟩;have HST3:=hid (Az.trans HST1.out.2 (Az.trans (Tch.BV (F:=(·=g)) hb2) hst3))
      have HSTW:=hid hstW
      clear hst3 hstW;go_wp2;simp only[Exit.jump]
      go_ret;rw[HN.out];exact⟨rfl,Az.trans HSTW.out.2 HST3.out⟩
     ·have d3:((c.toNat:Int)==0)=false:=by simp[hc0]
      have HAT:=hid (Bz w2 (hst1.1.later hb2))
      replace hvs:=hvs.out
      rw[Al HK.out,Ak (fun e=>hc1 e.2),Ak (fun e=>hc0 e.2),Al zD] at hvs
      have HN:=hid hvs
      clear hvs;have HC7:Hid (c.toNat%128=c.toNat):=hid (DF zD)
      have HSTW:=hid hstW
      have hmul:c.toNat%128*128^i<18446744073709551616∧X<18446744073709551616:=DV hi hX zD
      have E1:=hid (GC (c:=c.toNat) hX hmul.2 hmul.1)
      clear hmul;clear hstW;(try clear h9);(try clear hc0);(try clear hc1);(try clear hi0);(try clear hc7);have HST1:=hid hst1
      clear hst1 hst hk hbok;go_wp2_with fail;go_wp2;simp only[Exit.jump]
      go_ret;rw[HN.out]
      refine⟨?_,Az.trans HSTW.out.2 (HST1.out.then hb2)⟩
      show Ending.returned (Value.int .u64 _)=_
      rw[E1.out,HC7.out]
   ·have d1:((7*(i:Int))==63)=false:=by rw[B6];omega
    by_cases hc0:c.toNat=0
    ·have d3:((c.toNat:Int)==0)=true:=by rw[hc0];rfl
     by_cases hi0:0<i
     ·have d4:decide ((s.p:Int)<(b1.p:Int)-1)=true:=Ae zCg
      have HF:=hid (Bj w2 (hst1.1.later hb2) 4 ((b1.p:Int)-1) zD)
      have HAT:=hid (Bz w2 (hst1.1.later hb2))
      replace hvs:=hvs.out
      rw[Al HK.out,Ak (fun e=>h9 e.1),Al ⟨hi0,hc0⟩] at hvs
      have HN:=hid hvs
      clear hvs
      (try clear h9);(try clear hc0);(try clear hc1);(try clear hi0);(try clear hc7)
      have HST1:=hid hst1
      clear hst1 hst hk hbok;go_wp2_with fail;refine HAT.out.mono ?_
      rintro r w2' ⟨rfl,rfl⟩;go_wp2_with fail;refine HAT.out.mono ?_
      rintro r w2' ⟨rfl,rfl⟩;go_wp2_with fail;refine HF.out.mono ?_
      rintro r w3 ⟨rfl,hst3⟩;have HST3:=hid (Az.trans HST1.out.2 (Az.trans (Tch.BV (F:=(·=g)) hb2) hst3))
      have HSTW:=hid hstW
      clear hst3 hstW;go_wp2;simp only[Exit.jump]
      go_ret;rw[HN.out];exact⟨rfl,Az.trans HSTW.out.2 HST3.out⟩
     ·have d4:decide ((s.p:Int)<(b1.p:Int)-1)=false:=Ad zCg
      have d5:decide ((128:Int)≤(c.toNat:Int))=false:=Ad zD
      have HAT:=hid (Bz w2 (hst1.1.later hb2))
      replace hvs:=hvs.out
      rw[Al HK.out,Ak (fun e=>h9 e.1),Ak (fun e=>hi0 e.1),Al zD] at hvs
      have HN:=hid hvs
      clear hvs;have HC7:Hid (c.toNat%128=c.toNat):=hid (DF zD)
      have HSTW:=hid hstW
      have hmul:c.toNat%128*128^i<18446744073709551616∧X<18446744073709551616:=DV hi hX zD
      have E1:=hid (GC (c:=c.toNat) hX hmul.2 hmul.1)
      clear hmul;clear hstW;(try clear h9);(try clear hc0);(try clear hc1);(try clear hi0);(try clear hc7);have HST1:=hid hst1
      clear hst1 hst hk hbok;go_wp2_with fail;refine HAT.out.mono ?_
      rintro r w2' ⟨rfl,rfl⟩;go_wp2_with fail;go_wp2;simp only[Exit.jump]
      go_ret;rw[HN.out]
      refine⟨?_,Az.trans HSTW.out.2 (HST1.out.then hb2)⟩
      show Ending.returned (Value.int .u64 _)=_
      rw[E1.out,HC7.out]
    ·have d3:((c.toNat:Int)==0)=false:=by simp[hc0]
     by_cases hc7:c.toNat<128
     ·have d5:decide ((128:Int)≤(c.toNat:Int))=false:=Ad zD
      have HAT:=hid (Bz w2 (hst1.1.later hb2))
      replace hvs:=hvs.out
      rw[Al HK.out,Ak (fun e=>h9 e.1),Ak (fun e=>hc0 e.2),Al hc7] at hvs
      have HN:=hid hvs
      clear hvs;have HC7:Hid (c.toNat%128=c.toNat):=hid (DF zD)
      have HSTW:=hid hstW
      have hmul:c.toNat%128*128^i<18446744073709551616∧X<18446744073709551616:=DV hi hX zD
      have E1:=hid (GC (c:=c.toNat) hX hmul.2 hmul.1)
      clear hmul;clear hstW;(try clear h9);(try clear hc0);(try clear hc1);(try clear hi0);(try clear hc7);have HST1:=hid hst1
      clear hst1 hst hk hbok;go_wp2_with fail;go_wp2;simp only[Exit.jump]
      go_ret;rw[HN.out]
      refine⟨?_,Az.trans HSTW.out.2 (HST1.out.then hb2)⟩
      show Ending.returned (Value.int .u64 _)=_
      rw[E1.out,HC7.out]
     ·have d5:decide ((128:Int)≤(c.toNat:Int))=true:=Ae zD
      have HAT:=hid (Bz w2 (hst1.1.later hb2))
      replace hvs:=hvs.out
      rw[Al HK.out,Ak (fun e=>h9 e.1),Ak (fun e=>hc0 e.2),Ak hc7] at hvs
      have HN:=hid hvs
      clear hvs;have hi8:i+1≤9:=zD
      have HX8:=hid (NV (c:=c.toNat) hX)
      have HSTW:=hid hstW
      have hmul:c.toNat%128*128^i<18446744073709551616∧X<18446744073709551616:=DV hi hX (fun e=>absurd e h9)
      have E1:=hid (GC (c:=c.toNat) hX hmul.2 hmul.1)
      clear hmul;clear hstW;(try clear h9);(try clear hc0);(try clear hc1);(try clear hi0);(try clear hc7);have HST1:=hid hst1
      clear hst1 hst hk hbok;go_wp2_with fail;go_step3
      rw[E1.out,show 7*(i:Int)+7=7*((i+1:Nat):Int) by omega]
      refine⟨rfl,⟨i+1,_,b1,hid HN.out.symm,_,_,_,_,_,_,_,_,_,_,_,_,_,_,_,_,_,_,_,_,_,_,_,_,_,_,_,_,_,_,_,_,_,_,_,_,_,_,_,_,_,_,_,_,_,_,_,_,_,Az.trans HSTW.out.2 (HST1.out.then hb2),HBP.out HK.out,hi8,HX8.out,rfl⟩,?_⟩
      simp[intOf]
      omega
  ·have hG:=AA w1 hst1.1
   rw[Ad hbk] at hG
   have HG:=hid hG
   replace hvs:=hvs.out
   rw[Ak hbk] at hvs
   have HN:=hid hvs
   clear hvs;have HST1:=hid hst1
   have HSTW:=hid hstW
   clear hG hbk hst1 hst hk hbok hstW;go_wp2_with fail;refine HG.out.mono ?_
   rintro r w2 ⟨rfl,hb2⟩;go_wp2;simp only[Exit.jump]
   go_ret;rw[HN.out];exact⟨rfl,Az.trans HSTW.out.2 (HST1.out.then hb2)⟩
 ·intro K hK
  go_wp2_with fail;refine HA.out.mono ?_
  rintro r w1 ⟨rfl,rfl⟩;go_wp2;go_step3
  rename_i hkk
  exact hkk _ _ (hK _ _ ⟨0,0,s,hid (QP B s),_,_,_,_,_,_,_,_,_,_,_,_,_,_,_,_,_,_,_,_,_,_,_,_,_,_,_,_,_,_,_,_,_,_,_,_,_,_,_,_,_,_,_,_,_,_,_,_,_,Az.refl HH.out,zD,zD,zR,rfl⟩)
def Rs.most(B:List UInt8)(s:Rs)(m:Nat):Rs × Nat:=if m<(s.num B).2 then ((s.num B).1.fail 2 s.p,0) else s.num B
def Rs.int(B:List UInt8)(s:Rs)(m:Int):Rs × Nat:=if 0≤m then s.most B m.toNat else ((s.num B).1.fail 2 s.p,0)
def Rs.head(B:List UInt8)(s:Rs):Rs × Bool × Nat:=
 if (s.num B).1.k=0 then
  (if (s.num B).2%2=1 then (if 1048572<(s.num B).2/2 then ((s.num B).1.fail 2 s.p,false,0) else ((s.num B).1,true,(s.num B).2/2+4))
  else (if 1048575<(s.num B).2/2 then ((s.num B).1.fail 2 s.p,false,0) else ((s.num B).1,false,(s.num B).2/2+1)))
 else ((s.num B).1,false,0)
def Rs.offset(B:List UInt8)(s:Rs):Rs × Nat:=
 let t:=if 65536≤(s.num B).2 then (s.num B).1.fail 10 s.p else (s.num B).1
 (t,if t.k=0 then (s.num B).2+1 else 0)
theorem Rs.Ln{B:List UInt8}{s:Rs}(h:s.ok B.length){m:Nat}:(s.most B m).1.ok B.length:=by
 unfold Rs.most;split
 ·exact Rs.BH (Rs.Cm h) zD
 ·exact Rs.Cm h
theorem Rs.DE{B:List UInt8}{s:Rs}(h:s.ok B.length){m:Int}:(s.int B m).1.ok B.length:=by
 unfold Rs.int;split
 ·exact Rs.Ln h
 ·exact Rs.BH (Rs.Cm h) zD
theorem Rs.FN{B:List UInt8}{s:Rs}(h:s.ok B.length):(s.head B).1.ok B.length:=by
 unfold Rs.head;split
 ·split
  ·split
   ·exact Rs.BH (Rs.Cm h) zD
   ·exact Rs.Cm h
  ·split
   ·exact Rs.BH (Rs.Cm h) zD
   ·exact Rs.Cm h
 ·exact Rs.Cm h
theorem Rs.Ij{B:List UInt8}{s:Rs}(h:s.ok B.length):(s.offset B).1.ok B.length:=by
 unfold Rs.offset;dsimp only;split
 ·exact Rs.BH (Rs.Cm h) zD
 ·exact Rs.Cm h
theorem Rs.Fo{B:List UInt8}{s:Rs}{m:Int}:(s.int B m).2≤m.toNat:=by
 unfold Rs.int Rs.most;split
 ·split
  ·simp
  ·omega
 ·simp
theorem IB(w:World){g:Nat}{B:List UInt8}{a:Option Addr}{s:Rs}(h:AQ w g B a s)(hB:B.length≤1000000000000)(m:Nat):Calls Tryz.prog 232 #[.pointer (some ⟨g,0,none⟩),.int .u64 (m:Int)] w fun r w'=>r=.returned (.int .u64 ((s.most B m).2:Int))∧Az w g B a (s.most B m).1 w':=by
 have HA:=hid (Bz w h)
 have HN:=hid (Cu w h hB)
 unfold Rs.most;generalize s.num B=N at*
 obtain⟨s1,x⟩:=N
 dsimp only at*;clear h;by_cases hm:m<x
 ·have d1:decide (m<x)=true:=Ae hm
  have d1':decide ((m:Int)<(x:Int))=true:=Ae zD
  rw[Al hm]
  clear hm;go_enter Tryz.func232,Tryz.ntmps232
  go_wp2_with fail;refine HA.out.mono ?_
  rintro r w' ⟨rfl,rfl⟩;go_wp2_with fail;refine HN.out.mono ?_
  rintro r w1 ⟨rfl,hst⟩;have HF:=hid (Bj w1 hst.1 2 s.p zD)
  have HST:=hid hst
  clear hst;go_wp2_with fail;refine HF.out.mono ?_
  rintro r w2 ⟨rfl,hst2⟩;have HST2:=hid hst2
  clear hst2;go_wp2;go_ret;exact⟨rfl,Az.trans HST.out.2 HST2.out⟩
 ·have d1:decide (m<x)=false:=Ad hm
  have d1':decide ((m:Int)<(x:Int))=false:=Ad zD
  rw[Ak hm]
  clear hm;go_enter Tryz.func232,Tryz.ntmps232
  go_wp2_with fail;refine HA.out.mono ?_
  rintro r w' ⟨rfl,rfl⟩;go_wp2_with fail;refine HN.out.mono ?_
  rintro r w1 ⟨rfl,hst⟩;have HST:=hid hst
  clear hst;go_wp2;go_ret;exact⟨rfl,HST.out⟩
theorem Dp(w:World){g:Nat}{B:List UInt8}{a:Option Addr}{s:Rs}(h:AQ w g B a s)(hB:B.length≤1000000000000)(m:Int)(hm: -9223372036854775808≤m∧m≤9223372036854775807):Calls Tryz.prog 185 #[.pointer (some ⟨g,0,none⟩),.int .i64 m] w fun r w'=>r=.returned (.int .i64 ((s.int B m).2:Int))∧Az w g B a (s.int B m).1 w':=by
 by_cases h0:0≤m
 ·obtain⟨n,rfl⟩:∃n:Nat,m=n:=⟨m.toNat,zD⟩
  have HM:=hid (IB w h hB n)
  have hle:(s.int B n).2≤9223372036854775807:=zCf
  have e:s.int B n=s.most B n:=by unfold Rs.int;rw[Al h0];rfl
  rw[e] at hle ⊢
  have d1:decide ((0:Int)≤(n:Int))=true:=Ae h0
  generalize s.most B n=N at*
  obtain⟨s1,x⟩:=N
  dsimp only at*;clear h e;go_enter Tryz.func185,Tryz.ntmps185
  go_wp2_with fail;refine HM.out.mono ?_
  rintro r w1 ⟨rfl,hst⟩;have HST:=hid hst
  clear hst;go_wp2;go_ret;exact⟨rfl,HST.out⟩
 ·have HA:=hid (Bz w h)
  have HN:=hid (Cu w h hB)
  have e:s.int B m=((s.num B).1.fail 2 s.p,0):=by unfold Rs.int;rw[Ak h0]
  rw[e]
  have d1:decide ((0:Int)≤m)=false:=Ad h0
  generalize s.num B=N at*
  obtain⟨s1,x⟩:=N
  dsimp only at*;clear h e h0;go_enter Tryz.func185,Tryz.ntmps185
  go_wp2_with fail;refine HA.out.mono ?_
  rintro r w' ⟨rfl,rfl⟩;go_wp2_with fail;refine HN.out.mono ?_
  rintro r w1 ⟨rfl,hst⟩;have HF:=hid (Bj w1 hst.1 2 s.p zD)
  have HST:=hid hst
  clear hst;go_wp2_with fail;refine HF.out.mono ?_
  rintro r w2 ⟨rfl,hst2⟩;have HST2:=hid hst2
  clear hst2;go_wp2;go_ret;exact⟨rfl,Az.trans HST.out.2 HST2.out⟩
theorem MU(w:World){g:Nat}{B:List UInt8}{a:Option Addr}{s:Rs}(h:AQ w g B a s)(hB:B.length≤1000000000000):Calls Tryz.prog 258 #[.pointer (some ⟨g,0,none⟩)] w fun r w'=>r=.returned (.tuple #[.bool (s.head B).2.1,.int .i64 ((s.head B).2.2:Int)])∧Az w g B a (s.head B).1 w':=by
 have HA:=hid (Bz w h)
 have HN:=hid (Cu w h hB)
 have hsm:=Rs.Ch (B:=B) (s:=s)
 unfold Rs.head;generalize s.num B=N at*
 obtain⟨s1,x⟩:=N
 dsimp only at*;clear h;by_cases hk:s1.k=0
 ·rw[Al hk]
  by_cases h2:x%2=1
  ·have d2:(((x:Int)%2)==1)=true:=by rw[beq_iff_eq];omega
   rw[Al h2]
   by_cases hl:1048572<x/2
   ·have d3:decide ((1048572:Int)<(x:Int)/2)=true:=Ae zD
    rw[Al hl]
    have dk:decide (s1.k=0)=true:=Ae hk
    clear hk h2 hl;go_enter Tryz.func258,Tryz.ntmps258
    go_wp2_with fail;refine HA.out.mono ?_
    rintro r w' ⟨rfl,rfl⟩;go_wp2_with fail;refine HN.out.mono ?_
    rintro r w1 ⟨rfl,hst⟩;have HG:=hid (AA w1 hst.1)
    rw[dk] at HG
    have HST:=hid hst
    clear hst dk;go_wp2_with fail;refine HG.out.mono ?_
    rintro r w2 ⟨rfl,hb2⟩;have HF:=hid (Bj w2 (HST.out.1.later hb2) 2 s.p zD)
    go_wp2_with fail;refine HF.out.mono ?_
    rintro r w3 ⟨rfl,hst3⟩;have HST3:=hid hst3
    clear hst3;go_wp2;go_ret2
    exact⟨rfl,Az.trans (HST.out.then hb2).2 HST3.out⟩
   ·have d3:decide ((1048572:Int)<(x:Int)/2)=false:=Ad zD
    rw[Ak hl]
    have dk:decide (s1.k=0)=true:=Ae hk
    clear hk h2;go_enter Tryz.func258,Tryz.ntmps258
    go_wp2_with fail;refine HA.out.mono ?_
    rintro r w' ⟨rfl,rfl⟩;go_wp2_with fail;refine HN.out.mono ?_
    rintro r w1 ⟨rfl,hst⟩;have HG:=hid (AA w1 hst.1)
    rw[dk] at HG
    have HST:=hid hst
    clear hst dk;go_wp2_with fail;refine HG.out.mono ?_
    rintro r w2 ⟨rfl,hb2⟩;go_wp2;go_ret2
    exact⟨zR,HST.out.then hb2⟩
  ·have d2:(((x:Int)%2)==1)=false:=by rw[B6];omega
   rw[Ak h2]
   by_cases hl:1048575<x/2
   ·have d3:decide ((1048575:Int)<(x:Int)/2)=true:=Ae zD
    rw[Al hl]
    have dk:decide (s1.k=0)=true:=Ae hk
    clear hk h2 hl;go_enter Tryz.func258,Tryz.ntmps258
    go_wp2_with fail;refine HA.out.mono ?_
    rintro r w' ⟨rfl,rfl⟩;go_wp2_with fail;refine HN.out.mono ?_
    rintro r w1 ⟨rfl,hst⟩;have HG:=hid (AA w1 hst.1)
    rw[dk] at HG
    have HST:=hid hst
    clear hst dk;go_wp2_with fail;refine HG.out.mono ?_
    rintro r w2 ⟨rfl,hb2⟩;have HF:=hid (Bj w2 (HST.out.1.later hb2) 2 s.p zD)
    go_wp2_with fail;refine HF.out.mono ?_
    rintro r w3 ⟨rfl,hst3⟩;have HST3:=hid hst3
    clear hst3;go_wp2;go_ret2
    exact⟨rfl,Az.trans (HST.out.then hb2).2 HST3.out⟩
   ·have d3:decide ((1048575:Int)<(x:Int)/2)=false:=Ad zD
    rw[Ak hl]
    have dk:decide (s1.k=0)=true:=Ae hk
    clear hk h2;go_enter Tryz.func258,Tryz.ntmps258
    go_wp2_with fail;refine HA.out.mono ?_
    rintro r w' ⟨rfl,rfl⟩;go_wp2_with fail;refine HN.out.mono ?_
    rintro r w1 ⟨rfl,hst⟩;have HG:=hid (AA w1 hst.1)
    rw[dk] at HG
    have HST:=hid hst
    clear hst dk;go_wp2_with fail;refine HG.out.mono ?_
    rintro r w2 ⟨rfl,hb2⟩;go_wp2;go_ret2
    exact⟨zR,HST.out.then hb2⟩
 ·rw[Ak hk]
  have dk:decide (s1.k=0)=false:=Ad hk
  clear hk;go_enter Tryz.func258,Tryz.ntmps258
  go_wp2_with fail;refine HA.out.mono ?_
  rintro r w' ⟨rfl,rfl⟩;go_wp2_with fail;refine HN.out.mono ?_
  rintro r w1 ⟨rfl,hst⟩;have HG:=hid (AA w1 hst.1)
  rw[dk] at HG
  have HST:=hid hst
  clear hst dk;go_wp2_with fail;refine HG.out.mono ?_
  rintro r w2 ⟨rfl,hb2⟩;go_wp2;go_ret2
  exact⟨rfl,HST.out.then hb2⟩
theorem KZ(w:World){g:Nat}{B:List UInt8}{a:Option Addr}{s:Rs}(h:AQ w g B a s)(hB:B.length≤1000000000000):Calls Tryz.prog 259 #[.pointer (some ⟨g,0,none⟩)] w fun r w'=>r=.returned (.int .i64 ((s.offset B).2:Int))∧Az w g B a (s.offset B).1 w':=by
 have HA:=hid (Bz w h)
 have HN:=hid (Cu w h hB)
 have hsm:=Rs.Ch (B:=B) (s:=s)
 unfold Rs.offset;dsimp only;generalize s.num B=N at*
 obtain⟨s1,x⟩:=N
 dsimp only at*;clear h;by_cases hl:65536≤x
 ·have d1:decide ((65536:Int)≤(x:Int))=true:=Ae zD
  have hnk:(s1.fail 10 s.p).k≠0:=by unfold Rs.fail;split<;>simp_all
  rw[Al hl,Ak hnk]
  have dk:decide ((s1.fail 10 s.p).k=0)=false:=Ad hnk
  have HFF:=hid (fun (W:World) (h:AQ W g B a s1)=>Bj W h 10 s.p zD)
  generalize s1.fail 10 s.p=s2 at*
  clear hl hnk;go_enter Tryz.func259,Tryz.ntmps259
  go_wp2_with fail;refine HA.out.mono ?_
  rintro r w' ⟨rfl,rfl⟩;go_wp2_with fail;refine HN.out.mono ?_
  rintro r w1 ⟨rfl,hst⟩;have HF:=hid (HFF.out w1 hst.1)
  have HST:=hid hst
  clear hst;go_wp2_with fail;refine HF.out.mono ?_
  rintro r w2 ⟨rfl,hst2⟩;have HG:=hid (AA w2 hst2.1)
  rw[dk] at HG
  have HST2:=hid hst2
  clear hst2 dk;go_wp2_with fail;refine HG.out.mono ?_
  rintro r w3 ⟨rfl,hb3⟩;go_wp2;go_ret;exact⟨rfl,Az.trans HST.out.2 (HST2.out.then hb3)⟩
 ·have d1:decide ((65536:Int)≤(x:Int))=false:=Ad zD
  rw[Ak hl]
  by_cases hk:s1.k=0
  all_goals
   first | rw[Al hk] | rw[Ak hk]
   first | have dk:decide (s1.k=0)=true:=Ae hk | have dk:decide (s1.k=0)=false:=Ad hk
   clear hk;go_enter Tryz.func259,Tryz.ntmps259
   go_wp2_with fail;refine HA.out.mono ?_
   rintro r w' ⟨rfl,rfl⟩;go_wp2_with fail;refine HN.out.mono ?_
   rintro r w1 ⟨rfl,hst⟩;have HG:=hid (AA w1 hst.1)
   rw[dk] at HG
   have HST:=hid hst
   clear hst dk;go_wp2_with fail;refine HG.out.mono ?_
   rintro r w3 ⟨rfl,hb3⟩;go_wp2;go_ret;exact⟨zBr,HST.out.then hb3⟩
def CR:List UInt8→Nat
 | []=>0
 | c::l=>c.toNat%128+128*CR l
theorem KO:∀(l:List UInt8) (c:UInt8),CR (l++[c])=CR l+c.toNat%128*128^l.length
 | [],c=>by simp[CR]
 | d::l,c=>by
  simp only[List.cons_append,CR,KO l c,Bw,Nat.pow_succ]
  rw[Nat.mul_add,Nat.mul_comm (128^l.length) 128,Nat.mul_left_comm]
  omega
theorem OB:∀l:List UInt8,CR l<128^l.length
 | []=>by simp[CR]
 | c::l=>by
  have:=OB l
  simp only[CR,Bw,Nat.pow_succ]
  omega
theorem GG:∀(l:List UInt8) (k:Nat),CR (l.drop k)≤CR l
 | [],k=>by simp
 | c::l,0=>by simp
 | c::l,k+1=>by
  have:=GG l k
  simp only[List.drop_succ_cons,CR]
  omega
theorem Sb{l:List UInt8}{m:Nat}(h:m<l.length):CR (l.drop m)=l[m].toNat%128+128*CR (l.drop (m+1)):=by
 rw[AL h];rfl
theorem KN{l:List UInt8}{n:Nat}(h:n<l.length):CR (l.take (n+1))=CR (l.take n)+l[n].toNat%128*128^n:=by
 rw[H7 h,KO,List.length_take,Nat.min_eq_left zD]
theorem FA(l:List UInt8)(n:Nat):CR (l.take n)<128^n:=An (OB _) (Nat.pow_le_pow_right zD zK)
theorem Iu{i X c:Nat}(hi:i≤9)(hX:X<128^i)(h:i=9→c≤1):X+c%128*128^i<18446744073709551616:=by
 by_cases h9:i=9
 ·subst h9
  have h1:(128:Nat)^9=9223372036854775808:=zS
  rw[h1] at*
  have:=h rfl
  have h2:c%128*9223372036854775808≤1*9223372036854775808:=Cf _ zD
  omega
 ·have h1:(128:Nat)^i≤128^8:=Nat.pow_le_pow_right zD zD
  have h3:(128:Nat)^8=72057594037927936:=zS
  have h2:c%128*128^i≤127*128^i:=Cf _ zD
  omega
def I5(L:Nat)(r:Nat × Nat × Int):Nat × Nat × Int × Int:=
 if r.2.2=0 then (r.1,r.2.1,0,0) else if r.2.2=1 then (0,0,1,(L:Int)) else (0,0,r.2.2,(r.2.1:Int)-1)
def Pc(b:List UInt8):Nat × Nat × Int × Int:=I5 b.length (CI 0 0 b)
theorem QQ{b:List UInt8}{n:Nat}(h:n<b.length):CI n (CR (b.take n)) (b.drop n)=
  if n=9∧1<b[n].toNat then (0,n+1,5) else if 0<n∧b[n].toNat=0 then (0,n+1,4) else if b[n].toNat<128 then (CR (b.take n)+b[n].toNat*128^n,n+1,0) else CI (n+1) (CR (b.take (n+1))) (b.drop (n+1)):=by
 rw[AL h,Ib,KN h]
theorem OY(w:World)(b:List UInt8)(a:Option Addr)(n c:Nat)(hl:Ah.r (·<w.heap.size) w [.slice a n c] b)(hB:b.length≤1000000000000):
  Calls Tryz.prog 212 #[.slice a n c] w fun r w'=>r=.returned (.tuple #[.int .u64 ((Pc b).1:Int),.int .i64 ((Pc b).2.1:Int),.agg #[.int .i64 (Pc b).2.2.1,.int .i64 (Pc b).2.2.2]])∧Below w.heap.size w w':=by
 obtain⟨rfl,hm,_,_⟩:=AW hl
 have HL:=hid hl
 clear hl;go_enter Tryz.func212,Tryz.ntmps212
 go_wp2_with fail;refine CC (fun W=>Blk W w.heap.size 58 #[.int .i64 0,.int .i64 0]∧Below w.heap.size w W) ⟨zB,zA⟩ ?_
 intro W ⟨hF,hbW⟩;go_loopw [5] (fun i wr=>∃n:Nat,n≤b.length∧n≤9∧i=.int .i64 n∧Hid (Pc b=I5 b.length (CI n (CR (b.take n)) (b.drop n)))∧wr=W) (fun i _=>b.length-(intOf i).toNat)
 case atStart=>exact ⟨0,Am _,zD,rfl,hid rfl,rfl⟩
 case round=>
  obtain⟨n,hn,hn9,rfl,hg,rfl⟩:=hrel
  rcases Ba n b.length with hlt | hge
  ·obtain⟨ga,oa,hA,hga,hc⟩:=Bq (lift HL.out hbW) hlt
   subst hA;have d0:decide ((n:Int)<(b.length:Int))=true:=Ae zD
   have d0':decide (n<b.length)=true:=Ae hlt
   have i1:(n:Int)<(b.length:Int):=zD
   have hgv:=hg.out
   have hvat:=QQ hlt
   have hdt:=KN hlt
   generalize b[n]=e at hvat hdt hc
   have hc255:=e.toNat_lt
   by_cases h9:n=9
   ·have d1:((n:Int)==9)=true:=by rw[h9];rfl
    have d3:decide ((0:Int)<(n:Int))=true:=Ae zD
    have d3':decide (0<n)=true:=Ae zD
    by_cases hc1:1<e.toNat
    ·have d2:decide ((1:Int)<(e.toNat:Int))=true:=Ae zD
     have d2':decide (1<e.toNat)=true:=Ae zD
     rw[hvat,Al ⟨h9,hc1⟩] at hgv
     have HG:=hid hgv
     clear hgv hg hvat hdt
     (try clear h9);(try clear hc0);(try clear hc1);(try clear hn0);(try clear hc7)
     go_wp2_with fail;refine (Ed wr 5 n zD).mono ?_
     rintro r w1 ⟨rfl,hb1⟩;obtain⟨y0,y1,g0,g1,l1⟩:=CQ (hF.later hb1)
     have hbw1:=Af hb1 hbW
     go_wp2;refine Ag (v:=.tuple #[.int .u64 0,.int .i64 0,.agg #[.int .i64 5,.int .i64 n]]) ZJ rfl ⟨?_,zA⟩
     rw[HG.out]
     simp[I5]
    ·have d2:decide ((1:Int)<(e.toNat:Int))=false:=Ad zD
     have d2':decide (1<e.toNat)=false:=Ad zD
     by_cases hc0:e.toNat=0
     ·have d4:((e.toNat:Int)==0)=true:=by rw[hc0];rfl
      rw[hvat,Ak (fun e=>hc1 e.2),Al ⟨zD,hc0⟩] at hgv
      have HG:=hid hgv
      clear hgv hg hvat hdt
      (try clear h9);(try clear hc0);(try clear hc1);(try clear hn0);(try clear hc7)
      go_wp2_with fail;refine (Ed wr 4 n zD).mono ?_
      rintro r w1 ⟨rfl,hb1⟩;obtain⟨y0,y1,g0,g1,l1⟩:=CQ (hF.later hb1)
      have hbw1:=Af hb1 hbW
      go_wp2;refine Ag (v:=.tuple #[.int .u64 0,.int .i64 0,.agg #[.int .i64 4,.int .i64 n]]) ZJ rfl ⟨?_,zA⟩
      rw[HG.out]
      simp[I5]
     ·have d4:((e.toNat:Int)==0)=false:=by rw[B6];omega
      have d5:decide ((e.toNat:Int)<128)=true:=Ae zD
      have d5':decide (e.toNat<128)=true:=Ae zD
      have hfit:=DV hn9 (FA b n) (c:=e.toNat) (fun _=>zD)
      have hmod:e.toNat%128=e.toNat:=DF zD
      rw[hvat,Ak (fun e=>hc1 e.2),Ak (fun e=>hc0 e.2),Al zD] at hgv
      have HDT:=hid hdt
      have hL:CR (b.take (n+1))<18446744073709551616:=by
       rw[HDT.out]
       exact Iu hn9 (FA b n) (fun _=>zD)
      rw[←hmod,←HDT.out] at hgv
      have HG:=hid hgv
      have hn1:Hid ((b.take (n+1)).length=n+1):=hid zK
      have HTK:Hid (∀m,(h:m<n+1)→(b.take (n+1))[m]'(by rw[hn1.out];exact h)=b[m]'zD):=hid (fun m h=>zR)
      have hd0:Hid (CR ((b.take (n+1)).drop (n+1))=0):=hid zA9
      generalize b.take (n+1)=L at*
      clear hgv hg hfit hmod HDT hvat hdt;have H9:=hid h9;have h9n:n≤9∧9≤n:=zD
      have d09:decide ((9:Int)<(b.length:Int))=true:=Ae zD
      have d09':decide (9<b.length)=true:=Ae zD
      have i19:(9:Int)<(b.length:Int):=zD
      have hc9:=hc
      rw[show oa+n=oa+9 by omega] at hc9
      (try clear h9);(try clear hc0);(try clear hc1);(try clear hn0);(try clear hc7)
      go_wp2_with fail;go_loopw [6,7] (fun x i w2=>∃(k:Nat) (j:Int),k≤n+1∧Hid (j=(k:Int)-1)∧-1≤j∧j≤n∧i=.int .i64 j∧x=.int .u64 ((CR (L.drop k):Nat):Int)∧w2=wr) (fun _ i _=>(intOf i+1).toNat)
      case atStart=>exact ⟨n+1,n,zD,hid zD,zD,zD,rfl,by rw[hd0.out];rfl,rfl⟩
      case round=>
       obtain⟨k,j,hk,hj,hj1,hj2,rfl,rfl,rfl⟩:=hrel
       rcases C6 k with hk0 | hk0
       ·have e1:j=-1:=by have:=hj.out;omega
        subst e1;subst hk0;have e2:Hid (L.drop 0=L):=hid rfl
        rw[e2.out]
        obtain⟨y0,y1,g0,g1,l1⟩:=CQ hF
        go_wp2;refine Ag (v:=.tuple #[.int .u64 ((CR L:Nat):Int),.int .i64 (10),.agg #[.int .i64 0,.int .i64 0]]) ZJ rfl ⟨?_,zA⟩
        rw[HG.out]
        simp[I5,H9.out]
       ·obtain⟨m,rfl⟩:∃m,k=m+1:=⟨k-1,zD⟩
        obtain rfl:j=(m:Int):=by have:=hj.out;omega
        have hmb:m<b.length:=zD
        obtain⟨gb,ob,hA,_,hcm⟩:=Bq (lift HL.out hbW) hmb
        simp only[Cc,Gy,At] at hA
        obtain⟨rfl,rfl⟩:=hA
        have HS:Hid (CR (L.drop m)=b[m].toNat%128+128*CR (L.drop (m+1))):=hid zAp
        have hle:CR (L.drop m)<18446744073709551616:=Nat.lt_of_le_of_lt (GG L m) hL
        rw[HS.out] at hle
        generalize CR (L.drop (m+1))=X at*
        generalize b[m]=d at*
        have i1:(m:Int)<(b.length:Int):=zD
        have i2:(0:Int)≤(m:Int):=zD
        have hd:=d.toNat_lt
        have hle2:128*(X:Int)+(d.toNat:Int)%128≤18446744073709551615:=zD
        have hle3:128*(X:Int)≤18446744073709551615:=zD
        have HSM:=hid hj
        clear hj;go_wp2;go_roundw
        case rel=>exact ⟨m,(m:Int)-1,zD,hid rfl,zD,zD,ZB,by rw[HS.out];go_num,zB7⟩
        case measure=>simp [intOf]
   ·have d1:((n:Int)==9)=false:=by rw[B6];omega
    by_cases hc0:e.toNat=0
    ·have d4:((e.toNat:Int)==0)=true:=by rw[hc0];rfl
     by_cases hn0:0<n
     ·have d3:decide ((0:Int)<(n:Int))=true:=Ae zD
      have d3':decide (0<n)=true:=Ae zD
      rw[hvat,Ak (fun e=>h9 e.1),Al ⟨hn0,hc0⟩] at hgv
      have HG:=hid hgv
      clear hgv hg hvat hdt
      (try clear h9);(try clear hc0);(try clear hc1);(try clear hn0);(try clear hc7)
      go_wp2_with fail;refine (Ed wr 4 n zD).mono ?_
      rintro r w1 ⟨rfl,hb1⟩;obtain⟨y0,y1,g0,g1,l1⟩:=CQ (hF.later hb1)
      have hbw1:=Af hb1 hbW
      go_wp2;refine Ag (v:=.tuple #[.int .u64 0,.int .i64 0,.agg #[.int .i64 4,.int .i64 n]]) ZJ rfl ⟨?_,zA⟩
      rw[HG.out]
      simp[I5]
     ·have d3:decide ((0:Int)<(n:Int))=false:=Ad zD
      have d3':decide (0<n)=false:=Ad zD
      have d5:decide ((e.toNat:Int)<128)=true:=Ae zD
      have d5':decide (e.toNat<128)=true:=Ae zD
      have hfit:=DV hn9 (FA b n) (c:=e.toNat) (fun e=>absurd e h9)
      have hmod:e.toNat%128=e.toNat:=DF zD
      rw[hvat,Ak (fun e=>h9 e.1),Ak (fun e=>hn0 e.1),Al zD] at hgv
      have HDT:=hid hdt
      have hL:CR (b.take (n+1))<18446744073709551616:=by
       rw[HDT.out]
       exact Iu hn9 (FA b n) (fun e=>absurd e h9)
      rw[←hmod,←HDT.out] at hgv
      have HG:=hid hgv
      have hn1:Hid ((b.take (n+1)).length=n+1):=hid zK
      have HTK:Hid (∀m,(h:m<n+1)→(b.take (n+1))[m]'(by rw[hn1.out];exact h)=b[m]'zD):=hid (fun m h=>zR)
      have hd0:Hid (CR ((b.take (n+1)).drop (n+1))=0):=hid zA9
      generalize b.take (n+1)=L at*
      clear hgv hg hfit hmod HDT hvat hdt
      (try clear h9);(try clear hc0);(try clear hc1);(try clear hn0);(try clear hc7)
      go_wp2_with fail;go_loopw [6,7] (fun x i w2=>∃(k:Nat) (j:Int),k≤n+1∧Hid (j=(k:Int)-1)∧-1≤j∧j≤n∧i=.int .i64 j∧x=.int .u64 ((CR (L.drop k):Nat):Int)∧w2=wr) (fun _ i _=>(intOf i+1).toNat)
      case atStart=>exact ⟨n+1,n,zD,hid zD,zD,zD,rfl,by rw[hd0.out];rfl,rfl⟩
      case round=>
       obtain⟨k,j,hk,hj,hj1,hj2,rfl,rfl,rfl⟩:=hrel
       rcases C6 k with hk0 | hk0
       ·have e1:j=-1:=by have:=hj.out;omega
        subst e1;subst hk0;have e2:Hid (L.drop 0=L):=hid rfl
        rw[e2.out]
        obtain⟨y0,y1,g0,g1,l1⟩:=CQ hF
        go_wp2;refine Ag (v:=.tuple #[.int .u64 ((CR L:Nat):Int),.int .i64 ((n:Int)+1),.agg #[.int .i64 0,.int .i64 0]]) ZJ rfl ⟨?_,zA⟩
        rw[HG.out]
        simp[I5]
       ·obtain⟨m,rfl⟩:∃m,k=m+1:=⟨k-1,zD⟩
        obtain rfl:j=(m:Int):=by have:=hj.out;omega
        have hmb:m<b.length:=zD
        obtain⟨gb,ob,hA,_,hcm⟩:=Bq (lift HL.out hbW) hmb
        simp only[Cc,Gy,At] at hA
        obtain⟨rfl,rfl⟩:=hA
        have HS:Hid (CR (L.drop m)=b[m].toNat%128+128*CR (L.drop (m+1))):=hid zAp
        have hle:CR (L.drop m)<18446744073709551616:=Nat.lt_of_le_of_lt (GG L m) hL
        rw[HS.out] at hle
        generalize CR (L.drop (m+1))=X at*
        generalize b[m]=d at*
        have i1:(m:Int)<(b.length:Int):=zD
        have i2:(0:Int)≤(m:Int):=zD
        have hd:=d.toNat_lt
        have hle2:128*(X:Int)+(d.toNat:Int)%128≤18446744073709551615:=zD
        have hle3:128*(X:Int)≤18446744073709551615:=zD
        have HSM:=hid hj
        clear hj;go_wp2;go_roundw
        case rel=>exact ⟨m,(m:Int)-1,zD,hid rfl,zD,zD,ZB,by rw[HS.out];go_num,zB7⟩
        case measure=>simp [intOf]
    ·have d4:((e.toNat:Int)==0)=false:=by rw[B6];omega
     by_cases hc7:e.toNat<128
     ·have d5:decide ((e.toNat:Int)<128)=true:=Ae zD
      have d5':decide (e.toNat<128)=true:=Ae zD
      have HN0:∃q,decide ((0:Int)<(n:Int))=q∧decide (0<n)=q:=⟨_,rfl,zR⟩
      obtain⟨q,d3,d3'⟩:=HN0
      cases q;all_goals
       have hfit:=DV hn9 (FA b n) (c:=e.toNat) (fun e=>absurd e h9)
       have hmod:e.toNat%128=e.toNat:=DF zD
       rw[hvat,Ak (fun e=>h9 e.1),Ak (fun e=>hc0 e.2),Al hc7] at hgv
       have HDT:=hid hdt
       have hL:CR (b.take (n+1))<18446744073709551616:=by
        rw[HDT.out]
        exact Iu hn9 (FA b n) (fun e=>absurd e h9)
       rw[←hmod,←HDT.out] at hgv
       have HG:=hid hgv
       have hn1:Hid ((b.take (n+1)).length=n+1):=hid zK
       have HTK:Hid (∀m,(h:m<n+1)→(b.take (n+1))[m]'(by rw[hn1.out];exact h)=b[m]'zD):=hid (fun m h=>zR)
       have hd0:Hid (CR ((b.take (n+1)).drop (n+1))=0):=hid zA9
       generalize b.take (n+1)=L at*
       clear hgv hg hfit hmod HDT hvat hdt
       (try clear h9);(try clear hc0);(try clear hc1);(try clear hn0);(try clear hc7)
       go_wp2_with fail;go_loopw [6,7] (fun x i w2=>∃(k:Nat) (j:Int),k≤n+1∧Hid (j=(k:Int)-1)∧-1≤j∧j≤n∧i=.int .i64 j∧x=.int .u64 ((CR (L.drop k):Nat):Int)∧w2=wr) (fun _ i _=>(intOf i+1).toNat)
       case atStart=>exact ⟨n+1,n,zD,hid zD,zD,zD,rfl,by rw[hd0.out];rfl,rfl⟩
       case round=>
        obtain⟨k,j,hk,hj,hj1,hj2,rfl,rfl,rfl⟩:=hrel
        rcases C6 k with hk0 | hk0
        ·have e1:j=-1:=by have:=hj.out;omega
         subst e1;subst hk0;have e2:Hid (L.drop 0=L):=hid rfl
         rw[e2.out]
         obtain⟨y0,y1,g0,g1,l1⟩:=CQ hF
         go_wp2;refine Ag (v:=.tuple #[.int .u64 ((CR L:Nat):Int),.int .i64 ((n:Int)+1),.agg #[.int .i64 0,.int .i64 0]]) ZJ rfl ⟨?_,zA⟩
         rw[HG.out]
         simp[I5]
        ·obtain⟨m,rfl⟩:∃m,k=m+1:=⟨k-1,zD⟩
         obtain rfl:j=(m:Int):=by have:=hj.out;omega
         have hmb:m<b.length:=zD
         obtain⟨gb,ob,hA,_,hcm⟩:=Bq (lift HL.out hbW) hmb
         simp only[Cc,Gy,At] at hA
         obtain⟨rfl,rfl⟩:=hA
         have HS:Hid (CR (L.drop m)=b[m].toNat%128+128*CR (L.drop (m+1))):=hid zAp
         have hle:CR (L.drop m)<18446744073709551616:=Nat.lt_of_le_of_lt (GG L m) hL
         rw[HS.out] at hle
         generalize CR (L.drop (m+1))=X at*
         generalize b[m]=d at*
         have i1:(m:Int)<(b.length:Int):=zD
         have i2:(0:Int)≤(m:Int):=zD
         have hd:=d.toNat_lt
         have hle2:128*(X:Int)+(d.toNat:Int)%128≤18446744073709551615:=zD
         have hle3:128*(X:Int)≤18446744073709551615:=zD
         have HSM:=hid hj
         clear hj;go_wp2;go_roundw
         case rel=>exact ⟨m,(m:Int)-1,zD,hid rfl,zD,zD,ZB,by rw[HS.out];go_num,zB7⟩
         case measure=>simp [intOf]
     ·have d5:decide ((e.toNat:Int)<128)=false:=Ad zD
      have d5':decide (e.toNat<128)=false:=Ad zD
      rw[hvat,Ak (fun e=>h9 e.1),Ak (fun e=>hc0 e.2),Ak hc7] at hgv
      have HG:=hid hgv
      have hn8:n+1≤9:=zD
      clear hgv hg h9 hc0 hc7 hvat hdt;have HN0:∃q,decide ((0:Int)<(n:Int))=q∧decide (0<n)=q:=⟨_,rfl,zR⟩
      obtain⟨q,d3,d3'⟩:=HN0
      cases q;all_goals
       go_wp2;go_roundw
       case rel=>exact ⟨n+1,zD,hn8,ZB,HG,zB7⟩
       case measure=>simp [intOf];omega
  ·obtain rfl:n=b.length:=by omega
   have hgv:=hg.out
   rw[List.drop_length] at hgv
   have HG:=hid hgv
   have d0:decide ((b.length:Int)<(b.length:Int))=false:=Ad zD
   clear hgv hg;go_wp2_with fail;refine (Ed wr 1 b.length zD).mono ?_
   rintro r w1 ⟨rfl,hb1⟩;obtain⟨y0,y1,g0,g1,l1⟩:=CQ (hF.later hb1)
   have hbw1:=Af hb1 hbW
   go_wp2;refine Ag (v:=.tuple #[.int .u64 0,.int .i64 0,.agg #[.int .i64 1,.int .i64 b.length]]) ZJ rfl ⟨?_,zA⟩
   rw[HG.out]
   simp[I5,CI]
theorem LH:∀(l:List UInt8) (i x:Nat),(CI i x l).2.2≠0→(CI i x l).1=0
 | [],i,x,_=>rfl
 | c::l,i,x,h=>by
  rw[Ib] at h ⊢
  by_cases h1:i=9∧1<c.toNat
  ·rw[Al h1]
  ·rw[Ak h1] at h ⊢
   by_cases h2:0<i∧c.toNat=0
   ·rw[Al h2]
   ·rw[Ak h2] at h ⊢
    by_cases h3:c.toNat<128
    ·rw[Al h3] at h;simp at h
    ·rw[Ak h3] at h ⊢
     exact LH l _ _ h
theorem CA(w:World)(a:Option Addr)(c:Nat)(B:List UInt8)(hl:Ah.r (·<w.heap.size) w [.slice a B.length c] B)(s:Rs)(hs:s.ok B.length)(hB:B.length≤1000000000000):
  Calls Tryz.prog 139 #[CV a B.length c s] w fun r w'=>r=.returned (.tuple #[CV a B.length c (s.num B).1,.int .u64 ((s.num B).2:Int)])∧Below w.heap.size w w':=by
 have hle:=hs.le
 by_cases h0:s.k=0
 ·have d0:(s.k !=(0:Int))=false:=by simp[h0]
  obtain⟨aD,cD,hsl,hsub⟩:=RI hl (lo:=s.p) hle
  have hu:=EJ (B.drop s.p) 0 0
  have hln:(B.drop s.p).length=B.length-s.p:=zR
  have hGET:=hid (fun (W:World) (hW:Below w.heap.size w W)=>OY W (B.drop s.p) aD _ cD (lift hsub hW) zD)
  have hnum:s.num B=(⟨s.p+(CI 0 0 (B.drop s.p)).2.1,(CI 0 0 (B.drop s.p)).2.2,if (CI 0 0 (B.drop s.p)).2.2=0 then 0 else if (CI 0 0 (B.drop s.p)).2.2=1 then B.length else s.p+(CI 0 0 (B.drop s.p)).2.1-1⟩,(CI 0 0 (B.drop s.p)).1):=by
   unfold Rs.num;rw[Al h0]
  unfold Pc at hGET;rw[hnum]
  have hsm:=GW (B.drop s.p) 0 0 zD zR
  have hvx:=LH (B.drop s.p) 0 0
  generalize B.drop s.p=D at*
  generalize CI 0 0 D=R at*
  obtain⟨x,u,k⟩:=R
  dsimp only at*;have hz:=hs.zero h0
  have H0:=hid h0;have HZ:=hid hz
  clear hl hs h0 hz hsub hnum;unfold CV;by_cases hk0:k=0
  ·subst hk0
   simp only[I5,Dx] at hGET ⊢
   go_enter Tryz.func139,Tryz.ntmps139
   go_wp2_with fail;refine (hGET.out _ zA).mono ?_
   rintro r w1 ⟨rfl,hb⟩;have B0:Blk w1 w.heap.size 60 #[.slice a B.length c,.int .i64 (s.p:Int),.int .i64 s.k,.int .i64 s.f]:=Blk.later zB hb
   have B1:Blk w1 (w.heap.size+1) 60 #[.slice none 0 0,.int .i64 0,.int .i64 0,.int .i64 0]:=Blk.later zB hb
   obtain⟨x0,x1,x2,x3,e0,e1,e2,e3,l0⟩:=Ap B0
   obtain⟨y0,y1,y2,y3,g0,g1,g2,g3,l1⟩:=Ap B1
   have hbw:Below w.heap.size w w1:=zA
   clear B0 B1 hb;go_wp2;refine Ag (v:=.tuple #[.agg #[.slice a B.length c,.int .i64 ((s.p:Int)+(u:Int)),.int .i64 s.k,.int .i64 s.f],.int .u64 (x:Int)]) zAl rfl ⟨?_,zA⟩
   rw[H0.out,HZ.out]
   rfl
  ·by_cases hk1:k=1
   ·subst hk1
    have hu1:=hu.2.2.2.1 rfl
    have hx0:x=0:=by have:=hvx;exact hvx zD
    subst hx0;have HP:Hid (((s.p+u:Nat):Int)=(B.length:Int)):=hid zD
    simp only[I5,Dx,show ¬((1:Int)=0) by omega,if_false] at hGET ⊢
    rw[HP.out]
    go_enter Tryz.func139,Tryz.ntmps139
    go_wp2_with fail;refine (hGET.out _ zA).mono ?_
    rintro r w1 ⟨rfl,hb⟩;have B0:Blk w1 w.heap.size 60 #[.slice a B.length c,.int .i64 (s.p:Int),.int .i64 s.k,.int .i64 s.f]:=Blk.later zB hb
    have B1:Blk w1 (w.heap.size+1) 60 #[.slice none 0 0,.int .i64 0,.int .i64 0,.int .i64 0]:=Blk.later zB hb
    have hbw:Below w.heap.size w w1:=zA
    obtain⟨x0,x1,x2,x3,e0,e1,e2,e3,l0⟩:=Ap B0
    obtain⟨y0,y1,y2,y3,g0,g1,g2,g3,l1⟩:=Ap B1
    clear hb;go_wp2_with fail;refine (Ed _ 1 B.length zD).mono ?_
    rintro r w2 ⟨rfl,hb2⟩;have B0':Blk w2 w.heap.size 60 #[.slice a B.length c,.int .i64 (B.length:Int),.int .i64 s.k,.int .i64 s.f]:=Blk.later (Blk.alloc (Blk.set B0 1 (.int .i64 (B.length:Int))) _) hb2
    have B1':Blk w2 (w.heap.size+1) 60 #[.slice none 0 0,.int .i64 0,.int .i64 0,.int .i64 0]:=Blk.later (Blk.alloc (Blk.far B1 zR _) _) hb2
    have BF:Blk w2 w1.heap.size 58 #[.int .i64 1,.int .i64 ((B.length-s.p:Nat):Int)]:=Blk.later (Blk.newAt _ _ _ ZS) hb2
    have hbw2:Below w.heap.size w w2:=zA
    clear x0 x1 x2 x3 e0 e1 e2 e3 l0 y0 y1 y2 y3 g0 g1 g2 g3 l1 B0 B1 hb2;obtain⟨x0,x1,x2,x3,e0,e1,e2,e3,l0⟩:=Ap B0'
    obtain⟨y0,y1,y2,y3,g0,g1,g2,g3,l1⟩:=Ap B1'
    obtain⟨z0,z1,f0,f1,lz⟩:=CQ BF
    clear B0' B1' BF;go_wp2;refine Ag (v:=.tuple #[.agg #[.slice a B.length c,.int .i64 (B.length:Int),.int .i64 1,.int .i64 (B.length:Int)],.int .u64 0]) zAl rfl ⟨rfl,zA⟩
   ·have hk4:k≠0∧k≠1:=⟨hk0,hk1⟩
    have hu5:=hu.2.2.2.2 hk1
    have d2:(k==(0:Int))=false:=zBp
    have d3:(k==(1:Int))=false:=zBh
    have d4:(k !=(1:Int))=true:=zBh
    have hx0:x=0:=hvx hk0
    subst hx0;simp only[I5,hk0,hk1,if_false] at hGET ⊢
    go_enter Tryz.func139,Tryz.ntmps139
    go_wp2_with fail;refine (hGET.out _ zA).mono ?_
    rintro r w1 ⟨rfl,hb⟩;have B0:Blk w1 w.heap.size 60 #[.slice a B.length c,.int .i64 (s.p:Int),.int .i64 s.k,.int .i64 s.f]:=Blk.later zB hb
    have B1:Blk w1 (w.heap.size+1) 60 #[.slice none 0 0,.int .i64 0,.int .i64 0,.int .i64 0]:=Blk.later zB hb
    have hbw:Below w.heap.size w w1:=zA
    obtain⟨x0,x1,x2,x3,e0,e1,e2,e3,l0⟩:=Ap B0
    obtain⟨y0,y1,y2,y3,g0,g1,g2,g3,l1⟩:=Ap B1
    clear hb;go_wp2_with fail;refine (Ed _ k _ hk0).mono ?_
    rintro r w2 ⟨rfl,hb2⟩;have B0':Blk w2 w.heap.size 60 #[.slice a B.length c,.int .i64 ((s.p:Int)+((u:Int)-1)+1),.int .i64 s.k,.int .i64 s.f]:=Blk.later (Blk.alloc (Blk.set B0 1 (.int .i64 ((s.p:Int)+((u:Int)-1)+1))) _) hb2
    have B1':Blk w2 (w.heap.size+1) 60 #[.slice none 0 0,.int .i64 0,.int .i64 0,.int .i64 0]:=Blk.later (Blk.alloc (Blk.far B1 zR _) _) hb2
    have BF:Blk w2 w1.heap.size 58 #[.int .i64 k,.int .i64 ((u:Int)-1)]:=Blk.later (Blk.newAt _ _ _ ZS) hb2
    have hbw2:Below w.heap.size w w2:=zA
    clear x0 x1 x2 x3 e0 e1 e2 e3 l0 y0 y1 y2 y3 g0 g1 g2 g3 l1 B0 B1 hb2;have HB0:=hid B0'
    have HB1:=hid B1'
    obtain⟨x0,x1,x2,x3,e0,e1,e2,e3,l0⟩:=Ap B0'
    obtain⟨z0,z1,f0,f1,lz⟩:=CQ BF
    clear B0' B1' BF;have hK0:=hid hk0
    clear hk4 hk0 hk1;go_upto_region 13 with (fail)
    refine CC (fun W=>Blk W w.heap.size 60 #[.slice a B.length c,.int .i64 ((s.p:Int)+((u:Int)-1)+1),.int .i64 k,.int .i64 ((s.p:Int)+((u:Int)-1))]∧Blk W (w.heap.size+1) 60 #[.slice none 0 0,.int .i64 0,.int .i64 0,.int .i64 0]∧Below w.heap.size w W) ⟨?_,?_,zA⟩ ?_
    ·exact Blk.set (Blk.set (Blk.set HB0.out 2 _) 3 _) 3 _
    ·exact Blk.far (Blk.far (Blk.far HB1.out zR _) zR _) zR _
    rintro W ⟨B0,B1,hbW⟩;clear x0 x1 x2 x3 e0 e1 e2 e3 l0 z0 z1 f0 f1 lz;obtain⟨x0,x1,x2,x3,e0,e1,e2,e3,l0⟩:=Ap B0
    obtain⟨y0,y1,y2,y3,g0,g1,g2,g3,l1⟩:=Ap B1
    clear B0 B1;go_wp2;refine Ag (v:=.tuple #[.agg #[.slice a B.length c,.int .i64 ((s.p:Int)+((u:Int)-1)+1),.int .i64 k,.int .i64 ((s.p:Int)+((u:Int)-1))],.int .u64 0]) zAl rfl ⟨by rw[show ((s.p:Int)+((u:Int)-1)+1)=((s.p+u:Nat):Int) by omega,show (s.p:Int)+((u:Int)-1)=(s.p:Int)+(u:Int)-1 by omega];rfl,by (repeat (first | with_reducible exact Below.refl _ _ | with_reducible assumption | (with_reducible refine As ?_ _) | (with_reducible refine Below.setCell ?_ zE _) | (with_reducible refine Below.drew ?_) | (with_reducible refine below_drewN ?_ _) | (refine Af zH ?_)))⟩
 ·have d0:(s.k !=(0:Int))=true:=by simp[h0]
  have hnum:s.num B=(s,0):=by unfold Rs.num;rw[Ak h0]
  rw[hnum]
  clear hl hs h0 hnum;unfold CV;go_enter Tryz.func139,Tryz.ntmps139
  go_wp2;refine Ag (v:=.tuple #[.agg #[.slice a B.length c,.int .i64 (s.p:Int),.int .i64 s.k,.int .i64 s.f],.int .u64 0]) (by simp[results,Tryz.results139,go_sem]) rfl ⟨rfl,zA⟩
theorem Jw(w:World)(a:Option Addr)(c:Nat)(B:List UInt8)(hl:Ah.r (·<w.heap.size) w [.slice a B.length c] B)(s:Rs)(hs:s.ok B.length)(hB:B.length≤1000000000000)(m:Nat):
  Calls Tryz.prog 202 #[CV a B.length c s,.int .u64 (m:Int)] w fun r w'=>r=.returned (.tuple #[CV a B.length c (s.most B m).1,.int .u64 ((s.most B m).2:Int)])∧Below w.heap.size w w':=by
 have hR:=hid (fun (W:World) (hW:Below w.heap.size w W)=>CA W a c B (lift hl hW) s hs hB)
 have hF:=hid (fun (W:World) (t:Rs)=>Bg W a B.length c t 2 s.p zD)
 unfold Rs.most;generalize s.num B=N at*
 obtain⟨s1,x⟩:=N
 dsimp only at*;clear hl hs;unfold CV at*;by_cases hm:m<x
 ·have d1:decide (m<x)=true:=Ae hm
  have d1':decide ((m:Int)<(x:Int))=true:=Ae zD
  rw[Al hm]
  have HF:=hid (fun (W:World)=>hF.out W s1)
  dsimp only;generalize s1.fail 2 s.p=s2 at*
  clear hm hF;go_enter Tryz.func202,Tryz.ntmps202
  go_wp2_with fail;refine (hR.out _ zA).mono ?_
  rintro r w1 ⟨rfl,hb⟩;have B1:Blk w1 (w.heap.size+1) 60 #[.slice none 0 0,.int .i64 0,.int .i64 0,.int .i64 0]:=Blk.later zB hb
  have hbw:Below w.heap.size w w1:=zA
  clear hb;go_wp2_with fail;refine (HF.out _).mono ?_
  rintro r w2 ⟨rfl,hb2⟩;have B1':Blk w2 (w.heap.size+1) 60 #[.slice none 0 0,.int .i64 0,.int .i64 0,.int .i64 0]:=Blk.later zB hb2
  have hbw2:Below w.heap.size w w2:=zA
  obtain⟨y0,y1,y2,y3,g0,g1,g2,g3,l1⟩:=Ap B1'
  clear hb2 B1 B1';go_wp2;refine Ag (v:=.tuple #[.agg #[.slice a B.length c,.int .i64 (s2.p:Int),.int .i64 s2.k,.int .i64 s2.f],.int .u64 0]) zCa rfl ⟨rfl,zA⟩
 ·have d1:decide (m<x)=false:=Ad hm
  have d1':decide ((m:Int)<(x:Int))=false:=Ad zD
  rw[Ak hm]
  dsimp only;clear hm hF;go_enter Tryz.func202,Tryz.ntmps202
  go_wp2_with fail;refine (hR.out _ zA).mono ?_
  rintro r w1 ⟨rfl,hb⟩;have B1:Blk w1 (w.heap.size+1) 60 #[.slice none 0 0,.int .i64 0,.int .i64 0,.int .i64 0]:=Blk.later zB hb
  have hbw:Below w.heap.size w w1:=zA
  obtain⟨y0,y1,y2,y3,g0,g1,g2,g3,l1⟩:=Ap B1
  clear hb B1;go_wp2;refine Ag (v:=.tuple #[.agg #[.slice a B.length c,.int .i64 (s1.p:Int),.int .i64 s1.k,.int .i64 s1.f],.int .u64 (x:Int)]) zCa rfl ⟨rfl,zA⟩
theorem DZ(w:World)(a:Option Addr)(c:Nat)(B:List UInt8)(hl:Ah.r (·<w.heap.size) w [.slice a B.length c] B)(s:Rs)(hs:s.ok B.length)(hB:B.length≤1000000000000)(m:Int)(hm: -9223372036854775808≤m∧m≤9223372036854775807):
  Calls Tryz.prog 122 #[CV a B.length c s,.int .i64 m] w fun r w'=>r=.returned (.tuple #[CV a B.length c (s.int B m).1,.int .i64 ((s.int B m).2:Int)])∧Below w.heap.size w w':=by
 by_cases h0:0≤m
 ·obtain⟨n,rfl⟩:∃n:Nat,m=n:=⟨m.toNat,zD⟩
  have hM:=hid (fun (W:World) (hW:Below w.heap.size w W)=>Jw W a c B (lift hl hW) s hs hB n)
  have hle:(s.int B n).2≤9223372036854775807:=zCf
  have e:s.int B n=s.most B n:=by unfold Rs.int;rw[Al h0];rfl
  rw[e] at hle ⊢
  have d1:decide ((0:Int)≤(n:Int))=true:=Ae h0
  generalize s.most B n=N at*
  obtain⟨s1,x⟩:=N
  dsimp only at*;clear hl hs e;unfold CV at*;go_enter Tryz.func122,Tryz.ntmps122
  go_wp2_with fail;refine (hM.out _ zA).mono ?_
  rintro r w1 ⟨rfl,hb⟩;have B1:Blk w1 (w.heap.size+1) 60 #[.slice none 0 0,.int .i64 0,.int .i64 0,.int .i64 0]:=Blk.later zB hb
  have hbw:Below w.heap.size w w1:=zA
  obtain⟨y0,y1,y2,y3,g0,g1,g2,g3,l1⟩:=Ap B1
  clear hb B1;go_wp2;refine Ag (v:=.tuple #[.agg #[.slice a B.length c,.int .i64 (s1.p:Int),.int .i64 s1.k,.int .i64 s1.f],.int .i64 (x:Int)]) zCc rfl ⟨rfl,zA⟩
 ·have hR:=hid (fun (W:World) (hW:Below w.heap.size w W)=>CA W a c B (lift hl hW) s hs hB)
  have e:s.int B m=((s.num B).1.fail 2 s.p,0):=by unfold Rs.int;rw[Ak h0]
  have hF:=hid (fun (W:World)=>Bg W a B.length c (s.num B).1 2 s.p zD)
  rw[e]
  have d1:decide ((0:Int)≤m)=false:=Ad h0
  dsimp only at*;generalize (s.num B).1.fail 2 s.p=s2 at*
  generalize s.num B=N at*
  obtain⟨s1,x⟩:=N
  dsimp only at*;clear hl hs e h0;unfold CV at*;go_enter Tryz.func122,Tryz.ntmps122
  go_wp2_with fail;refine (hR.out _ zA).mono ?_
  rintro r w1 ⟨rfl,hb⟩;have B0:Blk w1 w.heap.size 60 #[.slice a B.length c,.int .i64 (s.p:Int),.int .i64 s.k,.int .i64 s.f]:=Blk.later zB hb
  have B1:Blk w1 (w.heap.size+1) 60 #[.slice none 0 0,.int .i64 0,.int .i64 0,.int .i64 0]:=Blk.later zB hb
  have hbw:Below w.heap.size w w1:=zA
  obtain⟨x0,x1,x2,x3,e0,e1,e2,e3,l0⟩:=Ap B0
  clear hb;go_wp2_with fail;refine (hF.out _).mono ?_
  rintro r w2 ⟨rfl,hb2⟩;have B1':Blk w2 (w.heap.size+1) 60 #[.slice none 0 0,.int .i64 0,.int .i64 0,.int .i64 0]:=Blk.later zB hb2
  have hbw2:Below w.heap.size w w2:=zA
  obtain⟨y0,y1,y2,y3,g0,g1,g2,g3,l1⟩:=Ap B1'
  clear hb2 B1 B1' B0;go_wp2;refine Ag (v:=.tuple #[.agg #[.slice a B.length c,.int .i64 (s2.p:Int),.int .i64 s2.k,.int .i64 s2.f],.int .i64 0]) zCc rfl ⟨rfl,zA⟩
def Rs.BS(B:List UInt8)(s:Rs)(m:Int):Rs × List UInt8:=(s.int B m).1.take B ((s.int B m).2:Int)
theorem Nq(w:World)(a:Option Addr)(c:Nat)(B:List UInt8)(hl:Ah.r (·<w.heap.size) w [.slice a B.length c] B)(s:Rs)(hs:s.ok B.length)(hB:B.length≤1000000000000)(m:Int)(hm: -9223372036854775808≤m∧m≤9223372036854775807):
  Calls Tryz.prog 204 #[CV a B.length c s,.int .i64 m] w fun r w'=>∃v,r=.returned (.tuple #[CV a B.length c (s.BS B m).1,v])∧Ah.r (fun q=>w.heap.size≤q∧q<w'.heap.size) w' [v] (s.BS B m).2∧Below w.heap.size w w':=by
 have hI:=hid (fun (W:World) (hW:Below w.heap.size w W)=>DZ W a c B (lift hl hW) s hs hB m hm)
 have hok:=Rs.DE (B:=B) hs (m:=m)
 have hle:((s.int B m).2:Int)≤9223372036854775807:=zCr
 have hT:=hid (fun (W:World) (hW:Below w.heap.size w W)=>EU W a c B (lift hl hW) (s.int B m).1 hok ((s.int B m).2:Int) hle hB)
 unfold Rs.BS;generalize (s.int B m).1.take B ((s.int B m).2:Int)=T at*
 generalize s.int B m=N at*
 obtain⟨s1,x⟩:=N
 obtain⟨s2,D⟩:=T
 dsimp only at*;clear hl hs hok;unfold CV at*;go_enter Tryz.func204,Tryz.ntmps204
 go_wp2_with fail;refine (hI.out _ zA).mono ?_
 rintro r w1 ⟨rfl,hb⟩;have B1:Blk w1 (w.heap.size+1) 60 #[.slice none 0 0,.int .i64 0,.int .i64 0,.int .i64 0]:=Blk.later zB hb
 have hbw:Below w.heap.size w w1:=zA
 have hs1:=hb.size
 simp at hs1
 clear hb;go_wp2_with fail;refine (hT.out _ zA).mono ?_
 rintro r w2 ⟨v,rfl,hr,hb2⟩;have B1':Blk w2 (w.heap.size+1) 60 #[.slice none 0 0,.int .i64 0,.int .i64 0,.int .i64 0]:=Blk.later zB hb2
 have hbw2:Below w.heap.size w w2:=zA
 obtain⟨y0,y1,y2,y3,g0,g1,g2,g3,l1⟩:=Ap B1'
 obtain⟨a1,c1,hv1,hr2,_⟩:=Au hr
 simp only[Aj,At] at hv1
 subst hv1;have HR:=hid hr2
 clear hr hr2 hb2 B1 B1';go_wp2;refine Ag (v:=.tuple #[.agg #[.slice a B.length c,.int .i64 (s2.p:Int),.int .i64 s2.k,.int .i64 s2.f],.slice a1 D.length c1]) (by simp[results,Tryz.results204,go_sem,y0,y1,y2,y3,l1]) rfl ⟨_,rfl,?_,zA⟩
 refine Ah.mono (Ah.keep HR.out fun q hq=> ?_) fun q hq=>⟨ZH,zBb⟩
 have:=hq.1
 simp at this
 repeat (rw[Below.heap_setCell _ _ _ _ zF])
theorem Po(w:World){g:Nat}{B:List UInt8}{a:Option Addr}{s:Rs}(h:AQ w g B a s)(hB:B.length≤1000000000000)(m:Int)(hm: -9223372036854775808≤m∧m≤9223372036854775807):Calls Tryz.prog 237 #[.pointer (some ⟨g,0,none⟩),.int .i64 m] w fun r w'=>∃v,r=.returned v∧Ah.r (fun q=>w.heap.size≤q∧q<w'.heap.size) w' [v] (s.BS B m).2∧Az w g B a (s.BS B m).1 w':=by
 have HI:=hid (Dp w h hB m hm)
 have hle:((s.int B m).2:Int)≤9223372036854775807:=zCr
 have hT:=hid (fun (W:World) (h:AQ W g B a (s.int B m).1)=>Lb W h ((s.int B m).2:Int) hle hB)
 unfold Rs.BS;generalize (s.int B m).1.take B ((s.int B m).2:Int)=T at*
 generalize s.int B m=N at*
 obtain⟨s1,x⟩:=N
 obtain⟨s2,D⟩:=T
 dsimp only at*;clear h;go_enter Tryz.func237,Tryz.ntmps237
 go_wp2_with fail;refine HI.out.mono ?_
 rintro r w1 ⟨rfl,hst⟩;have HST:=hid hst
 have hs1:=hst.size
 have HT:=hid (hT.out w1 hst.1)
 clear hst;go_wp2_with fail;refine HT.out.mono ?_
 rintro r w2 ⟨v,rfl,hr,hst2⟩;obtain⟨a1,c1,hv1,hr2,_⟩:=Au hr
 simp only[Aj,At] at hv1
 subst hv1;have HR:=hid hr2
 have HST2:=hid hst2
 clear hr hr2 hst2;go_wp2;go_ret;exact⟨_,rfl,Ah.mono HR.out fun q hq=>⟨zD,hq.2⟩,Az.trans HST.out.2 HST2.out⟩
end Go.Proofs.YtlbffbkbkajciaaGreat
