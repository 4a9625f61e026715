/- Mini: Needed by feedNone_walk, part 10: texts put together by shake.py; no condition. -/
import Derived.Test.YtfddhafbhceoaaaGreatWF9
import Derived.Test.YtfddhafbhceoaaaGreatWF8
import Derived.Test.YtfddhafbhceoaaaGreatWF1
import Derived.Test.YtfddhafbhceoaaaGreatWF5
import Derived.Test.YtfddhafbhceoaaaGreatWF2
import Derived.Deep.CutRange
import Derived.Scope
import Derived.Deep.RegionHeld3
import Derived.Test.YtfddhafbhceoaaaGreatProg
import Derived.WalkKit
import Derived.Deep.Cut
import Derived.Deep.WholeRow
import Derived.BigQuiet
import Derived.Test.YtfddhafbhceoaaaGreatWF6
import Derived.Test.YtfddhafbhceoaaaGreatWF4
import Derived.Test.YtfddhafbhceoaaaGreatWF7
import Derived.Test.YtfddhafbhceoaaaGreatWF3
set_option linter.unusedVariables false
set_option linter.unusedSimpArgs false
set_option maxRecDepth 100000
set_option maxHeartbeats 6400000
namespace Go.Bs
theorem zBt{p:Prop}(h:p:=by have := HSI2.out.br.lt; have := HSI2.out.x.lt; omega):p:=h
theorem zBa{p:Prop}(h:p:=by have h9 := (BH HJ4.out q e.symm).2; have h8 := hq.1; omega):p:=h
theorem zA9{p:Prop}(h:p:=by intro cs hcs; obtain ⟨m, _, rfl⟩ := List.mem_map.1 hcs; rfl):p:=h
theorem zAx{p:Prop}(h:p:=by rw [Al]; simp; omega):p:=h
theorem zAa{p:Prop}(h:p:=by simp [results, Tryz.results88, go_sem, World.cell?_setCell_far, q0, q1, q2, q3, q4, q5, q6, q7, q8]):p:=h
theorem G8:type_of% @Proofs.Tryz.ntmps327:=@Proofs.Tryz.ntmps327
theorem IM:type_of% @Proofs.Tryz.func327:=@Proofs.Tryz.func327
open Go.RowKit
structure BX where
 ep:Int
 n:Int
 en:Int
 first:Int
 fin:Int
 at_:Int
 size:Int
def BX.val(f:BX):Array Value:=#[.int .u64 f.ep,.int .i64 f.n,.int .i64 f.en,.int .u64 f.first,.int .u64 f.fin,.int .i64 f.at_,.int .i64 f.size]
structure JD(f:BX):Prop where
 ep:epR f.ep=true
 n0:0≤f.n
 n1:f.n≤16
 en0:f.n≤f.en
 en1:f.en≤f.n*16
 at0:1≤f.at_
 at1:f.at_≤1099511627775
 sz0:1≤f.size
 sz1:f.size≤2097152
 sp:if f.n=0 then f.first=0∧f.fin=0 else 0≤f.first∧f.first<f.fin∧f.fin≤4611686018427387904∧f.en≤f.fin-f.first
def BX.GU(f:BX):List Int:=[f.n,f.en,f.first,f.fin,f.at_,f.size]
theorem JD.GU{f:BX}(h:JD f):∀x∈f.GU,0≤x∧x≤18446744073709551615:=by
 obtain⟨_,h1,h2,h3,h4,h5,h6,h7,h8,h9⟩:=h
 intro x hx
 simp only[BX.GU,List.mem_cons,List.not_mem_nil,or_false] at hx
 split at h9<;>rcases hx with rfl | rfl | rfl | rfl | rfl | rfl<;>omega
end Go.Bs
namespace Go.Proofs.YtfddhafbhceoaaaGreat
open Go.RowKit Go.Bs Go.Maps
variable{m pos:Int}{B D J rest:List UInt8}{xs:List Value}{L base c c1 c2 c3 c4 n p sz:Nat}{S:Nat → Prop}{a a1 a2 a3 a4:Option Addr}{s:Rs}{e:TypeId}{v:Value}{W W' w w':World}
def Du(f:BX):List UInt8:=[3]++AD f.ep.toNat++CN f.GU
theorem GL(f:BX):(Du f).length≤71:=by
 have h1:=(A1 f.ep.toNat).1
 have h2:=H8 f.GU
 simp only[Du,Al,Ay,AZ,BX.GU] at h2 ⊢
 omega
theorem Qm(f:BX)(hR:JD f)(w:World):
  Calls Tryz.prog 327 #[.agg f.val] w fun r w'=>r=.returned (.bool true)∧Below w.heap.size w w':=by
 obtain⟨_,h1,h2,h3,h4,h5,h6,h7,h8,h9⟩:=hR
 obtain⟨ep,n,en,fi,fe,a,s⟩:=f
 dsimp only[BX.val] at*
 by_cases h0:n=0
 ·subst h0
  rw[Ag rfl] at h9
  obtain⟨rfl,rfl⟩:=h9
  clear h1 h2 h3 h4 h5 h6 h7 h8
  go_enter IM,G8
  go_wp2
  go_ret
  exact⟨rfl,zB⟩
 ·rw[Ai h0] at h9
  have d0:(n==0)=false:=beq_eq_false_iff_ne.2 h0
  have d1:decide (fi<fe)=true:=Ad zC
  have d2:decide (fe≤4611686018427387904)=true:=Ad zC
  have d3:decide (en≤fe-fi)=true:=Ad zC
  have e1:en%18446744073709551616=en:=zC
  have e2:0≤fe-fi∧fe-fi≤18446744073709551615:=zC
  go_enter IM,G8
  go_wp2
  go_ret
  exact⟨rfl,zB⟩
theorem Qn(f:BX)(hR:JD f)(w:World):
  Calls Tryz.prog 265 #[.agg f.val] w fun r w'=>r=.returned (.bool true)∧Below w.heap.size w w':=by
 have HS:=hid (fun W:World=>Qm f hR W)
 obtain⟨h0,h1,h2,h3,h4,h5,h6,h7,h8,_⟩:=hR
 obtain⟨ep,n,en,fi,fe,a,s⟩:=f
 dsimp only[BX.val] at*
 have HE:=hid (ED ep)
 rw[h0] at HE
 have d1:decide (0≤n)=true:=Ad h1
 have d2:decide (n≤16)=true:=Ad h2
 have d3:decide (n≤en)=true:=Ad h3
 have d4:decide (en≤n*16)=true:=Ad h4
 have d5:decide (1≤a)=true:=Ad h5
 have d6:decide (a≤1099511627775)=true:=Ad h6
 have d7:decide (1≤s)=true:=Ad h7
 have d8:decide (s≤2097152)=true:=Ad h8
 clear h0
 go_enter Tryz.func265,Tryz.ntmps265
 go_wp2_with fail
 refine (HE.out _).mono ?_
 rintro r w1 ⟨rfl,rfl⟩
 go_wp2_with fail
 refine (HS.out _).mono ?_
 rintro r w1 ⟨rfl,hb1⟩
 go_wp2
 go_ret
 exact⟨rfl,zB⟩
theorem NF(f:BX)(hR:JD f)(w:World):
  Calls Tryz.prog 226 #[.agg f.val] w fun r w'=>∃x,r=.returned (.tuple #[x,.int .i64 0])∧Am.r (fun q=>w.heap.size≤q∧q<w'.heap.size) w' [x] (Du f)∧Below w.heap.size w w':=by
 have HRT:=hid (fun W:World=>Qn f hR W)
 have HNB:=hid hR.GU
 have hpl:=GL f
 have hpe:Hid (Du f=[3]++AD f.ep.toNat++CN f.GU):=hid rfl
 have hep:=hR.ep
 have hep':=hep
 simp only[epR,Ao] at hep'
 obtain⟨_,h1,h2,h3,h4,h5,h6,h7,h8,_⟩:=hR
 have hvl:=(A1 f.ep.toNat).1
 have hnl:Hid (f.GU.length=6):=hid rfl
 have hcs:Hid ((CX f.GU).toArray=#[.int .u64 f.n,.int .u64 f.en,.int .u64 f.first,.int .u64 f.fin,.int .u64 f.at_,.int .u64 f.size]):=hid rfl
 have hst:=hid (fun k h=>It f.GU k h)
 have hle:Hid (∀k (h:k<f.GU.length),(CN (f.GU.take k)).length+(AD (f.GU[k]'h).toNat).length≤60):=hid fun k h=>by
  have e:=A3 List.length (It f.GU k h)
  have e2:=H8 (f.GU.take (k+1))
  rw[Al] at e
  have e3:(f.GU.take (k+1)).length≤6:=by rw[E8];simp[BX.GU];omega
  omega
 generalize Du f=K at*
 generalize f.GU=xs at*
 obtain⟨ep,n,en,fi,fe,at_,s⟩:=f
 dsimp only[BX.val] at*
 have e1:n%18446744073709551616=n:=zC
 have e2:en%18446744073709551616=en:=zC
 have e3:at_%18446744073709551616=at_:=zC
 have e4:s%18446744073709551616=s:=zC
 have HN:=hid (fun W:World=>Gh W 80 zC)
 go_enter Tryz.func226,Tryz.ntmps226
 go_wp2_with fail
 refine (HN.out _).mono ?_
 rintro r w2 ⟨rfl,hp2,hb2⟩
 have hbox:=(Blk.new w 81 #[.int .u64 ep,.int .i64 n,.int .i64 en,.int .u64 fi,.int .u64 fe,.int .i64 at_,.int .i64 s]).later hb2
 have hbw2:Below w.heap.size w w2:=zB
 have c0:w2.cell? ⟨w.heap.size,0,none⟩=some (.int .u64 ep):=hbox.cell 0
 have c1:w2.cell? ⟨w.heap.size,1,none⟩=some (.int .i64 n):=hbox.cell 1
 have c2:w2.cell? ⟨w.heap.size,2,none⟩=some (.int .i64 en):=hbox.cell 2
 have c3:w2.cell? ⟨w.heap.size,3,none⟩=some (.int .u64 fi):=hbox.cell 3
 have c4:w2.cell? ⟨w.heap.size,4,none⟩=some (.int .u64 fe):=hbox.cell 4
 have c5:w2.cell? ⟨w.heap.size,5,none⟩=some (.int .i64 at_):=hbox.cell 5
 have c6:w2.cell? ⟨w.heap.size,6,none⟩=some (.int .i64 s):=hbox.cell 6
 have HBX:=hid hbox
 have HBW2:=hid hbw2
 have K2:=hid (Ej.new hp2)
 generalize hg:(w.alloc (.cells #[.int .u64 ep,.int .i64 n,.int .i64 en,.int .u64 fi,.int .u64 fe,.int .i64 at_,.int .i64 s] 81)).heap.size=g at*
 have hgw:w.heap.size<g:=by rw[←hg];simp
 have hg2:g≤w2.heap.size:=by rw[←hg];exact hb2.size
 clear hbox hbw2 hp2 hb2 hg
 go_wp2_with fail
 refine (HRT.out _).mono ?_
 rintro r w3 ⟨rfl,hb3⟩
 have K3:=hid (K2.out.later hb3)
 clear c0 c1 c2 c3 c4 c5 c6
 go_wp2_with fail
 obtain⟨a3,b3,p3,k3,_⟩:=K3.out.at
 have hW:Below w3.heap.size w3 (w3.alloc (.cells #[.int .u8 3] 5)):=zB
 have hlit:=Ri w3 3 zC
 simp only[Int.cast_ofNat_Int] at hlit
 generalize w3.alloc (.cells #[.int .u8 3] 5)=W3 at*
 refine (Fp W3 (p3.later hW) [3] _ 1 1 hlit zM zM).mono ?_
 rintro r w4 ⟨rfl,hs4⟩
 have K4:=hid (k3 (AA.later hW hs4))
 have q4:=K4.out.blk HBX.out zC
 have c0:w4.cell? ⟨w.heap.size,0,none⟩=some (.int .u64 ep):=q4.cell 0
 clear k3 hs4 hW hlit p3 q4
 go_wp2_with fail
 obtain⟨a4,b4,p4,k4,_⟩:=K4.out.at
 have HEP:Hid (ep=(ep.toNat:Int)):=hid zC
 refine ((by have:=LM w4 p4 ep.toNat (by rw[←HEP.out];exact hep) zI zI;rw[←HEP.out] at this;exact this:Calls Tryz.prog 162 #[.pointer (some ⟨g,0,none⟩),.int .u64 ep] w4 fun r w'=>r=.returned (.tuple #[])∧AA w4 g g 80 (([]++[3])++AD ep.toNat) a4 w')).mono ?_
 rintro r w5 ⟨rfl,hs5⟩
 have K5:=hid (k4 hs5)
 have q5:=K5.out.blk HBX.out zC
 have c1:w5.cell? ⟨w.heap.size,1,none⟩=some (.int .i64 n):=q5.cell 1
 have c2:w5.cell? ⟨w.heap.size,2,none⟩=some (.int .i64 en):=q5.cell 2
 have c3:w5.cell? ⟨w.heap.size,3,none⟩=some (.int .u64 fi):=q5.cell 3
 have c4:w5.cell? ⟨w.heap.size,4,none⟩=some (.int .u64 fe):=q5.cell 4
 have c5:w5.cell? ⟨w.heap.size,5,none⟩=some (.int .i64 at_):=q5.cell 5
 have c6:w5.cell? ⟨w.heap.size,6,none⟩=some (.int .i64 s):=q5.cell 6
 clear k4 hs5 p4 q5 c0
 go_wp2_with fail
 refine Ee (fun W=>Below w5.heap.size w5 W∧Blk W w5.heap.size 36 (CX xs).toArray) ⟨zB,by rw[hcs.out];exact Blk.new _ _ _⟩ ?_
 rintro W ⟨hW,hB⟩
 obtain⟨a5,b5,p5,k5,_⟩:=K5.out.at
 have HW:=hid hW
 have HB:=hid hB
 have HNO:Hid (¬Dm g a5 w5.heap.size):=hid fun hf=>by have:=(p5.BH hf).2;omega
 have HK5:=hid (fun (J':List UInt8) (w':World) (h:AA W g g 80 J' a5 w')=>k5 (AA.later hW h))
 have HP5:=hid (p5.later hW)
 clear c1 c2 c3 c4 c5 c6 k5 hW hB p5
 go_loopw [38] (fun i wr=>∃k:Nat,k≤6∧i=.int .i64 k∧Hid (AA W g g 80 (([]++[3])++AD ep.toNat++CN (xs.take k)) a5 wr)) (fun i _=>6-(intOf i).toNat)
 case atStart=>exact ⟨0,Ar _,rfl,hid (by simpa [CN] using AA.refl HP5.out)⟩
 case round=>
  obtain⟨k,hk,rfl,HST⟩:=hrel
  by_cases hlt:k<6
  ·have hkx:k<xs.length:=by rw[hnl.out];exact hlt
   have x0:wr.cell? ⟨w5.heap.size,k,none⟩=some (.int .u64 xs[k]):=by
    refine ((HST.out.blk HB.out HNO.out).cell k).trans ?_
    simp[CX,hkx]
   have HS:=hid (hst.out k hkx)
   have hl:=hle.out k hkx
   have hb:=HNB.out _ (A0 hkx)
   generalize xs[k]=x at*
   have i1:(k:Int)<6:=zC
   obtain⟨a7,b7,p7,k7⟩:=HST.out.at
   have HV:=hid (Hd wr p7 x hb zI zI)
   have HK7:=hid k7
   clear p7 k7
   go_wp2_with fail
   refine HV.out.mono ?_
   rintro r w7 ⟨rfl,hs7⟩
   have HS7:=hid (HK7.out _ _ hs7)
   clear hs7
   go_wp2
   go_roundw
   case rel=>exact ⟨k+1,zC,zT,hid (by rw[HS.out];have:=HS7.out;rw[Au] at this;exact this)⟩
   case measure=>simp [intOf];omega
  ·obtain rfl:k=6:=by omega
   have K6:Hid (Ej w2 g 80 K wr):=hid (by
    have h:=HK5.out _ _ HST.out
    rw[Bp (by rw[hnl.out];omega),AG,←hpe.out] at h
    exact h)
   go_wp2_with fail
   obtain⟨a7,b7,p7,k7,_⟩:=K6.out.at
   refine (Fx wr p7).mono ?_
   rintro r w8 ⟨x,rfl,hr,hb8⟩
   have hbw:=K6.out.below HBW2.out zC
   have HR:=hid hr
   clear hr k7 p7
   go_wp2
   go_ret2
   exact⟨_,rfl,Am.mono HR.out fun q hq=>⟨ZD,hq.2⟩,Aj hb8 hbw⟩
def CY(n:Nat):List UInt8:=BE 4 n++(BE 4 (Cc (BE 4 n))++[76,79,72,84])
theorem D5(n:Nat):(CY n).length=12:=by simp[CY,Da]
def Eu(f:BX):List UInt8:=BJ (Du f)++CY (BJ (Du f)).length
theorem Jm(w:World):Calls Tryz.prog 156 #[] w fun r w'=>r=.returned (.int .i64 12)∧w=w':=by
 go_enter Tryz.func156,Tryz.ntmps156
 go_wp2
 go_ret
 exact⟨rfl,rfl⟩
theorem Jl(n:Nat)(hn:n<18446744073709551616)(w:World):
  Calls Tryz.prog 202 #[.int .i64 n] w fun r w'=>∃x,r=.returned x∧Am.r (fun q=>w.heap.size≤q∧q<w'.heap.size) w' [x] (CY n)∧Below w.heap.size w w':=by
 have hff:Hid (CY n=([]++BE 4 n)++BE 4 (Cc (BE 4 n))++[76,79,72,84]):=hid (by simp[CY])
 have HF:=hid (fun W:World=>OV n hn 4 zC W)
 have hfl:=Da 4 n
 have HC:=hid (fun (W:World) (a:Option Addr) (n' c:Nat) h=>Lc (BE 4 n) a n' c W h)
 have HL:=Gd (BE 4 n)
 have HN:=hid (fun W:World=>Gh W 12 zC)
 have e1:(n:Int)%18446744073709551616=n:=zC
 generalize CY n=K at*
 generalize Cc (BE 4 n)=s at*
 generalize BE 4 n=D at*
 go_enter Tryz.func202,Tryz.ntmps202
 go_wp2_with fail
 refine (Jm _).mono ?_
 rintro r w1 ⟨rfl,rfl⟩
 go_wp2_with fail
 refine (HN.out w).mono ?_
 rintro r w2 ⟨rfl,hp2,hb2⟩
 have HP2:=hid hp2
 have hz2:=hp2.blk.lt
 clear hp2
 go_wp2_with fail
 refine (HF.out _).mono ?_
 rintro r w3 ⟨v,rfl,ho,hb3⟩
 obtain⟨a,c,rfl⟩:=AV ho
 have hr:=CG (l:=D) hfl.symm ho
 have HR:=hid hr
 have hbw3:=hid (Aj hb3 hb2)
 have HP3:=hid (HP2.out.later hb3)
 clear ho hr
 go_wp2_with fail
 refine (Fp w3 HP3.out D a _ c (Am.mono (S':=(·<w3.heap.size)) HR.out fun q hq=>hq.2) zI zI).mono ?_
 rintro r w4 ⟨rfl,hs4⟩
 have K4:Hid (Ej w3 w.heap.size 12 ([]++D) w4):=hid hs4
 have ht4:=K4.out.tch
 have hs4':=ht4.size
 have HR4:=hid (Am.mono (S':=(·<w4.heap.size)) (Am.keep HR.out fun q hq=>ht4.block q hq.2 zC) fun q hq=>zC)
 clear hs4 ht4
 go_wp2_with fail
 refine (HC.out w4 a _ c HR4.out).mono ?_
 rintro r w5 ⟨rfl,hb5⟩
 have K5:=hid (K4.out.later hb5)
 have e2:(s:Int)%18446744073709551616=s:=zC
 go_wp2_with fail
 obtain⟨a5,b5,p5,k5,_⟩:=K5.out.at
 refine (Ke w5 p5 s zC 4 zC zI zI).mono ?_
 rintro r w6 ⟨rfl,hs6⟩
 have K6:=hid (k5 hs6)
 have hl6:=Da 4 s
 clear hs6 k5 p5
 go_wp2_with fail
 obtain⟨a6,b6,p6,k6,_⟩:=K6.out.at
 refine (Q9 w6 p6 ⟨#[76,79,72,84]⟩ zL [76,79,72,84] rfl zI zI).mono ?_
 rintro r w7 ⟨rfl,hs7⟩
 have k7:=k6 hs7
 rw[←hff.out] at k7
 have K7:=hid k7
 clear hs7 k6 p6 k7
 go_wp2_with fail
 obtain⟨a7,b7,p7,k7,_⟩:=K7.out.at
 refine (Fx w7 p7).mono ?_
 rintro r w8 ⟨x,rfl,hr,hb8⟩
 have hbw:=K7.out.below hbw3.out (As _)
 have HRR:=hid hr
 clear hr k7 p7
 go_wp2
 go_ret
 exact⟨_,rfl,Am.mono HRR.out fun q hq=>⟨ZD,hq.2⟩,Aj hb8 hbw⟩
theorem KW(f:BX)(hR:JD f)(w:World):
  Calls Tryz.prog 150 #[.agg f.val] w fun r w'=>∃x,r=.returned (.tuple #[x,.int .i64 0])∧DF w' w.heap.size x (Eu f)∧Below w.heap.size w w':=by
 obtain⟨i0,hi,hz0,hz1,hz2⟩:=A5 FL
 have HP:=hid (fun W:World=>NF f hR W)
 have hpl:=GL f
 have hfb:Hid (Eu f=BJ (Du f)++CY (BJ (Du f)).length):=hid rfl
 have hfl:(BJ (Du f)).length≤100:=by
  rw[Dk,Dy]
  have:=(A1 (Du f).length).1
  omega
 have HF:=hid (fun (W:World) (a:Option Addr) (n c:Nat) h=>Mh W (Du f) a n c h zC)
 have HT:=hid (fun W:World=>Jl (BJ (Du f)).length zC W)
 have htl:(CY (BJ (Du f)).length).length≤12:=by rw[D5];omega
 generalize Eu f=K at*
 generalize CY (BJ (Du f)).length=T at*
 generalize BJ (Du f)=D at*
 generalize Du f=P at*
 have hfv:f.val=#[.int .u64 f.ep,.int .i64 f.n,.int .i64 f.en,.int .u64 f.first,.int .u64 f.fin,.int .i64 f.at_,.int .i64 f.size]:=rfl
 rw[hfv]
 rw[hfv] at HP
 clear hfv hR
 go_enter Tryz.func150,Tryz.ntmps150
 go_wp2_with fail
 refine (HP.out _).mono ?_
 rintro r w1 ⟨v,rfl,hr,hb1⟩
 obtain⟨a1,c1,hv1,hr1,_⟩:=AH hr
 simp only[Av,AI] at hv1
 subst hv1
 have HR:=hid (Am.mono (S':=(·<w1.heap.size)) hr1 fun q hq=>hq.2)
 have hbw1:Below w.heap.size w w1:=zB
 clear hr hr1
 go_wp2_with fail
 refine (HF.out w1 a1 _ c1 HR.out).mono ?_
 rintro r w2 ⟨v,rfl,ho2,hb2⟩
 obtain⟨a2,c2,rfl⟩:=ho2.form
 have hbw2:=Aj hb2 hbw1
 have HO2:=hid ho2
 clear ho2
 go_wp2_with fail
 refine (HT.out w2).mono ?_
 rintro r w3 ⟨v,rfl,hr3,hb3⟩
 obtain⟨a3,c3,hv3,hr3',_⟩:=AH hr3
 simp only[Av,AI] at hv3
 subst hv3
 have HS:=hid (Cm (Am.mono (S':=(·<w3.heap.size)) hr3' fun q hq=>hq.2))
 have HO3:Hid (w3.ownsRow w.heap.size 5 1 (.slice a2 D.length c2) D.length (byteCells D)):=hid (Bz (HO2.out.low hbw1.size) hb3)
 have HONE:=hid (Bi T)
 have hbw3:=Aj hb3 hbw2
 have hz3:=hbw3.size
 clear hr3 hr3'
 go_wp2_with (at_builtin;go_loud (refine AB rfl _ _ _ rfl w.heap.size 5 i0 (.int .u8 0) 1 1 AJ hi hz0 hz1 hz2 rfl zL (.slice a2 D.length c2) D.length (byteCells D) rfl HO3.out a3 T.length c3 (byteCells T) rfl HS.out HONE.out zO zC zC ?_;intro v' w4 hown4 hgrow4 hat4;have HG:=hid hgrow4;have HO4:=hid hown4;clear hgrow4 hown4 hat4))
 have hB:Below w.heap.size w w4:=Below.grown hbw3 HG.out zC (fun g e=>(HO3.out.lt g e).1)
 have hO:=DF.app HO4.out
 rw[←hfb.out] at hO
 have HO:=hid hO
 clear hO
 go_wp2
 go_ret2
 exact⟨_,rfl,HO.out,hB⟩
def CC(k:UInt8)(D:List UInt8):List UInt8:=BJ (k::D)
theorem J8(k:Nat)(hk:k<256)(D:List UInt8)(a:Option Addr)(n c:Nat)(w:World)(hl:Am.r (·<w.heap.size) w [.slice a n c] D)(hm:D.length+1≤2097152):
  Calls Tryz.prog 147 #[.int .u8 k,.slice a n c] w fun r w'=>∃x,r=.returned x∧DF w' w.heap.size x (CC (UInt8.ofNat k) D)∧Below w.heap.size w w':=by
 obtain⟨rfl,hlm,_,_⟩:=AL hl
 obtain⟨i0,hi,hz0,hz1,hz2⟩:=A5 FL
 have HF:=hid (fun (W:World) (a:Option Addr) (n c:Nat) h=>Mh W (UInt8.ofNat k::D) a n c h zI)
 have hrb:Hid (CC (UInt8.ofNat k) D=BJ (UInt8.ofNat k::D)):=hid rfl
 have hcl:Hid ([Value.int .u8 (k:Int)]++byteCells D=byteCells (UInt8.ofNat k::D)):=hid (by
  rw[show (k:Int)=((UInt8.ofNat k).toNat:Int) from G0 hk];rfl)
 have HS:=hid (fun (W:World) (hW:Below w.heap.size w W)=>Cm (lift hl hW))
 have HONE:=hid (Bi D)
 have HO:=hid (Ra (w:=w.alloc (.cells #[.int .u8 (k:Int)] 5)) (base:=w.heap.size) (e:=5) (As _) (World.alloc_heap_new w _))
 clear hl
 go_enter Tryz.func147,Tryz.ntmps147
 go_wp2_with (at_builtin;go_loud (refine AB rfl _ _ _ rfl w.heap.size 5 i0 (.int .u8 0) 1 1 AJ hi hz0 hz1 hz2 rfl zL (.slice (some ⟨w.heap.size,0,none⟩) 1 1) 1 _ rfl HO.out a D.length c (byteCells D) rfl (HS.out _ zB) HONE.out zO zC zM ?_;intro v' w1 hown1 hgrow1 hat1;obtain⟨a',c',rfl⟩:=AV hown1;have HG:=hid hgrow1;have HO1:=hid hown1;clear hgrow1 hown1 hat1))
 have ho:=HO1.out
 rw[hcl.out] at ho
 have hB:Below w.heap.size w w1:=Below.grown zB HG.out zM (fun g e=>(HO.out.lt g e).1)
 have HR1:=hid (F7 (l:=UInt8.ofNat k::D) zI ho)
 clear ho
 refine (HF.out w1 a' _ c' HR1.out).mono ?_
 rintro r w2 ⟨v,rfl,ho2,hb2⟩
 rw[←hrb.out] at ho2
 have HO2:=hid (ho2.low hB.size)
 clear ho2
 go_wp2
 go_ret
 exact⟨_,rfl,HO2.out,Aj hb2 hB⟩
theorem Ns:(Tryz.prog.info? 88).map (fun i=>(i.zero,i.size,i.bytes))=some (some (.agg #[.int .u64 0,.int .i64 0,.int .i64 0]),3,24):=zJ
def JW(m:AP):List Value:=[.int .u64 m.pos,.int .i64 m.count,.int .i64 m.at_]
structure Dq(w:World)(base:Nat)(v:Value)(M:List AP):Prop where
 own:w.ownsRow base 88 3 v M.length (M.map JW).flatten
 nat:∀m∈M,G5 m
theorem Dq.nil:Dq w base (.slice none 0 0) []:=⟨⟨rfl,.inl ⟨rfl,rfl⟩⟩,zM⟩
theorem Dq.read{w:World}{base:Nat}{v:Value}{M:List AP}(h:Dq w base v M):Bw.r (fun q=>base≤q∧q<w.heap.size) w [v] M:=
 A8.slice (As _) ⟨M.map JW,h.own,zM,zA9,fun i cs x hi hx=>by
  rw[FT,hx] at hi
  simp at hi
  subst hi
  exact KN (h.nat x (List.mem_of_getElem? hx))⟩
def DE(ep:Int)(M:List AP)(at_ size:Int):BX:=⟨ep,M.length,Df M,(Ew M).1,(Ew M).2,at_,size⟩
theorem MY(ep:Int)(M:List AP)(at_ size:Int)(al:Option Addr)(nl cl:Nat)(w:World)(hl:Bw.r (·<w.heap.size) w [.slice al nl cl] M)(hR:Cs M=true):
  Calls Tryz.prog 149 #[.int .u64 ep,.slice al nl cl,.int .i64 at_,.int .i64 size] w fun r w'=>r=.returned (.agg (DE ep M at_ size).val)∧Below w.heap.size w w':=by
 obtain⟨rfl,hm,_,_⟩:=AL hl
 have HE:=hid (fun (W:World) (hW:Below w.heap.size w W)=>JX W M al _ cl (lift hl hW) hR)
 have HN:=hid (fun (W:World) (hW:Below w.heap.size w W)=>Nu W M al _ cl (lift hl hW) hR)
 have hff:Hid ((DE ep M at_ size).val=#[.int .u64 ep,.int .i64 M.length,.int .i64 (Df M),.int .u64 (Ew M).1,.int .u64 (Ew M).2,.int .i64 at_,.int .i64 size]):=hid rfl
 generalize Df M=n at*
 generalize (Ew M).1=e1 at*
 generalize (Ew M).2=e2 at*
 clear hl hR
 go_enter Tryz.func149,Tryz.ntmps149
 go_wp2_with fail
 refine (HE.out _ zB).mono ?_
 rintro r w1 ⟨rfl,hb1⟩
 have hz1:w.heap.size+1≤w1.heap.size:=by have:=hb1.size;simpa using this
 have q0:=(Blk.new w 81 #[.int .u64 0,.int .i64 0,.int .i64 0,.int .u64 0,.int .u64 0,.int .i64 0,.int .i64 0]).later hb1
 have hbw1:Below w.heap.size w w1:=zB
 have Q0:=hid q0
 clear q0
 go_wp2_with fail
 refine (HN.out _ zB).mono ?_
 rintro r w2 ⟨rfl,hb2⟩
 have hB:=(Blk.new w1 81 #[.int .u64 ep,.int .i64 M.length,.int .i64 n,.int .u64 0,.int .u64 0,.int .i64 at_,.int .i64 size]).later hb2
 have hbw2:Below w.heap.size w w2:=zB
 have hz12:w1.heap.size<w2.heap.size:=hB.lt
 have hB0:=Q0.out.later (Aj hb2 zB)
 have c0:w2.cell? ⟨w1.heap.size,0,none⟩=some (.int .u64 ep):=hB.cell 0
 have z0:w2.cell? ⟨w.heap.size,0,none⟩=some (.int .u64 0):=hB0.cell 0
 have g0:=hB0.free 0
 have c1:w2.cell? ⟨w1.heap.size,1,none⟩=some (.int .i64 M.length):=hB.cell 1
 have z1:w2.cell? ⟨w.heap.size,1,none⟩=some (.int .i64 0):=hB0.cell 1
 have g1:=hB0.free 1
 have c2:w2.cell? ⟨w1.heap.size,2,none⟩=some (.int .i64 n):=hB.cell 2
 have z2:w2.cell? ⟨w.heap.size,2,none⟩=some (.int .i64 0):=hB0.cell 2
 have g2:=hB0.free 2
 have c3:w2.cell? ⟨w1.heap.size,3,none⟩=some (.int .u64 0):=hB.cell 3
 have z3:w2.cell? ⟨w.heap.size,3,none⟩=some (.int .u64 0):=hB0.cell 3
 have g3:=hB0.free 3
 have c4:w2.cell? ⟨w1.heap.size,4,none⟩=some (.int .u64 0):=hB.cell 4
 have z4:w2.cell? ⟨w.heap.size,4,none⟩=some (.int .u64 0):=hB0.cell 4
 have g4:=hB0.free 4
 have c5:w2.cell? ⟨w1.heap.size,5,none⟩=some (.int .i64 at_):=hB.cell 5
 have z5:w2.cell? ⟨w.heap.size,5,none⟩=some (.int .i64 0):=hB0.cell 5
 have g5:=hB0.free 5
 have c6:w2.cell? ⟨w1.heap.size,6,none⟩=some (.int .i64 size):=hB.cell 6
 have z6:w2.cell? ⟨w.heap.size,6,none⟩=some (.int .i64 0):=hB0.cell 6
 have g6:=hB0.free 6
 have f3:=hB.free 3
 have f4:=hB.free 4
 clear hB hB0
 go_wp2
 refine Ax (v:=.agg #[.int .u64 ep,.int .i64 M.length,.int .i64 n,.int .u64 e1,.int .u64 e2,.int .i64 at_,.int .i64 size]) (by simp[results,Tryz.results149,go_sem,World.cell?_setCell_far,z0,z1,z2,z3,z4,z5,z6]) rfl ⟨by rw[hff.out],by clear hb1 hb2 hbw1;(repeat (first | with_reducible exact Below.refl _ _ | with_reducible assumption | (with_reducible refine Aw ?_ _) | (with_reducible refine Below.setCell ?_ (by first | omega | (simp;done) | (simp;omega)) _) | (with_reducible refine Below.drew ?_) | (with_reducible refine below_drewN ?_ _) | (refine Aj (by with_reducible assumption) ?_)))⟩
end Go.Proofs.YtfddhafbhceoaaaGreat
namespace Go.Bs
open Go.RowKit
def JM:Int→List AP→Int
 | p,[]=>p
 | _,m::l=>JM (m.pos+m.count) l
def R5:Int→List AP→Int
 | a,[]=>a
 | _,m::l=>R5 m.at_ l
theorem LN:∀(M:List AP) (p:Int) (m:AP),JM p (M++[m])=m.pos+m.count
 | [],_,_=>rfl
 | x::M,p,m=>LN M _ m
theorem Pt:∀(M:List AP) (p:Int) (m:AP),R5 p (M++[m])=m.at_
 | [],_,_=>rfl
 | x::M,p,m=>Pt M _ m
theorem M6:∀(M:List AP) (p a:Int) (m:AP),DZ p a (M++[m])=(DZ p a M&&Dh m (JM p M) (R5 a M))
 | [],p,a,m=>by simp[DZ,JM,R5]
 | x::M,p,a,m=>by
  simp only[DV,DZ,JM,R5]
  rw[M6 M _ _ m,Bool.and_assoc]
theorem Ux:∀(M:List AP) (p a:Int),DZ p a M=true→p+Df M≤JM p M∧(M≠[]→JM p M≤4611686018427387904)
 | [],p,a,_=>by simp[Df,JM]
 | x::M,p,a,h=>by
  simp only[DZ,Ap] at h
  obtain⟨h1,h2,h3,h4,h5,h6,h7⟩:=D4 h.1
  have h8:=Ux M (x.pos+x.count) x.at_ h.2
  simp only[Df,Ca,List.sum_cons,JM] at h8 ⊢
  refine⟨zC,fun _=> ?_⟩
  cases M with
  | nil=>simpa [JM] using h5
  | cons y M=>exact h8.2 zM
theorem Xr:∀(M:List AP) (p:Int),M≠[]→(Ew M).2=JM p M:=by
 intro M p h
 have h0:0<M.length:=List.length_pos_iff.2 h
 rw[Kr h0]
 dsimp only
 have e2:=LN M.dropLast p (M.getLast h)
 rw[List.dropLast_concat_getLast] at e2
 rw[e2,List.getLast_eq_getElem]
theorem Tv{ep:Int}{M:List AP}{at_ size:Int}(he:epR ep=true)(hM:Cs M=true)(hn:∀m∈M,G5 m)(ha:1≤at_∧at_≤1099511627775)(hs:1≤size∧size≤2097152):JD ⟨ep,M.length,Df M,(Ew M).1,(Ew M).2,at_,size⟩:=by
 have hM':=hM
 simp only[Cs,Ap,Ao] at hM'
 have hc:=VR M fun m hm=>by obtain⟨h1,h2,_⟩:=JG M 0 0 hM'.1 m hm;exact⟨h1,h2⟩
 refine⟨he,zM,zH,hc.1,zH,ha.1,ha.2,hs.1,hs.2,?_⟩
 dsimp only
 cases M with
 | nil=>simp [Ew]
 | cons x M=>
  rw[Ai zI]
  have h0:=hM'.1
  simp only[DZ,Ap] at h0
  obtain⟨h1,h2,h3,h4,h5,h6,h7⟩:=D4 h0.1
  have hr:DZ x.pos 0 (x::M)=true:=by
   simp only[DZ,Ap]
   exact⟨by simp only[Dh,Ap,Ao];omega,h0.2⟩
  have h8:=Ux (x::M) x.pos 0 hr
  have h9:=Xr (x::M) x.pos zM
  have h10:(Ew (x::M)).1=x.pos:=by rw[Kr zM];rfl
  rw[h9,h10]
  have h11:=(hn x (Fl ..)).p.1
  have h12:=h8.2 zM
  have h13:=hc.1
  simp only[Ay] at h13
  refine⟨h11,zC,h12,zC⟩
end Go.Bs
namespace Go.Proofs.YtfddhafbhceoaaaGreat
open Go.RowKit Go.Bs Go.Maps
variable{m pos:Int}{B D J rest:List UInt8}{xs:List Value}{L base c c1 c2 c3 c4 n p sz:Nat}{S:Nat → Prop}{a a1 a2 a3 a4:Option Addr}{s:Rs}{e:TypeId}{v:Value}{W W' w w':World}
theorem EY{b:Batch}(h:Bg b=true):1≤b.epoch∧b.epoch<4611686018427387904∧1≤b.entries.length∧b.entries.length≤16∧b.base+b.entries.length≤4611686018427387904∧total b.entries≤1048576:=by
 simp only[Bg,epR,Fi,Ap,Ao] at h
 exact⟨h.1.1,h.1.2,h.2.1.1,h.2.1.2.1,h.2.1.2.2.2,h.2.2.1⟩
theorem NT{e:Int}:∀{p:Option Batch} {l:List Batch},EF e p l=true→∀b∈l,Bg b=true
 | _,[],_,b,hb=>by cases hb
 | p,x::l,h,b,hb=>by
  simp only[EF,Ap] at h
  rcases List.mem_cons.1 hb with rfl | hb
  ·exact h.1
  ·exact NT h.2.2 b hb
theorem F5{g:Seg}(h:Ey g=true):(1≤g.epoch∧g.epoch<4611686018427387904)∧g.batches.length≤16∧∀b∈g.batches,Bg b=true:=by
 simp only[Ey,epR,Ap,Ao] at h
 exact⟨h.1,h.2.1,NT h.2.2⟩
def Er:List UInt8→List AP→List Batch→List UInt8 × List AP
 | J,M,[]=>(J,M)
 | J,M,b::l=>Er (J++CC 1 (Bc b)) (M++[⟨b.base,b.entries.length,J.length⟩]) l
def Ha(ep:Int)(l:List Batch):List UInt8 × List AP:=Er (Bf 3 ep.toNat 0) [] l
def UX(ep:Int)(l:List Batch):List UInt8:=CC 2 (A6 (Ha ep l).2)
def Em(ep:Int)(l:List Batch):BX:=DE ep (Ha ep l).2 (Ha ep l).1.length (UX ep l).length
def Dw(ep:Int)(l:List Batch):List UInt8:=(Ha ep l).1++UX ep l++Eu (Em ep l)
theorem SL(J:List UInt8)(M:List AP)(l:List Batch)(k:Nat)(h:k<l.length):Er J M (l.drop k)=Er (J++CC 1 (Bc l[k])) (M++[⟨l[k].base,l[k].entries.length,J.length⟩]) (l.drop (k+1)):=by
 rw[AO h];rfl
theorem JK{b:Batch}(h:Bg b=true):(Bc b).length≤1100000:=by
 have h1:=(Oa h).2
 have h2:=(A1 (total b.entries)).1
 have h3:=(EY h).2.2.2.2.2
 omega
theorem Gm(k:UInt8)(D:List UInt8):(CC k D).length≤D.length+15∧1≤(CC k D).length:=by
 have:=A1 (k::D).length
 simp only[CC,Dk,Dy,Ay] at this ⊢
 omega
theorem IE{v ep bs:Nat}(h1:ep<4611686018427387904)(h2:bs<4611686018427387904):(Bf v ep bs).length≤27∧5≤(Bf v ep bs).length:=by
 have:=Pb (v:=v) (GH (x:=ep) zC) (GH (x:=bs) zC)
 simp only[Bf,Al,Da]
 simp only[CR,Al,Ay] at this ⊢
 omega
theorem L4{e:Int}:∀(l:List Batch) (J:List UInt8) (M:List AP) (p:Option Batch),DZ 0 0 M=true→(∀m∈M,G5 m)→(match p with | none=>JM 0 M=0 | some b=>JM 0 M=b.base+b.entries.length)→R5 0 M<J.length→J.length+1200000*l.length≤1000000000→M.length+l.length≤16→(∀b∈l,Ec b)→EF e p l=true→
  Cs (Er J M l).2=true∧(Er J M l).1.length≤J.length+1200000*l.length∧J.length≤(Er J M l).1.length∧∀m∈(Er J M l).2,G5 m
 | [],J,M,p,hM,hN,_,_,_,hl,_,_=>by
  refine⟨?_,by simp[Er],by simp[Er],hN⟩
  simp only[Er,Cs,hM,Dz]
  exact Ad zBd
 | b::l,J,M,p,hM,hN,hp,hA,hJ,hl,hbn,hc=>by
  simp only[EF,Ap] at hc
  obtain⟨hb,hm,hc⟩:=hc
  have hB:=JK hb
  have hr:=Gm 1 (Bc b)
  obtain⟨f1,f2,f3,f4,f5,f6⟩:=EY hb
  have hbn0:=(hbn b (Fl ..)).2.1
  simp only[Ay] at hJ hl
  have hfit:Dh ⟨b.base,b.entries.length,J.length⟩ (JM 0 M) (R5 0 M)=true:=by
   simp only[Dh,Ap,Ao]
   refine⟨zC,zC,?_,zC,zC,hA,zC⟩
   cases p with
   | none=>rw [show JM 0 M=0 from hp];omega
   | some q=>
    simp only[EU,Ap,Ao] at hm
    rw[show JM 0 M=q.base+q.entries.length from hp];exact hm.2.2
  have hr2:=L4 (e:=e) l (J++CC 1 (Bc b)) (M++[⟨b.base,b.entries.length,J.length⟩]) (some b) (by rw[M6,hM,hfit];rfl)
   (fun m hm=>by
    rcases List.mem_append.1 hm with hm | hm
    ·exact hN m hm
    ·rw[B8] at hm;subst hm;exact⟨hbn0,zH,zH⟩)
   (by dsimp only;rw[LN]) (by rw[Pt];simp;omega) (by rw[Al];omega) zAx (fun x hx=>hbn x (FR _ hx)) hc
  simp only[Er]
  refine⟨hr2.1,?_,?_,hr2.2.2.2⟩
  ·have:=hr2.2.1;rw[Al] at this;simp only[Ay];omega
  ·have:=hr2.2.2.1;rw[Al] at this;omega
theorem J9{ep:Int}{l:List Batch}(hR:Ey ⟨ep,l⟩=true)(hbn:∀b∈l,Ec b):Cs (Ha ep l).2=true∧5≤(Ha ep l).1.length∧(Ha ep l).1.length≤20000000∧∀m∈(Ha ep l).2,G5 m:=by
 obtain⟨h1,h2,_⟩:=F5 hR
 simp only[Ey,Ap,Ao] at hR
 have h1':1≤ep∧ep<4611686018427387904:=h1
 have h2':l.length≤16:=h2
 have hh:=IE (v:=3) (ep:=ep.toNat) (bs:=0) zC zC
 have:=L4 (e:=ep) l (Bf 3 ep.toNat 0) [] none rfl zM rfl (by simp only[R5];omega) zC (by simpa using h2') hbn hR.2.2
 unfold Ha
 exact⟨this.1,zC,zC,this.2.2.2⟩
theorem Iz{M:List AP}(h:Cs M=true):(A6 M).length≤490:=by
 simp only[Cs,Ap,Ao] at h
 have h1:=(A1 M.length).1
 have h2:=Iv M 0 0
 simp only[A6,Al]
 omega
theorem Ka{ep:Int}{l:List Batch}(hR:Ey ⟨ep,l⟩=true)(hbn:∀b∈l,Ec b):JD (Em ep l):=by
 obtain⟨h1,h2,h3,h4⟩:=J9 hR hbn
 have h5:=Iz h1
 have h6:=Gm 2 (A6 (Ha ep l).2)
 simp only[Ey,Ap] at hR
 exact Tv hR.1 h1 h4 zC (by unfold UX;omega)
def QT:List Value:=[.int .u64 0,.int .i64 0,.int .i64 0,.int .u64 0,.int .u64 0,.int .i64 0,.int .i64 0]
structure Dx(w W:World)(ep:Int)(a:Option Addr)(n c:Nat)(J:List UInt8)(M:List AP)(aJ:Option Addr)(cJ:Nat)(aM:Option Addr)(cM:Nat):Prop where
 below:Below w.heap.size w W
 bx:Blk W w.heap.size 63 #[.int .u64 ep,.slice a n c]
 br:Blk W (w.heap.size+1) 135 (.slice none 0 0:: .slice none 0 0::QT).toArray
 x:Blk W (w.heap.size+2) 135 (.slice aJ J.length cJ:: .slice aM M.length cM::QT).toArray
 j:DF W (w.heap.size+3) (.slice aJ J.length cJ) J
 m:Dq W (w.heap.size+3) (.slice aM M.length cM) M
section
variable {w W:World} {ep:Int} {a:Option Addr} {n c:Nat} {J:List UInt8} {M:List AP} {aJ:Option Addr} {cJ:Nat} {aM:Option Addr} {cM:Nat}
theorem Dq.below{b:Nat}{M:List AP}(h:Dq W b v M)(hb:Below W.heap.size W W'):Dq W' b v M:=⟨Bz h.own hb,h.nat⟩
theorem Dx.later(h:Dx w W ep a n c J M aJ cJ aM cM)(hb:Below W.heap.size W W'):Dx w W' ep a n c J M aJ cJ aM cM:=
 ⟨Aj hb h.below,h.bx.later hb,h.br.later hb,h.x.later hb,Bz h.j hb,h.m.below hb⟩
theorem Dx.ne(h:Dx w W ep a n c J M aJ cJ aM cM):∀b,(Value.slice aJ J.length cJ).ownBlock=some b→(Value.slice aM M.length cM).ownBlock≠some b:=Ls h.j h.m.own zL
theorem Dx.far{u:Nat}(h:W.ownsRow (w.heap.size+3) e sz v u xs){b:Nat}(hb:b<w.heap.size+3):v.ownBlock≠some b:=fun e=>by have:=(BH h b e).1;omega
theorem Dx.mark(h:Dx w W ep a n c J M aJ cJ aM cM){W2:World}{m:AP}(hm:G5 m){aM':Option Addr}{cM':Nat}
 (hown:W2.ownsRow (w.heap.size+3) 88 3 (.slice aM' (M.length+1) cM') (M.length+1) ((M.map JW).flatten++JW m)) (hg:W.grownBy W2 (Value.slice aM M.length cM).ownBlock):
  Dx w (W2.setCell ⟨w.heap.size+2,1,none⟩ (.slice aM' (M.length+1) cM')) ep a n c J (M++[m]) aJ cJ aM' cM':=by
 have hl:(M++[m]).length=M.length+1:=zM
 have hb2:Below w.heap.size w W2:=h.below.grown hg h.below.size (fun g e=>by have:=(BH h.m.own g e).1;omega)
 have f2:(Value.slice aM' (M.length+1) cM').ownBlock≠some (w.heap.size+2):=Dx.far hown zC
 refine⟨hb2.setCell zH _,?_,?_,?_,?_,?_,?_⟩
 ·exact (h.bx.grown hg (fun e=>Dx.far h.m.own zC e.symm)).far zH _
 ·exact (h.br.grown hg (fun e=>Dx.far h.m.own zC e.symm)).far zH _
 ·rw[hl]
  exact (h.x.grown hg (fun e=>Dx.far h.m.own zC e.symm)).set 1 _
 ·refine CQ (CQ h.j fun b hv hl=>hg.block b hl (fun e=>h.ne b hv e.symm)) fun b hv hl=>At _ _ _ _ (fun e=> ?_)
  have:=(BH h.j b hv).1
  dsimp only at e
  omega
 ·rw[hl,Cv,EK]
  simp only[Ca,List.map_nil,FU,List.flatten_nil,Bu]
  exact CQ hown fun b hv hl=>At _ _ _ _ (fun e=>f2 (by rw[hv,e]))
 ·intro x hx
  rcases List.mem_append.1 hx with hx | hx
  ·exact h.m.nat x hx
  ·rw[B8] at hx;subst hx;exact hm
theorem Dx.more(h:Dx w W ep a n c J M aJ cJ aM cM){W2:World}{aJ':Option Addr}{cJ':Nat}
 (hown:W2.ownsRow (w.heap.size+3) 5 1 (.slice aJ' (J.length+D.length) cJ') (J.length+D.length) (byteCells J++byteCells D)) (hg:W.grownBy W2 (Value.slice aJ J.length cJ).ownBlock):
  Dx w (W2.setCell ⟨w.heap.size+2,0,none⟩ (.slice aJ' (J.length+D.length) cJ')) ep a n c (J++D) M aJ' cJ' aM cM:=by
 have hl:(J++D).length=J.length+D.length:=zM
 have hb2:Below w.heap.size w W2:=h.below.grown hg h.below.size (fun g e=>by have:=(BH h.j g e).1;omega)
 have f2:(Value.slice aJ' (J.length+D.length) cJ').ownBlock≠some (w.heap.size+2):=Dx.far hown zC
 refine⟨hb2.setCell zH _,?_,?_,?_,?_,?_,h.m.nat⟩
 ·exact (h.bx.grown hg (fun e=>Dx.far h.j zC e.symm)).far zH _
 ·exact (h.br.grown hg (fun e=>Dx.far h.j zC e.symm)).far zH _
 ·rw[hl]
  exact (h.x.grown hg (fun e=>Dx.far h.j zC e.symm)).set 0 _
 ·have ho:DF W2 (w.heap.size+3) (.slice aJ' (J.length+D.length) cJ') (J++D):=DF.app hown
  rw[hl]
  exact CQ ho fun b hv hl=>At _ _ _ _ (fun e=>f2 (by rw[hv,e]))
 ·refine CQ (CQ h.m.own fun b hv hl=>hg.block b hl (fun e=>h.ne b e.symm hv)) fun b hv hl=>At _ _ _ _ (fun e=> ?_)
  have:=(BH h.m.own b hv).1
  dsimp only at e
  omega
end
theorem AaC(w:World)(g:Nat)(v2 v3 v4 v5 v6 v7 v8:Value):Tch (·=g) w ((((((((w).setCell ⟨g,2,none⟩ v2).setCell ⟨g,3,none⟩ v3).setCell ⟨g,4,none⟩ v4).setCell ⟨g,5,none⟩ v5).setCell ⟨g,6,none⟩ v6).setCell ⟨g,7,none⟩ v7).setCell ⟨g,8,none⟩ v8):=
 Tch.setCell (F:=(·=g)) (Tch.setCell (F:=(·=g)) (Tch.setCell (F:=(·=g)) (Tch.setCell (F:=(·=g)) (Tch.setCell (F:=(·=g)) (Tch.setCell (F:=(·=g)) (Tch.setCell (F:=(·=g)) (Tch.refl (·=g) w) (p:=⟨g,2,none⟩) (fun _=>rfl) v2) (p:=⟨g,3,none⟩) (fun _=>rfl) v3) (p:=⟨g,4,none⟩) (fun _=>rfl) v4) (p:=⟨g,5,none⟩) (fun _=>rfl) v5) (p:=⟨g,6,none⟩) (fun _=>rfl) v6) (p:=⟨g,7,none⟩) (fun _=>rfl) v7) (p:=⟨g,8,none⟩) (fun _=>rfl) v8
theorem YR(w:World)(x r:Nat)(u v0 v1 v2 v3 v4 v5 v6 v7 v8:Value):Tch (fun b=>b=x∨b=r) w (((((((((((w.setCell ⟨x,0,none⟩ u)).setCell ⟨r,0,none⟩ v0).setCell ⟨r,1,none⟩ v1).setCell ⟨r,2,none⟩ v2).setCell ⟨r,3,none⟩ v3).setCell ⟨r,4,none⟩ v4).setCell ⟨r,5,none⟩ v5).setCell ⟨r,6,none⟩ v6).setCell ⟨r,7,none⟩ v7).setCell ⟨r,8,none⟩ v8):=
 Tch.setCell (F:=fun b=>b=x∨b=r) (Tch.setCell (F:=fun b=>b=x∨b=r) (Tch.setCell (F:=fun b=>b=x∨b=r) (Tch.setCell (F:=fun b=>b=x∨b=r) (Tch.setCell (F:=fun b=>b=x∨b=r) (Tch.setCell (F:=fun b=>b=x∨b=r) (Tch.setCell (F:=fun b=>b=x∨b=r) (Tch.setCell (F:=fun b=>b=x∨b=r) (Tch.setCell (F:=fun b=>b=x∨b=r) (Tch.setCell (F:=fun b=>b=x∨b=r) (Tch.refl _ w) (p:=⟨x,0,none⟩) (fun _=> .inl rfl) u) (p:=⟨r,0,none⟩) (fun _=> .inr rfl) v0) (p:=⟨r,1,none⟩) (fun _=> .inr rfl) v1) (p:=⟨r,2,none⟩) (fun _=> .inr rfl) v2) (p:=⟨r,3,none⟩) (fun _=> .inr rfl) v3) (p:=⟨r,4,none⟩) (fun _=> .inr rfl) v4) (p:=⟨r,5,none⟩) (fun _=> .inr rfl) v5) (p:=⟨r,6,none⟩) (fun _=> .inr rfl) v6) (p:=⟨r,7,none⟩) (fun _=> .inr rfl) v7) (p:=⟨r,8,none⟩) (fun _=> .inr rfl) v8
theorem KA(w:World)(t1 t2 t3:TypeId)(s1 s2 s3:Array Value)(hb:Below (((w.alloc (.cells s1 t1)).alloc (.cells s2 t2)).alloc (.cells s3 t3)).heap.size (((w.alloc (.cells s1 t1)).alloc (.cells s2 t2)).alloc (.cells s3 t3)) w'):
  Blk w' w.heap.size t1 s1∧Blk w' (w.heap.size+1) t2 s2∧Blk w' (w.heap.size+2) t3 s3∧Below w.heap.size w w'∧w.heap.size+3≤w'.heap.size:=
 ⟨(((Blk.new w t1 s1).alloc _).alloc _).later hb,((Blk.Aai w _ t2 s2).alloc _).later hb,(Blk.newAt _ t3 s3 zM).later hb,Aj hb (Aw (Aw (Aw (Below.refl _ _) _) _) _),by have:=hb.size;simpa using this⟩
theorem SG(ep:Int)(he:epR ep=true)(w:World):
  Calls Tryz.prog 88 #[.agg #[.int .u64 ep,.slice none 0 0]] w fun r w'=>∃v u f0 f1 f2 f3 f4 f5 f6,r=.returned (.agg #[v,u,f0,f1,f2,f3,f4,f5,f6])∧Am.r (fun q=>w.heap.size≤q∧q<w'.heap.size) w' [v] (Dw ep [])∧Below w.heap.size w w':=by
 obtain⟨i0,hi,hz0,hz1,hz2⟩:=A5 FL
 have hR:Ey ⟨ep,[]⟩=true:=by simp[Ey,he,EF]
 have hFR:=Ka hR zM
 have HFB:=hid (fun W:World=>KW (Em ep []) hFR W)
 have he':=he
 simp only[epR,Ao] at he'
 have hte:(ep.toNat:Int)=ep:=zC
 have HH:=hid (fun W:World=>(by
  have:=KU W 3 ep.toNat 0 (by simp only[Jj,hte,he,poR];decide)
  rw[hte] at this
  exact this:Calls Tryz.prog 145 #[.agg #[.int .i64 3,.int .u64 ep,.int .u64 0]] W fun r w'=>∃x,r=.returned (.tuple #[x,.int .i64 0])∧DF w' W.heap.size x (Bf 3 ep.toNat 0)∧Below W.heap.size W w'))
 have hhl:=IE (v:=3) (ep:=ep.toNat) (bs:=0) zC zC
 have HI:=hid (fun W:World=>Md W [] none 0 0 (Bv (xs:=[]) rfl (As _) (Ar _) (.inl rfl)) rfl)
 have hil:=Iz (M:=[]) rfl
 have HRC:=hid (fun (W:World) (a:Option Addr) (n c:Nat) h=>J8 2 zL (A6 []) a n c W h zC)
 have hxl:=Gm 2 (A6 [])
 have hfe:Hid (Em ep []=DE ep [] (Bf 3 ep.toNat 0).length (CC 2 (A6 [])).length):=hid rfl
 have HFO:=hid (fun (W:World)=>MY ep [] (Bf 3 ep.toNat 0).length (CC 2 (A6 [])).length none 0 0 W (Bv (xs:=[]) rfl (As _) (Ar _) (.inl rfl)) rfl)
 rw[←hfe.out] at HFO
 have hse:Hid (Dw ep []=Bf 3 ep.toNat 0++CC 2 (A6 [])++Eu (Em ep [])):=hid rfl
 have hfl:(Eu (Em ep [])).length≤200:=by
  simp only[Eu,Al,D5,Dk,Dy]
  have h1:=GL (Em ep [])
  have h2:=(A1 (Du (Em ep [])).length).1
  omega
 have HON1:=hid (Bi (CC 2 (A6 [])))
 have HON2:=hid (Bi (Eu (Em ep [])))
 generalize Dw ep []=K at*
 generalize Eu (Em ep [])=FB at*
 generalize Bf 3 ep.toNat 0=H at*
 generalize (Em ep [])=F at*
 obtain⟨f0,f1,f2,f3,f4,f5,f6⟩:=F
 simp only[BX.val] at HFB HFO
 generalize A6 []=IB at*
 generalize hrx:CC 2 IB=RX at*
 clear hR hFR hfe he hte hrx
 go_enter Tryz.func88,Tryz.ntmps88
 go_wp2_with fail
 refine (HH.out _).mono ?_
 rintro r w1 ⟨v1,rfl,ho1,hb1⟩
 obtain⟨a1,c1,rfl⟩:=ho1.form
 obtain⟨p0,p1,p2,hb0,hz3⟩:=KA w _ _ _ _ _ _ hb1
 have ho1':DF w1 (w.heap.size+3) (.slice a1 H.length c1) H:=ho1.low zM
 have k0:w1.cell? ⟨w.heap.size+1+1,0,none⟩=some (.slice none 0 0):=p2.cell 0
 have k1:w1.frozen? ⟨w.heap.size+1+1,0,none⟩=false:=p2.free 0
 have hSI:Dx w (w1.setCell ⟨w.heap.size+2,0,none⟩ (.slice a1 H.length c1)) ep none 0 0 H [] a1 c1 none 0:=by
  have h2:(Value.slice a1 H.length c1).ownBlock≠some (w.heap.size+2):=Dx.far ho1' zC
  exact⟨hb0.setCell zH _,p0.far zH _,p1.far zH _,p2.set 0 _,CQ ho1' fun b hv hl=>At _ _ _ _ (fun e=>h2 (by rw[hv,e])),Dq.nil⟩
 have HSI:=hid hSI
 have hz21:w.heap.size+2<w1.heap.size:=p2.lt
 have HBX:=hid p0
 clear ho1 ho1' p0 p1 p2 hSI hb1 hb0
 have b1:w1.cell? ⟨w.heap.size,1,none⟩=some (.slice none 0 0):=HBX.out.cell 1
 go_wp2_with fail
 refine Ee (fun W=>Dx w W ep none 0 0 H [] a1 c1 none 0) HSI.out ?_
 intro W hSI
 have HSI:=hid hSI
 clear k0 k1 b1 hSI
 go_loopw [24] (fun i wr=>i=.int .i64 0∧wr=W) (fun _ _=>0)
 case atStart=>exact ⟨rfl,rfl⟩
 case round=>
  obtain⟨rfl,rfl⟩:=hrel
  have y1:wr.cell? ⟨w.heap.size+1+1,1,none⟩=some (.slice none 0 0):=HSI.out.x.cell 1
  go_wp2_with fail
  refine (HI.out _).mono ?_
  rintro r w2 ⟨v2,rfl,hr2,hb2⟩
  obtain⟨a2,c2,hv2,hr2',_⟩:=AH hr2
  simp only[Av,AI] at hv2
  subst hv2
  have HSI2:=hid (HSI.out.later hb2)
  go_wp2_with fail
  refine (HRC.out w2 a2 _ c2 (Am.mono hr2' fun q hq=>hq.2)).mono ?_
  rintro r w3 ⟨v3,rfl,ho3,hb3⟩
  obtain⟨a3,c3,rfl⟩:=ho3.form
  have HSI3:=hid (HSI2.out.later hb3)
  have HO3:=hid ho3
  have x3:w3.cell? ⟨w.heap.size,0,none⟩=some (.int .u64 ep):=HSI3.out.bx.cell 0
  have y3:w3.cell? ⟨w.heap.size+1+1,1,none⟩=some (.slice none 0 0):=HSI3.out.x.cell 1
  have z3:w3.cell? ⟨w.heap.size+1+1,0,none⟩=some (.slice a1 H.length c1):=HSI3.out.x.cell 0
  clear ho3 hr2 hr2' y1
  go_wp2_with fail
  refine (HFO.out w3).mono ?_
  rintro r w4 ⟨rfl,hb4⟩
  have HSI4:=hid (HSI3.out.later hb4)
  have HO4:=hid (Bz HO3.out hb4)
  have m0:w4.cell? ⟨w.heap.size+1+1,2,none⟩=some (.int .u64 0):=HSI4.out.x.cell 2
  have n0:w4.frozen? ⟨w.heap.size+1+1,2,none⟩=false:=HSI4.out.x.free 2
  have m1:w4.cell? ⟨w.heap.size+1+1,3,none⟩=some (.int .i64 0):=HSI4.out.x.cell 3
  have n1:w4.frozen? ⟨w.heap.size+1+1,3,none⟩=false:=HSI4.out.x.free 3
  have m2:w4.cell? ⟨w.heap.size+1+1,4,none⟩=some (.int .i64 0):=HSI4.out.x.cell 4
  have n2:w4.frozen? ⟨w.heap.size+1+1,4,none⟩=false:=HSI4.out.x.free 4
  have m3:w4.cell? ⟨w.heap.size+1+1,5,none⟩=some (.int .u64 0):=HSI4.out.x.cell 5
  have n3:w4.frozen? ⟨w.heap.size+1+1,5,none⟩=false:=HSI4.out.x.free 5
  have m4:w4.cell? ⟨w.heap.size+1+1,6,none⟩=some (.int .u64 0):=HSI4.out.x.cell 6
  have n4:w4.frozen? ⟨w.heap.size+1+1,6,none⟩=false:=HSI4.out.x.free 6
  have m5:w4.cell? ⟨w.heap.size+1+1,7,none⟩=some (.int .i64 0):=HSI4.out.x.cell 7
  have n5:w4.frozen? ⟨w.heap.size+1+1,7,none⟩=false:=HSI4.out.x.free 7
  have m6:w4.cell? ⟨w.heap.size+1+1,8,none⟩=some (.int .i64 0):=HSI4.out.x.cell 8
  have n6:w4.frozen? ⟨w.heap.size+1+1,8,none⟩=false:=HSI4.out.x.free 8
  have hz4:w.heap.size+1+1<w4.heap.size:=HSI4.out.x.lt
  clear x3 y3 z3
  go_wp2_with fail
  refine (HFB.out _).mono ?_
  rintro r w5 ⟨v5,rfl,ho5,hb5⟩
  obtain⟨a5,c5,rfl⟩:=ho5.form
  have hx4:Blk w4 (w.heap.size+1+1) 135 (.slice a1 H.length c1:: .slice none 0 0::QT).toArray:=HSI4.out.x
  have hX:=((((((((hx4).set 2 (.int .u64 f0)).set 3 (.int .i64 f1)).set 4 (.int .i64 f2)).set 5 (.int .u64 f3)).set 6 (.int .u64 f4)).set 7 (.int .i64 f5)).set 8 (.int .i64 f6)).later hb5
  have hQ:Tch (·=w.heap.size+1+1) w4 w5:=(AaC w4 (w.heap.size+1+1) _ _ _ _ _ _ _).trans (Tch.AW (F:=(·=w.heap.size+1+1)) hb5) fun _ _ h=>h
  simp only[QT,Aa,Ab,Ac] at hX
  have hj5:w5.ownsRow (w.heap.size+3) 5 1 (.slice a1 H.length c1) H.length (byteCells H):=CQ HSI4.out.j fun b hv hl=>hQ.block b hl (by have:=(BH HSI4.out.j b hv).1;omega)
  have hs2:w.heap.size+3≤w2.heap.size:=zBt
  have ho5r:w5.ownsRow w2.heap.size 5 1 (.slice a3 RX.length c3) RX.length (byteCells RX):=CQ HO4.out fun b hv hl=>hQ.block b hl (by have:=(BH HO4.out b hv).1;omega)
  have HS5:=hid (Cm (F7 rfl ho5r))
  have hr5:Blk w5 (w.heap.size+1) 135 (.slice none 0 0:: .slice none 0 0::QT).toArray:=HSI4.out.br.tch hQ zC
  have hb05:Below w.heap.size w w5:=HSI4.out.below.trans (hQ.Ch HSI4.out.below.size fun b _ e=>zC)
  have hfb:Am.r (fun q=>w4.heap.size≤q∧q<w5.heap.size) w5 [.slice a5 FB.length c5] FB:=Am.mono ho5.read fun q hq=>⟨by have:=hq.1;simpa using this,hq.2⟩
  have hz45:=hQ.size
  have HJ5:=hid hj5
  have HJ4:=hid HSI4.out.j
  have HX5:=hid hX
  have HR5:=hid hr5
  have HFBR:=hid hfb
  have HB05:=hid hb05
  have hz15:=hb05.size
  have hz05:w.heap.size+3≤w5.heap.size:=by have:=hX.lt;omega
  clear hj5 ho5r hX hr5 hfb hQ hx4 ho5 hb5 hb05
  clear m0 n0 m1 n1 m2 n2 m3 n3 m4 n4 m5 n5 m6 n6
  have x0:w5.cell? ⟨w.heap.size+1+1,0,none⟩=some (.slice a1 H.length c1):=HX5.out.cell 0
  go_wp2_with (first | (at_builtin;(refine AB rfl _ _ _ rfl (w.heap.size+3) 5 i0 (.int .u8 0) 1 1 AJ hi hz0 hz1 hz2 rfl zL (.slice a1 H.length c1) H.length (byteCells H) rfl HJ5.out a3 RX.length c3 (byteCells RX) rfl HS5.out HON1.out zO zC zC ?_;intro v6 w6 hown6 hgrow6 hat6;obtain⟨a6,c6,rfl⟩:=AV hown6;have HG6:=hid hgrow6;have HO6:=hid hown6;have HS6:=hid (Cm (Am.mono (S':=(·<w6.heap.size)) (Am.keep HFBR.out fun q hq=>hgrow6.block q hq.2 (fun e=>zBa)) fun q hq=>An hq.2 hgrow6.size));have hz6:=hgrow6.size;clear hgrow6 hown6 hat6)) | (at_builtin;(refine AB rfl _ _ _ rfl (w.heap.size+3) 5 i0 (.int .u8 0) 1 1 AJ hi hz0 hz1 hz2 rfl zL (.slice a6 (H.length+RX.length) c6) (H.length+RX.length) (byteCells H++byteCells RX) rfl HO6.out a5 FB.length c5 (byteCells FB) rfl HS6.out HON2.out zO zC zC ?_;intro v7 w7 hown7 hgrow7 hat7;obtain⟨a7,c7,rfl⟩:=AV hown7;have HX7:=hid ((HX5.out.grown HG6.out (fun e=>Dx.far HJ5.out zC e.symm)).grown hgrow7 (fun e=>Dx.far HO6.out zC e.symm));have HR7:=hid ((HR5.out.grown HG6.out (fun e=>Dx.far HJ5.out zC e.symm)).grown hgrow7 (fun e=>Dx.far HO6.out zC e.symm));have HB7:=hid ((HB05.out.grown HG6.out hz15 (fun g e=>by have:=(BH HJ5.out g e).1;omega)).grown hgrow7 zC (fun g e=>by have:=(BH HO6.out g e).1;omega));have HO7:=hid hown7;clear hgrow7 hown7 hat7;have p0:w7.cell? ⟨w.heap.size+1+1,0,none⟩=some (.slice a1 H.length c1):=HX7.out.cell 0;have q0:w7.cell? ⟨w.heap.size+1,0,none⟩=some (.slice none 0 0):=HR7.out.cell 0;have r0:=HR7.out.free 0;have p1:w7.cell? ⟨w.heap.size+1+1,1,none⟩=some (.slice none 0 0):=HX7.out.cell 1;have q1:w7.cell? ⟨w.heap.size+1,1,none⟩=some (.slice none 0 0):=HR7.out.cell 1;have r1:=HR7.out.free 1;have p2:w7.cell? ⟨w.heap.size+1+1,2,none⟩=some (.int .u64 f0):=HX7.out.cell 2;have q2:w7.cell? ⟨w.heap.size+1,2,none⟩=some (.int .u64 0):=HR7.out.cell 2;have r2:=HR7.out.free 2;have p3:w7.cell? ⟨w.heap.size+1+1,3,none⟩=some (.int .i64 f1):=HX7.out.cell 3;have q3:w7.cell? ⟨w.heap.size+1,3,none⟩=some (.int .i64 0):=HR7.out.cell 3;have r3:=HR7.out.free 3;have p4:w7.cell? ⟨w.heap.size+1+1,4,none⟩=some (.int .i64 f2):=HX7.out.cell 4;have q4:w7.cell? ⟨w.heap.size+1,4,none⟩=some (.int .i64 0):=HR7.out.cell 4;have r4:=HR7.out.free 4;have p5:w7.cell? ⟨w.heap.size+1+1,5,none⟩=some (.int .u64 f3):=HX7.out.cell 5;have q5:w7.cell? ⟨w.heap.size+1,5,none⟩=some (.int .u64 0):=HR7.out.cell 5;have r5:=HR7.out.free 5;have p6:w7.cell? ⟨w.heap.size+1+1,6,none⟩=some (.int .u64 f4):=HX7.out.cell 6;have q6:w7.cell? ⟨w.heap.size+1,6,none⟩=some (.int .u64 0):=HR7.out.cell 6;have r6:=HR7.out.free 6;have p7:w7.cell? ⟨w.heap.size+1+1,7,none⟩=some (.int .i64 f5):=HX7.out.cell 7;have q7:w7.cell? ⟨w.heap.size+1,7,none⟩=some (.int .i64 0):=HR7.out.cell 7;have r7:=HR7.out.free 7;have p8:w7.cell? ⟨w.heap.size+1+1,8,none⟩=some (.int .i64 f6):=HX7.out.cell 8;have q8:w7.cell? ⟨w.heap.size+1,8,none⟩=some (.int .i64 0):=HR7.out.cell 8;have r8:=HR7.out.free 8;have px:=HX7.out.free 0;have hz7:w.heap.size+1+1<w7.heap.size:=HX7.out.lt)))
  have hT:=YR w7 (w.heap.size+1+1) (w.heap.size+1) (.slice a7 (H.length+RX.length+FB.length) c7) (.slice a7 (H.length+RX.length+FB.length) c7) (.slice none 0 0) (.int .u64 f0) (.int .i64 f1) (.int .i64 f2) (.int .u64 f3) (.int .u64 f4) (.int .i64 f5) (.int .i64 f6)
  have hO:DF w7 (w.heap.size+3) (.slice a7 (H.length+RX.length+FB.length) c7) K:=by
   rw[hse.out]
   unfold DF
   rw[Al,Al,←Gj,←Gj]
   exact HO7.out
  refine Ax (v:=.agg #[.slice a7 (H.length+RX.length+FB.length) c7,.slice none 0 0,.int .u64 f0,.int .i64 f1,.int .i64 f2,.int .u64 f3,.int .u64 f4,.int .i64 f5,.int .i64 f6]) zAa rfl ?_
  refine⟨_,_,_,_,_,_,_,_,_,rfl,?_,HB7.out.trans (hT.Ch HB7.out.size fun b _ e=>zC)⟩
  exact Am.mono (Am.keep hO.read fun b hb=>hT.block b hb.2 zAd) fun b hb=>⟨zAd,An hb.2 hT.size⟩
theorem Ip:Dw 5 []=[84,72,79,76,3,5,95,99,255,253,2,2,0,60,71,36,214,8,3,5,0,0,0,0,10,7,71,75,20,244,13,0,0,0,106,179,68,24,76,79,72,84]:=zF
theorem OE(W:World)(x u f0 f1 f2 f3 f4 f5 f6:Value):(Instr.field 135 (.agg #[x,u,f0,f1,f2,f3,f4,f5,f6]) 0).run Tryz.prog W=.ok x W:=zJ
theorem SH(w:World):
  Calls Tryz.prog 39 #[.agg #[.int .u64 5,.slice none 0 0]] w fun r w'=>∃v,r=.returned (.tuple #[v,.int .i64 0])∧Am.r (fun q=>w.heap.size≤q∧q<w'.heap.size) w' [v] [84,72,79,76,3,5,95,99,255,253,2,2,0,60,71,36,214,8,3,5,0,0,0,0,10,7,71,75,20,244,13,0,0,0,106,179,68,24,76,79,72,84]∧Below w.heap.size w w':=by
 have HR:=hid (fun W:World=>Hx 5 [] none 0 0 W zC (Bv (xs:=[]) rfl (As _) (Ar _) (.inl rfl)) zM)
 rw[show Ey ⟨5,[]⟩=true by decide] at HR
 have HW:=hid (fun W:World=>SG 5 zL W)
 rw[Ip] at HW
 have kf:=OE
 go_enter Tryz.func39,Tryz.ntmps39
 go_wp2_with fail
 refine (HR.out _).mono ?_
 rintro r w1 ⟨rfl,hb1⟩
 have hB:=(Blk.new w 63 #[.int .u64 5,.slice none 0 0]).later hb1
 have c0:w1.cell? ⟨w.heap.size,0,none⟩=some (.int .u64 5):=hB.cell 0
 have c1:w1.cell? ⟨w.heap.size,1,none⟩=some (.slice none 0 0):=hB.cell 1
 have hbw:Below w.heap.size w w1:=zB
 clear hB
 go_wp2_with fail
 refine (HW.out w1).mono ?_
 rintro r w2 ⟨v,u,f0,f1,f2,f3,f4,f5,f6,rfl,hr,hb2⟩
 obtain⟨a2,c2,hv2,hr2,_⟩:=AH hr
 simp only[Av,AI] at hv2
 subst hv2
 have HV:=hid hr2
 clear hr hr2
 go_wp2
 go_ret2
 exact⟨_,rfl,Am.mono HV.out fun q hq=>⟨ZD,hq.2⟩,Aj hb2 hbw⟩
theorem Dx.AaN{ep:Int}{M:List AP}{aJ:Option Addr}{cJ:Nat}{aM:Option Addr}{cM:Nat}(h:Dx w W ep a n c J M aJ cJ aM cM){W2:World}{m:AP}(hm:G5 m){aM':Option Addr}{cM':Nat}
 (hown:W2.ownsRow (w.heap.size+3) 88 3 (.slice aM' (M.length+1) cM') (M.length+1) ((M.map JW).flatten++JW m)) (hg:W.grownBy W2 (Value.slice aM M.length cM).ownBlock):
  Dx w (W2.setCell ⟨w.heap.size+1+1,1,none⟩ (.slice aM' (M.length+1) cM')) ep a n c J (M++[m]) aJ cJ aM' cM':=Dx.mark h hm hown hg
theorem Dx.AaM{ep:Int}{M:List AP}{aJ:Option Addr}{cJ:Nat}{aM:Option Addr}{cM:Nat}(h:Dx w W ep a n c J M aJ cJ aM cM){W2:World}{aJ':Option Addr}{cJ':Nat}
 (hown:W2.ownsRow (w.heap.size+3) 5 1 (.slice aJ' (J.length+D.length) cJ') (J.length+D.length) (byteCells J++byteCells D)) (hg:W.grownBy W2 (Value.slice aJ J.length cJ).ownBlock):
  Dx w (W2.setCell ⟨w.heap.size+1+1,0,none⟩ (.slice aJ' (J.length+D.length) cJ')) ep a n c (J++D) M aJ' cJ' aM cM:=Dx.more h hown hg
theorem Dq.row{w:World}{v:Value}{M:List AP}(h:Dq w base v M):Bw.r (fun q=>v.ownBlock=some q) w [v] M:=by
 have hF:AY (fun _=>False) JQ base 88 3 w v M (M.map JW):=⟨h.own,zM,zA9,fun i cs x hi hx=>by
  rw[FT,hx] at hi
  simp at hi
  subst hi
  exact KN (h.nat x (List.mem_of_getElem? hx))⟩
 exact Bw.mono (AY.slice hF) fun q hq=>hq.resolve_left id
theorem OL(ep:Int)(l:List Batch)(a:Option Addr)(n c:Nat)(w:World)(hl:DN.r (·<w.heap.size) w [.slice a n c] l)(hR:Ey ⟨ep,l⟩=true)(hbn:∀b∈l,Ec b)(htm:∀b∈l,J0 b.entries):
  Calls Tryz.prog 88 #[.agg #[.int .u64 ep,.slice a n c]] w fun r w'=>∃v u,r=.returned (.agg #[v,u,.int .u64 (Em ep l).ep,.int .i64 (Em ep l).n,.int .i64 (Em ep l).en,.int .u64 (Em ep l).first,.int .u64 (Em ep l).fin,.int .i64 (Em ep l).at_,.int .i64 (Em ep l).size])∧Am.r (fun q=>w.heap.size≤q∧q<w'.heap.size) w' [v] (Dw ep l)∧Bw.r (fun q=>w.heap.size≤q∧q<w'.heap.size) w' [u] (Ha ep l).2∧Below w.heap.size w w':=by
 obtain⟨rfl,hm,_,_⟩:=AL hl
 obtain⟨i0,hi,hz0,hz1,hz2⟩:=A5 FL
 obtain⟨j0,hj,hy0,hy1,hy2⟩:=A5 Ns
 have hl16:l.length≤16:=(F5 hR).2.1
 have HBR:=hid (F5 hR).2.2
 have HBN:=hid hbn
 have HTM:=hid htm
 have HL:=hid hl
 have HRR:=hid hR
 have he:epR ep=true:=by simp only[Ey,Ap] at hR;exact hR.1
 have he':=he
 simp only[epR,Ao] at he'
 have hte:(ep.toNat:Int)=ep:=zC
 have HH:=hid (fun W:World=>(by
  have:=KU W 3 ep.toNat 0 (by simp only[Jj,hte,he,poR];decide)
  rw[hte] at this
  exact this:Calls Tryz.prog 145 #[.agg #[.int .i64 3,.int .u64 ep,.int .u64 0]] W fun r w'=>∃x,r=.returned (.tuple #[x,.int .i64 0])∧DF w' W.heap.size x (Bf 3 ep.toNat 0)∧Below W.heap.size W w'))
 have hhl:=IE (v:=3) (ep:=ep.toNat) (bs:=0) zC zC
 have HW0:Hid (Ha ep l=Er (Bf 3 ep.toNat 0) [] l):=hid rfl
 generalize Bf 3 ep.toNat 0=H at*
 clear hR hbn htm hl he hte
 go_enter Tryz.func88,Tryz.ntmps88
 go_wp2_with fail
 refine (HH.out _).mono ?_
 rintro r w1 ⟨v1,rfl,ho1,hb1⟩
 obtain⟨a1,c1,rfl⟩:=ho1.form
 obtain⟨p0,p1,p2,hb0,hz3⟩:=KA w _ _ _ _ _ _ hb1
 have ho1':DF w1 (w.heap.size+3) (.slice a1 H.length c1) H:=ho1.low zM
 have k0:w1.cell? ⟨w.heap.size+1+1,0,none⟩=some (.slice none 0 0):=p2.cell 0
 have k1:w1.frozen? ⟨w.heap.size+1+1,0,none⟩=false:=p2.free 0
 have hSI:Dx w (w1.setCell ⟨w.heap.size+2,0,none⟩ (.slice a1 H.length c1)) ep a l.length c H [] a1 c1 none 0:=by
  have h2:(Value.slice a1 H.length c1).ownBlock≠some (w.heap.size+2):=Dx.far ho1' zC
  exact⟨hb0.setCell zH _,p0.far zH _,p1.far zH _,p2.set 0 _,CQ ho1' fun b hv hl=>At _ _ _ _ (fun e=>h2 (by rw[hv,e])),Dq.nil⟩
 have HSI:=hid hSI
 have hz21:w.heap.size+2<w1.heap.size:=p2.lt
 have HBX:=hid p0
 clear ho1 ho1' p0 p1 p2 hSI hb1 hb0
 have b1:w1.cell? ⟨w.heap.size,1,none⟩=some (.slice a l.length c):=HBX.out.cell 1
 go_wp2_with fail
 refine Ee (fun W=>Dx w W ep a l.length c H [] a1 c1 none 0) HSI.out ?_
 intro W hSI
 have HSI:=hid hSI
 clear k0 k1 b1 hSI
 go_loopw [24] (fun i wr=>∃(k:Nat) (J:List UInt8) (M:List AP) (aJ:Option Addr) (cJ:Nat) (aM:Option Addr) (cM:Nat),k≤l.length∧i=.int .i64 k∧Dx w wr ep a l.length c J M aJ cJ aM cM∧Hid (Ha ep l=Er J M (l.drop k))∧M.length≤k∧J.length≤27+1200000*k) (fun i _=>l.length-(intOf i).toNat)
 case atStart=>exact ⟨0,H,[],a1,c1,none,0,Ar _,rfl,HSI.out,hid HW0.out,As _,zC⟩
 case round=>
  obtain⟨k,J,M,aJ,cJ,aM,cM,hk,rfl,hsi,hgo,hMk,hJk⟩:=hrel
  have HSI:=hid hsi
  have hzx:=hsi.x.lt
  have hzr:=hsi.bx.lt
  by_cases hlt:k<l.length
  ·obtain⟨b,o,hA,hbb,a1,c1,x0,x1,x2,n0,n1,hd⟩:=Jz (lift HL.out hsi.below) hlt
   subst hA
   have hmem:=A0 hlt
   have hbr:=HBR.out _ hmem
   have hbn:=HBN.out _ hmem
   have htm:=HTM.out _ hmem
   have hst:=hid (SL J M l k hlt)
   obtain⟨_,_,e1,e2,e3,_⟩:=EY hbr
   have hble:=JK hbr
   have HRD:=hid hd
   generalize l[k]=z at*
   have HBB:=hid (fun (W:World) (hW:Below wr.heap.size wr W)=>(by have:=Sr W z a1 _ c1 hbn (lift HRD.out hW) htm;unfold IJ at this;rw[Ag hbr] at this;exact this:Calls Tryz.prog 146 #[.agg #[.int .u64 z.epoch,.int .u64 z.base,.slice a1 z.entries.length c1]] W fun r w'=>∃v,r=.returned (.tuple #[v,.int .i64 0])∧Am.r (fun q=>W.heap.size≤q∧q<w'.heap.size) w' [v] (Bc z)∧Below W.heap.size W w'))
   have HRC1:=hid (fun (W:World) (a:Option Addr) (n c:Nat) h=>J8 1 zL (Bc z) a n c W h zC)
   have hrl:=Gm 1 (Bc z)
   have hMN:G5 ⟨z.base,z.entries.length,J.length⟩:=⟨n1,zH,zH⟩
   have HON:=hid (Bi (CC 1 (Bc z)))
   have i1:(k:Int)<(l.length:Int):=zC
   generalize hre:CC 1 (Bc z)=RB at*
   have HRE:=hid hre
   generalize Bc z=BZ at*
   have HMN:=hid hMN
   clear hd hmem hbr hbn htm hsi hre hMN
   go_wp2_with fail
   refine (HBB.out _ zA).mono ?_
   rintro r w1 ⟨v1,rfl,hr1,hb1⟩
   obtain⟨a6,c6,hv6,hr6,_⟩:=AH hr1
   simp only[Av,AI] at hv6
   subst hv6
   have hbx:=(Blk.new wr 48 #[.int .u64 z.epoch,.int .u64 z.base,.slice a1 z.entries.length c1]).later hb1
   have hb1':Below wr.heap.size wr w1:=Aj hb1 zA
   have HSI1:=hid (HSI.out.later hb1')
   have HR6:=hid (Am.mono (S':=fun q=>wr.heap.size<q∧q<w1.heap.size) hr6 fun q hq=>⟨Z9,hq.2⟩)
   have HML:Hid (∀q,(Value.slice aM M.length cM).ownBlock=some q→w.heap.size+3≤q∧q<wr.heap.size):=hid fun q e=>BH HSI.out.m.own q e
   have y1:w1.cell? ⟨wr.heap.size,1,none⟩=some (.int .u64 z.base):=hbx.cell 1
   have y2:w1.cell? ⟨wr.heap.size,2,none⟩=some (.slice a1 z.entries.length c1):=hbx.cell 2
   have p1:w1.cell? ⟨w.heap.size+1+1,1,none⟩=some (.slice aM M.length cM):=HSI1.out.x.cell 1
   have p0:w1.cell? ⟨w.heap.size+1+1,0,none⟩=some (.slice aJ J.length cJ):=HSI1.out.x.cell 0
   have hzwr:wr.heap.size<w1.heap.size:=hbx.lt
   have hx1:w.heap.size+1+1<w1.heap.size:=HSI1.out.x.lt
   have HB1:=hid hb1'
   clear hr1 hr6 hb1 hb1' hbx x0 x1 x2
   go_wp2_with (at_builtin;(have hb12:Below w1.heap.size w1 (w1.alloc (.cells #[.int .u64 z.base,.int .i64 z.entries.length,.int .i64 J.length] 88)):=Aw (Below.refl _ _) _;have HSI2:=hid (HSI1.out.later hb12);refine AB rfl _ _ _ rfl (w.heap.size+3) 88 j0 (.agg #[.int .u64 0,.int .i64 0,.int .i64 0]) 3 24 Tryz.underlying79 hj hy0 hy1 hy2 rfl zL (.slice aM M.length cM) M.length _ rfl HSI2.out.m.own (some ⟨w1.heap.size,0,none⟩) 1 1 [.int .u64 z.base,.int .i64 z.entries.length,.int .i64 J.length] rfl (BU w1 88 _ rfl rfl rfl) (by intro u hu;simp at hu;rcases hu with rfl | rfl | rfl<;>rfl) zO zC (by have:=HSI2.out.x.lt;omega) ?_;intro v2 w2 hown2 hgrow2 hat2;obtain⟨a2,c2,rfl⟩:=AV hown2;have HSI3:=hid (HSI2.out.AaN HMN.out hown2 hgrow2);have hXg:=HSI2.out.x.grown hgrow2 (fun e=>Dx.far HSI2.out.m.own zC e.symm);have q1:w2.cell? ⟨w.heap.size+1+1,1,none⟩=some (.slice aM M.length cM):=hXg.cell 1;have q2:w2.frozen? ⟨w.heap.size+1+1,1,none⟩=false:=hXg.free 1;have q0:w2.cell? ⟨w.heap.size+1+1,0,none⟩=some (.slice aJ J.length cJ):=hXg.cell 0;have HR7:=hid (Am.mono (S':=fun q=>wr.heap.size<q∧q<w2.heap.size) (Am.keep HR6.out fun q hq=>(hgrow2.block q (by have:=hb12.size;omega) (fun e=>by have:=(HML.out q e.symm).2;omega)).trans (hb12.block q hq.2)) fun q hq=>by have:=hgrow2.size;have:=hb12.size;omega);clear hown2 hgrow2 hat2 hXg hb12))
   have HR8:Hid (Am.r (fun q=>wr.heap.size<q∧q<(w2.setCell ⟨w.heap.size+1+1,1,none⟩ (.slice a2 (M.length+1) c2)).heap.size) (w2.setCell ⟨w.heap.size+1+1,1,none⟩ (.slice a2 (M.length+1) c2)) [.slice a6 BZ.length c6] BZ):=hid (Am.mono (Am.keep HR7.out fun q hq=>At _ _ _ _ (by have:=hq.1;first | omega | (dsimp only;omega))) fun q hq=>by simpa using hq)
   have hq8:(w2.setCell ⟨w.heap.size+1+1,1,none⟩ (.slice a2 (M.length+1) c2)).cell? ⟨w.heap.size+1+1,0,none⟩=some (.slice aJ J.length cJ):=HSI3.out.x.cell 0
   clear q0 q1 q2 p0 p1 y1 y2
   generalize (w2.setCell ⟨w.heap.size+1+1,1,none⟩ (.slice a2 (M.length+1) c2))=W8 at*
   refine BQ (fun w'=>w'.cell? ⟨w.heap.size+1+1,0,none⟩=some (.slice aJ J.length cJ)) _ zJ rfl zJ hq8 (fun hHeld=> ?_)
   simp only[BD,FG]
   refine Aq (i:=0) (oi:=_) (v:=?_) rfl zF zF zF (fun _ _ _ h=>h) (Or.inl ⟨zR,?_⟩) zK ?_
   rotate_left
   ·(intro w hSw;(try dsimp only at hSw);go_simp<;>with_reducible rfl)
   (try simp only[Act.put,Aa,Ab,Ac])
   refine Aq (i:=1) (oi:=_) (v:=?_) rfl zF zF zF (fun _ _ _ h=>h) (Or.inl ⟨zR,?_⟩) zK ?_
   rotate_left
   ·(intro w hSw;(try dsimp only at hSw);go_simp<;>with_reducible rfl)
   (try simp only[Act.put,Aa,Ab,Ac])
   refine Aq (i:=2) (oi:=_) (v:=?_) rfl zF zF zF (fun _ _ _ h=>h) (Or.inl ⟨zR,?_⟩) zK ?_
   rotate_left
   ·(intro w hSw;(try dsimp only at hSw);go_simp<;>with_reducible rfl)
   (try simp only[Act.put,Aa,Ab,Ac])
   refine Bk (rs:=[3]) zF zM ?_
   refine Ba (o:=_) rfl (fun K hK=> ?_) AllReadyH.nil
   (go_simp;go_at_call 147;refine (HRC1.out W8.drew a6 _ c6 (Am.mono (S':=(·<W8.drew.heap.size)) HR8.out fun q hq=>hq.2)).mono ?_;rintro e1 w3 ⟨v3,rfl,ho3,hb3⟩;have ho3':DF w3 W8.drew.heap.size v3 RB:=ho3;obtain⟨a7,c7,rfl⟩:=ho3'.form;have hb83:Below W8.heap.size W8 w3:=Aj hb3 (Below.refl _ _).drew;have HSI4:=hid (HSI3.out.later hb83);have HS7:=hid (Cm (F7 rfl ho3'));have k0:w3.cell? ⟨w.heap.size+1+1,0,none⟩=some (.slice aJ J.length cJ):=HSI4.out.x.cell 0;clear ho3 ho3' hb3 hb83;(try dsimp only))
   refine hK.out _ _ ?_ (fun hHeld=> ?_)
   ·((try dsimp only);first | assumption | (go_keep;done))
   clear hK K
   (try simp only[Act.put,Aa,Ab,Ac])
   refine Bk (rs:=[4]) zF zM ?_
   refine Ba (o:=_) rfl (fun K hK=> ?_) AllReadyH.nil
   (refine CL zR _ _ _ zR (w.heap.size+3) 5 i0 (.int .u8 0) 1 1 AJ hi hz0 hz1 hz2 rfl zL (.slice aJ J.length cJ) J.length (byteCells J) zR HSI4.out.j a7 RB.length c7 (byteCells RB) zR HS7.out HON.out zO zC (by have:=HSI4.out.x.lt;omega) ?_;intro a8 c8 w8 hown8 hgrow8 hat8;have HSI5:=hid (HSI4.out.AaM hown8 hgrow8);have hXg:=HSI4.out.x.grown hgrow8 (fun e=>Dx.far HSI4.out.j zC e.symm);have m0:w8.cell? ⟨w.heap.size+1+1,0,none⟩=some (.slice aJ J.length cJ):=hXg.cell 0;have m1:w8.frozen? ⟨w.heap.size+1+1,0,none⟩=false:=hXg.free 0;clear hown8 hgrow8 hat8 hXg)
   refine hK.out _ _ ?_ (fun hHeld=> ?_)
   ·((try dsimp only);first | assumption | (go_keep;done))
   clear hK K
   (try simp only[Act.put,Aa,Ab,Ac])
   refine Aq (i:=5) (oi:=_) (v:=?_) rfl zF zF zF (fun _ _ _ h=>h) (Or.inl ⟨zR,?_⟩) zK ?_
   rotate_left
   ·(intro w hSw;(try dsimp only at hSw);go_simp<;>with_reducible rfl)
   (try simp only[Act.put,Aa,Ab,Ac])
   refine Aq (i:=6) (oi:=_) (v:=?_) rfl zF zF zF (fun _ _ _ h=>h) (Or.inl ⟨zR,?_⟩) zK ?_
   rotate_left
   ·(intro w hSw;(try dsimp only at hSw);go_simp<;>with_reducible rfl)
   (try simp only[Act.put,Aa,Ab,Ac])
   refine FP zJ ?_ _
   show wpList _ _ _ _ _ _
   go_wp2_with fail
   go_roundw
   case rel=>exact ⟨k+1,J++RB,M++[⟨z.base,z.entries.length,J.length⟩],a8,c8,a2,c2,zC,zT,HSI5.out,hid (hgo.out.trans hst.out),zAx,by rw[Al];omega⟩
   case measure=>simp [intOf];omega
  ·obtain rfl:k=l.length:=by omega
   have hJM:Ha ep l=(J,M):=by have:=hgo.out;rw[IP] at this;exact this
   obtain⟨hMR,hJ5,hJ20,hMN⟩:=J9 HRR.out HBN.out
   have hFR:=Ka HRR.out HBN.out
   have hX:UX ep l=CC 2 (A6 M):=by unfold UX;rw[hJM]
   have hF:Em ep l=DE ep M J.length (CC 2 (A6 M)).length:=by unfold Em;rw[hJM,hX]
   have hB:Dw ep l=J++CC 2 (A6 M)++Eu (Em ep l):=by unfold Dw;rw[hJM,hX]
   rw[hJM] at hMR hJ20 ⊢
   dsimp only at hMR hJ20 ⊢
   have HFB:=hid (fun W:World=>KW (Em ep l) hFR W)
   have HI:=hid (fun (W:World) h=>Md W M aM M.length cM h hMR)
   have hil:=Iz hMR
   have HRC:=hid (fun (W:World) (a:Option Addr) (n c:Nat) h=>J8 2 zL (A6 M) a n c W h zC)
   have hxl:=Gm 2 (A6 M)
   have HFO:=hid (fun (W:World) h=>MY ep M J.length (CC 2 (A6 M)).length aM M.length cM W h hMR)
   rw[←hF] at HFO
   have hse:=hid hB
   have hfl:(Eu (Em ep l)).length≤200:=by
    simp only[Eu,Al,D5,Dk,Dy]
    have h1:=GL (Em ep l)
    have h2:=(A1 (Du (Em ep l)).length).1
    omega
   have HON1:=hid (Bi (CC 2 (A6 M)))
   have HON2:=hid (Bi (Eu (Em ep l)))
   generalize hKE:Dw ep l=K at*
   have HKE:=hid hKE
   generalize Eu (Em ep l)=FB at*
   generalize hFE:(Em ep l)=F at*
   obtain⟨f0,f1,f2,f3,f4,f5,f6⟩:=F
   have HFE:=hid hFE
   clear hKE hFE
   simp only[BX.val] at HFB HFO
   generalize A6 M=IB at*
   generalize hrx:CC 2 IB=RX at*
   have HJM:=hid hJM
   clear hFR hX hF hB hrx hJM hMN hgo hMk hsi
   have y1:wr.cell? ⟨w.heap.size+1+1,1,none⟩=some (.slice aM M.length cM):=HSI.out.x.cell 1
   go_wp2_with fail
   refine (HI.out _ (Bw.mono HSI.out.m.read fun q hq=>hq.2)).mono ?_
   rintro r w2 ⟨v2,rfl,hr2,hb2⟩
   obtain⟨a2,c2,hv2,hr2',_⟩:=AH hr2
   simp only[Av,AI] at hv2
   subst hv2
   have HSI2:=hid (HSI.out.later hb2)
   go_wp2_with fail
   refine (HRC.out w2 a2 _ c2 (Am.mono hr2' fun q hq=>hq.2)).mono ?_
   rintro r w3 ⟨v3,rfl,ho3,hb3⟩
   obtain⟨a3,c3,rfl⟩:=ho3.form
   have HSI3:=hid (HSI2.out.later hb3)
   have HO3:=hid ho3
   have x3:w3.cell? ⟨w.heap.size,0,none⟩=some (.int .u64 ep):=HSI3.out.bx.cell 0
   have y3:w3.cell? ⟨w.heap.size+1+1,1,none⟩=some (.slice aM M.length cM):=HSI3.out.x.cell 1
   have z3:w3.cell? ⟨w.heap.size+1+1,0,none⟩=some (.slice aJ J.length cJ):=HSI3.out.x.cell 0
   clear ho3 hr2 hr2' y1
   go_wp2_with fail
   refine (HFO.out w3 (Bw.mono HSI3.out.m.read fun q hq=>hq.2)).mono ?_
   rintro r w4 ⟨rfl,hb4⟩
   have HSI4:=hid (HSI3.out.later hb4)
   have HO4:=hid (Bz HO3.out hb4)
   have m0:w4.cell? ⟨w.heap.size+1+1,2,none⟩=some (.int .u64 0):=HSI4.out.x.cell 2
   have n0:w4.frozen? ⟨w.heap.size+1+1,2,none⟩=false:=HSI4.out.x.free 2
   have m1:w4.cell? ⟨w.heap.size+1+1,3,none⟩=some (.int .i64 0):=HSI4.out.x.cell 3
   have n1:w4.frozen? ⟨w.heap.size+1+1,3,none⟩=false:=HSI4.out.x.free 3
   have m2:w4.cell? ⟨w.heap.size+1+1,4,none⟩=some (.int .i64 0):=HSI4.out.x.cell 4
   have n2:w4.frozen? ⟨w.heap.size+1+1,4,none⟩=false:=HSI4.out.x.free 4
   have m3:w4.cell? ⟨w.heap.size+1+1,5,none⟩=some (.int .u64 0):=HSI4.out.x.cell 5
   have n3:w4.frozen? ⟨w.heap.size+1+1,5,none⟩=false:=HSI4.out.x.free 5
   have m4:w4.cell? ⟨w.heap.size+1+1,6,none⟩=some (.int .u64 0):=HSI4.out.x.cell 6
   have n4:w4.frozen? ⟨w.heap.size+1+1,6,none⟩=false:=HSI4.out.x.free 6
   have m5:w4.cell? ⟨w.heap.size+1+1,7,none⟩=some (.int .i64 0):=HSI4.out.x.cell 7
   have n5:w4.frozen? ⟨w.heap.size+1+1,7,none⟩=false:=HSI4.out.x.free 7
   have m6:w4.cell? ⟨w.heap.size+1+1,8,none⟩=some (.int .i64 0):=HSI4.out.x.cell 8
   have n6:w4.frozen? ⟨w.heap.size+1+1,8,none⟩=false:=HSI4.out.x.free 8
   have hz4:w.heap.size+1+1<w4.heap.size:=HSI4.out.x.lt
   clear x3 y3 z3
   go_wp2_with fail
   refine (HFB.out _).mono ?_
   rintro r w5 ⟨v5,rfl,ho5,hb5⟩
   obtain⟨a5,c5,rfl⟩:=ho5.form
   have hx4:Blk w4 (w.heap.size+1+1) 135 (.slice aJ J.length cJ:: .slice aM M.length cM::QT).toArray:=HSI4.out.x
   have hX:=((((((((hx4).set 2 (.int .u64 f0)).set 3 (.int .i64 f1)).set 4 (.int .i64 f2)).set 5 (.int .u64 f3)).set 6 (.int .u64 f4)).set 7 (.int .i64 f5)).set 8 (.int .i64 f6)).later hb5
   have hQ:Tch (·=w.heap.size+1+1) w4 w5:=(AaC w4 (w.heap.size+1+1) _ _ _ _ _ _ _).trans (Tch.AW (F:=(·=w.heap.size+1+1)) hb5) fun _ _ h=>h
   simp only[QT,Aa,Ab,Ac] at hX
   have hj5:w5.ownsRow (w.heap.size+3) 5 1 (.slice aJ J.length cJ) J.length (byteCells J):=CQ HSI4.out.j fun b hv hl=>hQ.block b hl (by have:=(BH HSI4.out.j b hv).1;omega)
   have hs2:w.heap.size+3≤w2.heap.size:=zBt
   have ho5r:w5.ownsRow w2.heap.size 5 1 (.slice a3 RX.length c3) RX.length (byteCells RX):=CQ HO4.out fun b hv hl=>hQ.block b hl (by have:=(BH HO4.out b hv).1;omega)
   have HS5:=hid (Cm (F7 rfl ho5r))
   have hr5:Blk w5 (w.heap.size+1) 135 (.slice none 0 0:: .slice none 0 0::QT).toArray:=HSI4.out.br.tch hQ zC
   have hb05:Below w.heap.size w w5:=HSI4.out.below.trans (hQ.Ch HSI4.out.below.size fun b _ e=>zC)
   have hfb:Am.r (fun q=>w4.heap.size≤q∧q<w5.heap.size) w5 [.slice a5 FB.length c5] FB:=Am.mono ho5.read fun q hq=>⟨by have:=hq.1;simpa using this,hq.2⟩
   have hz45:=hQ.size
   have HJ5:=hid hj5
   have HQ:=hid hQ
   have HJ4:=hid HSI4.out.j
   have HX5:=hid hX
   have HR5:=hid hr5
   have HFBR:=hid hfb
   have HB05:=hid hb05
   have hz15:=hb05.size
   have hz05:w.heap.size+3≤w5.heap.size:=by have:=hX.lt;omega
   clear hj5 ho5r hX hr5 hfb hQ hx4 ho5 hb5 hb05
   clear m0 n0 m1 n1 m2 n2 m3 n3 m4 n4 m5 n5 m6 n6
   have x0:w5.cell? ⟨w.heap.size+1+1,0,none⟩=some (.slice aJ J.length cJ):=HX5.out.cell 0
   go_wp2_with (first | (at_builtin;(refine AB rfl _ _ _ rfl (w.heap.size+3) 5 i0 (.int .u8 0) 1 1 AJ hi hz0 hz1 hz2 rfl zL (.slice aJ J.length cJ) J.length (byteCells J) rfl HJ5.out a3 RX.length c3 (byteCells RX) rfl HS5.out HON1.out zO zC zC ?_;intro v6 w6 hown6 hgrow6 hat6;obtain⟨a6,c6,rfl⟩:=AV hown6;have HG6:=hid hgrow6;have HO6:=hid hown6;have HS6:=hid (Cm (Am.mono (S':=(·<w6.heap.size)) (Am.keep HFBR.out fun q hq=>hgrow6.block q hq.2 (fun e=>zBa)) fun q hq=>An hq.2 hgrow6.size));have hz6:=hgrow6.size;have HA6:=hid hat6;clear hgrow6 hown6 hat6)) | (at_builtin;(refine AB rfl _ _ _ rfl (w.heap.size+3) 5 i0 (.int .u8 0) 1 1 AJ hi hz0 hz1 hz2 rfl zL (.slice a6 (J.length+RX.length) c6) (J.length+RX.length) (byteCells J++byteCells RX) rfl HO6.out a5 FB.length c5 (byteCells FB) rfl HS6.out HON2.out zO zC zC ?_;intro v7 w7 hown7 hgrow7 hat7;obtain⟨a7,c7,rfl⟩:=AV hown7;have HX7:=hid ((HX5.out.grown HG6.out (fun e=>Dx.far HJ5.out zC e.symm)).grown hgrow7 (fun e=>Dx.far HO6.out zC e.symm));have HR7:=hid ((HR5.out.grown HG6.out (fun e=>Dx.far HJ5.out zC e.symm)).grown hgrow7 (fun e=>Dx.far HO6.out zC e.symm));have HB7:=hid ((HB05.out.grown HG6.out hz15 (fun g e=>by have:=(BH HJ5.out g e).1;omega)).grown hgrow7 zC (fun g e=>by have:=(BH HO6.out g e).1;omega));have HO7:=hid hown7;have HG7:=hid hgrow7;clear hgrow7 hown7 hat7;have p0:w7.cell? ⟨w.heap.size+1+1,0,none⟩=some (.slice aJ J.length cJ):=HX7.out.cell 0;have q0:w7.cell? ⟨w.heap.size+1,0,none⟩=some (.slice none 0 0):=HR7.out.cell 0;have r0:=HR7.out.free 0;have p1:w7.cell? ⟨w.heap.size+1+1,1,none⟩=some (.slice aM M.length cM):=HX7.out.cell 1;have q1:w7.cell? ⟨w.heap.size+1,1,none⟩=some (.slice none 0 0):=HR7.out.cell 1;have r1:=HR7.out.free 1;have p2:w7.cell? ⟨w.heap.size+1+1,2,none⟩=some (.int .u64 f0):=HX7.out.cell 2;have q2:w7.cell? ⟨w.heap.size+1,2,none⟩=some (.int .u64 0):=HR7.out.cell 2;have r2:=HR7.out.free 2;have p3:w7.cell? ⟨w.heap.size+1+1,3,none⟩=some (.int .i64 f1):=HX7.out.cell 3;have q3:w7.cell? ⟨w.heap.size+1,3,none⟩=some (.int .i64 0):=HR7.out.cell 3;have r3:=HR7.out.free 3;have p4:w7.cell? ⟨w.heap.size+1+1,4,none⟩=some (.int .i64 f2):=HX7.out.cell 4;have q4:w7.cell? ⟨w.heap.size+1,4,none⟩=some (.int .i64 0):=HR7.out.cell 4;have r4:=HR7.out.free 4;have p5:w7.cell? ⟨w.heap.size+1+1,5,none⟩=some (.int .u64 f3):=HX7.out.cell 5;have q5:w7.cell? ⟨w.heap.size+1,5,none⟩=some (.int .u64 0):=HR7.out.cell 5;have r5:=HR7.out.free 5;have p6:w7.cell? ⟨w.heap.size+1+1,6,none⟩=some (.int .u64 f4):=HX7.out.cell 6;have q6:w7.cell? ⟨w.heap.size+1,6,none⟩=some (.int .u64 0):=HR7.out.cell 6;have r6:=HR7.out.free 6;have p7:w7.cell? ⟨w.heap.size+1+1,7,none⟩=some (.int .i64 f5):=HX7.out.cell 7;have q7:w7.cell? ⟨w.heap.size+1,7,none⟩=some (.int .i64 0):=HR7.out.cell 7;have r7:=HR7.out.free 7;have p8:w7.cell? ⟨w.heap.size+1+1,8,none⟩=some (.int .i64 f6):=HX7.out.cell 8;have q8:w7.cell? ⟨w.heap.size+1,8,none⟩=some (.int .i64 0):=HR7.out.cell 8;have r8:=HR7.out.free 8;have px:=HX7.out.free 0;have hz7:w.heap.size+1+1<w7.heap.size:=HX7.out.lt)))
   have hT:=YR w7 (w.heap.size+1+1) (w.heap.size+1) (.slice a7 (J.length+RX.length+FB.length) c7) (.slice a7 (J.length+RX.length+FB.length) c7) (.slice aM M.length cM) (.int .u64 f0) (.int .i64 f1) (.int .i64 f2) (.int .u64 f3) (.int .u64 f4) (.int .i64 f5) (.int .i64 f6)
   have hO:DF w7 (w.heap.size+3) (.slice a7 (J.length+RX.length+FB.length) c7) K:=by
    rw[hse.out]
    unfold DF
    rw[Al,Al,←Gj,←Gj]
    exact HO7.out
   refine Ax (v:=.agg #[.slice a7 (J.length+RX.length+FB.length) c7,.slice aM M.length cM,.int .u64 f0,.int .i64 f1,.int .i64 f2,.int .u64 f3,.int .u64 f4,.int .i64 f5,.int .i64 f6]) zAa rfl ?_
   refine⟨_,_,by rw[HFE.out],?_,?_,HB7.out.trans (hT.Ch HB7.out.size fun b _ e=>zC)⟩
   ·rw[HKE.out]
    exact Am.mono (Am.keep hO.read fun b hb=>hT.block b hb.2 zAd) fun b hb=>⟨zAd,An hb.2 hT.size⟩
   ·have hml:∀q,(Value.slice aM M.length cM).ownBlock=some q→w.heap.size+3≤q∧q<w4.heap.size:=fun q e=>BH HSI4.out.m.own q e
    have hs7:=HG7.out.size
    rw[HJM.out]
    show Bw.r _ _ _ M
    refine Bw.mono (Bw.keep HSI4.out.m.row fun q e=> ?_) fun q e=>⟨by have:=hml q e;omega,by have:=hml q e;have:=hT.size;omega⟩
    have h1:=hml q e
    have n1:(Value.slice aJ J.length cJ).ownBlock≠some q:=fun e2=>HSI4.out.ne q e2 e
    have n2:(Value.slice a6 (J.length+RX.length) c6).ownBlock≠some q:=fun e2=>by
     rcases HA6.out with h | h
     ·exact n1 (h.symm.trans e2)
     ·have:=AR (e2.symm.trans h);omega
    exact (hT.block q zC zC).trans ((HG7.out.block q zC (fun e3=>n2 e3.symm)).trans ((HG6.out.block q zC (fun e3=>n1 e3.symm)).trans (HQ.out.block q h1.2 zC)))
theorem Om(ep:Int)(l:List Batch)(a:Option Addr)(n c:Nat)(w:World)(h0:0≤ep∧ep≤18446744073709551615)(hl:DN.r (·<w.heap.size) w [.slice a n c] l)(hbn:∀b∈l,Ec b)(htm:∀b∈l,J0 b.entries):
  Calls Tryz.prog 39 #[.agg #[.int .u64 ep,.slice a n c]] w fun r w'=>∃v,r=.returned (.tuple #[v,.int .i64 (if Ey ⟨ep,l⟩=true then 0 else 3)])∧Am.r (fun q=>w.heap.size≤q∧q<w'.heap.size) w' [v] (if Ey ⟨ep,l⟩=true then Dw ep l else [])∧Below w.heap.size w w':=by
 obtain⟨rfl,hm,_,_⟩:=AL hl
 have HR:=hid (fun (W:World) (hW:Below w.heap.size w W)=>Hx ep l a _ c W h0 (lift hl hW) (fun x hx=>(htm x hx).fair))
 have HL:=hid hl
 have kf:=OE
 clear hl
 cases hs:Ey ⟨ep,l⟩
 ·rw[hs] at HR
  simp only[Bool.false_eq_true,if_false]
  clear hs
  go_enter Tryz.func39,Tryz.ntmps39
  go_wp2_with fail
  refine (HR.out _ zB).mono ?_
  rintro r w1 ⟨rfl,hb1⟩
  have hbw:Below w.heap.size w w1:=zB
  go_wp2
  go_ret2
  exact⟨_,rfl,Bv (xs:=[]) rfl (As _) (Ar _) (.inl rfl),hbw⟩
 ·rw[hs] at HR
  simp only[IL]
  have HW:=hid (fun (W:World) (hW:Below w.heap.size w W)=>OL ep l a _ c W (lift HL.out hW) hs hbn htm)
  clear hs
  go_enter Tryz.func39,Tryz.ntmps39
  go_wp2_with fail
  refine (HR.out _ zB).mono ?_
  rintro r w1 ⟨rfl,hb1⟩
  have hB:=(Blk.new w 63 #[.int .u64 ep,.slice a l.length c]).later hb1
  have c0:w1.cell? ⟨w.heap.size,0,none⟩=some (.int .u64 ep):=hB.cell 0
  have c1:w1.cell? ⟨w.heap.size,1,none⟩=some (.slice a l.length c):=hB.cell 1
  have hbw:Below w.heap.size w w1:=zB
  clear hB
  go_wp2_with fail
  refine (HW.out w1 hbw).mono ?_
  rintro r w2 ⟨v,u,rfl,hr,_,hb2⟩
  obtain⟨a2,c2,hv2,hr2,_⟩:=AH hr
  simp only[Av,AI] at hv2
  subst hv2
  have HV:=hid hr2
  clear hr hr2
  go_wp2
  go_ret2
  exact⟨_,rfl,Am.mono HV.out fun q hq=>⟨ZD,hq.2⟩,Aj hb2 hbw⟩
theorem UD(W:World)(x u f0 f1 f2 f3 f4 f5 f6:Value):(Instr.field 135 (.agg #[x,u,f0,f1,f2,f3,f4,f5,f6]) 1).run Tryz.prog W=.ok u W:=zJ
theorem Ol(ep:Int)(l:List Batch)(a:Option Addr)(n c:Nat)(w:World)(h0:0≤ep∧ep≤18446744073709551615)(hl:DN.r (·<w.heap.size) w [.slice a n c] l)(hbn:∀b∈l,Ec b)(htm:∀b∈l,J0 b.entries):
  Calls Tryz.prog 53 #[.agg #[.int .u64 ep,.slice a n c]] w fun r w'=>∃v,r=.returned (.tuple #[v,.bool (Ey ⟨ep,l⟩)])∧Bw.r (fun q=>w.heap.size≤q∧q<w'.heap.size) w' [v] (if Ey ⟨ep,l⟩=true then (Ha ep l).2 else [])∧Below w.heap.size w w':=by
 obtain⟨rfl,hm,_,_⟩:=AL hl
 have HR:=hid (fun (W:World) (hW:Below w.heap.size w W)=>Hx ep l a _ c W h0 (lift hl hW) (fun x hx=>(htm x hx).fair))
 have HL:=hid hl
 have kf:=UD
 clear hl
 cases hs:Ey ⟨ep,l⟩
 ·rw[hs] at HR
  simp only[Bool.false_eq_true,if_false]
  clear hs
  go_enter Tryz.func53,Tryz.ntmps53
  go_wp2_with fail
  refine (HR.out _ zB).mono ?_
  rintro r w1 ⟨rfl,hb1⟩
  have hbw:Below w.heap.size w w1:=zB
  go_wp2
  go_ret2
  exact⟨_,rfl,Bv (xs:=[]) rfl (As _) (Ar _) (.inl rfl),hbw⟩
 ·rw[hs] at HR
  simp only[IL]
  have HW:=hid (fun (W:World) (hW:Below w.heap.size w W)=>OL ep l a _ c W (lift HL.out hW) hs hbn htm)
  clear hs
  go_enter Tryz.func53,Tryz.ntmps53
  go_wp2_with fail
  refine (HR.out _ zB).mono ?_
  rintro r w1 ⟨rfl,hb1⟩
  have hB:=(Blk.new w 63 #[.int .u64 ep,.slice a l.length c]).later hb1
  have c0:w1.cell? ⟨w.heap.size,0,none⟩=some (.int .u64 ep):=hB.cell 0
  have c1:w1.cell? ⟨w.heap.size,1,none⟩=some (.slice a l.length c):=hB.cell 1
  have hbw:Below w.heap.size w w1:=zB
  clear hB
  go_wp2_with fail
  refine (HW.out w1 hbw).mono ?_
  rintro r w2 ⟨v0,v,rfl,_,hr,hb2⟩
  obtain⟨a2,c2,hv2,hr2,_⟩:=AH hr
  simp only[Av,AI] at hv2
  subst hv2
  have HV:=hid hr2
  clear hr hr2
  go_wp2
  go_ret2
  exact⟨_,rfl,Bw.mono HV.out fun q hq=>⟨ZD,hq.2⟩,Aj hb2 hbw⟩
theorem Km(P:List UInt8):5≤(BJ P).length:=by
 have:=(A1 P.length).2
 rw[Dk,Dy]
 omega
theorem Aaj{m:Msg}(h:FZ S w m a1 c1 a2 c2 a3 c3 a4 c4):Y9.r S w (Nd m a1 c1 a2 c2 a3 c3 a4 c4) m:=
 ⟨[_],_,rfl,⟨rfl,IA h.kind⟩,[_],_,rfl,⟨rfl,F0 h.epoch⟩,[_],_,rfl,⟨rfl,F0 h.seq⟩,[_],_,rfl,⟨rfl,F0 h.pos⟩,[_],_,rfl,⟨rfl,IA h.count⟩,[_],_,rfl,⟨rfl,IA h.state⟩,[_],_,rfl,h.streams,[_],_,rfl,h.links,[_],_,rfl,h.data,[_,_,_],_,rfl,
  ⟨[_],_,rfl,⟨rfl,F0 h.sealE⟩,[_],_,rfl,⟨rfl,F0 h.sealN⟩,rfl,F0 h.sealT⟩,[_],_,rfl,⟨rfl,F0 h.projE⟩,h.stripes⟩
structure V9(w:World)(B:List UInt8)(a:Option Addr)(c g:Nat)(s:Rs)(W:World):Prop where
 cb:Blk W g 91 #[.slice a B.length c,.int .i64 (s.p:Int),.int .i64 s.k,.int .i64 s.f]
 mb:Blk W w.heap.size 45 zeroCells
 fb:Blk W (w.heap.size+1) 65 #[.int .i64 0,.int .i64 0]
 bl:Below w.heap.size w W
 ok:s.ok B.length
 lg:w.heap.size+1<g
section
variable {w W W':World} {B:List UInt8} {a:Option Addr} {c g:Nat} {s s':Rs}
theorem MX:Tch (·=g) W ((((W.setCell ⟨g,0,none⟩ (.slice a B.length c)).setCell ⟨g,1,none⟩ (.int .i64 (s'.p:Int))).setCell ⟨g,2,none⟩ (.int .i64 s'.k)).setCell ⟨g,3,none⟩ (.int .i64 s'.f)):=
 Tch.setCell (F:=(·=g)) (p:=⟨g,3,none⟩) (Tch.setCell (F:=(·=g)) (p:=⟨g,2,none⟩) (Tch.setCell (F:=(·=g)) (p:=⟨g,1,none⟩) (Tch.setCell (F:=(·=g)) (p:=⟨g,0,none⟩) (Tch.refl _ _) (fun _=>rfl) _) (fun _=>rfl) _) (fun _=>rfl) _) (fun _=>rfl) _
theorem V9.row(h:V9 w B a c g s W)(hb:Below W.heap.size W W'):V9 w B a c g s W':=
 ⟨h.cb.later hb,h.mb.later hb,h.fb.later hb,Aj hb h.bl,h.ok,h.lg⟩
theorem V9.set(h:V9 w B a c g s W)(ok:s'.ok B.length):V9 w B a c g s' ((((W.setCell ⟨g,0,none⟩ (.slice a B.length c)).setCell ⟨g,1,none⟩ (.int .i64 (s'.p:Int))).setCell ⟨g,2,none⟩ (.int .i64 s'.k)).setCell ⟨g,3,none⟩ (.int .i64 s'.f)):=by
 have hl:=h.lg
 exact⟨(((h.cb.set 0 _).set 1 _).set 2 _).set 3 _,h.mb.tch MX zC,h.fb.tch MX zC,h.bl.trans (MX.Ch h.bl.size fun b hb e=>zC),ok,h.lg⟩
end
theorem QL:∀(l r:List UInt8) (i x:Nat),(Cn i x l).2.2≠1→Cn i x (l++r)=Cn i x l
 | [],r,i,x,h=>absurd rfl h
 | c::l,r,i,x,h=>by
  rw[DV]
  unfold Cn at h ⊢
  split at h
  ·rename_i h1
   rw[Ag h1,Ag h1]
  ·rename_i h1
   rw[Ai h1,Ai h1]
   split at h
   ·rename_i h2
    rw[Ag h2,Ag h2]
   ·rename_i h2
    rw[Ai h2,Ai h2]
    split at h
    ·rename_i h3
     rw[Ag h3,Ag h3]
    ·rename_i h3
     rw[Ai h3,Ai h3]
     exact QL l r _ _ h
def Fh(D:List UInt8):Rs × Nat:=(⟨0,0,0⟩:Rs).int D 2097152
theorem Ym(D:List UInt8):Fh D=(if 2097152<(Cn 0 0 D).1 then ((⟨(Cn 0 0 D).2.1,(Cn 0 0 D).2.2,if (Cn 0 0 D).2.2=0 then 0 else if (Cn 0 0 D).2.2=1 then D.length else ((Cn 0 0 D).2.1:Int)-1⟩:Rs).fail 2 0,0) else (⟨(Cn 0 0 D).2.1,(Cn 0 0 D).2.2,if (Cn 0 0 D).2.2=0 then 0 else if (Cn 0 0 D).2.2=1 then D.length else ((Cn 0 0 D).2.1:Int)-1⟩,(Cn 0 0 D).1)):=by
 unfold Fh Rs.int Rs.most
 rw[Ag zL]
 have e:(⟨0,0,0⟩:Rs).num D=(⟨(Cn 0 0 D).2.1,(Cn 0 0 D).2.2,if (Cn 0 0 D).2.2=0 then 0 else if (Cn 0 0 D).2.2=1 then D.length else ((Cn 0 0 D).2.1:Int)-1⟩,(Cn 0 0 D).1):=by
  unfold Rs.num
  rw[Ag rfl]
  dsimp only
  rw[De,A7]
  simp only[Int.natCast_zero,Int.zero_add]
 rw[e]
 rfl
theorem OH:∀(l:List UInt8) (i x:Nat),(Cn i x l).2.2≠0→(Cn i x l).1=0
 | [],i,x,h=>rfl
 | c::l,i,x,h=>by
  unfold Cn at h ⊢
  split
  ·rfl
  ·rename_i h1
   rw[Ai h1] at h
   split
   ·rfl
   ·rename_i h2
    rw[Ai h2] at h
    split
    ·rename_i h3
     rw[Ag h3] at h
     exact absurd rfl h
    ·rename_i h3
     rw[Ai h3] at h
     exact OH l _ _ h
def Hv(D:List UInt8):Nat:=if (Fh D).1.k=0 then (AD (Fh D).2).length+(Fh D).2+4 else 0
theorem Sy:0<Hv D↔(Fh D).1.k=0:=by
 unfold Hv
 split
 ·rename_i h
  exact⟨fun _=>h,fun _=>zC⟩
 ·rename_i h
  exact⟨fun h2=>absurd h2 zC,fun h2=>absurd h2 h⟩
theorem Vm(h:(Fh D).1.k=0):D=AD (Fh D).2++D.drop (AD (Fh D).2).length∧(AD (Fh D).2).length≤D.length∧(Fh D).2≤2097152:=by
 obtain⟨h1,h2,_⟩:=Rs.EX (B:=D) (s:=⟨0,0,0⟩) (m:=2097152) ⟨Ar _,fun _=>rfl⟩ h
 have h1':D=AD (Fh D).2++D.drop (Fh D).1.p:=h1
 have h2':((Fh D).2:Int)≤2097152:=h2
 generalize Fh D=I at h1' h2' ⊢
 have h3:D.drop (AD I.2).length=D.drop I.1.p:=by
  have:=A3 (List.drop (AD I.2).length) h1'
  rw[List.drop_left] at this
  exact this
 rw[h3]
 refine⟨h1',?_,zC⟩
 have:=A3 List.length h1'
 rw[Al] at this
 omega
structure Ev where
 kind:Int
 at_:Int
 code:Int
 msg:Msg
 deriving DecidableEq
structure PSt where
 buf:List UInt8
 first:Nat
 fed:Nat
 need:Nat
 ended:Int
theorem least(P:Nat→Prop)[DecidablePred P]:∀n,P n→∃j,j≤n∧P j∧∀i,i<j→¬P i
 | 0,h=>⟨0,As _,h,fun i hi=>absurd hi (Nat.not_lt_zero _)⟩
 | n+1,h=>by
  by_cases hq:∃i,i≤n∧P i
  ·obtain⟨i,hi,hp⟩:=hq
   obtain⟨j,h1,h2,h3⟩:=least P i hp
   exact⟨j,zC,h2,h3⟩
  ·exact⟨n+1,As _,h,fun i hi hp=>hq ⟨i,zC,hp⟩⟩
structure Rs.fit(s:Rs)(L:Nat):Prop where
 ok:s.ok L
 inn:s.inn L
theorem Rs.C4{t:Rs}(h:t.fit L){c:Int}(hs:s.fit L)(hc:c≠0):(t.fail c s.p).fit L:=⟨Rs.Ck h.ok hc,Rs.GC h.inn zC (by have:=hs.ok.le;omega)⟩
variable {B:List UInt8} {s:Rs}
theorem Rs.Fq(h:s.fit B.length):(s.num B).1.fit B.length:=⟨Rs.CZ h.ok,Rs.S6 h.ok h.inn⟩
theorem Rs.H5(h:s.fit B.length)(n:Int):(s.take B n).1.fit B.length:=⟨Rs.Gf h.ok n,Rs.PO h.ok h.inn n⟩
theorem Rs.NX(h:s.fit B.length):(s.byte B).1.fit B.length:=⟨Rs.Hp h.ok,Rs.PO h.ok h.inn 1⟩
theorem Rs.WQ(h:s.fit B.length){m:Nat}:(s.most B m).1.fit B.length:=by
 unfold Rs.most;split
 ·exact Rs.C4 (Rs.Fq h) h zC
 ·exact Rs.Fq h
theorem Rs.EW(h:s.fit B.length):(s.int B m).1.fit B.length:=by
 unfold Rs.int;split
 ·exact Rs.WQ h
 ·exact Rs.C4 (Rs.Fq h) h zC
theorem Rs.Sn(h:s.fit B.length)(m:Int):(s.Ct B m).1.fit B.length:=Rs.H5 (Rs.EW h) _
theorem Rs.VZ(h:s.ok B.length):((s.Ct B m).2.length:Int)≤(s.Ct B m).1.p:=by
 have h1:=Rs.Eo h (m:=m)
 have h2:=h1.le
 unfold Rs.Ct
 generalize (s.int B m).1=u at*
 generalize ((s.int B m).2:Int)=n
 unfold Rs.take
 cases hk:(u.skip B.length n).1
 ·simp
 ·have h3:=Rs.Fv hk
  rw[h3.2.2.2]
  dsimp only
  rw[Ag rfl,E8]
  omega
theorem Rs.Ue(h:s.fit B.length)(n:Nat):(s.unp B n).1.fit B.length:=by
 have hb:=Rs.Sn h 1048576
 have hr:=Rs.VZ h.ok (m:=1048576)
 have hx:=LL (s.Ct B 1048576).2 n
 have hle:=hb.ok.le
 unfold Rs.unp
 split
 ·split
  ·split
   ·exact Rs.C4 hb hb zC
   ·exact hb
  ·exact⟨Rs.Ck hb.ok zK,Rs.GC hb.inn zC zC⟩
 ·exact hb
theorem Rs.Ve(h:s.fit B.length)(most:Int):(s.loose B most).1.fit B.length:=by
 have hb:=Rs.NX (B:=B) (Rs.EW h (m:=min most 1048576))
 have hp:((s.int B (min most 1048576)).1.byte B).1.k=0→1≤((s.int B (min most 1048576)).1.byte B).1.p:=fun h0=>by
  unfold Rs.byte at h0 ⊢
  cases hk:((s.int B (min most 1048576)).1.skip B.length 1).1
  ·exact absurd h0 (Rs.Io hk).1
  ·rw[(Rs.Fv hk).2.2.2]
   dsimp only
   omega
 unfold Rs.loose
 split
 ·rename_i h0
  split
  ·split
   ·exact Rs.H5 hb _
   ·exact Rs.H5 hb _
  ·split
   ·split
    ·exact Rs.Ue hb _
    ·exact Rs.Ue hb _
   ·have:=hp h0
    have:=hb.ok.le
    exact⟨Rs.Ck hb.ok zC,Rs.GC hb.inn zC zC⟩
 ·exact hb
theorem XC(h:s.fit B.length):(Eb B s).1.fit B.length:=by
 have hl:=Rs.Ve h 1048576
 unfold Eb Rs.strict
 dsimp only
 split
 ·split
  ·exact hl
  ·exact Rs.C4 hl hl zC
 ·exact hl
theorem Rs.Qr(h:s.fit B.length):(s.fin B.length).fit B.length:=by
 unfold Rs.fin
 split
 ·exact Rs.C4 h h zC
 ·exact h
theorem Rs.TQ(h:s.fit B.length):(s.ep B).1.fit B.length:=by
 have h2:=Rs.Fq h
 unfold Rs.ep
 split
 ·split
  ·exact h2
  ·exact Rs.C4 h2 h zC
 ·exact h2
theorem Rs.WC(h:s.fit B.length):(s.po B).1.fit B.length:=by
 have h2:=Rs.Fq h
 unfold Rs.po
 split
 ·split
  ·exact h2
  ·exact Rs.C4 h2 h zC
 ·exact h2
theorem Rs.Pq:∀(n:Nat) (s:Rs) (below:Int) (out:List Int),s.fit B.length→(Rs.Eh B n s below out).1.fit B.length
 | 0,s,below,out,h=>h
 | n+1,s,below,out,h=>by
  have h2:=Rs.Fq (B:=B) h
  simp only[Rs.Eh]
  split
  ·split
   ·exact Rs.C4 h2 h zC
   ·exact Rs.Pq n _ _ _ h2
  ·exact h2
theorem Rs.SF{prev:Option Int}(h:s.fit B.length):(s.stream B prev).1.fit B.length:=by
 unfold Rs.stream
 cases prev with
 | none=>exact Rs.Fq h
 | some q=>
  dsimp only
  split
  ·exact Rs.C4 (Rs.Fq h) h zC
  ·exact Rs.Fq h
theorem Rs.Nn:∀(n:Nat) (s:Rs) (prev:Option Int) (out:List Be),s.fit B.length→(Rs.C3 B pos n s prev out).1.fit B.length
 | 0,s,prev,out,h=>h
 | n+1,s,prev,out,h=>by
  have h2:((s.stream B prev).1.delta B pos 4).1.fit B.length:=Rs.Pq _ _ _ _ (Rs.EW (Rs.SF h))
  simp only[Rs.C3]
  split
  ·exact Rs.Nn n _ _ _ h2
  ·exact h2
theorem Rs.FC(L:Nat):(⟨0,0,0⟩:Rs).fit L:=⟨⟨Ar _,fun _=>rfl⟩,⟨zM,zM⟩⟩
theorem Rs.Ga(h:s.fit B.length)(m:Int):(s.frame B m).1.fit B.length:=by
 have h1:=Rs.Sn h (min m 2097152)
 have h2:=Rs.H5 h1 4
 unfold Rs.frame
 dsimp only
 split
 ·exact h2
 ·exact Rs.C4 h2 h1 zC
theorem Rs.Il{n:Int}(h:(s.take B n).1.k=0):B.drop s.p=(s.take B n).2++B.drop (s.take B n).1.p∧(s.take B n).1.p=s.p+n.toNat∧((s.take B n).2.length=n.toNat):=by
 have h0:=(Rs.EL h).2.2
 unfold Rs.take at h h0 ⊢
 cases hk:(s.skip B.length n).1
 ·exact absurd h (Rs.Io hk).1
 ·have h3:=Rs.Fv hk
  rw[hk] at h0
  rw[h3.2.2.2]
  refine⟨?_,rfl,h0⟩
  dsimp only
  rw[Ag rfl,←Fm,Bn]
theorem El{x:Int}(h1: -9223372036854775808≤x)(h2:x≤9223372036854775807):wrap64 x=x:=ZV
def Rs.A9(B:List UInt8)(s:Rs):Rs × Nat:=
 let t:=s.take B 4
 let v:=(if t.2=[84,72,79,76] then t.1 else t.1.fail 14 s.p).byte B
 let u:=if 1≤v.2.toNat∧v.2.toNat≤3 then v.1 else v.1.fail 8 ((v.1.p:Int)-1)
 (u,if u.k=0 then v.2.toNat else 0)
def Rs.hdr(B:List UInt8)(s:Rs):Rs × Nat × Nat × Nat:=
 let v:=s.A9 B
 let e:=v.1.ep B
 let b:=if v.2=1 then e.1.po B else (e.1,0)
 let f:=b.1.take B 4
 if f.1.k=0 then (if EC f.2=Cc (CR v.2 e.2 b.2) then (f.1,v.2,e.2,b.2) else (f.1.fail 6 b.1.p,0,0,0)) else (f.1,0,0,0)
theorem Rs.Lf(h:s.ok B.length):(s.A9 B).1.ok B.length:=by
 have h1:=Rs.Gf h 4
 unfold Rs.A9
 dsimp only
 have h2:(if (s.take B 4).2=[84,72,79,76] then (s.take B 4).1 else (s.take B 4).1.fail 14 s.p).ok B.length:=by
  split
  ·exact h1
  ·exact Rs.Ck h1 zC
 generalize (if (s.take B 4).2=[84,72,79,76] then (s.take B 4).1 else (s.take B 4).1.fail 14 s.p)=u at*
 split
 ·exact Rs.Hp h2
 ·exact Rs.Ck (Rs.Hp h2) zC
theorem Rs.V5(h:s.fit B.length):(s.A9 B).1.fit B.length:=by
 have h1:=Rs.H5 h 4
 unfold Rs.A9
 dsimp only
 have h2:(if (s.take B 4).2=[84,72,79,76] then (s.take B 4).1 else (s.take B 4).1.fail 14 s.p).fit B.length:=by
  split
  ·exact h1
  ·exact Rs.C4 h1 h zC
 generalize (if (s.take B 4).2=[84,72,79,76] then (s.take B 4).1 else (s.take B 4).1.fail 14 s.p)=u at*
 have h3:=Rs.NX h2
 have hle:=h3.ok.le
 by_cases hk:(u.byte B).1.k=0
 ·have hp:1≤(u.byte B).1.p:=by
   have:=Rs.NY h2.ok hk
   have:=A3 List.length this.1
   simp at this
   omega
  split
  ·exact h3
  ·exact⟨Rs.Ck h3.ok zC,Rs.GC h3.inn zC zC⟩
 ·rw[Rs.Bt hk]
  split<;>exact h3
theorem Rs.Mr(hs:s.ok B.length)(h:(s.A9 B).1.k=0):(1≤(s.A9 B).2∧(s.A9 B).2≤3)∧B.drop s.p=[84,72,79,76,UInt8.ofNat (s.A9 B).2]++B.drop (s.A9 B).1.p∧s.k=0:=by
 unfold Rs.A9 at h ⊢
 have h1:=Rs.Gf hs 4
 dsimp only at h ⊢
 by_cases ht:(s.take B 4).2=[84,72,79,76]
 ·rw[Ag ht] at h ⊢
  by_cases hv:1≤((s.take B 4).1.byte B).2.toNat∧((s.take B 4).1.byte B).2.toNat≤3
  ·rw[Ag hv] at h ⊢
   rw[Ag h]
   obtain⟨b1,b2⟩:=Rs.NY h1 h
   obtain⟨t1,t2,t3⟩:=Rs.Il b2
   refine⟨hv,?_,(Rs.EL b2).2.1⟩
   rw[t1,ht,b1]
   simp
  ·rw[Ai hv] at h
   exact absurd h (Rs.BI zC)
 ·rw[Ai ht] at h
  have hb:((s.take B 4).1.fail 14 s.p).k≠0:=Rs.BI zC
  rw[Rs.Hq hb] at h
  dsimp only at h
  split at h
  ·exact absurd h hb
  ·exact absurd h (Rs.BI zC)
theorem Rs.Ur(h:s.fit B.length):(s.hdr B).1.fit B.length:=by
 have h1:=Rs.V5 h
 have h2:=Rs.TQ (B:=B) h1
 unfold Rs.hdr
 dsimp only
 have h3:(if (s.A9 B).2=1 then ((s.A9 B).1.ep B).1.po B else (((s.A9 B).1.ep B).1,0)).1.fit B.length:=by
  split
  ·exact Rs.WC h2
  ·exact h2
 generalize (if (s.A9 B).2=1 then ((s.A9 B).1.ep B).1.po B else (((s.A9 B).1.ep B).1,0))=b at*
 have h4:=Rs.H5 h3 4
 split
 ·split
  ·exact h4
  ·exact Rs.C4 h4 h3 zC
 ·exact h4
theorem Rs.Pc(hs:s.ok B.length)(h:(s.hdr B).1.k=0):
  Jj ((s.hdr B).2.1:Int) ((s.hdr B).2.2.1:Int) ((s.hdr B).2.2.2:Int)=true∧B.drop s.p=Bf (s.hdr B).2.1 (s.hdr B).2.2.1 (s.hdr B).2.2.2++B.drop (s.hdr B).1.p:=by
 have ok1:=Rs.Lf hs
 have ok2:=Rs.TO (B:=B) ok1
 have cB:=Rs.Mr (B:=B) hs
 unfold Rs.hdr at h ⊢
 generalize s.A9 B=v at*
 obtain⟨u,v⟩:=v
 dsimp only at*
 have cE:=Rs.NN (B:=B) ok1
 generalize u.ep B=e at*
 obtain⟨e1,e⟩:=e
 dsimp only at*
 have cP:∀b:Rs × Nat,(if v=1 then e1.po B else (e1,0))=b→b.1.k=0→poR (b.2:Int)=true∧(v=1∨b.2=0)∧B.drop e1.p=(if v=1 then AD b.2 else [])++B.drop b.1.p∧e1.k=0:=fun b hb hk=>by
  by_cases hv:v=1
  ·rw[Ag hv] at hb
   rw[Ag hv]
   subst hb
   obtain⟨p1,p2,p3⟩:=Rs.Na (B:=B) ok2 hk
   exact⟨p1,.inl hv,p2,p3⟩
  ·rw[Ai hv] at hb
   rw[Ai hv]
   subst hb
   exact⟨by simp[poR],.inr rfl,rfl,hk⟩
 generalize hb:(if v=1 then e1.po B else (e1,0))=b at*
 have cP:=cP b rfl
 obtain⟨b1,b⟩:=b
 dsimp only at*
 by_cases hf:(b1.take B 4).1.k=0
 ·rw[Ag hf] at h ⊢
  by_cases hc:EC (b1.take B 4).2=Cc (CR v e b)
  ·rw[Ag hc] at h ⊢
   dsimp only at h ⊢
   obtain⟨f1,f2,f3⟩:=Rs.Il hf
   obtain⟨p1,p2,p3,p4⟩:=cP (Rs.EL hf).2.1
   obtain⟨e2,e3,e4⟩:=cE p4
   obtain⟨g1,g2,g3⟩:=cB e4
   have hfx:BE 4 (Cc (CR v e b))=(b1.take B 4).2:=by
    rw[←hc]
    have:(b1.take B 4).2.length=4:=f3
    rw[←this]
    exact Jo _
   refine⟨?_,?_⟩
   ·unfold Jj
    rw[e2,p1]
    have:(1≤(v:Int)∧(v:Int)≤3):=zC
    have h2:(v:Int)=1∨(b:Int)=0:=zC
    simp[this]
    omega
   ·unfold Bf
    rw[hfx]
    unfold CR
    rw[g2,e3,p3,f1]
    simp only[Au]
  ·rw[Ai hc] at h
   exact absurd h (Rs.BI zC)
 ·rw[Ai hf] at h
  exact absurd h hf
theorem Nz{v e b:Nat}(h:Jj (v:Int) (e:Int) (b:Int)=true):(1≤v∧v≤3)∧epR (e:Int)=true∧poR (b:Int)=true∧(v=1∨b=0):=by
 unfold Jj at h
 simp only[Ap,Cg,Ao] at h
 exact⟨zC,h.2.1,h.2.2.1,zC⟩
theorem Rs.V4{v:Nat}(hv:1≤v∧v≤3)(h:B.drop p=[84,72,79,76]++(UInt8.ofNat v::rest))(hp:p≤B.length):(⟨p,0,0⟩:Rs).A9 B=(⟨p+5,0,0⟩,v):=by
 have h1:=Rs.GO h hp
 have h2:=A2 h
 have hr:=AX h hp
 have h3:=Rs.Ld h2 (by simp at hr ⊢;omega)
 have e1:(([84,72,79,76]:List UInt8).length:Int)=4:=rfl
 have e2:([84,72,79,76]:List UInt8).length=4:=rfl
 have e3:(UInt8.ofNat v).toNat=v:=by rw[UInt8.toNat_ofNat'];omega
 rw[e1,e2] at h1
 rw[e2] at h3
 unfold Rs.A9
 rw[h1]
 dsimp only
 rw[Ag rfl,h3]
 dsimp only
 rw[e3,Ag hv]
 dsimp only
 rw[Ag rfl]
theorem Rs.Qj{v e b:Nat}(hR:Jj (v:Int) (e:Int) (b:Int)=true)(h:B.drop p=Bf v e b++rest)(hp:p≤B.length):(⟨p,0,0⟩:Rs).hdr B=(⟨p+(Bf v e b).length,0,0⟩,v,e,b):=by
 obtain⟨hv,he,hb,hvb⟩:=Nz hR
 have hep:1≤(e:Int)∧(e:Int)<4611686018427387904:=by simpa [epR] using he
 have hpo:(b:Int)<4611686018427387904:=by simpa [poR] using hb
 have hlen:(Bf v e b).length=5+(AD e).length+(if v=1 then AD b else []).length+4:=by
  unfold Bf CR
  simp only[Al,Da,Ay,AZ]
  omega
 rw[hlen]
 have h0:B.drop p=[84,72,79,76]++(UInt8.ofNat v::(AD e++((if v=1 then AD b else [])++(BE 4 (Cc (CR v e b))++rest)))):=by
  rw[h]
  unfold Bf CR
  simp
 have hr0:=AX h0 hp
 have h1:=Rs.V4 hv h0 hp
 have d0:B.drop (p+5)=AD e++((if v=1 then AD b else [])++(BE 4 (Cc (CR v e b))++rest)):=by
  have h0':B.drop p=([84,72,79,76]++[UInt8.ofNat v])++(AD e++((if v=1 then AD b else [])++(BE 4 (Cc (CR v e b))++rest))):=by
   rw[h0]
   simp
  exact A2 h0'
 have hpl:p+5≤B.length:=by
  have:=A3 List.length h0
  simp at this
  omega
 have h2:=Rs.Uw (e:=(e:Int)) he (by rw[Ex];exact d0)
 rw[Ex] at h2
 have hr1:=AX d0 hpl
 have d1:=A2 d0
 have h3:(if v=1 then (⟨p+5+(AD e).length,0,0⟩:Rs).po B else (⟨p+5+(AD e).length,0,0⟩,0))=(⟨p+5+(AD e).length+(if v=1 then AD b else []).length,0,0⟩,b):=by
  by_cases h1:v=1
  ·rw[Ag h1] at d1
   rw[Ag h1,Ag h1]
   unfold Rs.po
   rw[Rs.DB zC d1]
   dsimp only
   rw[Ag rfl,Ag hb]
  ·rw[Ai h1,Ai h1]
   have:b=0:=zC
   subst this
   rfl
 have hpl2:p+5+(AD e).length≤B.length:=zC
 have hr2:=AX d1 hpl2
 have d2:=A2 d1
 have h4:=Rs.GO d2 zC
 rw[Da] at h4
 have h5:EC (BE 4 (Cc (CR v e b)))=Cc (CR v e b):=by
  rw[Jp]
  have:=Gd (CR v e b)
  omega
 unfold Rs.hdr
 rw[h1]
 dsimp only
 rw[h2]
 dsimp only
 rw[h3]
 dsimp only
 have h4':(⟨p+5+(AD e).length+(if v=1 then AD b else []).length,0,0⟩:Rs).take B 4=(⟨p+5+(AD e).length+(if v=1 then AD b else []).length+4,0,0⟩,BE 4 (Cc (CR v e b))):=h4
 rw[h4']
 dsimp only
 rw[Ag rfl,Ag h5,show p+5+(AD e).length+(if v=1 then AD b else []).length+4=p+(5+(AD e).length+(if v=1 then AD b else []).length+4) by omega]
end Go.Proofs.YtfddhafbhceoaaaGreat
