/- Mini: Needed by lookupWhole_walk, part 11: texts put together by shake.py; no condition. -/
import Derived.Deep.Cut
import Derived.BigRegion
import Derived.Test.YtmioakocnebceaaGreatWK10
import Derived.Test.YtmioakocnebceaaGreatWK5
import Derived.Test.YtmioakocnebceaaGreatWK8
import Derived.Deep.CutRange
import Derived.Scope
import Derived.Deep.RegionHeld3
import Derived.Test.YtmioakocnebceaaGreatProg
import Derived.WalkKit
import Derived.Deep.WholeRow
import Derived.BigQuiet
import Derived.Test.YtmioakocnebceaaGreatWK6
import Derived.Test.YtmioakocnebceaaGreatWK3
import Derived.Test.YtmioakocnebceaaGreatWK9
import Derived.Test.YtmioakocnebceaaGreatWK1
import Derived.Test.YtmioakocnebceaaGreatWK4
import Derived.Test.YtmioakocnebceaaGreatWK7
import Derived.Test.YtmioakocnebceaaGreatWK2
import Derived.Deep.CutBlock
set_option linter.unusedVariables false
set_option linter.unusedSimpArgs false
set_option maxRecDepth 100000
set_option maxHeartbeats 6400000
namespace Go.Proofs.YtmioakocnebceaaGreat
open Go.RowKit Go.Bs Go.Maps
theorem rd_part(w:World){g:Nat}{B:List UInt8}{a:Option Addr}{s:Rs}(h:RdAt w g B a s)(n:Nat)(hn:s.p+n≤B.length)(hB:B.length≤1000000000):
  Calls Tryz.prog 378 #[.pointer (some ⟨g,0,none⟩),.int .i64 (n:Int)] w fun r w'=>∃g',r=.returned (.pointer (some ⟨g',0,none⟩))∧RdAt w' g' (B.take (s.p+n)) a ⟨s.p,0,0⟩∧w.heap.size≤g'∧Below w.heap.size w w':=by
 obtain⟨E,hE⟩:∃E:Nat,E=s.p+n:=⟨_,rfl⟩
 rw[←hE]
 have hEl:(B.take E).length=E:=by simp;omega
 have hD:rBytes.r (fun q=>q<w.heap.size∧q≠g) w [.slice a (B.take E).length (B.take E).length] (B.take E):=by
  have h1:=sl_take h.dat (k:=E) (by omega)
  obtain⟨a',c',e,h1,h2,h3⟩:=h1
  simp only[List.cons.injEq,and_true,Value.slice.injEq] at e
  obtain⟨rfl,e2,rfl⟩:=e
  exact rSl_mk rfl (Nat.le_refl _) (by simp[maxLen];omega) h3
 have HL:=hid (fun s:Later w=>rd_left s.at_ (h.later s.below))
 have C0:=fun s:Later w=>s.cell (h.blk.cell 0)
 have C1:=fun s:Later w=>s.cell (h.blk.cell 1)
 simp at C0 C1
 have c0:=h.blk.cell 0
 have c1:=h.blk.cell 1
 simp at c0 c1
 have hlt:=h.blk.lt
 have hle:=h.ok.le
 have HD:=hid hD
 have n0:(0:Int)≤(n:Int):=by omega
 have hmin:min (n:Int) ((B.length:Int)-(s.p:Int))=(n:Int):=by omega
 have hmax:max (n:Int) 0=(n:Int):=by omega
 have hadd:(s.p:Int)+(n:Int)=(E:Int):=by omega
 have e1:(0:Int)≤(E:Int):=by omega
 have e2:(E:Int)≤(B.length:Int):=by omega
 have HEL:=hid hEl
 clear h hD hE hn hEl
 go_enter Tryz.func378,Tryz.ntmps378
 go_upto_region 3 with (fail)
 refine wp_region_later (by kernel_rfl) (by kernel_rfl) ?_
 repeat (go_big_quiet_step ((go_at_call 302;with_reducible exact later_of (HL.out _))))
 refine wpQuiet_nil ?_
 rintro W5 ⟨⟨W5',hb5⟩,rfl⟩
 have D0:=(Later.mk W5 hb5).cell c0
 have D1:=(Later.mk W5 hb5).cell c1
 have hz:=hb5.size
 have HD5:=hid (rBytes.keep HD.out fun q hq=>hb5.block q hq.1)
 clear c0 c1 C0 C1 HL HD
 go_wp2_with fail
 go_big_region
 go_wp2_with fail
 go_ret
 refine⟨_,rfl,⟨?_,?_,⟨by rw[HEL.out];dsimp only;omega,fun _=>rfl⟩⟩,hz,by (repeat (first | with_reducible exact Below.refl _ _ | with_reducible assumption | (with_reducible refine below_alloc ?_ _) | (with_reducible refine Below.setCell ?_ (by first | omega | (simp;done) | (simp;omega)) _) | (with_reducible refine Below.drew ?_) | (with_reducible refine below_drewN ?_ _) | (refine below_then (by with_reducible assumption) ?_)))⟩
 ·rw[HEL.out]
  exact Blk.new _ _ _
 ·exact rBytes.mono (rBytes.keep HD5.out fun q hq=>Below.heap_alloc _ _ q (by omega)) fun q hq=>⟨by simp;omega,by omega⟩
theorem Rs.take4{B:List UInt8}{p:Nat}(h:p+4≤B.length):(⟨p,0,0⟩:Rs).take B 4=(⟨p+4,0,0⟩,(B.drop p).take 4):=by
 unfold Rs.take Rs.skip
 rw[if_pos rfl,if_neg (by decide),if_neg (by dsimp only;omega)]
 rfl
theorem trail_size(w:World)(B:List UInt8)(a:Option Addr)(n c:Nat)(hl:rBytes.r (·<w.heap.size) w [.slice a n c] B)(hB:B.length≤1000000000):
  Calls Tryz.prog 326 #[.slice a n c] w fun r w'=>r=.returned (.tuple #[.int .i64 ((trailN B).1:Int),.agg #[.int .i64 (trailN B).2.1,.int .i64 (trailN B).2.2]])∧Below w.heap.size w w':=by
 obtain⟨rfl,hmx,hcc,hcm⟩:=sl_len hl
 obtain⟨RES,hRES⟩:∃RES,RES=trailN B:=⟨_,rfl⟩
 rw[←hRES]
 unfold trailN at hRES
 by_cases h12:B.length<12
 ·rw[if_pos h12] at hRES
  subst hRES
  have d1:decide ((B.length:Int)<12)=true:=decide_eq_true (by omega)
  have HTS:=hid (fun (W:World)=>footer_size W)
  have HFA:=hid (fun (W:World)=>fault_at W 1 (B.length:Int) (by decide))
  clear hl h12
  go_enter Tryz.func326,Tryz.ntmps326
  go_wp2_with fail
  refine (HTS.out _).mono ?_
  rintro r w1 ⟨rfl,rfl⟩
  go_wp2_with fail
  refine (HFA.out _).mono ?_
  rintro r w2 ⟨rfl,hb2⟩
  have F2:=Blk.later (show Blk (w.alloc (.cells #[.int .i64 0,.int .i64 0] 31)) w.heap.size 31 #[.int .i64 0,.int .i64 0] by (repeat (first | assumption | exact Blk.newAt _ _ _ (by first | (simp;done) | (simp;omega)) | refine Blk.alloc ?_ _ | refine Blk.drew ?_ | refine Blk.drewN ?_ _ | refine Blk.far ?_ (by first | (simp;done) | (simp;omega)) _))) hb2
  obtain⟨q0,q1,q2,q3,lq⟩:=f_blk F2
  go_wp2_with fail
  refine bodyPost_ret (v:=.tuple #[.int .i64 0,.agg #[.int .i64 1,.int .i64 (B.length:Int)]]) (by simp[results,Tryz.results326,go_sem,q0,q1,lq]) rfl ⟨rfl,by (repeat (first | with_reducible exact Below.refl _ _ | with_reducible assumption | (with_reducible refine below_alloc ?_ _) | (with_reducible refine Below.setCell ?_ (by first | omega | (simp;done) | (simp;omega)) _) | (with_reducible refine Below.drew ?_) | (with_reducible refine below_drewN ?_ _) | (refine below_then (by with_reducible assumption) ?_)))⟩
 ·obtain⟨p,hp⟩:∃p:Nat,B.length=p+12:=⟨B.length-12,by omega⟩
  rw[if_neg h12,show B.length-4=p+4+4 by omega,show B.length-8=p+4 by omega,show B.length-12=p by omega] at hRES
  have d1:decide ((B.length:Int)<12)=false:=decide_eq_false (by omega)
  have hsk:(⟨0,0,0⟩:Rs).skip B.length ((B.length:Int)-12)=(true,⟨p,0,0⟩):=by
   unfold Rs.skip
   rw[if_pos rfl,if_neg (by omega),if_neg (by dsimp only;omega)]
   congr 2
   dsimp only
   omega
  have t0:(⟨p,0,0⟩:Rs).take (B.take (p+4)) 4=(⟨p+4,0,0⟩,(B.drop p).take 4):=by
   rw[Rs.take4 (by simp;omega),List.drop_take,List.take_take,show min 4 (p+4-p)=4 by omega]
  have t1:=Rs.take4 (B:=B) (p:=p) (by omega)
  have t2:=Rs.take4 (B:=B) (p:=p+4) (by omega)
  have t3:=Rs.take4 (B:=B) (p:=p+4+4) (by omega)
  rw[List.take_of_length_le (by simp;omega)] at t3
  have HN:=hid (fun (W:World) (hW:Below w.heap.size w W)=>rd_new W B a _ c (lift hl hW))
  have HSK:=hid (fun (W:World) (g:Nat) (hW:RdAt W g B a ⟨0,0,0⟩)=>(by have:=rd_skip W hW ((B.length:Int)-12) (by omega);rw[hsk] at this;exact this:Calls Tryz.prog 355 #[.pointer (some ⟨g,0,none⟩),.int .i64 ((B.length:Int)-12)] W fun r w'=>r=.returned (.bool true)∧RdStep W g B a ⟨p,0,0⟩ w'))
  have HPT:=hid (fun (W:World) (g:Nat) (hW:RdAt W g B a ⟨p,0,0⟩)=>rd_part W hW 4 (by dsimp only;omega) hB)
  have HT0:=hid (fun (W:World) (g:Nat) (hW:RdAt W g (B.take (p+4)) a ⟨p,0,0⟩)=>(by have:=rd_take W hW 4 (by decide) (by simp;omega);rw[t0] at this;exact this:Calls Tryz.prog 278 #[.pointer (some ⟨g,0,none⟩),.int .i64 4] W fun r w'=>∃v,r=.returned v∧rBytes.r (fun q=>W.heap.size≤q∧q<w'.heap.size) w' [v] ((B.drop p).take 4)∧RdStep W g (B.take (p+4)) a ⟨p+4,0,0⟩ w'))
  have HR1:=hid (fun (W:World) (g:Nat) (hW:RdAt W g B a ⟨p,0,0⟩)=>(by have:=blob_readfixed W hW hB 4 (by decide);rw[show ((4:Nat):Int)=4 from rfl,t1] at this;exact this:Calls Tryz.prog 186 #[.pointer (some ⟨g,0,none⟩),.int .i64 4] W fun r w'=>r=.returned (.int .u64 ((fixN ((B.drop p).take 4):Nat):Int))∧RdStep W g B a ⟨p+4,0,0⟩ w'))
  have HR2:=hid (fun (W:World) (g:Nat) (hW:RdAt W g B a ⟨p+4,0,0⟩)=>(by have:=blob_readfixed W hW hB 4 (by decide);rw[show ((4:Nat):Int)=4 from rfl,t2] at this;exact this:Calls Tryz.prog 186 #[.pointer (some ⟨g,0,none⟩),.int .i64 4] W fun r w'=>r=.returned (.int .u64 ((fixN ((B.drop (p+4)).take 4):Nat):Int))∧RdStep W g B a ⟨p+4+4,0,0⟩ w'))
  have HT3:=hid (fun (W:World) (g:Nat) (hW:RdAt W g B a ⟨p+4+4,0,0⟩)=>(by have:=rd_take W hW 4 (by decide) (by omega);rw[t3] at this;exact this:Calls Tryz.prog 278 #[.pointer (some ⟨g,0,none⟩),.int .i64 4] W fun r w'=>∃v,r=.returned v∧rBytes.r (fun q=>W.heap.size≤q∧q<w'.heap.size) w' [v] (B.drop (p+4+4))∧RdStep W g B a ⟨p+4+4+4,0,0⟩ w'))
  have HCR:=hid (fun (W:World) (ad:Option Addr) (nd cd:Nat) h=>crc_sum ((B.drop p).take 4) ad nd cd W h)
  have HTS:=hid (fun (W:World)=>footer_size W)
  have hx:fixN ((B.drop p).take 4)<4294967296:=by
   refine Nat.lt_of_lt_of_le (fixN_lt _) (Nat.le_trans (Nat.pow_le_pow_right (by decide) (show _≤4 by simp;omega)) (by decide))
  have hy:fixN ((B.drop (p+4)).take 4)<4294967296:=by
   refine Nat.lt_of_lt_of_le (fixN_lt _) (Nat.le_trans (Nat.pow_le_pow_right (by decide) (show _≤4 by simp;omega)) (by decide))
  have hq:=crcSum_lt ((B.drop p).take 4)
  generalize fixN ((B.drop p).take 4)=x at*
  generalize fixN ((B.drop (p+4)).take 4)=y at*
  generalize crcSum ((B.drop p).take 4)=q at*
  generalize B.drop (p+4+4)=D at*
  generalize (B.drop p).take 4=D0 at*
  have hF0:Blk (w.alloc (.cells #[.int .i64 0,.int .i64 0] 31)) w.heap.size 31 #[.int .i64 0,.int .i64 0]:=by (repeat (first | assumption | exact Blk.newAt _ _ _ (by first | (simp;done) | (simp;omega)) | refine Blk.alloc ?_ _ | refine Blk.drew ?_ | refine Blk.drewN ?_ _ | refine Blk.far ?_ (by first | (simp;done) | (simp;omega)) _))
  have hb0:Below w.heap.size w (w.alloc (.cells #[.int .i64 0,.int .i64 0] 31)):=by (repeat (first | with_reducible exact Below.refl _ _ | with_reducible assumption | (with_reducible refine below_alloc ?_ _) | (with_reducible refine Below.setCell ?_ (by first | omega | (simp;done) | (simp;omega)) _) | (with_reducible refine Below.drew ?_) | (with_reducible refine below_drewN ?_ _) | (refine below_then (by with_reducible assumption) ?_)))
  have hz0:w.heap.size<(w.alloc (.cells #[.int .i64 0,.int .i64 0] 31)).heap.size:=by simp
  have HF0:=hid hF0
  have HRES:=hid hRES
  have HP:=hid hp
  clear hl h12 hsk t0 t1 t2 t3 hF0 hRES hp
  go_enter Tryz.func326,Tryz.ntmps326
  go_upto_region 1 with (fail)
  generalize (w.alloc (.cells #[.int .i64 0,.int .i64 0] 31))=w0 at*
  go_wp2_with fail
  refine (HTS.out _).mono ?_
  rintro r w1 ⟨rfl,rfl⟩
  go_wp2_with fail
  refine (HN.out _ hb0).mono ?_
  rintro r w1 ⟨rfl,hrd,hb1⟩
  have HRD:=hid hrd
  have HF1:=hid (HF0.out.later hb1)
  have hbw1:=below_then hb1 hb0
  have hg:w.heap.size<w0.heap.size:=hz0
  generalize w0.heap.size=g at*
  clear hrd hb1 HF0 HN hb0 hz0
  go_wp2_with fail
  refine (HTS.out _).mono ?_
  rintro r w1 ⟨rfl,rfl⟩
  go_wp2_with fail
  refine (HSK.out _ _ HRD.out).mono ?_
  rintro r w2 ⟨rfl,hst⟩
  have HF2:=hid (HF1.out.tch hst.2 (by omega))
  have hbw2:=hbw1.trans (hst.2.to_below hbw1.size fun b hb e=>by omega)
  have HRD2:=hid hst.1
  clear hst HRD HSK HF1 hbw1
  go_wp2_with fail
  refine (HPT.out _ _ HRD2.out).mono ?_
  rintro r w3 ⟨g2,rfl,hrd2,hg2,hb3⟩
  have HRP:=hid hrd2
  clear hrd2 HPT
  go_wp2_with fail
  refine (HT0.out _ _ HRP.out).mono ?_
  rintro r w4 ⟨v,rfl,hr4,hst⟩
  obtain⟨a4,c4,hv4,hr4',_⟩:=sl_form hr4
  simp only[List.cons.injEq,and_true] at hv4
  subst hv4
  have hb4:Below w2.heap.size w2 w4:=hb3.trans (hst.2.to_below hb3.size fun b hb e=>by omega)
  have HF4:=hid (HF2.out.later hb4)
  have hbw4:=below_then hb4 hbw2
  have HRD4:=hid (HRD2.out.later hb4)
  have hr5:=rBytes.mono hr4' (S':=(·<w4.heap.size)) fun q hq=>hq.2
  have HC4:=hid (HCR.out w4 a4 _ c4 hr5)
  clear hr4 hr4' hr5 hst hb3 hb4 HRD2 HF2 hbw2 HRP HT0 HCR
  go_wp2_with fail
  refine HC4.out.mono ?_
  rintro r w5 ⟨rfl,hb5⟩
  have HF5:=hid (HF4.out.later hb5)
  have hbw5:=below_then hb5 hbw4
  have HRD5:=hid (HRD4.out.later hb5)
  clear HC4 hb5 HF4 HRD4 hbw4
  go_wp2_with fail
  refine (HR1.out _ _ HRD5.out).mono ?_
  rintro r w6 ⟨rfl,hst⟩
  have HF6:=hid (HF5.out.tch hst.2 (by omega))
  have hbw6:=hbw5.trans (hst.2.to_below hbw5.size fun b hb e=>by omega)
  have HRD6:=hid hst.1
  clear hst HRD5 HF5 hbw5 HR1
  go_wp2_with fail
  refine (HR2.out _ _ HRD6.out).mono ?_
  rintro r w7 ⟨rfl,hst⟩
  have HF7:=hid (HF6.out.tch hst.2 (by omega))
  have hbw7:=hbw6.trans (hst.2.to_below hbw6.size fun b hb e=>by omega)
  have HRD7:=hid hst.1
  clear hst HRD6 HF6 hbw6 HR2
  go_wp2_with fail
  refine (HT3.out _ _ HRD7.out).mono ?_
  rintro r w8 ⟨v,rfl,hr8,hst⟩
  obtain⟨a8,c8,hv8,hr8',_⟩:=sl_form hr8
  simp only[List.cons.injEq,and_true] at hv8
  subst hv8
  have HF8:=hid (HF7.out.tch hst.2 (by omega))
  have hbw8:=hbw7.trans (hst.2.to_below hbw7.size fun b hb e=>by omega)
  have kc:=fun (W:World) (hW:rBytes.r (fun q=>w7.heap.size≤q∧q<w8.heap.size) W [.slice a8 D.length c8] D)=>bytes_str (P:=Tryz.prog) 22 9 5 Tryz.underlying22 Tryz.underlying5 Tryz.underlying9 hW
  have kd:=kc w8 hr8'
  clear hr8 hr8' hst HRD7 HF7 hbw7 HT3 kc
  have hb12:(0:Int)≤(B.length:Int)-12:=by have:=HP.out;omega
  have hmod:((B.length:Int)-12)%18446744073709551616=(B.length:Int)-12:=by omega
  go_upto_if 35 with (fail)
  by_cases hD:D=[76,79,72,84]
  ·subst hD
   have hres:=HRES.out
   rw[if_pos rfl] at hres
   by_cases hyq:y=q
   ·rw[if_pos hyq] at hres
    have dyq:((y:Int) !=(q:Int))=false:=by simp[hyq]
    by_cases hxp:x≤p
    ·rw[if_pos hxp] at hres
     have dxp:decide ((B.length:Int)-12<(x:Int))=false:=decide_eq_false (by have:=HP.out;omega)
     subst hres
     clear hyq hxp HRES
     obtain⟨q0,q1,q2,q3,lq⟩:=f_blk HF8.out
     go_wp2_with fail
     refine bodyPost_ret (v:=.tuple #[.int .i64 (x:Int),.agg #[.int .i64 0,.int .i64 0]]) (by simp[results,Tryz.results326,go_sem,q0,q1,lq]) rfl ⟨rfl,by (repeat (first | with_reducible exact Below.refl _ _ | with_reducible assumption | (with_reducible refine below_alloc ?_ _) | (with_reducible refine Below.setCell ?_ (by first | omega | (simp;done) | (simp;omega)) _) | (with_reducible refine Below.drew ?_) | (with_reducible refine below_drewN ?_ _) | (refine below_then (by with_reducible assumption) ?_)))⟩
    ·rw[if_neg hxp] at hres
     have dxp:decide ((B.length:Int)-12<(x:Int))=true:=decide_eq_true (by have:=HP.out;omega)
     have HFA:=hid (fun (W:World)=>fault_at W 3 ((B.length:Int)-12) (by decide))
     subst hres
     clear hyq hxp HRES
     go_wp2_with fail
     refine (HFA.out _).mono ?_
     rintro r w9 ⟨rfl,hb9⟩
     have F9:=HF8.out.later hb9
     obtain⟨q0,q1,q2,q3,lq⟩:=f_blk F9
     clear F9 HFA
     go_wp2_with fail
     refine bodyPost_ret (v:=.tuple #[.int .i64 0,.agg #[.int .i64 3,.int .i64 ((B.length:Int)-12)]]) (by simp[results,Tryz.results326,go_sem,q0,q1,lq]) rfl ⟨rfl,by (repeat (first | with_reducible exact Below.refl _ _ | with_reducible assumption | (with_reducible refine below_alloc ?_ _) | (with_reducible refine Below.setCell ?_ (by first | omega | (simp;done) | (simp;omega)) _) | (with_reducible refine Below.drew ?_) | (with_reducible refine below_drewN ?_ _) | (refine below_then (by with_reducible assumption) ?_)))⟩
   ·rw[if_neg hyq] at hres
    have dyq:((y:Int) !=(q:Int))=true:=by simp;omega
    have HFA:=hid (fun (W:World)=>fault_at W 6 ((B.length:Int)-4-4) (by decide))
    rw[show (B.length:Int)-8=(B.length:Int)-4-4 by omega] at hres
    subst hres
    clear hyq HRES
    go_wp2_with fail
    refine (HFA.out _).mono ?_
    rintro r w9 ⟨rfl,hb9⟩
    have F9:=HF8.out.later hb9
    obtain⟨q0,q1,q2,q3,lq⟩:=f_blk F9
    clear F9 HFA
    go_wp2_with fail
    refine bodyPost_ret (v:=.tuple #[.int .i64 0,.agg #[.int .i64 6,.int .i64 ((B.length:Int)-4-4)]]) (by simp[results,Tryz.results326,go_sem,q0,q1,lq]) rfl ⟨rfl,by (repeat (first | with_reducible exact Below.refl _ _ | with_reducible assumption | (with_reducible refine below_alloc ?_ _) | (with_reducible refine Below.setCell ?_ (by first | omega | (simp;done) | (simp;omega)) _) | (with_reducible refine Below.drew ?_) | (with_reducible refine below_drewN ?_ _) | (refine below_then (by with_reducible assumption) ?_)))⟩
  ·have hres:=HRES.out
   rw[if_neg hD] at hres
   have hne:(!(D==[76,79,72,84]))=true:=by
    rw[beq_eq_false_iff_ne.2 hD]
    rfl
   have HFA:=hid (fun (W:World)=>fault_at W 14 ((B.length:Int)-4) (by decide))
   subst hres
   clear hD HRES
   rw[hne]
   go_wp2_with fail
   refine (HFA.out _).mono ?_
   rintro r w9 ⟨rfl,hb9⟩
   have F9:=HF8.out.later hb9
   obtain⟨q0,q1,q2,q3,lq⟩:=f_blk F9
   clear F9 HFA
   go_wp2_with fail
   refine bodyPost_ret (v:=.tuple #[.int .i64 0,.agg #[.int .i64 14,.int .i64 ((B.length:Int)-4)]]) (by simp[results,Tryz.results326,go_sem,q0,q1,lq]) rfl ⟨rfl,by (repeat (first | with_reducible exact Below.refl _ _ | with_reducible assumption | (with_reducible refine below_alloc ?_ _) | (with_reducible refine Below.setCell ?_ (by first | omega | (simp;done) | (simp;omega)) _) | (with_reducible refine Below.drew ?_) | (with_reducible refine below_drewN ?_ _) | (refine below_then (by with_reducible assumption) ?_)))⟩
end Go.Proofs.YtmioakocnebceaaGreat
namespace Go.Bs
open Go.RowKit
structure EvX where
 kind:Int
 at_:Int
 code:Int
 msg:Msg
 batch:Batch
section
variable {S S':Nat→Prop} {w w':World} {cs:List Value}
end
end Go.Bs
namespace Go.Proofs.YtmioakocnebceaaGreat
open Go.RowKit Go.Bs Go.Maps
theorem ownRow_keep{base:Nat}{e:TypeId}{size:Nat}{v:Value}{n:Nat}{xs:List Value}{w w':World}(h:w.ownsRow base e size v n xs)(hk:∀g,v.ownBlock=some g→w'.heap[g]? =w.heap[g]?):w'.ownsRow base e size v n xs:=by
 refine⟨h.1,?_⟩
 rcases h.2 with h0 | ⟨g,cap,cur,h1,h2,h3,h4⟩
 ·exact .inl h0
 ·exact .inr ⟨g,cap,cur,h1,h2,by rw[hk g (by rw[h1];rfl)];exact h3,h4⟩
theorem OwnB.nil{w:World}{b:Nat}:OwnB w b (.slice none 0 0) []:=⟨rfl,.inl ⟨rfl,rfl⟩⟩
theorem OwnB.at_{w:World}{b:Nat}{v:Value}{L:List UInt8}(h:OwnB w b v L):∀q,v.ownBlock=some q→b≤q∧q<w.heap.size:=own_lt2 h
section
variable {w w':World} {g:Nat} {v:Value} {s:PSt}
end
theorem fault_at0(w:World)(f:Int):Calls Tryz.prog 99 #[.int .i64 0,.int .i64 f] w fun r w'=>r=.returned (.agg #[.int .i64 0,.int .i64 0])∧Below w.heap.size w w':=by
 go_enter Tryz.func99,Tryz.ntmps99
 go_wp2
 refine bodyPost_ret (v:=.agg #[.int .i64 0,.int .i64 0]) (by simp[results,Tryz.results99,go_sem]) rfl ⟨rfl,by (repeat (first | exact Below.refl _ _ | assumption | (refine below_alloc ?_ _) | (refine Below.setCell ?_ (by first | omega | (simp;done) | (simp;omega)) _) | (refine Below.drew ?_) | (refine below_drewN ?_ _) | (refine below_then (by assumption) ?_)))⟩
theorem fault_shift0(w:World)(f b:Int):Calls Tryz.prog 174 #[.agg #[.int .i64 0,.int .i64 f],.int .i64 b] w fun r w'=>r=.returned (.agg #[.int .i64 0,.int .i64 0])∧Below w.heap.size w w':=by
 obtain⟨v,hv⟩:∃v,wrap64 (f+b)=v:=⟨_,rfl⟩
 have HV:=hid hv
 clear hv
 go_enter Tryz.func174,Tryz.ntmps174
 go_wp2_with fail
 rw[HV.out]
 refine (fault_at0 _ v).mono ?_
 rintro r w1 ⟨rfl,hb1⟩
 have B1:Blk w1 (w.heap.size+1) 31 #[.int .i64 0,.int .i64 0]:=Blk.later (by (repeat (first | assumption | exact Blk.newAt _ _ _ (by first | (simp;done) | (simp;omega)) | refine Blk.alloc ?_ _ | refine Blk.drew ?_ | refine Blk.drewN ?_ _ | refine Blk.far ?_ (by first | (simp;done) | (simp;omega)) _))) hb1
 obtain⟨y0,y1,g0,g1,l1⟩:=f_blk B1
 have hbw:Below w.heap.size w w1:=by (repeat (first | with_reducible exact Below.refl _ _ | with_reducible assumption | (with_reducible refine below_alloc ?_ _) | (with_reducible refine Below.setCell ?_ (by first | omega | (simp;done) | (simp;omega)) _) | (with_reducible refine Below.drew ?_) | (with_reducible refine below_drewN ?_ _) | (refine below_then (by with_reducible assumption) ?_)))
 clear B1 hb1
 go_wp2
 refine bodyPost_ret (v:=.agg #[.int .i64 0,.int .i64 0]) (by simp[results,Tryz.results174,go_sem,y0,y1,g0,g1,l1]) rfl ⟨rfl,by (repeat (first | with_reducible exact Below.refl _ _ | with_reducible assumption | (with_reducible refine below_alloc ?_ _) | (with_reducible refine Below.setCell ?_ (by first | omega | (simp;done) | (simp;omega)) _) | (with_reducible refine Below.drew ?_) | (with_reducible refine below_drewN ?_ _) | (refine below_then (by with_reducible assumption) ?_)))⟩
theorem marks_keep{w w':World}{lo base:Nat}{e:TypeId}{v:Value}{M:List MarkD}{cells:List (List Value)}(h:OwnElsAt lo rMark base e 3 w v M cells)(hk:∀g,v.ownBlock=some g→w'.heap[g]? =w.heap[g]?):OwnElsAt lo rMark base e 3 w' v M cells:=
 ⟨ownRow_keep h.1 hk,h.2.1,h.2.2.1,fun i cs x h1 h2=>by
  obtain⟨rfl,hn⟩:=mark_cells (h.2.2.2 i cs x h1 h2)
  exact mark_mk hn⟩
structure SegRd(w:World)(gr gc:Nat)(B:List UInt8)(a:Option Addr)(s:Rs)(ep:Int)(vL:Value)(l:List Batch)(vM:Value)(M:List MarkD)(q:Bool)(fi:Int)(T:Nat)(W:World):Prop where
 inv:RdInv w W gc B a s
 rb:Blk W gr 224 #[.pointer (some ⟨gc,0,none⟩),.int .u64 ep,vL,vM,.bool q,.int .i64 fi]
 gl:w.heap.size≤gr
 ownL:∃cells,OwnElsF (fun b=>gr<b∧b<T∧vM.ownBlock≠some b) rBatch (gr+1) 60 3 W vL l cells
 ownM:∃cells,OwnElsAt (gr+1) rMark (gr+1) 141 3 W vM M cells
 ne:∀b,vL.ownBlock=some b→vM.ownBlock≠some b
 lL:∀b,vL.ownBlock=some b→b<T
 lM:∀b,vM.ownBlock=some b→b<T
 t1:gr<T
 t2:T≤W.heap.size
section
variable {w W W':World} {gr gc:Nat} {B:List UInt8} {a:Option Addr} {s s':Rs} {ep:Int} {vL vL' vM vM':Value} {l:List Batch} {M:List MarkD} {q q':Bool} {fi fi':Int} {T T':Nat}
theorem SegRd.lo(h:SegRd w gr gc B a s ep vL l vM M q fi T W):(∀b,vL.ownBlock=some b→gr<b∧b<T)∧(∀b,vM.ownBlock=some b→gr<b∧b<T):=by
 obtain⟨cells,hc⟩:=h.ownL
 obtain⟨cells2,hc2⟩:=h.ownM
 exact⟨fun b e=>⟨(own_lt2 hc.1 b e).1,h.lL b e⟩,fun b e=>⟨(own_lt2 hc2.1 b e).1,h.lM b e⟩⟩
theorem SegRd.turn(h:SegRd w gr gc B a s ep vL l vM M q fi T W)(hi:RdInv w W' gc B a s')(hz:W.heap.size≤W'.heap.size)(hk:∀b,gr≤b→b<T→W'.heap[b]? =W.heap[b]?):SegRd w gr gc B a s' ep vL l vM M q fi T W':=by
 obtain⟨cells,hc⟩:=h.ownL
 obtain⟨cells2,hc2⟩:=h.ownM
 exact⟨hi,(hk gr (Nat.le_refl _) h.t1).trans h.rb,h.gl,⟨cells,hc.keep (fun b e=>hk b (by have:=e.1;omega) e.2.1) (fun b e=>hk b (by have:=(h.lo.1 b e).1;omega) (h.lo.1 b e).2)⟩,⟨cells2,marks_keep hc2 fun b e=>hk b (by have:=(h.lo.2 b e).1;omega) (h.lo.2 b e).2⟩,h.ne,h.lL,h.lM,h.t1,Nat.le_trans h.t2 hz⟩
theorem SegRd.step(h:SegRd w gr gc B a s ep vL l vM M q fi T W)(k:RdStep W gc B a s' W'):SegRd w gr gc B a s' ep vL l vM M q fi T W':=by
 have h1:=h.gl
 have h2:=h.inv.lt
 have h3:=h.t2
 exact h.turn (h.inv.step k) k.2.size fun b e1 e2=>k.2.block b (by omega) (by omega)
theorem SegRd.side{F:Nat→Prop}(h:SegRd w gr gc B a s ep vL l vM M q fi T W)(ht:Tch F W W')(hF:∀b,b<T→¬F b):SegRd w gr gc B a s ep vL l vM M q fi T W':=by
 have h1:=h.gl
 have h2:=h.inv.tch.size
 have h3:=h.t2
 have h4:=h.t1
 refine h.turn (h.inv.row (ht.to_below (by omega) fun b hb e=> ?_)) ht.size fun b e1 e2=>ht.block b (by omega) (hF b e2)
 rcases Nat.lt_or_ge b T with h5 | h5
 ·exact absurd e (hF b h5)
 ·omega
theorem SegRd.later(h:SegRd w gr gc B a s ep vL l vM M q fi T W)(hb:Below W.heap.size W W'):SegRd w gr gc B a s ep vL l vM M q fi T W':=
 h.side (F:=fun _=>False) (Tch.of_later hb) fun _ _ e=>e
theorem SegRd.mark(h:SegRd w gr gc B a s ep vL l vM M q fi T W){cells:List (List Value)}(hc:OwnElsAt (gr+1) rMark (gr+1) 141 3 W vM M cells){m:MarkD}(hm:MarkN m)
  (hown:W'.ownsRow (gr+1) 141 3 vM' (M.length+1) (cells.flatten++[.int .u64 m.pos,.int .i64 m.count,.int .i64 m.at_])) (hgr:W.grownBy W' vM.ownBlock) (hat:vM'.ownBlock=vM.ownBlock∨vM'.ownBlock=some W.heap.size):
  SegRd w gr gc B a s ep vL l vM' (M++[m]) q fi W'.heap.size (W'.setCell ⟨gr,3,none⟩ vM'):=by
 have h1:=h.gl
 have h2:=h.rb.lt
 have ht1:=h.t1
 have ht2:=h.t2
 have hgs:=hgr.size
 obtain⟨cl,hcl⟩:=h.ownL
 have hlo:=h.lo
 have hz:(W'.setCell ⟨gr,3,none⟩ vM').heap.size=W'.heap.size:=by simp[World.setCell]
 obtain⟨c2,hO⟩:∃c2,OwnElsAt (gr+1) rMark (gr+1) 141 3 W' vM' (M++[m]) c2:=OwnEls.push hc (x:=m) rfl (mark_mk hm) hown hgr hat hgr.size
 have hbg:Below (gr+1) W W':=Below.grown (Below.refl _ _) hgr (by omega) (fun g e=>(hlo.2 g e).1)
 have hk:∀b,gr<b→(W'.setCell ⟨gr,3,none⟩ vM').heap[b]? =W'.heap[b]? :=fun b e=>Below.heap_setCell _ _ _ _ (by dsimp only;omega)
 have hv':∀b,vM'.ownBlock=some b→vM.ownBlock=some b∨b=W.heap.size:=fun b e=>by
  rcases hat with h | h
  ·exact .inl (h ▸ e)
  ·rw[h] at e;exact .inr (Option.some.inj e).symm
 refine⟨(h.inv.row (hbg.mono (by omega))).row (Below.setCell (Below.refl _ _) (by dsimp only;omega) _),(h.rb.below hbg (by omega)).set 3 _,h1,⟨cl,(hcl.keep (fun b e=>(hk b e.1).trans (hgr.block b (by have:=e.2.1;omega) (fun e2=>e.2.2 e2.symm))) (fun b e=>(hk b (hlo.1 b e).1).trans (hgr.block b (by have:=(hlo.1 b e).2;omega) (fun e2=>h.ne b e e2.symm)))).mono fun b e=>⟨e.1,by omega,fun e2=> ?_⟩⟩,⟨c2,marks_keep hO fun b e=>hk b (own_lt2 hO.1 b e).1⟩,fun b e e2=> ?_,fun b e=>by have:=(hlo.1 b e).2;omega,fun b e=>(own_lt2 hO.1 b e).2,by omega,by omega⟩
 ·rcases hv' b e2 with e3 | e3
  ·exact e.2.2 e3
  ·have:=e.2.1
   omega
 ·rcases hv' b e2 with e3 | e3
  ·exact h.ne b e e3
  ·have:=(hlo.1 b e).2
   omega
theorem SegRd.more(h:SegRd w gr gc B a s ep vL l vM M q fi T W){cells:List (List Value)}(hc:OwnElsF (fun b=>gr<b∧b<W.heap.size∧vM.ownBlock≠some b) rBatch (gr+1) 60 3 W vL l cells){x:Batch}{news:List Value}(hn:news.length=3)
  (hx:rBatch.r (fun b=>(gr<b∧b<W.heap.size∧vM.ownBlock≠some b)∧vL.ownBlock≠some b) W news x)
  (hown:W'.ownsRow (gr+1) 60 3 vL' (l.length+1) (cells.flatten++news)) (hgr:W.grownBy W' vL.ownBlock) (hat:vL'.ownBlock=vL.ownBlock∨vL'.ownBlock=some W.heap.size):
  SegRd w gr gc B a s ep vL' (l++[x]) vM M q fi W'.heap.size (W'.setCell ⟨gr,2,none⟩ vL'):=by
 have h1:=h.gl
 have h2:=h.rb.lt
 have ht1:=h.t1
 have ht2:=h.t2
 have hgs:=hgr.size
 have hlo:=h.lo
 have hz:(W'.setCell ⟨gr,2,none⟩ vL').heap.size=W'.heap.size:=by simp[World.setCell]
 have hO:=hc.push (fun b e=>e.2.1) hn hx hown hgr hat
 have hbg:Below (gr+1) W W':=Below.grown (Below.refl _ _) hgr (by omega) (fun g e=>(hlo.1 g e).1)
 have hk:∀b,gr<b→(W'.setCell ⟨gr,2,none⟩ vL').heap[b]? =W'.heap[b]? :=fun b e=>Below.heap_setCell _ _ _ _ (by dsimp only;omega)
 have hv':∀b,vL'.ownBlock=some b→vL.ownBlock=some b∨b=W.heap.size:=fun b e=>by
  rcases hat with h | h
  ·exact .inl (h ▸ e)
  ·rw[h] at e;exact .inr (Option.some.inj e).symm
 obtain⟨cm,hm⟩:=h.ownM
 refine⟨(h.inv.row (hbg.mono (by omega))).row (Below.setCell (Below.refl _ _) (by dsimp only;omega) _),(h.rb.below hbg (by omega)).set 2 _,h1,⟨_,(hO.keep (fun b e=>hk b e.1) (fun b e=>hk b (own_lt2 hO.1 b e).1)).mono fun b e=>⟨e.1,by have:=e.2.1;omega,e.2.2⟩⟩,⟨cm,marks_keep hm fun b e=>(hk b (hlo.2 b e).1).trans (hgr.block b (by have:=(hlo.2 b e).2;omega) (fun e2=>h.ne b e2.symm e))⟩,fun b e e2=> ?_,fun b e=>(own_lt2 hO.1 b e).2,fun b e=>by have:=(hlo.2 b e).2;omega,by omega,by omega⟩
 rcases hv' b e with e3 | e3
 ·exact h.ne b e3 e2
 ·have:=(hlo.2 b e2).2
  omega
end
end Go.Proofs.YtmioakocnebceaaGreat
namespace Go.Bs
open Go.RowKit
theorem OwnElsF.app{α:Type}{w w':World}{F:Nat→Prop}{A:Rp α}{base:Nat}{e:TypeId}{sz:Nat}{v v':Value}{xs ys:List α}{news:List (List Value)}{cells:List (List Value)}(h:OwnElsF F A base e sz w v xs cells)(hF:∀b,F b→b<w.heap.size)
  (hl:news.length=ys.length) (hn:∀c∈news,c.length=sz) (hx:∀(i:Nat) cs y,news[i]? =some cs→ys[i]? =some y→A.r (fun b=>F b∧v.ownBlock≠some b) w cs y)
  (hown:w'.ownsRow base e sz v' (xs.length+ys.length) (cells.flatten++news.flatten)) (hg:w.grownBy w' v.ownBlock) (hat:v'.ownBlock=v.ownBlock∨v'.ownBlock=some w.heap.size):OwnElsF F A base e sz w' v' (xs++ys) (cells++news):=by
 obtain⟨ho,hlen,hsz,hA⟩:=h
 have lift:∀cs y,A.r (fun b=>F b∧v.ownBlock≠some b) w cs y→A.r (fun b=>F b∧v'.ownBlock≠some b) w' cs y:=fun cs y hr=>
  A.mono (A.keep hr fun b hb=>hg.block b (hF b hb.1) (fun e=>hb.2 e.symm)) fun b hb=>⟨hb.1,fun e=>by
   rcases hat with h | h
   ·exact hb.2 (h ▸ e)
   ·rw[h] at e;have:=Option.some.inj e;have:=hF b hb.1;omega⟩
 refine⟨?_,by simp[hlen,hl],?_,?_⟩
 ·rw[List.flatten_append,List.length_append]
  exact hown
 ·intro c hc
  rcases List.mem_append.1 hc with h | h
  ·exact hsz c h
  ·exact hn c h
 ·intro i cs y hi hy
  by_cases hlt:i<xs.length
  ·rw[List.getElem?_append_left (by omega)] at hi
   rw[List.getElem?_append_left hlt] at hy
   exact lift _ _ (hA i cs y hi hy)
  ·rw[List.getElem?_append_right (by omega),hlen] at hi
   rw[List.getElem?_append_right (by omega)] at hy
   exact lift _ _ (hx _ _ _ hi hy)
end Go.Bs
namespace Go.Proofs.YtmioakocnebceaaGreat
open Go.RowKit Go.Bs Go.Maps
theorem fits_far{x:Nat}{c a pos at_:Int}(hp:0≤pos)(h:4611686018427387904≤x):fitsM ⟨pos+(x:Int),c,a⟩ pos at_=false:=by
 rcases h2:fitsM ⟨pos+(x:Int),c,a⟩ pos at_ with _ | _
 ·rfl
 ·have:=(fitsM_facts h2).2.2.2.1
  dsimp only at this
  omega
structure IdxI(w:World)(g:Nat)(B:List UInt8)(a:Option Addr)(s:Rs)(v:Value)(M:List MarkD)(W:World):Prop where
 inv:RdInv w W g B a s
 own:OwnEls w.heap.size rMark w.heap.size 141 3 W v M
section
variable {w W W':World} {g:Nat} {B:List UInt8} {a:Option Addr} {s s':Rs} {v v':Value} {M:List MarkD}
theorem IdxI.step(h:IdxI w g B a s v M W)(k:RdStep W g B a s' W'):IdxI w g B a s' v M W':=
 ⟨h.inv.step k,OwnEls.tch3 h.own (k.2.mono fun b _ e=> .inl e) h.inv.lt⟩
theorem IdxI.later(h:IdxI w g B a s v M W)(hb:Below W.heap.size W W'):IdxI w g B a s v M W':=
 ⟨h.inv.row (hb.mono h.inv.tch.size),h.own.below hb⟩
end
theorem m3_blk{w:World}{t:TypeId}{g:Nat}{v0 v1 v2:Value}(h:Blk w g t #[v0,v1,v2]):w.cell? ⟨g,0,none⟩=some v0∧w.cell? ⟨g,1,none⟩=some v1∧w.cell? ⟨g,2,none⟩=some v2∧g<w.heap.size:=
 ⟨h.cell 0,h.cell 1,h.cell 2,h.lt⟩
theorem marks_ones{m:MarkD}:∀u∈[(.int .u64 m.pos:Value),.int .i64 m.count,.int .i64 m.at_],u.oneCell'=true:=by
 intro u hu
 simp at hu
 rcases hu with rfl | rfl | rfl<;>rfl
theorem index_read(w:World){g:Nat}{B:List UInt8}{a:Option Addr}{s:Rs}(h:RdAt w g B a s)(hB:B.length≤1000000000):
  Calls Tryz.prog 231 #[.pointer (some ⟨g,0,none⟩)] w fun r w'=>∃v,r=.returned v∧rMarks.r (fun q=>w.heap.size≤q∧q<w'.heap.size) w' [v] (s.marks_ B).2∧RdStep w g B a (s.marks_ B).1 w':=by
 obtain⟨j0,hj,hy0,hy1,hy2⟩:=info_parts infoMark
 have HIN:=hid (RdInv.refl h)
 have HN0:=hid (varint_int w h (by omega) 16 (by decide))
 have hn16:=Rs.int_le (B:=B) (s:=s) (m:=16)
 unfold Rs.marks_
 generalize s.int B 16=T0 at*
 obtain⟨s0,n⟩:=T0
 dsimp only at*
 obtain⟨RES,hRES⟩:∃RES,RES=Rs.marksF B n s0 0 0 []:=⟨_,rfl⟩
 rw[←hRES]
 have HR0:=hid hRES.symm
 obtain⟨sF,MF⟩:=RES
 have hn16':n≤16:=by omega
 clear h hRES
 dsimp only
 go_enter Tryz.func231,Tryz.ntmps231
 go_wp2_with fail
 refine HN0.out.mono ?_
 rintro r w1 ⟨rfl,hst1⟩
 have HI1:Hid (IdxI w g B a s0 (.slice none 0 0) [] w1):=hid ⟨HIN.out.step hst1,OwnEls.nil⟩
 clear hst1 HIN HN0
 go_wp2_with fail
 go_loopw [3,4,5,12] (fun v p at_ i wr=>∃(k:Nat) (t:Rs) (M:List MarkD) (pos b:Int),k≤n∧i=.int .i64 k∧p=.int .u64 pos∧at_=.int .i64 b∧Hid (M.length=k)∧(0≤pos∧pos≤4611686018427387904)∧(0≤b∧b≤1099511627775)∧IdxI w g B a t v M wr∧Hid (Rs.marksF B (n-k) t pos b M=(sF,MF))) (fun _ _ _ i _=>n-(intOf i).toNat)
 case atStart=>exact ⟨0,s0,[],0,0,Nat.zero_le _,rfl,rfl,rfl,hid rfl,⟨by decide,by decide⟩,⟨by decide,by decide⟩,HI1.out,hid (by rw[Nat.sub_zero];exact HR0.out)⟩
 case round=>
  obtain⟨k,t,M,pos,b,hk,rfl,rfl,rfl,hMk,hpos,hbb,hI,hsp⟩:=hrel
  obtain⟨cells0,hca⟩:=hI.own
  obtain⟨aM,cM,rfl⟩:=own_form hca.1
  have HI:=hid hI
  have hML:M.length≤16:=by have:=hMk.out;omega
  clear hca hI
  by_cases hlt:k<n
  ·have i1:(k:Int)<(n:Int):=by omega
   have d1:decide ((k:Int)<(n:Int))=true:=decide_eq_true i1
   obtain⟨mm,hmm⟩:∃mm,n-k=mm+1:=⟨n-k-1,by omega⟩
   have hst:=hsp.out
   rw[hmm,Rs.marksF_succ] at hst
   have HAT:=hid (fun (W:World) (hW:RdAt W g B a t)=>rd_at W hW)
   have HX:=hid (fun (W:World) (hW:RdAt W g B a t)=>varint_read W hW (by omega))
   have hxu:=Rs.num_small (B:=B) (s:=t)
   have hfar:=@fits_far (t.num B).2
   generalize t.num B=X at*
   obtain⟨t1,x⟩:=X
   dsimp only at*
   have HC:=hid (fun (W:World) (hW:RdAt W g B a t1)=>varint_int W hW (by omega) 16 (by decide))
   have hcu:=Rs.int_le (B:=B) (s:=t1) (m:=16)
   generalize t1.int B 16=C at*
   obtain⟨t2,c⟩:=C
   dsimp only at*
   have HO:=hid (fun (W:World) (hW:RdAt W g B a t2)=>varint_int W hW (by omega) 1099511627775 (by decide))
   have hou:=Rs.int_le (B:=B) (s:=t2) (m:=1099511627775)
   generalize t2.int B 1099511627775=O at*
   obtain⟨t3,o⟩:=O
   dsimp only at*
   have hcu':c≤16:=by omega
   have hou':o≤1099511627775:=by omega
   clear hcu hou
   replace hfar:=@hfar (c:Int) (b+1+(o:Int)) pos b hpos.1
   obtain⟨y,hy⟩:∃y,IntKind.u64.wrap (pos+(x:Int))=y:=⟨_,rfl⟩
   have hyu:=wrap_u64_range (pos+(x:Int))
   rw[hy] at hyu
   have hyx:x<4611686018427387904→y=pos+(x:Int):=fun h=>by
    rw[←hy,IntKind.wrap_u64,Int.emod_eq_of_lt (by omega) (by omega)]
   have HY:=hid hy
   have HFI:=hid (fun (W:World)=>(by have:=index_fits ⟨y,(c:Int),b+1+(o:Int)⟩ ⟨hyu,⟨by dsimp only;omega,by dsimp only;omega⟩,⟨by dsimp only;omega,by dsimp only;omega⟩⟩ pos b W;exact this:Calls Tryz.prog 328 #[.agg #[.int .u64 y,.int .i64 (c:Int),.int .i64 (b+1+(o:Int))],.int .u64 pos,.int .i64 b] W fun r w'=>r=.returned (.bool (fitsM ⟨y,(c:Int),b+1+(o:Int)⟩ pos b))∧Below W.heap.size W w'))
   have HFL:=hid (fun (W:World) (hW:RdAt W g B a t3)=>rd_fail W hW 3 (t.p:Int) (by decide))
   have hHF:=@fitsM_facts ⟨pos+(x:Int),(c:Int),b+1+(o:Int)⟩ pos b
   have HST:=hid hst
   clear hy hst hsp
   go_wp2_with fail
   refine (HAT.out _ HI.out.inv.rd).mono ?_
   rintro r w2 ⟨rfl,rfl⟩
   go_wp2_with fail
   refine (HX.out _ HI.out.inv.rd).mono ?_
   rintro r w3 ⟨rfl,hst3⟩
   have HI3:=hid (HI.out.step hst3)
   clear hst3 HI
   go_wp2_with fail
   refine (HC.out _ HI3.out.inv.rd).mono ?_
   rintro r w4 ⟨rfl,hst4⟩
   have HI4:=hid (HI3.out.step hst4)
   clear hst4 HI3
   go_wp2_with fail
   refine (HO.out _ HI4.out.inv.rd).mono ?_
   rintro r w5 ⟨rfl,hst5⟩
   have HI5:=hid (HI4.out.step hst5)
   clear hst5 HI4
   go_upto_region 10 with (fail)
   (try rw[HY.out])
   have HI6:=hid (HI5.out.later (show Below w5.heap.size w5 (w5.alloc (.cells #[.int .u64 y,.int .i64 (c:Int),.int .i64 (b+1+(o:Int))] 141)) by (repeat (first | with_reducible exact Below.refl _ _ | with_reducible assumption | (with_reducible refine below_alloc ?_ _) | (with_reducible refine Below.setCell ?_ (by first | omega | (simp;done) | (simp;omega)) _) | (with_reducible refine Below.drew ?_) | (with_reducible refine below_drewN ?_ _) | (refine below_then (by with_reducible assumption) ?_)))))
   have HB6:Hid (Blk (w5.alloc (.cells #[.int .u64 y,.int .i64 (c:Int),.int .i64 (b+1+(o:Int))] 141)) w5.heap.size 141 #[.int .u64 y,.int .i64 (c:Int),.int .i64 (b+1+(o:Int))]):=hid (Blk.new _ _ _)
   generalize (w5.alloc (.cells #[.int .u64 y,.int .i64 (c:Int),.int .i64 (b+1+(o:Int))] 141))=w6 at*
   have hOw:Hid (∀q,(Value.slice aM M.length cM).ownBlock=some q→q<w5.heap.size):=hid fun q e=>by
    obtain⟨_,h⟩:=HI5.out.own
    exact (h.1.lt q e).2
   generalize w5.heap.size=gm at*
   clear HI5
   obtain⟨y0,y1,y2,ly⟩:=m3_blk HB6.out
   by_cases hF:fitsM ⟨pos+(x:Int),(c:Int),b+1+(o:Int)⟩ pos b=true
   ·have hx:x<4611686018427387904:=by
     rcases Nat.lt_or_ge x 4611686018427387904 with h | h
     ·exact h
     ·rw[hfar h] at hF
      cases hF
    have hyy:=hyx hx
    subst hyy
    have d2:decide ((4611686018427387904:Int)≤(x:Int))=false:=decide_eq_false (by omega)
    have hff:=hHF hF
    rw[hF] at HFI
    go_wp2_with fail
    refine (HFI.out _).mono ?_
    rintro r w7 ⟨rfl,hb7⟩
    have HI7:=hid (HI6.out.later hb7)
    have HB7:=HB6.out.later hb7
    clear y0 y1 y2 ly hb7 HI6 HB6
    obtain⟨y0,y1,y2,ly⟩:=m3_blk HB7
    by_cases hk3:t3.k=0
    ·have hs:=HST.out
     rw[if_pos hk3,if_pos hF] at hs
     have HS:=hid hs
     have HG:=hid (fun (W:World) (hW:RdAt W g B a t3)=>(by have:=rd_good W hW;rw[decide_eq_true hk3] at this;exact this:Calls Tryz.prog 151 #[.pointer (some ⟨g,0,none⟩)] W fun r w'=>r=.returned (.bool true)∧Below W.heap.size W w'))
     clear hs hk3 HST hF hfar hHF hyx hyu
     go_wp2_with fail
     refine (HG.out _ HI7.out.inv.rd).mono ?_
     rintro r w8 ⟨rfl,hb8⟩
     have HI8:=hid (HI7.out.later hb8)
     have HB8:=hid (HB7.later hb8)
     clear y0 y1 y2 ly hb8 HI7 HB7
     obtain⟨y0,y1,y2,ly⟩:=m3_blk HB8.out
     have HI9:=hid (HI8.out.later (show Below w8.heap.size w8 (w8.alloc (.cells #[.int .u64 (pos+(x:Int)),.int .i64 (c:Int),.int .i64 (b+1+(o:Int))] 141)) by (repeat (first | with_reducible exact Below.refl _ _ | with_reducible assumption | (with_reducible refine below_alloc ?_ _) | (with_reducible refine Below.setCell ?_ (by first | omega | (simp;done) | (simp;omega)) _) | (with_reducible refine Below.drew ?_) | (with_reducible refine below_drewN ?_ _) | (refine below_then (by with_reducible assumption) ?_)))))
     obtain⟨cells9,hc9⟩:=HI9.out.own
     have HC9:=hid hc9
     have hz9:w.heap.size≤(w8.alloc (.cells #[.int .u64 (pos+(x:Int)),.int .i64 (c:Int),.int .i64 (b+1+(o:Int))] 141)).heap.size:=HI9.out.inv.tch.size
     have HB9:=HB8.out.alloc (.cells #[.int .u64 (pos+(x:Int)),.int .i64 (c:Int),.int .i64 (b+1+(o:Int))] 141)
     clear hc9
     have HEN:=hid (fun (W:World)=>(by have:=index_end ⟨pos+(x:Int),(c:Int),b+1+(o:Int)⟩ (by dsimp only;omega) ⟨by dsimp only;omega,by dsimp only;omega⟩ (by dsimp only;omega) W;exact this:Calls Tryz.prog 234 #[.agg #[.int .u64 (pos+(x:Int)),.int .i64 (c:Int),.int .i64 (b+1+(o:Int))]] W fun r w'=>r=.returned (.int .u64 (pos+(x:Int)+(c:Int)))∧Below W.heap.size W w'))
     go_wp2_with (at_builtin;go_loud (refine wpList_append_src rfl _ _ _ rfl w.heap.size 141 j0 (.agg #[.int .u64 0,.int .i64 0,.int .i64 0]) 3 24 Tryz.underlying94 hj hy0 hy1 hy2 rfl (by decide) (.slice aM M.length cM) M.length cells9.flatten rfl HC9.out.1 (some ⟨w8.heap.size,0,none⟩) 1 1 [.int .u64 (pos+(x:Int)),.int .i64 (c:Int),.int .i64 (b+1+(o:Int))] rfl (src_new1 w8 141 _ rfl rfl rfl) (marks_ones (m:=⟨pos+(x:Int),(c:Int),b+1+(o:Int)⟩)) (by simp only[maxLen];omega) (by omega) hz9 ?_;intro v10 w10 hown10 hgrow10 hat10;obtain⟨a10,c10,rfl⟩:=own_form hown10;have HO10:=hid (OwnEls.push HC9.out (x:=(⟨pos+(x:Int),(c:Int),b+1+(o:Int)⟩:MarkD)) rfl (mark_mk ⟨⟨by dsimp only;omega,by dsimp only;omega⟩,⟨by dsimp only;omega,by dsimp only;omega⟩,⟨by dsimp only;omega,by dsimp only;omega⟩⟩) hown10 hgrow10 hat10 hgrow10.size);have HIV:=hid (HI9.out.inv.row (Below.grown (Below.refl _ _) hgrow10 hz9 (fun g e=>(own_lt2 HC9.out.1 g e).1)));have HB10:=HB9.grown hgrow10 (fun e=>Nat.lt_irrefl _ (hOw.out _ e.symm));obtain⟨y0',y1',y2',ly'⟩:=m3_blk HB10;clear hown10 hgrow10 hat10))
     clear y0 y1 y2 ly HB9 HB8 HI8 HI9 HC9 hz9
     have Y0:=fun s:Later w10=>s.cell y0'
     have Y1:=fun s:Later w10=>s.cell y1'
     have Y2:=fun s:Later w10=>s.cell y2'
     clear y0' y1' y2' ly' HB10
     go_wp2_with fail
     refine wp_region_later (by kernel_rfl) (by kernel_rfl) ?_
     repeat (go_big_quiet_step (((go_at_call 234;exact later_of (HEN.out _)))))
     refine wpQuiet_nil ?_
     rintro W11 ⟨⟨W11',hb11⟩,rfl⟩
     go_wp2_with fail
     go_roundw
     case rel=>exact ⟨k+1,t3,M++[⟨pos+(x:Int),(c:Int),b+1+(o:Int)⟩],pos+(x:Int)+(c:Int),b+1+(o:Int),by omega,by go_num,rfl,rfl,hid (by rw[List.length_append,hMk.out];rfl),⟨by omega,by omega⟩,⟨by omega,by omega⟩,⟨HIV.out.row (hb11.mono HIV.out.tch.size),HO10.out.below hb11⟩,hid (by rw[show n-(k+1)=mm by omega];exact HS.out)⟩
     case measure=>(simp[intOf];try omega)
    ·have hs:=HST.out
     rw[if_neg hk3] at hs
     simp only[Prod.mk.injEq] at hs
     obtain⟨rfl,rfl⟩:=hs
     have HG:=hid (fun (W:World) (hW:RdAt W g B a t3)=>(by have:=rd_good W hW;rw[decide_eq_false hk3] at this;exact this:Calls Tryz.prog 151 #[.pointer (some ⟨g,0,none⟩)] W fun r w'=>r=.returned (.bool false)∧Below W.heap.size W w'))
     clear hk3 HST hF hfar hHF hyx hyu
     go_wp2_with fail
     refine (HG.out _ HI7.out.inv.rd).mono ?_
     rintro r w8 ⟨rfl,hb8⟩
     have HI8:=hid (HI7.out.later hb8)
     go_wp2_with fail
     go_ret
     exact⟨_,rfl,rSl_mk (xs:=[]) rfl (Nat.le_refl _) (Nat.zero_le _) (.inl rfl),HI8.out.inv.to⟩
   ·have hF':fitsM ⟨pos+(x:Int),(c:Int),b+1+(o:Int)⟩ pos b=false:=by simpa using hF
    have hs:=HST.out
    have hend:(t3.fail 3 (t.p:Int),([]:List MarkD))=(sF,MF):=by
     by_cases hk3:t3.k=0
     ·rw[if_pos hk3,if_neg hF] at hs
      exact hs
     ·rw[if_neg hk3] at hs
      rw[Rs.fail_of_bad hk3]
      exact hs
    simp only[Prod.mk.injEq] at hend
    obtain⟨rfl,rfl⟩:=hend
    have HG:=hid (fun (W:World) (hW:RdAt W g B a (t3.fail 3 (t.p:Int)))=>(by have:=rd_good W hW;rw[decide_eq_false (Rs.fail_k (by decide))] at this;exact this:Calls Tryz.prog 151 #[.pointer (some ⟨g,0,none⟩)] W fun r w'=>r=.returned (.bool false)∧Below W.heap.size W w'))
    by_cases hx:x<4611686018427387904
    ·have hyy:=hyx hx
     subst hyy
     have d2:decide ((4611686018427387904:Int)≤(x:Int))=false:=decide_eq_false (by omega)
     rw[hF'] at HFI
     clear HST hF hF' hfar hHF hyx hyu hs HR0
     go_wp2_with fail
     refine (HFI.out _).mono ?_
     rintro r w7 ⟨rfl,hb7⟩
     have HI7:=hid (HI6.out.later hb7)
     go_wp2_with fail
     refine (HFL.out _ HI7.out.inv.rd).mono ?_
     rintro r w8 ⟨rfl,hst8⟩
     have HI8:=hid (HI7.out.step hst8)
     go_wp2_with fail
     refine (HG.out _ HI8.out.inv.rd).mono ?_
     rintro r w9 ⟨rfl,hb9⟩
     have HI9:=hid (HI8.out.later hb9)
     go_wp2_with fail
     go_ret
     exact⟨_,rfl,rSl_mk (xs:=[]) rfl (Nat.le_refl _) (Nat.zero_le _) (.inl rfl),HI9.out.inv.to⟩
    ·have d2:decide ((4611686018427387904:Int)≤(x:Int))=true:=decide_eq_true (by omega)
     clear HST hF hF' hfar hHF hyx hyu hs HR0
     go_wp2_with fail
     refine (HFL.out _ HI6.out.inv.rd).mono ?_
     rintro r w8 ⟨rfl,hst8⟩
     have HI8:=hid (HI6.out.step hst8)
     go_wp2_with fail
     refine (HG.out _ HI8.out.inv.rd).mono ?_
     rintro r w9 ⟨rfl,hb9⟩
     have HI9:=hid (HI8.out.later hb9)
     go_wp2_with fail
     go_ret
     exact⟨_,rfl,rSl_mk (xs:=[]) rfl (Nat.le_refl _) (Nat.zero_le _) (.inl rfl),HI9.out.inv.to⟩
  ·obtain rfl:k=n:=by omega
   have d1:decide ((k:Int)<(k:Int))=false:=decide_eq_false (by omega)
   have hs:=hsp.out
   rw[Nat.sub_self] at hs
   have hs2:(t,M)=(sF,MF):=hs
   simp only[Prod.mk.injEq] at hs2
   obtain⟨rfl,rfl⟩:=hs2
   clear hsp hs HR0
   go_wp2_with fail
   go_ret
   exact⟨_,rfl,HI.out.own.slice (Nat.le_refl _),HI.out.inv.to⟩
theorem batch_wf{blk:List UInt8→Rs→Rs × List UInt8 × Bool}(hb:BlkF blk){P:List UInt8}{s:Rs}(hs:s.ok P.length):(Rs.batch P (blk P) s).2.1.base+(Rs.batch P (blk P) s).2.1.entries.length≤18446744073709551615:=by
 by_cases h:(Rs.batch P (blk P) s).1.k=0
 ·obtain⟨h1,_,_⟩:=Rs.batch_canon hs h (fun t=>hb.k P t) (fun t=>hb.len P t)
  have:=(batchR_facts h1).2.2.2.2.1
  omega
 ·rw[Rs.batch_none h]
  unfold noBatch
  decide
theorem within_zero_k{s:Rs}{k f a:Int}(h:(s.within k f a).k=0):k=0:=by
 unfold Rs.within at h
 split at h
 ·assumption
 ·unfold Rs.fail at h
  split at h
  ·exact h
  ·rename_i h1
   exact absurd h h1
def afterB(u:Rs)(l:List Batch)(ep:Int)(x:Batch)(fi:Nat):Rs:=if u.k=0 then (if l.length=16 then u.fail 2 fi else if mayR ep (prevB l l.length) x=true then u else u.fail 13 fi) else u
structure RecI(B:List UInt8)(ep:Int)(blk:List UInt8→Rs→Rs × List UInt8 × Bool)(RES:Rs × Nat × List Batch × List MarkD × Bool)(s:Rs)(l:List Batch)(M:List MarkD)(q:Bool):Prop where
 go:s.k=0→∃n,segRec B ep blk n s l M q=RES∧B.length-s.p<n∧s.fit B.length∧l.length≤16∧M.length=l.length∧∀p∈l,p.base+p.entries.length≤18446744073709551615
 stop:s.k≠0→RES.1=s
section
variable {B:List UInt8} {ep:Int} {blk:List UInt8→Rs→Rs × List UInt8 × Bool} {RES:Rs × Nat × List Batch × List MarkD × Bool} {s t:Rs} {l:List Batch} {M:List MarkD} {q:Bool} {P:List UInt8}
theorem RecI.none(h:RecI B ep blk RES s l M q)(hk:s.k=0)(hF:s.frame B 2097152=(t,[]))(ht:t.k=0):RecI B ep blk RES (t.fail 1 ((t.p:Int)-4-((0:Nat):Int))) l M q:=by
 obtain⟨n,hr,hn,hf,_⟩:=h.go hk
 obtain⟨m,rfl⟩:∃m,n=m+1:=⟨n-1,by omega⟩
 rw[segRec_succ B ep blk m s l M q hF,if_pos ht,if_pos rfl] at hr
 refine⟨fun e=>absurd e (Rs.fail_k (by decide)),fun _=>by rw[←hr];rfl⟩
theorem RecI.batch(h:RecI B ep blk RES s l M q)(hb:BlkF blk)(hk:s.k=0)(hF:s.frame B 2097152=(t,P))(ht:t.k=0)(hP:P≠[])(h1:P.headD 0=1){t1 u:Rs}{x:Batch}{bq:Bool}(hm:Rs.batch P (blk P) ⟨1,0,0⟩=(t1,x,bq))(hu:t.within (t1.fin P.length).k (t1.fin P.length).f ((t.p:Int)-4-(P.length:Int))=u):RecI B ep blk RES (afterB u l ep x s.p) (if (afterB u l ep x s.p).k=0 then l++[x] else l) (if (afterB u l ep x s.p).k=0 then M++[⟨x.base,x.entries.length,(s.p:Int)⟩] else M) (if (afterB u l ep x s.p).k=0 then (q&&bq) else q):=by
 obtain⟨n,hr,hn,hf,h16,hM16,hbs⟩:=h.go hk
 obtain⟨m,rfl⟩:∃m,n=m+1:=⟨n-1,by omega⟩
 obtain⟨c1,c2,c3,c4,c5⟩:=Rs.frame_canon hf hF ht
 have hlow:=frameB_low P
 have htf:=Rs.frame_fit hf 2097152
 rw[hF] at htf
 have hPl:1≤P.length:=List.length_pos_iff.2 hP
 have hw:=batch_wf hb (P:=P) (s:=⟨1,0,0⟩) ⟨hPl,fun _=>rfl⟩
 rw[hm] at hw
 dsimp only at hw htf
 rw[segRec_succ B ep blk m s l M q hF,if_pos ht,if_neg hP,if_pos h1] at hr
 dsimp only at hr
 rw[hm] at hr
 dsimp only at hr
 rw[hu] at hr
 unfold afterB
 by_cases hku:u.k=0
 ·rw[if_pos hku] at hr ⊢
  by_cases hl:l.length=16
  ·rw[if_pos hl] at hr ⊢
   have hne:(u.fail 2 (s.p:Int)).k≠0:=Rs.fail_k (by decide)
   rw[if_neg hne,if_neg hne,if_neg hne]
   exact⟨fun e=>absurd e hne,fun _=>by rw[←hr]⟩
  ·rw[if_neg hl] at hr ⊢
   by_cases hmay:mayR ep (prevB l l.length) x=true
   ·rw[if_pos hmay] at hr ⊢
    rw[if_pos hku,if_pos hku,if_pos hku]
    have hut:u=t:=by
     have:=within_zero_k (hu ▸ hku)
     rw[←hu,this]
     exact Rs.within_zero
    subst hut
    refine⟨fun _=>⟨m,hr,by omega,htf,by rw[List.length_append];simp only[List.length_cons,List.length_nil];omega,by rw[List.length_append,List.length_append,hM16];rfl,fun p hp=> ?_⟩,fun e=>absurd hku e⟩
    rcases List.mem_append.1 hp with h3 | h3
    ·exact hbs p h3
    ·rw[List.mem_singleton.1 h3]
     exact hw
   ·rw[if_neg hmay] at hr ⊢
    have hne:(u.fail 13 (s.p:Int)).k≠0:=Rs.fail_k (by decide)
    rw[if_neg hne,if_neg hne,if_neg hne]
    exact⟨fun e=>absurd e hne,fun _=>by rw[←hr]⟩
 ·rw[if_neg hku] at hr ⊢
  rw[if_neg hku,if_neg hku,if_neg hku]
  exact⟨fun e=>absurd e hku,fun _=>by rw[←hr]⟩
end
structure FootN(f:FootD):Prop where
 ep:inU f.ep
 n:0≤f.n∧f.n≤65536
 en:0≤f.en∧f.en≤65536
 fi:inU f.first
 fe:inU f.fin
 a:0≤f.at_∧f.at_≤1099511627776
 s:0≤f.size∧f.size≤1099511627776
def spansB(f:FootD):Bool:=if f.n=0 then decide (f.first=0)&&decide (f.fin=0) else decide (f.first<f.fin)&&(decide (f.fin≤4611686018427387904)&&decide (f.en≤f.fin-f.first))
theorem footRb_parts{f:FootD}(h:FootN f):footRb f=(epR f.ep&&((decide (0≤f.n)&&(decide (f.n≤16)&&(decide (f.n≤f.en)&&decide (f.en≤f.n*16))))&&((decide (1≤f.at_)&&(decide (f.at_≤1099511627775)&&(decide (1≤f.size)&&decide (f.size≤2097152))))&&spansB f))):=by
 have h0:=h.fi.1
 rw[Bool.eq_iff_iff]
 unfold footRb spansB
 by_cases hn:f.n=0
 ·simp only[if_pos hn,Bool.and_eq_true,decide_eq_true_eq]
  constructor
  ·rintro⟨e,h⟩
   exact⟨e,by omega⟩
  ·rintro⟨e,h⟩
   exact⟨e,by omega⟩
 ·simp only[if_neg hn,Bool.and_eq_true,decide_eq_true_eq]
  constructor
  ·rintro⟨e,h⟩
   exact⟨e,by omega⟩
  ·rintro⟨e,h⟩
   exact⟨e,by omega⟩
theorem footer_spansA(f:FootD)(hN:FootN f)(w:World):
  Calls Tryz.prog 391 #[.agg f.val] w fun r w'=>r=.returned (.bool (spansB f))∧Below w.heap.size w w':=by
 obtain⟨ep,n,en,fi,fe,a,s⟩:=f
 obtain⟨⟨e0,e1⟩,⟨n0,n1⟩,⟨m0,m1⟩,⟨f0,f1⟩,⟨g0,g1⟩,_,_⟩:=hN
 dsimp only[FootD.val] at*
 have hb0:Below w.heap.size w (w.alloc (.cells #[.int .u64 ep,.int .i64 n,.int .i64 en,.int .u64 fi,.int .u64 fe,.int .i64 a,.int .i64 s] 152)):=by (repeat (first | with_reducible exact Below.refl _ _ | with_reducible assumption | (with_reducible refine below_alloc ?_ _) | (with_reducible refine Below.setCell ?_ (by first | omega | (simp;done) | (simp;omega)) _) | (with_reducible refine Below.drew ?_) | (with_reducible refine below_drewN ?_ _) | (refine below_then (by with_reducible assumption) ?_)))
 obtain⟨R,hR⟩:∃R,R=spansB ⟨ep,n,en,fi,fe,a,s⟩:=⟨_,rfl⟩
 rw[←hR]
 unfold spansB at hR
 dsimp only at hR
 have hem:en%18446744073709551616=en:=by omega
 by_cases hn:n=0
 ·have dn:(n==(0:Int))=true:=by simp[hn]
  rw[if_pos hn] at hR
  have HR:=hid hR
  clear hR hn
  by_cases q1:fi=0
  ·have dq1:(fi==0)=true:=(by simp[q1]);have eq1:=hid (decide_eq_true q1);clear q1
   by_cases q2:fe=0
   ·have dq2:(fe==0)=true:=(by simp[q2]);have eq2:=hid (decide_eq_true q2);clear q2
    go_enter Tryz.func391,Tryz.ntmps391
    go_wp2_with fail
    go_ret
    exact⟨congrArg (fun q=>Ending.returned (Value.bool q)) (Eq.symm (by rw[HR.out,eq1.out,eq2.out];rfl)),hb0⟩
   ·have dq2:(fe==0)=false:=(by simp[q2]);have eq2:=hid (decide_eq_false q2);clear q2
    go_enter Tryz.func391,Tryz.ntmps391
    go_wp2_with fail
    go_ret
    exact⟨congrArg (fun q=>Ending.returned (Value.bool q)) (Eq.symm (by rw[HR.out,eq1.out,eq2.out];rfl)),hb0⟩
  ·have dq1:(fi==0)=false:=(by simp[q1]);have eq1:=hid (decide_eq_false q1);clear q1
   go_enter Tryz.func391,Tryz.ntmps391
   go_wp2_with fail
   go_ret
   exact⟨congrArg (fun q=>Ending.returned (Value.bool q)) (Eq.symm (by rw[HR.out,eq1.out];rfl)),hb0⟩
 ·have dn:(n==(0:Int))=false:=by simp[hn]
  rw[if_neg hn] at hR
  have HR:=hid hR
  clear hR hn
  by_cases q1:fi<fe
  ·have dq1:decide (fi<fe)=true:=decide_eq_true q1
   by_cases q2:fe≤4611686018427387904
   ·have dq2:decide (fe≤4611686018427387904)=true:=decide_eq_true q2
    by_cases q3:en≤fe-fi
    ·have dq3:decide (en≤fe-fi)=true:=decide_eq_true q3
     go_enter Tryz.func391,Tryz.ntmps391
     go_wp2_with fail
     go_ret
     exact⟨congrArg (fun q=>Ending.returned (Value.bool q)) (Eq.symm (by rw[HR.out,dq1,dq2,dq3];rfl)),hb0⟩
    ·have dq3:decide (en≤fe-fi)=false:=decide_eq_false q3
     go_enter Tryz.func391,Tryz.ntmps391
     go_wp2_with fail
     go_ret
     exact⟨congrArg (fun q=>Ending.returned (Value.bool q)) (Eq.symm (by rw[HR.out,dq1,dq2,dq3];rfl)),hb0⟩
   ·have dq2:decide (fe≤4611686018427387904)=false:=decide_eq_false q2
    go_enter Tryz.func391,Tryz.ntmps391
    go_wp2_with fail
    go_ret
    exact⟨congrArg (fun q=>Ending.returned (Value.bool q)) (Eq.symm (by rw[HR.out,dq1,dq2];rfl)),hb0⟩
  ·have dq1:decide (fi<fe)=false:=decide_eq_false q1
   go_enter Tryz.func391,Tryz.ntmps391
   go_wp2_with fail
   go_ret
   exact⟨congrArg (fun q=>Ending.returned (Value.bool q)) (Eq.symm (by rw[HR.out,dq1];rfl)),hb0⟩
theorem footer_rightA(f:FootD)(hN:FootN f)(w:World):
  Calls Tryz.prog 357 #[.agg f.val] w fun r w'=>r=.returned (.bool (footRb f))∧Below w.heap.size w w':=by
 have HS:=hid (fun W:World=>footer_spansA f hN W)
 rw[footRb_parts hN]
 obtain⟨SP,hSP⟩:∃SP,SP=spansB f:=⟨_,rfl⟩
 rw[←hSP] at HS ⊢
 obtain⟨ep,n,en,fi,fe,a,s⟩:=f
 obtain⟨⟨e0,e1⟩,⟨n0,n1⟩,⟨m0,m1⟩,⟨f0,f1⟩,⟨g0,g1⟩,⟨a0,a1⟩,s0,s1⟩:=hN
 dsimp only[FootD.val] at*
 obtain⟨CT,hCT⟩:∃CT,CT=(decide (0≤n)&&(decide (n≤16)&&(decide (n≤en)&&decide (en≤n*16)))):=⟨_,rfl⟩
 obtain⟨PLT,hPT⟩:∃PLT,PLT=(decide (1≤a)&&(decide (a≤1099511627775)&&(decide (1≤s)&&decide (s≤2097152)))):=⟨_,rfl⟩
 rw[←hCT,←hPT]
 have HCT:=hid hCT
 have HPT:=hid hPT
 have HE:=hid (epoch_right ep)
 generalize epR ep=EP at*
 have hb0:Below w.heap.size w (w.alloc (.cells #[.int .u64 ep,.int .i64 n,.int .i64 en,.int .u64 fi,.int .u64 fe,.int .i64 a,.int .i64 s] 152)):=by (repeat (first | with_reducible exact Below.refl _ _ | with_reducible assumption | (with_reducible refine below_alloc ?_ _) | (with_reducible refine Below.setCell ?_ (by first | omega | (simp;done) | (simp;omega)) _) | (with_reducible refine Below.drew ?_) | (with_reducible refine below_drewN ?_ _) | (refine below_then (by with_reducible assumption) ?_)))
 have HX:Hid (Blk (w.alloc (.cells #[.int .u64 ep,.int .i64 n,.int .i64 en,.int .u64 fi,.int .u64 fe,.int .i64 a,.int .i64 s] 152)) w.heap.size 152 #[.int .u64 ep,.int .i64 n,.int .i64 en,.int .u64 fi,.int .u64 fe,.int .i64 a,.int .i64 s]):=hid (Blk.new _ _ _)
 clear hCT hPT hSP
 go_enter Tryz.func357,Tryz.ntmps357
 go_upto_region 1 with (fail)
 generalize (w.alloc (.cells #[.int .u64 ep,.int .i64 n,.int .i64 en,.int .u64 fi,.int .u64 fe,.int .i64 a,.int .i64 s] 152))=w0 at*
 have x0:w0.cell? ⟨w.heap.size,0,none⟩=some (.int .u64 ep):=HX.out.cell 0
 have x1:w0.cell? ⟨w.heap.size,1,none⟩=some (.int .i64 n):=HX.out.cell 1
 have x2:w0.cell? ⟨w.heap.size,2,none⟩=some (.int .i64 en):=HX.out.cell 2
 have x3:w0.cell? ⟨w.heap.size,3,none⟩=some (.int .u64 fi):=HX.out.cell 3
 have x4:w0.cell? ⟨w.heap.size,4,none⟩=some (.int .u64 fe):=HX.out.cell 4
 have x5:w0.cell? ⟨w.heap.size,5,none⟩=some (.int .i64 a):=HX.out.cell 5
 have x6:w0.cell? ⟨w.heap.size,6,none⟩=some (.int .i64 s):=HX.out.cell 6
 go_cut [3] from 5 to 27 (fun v V=>v=.bool CT∧w0=V)
 case first=>
  by_cases h1:0≤n
  ·have dh1:decide (0≤n)=true:=decide_eq_true h1
   by_cases h2:n≤16
   ·have dh2:decide (n≤16)=true:=decide_eq_true h2
    by_cases h3:n≤en
    ·have dh3:decide (n≤en)=true:=decide_eq_true h3
     by_cases h4:en≤n*16
     ·have dh4:decide (en≤n*16)=true:=decide_eq_true h4
      go_wp2_with fail
      go_meet
      case rel=>exact ⟨congrArg Value.bool (Eq.symm (by rw[HCT.out,dh1,dh2,dh3,dh4];rfl)),rfl⟩
     ·have dh4:decide (en≤n*16)=false:=decide_eq_false h4
      go_wp2_with fail
      go_meet
      case rel=>exact ⟨congrArg Value.bool (Eq.symm (by rw[HCT.out,dh1,dh2,dh3,dh4];rfl)),rfl⟩
    ·have dh3:decide (n≤en)=false:=decide_eq_false h3
     go_wp2_with fail
     go_meet
     case rel=>exact ⟨congrArg Value.bool (Eq.symm (by rw[HCT.out,dh1,dh2,dh3];rfl)),rfl⟩
   ·have dh2:decide (n≤16)=false:=decide_eq_false h2
    go_wp2_with fail
    go_meet
    case rel=>exact ⟨congrArg Value.bool (Eq.symm (by rw[HCT.out,dh1,dh2];rfl)),rfl⟩
  ·exact absurd n0 h1
 case rest=>
  obtain⟨rfl,rfl⟩:=hcut
  go_upto_region 2 with (fail)
  go_cut [4] from 28 to 45 (fun v V=>v=.bool PLT∧w0=V)
  case first=>
   by_cases h5:1≤a
   ·have dh5:decide (1≤a)=true:=decide_eq_true h5
    by_cases h6:a≤1099511627775
    ·have dh6:decide (a≤1099511627775)=true:=decide_eq_true h6
     by_cases h7:1≤s
     ·have dh7:decide (1≤s)=true:=decide_eq_true h7
      by_cases h8:s≤2097152
      ·have dh8:decide (s≤2097152)=true:=decide_eq_true h8
       go_wp2_with fail
       go_meet
       case rel=>exact ⟨congrArg Value.bool (Eq.symm (by rw[HPT.out,dh5,dh6,dh7,dh8];rfl)),rfl⟩
      ·have dh8:decide (s≤2097152)=false:=decide_eq_false h8
       go_wp2_with fail
       go_meet
       case rel=>exact ⟨congrArg Value.bool (Eq.symm (by rw[HPT.out,dh5,dh6,dh7,dh8];rfl)),rfl⟩
     ·have dh7:decide (1≤s)=false:=decide_eq_false h7
      go_wp2_with fail
      go_meet
      case rel=>exact ⟨congrArg Value.bool (Eq.symm (by rw[HPT.out,dh5,dh6,dh7];rfl)),rfl⟩
    ·have dh6:decide (a≤1099511627775)=false:=decide_eq_false h6
     go_wp2_with fail
     go_meet
     case rel=>exact ⟨congrArg Value.bool (Eq.symm (by rw[HPT.out,dh5,dh6];rfl)),rfl⟩
   ·have dh5:decide (1≤a)=false:=decide_eq_false h5
    go_wp2_with fail
    go_meet
    case rel=>exact ⟨congrArg Value.bool (Eq.symm (by rw[HPT.out,dh5];rfl)),rfl⟩
  case rest=>
   obtain⟨rfl,rfl⟩:=hcut
   clear HCT HPT
   go_wp2_with fail
   refine (HE.out _).mono ?_
   rintro r w1 ⟨rfl,rfl⟩
   cases EP
   ·go_wp2_with fail
    go_ret
    exact⟨rfl,hb0⟩
   ·cases CT
    ·go_wp2_with fail
     go_ret
     exact⟨rfl,hb0⟩
    ·cases PLT
     ·go_wp2_with fail
      go_ret
      exact⟨rfl,hb0⟩
     ·go_wp2_with fail
      refine (HS.out _).mono ?_
      rintro r w2 ⟨rfl,hb2⟩
      have hb3:=below_then hb2 hb0
      go_wp2_with fail
      go_ret
      exact⟨by simp,hb3⟩
structure FtI(w w1:World)(g:Nat)(P:List UInt8)(a:Option Addr)(s:Rs)(W:World):Prop where
 inv:RdInv w1 W g P a s
 mb:Blk W w.heap.size 152 #[.int .u64 0,.int .i64 0,.int .i64 0,.int .u64 0,.int .u64 0,.int .i64 0,.int .i64 0]
 fb:Blk W (w.heap.size+1) 31 #[.int .i64 0,.int .i64 0]
 bl:Below w.heap.size w W
 lz:w.heap.size+1<g
section
variable {w w1 W W':World} {g:Nat} {P:List UInt8} {a:Option Addr} {s s':Rs}
theorem FtI.step(h:FtI w w1 g P a s W)(k:RdStep W g P a s' W'):FtI w w1 g P a s' W':=by
 have h1:=h.lz
 exact⟨h.inv.step k,h.mb.tch k.2 (by omega),h.fb.tch k.2 (by omega),h.bl.trans (k.2.to_below h.bl.size fun b hb e=>by omega),h1⟩
theorem FtI.row(h:FtI w w1 g P a s W)(hb:Below w1.heap.size W W'):FtI w w1 g P a s W':=by
 have h1:=h.lz
 have h2:=h.inv.lt
 exact⟨h.inv.row hb,h.mb.below hb (by omega),h.fb.below hb (by omega),h.bl.trans (hb.mono (by omega)),h1⟩
theorem FtI.later(h:FtI w w1 g P a s W)(hb:Below W.heap.size W W'):FtI w w1 g P a s W':=h.row (hb.mono h.inv.tch.size)
theorem f7_blk{t:TypeId}{g:Nat}{v0 v1 v2 v3 v4 v5 v6:Value}(h:Blk W g t #[v0,v1,v2,v3,v4,v5,v6]):W.cell? ⟨g,0,none⟩=some v0∧W.cell? ⟨g,1,none⟩=some v1∧W.cell? ⟨g,2,none⟩=some v2∧W.cell? ⟨g,3,none⟩=some v3∧W.cell? ⟨g,4,none⟩=some v4∧W.cell? ⟨g,5,none⟩=some v5∧W.cell? ⟨g,6,none⟩=some v6∧g<W.heap.size:=
 ⟨h.cell 0,h.cell 1,h.cell 2,h.cell 3,h.cell 4,h.cell 5,h.cell 6,h.lt⟩
theorem f7_free{t:TypeId}{g:Nat}{cs:Array Value}(h:Blk W g t cs):W.frozen? ⟨g,0,none⟩=false∧W.frozen? ⟨g,1,none⟩=false∧W.frozen? ⟨g,2,none⟩=false∧W.frozen? ⟨g,3,none⟩=false∧W.frozen? ⟨g,4,none⟩=false∧W.frozen? ⟨g,5,none⟩=false∧W.frozen? ⟨g,6,none⟩=false:=
 ⟨h.free 0,h.free 1,h.free 2,h.free 3,h.free 4,h.free 5,h.free 6⟩
end
set_option maxHeartbeats 12800000 in
theorem footer_readpayload(w:World)(P:List UInt8)(a:Option Addr)(n c:Nat)(hl:rBytes.r (·<w.heap.size) w [.slice a n c] P)(hP:P.length≤1000000000):
  Calls Tryz.prog 277 #[.slice a n c] w fun r w'=>r=.returned (.tuple #[.agg (footRd P).1.val,.agg #[.int .i64 (footRd P).2.1,.int .i64 (footRd P).2.2]])∧Below w.heap.size w w':=by
 obtain⟨rfl,hmx,hcc,hcm⟩:=sl_len hl
 have HN:=hid (fun (W:World) (hW:Below w.heap.size w W)=>rd_new W P a _ c (lift hl hW))
 have hFN:FootN (footS P).2:=by
  unfold footS
  dsimp only
  have hI:∀(s:Rs) (m:Nat),0≤((s.int P (m:Int)).2:Int)∧((s.int P (m:Int)).2:Int)≤(m:Int):=fun s m=>by
   have:=Rs.int_le (B:=P) (s:=s) (m:=(m:Int))
   omega
  have hU:∀s:Rs,inU ((s.num P).2:Int):=fun s=>by
   have:=Rs.num_small (B:=P) (s:=s)
   unfold inU
   omega
  exact⟨Rs.ep_u,hI _ 65536,hI _ 65536,hU _,hU _,hI _ 1099511627776,hI _ 1099511627776⟩
 have HRT:=hid (fun (W:World)=>footer_rightA (footS P).2 hFN W)
 clear hFN
 unfold footRd footE
 obtain⟨FB,hFB⟩:∃FB,FB=footRb (footS P).2:=⟨_,rfl⟩
 rw[←hFB] at HRT ⊢
 clear hFB
 generalize hfs:footS P=FS at*
 unfold footS at hfs
 dsimp only at hfs
 have HB:=hid (fun (W:World) (g:Nat) (hW:RdAt W g P a ⟨0,0,0⟩)=>rd_byte W hW)
 generalize (⟨0,0,0⟩:Rs).byte P=U at*
 obtain⟨s1,y⟩:=U
 dsimp only at*
 have hy:=y.toNat_lt
 have HF1:=hid (fun (W:World) (g:Nat) (hW:RdAt W g P a s1)=>rd_fail W hW 7 0 (by decide))
 have hy3:(y=3)=(y.toNat=3):=by
  apply propext
  constructor
  ·rintro rfl
   rfl
  ·intro h
   exact UInt8.toNat_inj.1 h
 simp only[hy3] at hfs
 clear hy3
 generalize y.toNat=yn at*
 generalize hs2:(if yn=3 then s1 else s1.fail 7 0)=s2 at*
 have HS2:=hid hs2
 clear hs2
 have HE:=hid (fun (W:World) (g:Nat) (hW:RdAt W g P a s2)=>epoch_read W hW hP)
 generalize s2.ep P=X2 at*
 obtain⟨s3,e⟩:=X2
 dsimp only at*
 have HM1:=hid (fun (W:World) (g:Nat) (hW:RdAt W g P a s3)=>varint_int W hW (by omega) 65536 (by decide))
 generalize s3.int P 65536=X3 at*
 obtain⟨s4,m1⟩:=X3
 dsimp only at*
 have HM2:=hid (fun (W:World) (g:Nat) (hW:RdAt W g P a s4)=>varint_int W hW (by omega) 65536 (by decide))
 generalize s4.int P 65536=X4 at*
 obtain⟨s5,m2⟩:=X4
 dsimp only at*
 have HM3:=hid (fun (W:World) (g:Nat) (hW:RdAt W g P a s5)=>varint_read W hW (by omega))
 generalize s5.num P=X5 at*
 obtain⟨s6,m3⟩:=X5
 dsimp only at*
 have HM4:=hid (fun (W:World) (g:Nat) (hW:RdAt W g P a s6)=>varint_read W hW (by omega))
 generalize s6.num P=X6 at*
 obtain⟨s7,m4⟩:=X6
 dsimp only at*
 have HM5:=hid (fun (W:World) (g:Nat) (hW:RdAt W g P a s7)=>varint_int W hW (by omega) 1099511627776 (by decide))
 generalize s7.int P 1099511627776=X7 at*
 obtain⟨s8,m5⟩:=X7
 dsimp only at*
 have HM6:=hid (fun (W:World) (g:Nat) (hW:RdAt W g P a s8)=>varint_int W hW (by omega) 1099511627776 (by decide))
 generalize s8.int P 1099511627776=X8 at*
 obtain⟨s9,m6⟩:=X8
 dsimp only at*
 subst hfs
 dsimp only[FootD.val] at*
 have HFL9:=hid (fun (W:World) (g:Nat) (hW:RdAt W g P a s9)=>rd_fail W hW 3 0 (by decide))
 obtain⟨s10,hs10⟩:∃s10,s10=if FB=true then s9 else s9.fail 3 0:=⟨_,rfl⟩
 rw[←hs10]
 have HS10:=hid hs10
 have HEND:=hid (fun (W:World) (g:Nat) (hW:RdAt W g P a s10)=>rd_end W hW)
 generalize s10.fin P.length=s11 at*
 have HFT:=hid (fun (W:World) (g:Nat) (hW:RdAt W g P a s11)=>rd_fault W hW)
 have HGD:=hid (fun (W:World)=>fault_good W s11.k s11.f)
 obtain⟨R,hR⟩:∃R:FootD × Int × Int,R=(if s11.k=0 then ((⟨e,m1,m2,m3,m4,m5,m6⟩:FootD),0,0) else (footZ0,s11.k,s11.f)):=⟨_,rfl⟩
 rw[←hR]
 have HRS:=hid hR
 clear hl hs10 hR
 go_enter Tryz.func277,Tryz.ntmps277
 go_upto_region 1 with (fail)
 have hM0:Blk ((w.alloc (.cells #[.int .u64 0,.int .i64 0,.int .i64 0,.int .u64 0,.int .u64 0,.int .i64 0,.int .i64 0] 152)).alloc (.cells #[.int .i64 0,.int .i64 0] 31)) w.heap.size 152 #[.int .u64 0,.int .i64 0,.int .i64 0,.int .u64 0,.int .u64 0,.int .i64 0,.int .i64 0]:=by (repeat (first | assumption | exact Blk.newAt _ _ _ (by first | (simp;done) | (simp;omega)) | refine Blk.alloc ?_ _ | refine Blk.drew ?_ | refine Blk.drewN ?_ _ | refine Blk.far ?_ (by first | (simp;done) | (simp;omega)) _))
 have hF0:Blk ((w.alloc (.cells #[.int .u64 0,.int .i64 0,.int .i64 0,.int .u64 0,.int .u64 0,.int .i64 0,.int .i64 0] 152)).alloc (.cells #[.int .i64 0,.int .i64 0] 31)) (w.heap.size+1) 31 #[.int .i64 0,.int .i64 0]:=by (repeat (first | assumption | exact Blk.newAt _ _ _ (by first | (simp;done) | (simp;omega)) | refine Blk.alloc ?_ _ | refine Blk.drew ?_ | refine Blk.drewN ?_ _ | refine Blk.far ?_ (by first | (simp;done) | (simp;omega)) _))
 have hb0:Below w.heap.size w ((w.alloc (.cells #[.int .u64 0,.int .i64 0,.int .i64 0,.int .u64 0,.int .u64 0,.int .i64 0,.int .i64 0] 152)).alloc (.cells #[.int .i64 0,.int .i64 0] 31)):=by (repeat (first | with_reducible exact Below.refl _ _ | with_reducible assumption | (with_reducible refine below_alloc ?_ _) | (with_reducible refine Below.setCell ?_ (by first | omega | (simp;done) | (simp;omega)) _) | (with_reducible refine Below.drew ?_) | (with_reducible refine below_drewN ?_ _) | (refine below_then (by with_reducible assumption) ?_)))
 have hz0:w.heap.size+1<((w.alloc (.cells #[.int .u64 0,.int .i64 0,.int .i64 0,.int .u64 0,.int .u64 0,.int .i64 0,.int .i64 0] 152)).alloc (.cells #[.int .i64 0,.int .i64 0] 31)).heap.size:=by simp
 generalize ((w.alloc (.cells #[.int .u64 0,.int .i64 0,.int .i64 0,.int .u64 0,.int .u64 0,.int .i64 0,.int .i64 0] 152)).alloc (.cells #[.int .i64 0,.int .i64 0] 31))=w0 at*
 go_wp2_with fail
 refine (HN.out w0 hb0).mono ?_
 rintro r w1 ⟨rfl,hrd,hb1⟩
 have hI1:FtI w w1 w0.heap.size P a ⟨0,0,0⟩ w1:=⟨RdInv.refl hrd,hM0.later hb1,hF0.later hb1,below_then hb1 hb0,hz0⟩
 have HI1:=hid hI1
 generalize w0.heap.size=g at*
 clear hI1 hM0 hF0 hb0 hz0 hrd hb1 HN
 go_wp2_with fail
 refine (HB.out _ _ HI1.out.inv.rd).mono ?_
 rintro r w2 ⟨rfl,hst2⟩
 have HI2:=hid (HI1.out.step hst2)
 clear hst2 HI1 HB
 go_upto_if 11 with (fail)
 go_cut [] from 11 to 13 (fun V=>Hid (FtI w w1 g P a s2 V))
 case first=>
  by_cases hyn:yn=3
  ·have hs2:=HS2.out
   rw[if_pos hyn] at hs2
   have d1:((yn:Int) !=(3:Int))=false:=by simp[hyn]
   subst hs2
   clear hyn
   go_wp2_with fail
   go_meet
   case rel=>exact HI2
  ·have hs2:=HS2.out
   rw[if_neg hyn] at hs2
   have d1:((yn:Int) !=(3:Int))=true:=by simp;omega
   rw[hs2] at HF1
   clear hyn
   go_wp2_with fail
   refine (HF1.out _ _ HI2.out.inv.rd).mono ?_
   rintro r w3 ⟨rfl,hst3⟩
   have HI3:=hid (HI2.out.step hst3)
   go_wp2_with fail
   go_meet
   case rel=>exact HI3
 case rest=>
  have HI3:=hcut
  clear HI2 HF1 HS2
  go_wp2_with fail
  refine (HE.out _ _ HI3.out.inv.rd).mono ?_
  rintro r w4 ⟨rfl,hst4⟩
  have HI4:=hid (HI3.out.step hst4)
  have HI5:=hid (HI4.out.later (show Below w4.heap.size w4 (w4.alloc (.cells #[.int .u64 (e:Int),.int .i64 0,.int .i64 0,.int .u64 0,.int .u64 0,.int .i64 0,.int .i64 0] 152)) by (repeat (first | with_reducible exact Below.refl _ _ | with_reducible assumption | (with_reducible refine below_alloc ?_ _) | (with_reducible refine Below.setCell ?_ (by first | omega | (simp;done) | (simp;omega)) _) | (with_reducible refine Below.drew ?_) | (with_reducible refine below_drewN ?_ _) | (refine below_then (by with_reducible assumption) ?_)))))
  have HG5:Hid (Blk (w4.alloc (.cells #[.int .u64 (e:Int),.int .i64 0,.int .i64 0,.int .u64 0,.int .u64 0,.int .i64 0,.int .i64 0] 152)) w4.heap.size 152 #[.int .u64 (e:Int),.int .i64 0,.int .i64 0,.int .u64 0,.int .u64 0,.int .i64 0,.int .i64 0]):=hid (Blk.new _ _ _)
  have hgf:w1.heap.size≤w4.heap.size:=HI4.out.inv.tch.size
  have hgl:g<w1.heap.size:=HI4.out.inv.lt
  have hlz:w.heap.size+1<g:=HI4.out.lz
  go_upto_region 5 with (fail)
  generalize (w4.alloc (.cells #[.int .u64 (e:Int),.int .i64 0,.int .i64 0,.int .u64 0,.int .u64 0,.int .i64 0,.int .i64 0] 152))=w5 at*
  generalize w4.heap.size=gf at*
  clear HI3 HI4 hst4
  go_wp2_with fail
  refine (HM1.out _ _ HI5.out.inv.rd).mono ?_
  rintro r u1 ⟨rfl,hst⟩
  have HJ:=hid (HI5.out.step hst)
  have HK:=hid (HG5.out.tch hst.2 (by omega))
  clear hst HI5 HG5
  go_wp2_with fail
  refine (HM2.out _ _ HJ.out.inv.rd).mono ?_
  rintro r u2 ⟨rfl,hst⟩
  have HJ2:=hid (HJ.out.step hst)
  have HK2:=hid (HK.out.tch hst.2 (by omega))
  obtain⟨y0,y1,y2,y3,y4,y5,y6,ly⟩:=f7_blk HK2.out
  obtain⟨z0,z1,z2,z3,z4,z5,z6⟩:=f7_free HK2.out
  clear hst HJ HK
  go_upto_region 6 with (fail)
  have HI6:=hid (HJ2.out.row (show Below w1.heap.size u2 ((u2.setCell ⟨gf,1,none⟩ (.int .i64 (m1:Int))).setCell ⟨gf,2,none⟩ (.int .i64 (m2:Int))) from (Below.refl _ _ |>.setCell (by dsimp only;omega) _).setCell (by dsimp only;omega) _))
  have HG6:Hid (Blk ((u2.setCell ⟨gf,1,none⟩ (.int .i64 (m1:Int))).setCell ⟨gf,2,none⟩ (.int .i64 (m2:Int))) gf 152 #[.int .u64 (e:Int),.int .i64 (m1:Int),.int .i64 (m2:Int),.int .u64 0,.int .u64 0,.int .i64 0,.int .i64 0]):=hid ((HK2.out.set 1 _).set 2 _)
  generalize ((u2.setCell ⟨gf,1,none⟩ (.int .i64 (m1:Int))).setCell ⟨gf,2,none⟩ (.int .i64 (m2:Int)))=w6 at*
  clear y0 y1 y2 y3 y4 y5 y6 ly z0 z1 z2 z3 z4 z5 z6 HJ2 HK2
  go_wp2_with fail
  refine (HM3.out _ _ HI6.out.inv.rd).mono ?_
  rintro r u1 ⟨rfl,hst⟩
  have HJ:=hid (HI6.out.step hst)
  have HK:=hid (HG6.out.tch hst.2 (by omega))
  clear hst HI6 HG6
  go_wp2_with fail
  refine (HM4.out _ _ HJ.out.inv.rd).mono ?_
  rintro r u2 ⟨rfl,hst⟩
  have HJ2:=hid (HJ.out.step hst)
  have HK2:=hid (HK.out.tch hst.2 (by omega))
  obtain⟨y0,y1,y2,y3,y4,y5,y6,ly⟩:=f7_blk HK2.out
  obtain⟨z0,z1,z2,z3,z4,z5,z6⟩:=f7_free HK2.out
  clear hst HJ HK
  go_upto_region 7 with (fail)
  have HI7:=hid (HJ2.out.row (show Below w1.heap.size u2 ((u2.setCell ⟨gf,3,none⟩ (.int .u64 (m3:Int))).setCell ⟨gf,4,none⟩ (.int .u64 (m4:Int))) from (Below.refl _ _ |>.setCell (by dsimp only;omega) _).setCell (by dsimp only;omega) _))
  have HG7:Hid (Blk ((u2.setCell ⟨gf,3,none⟩ (.int .u64 (m3:Int))).setCell ⟨gf,4,none⟩ (.int .u64 (m4:Int))) gf 152 #[.int .u64 (e:Int),.int .i64 (m1:Int),.int .i64 (m2:Int),.int .u64 (m3:Int),.int .u64 (m4:Int),.int .i64 0,.int .i64 0]):=hid ((HK2.out.set 3 _).set 4 _)
  generalize ((u2.setCell ⟨gf,3,none⟩ (.int .u64 (m3:Int))).setCell ⟨gf,4,none⟩ (.int .u64 (m4:Int)))=w7 at*
  clear y0 y1 y2 y3 y4 y5 y6 ly z0 z1 z2 z3 z4 z5 z6 HJ2 HK2
  go_wp2_with fail
  refine (HM5.out _ _ HI7.out.inv.rd).mono ?_
  rintro r u1 ⟨rfl,hst⟩
  have HJ:=hid (HI7.out.step hst)
  have HK:=hid (HG7.out.tch hst.2 (by omega))
  clear hst HI7 HG7
  go_wp2_with fail
  refine (HM6.out _ _ HJ.out.inv.rd).mono ?_
  rintro r u2 ⟨rfl,hst⟩
  have HJ2:=hid (HJ.out.step hst)
  have HK2:=hid (HK.out.tch hst.2 (by omega))
  obtain⟨y0,y1,y2,y3,y4,y5,y6,ly⟩:=f7_blk HK2.out
  obtain⟨z0,z1,z2,z3,z4,z5,z6⟩:=f7_free HK2.out
  clear hst HJ HK
  go_upto_region 8 with (fail)
  have HI8:=hid (HJ2.out.row (show Below w1.heap.size u2 ((u2.setCell ⟨gf,5,none⟩ (.int .i64 (m5:Int))).setCell ⟨gf,6,none⟩ (.int .i64 (m6:Int))) from (Below.refl _ _ |>.setCell (by dsimp only;omega) _).setCell (by dsimp only;omega) _))
  have HG8:Hid (Blk ((u2.setCell ⟨gf,5,none⟩ (.int .i64 (m5:Int))).setCell ⟨gf,6,none⟩ (.int .i64 (m6:Int))) gf 152 #[.int .u64 (e:Int),.int .i64 (m1:Int),.int .i64 (m2:Int),.int .u64 (m3:Int),.int .u64 (m4:Int),.int .i64 (m5:Int),.int .i64 (m6:Int)]):=hid ((HK2.out.set 5 _).set 6 _)
  generalize ((u2.setCell ⟨gf,5,none⟩ (.int .i64 (m5:Int))).setCell ⟨gf,6,none⟩ (.int .i64 (m6:Int)))=w8 at*
  clear y0 y1 y2 y3 y4 y5 y6 ly z0 z1 z2 z3 z4 z5 z6 HJ2 HK2
  obtain⟨y0,y1,y2,y3,y4,y5,y6,ly⟩:=f7_blk HG8.out
  go_wp2_with fail
  refine (HRT.out _).mono ?_
  rintro r w9 ⟨rfl,hb9⟩
  have HI9:=hid (HI8.out.later hb9)
  have HG9:=hid (HG8.out.later hb9)
  clear y0 y1 y2 y3 y4 y5 y6 ly hb9 HI8 HG8 HRT
  go_upto_if 37 with (fail)
  go_cut [] from 38 to 39 (fun V=>Hid (FtI w w1 g P a s10 V)∧Hid (Blk V gf 152 #[.int .u64 (e:Int),.int .i64 (m1:Int),.int .i64 (m2:Int),.int .u64 (m3:Int),.int .u64 (m4:Int),.int .i64 (m5:Int),.int .i64 (m6:Int)]))
  case first=>
   cases FB
   ·have hs10:=HS10.out
    simp only[Bool.false_eq_true,if_false] at hs10
    rw[←hs10] at HFL9
    go_wp2_with fail
    refine (HFL9.out _ _ HI9.out.inv.rd).mono ?_
    rintro r w10 ⟨rfl,hst10⟩
    have HI10:=hid (HI9.out.step hst10)
    have HG10:=hid (HG9.out.tch hst10.2 (by omega))
    go_wp2_with fail
    go_meet
    case rel=>exact ⟨HI10,HG10⟩
   ·have hs10:=HS10.out
    simp only[if_true] at hs10
    subst hs10
    go_wp2_with fail
    go_meet
    case rel=>exact ⟨HI9,HG9⟩
  case rest=>
   obtain⟨HI10,HG10⟩:=hcut
   clear HI9 HG9 HFL9 HS10
   go_wp2_with fail
   refine (HEND.out _ _ HI10.out.inv.rd).mono ?_
   rintro r w11 ⟨rfl,hst11⟩
   have HI11:=hid (HI10.out.step hst11)
   have HG11:=hid (HG10.out.tch hst11.2 (by omega))
   clear hst11 HI10 HG10
   go_wp2_with fail
   refine (HFT.out _ _ HI11.out.inv.rd).mono ?_
   rintro r w12 ⟨rfl,hb12⟩
   have hb13:Below w12.heap.size w12 (w12.alloc (.cells #[.int .i64 s11.k,.int .i64 s11.f] 31)):=by (repeat (first | with_reducible exact Below.refl _ _ | with_reducible assumption | (with_reducible refine below_alloc ?_ _) | (with_reducible refine Below.setCell ?_ (by first | omega | (simp;done) | (simp;omega)) _) | (with_reducible refine Below.drew ?_) | (with_reducible refine below_drewN ?_ _) | (refine below_then (by with_reducible assumption) ?_)))
   have HI13:=hid ((HI11.out.later hb12).later hb13)
   have HG13:=hid ((HG11.out.later hb12).later hb13)
   have HX13:Hid (Blk (w12.alloc (.cells #[.int .i64 s11.k,.int .i64 s11.f] 31)) w12.heap.size 31 #[.int .i64 s11.k,.int .i64 s11.f]):=hid (Blk.new _ _ _)
   have hx12:w1.heap.size≤w12.heap.size:=by have:=HI11.out.inv.tch.size;have:=hb12.size;omega
   clear HI11 HG11 hb12 hb13
   go_upto_region 12 with (fail)
   generalize (w12.alloc (.cells #[.int .i64 s11.k,.int .i64 s11.f] 31))=w13 at*
   generalize w12.heap.size=gx at*
   obtain⟨x0,x1,x2,x3,lx⟩:=f_blk HX13.out
   by_cases hk:s11.k=0
   ·rw[decide_eq_true hk] at HGD
    have hr:=HRS.out
    rw[if_pos hk] at hr
    subst hr
    (try dsimp only)
    clear hk
    go_wp2_with fail
    refine (HGD.out _).mono ?_
    rintro r w14 ⟨rfl,hb14⟩
    have HI14:=HI13.out.later hb14
    have HG14:=HG13.out.later hb14
    obtain⟨y0,y1,y2,y3,y4,y5,y6,ly⟩:=f7_blk HG14
    obtain⟨m0,m1',m2',m3',m4',m5',m6',lm⟩:=f7_blk HI14.mb
    obtain⟨z0,z1,z2,z3,z4,z5,z6⟩:=f7_free HI14.mb
    obtain⟨q0,q1,q2,q3,lq⟩:=f_blk HI14.fb
    have hbl:=HI14.bl
    clear hb14 x0 x1 x2 x3 lx HI14 HG14
    go_wp2_with fail
    refine bodyPost_ret (v:=.tuple #[.agg #[.int .u64 (e:Int),.int .i64 (m1:Int),.int .i64 (m2:Int),.int .u64 (m3:Int),.int .u64 (m4:Int),.int .i64 (m5:Int),.int .i64 (m6:Int)],.agg #[.int .i64 0,.int .i64 0]]) (by simp[results,Tryz.results277,go_sem,m0,m1',m2',m3',m4',m5',m6',q0,q1,lm,lq]) rfl ⟨rfl,by (repeat (first | with_reducible exact Below.refl _ _ | with_reducible assumption | (with_reducible refine below_alloc ?_ _) | (with_reducible refine Below.setCell ?_ (by first | omega | (simp;done) | (simp;omega)) _) | (with_reducible refine Below.drew ?_) | (with_reducible refine below_drewN ?_ _) | (refine below_then (by with_reducible assumption) ?_)))⟩
   ·rw[decide_eq_false hk] at HGD
    have hr:=HRS.out
    rw[if_neg hk] at hr
    subst hr
    (try dsimp only[footZ0])
    clear hk
    go_wp2_with fail
    refine (HGD.out _).mono ?_
    rintro r w14 ⟨rfl,hb14⟩
    have HI14:=HI13.out.later hb14
    have HX14:=HX13.out.later hb14
    clear x0 x1 x2 x3 lx
    obtain⟨x0,x1,x2,x3,lx⟩:=f_blk HX14
    obtain⟨m0,m1',m2',m3',m4',m5',m6',lm⟩:=f7_blk HI14.mb
    obtain⟨z0,z1,z2,z3,z4,z5,z6⟩:=f7_free HI14.mb
    obtain⟨q0,q1,q2,q3,lq⟩:=f_blk HI14.fb
    have hbl:=HI14.bl
    clear hb14 HI14 HX14
    go_wp2_with fail
    go_region
    all_goals
     go_wp2
     refine bodyPost_ret (v:=.tuple #[.agg #[.int .u64 0,.int .i64 0,.int .i64 0,.int .u64 0,.int .u64 0,.int .i64 0,.int .i64 0],.agg #[.int .i64 s11.k,.int .i64 s11.f]]) (by simp[results,Tryz.results277,go_sem,m0,m1',m2',m3',m4',m5',m6',q0,q1,lm,lq]) rfl ⟨rfl,by (repeat (first | with_reducible exact Below.refl _ _ | with_reducible assumption | (with_reducible refine below_alloc ?_ _) | (with_reducible refine Below.setCell ?_ (by first | omega | (simp;done) | (simp;omega)) _) | (with_reducible refine Below.drew ?_) | (with_reducible refine below_drewN ?_ _) | (refine below_then (by with_reducible assumption) ?_)))⟩
def Ev.x(e:Ev):EvX:=⟨e.kind,e.at_,e.code,e.msg,noBatch⟩
theorem Blk.row{W:World}{E:Nat}{t:TypeId}{cs:Array Value}(ds:Array Value)(h:Blk W E t cs):Blk (W.setRow E ds) E t ds:=setRow_heap W E cs ds t (0,0) h
theorem Tch.row(W:World)(E:Nat)(ds:Array Value):Tch (·=E) W (W.setRow E ds):=⟨rfl,rfl,rfl,by simp,fun b _ hf=>setRow_other W E b ds hf⟩
structure FfI(w W:World):Prop where
 rb:Blk W w.heap.size 152 #[.int .u64 0,.int .i64 0,.int .i64 0,.int .u64 0,.int .u64 0,.int .i64 0,.int .i64 0]
 fb:Blk W (w.heap.size+1) 31 #[.int .i64 0,.int .i64 0]
 bl:Below w.heap.size w W
theorem FfI.later{w W W':World}(h:FfI w W)(hb:Below W.heap.size W W'):FfI w W':=⟨h.rb.later hb,h.fb.later hb,below_then hb h.bl⟩
theorem FfI.lo{w W W':World}{lo:Nat}(h:FfI w W)(hb:Below lo W W')(hl:w.heap.size+2≤lo):FfI w W':=⟨h.rb.below hb (by omega),h.fb.below hb (by omega),h.bl.trans (hb.mono (by omega))⟩
theorem footer_find(w:World)(B:List UInt8)(a:Option Addr)(n c:Nat)(hl:rBytes.r (·<w.heap.size) w [.slice a n c] B)(hB:B.length≤1000000000):
  Calls Tryz.prog 229 #[.slice a n c] w fun r w'=>r=.returned (.tuple #[.agg (footF B).1.val,.int .i64 ((footF B).2.1:Int),.agg #[.int .i64 (footF B).2.2.1,.int .i64 (footF B).2.2.2]])∧Below w.heap.size w w':=by
 obtain⟨rfl,hmx,hcc,hcm⟩:=sl_len hl
 have HS:=hid (fun (W:World) (hW:Below w.heap.size w W)=>trail_size W B a _ c (lift hl hW) hB)
 have HTS:=hid (fun (W:World)=>footer_size W)
 have htk:=trailN_ok (B:=B)
 obtain⟨RES,hRES⟩:∃RES,RES=footF B:=⟨_,rfl⟩
 rw[←hRES]
 unfold footF at hRES
 dsimp only at hRES
 generalize trailN B=t at*
 obtain⟨tn,tk,tf⟩:=t
 dsimp only at*
 have I0:FfI w ((w.alloc (.cells #[.int .u64 0,.int .i64 0,.int .i64 0,.int .u64 0,.int .u64 0,.int .i64 0,.int .i64 0] 152)).alloc (.cells #[.int .i64 0,.int .i64 0] 31)):=⟨by (repeat (first | assumption | exact Blk.newAt _ _ _ (by first | (simp;done) | (simp;omega)) | refine Blk.alloc ?_ _ | refine Blk.drew ?_ | refine Blk.drewN ?_ _ | refine Blk.far ?_ (by first | (simp;done) | (simp;omega)) _)),by (repeat (first | assumption | exact Blk.newAt _ _ _ (by first | (simp;done) | (simp;omega)) | refine Blk.alloc ?_ _ | refine Blk.drew ?_ | refine Blk.drewN ?_ _ | refine Blk.far ?_ (by first | (simp;done) | (simp;omega)) _)),by (repeat (first | with_reducible exact Below.refl _ _ | with_reducible assumption | (with_reducible refine below_alloc ?_ _) | (with_reducible refine Below.setCell ?_ (by first | omega | (simp;done) | (simp;omega)) _) | (with_reducible refine Below.drew ?_) | (with_reducible refine below_drewN ?_ _) | (refine below_then (by with_reducible assumption) ?_)))⟩
 have hz0:w.heap.size+1<((w.alloc (.cells #[.int .u64 0,.int .i64 0,.int .i64 0,.int .u64 0,.int .u64 0,.int .i64 0,.int .i64 0] 152)).alloc (.cells #[.int .i64 0,.int .i64 0] 31)).heap.size:=by simp
 have HI0:=hid I0
 clear I0
 by_cases hk:tk=0
 ·subst hk
  rw[if_pos rfl] at hRES
  obtain⟨h12,htn⟩:=htk rfl
  obtain⟨e,he⟩:∃e:Nat,B.length=e+12:=⟨B.length-12,by omega⟩
  obtain⟨p,hp⟩:∃p:Nat,e=p+tn:=⟨e-tn,by omega⟩
  rw[show B.length-12=e by omega,show e-tn=p by omega] at hRES
  obtain⟨aD,cD,hsl,hsub⟩:=cut_bytes hl (lo:=p) (hi:=e) (by omega) (by omega)
  rw[show (B.take e).drop p=(B.drop p).take (e-p) from List.drop_take ..] at hRES
  have hDl:((B.drop p).take (e-p)).length=e-p:=by simp;omega
  generalize (B.drop p).take (e-p)=D at*
  rw[←hDl] at hsl hsub
  rw[show (p:Int)=(B.length:Int)-12-(tn:Int) by omega,show (e:Int)=(B.length:Int)-12 by omega] at hsl
  have HFG:=hid (fun (W:World) (hW:Below w.heap.size w W)=>frame_get W D aD _ cD (lift hsub hW) (by omega) 2097152 (by decide))
  have hfit:=Rs.frame_fit (B:=D) (Rs.zero_fit D.length) 2097152
  have hfc:=fun (P:List UInt8) (t:Rs) (h:(⟨0,0,0⟩:Rs).frame D 2097152=(t,P)) (hk:t.k=0)=>Rs.frame_canon (Rs.zero_fit D.length) h hk
  unfold getR at HFG
  generalize (⟨0,0,0⟩:Rs).frame D 2097152=F at*
  obtain⟨s1,P⟩:=F
  dsimp only at*
  have hfc:=hfc P s1 rfl
  have hsp:=hfit.ok.le
  have hsf:=hfit.inn
  unfold Rs.inn at hsf
  by_cases hk1:s1.k=0
  ·rw[if_pos hk1] at hRES HFG
   have hPl:P.length≤2097152:=(hfc hk1).2.2.1
   clear hfc hfit htk hl hsub hk1
   dsimp only at HFG
   by_cases hlt:s1.p<tn
   ·rw[if_pos hlt] at hRES
    have d1:decide ((s1.p:Int)<(tn:Int))=true:=decide_eq_true (by omega)
    have d2:decide (s1.p<tn)=true:=decide_eq_true hlt
    have HFA:=hid (fun (W:World)=>fault_at W 9 ((B.length:Int)-12-(tn:Int)+(s1.p:Int)) (by decide))
    rw[show (p:Int)+(s1.p:Int)=(B.length:Int)-12-(tn:Int)+(s1.p:Int) by omega] at hRES
    have HRES:=hid hRES
    clear hRES hlt
    have hbb:(0:Int)≤(B.length:Int)-12-(tn:Int):=by omega
    have hDb:D.length≤1000000000:=by omega
    (try clear hpe)
    clear he hp hDl h12 htn
    go_enter Tryz.func229,Tryz.ntmps229
    go_upto_region 1 with (fail)
    generalize ((w.alloc (.cells #[.int .u64 0,.int .i64 0,.int .i64 0,.int .u64 0,.int .u64 0,.int .i64 0,.int .i64 0] 152)).alloc (.cells #[.int .i64 0,.int .i64 0] 31))=w0 at*
    have HGD:=hid (fun (W:World)=>fault_good W 0 tf)
    rw[show decide ((0:Int)=0)=true from rfl] at HGD
    go_wp2_with fail
    refine (HS.out _ HI0.out.bl).mono ?_
    rintro r w1 ⟨rfl,hb1⟩
    have hbx:Below w1.heap.size w1 (w1.alloc (.cells #[.int .i64 0,.int .i64 tf] 31)):=by (repeat (first | with_reducible exact Below.refl _ _ | with_reducible assumption | (with_reducible refine below_alloc ?_ _) | (with_reducible refine Below.setCell ?_ (by first | omega | (simp;done) | (simp;omega)) _) | (with_reducible refine Below.drew ?_) | (with_reducible refine below_drewN ?_ _) | (refine below_then (by with_reducible assumption) ?_)))
    have HI:=hid ((HI0.out.later hb1).later hbx)
    have HX:Hid (Blk (w1.alloc (.cells #[.int .i64 0,.int .i64 tf] 31)) w1.heap.size 31 #[.int .i64 0,.int .i64 tf]):=hid (Blk.new _ _ _)
    have hgx:w.heap.size+1<w1.heap.size:=Nat.lt_of_lt_of_le hz0 hb1.size
    clear hb1 hbx HI0 HS
    obtain⟨x0,x1,x2,x3,lx⟩:=f_blk HX.out
    go_upto_region 2 with (fail)
    generalize (w1.alloc (.cells #[.int .i64 0,.int .i64 tf] 31))=w2 at*
    generalize w1.heap.size=gx at*
    go_wp2_with fail
    refine (HGD.out _).mono ?_
    rintro r w3 ⟨rfl,hb3⟩
    have HI3:=hid (HI.out.later hb3)
    have HX3:=hid (HX.out.later hb3)
    clear x0 x1 x2 x3 lx HX HI HGD hb3
    obtain⟨x0,x1,x2,x3,lx⟩:=f_blk HX3.out
    go_wp2_with fail
    refine (HTS.out _).mono ?_
    rintro r w3' ⟨rfl,rfl⟩
    go_wp2_with fail
    refine (HFG.out _ HI3.out.bl).mono ?_
    rintro r w4 ⟨v4,rfl,hr4,hb4⟩
    obtain⟨a4,c4,hv4,hr4',_⟩:=sl_form hr4
    simp only[List.cons.injEq,and_true] at hv4
    subst hv4
    have HI4:=hid (HI3.out.later hb4)
    have HX4:=hid (HX3.out.later hb4)
    have hz4:=HX3.out.lt
    have HP4:=hid hr4'
    clear x0 x1 x2 x3 lx HX3 HI3 HFG hb4 hr4 hr4'
    obtain⟨x0,x1,x2,x3,lx⟩:=f_blk HX4.out
    go_upto_region 7 with (fail)
    refine wp_world (fun W=>FfI w W∧Blk W gx 31 #[.int .i64 0,.int .i64 0]∧rBytes.r (·<W.heap.size) W [.slice a4 P.length c4] P) ⟨HI4.out.lo (lo:=gx) (by (repeat (first | with_reducible exact Below.refl _ _ | with_reducible assumption | (with_reducible refine below_alloc ?_ _) | (with_reducible refine Below.setCell ?_ (by first | omega | (simp;done) | (simp;omega)) _) | (with_reducible refine Below.drew ?_) | (with_reducible refine below_drewN ?_ _) | (refine below_then (by with_reducible assumption) ?_)))) hgx,(HX4.out.set 0 _).set 1 _,rBytes.mono (rBytes.keep HP4.out fun q hq=>by repeat (rw[Below.heap_setCell _ _ _ _ (by dsimp only;omega)])) fun q hq=>by simp[World.setCell];exact hq.2⟩ ?_
    intro w5 ⟨hI5,hX5,hP5⟩
    have HI5:=hid hI5
    have HX5:=hid hX5
    have HP5:=hid hP5
    clear hI5 hX5 hP5 x0 x1 x2 x3 lx HX4 HI4 HP4 hz4
    obtain⟨x0,x1,x2,x3,lx⟩:=f_blk HX5.out
    have HGE:=hid (fun (W:World)=>fault_good W 0 0)
    rw[show decide ((0:Int)=0)=true from rfl] at HGE
    go_wp2_with fail
    refine (HGE.out _).mono ?_
    rintro r w6 ⟨rfl,hb6⟩
    have HI:=hid (HI5.out.later hb6)
    have HX:=hid (HX5.out.later hb6)
    have HPB:=hid (lift HP5.out hb6)
    clear x0 x1 x2 x3 lx HX5 HI5 HP5 HGE hb6
    obtain⟨x0,x1,x2,x3,lx⟩:=f_blk HX.out
    go_wp2_with fail
    refine (HFA.out _).mono ?_
    rintro r w9 ⟨rfl,hb9⟩
    have I9:=HI.out.later hb9
    obtain⟨m0,m1,m2,m3,m4,m5,m6,lm⟩:=f7_blk I9.rb
    obtain⟨z0,z1,z2,z3,z4,z5,z6⟩:=f7_free I9.rb
    obtain⟨q0,q1,q2,q3,lq⟩:=f_blk I9.fb
    have hbl:=I9.bl
    clear I9 hb9 x0 x1 x2 x3 lx
    go_wp2_with fail
    all_goals refine bodyPost_ret (v:=.tuple #[.agg #[.int .u64 0,.int .i64 0,.int .i64 0,.int .u64 0,.int .u64 0,.int .i64 0,.int .i64 0],.int .i64 0,.agg #[.int .i64 (9),.int .i64 ((B.length:Int)-12-(tn:Int)+(s1.p:Int))]]) (by simp[results,Tryz.results229,go_sem,m0,m1,m2,m3,m4,m5,m6,q0,q1,lm,lq]) rfl ⟨by rw[HRES.out];rfl,by (repeat (first | with_reducible exact Below.refl _ _ | with_reducible assumption | (with_reducible refine below_alloc ?_ _) | (with_reducible refine Below.setCell ?_ (by first | omega | (simp;done) | (simp;omega)) _) | (with_reducible refine Below.drew ?_) | (with_reducible refine below_drewN ?_ _) | (refine below_then (by with_reducible assumption) ?_)))⟩
   ·rw[if_neg hlt] at hRES
    have d1:decide ((s1.p:Int)<(tn:Int))=false:=decide_eq_false (by omega)
    have d2:decide (s1.p<tn)=false:=decide_eq_false hlt
    have HRP:=hid (fun (W:World) (aP:Option Addr) (nP cP:Nat) (h:rBytes.r (·<W.heap.size) W [.slice aP nP cP] P)=>footer_readpayload W P aP nP cP h (by omega))
    have hin:=footRd_in P
    generalize footRd P=R at*
    obtain⟨f,fk,ff⟩:=R
    dsimp only at*
    by_cases hfk:fk=0
    ·rw[if_pos hfk] at hRES
     subst hfk
     have HRES:=hid hRES
     have hpe:(p:Int)=(B.length:Int)-12-(tn:Int):=by omega
     have HPE:=hid hpe
     clear hRES hlt hin hpe
     obtain⟨ep,fn,en,fi,fe,fa,fs⟩:=f
     dsimp only[FootD.val] at*
     have hbb:(0:Int)≤(B.length:Int)-12-(tn:Int):=by omega
     have hDb:D.length≤1000000000:=by omega
     (try clear hpe)
     clear he hp hDl h12 htn
     go_enter Tryz.func229,Tryz.ntmps229
     go_upto_region 1 with (fail)
     generalize ((w.alloc (.cells #[.int .u64 0,.int .i64 0,.int .i64 0,.int .u64 0,.int .u64 0,.int .i64 0,.int .i64 0] 152)).alloc (.cells #[.int .i64 0,.int .i64 0] 31))=w0 at*
     have HGD:=hid (fun (W:World)=>fault_good W 0 tf)
     rw[show decide ((0:Int)=0)=true from rfl] at HGD
     go_wp2_with fail
     refine (HS.out _ HI0.out.bl).mono ?_
     rintro r w1 ⟨rfl,hb1⟩
     have hbx:Below w1.heap.size w1 (w1.alloc (.cells #[.int .i64 0,.int .i64 tf] 31)):=by (repeat (first | with_reducible exact Below.refl _ _ | with_reducible assumption | (with_reducible refine below_alloc ?_ _) | (with_reducible refine Below.setCell ?_ (by first | omega | (simp;done) | (simp;omega)) _) | (with_reducible refine Below.drew ?_) | (with_reducible refine below_drewN ?_ _) | (refine below_then (by with_reducible assumption) ?_)))
     have HI:=hid ((HI0.out.later hb1).later hbx)
     have HX:Hid (Blk (w1.alloc (.cells #[.int .i64 0,.int .i64 tf] 31)) w1.heap.size 31 #[.int .i64 0,.int .i64 tf]):=hid (Blk.new _ _ _)
     have hgx:w.heap.size+1<w1.heap.size:=Nat.lt_of_lt_of_le hz0 hb1.size
     clear hb1 hbx HI0 HS
     obtain⟨x0,x1,x2,x3,lx⟩:=f_blk HX.out
     go_upto_region 2 with (fail)
     generalize (w1.alloc (.cells #[.int .i64 0,.int .i64 tf] 31))=w2 at*
     generalize w1.heap.size=gx at*
     go_wp2_with fail
     refine (HGD.out _).mono ?_
     rintro r w3 ⟨rfl,hb3⟩
     have HI3:=hid (HI.out.later hb3)
     have HX3:=hid (HX.out.later hb3)
     clear x0 x1 x2 x3 lx HX HI HGD hb3
     obtain⟨x0,x1,x2,x3,lx⟩:=f_blk HX3.out
     go_wp2_with fail
     refine (HTS.out _).mono ?_
     rintro r w3' ⟨rfl,rfl⟩
     go_wp2_with fail
     refine (HFG.out _ HI3.out.bl).mono ?_
     rintro r w4 ⟨v4,rfl,hr4,hb4⟩
     obtain⟨a4,c4,hv4,hr4',_⟩:=sl_form hr4
     simp only[List.cons.injEq,and_true] at hv4
     subst hv4
     have HI4:=hid (HI3.out.later hb4)
     have HX4:=hid (HX3.out.later hb4)
     have hz4:=HX3.out.lt
     have HP4:=hid hr4'
     clear x0 x1 x2 x3 lx HX3 HI3 HFG hb4 hr4 hr4'
     obtain⟨x0,x1,x2,x3,lx⟩:=f_blk HX4.out
     go_upto_region 7 with (fail)
     refine wp_world (fun W=>FfI w W∧Blk W gx 31 #[.int .i64 0,.int .i64 0]∧rBytes.r (·<W.heap.size) W [.slice a4 P.length c4] P) ⟨HI4.out.lo (lo:=gx) (by (repeat (first | with_reducible exact Below.refl _ _ | with_reducible assumption | (with_reducible refine below_alloc ?_ _) | (with_reducible refine Below.setCell ?_ (by first | omega | (simp;done) | (simp;omega)) _) | (with_reducible refine Below.drew ?_) | (with_reducible refine below_drewN ?_ _) | (refine below_then (by with_reducible assumption) ?_)))) hgx,(HX4.out.set 0 _).set 1 _,rBytes.mono (rBytes.keep HP4.out fun q hq=>by repeat (rw[Below.heap_setCell _ _ _ _ (by dsimp only;omega)])) fun q hq=>by simp[World.setCell];exact hq.2⟩ ?_
     intro w5 ⟨hI5,hX5,hP5⟩
     have HI5:=hid hI5
     have HX5:=hid hX5
     have HP5:=hid hP5
     clear hI5 hX5 hP5 x0 x1 x2 x3 lx HX4 HI4 HP4 hz4
     obtain⟨x0,x1,x2,x3,lx⟩:=f_blk HX5.out
     have HGE:=hid (fun (W:World)=>fault_good W 0 0)
     rw[show decide ((0:Int)=0)=true from rfl] at HGE
     go_wp2_with fail
     refine (HGE.out _).mono ?_
     rintro r w6 ⟨rfl,hb6⟩
     have HI:=hid (HI5.out.later hb6)
     have HX:=hid (HX5.out.later hb6)
     have HPB:=hid (lift HP5.out hb6)
     clear x0 x1 x2 x3 lx HX5 HI5 HP5 HGE hb6
     obtain⟨x0,x1,x2,x3,lx⟩:=f_blk HX.out
     go_wp2_with fail
     refine (HRP.out _ a4 _ c4 HPB.out).mono ?_
     rintro r w7 ⟨rfl,hb7⟩
     have HI7:=hid (HI.out.later hb7)
     have HX7:=hid (HX.out.later hb7)
     clear x0 x1 x2 x3 lx HX HI HRP HPB hb7
     obtain⟨x0,x1,x2,x3,lx⟩:=f_blk HX7.out
     have hz7:=HX7.out.lt
     go_upto_region 12 with (fail)
     refine wp_world (fun W=>FfI w W∧Blk W gx 31 #[.int .i64 0,.int .i64 ff]∧Blk W w7.heap.size 152 #[.int .u64 ep,.int .i64 fn,.int .i64 en,.int .u64 fi,.int .u64 fe,.int .i64 fa,.int .i64 fs]) ⟨HI7.out.lo (lo:=gx) (by (repeat (first | with_reducible exact Below.refl _ _ | with_reducible assumption | (with_reducible refine Below.setCell ?_ (by first | omega | (simp;done) | (simp;omega)) _) | (refine Below.alloc ?_ (by first | omega | (simp[World.setCell];omega)) _)))) hgx,((HX7.out.set 0 _).set 1 _).alloc _,Blk.newAt _ _ _ (by simp[World.setCell])⟩ ?_
     intro w8 ⟨hI8,hX8,hP8⟩
     have HI8:=hid hI8
     have HX8:=hid hX8
     have HP8:=hid hP8
     clear hI8 hX8 hP8 x0 x1 x2 x3 lx HX7 HI7
     generalize w7.heap.size=gp at*
     obtain⟨x0,x1,x2,x3,lx⟩:=f_blk HX8.out
     have HGE:=hid (fun (W:World)=>fault_good W 0 ff)
     rw[show decide ((0:Int)=0)=true from rfl] at HGE
     go_wp2_with fail
     refine (HGE.out _).mono ?_
     rintro r w9 ⟨rfl,hb9⟩
     have HI:=hid (HI8.out.later hb9)
     have HX:=hid (HX8.out.later hb9)
     have HP:=hid (HP8.out.later hb9)
     clear x0 x1 x2 x3 lx HX8 HI8 HP8 HGE hb9
     obtain⟨x0,x1,x2,x3,lx⟩:=f_blk HX.out
     clear x0 x1 x2 x3 lx
     obtain⟨m0,m1,m2,m3,m4,m5,m6,lm⟩:=f7_blk HI.out.rb
     obtain⟨z0,z1,z2,z3,z4,z5,z6⟩:=f7_free HI.out.rb
     obtain⟨q0,q1,q2,q3,lq⟩:=f_blk HI.out.fb
     obtain⟨y0,y1,y2,y3,y4,y5,y6,ly⟩:=f7_blk HP.out
     have hbl:=HI.out.bl
     clear HP HX
     go_wp2_with fail
     refine bodyPost_ret (v:=.tuple #[.agg #[.int .u64 ep,.int .i64 fn,.int .i64 en,.int .u64 fi,.int .u64 fe,.int .i64 fa,.int .i64 fs],.int .i64 ((B.length:Int)-12-(tn:Int)),.agg #[.int .i64 0,.int .i64 0]]) (by simp[results,Tryz.results229,go_sem,m0,m1,m2,m3,m4,m5,m6,q0,q1,lm,lq]) rfl ⟨by rw[HRES.out];dsimp only[FootD.val];rw[HPE.out],by (repeat (first | with_reducible exact Below.refl _ _ | with_reducible assumption | (with_reducible refine below_alloc ?_ _) | (with_reducible refine Below.setCell ?_ (by first | omega | (simp;done) | (simp;omega)) _) | (with_reducible refine Below.drew ?_) | (with_reducible refine below_drewN ?_ _) | (refine below_then (by with_reducible assumption) ?_)))⟩
    ·rw[if_neg hfk] at hRES
     have HFS:=hid (fun (W:World)=>fault_shift W fk ff ((B.length:Int)-12-(tn:Int)+(s1.p:Int)-4-(P.length:Int)) hfk (by omega) (by omega))
     rw[show ff+((p:Int)+(s1.p:Int)-4-(P.length:Int))=ff+((B.length:Int)-12-(tn:Int)+(s1.p:Int)-4-(P.length:Int)) by omega] at hRES
     have HRES:=hid hRES
     clear hRES hlt hin
     have dfk:decide (fk=0)=false:=decide_eq_false hfk
     clear hfk
     obtain⟨ep,fn,en,fi,fe,fa,fs⟩:=f
     dsimp only[FootD.val] at*
     have hbb:(0:Int)≤(B.length:Int)-12-(tn:Int):=by omega
     have hDb:D.length≤1000000000:=by omega
     (try clear hpe)
     clear he hp hDl h12 htn
     go_enter Tryz.func229,Tryz.ntmps229
     go_upto_region 1 with (fail)
     generalize ((w.alloc (.cells #[.int .u64 0,.int .i64 0,.int .i64 0,.int .u64 0,.int .u64 0,.int .i64 0,.int .i64 0] 152)).alloc (.cells #[.int .i64 0,.int .i64 0] 31))=w0 at*
     have HGD:=hid (fun (W:World)=>fault_good W 0 tf)
     rw[show decide ((0:Int)=0)=true from rfl] at HGD
     go_wp2_with fail
     refine (HS.out _ HI0.out.bl).mono ?_
     rintro r w1 ⟨rfl,hb1⟩
     have hbx:Below w1.heap.size w1 (w1.alloc (.cells #[.int .i64 0,.int .i64 tf] 31)):=by (repeat (first | with_reducible exact Below.refl _ _ | with_reducible assumption | (with_reducible refine below_alloc ?_ _) | (with_reducible refine Below.setCell ?_ (by first | omega | (simp;done) | (simp;omega)) _) | (with_reducible refine Below.drew ?_) | (with_reducible refine below_drewN ?_ _) | (refine below_then (by with_reducible assumption) ?_)))
     have HI:=hid ((HI0.out.later hb1).later hbx)
     have HX:Hid (Blk (w1.alloc (.cells #[.int .i64 0,.int .i64 tf] 31)) w1.heap.size 31 #[.int .i64 0,.int .i64 tf]):=hid (Blk.new _ _ _)
     have hgx:w.heap.size+1<w1.heap.size:=Nat.lt_of_lt_of_le hz0 hb1.size
     clear hb1 hbx HI0 HS
     obtain⟨x0,x1,x2,x3,lx⟩:=f_blk HX.out
     go_upto_region 2 with (fail)
     generalize (w1.alloc (.cells #[.int .i64 0,.int .i64 tf] 31))=w2 at*
     generalize w1.heap.size=gx at*
     go_wp2_with fail
     refine (HGD.out _).mono ?_
     rintro r w3 ⟨rfl,hb3⟩
     have HI3:=hid (HI.out.later hb3)
     have HX3:=hid (HX.out.later hb3)
     clear x0 x1 x2 x3 lx HX HI HGD hb3
     obtain⟨x0,x1,x2,x3,lx⟩:=f_blk HX3.out
     go_wp2_with fail
     refine (HTS.out _).mono ?_
     rintro r w3' ⟨rfl,rfl⟩
     go_wp2_with fail
     refine (HFG.out _ HI3.out.bl).mono ?_
     rintro r w4 ⟨v4,rfl,hr4,hb4⟩
     obtain⟨a4,c4,hv4,hr4',_⟩:=sl_form hr4
     simp only[List.cons.injEq,and_true] at hv4
     subst hv4
     have HI4:=hid (HI3.out.later hb4)
     have HX4:=hid (HX3.out.later hb4)
     have hz4:=HX3.out.lt
     have HP4:=hid hr4'
     clear x0 x1 x2 x3 lx HX3 HI3 HFG hb4 hr4 hr4'
     obtain⟨x0,x1,x2,x3,lx⟩:=f_blk HX4.out
     go_upto_region 7 with (fail)
     refine wp_world (fun W=>FfI w W∧Blk W gx 31 #[.int .i64 0,.int .i64 0]∧rBytes.r (·<W.heap.size) W [.slice a4 P.length c4] P) ⟨HI4.out.lo (lo:=gx) (by (repeat (first | with_reducible exact Below.refl _ _ | with_reducible assumption | (with_reducible refine below_alloc ?_ _) | (with_reducible refine Below.setCell ?_ (by first | omega | (simp;done) | (simp;omega)) _) | (with_reducible refine Below.drew ?_) | (with_reducible refine below_drewN ?_ _) | (refine below_then (by with_reducible assumption) ?_)))) hgx,(HX4.out.set 0 _).set 1 _,rBytes.mono (rBytes.keep HP4.out fun q hq=>by repeat (rw[Below.heap_setCell _ _ _ _ (by dsimp only;omega)])) fun q hq=>by simp[World.setCell];exact hq.2⟩ ?_
     intro w5 ⟨hI5,hX5,hP5⟩
     have HI5:=hid hI5
     have HX5:=hid hX5
     have HP5:=hid hP5
     clear hI5 hX5 hP5 x0 x1 x2 x3 lx HX4 HI4 HP4 hz4
     obtain⟨x0,x1,x2,x3,lx⟩:=f_blk HX5.out
     have HGE:=hid (fun (W:World)=>fault_good W 0 0)
     rw[show decide ((0:Int)=0)=true from rfl] at HGE
     go_wp2_with fail
     refine (HGE.out _).mono ?_
     rintro r w6 ⟨rfl,hb6⟩
     have HI:=hid (HI5.out.later hb6)
     have HX:=hid (HX5.out.later hb6)
     have HPB:=hid (lift HP5.out hb6)
     clear x0 x1 x2 x3 lx HX5 HI5 HP5 HGE hb6
     obtain⟨x0,x1,x2,x3,lx⟩:=f_blk HX.out
     go_wp2_with fail
     refine (HRP.out _ a4 _ c4 HPB.out).mono ?_
     rintro r w7 ⟨rfl,hb7⟩
     have HI7:=hid (HI.out.later hb7)
     have HX7:=hid (HX.out.later hb7)
     clear x0 x1 x2 x3 lx HX HI HRP HPB hb7
     obtain⟨x0,x1,x2,x3,lx⟩:=f_blk HX7.out
     have hz7:=HX7.out.lt
     go_upto_region 12 with (fail)
     refine wp_world (fun W=>FfI w W∧Blk W gx 31 #[.int .i64 fk,.int .i64 ff]∧Blk W w7.heap.size 152 #[.int .u64 ep,.int .i64 fn,.int .i64 en,.int .u64 fi,.int .u64 fe,.int .i64 fa,.int .i64 fs]) ⟨HI7.out.lo (lo:=gx) (by (repeat (first | with_reducible exact Below.refl _ _ | with_reducible assumption | (with_reducible refine Below.setCell ?_ (by first | omega | (simp;done) | (simp;omega)) _) | (refine Below.alloc ?_ (by first | omega | (simp[World.setCell];omega)) _)))) hgx,((HX7.out.set 0 _).set 1 _).alloc _,Blk.newAt _ _ _ (by simp[World.setCell])⟩ ?_
     intro w8 ⟨hI8,hX8,hP8⟩
     have HI8:=hid hI8
     have HX8:=hid hX8
     have HP8:=hid hP8
     clear hI8 hX8 hP8 x0 x1 x2 x3 lx HX7 HI7
     generalize w7.heap.size=gp at*
     obtain⟨x0,x1,x2,x3,lx⟩:=f_blk HX8.out
     have HGE:=hid (fun (W:World)=>fault_good W fk ff)
     rw[dfk] at HGE
     go_wp2_with fail
     refine (HGE.out _).mono ?_
     rintro r w9 ⟨rfl,hb9⟩
     have HI:=hid (HI8.out.later hb9)
     have HX:=hid (HX8.out.later hb9)
     have HP:=hid (HP8.out.later hb9)
     clear x0 x1 x2 x3 lx HX8 HI8 HP8 HGE hb9
     obtain⟨x0,x1,x2,x3,lx⟩:=f_blk HX.out
     go_wp2_with fail
     refine (HFS.out _).mono ?_
     rintro r w9 ⟨rfl,hb9⟩
     have I9:=HI.out.later hb9
     obtain⟨m0,m1,m2,m3,m4,m5,m6,lm⟩:=f7_blk I9.rb
     obtain⟨z0,z1,z2,z3,z4,z5,z6⟩:=f7_free I9.rb
     obtain⟨q0,q1,q2,q3,lq⟩:=f_blk I9.fb
     have hbl:=I9.bl
     clear I9 hb9 x0 x1 x2 x3 lx
     go_wp2_with fail
     all_goals refine bodyPost_ret (v:=.tuple #[.agg #[.int .u64 0,.int .i64 0,.int .i64 0,.int .u64 0,.int .u64 0,.int .i64 0,.int .i64 0],.int .i64 0,.agg #[.int .i64 (fk),.int .i64 (ff+((B.length:Int)-12-(tn:Int)+(s1.p:Int)-4-(P.length:Int)))]]) (by simp[results,Tryz.results229,go_sem,m0,m1,m2,m3,m4,m5,m6,q0,q1,lm,lq]) rfl ⟨by rw[HRES.out];rfl,by (repeat (first | with_reducible exact Below.refl _ _ | with_reducible assumption | (with_reducible refine below_alloc ?_ _) | (with_reducible refine Below.setCell ?_ (by first | omega | (simp;done) | (simp;omega)) _) | (with_reducible refine Below.drew ?_) | (with_reducible refine below_drewN ?_ _) | (refine below_then (by with_reducible assumption) ?_)))⟩
  ·rw[if_neg hk1] at hRES HFG
   have HFS:=hid (fun (W:World)=>fault_shift W s1.k s1.f ((B.length:Int)-12-(tn:Int)) hk1 (by omega) (by omega))
   rw[show s1.f+(p:Int)=s1.f+((B.length:Int)-12-(tn:Int)) by omega] at hRES
   have dk1:decide (s1.k=0)=false:=decide_eq_false hk1
   have HRES:=hid hRES
   clear hfc hfit htk hl hsub hk1 hRES
   dsimp only at HFG
   have hbb:(0:Int)≤(B.length:Int)-12-(tn:Int):=by omega
   have hDb:D.length≤1000000000:=by omega
   (try clear hpe)
   clear he hp hDl h12 htn
   go_enter Tryz.func229,Tryz.ntmps229
   go_upto_region 1 with (fail)
   generalize ((w.alloc (.cells #[.int .u64 0,.int .i64 0,.int .i64 0,.int .u64 0,.int .u64 0,.int .i64 0,.int .i64 0] 152)).alloc (.cells #[.int .i64 0,.int .i64 0] 31))=w0 at*
   have HGD:=hid (fun (W:World)=>fault_good W 0 tf)
   rw[show decide ((0:Int)=0)=true from rfl] at HGD
   go_wp2_with fail
   refine (HS.out _ HI0.out.bl).mono ?_
   rintro r w1 ⟨rfl,hb1⟩
   have hbx:Below w1.heap.size w1 (w1.alloc (.cells #[.int .i64 0,.int .i64 tf] 31)):=by (repeat (first | with_reducible exact Below.refl _ _ | with_reducible assumption | (with_reducible refine below_alloc ?_ _) | (with_reducible refine Below.setCell ?_ (by first | omega | (simp;done) | (simp;omega)) _) | (with_reducible refine Below.drew ?_) | (with_reducible refine below_drewN ?_ _) | (refine below_then (by with_reducible assumption) ?_)))
   have HI:=hid ((HI0.out.later hb1).later hbx)
   have HX:Hid (Blk (w1.alloc (.cells #[.int .i64 0,.int .i64 tf] 31)) w1.heap.size 31 #[.int .i64 0,.int .i64 tf]):=hid (Blk.new _ _ _)
   have hgx:w.heap.size+1<w1.heap.size:=Nat.lt_of_lt_of_le hz0 hb1.size
   clear hb1 hbx HI0 HS
   obtain⟨x0,x1,x2,x3,lx⟩:=f_blk HX.out
   go_upto_region 2 with (fail)
   generalize (w1.alloc (.cells #[.int .i64 0,.int .i64 tf] 31))=w2 at*
   generalize w1.heap.size=gx at*
   go_wp2_with fail
   refine (HGD.out _).mono ?_
   rintro r w3 ⟨rfl,hb3⟩
   have HI3:=hid (HI.out.later hb3)
   have HX3:=hid (HX.out.later hb3)
   clear x0 x1 x2 x3 lx HX HI HGD hb3
   obtain⟨x0,x1,x2,x3,lx⟩:=f_blk HX3.out
   go_wp2_with fail
   refine (HTS.out _).mono ?_
   rintro r w3' ⟨rfl,rfl⟩
   go_wp2_with fail
   refine (HFG.out _ HI3.out.bl).mono ?_
   rintro r w4 ⟨v4,rfl,hr4,hb4⟩
   obtain⟨a4,c4,hv4,hr4',_⟩:=sl_form hr4
   simp only[List.cons.injEq,and_true] at hv4
   subst hv4
   have HI4:=hid (HI3.out.later hb4)
   have HX4:=hid (HX3.out.later hb4)
   have hz4:=HX3.out.lt
   have HP4:=hid hr4'
   clear x0 x1 x2 x3 lx HX3 HI3 HFG hb4 hr4 hr4'
   obtain⟨x0,x1,x2,x3,lx⟩:=f_blk HX4.out
   go_upto_region 7 with (fail)
   refine wp_world (fun W=>FfI w W∧Blk W gx 31 #[.int .i64 s1.k,.int .i64 s1.f]∧rBytes.r (·<W.heap.size) W [.slice a4 [].length c4] []) ⟨HI4.out.lo (lo:=gx) (by (repeat (first | with_reducible exact Below.refl _ _ | with_reducible assumption | (with_reducible refine below_alloc ?_ _) | (with_reducible refine Below.setCell ?_ (by first | omega | (simp;done) | (simp;omega)) _) | (with_reducible refine Below.drew ?_) | (with_reducible refine below_drewN ?_ _) | (refine below_then (by with_reducible assumption) ?_)))) hgx,(HX4.out.set 0 _).set 1 _,rBytes.mono (rBytes.keep HP4.out fun q hq=>by repeat (rw[Below.heap_setCell _ _ _ _ (by dsimp only;omega)])) fun q hq=>by simp[World.setCell];exact hq.2⟩ ?_
   intro w5 ⟨hI5,hX5,hP5⟩
   have HI5:=hid hI5
   have HX5:=hid hX5
   have HP5:=hid hP5
   clear hI5 hX5 hP5 x0 x1 x2 x3 lx HX4 HI4 HP4 hz4
   obtain⟨x0,x1,x2,x3,lx⟩:=f_blk HX5.out
   have HGE:=hid (fun (W:World)=>fault_good W s1.k s1.f)
   rw[dk1] at HGE
   go_wp2_with fail
   refine (HGE.out _).mono ?_
   rintro r w6 ⟨rfl,hb6⟩
   have HI:=hid (HI5.out.later hb6)
   have HX:=hid (HX5.out.later hb6)
   have HPB:=hid (lift HP5.out hb6)
   clear x0 x1 x2 x3 lx HX5 HI5 HP5 HGE hb6
   obtain⟨x0,x1,x2,x3,lx⟩:=f_blk HX.out
   go_wp2_with fail
   refine (HFS.out _).mono ?_
   rintro r w9 ⟨rfl,hb9⟩
   have I9:=HI.out.later hb9
   obtain⟨m0,m1,m2,m3,m4,m5,m6,lm⟩:=f7_blk I9.rb
   obtain⟨z0,z1,z2,z3,z4,z5,z6⟩:=f7_free I9.rb
   obtain⟨q0,q1,q2,q3,lq⟩:=f_blk I9.fb
   have hbl:=I9.bl
   clear I9 hb9 x0 x1 x2 x3 lx
   go_wp2_with fail
   all_goals refine bodyPost_ret (v:=.tuple #[.agg #[.int .u64 0,.int .i64 0,.int .i64 0,.int .u64 0,.int .u64 0,.int .i64 0,.int .i64 0],.int .i64 0,.agg #[.int .i64 (s1.k),.int .i64 (s1.f+((B.length:Int)-12-(tn:Int)))]]) (by simp[results,Tryz.results229,go_sem,m0,m1,m2,m3,m4,m5,m6,q0,q1,lm,lq]) rfl ⟨by rw[HRES.out];rfl,by (repeat (first | with_reducible exact Below.refl _ _ | with_reducible assumption | (with_reducible refine below_alloc ?_ _) | (with_reducible refine Below.setCell ?_ (by first | omega | (simp;done) | (simp;omega)) _) | (with_reducible refine Below.drew ?_) | (with_reducible refine below_drewN ?_ _) | (refine below_then (by with_reducible assumption) ?_)))⟩
 ·rw[if_neg hk] at hRES
  have dk:decide (tk=0)=false:=decide_eq_false hk
  have HRES:=hid hRES
  have HGD:=hid (fun (W:World)=>fault_good W tk tf)
  rw[dk] at HGD
  clear hl htk hk hRES dk
  go_enter Tryz.func229,Tryz.ntmps229
  go_upto_region 1 with (fail)
  generalize ((w.alloc (.cells #[.int .u64 0,.int .i64 0,.int .i64 0,.int .u64 0,.int .u64 0,.int .i64 0,.int .i64 0] 152)).alloc (.cells #[.int .i64 0,.int .i64 0] 31))=w0 at*
  go_wp2_with fail
  refine (HS.out _ HI0.out.bl).mono ?_
  rintro r w1 ⟨rfl,hb1⟩
  have hbx:Below w1.heap.size w1 (w1.alloc (.cells #[.int .i64 tk,.int .i64 tf] 31)):=by (repeat (first | with_reducible exact Below.refl _ _ | with_reducible assumption | (with_reducible refine below_alloc ?_ _) | (with_reducible refine Below.setCell ?_ (by first | omega | (simp;done) | (simp;omega)) _) | (with_reducible refine Below.drew ?_) | (with_reducible refine below_drewN ?_ _) | (refine below_then (by with_reducible assumption) ?_)))
  have HI:=hid ((HI0.out.later hb1).later hbx)
  have HX:Hid (Blk (w1.alloc (.cells #[.int .i64 tk,.int .i64 tf] 31)) w1.heap.size 31 #[.int .i64 tk,.int .i64 tf]):=hid (Blk.new _ _ _)
  have hgx:w.heap.size+1<w1.heap.size:=Nat.lt_of_lt_of_le hz0 hb1.size
  clear hb1 hbx HI0 HS
  obtain⟨x0,x1,x2,x3,lx⟩:=f_blk HX.out
  go_upto_region 2 with (fail)
  generalize (w1.alloc (.cells #[.int .i64 tk,.int .i64 tf] 31))=w2 at*
  generalize w1.heap.size=gx at*
  go_wp2_with fail
  refine (HGD.out _).mono ?_
  rintro r w3 ⟨rfl,hb3⟩
  have I3:=HI.out.later hb3
  have X3:=HX.out.later hb3
  clear x0 x1 x2 x3 lx HX HI HGD
  obtain⟨m0,m1,m2,m3,m4,m5,m6,lm⟩:=f7_blk I3.rb
  obtain⟨z0,z1,z2,z3,z4,z5,z6⟩:=f7_free I3.rb
  obtain⟨q0,q1,q2,q3,lq⟩:=f_blk I3.fb
  obtain⟨x0,x1,x2,x3,lx⟩:=f_blk X3
  have hbl:=I3.bl
  clear I3 X3 hb3
  go_wp2_with fail
  go_region
  all_goals go_wp2
  all_goals refine bodyPost_ret (v:=.tuple #[.agg #[.int .u64 0,.int .i64 0,.int .i64 0,.int .u64 0,.int .u64 0,.int .i64 0,.int .i64 0],.int .i64 0,.agg #[.int .i64 tk,.int .i64 tf]]) (by simp[results,Tryz.results229,go_sem,m0,m1,m2,m3,m4,m5,m6,q0,q1,lm,lq]) rfl ⟨by rw[HRES.out];rfl,by (repeat (first | with_reducible exact Below.refl _ _ | with_reducible assumption | (with_reducible refine below_alloc ?_ _) | (with_reducible refine Below.setCell ?_ (by first | omega | (simp;done) | (simp;omega)) _) | (with_reducible refine Below.drew ?_) | (with_reducible refine below_drewN ?_ _) | (refine below_then (by with_reducible assumption) ?_)))⟩
end Go.Proofs.YtmioakocnebceaaGreat
